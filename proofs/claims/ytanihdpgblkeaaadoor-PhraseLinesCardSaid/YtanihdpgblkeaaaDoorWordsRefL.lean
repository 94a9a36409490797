/-
  Lines and words (the reference of reeve's layer 6): the walks of Lines and Words.
-/
import Derived.Test.YtanihdpgblkeaaaDoorWordsRef
namespace Go.Proofs.YtanihdpgblkeaaaDoor
open Go.RowKit
set_option linter.unusedVariables false
set_option linter.unusedSimpArgs false

theorem map_snoc (l : List (List UInt8)) (x : List UInt8) : l.map strL ++ [strL x] = (l ++ [x]).map strL := by simp
set_option maxRecDepth 100000 in
set_option maxHeartbeats 3200000 in
theorem ref06_words (s : ByteArray) (hs : s.size ≤ 100000) (w : World) :
    Calls Tryd.prog 42 #[.string s] w fun e w' => ∃ v, e = .returned v ∧ OwnS w.heap.size w' v ((wordsL s.data.toList).map strL) ∧ Below w.heap.size w w' := by
  obtain ⟨i0, hi, hz, hsize, hby⟩ : ∃ i, Tryd.prog.info? 9 = some i ∧ i.zero = some (.string ⟨#[]⟩) ∧ i.size = 1 ∧ i.bytes = 16 := ⟨_, rfl, rfl, rfl, rfl⟩
  have HI := Lib.hid hi
  clear hi
  have hs63 : s.size ≤ 9223372036854775807 := by omega
  have hzl : s.data.toList.length = s.size := (Lib.size_eq s).symm
  obtain ⟨RL, hRL⟩ : ∃ r, wordsL s.data.toList = r := ⟨_, rfl⟩
  rw [hRL]
  have HRL : Hid ([] ++ refW [] (s.data.toList.drop 0) = RL) := Lib.hid hRL
  clear hRL
  go_enter Tryd.func42, Tryd.ntmps42
  go_wp2_with fail
  go_loopg [3, 4, 5] s.size (fun g v ln at_ wr => ∃ (k : Nat) (l : List (List UInt8)) (line : List UInt8), k ≤ s.size ∧ g = s.size - k ∧ at_ = .int .i64 k ∧ ln = .string (strL line) ∧ l.length ≤ k ∧ line.length ≤ k ∧ OwnS w.heap.size wr v (l.map strL) ∧ Below w.heap.size w wr ∧ Hid (l ++ refW line (s.data.toList.drop k) = RL))
  case atStart => exact ⟨0, [], [], by omega, rfl, rfl, rfl, by simp, by simp, OwnS.nil _ _, Below.refl _ _, HRL⟩
  case round =>
    obtain ⟨k, l, line, hk, hg, rfl, rfl, hl, hln, hown, hbl, HA⟩ := hrel
    have hg := hg.symm
    subst hg
    have HO := Lib.hid hown
    have HB := Lib.hid hbl
    clear hown hbl HRL
    obtain ⟨LN, hLN⟩ : ∃ LN, strL line = LN := ⟨_, rfl⟩
    have hLz : LN.size = line.length := by rw [← hLN, strL_size]
    have hLe : LN.toList.isEmpty = decide (line = []) := by
      rw [← hLN, ByteArray.toList_eq]
      show line.isEmpty = _
      cases line <;> simp
    rw [hLN]
    have HLN := Lib.hid hLN
    clear hLN
    have hstop : k = s.size ∨ (∃ h : k < s.size, s[k]'h = 35) → Hid (l ++ (if line = [] then [] else [line]) = RL) := by
      intro h
      refine Lib.hid ?_
      rcases h with h | ⟨h, hc⟩
      · rw [← HA.out, List.drop_eq_nil_of_le (by omega)]; rfl
      · rw [← HA.out, drop_at (byte_at s k h), hc]; simp [refW]
    have HST := Lib.hid hstop
    clear hstop
    by_cases hend : k = s.size ∨ (∃ h : k < s.size, s[k]'h = 35)
    · have HA2 := HST.out hend
      clear HA HST
      by_cases hle : line = []
      · have he : LN.toList.isEmpty = true := by rw [hLe]; simp [hle]
        have HF : Hid (l = RL) := Lib.hid (by rw [← HA2.out, if_pos hle]; simp)
        clear hLe
        rcases hend with rfl | ⟨hlt, hc⟩
        · go_wp2_with fail
          go_ret
          rw [← HF.out]
          exact ⟨_, rfl, HO.out, HB.out⟩
        · have hby2 : (((s[k]'hlt).toNat : Nat) : Int) = 35 := by rw [hc]; rfl
          have hlI : (k : Int) < (s.size : Int) := by omega
          have hk0 : (0 : Int) ≤ (k : Int) := by omega
          go_wp2_with fail
          go_ret
          rw [← HF.out]
          exact ⟨_, rfl, HO.out, HB.out⟩
      · have he : LN.toList.isEmpty = false := by rw [hLe]; simp [hle]
        have HF : Hid (l ++ [line] = RL) := Lib.hid (by rw [← HA2.out, if_neg hle])
        clear hLe
        rcases hend with rfl | ⟨hlt, hc⟩
        · go_wp2_with (at_builtin; refine wpList_append_own _ rfl _ _ 44 rfl w.heap.size 9 i0 (.string ⟨#[]⟩) 1 16 Tryd.underlying44 HI.out hz hsize hby rfl (by decide) _ (l.map strL).length ((l.map strL).map Value.string) rfl (HO.out.below ((Below.refl _ _).alloc (Nat.le_refl _) _) (Nat.le_refl _)) ⟨_, 0, none⟩ 1 1 [.string LN] rfl rfl (cell_one_new _ _ _) (by intro u hu; simp at hu; subst hu; rfl) (by unfold maxLen; simp; omega) (by simp; omega) (by have := HB.out.size; simp; omega) ?_)
          intro v' w4 hown2 hgrow _
          have HO2 := Lib.hid (ownS_mkL (by exact hown2))
          rw [← HLN.out] at HO2
          have HB2 := Lib.hid (OwnS.gby (HO.out.below ((Below.refl _ _).alloc (Nat.le_refl _) _) (Nat.le_refl _)) (HB.out.alloc HB.out.size _) (by have := HB.out.size; simp; omega) hgrow)
          clear hown2 hgrow
          go_wp2_with fail
          go_ret
          rw [← HF.out]
          exact ⟨_, rfl, by rw [← map_snoc]; exact HO2.out, HB2.out⟩
        · have hby2 : (((s[k]'hlt).toNat : Nat) : Int) = 35 := by rw [hc]; rfl
          have hlI : (k : Int) < (s.size : Int) := by omega
          have hk0 : (0 : Int) ≤ (k : Int) := by omega
          go_wp2_with (at_builtin; refine wpList_append_own _ rfl _ _ 44 rfl w.heap.size 9 i0 (.string ⟨#[]⟩) 1 16 Tryd.underlying44 HI.out hz hsize hby rfl (by decide) _ (l.map strL).length ((l.map strL).map Value.string) rfl (HO.out.below ((Below.refl _ _).alloc (Nat.le_refl _) _) (Nat.le_refl _)) ⟨_, 0, none⟩ 1 1 [.string LN] rfl rfl (cell_one_new _ _ _) (by intro u hu; simp at hu; subst hu; rfl) (by unfold maxLen; simp; omega) (by simp; omega) (by have := HB.out.size; simp; omega) ?_)
          intro v' w4 hown2 hgrow _
          have HO2 := Lib.hid (ownS_mkL (by exact hown2))
          rw [← HLN.out] at HO2
          have HB2 := Lib.hid (OwnS.gby (HO.out.below ((Below.refl _ _).alloc (Nat.le_refl _) _) (Nat.le_refl _)) (HB.out.alloc HB.out.size _) (by have := HB.out.size; simp; omega) hgrow)
          clear hown2 hgrow
          go_wp2_with fail
          go_ret
          rw [← HF.out]
          exact ⟨_, rfl, by rw [← map_snoc]; exact HO2.out, HB2.out⟩
    · have hlt : k < s.size := by
        by_cases h : k = s.size
        · exact absurd (.inl h) hend
        · omega
      obtain ⟨c, hc⟩ : ∃ c, s[k]'hlt = c := ⟨_, rfl⟩
      have h35 : c ≠ 35 := by
        intro e; apply hend; exact .inr ⟨hlt, by rw [hc, e]⟩
      have hget : s.data.toList[k]? = some c := by rw [byte_at s k hlt, hc]
      have hby2 : (((s[k]'hlt).toNat : Nat) : Int) = (c.toNat : Int) := by rw [hc]
      have hlI : (k : Int) < (s.size : Int) := by omega
      have hk0 : (0 : Int) ≤ (k : Int) := by omega
      have g1 : (c == 35) = false := beq_eq_false_iff_ne.2 h35
      have g3 : ((c.toNat : Int) == 35) = false := by
        rw [beq_eq_false_iff_ne]; intro e; apply h35; rw [← UInt8.toNat_inj]; show c.toNat = 35; omega
      have hstep : l ++ (if isB c = true then (if line = [] then refW [] (s.data.toList.drop (k + 1)) else line :: refW [] (s.data.toList.drop (k + 1))) else refW (line ++ [c]) (s.data.toList.drop (k + 1))) = RL := by
        rw [← HA.out, drop_at hget]
        conv => rhs; unfold refW
        rw [if_neg h35]
      have HSTEP := Lib.hid hstep
      clear hend HST HA hstep hc
      by_cases hb : isB c = true
      · have hcc : c = 32 ∨ c = 9 := by unfold isB at hb; simpa using hb
        by_cases hle : line = []
        · have he : LN.toList.isEmpty = true := by rw [hLe]; simp [hle]
          have HA2 : Hid (l ++ refW [] (s.data.toList.drop (k + 1)) = RL) := Lib.hid (by rw [← HSTEP.out, if_pos hb, if_pos hle])
          clear hLe hget hb HSTEP
          rcases hcc with rfl | rfl
          all_goals (
            go_wp2_with fail
            go_roundg (s.size - (k + 1))
            case measure => omega
            case rel => exact ⟨k + 1, l, [], by omega, rfl, by go_num, rfl, by omega, by simp, HO.out, HB.out, HA2⟩)
        · have he : LN.toList.isEmpty = false := by rw [hLe]; simp [hle]
          have HA2 : Hid ((l ++ [line]) ++ refW [] (s.data.toList.drop (k + 1)) = RL) := Lib.hid (by rw [← HSTEP.out, if_pos hb, if_neg hle]; simp)
          clear hLe hget hb HSTEP
          rcases hcc with rfl | rfl
          all_goals (
            go_wp2_with (at_builtin; refine wpList_append_own _ rfl _ _ 44 rfl w.heap.size 9 i0 (.string ⟨#[]⟩) 1 16 Tryd.underlying44 HI.out hz hsize hby rfl (by decide) _ (l.map strL).length ((l.map strL).map Value.string) rfl (HO.out.below ((Below.refl _ _).alloc (Nat.le_refl _) _) (Nat.le_refl _)) ⟨_, 0, none⟩ 1 1 [.string LN] rfl rfl (cell_one_new _ _ _) (by intro u hu; simp at hu; subst hu; rfl) (by unfold maxLen; simp; omega) (by simp; omega) (by have := HB.out.size; simp; omega) ?_)
            intro v' w4 hown2 hgrow _
            have HO2 := Lib.hid (ownS_mkL (by exact hown2))
            rw [← HLN.out] at HO2
            have HB2 := Lib.hid (OwnS.gby (HO.out.below ((Below.refl _ _).alloc (Nat.le_refl _) _) (Nat.le_refl _)) (HB.out.alloc HB.out.size _) (by have := HB.out.size; simp; omega) hgrow)
            clear hown2 hgrow
            go_wp2_with fail
            go_roundg (s.size - (k + 1))
            case measure => omega
            case rel => exact ⟨k + 1, l ++ [line], [], by omega, rfl, by go_num, rfl, by rw [List.length_append]; simp; omega, by simp, by rw [← map_snoc]; exact HO2.out, HB2.out, HA2⟩)
      · have hcc : c ≠ 32 ∧ c ≠ 9 := by unfold isB at hb; simpa using hb
        have HA2 : Hid (l ++ refW (line ++ [c]) (s.data.toList.drop (k + 1)) = RL) := Lib.hid (by rw [← HSTEP.out, if_neg hb])
        have HP : Hid (LN ++ s.extract k (k + 1) = strL (line ++ [c])) := Lib.hid (by rw [one_at s k c hget, strL_app, HLN.out])
        have f1 : (c == 32) = false := beq_eq_false_iff_ne.2 hcc.1
        have f2 : (c == 9) = false := beq_eq_false_iff_ne.2 hcc.2
        have f3 : ((c.toNat : Int) == 32) = false := by
          rw [beq_eq_false_iff_ne]; intro e; apply hcc.1; rw [← UInt8.toNat_inj]; show c.toNat = 32; omega
        have f4 : ((c.toNat : Int) == 9) = false := by
          rw [beq_eq_false_iff_ne]; intro e; apply hcc.2; rw [← UInt8.toNat_inj]; show c.toNat = 9; omega
        have hw : IntKind.i64.wrap ((k : Int) + 1) = ((k + 1 : Nat) : Int) := by rw [IntKind.wrap_i64]; omega
        obtain ⟨k1, hk1⟩ : ∃ k1, k + 1 = k1 := ⟨_, rfl⟩
        rw [hk1] at hw HP HA2
        have q1 : (k : Int) ≤ (k1 : Int) := by omega
        have q2 : (k1 : Int) ≤ (s.size : Int) := by omega
        have z1 : LN.size + (s.extract k k1).size ≤ 9223372036854775807 := by rw [ByteArray.size_extract]; omega
        have n32 : ((c.toNat : Int) != 32) = true := by rw [bne, f3]; rfl
        have n9 : ((c.toNat : Int) != 9) = true := by rw [bne, f4]; rfl
        have e32 : ¬ (c.toNat : Int) = 32 := by
          intro e; apply hcc.1; rw [← UInt8.toNat_inj]; show c.toNat = 32; omega
        have e9 : ¬ (c.toNat : Int) = 9 := by
          intro e; apply hcc.2; rw [← UInt8.toNat_inj]; show c.toNat = 9; omega
        clear hget hLz hLe hb hcc HSTEP
        go_wp2_with fail
        go_roundg (s.size - (k + 1))
        case measure => omega
        case rel => exact ⟨k1, l, line ++ [c], by omega, by rw [hk1], (by rw [← hk1]; try go_num), by rw [← HP.out], by omega, by rw [List.length_append]; simp; omega, HO.out, HB.out, HA2⟩
end Go.Proofs.YtanihdpgblkeaaaDoor
