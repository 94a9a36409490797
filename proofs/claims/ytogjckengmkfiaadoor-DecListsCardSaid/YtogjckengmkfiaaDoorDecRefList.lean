/-
  The numbers of a text (reeve's layer 5): the reference's ParseList.
-/
import Derived.Test.YtogjckengmkfiaaDoorDecJoin
import Derived.Test.YtogjckengmkfiaaDoorWordsRef
namespace Go.Proofs.YtogjckengmkfiaaDoor
open Go.RowKit
set_option linter.unusedVariables false
set_option linter.unusedSimpArgs false

/-- The pieces of a text, with what has been read of the first. -/
def refP (line : List UInt8) : List UInt8 → List (List UInt8)
  | [] => [line]
  | x :: r => if x = 44 then line :: refP [] r else refP (line ++ [x]) r
theorem refP_split (l : List UInt8) : ∀ line, refP line l = (line ++ (splitC 44 l).headD []) :: (splitC 44 l).tail := by
  induction l with
  | nil => intro line; simp [refP, splitC]
  | cons x r ih =>
    intro line
    unfold refP
    by_cases h : x = 44
    · rw [if_pos h, ih []]
      rw [show splitC 44 (x :: r) = [] :: splitC 44 r by rw [splitC, if_pos h]]
      have hne := splitC_ne 44 r
      cases hs : splitC 44 r with
      | nil => exact absurd hs hne
      | cons a b => simp
    · rw [if_neg h, ih]
      rw [show splitC 44 (x :: r) = (x :: (splitC 44 r).headD []) :: (splitC 44 r).tail by rw [splitC, if_neg h]]
      simp
theorem refP_zero (l : List UInt8) : refP [] l = splitC 44 l := by
  rw [refP_split]
  have hne := splitC_ne 44 l
  cases hs : splitC 44 l with
  | nil => exact absurd hs hne
  | cons a b => simp
def lineAt (L : List UInt8) (fr k : Nat) : List UInt8 := (L.drop fr).take (k - fr)
theorem line_ext (s : ByteArray) (fr k : Nat) : s.extract fr k = strL (lineAt s.data.toList fr k) := by
  apply ByteArray.ext
  unfold strL lineAt
  rw [ByteArray.data_extract]
  apply Array.ext'
  simp
theorem line_snoc (L : List UInt8) (fr k : Nat) (c : UInt8) (h : L[k]? = some c) (hf : fr ≤ k) : lineAt L fr (k + 1) = lineAt L fr k ++ [c] := by
  unfold lineAt
  rw [show k + 1 - fr = (k - fr) + 1 by omega]
  refine take_at ?_
  rw [List.getElem?_drop, show fr + (k - fr) = k by omega]
  exact h
theorem line_self (L : List UInt8) (k : Nat) : lineAt L k k = [] := by unfold lineAt; rw [Nat.sub_self, List.take_zero]
theorem line_le (L : List UInt8) (fr k : Nat) : (lineAt L fr k).length ≤ L.length := by
  unfold lineAt; rw [List.length_take, List.length_drop]; omega
set_option maxRecDepth 100000 in
set_option maxHeartbeats 3200000 in
theorem ref05_parseList (s : ByteArray) (many : Int) (hs : s.size ≤ 100000) (w : World) :
    Calls Tryd.prog 61 #[.string s, .int .i64 many] w fun e w' => ∃ v, e = .returned (.tuple #[v, .int .i64 (listR s.data.toList many).2]) ∧ RowN w' v (listR s.data.toList many).1 ∧ Below w.heap.size w w' := by
  obtain ⟨i0, hi, hz, hsize, hby⟩ : ∃ i, Tryd.prog.info? 3 = some i ∧ i.zero = some (.int .i64 0) ∧ i.size = 1 ∧ i.bytes = 8 := ⟨_, rfl, rfl, rfl, rfl⟩
  have HI := Lib.hid hi
  clear hi
  have hs63 : s.size ≤ 9223372036854775807 := by omega
  have hzl : s.data.toList.length = s.size := (Lib.size_eq s).symm
  obtain ⟨P, hP⟩ : ∃ P, splitC 44 s.data.toList = P := ⟨_, rfl⟩
  have HST : Hid ([] ++ refP (lineAt s.data.toList 0 0) (s.data.toList.drop 0) = P) := Lib.hid (by rw [line_self, List.drop_zero, List.nil_append, refP_zero, hP])
  have hn1 : (P.length : Int) ≠ many → listR s.data.toList many = ([], 2) := by intro h; unfold listR; rw [hP, if_pos h]
  have hn2 : allV P = none → listR s.data.toList many = ([], 2) := by
    intro h; unfold listR; rw [hP, h]; split <;> rfl
  have hn3 : ∀ ns, (P.length : Int) = many → allV P = some ns → listR s.data.toList many = (ns, 0) := by
    intro ns h h2; unfold listR; rw [hP, if_neg (by rw [h]; simp), h2]
  obtain ⟨RR, hR⟩ : ∃ RR, listR s.data.toList many = RR := ⟨_, rfl⟩
  rw [hR] at hn1 hn2 ⊢
  simp only [hR] at hn3
  obtain ⟨R1, R2⟩ := RR
  have HN1 := Lib.hid hn1
  have HN2 := Lib.hid hn2
  have HN3 := Lib.hid hn3
  clear hn1 hn2 hn3 hR hP
  go_enter Tryd.func61, Tryd.ntmps61
  go_wp2_with fail
  go_loopg [6, 7, 8] (s.size + 1) (fun g v fv i wr => ∃ (k fr : Nat) (ps : List (List UInt8)) (ns : List Int), k ≤ s.size + 1 ∧ g = s.size + 1 - k ∧ fv = .int .i64 fr ∧ i = .int .i64 k ∧ ns.length ≤ k ∧ fr ≤ k ∧ OwnN w.heap.size wr v ns ∧ Below w.heap.size w wr ∧ Hid (ps.length = ns.length) ∧ Hid (allV ps = some ns) ∧ (k ≤ s.size ∧ Hid (ps ++ refP (lineAt s.data.toList fr k) (s.data.toList.drop k) = P) ∨ k = s.size + 1 ∧ Hid (ps = P)))
  case atStart => exact ⟨0, 0, [], [], Nat.zero_le _, rfl, rfl, rfl, by simp, by omega, OwnN.nil _ _, Below.refl _ _, Lib.hid rfl, Lib.hid rfl, .inl ⟨by omega, HST⟩⟩
  case round =>
    obtain ⟨k, fr, ps, ns, hk, hg, rfl, rfl, hnl, hfr, hown, hbl, HPN, HA, hd⟩ := hrel
    have hg := hg.symm
    subst hg
    have HO := Lib.hid hown
    have HB := Lib.hid hbl
    clear hown hbl HST
    have hk0 : (0 : Int) ≤ (k : Int) := by omega
    have hf0 : (0 : Int) ≤ (fr : Int) := by omega
    have hfk : (fr : Int) ≤ (k : Int) := by omega
    rcases hd with ⟨hkn, HS⟩ | ⟨hkn, HS⟩
    · have hkI : (k : Int) ≤ (s.size : Int) := by omega
      obtain ⟨LN, hLN⟩ : ∃ LN, lineAt s.data.toList fr k = LN := ⟨_, rfl⟩
      have hLl : LN.length ≤ s.size := by rw [← hLN, ← hzl]; exact line_le _ _ _
      have hEX : s.extract fr k = strL LN := by rw [line_ext, hLN]
      have PX := Lib.hid (fun w => ref05_parse (strL LN) (by rw [strL_size]; omega) w)
      rw [strL_list] at PX
      by_cases hlt : k < s.size
      · obtain ⟨c, hc⟩ : ∃ c, s[k]'hlt = c := ⟨_, rfl⟩
        have hget : s.data.toList[k]? = some c := by rw [byte_at s k hlt, hc]
        have hby2 : (((s[k]'hlt).toNat : Nat) : Int) = (c.toNat : Int) := by rw [hc]
        have hlI : (k : Int) < (s.size : Int) := by omega
        by_cases h44 : c = 44
        · subst h44
          have HS2 : Hid ((ps ++ [LN]) ++ refP (lineAt s.data.toList (k + 1) (k + 1)) (s.data.toList.drop (k + 1)) = P) := Lib.hid (by rw [← HS.out, hLN, line_self, drop_at hget]; simp [refP])
          have HS3 : Hid (∃ r, P = ps ++ LN :: r) := Lib.hid ⟨refP [] (s.data.toList.drop (k + 1)), by rw [← HS2.out, line_self]; simp⟩
          clear hget hc HS hLN
          rcases decR_of (l := LN) with ⟨m, hm1, hm2⟩ | ⟨hm1, hm2⟩
          · rw [hm2] at PX
            have HA2 : Hid (allV (ps ++ [LN]) = some (ns ++ [m])) := Lib.hid (allV_snoc _ _ _ _ HA.out hm1)
            have HPN2 : Hid ((ps ++ [LN]).length = (ns ++ [m]).length) := Lib.hid (by rw [List.length_append, List.length_append, HPN.out]; rfl)
            obtain ⟨LS, hLS⟩ : ∃ LS, strL LN = LS := ⟨_, rfl⟩
            rw [hLS] at PX hEX
            clear hm1 hm2 HA hLl hLS HPN
            go_wp2_with fail
            try rw [hEX]
            refine (PX.out _).mono ?_
            rintro e w2 ⟨rfl, rfl⟩
            go_wp2_with (at_builtin; refine wpList_append_own _ rfl _ _ 37 rfl w.heap.size 3 i0 (.int .i64 0) 1 8 Tryd.underlying37 HI.out hz hsize hby rfl (by decide) _ ns.length (ns.map (Value.int .i64)) rfl (HO.out.below ((Below.refl _ _).alloc (Nat.le_refl _) _) (Nat.le_refl _)) ⟨_, 0, none⟩ 1 1 [.int .i64 m] rfl rfl (cell_one_new _ _ _) (by intro u hu; simp at hu; subst hu; rfl) (by unfold maxLen; omega) (by omega) (by have := HB.out.size; simp; omega) ?_)
            intro v' w4 hown2 hgrow _
            have HO3 := Lib.hid (OwnN.mk (l := ns) (b := m) hown2)
            have HB3 := Lib.hid (OwnN.gby (HO.out.below ((Below.refl _ _).alloc (Nat.le_refl _) _) (Nat.le_refl _)) (HB.out.alloc HB.out.size _) (by have := HB.out.size; simp; omega) hgrow)
            clear hown2 hgrow
            go_wp2_with fail
            go_roundg (s.size + 1 - (k + 1))
            case measure => omega
            case rel => exact ⟨k + 1, k + 1, ps ++ [LN], ns ++ [m], by omega, rfl, by go_num, by go_num, by rw [List.length_append]; simp; omega, by omega, HO3.out, HB3.out, HPN2, HA2, .inl ⟨by omega, HS2⟩⟩
          · rw [hm2] at PX
            obtain ⟨r, hr⟩ := HS3.out
            have HR := Lib.hid (HN2.out (allV_bad P ps.length LN (by rw [hr]; simp) hm1))
            obtain ⟨LS, hLS⟩ : ∃ LS, strL LN = LS := ⟨_, rfl⟩
            rw [hLS] at PX hEX
            clear hm1 hm2 HA hLl hLS hr HS2 HS3 HPN
            go_wp2_with fail
            try rw [hEX]
            refine (PX.out _).mono ?_
            rintro e w2 ⟨rfl, rfl⟩
            go_wp2_with fail
            go_ret2
            exact ⟨_, by rw [(Prod.mk.inj HR.out).2]; rfl, by rw [(Prod.mk.inj HR.out).1]; exact .inl ⟨_, _, rfl, rfl⟩, HB.out⟩
        · have g2 : (c.toNat : Int) ≠ 44 := by
            intro e; apply h44; rw [← UInt8.toNat_inj]; show c.toNat = 44; omega
          have g3 : ((c.toNat : Int) != 44) = true := by simp [g2]
          have HS2 : Hid (ps ++ refP (lineAt s.data.toList fr (k + 1)) (s.data.toList.drop (k + 1)) = P) := Lib.hid (by
            rw [← HS.out, drop_at hget, line_snoc _ _ _ _ hget hfr]; conv => rhs; unfold refP; rw [if_neg h44])
          clear hget hc HS hLN hEX PX
          go_wp2_with fail
          go_roundg (s.size + 1 - (k + 1))
          case measure => omega
          case rel => exact ⟨k + 1, fr, ps, ns, by omega, rfl, rfl, by go_num, by omega, by omega, HO.out, HB.out, HPN, HA, .inl ⟨by omega, HS2⟩⟩
      · obtain rfl : k = s.size := by omega
        have HS2 : Hid (ps ++ [LN] = P) := Lib.hid (by rw [← HS.out, hLN, List.drop_eq_nil_of_le (by omega)]; rfl)
        have HS3 : Hid (∃ r, P = ps ++ LN :: r) := Lib.hid ⟨[], HS2.out.symm⟩
        clear HS hLN
        rcases decR_of (l := LN) with ⟨m, hm1, hm2⟩ | ⟨hm1, hm2⟩
        · rw [hm2] at PX
          have HA2 : Hid (allV (ps ++ [LN]) = some (ns ++ [m])) := Lib.hid (allV_snoc _ _ _ _ HA.out hm1)
          have HPN2 : Hid ((ps ++ [LN]).length = (ns ++ [m]).length) := Lib.hid (by rw [List.length_append, List.length_append, HPN.out]; rfl)
          obtain ⟨LS, hLS⟩ : ∃ LS, strL LN = LS := ⟨_, rfl⟩
          rw [hLS] at PX hEX
          clear hm1 hm2 HA hLl hLS HPN
          go_wp2_with fail
          try rw [hEX]
          refine (PX.out _).mono ?_
          rintro e w2 ⟨rfl, rfl⟩
          go_wp2_with (at_builtin; refine wpList_append_own _ rfl _ _ 37 rfl w.heap.size 3 i0 (.int .i64 0) 1 8 Tryd.underlying37 HI.out hz hsize hby rfl (by decide) _ ns.length (ns.map (Value.int .i64)) rfl (HO.out.below ((Below.refl _ _).alloc (Nat.le_refl _) _) (Nat.le_refl _)) ⟨_, 0, none⟩ 1 1 [.int .i64 m] rfl rfl (cell_one_new _ _ _) (by intro u hu; simp at hu; subst hu; rfl) (by unfold maxLen; omega) (by omega) (by have := HB.out.size; simp; omega) ?_)
          intro v' w4 hown2 hgrow _
          have HO3 := Lib.hid (OwnN.mk (l := ns) (b := m) hown2)
          have HB3 := Lib.hid (OwnN.gby (HO.out.below ((Below.refl _ _).alloc (Nat.le_refl _) _) (Nat.le_refl _)) (HB.out.alloc HB.out.size _) (by have := HB.out.size; simp; omega) hgrow)
          clear hown2 hgrow
          go_wp2_with fail
          go_roundg (s.size + 1 - (s.size + 1))
          case measure => omega
          case rel => exact ⟨s.size + 1, s.size + 1, ps ++ [LN], ns ++ [m], by omega, rfl, by go_num, by go_num, by rw [List.length_append]; simp; omega, by omega, HO3.out, HB3.out, HPN2, HA2, .inr ⟨rfl, HS2⟩⟩
        · rw [hm2] at PX
          obtain ⟨r, hr⟩ := HS3.out
          have HR := Lib.hid (HN2.out (allV_bad P ps.length LN (by rw [hr]; simp) hm1))
          obtain ⟨LS, hLS⟩ : ∃ LS, strL LN = LS := ⟨_, rfl⟩
          rw [hLS] at PX hEX
          clear hm1 hm2 HA hLl hLS hr HS2 HS3 HPN
          go_wp2_with fail
          try rw [hEX]
          refine (PX.out _).mono ?_
          rintro e w2 ⟨rfl, rfl⟩
          go_wp2_with fail
          go_ret2
          exact ⟨_, by rw [(Prod.mk.inj HR.out).2]; rfl, by rw [(Prod.mk.inj HR.out).1]; exact .inl ⟨_, _, rfl, rfl⟩, HB.out⟩
    · have hkI : (s.size : Int) < (k : Int) := by omega
      have hPN := HPN.out
      obtain ⟨p, cap, hv⟩ := HO.out.row.len
      subst hv
      by_cases hm : (ns.length : Int) = many
      · have HR := Lib.hid (HN3.out ns (by rw [← HS.out, hPN, hm]) (by rw [← HS.out, HA.out]))
        subst hm
        clear HA
        go_wp2_with fail
        go_ret2
        exact ⟨_, by rw [(Prod.mk.inj HR.out).2]; rfl, by rw [(Prod.mk.inj HR.out).1]; exact HO.out.row, HB.out⟩
      · have HR := Lib.hid (HN1.out (by rw [← HS.out, hPN]; exact hm))
        have hne : ((ns.length : Int) == many) = false := beq_eq_false_iff_ne.2 hm
        have hne2 : ((ns.length : Int) != many) = true := by simp [hm]
        clear HA
        go_wp2_with fail
        go_ret2
        exact ⟨_, by rw [(Prod.mk.inj HR.out).2]; rfl, by rw [(Prod.mk.inj HR.out).1]; exact .inl ⟨_, _, rfl, rfl⟩, HB.out⟩
end Go.Proofs.YtogjckengmkfiaaDoor
