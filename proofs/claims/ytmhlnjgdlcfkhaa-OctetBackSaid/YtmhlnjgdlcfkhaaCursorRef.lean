/-
  What the reference's taking functions compute (reeve's layer 2).
-/
import Derived.Test.YtmhlnjgdlcfkhaaCursorFixed
namespace Go.Proofs.Ytmhlnjgdlcfkhaa
open Go.RowKit
set_option linter.unusedVariables false
set_option linter.unusedSimpArgs false

theorem get0 (s : ByteArray) (j : Nat) (h : j < s.size) : s[j].toNat = ((rest s 0).getD j 0).toNat := by
  have := rest_get s 0 j (by omega)
  simpa using this
theorem tl_eq {a b : ByteArray} (h : a = b) : (a.toList == b.toList) = true := by subst h; simp
theorem tl_ne {a b : ByteArray} (h : a ≠ b) : (a.toList == b.toList) = false := by
  cases hh : (a.toList == b.toList) with
  | false => rfl
  | true =>
    have h2 : a.toList = b.toList := by simpa using hh
    rw [ByteArray.toList_eq, ByteArray.toList_eq] at h2
    exact absurd (ByteArray.ext (Array.ext' h2)) h
theorem str_inj {a b : List UInt8} (h : str a = str b) : a = b := by
  have := congrArg (fun x : ByteArray => x.data.toList) h
  simpa [str] using this
theorem extract0 (s : ByteArray) (k : Nat) : s.extract 0 k = str ((rest s 0).take k) := by
  have := extract_take s 0 k
  simpa using this
theorem rest0_length (s : ByteArray) : (rest s 0).length = s.size := by rw [rest_length]; omega
theorem rest_str (l : List UInt8) : rest (str l) 0 = l := by simp [rest, str]
theorem str_rest (s : ByteArray) : str (rest s 0) = s := by apply ByteArray.ext; simp [rest, str]

theorem ref02_takeFixed_out (s : ByteArray) (k : Int) (h : k < 1 ∨ 8 < k) (w : World) : Calls Try.prog 24 #[.string s, .int .i64 k] w fun e w' => e = .returned (.tuple #[.int .u64 0, .int .i64 0, .int .i64 1]) ∧ w = w' := by
  rcases h with h | h
  · go_enter Try.func24, Try.ntmps24
    go_wp2
    go_ret3
    exact ⟨rfl, rfl⟩
  · go_enter Try.func24, Try.ntmps24
    go_wp2
    go_ret3
    exact ⟨rfl, rfl⟩
theorem ref02_takeFixed_short (s : ByteArray) (k : Nat) (hk1 : 1 ≤ k) (hk8 : k ≤ 8) (hl : s.size < k) (w : World) :
    Calls Try.prog 24 #[.string s, .int .i64 k] w fun e w' => e = .returned (.tuple #[.int .u64 0, .int .i64 0, .int .i64 3]) ∧ w = w' := by
  have hk1' : (1 : Int) ≤ (k : Int) := by omega
  have hk8' : (k : Int) ≤ 8 := by omega
  have hl' : decide ((s.size : Int) < (k : Int)) = true := by simp; omega
  go_enter Try.func24, Try.ntmps24
  go_wp2
  go_ret3
  exact ⟨rfl, rfl⟩
set_option maxRecDepth 100000 in
set_option maxHeartbeats 800000 in
theorem ref02_takeFixed (s : ByteArray) (k : Nat) (hs : s.size ≤ maxLen) (hk1 : 1 ≤ k) (hk8 : k ≤ 8) (hl : k ≤ s.size) (w : World) :
    Calls Try.prog 24 #[.string s, .int .i64 k] w fun e w' => e = .returned (.tuple #[.int .u64 (Oct.numFrom 0 ((rest s 0).take k) : Nat), .int .i64 k, .int .i64 0]) ∧ ∃ m, w' = w.drewN m := by
  have hk1' : (1 : Int) ≤ (k : Int) := by omega
  have hk8' : (k : Int) ≤ 8 := by omega
  have hs' : (s.size : Int) ≤ 9223372036854775807 := by unfold maxLen at hs; omega
  have hl' : decide (s.size < k) = false := by simp; omega
  have hrl := rest0_length s
  go_enter Try.func24, Try.ntmps24
  go_wp2
  go_loopg [7, 8] k (fun g n i wr => w = wr ∧ ∃ (j v : Nat), j ≤ k ∧ g = k - j ∧ i = .int .i64 j ∧ n = .int .u64 v ∧ v = Oct.numFrom 0 ((rest s 0).take j))
  case atStart => exact ⟨rfl, 0, 0, by omega, rfl, rfl, rfl, rfl⟩
  case round =>
    obtain ⟨rfl, j, v, hj, hg, rfl, rfl, hv⟩ := hrel
    have hg := hg.symm
    subst hg
    by_cases hlt : j < k
    · have hv56 : v < 72057594037927936 := by
        have := Oct.numFrom_lt 0 ((rest s 0).take j)
        have e : ((rest s 0).take j).length ≤ 7 := by rw [List.length_take]; omega
        have : (256 : Nat) ^ ((rest s 0).take j).length ≤ 256 ^ 7 := Nat.pow_le_pow_right (by decide) e
        have : (256 : Nat) ^ 7 = 72057594037927936 := by decide
        omega
      have hx := get0 s j (by omega)
      obtain ⟨t, ht⟩ : ∃ t, ((rest s 0).getD j 0).toNat = t := ⟨_, rfl⟩
      have ht8 : t < 256 := by rw [← ht]; exact UInt8.toNat_lt _
      have hvn : v * 256 + t = Oct.numFrom 0 ((rest s 0).take (j + 1)) := by
        rw [List.take_succ_eq_append_getElem (by omega), Oct.numFrom_append, ← hv]
        simp only [Oct.numFrom]
        rw [← ht, List.getD_eq_getElem?_getD, List.getElem?_eq_getElem (by omega)]
        rfl
      rw [ht] at hx
      have HV := Lib.hid hvn
      have HL := Lib.hid hrl
      have HS := Lib.hid hs'
      have hjs : (j : Int) < (s.size : Int) := by omega
      clear hvn ht hv
      go_wp2_with fail
      go_roundg (k - (j + 1))
      case measure => omega
      case rel => exact ⟨rfl, j + 1, v * 256 + t, by omega, rfl, by go_num, by go_num, HV.out⟩
    · obtain rfl : j = k := by omega
      have HV0 := Lib.hid hv
      clear hv hrl
      go_wp2_with fail
      go_ret3
      exact ⟨by rw [← HV0.out]; rfl, 0, rfl⟩
set_option maxRecDepth 100000 in
set_option maxHeartbeats 800000 in
theorem ref02_takeVar (s : ByteArray) (hs : s.size ≤ maxLen) (w : World) :
    Calls Try.prog 26 #[.string s] w fun e w' => e = .returned (tookVal (Oct.takeVar (rest s 0))) ∧ Below w.heap.size w w' := by
  have hs' : (s.size : Int) ≤ 9223372036854775807 := by unfold maxLen at hs; omega
  go_enter Try.func26, Try.ntmps26
  have hrl := rest0_length s
  go_wp2
  go_loopg [5] s.size (fun g i wr => w = wr ∧ ∃ (j : Nat), j ≤ s.size ∧ g = s.size - j ∧ i = .int .i64 j ∧ Hid (∀ k, k < j → 128 ≤ ((rest s 0).getD k 0).toNat))
  case atStart => exact ⟨rfl, 0, by omega, by omega, rfl, Lib.hid (fun k hk => by omega)⟩
  case round =>
    obtain ⟨rfl, j, hj, hg, rfl, HM⟩ := hrel
    have hg := hg.symm
    subst hg
    have HL := Lib.hid hrl
    clear hrl
    by_cases hlt : j < s.size
    · have hx := get0 s j hlt
      obtain ⟨x, HX⟩ : ∃ x, Hid (((rest s 0).getD j 0).toNat = x) := ⟨_, Lib.hid rfl⟩
      rw [HX.out] at hx
      have hd1 : decide ((j : Int) < (s.size : Int)) = true := by simp; omega
      by_cases hx8 : 128 ≤ x
      · go_wp2_with fail
        go_roundg (s.size - (j + 1))
        case measure => omega
        case rel =>
          refine ⟨rfl, j + 1, by omega, rfl, by go_num, Lib.hid (fun k hk => ?_)⟩
          by_cases hkj : k = j
          · subst hkj; rw [HX.out]; exact hx8
          · exact HM.out k (by omega)
      · have he : Oct.endOf (rest s 0) = j := Oct.endOf_eq _ j (by rw [HL.out]; omega) HM.out (.inr (by rw [HX.out]; omega))
        have HE := Lib.hid he
        clear he
        have hle9 : (str (Oct.varB 0)).size = 1 := by rw [str_size, Oct.varB_lt (by decide)]; rfl
        by_cases h9 : 9 ≤ j
        · have hd9 : decide ((j : Int) < 9) = false := by simp; omega
          have hw1 : IntKind.i64.wrap ((j : Int) + 1) = (j : Int) + 1 := by rw [IntKind.wrap_i64]; omega
          have hj0 : (0 : Int) ≤ (j : Int) + 1 := by omega
          have hne : ((str (Oct.varB 0)).toList == (s.extract 0 (j + 1)).toList) = false := by
            apply tl_ne
            intro h
            rw [extract0] at h
            have h := congrArg List.length (str_inj h)
            rw [Oct.varB_lt (by decide), List.length_take, HL.out] at h
            simp at h
            omega
          have hj1 : (j : Int) + 1 ≤ (s.size : Int) := by omega
          go_wp2_with fail
          refine wp_loop_rounds 1 ?_
          rw [rounds_succ]
          go_wp2_with fail
          go_region_with ((go_at_call 19; refine (ref02_var 0 (by decide) _).mono ?_; rintro e w1 ⟨rfl, hb⟩))
          go_wp2_with fail
          go_ret3
          have ht : Oct.takeVar (rest s 0) = .form := by
            rw [Oct.takeVar, if_neg (by rw [HE.out, HL.out]; omega), HE.out, if_pos (.inl h9)]
          rw [ht]
          exact ⟨rfl, below_undrew hb⟩
        · have hd9 : decide ((j : Int) < 9) = true := by simp; omega
          obtain ⟨l, HLL⟩ : ∃ l, Hid (l = (rest s 0).take (j + 1)) := ⟨_, Lib.hid rfl⟩
          have hll : l.length = j + 1 := by rw [HLL.out, List.length_take, HL.out]; omega
          go_wp2_with fail
          go_loopg [6, 7] (j + 1) (fun g n i wr => w = wr ∧ ∃ (k v : Nat), k ≤ j + 1 ∧ g = k ∧ i = .int .i64 ((k : Int) - 1) ∧ n = .int .i64 v ∧ v = Oct.valFrom l k)
          case atStart =>
            refine ⟨rfl, j + 1, 0, by omega, rfl, by go_num, rfl, ?_⟩
            rw [← hll, Oct.valFrom_end]
          case round =>
            obtain ⟨rfl, k, v, hk, hg, rfl, rfl, hv⟩ := hrel
            have hg := hg.symm
            subst hg
            by_cases h0 : k = 0
            · subst h0
              have HV := Lib.hid hv
              clear hv
              go_wp2_with fail
              have hw1 : IntKind.i64.wrap ((j : Int) + 1) = (j : Int) + 1 := by rw [IntKind.wrap_i64]; omega
              have hj0 : (0 : Int) ≤ (j : Int) + 1 := by omega
              have hj1 : (j : Int) + 1 ≤ (s.size : Int) := by omega
              have hvl : v = Oct.valB l := by rw [HV.out, Oct.valFrom_all]
              have hv9 : v ≤ 9223372036854775807 := by
                have := Oct.valB_lt l
                have e : (128 : Nat) ^ l.length ≤ 128 ^ 9 := Nat.pow_le_pow_right (by decide) (by omega)
                have : (128 : Nat) ^ 9 = 9223372036854775808 := by decide
                omega
              have HVL := Lib.hid hvl
              clear hvl
              by_cases hbad : 0 < j ∧ ((rest s 0).getD j 0).toNat = 0
              · have hne : ((str (Oct.varB v)).toList == (s.extract 0 (j + 1)).toList) = false := by
                  apply tl_ne
                  intro h
                  rw [extract0] at h
                  have h := str_inj h
                  obtain ⟨p, z, e1, e2, e3, e4, e5⟩ := Oct.take_end (rest s 0) (by rw [HE.out, HL.out]; omega)
                  rw [HE.out] at e1 e2 e5
                  rw [e1] at h
                  rcases Oct.varB_bad p z v h with h1 | h1
                  · subst h1; simp at e2; omega
                  · rw [e5] at h1; exact h1 hbad.2
                have HB := Lib.hid hbad
                clear hbad
                go_region_with ((go_at_call 19; refine (ref02_var v hv9 _).mono ?_; rintro e w1 ⟨rfl, hb⟩))
                go_wp2_with fail
                go_ret3
                have ht : Oct.takeVar (rest s 0) = .form := by
                  rw [Oct.takeVar, if_neg (by rw [HE.out, HL.out]; omega), HE.out, if_pos (.inr HB.out)]
                rw [ht]
                exact ⟨rfl, below_undrew hb⟩
              · have heq : ((str (Oct.varB v)).toList == (s.extract 0 (j + 1)).toList) = true := by
                  apply tl_eq
                  rw [extract0]
                  obtain ⟨p, z, e1, e2, e3, e4, e5⟩ := Oct.take_end (rest s 0) (by rw [HE.out, HL.out]; omega)
                  rw [HE.out] at e1 e2 e5
                  rw [HVL.out, HLL.out, e1, Oct.varB_valB p z e3 e4]
                  by_cases hp : p = []
                  · exact .inl hp
                  · right
                    intro hz
                    have : p.length ≠ 0 := fun h => hp (List.eq_nil_of_length_eq_zero h)
                    exact hbad ⟨by omega, by rw [← e5]; exact hz⟩
                have HB := Lib.hid hbad
                clear hbad
                go_region_with ((go_at_call 19; refine (ref02_var v hv9 _).mono ?_; rintro e w1 ⟨rfl, hb⟩))
                go_wp2_with fail
                go_ret3
                have ht : Oct.takeVar (rest s 0) = .num v (j + 1) := by
                  rw [Oct.takeVar, if_neg (by rw [HE.out, HL.out]; omega), HE.out, if_neg (fun h => h.elim h9 HB.out), HVL.out, HLL.out]
                rw [ht]
                exact ⟨rfl, below_undrew hb⟩
            · obtain ⟨i, rfl⟩ : ∃ i, k = i + 1 := ⟨k - 1, by omega⟩
              have hst := Oct.valFrom_step l i (by omega)
              have hlt7 := Oct.valFrom_lt l i (by omega)
              have hgl : (l.getD i 0) = (rest s 0).getD i 0 := by
                rw [HLL.out, List.getD_eq_getElem?_getD, List.getD_eq_getElem?_getD, List.getElem?_take_of_lt (by omega)]
              rw [hgl, ← hv] at hst
              rw [← hv] at hlt7
              have hxi := get0 s i (by omega)
              obtain ⟨t, HT⟩ : ∃ t, Hid (((rest s 0).getD i 0).toNat = t) := ⟨_, Lib.hid rfl⟩
              rw [HT.out] at hxi hst
              have ht : t < 256 := by rw [← HT.out]; exact UInt8.toNat_lt _
              have HV := Lib.hid (show v * 128 + t % 128 = Oct.valFrom l i by rw [hst]; omega)
              have his : (i : Int) < (s.size : Int) := by omega
              clear hst hv hgl
              go_wp2_with fail
              go_roundg i
              case measure => omega
              case rel => exact ⟨rfl, i, v * 128 + t % 128, by omega, rfl, by go_num, by go_num, HV.out⟩
    · obtain rfl : j = s.size := by omega
      have he : Oct.endOf (rest s 0) = s.size := Oct.endOf_eq _ _ (by rw [HL.out]; exact Nat.le_refl _) HM.out (.inl HL.out.symm)
      have HE := Lib.hid he
      clear he
      go_wp2_with fail
      go_ret3
      refine ⟨?_, Below.refl _ _⟩
      rw [Oct.takeVar, if_pos (by rw [HE.out, HL.out])]
      rfl

set_option maxRecDepth 100000 in
set_option maxHeartbeats 800000 in
theorem ref02_takeText (s : ByteArray) (most : Int) (hs : s.size ≤ maxLen) (w : World) :
    Calls Try.prog 28 #[.string s, .int .i64 most] w fun e w' => (∃ x er, textVal (rest s 0) most = .tuple #[x, er] ∧ e = .returned (.tuple #[x, .int .i64 (textLen (rest s 0) most), er])) ∧ Below w.heap.size w w' := by
  have hs' : (s.size : Int) ≤ 9223372036854775807 := by unfold maxLen at hs; omega
  have HP := fun w => ref02_takeVar s hs w
  unfold textVal textLen
  cases ht : Oct.takeVar (rest s 0) with
  | short =>
    rw [ht, tookVal] at HP
    have HP := Lib.hid HP
    clear ht
    go_enter Try.func28, Try.ntmps28
    go_wp2_with (go_at_call 26; refine (HP.out _).mono ?_; rintro e w1 ⟨rfl, hb⟩)
    go_ret3
    exact ⟨⟨_, _, rfl, rfl⟩, hb⟩
  | form =>
    rw [ht, tookVal] at HP
    have HP := Lib.hid HP
    clear ht
    go_enter Try.func28, Try.ntmps28
    go_wp2_with (go_at_call 26; refine (HP.out _).mono ?_; rintro e w1 ⟨rfl, hb⟩)
    go_ret3
    exact ⟨⟨_, _, rfl, rfl⟩, hb⟩
  | num n k =>
    rw [ht, tookVal] at HP
    have HP := Lib.hid HP
    obtain ⟨hk, -, -, -, hn, -⟩ := Oct.takeVar_num _ n k ht
    rw [rest0_length] at hk
    clear ht
    simp only [rest0_length]
    by_cases hm : most < n
    · rw [if_pos hm, if_pos hm]
      go_enter Try.func28, Try.ntmps28
      go_wp2_with (go_at_call 26; refine (HP.out _).mono ?_; rintro e w1 ⟨rfl, hb⟩)
      go_ret3
      exact ⟨⟨_, _, rfl, rfl⟩, hb⟩
    · rw [if_neg hm, if_neg hm]
      have hm' : decide (most < (n : Int)) = false := by simp; omega
      clear hm
      have hwk : IntKind.i64.wrap ((s.size : Int) - (k : Int)) = ((s.size - k : Nat) : Int) := by rw [IntKind.wrap_i64]; unfold maxLen at hs; omega
      by_cases hl : s.size - k < n
      · rw [if_pos hl, if_pos hl]
        have hl' : decide (((s.size - k : Nat) : Int) < (n : Int)) = true := by simp; omega
        go_enter Try.func28, Try.ntmps28
        go_wp2_with (go_at_call 26; refine (HP.out _).mono ?_; rintro e w1 ⟨rfl, hb⟩)
        go_ret3
        exact ⟨⟨_, _, rfl, rfl⟩, hb⟩
      · rw [if_neg hl, if_neg hl]
        have hl' : decide (((s.size - k : Nat) : Int) < (n : Int)) = false := by simp; omega
        go_enter Try.func28, Try.ntmps28
        go_wp2_with (go_at_call 26; refine (HP.out _).mono ?_; rintro e w1 ⟨rfl, hb⟩)
        go_ret3
        refine ⟨⟨_, _, rfl, ?_⟩, hb⟩
        rw [← rest_drop, Nat.zero_add, ← extract_take]
        rfl
end Go.Proofs.Ytmhlnjgdlcfkhaa
