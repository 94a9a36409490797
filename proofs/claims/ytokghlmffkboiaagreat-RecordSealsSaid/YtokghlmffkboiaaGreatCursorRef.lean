/-
  What the reference's taking functions compute (reeve's layer 2).
-/
import Derived.Test.YtokghlmffkboiaaGreatCursorFixed
namespace Go.Proofs.YtokghlmffkboiaaGreat
open Go.RowKit
set_option linter.unusedVariables false
set_option linter.unusedSimpArgs false

theorem get0 (s : ByteArray) (j : Nat) (h : j < s.size) : s[j].toNat = ((rest s 0).getD j 0).toNat := by
  have := rest_get s 0 j (by omega)
  simpa using this
theorem tl_eq {a b : ByteArray} (h : a = b) : (a.toList == b.toList) = true := by subst h; simp
theorem tl_ne {a b : ByteArray} (h : a ≠ b) : (a.toList == b.toList) = false := by
  cases hh : (a.toList == b.toList) with
  | false => rfl
  | true =>
    have h2 : a.toList = b.toList := by simpa using hh
    rw [ByteArray.toList_eq, ByteArray.toList_eq] at h2
    exact absurd (ByteArray.ext (Array.ext' h2)) h
theorem str_inj {a b : List UInt8} (h : str a = str b) : a = b := by
  have := congrArg (fun x : ByteArray => x.data.toList) h
  simpa [str] using this
theorem extract0 (s : ByteArray) (k : Nat) : s.extract 0 k = str ((rest s 0).take k) := by
  have := extract_take s 0 k
  simpa using this
theorem rest0_length (s : ByteArray) : (rest s 0).length = s.size := by rw [rest_length]; omega
theorem rest_str (l : List UInt8) : rest (str l) 0 = l := by simp [rest, str]
theorem str_rest (s : ByteArray) : str (rest s 0) = s := by apply ByteArray.ext; simp [rest, str]

set_option maxRecDepth 100000 in
set_option maxHeartbeats 800000 in
theorem ref02_takeVar (s : ByteArray) (hs : s.size ≤ maxLen) (w : World) :
    Calls Tryz.prog 44 #[.string s] w fun e w' => e = .returned (tookVal (Oct.takeVar (rest s 0))) ∧ Below w.heap.size w w' := by
  have hs' : (s.size : Int) ≤ 9223372036854775807 := by unfold maxLen at hs; omega
  go_enter Tryz.func44, Tryz.ntmps44
  have hrl := rest0_length s
  go_wp2
  go_loopg [5] s.size (fun g i wr => w = wr ∧ ∃ (j : Nat), j ≤ s.size ∧ g = s.size - j ∧ i = .int .i64 j ∧ Hid (∀ k, k < j → 128 ≤ ((rest s 0).getD k 0).toNat))
  case atStart => exact ⟨rfl, 0, by omega, by omega, rfl, Lib.hid (fun k hk => by omega)⟩
  case round =>
    obtain ⟨rfl, j, hj, hg, rfl, HM⟩ := hrel
    have hg := hg.symm
    subst hg
    have HL := Lib.hid hrl
    clear hrl
    by_cases hlt : j < s.size
    · have hx := get0 s j hlt
      obtain ⟨x, HX⟩ : ∃ x, Hid (((rest s 0).getD j 0).toNat = x) := ⟨_, Lib.hid rfl⟩
      rw [HX.out] at hx
      have hd1 : decide ((j : Int) < (s.size : Int)) = true := by simp; omega
      by_cases hx8 : 128 ≤ x
      · go_wp2_with fail
        go_roundg (s.size - (j + 1))
        case measure => omega
        case rel =>
          refine ⟨rfl, j + 1, by omega, rfl, by go_num, Lib.hid (fun k hk => ?_)⟩
          by_cases hkj : k = j
          · subst hkj; rw [HX.out]; exact hx8
          · exact HM.out k (by omega)
      · have he : Oct.endOf (rest s 0) = j := Oct.endOf_eq _ j (by rw [HL.out]; omega) HM.out (.inr (by rw [HX.out]; omega))
        have HE := Lib.hid he
        clear he
        have hle9 : (str (Oct.varB 0)).size = 1 := by rw [str_size, Oct.varB_lt (by decide)]; rfl
        by_cases h9 : 9 ≤ j
        · have hd9 : decide ((j : Int) < 9) = false := by simp; omega
          have hw1 : IntKind.i64.wrap ((j : Int) + 1) = (j : Int) + 1 := by rw [IntKind.wrap_i64]; omega
          have hj0 : (0 : Int) ≤ (j : Int) + 1 := by omega
          have hne : ((str (Oct.varB 0)).toList == (s.extract 0 (j + 1)).toList) = false := by
            apply tl_ne
            intro h
            rw [extract0] at h
            have h := congrArg List.length (str_inj h)
            rw [Oct.varB_lt (by decide), List.length_take, HL.out] at h
            simp at h
            omega
          have hj1 : (j : Int) + 1 ≤ (s.size : Int) := by omega
          go_wp2_with fail
          refine wp_loop_rounds 1 ?_
          rw [rounds_succ]
          go_wp2_with fail
          go_region_with ((go_at_call 40; refine (ref02_var 0 (by decide) _).mono ?_; rintro e w1 ⟨rfl, hb⟩))
          go_wp2_with fail
          go_ret3
          have ht : Oct.takeVar (rest s 0) = .form := by
            rw [Oct.takeVar, if_neg (by rw [HE.out, HL.out]; omega), HE.out, if_pos (.inl h9)]
          rw [ht]
          exact ⟨rfl, below_undrew hb⟩
        · have hd9 : decide ((j : Int) < 9) = true := by simp; omega
          obtain ⟨l, HLL⟩ : ∃ l, Hid (l = (rest s 0).take (j + 1)) := ⟨_, Lib.hid rfl⟩
          have hll : l.length = j + 1 := by rw [HLL.out, List.length_take, HL.out]; omega
          go_wp2_with fail
          go_loopg [6, 7] (j + 1) (fun g n i wr => w = wr ∧ ∃ (k v : Nat), k ≤ j + 1 ∧ g = k ∧ i = .int .i64 ((k : Int) - 1) ∧ n = .int .i64 v ∧ v = Oct.valFrom l k)
          case atStart =>
            refine ⟨rfl, j + 1, 0, by omega, rfl, by go_num, rfl, ?_⟩
            rw [← hll, Oct.valFrom_end]
          case round =>
            obtain ⟨rfl, k, v, hk, hg, rfl, rfl, hv⟩ := hrel
            have hg := hg.symm
            subst hg
            by_cases h0 : k = 0
            · subst h0
              have HV := Lib.hid hv
              clear hv
              go_wp2_with fail
              have hw1 : IntKind.i64.wrap ((j : Int) + 1) = (j : Int) + 1 := by rw [IntKind.wrap_i64]; omega
              have hj0 : (0 : Int) ≤ (j : Int) + 1 := by omega
              have hj1 : (j : Int) + 1 ≤ (s.size : Int) := by omega
              have hvl : v = Oct.valB l := by rw [HV.out, Oct.valFrom_all]
              have hv9 : v ≤ 9223372036854775807 := by
                have := Oct.valB_lt l
                have e : (128 : Nat) ^ l.length ≤ 128 ^ 9 := Nat.pow_le_pow_right (by decide) (by omega)
                have : (128 : Nat) ^ 9 = 9223372036854775808 := by decide
                omega
              have HVL := Lib.hid hvl
              clear hvl
              by_cases hbad : 0 < j ∧ ((rest s 0).getD j 0).toNat = 0
              · have hne : ((str (Oct.varB v)).toList == (s.extract 0 (j + 1)).toList) = false := by
                  apply tl_ne
                  intro h
                  rw [extract0] at h
                  have h := str_inj h
                  obtain ⟨p, z, e1, e2, e3, e4, e5⟩ := Oct.take_end (rest s 0) (by rw [HE.out, HL.out]; omega)
                  rw [HE.out] at e1 e2 e5
                  rw [e1] at h
                  rcases Oct.varB_bad p z v h with h1 | h1
                  · subst h1; simp at e2; omega
                  · rw [e5] at h1; exact h1 hbad.2
                have HB := Lib.hid hbad
                clear hbad
                go_region_with ((go_at_call 40; refine (ref02_var v hv9 _).mono ?_; rintro e w1 ⟨rfl, hb⟩))
                go_wp2_with fail
                go_ret3
                have ht : Oct.takeVar (rest s 0) = .form := by
                  rw [Oct.takeVar, if_neg (by rw [HE.out, HL.out]; omega), HE.out, if_pos (.inr HB.out)]
                rw [ht]
                exact ⟨rfl, below_undrew hb⟩
              · have heq : ((str (Oct.varB v)).toList == (s.extract 0 (j + 1)).toList) = true := by
                  apply tl_eq
                  rw [extract0]
                  obtain ⟨p, z, e1, e2, e3, e4, e5⟩ := Oct.take_end (rest s 0) (by rw [HE.out, HL.out]; omega)
                  rw [HE.out] at e1 e2 e5
                  rw [HVL.out, HLL.out, e1, Oct.varB_valB p z e3 e4]
                  by_cases hp : p = []
                  · exact .inl hp
                  · right
                    intro hz
                    have : p.length ≠ 0 := fun h => hp (List.eq_nil_of_length_eq_zero h)
                    exact hbad ⟨by omega, by rw [← e5]; exact hz⟩
                have HB := Lib.hid hbad
                clear hbad
                go_region_with ((go_at_call 40; refine (ref02_var v hv9 _).mono ?_; rintro e w1 ⟨rfl, hb⟩))
                go_wp2_with fail
                go_ret3
                have ht : Oct.takeVar (rest s 0) = .num v (j + 1) := by
                  rw [Oct.takeVar, if_neg (by rw [HE.out, HL.out]; omega), HE.out, if_neg (fun h => h.elim h9 HB.out), HVL.out, HLL.out]
                rw [ht]
                exact ⟨rfl, below_undrew hb⟩
            · obtain ⟨i, rfl⟩ : ∃ i, k = i + 1 := ⟨k - 1, by omega⟩
              have hst := Oct.valFrom_step l i (by omega)
              have hlt7 := Oct.valFrom_lt l i (by omega)
              have hgl : (l.getD i 0) = (rest s 0).getD i 0 := by
                rw [HLL.out, List.getD_eq_getElem?_getD, List.getD_eq_getElem?_getD, List.getElem?_take_of_lt (by omega)]
              rw [hgl, ← hv] at hst
              rw [← hv] at hlt7
              have hxi := get0 s i (by omega)
              obtain ⟨t, HT⟩ : ∃ t, Hid (((rest s 0).getD i 0).toNat = t) := ⟨_, Lib.hid rfl⟩
              rw [HT.out] at hxi hst
              have ht : t < 256 := by rw [← HT.out]; exact UInt8.toNat_lt _
              have HV := Lib.hid (show v * 128 + t % 128 = Oct.valFrom l i by rw [hst]; omega)
              have his : (i : Int) < (s.size : Int) := by omega
              clear hst hv hgl
              go_wp2_with fail
              go_roundg i
              case measure => omega
              case rel => exact ⟨rfl, i, v * 128 + t % 128, by omega, rfl, by go_num, by go_num, HV.out⟩
    · obtain rfl : j = s.size := by omega
      have he : Oct.endOf (rest s 0) = s.size := Oct.endOf_eq _ _ (by rw [HL.out]; exact Nat.le_refl _) HM.out (.inl HL.out.symm)
      have HE := Lib.hid he
      clear he
      go_wp2_with fail
      go_ret3
      refine ⟨?_, Below.refl _ _⟩
      rw [Oct.takeVar, if_pos (by rw [HE.out, HL.out])]
      rfl

end Go.Proofs.YtokghlmffkboiaaGreat
