/-
  Lines and words (the reference of reeve's layer 6): the walks.
-/
import Derived.Test.YtanihdpgblkeaaaDoorWordsRest
namespace Go.Proofs.YtanihdpgblkeaaaDoor
open Go.RowKit
set_option linter.unusedVariables false
set_option linter.unusedSimpArgs false

theorem nil_app (X : ByteArray) : (⟨#[]⟩ : ByteArray) ++ X = X := by apply ByteArray.ext; simp
theorem byte_at (s : ByteArray) (q : Nat) (h : q < s.size) : s.data.toList[q]? = some (s[q]'h) := by
  rw [List.getElem?_eq_getElem (by rw [show s.data.toList.length = s.size from (Lib.size_eq s).symm]; exact h)]
  rfl
theorem one_at (s : ByteArray) (q : Nat) (c : UInt8) (h : s.data.toList[q]? = some c) : s.extract q (q + 1) = strL [c] := by
  apply ByteArray.ext
  apply Array.ext'
  show (s.extract q (q + 1)).data.toList = [c]
  rw [ByteArray.data_extract, Array.toList_extract, List.extract_eq_take_drop, show q + 1 - q = 1 by omega, drop_at h]
  rfl
theorem take_at {l : List UInt8} {i : Nat} {c : UInt8} (h : l[i]? = some c) : l.take (i + 1) = l.take i ++ [c] := by
  obtain ⟨hi, e⟩ := List.getElem?_eq_some_iff.1 h
  rw [List.take_succ_eq_append_getElem hi, e]
theorem join_snoc (l : List (List UInt8)) (h : l ≠ []) (x sep : List UInt8) : Lib.join (l ++ [x]) sep = Lib.join l sep ++ sep ++ x := by
  cases l with
  | nil => exact absurd rfl h
  | cons y r => rw [List.cons_append, Lib.join_cons, Lib.join_cons]; simp [Lib.joinTail]
theorem join_take (l : List (List UInt8)) (sep : List UInt8) (i : Nat) : (Lib.join (l.take i) sep).length ≤ (Lib.join l sep).length := by
  induction i generalizing l with
  | zero => rw [List.take_zero, Lib.join_nil]; exact Nat.zero_le _
  | succ i ih =>
    cases l with
    | nil => simp
    | cons y r =>
      rw [List.take_succ_cons, Lib.join_cons, Lib.join_cons, List.length_append, List.length_append]
      have := Lib.joinTail_take_le sep r i
      omega
theorem rowS_pick {w : World} {p : Option Addr} {cap n : Nat} {l : List (List UInt8)} (h : RowS w (.slice p n cap) (l.map strL)) (hn : l.length = n) : ∀ j, j < n → ∃ b off cp x, (Value.slice p n cap) = .slice (some ⟨b, off, none⟩) n cp ∧ l[j]? = some x ∧ w.cell? ⟨b, off + j, none⟩ = some (.string (strL x)) ∧ b < w.heap.size := by
  intro j hj
  rcases h with ⟨_, _, _, h0⟩ | ⟨b, off, cp, e1, hb, hc, _⟩
  · have : l = [] := by simpa using h0
    rw [this] at hn; simp at hn; omega
  · rw [List.length_map, hn] at e1
    have hj' : j < l.length := by omega
    exact ⟨b, off, cp, l[j], e1, List.getElem?_eq_getElem hj', hc j _ (by rw [List.getElem?_map, List.getElem?_eq_getElem hj']; rfl), hb⟩
theorem takeL_at {l : List (List UInt8)} {i : Nat} {x : List UInt8} (h : l[i]? = some x) : l.take (i + 1) = l.take i ++ [x] := by
  obtain ⟨hi, e⟩ := List.getElem?_eq_some_iff.1 h
  rw [List.take_succ_eq_append_getElem hi, e]
set_option maxRecDepth 100000 in
set_option maxHeartbeats 1600000 in
theorem ref06_join (v : Value) (l : List (List UInt8)) (w : World) (hv : RowS w v (l.map strL)) (hl : l.length ≤ 1000000) (hlen : (Lib.join l [32]).length ≤ 100000000) :
    Calls Tryd.prog 35 #[v] w fun e w' => e = .returned (.string (strL (Lib.join l [32]))) ∧ w = w' := by
  obtain ⟨p, cap, rfl⟩ := hv.len
  rw [List.length_map] at hv ⊢
  obtain ⟨n, hn⟩ : ∃ n, l.length = n := ⟨_, rfl⟩
  have HP := Lib.hid (rowS_pick (by rw [hn] at hv; exact hv) hn)
  rw [hn] at hl ⊢
  have HN := Lib.hid hn
  have HLEN := Lib.hid hlen
  clear hv hn hlen
  obtain ⟨RES, hRES⟩ : ∃ R, strL (Lib.join l [32]) = R := ⟨_, rfl⟩
  rw [hRES]
  have HRES := Lib.hid hRES
  clear hRES
  go_enter Tryd.func35, Tryd.ntmps35
  go_wp2_with fail
  go_loopg [3, 4] n (fun g s i wr => ∃ q : Nat, q ≤ n ∧ g = n - q ∧ i = .int .i64 q ∧ wr = w ∧ s = .string (strL (Lib.join (l.take q) [32])))
  case atStart => exact ⟨0, Nat.zero_le _, rfl, rfl, rfl, rfl⟩
  case round =>
    obtain ⟨q, hq, hg, rfl, rfl, rfl⟩ := hrel
    have hg := hg.symm
    subst hg
    by_cases hlt : q < n
    · obtain ⟨b, off, cp, x, e1, hx, k1, hbl⟩ := HP.out q hlt
      cases e1
      have hlI : (q : Int) < (n : Int) := by omega
      have hq0 : (0 : Int) ≤ (q : Int) := by omega
      have hle := join_take l [32] (q + 1)
      have hle2 := HLEN.out
      by_cases h0 : q = 0
      · subst h0
        have hJ : Lib.join (l.take (0 + 1)) [32] = x := by rw [takeL_at hx, List.take_zero, List.nil_append, Lib.join_one]
        rw [hJ] at hle
        have HJ := Lib.hid hJ
        rw [List.take_zero, Lib.join_nil]
        have hz : (strL x).size ≤ 9223372036854775807 := by rw [strL_size]; omega
        obtain ⟨X, hX⟩ : ∃ X, strL x = X := ⟨_, rfl⟩
        rw [hX] at k1 hz
        rw [Nat.add_zero] at k1
        have HX := Lib.hid hX
        have hz0 : strL [] = ⟨#[]⟩ := rfl
        rw [hz0]
        clear hle hle2 hx hJ hX hz0
        go_wp2_with fail
        go_roundg (n - (0 + 1))
        case measure => omega
        case rel => exact ⟨0 + 1, by omega, rfl, by go_num, rfl, by rw [HJ.out, HX.out, nil_app]⟩
      · have hne : l.take q ≠ [] := by
          intro e
          have := congrArg List.length e
          rw [List.length_take, HN.out] at this
          simp at this
          omega
        have hJ : Lib.join (l.take (q + 1)) [32] = Lib.join (l.take q) [32] ++ [32] ++ x := by rw [takeL_at hx, join_snoc _ hne]
        rw [hJ, List.length_append, List.length_append] at hle
        obtain ⟨A, hA⟩ : ∃ A, strL (Lib.join (l.take q) [32]) = A := ⟨_, rfl⟩
        have hAz : A.size = (Lib.join (l.take q) [32]).length := by rw [← hA, strL_size]
        obtain ⟨X, hX⟩ : ∃ X, strL x = X := ⟨_, rfl⟩
        have hXz : X.size = x.length := by rw [← hX, strL_size]
        have HJ : Hid (strL (Lib.join (l.take (q + 1)) [32]) = A ++ ⟨#[32]⟩ ++ X) := Lib.hid (by rw [hJ, strL_app, strL_app, hA, hX]; rfl)
        rw [hX] at k1
        rw [hA]
        have z1 : A.size + (⟨#[32]⟩ : ByteArray).size ≤ 9223372036854775807 := by show A.size + 1 ≤ _; omega
        have z2 : (A ++ ⟨#[32]⟩).size + X.size ≤ 9223372036854775807 := by rw [ByteArray.size_append]; show A.size + 1 + X.size ≤ _; omega
        have hqp : (0 : Int) < (q : Int) := by omega
        clear hle hle2 hx hJ hX hA hne hAz hXz
        go_wp2_with fail
        go_roundg (n - (q + 1))
        case measure => omega
        case rel => exact ⟨q + 1, by omega, rfl, by go_num, rfl, by rw [HJ.out]⟩
    · obtain rfl : q = n := by omega
      have HF : Hid (strL (Lib.join (l.take q) [32]) = RES) := Lib.hid (by rw [← HRES.out, List.take_of_length_le (by rw [HN.out]; exact Nat.le_refl _)])
      rw [HF.out]
      go_wp2_with fail
      go_ret
      exact ⟨rfl, rfl⟩
end Go.Proofs.YtanihdpgblkeaaaDoor
