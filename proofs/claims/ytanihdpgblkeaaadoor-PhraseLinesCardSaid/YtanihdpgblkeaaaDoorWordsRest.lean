/-
  Lines and words (reeve's layer 6): the program's walks: Lines, Join, Text, Find, Cut.
-/
import Derived.Test.YtanihdpgblkeaaaDoorWords
namespace Go.Proofs.YtanihdpgblkeaaaDoor
open Go.RowKit Go.Shelf
set_option linter.unusedVariables false
set_option linter.unusedSimpArgs false

theorem lies_two_ : Lies 91 2 0 := ⟨by decide, by kernel_rfl⟩
theorem bld_fresh (b : Nat) (w : World) (B : Nat) : BldIn #[.pointer none, .slice none 0 0] B b 0 w (.slice none 0 0) [] := ⟨.inl rfl, rfl, World.ownsRowF_nil _ _ _ _, by simp [Value.ownBlock]⟩
theorem RowS.new (w : World) (l : List ByteArray) (cap : Nat) (hl : l.length ≤ cap) (hne : l ≠ []) : RowS (w.alloc (.cells (l.map Value.string).toArray 9)) (.slice (some ⟨w.heap.size, 0, none⟩) l.length cap) l := by
  refine .inr ⟨_, 0, cap, rfl, by simp, fun j x hj => ?_, hl⟩
  have h := Blk.new w (l.map Value.string).toArray 9
  rw [Nat.zero_add]
  exact h.cell (by simp [hj])
set_option maxRecDepth 100000 in
set_option maxHeartbeats 1600000 in
theorem words_joined (v : Value) (l : List (List UInt8)) (w : World) (hv : RowS w v (l.map strL)) (hl : l.length ≤ 1000000) (hlen : (Lib.join l [32]).length ≤ 100000000) :
    Calls Tryd.prog 30 #[v] w fun e w' => e = .returned (.string (strL (Lib.join l [32]))) ∧ Below w.heap.size w w' := by
  have hmm : (l.map strL).map (·.data.toList) = l := by
    rw [List.map_map]
    conv => rhs; rw [← List.map_id l]
    apply List.map_congr_left
    intro x _; rfl
  have J : Hid (Calls Tryd.prog 48 #[v, .string ⟨#[32]⟩] w fun e w' => e = .returned (.string (strL (Lib.join l [32]))) ∧ Below w.heap.size w w') := Lib.hid (by
    rcases hv with ⟨p, cap, rfl, h0⟩ | ⟨b, off, cap, rfl, hb, hc, hcap⟩
    · have : l = [] := by simpa using h0
      subst this
      exact (Tryd.strings_Join_none p cap ⟨#[32]⟩ w).mono fun e w' ⟨he, hw⟩ => ⟨he, hw ▸ Below.refl _ _⟩
    · have hx : ((l.map strL).length) ≤ 140737488355328 := by rw [List.length_map]; omega
      have hj : (Lib.join ((l.map strL).map (·.data.toList)) (⟨#[32]⟩ : ByteArray).data.toList).length ≤ 140737488355328 := by
        rw [hmm]
        refine Nat.le_trans hlen ?_
        omega
      have h := Tryd.strings_Join b off cap (l.map strL) ⟨#[32]⟩ w hc hb hx hcap hj
      rw [hmm] at h
      exact h)
  obtain ⟨p, cap, rfl⟩ := hv.len
  rw [List.length_map] at J ⊢
  generalize strL (Lib.join l [32]) = R at J ⊢
  clear hv hlen hmm
  go_enter Tryd.func30, Tryd.ntmps30
  go_wp2_with fail
  refine J.out.mono ?_
  rintro e w1 ⟨rfl, hb⟩
  have HB := Lib.hid hb
  clear hb
  go_wp2_with fail
  go_ret
  exact ⟨rfl, HB.out⟩
/-- Which one of some words a word is; whether it is one. -/
def findI (l : List ByteArray) (x : ByteArray) : Int := max (Lib.idxOfS l x) 0
def findB (l : List ByteArray) (x : ByteArray) : Bool := decide (0 ≤ Lib.idxOfS l x)
set_option maxRecDepth 100000 in
set_option maxHeartbeats 1600000 in
theorem words_find (x : ByteArray) (v : Value) (l : List ByteArray) (w : World) (hv : RowS w v l) (hl : l.length ≤ 1000000) :
    Calls Tryd.prog 20 #[.string x, v] w fun e w' => e = .returned (.tuple #[.int .i64 (findI l x), .bool (findB l x)]) ∧ w = w' := by
  have J : Hid (Calls Tryd.prog 36 #[v, .string x] w fun e w' => e = .returned (.int .i64 (Lib.idxOfS l x)) ∧ w' = w) := Lib.hid (by
    rcases hv with ⟨p, cap, rfl, rfl⟩ | ⟨b, off, cap, rfl, hb, hc, hcap⟩
    · exact Tryd.slices_Index_string_empty p cap x w
    · have h := Tryd.slices_Index_string b off l.length cap l x w (Nat.le_refl _) (by omega) (fun j hj => hc j _ (by rw [List.getD_eq_getElem?_getD, List.getElem?_eq_getElem hj]; rfl))
      rw [List.take_length] at h
      exact h)
  unfold findI findB
  obtain ⟨p, cap, rfl⟩ := hv.len
  generalize Lib.idxOfS l x = k at J
  clear hv
  go_enter Tryd.func20, Tryd.ntmps20
  by_cases h : k < 0
  · have hd : decide (0 ≤ k) = false := by simp; omega
    have hm : max k 0 = 0 := by omega
    rw [hd, hm]
    go_wp2_with fail
    refine J.out.mono ?_
    rintro e w1 ⟨rfl, rfl⟩
    go_wp2_with fail
    go_ret2
    exact ⟨rfl, rfl⟩
  · have h' : 0 ≤ k := by omega
    have hd : decide (0 ≤ k) = true := by simp; omega
    have hm : max k 0 = k := by omega
    rw [hd, hm]
    go_wp2_with fail
    refine J.out.mono ?_
    rintro e w1 ⟨rfl, rfl⟩
    go_wp2_with fail
    go_ret2
    exact ⟨rfl, rfl⟩
/-- What stands ahead of a sign, and behind it. -/
def cutR (s : ByteArray) (c : UInt8) : ByteArray × ByteArray × Bool :=
  if Lib.indexByte s.data.toList c < 0 then (⟨#[]⟩, ⟨#[]⟩, false) else (s.extract 0 (Lib.indexByte s.data.toList c).toNat, s.extract ((Lib.indexByte s.data.toList c).toNat + 1) s.size, true)
theorem textL_take (l : List (List UInt8)) (i : Nat) (x : List UInt8) (h : l[i]? = some x) : textL (l.take (i + 1)) = textL (l.take i) ++ x ++ [10] := by
  obtain ⟨hi, e⟩ := List.getElem?_eq_some_iff.1 h
  unfold textL
  rw [List.take_succ_eq_append_getElem hi, List.flatMap_append, e]
  simp
theorem textL_le (l : List (List UInt8)) (i : Nat) : (textL (l.take i)).length ≤ (textL l).length := by
  have e : textL l = textL (l.take i) ++ textL (l.drop i) := by
    unfold textL
    rw [← List.flatMap_append, List.take_append_drop]
  rw [e, List.length_append]; omega
end Go.Proofs.YtanihdpgblkeaaaDoor
