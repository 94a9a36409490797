/-
  What must come whatever the arguments are (reeve's layer 2).
-/
import Derived.Test.YtmhlnjgdlcfkhaaCursorRef
namespace Go.Proofs.Ytmhlnjgdlcfkhaa
open Go.RowKit
set_option linter.unusedVariables false
set_option linter.unusedSimpArgs false

theorem varB300 : Oct.varB 300 = [172, 2] := by rw [Oct.varB_ge (by decide), Oct.varB_lt (by decide)]; rfl
theorem fixB258 : Oct.fixB 258 2 = [1, 2] := rfl
theorem varB2 : Oct.varB 2 = [2] := by rw [Oct.varB_lt (by decide)]; rfl

/-- The bytes that awake puts. -/
def aw : ByteArray := str [172, 2, 1, 2, 2, 97, 98]
theorem aw_size : aw.size = 7 := rfl
theorem aw_max : aw.size ≤ maxLen := by rw [aw_size]; decide
theorem aw0 : rest aw 0 = Oct.varB 300 ++ [1, 2, 2, 97, 98] := by rw [varB300]; rfl
theorem aw4 : rest aw 4 = Oct.varB 2 ++ [97, 98] := by rw [varB2]; rfl
theorem aw_var (b : Nat) (w : World) (h : Cur w b aw 0) : Calls Try.prog 25 #[.pointer (some ⟨b, 0, none⟩)] w fun e w' => e = .returned (.tuple #[.int .i64 300, .int .i64 0]) ∧ Went b aw 2 w w' := by
  have := cur_var b aw 0 aw_max (by rw [aw_size]; decide) w h
  rw [aw0, Oct.takeVar_varB 300 (by decide), varB300] at this
  exact this
theorem aw_fixed (b : Nat) (w : World) (h : Cur w b aw 2) : Calls Try.prog 23 #[.pointer (some ⟨b, 0, none⟩), .int .i64 2] w fun e w' => e = .returned (.tuple #[.int .u64 258, .int .i64 0]) ∧ Cur w' b aw 4 ∧ w.grownBy w' (some b) :=
  cur_fixed b aw 2 2 aw_max (by rw [aw_size]; decide) (by decide) (by decide) w h
theorem aw_text (b : Nat) (w : World) (h : Cur w b aw 4) : Calls Try.prog 27 #[.pointer (some ⟨b, 0, none⟩), .int .i64 2] w fun e w' => e = .returned (.tuple #[.string (str [97, 98]), .int .i64 0]) ∧ Went b aw 7 w w' := by
  have := cur_text b aw 4 2 aw_max (by rw [aw_size]; decide) w h
  have e1 : textVal (rest aw 4) 2 = .tuple #[.string (str [97, 98]), .int .i64 0] := by
    rw [textVal, aw4, Oct.takeVar_varB 2 (by decide), varB2]
    rfl
  have e2 : textLen (rest aw 4) 2 = 3 := by
    rw [textLen, aw4, Oct.takeVar_varB 2 (by decide), varB2]
    rfl
  rw [e1, e2] at this
  exact this
theorem aw_end (b : Nat) (w : World) (h : Cur w b aw 7) : Calls Try.prog 25 #[.pointer (some ⟨b, 0, none⟩)] w fun e w' => e = .returned (.tuple #[.int .i64 0, .int .i64 3]) ∧ Went b aw 7 w w' := by
  have := cur_var b aw 7 aw_max (by rw [aw_size]; decide) w h
  exact this
theorem aw_left (b : Nat) (w : World) (h : Cur w b aw 7) : Calls Try.prog 29 #[.pointer (some ⟨b, 0, none⟩)] w fun e w' => e = .returned (.int .i64 0) ∧ w.drew = w' :=
  cur_left b aw 7 aw_max (by rw [aw_size]; decide) w h
theorem aw_v300 (w : World) : Calls Try.prog 18 #[.int .i64 300] w fun e w' => e = .returned (.string (str [172, 2])) ∧ Below w.heap.size w w' := by
  have := octet_var 300 (by decide) w
  rw [varB300] at this
  exact this
theorem aw_f258 (w : World) : Calls Try.prog 16 #[.int .u64 258, .int .i64 2] w fun e w' => e = .returned (.string (str [1, 2])) ∧ Below w.heap.size w w' :=
  octet_fixed 258 2 (by decide) (by decide) (by decide) w
theorem aw_tab (w : World) : Calls Try.prog 20 #[.string (str [97, 98])] w fun e w' => e = .returned (.string (str [2, 97, 98])) ∧ Below w.heap.size w w' := by
  have := octet_text (str [97, 98]) (by decide) w
  rw [show (str [97, 98]).size = 2 from rfl, varB2, str_append] at this
  exact this

set_option maxRecDepth 100000 in
set_option maxHeartbeats 1600000 in
theorem awake02 (w : World) : Calls Try.prog 15 #[] w fun e w' => e = .returned (.bool true) ∧ Below w.heap.size w w' := by
  have s1 : (str [172, 2]).size = 2 := rfl
  have s2 : (str [1, 2]).size = 2 := rfl
  have s3 : (str [2, 97, 98]).size = 3 := rfl
  have s4 : (str [172, 2, 1, 2]).size = 4 := rfl
  have j1 : str [172, 2] ++ str [1, 2] = str [172, 2, 1, 2] := str_append _ _
  have j2 : str [172, 2, 1, 2] ++ str [2, 97, 98] = aw := str_append _ _
  go_enter Try.func15, Try.ntmps15
  go_wp2_with (first
    | (go_at_call 18; refine (aw_v300 _).mono ?_; rintro e w1 ⟨rfl, hb1⟩)
    | (go_at_call 16; refine (aw_f258 _).mono ?_; rintro e w2 ⟨rfl, hb2⟩)
    | (go_at_call 20; refine (aw_tab _).mono ?_; rintro e w3 ⟨rfl, hb3⟩)
    | (go_at_call 22; refine (octet_new _ _).mono ?_; rintro e w4 ⟨rfl, hc4, hb4, hz4⟩))
  have hbl : Below w.heap.size w w4 := ((hb1.trans (hb2.mono hb1.size)).trans (hb3.mono (Nat.le_trans hb1.size hb2.size))).trans (hb4.mono (Nat.le_trans hb1.size (Nat.le_trans hb2.size hb3.size)))
  have hge : w.heap.size ≤ w3.heap.size := Nat.le_trans hb1.size (Nat.le_trans hb2.size hb3.size)
  clear hz4 hb1 hb2 hb3 hb4
  generalize w3.heap.size = b at *
  clear w1 w2 w3
  refine (aw_var b _ hc4).mono ?_
  rintro e w5 ⟨rfl, hc5, hg5, hz5⟩
  have G5 := Lib.hid hg5
  clear hz5 hg5
  go_wp2_with fail
  refine (aw_fixed b _ hc5).mono ?_
  rintro e w6 ⟨rfl, hc6, hg6⟩
  have G6 := Lib.hid hg6
  clear hg6
  go_wp2_with fail
  refine (aw_text b _ hc6).mono ?_
  rintro e w7 ⟨rfl, hc7, hg7, hz7⟩
  have G7 := Lib.hid hg7
  clear hg7 hz7
  go_wp2_with fail
  refine (aw_end b _ hc7).mono ?_
  rintro e w8 ⟨rfl, hc8, hg8, hz8⟩
  have hgz : w4.heap.size ≤ w8.heap.size := Nat.le_trans G5.out.size (Nat.le_trans G6.out.size (Nat.le_trans G7.out.size hg8.size))
  have hbl8 : Below w.heap.size w w8 := below_gby (below_gby (below_gby (below_gby hbl G5.out hge (by have := hbl.size; omega)) G6.out hge (by have := hbl.size; have := G5.out.size; omega)) G7.out hge (by have := hbl.size; have := G5.out.size; have := G6.out.size; omega)) hg8 hge (by have := hbl.size; have := G5.out.size; have := G6.out.size; have := G7.out.size; omega)
  clear hz8 hg8
  go_wp2_with fail
  refine (aw_v300 _).mono ?_
  rintro e w9 ⟨rfl, hb9⟩
  have hc9 : Cur w9 b aw 7 := Blk.below hc8 hb9 (Blk.lt hc8)
  have q1 : (str [172, 2]).toList = [172, 2] := by rw [ByteArray.toList_eq]; rfl
  have q2 : (str [97, 98]).toList = [97, 98] := by rw [ByteArray.toList_eq]; rfl
  have hbl9 := hbl8.trans (hb9.mono hbl8.size)
  clear hb9
  go_wp2_with (go_at_call 29; refine (aw_left b _ hc9).mono ?_; rintro e w10 ⟨rfl, rfl⟩)
  go_ret
  exact ⟨rfl, hbl9.drew⟩
end Go.Proofs.Ytmhlnjgdlcfkhaa
