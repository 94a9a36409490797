/-
  The walk of the statement RecordBack.
-/
import Derived.Test.YtokghlmffkboiaaAwake20
import Derived.Test.YtokghlmffkboiaaByteTurn
import Derived.Test.YtokghlmffkboiaaFlat
namespace Go.Proofs.Ytokghlmffkboiaa
open Go.RowKit
set_option linter.unusedVariables false
set_option linter.unusedSimpArgs false

theorem recB_pos (r : List Int) : 0 < (str (recB r)).size := by
  rw [str_size]
  unfold recB putB
  rw [List.length_append, List.length_append, List.length_append, Oct.fixB_length]; omega
set_option maxRecDepth 100000 in
set_option maxHeartbeats 6400000 in
theorem walk_rb (r : List Int) (hr : r.length = 10) (hwf : wfI r) (s : ByteArray) (x0 x1 x2 : Int) (w : World) (h0 : 0 ≤ x0 ∧ x0 < 256) (h1 : 0 ≤ x1 ∧ x1 < 256) (h2 : 0 ≤ x2 ∧ x2 < 256) (hs : s.size ≤ maxLen) :
    Calls Try.prog 6 #[.agg (cellsI r), .string s, .agg #[.int .u8 x0, .int .u8 x1, .int .u8 x2]] w fun e w' => e = .returned (.bool true) ∧ Below w.heap.size w w' := by
  have hu := Try.underlying38
  have hu3 := Try.underlying39
  have hs63 : s.size ≤ 9223372036854775807 := by unfold maxLen at hs; omega
  have hwe : wfI (r.drop 2) := fun a h => hwf a (List.mem_of_mem_drop h)
  have hSL := rec_seal r hr hwf
  have hSZ := fun (h : recCheck r = 0) => sealR_zero h
  have hSE := fun (h : recCheck r ≠ 0) => sealR_err h
  have hOS := fun (h : recCheck r = 0) => openR_seal r hr hwe h
  have hBS := fun (h : recCheck r = 0) => recB_size r hwe h
  have hBP := recB_pos r
  obtain ⟨q, t, k, n, j, i, p, x, y, z, rfl⟩ := ten_of hr
  have hneq := neq_rec [q, t, k, n, j, i, p, x, y, z] [q, t, k, n, j, i, p, x, y, z] rfl rfl
  rw [decide_eq_true (rfl : [q, t, k, n, j, i, p, x, y, z] = [q, t, k, n, j, i, p, x, y, z])] at hneq
  have heq := eql_rec zeroR zeroR rfl rfl
  rw [decide_eq_true (rfl : zeroR = zeroR)] at heq
  have a1 : cellsI [q, t, k, n, j, i, p, x, y, z] = #[.int .i64 q, .int .i64 t, .int .i64 k, .int .i64 n, .int .i64 j, .int .i64 i, .int .i64 p, .int .i64 x, .int .i64 y, .int .i64 z] := rfl
  have a2 : cellsI zeroR = #[.int .i64 0, .int .i64 0, .int .i64 0, .int .i64 0, .int .i64 0, .int .i64 0, .int .i64 0, .int .i64 0, .int .i64 0, .int .i64 0] := rfl
  rw [a1] at hSL hneq ⊢
  rw [a2] at heq
  clear a1 a2 hr hwf hwe
  generalize recCheck [q, t, k, n, j, i, p, x, y, z] = RC at hSZ hSE hOS hBS
  generalize sealR [q, t, k, n, j, i, p, x, y, z] = SR at hSL hSZ hSE
  generalize str (recB [q, t, k, n, j, i, p, x, y, z]) = RB at hSZ hOS hBS hBP
  obtain ⟨S1, S2⟩ := SR
  obtain ⟨W, hW⟩ : ∃ W, (w.alloc (.cells #[.int .i64 q, .int .i64 t, .int .i64 k, .int .i64 n, .int .i64 j, .int .i64 i, .int .i64 p, .int .i64 x, .int .i64 y, .int .i64 z] 38)).alloc (.cells #[.int .u8 x0, .int .u8 x1, .int .u8 x2] 39) = W := ⟨_, rfl⟩
  obtain ⟨b, hb⟩ : ∃ b, w.heap.size = b := ⟨_, rfl⟩
  have hz1 : (w.alloc (.cells #[.int .i64 q, .int .i64 t, .int .i64 k, .int .i64 n, .int .i64 j, .int .i64 i, .int .i64 p, .int .i64 x, .int .i64 y, .int .i64 z] 38)).heap.size = b + 1 := by simp [hb]
  have HB : Hid (Blk W b #[.int .i64 q, .int .i64 t, .int .i64 k, .int .i64 n, .int .i64 j, .int .i64 i, .int .i64 p, .int .i64 x, .int .i64 y, .int .i64 z] 38) := Lib.hid (by rw [← hW, ← hb]; exact (Blk.new w _ _).alloc _)
  have HX : Hid (Blk W (b + 1) #[.int .u8 x0, .int .u8 x1, .int .u8 x2] 39) := Lib.hid (by rw [← hW, ← hz1]; exact Blk.new _ _ _)
  have HL : Hid (Below b w W) := Lib.hid (by rw [← hW, ← hb]; exact ((Below.refl _ w).alloc (Nat.le_refl _) _).alloc (by simp) _)
  have hWz : b + 1 < W.heap.size := HX.out.lt
  have HSL := Lib.hid hSL
  have HSZ := Lib.hid hSZ
  have HSE := Lib.hid hSE
  have HOS := Lib.hid hOS
  have HBS := Lib.hid hBS
  have HNEQ := Lib.hid hneq
  have HEQ := Lib.hid heq
  have HW := Lib.hid hW
  rw [hb]
  clear hSL hSZ hSE hOS hBS hneq heq hW hz1
  go_enter Try.func6, Try.ntmps6
  go_upto_region 1 with fail
  rw [HW.out]
  clear HW
  by_cases hbig : 100 < s.size
  · have hbI : (100 : Int) < (s.size : Int) := by omega
    clear hbig
    go_wp2_with fail
    refine (awake20 _).mono ?_
    rintro e w1 ⟨rfl, hb1⟩
    have HL1 := Lib.hid (HL.out.trans (hb1.mono (by omega)))
    clear hb1
    go_wp2_with fail
    go_ret
    exact ⟨rfl, HL1.out⟩
  have hbI : (s.size : Int) ≤ 100 := by omega
  go_wp2_with (with_reducible refine ev_load rfl 38 (.tmp 3) rfl b rfl 38 #[.int .i64 q, .int .i64 t, .int .i64 k, .int .i64 n, .int .i64 j, .int .i64 i, .int .i64 p, .int .i64 x, .int .i64 y, .int .i64 z] _ HB.out hu rfl (by kernel_rfl) ?_)
  refine (HSL.out _).mono ?_
  rintro e w1 ⟨rfl, hb1⟩
  have HB1 := Lib.hid (HB.out.below hb1 HB.out.lt)
  have HX1 := Lib.hid (HX.out.below hb1 HX.out.lt)
  have HL1 := Lib.hid (HL.out.trans (hb1.mono (by omega)))
  have hz1 : b + 1 < w1.heap.size := HX1.out.lt
  clear hb1 HB HX HL HSL hWz
  by_cases hRC : RC = 0
  · have HS := HSZ.out hRC
    have hOS := HOS.out hRC
    have hBS := HBS.out hRC
    injection HS with e1 e2
    subst e1 e2
    clear HSZ HSE HOS HBS hRC
    have hTN := fun c (h : c < (sealB RB).size) => openR_err _ (open_torn RB hBS c (by rw [sealB_size] at h; exact h))
    have hSP := fun t c (h : c < (sealB RB).size) h1 h2 v hv => openR_err _ (open_spoilt RB hBS t c (by rw [sealB_size] at h; exact h) h1 h2 v hv)
    have hTE := fun c (h : c < (sealB RB).size) => open_torn RB hBS c (by rw [sealB_size] at h; exact h)
    have hSPE := fun t c (h : c < (sealB RB).size) h1 h2 v hv => open_spoilt RB hBS t c (by rw [sealB_size] at h; exact h) h1 h2 v hv
    have hSs := sealB_size RB
    generalize sealB RB = S at hOS hTN hSP hTE hSPE hSs ⊢
    have hS8 : 8 ≤ S.size := by omega
    have hS207 : S.size ≤ 207 := by omega
    clear hSs hBP hBS
    have hOP := rec_open (S ++ s) (by rw [ByteArray.size_append]; unfold maxLen at hs ⊢; omega)
    rw [hOS s] at hOP
    have HOP : Hid (∀ w, Calls Try.prog 18 #[.string (S ++ s)] w fun e w' => e = .returned (.tuple #[.agg #[.int .i64 q, .int .i64 t, .int .i64 k, .int .i64 n, .int .i64 j, .int .i64 i, .int .i64 p, .int .i64 x, .int .i64 y, .int .i64 z], .int .i64 (S.size : Nat), .int .i64 0]) ∧ Below w.heap.size w w') := Lib.hid hOP
    have HTN := Lib.hid hTN
    have HSP := Lib.hid hSP
    have HTE := Lib.hid hTE
    have HSPE := Lib.hid hSPE
    clear hOP hTN hSP hTE hSPE hOS
    have hadd : S.size + s.size ≤ 9223372036854775807 := by omega
    have hSI8 : (8 : Int) ≤ (S.size : Int) := by omega
    go_wp2_with fail
    refine (HOP.out w1).mono ?_
    rintro e w2 ⟨rfl, hb2⟩
    have HB2 := Lib.hid (HB1.out.below hb2 HB1.out.lt)
    have HX2 := Lib.hid (HX1.out.below hb2 HX1.out.lt)
    have HL2 := Lib.hid (HL1.out.trans (hb2.mono (by omega)))
    have hz2 : b + 1 < w2.heap.size := HX2.out.lt
    clear hb2 HB1 HX1 HL1 HOP hz1
    go_upto_region 7 with fail
    obtain ⟨g, hg⟩ : ∃ g, w2.heap.size = g := ⟨_, rfl⟩
    obtain ⟨W3, hW3⟩ : ∃ W3, w2.alloc (.cells #[.int .i64 q, .int .i64 t, .int .i64 k, .int .i64 n, .int .i64 j, .int .i64 i, .int .i64 p, .int .i64 x, .int .i64 y, .int .i64 z] 38) = W3 := ⟨_, rfl⟩
    have HG3 : Hid (Blk W3 g #[.int .i64 q, .int .i64 t, .int .i64 k, .int .i64 n, .int .i64 j, .int .i64 i, .int .i64 p, .int .i64 x, .int .i64 y, .int .i64 z] 38) := Lib.hid (by rw [← hW3, ← hg]; exact Blk.new w2 _ _)
    have HB3 : Hid (Blk W3 b #[.int .i64 q, .int .i64 t, .int .i64 k, .int .i64 n, .int .i64 j, .int .i64 i, .int .i64 p, .int .i64 x, .int .i64 y, .int .i64 z] 38) := Lib.hid (by rw [← hW3]; exact HB2.out.alloc _)
    have HX3 : Hid (Blk W3 (b + 1) #[.int .u8 x0, .int .u8 x1, .int .u8 x2] 39) := Lib.hid (by rw [← hW3]; exact HX2.out.alloc _)
    have HL3 : Hid (Below b w W3) := Lib.hid (by rw [← hW3]; exact HL2.out.alloc (by omega) _)
    have hz3 : b + 1 < W3.heap.size := HX3.out.lt
    rw [hW3, hg]
    clear hW3 hg HB2 HX2 HL2 hz2
    have hneq := HNEQ.out
    simp only [Bool.not_true] at hneq
    go_upto_region 9 with (first
      | (with_reducible refine ev_load rfl 38 (.tmp 9) rfl g rfl 38 #[.int .i64 q, .int .i64 t, .int .i64 k, .int .i64 n, .int .i64 j, .int .i64 i, .int .i64 p, .int .i64 x, .int .i64 y, .int .i64 z] _ HG3.out hu rfl (by kernel_rfl) ?_)
      | (with_reducible refine ev_load rfl 38 (.tmp 3) rfl b rfl 38 #[.int .i64 q, .int .i64 t, .int .i64 k, .int .i64 n, .int .i64 j, .int .i64 i, .int .i64 p, .int .i64 x, .int .i64 y, .int .i64 z] _ HB3.out hu rfl (by kernel_rfl) ?_))
    obtain ⟨K0, rfl⟩ : ∃ K : Nat, x0 = K := ⟨x0.toNat, by omega⟩
    obtain ⟨K1, rfl⟩ : ∃ K : Nat, x1 = K := ⟨x1.toNat, by omega⟩
    obtain ⟨K2, rfl⟩ : ∃ K : Nat, x2 = K := ⟨x2.toNat, by omega⟩
    obtain ⟨c0, hc0⟩ : ∃ c, K0 % S.size = c := ⟨_, rfl⟩
    obtain ⟨c1, hc1⟩ : ∃ c, K1 % S.size = c := ⟨_, rfl⟩
    have hlt0 : c0 < S.size := by have := Nat.mod_lt K0 (show 0 < S.size by omega); omega
    have hlt1 : c1 < S.size := by have := Nat.mod_lt K1 (show 0 < S.size by omega); omega
    have hr0 : (K0 : Int) % (S.size : Int) = (c0 : Int) := by rw [← hc0]; push_cast; rfl
    have hr1 : (K1 : Int) % (S.size : Int) = (c1 : Int) := by rw [← hc1]; push_cast; rfl
    have hm0 : (c0 : Int) < (S.size : Int) := by omega
    have hm1 : (c1 : Int) < (S.size : Int) := by omega
    have hw0 : IntKind.i64.wrap (K0 : Int) = (K0 : Int) := by rw [IntKind.wrap_i64]; omega
    have hw1 : IntKind.i64.wrap (K1 : Int) = (K1 : Int) := by rw [IntKind.wrap_i64]; omega
    clear hc0 hc1
    have hOP0 := rec_open (S.extract 0 c0) (by rw [ByteArray.size_extract]; unfold maxLen at hs ⊢; omega)
    rw [HTN.out c0 hlt0] at hOP0
    have hE := HTE.out c0 hlt0
    generalize (openF (S.extract 0 c0)).2.2 = E0 at hOP0 hE
    have HOP0 : Hid (∀ w, Calls Try.prog 18 #[.string (S.extract 0 c0)] w fun e w' => e = .returned (.tuple #[.agg #[.int .i64 0, .int .i64 0, .int .i64 0, .int .i64 0, .int .i64 0, .int .i64 0, .int .i64 0, .int .i64 0, .int .i64 0, .int .i64 0], .int .i64 0, .int .i64 E0]) ∧ Below w.heap.size w w') := Lib.hid hOP0
    have hE0 : (E0 == 0) = false := by rw [beq_eq_false_iff_ne]; exact hE
    have d0 := HX3.out.cell (i := 0) rfl
    clear hOP0 hE hneq HTN HTE
    go_wp2_with fail
    refine (HOP0.out W3).mono ?_
    rintro e w4 ⟨rfl, hb4⟩
    have HX4 := Lib.hid (HX3.out.below hb4 HX3.out.lt)
    have HL4 := Lib.hid (HL3.out.trans (hb4.mono (by omega)))
    clear hb4 HX3 HL3 HB3 HG3 HOP0 hz3 d0
    go_upto_region 12 with fail
    obtain ⟨W4, hW4⟩ : ∃ W4, w4.alloc (.cells #[.int .i64 0, .int .i64 0, .int .i64 0, .int .i64 0, .int .i64 0, .int .i64 0, .int .i64 0, .int .i64 0, .int .i64 0, .int .i64 0] 38) = W4 := ⟨_, rfl⟩
    have HX5 : Hid (Blk W4 (b + 1) #[.int .u8 K0, .int .u8 K1, .int .u8 K2] 39) := Lib.hid (by rw [← hW4]; exact HX4.out.alloc _)
    have HL5 : Hid (Below b w W4) := Lib.hid (by rw [← hW4]; exact HL4.out.alloc (by have := HX4.out.lt; omega) _)
    have hz5 : b + 1 < W4.heap.size := HX5.out.lt
    rw [hW4]
    clear hW4 HX4 HL4
    have d1 := HX5.out.cell (i := 1) rfl
    have d2 := HX5.out.cell (i := 2) rfl
    go_upto_region 13 with fail
    by_cases hx2 : K2 = 0
    · subst hx2
      go_wp2_with fail
      refine (awake20 _).mono ?_
      rintro e w9 ⟨rfl, hb9⟩
      have HL9 := Lib.hid (HL5.out.trans (hb9.mono (by have := HL5.out.size; omega)))
      clear hb9
      go_wp2_with fail
      go_ret
      exact ⟨rfl, HL9.out⟩
    have hx2I : ((K2 : Int) == 0) = false := by simp; omega
    by_cases hc1 : c1 = 1
    · subst hc1
      go_wp2_with fail
      refine (awake20 _).mono ?_
      rintro e w9 ⟨rfl, hb9⟩
      have HL9 := Lib.hid (HL5.out.trans (hb9.mono (by have := HL5.out.size; omega)))
      clear hb9
      go_wp2_with fail
      go_ret
      exact ⟨rfl, HL9.out⟩
    have hc1I : ((c1 : Int) == 1) = false := by simp; omega
    by_cases hc2 : c1 = 2
    · subst hc2
      go_wp2_with fail
      refine (awake20 _).mono ?_
      rintro e w9 ⟨rfl, hb9⟩
      have HL9 := Lib.hid (HL5.out.trans (hb9.mono (by have := HL5.out.size; omega)))
      clear hb9
      go_wp2_with fail
      go_ret
      exact ⟨rfl, HL9.out⟩
    have hc2I : ((c1 : Int) == 2) = false := by simp; omega
    have ht : K2 < 256 := by omega
    have hqI : (c1 : Int) < (S.size : Int) := by omega
    have hq0 : (0 : Int) ≤ (c1 : Int) := by omega
    have hconv := fun w => Lib.run_convert_string_bytes (P := Try.prog) w 9 43 5 S Try.underlying9 Try.underlying43 Try.underlying5
    go_upto_region 16 with fail
    clear hconv
    have hC := bytes_cell W4 5 S
    have BX := Lib.hid (HL5.out.trans ((bytes_below W4 5 S).mono (by omega)))
    have HX6 := Lib.hid (HX5.out.below (bytes_below W4 5 S) HX5.out.lt)
    have HB5s := Lib.hid HL5.out.size
    have hne1 : ¬ b + 1 = W4.heap.size := by omega
    have hbg : b ≤ W4.heap.size := by omega
    obtain ⟨g2, hg2⟩ : ∃ g2, W4.heap.size = g2 := ⟨_, rfl⟩
    rw [hg2] at hC hne1 hbg ⊢
    generalize Lib.bytesWorld W4 5 S = wb at *
    generalize grownCap W4 S.size 0 5 = cb at *
    clear hg2 HX5 HL5 HB5s hz5 d1 d2
    have HC := Lib.hid hC
    have hcell := (hC c1 hlt1).1
    have hfree := (hC c1 hlt1).2
    have d2 := HX6.out.cell (i := 2) rfl
    clear hC
    have hxor : bits BinOp.xor IntKind.u8 ((byteN S c1 : Nat) : Int) (K2 : Int) = ((byteN S c1 ^^^ K2 : Nat) : Int) := u8_xor_nat _ _ (byteN_lt S c1) ht
    go_region
    have HTC := Lib.hid (turn_cells wb g2 S c1 K2 ht hlt1 (fun j hj => (HC.out j hj).1))
    have B7 := Lib.hid (BX.out.setCell (p := ⟨g2, c1, none⟩) hbg (.int .u8 ((byteN S c1 ^^^ K2 : Nat) : Int)))
    clear hxor hcell hfree HC BX d2 HX6
    obtain ⟨w7, hw7⟩ : ∃ w7, wb.setCell ⟨g2, c1, none⟩ (.int .u8 ((byteN S c1 ^^^ K2 : Nat) : Int)) = w7 := ⟨_, rfl⟩
    rw [hw7] at HTC B7 ⊢
    clear hw7
    have hback := run_convert_bytes_arg (P := Try.prog) w7.drew 43 5 Try.underlying43 Try.underlying5 g2 0 S.size cb (turnNums S c1 K2) (turn_length S c1 K2) (by exact HTC.out) 9 Try.underlying9
    rw [turn_back] at hback
    have husz := setB_size S c1 (turned S c1 K2)
    have hopn := HSP.out s c1 hlt1 hc1 hc2 (turned S c1 K2) (fun _ => turned_ne S c1 K2 ht hx2 hlt1)
    have hope := HSPE.out s c1 hlt1 hc1 hc2 (turned S c1 K2) (fun _ => turned_ne S c1 K2 ht hx2 hlt1)
    generalize setB S c1 (turned S c1 K2) = u at hback husz hopn hope
    have hOP9 := rec_open (u ++ s) (by rw [ByteArray.size_append]; unfold maxLen at hs ⊢; omega)
    rw [hopn] at hOP9
    generalize (openF (u ++ s)).2.2 = E9 at hOP9 hope
    have HOP9 : Hid (∀ w, Calls Try.prog 18 #[.string (u ++ s)] w fun e w' => e = .returned (.tuple #[.agg #[.int .i64 0, .int .i64 0, .int .i64 0, .int .i64 0, .int .i64 0, .int .i64 0, .int .i64 0, .int .i64 0, .int .i64 0, .int .i64 0], .int .i64 0, .int .i64 E9]) ∧ Below w.heap.size w w') := Lib.hid hOP9
    have hE9 : (E9 == 0) = false := by rw [beq_eq_false_iff_ne]; exact hope
    have hE9n : (E9 != 0) = true := by simp [bne, hE9]
    have hadd9 : u.size + s.size ≤ 9223372036854775807 := by omega
    have heq := HEQ.out
    have hz7 : b ≤ w7.heap.size ∨ True := .inr trivial
    clear hOP9 hopn hope husz HSP HSPE HTC HEQ hz7
    go_wp2_with fail
    refine (HOP9.out _).mono ?_
    rintro e w8 ⟨rfl, hb8⟩
    have hb7 : b ≤ w7.heap.size := by have h1 := B7.out.size; omega
    have hb8 : Below w7.heap.size w7 w8 := ⟨hb8.os, hb8.tape, hb8.output, hb8.size, hb8.block⟩
    have HL8 := Lib.hid (B7.out.trans (hb8.mono hb7))
    clear hb8 HOP9 hback B7
    go_upto_region 18 with fail
    obtain ⟨g8, hg8⟩ : ∃ g8, w8.heap.size = g8 := ⟨_, rfl⟩
    obtain ⟨W8, hW8⟩ : ∃ W8, w8.alloc (.cells #[.int .i64 0, .int .i64 0, .int .i64 0, .int .i64 0, .int .i64 0, .int .i64 0, .int .i64 0, .int .i64 0, .int .i64 0, .int .i64 0] 38) = W8 := ⟨_, rfl⟩
    have HG8 : Hid (Blk W8 g8 #[.int .i64 0, .int .i64 0, .int .i64 0, .int .i64 0, .int .i64 0, .int .i64 0, .int .i64 0, .int .i64 0, .int .i64 0, .int .i64 0] 38) := Lib.hid (by rw [← hW8, ← hg8]; exact Blk.new w8 _ _)
    have HL9 : Hid (Below b w W8) := Lib.hid (by rw [← hW8]; exact HL8.out.alloc (by have := HL8.out.size; omega) _)
    rw [hW8, hg8]
    clear hW8 hg8 HL8
    go_wp2_with (with_reducible refine ev_load rfl 38 (.tmp 17) rfl g8 rfl 38 #[.int .i64 0, .int .i64 0, .int .i64 0, .int .i64 0, .int .i64 0, .int .i64 0, .int .i64 0, .int .i64 0, .int .i64 0, .int .i64 0] _ HG8.out hu rfl (by kernel_rfl) ?_)
    refine (awake20 _).mono ?_
    rintro e w9 ⟨rfl, hb9⟩
    have HLX := Lib.hid (HL9.out.trans (hb9.mono (by have := HL9.out.size; omega)))
    clear hb9
    go_wp2_with fail
    go_ret
    exact ⟨rfl, HLX.out⟩
  · have HS := HSE.out hRC
    injection HS with e1 e2
    subst e1 e2
    have hne : (S2 == 0) = false := by rw [beq_eq_false_iff_ne]; exact hRC
    clear HSZ HSE HOS HBS
    go_wp2_with fail
    refine (awake20 _).mono ?_
    rintro e w2 ⟨rfl, hb2⟩
    have HL2 := Lib.hid (HL1.out.trans (hb2.mono (by omega)))
    clear hb2
    go_wp2_with fail
    go_ret
    exact ⟨rfl, HL2.out⟩
theorem u8_bounds {n : Int} (h : (Lit.int .u8 n).wf = true) : 0 ≤ n ∧ n < 256 := by
  have := bounds_u8 h
  omega
theorem walk_RecordBack (q t k n j i p x y z : Int) (s : ByteArray) (x0 x1 x2 : Int) (w : World) (h0 : (Lit.int .i64 q).wf = true) (h1 : (Lit.int .i64 t).wf = true) (h2 : (Lit.int .i64 k).wf = true) (h3 : (Lit.int .i64 n).wf = true) (h4 : (Lit.int .i64 j).wf = true) (h5 : (Lit.int .i64 i).wf = true) (h6 : (Lit.int .i64 p).wf = true) (h7 : (Lit.int .i64 x).wf = true) (h8 : (Lit.int .i64 y).wf = true) (h9 : (Lit.int .i64 z).wf = true) (hs : s.size ≤ maxLen) (g0 : (Lit.int .u8 x0).wf = true) (g1 : (Lit.int .u8 x1).wf = true) (g2 : (Lit.int .u8 x2).wf = true) :
    Calls Try.prog 6 #[.agg #[.int .i64 q, .int .i64 t, .int .i64 k, .int .i64 n, .int .i64 j, .int .i64 i, .int .i64 p, .int .i64 x, .int .i64 y, .int .i64 z], .string s, .agg #[.int .u8 x0, .int .u8 x1, .int .u8 x2]] w fun e w' => e = .returned (.bool true) ∧ Below w.heap.size w w' := by
  have hwf : wfI [q, t, k, n, j, i, p, x, y, z] := by
    intro a ha
    simp only [List.mem_cons, List.not_mem_nil, or_false] at ha
    rcases ha with rfl | rfl | rfl | rfl | rfl | rfl | rfl | rfl | rfl | rfl <;> assumption
  exact walk_rb [q, t, k, n, j, i, p, x, y, z] rfl hwf s x0 x1 x2 w (u8_bounds g0) (u8_bounds g1) (u8_bounds g2) hs
end Go.Proofs.Ytokghlmffkboiaa
