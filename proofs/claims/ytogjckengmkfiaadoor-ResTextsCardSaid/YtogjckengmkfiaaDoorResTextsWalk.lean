/-
  The walk of the statement ResTexts.
-/
import Derived.Test.YtogjckengmkfiaaDoorAwake08
namespace Go.Proofs.YtogjckengmkfiaaDoor
open Go.RowKit
set_option linter.unusedVariables false
set_option linter.unusedSimpArgs false

theorem below_self {B : Nat} {w W : World} (_ : Below B w W) : Below W.heap.size W W := Below.refl _ _
theorem one_box (w : World) (n : Nat) (hn : w.heap.size = n) (a : Array Value) (t : TypeId) (W : World) (hW : w.alloc (.cells a t) = W) :
    Blk W n a t ∧ Below n w W ∧ W.heap.size = n + 1 := by
  subst hW; subst hn
  exact ⟨Blk.new w _ _, (Below.refl w.heap.size w).alloc (Nat.le_refl _) _, by simp⟩
set_option maxRecDepth 100000 in
set_option maxHeartbeats 6400000 in
theorem walk_rt (a0 a1 a2 : Int) (s : ByteArray) (w : World) (hi : ∀ n ∈ [a0, a1, a2], inI n) (hs : s.size ≤ maxLen) (hL : Laid w) : Calls Tryd.prog 10 #[.agg #[.int .i64 a0, .int .i64 a1, .int .i64 a2], .string s] w fun e w' => e = .returned (.bool true) ∧ Below w.heap.size w w' := by
  have AW := Lib.hid awake08
  have hs63 : s.size ≤ 9223372036854775807 := by unfold maxLen at hs; omega
  by_cases h1 : 200 < s.size
  · have h1I : (200 : Int) < (s.size : Int) := by omega
    obtain ⟨n, hn⟩ : ∃ n, w.heap.size = n := ⟨_, rfl⟩
    obtain ⟨W, hW⟩ : ∃ W, w.alloc (.cells #[.int .i64 a0, .int .i64 a1, .int .i64 a2] 53) = W := ⟨_, rfl⟩
    obtain ⟨kA, kl, kz⟩ := one_box w n hn _ _ W hW
    have KA := Lib.hid kA
    have KL := Lib.hid kl
    have LL := Lib.hid (hL.below (hn ▸ kl))
    have HW := Lib.hid hW
    have HN := Lib.hid hn
    rw [hn]
    clear hW kl kz kA hL
    clear h1 hi hs
    go_enter Tryd.func10, Tryd.ntmps10
    go_upto_region 1 with fail
    rw [HW.out]
    try rw [HN.out]
    clear HW
    go_wp2_with fail
    refine (AW.out _ LL.out).mono ?_
    rintro e w1 ⟨rfl, hb⟩
    replace KA := Lib.hid (KA.out.below hb KA.out.lt)
    replace KL := Lib.hid (KL.out.trans (hb.mono (by have := KL.out.size; have := HN.out; omega)))
    replace LL := Lib.hid (LL.out.below hb)
    clear hb
    go_wp2_with fail
    go_ret
    exact ⟨rfl, KL.out⟩
  have h1I : (s.size : Int) ≤ 200 := by omega
  have h1 := fun w hL => res_parse s (by omega) w hL
  have h2 := fun w => ref08_parse s (by omega) w
  have hl := resP_length s.data.toList
  generalize resP s.data.toList = R at h1 h2 hl
  obtain ⟨R1, e1⟩ := R
  obtain ⟨x0, x1, x2, rfl⟩ := three_of (show R1.length = 3 from hl)
  have H1 := Lib.hid (fun (w : World) (hL : Laid w) => show Calls Tryd.prog 56 #[.string s] w fun e w' => e = .returned (.tuple #[.agg #[.int .i64 x0, .int .i64 x1, .int .i64 x2], .int .i64 e1]) ∧ Below w.heap.size w w' from h1 w hL)
  have H2 := Lib.hid (fun (w : World) => show Calls Tryd.prog 57 #[.string s] w fun e w' => e = .returned (.tuple #[.agg #[.int .i64 x0, .int .i64 x1, .int .i64 x2], .int .i64 e1]) ∧ Below w.heap.size w w' from h2 w)
  have q1 : ∀ w, (binOp .eql 53 (.agg #[.int .i64 x0, .int .i64 x1, .int .i64 x2]) (.agg #[.int .i64 x0, .int .i64 x1, .int .i64 x2])).run Tryd.prog w = .ok (.bool true) w := fun w => eql_same [x0, x1, x2] rfl w
  have q2 : ∀ w, (binOp .eql 53 (.agg #[.int .i64 a0, .int .i64 a1, .int .i64 a2]) (.agg #[.int .i64 a0, .int .i64 a1, .int .i64 a2])).run Tryd.prog w = .ok (.bool true) w := fun w => eql_same [a0, a1, a2] rfl w
  have q3 : (e1 == e1) = true := by simp
  clear h1 h2 hl
  have hzz : (strL (listL [a0, a1, a2])).size ≤ 100000 := by
    rw [strL_size]; have := listL_len [a0, a1, a2] hi; change _ ≤ 21 * 3 at this; omega
  have h1 := fun w hL => res_text [a0, a1, a2] rfl hi w hL
  have h2 := fun w => ref08_text [a0, a1, a2] rfl hi w
  have h3 := fun w hL => res_parse (strL (listL [a0, a1, a2])) hzz w hL
  rw [strL_list, resP_listL [a0, a1, a2] rfl hi] at h3
  generalize strL (listL [a0, a1, a2]) = X at h1 h2 h3
  have H3 := Lib.hid (fun (w : World) (hL : Laid w) => show Calls Tryd.prog 58 #[.agg #[.int .i64 a0, .int .i64 a1, .int .i64 a2]] w fun e w' => e = .returned (.string X) ∧ Below w.heap.size w w' from h1 w hL)
  have H4 := Lib.hid (fun (w : World) => show Calls Tryd.prog 59 #[.agg #[.int .i64 a0, .int .i64 a1, .int .i64 a2]] w fun e w' => e = .returned (.string X) ∧ Below w.heap.size w w' from h2 w)
  have H5 := Lib.hid (fun (w : World) (hL : Laid w) => show Calls Tryd.prog 56 #[.string X] w fun e w' => e = .returned (.tuple #[.agg #[.int .i64 a0, .int .i64 a1, .int .i64 a2], .int .i64 0]) ∧ Below w.heap.size w w' from h3 w hL)
  have q4 : (X.toList == X.toList) = true := by simp
  clear h1 h2 h3 hi hs hzz
  obtain ⟨n, hn⟩ : ∃ n, w.heap.size = n := ⟨_, rfl⟩
  obtain ⟨W, hW⟩ : ∃ W, w.alloc (.cells #[.int .i64 a0, .int .i64 a1, .int .i64 a2] 53) = W := ⟨_, rfl⟩
  obtain ⟨kA, kl, kz⟩ := one_box w n hn _ _ W hW
  have KA := Lib.hid kA
  have KL := Lib.hid kl
  have LL := Lib.hid (hL.below (hn ▸ kl))
  have HW := Lib.hid hW
  have HN := Lib.hid hn
  rw [hn]
  clear hW kl kz kA hL
  go_enter Tryd.func10, Tryd.ntmps10
  go_upto_region 1 with fail
  rw [HW.out]
  try rw [HN.out]
  clear HW
  go_wp2_with fail
  refine (H1.out _ LL.out).mono ?_
  rintro e w1 ⟨rfl, hb⟩
  replace KA := Lib.hid (KA.out.below hb KA.out.lt)
  replace KL := Lib.hid (KL.out.trans (hb.mono (by have := KL.out.size; have := HN.out; omega)))
  replace LL := Lib.hid (LL.out.below hb)
  clear hb
  obtain ⟨m1, hm⟩ : ∃ m, w1.heap.size = m := ⟨_, rfl⟩
  have KN := Blk.new w1 #[.int .i64 x0, .int .i64 x1, .int .i64 x2] 53
  rw [hm] at KN
  replace KA := Lib.hid (KA.out.alloc (.cells #[.int .i64 x0, .int .i64 x1, .int .i64 x2] 53))
  replace LL := Lib.hid (LL.out.below ((Below.refl _ _).alloc (Nat.le_refl _) (.cells #[.int .i64 x0, .int .i64 x1, .int .i64 x2] 53)))
  replace KL := Lib.hid (KL.out.alloc (by have := KL.out.size; have := HN.out; omega) (.cells #[.int .i64 x0, .int .i64 x1, .int .i64 x2] 53))
  go_upto_region 4 with fail
  obtain ⟨W1, hW⟩ : ∃ W, w1.alloc (.cells #[.int .i64 x0, .int .i64 x1, .int .i64 x2] 53) = W := ⟨_, rfl⟩
  rw [hW] at KN KA KL LL ⊢
  try rw [hm]
  have KX := Lib.hid KN
  clear KN hW hm
  go_wp2_with fail
  refine (H2.out _).mono ?_
  rintro e w2 ⟨rfl, hb⟩
  replace KA := Lib.hid (KA.out.below hb KA.out.lt)
  replace KX := Lib.hid (KX.out.below hb KX.out.lt)
  replace KL := Lib.hid (KL.out.trans (hb.mono (by have := KL.out.size; have := HN.out; omega)))
  replace LL := Lib.hid (LL.out.below hb)
  clear hb
  obtain ⟨m2, hm⟩ : ∃ m, w2.heap.size = m := ⟨_, rfl⟩
  have KN := Blk.new w2 #[.int .i64 x0, .int .i64 x1, .int .i64 x2] 53
  rw [hm] at KN
  replace KA := Lib.hid (KA.out.alloc (.cells #[.int .i64 x0, .int .i64 x1, .int .i64 x2] 53))
  replace KX := Lib.hid (KX.out.alloc (.cells #[.int .i64 x0, .int .i64 x1, .int .i64 x2] 53))
  replace LL := Lib.hid (LL.out.below ((Below.refl _ _).alloc (Nat.le_refl _) (.cells #[.int .i64 x0, .int .i64 x1, .int .i64 x2] 53)))
  replace KL := Lib.hid (KL.out.alloc (by have := KL.out.size; have := HN.out; omega) (.cells #[.int .i64 x0, .int .i64 x1, .int .i64 x2] 53))
  go_upto_region 5 with fail
  obtain ⟨W2, hW⟩ : ∃ W, w2.alloc (.cells #[.int .i64 x0, .int .i64 x1, .int .i64 x2] 53) = W := ⟨_, rfl⟩
  rw [hW] at KN KA KX KL LL ⊢
  try rw [hm]
  have KY := Lib.hid KN
  clear KN hW hm
  have Ad0 := KA.out.cell (i := 0) rfl
  have Ad1 := KA.out.cell (i := 1) rfl
  have Ad2 := KA.out.cell (i := 2) rfl
  go_wp2_with fail
  refine (H3.out _ LL.out).mono ?_
  rintro e w3 ⟨rfl, hb⟩
  replace KA := Lib.hid (KA.out.below hb KA.out.lt)
  replace KX := Lib.hid (KX.out.below hb KX.out.lt)
  replace KY := Lib.hid (KY.out.below hb KY.out.lt)
  replace KL := Lib.hid (KL.out.trans (hb.mono (by have := KL.out.size; have := HN.out; omega)))
  replace LL := Lib.hid (LL.out.below hb)
  clear hb
  clear Ad0 Ad1 Ad2
  go_wp2_with fail
  refine (H5.out _ LL.out).mono ?_
  rintro e w4 ⟨rfl, hb⟩
  replace KA := Lib.hid (KA.out.below hb KA.out.lt)
  replace KX := Lib.hid (KX.out.below hb KX.out.lt)
  replace KY := Lib.hid (KY.out.below hb KY.out.lt)
  replace KL := Lib.hid (KL.out.trans (hb.mono (by have := KL.out.size; have := HN.out; omega)))
  replace LL := Lib.hid (LL.out.below hb)
  clear hb
  obtain ⟨m4, hm⟩ : ∃ m, w4.heap.size = m := ⟨_, rfl⟩
  have KN := Blk.new w4 #[.int .i64 a0, .int .i64 a1, .int .i64 a2] 53
  rw [hm] at KN
  replace KA := Lib.hid (KA.out.alloc (.cells #[.int .i64 a0, .int .i64 a1, .int .i64 a2] 53))
  replace KX := Lib.hid (KX.out.alloc (.cells #[.int .i64 a0, .int .i64 a1, .int .i64 a2] 53))
  replace KY := Lib.hid (KY.out.alloc (.cells #[.int .i64 a0, .int .i64 a1, .int .i64 a2] 53))
  replace LL := Lib.hid (LL.out.below ((Below.refl _ _).alloc (Nat.le_refl _) (.cells #[.int .i64 a0, .int .i64 a1, .int .i64 a2] 53)))
  replace KL := Lib.hid (KL.out.alloc (by have := KL.out.size; have := HN.out; omega) (.cells #[.int .i64 a0, .int .i64 a1, .int .i64 a2] 53))
  go_upto_region 6 with fail
  obtain ⟨W4, hW⟩ : ∃ W, w4.alloc (.cells #[.int .i64 a0, .int .i64 a1, .int .i64 a2] 53) = W := ⟨_, rfl⟩
  rw [hW] at KN KA KX KY KL LL ⊢
  try rw [hm]
  have KZ := Lib.hid KN
  clear KN hW hm
  have Ad0 := KA.out.cell (i := 0) rfl
  have Ad1 := KA.out.cell (i := 1) rfl
  have Ad2 := KA.out.cell (i := 2) rfl
  have Xd0 := KX.out.cell (i := 0) rfl
  have Xd1 := KX.out.cell (i := 1) rfl
  have Xd2 := KX.out.cell (i := 2) rfl
  have Yd0 := KY.out.cell (i := 0) rfl
  have Yd1 := KY.out.cell (i := 1) rfl
  have Yd2 := KY.out.cell (i := 2) rfl
  have Zd0 := KZ.out.cell (i := 0) rfl
  have Zd1 := KZ.out.cell (i := 1) rfl
  have Zd2 := KZ.out.cell (i := 2) rfl
  have Al := KA.out.lt
  have Xl := KX.out.lt
  have Yl := KY.out.lt
  have Zl := KZ.out.lt
  have hw := below_self KL.out
  go_region_held3 (fun w' => w'.cell? ⟨n, 0, none⟩ = some (.int .i64 a0) ∧ w'.cell? ⟨n, 1, none⟩ = some (.int .i64 a1) ∧ w'.cell? ⟨n, 2, none⟩ = some (.int .i64 a2) ∧ w'.cell? ⟨m1, 0, none⟩ = some (.int .i64 x0) ∧ w'.cell? ⟨m1, 1, none⟩ = some (.int .i64 x1) ∧ w'.cell? ⟨m1, 2, none⟩ = some (.int .i64 x2) ∧ w'.cell? ⟨m2, 0, none⟩ = some (.int .i64 x0) ∧ w'.cell? ⟨m2, 1, none⟩ = some (.int .i64 x1) ∧ w'.cell? ⟨m2, 2, none⟩ = some (.int .i64 x2) ∧ w'.cell? ⟨m4, 0, none⟩ = some (.int .i64 a0) ∧ w'.cell? ⟨m4, 1, none⟩ = some (.int .i64 a1) ∧ w'.cell? ⟨m4, 2, none⟩ = some (.int .i64 a2))
    (first | (go_keep; done) | exact ⟨keepB hw Ad0 Al, keepB hw Ad1 Al, keepB hw Ad2 Al, keepB hw Xd0 Xl, keepB hw Xd1 Xl, keepB hw Xd2 Xl, keepB hw Yd0 Yl, keepB hw Yd1 Yl, keepB hw Yd2 Yl, keepB hw Zd0 Zl, keepB hw Zd1 Zl, keepB hw Zd2 Zl⟩)
    (first
      | (go_at_call 58; refine (H3.out _ (LL.out.below (by exact ⟨hw.os, hw.tape, hw.output, hw.size, hw.block⟩))).mono ?_; rintro e wc ⟨rfl, hbq⟩; replace hw := hw.trans (Below.mono (by exact ⟨hbq.os, hbq.tape, hbq.output, hbq.size, hbq.block⟩) hw.size); clear hbq)
      | (go_at_call 59; refine (H4.out _).mono ?_; rintro e wc ⟨rfl, hbq⟩; replace hw := hw.trans (Below.mono (by exact ⟨hbq.os, hbq.tape, hbq.output, hbq.size, hbq.block⟩) hw.size); clear hbq)
      | (go_at_call 55; refine (AW.out _ (LL.out.below (by exact ⟨hw.os, hw.tape, hw.output, hw.size, hw.block⟩))).mono ?_; rintro e wc ⟨rfl, hbq⟩; replace hw := hw.trans (Below.mono (by exact ⟨hbq.os, hbq.tape, hbq.output, hbq.size, hbq.block⟩) hw.size); clear hbq))
  have KL9 := Lib.hid (KL.out.trans (hw.mono (by have := KL.out.size; have := HN.out; omega)))
  go_wp2_with fail
  go_ret
  exact ⟨rfl, KL9.out⟩
theorem inI_of8 {n : Int} (h : (Lit.int .i64 n).wf = true) : inI n := by
  have := bounds_i64 h
  unfold inI; omega
theorem walk_ResTexts (a0 a1 a2 : Int) (s : ByteArray) (w : World) (wa0 : (Lit.int .i64 a0).wf = true) (wa1 : (Lit.int .i64 a1).wf = true) (wa2 : (Lit.int .i64 a2).wf = true) (hs : s.size ≤ maxLen) (hl : laidMetH Tryd.prog Rows.resTextsRow.laid w) :
    Calls Tryd.prog 10 #[.agg #[.int .i64 a0, .int .i64 a1, .int .i64 a2], .string s] w fun e w' => e = .returned (.bool true) ∧ Below w.heap.size w w' :=
  walk_rt a0 a1 a2 s w (by intro n hn; simp at hn; rcases hn with rfl | rfl | rfl <;> (apply inI_of8; assumption)) hs (laid_of7 hl)
end Go.Proofs.YtogjckengmkfiaaDoor
