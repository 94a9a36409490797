/-
  Open of a frame whose sum is another (reeve's layer 4).
-/
import Derived.Test.YtokghlmffkboiaaGreatFrameOpen
namespace Go.Proofs.YtokghlmffkboiaaGreat
open Go.RowKit
set_option linter.unusedVariables false
set_option linter.unusedSimpArgs false

theorem tl_ne' {a b : ByteArray} (h : a ≠ b) : (a.toList == b.toList) = false := by
  rw [ByteArray.toList_eq, ByteArray.toList_eq, beq_eq_false_iff_ne]
  intro e
  exact h (ByteArray.ext (Array.ext' e))
/-- What the panic of a sum that is another leaves: the named results' addresses stand where they stood, and the closure is deferred. -/
def SumPost (w : World) (x : Value) (y : Int) : Exit → Act → World → Prop
  | .panic c, a, w' => c = [{ v := .iface 29 (.int .i64 4), recovered := false }] ∧
      (a.tmps.getD 2 undef = .pointer (some ⟨w.heap.size, 0, none⟩) ∧ a.tmps.getD 3 undef = .pointer (some ⟨w.heap.size + 1, 0, none⟩) ∧ a.tmps.getD 4 undef = .pointer (some ⟨w.heap.size + 1 + 1, 0, none⟩)) ∧
      a.defers = [{ target := Target.fn (Fn.func 66) #[.pointer (some ⟨w.heap.size, 0, none⟩), .pointer (some ⟨w.heap.size + 1, 0, none⟩), .pointer (some ⟨w.heap.size + 1 + 1, 0, none⟩)], args := #[] }] ∧
      Blk w' w.heap.size #[x] 9 ∧ Blk w' (w.heap.size + 1) #[.int .i64 y] 3 ∧ Blk w' (w.heap.size + 1 + 1) #[.int .i64 0] 29 ∧ Below w.heap.size w w'
  | _, _, _ => False
theorem SumPost.put {W : World} {x : Value} {y : Int} {d : Nat} (hd : 5 ≤ d) (v : Value) (c : List PanicEntry) (a : Act) (w : World) (h : SumPost W x y (.panic c) (a.put (some d) v) w) : SumPost W x y (.panic c) a w := by
  obtain ⟨h0, ⟨h2, h3, h4⟩, h5, h6⟩ := h
  refine ⟨h0, ⟨?_, ?_, ?_⟩, h5, h6⟩
  · rw [← h2]; simp only [Act.put, Array.getD_eq_getD_getElem?]; rw [Array.getElem?_setIfInBounds_ne (by omega)]
  · rw [← h3]; simp only [Act.put, Array.getD_eq_getD_getElem?]; rw [Array.getElem?_setIfInBounds_ne (by omega)]
  · rw [← h4]; simp only [Act.put, Array.getD_eq_getD_getElem?]; rw [Array.getElem?_setIfInBounds_ne (by omega)]
theorem SumPost.imp {w : World} {x : Value} {y : Int} {K : Act → World → Prop} : ∀ (e : Exit) (a : Act) (w' : World), SumPost w x y e a w' → Exit.then K (bodyPostD Tryz.prog Tryz.f41 (fun en w' => en = .returned (.tuple #[.string ⟨#[]⟩, .int .i64 0, .int .i64 4]) ∧ Below w.heap.size w w')) e a w' := by
  intro e a w' h
  cases e with
  | panic c =>
    obtain ⟨rfl, ⟨h2, h3, h4⟩, h5, h6, h7, h8, h9⟩ := h
    obtain ⟨T, D⟩ := a
    cases h5
    exact door_panic x y 0 4 h2 h3 h4 h6 h7 h8 h9
  | _ => exact (h : False).elim
set_option maxRecDepth 100000 in
set_option maxHeartbeats 1600000 in
theorem open_sum (s : ByteArray) (hs : s.size ≤ maxLen) (h0 : 0 < s.size) (hx : Lib.hasPrefix s.data.toList [82] = true) (h3 : 3 ≤ s.size) (n : Nat) (hn : Oct.numFrom 0 ((rest (s.extract 1 3) 0).take 2) = n) (hn2 : n ≤ 200) (hcut : n + 7 ≤ s.size) (hsum : s.extract (n + 3) (n + 7) ≠ sumB (s.extract 1 (n + 3))) (w : World) : Calls Tryz.prog 41 #[.string s] w fun e w' => e = .returned (.tuple #[.string ⟨#[]⟩, .int .i64 0, .int .i64 4]) ∧ Below w.heap.size w w' := by
  have hmf : ∀ (fn : Fn) (first cap : Array Value) (w : World), (Instr.makeFunc fn first cap).run Tryz.prog w = .ok (.func fn first cap) w := fun _ _ _ _ => rfl
  obtain ⟨b0, b1, b2, bb⟩ := three_new w
  have B0 := Lib.hid b0
  have B1 := Lib.hid b1
  have B2 := Lib.hid b2
  have BB := Lib.hid bb
  clear b0 b1 b2 bb
  have hs63 : s.size ≤ 9223372036854775807 := by unfold maxLen at hs; omega
  have HP := fun w => Tryz.strings_HasPrefix s ⟨#[82]⟩ w
  change ∀ w, Calls _ _ _ _ fun e w' => e = .returned (.bool (Lib.hasPrefix s.data.toList [82])) ∧ _ at HP
  rw [hx] at HP
  have HP := Lib.hid HP
  have hne : (!s.toList.isEmpty) = true := not_empty h0
  clear hx
  go_enter_defers Tryz.func41, Tryz.ntmps41
  go_wp2_with fail
  refine (must_yes 3 _).mono ?_
  rintro e w1 ⟨rfl, rfl⟩
  go_wp2_with fail
  refine (HP.out _).mono ?_
  rintro e w1 ⟨rfl, rfl⟩
  go_wp2_with fail
  refine (must_yes 2 _).mono ?_
  rintro e w1 ⟨rfl, rfl⟩
  go_wp2_with fail
  refine (must_y (by simp; omega) 3 _).mono ?_
  rintro e w1 ⟨rfl, rfl⟩
  have k1 : (3 : Int) ≤ (s.size : Int) := by omega
  go_wp2_with fail
  refine (octet_new _ _).mono ?_
  rintro e w1 ⟨rfl, hc1, hb1, hz1⟩
  have C0 := Lib.hid (B0.out.below hb1 B0.out.lt)
  have C1 := Lib.hid (B1.out.below hb1 B1.out.lt)
  have C2 := Lib.hid (B2.out.below hb1 B2.out.lt)
  have CB := Lib.hid (BB.out.trans (hb1.mono BB.out.size))
  have hez : (s.extract 1 3).size = 2 := by rw [ByteArray.size_extract]; omega
  have n0 := B0.out.lt
  have n1 := B1.out.lt
  have n2 := B2.out.lt
  obtain ⟨W, hW⟩ : ∃ W, W = ((w.alloc (.cells #[.string ⟨#[]⟩] 9)).alloc (.cells #[.int .i64 0] 3)).alloc (.cells #[.int .i64 0] 29) := ⟨_, rfl⟩
  rw [← hW] at hc1 hb1 n0 n1 n2 ⊢
  have CF := cur_fixed W.heap.size (s.extract 1 3) 0 2 (by rw [hez]; decide) (by rw [hez]; decide) (by decide) (by decide) w1 hc1
  rw [hn] at CF
  have CF := Lib.hid CF
  have hWw : w.heap.size ≤ W.heap.size := by omega
  clear hc1 hb1 hz1 hez hn B0 B1 B2 BB hW
  go_wp2_with fail
  refine CF.out.mono ?_
  rintro e w2 ⟨rfl, hc2, hg2⟩
  have D0 := Lib.hid (C0.out.gby hg2 (by omega))
  have D1 := Lib.hid (C1.out.gby hg2 (by omega))
  have D2 := Lib.hid (C2.out.gby hg2 (by omega))
  have DB := Lib.hid (below_gby CB.out hg2 hWw CB.out.size)
  clear hc2 hg2 C0 C1 C2 CB n0 n1 n2
  go_wp2_with fail
  refine (must_y (by simp; omega) 9 _).mono ?_
  rintro e w1 ⟨rfl, rfl⟩
  have FS := frame_size (n : Int)
  rw [if_neg (by omega)] at FS
  have FS := Lib.hid FS
  have hwn : IntKind.i64.wrap (n : Int) = (n : Int) := by rw [IntKind.wrap_i64]; omega
  have x1 := D1.out.cell (i := 0) rfl
  have y1 := D1.out.free 0
  go_wp2_with (go_at_call 71; refine (FS.out _).mono ?_; rintro e w1 ⟨rfl, rfl⟩)
  have E0 := Lib.hid (D0.out.far (a := ⟨w.heap.size + 1, 0, none⟩) (by simp) (.int .i64 ((n : Int) + 7)))
  have E1 := Lib.hid (show Blk _ _ #[.int .i64 ((n : Int) + 7)] _ from D1.out.set 0 (.int .i64 ((n : Int) + 7)))
  have E2 := Lib.hid (D2.out.far (a := ⟨w.heap.size + 1, 0, none⟩) (by simp) (.int .i64 ((n : Int) + 7)))
  have EB := Lib.hid (DB.out.setCell (p := ⟨w.heap.size + 1, 0, none⟩) (by simp) (.int .i64 ((n : Int) + 7)))
  obtain ⟨w3, hw3⟩ : ∃ w3, w3 = w2.setCell ⟨w.heap.size + 1, 0, none⟩ (.int .i64 ((n : Int) + 7)) := ⟨_, rfl⟩
  rw [← hw3]
  have E0 : Hid (Blk w3 _ _ _) := hw3 ▸ E0
  have E1 : Hid (Blk w3 _ _ _) := hw3 ▸ E1
  have E2 : Hid (Blk w3 _ _ _) := hw3 ▸ E2
  have EB : Hid (Below _ w w3) := hw3 ▸ EB
  clear hw3 x1 y1
  refine (must_y (by simp; omega) 3 _).mono ?_
  rintro e w1 ⟨rfl, rfl⟩
  have x0 := E0.out.cell (i := 0) rfl
  have x1 := E1.out.cell (i := 0) rfl
  have y0 := E0.out.free 0
  have hw7 : (n : Int) + 7 - 4 = (n : Int) + 3 := by omega
  have hk0 : (3 : Int) ≤ (n : Int) + 3 := by omega
  have hk1 : (n : Int) + 3 ≤ (s.size : Int) := by omega
  go_upto_region 10 with fail
  have F0 := Lib.hid (show Blk _ _ #[.string (s.extract 3 (n + 3))] _ from E0.out.set 0 (.string (s.extract 3 (n + 3))))
  have F1 := Lib.hid (E1.out.far (a := ⟨w.heap.size, 0, none⟩) (by simp) (.string (s.extract 3 (n + 3))))
  have F2 := Lib.hid (E2.out.far (a := ⟨w.heap.size, 0, none⟩) (by first | (simp; done) | (simp; omega)) (.string (s.extract 3 (n + 3))))
  have FB := Lib.hid (EB.out.setCell (p := ⟨w.heap.size, 0, none⟩) (Nat.le_refl _) (.string (s.extract 3 (n + 3))))
  obtain ⟨w4, hw4⟩ : ∃ w4, w4 = w3.setCell ⟨w.heap.size, 0, none⟩ (.string (s.extract 3 (n + 3))) := ⟨_, rfl⟩
  rw [← hw4]
  have F0 : Hid (Blk w4 _ _ _) := hw4 ▸ F0
  have F1 : Hid (Blk w4 _ _ _) := hw4 ▸ F1
  have F2 : Hid (Blk w4 _ _ _) := hw4 ▸ F2
  have FB : Hid (Below _ w w4) := hw4 ▸ FB
  clear hw4 x0 x1 y0 E0 E1 E2 EB
  have x0 := F0.out.cell (i := 0) rfl
  have x1 := F1.out.cell (i := 0) rfl
  have hk2 : (0 : Int) ≤ (n : Int) + 3 := by omega
  have hk3 : (n : Int) + 3 ≤ (n : Int) + 7 := by omega
  have hk4 : (n : Int) + 7 ≤ (s.size : Int) := by omega
  have hq : ((s.extract (n + 3) (n + 7)).toList == (sumB (s.extract 1 (n + 3))).toList) = false := tl_ne' hsum
  clear hsum
  have hwr : IntKind.i64.wrap ((n : Int) + 7 - 4) = (n : Int) + 3 := by rw [IntKind.wrap_i64]; omega
  have ht1 : ((n : Int) + 3).toNat = n + 3 := by omega
  have ht2 : ((n : Int) + 7).toNat = n + 7 := by omega
  clear hw7
  have z1 : (s.extract 1 3).size ≤ 1000 := by rw [ByteArray.size_extract]; omega
  have z2 : (s.extract 3 (n + 3)).size ≤ 1000 := by rw [ByteArray.size_extract]; omega
  have hnb : Blk (w4.alloc (.cells #[.string (s.extract 1 3), .string (s.extract 3 (n + 3))] 9)).drew w4.heap.size #[.string (s.extract 1 3), .string (s.extract 3 (n + 3))] 9 := (Blk.new w4 _ _).drew
  have hd0 := hnb.cell (i := 0) rfl
  have hd1 := hnb.cell (i := 1) rfl
  have hd2 := hnb.lt
  clear hnb
  refine Code.wp_mono (SumPost.imp (w := w) (x := .string (s.extract 3 (n + 3))) (y := (n : Int) + 7)) ?_
  refine wp_region_held_drew (S := fun w' => w'.cell? ⟨w.heap.size, 0, none⟩ = some (.string (s.extract 3 (n + 3))) ∧ w'.cell? ⟨w.heap.size + 1, 0, none⟩ = some (.int .i64 ((n : Int) + 7))) (by kernel_rfl) ⟨F0.out.drew.cell (i := 0) rfl, F1.out.drew.cell (i := 0) rfl⟩ (fun hHeld => ?_)
  refine wpAnyH_take (i := 0) (oi := ({ dst := some 40, op := Op.move (Operand.tmp 0), type := 9, pos := "frame.go:67", after := #[], guard := none })) (v := (.string s)) rfl (by kernel_rfl) (by kernel_rfl) (by kernel_rfl) (SumPost.put (d := 40) (by decide) _) (Or.inl ⟨by rfl, ?_⟩) (by assumption) ?_
  · (intro w hSw; (try dsimp only at hSw); go_simp)
  try simp only [Act.put, List.setIfInBounds_toArray, List.set_cons_zero, List.set_cons_succ]
  refine wpAnyH_take (i := 1) (oi := ({ dst := some 41, op := Op.load 3 (Operand.tmp 3), type := 3, pos := "frame.go:67", after := #[], guard := none })) (v := (.int .i64 ((n : Int) + 7))) rfl (by kernel_rfl) (by kernel_rfl) (by kernel_rfl) (SumPost.put (d := 41) (by decide) _) (Or.inl ⟨by rfl, ?_⟩) (by assumption) ?_
  · (intro w hSw; (try dsimp only at hSw); go_simp)
  try simp only [Act.put, List.setIfInBounds_toArray, List.set_cons_zero, List.set_cons_succ]
  refine wpAnyH_take (i := 2) (oi := ({ dst := some 42, op := Op.binOp BinOp.sub 3 (Operand.tmp 41) (Operand.const (Value.int IntKind.i64 4)) 3, type := 3, pos := "frame.go:67", after := #[{ on := 1, ground := Ground.data }], guard := none })) (v := (.int .i64 ((n : Int) + 3))) rfl (by kernel_rfl) (by kernel_rfl) (by kernel_rfl) (SumPost.put (d := 42) (by decide) _) (Or.inl ⟨by rfl, ?_⟩) (by assumption) ?_
  · (intro w hSw; (try dsimp only at hSw); go_simp)
  try simp only [Act.put, List.setIfInBounds_toArray, List.set_cons_zero, List.set_cons_succ]
  refine wpAnyH_take (i := 3) (oi := ({ dst := some 43, op := Op.load 3 (Operand.tmp 3), type := 3, pos := "frame.go:67", after := #[], guard := none })) (v := (.int .i64 ((n : Int) + 7))) rfl (by kernel_rfl) (by kernel_rfl) (by kernel_rfl) (SumPost.put (d := 43) (by decide) _) (Or.inl ⟨by rfl, ?_⟩) (by assumption) ?_
  · (intro w hSw; (try dsimp only at hSw); go_simp)
  try simp only [Act.put, List.setIfInBounds_toArray, List.set_cons_zero, List.set_cons_succ]
  refine wpAnyH_take (i := 4) (oi := ({ dst := some 44, op := Op.slice 9 (Operand.tmp 40) (some (Operand.tmp 42)) (some (Operand.tmp 43)) none, type := 9, pos := "frame.go:67", after := #[{ on := 0, ground := Ground.data }, { on := 2, ground := Ground.data }, { on := 3, ground := Ground.data }], guard := none })) (v := (.string (s.extract (n + 3) (n + 7)))) rfl (by kernel_rfl) (by kernel_rfl) (by kernel_rfl) (SumPost.put (d := 44) (by decide) _) (Or.inl ⟨by rfl, ?_⟩) (by assumption) ?_
  · (intro w hSw; (try dsimp only at hSw); go_simp)
  try simp only [Act.put, List.setIfInBounds_toArray, List.set_cons_zero, List.set_cons_succ]
  refine wpAnyH_take (i := 5) (oi := ({ dst := some 45, op := Op.move (Operand.tmp 0), type := 9, pos := "frame.go:67", after := #[], guard := none })) (v := (.string s)) rfl (by kernel_rfl) (by kernel_rfl) (by kernel_rfl) (SumPost.put (d := 45) (by decide) _) (Or.inl ⟨by rfl, ?_⟩) (by assumption) ?_
  · (intro w hSw; (try dsimp only at hSw); go_simp)
  try simp only [Act.put, List.setIfInBounds_toArray, List.set_cons_zero, List.set_cons_succ]
  refine wpAnyH_take (i := 6) (oi := ({ dst := some 46, op := Op.slice 9 (Operand.tmp 45) (some (Operand.const (Value.int IntKind.i64 1))) (some (Operand.const (Value.int IntKind.i64 3))) none, type := 9, pos := "frame.go:67", after := #[{ on := 5, ground := Ground.data }], guard := none })) (v := (.string (s.extract 1 3))) rfl (by kernel_rfl) (by kernel_rfl) (by kernel_rfl) (SumPost.put (d := 46) (by decide) _) (Or.inl ⟨by rfl, ?_⟩) (by assumption) ?_
  · (intro w hSw; (try dsimp only at hSw); go_simp)
  try simp only [Act.put, List.setIfInBounds_toArray, List.set_cons_zero, List.set_cons_succ]
  refine wpAnyH_take (i := 7) (oi := ({ dst := some 47, op := Op.load 9 (Operand.tmp 2), type := 9, pos := "frame.go:67", after := #[], guard := none })) (v := (.string (s.extract 3 (n + 3)))) rfl (by kernel_rfl) (by kernel_rfl) (by kernel_rfl) (SumPost.put (d := 47) (by decide) _) (Or.inl ⟨by rfl, ?_⟩) (by assumption) ?_
  · (intro w hSw; (try dsimp only at hSw); go_simp)
  try simp only [Act.put, List.setIfInBounds_toArray, List.set_cons_zero, List.set_cons_succ]
  refine wpAnyH_ready (rs := [8]) (by kernel_rfl) (by simp) (AllReadyH.cons (o := ({ dst := some 48, op := Op.buildSlice 120 2 #[(0, Operand.tmp 46), (1, Operand.tmp 47)], type := 120, pos := "frame.go:67", after := #[{ on := 6, ground := Ground.data }, { on := 7, ground := Ground.data }], guard := none })) rfl (fun K hK => ?_) AllReadyH.nil)
  go_simp
  refine hK.out _ _ ⟨(F0.out.alloc _).drew.cell (i := 0) rfl, (F1.out.alloc _).drew.cell (i := 0) rfl⟩ (fun hHeld => ?_)
  clear hK K
  refine wpAnyH_ready (rs := [9]) (by kernel_rfl) (by simp) (AllReadyH.cons (o := ({ dst := some 49, op := Op.call { callee := Callee.value (Operand.func 62), args := #[Operand.tmp 48], argTypes := #[120] }, type := 9, pos := "frame.go:67", after := #[{ on := 8, ground := Ground.data }], guard := none })) rfl (fun K hK => ?_) AllReadyH.nil)
  go_simp
  refine (frame_sum w4.heap.size 2 (s.extract 1 3) (s.extract 3 (n + 3)) _ hd0 hd1 hd2 (by decide) z1 z2).mono ?_
  rintro e w5 ⟨rfl, hb5⟩
  have G0 := Lib.hid ((F0.out.alloc _).drew.below hb5 (by have := F0.out.lt; simp; omega))
  have G1 := Lib.hid ((F1.out.alloc _).drew.below hb5 (by have := F1.out.lt; simp; omega))
  have G2 := Lib.hid ((F2.out.alloc _).drew.below hb5 (by have := F2.out.lt; simp; omega))
  have GB := Lib.hid ((FB.out.alloc FB.out.size _).drew.trans (hb5.mono (by have := FB.out.size; simp; omega)))
  clear hb5
  go_wp2_with fail
  refine hK.out _ _ ⟨G0.out.cell (i := 0) rfl, G1.out.cell (i := 0) rfl⟩ (fun hHeld => ?_)
  clear hK K
  refine wpAnyH_take (i := 10) (oi := ({ dst := some 50, op := Op.binOp BinOp.eql 9 (Operand.tmp 44) (Operand.tmp 49) 9, type := 4, pos := "frame.go:67", after := #[{ on := 4, ground := Ground.data }, { on := 9, ground := Ground.data }], guard := none })) (v := (.bool false)) rfl (by kernel_rfl) (by kernel_rfl) (by kernel_rfl) (SumPost.put (d := 50) (by decide) _) (Or.inl ⟨by rfl, ?_⟩) (by assumption) ?_
  · (intro w hSw; (try dsimp only at hSw); go_simp)
  try simp only [Act.put, List.setIfInBounds_toArray, List.set_cons_zero, List.set_cons_succ]
  refine wpAnyH_ready (rs := [11]) (by kernel_rfl) (by simp) (AllReadyH.cons (o := ({ dst := some 51, op := Op.call { callee := Callee.value (Operand.func 67), args := #[Operand.tmp 50, Operand.const (Value.int IntKind.i64 4)], argTypes := #[4, 29] }, type := 0, pos := "frame.go:67", after := #[{ on := 10, ground := Ground.data }, { on := 9, ground := Ground.chain }], guard := none })) rfl (fun K hK => ?_) AllReadyH.nil)
  go_simp
  refine (must_no 4 _).mono ?_
  rintro e w6 ⟨rfl, rfl⟩
  go_wp2_with fail
  exact ⟨rfl, ⟨rfl, rfl, rfl⟩, rfl, G0.out, G1.out, G2.out, GB.out⟩
end Go.Proofs.YtokghlmffkboiaaGreat
