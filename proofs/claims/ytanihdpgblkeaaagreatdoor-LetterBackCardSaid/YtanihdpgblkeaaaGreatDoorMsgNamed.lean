/-
  What a message's kind names, as places (reeve's layer 35): the walk.
-/
import Derived.Test.YtanihdpgblkeaaaGreatDoorMsgMath
import Derived.Test.YtanihdpgblkeaaaGreatDoorEventAll
import Derived.Laws.OwnMore
import Derived.Deep.Onto
namespace Go.Proofs.YtanihdpgblkeaaaGreatDoor
open Go.RowKit
set_option linter.unusedVariables false
set_option linter.unusedSimpArgs false

theorem own_grown_ {B : Nat} {w0 w1 w2 : World} {v : Value} {T : TypeId} {n m : Nat} {xs : List Value} (h : w1.ownsRow B T m v n xs) (hb : Below B w0 w1) (hB : B ≤ w1.heap.size) (hg : w1.grownBy w2 v.ownBlock) : Below B w0 w2 := by
  refine hb.trans ⟨hg.os, hg.tape, hg.output, hg.size, fun k hk => hg.block k (Nat.lt_of_lt_of_le hk hB) (fun e => ?_)⟩
  obtain ⟨_, ⟨rfl, _⟩ | ⟨g, cap, cur, rfl, hg1, _⟩⟩ := h
  · cases e
  · have : g = k := by have e2 := e.symm; simpa [Value.ownBlock] using e2
    omega
theorem three_new_ (w : World) (T : TypeId) (a b c : Value) : ∀ j u, [a, b, c][j]? = some u → (w.alloc (.cells #[a, b, c] T)).cell? ((⟨w.heap.size, 0, none⟩ : Addr).add j) = some u := by
  intro j u hj
  have h := Blk.new w #[a, b, c] T
  have e : (⟨w.heap.size, 0, none⟩ : Addr).add j = ⟨w.heap.size, j, none⟩ := by simp [Addr.add]; intro h; exact h.symm
  rw [e]
  exact h.cell (by simpa using hj)
theorem rowV_own {B : Nat} {w : World} {v : Value} {T : TypeId} {n : Nat} {xs : List Value} (h : w.ownsRow B T 1 v n xs) : RowV B w v xs := by
  have hc := fun k (hg : v.ownBlock = some k) => World.ownsRow.cells h (g := k) hg
  have hl := h.1
  obtain ⟨h1, ⟨rfl, h2⟩ | ⟨b, cap, cur, rfl, hg, hh, _⟩⟩ := h
  · refine .inl ⟨none, 0, rfl, List.eq_nil_of_length_eq_zero (by omega)⟩
  · have hn : n = xs.length := by omega
    subst hn
    refine .inr ⟨b, 0, cap, rfl, hg, (Array.getElem?_eq_some_iff.1 hh).1, fun j x hj => ?_⟩
    have q := hc b rfl j x hj
    have e : (⟨b, 0, none⟩ : Addr).add j = ⟨b, j, none⟩ := by simp [Addr.add]; intro h; exact h.symm
    rw [e] at q
    rw [Nat.zero_add]; exact q
set_option maxRecDepth 100000 in
set_option maxHeartbeats 1600000 in
theorem mnamed_three (B g c : Nat) (v : Value) (xs : List Value) (w : World) (hB : B ≤ w.heap.size) (hown : w.ownsRow B 61 1 v 2 xs) (hc0 : w.cell? ⟨c, 0, none⟩ = some (.pointer (some ⟨g, 0, none⟩))) (hcB : c < B) :
    Calls Tryz.prog 96 #[v, .pointer (some ⟨c, 0, none⟩)] w fun e w' => ∃ v', e = .returned v' ∧ w'.ownsRow B 61 1 v' 5 (xs ++ [.pointer (some ⟨g, 9, none⟩), .pointer (some ⟨g, 10, none⟩), .pointer (some ⟨g, 11, none⟩)]) ∧ Below B w w' := by
  obtain ⟨i0, hi, hz, hsize, hby⟩ : ∃ i, Tryz.prog.info? 61 = some i ∧ i.zero = some (.pointer none) ∧ i.size = 1 ∧ i.bytes = 8 := ⟨_, rfl, rfl, rfl, rfl⟩
  have HI := Lib.hid hi
  have HO := Lib.hid hown
  clear hi hown
  go_enter Tryz.func96, Tryz.ntmps96
  go_upto_region 1 with fail
  refine wp_region_held_drew (S := (fun w' => w'.cell? ⟨c, 0, none⟩ = some (.pointer (some ⟨g, 0, none⟩)))) (by kernel_rfl) hc0 (fun hHeld => ?_)
  refine wpAnyH_take (i := 0) (oi := ({ dst := some 4, op := Op.move (Operand.tmp 0), type := 94, pos := "msg.go:69", after := #[], guard := none })) (v := v) rfl (by kernel_rfl) (by kernel_rfl) (by kernel_rfl) (fun _ _ _ h => h) (Or.inl ⟨by rfl, ?_⟩) (by assumption) ?_
  · (intro w hSw; (try dsimp only at hSw); go_simp)
  try simp only [Act.put, List.setIfInBounds_toArray, List.set_cons_zero, List.set_cons_succ]
  refine wpAnyH_take (i := 1) (oi := ({ dst := some 5, op := Op.load 59 (Operand.tmp 1), type := 59, pos := "msg.go:69", after := #[], guard := none })) (v := (.pointer (some ⟨g, 0, none⟩))) rfl (by kernel_rfl) (by kernel_rfl) (by kernel_rfl) (fun _ _ _ h => h) (Or.inl ⟨by rfl, ?_⟩) (by assumption) ?_
  · (intro w hSw; (try dsimp only at hSw); go_simp)
  try simp only [Act.put, List.setIfInBounds_toArray, List.set_cons_zero, List.set_cons_succ]
  refine wpAnyH_take (i := 2) (oi := ({ dst := some 6, op := Op.nilCheck (Operand.tmp 5), type := 0, pos := "msg.go:69", after := #[{ on := 1, ground := Ground.data }], guard := none })) (v := (.pointer (some ⟨g, 0, none⟩))) rfl (by kernel_rfl) (by kernel_rfl) (by kernel_rfl) (fun _ _ _ h => h) (Or.inl ⟨by rfl, ?_⟩) (by assumption) ?_
  · (intro w hSw; (try dsimp only at hSw); go_simp)
  try simp only [Act.put, List.setIfInBounds_toArray, List.set_cons_zero, List.set_cons_succ]
  refine wpAnyH_take (i := 3) (oi := ({ dst := some 7, op := Op.fieldAddr 25 (Operand.tmp 6) 9, type := 0, pos := "msg.go:69", after := #[{ on := 2, ground := Ground.data }], guard := none })) (v := (.pointer (some ⟨g, 9, none⟩))) rfl (by kernel_rfl) (by kernel_rfl) (by kernel_rfl) (fun _ _ _ h => h) (Or.inl ⟨by rfl, ?_⟩) (by assumption) ?_
  · (intro w hSw; (try dsimp only at hSw); go_simp)
  try simp only [Act.put, List.setIfInBounds_toArray, List.set_cons_zero, List.set_cons_succ]
  refine wpAnyH_take (i := 4) (oi := ({ dst := some 8, op := Op.indexAddr 23 (Operand.tmp 7) (Operand.const (Value.int IntKind.i64 0)), type := 0, pos := "msg.go:69", after := #[{ on := 3, ground := Ground.data }], guard := none })) (v := (.pointer (some ⟨g, 9, none⟩))) rfl (by kernel_rfl) (by kernel_rfl) (by kernel_rfl) (fun _ _ _ h => h) (Or.inl ⟨by rfl, ?_⟩) (by assumption) ?_
  · (intro w hSw; (try dsimp only at hSw); go_simp)
  try simp only [Act.put, List.setIfInBounds_toArray, List.set_cons_zero, List.set_cons_succ]
  refine wpAnyH_take (i := 5) (oi := ({ dst := some 9, op := Op.load 59 (Operand.tmp 1), type := 59, pos := "msg.go:69", after := #[], guard := none })) (v := (.pointer (some ⟨g, 0, none⟩))) rfl (by kernel_rfl) (by kernel_rfl) (by kernel_rfl) (fun _ _ _ h => h) (Or.inl ⟨by rfl, ?_⟩) (by assumption) ?_
  · (intro w hSw; (try dsimp only at hSw); go_simp)
  try simp only [Act.put, List.setIfInBounds_toArray, List.set_cons_zero, List.set_cons_succ]
  refine wpAnyH_take (i := 6) (oi := ({ dst := some 10, op := Op.nilCheck (Operand.tmp 9), type := 0, pos := "msg.go:69", after := #[{ on := 5, ground := Ground.data }], guard := none })) (v := (.pointer (some ⟨g, 0, none⟩))) rfl (by kernel_rfl) (by kernel_rfl) (by kernel_rfl) (fun _ _ _ h => h) (Or.inl ⟨by rfl, ?_⟩) (by assumption) ?_
  · (intro w hSw; (try dsimp only at hSw); go_simp)
  try simp only [Act.put, List.setIfInBounds_toArray, List.set_cons_zero, List.set_cons_succ]
  refine wpAnyH_take (i := 7) (oi := ({ dst := some 11, op := Op.fieldAddr 25 (Operand.tmp 10) 9, type := 0, pos := "msg.go:69", after := #[{ on := 6, ground := Ground.data }], guard := none })) (v := (.pointer (some ⟨g, 9, none⟩))) rfl (by kernel_rfl) (by kernel_rfl) (by kernel_rfl) (fun _ _ _ h => h) (Or.inl ⟨by rfl, ?_⟩) (by assumption) ?_
  · (intro w hSw; (try dsimp only at hSw); go_simp)
  try simp only [Act.put, List.setIfInBounds_toArray, List.set_cons_zero, List.set_cons_succ]
  refine wpAnyH_take (i := 8) (oi := ({ dst := some 12, op := Op.indexAddr 23 (Operand.tmp 11) (Operand.const (Value.int IntKind.i64 1)), type := 0, pos := "msg.go:69", after := #[{ on := 7, ground := Ground.data }], guard := none })) (v := (.pointer (some ⟨g, 10, none⟩))) rfl (by kernel_rfl) (by kernel_rfl) (by kernel_rfl) (fun _ _ _ h => h) (Or.inl ⟨by rfl, ?_⟩) (by assumption) ?_
  · (intro w hSw; (try dsimp only at hSw); go_simp)
  try simp only [Act.put, List.setIfInBounds_toArray, List.set_cons_zero, List.set_cons_succ]
  refine wpAnyH_take (i := 9) (oi := ({ dst := some 13, op := Op.load 59 (Operand.tmp 1), type := 59, pos := "msg.go:69", after := #[], guard := none })) (v := (.pointer (some ⟨g, 0, none⟩))) rfl (by kernel_rfl) (by kernel_rfl) (by kernel_rfl) (fun _ _ _ h => h) (Or.inl ⟨by rfl, ?_⟩) (by assumption) ?_
  · (intro w hSw; (try dsimp only at hSw); go_simp)
  try simp only [Act.put, List.setIfInBounds_toArray, List.set_cons_zero, List.set_cons_succ]
  refine wpAnyH_take (i := 10) (oi := ({ dst := some 14, op := Op.nilCheck (Operand.tmp 13), type := 0, pos := "msg.go:69", after := #[{ on := 9, ground := Ground.data }], guard := none })) (v := (.pointer (some ⟨g, 0, none⟩))) rfl (by kernel_rfl) (by kernel_rfl) (by kernel_rfl) (fun _ _ _ h => h) (Or.inl ⟨by rfl, ?_⟩) (by assumption) ?_
  · (intro w hSw; (try dsimp only at hSw); go_simp)
  try simp only [Act.put, List.setIfInBounds_toArray, List.set_cons_zero, List.set_cons_succ]
  refine wpAnyH_take (i := 11) (oi := ({ dst := some 15, op := Op.fieldAddr 25 (Operand.tmp 14) 9, type := 0, pos := "msg.go:69", after := #[{ on := 10, ground := Ground.data }], guard := none })) (v := (.pointer (some ⟨g, 9, none⟩))) rfl (by kernel_rfl) (by kernel_rfl) (by kernel_rfl) (fun _ _ _ h => h) (Or.inl ⟨by rfl, ?_⟩) (by assumption) ?_
  · (intro w hSw; (try dsimp only at hSw); go_simp)
  try simp only [Act.put, List.setIfInBounds_toArray, List.set_cons_zero, List.set_cons_succ]
  refine wpAnyH_take (i := 12) (oi := ({ dst := some 16, op := Op.indexAddr 23 (Operand.tmp 15) (Operand.const (Value.int IntKind.i64 2)), type := 0, pos := "msg.go:69", after := #[{ on := 11, ground := Ground.data }], guard := none })) (v := (.pointer (some ⟨g, 11, none⟩))) rfl (by kernel_rfl) (by kernel_rfl) (by kernel_rfl) (fun _ _ _ h => h) (Or.inl ⟨by rfl, ?_⟩) (by assumption) ?_
  · (intro w hSw; (try dsimp only at hSw); go_simp)
  try simp only [Act.put, List.setIfInBounds_toArray, List.set_cons_zero, List.set_cons_succ]
  refine wpAnyH_ready (rs := [13]) (by kernel_rfl) (by simp) (AllReadyH.cons (o := ({ dst := some 17, op := Op.buildSlice 94 3 #[(0, Operand.tmp 8), (1, Operand.tmp 12), (2, Operand.tmp 16)], type := 94, pos := "msg.go:69", after := #[{ on := 4, ground := Ground.data }, { on := 8, ground := Ground.data }, { on := 12, ground := Ground.data }], guard := none })) rfl (fun K hK => ?_) AllReadyH.nil)
  go_simp
  clear hHeld
  refine hK.out _ _ (keepA hc0 _) (fun hHeld => ?_)
  clear hK K
  try simp only [Act.put, List.setIfInBounds_toArray, List.set_cons_zero, List.set_cons_succ]
  refine wpAnyH_ready (rs := [14]) (by kernel_rfl) (by simp) (AllReadyH.cons (o := ({ dst := some 18, op := Op.call { callee := Callee.builtin Builtin.append, args := #[Operand.tmp 4, Operand.tmp 17], argTypes := #[94, 94] }, type := 94, pos := "msg.go:69", after := #[{ on := 0, ground := Ground.data }, { on := 13, ground := Ground.data }], guard := none })) rfl (fun K hK => ?_) AllReadyH.nil)
  rw [if_pos (by rfl)]
  refine wp_append_own _ _ _ 94 rfl B 61 i0 (.pointer none) 1 8 Tryz.underlying94 HI.out hz hsize hby rfl (by decide) _ 2 xs rfl ?a1 ⟨_, 0, none⟩ 3 3 [.pointer (some ⟨g, 9, none⟩), .pointer (some ⟨g, 10, none⟩), .pointer (some ⟨g, 11, none⟩)] rfl rfl ?a2 ?a3 ?a4 ?a5 ?a6 ?a7
  case a1 => exact (HO.out.alloc _)
  case a2 => exact three_new_ _ _ _ _ _
  case a3 => intro u hu; simp at hu; rcases hu with rfl | rfl | rfl <;> rfl
  case a4 => unfold maxLen; omega
  case a5 => omega
  case a6 => simp; omega
  intro v' w4 hown2 hgrow _
  have HO3 := Lib.hid hown2
  change World.grownBy _ w4 v.ownBlock at hgrow
  have HB3 : Hid (Below B w w4) := Lib.hid (own_grown_ (by exact (HO.out.alloc _)) (by have h := (Below.refl B w).alloc hB (.cells #[.pointer (some ⟨g, 9, none⟩), .pointer (some ⟨g, 10, none⟩), .pointer (some ⟨g, 11, none⟩)] 61); exact ⟨h.os, h.tape, h.output, h.size, h.block⟩) (by simp; omega) hgrow)
  have hcw := keepB HB3.out hc0 hcB
  clear hown2 hgrow
  clear hHeld
  refine hK.out _ _ hcw (fun hHeld => ?_)
  clear hK K
  try simp only [Act.put, List.setIfInBounds_toArray, List.set_cons_zero, List.set_cons_succ]
  refine wpAnyH_take (i := 15) (oi := ({ dst := some 3, op := Op.assign (Operand.tmp 18), type := 94, pos := "msg.go:69", after := #[{ on := 14, ground := Ground.data }, { on := 14, ground := Ground.chain }, { on := 0, ground := Ground.phase }, { on := 1, ground := Ground.phase }, { on := 2, ground := Ground.phase }, { on := 3, ground := Ground.phase }, { on := 4, ground := Ground.phase }, { on := 5, ground := Ground.phase }, { on := 6, ground := Ground.phase }, { on := 7, ground := Ground.phase }, { on := 8, ground := Ground.phase }, { on := 9, ground := Ground.phase }, { on := 10, ground := Ground.phase }, { on := 11, ground := Ground.phase }, { on := 12, ground := Ground.phase }, { on := 13, ground := Ground.phase }, { on := 14, ground := Ground.phase }], guard := none })) (v := v') rfl (by kernel_rfl) (by kernel_rfl) (by kernel_rfl) (fun _ _ _ h => h) (Or.inl ⟨by rfl, ?_⟩) (by assumption) ?_
  · (intro w hSw; (try dsimp only at hSw); go_simp)
  try simp only [Act.put, List.setIfInBounds_toArray, List.set_cons_zero, List.set_cons_succ]
  refine wpAnyH_done (by kernel_rfl) ?_ _
  clear hHeld
  go_wp2_with fail
  go_ret
  exact ⟨_, rfl, HO3.out, HB3.out⟩
theorem lit_two (w : World) (B : Nat) (T : TypeId) (x y : Value) (hB : B ≤ w.heap.size) : (w.alloc (.cells #[x, y] T)).drew.ownsRow B T 1 (.slice (some ⟨w.heap.size, 0, none⟩) 2 2) 2 [x, y] := by
  have h := World.ownsRow_lit (base := B) (e := T) (size := 1) w #[x, y] 2 hB (by decide) rfl
  exact h
theorem lit_two2 (w : World) (c : Obj) (T : TypeId) (x y : Value) : ((w.alloc c).alloc (.cells #[x, y] T)).drew.ownsRow (w.heap.size + 1) T 1 (.slice (some ⟨w.heap.size + 1, 0, none⟩) 2 2) 2 [x, y] := by
  have h := lit_two (w.alloc c) (w.heap.size + 1) T x y (by simp)
  rw [show (w.alloc c).heap.size = w.heap.size + 1 by simp] at h
  exact h
set_option maxRecDepth 100000 in
set_option maxHeartbeats 1600000 in
theorem msg_named (g : Nat) (k : Int) (w : World) (hc : w.cell? ⟨g, 0, none⟩ = some (.int .i64 k)) :
    Calls Tryz.prog 67 #[.pointer (some ⟨g, 0, none⟩)] w fun e w' => ∃ v, e = .returned v ∧ RowV w.heap.size w' v (ptrs g (offsM k)) ∧ Below w.heap.size w w' := by
  have hgl := World.block_lt_of_cell? w _ hc
  have hz1 : (w.alloc (.cells #[.pointer (some ⟨g, 0, none⟩)] 59)).heap.size = w.heap.size + 1 := by simp
  rcases mkind_cases k with rfl | rfl | rfl | rfl | rfl | rfl | rfl | rfl | h
  · go_enter Tryz.func67, Tryz.ntmps67
    go_upto_region 4 with fail
    go_region_held3 (fun w' => w'.cell? ⟨w.heap.size, 0, none⟩ = some (.pointer (some ⟨g, 0, none⟩))) (first | go_keep | exact keepB hb4 (by go_simp) (by simp))
      ((go_at_call 96; refine (mnamed_three (w.heap.size + 1) g w.heap.size _ _ _ (by simp) (lit_two2 w (.cells #[.pointer (some ⟨g, 0, none⟩)] 59) 61 (.pointer (some ⟨g, 4, none⟩)) (.pointer (some ⟨g, 6, none⟩))) (by go_simp) (by omega)).mono ?_; rintro e w4 ⟨v, rfl, hr, hb4⟩))
    have HB := Lib.hid (((((Below.refl w.heap.size w).alloc (Nat.le_refl _) _).alloc (by simp) _).drew).trans (hb4.mono (by simp)))
    have HR := Lib.hid hr
    clear hb4 hr
    go_wp2_with fail
    go_ret
    exact ⟨v, rfl, (rowV_own HR.out).mono (by simp), HB.out⟩
  · go_enter Tryz.func67, Tryz.ntmps67
    go_upto_region 6 with fail
    go_region_held3 (fun w' => w'.cell? ⟨w.heap.size, 0, none⟩ = some (.pointer (some ⟨g, 0, none⟩))) (go_keep) (fail)
    go_wp2_with fail
    go_ret
    exact ⟨_, rfl, row_of_built (cs := [.pointer (some ⟨g, 3, none⟩), .pointer (some ⟨g, 4, none⟩), .pointer (some ⟨g, 6, none⟩)]) (blk_second w _ _ _ _) (by omega), ((((Below.refl w.heap.size w).alloc (Nat.le_refl _) _).alloc (by simp) _).drew)⟩
  · go_enter Tryz.func67, Tryz.ntmps67
    go_upto_region 9 with fail
    go_region_held3 (fun w' => w'.cell? ⟨w.heap.size, 0, none⟩ = some (.pointer (some ⟨g, 0, none⟩))) (go_keep) (fail)
    go_wp2_with fail
    go_ret
    exact ⟨_, rfl, row_of_built (cs := [.pointer (some ⟨g, 3, none⟩), .pointer (some ⟨g, 4, none⟩), .pointer (some ⟨g, 5, none⟩)]) (blk_second w _ _ _ _) (by omega), ((((Below.refl w.heap.size w).alloc (Nat.le_refl _) _).alloc (by simp) _).drew)⟩
  · go_enter Tryz.func67, Tryz.ntmps67
    go_upto_region 9 with fail
    go_region_held3 (fun w' => w'.cell? ⟨w.heap.size, 0, none⟩ = some (.pointer (some ⟨g, 0, none⟩))) (go_keep) (fail)
    go_wp2_with fail
    go_ret
    exact ⟨_, rfl, row_of_built (cs := [.pointer (some ⟨g, 3, none⟩), .pointer (some ⟨g, 4, none⟩), .pointer (some ⟨g, 5, none⟩)]) (blk_second w _ _ _ _) (by omega), ((((Below.refl w.heap.size w).alloc (Nat.le_refl _) _).alloc (by simp) _).drew)⟩
  · go_enter Tryz.func67, Tryz.ntmps67
    go_upto_region 11 with fail
    go_region_held3 (fun w' => w'.cell? ⟨w.heap.size, 0, none⟩ = some (.pointer (some ⟨g, 0, none⟩))) (go_keep) (fail)
    go_wp2_with fail
    go_ret
    exact ⟨_, rfl, row_of_built (cs := [.pointer (some ⟨g, 4, none⟩), .pointer (some ⟨g, 5, none⟩)]) (blk_second w _ _ _ _) (by omega), ((((Below.refl w.heap.size w).alloc (Nat.le_refl _) _).alloc (by simp) _).drew)⟩
  · go_enter Tryz.func67, Tryz.ntmps67
    go_upto_region 13 with fail
    go_region_held3 (fun w' => w'.cell? ⟨w.heap.size, 0, none⟩ = some (.pointer (some ⟨g, 0, none⟩))) (first | go_keep | exact keepB hb4 (by go_simp) (by simp))
      ((go_at_call 96; refine (mnamed_three (w.heap.size + 1) g w.heap.size _ _ _ (by simp) (lit_two2 w (.cells #[.pointer (some ⟨g, 0, none⟩)] 59) 61 (.pointer (some ⟨g, 5, none⟩)) (.pointer (some ⟨g, 7, none⟩))) (by go_simp) (by omega)).mono ?_; rintro e w4 ⟨v, rfl, hr, hb4⟩))
    have HB := Lib.hid (((((Below.refl w.heap.size w).alloc (Nat.le_refl _) _).alloc (by simp) _).drew).trans (hb4.mono (by simp)))
    have HR := Lib.hid hr
    clear hb4 hr
    go_wp2_with fail
    go_ret
    exact ⟨v, rfl, (rowV_own HR.out).mono (by simp), HB.out⟩
  · go_enter Tryz.func67, Tryz.ntmps67
    go_wp2_with fail
    go_ret
    exact ⟨_, rfl, row_of_built (cs := [.pointer (some ⟨g, 5, none⟩)]) (blk_second w _ _ _ _) (by omega), ((Below.refl w.heap.size w).alloc (Nat.le_refl _) _).alloc (by simp) _⟩
  · go_enter Tryz.func67, Tryz.ntmps67
    go_upto_region 17 with fail
    go_region_held3 (fun w' => w'.cell? ⟨w.heap.size, 0, none⟩ = some (.pointer (some ⟨g, 0, none⟩))) (go_keep) (fail)
    go_wp2_with fail
    go_ret
    exact ⟨_, rfl, row_of_built (cs := [.pointer (some ⟨g, 5, none⟩), .pointer (some ⟨g, 8, none⟩)]) (blk_second w _ _ _ _) (by omega), ((((Below.refl w.heap.size w).alloc (Nat.le_refl _) _).alloc (by simp) _).drew)⟩
  · obtain ⟨n1, n2, n3, n4, n5, n6, n7, n8⟩ := h
    have e1 : (k == 1) = false := by rw [beq_eq_false_iff_ne]; exact n1
    have e2 : (k == 2) = false := by rw [beq_eq_false_iff_ne]; exact n2
    have e3 : (k == 3) = false := by rw [beq_eq_false_iff_ne]; exact n3
    have e4 : (k == 4) = false := by rw [beq_eq_false_iff_ne]; exact n4
    have e5 : (k == 5) = false := by rw [beq_eq_false_iff_ne]; exact n5
    have e6 : (k == 6) = false := by rw [beq_eq_false_iff_ne]; exact n6
    have e7 : (k == 7) = false := by rw [beq_eq_false_iff_ne]; exact n7
    have e8 : (k == 8) = false := by rw [beq_eq_false_iff_ne]; exact n8
    have HO := Lib.hid (offsM_none ⟨n1, n2, n3, n4, n5, n6, n7, n8⟩)
    clear n1 n2 n3 n4 n5 n6 n7 n8
    go_enter Tryz.func67, Tryz.ntmps67
    go_wp2_with fail
    go_ret
    exact ⟨_, rfl, .inl ⟨_, _, rfl, by rw [HO.out]; rfl⟩, (Below.refl w.heap.size w).alloc (Nat.le_refl _) _⟩
end Go.Proofs.YtanihdpgblkeaaaGreatDoor
