/-
  What an event's kind names, as places (reeve's layer 18): the walk.
-/
import Derived.Test.YtanihdpgblkeaaaDoorEventMath
import Derived.Laws.CopyOwn
import Derived.Laws.MakeOwn
namespace Go.Proofs.YtanihdpgblkeaaaDoor
open Go.RowKit
set_option linter.unusedVariables false
set_option linter.unusedSimpArgs false

/-- The cells of the five places, so many of the last three filled. -/
def fiveC (g o1 o2 k : Nat) : List Value :=
  if k = 0 then [.pointer none, .pointer none, .pointer none, .pointer none, .pointer none]
  else if k = 1 then [.pointer (some ⟨g, o1, none⟩), .pointer (some ⟨g, o2, none⟩), .pointer (some ⟨g, 5, none⟩), .pointer none, .pointer none]
  else if k = 2 then [.pointer (some ⟨g, o1, none⟩), .pointer (some ⟨g, o2, none⟩), .pointer (some ⟨g, 5, none⟩), .pointer (some ⟨g, 6, none⟩), .pointer none]
  else [.pointer (some ⟨g, o1, none⟩), .pointer (some ⟨g, o2, none⟩), .pointer (some ⟨g, 5, none⟩), .pointer (some ⟨g, 6, none⟩), .pointer (some ⟨g, 7, none⟩)]
theorem five_fit (g o1 o2 k : Nat) : 0 + [Value.pointer (some ⟨g, o1, none⟩), .pointer (some ⟨g, o2, none⟩)].length ≤ (fiveC g o1 o2 k).length := by
  unfold fiveC; split; simp; split; simp; split <;> simp
theorem two_one (g o1 o2 : Nat) : ∀ v ∈ [Value.pointer (some ⟨g, o1, none⟩), .pointer (some ⟨g, o2, none⟩)], v.oneCell' = true := by
  intro v hv; simp at hv; rcases hv with rfl | rfl <;> rfl
theorem two_at {w : World} {b : Nat} {x y : Value} (h0 : w.cell? ⟨b, 0, none⟩ = some x) (h1 : w.cell? ⟨b, 1, none⟩ = some y) : ∀ j v, [x, y][j]? = some v → w.cell? ((⟨b, 0, none⟩ : Addr).add j) = some v := by
  intro j v hj
  match j, hj with
  | 0, hj => simp at hj; subst hj; simpa [Addr.add] using h0
  | 1, hj => simp at hj; subst hj; simpa [Addr.add] using h1
  | j + 2, hj => simp at hj
/-- Two values copied to the head of a block, as one step of a region that draws its order. -/
theorem step_copy_two {P : Program} {ops : Array Oper} {o : Oper} {a : Act} {w : World} {K : Act → World → Prop} {Q : Exit → Act → World → Prop} {E : Prop} (hgd : o.guard = none) (d s : Operand) (T : TypeId)
    (ho : o.op = .call { callee := .builtin .copy, args := #[d, s], argTypes := #[T, T] }) (elem : TypeId) (hu : P.underlying T = some (.slice elem)) (hsz : (P.info? elem).map (·.size) = some 1)
    (g b n cap : Nat) (hd : a.eval d = .slice (some ⟨g, 0, none⟩) n cap) (hs : a.eval s = .slice (some ⟨b, 0, none⟩) 2 2) (hn2 : 2 ≤ n)
    (cur : List Value) (hg : Blk w g cur.toArray elem) (x y : Value) (h0 : w.cell? ⟨b, 0, none⟩ = some x) (h1 : w.cell? ⟨b, 1, none⟩ = some y) (hl : 2 ≤ cur.length) (hx : x.oneCell' = true) (hy : y.oneCell' = true)
    (B : Nat) (w0 : World) (hb : Below B w0 w) (hBg : B ≤ g)
    (h : ∀ w', Hid (Blk w' g (x :: y :: cur.drop 2).toArray elem) → Below B w0 w' → K (a.put o.dst (.int .i64 2)) w') :
    if Region.wanted o (yielded ops a.tmps) = true then Oper.wp P o a w K Q else E := by
  refine step_copy_splice hgd d s T T ho elem hu hsz _ _ n cap 2 2 hd hs g 0 cur elem hg [x, y] (by show 2 = min 2 n; omega) (fun _ => ⟨rfl, ⟨b, 0, none⟩, rfl, two_at h0 h1⟩) (by simpa using hl) (by intro v hv; simp at hv; rcases hv with rfl | rfl <;> assumption) B w0 hb hBg ?_
  intro w' hg' hb'
  refine h w' ?_ hb'
  have : (splice cur 0 [x, y]) = x :: y :: cur.drop 2 := by simp [splice]
  rw [this] at hg'
  exact hg'
set_option maxRecDepth 100000 in
set_option maxHeartbeats 1600000 in
theorem named_three (b c g o1 o2 : Nat) (w : World) (h0 : w.cell? ⟨b, 0, none⟩ = some (.pointer (some ⟨g, o1, none⟩))) (h1 : w.cell? ⟨b, 1, none⟩ = some (.pointer (some ⟨g, o2, none⟩))) (hc : w.cell? ⟨c, 0, none⟩ = some (.pointer (some ⟨g, 0, none⟩))) :
    Calls Tryd.prog 44 #[.slice (some ⟨b, 0, none⟩) 2 2, .pointer (some ⟨c, 0, none⟩)] w fun e w' => ∃ v, e = .returned v ∧ RowV w.heap.size w' v (ptrs g [o1, o2, 5, 6, 7]) ∧ Below w.heap.size w w' := by
  have hbl := World.block_lt_of_cell? w _ h0
  have hcl := World.block_lt_of_cell? w _ hc
  have hmk : ∀ w : World, (Instr.makeSlice 58 (.int .i64 5) (.int .i64 5)).run Tryd.prog w = .ok (.slice (some ⟨w.heap.size, 0, none⟩) 5 5) (w.alloc (.cells #[.pointer none, .pointer none, .pointer none, .pointer none, .pointer none] 40)) := fun _ => by kernel_rfl
  have hlt1 := hbl
  have hlt2 := hcl
  go_enter Tryd.func44, Tryd.ntmps44
  have C0 := Lib.hid h0
  have C1 := Lib.hid h1
  have CC := Lib.hid hc
  clear h0 h1 hc hlt1 hlt2
  go_wp2_with fail
  go_loopg [10] 3 (fun gg s10 wr => ∃ k : Nat, k ≤ 3 ∧ gg = 3 - k ∧ (k = 0 ∧ s10 = .int .i64 0 ∨ k = 1 ∧ s10 = .int .i64 1 ∨ k = 2 ∧ s10 = .int .i64 2 ∨ k = 3 ∧ s10 = .int .i64 3) ∧ Hid (Blk wr w.heap.size (fiveC g o1 o2 k).toArray 40) ∧ Hid (Below w.heap.size w wr))
  case atStart => exact ⟨0, by omega, rfl, .inl ⟨rfl, rfl⟩, Lib.hid (Blk.new w _ _), Lib.hid ((Below.refl _ _).alloc (Nat.le_refl _) _)⟩
  case round =>
    clear hmk
    obtain ⟨k, hk, hg, hs10, HX, HB⟩ := hrel
    have hg := hg.symm
    subst hg
    have C0r := Lib.hid (keepB HB.out C0.out hbl)
    have C1r := Lib.hid (keepB HB.out C1.out hbl)
    have hcc := keepB HB.out CC.out hcl
    have hs2 : IntKind.i64.wrap 2 = 2 := rfl
    have hs3 : IntKind.i64.wrap 3 = 3 := rfl
    have hs4 : IntKind.i64.wrap 4 = 4 := rfl
    rcases hs10 with ⟨rfl, rfl⟩ | ⟨rfl, rfl⟩ | ⟨rfl, rfl⟩ | ⟨rfl, rfl⟩
    · go_upto_region 5 with fail
      go_region_held3 (fun w' => w'.cell? ⟨c, 0, none⟩ = some (.pointer (some ⟨g, 0, none⟩)))
        (first | go_keep | exact (HB4.out.cell (p := ⟨c, 0, none⟩) hcl).trans CC.out | exact ((HB4.out.setCell (p := ⟨w.heap.size, _, none⟩) (Nat.le_refl _) _).cell (p := ⟨c, 0, none⟩) hcl).trans CC.out)
        ((refine step_copy_two (by rfl) (.tmp 14) (.tmp 15) 58 (by rfl) 40 Tryd.underlying58 (by kernel_rfl) w.heap.size b 5 5 (by rfl) (by rfl) (by decide) _ (by exact HX.out) (.pointer (some ⟨g, o1, none⟩)) (.pointer (some ⟨g, o2, none⟩)) (by exact C0r.out) (by exact C1r.out) (by simp [fiveC]) rfl rfl w.heap.size w (by exact ⟨HB.out.os, HB.out.tape, HB.out.output, HB.out.size, HB.out.block⟩) (Nat.le_refl _) ?_; intro w4 HG4 hb4; have HB4 := Lib.hid hb4; have hc4 := HG4.out.cell (i := 2) rfl; have hc5 := HG4.out.cell (i := 3) rfl; have hc6 := HG4.out.cell (i := 4) rfl; have hf4 := HG4.out.free))
      go_wp2_with fail
      go_roundg (3 - (0 + 1))
      case measure => omega
      case rel => exact ⟨1, by omega, rfl, .inr (.inl ⟨rfl, rfl⟩), Lib.hid (HG4.out.set 2 _), Lib.hid (HB4.out.setCell (Nat.le_refl _) _)⟩
    · go_upto_region 5 with fail
      go_region_held3 (fun w' => w'.cell? ⟨c, 0, none⟩ = some (.pointer (some ⟨g, 0, none⟩)))
        (first | go_keep | exact (HB4.out.cell (p := ⟨c, 0, none⟩) hcl).trans CC.out | exact ((HB4.out.setCell (p := ⟨w.heap.size, _, none⟩) (Nat.le_refl _) _).cell (p := ⟨c, 0, none⟩) hcl).trans CC.out)
        ((refine step_copy_two (by rfl) (.tmp 14) (.tmp 15) 58 (by rfl) 40 Tryd.underlying58 (by kernel_rfl) w.heap.size b 5 5 (by rfl) (by rfl) (by decide) _ (by exact HX.out) (.pointer (some ⟨g, o1, none⟩)) (.pointer (some ⟨g, o2, none⟩)) (by exact C0r.out) (by exact C1r.out) (by simp [fiveC]) rfl rfl w.heap.size w (by exact ⟨HB.out.os, HB.out.tape, HB.out.output, HB.out.size, HB.out.block⟩) (Nat.le_refl _) ?_; intro w4 HG4 hb4; have HB4 := Lib.hid hb4; have hc4 := HG4.out.cell (i := 2) rfl; have hc5 := HG4.out.cell (i := 3) rfl; have hc6 := HG4.out.cell (i := 4) rfl; have hf4 := HG4.out.free))
      go_wp2_with fail
      go_roundg (3 - (1 + 1))
      case measure => omega
      case rel => exact ⟨2, by omega, rfl, .inr (.inr (.inl ⟨rfl, rfl⟩)), Lib.hid (HG4.out.set 3 _), Lib.hid (HB4.out.setCell (Nat.le_refl _) _)⟩
    · go_upto_region 5 with fail
      go_region_held3 (fun w' => w'.cell? ⟨c, 0, none⟩ = some (.pointer (some ⟨g, 0, none⟩)))
        (first | go_keep | exact (HB4.out.cell (p := ⟨c, 0, none⟩) hcl).trans CC.out | exact ((HB4.out.setCell (p := ⟨w.heap.size, _, none⟩) (Nat.le_refl _) _).cell (p := ⟨c, 0, none⟩) hcl).trans CC.out)
        ((refine step_copy_two (by rfl) (.tmp 14) (.tmp 15) 58 (by rfl) 40 Tryd.underlying58 (by kernel_rfl) w.heap.size b 5 5 (by rfl) (by rfl) (by decide) _ (by exact HX.out) (.pointer (some ⟨g, o1, none⟩)) (.pointer (some ⟨g, o2, none⟩)) (by exact C0r.out) (by exact C1r.out) (by simp [fiveC]) rfl rfl w.heap.size w (by exact ⟨HB.out.os, HB.out.tape, HB.out.output, HB.out.size, HB.out.block⟩) (Nat.le_refl _) ?_; intro w4 HG4 hb4; have HB4 := Lib.hid hb4; have hc4 := HG4.out.cell (i := 2) rfl; have hc5 := HG4.out.cell (i := 3) rfl; have hc6 := HG4.out.cell (i := 4) rfl; have hf4 := HG4.out.free))
      go_wp2_with fail
      go_roundg (3 - (2 + 1))
      case measure => omega
      case rel => exact ⟨3, by omega, rfl, .inr (.inr (.inr (⟨rfl, rfl⟩))), Lib.hid (HG4.out.set 4 _), Lib.hid (HB4.out.setCell (Nat.le_refl _) _)⟩
    · go_wp2_with fail
      go_ret
      exact ⟨_, rfl, .inr ⟨w.heap.size, 0, 5, rfl, Nat.le_refl _, HX.out.lt, fun j x hj => by rw [Nat.zero_add]; exact HX.out.cell (by simpa [fiveC, ptrs] using hj)⟩, HB.out⟩

/-- A slice of so many places, made of a list that was built. -/
theorem row_of_built {B : Nat} {w : World} {b : Nat} {cs : List Value} {t : TypeId} (h : Blk w b cs.toArray t) (hB : B ≤ b) : RowV B w (.slice (some ⟨b, 0, none⟩) cs.length cs.length) cs :=
  .inr ⟨b, 0, cs.length, rfl, hB, h.lt, fun j x hj => by rw [Nat.zero_add]; exact h.cell (by simpa using hj)⟩
theorem blk_second (w : World) (c1 c2 : Array Value) (t1 t2 : TypeId) : Blk ((w.alloc (.cells c1 t1)).alloc (.cells c2 t2)) (w.heap.size + 1) c2 t2 := by
  have h := Blk.new (w.alloc (.cells c1 t1)) c2 t2
  have e : (w.alloc (.cells c1 t1)).heap.size = w.heap.size + 1 := by simp
  rw [e] at h
  exact h
set_option maxRecDepth 100000 in
set_option maxHeartbeats 1600000 in
theorem event_named (g : Nat) (k : Int) (w : World) (hc : w.cell? ⟨g, 0, none⟩ = some (.int .i64 k)) :
    Calls Tryd.prog 25 #[.pointer (some ⟨g, 0, none⟩)] w fun e w' => ∃ v, e = .returned v ∧ RowV w.heap.size w' v (ptrs g (offs k)) ∧ Below w.heap.size w w' := by
  have hgl := World.block_lt_of_cell? w _ hc
  rcases kind_cases k with rfl | rfl | rfl | rfl | rfl | rfl | rfl | h
  · go_enter Tryd.func25, Tryd.ntmps25
    go_upto_region 5 with fail
    go_region_held3 (fun w' => w'.cell? ⟨w.heap.size, 0, none⟩ = some (.pointer (some ⟨g, 0, none⟩))) (first | go_keep | exact keepB hb4 (by go_simp) (by simp; omega))
      ((go_at_call 44; refine (named_three _ _ g 1 3 _ (by go_simp) (by go_simp) (by go_simp)).mono ?_; rintro e w4 ⟨v, rfl, hr, hb4⟩))
    have HB := Lib.hid (((((Below.refl w.heap.size w).alloc (Nat.le_refl _) _).alloc (by simp) _).drew).trans (hb4.mono (by simp; omega)))
    have HR := Lib.hid hr
    clear hb4 hr
    go_wp2_with fail
    go_ret
    exact ⟨v, rfl, HR.out.mono (by simp; omega), HB.out⟩
  · go_enter Tryd.func25, Tryd.ntmps25
    go_upto_region 5 with fail
    go_region_held3 (fun w' => w'.cell? ⟨w.heap.size, 0, none⟩ = some (.pointer (some ⟨g, 0, none⟩))) (first | go_keep | exact keepB hb4 (by go_simp) (by simp; omega))
      ((go_at_call 44; refine (named_three _ _ g 1 3 _ (by go_simp) (by go_simp) (by go_simp)).mono ?_; rintro e w4 ⟨v, rfl, hr, hb4⟩))
    have HB := Lib.hid (((((Below.refl w.heap.size w).alloc (Nat.le_refl _) _).alloc (by simp) _).drew).trans (hb4.mono (by simp; omega)))
    have HR := Lib.hid hr
    clear hb4 hr
    go_wp2_with fail
    go_ret
    exact ⟨v, rfl, HR.out.mono (by simp; omega), HB.out⟩
  · go_enter Tryd.func25, Tryd.ntmps25
    go_upto_region 7 with fail
    go_region_held3 (fun w' => w'.cell? ⟨w.heap.size, 0, none⟩ = some (.pointer (some ⟨g, 0, none⟩))) (go_keep) (fail)
    go_wp2_with fail
    go_ret
    exact ⟨_, rfl, row_of_built (cs := [.pointer (some ⟨g, 1, none⟩), .pointer (some ⟨g, 3, none⟩)]) (blk_second w _ _ _ _) (by omega), ((((Below.refl w.heap.size w).alloc (Nat.le_refl _) _).alloc (by simp) _).drew)⟩
  · go_enter Tryd.func25, Tryd.ntmps25
    go_upto_region 9 with fail
    go_region_held3 (fun w' => w'.cell? ⟨w.heap.size, 0, none⟩ = some (.pointer (some ⟨g, 0, none⟩))) (first | go_keep | exact keepB hb4 (by go_simp) (by simp; omega))
      ((go_at_call 44; refine (named_three _ _ g 2 4 _ (by go_simp) (by go_simp) (by go_simp)).mono ?_; rintro e w4 ⟨v, rfl, hr, hb4⟩))
    have HB := Lib.hid (((((Below.refl w.heap.size w).alloc (Nat.le_refl _) _).alloc (by simp) _).drew).trans (hb4.mono (by simp; omega)))
    have HR := Lib.hid hr
    clear hb4 hr
    go_wp2_with fail
    go_ret
    exact ⟨v, rfl, HR.out.mono (by simp; omega), HB.out⟩
  · go_enter Tryd.func25, Tryd.ntmps25
    go_wp2_with fail
    go_ret
    exact ⟨_, rfl, row_of_built (cs := [.pointer (some ⟨g, 2, none⟩)]) (blk_second w _ _ _ _) (by omega), ((Below.refl w.heap.size w).alloc (Nat.le_refl _) _).alloc (by simp) _⟩
  · go_enter Tryd.func25, Tryd.ntmps25
    go_upto_region 14 with fail
    go_region_held3 (fun w' => w'.cell? ⟨w.heap.size, 0, none⟩ = some (.pointer (some ⟨g, 0, none⟩))) (go_keep) (fail)
    go_wp2_with fail
    go_ret
    exact ⟨_, rfl, row_of_built (cs := [.pointer (some ⟨g, 2, none⟩), .pointer (some ⟨g, 1, none⟩), .pointer (some ⟨g, 3, none⟩)]) (blk_second w _ _ _ _) (by omega), ((((Below.refl w.heap.size w).alloc (Nat.le_refl _) _).alloc (by simp) _).drew)⟩
  · go_enter Tryd.func25, Tryd.ntmps25
    go_upto_region 14 with fail
    go_region_held3 (fun w' => w'.cell? ⟨w.heap.size, 0, none⟩ = some (.pointer (some ⟨g, 0, none⟩))) (go_keep) (fail)
    go_wp2_with fail
    go_ret
    exact ⟨_, rfl, row_of_built (cs := [.pointer (some ⟨g, 2, none⟩), .pointer (some ⟨g, 1, none⟩), .pointer (some ⟨g, 3, none⟩)]) (blk_second w _ _ _ _) (by omega), ((((Below.refl w.heap.size w).alloc (Nat.le_refl _) _).alloc (by simp) _).drew)⟩
  · obtain ⟨n1, n2, n3, n4, n5, n6, n7⟩ := h
    have e1 : (k == 1) = false := by rw [beq_eq_false_iff_ne]; exact n1
    have e2 : (k == 2) = false := by rw [beq_eq_false_iff_ne]; exact n2
    have e3 : (k == 3) = false := by rw [beq_eq_false_iff_ne]; exact n3
    have e4 : (k == 4) = false := by rw [beq_eq_false_iff_ne]; exact n4
    have e5 : (k == 5) = false := by rw [beq_eq_false_iff_ne]; exact n5
    have e6 : (k == 6) = false := by rw [beq_eq_false_iff_ne]; exact n6
    have e7 : (k == 7) = false := by rw [beq_eq_false_iff_ne]; exact n7
    have HO := Lib.hid (offs_none ⟨n1, n2, n3, n4, n5, n6, n7⟩)
    clear n1 n2 n3 n4 n5 n6 n7
    go_enter Tryd.func25, Tryd.ntmps25
    go_wp2_with fail
    go_ret
    exact ⟨_, rfl, .inl ⟨_, _, rfl, by rw [HO.out]; rfl⟩, (Below.refl w.heap.size w).alloc (Nat.le_refl _) _⟩
end Go.Proofs.YtanihdpgblkeaaaDoor
