/-
  EventMath, EventNamed, EventPure, StructEq, ResRight, EventRight, EventCheck in one text.
-/
import Derived.Test.YtanihdpgblkeaaaGreatDoorMem
import Derived.Test.YtanihdpgblkeaaaGreatDoorFlat
import Derived.Laws.StructEq
import Derived.Laws.CopyOwn
import Derived.Laws.MakeOwn
/-! EventMath -/
namespace Go.Proofs.YtanihdpgblkeaaaGreatDoor
open Go.RowKit
set_option linter.unusedVariables false
set_option linter.unusedSimpArgs false

/-- The cells of so many numbers. -/
def cellsI (l : List Int) : Array Value := (l.map (Value.int .i64)).toArray
/-- Number i. -/
def fld (l : List Int) (i : Nat) : Int := l.getD i 0
theorem cellsI_size (l : List Int) : (cellsI l).size = l.length := by simp [cellsI]
theorem cellsI_at {l : List Int} {i : Nat} (h : i < l.length) : (cellsI l)[i]? = some (.int .i64 (fld l i)) := by
  simp [cellsI, fld, h]
theorem cellsI_set (l : List Int) (i : Nat) (n : Int) : (cellsI l).setIfInBounds i (.int .i64 n) = cellsI (l.set i n) := by
  simp only [cellsI]
  apply Array.ext'
  rw [Array.toList_setIfInBounds]
  simp [List.map_set]
theorem cellsI_one (l : List Int) : (cellsI l).all (·.oneCell') = true := by
  simp [cellsI, Value.oneCell']
theorem fld_set_same {l : List Int} {i : Nat} {n : Int} (h : i < l.length) : fld (l.set i n) i = n := by
  simp [fld, List.getD_eq_getElem?_getD, h]
theorem fld_set_other {l : List Int} {i j : Nat} {n : Int} (h : i ≠ j) : fld (l.set i n) j = fld l j := by
  simp [fld, List.getD_eq_getElem?_getD, List.getElem?_set_ne h]
/-- Two lists of one length are the same where each number is. -/
theorem fld_ext {a b : List Int} (h : a.length = b.length) (hf : ∀ i, i < a.length → fld a i = fld b i) : a = b := by
  apply List.ext_getElem h
  intro i h1 h2
  have := hf i h1
  simpa [fld, h1, h2] using this
/-- All numbers are of their kind. -/
def wfI (l : List Int) : Prop := ∀ n ∈ l, (Lit.int .i64 n).wf = true
theorem wfI_fld {l : List Int} (h : wfI l) (i : Nat) : -9223372036854775808 ≤ fld l i ∧ fld l i ≤ 9223372036854775807 := by
  by_cases hi : i < l.length
  · have : fld l i = l[i] := by simp [fld, hi]
    rw [this]
    exact bounds_i64 (h _ (List.getElem_mem hi))
  · have : fld l i = 0 := by simp [fld, Nat.le_of_not_lt hi]
    rw [this]; decide

/-- A slice that holds values, in a block from B on. -/
def RowV (B : Nat) (w : World) (v : Value) (l : List Value) : Prop :=
  (∃ p cap, v = .slice p 0 cap ∧ l = []) ∨ ∃ b off cap, v = .slice (some ⟨b, off, none⟩) l.length cap ∧ B ≤ b ∧ b < w.heap.size ∧ ∀ j x, l[j]? = some x → w.cell? ⟨b, off + j, none⟩ = some x
theorem RowV.below {B C : Nat} {w w' : World} {v : Value} {l : List Value} (h : RowV B w v l) (hb : Below C w w') (hC : w.heap.size ≤ C) : RowV B w' v l := by
  rcases h with h | ⟨b, off, cap, h1, h0, h2, h3⟩
  · exact .inl h
  · exact .inr ⟨b, off, cap, h1, h0, Nat.lt_of_lt_of_le h2 hb.size, fun j x hj => keepB (Below.mono hb hC) (h3 j x hj) h2⟩
theorem RowV.chg {B : Nat} {S : Nat → Prop} {w w' : World} {v : Value} {l : List Value} (h : RowV B w v l) (hc : Chg S w w') (hS : ∀ b, B ≤ b → b < w.heap.size → ¬ S b) : RowV B w' v l := by
  rcases h with h | ⟨b, off, cap, h1, h0, h2, h3⟩
  · exact .inl h
  · exact .inr ⟨b, off, cap, h1, h0, Nat.lt_of_lt_of_le h2 hc.size, fun j x hj => (hc.cell (p := ⟨b, off + j, none⟩) h2 (hS b h0 h2)).trans (h3 j x hj)⟩
theorem RowV.mono {B C : Nat} {w : World} {v : Value} {l : List Value} (h : RowV B w v l) (hC : C ≤ B) : RowV C w v l := by
  rcases h with h | ⟨b, off, cap, h1, h0, h2, h3⟩
  · exact .inl h
  · exact .inr ⟨b, off, cap, h1, Nat.le_trans hC h0, h2, h3⟩
theorem RowV.at {B : Nat} {w : World} {v : Value} {l : List Value} (h : RowV B w v l) {j : Nat} (hj : j < l.length) : ∃ b off cap, v = .slice (some ⟨b, off, none⟩) l.length cap ∧ B ≤ b ∧ b < w.heap.size ∧ w.cell? ⟨b, off + j, none⟩ = some l[j] := by
  rcases h with ⟨_, _, rfl, rfl⟩ | ⟨b, off, cap, h1, h0, h2, h3⟩
  · exact absurd hj (by simp)
  · exact ⟨b, off, cap, h1, h0, h2, h3 j _ (List.getElem?_eq_getElem hj)⟩
theorem RowV.len {B : Nat} {w : World} {v : Value} {l : List Value} (h : RowV B w v l) : ∃ p cap, v = .slice p l.length cap := by
  rcases h with ⟨p, cap, rfl, rfl⟩ | ⟨b, off, cap, h1, h0, h2, h3⟩
  · exact ⟨p, cap, rfl⟩
  · exact ⟨_, cap, h1⟩
/-- Places in a block. -/
def ptrs (g : Nat) (os : List Nat) : List Value := os.map fun o => .pointer (some ⟨g, o, none⟩)
theorem ptrs_length (g : Nat) (os : List Nat) : (ptrs g os).length = os.length := by simp [ptrs]
theorem ptrs_at (g : Nat) (os : List Nat) (j : Nat) (h : j < os.length) : (ptrs g os)[j]'(by rw [ptrs_length]; exact h) = .pointer (some ⟨g, os[j], none⟩) := by simp [ptrs]

/-- What an event's kind names: the places of its numbers, in order. -/
def offs (k : Int) : List Nat :=
  if k = 1 ∨ k = 2 then [1, 3, 5, 6, 7] else if k = 3 then [1, 3] else if k = 4 then [2, 4, 5, 6, 7] else if k = 5 then [2] else if k = 6 ∨ k = 7 then [2, 1, 3] else []
theorem kind_cases (k : Int) : k = 1 ∨ k = 2 ∨ k = 3 ∨ k = 4 ∨ k = 5 ∨ k = 6 ∨ k = 7 ∨ (k ≠ 1 ∧ k ≠ 2 ∧ k ≠ 3 ∧ k ≠ 4 ∧ k ≠ 5 ∧ k ≠ 6 ∧ k ≠ 7) := by omega
theorem offs_none {k : Int} (h : k ≠ 1 ∧ k ≠ 2 ∧ k ≠ 3 ∧ k ≠ 4 ∧ k ≠ 5 ∧ k ≠ 6 ∧ k ≠ 7) : offs k = [] := by
  unfold offs
  rw [if_neg (by omega), if_neg (by omega), if_neg (by omega), if_neg (by omega), if_neg (by omega)]
theorem offs_lt (k : Int) : ∀ o ∈ offs k, 1 ≤ o ∧ o < 8 := by
  rcases kind_cases k with rfl | rfl | rfl | rfl | rfl | rfl | rfl | h
  all_goals first | decide | (rw [offs_none h]; simp)
theorem offs_length (k : Int) : (offs k).length ≤ 5 := by
  rcases kind_cases k with rfl | rfl | rfl | rfl | rfl | rfl | rfl | h
  all_goals first | decide | (rw [offs_none h]; simp)
theorem offs_nodup (k : Int) : (offs k).Nodup := by
  rcases kind_cases k with rfl | rfl | rfl | rfl | rfl | rfl | rfl | h
  all_goals first | decide | (rw [offs_none h]; simp)

/-- Numbers laid at places: from a list, one behind the other. -/
def lay (l : List Int) (os : List Nat) (d : List Int) : List Int := os.foldl (fun d o => d.set o (fld l o)) d
theorem lay_take (l : List Int) (os : List Nat) (j : Nat) (h : j < os.length) (d : List Int) : lay l (os.take (j + 1)) d = (lay l (os.take j) d).set os[j] (fld l os[j]) := by
  unfold lay
  rw [List.take_succ_eq_append_getElem h, List.foldl_append]
  rfl
theorem lay_length (l : List Int) (os : List Nat) : ∀ d, (lay l os d).length = d.length := by
  induction os with
  | nil => intro d; rfl
  | cons o r ih => intro d; show (lay l r (d.set o _)).length = _; rw [ih]; simp
theorem lay_snoc (l : List Int) (os : List Nat) (o : Nat) (d : List Int) : lay l (os ++ [o]) d = (lay l os d).set o (fld l o) := by simp [lay]
theorem fld_lay_out (l : List Int) (os : List Nat) : ∀ d i, i ∉ os → fld (lay l os d) i = fld d i := by
  induction os with
  | nil => intro d i _; rfl
  | cons o r ih =>
    intro d i hi
    show fld (lay l r (d.set o _)) i = _
    rw [ih _ _ (fun h => hi (by simp [h])), fld_set_other (fun e => hi (by simp [e]))]
theorem fld_lay_in (l : List Int) (os : List Nat) : ∀ d i, i ∈ os → i < d.length → fld (lay l os d) i = fld l i := by
  induction os with
  | nil => intro d i h; simp at h
  | cons o r ih =>
    intro d i hi hd
    show fld (lay l r (d.set o _)) i = _
    by_cases hr : i ∈ r
    · exact ih _ _ hr (by simpa using hd)
    · rw [fld_lay_out _ _ _ _ hr]
      have : i = o := by simpa [hr] using hi
      subst this
      exact fld_set_same hd
/-- An event of a kind, and nothing else. -/
def bare (k : Int) : List Int := [k, 0, 0, 0, 0, 0, 0, 0]
theorem bare_length (k : Int) : (bare k).length = 8 := rfl
/-- An event without what its kind does not name. -/
def pureL (l : List Int) : List Int := if offs (fld l 0) = [] then bare 0 else lay l (offs (fld l 0)) (bare (fld l 0))
theorem pureL_length (l : List Int) : (pureL l).length = 8 := by
  unfold pureL; split
  · rfl
  · rw [lay_length]; rfl
theorem pureL_kind (l : List Int) (h : offs (fld l 0) ≠ []) : fld (pureL l) 0 = fld l 0 := by
  unfold pureL
  rw [if_neg h, fld_lay_out _ _ _ _ (fun h => by have := (offs_lt _ _ h).1; omega)]
  rfl
end Go.Proofs.YtanihdpgblkeaaaGreatDoor

/-! EventNamed -/
namespace Go.Proofs.YtanihdpgblkeaaaGreatDoor
open Go.RowKit
set_option linter.unusedVariables false
set_option linter.unusedSimpArgs false

/-- The cells of the five places, so many of the last three filled. -/
def fiveC (g o1 o2 k : Nat) : List Value :=
  if k = 0 then [.pointer none, .pointer none, .pointer none, .pointer none, .pointer none]
  else if k = 1 then [.pointer (some ⟨g, o1, none⟩), .pointer (some ⟨g, o2, none⟩), .pointer (some ⟨g, 5, none⟩), .pointer none, .pointer none]
  else if k = 2 then [.pointer (some ⟨g, o1, none⟩), .pointer (some ⟨g, o2, none⟩), .pointer (some ⟨g, 5, none⟩), .pointer (some ⟨g, 6, none⟩), .pointer none]
  else [.pointer (some ⟨g, o1, none⟩), .pointer (some ⟨g, o2, none⟩), .pointer (some ⟨g, 5, none⟩), .pointer (some ⟨g, 6, none⟩), .pointer (some ⟨g, 7, none⟩)]
theorem five_fit (g o1 o2 k : Nat) : 0 + [Value.pointer (some ⟨g, o1, none⟩), .pointer (some ⟨g, o2, none⟩)].length ≤ (fiveC g o1 o2 k).length := by
  unfold fiveC; split; simp; split; simp; split <;> simp
theorem two_one (g o1 o2 : Nat) : ∀ v ∈ [Value.pointer (some ⟨g, o1, none⟩), .pointer (some ⟨g, o2, none⟩)], v.oneCell' = true := by
  intro v hv; simp at hv; rcases hv with rfl | rfl <;> rfl
theorem two_at {w : World} {b : Nat} {x y : Value} (h0 : w.cell? ⟨b, 0, none⟩ = some x) (h1 : w.cell? ⟨b, 1, none⟩ = some y) : ∀ j v, [x, y][j]? = some v → w.cell? ((⟨b, 0, none⟩ : Addr).add j) = some v := by
  intro j v hj
  match j, hj with
  | 0, hj => simp at hj; subst hj; simpa [Addr.add] using h0
  | 1, hj => simp at hj; subst hj; simpa [Addr.add] using h1
  | j + 2, hj => simp at hj
/-- Two values copied to the head of a block, as one step of a region that draws its order. -/
theorem step_copy_two {P : Program} {ops : Array Oper} {o : Oper} {a : Act} {w : World} {K : Act → World → Prop} {Q : Exit → Act → World → Prop} {E : Prop} (hgd : o.guard = none) (d s : Operand) (T : TypeId)
    (ho : o.op = .call { callee := .builtin .copy, args := #[d, s], argTypes := #[T, T] }) (elem : TypeId) (hu : P.underlying T = some (.slice elem)) (hsz : (P.info? elem).map (·.size) = some 1)
    (g b n cap : Nat) (hd : a.eval d = .slice (some ⟨g, 0, none⟩) n cap) (hs : a.eval s = .slice (some ⟨b, 0, none⟩) 2 2) (hn2 : 2 ≤ n)
    (cur : List Value) (hg : Blk w g cur.toArray elem) (x y : Value) (h0 : w.cell? ⟨b, 0, none⟩ = some x) (h1 : w.cell? ⟨b, 1, none⟩ = some y) (hl : 2 ≤ cur.length) (hx : x.oneCell' = true) (hy : y.oneCell' = true)
    (B : Nat) (w0 : World) (hb : Below B w0 w) (hBg : B ≤ g)
    (h : ∀ w', Hid (Blk w' g (x :: y :: cur.drop 2).toArray elem) → Below B w0 w' → K (a.put o.dst (.int .i64 2)) w') :
    if Region.wanted o (yielded ops a.tmps) = true then Oper.wp P o a w K Q else E := by
  refine step_copy_splice hgd d s T T ho elem hu hsz _ _ n cap 2 2 hd hs g 0 cur elem hg [x, y] (by show 2 = min 2 n; omega) (fun _ => ⟨rfl, ⟨b, 0, none⟩, rfl, two_at h0 h1⟩) (by simpa using hl) (by intro v hv; simp at hv; rcases hv with rfl | rfl <;> assumption) B w0 hb hBg ?_
  intro w' hg' hb'
  refine h w' ?_ hb'
  have : (splice cur 0 [x, y]) = x :: y :: cur.drop 2 := by simp [splice]
  rw [this] at hg'
  exact hg'
set_option maxRecDepth 100000 in
set_option maxHeartbeats 1600000 in
theorem named_three (b c g o1 o2 : Nat) (w : World) (h0 : w.cell? ⟨b, 0, none⟩ = some (.pointer (some ⟨g, o1, none⟩))) (h1 : w.cell? ⟨b, 1, none⟩ = some (.pointer (some ⟨g, o2, none⟩))) (hc : w.cell? ⟨c, 0, none⟩ = some (.pointer (some ⟨g, 0, none⟩))) :
    Calls Tryz.prog 123 #[.slice (some ⟨b, 0, none⟩) 2 2, .pointer (some ⟨c, 0, none⟩)] w fun e w' => ∃ v, e = .returned v ∧ RowV w.heap.size w' v (ptrs g [o1, o2, 5, 6, 7]) ∧ Below w.heap.size w w' := by
  have hbl := World.block_lt_of_cell? w _ h0
  have hcl := World.block_lt_of_cell? w _ hc
  have hmk : ∀ w : World, (Instr.makeSlice 94 (.int .i64 5) (.int .i64 5)).run Tryz.prog w = .ok (.slice (some ⟨w.heap.size, 0, none⟩) 5 5) (w.alloc (.cells #[.pointer none, .pointer none, .pointer none, .pointer none, .pointer none] 61)) := fun _ => by kernel_rfl
  have hlt1 := hbl
  have hlt2 := hcl
  go_enter Tryz.func123, Tryz.ntmps123
  have C0 := Lib.hid h0
  have C1 := Lib.hid h1
  have CC := Lib.hid hc
  clear h0 h1 hc hlt1 hlt2
  go_wp2_with fail
  go_loopg [10] 3 (fun gg s10 wr => ∃ k : Nat, k ≤ 3 ∧ gg = 3 - k ∧ (k = 0 ∧ s10 = .int .i64 0 ∨ k = 1 ∧ s10 = .int .i64 1 ∨ k = 2 ∧ s10 = .int .i64 2 ∨ k = 3 ∧ s10 = .int .i64 3) ∧ Hid (Blk wr w.heap.size (fiveC g o1 o2 k).toArray 61) ∧ Hid (Below w.heap.size w wr))
  case atStart => exact ⟨0, by omega, rfl, .inl ⟨rfl, rfl⟩, Lib.hid (Blk.new w _ _), Lib.hid ((Below.refl _ _).alloc (Nat.le_refl _) _)⟩
  case round =>
    clear hmk
    obtain ⟨k, hk, hg, hs10, HX, HB⟩ := hrel
    have hg := hg.symm
    subst hg
    have C0r := Lib.hid (keepB HB.out C0.out hbl)
    have C1r := Lib.hid (keepB HB.out C1.out hbl)
    have hcc := keepB HB.out CC.out hcl
    have hs2 : IntKind.i64.wrap 2 = 2 := rfl
    have hs3 : IntKind.i64.wrap 3 = 3 := rfl
    have hs4 : IntKind.i64.wrap 4 = 4 := rfl
    rcases hs10 with ⟨rfl, rfl⟩ | ⟨rfl, rfl⟩ | ⟨rfl, rfl⟩ | ⟨rfl, rfl⟩
    · go_upto_region 5 with fail
      go_region_held3 (fun w' => w'.cell? ⟨c, 0, none⟩ = some (.pointer (some ⟨g, 0, none⟩)))
        (first | go_keep | exact (HB4.out.cell (p := ⟨c, 0, none⟩) hcl).trans CC.out | exact ((HB4.out.setCell (p := ⟨w.heap.size, _, none⟩) (Nat.le_refl _) _).cell (p := ⟨c, 0, none⟩) hcl).trans CC.out)
        ((refine step_copy_two (by rfl) (.tmp 14) (.tmp 15) 94 (by rfl) 61 Tryz.underlying94 (by kernel_rfl) w.heap.size b 5 5 (by rfl) (by rfl) (by decide) _ (by exact HX.out) (.pointer (some ⟨g, o1, none⟩)) (.pointer (some ⟨g, o2, none⟩)) (by exact C0r.out) (by exact C1r.out) (by simp [fiveC]) rfl rfl w.heap.size w (by exact ⟨HB.out.os, HB.out.tape, HB.out.output, HB.out.size, HB.out.block⟩) (Nat.le_refl _) ?_; intro w4 HG4 hb4; have HB4 := Lib.hid hb4; have hc4 := HG4.out.cell (i := 2) rfl; have hc5 := HG4.out.cell (i := 3) rfl; have hc6 := HG4.out.cell (i := 4) rfl; have hf4 := HG4.out.free))
      go_wp2_with fail
      go_roundg (3 - (0 + 1))
      case measure => omega
      case rel => exact ⟨1, by omega, rfl, .inr (.inl ⟨rfl, rfl⟩), Lib.hid (HG4.out.set 2 _), Lib.hid (HB4.out.setCell (Nat.le_refl _) _)⟩
    · go_upto_region 5 with fail
      go_region_held3 (fun w' => w'.cell? ⟨c, 0, none⟩ = some (.pointer (some ⟨g, 0, none⟩)))
        (first | go_keep | exact (HB4.out.cell (p := ⟨c, 0, none⟩) hcl).trans CC.out | exact ((HB4.out.setCell (p := ⟨w.heap.size, _, none⟩) (Nat.le_refl _) _).cell (p := ⟨c, 0, none⟩) hcl).trans CC.out)
        ((refine step_copy_two (by rfl) (.tmp 14) (.tmp 15) 94 (by rfl) 61 Tryz.underlying94 (by kernel_rfl) w.heap.size b 5 5 (by rfl) (by rfl) (by decide) _ (by exact HX.out) (.pointer (some ⟨g, o1, none⟩)) (.pointer (some ⟨g, o2, none⟩)) (by exact C0r.out) (by exact C1r.out) (by simp [fiveC]) rfl rfl w.heap.size w (by exact ⟨HB.out.os, HB.out.tape, HB.out.output, HB.out.size, HB.out.block⟩) (Nat.le_refl _) ?_; intro w4 HG4 hb4; have HB4 := Lib.hid hb4; have hc4 := HG4.out.cell (i := 2) rfl; have hc5 := HG4.out.cell (i := 3) rfl; have hc6 := HG4.out.cell (i := 4) rfl; have hf4 := HG4.out.free))
      go_wp2_with fail
      go_roundg (3 - (1 + 1))
      case measure => omega
      case rel => exact ⟨2, by omega, rfl, .inr (.inr (.inl ⟨rfl, rfl⟩)), Lib.hid (HG4.out.set 3 _), Lib.hid (HB4.out.setCell (Nat.le_refl _) _)⟩
    · go_upto_region 5 with fail
      go_region_held3 (fun w' => w'.cell? ⟨c, 0, none⟩ = some (.pointer (some ⟨g, 0, none⟩)))
        (first | go_keep | exact (HB4.out.cell (p := ⟨c, 0, none⟩) hcl).trans CC.out | exact ((HB4.out.setCell (p := ⟨w.heap.size, _, none⟩) (Nat.le_refl _) _).cell (p := ⟨c, 0, none⟩) hcl).trans CC.out)
        ((refine step_copy_two (by rfl) (.tmp 14) (.tmp 15) 94 (by rfl) 61 Tryz.underlying94 (by kernel_rfl) w.heap.size b 5 5 (by rfl) (by rfl) (by decide) _ (by exact HX.out) (.pointer (some ⟨g, o1, none⟩)) (.pointer (some ⟨g, o2, none⟩)) (by exact C0r.out) (by exact C1r.out) (by simp [fiveC]) rfl rfl w.heap.size w (by exact ⟨HB.out.os, HB.out.tape, HB.out.output, HB.out.size, HB.out.block⟩) (Nat.le_refl _) ?_; intro w4 HG4 hb4; have HB4 := Lib.hid hb4; have hc4 := HG4.out.cell (i := 2) rfl; have hc5 := HG4.out.cell (i := 3) rfl; have hc6 := HG4.out.cell (i := 4) rfl; have hf4 := HG4.out.free))
      go_wp2_with fail
      go_roundg (3 - (2 + 1))
      case measure => omega
      case rel => exact ⟨3, by omega, rfl, .inr (.inr (.inr (⟨rfl, rfl⟩))), Lib.hid (HG4.out.set 4 _), Lib.hid (HB4.out.setCell (Nat.le_refl _) _)⟩
    · go_wp2_with fail
      go_ret
      exact ⟨_, rfl, .inr ⟨w.heap.size, 0, 5, rfl, Nat.le_refl _, HX.out.lt, fun j x hj => by rw [Nat.zero_add]; exact HX.out.cell (by simpa [fiveC, ptrs] using hj)⟩, HB.out⟩

/-- A slice of so many places, made of a list that was built. -/
theorem row_of_built {B : Nat} {w : World} {b : Nat} {cs : List Value} {t : TypeId} (h : Blk w b cs.toArray t) (hB : B ≤ b) : RowV B w (.slice (some ⟨b, 0, none⟩) cs.length cs.length) cs :=
  .inr ⟨b, 0, cs.length, rfl, hB, h.lt, fun j x hj => by rw [Nat.zero_add]; exact h.cell (by simpa using hj)⟩
theorem blk_second (w : World) (c1 c2 : Array Value) (t1 t2 : TypeId) : Blk ((w.alloc (.cells c1 t1)).alloc (.cells c2 t2)) (w.heap.size + 1) c2 t2 := by
  have h := Blk.new (w.alloc (.cells c1 t1)) c2 t2
  have e : (w.alloc (.cells c1 t1)).heap.size = w.heap.size + 1 := by simp
  rw [e] at h
  exact h
set_option maxRecDepth 100000 in
set_option maxHeartbeats 1600000 in
theorem event_named (g : Nat) (k : Int) (w : World) (hc : w.cell? ⟨g, 0, none⟩ = some (.int .i64 k)) :
    Calls Tryz.prog 108 #[.pointer (some ⟨g, 0, none⟩)] w fun e w' => ∃ v, e = .returned v ∧ RowV w.heap.size w' v (ptrs g (offs k)) ∧ Below w.heap.size w w' := by
  have hgl := World.block_lt_of_cell? w _ hc
  rcases kind_cases k with rfl | rfl | rfl | rfl | rfl | rfl | rfl | h
  · go_enter Tryz.func108, Tryz.ntmps108
    go_upto_region 5 with fail
    go_region_held3 (fun w' => w'.cell? ⟨w.heap.size, 0, none⟩ = some (.pointer (some ⟨g, 0, none⟩))) (first | go_keep | exact keepB hb4 (by go_simp) (by simp; omega))
      ((go_at_call 123; refine (named_three _ _ g 1 3 _ (by go_simp) (by go_simp) (by go_simp)).mono ?_; rintro e w4 ⟨v, rfl, hr, hb4⟩))
    have HB := Lib.hid (((((Below.refl w.heap.size w).alloc (Nat.le_refl _) _).alloc (by simp) _).drew).trans (hb4.mono (by simp; omega)))
    have HR := Lib.hid hr
    clear hb4 hr
    go_wp2_with fail
    go_ret
    exact ⟨v, rfl, HR.out.mono (by simp; omega), HB.out⟩
  · go_enter Tryz.func108, Tryz.ntmps108
    go_upto_region 5 with fail
    go_region_held3 (fun w' => w'.cell? ⟨w.heap.size, 0, none⟩ = some (.pointer (some ⟨g, 0, none⟩))) (first | go_keep | exact keepB hb4 (by go_simp) (by simp; omega))
      ((go_at_call 123; refine (named_three _ _ g 1 3 _ (by go_simp) (by go_simp) (by go_simp)).mono ?_; rintro e w4 ⟨v, rfl, hr, hb4⟩))
    have HB := Lib.hid (((((Below.refl w.heap.size w).alloc (Nat.le_refl _) _).alloc (by simp) _).drew).trans (hb4.mono (by simp; omega)))
    have HR := Lib.hid hr
    clear hb4 hr
    go_wp2_with fail
    go_ret
    exact ⟨v, rfl, HR.out.mono (by simp; omega), HB.out⟩
  · go_enter Tryz.func108, Tryz.ntmps108
    go_upto_region 7 with fail
    go_region_held3 (fun w' => w'.cell? ⟨w.heap.size, 0, none⟩ = some (.pointer (some ⟨g, 0, none⟩))) (go_keep) (fail)
    go_wp2_with fail
    go_ret
    exact ⟨_, rfl, row_of_built (cs := [.pointer (some ⟨g, 1, none⟩), .pointer (some ⟨g, 3, none⟩)]) (blk_second w _ _ _ _) (by omega), ((((Below.refl w.heap.size w).alloc (Nat.le_refl _) _).alloc (by simp) _).drew)⟩
  · go_enter Tryz.func108, Tryz.ntmps108
    go_upto_region 9 with fail
    go_region_held3 (fun w' => w'.cell? ⟨w.heap.size, 0, none⟩ = some (.pointer (some ⟨g, 0, none⟩))) (first | go_keep | exact keepB hb4 (by go_simp) (by simp; omega))
      ((go_at_call 123; refine (named_three _ _ g 2 4 _ (by go_simp) (by go_simp) (by go_simp)).mono ?_; rintro e w4 ⟨v, rfl, hr, hb4⟩))
    have HB := Lib.hid (((((Below.refl w.heap.size w).alloc (Nat.le_refl _) _).alloc (by simp) _).drew).trans (hb4.mono (by simp; omega)))
    have HR := Lib.hid hr
    clear hb4 hr
    go_wp2_with fail
    go_ret
    exact ⟨v, rfl, HR.out.mono (by simp; omega), HB.out⟩
  · go_enter Tryz.func108, Tryz.ntmps108
    go_wp2_with fail
    go_ret
    exact ⟨_, rfl, row_of_built (cs := [.pointer (some ⟨g, 2, none⟩)]) (blk_second w _ _ _ _) (by omega), ((Below.refl w.heap.size w).alloc (Nat.le_refl _) _).alloc (by simp) _⟩
  · go_enter Tryz.func108, Tryz.ntmps108
    go_upto_region 14 with fail
    go_region_held3 (fun w' => w'.cell? ⟨w.heap.size, 0, none⟩ = some (.pointer (some ⟨g, 0, none⟩))) (go_keep) (fail)
    go_wp2_with fail
    go_ret
    exact ⟨_, rfl, row_of_built (cs := [.pointer (some ⟨g, 2, none⟩), .pointer (some ⟨g, 1, none⟩), .pointer (some ⟨g, 3, none⟩)]) (blk_second w _ _ _ _) (by omega), ((((Below.refl w.heap.size w).alloc (Nat.le_refl _) _).alloc (by simp) _).drew)⟩
  · go_enter Tryz.func108, Tryz.ntmps108
    go_upto_region 14 with fail
    go_region_held3 (fun w' => w'.cell? ⟨w.heap.size, 0, none⟩ = some (.pointer (some ⟨g, 0, none⟩))) (go_keep) (fail)
    go_wp2_with fail
    go_ret
    exact ⟨_, rfl, row_of_built (cs := [.pointer (some ⟨g, 2, none⟩), .pointer (some ⟨g, 1, none⟩), .pointer (some ⟨g, 3, none⟩)]) (blk_second w _ _ _ _) (by omega), ((((Below.refl w.heap.size w).alloc (Nat.le_refl _) _).alloc (by simp) _).drew)⟩
  · obtain ⟨n1, n2, n3, n4, n5, n6, n7⟩ := h
    have e1 : (k == 1) = false := by rw [beq_eq_false_iff_ne]; exact n1
    have e2 : (k == 2) = false := by rw [beq_eq_false_iff_ne]; exact n2
    have e3 : (k == 3) = false := by rw [beq_eq_false_iff_ne]; exact n3
    have e4 : (k == 4) = false := by rw [beq_eq_false_iff_ne]; exact n4
    have e5 : (k == 5) = false := by rw [beq_eq_false_iff_ne]; exact n5
    have e6 : (k == 6) = false := by rw [beq_eq_false_iff_ne]; exact n6
    have e7 : (k == 7) = false := by rw [beq_eq_false_iff_ne]; exact n7
    have HO := Lib.hid (offs_none ⟨n1, n2, n3, n4, n5, n6, n7⟩)
    clear n1 n2 n3 n4 n5 n6 n7
    go_enter Tryz.func108, Tryz.ntmps108
    go_wp2_with fail
    go_ret
    exact ⟨_, rfl, .inl ⟨_, _, rfl, by rw [HO.out]; rfl⟩, (Below.refl w.heap.size w).alloc (Nat.le_refl _) _⟩
end Go.Proofs.YtanihdpgblkeaaaGreatDoor

/-! EventPure -/
namespace Go.Proofs.YtanihdpgblkeaaaGreatDoor
open Go.RowKit
set_option linter.unusedVariables false
set_option linter.unusedSimpArgs false

theorem info_event (l : List Int) (h : l.length = 8) : (Tryz.prog.info? 43).map (·.size) = some (cellsI l).size := by
  rw [cellsI_size, h]; kernel_rfl
theorem lay8 (l : List Int) (os : List Nat) (k : Int) : (lay l os (bare k)).length = 8 := by rw [lay_length]; rfl
set_option maxRecDepth 100000 in
set_option maxHeartbeats 1600000 in
theorem event_pure (l : List Int) (hl : l.length = 8) (w : World) :
    Calls Tryz.prog 109 #[.agg (cellsI l)] w fun e w' => e = .returned (.agg (cellsI (pureL l))) ∧ Below w.heap.size w w' := by
  have hu := Tryz.underlying43
  obtain ⟨K, hK⟩ : ∃ K, fld l 0 = K := ⟨_, rfl⟩
  have h0 : (cellsI l)[0]? = some (.int .i64 K) := by rw [← hK]; exact cellsI_at (by omega)
  have hsz : (cellsI l).size = 8 := by rw [cellsI_size, hl]
  have HP : Hid (pureL l = if offs K = [] then bare 0 else lay l (offs K) (bare K)) := Lib.hid (by unfold pureL; rw [hK])
  obtain ⟨PL, hPL⟩ : ∃ PL, pureL l = PL := ⟨_, rfl⟩
  rw [hPL] at HP ⊢
  clear hPL
  have HK := Lib.hid hK
  have HL := Lib.hid hl
  have H0 := Lib.hid h0
  have HSZ := Lib.hid hsz
  clear hK hl hsz h0
  obtain ⟨C, hC⟩ : ∃ C, cellsI l = C := ⟨_, rfl⟩
  rw [hC] at H0 HSZ ⊢
  have HC := Lib.hid hC
  clear hC
  have hc0 : (w.alloc (.cells C 43)).cell? ⟨w.heap.size, 0, none⟩ = some (.int .i64 K) := (Blk.new w C _).cell H0.out
  go_enter Tryz.func109, Tryz.ntmps109
  go_wp2_with fail
  obtain ⟨w1, hw1⟩ : ∃ w1, (w.alloc (.cells C 43)).alloc (.cells (cellsI (bare 0)) 43) = w1 := ⟨_, rfl⟩
  have hb0 : Blk w1 w.heap.size C 43 := by rw [← hw1]; exact (Blk.new w C _).alloc _
  have hb1 : Blk w1 (w.heap.size + 1) (cellsI (bare 0)) 43 := by rw [← hw1]; exact blk_second w _ _ _ _
  have hbw : Below w.heap.size w w1 := by rw [← hw1]; exact ((Below.refl w.heap.size w).alloc (Nat.le_refl _) _).alloc (by simp) _
  have hz1 : w1.heap.size = w.heap.size + 2 := by rw [← hw1]; simp
  show Calls _ _ _ ((w.alloc (.cells C 43)).alloc (.cells (cellsI (bare 0)) 43)) _
  rw [hw1]
  clear hw1 hc0
  refine (event_named w.heap.size K w1 (hb0.cell H0.out)).mono ?_
  rintro e w2 ⟨v1, rfl, hr1, hbb⟩
  have hr1 := hr1
  obtain ⟨p1, c1, rfl⟩ := hr1.len
  rw [ptrs_length] at hr1 ⊢
  have B0 := Lib.hid (hb0.below hbb hb0.lt)
  have B1 := Lib.hid (hb1.below hbb hb1.lt)
  have BW := Lib.hid (hbw.trans (hbb.mono hbw.size))
  have hz2 : w.heap.size + 2 ≤ w2.heap.size := by have := hbb.size; omega
  have R1 := Lib.hid (hr1.mono (show w.heap.size + 2 ≤ w1.heap.size by omega))
  clear hb0 hb1 hbw hz1 hbb hr1
  obtain ⟨n, hn⟩ : ∃ n, (offs K).length = n := ⟨_, rfl⟩
  have hn5 := offs_length K
  rw [hn] at R1 hn5 ⊢
  by_cases h0 : n = 0
  · have he : offs K = [] := List.eq_nil_of_length_eq_zero (hn.trans h0)
    subst h0
    have HP2 : Hid (PL = bare 0) := Lib.hid (by rw [HP.out, if_pos he])
    clear hn he
    go_wp2_with (with_reducible refine ev_store rfl 43 (.tmp 2) (.tmp 11) rfl (w.heap.size + 1) (cellsI (bare 0)) rfl rfl 43 _ B1.out (by kernel_rfl) rfl (cellsI_one _) ?_; intro w3 hb3 hc3 hz3)
    refine bodyPost_ret (res_c rfl _ (w.heap.size + 1) 43 (cellsI (bare 0)) _ rfl hb3 hu rfl (by kernel_rfl)) rfl ⟨by rw [HP2.out], ?_⟩
    exact Chg.belowOf BW.out hc3 (fun k hk => by omega) (by omega)
  · have he : ¬ offs K = [] := fun e => h0 (by rw [← hn, e]; rfl)
    have HP2 : Hid (PL = lay l (offs K) (bare K)) := Lib.hid (by rw [HP.out, if_neg he])
    have HN := Lib.hid hn
    have hn1 : (0 : Int) < (n : Int) := by omega
    have hnz : ((n : Int) == 0) = false := by rw [beq_eq_false_iff_ne]; omega
    clear hn he HP
    have hcell := B0.out.cell H0.out
    go_wp2_with (with_reducible refine ev_store rfl 43 (.tmp 4) (.tmp 14) rfl w2.heap.size (cellsI (bare K)) rfl rfl 43 _ (Blk.new w2 _ _) (by kernel_rfl) rfl (cellsI_one _) ?_; intro w3 hb3 hc3 hz3)
    refine (event_named w2.heap.size K w3 (hb3.cell rfl)).mono ?_
    rintro e w4 ⟨v2, rfl, hr2, hb4⟩
    obtain ⟨p2, c2, rfl⟩ := hr2.len
    rw [ptrs_length, HN.out] at hr2 ⊢
    have hcw : Chg (fun k => k = w2.heap.size) w2 w3 := ((Chg.refl _ w2).alloc _).trans hc3
    have hz3' : w2.heap.size < w3.heap.size := by rw [hz3]; simp
    have hc4 : Chg (fun k => k = w2.heap.size) w2 w4 := hcw.trans ⟨hb4.os, hb4.tape, hb4.output, hb4.size, fun k hk _ => hb4.block k hk⟩
    have X0 := Lib.hid (B0.out.chg hc4 (by omega))
    have X1 := Lib.hid (B1.out.chg hc4 (by omega))
    have XG := Lib.hid (hb3.below hb4 hz3')
    have R1' := Lib.hid (R1.out.chg hc4 (fun b _ h => by omega))
    have R1n := Lib.hid (R1.out)
    have R2 := Lib.hid hr2
    have C4 := Lib.hid hc4
    have Z3 := Lib.hid hz3'
    have hz4 : w3.heap.size ≤ w4.heap.size := hb4.size
    clear hb3 hc3 hz3 hr2 hb4 hcw hc4 hz3' B0 B1 hcell hr1 R1
    go_wp2_with fail
    go_loopg [17] n (fun gg s17 wr => ∃ i : Nat, i ≤ n ∧ gg = n - i ∧ s17 = .int .i64 i ∧ Hid (Blk wr w2.heap.size (cellsI (lay l ((offs K).take i) (bare K))) 43) ∧ Hid (Chg (fun k => k = w2.heap.size) w4 wr))
    case atStart => exact ⟨0, by omega, rfl, rfl, XG, Lib.hid (Chg.refl _ _)⟩
    case round =>
      clear XG
      obtain ⟨i, hi, hg, rfl, HX, HC4⟩ := hrel
      have hg := hg.symm
      subst hg
      by_cases hlt : i < n
      · have hio : i < (offs K).length := by rw [HN.out]; exact hlt
        obtain ⟨b1, o1, q1, e1, hB1, hL1, k1⟩ := R1'.out.at (j := i) (by rw [ptrs_length]; exact hio)
        have hL1 : b1 < w2.heap.size := by
          obtain ⟨b1', o1', q1', e1', _, hL1', _⟩ := R1n.out.at (j := i) (by rw [ptrs_length]; exact hio)
          rw [e1] at e1'
          injection e1' with h1 h2 h3
          injection h1 with h1
          injection h1 with h1
          omega
        rw [ptrs_length, HN.out] at e1
        cases e1
        obtain ⟨b2, o2, q2, e2, hB2, hL2, k2⟩ := R2.out.at (j := i) (by rw [ptrs_length]; exact hio)
        rw [ptrs_length, HN.out] at e2
        cases e2
        rw [ptrs_at _ _ _ hio] at k1 k2
        have ho := offs_lt K _ (List.getElem_mem hio)
        have HLT := Lib.hid (lay_take l (offs K) i hio (bare K))
        obtain ⟨o, hoo⟩ : ∃ o, (offs K)[i] = o := ⟨_, rfl⟩
        rw [hoo] at k1 k2 ho HLT
        clear hoo
        have z3 := Z3.out
        have k1 := (HC4.out.cell (p := ⟨b1, o1 + i, none⟩) (by show b1 < _; omega) (by show ¬ b1 = _; omega)).trans k1
        have k2 := (HC4.out.cell (p := ⟨b2, o2 + i, none⟩) (by show b2 < _; omega) (by show ¬ b2 = _; omega)).trans k2
        have hCo : C[o]? = some (.int .i64 (fld l o)) := by rw [← HC.out]; exact cellsI_at (by rw [HL.out]; omega)
        have k3 := (X0.out.chg HC4.out (by omega)).cell hCo
        have k4 := HX.out.cell (cellsI_at (l := lay l ((offs K).take i) (bare K)) (i := o) (by rw [lay8]; omega))
        have k5 := HX.out.free o
        have hiI : (i : Int) < (n : Int) := by omega
        have hi0 : (0 : Int) ≤ (i : Int) := by omega
        clear ho hCo z3
        go_wp2_with fail
        go_roundg (n - (i + 1))
        case measure => omega
        case rel =>
          refine ⟨i + 1, by omega, rfl, by go_num, Lib.hid ?_, Lib.hid (HC4.out.set (by rfl) _)⟩
          rw [HLT.out, ← cellsI_set]
          exact HX.out.set o _
      · obtain rfl : i = n := by omega
        go_wp2_with (first
          | (with_reducible refine ev_load rfl 43 (.tmp 4) rfl w2.heap.size rfl 43 (cellsI (lay l ((offs K).take i) (bare K))) _ HX.out hu rfl (info_event _ (lay8 _ _ _)) ?_)
          | (with_reducible refine ev_store rfl 43 (.tmp 2) (.tmp 31) rfl (w.heap.size + 1) (cellsI (lay l ((offs K).take i) (bare K))) rfl rfl 43 _ (X1.out.chg HC4.out (by omega)) (info_event _ (lay8 _ _ _)) (by simp [cellsI_size, lay8, bare_length]) (cellsI_one _) ?_; intro w5 hb5 hc5 hz5))
        refine bodyPost_ret (res_c rfl _ (w.heap.size + 1) 43 (cellsI (lay l ((offs K).take i) (bare K))) _ rfl hb5 hu rfl (info_event _ (lay8 _ _ _))) rfl ⟨by rw [HP2.out, List.take_of_length_le (by rw [HN.out]; omega)], ?_⟩
        have b1 := Chg.belowOf BW.out (C4.out.trans HC4.out) (fun k hk => by omega) (by omega)
        exact Chg.belowOf b1 hc5 (fun k hk => by omega) b1.size
end Go.Proofs.YtanihdpgblkeaaaGreatDoor

/-! StructEq -/
namespace Go.Proofs.YtanihdpgblkeaaaGreatDoor
open Go.RowKit
set_option linter.unusedVariables false
set_option linter.unusedSimpArgs false

theorem run_eqIn_res (d : Nat) (a0 a1 a2 b0 b1 b2 : Int) (w : World) :
    (Op.equalIn (d + 2) 23 (.agg #[.int .i64 a0, .int .i64 a1, .int .i64 a2]) (.agg #[.int .i64 b0, .int .i64 b1, .int .i64 b2])).run Tryz.prog w = .ok (a0 == b0 && (a1 == b1 && a2 == b2)) w := by
  have hz : (Tryz.prog.info? 3).map (·.size) = some 1 := by kernel_rfl
  have p0 : ∀ (x y z : Value) (w : World), (part 3 #[x, y, z] 0).run Tryz.prog w = .ok x w := fun _ _ _ _ => by kernel_rfl
  have p1 : ∀ (x y z : Value) (w : World), (part 3 #[x, y, z] 1).run Tryz.prog w = .ok y w := fun _ _ _ _ => by kernel_rfl
  have p2 : ∀ (x y z : Value) (w : World), (part 3 #[x, y, z] 2).run Tryz.prog w = .ok z w := fun _ _ _ _ => by kernel_rfl
  have hs : ∀ w, (sizeOf 3).run Tryz.prog w = .ok 1 w := fun _ => by kernel_rfl
  have he : ∀ (a b : Int) (w : World), (Op.equalIn (d + 1) 3 (.int .i64 a) (.int .i64 b)).run Tryz.prog w = .ok (a == b) w := fun a b w => run_equalIn_int w d _ _ _ a b Tryz.underlying3
  have hr : List.range' 0 3 = [0, 1, 2] := rfl
  rw [Op.equalIn]
  simp only [Sem.run_bind, run_underlying Tryz.underlying23, Result.andThen_ok, hs]
  by_cases e0 : a0 = b0 <;> by_cases e1 : a1 = b1 <;> by_cases e2 : a2 = b2 <;> simp [Std.Legacy.Range.forIn_eq_forIn_range', hr, p0, p1, p2, he, e0, e1, e2]
/-- A list of so many numbers, written out. -/
theorem three_of {l : List Int} (h : l.length = 3) : ∃ a b c, l = [a, b, c] := by
  match l, h with
  | [a, b, c], _ => exact ⟨a, b, c, rfl⟩
theorem eight_of {l : List Int} (h : l.length = 8) : ∃ a b c d e f g i, l = [a, b, c, d, e, f, g, i] := by
  match l, h with
  | [a, b, c, d, e, f, g, i], _ => exact ⟨a, b, c, d, e, f, g, i, rfl⟩
theorem eqIn_res (a b : List Int) (ha : a.length = 3) (hb : b.length = 3) (d : Nat) (w : World) :
    (Op.equalIn (d + 2) 23 (.agg (cellsI a)) (.agg (cellsI b))).run Tryz.prog w = .ok (decide (a = b)) w := by
  obtain ⟨a0, a1, a2, rfl⟩ := three_of ha
  obtain ⟨b0, b1, b2, rfl⟩ := three_of hb
  refine (run_eqIn_res d a0 a1 a2 b0 b1 b2 w).trans ?_
  by_cases e0 : a0 = b0 <;> by_cases e1 : a1 = b1 <;> by_cases e2 : a2 = b2 <;> simp [e0, e1, e2]
/-- Two vectors are equal. -/
theorem eql_res (a b : List Int) (ha : a.length = 3) (hb : b.length = 3) (w : World) :
    (binOp .eql 23 (.agg (cellsI a)) (.agg (cellsI b))).run Tryz.prog w = .ok (.bool (decide (a = b))) w := by
  rw [run_eql_struct, eqIn_res a b ha hb 9998 w]; rfl
theorem eqIn_event (a b : List Int) (ha : a.length = 8) (hb : b.length = 8) (d : Nat) (w : World) :
    (Op.equalIn (d + 3) 43 (.agg (cellsI a)) (.agg (cellsI b))).run Tryz.prog w = .ok (decide (a = b)) w := by
  obtain ⟨a0, a1, a2, a3, a4, a5, a6, a7, rfl⟩ := eight_of ha
  obtain ⟨b0, b1, b2, b3, b4, b5, b6, b7, rfl⟩ := eight_of hb
  rw [run_equalIn_agg w (d + 2) _ _ _ (by kernel_rfl) (by kernel_rfl)]
  have he : ∀ (a b : Int) (w : World), (Op.equalIn (d + 2) 3 (.int .i64 a) (.int .i64 b)).run Tryz.prog w = .ok (a == b) w := fun a b w => run_equalIn_int w (d + 1) _ _ _ a b Tryz.underlying3
  have hf : (Tryz.prog.fieldsOf 43).toList.map (fun f => (f.name, f.type, f.offset)) = [("Kind", 3, 0), ("Node", 3, 1), ("Job", 3, 2), ("Inc", 3, 3), ("Prio", 3, 4), ("Res", 23, 5)] := by kernel_rfl
  generalize (Tryz.prog.fieldsOf 43).toList = fs at hf
  have hlen := congrArg List.length hf
  rw [List.length_map] at hlen
  match fs, hlen with
  | [f0, f1, f2, f3, f4, f5], _ =>
    simp only [List.map_cons, List.map_nil, List.cons.injEq, Prod.mk.injEq, and_true] at hf
    obtain ⟨⟨n0, t0, o0⟩, ⟨n1, t1, o1⟩, ⟨n2, t2, o2⟩, ⟨n3, t3, o3⟩, ⟨n4, t4, o4⟩, ⟨n5, t5, o5⟩⟩ := hf
    have p0 : ∀ (x0 x1 x2 x3 x4 x5 x6 x7 : Value) (w : World), (part 3 #[x0, x1, x2, x3, x4, x5, x6, x7] 0).run Tryz.prog w = .ok x0 w := fun _ _ _ _ _ _ _ _ _ => by kernel_rfl
    have p1 : ∀ (x0 x1 x2 x3 x4 x5 x6 x7 : Value) (w : World), (part 3 #[x0, x1, x2, x3, x4, x5, x6, x7] 1).run Tryz.prog w = .ok x1 w := fun _ _ _ _ _ _ _ _ _ => by kernel_rfl
    have p2 : ∀ (x0 x1 x2 x3 x4 x5 x6 x7 : Value) (w : World), (part 3 #[x0, x1, x2, x3, x4, x5, x6, x7] 2).run Tryz.prog w = .ok x2 w := fun _ _ _ _ _ _ _ _ _ => by kernel_rfl
    have p3 : ∀ (x0 x1 x2 x3 x4 x5 x6 x7 : Value) (w : World), (part 3 #[x0, x1, x2, x3, x4, x5, x6, x7] 3).run Tryz.prog w = .ok x3 w := fun _ _ _ _ _ _ _ _ _ => by kernel_rfl
    have p4 : ∀ (x0 x1 x2 x3 x4 x5 x6 x7 : Value) (w : World), (part 3 #[x0, x1, x2, x3, x4, x5, x6, x7] 4).run Tryz.prog w = .ok x4 w := fun _ _ _ _ _ _ _ _ _ => by kernel_rfl
    have p5 : ∀ (x0 x1 x2 x3 x4 x5 x6 x7 : Value) (w : World), (part 23 #[x0, x1, x2, x3, x4, x5, x6, x7] 5).run Tryz.prog w = .ok (.agg #[x5, x6, x7]) w := fun _ _ _ _ _ _ _ _ _ => by kernel_rfl
    have hr := run_eqIn_res d a5 a6 a7 b5 b6 b7
    have hl : ∀ l : List Int, cellsI l = (l.map (Value.int .i64)).toArray := fun _ => rfl
    by_cases e0 : a0 = b0 <;> by_cases e1 : a1 = b1 <;> by_cases e2 : a2 = b2 <;> by_cases e3 : a3 = b3 <;> by_cases e4 : a4 = b4 <;>
      simp [Op.eqFields, n0, n1, n2, n3, n4, n5, t0, t1, t2, t3, t4, t5, o0, o1, o2, o3, o4, o5, p0, p1, p2, p3, p4, p5, he, hr, hl, e0, e1, e2, e3, e4]
    split <;> simp_all
/-- Two events are equal, or not. -/
theorem eql_event (a b : List Int) (ha : a.length = 8) (hb : b.length = 8) (w : World) :
    (binOp .eql 43 (.agg (cellsI a)) (.agg (cellsI b))).run Tryz.prog w = .ok (.bool (decide (a = b))) w := by
  rw [run_eql_struct, eqIn_event a b ha hb 9997 w]; rfl
theorem neq_event (a b : List Int) (ha : a.length = 8) (hb : b.length = 8) (w : World) :
    (binOp .neq 43 (.agg (cellsI a)) (.agg (cellsI b))).run Tryz.prog w = .ok (.bool (!decide (a = b))) w := by
  rw [run_neq_struct, eqIn_event a b ha hb 9997 w]; rfl
end Go.Proofs.YtanihdpgblkeaaaGreatDoor

/-! ResRight -/
namespace Go.Proofs.YtanihdpgblkeaaaGreatDoor
open Go.RowKit
set_option linter.unusedVariables false
set_option linter.unusedSimpArgs false

/-- Is a number from a least one to a greatest one? -/
def inR (n a b : Int) : Bool := decide (a ≤ n) && decide (n ≤ b)
theorem inR_yes {n a b : Int} (h1 : a ≤ n) (h2 : n ≤ b) : inR n a b = true := by simp [inR, h1, h2]
theorem inR_no {n a b : Int} (h : n < a ∨ b < n) : inR n a b = false := by
  unfold inR; rcases h with h | h
  · rw [decide_eq_false (by omega)]; rfl
  · rw [decide_eq_false (p := n ≤ b) (by omega)]; simp
theorem inR_iff {n a b : Int} : inR n a b = true ↔ a ≤ n ∧ n ≤ b := by simp [inR]
theorem num_right (n a b : Int) (w : World) : Calls Tryz.prog 97 #[.int .i64 n, .int .i64 a, .int .i64 b] w fun e w' => e = .returned (.bool (inR n a b)) ∧ w = w' := by
  by_cases h1 : n < a
  · rw [inR_no (.inl h1)]
    go_enter Tryz.func97, Tryz.ntmps97
    go_wp2_with fail
    go_ret
    exact ⟨rfl, rfl⟩
  · have h1' : a ≤ n := by omega
    by_cases h2 : n ≤ b
    · rw [inR_yes h1' h2]
      go_enter Tryz.func97, Tryz.ntmps97
      go_wp2_with fail
      go_ret
      exact ⟨rfl, rfl⟩
    · have h2' : b < n := by omega
      rw [inR_no (.inr h2')]
      go_enter Tryz.func97, Tryz.ntmps97
      go_wp2_with fail
      go_ret
      exact ⟨rfl, rfl⟩
/-- The nearest number of a unit's span. -/
def spanU (n : Int) : Int := if 1048576 < n then 1048576 else if n < 0 then 0 else n
theorem spanU_same (n : Int) : spanU n = n ↔ 0 ≤ n ∧ n ≤ 1048576 := by unfold spanU; split; omega; split <;> omega
theorem num_span (n : Int) (w : World) : Calls Tryz.prog 118 #[.int .i64 n, .int .i64 0, .int .i64 1048576] w fun e w' => e = .returned (.int .i64 (spanU n)) ∧ w = w' := by
  unfold spanU
  by_cases h1 : 1048576 < n
  · rw [if_pos h1]
    go_enter Tryz.func118, Tryz.ntmps118
    go_wp2_with fail
    go_ret
    exact ⟨rfl, rfl⟩
  · rw [if_neg h1]
    have h1' : n ≤ 1048576 := by omega
    by_cases h2 : n < 0
    · rw [if_pos h2]
      go_enter Tryz.func118, Tryz.ntmps118
      go_wp2_with fail
      go_ret
      exact ⟨rfl, rfl⟩
    · rw [if_neg h2]
      have h2' : 0 ≤ n := by omega
      go_enter Tryz.func118, Tryz.ntmps118
      go_wp2_with fail
      go_ret
      exact ⟨rfl, rfl⟩
theorem res_right1 (n m : Int) (w : World) : Calls Tryz.prog 117 #[.int .i64 n, .int .i64 m] w fun e w' => e = .returned (.int .i64 (spanU n)) ∧ w = w' := by
  go_enter Tryz.func117, Tryz.ntmps117
  go_wp2_with (go_at_call 118; refine (num_span _ _).mono ?_; rintro e w' ⟨rfl, rfl⟩)
  go_ret
  exact ⟨rfl, rfl⟩
/-- Three numbers, so many of them filled in. -/
def fillC (f : Int → Int → Int) (a b : List Int) (k : Nat) : List Int := [if 0 < k then f (fld a 0) (fld b 0) else 0, if 1 < k then f (fld a 1) (fld b 1) else 0, if 2 < k then f (fld a 2) (fld b 2) else 0]
theorem fillC_length (f : Int → Int → Int) (a b : List Int) (k : Nat) : (fillC f a b k).length = 3 := rfl
theorem fillC_set (f : Int → Int → Int) (a b : List Int) (k : Nat) (hk : k < 3) : (fillC f a b k).set k (f (fld a k) (fld b k)) = fillC f a b (k + 1) := by
  match k, hk with
  | 0, _ => rfl
  | 1, _ => rfl
  | 2, _ => rfl
theorem fillC_whole (f : Int → Int → Int) (a b : List Int) (ha : a.length = 3) (hb : b.length = 3) : fillC f a b 3 = List.zipWith f a b := by
  obtain ⟨a0, a1, a2, rfl⟩ := three_of ha
  obtain ⟨b0, b1, b2, rfl⟩ := three_of hb
  rfl
theorem info_res (l : List Int) (h : l.length = 3) : (Tryz.prog.info? 23).map (·.size) = some (cellsI l).size := by
  rw [cellsI_size, h]; kernel_rfl
theorem cell_far {w : World} {a b : Addr} {v x : Value} (hc : w.cell? b = some x) (h : ¬ a.block = b.block) : (w.setCell a v).drew.cell? b = some x :=
  (World.cell?_setCell_other w a b v (fun e => h (by rw [e]))).trans hc
theorem range_of_blk {w : World} {b : Nat} {cs : Array Value} {t : TypeId} (h : Blk w b cs t) : w.rangeAt b 0 cs.toList := fun j v hv => by
  rw [Nat.zero_add]
  exact h.cell (by simpa using hv)
theorem blk_at (W : World) (cs : Array Value) (t : TypeId) (n : Nat) (h : W.heap.size = n) : Blk (W.alloc (.cells cs t)) n cs t := h ▸ Blk.new W cs t
set_option maxRecDepth 100000 in
set_option maxHeartbeats 1600000 in
theorem res_each_right (a b : List Int) (ha : a.length = 3) (hb : b.length = 3) (w : World) :
    Calls Tryz.prog 116 #[.agg (cellsI a), .agg (cellsI b), .func (Fn.func 117) #[] #[]] w fun e w' => e = .returned (.agg (cellsI (List.zipWith (fun n _ => spanU n) a b))) ∧ Below w.heap.size w w' := by
  have hu := Tryz.underlying23
  rw [← fillC_whole _ a b ha hb]
  obtain ⟨f, hf⟩ : ∃ f : Int → Int → Int, (fun n _ => spanU n) = f := ⟨_, rfl⟩
  have HF := Lib.hid (fun (n m : Int) (w : World) => (by rw [← hf]; exact res_right1 n m w : Calls Tryz.prog 117 #[.int .i64 n, .int .i64 m] w fun e w' => e = .returned (.int .i64 (f n m)) ∧ w = w'))
  rw [hf]
  clear hf
  have HA := Lib.hid ha
  have HB := Lib.hid hb
  clear ha hb
  obtain ⟨CA, hCA⟩ : ∃ C, cellsI a = C := ⟨_, rfl⟩
  obtain ⟨CB, hCB⟩ : ∃ C, cellsI b = C := ⟨_, rfl⟩
  have HCA := Lib.hid (fun i (hi : i < 3) => show CA[i]? = some (.int .i64 (fld a i)) by rw [← hCA]; exact cellsI_at (by rw [HA.out]; exact hi))
  have HCB := Lib.hid (fun i (hi : i < 3) => show CB[i]? = some (.int .i64 (fld b i)) by rw [← hCB]; exact cellsI_at (by rw [HB.out]; exact hi))
  rw [hCA, hCB]
  clear hCA hCB
  go_enter Tryz.func116, Tryz.ntmps116
  go_wp2_with fail
  go_loopg [9] 3 (fun gg s9 wr => ∃ k : Nat, k ≤ 3 ∧ gg = 3 - k ∧ (k = 0 ∧ s9 = .int .i64 0 ∨ k = 1 ∧ s9 = .int .i64 1 ∨ k = 2 ∧ s9 = .int .i64 2 ∨ k = 3 ∧ s9 = .int .i64 3) ∧ Hid (Blk wr w.heap.size CA 23) ∧ Hid (Blk wr (w.heap.size + 1) CB 23) ∧ Hid (Blk wr (w.heap.size + 2) (cellsI [0, 0, 0]) 23) ∧ Hid (Blk wr (w.heap.size + 3) (cellsI (fillC f a b k)) 23) ∧ Hid (Below w.heap.size w wr))
  case atStart =>
    refine ⟨0, by omega, rfl, .inl ⟨rfl, rfl⟩, Lib.hid ?_, Lib.hid ?_, Lib.hid ?_, Lib.hid ?_, Lib.hid ?_⟩
    · exact (((Blk.new w _ _).alloc _).alloc _).alloc _
    · exact ((blk_at (w.alloc _) _ _ _ (by simp)).alloc _).alloc _
    · exact (blk_at ((w.alloc _).alloc _) _ _ _ (by simp)).alloc _
    · exact blk_at (((w.alloc _).alloc _).alloc _) _ _ _ (by simp)
    · exact ((((Below.refl w.heap.size w).alloc (Nat.le_refl _) _).alloc (by simp) _).alloc (by simp; omega) _).alloc (by simp; omega) _
  case round =>
    obtain ⟨k, hk, hg, hs9, X0, X1, X2, X3, HBL⟩ := hrel
    have hg := hg.symm
    subst hg
    by_cases hlt : k < 3
    · have c0 := X0.out.cell (HCA.out k hlt)
      have c1 := X1.out.cell (HCB.out k hlt)
      have c3 := X3.out.cell (cellsI_at (l := fillC f a b k) (i := k) hlt)
      have f3 := X3.out.free k
      have HS := Lib.hid (fillC_set f a b k hlt)
      obtain ⟨x, hx⟩ : ∃ x, fld a k = x := ⟨_, rfl⟩
      obtain ⟨y, hy⟩ : ∃ y, fld b k = y := ⟨_, rfl⟩
      rw [hx, hy] at HS
      rw [hx] at c0
      rw [hy] at c1
      clear hx hy
      rcases hs9 with ⟨rfl, rfl⟩ | ⟨rfl, rfl⟩ | ⟨rfl, rfl⟩ | ⟨rfl, _⟩
      case inr.inr.inr => omega
      · go_upto_region 5 with fail
        go_region_held3 (fun w' => w'.cell? ⟨w.heap.size, 0, none⟩ = some (.int .i64 x) ∧ w'.cell? ⟨w.heap.size + 1, 0, none⟩ = some (.int .i64 y)) (first | (go_keep; done) | exact ⟨cell_far c0 (by show ¬ w.heap.size + 1 + 1 + 1 = w.heap.size; omega), cell_far c1 (by show ¬ w.heap.size + 1 + 1 + 1 = w.heap.size + 1; omega)⟩)
          ((go_at_call 117; refine (HF.out _ _ _).mono ?_; rintro e w4 ⟨rfl, rfl⟩))
        go_wp2_with fail
        go_roundg (3 - (0 + 1))
        case measure => omega
        case rel =>
          refine ⟨1, by omega, rfl, .inr (.inl ⟨rfl, rfl⟩), Lib.hid (X0.out.far (a := ⟨w.heap.size + 3, 0, none⟩) (by simp) _), Lib.hid (X1.out.far (a := ⟨w.heap.size + 3, 0, none⟩) (by simp) _), Lib.hid (X2.out.far (a := ⟨w.heap.size + 3, 0, none⟩) (by simp) _), Lib.hid ?_, Lib.hid ?_⟩
          · rw [← HS.out, ← cellsI_set]
            exact X3.out.set 0 _
          · exact (HBL.out.setCell (p := ⟨w.heap.size + 3, 0, none⟩) (by simp) _).drew
      · go_upto_region 5 with fail
        go_region_held3 (fun w' => w'.cell? ⟨w.heap.size, 1, none⟩ = some (.int .i64 x) ∧ w'.cell? ⟨w.heap.size + 1, 1, none⟩ = some (.int .i64 y)) (first | (go_keep; done) | exact ⟨cell_far c0 (by show ¬ w.heap.size + 1 + 1 + 1 = w.heap.size; omega), cell_far c1 (by show ¬ w.heap.size + 1 + 1 + 1 = w.heap.size + 1; omega)⟩)
          ((go_at_call 117; refine (HF.out _ _ _).mono ?_; rintro e w4 ⟨rfl, rfl⟩))
        go_wp2_with fail
        go_roundg (3 - (1 + 1))
        case measure => omega
        case rel =>
          refine ⟨2, by omega, rfl, .inr (.inr (.inl ⟨rfl, rfl⟩)), Lib.hid (X0.out.far (a := ⟨w.heap.size + 3, 1, none⟩) (by simp) _), Lib.hid (X1.out.far (a := ⟨w.heap.size + 3, 1, none⟩) (by simp) _), Lib.hid (X2.out.far (a := ⟨w.heap.size + 3, 1, none⟩) (by simp) _), Lib.hid ?_, Lib.hid ?_⟩
          · rw [← HS.out, ← cellsI_set]
            exact X3.out.set 1 _
          · exact (HBL.out.setCell (p := ⟨w.heap.size + 3, 1, none⟩) (by simp) _).drew
      · go_upto_region 5 with fail
        go_region_held3 (fun w' => w'.cell? ⟨w.heap.size, 2, none⟩ = some (.int .i64 x) ∧ w'.cell? ⟨w.heap.size + 1, 2, none⟩ = some (.int .i64 y)) (first | (go_keep; done) | exact ⟨cell_far c0 (by show ¬ w.heap.size + 1 + 1 + 1 = w.heap.size; omega), cell_far c1 (by show ¬ w.heap.size + 1 + 1 + 1 = w.heap.size + 1; omega)⟩)
          ((go_at_call 117; refine (HF.out _ _ _).mono ?_; rintro e w4 ⟨rfl, rfl⟩))
        go_wp2_with fail
        go_roundg (3 - (2 + 1))
        case measure => omega
        case rel =>
          refine ⟨3, by omega, rfl, .inr (.inr (.inr ⟨rfl, rfl⟩)), Lib.hid (X0.out.far (a := ⟨w.heap.size + 3, 2, none⟩) (by simp) _), Lib.hid (X1.out.far (a := ⟨w.heap.size + 3, 2, none⟩) (by simp) _), Lib.hid (X2.out.far (a := ⟨w.heap.size + 3, 2, none⟩) (by simp) _), Lib.hid ?_, Lib.hid ?_⟩
          · rw [← HS.out, ← cellsI_set]
            exact X3.out.set 2 _
          · exact (HBL.out.setCell (p := ⟨w.heap.size + 3, 2, none⟩) (by simp) _).drew
    · obtain rfl : k = 3 := by omega
      rcases hs9 with ⟨h, _⟩ | ⟨h, _⟩ | ⟨h, _⟩ | ⟨_, rfl⟩
      · omega
      · omega
      · omega
      go_wp2_with (first
        | (with_reducible refine ev_load rfl 23 (.tmp 7) rfl (w.heap.size + 3) rfl 23 (cellsI (fillC f a b 3)) _ X3.out hu rfl (info_res _ rfl) ?_)
        | (with_reducible refine ev_store rfl 23 (.tmp 6) (.tmp 23) rfl (w.heap.size + 2) (cellsI (fillC f a b 3)) rfl rfl 23 _ X2.out (info_res _ rfl) (by simp [cellsI_size, fillC_length]) (cellsI_one _) ?_; intro w5 hb5 hc5 hz5))
      refine bodyPost_ret (res_c rfl _ (w.heap.size + 2) 23 (cellsI (fillC f a b 3)) _ rfl hb5 hu rfl (info_res _ rfl)) rfl ⟨rfl, ?_⟩
      exact Chg.belowOf HBL.out hc5 (fun k hk => by omega) HBL.out.size
/-- Which vectors may be. -/
def resB (l : List Int) : Bool := inR (fld l 0) 0 1048576 && (inR (fld l 1) 0 1048576 && inR (fld l 2) 0 1048576)
theorem resB_span (l : List Int) (h : l.length = 3) : decide (l = List.zipWith (fun n _ => spanU n) l l) = resB l := by
  obtain ⟨a, b, c, rfl⟩ := three_of h
  have e : List.zipWith (fun n _ => spanU n) [a, b, c] [a, b, c] = [spanU a, spanU b, spanU c] := rfl
  rw [e, Bool.eq_iff_iff, decide_eq_true_iff]
  unfold resB
  simp only [Bool.and_eq_true, inR_iff, List.cons.injEq, and_true]
  show a = _ ∧ b = _ ∧ c = _ ↔ (0 ≤ a ∧ a ≤ _) ∧ (0 ≤ b ∧ b ≤ _) ∧ (0 ≤ c ∧ c ≤ _)
  rw [← spanU_same, ← spanU_same, ← spanU_same]
  constructor
  · rintro ⟨h1, h2, h3⟩; exact ⟨h1.symm, h2.symm, h3.symm⟩
  · rintro ⟨h1, h2, h3⟩; exact ⟨h1.symm, h2.symm, h3.symm⟩
set_option maxRecDepth 100000 in
set_option maxHeartbeats 1600000 in
theorem res_right (l : List Int) (hl : l.length = 3) (w : World) : Calls Tryz.prog 99 #[.agg (cellsI l)] w fun e w' => e = .returned (.bool (resB l)) ∧ Below w.heap.size w w' := by
  rw [← resB_span l hl]
  have hz : (List.zipWith (fun n _ => spanU n) l l).length = 3 := by simp [hl]
  have he := res_each_right l l hl hl
  obtain ⟨Z, hZ⟩ : ∃ Z, List.zipWith (fun n _ => spanU n) l l = Z := ⟨_, rfl⟩
  rw [hZ] at he hz ⊢
  have heq := eql_res l Z hl hz
  clear hZ hz
  obtain ⟨D, hD⟩ : ∃ D, cellsI Z = D := ⟨_, rfl⟩
  obtain ⟨d, hd⟩ : ∃ d, decide (l = Z) = d := ⟨_, rfl⟩
  rw [hD] at he heq
  rw [hd] at heq ⊢
  clear hD hd
  obtain ⟨x, y, z, rfl⟩ := three_of hl
  have hc : cellsI [x, y, z] = #[.int .i64 x, .int .i64 y, .int .i64 z] := rfl
  rw [hc] at he heq ⊢
  clear hc hl
  have HE := Lib.hid he
  clear he
  have c0 : (w.alloc (.cells #[.int .i64 x, .int .i64 y, .int .i64 z] 23)).cell? ⟨w.heap.size, 0, none⟩ = some (.int .i64 x) := (Blk.new w _ _).cell rfl
  have c1 : (w.alloc (.cells #[.int .i64 x, .int .i64 y, .int .i64 z] 23)).cell? ⟨w.heap.size, 1, none⟩ = some (.int .i64 y) := (Blk.new w _ _).cell rfl
  have c2 : (w.alloc (.cells #[.int .i64 x, .int .i64 y, .int .i64 z] 23)).cell? ⟨w.heap.size, 2, none⟩ = some (.int .i64 z) := (Blk.new w _ _).cell rfl
  have HZ : Hid ((w.alloc (.cells #[.int .i64 x, .int .i64 y, .int .i64 z] 23)).heap.size = w.heap.size + 1) := Lib.hid (by simp)
  have HB : Hid (Below w.heap.size w (w.alloc (.cells #[.int .i64 x, .int .i64 y, .int .i64 z] 23))) := Lib.hid ((Below.refl w.heap.size w).alloc (Nat.le_refl _) _)
  go_enter Tryz.func99, Tryz.ntmps99
  go_upto_region 1 with fail
  generalize w.alloc (.cells #[.int .i64 x, .int .i64 y, .int .i64 z] 23) = W at *
  go_region_held3 (fun w' => w'.cell? ⟨w.heap.size, 0, none⟩ = some (.int .i64 x) ∧ w'.cell? ⟨w.heap.size, 1, none⟩ = some (.int .i64 y) ∧ w'.cell? ⟨w.heap.size, 2, none⟩ = some (.int .i64 z)) (first | (go_keep; done) | exact ⟨keepB hb4 c0 (by have := HZ.out; show w.heap.size < W.heap.size; omega), keepB hb4 c1 (by have := HZ.out; show w.heap.size < W.heap.size; omega), keepB hb4 c2 (by have := HZ.out; show w.heap.size < W.heap.size; omega)⟩) ((go_at_call 116; refine (HE.out _).mono ?_; rintro e w4 ⟨rfl, hb4⟩))
  have HB4 := Lib.hid (HB.out.drew.trans (hb4.mono (by have := HZ.out; show w.heap.size ≤ W.heap.size; omega)))
  go_wp2_with fail
  go_ret
  exact ⟨rfl, HB4.out⟩
end Go.Proofs.YtanihdpgblkeaaaGreatDoor

/-! EventRight -/
namespace Go.Proofs.YtanihdpgblkeaaaGreatDoor
open Go.RowKit
set_option linter.unusedVariables false
set_option linter.unusedSimpArgs false

/-- May what an event's kind names be? -/
def rightL (l : List Int) : Bool :=
  let nb := inR (fld l 1) 0 15 && inR (fld l 3) 1 2147483647
  let jb := inR (fld l 2) 1 2147483647
  let rb := resB [fld l 5, fld l 6, fld l 7]
  if fld l 0 = 1 ∨ fld l 0 = 2 then nb && rb else if fld l 0 = 3 then nb else if fld l 0 = 4 then jb && inR (fld l 4) 0 99 && rb else if fld l 0 = 5 then jb else nb && jb
/-- The error of an event; 0: none. -/
def checkL (l : List Int) : Int := if offs (fld l 0) = [] then 5 else if pureL l ≠ l ∨ rightL l = false then 1 else 0

set_option maxRecDepth 100000 in
set_option maxHeartbeats 1600000 in
theorem event_right (l : List Int) (hl : l.length = 8) (w : World) :
    Calls Tryz.prog 110 #[.agg (cellsI l)] w fun e w' => e = .returned (.bool (rightL l)) ∧ Below w.heap.size w w' := by
  obtain ⟨k, n, j, i, p, x, y, z, rfl⟩ := eight_of hl
  clear hl
  obtain ⟨W, hW⟩ : ∃ W, w.alloc (.cells #[.int .i64 k, .int .i64 n, .int .i64 j, .int .i64 i, .int .i64 p, .int .i64 x, .int .i64 y, .int .i64 z] 43) = W := ⟨_, rfl⟩
  have hB : Blk W w.heap.size #[.int .i64 k, .int .i64 n, .int .i64 j, .int .i64 i, .int .i64 p, .int .i64 x, .int .i64 y, .int .i64 z] 43 := by rw [← hW]; exact Blk.new w _ _
  have c0 := hB.cell (i := 0) rfl
  have c1 := hB.cell (i := 1) rfl
  have c2 := hB.cell (i := 2) rfl
  have c3 := hB.cell (i := 3) rfl
  have c4 := hB.cell (i := 4) rfl
  have c5 := hB.cell (i := 5) rfl
  have c6 := hB.cell (i := 6) rfl
  have c7 := hB.cell (i := 7) rfl
  have HBL : Hid (Below w.heap.size w W) := Lib.hid (by rw [← hW]; exact (Below.refl w.heap.size w).alloc (Nat.le_refl _) _)
  have HW := Lib.hid hW
  clear hB hW
  have hR : rightL [k, n, j, i, p, x, y, z] = (if k = 1 ∨ k = 2 then (inR n 0 15 && inR i 1 2147483647) && resB [x, y, z] else if k = 3 then inR n 0 15 && inR i 1 2147483647 else if k = 4 then inR j 1 2147483647 && inR p 0 99 && resB [x, y, z] else if k = 5 then inR j 1 2147483647 else (inR n 0 15 && inR i 1 2147483647) && inR j 1 2147483647) := rfl
  have h1 := num_right n 0 15
  have h2 := num_right i 1 2147483647
  have h3 := num_right j 1 2147483647
  have h4 := num_right p 0 99
  have h5 := res_right [x, y, z] rfl
  have hc : cellsI [x, y, z] = #[.int .i64 x, .int .i64 y, .int .i64 z] := rfl
  rw [hc] at h5
  clear hc
  generalize inR n 0 15 = a at h1 hR
  generalize inR i 1 2147483647 = b at h2 hR
  generalize inR j 1 2147483647 = c at h3 hR
  generalize inR p 0 99 = d at h4 hR
  generalize resB [x, y, z] = r at h5 hR
  have hcell : cellsI [k, n, j, i, p, x, y, z] = #[.int .i64 k, .int .i64 n, .int .i64 j, .int .i64 i, .int .i64 p, .int .i64 x, .int .i64 y, .int .i64 z] := rfl
  rw [hcell]
  clear hcell
  obtain ⟨R, hRR⟩ : ∃ R, rightL [k, n, j, i, p, x, y, z] = R := ⟨_, rfl⟩
  rw [hRR] at hR ⊢
  clear hRR
  have H1 := Lib.hid h1
  have H2 := Lib.hid h2
  have H3 := Lib.hid h3
  have H4 := Lib.hid h4
  have H5 := Lib.hid h5
  have HR := Lib.hid hR
  clear h1 h2 h3 h4 h5 hR
  go_enter Tryz.func110, Tryz.ntmps110
  go_upto_region 1 with fail
  rw [HW.out]
  clear HW
  go_cut [3] (fun s3 wx => s3 = .bool (a && b) ∧ W = wx)
  case first =>
    cases a <;> cases b
    all_goals
      go_wp2_with (first
        | (go_at_call 97; ((with_reducible refine (H1.out _).mono ?_); rintro e w' ⟨rfl, rfl⟩))
        | (go_at_call 97; ((with_reducible refine (H2.out _).mono ?_); rintro e w' ⟨rfl, rfl⟩)))
      go_meet
      exact ⟨rfl, rfl⟩
  case rest =>
    obtain ⟨rfl, rfl⟩ := hcut
    clear H1 H2
    obtain ⟨q, hq⟩ : ∃ q, (a && b) = q := ⟨_, rfl⟩
    rw [hq] at HR ⊢
    clear hq
    rcases kind_cases k with rfl | rfl | rfl | rfl | rfl | rfl | rfl | h
    · cases q
      all_goals
        go_wp2_with (first
          | (go_at_call 97; ((with_reducible refine (H3.out _).mono ?_); rintro e w' ⟨rfl, rfl⟩))
          | (go_at_call 97; ((with_reducible refine (H4.out _).mono ?_); rintro e w' ⟨rfl, rfl⟩))
          | (go_at_call 99; ((with_reducible refine (H5.out _).mono ?_); rintro e w' ⟨rfl, hb5⟩)))
        go_ret
        first
          | exact ⟨by rw [HR.out]; simp, HBL.out⟩
          | exact ⟨by rw [HR.out]; simp, HBL.out.trans (hb5.mono HBL.out.size)⟩
    · cases q
      all_goals
        go_wp2_with (first
          | (go_at_call 97; ((with_reducible refine (H3.out _).mono ?_); rintro e w' ⟨rfl, rfl⟩))
          | (go_at_call 97; ((with_reducible refine (H4.out _).mono ?_); rintro e w' ⟨rfl, rfl⟩))
          | (go_at_call 99; ((with_reducible refine (H5.out _).mono ?_); rintro e w' ⟨rfl, hb5⟩)))
        go_ret
        first
          | exact ⟨by rw [HR.out]; simp, HBL.out⟩
          | exact ⟨by rw [HR.out]; simp, HBL.out.trans (hb5.mono HBL.out.size)⟩
    · cases q <;> cases c
      all_goals
        go_wp2_with (first
          | (go_at_call 97; ((with_reducible refine (H3.out _).mono ?_); rintro e w' ⟨rfl, rfl⟩))
          | (go_at_call 97; ((with_reducible refine (H4.out _).mono ?_); rintro e w' ⟨rfl, rfl⟩))
          | (go_at_call 99; ((with_reducible refine (H5.out _).mono ?_); rintro e w' ⟨rfl, hb5⟩)))
        go_ret
        first
          | exact ⟨by rw [HR.out]; simp, HBL.out⟩
          | exact ⟨by rw [HR.out]; simp, HBL.out.trans (hb5.mono HBL.out.size)⟩
    · cases c <;> cases d
      all_goals
        go_wp2_with (first
          | (go_at_call 97; ((with_reducible refine (H3.out _).mono ?_); rintro e w' ⟨rfl, rfl⟩))
          | (go_at_call 97; ((with_reducible refine (H4.out _).mono ?_); rintro e w' ⟨rfl, rfl⟩))
          | (go_at_call 99; ((with_reducible refine (H5.out _).mono ?_); rintro e w' ⟨rfl, hb5⟩)))
        go_ret
        first
          | exact ⟨by rw [HR.out]; simp, HBL.out⟩
          | exact ⟨by rw [HR.out]; simp, HBL.out.trans (hb5.mono HBL.out.size)⟩
    · cases q <;> cases c
      all_goals
        go_wp2_with (first
          | (go_at_call 97; ((with_reducible refine (H3.out _).mono ?_); rintro e w' ⟨rfl, rfl⟩))
          | (go_at_call 97; ((with_reducible refine (H4.out _).mono ?_); rintro e w' ⟨rfl, rfl⟩))
          | (go_at_call 99; ((with_reducible refine (H5.out _).mono ?_); rintro e w' ⟨rfl, hb5⟩)))
        go_ret
        first
          | exact ⟨by rw [HR.out]; simp, HBL.out⟩
          | exact ⟨by rw [HR.out]; simp, HBL.out.trans (hb5.mono HBL.out.size)⟩
    · cases q <;> cases c
      all_goals
        go_wp2_with (first
          | (go_at_call 97; ((with_reducible refine (H3.out _).mono ?_); rintro e w' ⟨rfl, rfl⟩))
          | (go_at_call 97; ((with_reducible refine (H4.out _).mono ?_); rintro e w' ⟨rfl, rfl⟩))
          | (go_at_call 99; ((with_reducible refine (H5.out _).mono ?_); rintro e w' ⟨rfl, hb5⟩)))
        go_ret
        first
          | exact ⟨by rw [HR.out]; simp, HBL.out⟩
          | exact ⟨by rw [HR.out]; simp, HBL.out.trans (hb5.mono HBL.out.size)⟩
    · cases q <;> cases c
      all_goals
        go_wp2_with (first
          | (go_at_call 97; ((with_reducible refine (H3.out _).mono ?_); rintro e w' ⟨rfl, rfl⟩))
          | (go_at_call 97; ((with_reducible refine (H4.out _).mono ?_); rintro e w' ⟨rfl, rfl⟩))
          | (go_at_call 99; ((with_reducible refine (H5.out _).mono ?_); rintro e w' ⟨rfl, hb5⟩)))
        go_ret
        first
          | exact ⟨by rw [HR.out]; simp, HBL.out⟩
          | exact ⟨by rw [HR.out]; simp, HBL.out.trans (hb5.mono HBL.out.size)⟩
    · obtain ⟨n1, n2, n3, n4, n5, n6, n7⟩ := h
      have hr : R = (q && c) := by rw [HR.out, if_neg (by omega), if_neg n3, if_neg n4, if_neg n5]
      have HR := Lib.hid hr
      clear hr
      have e1 : (k == 1) = false := by rw [beq_eq_false_iff_ne]; exact n1
      have e2 : (k == 2) = false := by rw [beq_eq_false_iff_ne]; exact n2
      have e3 : (k == 3) = false := by rw [beq_eq_false_iff_ne]; exact n3
      have e4 : (k == 4) = false := by rw [beq_eq_false_iff_ne]; exact n4
      have e5 : (k == 5) = false := by rw [beq_eq_false_iff_ne]; exact n5
      clear n1 n2 n3 n4 n5 n6 n7
      cases q <;> cases c
      all_goals
        go_wp2_with (first
          | (go_at_call 97; ((with_reducible refine (H3.out _).mono ?_); rintro e w' ⟨rfl, rfl⟩))
          | (go_at_call 97; ((with_reducible refine (H4.out _).mono ?_); rintro e w' ⟨rfl, rfl⟩))
          | (go_at_call 99; ((with_reducible refine (H5.out _).mono ?_); rintro e w' ⟨rfl, hb5⟩)))
        go_ret
        first
          | exact ⟨by rw [HR.out]; simp, HBL.out⟩
          | exact ⟨by rw [HR.out]; simp, HBL.out.trans (hb5.mono HBL.out.size)⟩
end Go.Proofs.YtanihdpgblkeaaaGreatDoor

/-! EventCheck -/
namespace Go.Proofs.YtanihdpgblkeaaaGreatDoor
open Go.RowKit
set_option linter.unusedVariables false
set_option linter.unusedSimpArgs false

set_option maxRecDepth 100000 in
set_option maxHeartbeats 1600000 in
theorem event_check (l : List Int) (hl : l.length = 8) (w : World) :
    Calls Tryz.prog 86 #[.agg (cellsI l)] w fun e w' => e = .returned (.int .i64 (checkL l)) ∧ Below w.heap.size w w' := by
  have HP := event_pure l hl
  have HR := event_right l hl
  have hpl := pureL_length l
  have hneq := neq_event (pureL l) l hpl hl
  have hchk : checkL l = if offs (fld l 0) = [] then 5 else if pureL l ≠ l ∨ rightL l = false then 1 else 0 := rfl
  obtain ⟨CK, hCK⟩ : ∃ c, checkL l = c := ⟨_, rfl⟩
  rw [hCK] at hchk ⊢
  clear hCK
  generalize rightL l = r at HR hchk
  obtain ⟨PC, hPC⟩ : ∃ C, cellsI (pureL l) = C := ⟨_, rfl⟩
  rw [hPC] at HP hneq
  clear hPC
  have hpq : ∃ q : Bool, decide (pureL l = l) = q ∧ (pureL l ≠ l ↔ q = false) := ⟨_, rfl, by simp⟩
  obtain ⟨q, hq, hqi⟩ := hpq
  rw [hq] at hneq
  simp only [hqi] at hchk
  clear hq hqi hpl
  obtain ⟨k, n, j, i, p, x, y, z, rfl⟩ := eight_of hl
  clear hl
  have hk : fld [k, n, j, i, p, x, y, z] 0 = k := rfl
  rw [hk] at hchk
  clear hk
  have hcell : cellsI [k, n, j, i, p, x, y, z] = #[.int .i64 k, .int .i64 n, .int .i64 j, .int .i64 i, .int .i64 p, .int .i64 x, .int .i64 y, .int .i64 z] := rfl
  rw [hcell] at HP HR hneq ⊢
  clear hcell
  obtain ⟨W, hW⟩ : ∃ W, w.alloc (.cells #[.int .i64 k, .int .i64 n, .int .i64 j, .int .i64 i, .int .i64 p, .int .i64 x, .int .i64 y, .int .i64 z] 43) = W := ⟨_, rfl⟩
  have hB : Blk W w.heap.size #[.int .i64 k, .int .i64 n, .int .i64 j, .int .i64 i, .int .i64 p, .int .i64 x, .int .i64 y, .int .i64 z] 43 := by rw [← hW]; exact Blk.new w _ _
  have HB := Lib.hid hB
  have HBL : Hid (Below w.heap.size w W) := Lib.hid (by rw [← hW]; exact (Below.refl w.heap.size w).alloc (Nat.le_refl _) _)
  have HW := Lib.hid hW
  have HCH := Lib.hid hchk
  have HPH := Lib.hid HP
  have HRH := Lib.hid HR
  clear hB hW hchk HP HR
  have HN := Lib.hid hneq
  clear hneq
  go_enter Tryz.func86, Tryz.ntmps86
  go_upto_region 1 with fail
  rw [HW.out]
  clear HW
  go_wp2_with fail
  refine (event_named w.heap.size k W (HB.out.cell rfl)).mono ?_
  rintro e w1 ⟨v, rfl, hr, hb1⟩
  obtain ⟨p1, c1, rfl⟩ := hr.len
  clear hr
  rw [ptrs_length]
  have HB1 := Lib.hid (HB.out.below hb1 HB.out.lt)
  have HBL1 := Lib.hid (HBL.out.trans (hb1.mono HBL.out.size))
  clear hb1 HB HBL
  by_cases h0 : offs k = []
  · have hl0 : (offs k).length = 0 := by rw [h0]; rfl
    rw [hl0]
    have HC5 : Hid (CK = 5) := Lib.hid (by rw [HCH.out, if_pos h0])
    clear h0 hl0
    go_wp2_with fail
    go_ret
    exact ⟨by rw [HC5.out]; rfl, HBL1.out⟩
  · have hl0 : (((offs k).length : Int) == 0) = false := by
      rw [beq_eq_false_iff_ne]
      intro e
      exact h0 (List.eq_nil_of_length_eq_zero (by omega))
    generalize (offs k).length = len at hl0 ⊢
    have HC1 : Hid (CK = if q = false ∨ r = false then 1 else 0) := Lib.hid (by rw [HCH.out, if_neg h0])
    clear h0 HCH
    have d0 := HB1.out.cell (i := 0) rfl
    have d1 := HB1.out.cell (i := 1) rfl
    have d2 := HB1.out.cell (i := 2) rfl
    have d3 := HB1.out.cell (i := 3) rfl
    have d4 := HB1.out.cell (i := 4) rfl
    have d5 := HB1.out.cell (i := 5) rfl
    have d6 := HB1.out.cell (i := 6) rfl
    have d7 := HB1.out.cell (i := 7) rfl
    have hlt := HB1.out.lt
    go_upto_region 3 with fail
    have hneq := HN.out
    cases q
    · simp only [Bool.not_false] at hneq
      have HC0 : Hid (CK = 1) := Lib.hid (by rw [HC1.out, if_pos (.inl rfl)])
      go_cut [7] (fun s7 wx => s7 = .bool true ∧ Below w1.heap.size w1 wx)
      case first =>
        have HD := Lib.hid (fun (wx : World) (hb : Below w1.heap.size w1 wx) => show wx.cell? ⟨w.heap.size, 0, none⟩ = some (.int .i64 k) ∧ wx.cell? ⟨w.heap.size, 1, none⟩ = some (.int .i64 n) ∧ wx.cell? ⟨w.heap.size, 2, none⟩ = some (.int .i64 j) ∧ wx.cell? ⟨w.heap.size, 3, none⟩ = some (.int .i64 i) ∧ wx.cell? ⟨w.heap.size, 4, none⟩ = some (.int .i64 p) ∧ wx.cell? ⟨w.heap.size, 5, none⟩ = some (.int .i64 x) ∧ wx.cell? ⟨w.heap.size, 6, none⟩ = some (.int .i64 y) ∧ wx.cell? ⟨w.heap.size, 7, none⟩ = some (.int .i64 z) from ⟨keepB hb d0 hlt, keepB hb d1 hlt, keepB hb d2 hlt, keepB hb d3 hlt, keepB hb d4 hlt, keepB hb d5 hlt, keepB hb d6 hlt, keepB hb d7 hlt⟩)
        go_region_with ((go_at_call 109; refine (HPH.out _).mono ?_; rintro e w4 ⟨rfl, hb4⟩; have hb4 : Below w1.heap.size w1 w4 := ⟨hb4.os, hb4.tape, hb4.output, hb4.size, hb4.block⟩; obtain ⟨e0, e1, e2, e3, e4, e5, e6, e7⟩ := HD.out w4 hb4))
        all_goals
          go_wp2_with fail
          go_meet
          exact ⟨rfl, hb4⟩
      case rest =>
        obtain ⟨rfl, hb4⟩ := hcut
        have HBL4 := Lib.hid (HBL1.out.trans (hb4.mono HBL1.out.size))
        clear hb4
        go_wp2_with fail
        go_ret
        exact ⟨by rw [HC0.out]; rfl, HBL4.out⟩
    · simp only [Bool.not_true] at hneq
      have HC0 : Hid (CK = if r = false then 1 else 0) := Lib.hid (by rw [HC1.out]; simp)
      go_region_held3 (fun w' => w'.cell? ⟨w.heap.size, 0, none⟩ = some (.int .i64 k) ∧ w'.cell? ⟨w.heap.size, 1, none⟩ = some (.int .i64 n) ∧ w'.cell? ⟨w.heap.size, 2, none⟩ = some (.int .i64 j) ∧ w'.cell? ⟨w.heap.size, 3, none⟩ = some (.int .i64 i) ∧ w'.cell? ⟨w.heap.size, 4, none⟩ = some (.int .i64 p) ∧ w'.cell? ⟨w.heap.size, 5, none⟩ = some (.int .i64 x) ∧ w'.cell? ⟨w.heap.size, 6, none⟩ = some (.int .i64 y) ∧ w'.cell? ⟨w.heap.size, 7, none⟩ = some (.int .i64 z))
        (first | (go_keep; done) | (have hbx := hb4.trans (hb5.mono hb4.size); exact ⟨keepB hbx d0 hlt, keepB hbx d1 hlt, keepB hbx d2 hlt, keepB hbx d3 hlt, keepB hbx d4 hlt, keepB hbx d5 hlt, keepB hbx d6 hlt, keepB hbx d7 hlt⟩) | exact ⟨keepB hb4 d0 hlt, keepB hb4 d1 hlt, keepB hb4 d2 hlt, keepB hb4 d3 hlt, keepB hb4 d4 hlt, keepB hb4 d5 hlt, keepB hb4 d6 hlt, keepB hb4 d7 hlt⟩)
        (first
          | (go_at_call 109; refine (HPH.out _).mono ?_; rintro e w4 ⟨rfl, hb4⟩)
          | (go_at_call 110; refine (HRH.out _).mono ?_; rintro e w5 ⟨rfl, hb5⟩))
      have hb4 : Below w1.heap.size w1 w4 := ⟨hb4.os, hb4.tape, hb4.output, hb4.size, hb4.block⟩
      have HBL5 := Lib.hid (HBL1.out.trans ((hb4.trans (hb5.mono hb4.size)).mono HBL1.out.size))
      cases r
      all_goals
        go_wp2_with fail
        go_ret
        exact ⟨by rw [HC0.out]; rfl, HBL5.out⟩
end Go.Proofs.YtanihdpgblkeaaaGreatDoor
