/-
  EventMath, EventNamed, EventPure, StructEq, ResRight, EventRight, EventCheck in one text.
-/
import Derived.Test.YtanihdpgblkeaaaGreatDoorMem
import Derived.Test.YtanihdpgblkeaaaGreatDoorFlat
import Derived.Laws.StructEq
import Derived.Laws.CopyOwn
import Derived.Laws.MakeOwn
/-! EventMath -/
namespace Go.Proofs.YtanihdpgblkeaaaGreatDoor
open Go.RowKit
set_option linter.unusedVariables false
set_option linter.unusedSimpArgs false

/-- The cells of so many numbers. -/
def cellsI (l : List Int) : Array Value := (l.map (Value.int .i64)).toArray
/-- Number i. -/
def fld (l : List Int) (i : Nat) : Int := l.getD i 0
theorem cellsI_size (l : List Int) : (cellsI l).size = l.length := by simp [cellsI]
theorem cellsI_at {l : List Int} {i : Nat} (h : i < l.length) : (cellsI l)[i]? = some (.int .i64 (fld l i)) := by
  simp [cellsI, fld, h]
theorem cellsI_set (l : List Int) (i : Nat) (n : Int) : (cellsI l).setIfInBounds i (.int .i64 n) = cellsI (l.set i n) := by
  simp only [cellsI]
  apply Array.ext'
  rw [Array.toList_setIfInBounds]
  simp [List.map_set]
theorem cellsI_one (l : List Int) : (cellsI l).all (·.oneCell') = true := by
  simp [cellsI, Value.oneCell']
theorem fld_set_other {l : List Int} {i j : Nat} {n : Int} (h : i ≠ j) : fld (l.set i n) j = fld l j := by
  simp [fld, List.getD_eq_getElem?_getD, List.getElem?_set_ne h]
/-- All numbers are of their kind. -/
def wfI (l : List Int) : Prop := ∀ n ∈ l, (Lit.int .i64 n).wf = true
theorem wfI_fld {l : List Int} (h : wfI l) (i : Nat) : -9223372036854775808 ≤ fld l i ∧ fld l i ≤ 9223372036854775807 := by
  by_cases hi : i < l.length
  · have : fld l i = l[i] := by simp [fld, hi]
    rw [this]
    exact bounds_i64 (h _ (List.getElem_mem hi))
  · have : fld l i = 0 := by simp [fld, Nat.le_of_not_lt hi]
    rw [this]; decide

/-- A slice that holds values, in a block from B on. -/
def RowV (B : Nat) (w : World) (v : Value) (l : List Value) : Prop :=
  (∃ p cap, v = .slice p 0 cap ∧ l = []) ∨ ∃ b off cap, v = .slice (some ⟨b, off, none⟩) l.length cap ∧ B ≤ b ∧ b < w.heap.size ∧ ∀ j x, l[j]? = some x → w.cell? ⟨b, off + j, none⟩ = some x
theorem RowV.below {B C : Nat} {w w' : World} {v : Value} {l : List Value} (h : RowV B w v l) (hb : Below C w w') (hC : w.heap.size ≤ C) : RowV B w' v l := by
  rcases h with h | ⟨b, off, cap, h1, h0, h2, h3⟩
  · exact .inl h
  · exact .inr ⟨b, off, cap, h1, h0, Nat.lt_of_lt_of_le h2 hb.size, fun j x hj => keepB (Below.mono hb hC) (h3 j x hj) h2⟩
theorem RowV.chg {B : Nat} {S : Nat → Prop} {w w' : World} {v : Value} {l : List Value} (h : RowV B w v l) (hc : Chg S w w') (hS : ∀ b, B ≤ b → b < w.heap.size → ¬ S b) : RowV B w' v l := by
  rcases h with h | ⟨b, off, cap, h1, h0, h2, h3⟩
  · exact .inl h
  · exact .inr ⟨b, off, cap, h1, h0, Nat.lt_of_lt_of_le h2 hc.size, fun j x hj => (hc.cell (p := ⟨b, off + j, none⟩) h2 (hS b h0 h2)).trans (h3 j x hj)⟩
theorem RowV.mono {B C : Nat} {w : World} {v : Value} {l : List Value} (h : RowV B w v l) (hC : C ≤ B) : RowV C w v l := by
  rcases h with h | ⟨b, off, cap, h1, h0, h2, h3⟩
  · exact .inl h
  · exact .inr ⟨b, off, cap, h1, Nat.le_trans hC h0, h2, h3⟩
theorem RowV.at {B : Nat} {w : World} {v : Value} {l : List Value} (h : RowV B w v l) {j : Nat} (hj : j < l.length) : ∃ b off cap, v = .slice (some ⟨b, off, none⟩) l.length cap ∧ B ≤ b ∧ b < w.heap.size ∧ w.cell? ⟨b, off + j, none⟩ = some l[j] := by
  rcases h with ⟨_, _, rfl, rfl⟩ | ⟨b, off, cap, h1, h0, h2, h3⟩
  · exact absurd hj (by simp)
  · exact ⟨b, off, cap, h1, h0, h2, h3 j _ (List.getElem?_eq_getElem hj)⟩
theorem RowV.len {B : Nat} {w : World} {v : Value} {l : List Value} (h : RowV B w v l) : ∃ p cap, v = .slice p l.length cap := by
  rcases h with ⟨p, cap, rfl, rfl⟩ | ⟨b, off, cap, h1, h0, h2, h3⟩
  · exact ⟨p, cap, rfl⟩
  · exact ⟨_, cap, h1⟩
/-- Places in a block. -/
def ptrs (g : Nat) (os : List Nat) : List Value := os.map fun o => .pointer (some ⟨g, o, none⟩)
theorem ptrs_length (g : Nat) (os : List Nat) : (ptrs g os).length = os.length := by simp [ptrs]
theorem ptrs_at (g : Nat) (os : List Nat) (j : Nat) (h : j < os.length) : (ptrs g os)[j]'(by rw [ptrs_length]; exact h) = .pointer (some ⟨g, os[j], none⟩) := by simp [ptrs]

/-- Numbers laid at places: from a list, one behind the other. -/
def lay (l : List Int) (os : List Nat) (d : List Int) : List Int := os.foldl (fun d o => d.set o (fld l o)) d
theorem lay_take (l : List Int) (os : List Nat) (j : Nat) (h : j < os.length) (d : List Int) : lay l (os.take (j + 1)) d = (lay l (os.take j) d).set os[j] (fld l os[j]) := by
  unfold lay
  rw [List.take_succ_eq_append_getElem h, List.foldl_append]
  rfl
theorem lay_length (l : List Int) (os : List Nat) : ∀ d, (lay l os d).length = d.length := by
  induction os with
  | nil => intro d; rfl
  | cons o r ih => intro d; show (lay l r (d.set o _)).length = _; rw [ih]; simp
theorem fld_lay_out (l : List Int) (os : List Nat) : ∀ d i, i ∉ os → fld (lay l os d) i = fld d i := by
  induction os with
  | nil => intro d i _; rfl
  | cons o r ih =>
    intro d i hi
    show fld (lay l r (d.set o _)) i = _
    rw [ih _ _ (fun h => hi (by simp [h])), fld_set_other (fun e => hi (by simp [e]))]
end Go.Proofs.YtanihdpgblkeaaaGreatDoor

/-! EventNamed -/
namespace Go.Proofs.YtanihdpgblkeaaaGreatDoor
open Go.RowKit
set_option linter.unusedVariables false
set_option linter.unusedSimpArgs false

/-- A slice of so many places, made of a list that was built. -/
theorem row_of_built {B : Nat} {w : World} {b : Nat} {cs : List Value} {t : TypeId} (h : Blk w b cs.toArray t) (hB : B ≤ b) : RowV B w (.slice (some ⟨b, 0, none⟩) cs.length cs.length) cs :=
  .inr ⟨b, 0, cs.length, rfl, hB, h.lt, fun j x hj => by rw [Nat.zero_add]; exact h.cell (by simpa using hj)⟩
theorem blk_second (w : World) (c1 c2 : Array Value) (t1 t2 : TypeId) : Blk ((w.alloc (.cells c1 t1)).alloc (.cells c2 t2)) (w.heap.size + 1) c2 t2 := by
  have h := Blk.new (w.alloc (.cells c1 t1)) c2 t2
  have e : (w.alloc (.cells c1 t1)).heap.size = w.heap.size + 1 := by simp
  rw [e] at h
  exact h
end Go.Proofs.YtanihdpgblkeaaaGreatDoor

/-! EventPure -/
namespace Go.Proofs.YtanihdpgblkeaaaGreatDoor
open Go.RowKit
set_option linter.unusedVariables false
set_option linter.unusedSimpArgs false

end Go.Proofs.YtanihdpgblkeaaaGreatDoor

/-! StructEq -/
namespace Go.Proofs.YtanihdpgblkeaaaGreatDoor
open Go.RowKit
set_option linter.unusedVariables false
set_option linter.unusedSimpArgs false

theorem run_eqIn_res (d : Nat) (a0 a1 a2 b0 b1 b2 : Int) (w : World) :
    (Op.equalIn (d + 2) 23 (.agg #[.int .i64 a0, .int .i64 a1, .int .i64 a2]) (.agg #[.int .i64 b0, .int .i64 b1, .int .i64 b2])).run Tryz.prog w = .ok (a0 == b0 && (a1 == b1 && a2 == b2)) w := by
  have hz : (Tryz.prog.info? 3).map (·.size) = some 1 := by kernel_rfl
  have p0 : ∀ (x y z : Value) (w : World), (part 3 #[x, y, z] 0).run Tryz.prog w = .ok x w := fun _ _ _ _ => by kernel_rfl
  have p1 : ∀ (x y z : Value) (w : World), (part 3 #[x, y, z] 1).run Tryz.prog w = .ok y w := fun _ _ _ _ => by kernel_rfl
  have p2 : ∀ (x y z : Value) (w : World), (part 3 #[x, y, z] 2).run Tryz.prog w = .ok z w := fun _ _ _ _ => by kernel_rfl
  have hs : ∀ w, (sizeOf 3).run Tryz.prog w = .ok 1 w := fun _ => by kernel_rfl
  have he : ∀ (a b : Int) (w : World), (Op.equalIn (d + 1) 3 (.int .i64 a) (.int .i64 b)).run Tryz.prog w = .ok (a == b) w := fun a b w => run_equalIn_int w d _ _ _ a b Tryz.underlying3
  have hr : List.range' 0 3 = [0, 1, 2] := rfl
  rw [Op.equalIn]
  simp only [Sem.run_bind, run_underlying Tryz.underlying23, Result.andThen_ok, hs]
  by_cases e0 : a0 = b0 <;> by_cases e1 : a1 = b1 <;> by_cases e2 : a2 = b2 <;> simp [Std.Legacy.Range.forIn_eq_forIn_range', hr, p0, p1, p2, he, e0, e1, e2]
/-- A list of so many numbers, written out. -/
theorem three_of {l : List Int} (h : l.length = 3) : ∃ a b c, l = [a, b, c] := by
  match l, h with
  | [a, b, c], _ => exact ⟨a, b, c, rfl⟩
theorem eqIn_res (a b : List Int) (ha : a.length = 3) (hb : b.length = 3) (d : Nat) (w : World) :
    (Op.equalIn (d + 2) 23 (.agg (cellsI a)) (.agg (cellsI b))).run Tryz.prog w = .ok (decide (a = b)) w := by
  obtain ⟨a0, a1, a2, rfl⟩ := three_of ha
  obtain ⟨b0, b1, b2, rfl⟩ := three_of hb
  refine (run_eqIn_res d a0 a1 a2 b0 b1 b2 w).trans ?_
  by_cases e0 : a0 = b0 <;> by_cases e1 : a1 = b1 <;> by_cases e2 : a2 = b2 <;> simp [e0, e1, e2]
/-- Two vectors are equal. -/
theorem eql_res (a b : List Int) (ha : a.length = 3) (hb : b.length = 3) (w : World) :
    (binOp .eql 23 (.agg (cellsI a)) (.agg (cellsI b))).run Tryz.prog w = .ok (.bool (decide (a = b))) w := by
  rw [run_eql_struct, eqIn_res a b ha hb 9998 w]; rfl
end Go.Proofs.YtanihdpgblkeaaaGreatDoor

/-! ResRight -/
namespace Go.Proofs.YtanihdpgblkeaaaGreatDoor
open Go.RowKit
set_option linter.unusedVariables false
set_option linter.unusedSimpArgs false

/-- Is a number from a least one to a greatest one? -/
def inR (n a b : Int) : Bool := decide (a ≤ n) && decide (n ≤ b)
theorem inR_yes {n a b : Int} (h1 : a ≤ n) (h2 : n ≤ b) : inR n a b = true := by simp [inR, h1, h2]
theorem inR_no {n a b : Int} (h : n < a ∨ b < n) : inR n a b = false := by
  unfold inR; rcases h with h | h
  · rw [decide_eq_false (by omega)]; rfl
  · rw [decide_eq_false (p := n ≤ b) (by omega)]; simp
theorem inR_iff {n a b : Int} : inR n a b = true ↔ a ≤ n ∧ n ≤ b := by simp [inR]
theorem num_right (n a b : Int) (w : World) : Calls Tryz.prog 97 #[.int .i64 n, .int .i64 a, .int .i64 b] w fun e w' => e = .returned (.bool (inR n a b)) ∧ w = w' := by
  by_cases h1 : n < a
  · rw [inR_no (.inl h1)]
    go_enter Tryz.func97, Tryz.ntmps97
    go_wp2_with fail
    go_ret
    exact ⟨rfl, rfl⟩
  · have h1' : a ≤ n := by omega
    by_cases h2 : n ≤ b
    · rw [inR_yes h1' h2]
      go_enter Tryz.func97, Tryz.ntmps97
      go_wp2_with fail
      go_ret
      exact ⟨rfl, rfl⟩
    · have h2' : b < n := by omega
      rw [inR_no (.inr h2')]
      go_enter Tryz.func97, Tryz.ntmps97
      go_wp2_with fail
      go_ret
      exact ⟨rfl, rfl⟩
/-- The nearest number of a unit's span. -/
def spanU (n : Int) : Int := if 1048576 < n then 1048576 else if n < 0 then 0 else n
theorem spanU_same (n : Int) : spanU n = n ↔ 0 ≤ n ∧ n ≤ 1048576 := by unfold spanU; split; omega; split <;> omega
theorem num_span (n : Int) (w : World) : Calls Tryz.prog 118 #[.int .i64 n, .int .i64 0, .int .i64 1048576] w fun e w' => e = .returned (.int .i64 (spanU n)) ∧ w = w' := by
  unfold spanU
  by_cases h1 : 1048576 < n
  · rw [if_pos h1]
    go_enter Tryz.func118, Tryz.ntmps118
    go_wp2_with fail
    go_ret
    exact ⟨rfl, rfl⟩
  · rw [if_neg h1]
    have h1' : n ≤ 1048576 := by omega
    by_cases h2 : n < 0
    · rw [if_pos h2]
      go_enter Tryz.func118, Tryz.ntmps118
      go_wp2_with fail
      go_ret
      exact ⟨rfl, rfl⟩
    · rw [if_neg h2]
      have h2' : 0 ≤ n := by omega
      go_enter Tryz.func118, Tryz.ntmps118
      go_wp2_with fail
      go_ret
      exact ⟨rfl, rfl⟩
theorem res_right1 (n m : Int) (w : World) : Calls Tryz.prog 117 #[.int .i64 n, .int .i64 m] w fun e w' => e = .returned (.int .i64 (spanU n)) ∧ w = w' := by
  go_enter Tryz.func117, Tryz.ntmps117
  go_wp2_with (go_at_call 118; refine (num_span _ _).mono ?_; rintro e w' ⟨rfl, rfl⟩)
  go_ret
  exact ⟨rfl, rfl⟩
/-- Three numbers, so many of them filled in. -/
def fillC (f : Int → Int → Int) (a b : List Int) (k : Nat) : List Int := [if 0 < k then f (fld a 0) (fld b 0) else 0, if 1 < k then f (fld a 1) (fld b 1) else 0, if 2 < k then f (fld a 2) (fld b 2) else 0]
theorem fillC_length (f : Int → Int → Int) (a b : List Int) (k : Nat) : (fillC f a b k).length = 3 := rfl
theorem fillC_set (f : Int → Int → Int) (a b : List Int) (k : Nat) (hk : k < 3) : (fillC f a b k).set k (f (fld a k) (fld b k)) = fillC f a b (k + 1) := by
  match k, hk with
  | 0, _ => rfl
  | 1, _ => rfl
  | 2, _ => rfl
theorem fillC_whole (f : Int → Int → Int) (a b : List Int) (ha : a.length = 3) (hb : b.length = 3) : fillC f a b 3 = List.zipWith f a b := by
  obtain ⟨a0, a1, a2, rfl⟩ := three_of ha
  obtain ⟨b0, b1, b2, rfl⟩ := three_of hb
  rfl
theorem info_res (l : List Int) (h : l.length = 3) : (Tryz.prog.info? 23).map (·.size) = some (cellsI l).size := by
  rw [cellsI_size, h]; kernel_rfl
theorem cell_far {w : World} {a b : Addr} {v x : Value} (hc : w.cell? b = some x) (h : ¬ a.block = b.block) : (w.setCell a v).drew.cell? b = some x :=
  (World.cell?_setCell_other w a b v (fun e => h (by rw [e]))).trans hc
theorem blk_at (W : World) (cs : Array Value) (t : TypeId) (n : Nat) (h : W.heap.size = n) : Blk (W.alloc (.cells cs t)) n cs t := h ▸ Blk.new W cs t
set_option maxRecDepth 100000 in
set_option maxHeartbeats 1600000 in
theorem res_each_right (a b : List Int) (ha : a.length = 3) (hb : b.length = 3) (w : World) :
    Calls Tryz.prog 116 #[.agg (cellsI a), .agg (cellsI b), .func (Fn.func 117) #[] #[]] w fun e w' => e = .returned (.agg (cellsI (List.zipWith (fun n _ => spanU n) a b))) ∧ Below w.heap.size w w' := by
  have hu := Tryz.underlying23
  rw [← fillC_whole _ a b ha hb]
  obtain ⟨f, hf⟩ : ∃ f : Int → Int → Int, (fun n _ => spanU n) = f := ⟨_, rfl⟩
  have HF := Lib.hid (fun (n m : Int) (w : World) => (by rw [← hf]; exact res_right1 n m w : Calls Tryz.prog 117 #[.int .i64 n, .int .i64 m] w fun e w' => e = .returned (.int .i64 (f n m)) ∧ w = w'))
  rw [hf]
  clear hf
  have HA := Lib.hid ha
  have HB := Lib.hid hb
  clear ha hb
  obtain ⟨CA, hCA⟩ : ∃ C, cellsI a = C := ⟨_, rfl⟩
  obtain ⟨CB, hCB⟩ : ∃ C, cellsI b = C := ⟨_, rfl⟩
  have HCA := Lib.hid (fun i (hi : i < 3) => show CA[i]? = some (.int .i64 (fld a i)) by rw [← hCA]; exact cellsI_at (by rw [HA.out]; exact hi))
  have HCB := Lib.hid (fun i (hi : i < 3) => show CB[i]? = some (.int .i64 (fld b i)) by rw [← hCB]; exact cellsI_at (by rw [HB.out]; exact hi))
  rw [hCA, hCB]
  clear hCA hCB
  go_enter Tryz.func116, Tryz.ntmps116
  go_wp2_with fail
  go_loopg [9] 3 (fun gg s9 wr => ∃ k : Nat, k ≤ 3 ∧ gg = 3 - k ∧ (k = 0 ∧ s9 = .int .i64 0 ∨ k = 1 ∧ s9 = .int .i64 1 ∨ k = 2 ∧ s9 = .int .i64 2 ∨ k = 3 ∧ s9 = .int .i64 3) ∧ Hid (Blk wr w.heap.size CA 23) ∧ Hid (Blk wr (w.heap.size + 1) CB 23) ∧ Hid (Blk wr (w.heap.size + 2) (cellsI [0, 0, 0]) 23) ∧ Hid (Blk wr (w.heap.size + 3) (cellsI (fillC f a b k)) 23) ∧ Hid (Below w.heap.size w wr))
  case atStart =>
    refine ⟨0, by omega, rfl, .inl ⟨rfl, rfl⟩, Lib.hid ?_, Lib.hid ?_, Lib.hid ?_, Lib.hid ?_, Lib.hid ?_⟩
    · exact (((Blk.new w _ _).alloc _).alloc _).alloc _
    · exact ((blk_at (w.alloc _) _ _ _ (by simp)).alloc _).alloc _
    · exact (blk_at ((w.alloc _).alloc _) _ _ _ (by simp)).alloc _
    · exact blk_at (((w.alloc _).alloc _).alloc _) _ _ _ (by simp)
    · exact ((((Below.refl w.heap.size w).alloc (Nat.le_refl _) _).alloc (by simp) _).alloc (by simp; omega) _).alloc (by simp; omega) _
  case round =>
    obtain ⟨k, hk, hg, hs9, X0, X1, X2, X3, HBL⟩ := hrel
    have hg := hg.symm
    subst hg
    by_cases hlt : k < 3
    · have c0 := X0.out.cell (HCA.out k hlt)
      have c1 := X1.out.cell (HCB.out k hlt)
      have c3 := X3.out.cell (cellsI_at (l := fillC f a b k) (i := k) hlt)
      have f3 := X3.out.free k
      have HS := Lib.hid (fillC_set f a b k hlt)
      obtain ⟨x, hx⟩ : ∃ x, fld a k = x := ⟨_, rfl⟩
      obtain ⟨y, hy⟩ : ∃ y, fld b k = y := ⟨_, rfl⟩
      rw [hx, hy] at HS
      rw [hx] at c0
      rw [hy] at c1
      clear hx hy
      rcases hs9 with ⟨rfl, rfl⟩ | ⟨rfl, rfl⟩ | ⟨rfl, rfl⟩ | ⟨rfl, _⟩
      case inr.inr.inr => omega
      · go_upto_region 5 with fail
        go_region_held3 (fun w' => w'.cell? ⟨w.heap.size, 0, none⟩ = some (.int .i64 x) ∧ w'.cell? ⟨w.heap.size + 1, 0, none⟩ = some (.int .i64 y)) (first | (go_keep; done) | exact ⟨cell_far c0 (by show ¬ w.heap.size + 1 + 1 + 1 = w.heap.size; omega), cell_far c1 (by show ¬ w.heap.size + 1 + 1 + 1 = w.heap.size + 1; omega)⟩)
          ((go_at_call 117; refine (HF.out _ _ _).mono ?_; rintro e w4 ⟨rfl, rfl⟩))
        go_wp2_with fail
        go_roundg (3 - (0 + 1))
        case measure => omega
        case rel =>
          refine ⟨1, by omega, rfl, .inr (.inl ⟨rfl, rfl⟩), Lib.hid (X0.out.far (a := ⟨w.heap.size + 3, 0, none⟩) (by simp) _), Lib.hid (X1.out.far (a := ⟨w.heap.size + 3, 0, none⟩) (by simp) _), Lib.hid (X2.out.far (a := ⟨w.heap.size + 3, 0, none⟩) (by simp) _), Lib.hid ?_, Lib.hid ?_⟩
          · rw [← HS.out, ← cellsI_set]
            exact X3.out.set 0 _
          · exact (HBL.out.setCell (p := ⟨w.heap.size + 3, 0, none⟩) (by simp) _).drew
      · go_upto_region 5 with fail
        go_region_held3 (fun w' => w'.cell? ⟨w.heap.size, 1, none⟩ = some (.int .i64 x) ∧ w'.cell? ⟨w.heap.size + 1, 1, none⟩ = some (.int .i64 y)) (first | (go_keep; done) | exact ⟨cell_far c0 (by show ¬ w.heap.size + 1 + 1 + 1 = w.heap.size; omega), cell_far c1 (by show ¬ w.heap.size + 1 + 1 + 1 = w.heap.size + 1; omega)⟩)
          ((go_at_call 117; refine (HF.out _ _ _).mono ?_; rintro e w4 ⟨rfl, rfl⟩))
        go_wp2_with fail
        go_roundg (3 - (1 + 1))
        case measure => omega
        case rel =>
          refine ⟨2, by omega, rfl, .inr (.inr (.inl ⟨rfl, rfl⟩)), Lib.hid (X0.out.far (a := ⟨w.heap.size + 3, 1, none⟩) (by simp) _), Lib.hid (X1.out.far (a := ⟨w.heap.size + 3, 1, none⟩) (by simp) _), Lib.hid (X2.out.far (a := ⟨w.heap.size + 3, 1, none⟩) (by simp) _), Lib.hid ?_, Lib.hid ?_⟩
          · rw [← HS.out, ← cellsI_set]
            exact X3.out.set 1 _
          · exact (HBL.out.setCell (p := ⟨w.heap.size + 3, 1, none⟩) (by simp) _).drew
      · go_upto_region 5 with fail
        go_region_held3 (fun w' => w'.cell? ⟨w.heap.size, 2, none⟩ = some (.int .i64 x) ∧ w'.cell? ⟨w.heap.size + 1, 2, none⟩ = some (.int .i64 y)) (first | (go_keep; done) | exact ⟨cell_far c0 (by show ¬ w.heap.size + 1 + 1 + 1 = w.heap.size; omega), cell_far c1 (by show ¬ w.heap.size + 1 + 1 + 1 = w.heap.size + 1; omega)⟩)
          ((go_at_call 117; refine (HF.out _ _ _).mono ?_; rintro e w4 ⟨rfl, rfl⟩))
        go_wp2_with fail
        go_roundg (3 - (2 + 1))
        case measure => omega
        case rel =>
          refine ⟨3, by omega, rfl, .inr (.inr (.inr ⟨rfl, rfl⟩)), Lib.hid (X0.out.far (a := ⟨w.heap.size + 3, 2, none⟩) (by simp) _), Lib.hid (X1.out.far (a := ⟨w.heap.size + 3, 2, none⟩) (by simp) _), Lib.hid (X2.out.far (a := ⟨w.heap.size + 3, 2, none⟩) (by simp) _), Lib.hid ?_, Lib.hid ?_⟩
          · rw [← HS.out, ← cellsI_set]
            exact X3.out.set 2 _
          · exact (HBL.out.setCell (p := ⟨w.heap.size + 3, 2, none⟩) (by simp) _).drew
    · obtain rfl : k = 3 := by omega
      rcases hs9 with ⟨h, _⟩ | ⟨h, _⟩ | ⟨h, _⟩ | ⟨_, rfl⟩
      · omega
      · omega
      · omega
      go_wp2_with (first
        | (with_reducible refine ev_load rfl 23 (.tmp 7) rfl (w.heap.size + 3) rfl 23 (cellsI (fillC f a b 3)) _ X3.out hu rfl (info_res _ rfl) ?_)
        | (with_reducible refine ev_store rfl 23 (.tmp 6) (.tmp 23) rfl (w.heap.size + 2) (cellsI (fillC f a b 3)) rfl rfl 23 _ X2.out (info_res _ rfl) (by simp [cellsI_size, fillC_length]) (cellsI_one _) ?_; intro w5 hb5 hc5 hz5))
      refine bodyPost_ret (res_c rfl _ (w.heap.size + 2) 23 (cellsI (fillC f a b 3)) _ rfl hb5 hu rfl (info_res _ rfl)) rfl ⟨rfl, ?_⟩
      exact Chg.belowOf HBL.out hc5 (fun k hk => by omega) HBL.out.size
/-- Which vectors may be. -/
def resB (l : List Int) : Bool := inR (fld l 0) 0 1048576 && (inR (fld l 1) 0 1048576 && inR (fld l 2) 0 1048576)
theorem resB_span (l : List Int) (h : l.length = 3) : decide (l = List.zipWith (fun n _ => spanU n) l l) = resB l := by
  obtain ⟨a, b, c, rfl⟩ := three_of h
  have e : List.zipWith (fun n _ => spanU n) [a, b, c] [a, b, c] = [spanU a, spanU b, spanU c] := rfl
  rw [e, Bool.eq_iff_iff, decide_eq_true_iff]
  unfold resB
  simp only [Bool.and_eq_true, inR_iff, List.cons.injEq, and_true]
  show a = _ ∧ b = _ ∧ c = _ ↔ (0 ≤ a ∧ a ≤ _) ∧ (0 ≤ b ∧ b ≤ _) ∧ (0 ≤ c ∧ c ≤ _)
  rw [← spanU_same, ← spanU_same, ← spanU_same]
  constructor
  · rintro ⟨h1, h2, h3⟩; exact ⟨h1.symm, h2.symm, h3.symm⟩
  · rintro ⟨h1, h2, h3⟩; exact ⟨h1.symm, h2.symm, h3.symm⟩
set_option maxRecDepth 100000 in
set_option maxHeartbeats 1600000 in
theorem res_right (l : List Int) (hl : l.length = 3) (w : World) : Calls Tryz.prog 99 #[.agg (cellsI l)] w fun e w' => e = .returned (.bool (resB l)) ∧ Below w.heap.size w w' := by
  rw [← resB_span l hl]
  have hz : (List.zipWith (fun n _ => spanU n) l l).length = 3 := by simp [hl]
  have he := res_each_right l l hl hl
  obtain ⟨Z, hZ⟩ : ∃ Z, List.zipWith (fun n _ => spanU n) l l = Z := ⟨_, rfl⟩
  rw [hZ] at he hz ⊢
  have heq := eql_res l Z hl hz
  clear hZ hz
  obtain ⟨D, hD⟩ : ∃ D, cellsI Z = D := ⟨_, rfl⟩
  obtain ⟨d, hd⟩ : ∃ d, decide (l = Z) = d := ⟨_, rfl⟩
  rw [hD] at he heq
  rw [hd] at heq ⊢
  clear hD hd
  obtain ⟨x, y, z, rfl⟩ := three_of hl
  have hc : cellsI [x, y, z] = #[.int .i64 x, .int .i64 y, .int .i64 z] := rfl
  rw [hc] at he heq ⊢
  clear hc hl
  have HE := Lib.hid he
  clear he
  have c0 : (w.alloc (.cells #[.int .i64 x, .int .i64 y, .int .i64 z] 23)).cell? ⟨w.heap.size, 0, none⟩ = some (.int .i64 x) := (Blk.new w _ _).cell rfl
  have c1 : (w.alloc (.cells #[.int .i64 x, .int .i64 y, .int .i64 z] 23)).cell? ⟨w.heap.size, 1, none⟩ = some (.int .i64 y) := (Blk.new w _ _).cell rfl
  have c2 : (w.alloc (.cells #[.int .i64 x, .int .i64 y, .int .i64 z] 23)).cell? ⟨w.heap.size, 2, none⟩ = some (.int .i64 z) := (Blk.new w _ _).cell rfl
  have HZ : Hid ((w.alloc (.cells #[.int .i64 x, .int .i64 y, .int .i64 z] 23)).heap.size = w.heap.size + 1) := Lib.hid (by simp)
  have HB : Hid (Below w.heap.size w (w.alloc (.cells #[.int .i64 x, .int .i64 y, .int .i64 z] 23))) := Lib.hid ((Below.refl w.heap.size w).alloc (Nat.le_refl _) _)
  go_enter Tryz.func99, Tryz.ntmps99
  go_upto_region 1 with fail
  generalize w.alloc (.cells #[.int .i64 x, .int .i64 y, .int .i64 z] 23) = W at *
  go_region_held3 (fun w' => w'.cell? ⟨w.heap.size, 0, none⟩ = some (.int .i64 x) ∧ w'.cell? ⟨w.heap.size, 1, none⟩ = some (.int .i64 y) ∧ w'.cell? ⟨w.heap.size, 2, none⟩ = some (.int .i64 z)) (first | (go_keep; done) | exact ⟨keepB hb4 c0 (by have := HZ.out; show w.heap.size < W.heap.size; omega), keepB hb4 c1 (by have := HZ.out; show w.heap.size < W.heap.size; omega), keepB hb4 c2 (by have := HZ.out; show w.heap.size < W.heap.size; omega)⟩) ((go_at_call 116; refine (HE.out _).mono ?_; rintro e w4 ⟨rfl, hb4⟩))
  have HB4 := Lib.hid (HB.out.drew.trans (hb4.mono (by have := HZ.out; show w.heap.size ≤ W.heap.size; omega)))
  go_wp2_with fail
  go_ret
  exact ⟨rfl, HB4.out⟩
end Go.Proofs.YtanihdpgblkeaaaGreatDoor

/-! EventRight -/
namespace Go.Proofs.YtanihdpgblkeaaaGreatDoor
open Go.RowKit
set_option linter.unusedVariables false
set_option linter.unusedSimpArgs false

end Go.Proofs.YtanihdpgblkeaaaGreatDoor

/-! EventCheck -/
namespace Go.Proofs.YtanihdpgblkeaaaGreatDoor
open Go.RowKit
set_option linter.unusedVariables false
set_option linter.unusedSimpArgs false

end Go.Proofs.YtanihdpgblkeaaaGreatDoor
