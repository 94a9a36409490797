/-
  Messages as texts (reeve's layer 36): what a message's kind names, as names and places; the program's parts.
-/
import Derived.Test.YtanihdpgblkeaaaGreatDoorLetterRef
import Derived.Laws.OwnMore
import Derived.Deep.Onto
namespace Go.Proofs.YtanihdpgblkeaaaGreatDoor
open Go.RowKit
set_option linter.unusedVariables false
set_option linter.unusedSimpArgs false

/-- The cells of parts. -/
def partsCM (g : Nat) (os : List Nat) : List Value := os.flatMap (fun o => [Value.string (strL (partWM o)), Value.pointer (some ⟨g, o, none⟩)])
theorem partsCM_length (g : Nat) (os : List Nat) : (partsCM g os).length = os.length * 2 := by
  induction os with
  | nil => rfl
  | cons o r ih => have e : partsCM g (o :: r) = [Value.string (strL (partWM o)), Value.pointer (some ⟨g, o, none⟩)] ++ partsCM g r := by simp [partsCM]
                   rw [e, List.length_append, ih]; simp; omega
theorem partsCM_at (g : Nat) (os : List Nat) : ∀ (j : Nat) (o : Nat), os[j]? = some o → (partsCM g os)[2 * j]? = some (.string (strL (partWM o))) ∧ (partsCM g os)[2 * j + 1]? = some (.pointer (some ⟨g, o, none⟩)) := by
  induction os with
  | nil => intro j o h; simp at h
  | cons a r ih =>
    intro j o h
    have e : partsCM g (a :: r) = Value.string (strL (partWM a)) :: Value.pointer (some ⟨g, a, none⟩) :: partsCM g r := by simp [partsCM]
    rw [e]
    cases j with
    | zero => simp at h; subst h; exact ⟨rfl, rfl⟩
    | succ j =>
      rw [List.getElem?_cons_succ] at h
      have := ih j o h
      rw [show 2 * (j + 1) = 2 * j + 1 + 1 by omega]
      simp only [List.getElem?_cons_succ]
      exact this
/-- A slice of parts of the call's own. -/
def OwnPM (B : Nat) (w : World) (v : Value) (g : Nat) (os : List Nat) : Prop := w.ownsRow B 63 2 v os.length (partsCM g os)
theorem own_grown {B : Nat} {w0 w1 w2 : World} {v : Value} {T : TypeId} {n m : Nat} {xs : List Value} (h : w1.ownsRow B T m v n xs) (hb : Below B w0 w1) (hB : B ≤ w1.heap.size) (hg : w1.grownBy w2 v.ownBlock) : Below B w0 w2 := by
  refine hb.trans ⟨hg.os, hg.tape, hg.output, hg.size, fun k hk => hg.block k (Nat.lt_of_lt_of_le hk hB) (fun e => ?_)⟩
  obtain ⟨_, ⟨rfl, _⟩ | ⟨g, cap, cur, rfl, hg1, _⟩⟩ := h
  · cases e
  · have : g = k := by have e2 := e.symm; simpa [Value.ownBlock] using e2
    omega
theorem OwnPM.below {B C : Nat} {w w' : World} {v : Value} {g : Nat} {os : List Nat} (h : OwnPM B w v g os) (hb : Below C w w') (hC : w.heap.size ≤ C) : OwnPM B w' v g os := by
  obtain ⟨h1, h2 | ⟨g2, cap, cur, rfl, hg, hh, rest⟩⟩ := h
  · exact ⟨h1, .inl h2⟩
  · refine ⟨h1, .inr ⟨g2, cap, cur, rfl, hg, ?_, rest⟩⟩
    rw [← hh]
    exact hb.block g2 (Nat.lt_of_lt_of_le (Array.getElem?_eq_some_iff.1 hh).1 hC)
theorem OwnPM.at {B : Nat} {w : World} {v : Value} {g : Nat} {os : List Nat} (h : OwnPM B w v g os) {j : Nat} {o : Nat} (hj : os[j]? = some o) : ∃ b cap, v = .slice (some ⟨b, 0, none⟩) os.length cap ∧ B ≤ b ∧ b < w.heap.size ∧ w.cell? ⟨b, 2 * j, none⟩ = some (.string (strL (partWM o))) ∧ w.cell? ⟨b, 2 * j + 1, none⟩ = some (.pointer (some ⟨g, o, none⟩)) := by
  have hc := fun k (hg : v.ownBlock = some k) => World.ownsRow.cells h (g := k) hg
  have hlt := (List.getElem?_eq_some_iff.1 hj).1
  obtain ⟨h1, ⟨rfl, h2⟩ | ⟨b, cap, cur, rfl, hg, hh, _⟩⟩ := h
  · omega
  · obtain ⟨p1, p2⟩ := partsCM_at g os j o hj
    have q1 := hc b rfl _ _ p1
    have q2 := hc b rfl _ _ p2
    have e : ∀ n, (⟨b, 0, none⟩ : Addr).add n = ⟨b, n, none⟩ := by intro n; simp [Addr.add]; intro h; exact h.symm
    rw [e] at q1 q2
    exact ⟨b, cap, rfl, hg, (Array.getElem?_eq_some_iff.1 hh).1, q1, q2⟩
theorem OwnPM.len {B : Nat} {w : World} {v : Value} {g : Nat} {os : List Nat} (h : OwnPM B w v g os) : ∃ p cap, v = .slice p os.length cap := by
  obtain ⟨h1, ⟨rfl, h2⟩ | ⟨b, cap, cur, rfl, _⟩⟩ := h
  · exact ⟨none, 0, by rw [h2]⟩
  · exact ⟨_, cap, rfl⟩
theorem six_new (w : World) (T : TypeId) (a b c d e f : Value) : ∀ j u, [a, b, c, d, e, f][j]? = some u → (w.alloc (.cells #[a, b, c, d, e, f] T)).cell? ((⟨w.heap.size, 0, none⟩ : Addr).add j) = some u := by
  intro j u hj
  have h := Blk.new w #[a, b, c, d, e, f] T
  have e : (⟨w.heap.size, 0, none⟩ : Addr).add j = ⟨w.heap.size, j, none⟩ := by simp [Addr.add]; intro h; exact h.symm
  rw [e]
  exact h.cell (by simpa using hj)
abbrev af20 : Array Edge := #[{ on := 16, ground := Ground.data }, { on := 3, ground := Ground.data }, { on := 0, ground := Ground.phase }, { on := 1, ground := Ground.phase }, { on := 2, ground := Ground.phase }, { on := 3, ground := Ground.phase }, { on := 4, ground := Ground.textOnly Departure.lateStores }, { on := 5, ground := Ground.textOnly Departure.lateStores }, { on := 6, ground := Ground.textOnly Departure.lateStores }, { on := 7, ground := Ground.textOnly Departure.lateStores }, { on := 8, ground := Ground.textOnly Departure.lateStores }, { on := 9, ground := Ground.textOnly Departure.lateStores }, { on := 10, ground := Ground.textOnly Departure.lateStores }, { on := 11, ground := Ground.textOnly Departure.lateStores }, { on := 12, ground := Ground.textOnly Departure.lateStores }, { on := 13, ground := Ground.textOnly Departure.lateStores }, { on := 14, ground := Ground.textOnly Departure.lateStores }, { on := 15, ground := Ground.textOnly Departure.lateStores }, { on := 16, ground := Ground.phase }, { on := 17, ground := Ground.phase }, { on := 18, ground := Ground.phase }, { on := 19, ground := Ground.phase }]
abbrev af21 : Array Edge := #[{ on := 17, ground := Ground.data }, { on := 7, ground := Ground.data }, { on := 20, ground := Ground.chain }, { on := 0, ground := Ground.phase }, { on := 1, ground := Ground.phase }, { on := 2, ground := Ground.phase }, { on := 3, ground := Ground.phase }, { on := 4, ground := Ground.phase }, { on := 5, ground := Ground.phase }, { on := 6, ground := Ground.phase }, { on := 7, ground := Ground.phase }, { on := 8, ground := Ground.textOnly Departure.lateStores }, { on := 9, ground := Ground.textOnly Departure.lateStores }, { on := 10, ground := Ground.textOnly Departure.lateStores }, { on := 11, ground := Ground.textOnly Departure.lateStores }, { on := 12, ground := Ground.textOnly Departure.lateStores }, { on := 13, ground := Ground.textOnly Departure.lateStores }, { on := 14, ground := Ground.textOnly Departure.lateStores }, { on := 15, ground := Ground.textOnly Departure.lateStores }, { on := 16, ground := Ground.phase }, { on := 17, ground := Ground.phase }, { on := 18, ground := Ground.phase }, { on := 19, ground := Ground.phase }, { on := 20, ground := Ground.phase }]
abbrev af22 : Array Edge := #[{ on := 18, ground := Ground.data }, { on := 11, ground := Ground.data }, { on := 21, ground := Ground.chain }, { on := 0, ground := Ground.phase }, { on := 1, ground := Ground.phase }, { on := 2, ground := Ground.phase }, { on := 3, ground := Ground.phase }, { on := 4, ground := Ground.phase }, { on := 5, ground := Ground.phase }, { on := 6, ground := Ground.phase }, { on := 7, ground := Ground.phase }, { on := 8, ground := Ground.phase }, { on := 9, ground := Ground.phase }, { on := 10, ground := Ground.phase }, { on := 11, ground := Ground.phase }, { on := 12, ground := Ground.textOnly Departure.lateStores }, { on := 13, ground := Ground.textOnly Departure.lateStores }, { on := 14, ground := Ground.textOnly Departure.lateStores }, { on := 15, ground := Ground.textOnly Departure.lateStores }, { on := 16, ground := Ground.phase }, { on := 17, ground := Ground.phase }, { on := 18, ground := Ground.phase }, { on := 19, ground := Ground.phase }, { on := 20, ground := Ground.phase }, { on := 21, ground := Ground.phase }]
abbrev af23 : Array Edge := #[{ on := 19, ground := Ground.data }, { on := 15, ground := Ground.data }, { on := 22, ground := Ground.chain }, { on := 0, ground := Ground.phase }, { on := 1, ground := Ground.phase }, { on := 2, ground := Ground.phase }, { on := 3, ground := Ground.phase }, { on := 4, ground := Ground.phase }, { on := 5, ground := Ground.phase }, { on := 6, ground := Ground.phase }, { on := 7, ground := Ground.phase }, { on := 8, ground := Ground.phase }, { on := 9, ground := Ground.phase }, { on := 10, ground := Ground.phase }, { on := 11, ground := Ground.phase }, { on := 12, ground := Ground.phase }, { on := 13, ground := Ground.phase }, { on := 14, ground := Ground.phase }, { on := 15, ground := Ground.phase }, { on := 16, ground := Ground.phase }, { on := 17, ground := Ground.phase }, { on := 18, ground := Ground.phase }, { on := 19, ground := Ground.phase }, { on := 20, ground := Ground.phase }, { on := 21, ground := Ground.phase }, { on := 22, ground := Ground.phase }]
abbrev sJ : Value := .string ⟨#[106, 111, 98]⟩
abbrev sI : Value := .string ⟨#[105, 110, 99]⟩
abbrev sE : Value := .string ⟨#[101, 112, 111, 99, 104]⟩
abbrev sT : Value := .string ⟨#[116, 105, 99, 107]⟩
abbrev pt (g o : Nat) : Value := .pointer (some ⟨g, o, none⟩)
abbrev zPt : Obj := .cells #[.string ⟨#[]⟩, .pointer none] 63
theorem size_up {w : World} {x : Nat} (h : x < w.heap.size) (o : Obj) : x < (w.alloc o).heap.size := by simp; omega
theorem size_self (w : World) (o : Obj) : w.heap.size < (w.alloc o).heap.size := by simp
theorem blk_set2 {w : World} {g : Nat} {u0 u1 : Value} {t : TypeId} (hB : Blk w g #[u0, u1] t) (v0 v1 : Value) : Blk ((w.setCell ⟨g, 0, none⟩ v0).setCell ⟨g, 1, none⟩ v1) g #[v0, v1] t := by
  have h1 := (hB.set 0 v0).set 1 v1
  have e : ((#[u0, u1] : Array Value).setIfInBounds 0 v0).setIfInBounds 1 v1 = #[v0, v1] := by simp
  rw [e] at h1
  exact h1
theorem blk_off2 {w : World} {g X : Nat} {cs : Array Value} {t : TypeId} (hB : Blk w g cs t) (hne : ¬ X = g) (v0 v1 : Value) : Blk ((w.setCell ⟨X, 0, none⟩ v0).setCell ⟨X, 1, none⟩ v1) g cs t :=
  (hB.far (a := ⟨X, 0, none⟩) hne v0).far (a := ⟨X, 1, none⟩) hne v1
theorem below_set2 {B : Nat} {w0 w : World} {g : Nat} (hb : Below B w0 w) (hg : B ≤ g) (v0 v1 : Value) : Below B w0 ((w.setCell ⟨g, 0, none⟩ v0).setCell ⟨g, 1, none⟩ v1) :=
  (hb.setCell (p := ⟨g, 0, none⟩) hg v0).setCell (p := ⟨g, 1, none⟩) hg v1
theorem cell_set2 {w : World} {g n : Nat} {x : Value} (hc : w.cell? ⟨n, 0, none⟩ = some x) (h : ¬ g = n) (v0 v1 : Value) : World.cell? ((w.setCell ⟨g, 0, none⟩ v0).setCell ⟨g, 1, none⟩ v1) ⟨n, 0, none⟩ = some x := by
  have h1 := (World.cell?_setCell_other w ⟨g, 0, none⟩ ⟨n, 0, none⟩ v0 (fun e => h (by injection e))).trans hc
  exact (World.cell?_setCell_other (w.setCell ⟨g, 0, none⟩ v0) ⟨g, 1, none⟩ ⟨n, 0, none⟩ v1 (fun e => h (by injection e))).trans h1
set_option maxRecDepth 100000 in
set_option maxHeartbeats 3200000 in
theorem partsM_three (B g c : Nat) (v : Value) (xs : List Value) (w : World) (hB : B ≤ w.heap.size) (hown : w.ownsRow B 63 2 v 2 xs) (hc0 : w.cell? ⟨c, 0, none⟩ = some (.pointer (some ⟨g, 0, none⟩))) (hcB : c < B) :
    Calls Tryz.prog 71 #[v, .pointer (some ⟨c, 0, none⟩)] w fun e w' => ∃ v', e = .returned v' ∧ w'.ownsRow B 63 2 v' 5 (xs ++ [.string ⟨#[99, 111, 114, 101, 115]⟩, .pointer (some ⟨g, 9, none⟩), .string ⟨#[109, 101, 109, 111, 114, 121]⟩, .pointer (some ⟨g, 10, none⟩), .string ⟨#[100, 105, 115, 107]⟩, .pointer (some ⟨g, 11, none⟩)]) ∧ Below B w w' := by
  obtain ⟨i0, hi, hz, hsize, hby⟩ : ∃ i, Tryz.prog.info? 63 = some i ∧ i.zero = some (.agg #[.string ⟨#[]⟩, .pointer none]) ∧ i.size = 2 ∧ i.bytes = 24 := ⟨_, rfl, rfl, rfl, rfl⟩
  have HI := Lib.hid hi
  have HO := Lib.hid hown
  clear hi hown
  go_enter Tryz.func71, Tryz.ntmps71
  go_upto_region 1 with fail
  refine wp_region_held_drew (S := (fun w' => w'.cell? ⟨c, 0, none⟩ = some (.pointer (some ⟨g, 0, none⟩)))) (by kernel_rfl) hc0 (fun hHeld => ?_)
  refine wpAnyH_take (i := 0) (oi := ({ dst := some 4, op := Op.move (Operand.tmp 0), type := 57, pos := "letter.go:35", after := #[], guard := none })) (v := v) rfl (by kernel_rfl) (by kernel_rfl) (by kernel_rfl) (fun _ _ _ h => h) (Or.inl ⟨by rfl, ?_⟩) (by assumption) ?_
  · (intro w hSw; (try dsimp only at hSw); go_simp)
  try simp only [Act.put, List.setIfInBounds_toArray, List.set_cons_zero, List.set_cons_succ]
  refine wpAnyH_take (i := 1) (oi := ({ dst := some 5, op := Op.load 59 (Operand.tmp 1), type := 59, pos := "letter.go:35", after := #[], guard := none })) (v := (.pointer (some ⟨g, 0, none⟩))) rfl (by kernel_rfl) (by kernel_rfl) (by kernel_rfl) (fun _ _ _ h => h) (Or.inl ⟨by rfl, ?_⟩) (by assumption) ?_
  · (intro w hSw; (try dsimp only at hSw); go_simp)
  try simp only [Act.put, List.setIfInBounds_toArray, List.set_cons_zero, List.set_cons_succ]
  refine wpAnyH_take (i := 2) (oi := ({ dst := some 6, op := Op.nilCheck (Operand.tmp 5), type := 0, pos := "letter.go:35", after := #[{ on := 1, ground := Ground.data }], guard := none })) (v := (.pointer (some ⟨g, 0, none⟩))) rfl (by kernel_rfl) (by kernel_rfl) (by kernel_rfl) (fun _ _ _ h => h) (Or.inl ⟨by rfl, ?_⟩) (by assumption) ?_
  · (intro w hSw; (try dsimp only at hSw); go_simp)
  try simp only [Act.put, List.setIfInBounds_toArray, List.set_cons_zero, List.set_cons_succ]
  refine wpAnyH_take (i := 3) (oi := ({ dst := some 7, op := Op.fieldAddr 25 (Operand.tmp 6) 9, type := 0, pos := "letter.go:35", after := #[{ on := 2, ground := Ground.data }], guard := none })) (v := (.pointer (some ⟨g, 9, none⟩))) rfl (by kernel_rfl) (by kernel_rfl) (by kernel_rfl) (fun _ _ _ h => h) (Or.inl ⟨by rfl, ?_⟩) (by assumption) ?_
  · (intro w hSw; (try dsimp only at hSw); go_simp)
  try simp only [Act.put, List.setIfInBounds_toArray, List.set_cons_zero, List.set_cons_succ]
  refine wpAnyH_take (i := 4) (oi := ({ dst := some 8, op := Op.indexAddr 23 (Operand.tmp 7) (Operand.const (Value.int IntKind.i64 0)), type := 0, pos := "letter.go:35", after := #[{ on := 3, ground := Ground.data }], guard := none })) (v := (.pointer (some ⟨g, 9, none⟩))) rfl (by kernel_rfl) (by kernel_rfl) (by kernel_rfl) (fun _ _ _ h => h) (Or.inl ⟨by rfl, ?_⟩) (by assumption) ?_
  · (intro w hSw; (try dsimp only at hSw); go_simp)
  try simp only [Act.put, List.setIfInBounds_toArray, List.set_cons_zero, List.set_cons_succ]
  refine wpAnyH_take (i := 5) (oi := ({ dst := some 9, op := Op.build 63 #[(0, Operand.const (Value.string { data := #[99, 111, 114, 101, 115] })), (1, Operand.tmp 8)], type := 63, pos := "letter.go:35", after := #[{ on := 4, ground := Ground.data }], guard := none })) (v := (.agg #[.string ⟨#[99, 111, 114, 101, 115]⟩, .pointer (some ⟨g, 9, none⟩)])) rfl (by kernel_rfl) (by kernel_rfl) (by kernel_rfl) (fun _ _ _ h => h) (Or.inl ⟨by rfl, ?_⟩) (by assumption) ?_
  · (intro w hSw; (try dsimp only at hSw); go_simp)
  try simp only [Act.put, List.setIfInBounds_toArray, List.set_cons_zero, List.set_cons_succ]
  refine wpAnyH_take (i := 6) (oi := ({ dst := some 10, op := Op.load 59 (Operand.tmp 1), type := 59, pos := "letter.go:35", after := #[], guard := none })) (v := (.pointer (some ⟨g, 0, none⟩))) rfl (by kernel_rfl) (by kernel_rfl) (by kernel_rfl) (fun _ _ _ h => h) (Or.inl ⟨by rfl, ?_⟩) (by assumption) ?_
  · (intro w hSw; (try dsimp only at hSw); go_simp)
  try simp only [Act.put, List.setIfInBounds_toArray, List.set_cons_zero, List.set_cons_succ]
  refine wpAnyH_take (i := 7) (oi := ({ dst := some 11, op := Op.nilCheck (Operand.tmp 10), type := 0, pos := "letter.go:35", after := #[{ on := 6, ground := Ground.data }], guard := none })) (v := (.pointer (some ⟨g, 0, none⟩))) rfl (by kernel_rfl) (by kernel_rfl) (by kernel_rfl) (fun _ _ _ h => h) (Or.inl ⟨by rfl, ?_⟩) (by assumption) ?_
  · (intro w hSw; (try dsimp only at hSw); go_simp)
  try simp only [Act.put, List.setIfInBounds_toArray, List.set_cons_zero, List.set_cons_succ]
  refine wpAnyH_take (i := 8) (oi := ({ dst := some 12, op := Op.fieldAddr 25 (Operand.tmp 11) 9, type := 0, pos := "letter.go:35", after := #[{ on := 7, ground := Ground.data }], guard := none })) (v := (.pointer (some ⟨g, 9, none⟩))) rfl (by kernel_rfl) (by kernel_rfl) (by kernel_rfl) (fun _ _ _ h => h) (Or.inl ⟨by rfl, ?_⟩) (by assumption) ?_
  · (intro w hSw; (try dsimp only at hSw); go_simp)
  try simp only [Act.put, List.setIfInBounds_toArray, List.set_cons_zero, List.set_cons_succ]
  refine wpAnyH_take (i := 9) (oi := ({ dst := some 13, op := Op.indexAddr 23 (Operand.tmp 12) (Operand.const (Value.int IntKind.i64 1)), type := 0, pos := "letter.go:35", after := #[{ on := 8, ground := Ground.data }], guard := none })) (v := (.pointer (some ⟨g, 10, none⟩))) rfl (by kernel_rfl) (by kernel_rfl) (by kernel_rfl) (fun _ _ _ h => h) (Or.inl ⟨by rfl, ?_⟩) (by assumption) ?_
  · (intro w hSw; (try dsimp only at hSw); go_simp)
  try simp only [Act.put, List.setIfInBounds_toArray, List.set_cons_zero, List.set_cons_succ]
  refine wpAnyH_take (i := 10) (oi := ({ dst := some 14, op := Op.build 63 #[(0, Operand.const (Value.string { data := #[109, 101, 109, 111, 114, 121] })), (1, Operand.tmp 13)], type := 63, pos := "letter.go:35", after := #[{ on := 9, ground := Ground.data }], guard := none })) (v := (.agg #[.string ⟨#[109, 101, 109, 111, 114, 121]⟩, .pointer (some ⟨g, 10, none⟩)])) rfl (by kernel_rfl) (by kernel_rfl) (by kernel_rfl) (fun _ _ _ h => h) (Or.inl ⟨by rfl, ?_⟩) (by assumption) ?_
  · (intro w hSw; (try dsimp only at hSw); go_simp)
  try simp only [Act.put, List.setIfInBounds_toArray, List.set_cons_zero, List.set_cons_succ]
  refine wpAnyH_take (i := 11) (oi := ({ dst := some 15, op := Op.load 59 (Operand.tmp 1), type := 59, pos := "letter.go:35", after := #[], guard := none })) (v := (.pointer (some ⟨g, 0, none⟩))) rfl (by kernel_rfl) (by kernel_rfl) (by kernel_rfl) (fun _ _ _ h => h) (Or.inl ⟨by rfl, ?_⟩) (by assumption) ?_
  · (intro w hSw; (try dsimp only at hSw); go_simp)
  try simp only [Act.put, List.setIfInBounds_toArray, List.set_cons_zero, List.set_cons_succ]
  refine wpAnyH_take (i := 12) (oi := ({ dst := some 16, op := Op.nilCheck (Operand.tmp 15), type := 0, pos := "letter.go:35", after := #[{ on := 11, ground := Ground.data }], guard := none })) (v := (.pointer (some ⟨g, 0, none⟩))) rfl (by kernel_rfl) (by kernel_rfl) (by kernel_rfl) (fun _ _ _ h => h) (Or.inl ⟨by rfl, ?_⟩) (by assumption) ?_
  · (intro w hSw; (try dsimp only at hSw); go_simp)
  try simp only [Act.put, List.setIfInBounds_toArray, List.set_cons_zero, List.set_cons_succ]
  refine wpAnyH_take (i := 13) (oi := ({ dst := some 17, op := Op.fieldAddr 25 (Operand.tmp 16) 9, type := 0, pos := "letter.go:35", after := #[{ on := 12, ground := Ground.data }], guard := none })) (v := (.pointer (some ⟨g, 9, none⟩))) rfl (by kernel_rfl) (by kernel_rfl) (by kernel_rfl) (fun _ _ _ h => h) (Or.inl ⟨by rfl, ?_⟩) (by assumption) ?_
  · (intro w hSw; (try dsimp only at hSw); go_simp)
  try simp only [Act.put, List.setIfInBounds_toArray, List.set_cons_zero, List.set_cons_succ]
  refine wpAnyH_take (i := 14) (oi := ({ dst := some 18, op := Op.indexAddr 23 (Operand.tmp 17) (Operand.const (Value.int IntKind.i64 2)), type := 0, pos := "letter.go:35", after := #[{ on := 13, ground := Ground.data }], guard := none })) (v := (.pointer (some ⟨g, 11, none⟩))) rfl (by kernel_rfl) (by kernel_rfl) (by kernel_rfl) (fun _ _ _ h => h) (Or.inl ⟨by rfl, ?_⟩) (by assumption) ?_
  · (intro w hSw; (try dsimp only at hSw); go_simp)
  try simp only [Act.put, List.setIfInBounds_toArray, List.set_cons_zero, List.set_cons_succ]
  refine wpAnyH_take (i := 15) (oi := ({ dst := some 19, op := Op.build 63 #[(0, Operand.const (Value.string { data := #[100, 105, 115, 107] })), (1, Operand.tmp 18)], type := 63, pos := "letter.go:35", after := #[{ on := 14, ground := Ground.data }], guard := none })) (v := (.agg #[.string ⟨#[100, 105, 115, 107]⟩, .pointer (some ⟨g, 11, none⟩)])) rfl (by kernel_rfl) (by kernel_rfl) (by kernel_rfl) (fun _ _ _ h => h) (Or.inl ⟨by rfl, ?_⟩) (by assumption) ?_
  · (intro w hSw; (try dsimp only at hSw); go_simp)
  try simp only [Act.put, List.setIfInBounds_toArray, List.set_cons_zero, List.set_cons_succ]
  refine wpAnyH_ready (rs := [16]) (by kernel_rfl) (by simp) (AllReadyH.cons (o := ({ dst := some 20, op := Op.buildSlice 57 3 #[(0, Operand.tmp 9), (1, Operand.tmp 14), (2, Operand.tmp 19)], type := 57, pos := "letter.go:35", after := #[{ on := 5, ground := Ground.data }, { on := 10, ground := Ground.data }, { on := 15, ground := Ground.data }], guard := none })) rfl (fun K hK => ?_) AllReadyH.nil)
  go_simp
  clear hHeld
  refine hK.out _ _ (keepA hc0 _) (fun hHeld => ?_)
  clear hK K
  try simp only [Act.put, List.setIfInBounds_toArray, List.set_cons_zero, List.set_cons_succ]
  refine wpAnyH_ready (rs := [17]) (by kernel_rfl) (by simp) (AllReadyH.cons (o := ({ dst := some 21, op := Op.call { callee := Callee.builtin Builtin.append, args := #[Operand.tmp 4, Operand.tmp 20], argTypes := #[57, 57] }, type := 57, pos := "letter.go:35", after := #[{ on := 0, ground := Ground.data }, { on := 16, ground := Ground.data }], guard := none })) rfl (fun K hK => ?_) AllReadyH.nil)
  rw [if_pos (by rfl)]
  refine wp_append_own _ _ _ 57 rfl B 63 i0 (.agg #[.string ⟨#[]⟩, .pointer none]) 2 24 Tryz.underlying57 HI.out hz hsize hby rfl (by decide) _ 2 xs rfl ?a1 ⟨_, 0, none⟩ 3 3 [.string ⟨#[99, 111, 114, 101, 115]⟩, .pointer (some ⟨g, 9, none⟩), .string ⟨#[109, 101, 109, 111, 114, 121]⟩, .pointer (some ⟨g, 10, none⟩), .string ⟨#[100, 105, 115, 107]⟩, .pointer (some ⟨g, 11, none⟩)] rfl rfl ?a2 ?a3 ?a4 ?a5 ?a6 ?a7
  case a1 => exact (HO.out.alloc _)
  case a2 => exact six_new _ _ _ _ _ _ _ _
  case a3 => intro u hu; simp at hu; rcases hu with rfl | rfl | rfl | rfl | rfl | rfl <;> rfl
  case a4 => unfold maxLen; omega
  case a5 => omega
  case a6 => simp; omega
  intro v' w4 hown2 hgrow _
  have HO3 := Lib.hid hown2
  change World.grownBy _ w4 v.ownBlock at hgrow
  have HB3 : Hid (Below B w w4) := Lib.hid (own_grown (by exact (HO.out.alloc _)) (by have h := (Below.refl B w).alloc hB (.cells #[.string ⟨#[99, 111, 114, 101, 115]⟩, .pointer (some ⟨g, 9, none⟩), .string ⟨#[109, 101, 109, 111, 114, 121]⟩, .pointer (some ⟨g, 10, none⟩), .string ⟨#[100, 105, 115, 107]⟩, .pointer (some ⟨g, 11, none⟩)] 63); exact ⟨h.os, h.tape, h.output, h.size, h.block⟩) (by simp; omega) hgrow)
  have hcw := keepB HB3.out hc0 hcB
  clear hown2 hgrow
  clear hHeld
  refine hK.out _ _ hcw (fun hHeld => ?_)
  clear hK K
  try simp only [Act.put, List.setIfInBounds_toArray, List.set_cons_zero, List.set_cons_succ]
  refine wpAnyH_take (i := 18) (oi := ({ dst := some 3, op := Op.assign (Operand.tmp 21), type := 57, pos := "letter.go:35", after := #[{ on := 17, ground := Ground.data }, { on := 17, ground := Ground.chain }, { on := 0, ground := Ground.phase }, { on := 1, ground := Ground.phase }, { on := 2, ground := Ground.phase }, { on := 3, ground := Ground.phase }, { on := 4, ground := Ground.phase }, { on := 5, ground := Ground.phase }, { on := 6, ground := Ground.phase }, { on := 7, ground := Ground.phase }, { on := 8, ground := Ground.phase }, { on := 9, ground := Ground.phase }, { on := 10, ground := Ground.phase }, { on := 11, ground := Ground.phase }, { on := 12, ground := Ground.phase }, { on := 13, ground := Ground.phase }, { on := 14, ground := Ground.phase }, { on := 15, ground := Ground.phase }, { on := 16, ground := Ground.phase }, { on := 17, ground := Ground.phase }], guard := none })) (v := v') rfl (by kernel_rfl) (by kernel_rfl) (by kernel_rfl) (fun _ _ _ h => h) (Or.inl ⟨by rfl, ?_⟩) (by assumption) ?_
  · (intro w hSw; (try dsimp only at hSw); go_simp)
  try simp only [Act.put, List.setIfInBounds_toArray, List.set_cons_zero, List.set_cons_succ]
  refine wpAnyH_done (by kernel_rfl) ?_ _
  clear hHeld
  go_wp2_with fail
  go_ret
  exact ⟨_, rfl, HO3.out, HB3.out⟩
set_option maxRecDepth 100000 in
set_option maxHeartbeats 6400000 in
theorem letter_parts (g : Nat) (k : Int) (hk : 1 ≤ k ∧ k ≤ 8) (w : World) (hc : w.cell? ⟨g, 0, none⟩ = some (.int .i64 k)) :
    Calls Tryz.prog 31 #[.pointer (some ⟨g, 0, none⟩)] w fun e w' => ∃ v, e = .returned v ∧ OwnPM w.heap.size w' v g (offsM k) ∧ Below w.heap.size w w' := by
  have hgl : g < w.heap.size := World.block_lt_of_cell? w _ hc
  obtain ⟨n, hn⟩ : ∃ n, w.heap.size = n := ⟨_, rfl⟩
  obtain ⟨W0, hW0⟩ : ∃ W, w.alloc (.cells #[.pointer (some ⟨g, 0, none⟩)] 59) = W := ⟨_, rfl⟩
  have cb : W0.cell? ⟨n, 0, none⟩ = some (.pointer (some ⟨g, 0, none⟩)) := by rw [← hW0, ← hn]; exact (Blk.new w _ _).cell (i := 0) rfl
  have HB0 : Hid (Below n w W0) := Lib.hid (by rw [← hW0, ← hn]; exact (Below.refl _ _).alloc (Nat.le_refl _) _)
  have HZ0 : Hid (n < W0.heap.size) := Lib.hid (by rw [← hW0, ← hn]; simp)
  have HCK := Lib.hid hc
  have HG : Hid (g < n) := Lib.hid (by omega)
  have HW0 := Lib.hid hW0
  have HN0 := Lib.hid hn
  obtain ⟨i0, hi, hz, hsize, hby⟩ : ∃ i, Tryz.prog.info? 63 = some i ∧ i.zero = some (.agg #[.string ⟨#[]⟩, .pointer none]) ∧ i.size = 2 ∧ i.bytes = 24 := ⟨_, rfl, rfl, rfl, rfl⟩
  have HII := Lib.hid hi
  clear hi
  rw [hn]
  clear hW0 hgl hn hc
  go_enter Tryz.func31, Tryz.ntmps31
  go_upto_region 1 with fail
  rw [HW0.out]
  try rw [HN0.out]
  clear HW0
  go_cut [3, 4, 5, 6] (fun s3 s4 s5 s6 wx => ∃ a b c d : Nat, s3 = .pointer (some ⟨a, 0, none⟩) ∧ s4 = .pointer (some ⟨b, 0, none⟩) ∧ s5 = .pointer (some ⟨c, 0, none⟩) ∧ s6 = .pointer (some ⟨d, 0, none⟩) ∧ Blk wx a #[.string ⟨#[106, 111, 98]⟩, .pointer (some ⟨g, 5, none⟩)] 63 ∧ Blk wx b #[.string ⟨#[105, 110, 99]⟩, .pointer (some ⟨g, 4, none⟩)] 63 ∧ Blk wx c #[.string ⟨#[101, 112, 111, 99, 104]⟩, .pointer (some ⟨g, 3, none⟩)] 63 ∧ Blk wx d #[.string ⟨#[116, 105, 99, 107]⟩, .pointer (some ⟨g, 6, none⟩)] 63 ∧ wx.cell? ⟨n, 0, none⟩ = some (.pointer (some ⟨g, 0, none⟩)) ∧ Below n w wx ∧ n < a ∧ n < b ∧ n < c ∧ n < d)
  case first =>
    refine wp_region_held_drew (S := (fun w' => w'.cell? ⟨n, 0, none⟩ = some (.pointer (some ⟨g, 0, none⟩)))) (by kernel_rfl) cb (fun hHeld => ?_)
    refine wpAnyH_take (i := 0) (oi := ({ dst := some 8, op := Op.load 59 (Operand.tmp 1), type := 59, pos := "letter.go:33", after := #[], guard := none })) (v := (.pointer (some ⟨g, 0, none⟩))) rfl (by kernel_rfl) (by kernel_rfl) (by kernel_rfl) (fun _ _ _ h => h) (Or.inl ⟨by rfl, ?_⟩) (by assumption) ?_
    · (intro w hSw; (try dsimp only at hSw); go_simp)
    try simp only [Act.put, List.setIfInBounds_toArray, List.set_cons_zero, List.set_cons_succ]
    refine wpAnyH_take (i := 1) (oi := ({ dst := some 9, op := Op.nilCheck (Operand.tmp 8), type := 0, pos := "letter.go:33", after := #[{ on := 0, ground := Ground.data }], guard := none })) (v := (.pointer (some ⟨g, 0, none⟩))) rfl (by kernel_rfl) (by kernel_rfl) (by kernel_rfl) (fun _ _ _ h => h) (Or.inl ⟨by rfl, ?_⟩) (by assumption) ?_
    · (intro w hSw; (try dsimp only at hSw); go_simp)
    try simp only [Act.put, List.setIfInBounds_toArray, List.set_cons_zero, List.set_cons_succ]
    refine wpAnyH_take (i := 2) (oi := ({ dst := some 10, op := Op.fieldAddr 25 (Operand.tmp 9) 5, type := 0, pos := "letter.go:33", after := #[{ on := 1, ground := Ground.data }], guard := none })) (v := (.pointer (some ⟨g, 5, none⟩))) rfl (by kernel_rfl) (by kernel_rfl) (by kernel_rfl) (fun _ _ _ h => h) (Or.inl ⟨by rfl, ?_⟩) (by assumption) ?_
    · (intro w hSw; (try dsimp only at hSw); go_simp)
    try simp only [Act.put, List.setIfInBounds_toArray, List.set_cons_zero, List.set_cons_succ]
    refine wpAnyH_take (i := 3) (oi := ({ dst := some 11, op := Op.build 63 #[(0, Operand.const (Value.string { data := #[106, 111, 98] })), (1, Operand.tmp 10)], type := 63, pos := "letter.go:33", after := #[{ on := 2, ground := Ground.data }], guard := none })) (v := (.agg #[.string ⟨#[106, 111, 98]⟩, .pointer (some ⟨g, 5, none⟩)])) rfl (by kernel_rfl) (by kernel_rfl) (by kernel_rfl) (fun _ _ _ h => h) (Or.inl ⟨by rfl, ?_⟩) (by assumption) ?_
    · (intro w hSw; (try dsimp only at hSw); go_simp)
    try simp only [Act.put, List.setIfInBounds_toArray, List.set_cons_zero, List.set_cons_succ]
    refine wpAnyH_take (i := 4) (oi := ({ dst := some 12, op := Op.load 59 (Operand.tmp 1), type := 59, pos := "letter.go:33", after := #[{ on := 20, ground := Ground.gcOnly Departure.lateStores }], guard := none })) (v := (.pointer (some ⟨g, 0, none⟩))) rfl (by kernel_rfl) (by kernel_rfl) (by kernel_rfl) (fun _ _ _ h => h) (Or.inl ⟨by rfl, ?_⟩) (by assumption) ?_
    · (intro w hSw; (try dsimp only at hSw); go_simp)
    try simp only [Act.put, List.setIfInBounds_toArray, List.set_cons_zero, List.set_cons_succ]
    refine wpAnyH_take (i := 5) (oi := ({ dst := some 13, op := Op.nilCheck (Operand.tmp 12), type := 0, pos := "letter.go:33", after := #[{ on := 4, ground := Ground.data }, { on := 20, ground := Ground.gcOnly Departure.lateStores }], guard := none })) (v := (.pointer (some ⟨g, 0, none⟩))) rfl (by kernel_rfl) (by kernel_rfl) (by kernel_rfl) (fun _ _ _ h => h) (Or.inl ⟨by rfl, ?_⟩) (by assumption) ?_
    · (intro w hSw; (try dsimp only at hSw); go_simp)
    try simp only [Act.put, List.setIfInBounds_toArray, List.set_cons_zero, List.set_cons_succ]
    refine wpAnyH_take (i := 6) (oi := ({ dst := some 14, op := Op.fieldAddr 25 (Operand.tmp 13) 4, type := 0, pos := "letter.go:33", after := #[{ on := 5, ground := Ground.data }, { on := 20, ground := Ground.gcOnly Departure.lateStores }], guard := none })) (v := (.pointer (some ⟨g, 4, none⟩))) rfl (by kernel_rfl) (by kernel_rfl) (by kernel_rfl) (fun _ _ _ h => h) (Or.inl ⟨by rfl, ?_⟩) (by assumption) ?_
    · (intro w hSw; (try dsimp only at hSw); go_simp)
    try simp only [Act.put, List.setIfInBounds_toArray, List.set_cons_zero, List.set_cons_succ]
    refine wpAnyH_take (i := 7) (oi := ({ dst := some 15, op := Op.build 63 #[(0, Operand.const (Value.string { data := #[105, 110, 99] })), (1, Operand.tmp 14)], type := 63, pos := "letter.go:33", after := #[{ on := 6, ground := Ground.data }, { on := 20, ground := Ground.gcOnly Departure.lateStores }], guard := none })) (v := (.agg #[.string ⟨#[105, 110, 99]⟩, .pointer (some ⟨g, 4, none⟩)])) rfl (by kernel_rfl) (by kernel_rfl) (by kernel_rfl) (fun _ _ _ h => h) (Or.inl ⟨by rfl, ?_⟩) (by assumption) ?_
    · (intro w hSw; (try dsimp only at hSw); go_simp)
    try simp only [Act.put, List.setIfInBounds_toArray, List.set_cons_zero, List.set_cons_succ]
    refine wpAnyH_take (i := 8) (oi := ({ dst := some 16, op := Op.load 59 (Operand.tmp 1), type := 59, pos := "letter.go:33", after := #[{ on := 21, ground := Ground.gcOnly Departure.lateStores }], guard := none })) (v := (.pointer (some ⟨g, 0, none⟩))) rfl (by kernel_rfl) (by kernel_rfl) (by kernel_rfl) (fun _ _ _ h => h) (Or.inl ⟨by rfl, ?_⟩) (by assumption) ?_
    · (intro w hSw; (try dsimp only at hSw); go_simp)
    try simp only [Act.put, List.setIfInBounds_toArray, List.set_cons_zero, List.set_cons_succ]
    refine wpAnyH_take (i := 9) (oi := ({ dst := some 17, op := Op.nilCheck (Operand.tmp 16), type := 0, pos := "letter.go:33", after := #[{ on := 8, ground := Ground.data }, { on := 21, ground := Ground.gcOnly Departure.lateStores }], guard := none })) (v := (.pointer (some ⟨g, 0, none⟩))) rfl (by kernel_rfl) (by kernel_rfl) (by kernel_rfl) (fun _ _ _ h => h) (Or.inl ⟨by rfl, ?_⟩) (by assumption) ?_
    · (intro w hSw; (try dsimp only at hSw); go_simp)
    try simp only [Act.put, List.setIfInBounds_toArray, List.set_cons_zero, List.set_cons_succ]
    refine wpAnyH_take (i := 10) (oi := ({ dst := some 18, op := Op.fieldAddr 25 (Operand.tmp 17) 3, type := 0, pos := "letter.go:33", after := #[{ on := 9, ground := Ground.data }, { on := 21, ground := Ground.gcOnly Departure.lateStores }], guard := none })) (v := (.pointer (some ⟨g, 3, none⟩))) rfl (by kernel_rfl) (by kernel_rfl) (by kernel_rfl) (fun _ _ _ h => h) (Or.inl ⟨by rfl, ?_⟩) (by assumption) ?_
    · (intro w hSw; (try dsimp only at hSw); go_simp)
    try simp only [Act.put, List.setIfInBounds_toArray, List.set_cons_zero, List.set_cons_succ]
    refine wpAnyH_take (i := 11) (oi := ({ dst := some 19, op := Op.build 63 #[(0, Operand.const (Value.string { data := #[101, 112, 111, 99, 104] })), (1, Operand.tmp 18)], type := 63, pos := "letter.go:33", after := #[{ on := 10, ground := Ground.data }, { on := 21, ground := Ground.gcOnly Departure.lateStores }], guard := none })) (v := (.agg #[.string ⟨#[101, 112, 111, 99, 104]⟩, .pointer (some ⟨g, 3, none⟩)])) rfl (by kernel_rfl) (by kernel_rfl) (by kernel_rfl) (fun _ _ _ h => h) (Or.inl ⟨by rfl, ?_⟩) (by assumption) ?_
    · (intro w hSw; (try dsimp only at hSw); go_simp)
    try simp only [Act.put, List.setIfInBounds_toArray, List.set_cons_zero, List.set_cons_succ]
    refine wpAnyH_take (i := 12) (oi := ({ dst := some 20, op := Op.load 59 (Operand.tmp 1), type := 59, pos := "letter.go:33", after := #[{ on := 22, ground := Ground.gcOnly Departure.lateStores }], guard := none })) (v := (.pointer (some ⟨g, 0, none⟩))) rfl (by kernel_rfl) (by kernel_rfl) (by kernel_rfl) (fun _ _ _ h => h) (Or.inl ⟨by rfl, ?_⟩) (by assumption) ?_
    · (intro w hSw; (try dsimp only at hSw); go_simp)
    try simp only [Act.put, List.setIfInBounds_toArray, List.set_cons_zero, List.set_cons_succ]
    refine wpAnyH_take (i := 13) (oi := ({ dst := some 21, op := Op.nilCheck (Operand.tmp 20), type := 0, pos := "letter.go:33", after := #[{ on := 12, ground := Ground.data }, { on := 22, ground := Ground.gcOnly Departure.lateStores }], guard := none })) (v := (.pointer (some ⟨g, 0, none⟩))) rfl (by kernel_rfl) (by kernel_rfl) (by kernel_rfl) (fun _ _ _ h => h) (Or.inl ⟨by rfl, ?_⟩) (by assumption) ?_
    · (intro w hSw; (try dsimp only at hSw); go_simp)
    try simp only [Act.put, List.setIfInBounds_toArray, List.set_cons_zero, List.set_cons_succ]
    refine wpAnyH_take (i := 14) (oi := ({ dst := some 22, op := Op.fieldAddr 25 (Operand.tmp 21) 6, type := 0, pos := "letter.go:33", after := #[{ on := 13, ground := Ground.data }, { on := 22, ground := Ground.gcOnly Departure.lateStores }], guard := none })) (v := (.pointer (some ⟨g, 6, none⟩))) rfl (by kernel_rfl) (by kernel_rfl) (by kernel_rfl) (fun _ _ _ h => h) (Or.inl ⟨by rfl, ?_⟩) (by assumption) ?_
    · (intro w hSw; (try dsimp only at hSw); go_simp)
    try simp only [Act.put, List.setIfInBounds_toArray, List.set_cons_zero, List.set_cons_succ]
    refine wpAnyH_take (i := 15) (oi := ({ dst := some 23, op := Op.build 63 #[(0, Operand.const (Value.string { data := #[116, 105, 99, 107] })), (1, Operand.tmp 22)], type := 63, pos := "letter.go:33", after := #[{ on := 14, ground := Ground.data }, { on := 22, ground := Ground.gcOnly Departure.lateStores }], guard := none })) (v := (.agg #[.string ⟨#[116, 105, 99, 107]⟩, .pointer (some ⟨g, 6, none⟩)])) rfl (by kernel_rfl) (by kernel_rfl) (by kernel_rfl) (fun _ _ _ h => h) (Or.inl ⟨by rfl, ?_⟩) (by assumption) ?_
    · (intro w hSw; (try dsimp only at hSw); go_simp)
    try simp only [Act.put, List.setIfInBounds_toArray, List.set_cons_zero, List.set_cons_succ]
    obtain ⟨V0, hV0⟩ : ∃ V, W0.drew = V := ⟨_, rfl⟩
    have Hcb : Hid (V0.cell? ⟨n, 0, none⟩ = some (.pointer (some ⟨g, 0, none⟩))) := Lib.hid (by rw [← hV0]; exact cb)
    have HBL : Hid (Below n w V0) := Lib.hid (by rw [← hV0]; exact HB0.out.drew)
    have HSZ : Hid (n < V0.heap.size) := Lib.hid (by rw [← hV0]; exact HZ0.out)
    rw [hV0] at hHeld ⊢
    clear hV0
    refine wpAnyH_ready (rs := [16, 17, 18, 19]) (by kernel_rfl) (by simp) (AllReadyH.cons (o := ({ dst := some 3, op := Op.alloc 63, type := 0, pos := "letter.go:33", after := #[], guard := none })) rfl (fun K hK => ?_) (AllReadyH.cons (o := ({ dst := some 4, op := Op.alloc 63, type := 0, pos := "letter.go:33", after := #[], guard := none })) rfl (fun K hK => ?_) (AllReadyH.cons (o := ({ dst := some 5, op := Op.alloc 63, type := 0, pos := "letter.go:33", after := #[], guard := none })) rfl (fun K hK => ?_) (AllReadyH.cons (o := ({ dst := some 6, op := Op.alloc 63, type := 0, pos := "letter.go:33", after := #[], guard := none })) rfl (fun K hK => ?_) AllReadyH.nil))))
    · go_simp
      clear hHeld
      replace Hcb := Lib.hid (keepA Hcb.out zPt)
      replace HBL := Lib.hid (HBL.out.alloc (Nat.le_of_lt HSZ.out) zPt)
      have HJ := Lib.hid (Blk.new V0 #[.string ⟨#[]⟩, .pointer none] 63)
      have lJ : n < V0.heap.size := HSZ.out
      replace HSZ := Lib.hid (size_up HSZ.out zPt)
      have hJ := size_self V0 zPt
      refine hK.out _ _ Hcb.out (fun hHeld => ?_)
      clear hK K
      try simp only [Act.put, List.setIfInBounds_toArray, List.set_cons_zero, List.set_cons_succ]
      obtain ⟨XJ, hX⟩ : ∃ X, V0.heap.size = X := ⟨_, rfl⟩
      obtain ⟨V1, hV⟩ : ∃ V, V0.alloc zPt = V := ⟨_, rfl⟩
      rw [hX] at HJ hJ lJ  ⊢
      rw [hV] at hHeld Hcb HBL HSZ HJ hJ ⊢
      clear hX hV
      refine wpAnyH_ready (rs := [17, 18, 19]) (by kernel_rfl) (by simp) (AllReadyH.cons (o := ({ dst := some 4, op := Op.alloc 63, type := 0, pos := "letter.go:33", after := #[], guard := none })) rfl (fun K hK => ?_) (AllReadyH.cons (o := ({ dst := some 5, op := Op.alloc 63, type := 0, pos := "letter.go:33", after := #[], guard := none })) rfl (fun K hK => ?_) (AllReadyH.cons (o := ({ dst := some 6, op := Op.alloc 63, type := 0, pos := "letter.go:33", after := #[], guard := none })) rfl (fun K hK => ?_) AllReadyH.nil)))
      · go_simp
        clear hHeld
        replace Hcb := Lib.hid (keepA Hcb.out zPt)
        replace HBL := Lib.hid (HBL.out.alloc (Nat.le_of_lt HSZ.out) zPt)
        have HI := Lib.hid (Blk.new V1 #[.string ⟨#[]⟩, .pointer none] 63)
        replace HJ := Lib.hid (HJ.out.alloc zPt)
        have lI : n < V1.heap.size := HSZ.out
        have nJI : XJ < V1.heap.size := hJ
        replace HSZ := Lib.hid (size_up HSZ.out zPt)
        replace hJ := size_up hJ zPt
        have hI := size_self V1 zPt
        refine hK.out _ _ Hcb.out (fun hHeld => ?_)
        clear hK K
        try simp only [Act.put, List.setIfInBounds_toArray, List.set_cons_zero, List.set_cons_succ]
        obtain ⟨XI, hX⟩ : ∃ X, V1.heap.size = X := ⟨_, rfl⟩
        obtain ⟨V2, hV⟩ : ∃ V, V1.alloc zPt = V := ⟨_, rfl⟩
        rw [hX] at HI hI lI nJI ⊢
        rw [hV] at hHeld Hcb HBL HSZ HJ hJ HI hI ⊢
        clear hX hV
        refine wpAnyH_ready (rs := [18, 19]) (by kernel_rfl) (by simp) (AllReadyH.cons (o := ({ dst := some 5, op := Op.alloc 63, type := 0, pos := "letter.go:33", after := #[], guard := none })) rfl (fun K hK => ?_) (AllReadyH.cons (o := ({ dst := some 6, op := Op.alloc 63, type := 0, pos := "letter.go:33", after := #[], guard := none })) rfl (fun K hK => ?_) AllReadyH.nil))
        · go_simp
          clear hHeld
          replace Hcb := Lib.hid (keepA Hcb.out zPt)
          replace HBL := Lib.hid (HBL.out.alloc (Nat.le_of_lt HSZ.out) zPt)
          have HE := Lib.hid (Blk.new V2 #[.string ⟨#[]⟩, .pointer none] 63)
          replace HJ := Lib.hid (HJ.out.alloc zPt)
          replace HI := Lib.hid (HI.out.alloc zPt)
          have lE : n < V2.heap.size := HSZ.out
          have nJE : XJ < V2.heap.size := hJ
          have nIE : XI < V2.heap.size := hI
          replace HSZ := Lib.hid (size_up HSZ.out zPt)
          replace hJ := size_up hJ zPt
          replace hI := size_up hI zPt
          have hE := size_self V2 zPt
          refine hK.out _ _ Hcb.out (fun hHeld => ?_)
          clear hK K
          try simp only [Act.put, List.setIfInBounds_toArray, List.set_cons_zero, List.set_cons_succ]
          obtain ⟨XE, hX⟩ : ∃ X, V2.heap.size = X := ⟨_, rfl⟩
          obtain ⟨V3, hV⟩ : ∃ V, V2.alloc zPt = V := ⟨_, rfl⟩
          rw [hX] at HE hE lE nJE nIE ⊢
          rw [hV] at hHeld Hcb HBL HSZ HJ hJ HI hI HE hE ⊢
          clear hX hV
          refine wpAnyH_ready (rs := [19]) (by kernel_rfl) (by simp) (AllReadyH.cons (o := ({ dst := some 6, op := Op.alloc 63, type := 0, pos := "letter.go:33", after := #[], guard := none })) rfl (fun K hK => ?_) AllReadyH.nil)
          go_simp
          clear hHeld
          replace Hcb := Lib.hid (keepA Hcb.out zPt)
          replace HBL := Lib.hid (HBL.out.alloc (Nat.le_of_lt HSZ.out) zPt)
          have HT := Lib.hid (Blk.new V3 #[.string ⟨#[]⟩, .pointer none] 63)
          replace HJ := Lib.hid (HJ.out.alloc zPt)
          replace HI := Lib.hid (HI.out.alloc zPt)
          replace HE := Lib.hid (HE.out.alloc zPt)
          have lT : n < V3.heap.size := HSZ.out
          have nJT : XJ < V3.heap.size := hJ
          have nIT : XI < V3.heap.size := hI
          have nET : XE < V3.heap.size := hE
          replace HSZ := Lib.hid (size_up HSZ.out zPt)
          replace hJ := size_up hJ zPt
          replace hI := size_up hI zPt
          replace hE := size_up hE zPt
          have hT := size_self V3 zPt
          refine hK.out _ _ Hcb.out (fun hHeld => ?_)
          clear hK K
          try simp only [Act.put, List.setIfInBounds_toArray, List.set_cons_zero, List.set_cons_succ]
          obtain ⟨XT, hX⟩ : ∃ X, V3.heap.size = X := ⟨_, rfl⟩
          obtain ⟨V4, hV⟩ : ∃ V, V3.alloc zPt = V := ⟨_, rfl⟩
          rw [hX] at HT hT lT nJT nIT nET ⊢
          rw [hV] at hHeld Hcb HBL HSZ HJ hJ HI hI HE hE HT hT ⊢
          clear hX hV
          refine wpAnyH_ready (rs := [20]) (by kernel_rfl) (by simp) (AllReadyH.cons (o := ({ dst := none, op := Op.store 63 (Operand.tmp 3) (Operand.tmp 11), type := 0, pos := "letter.go:33", after := af20, guard := none })) rfl (fun K hK => ?_) AllReadyH.nil)
          have q0 := HJ.out.cell (i := 0) rfl; have q1 := HJ.out.cell (i := 1) rfl; have qf := HJ.out.free
          go_simp
          clear hHeld q0 q1 qf
          replace Hcb := Lib.hid (cell_set2 Hcb.out (show ¬ XJ = n by omega) sJ (pt g 5))
          replace HBL := Lib.hid (below_set2 HBL.out (show n ≤ XJ by omega) sJ (pt g 5))
          replace HJ := Lib.hid (blk_set2 HJ.out sJ (pt g 5))
          replace HI := Lib.hid (blk_off2 HI.out (show ¬ XJ = XI by omega) sJ (pt g 5))
          replace HE := Lib.hid (blk_off2 HE.out (show ¬ XJ = XE by omega) sJ (pt g 5))
          replace HT := Lib.hid (blk_off2 HT.out (show ¬ XJ = XT by omega) sJ (pt g 5))
          refine hK.out _ _ Hcb.out (fun hHeld => ?_)
          clear hK K
          try simp only [Act.put, List.setIfInBounds_toArray, List.set_cons_zero, List.set_cons_succ]
          obtain ⟨V5, hV⟩ : ∃ V, (V4.setCell ⟨XJ, 0, none⟩ sJ).setCell ⟨XJ, 1, none⟩ (pt g 5) = V := ⟨_, rfl⟩
          rw [hV] at hHeld Hcb HBL HJ HI HE HT ⊢
          clear hV
          refine wpAnyH_ready (rs := [21]) (by kernel_rfl) (by simp) (AllReadyH.cons (o := ({ dst := none, op := Op.store 63 (Operand.tmp 4) (Operand.tmp 15), type := 0, pos := "letter.go:33", after := af21, guard := none })) rfl (fun K hK => ?_) AllReadyH.nil)
          have q0 := HI.out.cell (i := 0) rfl; have q1 := HI.out.cell (i := 1) rfl; have qf := HI.out.free
          go_simp
          clear hHeld q0 q1 qf
          replace Hcb := Lib.hid (cell_set2 Hcb.out (show ¬ XI = n by omega) sI (pt g 4))
          replace HBL := Lib.hid (below_set2 HBL.out (show n ≤ XI by omega) sI (pt g 4))
          replace HI := Lib.hid (blk_set2 HI.out sI (pt g 4))
          replace HJ := Lib.hid (blk_off2 HJ.out (show ¬ XI = XJ by omega) sI (pt g 4))
          replace HE := Lib.hid (blk_off2 HE.out (show ¬ XI = XE by omega) sI (pt g 4))
          replace HT := Lib.hid (blk_off2 HT.out (show ¬ XI = XT by omega) sI (pt g 4))
          refine hK.out _ _ Hcb.out (fun hHeld => ?_)
          clear hK K
          try simp only [Act.put, List.setIfInBounds_toArray, List.set_cons_zero, List.set_cons_succ]
          obtain ⟨V6, hV⟩ : ∃ V, (V5.setCell ⟨XI, 0, none⟩ sI).setCell ⟨XI, 1, none⟩ (pt g 4) = V := ⟨_, rfl⟩
          rw [hV] at hHeld Hcb HBL HJ HI HE HT ⊢
          clear hV
          refine wpAnyH_ready (rs := [22]) (by kernel_rfl) (by simp) (AllReadyH.cons (o := ({ dst := none, op := Op.store 63 (Operand.tmp 5) (Operand.tmp 19), type := 0, pos := "letter.go:33", after := af22, guard := none })) rfl (fun K hK => ?_) AllReadyH.nil)
          have q0 := HE.out.cell (i := 0) rfl; have q1 := HE.out.cell (i := 1) rfl; have qf := HE.out.free
          go_simp
          clear hHeld q0 q1 qf
          replace Hcb := Lib.hid (cell_set2 Hcb.out (show ¬ XE = n by omega) sE (pt g 3))
          replace HBL := Lib.hid (below_set2 HBL.out (show n ≤ XE by omega) sE (pt g 3))
          replace HE := Lib.hid (blk_set2 HE.out sE (pt g 3))
          replace HJ := Lib.hid (blk_off2 HJ.out (show ¬ XE = XJ by omega) sE (pt g 3))
          replace HI := Lib.hid (blk_off2 HI.out (show ¬ XE = XI by omega) sE (pt g 3))
          replace HT := Lib.hid (blk_off2 HT.out (show ¬ XE = XT by omega) sE (pt g 3))
          refine hK.out _ _ Hcb.out (fun hHeld => ?_)
          clear hK K
          try simp only [Act.put, List.setIfInBounds_toArray, List.set_cons_zero, List.set_cons_succ]
          obtain ⟨V7, hV⟩ : ∃ V, (V6.setCell ⟨XE, 0, none⟩ sE).setCell ⟨XE, 1, none⟩ (pt g 3) = V := ⟨_, rfl⟩
          rw [hV] at hHeld Hcb HBL HJ HI HE HT ⊢
          clear hV
          refine wpAnyH_ready (rs := [23]) (by kernel_rfl) (by simp) (AllReadyH.cons (o := ({ dst := none, op := Op.store 63 (Operand.tmp 6) (Operand.tmp 23), type := 0, pos := "letter.go:33", after := af23, guard := none })) rfl (fun K hK => ?_) AllReadyH.nil)
          have q0 := HT.out.cell (i := 0) rfl; have q1 := HT.out.cell (i := 1) rfl; have qf := HT.out.free
          go_simp
          clear hHeld q0 q1 qf
          replace Hcb := Lib.hid (cell_set2 Hcb.out (show ¬ XT = n by omega) sT (pt g 6))
          replace HBL := Lib.hid (below_set2 HBL.out (show n ≤ XT by omega) sT (pt g 6))
          replace HT := Lib.hid (blk_set2 HT.out sT (pt g 6))
          replace HJ := Lib.hid (blk_off2 HJ.out (show ¬ XT = XJ by omega) sT (pt g 6))
          replace HI := Lib.hid (blk_off2 HI.out (show ¬ XT = XI by omega) sT (pt g 6))
          replace HE := Lib.hid (blk_off2 HE.out (show ¬ XT = XE by omega) sT (pt g 6))
          refine hK.out _ _ Hcb.out (fun hHeld => ?_)
          clear hK K
          try simp only [Act.put, List.setIfInBounds_toArray, List.set_cons_zero, List.set_cons_succ]
          obtain ⟨V8, hV⟩ : ∃ V, (V7.setCell ⟨XT, 0, none⟩ sT).setCell ⟨XT, 1, none⟩ (pt g 6) = V := ⟨_, rfl⟩
          rw [hV] at hHeld Hcb HBL HJ HI HE HT ⊢
          clear hV
          refine wpAnyH_done (by kernel_rfl) ?_ _
          clear hHeld
          go_wp2_with fail
          go_meet
          exact ⟨XJ, XI, XE, XT, rfl, rfl, rfl, rfl, HJ.out, HI.out, HE.out, HT.out, Hcb.out, HBL.out, lJ, lI, lE, lT⟩
        · go_simp
          clear hHeld
          replace Hcb := Lib.hid (keepA Hcb.out zPt)
          replace HBL := Lib.hid (HBL.out.alloc (Nat.le_of_lt HSZ.out) zPt)
          have HT := Lib.hid (Blk.new V2 #[.string ⟨#[]⟩, .pointer none] 63)
          replace HJ := Lib.hid (HJ.out.alloc zPt)
          replace HI := Lib.hid (HI.out.alloc zPt)
          have lT : n < V2.heap.size := HSZ.out
          have nJT : XJ < V2.heap.size := hJ
          have nIT : XI < V2.heap.size := hI
          replace HSZ := Lib.hid (size_up HSZ.out zPt)
          replace hJ := size_up hJ zPt
          replace hI := size_up hI zPt
          have hT := size_self V2 zPt
          refine hK.out _ _ Hcb.out (fun hHeld => ?_)
          clear hK K
          try simp only [Act.put, List.setIfInBounds_toArray, List.set_cons_zero, List.set_cons_succ]
          obtain ⟨XT, hX⟩ : ∃ X, V2.heap.size = X := ⟨_, rfl⟩
          obtain ⟨V3, hV⟩ : ∃ V, V2.alloc zPt = V := ⟨_, rfl⟩
          rw [hX] at HT hT lT nJT nIT ⊢
          rw [hV] at hHeld Hcb HBL HSZ HJ hJ HI hI HT hT ⊢
          clear hX hV
          refine wpAnyH_ready (rs := [18]) (by kernel_rfl) (by simp) (AllReadyH.cons (o := ({ dst := some 5, op := Op.alloc 63, type := 0, pos := "letter.go:33", after := #[], guard := none })) rfl (fun K hK => ?_) AllReadyH.nil)
          go_simp
          clear hHeld
          replace Hcb := Lib.hid (keepA Hcb.out zPt)
          replace HBL := Lib.hid (HBL.out.alloc (Nat.le_of_lt HSZ.out) zPt)
          have HE := Lib.hid (Blk.new V3 #[.string ⟨#[]⟩, .pointer none] 63)
          replace HJ := Lib.hid (HJ.out.alloc zPt)
          replace HI := Lib.hid (HI.out.alloc zPt)
          replace HT := Lib.hid (HT.out.alloc zPt)
          have lE : n < V3.heap.size := HSZ.out
          have nJE : XJ < V3.heap.size := hJ
          have nIE : XI < V3.heap.size := hI
          have nTE : XT < V3.heap.size := hT
          replace HSZ := Lib.hid (size_up HSZ.out zPt)
          replace hJ := size_up hJ zPt
          replace hI := size_up hI zPt
          replace hT := size_up hT zPt
          have hE := size_self V3 zPt
          refine hK.out _ _ Hcb.out (fun hHeld => ?_)
          clear hK K
          try simp only [Act.put, List.setIfInBounds_toArray, List.set_cons_zero, List.set_cons_succ]
          obtain ⟨XE, hX⟩ : ∃ X, V3.heap.size = X := ⟨_, rfl⟩
          obtain ⟨V4, hV⟩ : ∃ V, V3.alloc zPt = V := ⟨_, rfl⟩
          rw [hX] at HE hE lE nJE nIE nTE ⊢
          rw [hV] at hHeld Hcb HBL HSZ HJ hJ HI hI HT hT HE hE ⊢
          clear hX hV
          refine wpAnyH_ready (rs := [20]) (by kernel_rfl) (by simp) (AllReadyH.cons (o := ({ dst := none, op := Op.store 63 (Operand.tmp 3) (Operand.tmp 11), type := 0, pos := "letter.go:33", after := af20, guard := none })) rfl (fun K hK => ?_) AllReadyH.nil)
          have q0 := HJ.out.cell (i := 0) rfl; have q1 := HJ.out.cell (i := 1) rfl; have qf := HJ.out.free
          go_simp
          clear hHeld q0 q1 qf
          replace Hcb := Lib.hid (cell_set2 Hcb.out (show ¬ XJ = n by omega) sJ (pt g 5))
          replace HBL := Lib.hid (below_set2 HBL.out (show n ≤ XJ by omega) sJ (pt g 5))
          replace HJ := Lib.hid (blk_set2 HJ.out sJ (pt g 5))
          replace HI := Lib.hid (blk_off2 HI.out (show ¬ XJ = XI by omega) sJ (pt g 5))
          replace HE := Lib.hid (blk_off2 HE.out (show ¬ XJ = XE by omega) sJ (pt g 5))
          replace HT := Lib.hid (blk_off2 HT.out (show ¬ XJ = XT by omega) sJ (pt g 5))
          refine hK.out _ _ Hcb.out (fun hHeld => ?_)
          clear hK K
          try simp only [Act.put, List.setIfInBounds_toArray, List.set_cons_zero, List.set_cons_succ]
          obtain ⟨V5, hV⟩ : ∃ V, (V4.setCell ⟨XJ, 0, none⟩ sJ).setCell ⟨XJ, 1, none⟩ (pt g 5) = V := ⟨_, rfl⟩
          rw [hV] at hHeld Hcb HBL HJ HI HE HT ⊢
          clear hV
          refine wpAnyH_ready (rs := [21]) (by kernel_rfl) (by simp) (AllReadyH.cons (o := ({ dst := none, op := Op.store 63 (Operand.tmp 4) (Operand.tmp 15), type := 0, pos := "letter.go:33", after := af21, guard := none })) rfl (fun K hK => ?_) AllReadyH.nil)
          have q0 := HI.out.cell (i := 0) rfl; have q1 := HI.out.cell (i := 1) rfl; have qf := HI.out.free
          go_simp
          clear hHeld q0 q1 qf
          replace Hcb := Lib.hid (cell_set2 Hcb.out (show ¬ XI = n by omega) sI (pt g 4))
          replace HBL := Lib.hid (below_set2 HBL.out (show n ≤ XI by omega) sI (pt g 4))
          replace HI := Lib.hid (blk_set2 HI.out sI (pt g 4))
          replace HJ := Lib.hid (blk_off2 HJ.out (show ¬ XI = XJ by omega) sI (pt g 4))
          replace HE := Lib.hid (blk_off2 HE.out (show ¬ XI = XE by omega) sI (pt g 4))
          replace HT := Lib.hid (blk_off2 HT.out (show ¬ XI = XT by omega) sI (pt g 4))
          refine hK.out _ _ Hcb.out (fun hHeld => ?_)
          clear hK K
          try simp only [Act.put, List.setIfInBounds_toArray, List.set_cons_zero, List.set_cons_succ]
          obtain ⟨V6, hV⟩ : ∃ V, (V5.setCell ⟨XI, 0, none⟩ sI).setCell ⟨XI, 1, none⟩ (pt g 4) = V := ⟨_, rfl⟩
          rw [hV] at hHeld Hcb HBL HJ HI HE HT ⊢
          clear hV
          refine wpAnyH_ready (rs := [22]) (by kernel_rfl) (by simp) (AllReadyH.cons (o := ({ dst := none, op := Op.store 63 (Operand.tmp 5) (Operand.tmp 19), type := 0, pos := "letter.go:33", after := af22, guard := none })) rfl (fun K hK => ?_) AllReadyH.nil)
          have q0 := HE.out.cell (i := 0) rfl; have q1 := HE.out.cell (i := 1) rfl; have qf := HE.out.free
          go_simp
          clear hHeld q0 q1 qf
          replace Hcb := Lib.hid (cell_set2 Hcb.out (show ¬ XE = n by omega) sE (pt g 3))
          replace HBL := Lib.hid (below_set2 HBL.out (show n ≤ XE by omega) sE (pt g 3))
          replace HE := Lib.hid (blk_set2 HE.out sE (pt g 3))
          replace HJ := Lib.hid (blk_off2 HJ.out (show ¬ XE = XJ by omega) sE (pt g 3))
          replace HI := Lib.hid (blk_off2 HI.out (show ¬ XE = XI by omega) sE (pt g 3))
          replace HT := Lib.hid (blk_off2 HT.out (show ¬ XE = XT by omega) sE (pt g 3))
          refine hK.out _ _ Hcb.out (fun hHeld => ?_)
          clear hK K
          try simp only [Act.put, List.setIfInBounds_toArray, List.set_cons_zero, List.set_cons_succ]
          obtain ⟨V7, hV⟩ : ∃ V, (V6.setCell ⟨XE, 0, none⟩ sE).setCell ⟨XE, 1, none⟩ (pt g 3) = V := ⟨_, rfl⟩
          rw [hV] at hHeld Hcb HBL HJ HI HE HT ⊢
          clear hV
          refine wpAnyH_ready (rs := [23]) (by kernel_rfl) (by simp) (AllReadyH.cons (o := ({ dst := none, op := Op.store 63 (Operand.tmp 6) (Operand.tmp 23), type := 0, pos := "letter.go:33", after := af23, guard := none })) rfl (fun K hK => ?_) AllReadyH.nil)
          have q0 := HT.out.cell (i := 0) rfl; have q1 := HT.out.cell (i := 1) rfl; have qf := HT.out.free
          go_simp
          clear hHeld q0 q1 qf
          replace Hcb := Lib.hid (cell_set2 Hcb.out (show ¬ XT = n by omega) sT (pt g 6))
          replace HBL := Lib.hid (below_set2 HBL.out (show n ≤ XT by omega) sT (pt g 6))
          replace HT := Lib.hid (blk_set2 HT.out sT (pt g 6))
          replace HJ := Lib.hid (blk_off2 HJ.out (show ¬ XT = XJ by omega) sT (pt g 6))
          replace HI := Lib.hid (blk_off2 HI.out (show ¬ XT = XI by omega) sT (pt g 6))
          replace HE := Lib.hid (blk_off2 HE.out (show ¬ XT = XE by omega) sT (pt g 6))
          refine hK.out _ _ Hcb.out (fun hHeld => ?_)
          clear hK K
          try simp only [Act.put, List.setIfInBounds_toArray, List.set_cons_zero, List.set_cons_succ]
          obtain ⟨V8, hV⟩ : ∃ V, (V7.setCell ⟨XT, 0, none⟩ sT).setCell ⟨XT, 1, none⟩ (pt g 6) = V := ⟨_, rfl⟩
          rw [hV] at hHeld Hcb HBL HJ HI HE HT ⊢
          clear hV
          refine wpAnyH_done (by kernel_rfl) ?_ _
          clear hHeld
          go_wp2_with fail
          go_meet
          exact ⟨XJ, XI, XE, XT, rfl, rfl, rfl, rfl, HJ.out, HI.out, HE.out, HT.out, Hcb.out, HBL.out, lJ, lI, lE, lT⟩
      · go_simp
        clear hHeld
        replace Hcb := Lib.hid (keepA Hcb.out zPt)
        replace HBL := Lib.hid (HBL.out.alloc (Nat.le_of_lt HSZ.out) zPt)
        have HE := Lib.hid (Blk.new V1 #[.string ⟨#[]⟩, .pointer none] 63)
        replace HJ := Lib.hid (HJ.out.alloc zPt)
        have lE : n < V1.heap.size := HSZ.out
        have nJE : XJ < V1.heap.size := hJ
        replace HSZ := Lib.hid (size_up HSZ.out zPt)
        replace hJ := size_up hJ zPt
        have hE := size_self V1 zPt
        refine hK.out _ _ Hcb.out (fun hHeld => ?_)
        clear hK K
        try simp only [Act.put, List.setIfInBounds_toArray, List.set_cons_zero, List.set_cons_succ]
        obtain ⟨XE, hX⟩ : ∃ X, V1.heap.size = X := ⟨_, rfl⟩
        obtain ⟨V2, hV⟩ : ∃ V, V1.alloc zPt = V := ⟨_, rfl⟩
        rw [hX] at HE hE lE nJE ⊢
        rw [hV] at hHeld Hcb HBL HSZ HJ hJ HE hE ⊢
        clear hX hV
        refine wpAnyH_ready (rs := [17, 19]) (by kernel_rfl) (by simp) (AllReadyH.cons (o := ({ dst := some 4, op := Op.alloc 63, type := 0, pos := "letter.go:33", after := #[], guard := none })) rfl (fun K hK => ?_) (AllReadyH.cons (o := ({ dst := some 6, op := Op.alloc 63, type := 0, pos := "letter.go:33", after := #[], guard := none })) rfl (fun K hK => ?_) AllReadyH.nil))
        · go_simp
          clear hHeld
          replace Hcb := Lib.hid (keepA Hcb.out zPt)
          replace HBL := Lib.hid (HBL.out.alloc (Nat.le_of_lt HSZ.out) zPt)
          have HI := Lib.hid (Blk.new V2 #[.string ⟨#[]⟩, .pointer none] 63)
          replace HJ := Lib.hid (HJ.out.alloc zPt)
          replace HE := Lib.hid (HE.out.alloc zPt)
          have lI : n < V2.heap.size := HSZ.out
          have nJI : XJ < V2.heap.size := hJ
          have nEI : XE < V2.heap.size := hE
          replace HSZ := Lib.hid (size_up HSZ.out zPt)
          replace hJ := size_up hJ zPt
          replace hE := size_up hE zPt
          have hI := size_self V2 zPt
          refine hK.out _ _ Hcb.out (fun hHeld => ?_)
          clear hK K
          try simp only [Act.put, List.setIfInBounds_toArray, List.set_cons_zero, List.set_cons_succ]
          obtain ⟨XI, hX⟩ : ∃ X, V2.heap.size = X := ⟨_, rfl⟩
          obtain ⟨V3, hV⟩ : ∃ V, V2.alloc zPt = V := ⟨_, rfl⟩
          rw [hX] at HI hI lI nJI nEI ⊢
          rw [hV] at hHeld Hcb HBL HSZ HJ hJ HE hE HI hI ⊢
          clear hX hV
          refine wpAnyH_ready (rs := [19]) (by kernel_rfl) (by simp) (AllReadyH.cons (o := ({ dst := some 6, op := Op.alloc 63, type := 0, pos := "letter.go:33", after := #[], guard := none })) rfl (fun K hK => ?_) AllReadyH.nil)
          go_simp
          clear hHeld
          replace Hcb := Lib.hid (keepA Hcb.out zPt)
          replace HBL := Lib.hid (HBL.out.alloc (Nat.le_of_lt HSZ.out) zPt)
          have HT := Lib.hid (Blk.new V3 #[.string ⟨#[]⟩, .pointer none] 63)
          replace HJ := Lib.hid (HJ.out.alloc zPt)
          replace HE := Lib.hid (HE.out.alloc zPt)
          replace HI := Lib.hid (HI.out.alloc zPt)
          have lT : n < V3.heap.size := HSZ.out
          have nJT : XJ < V3.heap.size := hJ
          have nET : XE < V3.heap.size := hE
          have nIT : XI < V3.heap.size := hI
          replace HSZ := Lib.hid (size_up HSZ.out zPt)
          replace hJ := size_up hJ zPt
          replace hE := size_up hE zPt
          replace hI := size_up hI zPt
          have hT := size_self V3 zPt
          refine hK.out _ _ Hcb.out (fun hHeld => ?_)
          clear hK K
          try simp only [Act.put, List.setIfInBounds_toArray, List.set_cons_zero, List.set_cons_succ]
          obtain ⟨XT, hX⟩ : ∃ X, V3.heap.size = X := ⟨_, rfl⟩
          obtain ⟨V4, hV⟩ : ∃ V, V3.alloc zPt = V := ⟨_, rfl⟩
          rw [hX] at HT hT lT nJT nET nIT ⊢
          rw [hV] at hHeld Hcb HBL HSZ HJ hJ HE hE HI hI HT hT ⊢
          clear hX hV
          refine wpAnyH_ready (rs := [20]) (by kernel_rfl) (by simp) (AllReadyH.cons (o := ({ dst := none, op := Op.store 63 (Operand.tmp 3) (Operand.tmp 11), type := 0, pos := "letter.go:33", after := af20, guard := none })) rfl (fun K hK => ?_) AllReadyH.nil)
          have q0 := HJ.out.cell (i := 0) rfl; have q1 := HJ.out.cell (i := 1) rfl; have qf := HJ.out.free
          go_simp
          clear hHeld q0 q1 qf
          replace Hcb := Lib.hid (cell_set2 Hcb.out (show ¬ XJ = n by omega) sJ (pt g 5))
          replace HBL := Lib.hid (below_set2 HBL.out (show n ≤ XJ by omega) sJ (pt g 5))
          replace HJ := Lib.hid (blk_set2 HJ.out sJ (pt g 5))
          replace HI := Lib.hid (blk_off2 HI.out (show ¬ XJ = XI by omega) sJ (pt g 5))
          replace HE := Lib.hid (blk_off2 HE.out (show ¬ XJ = XE by omega) sJ (pt g 5))
          replace HT := Lib.hid (blk_off2 HT.out (show ¬ XJ = XT by omega) sJ (pt g 5))
          refine hK.out _ _ Hcb.out (fun hHeld => ?_)
          clear hK K
          try simp only [Act.put, List.setIfInBounds_toArray, List.set_cons_zero, List.set_cons_succ]
          obtain ⟨V5, hV⟩ : ∃ V, (V4.setCell ⟨XJ, 0, none⟩ sJ).setCell ⟨XJ, 1, none⟩ (pt g 5) = V := ⟨_, rfl⟩
          rw [hV] at hHeld Hcb HBL HJ HI HE HT ⊢
          clear hV
          refine wpAnyH_ready (rs := [21]) (by kernel_rfl) (by simp) (AllReadyH.cons (o := ({ dst := none, op := Op.store 63 (Operand.tmp 4) (Operand.tmp 15), type := 0, pos := "letter.go:33", after := af21, guard := none })) rfl (fun K hK => ?_) AllReadyH.nil)
          have q0 := HI.out.cell (i := 0) rfl; have q1 := HI.out.cell (i := 1) rfl; have qf := HI.out.free
          go_simp
          clear hHeld q0 q1 qf
          replace Hcb := Lib.hid (cell_set2 Hcb.out (show ¬ XI = n by omega) sI (pt g 4))
          replace HBL := Lib.hid (below_set2 HBL.out (show n ≤ XI by omega) sI (pt g 4))
          replace HI := Lib.hid (blk_set2 HI.out sI (pt g 4))
          replace HJ := Lib.hid (blk_off2 HJ.out (show ¬ XI = XJ by omega) sI (pt g 4))
          replace HE := Lib.hid (blk_off2 HE.out (show ¬ XI = XE by omega) sI (pt g 4))
          replace HT := Lib.hid (blk_off2 HT.out (show ¬ XI = XT by omega) sI (pt g 4))
          refine hK.out _ _ Hcb.out (fun hHeld => ?_)
          clear hK K
          try simp only [Act.put, List.setIfInBounds_toArray, List.set_cons_zero, List.set_cons_succ]
          obtain ⟨V6, hV⟩ : ∃ V, (V5.setCell ⟨XI, 0, none⟩ sI).setCell ⟨XI, 1, none⟩ (pt g 4) = V := ⟨_, rfl⟩
          rw [hV] at hHeld Hcb HBL HJ HI HE HT ⊢
          clear hV
          refine wpAnyH_ready (rs := [22]) (by kernel_rfl) (by simp) (AllReadyH.cons (o := ({ dst := none, op := Op.store 63 (Operand.tmp 5) (Operand.tmp 19), type := 0, pos := "letter.go:33", after := af22, guard := none })) rfl (fun K hK => ?_) AllReadyH.nil)
          have q0 := HE.out.cell (i := 0) rfl; have q1 := HE.out.cell (i := 1) rfl; have qf := HE.out.free
          go_simp
          clear hHeld q0 q1 qf
          replace Hcb := Lib.hid (cell_set2 Hcb.out (show ¬ XE = n by omega) sE (pt g 3))
          replace HBL := Lib.hid (below_set2 HBL.out (show n ≤ XE by omega) sE (pt g 3))
          replace HE := Lib.hid (blk_set2 HE.out sE (pt g 3))
          replace HJ := Lib.hid (blk_off2 HJ.out (show ¬ XE = XJ by omega) sE (pt g 3))
          replace HI := Lib.hid (blk_off2 HI.out (show ¬ XE = XI by omega) sE (pt g 3))
          replace HT := Lib.hid (blk_off2 HT.out (show ¬ XE = XT by omega) sE (pt g 3))
          refine hK.out _ _ Hcb.out (fun hHeld => ?_)
          clear hK K
          try simp only [Act.put, List.setIfInBounds_toArray, List.set_cons_zero, List.set_cons_succ]
          obtain ⟨V7, hV⟩ : ∃ V, (V6.setCell ⟨XE, 0, none⟩ sE).setCell ⟨XE, 1, none⟩ (pt g 3) = V := ⟨_, rfl⟩
          rw [hV] at hHeld Hcb HBL HJ HI HE HT ⊢
          clear hV
          refine wpAnyH_ready (rs := [23]) (by kernel_rfl) (by simp) (AllReadyH.cons (o := ({ dst := none, op := Op.store 63 (Operand.tmp 6) (Operand.tmp 23), type := 0, pos := "letter.go:33", after := af23, guard := none })) rfl (fun K hK => ?_) AllReadyH.nil)
          have q0 := HT.out.cell (i := 0) rfl; have q1 := HT.out.cell (i := 1) rfl; have qf := HT.out.free
          go_simp
          clear hHeld q0 q1 qf
          replace Hcb := Lib.hid (cell_set2 Hcb.out (show ¬ XT = n by omega) sT (pt g 6))
          replace HBL := Lib.hid (below_set2 HBL.out (show n ≤ XT by omega) sT (pt g 6))
          replace HT := Lib.hid (blk_set2 HT.out sT (pt g 6))
          replace HJ := Lib.hid (blk_off2 HJ.out (show ¬ XT = XJ by omega) sT (pt g 6))
          replace HI := Lib.hid (blk_off2 HI.out (show ¬ XT = XI by omega) sT (pt g 6))
          replace HE := Lib.hid (blk_off2 HE.out (show ¬ XT = XE by omega) sT (pt g 6))
          refine hK.out _ _ Hcb.out (fun hHeld => ?_)
          clear hK K
          try simp only [Act.put, List.setIfInBounds_toArray, List.set_cons_zero, List.set_cons_succ]
          obtain ⟨V8, hV⟩ : ∃ V, (V7.setCell ⟨XT, 0, none⟩ sT).setCell ⟨XT, 1, none⟩ (pt g 6) = V := ⟨_, rfl⟩
          rw [hV] at hHeld Hcb HBL HJ HI HE HT ⊢
          clear hV
          refine wpAnyH_done (by kernel_rfl) ?_ _
          clear hHeld
          go_wp2_with fail
          go_meet
          exact ⟨XJ, XI, XE, XT, rfl, rfl, rfl, rfl, HJ.out, HI.out, HE.out, HT.out, Hcb.out, HBL.out, lJ, lI, lE, lT⟩
        · go_simp
          clear hHeld
          replace Hcb := Lib.hid (keepA Hcb.out zPt)
          replace HBL := Lib.hid (HBL.out.alloc (Nat.le_of_lt HSZ.out) zPt)
          have HT := Lib.hid (Blk.new V2 #[.string ⟨#[]⟩, .pointer none] 63)
          replace HJ := Lib.hid (HJ.out.alloc zPt)
          replace HE := Lib.hid (HE.out.alloc zPt)
          have lT : n < V2.heap.size := HSZ.out
          have nJT : XJ < V2.heap.size := hJ
          have nET : XE < V2.heap.size := hE
          replace HSZ := Lib.hid (size_up HSZ.out zPt)
          replace hJ := size_up hJ zPt
          replace hE := size_up hE zPt
          have hT := size_self V2 zPt
          refine hK.out _ _ Hcb.out (fun hHeld => ?_)
          clear hK K
          try simp only [Act.put, List.setIfInBounds_toArray, List.set_cons_zero, List.set_cons_succ]
          obtain ⟨XT, hX⟩ : ∃ X, V2.heap.size = X := ⟨_, rfl⟩
          obtain ⟨V3, hV⟩ : ∃ V, V2.alloc zPt = V := ⟨_, rfl⟩
          rw [hX] at HT hT lT nJT nET ⊢
          rw [hV] at hHeld Hcb HBL HSZ HJ hJ HE hE HT hT ⊢
          clear hX hV
          refine wpAnyH_ready (rs := [17]) (by kernel_rfl) (by simp) (AllReadyH.cons (o := ({ dst := some 4, op := Op.alloc 63, type := 0, pos := "letter.go:33", after := #[], guard := none })) rfl (fun K hK => ?_) AllReadyH.nil)
          go_simp
          clear hHeld
          replace Hcb := Lib.hid (keepA Hcb.out zPt)
          replace HBL := Lib.hid (HBL.out.alloc (Nat.le_of_lt HSZ.out) zPt)
          have HI := Lib.hid (Blk.new V3 #[.string ⟨#[]⟩, .pointer none] 63)
          replace HJ := Lib.hid (HJ.out.alloc zPt)
          replace HE := Lib.hid (HE.out.alloc zPt)
          replace HT := Lib.hid (HT.out.alloc zPt)
          have lI : n < V3.heap.size := HSZ.out
          have nJI : XJ < V3.heap.size := hJ
          have nEI : XE < V3.heap.size := hE
          have nTI : XT < V3.heap.size := hT
          replace HSZ := Lib.hid (size_up HSZ.out zPt)
          replace hJ := size_up hJ zPt
          replace hE := size_up hE zPt
          replace hT := size_up hT zPt
          have hI := size_self V3 zPt
          refine hK.out _ _ Hcb.out (fun hHeld => ?_)
          clear hK K
          try simp only [Act.put, List.setIfInBounds_toArray, List.set_cons_zero, List.set_cons_succ]
          obtain ⟨XI, hX⟩ : ∃ X, V3.heap.size = X := ⟨_, rfl⟩
          obtain ⟨V4, hV⟩ : ∃ V, V3.alloc zPt = V := ⟨_, rfl⟩
          rw [hX] at HI hI lI nJI nEI nTI ⊢
          rw [hV] at hHeld Hcb HBL HSZ HJ hJ HE hE HT hT HI hI ⊢
          clear hX hV
          refine wpAnyH_ready (rs := [20]) (by kernel_rfl) (by simp) (AllReadyH.cons (o := ({ dst := none, op := Op.store 63 (Operand.tmp 3) (Operand.tmp 11), type := 0, pos := "letter.go:33", after := af20, guard := none })) rfl (fun K hK => ?_) AllReadyH.nil)
          have q0 := HJ.out.cell (i := 0) rfl; have q1 := HJ.out.cell (i := 1) rfl; have qf := HJ.out.free
          go_simp
          clear hHeld q0 q1 qf
          replace Hcb := Lib.hid (cell_set2 Hcb.out (show ¬ XJ = n by omega) sJ (pt g 5))
          replace HBL := Lib.hid (below_set2 HBL.out (show n ≤ XJ by omega) sJ (pt g 5))
          replace HJ := Lib.hid (blk_set2 HJ.out sJ (pt g 5))
          replace HI := Lib.hid (blk_off2 HI.out (show ¬ XJ = XI by omega) sJ (pt g 5))
          replace HE := Lib.hid (blk_off2 HE.out (show ¬ XJ = XE by omega) sJ (pt g 5))
          replace HT := Lib.hid (blk_off2 HT.out (show ¬ XJ = XT by omega) sJ (pt g 5))
          refine hK.out _ _ Hcb.out (fun hHeld => ?_)
          clear hK K
          try simp only [Act.put, List.setIfInBounds_toArray, List.set_cons_zero, List.set_cons_succ]
          obtain ⟨V5, hV⟩ : ∃ V, (V4.setCell ⟨XJ, 0, none⟩ sJ).setCell ⟨XJ, 1, none⟩ (pt g 5) = V := ⟨_, rfl⟩
          rw [hV] at hHeld Hcb HBL HJ HI HE HT ⊢
          clear hV
          refine wpAnyH_ready (rs := [21]) (by kernel_rfl) (by simp) (AllReadyH.cons (o := ({ dst := none, op := Op.store 63 (Operand.tmp 4) (Operand.tmp 15), type := 0, pos := "letter.go:33", after := af21, guard := none })) rfl (fun K hK => ?_) AllReadyH.nil)
          have q0 := HI.out.cell (i := 0) rfl; have q1 := HI.out.cell (i := 1) rfl; have qf := HI.out.free
          go_simp
          clear hHeld q0 q1 qf
          replace Hcb := Lib.hid (cell_set2 Hcb.out (show ¬ XI = n by omega) sI (pt g 4))
          replace HBL := Lib.hid (below_set2 HBL.out (show n ≤ XI by omega) sI (pt g 4))
          replace HI := Lib.hid (blk_set2 HI.out sI (pt g 4))
          replace HJ := Lib.hid (blk_off2 HJ.out (show ¬ XI = XJ by omega) sI (pt g 4))
          replace HE := Lib.hid (blk_off2 HE.out (show ¬ XI = XE by omega) sI (pt g 4))
          replace HT := Lib.hid (blk_off2 HT.out (show ¬ XI = XT by omega) sI (pt g 4))
          refine hK.out _ _ Hcb.out (fun hHeld => ?_)
          clear hK K
          try simp only [Act.put, List.setIfInBounds_toArray, List.set_cons_zero, List.set_cons_succ]
          obtain ⟨V6, hV⟩ : ∃ V, (V5.setCell ⟨XI, 0, none⟩ sI).setCell ⟨XI, 1, none⟩ (pt g 4) = V := ⟨_, rfl⟩
          rw [hV] at hHeld Hcb HBL HJ HI HE HT ⊢
          clear hV
          refine wpAnyH_ready (rs := [22]) (by kernel_rfl) (by simp) (AllReadyH.cons (o := ({ dst := none, op := Op.store 63 (Operand.tmp 5) (Operand.tmp 19), type := 0, pos := "letter.go:33", after := af22, guard := none })) rfl (fun K hK => ?_) AllReadyH.nil)
          have q0 := HE.out.cell (i := 0) rfl; have q1 := HE.out.cell (i := 1) rfl; have qf := HE.out.free
          go_simp
          clear hHeld q0 q1 qf
          replace Hcb := Lib.hid (cell_set2 Hcb.out (show ¬ XE = n by omega) sE (pt g 3))
          replace HBL := Lib.hid (below_set2 HBL.out (show n ≤ XE by omega) sE (pt g 3))
          replace HE := Lib.hid (blk_set2 HE.out sE (pt g 3))
          replace HJ := Lib.hid (blk_off2 HJ.out (show ¬ XE = XJ by omega) sE (pt g 3))
          replace HI := Lib.hid (blk_off2 HI.out (show ¬ XE = XI by omega) sE (pt g 3))
          replace HT := Lib.hid (blk_off2 HT.out (show ¬ XE = XT by omega) sE (pt g 3))
          refine hK.out _ _ Hcb.out (fun hHeld => ?_)
          clear hK K
          try simp only [Act.put, List.setIfInBounds_toArray, List.set_cons_zero, List.set_cons_succ]
          obtain ⟨V7, hV⟩ : ∃ V, (V6.setCell ⟨XE, 0, none⟩ sE).setCell ⟨XE, 1, none⟩ (pt g 3) = V := ⟨_, rfl⟩
          rw [hV] at hHeld Hcb HBL HJ HI HE HT ⊢
          clear hV
          refine wpAnyH_ready (rs := [23]) (by kernel_rfl) (by simp) (AllReadyH.cons (o := ({ dst := none, op := Op.store 63 (Operand.tmp 6) (Operand.tmp 23), type := 0, pos := "letter.go:33", after := af23, guard := none })) rfl (fun K hK => ?_) AllReadyH.nil)
          have q0 := HT.out.cell (i := 0) rfl; have q1 := HT.out.cell (i := 1) rfl; have qf := HT.out.free
          go_simp
          clear hHeld q0 q1 qf
          replace Hcb := Lib.hid (cell_set2 Hcb.out (show ¬ XT = n by omega) sT (pt g 6))
          replace HBL := Lib.hid (below_set2 HBL.out (show n ≤ XT by omega) sT (pt g 6))
          replace HT := Lib.hid (blk_set2 HT.out sT (pt g 6))
          replace HJ := Lib.hid (blk_off2 HJ.out (show ¬ XT = XJ by omega) sT (pt g 6))
          replace HI := Lib.hid (blk_off2 HI.out (show ¬ XT = XI by omega) sT (pt g 6))
          replace HE := Lib.hid (blk_off2 HE.out (show ¬ XT = XE by omega) sT (pt g 6))
          refine hK.out _ _ Hcb.out (fun hHeld => ?_)
          clear hK K
          try simp only [Act.put, List.setIfInBounds_toArray, List.set_cons_zero, List.set_cons_succ]
          obtain ⟨V8, hV⟩ : ∃ V, (V7.setCell ⟨XT, 0, none⟩ sT).setCell ⟨XT, 1, none⟩ (pt g 6) = V := ⟨_, rfl⟩
          rw [hV] at hHeld Hcb HBL HJ HI HE HT ⊢
          clear hV
          refine wpAnyH_done (by kernel_rfl) ?_ _
          clear hHeld
          go_wp2_with fail
          go_meet
          exact ⟨XJ, XI, XE, XT, rfl, rfl, rfl, rfl, HJ.out, HI.out, HE.out, HT.out, Hcb.out, HBL.out, lJ, lI, lE, lT⟩
      · go_simp
        clear hHeld
        replace Hcb := Lib.hid (keepA Hcb.out zPt)
        replace HBL := Lib.hid (HBL.out.alloc (Nat.le_of_lt HSZ.out) zPt)
        have HT := Lib.hid (Blk.new V1 #[.string ⟨#[]⟩, .pointer none] 63)
        replace HJ := Lib.hid (HJ.out.alloc zPt)
        have lT : n < V1.heap.size := HSZ.out
        have nJT : XJ < V1.heap.size := hJ
        replace HSZ := Lib.hid (size_up HSZ.out zPt)
        replace hJ := size_up hJ zPt
        have hT := size_self V1 zPt
        refine hK.out _ _ Hcb.out (fun hHeld => ?_)
        clear hK K
        try simp only [Act.put, List.setIfInBounds_toArray, List.set_cons_zero, List.set_cons_succ]
        obtain ⟨XT, hX⟩ : ∃ X, V1.heap.size = X := ⟨_, rfl⟩
        obtain ⟨V2, hV⟩ : ∃ V, V1.alloc zPt = V := ⟨_, rfl⟩
        rw [hX] at HT hT lT nJT ⊢
        rw [hV] at hHeld Hcb HBL HSZ HJ hJ HT hT ⊢
        clear hX hV
        refine wpAnyH_ready (rs := [17, 18]) (by kernel_rfl) (by simp) (AllReadyH.cons (o := ({ dst := some 4, op := Op.alloc 63, type := 0, pos := "letter.go:33", after := #[], guard := none })) rfl (fun K hK => ?_) (AllReadyH.cons (o := ({ dst := some 5, op := Op.alloc 63, type := 0, pos := "letter.go:33", after := #[], guard := none })) rfl (fun K hK => ?_) AllReadyH.nil))
        · go_simp
          clear hHeld
          replace Hcb := Lib.hid (keepA Hcb.out zPt)
          replace HBL := Lib.hid (HBL.out.alloc (Nat.le_of_lt HSZ.out) zPt)
          have HI := Lib.hid (Blk.new V2 #[.string ⟨#[]⟩, .pointer none] 63)
          replace HJ := Lib.hid (HJ.out.alloc zPt)
          replace HT := Lib.hid (HT.out.alloc zPt)
          have lI : n < V2.heap.size := HSZ.out
          have nJI : XJ < V2.heap.size := hJ
          have nTI : XT < V2.heap.size := hT
          replace HSZ := Lib.hid (size_up HSZ.out zPt)
          replace hJ := size_up hJ zPt
          replace hT := size_up hT zPt
          have hI := size_self V2 zPt
          refine hK.out _ _ Hcb.out (fun hHeld => ?_)
          clear hK K
          try simp only [Act.put, List.setIfInBounds_toArray, List.set_cons_zero, List.set_cons_succ]
          obtain ⟨XI, hX⟩ : ∃ X, V2.heap.size = X := ⟨_, rfl⟩
          obtain ⟨V3, hV⟩ : ∃ V, V2.alloc zPt = V := ⟨_, rfl⟩
          rw [hX] at HI hI lI nJI nTI ⊢
          rw [hV] at hHeld Hcb HBL HSZ HJ hJ HT hT HI hI ⊢
          clear hX hV
          refine wpAnyH_ready (rs := [18]) (by kernel_rfl) (by simp) (AllReadyH.cons (o := ({ dst := some 5, op := Op.alloc 63, type := 0, pos := "letter.go:33", after := #[], guard := none })) rfl (fun K hK => ?_) AllReadyH.nil)
          go_simp
          clear hHeld
          replace Hcb := Lib.hid (keepA Hcb.out zPt)
          replace HBL := Lib.hid (HBL.out.alloc (Nat.le_of_lt HSZ.out) zPt)
          have HE := Lib.hid (Blk.new V3 #[.string ⟨#[]⟩, .pointer none] 63)
          replace HJ := Lib.hid (HJ.out.alloc zPt)
          replace HT := Lib.hid (HT.out.alloc zPt)
          replace HI := Lib.hid (HI.out.alloc zPt)
          have lE : n < V3.heap.size := HSZ.out
          have nJE : XJ < V3.heap.size := hJ
          have nTE : XT < V3.heap.size := hT
          have nIE : XI < V3.heap.size := hI
          replace HSZ := Lib.hid (size_up HSZ.out zPt)
          replace hJ := size_up hJ zPt
          replace hT := size_up hT zPt
          replace hI := size_up hI zPt
          have hE := size_self V3 zPt
          refine hK.out _ _ Hcb.out (fun hHeld => ?_)
          clear hK K
          try simp only [Act.put, List.setIfInBounds_toArray, List.set_cons_zero, List.set_cons_succ]
          obtain ⟨XE, hX⟩ : ∃ X, V3.heap.size = X := ⟨_, rfl⟩
          obtain ⟨V4, hV⟩ : ∃ V, V3.alloc zPt = V := ⟨_, rfl⟩
          rw [hX] at HE hE lE nJE nTE nIE ⊢
          rw [hV] at hHeld Hcb HBL HSZ HJ hJ HT hT HI hI HE hE ⊢
          clear hX hV
          refine wpAnyH_ready (rs := [20]) (by kernel_rfl) (by simp) (AllReadyH.cons (o := ({ dst := none, op := Op.store 63 (Operand.tmp 3) (Operand.tmp 11), type := 0, pos := "letter.go:33", after := af20, guard := none })) rfl (fun K hK => ?_) AllReadyH.nil)
          have q0 := HJ.out.cell (i := 0) rfl; have q1 := HJ.out.cell (i := 1) rfl; have qf := HJ.out.free
          go_simp
          clear hHeld q0 q1 qf
          replace Hcb := Lib.hid (cell_set2 Hcb.out (show ¬ XJ = n by omega) sJ (pt g 5))
          replace HBL := Lib.hid (below_set2 HBL.out (show n ≤ XJ by omega) sJ (pt g 5))
          replace HJ := Lib.hid (blk_set2 HJ.out sJ (pt g 5))
          replace HI := Lib.hid (blk_off2 HI.out (show ¬ XJ = XI by omega) sJ (pt g 5))
          replace HE := Lib.hid (blk_off2 HE.out (show ¬ XJ = XE by omega) sJ (pt g 5))
          replace HT := Lib.hid (blk_off2 HT.out (show ¬ XJ = XT by omega) sJ (pt g 5))
          refine hK.out _ _ Hcb.out (fun hHeld => ?_)
          clear hK K
          try simp only [Act.put, List.setIfInBounds_toArray, List.set_cons_zero, List.set_cons_succ]
          obtain ⟨V5, hV⟩ : ∃ V, (V4.setCell ⟨XJ, 0, none⟩ sJ).setCell ⟨XJ, 1, none⟩ (pt g 5) = V := ⟨_, rfl⟩
          rw [hV] at hHeld Hcb HBL HJ HI HE HT ⊢
          clear hV
          refine wpAnyH_ready (rs := [21]) (by kernel_rfl) (by simp) (AllReadyH.cons (o := ({ dst := none, op := Op.store 63 (Operand.tmp 4) (Operand.tmp 15), type := 0, pos := "letter.go:33", after := af21, guard := none })) rfl (fun K hK => ?_) AllReadyH.nil)
          have q0 := HI.out.cell (i := 0) rfl; have q1 := HI.out.cell (i := 1) rfl; have qf := HI.out.free
          go_simp
          clear hHeld q0 q1 qf
          replace Hcb := Lib.hid (cell_set2 Hcb.out (show ¬ XI = n by omega) sI (pt g 4))
          replace HBL := Lib.hid (below_set2 HBL.out (show n ≤ XI by omega) sI (pt g 4))
          replace HI := Lib.hid (blk_set2 HI.out sI (pt g 4))
          replace HJ := Lib.hid (blk_off2 HJ.out (show ¬ XI = XJ by omega) sI (pt g 4))
          replace HE := Lib.hid (blk_off2 HE.out (show ¬ XI = XE by omega) sI (pt g 4))
          replace HT := Lib.hid (blk_off2 HT.out (show ¬ XI = XT by omega) sI (pt g 4))
          refine hK.out _ _ Hcb.out (fun hHeld => ?_)
          clear hK K
          try simp only [Act.put, List.setIfInBounds_toArray, List.set_cons_zero, List.set_cons_succ]
          obtain ⟨V6, hV⟩ : ∃ V, (V5.setCell ⟨XI, 0, none⟩ sI).setCell ⟨XI, 1, none⟩ (pt g 4) = V := ⟨_, rfl⟩
          rw [hV] at hHeld Hcb HBL HJ HI HE HT ⊢
          clear hV
          refine wpAnyH_ready (rs := [22]) (by kernel_rfl) (by simp) (AllReadyH.cons (o := ({ dst := none, op := Op.store 63 (Operand.tmp 5) (Operand.tmp 19), type := 0, pos := "letter.go:33", after := af22, guard := none })) rfl (fun K hK => ?_) AllReadyH.nil)
          have q0 := HE.out.cell (i := 0) rfl; have q1 := HE.out.cell (i := 1) rfl; have qf := HE.out.free
          go_simp
          clear hHeld q0 q1 qf
          replace Hcb := Lib.hid (cell_set2 Hcb.out (show ¬ XE = n by omega) sE (pt g 3))
          replace HBL := Lib.hid (below_set2 HBL.out (show n ≤ XE by omega) sE (pt g 3))
          replace HE := Lib.hid (blk_set2 HE.out sE (pt g 3))
          replace HJ := Lib.hid (blk_off2 HJ.out (show ¬ XE = XJ by omega) sE (pt g 3))
          replace HI := Lib.hid (blk_off2 HI.out (show ¬ XE = XI by omega) sE (pt g 3))
          replace HT := Lib.hid (blk_off2 HT.out (show ¬ XE = XT by omega) sE (pt g 3))
          refine hK.out _ _ Hcb.out (fun hHeld => ?_)
          clear hK K
          try simp only [Act.put, List.setIfInBounds_toArray, List.set_cons_zero, List.set_cons_succ]
          obtain ⟨V7, hV⟩ : ∃ V, (V6.setCell ⟨XE, 0, none⟩ sE).setCell ⟨XE, 1, none⟩ (pt g 3) = V := ⟨_, rfl⟩
          rw [hV] at hHeld Hcb HBL HJ HI HE HT ⊢
          clear hV
          refine wpAnyH_ready (rs := [23]) (by kernel_rfl) (by simp) (AllReadyH.cons (o := ({ dst := none, op := Op.store 63 (Operand.tmp 6) (Operand.tmp 23), type := 0, pos := "letter.go:33", after := af23, guard := none })) rfl (fun K hK => ?_) AllReadyH.nil)
          have q0 := HT.out.cell (i := 0) rfl; have q1 := HT.out.cell (i := 1) rfl; have qf := HT.out.free
          go_simp
          clear hHeld q0 q1 qf
          replace Hcb := Lib.hid (cell_set2 Hcb.out (show ¬ XT = n by omega) sT (pt g 6))
          replace HBL := Lib.hid (below_set2 HBL.out (show n ≤ XT by omega) sT (pt g 6))
          replace HT := Lib.hid (blk_set2 HT.out sT (pt g 6))
          replace HJ := Lib.hid (blk_off2 HJ.out (show ¬ XT = XJ by omega) sT (pt g 6))
          replace HI := Lib.hid (blk_off2 HI.out (show ¬ XT = XI by omega) sT (pt g 6))
          replace HE := Lib.hid (blk_off2 HE.out (show ¬ XT = XE by omega) sT (pt g 6))
          refine hK.out _ _ Hcb.out (fun hHeld => ?_)
          clear hK K
          try simp only [Act.put, List.setIfInBounds_toArray, List.set_cons_zero, List.set_cons_succ]
          obtain ⟨V8, hV⟩ : ∃ V, (V7.setCell ⟨XT, 0, none⟩ sT).setCell ⟨XT, 1, none⟩ (pt g 6) = V := ⟨_, rfl⟩
          rw [hV] at hHeld Hcb HBL HJ HI HE HT ⊢
          clear hV
          refine wpAnyH_done (by kernel_rfl) ?_ _
          clear hHeld
          go_wp2_with fail
          go_meet
          exact ⟨XJ, XI, XE, XT, rfl, rfl, rfl, rfl, HJ.out, HI.out, HE.out, HT.out, Hcb.out, HBL.out, lJ, lI, lE, lT⟩
        · go_simp
          clear hHeld
          replace Hcb := Lib.hid (keepA Hcb.out zPt)
          replace HBL := Lib.hid (HBL.out.alloc (Nat.le_of_lt HSZ.out) zPt)
          have HE := Lib.hid (Blk.new V2 #[.string ⟨#[]⟩, .pointer none] 63)
          replace HJ := Lib.hid (HJ.out.alloc zPt)
          replace HT := Lib.hid (HT.out.alloc zPt)
          have lE : n < V2.heap.size := HSZ.out
          have nJE : XJ < V2.heap.size := hJ
          have nTE : XT < V2.heap.size := hT
          replace HSZ := Lib.hid (size_up HSZ.out zPt)
          replace hJ := size_up hJ zPt
          replace hT := size_up hT zPt
          have hE := size_self V2 zPt
          refine hK.out _ _ Hcb.out (fun hHeld => ?_)
          clear hK K
          try simp only [Act.put, List.setIfInBounds_toArray, List.set_cons_zero, List.set_cons_succ]
          obtain ⟨XE, hX⟩ : ∃ X, V2.heap.size = X := ⟨_, rfl⟩
          obtain ⟨V3, hV⟩ : ∃ V, V2.alloc zPt = V := ⟨_, rfl⟩
          rw [hX] at HE hE lE nJE nTE ⊢
          rw [hV] at hHeld Hcb HBL HSZ HJ hJ HT hT HE hE ⊢
          clear hX hV
          refine wpAnyH_ready (rs := [17]) (by kernel_rfl) (by simp) (AllReadyH.cons (o := ({ dst := some 4, op := Op.alloc 63, type := 0, pos := "letter.go:33", after := #[], guard := none })) rfl (fun K hK => ?_) AllReadyH.nil)
          go_simp
          clear hHeld
          replace Hcb := Lib.hid (keepA Hcb.out zPt)
          replace HBL := Lib.hid (HBL.out.alloc (Nat.le_of_lt HSZ.out) zPt)
          have HI := Lib.hid (Blk.new V3 #[.string ⟨#[]⟩, .pointer none] 63)
          replace HJ := Lib.hid (HJ.out.alloc zPt)
          replace HT := Lib.hid (HT.out.alloc zPt)
          replace HE := Lib.hid (HE.out.alloc zPt)
          have lI : n < V3.heap.size := HSZ.out
          have nJI : XJ < V3.heap.size := hJ
          have nTI : XT < V3.heap.size := hT
          have nEI : XE < V3.heap.size := hE
          replace HSZ := Lib.hid (size_up HSZ.out zPt)
          replace hJ := size_up hJ zPt
          replace hT := size_up hT zPt
          replace hE := size_up hE zPt
          have hI := size_self V3 zPt
          refine hK.out _ _ Hcb.out (fun hHeld => ?_)
          clear hK K
          try simp only [Act.put, List.setIfInBounds_toArray, List.set_cons_zero, List.set_cons_succ]
          obtain ⟨XI, hX⟩ : ∃ X, V3.heap.size = X := ⟨_, rfl⟩
          obtain ⟨V4, hV⟩ : ∃ V, V3.alloc zPt = V := ⟨_, rfl⟩
          rw [hX] at HI hI lI nJI nTI nEI ⊢
          rw [hV] at hHeld Hcb HBL HSZ HJ hJ HT hT HE hE HI hI ⊢
          clear hX hV
          refine wpAnyH_ready (rs := [20]) (by kernel_rfl) (by simp) (AllReadyH.cons (o := ({ dst := none, op := Op.store 63 (Operand.tmp 3) (Operand.tmp 11), type := 0, pos := "letter.go:33", after := af20, guard := none })) rfl (fun K hK => ?_) AllReadyH.nil)
          have q0 := HJ.out.cell (i := 0) rfl; have q1 := HJ.out.cell (i := 1) rfl; have qf := HJ.out.free
          go_simp
          clear hHeld q0 q1 qf
          replace Hcb := Lib.hid (cell_set2 Hcb.out (show ¬ XJ = n by omega) sJ (pt g 5))
          replace HBL := Lib.hid (below_set2 HBL.out (show n ≤ XJ by omega) sJ (pt g 5))
          replace HJ := Lib.hid (blk_set2 HJ.out sJ (pt g 5))
          replace HI := Lib.hid (blk_off2 HI.out (show ¬ XJ = XI by omega) sJ (pt g 5))
          replace HE := Lib.hid (blk_off2 HE.out (show ¬ XJ = XE by omega) sJ (pt g 5))
          replace HT := Lib.hid (blk_off2 HT.out (show ¬ XJ = XT by omega) sJ (pt g 5))
          refine hK.out _ _ Hcb.out (fun hHeld => ?_)
          clear hK K
          try simp only [Act.put, List.setIfInBounds_toArray, List.set_cons_zero, List.set_cons_succ]
          obtain ⟨V5, hV⟩ : ∃ V, (V4.setCell ⟨XJ, 0, none⟩ sJ).setCell ⟨XJ, 1, none⟩ (pt g 5) = V := ⟨_, rfl⟩
          rw [hV] at hHeld Hcb HBL HJ HI HE HT ⊢
          clear hV
          refine wpAnyH_ready (rs := [21]) (by kernel_rfl) (by simp) (AllReadyH.cons (o := ({ dst := none, op := Op.store 63 (Operand.tmp 4) (Operand.tmp 15), type := 0, pos := "letter.go:33", after := af21, guard := none })) rfl (fun K hK => ?_) AllReadyH.nil)
          have q0 := HI.out.cell (i := 0) rfl; have q1 := HI.out.cell (i := 1) rfl; have qf := HI.out.free
          go_simp
          clear hHeld q0 q1 qf
          replace Hcb := Lib.hid (cell_set2 Hcb.out (show ¬ XI = n by omega) sI (pt g 4))
          replace HBL := Lib.hid (below_set2 HBL.out (show n ≤ XI by omega) sI (pt g 4))
          replace HI := Lib.hid (blk_set2 HI.out sI (pt g 4))
          replace HJ := Lib.hid (blk_off2 HJ.out (show ¬ XI = XJ by omega) sI (pt g 4))
          replace HE := Lib.hid (blk_off2 HE.out (show ¬ XI = XE by omega) sI (pt g 4))
          replace HT := Lib.hid (blk_off2 HT.out (show ¬ XI = XT by omega) sI (pt g 4))
          refine hK.out _ _ Hcb.out (fun hHeld => ?_)
          clear hK K
          try simp only [Act.put, List.setIfInBounds_toArray, List.set_cons_zero, List.set_cons_succ]
          obtain ⟨V6, hV⟩ : ∃ V, (V5.setCell ⟨XI, 0, none⟩ sI).setCell ⟨XI, 1, none⟩ (pt g 4) = V := ⟨_, rfl⟩
          rw [hV] at hHeld Hcb HBL HJ HI HE HT ⊢
          clear hV
          refine wpAnyH_ready (rs := [22]) (by kernel_rfl) (by simp) (AllReadyH.cons (o := ({ dst := none, op := Op.store 63 (Operand.tmp 5) (Operand.tmp 19), type := 0, pos := "letter.go:33", after := af22, guard := none })) rfl (fun K hK => ?_) AllReadyH.nil)
          have q0 := HE.out.cell (i := 0) rfl; have q1 := HE.out.cell (i := 1) rfl; have qf := HE.out.free
          go_simp
          clear hHeld q0 q1 qf
          replace Hcb := Lib.hid (cell_set2 Hcb.out (show ¬ XE = n by omega) sE (pt g 3))
          replace HBL := Lib.hid (below_set2 HBL.out (show n ≤ XE by omega) sE (pt g 3))
          replace HE := Lib.hid (blk_set2 HE.out sE (pt g 3))
          replace HJ := Lib.hid (blk_off2 HJ.out (show ¬ XE = XJ by omega) sE (pt g 3))
          replace HI := Lib.hid (blk_off2 HI.out (show ¬ XE = XI by omega) sE (pt g 3))
          replace HT := Lib.hid (blk_off2 HT.out (show ¬ XE = XT by omega) sE (pt g 3))
          refine hK.out _ _ Hcb.out (fun hHeld => ?_)
          clear hK K
          try simp only [Act.put, List.setIfInBounds_toArray, List.set_cons_zero, List.set_cons_succ]
          obtain ⟨V7, hV⟩ : ∃ V, (V6.setCell ⟨XE, 0, none⟩ sE).setCell ⟨XE, 1, none⟩ (pt g 3) = V := ⟨_, rfl⟩
          rw [hV] at hHeld Hcb HBL HJ HI HE HT ⊢
          clear hV
          refine wpAnyH_ready (rs := [23]) (by kernel_rfl) (by simp) (AllReadyH.cons (o := ({ dst := none, op := Op.store 63 (Operand.tmp 6) (Operand.tmp 23), type := 0, pos := "letter.go:33", after := af23, guard := none })) rfl (fun K hK => ?_) AllReadyH.nil)
          have q0 := HT.out.cell (i := 0) rfl; have q1 := HT.out.cell (i := 1) rfl; have qf := HT.out.free
          go_simp
          clear hHeld q0 q1 qf
          replace Hcb := Lib.hid (cell_set2 Hcb.out (show ¬ XT = n by omega) sT (pt g 6))
          replace HBL := Lib.hid (below_set2 HBL.out (show n ≤ XT by omega) sT (pt g 6))
          replace HT := Lib.hid (blk_set2 HT.out sT (pt g 6))
          replace HJ := Lib.hid (blk_off2 HJ.out (show ¬ XT = XJ by omega) sT (pt g 6))
          replace HI := Lib.hid (blk_off2 HI.out (show ¬ XT = XI by omega) sT (pt g 6))
          replace HE := Lib.hid (blk_off2 HE.out (show ¬ XT = XE by omega) sT (pt g 6))
          refine hK.out _ _ Hcb.out (fun hHeld => ?_)
          clear hK K
          try simp only [Act.put, List.setIfInBounds_toArray, List.set_cons_zero, List.set_cons_succ]
          obtain ⟨V8, hV⟩ : ∃ V, (V7.setCell ⟨XT, 0, none⟩ sT).setCell ⟨XT, 1, none⟩ (pt g 6) = V := ⟨_, rfl⟩
          rw [hV] at hHeld Hcb HBL HJ HI HE HT ⊢
          clear hV
          refine wpAnyH_done (by kernel_rfl) ?_ _
          clear hHeld
          go_wp2_with fail
          go_meet
          exact ⟨XJ, XI, XE, XT, rfl, rfl, rfl, rfl, HJ.out, HI.out, HE.out, HT.out, Hcb.out, HBL.out, lJ, lI, lE, lT⟩
    · go_simp
      clear hHeld
      replace Hcb := Lib.hid (keepA Hcb.out zPt)
      replace HBL := Lib.hid (HBL.out.alloc (Nat.le_of_lt HSZ.out) zPt)
      have HI := Lib.hid (Blk.new V0 #[.string ⟨#[]⟩, .pointer none] 63)
      have lI : n < V0.heap.size := HSZ.out
      replace HSZ := Lib.hid (size_up HSZ.out zPt)
      have hI := size_self V0 zPt
      refine hK.out _ _ Hcb.out (fun hHeld => ?_)
      clear hK K
      try simp only [Act.put, List.setIfInBounds_toArray, List.set_cons_zero, List.set_cons_succ]
      obtain ⟨XI, hX⟩ : ∃ X, V0.heap.size = X := ⟨_, rfl⟩
      obtain ⟨V1, hV⟩ : ∃ V, V0.alloc zPt = V := ⟨_, rfl⟩
      rw [hX] at HI hI lI  ⊢
      rw [hV] at hHeld Hcb HBL HSZ HI hI ⊢
      clear hX hV
      refine wpAnyH_ready (rs := [16, 18, 19]) (by kernel_rfl) (by simp) (AllReadyH.cons (o := ({ dst := some 3, op := Op.alloc 63, type := 0, pos := "letter.go:33", after := #[], guard := none })) rfl (fun K hK => ?_) (AllReadyH.cons (o := ({ dst := some 5, op := Op.alloc 63, type := 0, pos := "letter.go:33", after := #[], guard := none })) rfl (fun K hK => ?_) (AllReadyH.cons (o := ({ dst := some 6, op := Op.alloc 63, type := 0, pos := "letter.go:33", after := #[], guard := none })) rfl (fun K hK => ?_) AllReadyH.nil)))
      · go_simp
        clear hHeld
        replace Hcb := Lib.hid (keepA Hcb.out zPt)
        replace HBL := Lib.hid (HBL.out.alloc (Nat.le_of_lt HSZ.out) zPt)
        have HJ := Lib.hid (Blk.new V1 #[.string ⟨#[]⟩, .pointer none] 63)
        replace HI := Lib.hid (HI.out.alloc zPt)
        have lJ : n < V1.heap.size := HSZ.out
        have nIJ : XI < V1.heap.size := hI
        replace HSZ := Lib.hid (size_up HSZ.out zPt)
        replace hI := size_up hI zPt
        have hJ := size_self V1 zPt
        refine hK.out _ _ Hcb.out (fun hHeld => ?_)
        clear hK K
        try simp only [Act.put, List.setIfInBounds_toArray, List.set_cons_zero, List.set_cons_succ]
        obtain ⟨XJ, hX⟩ : ∃ X, V1.heap.size = X := ⟨_, rfl⟩
        obtain ⟨V2, hV⟩ : ∃ V, V1.alloc zPt = V := ⟨_, rfl⟩
        rw [hX] at HJ hJ lJ nIJ ⊢
        rw [hV] at hHeld Hcb HBL HSZ HI hI HJ hJ ⊢
        clear hX hV
        refine wpAnyH_ready (rs := [18, 19]) (by kernel_rfl) (by simp) (AllReadyH.cons (o := ({ dst := some 5, op := Op.alloc 63, type := 0, pos := "letter.go:33", after := #[], guard := none })) rfl (fun K hK => ?_) (AllReadyH.cons (o := ({ dst := some 6, op := Op.alloc 63, type := 0, pos := "letter.go:33", after := #[], guard := none })) rfl (fun K hK => ?_) AllReadyH.nil))
        · go_simp
          clear hHeld
          replace Hcb := Lib.hid (keepA Hcb.out zPt)
          replace HBL := Lib.hid (HBL.out.alloc (Nat.le_of_lt HSZ.out) zPt)
          have HE := Lib.hid (Blk.new V2 #[.string ⟨#[]⟩, .pointer none] 63)
          replace HI := Lib.hid (HI.out.alloc zPt)
          replace HJ := Lib.hid (HJ.out.alloc zPt)
          have lE : n < V2.heap.size := HSZ.out
          have nIE : XI < V2.heap.size := hI
          have nJE : XJ < V2.heap.size := hJ
          replace HSZ := Lib.hid (size_up HSZ.out zPt)
          replace hI := size_up hI zPt
          replace hJ := size_up hJ zPt
          have hE := size_self V2 zPt
          refine hK.out _ _ Hcb.out (fun hHeld => ?_)
          clear hK K
          try simp only [Act.put, List.setIfInBounds_toArray, List.set_cons_zero, List.set_cons_succ]
          obtain ⟨XE, hX⟩ : ∃ X, V2.heap.size = X := ⟨_, rfl⟩
          obtain ⟨V3, hV⟩ : ∃ V, V2.alloc zPt = V := ⟨_, rfl⟩
          rw [hX] at HE hE lE nIE nJE ⊢
          rw [hV] at hHeld Hcb HBL HSZ HI hI HJ hJ HE hE ⊢
          clear hX hV
          refine wpAnyH_ready (rs := [19]) (by kernel_rfl) (by simp) (AllReadyH.cons (o := ({ dst := some 6, op := Op.alloc 63, type := 0, pos := "letter.go:33", after := #[], guard := none })) rfl (fun K hK => ?_) AllReadyH.nil)
          go_simp
          clear hHeld
          replace Hcb := Lib.hid (keepA Hcb.out zPt)
          replace HBL := Lib.hid (HBL.out.alloc (Nat.le_of_lt HSZ.out) zPt)
          have HT := Lib.hid (Blk.new V3 #[.string ⟨#[]⟩, .pointer none] 63)
          replace HI := Lib.hid (HI.out.alloc zPt)
          replace HJ := Lib.hid (HJ.out.alloc zPt)
          replace HE := Lib.hid (HE.out.alloc zPt)
          have lT : n < V3.heap.size := HSZ.out
          have nIT : XI < V3.heap.size := hI
          have nJT : XJ < V3.heap.size := hJ
          have nET : XE < V3.heap.size := hE
          replace HSZ := Lib.hid (size_up HSZ.out zPt)
          replace hI := size_up hI zPt
          replace hJ := size_up hJ zPt
          replace hE := size_up hE zPt
          have hT := size_self V3 zPt
          refine hK.out _ _ Hcb.out (fun hHeld => ?_)
          clear hK K
          try simp only [Act.put, List.setIfInBounds_toArray, List.set_cons_zero, List.set_cons_succ]
          obtain ⟨XT, hX⟩ : ∃ X, V3.heap.size = X := ⟨_, rfl⟩
          obtain ⟨V4, hV⟩ : ∃ V, V3.alloc zPt = V := ⟨_, rfl⟩
          rw [hX] at HT hT lT nIT nJT nET ⊢
          rw [hV] at hHeld Hcb HBL HSZ HI hI HJ hJ HE hE HT hT ⊢
          clear hX hV
          refine wpAnyH_ready (rs := [20]) (by kernel_rfl) (by simp) (AllReadyH.cons (o := ({ dst := none, op := Op.store 63 (Operand.tmp 3) (Operand.tmp 11), type := 0, pos := "letter.go:33", after := af20, guard := none })) rfl (fun K hK => ?_) AllReadyH.nil)
          have q0 := HJ.out.cell (i := 0) rfl; have q1 := HJ.out.cell (i := 1) rfl; have qf := HJ.out.free
          go_simp
          clear hHeld q0 q1 qf
          replace Hcb := Lib.hid (cell_set2 Hcb.out (show ¬ XJ = n by omega) sJ (pt g 5))
          replace HBL := Lib.hid (below_set2 HBL.out (show n ≤ XJ by omega) sJ (pt g 5))
          replace HJ := Lib.hid (blk_set2 HJ.out sJ (pt g 5))
          replace HI := Lib.hid (blk_off2 HI.out (show ¬ XJ = XI by omega) sJ (pt g 5))
          replace HE := Lib.hid (blk_off2 HE.out (show ¬ XJ = XE by omega) sJ (pt g 5))
          replace HT := Lib.hid (blk_off2 HT.out (show ¬ XJ = XT by omega) sJ (pt g 5))
          refine hK.out _ _ Hcb.out (fun hHeld => ?_)
          clear hK K
          try simp only [Act.put, List.setIfInBounds_toArray, List.set_cons_zero, List.set_cons_succ]
          obtain ⟨V5, hV⟩ : ∃ V, (V4.setCell ⟨XJ, 0, none⟩ sJ).setCell ⟨XJ, 1, none⟩ (pt g 5) = V := ⟨_, rfl⟩
          rw [hV] at hHeld Hcb HBL HJ HI HE HT ⊢
          clear hV
          refine wpAnyH_ready (rs := [21]) (by kernel_rfl) (by simp) (AllReadyH.cons (o := ({ dst := none, op := Op.store 63 (Operand.tmp 4) (Operand.tmp 15), type := 0, pos := "letter.go:33", after := af21, guard := none })) rfl (fun K hK => ?_) AllReadyH.nil)
          have q0 := HI.out.cell (i := 0) rfl; have q1 := HI.out.cell (i := 1) rfl; have qf := HI.out.free
          go_simp
          clear hHeld q0 q1 qf
          replace Hcb := Lib.hid (cell_set2 Hcb.out (show ¬ XI = n by omega) sI (pt g 4))
          replace HBL := Lib.hid (below_set2 HBL.out (show n ≤ XI by omega) sI (pt g 4))
          replace HI := Lib.hid (blk_set2 HI.out sI (pt g 4))
          replace HJ := Lib.hid (blk_off2 HJ.out (show ¬ XI = XJ by omega) sI (pt g 4))
          replace HE := Lib.hid (blk_off2 HE.out (show ¬ XI = XE by omega) sI (pt g 4))
          replace HT := Lib.hid (blk_off2 HT.out (show ¬ XI = XT by omega) sI (pt g 4))
          refine hK.out _ _ Hcb.out (fun hHeld => ?_)
          clear hK K
          try simp only [Act.put, List.setIfInBounds_toArray, List.set_cons_zero, List.set_cons_succ]
          obtain ⟨V6, hV⟩ : ∃ V, (V5.setCell ⟨XI, 0, none⟩ sI).setCell ⟨XI, 1, none⟩ (pt g 4) = V := ⟨_, rfl⟩
          rw [hV] at hHeld Hcb HBL HJ HI HE HT ⊢
          clear hV
          refine wpAnyH_ready (rs := [22]) (by kernel_rfl) (by simp) (AllReadyH.cons (o := ({ dst := none, op := Op.store 63 (Operand.tmp 5) (Operand.tmp 19), type := 0, pos := "letter.go:33", after := af22, guard := none })) rfl (fun K hK => ?_) AllReadyH.nil)
          have q0 := HE.out.cell (i := 0) rfl; have q1 := HE.out.cell (i := 1) rfl; have qf := HE.out.free
          go_simp
          clear hHeld q0 q1 qf
          replace Hcb := Lib.hid (cell_set2 Hcb.out (show ¬ XE = n by omega) sE (pt g 3))
          replace HBL := Lib.hid (below_set2 HBL.out (show n ≤ XE by omega) sE (pt g 3))
          replace HE := Lib.hid (blk_set2 HE.out sE (pt g 3))
          replace HJ := Lib.hid (blk_off2 HJ.out (show ¬ XE = XJ by omega) sE (pt g 3))
          replace HI := Lib.hid (blk_off2 HI.out (show ¬ XE = XI by omega) sE (pt g 3))
          replace HT := Lib.hid (blk_off2 HT.out (show ¬ XE = XT by omega) sE (pt g 3))
          refine hK.out _ _ Hcb.out (fun hHeld => ?_)
          clear hK K
          try simp only [Act.put, List.setIfInBounds_toArray, List.set_cons_zero, List.set_cons_succ]
          obtain ⟨V7, hV⟩ : ∃ V, (V6.setCell ⟨XE, 0, none⟩ sE).setCell ⟨XE, 1, none⟩ (pt g 3) = V := ⟨_, rfl⟩
          rw [hV] at hHeld Hcb HBL HJ HI HE HT ⊢
          clear hV
          refine wpAnyH_ready (rs := [23]) (by kernel_rfl) (by simp) (AllReadyH.cons (o := ({ dst := none, op := Op.store 63 (Operand.tmp 6) (Operand.tmp 23), type := 0, pos := "letter.go:33", after := af23, guard := none })) rfl (fun K hK => ?_) AllReadyH.nil)
          have q0 := HT.out.cell (i := 0) rfl; have q1 := HT.out.cell (i := 1) rfl; have qf := HT.out.free
          go_simp
          clear hHeld q0 q1 qf
          replace Hcb := Lib.hid (cell_set2 Hcb.out (show ¬ XT = n by omega) sT (pt g 6))
          replace HBL := Lib.hid (below_set2 HBL.out (show n ≤ XT by omega) sT (pt g 6))
          replace HT := Lib.hid (blk_set2 HT.out sT (pt g 6))
          replace HJ := Lib.hid (blk_off2 HJ.out (show ¬ XT = XJ by omega) sT (pt g 6))
          replace HI := Lib.hid (blk_off2 HI.out (show ¬ XT = XI by omega) sT (pt g 6))
          replace HE := Lib.hid (blk_off2 HE.out (show ¬ XT = XE by omega) sT (pt g 6))
          refine hK.out _ _ Hcb.out (fun hHeld => ?_)
          clear hK K
          try simp only [Act.put, List.setIfInBounds_toArray, List.set_cons_zero, List.set_cons_succ]
          obtain ⟨V8, hV⟩ : ∃ V, (V7.setCell ⟨XT, 0, none⟩ sT).setCell ⟨XT, 1, none⟩ (pt g 6) = V := ⟨_, rfl⟩
          rw [hV] at hHeld Hcb HBL HJ HI HE HT ⊢
          clear hV
          refine wpAnyH_done (by kernel_rfl) ?_ _
          clear hHeld
          go_wp2_with fail
          go_meet
          exact ⟨XJ, XI, XE, XT, rfl, rfl, rfl, rfl, HJ.out, HI.out, HE.out, HT.out, Hcb.out, HBL.out, lJ, lI, lE, lT⟩
        · go_simp
          clear hHeld
          replace Hcb := Lib.hid (keepA Hcb.out zPt)
          replace HBL := Lib.hid (HBL.out.alloc (Nat.le_of_lt HSZ.out) zPt)
          have HT := Lib.hid (Blk.new V2 #[.string ⟨#[]⟩, .pointer none] 63)
          replace HI := Lib.hid (HI.out.alloc zPt)
          replace HJ := Lib.hid (HJ.out.alloc zPt)
          have lT : n < V2.heap.size := HSZ.out
          have nIT : XI < V2.heap.size := hI
          have nJT : XJ < V2.heap.size := hJ
          replace HSZ := Lib.hid (size_up HSZ.out zPt)
          replace hI := size_up hI zPt
          replace hJ := size_up hJ zPt
          have hT := size_self V2 zPt
          refine hK.out _ _ Hcb.out (fun hHeld => ?_)
          clear hK K
          try simp only [Act.put, List.setIfInBounds_toArray, List.set_cons_zero, List.set_cons_succ]
          obtain ⟨XT, hX⟩ : ∃ X, V2.heap.size = X := ⟨_, rfl⟩
          obtain ⟨V3, hV⟩ : ∃ V, V2.alloc zPt = V := ⟨_, rfl⟩
          rw [hX] at HT hT lT nIT nJT ⊢
          rw [hV] at hHeld Hcb HBL HSZ HI hI HJ hJ HT hT ⊢
          clear hX hV
          refine wpAnyH_ready (rs := [18]) (by kernel_rfl) (by simp) (AllReadyH.cons (o := ({ dst := some 5, op := Op.alloc 63, type := 0, pos := "letter.go:33", after := #[], guard := none })) rfl (fun K hK => ?_) AllReadyH.nil)
          go_simp
          clear hHeld
          replace Hcb := Lib.hid (keepA Hcb.out zPt)
          replace HBL := Lib.hid (HBL.out.alloc (Nat.le_of_lt HSZ.out) zPt)
          have HE := Lib.hid (Blk.new V3 #[.string ⟨#[]⟩, .pointer none] 63)
          replace HI := Lib.hid (HI.out.alloc zPt)
          replace HJ := Lib.hid (HJ.out.alloc zPt)
          replace HT := Lib.hid (HT.out.alloc zPt)
          have lE : n < V3.heap.size := HSZ.out
          have nIE : XI < V3.heap.size := hI
          have nJE : XJ < V3.heap.size := hJ
          have nTE : XT < V3.heap.size := hT
          replace HSZ := Lib.hid (size_up HSZ.out zPt)
          replace hI := size_up hI zPt
          replace hJ := size_up hJ zPt
          replace hT := size_up hT zPt
          have hE := size_self V3 zPt
          refine hK.out _ _ Hcb.out (fun hHeld => ?_)
          clear hK K
          try simp only [Act.put, List.setIfInBounds_toArray, List.set_cons_zero, List.set_cons_succ]
          obtain ⟨XE, hX⟩ : ∃ X, V3.heap.size = X := ⟨_, rfl⟩
          obtain ⟨V4, hV⟩ : ∃ V, V3.alloc zPt = V := ⟨_, rfl⟩
          rw [hX] at HE hE lE nIE nJE nTE ⊢
          rw [hV] at hHeld Hcb HBL HSZ HI hI HJ hJ HT hT HE hE ⊢
          clear hX hV
          refine wpAnyH_ready (rs := [20]) (by kernel_rfl) (by simp) (AllReadyH.cons (o := ({ dst := none, op := Op.store 63 (Operand.tmp 3) (Operand.tmp 11), type := 0, pos := "letter.go:33", after := af20, guard := none })) rfl (fun K hK => ?_) AllReadyH.nil)
          have q0 := HJ.out.cell (i := 0) rfl; have q1 := HJ.out.cell (i := 1) rfl; have qf := HJ.out.free
          go_simp
          clear hHeld q0 q1 qf
          replace Hcb := Lib.hid (cell_set2 Hcb.out (show ¬ XJ = n by omega) sJ (pt g 5))
          replace HBL := Lib.hid (below_set2 HBL.out (show n ≤ XJ by omega) sJ (pt g 5))
          replace HJ := Lib.hid (blk_set2 HJ.out sJ (pt g 5))
          replace HI := Lib.hid (blk_off2 HI.out (show ¬ XJ = XI by omega) sJ (pt g 5))
          replace HE := Lib.hid (blk_off2 HE.out (show ¬ XJ = XE by omega) sJ (pt g 5))
          replace HT := Lib.hid (blk_off2 HT.out (show ¬ XJ = XT by omega) sJ (pt g 5))
          refine hK.out _ _ Hcb.out (fun hHeld => ?_)
          clear hK K
          try simp only [Act.put, List.setIfInBounds_toArray, List.set_cons_zero, List.set_cons_succ]
          obtain ⟨V5, hV⟩ : ∃ V, (V4.setCell ⟨XJ, 0, none⟩ sJ).setCell ⟨XJ, 1, none⟩ (pt g 5) = V := ⟨_, rfl⟩
          rw [hV] at hHeld Hcb HBL HJ HI HE HT ⊢
          clear hV
          refine wpAnyH_ready (rs := [21]) (by kernel_rfl) (by simp) (AllReadyH.cons (o := ({ dst := none, op := Op.store 63 (Operand.tmp 4) (Operand.tmp 15), type := 0, pos := "letter.go:33", after := af21, guard := none })) rfl (fun K hK => ?_) AllReadyH.nil)
          have q0 := HI.out.cell (i := 0) rfl; have q1 := HI.out.cell (i := 1) rfl; have qf := HI.out.free
          go_simp
          clear hHeld q0 q1 qf
          replace Hcb := Lib.hid (cell_set2 Hcb.out (show ¬ XI = n by omega) sI (pt g 4))
          replace HBL := Lib.hid (below_set2 HBL.out (show n ≤ XI by omega) sI (pt g 4))
          replace HI := Lib.hid (blk_set2 HI.out sI (pt g 4))
          replace HJ := Lib.hid (blk_off2 HJ.out (show ¬ XI = XJ by omega) sI (pt g 4))
          replace HE := Lib.hid (blk_off2 HE.out (show ¬ XI = XE by omega) sI (pt g 4))
          replace HT := Lib.hid (blk_off2 HT.out (show ¬ XI = XT by omega) sI (pt g 4))
          refine hK.out _ _ Hcb.out (fun hHeld => ?_)
          clear hK K
          try simp only [Act.put, List.setIfInBounds_toArray, List.set_cons_zero, List.set_cons_succ]
          obtain ⟨V6, hV⟩ : ∃ V, (V5.setCell ⟨XI, 0, none⟩ sI).setCell ⟨XI, 1, none⟩ (pt g 4) = V := ⟨_, rfl⟩
          rw [hV] at hHeld Hcb HBL HJ HI HE HT ⊢
          clear hV
          refine wpAnyH_ready (rs := [22]) (by kernel_rfl) (by simp) (AllReadyH.cons (o := ({ dst := none, op := Op.store 63 (Operand.tmp 5) (Operand.tmp 19), type := 0, pos := "letter.go:33", after := af22, guard := none })) rfl (fun K hK => ?_) AllReadyH.nil)
          have q0 := HE.out.cell (i := 0) rfl; have q1 := HE.out.cell (i := 1) rfl; have qf := HE.out.free
          go_simp
          clear hHeld q0 q1 qf
          replace Hcb := Lib.hid (cell_set2 Hcb.out (show ¬ XE = n by omega) sE (pt g 3))
          replace HBL := Lib.hid (below_set2 HBL.out (show n ≤ XE by omega) sE (pt g 3))
          replace HE := Lib.hid (blk_set2 HE.out sE (pt g 3))
          replace HJ := Lib.hid (blk_off2 HJ.out (show ¬ XE = XJ by omega) sE (pt g 3))
          replace HI := Lib.hid (blk_off2 HI.out (show ¬ XE = XI by omega) sE (pt g 3))
          replace HT := Lib.hid (blk_off2 HT.out (show ¬ XE = XT by omega) sE (pt g 3))
          refine hK.out _ _ Hcb.out (fun hHeld => ?_)
          clear hK K
          try simp only [Act.put, List.setIfInBounds_toArray, List.set_cons_zero, List.set_cons_succ]
          obtain ⟨V7, hV⟩ : ∃ V, (V6.setCell ⟨XE, 0, none⟩ sE).setCell ⟨XE, 1, none⟩ (pt g 3) = V := ⟨_, rfl⟩
          rw [hV] at hHeld Hcb HBL HJ HI HE HT ⊢
          clear hV
          refine wpAnyH_ready (rs := [23]) (by kernel_rfl) (by simp) (AllReadyH.cons (o := ({ dst := none, op := Op.store 63 (Operand.tmp 6) (Operand.tmp 23), type := 0, pos := "letter.go:33", after := af23, guard := none })) rfl (fun K hK => ?_) AllReadyH.nil)
          have q0 := HT.out.cell (i := 0) rfl; have q1 := HT.out.cell (i := 1) rfl; have qf := HT.out.free
          go_simp
          clear hHeld q0 q1 qf
          replace Hcb := Lib.hid (cell_set2 Hcb.out (show ¬ XT = n by omega) sT (pt g 6))
          replace HBL := Lib.hid (below_set2 HBL.out (show n ≤ XT by omega) sT (pt g 6))
          replace HT := Lib.hid (blk_set2 HT.out sT (pt g 6))
          replace HJ := Lib.hid (blk_off2 HJ.out (show ¬ XT = XJ by omega) sT (pt g 6))
          replace HI := Lib.hid (blk_off2 HI.out (show ¬ XT = XI by omega) sT (pt g 6))
          replace HE := Lib.hid (blk_off2 HE.out (show ¬ XT = XE by omega) sT (pt g 6))
          refine hK.out _ _ Hcb.out (fun hHeld => ?_)
          clear hK K
          try simp only [Act.put, List.setIfInBounds_toArray, List.set_cons_zero, List.set_cons_succ]
          obtain ⟨V8, hV⟩ : ∃ V, (V7.setCell ⟨XT, 0, none⟩ sT).setCell ⟨XT, 1, none⟩ (pt g 6) = V := ⟨_, rfl⟩
          rw [hV] at hHeld Hcb HBL HJ HI HE HT ⊢
          clear hV
          refine wpAnyH_done (by kernel_rfl) ?_ _
          clear hHeld
          go_wp2_with fail
          go_meet
          exact ⟨XJ, XI, XE, XT, rfl, rfl, rfl, rfl, HJ.out, HI.out, HE.out, HT.out, Hcb.out, HBL.out, lJ, lI, lE, lT⟩
      · go_simp
        clear hHeld
        replace Hcb := Lib.hid (keepA Hcb.out zPt)
        replace HBL := Lib.hid (HBL.out.alloc (Nat.le_of_lt HSZ.out) zPt)
        have HE := Lib.hid (Blk.new V1 #[.string ⟨#[]⟩, .pointer none] 63)
        replace HI := Lib.hid (HI.out.alloc zPt)
        have lE : n < V1.heap.size := HSZ.out
        have nIE : XI < V1.heap.size := hI
        replace HSZ := Lib.hid (size_up HSZ.out zPt)
        replace hI := size_up hI zPt
        have hE := size_self V1 zPt
        refine hK.out _ _ Hcb.out (fun hHeld => ?_)
        clear hK K
        try simp only [Act.put, List.setIfInBounds_toArray, List.set_cons_zero, List.set_cons_succ]
        obtain ⟨XE, hX⟩ : ∃ X, V1.heap.size = X := ⟨_, rfl⟩
        obtain ⟨V2, hV⟩ : ∃ V, V1.alloc zPt = V := ⟨_, rfl⟩
        rw [hX] at HE hE lE nIE ⊢
        rw [hV] at hHeld Hcb HBL HSZ HI hI HE hE ⊢
        clear hX hV
        refine wpAnyH_ready (rs := [16, 19]) (by kernel_rfl) (by simp) (AllReadyH.cons (o := ({ dst := some 3, op := Op.alloc 63, type := 0, pos := "letter.go:33", after := #[], guard := none })) rfl (fun K hK => ?_) (AllReadyH.cons (o := ({ dst := some 6, op := Op.alloc 63, type := 0, pos := "letter.go:33", after := #[], guard := none })) rfl (fun K hK => ?_) AllReadyH.nil))
        · go_simp
          clear hHeld
          replace Hcb := Lib.hid (keepA Hcb.out zPt)
          replace HBL := Lib.hid (HBL.out.alloc (Nat.le_of_lt HSZ.out) zPt)
          have HJ := Lib.hid (Blk.new V2 #[.string ⟨#[]⟩, .pointer none] 63)
          replace HI := Lib.hid (HI.out.alloc zPt)
          replace HE := Lib.hid (HE.out.alloc zPt)
          have lJ : n < V2.heap.size := HSZ.out
          have nIJ : XI < V2.heap.size := hI
          have nEJ : XE < V2.heap.size := hE
          replace HSZ := Lib.hid (size_up HSZ.out zPt)
          replace hI := size_up hI zPt
          replace hE := size_up hE zPt
          have hJ := size_self V2 zPt
          refine hK.out _ _ Hcb.out (fun hHeld => ?_)
          clear hK K
          try simp only [Act.put, List.setIfInBounds_toArray, List.set_cons_zero, List.set_cons_succ]
          obtain ⟨XJ, hX⟩ : ∃ X, V2.heap.size = X := ⟨_, rfl⟩
          obtain ⟨V3, hV⟩ : ∃ V, V2.alloc zPt = V := ⟨_, rfl⟩
          rw [hX] at HJ hJ lJ nIJ nEJ ⊢
          rw [hV] at hHeld Hcb HBL HSZ HI hI HE hE HJ hJ ⊢
          clear hX hV
          refine wpAnyH_ready (rs := [19]) (by kernel_rfl) (by simp) (AllReadyH.cons (o := ({ dst := some 6, op := Op.alloc 63, type := 0, pos := "letter.go:33", after := #[], guard := none })) rfl (fun K hK => ?_) AllReadyH.nil)
          go_simp
          clear hHeld
          replace Hcb := Lib.hid (keepA Hcb.out zPt)
          replace HBL := Lib.hid (HBL.out.alloc (Nat.le_of_lt HSZ.out) zPt)
          have HT := Lib.hid (Blk.new V3 #[.string ⟨#[]⟩, .pointer none] 63)
          replace HI := Lib.hid (HI.out.alloc zPt)
          replace HE := Lib.hid (HE.out.alloc zPt)
          replace HJ := Lib.hid (HJ.out.alloc zPt)
          have lT : n < V3.heap.size := HSZ.out
          have nIT : XI < V3.heap.size := hI
          have nET : XE < V3.heap.size := hE
          have nJT : XJ < V3.heap.size := hJ
          replace HSZ := Lib.hid (size_up HSZ.out zPt)
          replace hI := size_up hI zPt
          replace hE := size_up hE zPt
          replace hJ := size_up hJ zPt
          have hT := size_self V3 zPt
          refine hK.out _ _ Hcb.out (fun hHeld => ?_)
          clear hK K
          try simp only [Act.put, List.setIfInBounds_toArray, List.set_cons_zero, List.set_cons_succ]
          obtain ⟨XT, hX⟩ : ∃ X, V3.heap.size = X := ⟨_, rfl⟩
          obtain ⟨V4, hV⟩ : ∃ V, V3.alloc zPt = V := ⟨_, rfl⟩
          rw [hX] at HT hT lT nIT nET nJT ⊢
          rw [hV] at hHeld Hcb HBL HSZ HI hI HE hE HJ hJ HT hT ⊢
          clear hX hV
          refine wpAnyH_ready (rs := [20]) (by kernel_rfl) (by simp) (AllReadyH.cons (o := ({ dst := none, op := Op.store 63 (Operand.tmp 3) (Operand.tmp 11), type := 0, pos := "letter.go:33", after := af20, guard := none })) rfl (fun K hK => ?_) AllReadyH.nil)
          have q0 := HJ.out.cell (i := 0) rfl; have q1 := HJ.out.cell (i := 1) rfl; have qf := HJ.out.free
          go_simp
          clear hHeld q0 q1 qf
          replace Hcb := Lib.hid (cell_set2 Hcb.out (show ¬ XJ = n by omega) sJ (pt g 5))
          replace HBL := Lib.hid (below_set2 HBL.out (show n ≤ XJ by omega) sJ (pt g 5))
          replace HJ := Lib.hid (blk_set2 HJ.out sJ (pt g 5))
          replace HI := Lib.hid (blk_off2 HI.out (show ¬ XJ = XI by omega) sJ (pt g 5))
          replace HE := Lib.hid (blk_off2 HE.out (show ¬ XJ = XE by omega) sJ (pt g 5))
          replace HT := Lib.hid (blk_off2 HT.out (show ¬ XJ = XT by omega) sJ (pt g 5))
          refine hK.out _ _ Hcb.out (fun hHeld => ?_)
          clear hK K
          try simp only [Act.put, List.setIfInBounds_toArray, List.set_cons_zero, List.set_cons_succ]
          obtain ⟨V5, hV⟩ : ∃ V, (V4.setCell ⟨XJ, 0, none⟩ sJ).setCell ⟨XJ, 1, none⟩ (pt g 5) = V := ⟨_, rfl⟩
          rw [hV] at hHeld Hcb HBL HJ HI HE HT ⊢
          clear hV
          refine wpAnyH_ready (rs := [21]) (by kernel_rfl) (by simp) (AllReadyH.cons (o := ({ dst := none, op := Op.store 63 (Operand.tmp 4) (Operand.tmp 15), type := 0, pos := "letter.go:33", after := af21, guard := none })) rfl (fun K hK => ?_) AllReadyH.nil)
          have q0 := HI.out.cell (i := 0) rfl; have q1 := HI.out.cell (i := 1) rfl; have qf := HI.out.free
          go_simp
          clear hHeld q0 q1 qf
          replace Hcb := Lib.hid (cell_set2 Hcb.out (show ¬ XI = n by omega) sI (pt g 4))
          replace HBL := Lib.hid (below_set2 HBL.out (show n ≤ XI by omega) sI (pt g 4))
          replace HI := Lib.hid (blk_set2 HI.out sI (pt g 4))
          replace HJ := Lib.hid (blk_off2 HJ.out (show ¬ XI = XJ by omega) sI (pt g 4))
          replace HE := Lib.hid (blk_off2 HE.out (show ¬ XI = XE by omega) sI (pt g 4))
          replace HT := Lib.hid (blk_off2 HT.out (show ¬ XI = XT by omega) sI (pt g 4))
          refine hK.out _ _ Hcb.out (fun hHeld => ?_)
          clear hK K
          try simp only [Act.put, List.setIfInBounds_toArray, List.set_cons_zero, List.set_cons_succ]
          obtain ⟨V6, hV⟩ : ∃ V, (V5.setCell ⟨XI, 0, none⟩ sI).setCell ⟨XI, 1, none⟩ (pt g 4) = V := ⟨_, rfl⟩
          rw [hV] at hHeld Hcb HBL HJ HI HE HT ⊢
          clear hV
          refine wpAnyH_ready (rs := [22]) (by kernel_rfl) (by simp) (AllReadyH.cons (o := ({ dst := none, op := Op.store 63 (Operand.tmp 5) (Operand.tmp 19), type := 0, pos := "letter.go:33", after := af22, guard := none })) rfl (fun K hK => ?_) AllReadyH.nil)
          have q0 := HE.out.cell (i := 0) rfl; have q1 := HE.out.cell (i := 1) rfl; have qf := HE.out.free
          go_simp
          clear hHeld q0 q1 qf
          replace Hcb := Lib.hid (cell_set2 Hcb.out (show ¬ XE = n by omega) sE (pt g 3))
          replace HBL := Lib.hid (below_set2 HBL.out (show n ≤ XE by omega) sE (pt g 3))
          replace HE := Lib.hid (blk_set2 HE.out sE (pt g 3))
          replace HJ := Lib.hid (blk_off2 HJ.out (show ¬ XE = XJ by omega) sE (pt g 3))
          replace HI := Lib.hid (blk_off2 HI.out (show ¬ XE = XI by omega) sE (pt g 3))
          replace HT := Lib.hid (blk_off2 HT.out (show ¬ XE = XT by omega) sE (pt g 3))
          refine hK.out _ _ Hcb.out (fun hHeld => ?_)
          clear hK K
          try simp only [Act.put, List.setIfInBounds_toArray, List.set_cons_zero, List.set_cons_succ]
          obtain ⟨V7, hV⟩ : ∃ V, (V6.setCell ⟨XE, 0, none⟩ sE).setCell ⟨XE, 1, none⟩ (pt g 3) = V := ⟨_, rfl⟩
          rw [hV] at hHeld Hcb HBL HJ HI HE HT ⊢
          clear hV
          refine wpAnyH_ready (rs := [23]) (by kernel_rfl) (by simp) (AllReadyH.cons (o := ({ dst := none, op := Op.store 63 (Operand.tmp 6) (Operand.tmp 23), type := 0, pos := "letter.go:33", after := af23, guard := none })) rfl (fun K hK => ?_) AllReadyH.nil)
          have q0 := HT.out.cell (i := 0) rfl; have q1 := HT.out.cell (i := 1) rfl; have qf := HT.out.free
          go_simp
          clear hHeld q0 q1 qf
          replace Hcb := Lib.hid (cell_set2 Hcb.out (show ¬ XT = n by omega) sT (pt g 6))
          replace HBL := Lib.hid (below_set2 HBL.out (show n ≤ XT by omega) sT (pt g 6))
          replace HT := Lib.hid (blk_set2 HT.out sT (pt g 6))
          replace HJ := Lib.hid (blk_off2 HJ.out (show ¬ XT = XJ by omega) sT (pt g 6))
          replace HI := Lib.hid (blk_off2 HI.out (show ¬ XT = XI by omega) sT (pt g 6))
          replace HE := Lib.hid (blk_off2 HE.out (show ¬ XT = XE by omega) sT (pt g 6))
          refine hK.out _ _ Hcb.out (fun hHeld => ?_)
          clear hK K
          try simp only [Act.put, List.setIfInBounds_toArray, List.set_cons_zero, List.set_cons_succ]
          obtain ⟨V8, hV⟩ : ∃ V, (V7.setCell ⟨XT, 0, none⟩ sT).setCell ⟨XT, 1, none⟩ (pt g 6) = V := ⟨_, rfl⟩
          rw [hV] at hHeld Hcb HBL HJ HI HE HT ⊢
          clear hV
          refine wpAnyH_done (by kernel_rfl) ?_ _
          clear hHeld
          go_wp2_with fail
          go_meet
          exact ⟨XJ, XI, XE, XT, rfl, rfl, rfl, rfl, HJ.out, HI.out, HE.out, HT.out, Hcb.out, HBL.out, lJ, lI, lE, lT⟩
        · go_simp
          clear hHeld
          replace Hcb := Lib.hid (keepA Hcb.out zPt)
          replace HBL := Lib.hid (HBL.out.alloc (Nat.le_of_lt HSZ.out) zPt)
          have HT := Lib.hid (Blk.new V2 #[.string ⟨#[]⟩, .pointer none] 63)
          replace HI := Lib.hid (HI.out.alloc zPt)
          replace HE := Lib.hid (HE.out.alloc zPt)
          have lT : n < V2.heap.size := HSZ.out
          have nIT : XI < V2.heap.size := hI
          have nET : XE < V2.heap.size := hE
          replace HSZ := Lib.hid (size_up HSZ.out zPt)
          replace hI := size_up hI zPt
          replace hE := size_up hE zPt
          have hT := size_self V2 zPt
          refine hK.out _ _ Hcb.out (fun hHeld => ?_)
          clear hK K
          try simp only [Act.put, List.setIfInBounds_toArray, List.set_cons_zero, List.set_cons_succ]
          obtain ⟨XT, hX⟩ : ∃ X, V2.heap.size = X := ⟨_, rfl⟩
          obtain ⟨V3, hV⟩ : ∃ V, V2.alloc zPt = V := ⟨_, rfl⟩
          rw [hX] at HT hT lT nIT nET ⊢
          rw [hV] at hHeld Hcb HBL HSZ HI hI HE hE HT hT ⊢
          clear hX hV
          refine wpAnyH_ready (rs := [16]) (by kernel_rfl) (by simp) (AllReadyH.cons (o := ({ dst := some 3, op := Op.alloc 63, type := 0, pos := "letter.go:33", after := #[], guard := none })) rfl (fun K hK => ?_) AllReadyH.nil)
          go_simp
          clear hHeld
          replace Hcb := Lib.hid (keepA Hcb.out zPt)
          replace HBL := Lib.hid (HBL.out.alloc (Nat.le_of_lt HSZ.out) zPt)
          have HJ := Lib.hid (Blk.new V3 #[.string ⟨#[]⟩, .pointer none] 63)
          replace HI := Lib.hid (HI.out.alloc zPt)
          replace HE := Lib.hid (HE.out.alloc zPt)
          replace HT := Lib.hid (HT.out.alloc zPt)
          have lJ : n < V3.heap.size := HSZ.out
          have nIJ : XI < V3.heap.size := hI
          have nEJ : XE < V3.heap.size := hE
          have nTJ : XT < V3.heap.size := hT
          replace HSZ := Lib.hid (size_up HSZ.out zPt)
          replace hI := size_up hI zPt
          replace hE := size_up hE zPt
          replace hT := size_up hT zPt
          have hJ := size_self V3 zPt
          refine hK.out _ _ Hcb.out (fun hHeld => ?_)
          clear hK K
          try simp only [Act.put, List.setIfInBounds_toArray, List.set_cons_zero, List.set_cons_succ]
          obtain ⟨XJ, hX⟩ : ∃ X, V3.heap.size = X := ⟨_, rfl⟩
          obtain ⟨V4, hV⟩ : ∃ V, V3.alloc zPt = V := ⟨_, rfl⟩
          rw [hX] at HJ hJ lJ nIJ nEJ nTJ ⊢
          rw [hV] at hHeld Hcb HBL HSZ HI hI HE hE HT hT HJ hJ ⊢
          clear hX hV
          refine wpAnyH_ready (rs := [20]) (by kernel_rfl) (by simp) (AllReadyH.cons (o := ({ dst := none, op := Op.store 63 (Operand.tmp 3) (Operand.tmp 11), type := 0, pos := "letter.go:33", after := af20, guard := none })) rfl (fun K hK => ?_) AllReadyH.nil)
          have q0 := HJ.out.cell (i := 0) rfl; have q1 := HJ.out.cell (i := 1) rfl; have qf := HJ.out.free
          go_simp
          clear hHeld q0 q1 qf
          replace Hcb := Lib.hid (cell_set2 Hcb.out (show ¬ XJ = n by omega) sJ (pt g 5))
          replace HBL := Lib.hid (below_set2 HBL.out (show n ≤ XJ by omega) sJ (pt g 5))
          replace HJ := Lib.hid (blk_set2 HJ.out sJ (pt g 5))
          replace HI := Lib.hid (blk_off2 HI.out (show ¬ XJ = XI by omega) sJ (pt g 5))
          replace HE := Lib.hid (blk_off2 HE.out (show ¬ XJ = XE by omega) sJ (pt g 5))
          replace HT := Lib.hid (blk_off2 HT.out (show ¬ XJ = XT by omega) sJ (pt g 5))
          refine hK.out _ _ Hcb.out (fun hHeld => ?_)
          clear hK K
          try simp only [Act.put, List.setIfInBounds_toArray, List.set_cons_zero, List.set_cons_succ]
          obtain ⟨V5, hV⟩ : ∃ V, (V4.setCell ⟨XJ, 0, none⟩ sJ).setCell ⟨XJ, 1, none⟩ (pt g 5) = V := ⟨_, rfl⟩
          rw [hV] at hHeld Hcb HBL HJ HI HE HT ⊢
          clear hV
          refine wpAnyH_ready (rs := [21]) (by kernel_rfl) (by simp) (AllReadyH.cons (o := ({ dst := none, op := Op.store 63 (Operand.tmp 4) (Operand.tmp 15), type := 0, pos := "letter.go:33", after := af21, guard := none })) rfl (fun K hK => ?_) AllReadyH.nil)
          have q0 := HI.out.cell (i := 0) rfl; have q1 := HI.out.cell (i := 1) rfl; have qf := HI.out.free
          go_simp
          clear hHeld q0 q1 qf
          replace Hcb := Lib.hid (cell_set2 Hcb.out (show ¬ XI = n by omega) sI (pt g 4))
          replace HBL := Lib.hid (below_set2 HBL.out (show n ≤ XI by omega) sI (pt g 4))
          replace HI := Lib.hid (blk_set2 HI.out sI (pt g 4))
          replace HJ := Lib.hid (blk_off2 HJ.out (show ¬ XI = XJ by omega) sI (pt g 4))
          replace HE := Lib.hid (blk_off2 HE.out (show ¬ XI = XE by omega) sI (pt g 4))
          replace HT := Lib.hid (blk_off2 HT.out (show ¬ XI = XT by omega) sI (pt g 4))
          refine hK.out _ _ Hcb.out (fun hHeld => ?_)
          clear hK K
          try simp only [Act.put, List.setIfInBounds_toArray, List.set_cons_zero, List.set_cons_succ]
          obtain ⟨V6, hV⟩ : ∃ V, (V5.setCell ⟨XI, 0, none⟩ sI).setCell ⟨XI, 1, none⟩ (pt g 4) = V := ⟨_, rfl⟩
          rw [hV] at hHeld Hcb HBL HJ HI HE HT ⊢
          clear hV
          refine wpAnyH_ready (rs := [22]) (by kernel_rfl) (by simp) (AllReadyH.cons (o := ({ dst := none, op := Op.store 63 (Operand.tmp 5) (Operand.tmp 19), type := 0, pos := "letter.go:33", after := af22, guard := none })) rfl (fun K hK => ?_) AllReadyH.nil)
          have q0 := HE.out.cell (i := 0) rfl; have q1 := HE.out.cell (i := 1) rfl; have qf := HE.out.free
          go_simp
          clear hHeld q0 q1 qf
          replace Hcb := Lib.hid (cell_set2 Hcb.out (show ¬ XE = n by omega) sE (pt g 3))
          replace HBL := Lib.hid (below_set2 HBL.out (show n ≤ XE by omega) sE (pt g 3))
          replace HE := Lib.hid (blk_set2 HE.out sE (pt g 3))
          replace HJ := Lib.hid (blk_off2 HJ.out (show ¬ XE = XJ by omega) sE (pt g 3))
          replace HI := Lib.hid (blk_off2 HI.out (show ¬ XE = XI by omega) sE (pt g 3))
          replace HT := Lib.hid (blk_off2 HT.out (show ¬ XE = XT by omega) sE (pt g 3))
          refine hK.out _ _ Hcb.out (fun hHeld => ?_)
          clear hK K
          try simp only [Act.put, List.setIfInBounds_toArray, List.set_cons_zero, List.set_cons_succ]
          obtain ⟨V7, hV⟩ : ∃ V, (V6.setCell ⟨XE, 0, none⟩ sE).setCell ⟨XE, 1, none⟩ (pt g 3) = V := ⟨_, rfl⟩
          rw [hV] at hHeld Hcb HBL HJ HI HE HT ⊢
          clear hV
          refine wpAnyH_ready (rs := [23]) (by kernel_rfl) (by simp) (AllReadyH.cons (o := ({ dst := none, op := Op.store 63 (Operand.tmp 6) (Operand.tmp 23), type := 0, pos := "letter.go:33", after := af23, guard := none })) rfl (fun K hK => ?_) AllReadyH.nil)
          have q0 := HT.out.cell (i := 0) rfl; have q1 := HT.out.cell (i := 1) rfl; have qf := HT.out.free
          go_simp
          clear hHeld q0 q1 qf
          replace Hcb := Lib.hid (cell_set2 Hcb.out (show ¬ XT = n by omega) sT (pt g 6))
          replace HBL := Lib.hid (below_set2 HBL.out (show n ≤ XT by omega) sT (pt g 6))
          replace HT := Lib.hid (blk_set2 HT.out sT (pt g 6))
          replace HJ := Lib.hid (blk_off2 HJ.out (show ¬ XT = XJ by omega) sT (pt g 6))
          replace HI := Lib.hid (blk_off2 HI.out (show ¬ XT = XI by omega) sT (pt g 6))
          replace HE := Lib.hid (blk_off2 HE.out (show ¬ XT = XE by omega) sT (pt g 6))
          refine hK.out _ _ Hcb.out (fun hHeld => ?_)
          clear hK K
          try simp only [Act.put, List.setIfInBounds_toArray, List.set_cons_zero, List.set_cons_succ]
          obtain ⟨V8, hV⟩ : ∃ V, (V7.setCell ⟨XT, 0, none⟩ sT).setCell ⟨XT, 1, none⟩ (pt g 6) = V := ⟨_, rfl⟩
          rw [hV] at hHeld Hcb HBL HJ HI HE HT ⊢
          clear hV
          refine wpAnyH_done (by kernel_rfl) ?_ _
          clear hHeld
          go_wp2_with fail
          go_meet
          exact ⟨XJ, XI, XE, XT, rfl, rfl, rfl, rfl, HJ.out, HI.out, HE.out, HT.out, Hcb.out, HBL.out, lJ, lI, lE, lT⟩
      · go_simp
        clear hHeld
        replace Hcb := Lib.hid (keepA Hcb.out zPt)
        replace HBL := Lib.hid (HBL.out.alloc (Nat.le_of_lt HSZ.out) zPt)
        have HT := Lib.hid (Blk.new V1 #[.string ⟨#[]⟩, .pointer none] 63)
        replace HI := Lib.hid (HI.out.alloc zPt)
        have lT : n < V1.heap.size := HSZ.out
        have nIT : XI < V1.heap.size := hI
        replace HSZ := Lib.hid (size_up HSZ.out zPt)
        replace hI := size_up hI zPt
        have hT := size_self V1 zPt
        refine hK.out _ _ Hcb.out (fun hHeld => ?_)
        clear hK K
        try simp only [Act.put, List.setIfInBounds_toArray, List.set_cons_zero, List.set_cons_succ]
        obtain ⟨XT, hX⟩ : ∃ X, V1.heap.size = X := ⟨_, rfl⟩
        obtain ⟨V2, hV⟩ : ∃ V, V1.alloc zPt = V := ⟨_, rfl⟩
        rw [hX] at HT hT lT nIT ⊢
        rw [hV] at hHeld Hcb HBL HSZ HI hI HT hT ⊢
        clear hX hV
        refine wpAnyH_ready (rs := [16, 18]) (by kernel_rfl) (by simp) (AllReadyH.cons (o := ({ dst := some 3, op := Op.alloc 63, type := 0, pos := "letter.go:33", after := #[], guard := none })) rfl (fun K hK => ?_) (AllReadyH.cons (o := ({ dst := some 5, op := Op.alloc 63, type := 0, pos := "letter.go:33", after := #[], guard := none })) rfl (fun K hK => ?_) AllReadyH.nil))
        · go_simp
          clear hHeld
          replace Hcb := Lib.hid (keepA Hcb.out zPt)
          replace HBL := Lib.hid (HBL.out.alloc (Nat.le_of_lt HSZ.out) zPt)
          have HJ := Lib.hid (Blk.new V2 #[.string ⟨#[]⟩, .pointer none] 63)
          replace HI := Lib.hid (HI.out.alloc zPt)
          replace HT := Lib.hid (HT.out.alloc zPt)
          have lJ : n < V2.heap.size := HSZ.out
          have nIJ : XI < V2.heap.size := hI
          have nTJ : XT < V2.heap.size := hT
          replace HSZ := Lib.hid (size_up HSZ.out zPt)
          replace hI := size_up hI zPt
          replace hT := size_up hT zPt
          have hJ := size_self V2 zPt
          refine hK.out _ _ Hcb.out (fun hHeld => ?_)
          clear hK K
          try simp only [Act.put, List.setIfInBounds_toArray, List.set_cons_zero, List.set_cons_succ]
          obtain ⟨XJ, hX⟩ : ∃ X, V2.heap.size = X := ⟨_, rfl⟩
          obtain ⟨V3, hV⟩ : ∃ V, V2.alloc zPt = V := ⟨_, rfl⟩
          rw [hX] at HJ hJ lJ nIJ nTJ ⊢
          rw [hV] at hHeld Hcb HBL HSZ HI hI HT hT HJ hJ ⊢
          clear hX hV
          refine wpAnyH_ready (rs := [18]) (by kernel_rfl) (by simp) (AllReadyH.cons (o := ({ dst := some 5, op := Op.alloc 63, type := 0, pos := "letter.go:33", after := #[], guard := none })) rfl (fun K hK => ?_) AllReadyH.nil)
          go_simp
          clear hHeld
          replace Hcb := Lib.hid (keepA Hcb.out zPt)
          replace HBL := Lib.hid (HBL.out.alloc (Nat.le_of_lt HSZ.out) zPt)
          have HE := Lib.hid (Blk.new V3 #[.string ⟨#[]⟩, .pointer none] 63)
          replace HI := Lib.hid (HI.out.alloc zPt)
          replace HT := Lib.hid (HT.out.alloc zPt)
          replace HJ := Lib.hid (HJ.out.alloc zPt)
          have lE : n < V3.heap.size := HSZ.out
          have nIE : XI < V3.heap.size := hI
          have nTE : XT < V3.heap.size := hT
          have nJE : XJ < V3.heap.size := hJ
          replace HSZ := Lib.hid (size_up HSZ.out zPt)
          replace hI := size_up hI zPt
          replace hT := size_up hT zPt
          replace hJ := size_up hJ zPt
          have hE := size_self V3 zPt
          refine hK.out _ _ Hcb.out (fun hHeld => ?_)
          clear hK K
          try simp only [Act.put, List.setIfInBounds_toArray, List.set_cons_zero, List.set_cons_succ]
          obtain ⟨XE, hX⟩ : ∃ X, V3.heap.size = X := ⟨_, rfl⟩
          obtain ⟨V4, hV⟩ : ∃ V, V3.alloc zPt = V := ⟨_, rfl⟩
          rw [hX] at HE hE lE nIE nTE nJE ⊢
          rw [hV] at hHeld Hcb HBL HSZ HI hI HT hT HJ hJ HE hE ⊢
          clear hX hV
          refine wpAnyH_ready (rs := [20]) (by kernel_rfl) (by simp) (AllReadyH.cons (o := ({ dst := none, op := Op.store 63 (Operand.tmp 3) (Operand.tmp 11), type := 0, pos := "letter.go:33", after := af20, guard := none })) rfl (fun K hK => ?_) AllReadyH.nil)
          have q0 := HJ.out.cell (i := 0) rfl; have q1 := HJ.out.cell (i := 1) rfl; have qf := HJ.out.free
          go_simp
          clear hHeld q0 q1 qf
          replace Hcb := Lib.hid (cell_set2 Hcb.out (show ¬ XJ = n by omega) sJ (pt g 5))
          replace HBL := Lib.hid (below_set2 HBL.out (show n ≤ XJ by omega) sJ (pt g 5))
          replace HJ := Lib.hid (blk_set2 HJ.out sJ (pt g 5))
          replace HI := Lib.hid (blk_off2 HI.out (show ¬ XJ = XI by omega) sJ (pt g 5))
          replace HE := Lib.hid (blk_off2 HE.out (show ¬ XJ = XE by omega) sJ (pt g 5))
          replace HT := Lib.hid (blk_off2 HT.out (show ¬ XJ = XT by omega) sJ (pt g 5))
          refine hK.out _ _ Hcb.out (fun hHeld => ?_)
          clear hK K
          try simp only [Act.put, List.setIfInBounds_toArray, List.set_cons_zero, List.set_cons_succ]
          obtain ⟨V5, hV⟩ : ∃ V, (V4.setCell ⟨XJ, 0, none⟩ sJ).setCell ⟨XJ, 1, none⟩ (pt g 5) = V := ⟨_, rfl⟩
          rw [hV] at hHeld Hcb HBL HJ HI HE HT ⊢
          clear hV
          refine wpAnyH_ready (rs := [21]) (by kernel_rfl) (by simp) (AllReadyH.cons (o := ({ dst := none, op := Op.store 63 (Operand.tmp 4) (Operand.tmp 15), type := 0, pos := "letter.go:33", after := af21, guard := none })) rfl (fun K hK => ?_) AllReadyH.nil)
          have q0 := HI.out.cell (i := 0) rfl; have q1 := HI.out.cell (i := 1) rfl; have qf := HI.out.free
          go_simp
          clear hHeld q0 q1 qf
          replace Hcb := Lib.hid (cell_set2 Hcb.out (show ¬ XI = n by omega) sI (pt g 4))
          replace HBL := Lib.hid (below_set2 HBL.out (show n ≤ XI by omega) sI (pt g 4))
          replace HI := Lib.hid (blk_set2 HI.out sI (pt g 4))
          replace HJ := Lib.hid (blk_off2 HJ.out (show ¬ XI = XJ by omega) sI (pt g 4))
          replace HE := Lib.hid (blk_off2 HE.out (show ¬ XI = XE by omega) sI (pt g 4))
          replace HT := Lib.hid (blk_off2 HT.out (show ¬ XI = XT by omega) sI (pt g 4))
          refine hK.out _ _ Hcb.out (fun hHeld => ?_)
          clear hK K
          try simp only [Act.put, List.setIfInBounds_toArray, List.set_cons_zero, List.set_cons_succ]
          obtain ⟨V6, hV⟩ : ∃ V, (V5.setCell ⟨XI, 0, none⟩ sI).setCell ⟨XI, 1, none⟩ (pt g 4) = V := ⟨_, rfl⟩
          rw [hV] at hHeld Hcb HBL HJ HI HE HT ⊢
          clear hV
          refine wpAnyH_ready (rs := [22]) (by kernel_rfl) (by simp) (AllReadyH.cons (o := ({ dst := none, op := Op.store 63 (Operand.tmp 5) (Operand.tmp 19), type := 0, pos := "letter.go:33", after := af22, guard := none })) rfl (fun K hK => ?_) AllReadyH.nil)
          have q0 := HE.out.cell (i := 0) rfl; have q1 := HE.out.cell (i := 1) rfl; have qf := HE.out.free
          go_simp
          clear hHeld q0 q1 qf
          replace Hcb := Lib.hid (cell_set2 Hcb.out (show ¬ XE = n by omega) sE (pt g 3))
          replace HBL := Lib.hid (below_set2 HBL.out (show n ≤ XE by omega) sE (pt g 3))
          replace HE := Lib.hid (blk_set2 HE.out sE (pt g 3))
          replace HJ := Lib.hid (blk_off2 HJ.out (show ¬ XE = XJ by omega) sE (pt g 3))
          replace HI := Lib.hid (blk_off2 HI.out (show ¬ XE = XI by omega) sE (pt g 3))
          replace HT := Lib.hid (blk_off2 HT.out (show ¬ XE = XT by omega) sE (pt g 3))
          refine hK.out _ _ Hcb.out (fun hHeld => ?_)
          clear hK K
          try simp only [Act.put, List.setIfInBounds_toArray, List.set_cons_zero, List.set_cons_succ]
          obtain ⟨V7, hV⟩ : ∃ V, (V6.setCell ⟨XE, 0, none⟩ sE).setCell ⟨XE, 1, none⟩ (pt g 3) = V := ⟨_, rfl⟩
          rw [hV] at hHeld Hcb HBL HJ HI HE HT ⊢
          clear hV
          refine wpAnyH_ready (rs := [23]) (by kernel_rfl) (by simp) (AllReadyH.cons (o := ({ dst := none, op := Op.store 63 (Operand.tmp 6) (Operand.tmp 23), type := 0, pos := "letter.go:33", after := af23, guard := none })) rfl (fun K hK => ?_) AllReadyH.nil)
          have q0 := HT.out.cell (i := 0) rfl; have q1 := HT.out.cell (i := 1) rfl; have qf := HT.out.free
          go_simp
          clear hHeld q0 q1 qf
          replace Hcb := Lib.hid (cell_set2 Hcb.out (show ¬ XT = n by omega) sT (pt g 6))
          replace HBL := Lib.hid (below_set2 HBL.out (show n ≤ XT by omega) sT (pt g 6))
          replace HT := Lib.hid (blk_set2 HT.out sT (pt g 6))
          replace HJ := Lib.hid (blk_off2 HJ.out (show ¬ XT = XJ by omega) sT (pt g 6))
          replace HI := Lib.hid (blk_off2 HI.out (show ¬ XT = XI by omega) sT (pt g 6))
          replace HE := Lib.hid (blk_off2 HE.out (show ¬ XT = XE by omega) sT (pt g 6))
          refine hK.out _ _ Hcb.out (fun hHeld => ?_)
          clear hK K
          try simp only [Act.put, List.setIfInBounds_toArray, List.set_cons_zero, List.set_cons_succ]
          obtain ⟨V8, hV⟩ : ∃ V, (V7.setCell ⟨XT, 0, none⟩ sT).setCell ⟨XT, 1, none⟩ (pt g 6) = V := ⟨_, rfl⟩
          rw [hV] at hHeld Hcb HBL HJ HI HE HT ⊢
          clear hV
          refine wpAnyH_done (by kernel_rfl) ?_ _
          clear hHeld
          go_wp2_with fail
          go_meet
          exact ⟨XJ, XI, XE, XT, rfl, rfl, rfl, rfl, HJ.out, HI.out, HE.out, HT.out, Hcb.out, HBL.out, lJ, lI, lE, lT⟩
        · go_simp
          clear hHeld
          replace Hcb := Lib.hid (keepA Hcb.out zPt)
          replace HBL := Lib.hid (HBL.out.alloc (Nat.le_of_lt HSZ.out) zPt)
          have HE := Lib.hid (Blk.new V2 #[.string ⟨#[]⟩, .pointer none] 63)
          replace HI := Lib.hid (HI.out.alloc zPt)
          replace HT := Lib.hid (HT.out.alloc zPt)
          have lE : n < V2.heap.size := HSZ.out
          have nIE : XI < V2.heap.size := hI
          have nTE : XT < V2.heap.size := hT
          replace HSZ := Lib.hid (size_up HSZ.out zPt)
          replace hI := size_up hI zPt
          replace hT := size_up hT zPt
          have hE := size_self V2 zPt
          refine hK.out _ _ Hcb.out (fun hHeld => ?_)
          clear hK K
          try simp only [Act.put, List.setIfInBounds_toArray, List.set_cons_zero, List.set_cons_succ]
          obtain ⟨XE, hX⟩ : ∃ X, V2.heap.size = X := ⟨_, rfl⟩
          obtain ⟨V3, hV⟩ : ∃ V, V2.alloc zPt = V := ⟨_, rfl⟩
          rw [hX] at HE hE lE nIE nTE ⊢
          rw [hV] at hHeld Hcb HBL HSZ HI hI HT hT HE hE ⊢
          clear hX hV
          refine wpAnyH_ready (rs := [16]) (by kernel_rfl) (by simp) (AllReadyH.cons (o := ({ dst := some 3, op := Op.alloc 63, type := 0, pos := "letter.go:33", after := #[], guard := none })) rfl (fun K hK => ?_) AllReadyH.nil)
          go_simp
          clear hHeld
          replace Hcb := Lib.hid (keepA Hcb.out zPt)
          replace HBL := Lib.hid (HBL.out.alloc (Nat.le_of_lt HSZ.out) zPt)
          have HJ := Lib.hid (Blk.new V3 #[.string ⟨#[]⟩, .pointer none] 63)
          replace HI := Lib.hid (HI.out.alloc zPt)
          replace HT := Lib.hid (HT.out.alloc zPt)
          replace HE := Lib.hid (HE.out.alloc zPt)
          have lJ : n < V3.heap.size := HSZ.out
          have nIJ : XI < V3.heap.size := hI
          have nTJ : XT < V3.heap.size := hT
          have nEJ : XE < V3.heap.size := hE
          replace HSZ := Lib.hid (size_up HSZ.out zPt)
          replace hI := size_up hI zPt
          replace hT := size_up hT zPt
          replace hE := size_up hE zPt
          have hJ := size_self V3 zPt
          refine hK.out _ _ Hcb.out (fun hHeld => ?_)
          clear hK K
          try simp only [Act.put, List.setIfInBounds_toArray, List.set_cons_zero, List.set_cons_succ]
          obtain ⟨XJ, hX⟩ : ∃ X, V3.heap.size = X := ⟨_, rfl⟩
          obtain ⟨V4, hV⟩ : ∃ V, V3.alloc zPt = V := ⟨_, rfl⟩
          rw [hX] at HJ hJ lJ nIJ nTJ nEJ ⊢
          rw [hV] at hHeld Hcb HBL HSZ HI hI HT hT HE hE HJ hJ ⊢
          clear hX hV
          refine wpAnyH_ready (rs := [20]) (by kernel_rfl) (by simp) (AllReadyH.cons (o := ({ dst := none, op := Op.store 63 (Operand.tmp 3) (Operand.tmp 11), type := 0, pos := "letter.go:33", after := af20, guard := none })) rfl (fun K hK => ?_) AllReadyH.nil)
          have q0 := HJ.out.cell (i := 0) rfl; have q1 := HJ.out.cell (i := 1) rfl; have qf := HJ.out.free
          go_simp
          clear hHeld q0 q1 qf
          replace Hcb := Lib.hid (cell_set2 Hcb.out (show ¬ XJ = n by omega) sJ (pt g 5))
          replace HBL := Lib.hid (below_set2 HBL.out (show n ≤ XJ by omega) sJ (pt g 5))
          replace HJ := Lib.hid (blk_set2 HJ.out sJ (pt g 5))
          replace HI := Lib.hid (blk_off2 HI.out (show ¬ XJ = XI by omega) sJ (pt g 5))
          replace HE := Lib.hid (blk_off2 HE.out (show ¬ XJ = XE by omega) sJ (pt g 5))
          replace HT := Lib.hid (blk_off2 HT.out (show ¬ XJ = XT by omega) sJ (pt g 5))
          refine hK.out _ _ Hcb.out (fun hHeld => ?_)
          clear hK K
          try simp only [Act.put, List.setIfInBounds_toArray, List.set_cons_zero, List.set_cons_succ]
          obtain ⟨V5, hV⟩ : ∃ V, (V4.setCell ⟨XJ, 0, none⟩ sJ).setCell ⟨XJ, 1, none⟩ (pt g 5) = V := ⟨_, rfl⟩
          rw [hV] at hHeld Hcb HBL HJ HI HE HT ⊢
          clear hV
          refine wpAnyH_ready (rs := [21]) (by kernel_rfl) (by simp) (AllReadyH.cons (o := ({ dst := none, op := Op.store 63 (Operand.tmp 4) (Operand.tmp 15), type := 0, pos := "letter.go:33", after := af21, guard := none })) rfl (fun K hK => ?_) AllReadyH.nil)
          have q0 := HI.out.cell (i := 0) rfl; have q1 := HI.out.cell (i := 1) rfl; have qf := HI.out.free
          go_simp
          clear hHeld q0 q1 qf
          replace Hcb := Lib.hid (cell_set2 Hcb.out (show ¬ XI = n by omega) sI (pt g 4))
          replace HBL := Lib.hid (below_set2 HBL.out (show n ≤ XI by omega) sI (pt g 4))
          replace HI := Lib.hid (blk_set2 HI.out sI (pt g 4))
          replace HJ := Lib.hid (blk_off2 HJ.out (show ¬ XI = XJ by omega) sI (pt g 4))
          replace HE := Lib.hid (blk_off2 HE.out (show ¬ XI = XE by omega) sI (pt g 4))
          replace HT := Lib.hid (blk_off2 HT.out (show ¬ XI = XT by omega) sI (pt g 4))
          refine hK.out _ _ Hcb.out (fun hHeld => ?_)
          clear hK K
          try simp only [Act.put, List.setIfInBounds_toArray, List.set_cons_zero, List.set_cons_succ]
          obtain ⟨V6, hV⟩ : ∃ V, (V5.setCell ⟨XI, 0, none⟩ sI).setCell ⟨XI, 1, none⟩ (pt g 4) = V := ⟨_, rfl⟩
          rw [hV] at hHeld Hcb HBL HJ HI HE HT ⊢
          clear hV
          refine wpAnyH_ready (rs := [22]) (by kernel_rfl) (by simp) (AllReadyH.cons (o := ({ dst := none, op := Op.store 63 (Operand.tmp 5) (Operand.tmp 19), type := 0, pos := "letter.go:33", after := af22, guard := none })) rfl (fun K hK => ?_) AllReadyH.nil)
          have q0 := HE.out.cell (i := 0) rfl; have q1 := HE.out.cell (i := 1) rfl; have qf := HE.out.free
          go_simp
          clear hHeld q0 q1 qf
          replace Hcb := Lib.hid (cell_set2 Hcb.out (show ¬ XE = n by omega) sE (pt g 3))
          replace HBL := Lib.hid (below_set2 HBL.out (show n ≤ XE by omega) sE (pt g 3))
          replace HE := Lib.hid (blk_set2 HE.out sE (pt g 3))
          replace HJ := Lib.hid (blk_off2 HJ.out (show ¬ XE = XJ by omega) sE (pt g 3))
          replace HI := Lib.hid (blk_off2 HI.out (show ¬ XE = XI by omega) sE (pt g 3))
          replace HT := Lib.hid (blk_off2 HT.out (show ¬ XE = XT by omega) sE (pt g 3))
          refine hK.out _ _ Hcb.out (fun hHeld => ?_)
          clear hK K
          try simp only [Act.put, List.setIfInBounds_toArray, List.set_cons_zero, List.set_cons_succ]
          obtain ⟨V7, hV⟩ : ∃ V, (V6.setCell ⟨XE, 0, none⟩ sE).setCell ⟨XE, 1, none⟩ (pt g 3) = V := ⟨_, rfl⟩
          rw [hV] at hHeld Hcb HBL HJ HI HE HT ⊢
          clear hV
          refine wpAnyH_ready (rs := [23]) (by kernel_rfl) (by simp) (AllReadyH.cons (o := ({ dst := none, op := Op.store 63 (Operand.tmp 6) (Operand.tmp 23), type := 0, pos := "letter.go:33", after := af23, guard := none })) rfl (fun K hK => ?_) AllReadyH.nil)
          have q0 := HT.out.cell (i := 0) rfl; have q1 := HT.out.cell (i := 1) rfl; have qf := HT.out.free
          go_simp
          clear hHeld q0 q1 qf
          replace Hcb := Lib.hid (cell_set2 Hcb.out (show ¬ XT = n by omega) sT (pt g 6))
          replace HBL := Lib.hid (below_set2 HBL.out (show n ≤ XT by omega) sT (pt g 6))
          replace HT := Lib.hid (blk_set2 HT.out sT (pt g 6))
          replace HJ := Lib.hid (blk_off2 HJ.out (show ¬ XT = XJ by omega) sT (pt g 6))
          replace HI := Lib.hid (blk_off2 HI.out (show ¬ XT = XI by omega) sT (pt g 6))
          replace HE := Lib.hid (blk_off2 HE.out (show ¬ XT = XE by omega) sT (pt g 6))
          refine hK.out _ _ Hcb.out (fun hHeld => ?_)
          clear hK K
          try simp only [Act.put, List.setIfInBounds_toArray, List.set_cons_zero, List.set_cons_succ]
          obtain ⟨V8, hV⟩ : ∃ V, (V7.setCell ⟨XT, 0, none⟩ sT).setCell ⟨XT, 1, none⟩ (pt g 6) = V := ⟨_, rfl⟩
          rw [hV] at hHeld Hcb HBL HJ HI HE HT ⊢
          clear hV
          refine wpAnyH_done (by kernel_rfl) ?_ _
          clear hHeld
          go_wp2_with fail
          go_meet
          exact ⟨XJ, XI, XE, XT, rfl, rfl, rfl, rfl, HJ.out, HI.out, HE.out, HT.out, Hcb.out, HBL.out, lJ, lI, lE, lT⟩
    · go_simp
      clear hHeld
      replace Hcb := Lib.hid (keepA Hcb.out zPt)
      replace HBL := Lib.hid (HBL.out.alloc (Nat.le_of_lt HSZ.out) zPt)
      have HE := Lib.hid (Blk.new V0 #[.string ⟨#[]⟩, .pointer none] 63)
      have lE : n < V0.heap.size := HSZ.out
      replace HSZ := Lib.hid (size_up HSZ.out zPt)
      have hE := size_self V0 zPt
      refine hK.out _ _ Hcb.out (fun hHeld => ?_)
      clear hK K
      try simp only [Act.put, List.setIfInBounds_toArray, List.set_cons_zero, List.set_cons_succ]
      obtain ⟨XE, hX⟩ : ∃ X, V0.heap.size = X := ⟨_, rfl⟩
      obtain ⟨V1, hV⟩ : ∃ V, V0.alloc zPt = V := ⟨_, rfl⟩
      rw [hX] at HE hE lE  ⊢
      rw [hV] at hHeld Hcb HBL HSZ HE hE ⊢
      clear hX hV
      refine wpAnyH_ready (rs := [16, 17, 19]) (by kernel_rfl) (by simp) (AllReadyH.cons (o := ({ dst := some 3, op := Op.alloc 63, type := 0, pos := "letter.go:33", after := #[], guard := none })) rfl (fun K hK => ?_) (AllReadyH.cons (o := ({ dst := some 4, op := Op.alloc 63, type := 0, pos := "letter.go:33", after := #[], guard := none })) rfl (fun K hK => ?_) (AllReadyH.cons (o := ({ dst := some 6, op := Op.alloc 63, type := 0, pos := "letter.go:33", after := #[], guard := none })) rfl (fun K hK => ?_) AllReadyH.nil)))
      · go_simp
        clear hHeld
        replace Hcb := Lib.hid (keepA Hcb.out zPt)
        replace HBL := Lib.hid (HBL.out.alloc (Nat.le_of_lt HSZ.out) zPt)
        have HJ := Lib.hid (Blk.new V1 #[.string ⟨#[]⟩, .pointer none] 63)
        replace HE := Lib.hid (HE.out.alloc zPt)
        have lJ : n < V1.heap.size := HSZ.out
        have nEJ : XE < V1.heap.size := hE
        replace HSZ := Lib.hid (size_up HSZ.out zPt)
        replace hE := size_up hE zPt
        have hJ := size_self V1 zPt
        refine hK.out _ _ Hcb.out (fun hHeld => ?_)
        clear hK K
        try simp only [Act.put, List.setIfInBounds_toArray, List.set_cons_zero, List.set_cons_succ]
        obtain ⟨XJ, hX⟩ : ∃ X, V1.heap.size = X := ⟨_, rfl⟩
        obtain ⟨V2, hV⟩ : ∃ V, V1.alloc zPt = V := ⟨_, rfl⟩
        rw [hX] at HJ hJ lJ nEJ ⊢
        rw [hV] at hHeld Hcb HBL HSZ HE hE HJ hJ ⊢
        clear hX hV
        refine wpAnyH_ready (rs := [17, 19]) (by kernel_rfl) (by simp) (AllReadyH.cons (o := ({ dst := some 4, op := Op.alloc 63, type := 0, pos := "letter.go:33", after := #[], guard := none })) rfl (fun K hK => ?_) (AllReadyH.cons (o := ({ dst := some 6, op := Op.alloc 63, type := 0, pos := "letter.go:33", after := #[], guard := none })) rfl (fun K hK => ?_) AllReadyH.nil))
        · go_simp
          clear hHeld
          replace Hcb := Lib.hid (keepA Hcb.out zPt)
          replace HBL := Lib.hid (HBL.out.alloc (Nat.le_of_lt HSZ.out) zPt)
          have HI := Lib.hid (Blk.new V2 #[.string ⟨#[]⟩, .pointer none] 63)
          replace HE := Lib.hid (HE.out.alloc zPt)
          replace HJ := Lib.hid (HJ.out.alloc zPt)
          have lI : n < V2.heap.size := HSZ.out
          have nEI : XE < V2.heap.size := hE
          have nJI : XJ < V2.heap.size := hJ
          replace HSZ := Lib.hid (size_up HSZ.out zPt)
          replace hE := size_up hE zPt
          replace hJ := size_up hJ zPt
          have hI := size_self V2 zPt
          refine hK.out _ _ Hcb.out (fun hHeld => ?_)
          clear hK K
          try simp only [Act.put, List.setIfInBounds_toArray, List.set_cons_zero, List.set_cons_succ]
          obtain ⟨XI, hX⟩ : ∃ X, V2.heap.size = X := ⟨_, rfl⟩
          obtain ⟨V3, hV⟩ : ∃ V, V2.alloc zPt = V := ⟨_, rfl⟩
          rw [hX] at HI hI lI nEI nJI ⊢
          rw [hV] at hHeld Hcb HBL HSZ HE hE HJ hJ HI hI ⊢
          clear hX hV
          refine wpAnyH_ready (rs := [19]) (by kernel_rfl) (by simp) (AllReadyH.cons (o := ({ dst := some 6, op := Op.alloc 63, type := 0, pos := "letter.go:33", after := #[], guard := none })) rfl (fun K hK => ?_) AllReadyH.nil)
          go_simp
          clear hHeld
          replace Hcb := Lib.hid (keepA Hcb.out zPt)
          replace HBL := Lib.hid (HBL.out.alloc (Nat.le_of_lt HSZ.out) zPt)
          have HT := Lib.hid (Blk.new V3 #[.string ⟨#[]⟩, .pointer none] 63)
          replace HE := Lib.hid (HE.out.alloc zPt)
          replace HJ := Lib.hid (HJ.out.alloc zPt)
          replace HI := Lib.hid (HI.out.alloc zPt)
          have lT : n < V3.heap.size := HSZ.out
          have nET : XE < V3.heap.size := hE
          have nJT : XJ < V3.heap.size := hJ
          have nIT : XI < V3.heap.size := hI
          replace HSZ := Lib.hid (size_up HSZ.out zPt)
          replace hE := size_up hE zPt
          replace hJ := size_up hJ zPt
          replace hI := size_up hI zPt
          have hT := size_self V3 zPt
          refine hK.out _ _ Hcb.out (fun hHeld => ?_)
          clear hK K
          try simp only [Act.put, List.setIfInBounds_toArray, List.set_cons_zero, List.set_cons_succ]
          obtain ⟨XT, hX⟩ : ∃ X, V3.heap.size = X := ⟨_, rfl⟩
          obtain ⟨V4, hV⟩ : ∃ V, V3.alloc zPt = V := ⟨_, rfl⟩
          rw [hX] at HT hT lT nET nJT nIT ⊢
          rw [hV] at hHeld Hcb HBL HSZ HE hE HJ hJ HI hI HT hT ⊢
          clear hX hV
          refine wpAnyH_ready (rs := [20]) (by kernel_rfl) (by simp) (AllReadyH.cons (o := ({ dst := none, op := Op.store 63 (Operand.tmp 3) (Operand.tmp 11), type := 0, pos := "letter.go:33", after := af20, guard := none })) rfl (fun K hK => ?_) AllReadyH.nil)
          have q0 := HJ.out.cell (i := 0) rfl; have q1 := HJ.out.cell (i := 1) rfl; have qf := HJ.out.free
          go_simp
          clear hHeld q0 q1 qf
          replace Hcb := Lib.hid (cell_set2 Hcb.out (show ¬ XJ = n by omega) sJ (pt g 5))
          replace HBL := Lib.hid (below_set2 HBL.out (show n ≤ XJ by omega) sJ (pt g 5))
          replace HJ := Lib.hid (blk_set2 HJ.out sJ (pt g 5))
          replace HI := Lib.hid (blk_off2 HI.out (show ¬ XJ = XI by omega) sJ (pt g 5))
          replace HE := Lib.hid (blk_off2 HE.out (show ¬ XJ = XE by omega) sJ (pt g 5))
          replace HT := Lib.hid (blk_off2 HT.out (show ¬ XJ = XT by omega) sJ (pt g 5))
          refine hK.out _ _ Hcb.out (fun hHeld => ?_)
          clear hK K
          try simp only [Act.put, List.setIfInBounds_toArray, List.set_cons_zero, List.set_cons_succ]
          obtain ⟨V5, hV⟩ : ∃ V, (V4.setCell ⟨XJ, 0, none⟩ sJ).setCell ⟨XJ, 1, none⟩ (pt g 5) = V := ⟨_, rfl⟩
          rw [hV] at hHeld Hcb HBL HJ HI HE HT ⊢
          clear hV
          refine wpAnyH_ready (rs := [21]) (by kernel_rfl) (by simp) (AllReadyH.cons (o := ({ dst := none, op := Op.store 63 (Operand.tmp 4) (Operand.tmp 15), type := 0, pos := "letter.go:33", after := af21, guard := none })) rfl (fun K hK => ?_) AllReadyH.nil)
          have q0 := HI.out.cell (i := 0) rfl; have q1 := HI.out.cell (i := 1) rfl; have qf := HI.out.free
          go_simp
          clear hHeld q0 q1 qf
          replace Hcb := Lib.hid (cell_set2 Hcb.out (show ¬ XI = n by omega) sI (pt g 4))
          replace HBL := Lib.hid (below_set2 HBL.out (show n ≤ XI by omega) sI (pt g 4))
          replace HI := Lib.hid (blk_set2 HI.out sI (pt g 4))
          replace HJ := Lib.hid (blk_off2 HJ.out (show ¬ XI = XJ by omega) sI (pt g 4))
          replace HE := Lib.hid (blk_off2 HE.out (show ¬ XI = XE by omega) sI (pt g 4))
          replace HT := Lib.hid (blk_off2 HT.out (show ¬ XI = XT by omega) sI (pt g 4))
          refine hK.out _ _ Hcb.out (fun hHeld => ?_)
          clear hK K
          try simp only [Act.put, List.setIfInBounds_toArray, List.set_cons_zero, List.set_cons_succ]
          obtain ⟨V6, hV⟩ : ∃ V, (V5.setCell ⟨XI, 0, none⟩ sI).setCell ⟨XI, 1, none⟩ (pt g 4) = V := ⟨_, rfl⟩
          rw [hV] at hHeld Hcb HBL HJ HI HE HT ⊢
          clear hV
          refine wpAnyH_ready (rs := [22]) (by kernel_rfl) (by simp) (AllReadyH.cons (o := ({ dst := none, op := Op.store 63 (Operand.tmp 5) (Operand.tmp 19), type := 0, pos := "letter.go:33", after := af22, guard := none })) rfl (fun K hK => ?_) AllReadyH.nil)
          have q0 := HE.out.cell (i := 0) rfl; have q1 := HE.out.cell (i := 1) rfl; have qf := HE.out.free
          go_simp
          clear hHeld q0 q1 qf
          replace Hcb := Lib.hid (cell_set2 Hcb.out (show ¬ XE = n by omega) sE (pt g 3))
          replace HBL := Lib.hid (below_set2 HBL.out (show n ≤ XE by omega) sE (pt g 3))
          replace HE := Lib.hid (blk_set2 HE.out sE (pt g 3))
          replace HJ := Lib.hid (blk_off2 HJ.out (show ¬ XE = XJ by omega) sE (pt g 3))
          replace HI := Lib.hid (blk_off2 HI.out (show ¬ XE = XI by omega) sE (pt g 3))
          replace HT := Lib.hid (blk_off2 HT.out (show ¬ XE = XT by omega) sE (pt g 3))
          refine hK.out _ _ Hcb.out (fun hHeld => ?_)
          clear hK K
          try simp only [Act.put, List.setIfInBounds_toArray, List.set_cons_zero, List.set_cons_succ]
          obtain ⟨V7, hV⟩ : ∃ V, (V6.setCell ⟨XE, 0, none⟩ sE).setCell ⟨XE, 1, none⟩ (pt g 3) = V := ⟨_, rfl⟩
          rw [hV] at hHeld Hcb HBL HJ HI HE HT ⊢
          clear hV
          refine wpAnyH_ready (rs := [23]) (by kernel_rfl) (by simp) (AllReadyH.cons (o := ({ dst := none, op := Op.store 63 (Operand.tmp 6) (Operand.tmp 23), type := 0, pos := "letter.go:33", after := af23, guard := none })) rfl (fun K hK => ?_) AllReadyH.nil)
          have q0 := HT.out.cell (i := 0) rfl; have q1 := HT.out.cell (i := 1) rfl; have qf := HT.out.free
          go_simp
          clear hHeld q0 q1 qf
          replace Hcb := Lib.hid (cell_set2 Hcb.out (show ¬ XT = n by omega) sT (pt g 6))
          replace HBL := Lib.hid (below_set2 HBL.out (show n ≤ XT by omega) sT (pt g 6))
          replace HT := Lib.hid (blk_set2 HT.out sT (pt g 6))
          replace HJ := Lib.hid (blk_off2 HJ.out (show ¬ XT = XJ by omega) sT (pt g 6))
          replace HI := Lib.hid (blk_off2 HI.out (show ¬ XT = XI by omega) sT (pt g 6))
          replace HE := Lib.hid (blk_off2 HE.out (show ¬ XT = XE by omega) sT (pt g 6))
          refine hK.out _ _ Hcb.out (fun hHeld => ?_)
          clear hK K
          try simp only [Act.put, List.setIfInBounds_toArray, List.set_cons_zero, List.set_cons_succ]
          obtain ⟨V8, hV⟩ : ∃ V, (V7.setCell ⟨XT, 0, none⟩ sT).setCell ⟨XT, 1, none⟩ (pt g 6) = V := ⟨_, rfl⟩
          rw [hV] at hHeld Hcb HBL HJ HI HE HT ⊢
          clear hV
          refine wpAnyH_done (by kernel_rfl) ?_ _
          clear hHeld
          go_wp2_with fail
          go_meet
          exact ⟨XJ, XI, XE, XT, rfl, rfl, rfl, rfl, HJ.out, HI.out, HE.out, HT.out, Hcb.out, HBL.out, lJ, lI, lE, lT⟩
        · go_simp
          clear hHeld
          replace Hcb := Lib.hid (keepA Hcb.out zPt)
          replace HBL := Lib.hid (HBL.out.alloc (Nat.le_of_lt HSZ.out) zPt)
          have HT := Lib.hid (Blk.new V2 #[.string ⟨#[]⟩, .pointer none] 63)
          replace HE := Lib.hid (HE.out.alloc zPt)
          replace HJ := Lib.hid (HJ.out.alloc zPt)
          have lT : n < V2.heap.size := HSZ.out
          have nET : XE < V2.heap.size := hE
          have nJT : XJ < V2.heap.size := hJ
          replace HSZ := Lib.hid (size_up HSZ.out zPt)
          replace hE := size_up hE zPt
          replace hJ := size_up hJ zPt
          have hT := size_self V2 zPt
          refine hK.out _ _ Hcb.out (fun hHeld => ?_)
          clear hK K
          try simp only [Act.put, List.setIfInBounds_toArray, List.set_cons_zero, List.set_cons_succ]
          obtain ⟨XT, hX⟩ : ∃ X, V2.heap.size = X := ⟨_, rfl⟩
          obtain ⟨V3, hV⟩ : ∃ V, V2.alloc zPt = V := ⟨_, rfl⟩
          rw [hX] at HT hT lT nET nJT ⊢
          rw [hV] at hHeld Hcb HBL HSZ HE hE HJ hJ HT hT ⊢
          clear hX hV
          refine wpAnyH_ready (rs := [17]) (by kernel_rfl) (by simp) (AllReadyH.cons (o := ({ dst := some 4, op := Op.alloc 63, type := 0, pos := "letter.go:33", after := #[], guard := none })) rfl (fun K hK => ?_) AllReadyH.nil)
          go_simp
          clear hHeld
          replace Hcb := Lib.hid (keepA Hcb.out zPt)
          replace HBL := Lib.hid (HBL.out.alloc (Nat.le_of_lt HSZ.out) zPt)
          have HI := Lib.hid (Blk.new V3 #[.string ⟨#[]⟩, .pointer none] 63)
          replace HE := Lib.hid (HE.out.alloc zPt)
          replace HJ := Lib.hid (HJ.out.alloc zPt)
          replace HT := Lib.hid (HT.out.alloc zPt)
          have lI : n < V3.heap.size := HSZ.out
          have nEI : XE < V3.heap.size := hE
          have nJI : XJ < V3.heap.size := hJ
          have nTI : XT < V3.heap.size := hT
          replace HSZ := Lib.hid (size_up HSZ.out zPt)
          replace hE := size_up hE zPt
          replace hJ := size_up hJ zPt
          replace hT := size_up hT zPt
          have hI := size_self V3 zPt
          refine hK.out _ _ Hcb.out (fun hHeld => ?_)
          clear hK K
          try simp only [Act.put, List.setIfInBounds_toArray, List.set_cons_zero, List.set_cons_succ]
          obtain ⟨XI, hX⟩ : ∃ X, V3.heap.size = X := ⟨_, rfl⟩
          obtain ⟨V4, hV⟩ : ∃ V, V3.alloc zPt = V := ⟨_, rfl⟩
          rw [hX] at HI hI lI nEI nJI nTI ⊢
          rw [hV] at hHeld Hcb HBL HSZ HE hE HJ hJ HT hT HI hI ⊢
          clear hX hV
          refine wpAnyH_ready (rs := [20]) (by kernel_rfl) (by simp) (AllReadyH.cons (o := ({ dst := none, op := Op.store 63 (Operand.tmp 3) (Operand.tmp 11), type := 0, pos := "letter.go:33", after := af20, guard := none })) rfl (fun K hK => ?_) AllReadyH.nil)
          have q0 := HJ.out.cell (i := 0) rfl; have q1 := HJ.out.cell (i := 1) rfl; have qf := HJ.out.free
          go_simp
          clear hHeld q0 q1 qf
          replace Hcb := Lib.hid (cell_set2 Hcb.out (show ¬ XJ = n by omega) sJ (pt g 5))
          replace HBL := Lib.hid (below_set2 HBL.out (show n ≤ XJ by omega) sJ (pt g 5))
          replace HJ := Lib.hid (blk_set2 HJ.out sJ (pt g 5))
          replace HI := Lib.hid (blk_off2 HI.out (show ¬ XJ = XI by omega) sJ (pt g 5))
          replace HE := Lib.hid (blk_off2 HE.out (show ¬ XJ = XE by omega) sJ (pt g 5))
          replace HT := Lib.hid (blk_off2 HT.out (show ¬ XJ = XT by omega) sJ (pt g 5))
          refine hK.out _ _ Hcb.out (fun hHeld => ?_)
          clear hK K
          try simp only [Act.put, List.setIfInBounds_toArray, List.set_cons_zero, List.set_cons_succ]
          obtain ⟨V5, hV⟩ : ∃ V, (V4.setCell ⟨XJ, 0, none⟩ sJ).setCell ⟨XJ, 1, none⟩ (pt g 5) = V := ⟨_, rfl⟩
          rw [hV] at hHeld Hcb HBL HJ HI HE HT ⊢
          clear hV
          refine wpAnyH_ready (rs := [21]) (by kernel_rfl) (by simp) (AllReadyH.cons (o := ({ dst := none, op := Op.store 63 (Operand.tmp 4) (Operand.tmp 15), type := 0, pos := "letter.go:33", after := af21, guard := none })) rfl (fun K hK => ?_) AllReadyH.nil)
          have q0 := HI.out.cell (i := 0) rfl; have q1 := HI.out.cell (i := 1) rfl; have qf := HI.out.free
          go_simp
          clear hHeld q0 q1 qf
          replace Hcb := Lib.hid (cell_set2 Hcb.out (show ¬ XI = n by omega) sI (pt g 4))
          replace HBL := Lib.hid (below_set2 HBL.out (show n ≤ XI by omega) sI (pt g 4))
          replace HI := Lib.hid (blk_set2 HI.out sI (pt g 4))
          replace HJ := Lib.hid (blk_off2 HJ.out (show ¬ XI = XJ by omega) sI (pt g 4))
          replace HE := Lib.hid (blk_off2 HE.out (show ¬ XI = XE by omega) sI (pt g 4))
          replace HT := Lib.hid (blk_off2 HT.out (show ¬ XI = XT by omega) sI (pt g 4))
          refine hK.out _ _ Hcb.out (fun hHeld => ?_)
          clear hK K
          try simp only [Act.put, List.setIfInBounds_toArray, List.set_cons_zero, List.set_cons_succ]
          obtain ⟨V6, hV⟩ : ∃ V, (V5.setCell ⟨XI, 0, none⟩ sI).setCell ⟨XI, 1, none⟩ (pt g 4) = V := ⟨_, rfl⟩
          rw [hV] at hHeld Hcb HBL HJ HI HE HT ⊢
          clear hV
          refine wpAnyH_ready (rs := [22]) (by kernel_rfl) (by simp) (AllReadyH.cons (o := ({ dst := none, op := Op.store 63 (Operand.tmp 5) (Operand.tmp 19), type := 0, pos := "letter.go:33", after := af22, guard := none })) rfl (fun K hK => ?_) AllReadyH.nil)
          have q0 := HE.out.cell (i := 0) rfl; have q1 := HE.out.cell (i := 1) rfl; have qf := HE.out.free
          go_simp
          clear hHeld q0 q1 qf
          replace Hcb := Lib.hid (cell_set2 Hcb.out (show ¬ XE = n by omega) sE (pt g 3))
          replace HBL := Lib.hid (below_set2 HBL.out (show n ≤ XE by omega) sE (pt g 3))
          replace HE := Lib.hid (blk_set2 HE.out sE (pt g 3))
          replace HJ := Lib.hid (blk_off2 HJ.out (show ¬ XE = XJ by omega) sE (pt g 3))
          replace HI := Lib.hid (blk_off2 HI.out (show ¬ XE = XI by omega) sE (pt g 3))
          replace HT := Lib.hid (blk_off2 HT.out (show ¬ XE = XT by omega) sE (pt g 3))
          refine hK.out _ _ Hcb.out (fun hHeld => ?_)
          clear hK K
          try simp only [Act.put, List.setIfInBounds_toArray, List.set_cons_zero, List.set_cons_succ]
          obtain ⟨V7, hV⟩ : ∃ V, (V6.setCell ⟨XE, 0, none⟩ sE).setCell ⟨XE, 1, none⟩ (pt g 3) = V := ⟨_, rfl⟩
          rw [hV] at hHeld Hcb HBL HJ HI HE HT ⊢
          clear hV
          refine wpAnyH_ready (rs := [23]) (by kernel_rfl) (by simp) (AllReadyH.cons (o := ({ dst := none, op := Op.store 63 (Operand.tmp 6) (Operand.tmp 23), type := 0, pos := "letter.go:33", after := af23, guard := none })) rfl (fun K hK => ?_) AllReadyH.nil)
          have q0 := HT.out.cell (i := 0) rfl; have q1 := HT.out.cell (i := 1) rfl; have qf := HT.out.free
          go_simp
          clear hHeld q0 q1 qf
          replace Hcb := Lib.hid (cell_set2 Hcb.out (show ¬ XT = n by omega) sT (pt g 6))
          replace HBL := Lib.hid (below_set2 HBL.out (show n ≤ XT by omega) sT (pt g 6))
          replace HT := Lib.hid (blk_set2 HT.out sT (pt g 6))
          replace HJ := Lib.hid (blk_off2 HJ.out (show ¬ XT = XJ by omega) sT (pt g 6))
          replace HI := Lib.hid (blk_off2 HI.out (show ¬ XT = XI by omega) sT (pt g 6))
          replace HE := Lib.hid (blk_off2 HE.out (show ¬ XT = XE by omega) sT (pt g 6))
          refine hK.out _ _ Hcb.out (fun hHeld => ?_)
          clear hK K
          try simp only [Act.put, List.setIfInBounds_toArray, List.set_cons_zero, List.set_cons_succ]
          obtain ⟨V8, hV⟩ : ∃ V, (V7.setCell ⟨XT, 0, none⟩ sT).setCell ⟨XT, 1, none⟩ (pt g 6) = V := ⟨_, rfl⟩
          rw [hV] at hHeld Hcb HBL HJ HI HE HT ⊢
          clear hV
          refine wpAnyH_done (by kernel_rfl) ?_ _
          clear hHeld
          go_wp2_with fail
          go_meet
          exact ⟨XJ, XI, XE, XT, rfl, rfl, rfl, rfl, HJ.out, HI.out, HE.out, HT.out, Hcb.out, HBL.out, lJ, lI, lE, lT⟩
      · go_simp
        clear hHeld
        replace Hcb := Lib.hid (keepA Hcb.out zPt)
        replace HBL := Lib.hid (HBL.out.alloc (Nat.le_of_lt HSZ.out) zPt)
        have HI := Lib.hid (Blk.new V1 #[.string ⟨#[]⟩, .pointer none] 63)
        replace HE := Lib.hid (HE.out.alloc zPt)
        have lI : n < V1.heap.size := HSZ.out
        have nEI : XE < V1.heap.size := hE
        replace HSZ := Lib.hid (size_up HSZ.out zPt)
        replace hE := size_up hE zPt
        have hI := size_self V1 zPt
        refine hK.out _ _ Hcb.out (fun hHeld => ?_)
        clear hK K
        try simp only [Act.put, List.setIfInBounds_toArray, List.set_cons_zero, List.set_cons_succ]
        obtain ⟨XI, hX⟩ : ∃ X, V1.heap.size = X := ⟨_, rfl⟩
        obtain ⟨V2, hV⟩ : ∃ V, V1.alloc zPt = V := ⟨_, rfl⟩
        rw [hX] at HI hI lI nEI ⊢
        rw [hV] at hHeld Hcb HBL HSZ HE hE HI hI ⊢
        clear hX hV
        refine wpAnyH_ready (rs := [16, 19]) (by kernel_rfl) (by simp) (AllReadyH.cons (o := ({ dst := some 3, op := Op.alloc 63, type := 0, pos := "letter.go:33", after := #[], guard := none })) rfl (fun K hK => ?_) (AllReadyH.cons (o := ({ dst := some 6, op := Op.alloc 63, type := 0, pos := "letter.go:33", after := #[], guard := none })) rfl (fun K hK => ?_) AllReadyH.nil))
        · go_simp
          clear hHeld
          replace Hcb := Lib.hid (keepA Hcb.out zPt)
          replace HBL := Lib.hid (HBL.out.alloc (Nat.le_of_lt HSZ.out) zPt)
          have HJ := Lib.hid (Blk.new V2 #[.string ⟨#[]⟩, .pointer none] 63)
          replace HE := Lib.hid (HE.out.alloc zPt)
          replace HI := Lib.hid (HI.out.alloc zPt)
          have lJ : n < V2.heap.size := HSZ.out
          have nEJ : XE < V2.heap.size := hE
          have nIJ : XI < V2.heap.size := hI
          replace HSZ := Lib.hid (size_up HSZ.out zPt)
          replace hE := size_up hE zPt
          replace hI := size_up hI zPt
          have hJ := size_self V2 zPt
          refine hK.out _ _ Hcb.out (fun hHeld => ?_)
          clear hK K
          try simp only [Act.put, List.setIfInBounds_toArray, List.set_cons_zero, List.set_cons_succ]
          obtain ⟨XJ, hX⟩ : ∃ X, V2.heap.size = X := ⟨_, rfl⟩
          obtain ⟨V3, hV⟩ : ∃ V, V2.alloc zPt = V := ⟨_, rfl⟩
          rw [hX] at HJ hJ lJ nEJ nIJ ⊢
          rw [hV] at hHeld Hcb HBL HSZ HE hE HI hI HJ hJ ⊢
          clear hX hV
          refine wpAnyH_ready (rs := [19]) (by kernel_rfl) (by simp) (AllReadyH.cons (o := ({ dst := some 6, op := Op.alloc 63, type := 0, pos := "letter.go:33", after := #[], guard := none })) rfl (fun K hK => ?_) AllReadyH.nil)
          go_simp
          clear hHeld
          replace Hcb := Lib.hid (keepA Hcb.out zPt)
          replace HBL := Lib.hid (HBL.out.alloc (Nat.le_of_lt HSZ.out) zPt)
          have HT := Lib.hid (Blk.new V3 #[.string ⟨#[]⟩, .pointer none] 63)
          replace HE := Lib.hid (HE.out.alloc zPt)
          replace HI := Lib.hid (HI.out.alloc zPt)
          replace HJ := Lib.hid (HJ.out.alloc zPt)
          have lT : n < V3.heap.size := HSZ.out
          have nET : XE < V3.heap.size := hE
          have nIT : XI < V3.heap.size := hI
          have nJT : XJ < V3.heap.size := hJ
          replace HSZ := Lib.hid (size_up HSZ.out zPt)
          replace hE := size_up hE zPt
          replace hI := size_up hI zPt
          replace hJ := size_up hJ zPt
          have hT := size_self V3 zPt
          refine hK.out _ _ Hcb.out (fun hHeld => ?_)
          clear hK K
          try simp only [Act.put, List.setIfInBounds_toArray, List.set_cons_zero, List.set_cons_succ]
          obtain ⟨XT, hX⟩ : ∃ X, V3.heap.size = X := ⟨_, rfl⟩
          obtain ⟨V4, hV⟩ : ∃ V, V3.alloc zPt = V := ⟨_, rfl⟩
          rw [hX] at HT hT lT nET nIT nJT ⊢
          rw [hV] at hHeld Hcb HBL HSZ HE hE HI hI HJ hJ HT hT ⊢
          clear hX hV
          refine wpAnyH_ready (rs := [20]) (by kernel_rfl) (by simp) (AllReadyH.cons (o := ({ dst := none, op := Op.store 63 (Operand.tmp 3) (Operand.tmp 11), type := 0, pos := "letter.go:33", after := af20, guard := none })) rfl (fun K hK => ?_) AllReadyH.nil)
          have q0 := HJ.out.cell (i := 0) rfl; have q1 := HJ.out.cell (i := 1) rfl; have qf := HJ.out.free
          go_simp
          clear hHeld q0 q1 qf
          replace Hcb := Lib.hid (cell_set2 Hcb.out (show ¬ XJ = n by omega) sJ (pt g 5))
          replace HBL := Lib.hid (below_set2 HBL.out (show n ≤ XJ by omega) sJ (pt g 5))
          replace HJ := Lib.hid (blk_set2 HJ.out sJ (pt g 5))
          replace HI := Lib.hid (blk_off2 HI.out (show ¬ XJ = XI by omega) sJ (pt g 5))
          replace HE := Lib.hid (blk_off2 HE.out (show ¬ XJ = XE by omega) sJ (pt g 5))
          replace HT := Lib.hid (blk_off2 HT.out (show ¬ XJ = XT by omega) sJ (pt g 5))
          refine hK.out _ _ Hcb.out (fun hHeld => ?_)
          clear hK K
          try simp only [Act.put, List.setIfInBounds_toArray, List.set_cons_zero, List.set_cons_succ]
          obtain ⟨V5, hV⟩ : ∃ V, (V4.setCell ⟨XJ, 0, none⟩ sJ).setCell ⟨XJ, 1, none⟩ (pt g 5) = V := ⟨_, rfl⟩
          rw [hV] at hHeld Hcb HBL HJ HI HE HT ⊢
          clear hV
          refine wpAnyH_ready (rs := [21]) (by kernel_rfl) (by simp) (AllReadyH.cons (o := ({ dst := none, op := Op.store 63 (Operand.tmp 4) (Operand.tmp 15), type := 0, pos := "letter.go:33", after := af21, guard := none })) rfl (fun K hK => ?_) AllReadyH.nil)
          have q0 := HI.out.cell (i := 0) rfl; have q1 := HI.out.cell (i := 1) rfl; have qf := HI.out.free
          go_simp
          clear hHeld q0 q1 qf
          replace Hcb := Lib.hid (cell_set2 Hcb.out (show ¬ XI = n by omega) sI (pt g 4))
          replace HBL := Lib.hid (below_set2 HBL.out (show n ≤ XI by omega) sI (pt g 4))
          replace HI := Lib.hid (blk_set2 HI.out sI (pt g 4))
          replace HJ := Lib.hid (blk_off2 HJ.out (show ¬ XI = XJ by omega) sI (pt g 4))
          replace HE := Lib.hid (blk_off2 HE.out (show ¬ XI = XE by omega) sI (pt g 4))
          replace HT := Lib.hid (blk_off2 HT.out (show ¬ XI = XT by omega) sI (pt g 4))
          refine hK.out _ _ Hcb.out (fun hHeld => ?_)
          clear hK K
          try simp only [Act.put, List.setIfInBounds_toArray, List.set_cons_zero, List.set_cons_succ]
          obtain ⟨V6, hV⟩ : ∃ V, (V5.setCell ⟨XI, 0, none⟩ sI).setCell ⟨XI, 1, none⟩ (pt g 4) = V := ⟨_, rfl⟩
          rw [hV] at hHeld Hcb HBL HJ HI HE HT ⊢
          clear hV
          refine wpAnyH_ready (rs := [22]) (by kernel_rfl) (by simp) (AllReadyH.cons (o := ({ dst := none, op := Op.store 63 (Operand.tmp 5) (Operand.tmp 19), type := 0, pos := "letter.go:33", after := af22, guard := none })) rfl (fun K hK => ?_) AllReadyH.nil)
          have q0 := HE.out.cell (i := 0) rfl; have q1 := HE.out.cell (i := 1) rfl; have qf := HE.out.free
          go_simp
          clear hHeld q0 q1 qf
          replace Hcb := Lib.hid (cell_set2 Hcb.out (show ¬ XE = n by omega) sE (pt g 3))
          replace HBL := Lib.hid (below_set2 HBL.out (show n ≤ XE by omega) sE (pt g 3))
          replace HE := Lib.hid (blk_set2 HE.out sE (pt g 3))
          replace HJ := Lib.hid (blk_off2 HJ.out (show ¬ XE = XJ by omega) sE (pt g 3))
          replace HI := Lib.hid (blk_off2 HI.out (show ¬ XE = XI by omega) sE (pt g 3))
          replace HT := Lib.hid (blk_off2 HT.out (show ¬ XE = XT by omega) sE (pt g 3))
          refine hK.out _ _ Hcb.out (fun hHeld => ?_)
          clear hK K
          try simp only [Act.put, List.setIfInBounds_toArray, List.set_cons_zero, List.set_cons_succ]
          obtain ⟨V7, hV⟩ : ∃ V, (V6.setCell ⟨XE, 0, none⟩ sE).setCell ⟨XE, 1, none⟩ (pt g 3) = V := ⟨_, rfl⟩
          rw [hV] at hHeld Hcb HBL HJ HI HE HT ⊢
          clear hV
          refine wpAnyH_ready (rs := [23]) (by kernel_rfl) (by simp) (AllReadyH.cons (o := ({ dst := none, op := Op.store 63 (Operand.tmp 6) (Operand.tmp 23), type := 0, pos := "letter.go:33", after := af23, guard := none })) rfl (fun K hK => ?_) AllReadyH.nil)
          have q0 := HT.out.cell (i := 0) rfl; have q1 := HT.out.cell (i := 1) rfl; have qf := HT.out.free
          go_simp
          clear hHeld q0 q1 qf
          replace Hcb := Lib.hid (cell_set2 Hcb.out (show ¬ XT = n by omega) sT (pt g 6))
          replace HBL := Lib.hid (below_set2 HBL.out (show n ≤ XT by omega) sT (pt g 6))
          replace HT := Lib.hid (blk_set2 HT.out sT (pt g 6))
          replace HJ := Lib.hid (blk_off2 HJ.out (show ¬ XT = XJ by omega) sT (pt g 6))
          replace HI := Lib.hid (blk_off2 HI.out (show ¬ XT = XI by omega) sT (pt g 6))
          replace HE := Lib.hid (blk_off2 HE.out (show ¬ XT = XE by omega) sT (pt g 6))
          refine hK.out _ _ Hcb.out (fun hHeld => ?_)
          clear hK K
          try simp only [Act.put, List.setIfInBounds_toArray, List.set_cons_zero, List.set_cons_succ]
          obtain ⟨V8, hV⟩ : ∃ V, (V7.setCell ⟨XT, 0, none⟩ sT).setCell ⟨XT, 1, none⟩ (pt g 6) = V := ⟨_, rfl⟩
          rw [hV] at hHeld Hcb HBL HJ HI HE HT ⊢
          clear hV
          refine wpAnyH_done (by kernel_rfl) ?_ _
          clear hHeld
          go_wp2_with fail
          go_meet
          exact ⟨XJ, XI, XE, XT, rfl, rfl, rfl, rfl, HJ.out, HI.out, HE.out, HT.out, Hcb.out, HBL.out, lJ, lI, lE, lT⟩
        · go_simp
          clear hHeld
          replace Hcb := Lib.hid (keepA Hcb.out zPt)
          replace HBL := Lib.hid (HBL.out.alloc (Nat.le_of_lt HSZ.out) zPt)
          have HT := Lib.hid (Blk.new V2 #[.string ⟨#[]⟩, .pointer none] 63)
          replace HE := Lib.hid (HE.out.alloc zPt)
          replace HI := Lib.hid (HI.out.alloc zPt)
          have lT : n < V2.heap.size := HSZ.out
          have nET : XE < V2.heap.size := hE
          have nIT : XI < V2.heap.size := hI
          replace HSZ := Lib.hid (size_up HSZ.out zPt)
          replace hE := size_up hE zPt
          replace hI := size_up hI zPt
          have hT := size_self V2 zPt
          refine hK.out _ _ Hcb.out (fun hHeld => ?_)
          clear hK K
          try simp only [Act.put, List.setIfInBounds_toArray, List.set_cons_zero, List.set_cons_succ]
          obtain ⟨XT, hX⟩ : ∃ X, V2.heap.size = X := ⟨_, rfl⟩
          obtain ⟨V3, hV⟩ : ∃ V, V2.alloc zPt = V := ⟨_, rfl⟩
          rw [hX] at HT hT lT nET nIT ⊢
          rw [hV] at hHeld Hcb HBL HSZ HE hE HI hI HT hT ⊢
          clear hX hV
          refine wpAnyH_ready (rs := [16]) (by kernel_rfl) (by simp) (AllReadyH.cons (o := ({ dst := some 3, op := Op.alloc 63, type := 0, pos := "letter.go:33", after := #[], guard := none })) rfl (fun K hK => ?_) AllReadyH.nil)
          go_simp
          clear hHeld
          replace Hcb := Lib.hid (keepA Hcb.out zPt)
          replace HBL := Lib.hid (HBL.out.alloc (Nat.le_of_lt HSZ.out) zPt)
          have HJ := Lib.hid (Blk.new V3 #[.string ⟨#[]⟩, .pointer none] 63)
          replace HE := Lib.hid (HE.out.alloc zPt)
          replace HI := Lib.hid (HI.out.alloc zPt)
          replace HT := Lib.hid (HT.out.alloc zPt)
          have lJ : n < V3.heap.size := HSZ.out
          have nEJ : XE < V3.heap.size := hE
          have nIJ : XI < V3.heap.size := hI
          have nTJ : XT < V3.heap.size := hT
          replace HSZ := Lib.hid (size_up HSZ.out zPt)
          replace hE := size_up hE zPt
          replace hI := size_up hI zPt
          replace hT := size_up hT zPt
          have hJ := size_self V3 zPt
          refine hK.out _ _ Hcb.out (fun hHeld => ?_)
          clear hK K
          try simp only [Act.put, List.setIfInBounds_toArray, List.set_cons_zero, List.set_cons_succ]
          obtain ⟨XJ, hX⟩ : ∃ X, V3.heap.size = X := ⟨_, rfl⟩
          obtain ⟨V4, hV⟩ : ∃ V, V3.alloc zPt = V := ⟨_, rfl⟩
          rw [hX] at HJ hJ lJ nEJ nIJ nTJ ⊢
          rw [hV] at hHeld Hcb HBL HSZ HE hE HI hI HT hT HJ hJ ⊢
          clear hX hV
          refine wpAnyH_ready (rs := [20]) (by kernel_rfl) (by simp) (AllReadyH.cons (o := ({ dst := none, op := Op.store 63 (Operand.tmp 3) (Operand.tmp 11), type := 0, pos := "letter.go:33", after := af20, guard := none })) rfl (fun K hK => ?_) AllReadyH.nil)
          have q0 := HJ.out.cell (i := 0) rfl; have q1 := HJ.out.cell (i := 1) rfl; have qf := HJ.out.free
          go_simp
          clear hHeld q0 q1 qf
          replace Hcb := Lib.hid (cell_set2 Hcb.out (show ¬ XJ = n by omega) sJ (pt g 5))
          replace HBL := Lib.hid (below_set2 HBL.out (show n ≤ XJ by omega) sJ (pt g 5))
          replace HJ := Lib.hid (blk_set2 HJ.out sJ (pt g 5))
          replace HI := Lib.hid (blk_off2 HI.out (show ¬ XJ = XI by omega) sJ (pt g 5))
          replace HE := Lib.hid (blk_off2 HE.out (show ¬ XJ = XE by omega) sJ (pt g 5))
          replace HT := Lib.hid (blk_off2 HT.out (show ¬ XJ = XT by omega) sJ (pt g 5))
          refine hK.out _ _ Hcb.out (fun hHeld => ?_)
          clear hK K
          try simp only [Act.put, List.setIfInBounds_toArray, List.set_cons_zero, List.set_cons_succ]
          obtain ⟨V5, hV⟩ : ∃ V, (V4.setCell ⟨XJ, 0, none⟩ sJ).setCell ⟨XJ, 1, none⟩ (pt g 5) = V := ⟨_, rfl⟩
          rw [hV] at hHeld Hcb HBL HJ HI HE HT ⊢
          clear hV
          refine wpAnyH_ready (rs := [21]) (by kernel_rfl) (by simp) (AllReadyH.cons (o := ({ dst := none, op := Op.store 63 (Operand.tmp 4) (Operand.tmp 15), type := 0, pos := "letter.go:33", after := af21, guard := none })) rfl (fun K hK => ?_) AllReadyH.nil)
          have q0 := HI.out.cell (i := 0) rfl; have q1 := HI.out.cell (i := 1) rfl; have qf := HI.out.free
          go_simp
          clear hHeld q0 q1 qf
          replace Hcb := Lib.hid (cell_set2 Hcb.out (show ¬ XI = n by omega) sI (pt g 4))
          replace HBL := Lib.hid (below_set2 HBL.out (show n ≤ XI by omega) sI (pt g 4))
          replace HI := Lib.hid (blk_set2 HI.out sI (pt g 4))
          replace HJ := Lib.hid (blk_off2 HJ.out (show ¬ XI = XJ by omega) sI (pt g 4))
          replace HE := Lib.hid (blk_off2 HE.out (show ¬ XI = XE by omega) sI (pt g 4))
          replace HT := Lib.hid (blk_off2 HT.out (show ¬ XI = XT by omega) sI (pt g 4))
          refine hK.out _ _ Hcb.out (fun hHeld => ?_)
          clear hK K
          try simp only [Act.put, List.setIfInBounds_toArray, List.set_cons_zero, List.set_cons_succ]
          obtain ⟨V6, hV⟩ : ∃ V, (V5.setCell ⟨XI, 0, none⟩ sI).setCell ⟨XI, 1, none⟩ (pt g 4) = V := ⟨_, rfl⟩
          rw [hV] at hHeld Hcb HBL HJ HI HE HT ⊢
          clear hV
          refine wpAnyH_ready (rs := [22]) (by kernel_rfl) (by simp) (AllReadyH.cons (o := ({ dst := none, op := Op.store 63 (Operand.tmp 5) (Operand.tmp 19), type := 0, pos := "letter.go:33", after := af22, guard := none })) rfl (fun K hK => ?_) AllReadyH.nil)
          have q0 := HE.out.cell (i := 0) rfl; have q1 := HE.out.cell (i := 1) rfl; have qf := HE.out.free
          go_simp
          clear hHeld q0 q1 qf
          replace Hcb := Lib.hid (cell_set2 Hcb.out (show ¬ XE = n by omega) sE (pt g 3))
          replace HBL := Lib.hid (below_set2 HBL.out (show n ≤ XE by omega) sE (pt g 3))
          replace HE := Lib.hid (blk_set2 HE.out sE (pt g 3))
          replace HJ := Lib.hid (blk_off2 HJ.out (show ¬ XE = XJ by omega) sE (pt g 3))
          replace HI := Lib.hid (blk_off2 HI.out (show ¬ XE = XI by omega) sE (pt g 3))
          replace HT := Lib.hid (blk_off2 HT.out (show ¬ XE = XT by omega) sE (pt g 3))
          refine hK.out _ _ Hcb.out (fun hHeld => ?_)
          clear hK K
          try simp only [Act.put, List.setIfInBounds_toArray, List.set_cons_zero, List.set_cons_succ]
          obtain ⟨V7, hV⟩ : ∃ V, (V6.setCell ⟨XE, 0, none⟩ sE).setCell ⟨XE, 1, none⟩ (pt g 3) = V := ⟨_, rfl⟩
          rw [hV] at hHeld Hcb HBL HJ HI HE HT ⊢
          clear hV
          refine wpAnyH_ready (rs := [23]) (by kernel_rfl) (by simp) (AllReadyH.cons (o := ({ dst := none, op := Op.store 63 (Operand.tmp 6) (Operand.tmp 23), type := 0, pos := "letter.go:33", after := af23, guard := none })) rfl (fun K hK => ?_) AllReadyH.nil)
          have q0 := HT.out.cell (i := 0) rfl; have q1 := HT.out.cell (i := 1) rfl; have qf := HT.out.free
          go_simp
          clear hHeld q0 q1 qf
          replace Hcb := Lib.hid (cell_set2 Hcb.out (show ¬ XT = n by omega) sT (pt g 6))
          replace HBL := Lib.hid (below_set2 HBL.out (show n ≤ XT by omega) sT (pt g 6))
          replace HT := Lib.hid (blk_set2 HT.out sT (pt g 6))
          replace HJ := Lib.hid (blk_off2 HJ.out (show ¬ XT = XJ by omega) sT (pt g 6))
          replace HI := Lib.hid (blk_off2 HI.out (show ¬ XT = XI by omega) sT (pt g 6))
          replace HE := Lib.hid (blk_off2 HE.out (show ¬ XT = XE by omega) sT (pt g 6))
          refine hK.out _ _ Hcb.out (fun hHeld => ?_)
          clear hK K
          try simp only [Act.put, List.setIfInBounds_toArray, List.set_cons_zero, List.set_cons_succ]
          obtain ⟨V8, hV⟩ : ∃ V, (V7.setCell ⟨XT, 0, none⟩ sT).setCell ⟨XT, 1, none⟩ (pt g 6) = V := ⟨_, rfl⟩
          rw [hV] at hHeld Hcb HBL HJ HI HE HT ⊢
          clear hV
          refine wpAnyH_done (by kernel_rfl) ?_ _
          clear hHeld
          go_wp2_with fail
          go_meet
          exact ⟨XJ, XI, XE, XT, rfl, rfl, rfl, rfl, HJ.out, HI.out, HE.out, HT.out, Hcb.out, HBL.out, lJ, lI, lE, lT⟩
      · go_simp
        clear hHeld
        replace Hcb := Lib.hid (keepA Hcb.out zPt)
        replace HBL := Lib.hid (HBL.out.alloc (Nat.le_of_lt HSZ.out) zPt)
        have HT := Lib.hid (Blk.new V1 #[.string ⟨#[]⟩, .pointer none] 63)
        replace HE := Lib.hid (HE.out.alloc zPt)
        have lT : n < V1.heap.size := HSZ.out
        have nET : XE < V1.heap.size := hE
        replace HSZ := Lib.hid (size_up HSZ.out zPt)
        replace hE := size_up hE zPt
        have hT := size_self V1 zPt
        refine hK.out _ _ Hcb.out (fun hHeld => ?_)
        clear hK K
        try simp only [Act.put, List.setIfInBounds_toArray, List.set_cons_zero, List.set_cons_succ]
        obtain ⟨XT, hX⟩ : ∃ X, V1.heap.size = X := ⟨_, rfl⟩
        obtain ⟨V2, hV⟩ : ∃ V, V1.alloc zPt = V := ⟨_, rfl⟩
        rw [hX] at HT hT lT nET ⊢
        rw [hV] at hHeld Hcb HBL HSZ HE hE HT hT ⊢
        clear hX hV
        refine wpAnyH_ready (rs := [16, 17]) (by kernel_rfl) (by simp) (AllReadyH.cons (o := ({ dst := some 3, op := Op.alloc 63, type := 0, pos := "letter.go:33", after := #[], guard := none })) rfl (fun K hK => ?_) (AllReadyH.cons (o := ({ dst := some 4, op := Op.alloc 63, type := 0, pos := "letter.go:33", after := #[], guard := none })) rfl (fun K hK => ?_) AllReadyH.nil))
        · go_simp
          clear hHeld
          replace Hcb := Lib.hid (keepA Hcb.out zPt)
          replace HBL := Lib.hid (HBL.out.alloc (Nat.le_of_lt HSZ.out) zPt)
          have HJ := Lib.hid (Blk.new V2 #[.string ⟨#[]⟩, .pointer none] 63)
          replace HE := Lib.hid (HE.out.alloc zPt)
          replace HT := Lib.hid (HT.out.alloc zPt)
          have lJ : n < V2.heap.size := HSZ.out
          have nEJ : XE < V2.heap.size := hE
          have nTJ : XT < V2.heap.size := hT
          replace HSZ := Lib.hid (size_up HSZ.out zPt)
          replace hE := size_up hE zPt
          replace hT := size_up hT zPt
          have hJ := size_self V2 zPt
          refine hK.out _ _ Hcb.out (fun hHeld => ?_)
          clear hK K
          try simp only [Act.put, List.setIfInBounds_toArray, List.set_cons_zero, List.set_cons_succ]
          obtain ⟨XJ, hX⟩ : ∃ X, V2.heap.size = X := ⟨_, rfl⟩
          obtain ⟨V3, hV⟩ : ∃ V, V2.alloc zPt = V := ⟨_, rfl⟩
          rw [hX] at HJ hJ lJ nEJ nTJ ⊢
          rw [hV] at hHeld Hcb HBL HSZ HE hE HT hT HJ hJ ⊢
          clear hX hV
          refine wpAnyH_ready (rs := [17]) (by kernel_rfl) (by simp) (AllReadyH.cons (o := ({ dst := some 4, op := Op.alloc 63, type := 0, pos := "letter.go:33", after := #[], guard := none })) rfl (fun K hK => ?_) AllReadyH.nil)
          go_simp
          clear hHeld
          replace Hcb := Lib.hid (keepA Hcb.out zPt)
          replace HBL := Lib.hid (HBL.out.alloc (Nat.le_of_lt HSZ.out) zPt)
          have HI := Lib.hid (Blk.new V3 #[.string ⟨#[]⟩, .pointer none] 63)
          replace HE := Lib.hid (HE.out.alloc zPt)
          replace HT := Lib.hid (HT.out.alloc zPt)
          replace HJ := Lib.hid (HJ.out.alloc zPt)
          have lI : n < V3.heap.size := HSZ.out
          have nEI : XE < V3.heap.size := hE
          have nTI : XT < V3.heap.size := hT
          have nJI : XJ < V3.heap.size := hJ
          replace HSZ := Lib.hid (size_up HSZ.out zPt)
          replace hE := size_up hE zPt
          replace hT := size_up hT zPt
          replace hJ := size_up hJ zPt
          have hI := size_self V3 zPt
          refine hK.out _ _ Hcb.out (fun hHeld => ?_)
          clear hK K
          try simp only [Act.put, List.setIfInBounds_toArray, List.set_cons_zero, List.set_cons_succ]
          obtain ⟨XI, hX⟩ : ∃ X, V3.heap.size = X := ⟨_, rfl⟩
          obtain ⟨V4, hV⟩ : ∃ V, V3.alloc zPt = V := ⟨_, rfl⟩
          rw [hX] at HI hI lI nEI nTI nJI ⊢
          rw [hV] at hHeld Hcb HBL HSZ HE hE HT hT HJ hJ HI hI ⊢
          clear hX hV
          refine wpAnyH_ready (rs := [20]) (by kernel_rfl) (by simp) (AllReadyH.cons (o := ({ dst := none, op := Op.store 63 (Operand.tmp 3) (Operand.tmp 11), type := 0, pos := "letter.go:33", after := af20, guard := none })) rfl (fun K hK => ?_) AllReadyH.nil)
          have q0 := HJ.out.cell (i := 0) rfl; have q1 := HJ.out.cell (i := 1) rfl; have qf := HJ.out.free
          go_simp
          clear hHeld q0 q1 qf
          replace Hcb := Lib.hid (cell_set2 Hcb.out (show ¬ XJ = n by omega) sJ (pt g 5))
          replace HBL := Lib.hid (below_set2 HBL.out (show n ≤ XJ by omega) sJ (pt g 5))
          replace HJ := Lib.hid (blk_set2 HJ.out sJ (pt g 5))
          replace HI := Lib.hid (blk_off2 HI.out (show ¬ XJ = XI by omega) sJ (pt g 5))
          replace HE := Lib.hid (blk_off2 HE.out (show ¬ XJ = XE by omega) sJ (pt g 5))
          replace HT := Lib.hid (blk_off2 HT.out (show ¬ XJ = XT by omega) sJ (pt g 5))
          refine hK.out _ _ Hcb.out (fun hHeld => ?_)
          clear hK K
          try simp only [Act.put, List.setIfInBounds_toArray, List.set_cons_zero, List.set_cons_succ]
          obtain ⟨V5, hV⟩ : ∃ V, (V4.setCell ⟨XJ, 0, none⟩ sJ).setCell ⟨XJ, 1, none⟩ (pt g 5) = V := ⟨_, rfl⟩
          rw [hV] at hHeld Hcb HBL HJ HI HE HT ⊢
          clear hV
          refine wpAnyH_ready (rs := [21]) (by kernel_rfl) (by simp) (AllReadyH.cons (o := ({ dst := none, op := Op.store 63 (Operand.tmp 4) (Operand.tmp 15), type := 0, pos := "letter.go:33", after := af21, guard := none })) rfl (fun K hK => ?_) AllReadyH.nil)
          have q0 := HI.out.cell (i := 0) rfl; have q1 := HI.out.cell (i := 1) rfl; have qf := HI.out.free
          go_simp
          clear hHeld q0 q1 qf
          replace Hcb := Lib.hid (cell_set2 Hcb.out (show ¬ XI = n by omega) sI (pt g 4))
          replace HBL := Lib.hid (below_set2 HBL.out (show n ≤ XI by omega) sI (pt g 4))
          replace HI := Lib.hid (blk_set2 HI.out sI (pt g 4))
          replace HJ := Lib.hid (blk_off2 HJ.out (show ¬ XI = XJ by omega) sI (pt g 4))
          replace HE := Lib.hid (blk_off2 HE.out (show ¬ XI = XE by omega) sI (pt g 4))
          replace HT := Lib.hid (blk_off2 HT.out (show ¬ XI = XT by omega) sI (pt g 4))
          refine hK.out _ _ Hcb.out (fun hHeld => ?_)
          clear hK K
          try simp only [Act.put, List.setIfInBounds_toArray, List.set_cons_zero, List.set_cons_succ]
          obtain ⟨V6, hV⟩ : ∃ V, (V5.setCell ⟨XI, 0, none⟩ sI).setCell ⟨XI, 1, none⟩ (pt g 4) = V := ⟨_, rfl⟩
          rw [hV] at hHeld Hcb HBL HJ HI HE HT ⊢
          clear hV
          refine wpAnyH_ready (rs := [22]) (by kernel_rfl) (by simp) (AllReadyH.cons (o := ({ dst := none, op := Op.store 63 (Operand.tmp 5) (Operand.tmp 19), type := 0, pos := "letter.go:33", after := af22, guard := none })) rfl (fun K hK => ?_) AllReadyH.nil)
          have q0 := HE.out.cell (i := 0) rfl; have q1 := HE.out.cell (i := 1) rfl; have qf := HE.out.free
          go_simp
          clear hHeld q0 q1 qf
          replace Hcb := Lib.hid (cell_set2 Hcb.out (show ¬ XE = n by omega) sE (pt g 3))
          replace HBL := Lib.hid (below_set2 HBL.out (show n ≤ XE by omega) sE (pt g 3))
          replace HE := Lib.hid (blk_set2 HE.out sE (pt g 3))
          replace HJ := Lib.hid (blk_off2 HJ.out (show ¬ XE = XJ by omega) sE (pt g 3))
          replace HI := Lib.hid (blk_off2 HI.out (show ¬ XE = XI by omega) sE (pt g 3))
          replace HT := Lib.hid (blk_off2 HT.out (show ¬ XE = XT by omega) sE (pt g 3))
          refine hK.out _ _ Hcb.out (fun hHeld => ?_)
          clear hK K
          try simp only [Act.put, List.setIfInBounds_toArray, List.set_cons_zero, List.set_cons_succ]
          obtain ⟨V7, hV⟩ : ∃ V, (V6.setCell ⟨XE, 0, none⟩ sE).setCell ⟨XE, 1, none⟩ (pt g 3) = V := ⟨_, rfl⟩
          rw [hV] at hHeld Hcb HBL HJ HI HE HT ⊢
          clear hV
          refine wpAnyH_ready (rs := [23]) (by kernel_rfl) (by simp) (AllReadyH.cons (o := ({ dst := none, op := Op.store 63 (Operand.tmp 6) (Operand.tmp 23), type := 0, pos := "letter.go:33", after := af23, guard := none })) rfl (fun K hK => ?_) AllReadyH.nil)
          have q0 := HT.out.cell (i := 0) rfl; have q1 := HT.out.cell (i := 1) rfl; have qf := HT.out.free
          go_simp
          clear hHeld q0 q1 qf
          replace Hcb := Lib.hid (cell_set2 Hcb.out (show ¬ XT = n by omega) sT (pt g 6))
          replace HBL := Lib.hid (below_set2 HBL.out (show n ≤ XT by omega) sT (pt g 6))
          replace HT := Lib.hid (blk_set2 HT.out sT (pt g 6))
          replace HJ := Lib.hid (blk_off2 HJ.out (show ¬ XT = XJ by omega) sT (pt g 6))
          replace HI := Lib.hid (blk_off2 HI.out (show ¬ XT = XI by omega) sT (pt g 6))
          replace HE := Lib.hid (blk_off2 HE.out (show ¬ XT = XE by omega) sT (pt g 6))
          refine hK.out _ _ Hcb.out (fun hHeld => ?_)
          clear hK K
          try simp only [Act.put, List.setIfInBounds_toArray, List.set_cons_zero, List.set_cons_succ]
          obtain ⟨V8, hV⟩ : ∃ V, (V7.setCell ⟨XT, 0, none⟩ sT).setCell ⟨XT, 1, none⟩ (pt g 6) = V := ⟨_, rfl⟩
          rw [hV] at hHeld Hcb HBL HJ HI HE HT ⊢
          clear hV
          refine wpAnyH_done (by kernel_rfl) ?_ _
          clear hHeld
          go_wp2_with fail
          go_meet
          exact ⟨XJ, XI, XE, XT, rfl, rfl, rfl, rfl, HJ.out, HI.out, HE.out, HT.out, Hcb.out, HBL.out, lJ, lI, lE, lT⟩
        · go_simp
          clear hHeld
          replace Hcb := Lib.hid (keepA Hcb.out zPt)
          replace HBL := Lib.hid (HBL.out.alloc (Nat.le_of_lt HSZ.out) zPt)
          have HI := Lib.hid (Blk.new V2 #[.string ⟨#[]⟩, .pointer none] 63)
          replace HE := Lib.hid (HE.out.alloc zPt)
          replace HT := Lib.hid (HT.out.alloc zPt)
          have lI : n < V2.heap.size := HSZ.out
          have nEI : XE < V2.heap.size := hE
          have nTI : XT < V2.heap.size := hT
          replace HSZ := Lib.hid (size_up HSZ.out zPt)
          replace hE := size_up hE zPt
          replace hT := size_up hT zPt
          have hI := size_self V2 zPt
          refine hK.out _ _ Hcb.out (fun hHeld => ?_)
          clear hK K
          try simp only [Act.put, List.setIfInBounds_toArray, List.set_cons_zero, List.set_cons_succ]
          obtain ⟨XI, hX⟩ : ∃ X, V2.heap.size = X := ⟨_, rfl⟩
          obtain ⟨V3, hV⟩ : ∃ V, V2.alloc zPt = V := ⟨_, rfl⟩
          rw [hX] at HI hI lI nEI nTI ⊢
          rw [hV] at hHeld Hcb HBL HSZ HE hE HT hT HI hI ⊢
          clear hX hV
          refine wpAnyH_ready (rs := [16]) (by kernel_rfl) (by simp) (AllReadyH.cons (o := ({ dst := some 3, op := Op.alloc 63, type := 0, pos := "letter.go:33", after := #[], guard := none })) rfl (fun K hK => ?_) AllReadyH.nil)
          go_simp
          clear hHeld
          replace Hcb := Lib.hid (keepA Hcb.out zPt)
          replace HBL := Lib.hid (HBL.out.alloc (Nat.le_of_lt HSZ.out) zPt)
          have HJ := Lib.hid (Blk.new V3 #[.string ⟨#[]⟩, .pointer none] 63)
          replace HE := Lib.hid (HE.out.alloc zPt)
          replace HT := Lib.hid (HT.out.alloc zPt)
          replace HI := Lib.hid (HI.out.alloc zPt)
          have lJ : n < V3.heap.size := HSZ.out
          have nEJ : XE < V3.heap.size := hE
          have nTJ : XT < V3.heap.size := hT
          have nIJ : XI < V3.heap.size := hI
          replace HSZ := Lib.hid (size_up HSZ.out zPt)
          replace hE := size_up hE zPt
          replace hT := size_up hT zPt
          replace hI := size_up hI zPt
          have hJ := size_self V3 zPt
          refine hK.out _ _ Hcb.out (fun hHeld => ?_)
          clear hK K
          try simp only [Act.put, List.setIfInBounds_toArray, List.set_cons_zero, List.set_cons_succ]
          obtain ⟨XJ, hX⟩ : ∃ X, V3.heap.size = X := ⟨_, rfl⟩
          obtain ⟨V4, hV⟩ : ∃ V, V3.alloc zPt = V := ⟨_, rfl⟩
          rw [hX] at HJ hJ lJ nEJ nTJ nIJ ⊢
          rw [hV] at hHeld Hcb HBL HSZ HE hE HT hT HI hI HJ hJ ⊢
          clear hX hV
          refine wpAnyH_ready (rs := [20]) (by kernel_rfl) (by simp) (AllReadyH.cons (o := ({ dst := none, op := Op.store 63 (Operand.tmp 3) (Operand.tmp 11), type := 0, pos := "letter.go:33", after := af20, guard := none })) rfl (fun K hK => ?_) AllReadyH.nil)
          have q0 := HJ.out.cell (i := 0) rfl; have q1 := HJ.out.cell (i := 1) rfl; have qf := HJ.out.free
          go_simp
          clear hHeld q0 q1 qf
          replace Hcb := Lib.hid (cell_set2 Hcb.out (show ¬ XJ = n by omega) sJ (pt g 5))
          replace HBL := Lib.hid (below_set2 HBL.out (show n ≤ XJ by omega) sJ (pt g 5))
          replace HJ := Lib.hid (blk_set2 HJ.out sJ (pt g 5))
          replace HI := Lib.hid (blk_off2 HI.out (show ¬ XJ = XI by omega) sJ (pt g 5))
          replace HE := Lib.hid (blk_off2 HE.out (show ¬ XJ = XE by omega) sJ (pt g 5))
          replace HT := Lib.hid (blk_off2 HT.out (show ¬ XJ = XT by omega) sJ (pt g 5))
          refine hK.out _ _ Hcb.out (fun hHeld => ?_)
          clear hK K
          try simp only [Act.put, List.setIfInBounds_toArray, List.set_cons_zero, List.set_cons_succ]
          obtain ⟨V5, hV⟩ : ∃ V, (V4.setCell ⟨XJ, 0, none⟩ sJ).setCell ⟨XJ, 1, none⟩ (pt g 5) = V := ⟨_, rfl⟩
          rw [hV] at hHeld Hcb HBL HJ HI HE HT ⊢
          clear hV
          refine wpAnyH_ready (rs := [21]) (by kernel_rfl) (by simp) (AllReadyH.cons (o := ({ dst := none, op := Op.store 63 (Operand.tmp 4) (Operand.tmp 15), type := 0, pos := "letter.go:33", after := af21, guard := none })) rfl (fun K hK => ?_) AllReadyH.nil)
          have q0 := HI.out.cell (i := 0) rfl; have q1 := HI.out.cell (i := 1) rfl; have qf := HI.out.free
          go_simp
          clear hHeld q0 q1 qf
          replace Hcb := Lib.hid (cell_set2 Hcb.out (show ¬ XI = n by omega) sI (pt g 4))
          replace HBL := Lib.hid (below_set2 HBL.out (show n ≤ XI by omega) sI (pt g 4))
          replace HI := Lib.hid (blk_set2 HI.out sI (pt g 4))
          replace HJ := Lib.hid (blk_off2 HJ.out (show ¬ XI = XJ by omega) sI (pt g 4))
          replace HE := Lib.hid (blk_off2 HE.out (show ¬ XI = XE by omega) sI (pt g 4))
          replace HT := Lib.hid (blk_off2 HT.out (show ¬ XI = XT by omega) sI (pt g 4))
          refine hK.out _ _ Hcb.out (fun hHeld => ?_)
          clear hK K
          try simp only [Act.put, List.setIfInBounds_toArray, List.set_cons_zero, List.set_cons_succ]
          obtain ⟨V6, hV⟩ : ∃ V, (V5.setCell ⟨XI, 0, none⟩ sI).setCell ⟨XI, 1, none⟩ (pt g 4) = V := ⟨_, rfl⟩
          rw [hV] at hHeld Hcb HBL HJ HI HE HT ⊢
          clear hV
          refine wpAnyH_ready (rs := [22]) (by kernel_rfl) (by simp) (AllReadyH.cons (o := ({ dst := none, op := Op.store 63 (Operand.tmp 5) (Operand.tmp 19), type := 0, pos := "letter.go:33", after := af22, guard := none })) rfl (fun K hK => ?_) AllReadyH.nil)
          have q0 := HE.out.cell (i := 0) rfl; have q1 := HE.out.cell (i := 1) rfl; have qf := HE.out.free
          go_simp
          clear hHeld q0 q1 qf
          replace Hcb := Lib.hid (cell_set2 Hcb.out (show ¬ XE = n by omega) sE (pt g 3))
          replace HBL := Lib.hid (below_set2 HBL.out (show n ≤ XE by omega) sE (pt g 3))
          replace HE := Lib.hid (blk_set2 HE.out sE (pt g 3))
          replace HJ := Lib.hid (blk_off2 HJ.out (show ¬ XE = XJ by omega) sE (pt g 3))
          replace HI := Lib.hid (blk_off2 HI.out (show ¬ XE = XI by omega) sE (pt g 3))
          replace HT := Lib.hid (blk_off2 HT.out (show ¬ XE = XT by omega) sE (pt g 3))
          refine hK.out _ _ Hcb.out (fun hHeld => ?_)
          clear hK K
          try simp only [Act.put, List.setIfInBounds_toArray, List.set_cons_zero, List.set_cons_succ]
          obtain ⟨V7, hV⟩ : ∃ V, (V6.setCell ⟨XE, 0, none⟩ sE).setCell ⟨XE, 1, none⟩ (pt g 3) = V := ⟨_, rfl⟩
          rw [hV] at hHeld Hcb HBL HJ HI HE HT ⊢
          clear hV
          refine wpAnyH_ready (rs := [23]) (by kernel_rfl) (by simp) (AllReadyH.cons (o := ({ dst := none, op := Op.store 63 (Operand.tmp 6) (Operand.tmp 23), type := 0, pos := "letter.go:33", after := af23, guard := none })) rfl (fun K hK => ?_) AllReadyH.nil)
          have q0 := HT.out.cell (i := 0) rfl; have q1 := HT.out.cell (i := 1) rfl; have qf := HT.out.free
          go_simp
          clear hHeld q0 q1 qf
          replace Hcb := Lib.hid (cell_set2 Hcb.out (show ¬ XT = n by omega) sT (pt g 6))
          replace HBL := Lib.hid (below_set2 HBL.out (show n ≤ XT by omega) sT (pt g 6))
          replace HT := Lib.hid (blk_set2 HT.out sT (pt g 6))
          replace HJ := Lib.hid (blk_off2 HJ.out (show ¬ XT = XJ by omega) sT (pt g 6))
          replace HI := Lib.hid (blk_off2 HI.out (show ¬ XT = XI by omega) sT (pt g 6))
          replace HE := Lib.hid (blk_off2 HE.out (show ¬ XT = XE by omega) sT (pt g 6))
          refine hK.out _ _ Hcb.out (fun hHeld => ?_)
          clear hK K
          try simp only [Act.put, List.setIfInBounds_toArray, List.set_cons_zero, List.set_cons_succ]
          obtain ⟨V8, hV⟩ : ∃ V, (V7.setCell ⟨XT, 0, none⟩ sT).setCell ⟨XT, 1, none⟩ (pt g 6) = V := ⟨_, rfl⟩
          rw [hV] at hHeld Hcb HBL HJ HI HE HT ⊢
          clear hV
          refine wpAnyH_done (by kernel_rfl) ?_ _
          clear hHeld
          go_wp2_with fail
          go_meet
          exact ⟨XJ, XI, XE, XT, rfl, rfl, rfl, rfl, HJ.out, HI.out, HE.out, HT.out, Hcb.out, HBL.out, lJ, lI, lE, lT⟩
    · go_simp
      clear hHeld
      replace Hcb := Lib.hid (keepA Hcb.out zPt)
      replace HBL := Lib.hid (HBL.out.alloc (Nat.le_of_lt HSZ.out) zPt)
      have HT := Lib.hid (Blk.new V0 #[.string ⟨#[]⟩, .pointer none] 63)
      have lT : n < V0.heap.size := HSZ.out
      replace HSZ := Lib.hid (size_up HSZ.out zPt)
      have hT := size_self V0 zPt
      refine hK.out _ _ Hcb.out (fun hHeld => ?_)
      clear hK K
      try simp only [Act.put, List.setIfInBounds_toArray, List.set_cons_zero, List.set_cons_succ]
      obtain ⟨XT, hX⟩ : ∃ X, V0.heap.size = X := ⟨_, rfl⟩
      obtain ⟨V1, hV⟩ : ∃ V, V0.alloc zPt = V := ⟨_, rfl⟩
      rw [hX] at HT hT lT  ⊢
      rw [hV] at hHeld Hcb HBL HSZ HT hT ⊢
      clear hX hV
      refine wpAnyH_ready (rs := [16, 17, 18]) (by kernel_rfl) (by simp) (AllReadyH.cons (o := ({ dst := some 3, op := Op.alloc 63, type := 0, pos := "letter.go:33", after := #[], guard := none })) rfl (fun K hK => ?_) (AllReadyH.cons (o := ({ dst := some 4, op := Op.alloc 63, type := 0, pos := "letter.go:33", after := #[], guard := none })) rfl (fun K hK => ?_) (AllReadyH.cons (o := ({ dst := some 5, op := Op.alloc 63, type := 0, pos := "letter.go:33", after := #[], guard := none })) rfl (fun K hK => ?_) AllReadyH.nil)))
      · go_simp
        clear hHeld
        replace Hcb := Lib.hid (keepA Hcb.out zPt)
        replace HBL := Lib.hid (HBL.out.alloc (Nat.le_of_lt HSZ.out) zPt)
        have HJ := Lib.hid (Blk.new V1 #[.string ⟨#[]⟩, .pointer none] 63)
        replace HT := Lib.hid (HT.out.alloc zPt)
        have lJ : n < V1.heap.size := HSZ.out
        have nTJ : XT < V1.heap.size := hT
        replace HSZ := Lib.hid (size_up HSZ.out zPt)
        replace hT := size_up hT zPt
        have hJ := size_self V1 zPt
        refine hK.out _ _ Hcb.out (fun hHeld => ?_)
        clear hK K
        try simp only [Act.put, List.setIfInBounds_toArray, List.set_cons_zero, List.set_cons_succ]
        obtain ⟨XJ, hX⟩ : ∃ X, V1.heap.size = X := ⟨_, rfl⟩
        obtain ⟨V2, hV⟩ : ∃ V, V1.alloc zPt = V := ⟨_, rfl⟩
        rw [hX] at HJ hJ lJ nTJ ⊢
        rw [hV] at hHeld Hcb HBL HSZ HT hT HJ hJ ⊢
        clear hX hV
        refine wpAnyH_ready (rs := [17, 18]) (by kernel_rfl) (by simp) (AllReadyH.cons (o := ({ dst := some 4, op := Op.alloc 63, type := 0, pos := "letter.go:33", after := #[], guard := none })) rfl (fun K hK => ?_) (AllReadyH.cons (o := ({ dst := some 5, op := Op.alloc 63, type := 0, pos := "letter.go:33", after := #[], guard := none })) rfl (fun K hK => ?_) AllReadyH.nil))
        · go_simp
          clear hHeld
          replace Hcb := Lib.hid (keepA Hcb.out zPt)
          replace HBL := Lib.hid (HBL.out.alloc (Nat.le_of_lt HSZ.out) zPt)
          have HI := Lib.hid (Blk.new V2 #[.string ⟨#[]⟩, .pointer none] 63)
          replace HT := Lib.hid (HT.out.alloc zPt)
          replace HJ := Lib.hid (HJ.out.alloc zPt)
          have lI : n < V2.heap.size := HSZ.out
          have nTI : XT < V2.heap.size := hT
          have nJI : XJ < V2.heap.size := hJ
          replace HSZ := Lib.hid (size_up HSZ.out zPt)
          replace hT := size_up hT zPt
          replace hJ := size_up hJ zPt
          have hI := size_self V2 zPt
          refine hK.out _ _ Hcb.out (fun hHeld => ?_)
          clear hK K
          try simp only [Act.put, List.setIfInBounds_toArray, List.set_cons_zero, List.set_cons_succ]
          obtain ⟨XI, hX⟩ : ∃ X, V2.heap.size = X := ⟨_, rfl⟩
          obtain ⟨V3, hV⟩ : ∃ V, V2.alloc zPt = V := ⟨_, rfl⟩
          rw [hX] at HI hI lI nTI nJI ⊢
          rw [hV] at hHeld Hcb HBL HSZ HT hT HJ hJ HI hI ⊢
          clear hX hV
          refine wpAnyH_ready (rs := [18]) (by kernel_rfl) (by simp) (AllReadyH.cons (o := ({ dst := some 5, op := Op.alloc 63, type := 0, pos := "letter.go:33", after := #[], guard := none })) rfl (fun K hK => ?_) AllReadyH.nil)
          go_simp
          clear hHeld
          replace Hcb := Lib.hid (keepA Hcb.out zPt)
          replace HBL := Lib.hid (HBL.out.alloc (Nat.le_of_lt HSZ.out) zPt)
          have HE := Lib.hid (Blk.new V3 #[.string ⟨#[]⟩, .pointer none] 63)
          replace HT := Lib.hid (HT.out.alloc zPt)
          replace HJ := Lib.hid (HJ.out.alloc zPt)
          replace HI := Lib.hid (HI.out.alloc zPt)
          have lE : n < V3.heap.size := HSZ.out
          have nTE : XT < V3.heap.size := hT
          have nJE : XJ < V3.heap.size := hJ
          have nIE : XI < V3.heap.size := hI
          replace HSZ := Lib.hid (size_up HSZ.out zPt)
          replace hT := size_up hT zPt
          replace hJ := size_up hJ zPt
          replace hI := size_up hI zPt
          have hE := size_self V3 zPt
          refine hK.out _ _ Hcb.out (fun hHeld => ?_)
          clear hK K
          try simp only [Act.put, List.setIfInBounds_toArray, List.set_cons_zero, List.set_cons_succ]
          obtain ⟨XE, hX⟩ : ∃ X, V3.heap.size = X := ⟨_, rfl⟩
          obtain ⟨V4, hV⟩ : ∃ V, V3.alloc zPt = V := ⟨_, rfl⟩
          rw [hX] at HE hE lE nTE nJE nIE ⊢
          rw [hV] at hHeld Hcb HBL HSZ HT hT HJ hJ HI hI HE hE ⊢
          clear hX hV
          refine wpAnyH_ready (rs := [20]) (by kernel_rfl) (by simp) (AllReadyH.cons (o := ({ dst := none, op := Op.store 63 (Operand.tmp 3) (Operand.tmp 11), type := 0, pos := "letter.go:33", after := af20, guard := none })) rfl (fun K hK => ?_) AllReadyH.nil)
          have q0 := HJ.out.cell (i := 0) rfl; have q1 := HJ.out.cell (i := 1) rfl; have qf := HJ.out.free
          go_simp
          clear hHeld q0 q1 qf
          replace Hcb := Lib.hid (cell_set2 Hcb.out (show ¬ XJ = n by omega) sJ (pt g 5))
          replace HBL := Lib.hid (below_set2 HBL.out (show n ≤ XJ by omega) sJ (pt g 5))
          replace HJ := Lib.hid (blk_set2 HJ.out sJ (pt g 5))
          replace HI := Lib.hid (blk_off2 HI.out (show ¬ XJ = XI by omega) sJ (pt g 5))
          replace HE := Lib.hid (blk_off2 HE.out (show ¬ XJ = XE by omega) sJ (pt g 5))
          replace HT := Lib.hid (blk_off2 HT.out (show ¬ XJ = XT by omega) sJ (pt g 5))
          refine hK.out _ _ Hcb.out (fun hHeld => ?_)
          clear hK K
          try simp only [Act.put, List.setIfInBounds_toArray, List.set_cons_zero, List.set_cons_succ]
          obtain ⟨V5, hV⟩ : ∃ V, (V4.setCell ⟨XJ, 0, none⟩ sJ).setCell ⟨XJ, 1, none⟩ (pt g 5) = V := ⟨_, rfl⟩
          rw [hV] at hHeld Hcb HBL HJ HI HE HT ⊢
          clear hV
          refine wpAnyH_ready (rs := [21]) (by kernel_rfl) (by simp) (AllReadyH.cons (o := ({ dst := none, op := Op.store 63 (Operand.tmp 4) (Operand.tmp 15), type := 0, pos := "letter.go:33", after := af21, guard := none })) rfl (fun K hK => ?_) AllReadyH.nil)
          have q0 := HI.out.cell (i := 0) rfl; have q1 := HI.out.cell (i := 1) rfl; have qf := HI.out.free
          go_simp
          clear hHeld q0 q1 qf
          replace Hcb := Lib.hid (cell_set2 Hcb.out (show ¬ XI = n by omega) sI (pt g 4))
          replace HBL := Lib.hid (below_set2 HBL.out (show n ≤ XI by omega) sI (pt g 4))
          replace HI := Lib.hid (blk_set2 HI.out sI (pt g 4))
          replace HJ := Lib.hid (blk_off2 HJ.out (show ¬ XI = XJ by omega) sI (pt g 4))
          replace HE := Lib.hid (blk_off2 HE.out (show ¬ XI = XE by omega) sI (pt g 4))
          replace HT := Lib.hid (blk_off2 HT.out (show ¬ XI = XT by omega) sI (pt g 4))
          refine hK.out _ _ Hcb.out (fun hHeld => ?_)
          clear hK K
          try simp only [Act.put, List.setIfInBounds_toArray, List.set_cons_zero, List.set_cons_succ]
          obtain ⟨V6, hV⟩ : ∃ V, (V5.setCell ⟨XI, 0, none⟩ sI).setCell ⟨XI, 1, none⟩ (pt g 4) = V := ⟨_, rfl⟩
          rw [hV] at hHeld Hcb HBL HJ HI HE HT ⊢
          clear hV
          refine wpAnyH_ready (rs := [22]) (by kernel_rfl) (by simp) (AllReadyH.cons (o := ({ dst := none, op := Op.store 63 (Operand.tmp 5) (Operand.tmp 19), type := 0, pos := "letter.go:33", after := af22, guard := none })) rfl (fun K hK => ?_) AllReadyH.nil)
          have q0 := HE.out.cell (i := 0) rfl; have q1 := HE.out.cell (i := 1) rfl; have qf := HE.out.free
          go_simp
          clear hHeld q0 q1 qf
          replace Hcb := Lib.hid (cell_set2 Hcb.out (show ¬ XE = n by omega) sE (pt g 3))
          replace HBL := Lib.hid (below_set2 HBL.out (show n ≤ XE by omega) sE (pt g 3))
          replace HE := Lib.hid (blk_set2 HE.out sE (pt g 3))
          replace HJ := Lib.hid (blk_off2 HJ.out (show ¬ XE = XJ by omega) sE (pt g 3))
          replace HI := Lib.hid (blk_off2 HI.out (show ¬ XE = XI by omega) sE (pt g 3))
          replace HT := Lib.hid (blk_off2 HT.out (show ¬ XE = XT by omega) sE (pt g 3))
          refine hK.out _ _ Hcb.out (fun hHeld => ?_)
          clear hK K
          try simp only [Act.put, List.setIfInBounds_toArray, List.set_cons_zero, List.set_cons_succ]
          obtain ⟨V7, hV⟩ : ∃ V, (V6.setCell ⟨XE, 0, none⟩ sE).setCell ⟨XE, 1, none⟩ (pt g 3) = V := ⟨_, rfl⟩
          rw [hV] at hHeld Hcb HBL HJ HI HE HT ⊢
          clear hV
          refine wpAnyH_ready (rs := [23]) (by kernel_rfl) (by simp) (AllReadyH.cons (o := ({ dst := none, op := Op.store 63 (Operand.tmp 6) (Operand.tmp 23), type := 0, pos := "letter.go:33", after := af23, guard := none })) rfl (fun K hK => ?_) AllReadyH.nil)
          have q0 := HT.out.cell (i := 0) rfl; have q1 := HT.out.cell (i := 1) rfl; have qf := HT.out.free
          go_simp
          clear hHeld q0 q1 qf
          replace Hcb := Lib.hid (cell_set2 Hcb.out (show ¬ XT = n by omega) sT (pt g 6))
          replace HBL := Lib.hid (below_set2 HBL.out (show n ≤ XT by omega) sT (pt g 6))
          replace HT := Lib.hid (blk_set2 HT.out sT (pt g 6))
          replace HJ := Lib.hid (blk_off2 HJ.out (show ¬ XT = XJ by omega) sT (pt g 6))
          replace HI := Lib.hid (blk_off2 HI.out (show ¬ XT = XI by omega) sT (pt g 6))
          replace HE := Lib.hid (blk_off2 HE.out (show ¬ XT = XE by omega) sT (pt g 6))
          refine hK.out _ _ Hcb.out (fun hHeld => ?_)
          clear hK K
          try simp only [Act.put, List.setIfInBounds_toArray, List.set_cons_zero, List.set_cons_succ]
          obtain ⟨V8, hV⟩ : ∃ V, (V7.setCell ⟨XT, 0, none⟩ sT).setCell ⟨XT, 1, none⟩ (pt g 6) = V := ⟨_, rfl⟩
          rw [hV] at hHeld Hcb HBL HJ HI HE HT ⊢
          clear hV
          refine wpAnyH_done (by kernel_rfl) ?_ _
          clear hHeld
          go_wp2_with fail
          go_meet
          exact ⟨XJ, XI, XE, XT, rfl, rfl, rfl, rfl, HJ.out, HI.out, HE.out, HT.out, Hcb.out, HBL.out, lJ, lI, lE, lT⟩
        · go_simp
          clear hHeld
          replace Hcb := Lib.hid (keepA Hcb.out zPt)
          replace HBL := Lib.hid (HBL.out.alloc (Nat.le_of_lt HSZ.out) zPt)
          have HE := Lib.hid (Blk.new V2 #[.string ⟨#[]⟩, .pointer none] 63)
          replace HT := Lib.hid (HT.out.alloc zPt)
          replace HJ := Lib.hid (HJ.out.alloc zPt)
          have lE : n < V2.heap.size := HSZ.out
          have nTE : XT < V2.heap.size := hT
          have nJE : XJ < V2.heap.size := hJ
          replace HSZ := Lib.hid (size_up HSZ.out zPt)
          replace hT := size_up hT zPt
          replace hJ := size_up hJ zPt
          have hE := size_self V2 zPt
          refine hK.out _ _ Hcb.out (fun hHeld => ?_)
          clear hK K
          try simp only [Act.put, List.setIfInBounds_toArray, List.set_cons_zero, List.set_cons_succ]
          obtain ⟨XE, hX⟩ : ∃ X, V2.heap.size = X := ⟨_, rfl⟩
          obtain ⟨V3, hV⟩ : ∃ V, V2.alloc zPt = V := ⟨_, rfl⟩
          rw [hX] at HE hE lE nTE nJE ⊢
          rw [hV] at hHeld Hcb HBL HSZ HT hT HJ hJ HE hE ⊢
          clear hX hV
          refine wpAnyH_ready (rs := [17]) (by kernel_rfl) (by simp) (AllReadyH.cons (o := ({ dst := some 4, op := Op.alloc 63, type := 0, pos := "letter.go:33", after := #[], guard := none })) rfl (fun K hK => ?_) AllReadyH.nil)
          go_simp
          clear hHeld
          replace Hcb := Lib.hid (keepA Hcb.out zPt)
          replace HBL := Lib.hid (HBL.out.alloc (Nat.le_of_lt HSZ.out) zPt)
          have HI := Lib.hid (Blk.new V3 #[.string ⟨#[]⟩, .pointer none] 63)
          replace HT := Lib.hid (HT.out.alloc zPt)
          replace HJ := Lib.hid (HJ.out.alloc zPt)
          replace HE := Lib.hid (HE.out.alloc zPt)
          have lI : n < V3.heap.size := HSZ.out
          have nTI : XT < V3.heap.size := hT
          have nJI : XJ < V3.heap.size := hJ
          have nEI : XE < V3.heap.size := hE
          replace HSZ := Lib.hid (size_up HSZ.out zPt)
          replace hT := size_up hT zPt
          replace hJ := size_up hJ zPt
          replace hE := size_up hE zPt
          have hI := size_self V3 zPt
          refine hK.out _ _ Hcb.out (fun hHeld => ?_)
          clear hK K
          try simp only [Act.put, List.setIfInBounds_toArray, List.set_cons_zero, List.set_cons_succ]
          obtain ⟨XI, hX⟩ : ∃ X, V3.heap.size = X := ⟨_, rfl⟩
          obtain ⟨V4, hV⟩ : ∃ V, V3.alloc zPt = V := ⟨_, rfl⟩
          rw [hX] at HI hI lI nTI nJI nEI ⊢
          rw [hV] at hHeld Hcb HBL HSZ HT hT HJ hJ HE hE HI hI ⊢
          clear hX hV
          refine wpAnyH_ready (rs := [20]) (by kernel_rfl) (by simp) (AllReadyH.cons (o := ({ dst := none, op := Op.store 63 (Operand.tmp 3) (Operand.tmp 11), type := 0, pos := "letter.go:33", after := af20, guard := none })) rfl (fun K hK => ?_) AllReadyH.nil)
          have q0 := HJ.out.cell (i := 0) rfl; have q1 := HJ.out.cell (i := 1) rfl; have qf := HJ.out.free
          go_simp
          clear hHeld q0 q1 qf
          replace Hcb := Lib.hid (cell_set2 Hcb.out (show ¬ XJ = n by omega) sJ (pt g 5))
          replace HBL := Lib.hid (below_set2 HBL.out (show n ≤ XJ by omega) sJ (pt g 5))
          replace HJ := Lib.hid (blk_set2 HJ.out sJ (pt g 5))
          replace HI := Lib.hid (blk_off2 HI.out (show ¬ XJ = XI by omega) sJ (pt g 5))
          replace HE := Lib.hid (blk_off2 HE.out (show ¬ XJ = XE by omega) sJ (pt g 5))
          replace HT := Lib.hid (blk_off2 HT.out (show ¬ XJ = XT by omega) sJ (pt g 5))
          refine hK.out _ _ Hcb.out (fun hHeld => ?_)
          clear hK K
          try simp only [Act.put, List.setIfInBounds_toArray, List.set_cons_zero, List.set_cons_succ]
          obtain ⟨V5, hV⟩ : ∃ V, (V4.setCell ⟨XJ, 0, none⟩ sJ).setCell ⟨XJ, 1, none⟩ (pt g 5) = V := ⟨_, rfl⟩
          rw [hV] at hHeld Hcb HBL HJ HI HE HT ⊢
          clear hV
          refine wpAnyH_ready (rs := [21]) (by kernel_rfl) (by simp) (AllReadyH.cons (o := ({ dst := none, op := Op.store 63 (Operand.tmp 4) (Operand.tmp 15), type := 0, pos := "letter.go:33", after := af21, guard := none })) rfl (fun K hK => ?_) AllReadyH.nil)
          have q0 := HI.out.cell (i := 0) rfl; have q1 := HI.out.cell (i := 1) rfl; have qf := HI.out.free
          go_simp
          clear hHeld q0 q1 qf
          replace Hcb := Lib.hid (cell_set2 Hcb.out (show ¬ XI = n by omega) sI (pt g 4))
          replace HBL := Lib.hid (below_set2 HBL.out (show n ≤ XI by omega) sI (pt g 4))
          replace HI := Lib.hid (blk_set2 HI.out sI (pt g 4))
          replace HJ := Lib.hid (blk_off2 HJ.out (show ¬ XI = XJ by omega) sI (pt g 4))
          replace HE := Lib.hid (blk_off2 HE.out (show ¬ XI = XE by omega) sI (pt g 4))
          replace HT := Lib.hid (blk_off2 HT.out (show ¬ XI = XT by omega) sI (pt g 4))
          refine hK.out _ _ Hcb.out (fun hHeld => ?_)
          clear hK K
          try simp only [Act.put, List.setIfInBounds_toArray, List.set_cons_zero, List.set_cons_succ]
          obtain ⟨V6, hV⟩ : ∃ V, (V5.setCell ⟨XI, 0, none⟩ sI).setCell ⟨XI, 1, none⟩ (pt g 4) = V := ⟨_, rfl⟩
          rw [hV] at hHeld Hcb HBL HJ HI HE HT ⊢
          clear hV
          refine wpAnyH_ready (rs := [22]) (by kernel_rfl) (by simp) (AllReadyH.cons (o := ({ dst := none, op := Op.store 63 (Operand.tmp 5) (Operand.tmp 19), type := 0, pos := "letter.go:33", after := af22, guard := none })) rfl (fun K hK => ?_) AllReadyH.nil)
          have q0 := HE.out.cell (i := 0) rfl; have q1 := HE.out.cell (i := 1) rfl; have qf := HE.out.free
          go_simp
          clear hHeld q0 q1 qf
          replace Hcb := Lib.hid (cell_set2 Hcb.out (show ¬ XE = n by omega) sE (pt g 3))
          replace HBL := Lib.hid (below_set2 HBL.out (show n ≤ XE by omega) sE (pt g 3))
          replace HE := Lib.hid (blk_set2 HE.out sE (pt g 3))
          replace HJ := Lib.hid (blk_off2 HJ.out (show ¬ XE = XJ by omega) sE (pt g 3))
          replace HI := Lib.hid (blk_off2 HI.out (show ¬ XE = XI by omega) sE (pt g 3))
          replace HT := Lib.hid (blk_off2 HT.out (show ¬ XE = XT by omega) sE (pt g 3))
          refine hK.out _ _ Hcb.out (fun hHeld => ?_)
          clear hK K
          try simp only [Act.put, List.setIfInBounds_toArray, List.set_cons_zero, List.set_cons_succ]
          obtain ⟨V7, hV⟩ : ∃ V, (V6.setCell ⟨XE, 0, none⟩ sE).setCell ⟨XE, 1, none⟩ (pt g 3) = V := ⟨_, rfl⟩
          rw [hV] at hHeld Hcb HBL HJ HI HE HT ⊢
          clear hV
          refine wpAnyH_ready (rs := [23]) (by kernel_rfl) (by simp) (AllReadyH.cons (o := ({ dst := none, op := Op.store 63 (Operand.tmp 6) (Operand.tmp 23), type := 0, pos := "letter.go:33", after := af23, guard := none })) rfl (fun K hK => ?_) AllReadyH.nil)
          have q0 := HT.out.cell (i := 0) rfl; have q1 := HT.out.cell (i := 1) rfl; have qf := HT.out.free
          go_simp
          clear hHeld q0 q1 qf
          replace Hcb := Lib.hid (cell_set2 Hcb.out (show ¬ XT = n by omega) sT (pt g 6))
          replace HBL := Lib.hid (below_set2 HBL.out (show n ≤ XT by omega) sT (pt g 6))
          replace HT := Lib.hid (blk_set2 HT.out sT (pt g 6))
          replace HJ := Lib.hid (blk_off2 HJ.out (show ¬ XT = XJ by omega) sT (pt g 6))
          replace HI := Lib.hid (blk_off2 HI.out (show ¬ XT = XI by omega) sT (pt g 6))
          replace HE := Lib.hid (blk_off2 HE.out (show ¬ XT = XE by omega) sT (pt g 6))
          refine hK.out _ _ Hcb.out (fun hHeld => ?_)
          clear hK K
          try simp only [Act.put, List.setIfInBounds_toArray, List.set_cons_zero, List.set_cons_succ]
          obtain ⟨V8, hV⟩ : ∃ V, (V7.setCell ⟨XT, 0, none⟩ sT).setCell ⟨XT, 1, none⟩ (pt g 6) = V := ⟨_, rfl⟩
          rw [hV] at hHeld Hcb HBL HJ HI HE HT ⊢
          clear hV
          refine wpAnyH_done (by kernel_rfl) ?_ _
          clear hHeld
          go_wp2_with fail
          go_meet
          exact ⟨XJ, XI, XE, XT, rfl, rfl, rfl, rfl, HJ.out, HI.out, HE.out, HT.out, Hcb.out, HBL.out, lJ, lI, lE, lT⟩
      · go_simp
        clear hHeld
        replace Hcb := Lib.hid (keepA Hcb.out zPt)
        replace HBL := Lib.hid (HBL.out.alloc (Nat.le_of_lt HSZ.out) zPt)
        have HI := Lib.hid (Blk.new V1 #[.string ⟨#[]⟩, .pointer none] 63)
        replace HT := Lib.hid (HT.out.alloc zPt)
        have lI : n < V1.heap.size := HSZ.out
        have nTI : XT < V1.heap.size := hT
        replace HSZ := Lib.hid (size_up HSZ.out zPt)
        replace hT := size_up hT zPt
        have hI := size_self V1 zPt
        refine hK.out _ _ Hcb.out (fun hHeld => ?_)
        clear hK K
        try simp only [Act.put, List.setIfInBounds_toArray, List.set_cons_zero, List.set_cons_succ]
        obtain ⟨XI, hX⟩ : ∃ X, V1.heap.size = X := ⟨_, rfl⟩
        obtain ⟨V2, hV⟩ : ∃ V, V1.alloc zPt = V := ⟨_, rfl⟩
        rw [hX] at HI hI lI nTI ⊢
        rw [hV] at hHeld Hcb HBL HSZ HT hT HI hI ⊢
        clear hX hV
        refine wpAnyH_ready (rs := [16, 18]) (by kernel_rfl) (by simp) (AllReadyH.cons (o := ({ dst := some 3, op := Op.alloc 63, type := 0, pos := "letter.go:33", after := #[], guard := none })) rfl (fun K hK => ?_) (AllReadyH.cons (o := ({ dst := some 5, op := Op.alloc 63, type := 0, pos := "letter.go:33", after := #[], guard := none })) rfl (fun K hK => ?_) AllReadyH.nil))
        · go_simp
          clear hHeld
          replace Hcb := Lib.hid (keepA Hcb.out zPt)
          replace HBL := Lib.hid (HBL.out.alloc (Nat.le_of_lt HSZ.out) zPt)
          have HJ := Lib.hid (Blk.new V2 #[.string ⟨#[]⟩, .pointer none] 63)
          replace HT := Lib.hid (HT.out.alloc zPt)
          replace HI := Lib.hid (HI.out.alloc zPt)
          have lJ : n < V2.heap.size := HSZ.out
          have nTJ : XT < V2.heap.size := hT
          have nIJ : XI < V2.heap.size := hI
          replace HSZ := Lib.hid (size_up HSZ.out zPt)
          replace hT := size_up hT zPt
          replace hI := size_up hI zPt
          have hJ := size_self V2 zPt
          refine hK.out _ _ Hcb.out (fun hHeld => ?_)
          clear hK K
          try simp only [Act.put, List.setIfInBounds_toArray, List.set_cons_zero, List.set_cons_succ]
          obtain ⟨XJ, hX⟩ : ∃ X, V2.heap.size = X := ⟨_, rfl⟩
          obtain ⟨V3, hV⟩ : ∃ V, V2.alloc zPt = V := ⟨_, rfl⟩
          rw [hX] at HJ hJ lJ nTJ nIJ ⊢
          rw [hV] at hHeld Hcb HBL HSZ HT hT HI hI HJ hJ ⊢
          clear hX hV
          refine wpAnyH_ready (rs := [18]) (by kernel_rfl) (by simp) (AllReadyH.cons (o := ({ dst := some 5, op := Op.alloc 63, type := 0, pos := "letter.go:33", after := #[], guard := none })) rfl (fun K hK => ?_) AllReadyH.nil)
          go_simp
          clear hHeld
          replace Hcb := Lib.hid (keepA Hcb.out zPt)
          replace HBL := Lib.hid (HBL.out.alloc (Nat.le_of_lt HSZ.out) zPt)
          have HE := Lib.hid (Blk.new V3 #[.string ⟨#[]⟩, .pointer none] 63)
          replace HT := Lib.hid (HT.out.alloc zPt)
          replace HI := Lib.hid (HI.out.alloc zPt)
          replace HJ := Lib.hid (HJ.out.alloc zPt)
          have lE : n < V3.heap.size := HSZ.out
          have nTE : XT < V3.heap.size := hT
          have nIE : XI < V3.heap.size := hI
          have nJE : XJ < V3.heap.size := hJ
          replace HSZ := Lib.hid (size_up HSZ.out zPt)
          replace hT := size_up hT zPt
          replace hI := size_up hI zPt
          replace hJ := size_up hJ zPt
          have hE := size_self V3 zPt
          refine hK.out _ _ Hcb.out (fun hHeld => ?_)
          clear hK K
          try simp only [Act.put, List.setIfInBounds_toArray, List.set_cons_zero, List.set_cons_succ]
          obtain ⟨XE, hX⟩ : ∃ X, V3.heap.size = X := ⟨_, rfl⟩
          obtain ⟨V4, hV⟩ : ∃ V, V3.alloc zPt = V := ⟨_, rfl⟩
          rw [hX] at HE hE lE nTE nIE nJE ⊢
          rw [hV] at hHeld Hcb HBL HSZ HT hT HI hI HJ hJ HE hE ⊢
          clear hX hV
          refine wpAnyH_ready (rs := [20]) (by kernel_rfl) (by simp) (AllReadyH.cons (o := ({ dst := none, op := Op.store 63 (Operand.tmp 3) (Operand.tmp 11), type := 0, pos := "letter.go:33", after := af20, guard := none })) rfl (fun K hK => ?_) AllReadyH.nil)
          have q0 := HJ.out.cell (i := 0) rfl; have q1 := HJ.out.cell (i := 1) rfl; have qf := HJ.out.free
          go_simp
          clear hHeld q0 q1 qf
          replace Hcb := Lib.hid (cell_set2 Hcb.out (show ¬ XJ = n by omega) sJ (pt g 5))
          replace HBL := Lib.hid (below_set2 HBL.out (show n ≤ XJ by omega) sJ (pt g 5))
          replace HJ := Lib.hid (blk_set2 HJ.out sJ (pt g 5))
          replace HI := Lib.hid (blk_off2 HI.out (show ¬ XJ = XI by omega) sJ (pt g 5))
          replace HE := Lib.hid (blk_off2 HE.out (show ¬ XJ = XE by omega) sJ (pt g 5))
          replace HT := Lib.hid (blk_off2 HT.out (show ¬ XJ = XT by omega) sJ (pt g 5))
          refine hK.out _ _ Hcb.out (fun hHeld => ?_)
          clear hK K
          try simp only [Act.put, List.setIfInBounds_toArray, List.set_cons_zero, List.set_cons_succ]
          obtain ⟨V5, hV⟩ : ∃ V, (V4.setCell ⟨XJ, 0, none⟩ sJ).setCell ⟨XJ, 1, none⟩ (pt g 5) = V := ⟨_, rfl⟩
          rw [hV] at hHeld Hcb HBL HJ HI HE HT ⊢
          clear hV
          refine wpAnyH_ready (rs := [21]) (by kernel_rfl) (by simp) (AllReadyH.cons (o := ({ dst := none, op := Op.store 63 (Operand.tmp 4) (Operand.tmp 15), type := 0, pos := "letter.go:33", after := af21, guard := none })) rfl (fun K hK => ?_) AllReadyH.nil)
          have q0 := HI.out.cell (i := 0) rfl; have q1 := HI.out.cell (i := 1) rfl; have qf := HI.out.free
          go_simp
          clear hHeld q0 q1 qf
          replace Hcb := Lib.hid (cell_set2 Hcb.out (show ¬ XI = n by omega) sI (pt g 4))
          replace HBL := Lib.hid (below_set2 HBL.out (show n ≤ XI by omega) sI (pt g 4))
          replace HI := Lib.hid (blk_set2 HI.out sI (pt g 4))
          replace HJ := Lib.hid (blk_off2 HJ.out (show ¬ XI = XJ by omega) sI (pt g 4))
          replace HE := Lib.hid (blk_off2 HE.out (show ¬ XI = XE by omega) sI (pt g 4))
          replace HT := Lib.hid (blk_off2 HT.out (show ¬ XI = XT by omega) sI (pt g 4))
          refine hK.out _ _ Hcb.out (fun hHeld => ?_)
          clear hK K
          try simp only [Act.put, List.setIfInBounds_toArray, List.set_cons_zero, List.set_cons_succ]
          obtain ⟨V6, hV⟩ : ∃ V, (V5.setCell ⟨XI, 0, none⟩ sI).setCell ⟨XI, 1, none⟩ (pt g 4) = V := ⟨_, rfl⟩
          rw [hV] at hHeld Hcb HBL HJ HI HE HT ⊢
          clear hV
          refine wpAnyH_ready (rs := [22]) (by kernel_rfl) (by simp) (AllReadyH.cons (o := ({ dst := none, op := Op.store 63 (Operand.tmp 5) (Operand.tmp 19), type := 0, pos := "letter.go:33", after := af22, guard := none })) rfl (fun K hK => ?_) AllReadyH.nil)
          have q0 := HE.out.cell (i := 0) rfl; have q1 := HE.out.cell (i := 1) rfl; have qf := HE.out.free
          go_simp
          clear hHeld q0 q1 qf
          replace Hcb := Lib.hid (cell_set2 Hcb.out (show ¬ XE = n by omega) sE (pt g 3))
          replace HBL := Lib.hid (below_set2 HBL.out (show n ≤ XE by omega) sE (pt g 3))
          replace HE := Lib.hid (blk_set2 HE.out sE (pt g 3))
          replace HJ := Lib.hid (blk_off2 HJ.out (show ¬ XE = XJ by omega) sE (pt g 3))
          replace HI := Lib.hid (blk_off2 HI.out (show ¬ XE = XI by omega) sE (pt g 3))
          replace HT := Lib.hid (blk_off2 HT.out (show ¬ XE = XT by omega) sE (pt g 3))
          refine hK.out _ _ Hcb.out (fun hHeld => ?_)
          clear hK K
          try simp only [Act.put, List.setIfInBounds_toArray, List.set_cons_zero, List.set_cons_succ]
          obtain ⟨V7, hV⟩ : ∃ V, (V6.setCell ⟨XE, 0, none⟩ sE).setCell ⟨XE, 1, none⟩ (pt g 3) = V := ⟨_, rfl⟩
          rw [hV] at hHeld Hcb HBL HJ HI HE HT ⊢
          clear hV
          refine wpAnyH_ready (rs := [23]) (by kernel_rfl) (by simp) (AllReadyH.cons (o := ({ dst := none, op := Op.store 63 (Operand.tmp 6) (Operand.tmp 23), type := 0, pos := "letter.go:33", after := af23, guard := none })) rfl (fun K hK => ?_) AllReadyH.nil)
          have q0 := HT.out.cell (i := 0) rfl; have q1 := HT.out.cell (i := 1) rfl; have qf := HT.out.free
          go_simp
          clear hHeld q0 q1 qf
          replace Hcb := Lib.hid (cell_set2 Hcb.out (show ¬ XT = n by omega) sT (pt g 6))
          replace HBL := Lib.hid (below_set2 HBL.out (show n ≤ XT by omega) sT (pt g 6))
          replace HT := Lib.hid (blk_set2 HT.out sT (pt g 6))
          replace HJ := Lib.hid (blk_off2 HJ.out (show ¬ XT = XJ by omega) sT (pt g 6))
          replace HI := Lib.hid (blk_off2 HI.out (show ¬ XT = XI by omega) sT (pt g 6))
          replace HE := Lib.hid (blk_off2 HE.out (show ¬ XT = XE by omega) sT (pt g 6))
          refine hK.out _ _ Hcb.out (fun hHeld => ?_)
          clear hK K
          try simp only [Act.put, List.setIfInBounds_toArray, List.set_cons_zero, List.set_cons_succ]
          obtain ⟨V8, hV⟩ : ∃ V, (V7.setCell ⟨XT, 0, none⟩ sT).setCell ⟨XT, 1, none⟩ (pt g 6) = V := ⟨_, rfl⟩
          rw [hV] at hHeld Hcb HBL HJ HI HE HT ⊢
          clear hV
          refine wpAnyH_done (by kernel_rfl) ?_ _
          clear hHeld
          go_wp2_with fail
          go_meet
          exact ⟨XJ, XI, XE, XT, rfl, rfl, rfl, rfl, HJ.out, HI.out, HE.out, HT.out, Hcb.out, HBL.out, lJ, lI, lE, lT⟩
        · go_simp
          clear hHeld
          replace Hcb := Lib.hid (keepA Hcb.out zPt)
          replace HBL := Lib.hid (HBL.out.alloc (Nat.le_of_lt HSZ.out) zPt)
          have HE := Lib.hid (Blk.new V2 #[.string ⟨#[]⟩, .pointer none] 63)
          replace HT := Lib.hid (HT.out.alloc zPt)
          replace HI := Lib.hid (HI.out.alloc zPt)
          have lE : n < V2.heap.size := HSZ.out
          have nTE : XT < V2.heap.size := hT
          have nIE : XI < V2.heap.size := hI
          replace HSZ := Lib.hid (size_up HSZ.out zPt)
          replace hT := size_up hT zPt
          replace hI := size_up hI zPt
          have hE := size_self V2 zPt
          refine hK.out _ _ Hcb.out (fun hHeld => ?_)
          clear hK K
          try simp only [Act.put, List.setIfInBounds_toArray, List.set_cons_zero, List.set_cons_succ]
          obtain ⟨XE, hX⟩ : ∃ X, V2.heap.size = X := ⟨_, rfl⟩
          obtain ⟨V3, hV⟩ : ∃ V, V2.alloc zPt = V := ⟨_, rfl⟩
          rw [hX] at HE hE lE nTE nIE ⊢
          rw [hV] at hHeld Hcb HBL HSZ HT hT HI hI HE hE ⊢
          clear hX hV
          refine wpAnyH_ready (rs := [16]) (by kernel_rfl) (by simp) (AllReadyH.cons (o := ({ dst := some 3, op := Op.alloc 63, type := 0, pos := "letter.go:33", after := #[], guard := none })) rfl (fun K hK => ?_) AllReadyH.nil)
          go_simp
          clear hHeld
          replace Hcb := Lib.hid (keepA Hcb.out zPt)
          replace HBL := Lib.hid (HBL.out.alloc (Nat.le_of_lt HSZ.out) zPt)
          have HJ := Lib.hid (Blk.new V3 #[.string ⟨#[]⟩, .pointer none] 63)
          replace HT := Lib.hid (HT.out.alloc zPt)
          replace HI := Lib.hid (HI.out.alloc zPt)
          replace HE := Lib.hid (HE.out.alloc zPt)
          have lJ : n < V3.heap.size := HSZ.out
          have nTJ : XT < V3.heap.size := hT
          have nIJ : XI < V3.heap.size := hI
          have nEJ : XE < V3.heap.size := hE
          replace HSZ := Lib.hid (size_up HSZ.out zPt)
          replace hT := size_up hT zPt
          replace hI := size_up hI zPt
          replace hE := size_up hE zPt
          have hJ := size_self V3 zPt
          refine hK.out _ _ Hcb.out (fun hHeld => ?_)
          clear hK K
          try simp only [Act.put, List.setIfInBounds_toArray, List.set_cons_zero, List.set_cons_succ]
          obtain ⟨XJ, hX⟩ : ∃ X, V3.heap.size = X := ⟨_, rfl⟩
          obtain ⟨V4, hV⟩ : ∃ V, V3.alloc zPt = V := ⟨_, rfl⟩
          rw [hX] at HJ hJ lJ nTJ nIJ nEJ ⊢
          rw [hV] at hHeld Hcb HBL HSZ HT hT HI hI HE hE HJ hJ ⊢
          clear hX hV
          refine wpAnyH_ready (rs := [20]) (by kernel_rfl) (by simp) (AllReadyH.cons (o := ({ dst := none, op := Op.store 63 (Operand.tmp 3) (Operand.tmp 11), type := 0, pos := "letter.go:33", after := af20, guard := none })) rfl (fun K hK => ?_) AllReadyH.nil)
          have q0 := HJ.out.cell (i := 0) rfl; have q1 := HJ.out.cell (i := 1) rfl; have qf := HJ.out.free
          go_simp
          clear hHeld q0 q1 qf
          replace Hcb := Lib.hid (cell_set2 Hcb.out (show ¬ XJ = n by omega) sJ (pt g 5))
          replace HBL := Lib.hid (below_set2 HBL.out (show n ≤ XJ by omega) sJ (pt g 5))
          replace HJ := Lib.hid (blk_set2 HJ.out sJ (pt g 5))
          replace HI := Lib.hid (blk_off2 HI.out (show ¬ XJ = XI by omega) sJ (pt g 5))
          replace HE := Lib.hid (blk_off2 HE.out (show ¬ XJ = XE by omega) sJ (pt g 5))
          replace HT := Lib.hid (blk_off2 HT.out (show ¬ XJ = XT by omega) sJ (pt g 5))
          refine hK.out _ _ Hcb.out (fun hHeld => ?_)
          clear hK K
          try simp only [Act.put, List.setIfInBounds_toArray, List.set_cons_zero, List.set_cons_succ]
          obtain ⟨V5, hV⟩ : ∃ V, (V4.setCell ⟨XJ, 0, none⟩ sJ).setCell ⟨XJ, 1, none⟩ (pt g 5) = V := ⟨_, rfl⟩
          rw [hV] at hHeld Hcb HBL HJ HI HE HT ⊢
          clear hV
          refine wpAnyH_ready (rs := [21]) (by kernel_rfl) (by simp) (AllReadyH.cons (o := ({ dst := none, op := Op.store 63 (Operand.tmp 4) (Operand.tmp 15), type := 0, pos := "letter.go:33", after := af21, guard := none })) rfl (fun K hK => ?_) AllReadyH.nil)
          have q0 := HI.out.cell (i := 0) rfl; have q1 := HI.out.cell (i := 1) rfl; have qf := HI.out.free
          go_simp
          clear hHeld q0 q1 qf
          replace Hcb := Lib.hid (cell_set2 Hcb.out (show ¬ XI = n by omega) sI (pt g 4))
          replace HBL := Lib.hid (below_set2 HBL.out (show n ≤ XI by omega) sI (pt g 4))
          replace HI := Lib.hid (blk_set2 HI.out sI (pt g 4))
          replace HJ := Lib.hid (blk_off2 HJ.out (show ¬ XI = XJ by omega) sI (pt g 4))
          replace HE := Lib.hid (blk_off2 HE.out (show ¬ XI = XE by omega) sI (pt g 4))
          replace HT := Lib.hid (blk_off2 HT.out (show ¬ XI = XT by omega) sI (pt g 4))
          refine hK.out _ _ Hcb.out (fun hHeld => ?_)
          clear hK K
          try simp only [Act.put, List.setIfInBounds_toArray, List.set_cons_zero, List.set_cons_succ]
          obtain ⟨V6, hV⟩ : ∃ V, (V5.setCell ⟨XI, 0, none⟩ sI).setCell ⟨XI, 1, none⟩ (pt g 4) = V := ⟨_, rfl⟩
          rw [hV] at hHeld Hcb HBL HJ HI HE HT ⊢
          clear hV
          refine wpAnyH_ready (rs := [22]) (by kernel_rfl) (by simp) (AllReadyH.cons (o := ({ dst := none, op := Op.store 63 (Operand.tmp 5) (Operand.tmp 19), type := 0, pos := "letter.go:33", after := af22, guard := none })) rfl (fun K hK => ?_) AllReadyH.nil)
          have q0 := HE.out.cell (i := 0) rfl; have q1 := HE.out.cell (i := 1) rfl; have qf := HE.out.free
          go_simp
          clear hHeld q0 q1 qf
          replace Hcb := Lib.hid (cell_set2 Hcb.out (show ¬ XE = n by omega) sE (pt g 3))
          replace HBL := Lib.hid (below_set2 HBL.out (show n ≤ XE by omega) sE (pt g 3))
          replace HE := Lib.hid (blk_set2 HE.out sE (pt g 3))
          replace HJ := Lib.hid (blk_off2 HJ.out (show ¬ XE = XJ by omega) sE (pt g 3))
          replace HI := Lib.hid (blk_off2 HI.out (show ¬ XE = XI by omega) sE (pt g 3))
          replace HT := Lib.hid (blk_off2 HT.out (show ¬ XE = XT by omega) sE (pt g 3))
          refine hK.out _ _ Hcb.out (fun hHeld => ?_)
          clear hK K
          try simp only [Act.put, List.setIfInBounds_toArray, List.set_cons_zero, List.set_cons_succ]
          obtain ⟨V7, hV⟩ : ∃ V, (V6.setCell ⟨XE, 0, none⟩ sE).setCell ⟨XE, 1, none⟩ (pt g 3) = V := ⟨_, rfl⟩
          rw [hV] at hHeld Hcb HBL HJ HI HE HT ⊢
          clear hV
          refine wpAnyH_ready (rs := [23]) (by kernel_rfl) (by simp) (AllReadyH.cons (o := ({ dst := none, op := Op.store 63 (Operand.tmp 6) (Operand.tmp 23), type := 0, pos := "letter.go:33", after := af23, guard := none })) rfl (fun K hK => ?_) AllReadyH.nil)
          have q0 := HT.out.cell (i := 0) rfl; have q1 := HT.out.cell (i := 1) rfl; have qf := HT.out.free
          go_simp
          clear hHeld q0 q1 qf
          replace Hcb := Lib.hid (cell_set2 Hcb.out (show ¬ XT = n by omega) sT (pt g 6))
          replace HBL := Lib.hid (below_set2 HBL.out (show n ≤ XT by omega) sT (pt g 6))
          replace HT := Lib.hid (blk_set2 HT.out sT (pt g 6))
          replace HJ := Lib.hid (blk_off2 HJ.out (show ¬ XT = XJ by omega) sT (pt g 6))
          replace HI := Lib.hid (blk_off2 HI.out (show ¬ XT = XI by omega) sT (pt g 6))
          replace HE := Lib.hid (blk_off2 HE.out (show ¬ XT = XE by omega) sT (pt g 6))
          refine hK.out _ _ Hcb.out (fun hHeld => ?_)
          clear hK K
          try simp only [Act.put, List.setIfInBounds_toArray, List.set_cons_zero, List.set_cons_succ]
          obtain ⟨V8, hV⟩ : ∃ V, (V7.setCell ⟨XT, 0, none⟩ sT).setCell ⟨XT, 1, none⟩ (pt g 6) = V := ⟨_, rfl⟩
          rw [hV] at hHeld Hcb HBL HJ HI HE HT ⊢
          clear hV
          refine wpAnyH_done (by kernel_rfl) ?_ _
          clear hHeld
          go_wp2_with fail
          go_meet
          exact ⟨XJ, XI, XE, XT, rfl, rfl, rfl, rfl, HJ.out, HI.out, HE.out, HT.out, Hcb.out, HBL.out, lJ, lI, lE, lT⟩
      · go_simp
        clear hHeld
        replace Hcb := Lib.hid (keepA Hcb.out zPt)
        replace HBL := Lib.hid (HBL.out.alloc (Nat.le_of_lt HSZ.out) zPt)
        have HE := Lib.hid (Blk.new V1 #[.string ⟨#[]⟩, .pointer none] 63)
        replace HT := Lib.hid (HT.out.alloc zPt)
        have lE : n < V1.heap.size := HSZ.out
        have nTE : XT < V1.heap.size := hT
        replace HSZ := Lib.hid (size_up HSZ.out zPt)
        replace hT := size_up hT zPt
        have hE := size_self V1 zPt
        refine hK.out _ _ Hcb.out (fun hHeld => ?_)
        clear hK K
        try simp only [Act.put, List.setIfInBounds_toArray, List.set_cons_zero, List.set_cons_succ]
        obtain ⟨XE, hX⟩ : ∃ X, V1.heap.size = X := ⟨_, rfl⟩
        obtain ⟨V2, hV⟩ : ∃ V, V1.alloc zPt = V := ⟨_, rfl⟩
        rw [hX] at HE hE lE nTE ⊢
        rw [hV] at hHeld Hcb HBL HSZ HT hT HE hE ⊢
        clear hX hV
        refine wpAnyH_ready (rs := [16, 17]) (by kernel_rfl) (by simp) (AllReadyH.cons (o := ({ dst := some 3, op := Op.alloc 63, type := 0, pos := "letter.go:33", after := #[], guard := none })) rfl (fun K hK => ?_) (AllReadyH.cons (o := ({ dst := some 4, op := Op.alloc 63, type := 0, pos := "letter.go:33", after := #[], guard := none })) rfl (fun K hK => ?_) AllReadyH.nil))
        · go_simp
          clear hHeld
          replace Hcb := Lib.hid (keepA Hcb.out zPt)
          replace HBL := Lib.hid (HBL.out.alloc (Nat.le_of_lt HSZ.out) zPt)
          have HJ := Lib.hid (Blk.new V2 #[.string ⟨#[]⟩, .pointer none] 63)
          replace HT := Lib.hid (HT.out.alloc zPt)
          replace HE := Lib.hid (HE.out.alloc zPt)
          have lJ : n < V2.heap.size := HSZ.out
          have nTJ : XT < V2.heap.size := hT
          have nEJ : XE < V2.heap.size := hE
          replace HSZ := Lib.hid (size_up HSZ.out zPt)
          replace hT := size_up hT zPt
          replace hE := size_up hE zPt
          have hJ := size_self V2 zPt
          refine hK.out _ _ Hcb.out (fun hHeld => ?_)
          clear hK K
          try simp only [Act.put, List.setIfInBounds_toArray, List.set_cons_zero, List.set_cons_succ]
          obtain ⟨XJ, hX⟩ : ∃ X, V2.heap.size = X := ⟨_, rfl⟩
          obtain ⟨V3, hV⟩ : ∃ V, V2.alloc zPt = V := ⟨_, rfl⟩
          rw [hX] at HJ hJ lJ nTJ nEJ ⊢
          rw [hV] at hHeld Hcb HBL HSZ HT hT HE hE HJ hJ ⊢
          clear hX hV
          refine wpAnyH_ready (rs := [17]) (by kernel_rfl) (by simp) (AllReadyH.cons (o := ({ dst := some 4, op := Op.alloc 63, type := 0, pos := "letter.go:33", after := #[], guard := none })) rfl (fun K hK => ?_) AllReadyH.nil)
          go_simp
          clear hHeld
          replace Hcb := Lib.hid (keepA Hcb.out zPt)
          replace HBL := Lib.hid (HBL.out.alloc (Nat.le_of_lt HSZ.out) zPt)
          have HI := Lib.hid (Blk.new V3 #[.string ⟨#[]⟩, .pointer none] 63)
          replace HT := Lib.hid (HT.out.alloc zPt)
          replace HE := Lib.hid (HE.out.alloc zPt)
          replace HJ := Lib.hid (HJ.out.alloc zPt)
          have lI : n < V3.heap.size := HSZ.out
          have nTI : XT < V3.heap.size := hT
          have nEI : XE < V3.heap.size := hE
          have nJI : XJ < V3.heap.size := hJ
          replace HSZ := Lib.hid (size_up HSZ.out zPt)
          replace hT := size_up hT zPt
          replace hE := size_up hE zPt
          replace hJ := size_up hJ zPt
          have hI := size_self V3 zPt
          refine hK.out _ _ Hcb.out (fun hHeld => ?_)
          clear hK K
          try simp only [Act.put, List.setIfInBounds_toArray, List.set_cons_zero, List.set_cons_succ]
          obtain ⟨XI, hX⟩ : ∃ X, V3.heap.size = X := ⟨_, rfl⟩
          obtain ⟨V4, hV⟩ : ∃ V, V3.alloc zPt = V := ⟨_, rfl⟩
          rw [hX] at HI hI lI nTI nEI nJI ⊢
          rw [hV] at hHeld Hcb HBL HSZ HT hT HE hE HJ hJ HI hI ⊢
          clear hX hV
          refine wpAnyH_ready (rs := [20]) (by kernel_rfl) (by simp) (AllReadyH.cons (o := ({ dst := none, op := Op.store 63 (Operand.tmp 3) (Operand.tmp 11), type := 0, pos := "letter.go:33", after := af20, guard := none })) rfl (fun K hK => ?_) AllReadyH.nil)
          have q0 := HJ.out.cell (i := 0) rfl; have q1 := HJ.out.cell (i := 1) rfl; have qf := HJ.out.free
          go_simp
          clear hHeld q0 q1 qf
          replace Hcb := Lib.hid (cell_set2 Hcb.out (show ¬ XJ = n by omega) sJ (pt g 5))
          replace HBL := Lib.hid (below_set2 HBL.out (show n ≤ XJ by omega) sJ (pt g 5))
          replace HJ := Lib.hid (blk_set2 HJ.out sJ (pt g 5))
          replace HI := Lib.hid (blk_off2 HI.out (show ¬ XJ = XI by omega) sJ (pt g 5))
          replace HE := Lib.hid (blk_off2 HE.out (show ¬ XJ = XE by omega) sJ (pt g 5))
          replace HT := Lib.hid (blk_off2 HT.out (show ¬ XJ = XT by omega) sJ (pt g 5))
          refine hK.out _ _ Hcb.out (fun hHeld => ?_)
          clear hK K
          try simp only [Act.put, List.setIfInBounds_toArray, List.set_cons_zero, List.set_cons_succ]
          obtain ⟨V5, hV⟩ : ∃ V, (V4.setCell ⟨XJ, 0, none⟩ sJ).setCell ⟨XJ, 1, none⟩ (pt g 5) = V := ⟨_, rfl⟩
          rw [hV] at hHeld Hcb HBL HJ HI HE HT ⊢
          clear hV
          refine wpAnyH_ready (rs := [21]) (by kernel_rfl) (by simp) (AllReadyH.cons (o := ({ dst := none, op := Op.store 63 (Operand.tmp 4) (Operand.tmp 15), type := 0, pos := "letter.go:33", after := af21, guard := none })) rfl (fun K hK => ?_) AllReadyH.nil)
          have q0 := HI.out.cell (i := 0) rfl; have q1 := HI.out.cell (i := 1) rfl; have qf := HI.out.free
          go_simp
          clear hHeld q0 q1 qf
          replace Hcb := Lib.hid (cell_set2 Hcb.out (show ¬ XI = n by omega) sI (pt g 4))
          replace HBL := Lib.hid (below_set2 HBL.out (show n ≤ XI by omega) sI (pt g 4))
          replace HI := Lib.hid (blk_set2 HI.out sI (pt g 4))
          replace HJ := Lib.hid (blk_off2 HJ.out (show ¬ XI = XJ by omega) sI (pt g 4))
          replace HE := Lib.hid (blk_off2 HE.out (show ¬ XI = XE by omega) sI (pt g 4))
          replace HT := Lib.hid (blk_off2 HT.out (show ¬ XI = XT by omega) sI (pt g 4))
          refine hK.out _ _ Hcb.out (fun hHeld => ?_)
          clear hK K
          try simp only [Act.put, List.setIfInBounds_toArray, List.set_cons_zero, List.set_cons_succ]
          obtain ⟨V6, hV⟩ : ∃ V, (V5.setCell ⟨XI, 0, none⟩ sI).setCell ⟨XI, 1, none⟩ (pt g 4) = V := ⟨_, rfl⟩
          rw [hV] at hHeld Hcb HBL HJ HI HE HT ⊢
          clear hV
          refine wpAnyH_ready (rs := [22]) (by kernel_rfl) (by simp) (AllReadyH.cons (o := ({ dst := none, op := Op.store 63 (Operand.tmp 5) (Operand.tmp 19), type := 0, pos := "letter.go:33", after := af22, guard := none })) rfl (fun K hK => ?_) AllReadyH.nil)
          have q0 := HE.out.cell (i := 0) rfl; have q1 := HE.out.cell (i := 1) rfl; have qf := HE.out.free
          go_simp
          clear hHeld q0 q1 qf
          replace Hcb := Lib.hid (cell_set2 Hcb.out (show ¬ XE = n by omega) sE (pt g 3))
          replace HBL := Lib.hid (below_set2 HBL.out (show n ≤ XE by omega) sE (pt g 3))
          replace HE := Lib.hid (blk_set2 HE.out sE (pt g 3))
          replace HJ := Lib.hid (blk_off2 HJ.out (show ¬ XE = XJ by omega) sE (pt g 3))
          replace HI := Lib.hid (blk_off2 HI.out (show ¬ XE = XI by omega) sE (pt g 3))
          replace HT := Lib.hid (blk_off2 HT.out (show ¬ XE = XT by omega) sE (pt g 3))
          refine hK.out _ _ Hcb.out (fun hHeld => ?_)
          clear hK K
          try simp only [Act.put, List.setIfInBounds_toArray, List.set_cons_zero, List.set_cons_succ]
          obtain ⟨V7, hV⟩ : ∃ V, (V6.setCell ⟨XE, 0, none⟩ sE).setCell ⟨XE, 1, none⟩ (pt g 3) = V := ⟨_, rfl⟩
          rw [hV] at hHeld Hcb HBL HJ HI HE HT ⊢
          clear hV
          refine wpAnyH_ready (rs := [23]) (by kernel_rfl) (by simp) (AllReadyH.cons (o := ({ dst := none, op := Op.store 63 (Operand.tmp 6) (Operand.tmp 23), type := 0, pos := "letter.go:33", after := af23, guard := none })) rfl (fun K hK => ?_) AllReadyH.nil)
          have q0 := HT.out.cell (i := 0) rfl; have q1 := HT.out.cell (i := 1) rfl; have qf := HT.out.free
          go_simp
          clear hHeld q0 q1 qf
          replace Hcb := Lib.hid (cell_set2 Hcb.out (show ¬ XT = n by omega) sT (pt g 6))
          replace HBL := Lib.hid (below_set2 HBL.out (show n ≤ XT by omega) sT (pt g 6))
          replace HT := Lib.hid (blk_set2 HT.out sT (pt g 6))
          replace HJ := Lib.hid (blk_off2 HJ.out (show ¬ XT = XJ by omega) sT (pt g 6))
          replace HI := Lib.hid (blk_off2 HI.out (show ¬ XT = XI by omega) sT (pt g 6))
          replace HE := Lib.hid (blk_off2 HE.out (show ¬ XT = XE by omega) sT (pt g 6))
          refine hK.out _ _ Hcb.out (fun hHeld => ?_)
          clear hK K
          try simp only [Act.put, List.setIfInBounds_toArray, List.set_cons_zero, List.set_cons_succ]
          obtain ⟨V8, hV⟩ : ∃ V, (V7.setCell ⟨XT, 0, none⟩ sT).setCell ⟨XT, 1, none⟩ (pt g 6) = V := ⟨_, rfl⟩
          rw [hV] at hHeld Hcb HBL HJ HI HE HT ⊢
          clear hV
          refine wpAnyH_done (by kernel_rfl) ?_ _
          clear hHeld
          go_wp2_with fail
          go_meet
          exact ⟨XJ, XI, XE, XT, rfl, rfl, rfl, rfl, HJ.out, HI.out, HE.out, HT.out, Hcb.out, HBL.out, lJ, lI, lE, lT⟩
        · go_simp
          clear hHeld
          replace Hcb := Lib.hid (keepA Hcb.out zPt)
          replace HBL := Lib.hid (HBL.out.alloc (Nat.le_of_lt HSZ.out) zPt)
          have HI := Lib.hid (Blk.new V2 #[.string ⟨#[]⟩, .pointer none] 63)
          replace HT := Lib.hid (HT.out.alloc zPt)
          replace HE := Lib.hid (HE.out.alloc zPt)
          have lI : n < V2.heap.size := HSZ.out
          have nTI : XT < V2.heap.size := hT
          have nEI : XE < V2.heap.size := hE
          replace HSZ := Lib.hid (size_up HSZ.out zPt)
          replace hT := size_up hT zPt
          replace hE := size_up hE zPt
          have hI := size_self V2 zPt
          refine hK.out _ _ Hcb.out (fun hHeld => ?_)
          clear hK K
          try simp only [Act.put, List.setIfInBounds_toArray, List.set_cons_zero, List.set_cons_succ]
          obtain ⟨XI, hX⟩ : ∃ X, V2.heap.size = X := ⟨_, rfl⟩
          obtain ⟨V3, hV⟩ : ∃ V, V2.alloc zPt = V := ⟨_, rfl⟩
          rw [hX] at HI hI lI nTI nEI ⊢
          rw [hV] at hHeld Hcb HBL HSZ HT hT HE hE HI hI ⊢
          clear hX hV
          refine wpAnyH_ready (rs := [16]) (by kernel_rfl) (by simp) (AllReadyH.cons (o := ({ dst := some 3, op := Op.alloc 63, type := 0, pos := "letter.go:33", after := #[], guard := none })) rfl (fun K hK => ?_) AllReadyH.nil)
          go_simp
          clear hHeld
          replace Hcb := Lib.hid (keepA Hcb.out zPt)
          replace HBL := Lib.hid (HBL.out.alloc (Nat.le_of_lt HSZ.out) zPt)
          have HJ := Lib.hid (Blk.new V3 #[.string ⟨#[]⟩, .pointer none] 63)
          replace HT := Lib.hid (HT.out.alloc zPt)
          replace HE := Lib.hid (HE.out.alloc zPt)
          replace HI := Lib.hid (HI.out.alloc zPt)
          have lJ : n < V3.heap.size := HSZ.out
          have nTJ : XT < V3.heap.size := hT
          have nEJ : XE < V3.heap.size := hE
          have nIJ : XI < V3.heap.size := hI
          replace HSZ := Lib.hid (size_up HSZ.out zPt)
          replace hT := size_up hT zPt
          replace hE := size_up hE zPt
          replace hI := size_up hI zPt
          have hJ := size_self V3 zPt
          refine hK.out _ _ Hcb.out (fun hHeld => ?_)
          clear hK K
          try simp only [Act.put, List.setIfInBounds_toArray, List.set_cons_zero, List.set_cons_succ]
          obtain ⟨XJ, hX⟩ : ∃ X, V3.heap.size = X := ⟨_, rfl⟩
          obtain ⟨V4, hV⟩ : ∃ V, V3.alloc zPt = V := ⟨_, rfl⟩
          rw [hX] at HJ hJ lJ nTJ nEJ nIJ ⊢
          rw [hV] at hHeld Hcb HBL HSZ HT hT HE hE HI hI HJ hJ ⊢
          clear hX hV
          refine wpAnyH_ready (rs := [20]) (by kernel_rfl) (by simp) (AllReadyH.cons (o := ({ dst := none, op := Op.store 63 (Operand.tmp 3) (Operand.tmp 11), type := 0, pos := "letter.go:33", after := af20, guard := none })) rfl (fun K hK => ?_) AllReadyH.nil)
          have q0 := HJ.out.cell (i := 0) rfl; have q1 := HJ.out.cell (i := 1) rfl; have qf := HJ.out.free
          go_simp
          clear hHeld q0 q1 qf
          replace Hcb := Lib.hid (cell_set2 Hcb.out (show ¬ XJ = n by omega) sJ (pt g 5))
          replace HBL := Lib.hid (below_set2 HBL.out (show n ≤ XJ by omega) sJ (pt g 5))
          replace HJ := Lib.hid (blk_set2 HJ.out sJ (pt g 5))
          replace HI := Lib.hid (blk_off2 HI.out (show ¬ XJ = XI by omega) sJ (pt g 5))
          replace HE := Lib.hid (blk_off2 HE.out (show ¬ XJ = XE by omega) sJ (pt g 5))
          replace HT := Lib.hid (blk_off2 HT.out (show ¬ XJ = XT by omega) sJ (pt g 5))
          refine hK.out _ _ Hcb.out (fun hHeld => ?_)
          clear hK K
          try simp only [Act.put, List.setIfInBounds_toArray, List.set_cons_zero, List.set_cons_succ]
          obtain ⟨V5, hV⟩ : ∃ V, (V4.setCell ⟨XJ, 0, none⟩ sJ).setCell ⟨XJ, 1, none⟩ (pt g 5) = V := ⟨_, rfl⟩
          rw [hV] at hHeld Hcb HBL HJ HI HE HT ⊢
          clear hV
          refine wpAnyH_ready (rs := [21]) (by kernel_rfl) (by simp) (AllReadyH.cons (o := ({ dst := none, op := Op.store 63 (Operand.tmp 4) (Operand.tmp 15), type := 0, pos := "letter.go:33", after := af21, guard := none })) rfl (fun K hK => ?_) AllReadyH.nil)
          have q0 := HI.out.cell (i := 0) rfl; have q1 := HI.out.cell (i := 1) rfl; have qf := HI.out.free
          go_simp
          clear hHeld q0 q1 qf
          replace Hcb := Lib.hid (cell_set2 Hcb.out (show ¬ XI = n by omega) sI (pt g 4))
          replace HBL := Lib.hid (below_set2 HBL.out (show n ≤ XI by omega) sI (pt g 4))
          replace HI := Lib.hid (blk_set2 HI.out sI (pt g 4))
          replace HJ := Lib.hid (blk_off2 HJ.out (show ¬ XI = XJ by omega) sI (pt g 4))
          replace HE := Lib.hid (blk_off2 HE.out (show ¬ XI = XE by omega) sI (pt g 4))
          replace HT := Lib.hid (blk_off2 HT.out (show ¬ XI = XT by omega) sI (pt g 4))
          refine hK.out _ _ Hcb.out (fun hHeld => ?_)
          clear hK K
          try simp only [Act.put, List.setIfInBounds_toArray, List.set_cons_zero, List.set_cons_succ]
          obtain ⟨V6, hV⟩ : ∃ V, (V5.setCell ⟨XI, 0, none⟩ sI).setCell ⟨XI, 1, none⟩ (pt g 4) = V := ⟨_, rfl⟩
          rw [hV] at hHeld Hcb HBL HJ HI HE HT ⊢
          clear hV
          refine wpAnyH_ready (rs := [22]) (by kernel_rfl) (by simp) (AllReadyH.cons (o := ({ dst := none, op := Op.store 63 (Operand.tmp 5) (Operand.tmp 19), type := 0, pos := "letter.go:33", after := af22, guard := none })) rfl (fun K hK => ?_) AllReadyH.nil)
          have q0 := HE.out.cell (i := 0) rfl; have q1 := HE.out.cell (i := 1) rfl; have qf := HE.out.free
          go_simp
          clear hHeld q0 q1 qf
          replace Hcb := Lib.hid (cell_set2 Hcb.out (show ¬ XE = n by omega) sE (pt g 3))
          replace HBL := Lib.hid (below_set2 HBL.out (show n ≤ XE by omega) sE (pt g 3))
          replace HE := Lib.hid (blk_set2 HE.out sE (pt g 3))
          replace HJ := Lib.hid (blk_off2 HJ.out (show ¬ XE = XJ by omega) sE (pt g 3))
          replace HI := Lib.hid (blk_off2 HI.out (show ¬ XE = XI by omega) sE (pt g 3))
          replace HT := Lib.hid (blk_off2 HT.out (show ¬ XE = XT by omega) sE (pt g 3))
          refine hK.out _ _ Hcb.out (fun hHeld => ?_)
          clear hK K
          try simp only [Act.put, List.setIfInBounds_toArray, List.set_cons_zero, List.set_cons_succ]
          obtain ⟨V7, hV⟩ : ∃ V, (V6.setCell ⟨XE, 0, none⟩ sE).setCell ⟨XE, 1, none⟩ (pt g 3) = V := ⟨_, rfl⟩
          rw [hV] at hHeld Hcb HBL HJ HI HE HT ⊢
          clear hV
          refine wpAnyH_ready (rs := [23]) (by kernel_rfl) (by simp) (AllReadyH.cons (o := ({ dst := none, op := Op.store 63 (Operand.tmp 6) (Operand.tmp 23), type := 0, pos := "letter.go:33", after := af23, guard := none })) rfl (fun K hK => ?_) AllReadyH.nil)
          have q0 := HT.out.cell (i := 0) rfl; have q1 := HT.out.cell (i := 1) rfl; have qf := HT.out.free
          go_simp
          clear hHeld q0 q1 qf
          replace Hcb := Lib.hid (cell_set2 Hcb.out (show ¬ XT = n by omega) sT (pt g 6))
          replace HBL := Lib.hid (below_set2 HBL.out (show n ≤ XT by omega) sT (pt g 6))
          replace HT := Lib.hid (blk_set2 HT.out sT (pt g 6))
          replace HJ := Lib.hid (blk_off2 HJ.out (show ¬ XT = XJ by omega) sT (pt g 6))
          replace HI := Lib.hid (blk_off2 HI.out (show ¬ XT = XI by omega) sT (pt g 6))
          replace HE := Lib.hid (blk_off2 HE.out (show ¬ XT = XE by omega) sT (pt g 6))
          refine hK.out _ _ Hcb.out (fun hHeld => ?_)
          clear hK K
          try simp only [Act.put, List.setIfInBounds_toArray, List.set_cons_zero, List.set_cons_succ]
          obtain ⟨V8, hV⟩ : ∃ V, (V7.setCell ⟨XT, 0, none⟩ sT).setCell ⟨XT, 1, none⟩ (pt g 6) = V := ⟨_, rfl⟩
          rw [hV] at hHeld Hcb HBL HJ HI HE HT ⊢
          clear hV
          refine wpAnyH_done (by kernel_rfl) ?_ _
          clear hHeld
          go_wp2_with fail
          go_meet
          exact ⟨XJ, XI, XE, XT, rfl, rfl, rfl, rfl, HJ.out, HI.out, HE.out, HT.out, Hcb.out, HBL.out, lJ, lI, lE, lT⟩
  case rest =>
    obtain ⟨a, b, c, d, rfl, rfl, rfl, rfl, hJ, hI, hE, hT, cb, hB1, _, _, _, _⟩ := hcut
    obtain ⟨W1, hW1⟩ : ∃ W1, W1 = wc := ⟨_, rfl⟩
    subst hW1
    have HB1 := Lib.hid hB1
    have hn1 : n < W1.heap.size := World.block_lt_of_cell? _ _ cb
    have hnle : n ≤ W1.heap.size := by omega
    have ha1 := hJ.lt
    have a0 := hJ.cell (i := 0) rfl
    have a1 := hJ.cell (i := 1) rfl
    have b0 := hI.cell (i := 0) rfl
    have b1 := hI.cell (i := 1) rfl
    have c0 := hE.cell (i := 0) rfl
    have c1 := hE.cell (i := 1) rfl
    have d0 := hT.cell (i := 0) rfl
    have d1 := hT.cell (i := 1) rfl
    have cg : W1.cell? ⟨g, 0, none⟩ = some (.int .i64 k) := keepB hB1 HCK.out HG.out
    clear hJ hI hE hT hB1 HB0 HZ0 HCK
    rcases kind_eightI hk with rfl | rfl | rfl | rfl | rfl | rfl | rfl | rfl
    · go_wp2_with fail
      refine (partsM_three W1.heap.size g n _ (partsCM g [4, 6]) _ (by simp) (by have h := World.ownsRow_lit (base := W1.heap.size) (e := 63) (size := 2) W1 #[.string ⟨#[105, 110, 99]⟩, .pointer (some ⟨g, 4, none⟩), .string ⟨#[116, 105, 99, 107]⟩, .pointer (some ⟨g, 6, none⟩)] 2 (Nat.le_refl _) (by decide) rfl; exact h) (keepA cb _) hn1).mono ?_
      rintro e w3 ⟨v, rfl, ho, hb⟩
      have HR := Lib.hid ho
      have HB4 := Lib.hid ((HB1.out.alloc hnle (.cells #[.string ⟨#[105, 110, 99]⟩, .pointer (some ⟨g, 4, none⟩), .string ⟨#[116, 105, 99, 107]⟩, .pointer (some ⟨g, 6, none⟩)] 63)).trans (hb.mono hnle))
      clear ho hb
      go_wp2_with fail
      go_ret
      exact ⟨_, rfl, HR.out.mono (by omega), HB4.out⟩
    · go_wp2_with fail
      go_ret
      refine ⟨_, rfl, World.ownsRow_lit (base := n) (e := 63) (size := 2) W1 #[.string ⟨#[101, 112, 111, 99, 104]⟩, .pointer (some ⟨g, 3, none⟩), .string ⟨#[105, 110, 99]⟩, .pointer (some ⟨g, 4, none⟩), .string ⟨#[116, 105, 99, 107]⟩, .pointer (some ⟨g, 6, none⟩)] 3 (by omega) (by decide) rfl, HB1.out.alloc hnle _⟩
    · go_wp2_with fail
      go_ret
      refine ⟨_, rfl, World.ownsRow_lit (base := n) (e := 63) (size := 2) W1 #[.string ⟨#[101, 112, 111, 99, 104]⟩, .pointer (some ⟨g, 3, none⟩), .string ⟨#[105, 110, 99]⟩, .pointer (some ⟨g, 4, none⟩), .string ⟨#[106, 111, 98]⟩, .pointer (some ⟨g, 5, none⟩)] 3 (by omega) (by decide) rfl, HB1.out.alloc hnle _⟩
    · go_wp2_with fail
      go_ret
      refine ⟨_, rfl, World.ownsRow_lit (base := n) (e := 63) (size := 2) W1 #[.string ⟨#[101, 112, 111, 99, 104]⟩, .pointer (some ⟨g, 3, none⟩), .string ⟨#[105, 110, 99]⟩, .pointer (some ⟨g, 4, none⟩), .string ⟨#[106, 111, 98]⟩, .pointer (some ⟨g, 5, none⟩)] 3 (by omega) (by decide) rfl, HB1.out.alloc hnle _⟩
    · go_wp2_with fail
      go_ret
      refine ⟨_, rfl, World.ownsRow_lit (base := n) (e := 63) (size := 2) W1 #[.string ⟨#[105, 110, 99]⟩, .pointer (some ⟨g, 4, none⟩), .string ⟨#[106, 111, 98]⟩, .pointer (some ⟨g, 5, none⟩)] 2 (by omega) (by decide) rfl, HB1.out.alloc hnle _⟩
    · go_upto_region 14 with fail
      refine wp_region_held_drew (S := (fun w' => w'.cell? ⟨a, 0, none⟩ = some (.string ⟨#[106, 111, 98]⟩) ∧ w'.cell? ⟨a, 1, none⟩ = some (.pointer (some ⟨g, 5, none⟩)) ∧ w'.cell? ⟨n, 0, none⟩ = some (.pointer (some ⟨g, 0, none⟩)))) (by kernel_rfl) ⟨a0, a1, cb⟩ (fun hHeld => ?_)
      refine wpAnyH_take (i := 0) (oi := ({ dst := some 56, op := Op.move (Operand.tmp 7), type := 99, pos := "letter.go:47", after := #[], guard := none })) (v := (.func (Fn.func 71) #[] #[.pointer (some ⟨n, 0, none⟩)])) rfl (by kernel_rfl) (by kernel_rfl) (by kernel_rfl) (fun _ _ _ h => h) (Or.inl ⟨by rfl, ?_⟩) (by assumption) ?_
      · (intro w hSw; obtain ⟨t0, t1, t2⟩ := hSw; go_simp)
      try simp only [Act.put, List.setIfInBounds_toArray, List.set_cons_zero, List.set_cons_succ]
      refine wpAnyH_take (i := 1) (oi := ({ dst := some 57, op := Op.load 63 (Operand.tmp 3), type := 63, pos := "letter.go:47", after := #[], guard := none })) (v := (.agg #[.string ⟨#[106, 111, 98]⟩, .pointer (some ⟨g, 5, none⟩)])) rfl (by kernel_rfl) (by kernel_rfl) (by kernel_rfl) (fun _ _ _ h => h) (Or.inl ⟨by rfl, ?_⟩) (by assumption) ?_
      · (intro w hSw; obtain ⟨t0, t1, t2⟩ := hSw; go_simp)
      try simp only [Act.put, List.setIfInBounds_toArray, List.set_cons_zero, List.set_cons_succ]
      refine wpAnyH_take (i := 2) (oi := ({ dst := some 58, op := Op.load 59 (Operand.tmp 1), type := 59, pos := "letter.go:47", after := #[], guard := none })) (v := (.pointer (some ⟨g, 0, none⟩))) rfl (by kernel_rfl) (by kernel_rfl) (by kernel_rfl) (fun _ _ _ h => h) (Or.inl ⟨by rfl, ?_⟩) (by assumption) ?_
      · (intro w hSw; obtain ⟨t0, t1, t2⟩ := hSw; go_simp)
      try simp only [Act.put, List.setIfInBounds_toArray, List.set_cons_zero, List.set_cons_succ]
      refine wpAnyH_take (i := 3) (oi := ({ dst := some 59, op := Op.nilCheck (Operand.tmp 58), type := 0, pos := "letter.go:47", after := #[{ on := 2, ground := Ground.data }], guard := none })) (v := (.pointer (some ⟨g, 0, none⟩))) rfl (by kernel_rfl) (by kernel_rfl) (by kernel_rfl) (fun _ _ _ h => h) (Or.inl ⟨by rfl, ?_⟩) (by assumption) ?_
      · (intro w hSw; obtain ⟨t0, t1, t2⟩ := hSw; go_simp)
      try simp only [Act.put, List.setIfInBounds_toArray, List.set_cons_zero, List.set_cons_succ]
      refine wpAnyH_take (i := 4) (oi := ({ dst := some 60, op := Op.fieldAddr 25 (Operand.tmp 59) 7, type := 0, pos := "letter.go:47", after := #[{ on := 3, ground := Ground.data }], guard := none })) (v := (.pointer (some ⟨g, 7, none⟩))) rfl (by kernel_rfl) (by kernel_rfl) (by kernel_rfl) (fun _ _ _ h => h) (Or.inl ⟨by rfl, ?_⟩) (by assumption) ?_
      · (intro w hSw; obtain ⟨t0, t1, t2⟩ := hSw; go_simp)
      try simp only [Act.put, List.setIfInBounds_toArray, List.set_cons_zero, List.set_cons_succ]
      refine wpAnyH_take (i := 5) (oi := ({ dst := some 61, op := Op.build 63 #[(0, Operand.const (Value.string { data := #[112, 114, 105, 111] })), (1, Operand.tmp 60)], type := 63, pos := "letter.go:47", after := #[{ on := 4, ground := Ground.data }], guard := none })) (v := (.agg #[.string ⟨#[112, 114, 105, 111]⟩, .pointer (some ⟨g, 7, none⟩)])) rfl (by kernel_rfl) (by kernel_rfl) (by kernel_rfl) (fun _ _ _ h => h) (Or.inl ⟨by rfl, ?_⟩) (by assumption) ?_
      · (intro w hSw; obtain ⟨t0, t1, t2⟩ := hSw; go_simp)
      try simp only [Act.put, List.setIfInBounds_toArray, List.set_cons_zero, List.set_cons_succ]
      refine wpAnyH_ready (rs := [6]) (by kernel_rfl) (by simp) (AllReadyH.cons (o := ({ dst := some 62, op := Op.buildSlice 57 2 #[(0, Operand.tmp 57), (1, Operand.tmp 61)], type := 57, pos := "letter.go:47", after := #[{ on := 1, ground := Ground.data }, { on := 5, ground := Ground.data }], guard := none })) rfl (fun K hK => ?_) AllReadyH.nil)
      go_simp
      clear hHeld
      refine hK.out _ _ ⟨keepA a0 _, keepA a1 _, keepA cb _⟩ (fun hHeld => ?_)
      clear hK K
      try simp only [Act.put, List.setIfInBounds_toArray, List.set_cons_zero, List.set_cons_succ]
      refine wpAnyH_ready (rs := [7]) (by kernel_rfl) (by simp) (AllReadyH.cons (o := ({ dst := some 63, op := Op.call { callee := Callee.value (Operand.tmp 56), args := #[Operand.tmp 62], argTypes := #[57] }, type := 57, pos := "letter.go:47", after := #[{ on := 0, ground := Ground.data }, { on := 6, ground := Ground.data }], guard := none })) rfl (fun K hK => ?_) AllReadyH.nil)
      go_simp
      refine (partsM_three W1.heap.size g n _ (partsCM g [5, 7]) ((W1.alloc (.cells #[.string ⟨#[106, 111, 98]⟩, .pointer (some ⟨g, 5, none⟩), .string ⟨#[112, 114, 105, 111]⟩, .pointer (some ⟨g, 7, none⟩)] 63)).drew) (by simp) (by have h := World.ownsRow_lit (base := W1.heap.size) (e := 63) (size := 2) W1 #[.string ⟨#[106, 111, 98]⟩, .pointer (some ⟨g, 5, none⟩), .string ⟨#[112, 114, 105, 111]⟩, .pointer (some ⟨g, 7, none⟩)] 2 (Nat.le_refl _) (by decide) rfl; exact h) (keepA cb _) hn1).mono ?_
      rintro e w3 ⟨v, rfl, ho, hb⟩
      have HR := Lib.hid ho
      have HB4 : Hid (Below n w w3) := Lib.hid ((HB1.out.alloc hnle (.cells #[.string ⟨#[106, 111, 98]⟩, .pointer (some ⟨g, 5, none⟩), .string ⟨#[112, 114, 105, 111]⟩, .pointer (some ⟨g, 7, none⟩)] 63)).trans (Below.mono (by exact ⟨hb.os, hb.tape, hb.output, hb.size, hb.block⟩) hnle))
      have hs1 := keepB hb (keepA a0 _) ha1
      have hs2 := keepB hb (keepA a1 _) ha1
      have hs3 := keepB hb (keepA cb _) hn1
      clear ho hb
      go_wp2_with fail
      clear hHeld
      refine hK.out _ _ ⟨hs1, hs2, hs3⟩ (fun hHeld => ?_)
      clear hK K
      try simp only [Act.put, List.setIfInBounds_toArray, List.set_cons_zero, List.set_cons_succ]
      refine wpAnyH_take (i := 8) (oi := ({ dst := some 2, op := Op.assign (Operand.tmp 63), type := 57, pos := "letter.go:47", after := #[{ on := 7, ground := Ground.data }, { on := 7, ground := Ground.chain }, { on := 0, ground := Ground.phase }, { on := 1, ground := Ground.phase }, { on := 2, ground := Ground.phase }, { on := 3, ground := Ground.phase }, { on := 4, ground := Ground.phase }, { on := 5, ground := Ground.phase }, { on := 6, ground := Ground.phase }, { on := 7, ground := Ground.phase }], guard := none })) (v := v) rfl (by kernel_rfl) (by kernel_rfl) (by kernel_rfl) (fun _ _ _ h => h) (Or.inl ⟨by rfl, ?_⟩) (by assumption) ?_
      · (intro w hSw; obtain ⟨t0, t1, t2⟩ := hSw; go_simp)
      try simp only [Act.put, List.setIfInBounds_toArray, List.set_cons_zero, List.set_cons_succ]
      refine wpAnyH_done (by kernel_rfl) ?_ _
      clear hHeld
      go_wp2_with fail
      go_ret
      exact ⟨_, rfl, HR.out.mono (by omega), HB4.out⟩
    · go_wp2_with fail
      go_ret
      refine ⟨_, rfl, World.ownsRow_lit (base := n) (e := 63) (size := 2) W1 #[.string ⟨#[106, 111, 98]⟩, .pointer (some ⟨g, 5, none⟩)] 1 (by omega) (by decide) rfl, HB1.out.alloc hnle _⟩
    · go_upto_region 17 with fail
      refine wp_region_held_drew (S := (fun w' => w'.cell? ⟨a, 0, none⟩ = some (.string ⟨#[106, 111, 98]⟩) ∧ w'.cell? ⟨a, 1, none⟩ = some (.pointer (some ⟨g, 5, none⟩)) ∧ w'.cell? ⟨n, 0, none⟩ = some (.pointer (some ⟨g, 0, none⟩)))) (by kernel_rfl) ⟨a0, a1, cb⟩ (fun hHeld => ?_)
      refine wpAnyH_take (i := 0) (oi := ({ dst := some 68, op := Op.load 63 (Operand.tmp 3), type := 63, pos := "letter.go:51", after := #[], guard := none })) (v := (.agg #[.string ⟨#[106, 111, 98]⟩, .pointer (some ⟨g, 5, none⟩)])) rfl (by kernel_rfl) (by kernel_rfl) (by kernel_rfl) (fun _ _ _ h => h) (Or.inl ⟨by rfl, ?_⟩) (by assumption) ?_
      · (intro w hSw; obtain ⟨t0, t1, t2⟩ := hSw; go_simp)
      try simp only [Act.put, List.setIfInBounds_toArray, List.set_cons_zero, List.set_cons_succ]
      refine wpAnyH_take (i := 1) (oi := ({ dst := some 69, op := Op.load 59 (Operand.tmp 1), type := 59, pos := "letter.go:51", after := #[], guard := none })) (v := (.pointer (some ⟨g, 0, none⟩))) rfl (by kernel_rfl) (by kernel_rfl) (by kernel_rfl) (fun _ _ _ h => h) (Or.inl ⟨by rfl, ?_⟩) (by assumption) ?_
      · (intro w hSw; obtain ⟨t0, t1, t2⟩ := hSw; go_simp)
      try simp only [Act.put, List.setIfInBounds_toArray, List.set_cons_zero, List.set_cons_succ]
      refine wpAnyH_take (i := 2) (oi := ({ dst := some 70, op := Op.nilCheck (Operand.tmp 69), type := 0, pos := "letter.go:51", after := #[{ on := 1, ground := Ground.data }], guard := none })) (v := (.pointer (some ⟨g, 0, none⟩))) rfl (by kernel_rfl) (by kernel_rfl) (by kernel_rfl) (fun _ _ _ h => h) (Or.inl ⟨by rfl, ?_⟩) (by assumption) ?_
      · (intro w hSw; obtain ⟨t0, t1, t2⟩ := hSw; go_simp)
      try simp only [Act.put, List.setIfInBounds_toArray, List.set_cons_zero, List.set_cons_succ]
      refine wpAnyH_take (i := 3) (oi := ({ dst := some 71, op := Op.fieldAddr 25 (Operand.tmp 70) 8, type := 0, pos := "letter.go:51", after := #[{ on := 2, ground := Ground.data }], guard := none })) (v := (.pointer (some ⟨g, 8, none⟩))) rfl (by kernel_rfl) (by kernel_rfl) (by kernel_rfl) (fun _ _ _ h => h) (Or.inl ⟨by rfl, ?_⟩) (by assumption) ?_
      · (intro w hSw; obtain ⟨t0, t1, t2⟩ := hSw; go_simp)
      try simp only [Act.put, List.setIfInBounds_toArray, List.set_cons_zero, List.set_cons_succ]
      refine wpAnyH_take (i := 4) (oi := ({ dst := some 72, op := Op.build 63 #[(0, Operand.const (Value.string { data := #[99, 111, 100, 101] })), (1, Operand.tmp 71)], type := 63, pos := "letter.go:51", after := #[{ on := 3, ground := Ground.data }], guard := none })) (v := (.agg #[.string ⟨#[99, 111, 100, 101]⟩, .pointer (some ⟨g, 8, none⟩)])) rfl (by kernel_rfl) (by kernel_rfl) (by kernel_rfl) (fun _ _ _ h => h) (Or.inl ⟨by rfl, ?_⟩) (by assumption) ?_
      · (intro w hSw; obtain ⟨t0, t1, t2⟩ := hSw; go_simp)
      try simp only [Act.put, List.setIfInBounds_toArray, List.set_cons_zero, List.set_cons_succ]
      refine wpAnyH_ready (rs := [5]) (by kernel_rfl) (by simp) (AllReadyH.cons (o := ({ dst := some 73, op := Op.buildSlice 57 2 #[(0, Operand.tmp 68), (1, Operand.tmp 72)], type := 57, pos := "letter.go:51", after := #[{ on := 0, ground := Ground.data }, { on := 4, ground := Ground.data }], guard := none })) rfl (fun K hK => ?_) AllReadyH.nil)
      go_simp
      clear hHeld
      refine hK.out _ _ ⟨keepA a0 _, keepA a1 _, keepA cb _⟩ (fun hHeld => ?_)
      clear hK K
      try simp only [Act.put, List.setIfInBounds_toArray, List.set_cons_zero, List.set_cons_succ]
      refine wpAnyH_take (i := 6) (oi := ({ dst := some 2, op := Op.assign (Operand.tmp 73), type := 57, pos := "letter.go:51", after := #[{ on := 5, ground := Ground.data }, { on := 0, ground := Ground.phase }, { on := 1, ground := Ground.phase }, { on := 2, ground := Ground.phase }, { on := 3, ground := Ground.phase }, { on := 4, ground := Ground.phase }, { on := 5, ground := Ground.phase }], guard := none })) (v := (.slice (some ⟨W1.heap.size, 0, none⟩) 2 2)) rfl (by kernel_rfl) (by kernel_rfl) (by kernel_rfl) (fun _ _ _ h => h) (Or.inl ⟨by rfl, ?_⟩) (by assumption) ?_
      · (intro w hSw; obtain ⟨t0, t1, t2⟩ := hSw; go_simp)
      try simp only [Act.put, List.setIfInBounds_toArray, List.set_cons_zero, List.set_cons_succ]
      refine wpAnyH_done (by kernel_rfl) ?_ _
      clear hHeld
      go_wp2_with fail
      go_ret
      exact ⟨_, rfl, World.ownsRow_lit (base := n) (e := 63) (size := 2) W1 #[.string ⟨#[106, 111, 98]⟩, .pointer (some ⟨g, 5, none⟩), .string ⟨#[99, 111, 100, 101]⟩, .pointer (some ⟨g, 8, none⟩)] 2 (by omega) (by decide) rfl, (HB1.out.alloc hnle _).drew⟩
end Go.Proofs.YtanihdpgblkeaaaGreatDoor
