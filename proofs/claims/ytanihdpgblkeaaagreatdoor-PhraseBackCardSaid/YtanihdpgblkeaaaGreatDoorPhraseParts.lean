/-
  Events as texts (reeve's layer 19): what an event's kind names, as names and places; the program's parts and names.
-/
import Derived.Test.YtanihdpgblkeaaaGreatDoorPhraseRef
import Derived.Laws.OwnMore
import Derived.Deep.Onto
namespace Go.Proofs.YtanihdpgblkeaaaGreatDoor
open Go.RowKit
set_option linter.unusedVariables false
set_option linter.unusedSimpArgs false

/-- The cells of parts. -/
def partsC (g : Nat) (os : List Nat) : List Value := os.flatMap (fun o => [Value.string (strL (partW o)), Value.pointer (some ⟨g, o, none⟩)])
theorem partsC_length (g : Nat) (os : List Nat) : (partsC g os).length = os.length * 2 := by
  induction os with
  | nil => rfl
  | cons o r ih => have e : partsC g (o :: r) = [Value.string (strL (partW o)), Value.pointer (some ⟨g, o, none⟩)] ++ partsC g r := by simp [partsC]
                   rw [e, List.length_append, ih]; simp; omega
theorem partsC_at (g : Nat) (os : List Nat) : ∀ (j : Nat) (o : Nat), os[j]? = some o → (partsC g os)[2 * j]? = some (.string (strL (partW o))) ∧ (partsC g os)[2 * j + 1]? = some (.pointer (some ⟨g, o, none⟩)) := by
  induction os with
  | nil => intro j o h; simp at h
  | cons a r ih =>
    intro j o h
    have e : partsC g (a :: r) = Value.string (strL (partW a)) :: Value.pointer (some ⟨g, a, none⟩) :: partsC g r := by simp [partsC]
    rw [e]
    cases j with
    | zero => simp at h; subst h; exact ⟨rfl, rfl⟩
    | succ j =>
      rw [List.getElem?_cons_succ] at h
      have := ih j o h
      rw [show 2 * (j + 1) = 2 * j + 1 + 1 by omega]
      simp only [List.getElem?_cons_succ]
      exact this
/-- A slice of parts of the call's own. -/
def OwnP (B : Nat) (w : World) (v : Value) (g : Nat) (os : List Nat) : Prop := w.ownsRow B 115 2 v os.length (partsC g os)
theorem own_grown {B : Nat} {w0 w1 w2 : World} {v : Value} {T : TypeId} {n m : Nat} {xs : List Value} (h : w1.ownsRow B T m v n xs) (hb : Below B w0 w1) (hB : B ≤ w1.heap.size) (hg : w1.grownBy w2 v.ownBlock) : Below B w0 w2 := by
  refine hb.trans ⟨hg.os, hg.tape, hg.output, hg.size, fun k hk => hg.block k (Nat.lt_of_lt_of_le hk hB) (fun e => ?_)⟩
  obtain ⟨_, ⟨rfl, _⟩ | ⟨g, cap, cur, rfl, hg1, _⟩⟩ := h
  · cases e
  · have : g = k := by have e2 := e.symm; simpa [Value.ownBlock] using e2
    omega
theorem OwnP.below {B C : Nat} {w w' : World} {v : Value} {g : Nat} {os : List Nat} (h : OwnP B w v g os) (hb : Below C w w') (hC : w.heap.size ≤ C) : OwnP B w' v g os := by
  obtain ⟨h1, h2 | ⟨g2, cap, cur, rfl, hg, hh, rest⟩⟩ := h
  · exact ⟨h1, .inl h2⟩
  · refine ⟨h1, .inr ⟨g2, cap, cur, rfl, hg, ?_, rest⟩⟩
    rw [← hh]
    exact hb.block g2 (Nat.lt_of_lt_of_le (Array.getElem?_eq_some_iff.1 hh).1 hC)
theorem OwnP.at {B : Nat} {w : World} {v : Value} {g : Nat} {os : List Nat} (h : OwnP B w v g os) {j : Nat} {o : Nat} (hj : os[j]? = some o) : ∃ b cap, v = .slice (some ⟨b, 0, none⟩) os.length cap ∧ B ≤ b ∧ b < w.heap.size ∧ w.cell? ⟨b, 2 * j, none⟩ = some (.string (strL (partW o))) ∧ w.cell? ⟨b, 2 * j + 1, none⟩ = some (.pointer (some ⟨g, o, none⟩)) := by
  have hc := fun k (hg : v.ownBlock = some k) => World.ownsRow.cells h (g := k) hg
  have hlt := (List.getElem?_eq_some_iff.1 hj).1
  obtain ⟨h1, ⟨rfl, h2⟩ | ⟨b, cap, cur, rfl, hg, hh, _⟩⟩ := h
  · omega
  · obtain ⟨p1, p2⟩ := partsC_at g os j o hj
    have q1 := hc b rfl _ _ p1
    have q2 := hc b rfl _ _ p2
    have e : ∀ n, (⟨b, 0, none⟩ : Addr).add n = ⟨b, n, none⟩ := by intro n; simp [Addr.add]; intro h; exact h.symm
    rw [e] at q1 q2
    exact ⟨b, cap, rfl, hg, (Array.getElem?_eq_some_iff.1 hh).1, q1, q2⟩
theorem OwnP.len {B : Nat} {w : World} {v : Value} {g : Nat} {os : List Nat} (h : OwnP B w v g os) : ∃ p cap, v = .slice p os.length cap := by
  obtain ⟨h1, ⟨rfl, h2⟩ | ⟨b, cap, cur, rfl, _⟩⟩ := h
  · exact ⟨none, 0, by rw [h2]⟩
  · exact ⟨_, cap, rfl⟩
theorem six_new (w : World) (T : TypeId) (a b c d e f : Value) : ∀ j u, [a, b, c, d, e, f][j]? = some u → (w.alloc (.cells #[a, b, c, d, e, f] T)).cell? ((⟨w.heap.size, 0, none⟩ : Addr).add j) = some u := by
  intro j u hj
  have h := Blk.new w #[a, b, c, d, e, f] T
  have e : (⟨w.heap.size, 0, none⟩ : Addr).add j = ⟨w.heap.size, j, none⟩ := by simp [Addr.add]; intro h; exact h.symm
  rw [e]
  exact h.cell (by simpa using hj)
set_option maxRecDepth 100000 in
set_option maxHeartbeats 3200000 in
theorem parts_three (B g c : Nat) (v : Value) (xs : List Value) (w : World) (hB : B ≤ w.heap.size) (hown : w.ownsRow B 115 2 v 2 xs) (hc0 : w.cell? ⟨c, 0, none⟩ = some (.pointer (some ⟨g, 0, none⟩))) (hcB : c < B) :
    Calls Tryz.prog 111 #[v, .pointer (some ⟨c, 0, none⟩)] w fun e w' => ∃ v', e = .returned v' ∧ w'.ownsRow B 115 2 v' 5 (xs ++ [.string ⟨#[99, 111, 114, 101, 115]⟩, .pointer (some ⟨g, 5, none⟩), .string ⟨#[109, 101, 109, 111, 114, 121]⟩, .pointer (some ⟨g, 6, none⟩), .string ⟨#[100, 105, 115, 107]⟩, .pointer (some ⟨g, 7, none⟩)]) ∧ Below B w w' := by
  obtain ⟨i0, hi, hz, hsize, hby⟩ : ∃ i, Tryz.prog.info? 115 = some i ∧ i.zero = some (.agg #[.string ⟨#[]⟩, .pointer none]) ∧ i.size = 2 ∧ i.bytes = 24 := ⟨_, rfl, rfl, rfl, rfl⟩
  have HI := Lib.hid hi
  have HO := Lib.hid hown
  clear hi hown
  go_enter Tryz.func111, Tryz.ntmps111
  go_upto_region 1 with fail
  refine wp_region_held_drew (S := (fun w' => w'.cell? ⟨c, 0, none⟩ = some (.pointer (some ⟨g, 0, none⟩)))) (by kernel_rfl) hc0 (fun hHeld => ?_)
  refine wpAnyH_take (i := 0) (oi := ({ dst := some 4, op := Op.move (Operand.tmp 0), type := 111, pos := "phrase.go:32", after := #[], guard := none })) (v := v) rfl (by kernel_rfl) (by kernel_rfl) (by kernel_rfl) (fun _ _ _ h => h) (Or.inl ⟨by rfl, ?_⟩) (by assumption) ?_
  · (intro w hSw; (try dsimp only at hSw); go_simp)
  try simp only [Act.put, List.setIfInBounds_toArray, List.set_cons_zero, List.set_cons_succ]
  refine wpAnyH_take (i := 1) (oi := ({ dst := some 5, op := Op.load 113 (Operand.tmp 1), type := 113, pos := "phrase.go:32", after := #[], guard := none })) (v := (.pointer (some ⟨g, 0, none⟩))) rfl (by kernel_rfl) (by kernel_rfl) (by kernel_rfl) (fun _ _ _ h => h) (Or.inl ⟨by rfl, ?_⟩) (by assumption) ?_
  · (intro w hSw; (try dsimp only at hSw); go_simp)
  try simp only [Act.put, List.setIfInBounds_toArray, List.set_cons_zero, List.set_cons_succ]
  refine wpAnyH_take (i := 2) (oi := ({ dst := some 6, op := Op.nilCheck (Operand.tmp 5), type := 0, pos := "phrase.go:32", after := #[{ on := 1, ground := Ground.data }], guard := none })) (v := (.pointer (some ⟨g, 0, none⟩))) rfl (by kernel_rfl) (by kernel_rfl) (by kernel_rfl) (fun _ _ _ h => h) (Or.inl ⟨by rfl, ?_⟩) (by assumption) ?_
  · (intro w hSw; (try dsimp only at hSw); go_simp)
  try simp only [Act.put, List.setIfInBounds_toArray, List.set_cons_zero, List.set_cons_succ]
  refine wpAnyH_take (i := 3) (oi := ({ dst := some 7, op := Op.fieldAddr 43 (Operand.tmp 6) 5, type := 0, pos := "phrase.go:32", after := #[{ on := 2, ground := Ground.data }], guard := none })) (v := (.pointer (some ⟨g, 5, none⟩))) rfl (by kernel_rfl) (by kernel_rfl) (by kernel_rfl) (fun _ _ _ h => h) (Or.inl ⟨by rfl, ?_⟩) (by assumption) ?_
  · (intro w hSw; (try dsimp only at hSw); go_simp)
  try simp only [Act.put, List.setIfInBounds_toArray, List.set_cons_zero, List.set_cons_succ]
  refine wpAnyH_take (i := 4) (oi := ({ dst := some 8, op := Op.indexAddr 23 (Operand.tmp 7) (Operand.const (Value.int IntKind.i64 0)), type := 0, pos := "phrase.go:32", after := #[{ on := 3, ground := Ground.data }], guard := none })) (v := (.pointer (some ⟨g, 5, none⟩))) rfl (by kernel_rfl) (by kernel_rfl) (by kernel_rfl) (fun _ _ _ h => h) (Or.inl ⟨by rfl, ?_⟩) (by assumption) ?_
  · (intro w hSw; (try dsimp only at hSw); go_simp)
  try simp only [Act.put, List.setIfInBounds_toArray, List.set_cons_zero, List.set_cons_succ]
  refine wpAnyH_take (i := 5) (oi := ({ dst := some 9, op := Op.build 115 #[(0, Operand.const (Value.string { data := #[99, 111, 114, 101, 115] })), (1, Operand.tmp 8)], type := 115, pos := "phrase.go:32", after := #[{ on := 4, ground := Ground.data }], guard := none })) (v := (.agg #[.string ⟨#[99, 111, 114, 101, 115]⟩, .pointer (some ⟨g, 5, none⟩)])) rfl (by kernel_rfl) (by kernel_rfl) (by kernel_rfl) (fun _ _ _ h => h) (Or.inl ⟨by rfl, ?_⟩) (by assumption) ?_
  · (intro w hSw; (try dsimp only at hSw); go_simp)
  try simp only [Act.put, List.setIfInBounds_toArray, List.set_cons_zero, List.set_cons_succ]
  refine wpAnyH_take (i := 6) (oi := ({ dst := some 10, op := Op.load 113 (Operand.tmp 1), type := 113, pos := "phrase.go:32", after := #[], guard := none })) (v := (.pointer (some ⟨g, 0, none⟩))) rfl (by kernel_rfl) (by kernel_rfl) (by kernel_rfl) (fun _ _ _ h => h) (Or.inl ⟨by rfl, ?_⟩) (by assumption) ?_
  · (intro w hSw; (try dsimp only at hSw); go_simp)
  try simp only [Act.put, List.setIfInBounds_toArray, List.set_cons_zero, List.set_cons_succ]
  refine wpAnyH_take (i := 7) (oi := ({ dst := some 11, op := Op.nilCheck (Operand.tmp 10), type := 0, pos := "phrase.go:32", after := #[{ on := 6, ground := Ground.data }], guard := none })) (v := (.pointer (some ⟨g, 0, none⟩))) rfl (by kernel_rfl) (by kernel_rfl) (by kernel_rfl) (fun _ _ _ h => h) (Or.inl ⟨by rfl, ?_⟩) (by assumption) ?_
  · (intro w hSw; (try dsimp only at hSw); go_simp)
  try simp only [Act.put, List.setIfInBounds_toArray, List.set_cons_zero, List.set_cons_succ]
  refine wpAnyH_take (i := 8) (oi := ({ dst := some 12, op := Op.fieldAddr 43 (Operand.tmp 11) 5, type := 0, pos := "phrase.go:32", after := #[{ on := 7, ground := Ground.data }], guard := none })) (v := (.pointer (some ⟨g, 5, none⟩))) rfl (by kernel_rfl) (by kernel_rfl) (by kernel_rfl) (fun _ _ _ h => h) (Or.inl ⟨by rfl, ?_⟩) (by assumption) ?_
  · (intro w hSw; (try dsimp only at hSw); go_simp)
  try simp only [Act.put, List.setIfInBounds_toArray, List.set_cons_zero, List.set_cons_succ]
  refine wpAnyH_take (i := 9) (oi := ({ dst := some 13, op := Op.indexAddr 23 (Operand.tmp 12) (Operand.const (Value.int IntKind.i64 1)), type := 0, pos := "phrase.go:32", after := #[{ on := 8, ground := Ground.data }], guard := none })) (v := (.pointer (some ⟨g, 6, none⟩))) rfl (by kernel_rfl) (by kernel_rfl) (by kernel_rfl) (fun _ _ _ h => h) (Or.inl ⟨by rfl, ?_⟩) (by assumption) ?_
  · (intro w hSw; (try dsimp only at hSw); go_simp)
  try simp only [Act.put, List.setIfInBounds_toArray, List.set_cons_zero, List.set_cons_succ]
  refine wpAnyH_take (i := 10) (oi := ({ dst := some 14, op := Op.build 115 #[(0, Operand.const (Value.string { data := #[109, 101, 109, 111, 114, 121] })), (1, Operand.tmp 13)], type := 115, pos := "phrase.go:32", after := #[{ on := 9, ground := Ground.data }], guard := none })) (v := (.agg #[.string ⟨#[109, 101, 109, 111, 114, 121]⟩, .pointer (some ⟨g, 6, none⟩)])) rfl (by kernel_rfl) (by kernel_rfl) (by kernel_rfl) (fun _ _ _ h => h) (Or.inl ⟨by rfl, ?_⟩) (by assumption) ?_
  · (intro w hSw; (try dsimp only at hSw); go_simp)
  try simp only [Act.put, List.setIfInBounds_toArray, List.set_cons_zero, List.set_cons_succ]
  refine wpAnyH_take (i := 11) (oi := ({ dst := some 15, op := Op.load 113 (Operand.tmp 1), type := 113, pos := "phrase.go:32", after := #[], guard := none })) (v := (.pointer (some ⟨g, 0, none⟩))) rfl (by kernel_rfl) (by kernel_rfl) (by kernel_rfl) (fun _ _ _ h => h) (Or.inl ⟨by rfl, ?_⟩) (by assumption) ?_
  · (intro w hSw; (try dsimp only at hSw); go_simp)
  try simp only [Act.put, List.setIfInBounds_toArray, List.set_cons_zero, List.set_cons_succ]
  refine wpAnyH_take (i := 12) (oi := ({ dst := some 16, op := Op.nilCheck (Operand.tmp 15), type := 0, pos := "phrase.go:32", after := #[{ on := 11, ground := Ground.data }], guard := none })) (v := (.pointer (some ⟨g, 0, none⟩))) rfl (by kernel_rfl) (by kernel_rfl) (by kernel_rfl) (fun _ _ _ h => h) (Or.inl ⟨by rfl, ?_⟩) (by assumption) ?_
  · (intro w hSw; (try dsimp only at hSw); go_simp)
  try simp only [Act.put, List.setIfInBounds_toArray, List.set_cons_zero, List.set_cons_succ]
  refine wpAnyH_take (i := 13) (oi := ({ dst := some 17, op := Op.fieldAddr 43 (Operand.tmp 16) 5, type := 0, pos := "phrase.go:32", after := #[{ on := 12, ground := Ground.data }], guard := none })) (v := (.pointer (some ⟨g, 5, none⟩))) rfl (by kernel_rfl) (by kernel_rfl) (by kernel_rfl) (fun _ _ _ h => h) (Or.inl ⟨by rfl, ?_⟩) (by assumption) ?_
  · (intro w hSw; (try dsimp only at hSw); go_simp)
  try simp only [Act.put, List.setIfInBounds_toArray, List.set_cons_zero, List.set_cons_succ]
  refine wpAnyH_take (i := 14) (oi := ({ dst := some 18, op := Op.indexAddr 23 (Operand.tmp 17) (Operand.const (Value.int IntKind.i64 2)), type := 0, pos := "phrase.go:32", after := #[{ on := 13, ground := Ground.data }], guard := none })) (v := (.pointer (some ⟨g, 7, none⟩))) rfl (by kernel_rfl) (by kernel_rfl) (by kernel_rfl) (fun _ _ _ h => h) (Or.inl ⟨by rfl, ?_⟩) (by assumption) ?_
  · (intro w hSw; (try dsimp only at hSw); go_simp)
  try simp only [Act.put, List.setIfInBounds_toArray, List.set_cons_zero, List.set_cons_succ]
  refine wpAnyH_take (i := 15) (oi := ({ dst := some 19, op := Op.build 115 #[(0, Operand.const (Value.string { data := #[100, 105, 115, 107] })), (1, Operand.tmp 18)], type := 115, pos := "phrase.go:32", after := #[{ on := 14, ground := Ground.data }], guard := none })) (v := (.agg #[.string ⟨#[100, 105, 115, 107]⟩, .pointer (some ⟨g, 7, none⟩)])) rfl (by kernel_rfl) (by kernel_rfl) (by kernel_rfl) (fun _ _ _ h => h) (Or.inl ⟨by rfl, ?_⟩) (by assumption) ?_
  · (intro w hSw; (try dsimp only at hSw); go_simp)
  try simp only [Act.put, List.setIfInBounds_toArray, List.set_cons_zero, List.set_cons_succ]
  refine wpAnyH_ready (rs := [16]) (by kernel_rfl) (by simp) (AllReadyH.cons (o := ({ dst := some 20, op := Op.buildSlice 111 3 #[(0, Operand.tmp 9), (1, Operand.tmp 14), (2, Operand.tmp 19)], type := 111, pos := "phrase.go:32", after := #[{ on := 5, ground := Ground.data }, { on := 10, ground := Ground.data }, { on := 15, ground := Ground.data }], guard := none })) rfl (fun K hK => ?_) AllReadyH.nil)
  go_simp
  clear hHeld
  refine hK.out _ _ (keepA hc0 _) (fun hHeld => ?_)
  clear hK K
  try simp only [Act.put, List.setIfInBounds_toArray, List.set_cons_zero, List.set_cons_succ]
  refine wpAnyH_ready (rs := [17]) (by kernel_rfl) (by simp) (AllReadyH.cons (o := ({ dst := some 21, op := Op.call { callee := Callee.builtin Builtin.append, args := #[Operand.tmp 4, Operand.tmp 20], argTypes := #[111, 111] }, type := 111, pos := "phrase.go:32", after := #[{ on := 0, ground := Ground.data }, { on := 16, ground := Ground.data }], guard := none })) rfl (fun K hK => ?_) AllReadyH.nil)
  rw [if_pos (by rfl)]
  refine wp_append_own _ _ _ 111 rfl B 115 i0 (.agg #[.string ⟨#[]⟩, .pointer none]) 2 24 Tryz.underlying111 HI.out hz hsize hby rfl (by decide) _ 2 xs rfl ?a1 ⟨_, 0, none⟩ 3 3 [.string ⟨#[99, 111, 114, 101, 115]⟩, .pointer (some ⟨g, 5, none⟩), .string ⟨#[109, 101, 109, 111, 114, 121]⟩, .pointer (some ⟨g, 6, none⟩), .string ⟨#[100, 105, 115, 107]⟩, .pointer (some ⟨g, 7, none⟩)] rfl rfl ?a2 ?a3 ?a4 ?a5 ?a6 ?a7
  case a1 => exact (HO.out.alloc _)
  case a2 => exact six_new _ _ _ _ _ _ _ _
  case a3 => intro u hu; simp at hu; rcases hu with rfl | rfl | rfl | rfl | rfl | rfl <;> rfl
  case a4 => unfold maxLen; omega
  case a5 => omega
  case a6 => simp; omega
  intro v' w4 hown2 hgrow _
  have HO3 := Lib.hid hown2
  change World.grownBy _ w4 v.ownBlock at hgrow
  have HB3 : Hid (Below B w w4) := Lib.hid (own_grown (by exact (HO.out.alloc _)) (by have h := (Below.refl B w).alloc hB (.cells #[.string ⟨#[99, 111, 114, 101, 115]⟩, .pointer (some ⟨g, 5, none⟩), .string ⟨#[109, 101, 109, 111, 114, 121]⟩, .pointer (some ⟨g, 6, none⟩), .string ⟨#[100, 105, 115, 107]⟩, .pointer (some ⟨g, 7, none⟩)] 115); exact ⟨h.os, h.tape, h.output, h.size, h.block⟩) (by simp; omega) hgrow)
  have hcw := keepB HB3.out hc0 hcB
  clear hown2 hgrow
  clear hHeld
  refine hK.out _ _ hcw (fun hHeld => ?_)
  clear hK K
  try simp only [Act.put, List.setIfInBounds_toArray, List.set_cons_zero, List.set_cons_succ]
  refine wpAnyH_take (i := 18) (oi := ({ dst := some 3, op := Op.assign (Operand.tmp 21), type := 111, pos := "phrase.go:32", after := #[{ on := 17, ground := Ground.data }, { on := 17, ground := Ground.chain }, { on := 0, ground := Ground.phase }, { on := 1, ground := Ground.phase }, { on := 2, ground := Ground.phase }, { on := 3, ground := Ground.phase }, { on := 4, ground := Ground.phase }, { on := 5, ground := Ground.phase }, { on := 6, ground := Ground.phase }, { on := 7, ground := Ground.phase }, { on := 8, ground := Ground.phase }, { on := 9, ground := Ground.phase }, { on := 10, ground := Ground.phase }, { on := 11, ground := Ground.phase }, { on := 12, ground := Ground.phase }, { on := 13, ground := Ground.phase }, { on := 14, ground := Ground.phase }, { on := 15, ground := Ground.phase }, { on := 16, ground := Ground.phase }, { on := 17, ground := Ground.phase }], guard := none })) (v := v') rfl (by kernel_rfl) (by kernel_rfl) (by kernel_rfl) (fun _ _ _ h => h) (Or.inl ⟨by rfl, ?_⟩) (by assumption) ?_
  · (intro w hSw; (try dsimp only at hSw); go_simp)
  try simp only [Act.put, List.setIfInBounds_toArray, List.set_cons_zero, List.set_cons_succ]
  refine wpAnyH_done (by kernel_rfl) ?_ _
  clear hHeld
  go_wp2_with fail
  go_ret
  exact ⟨_, rfl, HO3.out, HB3.out⟩
set_option maxRecDepth 100000 in
set_option maxHeartbeats 3200000 in
theorem phrase_parts (g : Nat) (k : Int) (hk : 1 ≤ k ∧ k ≤ 7) (w : World) (hc : w.cell? ⟨g, 0, none⟩ = some (.int .i64 k)) :
    Calls Tryz.prog 87 #[.pointer (some ⟨g, 0, none⟩)] w fun e w' => ∃ v, e = .returned v ∧ OwnP w.heap.size w' v g (offs k) ∧ Below w.heap.size w w' := by
  have hgl : g < w.heap.size := World.block_lt_of_cell? w _ hc
  obtain ⟨n, hn⟩ : ∃ n, w.heap.size = n := ⟨_, rfl⟩
  obtain ⟨W1, hW1⟩ : ∃ W1, (((w.alloc (.cells #[.pointer (some ⟨g, 0, none⟩)] 113)).alloc (.cells #[.string ⟨#[110, 111, 100, 101]⟩, .pointer (some ⟨g, 1, none⟩), .string ⟨#[105, 110, 99]⟩, .pointer (some ⟨g, 3, none⟩)] 115))).drew = W1 := ⟨_, rfl⟩
  have hz1 : W1.heap.size = n + 1 + 1 := by rw [← hW1, ← hn]; simp
  have hb1 : Below n w W1 := by
    have h := ((Below.refl w.heap.size w).alloc (Nat.le_refl _) (.cells #[.pointer (some ⟨g, 0, none⟩)] 113)).alloc (by simp) (.cells #[.string ⟨#[110, 111, 100, 101]⟩, .pointer (some ⟨g, 1, none⟩), .string ⟨#[105, 110, 99]⟩, .pointer (some ⟨g, 3, none⟩)] 115)
    rw [← hW1, ← hn]
    exact ⟨h.os, h.tape, h.output, h.size, h.block⟩
  have hbox1 : Blk W1 n #[.pointer (some ⟨g, 0, none⟩)] 113 := by
    rw [← hW1, ← hn]
    exact ((Blk.new w _ _).alloc _).drew
  have hnode1 : W1.ownsRow (n + 1) 115 2 (.slice (some ⟨n + 1, 0, none⟩) 2 2) 2 (partsC g [1, 3]) := by
    have h := World.ownsRow_lit (base := n + 1) (e := 115) (size := 2) (w.alloc (.cells #[.pointer (some ⟨g, 0, none⟩)] 113)) #[.string ⟨#[110, 111, 100, 101]⟩, .pointer (some ⟨g, 1, none⟩), .string ⟨#[105, 110, 99]⟩, .pointer (some ⟨g, 3, none⟩)] 2 (by simp; omega) (by decide) rfl
    rw [show (w.alloc (.cells #[.pointer (some ⟨g, 0, none⟩)] 113)).heap.size = n + 1 by simp; exact hn] at h
    rw [← hW1]
    exact h
  obtain ⟨W2, hW2⟩ : ∃ W2, W1.alloc (.cells #[.string ⟨#[106, 111, 98]⟩, .pointer (some ⟨g, 2, none⟩)] 115) = W2 := ⟨_, rfl⟩
  have HZ : Hid (W2.heap.size = n + 1 + 1 + 1) := Lib.hid (by rw [← hW2]; simp [hz1])
  have HB : Hid (Below n w W2) := Lib.hid (by rw [← hW2]; exact hb1.alloc (by omega) _)
  have HX : Hid (Blk W2 n #[.pointer (some ⟨g, 0, none⟩)] 113) := Lib.hid (by rw [← hW2]; exact hbox1.alloc _)
  have HN : Hid (W2.ownsRow (n + 1) 115 2 (.slice (some ⟨n + 1, 0, none⟩) 2 2) 2 (partsC g [1, 3])) := Lib.hid (by rw [← hW2]; exact hnode1.alloc _)
  have HJ : Hid (Blk W2 (n + 1 + 1) #[.string ⟨#[106, 111, 98]⟩, .pointer (some ⟨g, 2, none⟩)] 115) := Lib.hid (by rw [← hW2, ← hz1]; exact Blk.new W1 _ _)
  have HC1 := Lib.hid (keepB hb1 hc (by show g < n; omega))
  have HC2 : Hid (W2.cell? ⟨g, 0, none⟩ = some (.int .i64 k)) := Lib.hid (keepB HB.out hc (by show g < n; omega))
  have HZ1 := Lib.hid hz1
  have HG : Hid (g < n) := Lib.hid (by omega)
  have HW1 := Lib.hid hW1
  have HW2 := Lib.hid hW2
  have HN0 := Lib.hid hn
  have HX1 := Lib.hid hbox1
  obtain ⟨i0, hi, hz, hsize, hby⟩ : ∃ i, Tryz.prog.info? 115 = some i ∧ i.zero = some (.agg #[.string ⟨#[]⟩, .pointer none]) ∧ i.size = 2 ∧ i.bytes = 24 := ⟨_, rfl, rfl, rfl, rfl⟩
  have HI := Lib.hid hi
  clear hi
  rw [hn]
  clear hz1 hb1 hbox1 hnode1 hW1 hW2 hgl hn
  go_enter Tryz.func87, Tryz.ntmps87
  go_upto_region 1 with fail
  go_region_held3 (fun w' => w'.cell? ⟨w.heap.size, 0, none⟩ = some (.pointer (some ⟨g, 0, none⟩))) (go_keep) (fail)
  go_upto_region 2 with fail
  rw [HW1.out]
  try rw [HN0.out]
  go_upto_region 3 with fail
  have cb := HX1.out.cell (i := 0) rfl
  have cg := HC1.out
  go_upto_region 4 with fail
  try rw [HZ1.out]
  rw [HW2.out]
  clear cb cg HX1 HC1 HW1 HW2 HZ1
  have cb := HX.out.cell (i := 0) rfl
  have cg := HC2.out
  have cj0 := HJ.out.cell (i := 0) rfl
  have cj1 := HJ.out.cell (i := 1) rfl
  rcases kind_seven hk with rfl | rfl | rfl | rfl | rfl | rfl | rfl
  · go_wp2_with fail
    refine (parts_three (n + 1) g n _ _ W2 (by rw [HZ.out]; omega) HN.out cb (by omega)).mono ?_
    rintro e w3 ⟨v, rfl, ho, hb⟩
    have HR := Lib.hid ho
    have HB4 := Lib.hid (HB.out.trans (hb.mono (by omega)))
    clear ho hb
    go_wp2_with fail
    go_ret
    exact ⟨_, rfl, HR.out.mono (by omega), HB4.out⟩
  · go_wp2_with fail
    refine (parts_three (n + 1) g n _ _ W2 (by rw [HZ.out]; omega) HN.out cb (by omega)).mono ?_
    rintro e w3 ⟨v, rfl, ho, hb⟩
    have HR := Lib.hid ho
    have HB4 := Lib.hid (HB.out.trans (hb.mono (by omega)))
    clear ho hb
    go_wp2_with fail
    go_ret
    exact ⟨_, rfl, HR.out.mono (by omega), HB4.out⟩
  · go_wp2_with fail
    go_ret
    exact ⟨_, rfl, HN.out.mono (by omega), HB.out⟩
  · go_upto_region 11 with fail
    refine wp_region_held_drew (S := (fun w' => w'.cell? ⟨n + 1 + 1, 0, none⟩ = some (.string ⟨#[106, 111, 98]⟩) ∧ w'.cell? ⟨n + 1 + 1, 1, none⟩ = some (.pointer (some ⟨g, 2, none⟩)) ∧ w'.cell? ⟨n, 0, none⟩ = some (.pointer (some ⟨g, 0, none⟩)))) (by kernel_rfl) ⟨cj0, cj1, cb⟩ (fun hHeld => ?_)
    refine wpAnyH_take (i := 0) (oi := ({ dst := some 35, op := Op.move (Operand.tmp 4), type := 138, pos := "phrase.go:41", after := #[], guard := none })) (v := (.func (Fn.func 111) #[] #[.pointer (some ⟨n, 0, none⟩)])) rfl (by kernel_rfl) (by kernel_rfl) (by kernel_rfl) (fun _ _ _ h => h) (Or.inl ⟨by rfl, ?_⟩) (by assumption) ?_
    · (intro w hSw; (try dsimp only at hSw); go_simp)
    try simp only [Act.put, List.setIfInBounds_toArray, List.set_cons_zero, List.set_cons_succ]
    refine wpAnyH_take (i := 1) (oi := ({ dst := some 36, op := Op.load 115 (Operand.tmp 5), type := 115, pos := "phrase.go:41", after := #[], guard := none })) (v := (.agg #[.string ⟨#[106, 111, 98]⟩, .pointer (some ⟨g, 2, none⟩)])) rfl (by kernel_rfl) (by kernel_rfl) (by kernel_rfl) (fun _ _ _ h => h) (Or.inl ⟨by rfl, ?_⟩) (by assumption) ?_
    · (intro w hSw; (try dsimp only at hSw); go_simp)
    try simp only [Act.put, List.setIfInBounds_toArray, List.set_cons_zero, List.set_cons_succ]
    refine wpAnyH_take (i := 2) (oi := ({ dst := some 37, op := Op.load 113 (Operand.tmp 1), type := 113, pos := "phrase.go:41", after := #[], guard := none })) (v := (.pointer (some ⟨g, 0, none⟩))) rfl (by kernel_rfl) (by kernel_rfl) (by kernel_rfl) (fun _ _ _ h => h) (Or.inl ⟨by rfl, ?_⟩) (by assumption) ?_
    · (intro w hSw; (try dsimp only at hSw); go_simp)
    try simp only [Act.put, List.setIfInBounds_toArray, List.set_cons_zero, List.set_cons_succ]
    refine wpAnyH_take (i := 3) (oi := ({ dst := some 38, op := Op.nilCheck (Operand.tmp 37), type := 0, pos := "phrase.go:41", after := #[{ on := 2, ground := Ground.data }], guard := none })) (v := (.pointer (some ⟨g, 0, none⟩))) rfl (by kernel_rfl) (by kernel_rfl) (by kernel_rfl) (fun _ _ _ h => h) (Or.inl ⟨by rfl, ?_⟩) (by assumption) ?_
    · (intro w hSw; (try dsimp only at hSw); go_simp)
    try simp only [Act.put, List.setIfInBounds_toArray, List.set_cons_zero, List.set_cons_succ]
    refine wpAnyH_take (i := 4) (oi := ({ dst := some 39, op := Op.fieldAddr 43 (Operand.tmp 38) 4, type := 0, pos := "phrase.go:41", after := #[{ on := 3, ground := Ground.data }], guard := none })) (v := (.pointer (some ⟨g, 4, none⟩))) rfl (by kernel_rfl) (by kernel_rfl) (by kernel_rfl) (fun _ _ _ h => h) (Or.inl ⟨by rfl, ?_⟩) (by assumption) ?_
    · (intro w hSw; (try dsimp only at hSw); go_simp)
    try simp only [Act.put, List.setIfInBounds_toArray, List.set_cons_zero, List.set_cons_succ]
    refine wpAnyH_take (i := 5) (oi := ({ dst := some 40, op := Op.build 115 #[(0, Operand.const (Value.string { data := #[112, 114, 105, 111] })), (1, Operand.tmp 39)], type := 115, pos := "phrase.go:41", after := #[{ on := 4, ground := Ground.data }], guard := none })) (v := (.agg #[.string ⟨#[112, 114, 105, 111]⟩, .pointer (some ⟨g, 4, none⟩)])) rfl (by kernel_rfl) (by kernel_rfl) (by kernel_rfl) (fun _ _ _ h => h) (Or.inl ⟨by rfl, ?_⟩) (by assumption) ?_
    · (intro w hSw; (try dsimp only at hSw); go_simp)
    try simp only [Act.put, List.setIfInBounds_toArray, List.set_cons_zero, List.set_cons_succ]
    refine wpAnyH_ready (rs := [6]) (by kernel_rfl) (by simp) (AllReadyH.cons (o := ({ dst := some 41, op := Op.buildSlice 111 2 #[(0, Operand.tmp 36), (1, Operand.tmp 40)], type := 111, pos := "phrase.go:41", after := #[{ on := 1, ground := Ground.data }, { on := 5, ground := Ground.data }], guard := none })) rfl (fun K hK => ?_) AllReadyH.nil)
    go_simp
    try rw [HZ.out]
    clear hHeld
    refine hK.out _ _ ⟨keepA cj0 _, keepA cj1 _, keepA cb _⟩ (fun hHeld => ?_)
    clear hK K
    try simp only [Act.put, List.setIfInBounds_toArray, List.set_cons_zero, List.set_cons_succ]
    refine wpAnyH_ready (rs := [7]) (by kernel_rfl) (by simp) (AllReadyH.cons (o := ({ dst := some 42, op := Op.call { callee := Callee.value (Operand.tmp 35), args := #[Operand.tmp 41], argTypes := #[111] }, type := 111, pos := "phrase.go:41", after := #[{ on := 0, ground := Ground.data }, { on := 6, ground := Ground.data }], guard := none })) rfl (fun K hK => ?_) AllReadyH.nil)
    go_simp
    refine (parts_three (n + 1 + 1 + 1) g n _ (partsC g [2, 4]) ((W2.alloc (.cells #[.string ⟨#[106, 111, 98]⟩, .pointer (some ⟨g, 2, none⟩), .string ⟨#[112, 114, 105, 111]⟩, .pointer (some ⟨g, 4, none⟩)] 115)).drew) (by have := HZ.out; simp; omega) (by have h := World.ownsRow_lit (base := n + 1 + 1 + 1) (e := 115) (size := 2) W2 #[.string ⟨#[106, 111, 98]⟩, .pointer (some ⟨g, 2, none⟩), .string ⟨#[112, 114, 105, 111]⟩, .pointer (some ⟨g, 4, none⟩)] 2 (by rw [HZ.out]; omega) (by decide) rfl; rw [HZ.out] at h; exact h) (keepA cb _) (by omega)).mono ?_
    rintro e w3 ⟨v, rfl, ho, hb⟩
    have HR := Lib.hid ho
    have HB4 : Hid (Below n w w3) := Lib.hid ((HB.out.alloc (by rw [HZ.out]; omega) (.cells #[.string ⟨#[106, 111, 98]⟩, .pointer (some ⟨g, 2, none⟩), .string ⟨#[112, 114, 105, 111]⟩, .pointer (some ⟨g, 4, none⟩)] 115)).trans (Below.mono (by exact ⟨hb.os, hb.tape, hb.output, hb.size, hb.block⟩) (by omega)))
    have hs1 := keepB hb (keepA cj0 _) (by show n + 1 + 1 < n + 1 + 1 + 1; omega)
    have hs2 := keepB hb (keepA cj1 _) (by show n + 1 + 1 < n + 1 + 1 + 1; omega)
    have hs3 := keepB hb (keepA cb _) (by show n < n + 1 + 1 + 1; omega)
    clear ho hb
    go_wp2_with fail
    clear hHeld
    refine hK.out _ _ ⟨hs1, hs2, hs3⟩ (fun hHeld => ?_)
    clear hK K
    try simp only [Act.put, List.setIfInBounds_toArray, List.set_cons_zero, List.set_cons_succ]
    refine wpAnyH_take (i := 8) (oi := ({ dst := some 2, op := Op.assign (Operand.tmp 42), type := 111, pos := "phrase.go:41", after := #[{ on := 7, ground := Ground.data }, { on := 7, ground := Ground.chain }, { on := 0, ground := Ground.phase }, { on := 1, ground := Ground.phase }, { on := 2, ground := Ground.phase }, { on := 3, ground := Ground.phase }, { on := 4, ground := Ground.phase }, { on := 5, ground := Ground.phase }, { on := 6, ground := Ground.phase }, { on := 7, ground := Ground.phase }], guard := none })) (v := v) rfl (by kernel_rfl) (by kernel_rfl) (by kernel_rfl) (fun _ _ _ h => h) (Or.inl ⟨by rfl, ?_⟩) (by assumption) ?_
    · (intro w hSw; (try dsimp only at hSw); go_simp)
    try simp only [Act.put, List.setIfInBounds_toArray, List.set_cons_zero, List.set_cons_succ]
    refine wpAnyH_done (by kernel_rfl) ?_ _
    clear hHeld
    go_wp2_with fail
    go_ret
    exact ⟨_, rfl, HR.out.mono (by omega), HB4.out⟩
  · go_wp2_with fail
    go_ret
    refine ⟨_, rfl, (World.ownsRow_lit (base := n) (e := 115) (size := 2) W2 #[.string ⟨#[106, 111, 98]⟩, .pointer (some ⟨g, 2, none⟩)] 1 (by rw [HZ.out]; omega) (by decide) rfl), HB.out.alloc (by rw [HZ.out]; omega) _⟩
  · have hlit := World.ownsRow_lit (base := n + 1) (e := 115) (size := 2) W2 #[.string ⟨#[106, 111, 98]⟩, .pointer (some ⟨g, 2, none⟩)] 1 (by rw [HZ.out]; omega) (by decide) rfl
    have hnews : ∀ j u, (partsC g [1, 3])[j]? = some u → (W2.alloc (.cells #[.string ⟨#[106, 111, 98]⟩, .pointer (some ⟨g, 2, none⟩)] 115)).cell? ((⟨n + 1, 0, none⟩ : Addr).add j) = some u := fun j u hj => World.ownsRow.cells (HN.out.alloc _) (g := n + 1) rfl j u hj
    have hone : ∀ u ∈ partsC g [1, 3], u.oneCell' = true := by intro u hu; simp [partsC] at hu; rcases hu with rfl | rfl | rfl | rfl <;> rfl
    have hbs : n + 1 ≤ (W2.alloc (.cells #[.string ⟨#[106, 111, 98]⟩, .pointer (some ⟨g, 2, none⟩)] 115)).heap.size := by have := HZ.out; simp; omega
    have HLIT := Lib.hid hlit
    have HNEWS := Lib.hid hnews
    have HONE := Lib.hid hone
    have HBS := Lib.hid hbs
    clear hlit hnews hone hbs
    go_wp2_with (at_builtin; (refine wpList_append_own _ rfl _ _ 111 rfl (n + 1) 115 i0 (.agg #[.string ⟨#[]⟩, .pointer none]) 2 24 Tryz.underlying111 HI.out hz hsize hby rfl (by decide) _ 1 (partsC g [2]) rfl HLIT.out ⟨n + 1, 0, none⟩ 2 2 (partsC g [1, 3]) rfl rfl HNEWS.out HONE.out (by decide) (by decide) HBS.out ?_))
    intro v' w4 hown2 hgrow _
    have HR := Lib.hid hown2
    have HB4 : Hid (Below n w w4) := Lib.hid (own_grown (by exact World.ownsRow_lit (base := n) (e := 115) (size := 2) W2 #[.string ⟨#[106, 111, 98]⟩, .pointer (some ⟨g, 2, none⟩)] 1 (by rw [HZ.out]; omega) (by decide) rfl) (HB.out.alloc (by rw [HZ.out]; omega) _) (by have := HZ.out; simp; omega) hgrow)
    clear hown2 hgrow
    go_wp2_with fail
    go_ret
    exact ⟨_, rfl, HR.out.mono (by omega), HB4.out⟩
  · have hlit := World.ownsRow_lit (base := n + 1) (e := 115) (size := 2) W2 #[.string ⟨#[106, 111, 98]⟩, .pointer (some ⟨g, 2, none⟩)] 1 (by rw [HZ.out]; omega) (by decide) rfl
    have hnews : ∀ j u, (partsC g [1, 3])[j]? = some u → (W2.alloc (.cells #[.string ⟨#[106, 111, 98]⟩, .pointer (some ⟨g, 2, none⟩)] 115)).cell? ((⟨n + 1, 0, none⟩ : Addr).add j) = some u := fun j u hj => World.ownsRow.cells (HN.out.alloc _) (g := n + 1) rfl j u hj
    have hone : ∀ u ∈ partsC g [1, 3], u.oneCell' = true := by intro u hu; simp [partsC] at hu; rcases hu with rfl | rfl | rfl | rfl <;> rfl
    have hbs : n + 1 ≤ (W2.alloc (.cells #[.string ⟨#[106, 111, 98]⟩, .pointer (some ⟨g, 2, none⟩)] 115)).heap.size := by have := HZ.out; simp; omega
    have HLIT := Lib.hid hlit
    have HNEWS := Lib.hid hnews
    have HONE := Lib.hid hone
    have HBS := Lib.hid hbs
    clear hlit hnews hone hbs
    go_wp2_with (at_builtin; (refine wpList_append_own _ rfl _ _ 111 rfl (n + 1) 115 i0 (.agg #[.string ⟨#[]⟩, .pointer none]) 2 24 Tryz.underlying111 HI.out hz hsize hby rfl (by decide) _ 1 (partsC g [2]) rfl HLIT.out ⟨n + 1, 0, none⟩ 2 2 (partsC g [1, 3]) rfl rfl HNEWS.out HONE.out (by decide) (by decide) HBS.out ?_))
    intro v' w4 hown2 hgrow _
    have HR := Lib.hid hown2
    have HB4 : Hid (Below n w w4) := Lib.hid (own_grown (by exact World.ownsRow_lit (base := n) (e := 115) (size := 2) W2 #[.string ⟨#[106, 111, 98]⟩, .pointer (some ⟨g, 2, none⟩)] 1 (by rw [HZ.out]; omega) (by decide) rfl) (HB.out.alloc (by rw [HZ.out]; omega) _) (by have := HZ.out; simp; omega) hgrow)
    clear hown2 hgrow
    go_wp2_with fail
    go_ret
    exact ⟨_, rfl, HR.out.mono (by omega), HB4.out⟩
end Go.Proofs.YtanihdpgblkeaaaGreatDoor
