/-
  Two disks of the call's own, beside blocks that they do not touch; and the reference's calls, whatever they come to (reeve's layer 38).
-/
import Derived.Test.YtdeeeoakdfldkaaDiskAny
import Derived.Test.YtdeeeoakdfldkaaDiskRef
namespace Go.Proofs.Ytdeeeoakdfldkaa
open Go.RowKit
set_option linter.unusedVariables false
set_option linter.unusedSimpArgs false

structure TwoP (w0 : World) (b1 b2 : Nat) (R : Nat → Prop) (w : World) (d1 d2 : DS) (v1 v2 : Value) : Prop where
  k1 : DskD w0.heap.size b1 w d1 v1
  k2 : DskD w0.heap.size b2 w d2 v2
  bel : Below w0.heap.size w0 w
  g1 : w0.heap.size ≤ b1
  g2 : w0.heap.size ≤ b2
  ne : b1 ≠ b2
  r12 : ∀ k, v1.ownBlock = some k → v2.ownBlock ≠ some k
  n12 : v1.ownBlock ≠ some b2
  n21 : v2.ownBlock ≠ some b1
  rest : ∀ k, R k → k < w.heap.size ∧ k ≠ b1 ∧ k ≠ b2 ∧ v1.ownBlock ≠ some k ∧ v2.ownBlock ≠ some k
def Two (w0 : World) (b1 b2 : Nat) (R : Nat → Prop) (w : World) (d1 d2 : DS) : Prop := ∃ v1 v2, TwoP w0 b1 b2 R w d1 d2 v1 v2
/-- The blocks of R are as they were. -/
def Same (R : Nat → Prop) (w w' : World) : Prop := ∀ k, R k → w'.heap[k]? = w.heap[k]?
theorem own_old {b : Nat} {v v' : Value} {w w' : World} (hp : Dpost b v v' w w') {k : Nat} (hk : k < w.heap.size) (h : v.ownBlock ≠ some k) : v'.ownBlock ≠ some k := by
  intro e
  rcases hp.2 with p | p | ⟨q, p, hq⟩
  · exact h (p ▸ e)
  · rw [p] at e; cases e
  · rw [p] at e; injection e with e; omega
theorem TwoP.step1 {w0 w w' : World} {b1 b2 : Nat} {R : Nat → Prop} {d1 d2 d1' : DS} {v1 v2 v1' : Value} (h : TwoP w0 b1 b2 R w d1 d2 v1 v2) (h' : DskD w0.heap.size b1 w' d1' v1') (hp : Dpost b1 v1 v1' w w') :
    Two w0 b1 b2 R w' d1' d2 ∧ Same R w w' := by
  have hl1 := Dsk.lt h.k1
  have hl2 := Dsk.lt h.k2
  have k2' : DskD w0.heap.size b2 w' d2 v2 := Dsk.kept h.k2 hp.1 (fun e => e.elim (fun e => h.ne e.symm) h.n12) (fun k hk e => e.elim (fun e => h.n21 (e ▸ hk)) (fun e => h.r12 k e hk))
  refine ⟨⟨v1', v2, ⟨h', k2', Dpost.below (B := w0.heap.size) h.bel hp h.g1 (DskD.rowB h.k1) h.bel.size, h.g1, h.g2, h.ne, fun k hk hk2 => ?_, own_old hp hl2 h.n12, h.n21, fun k hk => ?_⟩⟩, fun k hk => ?_⟩
  · exact own_old hp (Dsk.row h.k2 k hk2).2.1 (fun e => h.r12 k e hk2) hk
  · obtain ⟨a1, a2, a3, a4, a5⟩ := h.rest k hk
    exact ⟨Nat.lt_of_lt_of_le a1 hp.1.size, a2, a3, own_old hp a1 a4, a5⟩
  · obtain ⟨a1, a2, a3, a4, a5⟩ := h.rest k hk
    exact hp.1.block k a1 (fun e => e.elim a2 a4)
theorem TwoP.swap {w0 w : World} {b1 b2 : Nat} {R : Nat → Prop} {d1 d2 : DS} {v1 v2 : Value} (h : TwoP w0 b1 b2 R w d1 d2 v1 v2) : TwoP w0 b2 b1 R w d2 d1 v2 v1 :=
  ⟨h.k2, h.k1, h.bel, h.g2, h.g1, fun e => h.ne e.symm, fun k hk e => h.r12 k e hk, h.n21, h.n12, fun k hk => by
    obtain ⟨a1, a2, a3, a4, a5⟩ := h.rest k hk
    exact ⟨a1, a3, a2, a5, a4⟩⟩
theorem Two.swap {w0 w : World} {b1 b2 : Nat} {R : Nat → Prop} {d1 d2 : DS} (h : Two w0 b1 b2 R w d1 d2) : Two w0 b2 b1 R w d2 d1 := by
  obtain ⟨v1, v2, h⟩ := h; exact ⟨v2, v1, h.swap⟩
theorem Two.bel {w0 w : World} {b1 b2 : Nat} {R : Nat → Prop} {d1 d2 : DS} (h : Two w0 b1 b2 R w d1 d2) : Below w0.heap.size w0 w := by
  obtain ⟨v1, v2, h⟩ := h; exact h.bel
theorem Two.lt {w0 w : World} {b1 b2 : Nat} {R : Nat → Prop} {d1 d2 : DS} (h : Two w0 b1 b2 R w d1 d2) : b1 < w.heap.size ∧ b2 < w.heap.size := by
  obtain ⟨v1, v2, h⟩ := h; exact ⟨Dsk.lt h.k1, Dsk.lt h.k2⟩
/-- What is new may be told beside; what is told may be left out. -/
theorem Two.below {w0 w w' : World} {b1 b2 : Nat} {R R' : Nat → Prop} {d1 d2 : DS} (h : Two w0 b1 b2 R w d1 d2) (hb : Below w.heap.size w w') (hR : ∀ k, R' k → R k ∨ (w.heap.size ≤ k ∧ k < w'.heap.size)) : Two w0 b1 b2 R' w' d1 d2 := by
  obtain ⟨v1, v2, h⟩ := h
  have hl1 := Dsk.lt h.k1
  have hl2 := Dsk.lt h.k2
  refine ⟨v1, v2, ⟨Dsk.below h.k1 hb (Nat.le_refl _), Dsk.below h.k2 hb (Nat.le_refl _), below_new h.bel hb, h.g1, h.g2, h.ne, h.r12, h.n12, h.n21, fun k hk => ?_⟩⟩
  rcases hR k hk with hk | ⟨hk, hk2⟩
  · obtain ⟨a1, a2, a3, a4, a5⟩ := h.rest k hk
    exact ⟨Nat.lt_of_lt_of_le a1 hb.size, a2, a3, a4, a5⟩
  · refine ⟨hk2, by omega, by omega, fun e => ?_, fun e => ?_⟩
    · have := (Dsk.row h.k1 k e).2.1; omega
    · have := (Dsk.row h.k2 k e).2.1; omega
where
  below_new {w0 w w' : World} (h : Below w0.heap.size w0 w) (hb : Below w.heap.size w w') : Below w0.heap.size w0 w' := h.trans (hb.mono h.size)
/-- A block of R is written. -/
theorem Two.chg {w0 w w' : World} {b1 b2 g : Nat} {R : Nat → Prop} {d1 d2 : DS} (h : Two w0 b1 b2 R w d1 d2) (hg : R g) (hc : Chg (fun k => k = g) w w') (hB : w0.heap.size ≤ g) : Two w0 b1 b2 R w' d1 d2 := by
  obtain ⟨v1, v2, h⟩ := h
  obtain ⟨a1, a2, a3, a4, a5⟩ := h.rest g hg
  exact ⟨v1, v2, ⟨Dsk.kept h.k1 hc (fun e => a2 e.symm) (fun k hk e => a4 (e ▸ hk)), Dsk.kept h.k2 hc (fun e => a3 e.symm) (fun k hk e => a5 (e ▸ hk)),
    h.bel.trans (hc.below h.bel.size (fun k hk => by omega)), h.g1, h.g2, h.ne, h.r12, h.n12, h.n21, fun k hk => by
      obtain ⟨c1, c2⟩ := h.rest k hk
      exact ⟨Nat.lt_of_lt_of_le c1 hc.size, c2⟩⟩⟩

section
variable (w0 : World) (b1 b2 : Nat) (R : Nat → Prop) (d1 d2 : DS)
theorem two_append (n : Int) (t : ByteArray) (hd : DOk d1) (ht : t.size ≤ 65536) (w : World) (h : Two w0 b1 b2 R w d1 d2) :
    Calls Try.prog 27 #[.pointer (some ⟨b1, 0, none⟩), .int .i64 n, .string t] w fun e w' => e = .returned (.int .i64 (appD d1 n t).2) ∧ Two w0 b1 b2 R w' (appD d1 n t).1 d2 ∧ Same R w w' := by
  obtain ⟨v1, v2, h⟩ := h
  refine (disk_append _ b1 d1 v1 n t hd ht w h.k1 h.bel.size h.g1).mono ?_
  rintro e w' ⟨rfl, v', h', hp⟩
  exact ⟨rfl, h.step1 h' hp⟩
theorem two_trim (n k : Int) (hd : DOk d1) (w : World) (h : Two w0 b1 b2 R w d1 d2) :
    Calls Try.prog 29 #[.pointer (some ⟨b1, 0, none⟩), .int .i64 n, .int .i64 k] w fun e w' => e = .returned (.int .i64 (trimD d1 n k).2) ∧ Two w0 b1 b2 R w' (trimD d1 n k).1 d2 ∧ Same R w w' := by
  obtain ⟨v1, v2, h⟩ := h
  refine (disk_trim _ b1 d1 v1 n k hd w h.k1 h.bel.size h.g1).mono ?_
  rintro e w' ⟨rfl, v', h', hp⟩
  exact ⟨rfl, h.step1 h' hp⟩
theorem two_fuse (x : Int) (w : World) (h : Two w0 b1 b2 R w d1 d2) :
    Calls Try.prog 30 #[.pointer (some ⟨b1, 0, none⟩), .int .i64 x] w fun e w' => e = .returned (.int .i64 0) ∧ Two w0 b1 b2 R w' (fuseD d1 x) d2 ∧ Same R w w' := by
  obtain ⟨v1, v2, h⟩ := h
  refine (disk_fuse _ b1 d1 v1 x w h.k1).mono ?_
  rintro e w' ⟨rfl, h', hp⟩
  exact ⟨rfl, h.step1 h' hp⟩
theorem two_read (w : World) (h : Two w0 b1 b2 R w d1 d2) :
    Calls Try.prog 31 #[.pointer (some ⟨b1, 0, none⟩)] w fun e w' => e = .returned (.string d1.s) ∧ Two w0 b1 b2 R w' d1 d2 ∧ Same R w w' := by
  obtain ⟨v1, v2, h⟩ := h
  refine (diskD_read _ b1 d1 v1 w h.k1 h.bel.size).mono ?_
  rintro e w' ⟨rfl, h', hp⟩
  exact ⟨rfl, h.step1 h' hp⟩
theorem two_len (w : World) (h : Two w0 b1 b2 R w d1 d2) :
    Calls Try.prog 32 #[.pointer (some ⟨b1, 0, none⟩)] w fun e w' => e = .returned (.int .i64 d1.s.size) ∧ Two w0 b1 b2 R w' d1 d2 ∧ Same R w w' := by
  obtain ⟨v1, v2, h⟩ := h
  refine (diskD_len _ b1 d1 v1 w h.k1 h.bel.size).mono ?_
  rintro e w' ⟨rfl, h', hp⟩
  exact ⟨rfl, h.step1 h' hp⟩
theorem two_epoch (w : World) (h : Two w0 b1 b2 R w d1 d2) :
    Calls Try.prog 33 #[.pointer (some ⟨b1, 0, none⟩)] w fun e w' => e = .returned (.int .i64 d1.ep) ∧ w = w' := by
  obtain ⟨v1, v2, h⟩ := h
  exact diskD_epoch _ b1 d1 v1 w h.k1
end

/-- What the reference's fuse says of a disk's. -/
def Rel (d : DS) (fu : Int) : Prop := (0 ≤ fu ∧ fu ≤ 9223372036854775807 ∧ d.lit = true ∧ d.fuse = fu) ∨ (fu < 0 ∧ d.lit = false)
theorem refA (d : DS) (no fu n : Int) (t : ByteArray) (hd : DOk d) (hr : Rel d fu) (ht : t.size ≤ 65536) :
    ∃ no' fu', Rel (appD d n t).1 fu' ∧ ∀ w, Calls Try.prog 26 #[rdv d.s d.ep d.yes no fu, .int .i64 n, .string t] w fun e w' =>
      e = .returned (.tuple #[rdv (appD d n t).1.s (appD d n t).1.ep (appD d n t).1.yes no' fu', .int .i64 (appD d n t).2]) ∧ Below w.heap.size w w' := by
  obtain ⟨s, ep, yes, nn, lit, fuse⟩ := d
  obtain ⟨h1, h2⟩ := hd
  simp only at h1 h2
  unfold appD
  simp only
  by_cases c1 : n < 1 ∨ 4294967295 < n ∨ n < ep
  · rw [if_pos c1]
    exact ⟨no, fu, hr, fun w => ref38_append_fence s ep yes no fu n t c1 w⟩
  · rw [if_neg c1]
    by_cases c2 : 65536 < s.size + t.size
    · rw [if_pos c2]
      exact ⟨no, fu, hr, fun w => ref38_append_full s ep yes no fu n t (by omega) (by omega) (by omega) h1 ht c2 w⟩
    · rw [if_neg c2]
      rcases hr with ⟨r1, r2, rfl, rfl⟩ | ⟨r1, rfl⟩
      · obtain ⟨f, rfl⟩ : ∃ f : Nat, fuse = f := ⟨fuse.toNat, by simp only at r1; omega⟩
        simp only at *
        by_cases c3 : f < t.size
        · rw [if_pos (by first | exact ⟨rfl, by omega⟩ | exact ⟨trivial, by omega⟩)]
          exact ⟨no, -1, .inr ⟨by decide, rfl⟩, fun w => by
            have := ref38_append_off s ep yes no f n t (by omega) (by omega) (by omega) h1 ht c2 c3 w
            simpa using this⟩
        · rw [if_neg (fun h => by omega)]
          have e : wrap64 ((f : Int) - t.size) = (f : Int) - t.size := by unfold wrap64; omega
          refine ⟨no, (f : Int) - t.size, .inl ⟨by omega, by omega, rfl, e⟩, fun w => ?_⟩
          exact ref38_append_lit s ep yes no f n t (by omega) (by omega) (by omega) h1 ht c2 (by omega) (by omega) w
      · rw [if_neg (by simp)]
        exact ⟨no, fu, .inr ⟨r1, rfl⟩, fun w => ref38_append_plain s ep yes no fu n t (by omega) (by omega) (by omega) h1 ht c2 r1 w⟩
theorem refT (d : DS) (no fu n k : Int) (hd : DOk d) (hr : Rel d fu) :
    ∃ no' fu', Rel (trimD d n k).1 fu' ∧ ∀ w, Calls Try.prog 28 #[rdv d.s d.ep d.yes no fu, .int .i64 n, .int .i64 k] w fun e w' =>
      e = .returned (.tuple #[rdv (trimD d n k).1.s (trimD d n k).1.ep (trimD d n k).1.yes no' fu', .int .i64 (trimD d n k).2]) ∧ Below w.heap.size w w' := by
  obtain ⟨s, ep, yes, nn, lit, fuse⟩ := d
  obtain ⟨h1, h2⟩ := hd
  simp only at h1 h2
  unfold trimD
  simp only
  by_cases c1 : n < 1 ∨ 4294967295 < n ∨ n < ep
  · rw [if_pos c1]
    exact ⟨no, fu, hr, fun w => ref38_trim_fence s ep yes no fu n k c1 w⟩
  · rw [if_neg c1]
    by_cases c2 : k < 0 ∨ (s.size : Int) < k
    · rw [if_pos c2]
      exact ⟨no, fu, hr, fun w => ref38_trim_out s ep yes no fu n k (by omega) (by omega) (by omega) h1 c2 w⟩
    · rw [if_neg c2]
      obtain ⟨q, rfl⟩ : ∃ q : Nat, k = q := ⟨k.toNat, by omega⟩
      exact ⟨no, fu, hr, fun w => ref38_trim_ok s ep yes no fu n q (by omega) (by omega) (by omega) h1 (by omega) w⟩
theorem refF (d : DS) (fu x : Int) (hx : x ≤ 9223372036854775807) : Rel (fuseD d x) (max x (-1)) := by
  unfold fuseD
  by_cases h : 0 ≤ x
  · rw [if_pos h]; exact .inl ⟨by omega, by omega, rfl, by simp only; omega⟩
  · rw [if_neg h]; exact .inr ⟨by omega, rfl⟩
theorem Rel.zero : Rel ds0 (-1) := .inr ⟨by decide, rfl⟩
end Go.Proofs.Ytdeeeoakdfldkaa
