/-
  All bodies of a text of frames (reeve's layer 4): the program's and the reference's; and Same.
-/
import Derived.Test.YtmhlnjgdlcfkhaaFrameRef
import Derived.Laws.AppendOwn
import Derived.Maps.AppendAt
namespace Go.Proofs.Ytmhlnjgdlcfkhaa
open Go.RowKit
set_option linter.unusedVariables false
set_option linter.unusedSimpArgs false

/-- A row of texts of the call's own. -/
def OwnS (B : Nat) (w : World) (v : Value) (l : List ByteArray) : Prop := w.ownsRow B 9 1 v l.length (l.map Value.string)
theorem OwnS.nil (B : Nat) (w : World) : OwnS B w (.slice none 0 0) [] := ⟨rfl, .inl ⟨rfl, rfl⟩⟩
theorem OwnS.below {B C : Nat} {w w' : World} {v : Value} {l : List ByteArray} (h : OwnS B w v l) (hb : Below C w w') (hC : w.heap.size ≤ C) : OwnS B w' v l := by
  obtain ⟨h1, h2 | ⟨g, cap, cur, rfl, hg, hh, rest⟩⟩ := h
  · exact ⟨h1, .inl h2⟩
  · refine ⟨h1, .inr ⟨g, cap, cur, rfl, hg, ?_, rest⟩⟩
    rw [← hh]
    exact hb.block g (Nat.lt_of_lt_of_le (Array.getElem?_eq_some_iff.1 hh).1 hC)

theorem OwnS.gby {B : Nat} {w0 w1 w2 : World} {v : Value} {l : List ByteArray} (h : OwnS B w1 v l) (hb : Below B w0 w1) (hB : B ≤ w1.heap.size) (hg : w1.grownBy w2 v.ownBlock) : Below B w0 w2 := by
  refine hb.trans ⟨hg.os, hg.tape, hg.output, hg.size, fun k hk => hg.block k (Nat.lt_of_lt_of_le hk hB) (fun e => ?_)⟩
  obtain ⟨_, ⟨rfl, _⟩ | ⟨g, cap, cur, rfl, hg1, _⟩⟩ := h
  · cases e
  · have : g = k := by have e2 := e.symm; simpa [Value.ownBlock] using e2
    omega
theorem OwnS.mk {B : Nat} {w : World} {v : Value} {l : List ByteArray} {b : ByteArray} (h : w.ownsRow B 9 1 v (l.length + 1) (l.map Value.string ++ [Value.string b])) : OwnS B w v (l ++ [b]) := by
  unfold OwnS
  rw [List.length_append, List.map_append]
  exact h

set_option maxRecDepth 100000 in
set_option maxHeartbeats 1600000 in
theorem frame_all (s : ByteArray) (hs : s.size ≤ 100000) (w : World) :
    Calls Try.prog 40 #[.string s] w fun e w' => ∃ v, e = .returned (.tuple #[v, .int .i64 (allG s 0).2]) ∧ OwnS w.heap.size w' v (allG s 0).1 ∧ Below w.heap.size w w' := by
  obtain ⟨i, hi, hz, hsize, hby⟩ : ∃ i, Try.prog.info? 9 = some i ∧ i.zero = some (.string ⟨#[]⟩) ∧ i.size = 1 ∧ i.bytes = 16 := ⟨_, rfl, rfl, rfl, rfl⟩
  have HI := Lib.hid hi
  clear hi
  have hs63 : s.size ≤ 9223372036854775807 := by omega
  go_enter Try.func40, Try.ntmps40
  go_wp2_with fail
  go_loopg [4, 5] (s.size + 1) (fun g v at_ wr => ∃ (k : Nat) (l : List ByteArray), k ≤ s.size ∧ g = s.size + 1 - k ∧ at_ = .int .i64 k ∧ l.length ≤ k ∧ OwnS w.heap.size wr v l ∧ Below w.heap.size w wr ∧ Hid (allG s 0 = (l ++ (allG s k).1, (allG s k).2)))
  case atStart => exact ⟨0, [], by omega, by omega, rfl, by simp, OwnS.nil _ _, Below.refl _ _, Lib.hid (by simp)⟩
  case round =>
    obtain ⟨k, l, hk, hg, rfl, hl, hown, hbl, HA⟩ := hrel
    have hg := hg.symm
    subst hg
    have HO := Lib.hid hown
    have HB := Lib.hid hbl
    clear hown hbl
    have hzk : (s.extract k s.size).size = s.size - k := by rw [ByteArray.size_extract]; omega
    have FO := frame_open (s.extract k s.size) (by rw [hzk]; unfold maxLen; omega)
    rcases openF_cases (s.extract k s.size) with ⟨er, he1, he9, hop⟩ | ⟨hop, hn2, hcut⟩
    · have hno := allG_no (s := s) (k := k) (by rw [hop]; show er ≠ 0; omega)
      rw [hop] at FO
      have FOH := Lib.hid FO
      have HA2 : Hid (allG s 0 = (l, k)) := Lib.hid (by rw [HA.out, hno]; simp)
      have hkI : (k : Int) ≤ (s.size : Int) := by omega
      have hk0 : (0 : Int) ≤ (k : Int) := by omega
      have her : (er == 0) = false := by simp; omega
      clear FO hop hno HA hzk he1 he9
      go_wp2_with fail
      refine (FOH.out _).mono ?_
      rintro e w1 ⟨rfl, hb1⟩
      have HO1 := Lib.hid (HO.out.below hb1 (Nat.le_refl _))
      have HB1 := Lib.hid (HB.out.trans (hb1.mono HB.out.size))
      clear hb1
      go_wp2_with fail
      rw [HA2.out]
      go_ret2
      exact ⟨_, rfl, HO1.out, HB1.out⟩
    · obtain ⟨b, m, hbm, hm7⟩ : ∃ (b : ByteArray) (m : Nat), openF (s.extract k s.size) = (b, m, 0) ∧ 7 ≤ m ∧ m ≤ s.size - k := ⟨_, _, hop, by omega, by rw [hzk] at hcut; omega⟩
      have hyes := allG_ok (s := s) (k := k) (by rw [hbm])
      rw [hbm] at hyes FO
      have FOH := Lib.hid FO
      have HA2 : Hid (allG s 0 = (l ++ [b] ++ (allG s (k + m)).1, (allG s (k + m)).2)) := Lib.hid (by rw [HA.out, hyes]; simp)
      have hkI : (k : Int) ≤ (s.size : Int) := by omega
      have hk0 : (0 : Int) ≤ (k : Int) := by omega
      have HM := Lib.hid hm7
      clear FO hop hyes HA hzk hn2 hcut hbm hm7
      go_wp2_with fail
      refine (FOH.out _).mono ?_
      rintro e w1 ⟨rfl, hb1⟩
      have HO1 := Lib.hid (HO.out.below hb1 (Nat.le_refl _))
      have HB1 := Lib.hid (HB.out.trans (hb1.mono HB.out.size))
      clear hb1
      go_wp2_with (at_builtin; refine wpList_append_own _ rfl _ _ 22 rfl w.heap.size 9 i (.string ⟨#[]⟩) 1 16 Try.underlying22 HI.out hz hsize hby rfl (by decide) _ l.length (l.map Value.string) rfl (HO1.out.below ((Below.refl w1.heap.size w1).alloc (Nat.le_refl _) _) (Nat.le_refl _)) ⟨w1.heap.size, 0, none⟩ 1 1 [.string b] rfl rfl (cell_one_new _ _ _) (by intro u hu; simp at hu; subst hu; rfl) (by unfold maxLen; omega) (by omega) (by have := HB1.out.size; simp; omega) ?_)
      intro v' w2 hown2 hgrow _
      have HO2 := Lib.hid (OwnS.mk hown2)
      have HB2 := Lib.hid (OwnS.gby (HO1.out.below ((Below.refl w1.heap.size w1).alloc (Nat.le_refl _) _) (Nat.le_refl _)) (HB1.out.alloc HB1.out.size _) (by have := HB1.out.size; simp; omega) hgrow)
      clear hown2 hgrow
      have hwr : IntKind.i64.wrap ((k : Int) + (m : Int)) = (k : Int) + (m : Int) := by have := HM.out; rw [IntKind.wrap_i64]; omega
      go_wp2_with fail
      go_roundg (s.size + 1 - (k + m))
      case measure => have := HM.out; omega
      case rel => exact ⟨k + m, l ++ [b], by have := HM.out; omega, rfl, by push_cast; rfl, by rw [List.length_append]; have := HM.out; simp; omega, HO2.out, HB2.out, HA2⟩
set_option maxRecDepth 100000 in
set_option maxHeartbeats 1600000 in
theorem ref04_all (s : ByteArray) (hs : s.size ≤ 100000) (w : World) :
    Calls Try.prog 41 #[.string s] w fun e w' => ∃ v, e = .returned (.tuple #[v, .int .i64 (allG s 0).2]) ∧ OwnS w.heap.size w' v (allG s 0).1 ∧ Below w.heap.size w w' := by
  obtain ⟨i, hi, hz, hsize, hby⟩ : ∃ i, Try.prog.info? 9 = some i ∧ i.zero = some (.string ⟨#[]⟩) ∧ i.size = 1 ∧ i.bytes = 16 := ⟨_, rfl, rfl, rfl, rfl⟩
  have HI := Lib.hid hi
  clear hi
  have hs63 : s.size ≤ 9223372036854775807 := by omega
  go_enter Try.func41, Try.ntmps41
  go_wp2_with fail
  go_loopg [4, 5] (s.size + 1) (fun g v at_ wr => ∃ (k : Nat) (l : List ByteArray), k ≤ s.size ∧ g = s.size + 1 - k ∧ at_ = .int .i64 k ∧ l.length ≤ k ∧ OwnS w.heap.size wr v l ∧ Below w.heap.size w wr ∧ Hid (allG s 0 = (l ++ (allG s k).1, (allG s k).2)))
  case atStart => exact ⟨0, [], by omega, by omega, rfl, by simp, OwnS.nil _ _, Below.refl _ _, Lib.hid (by simp)⟩
  case round =>
    obtain ⟨k, l, hk, hg, rfl, hl, hown, hbl, HA⟩ := hrel
    have hg := hg.symm
    subst hg
    have HO := Lib.hid hown
    have HB := Lib.hid hbl
    clear hown hbl
    by_cases hend : s.size ≤ k
    · obtain rfl : k = s.size := by omega
      have HA2 : Hid (allG s 0 = (l, s.size)) := Lib.hid (by rw [HA.out, allG_end]; simp)
      clear HA hl hend hk
      go_wp2_with fail
      rw [HA2.out]
      go_ret2
      exact ⟨_, rfl, HO.out, HB.out⟩
    have hlt : (k : Int) < (s.size : Int) := by omega
    have hzk : (s.extract k s.size).size = s.size - k := by rw [ByteArray.size_extract]; omega
    have FO := ref04_open (s.extract k s.size) (by rw [hzk]; unfold maxLen; omega)
    rcases openF_cases (s.extract k s.size) with ⟨er, he1, he9, hop⟩ | ⟨hop, hn2, hcut⟩
    · have hno := allG_no (s := s) (k := k) (by rw [hop]; show er ≠ 0; omega)
      rw [hop] at FO
      have FOH := Lib.hid FO
      have HA2 : Hid (allG s 0 = (l, k)) := Lib.hid (by rw [HA.out, hno]; simp)
      have hkI : (k : Int) ≤ (s.size : Int) := by omega
      have hk0 : (0 : Int) ≤ (k : Int) := by omega
      have her : (er == 0) = false := by simp; omega
      clear FO hop hno HA hzk he1 he9
      go_wp2_with fail
      refine (FOH.out _).mono ?_
      rintro e w1 ⟨rfl, hb1⟩
      have HO1 := Lib.hid (HO.out.below hb1 (Nat.le_refl _))
      have HB1 := Lib.hid (HB.out.trans (hb1.mono HB.out.size))
      clear hb1
      go_wp2_with fail
      rw [HA2.out]
      go_ret2
      exact ⟨_, rfl, HO1.out, HB1.out⟩
    · obtain ⟨b, m, hbm, hm7⟩ : ∃ (b : ByteArray) (m : Nat), openF (s.extract k s.size) = (b, m, 0) ∧ 7 ≤ m ∧ m ≤ s.size - k := ⟨_, _, hop, by omega, by rw [hzk] at hcut; omega⟩
      have hyes := allG_ok (s := s) (k := k) (by rw [hbm])
      rw [hbm] at hyes FO
      have FOH := Lib.hid FO
      have HA2 : Hid (allG s 0 = (l ++ [b] ++ (allG s (k + m)).1, (allG s (k + m)).2)) := Lib.hid (by rw [HA.out, hyes]; simp)
      have hkI : (k : Int) ≤ (s.size : Int) := by omega
      have hk0 : (0 : Int) ≤ (k : Int) := by omega
      have HM := Lib.hid hm7
      clear FO hop hyes HA hzk hn2 hcut hbm hm7
      go_wp2_with fail
      refine (FOH.out _).mono ?_
      rintro e w1 ⟨rfl, hb1⟩
      have HO1 := Lib.hid (HO.out.below hb1 (Nat.le_refl _))
      have HB1 := Lib.hid (HB.out.trans (hb1.mono HB.out.size))
      clear hb1
      go_wp2_with (at_builtin; refine wpList_append_own _ rfl _ _ 22 rfl w.heap.size 9 i (.string ⟨#[]⟩) 1 16 Try.underlying22 HI.out hz hsize hby rfl (by decide) _ l.length (l.map Value.string) rfl (HO1.out.below ((Below.refl w1.heap.size w1).alloc (Nat.le_refl _) _) (Nat.le_refl _)) ⟨w1.heap.size, 0, none⟩ 1 1 [.string b] rfl rfl (cell_one_new _ _ _) (by intro u hu; simp at hu; subst hu; rfl) (by unfold maxLen; omega) (by omega) (by have := HB1.out.size; simp; omega) ?_)
      intro v' w2 hown2 hgrow _
      have HO2 := Lib.hid (OwnS.mk hown2)
      have HB2 := Lib.hid (OwnS.gby (HO1.out.below ((Below.refl w1.heap.size w1).alloc (Nat.le_refl _) _) (Nat.le_refl _)) (HB1.out.alloc HB1.out.size _) (by have := HB1.out.size; simp; omega) hgrow)
      clear hown2 hgrow
      have hwr : IntKind.i64.wrap ((k : Int) + (m : Int)) = (k : Int) + (m : Int) := by have := HM.out; rw [IntKind.wrap_i64]; omega
      go_wp2_with fail
      go_roundg (s.size + 1 - (k + m))
      case measure => have := HM.out; omega
      case rel => exact ⟨k + m, l ++ [b], by have := HM.out; omega, rfl, by push_cast; rfl, by rw [List.length_append]; have := HM.out; simp; omega, HO2.out, HB2.out, HA2⟩

/-- A slice that holds texts. -/
def RowS (w : World) (v : Value) (l : List ByteArray) : Prop :=
  (∃ p cap, v = .slice p 0 cap ∧ l = []) ∨ ∃ b off cap, v = .slice (some ⟨b, off, none⟩) l.length cap ∧ b < w.heap.size ∧ ∀ j x, l[j]? = some x → w.cell? ⟨b, off + j, none⟩ = some (.string x)
theorem OwnS.row {B : Nat} {w : World} {v : Value} {l : List ByteArray} (h : OwnS B w v l) : RowS w v l := by
  have hc := fun g (hg : v.ownBlock = some g) => World.ownsRow.cells h (g := g) hg
  obtain ⟨h1, ⟨rfl, h2⟩ | ⟨g, cap, cur, rfl, hg, hh, _⟩⟩ := h
  · exact .inl ⟨none, 0, rfl, List.eq_nil_of_length_eq_zero h2⟩
  · refine .inr ⟨g, 0, cap, rfl, (Array.getElem?_eq_some_iff.1 hh).1, fun j x hj => ?_⟩
    have := hc g rfl j (.string x) (by rw [List.getElem?_map, hj]; rfl)
    rw [Nat.zero_add]; have e : (⟨g, 0, none⟩ : Addr).add j = ⟨g, j, none⟩ := by simp [Addr.add]; intro h; exact h.symm
    rw [e] at this; exact this
theorem RowS.below {C : Nat} {w w' : World} {v : Value} {l : List ByteArray} (h : RowS w v l) (hb : Below C w w') (hC : w.heap.size ≤ C) : RowS w' v l := by
  rcases h with h | ⟨b, off, cap, h1, h2, h3⟩
  · exact .inl h
  · exact .inr ⟨b, off, cap, h1, Nat.lt_of_lt_of_le h2 hb.size, fun j x hj => keepB (Below.mono hb hC) (h3 j x hj) h2⟩
/-- What a slice of texts holds, element by element. -/
theorem RowS.at {w : World} {v : Value} {l : List ByteArray} (h : RowS w v l) {j : Nat} (hj : j < l.length) : ∃ b off cap x, v = .slice (some ⟨b, off, none⟩) l.length cap ∧ l[j]? = some x ∧ w.cell? ⟨b, off + j, none⟩ = some (.string x) := by
  rcases h with ⟨_, _, rfl, rfl⟩ | ⟨b, off, cap, h1, h2, h3⟩
  · exact absurd hj (by simp)
  · exact ⟨b, off, cap, l[j], h1, List.getElem?_eq_getElem hj, h3 j _ (List.getElem?_eq_getElem hj)⟩
theorem RowS.len {w : World} {v : Value} {l : List ByteArray} (h : RowS w v l) : ∃ p cap, v = .slice p l.length cap := by
  rcases h with ⟨p, cap, rfl, rfl⟩ | ⟨b, off, cap, h1, h2, h3⟩
  · exact ⟨p, cap, rfl⟩
  · exact ⟨_, cap, h1⟩
set_option maxRecDepth 100000 in
set_option maxHeartbeats 800000 in
/-- Two slices that hold the same texts are the same. -/
theorem ref04_same (va vb : Value) (l : List ByteArray) (hl : l.length ≤ 1000000) (w : World) (ha : RowS w va l) (hb : RowS w vb l) :
    Calls Try.prog 42 #[va, vb] w fun e w' => e = .returned (.bool true) ∧ Below w.heap.size w w' := by
  have HA := Lib.hid ha
  have HB := Lib.hid hb
  obtain ⟨pa, ca, rfl⟩ := ha.len
  obtain ⟨pb, cb, rfl⟩ := hb.len
  clear ha hb
  obtain ⟨n, hn⟩ : ∃ n, l.length = n := ⟨_, rfl⟩
  have HN := Lib.hid hn
  rw [hn] at HA HB hl ⊢
  clear hn
  go_enter Try.func42, Try.ntmps42
  go_wp2_with fail
  go_loopg [5] n (fun g i wr => ∃ (k q : Nat), k ≤ n ∧ g = n - k ∧ i = .int .i64 k ∧ wr = w.drewN q)
  case atStart => exact ⟨0, 0, by omega, by omega, rfl, rfl⟩
  case round =>
    obtain ⟨k, q, hk, hg, rfl, rfl⟩ := hrel
    have hg := hg.symm
    subst hg
    by_cases hlt : k < n
    · obtain ⟨b1, o1, c1, x, e1, g1, k1⟩ := HA.out.at (j := k) (by rw [HN.out]; exact hlt)
      obtain ⟨b2, o2, c2, y, e2, g2, k2⟩ := HB.out.at (j := k) (by rw [HN.out]; exact hlt)
      obtain rfl : x = y := by rw [g1] at g2; injection g2
      rw [HN.out] at e1 e2
      cases e1
      cases e2
      have hlI : (k : Int) < (n : Int) := by omega
      clear g1 g2
      go_upto_region 6 with fail
      go_quiet (fail)
      go_wp2_with fail
      go_roundg (n - (k + 1))
      case measure => omega
      case rel => exact ⟨k + 1, q + nq, by omega, rfl, by push_cast; rfl, rfl⟩
    · obtain rfl : k = n := by omega
      go_wp2_with fail
      go_ret
      exact ⟨rfl, below_drewN _ _⟩
end Go.Proofs.Ytmhlnjgdlcfkhaa
