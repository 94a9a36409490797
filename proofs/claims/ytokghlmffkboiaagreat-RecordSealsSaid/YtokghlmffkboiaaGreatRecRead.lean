/-
  The record of a body (reeve's layer 20): the walk of the reader and of its closures.
-/
import Derived.Test.YtokghlmffkboiaaGreatRecSeal
import Derived.Test.YtokghlmffkboiaaGreatEventLaw
namespace Go.Proofs.YtokghlmffkboiaaGreat
open Go.RowKit
set_option linter.unusedVariables false
set_option linter.unusedSimpArgs false

/-- What a number that is taken counts for: its value, 0 where there is none. -/
def tookN : Oct.Took → Int
  | .short => 0
  | .form => 0
  | .num n _ => n
/-- Its error. -/
def tookE : Oct.Took → Int
  | .short => 3
  | .form => 2
  | .num _ _ => 0
theorem varVal_eq (t : Oct.Took) : varVal t = .tuple #[.int .i64 (tookN t), .int .i64 (tookE t)] := by cases t <;> rfl
set_option maxRecDepth 100000 in
set_option maxHeartbeats 1600000 in
theorem rec_num (bc bn cu R i : Nat) (x : Value) (s : ByteArray) (a : Nat) (hs : s.size ≤ maxLen) (ha : a ≤ s.size) (w : World) (h : Cur w cu s a)
    (hc : w.cell? ⟨bc, 0, none⟩ = some (.pointer (some ⟨cu, 0, none⟩))) (hn : w.cell? ⟨bn, 0, none⟩ = some (.pointer (some ⟨R, i, none⟩))) (hx : w.cell? ⟨R, i, none⟩ = some x) (hf : w.frozen? ⟨R, i, none⟩ = false)
    (n1 : ¬ bc = cu) (n2 : ¬ bn = cu) (n3 : ¬ R = cu) (n4 : ¬ bc = R) (n5 : ¬ bn = R) :
    Calls Tryz.prog 73 #[.pointer (some ⟨bc, 0, none⟩), .pointer (some ⟨bn, 0, none⟩)] w fun e w' => e = .returned (.int .i64 (tookE (Oct.takeVar (rest s a)))) ∧
      ∃ w1, Went cu s (a + tookLen (Oct.takeVar (rest s a))) w w1 ∧ w' = w1.setCell ⟨R, i, none⟩ (.int .i64 (tookN (Oct.takeVar (rest s a)))) := by
  have CV := fun w' h' => cur_var cu s a hs ha w' h'
  obtain ⟨T, hT⟩ : ∃ T, Oct.takeVar (rest s a) = T := ⟨_, rfl⟩
  rw [hT] at CV ⊢
  rw [varVal_eq] at CV
  clear hT
  have CVH := Lib.hid CV
  have HC := Lib.hid h
  have lc := World.block_lt_of_cell? _ _ hc
  have ln := World.block_lt_of_cell? _ _ hn
  have lR := World.block_lt_of_cell? _ _ hx
  clear CV h
  go_enter Tryz.func73, Tryz.ntmps73
  go_wp2_with fail
  go_region_held3 (fun w' => w'.cell? ⟨bc, 0, none⟩ = some (.pointer (some ⟨cu, 0, none⟩)) ∧ w'.cell? ⟨bn, 0, none⟩ = some (.pointer (some ⟨R, i, none⟩)))
    (first | (go_keep; done) | (refine ⟨?_, ?_⟩ <;> (first | (simp only [World.cell?_drew]; assumption) | (exact (World.cell?_setCell_other _ ⟨R, i, none⟩ _ _ (by intro h; injection h with h1; omega)).trans (by assumption)) | (exact ((gcell hg1).1 _ _ (by omega) (by omega)).trans (by assumption)))))
    ((go_at_call 74; refine (CVH.out _ (by exact HC.out)).mono ?_; rintro e w1 ⟨rfl, hc1, hg1, hz1⟩; have hg1 : w.grownBy w1 (some cu) := ⟨hg1.os, hg1.tape, hg1.output, hg1.size, hg1.block⟩; have k0 := ((gcell hg1).1 _ _ ln n2).trans hn; have k1 := ((gcell hg1).1 _ _ lc n1).trans hc; have k2 := ((gcell hg1).1 _ _ lR n3).trans hx; have k3 := ((gcell hg1).2 _ _ lR n3).trans hf))
  go_wp2_with fail
  go_ret
  exact ⟨rfl, w1, ⟨hc1, hg1, hz1⟩, rfl⟩
theorem getL_len (s : ByteArray) : (getL s).1.length = 8 := by
  by_cases h : (getL s).2 = 0
  · exact (put_get s h).2.2.1
  · rw [getL_err s h]; rfl
/-- Eight cells of a block, from a place on, set one by one. -/
def set8 (w : World) (g o : Nat) (a b c d e f h i : Value) : World := (((((((w.setCell ⟨g, o, none⟩ a).setCell ⟨g, o + 1, none⟩ b).setCell ⟨g, o + 2, none⟩ c).setCell ⟨g, o + 3, none⟩ d).setCell ⟨g, o + 4, none⟩ e).setCell ⟨g, o + 5, none⟩ f).setCell ⟨g, o + 6, none⟩ h).setCell ⟨g, o + 7, none⟩ i
theorem far8 {w : World} {g : Nat} {p : Addr} (h : ¬ g = p.block) (o : Nat) (a b c d e f h' i : Value) : (set8 w g o a b c d e f h' i).cell? p = w.cell? p := by
  have k : ∀ (w : World) (o : Nat) (v : Value), (w.setCell ⟨g, o, none⟩ v).cell? p = w.cell? p := fun w o v => World.cell?_setCell_other _ _ _ _ (by intro e; apply h; rw [← e])
  unfold set8
  rw [k, k, k, k, k, k, k, k]
theorem gby8 {a w : World} {g : Nat} (h : a.grownBy w (some g)) (o : Nat) (x b c d e f h' i : Value) : a.grownBy (set8 w g o x b c d e f h' i) (some g) := by
  unfold set8
  exact gby_set (gby_set (gby_set (gby_set (gby_set (gby_set (gby_set (gby_set h _ _) _ _) _ _) _ _) _ _) _ _) _ _) _ _
theorem rec8 {w : World} {g : Nat} {q t z0 z1 z2 z3 z4 z5 z6 z7 : Value} {T : TypeId} (hB : Blk w g #[q, t, z0, z1, z2, z3, z4, z5, z6, z7] T) (a b c d e f h i : Value) : Blk (set8 w g 2 a b c d e f h i) g #[q, t, a, b, c, d, e, f, h, i] T := by
  have h1 := (((((((hB.set 2 a).set 3 b).set 4 c).set 5 d).set 6 e).set 7 f).set 8 h).set 9 i
  have e : ((((((((#[q, t, z0, z1, z2, z3, z4, z5, z6, z7] : Array Value).setIfInBounds 2 a).setIfInBounds 3 b).setIfInBounds 4 c).setIfInBounds 5 d).setIfInBounds 6 e).setIfInBounds 7 f).setIfInBounds 8 h).setIfInBounds 9 i = #[q, t, a, b, c, d, e, f, h, i] := by simp
  rw [e] at h1
  exact h1
set_option maxRecDepth 100000 in
set_option maxHeartbeats 3200000 in
theorem rec_ev (bs bc R cu : Nat) (s : ByteArray) (a : Nat) (hs : s.size ≤ maxLen) (ha : a ≤ s.size) (w : World) (h : Cur w cu s a)
    (hb : w.cell? ⟨bs, 0, none⟩ = some (.string s)) (hc : w.cell? ⟨bc, 0, none⟩ = some (.pointer (some ⟨cu, 0, none⟩))) (q t z0 z1 z2 z3 z4 z5 z6 z7 : Value) (hR : Blk w R #[q, t, z0, z1, z2, z3, z4, z5, z6, z7] 27)
    (n1 : ¬ R = bs) (n2 : ¬ R = bc) (g0 g1 g2 g3 g4 g5 g6 g7 GE : Int) (hG : getL (s.extract a s.size) = ([g0, g1, g2, g3, g4, g5, g6, g7], GE)) :
    Calls Tryz.prog 76 #[.pointer (some ⟨bs, 0, none⟩), .pointer (some ⟨bc, 0, none⟩), .pointer (some ⟨R, 0, none⟩)] w fun e w' => e = .returned (.int .i64 GE) ∧ w.grownBy w' (some R) ∧
      Blk w' R #[q, t, .int .i64 g0, .int .i64 g1, .int .i64 g2, .int .i64 g3, .int .i64 g4, .int .i64 g5, .int .i64 g6, .int .i64 g7] 27 := by
  have hs63 : (s.size : Int) ≤ 9223372036854775807 := by unfold maxLen at hs; omega
  have CL := Lib.hid (fun w' h' => cur_left cu s a hs ha w' h')
  have EG := event_get (s.extract a s.size) (by rw [ByteArray.size_extract]; omega)
  rw [hG, show cellsI [g0, g1, g2, g3, g4, g5, g6, g7] = #[.int .i64 g0, .int .i64 g1, .int .i64 g2, .int .i64 g3, .int .i64 g4, .int .i64 g5, .int .i64 g6, .int .i64 g7] from rfl] at EG
  have EGH := Lib.hid EG
  have HC := Lib.hid h
  have HR := Lib.hid hR
  have hw : IntKind.i64.wrap ((s.size : Int) - ((s.size - a : Nat) : Int)) = (a : Int) := by rw [IntKind.wrap_i64]; omega
  have ha0 : (0 : Int) ≤ (a : Int) := by omega
  have ha1 : (a : Int) ≤ (s.size : Int) := by omega
  have lc := World.block_lt_of_cell? _ _ hc
  have ls := World.block_lt_of_cell? _ _ hb
  clear EG h hG hR
  go_enter Tryz.func76, Tryz.ntmps76
  go_wp2_with fail
  go_region_held3 (fun w' => w'.cell? ⟨bs, 0, none⟩ = some (.string s) ∧ w'.cell? ⟨bc, 0, none⟩ = some (.pointer (some ⟨cu, 0, none⟩)))
    (first | (go_keep; done) | (refine ⟨?_, ?_⟩ <;> (first | (simp only [World.cell?_drew]; assumption) | (exact (keepB hb1 (by assumption) (by assumption))) | (exact (far8 (by assumption) 2 _ _ _ _ _ _ _ _).trans (by assumption)))))
    ((first | (go_at_call 78; refine (CL.out _ (by exact HC.out)).mono ?_; rintro e w1 ⟨rfl, rfl⟩)
            | (go_at_call 77; refine (EGH.out _).mono ?_; rintro e w1 ⟨rfl, hb1⟩; have hb1 : Below w.heap.size w w1 := ⟨hb1.os, hb1.tape, hb1.output, hb1.size, hb1.block⟩; have HR1 := HR.out.below hb1 HR.out.lt; have c2 := HR1.cell (i := 2) rfl; have c3 := HR1.cell (i := 3) rfl; have c4 := HR1.cell (i := 4) rfl; have c5 := HR1.cell (i := 5) rfl; have c6 := HR1.cell (i := 6) rfl; have c7 := HR1.cell (i := 7) rfl; have c8 := HR1.cell (i := 8) rfl; have c9 := HR1.cell (i := 9) rfl; have f2 := HR1.free 2; have f3 := HR1.free 3; have f4 := HR1.free 4; have f5 := HR1.free 5; have f6 := HR1.free 6; have f7 := HR1.free 7; have f8 := HR1.free 8; have f9 := HR1.free 9)))
  have HS := Lib.hid (rec8 HR1 (.int .i64 g0) (.int .i64 g1) (.int .i64 g2) (.int .i64 g3) (.int .i64 g4) (.int .i64 g5) (.int .i64 g6) (.int .i64 g7))
  have HG := Lib.hid (gby8 (gby_below (gby_refl w (some R)) hb1) 2 (.int .i64 g0) (.int .i64 g1) (.int .i64 g2) (.int .i64 g3) (.int .i64 g4) (.int .i64 g5) (.int .i64 g6) (.int .i64 g7))
  clear c2 c3 c4 c5 c6 c7 c8 c9 f2 f3 f4 f5 f6 f7 f8 f9 HR1
  go_wp2_with fail
  go_ret
  exact ⟨rfl, HG.out, HS.out⟩
set_option maxRecDepth 100000 in
set_option maxHeartbeats 3200000 in
theorem rec_chk (R : Nat) (r : List Int) (hr : r.length = 10) (w : World) (hR : Blk w R (cellsI r) 27) :
    Calls Tryz.prog 79 #[.pointer (some ⟨R, 0, none⟩)] w fun e w' => e = .returned (.int .i64 (recCheck r)) ∧ Below w.heap.size w w' := by
  have hu := Tryz.underlying27
  have HC := Lib.hid (rec_check r hr)
  obtain ⟨RC, hRC⟩ : ∃ c, recCheck r = c := ⟨_, rfl⟩
  rw [hRC] at HC ⊢
  clear hRC
  obtain ⟨q, t, k, n, j, i, p, x, y, z, rfl⟩ := ten_of hr
  have a1 : cellsI [q, t, k, n, j, i, p, x, y, z] = #[.int .i64 q, .int .i64 t, .int .i64 k, .int .i64 n, .int .i64 j, .int .i64 i, .int .i64 p, .int .i64 x, .int .i64 y, .int .i64 z] := rfl
  rw [a1] at HC hR
  have HR := Lib.hid hR
  clear hR a1 hr
  go_enter Tryz.func79, Tryz.ntmps79
  go_wp2_with (with_reducible refine ev_load rfl 27 (.tmp 0) rfl R rfl 27 #[.int .i64 q, .int .i64 t, .int .i64 k, .int .i64 n, .int .i64 j, .int .i64 i, .int .i64 p, .int .i64 x, .int .i64 y, .int .i64 z] _ HR.out hu rfl (by kernel_rfl) ?_)
  refine (HC.out _).mono ?_
  rintro e w1 ⟨rfl, hb1⟩
  go_wp2_with fail
  go_ret
  exact ⟨rfl, hb1⟩
theorem rec_mk (R i bc : Nat) (w : World) :
    Calls Tryz.prog 72 #[.pointer (some ⟨R, i, none⟩), .pointer (some ⟨bc, 0, none⟩)] w fun e w' => e = .returned (.func (.func 73) #[] #[.pointer (some ⟨bc, 0, none⟩), .pointer (some ⟨w.heap.size, 0, none⟩)]) ∧ w.alloc (.cells #[.pointer (some ⟨R, i, none⟩)] 102) = w' := by
  go_enter Tryz.func72, Tryz.ntmps72
  go_wp2_with fail
  go_ret
  exact ⟨rfl, rfl⟩
/-- The record that is none. -/
def zeroR : List Int := [0, 0, 0, 0, 0, 0, 0, 0, 0, 0]
/-- The record of a body, and the error. -/
def readL (s : ByteArray) : List Int × Int :=
  if tookE (Oct.takeVar (rest s 0)) ≠ 0 then (zeroR, tookE (Oct.takeVar (rest s 0))) else
  if tookE (Oct.takeVar (rest s (0 + tookLen (Oct.takeVar (rest s 0))))) ≠ 0 then (zeroR, tookE (Oct.takeVar (rest s (0 + tookLen (Oct.takeVar (rest s 0)))))) else
  if (getL (s.extract (0 + tookLen (Oct.takeVar (rest s 0)) + tookLen (Oct.takeVar (rest s (0 + tookLen (Oct.takeVar (rest s 0)))))) s.size)).2 ≠ 0 then (zeroR, (getL (s.extract (0 + tookLen (Oct.takeVar (rest s 0)) + tookLen (Oct.takeVar (rest s (0 + tookLen (Oct.takeVar (rest s 0)))))) s.size)).2) else
  if recCheck (tookN (Oct.takeVar (rest s 0)) :: tookN (Oct.takeVar (rest s (0 + tookLen (Oct.takeVar (rest s 0))))) :: (getL (s.extract (0 + tookLen (Oct.takeVar (rest s 0)) + tookLen (Oct.takeVar (rest s (0 + tookLen (Oct.takeVar (rest s 0)))))) s.size)).1) ≠ 0 then (zeroR, recCheck (tookN (Oct.takeVar (rest s 0)) :: tookN (Oct.takeVar (rest s (0 + tookLen (Oct.takeVar (rest s 0))))) :: (getL (s.extract (0 + tookLen (Oct.takeVar (rest s 0)) + tookLen (Oct.takeVar (rest s (0 + tookLen (Oct.takeVar (rest s 0)))))) s.size)).1)) else
  (tookN (Oct.takeVar (rest s 0)) :: tookN (Oct.takeVar (rest s (0 + tookLen (Oct.takeVar (rest s 0))))) :: (getL (s.extract (0 + tookLen (Oct.takeVar (rest s 0)) + tookLen (Oct.takeVar (rest s (0 + tookLen (Oct.takeVar (rest s 0)))))) s.size)).1, 0)
theorem took_le (s : ByteArray) (a : Nat) (ha : a ≤ s.size) : a + tookLen (Oct.takeVar (rest s a)) ≤ s.size := by
  cases h : Oct.takeVar (rest s a) with
  | short => exact ha
  | form => exact ha
  | num m q =>
    have := (Oct.takeVar_num _ m q h).1
    rw [rest_length] at this
    show a + q ≤ s.size; omega
/-- How memory stands while a record is read. -/
structure St (b : Nat) (s : ByteArray) (a : Nat) (q t : Int) (w : World) : Prop where
  h0 : Blk w b #[.string s] 9
  h2 : Blk w (b + 2) #[.int .i64 q, .int .i64 t, .int .i64 0, .int .i64 0, .int .i64 0, .int .i64 0, .int .i64 0, .int .i64 0, .int .i64 0, .int .i64 0] 27
  h3 : Cur w (b + 3) s a
  h4 : Blk w (b + 4) #[.pointer (some ⟨b + 3, 0, none⟩)] 110
  h5 : Blk w (b + 5) #[.pointer (some ⟨b + 2, 0, none⟩)] 102
  h6 : Blk w (b + 6) #[.pointer (some ⟨b + 2, 1, none⟩)] 102
  h7 : Blk w (b + 7) #[.func (.func 73) #[] #[.pointer (some ⟨b + 4, 0, none⟩), .pointer (some ⟨b + 5, 0, none⟩)], .func (.func 73) #[] #[.pointer (some ⟨b + 4, 0, none⟩), .pointer (some ⟨b + 6, 0, none⟩)],
    .func (.func 76) #[] #[.pointer (some ⟨b, 0, none⟩), .pointer (some ⟨b + 4, 0, none⟩), .pointer (some ⟨b + 2, 0, none⟩)], .func (.func 79) #[] #[.pointer (some ⟨b + 2, 0, none⟩)]] 114
theorem St.num1 {b : Nat} {s : ByteArray} {a : Nat} {q t : Int} {w : World} (h : St b s a q t w) (hs : s.size ≤ maxLen) (ha : a ≤ s.size) :
    Calls Tryz.prog 73 #[.pointer (some ⟨b + 4, 0, none⟩), .pointer (some ⟨b + 5, 0, none⟩)] w fun e w' => e = .returned (.int .i64 (tookE (Oct.takeVar (rest s a)))) ∧ St b s (a + tookLen (Oct.takeVar (rest s a))) (tookN (Oct.takeVar (rest s a))) t w' ∧ Below (b + 2) w w' := by
  refine (rec_num (b + 4) (b + 5) (b + 3) (b + 2) 0 (.int .i64 q) s a hs ha w h.h3 (h.h4.cell rfl) (h.h5.cell rfl) (h.h2.cell rfl) (h.h2.free 0) (by omega) (by omega) (by omega) (by omega) (by omega)).mono ?_
  rintro e w' ⟨rfl, w1, ⟨hc, hg, hz⟩, rfl⟩
  have L := h.h7.lt
  refine ⟨rfl, ⟨(h.h0.gby hg (by omega)).far (by show ¬ b + 2 = _; omega) _, ?_, hc.far (by show ¬ b + 2 = _; omega) _, (h.h4.gby hg (by omega)).far (by show ¬ b + 2 = _; omega) _, (h.h5.gby hg (by omega)).far (by show ¬ b + 2 = _; omega) _, (h.h6.gby hg (by omega)).far (by show ¬ b + 2 = _; omega) _, (h.h7.gby hg (by omega)).far (by show ¬ b + 2 = _; omega) _⟩, ?_⟩
  · exact (h.h2.gby hg (by omega)).set 0 _
  · exact (below_gby (Below.refl (b + 2) w) hg (by omega) (by omega)).setCell (p := ⟨b + 2, 0, none⟩) (by show b + 2 ≤ b + 2; omega) _
theorem St.num2 {b : Nat} {s : ByteArray} {a : Nat} {q t : Int} {w : World} (h : St b s a q t w) (hs : s.size ≤ maxLen) (ha : a ≤ s.size) :
    Calls Tryz.prog 73 #[.pointer (some ⟨b + 4, 0, none⟩), .pointer (some ⟨b + 6, 0, none⟩)] w fun e w' => e = .returned (.int .i64 (tookE (Oct.takeVar (rest s a)))) ∧ St b s (a + tookLen (Oct.takeVar (rest s a))) q (tookN (Oct.takeVar (rest s a))) w' ∧ Below (b + 2) w w' := by
  refine (rec_num (b + 4) (b + 6) (b + 3) (b + 2) 1 (.int .i64 t) s a hs ha w h.h3 (h.h4.cell rfl) (h.h6.cell rfl) (h.h2.cell rfl) (h.h2.free 1) (by omega) (by omega) (by omega) (by omega) (by omega)).mono ?_
  rintro e w' ⟨rfl, w1, ⟨hc, hg, hz⟩, rfl⟩
  have L := h.h7.lt
  refine ⟨rfl, ⟨(h.h0.gby hg (by omega)).far (by show ¬ b + 2 = _; omega) _, ?_, hc.far (by show ¬ b + 2 = _; omega) _, (h.h4.gby hg (by omega)).far (by show ¬ b + 2 = _; omega) _, (h.h5.gby hg (by omega)).far (by show ¬ b + 2 = _; omega) _, (h.h6.gby hg (by omega)).far (by show ¬ b + 2 = _; omega) _, (h.h7.gby hg (by omega)).far (by show ¬ b + 2 = _; omega) _⟩, ?_⟩
  · exact (h.h2.gby hg (by omega)).set 1 _
  · exact (below_gby (Below.refl (b + 2) w) hg (by omega) (by omega)).setCell (p := ⟨b + 2, 1, none⟩) (by show b + 2 ≤ b + 2; omega) _
theorem St.ev {b : Nat} {s : ByteArray} {a : Nat} {q t : Int} {w : World} (h : St b s a q t w) (hs : s.size ≤ maxLen) (ha : a ≤ s.size) :
    Calls Tryz.prog 76 #[.pointer (some ⟨b, 0, none⟩), .pointer (some ⟨b + 4, 0, none⟩), .pointer (some ⟨b + 2, 0, none⟩)] w fun e w' => e = .returned (.int .i64 (getL (s.extract a s.size)).2) ∧
      Blk w' (b + 2) (cellsI (q :: t :: (getL (s.extract a s.size)).1)) 27 ∧ w'.cell? ⟨b + 7, 3, none⟩ = some (.func (.func 79) #[] #[.pointer (some ⟨b + 2, 0, none⟩)]) ∧ Below (b + 2) w w' := by
  obtain ⟨g0, g1, g2, g3, g4, g5, g6, g7, hG⟩ := eight_of (getL_len (s.extract a s.size))
  have L := h.h7.lt
  refine (rec_ev b (b + 4) (b + 2) (b + 3) s a hs ha w h.h3 (h.h0.cell rfl) (h.h4.cell rfl) (.int .i64 q) (.int .i64 t) _ _ _ _ _ _ _ _ h.h2 (by omega) (by omega) g0 g1 g2 g3 g4 g5 g6 g7 (getL (s.extract a s.size)).2 (by rw [← hG])).mono ?_
  rintro e w' ⟨rfl, hg, hb⟩
  refine ⟨rfl, by rw [hG]; exact hb, (h.h7.gby hg (by omega)).cell rfl, below_gby (Below.refl (b + 2) w) hg (by omega) (by omega)⟩

set_option maxRecDepth 100000 in
set_option maxHeartbeats 3200000 in
theorem rec_first (b : Nat) (s : ByteArray) (hs : s.size ≤ maxLen) (w : World) (h : St b s 0 0 0 w) :
    Calls Tryz.prog 75 #[.slice (some ⟨b + 7, 0, none⟩) 4 4] w fun e w' => e = .returned (.int .i64 (readL s).2) ∧ Below (b + 2) w w' ∧ ((readL s).2 = 0 → Blk w' (b + 2) (cellsI (readL s).1) 27) := by
  have ha1 := took_le s 0 (Nat.zero_le _)
  have ha2 := took_le s _ ha1
  have N1 := fun (t : Int) w' (h' : St b s 0 0 t w') => h'.num1 hs (Nat.zero_le _)
  have N2 := fun (q t : Int) w' (h' : St b s (0 + tookLen (Oct.takeVar (rest s 0))) q t w') => h'.num2 hs ha1
  have N3 := fun (q t : Int) w' (h' : St b s (0 + tookLen (Oct.takeVar (rest s 0)) + tookLen (Oct.takeVar (rest s (0 + tookLen (Oct.takeVar (rest s 0)))))) q t w') => h'.ev hs ha2
  have N4 := fun (r : List Int) (hr : r.length = 10) w' (h' : Blk w' (b + 2) (cellsI r) 27) => rec_chk (b + 2) r hr w' h'
  have hgl := getL_len (s.extract (0 + tookLen (Oct.takeVar (rest s 0)) + tookLen (Oct.takeVar (rest s (0 + tookLen (Oct.takeVar (rest s 0)))))) s.size)
  obtain ⟨R1, hR1⟩ : ∃ r, (readL s).1 = r := ⟨_, rfl⟩
  obtain ⟨R2, hR2⟩ : ∃ r, (readL s).2 = r := ⟨_, rfl⟩
  have hRL : readL s = (R1, R2) := by rw [← hR1, ← hR2]
  rw [hR1, hR2]
  clear hR1 hR2
  unfold readL at hRL
  generalize s.extract (0 + tookLen (Oct.takeVar (rest s 0)) + tookLen (Oct.takeVar (rest s (0 + tookLen (Oct.takeVar (rest s 0)))))) s.size = X at N3 hRL hgl
  obtain ⟨A2, hA2⟩ : ∃ x, 0 + tookLen (Oct.takeVar (rest s 0)) + tookLen (Oct.takeVar (rest s (0 + tookLen (Oct.takeVar (rest s 0))))) = x := ⟨_, rfl⟩
  rw [hA2] at N3
  obtain ⟨T2, hT2⟩ : ∃ x, Oct.takeVar (rest s (0 + tookLen (Oct.takeVar (rest s 0)))) = x := ⟨_, rfl⟩
  rw [hT2] at N2 hRL hA2
  obtain ⟨A1, hA1⟩ : ∃ x, 0 + tookLen (Oct.takeVar (rest s 0)) = x := ⟨_, rfl⟩
  rw [hA1] at N1 N2 hA2
  rw [hA2] at N2
  obtain ⟨T1, hT1⟩ : ∃ x, Oct.takeVar (rest s 0) = x := ⟨_, rfl⟩
  rw [hT1] at N1 hRL
  generalize tookE T1 = E1 at N1 hRL
  generalize tookN T1 = Q at N1 hRL
  generalize tookE T2 = E2 at N2 hRL
  generalize tookN T2 = T at N2 hRL
  generalize hGE : (getL X).2 = GE at N3 hRL
  generalize hGD : (getL X).1 = GD at N3 hRL hgl
  obtain ⟨RC, hRC⟩ : ∃ c, recCheck (Q :: T :: GD) = c := ⟨_, rfl⟩
  have N4 := N4 (Q :: T :: GD) (by simp [hgl])
  rw [hRC] at N4 hRL
  clear ha1 ha2 hA1 hA2 hT1 hT2 hGE hGD hRC
  have HS := Lib.hid h
  have N1 := Lib.hid N1
  have N2 := Lib.hid N2
  have N3 := Lib.hid N3
  have N4 := Lib.hid N4
  have HRL := Lib.hid hRL
  clear hRL h
  have c0 := HS.out.h7.cell (i := 0) rfl
  go_enter Tryz.func75, Tryz.ntmps75
  go_wp2_with fail
  refine wp_loop_rounds 5 ?_
  rw [rounds_succ]
  go_wp2_with fail
  refine (N1.out _ _ HS.out).mono ?_
  rintro e w1 ⟨rfl, hs1, hb1⟩
  have S1 := Lib.hid hs1
  have L1 := Lib.hid hb1
  clear hs1 hb1 HS N1 c0
  have c1 := S1.out.h7.cell (i := 1) rfl
  by_cases e1 : E1 = 0
  · subst e1
    have HRL1 : Hid ((if E2 ≠ 0 then (zeroR, E2) else if GE ≠ 0 then (zeroR, GE) else if RC ≠ 0 then (zeroR, RC) else (Q :: T :: GD, 0)) = (R1, R2)) := Lib.hid (by rw [← HRL.out, if_neg (show ¬ ((0 : Int) ≠ 0) by simp)])
    clear HRL
    go_wp2_with fail
    rw [rounds_succ]
    go_wp2_with fail
    refine (N2.out _ _ _ S1.out).mono ?_
    rintro e w2 ⟨rfl, hs2, hb2⟩
    have S2 := Lib.hid hs2
    have L2 := Lib.hid (L1.out.trans hb2)
    clear hs2 hb2 S1 L1 N2 c1
    have c2 := S2.out.h7.cell (i := 2) rfl
    by_cases e2 : E2 = 0
    · subst e2
      have HRL2 : Hid ((if GE ≠ 0 then (zeroR, GE) else if RC ≠ 0 then (zeroR, RC) else (Q :: T :: GD, 0)) = (R1, R2)) := Lib.hid (by rw [← HRL1.out, if_neg (show ¬ ((0 : Int) ≠ 0) by simp)])
      clear HRL1
      go_wp2_with fail
      rw [rounds_succ]
      go_wp2_with fail
      refine (N3.out _ _ _ S2.out).mono ?_
      rintro e w3 ⟨rfl, hr3, c3, hb3⟩
      have B3 := Lib.hid hr3
      have L3 := Lib.hid (L2.out.trans hb3)
      have L := S2.out.h7.lt
      have hsz : b + 2 < w3.heap.size := by have := hb3.size; omega
      clear hr3 hb3 S2 L2 N3 c2
      by_cases e3 : GE = 0
      · subst e3
        have HRL3 : Hid ((if RC ≠ 0 then (zeroR, RC) else (Q :: T :: GD, 0)) = (R1, R2)) := Lib.hid (by rw [← HRL2.out, if_neg (show ¬ ((0 : Int) ≠ 0) by simp)])
        clear HRL2
        go_wp2_with fail
        rw [rounds_succ]
        go_wp2_with fail
        refine (N4.out _ B3.out).mono ?_
        rintro e w4 ⟨rfl, hb4⟩
        have B4 := Lib.hid (B3.out.below hb4 hsz)
        have L4 := Lib.hid (L3.out.trans (hb4.mono (by omega)))
        clear hb4 B3 L3 N4 c3
        by_cases e4 : RC = 0
        · subst e4
          have HRL4 : Hid ((Q :: T :: GD, 0) = (R1, R2)) := Lib.hid (by rw [← HRL3.out, if_neg (show ¬ ((0 : Int) ≠ 0) by simp)])
          clear HRL3
          go_wp2_with fail
          rw [rounds_succ]
          go_wp2_with fail
          go_ret
          exact ⟨by rw [← (Prod.mk.inj HRL4.out).2]; rfl, L4.out, fun _ => by rw [← (Prod.mk.inj HRL4.out).1]; exact B4.out⟩
        · have hne : (RC == 0) = false := by rw [beq_eq_false_iff_ne]; exact e4
          have HRL4 : Hid ((zeroR, RC) = (R1, R2)) := Lib.hid (by rw [← HRL3.out, if_pos e4])
          clear HRL3
          go_wp2_with fail
          go_ret
          exact ⟨by rw [← (Prod.mk.inj HRL4.out).2]; rfl, L4.out, fun h => absurd ((Prod.mk.inj HRL4.out).2.trans h) e4⟩
      · have hne : (GE == 0) = false := by rw [beq_eq_false_iff_ne]; exact e3
        have HRL3 : Hid ((zeroR, GE) = (R1, R2)) := Lib.hid (by rw [← HRL2.out, if_pos e3])
        clear HRL2
        go_wp2_with fail
        go_ret
        exact ⟨by rw [← (Prod.mk.inj HRL3.out).2]; rfl, L3.out, fun h => absurd ((Prod.mk.inj HRL3.out).2.trans h) e3⟩
    · have hne : (E2 == 0) = false := by rw [beq_eq_false_iff_ne]; exact e2
      have HRL2 : Hid ((zeroR, E2) = (R1, R2)) := Lib.hid (by rw [← HRL1.out, if_pos e2])
      clear HRL1
      go_wp2_with fail
      go_ret
      exact ⟨by rw [← (Prod.mk.inj HRL2.out).2]; rfl, L2.out, fun h => absurd ((Prod.mk.inj HRL2.out).2.trans h) e2⟩
  · have hne : (E1 == 0) = false := by rw [beq_eq_false_iff_ne]; exact e1
    have HRL1 : Hid ((zeroR, E1) = (R1, R2)) := Lib.hid (by rw [← HRL.out, if_pos e1])
    clear HRL
    go_wp2_with fail
    go_ret
    exact ⟨by rw [← (Prod.mk.inj HRL1.out).2]; rfl, L1.out, fun h => absurd ((Prod.mk.inj HRL1.out).2.trans h) e1⟩
end Go.Proofs.YtokghlmffkboiaaGreat
