/-
  What the reference of reeve's layer 38 computes, as contracts.
-/
import Derived.Test.YtdeeeoakdfldkaaDisk
import Derived.Test.YtdeeeoakdfldkaaMem
namespace Go.Proofs.Ytdeeeoakdfldkaa
open Go.RowKit
set_option linter.unusedVariables false
set_option linter.unusedSimpArgs false

def rdv (s : ByteArray) (ep yes no fuse : Int) : Value := .agg #[.string s, .int .i64 ep, .int .i64 yes, .int .i64 no, .int .i64 fuse]
theorem rd_facts {w : World} {b : Nat} {s : ByteArray} {x0 x1 x2 x3 : Int} {T : TypeId} (h : Blk w b #[.string s, .int .i64 x0, .int .i64 x1, .int .i64 x2, .int .i64 x3] T) :
    (w.cell? ⟨b, 0, none⟩ = some (.string s) ∧ w.cell? ⟨b, 1, none⟩ = some (.int .i64 x0) ∧ w.cell? ⟨b, 2, none⟩ = some (.int .i64 x1) ∧ w.cell? ⟨b, 3, none⟩ = some (.int .i64 x2) ∧ w.cell? ⟨b, 4, none⟩ = some (.int .i64 x3)) ∧
    (w.frozen? ⟨b, 0, none⟩ = false ∧ w.frozen? ⟨b, 1, none⟩ = false ∧ w.frozen? ⟨b, 2, none⟩ = false ∧ w.frozen? ⟨b, 3, none⟩ = false ∧ w.frozen? ⟨b, 4, none⟩ = false) ∧ b < w.heap.size :=
  ⟨⟨h.cell rfl, h.cell rfl, h.cell rfl, h.cell rfl, h.cell rfl⟩, ⟨h.free _, h.free _, h.free _, h.free _, h.free _⟩, h.lt⟩
/-- Behind a call: the two blocks that the function made stand. -/
theorem rd_two {w w1 : World} {s : ByteArray} {x0 x1 x2 x3 : Int} {T : TypeId} {s' : ByteArray} {y0 y1 y2 y3 : Int} {T' : TypeId}
    (hb : Below ((w.alloc (.cells #[.string s, .int .i64 x0, .int .i64 x1, .int .i64 x2, .int .i64 x3] T)).alloc (.cells #[.string s', .int .i64 y0, .int .i64 y1, .int .i64 y2, .int .i64 y3] T')).heap.size
      ((w.alloc (.cells #[.string s, .int .i64 x0, .int .i64 x1, .int .i64 x2, .int .i64 x3] T)).alloc (.cells #[.string s', .int .i64 y0, .int .i64 y1, .int .i64 y2, .int .i64 y3] T')) w1) :
    Blk w1 w.heap.size #[.string s, .int .i64 x0, .int .i64 x1, .int .i64 x2, .int .i64 x3] T ∧ Blk w1 (w.heap.size + 1) #[.string s', .int .i64 y0, .int .i64 y1, .int .i64 y2, .int .i64 y3] T' ∧ Below w.heap.size w w1 ∧ w.heap.size + 1 < w1.heap.size := by
  refine ⟨((Blk.new w _ _).alloc _).below hb (by simp; omega), ?_, ?_, by have := hb.size; simp at this; omega⟩
  · have h := Blk.new (w.alloc (.cells #[.string s, .int .i64 x0, .int .i64 x1, .int .i64 x2, .int .i64 x3] T)) #[.string s', .int .i64 y0, .int .i64 y1, .int .i64 y2, .int .i64 y3] T'
    have e : (w.alloc (.cells #[.string s, .int .i64 x0, .int .i64 x1, .int .i64 x2, .int .i64 x3] T)).heap.size = w.heap.size + 1 := by simp
    rw [e] at h
    exact h.below hb (by simp)
  · exact (((Below.refl w.heap.size w).alloc (Nat.le_refl _) _).alloc (by simp) _).trans (hb.mono (by simp; omega))
theorem ref38_new (w : World) : Calls Try.prog 25 #[] w fun e w' => e = .returned (rdv ⟨#[]⟩ 0 0 0 (-1)) ∧ Below w.heap.size w w' := by
  unfold rdv
  go_enter Try.func25, Try.ntmps25
  go_wp2
  go_returns
  refine ⟨rfl, ?_⟩
  go_grown
set_option maxRecDepth 100000 in
set_option maxHeartbeats 800000 in
theorem ref38_append_fence (s : ByteArray) (ep yes no fuse n : Int) (t : ByteArray) (hn : n < 1 ∨ 4294967295 < n ∨ n < ep) (w : World) :
    Calls Try.prog 26 #[rdv s ep yes no fuse, .int .i64 n, .string t] w fun e w' => e = .returned (.tuple #[rdv s ep yes no fuse, .int .i64 11]) ∧ Below w.heap.size w w' := by
  unfold rdv
  have HN := Lib.hid hn
  clear hn
  have hu1 := Try.underlying73
  have hu2 := Try.underlying34
  go_enter Try.func26, Try.ntmps26
  go_wp2_with (first
    | (go_at_call 12; refine (ref17_no ep yes no n HN.out _).mono ?_; rintro e w1 ⟨rfl, hb⟩; obtain ⟨hb0, hb1, hbl, hz⟩ := rd_two hb; obtain ⟨⟨p0, p1, p2, p3, p4⟩, ⟨f0, f1, f2, f3, f4⟩, _⟩ := rd_facts hb0; have HBL := Lib.hid hbl; have HB0 := Lib.hid hb0; have HB1 := Lib.hid hb1; clear hb hb0 hb1 hbl)
    | (refine ev_load rfl 73 (.tmp 3) rfl w.heap.size rfl 73 #[.string s, .int .i64 ep, .int .i64 yes, .int .i64 no, .int .i64 fuse] _ (HB0.out.alloc _) Try.underlying73 rfl (by kernel_rfl) ?_)
    | (refine ev_store rfl 73 (.tmp 6) (.tmp 19) rfl (w.heap.size + 1) #[.string s, .int .i64 ep, .int .i64 yes, .int .i64 no, .int .i64 fuse] rfl rfl 73 _ (HB1.out.alloc _) (by kernel_rfl) rfl (by simp [Value.oneCell']) ?_; intro w2 hb2 hc2 hz2; have HB2 := Lib.hid hb2; have HC2 := Lib.hid hc2; clear hb2 hc2 hz2))
  refine bodyPost_ret (res_ct (P := Try.prog) rfl _ (w.heap.size + 1) 73 #[.string s, .int .i64 ep, .int .i64 yes, .int .i64 no, .int .i64 fuse] _ rfl HB2.out Try.underlying73 rfl (by kernel_rfl)) rfl ?_
  exact ⟨rfl, Chg.belowOf (HBL.out.alloc HBL.out.size _) HC2.out (fun k hk => by omega) (by have := HBL.out.size; simp; omega)⟩

theorem rd_fence {w : World} {b : Nat} {s : ByteArray} {x0 x1 x2 x3 y0 y1 y2 : Int} {T : TypeId} (h : Blk w b #[.string s, .int .i64 x0, .int .i64 x1, .int .i64 x2, .int .i64 x3] T) :
    Blk (((w.setCell ⟨b, 1, none⟩ (.int .i64 y0)).setCell ⟨b, 2, none⟩ (.int .i64 y1)).setCell ⟨b, 3, none⟩ (.int .i64 y2)) b #[.string s, .int .i64 y0, .int .i64 y1, .int .i64 y2, .int .i64 x3] T := ((h.set 1 _).set 2 _).set 3 _
theorem rd_s {w : World} {b : Nat} {s s' : ByteArray} {x0 x1 x2 x3 : Int} {T : TypeId} (h : Blk w b #[.string s, .int .i64 x0, .int .i64 x1, .int .i64 x2, .int .i64 x3] T) :
    Blk (w.setCell ⟨b, 0, none⟩ (.string s')) b #[.string s', .int .i64 x0, .int .i64 x1, .int .i64 x2, .int .i64 x3] T := h.set 0 _
theorem rd_f {w : World} {b : Nat} {s : ByteArray} {x0 x1 x2 x3 y : Int} {T : TypeId} (h : Blk w b #[.string s, .int .i64 x0, .int .i64 x1, .int .i64 x2, .int .i64 x3] T) :
    Blk (w.setCell ⟨b, 4, none⟩ (.int .i64 y)) b #[.string s, .int .i64 x0, .int .i64 x1, .int .i64 x2, .int .i64 y] T := h.set 4 _
set_option maxRecDepth 100000 in
set_option maxHeartbeats 800000 in
theorem ref38_append_full (s : ByteArray) (ep yes no fuse n : Int) (t : ByteArray) (h1 : 1 ≤ n) (h2 : n ≤ 4294967295) (h3 : ep ≤ n) (hs : s.size ≤ 65536) (ht : t.size ≤ 65536) (hfull : 65536 < s.size + t.size) (w : World) :
    Calls Try.prog 26 #[rdv s ep yes no fuse, .int .i64 n, .string t] w fun e w' => e = .returned (.tuple #[rdv s n (wrap64 (yes + 1)) no fuse, .int .i64 6]) ∧ Below w.heap.size w w' := by
  have hd : decide ((65536 : Int) < (s.size : Int) + (t.size : Int)) = true := by simp; omega
  unfold rdv
  have hu1 := Try.underlying73
  have hu2 := Try.underlying34
  go_enter Try.func26, Try.ntmps26
  go_upto_region 4 with ((go_at_call 12; refine (ref17_yes ep yes no n h1 h2 h3 _).mono ?_; rintro e w1 ⟨rfl, hb⟩; obtain ⟨hb0, hb1, hbl, hz⟩ := rd_two hb; obtain ⟨⟨p0, p1, p2, p3, p4⟩, ⟨f0, f1, f2, f3, f4⟩, _⟩ := rd_facts hb0; have HBL := Lib.hid hbl; have HB0 := Lib.hid hb0; have HB1 := Lib.hid hb1; clear hb hb0 hb1 hbl))
  go_cut [] (fun wx => Blk wx w.heap.size #[.string s, .int .i64 n, .int .i64 (wrap64 (yes + 1)), .int .i64 no, .int .i64 fuse] 73 ∧ Blk wx (w.heap.size + 1) #[.string ⟨#[]⟩, .int .i64 0, .int .i64 0, .int .i64 0, .int .i64 0] 73 ∧ Below w.heap.size w wx)
  case first =>
    go_wp2_with fail
    go_meet
    exact ⟨(rd_fence HB0.out).alloc _, ((((HB1.out.far (by simp) _).far (by simp) _).far (by simp) _)).alloc _, (((HBL.out.setCell (by simp) _).setCell (by simp) _).setCell (by simp) _).alloc (by have := HBL.out.size; simp; omega) _⟩
  case rest =>
    obtain ⟨hb0, hb1, hbl⟩ := hcut
    clear p0 p1 p2 p3 p4 f0 f1 f2 f3 f4 HB0 HB1 HBL
    obtain ⟨⟨p0, p1, p2, p3, p4⟩, ⟨f0, f1, f2, f3, f4⟩, _⟩ := rd_facts hb0
    have HB0 := Lib.hid hb0
    have HB1 := Lib.hid hb1
    have HBL := Lib.hid hbl
    clear hb0 hb1 hbl
    go_upto_region 6 with fail
    go_wp2_with (first
      | (refine ev_load rfl 73 (.tmp 3) rfl w.heap.size rfl 73 #[.string s, .int .i64 n, .int .i64 (wrap64 (yes + 1)), .int .i64 no, .int .i64 fuse] _ (HB0.out) Try.underlying73 rfl (by kernel_rfl) ?_)
      | (refine ev_store rfl 73 (.tmp 6) (.tmp 29) rfl (w.heap.size + 1) #[.string s, .int .i64 n, .int .i64 (wrap64 (yes + 1)), .int .i64 no, .int .i64 fuse] rfl rfl 73 _ (HB1.out) (by kernel_rfl) rfl (by simp [Value.oneCell']) ?_; intro w2 hb2 hc2 hz2; have HB2 := Lib.hid hb2; have HC2 := Lib.hid hc2; clear hb2 hc2 hz2))
    refine bodyPost_ret (res_ct (P := Try.prog) rfl _ (w.heap.size + 1) 73 #[.string s, .int .i64 n, .int .i64 (wrap64 (yes + 1)), .int .i64 no, .int .i64 fuse] _ rfl HB2.out Try.underlying73 rfl (by kernel_rfl)) rfl ?_
    exact ⟨rfl, Chg.belowOf (HBL.out) HC2.out (fun k hk => by omega) (by have := HBL.out.size; simp; omega)⟩
set_option maxRecDepth 100000 in
set_option maxHeartbeats 800000 in
theorem ref38_append_off (s : ByteArray) (ep yes no : Int) (fuse : Nat) (n : Int) (t : ByteArray) (h1 : 1 ≤ n) (h2 : n ≤ 4294967295) (h3 : ep ≤ n) (hs : s.size ≤ 65536) (ht : t.size ≤ 65536) (hfull : ¬ 65536 < s.size + t.size) (hfu : fuse < t.size) (w : World) :
    Calls Try.prog 26 #[rdv s ep yes no fuse, .int .i64 n, .string t] w fun e w' => e = .returned (.tuple #[rdv (s ++ t.extract 0 fuse) n (wrap64 (yes + 1)) no (-1), .int .i64 14]) ∧ Below w.heap.size w w' := by
  have hd : decide ((65536 : Int) < (s.size : Int) + (t.size : Int)) = false := by simp; omega
  have hd2 : decide ((fuse : Int) < (t.size : Int)) = true := by simp; omega
  have hk0 : (0 : Int) ≤ (fuse : Int) := by omega
  have hk1 : (fuse : Int) ≤ (t.size : Int) := by omega
  have hadd : s.size + (t.extract 0 fuse).size ≤ 9223372036854775807 := by rw [ByteArray.size_extract]; omega
  have hadd2 : s.size + fuse ≤ 9223372036854775807 := by omega
  unfold rdv
  have hu1 := Try.underlying73
  have hu2 := Try.underlying34
  go_enter Try.func26, Try.ntmps26
  go_upto_region 4 with ((go_at_call 12; refine (ref17_yes ep yes no n h1 h2 h3 _).mono ?_; rintro e w1 ⟨rfl, hb⟩; obtain ⟨hb0, hb1, hbl, hz⟩ := rd_two hb; obtain ⟨⟨p0, p1, p2, p3, p4⟩, ⟨f0, f1, f2, f3, f4⟩, _⟩ := rd_facts hb0; have HBL := Lib.hid hbl; have HB0 := Lib.hid hb0; have HB1 := Lib.hid hb1; clear hb hb0 hb1 hbl))
  go_cut [] (fun wx => Blk wx w.heap.size #[.string s, .int .i64 n, .int .i64 (wrap64 (yes + 1)), .int .i64 no, .int .i64 fuse] 73 ∧ Blk wx (w.heap.size + 1) #[.string ⟨#[]⟩, .int .i64 0, .int .i64 0, .int .i64 0, .int .i64 0] 73 ∧ Below w.heap.size w wx)
  case first =>
    go_wp2_with fail
    go_meet
    exact ⟨(rd_fence HB0.out).alloc _, ((((HB1.out.far (by simp) _).far (by simp) _).far (by simp) _)).alloc _, (((HBL.out.setCell (by simp) _).setCell (by simp) _).setCell (by simp) _).alloc (by have := HBL.out.size; simp; omega) _⟩
  case rest =>
    obtain ⟨hb0, hb1, hbl⟩ := hcut
    clear p0 p1 p2 p3 p4 f0 f1 f2 f3 f4 HB0 HB1 HBL
    obtain ⟨⟨p0, p1, p2, p3, p4⟩, ⟨f0, f1, f2, f3, f4⟩, _⟩ := rd_facts hb0
    have HB0 := Lib.hid hb0
    have HB1 := Lib.hid hb1
    have HBL := Lib.hid hbl
    clear hb0 hb1 hbl
    go_upto_region 8 with fail
    go_region
    go_upto_region 10 with fail
    go_wp2_with (first
      | (refine ev_load rfl 73 (.tmp 3) rfl w.heap.size rfl 73 #[.string (s ++ t.extract 0 fuse), .int .i64 n, .int .i64 (wrap64 (yes + 1)), .int .i64 no, .int .i64 (-1)] _ ((rd_f (rd_s HB0.out)).drew) Try.underlying73 rfl (by kernel_rfl) ?_)
      | (refine ev_store rfl 73 (.tmp 6) (.tmp 49) rfl (w.heap.size + 1) #[.string (s ++ t.extract 0 fuse), .int .i64 n, .int .i64 (wrap64 (yes + 1)), .int .i64 no, .int .i64 (-1)] rfl rfl 73 _ (((HB1.out.far (by simp) _).far (by simp) _).drew) (by kernel_rfl) rfl (by simp [Value.oneCell']) ?_; intro w2 hb2 hc2 hz2; have HB2 := Lib.hid hb2; have HC2 := Lib.hid hc2; clear hb2 hc2 hz2))
    refine bodyPost_ret (res_ct (P := Try.prog) rfl _ (w.heap.size + 1) 73 #[.string (s ++ t.extract 0 fuse), .int .i64 n, .int .i64 (wrap64 (yes + 1)), .int .i64 no, .int .i64 (-1)] _ rfl HB2.out Try.underlying73 rfl (by kernel_rfl)) rfl ?_
    exact ⟨rfl, Chg.belowOf (((HBL.out.setCell (by simp) _).setCell (by simp) _).drew) HC2.out (fun k hk => by omega) (by have := HBL.out.size; simp; omega)⟩
set_option maxRecDepth 100000 in
set_option maxHeartbeats 800000 in
theorem ref38_append_plain (s : ByteArray) (ep yes no fuse n : Int) (t : ByteArray) (h1 : 1 ≤ n) (h2 : n ≤ 4294967295) (h3 : ep ≤ n) (hs : s.size ≤ 65536) (ht : t.size ≤ 65536) (hfull : ¬ 65536 < s.size + t.size) (hfu : fuse < 0) (w : World) :
    Calls Try.prog 26 #[rdv s ep yes no fuse, .int .i64 n, .string t] w fun e w' => e = .returned (.tuple #[rdv (s ++ t) n (wrap64 (yes + 1)) no fuse, .int .i64 0]) ∧ Below w.heap.size w w' := by
  have hd : decide ((65536 : Int) < (s.size : Int) + (t.size : Int)) = false := by simp; omega
  have hd2 : decide (0 ≤ fuse) = false := by simp; omega
  have hadd : s.size + t.size ≤ 9223372036854775807 := by omega
  unfold rdv
  have hu1 := Try.underlying73
  have hu2 := Try.underlying34
  go_enter Try.func26, Try.ntmps26
  go_upto_region 4 with ((go_at_call 12; refine (ref17_yes ep yes no n h1 h2 h3 _).mono ?_; rintro e w1 ⟨rfl, hb⟩; obtain ⟨hb0, hb1, hbl, hz⟩ := rd_two hb; obtain ⟨⟨p0, p1, p2, p3, p4⟩, ⟨f0, f1, f2, f3, f4⟩, _⟩ := rd_facts hb0; have HBL := Lib.hid hbl; have HB0 := Lib.hid hb0; have HB1 := Lib.hid hb1; clear hb hb0 hb1 hbl))
  go_cut [] (fun wx => Blk wx w.heap.size #[.string s, .int .i64 n, .int .i64 (wrap64 (yes + 1)), .int .i64 no, .int .i64 fuse] 73 ∧ Blk wx (w.heap.size + 1) #[.string ⟨#[]⟩, .int .i64 0, .int .i64 0, .int .i64 0, .int .i64 0] 73 ∧ Below w.heap.size w wx)
  case first =>
    go_wp2_with fail
    go_meet
    exact ⟨(rd_fence HB0.out).alloc _, ((((HB1.out.far (by simp) _).far (by simp) _).far (by simp) _)).alloc _, (((HBL.out.setCell (by simp) _).setCell (by simp) _).setCell (by simp) _).alloc (by have := HBL.out.size; simp; omega) _⟩
  case rest =>
    obtain ⟨hb0, hb1, hbl⟩ := hcut
    clear p0 p1 p2 p3 p4 f0 f1 f2 f3 f4 HB0 HB1 HBL
    obtain ⟨⟨p0, p1, p2, p3, p4⟩, ⟨f0, f1, f2, f3, f4⟩, _⟩ := rd_facts hb0
    have HB0 := Lib.hid hb0
    have HB1 := Lib.hid hb1
    have HBL := Lib.hid hbl
    clear hb0 hb1 hbl
    go_upto_region 14 with fail
    go_wp2_with (first
      | (refine ev_load rfl 73 (.tmp 3) rfl w.heap.size rfl 73 #[.string (s ++ t), .int .i64 n, .int .i64 (wrap64 (yes + 1)), .int .i64 no, .int .i64 fuse] _ (rd_s HB0.out) Try.underlying73 rfl (by kernel_rfl) ?_)
      | (refine ev_store rfl 73 (.tmp 6) (.tmp 64) rfl (w.heap.size + 1) #[.string (s ++ t), .int .i64 n, .int .i64 (wrap64 (yes + 1)), .int .i64 no, .int .i64 fuse] rfl rfl 73 _ (HB1.out.far (by simp) _) (by kernel_rfl) rfl (by simp [Value.oneCell']) ?_; intro w2 hb2 hc2 hz2; have HB2 := Lib.hid hb2; have HC2 := Lib.hid hc2; clear hb2 hc2 hz2))
    refine bodyPost_ret (res_ct (P := Try.prog) rfl _ (w.heap.size + 1) 73 #[.string (s ++ t), .int .i64 n, .int .i64 (wrap64 (yes + 1)), .int .i64 no, .int .i64 fuse] _ rfl HB2.out Try.underlying73 rfl (by kernel_rfl)) rfl ?_
    exact ⟨rfl, Chg.belowOf (HBL.out.setCell (by simp) _) HC2.out (fun k hk => by omega) (by have := HBL.out.size; simp; omega)⟩
set_option maxRecDepth 100000 in
set_option maxHeartbeats 800000 in
theorem ref38_append_lit (s : ByteArray) (ep yes no : Int) (fuse : Nat) (n : Int) (t : ByteArray) (h1 : 1 ≤ n) (h2 : n ≤ 4294967295) (h3 : ep ≤ n) (hs : s.size ≤ 65536) (ht : t.size ≤ 65536) (hfull : ¬ 65536 < s.size + t.size) (hfu : t.size ≤ fuse) (hf2 : fuse ≤ 9223372036854775807) (w : World) :
    Calls Try.prog 26 #[rdv s ep yes no fuse, .int .i64 n, .string t] w fun e w' => e = .returned (.tuple #[rdv (s ++ t) n (wrap64 (yes + 1)) no ((fuse : Int) - t.size), .int .i64 0]) ∧ Below w.heap.size w w' := by
  have hd : decide ((65536 : Int) < (s.size : Int) + (t.size : Int)) = false := by simp; omega
  have hd2 : decide ((fuse : Int) < (t.size : Int)) = false := by simp; omega
  have hd3 : decide (0 ≤ (fuse : Int)) = true := by simp
  have hadd : s.size + t.size ≤ 9223372036854775807 := by omega
  have hw1 : wrap64 ((fuse : Int) - t.size) = (fuse : Int) - t.size := by unfold wrap64; omega
  unfold rdv
  have hu1 := Try.underlying73
  have hu2 := Try.underlying34
  go_enter Try.func26, Try.ntmps26
  go_upto_region 4 with ((go_at_call 12; refine (ref17_yes ep yes no n h1 h2 h3 _).mono ?_; rintro e w1 ⟨rfl, hb⟩; obtain ⟨hb0, hb1, hbl, hz⟩ := rd_two hb; obtain ⟨⟨p0, p1, p2, p3, p4⟩, ⟨f0, f1, f2, f3, f4⟩, _⟩ := rd_facts hb0; have HBL := Lib.hid hbl; have HB0 := Lib.hid hb0; have HB1 := Lib.hid hb1; clear hb hb0 hb1 hbl))
  go_cut [] (fun wx => Blk wx w.heap.size #[.string s, .int .i64 n, .int .i64 (wrap64 (yes + 1)), .int .i64 no, .int .i64 fuse] 73 ∧ Blk wx (w.heap.size + 1) #[.string ⟨#[]⟩, .int .i64 0, .int .i64 0, .int .i64 0, .int .i64 0] 73 ∧ Below w.heap.size w wx)
  case first =>
    go_wp2_with fail
    go_meet
    exact ⟨(rd_fence HB0.out).alloc _, ((((HB1.out.far (by simp) _).far (by simp) _).far (by simp) _)).alloc _, (((HBL.out.setCell (by simp) _).setCell (by simp) _).setCell (by simp) _).alloc (by have := HBL.out.size; simp; omega) _⟩
  case rest =>
    obtain ⟨hb0, hb1, hbl⟩ := hcut
    clear p0 p1 p2 p3 p4 f0 f1 f2 f3 f4 HB0 HB1 HBL
    obtain ⟨⟨p0, p1, p2, p3, p4⟩, ⟨f0, f1, f2, f3, f4⟩, _⟩ := rd_facts hb0
    have HB0 := Lib.hid hb0
    have HB1 := Lib.hid hb1
    have HBL := Lib.hid hbl
    clear hb0 hb1 hbl
    go_upto_region 14 with fail
    go_wp2_with (first
      | (refine ev_load rfl 73 (.tmp 3) rfl w.heap.size rfl 73 #[.string (s ++ t), .int .i64 n, .int .i64 (wrap64 (yes + 1)), .int .i64 no, .int .i64 ((fuse : Int) - t.size)] _ (rd_f (rd_s HB0.out)) Try.underlying73 rfl (by kernel_rfl) ?_)
      | (refine ev_store rfl 73 (.tmp 6) (.tmp 64) rfl (w.heap.size + 1) #[.string (s ++ t), .int .i64 n, .int .i64 (wrap64 (yes + 1)), .int .i64 no, .int .i64 ((fuse : Int) - t.size)] rfl rfl 73 _ ((HB1.out.far (by simp) _).far (by simp) _) (by kernel_rfl) rfl (by simp [Value.oneCell']) ?_; intro w2 hb2 hc2 hz2; have HB2 := Lib.hid hb2; have HC2 := Lib.hid hc2; clear hb2 hc2 hz2))
    refine bodyPost_ret (res_ct (P := Try.prog) rfl _ (w.heap.size + 1) 73 #[.string (s ++ t), .int .i64 n, .int .i64 (wrap64 (yes + 1)), .int .i64 no, .int .i64 ((fuse : Int) - t.size)] _ rfl HB2.out Try.underlying73 rfl (by kernel_rfl)) rfl ?_
    exact ⟨rfl, Chg.belowOf ((HBL.out.setCell (by simp) _).setCell (by simp) _) HC2.out (fun k hk => by omega) (by have := HBL.out.size; simp; omega)⟩
set_option maxRecDepth 100000 in
set_option maxHeartbeats 800000 in
theorem ref38_trim_fence (s : ByteArray) (ep yes no fuse n : Int) (k : Int) (hn : n < 1 ∨ 4294967295 < n ∨ n < ep) (w : World) :
    Calls Try.prog 28 #[rdv s ep yes no fuse, .int .i64 n, .int .i64 k] w fun e w' => e = .returned (.tuple #[rdv s ep yes no fuse, .int .i64 11]) ∧ Below w.heap.size w w' := by
  unfold rdv
  have HN := Lib.hid hn
  clear hn
  have hu1 := Try.underlying73
  have hu2 := Try.underlying34
  go_enter Try.func28, Try.ntmps28
  go_wp2_with (first
    | (go_at_call 12; refine (ref17_no ep yes no n HN.out _).mono ?_; rintro e w1 ⟨rfl, hb⟩; obtain ⟨hb0, hb1, hbl, hz⟩ := rd_two hb; obtain ⟨⟨p0, p1, p2, p3, p4⟩, ⟨f0, f1, f2, f3, f4⟩, _⟩ := rd_facts hb0; have HBL := Lib.hid hbl; have HB0 := Lib.hid hb0; have HB1 := Lib.hid hb1; clear hb hb0 hb1 hbl)
    | (refine ev_load rfl 73 (.tmp 3) rfl w.heap.size rfl 73 #[.string s, .int .i64 ep, .int .i64 yes, .int .i64 no, .int .i64 fuse] _ (HB0.out.alloc _) Try.underlying73 rfl (by kernel_rfl) ?_)
    | (refine ev_store rfl 73 (.tmp 6) (.tmp 19) rfl (w.heap.size + 1) #[.string s, .int .i64 ep, .int .i64 yes, .int .i64 no, .int .i64 fuse] rfl rfl 73 _ (HB1.out.alloc _) (by kernel_rfl) rfl (by simp [Value.oneCell']) ?_; intro w2 hb2 hc2 hz2; have HB2 := Lib.hid hb2; have HC2 := Lib.hid hc2; clear hb2 hc2 hz2))
  refine bodyPost_ret (res_ct (P := Try.prog) rfl _ (w.heap.size + 1) 73 #[.string s, .int .i64 ep, .int .i64 yes, .int .i64 no, .int .i64 fuse] _ rfl HB2.out Try.underlying73 rfl (by kernel_rfl)) rfl ?_
  exact ⟨rfl, Chg.belowOf (HBL.out.alloc HBL.out.size _) HC2.out (fun k hk => by omega) (by have := HBL.out.size; simp; omega)⟩
set_option maxRecDepth 100000 in
set_option maxHeartbeats 800000 in
theorem ref38_trim_neg (s : ByteArray) (ep yes no fuse n : Int) (k : Int) (h1 : 1 ≤ n) (h2 : n ≤ 4294967295) (h3 : ep ≤ n) (hs : s.size ≤ 65536) (hk : k < 0) (w : World) :
    Calls Try.prog 28 #[rdv s ep yes no fuse, .int .i64 n, .int .i64 k] w fun e w' => e = .returned (.tuple #[rdv s n (wrap64 (yes + 1)) no fuse, .int .i64 1]) ∧ Below w.heap.size w w' := by
  unfold rdv
  have hu1 := Try.underlying73
  have hu2 := Try.underlying34
  go_enter Try.func28, Try.ntmps28
  go_upto_region 4 with ((go_at_call 12; refine (ref17_yes ep yes no n h1 h2 h3 _).mono ?_; rintro e w1 ⟨rfl, hb⟩; obtain ⟨hb0, hb1, hbl, hz⟩ := rd_two hb; obtain ⟨⟨p0, p1, p2, p3, p4⟩, ⟨f0, f1, f2, f3, f4⟩, _⟩ := rd_facts hb0; have HBL := Lib.hid hbl; have HB0 := Lib.hid hb0; have HB1 := Lib.hid hb1; clear hb hb0 hb1 hbl))
  go_cut [] (fun wx => Blk wx w.heap.size #[.string s, .int .i64 n, .int .i64 (wrap64 (yes + 1)), .int .i64 no, .int .i64 fuse] 73 ∧ Blk wx (w.heap.size + 1) #[.string ⟨#[]⟩, .int .i64 0, .int .i64 0, .int .i64 0, .int .i64 0] 73 ∧ Below w.heap.size w wx)
  case first =>
    go_wp2_with fail
    go_meet
    exact ⟨(rd_fence HB0.out).alloc _, ((((HB1.out.far (by simp) _).far (by simp) _).far (by simp) _)).alloc _, (((HBL.out.setCell (by simp) _).setCell (by simp) _).setCell (by simp) _).alloc (by have := HBL.out.size; simp; omega) _⟩
  case rest =>
    obtain ⟨hb0, hb1, hbl⟩ := hcut
    clear p0 p1 p2 p3 p4 f0 f1 f2 f3 f4 HB0 HB1 HBL
    obtain ⟨⟨p0, p1, p2, p3, p4⟩, ⟨f0, f1, f2, f3, f4⟩, _⟩ := rd_facts hb0
    have HB0 := Lib.hid hb0
    have HB1 := Lib.hid hb1
    have HBL := Lib.hid hbl
    clear hb0 hb1 hbl
    go_upto_region 6 with fail
    go_wp2_with (first
      | (refine ev_load rfl 73 (.tmp 3) rfl w.heap.size rfl 73 #[.string s, .int .i64 n, .int .i64 (wrap64 (yes + 1)), .int .i64 no, .int .i64 fuse] _ (HB0.out) Try.underlying73 rfl (by kernel_rfl) ?_)
      | (refine ev_store rfl 73 (.tmp 6) (.tmp 31) rfl (w.heap.size + 1) #[.string s, .int .i64 n, .int .i64 (wrap64 (yes + 1)), .int .i64 no, .int .i64 fuse] rfl rfl 73 _ (HB1.out) (by kernel_rfl) rfl (by simp [Value.oneCell']) ?_; intro w2 hb2 hc2 hz2; have HB2 := Lib.hid hb2; have HC2 := Lib.hid hc2; clear hb2 hc2 hz2))
    refine bodyPost_ret (res_ct (P := Try.prog) rfl _ (w.heap.size + 1) 73 #[.string s, .int .i64 n, .int .i64 (wrap64 (yes + 1)), .int .i64 no, .int .i64 fuse] _ rfl HB2.out Try.underlying73 rfl (by kernel_rfl)) rfl ?_
    exact ⟨rfl, Chg.belowOf (HBL.out) HC2.out (fun k hk => by omega) (by have := HBL.out.size; simp; omega)⟩
set_option maxRecDepth 100000 in
set_option maxHeartbeats 800000 in
theorem ref38_trim_far (s : ByteArray) (ep yes no fuse n : Int) (k : Int) (h1 : 1 ≤ n) (h2 : n ≤ 4294967295) (h3 : ep ≤ n) (hs : s.size ≤ 65536) (hk0 : 0 ≤ k) (hk : (s.size : Int) < k) (w : World) :
    Calls Try.prog 28 #[rdv s ep yes no fuse, .int .i64 n, .int .i64 k] w fun e w' => e = .returned (.tuple #[rdv s n (wrap64 (yes + 1)) no fuse, .int .i64 1]) ∧ Below w.heap.size w w' := by
  unfold rdv
  have hu1 := Try.underlying73
  have hu2 := Try.underlying34
  go_enter Try.func28, Try.ntmps28
  go_upto_region 4 with ((go_at_call 12; refine (ref17_yes ep yes no n h1 h2 h3 _).mono ?_; rintro e w1 ⟨rfl, hb⟩; obtain ⟨hb0, hb1, hbl, hz⟩ := rd_two hb; obtain ⟨⟨p0, p1, p2, p3, p4⟩, ⟨f0, f1, f2, f3, f4⟩, _⟩ := rd_facts hb0; have HBL := Lib.hid hbl; have HB0 := Lib.hid hb0; have HB1 := Lib.hid hb1; clear hb hb0 hb1 hbl))
  go_cut [] (fun wx => Blk wx w.heap.size #[.string s, .int .i64 n, .int .i64 (wrap64 (yes + 1)), .int .i64 no, .int .i64 fuse] 73 ∧ Blk wx (w.heap.size + 1) #[.string ⟨#[]⟩, .int .i64 0, .int .i64 0, .int .i64 0, .int .i64 0] 73 ∧ Below w.heap.size w wx)
  case first =>
    go_wp2_with fail
    go_meet
    exact ⟨(rd_fence HB0.out).alloc _, ((((HB1.out.far (by simp) _).far (by simp) _).far (by simp) _)).alloc _, (((HBL.out.setCell (by simp) _).setCell (by simp) _).setCell (by simp) _).alloc (by have := HBL.out.size; simp; omega) _⟩
  case rest =>
    obtain ⟨hb0, hb1, hbl⟩ := hcut
    clear p0 p1 p2 p3 p4 f0 f1 f2 f3 f4 HB0 HB1 HBL
    obtain ⟨⟨p0, p1, p2, p3, p4⟩, ⟨f0, f1, f2, f3, f4⟩, _⟩ := rd_facts hb0
    have HB0 := Lib.hid hb0
    have HB1 := Lib.hid hb1
    have HBL := Lib.hid hbl
    clear hb0 hb1 hbl
    go_upto_region 6 with fail
    go_wp2_with (first
      | (refine ev_load rfl 73 (.tmp 3) rfl w.heap.size rfl 73 #[.string s, .int .i64 n, .int .i64 (wrap64 (yes + 1)), .int .i64 no, .int .i64 fuse] _ (HB0.out) Try.underlying73 rfl (by kernel_rfl) ?_)
      | (refine ev_store rfl 73 (.tmp 6) (.tmp 31) rfl (w.heap.size + 1) #[.string s, .int .i64 n, .int .i64 (wrap64 (yes + 1)), .int .i64 no, .int .i64 fuse] rfl rfl 73 _ (HB1.out) (by kernel_rfl) rfl (by simp [Value.oneCell']) ?_; intro w2 hb2 hc2 hz2; have HB2 := Lib.hid hb2; have HC2 := Lib.hid hc2; clear hb2 hc2 hz2))
    refine bodyPost_ret (res_ct (P := Try.prog) rfl _ (w.heap.size + 1) 73 #[.string s, .int .i64 n, .int .i64 (wrap64 (yes + 1)), .int .i64 no, .int .i64 fuse] _ rfl HB2.out Try.underlying73 rfl (by kernel_rfl)) rfl ?_
    exact ⟨rfl, Chg.belowOf (HBL.out) HC2.out (fun k hk => by omega) (by have := HBL.out.size; simp; omega)⟩
theorem ref38_trim_out (s : ByteArray) (ep yes no fuse n : Int) (k : Int) (h1 : 1 ≤ n) (h2 : n ≤ 4294967295) (h3 : ep ≤ n) (hs : s.size ≤ 65536) (hk : k < 0 ∨ (s.size : Int) < k) (w : World) :
    Calls Try.prog 28 #[rdv s ep yes no fuse, .int .i64 n, .int .i64 k] w fun e w' => e = .returned (.tuple #[rdv s n (wrap64 (yes + 1)) no fuse, .int .i64 1]) ∧ Below w.heap.size w w' := by
  by_cases h0 : k < 0
  · exact ref38_trim_neg s ep yes no fuse n k h1 h2 h3 hs h0 w
  · exact ref38_trim_far s ep yes no fuse n k h1 h2 h3 hs (by omega) (by omega) w
set_option maxRecDepth 100000 in
set_option maxHeartbeats 800000 in
theorem ref38_trim_ok (s : ByteArray) (ep yes no fuse n : Int) (k : Nat) (h1 : 1 ≤ n) (h2 : n ≤ 4294967295) (h3 : ep ≤ n) (hs : s.size ≤ 65536) (hk : k ≤ s.size) (w : World) :
    Calls Try.prog 28 #[rdv s ep yes no fuse, .int .i64 n, .int .i64 k] w fun e w' => e = .returned (.tuple #[rdv (s.extract 0 k) n (wrap64 (yes + 1)) no fuse, .int .i64 0]) ∧ Below w.heap.size w w' := by
  have hk1 : (k : Int) ≤ (s.size : Int) := by omega
  have hk0 : (0 : Int) ≤ (k : Int) := by omega
  unfold rdv
  have hu1 := Try.underlying73
  have hu2 := Try.underlying34
  go_enter Try.func28, Try.ntmps28
  go_upto_region 4 with ((go_at_call 12; refine (ref17_yes ep yes no n h1 h2 h3 _).mono ?_; rintro e w1 ⟨rfl, hb⟩; obtain ⟨hb0, hb1, hbl, hz⟩ := rd_two hb; obtain ⟨⟨p0, p1, p2, p3, p4⟩, ⟨f0, f1, f2, f3, f4⟩, _⟩ := rd_facts hb0; have HBL := Lib.hid hbl; have HB0 := Lib.hid hb0; have HB1 := Lib.hid hb1; clear hb hb0 hb1 hbl))
  go_cut [] (fun wx => Blk wx w.heap.size #[.string s, .int .i64 n, .int .i64 (wrap64 (yes + 1)), .int .i64 no, .int .i64 fuse] 73 ∧ Blk wx (w.heap.size + 1) #[.string ⟨#[]⟩, .int .i64 0, .int .i64 0, .int .i64 0, .int .i64 0] 73 ∧ Below w.heap.size w wx)
  case first =>
    go_wp2_with fail
    go_meet
    exact ⟨(rd_fence HB0.out).alloc _, ((((HB1.out.far (by simp) _).far (by simp) _).far (by simp) _)).alloc _, (((HBL.out.setCell (by simp) _).setCell (by simp) _).setCell (by simp) _).alloc (by have := HBL.out.size; simp; omega) _⟩
  case rest =>
    obtain ⟨hb0, hb1, hbl⟩ := hcut
    clear p0 p1 p2 p3 p4 f0 f1 f2 f3 f4 HB0 HB1 HBL
    obtain ⟨⟨p0, p1, p2, p3, p4⟩, ⟨f0, f1, f2, f3, f4⟩, _⟩ := rd_facts hb0
    have HB0 := Lib.hid hb0
    have HB1 := Lib.hid hb1
    have HBL := Lib.hid hbl
    clear hb0 hb1 hbl
    go_upto_region 8 with fail
    go_wp2_with (first
      | (refine ev_load rfl 73 (.tmp 3) rfl w.heap.size rfl 73 #[.string (s.extract 0 k), .int .i64 n, .int .i64 (wrap64 (yes + 1)), .int .i64 no, .int .i64 fuse] _ (rd_s HB0.out) Try.underlying73 rfl (by kernel_rfl) ?_)
      | (refine ev_store rfl 73 (.tmp 6) (.tmp 37) rfl (w.heap.size + 1) #[.string (s.extract 0 k), .int .i64 n, .int .i64 (wrap64 (yes + 1)), .int .i64 no, .int .i64 fuse] rfl rfl 73 _ (HB1.out.far (by simp) _) (by kernel_rfl) rfl (by simp [Value.oneCell']) ?_; intro w2 hb2 hc2 hz2; have HB2 := Lib.hid hb2; have HC2 := Lib.hid hc2; clear hb2 hc2 hz2))
    refine bodyPost_ret (res_ct (P := Try.prog) rfl _ (w.heap.size + 1) 73 #[.string (s.extract 0 k), .int .i64 n, .int .i64 (wrap64 (yes + 1)), .int .i64 no, .int .i64 fuse] _ rfl HB2.out Try.underlying73 rfl (by kernel_rfl)) rfl ?_
    exact ⟨rfl, Chg.belowOf (HBL.out.setCell (by simp) _) HC2.out (fun k hk => by omega) (by have := HBL.out.size; simp; omega)⟩
end Go.Proofs.Ytdeeeoakdfldkaa
