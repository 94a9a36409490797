/-
  The walk of the statement DiskPlays.
-/
import Derived.Test.YtdeeeoakdfldkaaDiskTwo
import Derived.Test.YtdeeeoakdfldkaaFlat
namespace Go.Proofs.Ytdeeeoakdfldkaa
open Go.RowKit
set_option linter.unusedVariables false
set_option linter.unusedSimpArgs false

theorem two_new (w : World) : Two w w.heap.size (w.heap.size + 1) (fun _ => False) ((w.alloc (.cells #[.int .i64 0, .int .i64 0, .int .i64 0, .pointer none, .slice none 0 0, .bool false, .int .i64 0] 71)).alloc (.cells #[.int .i64 0, .int .i64 0, .int .i64 0, .pointer none, .slice none 0 0, .bool false, .int .i64 0] 71)) ds0 ds0 := by
  have h1 := dsk_new w.heap.size w
  have h2 := dsk_new w.heap.size (w.alloc (.cells #[.int .i64 0, .int .i64 0, .int .i64 0, .pointer none, .slice none 0 0, .bool false, .int .i64 0] 71))
  rw [World.size_alloc] at h2
  refine ⟨_, _, ⟨Dsk.below h1 ((Below.refl _ _).alloc (Nat.le_refl _) _) (Nat.le_refl _), h2, ((Below.refl _ _).alloc (Nat.le_refl _) _).alloc (by simp) _, Nat.le_refl _, by omega, by omega, ?_, by simp [Value.ownBlock], by simp [Value.ownBlock], fun k hk => hk.elim⟩⟩
  intro k hk
  simp [Value.ownBlock] at hk

theorem after_ref {w wr w3 w4 : World} {b1 b2 g : Nat} {R : Nat → Prop} {d1 d2 : DS} {o : Obj} (h : Two w b1 b2 R wr d1 d2) (hb : Below wr.heap.size wr w3) (hc : Chg (fun k => k = g) (w3.alloc o) w4) (hg : R g) (hB : w.heap.size ≤ g) : Two w b1 b2 R w4 d1 d2 :=
  Two.chg (Two.below (R' := R) (Two.below (R' := R) h hb (fun k hk => .inl hk)) ((Below.refl _ _).alloc (Nat.le_refl _) o) (fun k hk => .inl hk)) hg hc hB

set_option maxRecDepth 100000 in
theorem plays_awake (l : Option Addr) (len cap : Nat) (w : World) (h0 : len ≤ maxLen) (hbig : 80 < len) :
    Calls Try.prog 7 #[.slice l len cap] w fun e w' => e = .returned (.bool true) ∧ Below w.heap.size w w' := by
  unfold maxLen at h0
  go_enter Try.func7, Try.ntmps7
  go_wp2_with (go_at_call 23; refine (awake38 _).mono ?_; rintro e w' ⟨rfl, hb⟩)
  go_ret
  exact ⟨rfl, hb⟩

set_option maxRecDepth 100000 in
set_option maxHeartbeats 4000000 in
theorem walk_DiskPlays (l : Option Addr) (len cap : Nat) (w : World) (w1 : IsFlat [.int .i64, .int .i64, .int .i64, .str] w l len cap) :
    Calls Try.prog 7 #[.slice l len cap] w fun e w' => e = .returned (.bool true) ∧ Below w.heap.size w w' := by
  have hl0 : len ≤ maxLen := by
    rcases isFlat_cases (by decide) w1 with h | ⟨_, _, _, _, h, _⟩
    · unfold maxLen; omega
    · exact h
  by_cases hbig : 80 < len
  · exact plays_awake l len cap w hl0 hbig
  have h80 : len ≤ 80 := by omega
  have hu76 := Try.underlying76
  have hu73 := Try.underlying73
  have hu34 := Try.underlying34
  have NW := fun w => ref38_new w
  simp only [rdv] at NW
  have NW := Lib.hid NW
  clear hbig
  go_enter Try.func7, Try.ntmps7
  go_wp2_with fail
  refine (disk_new _).mono ?_
  rintro e w2 ⟨rfl, rfl⟩
  have S0 := Lib.hid (two_new w)
  go_wp2_with (go_at_call 25; refine (NW.out _).mono ?_; rintro e wB ⟨rfl, hb⟩; have S1 := Lib.hid (Two.below (R' := fun _ => False) S0.out hb (fun k hk => hk.elim)); clear hb)
  obtain ⟨bx, hbx⟩ : ∃ bx, bx = wB.heap.size := ⟨_, rfl⟩
  have hxB : w.heap.size ≤ bx := by rw [hbx]; exact S1.out.bel.size
  have S2 : Hid (Two w w.heap.size (w.heap.size + 1) (fun k => k = bx) (wB.alloc (.cells #[.string ⟨#[]⟩, .int .i64 0, .int .i64 0, .int .i64 0, .int .i64 (-1)] 73)) ds0 ds0) := Lib.hid (Two.below S1.out ((Below.refl _ _).alloc (Nat.le_refl _) _) (fun k hk => .inr (by rw [hk, hbx]; simp)))
  have BX : Hid (Blk (wB.alloc (.cells #[.string ⟨#[]⟩, .int .i64 0, .int .i64 0, .int .i64 0, .int .i64 (-1)] 73)) bx #[.string ⟨#[]⟩, .int .i64 0, .int .i64 0, .int .i64 0, .int .i64 (-1)] 73) := Lib.hid (by rw [hbx]; exact Blk.new wB _ _)
  rw [← hbx]
  have HBX := Lib.hid hbx
  clear hbx
  go_loopg [7] len (fun g i wr => ∃ (j : Nat) (d : DS) (no fu : Int), j ≤ len ∧ g = len - j ∧ i = .int .i64 j ∧ DOk d ∧ Rel d fu ∧ Two w w.heap.size (w.heap.size + 1) (fun k => k = bx) wr d d ∧ Blk wr bx #[.string d.s, .int .i64 d.ep, .int .i64 d.yes, .int .i64 no, .int .i64 fu] 73)
  case atStart => exact ⟨0, ds0, 0, -1, by omega, rfl, rfl, ds0_ok, Rel.zero, S2.out, BX.out⟩
  case round =>
    obtain ⟨j, d, no, fu, hj, hg, rfl, hok, hrel', htwo, hbx⟩ := hrel
    have hg := hg.symm
    subst hg
    have HOK := Lib.hid hok
    have HREL := Lib.hid hrel'
    have HT := Lib.hid htwo
    have HX := Lib.hid hbx
    have HBL := Lib.hid htwo.bel
    clear hok hrel' htwo hbx S0 S1 S2 BX HBX NW
    by_cases hlt : j < len
    · rcases isFlat_cases (by decide) w1 with h0 | ⟨b0, off, rfl, hpos, hmax, hcap, hlb, hcell⟩
      · omega
      obtain ⟨v0, hv0, k0, rfl, wf0⟩ := hcell j hlt 0 _ rfl
      obtain ⟨v1, hv1, k1, rfl, wf1⟩ := hcell j hlt 1 _ rfl
      obtain ⟨v2, hv2, k2, rfl, wf2⟩ := hcell j hlt 2 _ rfl
      obtain ⟨v3, hv3, t, rfl, wt⟩ := hcell j hlt 3 _ rfl
      have hv0 : wr.cell? ⟨b0, off + j * 4, none⟩ = some (.int .i64 k0) := keepB HBL.out hv0 hlb
      have hv1 : wr.cell? ⟨b0, off + j * 4 + 1, none⟩ = some (.int .i64 k1) := keepB HBL.out hv1 hlb
      have hv2 : wr.cell? ⟨b0, off + j * 4 + 2, none⟩ = some (.int .i64 k2) := keepB HBL.out hv2 hlb
      have hv3 : wr.cell? ⟨b0, off + j * 4 + 3, none⟩ = some (.string t) := keepB HBL.out hv3 hlb
      have htm : t.size ≤ 9223372036854775807 := by unfold maxLen at wt; omega
      have hk2 := bounds_i64 wf2
      clear wf0 wf1 wf2 wt hcell
      by_cases h200 : 200 < t.size
      · go_wp2_with (go_at_call 23; refine (awake38 _).mono ?_; rintro e w' ⟨rfl, hb'⟩)
        go_ret
        exact ⟨rfl, (HBL.out.alloc HBL.out.size _).trans (hb'.mono (by have := HBL.out.size; simp; omega))⟩
      go_upto_block 2 with fail
      have hgx : ¬ wr.heap.size = bx := by have := HX.out.lt; omega
      obtain ⟨R, hR⟩ : ∃ R : Nat → Prop, R = fun k => k = bx ∨ k = wr.heap.size := ⟨_, rfl⟩
      have HT1 : Hid (Two w w.heap.size (w.heap.size + 1) R (wr.alloc (.cells #[.int .i64 k0, .int .i64 k1, .int .i64 k2, .string t] 76)) d d) := Lib.hid (Two.below HT.out ((Below.refl _ _).alloc (Nat.le_refl _) _) (fun k hk => by rw [hR] at hk; exact hk.imp id (fun e => ⟨by omega, by rw [e]; simp⟩)))
      have HX1 : Hid (Blk (wr.alloc (.cells #[.int .i64 k0, .int .i64 k1, .int .i64 k2, .string t] 76)) bx #[.string d.s, .int .i64 d.ep, .int .i64 d.yes, .int .i64 no, .int .i64 fu] 73) := Lib.hid (HX.out.alloc _)
      have HG1 : Hid (Blk (wr.alloc (.cells #[.int .i64 k0, .int .i64 k1, .int .i64 k2, .string t] 76)) wr.heap.size #[.int .i64 k0, .int .i64 k1, .int .i64 k2, .string t] 76) := Lib.hid (Blk.new wr _ _)
      subst hR
      go_cut [] (fun wx => ∃ (d' : DS) (no' fu' : Int), DOk d' ∧ Rel d' fu' ∧ Two w w.heap.size (w.heap.size + 1) (fun k => k = bx) wx d' d' ∧ Blk wx bx #[.string d'.s, .int .i64 d'.ep, .int .i64 d'.yes, .int .i64 no', .int .i64 fu'] 73)
      case first =>
        clear hv0 hv1 hv2 hv3
        by_cases hk1 : k0 = 1
        · subst hk1
          obtain ⟨no', fu', rel', F⟩ := refA d no fu k1 t HOK.out HREL.out (by omega)
          have ok' := appD_ok d k1 t HOK.out
          have C1 := fun (wx : World) h => two_append w w.heap.size (w.heap.size + 1) (fun k => k = bx ∨ k = wr.heap.size) d d k1 t HOK.out (by omega) wx h
          have C2 := fun (wx : World) (d' : DS) h => two_append w (w.heap.size + 1) w.heap.size (fun k => k = bx ∨ k = wr.heap.size) d d' k1 t HOK.out (by omega) wx h
          generalize hd' : (appD d k1 t).1 = d' at F rel' ok' C1 C2
          generalize hc' : (appD d k1 t).2 = c at F C1 C2
          clear hd' hc'
          simp only [rdv] at F
          have F := Lib.hid F
          have C1 := Lib.hid C1
          have C2 := Lib.hid C2
          have OK' := Lib.hid ok'
          have REL' := Lib.hid rel'
          clear ok' rel'
          go_upto_region 17 with fail
          go_wp2_with (first
            | (refine ev_load rfl 73 (.tmp 6) rfl bx rfl 73 #[.string d.s, .int .i64 d.ep, .int .i64 d.yes, .int .i64 no, .int .i64 fu] _ HX1.out Try.underlying73 rfl (by kernel_rfl) ?_)
            | (go_at_call 26; refine (F.out _).mono ?_; rintro e w3 ⟨rfl, hb3⟩; have HB3 := Lib.hid hb3; have cg1 : w3.cell? ⟨wr.heap.size, 1, none⟩ = some (.int .i64 k1) := (HG1.out.below hb3 HG1.out.lt).cell rfl; have cg3 : w3.cell? ⟨wr.heap.size, 3, none⟩ = some (.string t) := (HG1.out.below hb3 HG1.out.lt).cell rfl; clear hb3)
            | (refine ev_load rfl 73 (.tmp 9) rfl w3.heap.size rfl 73 #[.string d'.s, .int .i64 d'.ep, .int .i64 d'.yes, .int .i64 no', .int .i64 fu'] _ (Blk.new w3 _ _) Try.underlying73 rfl (by kernel_rfl) ?_)
            | (refine ev_store rfl 73 (.tmp 6) (.tmp 72) rfl bx #[.string d'.s, .int .i64 d'.ep, .int .i64 d'.yes, .int .i64 no', .int .i64 fu'] rfl rfl 73 _ ((HX1.out.below HB3.out HX1.out.lt).alloc _) (by kernel_rfl) rfl (by simp [Value.oneCell']) ?_; intro w4 hb4 hc4 hz4; have HX4 := Lib.hid hb4; have HC4 := Lib.hid hc4; clear hb4 hc4 hz4 cg1 cg3; have HT4 := Lib.hid (after_ref HT1.out HB3.out HC4.out (.inl rfl) hxB); have HG4 := Lib.hid (((HG1.out.below HB3.out HG1.out.lt).alloc _).chg HC4.out (fun e => hgx e)); have cg1 := HG4.out.cell (i := 1) rfl; have cg3 := HG4.out.cell (i := 3) rfl))
          refine (C1.out _ HT4.out).mono ?_
          rintro e w5 ⟨rfl, ht5, hs5⟩
          have HT5 := Lib.hid ht5
          have HG5 := Lib.hid ((hs5 _ (.inr rfl)).trans HG4.out)
          have HX5 := Lib.hid ((hs5 _ (.inl rfl)).trans HX4.out)
          clear ht5 hs5 cg1 cg3
          have cg1 := Blk.cell HG5.out (i := 1) rfl
          have cg3 := Blk.cell HG5.out (i := 3) rfl
          go_wp2_with fail
          refine (C2.out _ d' HT5.out.swap).mono ?_
          rintro e w6 ⟨rfl, ht6, hs6⟩
          have HT6 := Lib.hid ht6.swap
          have HG6 := Lib.hid ((hs6 _ (.inr rfl)).trans HG5.out)
          have HX6 := Lib.hid ((hs6 _ (.inl rfl)).trans HX5.out)
          clear ht6 hs6 cg1 cg3
          have cg1 := Blk.cell HG6.out (i := 1) rfl
          have cg3 := Blk.cell HG6.out (i := 3) rfl
          go_wp2_with fail
          refine (disk_nil_append k1 t _).mono ?_
          rintro e w7 ⟨rfl, rfl⟩
          go_wp2_with fail
          go_meet
          exact ⟨d', no', fu', OK'.out, REL'.out, Two.below HT6.out (Below.refl _ _) (fun k hk => .inl (.inl hk)), HX6.out⟩
        by_cases hk2 : k0 = 2
        · subst hk2
          clear hk1
          obtain ⟨no', fu', rel', F⟩ := refT d no fu k1 k2 HOK.out HREL.out
          have ok' := trimD_ok d k1 k2 HOK.out
          have C1 := fun (wx : World) h => two_trim w w.heap.size (w.heap.size + 1) (fun k => k = bx ∨ k = wr.heap.size) d d k1 k2 HOK.out wx h
          have C2 := fun (wx : World) (d' : DS) h => two_trim w (w.heap.size + 1) w.heap.size (fun k => k = bx ∨ k = wr.heap.size) d d' k1 k2 HOK.out wx h
          generalize hd' : (trimD d k1 k2).1 = d' at F rel' ok' C1 C2
          generalize hc' : (trimD d k1 k2).2 = c at F C1 C2
          clear hd' hc'
          simp only [rdv] at F
          have F := Lib.hid F
          have C1 := Lib.hid C1
          have C2 := Lib.hid C2
          have OK' := Lib.hid ok'
          have REL' := Lib.hid rel'
          clear ok' rel'
          go_upto_region 22 with fail
          go_wp2_with (first
            | (refine ev_load rfl 73 (.tmp 6) rfl bx rfl 73 #[.string d.s, .int .i64 d.ep, .int .i64 d.yes, .int .i64 no, .int .i64 fu] _ HX1.out Try.underlying73 rfl (by kernel_rfl) ?_)
            | (go_at_call 28; refine (F.out _).mono ?_; rintro e w3 ⟨rfl, hb3⟩; have HB3 := Lib.hid hb3; have cg1 : w3.cell? ⟨wr.heap.size, 1, none⟩ = some (.int .i64 k1) := (HG1.out.below hb3 HG1.out.lt).cell rfl; have cg3 : w3.cell? ⟨wr.heap.size, 2, none⟩ = some (.int .i64 k2) := (HG1.out.below hb3 HG1.out.lt).cell rfl; clear hb3)
            | (refine ev_load rfl 73 (.tmp 11) rfl w3.heap.size rfl 73 #[.string d'.s, .int .i64 d'.ep, .int .i64 d'.yes, .int .i64 no', .int .i64 fu'] _ (Blk.new w3 _ _) Try.underlying73 rfl (by kernel_rfl) ?_)
            | (refine ev_store rfl 73 (.tmp 6) (.tmp 111) rfl bx #[.string d'.s, .int .i64 d'.ep, .int .i64 d'.yes, .int .i64 no', .int .i64 fu'] rfl rfl 73 _ ((HX1.out.below HB3.out HX1.out.lt).alloc _) (by kernel_rfl) rfl (by simp [Value.oneCell']) ?_; intro w4 hb4 hc4 hz4; have HX4 := Lib.hid hb4; have HC4 := Lib.hid hc4; clear hb4 hc4 hz4 cg1 cg3; have HT4 := Lib.hid (after_ref HT1.out HB3.out HC4.out (.inl rfl) hxB); have HG4 := Lib.hid (((HG1.out.below HB3.out HG1.out.lt).alloc _).chg HC4.out (fun e => hgx e)); have cg1 := HG4.out.cell (i := 1) rfl; have cg3 := HG4.out.cell (i := 2) rfl))
          refine (C1.out _ HT4.out).mono ?_
          rintro e w5 ⟨rfl, ht5, hs5⟩
          have HT5 := Lib.hid ht5
          have HG5 := Lib.hid ((hs5 _ (.inr rfl)).trans HG4.out)
          have HX5 := Lib.hid ((hs5 _ (.inl rfl)).trans HX4.out)
          clear ht5 hs5 cg1 cg3
          have cg1 := Blk.cell HG5.out (i := 1) rfl
          have cg3 := Blk.cell HG5.out (i := 2) rfl
          go_wp2_with fail
          refine (C2.out _ d' HT5.out.swap).mono ?_
          rintro e w6 ⟨rfl, ht6, hs6⟩
          have HT6 := Lib.hid ht6.swap
          have HG6 := Lib.hid ((hs6 _ (.inr rfl)).trans HG5.out)
          have HX6 := Lib.hid ((hs6 _ (.inl rfl)).trans HX5.out)
          clear ht6 hs6 cg1 cg3
          have cg1 := Blk.cell HG6.out (i := 1) rfl
          have cg3 := Blk.cell HG6.out (i := 2) rfl
          go_wp2_with fail
          refine (disk_nil_trim k1 k2 _).mono ?_
          rintro e w7 ⟨rfl, rfl⟩
          go_wp2_with fail
          go_meet
          exact ⟨d', no', fu', OK'.out, REL'.out, Two.below HT6.out (Below.refl _ _) (fun k hk => .inl (.inl hk)), HX6.out⟩
        · have hd1 : (k0 == 1) = false := by simpa using hk1
          have hd2 : (k0 == 2) = false := by simpa using hk2
          clear hk1 hk2
          go_upto_region 13 with fail
          go_cut [] (fun wx => Two w w.heap.size (w.heap.size + 1) (fun k => k = bx ∨ k = wr.heap.size) wx d d ∧ Blk wx bx #[.string d.s, .int .i64 d.ep, .int .i64 d.yes, .int .i64 no, .int .i64 (max k2 (-1))] 73 ∧ Blk wx wr.heap.size #[.int .i64 k0, .int .i64 k1, .int .i64 k2, .string t] 76)
          case first =>
            have c4 : wr.cell? ⟨bx, 4, none⟩ = some (.int .i64 fu) := HX.out.cell rfl
            have f4 := HX.out.free 4
            have hbl := HX.out.lt
            obtain ⟨m, hm, hmx⟩ : ∃ m, max k2 (-1) = m ∧ ((k2 < -1 ∧ m = -1) ∨ (-1 ≤ k2 ∧ m = k2)) := ⟨_, rfl, by omega⟩
            have HM := Lib.hid hm
            have HW : Hid (∀ m, Two w w.heap.size (w.heap.size + 1) (fun k => k = bx ∨ k = wr.heap.size) ((wr.setCell ⟨bx, 4, none⟩ (.int .i64 m)).alloc (.cells #[.int .i64 k0, .int .i64 k1, .int .i64 k2, .string t] 76)) d d ∧ Blk ((wr.setCell ⟨bx, 4, none⟩ (.int .i64 m)).alloc (.cells #[.int .i64 k0, .int .i64 k1, .int .i64 k2, .string t] 76)) bx #[.string d.s, .int .i64 d.ep, .int .i64 d.yes, .int .i64 no, .int .i64 m] 73 ∧ Blk ((wr.setCell ⟨bx, 4, none⟩ (.int .i64 m)).alloc (.cells #[.int .i64 k0, .int .i64 k1, .int .i64 k2, .string t] 76)) wr.heap.size #[.int .i64 k0, .int .i64 k1, .int .i64 k2, .string t] 76) := Lib.hid (fun m => by
              refine ⟨Two.below (Two.chg HT.out (g := bx) rfl (Chg.set (S := fun k => k = bx) (Chg.refl _ _) (p := ⟨bx, 4, none⟩) rfl _) hxB) ((Below.refl _ _).alloc (Nat.le_refl _) _) (fun k hk => hk.imp id (fun e => ⟨by simp; omega, by rw [e]; simp⟩)), (HX.out.set 4 _).alloc _, ?_⟩
              have := Blk.new (wr.setCell ⟨bx, 4, none⟩ (.int .i64 m)) #[.int .i64 k0, .int .i64 k1, .int .i64 k2, .string t] 76
              simpa using this)
            clear hm
            rcases hmx with ⟨hlt2, rfl⟩ | ⟨hge, rfl⟩
            all_goals
              go_wp2_with fail
              go_meet
              rw [HM.out]
              exact HW.out _
          case rest =>
            obtain ⟨ht4, hx4, hg4⟩ := hcut
            have HT4 := Lib.hid ht4
            have HX4 := Lib.hid hx4
            have HG4 := Lib.hid hg4
            have cg2 := Blk.cell HG4.out (i := 2) rfl
            clear ht4 hx4 hg4
            go_wp2_with fail
            refine (two_fuse w w.heap.size (w.heap.size + 1) (fun k => k = bx ∨ k = wr.heap.size) d d k2 _ HT4.out).mono ?_
            rintro e w5 ⟨rfl, ht5, hs5⟩
            have HT5 := Lib.hid ht5
            have HG5 := Lib.hid ((hs5 _ (.inr rfl)).trans HG4.out)
            have HX5 := Lib.hid ((hs5 _ (.inl rfl)).trans HX4.out)
            clear ht5 hs5 cg2
            have cg2 := Blk.cell HG5.out (i := 2) rfl
            go_wp2_with fail
            refine (two_fuse w (w.heap.size + 1) w.heap.size (fun k => k = bx ∨ k = wr.heap.size) d (fuseD d k2) k2 _ HT5.out.swap).mono ?_
            rintro e w6 ⟨rfl, ht6, hs6⟩
            have HT6 := Lib.hid ht6.swap
            have HG6 := Lib.hid ((hs6 _ (.inr rfl)).trans HG5.out)
            have HX6 := Lib.hid ((hs6 _ (.inl rfl)).trans HX5.out)
            clear ht6 hs6 cg2
            have cg2 := Blk.cell HG6.out (i := 2) rfl
            go_wp2_with fail
            refine (disk_nil_fuse k2 _).mono ?_
            rintro e w7 ⟨rfl, rfl⟩
            go_wp2_with fail
            go_meet
            refine ⟨fuseD d k2, no, max k2 (-1), fuseD_ok _ _ hk2.2 HOK.out, refF d fu k2 hk2.2, Two.below HT6.out (Below.refl _ _) (fun k hk => .inl (.inl hk)), ?_⟩
            have e1 : (fuseD d k2).s = d.s ∧ (fuseD d k2).ep = d.ep ∧ (fuseD d k2).yes = d.yes := by unfold fuseD; split <;> exact ⟨rfl, rfl, rfl⟩
            rw [e1.1, e1.2.1, e1.2.2]
            exact HX6.out
      case rest =>
        obtain ⟨d', no', fu', ok', rel', ht4, hx4⟩ := hcut
        have HT4 := Lib.hid ht4
        have HX4 := Lib.hid hx4
        have OK' := Lib.hid ok'
        have REL' := Lib.hid rel'
        clear ht4 hx4 ok' rel' hv0 hv1 hv2 hv3 HT1 HX1 HG1
        go_upto_region 26 with fail
        have x0 := Blk.cell HX4.out (i := 0) rfl
        have x1 := Blk.cell HX4.out (i := 1) rfl
        have hs63 : d'.s.size ≤ 9223372036854775807 := by have := OK'.out.1; omega
        go_region_held3 (fun w' => w'.cell? ⟨bx, 0, none⟩ = some (.string d'.s) ∧ w'.cell? ⟨bx, 1, none⟩ = some (.int .i64 d'.ep))
          ((first | exact ⟨Blk.cell HX7.out (i := 0) rfl, Blk.cell HX7.out (i := 1) rfl⟩ | exact ⟨Blk.cell HX6.out (i := 0) rfl, Blk.cell HX6.out (i := 1) rfl⟩ | exact ⟨Blk.cell HX5.out (i := 0) rfl, Blk.cell HX5.out (i := 1) rfl⟩ | exact ⟨Blk.cell HX4.out (i := 0) rfl, Blk.cell HX4.out (i := 1) rfl⟩ | exact ⟨Blk.cell HX4.out.drew (i := 0) rfl, Blk.cell HX4.out.drew (i := 1) rfl⟩))
          ((first
          | (go_at_call_of 31 (Value.pointer (some ⟨w.heap.size, 0, none⟩)); refine (two_read w w.heap.size (w.heap.size + 1) (fun k => k = bx) d' d' _ (Two.below HT4.out ((Below.refl _ _).drew) (fun k hk => .inl hk))).mono ?_; rintro e w5 ⟨rfl, ht5, hs5⟩; have HT5 := Lib.hid ht5; have HX5 := Lib.hid ((hs5 _ rfl).trans HX4.out); clear ht5 hs5)
          | (go_at_call 31; refine (two_read w (w.heap.size + 1) w.heap.size (fun k => k = bx) d' d' _ HT5.out.swap).mono ?_; rintro e w6 ⟨rfl, ht6, hs6⟩; have HT6 := Lib.hid ht6.swap; have HX6 := Lib.hid ((hs6 _ rfl).trans HX5.out); clear ht6 hs6)
          | (go_at_call 32; refine (two_len w w.heap.size (w.heap.size + 1) (fun k => k = bx) d' d' _ HT6.out).mono ?_; rintro e w7 ⟨rfl, ht7, hs7⟩; have HT7 := Lib.hid ht7; have HX7 := Lib.hid ((hs7 _ rfl).trans HX6.out); clear ht7 hs7)
          | (go_at_call 33; refine (two_epoch w w.heap.size (w.heap.size + 1) (fun k => k = bx) d' d' _ HT7.out).mono ?_; rintro e w8 ⟨rfl, rfl⟩)))
        all_goals
          go_wp2_with fail
          go_roundg (len - (j + 1))
          case measure => omega
          case rel => exact ⟨j + 1, d', no', fu', by omega, rfl, by go_num, OK'.out, REL'.out, HT7.out, HX7.out⟩
    · obtain rfl : j = len := by omega
      go_wp2_with (first
        | (go_at_call 31; refine (disk_nil_read _).mono ?_; rintro e w5 ⟨rfl, rfl⟩)
        | (go_at_call 32; refine (disk_nil_len _).mono ?_; rintro e w6 ⟨rfl, rfl⟩)
        | (go_at_call 33; refine (disk_nil_epoch _).mono ?_; rintro e w7 ⟨rfl, rfl⟩)
        | (go_at_call 23; refine (awake38 _).mono ?_; rintro e w8 ⟨rfl, hb8⟩))
      go_ret
      exact ⟨rfl, HBL.out.trans (hb8.mono HBL.out.size)⟩
end Go.Proofs.Ytdeeeoakdfldkaa
