/-
  The walk of the statement ClockGoes.
-/
import Derived.Test.YtdeeeoakdfldkaaClock
namespace Go.Proofs.Ytdeeeoakdfldkaa
open Go.RowKit
set_option linter.unusedVariables false
set_option linter.unusedSimpArgs false

/-- The reference's clock in block b. -/
def RefClk (w : World) (b : Nat) (n : Int) (off : Bool) : Prop :=
  (w.cell? ⟨b, 0, none⟩ = some (.int .i64 n) ∧ w.cell? ⟨b, 1, none⟩ = some (.bool off)) ∧ w.frozen? ⟨b, 0, none⟩ = false ∧ w.frozen? ⟨b, 1, none⟩ = false

/-- Whether it is stopped, as a number. -/
def offI (off : Bool) : Int := if off then 1 else 0
theorem offI_or (off : Bool) : offI off = 0 ∨ offI off = 1 := by cases off <;> simp [offI]

/-- The tick behind a tick. -/
def tk (off : Bool) (n x : Int) : Int := if offI off = 0 then laterI n x else n
theorem ref14_tk (n x : Int) (off : Bool) (w : World) :
    Calls Try.prog 19 #[.agg #[.int .i64 n, .bool off], .int .i64 x] w fun e w' => e = .returned (.agg #[.int .i64 (tk off n x), .bool off]) ∧ Below w.heap.size w w' := ref14_tick n x off w
theorem tick_tk (b : Nat) (n x : Int) (off : Bool) (w : World) (hk : Clk w b n (offI off)) :
    Calls Try.prog 20 #[.pointer (some ⟨b, 0, none⟩), .int .i64 x] w fun e w' => e = .returned (.int .i64 (tk off n x)) ∧ Clk w' b (tk off n x) (offI off) ∧ w.grownBy w' (some b) := tick_any b n x (offI off) (offI_or off) w hk

theorem refClk_gby {w w1 : World} {b g : Nat} {n : Int} {off : Bool} (h : RefClk w b n off) (hb : w.grownBy w1 (some g)) (hne : ¬ b = g) : RefClk w1 b n off := by
  have hlt : b < w.heap.size := World.block_lt_of_cell? w _ h.1.1
  obtain ⟨⟨h0, h1⟩, f0, f1⟩ := h
  obtain ⟨c, f⟩ := gcell hb
  exact ⟨⟨(c _ _ hlt hne).trans h0, (c _ _ hlt hne).trans h1⟩, (f _ _ hlt hne).trans f0, (f _ _ hlt hne).trans f1⟩
theorem refClk_below {w w1 : World} {b : Nat} {n : Int} {off : Bool} (h : RefClk w b n off) (hb : Below w.heap.size w w1) : RefClk w1 b n off := by
  have hlt : b < w.heap.size := World.block_lt_of_cell? w _ h.1.1
  obtain ⟨⟨h0, h1⟩, f0, f1⟩ := h
  exact ⟨⟨keepB hb h0 hlt, keepB hb h1 hlt⟩, (hb.frozen hlt).trans f0, (hb.frozen hlt).trans f1⟩
theorem refClk_stop {w : World} {b : Nat} {n : Int} {off : Bool} (h : RefClk w b n off) : RefClk (w.setCell ⟨b, 1, none⟩ (.bool true)) b n true := by
  obtain ⟨⟨h0, h1⟩, f0, f1⟩ := h
  unfold RefClk; go_simp
theorem refClk_set {w : World} {b : Nat} {n : Int} {off : Bool} (h : RefClk w b n off) (m : Int) : RefClk ((w.setCell ⟨b, 0, none⟩ (.int .i64 m)).setCell ⟨b, 1, none⟩ (.bool off)) b m off := by
  obtain ⟨⟨h0, h1⟩, f0, f1⟩ := h
  unfold RefClk; go_simp

set_option maxRecDepth 100000 in
set_option maxHeartbeats 3200000 in
theorem walk_ClockGoes (a0 : Option Addr) (len0 cap0 : Nat) (z0 : List Int) (st : Int) (w : World) (w0 : IsInts .i64 w a0 len0 cap0 z0) (w1 : (Lit.int .u64 st).wf = true) :
    Calls Try.prog 5 #[.slice a0 len0 cap0, .int .u64 st] w fun e w' => e = .returned (.bool true) ∧ Below w.heap.size w w' := by
  by_cases hbig : 60 < len0
  · clear w0
    go_enter Try.func5, Try.ntmps5
    go_wp2_with (go_at_call 16; refine (awake14 _).mono ?_; rintro e w' ⟨rfl, hb⟩)
    go_ret
    exact ⟨rfl, hb⟩
  have hin : ∀ i, i < len0 → ∃ b off, a0 = some ⟨b, off, none⟩ ∧ b < w.heap.size ∧ w.cell? ⟨b, off + i, none⟩ = some (.int .i64 (z0.getD i 0)) ∧ (Lit.int .i64 (z0.getD i 0)).wf = true := by
    intro i hi
    rcases isInts_cases w0 with h | ⟨b, off, rfl, _, _, _, hb, hc, hw⟩
    · omega
    · exact ⟨b, off, rfl, hb, hc i hi, hw i hi⟩
  clear w0
  have HIN := Lib.hid hin
  clear hin
  go_enter Try.func5, Try.ntmps5
  go_wp2_with (go_at_call 17; refine (clock_new _).mono ?_; rintro e w' ⟨rfl, rfl⟩)
  go_loopg [8] len0 (fun g i wr => ∃ (k : Nat) (n : Int) (off : Bool), k ≤ len0 ∧ g = len0 - k ∧ i = .int .i64 k ∧ Clk wr w.heap.size n (offI off) ∧ Clk wr (w.heap.size + 1) n (offI off) ∧ RefClk wr (w.heap.size + 2) n off ∧ w.heap.size + 2 < wr.heap.size ∧ Below w.heap.size w wr)
  case atStart =>
    refine ⟨0, 0, false, Nat.zero_le _, rfl, rfl, ?_, ?_, ?_, by simp, ?_⟩
    · simp only [offI]; unfold Clk; go_simp
    · simp only [offI]; unfold Clk; go_simp
    · unfold RefClk; go_simp
    · go_grown
  case round =>
    obtain ⟨k, n, off, hk, rfl, rfl, hc1, hc2, hrf, hsz, hbl⟩ := hrel
    have hnot : ∀ (x : Bool) (w : World), (Op.unary .not (.bool x)).run Try.prog w = .ok (.bool (!x)) w := fun _ _ => rfl
    by_cases hlt : k < len0
    · obtain ⟨b, o, rfl, hb, hc, hw⟩ := HIN.out k hlt
      have hcr : wr.cell? ⟨b, o + k, none⟩ = some (.int .i64 (z0.getD k 0)) := by rw [hbl.cell hb]; exact hc
      have hk1 : (0 : Int) ≤ (k : Int) := by omega
      have hk2 : (k : Int) < (len0 : Int) := by omega
      generalize z0.getD k 0 = x at hcr hc hw
      clear hc
      have HC1 := Lib.hid hc1
      have HC2 := Lib.hid hc2
      have HRF := Lib.hid hrf
      clear hc1 hc2
      obtain ⟨⟨r0, r1⟩, q0, q1⟩ := hrf
      have hbr : b < wr.heap.size := by omega
      have hx : ((offI off == 0) == off) = false := by cases off <;> rfl
      go_upto_if 28 with fail
      go_cut [8] (fun s8 wx => s8 = .int .i64 k ∧ ∃ (n' : Int) (off' : Bool), Clk wx w.heap.size n' (offI off') ∧ Clk wx (w.heap.size + 1) n' (offI off') ∧ RefClk wx (w.heap.size + 2) n' off' ∧ w.heap.size + 2 < wx.heap.size ∧ Below w.heap.size w wx)
      case first =>
        by_cases hbit : (bits BinOp.and IntKind.u64 (st / 2 ^ k) 1 == 1) = true
        · go_upto_region 9 with fail
          go_region_held3 (fun w' => w'.cell? ⟨w.heap.size + 2, 1, none⟩ = some (.bool off))
            ((first | (simp only [World.cell?_drew]; assumption) | (exact ((gcell hg2).1 _ _ (by first | omega | (simp; omega)) (by omega)).trans (by assumption)) | (exact ((gcell hg1).1 _ _ (by first | omega | (simp; omega)) (by omega)).trans (by first | assumption | (simp only [World.cell?_drew]; assumption)))))
            ((first
              | (go_at_call_of 18 (Value.pointer (some ⟨w.heap.size, 0, none⟩)); refine (stop_any w.heap.size n (offI off) (offI_or off) _ (by exact HC1.out)).mono ?_; rintro e w1 ⟨rfl, hd1, hg1⟩; have hs1 : wr.heap.size ≤ w1.heap.size := hg1.size; have hg1' : wr.grownBy w1 (some w.heap.size) := gby_undrew hg1; have hz1 := clk_gby HC2.out hg1' (by omega))
              | (go_at_call 18; refine (stop_any (w.heap.size + 1) n (offI off) (offI_or off) _ (by exact hz1)).mono ?_; rintro e w2 ⟨rfl, hd2, hg2⟩; have hs2 : w1.heap.size ≤ w2.heap.size := hg2.size)))
          have hr2 : RefClk w2 (w.heap.size + 2) n off := refClk_gby (refClk_gby HRF.out hg1' (by omega)) hg2 (by omega)
          have HR2 := Lib.hid hr2
          obtain ⟨⟨r0', r1'⟩, q0', q1'⟩ := hr2
          go_wp2_with fail
          go_meet
          have gs := gby_set (gby_refl w2 (some (w.heap.size + 2))) 1 (.bool true)
          have B1 := below_gby hbl hg1' (Nat.le_refl _) (by omega)
          have B2 := below_gby B1 hg2 (by omega) (by omega)
          have z2 := gs.size
          exact ⟨rfl, n, true, clk_gby (clk_gby hd1 hg2 (by omega)) gs (by omega), clk_gby hd2 gs (by omega), refClk_stop HR2.out, by simp; omega, below_gby B2 gs (by omega) (by omega)⟩
        · have hbit' : (bits BinOp.and IntKind.u64 (st / 2 ^ k) 1 == 1) = false := by simpa using hbit
          clear hbit
          go_upto_region 12 with fail
          go_cut [8] (fun s8 wx => s8 = .int .i64 k ∧ RefClk wx (w.heap.size + 2) (tk off n x) off ∧ wr.grownBy wx (some (w.heap.size + 2)))
          case first =>
            go_region_with ((go_at_call 19; refine (ref14_tk n x off _).mono ?_; rintro e w1 ⟨rfl, hb1⟩; have hb2 : Below wr.heap.size wr w1 := below_undrew hb1; clear hb1; have k0 := keepB hb2 r0 hsz; have k1 := keepB hb2 r1 hsz; have kf0 := (hb2.frozen hsz).trans q0; have kf1 := (hb2.frozen hsz).trans q1))
            all_goals (go_wp2_with fail; go_meet; exact ⟨rfl, refClk_set (refClk_below HRF.out hb2) (tk off n x), gby_set (gby_set (gby_below (gby_refl _ _) hb2) _ _) _ _⟩)
          case rest =>
            obtain ⟨rfl, hrf, hgx⟩ := hcut
            have HRF1 := Lib.hid hrf
            obtain ⟨⟨s0, s1⟩, _, _⟩ := hrf
            have hzx : wr.heap.size ≤ wc.heap.size := hgx.size
            have hcx : wc.cell? ⟨b, o + k, none⟩ = some (.int .i64 x) := ((gcell hgx).1 _ _ hbr (by omega)).trans hcr
            have HD1 := Lib.hid (clk_gby HC1.out hgx (by omega))
            have HD2 := Lib.hid (clk_gby HC2.out hgx (by omega))
            go_upto_region 13 with fail
            go_region_held3 (fun w' => w'.cell? ⟨w.heap.size + 2, 0, none⟩ = some (.int .i64 (tk off n x)) ∧ w'.cell? ⟨b, o + k, none⟩ = some (.int .i64 x))
              ((refine ⟨?_, ?_⟩ <;> (first | (simp only [World.cell?_drew]; assumption) | (exact ((gcell hg2').1 _ _ (by omega) (by omega)).trans (by go_split_ands; assumption)) | (exact ((gcell hg1').1 _ _ (by omega) (by omega)).trans (by assumption)))))
              ((first
                | (go_at_call_of 20 (Value.pointer (some ⟨w.heap.size, 0, none⟩)); refine (tick_tk w.heap.size n x off _ (by exact HD1.out)).mono ?_; rintro e w1 ⟨rfl, hd1, hg1⟩; have hg1' : wc.grownBy w1 (some w.heap.size) := gby_undrew hg1; have hs1 : wc.heap.size ≤ w1.heap.size := hg1'.size; have hz1 := clk_gby HD2.out hg1' (by omega))
                | (go_at_call 20; refine (tick_tk (w.heap.size + 1) n x off _ (by exact hz1)).mono ?_; rintro e w2 ⟨rfl, hd2, hg2⟩; have hg2' : w1.grownBy w2 (some (w.heap.size + 1)) := hg2; have hs2 : w1.heap.size ≤ w2.heap.size := hg2.size)))
            go_wp2_with fail
            go_meet
            have B0 := below_gby hbl hgx (by omega) (by omega)
            have B1 := below_gby B0 hg1' (by omega) (by omega)
            have B2 := below_gby B1 hg2' (by omega) (by omega)
            exact ⟨rfl, tk off n x, off, clk_gby hd1 hg2' (by omega), hd2, refClk_gby (refClk_gby HRF1.out hg1' (by omega)) hg2' (by omega), by omega, B2⟩
      case rest =>
        obtain ⟨rfl, n', off', hd1, hd2, hrf, hsz', hbl'⟩ := hcut
        have HD1 := Lib.hid hd1
        have HD2 := Lib.hid hd2
        have HRF1 := Lib.hid hrf
        clear hx
        obtain ⟨⟨s0, s1⟩, _, _⟩ := hrf
        obtain ⟨⟨c0, c1, _, _⟩, _, _, _, _⟩ := hd1
        obtain ⟨⟨_, d1, _, _⟩, _, _, _, _⟩ := hd2
        simp only [offI] at c1 d1
        cases off'
        · simp only [Bool.false_eq_true, if_false] at c1 d1
          go_upto_region 15 with fail
          go_quiet ((first
            | (go_at_call 21; exact quiet_eq (now_any w.heap.size 0 n' _ (by go_simp)))
            | (go_at_call_of 22 (Value.pointer (some ⟨w.heap.size, 0, none⟩)); exact quiet_eq (stopped_any w.heap.size 0 0 _ (by go_simp)))
            | (go_at_call 22; exact quiet_eq (stopped_any (w.heap.size + 1) 0 0 _ (by go_simp)))))
          go_wp2_with fail
          go_roundg (len0 - (k + 1))
          case measure => omega
          case rel =>
            exact ⟨k + 1, n', false, by omega, rfl, by go_num, HD1.out, HD2.out, HRF1.out, hsz', below_drewN hbl' _⟩
        · simp only [if_true] at c1 d1
          go_upto_region 15 with fail
          go_quiet ((first
            | (go_at_call 21; exact quiet_eq (now_any w.heap.size 0 n' _ (by go_simp)))
            | (go_at_call_of 22 (Value.pointer (some ⟨w.heap.size, 0, none⟩)); exact quiet_eq (stopped_any w.heap.size 0 1 _ (by go_simp)))
            | (go_at_call 22; exact quiet_eq (stopped_any (w.heap.size + 1) 0 1 _ (by go_simp)))))
          go_wp2_with fail
          go_roundg (len0 - (k + 1))
          case measure => omega
          case rel =>
            exact ⟨k + 1, n', true, by omega, rfl, by go_num, HD1.out, HD2.out, HRF1.out, hsz', below_drewN hbl' _⟩
    · have hn0 : laterI 0 5 = 5 := by decide
      clear hc1 hc2 hrf
      go_wp2_with (first | (go_at_call 21; refine (now_nil _).mono ?_; rintro e w' ⟨rfl, rfl⟩) | (go_at_call 20; refine (tick_nil _ _).mono ?_; rintro e w' ⟨rfl, rfl⟩) | (go_at_call 18; refine (stop_nil _).mono ?_; rintro e w1 ⟨rfl, hb1⟩) | (go_at_call 22; refine (stopped_nil _).mono ?_; rintro e w' ⟨rfl, rfl⟩) | (go_at_call 16; refine (awake14 _).mono ?_; rintro e w' ⟨rfl, hb⟩))
      go_ret
      exact ⟨rfl, hbl.trans ((hb1.mono (by omega)).trans (hb.mono (by have := hb1.size; omega)))⟩
end Go.Proofs.Ytdeeeoakdfldkaa
