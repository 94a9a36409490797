/-
  The walk of the statement ClockRises.
-/
import Derived.Test.YtdeeeoakdfldkaaClock
namespace Go.Proofs.Ytdeeeoakdfldkaa
open Go.RowKit
set_option linter.unusedVariables false
set_option linter.unusedSimpArgs false

set_option maxRecDepth 100000 in
set_option maxHeartbeats 3200000 in
theorem walk_ClockRises (a0 : Option Addr) (len0 cap0 : Nat) (z0 : List Int) (st : Int) (w : World) (w0 : IsInts .i64 w a0 len0 cap0 z0) (w1 : (Lit.int .u8 st).wf = true) :
    Calls Try.prog 6 #[.slice a0 len0 cap0, .int .u8 st] w fun e w' => e = .returned (.bool true) ∧ Below w.heap.size w w' := by
  have hst : 0 ≤ st ∧ st ≤ 255 := bounds_u8 w1
  clear w1
  obtain ⟨hst0, hst1⟩ := hst
  by_cases hbig : 200 < len0
  · clear w0
    go_enter Try.func6, Try.ntmps6
    go_wp2_with (go_at_call 16; refine (awake14 _).mono ?_; rintro e w' ⟨rfl, hb⟩)
    go_ret
    exact ⟨rfl, hb⟩
  have hin : ∀ i, i < len0 → ∃ b off, a0 = some ⟨b, off, none⟩ ∧ b < w.heap.size ∧ w.cell? ⟨b, off + i, none⟩ = some (.int .i64 (z0.getD i 0)) ∧ (Lit.int .i64 (z0.getD i 0)).wf = true := by
    intro i hi
    rcases isInts_cases w0 with h | ⟨b, off, rfl, _, _, _, hb, hc, hw⟩
    · omega
    · exact ⟨b, off, rfl, hb, hc i hi, hw i hi⟩
  clear w0
  have HIN := Lib.hid hin
  clear hin
  go_enter Try.func6, Try.ntmps6
  go_wp2_with (go_at_call 17; refine (clock_new _).mono ?_; rintro e w' ⟨rfl, rfl⟩)
  go_loopg [6, 7] len0 (fun g l i wr => ∃ (k : Nat) (n d : Int), k ≤ len0 ∧ g = len0 - k ∧ i = .int .i64 k ∧ l = .int .i64 n ∧ 0 ≤ n ∧ n ≤ 1099511627776 ∧ (d = if st < k then 1 else 0) ∧ Clk wr w.heap.size n d ∧ w.heap.size < wr.heap.size ∧ Below w.heap.size w wr)
  case atStart =>
    refine ⟨0, 0, 0, Nat.zero_le _, rfl, rfl, rfl, by omega, by omega, by rw [if_neg (by simp; omega)], clk_new w, by simp, ?_⟩
    go_grown
  case round =>
    obtain ⟨k, n, d, hk, rfl, rfl, rfl, hn0, hn1, hd, hclk, hsz, hbl⟩ := hrel
    have hnot : ∀ (x : Bool) (w : World), (Op.unary .not (.bool x)).run Try.prog w = .ok (.bool (!x)) w := fun _ _ => rfl
    by_cases hlt : k < len0
    · obtain ⟨b, off, rfl, hb, hc, hw⟩ := HIN.out k hlt
      have hcr : wr.cell? ⟨b, off + k, none⟩ = some (.int .i64 (z0.getD k 0)) := by rw [hbl.cell hb]; exact hc
      have hk1 : (0 : Int) ≤ (k : Int) := by omega
      have hk2 : (k : Int) < (len0 : Int) := by omega
      generalize z0.getD k 0 = x at hcr hc hw
      clear hc
      have hz3 : ¬ w.heap.size = b := by omega
      have hz4 : ¬ b = w.heap.size := by omega
      have hbw : b < wr.heap.size := by omega
      have t1 : decide (n < n) = false := by simp
      have t2 : decide (1099511627776 < n) = false := by simp; omega
      by_cases hs : (k : Int) = st
      · obtain rfl : d = 0 := by rw [hd, if_neg (by omega)]
        clear hd
        subst hs
        have t3 : decide ((k : Int) < (k : Int)) = false := by simp
        go_wp2_with fail
        refine (stop_on w.heap.size n _ hclk).mono ?_; rintro e w1 ⟨rfl, hk1', hg1⟩
        have hk2' := Lib.hid hk1'
        obtain ⟨⟨h0, h1, _, _⟩, _, _, _, _⟩ := hk1'
        have hcr1 : w1.cell? ⟨b, off + k, none⟩ = some (.int .i64 x) := by rw [(gcell hg1).1 _ _ hbw hz4]; exact hcr
        go_wp2_with (first | (go_at_call 20; refine (tick_off w.heap.size n x _ h0 h1).mono ?_; rintro e w' ⟨rfl, rfl⟩) | (go_at_call 21; refine (now_any w.heap.size 0 n _ h0).mono ?_; rintro e w' ⟨rfl, rfl⟩))
        go_roundg (len0 - (k + 1))
        case measure => omega
        case rel =>
          refine ⟨k + 1, n, 1, by omega, rfl, by go_num, rfl, hn0, hn1, by rw [if_pos (by omega)], hk2'.out, ?_, below_gby hbl hg1 (Nat.le_refl _) (by omega)⟩
          have := hg1.size
          omega
      · by_cases hs2 : st < (k : Int)
        · obtain rfl : d = 1 := by rw [hd, if_pos hs2]
          clear hd
          have hk2' := Lib.hid hclk
          obtain ⟨⟨h0, h1, _, _⟩, _, _, _, _⟩ := hclk
          have t4 : decide ((k : Int) < st) = false := by simp; omega
          have t5 : ((k : Int) == st) = false := by simp; omega
          go_wp2_with (first | (go_at_call 20; refine (tick_off w.heap.size n x _ h0 h1).mono ?_; rintro e w' ⟨rfl, rfl⟩) | (go_at_call 21; refine (now_any w.heap.size 0 n _ h0).mono ?_; rintro e w' ⟨rfl, rfl⟩))
          go_roundg (len0 - (k + 1))
          case measure => omega
          case rel =>
            exact ⟨k + 1, n, 1, by omega, rfl, by go_num, rfl, hn0, hn1, by rw [if_pos (by omega)], hk2'.out, by omega, hbl⟩
        · obtain rfl : d = 0 := by rw [hd, if_neg (by omega)]
          clear hd
          have hk2' := Lib.hid hclk
          obtain ⟨⟨h0, h1, _, _⟩, f0, _, _, _⟩ := hclk
          have g1 := laterI_le n x hn0 hn1
          have g2 := laterI_gt n x hn0
          have G2 := Lib.hid g2
          clear g2
          have g3 := laterI_bd n x
          obtain ⟨g3, g4⟩ := g3
          generalize hm : laterI n x = m at g1 g3 g4 G2
          have HM := Lib.hid hm
          have htick := tick_on w.heap.size n x wr h0 h1 f0
          rw [hm] at htick
          have HT := Lib.hid htick
          clear hm htick
          have t4 : decide ((k : Int) < st) = true := by simp; omega
          have t5 : ((k : Int) == st) = false := by simp; omega
          have t6 : decide (m < n) = false := by simp; omega
          have t7 : decide (1099511627776 < m) = false := by simp; omega
          have t8 : decide (st ≤ (k : Int)) = false := by simp; omega
          have fin : ∀ w2, w2 = (wr.setCell ⟨w.heap.size, 0, none⟩ (.int .i64 m)).drew → Clk w2 w.heap.size m 0 ∧ w.heap.size < w2.heap.size ∧ Below w.heap.size w w2 := by
            rintro w2 rfl
            refine ⟨clk_tick hk2'.out m, by simp; omega, hbl.trans (by go_grown)⟩
          have FIN := Lib.hid fin
          clear fin
          by_cases h40 : n < 1099511627776
          · by_cases hx : 0 < x
            · have gm := G2.out h40 hx
              have t9 : (m == n) = false := by simp; omega
              go_wp2_with (first | (go_at_call 20; refine HT.out.mono ?_; rintro e w' ⟨rfl, rfl⟩) | (go_at_call 21; refine (now_any w.heap.size 0 m _ (by go_simp)).mono ?_; rintro e w' ⟨rfl, rfl⟩))
              go_roundg (len0 - (k + 1))
              case measure => omega
              case rel =>
                exact ⟨k + 1, m, 0, by omega, rfl, by go_num, rfl, by omega, g4, by rw [if_neg (by omega)], FIN.out _ rfl⟩
            · have t9 : decide (0 < x) = false := by simp; omega
              go_wp2_with (first | (go_at_call 20; refine HT.out.mono ?_; rintro e w' ⟨rfl, rfl⟩) | (go_at_call 21; refine (now_any w.heap.size 0 m _ (by go_simp)).mono ?_; rintro e w' ⟨rfl, rfl⟩))
              go_roundg (len0 - (k + 1))
              case measure => omega
              case rel =>
                exact ⟨k + 1, m, 0, by omega, rfl, by go_num, rfl, by omega, g4, by rw [if_neg (by omega)], FIN.out _ rfl⟩
          · have t9 : decide (n < 1099511627776) = false := by simp; omega
            go_wp2_with (first | (go_at_call 20; refine HT.out.mono ?_; rintro e w' ⟨rfl, rfl⟩) | (go_at_call 21; refine (now_any w.heap.size 0 m _ (by go_simp)).mono ?_; rintro e w' ⟨rfl, rfl⟩))
            go_roundg (len0 - (k + 1))
            case measure => omega
            case rel =>
              exact ⟨k + 1, m, 0, by omega, rfl, by go_num, rfl, by omega, g4, by rw [if_neg (by omega)], FIN.out _ rfl⟩
    · go_wp2_with fail
      refine (awake14 _).mono ?_; rintro e w' ⟨rfl, hb⟩
      go_wp2
      go_ret
      exact ⟨rfl, hbl.trans (hb.mono (by omega))⟩
end Go.Proofs.Ytdeeeoakdfldkaa
