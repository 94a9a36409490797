/-
  The walk of the statement FencePlays.
-/
import Derived.Test.YtdeeeoakdfldkaaFenceLaws
namespace Go.Proofs.Ytdeeeoakdfldkaa
open Go.RowKit

set_option maxRecDepth 100000 in
set_option maxHeartbeats 1600000 in
theorem walk_FencePlays (a0 : Option Addr) (len0 cap0 : Nat) (z0 : List Int) (w : World) (w0 : IsInts .i64 w a0 len0 cap0 z0) :
    Calls Try.prog 3 #[.slice a0 len0 cap0] w fun e w' => e = .returned (.bool true) ∧ Below w.heap.size w w' := by
  by_cases hbig : 100 < len0
  · clear w0
    go_enter Try.func3, Try.ntmps3
    go_wp2_with (go_at_call 10; refine (awake17 _).mono ?_; rintro e w' ⟨rfl, hb⟩)
    go_ret
    exact ⟨rfl, hb⟩
  have hin : ∀ i, i < len0 → ∃ b off, a0 = some ⟨b, off, none⟩ ∧ b < w.heap.size ∧ w.cell? ⟨b, off + i, none⟩ = some (.int .i64 (z0.getD i 0)) ∧ (Lit.int .i64 (z0.getD i 0)).wf = true := by
    intro i hi
    rcases isInts_cases w0 with h | ⟨b, off, rfl, _, _, _, hb, hc, hw⟩
    · omega
    · exact ⟨b, off, rfl, hb, hc i hi, hw i hi⟩
  clear w0
  have HIN := Lib.hid hin
  clear hin
  go_enter Try.func3, Try.ntmps3
  go_wp2_with (go_at_call 11; refine (fence_new _).mono ?_; rintro e w' ⟨rfl, rfl⟩)
  go_loopg [7] len0 (fun g i wr => ∃ (k : Nat) (ep yes no : Int), k ≤ len0 ∧ g = len0 - k ∧ i = .int .i64 k ∧ Three wr w.heap.size ep yes no ∧ Three wr (w.heap.size + 1) ep yes no ∧ Three wr (w.heap.size + 2) ep yes no ∧ w.heap.size + 2 < wr.heap.size ∧ Below w.heap.size w wr)
  case atStart =>
    refine ⟨0, 0, 0, 0, Nat.zero_le _, rfl, rfl, ?_, ?_, ?_, by simp, ?_⟩
    · unfold Three; go_simp
    · unfold Three; go_simp
    · unfold Three; go_simp
    · go_grown
  case round =>
    obtain ⟨k, ep, yes, no, hk, rfl, rfl, ⟨⟨f0, f1, f2⟩, g0, g1, g2⟩, ⟨⟨f3, f4, f5⟩, g3, g4, g5⟩, ⟨⟨f6, f7, f8⟩, g6, g7, g8⟩, hsz, hbl⟩ := hrel
    by_cases hlt : k < len0
    · obtain ⟨b, off, rfl, hb, hc, hw⟩ := HIN.out k hlt
      have hcr : wr.cell? ⟨b, off + k, none⟩ = some (.int .i64 (z0.getD k 0)) := by rw [hbl.cell hb]; exact hc
      have hk1 : (0 : Int) ≤ (k : Int) := by omega
      have hk2 : (k : Int) < (len0 : Int) := by omega
      generalize z0.getD k 0 = n at hcr hc hw
      clear hc
      by_cases hp : (1 ≤ n ∧ n ≤ 4294967295) ∧ ep ≤ n
      · obtain ⟨⟨p1, p2⟩, p3⟩ := hp
        have HS : Hid (∀ w', Below wr.heap.size wr w' → w'.cell? ⟨w.heap.size + 2, 0, none⟩ = some (.int .i64 ep) ∧ w'.cell? ⟨w.heap.size + 2, 1, none⟩ = some (.int .i64 yes) ∧ w'.cell? ⟨w.heap.size + 2, 2, none⟩ = some (.int .i64 no) ∧ w'.cell? ⟨b, off + k, none⟩ = some (.int .i64 n)) :=
          Lib.hid fun w' h => ⟨keepB h f6 (by simp; omega), keepB h f7 (by simp; omega), keepB h f8 (by simp; omega), keepB h hcr (by simp; omega)⟩
        go_upto_region 9 with fail
        go_cut [8, 9] (fun s8 s9 wx => ∃ g : Nat, s8 = .pointer (some ⟨g, 0, none⟩) ∧ s9 = .bool true ∧ wr.heap.size ≤ g ∧ g < wx.heap.size ∧ wx.cell? ⟨g, 0, none⟩ = some (.int .i64 n) ∧ wx.cell? ⟨g, 1, none⟩ = some (.int .i64 (wrap64 (yes + 1))) ∧ wx.cell? ⟨g, 2, none⟩ = some (.int .i64 no) ∧ Below wr.heap.size wr wx)
        case first =>
          go_region_held3 (fun w' => Below wr.heap.size wr w' ∧ w'.cell? ⟨w.heap.size + 2, 0, none⟩ = some (.int .i64 ep) ∧ w'.cell? ⟨w.heap.size + 2, 1, none⟩ = some (.int .i64 yes) ∧ w'.cell? ⟨w.heap.size + 2, 2, none⟩ = some (.int .i64 no) ∧ w'.cell? ⟨b, off + k, none⟩ = some (.int .i64 n))
            ((refine keepS HS ?_; (try go_split_ands); (first | (with_reducible assumption) | (go_grown; done))))
            ((go_at_call 12; refine (ref17_yes ep yes no n p1 p2 p3 _).mono ?_; rintro e w1 ⟨rfl, hb1⟩; have hb2 : Below wr.heap.size wr w1 := (by go_split_ands; exact Below.trans (by with_reducible assumption) (hb1.mono (by simp))); have hs1 := hb2.size; obtain ⟨hcc, hff⟩ := bcell hb1; have hs2 := hb1.size; simp at hs2))
          all_goals (go_wp2_with fail; go_meet; refine ⟨_, rfl, rfl, ?_, ?_, ?_, ?_, ?_, ?_⟩ <;> first | (go_grown; done) | omega | (simp; omega) | (go_simp; done))
        case rest =>
          obtain ⟨g, rfl, rfl, gl, gu, c0, c1, c2, hbx⟩ := hcut
          obtain ⟨hcc, hff⟩ := bcell hbx
          have hz0 : w.heap.size < wr.heap.size := by omega
          have hz1 : w.heap.size + 1 < wr.heap.size := by omega
          have hz2 : b < wr.heap.size := by omega
          have hz3 : ¬ w.heap.size = b := by omega
          have hz4 : ¬ w.heap.size + 1 = b := by omega
          have hz5 : ¬ w.heap.size + 2 = b := by omega
          go_upto_region 11 with fail
          go_region_held3 (fun w' => w'.cell? ⟨b, off + k, none⟩ = some (.int .i64 n)) (go_simp) ((go_at_call 13; refine (pass_yes _ 0 ep yes n (by omega) (by omega) (by omega) _ (by go_simp) (by go_simp) (by go_simp) (by go_simp)).mono ?_; rintro e w1 ⟨rfl, rfl⟩))
          go_wp2_with (go_at_call 14; refine (passed_any _ 0 (wrap64 (yes + 1)) no _ (by go_simp) (by go_simp)).mono ?_; rintro e w1 ⟨rfl, nd, rfl⟩)
          go_quiet ((first
            | (go_at_call 15; exact quiet_add (epoch_any _ 0 n _ (by go_simp)))
            | (go_at_call 13; exact quiet_add (pass_nil n _))))
          go_wp2_with fail
          go_roundg (len0 - (k + 1))
          case measure => omega
          case rel =>
            refine ⟨k + 1, n, wrap64 (yes + 1), no, by omega, rfl, by go_num, ?_, ?_, ?_, ?_, ?_⟩
            · unfold Three; go_simp
            · unfold Three; go_simp
            · unfold Three; go_simp
            · simp; omega
            · refine below_drewN ?_ _
              exact hbl.trans ((hbx.mono (by omega)).trans (by go_grown))
      · have hq : n < 1 ∨ 4294967295 < n ∨ n < ep := by omega
        have HQ := Lib.hid hq
        clear hp hq
        have HS : Hid (∀ w', Below wr.heap.size wr w' → w'.cell? ⟨w.heap.size + 2, 0, none⟩ = some (.int .i64 ep) ∧ w'.cell? ⟨w.heap.size + 2, 1, none⟩ = some (.int .i64 yes) ∧ w'.cell? ⟨w.heap.size + 2, 2, none⟩ = some (.int .i64 no) ∧ w'.cell? ⟨b, off + k, none⟩ = some (.int .i64 n)) :=
          Lib.hid fun w' h => ⟨keepB h f6 (by simp; omega), keepB h f7 (by simp; omega), keepB h f8 (by simp; omega), keepB h hcr (by simp; omega)⟩
        go_upto_region 9 with fail
        go_cut [8, 9] (fun s8 s9 wx => ∃ g : Nat, s8 = .pointer (some ⟨g, 0, none⟩) ∧ s9 = .bool false ∧ wr.heap.size ≤ g ∧ g < wx.heap.size ∧ wx.cell? ⟨g, 0, none⟩ = some (.int .i64 ep) ∧ wx.cell? ⟨g, 1, none⟩ = some (.int .i64 yes) ∧ wx.cell? ⟨g, 2, none⟩ = some (.int .i64 (wrap64 (no + 1))) ∧ Below wr.heap.size wr wx)
        case first =>
          go_region_held3 (fun w' => Below wr.heap.size wr w' ∧ w'.cell? ⟨w.heap.size + 2, 0, none⟩ = some (.int .i64 ep) ∧ w'.cell? ⟨w.heap.size + 2, 1, none⟩ = some (.int .i64 yes) ∧ w'.cell? ⟨w.heap.size + 2, 2, none⟩ = some (.int .i64 no) ∧ w'.cell? ⟨b, off + k, none⟩ = some (.int .i64 n))
            ((refine keepS HS ?_; (try go_split_ands); (first | (with_reducible assumption) | (go_grown; done))))
            ((go_at_call 12; refine (ref17_no ep yes no n HQ.out _).mono ?_; rintro e w1 ⟨rfl, hb1⟩; have hb2 : Below wr.heap.size wr w1 := (by go_split_ands; exact Below.trans (by with_reducible assumption) (hb1.mono (by simp))); have hs1 := hb2.size; obtain ⟨hcc, hff⟩ := bcell hb1; have hs2 := hb1.size; simp at hs2))
          all_goals (go_wp2_with fail; go_meet; refine ⟨_, rfl, rfl, ?_, ?_, ?_, ?_, ?_, ?_⟩ <;> first | (go_grown; done) | omega | (simp; omega) | (go_simp; done))
        case rest =>
          obtain ⟨g, rfl, rfl, gl, gu, c0, c1, c2, hbx⟩ := hcut
          obtain ⟨hcc, hff⟩ := bcell hbx
          have hz0 : w.heap.size < wr.heap.size := by omega
          have hz1 : w.heap.size + 1 < wr.heap.size := by omega
          have hz2 : b < wr.heap.size := by omega
          have hz3 : ¬ w.heap.size = b := by omega
          have hz4 : ¬ w.heap.size + 1 = b := by omega
          have hz5 : ¬ w.heap.size + 2 = b := by omega
          go_upto_region 11 with fail
          go_region_held3 (fun w' => w'.cell? ⟨b, off + k, none⟩ = some (.int .i64 n)) (go_simp) ((go_at_call 13; refine (pass_no _ 0 ep no n HQ.out _ (by go_simp) (by go_simp) (by go_simp)).mono ?_; rintro e w1 ⟨rfl, rfl⟩))
          go_wp2_with (go_at_call 14; refine (passed_any _ 0 yes (wrap64 (no + 1)) _ (by go_simp) (by go_simp)).mono ?_; rintro e w1 ⟨rfl, nd, rfl⟩)
          go_quiet ((first
            | (go_at_call 15; exact quiet_add (epoch_any _ 0 ep _ (by go_simp)))
            | (go_at_call 13; exact quiet_add (pass_nil n _))))
          go_wp2_with fail
          go_roundg (len0 - (k + 1))
          case measure => omega
          case rel =>
            refine ⟨k + 1, ep, yes, wrap64 (no + 1), by omega, rfl, by go_num, ?_, ?_, ?_, ?_, ?_⟩
            · unfold Three; go_simp
            · unfold Three; go_simp
            · unfold Three; go_simp
            · simp; omega
            · refine below_drewN ?_ _
              exact hbl.trans ((hbx.mono (by omega)).trans (by go_grown))
    · go_wp2_with fail
      refine (passed_nil _).mono ?_; rintro e w' ⟨rfl, rfl⟩
      go_wp2_with fail
      refine (epoch_nil _).mono ?_; rintro e w' ⟨rfl, rfl⟩
      go_wp2_with fail
      refine (awake17 _).mono ?_; rintro e w' ⟨rfl, hb⟩
      go_wp2
      go_ret
      exact ⟨rfl, hbl.trans (hb.mono (by omega))⟩

end Go.Proofs.Ytdeeeoakdfldkaa
