/-
  The walk of the statement FenceRises.
-/
import Derived.Test.YtdeeeoakdfldkaaFenceLaws
namespace Go.Proofs.Ytdeeeoakdfldkaa
open Go.RowKit

set_option maxRecDepth 100000 in
set_option maxHeartbeats 1600000 in
theorem walk_FenceRises (a0 : Option Addr) (len0 cap0 : Nat) (z0 : List Int) (w : World) (w0 : IsInts .i64 w a0 len0 cap0 z0) :
    Calls Try.prog 4 #[.slice a0 len0 cap0] w fun e w' => e = .returned (.bool true) ∧ Below w.heap.size w w' := by
  by_cases hbig : 150 < len0
  · clear w0
    go_enter Try.func4, Try.ntmps4
    go_wp2_with (go_at_call 10; refine (awake17 _).mono ?_; rintro e w' ⟨rfl, hb⟩)
    go_ret
    exact ⟨rfl, hb⟩
  have hin : ∀ i, i < len0 → ∃ b off, a0 = some ⟨b, off, none⟩ ∧ b < w.heap.size ∧ w.cell? ⟨b, off + i, none⟩ = some (.int .i64 (z0.getD i 0)) ∧ (Lit.int .i64 (z0.getD i 0)).wf = true := by
    intro i hi
    rcases isInts_cases w0 with h | ⟨b, off, rfl, _, _, _, hb, hc, hw⟩
    · omega
    · exact ⟨b, off, rfl, hb, hc i hi, hw i hi⟩
  clear w0
  have HIN := Lib.hid hin
  clear hin
  go_enter Try.func4, Try.ntmps4
  go_wp2_with (go_at_call 11; refine (fence_new _).mono ?_; rintro e w' ⟨rfl, rfl⟩)
  go_loopg [4, 5] len0 (fun g l i wr => ∃ (k : Nat) (ep yes no : Int), k ≤ len0 ∧ g = len0 - k ∧ i = .int .i64 k ∧ l = .int .i64 ep ∧ ep ≤ 4294967295 ∧ Three wr w.heap.size ep yes no ∧ w.heap.size < wr.heap.size ∧ Below w.heap.size w wr)
  case atStart =>
    refine ⟨0, 0, 0, 0, Nat.zero_le _, rfl, rfl, rfl, by omega, ?_, by simp, ?_⟩
    · unfold Three; go_simp
    · go_grown
  case round =>
    obtain ⟨k, ep, yes, no, hk, rfl, rfl, rfl, hM, ⟨⟨f0, f1, f2⟩, g0, g1, g2⟩, hsz, hbl⟩ := hrel
    have hnot : ∀ (x : Bool) (w : World), (Op.unary .not (.bool x)).run Try.prog w = .ok (.bool (!x)) w := fun _ _ => rfl
    by_cases hlt : k < len0
    · obtain ⟨b, off, rfl, hb, hc, hw⟩ := HIN.out k hlt
      have hcr : wr.cell? ⟨b, off + k, none⟩ = some (.int .i64 (z0.getD k 0)) := by rw [hbl.cell hb]; exact hc
      have hk1 : (0 : Int) ≤ (k : Int) := by omega
      have hk2 : (k : Int) < (len0 : Int) := by omega
      generalize z0.getD k 0 = n at hcr hc hw
      clear hc
      have hz3 : ¬ w.heap.size = b := by omega
      by_cases hp : (1 ≤ n ∧ n ≤ 4294967295) ∧ ep ≤ n
      · obtain ⟨⟨p1, p2⟩, p3⟩ := hp
        have hq : n - 1 < n := by omega
        have hd1 : decide (n < ep) = false := by simp; omega
        have hd2 : decide (n < 1) = false := by simp; omega
        have hw1 : wrap64 (n - 1) = n - 1 := by unfold wrap64; omega
        go_wp2_with fail
        refine (pass_yes w.heap.size 0 ep yes n (by omega) (by omega) (by omega) _ (by go_simp) (by go_simp) (by go_simp) (by go_simp)).mono ?_; rintro e w' ⟨rfl, rfl⟩
        go_wp2_with fail
        refine (pass_yes w.heap.size 0 n (wrap64 (yes + 1)) n (by omega) (by omega) (by omega) _ (by go_simp) (by go_simp) (by go_simp) (by go_simp)).mono ?_; rintro e w' ⟨rfl, rfl⟩
        go_wp2_with fail
        refine (pass_no w.heap.size 0 n no (n - 1) (by omega) _ (by go_simp) (by go_simp) (by go_simp)).mono ?_; rintro e w' ⟨rfl, rfl⟩
        go_wp2_with (go_at_call 15; refine (epoch_any _ 0 n _ (by go_simp)).mono ?_; rintro e w' ⟨rfl, rfl⟩)
        go_roundg (len0 - (k + 1))
        case measure => omega
        case rel =>
          refine ⟨k + 1, n, wrap64 (wrap64 (yes + 1) + 1), wrap64 (no + 1), by omega, rfl, by go_num, rfl, p2, ?_, ?_, ?_⟩
          rotate_left
          · simp; omega
          · exact hbl.trans (by go_grown)
          · exact three_set2 (three_set1 (three_set0 (three_set1 (three_set0 ⟨⟨f0, f1, f2⟩, g0, g1, g2⟩ _) _) _) _) _
      · have hq : n < 1 ∨ 4294967295 < n ∨ n < ep := by omega
        have HQ := Lib.hid hq
        clear hp hq
        go_wp2_with fail
        refine (pass_no w.heap.size 0 ep no n HQ.out _ (by go_simp) (by go_simp) (by go_simp)).mono ?_; rintro e w' ⟨rfl, rfl⟩
        go_wp2_with (go_at_call 15; refine (epoch_any _ 0 ep _ (by go_simp)).mono ?_; rintro e w' ⟨rfl, rfl⟩)
        go_roundg (len0 - (k + 1))
        case measure => omega
        case rel =>
          refine ⟨k + 1, ep, yes, wrap64 (no + 1), by omega, rfl, by go_num, rfl, hM, ?_, ?_, ?_⟩
          rotate_left
          · simp; omega
          · exact hbl.trans (by go_grown)
          · unfold Three; go_simp
    · go_wp2_with fail
      refine (awake17 _).mono ?_; rintro e w' ⟨rfl, hb⟩
      go_wp2
      go_ret
      exact ⟨rfl, hbl.trans (hb.mono (by omega))⟩
end Go.Proofs.Ytdeeeoakdfldkaa
