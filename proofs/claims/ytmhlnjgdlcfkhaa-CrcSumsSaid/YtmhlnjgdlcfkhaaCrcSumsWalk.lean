/-
  The walk of the statement CrcSums.
-/
import Derived.Test.YtmhlnjgdlcfkhaaCrc
namespace Go.Proofs.Ytmhlnjgdlcfkhaa
open Go.RowKit
set_option linter.unusedVariables false
set_option linter.unusedSimpArgs false

set_option maxRecDepth 100000 in
set_option maxHeartbeats 1600000 in
theorem walk_CrcSums (s0 : ByteArray) (a1 a2 : Int) (w : World) (w0 : s0.size ≤ maxLen) (w1 : (Lit.int .u32 a1).wf = true) (w2 : (Lit.int .i64 a2).wf = true) :
    Calls Try.prog 8 #[.string s0, .int .u32 a1, .int .i64 a2] w fun e w' => e = .returned (.bool true) ∧ Below w.heap.size w w' := by
  have hb := bounds_u32 w1
  obtain ⟨sum, rfl⟩ : ∃ n : Nat, a1 = n := ⟨a1.toNat, by omega⟩
  have hsum : sum < 4294967296 := by omega
  clear w1 w2 hb
  have hs0 : s0.size ≤ 9223372036854775807 := w0
  by_cases hbig : 300 < s0.size
  · go_enter Try.func8, Try.ntmps8
    go_wp2_with (go_at_call 11; refine (awake03 _).mono ?_; rintro e w' ⟨rfl, hb⟩)
    go_ret
    exact ⟨rfl, hb⟩
  go_enter Try.func8, Try.ntmps8
  go_wp2_with fail
  refine (crc_new _).mono ?_; rintro e wn ⟨rfl, ht1, hb1, hs1⟩
  go_wp2_with fail
  have HT1 := Lib.hid ht1
  clear ht1
  go_loopg [8] 2 (fun g i wr => ∃ (k : Nat), k ≤ 2 ∧ g = 2 - k ∧ i = .int .i64 k ∧ wr.cell? ⟨wn.heap.size + 1, 0, none⟩ = some (.pointer (some ⟨w.heap.size, 0, none⟩)) ∧ wr.cell? ⟨wn.heap.size + 1, 1, none⟩ = some (.pointer (some ⟨wn.heap.size, 0, none⟩)) ∧ (k = 0 → Tab wr w.heap.size 0 0) ∧ (k ≤ 1 → Tab wr wn.heap.size 0 0) ∧ wn.heap.size + 1 < wr.heap.size ∧ Below w.heap.size w wr)
  case atStart =>
    refine ⟨0, by omega, rfl, rfl, by go_simp, by go_simp, fun _ => ?_, fun _ => ?_, by simp, ?_⟩
    · exact HT1.out.below (B := wn.heap.size) (((Below.refl _ _).alloc (Nat.le_refl _) _).alloc (by simp) _) hs1
    · exact ⟨_, (Blk.new wn _ _).alloc _, head_new, fun h => by cases h⟩
    · exact hb1.trans ((((Below.refl _ _).alloc (by omega) _).alloc (by simp; omega) _))
  case round =>
    obtain ⟨k, hk, rfl, rfl, c0, c1, ht1, ht2, hsz, hbl⟩ := hrel
    by_cases hlt : k < 2
    · obtain ⟨T, hc, ht, hTl, hTs, hnext⟩ : ∃ T, wr.cell? ⟨wn.heap.size + 1, k, none⟩ = some (.pointer (some ⟨T, 0, none⟩)) ∧ Tab wr T 0 0 ∧ w.heap.size ≤ T ∧ T ≤ wn.heap.size ∧ Hid (∀ w', wr.grownBy w' (some T) → (k + 1 = 0 → Tab w' w.heap.size 0 0) ∧ (k + 1 ≤ 1 → Tab w' wn.heap.size 0 0)) := by
        by_cases h0 : k = 0
        · subst h0
          exact ⟨w.heap.size, c0, ht1 rfl, Nat.le_refl _, by omega, Lib.hid fun w' hg => ⟨fun h => by omega, fun _ => (ht2 (by omega)).gby hg (by omega)⟩⟩
        · obtain rfl : k = 1 := by omega
          exact ⟨wn.heap.size, c1, ht2 (by omega), by omega, Nat.le_refl _, Lib.hid fun w' hg => ⟨fun h => by omega, fun h => by omega⟩⟩
      have HT := Lib.hid ht
      have C01 := Lib.hid (And.intro c0 c1)
      clear ht1 ht2 ht c0 c1
      have hk1 : (0 : Int) ≤ (k : Int) := by omega
      have hk2 : (k : Int) < 2 := by omega
      go_upto_block 2 with (go_at_call 30; refine (crc_made T 0 0 (by omega) _ (by exact HT.out)).mono ?_; rintro e w' ⟨rfl, rfl⟩)
      go_cut [8] (fun s8 wx => s8 = .int .i64 k ∧ ∃ d m : Int, (d = 0 ∧ m = 0 ∨ d = 1 ∧ m = 1) ∧ Tab wx T d m ∧ wr.grownBy wx (some T))
      case first =>
        have hq := crc_more T 0 0 (.inl rfl) sum hsum ByteArray.empty (by decide)
        have HQ := Lib.hid hq
        clear hq
        go_wp2_with (first | (go_at_call 31; refine (crc_entry_at T 0 0 (.inl rfl) a2 _ (by exact HT.out)).mono ?_; rintro e w1 ⟨rfl, hd1, hg1⟩) | (go_at_call 14; refine (HQ.out _ (by exact HT.out)).mono ?_; rintro e w1 ⟨rfl, hd1, hg1⟩))
        all_goals go_meet
        · exact ⟨rfl, 1, 1, .inr ⟨rfl, rfl⟩, by rw [madeI_first] at hd1; exact hd1, hg1⟩
        · exact ⟨rfl, 1, 1, .inr ⟨rfl, rfl⟩, by rw [madeI_first] at hd1; exact hd1, hg1⟩
        · exact ⟨rfl, 0, 0, .inl ⟨rfl, rfl⟩, HT.out, gby_refl _ _⟩
      case rest =>
        obtain ⟨rfl, d, m, hdm, htx, hgx⟩ := hcut
        have hd01 : d = 0 ∨ d = 1 := by omega
        have hmm : madeI d m = 1 := by rcases hdm with ⟨rfl, rfl⟩ | ⟨rfl, rfl⟩ <;> simp [madeI, wrap32]
        have HMM := Lib.hid hmm
        clear hmm hdm
        go_wp2_with fail
        refine (crc_sum T d m hd01 s0 w0 _ htx).mono ?_; rintro e w3 ⟨rfl, ht3, hg3⟩
        rw [HMM.out] at ht3
        go_wp2_with fail
        refine (ref03_sum s0 w0 _).mono ?_; rintro e w' ⟨rfl, rfl⟩
        go_wp2_with fail
        refine (crc_more T 1 1 (.inr rfl) sum hsum s0 w0 _ ht3).mono ?_; rintro e w4 ⟨rfl, ht4, hg4⟩
        rw [madeI_one] at ht4
        go_wp2_with fail
        refine (ref03_more sum s0 hsum w0 _).mono ?_; rintro e w' ⟨rfl, rfl⟩
        go_wp2_with fail
        refine (crc_entry_at T 1 1 (.inr rfl) a2 _ ht4).mono ?_; rintro e w5 ⟨rfl, ht5, hg5⟩
        rw [madeI_one] at ht5
        go_wp2_with fail
        refine (ref03_entry a2 _).mono ?_; rintro e w' ⟨rfl, rfl⟩
        go_wp2_with fail
        refine (crc_made T 1 1 (by omega) _ ht5).mono ?_; rintro e w' ⟨rfl, rfl⟩
        go_wp2_with fail
        have G := gby_trans (gby_trans (gby_trans hgx hg3) hg4) hg5
        have S5 := G.size
        obtain ⟨c0, c1⟩ := C01.out
        go_roundg (2 - (k + 1))
        case measure => omega
        case rel =>
          exact ⟨k + 1, by omega, rfl, by go_num, ((gcell G).1 _ _ (by omega) (by omega)).trans c0, ((gcell G).1 _ _ (by omega) (by omega)).trans c1, (hnext.out _ G).1, (hnext.out _ G).2, by omega, below_gby hbl G hTl (by omega)⟩
    · clear ht1 ht2 c0 c1
      go_wp2_with (first | (go_at_call 13; refine (crc_nil_sum s0 _).mono ?_; rintro e w' ⟨rfl, rfl⟩) | (go_at_call 14; refine (crc_nil_more sum s0 _).mono ?_; rintro e w' ⟨rfl, rfl⟩) | (go_at_call 31; refine (crc_nil_entry a2 _).mono ?_; rintro e w' ⟨rfl, rfl⟩) | (go_at_call 30; refine (crc_nil_made _).mono ?_; rintro e w' ⟨rfl, rfl⟩) | (go_at_call 11; refine (awake03 _).mono ?_; rintro e w' ⟨rfl, hb⟩))
      go_ret
      exact ⟨rfl, hbl.trans (hb.mono (by omega))⟩
end Go.Proofs.Ytmhlnjgdlcfkhaa
