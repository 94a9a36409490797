/-
  The walk of the statement CrcParts.
-/
import Derived.Test.YtmhlnjgdlcfkhaaCrc
namespace Go.Proofs.Ytmhlnjgdlcfkhaa
open Go.RowKit
set_option linter.unusedVariables false
set_option linter.unusedSimpArgs false

theorem bts_append (a b : ByteArray) : bts (a ++ b) = bts a ++ bts b := by simp [bts]

set_option maxRecDepth 100000 in
set_option maxHeartbeats 1600000 in
theorem walk_CrcParts (a0 : Option Addr) (len0 cap0 : Nat) (z0 : List ByteArray) (w : World) (w0 : IsStrs w a0 len0 cap0 z0) :
    Calls Try.prog 3 #[.slice a0 len0 cap0] w fun e w' => e = .returned (.bool true) ∧ Below w.heap.size w w' := by
  by_cases hbig : 20 < len0
  · clear w0
    go_enter Try.func3, Try.ntmps3
    go_wp2_with (go_at_call 11; refine (awake03 _).mono ?_; rintro e w' ⟨rfl, hb⟩)
    go_ret
    exact ⟨rfl, hb⟩
  have hin : ∀ i, i < len0 → ∃ b off, a0 = some ⟨b, off, none⟩ ∧ b < w.heap.size ∧ w.cell? ⟨b, off + i, none⟩ = some (.string (z0.getD i ByteArray.empty)) ∧ (z0.getD i ByteArray.empty).size ≤ maxLen := by
    intro i hi
    rcases isStrs_cases w0 with h | ⟨b, off, rfl, _, _, _, hb, hc, hw, _⟩
    · omega
    · exact ⟨b, off, rfl, hb, hc i hi, hw i hi⟩
  clear w0
  have HIN := Lib.hid hin
  clear hin
  go_enter Try.func3, Try.ntmps3
  go_wp2_with fail
  refine (crc_new _).mono ?_; rintro e wn ⟨rfl, ht1, hb1, hs1⟩
  go_wp2_with fail
  refine (crc_sum w.heap.size 0 0 (.inl rfl) ByteArray.empty (by decide) _ ht1).mono ?_; rintro e wp ⟨rfl, ht2, hg2⟩
  rw [madeI_first] at ht2
  have b2 := below_gby hb1 hg2 (Nat.le_refl _) (by omega)
  have hs2 : wn.heap.size ≤ wp.heap.size := hg2.size
  have HT2 := Lib.hid ht2
  clear ht1 ht2
  go_wp2_with fail
  go_loopg [4, 5, 6] len0 (fun g t al i wr => ∃ (k : Nat) (m : Nat) (s : ByteArray), k ≤ len0 ∧ g = len0 - k ∧ i = .int .i64 k ∧ t = .int .u32 m ∧ al = .string s ∧ Hid (m = Crc.more 0 (bts s)) ∧ s.size ≤ 100 * k ∧ Tab wr w.heap.size 1 1 ∧ w.heap.size < wr.heap.size ∧ Below w.heap.size w wr)
  case atStart => exact ⟨0, _, ByteArray.empty, Nat.zero_le _, rfl, rfl, rfl, rfl, Lib.hid rfl, by decide, HT2.out, by omega, b2⟩
  case round =>
    obtain ⟨k, m, s, hk, rfl, rfl, rfl, rfl, hm, hsz, ht, hlt', hbl⟩ := hrel
    have hml : m < 4294967296 := by rw [hm.out]; exact Crc.more_lt _ _
    have HT := Lib.hid ht
    clear ht
    by_cases hlt : k < len0
    · obtain ⟨b, off, rfl, hb, hc, hw⟩ := HIN.out k hlt
      have hcr : wr.cell? ⟨b, off + k, none⟩ = some (.string (z0.getD k ByteArray.empty)) := by rw [hbl.cell hb]; exact hc
      have hk1 : (0 : Int) ≤ (k : Int) := by omega
      have hk2 : (k : Int) < (len0 : Int) := by omega
      generalize z0.getD k ByteArray.empty = x at hcr hc hw
      clear hc
      have hz3 : ¬ b = w.heap.size := by omega
      have hbw : b < wr.heap.size := by omega
      by_cases hx : 100 < x.size
      · go_wp2_with (go_at_call 11; refine (awake03 _).mono ?_; rintro e w' ⟨rfl, hb⟩)
        go_ret
        exact ⟨rfl, hbl.trans (hb.mono (by omega))⟩
      · go_wp2_with fail
        refine (crc_more w.heap.size 1 1 (.inr rfl) m hml x hw _ HT.out).mono ?_; rintro e w3 ⟨rfl, ht3, hg3⟩
        rw [madeI_one] at ht3
        have HT3 := Lib.hid ht3
        clear ht3
        have hs3 : wr.heap.size ≤ w3.heap.size := hg3.size
        have hcr3 : w3.cell? ⟨b, off + k, none⟩ = some (.string x) := ((gcell hg3).1 _ _ hbw hz3).trans hcr
        go_wp2_with fail
        have HN : Hid (Crc.more m (bts x) = Crc.more 0 (bts (s ++ x))) := by
          rw [bts_append, Crc.more_append _ _ _ (bts_lt s), ← hm.out]; exact rfl
        go_roundg (len0 - (k + 1))
        case measure => omega
        case rel =>
          exact ⟨k + 1, _, s ++ x, by omega, rfl, by go_num, rfl, rfl, HN, by simp; omega, HT3.out, by omega, below_gby hbl hg3 (Nat.le_refl _) (by omega)⟩
    · have hsm : s.size ≤ maxLen := by unfold maxLen; omega
      go_wp2_with fail
      refine (crc_sum w.heap.size 1 1 (.inr rfl) s hsm _ HT.out).mono ?_; rintro e w3 ⟨rfl, ht3, hg3⟩
      rw [← hm.out]
      clear ht3
      go_wp2_with fail
      refine (awake03 _).mono ?_; rintro e w' ⟨rfl, hb⟩
      go_wp2
      go_ret
      have b3 := below_gby hbl hg3 (Nat.le_refl _) (by omega)
      exact ⟨rfl, b3.trans (hb.mono b3.size)⟩
end Go.Proofs.Ytmhlnjgdlcfkhaa
