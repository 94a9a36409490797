/-
  The walk of the statement OctetPuts.
-/
import Derived.Test.YtmhlnjgdlcfkhaaAwake02
namespace Go.Proofs.Ytmhlnjgdlcfkhaa
open Go.RowKit
set_option linter.unusedVariables false
set_option linter.unusedSimpArgs false

set_option maxRecDepth 100000 in
set_option maxHeartbeats 1600000 in
theorem walk_OctetPuts (n k : Int) (s : ByteArray) (w : World) (w0 : (Lit.int .i64 n).wf = true) (w1 : (Lit.int .i64 k).wf = true) (w2 : s.size ≤ maxLen) :
    Calls Try.prog 5 #[.int .i64 n, .int .i64 k, .string s] w fun e w' => e = .returned (.bool true) ∧ Below w.heap.size w w' := by
  have hb := bounds_i64 w0
  clear w0 w1
  have hs0 : (s.size : Int) ≤ 9223372036854775807 := by unfold maxLen at w2; omega
  by_cases hbig : 300 < s.size
  · go_enter Try.func5, Try.ntmps5
    go_wp2_with (go_at_call 15; refine (awake02 _).mono ?_; rintro e w' ⟨rfl, hb⟩)
    go_ret
    exact ⟨rfl, hb⟩
  · obtain ⟨m, HM⟩ : ∃ m : Nat, Hid (IntKind.u64.wrap n = m ∧ m < 18446744073709551616) := ⟨(IntKind.u64.wrap n).toNat, Lib.hid (by rw [IntKind.wrap_u64]; omega)⟩
    have hm := HM.out.1
    have hm2 := HM.out.2
    go_enter Try.func5, Try.ntmps5
    go_wp2_with (first
      | (go_at_call 16; refine (octet_fixed_any m k hm2 _).mono ?_; rintro e w1 ⟨rfl, hb1⟩)
      | (go_at_call 17; refine (ref02_fixed_any m k hm2 _).mono ?_; rintro e w2 ⟨rfl, hb2⟩)
      | (go_at_call 18; refine (octet_var_any n hb.2 _).mono ?_; rintro e w3 ⟨rfl, hb3⟩)
      | (go_at_call 19; refine (ref02_var_any n hb.2 _).mono ?_; rintro e w4 ⟨rfl, hb4⟩)
      | (go_at_call 20; refine (octet_text s (by omega) _).mono ?_; rintro e w5 ⟨rfl, hb5⟩)
      | (go_at_call 21; refine (ref02_text s (by omega) _).mono ?_; rintro e w6 ⟨rfl, hb6⟩)
      | (go_at_call 15; refine (awake02 _).mono ?_; rintro e w7 ⟨rfl, hb7⟩))
    go_ret
    have B2 := hb1.trans (hb2.mono hb1.size)
    have B3 := B2.trans (hb3.mono B2.size)
    have B4 := B3.trans (hb4.mono B3.size)
    have B5 := B4.trans (hb5.mono B4.size)
    have B6 := B5.trans (hb6.mono B5.size)
    exact ⟨rfl, B6.trans (hb7.mono B6.size)⟩
end Go.Proofs.Ytmhlnjgdlcfkhaa
