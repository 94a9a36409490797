/-
  Which runes are signs (reeve's layer 5): strings.IndexRune and strings.ContainsRune at the sixteen signs, for every rune; whether all of a text are signs.
-/
import Derived.Test.YtogjckengmkfiaaDoorHexRef
import Derived.Test.YtogjckengmkfiaaDoorDecText
import Derived.Laws.Runes
import Derived.Laws.RangeAny
namespace Go.Proofs.YtogjckengmkfiaaDoor
open Go.RowKit
set_option linter.unusedVariables false
set_option linter.unusedSimpArgs false

def signS : ByteArray := ⟨#[48, 49, 50, 51, 52, 53, 54, 55, 56, 57, 97, 98, 99, 100, 101, 102]⟩
theorem idx_none (l : List UInt8) (c : UInt8) (h : c ∉ l) : Lib.indexByte l c = -1 := by
  induction l with
  | nil => rfl
  | cons b r ih =>
    unfold Lib.indexByte
    have h1 : ¬ b = c := by rintro rfl; exact h (by simp)
    rw [ih (fun hm => h (by simp [hm]))]
    simp [h1]
theorem idx_high (c : UInt8) (a : Nat) (h : 128 ≤ c.toNat) : Lib.indexByte (signS.extract a 16).data.toList c = -1 := by
  have hn : c ∉ (signS.extract a 16).data.toList := by
    intro hm
    have := mem_extract hm
    revert h
    have : c ∈ sigL := this
    unfold sigL at this
    simp only [List.mem_cons, List.not_mem_nil, or_false] at this
    rcases this with rfl | rfl | rfl | rfl | rfl | rfl | rfl | rfl | rfl | rfl | rfl | rfl | rfl | rfl | rfl | rfl <;> decide
  exact idx_none _ _ hn
set_option maxRecDepth 100000 in
set_option maxHeartbeats 3200000 in
theorem rune_high (r : Int) (h128 : 128 ≤ r) (w : World) : Calls Tryd.prog 107 #[.string ⟨#[48, 49, 50, 51, 52, 53, 54, 55, 56, 57, 97, 98, 99, 100, 101, 102]⟩, .int .i32 r] w fun e w' => e = .returned (.int .i64 (-1)) ∧ Below w.heap.size w w' := by
  have h0 : (0 : Int) ≤ r := by omega
  have hd1 : decide (r < 128) = false := decide_eq_false (by omega)
  by_cases hE : r = 65533
  · subst hE
    go_enter Tryd.func107, Tryd.ntmps107
    go_wp2_with fail
    go_loopg [5, 6] 16 (fun g a b wr => ∃ p : Nat, p ≤ 16 ∧ g = 16 - p ∧ wr = w.iter signS p)
    case atStart => exact ⟨0, Nat.zero_le _, rfl, rfl⟩
    case round =>
      obtain ⟨p, hp, hg, rfl⟩ := hrel
      have hg := hg.symm
      subst hg
      by_cases hlt : p < 16
      · obtain ⟨c, hc⟩ : ∃ c, signS[p]'hlt = c := ⟨_, rfl⟩
        have hc1 : c.toNat < 128 := by
          have := sig_at p hlt
          have h2 : (c.toNat : Int) = ((sg p).toNat : Int) := by rw [← hc]; exact this
          have h3 : sg p ∈ sigL := plc_mem (by rw [plc_sg hlt]; exact hlt)
          have h4 : plc (sg p) = p := plc_sg hlt
          by_cases h5 : 128 ≤ (sg p).toNat
          · rw [plc_high h5] at h4; omega
          · omega
        have hnx : ∀ ty, (Instr.next (.pointer (some ⟨w.heap.size, 0, none⟩)) true ty).run Tryd.prog (w.iter signS p) = .ok (.tuple #[.bool true, .int .i64 p, .int .i32 c.toNat]) (w.iter signS (p + 1)) := by
          intro ty
          have := run_next_ascii (P := Tryd.prog) w signS p ty hlt (by rw [hc]; exact hc1)
          rw [hc] at this
          exact this
        have hb : ((c.toNat : Int) == 65533) = false := beq_eq_false_iff_ne.2 (by omega)
        have hb2 : ¬ (c.toNat : Int) = 65533 := by omega
        clear hc
        go_wp2_with fail
        go_roundg (16 - (p + 1))
        case measure => omega
        case rel => exact ⟨p + 1, by omega, rfl, rfl⟩
      · obtain rfl : p = 16 := by omega
        have hnx : ∀ ty, (Instr.next (.pointer (some ⟨w.heap.size, 0, none⟩)) true ty).run Tryd.prog (w.iter signS 16) = .ok (.tuple #[.bool false]) (w.iter signS 16) := fun ty => run_next_end (P := Tryd.prog) w signS 16 ty hlt
        go_wp2_with fail
        go_ret
        exact ⟨rfl, below_iter _ _ _⟩
  · have hne : (r == 65533) = false := beq_eq_false_iff_ne.2 hE
    have VR := Lib.hid (fun w => Tryd.utf8_ValidRune r w)
    cases hv : Lib.validRune r with
    | false =>
      rw [hv] at VR
      go_enter Tryd.func107, Tryd.ntmps107
      go_wp2_with fail
      refine (VR.out _).mono ?_
      rintro e w1 ⟨rfl, rfl⟩
      go_wp2_with fail
      go_ret
      exact ⟨rfl, Below.refl _ _⟩
    | true =>
      rw [hv] at VR
      have hv2 : Utf8.valid r = true := by
        rw [validRune_eq]
        exact hv
      obtain ⟨e1, e2, e3⟩ := encode_facts r hv2 h128
      obtain ⟨RS, hRS⟩ : ∃ RS, Utf8.encode r = RS := ⟨_, rfl⟩
      rw [hRS] at e1 e2 e3
      obtain ⟨m, hm⟩ : ∃ m, RS.size = m + 1 := ⟨RS.size - 1, by omega⟩
      have hml : m < RS.size := by omega
      obtain ⟨c, hc⟩ : ∃ c, RS[m]'hml = c := ⟨_, rfl⟩
      have hc128 : 128 ≤ c.toNat := by
        have h := e3 (by omega)
        rw [← hc]
        have e : RS.size - 1 = m := by omega
        simp only [e] at h
        exact h
      have hm16 : m < 16 := by omega
      have hm3 : m ≤ 3 := by omega
      have sa := sig_at m hm16
      have hs128 : (sg m).toNat < 128 := by
        by_cases h5 : 128 ≤ (sg m).toNat
        · have h4 := plc_sg hm16; rw [plc_high h5] at h4; omega
        · omega
      have hcb : (((RS[m]'hml).toNat : Nat) : Int) = (c.toNat : Int) := by rw [hc]
      have hne3 : ¬ ((sg m).toNat : Int) = (c.toNat : Int) := by omega
      have hne2 : (((sg m).toNat : Int) != (c.toNat : Int)) = true := by simp [hne3]
      have IB : Hid (∀ w : World, Calls Tryd.prog 68 #[.string (signS.extract (m + 1) 16), .int .u8 c.toNat] w fun e w' => e = .returned (.int .i64 (-1)) ∧ w' = w) := Lib.hid (fun w => by
        have h := Tryd.strings_IndexByte (signS.extract (m + 1) 16) c.toNat w
        rw [show ((c.toNat : Int)).toNat.toUInt8 = c by simp, idx_high c (m + 1) hc128] at h
        exact h)
      obtain ⟨SX, hSX⟩ : ∃ S, signS.extract (m + 1) 16 = S := ⟨_, rfl⟩
      rw [hSX] at IB
      have hSX2 : (⟨#[48, 49, 50, 51, 52, 53, 54, 55, 56, 57, 97, 98, 99, 100, 101, 102]⟩ : ByteArray).extract (m + 1) 16 = SX := hSX
      generalize sg m = x at *
      have hmp : ((m + 1 : Nat) : Int) = (m : Int) + 1 := by push_cast; rfl
      have hm1 : (m : Int) + 1 - 1 = (m : Int) := by omega
      have hw1 : IntKind.i64.wrap (m : Int) = (m : Int) := by rw [IntKind.wrap_i64]; omega
      have hw2 : IntKind.i64.wrap ((m : Int) + 1) = (m : Int) + 1 := by rw [IntKind.wrap_i64]; omega
      have hi0 : (0 : Int) ≤ (m : Int) := by omega
      have hi1 : (m : Int) < 16 := by omega
      have hi2 : (m : Int) < (m : Int) + 1 := by omega
      have hi3 : (m : Int) + 1 ≤ 16 := by omega
      have hi4 : (0 : Int) ≤ (m : Int) + 1 := by omega
      have hi5 : ((m : Int) + 1).toNat = m + 1 := by omega
      clear hc e1 e2 e3 hSX hs128 hc128 hv2 hv
      go_enter Tryd.func107, Tryd.ntmps107
      go_wp2_with fail
      refine (VR.out _).mono ?_
      rintro e w1 ⟨rfl, rfl⟩
      go_wp2_with fail
      go_step3
      go_wp2_with fail
      go_loopg [9, 10] 1 (fun g i f wr => g = 1 ∧ i = .int .i64 m ∧ f = .int .i64 0 ∧ w1 = wr)
      case atStart => exact ⟨rfl, rfl, rfl, rfl⟩
      case round =>
        obtain ⟨rfl, rfl, rfl, rfl⟩ := hrel
        go_wp2_with fail
        go_step3
        go_upto_region 6 with fail
        go_quiet (fail)
        go_upto_region 7 with fail
        go_region_held3 (fun _ => True) (trivial) ((go_at_call 68; refine (IB.out _).mono ?_; rintro e w2 ⟨rfl, rfl⟩))
        go_wp2_with fail
        rw [Exit.noGoto_ret]
        simp only [Exit.inBlock, Exit.then, Exit.noGoto_ret]
        exact bodyPost_ret (results_tmp rfl _ _ _) rfl ⟨rfl, below_drewN _ _⟩
theorem sign_rune (c : UInt8) (h : c.toNat < 128) (w : World) : Calls Tryd.prog 93 #[.int .i32 c.toNat] w fun e w' => e = .returned (.bool (decide (plc c < 16))) ∧ w = w' := by
  have CR : Hid (Calls Tryd.prog 94 #[.string ⟨#[48, 49, 50, 51, 52, 53, 54, 55, 56, 57, 97, 98, 99, 100, 101, 102]⟩, .int .i32 c.toNat] w fun e w' => e = .returned (.bool (decide (plc c < 16))) ∧ w' = w) := Lib.hid (by
    have h1 := Tryd.strings_ContainsRune_ascii signS c.toNat w (by omega) (by omega)
    rw [show ((c.toNat : Int)).toNat.toUInt8 = c by simp, show signS.data.toList = sigL from rfl, index_sign c] at h1
    have e : decide ((0 : Int) ≤ if plc c < 16 then (plc c : Int) else -1) = decide (plc c < 16) := by
      by_cases hp : plc c < 16
      · simp [hp]
      · simp [hp]
    rw [e] at h1
    exact h1)
  go_enter Tryd.func93, Tryd.ntmps93
  go_wp2_with fail
  refine CR.out.mono ?_
  rintro e w1 ⟨rfl, rfl⟩
  go_wp2_with fail
  go_ret
  exact ⟨rfl, rfl⟩
theorem contains_high (r : Int) (h128 : 128 ≤ r) (w : World) : Calls Tryd.prog 94 #[.string ⟨#[48, 49, 50, 51, 52, 53, 54, 55, 56, 57, 97, 98, 99, 100, 101, 102]⟩, .int .i32 r] w fun e w' => e = .returned (.bool false) ∧ Below w.heap.size w w' := by
  have RH := Lib.hid (rune_high r h128 w)
  go_enter Tryd.func94, Tryd.ntmps94
  go_wp2_with fail
  refine RH.out.mono ?_
  rintro e w1 ⟨rfl, hb1⟩
  have HB := Lib.hid hb1
  clear hb1
  go_wp2_with fail
  go_ret
  exact ⟨rfl, HB.out⟩
theorem sign_high (r : Int) (h128 : 128 ≤ r) (w : World) : Calls Tryd.prog 93 #[.int .i32 r] w fun e w' => e = .returned (.bool false) ∧ Below w.heap.size w w' := by
  have RH := Lib.hid (contains_high r h128 w)
  go_enter Tryd.func93, Tryd.ntmps93
  go_wp2_with fail
  refine RH.out.mono ?_
  rintro e w1 ⟨rfl, hb1⟩
  have HB := Lib.hid hb1
  clear hb1
  go_wp2_with fail
  go_ret
  exact ⟨rfl, HB.out⟩
set_option maxRecDepth 100000 in
set_option maxHeartbeats 1600000 in
theorem dec_signs (s : ByteArray) (hs : s.size ≤ maxLen) (w : World) :
    Calls Tryd.prog 82 #[.string s, .func (.func 93) #[] #[]] w fun e w' => e = .returned (.bool (hexOk s.data.toList)) ∧ Below w.heap.size w w' := by
  have hs63 : s.size ≤ 9223372036854775807 := by unfold maxLen at hs; omega
  obtain ⟨B, hB⟩ : ∃ B, hexOk s.data.toList = B := ⟨_, rfl⟩
  rw [hB]
  have HB := Lib.hid hB
  clear hB
  go_enter Tryd.func82, Tryd.ntmps82
  go_wp2_with fail
  go_loopg [6] s.size (fun g c wr => ∃ p : Nat, p ≤ s.size ∧ g = s.size - p ∧ wr = w.iter s p ∧ Hid (hexOk (s.data.toList.take p) = true))
  case atStart => exact ⟨0, Nat.zero_le _, rfl, rfl, Lib.hid (by simp [hexOk])⟩
  case round =>
    obtain ⟨p, hp, hg, rfl, HP⟩ := hrel
    have hg := hg.symm
    subst hg
    by_cases hlt : p < s.size
    · obtain ⟨c, hc⟩ : ∃ c, s[p]'hlt = c := ⟨_, rfl⟩
      have hget : s.data.toList[p]? = some c := by rw [byte_at s p hlt, hc]
      by_cases hd : plc c < 16
      · have hc1 : c.toNat < 128 := by
          by_cases h5 : 128 ≤ c.toNat
          · rw [plc_high h5] at hd; omega
          · omega
        have hnx : ∀ ty, (Instr.next (.pointer (some ⟨w.heap.size, 0, none⟩)) true ty).run Tryd.prog (w.iter s p) = .ok (.tuple #[.bool true, .int .i64 p, .int .i32 c.toNat]) (w.iter s (p + 1)) := by
          intro ty
          have := run_next_ascii (P := Tryd.prog) w s p ty hlt (by rw [hc]; exact hc1)
          rw [hc] at this
          exact this
        have HP2 : Hid (hexOk (s.data.toList.take (p + 1)) = true) := Lib.hid (by
          have h := HP.out
          unfold hexOk at h ⊢
          rw [take_at hget, List.all_append, h]; simp [hd])
        have DY := Lib.hid (fun w => sign_rune c hc1 w)
        rw [show decide (plc c < 16) = true from decide_eq_true hd] at DY
        clear hget hc hd HP hc1
        go_wp2_with fail
        refine (DY.out _).mono ?_
        rintro e w1 ⟨rfl, rfl⟩
        go_wp2_with fail
        go_roundg (s.size - (p + 1))
        case measure => omega
        case rel => exact ⟨p + 1, by omega, rfl, rfl, HP2⟩
      · have hBf : Hid (B = false) := Lib.hid (by
          rw [← HB.out]
          unfold hexOk
          rw [List.all_eq_false]
          exact ⟨c, List.mem_of_getElem? hget, by simpa using hd⟩)
        obtain ⟨r, q, hr, hnx⟩ : ∃ (r : Int) (q : Nat), (∀ w, Calls Tryd.prog 93 #[.int .i32 r] w fun e w' => e = .returned (.bool false) ∧ Below w.heap.size w w') ∧ ∀ ty, (Instr.next (.pointer (some ⟨w.heap.size, 0, none⟩)) true ty).run Tryd.prog (w.iter s p) = .ok (.tuple #[.bool true, .int .i64 p, .int .i32 r]) (w.iter s q) := by
          by_cases ha : c.toNat < 128
          · refine ⟨c.toNat, p + 1, fun w => ?_, fun ty => ?_⟩
            · refine (sign_rune c ha w).mono ?_
              rintro e w' ⟨he, rfl⟩
              rw [show decide (plc c < 16) = false from decide_eq_false hd] at he
              exact ⟨he, Below.refl _ _⟩
            · have := run_next_ascii (P := Tryd.prog) w s p ty hlt (by rw [hc]; omega)
              rw [hc] at this
              exact this
          · have h128 := (decode_high s p hlt (by rw [hc]; omega)).1
            exact ⟨((Utf8.decode s p).1 : Int), p + (Utf8.decode s p).2, fun w => sign_high _ (by omega) w, fun ty => run_next_any (P := Tryd.prog) w s p ty hlt⟩
        have DN := Lib.hid hr
        clear hget hc hd HP hr
        go_wp2_with fail
        refine (DN.out _).mono ?_
        rintro e w1 ⟨rfl, hb1⟩
        have HBB := Lib.hid ((below_iter w s q).trans (hb1.mono (below_iter w s q).size))
        clear hb1
        go_wp2_with fail
        go_ret
        exact ⟨by rw [hBf.out]; rfl, HBB.out⟩
    · obtain rfl : p = s.size := by omega
      have hnx : ∀ ty, (Instr.next (.pointer (some ⟨w.heap.size, 0, none⟩)) true ty).run Tryd.prog (w.iter s s.size) = .ok (.tuple #[.bool false]) (w.iter s s.size) := fun ty => run_next_end (P := Tryd.prog) w s s.size ty hlt
      have hBt : Hid (B = true) := Lib.hid (by
        rw [← HB.out, ← HP.out, List.take_of_length_le (by rw [show s.size = s.data.toList.length from Lib.size_eq s]; exact Nat.le_refl _)])
      clear HP
      go_wp2_with fail
      go_ret
      exact ⟨by rw [hBt.out]; rfl, below_iter _ _ _⟩
end Go.Proofs.YtogjckengmkfiaaDoor
