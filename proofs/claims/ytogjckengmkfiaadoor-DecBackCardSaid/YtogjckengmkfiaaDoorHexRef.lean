/-
  Bytes as signs (reeve's layer 5): the reference's Hex and place.
-/
import Derived.Test.YtogjckengmkfiaaDoorHexMath
import Derived.Test.YtogjckengmkfiaaDoorWordsRef
import Derived.BigQuiet
namespace Go.Proofs.YtogjckengmkfiaaDoor
open Go.RowKit
set_option linter.unusedVariables false
set_option linter.unusedSimpArgs false

theorem sig_ext (k : Nat) (h : k < 16) : (⟨#[48, 49, 50, 51, 52, 53, 54, 55, 56, 57, 97, 98, 99, 100, 101, 102]⟩ : ByteArray).extract k (k + 1) = strL [sg k] := by
  have : k = 0 ∨ k = 1 ∨ k = 2 ∨ k = 3 ∨ k = 4 ∨ k = 5 ∨ k = 6 ∨ k = 7 ∨ k = 8 ∨ k = 9 ∨ k = 10 ∨ k = 11 ∨ k = 12 ∨ k = 13 ∨ k = 14 ∨ k = 15 := by omega
  rcases this with rfl | rfl | rfl | rfl | rfl | rfl | rfl | rfl | rfl | rfl | rfl | rfl | rfl | rfl | rfl | rfl <;> rfl
set_option maxRecDepth 100000 in
set_option maxHeartbeats 1600000 in
theorem ref05_hex (s : ByteArray) (hs : s.size ≤ 1000000) (w : World) :
    Calls Tryd.prog 67 #[.string s] w fun e w' => e = .returned (.string (strL (hexL s.data.toList))) ∧ ∃ m, w' = w.drewN m := by
  have hs63 : s.size ≤ 9223372036854775807 := by omega
  have hsl : s.data.toList.length = s.size := (Lib.size_eq s).symm
  obtain ⟨RES, hRES⟩ : ∃ R, strL (hexL s.data.toList) = R := ⟨_, rfl⟩
  rw [hRES]
  have HRES := Lib.hid hRES
  clear hRES
  go_enter Tryd.func67, Tryd.ntmps67
  go_wp2_with fail
  go_loopg [3, 4] s.size (fun gg s3 s4 wr => ∃ (i q : Nat), i ≤ s.size ∧ gg = s.size - i ∧ s4 = .int .i64 i ∧ s3 = .string (strL (hexL (s.data.toList.take i))) ∧ wr = w.drewN q)
  case atStart => exact ⟨0, 0, by omega, rfl, rfl, rfl, rfl⟩
  case round =>
    obtain ⟨i, qn, hi', hg, rfl, rfl, rfl⟩ := hrel
    have hg := hg.symm
    subst hg
    by_cases hlt : i < s.size
    · obtain ⟨c, hc⟩ : ∃ c, s[i]'hlt = c := ⟨_, rfl⟩
      have hget : s.data.toList[i]? = some c := by rw [byte_at s i hlt, hc]
      have hby : (((s[i]'hlt).toNat : Nat) : Int) = (c.toNat : Int) := by rw [hc]
      have hiI : (i : Int) < (s.size : Int) := by omega
      have hi0 : (0 : Int) ≤ (i : Int) := by omega
      have hc256 := c.toNat_lt
      obtain ⟨a, ha⟩ : ∃ a, c.toNat / 16 = a := ⟨_, rfl⟩
      obtain ⟨b, hb⟩ : ∃ b, c.toNat % 16 = b := ⟨_, rfl⟩
      have ha16 : a < 16 := by omega
      have hb16 : b < 16 := by omega
      have hP := hexL_take s.data.toList i c hget
      rw [ha, hb] at hP
      have qa : (c.toNat : Int) / 16 = (a : Int) := by omega
      have qb : (c.toNat : Int) % 16 = (b : Int) := by omega
      have qa2 : (a : Int) < 16 := by omega
      have qb2 : (b : Int) < 16 := by omega
      have sa := sig_ext a ha16
      have sb := sig_ext b hb16
      have hlen : (hexL (s.data.toList.take i)).length ≤ 2000000 := by rw [hexL_length, List.length_take]; omega
      generalize sg a = x at sa hP
      generalize sg b = y at sb hP
      generalize hexL (s.data.toList.take i) = LL at hP hlen ⊢
      have HP : Hid (strL LL ++ strL [x] ++ strL [y] = strL (hexL (s.data.toList.take (i + 1)))) := Lib.hid (by rw [hP, strL_app, strL_app])
      have z1 : (strL LL).size ≤ 2000000 := by rw [strL_size]; exact hlen
      have z2 : (strL [x]).size = 1 := rfl
      have z3 : (strL [y]).size = 1 := rfl
      generalize strL LL = LB at *
      generalize strL [x] = XB at *
      generalize strL [y] = YB at *
      clear hget hc hP ha hb hc256
      go_upto_region 5 with fail
      go_quiet (fail)
      obtain ⟨q1, hq1⟩ : ∃ q1, (w.drewN qn).drewN nq = w.drewN q1 := ⟨qn + nq, by first | rfl | simp⟩
      rw [hq1]
      clear hq1
      have wa : IntKind.i64.wrap ((a : Int) + 1) = (a : Int) + 1 := by rw [IntKind.wrap_i64]; omega
      have wb : IntKind.i64.wrap ((b : Int) + 1) = (b : Int) + 1 := by rw [IntKind.wrap_i64]; omega
      have ta : ((a : Int) + 1).toNat = a + 1 := by omega
      have tb : ((b : Int) + 1).toNat = b + 1 := by omega
      have ba0 : (0 : Int) ≤ (a : Int) := by omega
      have bb0 : (0 : Int) ≤ (b : Int) := by omega
      have ba1 : (a : Int) ≤ (a : Int) + 1 := by omega
      have bb1 : (b : Int) ≤ (b : Int) + 1 := by omega
      have ba2 : (a : Int) + 1 ≤ 16 := by omega
      have bb2 : (b : Int) + 1 ≤ 16 := by omega
      have n1 : ¬ (9223372036854775807 < LB.size + 1) := by omega
      have n2 : ¬ (9223372036854775807 < LB.size + 1 + 1) := by omega
      go_upto_region 6 with fail
      go_quiet (fail)
      go_wp2_with fail
      go_roundg (s.size - (i + 1))
      case measure => omega
      case rel => exact ⟨i + 1, q1 + nq, by omega, rfl, by go_num, by rw [← HP.out], rfl⟩
    · obtain rfl : i = s.size := by omega
      have HF : Hid (strL (hexL (s.data.toList.take s.size)) = RES) := Lib.hid (by
        rw [← HRES.out, List.take_of_length_le (by rw [hsl]; exact Nat.le_refl _)])
      rw [HF.out]
      go_wp2_with fail
      go_ret
      exact ⟨rfl, qn, rfl⟩
theorem plc_step (k : Nat) (c : UInt8) (h : k < 16) (hk : k ≤ plc c) : (sg k = c → plc c = k) ∧ (sg k ≠ c → k + 1 ≤ plc c) := by
  refine ⟨fun e => by rw [← e, plc_sg h], fun e => ?_⟩
  by_cases hh : plc c = k
  · exact absurd (by rw [← hh, sg_plc (by omega)]) e
  · omega
theorem ref05_place (c : UInt8) (w : World) :
    Calls Tryd.prog 96 #[.int .u8 c.toNat] w fun e w' => e = .returned (.int .i64 (plc c)) ∧ w = w' := by
  have hle := plc_le c
  obtain ⟨P, hP⟩ : ∃ P, plc c = P := ⟨_, rfl⟩
  rw [hP] at hle ⊢
  have HP := Lib.hid hP
  clear hP
  go_enter Tryd.func96, Tryd.ntmps96
  go_wp2_with fail
  go_loopg [3] 16 (fun g i wr => ∃ (k : Nat), k ≤ P ∧ g = 16 - k ∧ i = .int .i64 k ∧ w = wr)
  case atStart => exact ⟨0, Nat.zero_le _, rfl, rfl, rfl⟩
  case round =>
    obtain ⟨k, hk, hg, rfl, rfl⟩ := hrel
    have hg := hg.symm
    subst hg
    have hk0 : (0 : Int) ≤ (k : Int) := by omega
    by_cases h16 : k < 16
    · have hkI : (k : Int) < 16 := by omega
      obtain ⟨s1, s2⟩ := plc_step k c h16 (by rw [HP.out]; exact hk)
      rw [HP.out] at s1 s2
      have sa := sig_at k h16
      by_cases he : sg k = c
      · have hq : ((sg k).toNat : Int) = (c.toNat : Int) := by rw [he]
        have hq2 : (((sg k).toNat : Int) != (c.toNat : Int)) = false := by simp [hq]
        obtain rfl : P = k := s1 he
        generalize sg P = x at *
        clear s1 s2 he
        go_wp2_with fail
        go_ret
        exact ⟨rfl, rfl⟩
      · have hn : ¬ ((sg k).toNat : Int) = (c.toNat : Int) := by intro e; apply he; rw [← UInt8.toNat_inj]; omega
        have hq2 : (((sg k).toNat : Int) != (c.toNat : Int)) = true := by simp [hn]
        have hk1 := s2 he
        generalize sg k = x at *
        clear s1 s2 he
        go_wp2_with fail
        go_roundg (16 - (k + 1))
        case measure => omega
        case rel => exact ⟨k + 1, hk1, rfl, by go_num, rfl⟩
    · obtain rfl : k = 16 := by omega
      obtain rfl : P = 16 := by omega
      go_wp2_with fail
      go_ret
      exact ⟨rfl, rfl⟩
end Go.Proofs.YtogjckengmkfiaaDoor
