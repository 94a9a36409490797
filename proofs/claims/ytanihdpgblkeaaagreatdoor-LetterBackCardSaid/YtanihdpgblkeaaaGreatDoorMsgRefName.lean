/-
  Names of places (the reference of reeve's layer 35): the walks.
-/
import Derived.Test.YtanihdpgblkeaaaGreatDoorMsgRef
import Derived.Test.YtanihdpgblkeaaaGreatDoorDecAll
namespace Go.Proofs.YtanihdpgblkeaaaGreatDoor
open Go.RowKit
set_option linter.unusedVariables false
set_option linter.unusedSimpArgs false

theorem ref35_name (n : Int) (w : World) : Calls Tryz.prog 38 #[.int .i64 n] w fun e w' => e = .returned (.string (strL (nameM n))) ∧ w = w' := by
  have PL := fun w => ref35_place n w
  rcases place_cases n with ⟨e, h⟩ | ⟨e, h⟩ | ⟨e, h⟩ | ⟨e, h, h', h''⟩
  · rw [e] at PL
    have DT := fun w => ref05_textI n (by unfold inI; omega) w
    have hnm : (⟨#[114]⟩ : ByteArray) ++ strL (Lib.itoa n) = strL (nameM n) := by rw [nameM_one e, show (114 : UInt8) :: Lib.itoa n = [114] ++ Lib.itoa n from rfl, strL_app]; rfl
    have hsz : (⟨#[114]⟩ : ByteArray).size + (strL (Lib.itoa n)).size ≤ 9223372036854775807 := by have := itoa_len n (by unfold inI; omega); rw [strL_size]; show 1 + _ ≤ _; omega
    generalize strL (Lib.itoa n) = S at DT hnm hsz
    have HN := Lib.hid hnm
    have PL := Lib.hid PL
    have DT := Lib.hid DT
    clear hnm e h
    go_enter Tryz.func38, Tryz.ntmps38
    go_wp2_with fail
    refine (PL.out _).mono ?_
    rintro e w2 ⟨rfl, rfl⟩
    go_wp2_with fail
    refine (DT.out _).mono ?_
    rintro e w2 ⟨rfl, rfl⟩
    go_wp2_with fail
    go_ret
    exact ⟨by rw [← HN.out]; rfl, rfl⟩
  · rw [e] at PL
    have DT := fun w => ref05_textI (n - 100) (by unfold inI; omega) w
    have hnm : (⟨#[119]⟩ : ByteArray) ++ strL (Lib.itoa (n - 100)) = strL (nameM n) := by rw [nameM_two e, show (119 : UInt8) :: Lib.itoa (n - 100) = [119] ++ Lib.itoa (n - 100) from rfl, strL_app]; rfl
    have hsz : (⟨#[119]⟩ : ByteArray).size + (strL (Lib.itoa (n - 100))).size ≤ 9223372036854775807 := by have := itoa_len (n - 100) (by unfold inI; omega); rw [strL_size]; show 1 + _ ≤ _; omega
    have hw : IntKind.i64.wrap (n - 100) = n - 100 := by rw [IntKind.wrap_i64]; omega
    generalize strL (Lib.itoa (n - 100)) = S at DT hnm hsz
    have HN := Lib.hid hnm
    have PL := Lib.hid PL
    have DT := Lib.hid DT
    clear hnm e h
    go_enter Tryz.func38, Tryz.ntmps38
    go_wp2_with fail
    refine (PL.out _).mono ?_
    rintro e w2 ⟨rfl, rfl⟩
    go_wp2_with fail
    refine (DT.out _).mono ?_
    rintro e w2 ⟨rfl, rfl⟩
    go_wp2_with fail
    go_ret
    exact ⟨by rw [← HN.out]; rfl, rfl⟩
  · rw [e] at PL
    rw [nameM_three e]
    have PL := Lib.hid PL
    clear e h
    go_enter Tryz.func38, Tryz.ntmps38
    go_wp2_with fail
    refine (PL.out _).mono ?_
    rintro e w2 ⟨rfl, rfl⟩
    go_wp2_with fail
    go_ret
    exact ⟨rfl, rfl⟩
  · rw [e] at PL
    rw [nameM_zero e]
    have PL := Lib.hid PL
    clear e h h' h''
    go_enter Tryz.func38, Tryz.ntmps38
    go_wp2_with fail
    refine (PL.out _).mono ?_
    rintro e w2 ⟨rfl, rfl⟩
    go_wp2_with fail
    go_ret
    exact ⟨rfl, rfl⟩
set_option maxRecDepth 100000 in
set_option maxHeartbeats 3200000 in
theorem ref35_parseName (s : ByteArray) (w : World) : Calls Tryz.prog 46 #[.string s] w fun e w' => e = .returned (.tuple #[.int .i64 (parseN s.data.toList).1, .bool (parseN s.data.toList).2]) ∧ w = w' := by
  obtain ⟨RN, hRN⟩ : ∃ R, parseN s.data.toList = R := ⟨_, rfl⟩
  obtain ⟨R1, R2⟩ := RN
  rw [hRN]
  have HR := Lib.hid hRN
  clear hRN
  go_enter Tryz.func46, Tryz.ntmps46
  go_wp2_with fail
  go_loopg [4] 201 (fun gg s4 wr => ∃ i : Nat, i ≤ 201 ∧ gg = 201 - i ∧ s4 = .int .i64 i ∧ w = wr ∧ Hid (∀ j : Nat, j < i → 0 < placeI j → nameM j ≠ s.data.toList))
  case atStart => exact ⟨0, by omega, rfl, rfl, rfl, Lib.hid (fun j h => by omega)⟩
  case round =>
    obtain ⟨i, hi', hg, rfl, rfl, HM⟩ := hrel
    have hg := hg.symm
    subst hg
    by_cases hlt : i < 201
    · have hiI : (i : Int) ≤ 200 := by omega
      have hi0 : (0 : Int) ≤ (i : Int) := by omega
      have PL := Lib.hid (fun w => ref35_place (i : Int) w)
      have hstep : (0 < placeI (i : Int) → nameM (i : Int) ≠ s.data.toList) → Hid (∀ j : Nat, j < i + 1 → 0 < placeI j → nameM j ≠ s.data.toList) := fun h => Lib.hid (fun j hj hp => by
        by_cases e : j = i
        · subst e; exact h hp
        · exact HM.out j (by omega) hp)
      have HST := Lib.hid hstep
      clear hstep
      by_cases hp : 0 < placeI (i : Int)
      · have NM := fun w => ref35_name (i : Int) w
        have hit : nameM (i : Int) = s.data.toList → (R1, R2) = ((i : Int), true) := fun h => by rw [← HR.out, ← h]; exact parseN_name (i : Int) hp
        obtain ⟨pl, hpl⟩ : ∃ p, placeI (i : Int) = p := ⟨_, rfl⟩
        rw [hpl] at hp PL
        obtain ⟨QS, hQS⟩ : ∃ x, strL (nameM (i : Int)) = x := ⟨_, rfl⟩
        rw [hQS] at NM
        have NMH := Lib.hid NM
        have HIT := Lib.hid hit
        have HQS := Lib.hid hQS
        clear NM hit hQS hpl
        go_wp2_with fail
        refine (PL.out _).mono ?_
        rintro e w2 ⟨rfl, rfl⟩
        go_wp2_with fail
        refine (NMH.out _).mono ?_
        rintro e w2 ⟨rfl, rfl⟩
        by_cases hqs : QS = s
        · have hqe : (QS.toList == s.toList) = true := by rw [hqs]; simp
          have HF := Lib.hid (HIT.out (by rw [← hqs, ← HQS.out]; rfl))
          clear hqs HIT HST
          go_wp2_with fail
          go_ret2
          exact ⟨by rw [(Prod.mk.inj HF.out).1, (Prod.mk.inj HF.out).2]; rfl, rfl⟩
        · have hqe : (QS.toList == s.toList) = false := by
            rw [beq_eq_false_iff_ne, ByteArray.toList_eq, ByteArray.toList_eq]
            intro e
            apply hqs
            rw [← strL_of QS, ← strL_of s, e]
          have HM2 := HST.out (fun _ hn => hqs (by rw [← HQS.out, hn, strL_of]))
          clear hqs HIT HST
          go_wp2_with fail
          go_roundg (201 - (i + 1))
          case measure => omega
          case rel => exact ⟨i + 1, by omega, rfl, by go_num, rfl, HM2⟩
      · have HM2 := HST.out (fun h => absurd h hp)
        obtain ⟨pl, hpl⟩ : ∃ p, placeI (i : Int) = p := ⟨_, rfl⟩
        rw [hpl] at hp PL
        have hp' : pl ≤ 0 := by omega
        clear HST hp hpl
        go_wp2_with fail
        refine (PL.out _).mono ?_
        rintro e w2 ⟨rfl, rfl⟩
        go_wp2_with fail
        go_roundg (201 - (i + 1))
        case measure => omega
        case rel => exact ⟨i + 1, by omega, rfl, by go_num, rfl, HM2⟩
    · obtain rfl : i = 201 := by omega
      have HF : Hid ((R1, R2) = (0, false)) := Lib.hid (by
        rw [← HR.out]
        refine parseN_none _ (fun n hn => ?_)
        have hb : 0 ≤ n ∧ n ≤ 200 := by rcases place_cases n with h1 | h1 | h1 | h1 <;> omega
        obtain ⟨j, rfl⟩ : ∃ j : Nat, n = j := ⟨n.toNat, by omega⟩
        exact HM.out j (by omega) hn)
      clear HM
      go_wp2_with fail
      go_ret2
      exact ⟨by rw [(Prod.mk.inj HF.out).1, (Prod.mk.inj HF.out).2]; rfl, rfl⟩
end Go.Proofs.YtanihdpgblkeaaaGreatDoor
