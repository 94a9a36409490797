/-
  The number of a text (reeve's layer 5): the program's walk and the reference's.
-/
import Derived.Test.YtanihdpgblkeaaaDoorDecText
namespace Go.Proofs.YtanihdpgblkeaaaDoor
open Go.RowKit
set_option linter.unusedVariables false
set_option linter.unusedSimpArgs false

/-- The number of a text, and the error. -/
def decR (l : List UInt8) : Int × Int := match decV l with
  | some n => (n, 0)
  | none => (0, 2)
theorem decR_none {l : List UInt8} (h : ∀ n, inI n → Lib.itoa n ≠ l) : decR l = (0, 2) := by unfold decR; rw [decV_none h]
theorem decR_text {l : List UInt8} {n : Int} (h : inI n) (h2 : Lib.itoa n = l) : decR l = (n, 0) := by unfold decR; rw [← h2, decV_itoa n h]
theorem atoi_in {l : List UInt8} {v : Int} (h : Lib.atoiAll l = .ok v) : inI v := by
  unfold Lib.atoiAll at h
  unfold inI
  split at h
  · cases h
  · simp only at h
    split at h
    · cases h
    · cases h
    · rename_i u _
      split at h
      · cases h
      · split at h
        · cases h
        · injection h with h
          split at h <;> omega
theorem str_eq_list (n : Int) (s : ByteArray) : strL (Lib.itoa n) = s ↔ Lib.itoa n = s.data.toList := by
  constructor
  · intro h; rw [← h]; rfl
  · intro h; rw [h]; exact strL_of s
theorem beq_str {a b : ByteArray} (h : a = b) : (a.toList == b.toList) = true := by subst h; simp
theorem beq_str_ne {a b : ByteArray} (h : a ≠ b) : (a.toList == b.toList) = false := (Lib.bytes_beq_false_iff a b).2 h
set_option maxRecDepth 100000 in
set_option maxHeartbeats 1600000 in
theorem dec_parse (s : ByteArray) (hs : s.size ≤ 100000) (w : World) (hl : Laid w) :
    Calls Tryd.prog 39 #[.string s] w fun e w' => e = .returned (.tuple #[.int .i64 (decR s.data.toList).1, .int .i64 (decR s.data.toList).2]) ∧ Below w.heap.size w w' := by
  have hs63 : s.size ≤ 9223372036854775807 := by omega
  have TP : Hid (Calls Tryd.prog 40 #[.string s, .string ⟨#[45]⟩] w fun e w' => e = .returned (.string (strL (Lib.trimPrefix s.data.toList [45]))) ∧ w' = w) := Lib.hid (Tryd.strings_TrimPrefix s ⟨#[45]⟩ w)
  have hle := Lib.trimPrefix_le s.data.toList [45]
  have hsl : s.data.toList.length = s.size := (Lib.size_eq s).symm
  have AD := Lib.hid (fun w => dec_digits (strL (Lib.trimPrefix s.data.toList [45])) (by rw [strL_size]; unfold maxLen; omega) w)
  rw [strL_list] at AD
  have hno : (Lib.trimPrefix s.data.toList [45]).all isD = false → decR s.data.toList = (0, 2) := by
    intro h
    refine decR_none (fun n _ e => ?_)
    rw [← e, itoa_trim] at h
    cases h
  have hat := fun n (h : inI n) (e : Lib.itoa n = s.data.toList) => show Lib.atoiAll s.data.toList = .ok n by rw [← e]; exact atoi_itoa n h
  have hok := fun n (h : inI n) (e : Lib.itoa n = s.data.toList) => decR_text h e
  have hnn := fun (h : ∀ n, inI n → Lib.itoa n ≠ s.data.toList) => decR_none h
  have HL := Lib.hid hl
  generalize (Lib.trimPrefix s.data.toList [45]).all isD = ad at AD hno
  generalize strL (Lib.trimPrefix s.data.toList [45]) = T at TP AD
  obtain ⟨RR, hR⟩ : ∃ RR, decR s.data.toList = RR := ⟨_, rfl⟩
  rw [hR] at hno ⊢
  simp only [hR] at hok hnn
  obtain ⟨R1, R2⟩ := RR
  have HNO := Lib.hid hno
  have HOK := Lib.hid hok
  have HNN := Lib.hid hnn
  have HAT := Lib.hid hat
  clear hno hok hnn hat hl hle hR
  go_enter Tryd.func39, Tryd.ntmps39
  go_wp2_with fail
  refine TP.out.mono ?_
  rintro e w0 ⟨rfl, rfl⟩
  go_wp2_with fail
  refine (AD.out _).mono ?_
  rintro e w1 ⟨rfl, hb1⟩
  have L1 := Lib.hid (HL.out.below hb1)
  have B1 := Lib.hid hb1
  clear hb1 TP AD HL
  cases ad with
  | false =>
    have HR := Lib.hid (HNO.out rfl)
    clear HNO HOK HNN HAT
    go_wp2_with fail
    go_ret2
    exact ⟨by rw [(Prod.mk.inj HR.out).1, (Prod.mk.inj HR.out).2]; rfl, B1.out⟩
  | true =>
    clear HNO
    cases ha : Lib.atoiAll s.data.toList with
    | ok v =>
      have hv := atoi_in ha
      have AT := Lib.hid (Tryd.strconv_Atoi_ok s (by omega) v ha w1)
      have TX := Lib.hid (fun w h => dec_text v hv w h)
      go_wp2_with fail
      refine AT.out.mono ?_
      rintro e w2 ⟨rfl, hw2⟩
      have hb2 : Below w1.heap.size w1 w2 := by
        rcases hw2 with rfl | ⟨t, rfl⟩
        · exact Below.refl _ _
        · exact Lib.bytesWorld_below _ _ _
      have L2 := Lib.hid (L1.out.below hb2)
      have B2 := Lib.hid (B1.out.trans (hb2.mono B1.out.size))
      clear hb2 hw2 AT B1 L1
      go_wp2_with fail
      refine (TX.out _ L2.out).mono ?_
      rintro e w3 ⟨rfl, hb3⟩
      have B3 := Lib.hid (B2.out.trans (hb3.mono B2.out.size))
      clear hb3 TX
      by_cases he : Lib.itoa v = s.data.toList
      · have HR := Lib.hid (HOK.out v hv he)
        have hq := beq_str ((str_eq_list v s).2 he)
        generalize strL (Lib.itoa v) = V at hq ⊢
        clear he HOK HNN HAT ha
        go_wp2_with fail
        go_ret2
        exact ⟨by rw [(Prod.mk.inj HR.out).1, (Prod.mk.inj HR.out).2]; rfl, B3.out⟩
      · have HR := Lib.hid (HNN.out (fun n hn e => by
          have h2 := HAT.out n hn e
          rw [ha] at h2
          injection h2 with h2
          subst h2
          exact he e))
        have hq := beq_str_ne (fun e => he ((str_eq_list v s).1 e))
        generalize strL (Lib.itoa v) = V at hq ⊢
        clear he HOK HNN HAT ha
        go_wp2_with fail
        go_ret2
        exact ⟨by rw [(Prod.mk.inj HR.out).1, (Prod.mk.inj HR.out).2]; rfl, B3.out⟩
    | «syntax» =>
      have HR := Lib.hid (HNN.out (fun n hn e => by have h2 := HAT.out n hn e; rw [ha] at h2; cases h2))
      obtain ⟨tp, p, hvar⟩ := L1.out.syn
      have AT := Lib.hid (Tryd.strconv_Atoi_syntax_var s (by omega) ha tp p w1 hvar)
      clear HOK HNN HAT ha hvar
      go_wp2_with fail
      refine AT.out.mono ?_
      rintro e w2 ⟨N, rfl, _, _, hb2⟩
      have B2 := Lib.hid (B1.out.trans (hb2.mono B1.out.size))
      clear hb2
      go_wp2_with fail
      go_ret2
      exact ⟨by rw [(Prod.mk.inj HR.out).1, (Prod.mk.inj HR.out).2]; rfl, B2.out⟩
    | range =>
      have HR := Lib.hid (HNN.out (fun n hn e => by have h2 := HAT.out n hn e; rw [ha] at h2; cases h2))
      obtain ⟨tp, p, hvar⟩ := L1.out.rng
      have AT := Lib.hid (Tryd.strconv_Atoi_range_var s (by omega) ha tp p w1 hvar)
      clear HOK HNN HAT ha hvar
      go_wp2_with fail
      refine AT.out.mono ?_
      rintro e w2 ⟨N, rfl, _, _, hb2⟩
      have B2 := Lib.hid (B1.out.trans (hb2.mono B1.out.size))
      clear hb2
      go_wp2_with fail
      go_ret2
      exact ⟨by rw [(Prod.mk.inj HR.out).1, (Prod.mk.inj HR.out).2]; rfl, B2.out⟩
theorem sgn_take_neg {l : List UInt8} {q : Nat} {c : UInt8} (h0 : l[0]? = some 45) (hq : 1 ≤ q) (hc : l[q]? = some c) (hd : isD c = true) : sgnV (l.take (q + 1)) = sgnV (l.take q) * 10 - ((c.toNat : Int) - 48) := by
  cases l with
  | nil => simp at h0
  | cons x r =>
    simp at h0
    subst h0
    obtain ⟨p, rfl⟩ : ∃ p, q = p + 1 := ⟨q - 1, by omega⟩
    rw [List.getElem?_cons_succ] at hc
    have := isD_iff.1 hd
    rw [List.take_succ_cons, List.take_succ_cons, sgnV_neg, sgnV_neg, take_at_ hc, natV_app]
    show -(((natV 0 (r.take p)) * 10 + (c.toNat - 48) : Nat) : Int) = _
    omega
theorem sgn_take_pos {l : List UInt8} {q : Nat} {c z : UInt8} (h0 : l[0]? = some z) (hz : z ≠ 45) (hc : l[q]? = some c) (hd : isD c = true) : sgnV (l.take (q + 1)) = sgnV (l.take q) * 10 + ((c.toNat : Int) - 48) := by
  have := isD_iff.1 hd
  cases l with
  | nil => simp at h0
  | cons x r =>
    simp at h0
    subst h0
    have e1 : sgnV ((x :: r).take (q + 1)) = (natV 0 ((x :: r).take (q + 1)) : Int) := by rw [List.take_succ_cons, sgnV_pos _ _ hz]
    have e2 : sgnV ((x :: r).take q) = (natV 0 ((x :: r).take q) : Int) := by
      cases q with
      | zero => rfl
      | succ q => rw [List.take_succ_cons, sgnV_pos _ _ hz]
    rw [e1, e2, take_at_ hc, natV_app]
    show (((natV 0 ((x :: r).take q)) * 10 + (c.toNat - 48) : Nat) : Int) = _
    omega
theorem wrap_in (x : Int) : inI (IntKind.i64.wrap x) := by unfold inI; rw [IntKind.wrap_i64]; omega
theorem wrap_of {x : Int} (h : inI x) : IntKind.i64.wrap x = x := by unfold inI at h; rw [IntKind.wrap_i64]; omega
set_option maxRecDepth 100000 in
set_option maxHeartbeats 3200000 in
theorem ref05_parse (s : ByteArray) (hs : s.size ≤ 100000) (w : World) :
    Calls Tryd.prog 43 #[.string s] w fun e w' => e = .returned (.tuple #[.int .i64 (decR s.data.toList).1, .int .i64 (decR s.data.toList).2]) ∧ w = w' := by
  have hs63 : s.size ≤ 9223372036854775807 := by omega
  have hsl : s.data.toList.length = s.size := (Lib.size_eq s).symm
  by_cases h0 : s.size = 0
  · have hd := decR_none (l := s.data.toList) (fun n hn e => by have := congrArg List.length e; rw [hsl, h0] at this; exact itoa_ne n (List.eq_nil_of_length_eq_zero this))
    rw [hd]
    have he : ((s.size : Int) == 0) = true := by simp [h0]
    clear hd h0 hsl
    go_enter Tryd.func43, Tryd.ntmps43
    go_wp2_with fail
    go_ret2
    exact ⟨rfl, rfl⟩
  have he : ((s.size : Int) == 0) = false := by simp [h0]
  by_cases h20 : 20 < s.size
  · have hd := decR_none (l := s.data.toList) (fun n hn e => by have := congrArg List.length e; have := itoa_len n hn; omega)
    rw [hd]
    have hb : (20 : Int) < (s.size : Int) := by omega
    clear hd h0 hsl h20
    go_enter Tryd.func43, Tryd.ntmps43
    go_wp2_with fail
    go_ret2
    exact ⟨rfl, rfl⟩
  have hb : (s.size : Int) ≤ 20 := by omega
  have hpos : 0 < s.size := by omega
  have hpI : (0 : Int) < (s.size : Int) := by omega
  obtain ⟨z, hz⟩ : ∃ z, s[0]'hpos = z := ⟨_, rfl⟩
  have hz0 : s.data.toList[0]? = some z := by
    rw [List.getElem?_eq_getElem (by rw [hsl]; exact hpos), ← hz]
    rfl
  have hbz : (((s[0]'hpos).toNat : Nat) : Int) = (z.toNat : Int) := by rw [hz]
  have hok := fun n (h : inI n) (e : Lib.itoa n = s.data.toList) => decR_text h e
  have hnn := fun (h : ∀ n, inI n → Lib.itoa n ≠ s.data.toList) => decR_none h
  obtain ⟨RR, hR⟩ : ∃ RR, decR s.data.toList = RR := ⟨_, rfl⟩
  rw [hR]
  simp only [hR] at hok hnn
  obtain ⟨R1, R2⟩ := RR
  have HOK := Lib.hid hok
  have HNN := Lib.hid hnn
  have HZ := Lib.hid hz0
  clear hok hnn hR hz hz0 h20
  go_enter Tryd.func43, Tryd.ntmps43
  go_wp2_with fail
  go_loopg [4, 5] s.size (fun g n i wr => ∃ q : Nat, q ≤ s.size ∧ g = s.size - q ∧ i = .int .i64 q ∧ wr = w ∧ n = .int .i64 (IntKind.i64.wrap (sgnV (s.data.toList.take q))))
  case atStart => exact ⟨0, Nat.zero_le _, rfl, rfl, rfl, by rw [List.take_zero]; rfl⟩
  case round =>
    obtain ⟨q, hq, hg, rfl, rfl, rfl⟩ := hrel
    have hg := hg.symm
    subst hg
    by_cases hlt : q < s.size
    · obtain ⟨c, hc⟩ : ∃ c, s[q]'hlt = c := ⟨_, rfl⟩
      have hget : s.data.toList[q]? = some c := by
        rw [List.getElem?_eq_getElem (by rw [hsl]; exact hlt), ← hc]
        rfl
      have hby : (((s[q]'hlt).toNat : Nat) : Int) = (c.toNat : Int) := by rw [hc]
      have hlI : (q : Int) < (s.size : Int) := by omega
      have hq0 : (0 : Int) ≤ (q : Int) := by omega
      by_cases hfirst : q = 0 ∧ z = 45
      · obtain ⟨rfl, rfl⟩ := hfirst
        have hX : sgnV (s.data.toList.take (0 + 1)) = 0 := by rw [take_at_ HZ.out]; rfl
        have hX0 : IntKind.i64.wrap (sgnV (s.data.toList.take 0)) = 0 := by rw [List.take_zero]; rfl
        have HX := Lib.hid hX
        rw [hX0]
        have hcz : c = 45 := by rw [HZ.out] at hget; injection hget with h; exact h.symm
        subst hcz
        clear hget hc hX hX0 hbz
        go_wp2_with fail
        go_roundg (s.size - (0 + 1))
        case measure => omega
        case rel => exact ⟨0 + 1, by omega, rfl, by go_num, rfl, by rw [HX.out]; rfl⟩
      have hskip : ((q : Int) == 0) = false ∨ (((z.toNat : Int) == 45) = false) := by
        by_cases hq1 : q = 0
        · right
          rw [beq_eq_false_iff_ne]
          intro e
          apply hfirst
          refine ⟨hq1, ?_⟩
          rw [← UInt8.toNat_inj]; show z.toNat = 45; omega
        · left; rw [beq_eq_false_iff_ne]; omega
      by_cases hd : isD c = true
      · have hcc := isD_iff.1 hd
        obtain ⟨d, hdd⟩ : ∃ d : Nat, c.toNat - 48 = d := ⟨_, rfl⟩
        have hcI : (48 : Int) ≤ (c.toNat : Int) := by omega
        have hcJ : (c.toNat : Int) ≤ 57 := by omega
        have w8 : IntKind.u8.wrap ((c.toNat : Int) - 48) = (d : Int) := by rw [IntKind.wrap_u8]; omega
        have w9 : IntKind.i64.wrap (d : Int) = (d : Int) := by rw [IntKind.wrap_i64]; omega
        obtain ⟨A, hA⟩ : ∃ A, IntKind.i64.wrap (sgnV (s.data.toList.take q)) = A := ⟨_, rfl⟩
        obtain ⟨B, hB⟩ : ∃ B, IntKind.i64.wrap (A * 10) = B := ⟨_, rfl⟩
        rw [hA]
        by_cases h45 : z = 45
        · have hq1 : 1 ≤ q := by
            by_cases h : q = 0
            · exact absurd ⟨h, h45⟩ hfirst
            · omega
          obtain ⟨C, hC⟩ : ∃ C, IntKind.i64.wrap (B - (d : Int)) = C := ⟨_, rfl⟩
          have hst := sgn_take_neg (by rw [HZ.out, h45]) hq1 hget hd
          have HC : Hid (IntKind.i64.wrap (sgnV (s.data.toList.take (q + 1))) = C) := Lib.hid (by
            rw [hst, ← hC, ← hB, ← hA]
            simp only [IntKind.wrap_i64]
            omega)
          have hqn : ((q : Int) == 0) = false := by rw [beq_eq_false_iff_ne]; omega
          have hqn2 : ¬ q = 0 := by omega
          subst h45
          clear hget hc hd hA hst hdd hfirst hskip hcc
          go_wp2_with fail
          go_roundg (s.size - (q + 1))
          case measure => omega
          case rel => exact ⟨q + 1, by omega, rfl, by go_num, rfl, by rw [HC.out]⟩
        · obtain ⟨C, hC⟩ : ∃ C, IntKind.i64.wrap (B + (d : Int)) = C := ⟨_, rfl⟩
          have hst := sgn_take_pos HZ.out h45 hget hd
          have HC : Hid (IntKind.i64.wrap (sgnV (s.data.toList.take (q + 1))) = C) := Lib.hid (by
            rw [hst, ← hC, ← hB, ← hA]
            simp only [IntKind.wrap_i64]
            omega)
          have z1 : (z == 45) = false := beq_eq_false_iff_ne.2 h45
          have z2 : ¬ (z.toNat : Int) = 45 := by intro e; apply h45; rw [← UInt8.toNat_inj]; show z.toNat = 45; omega
          have z3 : ((z.toNat : Int) == 45) = false := beq_eq_false_iff_ne.2 z2
          by_cases hqz : q = 0
          · subst hqz
            have hcz : c = z := by rw [HZ.out] at hget; injection hget with h; exact h.symm
            subst hcz
            clear hget hc hd hA hst hdd hfirst hskip hcc h45 hbz
            go_wp2_with fail
            go_roundg (s.size - (0 + 1))
            case measure => omega
            case rel => exact ⟨0 + 1, by omega, rfl, by go_num, rfl, by rw [HC.out]⟩
          · have hqn : ((q : Int) == 0) = false := by rw [beq_eq_false_iff_ne]; omega
            clear hget hc hd hA hst hdd hfirst hskip hcc h45
            go_wp2_with fail
            go_roundg (s.size - (q + 1))
            case measure => omega
            case rel => exact ⟨q + 1, by omega, rfl, by go_num, rfl, by rw [HC.out]⟩
      · have HR := Lib.hid (HNN.out (fun n hn e => by
          rcases itoa_at n q c (by rw [e]; exact hget) with ⟨h1, h2⟩ | h
          · subst h1
            rw [HZ.out] at hget
            injection hget with hget
            exact hfirst ⟨rfl, by rw [hget, h2]⟩
          · exact hd h))
        have hno : (c.toNat : Int) < 48 ∨ (48 ≤ (c.toNat : Int) ∧ 57 < (c.toNat : Int)) := by
          have : ¬ (48 ≤ c.toNat ∧ c.toNat ≤ 57) := fun h => hd (isD_iff.2 h)
          omega
        have hcz : q = 0 → c = z := by intro e; subst e; rw [HZ.out] at hget; injection hget with h; exact h.symm
        have HCZ := Lib.hid hcz
        clear hget hc hd hfirst HOK HNN HZ hcz
        generalize IntKind.i64.wrap (sgnV (s.data.toList.take q)) = A
        rcases hno with hno | ⟨hno1, hno2⟩
        · rcases hskip with hk | hk
          · have hk2 : ¬ q = 0 := by intro e; subst e; exact absurd hk (by decide)
            go_wp2_with fail
            go_ret2
            exact ⟨by rw [(Prod.mk.inj HR.out).1, (Prod.mk.inj HR.out).2]; rfl, rfl⟩
          · have z2 : ¬ (z.toNat : Int) = 45 := by rw [beq_eq_false_iff_ne] at hk; exact hk
            have z4 : ¬ z = 45 := by intro e; subst e; exact z2 rfl
            have z1 : (z == 45) = false := beq_eq_false_iff_ne.2 z4
            by_cases hqz : q = 0
            · subst hqz
              have hcz := HCZ.out rfl
              subst hcz
              clear hbz HCZ
              go_wp2_with fail
              go_ret2
              exact ⟨by rw [(Prod.mk.inj HR.out).1, (Prod.mk.inj HR.out).2]; rfl, rfl⟩
            · have hqn : ((q : Int) == 0) = false := by rw [beq_eq_false_iff_ne]; omega
              go_wp2_with fail
              go_ret2
              exact ⟨by rw [(Prod.mk.inj HR.out).1, (Prod.mk.inj HR.out).2]; rfl, rfl⟩
        · rcases hskip with hk | hk
          · have hk2 : ¬ q = 0 := by intro e; subst e; exact absurd hk (by decide)
            go_wp2_with fail
            go_ret2
            exact ⟨by rw [(Prod.mk.inj HR.out).1, (Prod.mk.inj HR.out).2]; rfl, rfl⟩
          · have z2 : ¬ (z.toNat : Int) = 45 := by rw [beq_eq_false_iff_ne] at hk; exact hk
            have z4 : ¬ z = 45 := by intro e; subst e; exact z2 rfl
            have z1 : (z == 45) = false := beq_eq_false_iff_ne.2 z4
            by_cases hqz : q = 0
            · subst hqz
              have hcz := HCZ.out rfl
              subst hcz
              clear hbz HCZ
              go_wp2_with fail
              go_ret2
              exact ⟨by rw [(Prod.mk.inj HR.out).1, (Prod.mk.inj HR.out).2]; rfl, rfl⟩
            · have hqn : ((q : Int) == 0) = false := by rw [beq_eq_false_iff_ne]; omega
              go_wp2_with fail
              go_ret2
              exact ⟨by rw [(Prod.mk.inj HR.out).1, (Prod.mk.inj HR.out).2]; rfl, rfl⟩
    · obtain rfl : q = s.size := by omega
      rw [List.take_of_length_le (by rw [hsl]; exact Nat.le_refl _)]
      have hin := wrap_in (sgnV s.data.toList)
      have hback : ∀ n, inI n → Lib.itoa n = s.data.toList → n = IntKind.i64.wrap (sgnV s.data.toList) := by
        intro n hn e
        rw [← e, sgnV_itoa, wrap_of hn]
      generalize IntKind.i64.wrap (sgnV s.data.toList) = A at hin hback
      have TX := Lib.hid (ref05_textI A hin)
      by_cases heq : Lib.itoa A = s.data.toList
      · have HR := Lib.hid (HOK.out A hin heq)
        have hqq := beq_str ((str_eq_list A s).2 heq)
        generalize strL (Lib.itoa A) = V at hqq TX
        clear heq HOK HNN hback
        go_wp2_with fail
        refine (TX.out _).mono ?_
        rintro e w1 ⟨rfl, rfl⟩
        go_wp2_with fail
        go_ret2
        exact ⟨by rw [(Prod.mk.inj HR.out).1, (Prod.mk.inj HR.out).2]; rfl, rfl⟩
      · have HR := Lib.hid (HNN.out (fun n hn e => by
          have := hback n hn e
          subst this
          exact heq e))
        have hqq := beq_str_ne (fun e => heq ((str_eq_list A s).1 e))
        generalize strL (Lib.itoa A) = V at hqq TX
        clear heq HOK HNN hback
        go_wp2_with fail
        refine (TX.out _).mono ?_
        rintro e w1 ⟨rfl, rfl⟩
        go_wp2_with fail
        go_ret2
        exact ⟨by rw [(Prod.mk.inj HR.out).1, (Prod.mk.inj HR.out).2]; rfl, rfl⟩
end Go.Proofs.YtanihdpgblkeaaaDoor
