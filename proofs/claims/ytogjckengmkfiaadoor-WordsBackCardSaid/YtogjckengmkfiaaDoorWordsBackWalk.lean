/-
  The walk of the statement WordsBack.
-/
import Derived.Test.YtogjckengmkfiaaDoorWordsIn
namespace Go.Proofs.YtogjckengmkfiaaDoor
open Go.RowKit
set_option linter.unusedVariables false
set_option linter.unusedSimpArgs false

/-- No line feed; no sign that is none of a word's. -/
def p10 (c : UInt8) : Bool := (c.toNat : Int) != 10
def pW (c : UInt8) : Bool := (c.toNat : Int) != 32 && (c.toNat : Int) != 9 && (c.toNat : Int) != 35
def linesB (l : List (List UInt8)) : Bool := l.all (fun x => x.all p10)
def plainB (l : List (List UInt8)) : Bool := l.all (fun x => !x.isEmpty && x.all pW)
theorem linesB_snoc (l : List (List UInt8)) (x : List UInt8) : linesB (l ++ [x]) = (linesB l && x.all p10) := by simp [linesB]
theorem plainB_snoc (l : List (List UInt8)) (x : List UInt8) : plainB (l ++ [x]) = (plainB l && !x.isEmpty && x.all pW) := by simp [plainB, Bool.and_assoc]
theorem p10_ne {c : UInt8} (h : p10 c = true) : c ≠ 10 := by
  intro e; subst e; exact absurd h (by decide)
theorem pW_ne {c : UInt8} (h : pW c = true) : c ≠ 35 ∧ isB c = false := by
  constructor
  · intro e; subst e; exact absurd h (by decide)
  · cases hb : isB c with
    | false => rfl
    | true =>
      have : c = 32 ∨ c = 9 := by unfold isB at hb; simpa using hb
      rcases this with rfl | rfl
      · exact absurd h (by decide)
      · exact absurd h (by decide)
theorem lines_back (l : List (List UInt8)) (h : linesB l = true) : linesL (textL l) = l := by
  refine lines_text l (fun x hx c hc => ?_)
  unfold linesB at h
  rw [List.all_eq_true] at h
  have h1 := h x hx
  rw [List.all_eq_true] at h1
  exact p10_ne (h1 c hc)
theorem words_back (l : List (List UInt8)) (h : plainB l = true) : wordsL (9 :: (Lib.join l [32] ++ [32, 35, 32, 120])) = l := by
  refine words_join l (fun x hx => ?_)
  unfold plainB at h
  rw [List.all_eq_true] at h
  have h1 := h x hx
  rw [Bool.and_eq_true] at h1
  refine ⟨fun e => ?_, fun c hc => ?_⟩
  · rw [e] at h1; exact absurd h1.1 (by decide)
  · have h2 := h1.2
    rw [List.all_eq_true] at h2
    exact pW_ne (h2 c hc)
set_option maxRecDepth 100000 in
set_option maxHeartbeats 12800000 in
theorem walk_wb (p : Option Addr) (n cap : Nat) (L : List (List UInt8)) (w : World) (hv : RowS w (.slice p n cap) (L.map strL)) (hn : L.length = n) (hm : n ≤ maxLen) (hx : ∀ x ∈ L, x.length ≤ maxLen) :
    Calls Tryd.prog 5 #[.slice p n cap] w fun e w' => e = .returned (.bool true) ∧ Below w.heap.size w w' := by
  have hm63 : n ≤ 9223372036854775807 := by unfold maxLen at hm; omega
  have AW := Lib.hid awake06
  by_cases h1 : 30 < n
  · have h1I : (30 : Int) < (n : Int) := by omega
    clear h1
    go_enter Tryd.func5, Tryd.ntmps5
    go_wp2_with fail
    refine (AW.out _).mono ?_
    rintro e w1 ⟨rfl, hb1⟩
    go_wp2_with fail
    go_ret
    exact ⟨rfl, hb1⟩
  have h1I : (n : Int) ≤ 30 := by omega
  have HP := Lib.hid (rowS_pick hv hn)
  have HV := Lib.hid hv
  have HN := Lib.hid hn
  have HX := Lib.hid hx
  clear hv hx
  go_enter Tryd.func5, Tryd.ntmps5
  go_wp2_with fail
  go_loopg [3, 4, 5] n (fun g v3 v4 i wr => ∃ (q : Nat) (lb pb : Bool), q ≤ n ∧ g = n - q ∧ i = .int .i64 q ∧ wr = w ∧ v3 = .bool lb ∧ v4 = .bool pb ∧ Hid (lb = linesB (L.take q)) ∧ Hid (pb = plainB (L.take q)) ∧ Hid (∀ j x, j < q → L[j]? = some x → x.length ≤ 100))
  case atStart => exact ⟨0, true, true, Nat.zero_le _, rfl, rfl, rfl, rfl, rfl, Lib.hid rfl, Lib.hid rfl, Lib.hid (fun j x h => by omega)⟩
  case round =>
    obtain ⟨q, lb, pb, hq, hg, rfl, rfl, rfl, rfl, HLB, HPB, HQ⟩ := hrel
    have hg := hg.symm
    subst hg
    by_cases hlt : q < n
    · obtain ⟨b, off, cp, x, e1, hxq, k1, hbl⟩ := HP.out q hlt
      cases e1
      have hlI : (q : Int) < (n : Int) := by omega
      have hq0 : (0 : Int) ≤ (q : Int) := by omega
      obtain ⟨X, hX⟩ : ∃ X, strL x = X := ⟨_, rfl⟩
      have hXz : X.size = x.length := by rw [← hX, strL_size]
      have hxm := HX.out x (List.mem_of_getElem? hxq)
      unfold maxLen at hxm
      have hX63 : X.size ≤ 9223372036854775807 := by omega
      rw [hX] at k1
      by_cases hbig : 100 < x.length
      · have hbI : (100 : Int) < (X.size : Int) := by omega
        clear hX hXz hbig hxq hxm
        go_wp2_with fail
        refine (AW.out _).mono ?_
        rintro e w1 ⟨rfl, hb1⟩
        go_wp2_with fail
        go_ret
        exact ⟨rfl, hb1⟩
      · have hbI : (X.size : Int) ≤ 100 := by omega
        have HQ2 : Hid (∀ j x, j < q + 1 → L[j]? = some x → x.length ≤ 100) := Lib.hid (by
          intro j y hj hy
          by_cases h : j < q
          · exact HQ.out j y h hy
          · obtain rfl : j = q := by omega
            rw [hxq] at hy; injection hy with hy; subst hy; omega)
        have hXd : X.data.toList = x := by rw [← hX]; rfl
        have hXe : X.toList.isEmpty = x.isEmpty := by rw [ByteArray.toList_eq, hXd]
        have HL1 : Hid (linesB (L.take (q + 1)) = (lb && x.all p10)) := Lib.hid (by rw [takeL_at hxq, linesB_snoc, ← HLB.out])
        have HP1 : Hid (plainB (L.take (q + 1)) = (pb && !x.isEmpty && x.all pW)) := Lib.hid (by rw [takeL_at hxq, plainB_snoc, ← HPB.out])
        obtain ⟨pb2, hpb2⟩ : ∃ c, (pb && !x.isEmpty) = c := ⟨_, rfl⟩
        rw [hpb2] at HP1
        have HPB2 := Lib.hid hpb2
        have HXD := Lib.hid hXd
        have HXZ := Lib.hid hXz
        clear hX hbig hxq hxm HQ HLB HPB hXd hpb2 hXz
        go_upto_region 9 with fail
        go_cut [4] (fun v4 wx => wr = wx ∧ v4 = .bool pb2)
        case first =>
          have h2 := HPB2.out
          cases pb with
          | false =>
            go_wp2_with fail
            go_meet
            exact ⟨rfl, by rw [← h2]; rfl⟩
          | true =>
            cases hxe : x.isEmpty with
            | false =>
              rw [hxe] at hXe h2
              go_wp2_with fail
              go_meet
              exact ⟨rfl, by rw [← h2]; rfl⟩
            | true =>
              rw [hxe] at hXe h2
              go_wp2_with fail
              go_meet
              exact ⟨rfl, by rw [← h2]; rfl⟩
        case rest =>
          obtain ⟨rfl, rfl⟩ := hcut
          clear hXe HPB2
          go_wp2_with fail
          go_loopg [3, 4, 6] x.length (fun g v3 v4 i wx => ∃ k : Nat, k ≤ x.length ∧ g = x.length - k ∧ i = .int .i64 k ∧ wr = wx ∧ v3 = .bool (lb && (x.take k).all p10) ∧ v4 = .bool (pb2 && (x.take k).all pW))
          case atStart => exact ⟨0, Nat.zero_le _, rfl, rfl, rfl, by simp, by simp⟩
          case round =>
            obtain ⟨k, hk, hgk, rfl, rfl, rfl, rfl⟩ := hrel
            have hgk := hgk.symm
            subst hgk
            have hXz := HXZ.out
            by_cases hkl : k < x.length
            · have hkX : k < X.size := by omega
              obtain ⟨c, hc⟩ : ∃ c, X[k]'hkX = c := ⟨_, rfl⟩
              have hget : x[k]? = some c := by rw [← HXD.out, byte_at X k hkX, hc]
              have hby : (((X[k]'hkX).toNat : Nat) : Int) = (c.toNat : Int) := by rw [hc]
              have hkI : (k : Int) < (X.size : Int) := by omega
              have hk0 : (0 : Int) ≤ (k : Int) := by omega
              have HA : Hid ((lb && (x.take (k + 1)).all p10) = ((lb && (x.take k).all p10) && p10 c)) := Lib.hid (by rw [take_at hget]; simp [Bool.and_assoc])
              have HB : Hid ((pb2 && (x.take (k + 1)).all pW) = ((pb2 && (x.take k).all pW) && pW c)) := Lib.hid (by rw [take_at hget]; simp [Bool.and_assoc])
              generalize (lb && (x.take k).all p10) = a at HA ⊢
              generalize (pb2 && (x.take k).all pW) = b at HB ⊢
              clear hget hc hXz
              go_upto_region 14 with fail
              go_cut [3] (fun v3 wx => wr = wx ∧ v3 = .bool (a && p10 c))
              case first =>
                cases a with
                | false =>
                  go_wp2_with fail
                  go_meet
                  exact ⟨rfl, rfl⟩
                | true =>
                  go_wp2_with fail
                  go_meet
                  exact ⟨rfl, rfl⟩
              case rest =>
                obtain ⟨rfl, rfl⟩ := hcut
                cases b with
                | false =>
                  go_wp2_with fail
                  go_roundg (x.length - (k + 1))
                  case measure => omega
                  case rel => exact ⟨k + 1, by omega, rfl, by go_num, rfl, by rw [HA.out], by rw [HB.out]; rfl⟩
                | true =>
                  by_cases h32 : c = 32
                  · subst h32
                    go_wp2_with fail
                    go_roundg (x.length - (k + 1))
                    case measure => omega
                    case rel => exact ⟨k + 1, by omega, rfl, by go_num, rfl, by rw [HA.out], by rw [HB.out]; rfl⟩
                  · have f3 : ((c.toNat : Int) == 32) = false := by
                      rw [beq_eq_false_iff_ne]; intro e; apply h32; rw [← UInt8.toNat_inj]; show c.toNat = 32; omega
                    have n32 : ((c.toNat : Int) != 32) = true := by rw [bne, f3]; rfl
                    have e32 : ¬ (c.toNat : Int) = 32 := by
                      intro e; apply h32; rw [← UInt8.toNat_inj]; show c.toNat = 32; omega
                    by_cases h9 : c = 9
                    · subst h9
                      go_wp2_with fail
                      go_roundg (x.length - (k + 1))
                      case measure => omega
                      case rel => exact ⟨k + 1, by omega, rfl, by go_num, rfl, by rw [HA.out], by rw [HB.out]; rfl⟩
                    · have f4 : ((c.toNat : Int) == 9) = false := by
                        rw [beq_eq_false_iff_ne]; intro e; apply h9; rw [← UInt8.toNat_inj]; show c.toNat = 9; omega
                      have n9 : ((c.toNat : Int) != 9) = true := by rw [bne, f4]; rfl
                      have e9 : ¬ (c.toNat : Int) = 9 := by
                        intro e; apply h9; rw [← UInt8.toNat_inj]; show c.toNat = 9; omega
                      have hpw : (true && pW c) = ((c.toNat : Int) != 35) := by unfold pW; rw [n32, n9]; rfl
                      go_wp2_with fail
                      go_roundg (x.length - (k + 1))
                      case measure => omega
                      case rel => exact ⟨k + 1, by omega, rfl, by go_num, rfl, by rw [HA.out], by rw [HB.out, hpw]⟩
            · obtain rfl : k = x.length := by omega
              rw [List.take_length] 
              go_wp2_with fail
              go_roundg (n - (q + 1))
              case measure => omega
              case rel => exact ⟨q + 1, _, _, by omega, rfl, by go_num, rfl, rfl, rfl, Lib.hid (by rw [HL1.out]), Lib.hid (by rw [HP1.out]), HQ2⟩
    · obtain rfl : q = n := by omega
      have hall : ∀ x ∈ L, x.length ≤ 100 := by
        intro x hx
        obtain ⟨j, hj, rfl⟩ := List.getElem_of_mem hx
        exact HQ.out j _ (by have := HN.out; omega) (List.getElem?_eq_getElem hj)
      have hLn := HN.out
      have htk : L.take q = L := List.take_of_length_le (by omega)
      rw [htk] at HLB HPB
      have hjl := join_le L hall
      have htl := text_le L hall
      have hLm : (L.map strL).length ≤ 1000000 := by rw [List.length_map]; omega
      have J1 := fun (wx : World) (h : RowS wx (.slice p q cap) (L.map strL)) => words_joined _ L wx h (by omega) (by omega)
      have T1 := fun (wx : World) (h : RowS wx (.slice p q cap) (L.map strL)) => words_text _ L wx h (by omega) (by omega)
      have SM := fun (wx : World) (v : Value) (h1 : RowS wx v (L.map strL)) (h2 : RowS wx (.slice p q cap) (L.map strL)) => ref04_same v _ (L.map strL) hLm wx h1 h2
      have LN : lb = true → ∀ wx, Calls Tryd.prog 19 #[.string (strL (textL L))] wx fun e w' => ∃ v, e = .returned v ∧ RowS w' v (L.map strL) ∧ Below wx.heap.size wx w' := by
        intro h wx
        have hh := words_lines (strL (textL L)) (by rw [strL_size]; omega) wx
        rw [strL_list, lines_back L (by rw [← HLB.out]; exact h)] at hh
        exact hh
      have hjs : (⟨#[9]⟩ : ByteArray) ++ strL (Lib.join L [32]) ++ ⟨#[32, 35, 32, 120]⟩ = strL (9 :: (Lib.join L [32] ++ [32, 35, 32, 120])) := by
        apply ByteArray.ext; simp [strL]
      have WD : pb = true → ∀ wx, Calls Tryd.prog 21 #[.string ((⟨#[9]⟩ : ByteArray) ++ strL (Lib.join L [32]) ++ ⟨#[32, 35, 32, 120]⟩)] wx fun e w' => ∃ v, e = .returned v ∧ RowS w' v (L.map strL) ∧ Below wx.heap.size wx w' := by
        intro h wx
        rw [hjs]
        refine (words_words _ (by rw [strL_size]; simp; omega) wx).mono ?_
        rintro e w' ⟨v, he, ho, hb⟩
        rw [strL_list, words_back L (by rw [← HPB.out]; exact h)] at ho
        exact ⟨v, he, ho.row, hb⟩
      have z1 : (⟨#[9]⟩ : ByteArray).size + (strL (Lib.join L [32])).size ≤ 9223372036854775807 := by rw [strL_size]; show 1 + _ ≤ _; omega
      have z2 : ((⟨#[9]⟩ : ByteArray) ++ strL (Lib.join L [32])).size + (⟨#[32, 35, 32, 120]⟩ : ByteArray).size ≤ 9223372036854775807 := by
        rw [ByteArray.size_append, strL_size]; show 1 + _ + 4 ≤ _; omega
      generalize strL (Lib.join L [32]) = JS at J1 WD z1 z2
      generalize strL (textL L) = TS at T1 LN
      have HLM : Hid ((L.map strL).length = q) := Lib.hid (by rw [List.length_map]; exact hLn)
      generalize L.map strL = M at J1 T1 SM LN WD HV HLM
      have J1 := Lib.hid J1
      have T1 := Lib.hid T1
      have SM := Lib.hid SM
      have LN := Lib.hid LN
      have WD := Lib.hid WD
      clear hall hjl htl hLn hLm HQ HX HP HN HLB HPB htk hjs
      have B0 : Hid (Below wr.heap.size wr wr) := Lib.hid (Below.refl _ _)
      cases lb with
      | false =>
        cases pb with
        | false =>
          go_wp2_with fail
          refine (AW.out _).mono ?_
          rintro e w4 ⟨rfl, hb4⟩
          go_wp2_with fail
          go_ret
          exact ⟨rfl, hb4⟩
        | true =>
          have WD1 := Lib.hid (WD.out rfl)
          go_wp2_with fail
          refine (J1.out _ HV.out).mono ?_
          rintro e w5 ⟨rfl, hb5⟩
          have V5 := Lib.hid (HV.out.below hb5 (Nat.le_refl _))
          have B5 := Lib.hid (B0.out.trans (hb5.mono B0.out.size))
          clear hb5
          go_wp2_with fail
          refine (WD1.out _).mono ?_
          rintro e w6 ⟨v6, rfl, hr6, hb6⟩
          have V6 := Lib.hid (V5.out.below hb6 (Nat.le_refl _))
          have B6 := Lib.hid (B5.out.trans (hb6.mono B5.out.size))
          have R6 := Lib.hid hr6
          obtain ⟨p6, c6, hv6⟩ := hr6.len
          rw [HLM.out] at hv6
          subst hv6
          clear hb6 hr6 V5 B5
          go_wp2_with fail
          refine (SM.out _ _ R6.out V6.out).mono ?_
          rintro e w7 ⟨rfl, hb7⟩
          have B7 := Lib.hid (B6.out.trans (hb7.mono B6.out.size))
          clear hb7
          go_wp2_with fail
          refine (AW.out _).mono ?_
          rintro e w8 ⟨rfl, hb8⟩
          have B8 := Lib.hid (B7.out.trans (hb8.mono B7.out.size))
          clear hb8
          go_wp2_with fail
          go_ret
          exact ⟨rfl, B8.out⟩
      | true =>
        have LN1 := Lib.hid (LN.out rfl)
        go_wp2_with fail
        refine (T1.out _ HV.out).mono ?_
        rintro e w1 ⟨rfl, hb1⟩
        have V1 := Lib.hid (HV.out.below hb1 (Nat.le_refl _))
        have B1 := Lib.hid hb1
        clear hb1
        go_wp2_with fail
        refine (LN1.out _).mono ?_
        rintro e w2 ⟨v2, rfl, hr2, hb2⟩
        have V2 := Lib.hid (V1.out.below hb2 (Nat.le_refl _))
        have B2 := Lib.hid (B1.out.trans (hb2.mono B1.out.size))
        have R2 := Lib.hid hr2
        obtain ⟨p2, c2, hv2⟩ := hr2.len
        rw [HLM.out] at hv2
        subst hv2
        clear hb2 hr2 V1 B1
        go_wp2_with fail
        refine (SM.out _ _ R2.out V2.out).mono ?_
        rintro e w3 ⟨rfl, hb3⟩
        have V3 := Lib.hid (V2.out.below hb3 (Nat.le_refl _))
        have B3 := Lib.hid (B2.out.trans (hb3.mono B2.out.size))
        clear hb3 V2 B2 R2
        cases pb with
        | false =>
          go_wp2_with fail
          refine (AW.out _).mono ?_
          rintro e w4 ⟨rfl, hb4⟩
          have B4 := Lib.hid (B3.out.trans (hb4.mono B3.out.size))
          clear hb4
          go_wp2_with fail
          go_ret
          exact ⟨rfl, B4.out⟩
        | true =>
          have WD1 := Lib.hid (WD.out rfl)
          go_wp2_with fail
          refine (J1.out _ V3.out).mono ?_
          rintro e w5 ⟨rfl, hb5⟩
          have V5 := Lib.hid (V3.out.below hb5 (Nat.le_refl _))
          have B5 := Lib.hid (B3.out.trans (hb5.mono B3.out.size))
          clear hb5
          go_wp2_with fail
          refine (WD1.out _).mono ?_
          rintro e w6 ⟨v6, rfl, hr6, hb6⟩
          have V6 := Lib.hid (V5.out.below hb6 (Nat.le_refl _))
          have B6 := Lib.hid (B5.out.trans (hb6.mono B5.out.size))
          have R6 := Lib.hid hr6
          obtain ⟨p6, c6, hv6⟩ := hr6.len
          rw [HLM.out] at hv6
          subst hv6
          clear hb6 hr6 V5 B5
          go_wp2_with fail
          refine (SM.out _ _ R6.out V6.out).mono ?_
          rintro e w7 ⟨rfl, hb7⟩
          have B7 := Lib.hid (B6.out.trans (hb7.mono B6.out.size))
          clear hb7
          go_wp2_with fail
          refine (AW.out _).mono ?_
          rintro e w8 ⟨rfl, hb8⟩
          have B8 := Lib.hid (B7.out.trans (hb8.mono B7.out.size))
          clear hb8
          go_wp2_with fail
          go_ret
          exact ⟨rfl, B8.out⟩
theorem walk_WordsBack (a : Option Addr) (len cap : Nat) (zs : List ByteArray) (w : World) (h : IsStrs w a len cap zs) :
    Calls Tryd.prog 5 #[.slice a len cap] w fun e w' => e = .returned (.bool true) ∧ Below w.heap.size w w' := by
  obtain ⟨L, hv, hn, hm, hx⟩ := isStrs_row h
  exact walk_wb a len cap L w hv hn hm hx
end Go.Proofs.YtogjckengmkfiaaDoor
