/-
  The walk of the statement WordsJoins.
-/
import Derived.Test.YtogjckengmkfiaaDoorWordsIn
namespace Go.Proofs.YtogjckengmkfiaaDoor
open Go.RowKit
set_option linter.unusedVariables false
set_option linter.unusedSimpArgs false

set_option maxRecDepth 100000 in
set_option maxHeartbeats 3200000 in
theorem walk_wj (p : Option Addr) (n cap : Nat) (L : List (List UInt8)) (word : ByteArray) (w : World) (hv : RowS w (.slice p n cap) (L.map strL)) (hn : L.length = n) (hm : n ≤ maxLen) (hs : word.size ≤ maxLen) (hx : ∀ x ∈ L, x.length ≤ maxLen) :
    Calls Tryd.prog 4 #[.slice p n cap, .string word] w fun e w' => e = .returned (.bool true) ∧ Below w.heap.size w w' := by
  have hs63 : word.size ≤ 9223372036854775807 := by unfold maxLen at hs; omega
  have hm63 : n ≤ 9223372036854775807 := by unfold maxLen at hm; omega
  have AW := Lib.hid awake06
  by_cases h1 : 30 < n
  · have h1I : (30 : Int) < (n : Int) := by omega
    clear h1
    go_enter Tryd.func4, Tryd.ntmps4
    go_wp2_with fail
    refine (AW.out _).mono ?_
    rintro e w1 ⟨rfl, hb1⟩
    go_wp2_with fail
    go_ret
    exact ⟨rfl, hb1⟩
  have h1I : (n : Int) ≤ 30 := by omega
  by_cases h2 : 100 < word.size
  · have h2I : (100 : Int) < (word.size : Int) := by omega
    clear h1 h2
    go_enter Tryd.func4, Tryd.ntmps4
    go_wp2_with fail
    refine (AW.out _).mono ?_
    rintro e w1 ⟨rfl, hb1⟩
    go_wp2_with fail
    go_ret
    exact ⟨rfl, hb1⟩
  have h2I : (word.size : Int) ≤ 100 := by omega
  have HP := Lib.hid (rowS_pick hv hn)
  have HV := Lib.hid hv
  have HN := Lib.hid hn
  have HX := Lib.hid hx
  clear h2 hv hx
  go_enter Tryd.func4, Tryd.ntmps4
  go_wp2_with fail
  go_loopg [5] n (fun g i wr => ∃ q : Nat, q ≤ n ∧ g = n - q ∧ i = .int .i64 q ∧ wr = w ∧ Hid (∀ j x, j < q → L[j]? = some x → x.length ≤ 100))
  case atStart => exact ⟨0, Nat.zero_le _, rfl, rfl, rfl, Lib.hid (fun j x h => by omega)⟩
  case round =>
    obtain ⟨q, hq, hg, rfl, rfl, HQ⟩ := hrel
    have hg := hg.symm
    subst hg
    by_cases hlt : q < n
    · obtain ⟨b, off, cp, x, e1, hxq, k1, hbl⟩ := HP.out q hlt
      cases e1
      have hlI : (q : Int) < (n : Int) := by omega
      have hq0 : (0 : Int) ≤ (q : Int) := by omega
      obtain ⟨X, hX⟩ : ∃ X, strL x = X := ⟨_, rfl⟩
      have hXz : X.size = x.length := by rw [← hX, strL_size]
      have hxm := HX.out x (List.mem_of_getElem? hxq)
      unfold maxLen at hxm
      have hX63 : X.size ≤ 9223372036854775807 := by omega
      rw [hX] at k1
      by_cases hbig : 100 < x.length
      · have hbI : (100 : Int) < (X.size : Int) := by omega
        clear hX hXz hbig hxq hxm
        go_wp2_with fail
        refine (AW.out _).mono ?_
        rintro e w1 ⟨rfl, hb1⟩
        go_wp2_with fail
        go_ret
        exact ⟨rfl, hb1⟩
      · have hbI : (X.size : Int) ≤ 100 := by omega
        have HQ2 : Hid (∀ j x, j < q + 1 → L[j]? = some x → x.length ≤ 100) := Lib.hid (by
          intro j y hj hy
          by_cases h : j < q
          · exact HQ.out j y h hy
          · obtain rfl : j = q := by omega
            rw [hxq] at hy; injection hy with hy; subst hy; omega)
        clear hX hXz hbig hxq hxm HQ
        go_wp2_with fail
        go_roundg (n - (q + 1))
        case measure => omega
        case rel => exact ⟨q + 1, by omega, rfl, by go_num, rfl, HQ2⟩
    · obtain rfl : q = n := by omega
      rename_i wr
      have hall : ∀ x ∈ L, x.length ≤ 100 := by
        intro x hx
        obtain ⟨j, hj, rfl⟩ := List.getElem_of_mem hx
        exact HQ.out j _ (by have := HN.out; omega) (List.getElem?_eq_getElem hj)
      have hjl := join_le L hall
      have htl := text_le L hall
      have hLn := HN.out
      have hLm : (L.map strL).length ≤ 1000000 := by rw [List.length_map]; omega
      have F1 := fun (wx : World) (h : RowS wx (.slice p q cap) (L.map strL)) => words_find word _ _ wx h hLm
      have F2 := fun (wx : World) (h : RowS wx (.slice p q cap) (L.map strL)) => ref06_find word _ _ wx h hLm
      have J1 := fun (wx : World) (h : RowS wx (.slice p q cap) (L.map strL)) => words_joined _ L wx h (by omega) (by omega)
      have J2 := fun (wx : World) (h : RowS wx (.slice p q cap) (L.map strL)) => ref06_join _ L wx h (by omega) (by omega)
      have T1 := fun (wx : World) (h : RowS wx (.slice p q cap) (L.map strL)) => words_text _ L wx h (by omega) (by omega)
      have T2 := fun (wx : World) (h : RowS wx (.slice p q cap) (L.map strL)) => ref06_text _ L wx h (by omega) (by omega)
      generalize findI (L.map strL) word = FI at F1 F2
      generalize findB (L.map strL) word = FB at F1 F2
      generalize strL (Lib.join L [32]) = JS at J1 J2
      generalize strL (textL L) = TS at T1 T2
      have F1 := Lib.hid F1
      have F2 := Lib.hid F2
      have J1 := Lib.hid J1
      have J2 := Lib.hid J2
      have T1 := Lib.hid T1
      have T2 := Lib.hid T2
      have q1 : (JS.toList == JS.toList) = true := by simp
      have q2 : (TS.toList == TS.toList) = true := by simp
      clear hall hjl htl hLn hLm HQ HX HP HN
      go_wp2_with fail
      refine (F1.out _ HV.out).mono ?_
      rintro e w1 ⟨rfl, rfl⟩
      go_wp2_with fail
      refine (F2.out _ HV.out).mono ?_
      rintro e w1 ⟨rfl, rfl⟩
      go_wp2_with fail
      refine (J1.out _ HV.out).mono ?_
      rintro e w1 ⟨rfl, hb1⟩
      have V1 := Lib.hid (HV.out.below hb1 (Nat.le_refl _))
      have B1 := Lib.hid hb1
      clear hb1 HV
      go_wp2_with fail
      refine (J2.out _ V1.out).mono ?_
      rintro e w2 ⟨rfl, rfl⟩
      go_wp2_with fail
      refine (T1.out _ V1.out).mono ?_
      rintro e w2 ⟨rfl, hb2⟩
      have V2 := Lib.hid (V1.out.below hb2 (Nat.le_refl _))
      have B2 := Lib.hid (B1.out.trans (hb2.mono B1.out.size))
      clear hb2 V1 B1
      go_wp2_with fail
      refine (T2.out _ V2.out).mono ?_
      rintro e w3 ⟨rfl, rfl⟩
      go_wp2_with fail
      refine (AW.out _).mono ?_
      rintro e w4 ⟨rfl, hb4⟩
      have B4 := Lib.hid (B2.out.trans (hb4.mono B2.out.size))
      clear hb4
      go_wp2_with fail
      go_ret
      exact ⟨rfl, B4.out⟩
theorem walk_WordsJoins (a : Option Addr) (len cap : Nat) (zs : List ByteArray) (word : ByteArray) (w : World) (h : IsStrs w a len cap zs) (hs : word.size ≤ maxLen) :
    Calls Tryd.prog 4 #[.slice a len cap, .string word] w fun e w' => e = .returned (.bool true) ∧ Below w.heap.size w w' := by
  obtain ⟨L, hv, hn, hm, hx⟩ := isStrs_row h
  exact walk_wj a len cap L word w hv hn hm hs hx
end Go.Proofs.YtogjckengmkfiaaDoor
