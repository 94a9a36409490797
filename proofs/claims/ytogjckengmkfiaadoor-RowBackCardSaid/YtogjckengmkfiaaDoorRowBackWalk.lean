/-
  The walk of the statement RowBack.
-/
import Derived.Test.YtogjckengmkfiaaDoorAwake07
namespace Go.Proofs.YtogjckengmkfiaaDoor
open Go.RowKit
set_option linter.unusedVariables false
set_option linter.unusedSimpArgs false

theorem rowL_len (word : List UInt8) (names : List (List UInt8)) (ns : List Int) (hw : word.length ≤ 100) (hn2 : ∀ a ∈ names, a.length ≤ 60) (hi2 : ∀ n ∈ ns, inI n) : (rowL word names ns).length ≤ 101 * (names.length + 1) := by
  have h1 := join_le (word :: rowP names ns) (by
    intro y hy
    rw [List.mem_cons] at hy
    rcases hy with rfl | hy
    · exact hw
    · exact rowP_len names hn2 ns hi2 y hy)
  rw [List.length_cons, rowP_length] at h1
  unfold rowL
  have : min names.length ns.length ≤ names.length := Nat.min_le_left _ _
  omega
set_option maxRecDepth 100000 in
set_option maxHeartbeats 6400000 in
/-- What is behind the loops. -/
theorem back_laws (word : List UInt8) (L : List (List UInt8)) (ns : List Int) (hw : word ≠ []) (hw1 : word.length ≤ 60) (h1 : ∀ c ∈ word, plainB c) (h2 : ∀ a ∈ L, ∀ c ∈ a, plainB c) (f1 : ∀ a ∈ L, a.length ≤ 60) (f2 : L.length ≤ 16) (hl : L.length ≤ ns.length) (hi : ∀ n ∈ ns, inI n) :
    rowR (wordsL (rowL word L ns)) word L = (ns.take L.length, 0) ∧ wordR (wordsL (rowL word L ns)) = word ∧ rowL word L (ns.take L.length) = rowL word L ns ∧ (rowL word L ns).length ≤ 100000 := by
  rw [row_words word L ns hw h1 h2]
  have := rowL_len word L ns (by omega) f1 hi
  exact ⟨row_back word L ns hl hi, rfl, rowL_take word L ns, by omega⟩
set_option maxRecDepth 100000 in
set_option maxHeartbeats 6400000 in
theorem walk_rbk (word : ByteArray) (p : Option Addr) (n cap : Nat) (L : List (List UInt8)) (q : Option Addr) (m cp : Nat) (ns : List Int) (w : World) (hv : RowS w (.slice p n cap) (L.map strL)) (hn : L.length = n) (hnm : n ≤ maxLen) (hx : ∀ x ∈ L, x.length ≤ maxLen)
    (hi : RowN w (.slice q m cp) ns) (hm : ns.length = m) (hmm : m ≤ maxLen) (hmc : m ≤ cp) (hcm : cp ≤ maxLen) (hin : ∀ n ∈ ns, inI n) (hs1 : word.size ≤ maxLen) (hL : Laid w) :
    Calls Tryd.prog 7 #[.string word, .slice p n cap, .slice q m cp] w fun e w' => e = .returned (.bool true) ∧ Below w.heap.size w w' := by
  have hs63 : word.size ≤ 9223372036854775807 := by unfold maxLen at hs1; omega
  have hm63 : m ≤ 9223372036854775807 := by unfold maxLen at hmm; omega
  have hc63 : cp ≤ 9223372036854775807 := by unfold maxLen at hcm; omega
  have AW := Lib.hid awake07
  have FW := Lib.hid (fun (wx : World) (h : RowS wx (.slice p n cap) (L.map strL)) => row_few _ L wx h (by omega) hx)
  have HV := Lib.hid hv
  have HI := Lib.hid hi
  have LL := Lib.hid hL
  have HN := Lib.hid hn
  have HM := Lib.hid hm
  have HIN := Lib.hid hin
  have HP := Lib.hid (rowS_pick_ hv hn)
  clear hv hi hL hn hm hin hx hs1 hnm hmm hcm
  by_cases h1 : 60 < word.size
  · have h1I : (60 : Int) < (word.size : Int) := by omega
    go_enter Tryd.func7, Tryd.ntmps7
    go_wp2_with fail
    refine (AW.out _ LL.out).mono ?_
    rintro e w2 ⟨rfl, hb2⟩
    go_wp2_with fail
    go_ret
    exact ⟨rfl, hb2⟩
  have h1I : (word.size : Int) ≤ 60 := by omega
  have hf := fewB_iff L
  cases hfb : fewB L with
  | false =>
    rw [hfb] at FW
    go_enter Tryd.func7, Tryd.ntmps7
    go_wp2_with fail
    refine (FW.out _ HV.out).mono ?_
    rintro e w2 ⟨rfl, rfl⟩
    go_wp2_with fail
    refine (AW.out _ LL.out).mono ?_
    rintro e w2 ⟨rfl, hb2⟩
    go_wp2_with fail
    go_ret
    exact ⟨rfl, hb2⟩
  | true =>
  obtain ⟨f1, f2⟩ := hf.1 hfb
  rw [hfb] at FW
  clear hf hfb
  by_cases h3 : m < n
  · have h3I : (m : Int) < (n : Int) := by omega
    go_enter Tryd.func7, Tryd.ntmps7
    go_wp2_with fail
    refine (FW.out _ HV.out).mono ?_
    rintro e w2 ⟨rfl, rfl⟩
    go_wp2_with fail
    refine (AW.out _ LL.out).mono ?_
    rintro e w2 ⟨rfl, hb2⟩
    go_wp2_with fail
    go_ret
    exact ⟨rfl, hb2⟩
  have h3I : (n : Int) ≤ (m : Int) := by omega
  have hn16 : n ≤ 16 := by have := HN.out; omega
  have F1 := Lib.hid f1
  have F2 := Lib.hid f2
  clear f1 f2
  go_enter Tryd.func7, Tryd.ntmps7
  go_wp2_with fail
  refine (FW.out _ HV.out).mono ?_
  rintro e w2 ⟨rfl, rfl⟩
  rename_i w
  go_wp2_with fail
  go_loopg [7] (n + 1) (fun g i wr => ∃ (k : Nat), k ≤ n + 1 ∧ g = n + 1 - k ∧ i = .int .i64 ((k : Int) - 1) ∧ w = wr ∧ Hid (∀ (j : Nat) (x : List UInt8), j < k → (word.data.toList :: L)[j]? = some x → ∀ c ∈ x, plainB c))
  case atStart => exact ⟨0, Nat.zero_le _, rfl, rfl, rfl, Lib.hid (fun j x h => absurd h (Nat.not_lt_zero _))⟩
  case round =>
    obtain ⟨k, hk, hg, rfl, rfl, HA⟩ := hrel
    have hg := hg.symm
    subst hg
    by_cases hlt : k < n + 1
    · obtain ⟨ii, hii⟩ : ∃ ii : Int, (k : Int) - 1 = ii := ⟨_, rfl⟩
      have hlI : ii < (n : Int) := by omega
      rw [hii]
      obtain ⟨X, hX⟩ : ∃ X, (word.data.toList :: L)[k]? = some X := ⟨_, List.getElem?_eq_getElem (by rw [List.length_cons, HN.out]; exact hlt)⟩
      have hXl : X.length ≤ 60 := by
        rw [show (60 : Nat) = 60 from rfl]
        cases k with
        | zero => simp at hX; subst hX; have := Lib.size_eq word; omega
        | succ k => rw [List.getElem?_cons_succ] at hX; exact F1.out X (List.mem_of_getElem? hX)
      go_upto_if 37 with fail
      go_cut [8] (fun v8 wx => v8 = .string (strL X) ∧ w = wx)
      case first =>
        cases k with
        | zero =>
          simp at hX
          subst hX
          have hi0 : ii < 0 := by omega
          go_wp2_with fail
          go_meet
          exact ⟨by rw [strL_of], rfl⟩
        | succ k =>
          rw [List.getElem?_cons_succ] at hX
          obtain ⟨bn, on, cc, X', e1, hX', n0, hbn⟩ := HP.out k (by omega)
          cases e1
          obtain rfl : X = X' := by rw [hX] at hX'; injection hX'
          obtain rfl : ii = (k : Int) := by push_cast at hii; omega
          have hk0 : (0 : Int) ≤ (k : Int) := by omega
          have hkN : (k : Int) < (n : Int) := by omega
          go_wp2_with fail
          go_meet
          exact ⟨rfl, rfl⟩
      case rest =>
        obtain ⟨rfl, rfl⟩ := hcut
        have hXs : (strL X).size = X.length := strL_size X
        go_wp2_with fail
        go_loopg [9] (strL X).size (fun g j wr => ∃ (z : Nat), z ≤ (strL X).size ∧ g = (strL X).size - z ∧ j = .int .i64 z ∧ w = wr ∧ Hid (∀ c ∈ X.take z, plainB c))
        case atStart => exact ⟨0, Nat.zero_le _, rfl, rfl, rfl, Lib.hid (by simp)⟩
        case round =>
          obtain ⟨z, hz, hg2, rfl, rfl, HC⟩ := hrel
          have hg2 := hg2.symm
          subst hg2
          by_cases hlz : z < (strL X).size
          · have hzI : (z : Int) < ((strL X).size : Int) := by omega
            have hz0 : (0 : Int) ≤ (z : Int) := by omega
            obtain ⟨c, hc⟩ : ∃ c, (strL X)[z]'hlz = c := ⟨_, rfl⟩
            have hget : X[z]? = some c := by have := byte_at (strL X) z hlz; rw [hc] at this; exact this
            have hcI : (((strL X)[z]'hlz).toNat : Int) = (c.toNat : Int) := by rw [hc]
            by_cases h32 : c = 32
            · have hcn : (c.toNat : Int) = 32 := by rw [h32]; rfl
              have hcb : ((c.toNat : Int) == 32) = true := by rw [hcn]; rfl
              clear hget hc
              go_wp2_with fail
              refine (AW.out _ LL.out).mono ?_
              rintro e w2 ⟨rfl, hb2⟩
              go_wp2_with fail
              go_ret
              exact ⟨rfl, hb2⟩
            have h32i : ¬ (c.toNat : Int) = 32 := by intro e; apply h32; rw [← UInt8.toNat_inj]; show c.toNat = 32; omega
            have h32b : ((c.toNat : Int) == 32) = false := by simp [h32i]
            by_cases h9 : c = 9
            · have hcn : (c.toNat : Int) = 9 := by rw [h9]; rfl
              have hcb : ((c.toNat : Int) == 9) = true := by rw [hcn]; rfl
              clear hget hc
              go_wp2_with fail
              refine (AW.out _ LL.out).mono ?_
              rintro e w2 ⟨rfl, hb2⟩
              go_wp2_with fail
              go_ret
              exact ⟨rfl, hb2⟩
            have h9i : ¬ (c.toNat : Int) = 9 := by intro e; apply h9; rw [← UInt8.toNat_inj]; show c.toNat = 9; omega
            have h9b : ((c.toNat : Int) == 9) = false := by simp [h9i]
            by_cases h35 : c = 35
            · have hcn : (c.toNat : Int) = 35 := by rw [h35]; rfl
              have hcb : ((c.toNat : Int) == 35) = true := by rw [hcn]; rfl
              clear hget hc
              go_wp2_with fail
              refine (AW.out _ LL.out).mono ?_
              rintro e w2 ⟨rfl, hb2⟩
              go_wp2_with fail
              go_ret
              exact ⟨rfl, hb2⟩
            have h35i : ¬ (c.toNat : Int) = 35 := by intro e; apply h35; rw [← UInt8.toNat_inj]; show c.toNat = 35; omega
            have h35b : ((c.toNat : Int) == 35) = false := by simp [h35i]
            by_cases hi0 : 0 ≤ ii
            · by_cases h61 : c = 61
              · have hcn : (c.toNat : Int) = 61 := by rw [h61]; rfl
                have hcb : ((c.toNat : Int) == 61) = true := by rw [hcn]; rfl
                clear hget hc
                go_wp2_with fail
                refine (AW.out _ LL.out).mono ?_
                rintro e w2 ⟨rfl, hb2⟩
                go_wp2_with fail
                go_ret
                exact ⟨rfl, hb2⟩
              · have h61i : ¬ (c.toNat : Int) = 61 := by intro e; apply h61; rw [← UInt8.toNat_inj]; show c.toNat = 61; omega
                have h61b : ((c.toNat : Int) == 61) = false := by simp [h61i]
                have HC2 : Hid (∀ d ∈ X.take (z + 1), plainB d) := Lib.hid (by
                  intro d hd
                  rw [take_at hget, List.mem_append] at hd
                  rcases hd with hd | hd
                  · exact HC.out d hd
                  · rw [List.mem_singleton] at hd; subst hd; exact ⟨h32, h9, h35⟩)
                clear hget hc HC h32 h9 h35
                go_wp2_with fail
                go_roundg ((strL X).size - (z + 1))
                case measure => omega
                case rel => exact ⟨z + 1, by omega, rfl, by go_num, rfl, HC2⟩
            · have hi1 : ii < 0 := by omega
              have HC2 : Hid (∀ d ∈ X.take (z + 1), plainB d) := Lib.hid (by
                intro d hd
                rw [take_at hget, List.mem_append] at hd
                rcases hd with hd | hd
                · exact HC.out d hd
                · rw [List.mem_singleton] at hd; subst hd; exact ⟨h32, h9, h35⟩)
              clear hget hc HC h32 h9 h35
              go_wp2_with fail
              go_roundg ((strL X).size - (z + 1))
              case measure => omega
              case rel => exact ⟨z + 1, by omega, rfl, by go_num, rfl, HC2⟩
          · obtain rfl : z = (strL X).size := by omega
            have HA2 : Hid (∀ (j : Nat) (x : List UInt8), j < k + 1 → (word.data.toList :: L)[j]? = some x → ∀ c ∈ x, plainB c) := Lib.hid (by
              intro j x hj hx
              by_cases he : j = k
              · subst he
                rw [hX] at hx; injection hx with hx; subst hx
                have := HC.out
                rw [hXs, List.take_length] at this
                exact this
              · exact HA.out j x (by omega) hx)
            have hiw : IntKind.i64.wrap (ii + 1) = ii + 1 := by rw [IntKind.wrap_i64]; omega
            clear HC HA hX
            go_wp2_with fail
            go_roundg (n + 1 - (k + 1))
            case measure => omega
            case rel => exact ⟨k + 1, by omega, rfl, by rw [← hii]; go_num, rfl, HA2⟩
    · obtain rfl : k = n + 1 := by omega
      have hki : ((n + 1 : Nat) : Int) - 1 = (n : Int) := by push_cast; omega
      rw [hki]
      have hp1 : ∀ c ∈ word.data.toList, plainB c := HA.out 0 _ (by omega) rfl
      have hp2 : ∀ a ∈ L, ∀ c ∈ a, plainB c := by
        intro a ha
        obtain ⟨j, hj, rfl⟩ := List.getElem_of_mem ha
        exact HA.out (j + 1) _ (by have := HN.out; omega) (by rw [List.getElem?_cons_succ, List.getElem?_eq_getElem hj])
      by_cases hwe : word.data.toList = []
      · obtain rfl : word = ⟨#[]⟩ := by rw [← strL_of word, hwe]; rfl
        clear hp1 hp2 HA
        go_wp2_with fail
        refine (AW.out _ LL.out).mono ?_
        rintro e w2 ⟨rfl, hb2⟩
        go_wp2_with fail
        go_ret
        exact ⟨rfl, hb2⟩
      have hwl : word.data.toList.length ≤ 60 := by have := (Lib.size_eq word); omega
      have hwq : (word.toList == (⟨#[]⟩ : ByteArray).toList) = false := beq_str_ne (by intro e; rw [e] at hwe; exact hwe rfl)
      have hwq2 : word.toList.isEmpty = false := by
        cases h : word.toList.isEmpty with
        | false => rfl
        | true => rw [List.isEmpty_iff] at h; rw [h] at hwq; exact absurd hwq (by first | decide +kernel | simp [ByteArray.toList, ByteArray.toList.loop])
      have hLm : L.length ≤ ns.length := by have := HN.out; have := HM.out; omega
      obtain ⟨g1, g2, g3, g4⟩ := back_laws word.data.toList L ns hwe hwl hp1 hp2 F1.out F2.out hLm HIN.out
      have hT := fun (wx : World) (h : RowN wx (.slice q m cp) ns) => RowN.take h L.length hLm
      have J1 := fun (wx : World) (h : RowS wx (.slice p n cap) (L.map strL)) (h2 : RowN wx (.slice q m cp) ns) (hl : Laid wx) => row_line word.data.toList _ _ L ns wx h h2 (by omega) (by have := HN.out; omega) F1.out (by have := HM.out; omega) HIN.out hl
      have P1 := fun (wx : World) (h : RowS wx (.slice p n cap) (L.map strL)) (hl : Laid wx) => row_parse (strL (rowL word.data.toList L ns)) word.data.toList _ L wx (by rw [strL_size]; exact g4) h (by have := HN.out; omega) F1.out hl
      have J2 := fun (wx : World) (v : Value) (h : RowS wx (.slice p n cap) (L.map strL)) (h2 : RowN wx v (ns.take L.length)) (hl : Laid wx) => row_line word.data.toList _ _ L (ns.take L.length) wx h h2 (by omega) (by have := HN.out; omega) F1.out (by rw [List.length_take]; have := HN.out; omega) (fun x hx => HIN.out x (List.mem_of_mem_take hx)) hl
      have X1 := fun (wx : World) => row_word (strL (rowL word.data.toList L ns)) (by rw [strL_size]; exact g4) wx
      rw [strL_list] at P1 X1
      rw [g1, strL_of] at P1
      rw [g2, strL_of] at X1
      rw [g3, strL_of] at J2
      rw [strL_of] at J1
      have hr1 : (ns.take L.length).length = n := by rw [List.length_take]; have := HN.out; omega
      rw [HN.out] at hT P1 J2 hr1
      generalize strL (rowL word.data.toList L ns) = JS at J1 P1 J2 X1
      generalize ns.take n = R1 at hT P1 J2 hr1
      have SM := Lib.hid (fun (va vb : Value) (wx : World) (h1 : RowN wx va R1) (h2 : RowN wx vb R1) => ref01_same va vb R1 (by omega) wx h1 h2)
      have P1 := Lib.hid P1
      have J1 := Lib.hid J1
      have J2 := Lib.hid J2
      have X1 := Lib.hid X1
      have T1 := Lib.hid hT
      have q1 : (JS.toList == JS.toList) = true := by simp
      have q2 : (word.toList == word.toList) = true := by simp
      have hn0 : (0 : Int) ≤ (n : Int) := by omega
      have hnc : (n : Int) ≤ (cp : Int) := by omega
      clear hT g1 g2 g3 g4 hp1 hp2 HA hwe hwl hLm HP F1 F2 HIN
      go_wp2_with fail
      refine (J1.out _ HV.out HI.out LL.out).mono ?_
      rintro e w2 ⟨rfl, hb2⟩
      have B2 := Lib.hid hb2
      have HV2 := Lib.hid (HV.out.below hb2 (Nat.le_refl _))
      have HI2 := Lib.hid (HI.out.below hb2 (Nat.le_refl _))
      have L2 := Lib.hid (LL.out.below hb2)
      clear hb2 J1
      go_wp2_with fail
      refine (P1.out _ HV2.out L2.out).mono ?_
      rintro e w3 ⟨v3, rfl, hr3, hb3⟩
      obtain ⟨p3, c3, hv3⟩ := hr3.len
      rw [hr1] at hv3
      subst hv3
      have R3 := Lib.hid hr3
      have B3 := Lib.hid (B2.out.trans (hb3.mono B2.out.size))
      have HV3 := Lib.hid (HV2.out.below hb3 (Nat.le_refl _))
      have HI3 := Lib.hid (HI2.out.below hb3 (Nat.le_refl _))
      have L3 := Lib.hid (L2.out.below hb3)
      clear hr3 hb3 P1 HV2 HI2 L2 B2
      go_wp2_with fail
      refine (SM.out _ _ _ R3.out (T1.out _ HI3.out)).mono ?_
      rintro e w4 ⟨rfl, hb4⟩
      have R4 := Lib.hid (R3.out.below hb4 (Nat.le_refl _))
      have B4 := Lib.hid (B3.out.trans (hb4.mono B3.out.size))
      have HV4 := Lib.hid (HV3.out.below hb4 (Nat.le_refl _))
      have L4 := Lib.hid (L3.out.below hb4)
      clear hb4 SM T1 HV3 HI3 L3 B3 R3
      go_wp2_with fail
      refine (J2.out _ _ HV4.out R4.out L4.out).mono ?_
      rintro e w5 ⟨rfl, hb5⟩
      have B5 := Lib.hid (B4.out.trans (hb5.mono B4.out.size))
      have L5 := Lib.hid (L4.out.below hb5)
      clear hb5 J2 HV4 L4 B4 R4
      go_wp2_with fail
      refine (X1.out _).mono ?_
      rintro e w6 ⟨rfl, hb6⟩
      have B6 := Lib.hid (B5.out.trans (hb6.mono B5.out.size))
      have L6 := Lib.hid (L5.out.below hb6)
      clear hb6 X1 L5 B5
      go_wp2_with fail
      refine (AW.out _ L6.out).mono ?_
      rintro e w7 ⟨rfl, hb7⟩
      have B7 := Lib.hid (B6.out.trans (hb7.mono B6.out.size))
      clear hb7
      go_wp2_with fail
      go_ret
      exact ⟨rfl, B7.out⟩
theorem walk_RowBack (word : ByteArray) (a1 : Option Addr) (len1 cap1 : Nat) (z1 : List ByteArray) (a2 : Option Addr) (len2 cap2 : Nat) (z2 : List Int) (w : World) (x0 : word.size ≤ maxLen) (w1 : IsStrs w a1 len1 cap1 z1) (w2 : IsInts .i64 w a2 len2 cap2 z2) (hl : laidMetH Tryd.prog Rows.rowBackRow.laid w) :
    Calls Tryd.prog 7 #[.string word, .slice a1 len1 cap1, .slice a2 len2 cap2] w fun e w' => e = .returned (.bool true) ∧ Below w.heap.size w w' := by
  obtain ⟨L, h1, h2, h3, h4⟩ := isStrs_row w1
  obtain ⟨ns, g1, g2, g3, g4⟩ := isInts_row w2
  have hc : len2 ≤ cap2 ∧ cap2 ≤ maxLen := by
    rcases w2 with ⟨_, h, h', _⟩ | ⟨_, _, h, h', _⟩
    · omega
    · exact ⟨h, h'⟩
  exact walk_rbk word a1 len1 cap1 L a2 len2 cap2 ns w h1 h2 h3 h4 g1 g2 g3 hc.1 hc.2 g4 x0 (laid_of5 hl)
end Go.Proofs.YtogjckengmkfiaaDoor
