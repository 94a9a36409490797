/-
  Lines and words (the reference of reeve's layer 6): the walks.
-/
import Derived.Test.YtogjckengmkfiaaDoorWordsRest
namespace Go.Proofs.YtogjckengmkfiaaDoor
open Go.RowKit
set_option linter.unusedVariables false
set_option linter.unusedSimpArgs false

theorem nil_app (X : ByteArray) : (⟨#[]⟩ : ByteArray) ++ X = X := by apply ByteArray.ext; simp
theorem byte_at (s : ByteArray) (q : Nat) (h : q < s.size) : s.data.toList[q]? = some (s[q]'h) := by
  rw [List.getElem?_eq_getElem (by rw [show s.data.toList.length = s.size from (Lib.size_eq s).symm]; exact h)]
  rfl
theorem one_at (s : ByteArray) (q : Nat) (c : UInt8) (h : s.data.toList[q]? = some c) : s.extract q (q + 1) = strL [c] := by
  apply ByteArray.ext
  apply Array.ext'
  show (s.extract q (q + 1)).data.toList = [c]
  rw [ByteArray.data_extract, Array.toList_extract, List.extract_eq_take_drop, show q + 1 - q = 1 by omega, drop_at h]
  rfl
theorem take_at {l : List UInt8} {i : Nat} {c : UInt8} (h : l[i]? = some c) : l.take (i + 1) = l.take i ++ [c] := by
  obtain ⟨hi, e⟩ := List.getElem?_eq_some_iff.1 h
  rw [List.take_succ_eq_append_getElem hi, e]
theorem join_snoc (l : List (List UInt8)) (h : l ≠ []) (x sep : List UInt8) : Lib.join (l ++ [x]) sep = Lib.join l sep ++ sep ++ x := by
  cases l with
  | nil => exact absurd rfl h
  | cons y r => rw [List.cons_append, Lib.join_cons, Lib.join_cons]; simp [Lib.joinTail]
theorem join_take (l : List (List UInt8)) (sep : List UInt8) (i : Nat) : (Lib.join (l.take i) sep).length ≤ (Lib.join l sep).length := by
  induction i generalizing l with
  | zero => rw [List.take_zero, Lib.join_nil]; exact Nat.zero_le _
  | succ i ih =>
    cases l with
    | nil => simp
    | cons y r =>
      rw [List.take_succ_cons, Lib.join_cons, Lib.join_cons, List.length_append, List.length_append]
      have := Lib.joinTail_take_le sep r i
      omega
set_option maxRecDepth 100000 in
set_option maxHeartbeats 1600000 in
theorem ref06_cut (s : ByteArray) (c : UInt8) (hs : s.size ≤ maxLen) (w : World) :
    Calls Tryd.prog 17 #[.string s, .int .u8 c.toNat] w fun e w' => e = .returned (.tuple #[.string (cutR s c).1, .string (cutR s c).2.1, .bool (cutR s c).2.2]) ∧ ∃ m, w' = w.drewN m := by
  have hs63 : s.size ≤ 9223372036854775807 := by unfold maxLen at hs; omega
  have hge := Lib.indexByte_ge s.data.toList c
  have hsome := fun o => Lib.indexByte_some (l := s.data.toList) (c := c) (o := o)
  have hnone := Lib.indexByte_none (l := s.data.toList) (c := c)
  have hneg : Lib.indexByte s.data.toList c = -1 → cutR s c = (⟨#[]⟩, ⟨#[]⟩, false) := by intro h; unfold cutR; rw [h, if_pos (by decide)]
  have hpos : ∀ o : Nat, Lib.indexByte s.data.toList c = o → cutR s c = (s.extract 0 o, s.extract (o + 1) s.size, true) := by
    intro o h; unfold cutR; rw [h, if_neg (by omega), show ((o : Int)).toNat = o by omega]
  generalize cutR s c = CR at hneg hpos ⊢
  generalize Lib.indexByte s.data.toList c = k at hge hsome hnone hneg hpos
  have HNEG := Lib.hid hneg
  have HPOS := Lib.hid hpos
  clear hneg hpos
  have HGE := Lib.hid hge
  have HS := Lib.hid hsome
  have HN := Lib.hid hnone
  clear hge hsome hnone
  go_enter Tryd.func17, Tryd.ntmps17
  go_wp2_with fail
  go_loopg [7] s.size (fun g i wr => ∃ q : Nat, q ≤ s.size ∧ g = s.size - q ∧ i = .int .i64 q ∧ wr = w ∧ Hid (∀ j, j < q → s.data.toList[j]? ≠ some c))
  case atStart => exact ⟨0, Nat.zero_le _, rfl, rfl, rfl, Lib.hid (fun j h => by omega)⟩
  case round =>
    obtain ⟨q, hq, hg, rfl, rfl, HQ⟩ := hrel
    have hg := hg.symm
    subst hg
    by_cases hlt : q < s.size
    · obtain ⟨d, hd⟩ : ∃ d, s[q]'hlt = d := ⟨_, rfl⟩
      have hget : s.data.toList[q]? = some d := by rw [byte_at s q hlt, hd]
      have hby : (((s[q]'hlt).toNat : Nat) : Int) = (d.toNat : Int) := by rw [hd]
      have hlI : (q : Int) < (s.size : Int) := by omega
      have hq0 : (0 : Int) ≤ (q : Int) := by omega
      by_cases hdc : d = c
      · subst hdc
        have hk : k = q := by
          by_cases hn : k = -1
          · exact absurd hget (HN.out hn q)
          · have := HGE.out
            obtain ⟨o, rfl⟩ : ∃ o : Nat, k = o := ⟨k.toNat, by omega⟩
            obtain ⟨h1, h2⟩ := HS.out o rfl
            by_cases h : o < q
            · exact absurd h1 (HQ.out o h)
            · by_cases h' : q < o
              · exact absurd hget (h2 q h')
              · omega
        have HCR := Lib.hid (HPOS.out q hk)
        clear hk HPOS HNEG
        have q1 : IntKind.i64.wrap ((q : Int) + 1) = ((q + 1 : Nat) : Int) := by rw [IntKind.wrap_i64]; omega
        have q2 : ((q + 1 : Nat) : Int) ≤ (s.size : Int) := by omega
        have q3 : (0 : Int) ≤ ((q + 1 : Nat) : Int) := by omega
        have q4 : (q : Int) ≤ (s.size : Int) := by omega
        obtain ⟨o1, ho1⟩ : ∃ o1, q + 1 = o1 := ⟨_, rfl⟩
        rw [ho1] at q1 q2 q3 HCR
        clear hget hd ho1 HGE HS HN HQ
        go_upto_region 5 with fail
        go_quiet (fail)
        go_wp2_with fail
        go_ret3
        exact ⟨by rw [HCR.out]; rfl, _, rfl⟩
      · have g1 : (d == c) = false := beq_eq_false_iff_ne.2 hdc
        have g2 : ¬ (d.toNat : Int) = (c.toNat : Int) := by
          intro e; apply hdc; rw [← UInt8.toNat_inj]; omega
        have g3 : ((d.toNat : Int) == (c.toNat : Int)) = false := beq_eq_false_iff_ne.2 g2
        have HQ2 : Hid (∀ j, j < q + 1 → s.data.toList[j]? ≠ some c) := Lib.hid (by
          intro j hj
          by_cases h : j < q
          · exact HQ.out j h
          · obtain rfl : j = q := by omega
            rw [hget]; intro e; injection e with e; exact hdc e)
        clear hget hd HQ g2
        go_wp2_with fail
        go_roundg (s.size - (q + 1))
        case measure => omega
        case rel => exact ⟨q + 1, by omega, rfl, by go_num, rfl, HQ2⟩
    · obtain rfl : q = s.size := by omega
      have hk : k = -1 := by
        by_cases hn : k = -1
        · exact hn
        · have := HGE.out
          obtain ⟨o, rfl⟩ : ∃ o : Nat, k = o := ⟨k.toNat, by omega⟩
          obtain ⟨h1, _⟩ := HS.out o rfl
          have := (List.getElem?_eq_some_iff.1 h1).1
          exact absurd h1 (HQ.out o (by rw [show s.size = s.data.toList.length from Lib.size_eq s]; exact this))
      have HCR := Lib.hid (HNEG.out hk)
      clear HGE HS HN HQ HNEG HPOS hk
      go_wp2_with fail
      go_ret3
      exact ⟨by rw [HCR.out]; rfl, 0, rfl⟩
set_option maxRecDepth 100000 in
set_option maxHeartbeats 1600000 in
theorem ref06_find (x : ByteArray) (v : Value) (l : List ByteArray) (w : World) (hv : RowS w v l) (hl : l.length ≤ 1000000) :
    Calls Tryd.prog 24 #[.string x, v] w fun e w' => e = .returned (.tuple #[.int .i64 (findI l x), .bool (findB l x)]) ∧ w = w' := by
  have HV := Lib.hid hv
  obtain ⟨p, cap, rfl⟩ := hv.len
  have hyes : ∀ k, k < l.length → l.getD k ByteArray.empty = x → (∀ j, j < k → l.getD j ByteArray.empty ≠ x) → Lib.idxOfS l x = k := by
    intro k hk h1 h2
    have := Lib.idxOfS_hit l l.length k x hk (Nat.le_refl _) h1 h2
    rwa [List.take_length] at this
  have hno : (∀ j, j < l.length → l.getD j ByteArray.empty ≠ x) → Lib.idxOfS l x = -1 := by
    intro h
    have := Lib.idxOfS_miss l l.length x h
    rwa [List.take_length] at this
  have hneg : Lib.idxOfS l x = -1 → findI l x = 0 ∧ findB l x = false := by intro h; unfold findI findB; rw [h]; decide
  have hpos : ∀ o : Nat, Lib.idxOfS l x = o → findI l x = o ∧ findB l x = true := by
    intro o h; unfold findI findB; rw [h]; exact ⟨by omega, by simp⟩
  generalize findI l x = FI at hneg hpos ⊢
  generalize findB l x = FB at hneg hpos ⊢
  generalize Lib.idxOfS l x = r at hyes hno hneg hpos
  have HNEG := Lib.hid hneg
  have HPOS := Lib.hid hpos
  clear hneg hpos
  obtain ⟨n, hn⟩ : ∃ n, l.length = n := ⟨_, rfl⟩
  rw [hn] at HV hl hyes hno ⊢
  have HN := Lib.hid hn
  have HY := Lib.hid hyes
  have HNO := Lib.hid hno
  clear hv hyes hno hn
  go_enter Tryd.func24, Tryd.ntmps24
  go_wp2_with fail
  go_loopg [6] n (fun g i wr => ∃ q : Nat, q ≤ n ∧ g = n - q ∧ i = .int .i64 q ∧ wr = w ∧ Hid (∀ j, j < q → l.getD j ByteArray.empty ≠ x))
  case atStart => exact ⟨0, Nat.zero_le _, rfl, rfl, rfl, Lib.hid (fun j h => by omega)⟩
  case round =>
    obtain ⟨q, hq, hg, rfl, rfl, HQ⟩ := hrel
    have hg := hg.symm
    subst hg
    by_cases hlt : q < n
    · obtain ⟨b, off, cp, y, e1, g1, k1⟩ := HV.out.at (j := q) (by rw [HN.out]; exact hlt)
      rw [HN.out] at e1
      cases e1
      have hD : l.getD q ByteArray.empty = y := by rw [List.getD_eq_getElem?_getD, g1]; rfl
      have hlI : (q : Int) < (n : Int) := by omega
      have hq0 : (0 : Int) ≤ (q : Int) := by omega
      by_cases hyx : y = x
      · have hr : r = q := HY.out q hlt (by rw [hD, hyx]) HQ.out
        subst hyx
        have HF := Lib.hid (HPOS.out q hr)
        clear hD HQ g1 HY HNO hr HNEG HPOS
        go_wp2_with fail
        go_ret2
        exact ⟨by rw [HF.out.1, HF.out.2]; rfl, rfl⟩
      · have g2 : (y.toList == x.toList) = false := (Lib.bytes_beq_false_iff y x).2 hyx
        have HQ2 : Hid (∀ j, j < q + 1 → l.getD j ByteArray.empty ≠ x) := Lib.hid (by
          intro j hj
          by_cases h : j < q
          · exact HQ.out j h
          · obtain rfl : j = q := by omega
            rw [hD]; exact hyx)
        clear hD HQ g1 hyx
        go_wp2_with fail
        go_roundg (n - (q + 1))
        case measure => omega
        case rel => exact ⟨q + 1, by omega, rfl, by go_num, rfl, HQ2⟩
    · obtain rfl : q = n := by omega
      have HF := Lib.hid (HNEG.out (HNO.out HQ.out))
      clear HQ HY HNO HNEG HPOS
      go_wp2_with fail
      go_ret2
      exact ⟨by rw [HF.out.1, HF.out.2]; rfl, rfl⟩
theorem rowS_pick {w : World} {p : Option Addr} {cap n : Nat} {l : List (List UInt8)} (h : RowS w (.slice p n cap) (l.map strL)) (hn : l.length = n) : ∀ j, j < n → ∃ b off cp x, (Value.slice p n cap) = .slice (some ⟨b, off, none⟩) n cp ∧ l[j]? = some x ∧ w.cell? ⟨b, off + j, none⟩ = some (.string (strL x)) ∧ b < w.heap.size := by
  intro j hj
  rcases h with ⟨_, _, _, h0⟩ | ⟨b, off, cp, e1, hb, hc, _⟩
  · have : l = [] := by simpa using h0
    rw [this] at hn; simp at hn; omega
  · rw [List.length_map, hn] at e1
    have hj' : j < l.length := by omega
    exact ⟨b, off, cp, l[j], e1, List.getElem?_eq_getElem hj', hc j _ (by rw [List.getElem?_map, List.getElem?_eq_getElem hj']; rfl), hb⟩
theorem takeL_at {l : List (List UInt8)} {i : Nat} {x : List UInt8} (h : l[i]? = some x) : l.take (i + 1) = l.take i ++ [x] := by
  obtain ⟨hi, e⟩ := List.getElem?_eq_some_iff.1 h
  rw [List.take_succ_eq_append_getElem hi, e]
set_option maxRecDepth 100000 in
set_option maxHeartbeats 1600000 in
theorem ref06_join (v : Value) (l : List (List UInt8)) (w : World) (hv : RowS w v (l.map strL)) (hl : l.length ≤ 1000000) (hlen : (Lib.join l [32]).length ≤ 100000000) :
    Calls Tryd.prog 26 #[v] w fun e w' => e = .returned (.string (strL (Lib.join l [32]))) ∧ w = w' := by
  obtain ⟨p, cap, rfl⟩ := hv.len
  rw [List.length_map] at hv ⊢
  obtain ⟨n, hn⟩ : ∃ n, l.length = n := ⟨_, rfl⟩
  have HP := Lib.hid (rowS_pick (by rw [hn] at hv; exact hv) hn)
  rw [hn] at hl ⊢
  have HN := Lib.hid hn
  have HLEN := Lib.hid hlen
  clear hv hn hlen
  obtain ⟨RES, hRES⟩ : ∃ R, strL (Lib.join l [32]) = R := ⟨_, rfl⟩
  rw [hRES]
  have HRES := Lib.hid hRES
  clear hRES
  go_enter Tryd.func26, Tryd.ntmps26
  go_wp2_with fail
  go_loopg [3, 4] n (fun g s i wr => ∃ q : Nat, q ≤ n ∧ g = n - q ∧ i = .int .i64 q ∧ wr = w ∧ s = .string (strL (Lib.join (l.take q) [32])))
  case atStart => exact ⟨0, Nat.zero_le _, rfl, rfl, rfl, rfl⟩
  case round =>
    obtain ⟨q, hq, hg, rfl, rfl, rfl⟩ := hrel
    have hg := hg.symm
    subst hg
    by_cases hlt : q < n
    · obtain ⟨b, off, cp, x, e1, hx, k1, hbl⟩ := HP.out q hlt
      cases e1
      have hlI : (q : Int) < (n : Int) := by omega
      have hq0 : (0 : Int) ≤ (q : Int) := by omega
      have hle := join_take l [32] (q + 1)
      have hle2 := HLEN.out
      by_cases h0 : q = 0
      · subst h0
        have hJ : Lib.join (l.take (0 + 1)) [32] = x := by rw [takeL_at hx, List.take_zero, List.nil_append, Lib.join_one]
        rw [hJ] at hle
        have HJ := Lib.hid hJ
        rw [List.take_zero, Lib.join_nil]
        have hz : (strL x).size ≤ 9223372036854775807 := by rw [strL_size]; omega
        obtain ⟨X, hX⟩ : ∃ X, strL x = X := ⟨_, rfl⟩
        rw [hX] at k1 hz
        rw [Nat.add_zero] at k1
        have HX := Lib.hid hX
        have hz0 : strL [] = ⟨#[]⟩ := rfl
        rw [hz0]
        clear hle hle2 hx hJ hX hz0
        go_wp2_with fail
        go_roundg (n - (0 + 1))
        case measure => omega
        case rel => exact ⟨0 + 1, by omega, rfl, by go_num, rfl, by rw [HJ.out, HX.out, nil_app]⟩
      · have hne : l.take q ≠ [] := by
          intro e
          have := congrArg List.length e
          rw [List.length_take, HN.out] at this
          simp at this
          omega
        have hJ : Lib.join (l.take (q + 1)) [32] = Lib.join (l.take q) [32] ++ [32] ++ x := by rw [takeL_at hx, join_snoc _ hne]
        rw [hJ, List.length_append, List.length_append] at hle
        obtain ⟨A, hA⟩ : ∃ A, strL (Lib.join (l.take q) [32]) = A := ⟨_, rfl⟩
        have hAz : A.size = (Lib.join (l.take q) [32]).length := by rw [← hA, strL_size]
        obtain ⟨X, hX⟩ : ∃ X, strL x = X := ⟨_, rfl⟩
        have hXz : X.size = x.length := by rw [← hX, strL_size]
        have HJ : Hid (strL (Lib.join (l.take (q + 1)) [32]) = A ++ ⟨#[32]⟩ ++ X) := Lib.hid (by rw [hJ, strL_app, strL_app, hA, hX]; rfl)
        rw [hX] at k1
        rw [hA]
        have z1 : A.size + (⟨#[32]⟩ : ByteArray).size ≤ 9223372036854775807 := by show A.size + 1 ≤ _; omega
        have z2 : (A ++ ⟨#[32]⟩).size + X.size ≤ 9223372036854775807 := by rw [ByteArray.size_append]; show A.size + 1 + X.size ≤ _; omega
        have hqp : (0 : Int) < (q : Int) := by omega
        clear hle hle2 hx hJ hX hA hne hAz hXz
        go_wp2_with fail
        go_roundg (n - (q + 1))
        case measure => omega
        case rel => exact ⟨q + 1, by omega, rfl, by go_num, rfl, by rw [HJ.out]⟩
    · obtain rfl : q = n := by omega
      have HF : Hid (strL (Lib.join (l.take q) [32]) = RES) := Lib.hid (by rw [← HRES.out, List.take_of_length_le (by rw [HN.out]; exact Nat.le_refl _)])
      rw [HF.out]
      go_wp2_with fail
      go_ret
      exact ⟨rfl, rfl⟩
set_option maxRecDepth 100000 in
set_option maxHeartbeats 1600000 in
theorem ref06_text (v : Value) (l : List (List UInt8)) (w : World) (hv : RowS w v (l.map strL)) (hl : l.length ≤ 1000000) (hlen : (textL l).length ≤ 100000000) :
    Calls Tryd.prog 28 #[v] w fun e w' => e = .returned (.string (strL (textL l))) ∧ w = w' := by
  obtain ⟨p, cap, rfl⟩ := hv.len
  rw [List.length_map] at hv ⊢
  obtain ⟨n, hn⟩ : ∃ n, l.length = n := ⟨_, rfl⟩
  have HP := Lib.hid (rowS_pick (by rw [hn] at hv; exact hv) hn)
  rw [hn] at hl ⊢
  have HN := Lib.hid hn
  have HLEN := Lib.hid hlen
  clear hv hn hlen
  obtain ⟨RES, hRES⟩ : ∃ R, strL (textL l) = R := ⟨_, rfl⟩
  rw [hRES]
  have HRES := Lib.hid hRES
  clear hRES
  go_enter Tryd.func28, Tryd.ntmps28
  go_wp2_with fail
  go_loopg [3, 4] n (fun g s i wr => ∃ q : Nat, q ≤ n ∧ g = n - q ∧ i = .int .i64 q ∧ wr = w ∧ s = .string (strL (textL (l.take q))))
  case atStart => exact ⟨0, Nat.zero_le _, rfl, rfl, rfl, rfl⟩
  case round =>
    obtain ⟨q, hq, hg, rfl, rfl, rfl⟩ := hrel
    have hg := hg.symm
    subst hg
    by_cases hlt : q < n
    · obtain ⟨b, off, cp, x, e1, hx, k1, hbl⟩ := HP.out q hlt
      cases e1
      have hlI : (q : Int) < (n : Int) := by omega
      have hq0 : (0 : Int) ≤ (q : Int) := by omega
      have hle := textL_le l (q + 1)
      have hle2 := HLEN.out
      have hJ := textL_take l q x hx
      rw [hJ, List.length_append, List.length_append] at hle
      obtain ⟨A, hA⟩ : ∃ A, strL (textL (l.take q)) = A := ⟨_, rfl⟩
      have hAz : A.size = (textL (l.take q)).length := by rw [← hA, strL_size]
      obtain ⟨X, hX⟩ : ∃ X, strL x = X := ⟨_, rfl⟩
      have hXz : X.size = x.length := by rw [← hX, strL_size]
      have HJ : Hid (strL (textL (l.take (q + 1))) = A ++ X ++ ⟨#[10]⟩) := Lib.hid (by rw [hJ, strL_app, strL_app, hA, hX]; rfl)
      rw [hX] at k1
      rw [hA]
      have z1 : A.size + X.size ≤ 9223372036854775807 := by omega
      have z2 : (A ++ X).size + (⟨#[10]⟩ : ByteArray).size ≤ 9223372036854775807 := by rw [ByteArray.size_append]; show A.size + X.size + 1 ≤ _; simp at hle; omega
      clear hle hle2 hx hJ hX hA hAz hXz
      go_wp2_with fail
      go_roundg (n - (q + 1))
      case measure => omega
      case rel => exact ⟨q + 1, by omega, rfl, by go_num, rfl, by rw [HJ.out]⟩
    · obtain rfl : q = n := by omega
      have HF : Hid (strL (textL (l.take q)) = RES) := Lib.hid (by rw [← HRES.out, List.take_of_length_le (by rw [HN.out]; exact Nat.le_refl _)])
      rw [HF.out]
      go_wp2_with fail
      go_ret
      exact ⟨rfl, rfl⟩
end Go.Proofs.YtogjckengmkfiaaDoor
