/-
  Lines and words (reeve's layer 6): the program's walks: Lines, Join, Text, Find, Cut.
-/
import Derived.Test.YtogjckengmkfiaaDoorWords
namespace Go.Proofs.YtogjckengmkfiaaDoor
open Go.RowKit Go.Shelf
set_option linter.unusedVariables false
set_option linter.unusedSimpArgs false

theorem lies_two_ : Lies 81 2 0 := ⟨by decide, by kernel_rfl⟩
theorem bld_fresh (b : Nat) (w : World) (B : Nat) : BldIn #[.pointer none, .slice none 0 0] B b 0 w (.slice none 0 0) [] := ⟨.inl rfl, rfl, World.ownsRowF_nil _ _ _ _, by simp [Value.ownBlock]⟩
theorem RowS.new (w : World) (l : List ByteArray) (cap : Nat) (hl : l.length ≤ cap) (hne : l ≠ []) : RowS (w.alloc (.cells (l.map Value.string).toArray 9)) (.slice (some ⟨w.heap.size, 0, none⟩) l.length cap) l := by
  refine .inr ⟨_, 0, cap, rfl, by simp, fun j x hj => ?_, hl⟩
  have h := Blk.new w (l.map Value.string).toArray 9
  rw [Nat.zero_add]
  exact h.cell (by simp [hj])
set_option maxHeartbeats 1000000 in
theorem split_one (s : ByteArray) (c : UInt8) (w : World) (hs : s.size < 4294967281) :
    Calls Tryd.prog 69 #[.string s, .string ⟨#[c]⟩] w fun e w' => ∃ v, e = .returned v ∧ RowS w' v ((splitC c s.data.toList).map strL) ∧ Below w.heap.size w w' := by
  have h1 : 1 ≤ (⟨#[c]⟩ : ByteArray).size := Nat.le_refl 1
  have hle := Lib.countB_le ⟨#[c]⟩ h1 s.size s (Nat.le_refl _)
  have hlen := Lib.splitB_all ⟨#[c]⟩ h1 0 _ s rfl
  have hcnt : Lib.countB s ⟨#[c]⟩ = Lib.countByte s.data.toList c := Lib.count_one c s.data.toList
  have hsp : Lib.splitB ⟨#[c]⟩ 0 (Lib.countB s ⟨#[c]⟩) s = (splitC c s.data.toList).map strL := by
    have hd := Lib.splitB_data ⟨#[c]⟩ 0 (Lib.countB s ⟨#[c]⟩) s
    have hk := splitK_one c s.data.toList
    rw [hcnt] at hd ⊢
    have hd2 := hd.trans hk
    rw [← hd2, List.map_map]
    conv => lhs; rw [← List.map_id (Lib.splitB ⟨#[c]⟩ 0 (Lib.countByte s.data.toList c) s)]
    apply List.map_congr_left
    intro x _
    exact (strL_of x).symm
  have cc := Any.strings_genSplit_core (P := Tryd.prog) Tryd.lays221 (by kernel_rfl) s ⟨#[c]⟩ 0 (-1) (Lib.countB s ⟨#[c]⟩ + 1) w hs h1 (Nat.zero_le _)
    (fun x cs hx => (Tryd.strings_Index_one x c _).mono fun e w' ⟨he, hw⟩ => ⟨by rw [he, show Lib.indexB x ⟨#[c]⟩ = Lib.indexByte x.data.toList c from Lib.index_one _ _], hw⟩)
    ((Tryd.strings_Count_one s c w).mono fun e w' ⟨he, hw⟩ => ⟨by rw [he, hcnt], hw⟩) (by decide) (by decide) (by rw [if_pos (by decide)]; omega)
  rw [Nat.add_sub_cancel, hlen] at cc
  have e2 : Lib.cellsOf (Lib.splitB ⟨#[c]⟩ 0 (Lib.countB s ⟨#[c]⟩) s) (Lib.countB s ⟨#[c]⟩ + 1) = ((Lib.splitB ⟨#[c]⟩ 0 (Lib.countB s ⟨#[c]⟩) s).map Value.string).toArray := by rw [← hlen]; exact Lib.cellsOf_full _
  rw [e2] at cc
  rw [hsp] at cc hlen
  rw [← hlen] at cc
  have hne : (splitC c s.data.toList).map strL ≠ [] := by simp [splitC_ne]
  have CC : Hid (Calls Tryd.prog 98 #[.string s, .string ⟨#[c]⟩, .int .i64 0, .int .i64 (-1)] w fun e w' => ∃ v, e = .returned v ∧ RowS w' v ((splitC c s.data.toList).map strL) ∧ Below w.heap.size w w') := Lib.hid (cc.mono fun e w' ⟨he, hw⟩ => ⟨_, he, by rw [hw]; exact RowS.new w _ _ (Nat.le_refl _) hne, by rw [hw]; exact (Below.refl _ _).alloc (Nat.le_refl _) _⟩)
  clear cc e2 hsp hlen hle hcnt hne h1
  generalize (splitC c s.data.toList).map strL = LS at CC ⊢
  go_enter Tryd.func69, Tryd.ntmps69
  go_wp2_with fail
  refine CC.out.mono ?_
  rintro e w1 ⟨v, rfl, hr, hb⟩
  have HR := Lib.hid hr
  have HB := Lib.hid hb
  obtain ⟨p, cap, rfl⟩ := hr.len
  clear hr hb
  go_wp2_with fail
  go_ret
  exact ⟨_, rfl, HR.out, HB.out⟩
set_option maxRecDepth 100000 in
set_option maxHeartbeats 1600000 in
theorem words_lines (s : ByteArray) (hs : s.size ≤ 100000) (w : World) :
    Calls Tryd.prog 19 #[.string s] w fun e w' => ∃ v, e = .returned v ∧ RowS w' v ((linesL s.data.toList).map strL) ∧ Below w.heap.size w w' := by
  have hs63 : s.size ≤ 9223372036854775807 := by omega
  by_cases h0 : s.data.toList = []
  · have e : s = ⟨#[]⟩ := by rw [← strL_of s, h0]; rfl
    subst e
    go_enter Tryd.func19, Tryd.ntmps19
    go_wp2_with fail
    go_ret
    exact ⟨_, rfl, .inl ⟨_, _, rfl, rfl⟩, Below.refl _ _⟩
  · have hne : s.toList.isEmpty = false := by
      rw [ByteArray.toList_eq]
      cases hx : s.data.toList with
      | nil => exact absurd hx h0
      | cons a b => rfl
    have TS := Tryd.strings_TrimSuffix s ⟨#[10]⟩ w hs63
    have hle := lines_eq s.data.toList h0
    have htl := Lib.trimSuffix_le s.data.toList [10]
    have hz : s.data.toList.length = s.size := (Lib.size_eq s).symm
    have SP := fun w => split_one (strL (Lib.trimSuffix s.data.toList [10])) 10 w (by rw [strL_size]; omega)
    rw [strL_list] at SP
    rw [← hle] at SP
    have TS2 : Hid (Calls Tryd.prog 70 #[.string s, .string ⟨#[10]⟩] w fun e w' => e = .returned (.string (strL (Lib.trimSuffix s.data.toList [10]))) ∧ w' = w) := Lib.hid TS
    generalize strL (Lib.trimSuffix s.data.toList [10]) = T at TS2 SP
    have SP := Lib.hid SP
    generalize (linesL s.data.toList).map strL = LS at SP
    clear TS hle htl h0 hz
    go_enter Tryd.func19, Tryd.ntmps19
    go_wp2_with fail
    refine TS2.out.mono ?_
    rintro e w1 ⟨rfl, rfl⟩
    go_wp2_with fail
    refine (SP.out _).mono ?_
    rintro e w2 ⟨v, rfl, hr, hb⟩
    have HR := Lib.hid hr
    have HB := Lib.hid hb
    obtain ⟨p, cap, rfl⟩ := hr.len
    clear hr hb
    go_wp2_with fail
    go_ret
    exact ⟨_, rfl, HR.out, HB.out⟩
set_option maxRecDepth 100000 in
set_option maxHeartbeats 1600000 in
theorem words_joined (v : Value) (l : List (List UInt8)) (w : World) (hv : RowS w v (l.map strL)) (hl : l.length ≤ 1000000) (hlen : (Lib.join l [32]).length ≤ 100000000) :
    Calls Tryd.prog 25 #[v] w fun e w' => e = .returned (.string (strL (Lib.join l [32]))) ∧ Below w.heap.size w w' := by
  have hmm : (l.map strL).map (·.data.toList) = l := by
    rw [List.map_map]
    conv => rhs; rw [← List.map_id l]
    apply List.map_congr_left
    intro x _; rfl
  have J : Hid (Calls Tryd.prog 76 #[v, .string ⟨#[32]⟩] w fun e w' => e = .returned (.string (strL (Lib.join l [32]))) ∧ Below w.heap.size w w') := Lib.hid (by
    rcases hv with ⟨p, cap, rfl, h0⟩ | ⟨b, off, cap, rfl, hb, hc, hcap⟩
    · have : l = [] := by simpa using h0
      subst this
      exact (Tryd.strings_Join_none p cap ⟨#[32]⟩ w).mono fun e w' ⟨he, hw⟩ => ⟨he, hw ▸ Below.refl _ _⟩
    · have hx : ((l.map strL).length) ≤ 140737488355328 := by rw [List.length_map]; omega
      have hj : (Lib.join ((l.map strL).map (·.data.toList)) (⟨#[32]⟩ : ByteArray).data.toList).length ≤ 140737488355328 := by
        rw [hmm]
        refine Nat.le_trans hlen ?_
        omega
      have h := Tryd.strings_Join b off cap (l.map strL) ⟨#[32]⟩ w hc hb hx hcap hj
      rw [hmm] at h
      exact h)
  obtain ⟨p, cap, rfl⟩ := hv.len
  rw [List.length_map] at J ⊢
  generalize strL (Lib.join l [32]) = R at J ⊢
  clear hv hlen hmm
  go_enter Tryd.func25, Tryd.ntmps25
  go_wp2_with fail
  refine J.out.mono ?_
  rintro e w1 ⟨rfl, hb⟩
  have HB := Lib.hid hb
  clear hb
  go_wp2_with fail
  go_ret
  exact ⟨rfl, HB.out⟩
/-- Which one of some words a word is; whether it is one. -/
def findI (l : List ByteArray) (x : ByteArray) : Int := max (Lib.idxOfS l x) 0
def findB (l : List ByteArray) (x : ByteArray) : Bool := decide (0 ≤ Lib.idxOfS l x)
set_option maxRecDepth 100000 in
set_option maxHeartbeats 1600000 in
theorem words_find (x : ByteArray) (v : Value) (l : List ByteArray) (w : World) (hv : RowS w v l) (hl : l.length ≤ 1000000) :
    Calls Tryd.prog 23 #[.string x, v] w fun e w' => e = .returned (.tuple #[.int .i64 (findI l x), .bool (findB l x)]) ∧ w = w' := by
  have J : Hid (Calls Tryd.prog 75 #[v, .string x] w fun e w' => e = .returned (.int .i64 (Lib.idxOfS l x)) ∧ w' = w) := Lib.hid (by
    rcases hv with ⟨p, cap, rfl, rfl⟩ | ⟨b, off, cap, rfl, hb, hc, hcap⟩
    · exact Tryd.slices_Index_string_empty p cap x w
    · have h := Tryd.slices_Index_string b off l.length cap l x w (Nat.le_refl _) (by omega) (fun j hj => hc j _ (by rw [List.getD_eq_getElem?_getD, List.getElem?_eq_getElem hj]; rfl))
      rw [List.take_length] at h
      exact h)
  unfold findI findB
  obtain ⟨p, cap, rfl⟩ := hv.len
  generalize Lib.idxOfS l x = k at J
  clear hv
  go_enter Tryd.func23, Tryd.ntmps23
  by_cases h : k < 0
  · have hd : decide (0 ≤ k) = false := by simp; omega
    have hm : max k 0 = 0 := by omega
    rw [hd, hm]
    go_wp2_with fail
    refine J.out.mono ?_
    rintro e w1 ⟨rfl, rfl⟩
    go_wp2_with fail
    go_ret2
    exact ⟨rfl, rfl⟩
  · have h' : 0 ≤ k := by omega
    have hd : decide (0 ≤ k) = true := by simp; omega
    have hm : max k 0 = k := by omega
    rw [hd, hm]
    go_wp2_with fail
    refine J.out.mono ?_
    rintro e w1 ⟨rfl, rfl⟩
    go_wp2_with fail
    go_ret2
    exact ⟨rfl, rfl⟩
/-- What stands ahead of a sign, and behind it. -/
def cutR (s : ByteArray) (c : UInt8) : ByteArray × ByteArray × Bool :=
  if Lib.indexByte s.data.toList c < 0 then (⟨#[]⟩, ⟨#[]⟩, false) else (s.extract 0 (Lib.indexByte s.data.toList c).toNat, s.extract ((Lib.indexByte s.data.toList c).toNat + 1) s.size, true)
set_option maxRecDepth 100000 in
set_option maxHeartbeats 1600000 in
theorem words_cut (s : ByteArray) (c : UInt8) (hs : s.size ≤ maxLen) (w : World) :
    Calls Tryd.prog 16 #[.string s, .int .u8 c.toNat] w fun e w' => e = .returned (.tuple #[.string (cutR s c).1, .string (cutR s c).2.1, .bool (cutR s c).2.2]) ∧ ∃ m, w' = w.drewN m := by
  have hs63 : s.size ≤ 9223372036854775807 := by unfold maxLen at hs; omega
  have J := Tryd.strings_IndexByte s c.toNat w
  rw [show ((c.toNat : Int)).toNat.toUInt8 = c by simp] at J
  have hge := Lib.indexByte_ge s.data.toList c
  have hsome := fun o => Lib.indexByte_some (l := s.data.toList) (c := c) (o := o)
  unfold cutR
  generalize Lib.indexByte s.data.toList c = k at J hge hsome
  have HJ := Lib.hid J
  clear J
  go_enter Tryd.func16, Tryd.ntmps16
  by_cases h : k < 0
  · rw [if_pos h]
    clear hsome
    go_wp2_with fail
    refine HJ.out.mono ?_
    rintro e w1 ⟨rfl, rfl⟩
    go_wp2_with fail
    go_ret3
    exact ⟨rfl, 0, rfl⟩
  · rw [if_neg h]
    obtain ⟨o, rfl⟩ : ∃ o : Nat, k = o := ⟨k.toNat, by omega⟩
    obtain ⟨h1, _⟩ := hsome o rfl
    have hlt : o < s.size := by
      rw [show s.size = s.data.toList.length from Lib.size_eq s]
      exact (List.getElem?_eq_some_iff.1 h1).1
    have e1 : ((o : Int)).toNat = o := by omega
    rw [e1]
    have q1 : IntKind.i64.wrap ((o : Int) + 1) = ((o + 1 : Nat) : Int) := by rw [IntKind.wrap_i64]; omega
    have q2 : ((o + 1 : Nat) : Int) ≤ (s.size : Int) := by omega
    have q3 : (0 : Int) ≤ ((o + 1 : Nat) : Int) := by omega
    have q4 : (o : Int) ≤ (s.size : Int) := by omega
    have q5 : (0 : Int) ≤ (o : Int) := by omega
    have h' : (0 : Int) ≤ (o : Int) := by omega
    obtain ⟨o1, ho1⟩ : ∃ o1, o + 1 = o1 := ⟨_, rfl⟩
    rw [ho1] at q1 q2 q3 ⊢
    clear hsome h1 e1 ho1 hge h
    go_wp2_with fail
    refine HJ.out.mono ?_
    rintro e w1 ⟨rfl, rfl⟩
    go_upto_region 4 with fail
    go_quiet (fail)
    go_wp2_with fail
    go_ret3
    exact ⟨rfl, _, rfl⟩
theorem textL_take (l : List (List UInt8)) (i : Nat) (x : List UInt8) (h : l[i]? = some x) : textL (l.take (i + 1)) = textL (l.take i) ++ x ++ [10] := by
  obtain ⟨hi, e⟩ := List.getElem?_eq_some_iff.1 h
  unfold textL
  rw [List.take_succ_eq_append_getElem hi, List.flatMap_append, e]
  simp
theorem textL_le (l : List (List UInt8)) (i : Nat) : (textL (l.take i)).length ≤ (textL l).length := by
  have e : textL l = textL (l.take i) ++ textL (l.drop i) := by
    unfold textL
    rw [← List.flatMap_append, List.take_append_drop]
  rw [e, List.length_append]; omega
set_option maxRecDepth 100000 in
set_option maxHeartbeats 1600000 in
theorem words_text (v : Value) (l : List (List UInt8)) (w : World) (hv : RowS w v (l.map strL)) (hl : l.length ≤ 1000000) (hlen : (textL l).length ≤ 100000000) :
    Calls Tryd.prog 27 #[v] w fun e w' => e = .returned (.string (strL (textL l))) ∧ Below w.heap.size w w' := by
  obtain ⟨p, cap, rfl⟩ := hv.len
  rw [List.length_map] at hv ⊢
  have HV := Lib.hid hv
  obtain ⟨n, hnn⟩ : ∃ n, l.length = n := ⟨_, rfl⟩
  rw [hnn] at HV hl ⊢
  have HN := Lib.hid hnn
  have HLEN := Lib.hid hlen
  have hbv : ∀ j, j < n → ∃ b off cp x, (Value.slice p n cap) = .slice (some ⟨b, off, none⟩) n cp ∧ l[j]? = some x ∧ w.cell? ⟨b, off + j, none⟩ = some (.string (strL x)) ∧ b < w.heap.size := by
    intro j hj
    rcases HV.out with ⟨_, _, _, h0⟩ | ⟨b, off, cp, e1, hb, hc, _⟩
    · have : l = [] := by simpa using h0
      rw [this] at hnn; simp at hnn; omega
    · rw [List.length_map, hnn] at e1
      have hj' : j < l.length := by omega
      exact ⟨b, off, cp, l[j], e1, List.getElem?_eq_getElem hj', hc j _ (by rw [List.getElem?_map, List.getElem?_eq_getElem hj']; rfl), hb⟩
  have HBV := Lib.hid hbv
  clear hv hnn hlen hbv HV
  obtain ⟨RES, hRES⟩ : ∃ R, strL (textL l) = R := ⟨_, rfl⟩
  rw [hRES]
  have HRES := Lib.hid hRES
  clear hRES
  go_enter Tryd.func27, Tryd.ntmps27
  go_wp2_with fail
  go_loopg [8] n (fun gg s8 wr => ∃ (i : Nat) (cs : Array Value) (v : Value), i ≤ n ∧ gg = n - i ∧ s8 = .int .i64 i ∧ cs.size = 2 ∧ Hid (Blk wr w.heap.size cs 81) ∧ Hid (BldIn cs w.heap.size w.heap.size 0 wr v (textL (l.take i))) ∧ Hid (Below w.heap.size w wr))
  case atStart => exact ⟨0, _, .slice none 0 0, by omega, rfl, rfl, rfl, Lib.hid (Blk.new w _ _), Lib.hid (bld_fresh _ _ _), Lib.hid ((Below.refl w.heap.size w).alloc (Nat.le_refl _) _)⟩
  case round =>
    obtain ⟨i, cs, v, hi', hg, rfl, hcs, HB, HBI, HL⟩ := hrel
    have hg := hg.symm
    subst hg
    have hbw := HB.out.lt
    by_cases hlt : i < n
    · obtain ⟨b, off, cp, x, e1, hx, k0, hbl⟩ := HBV.out i hlt
      cases e1
      have k2 := keepB HL.out k0 hbl
      have hP := textL_take l i x hx
      have hle1 := textL_le l (i + 1)
      have hle2 := HLEN.out
      rw [hP, List.length_append, List.length_append] at hle1
      have h1 : (textL (l.take i)).length + x.length + 1 ≤ 100000000 := by simp at hle1; omega
      have HP := Lib.hid hP
      have hiI : (i : Int) < (n : Int) := by omega
      have hi0 : (0 : Int) ≤ (i : Int) := by omega
      obtain ⟨X, hX⟩ : ∃ X, strL x = X := ⟨_, rfl⟩
      rw [hX] at k2
      have HX := Lib.hid hX
      have hXz : X.size = x.length := by rw [← hX, strL_size]
      clear k0 hx hP hle1 hle2 hX
      go_wp2_with fail
      refine (bld_writeString 81 w.heap.size 0 w.heap.size cs v _ X wr (by rw [hcs]; exact lies_two_) (by decide) HB.out HBI.out (by omega) (by omega) (Nat.le_refl _)).mono ?_
      rintro e w6 ⟨rfl, v6, hb6, hbi6, hc6, hown6⟩
      have HL6 := Lib.hid (HL.out.trans (hc6.below HL.out.size (fun k hk => by
        rcases hk with h | h
        · omega
        · have := (World.ownsRowF.lt HBI.out.2.2.1 k h.symm).1; omega)))
      have HB6 := Lib.hid hb6
      have HBI6 : Hid (BldIn (wrote cs w.heap.size 0 v6) w.heap.size w.heap.size 0 w6 v6 (textL (l.take i) ++ x)) := Lib.hid (by rw [← HX.out, strL_list] at hbi6; exact hbi6)
      have hs6 : w.heap.size < w6.heap.size := hb6.lt
      clear hb6 hbi6 hc6 hown6 k2 HB HBI HL
      go_wp2_with fail
      refine (bld_writeString 81 w.heap.size 0 w.heap.size (wrote cs w.heap.size 0 v6) v6 _ ⟨#[10]⟩ w6 (by rw [wrote_size, hcs]; exact lies_two_) (by decide) HB6.out HBI6.out (by rw [List.length_append]; show _ + 1 ≤ _; omega) (by omega) (Nat.le_refl _)).mono ?_
      rintro e w7 ⟨rfl, v7, hb7, hbi7, hc7, hown7⟩
      have HL7 := Lib.hid (HL6.out.trans (hc7.below HL6.out.size (fun k hk => by
        rcases hk with h | h
        · omega
        · have := (World.ownsRowF.lt HBI6.out.2.2.1 k h.symm).1; omega)))
      have HB7 := Lib.hid hb7
      have HBI7 : Hid (BldIn (wrote (wrote cs w.heap.size 0 v6) w.heap.size 0 v7) w.heap.size w.heap.size 0 w7 v7 (textL (l.take (i + 1)))) := Lib.hid (by rw [HP.out]; exact hbi7)
      clear hb7 hbi7 hc7 hown7
      go_wp2_with fail
      go_roundg (n - (i + 1))
      case measure => omega
      case rel => exact ⟨i + 1, _, _, by omega, rfl, by go_num, by rw [wrote_size, wrote_size]; exact hcs, HB7, HBI7, HL7⟩
    · obtain rfl : i = n := by omega
      have hst := bld_string 81 w.heap.size 0 w.heap.size cs v _ wr HB.out HBI.out (by omega)
      have HST := Lib.hid hst
      clear hst
      go_wp2_with fail
      refine HST.out.mono ?_
      rintro e w5 ⟨rfl, hb5, hbi5, hc5⟩
      have HL5 := Lib.hid (HL.out.trans (hc5.below HL.out.size (fun k hk => (World.ownsRowF.lt HBI.out.2.2.1 k hk.symm).1)))
      have HF : Hid (RES = ⟨(textL (l.take i)).toArray⟩) := Lib.hid (by
        rw [← HRES.out, List.take_of_length_le (by rw [HN.out]; exact Nat.le_refl _)]; rfl)
      clear hb5 hbi5 hc5 HST
      go_wp2_with fail
      go_ret
      exact ⟨by rw [HF.out]; rfl, HL5.out⟩
end Go.Proofs.YtogjckengmkfiaaDoor
