/-
  Rows of named numbers (reeve's layer 7): the numbers of a row's line; the program's walk.
-/
import Derived.Test.YtanihdpgblkeaaaDoorRowLine
import Derived.Test.YtanihdpgblkeaaaDoorDecList
namespace Go.Proofs.YtanihdpgblkeaaaDoor
open Go.RowKit
set_option linter.unusedVariables false
set_option linter.unusedSimpArgs false

theorem own_ne {B g : Nat} {w : World} {v : Value} {l : List Int} {x : Value} {t : TypeId} (h : OwnN B w v l) (hb : Blk w g #[x] t) (ht : t ≠ 3) : ¬ some g = v.ownBlock := by
  obtain ⟨_, ⟨rfl, _⟩ | ⟨g2, cap, cur, rfl, _, hh, _⟩⟩ := h
  · simp [Value.ownBlock]
  · intro e
    have e2 : g = g2 := by simpa [Value.ownBlock] using e
    subst e2
    unfold Blk at hb
    rw [hb] at hh
    injection hh with hh
    injection hh with _ h2 _
    exact ht h2
theorem Blk.set1_ {w : World} {b : Nat} {x : Value} {t : TypeId} (h : Blk w b #[x] t) (v : Value) : Blk (w.setCell ⟨b, 0, none⟩ v) b #[v] t := h.set 0 v
theorem blk_ne {w : World} {g k : Nat} {x y : Value} {t u : TypeId} (h : Blk w g #[x] t) (h2 : Blk w k #[y] u) (ht : t ≠ u) : ¬ g = k := by
  rintro rfl
  unfold Blk at h h2
  rw [h] at h2
  injection h2 with h2
  injection h2 with _ h3 _
  exact ht h3
theorem OwnN.put {B g : Nat} {w : World} {v x : Value} {l : List Int} {t : TypeId} (h : OwnN B w v l) (hb : Blk w g #[x] t) (ht : t ≠ 3) (y : Value) : OwnN B (w.setCell ⟨g, 0, none⟩ y) v l := by
  have hne := own_ne h hb ht
  obtain ⟨h1, h2 | ⟨g2, cap, cur, rfl, hg, hh, rest⟩⟩ := h
  · exact ⟨h1, .inl h2⟩
  · refine ⟨h1, .inr ⟨g2, cap, cur, rfl, hg, ?_, rest⟩⟩
    exact (show Blk _ g2 cur 3 from Blk.far (show Blk w g2 cur 3 from hh) (a := ⟨g, 0, none⟩) (by intro e; exact hne (by show some g = some g2; rw [show g = g2 from e])) y)
theorem OwnN.lower {A B : Nat} {w : World} {v : Value} {l : List Int} (h : OwnN B w v l) (hA : A ≤ B) : OwnN A w v l := by
  obtain ⟨h1, h2 | ⟨g, cap, cur, h3, h4, rest⟩⟩ := h
  · exact ⟨h1, .inl h2⟩
  · exact ⟨h1, .inr ⟨g, cap, cur, h3, Nat.le_trans hA h4, rest⟩⟩
theorem Blk.grown {B g : Nat} {w w1 : World} {v x : Value} {l : List Int} {t : TypeId} (h : Blk w g #[x] t) (ho : OwnN B w v l) (ht : t ≠ 3) (hg : w.grownBy w1 v.ownBlock) : Blk w1 g #[x] t :=
  (hg.block g h.lt (own_ne ho h ht)).trans h
/-- The number of a part that is none: whatever is read of it. -/
theorem part_num (P A : List UInt8) : (Lib.hasPrefix P (A ++ [61]) = true → partV P A = decV (Lib.trimPrefix P (A ++ [61]))) ∧ (Lib.hasPrefix P (A ++ [61]) = false → partV P A = none) := by
  unfold partV Lib.trimPrefix
  unfold Lib.hasPrefix
  constructor
  · intro h; rw [if_pos h, if_pos h]; congr 2; simp
  · intro h; rw [if_neg (by rw [h]; simp)]
set_option maxRecDepth 100000 in
set_option maxHeartbeats 3200000 in
theorem row_take (P A : List UInt8) (hP : P.length ≤ 100000) (hA : A.length ≤ 60) (b : Bool) (br bo B : Nat) (v : Value) (vs : List Int) (hvl : vs.length ≤ 1000) (w : World) (hl : Laid w)
    (hbr : Blk w br #[.bool b] 4) (hbo : Blk w bo #[v] 39) (hr : B ≤ br) (ho : B ≤ bo) (hB : B ≤ w.heap.size) (hown : OwnN B w v vs) :
    Calls Tryd.prog 38 #[.string (strL P), .string (strL A), .pointer (some ⟨br, 0, none⟩), .pointer (some ⟨bo, 0, none⟩)] w fun e w' => e = .returned (.tuple #[]) ∧ ∃ (v' : Value) (n : Int), (∀ m, partV P A = some m → m = n) ∧ Blk w' br #[.bool (b && (partV P A).isSome)] 4 ∧ Blk w' bo #[v'] 39 ∧ OwnN B w' v' (vs ++ [n]) ∧ Below B w w' := by
  obtain ⟨i0, hi, hz, hsize, hby⟩ : ∃ i, Tryd.prog.info? 3 = some i ∧ i.zero = some (.int .i64 0) ∧ i.size = 1 ∧ i.bytes = 8 := ⟨_, rfl, rfl, rfl, rfl⟩
  have HI := Lib.hid hi
  clear hi
  have hna : strL A ++ ⟨#[61]⟩ = strL (A ++ [61]) := by rw [strL_app]; rfl
  have TP : Hid (∀ w : World, Calls Tryd.prog 40 #[.string (strL P), .string (strL (A ++ [61]))] w fun e w' => e = .returned (.string (strL (Lib.trimPrefix P (A ++ [61])))) ∧ w' = w) := Lib.hid (fun w => Tryd.strings_TrimPrefix (strL P) (strL (A ++ [61])) w)
  have HPX : Hid (∀ w : World, Calls Tryd.prog 41 #[.string (strL P), .string (strL (A ++ [61]))] w fun e w' => e = .returned (.bool (Lib.hasPrefix P (A ++ [61]))) ∧ w' = w) := Lib.hid (fun w => Tryd.strings_HasPrefix (strL P) (strL (A ++ [61])) w)
  have hle := Lib.trimPrefix_le P (A ++ [61])
  have DP := Lib.hid (fun w h => dec_parse (strL (Lib.trimPrefix P (A ++ [61]))) (by rw [strL_size]; omega) w h)
  rw [strL_list] at DP
  obtain ⟨hp1, hp2⟩ := part_num P A
  have hd := decR_of (l := Lib.trimPrefix P (A ++ [61]))
  have has : (strL A).size ≤ 60 := by rw [strL_size]; exact hA
  rw [← hna] at TP HPX
  generalize Lib.hasPrefix P (A ++ [61]) = px at HPX hp1 hp2
  generalize Lib.trimPrefix P (A ++ [61]) = TR at TP DP hp1 hd
  generalize strL TR = TS at TP DP
  generalize hAb : strL A = AB at *
  generalize strL P = PB at *
  clear hna
  have HD : Hid (∃ (n E : Int) (e : Bool), decR TR = (n, E) ∧ (decV TR = if e then some n else none) ∧ (E = if e then 0 else 2)) := Lib.hid (by
    rcases hd with ⟨n, h1, h2⟩ | ⟨h1, h2⟩
    · exact ⟨n, 0, true, h2, h1, rfl⟩
    · exact ⟨0, 2, false, h2, h1, rfl⟩)
  obtain ⟨n, E, e, hd1, hd2, hd3⟩ := HD.out
  have HE := Lib.hid hd3
  rw [hd1] at DP
  rw [hd2] at hp1
  have HS : Hid ((partV P A).isSome = (e && px) ∧ ∀ m, partV P A = some m → m = n) := Lib.hid (by
    cases px with
    | false => rw [hp2 rfl]; cases e <;> simp
    | true => rw [hp1 rfl]; cases e <;> simp)
  clear hp1 hp2 hd hd1 hd2 hd3 HD hle
  generalize (partV P A).isSome = s at *
  have HR := Lib.hid hbr
  have HO := Lib.hid hbo
  have HW := Lib.hid hown
  have HL := Lib.hid hl
  clear hbr hbo hown hl
  have hq1 : ¬ (9223372036854775807 < AB.size + 1) := by omega
  go_enter Tryd.func38, Tryd.ntmps38
  go_wp2_with fail
  refine (TP.out _).mono ?_
  rintro ee w1 ⟨rfl, rfl⟩
  go_wp2_with fail
  refine (DP.out _ HL.out).mono ?_
  rintro ee w2 ⟨rfl, hb2⟩
  replace HR := Lib.hid (HR.out.below hb2 HR.out.lt)
  replace HO := Lib.hid (HO.out.below hb2 HO.out.lt)
  replace HW := Lib.hid (HW.out.below hb2 (Nat.le_refl _))
  have HB := Lib.hid (hb2.mono hB)
  have HZ := Lib.hid hb2.size
  clear hb2 HL DP TP
  go_upto_region 1 with fail
  go_cut [] (fun wx => Hid (Blk wx br #[.bool (b && (e && px))] 4) ∧ Hid (Blk wx bo #[v] 39) ∧ Hid (OwnN B wx v vs) ∧ Hid (Below B w1 wx) ∧ Hid (w1.heap.size ≤ wx.heap.size))
  case first =>
    have c0 := HR.out.cell (i := 0) rfl
    have f0 := HR.out.free 0
    have hne := blk_ne HR.out HO.out (by decide)
    cases b with
    | false =>
      go_wp2_with fail
      go_meet
      exact ⟨Lib.hid (HR.out.set1_ _), Lib.hid (HO.out.far hne _), Lib.hid (HW.out.put HR.out (by decide) _), Lib.hid (HB.out.setCell (p := ⟨br, 0, none⟩) hr _), Lib.hid (by have := HZ.out; simp; omega)⟩
    | true =>
      cases e with
      | false =>
        obtain rfl : E = 2 := HE.out
        go_wp2_with fail
        go_meet
        exact ⟨Lib.hid (HR.out.set1_ _), Lib.hid (HO.out.far hne _), Lib.hid (HW.out.put HR.out (by decide) _), Lib.hid (HB.out.setCell (p := ⟨br, 0, none⟩) hr _), Lib.hid (by have := HZ.out; simp; omega)⟩
      | true =>
        obtain rfl : E = 0 := HE.out
        go_wp2_with fail
        refine (HPX.out _).mono ?_
        rintro ee w3 ⟨rfl, rfl⟩
        go_wp2_with fail
        go_meet
        exact ⟨Lib.hid (HR.out.set1_ _), Lib.hid (HO.out.far hne _), Lib.hid (HW.out.put HR.out (by decide) _), Lib.hid (HB.out.setCell (p := ⟨br, 0, none⟩) hr _), Lib.hid (by have := HZ.out; simp; omega)⟩
  case rest =>
    obtain ⟨HR, HO, HW, HB, HZ⟩ := hcut
    have c0 := HO.out.cell (i := 0) rfl
    have hbl := HO.out.lt
    go_wp2_with (at_builtin; refine wpList_append_own _ rfl _ _ 39 rfl B 3 i0 (.int .i64 0) 1 8 Tryd.underlying39 HI.out hz hsize hby rfl (by decide) _ vs.length (vs.map (Value.int .i64)) rfl (HW.out.below ((Below.refl _ _).alloc (Nat.le_refl _) _) (Nat.le_refl _)) ⟨_, 0, none⟩ 1 1 [.int .i64 n] rfl rfl (cell_one_new _ _ _) (by intro u hu; simp at hu; subst hu; rfl) (by unfold maxLen; omega) (by omega) (by have := HZ.out; simp; omega) ?_)
    intro v' w4 hown2 hgrow _
    have HW3 := Lib.hid (OwnN.mk (l := vs) (b := n) hown2)
    have HB3 := Lib.hid (OwnN.gby (HW.out.below ((Below.refl _ _).alloc (Nat.le_refl _) _) (Nat.le_refl _)) (HB.out.alloc (by have := HZ.out; omega) _) (by have := HZ.out; simp; omega) hgrow)
    have HO3 := Lib.hid ((HO.out.alloc _).grown (HW.out.below ((Below.refl _ _).alloc (Nat.le_refl _) _) (Nat.le_refl _)) (by decide) hgrow)
    have HR3 := Lib.hid ((HR.out.alloc _).grown (HW.out.below ((Below.refl _ _).alloc (Nat.le_refl _) _) (Nat.le_refl _)) (by decide) hgrow)
    have hne := blk_ne HO.out HR.out (by decide)
    clear hown2 hgrow c0
    obtain ⟨p', c', hv'⟩ := HW3.out.row.len
    rw [show (vs ++ [n]).length = vs.length + 1 by simp] at hv'
    subst hv'
    have f0 := HO3.out.free 0
    have c0 := HO3.out.cell (i := 0) rfl
    go_wp2_with fail
    go_end0
    exact ⟨rfl, _, n, HS.out.2, by rw [HS.out.1]; exact HR3.out.far hne _, HO3.out.set1_ _, HW3.out.put HO3.out (by decide) _, HB3.out.setCell (p := ⟨bo, 0, none⟩) ho _⟩
/-- What a row's parts tell, one by one. -/
theorem zip_at {r names : List (List UInt8)} {k : Nat} {P A : List UInt8} (h1 : r[k]? = some P) (h2 : names[k]? = some A) : (List.zipWith partV r names)[k]? = some (partV P A) := by
  rw [List.getElem?_zipWith, h1, h2]
theorem takeO_at {l : List (Option Int)} {i : Nat} {x : Option Int} (h : l[i]? = some x) : l.take (i + 1) = l.take i ++ [x] := by
  obtain ⟨hi, e⟩ := List.getElem?_eq_some_iff.1 h
  rw [List.take_succ_eq_append_getElem hi, e]
theorem allO_take_some (l : List (Option Int)) (i : Nat) (ns : List Int) (n : Int) (h : l[i]? = some (some n)) (hx : allO (l.take i) = some ns) : allO (l.take (i + 1)) = some (ns ++ [n]) := by
  rw [takeO_at h]; exact allO_snoc _ _ _ hx
theorem rowR_bad {ws : List (List UInt8)} {word : List UInt8} {names : List (List UInt8)} (h : ¬ (ws.length = names.length + 1 ∧ ws[0]? = some word)) : rowR ws word names = ([], 2) := by
  unfold rowR; rw [if_neg h]
theorem rowR_none {ws : List (List UInt8)} {word : List UInt8} {names : List (List UInt8)} (h : allO (List.zipWith partV ws.tail names) = none) : rowR ws word names = ([], 2) := by
  unfold rowR; rw [h]; split <;> rfl
theorem rowR_some {ws : List (List UInt8)} {word : List UInt8} {names : List (List UInt8)} {ns : List Int} (h1 : ws.length = names.length + 1) (h2 : ws[0]? = some word) (h : allO (List.zipWith partV ws.tail names) = some ns) : rowR ws word names = (ns, 0) := by
  unfold rowR; rw [if_pos ⟨h1, h2⟩, h]
theorem strL_inj {a b : List UInt8} (h : strL a = strL b) : a = b := by
  have := congrArg (fun s : ByteArray => s.data.toList) h
  simpa [strL] using this
theorem bne_str {a b : ByteArray} (h : a = b) : (a.toList != b.toList) = false := by subst h; simp
theorem bne_str_ne {a b : ByteArray} (h : a ≠ b) : (a.toList != b.toList) = true := by rw [bne, beq_str_ne h]; rfl
theorem refW_le (s : List UInt8) : ∀ (w : List UInt8) (n : Nat), w.length + s.length ≤ n → ∀ y ∈ refW w s, y.length ≤ n := by
  induction s with
  | nil =>
    intro w n h y hy
    unfold refW at hy
    split at hy
    · simp at hy
    · rw [List.mem_singleton] at hy; subst hy; simp at h; omega
  | cons c r ih =>
    intro w n h y hy
    simp only [List.length_cons] at h
    have h0 := ih [] n (by simp; omega)
    have h1 := ih (w ++ [c]) n (by simp; omega)
    unfold refW at hy
    split at hy
    · split at hy
      · simp at hy
      · rw [List.mem_singleton] at hy; subst hy; omega
    · split at hy
      · split at hy
        · exact h0 y hy
        · rw [List.mem_cons] at hy
          rcases hy with rfl | hy
          · omega
          · exact h0 y hy
      · exact h1 y hy
theorem words_le (s : List UInt8) : ∀ y ∈ wordsL s, y.length ≤ s.length := refW_le s [] _ (by simp)
set_option maxRecDepth 100000 in
set_option maxHeartbeats 3200000 in
theorem row_parse_own (s : ByteArray) (word : List UInt8) (vn : Value) (names : List (List UInt8)) (w : World) (hs : s.size ≤ 100000) (hn : RowS w vn (names.map strL)) (hn1 : names.length ≤ 1000) (hn2 : ∀ y ∈ names, y.length ≤ 60) (hL : Laid w) :
    Calls Tryd.prog 22 #[.string s, .string (strL word), vn] w fun e w' => ∃ v, e = .returned (.tuple #[v, .int .i64 (rowR (wordsL s.data.toList) word names).2]) ∧ OwnN w.heap.size w' v (rowR (wordsL s.data.toList) word names).1 ∧ Below w.heap.size w w' := by
  have WD := Lib.hid (words_words s hs w)
  have hwl := words_le s.data.toList
  have hsl : s.data.toList.length = s.size := (Lib.size_eq s).symm
  have hWL : (wordsL s.data.toList).length ≤ 100001 := by have := refW_len s.data.toList []; unfold wordsL; omega
  generalize wordsL s.data.toList = WS at *
  have hr1 := rowR_bad (ws := WS) (word := word) (names := names)
  have hr2 := rowR_none (ws := WS) (word := word) (names := names)
  have hr3 := fun ns => rowR_some (ws := WS) (word := word) (names := names) (ns := ns)
  obtain ⟨RR, hRR⟩ : ∃ R, rowR WS word names = R := ⟨_, rfl⟩
  rw [hRR] at hr1 hr2 ⊢
  simp only [hRR] at hr3
  obtain ⟨R1, R2⟩ := RR
  obtain ⟨pn, cn, rfl⟩ := hn.len
  rw [List.length_map] at hn ⊢
  obtain ⟨N, hN⟩ : ∃ N, names.length = N := ⟨_, rfl⟩
  obtain ⟨M, hM⟩ : ∃ M, WS.length = M := ⟨_, rfl⟩
  rw [hN] at hn hn1 hr1 ⊢
  simp only [hN] at hr3
  rw [hM] at hr1 hWL
  simp only [hM] at hr3
  have HPN := Lib.hid (rowS_pick_ hn hN)
  have HNL := Lib.hid hn2
  have HWL := Lib.hid (fun y (h : y ∈ WS) => show y.length ≤ 100000 by have := hwl y h; omega)
  have HR1 := Lib.hid hr1
  have HR2 := Lib.hid hr2
  have HR3 := Lib.hid hr3
  have HM := Lib.hid hM
  have HN := Lib.hid hN
  have LL := Lib.hid hL
  obtain ⟨wb, hwb⟩ : ∃ wb, strL word = wb := ⟨_, rfl⟩
  have HWB := Lib.hid hwb
  rw [hwb]
  clear hn hn2 hwl hr1 hr2 hr3 hM hN hL hwb hRR hsl
  go_enter Tryd.func22, Tryd.ntmps22
  go_wp2_with fail
  refine WD.out.mono ?_
  rintro ee w1 ⟨v8, rfl, how, hb1⟩
  obtain ⟨p8, c8, rfl⟩ := how.row.len
  have hrow := how.row
  rw [List.length_map] at hrow
  rw [List.length_map]
  rw [HM.out] at hrow
  rw [HM.out]
  have HPW := Lib.hid (rowS_pick_ hrow HM.out)
  have HB1 := Lib.hid hb1
  clear hrow how hb1 WD
  by_cases hMN : M = N + 1
  · subst hMN
    have hpos : (0 : Int) < ((N + 1 : Nat) : Int) := by omega
    obtain ⟨b0, o0, cp, X0, e1, hX0, x0, hb0⟩ := HPW.out 0 (by omega)
    cases e1
    rw [Nat.add_zero] at x0
    obtain ⟨xb, hxb⟩ : ∃ xb, strL X0 = xb := ⟨_, rfl⟩
    rw [hxb] at x0
    have hpush : ((N + 1 : Nat) : Int) = (N : Int) + 1 := by push_cast; rfl
    have hwr : IntKind.i64.wrap ((N : Int) + 1) = (N : Int) + 1 := by rw [IntKind.wrap_i64]; omega
    by_cases hx : X0 = word
    · have hxw : xb = wb := by rw [← hxb, hx, HWB.out]
      have hq1 := beq_str hxw
      have hq2 := bne_str hxw
      subst hx
      have HX0 := Lib.hid hX0
      clear hX0 hxb
      subst hxw
      replace HR1 := True.intro
      go_upto_region 7 with fail
      have KO : Hid (Blk ((w1.alloc (.cells #[.slice none 0 0] 39)).alloc (.cells #[.bool true] 4)) w1.heap.size #[.slice none 0 0] 39) := Lib.hid ((Blk.new w1 _ _).alloc _)
      have KR : Hid (Blk ((w1.alloc (.cells #[.slice none 0 0] 39)).alloc (.cells #[.bool true] 4)) (w1.heap.size + 1) #[.bool true] 4) := Lib.hid (by
        have h := Blk.new (w1.alloc (.cells #[.slice none 0 0] 39)) #[.bool true] 4
        rw [show (w1.alloc (.cells #[.slice none 0 0] 39)).heap.size = w1.heap.size + 1 by simp] at h
        exact h)
      have HB2 : Hid (Below w.heap.size w ((w1.alloc (.cells #[.slice none 0 0] 39)).alloc (.cells #[.bool true] 4))) := Lib.hid ((HB1.out.alloc HB1.out.size _).alloc (by have := HB1.out.size; simp; omega) _)
      have HB3 : Hid (Below w1.heap.size w1 ((w1.alloc (.cells #[.slice none 0 0] 39)).alloc (.cells #[.bool true] 4))) := Lib.hid (((Below.refl _ _).alloc (Nat.le_refl _) _).alloc (by simp) _)
      obtain ⟨W0, hW0⟩ : ∃ W0, (w1.alloc (.cells #[.slice none 0 0] 39)).alloc (.cells #[.bool true] 4) = W0 := ⟨_, rfl⟩
      rw [hW0] at KO KR HB2 HB3 ⊢
      clear hW0 x0
      obtain ⟨bo, hbo⟩ : ∃ bo, w1.heap.size = bo := ⟨_, rfl⟩
      have HBO := Lib.hid hbo
      have HSZ := Lib.hid HB1.out.size
      rw [hbo] at KO KR ⊢
      clear hbo
      go_wp2_with fail
      go_loopg [32] N (fun g i wr => ∃ (k : Nat) (b : Bool) (v : Value) (vs : List Int), k ≤ N ∧ g = N - k ∧ i = .int .i64 k ∧ vs.length = k ∧ Hid (Blk wr bo #[v] 39) ∧ Hid (Blk wr (bo + 1) #[.bool b] 4) ∧ Hid (OwnN w1.heap.size wr v vs) ∧ Hid (Below w1.heap.size w1 wr) ∧ Hid (b = true → allO ((List.zipWith partV WS.tail names).take k) = some vs) ∧ Hid (b = false → allO (List.zipWith partV WS.tail names) = none))
      case atStart => exact ⟨0, true, _, [], Nat.zero_le _, rfl, rfl, rfl, KO, KR, Lib.hid (OwnN.nil _ _), HB3, Lib.hid (fun _ => rfl), Lib.hid (fun h => by cases h)⟩
      case round =>
        obtain ⟨k, b, v, vs, hk, hg, rfl, hvl, GO, GR, HO, HC, HT, HF⟩ := hrel
        have HB := Lib.hid (HB1.out.trans (HC.out.mono HB1.out.size))
        have hg := hg.symm
        subst hg
        clear KO KR HB2 HB3
        by_cases hlt : k < N
        · obtain ⟨bn, on, cp, A, e1, hA, n0, hbn⟩ := HPN.out k (by omega)
          cases e1
          obtain ⟨bw, ow, cp, P, e1, hP, p0, hbw⟩ := HPW.out (k + 1) (by omega)
          cases e1
          have n1 := keepB HB.out n0 hbn
          have p1 := keepB HC.out p0 hbw
          have hAl := HNL.out A (List.mem_of_getElem? hA)
          have hPl := HWL.out P (List.mem_of_getElem? hP)
          have hz : (List.zipWith partV WS.tail names)[k]? = some (partV P A) := zip_at (by rw [List.getElem?_tail]; exact hP) hA
          have TK := Lib.hid (fun (wx : World) (h1 : Laid wx) (h2 : Blk wx (bo + 1) #[.bool b] 4) (h3 : Blk wx bo #[v] 39) (h4 : w1.heap.size ≤ wx.heap.size) (h5 : OwnN w1.heap.size wx v vs) => row_take P A hPl hAl b (bo + 1) bo w1.heap.size v vs (by omega) wx h1 h2 h3 (by have := HSZ.out; have := HBO.out; omega) (by have := HSZ.out; have := HBO.out; omega) h4 h5)
          have HT2 : Hid (b = true → ∀ m, partV P A = some m → allO ((List.zipWith partV WS.tail names).take (k + 1)) = some (vs ++ [m])) := Lib.hid (by
            intro hb m hm
            rw [hm] at hz
            exact allO_take_some _ k vs m hz (HT.out hb))
          have HF2 : Hid (partV P A = none → allO (List.zipWith partV WS.tail names) = none) := Lib.hid (by
            intro hm
            rw [hm] at hz
            exact allO_bad _ k hz)
          clear hz n0 p0 hA hP hAl hPl
          have LR := Lib.hid (LL.out.below HB.out)
          have hkN : (k : Int) < (N : Int) := by omega
          have hkM : (k : Int) + 1 < (N : Int) + 1 := by omega
          have hk0 : (0 : Int) ≤ (k : Int) := by omega
          have hk1 : (0 : Int) ≤ (k : Int) + 1 := by omega
          have hkw : IntKind.i64.wrap ((k : Int) + 1) = (k : Int) + 1 := by rw [IntKind.wrap_i64]; omega
          have ht : ((k : Int) + 1).toNat = k + 1 := by omega
          obtain ⟨pv, hpv⟩ : ∃ pv, partV P A = pv := ⟨_, rfl⟩
          rw [hpv] at TK HT2 HF2
          clear hpv
          generalize strL P = PB at *
          generalize strL A = AB at *
          go_wp2_with fail
          refine (TK.out _ LR.out GR.out GO.out HC.out.size HO.out).mono ?_
          rintro ee w2 ⟨rfl, v', n, hm, G1, G2, G3, G4⟩
          have HM2 := Lib.hid hm
          have KR := Lib.hid G1
          have KO := Lib.hid G2
          have KW := Lib.hid G3
          have KC := Lib.hid (HC.out.trans G4)
          clear hm G1 G2 G3 G4
          go_wp2_with fail
          go_roundg (N - (k + 1))
          case measure => omega
          case rel => exact ⟨k + 1, b && pv.isSome, v', vs ++ [n], by omega, rfl, by go_num, by rw [List.length_append, hvl]; rfl, KO, KR, KW, KC, Lib.hid (by
            intro h
            rw [Bool.and_eq_true] at h
            obtain ⟨m, hm⟩ := Option.isSome_iff_exists.1 h.2
            rw [← HM2.out m hm]
            exact HT2.out h.1 m hm), Lib.hid (by
            intro h
            cases hb : b with
            | false => exact HF.out hb
            | true =>
              rw [hb, Bool.true_and] at h
              exact HF2.out (by cases hp : pv with
                | none => rfl
                | some m => rw [hp] at h; cases h))⟩
        · obtain rfl : k = N := by omega
          have c0 := GR.out.cell (i := 0) rfl
          have c1 := GO.out.cell (i := 0) rfl
          cases b with
          | true =>
            have hR := HR3.out vs (by first | rfl | trivial) HX0.out (by have h := HT.out rfl; rw [List.take_of_length_le] at h; exact h; rw [List.length_zipWith, List.length_tail, HM.out, HN.out]; omega)
            have HR := Lib.hid hR
            clear hR HR3 HR2 HT HF
            go_wp2_with fail
            go_ret2
            exact ⟨_, by rw [(Prod.mk.inj HR.out).2]; rfl, by rw [(Prod.mk.inj HR.out).1]; exact HO.out.lower HB1.out.size, HB.out⟩
          | false =>
            have HR := Lib.hid (HR2.out (HF.out rfl))
            clear HR3 HR2 HT HF
            go_wp2_with fail
            go_ret2
            exact ⟨_, by rw [(Prod.mk.inj HR.out).2]; rfl, by rw [(Prod.mk.inj HR.out).1]; exact OwnN.nil _ _, HB.out⟩
    · have hxw : xb ≠ wb := by intro h; rw [← hxb, ← HWB.out] at h; exact hx (strL_inj h)
      have hq1 := beq_str_ne hxw
      have hq2 := bne_str_ne hxw
      have HR := Lib.hid (HR1.out (by rintro ⟨_, h⟩; rw [hX0] at h; injection h with h; exact hx h))
      clear HR1 HR2 HR3 hx hxb hX0 hxw
      go_wp2_with fail
      go_ret2
      exact ⟨_, by rw [(Prod.mk.inj HR.out).2]; rfl, by rw [(Prod.mk.inj HR.out).1]; exact OwnN.nil _ _, HB1.out⟩
  · have HR := Lib.hid (HR1.out (by rintro ⟨h, _⟩; exact hMN h))
    have hne : ¬ (M : Int) = (N : Int) + 1 := by omega
    have hwr : IntKind.i64.wrap ((N : Int) + 1) = (N : Int) + 1 := by rw [IntKind.wrap_i64]; omega
    clear HR1 HR2 HR3
    go_wp2_with fail
    go_ret2
    exact ⟨_, by rw [(Prod.mk.inj HR.out).2]; rfl, by rw [(Prod.mk.inj HR.out).1]; exact OwnN.nil _ _, HB1.out⟩
theorem row_parse (s : ByteArray) (word : List UInt8) (vn : Value) (names : List (List UInt8)) (w : World) (hs : s.size ≤ 100000) (hn : RowS w vn (names.map strL)) (hn1 : names.length ≤ 1000) (hn2 : ∀ y ∈ names, y.length ≤ 60) (hL : Laid w) :
    Calls Tryd.prog 22 #[.string s, .string (strL word), vn] w fun e w' => ∃ v, e = .returned (.tuple #[v, .int .i64 (rowR (wordsL s.data.toList) word names).2]) ∧ RowN w' v (rowR (wordsL s.data.toList) word names).1 ∧ Below w.heap.size w w' := by
  refine (row_parse_own s word vn names w hs hn hn1 hn2 hL).mono ?_
  rintro e w' ⟨v, he, ho, hb⟩
  exact ⟨v, he, ho.row, hb⟩
end Go.Proofs.YtanihdpgblkeaaaDoor
