/-
  Vectors as texts (reeve's layer 8): Text and Parse, the program's and the reference's.
-/
import Derived.Test.YtogjckengmkfiaaDoorResRef
import Derived.Test.YtogjckengmkfiaaDoorDecRefList
import Derived.Laws.Cover3
namespace Go.Proofs.YtogjckengmkfiaaDoor
open Go.RowKit
set_option linter.unusedVariables false
set_option linter.unusedSimpArgs false

theorem allV_in (l : List (List UInt8)) : ∀ ns, allV l = some ns → ∀ n ∈ ns, inI n := by
  induction l with
  | nil => intro ns h n hn; simp [allV] at h; subst h; simp at hn
  | cons x r ih =>
    intro ns h n hn
    unfold allV at h
    cases hx : decV x with
    | none => rw [hx] at h; simp at h
    | some m =>
      rw [hx] at h
      cases hr : allV r with
      | none => rw [hr] at h; simp at h
      | some t =>
        rw [hr] at h
        simp at h
        subst h
        rcases List.mem_cons.1 hn with e | e
        · rw [e]; exact (decV_some hx).1
        · exact ih t hr n e
theorem listR_cases (l : List UInt8) (many : Int) : (∃ ns, listR l many = (ns, 0) ∧ (ns.length : Int) = many ∧ ∀ n ∈ ns, inI n) ∨ listR l many = ([], 2) := by
  unfold listR
  by_cases h : ((splitC 44 l).length : Int) = many
  · rw [if_neg (by simp [h])]
    cases ha : allV (splitC 44 l) with
    | none => exact .inr rfl
    | some ns => exact .inl ⟨ns, rfl, by rw [allV_length ha]; exact h, allV_in _ _ ha⟩
  · rw [if_pos h]; exact .inr rfl
/-- The vector of a text, and the error. -/
def resP (l : List UInt8) : List Int × Int := if (listR l 3).2 = 0 then ((listR l 3).1, 0) else ([0, 0, 0], 2)
theorem resP_yes {l : List UInt8} {ns : List Int} (h : listR l 3 = (ns, 0)) : resP l = (ns, 0) := by unfold resP; rw [h]; rfl
theorem resP_no {l : List UInt8} (h : listR l 3 = ([], 2)) : resP l = ([0, 0, 0], 2) := by unfold resP; rw [h]; rfl
theorem resP_length (l : List UInt8) : (resP l).1.length = 3 := by
  rcases listR_cases l 3 with ⟨ns, h, hl, _⟩ | h
  · rw [resP_yes h]; show ns.length = 3; omega
  · rw [resP_no h]; rfl
theorem rowN_three (W : World) (n : Nat) (a0 a1 a2 : Int) (t : TypeId) (K : Blk W n #[.int .i64 a0, .int .i64 a1, .int .i64 a2] t) : RowN W (.slice (some ⟨n, 0, none⟩) 3 3) [a0, a1, a2] := by
  refine .inr ⟨_, 0, 3, rfl, K.lt, fun j x hj => ?_, Nat.le_refl _⟩
  rw [Nat.zero_add]
  match j, hj with
  | 0, hj => simp at hj; subst hj; exact K.cell rfl
  | 1, hj => simp at hj; subst hj; exact K.cell rfl
  | 2, hj => simp at hj; subst hj; exact K.cell rfl
set_option maxRecDepth 100000 in
set_option maxHeartbeats 1600000 in
theorem res_text (l : List Int) (hl : l.length = 3) (hi : ∀ n ∈ l, inI n) (w : World) (hL : Laid w) :
    Calls Tryd.prog 58 #[.agg (cellsI l)] w fun e w' => e = .returned (.string (strL (listL l))) ∧ Below w.heap.size w w' := by
  have T := Lib.hid (fun v w hv hL => dec_list v l w hv (by omega) hi hL)
  generalize strL (listL l) = X at T
  obtain ⟨a0, a1, a2, rfl⟩ := three_of hl
  have ea : cellsI [a0, a1, a2] = #[.int .i64 a0, .int .i64 a1, .int .i64 a2] := rfl
  rw [ea]
  have HB := Lib.hid (Blk.new w #[.int .i64 a0, .int .i64 a1, .int .i64 a2] 53)
  have HL := Lib.hid ((Below.refl w.heap.size w).alloc (Nat.le_refl _) (.cells #[.int .i64 a0, .int .i64 a1, .int .i64 a2] 53))
  have HZ : Hid ((w.alloc (.cells #[.int .i64 a0, .int .i64 a1, .int .i64 a2] 53)).heap.size = w.heap.size + 1) := Lib.hid (by simp)
  have LL := Lib.hid (hL.below HL.out)
  have HR := Lib.hid (rowN_three _ _ _ _ _ _ HB.out)
  obtain ⟨W, hW⟩ : ∃ W, w.alloc (.cells #[.int .i64 a0, .int .i64 a1, .int .i64 a2] 53) = W := ⟨_, rfl⟩
  rw [hW] at HB HL LL HR HZ
  have HW := Lib.hid hW
  clear hW ea hL hi hl
  go_enter Tryd.func58, Tryd.ntmps58
  go_upto_region 1 with fail
  rw [HW.out]
  clear HW
  go_wp2_with fail
  refine (T.out _ _ HR.out LL.out).mono ?_
  rintro e w1 ⟨rfl, hb1⟩
  have HL1 := Lib.hid (HL.out.trans (hb1.mono (by have := HZ.out; omega)))
  clear hb1
  go_wp2_with fail
  go_ret
  exact ⟨rfl, HL1.out⟩
set_option maxRecDepth 100000 in
set_option maxHeartbeats 1600000 in
theorem ref08_text (l : List Int) (hl : l.length = 3) (hi : ∀ n ∈ l, inI n) (w : World) :
    Calls Tryd.prog 59 #[.agg (cellsI l)] w fun e w' => e = .returned (.string (strL (listL l))) ∧ Below w.heap.size w w' := by
  have T := Lib.hid (fun v w hv => ref05_list v l w hv (by omega) hi)
  generalize strL (listL l) = X at T
  obtain ⟨a0, a1, a2, rfl⟩ := three_of hl
  have ea : cellsI [a0, a1, a2] = #[.int .i64 a0, .int .i64 a1, .int .i64 a2] := rfl
  rw [ea]
  have HB := Lib.hid (Blk.new w #[.int .i64 a0, .int .i64 a1, .int .i64 a2] 53)
  have HL := Lib.hid ((Below.refl w.heap.size w).alloc (Nat.le_refl _) (.cells #[.int .i64 a0, .int .i64 a1, .int .i64 a2] 53))
  have HZ : Hid ((w.alloc (.cells #[.int .i64 a0, .int .i64 a1, .int .i64 a2] 53)).heap.size = w.heap.size + 1) := Lib.hid (by simp)
  obtain ⟨W, hW⟩ : ∃ W, w.alloc (.cells #[.int .i64 a0, .int .i64 a1, .int .i64 a2] 53) = W := ⟨_, rfl⟩
  rw [hW] at HB HL HZ
  have HW := Lib.hid hW
  clear hW ea hi hl
  have HR := Lib.hid (rowN_three _ _ _ _ _ _ (Blk.new W #[.int .i64 a0, .int .i64 a1, .int .i64 a2] 3))
  have HL2 := Lib.hid (HL.out.alloc (by have := HZ.out; omega) (.cells #[.int .i64 a0, .int .i64 a1, .int .i64 a2] 3))
  go_enter Tryd.func59, Tryd.ntmps59
  go_upto_region 1 with fail
  rw [HW.out]
  clear HW
  have d0 := HB.out.cell (i := 0) rfl
  have d1 := HB.out.cell (i := 1) rfl
  have d2 := HB.out.cell (i := 2) rfl
  go_wp2_with fail
  refine (T.out _ _ HR.out).mono ?_
  rintro e w1 ⟨rfl, rfl⟩
  go_wp2_with fail
  go_ret
  exact ⟨rfl, HL2.out⟩
set_option maxRecDepth 100000 in
set_option maxHeartbeats 3200000 in
theorem res_parse (s : ByteArray) (hs : s.size ≤ 100000) (w : World) (hL : Laid w) :
    Calls Tryd.prog 56 #[.string s] w fun e w' => e = .returned (.tuple #[.agg (cellsI (resP s.data.toList).1), .int .i64 (resP s.data.toList).2]) ∧ Below w.heap.size w w' := by
  have hu := Tryd.underlying53
  have P := Lib.hid (fun w hL => dec_parseList s 3 hs w hL)
  have hcs := listR_cases s.data.toList 3
  obtain ⟨R, hR⟩ : ∃ R, resP s.data.toList = R := ⟨_, rfl⟩
  have HY := Lib.hid (fun ns h => hR.symm.trans (resP_yes (l := s.data.toList) (ns := ns) h))
  have HN := Lib.hid (fun h => hR.symm.trans (resP_no (l := s.data.toList) h))
  rw [hR]
  generalize listR s.data.toList 3 = Q at P hcs HY HN
  obtain ⟨R1, R2⟩ := R
  clear hR
  have HB := Lib.hid (Blk.new w #[.int .i64 0, .int .i64 0, .int .i64 0] 53)
  have HL := Lib.hid ((Below.refl w.heap.size w).alloc (Nat.le_refl _) (.cells #[.int .i64 0, .int .i64 0, .int .i64 0] 53))
  have HZ : Hid ((w.alloc (.cells #[.int .i64 0, .int .i64 0, .int .i64 0] 53)).heap.size = w.heap.size + 1) := Lib.hid (by simp)
  have LL := Lib.hid (hL.below HL.out)
  obtain ⟨n, hn⟩ : ∃ n, w.heap.size = n := ⟨_, rfl⟩
  obtain ⟨W, hW⟩ : ∃ W, w.alloc (.cells #[.int .i64 0, .int .i64 0, .int .i64 0] 53) = W := ⟨_, rfl⟩
  rw [hW] at HB HL HZ LL
  rw [hn] at HB HL HZ ⊢
  have HW := Lib.hid hW
  clear hW hL
  go_enter Tryd.func56, Tryd.ntmps56
  go_upto_region 1 with fail
  rw [HW.out]
  try rw [hn]
  clear HW
  go_wp2_with fail
  refine (P.out _ LL.out).mono ?_
  rintro e w1 ⟨v, rfl, hr1, hb1⟩
  have HR1 := Lib.hid hr1
  have HB1 : Hid (Blk w1 n (cellsI [0, 0, 0]) 53) := Lib.hid (HB.out.below hb1 HB.out.lt)
  have HL1 := Lib.hid (HL.out.trans (hb1.mono (by have := HZ.out; omega)))
  have hlt : n < w1.heap.size := HB1.out.lt
  clear hb1 hr1 HB HL LL
  rcases hcs with ⟨ns, rfl, hns, _⟩ | rfl
  · have HR := Lib.hid (HY.out ns (by first | rfl | trivial))
    clear HY HN P
    have hns3 : ns.length = 3 := by omega
    obtain ⟨a0, a1, a2, rfl⟩ := three_of hns3
    have hr := HR1.out
    rcases hr with ⟨_, _, _, h0⟩ | ⟨b, off, cp, e1, hb, hc, hcp⟩
    · cases h0
    change v = .slice (some ⟨b, off, none⟩) 3 cp at e1
    subst e1
    have d0 : w1.cell? ⟨b, off, none⟩ = some (.int .i64 a0) := hc 0 a0 rfl
    have d1 : w1.cell? ⟨b, off + 1, none⟩ = some (.int .i64 a1) := hc 1 a1 rfl
    have d2 : w1.cell? ⟨b, off + 2, none⟩ = some (.int .i64 a2) := hc 2 a2 rfl
    clear hc HR1 hns hns3
    have hat : ∀ w, (Instr.arrayAt 53 (.slice (some ⟨b, off, none⟩) 3 cp)).run Tryd.prog w = .ok (.pointer (some ⟨b, off, none⟩)) w := fun w => run_arrayAt w _ _ 3 _ 3 cp hu (Nat.le_refl _)
    go_wp2_with (first
      | (simp only [hat]; done)
      | (with_reducible refine ev_store rfl 53 (.tmp 2) (.tmp 17) rfl n (cellsI [a0, a1, a2]) rfl rfl 53 _ HB1.out (info_res _ rfl) rfl (cellsI_one _) ?_; intro w9 hb9 hc9 hz9)
      | simp only [hat])
    refine bodyPost_ret (res_ct rfl _ n 53 (cellsI [a0, a1, a2]) _ rfl hb9 hu rfl (info_res _ rfl)) rfl ⟨by rw [(Prod.mk.inj HR.out).1, (Prod.mk.inj HR.out).2]; rfl, ?_⟩
    exact Chg.belowOf HL1.out hc9 (fun k hk => by omega) (by have := HL1.out.size; omega)
  · have HR := Lib.hid (HN.out (by first | rfl | trivial))
    clear HY HN P
    go_wp2_with (with_reducible refine ev_store rfl 53 (.tmp 2) (.tmp 13) rfl n (cellsI [0, 0, 0]) rfl rfl 53 _ HB1.out (info_res _ rfl) rfl (cellsI_one _) ?_; intro w9 hb9 hc9 hz9)
    refine bodyPost_ret (res_ct rfl _ n 53 (cellsI [0, 0, 0]) _ rfl hb9 hu rfl (info_res _ rfl)) rfl ⟨by rw [(Prod.mk.inj HR.out).1, (Prod.mk.inj HR.out).2]; rfl, ?_⟩
    exact Chg.belowOf HL1.out hc9 (fun k hk => by omega) (by have := HL1.out.size; omega)
set_option maxRecDepth 100000 in
set_option maxHeartbeats 3200000 in
theorem ref08_parse (s : ByteArray) (hs : s.size ≤ 100000) (w : World) :
    Calls Tryd.prog 57 #[.string s] w fun e w' => e = .returned (.tuple #[.agg (cellsI (resP s.data.toList).1), .int .i64 (resP s.data.toList).2]) ∧ Below w.heap.size w w' := by
  have hu := Tryd.underlying53
  have P := Lib.hid (fun w => ref05_parseList s 3 hs w)
  have hcs := listR_cases s.data.toList 3
  obtain ⟨R, hR⟩ : ∃ R, resP s.data.toList = R := ⟨_, rfl⟩
  have HY := Lib.hid (fun ns h => hR.symm.trans (resP_yes (l := s.data.toList) (ns := ns) h))
  have HN := Lib.hid (fun h => hR.symm.trans (resP_no (l := s.data.toList) h))
  rw [hR]
  generalize listR s.data.toList 3 = Q at P hcs HY HN
  obtain ⟨R1, R2⟩ := R
  clear hR
  have HB := Lib.hid (Blk.new w #[.int .i64 0, .int .i64 0, .int .i64 0] 53)
  have HL := Lib.hid ((Below.refl w.heap.size w).alloc (Nat.le_refl _) (.cells #[.int .i64 0, .int .i64 0, .int .i64 0] 53))
  have HZ : Hid ((w.alloc (.cells #[.int .i64 0, .int .i64 0, .int .i64 0] 53)).heap.size = w.heap.size + 1) := Lib.hid (by simp)
  have LL := Lib.hid (rfl : w = w)
  obtain ⟨n, hn⟩ : ∃ n, w.heap.size = n := ⟨_, rfl⟩
  obtain ⟨W, hW⟩ : ∃ W, w.alloc (.cells #[.int .i64 0, .int .i64 0, .int .i64 0] 53) = W := ⟨_, rfl⟩
  rw [hW] at HB HL HZ
  rw [hn] at HB HL HZ ⊢
  have HW := Lib.hid hW
  clear hW
  go_enter Tryd.func57, Tryd.ntmps57
  go_upto_region 1 with fail
  rw [HW.out]
  try rw [hn]
  clear HW
  go_wp2_with fail
  refine (P.out _).mono ?_
  rintro e w1 ⟨v, rfl, hr1, hb1⟩
  have HR1 := Lib.hid hr1
  have HB1 : Hid (Blk w1 n (cellsI [0, 0, 0]) 53) := Lib.hid (HB.out.below hb1 HB.out.lt)
  have HL1 := Lib.hid (HL.out.trans (hb1.mono (by have := HZ.out; omega)))
  have hlt : n < w1.heap.size := HB1.out.lt
  clear hb1 hr1 HB HL LL
  rcases hcs with ⟨ns, rfl, hns, _⟩ | rfl
  · have HR := Lib.hid (HY.out ns (by first | rfl | trivial))
    clear HY HN P
    have hns3 : ns.length = 3 := by omega
    obtain ⟨a0, a1, a2, rfl⟩ := three_of hns3
    have hr := HR1.out
    rcases hr with ⟨_, _, _, h0⟩ | ⟨b, off, cp, e1, hb, hc, hcp⟩
    · cases h0
    change v = .slice (some ⟨b, off, none⟩) 3 cp at e1
    subst e1
    have d0 : w1.cell? ⟨b, off, none⟩ = some (.int .i64 a0) := hc 0 a0 rfl
    have d1 : w1.cell? ⟨b, off + 1, none⟩ = some (.int .i64 a1) := hc 1 a1 rfl
    have d2 : w1.cell? ⟨b, off + 2, none⟩ = some (.int .i64 a2) := hc 2 a2 rfl
    clear hc HR1 hns hns3
    have e0 := HB1.out.cell (i := 0) rfl
    have e1 := HB1.out.cell (i := 1) rfl
    have e2 := HB1.out.cell (i := 2) rfl
    have f0 := HB1.out.free 0
    have f1 := HB1.out.free 1
    have f2 := HB1.out.free 2
    go_upto_region 4 with fail
    go_region
    go_wp2_with fail
    have hb9 := (((HB1.out.set 0 (.int .i64 a0)).set 1 (.int .i64 a1)).set 2 (.int .i64 a2)).drew
    have hl9 := (((HL1.out.setCell (p := ⟨n, 0, none⟩) (Nat.le_refl _) (.int .i64 a0)).setCell (p := ⟨n, 1, none⟩) (Nat.le_refl _) (.int .i64 a1)).setCell (p := ⟨n, 2, none⟩) (Nat.le_refl _) (.int .i64 a2)).drew
    change Blk _ n (cellsI [a0, a1, a2]) _ at hb9
    refine bodyPost_ret (res_ct rfl _ n 53 (cellsI [a0, a1, a2]) _ rfl hb9 hu rfl (info_res _ rfl)) rfl ⟨by rw [(Prod.mk.inj HR.out).1, (Prod.mk.inj HR.out).2]; rfl, ?_⟩
    exact hl9
  · have HR := Lib.hid (HN.out (by first | rfl | trivial))
    clear HY HN P
    go_wp2_with (with_reducible refine ev_store rfl 53 (.tmp 2) (.tmp 13) rfl n (cellsI [0, 0, 0]) rfl rfl 53 _ HB1.out (info_res _ rfl) rfl (cellsI_one _) ?_; intro w9 hb9 hc9 hz9)
    refine bodyPost_ret (res_ct rfl _ n 53 (cellsI [0, 0, 0]) _ rfl hb9 hu rfl (info_res _ rfl)) rfl ⟨by rw [(Prod.mk.inj HR.out).1, (Prod.mk.inj HR.out).2]; rfl, ?_⟩
    exact Chg.belowOf HL1.out hc9 (fun k hk => by omega) (by have := HL1.out.size; omega)
end Go.Proofs.YtogjckengmkfiaaDoor
