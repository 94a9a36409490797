/-
  May what a message names be (reeve's layer 35): the walk.
-/
import Derived.Test.YtanihdpgblkeaaaGreatDoorMsgContains
import Derived.Test.YtanihdpgblkeaaaGreatDoorMsgPure
import Derived.Test.YtanihdpgblkeaaaGreatDoorEventAll
namespace Go.Proofs.YtanihdpgblkeaaaGreatDoor
open Go.RowKit
set_option linter.unusedVariables false
set_option linter.unusedSimpArgs false

def loI (i : Nat) : Int := if i < 3 then 1 else 0
def hiI_ (i : Nat) : Int := if i = 0 then 4294967295 else if i = 1 ∨ i = 2 then 2147483647 else if i = 3 then 1099511627776 else if i = 4 then 99 else 14
/-- The bounds, as their slice holds them. -/
def bndC (g : Nat) : List Value := [.pointer (some ⟨g, 3, none⟩), .int .i64 1, .int .i64 4294967295, .pointer (some ⟨g, 4, none⟩), .int .i64 1, .int .i64 2147483647, .pointer (some ⟨g, 5, none⟩), .int .i64 1, .int .i64 2147483647, .pointer (some ⟨g, 6, none⟩), .int .i64 0, .int .i64 1099511627776, .pointer (some ⟨g, 7, none⟩), .int .i64 0, .int .i64 99, .pointer (some ⟨g, 8, none⟩), .int .i64 0, .int .i64 14]
theorem bndC_at (g i : Nat) (h : i < 6) : (bndC g).toArray[i * 3]? = some (.pointer (some ⟨g, i + 3, none⟩)) ∧ (bndC g).toArray[i * 3 + 1]? = some (.int .i64 (loI i)) ∧ (bndC g).toArray[i * 3 + 2]? = some (.int .i64 (hiI_ i)) := by
  match i, h with
  | 0, _ => exact ⟨rfl, rfl, rfl⟩
  | 1, _ => exact ⟨rfl, rfl, rfl⟩
  | 2, _ => exact ⟨rfl, rfl, rfl⟩
  | 3, _ => exact ⟨rfl, rfl, rfl⟩
  | 4, _ => exact ⟨rfl, rfl, rfl⟩
  | 5, _ => exact ⟨rfl, rfl, rfl⟩
theorem bndM_at (i : Nat) (h : i < 6) (n : Int) : bndM (i + 3) n = inR n (loI i) (hiI_ i) := by
  match i, h with
  | 0, _ => rfl
  | 1, _ => rfl
  | 2, _ => rfl
  | 3, _ => rfl
  | 4, _ => rfl
  | 5, _ => rfl
theorem rightM_no (l : List Int) (i : Nat) (h1 : i + 3 ∈ offsM (fld l 0)) (h2 : bndM (i + 3) (fld l (i + 3)) = false) : rightM l = false := by
  unfold rightM
  rw [Bool.and_eq_false_iff]
  left
  rw [List.all_eq_false]
  exact ⟨_, h1, by rw [h2]; decide⟩
theorem rightM_res (l : List Int) (h : ∀ i, i < 6 → i + 3 ∈ offsM (fld l 0) → bndM (i + 3) (fld l (i + 3)) = true) : rightM l = resB [fld l 9, fld l 10, fld l 11] := by
  unfold rightM
  have : (offsM (fld l 0)).all (fun o => bndM o (fld l o)) = true := by
    rw [List.all_eq_true]
    intro o ho
    have hb := offsM_lt _ o ho
    by_cases h9 : o < 9
    · have := h (o - 3) (by omega) (by rw [show o - 3 + 3 = o by omega]; exact ho)
      rw [show o - 3 + 3 = o by omega] at this
      exact this
    · unfold bndM
      rw [if_neg (by omega), if_neg (by omega), if_neg (by omega), if_neg (by omega), if_neg (by omega)]
  rw [this, Bool.true_and]
theorem RowV.drewV {B : Nat} {w : World} {v : Value} {l : List Value} (h : RowV B w v l) : RowV B w.drew v l := h
set_option maxRecDepth 100000 in
set_option maxHeartbeats 3200000 in
theorem msg_right (l : List Int) (hl : l.length = 12) (w : World) :
    Calls Tryz.prog 70 #[.agg (cellsI l)] w fun e w' => e = .returned (.bool (rightM l)) ∧ Below w.heap.size w w' := by
  obtain ⟨K, hK⟩ : ∃ K, fld l 0 = K := ⟨_, rfl⟩
  have hcell := fun i (h : i < 12) => show (cellsI l)[i]? = some (.int .i64 (fld l i)) from cellsI_at (by omega)
  have RR := fun w => res_right [fld l 9, fld l 10, fld l 11] rfl w
  have hno := fun i => rightM_no l i
  have hyes := rightM_res l
  rw [hK] at hno hyes
  have hc0 := hcell 0 (by decide)
  rw [hK] at hc0
  obtain ⟨RM, hRM⟩ : ∃ r, rightM l = r := ⟨_, rfl⟩
  rw [hRM] at hno hyes ⊢
  generalize resB [fld l 9, fld l 10, fld l 11] = RB at RR hyes
  have hres : cellsI [fld l 9, fld l 10, fld l 11] = #[.int .i64 (fld l 9), .int .i64 (fld l 10), .int .i64 (fld l 11)] := rfl
  rw [hres] at RR
  have HRR := Lib.hid RR
  have HNO := Lib.hid hno
  have HYES := Lib.hid hyes
  have HC := Lib.hid hcell
  clear hK RR hno hyes hres hRM
  obtain ⟨C, hC⟩ : ∃ C, cellsI l = C := ⟨_, rfl⟩
  rw [hC] at HC hc0 ⊢
  have HC0 := Lib.hid hc0
  clear hC hcell hc0
  obtain ⟨g, hg0⟩ : ∃ g, w.heap.size = g := ⟨_, rfl⟩
  obtain ⟨W, hW⟩ : ∃ W, w.alloc (.cells C 25) = W := ⟨_, rfl⟩
  have HB0 : Hid (Blk W g C 25) := Lib.hid (by rw [← hW, ← hg0]; exact Blk.new w _ _)
  have HBL0 : Hid (Below g w W) := Lib.hid (by rw [← hW, ← hg0]; exact (Below.refl w.heap.size w).alloc (Nat.le_refl _) _)
  rw [hg0]
  have HW := Lib.hid hW
  have HG := Lib.hid hg0
  clear hW hg0
  go_enter Tryz.func70, Tryz.ntmps70
  go_upto_region 1 with fail
  rw [HW.out]
  try rw [HG.out]
  clear HW
  go_wp2_with fail
  refine (msg_named g K W (HB0.out.cell HC0.out)).mono ?_
  rintro e w1 ⟨v, rfl, hr, hb1⟩
  have HB1 := Lib.hid (HB0.out.below hb1 HB0.out.lt)
  have HBL1 := Lib.hid (HBL0.out.trans (hb1.mono (by rw [← HG.out]; exact HBL0.out.size)))
  have HR1 := Lib.hid hr
  have hg1 : g < w1.heap.size := HB1.out.lt
  clear hb1 hr HB0 HBL0
  go_wp2_with fail
  go_loopg [21] 6 (fun gg s21 wr => ∃ i : Nat, i ≤ 6 ∧ gg = 6 - i ∧ s21 = .int .i64 i ∧ Hid (Blk wr w1.heap.size (bndC g).toArray 130) ∧ Hid (Blk wr g C 25) ∧ Hid (RowV W.heap.size wr v (ptrs g (offsM K))) ∧ Hid (Below g w wr) ∧ Hid (∀ j, j < i → j + 3 ∈ offsM K → bndM (j + 3) (fld l (j + 3)) = true))
  case atStart => exact ⟨0, by omega, rfl, rfl, Lib.hid (Blk.new w1 _ _), Lib.hid (HB1.out.alloc _), Lib.hid (HR1.out.below ((Below.refl _ _).alloc (Nat.le_refl _) _) (Nat.le_refl _)), Lib.hid (HBL1.out.alloc (by rw [← HG.out]; exact HBL1.out.size) _), Lib.hid (fun j h => by omega)⟩
  case round =>
    obtain ⟨i, hi6, hg, rfl, HX, HB, HR, HBL, HOK⟩ := hrel
    have hg := hg.symm
    subst hg
    clear HB1 HBL1 HR1
    by_cases hlt : i < 6
    · obtain ⟨p0, p1, p2⟩ := bndC_at g i hlt
      have k0 := HX.out.cell p0
      have k1 := HX.out.cell p1
      have k2 := HX.out.cell p2
      have hbi := bndM_at i hlt (fld l (i + 3))
      have km := HB.out.cell (HC.out (i + 3) (by omega))
      have hno := HNO.out i
      have hstep : ∀ (hs : i + 3 ∈ offsM K → bndM (i + 3) (fld l (i + 3)) = true), Hid (∀ j, j < i + 1 → j + 3 ∈ offsM K → bndM (j + 3) (fld l (j + 3)) = true) := fun hs => Lib.hid (fun j hj hm => by
        by_cases e : j = i
        · subst e; exact hs hm
        · exact HOK.out j (by omega) hm)
      have NR := fun w => num_right (fld l (i + 3)) (loI i) (hiI_ i) w
      have CON := fun w (h : RowV W.heap.size w v (ptrs g (offsM K))) => ptr_contains g W.heap.size (i + 3) (offsM K) (by have := offsM_length K; omega) v w h
      generalize inR (fld l (i + 3)) (loI i) (hiI_ i) = rgt at hbi NR
      rw [hbi] at hno hstep
      have hcon : ∃ q : Bool, decide (i + 3 ∈ offsM K) = q ∧ (q = true ↔ i + 3 ∈ offsM K) := ⟨_, rfl, by simp⟩
      obtain ⟨q, hq, hqi⟩ := hcon
      rw [hq] at CON
      rw [← hqi] at hno hstep
      clear hq hqi hbi p0 p1 p2
      generalize fld l (i + 3) = nv at *
      generalize loI i = lo at *
      generalize hiI_ i = hi at *
      generalize i + 3 = o at *
      have HNO2 := Lib.hid hno
      have HST := Lib.hid hstep
      have NR := Lib.hid NR
      have CON := Lib.hid CON
      have hiI : (i : Int) < 6 := by omega
      have hi0 : (0 : Int) ≤ (i : Int) := by omega
      have hz : g < wr.heap.size := HB.out.lt
      clear hno hstep
      go_upto_region 5 with fail
      have RV := Lib.hid (HR.out.below ((Below.refl _ _).alloc (Nat.le_refl _) (.cells #[.pointer (some ⟨g, o, none⟩), .int .i64 lo, .int .i64 hi] 130)) (Nat.le_refl _))
      have XN := Lib.hid (Blk.new wr #[.pointer (some ⟨g, o, none⟩), .int .i64 lo, .int .i64 hi] 130)
      have HX2 := Lib.hid (HX.out.alloc (.cells #[.pointer (some ⟨g, o, none⟩), .int .i64 lo, .int .i64 hi] 130))
      have HB2 := Lib.hid (HB.out.alloc (.cells #[.pointer (some ⟨g, o, none⟩), .int .i64 lo, .int .i64 hi] 130))
      have HBL2 := Lib.hid (HBL.out.alloc (by rw [← HG.out]; exact HBL.out.size) (.cells #[.pointer (some ⟨g, o, none⟩), .int .i64 lo, .int .i64 hi] 130))
      have xm : (wr.alloc (.cells #[.pointer (some ⟨g, o, none⟩), .int .i64 lo, .int .i64 hi] 130)).cell? ⟨g, o, none⟩ = some (.int .i64 nv) := keepA km _
      clear HX HB HR HBL km k0 k1 k2
      obtain ⟨W2, hW2⟩ : ∃ W2, wr.alloc (.cells #[.pointer (some ⟨g, o, none⟩), .int .i64 lo, .int .i64 hi] 130) = W2 := ⟨_, rfl⟩
      rw [hW2] at RV XN HX2 HB2 HBL2 xm ⊢
      obtain ⟨X, hX⟩ : ∃ X, wr.heap.size = X := ⟨_, rfl⟩
      rw [hX] at XN ⊢
      clear hW2 hX hz
      have x0 := XN.out.cell (i := 0) rfl
      have x1 := XN.out.cell (i := 1) rfl
      have x2 := XN.out.cell (i := 2) rfl
      cases q with
      | false =>
        refine wp_region_held_drew (S := (fun w' => w'.cell? ⟨X, 0, none⟩ = some (.pointer (some ⟨g, o, none⟩)) ∧ w'.cell? ⟨X, 1, none⟩ = some (.int .i64 lo) ∧ w'.cell? ⟨X, 2, none⟩ = some (.int .i64 hi) ∧ w'.cell? ⟨g, o, none⟩ = some (.int .i64 nv))) (by kernel_rfl) ⟨x0, x1, x2, xm⟩ (fun hHeld => ?_)
        refine wpAnyH_take (i := 0) (oi := ({ dst := some 25, op := Op.move (Operand.tmp 3), type := 94, pos := "msg.go:112", after := #[], guard := none })) (v := v) rfl (by kernel_rfl) (by kernel_rfl) (by kernel_rfl) (fun _ _ _ h => h) (Or.inl ⟨by rfl, ?_⟩) (by assumption) ?_
        · (intro w hSw; (try dsimp only at hSw); go_simp)
        try simp only [Act.put, List.setIfInBounds_toArray, List.set_cons_zero, List.set_cons_succ]
        refine wpAnyH_take (i := 1) (oi := ({ dst := some 26, op := Op.fieldAddr 130 (Operand.tmp 5) 0, type := 0, pos := "msg.go:112", after := #[], guard := none })) (v := (.pointer (some ⟨X, 0, none⟩))) rfl (by kernel_rfl) (by kernel_rfl) (by kernel_rfl) (fun _ _ _ h => h) (Or.inl ⟨by rfl, ?_⟩) (by assumption) ?_
        · (intro w hSw; (try dsimp only at hSw); go_simp)
        try simp only [Act.put, List.setIfInBounds_toArray, List.set_cons_zero, List.set_cons_succ]
        refine wpAnyH_take (i := 2) (oi := ({ dst := some 27, op := Op.load 61 (Operand.tmp 26), type := 61, pos := "msg.go:112", after := #[{ on := 1, ground := Ground.data }], guard := none })) (v := (.pointer (some ⟨g, o, none⟩))) rfl (by kernel_rfl) (by kernel_rfl) (by kernel_rfl) (fun _ _ _ h => h) (Or.inl ⟨by rfl, ?_⟩) (by assumption) ?_
        · (intro w hSw; (try dsimp only at hSw); go_simp)
        try simp only [Act.put, List.setIfInBounds_toArray, List.set_cons_zero, List.set_cons_succ]
        refine wpAnyH_ready (rs := [3]) (by kernel_rfl) (by simp) (AllReadyH.cons (o := ({ dst := some 28, op := Op.call { callee := Callee.value (Operand.func 98), args := #[Operand.tmp 25, Operand.tmp 27], argTypes := #[94, 61] }, type := 4, pos := "msg.go:112", after := #[{ on := 0, ground := Ground.data }, { on := 2, ground := Ground.data }], guard := none })) rfl (fun K hK => ?_) AllReadyH.nil)
        go_simp
        refine (CON.out _ ?R1).mono ?_
        case R1 => exact RV.out.drewV
        rintro e w' ⟨rfl, rfl⟩
        go_wp2_with fail
        clear hHeld
        refine hK.out _ _ ⟨x0, x1, x2, xm⟩ (fun hHeld => ?_)
        clear hK K
        try simp only [Act.put, List.setIfInBounds_toArray, List.set_cons_zero, List.set_cons_succ]
        refine wpAnyH_take (i := 4) (oi := ({ dst := some 29, op := Op.move (Operand.tmp 28), type := 4, pos := "msg.go:112", after := #[{ on := 3, ground := Ground.data }, { on := 3, ground := Ground.chain }], guard := none })) (v := (.bool false)) rfl (by kernel_rfl) (by kernel_rfl) (by kernel_rfl) (fun _ _ _ h => h) (Or.inl ⟨by rfl, ?_⟩) (by assumption) ?_
        · (intro w hSw; (try dsimp only at hSw); go_simp)
        try simp only [Act.put, List.setIfInBounds_toArray, List.set_cons_zero, List.set_cons_succ]
        refine wpAnyH_take (i := 5) (oi := ({ dst := some 30, op := Op.fieldAddr 130 (Operand.tmp 5) 0, type := 0, pos := "msg.go:112", after := #[{ on := 4, ground := Ground.guard }], guard := some (4, true) })) (v := undef) rfl (by kernel_rfl) (by kernel_rfl) (by kernel_rfl) (fun _ _ _ h => h) (Or.inr ⟨by rfl, rfl⟩) (by assumption) ?_
        try simp only [Act.put, List.setIfInBounds_toArray, List.set_cons_zero, List.set_cons_succ]
        refine wpAnyH_take (i := 6) (oi := ({ dst := some 31, op := Op.load 61 (Operand.tmp 30), type := 61, pos := "msg.go:112", after := #[{ on := 5, ground := Ground.data }, { on := 4, ground := Ground.guard }], guard := some (4, true) })) (v := undef) rfl (by kernel_rfl) (by kernel_rfl) (by kernel_rfl) (fun _ _ _ h => h) (Or.inr ⟨by rfl, rfl⟩) (by assumption) ?_
        try simp only [Act.put, List.setIfInBounds_toArray, List.set_cons_zero, List.set_cons_succ]
        refine wpAnyH_take (i := 7) (oi := ({ dst := some 32, op := Op.nilCheck (Operand.tmp 31), type := 0, pos := "msg.go:112", after := #[{ on := 6, ground := Ground.data }, { on := 4, ground := Ground.guard }], guard := some (4, true) })) (v := undef) rfl (by kernel_rfl) (by kernel_rfl) (by kernel_rfl) (fun _ _ _ h => h) (Or.inr ⟨by rfl, rfl⟩) (by assumption) ?_
        try simp only [Act.put, List.setIfInBounds_toArray, List.set_cons_zero, List.set_cons_succ]
        refine wpAnyH_take (i := 8) (oi := ({ dst := some 33, op := Op.load 3 (Operand.tmp 32), type := 3, pos := "msg.go:112", after := #[{ on := 7, ground := Ground.data }, { on := 4, ground := Ground.guard }], guard := some (4, true) })) (v := undef) rfl (by kernel_rfl) (by kernel_rfl) (by kernel_rfl) (fun _ _ _ h => h) (Or.inr ⟨by rfl, rfl⟩) (by assumption) ?_
        try simp only [Act.put, List.setIfInBounds_toArray, List.set_cons_zero, List.set_cons_succ]
        refine wpAnyH_take (i := 9) (oi := ({ dst := some 34, op := Op.fieldAddr 130 (Operand.tmp 5) 1, type := 0, pos := "msg.go:112", after := #[{ on := 4, ground := Ground.guard }], guard := some (4, true) })) (v := undef) rfl (by kernel_rfl) (by kernel_rfl) (by kernel_rfl) (fun _ _ _ h => h) (Or.inr ⟨by rfl, rfl⟩) (by assumption) ?_
        try simp only [Act.put, List.setIfInBounds_toArray, List.set_cons_zero, List.set_cons_succ]
        refine wpAnyH_take (i := 10) (oi := ({ dst := some 35, op := Op.load 3 (Operand.tmp 34), type := 3, pos := "msg.go:112", after := #[{ on := 9, ground := Ground.data }, { on := 4, ground := Ground.guard }], guard := some (4, true) })) (v := undef) rfl (by kernel_rfl) (by kernel_rfl) (by kernel_rfl) (fun _ _ _ h => h) (Or.inr ⟨by rfl, rfl⟩) (by assumption) ?_
        try simp only [Act.put, List.setIfInBounds_toArray, List.set_cons_zero, List.set_cons_succ]
        refine wpAnyH_take (i := 11) (oi := ({ dst := some 36, op := Op.fieldAddr 130 (Operand.tmp 5) 2, type := 0, pos := "msg.go:112", after := #[{ on := 4, ground := Ground.guard }], guard := some (4, true) })) (v := undef) rfl (by kernel_rfl) (by kernel_rfl) (by kernel_rfl) (fun _ _ _ h => h) (Or.inr ⟨by rfl, rfl⟩) (by assumption) ?_
        try simp only [Act.put, List.setIfInBounds_toArray, List.set_cons_zero, List.set_cons_succ]
        refine wpAnyH_take (i := 12) (oi := ({ dst := some 37, op := Op.load 3 (Operand.tmp 36), type := 3, pos := "msg.go:112", after := #[{ on := 11, ground := Ground.data }, { on := 4, ground := Ground.guard }], guard := some (4, true) })) (v := undef) rfl (by kernel_rfl) (by kernel_rfl) (by kernel_rfl) (fun _ _ _ h => h) (Or.inr ⟨by rfl, rfl⟩) (by assumption) ?_
        try simp only [Act.put, List.setIfInBounds_toArray, List.set_cons_zero, List.set_cons_succ]
        refine wpAnyH_take (i := 13) (oi := ({ dst := some 38, op := Op.call { callee := Callee.value (Operand.func 97), args := #[Operand.tmp 33, Operand.tmp 35, Operand.tmp 37], argTypes := #[3, 3, 3] }, type := 4, pos := "msg.go:112", after := #[{ on := 8, ground := Ground.data }, { on := 10, ground := Ground.data }, { on := 12, ground := Ground.data }, { on := 4, ground := Ground.chain }, { on := 4, ground := Ground.guard }], guard := some (4, true) })) (v := undef) rfl (by kernel_rfl) (by kernel_rfl) (by kernel_rfl) (fun _ _ _ h => h) (Or.inr ⟨by rfl, rfl⟩) (by assumption) ?_
        try simp only [Act.put, List.setIfInBounds_toArray, List.set_cons_zero, List.set_cons_succ]
        refine wpAnyH_take (i := 14) (oi := ({ dst := some 39, op := Op.unOp UnOp.not 4 (Operand.tmp 38), type := 4, pos := "msg.go:112", after := #[{ on := 13, ground := Ground.data }, { on := 4, ground := Ground.guard }], guard := some (4, true) })) (v := undef) rfl (by kernel_rfl) (by kernel_rfl) (by kernel_rfl) (fun _ _ _ h => h) (Or.inr ⟨by rfl, rfl⟩) (by assumption) ?_
        try simp only [Act.put, List.setIfInBounds_toArray, List.set_cons_zero, List.set_cons_succ]
        refine wpAnyH_take (i := 15) (oi := ({ dst := some 40, op := Op.pick (Operand.tmp 29) (Operand.tmp 39) (Operand.const (Value.bool false)), type := 4, pos := "msg.go:112", after := #[{ on := 4, ground := Ground.data }, { on := 14, ground := Ground.data }], guard := none })) (v := (.bool false)) rfl (by kernel_rfl) (by kernel_rfl) (by kernel_rfl) (fun _ _ _ h => h) (Or.inl ⟨by rfl, ?_⟩) (by assumption) ?_
        · (intro w hSw; (try dsimp only at hSw); go_simp)
        try simp only [Act.put, List.setIfInBounds_toArray, List.set_cons_zero, List.set_cons_succ]
        refine wpAnyH_done (by kernel_rfl) ?_ _
        clear hHeld
        have HST2 := HST.out (fun h => by cases h)
        clear HST HNO2 x0 x1 x2 xm XN CON NR
        go_wp2_with fail
        go_roundg (6 - (i + 1))
        case measure => omega
        case rel => exact ⟨i + 1, by omega, rfl, by go_num, Lib.hid HX2.out.drew, Lib.hid HB2.out.drew, Lib.hid RV.out.drewV, Lib.hid HBL2.out.drew, HST2⟩
      | true =>
        cases rgt with
        | true =>
          refine wp_region_held_drew (S := (fun w' => w'.cell? ⟨X, 0, none⟩ = some (.pointer (some ⟨g, o, none⟩)) ∧ w'.cell? ⟨X, 1, none⟩ = some (.int .i64 lo) ∧ w'.cell? ⟨X, 2, none⟩ = some (.int .i64 hi) ∧ w'.cell? ⟨g, o, none⟩ = some (.int .i64 nv))) (by kernel_rfl) ⟨x0, x1, x2, xm⟩ (fun hHeld => ?_)
          refine wpAnyH_take (i := 0) (oi := ({ dst := some 25, op := Op.move (Operand.tmp 3), type := 94, pos := "msg.go:112", after := #[], guard := none })) (v := v) rfl (by kernel_rfl) (by kernel_rfl) (by kernel_rfl) (fun _ _ _ h => h) (Or.inl ⟨by rfl, ?_⟩) (by assumption) ?_
          · (intro w hSw; (try dsimp only at hSw); go_simp)
          try simp only [Act.put, List.setIfInBounds_toArray, List.set_cons_zero, List.set_cons_succ]
          refine wpAnyH_take (i := 1) (oi := ({ dst := some 26, op := Op.fieldAddr 130 (Operand.tmp 5) 0, type := 0, pos := "msg.go:112", after := #[], guard := none })) (v := (.pointer (some ⟨X, 0, none⟩))) rfl (by kernel_rfl) (by kernel_rfl) (by kernel_rfl) (fun _ _ _ h => h) (Or.inl ⟨by rfl, ?_⟩) (by assumption) ?_
          · (intro w hSw; (try dsimp only at hSw); go_simp)
          try simp only [Act.put, List.setIfInBounds_toArray, List.set_cons_zero, List.set_cons_succ]
          refine wpAnyH_take (i := 2) (oi := ({ dst := some 27, op := Op.load 61 (Operand.tmp 26), type := 61, pos := "msg.go:112", after := #[{ on := 1, ground := Ground.data }], guard := none })) (v := (.pointer (some ⟨g, o, none⟩))) rfl (by kernel_rfl) (by kernel_rfl) (by kernel_rfl) (fun _ _ _ h => h) (Or.inl ⟨by rfl, ?_⟩) (by assumption) ?_
          · (intro w hSw; (try dsimp only at hSw); go_simp)
          try simp only [Act.put, List.setIfInBounds_toArray, List.set_cons_zero, List.set_cons_succ]
          refine wpAnyH_ready (rs := [3]) (by kernel_rfl) (by simp) (AllReadyH.cons (o := ({ dst := some 28, op := Op.call { callee := Callee.value (Operand.func 98), args := #[Operand.tmp 25, Operand.tmp 27], argTypes := #[94, 61] }, type := 4, pos := "msg.go:112", after := #[{ on := 0, ground := Ground.data }, { on := 2, ground := Ground.data }], guard := none })) rfl (fun K hK => ?_) AllReadyH.nil)
          go_simp
          refine (CON.out _ ?R1).mono ?_
          case R1 => exact RV.out.drewV
          rintro e w' ⟨rfl, rfl⟩
          go_wp2_with fail
          clear hHeld
          refine hK.out _ _ ⟨x0, x1, x2, xm⟩ (fun hHeld => ?_)
          clear hK K
          try simp only [Act.put, List.setIfInBounds_toArray, List.set_cons_zero, List.set_cons_succ]
          refine wpAnyH_take (i := 4) (oi := ({ dst := some 29, op := Op.move (Operand.tmp 28), type := 4, pos := "msg.go:112", after := #[{ on := 3, ground := Ground.data }, { on := 3, ground := Ground.chain }], guard := none })) (v := (.bool true)) rfl (by kernel_rfl) (by kernel_rfl) (by kernel_rfl) (fun _ _ _ h => h) (Or.inl ⟨by rfl, ?_⟩) (by assumption) ?_
          · (intro w hSw; (try dsimp only at hSw); go_simp)
          try simp only [Act.put, List.setIfInBounds_toArray, List.set_cons_zero, List.set_cons_succ]
          refine wpAnyH_take (i := 5) (oi := ({ dst := some 30, op := Op.fieldAddr 130 (Operand.tmp 5) 0, type := 0, pos := "msg.go:112", after := #[{ on := 4, ground := Ground.guard }], guard := some (4, true) })) (v := (.pointer (some ⟨X, 0, none⟩))) rfl (by kernel_rfl) (by kernel_rfl) (by kernel_rfl) (fun _ _ _ h => h) (Or.inl ⟨by rfl, ?_⟩) (by assumption) ?_
          · (intro w hSw; (try dsimp only at hSw); go_simp)
          try simp only [Act.put, List.setIfInBounds_toArray, List.set_cons_zero, List.set_cons_succ]
          refine wpAnyH_take (i := 6) (oi := ({ dst := some 31, op := Op.load 61 (Operand.tmp 30), type := 61, pos := "msg.go:112", after := #[{ on := 5, ground := Ground.data }, { on := 4, ground := Ground.guard }], guard := some (4, true) })) (v := (.pointer (some ⟨g, o, none⟩))) rfl (by kernel_rfl) (by kernel_rfl) (by kernel_rfl) (fun _ _ _ h => h) (Or.inl ⟨by rfl, ?_⟩) (by assumption) ?_
          · (intro w hSw; (try dsimp only at hSw); go_simp)
          try simp only [Act.put, List.setIfInBounds_toArray, List.set_cons_zero, List.set_cons_succ]
          refine wpAnyH_take (i := 7) (oi := ({ dst := some 32, op := Op.nilCheck (Operand.tmp 31), type := 0, pos := "msg.go:112", after := #[{ on := 6, ground := Ground.data }, { on := 4, ground := Ground.guard }], guard := some (4, true) })) (v := (.pointer (some ⟨g, o, none⟩))) rfl (by kernel_rfl) (by kernel_rfl) (by kernel_rfl) (fun _ _ _ h => h) (Or.inl ⟨by rfl, ?_⟩) (by assumption) ?_
          · (intro w hSw; (try dsimp only at hSw); go_simp)
          try simp only [Act.put, List.setIfInBounds_toArray, List.set_cons_zero, List.set_cons_succ]
          refine wpAnyH_take (i := 8) (oi := ({ dst := some 33, op := Op.load 3 (Operand.tmp 32), type := 3, pos := "msg.go:112", after := #[{ on := 7, ground := Ground.data }, { on := 4, ground := Ground.guard }], guard := some (4, true) })) (v := (.int .i64 nv)) rfl (by kernel_rfl) (by kernel_rfl) (by kernel_rfl) (fun _ _ _ h => h) (Or.inl ⟨by rfl, ?_⟩) (by assumption) ?_
          · (intro w hSw; (try dsimp only at hSw); go_simp)
          try simp only [Act.put, List.setIfInBounds_toArray, List.set_cons_zero, List.set_cons_succ]
          refine wpAnyH_take (i := 9) (oi := ({ dst := some 34, op := Op.fieldAddr 130 (Operand.tmp 5) 1, type := 0, pos := "msg.go:112", after := #[{ on := 4, ground := Ground.guard }], guard := some (4, true) })) (v := (.pointer (some ⟨X, 1, none⟩))) rfl (by kernel_rfl) (by kernel_rfl) (by kernel_rfl) (fun _ _ _ h => h) (Or.inl ⟨by rfl, ?_⟩) (by assumption) ?_
          · (intro w hSw; (try dsimp only at hSw); go_simp)
          try simp only [Act.put, List.setIfInBounds_toArray, List.set_cons_zero, List.set_cons_succ]
          refine wpAnyH_take (i := 10) (oi := ({ dst := some 35, op := Op.load 3 (Operand.tmp 34), type := 3, pos := "msg.go:112", after := #[{ on := 9, ground := Ground.data }, { on := 4, ground := Ground.guard }], guard := some (4, true) })) (v := (.int .i64 lo)) rfl (by kernel_rfl) (by kernel_rfl) (by kernel_rfl) (fun _ _ _ h => h) (Or.inl ⟨by rfl, ?_⟩) (by assumption) ?_
          · (intro w hSw; (try dsimp only at hSw); go_simp)
          try simp only [Act.put, List.setIfInBounds_toArray, List.set_cons_zero, List.set_cons_succ]
          refine wpAnyH_take (i := 11) (oi := ({ dst := some 36, op := Op.fieldAddr 130 (Operand.tmp 5) 2, type := 0, pos := "msg.go:112", after := #[{ on := 4, ground := Ground.guard }], guard := some (4, true) })) (v := (.pointer (some ⟨X, 2, none⟩))) rfl (by kernel_rfl) (by kernel_rfl) (by kernel_rfl) (fun _ _ _ h => h) (Or.inl ⟨by rfl, ?_⟩) (by assumption) ?_
          · (intro w hSw; (try dsimp only at hSw); go_simp)
          try simp only [Act.put, List.setIfInBounds_toArray, List.set_cons_zero, List.set_cons_succ]
          refine wpAnyH_take (i := 12) (oi := ({ dst := some 37, op := Op.load 3 (Operand.tmp 36), type := 3, pos := "msg.go:112", after := #[{ on := 11, ground := Ground.data }, { on := 4, ground := Ground.guard }], guard := some (4, true) })) (v := (.int .i64 hi)) rfl (by kernel_rfl) (by kernel_rfl) (by kernel_rfl) (fun _ _ _ h => h) (Or.inl ⟨by rfl, ?_⟩) (by assumption) ?_
          · (intro w hSw; (try dsimp only at hSw); go_simp)
          try simp only [Act.put, List.setIfInBounds_toArray, List.set_cons_zero, List.set_cons_succ]
          refine wpAnyH_ready (rs := [13]) (by kernel_rfl) (by simp) (AllReadyH.cons (o := ({ dst := some 38, op := Op.call { callee := Callee.value (Operand.func 97), args := #[Operand.tmp 33, Operand.tmp 35, Operand.tmp 37], argTypes := #[3, 3, 3] }, type := 4, pos := "msg.go:112", after := #[{ on := 8, ground := Ground.data }, { on := 10, ground := Ground.data }, { on := 12, ground := Ground.data }, { on := 4, ground := Ground.chain }, { on := 4, ground := Ground.guard }], guard := some (4, true) })) rfl (fun K hK => ?_) AllReadyH.nil)
          go_simp
          refine (NR.out _).mono ?_
          rintro e w' ⟨rfl, rfl⟩
          go_wp2_with fail
          clear hHeld
          refine hK.out _ _ ⟨x0, x1, x2, xm⟩ (fun hHeld => ?_)
          clear hK K
          try simp only [Act.put, List.setIfInBounds_toArray, List.set_cons_zero, List.set_cons_succ]
          refine wpAnyH_take (i := 14) (oi := ({ dst := some 39, op := Op.unOp UnOp.not 4 (Operand.tmp 38), type := 4, pos := "msg.go:112", after := #[{ on := 13, ground := Ground.data }, { on := 4, ground := Ground.guard }], guard := some (4, true) })) (v := (.bool false)) rfl (by kernel_rfl) (by kernel_rfl) (by kernel_rfl) (fun _ _ _ h => h) (Or.inl ⟨by rfl, ?_⟩) (by assumption) ?_
          · (intro w hSw; (try dsimp only at hSw); go_simp)
          try simp only [Act.put, List.setIfInBounds_toArray, List.set_cons_zero, List.set_cons_succ]
          refine wpAnyH_take (i := 15) (oi := ({ dst := some 40, op := Op.pick (Operand.tmp 29) (Operand.tmp 39) (Operand.const (Value.bool false)), type := 4, pos := "msg.go:112", after := #[{ on := 4, ground := Ground.data }, { on := 14, ground := Ground.data }], guard := none })) (v := (.bool false)) rfl (by kernel_rfl) (by kernel_rfl) (by kernel_rfl) (fun _ _ _ h => h) (Or.inl ⟨by rfl, ?_⟩) (by assumption) ?_
          · (intro w hSw; (try dsimp only at hSw); go_simp)
          try simp only [Act.put, List.setIfInBounds_toArray, List.set_cons_zero, List.set_cons_succ]
          refine wpAnyH_done (by kernel_rfl) ?_ _
          clear hHeld
          have HST2 := HST.out (fun _ => by first | rfl | trivial)
          clear HST HNO2 x0 x1 x2 xm XN CON NR
          go_wp2_with fail
          go_roundg (6 - (i + 1))
          case measure => omega
          case rel => exact ⟨i + 1, by omega, rfl, by go_num, Lib.hid HX2.out.drew, Lib.hid HB2.out.drew, Lib.hid RV.out.drewV, Lib.hid HBL2.out.drew, HST2⟩
        | false =>
          refine wp_region_held_drew (S := (fun w' => w'.cell? ⟨X, 0, none⟩ = some (.pointer (some ⟨g, o, none⟩)) ∧ w'.cell? ⟨X, 1, none⟩ = some (.int .i64 lo) ∧ w'.cell? ⟨X, 2, none⟩ = some (.int .i64 hi) ∧ w'.cell? ⟨g, o, none⟩ = some (.int .i64 nv))) (by kernel_rfl) ⟨x0, x1, x2, xm⟩ (fun hHeld => ?_)
          refine wpAnyH_take (i := 0) (oi := ({ dst := some 25, op := Op.move (Operand.tmp 3), type := 94, pos := "msg.go:112", after := #[], guard := none })) (v := v) rfl (by kernel_rfl) (by kernel_rfl) (by kernel_rfl) (fun _ _ _ h => h) (Or.inl ⟨by rfl, ?_⟩) (by assumption) ?_
          · (intro w hSw; (try dsimp only at hSw); go_simp)
          try simp only [Act.put, List.setIfInBounds_toArray, List.set_cons_zero, List.set_cons_succ]
          refine wpAnyH_take (i := 1) (oi := ({ dst := some 26, op := Op.fieldAddr 130 (Operand.tmp 5) 0, type := 0, pos := "msg.go:112", after := #[], guard := none })) (v := (.pointer (some ⟨X, 0, none⟩))) rfl (by kernel_rfl) (by kernel_rfl) (by kernel_rfl) (fun _ _ _ h => h) (Or.inl ⟨by rfl, ?_⟩) (by assumption) ?_
          · (intro w hSw; (try dsimp only at hSw); go_simp)
          try simp only [Act.put, List.setIfInBounds_toArray, List.set_cons_zero, List.set_cons_succ]
          refine wpAnyH_take (i := 2) (oi := ({ dst := some 27, op := Op.load 61 (Operand.tmp 26), type := 61, pos := "msg.go:112", after := #[{ on := 1, ground := Ground.data }], guard := none })) (v := (.pointer (some ⟨g, o, none⟩))) rfl (by kernel_rfl) (by kernel_rfl) (by kernel_rfl) (fun _ _ _ h => h) (Or.inl ⟨by rfl, ?_⟩) (by assumption) ?_
          · (intro w hSw; (try dsimp only at hSw); go_simp)
          try simp only [Act.put, List.setIfInBounds_toArray, List.set_cons_zero, List.set_cons_succ]
          refine wpAnyH_ready (rs := [3]) (by kernel_rfl) (by simp) (AllReadyH.cons (o := ({ dst := some 28, op := Op.call { callee := Callee.value (Operand.func 98), args := #[Operand.tmp 25, Operand.tmp 27], argTypes := #[94, 61] }, type := 4, pos := "msg.go:112", after := #[{ on := 0, ground := Ground.data }, { on := 2, ground := Ground.data }], guard := none })) rfl (fun K hK => ?_) AllReadyH.nil)
          go_simp
          refine (CON.out _ ?R1).mono ?_
          case R1 => exact RV.out.drewV
          rintro e w' ⟨rfl, rfl⟩
          go_wp2_with fail
          clear hHeld
          refine hK.out _ _ ⟨x0, x1, x2, xm⟩ (fun hHeld => ?_)
          clear hK K
          try simp only [Act.put, List.setIfInBounds_toArray, List.set_cons_zero, List.set_cons_succ]
          refine wpAnyH_take (i := 4) (oi := ({ dst := some 29, op := Op.move (Operand.tmp 28), type := 4, pos := "msg.go:112", after := #[{ on := 3, ground := Ground.data }, { on := 3, ground := Ground.chain }], guard := none })) (v := (.bool true)) rfl (by kernel_rfl) (by kernel_rfl) (by kernel_rfl) (fun _ _ _ h => h) (Or.inl ⟨by rfl, ?_⟩) (by assumption) ?_
          · (intro w hSw; (try dsimp only at hSw); go_simp)
          try simp only [Act.put, List.setIfInBounds_toArray, List.set_cons_zero, List.set_cons_succ]
          refine wpAnyH_take (i := 5) (oi := ({ dst := some 30, op := Op.fieldAddr 130 (Operand.tmp 5) 0, type := 0, pos := "msg.go:112", after := #[{ on := 4, ground := Ground.guard }], guard := some (4, true) })) (v := (.pointer (some ⟨X, 0, none⟩))) rfl (by kernel_rfl) (by kernel_rfl) (by kernel_rfl) (fun _ _ _ h => h) (Or.inl ⟨by rfl, ?_⟩) (by assumption) ?_
          · (intro w hSw; (try dsimp only at hSw); go_simp)
          try simp only [Act.put, List.setIfInBounds_toArray, List.set_cons_zero, List.set_cons_succ]
          refine wpAnyH_take (i := 6) (oi := ({ dst := some 31, op := Op.load 61 (Operand.tmp 30), type := 61, pos := "msg.go:112", after := #[{ on := 5, ground := Ground.data }, { on := 4, ground := Ground.guard }], guard := some (4, true) })) (v := (.pointer (some ⟨g, o, none⟩))) rfl (by kernel_rfl) (by kernel_rfl) (by kernel_rfl) (fun _ _ _ h => h) (Or.inl ⟨by rfl, ?_⟩) (by assumption) ?_
          · (intro w hSw; (try dsimp only at hSw); go_simp)
          try simp only [Act.put, List.setIfInBounds_toArray, List.set_cons_zero, List.set_cons_succ]
          refine wpAnyH_take (i := 7) (oi := ({ dst := some 32, op := Op.nilCheck (Operand.tmp 31), type := 0, pos := "msg.go:112", after := #[{ on := 6, ground := Ground.data }, { on := 4, ground := Ground.guard }], guard := some (4, true) })) (v := (.pointer (some ⟨g, o, none⟩))) rfl (by kernel_rfl) (by kernel_rfl) (by kernel_rfl) (fun _ _ _ h => h) (Or.inl ⟨by rfl, ?_⟩) (by assumption) ?_
          · (intro w hSw; (try dsimp only at hSw); go_simp)
          try simp only [Act.put, List.setIfInBounds_toArray, List.set_cons_zero, List.set_cons_succ]
          refine wpAnyH_take (i := 8) (oi := ({ dst := some 33, op := Op.load 3 (Operand.tmp 32), type := 3, pos := "msg.go:112", after := #[{ on := 7, ground := Ground.data }, { on := 4, ground := Ground.guard }], guard := some (4, true) })) (v := (.int .i64 nv)) rfl (by kernel_rfl) (by kernel_rfl) (by kernel_rfl) (fun _ _ _ h => h) (Or.inl ⟨by rfl, ?_⟩) (by assumption) ?_
          · (intro w hSw; (try dsimp only at hSw); go_simp)
          try simp only [Act.put, List.setIfInBounds_toArray, List.set_cons_zero, List.set_cons_succ]
          refine wpAnyH_take (i := 9) (oi := ({ dst := some 34, op := Op.fieldAddr 130 (Operand.tmp 5) 1, type := 0, pos := "msg.go:112", after := #[{ on := 4, ground := Ground.guard }], guard := some (4, true) })) (v := (.pointer (some ⟨X, 1, none⟩))) rfl (by kernel_rfl) (by kernel_rfl) (by kernel_rfl) (fun _ _ _ h => h) (Or.inl ⟨by rfl, ?_⟩) (by assumption) ?_
          · (intro w hSw; (try dsimp only at hSw); go_simp)
          try simp only [Act.put, List.setIfInBounds_toArray, List.set_cons_zero, List.set_cons_succ]
          refine wpAnyH_take (i := 10) (oi := ({ dst := some 35, op := Op.load 3 (Operand.tmp 34), type := 3, pos := "msg.go:112", after := #[{ on := 9, ground := Ground.data }, { on := 4, ground := Ground.guard }], guard := some (4, true) })) (v := (.int .i64 lo)) rfl (by kernel_rfl) (by kernel_rfl) (by kernel_rfl) (fun _ _ _ h => h) (Or.inl ⟨by rfl, ?_⟩) (by assumption) ?_
          · (intro w hSw; (try dsimp only at hSw); go_simp)
          try simp only [Act.put, List.setIfInBounds_toArray, List.set_cons_zero, List.set_cons_succ]
          refine wpAnyH_take (i := 11) (oi := ({ dst := some 36, op := Op.fieldAddr 130 (Operand.tmp 5) 2, type := 0, pos := "msg.go:112", after := #[{ on := 4, ground := Ground.guard }], guard := some (4, true) })) (v := (.pointer (some ⟨X, 2, none⟩))) rfl (by kernel_rfl) (by kernel_rfl) (by kernel_rfl) (fun _ _ _ h => h) (Or.inl ⟨by rfl, ?_⟩) (by assumption) ?_
          · (intro w hSw; (try dsimp only at hSw); go_simp)
          try simp only [Act.put, List.setIfInBounds_toArray, List.set_cons_zero, List.set_cons_succ]
          refine wpAnyH_take (i := 12) (oi := ({ dst := some 37, op := Op.load 3 (Operand.tmp 36), type := 3, pos := "msg.go:112", after := #[{ on := 11, ground := Ground.data }, { on := 4, ground := Ground.guard }], guard := some (4, true) })) (v := (.int .i64 hi)) rfl (by kernel_rfl) (by kernel_rfl) (by kernel_rfl) (fun _ _ _ h => h) (Or.inl ⟨by rfl, ?_⟩) (by assumption) ?_
          · (intro w hSw; (try dsimp only at hSw); go_simp)
          try simp only [Act.put, List.setIfInBounds_toArray, List.set_cons_zero, List.set_cons_succ]
          refine wpAnyH_ready (rs := [13]) (by kernel_rfl) (by simp) (AllReadyH.cons (o := ({ dst := some 38, op := Op.call { callee := Callee.value (Operand.func 97), args := #[Operand.tmp 33, Operand.tmp 35, Operand.tmp 37], argTypes := #[3, 3, 3] }, type := 4, pos := "msg.go:112", after := #[{ on := 8, ground := Ground.data }, { on := 10, ground := Ground.data }, { on := 12, ground := Ground.data }, { on := 4, ground := Ground.chain }, { on := 4, ground := Ground.guard }], guard := some (4, true) })) rfl (fun K hK => ?_) AllReadyH.nil)
          go_simp
          refine (NR.out _).mono ?_
          rintro e w' ⟨rfl, rfl⟩
          go_wp2_with fail
          clear hHeld
          refine hK.out _ _ ⟨x0, x1, x2, xm⟩ (fun hHeld => ?_)
          clear hK K
          try simp only [Act.put, List.setIfInBounds_toArray, List.set_cons_zero, List.set_cons_succ]
          refine wpAnyH_take (i := 14) (oi := ({ dst := some 39, op := Op.unOp UnOp.not 4 (Operand.tmp 38), type := 4, pos := "msg.go:112", after := #[{ on := 13, ground := Ground.data }, { on := 4, ground := Ground.guard }], guard := some (4, true) })) (v := (.bool true)) rfl (by kernel_rfl) (by kernel_rfl) (by kernel_rfl) (fun _ _ _ h => h) (Or.inl ⟨by rfl, ?_⟩) (by assumption) ?_
          · (intro w hSw; (try dsimp only at hSw); go_simp)
          try simp only [Act.put, List.setIfInBounds_toArray, List.set_cons_zero, List.set_cons_succ]
          refine wpAnyH_take (i := 15) (oi := ({ dst := some 40, op := Op.pick (Operand.tmp 29) (Operand.tmp 39) (Operand.const (Value.bool false)), type := 4, pos := "msg.go:112", after := #[{ on := 4, ground := Ground.data }, { on := 14, ground := Ground.data }], guard := none })) (v := (.bool true)) rfl (by kernel_rfl) (by kernel_rfl) (by kernel_rfl) (fun _ _ _ h => h) (Or.inl ⟨by rfl, ?_⟩) (by assumption) ?_
          · (intro w hSw; (try dsimp only at hSw); go_simp)
          try simp only [Act.put, List.setIfInBounds_toArray, List.set_cons_zero, List.set_cons_succ]
          refine wpAnyH_done (by kernel_rfl) ?_ _
          clear hHeld
          have HF := Lib.hid (HNO2.out (by first | rfl | trivial) (by first | rfl | trivial))
          clear HST HNO2 x0 x1 x2 xm XN CON NR
          go_wp2_with fail
          go_ret
          exact ⟨by rw [HF.out]; rfl, HBL2.out.drew⟩
    · obtain rfl : i = 6 := by omega
      have HF := Lib.hid (HYES.out (fun j hj => HOK.out j hj))
      have r9 := HB.out.cell (HC.out 9 (by decide))
      have r10 := HB.out.cell (HC.out 10 (by decide))
      have r11 := HB.out.cell (HC.out 11 (by decide))
      clear HX HR HOK
      go_wp2_with fail
      refine (HRR.out _).mono ?_
      rintro e w5 ⟨rfl, hb5⟩
      have HB5 := Lib.hid (HBL.out.trans (hb5.mono (by rw [← HG.out]; exact HBL.out.size)))
      clear hb5
      go_wp2_with fail
      go_ret
      exact ⟨by rw [HF.out]; rfl, HB5.out⟩
end Go.Proofs.YtanihdpgblkeaaaGreatDoor
