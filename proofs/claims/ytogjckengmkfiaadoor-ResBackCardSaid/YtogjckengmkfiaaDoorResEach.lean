/-
  Two vectors, number by number (reeve's layer 8): what the program's each computes with each of its functions.
-/
import Derived.Test.YtogjckengmkfiaaDoorResRight
import Derived.Test.YtogjckengmkfiaaDoorDecMath
namespace Go.Proofs.YtogjckengmkfiaaDoor
open Go.RowKit
set_option linter.unusedVariables false
set_option linter.unusedSimpArgs false

def addW (a b : Int) : Int := wrap64 (a + b)
def subW (a b : Int) : Int := wrap64 (a - b)
theorem res_add1 (n m : Int) (w : World) : Calls Tryd.prog 87 #[.int .i64 n, .int .i64 m] w fun e w' => e = .returned (.int .i64 (addW n m)) ∧ w = w' := by
  go_enter Tryd.func87, Tryd.ntmps87
  go_wp2_with fail
  go_ret
  exact ⟨rfl, rfl⟩
theorem res_sub1 (n m : Int) (w : World) : Calls Tryd.prog 88 #[.int .i64 n, .int .i64 m] w fun e w' => e = .returned (.int .i64 (subW n m)) ∧ w = w' := by
  go_enter Tryd.func88, Tryd.ntmps88
  go_wp2_with fail
  go_ret
  exact ⟨rfl, rfl⟩
theorem res_most1 (n m : Int) (w : World) : Calls Tryd.prog 92 #[.int .i64 n, .int .i64 m] w fun e w' => e = .returned (.int .i64 (max n m)) ∧ w = w' := by
  by_cases h : n < m
  · have e : max n m = m := by omega
    rw [e]
    go_enter Tryd.func92, Tryd.ntmps92
    go_wp2_with fail
    go_ret
    exact ⟨rfl, rfl⟩
  · have h' : m ≤ n := by omega
    have e : max n m = n := by omega
    rw [e]
    go_enter Tryd.func92, Tryd.ntmps92
    go_wp2_with fail
    go_ret
    exact ⟨rfl, rfl⟩
set_option maxRecDepth 100000 in
set_option maxHeartbeats 1600000 in
theorem res_each_add (a b : List Int) (ha : a.length = 3) (hb : b.length = 3) (w : World) :
    Calls Tryd.prog 89 #[.agg (cellsI a), .agg (cellsI b), .func (Fn.func 87) #[] #[]] w fun e w' => e = .returned (.agg (cellsI (List.zipWith addW a b))) ∧ Below w.heap.size w w' := by
  have hu := Tryd.underlying53
  rw [← fillC_whole _ a b ha hb]
  obtain ⟨f, hf⟩ : ∃ f : Int → Int → Int, addW = f := ⟨_, rfl⟩
  have HF := Lib.hid (fun (n m : Int) (w : World) => (by rw [← hf]; exact res_add1 n m w : Calls Tryd.prog 87 #[.int .i64 n, .int .i64 m] w fun e w' => e = .returned (.int .i64 (f n m)) ∧ w = w'))
  rw [hf]
  clear hf
  have HA := Lib.hid ha
  have HB := Lib.hid hb
  clear ha hb
  obtain ⟨CA, hCA⟩ : ∃ C, cellsI a = C := ⟨_, rfl⟩
  obtain ⟨CB, hCB⟩ : ∃ C, cellsI b = C := ⟨_, rfl⟩
  have HCA := Lib.hid (fun i (hi : i < 3) => show CA[i]? = some (.int .i64 (fld a i)) by rw [← hCA]; exact cellsI_at (by rw [HA.out]; exact hi))
  have HCB := Lib.hid (fun i (hi : i < 3) => show CB[i]? = some (.int .i64 (fld b i)) by rw [← hCB]; exact cellsI_at (by rw [HB.out]; exact hi))
  rw [hCA, hCB]
  clear hCA hCB
  go_enter Tryd.func89, Tryd.ntmps89
  go_wp2_with fail
  go_loopg [9] 3 (fun gg s9 wr => ∃ k : Nat, k ≤ 3 ∧ gg = 3 - k ∧ (k = 0 ∧ s9 = .int .i64 0 ∨ k = 1 ∧ s9 = .int .i64 1 ∨ k = 2 ∧ s9 = .int .i64 2 ∨ k = 3 ∧ s9 = .int .i64 3) ∧ Hid (Blk wr w.heap.size CA 53) ∧ Hid (Blk wr (w.heap.size + 1) CB 53) ∧ Hid (Blk wr (w.heap.size + 2) (cellsI [0, 0, 0]) 53) ∧ Hid (Blk wr (w.heap.size + 3) (cellsI (fillC f a b k)) 53) ∧ Hid (Below w.heap.size w wr))
  case atStart =>
    refine ⟨0, by omega, rfl, .inl ⟨rfl, rfl⟩, Lib.hid ?_, Lib.hid ?_, Lib.hid ?_, Lib.hid ?_, Lib.hid ?_⟩
    · exact (((Blk.new w _ _).alloc _).alloc _).alloc _
    · exact ((blk_at (w.alloc _) _ _ _ (by simp)).alloc _).alloc _
    · exact (blk_at ((w.alloc _).alloc _) _ _ _ (by simp)).alloc _
    · exact blk_at (((w.alloc _).alloc _).alloc _) _ _ _ (by simp)
    · exact ((((Below.refl w.heap.size w).alloc (Nat.le_refl _) _).alloc (by simp) _).alloc (by simp; omega) _).alloc (by simp; omega) _
  case round =>
    obtain ⟨k, hk, hg, hs9, X0, X1, X2, X3, HBL⟩ := hrel
    have hg := hg.symm
    subst hg
    by_cases hlt : k < 3
    · have c0 := X0.out.cell (HCA.out k hlt)
      have c1 := X1.out.cell (HCB.out k hlt)
      have c3 := X3.out.cell (cellsI_at (l := fillC f a b k) (i := k) hlt)
      have f3 := X3.out.free k
      have HS := Lib.hid (fillC_set f a b k hlt)
      obtain ⟨x, hx⟩ : ∃ x, fld a k = x := ⟨_, rfl⟩
      obtain ⟨y, hy⟩ : ∃ y, fld b k = y := ⟨_, rfl⟩
      rw [hx, hy] at HS
      rw [hx] at c0
      rw [hy] at c1
      clear hx hy
      rcases hs9 with ⟨rfl, rfl⟩ | ⟨rfl, rfl⟩ | ⟨rfl, rfl⟩ | ⟨rfl, _⟩
      case inr.inr.inr => omega
      · go_upto_region 5 with fail
        go_region_held3 (fun w' => w'.cell? ⟨w.heap.size, 0, none⟩ = some (.int .i64 x) ∧ w'.cell? ⟨w.heap.size + 1, 0, none⟩ = some (.int .i64 y)) (first | (go_keep; done) | exact ⟨cell_far c0 (by show ¬ w.heap.size + 1 + 1 + 1 = w.heap.size; omega), cell_far c1 (by show ¬ w.heap.size + 1 + 1 + 1 = w.heap.size + 1; omega)⟩)
          ((go_at_call 87; refine (HF.out _ _ _).mono ?_; rintro e w4 ⟨rfl, rfl⟩))
        go_wp2_with fail
        go_roundg (3 - (0 + 1))
        case measure => omega
        case rel =>
          refine ⟨1, by omega, rfl, .inr (.inl ⟨rfl, rfl⟩), Lib.hid (X0.out.far (a := ⟨w.heap.size + 3, 0, none⟩) (by simp) _), Lib.hid (X1.out.far (a := ⟨w.heap.size + 3, 0, none⟩) (by simp) _), Lib.hid (X2.out.far (a := ⟨w.heap.size + 3, 0, none⟩) (by simp) _), Lib.hid ?_, Lib.hid ?_⟩
          · rw [← HS.out, ← cellsI_set]
            exact X3.out.set 0 _
          · exact (HBL.out.setCell (p := ⟨w.heap.size + 3, 0, none⟩) (by simp) _).drew
      · go_upto_region 5 with fail
        go_region_held3 (fun w' => w'.cell? ⟨w.heap.size, 1, none⟩ = some (.int .i64 x) ∧ w'.cell? ⟨w.heap.size + 1, 1, none⟩ = some (.int .i64 y)) (first | (go_keep; done) | exact ⟨cell_far c0 (by show ¬ w.heap.size + 1 + 1 + 1 = w.heap.size; omega), cell_far c1 (by show ¬ w.heap.size + 1 + 1 + 1 = w.heap.size + 1; omega)⟩)
          ((go_at_call 87; refine (HF.out _ _ _).mono ?_; rintro e w4 ⟨rfl, rfl⟩))
        go_wp2_with fail
        go_roundg (3 - (1 + 1))
        case measure => omega
        case rel =>
          refine ⟨2, by omega, rfl, .inr (.inr (.inl ⟨rfl, rfl⟩)), Lib.hid (X0.out.far (a := ⟨w.heap.size + 3, 1, none⟩) (by simp) _), Lib.hid (X1.out.far (a := ⟨w.heap.size + 3, 1, none⟩) (by simp) _), Lib.hid (X2.out.far (a := ⟨w.heap.size + 3, 1, none⟩) (by simp) _), Lib.hid ?_, Lib.hid ?_⟩
          · rw [← HS.out, ← cellsI_set]
            exact X3.out.set 1 _
          · exact (HBL.out.setCell (p := ⟨w.heap.size + 3, 1, none⟩) (by simp) _).drew
      · go_upto_region 5 with fail
        go_region_held3 (fun w' => w'.cell? ⟨w.heap.size, 2, none⟩ = some (.int .i64 x) ∧ w'.cell? ⟨w.heap.size + 1, 2, none⟩ = some (.int .i64 y)) (first | (go_keep; done) | exact ⟨cell_far c0 (by show ¬ w.heap.size + 1 + 1 + 1 = w.heap.size; omega), cell_far c1 (by show ¬ w.heap.size + 1 + 1 + 1 = w.heap.size + 1; omega)⟩)
          ((go_at_call 87; refine (HF.out _ _ _).mono ?_; rintro e w4 ⟨rfl, rfl⟩))
        go_wp2_with fail
        go_roundg (3 - (2 + 1))
        case measure => omega
        case rel =>
          refine ⟨3, by omega, rfl, .inr (.inr (.inr ⟨rfl, rfl⟩)), Lib.hid (X0.out.far (a := ⟨w.heap.size + 3, 2, none⟩) (by simp) _), Lib.hid (X1.out.far (a := ⟨w.heap.size + 3, 2, none⟩) (by simp) _), Lib.hid (X2.out.far (a := ⟨w.heap.size + 3, 2, none⟩) (by simp) _), Lib.hid ?_, Lib.hid ?_⟩
          · rw [← HS.out, ← cellsI_set]
            exact X3.out.set 2 _
          · exact (HBL.out.setCell (p := ⟨w.heap.size + 3, 2, none⟩) (by simp) _).drew
    · obtain rfl : k = 3 := by omega
      rcases hs9 with ⟨h, _⟩ | ⟨h, _⟩ | ⟨h, _⟩ | ⟨_, rfl⟩
      · omega
      · omega
      · omega
      go_wp2_with (first
        | (with_reducible refine ev_load rfl 53 (.tmp 7) rfl (w.heap.size + 3) rfl 53 (cellsI (fillC f a b 3)) _ X3.out hu rfl (info_res _ rfl) ?_)
        | (with_reducible refine ev_store rfl 53 (.tmp 6) (.tmp 23) rfl (w.heap.size + 2) (cellsI (fillC f a b 3)) rfl rfl 53 _ X2.out (info_res _ rfl) (by simp [cellsI_size, fillC_length]) (cellsI_one _) ?_; intro w5 hb5 hc5 hz5))
      refine bodyPost_ret (res_c rfl _ (w.heap.size + 2) 53 (cellsI (fillC f a b 3)) _ rfl hb5 hu rfl (info_res _ rfl)) rfl ⟨rfl, ?_⟩
      exact Chg.belowOf HBL.out hc5 (fun k hk => by omega) HBL.out.size
set_option maxRecDepth 100000 in
set_option maxHeartbeats 1600000 in
theorem res_each_sub (a b : List Int) (ha : a.length = 3) (hb : b.length = 3) (w : World) :
    Calls Tryd.prog 89 #[.agg (cellsI a), .agg (cellsI b), .func (Fn.func 88) #[] #[]] w fun e w' => e = .returned (.agg (cellsI (List.zipWith subW a b))) ∧ Below w.heap.size w w' := by
  have hu := Tryd.underlying53
  rw [← fillC_whole _ a b ha hb]
  obtain ⟨f, hf⟩ : ∃ f : Int → Int → Int, subW = f := ⟨_, rfl⟩
  have HF := Lib.hid (fun (n m : Int) (w : World) => (by rw [← hf]; exact res_sub1 n m w : Calls Tryd.prog 88 #[.int .i64 n, .int .i64 m] w fun e w' => e = .returned (.int .i64 (f n m)) ∧ w = w'))
  rw [hf]
  clear hf
  have HA := Lib.hid ha
  have HB := Lib.hid hb
  clear ha hb
  obtain ⟨CA, hCA⟩ : ∃ C, cellsI a = C := ⟨_, rfl⟩
  obtain ⟨CB, hCB⟩ : ∃ C, cellsI b = C := ⟨_, rfl⟩
  have HCA := Lib.hid (fun i (hi : i < 3) => show CA[i]? = some (.int .i64 (fld a i)) by rw [← hCA]; exact cellsI_at (by rw [HA.out]; exact hi))
  have HCB := Lib.hid (fun i (hi : i < 3) => show CB[i]? = some (.int .i64 (fld b i)) by rw [← hCB]; exact cellsI_at (by rw [HB.out]; exact hi))
  rw [hCA, hCB]
  clear hCA hCB
  go_enter Tryd.func89, Tryd.ntmps89
  go_wp2_with fail
  go_loopg [9] 3 (fun gg s9 wr => ∃ k : Nat, k ≤ 3 ∧ gg = 3 - k ∧ (k = 0 ∧ s9 = .int .i64 0 ∨ k = 1 ∧ s9 = .int .i64 1 ∨ k = 2 ∧ s9 = .int .i64 2 ∨ k = 3 ∧ s9 = .int .i64 3) ∧ Hid (Blk wr w.heap.size CA 53) ∧ Hid (Blk wr (w.heap.size + 1) CB 53) ∧ Hid (Blk wr (w.heap.size + 2) (cellsI [0, 0, 0]) 53) ∧ Hid (Blk wr (w.heap.size + 3) (cellsI (fillC f a b k)) 53) ∧ Hid (Below w.heap.size w wr))
  case atStart =>
    refine ⟨0, by omega, rfl, .inl ⟨rfl, rfl⟩, Lib.hid ?_, Lib.hid ?_, Lib.hid ?_, Lib.hid ?_, Lib.hid ?_⟩
    · exact (((Blk.new w _ _).alloc _).alloc _).alloc _
    · exact ((blk_at (w.alloc _) _ _ _ (by simp)).alloc _).alloc _
    · exact (blk_at ((w.alloc _).alloc _) _ _ _ (by simp)).alloc _
    · exact blk_at (((w.alloc _).alloc _).alloc _) _ _ _ (by simp)
    · exact ((((Below.refl w.heap.size w).alloc (Nat.le_refl _) _).alloc (by simp) _).alloc (by simp; omega) _).alloc (by simp; omega) _
  case round =>
    obtain ⟨k, hk, hg, hs9, X0, X1, X2, X3, HBL⟩ := hrel
    have hg := hg.symm
    subst hg
    by_cases hlt : k < 3
    · have c0 := X0.out.cell (HCA.out k hlt)
      have c1 := X1.out.cell (HCB.out k hlt)
      have c3 := X3.out.cell (cellsI_at (l := fillC f a b k) (i := k) hlt)
      have f3 := X3.out.free k
      have HS := Lib.hid (fillC_set f a b k hlt)
      obtain ⟨x, hx⟩ : ∃ x, fld a k = x := ⟨_, rfl⟩
      obtain ⟨y, hy⟩ : ∃ y, fld b k = y := ⟨_, rfl⟩
      rw [hx, hy] at HS
      rw [hx] at c0
      rw [hy] at c1
      clear hx hy
      rcases hs9 with ⟨rfl, rfl⟩ | ⟨rfl, rfl⟩ | ⟨rfl, rfl⟩ | ⟨rfl, _⟩
      case inr.inr.inr => omega
      · go_upto_region 5 with fail
        go_region_held3 (fun w' => w'.cell? ⟨w.heap.size, 0, none⟩ = some (.int .i64 x) ∧ w'.cell? ⟨w.heap.size + 1, 0, none⟩ = some (.int .i64 y)) (first | (go_keep; done) | exact ⟨cell_far c0 (by show ¬ w.heap.size + 1 + 1 + 1 = w.heap.size; omega), cell_far c1 (by show ¬ w.heap.size + 1 + 1 + 1 = w.heap.size + 1; omega)⟩)
          ((go_at_call 88; refine (HF.out _ _ _).mono ?_; rintro e w4 ⟨rfl, rfl⟩))
        go_wp2_with fail
        go_roundg (3 - (0 + 1))
        case measure => omega
        case rel =>
          refine ⟨1, by omega, rfl, .inr (.inl ⟨rfl, rfl⟩), Lib.hid (X0.out.far (a := ⟨w.heap.size + 3, 0, none⟩) (by simp) _), Lib.hid (X1.out.far (a := ⟨w.heap.size + 3, 0, none⟩) (by simp) _), Lib.hid (X2.out.far (a := ⟨w.heap.size + 3, 0, none⟩) (by simp) _), Lib.hid ?_, Lib.hid ?_⟩
          · rw [← HS.out, ← cellsI_set]
            exact X3.out.set 0 _
          · exact (HBL.out.setCell (p := ⟨w.heap.size + 3, 0, none⟩) (by simp) _).drew
      · go_upto_region 5 with fail
        go_region_held3 (fun w' => w'.cell? ⟨w.heap.size, 1, none⟩ = some (.int .i64 x) ∧ w'.cell? ⟨w.heap.size + 1, 1, none⟩ = some (.int .i64 y)) (first | (go_keep; done) | exact ⟨cell_far c0 (by show ¬ w.heap.size + 1 + 1 + 1 = w.heap.size; omega), cell_far c1 (by show ¬ w.heap.size + 1 + 1 + 1 = w.heap.size + 1; omega)⟩)
          ((go_at_call 88; refine (HF.out _ _ _).mono ?_; rintro e w4 ⟨rfl, rfl⟩))
        go_wp2_with fail
        go_roundg (3 - (1 + 1))
        case measure => omega
        case rel =>
          refine ⟨2, by omega, rfl, .inr (.inr (.inl ⟨rfl, rfl⟩)), Lib.hid (X0.out.far (a := ⟨w.heap.size + 3, 1, none⟩) (by simp) _), Lib.hid (X1.out.far (a := ⟨w.heap.size + 3, 1, none⟩) (by simp) _), Lib.hid (X2.out.far (a := ⟨w.heap.size + 3, 1, none⟩) (by simp) _), Lib.hid ?_, Lib.hid ?_⟩
          · rw [← HS.out, ← cellsI_set]
            exact X3.out.set 1 _
          · exact (HBL.out.setCell (p := ⟨w.heap.size + 3, 1, none⟩) (by simp) _).drew
      · go_upto_region 5 with fail
        go_region_held3 (fun w' => w'.cell? ⟨w.heap.size, 2, none⟩ = some (.int .i64 x) ∧ w'.cell? ⟨w.heap.size + 1, 2, none⟩ = some (.int .i64 y)) (first | (go_keep; done) | exact ⟨cell_far c0 (by show ¬ w.heap.size + 1 + 1 + 1 = w.heap.size; omega), cell_far c1 (by show ¬ w.heap.size + 1 + 1 + 1 = w.heap.size + 1; omega)⟩)
          ((go_at_call 88; refine (HF.out _ _ _).mono ?_; rintro e w4 ⟨rfl, rfl⟩))
        go_wp2_with fail
        go_roundg (3 - (2 + 1))
        case measure => omega
        case rel =>
          refine ⟨3, by omega, rfl, .inr (.inr (.inr ⟨rfl, rfl⟩)), Lib.hid (X0.out.far (a := ⟨w.heap.size + 3, 2, none⟩) (by simp) _), Lib.hid (X1.out.far (a := ⟨w.heap.size + 3, 2, none⟩) (by simp) _), Lib.hid (X2.out.far (a := ⟨w.heap.size + 3, 2, none⟩) (by simp) _), Lib.hid ?_, Lib.hid ?_⟩
          · rw [← HS.out, ← cellsI_set]
            exact X3.out.set 2 _
          · exact (HBL.out.setCell (p := ⟨w.heap.size + 3, 2, none⟩) (by simp) _).drew
    · obtain rfl : k = 3 := by omega
      rcases hs9 with ⟨h, _⟩ | ⟨h, _⟩ | ⟨h, _⟩ | ⟨_, rfl⟩
      · omega
      · omega
      · omega
      go_wp2_with (first
        | (with_reducible refine ev_load rfl 53 (.tmp 7) rfl (w.heap.size + 3) rfl 53 (cellsI (fillC f a b 3)) _ X3.out hu rfl (info_res _ rfl) ?_)
        | (with_reducible refine ev_store rfl 53 (.tmp 6) (.tmp 23) rfl (w.heap.size + 2) (cellsI (fillC f a b 3)) rfl rfl 53 _ X2.out (info_res _ rfl) (by simp [cellsI_size, fillC_length]) (cellsI_one _) ?_; intro w5 hb5 hc5 hz5))
      refine bodyPost_ret (res_c rfl _ (w.heap.size + 2) 53 (cellsI (fillC f a b 3)) _ rfl hb5 hu rfl (info_res _ rfl)) rfl ⟨rfl, ?_⟩
      exact Chg.belowOf HBL.out hc5 (fun k hk => by omega) HBL.out.size
set_option maxRecDepth 100000 in
set_option maxHeartbeats 1600000 in
theorem res_each_most (a b : List Int) (ha : a.length = 3) (hb : b.length = 3) (w : World) :
    Calls Tryd.prog 89 #[.agg (cellsI a), .agg (cellsI b), .func (Fn.func 92) #[] #[]] w fun e w' => e = .returned (.agg (cellsI (List.zipWith (fun a b => max a b) a b))) ∧ Below w.heap.size w w' := by
  have hu := Tryd.underlying53
  rw [← fillC_whole _ a b ha hb]
  obtain ⟨f, hf⟩ : ∃ f : Int → Int → Int, (fun a b => max a b) = f := ⟨_, rfl⟩
  have HF := Lib.hid (fun (n m : Int) (w : World) => (by rw [← hf]; exact res_most1 n m w : Calls Tryd.prog 92 #[.int .i64 n, .int .i64 m] w fun e w' => e = .returned (.int .i64 (f n m)) ∧ w = w'))
  rw [hf]
  clear hf
  have HA := Lib.hid ha
  have HB := Lib.hid hb
  clear ha hb
  obtain ⟨CA, hCA⟩ : ∃ C, cellsI a = C := ⟨_, rfl⟩
  obtain ⟨CB, hCB⟩ : ∃ C, cellsI b = C := ⟨_, rfl⟩
  have HCA := Lib.hid (fun i (hi : i < 3) => show CA[i]? = some (.int .i64 (fld a i)) by rw [← hCA]; exact cellsI_at (by rw [HA.out]; exact hi))
  have HCB := Lib.hid (fun i (hi : i < 3) => show CB[i]? = some (.int .i64 (fld b i)) by rw [← hCB]; exact cellsI_at (by rw [HB.out]; exact hi))
  rw [hCA, hCB]
  clear hCA hCB
  go_enter Tryd.func89, Tryd.ntmps89
  go_wp2_with fail
  go_loopg [9] 3 (fun gg s9 wr => ∃ k : Nat, k ≤ 3 ∧ gg = 3 - k ∧ (k = 0 ∧ s9 = .int .i64 0 ∨ k = 1 ∧ s9 = .int .i64 1 ∨ k = 2 ∧ s9 = .int .i64 2 ∨ k = 3 ∧ s9 = .int .i64 3) ∧ Hid (Blk wr w.heap.size CA 53) ∧ Hid (Blk wr (w.heap.size + 1) CB 53) ∧ Hid (Blk wr (w.heap.size + 2) (cellsI [0, 0, 0]) 53) ∧ Hid (Blk wr (w.heap.size + 3) (cellsI (fillC f a b k)) 53) ∧ Hid (Below w.heap.size w wr))
  case atStart =>
    refine ⟨0, by omega, rfl, .inl ⟨rfl, rfl⟩, Lib.hid ?_, Lib.hid ?_, Lib.hid ?_, Lib.hid ?_, Lib.hid ?_⟩
    · exact (((Blk.new w _ _).alloc _).alloc _).alloc _
    · exact ((blk_at (w.alloc _) _ _ _ (by simp)).alloc _).alloc _
    · exact (blk_at ((w.alloc _).alloc _) _ _ _ (by simp)).alloc _
    · exact blk_at (((w.alloc _).alloc _).alloc _) _ _ _ (by simp)
    · exact ((((Below.refl w.heap.size w).alloc (Nat.le_refl _) _).alloc (by simp) _).alloc (by simp; omega) _).alloc (by simp; omega) _
  case round =>
    obtain ⟨k, hk, hg, hs9, X0, X1, X2, X3, HBL⟩ := hrel
    have hg := hg.symm
    subst hg
    by_cases hlt : k < 3
    · have c0 := X0.out.cell (HCA.out k hlt)
      have c1 := X1.out.cell (HCB.out k hlt)
      have c3 := X3.out.cell (cellsI_at (l := fillC f a b k) (i := k) hlt)
      have f3 := X3.out.free k
      have HS := Lib.hid (fillC_set f a b k hlt)
      obtain ⟨x, hx⟩ : ∃ x, fld a k = x := ⟨_, rfl⟩
      obtain ⟨y, hy⟩ : ∃ y, fld b k = y := ⟨_, rfl⟩
      rw [hx, hy] at HS
      rw [hx] at c0
      rw [hy] at c1
      clear hx hy
      rcases hs9 with ⟨rfl, rfl⟩ | ⟨rfl, rfl⟩ | ⟨rfl, rfl⟩ | ⟨rfl, _⟩
      case inr.inr.inr => omega
      · go_upto_region 5 with fail
        go_region_held3 (fun w' => w'.cell? ⟨w.heap.size, 0, none⟩ = some (.int .i64 x) ∧ w'.cell? ⟨w.heap.size + 1, 0, none⟩ = some (.int .i64 y)) (first | (go_keep; done) | exact ⟨cell_far c0 (by show ¬ w.heap.size + 1 + 1 + 1 = w.heap.size; omega), cell_far c1 (by show ¬ w.heap.size + 1 + 1 + 1 = w.heap.size + 1; omega)⟩)
          ((go_at_call 92; refine (HF.out _ _ _).mono ?_; rintro e w4 ⟨rfl, rfl⟩))
        go_wp2_with fail
        go_roundg (3 - (0 + 1))
        case measure => omega
        case rel =>
          refine ⟨1, by omega, rfl, .inr (.inl ⟨rfl, rfl⟩), Lib.hid (X0.out.far (a := ⟨w.heap.size + 3, 0, none⟩) (by simp) _), Lib.hid (X1.out.far (a := ⟨w.heap.size + 3, 0, none⟩) (by simp) _), Lib.hid (X2.out.far (a := ⟨w.heap.size + 3, 0, none⟩) (by simp) _), Lib.hid ?_, Lib.hid ?_⟩
          · rw [← HS.out, ← cellsI_set]
            exact X3.out.set 0 _
          · exact (HBL.out.setCell (p := ⟨w.heap.size + 3, 0, none⟩) (by simp) _).drew
      · go_upto_region 5 with fail
        go_region_held3 (fun w' => w'.cell? ⟨w.heap.size, 1, none⟩ = some (.int .i64 x) ∧ w'.cell? ⟨w.heap.size + 1, 1, none⟩ = some (.int .i64 y)) (first | (go_keep; done) | exact ⟨cell_far c0 (by show ¬ w.heap.size + 1 + 1 + 1 = w.heap.size; omega), cell_far c1 (by show ¬ w.heap.size + 1 + 1 + 1 = w.heap.size + 1; omega)⟩)
          ((go_at_call 92; refine (HF.out _ _ _).mono ?_; rintro e w4 ⟨rfl, rfl⟩))
        go_wp2_with fail
        go_roundg (3 - (1 + 1))
        case measure => omega
        case rel =>
          refine ⟨2, by omega, rfl, .inr (.inr (.inl ⟨rfl, rfl⟩)), Lib.hid (X0.out.far (a := ⟨w.heap.size + 3, 1, none⟩) (by simp) _), Lib.hid (X1.out.far (a := ⟨w.heap.size + 3, 1, none⟩) (by simp) _), Lib.hid (X2.out.far (a := ⟨w.heap.size + 3, 1, none⟩) (by simp) _), Lib.hid ?_, Lib.hid ?_⟩
          · rw [← HS.out, ← cellsI_set]
            exact X3.out.set 1 _
          · exact (HBL.out.setCell (p := ⟨w.heap.size + 3, 1, none⟩) (by simp) _).drew
      · go_upto_region 5 with fail
        go_region_held3 (fun w' => w'.cell? ⟨w.heap.size, 2, none⟩ = some (.int .i64 x) ∧ w'.cell? ⟨w.heap.size + 1, 2, none⟩ = some (.int .i64 y)) (first | (go_keep; done) | exact ⟨cell_far c0 (by show ¬ w.heap.size + 1 + 1 + 1 = w.heap.size; omega), cell_far c1 (by show ¬ w.heap.size + 1 + 1 + 1 = w.heap.size + 1; omega)⟩)
          ((go_at_call 92; refine (HF.out _ _ _).mono ?_; rintro e w4 ⟨rfl, rfl⟩))
        go_wp2_with fail
        go_roundg (3 - (2 + 1))
        case measure => omega
        case rel =>
          refine ⟨3, by omega, rfl, .inr (.inr (.inr ⟨rfl, rfl⟩)), Lib.hid (X0.out.far (a := ⟨w.heap.size + 3, 2, none⟩) (by simp) _), Lib.hid (X1.out.far (a := ⟨w.heap.size + 3, 2, none⟩) (by simp) _), Lib.hid (X2.out.far (a := ⟨w.heap.size + 3, 2, none⟩) (by simp) _), Lib.hid ?_, Lib.hid ?_⟩
          · rw [← HS.out, ← cellsI_set]
            exact X3.out.set 2 _
          · exact (HBL.out.setCell (p := ⟨w.heap.size + 3, 2, none⟩) (by simp) _).drew
    · obtain rfl : k = 3 := by omega
      rcases hs9 with ⟨h, _⟩ | ⟨h, _⟩ | ⟨h, _⟩ | ⟨_, rfl⟩
      · omega
      · omega
      · omega
      go_wp2_with (first
        | (with_reducible refine ev_load rfl 53 (.tmp 7) rfl (w.heap.size + 3) rfl 53 (cellsI (fillC f a b 3)) _ X3.out hu rfl (info_res _ rfl) ?_)
        | (with_reducible refine ev_store rfl 53 (.tmp 6) (.tmp 23) rfl (w.heap.size + 2) (cellsI (fillC f a b 3)) rfl rfl 53 _ X2.out (info_res _ rfl) (by simp [cellsI_size, fillC_length]) (cellsI_one _) ?_; intro w5 hb5 hc5 hz5))
      refine bodyPost_ret (res_c rfl _ (w.heap.size + 2) 53 (cellsI (fillC f a b 3)) _ rfl hb5 hu rfl (info_res _ rfl)) rfl ⟨rfl, ?_⟩
      exact Chg.belowOf HBL.out hc5 (fun k hk => by omega) HBL.out.size
end Go.Proofs.YtogjckengmkfiaaDoor
