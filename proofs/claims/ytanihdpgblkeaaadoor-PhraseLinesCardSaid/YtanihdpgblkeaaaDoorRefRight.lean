/-
  The reference's vectors that may be (reeve's layer 8), and the event of a kind and numbers (layer 18): the walks.
-/
import Derived.Test.YtanihdpgblkeaaaDoorRefNums
import Derived.StillTailTactics
namespace Go.Proofs.YtanihdpgblkeaaaDoor
open Go.RowKit
set_option linter.unusedVariables false
set_option linter.unusedSimpArgs false

theorem resB_bad (l : List Int) (k : Nat) (hk : k < 3) (h : inR (fld l k) 0 1048576 = false) : resB l = false := by
  unfold resB
  match k, hk with
  | 0, _ => rw [h]; rfl
  | 1, _ => rw [h]; simp
  | 2, _ => rw [h]; simp
set_option maxRecDepth 100000 in
set_option maxHeartbeats 800000 in
theorem ref08_right (l : List Int) (hl : l.length = 3) (w : World) : Calls Tryd.prog 32 #[.agg (cellsI l)] w fun e w' => e = .returned (.bool (resB l)) ∧ Below w.heap.size w w' := by
  have HCC := Lib.hid (fun i (h : i < 3) => show (cellsI l)[i]? = some (.int .i64 (fld l i)) from cellsI_at (by omega))
  obtain ⟨C, hC⟩ : ∃ C, cellsI l = C := ⟨_, rfl⟩
  rw [hC] at HCC ⊢
  clear hC
  obtain ⟨R, hR⟩ : ∃ R, resB l = R := ⟨_, rfl⟩
  rw [hR]
  have HR := Lib.hid hR
  clear hR
  have HB := Lib.hid (Blk.new w C 23)
  have HL := Lib.hid ((Below.refl w.heap.size w).alloc (Nat.le_refl _) (.cells C 23))
  obtain ⟨W, hW⟩ : ∃ W, w.alloc (.cells C 23) = W := ⟨_, rfl⟩
  rw [hW] at HB HL
  have HW := Lib.hid hW
  clear hW
  go_enter Tryd.func32, Tryd.ntmps32
  go_upto_region 1 with fail
  rw [HW.out]
  go_wp2_with fail
  go_loopg [3] 3 (fun gg s3 wr => ∃ k : Nat, k ≤ 3 ∧ gg = 3 - k ∧ s3 = .int .i64 k ∧ W = wr ∧ Hid (∀ j, j < k → inR (fld l j) 0 1048576 = true))
  case atStart => exact ⟨0, by omega, rfl, rfl, rfl, Lib.hid (fun j h => by omega)⟩
  case round =>
    obtain ⟨k, hk, hg, rfl, rfl, HI⟩ := hrel
    have hg := hg.symm
    subst hg
    by_cases hlt : k < 3
    · have hkI : (k : Int) < 3 := by omega
      have hk0 : (0 : Int) ≤ (k : Int) := by omega
      have c0 := HB.out.cell (HCC.out k hlt)
      have hbad := resB_bad l k hlt
      rw [HR.out] at hbad
      have HBAD := Lib.hid hbad
      have HI2 := Lib.hid (fun (h : inR (fld l k) 0 1048576 = true) j (hj : j < k + 1) => show inR (fld l j) 0 1048576 = true by
        by_cases e : j = k
        · rw [e]; exact h
        · exact HI.out j (by omega))
      clear hbad
      obtain ⟨x, hx⟩ : ∃ x, fld l k = x := ⟨_, rfl⟩
      rw [hx] at c0 HBAD HI2
      clear hx
      by_cases h1 : x < 0
      · have HR2 := Lib.hid (HBAD.out (inR_no (.inl h1)))
        go_wp2_with fail
        go_ret
        exact ⟨by rw [HR2.out]; rfl, HL.out⟩
      · have h1' : 0 ≤ x := by omega
        by_cases h2 : 1048576 < x
        · have HR2 := Lib.hid (HBAD.out (inR_no (.inr h2)))
          go_wp2_with fail
          go_ret
          exact ⟨by rw [HR2.out]; rfl, HL.out⟩
        · have h2' : x ≤ 1048576 := by omega
          have HI3 := Lib.hid (HI2.out (inR_yes h1' h2'))
          go_wp2_with fail
          go_roundg (3 - (k + 1))
          case measure => omega
          case rel => exact ⟨k + 1, by omega, rfl, by go_num, rfl, HI3⟩
    · obtain rfl : k = 3 := by omega
      have HR2 : Hid (R = true) := Lib.hid (by
        rw [← HR.out]; unfold resB
        rw [HI.out 0 (by omega), HI.out 1 (by omega), HI.out 2 (by omega)]; rfl)
      go_wp2_with fail
      go_ret
      exact ⟨by rw [HR2.out]; rfl, HL.out⟩
/-- Numbers laid at places, one by one. -/
def layZ (os : List Nat) (ns : List Int) (d : List Int) : List Int := (os.zip ns).foldl (fun d p => d.set p.1 p.2) d
theorem layZ_length (os : List Nat) : ∀ (ns d : List Int), (layZ os ns d).length = d.length := by
  induction os with
  | nil => intro ns d; rfl
  | cons o r ih =>
    intro ns d
    cases ns with
    | nil => rfl
    | cons n s =>
      show (layZ r s (d.set o n)).length = _
      rw [ih, List.length_set]
theorem layZ_map (l : List Int) (os : List Nat) : ∀ d, layZ os (os.map (fld l)) d = lay l os d := by
  induction os with
  | nil => intro d; rfl
  | cons o r ih => intro d; exact ih _
theorem layZ_append (a b : List Nat) : ∀ (x y d : List Int), a.length = x.length → layZ (a ++ b) (x ++ y) d = layZ b y (layZ a x d) := by
  induction a with
  | nil =>
    intro x y d h
    have : x = [] := List.eq_nil_of_length_eq_zero h.symm
    subst this; rfl
  | cons o r ih =>
    intro x y d h
    cases x with
    | nil => simp at h
    | cons n s => exact ih s y _ (by simpa using h)
end Go.Proofs.YtanihdpgblkeaaaDoor
