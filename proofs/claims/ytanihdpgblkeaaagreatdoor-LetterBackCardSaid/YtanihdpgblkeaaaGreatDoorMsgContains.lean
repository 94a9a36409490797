/-
  Is a place among those that a kind names? (slices.Contains, over places of one block): the walk.
-/
import Derived.Test.YtanihdpgblkeaaaGreatDoorMsgNamed
import Derived.LaidEqlPtr
namespace Go.Proofs.YtanihdpgblkeaaaGreatDoor
open Go.RowKit
set_option linter.unusedVariables false
set_option linter.unusedSimpArgs false

set_option maxRecDepth 100000 in
theorem eql_ptr_block {g o q : Nat} (hne : o ≠ q) (w : World) : (binOp .eql 61 (.pointer (some ⟨g, o, none⟩)) (.pointer (some ⟨g, q, none⟩))).run Tryz.prog w = .ok (.bool false) w := by
  obtain ⟨j, hj, hsz⟩ : ∃ j, Tryz.prog.info? 3 = some j ∧ j.size ≠ 0 := ⟨_, rfl, by decide⟩
  have hne2 : (⟨g, o, none⟩ : Addr) ≠ ⟨g, q, none⟩ := by intro e; injection e with _ e _; exact hne e
  have hs : (sameAddr ⟨g, o, none⟩ ⟨g, q, none⟩).run Tryz.prog w = .ok false w := by simp [sameAddr, hne2]
  have h : ∀ d : Nat, (Op.equalIn (d + 1) 61 (.pointer (some ⟨g, o, none⟩)) (.pointer (some ⟨g, q, none⟩))).run Tryz.prog w = .ok false w := fun d => by
    simp [Op.equalIn, run_underlying Tryz.underlying61, sizeOf, typeInfo, hj, hsz, hs]
  simp only [binOp]
  simp [Op.equal, Op.maxDepth, h 9999]
set_option maxRecDepth 100000 in
theorem eql_ptr_self (g o : Nat) (w : World) : (binOp .eql 61 (.pointer (some ⟨g, o, none⟩)) (.pointer (some ⟨g, o, none⟩))).run Tryz.prog w = .ok (.bool true) w := by
  obtain ⟨j, hj⟩ : ∃ j, Tryz.prog.info? 3 = some j := ⟨_, rfl⟩
  exact run_eql_ptr_same w ⟨g, o, none⟩ Tryz.underlying61 hj
set_option maxRecDepth 100000 in
set_option maxHeartbeats 1600000 in
theorem ptr_index (g B o : Nat) (os : List Nat) (hos : os.length ≤ 1000) (v : Value) (w : World) (hv : RowV B w v (ptrs g os)) :
    Calls Tryz.prog 115 #[v, .pointer (some ⟨g, o, none⟩)] w fun e w' => ∃ k : Int, e = .returned (.int .i64 k) ∧ (0 ≤ k ↔ o ∈ os) ∧ w = w' := by
  obtain ⟨p, cap, rfl⟩ := hv.len
  rw [ptrs_length] at *
  obtain ⟨n, hn⟩ : ∃ n, os.length = n := ⟨_, rfl⟩
  rw [hn] at hos ⊢
  have hbv : ∀ j (hj : j < n), ∃ b off cp q, (Value.slice p n cap) = .slice (some ⟨b, off, none⟩) n cp ∧ os[j]? = some q ∧ w.cell? ⟨b, off + j, none⟩ = some (.pointer (some ⟨g, q, none⟩)) := by
    intro j hj
    obtain ⟨b, off, cp, e1, _, _, e2⟩ := hv.at (j := j) (by rw [ptrs_length]; omega)
    rw [ptrs_length, hn] at e1
    rw [ptrs_at _ _ _ (by omega)] at e2
    exact ⟨b, off, cp, os[j]'(by omega), e1, List.getElem?_eq_getElem (by omega), e2⟩
  have HBV := Lib.hid hbv
  have HN := Lib.hid hn
  clear hv hbv hn
  go_enter Tryz.func115, Tryz.ntmps115
  go_wp2_with fail
  go_loopg [8] n (fun gg s8 wr => ∃ i : Nat, i ≤ n ∧ gg = n - i ∧ s8 = .int .i64 i ∧ w = wr ∧ Hid (∀ j q : Nat, os[j]? = some q → j < i → q ≠ o))
  case atStart => exact ⟨0, by omega, rfl, rfl, rfl, Lib.hid (fun j _ _ h => by omega)⟩
  case round =>
    obtain ⟨i, hi', hg, rfl, rfl, HM⟩ := hrel
    have hg := hg.symm
    subst hg
    by_cases hlt : i < n
    · obtain ⟨b, off, cp, q, e1, hq, k0⟩ := HBV.out i hlt
      cases e1
      have hiI : (i : Int) < (n : Int) := by omega
      have hi0 : (0 : Int) ≤ (i : Int) := by omega
      by_cases hqo : o = q
      · subst hqo
        have HF : Hid (o ∈ os) := Lib.hid (List.mem_of_getElem? hq)
        have hE := eql_ptr_self g o w
        clear hq
        go_wp2_with fail
        go_ret
        exact ⟨_, rfl, ⟨fun _ => HF.out, fun _ => hi0⟩, rfl⟩
      · have HM2 : Hid (∀ j q : Nat, os[j]? = some q → j < i + 1 → q ≠ o) := Lib.hid (fun j q' hj h => by
          by_cases hji : j = i
          · subst hji; rw [hq] at hj; injection hj with hj; subst hj; exact fun e => hqo e.symm
          · exact HM.out j q' hj (by omega))
        have hE := eql_ptr_block (g := g) hqo w
        clear hq HM
        go_wp2_with fail
        go_roundg (n - (i + 1))
        case measure => omega
        case rel => exact ⟨i + 1, by omega, rfl, by go_num, rfl, HM2⟩
    · obtain rfl : i = n := by omega
      have HF : Hid (o ∉ os) := Lib.hid (fun h => by
        obtain ⟨j, hj, e⟩ := List.mem_iff_getElem.1 h
        exact HM.out j _ (List.getElem?_eq_getElem hj) (by rw [HN.out] at hj; exact hj) e)
      clear HM
      go_wp2_with fail
      go_ret
      exact ⟨_, rfl, ⟨fun h => absurd h (by decide), fun h => absurd h HF.out⟩, rfl⟩
theorem ptr_contains (g B o : Nat) (os : List Nat) (hos : os.length ≤ 1000) (v : Value) (w : World) (hv : RowV B w v (ptrs g os)) :
    Calls Tryz.prog 98 #[v, .pointer (some ⟨g, o, none⟩)] w fun e w' => e = .returned (.bool (decide (o ∈ os))) ∧ w = w' := by
  have C := Lib.hid (ptr_index g B o os hos v w hv)
  clear hv
  go_enter Tryz.func98, Tryz.ntmps98
  go_wp2_with fail
  refine C.out.mono ?_
  rintro e w2 ⟨k, rfl, hk, rfl⟩
  by_cases h : o ∈ os
  · have h0 : 0 ≤ k := hk.2 h
    have HD := Lib.hid (decide_eq_true h)
    clear hk h C
    go_wp2_with fail
    go_ret
    exact ⟨by rw [HD.out]; rfl, rfl⟩
  · have h0 : ¬ 0 ≤ k := fun e => h (hk.1 e)
    have h1 : k < 0 := by omega
    have HD := Lib.hid (decide_eq_false h)
    clear hk h C h0
    go_wp2_with fail
    go_ret
    refine ⟨?_, rfl⟩
    show Ending.returned (.bool (decide (0 ≤ k))) = _
    rw [decide_eq_false (by omega), HD.out]
end Go.Proofs.YtanihdpgblkeaaaGreatDoor
