/-
  OctetMath, Octet, OwnI, Ref18, RefNums, RefRight, RefMade, RefPure, RefCheck in one text.
-/
import Derived.Laws.Bits128
import Derived.Test.YtanihdpgblkeaaaGreatDoorBuilder
import Derived.Laws.BytesArg
import Derived.Lib.ConvBytes
import Derived.Test.YtanihdpgblkeaaaGreatDoorEventAll
import Derived.Laws.AppendOwn
import Derived.Maps.AppendAt
import Derived.StillTailTactics
/-! OctetMath -/
namespace Go.Proofs.YtanihdpgblkeaaaGreatDoor.Oct
set_option linter.unusedVariables false
set_option linter.unusedSimpArgs false

end Go.Proofs.YtanihdpgblkeaaaGreatDoor.Oct

/-! Octet -/
namespace Go.Proofs.YtanihdpgblkeaaaGreatDoor
open Go.RowKit
set_option linter.unusedVariables false
set_option linter.unusedSimpArgs false

/-- A list of bytes as a text. -/
def str (l : List UInt8) : ByteArray := ⟨l.toArray⟩
theorem str_size (l : List UInt8) : (str l).size = l.length := by simp [str, ByteArray.size]
end Go.Proofs.YtanihdpgblkeaaaGreatDoor

/-! OwnI -/
namespace Go.Proofs.YtanihdpgblkeaaaGreatDoor
open Go.RowKit
set_option linter.unusedVariables false
set_option linter.unusedSimpArgs false

/-- A row of numbers of the call's own. -/
def OwnI (B : Nat) (w : World) (v : Value) (l : List Int) : Prop := w.ownsRow B 3 1 v l.length (l.map (Value.int .i64))
theorem OwnI.nil (B : Nat) (w : World) : OwnI B w (.slice none 0 0) [] := ⟨rfl, .inl ⟨rfl, rfl⟩⟩
theorem OwnI.below {B C : Nat} {w w' : World} {v : Value} {l : List Int} (h : OwnI B w v l) (hb : Below C w w') (hC : w.heap.size ≤ C) : OwnI B w' v l := by
  obtain ⟨h1, h2 | ⟨g, cap, cur, rfl, hg, hh, rest⟩⟩ := h
  · exact ⟨h1, .inl h2⟩
  · refine ⟨h1, .inr ⟨g, cap, cur, rfl, hg, ?_, rest⟩⟩
    rw [← hh]
    exact hb.block g (Nat.lt_of_lt_of_le (Array.getElem?_eq_some_iff.1 hh).1 hC)
theorem OwnI.gby {B : Nat} {w0 w1 w2 : World} {v : Value} {l : List Int} (h : OwnI B w1 v l) (hb : Below B w0 w1) (hB : B ≤ w1.heap.size) (hg : w1.grownBy w2 v.ownBlock) : Below B w0 w2 := by
  refine hb.trans ⟨hg.os, hg.tape, hg.output, hg.size, fun k hk => hg.block k (Nat.lt_of_lt_of_le hk hB) (fun e => ?_)⟩
  obtain ⟨_, ⟨rfl, _⟩ | ⟨g, cap, cur, rfl, hg1, _⟩⟩ := h
  · cases e
  · have : g = k := by have e2 := e.symm; simpa [Value.ownBlock] using e2
    omega
theorem OwnI.mono {B C : Nat} {w : World} {v : Value} {l : List Int} (h : OwnI B w v l) (hC : C ≤ B) : OwnI C w v l := by
  obtain ⟨h1, h2 | ⟨g, cap, cur, rfl, hg, hh, rest⟩⟩ := h
  · exact ⟨h1, .inl h2⟩
  · exact ⟨h1, .inr ⟨g, cap, cur, rfl, Nat.le_trans hC hg, hh, rest⟩⟩
theorem OwnI.mk {B : Nat} {w : World} {v : Value} {l : List Int} {b : Int} (h : w.ownsRow B 3 1 v (l.length + 1) (l.map (Value.int .i64) ++ [Value.int .i64 b])) : OwnI B w v (l ++ [b]) := by
  unfold OwnI
  rw [List.length_append, List.map_append]
  exact h
theorem OwnI.row {B : Nat} {w : World} {v : Value} {l : List Int} (h : OwnI B w v l) : RowV B w v (l.map (Value.int .i64)) := by
  have hc := fun g (hg : v.ownBlock = some g) => World.ownsRow.cells h (g := g) hg
  obtain ⟨h1, ⟨rfl, h2⟩ | ⟨g, cap, cur, rfl, hg, hh, _⟩⟩ := h
  · exact .inl ⟨none, 0, rfl, by rw [List.eq_nil_of_length_eq_zero h2]; rfl⟩
  · refine .inr ⟨g, 0, cap, by rw [List.length_map], hg, (Array.getElem?_eq_some_iff.1 hh).1, fun j x hj => ?_⟩
    have := hc g rfl j x hj
    rw [Nat.zero_add]; have e : (⟨g, 0, none⟩ : Addr).add j = ⟨g, j, none⟩ := by simp [Addr.add]; intro h; exact h.symm
    rw [e] at this; exact this
theorem OwnI.len {B : Nat} {w : World} {v : Value} {l : List Int} (h : OwnI B w v l) : ∃ p cap, v = .slice p l.length cap := by
  obtain ⟨p, cap, e⟩ := h.row.len
  rw [List.length_map] at e
  exact ⟨p, cap, e⟩
set_option maxRecDepth 100000 in
/-- One number more, as an operation of the walk. -/
theorem ev_appI {ops : Array Oper} {rest : List Oper} {o : Oper} {a : Act} {Q : Exit → Act → World → Prop} {w : World} (hgd : o.guard = none) (s x : Operand)
    (ho : o.op = .call { callee := .builtin .append, args := #[s, x], argTypes := #[60, 60] }) (B : Nat) (w0 : World) (v : Value) (l : List Int) (hs : a.eval s = v) (h : OwnI B w v l) (hb : Below B w0 w) (hB : B ≤ w.heap.size)
    (g : Nat) (n : Int) (hx : a.eval x = .slice (some ⟨g, 0, none⟩) 1 1) (hg : w.cell? ⟨g, 0, none⟩ = some (.int .i64 n)) (hl : l.length ≤ 1000000)
    (hk : ∀ v' w', OwnI B w' v' (l ++ [n]) → Below B w0 w' → w.grownBy w' v.ownBlock → wpList Tryz.prog ops Q rest (a.put o.dst v') w') : wpList Tryz.prog ops Q (o :: rest) a w := by
  obtain ⟨i0, hi, hz, hsz, hby⟩ : ∃ i, Tryz.prog.info? 3 = some i ∧ i.zero = some (.int .i64 0) ∧ i.size = 1 ∧ i.bytes = 8 := ⟨_, rfl, rfl, rfl, rfl⟩
  refine wpList_append_own _ hgd s x 60 ho B 3 i0 (.int .i64 0) 1 8 Tryz.underlying60 hi hz hsz hby rfl (by decide) v l.length (l.map (Value.int .i64)) hs h ⟨g, 0, none⟩ 1 1 [.int .i64 n] hx rfl ?_ ?_ ?_ ?_ hB ?_
  · intro j u hj
    match j, hj with
    | 0, hj => simp at hj; subst hj; simpa [Addr.add] using hg
    | j + 1, hj => simp at hj
  · intro u hu; simp at hu; subst hu; rfl
  · unfold maxLen; omega
  · omega
  · intro v' w' hown hgr _
    exact hk v' w' (OwnI.mk hown) (OwnI.gby h hb hB hgr) hgr
end Go.Proofs.YtanihdpgblkeaaaGreatDoor

/-! Ref18 -/
namespace Go.Proofs.YtanihdpgblkeaaaGreatDoor
open Go.RowKit
set_option linter.unusedVariables false
set_option linter.unusedSimpArgs false

/-- The letters of what a kind names. -/
def nm (k : Int) : List UInt8 :=
  if k = 1 ∨ k = 2 then [78, 73, 82] else if k = 3 then [78, 73] else if k = 4 then [74, 80, 82] else if k = 5 then [74] else if k = 6 ∨ k = 7 then [74, 78, 73] else []
/-- What a letter names. -/
def ch (c : UInt8) : List Nat := if c = 78 then [1] else if c = 73 then [3] else if c = 74 then [2] else if c = 80 then [4] else [5, 6, 7]
end Go.Proofs.YtanihdpgblkeaaaGreatDoor

/-! RefNums -/
namespace Go.Proofs.YtanihdpgblkeaaaGreatDoor
open Go.RowKit
set_option linter.unusedVariables false
set_option linter.unusedSimpArgs false

end Go.Proofs.YtanihdpgblkeaaaGreatDoor

/-! RefRight -/
namespace Go.Proofs.YtanihdpgblkeaaaGreatDoor
open Go.RowKit
set_option linter.unusedVariables false
set_option linter.unusedSimpArgs false

theorem resB_bad (l : List Int) (k : Nat) (hk : k < 3) (h : inR (fld l k) 0 1048576 = false) : resB l = false := by
  unfold resB
  match k, hk with
  | 0, _ => rw [h]; rfl
  | 1, _ => rw [h]; simp
  | 2, _ => rw [h]; simp
set_option maxRecDepth 100000 in
set_option maxHeartbeats 800000 in
theorem ref08_right (l : List Int) (hl : l.length = 3) (w : World) : Calls Tryz.prog 62 #[.agg (cellsI l)] w fun e w' => e = .returned (.bool (resB l)) ∧ Below w.heap.size w w' := by
  have HCC := Lib.hid (fun i (h : i < 3) => show (cellsI l)[i]? = some (.int .i64 (fld l i)) from cellsI_at (by omega))
  obtain ⟨C, hC⟩ : ∃ C, cellsI l = C := ⟨_, rfl⟩
  rw [hC] at HCC ⊢
  clear hC
  obtain ⟨R, hR⟩ : ∃ R, resB l = R := ⟨_, rfl⟩
  rw [hR]
  have HR := Lib.hid hR
  clear hR
  have HB := Lib.hid (Blk.new w C 23)
  have HL := Lib.hid ((Below.refl w.heap.size w).alloc (Nat.le_refl _) (.cells C 23))
  obtain ⟨W, hW⟩ : ∃ W, w.alloc (.cells C 23) = W := ⟨_, rfl⟩
  rw [hW] at HB HL
  have HW := Lib.hid hW
  clear hW
  go_enter Tryz.func62, Tryz.ntmps62
  go_upto_region 1 with fail
  rw [HW.out]
  go_wp2_with fail
  go_loopg [3] 3 (fun gg s3 wr => ∃ k : Nat, k ≤ 3 ∧ gg = 3 - k ∧ s3 = .int .i64 k ∧ W = wr ∧ Hid (∀ j, j < k → inR (fld l j) 0 1048576 = true))
  case atStart => exact ⟨0, by omega, rfl, rfl, rfl, Lib.hid (fun j h => by omega)⟩
  case round =>
    obtain ⟨k, hk, hg, rfl, rfl, HI⟩ := hrel
    have hg := hg.symm
    subst hg
    by_cases hlt : k < 3
    · have hkI : (k : Int) < 3 := by omega
      have hk0 : (0 : Int) ≤ (k : Int) := by omega
      have c0 := HB.out.cell (HCC.out k hlt)
      have hbad := resB_bad l k hlt
      rw [HR.out] at hbad
      have HBAD := Lib.hid hbad
      have HI2 := Lib.hid (fun (h : inR (fld l k) 0 1048576 = true) j (hj : j < k + 1) => show inR (fld l j) 0 1048576 = true by
        by_cases e : j = k
        · rw [e]; exact h
        · exact HI.out j (by omega))
      clear hbad
      obtain ⟨x, hx⟩ : ∃ x, fld l k = x := ⟨_, rfl⟩
      rw [hx] at c0 HBAD HI2
      clear hx
      by_cases h1 : x < 0
      · have HR2 := Lib.hid (HBAD.out (inR_no (.inl h1)))
        go_wp2_with fail
        go_ret
        exact ⟨by rw [HR2.out]; rfl, HL.out⟩
      · have h1' : 0 ≤ x := by omega
        by_cases h2 : 1048576 < x
        · have HR2 := Lib.hid (HBAD.out (inR_no (.inr h2)))
          go_wp2_with fail
          go_ret
          exact ⟨by rw [HR2.out]; rfl, HL.out⟩
        · have h2' : x ≤ 1048576 := by omega
          have HI3 := Lib.hid (HI2.out (inR_yes h1' h2'))
          go_wp2_with fail
          go_roundg (3 - (k + 1))
          case measure => omega
          case rel => exact ⟨k + 1, by omega, rfl, by go_num, rfl, HI3⟩
    · obtain rfl : k = 3 := by omega
      have HR2 : Hid (R = true) := Lib.hid (by
        rw [← HR.out]; unfold resB
        rw [HI.out 0 (by omega), HI.out 1 (by omega), HI.out 2 (by omega)]; rfl)
      go_wp2_with fail
      go_ret
      exact ⟨by rw [HR2.out]; rfl, HL.out⟩
/-- Numbers laid at places, one by one. -/
def layZ (os : List Nat) (ns : List Int) (d : List Int) : List Int := (os.zip ns).foldl (fun d p => d.set p.1 p.2) d
theorem layZ_length (os : List Nat) : ∀ (ns d : List Int), (layZ os ns d).length = d.length := by
  induction os with
  | nil => intro ns d; rfl
  | cons o r ih =>
    intro ns d
    cases ns with
    | nil => rfl
    | cons n s =>
      show (layZ r s (d.set o n)).length = _
      rw [ih, List.length_set]
theorem layZ_map (l : List Int) (os : List Nat) : ∀ d, layZ os (os.map (fld l)) d = lay l os d := by
  induction os with
  | nil => intro d; rfl
  | cons o r ih => intro d; exact ih _
theorem layZ_append (a b : List Nat) : ∀ (x y d : List Int), a.length = x.length → layZ (a ++ b) (x ++ y) d = layZ b y (layZ a x d) := by
  induction a with
  | nil =>
    intro x y d h
    have : x = [] := List.eq_nil_of_length_eq_zero h.symm
    subst this; rfl
  | cons o r ih =>
    intro x y d h
    cases x with
    | nil => simp at h
    | cons n s => exact ih s y _ (by simpa using h)
end Go.Proofs.YtanihdpgblkeaaaGreatDoor

/-! RefMade -/
namespace Go.Proofs.YtanihdpgblkeaaaGreatDoor
open Go.RowKit
set_option linter.unusedVariables false
set_option linter.unusedSimpArgs false

/-- The places of the first letters. -/
def pre (k : Int) (i : Nat) : List Nat := ((nm k).take i).flatMap ch
theorem drop_one (ns : List Int) (q : Nat) (h : q < ns.length) : (ns.drop q).take 1 = [fld ns q] := by
  rw [List.drop_eq_getElem_cons h, List.take_succ_cons, List.take_zero]; simp [fld, h]
theorem drop_three (ns : List Int) (q : Nat) (h : q + 2 < ns.length) : (ns.drop q).take 3 = [fld ns q, fld ns (q + 1), fld ns (q + 2)] := by
  rw [List.drop_eq_getElem_cons (by omega), List.drop_eq_getElem_cons (by omega), List.drop_eq_getElem_cons (by omega), List.take_succ_cons, List.take_succ_cons, List.take_succ_cons, List.take_zero]
  have h1 : q + 1 < ns.length := by omega
  have h2 : q < ns.length := by omega
  have h3 : q + 1 + 1 < ns.length := by omega
  simp [fld, h, h1, h2, h3]
end Go.Proofs.YtanihdpgblkeaaaGreatDoor

/-! RefPure -/
namespace Go.Proofs.YtanihdpgblkeaaaGreatDoor
open Go.RowKit
set_option linter.unusedVariables false
set_option linter.unusedSimpArgs false

theorem str_inj_p {a b : List UInt8} (h : str a = str b) : a = b := by
  have := congrArg (fun x : ByteArray => x.data.toList) h
  simpa [str] using this
theorem str_empty_ne {s : ByteArray} (h : s ≠ ⟨#[]⟩) : s.toList.isEmpty = false := by
  rw [ByteArray.toList_eq]
  cases hl : s.data.toList with
  | nil => exact absurd (by apply ByteArray.ext; apply Array.ext'; exact hl) h
  | cons a r => rfl
end Go.Proofs.YtanihdpgblkeaaaGreatDoor

/-! RefCheck -/
namespace Go.Proofs.YtanihdpgblkeaaaGreatDoor
open Go.RowKit
set_option linter.unusedVariables false
set_option linter.unusedSimpArgs false

end Go.Proofs.YtanihdpgblkeaaaGreatDoor
