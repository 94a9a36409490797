/-
  OwnI, Ref18, RefNums, RefRight, RefMade, RefPure, RefCheck in one text.
-/
import Derived.Test.YtcibeiehdjekiaaGreatDoorEventAll
import Derived.Laws.AppendOwn
import Derived.Maps.AppendAt
import Derived.Test.YtcibeiehdjekiaaGreatDoorOctAll
import Derived.Test.YtcibeiehdjekiaaGreatDoorBuilder
import Derived.StillTailTactics
/-! OwnI -/
namespace Go.Proofs.YtcibeiehdjekiaaGreatDoor
open Go.RowKit
set_option linter.unusedVariables false
set_option linter.unusedSimpArgs false

/-- A row of numbers of the call's own. -/
def OwnI (B : Nat) (w : World) (v : Value) (l : List Int) : Prop := w.ownsRow B 3 1 v l.length (l.map (Value.int .i64))
theorem OwnI.nil (B : Nat) (w : World) : OwnI B w (.slice none 0 0) [] := ⟨rfl, .inl ⟨rfl, rfl⟩⟩
theorem OwnI.below {B C : Nat} {w w' : World} {v : Value} {l : List Int} (h : OwnI B w v l) (hb : Below C w w') (hC : w.heap.size ≤ C) : OwnI B w' v l := by
  obtain ⟨h1, h2 | ⟨g, cap, cur, rfl, hg, hh, rest⟩⟩ := h
  · exact ⟨h1, .inl h2⟩
  · refine ⟨h1, .inr ⟨g, cap, cur, rfl, hg, ?_, rest⟩⟩
    rw [← hh]
    exact hb.block g (Nat.lt_of_lt_of_le (Array.getElem?_eq_some_iff.1 hh).1 hC)
theorem OwnI.gby {B : Nat} {w0 w1 w2 : World} {v : Value} {l : List Int} (h : OwnI B w1 v l) (hb : Below B w0 w1) (hB : B ≤ w1.heap.size) (hg : w1.grownBy w2 v.ownBlock) : Below B w0 w2 := by
  refine hb.trans ⟨hg.os, hg.tape, hg.output, hg.size, fun k hk => hg.block k (Nat.lt_of_lt_of_le hk hB) (fun e => ?_)⟩
  obtain ⟨_, ⟨rfl, _⟩ | ⟨g, cap, cur, rfl, hg1, _⟩⟩ := h
  · cases e
  · have : g = k := by have e2 := e.symm; simpa [Value.ownBlock] using e2
    omega
theorem OwnI.mono {B C : Nat} {w : World} {v : Value} {l : List Int} (h : OwnI B w v l) (hC : C ≤ B) : OwnI C w v l := by
  obtain ⟨h1, h2 | ⟨g, cap, cur, rfl, hg, hh, rest⟩⟩ := h
  · exact ⟨h1, .inl h2⟩
  · exact ⟨h1, .inr ⟨g, cap, cur, rfl, Nat.le_trans hC hg, hh, rest⟩⟩
theorem OwnI.mk {B : Nat} {w : World} {v : Value} {l : List Int} {b : Int} (h : w.ownsRow B 3 1 v (l.length + 1) (l.map (Value.int .i64) ++ [Value.int .i64 b])) : OwnI B w v (l ++ [b]) := by
  unfold OwnI
  rw [List.length_append, List.map_append]
  exact h
theorem OwnI.row {B : Nat} {w : World} {v : Value} {l : List Int} (h : OwnI B w v l) : RowV B w v (l.map (Value.int .i64)) := by
  have hc := fun g (hg : v.ownBlock = some g) => World.ownsRow.cells h (g := g) hg
  obtain ⟨h1, ⟨rfl, h2⟩ | ⟨g, cap, cur, rfl, hg, hh, _⟩⟩ := h
  · exact .inl ⟨none, 0, rfl, by rw [List.eq_nil_of_length_eq_zero h2]; rfl⟩
  · refine .inr ⟨g, 0, cap, by rw [List.length_map], hg, (Array.getElem?_eq_some_iff.1 hh).1, fun j x hj => ?_⟩
    have := hc g rfl j x hj
    rw [Nat.zero_add]; have e : (⟨g, 0, none⟩ : Addr).add j = ⟨g, j, none⟩ := by simp [Addr.add]; intro h; exact h.symm
    rw [e] at this; exact this
theorem OwnI.len {B : Nat} {w : World} {v : Value} {l : List Int} (h : OwnI B w v l) : ∃ p cap, v = .slice p l.length cap := by
  obtain ⟨p, cap, e⟩ := h.row.len
  rw [List.length_map] at e
  exact ⟨p, cap, e⟩
set_option maxRecDepth 100000 in
/-- One number more, as an operation of the walk. -/
theorem ev_appI {ops : Array Oper} {rest : List Oper} {o : Oper} {a : Act} {Q : Exit → Act → World → Prop} {w : World} (hgd : o.guard = none) (s x : Operand)
    (ho : o.op = .call { callee := .builtin .append, args := #[s, x], argTypes := #[57, 57] }) (B : Nat) (w0 : World) (v : Value) (l : List Int) (hs : a.eval s = v) (h : OwnI B w v l) (hb : Below B w0 w) (hB : B ≤ w.heap.size)
    (g : Nat) (n : Int) (hx : a.eval x = .slice (some ⟨g, 0, none⟩) 1 1) (hg : w.cell? ⟨g, 0, none⟩ = some (.int .i64 n)) (hl : l.length ≤ 1000000)
    (hk : ∀ v' w', OwnI B w' v' (l ++ [n]) → Below B w0 w' → w.grownBy w' v.ownBlock → wpList Tryz.prog ops Q rest (a.put o.dst v') w') : wpList Tryz.prog ops Q (o :: rest) a w := by
  obtain ⟨i0, hi, hz, hsz, hby⟩ : ∃ i, Tryz.prog.info? 3 = some i ∧ i.zero = some (.int .i64 0) ∧ i.size = 1 ∧ i.bytes = 8 := ⟨_, rfl, rfl, rfl, rfl⟩
  refine wpList_append_own _ hgd s x 57 ho B 3 i0 (.int .i64 0) 1 8 Tryz.underlying57 hi hz hsz hby rfl (by decide) v l.length (l.map (Value.int .i64)) hs h ⟨g, 0, none⟩ 1 1 [.int .i64 n] hx rfl ?_ ?_ ?_ ?_ hB ?_
  · intro j u hj
    match j, hj with
    | 0, hj => simp at hj; subst hj; simpa [Addr.add] using hg
    | j + 1, hj => simp at hj
  · intro u hu; simp at hu; subst hu; rfl
  · unfold maxLen; omega
  · omega
  · intro v' w' hown hgr _
    exact hk v' w' (OwnI.mk hown) (OwnI.gby h hb hB hgr) hgr
end Go.Proofs.YtcibeiehdjekiaaGreatDoor

/-! Ref18 -/
namespace Go.Proofs.YtcibeiehdjekiaaGreatDoor
open Go.RowKit
set_option linter.unusedVariables false
set_option linter.unusedSimpArgs false

/-- The letters of what a kind names. -/
def nm (k : Int) : List UInt8 :=
  if k = 1 ∨ k = 2 then [78, 73, 82] else if k = 3 then [78, 73] else if k = 4 then [74, 80, 82] else if k = 5 then [74] else if k = 6 ∨ k = 7 then [74, 78, 73] else []
/-- What a letter names. -/
def ch (c : UInt8) : List Nat := if c = 78 then [1] else if c = 73 then [3] else if c = 74 then [2] else if c = 80 then [4] else [5, 6, 7]
theorem nm_none {k : Int} (h : k ≠ 1 ∧ k ≠ 2 ∧ k ≠ 3 ∧ k ≠ 4 ∧ k ≠ 5 ∧ k ≠ 6 ∧ k ≠ 7) : nm k = [] := by
  unfold nm
  rw [if_neg (by omega), if_neg (by omega), if_neg (by omega), if_neg (by omega), if_neg (by omega)]
theorem nm_offs (k : Int) : (nm k).flatMap ch = offs k := by
  rcases kind_cases k with rfl | rfl | rfl | rfl | rfl | rfl | rfl | h
  all_goals first | rfl | (rw [nm_none h, offs_none h]; rfl)
theorem nm_nil (k : Int) : nm k = [] ↔ offs k = [] := by
  rcases kind_cases k with rfl | rfl | rfl | rfl | rfl | rfl | rfl | h
  all_goals first | (rw [nm_none h, offs_none h]; simp) | simp [nm, offs]
theorem nm_length (k : Int) : (nm k).length ≤ 3 := by
  rcases kind_cases k with rfl | rfl | rfl | rfl | rfl | rfl | rfl | h
  all_goals first | decide | (rw [nm_none h]; simp)
theorem nm_mem (k : Int) (c : UInt8) (h : c ∈ nm k) : c = 78 ∨ c = 73 ∨ c = 74 ∨ c = 80 ∨ c = 82 := by
  rcases kind_cases k with rfl | rfl | rfl | rfl | rfl | rfl | rfl | hk
  all_goals first | (rw [nm_none hk] at h; simp at h; done) | (simp [nm] at h; rcases h with h | h | h <;> simp [h]; done) | (simp [nm] at h; rcases h with h | h <;> simp [h]; done) | (simp [nm] at h; simp [h]; done)
end Go.Proofs.YtcibeiehdjekiaaGreatDoor

/-! RefNums -/
namespace Go.Proofs.YtcibeiehdjekiaaGreatDoor
open Go.RowKit
set_option linter.unusedVariables false
set_option linter.unusedSimpArgs false

/-- The numbers that an event's kind names. -/
def numsL (l : List Int) : List Int := (offs (fld l 0)).map (fld l)
theorem part_le (k : Int) (i : Nat) : (((nm k).take i).flatMap ch).length ≤ 5 := by
  have h := offs_length k
  rw [← nm_offs, ← List.take_append_drop i (nm k), List.flatMap_append, List.length_append] at h
  omega
theorem part_succ (l : List Int) (k : Int) (i : Nat) (c : UInt8) (h : (nm k)[i]? = some c) : (((nm k).take (i + 1)).flatMap ch).map (fld l) = (((nm k).take i).flatMap ch).map (fld l) ++ (ch c).map (fld l) := by
  obtain ⟨hi, e⟩ := List.getElem?_eq_some_iff.1 h
  rw [List.take_succ_eq_append_getElem hi, List.flatMap_append, List.map_append, e]
  simp
end Go.Proofs.YtcibeiehdjekiaaGreatDoor

/-! RefRight -/
namespace Go.Proofs.YtcibeiehdjekiaaGreatDoor
open Go.RowKit
set_option linter.unusedVariables false
set_option linter.unusedSimpArgs false

theorem resB_bad (l : List Int) (k : Nat) (hk : k < 3) (h : inR (fld l k) 0 1048576 = false) : resB l = false := by
  unfold resB
  match k, hk with
  | 0, _ => rw [h]; rfl
  | 1, _ => rw [h]; simp
  | 2, _ => rw [h]; simp
set_option maxRecDepth 100000 in
set_option maxHeartbeats 800000 in
theorem ref08_right (l : List Int) (hl : l.length = 3) (w : World) : Calls Tryz.prog 38 #[.agg (cellsI l)] w fun e w' => e = .returned (.bool (resB l)) ∧ Below w.heap.size w w' := by
  have HCC := Lib.hid (fun i (h : i < 3) => show (cellsI l)[i]? = some (.int .i64 (fld l i)) from cellsI_at (by omega))
  obtain ⟨C, hC⟩ : ∃ C, cellsI l = C := ⟨_, rfl⟩
  rw [hC] at HCC ⊢
  clear hC
  obtain ⟨R, hR⟩ : ∃ R, resB l = R := ⟨_, rfl⟩
  rw [hR]
  have HR := Lib.hid hR
  clear hR
  have HB := Lib.hid (Blk.new w C 23)
  have HL := Lib.hid ((Below.refl w.heap.size w).alloc (Nat.le_refl _) (.cells C 23))
  obtain ⟨W, hW⟩ : ∃ W, w.alloc (.cells C 23) = W := ⟨_, rfl⟩
  rw [hW] at HB HL
  have HW := Lib.hid hW
  clear hW
  go_enter Tryz.func38, Tryz.ntmps38
  go_upto_region 1 with fail
  rw [HW.out]
  go_wp2_with fail
  go_loopg [3] 3 (fun gg s3 wr => ∃ k : Nat, k ≤ 3 ∧ gg = 3 - k ∧ s3 = .int .i64 k ∧ W = wr ∧ Hid (∀ j, j < k → inR (fld l j) 0 1048576 = true))
  case atStart => exact ⟨0, by omega, rfl, rfl, rfl, Lib.hid (fun j h => by omega)⟩
  case round =>
    obtain ⟨k, hk, hg, rfl, rfl, HI⟩ := hrel
    have hg := hg.symm
    subst hg
    by_cases hlt : k < 3
    · have hkI : (k : Int) < 3 := by omega
      have hk0 : (0 : Int) ≤ (k : Int) := by omega
      have c0 := HB.out.cell (HCC.out k hlt)
      have hbad := resB_bad l k hlt
      rw [HR.out] at hbad
      have HBAD := Lib.hid hbad
      have HI2 := Lib.hid (fun (h : inR (fld l k) 0 1048576 = true) j (hj : j < k + 1) => show inR (fld l j) 0 1048576 = true by
        by_cases e : j = k
        · rw [e]; exact h
        · exact HI.out j (by omega))
      clear hbad
      obtain ⟨x, hx⟩ : ∃ x, fld l k = x := ⟨_, rfl⟩
      rw [hx] at c0 HBAD HI2
      clear hx
      by_cases h1 : x < 0
      · have HR2 := Lib.hid (HBAD.out (inR_no (.inl h1)))
        go_wp2_with fail
        go_ret
        exact ⟨by rw [HR2.out]; rfl, HL.out⟩
      · have h1' : 0 ≤ x := by omega
        by_cases h2 : 1048576 < x
        · have HR2 := Lib.hid (HBAD.out (inR_no (.inr h2)))
          go_wp2_with fail
          go_ret
          exact ⟨by rw [HR2.out]; rfl, HL.out⟩
        · have h2' : x ≤ 1048576 := by omega
          have HI3 := Lib.hid (HI2.out (inR_yes h1' h2'))
          go_wp2_with fail
          go_roundg (3 - (k + 1))
          case measure => omega
          case rel => exact ⟨k + 1, by omega, rfl, by go_num, rfl, HI3⟩
    · obtain rfl : k = 3 := by omega
      have HR2 : Hid (R = true) := Lib.hid (by
        rw [← HR.out]; unfold resB
        rw [HI.out 0 (by omega), HI.out 1 (by omega), HI.out 2 (by omega)]; rfl)
      go_wp2_with fail
      go_ret
      exact ⟨by rw [HR2.out]; rfl, HL.out⟩
/-- Numbers laid at places, one by one. -/
def layZ (os : List Nat) (ns : List Int) (d : List Int) : List Int := (os.zip ns).foldl (fun d p => d.set p.1 p.2) d
theorem layZ_length (os : List Nat) : ∀ (ns d : List Int), (layZ os ns d).length = d.length := by
  induction os with
  | nil => intro ns d; rfl
  | cons o r ih =>
    intro ns d
    cases ns with
    | nil => rfl
    | cons n s =>
      show (layZ r s (d.set o n)).length = _
      rw [ih, List.length_set]
theorem layZ_map (l : List Int) (os : List Nat) : ∀ d, layZ os (os.map (fld l)) d = lay l os d := by
  induction os with
  | nil => intro d; rfl
  | cons o r ih => intro d; exact ih _
theorem layZ_append (a b : List Nat) : ∀ (x y d : List Int), a.length = x.length → layZ (a ++ b) (x ++ y) d = layZ b y (layZ a x d) := by
  induction a with
  | nil =>
    intro x y d h
    have : x = [] := List.eq_nil_of_length_eq_zero h.symm
    subst this; rfl
  | cons o r ih =>
    intro x y d h
    cases x with
    | nil => simp at h
    | cons n s => exact ih s y _ (by simpa using h)
end Go.Proofs.YtcibeiehdjekiaaGreatDoor

/-! RefMade -/
namespace Go.Proofs.YtcibeiehdjekiaaGreatDoor
open Go.RowKit
set_option linter.unusedVariables false
set_option linter.unusedSimpArgs false

/-- The places of the first letters. -/
def pre (k : Int) (i : Nat) : List Nat := ((nm k).take i).flatMap ch
theorem pre_succ (k : Int) (i : Nat) (c : UInt8) (h : (nm k)[i]? = some c) : pre k (i + 1) = pre k i ++ ch c := by
  obtain ⟨hi, e⟩ := List.getElem?_eq_some_iff.1 h
  unfold pre
  rw [List.take_succ_eq_append_getElem hi, List.flatMap_append, e]
  simp
theorem pre_le (k : Int) (i : Nat) : (pre k i).length ≤ (offs k).length := by
  unfold pre
  rw [← nm_offs]
  conv => rhs; rw [← List.take_append_drop i (nm k), List.flatMap_append, List.length_append]
  omega
theorem pre_whole (k : Int) : pre k (nm k).length = offs k := by unfold pre; rw [List.take_length, nm_offs]
/-- The event behind so many letters. -/
def madeL (k : Int) (ns : List Int) (i : Nat) : List Int := layZ (pre k i) (ns.take (pre k i).length) (bare k)
theorem madeL_length (k : Int) (ns : List Int) (i : Nat) : (madeL k ns i).length = 8 := by unfold madeL; rw [layZ_length]; rfl
theorem madeL_succ (k : Int) (ns : List Int) (i : Nat) (c : UInt8) (h : (nm k)[i]? = some c) (hn : ns.length = (offs k).length) :
    madeL k ns (i + 1) = layZ (ch c) ((ns.drop (pre k i).length).take (ch c).length) (madeL k ns i) := by
  have h1 := pre_le k (i + 1)
  unfold madeL
  rw [pre_succ k i c h, List.length_append] at *
  rw [List.take_add, layZ_append]
  rw [List.length_take]; omega
theorem drop_one (ns : List Int) (q : Nat) (h : q < ns.length) : (ns.drop q).take 1 = [fld ns q] := by
  rw [List.drop_eq_getElem_cons h, List.take_succ_cons, List.take_zero]; simp [fld, h]
theorem drop_three (ns : List Int) (q : Nat) (h : q + 2 < ns.length) : (ns.drop q).take 3 = [fld ns q, fld ns (q + 1), fld ns (q + 2)] := by
  rw [List.drop_eq_getElem_cons (by omega), List.drop_eq_getElem_cons (by omega), List.drop_eq_getElem_cons (by omega), List.take_succ_cons, List.take_succ_cons, List.take_succ_cons, List.take_zero]
  have h1 : q + 1 < ns.length := by omega
  have h2 : q < ns.length := by omega
  have h3 : q + 1 + 1 < ns.length := by omega
  simp [fld, h, h1, h2, h3]
theorem cell_far3 {w : World} {g : Nat} {p : Addr} {a b c x : Value} (hc : w.cell? p = some x) (h : ¬ g = p.block) :
    (((w.setCell ⟨g, 5, none⟩ a).setCell ⟨g, 6, none⟩ b).setCell ⟨g, 7, none⟩ c).drew.cell? p = some x := by
  have h1 := (World.cell?_setCell_other w ⟨g, 5, none⟩ p a (fun e => h (by rw [← e]))).trans hc
  have h2 := (World.cell?_setCell_other (w.setCell ⟨g, 5, none⟩ a) ⟨g, 6, none⟩ p b (fun e => h (by rw [← e]))).trans h1
  exact (World.cell?_setCell_other ((w.setCell ⟨g, 5, none⟩ a).setCell ⟨g, 6, none⟩ b) ⟨g, 7, none⟩ p c (fun e => h (by rw [← e]))).trans h2
end Go.Proofs.YtcibeiehdjekiaaGreatDoor

/-! RefPure -/
namespace Go.Proofs.YtcibeiehdjekiaaGreatDoor
open Go.RowKit
set_option linter.unusedVariables false
set_option linter.unusedSimpArgs false

theorem str_inj_p {a b : List UInt8} (h : str a = str b) : a = b := by
  have := congrArg (fun x : ByteArray => x.data.toList) h
  simpa [str] using this
theorem str_empty_ne {s : ByteArray} (h : s ≠ ⟨#[]⟩) : s.toList.isEmpty = false := by
  rw [ByteArray.toList_eq]
  cases hl : s.data.toList with
  | nil => exact absurd (by apply ByteArray.ext; apply Array.ext'; exact hl) h
  | cons a r => rfl
theorem blk_set8 {w : World} {g : Nat} {a b c d e f h i : Value} {t : TypeId} (hB : Blk w g #[a, b, c, d, e, f, h, i] t) (a' b' c' d' e' f' h' i' : Value) :
    Blk ((((((((w.setCell ⟨g, 0, none⟩ a').setCell ⟨g, 1, none⟩ b').setCell ⟨g, 2, none⟩ c').setCell ⟨g, 3, none⟩ d').setCell ⟨g, 4, none⟩ e').setCell ⟨g, 5, none⟩ f').setCell ⟨g, 6, none⟩ h').setCell ⟨g, 7, none⟩ i') g #[a', b', c', d', e', f', h', i'] t := by
  have h1 := (((((((hB.set 0 a').set 1 b').set 2 c').set 3 d').set 4 e').set 5 f').set 6 h').set 7 i'
  have e : ((((((((#[a, b, c, d, e, f, h, i] : Array Value).setIfInBounds 0 a').setIfInBounds 1 b').setIfInBounds 2 c').setIfInBounds 3 d').setIfInBounds 4 e').setIfInBounds 5 f').setIfInBounds 6 h').setIfInBounds 7 i' = #[a', b', c', d', e', f', h', i'] := by simp
  rw [e] at h1
  exact h1
theorem below_set8 {B : Nat} {w0 w : World} {g : Nat} (hb : Below B w0 w) (hg : B ≤ g) (a' b' c' d' e' f' h' i' : Value) :
    Below B w0 ((((((((w.setCell ⟨g, 0, none⟩ a').setCell ⟨g, 1, none⟩ b').setCell ⟨g, 2, none⟩ c').setCell ⟨g, 3, none⟩ d').setCell ⟨g, 4, none⟩ e').setCell ⟨g, 5, none⟩ f').setCell ⟨g, 6, none⟩ h').setCell ⟨g, 7, none⟩ i') :=
  (((((((hb.setCell (p := ⟨g, 0, none⟩) hg a').setCell (p := ⟨g, 1, none⟩) hg b').setCell (p := ⟨g, 2, none⟩) hg c').setCell (p := ⟨g, 3, none⟩) hg d').setCell (p := ⟨g, 4, none⟩) hg e').setCell (p := ⟨g, 5, none⟩) hg f').setCell (p := ⟨g, 6, none⟩) hg h').setCell (p := ⟨g, 7, none⟩) hg i'
theorem made_pure (l : List Int) (h : offs (fld l 0) ≠ []) : layZ (offs (fld l 0)) (numsL l) (bare (fld l 0)) = pureL l := by
  unfold numsL pureL
  rw [if_neg h, layZ_map]
end Go.Proofs.YtcibeiehdjekiaaGreatDoor

/-! RefCheck -/
namespace Go.Proofs.YtcibeiehdjekiaaGreatDoor
open Go.RowKit
set_option linter.unusedVariables false
set_option linter.unusedSimpArgs false

/-- May what a letter names be? -/
def okC (c : UInt8) (l : List Int) : Bool :=
  if c = 78 then inR (fld l 1) 0 15 else if c = 73 then inR (fld l 3) 1 2147483647 else if c = 74 then inR (fld l 2) 1 2147483647 else if c = 80 then inR (fld l 4) 0 99 else resB [fld l 5, fld l 6, fld l 7]
theorem right_all (l : List Int) (h : offs (fld l 0) ≠ []) : rightL l = (nm (fld l 0)).all (fun c => okC c l) := by
  unfold rightL
  rcases kind_cases (fld l 0) with e | e | e | e | e | e | e | e
  all_goals first
    | exact absurd (offs_none e) h
    | (rw [e]; simp [nm, okC, Bool.and_assoc, Bool.and_comm, Bool.and_left_comm])
theorem right_bad (l : List Int) (h : offs (fld l 0) ≠ []) (i : Nat) (c : UInt8) (hc : (nm (fld l 0))[i]? = some c) (hf : okC c l = false) : checkL l = 1 := by
  have hr : rightL l = false := by
    rw [right_all l h, List.all_eq_false]
    exact ⟨c, List.mem_of_getElem? hc, by rw [hf]; simp⟩
  unfold checkL
  rw [if_neg h, if_pos (.inr hr)]
theorem right_good (l : List Int) (h : offs (fld l 0) ≠ []) (hg : ∀ j c, j < (nm (fld l 0)).length → (nm (fld l 0))[j]? = some c → okC c l = true) : checkL l = if pureL l ≠ l then 1 else 0 := by
  have hr : rightL l = true := by
    rw [right_all l h, List.all_eq_true]
    intro c hc
    obtain ⟨j, hj, rfl⟩ := List.getElem_of_mem hc
    exact hg j _ hj (List.getElem?_eq_getElem hj)
  unfold checkL
  rw [if_neg h, hr]
  simp
end Go.Proofs.YtcibeiehdjekiaaGreatDoor
