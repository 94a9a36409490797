/-
  What a message's kind names; what is pure, what may be; places and their names (reeve's layer 35): the plain part.
-/
import Derived.Test.YtanihdpgblkeaaaGreatDoorEventAll
import Derived.Test.YtanihdpgblkeaaaGreatDoorDecAll
namespace Go.Proofs.YtanihdpgblkeaaaGreatDoor
open Go.RowKit
set_option linter.unusedVariables false
set_option linter.unusedSimpArgs false

/-- What a message's kind names: the places of its numbers, in order. -/
def offsM (k : Int) : List Nat :=
  if k = 1 then [4, 6, 9, 10, 11] else if k = 2 then [3, 4, 6] else if k = 3 ∨ k = 4 then [3, 4, 5] else if k = 5 then [4, 5] else if k = 6 then [5, 7, 9, 10, 11] else if k = 7 then [5] else if k = 8 then [5, 8] else []
theorem mkind_cases (k : Int) : k = 1 ∨ k = 2 ∨ k = 3 ∨ k = 4 ∨ k = 5 ∨ k = 6 ∨ k = 7 ∨ k = 8 ∨ (k ≠ 1 ∧ k ≠ 2 ∧ k ≠ 3 ∧ k ≠ 4 ∧ k ≠ 5 ∧ k ≠ 6 ∧ k ≠ 7 ∧ k ≠ 8) := by omega
theorem offsM_none {k : Int} (h : k ≠ 1 ∧ k ≠ 2 ∧ k ≠ 3 ∧ k ≠ 4 ∧ k ≠ 5 ∧ k ≠ 6 ∧ k ≠ 7 ∧ k ≠ 8) : offsM k = [] := by
  unfold offsM
  rw [if_neg (by omega), if_neg (by omega), if_neg (by omega), if_neg (by omega), if_neg (by omega), if_neg (by omega), if_neg (by omega)]
theorem offsM_kind {k : Int} (h : offsM k ≠ []) : 1 ≤ k ∧ k ≤ 8 := by
  rcases mkind_cases k with rfl | rfl | rfl | rfl | rfl | rfl | rfl | rfl | h1
  all_goals first | decide | exact absurd (offsM_none h1) h
theorem offsM_lt (k : Int) : ∀ o ∈ offsM k, 3 ≤ o ∧ o < 12 := by
  rcases mkind_cases k with rfl | rfl | rfl | rfl | rfl | rfl | rfl | rfl | h
  all_goals first | decide | (rw [offsM_none h]; simp)
theorem offsM_length (k : Int) : (offsM k).length ≤ 5 := by
  rcases mkind_cases k with rfl | rfl | rfl | rfl | rfl | rfl | rfl | rfl | h
  all_goals first | decide | (rw [offsM_none h]; simp)
theorem offsM_nodup (k : Int) : (offsM k).Nodup := by
  rcases mkind_cases k with rfl | rfl | rfl | rfl | rfl | rfl | rfl | rfl | h
  all_goals first | decide | (rw [offsM_none h]; simp)
/-- A message of a kind and its ends, and nothing else. -/
def bare3 (k f t : Int) : List Int := [k, f, t, 0, 0, 0, 0, 0, 0, 0, 0, 0]
theorem bare3_length (k f t : Int) : (bare3 k f t).length = 12 := rfl
theorem layM12 (l : List Int) (os : List Nat) (k f t : Int) : (lay l os (bare3 k f t)).length = 12 := by rw [lay_length]; rfl
/-- A message without what its kind does not name. -/
def pureM (l : List Int) : List Int := if offsM (fld l 0) = [] then bare3 0 0 0 else lay l (offsM (fld l 0)) (bare3 (fld l 0) (fld l 1) (fld l 2))
theorem pureM_length (l : List Int) : (pureM l).length = 12 := by
  unfold pureM; split
  · rfl
  · rw [lay_length]; rfl
theorem twelve_of {l : List Int} (h : l.length = 12) : ∃ a b c d e f g i j k m n, l = [a, b, c, d, e, f, g, i, j, k, m, n] := by
  match l, h with
  | [a, b, c, d, e, f, g, i, j, k, m, n], _ => exact ⟨a, b, c, d, e, f, g, i, j, k, m, n, rfl⟩
/-- Which kind of place it is. -/
def placeI (n : Int) : Int := if 0 ≤ n ∧ n ≤ 4 then 1 else if 100 ≤ n ∧ n ≤ 115 then 2 else if n = 200 then 3 else 0
theorem place_cases (n : Int) : (placeI n = 1 ∧ 0 ≤ n ∧ n ≤ 4) ∨ (placeI n = 2 ∧ 100 ≤ n ∧ n ≤ 115) ∨ (placeI n = 3 ∧ n = 200) ∨ (placeI n = 0 ∧ ¬ (0 ≤ n ∧ n ≤ 4) ∧ ¬ (100 ≤ n ∧ n ≤ 115) ∧ n ≠ 200) := by
  unfold placeI
  by_cases h1 : 0 ≤ n ∧ n ≤ 4
  · rw [if_pos h1]; exact .inl ⟨rfl, h1⟩
  · rw [if_neg h1]
    by_cases h2 : 100 ≤ n ∧ n ≤ 115
    · rw [if_pos h2]; exact .inr (.inl ⟨rfl, h2⟩)
    · rw [if_neg h2]
      by_cases h3 : n = 200
      · rw [if_pos h3]; exact .inr (.inr (.inl ⟨rfl, h3⟩))
      · rw [if_neg h3]; exact .inr (.inr (.inr ⟨rfl, h1, h2, h3⟩))
/-- From which kind of place to which a kind goes. -/
def waysF (k : Int) : Int × Int := if k = 1 ∨ k = 5 then (2, 1) else if k = 2 ∨ k = 3 ∨ k = 4 then (1, 2) else if k = 6 ∨ k = 7 then (3, 1) else (1, 3)
/-- May a number be at a place of a message? -/
def bndM (o : Nat) (n : Int) : Bool := if o = 3 then inR n 1 4294967295 else if o = 4 ∨ o = 5 then inR n 1 2147483647 else if o = 6 then inR n 0 1099511627776 else if o = 7 then inR n 0 99 else if o = 8 then inR n 0 14 else true
/-- May what a message names be? -/
def rightM (l : List Int) : Bool := (offsM (fld l 0)).all (fun o => bndM o (fld l o)) && resB [fld l 9, fld l 10, fld l 11]
/-- The error of a message; 0: none. -/
def checkM (l : List Int) : Int := if offsM (fld l 0) = [] then 5 else if pureM l ≠ l ∨ (placeI (fld l 1), placeI (fld l 2)) ≠ waysF (fld l 0) ∨ rightM l = false then 1 else 0
theorem checkM_cases (l : List Int) : checkM l = 0 ∨ checkM l = 1 ∨ checkM l = 5 := by
  unfold checkM; split
  · simp
  · split <;> simp
theorem checkM_ok {l : List Int} (h : checkM l = 0) : offsM (fld l 0) ≠ [] ∧ pureM l = l ∧ (placeI (fld l 1), placeI (fld l 2)) = waysF (fld l 0) ∧ rightM l = true := by
  unfold checkM at h
  by_cases h1 : offsM (fld l 0) = []
  · rw [if_pos h1] at h; omega
  · rw [if_neg h1] at h
    by_cases h2 : pureM l ≠ l ∨ (placeI (fld l 1), placeI (fld l 2)) ≠ waysF (fld l 0) ∨ rightM l = false
    · rw [if_pos h2] at h; omega
    · refine ⟨h1, Classical.not_not.1 fun e => h2 (.inl e), Classical.not_not.1 fun e => h2 (.inr (.inl e)), ?_⟩
      cases hr : rightM l
      · exact absurd (.inr (.inr hr)) h2
      · rfl
theorem checkM_kind {l : List Int} (h : checkM l = 0) : 1 ≤ fld l 0 ∧ fld l 0 ≤ 8 := offsM_kind (checkM_ok h).1
/-- Pure is pure already. -/
theorem fld_bare3 (k f t : Int) (i : Nat) (h : 3 ≤ i) : fld (bare3 k f t) i = 0 := by
  unfold fld bare3
  match i, h with
  | 3, _ => rfl
  | 4, _ => rfl
  | 5, _ => rfl
  | 6, _ => rfl
  | 7, _ => rfl
  | 8, _ => rfl
  | 9, _ => rfl
  | 10, _ => rfl
  | 11, _ => rfl
  | n + 12, _ => simp
theorem pureM_kind (l : List Int) (h : offsM (fld l 0) ≠ []) : fld (pureM l) 0 = fld l 0 ∧ fld (pureM l) 1 = fld l 1 ∧ fld (pureM l) 2 = fld l 2 := by
  unfold pureM
  rw [if_neg h]
  have hn : ∀ i, i < 3 → i ∉ offsM (fld l 0) := fun i hi hm => by have := (offsM_lt _ _ hm).1; omega
  rw [fld_lay_out _ _ _ _ (hn 0 (by decide)), fld_lay_out _ _ _ _ (hn 1 (by decide)), fld_lay_out _ _ _ _ (hn 2 (by decide))]
  exact ⟨rfl, rfl, rfl⟩
/-- A place's name. -/
def nameM (n : Int) : List UInt8 := if placeI n = 1 then 114 :: Lib.itoa n else if placeI n = 2 then 119 :: Lib.itoa (n - 100) else if placeI n = 3 then [99] else []
/-- The place of a name. -/
def parseN (s : List UInt8) : Int × Bool := match (List.range 201).find? (fun n : Nat => decide (0 < placeI n) && nameM n == s) with
  | some n => ((n : Int), true)
  | none => (0, false)
theorem nameM_inj {a b : Int} (ha : 0 < placeI a) (h : nameM a = nameM b) : a = b := by
  unfold nameM at h
  rcases place_cases a with ⟨e, _⟩ | ⟨e, _⟩ | ⟨e, e2⟩ | ⟨e, _⟩ <;> rcases place_cases b with ⟨f, _⟩ | ⟨f, _⟩ | ⟨f, f2⟩ | ⟨f, _⟩ <;> rw [e, f] at h
  all_goals first | omega | skip
  · simp at h; exact itoa_inj h
  all_goals first | (simp at h; done) | skip
  · simp at h; have := itoa_inj h; omega
theorem parseN_name (n : Int) (h : 0 < placeI n) : parseN (nameM n) = (n, true) := by
  have hb : 0 ≤ n ∧ n ≤ 200 := by rcases place_cases n with h1 | h1 | h1 | h1 <;> omega
  obtain ⟨m, rfl⟩ : ∃ m : Nat, n = m := ⟨n.toNat, by omega⟩
  unfold parseN
  cases hf : (List.range 201).find? (fun k : Nat => decide (0 < placeI k) && nameM k == nameM (m : Int)) with
  | none =>
    have := List.find?_eq_none.1 hf m (by rw [List.mem_range]; omega)
    simp [h] at this
  | some k =>
    have := List.find?_some hf
    simp at this
    have e := nameM_inj this.1 this.2
    show ((k : Int), true) = _
    rw [e]
theorem parseN_none (s : List UInt8) (h : ∀ n : Int, 0 < placeI n → nameM n ≠ s) : parseN s = (0, false) := by
  unfold parseN
  cases hf : (List.range 201).find? (fun k : Nat => decide (0 < placeI k) && nameM k == s) with
  | none => rfl
  | some k =>
    have := List.find?_some hf
    simp at this
    exact absurd this.2 (h k this.1)
/-- A name that is none's, or one's: what its place is. -/
theorem parseN_cases (s : List UInt8) : (∃ n : Int, 0 < placeI n ∧ nameM n = s ∧ parseN s = (n, true)) ∨ ((∀ n : Int, 0 < placeI n → nameM n ≠ s) ∧ parseN s = (0, false)) := by
  by_cases h : ∃ n : Int, 0 < placeI n ∧ nameM n = s
  · obtain ⟨n, h1, h2⟩ := h
    exact .inl ⟨n, h1, h2, by rw [← h2]; exact parseN_name n h1⟩
  · have h2 : ∀ n : Int, 0 < placeI n → nameM n ≠ s := fun n h1 h2 => h ⟨n, h1, h2⟩
    exact .inr ⟨h2, parseN_none s h2⟩
theorem info_msg (l : List Int) (h : l.length = 12) : (Tryz.prog.info? 25).map (·.size) = some (cellsI l).size := by
  rw [cellsI_size, h]; kernel_rfl
theorem eqF_step {P : Program} (d : Nat) (xs ys : Array Value) (f : Field) (fs : List Field) (w : World) (x y : Value) (r : Bool) (hn : f.name ≠ "_") (hx : (part f.type xs f.offset).run P w = .ok x w) (hy : (part f.type ys f.offset).run P w = .ok y w) (he : (Op.equalIn d f.type x y).run P w = .ok r w) : (Op.eqFields d xs ys (f :: fs)).run P w = if r = true then (Op.eqFields d xs ys fs).run P w else .ok false w := by
  rw [Op.eqFields, if_pos hn]
  simp only [Sem.run_bind, hx, hy, he, Result.andThen_ok, Sem.run_ite]
  cases r <;> simp
set_option maxRecDepth 100000 in
theorem eqIn_msg (a b : List Int) (ha : a.length = 12) (hb : b.length = 12) (d : Nat) (w : World) :
    (Op.equalIn (d + 3) 25 (.agg (cellsI a)) (.agg (cellsI b))).run Tryz.prog w = .ok (decide (a = b)) w := by
  obtain ⟨a0, a1, a2, a3, a4, a5, a6, a7, a8, a9, a10, a11, rfl⟩ := twelve_of ha
  obtain ⟨b0, b1, b2, b3, b4, b5, b6, b7, b8, b9, b10, b11, rfl⟩ := twelve_of hb
  rw [run_equalIn_agg w (d + 2) _ _ _ (by kernel_rfl) (by kernel_rfl)]
  have he : ∀ (a b : Int) (w : World), (Op.equalIn (d + 2) 3 (.int .i64 a) (.int .i64 b)).run Tryz.prog w = .ok (a == b) w := fun a b w => run_equalIn_int w (d + 1) _ _ _ a b Tryz.underlying3
  have hf : (Tryz.prog.fieldsOf 25).toList.map (fun f => (f.name, f.type, f.offset)) = [("Kind", 3, 0), ("From", 3, 1), ("To", 3, 2), ("Epoch", 3, 3), ("Inc", 3, 4), ("Job", 3, 5), ("Tick", 3, 6), ("Prio", 3, 7), ("Code", 3, 8), ("Res", 23, 9)] := by kernel_rfl
  generalize (Tryz.prog.fieldsOf 25).toList = fs at hf
  have hlen := congrArg List.length hf
  rw [List.length_map] at hlen
  match fs, hlen with
  | [f0, f1, f2, f3, f4, f5, f6, f7, f8, f9], _ =>
    simp only [List.map_cons, List.map_nil, List.cons.injEq, Prod.mk.injEq, and_true] at hf
    obtain ⟨⟨n0, t0, o0⟩, ⟨n1, t1, o1⟩, ⟨n2, t2, o2⟩, ⟨n3, t3, o3⟩, ⟨n4, t4, o4⟩, ⟨n5, t5, o5⟩, ⟨n6, t6, o6⟩, ⟨n7, t7, o7⟩, ⟨n8, t8, o8⟩, ⟨n9, t9, o9⟩⟩ := hf
    have p : ∀ (x0 x1 x2 x3 x4 x5 x6 x7 x8 x9 x10 x11 : Value) (w : World), (part 3 #[x0, x1, x2, x3, x4, x5, x6, x7, x8, x9, x10, x11] 0).run Tryz.prog w = .ok x0 w ∧ (part 3 #[x0, x1, x2, x3, x4, x5, x6, x7, x8, x9, x10, x11] 1).run Tryz.prog w = .ok x1 w ∧ (part 3 #[x0, x1, x2, x3, x4, x5, x6, x7, x8, x9, x10, x11] 2).run Tryz.prog w = .ok x2 w ∧ (part 3 #[x0, x1, x2, x3, x4, x5, x6, x7, x8, x9, x10, x11] 3).run Tryz.prog w = .ok x3 w ∧ (part 3 #[x0, x1, x2, x3, x4, x5, x6, x7, x8, x9, x10, x11] 4).run Tryz.prog w = .ok x4 w ∧ (part 3 #[x0, x1, x2, x3, x4, x5, x6, x7, x8, x9, x10, x11] 5).run Tryz.prog w = .ok x5 w ∧ (part 3 #[x0, x1, x2, x3, x4, x5, x6, x7, x8, x9, x10, x11] 6).run Tryz.prog w = .ok x6 w ∧ (part 3 #[x0, x1, x2, x3, x4, x5, x6, x7, x8, x9, x10, x11] 7).run Tryz.prog w = .ok x7 w ∧ (part 3 #[x0, x1, x2, x3, x4, x5, x6, x7, x8, x9, x10, x11] 8).run Tryz.prog w = .ok x8 w ∧ (part 23 #[x0, x1, x2, x3, x4, x5, x6, x7, x8, x9, x10, x11] 9).run Tryz.prog w = .ok (.agg #[x9, x10, x11]) w := fun _ _ _ _ _ _ _ _ _ _ _ _ _ => ⟨by kernel_rfl, by kernel_rfl, by kernel_rfl, by kernel_rfl, by kernel_rfl, by kernel_rfl, by kernel_rfl, by kernel_rfl, by kernel_rfl, by kernel_rfl⟩
    have p0 := fun x0 x1 x2 x3 x4 x5 x6 x7 x8 x9 x10 x11 w => (p x0 x1 x2 x3 x4 x5 x6 x7 x8 x9 x10 x11 w).1
    have p1 := fun x0 x1 x2 x3 x4 x5 x6 x7 x8 x9 x10 x11 w => (p x0 x1 x2 x3 x4 x5 x6 x7 x8 x9 x10 x11 w).2.1
    have p2 := fun x0 x1 x2 x3 x4 x5 x6 x7 x8 x9 x10 x11 w => (p x0 x1 x2 x3 x4 x5 x6 x7 x8 x9 x10 x11 w).2.2.1
    have p3 := fun x0 x1 x2 x3 x4 x5 x6 x7 x8 x9 x10 x11 w => (p x0 x1 x2 x3 x4 x5 x6 x7 x8 x9 x10 x11 w).2.2.2.1
    have p4 := fun x0 x1 x2 x3 x4 x5 x6 x7 x8 x9 x10 x11 w => (p x0 x1 x2 x3 x4 x5 x6 x7 x8 x9 x10 x11 w).2.2.2.2.1
    have p5 := fun x0 x1 x2 x3 x4 x5 x6 x7 x8 x9 x10 x11 w => (p x0 x1 x2 x3 x4 x5 x6 x7 x8 x9 x10 x11 w).2.2.2.2.2.1
    have p6 := fun x0 x1 x2 x3 x4 x5 x6 x7 x8 x9 x10 x11 w => (p x0 x1 x2 x3 x4 x5 x6 x7 x8 x9 x10 x11 w).2.2.2.2.2.2.1
    have p7 := fun x0 x1 x2 x3 x4 x5 x6 x7 x8 x9 x10 x11 w => (p x0 x1 x2 x3 x4 x5 x6 x7 x8 x9 x10 x11 w).2.2.2.2.2.2.2.1
    have p8 := fun x0 x1 x2 x3 x4 x5 x6 x7 x8 x9 x10 x11 w => (p x0 x1 x2 x3 x4 x5 x6 x7 x8 x9 x10 x11 w).2.2.2.2.2.2.2.2.1
    have p9 := fun x0 x1 x2 x3 x4 x5 x6 x7 x8 x9 x10 x11 w => (p x0 x1 x2 x3 x4 x5 x6 x7 x8 x9 x10 x11 w).2.2.2.2.2.2.2.2.2
    rw [eqF_step (d + 2) _ _ f0 _ w (.int .i64 a0) (.int .i64 b0) (a0 == b0) (by rw [n0]; decide) (by rw [t0, o0]; exact p0 _ _ _ _ _ _ _ _ _ _ _ _ _) (by rw [t0, o0]; exact p0 _ _ _ _ _ _ _ _ _ _ _ _ _) (by rw [t0]; exact he _ _ _)]
    rw [eqF_step (d + 2) _ _ f1 _ w (.int .i64 a1) (.int .i64 b1) (a1 == b1) (by rw [n1]; decide) (by rw [t1, o1]; exact p1 _ _ _ _ _ _ _ _ _ _ _ _ _) (by rw [t1, o1]; exact p1 _ _ _ _ _ _ _ _ _ _ _ _ _) (by rw [t1]; exact he _ _ _)]
    rw [eqF_step (d + 2) _ _ f2 _ w (.int .i64 a2) (.int .i64 b2) (a2 == b2) (by rw [n2]; decide) (by rw [t2, o2]; exact p2 _ _ _ _ _ _ _ _ _ _ _ _ _) (by rw [t2, o2]; exact p2 _ _ _ _ _ _ _ _ _ _ _ _ _) (by rw [t2]; exact he _ _ _)]
    rw [eqF_step (d + 2) _ _ f3 _ w (.int .i64 a3) (.int .i64 b3) (a3 == b3) (by rw [n3]; decide) (by rw [t3, o3]; exact p3 _ _ _ _ _ _ _ _ _ _ _ _ _) (by rw [t3, o3]; exact p3 _ _ _ _ _ _ _ _ _ _ _ _ _) (by rw [t3]; exact he _ _ _)]
    rw [eqF_step (d + 2) _ _ f4 _ w (.int .i64 a4) (.int .i64 b4) (a4 == b4) (by rw [n4]; decide) (by rw [t4, o4]; exact p4 _ _ _ _ _ _ _ _ _ _ _ _ _) (by rw [t4, o4]; exact p4 _ _ _ _ _ _ _ _ _ _ _ _ _) (by rw [t4]; exact he _ _ _)]
    rw [eqF_step (d + 2) _ _ f5 _ w (.int .i64 a5) (.int .i64 b5) (a5 == b5) (by rw [n5]; decide) (by rw [t5, o5]; exact p5 _ _ _ _ _ _ _ _ _ _ _ _ _) (by rw [t5, o5]; exact p5 _ _ _ _ _ _ _ _ _ _ _ _ _) (by rw [t5]; exact he _ _ _)]
    rw [eqF_step (d + 2) _ _ f6 _ w (.int .i64 a6) (.int .i64 b6) (a6 == b6) (by rw [n6]; decide) (by rw [t6, o6]; exact p6 _ _ _ _ _ _ _ _ _ _ _ _ _) (by rw [t6, o6]; exact p6 _ _ _ _ _ _ _ _ _ _ _ _ _) (by rw [t6]; exact he _ _ _)]
    rw [eqF_step (d + 2) _ _ f7 _ w (.int .i64 a7) (.int .i64 b7) (a7 == b7) (by rw [n7]; decide) (by rw [t7, o7]; exact p7 _ _ _ _ _ _ _ _ _ _ _ _ _) (by rw [t7, o7]; exact p7 _ _ _ _ _ _ _ _ _ _ _ _ _) (by rw [t7]; exact he _ _ _)]
    rw [eqF_step (d + 2) _ _ f8 _ w (.int .i64 a8) (.int .i64 b8) (a8 == b8) (by rw [n8]; decide) (by rw [t8, o8]; exact p8 _ _ _ _ _ _ _ _ _ _ _ _ _) (by rw [t8, o8]; exact p8 _ _ _ _ _ _ _ _ _ _ _ _ _) (by rw [t8]; exact he _ _ _)]
    rw [eqF_step (d + 2) _ _ f9 _ w (.agg #[.int .i64 a9, .int .i64 a10, .int .i64 a11]) (.agg #[.int .i64 b9, .int .i64 b10, .int .i64 b11]) (a9 == b9 && (a10 == b10 && a11 == b11)) (by rw [n9]; decide) (by rw [t9, o9]; exact p9 _ _ _ _ _ _ _ _ _ _ _ _ _) (by rw [t9, o9]; exact p9 _ _ _ _ _ _ _ _ _ _ _ _ _) (by rw [t9]; exact run_eqIn_res d a9 a10 a11 b9 b10 b11 w)]
    have hnil : (Op.eqFields (d + 2) (cellsI [a0, a1, a2, a3, a4, a5, a6, a7, a8, a9, a10, a11]) (cellsI [b0, b1, b2, b3, b4, b5, b6, b7, b8, b9, b10, b11]) []).run Tryz.prog w = .ok true w := rfl
    rw [hnil]
    by_cases e0 : a0 = b0
    rotate_left
    · simp [e0]
    by_cases e1 : a1 = b1
    rotate_left
    · simp [e1]
    by_cases e2 : a2 = b2
    rotate_left
    · simp [e2]
    by_cases e3 : a3 = b3
    rotate_left
    · simp [e3]
    by_cases e4 : a4 = b4
    rotate_left
    · simp [e4]
    by_cases e5 : a5 = b5
    rotate_left
    · simp [e5]
    by_cases e6 : a6 = b6
    rotate_left
    · simp [e6]
    by_cases e7 : a7 = b7
    rotate_left
    · simp [e7]
    by_cases e8 : a8 = b8
    rotate_left
    · simp [e8]
    by_cases e9 : a9 = b9 <;> by_cases e10 : a10 = b10 <;> by_cases e11 : a11 = b11 <;> simp [e0, e1, e2, e3, e4, e5, e6, e7, e8, e9, e10, e11]
theorem eql_msg (a b : List Int) (ha : a.length = 12) (hb : b.length = 12) (w : World) :
    (binOp .eql 25 (.agg (cellsI a)) (.agg (cellsI b))).run Tryz.prog w = .ok (.bool (decide (a = b))) w := by
  rw [run_eql_struct, eqIn_msg a b ha hb 9997 w]; rfl
theorem neq_msg (a b : List Int) (ha : a.length = 12) (hb : b.length = 12) (w : World) :
    (binOp .neq 25 (.agg (cellsI a)) (.agg (cellsI b))).run Tryz.prog w = .ok (.bool (!decide (a = b))) w := by
  rw [run_neq_struct, eqIn_msg a b ha hb 9997 w]; rfl
end Go.Proofs.YtanihdpgblkeaaaGreatDoor
