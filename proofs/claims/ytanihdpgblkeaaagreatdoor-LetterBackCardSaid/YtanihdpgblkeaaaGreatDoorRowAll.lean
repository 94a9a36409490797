/-
  RowMath, RowLine, RowParse, RowRef in one text.
-/
import Derived.Test.YtanihdpgblkeaaaGreatDoorWordsAll
import Derived.Test.YtanihdpgblkeaaaGreatDoorDecAll
import Derived.Laws.OwnMore
import Derived.BigQuiet
/-! RowMath -/
namespace Go.Proofs.YtanihdpgblkeaaaGreatDoor
open Go.RowKit
set_option linter.unusedVariables false
set_option linter.unusedSimpArgs false

/-- The parts behind a row's word: one for each name that has a number. -/
def rowP : List (List UInt8) → List Int → List (List UInt8)
  | a :: r, n :: ns => (a ++ [61] ++ Lib.itoa n) :: rowP r ns
  | _, _ => []
theorem rowP_length (a : List (List UInt8)) : ∀ b : List Int, (rowP a b).length = min a.length b.length := by
  induction a with
  | nil => intro b; simp [rowP]
  | cons x r ih =>
    intro b
    cases b with
    | nil => simp [rowP]
    | cons n ns => simp only [rowP, List.length_cons, ih]; omega
theorem rowP_at (a : List (List UInt8)) : ∀ (b : List Int) (i : Nat) (x : List UInt8) (n : Int), a[i]? = some x → b[i]? = some n → (rowP a b)[i]? = some (x ++ [61] ++ Lib.itoa n) := by
  induction a with
  | nil => intro b i x n h; simp at h
  | cons y r ih =>
    intro b i x n h1 h2
    cases b with
    | nil => simp at h2
    | cons m ns =>
      cases i with
      | zero => simp at h1 h2; subst h1; subst h2; simp [rowP]
      | succ i => simp only [rowP, List.getElem?_cons_succ] at h1 h2 ⊢; exact ih ns i x n h1 h2
theorem rowP_take (a : List (List UInt8)) : ∀ b : List Int, rowP a (b.take a.length) = rowP a b := by
  induction a with
  | nil => intro b; simp [rowP]
  | cons y r ih =>
    intro b
    cases b with
    | nil => simp
    | cons m ns => simp only [List.length_cons, List.take_succ_cons, rowP, ih]
/-- The number of a part with a name. -/
def partV (part name : List UInt8) : Option Int := if (name ++ [61]).isPrefixOf part then decV (part.drop (name.length + 1)) else none
/-- All, if each is there. -/
def allO : List (Option Int) → Option (List Int)
  | [] => some []
  | some n :: r => match allO r with
    | some ns => some (n :: ns)
    | none => none
  | none :: r => none
theorem allO_snoc (l : List (Option Int)) (n : Int) (ns : List Int) (h : allO l = some ns) : allO (l ++ [some n]) = some (ns ++ [n]) := by
  induction l generalizing ns with
  | nil => simp [allO] at h; subst h; rfl
  | cons x r ih =>
    cases x with
    | none => simp [allO] at h
    | some m =>
      simp only [allO] at h
      cases hr : allO r with
      | none => rw [hr] at h; cases h
      | some ms =>
        rw [hr] at h
        injection h with h
        subst h
        simp only [List.cons_append, allO, ih ms hr]
theorem allO_bad (l : List (Option Int)) (i : Nat) (h : l[i]? = some none) : allO l = none := by
  induction l generalizing i with
  | nil => simp at h
  | cons x r ih =>
    cases i with
    | zero => simp at h; subst h; rfl
    | succ i =>
      rw [List.getElem?_cons_succ] at h
      cases x with
      | none => rfl
      | some m => simp only [allO, ih i h]
theorem allO_length (l : List (Option Int)) (ns : List Int) (h : allO l = some ns) : ns.length = l.length := by
  induction l generalizing ns with
  | nil => simp [allO] at h; subst h; rfl
  | cons x r ih =>
    cases x with
    | none => simp [allO] at h
    | some m =>
      simp only [allO] at h
      cases hr : allO r with
      | none => rw [hr] at h; cases h
      | some ms =>
        rw [hr] at h
        injection h with h
        subst h
        simp [ih ms hr]
/-- The numbers of a row's words, and the error. -/
def rowR (ws : List (List UInt8)) (word : List UInt8) (names : List (List UInt8)) : List Int × Int :=
  if ws.length = names.length + 1 ∧ ws[0]? = some word then match allO (List.zipWith partV ws.tail names) with
    | some ns => (ns, 0)
    | none => ([], 2)
  else ([], 2)
/-- The first word of a line. -/
def wordR (ws : List (List UInt8)) : List UInt8 := ws.headD []
def rowL (word : List UInt8) (names : List (List UInt8)) (ns : List Int) : List UInt8 := Lib.join (word :: rowP names ns) [32]

/-! ### Rows come back -/
theorem refW_tail0 (r : List (List UInt8)) (h : ∀ y ∈ r, y ≠ [] ∧ ∀ c ∈ y, c ≠ 35 ∧ isB c = false) : ∀ w, w ≠ [] → refW w (Lib.joinTail [32] r) = w :: r := by
  induction r with
  | nil =>
    intro w hw
    show refW w [] = [w]
    simp [refW, hw]
  | cons y r ih =>
    intro w hw
    obtain ⟨h1, h2⟩ := h y (by simp)
    have e : Lib.joinTail [32] (y :: r) = 32 :: (y ++ Lib.joinTail [32] r) := by simp [Lib.joinTail]
    rw [e]
    unfold refW
    rw [if_neg (by decide), if_pos (by decide), if_neg hw, refW_word y h2, List.nil_append, ih (fun z hz => h z (by simp [hz])) y h1]
theorem words_join0 (x : List UInt8) (r : List (List UInt8)) (h : ∀ y ∈ x :: r, y ≠ [] ∧ ∀ c ∈ y, c ≠ 35 ∧ isB c = false) : wordsL (Lib.join (x :: r) [32]) = x :: r := by
  unfold wordsL
  obtain ⟨h1, h2⟩ := h x (by simp)
  rw [Lib.join_cons, refW_word x h2, List.nil_append]
  exact refW_tail0 r (fun y hy => h y (by simp [hy])) x h1
/-- Which bytes a word may have. -/
def plainB (c : UInt8) : Prop := c ≠ 32 ∧ c ≠ 9 ∧ c ≠ 35
theorem plainB_ok {c : UInt8} (h : plainB c) : c ≠ 35 ∧ isB c = false := by
  obtain ⟨h1, h2, h3⟩ := h
  refine ⟨h3, ?_⟩
  simp [isB, h1, h2]
theorem itoa_plain (n : Int) : ∀ c ∈ Lib.itoa n, plainB c := by
  intro c hc
  obtain ⟨i, hi, e⟩ := List.getElem_of_mem hc
  have h := itoa_at n i c (by rw [List.getElem?_eq_getElem hi, e])
  rcases h with ⟨_, rfl⟩ | h
  · exact ⟨by decide, by decide, by decide⟩
  · rw [isD_iff] at h
    refine ⟨?_, ?_, ?_⟩ <;> (rintro rfl; revert h; decide)
theorem rowP_plain (names : List (List UInt8)) (hn : ∀ a ∈ names, ∀ c ∈ a, plainB c) : ∀ ns : List Int, ∀ y ∈ rowP names ns, y ≠ [] ∧ ∀ c ∈ y, c ≠ 35 ∧ isB c = false := by
  induction names with
  | nil => intro ns y hy; simp [rowP] at hy
  | cons a r ih =>
    intro ns y hy
    cases ns with
    | nil => simp [rowP] at hy
    | cons n ns =>
      simp only [rowP, List.mem_cons] at hy
      rcases hy with rfl | hy
      · refine ⟨by simp, fun c hc => ?_⟩
        rw [List.mem_append, List.mem_append] at hc
        rcases hc with (hc | hc) | hc
        · exact plainB_ok (hn a (by simp) c hc)
        · simp at hc; subst hc; exact ⟨by decide, by decide⟩
        · exact plainB_ok (itoa_plain n c hc)
      · exact ih (fun a ha => hn a (by simp [ha])) ns y hy
theorem row_words (word : List UInt8) (names : List (List UInt8)) (ns : List Int) (hw : word ≠ []) (hw2 : ∀ c ∈ word, plainB c) (hn : ∀ a ∈ names, ∀ c ∈ a, plainB c) : wordsL (rowL word names ns) = word :: rowP names ns := by
  refine words_join0 word _ (fun y hy => ?_)
  rw [List.mem_cons] at hy
  rcases hy with rfl | hy
  · exact ⟨hw, fun c hc => plainB_ok (hw2 c hc)⟩
  · exact rowP_plain names hn ns y hy
theorem partV_row (a : List UInt8) (n : Int) (h : inI n) : partV (a ++ [61] ++ Lib.itoa n) a = some n := by
  unfold partV
  rw [if_pos (by rw [List.isPrefixOf_iff_prefix]; exact List.prefix_append _ _)]
  rw [show a.length + 1 = (a ++ [61]).length by simp, List.drop_left']
  · exact decV_itoa n h
  · rfl
theorem parts_row (names : List (List UInt8)) : ∀ ns : List Int, names.length ≤ ns.length → (∀ n ∈ ns, inI n) → allO (List.zipWith partV (rowP names ns) names) = some (ns.take names.length) := by
  induction names with
  | nil => intro ns _ _; simp [rowP, allO]
  | cons a r ih =>
    intro ns hl hi
    cases ns with
    | nil => simp at hl
    | cons n ns =>
      simp only [List.length_cons] at hl
      simp only [rowP, List.zipWith_cons_cons, partV_row a n (hi n (by simp)), allO, ih ns (by omega) (fun m hm => hi m (by simp [hm])), List.length_cons, List.take_succ_cons]
/-- A row's words tell the numbers again. -/
theorem row_back (word : List UInt8) (names : List (List UInt8)) (ns : List Int) (hl : names.length ≤ ns.length) (hi : ∀ n ∈ ns, inI n) : rowR (word :: rowP names ns) word names = (ns.take names.length, 0) := by
  unfold rowR
  rw [if_pos ⟨by rw [List.length_cons, rowP_length]; omega, rfl⟩, List.tail_cons, parts_row names ns hl hi]
theorem rowL_take (word : List UInt8) (names : List (List UInt8)) (ns : List Int) : rowL word names (ns.take names.length) = rowL word names ns := by
  unfold rowL; rw [rowP_take]
theorem rowP_len (names : List (List UInt8)) (hn : ∀ a ∈ names, a.length ≤ 60) : ∀ ns : List Int, (∀ n ∈ ns, inI n) → ∀ y ∈ rowP names ns, y.length ≤ 100 := by
  induction names with
  | nil => intro ns _ y hy; simp [rowP] at hy
  | cons a r ih =>
    intro ns hi y hy
    cases ns with
    | nil => simp [rowP] at hy
    | cons n ns =>
      simp only [rowP, List.mem_cons] at hy
      rcases hy with rfl | hy
      · have h1 := hn a (by simp)
        have h2 := itoa_len n (hi n (by simp))
        simp only [List.length_append, List.length_cons, List.length_nil]; omega
      · exact ih (fun a ha => hn a (by simp [ha])) ns (fun m hm => hi m (by simp [hm])) y hy
end Go.Proofs.YtanihdpgblkeaaaGreatDoor

/-! RowLine -/
namespace Go.Proofs.YtanihdpgblkeaaaGreatDoor
open Go.RowKit
set_option linter.unusedVariables false
set_option linter.unusedSimpArgs false

theorem rowL_take_at {a : List (List UInt8)} {b : List Int} {i : Nat} {x : List UInt8} {n : Int} (word : List UInt8) (h1 : a[i]? = some x) (h2 : b[i]? = some n) : word :: (rowP a b).take (i + 1) = word :: (rowP a b).take i ++ [x ++ [61] ++ Lib.itoa n] := by
  rw [takeL_at_ (rowP_at a b i x n h1 h2)]; rfl
theorem ownS_lit (w : World) (B : Nat) (hB : B ≤ w.heap.size) (b : ByteArray) : OwnS B (w.alloc (.cells #[.string b] 9)) (.slice (some ⟨w.heap.size, 0, none⟩) 1 1) [b] :=
  World.ownsRow_lit w #[.string b] 1 hB (by decide) rfl
theorem str_part (xb tb : ByteArray) (X T : List UInt8) (h1 : strL X = xb) (h2 : strL T = tb) : xb ++ ⟨#[61]⟩ ++ tb = strL (X ++ [61] ++ T) := by
  rw [strL_app, strL_app, h1, h2]; rfl
set_option maxRecDepth 100000 in
set_option maxHeartbeats 3200000 in
theorem row_line (word : List UInt8) (vn vi : Value) (names : List (List UInt8)) (ns : List Int) (w : World) (hn : RowS w vn (names.map strL)) (hi : RowN w vi ns) (hw1 : word.length ≤ 100) (hn1 : names.length ≤ 1000) (hn2 : ∀ y ∈ names, y.length ≤ 60) (hi1 : ns.length ≤ 9223372036854775807) (hi2 : ∀ n ∈ ns, inI n) (hL : Laid w) :
    Calls Tryz.prog 32 #[.string (strL word), vn, vi] w fun e w' => e = .returned (.string (strL (rowL word names ns))) ∧ Below w.heap.size w w' := by
  obtain ⟨i0, hi0, hz, hsize, hby⟩ : ∃ i, Tryz.prog.info? 9 = some i ∧ i.zero = some (.string ⟨#[]⟩) ∧ i.size = 1 ∧ i.bytes = 16 := ⟨_, rfl, rfl, rfl, rfl⟩
  have HI := Lib.hid hi0
  clear hi0
  obtain ⟨pn, cn, rfl⟩ := hn.len
  obtain ⟨pi, ci, rfl⟩ := hi.len
  rw [List.length_map] at hn ⊢
  obtain ⟨N, hN⟩ : ∃ N, names.length = N := ⟨_, rfl⟩
  obtain ⟨M, hM⟩ : ∃ M, ns.length = M := ⟨_, rfl⟩
  have hpl : (rowP names ns).length = min N M := by rw [rowP_length, hN, hM]
  rw [hN] at hn hn1 ⊢
  rw [hM] at hi hi1 ⊢
  have HPN := Lib.hid (rowS_pick_ hn hN)
  have HPI := Lib.hid (rowN_pick hi hM)
  have HNS := Lib.hid hi2
  have HNL := Lib.hid hn2
  have HPL := Lib.hid hpl
  have HJL : Hid ((Lib.join (word :: rowP names ns) [32]).length ≤ 100000000) := Lib.hid (by
    have h1 := join_le (word :: rowP names ns) (by
      intro y hy
      rw [List.mem_cons] at hy
      rcases hy with rfl | hy
      · exact hw1
      · exact rowP_len names hn2 ns hi2 y hy)
    rw [List.length_cons, hpl] at h1
    omega)
  obtain ⟨RL, hRL⟩ : ∃ RL, strL (rowL word names ns) = RL := ⟨_, rfl⟩
  have HRL := Lib.hid hRL
  rw [hRL]
  obtain ⟨wb, hwb⟩ : ∃ wb, strL word = wb := ⟨_, rfl⟩
  have HWB := Lib.hid hwb
  rw [hwb]
  have LL := Lib.hid hL
  obtain ⟨Q, hQ⟩ : ∃ Q, min N M = Q := ⟨_, rfl⟩
  have hQN : Q ≤ N := by omega
  have hQM : Q ≤ M := by omega
  have HQ := Lib.hid hQ
  have hQ2 : Q = N ∨ Q = M := by omega
  clear hn hi hn2 hi2 hpl hRL hwb hN hM hQ hL
  go_enter Tryz.func32, Tryz.ntmps32
  have hmin : min (N : Int) (M : Int) = (Q : Int) := by have := HQ.out; omega
  go_upto_region 2 with fail
  have HO0 := Lib.hid (ownS_lit w w.heap.size (Nat.le_refl _) wb)
  have HB0 : Hid (Below w.heap.size w (w.alloc (.cells #[.string wb] 9))) := Lib.hid ((Below.refl _ _).alloc (Nat.le_refl _) _)
  obtain ⟨W0, hW0⟩ : ∃ W0, w.alloc (.cells #[.string wb] 9) = W0 := ⟨_, rfl⟩
  rw [hW0] at HO0 HB0 ⊢
  clear hW0
  go_cut [15, 16] (fun v15 v16 wx => v15 = .int .i64 Q ∧ v16 = .int .i64 0 ∧ wx = W0)
  case first =>
    rcases Nat.lt_or_ge N M with h | h
    · have hI : (N : Int) < (M : Int) := by omega
      obtain rfl : Q = N := by have := HQ.out; omega
      go_wp2_with fail
      go_meet
      exact ⟨rfl, rfl, rfl⟩
    · have hI : (M : Int) ≤ (N : Int) := by omega
      obtain rfl : Q = M := by have := HQ.out; omega
      go_wp2_with fail
      go_meet
      exact ⟨rfl, rfl, rfl⟩
  case rest =>
  obtain ⟨rfl, rfl, rfl⟩ := hcut
  go_wp2_with fail
  go_loopg [7, 16] Q (fun g v i wr => ∃ (k : Nat) (l : List (List UInt8)), k ≤ Q ∧ g = Q - k ∧ i = .int .i64 k ∧ l.length = k + 1 ∧ OwnS w.heap.size wr v (l.map strL) ∧ Below w.heap.size w wr ∧ Hid (l = word :: (rowP names ns).take k))
  case atStart => exact ⟨0, [word], Nat.zero_le _, rfl, rfl, rfl, by rw [← HWB.out] at HO0; exact HO0.out, HB0.out, Lib.hid rfl⟩
  case round =>
    obtain ⟨k, l, hk, hg, rfl, hll, hown, hbl, HA⟩ := hrel
    have hg := hg.symm
    subst hg
    have HO := Lib.hid hown
    have HB := Lib.hid hbl
    clear hown hbl HO0 HB0
    by_cases hlt : k < Q
    · obtain ⟨bn, on, cp, X, e1, hX, n0, hbn⟩ := HPN.out k (by omega)
      cases e1
      obtain ⟨bi, oi, cp, x, e1, hx, m0, hbi⟩ := HPI.out k (by omega)
      cases e1
      have n1 := keepB HB.out n0 hbn
      have m1 := keepB HB.out m0 hbi
      have hkQ : (k : Int) < (Q : Int) := by omega
      have hkN : (k : Int) < (N : Int) := by omega
      have hkM : (k : Int) < (M : Int) := by omega
      have hk0 : (0 : Int) ≤ (k : Int) := by omega
      have LR := Lib.hid (LL.out.below HB.out)
      have TX := Lib.hid (fun w h => dec_text x (HNS.out x (List.mem_of_getElem? hx)) w h)
      have hXl := HNL.out X (List.mem_of_getElem? hX)
      have hTl := itoa_len x (HNS.out x (List.mem_of_getElem? hx))
      have HA2 : Hid (l ++ [X ++ [61] ++ Lib.itoa x] = word :: (rowP names ns).take (k + 1)) := Lib.hid (by rw [rowL_take_at word hX hx, ← HA.out])
      obtain ⟨T, hT⟩ : ∃ T, Lib.itoa x = T := ⟨_, rfl⟩
      rw [hT] at TX HA2 hTl
      obtain ⟨xb, hxb⟩ : ∃ xb, strL X = xb := ⟨_, rfl⟩
      obtain ⟨tb, htb⟩ : ∃ tb, strL T = tb := ⟨_, rfl⟩
      have HP : Hid (xb ++ ⟨#[61]⟩ ++ tb = strL (X ++ [61] ++ T)) := Lib.hid (str_part xb tb X T hxb htb)
      rw [hxb] at n0 n1
      rw [htb] at TX
      have hs1 : xb.size ≤ 60 := by rw [← hxb, strL_size]; exact hXl
      have hs2 : tb.size ≤ 20 := by rw [← htb, strL_size]; exact hTl
      clear hX hx HA hT hxb htb hXl hTl
      have hq1 : ¬ (9223372036854775807 < xb.size + 1) := by omega
      have hq2 : ¬ (9223372036854775807 < xb.size + 1 + tb.size) := by omega
      have hq3 : ¬ (9223372036854775807 < (xb ++ ⟨#[61]⟩).size + tb.size) := by rw [ByteArray.size_append]; show ¬ (9223372036854775807 < xb.size + 1 + tb.size); omega
      go_upto_region 5 with fail
      refine wp_region_held_drew (S := (fun w' => w'.cell? ⟨bn, on + k, none⟩ = some (.string xb) ∧ w'.cell? ⟨bi, oi + k, none⟩ = some (.int .i64 x))) (by kernel_rfl) ⟨n1, m1⟩ (fun hHeld => ?_)
      refine wpAnyH_take (i := 0) (oi := ({ dst := some 19, op := Op.move (Operand.tmp 7), type := 67, pos := "row.go:18", after := #[], guard := none })) (v := u7) rfl (by kernel_rfl) (by kernel_rfl) (by kernel_rfl) (fun _ _ _ h => h) (Or.inl ⟨by rfl, ?_⟩) (by assumption) ?_
      · (intro w hSw; (try dsimp only at hSw); go_simp)
      try simp only [Act.put, List.setIfInBounds_toArray, List.set_cons_zero, List.set_cons_succ]
      refine wpAnyH_take (i := 1) (oi := ({ dst := some 20, op := Op.move (Operand.tmp 1), type := 67, pos := "row.go:18", after := #[], guard := none })) (v := (.slice (some ⟨bn, on, none⟩) N cn)) rfl (by kernel_rfl) (by kernel_rfl) (by kernel_rfl) (fun _ _ _ h => h) (Or.inl ⟨by rfl, ?_⟩) (by assumption) ?_
      · (intro w hSw; (try dsimp only at hSw); go_simp)
      try simp only [Act.put, List.setIfInBounds_toArray, List.set_cons_zero, List.set_cons_succ]
      refine wpAnyH_take (i := 2) (oi := ({ dst := some 21, op := Op.move (Operand.tmp 8), type := 3, pos := "row.go:18", after := #[], guard := none })) (v := (.int .i64 k)) rfl (by kernel_rfl) (by kernel_rfl) (by kernel_rfl) (fun _ _ _ h => h) (Or.inl ⟨by rfl, ?_⟩) (by assumption) ?_
      · (intro w hSw; (try dsimp only at hSw); go_simp)
      try simp only [Act.put, List.setIfInBounds_toArray, List.set_cons_zero, List.set_cons_succ]
      refine wpAnyH_take (i := 3) (oi := ({ dst := some 22, op := Op.indexAddr 67 (Operand.tmp 20) (Operand.tmp 21), type := 0, pos := "row.go:18", after := #[{ on := 1, ground := Ground.data }, { on := 2, ground := Ground.data }], guard := none })) (v := (.pointer (some ⟨bn, on + k, none⟩))) rfl (by kernel_rfl) (by kernel_rfl) (by kernel_rfl) (fun _ _ _ h => h) (Or.inl ⟨by rfl, ?_⟩) (by assumption) ?_
      · (intro w hSw; (try dsimp only at hSw); go_simp)
      try simp only [Act.put, List.setIfInBounds_toArray, List.set_cons_zero, List.set_cons_succ]
      refine wpAnyH_take (i := 4) (oi := ({ dst := some 23, op := Op.load 9 (Operand.tmp 22), type := 9, pos := "row.go:18", after := #[{ on := 3, ground := Ground.data }], guard := none })) (v := (.string xb)) rfl (by kernel_rfl) (by kernel_rfl) (by kernel_rfl) (fun _ _ _ h => h) (Or.inl ⟨by rfl, ?_⟩) (by assumption) ?_
      · (intro w hSw; (try dsimp only at hSw); go_simp)
      try simp only [Act.put, List.setIfInBounds_toArray, List.set_cons_zero, List.set_cons_succ]
      refine wpAnyH_take (i := 5) (oi := ({ dst := some 24, op := Op.binOp BinOp.add 9 (Operand.tmp 23) (Operand.const (Value.string { data := #[61] })) 9, type := 9, pos := "row.go:18", after := #[{ on := 4, ground := Ground.data }], guard := none })) (v := (.string (xb ++ ⟨#[61]⟩))) rfl (by kernel_rfl) (by kernel_rfl) (by kernel_rfl) (fun _ _ _ h => h) (Or.inl ⟨by rfl, ?_⟩) (by assumption) ?_
      · (intro w hSw; (try dsimp only at hSw); go_simp)
      try simp only [Act.put, List.setIfInBounds_toArray, List.set_cons_zero, List.set_cons_succ]
      refine wpAnyH_take (i := 6) (oi := ({ dst := some 25, op := Op.move (Operand.tmp 2), type := 60, pos := "row.go:18", after := #[], guard := none })) (v := (.slice (some ⟨bi, oi, none⟩) M ci)) rfl (by kernel_rfl) (by kernel_rfl) (by kernel_rfl) (fun _ _ _ h => h) (Or.inl ⟨by rfl, ?_⟩) (by assumption) ?_
      · (intro w hSw; (try dsimp only at hSw); go_simp)
      try simp only [Act.put, List.setIfInBounds_toArray, List.set_cons_zero, List.set_cons_succ]
      refine wpAnyH_take (i := 7) (oi := ({ dst := some 26, op := Op.move (Operand.tmp 8), type := 3, pos := "row.go:18", after := #[], guard := none })) (v := (.int .i64 k)) rfl (by kernel_rfl) (by kernel_rfl) (by kernel_rfl) (fun _ _ _ h => h) (Or.inl ⟨by rfl, ?_⟩) (by assumption) ?_
      · (intro w hSw; (try dsimp only at hSw); go_simp)
      try simp only [Act.put, List.setIfInBounds_toArray, List.set_cons_zero, List.set_cons_succ]
      refine wpAnyH_take (i := 8) (oi := ({ dst := some 27, op := Op.indexAddr 60 (Operand.tmp 25) (Operand.tmp 26), type := 0, pos := "row.go:18", after := #[{ on := 6, ground := Ground.data }, { on := 7, ground := Ground.data }], guard := none })) (v := (.pointer (some ⟨bi, oi + k, none⟩))) rfl (by kernel_rfl) (by kernel_rfl) (by kernel_rfl) (fun _ _ _ h => h) (Or.inl ⟨by rfl, ?_⟩) (by assumption) ?_
      · (intro w hSw; (try dsimp only at hSw); go_simp)
      try simp only [Act.put, List.setIfInBounds_toArray, List.set_cons_zero, List.set_cons_succ]
      refine wpAnyH_take (i := 9) (oi := ({ dst := some 28, op := Op.load 3 (Operand.tmp 27), type := 3, pos := "row.go:18", after := #[{ on := 8, ground := Ground.data }], guard := none })) (v := (.int .i64 x)) rfl (by kernel_rfl) (by kernel_rfl) (by kernel_rfl) (fun _ _ _ h => h) (Or.inl ⟨by rfl, ?_⟩) (by assumption) ?_
      · (intro w hSw; (try dsimp only at hSw); go_simp)
      try simp only [Act.put, List.setIfInBounds_toArray, List.set_cons_zero, List.set_cons_succ]
      refine wpAnyH_ready (rs := [10]) (by kernel_rfl) (by simp) (AllReadyH.cons (o := ({ dst := some 29, op := Op.call { callee := Callee.value (Operand.func 72), args := #[Operand.tmp 28], argTypes := #[3] }, type := 9, pos := "row.go:18", after := #[{ on := 9, ground := Ground.data }], guard := none })) rfl (fun K hK => ?_) AllReadyH.nil)
      go_simp
      refine (TX.out _ (LR.out.below (by exact ⟨rfl, rfl, rfl, Nat.le_refl _, fun _ _ => rfl⟩))).mono ?_
      rintro e w2 ⟨rfl, hb2⟩
      have hb3 : Below wr.heap.size wr w2 := by exact ⟨hb2.os, hb2.tape, hb2.output, hb2.size, hb2.block⟩
      have HO2 := Lib.hid (HO.out.below hb3 (Nat.le_refl _))
      have HB2 := Lib.hid (HB.out.trans (hb3.mono HB.out.size))
      clear hb3
      go_wp2_with fail
      clear hHeld
      refine hK.out _ _ ⟨keepB HB2.out n0 hbn, keepB HB2.out m0 hbi⟩ (fun hHeld => ?_)
      clear hK K
      try simp only [Act.put, List.setIfInBounds_toArray, List.set_cons_zero, List.set_cons_succ]
      refine wpAnyH_take (i := 11) (oi := ({ dst := some 30, op := Op.binOp BinOp.add 9 (Operand.tmp 24) (Operand.tmp 29) 9, type := 9, pos := "row.go:18", after := #[{ on := 5, ground := Ground.data }, { on := 10, ground := Ground.data }], guard := none })) (v := (.string (xb ++ ⟨#[61]⟩ ++ tb))) rfl (by kernel_rfl) (by kernel_rfl) (by kernel_rfl) (fun _ _ _ h => h) (Or.inl ⟨by rfl, ?_⟩) (by assumption) ?_
      · (intro w hSw; (try dsimp only at hSw); go_simp)
      try simp only [Act.put, List.setIfInBounds_toArray, List.set_cons_zero, List.set_cons_succ]
      refine wpAnyH_ready (rs := [12]) (by kernel_rfl) (by simp) (AllReadyH.cons (o := ({ dst := some 31, op := Op.buildSlice 67 1 #[(0, Operand.tmp 30)], type := 67, pos := "row.go:18", after := #[{ on := 11, ground := Ground.data }], guard := none })) rfl (fun K hK => ?_) AllReadyH.nil)
      go_simp
      clear hHeld
      refine hK.out _ _ ⟨keepA (keepB HB2.out n0 hbn) _, keepA (keepB HB2.out m0 hbi) _⟩ (fun hHeld => ?_)
      clear hK K
      try simp only [Act.put, List.setIfInBounds_toArray, List.set_cons_zero, List.set_cons_succ]
      refine wpAnyH_ready (rs := [13]) (by kernel_rfl) (by simp) (AllReadyH.cons (o := ({ dst := some 32, op := Op.call { callee := Callee.builtin Builtin.append, args := #[Operand.tmp 19, Operand.tmp 31], argTypes := #[67, 67] }, type := 67, pos := "row.go:18", after := #[{ on := 0, ground := Ground.data }, { on := 12, ground := Ground.data }, { on := 10, ground := Ground.chain }], guard := none })) rfl (fun K hK => ?_) AllReadyH.nil)
      rw [if_pos (by rfl)]
      refine wp_append_own _ _ _ 67 rfl w.heap.size 9 i0 (.string ⟨#[]⟩) 1 16 Tryz.underlying67 HI.out hz hsize hby rfl (by decide) _ (l.map strL).length ((l.map strL).map Value.string) rfl (HO2.out.below ((Below.refl _ _).alloc (Nat.le_refl _) _) (Nat.le_refl _)) ⟨_, 0, none⟩ 1 1 [.string (xb ++ ⟨#[61]⟩ ++ tb)] rfl rfl (cell_one_new _ _ _) (by intro u hu; simp at hu; subst hu; rfl) (by unfold maxLen; simp; omega) (by simp; omega) (by have := HB2.out.size; simp at this ⊢; omega) ?_
      intro v' w4 hown2 hgrow _
      have HO3 := Lib.hid (OwnS.mk (l := l.map strL) (b := xb ++ ⟨#[61]⟩ ++ tb) hown2)
      have HB3 := Lib.hid (OwnS.gby (HO2.out.below ((Below.refl _ _).alloc (Nat.le_refl _) _) (Nat.le_refl _)) (HB2.out.alloc HB2.out.size _) (by have := HB2.out.size; simp at this ⊢; omega) hgrow)
      clear hown2 hgrow
      clear hHeld
      refine hK.out _ _ ⟨keepB HB3.out n0 hbn, keepB HB3.out m0 hbi⟩ (fun hHeld => ?_)
      clear hK K
      try simp only [Act.put, List.setIfInBounds_toArray, List.set_cons_zero, List.set_cons_succ]
      refine wpAnyH_take (i := 14) (oi := ({ dst := some 7, op := Op.assign (Operand.tmp 32), type := 67, pos := "row.go:18", after := #[{ on := 13, ground := Ground.data }, { on := 13, ground := Ground.chain }, { on := 0, ground := Ground.phase }, { on := 1, ground := Ground.phase }, { on := 2, ground := Ground.phase }, { on := 3, ground := Ground.phase }, { on := 4, ground := Ground.phase }, { on := 5, ground := Ground.phase }, { on := 6, ground := Ground.phase }, { on := 7, ground := Ground.phase }, { on := 8, ground := Ground.phase }, { on := 9, ground := Ground.phase }, { on := 10, ground := Ground.phase }, { on := 11, ground := Ground.phase }, { on := 12, ground := Ground.phase }, { on := 13, ground := Ground.phase }], guard := none })) (v := v') rfl (by kernel_rfl) (by kernel_rfl) (by kernel_rfl) (fun _ _ _ h => h) (Or.inl ⟨by rfl, ?_⟩) (by assumption) ?_
      · (intro w hSw; (try dsimp only at hSw); go_simp)
      try simp only [Act.put, List.setIfInBounds_toArray, List.set_cons_zero, List.set_cons_succ]
      refine wpAnyH_done (by kernel_rfl) ?_ _
      clear hHeld
      rw [HP.out] at HO3
      go_wp2_with fail
      go_roundg (Q - (k + 1))
      case measure => omega
      case rel => exact ⟨k + 1, l ++ [X ++ [61] ++ T], by omega, rfl, by go_num, by rw [List.length_append, hll]; rfl, by rw [List.map_append]; exact HO3.out, HB3.out, HA2⟩
    · obtain rfl : k = Q := by omega
      have HF : Hid (Lib.join l [32] = rowL word names ns) := Lib.hid (by rw [HA.out, List.take_of_length_le (by rw [HPL.out, HQ.out]; exact Nat.le_refl _)]; rfl)
      have HR := Lib.hid HO.out.row
      have hjl : (Lib.join l [32]).length ≤ 100000000 := by rw [HF.out]; exact HJL.out
      have J := Lib.hid (fun (wx : World) (v : Value) (h : RowS wx v (l.map strL)) => words_joined v l wx h (by omega) hjl)
      rw [HF.out, HRL.out] at J
      clear hjl HF HA HO
      go_wp2_with fail
      refine (J.out _ _ HR.out).mono ?_
      rintro e w2 ⟨rfl, hb2⟩
      have HB2 := Lib.hid (HB.out.trans (hb2.mono HB.out.size))
      clear hb2
      go_wp2_with fail
      go_ret
      exact ⟨rfl, HB2.out⟩
set_option maxRecDepth 100000 in
set_option maxHeartbeats 3200000 in
theorem ref07_line (word : List UInt8) (vn vi : Value) (names : List (List UInt8)) (ns : List Int) (w : World) (hn : RowS w vn (names.map strL)) (hi : RowN w vi ns) (hw1 : word.length ≤ 100) (hn1 : names.length ≤ 1000) (hn2 : ∀ y ∈ names, y.length ≤ 60) (hi1 : ns.length ≤ 9223372036854775807) (hi2 : ∀ n ∈ ns, inI n) :
    Calls Tryz.prog 36 #[.string (strL word), vn, vi] w fun e w' => e = .returned (.string (strL (rowL word names ns))) ∧ Below w.heap.size w w' := by
  obtain ⟨i0, hi0, hz, hsize, hby⟩ : ∃ i, Tryz.prog.info? 9 = some i ∧ i.zero = some (.string ⟨#[]⟩) ∧ i.size = 1 ∧ i.bytes = 16 := ⟨_, rfl, rfl, rfl, rfl⟩
  have HI := Lib.hid hi0
  clear hi0
  obtain ⟨pn, cn, rfl⟩ := hn.len
  obtain ⟨pi, ci, rfl⟩ := hi.len
  rw [List.length_map] at hn ⊢
  obtain ⟨N, hN⟩ : ∃ N, names.length = N := ⟨_, rfl⟩
  obtain ⟨M, hM⟩ : ∃ M, ns.length = M := ⟨_, rfl⟩
  have hpl : (rowP names ns).length = min N M := by rw [rowP_length, hN, hM]
  rw [hN] at hn hn1 ⊢
  rw [hM] at hi hi1 ⊢
  have HPN := Lib.hid (rowS_pick_ hn hN)
  have HPI := Lib.hid (rowN_pick hi hM)
  have HNS := Lib.hid hi2
  have HNL := Lib.hid hn2
  have HPL := Lib.hid hpl
  have HJL : Hid ((Lib.join (word :: rowP names ns) [32]).length ≤ 100000000) := Lib.hid (by
    have h1 := join_le (word :: rowP names ns) (by
      intro y hy
      rw [List.mem_cons] at hy
      rcases hy with rfl | hy
      · exact hw1
      · exact rowP_len names hn2 ns hi2 y hy)
    rw [List.length_cons, hpl] at h1
    omega)
  obtain ⟨RL, hRL⟩ : ∃ RL, strL (rowL word names ns) = RL := ⟨_, rfl⟩
  have HRL := Lib.hid hRL
  rw [hRL]
  obtain ⟨wb, hwb⟩ : ∃ wb, strL word = wb := ⟨_, rfl⟩
  have HWB := Lib.hid hwb
  rw [hwb]
  obtain ⟨Q, hQ⟩ : ∃ Q, min N M = Q := ⟨_, rfl⟩
  have hQN : Q ≤ N := by omega
  have hQM : Q ≤ M := by omega
  have HQ := Lib.hid hQ
  have hQ2 : Q = N ∨ Q = M := by omega
  clear hn hi hn2 hi2 hpl hRL hwb hN hM hQ
  go_enter Tryz.func36, Tryz.ntmps36
  go_upto_region 2 with fail
  have HO0 := Lib.hid (ownS_lit w w.heap.size (Nat.le_refl _) wb)
  have HB0 : Hid (Below w.heap.size w (w.alloc (.cells #[.string wb] 9))) := Lib.hid ((Below.refl _ _).alloc (Nat.le_refl _) _)
  obtain ⟨W0, hW0⟩ : ∃ W0, w.alloc (.cells #[.string wb] 9) = W0 := ⟨_, rfl⟩
  rw [hW0] at HO0 HB0 ⊢
  clear hW0
  go_wp2_with fail
  go_loopg [7, 8] Q (fun g v i wr => ∃ (k : Nat) (l : List (List UInt8)), k ≤ Q ∧ g = Q - k ∧ i = .int .i64 k ∧ l.length = k + 1 ∧ OwnS w.heap.size wr v (l.map strL) ∧ Below w.heap.size w wr ∧ Hid (l = word :: (rowP names ns).take k))
  case atStart => exact ⟨0, [word], Nat.zero_le _, rfl, rfl, rfl, by rw [← HWB.out] at HO0; exact HO0.out, HB0.out, Lib.hid rfl⟩
  case round =>
    obtain ⟨k, l, hk, hg, rfl, hll, hown, hbl, HA⟩ := hrel
    have hg := hg.symm
    subst hg
    have HO := Lib.hid hown
    have HB := Lib.hid hbl
    clear hown hbl HO0 HB0
    by_cases hlt : k < Q
    · obtain ⟨bn, on, cp, X, e1, hX, n0, hbn⟩ := HPN.out k (by omega)
      cases e1
      obtain ⟨bi, oi, cp, x, e1, hx, m0, hbi⟩ := HPI.out k (by omega)
      cases e1
      have n1 := keepB HB.out n0 hbn
      have m1 := keepB HB.out m0 hbi
      have hkQ : (k : Int) < (Q : Int) := by omega
      have hkN : (k : Int) < (N : Int) := by omega
      have hkM : (k : Int) < (M : Int) := by omega
      have hk0 : (0 : Int) ≤ (k : Int) := by omega
      have TX := Lib.hid (fun w => ref05_textI x (HNS.out x (List.mem_of_getElem? hx)) w)
      have hXl := HNL.out X (List.mem_of_getElem? hX)
      have hTl := itoa_len x (HNS.out x (List.mem_of_getElem? hx))
      have HA2 : Hid (l ++ [X ++ [61] ++ Lib.itoa x] = word :: (rowP names ns).take (k + 1)) := Lib.hid (by rw [rowL_take_at word hX hx, ← HA.out])
      obtain ⟨T, hT⟩ : ∃ T, Lib.itoa x = T := ⟨_, rfl⟩
      rw [hT] at TX HA2 hTl
      obtain ⟨xb, hxb⟩ : ∃ xb, strL X = xb := ⟨_, rfl⟩
      obtain ⟨tb, htb⟩ : ∃ tb, strL T = tb := ⟨_, rfl⟩
      have HP : Hid (xb ++ ⟨#[61]⟩ ++ tb = strL (X ++ [61] ++ T)) := Lib.hid (str_part xb tb X T hxb htb)
      rw [hxb] at n0 n1
      rw [htb] at TX
      have hs1 : xb.size ≤ 60 := by rw [← hxb, strL_size]; exact hXl
      have hs2 : tb.size ≤ 20 := by rw [← htb, strL_size]; exact hTl
      clear hX hx HA hT hxb htb hXl hTl
      have hq1 : ¬ (9223372036854775807 < xb.size + 1) := by omega
      have hq2 : ¬ (9223372036854775807 < xb.size + 1 + tb.size) := by omega
      have hq3 : ¬ (9223372036854775807 < (xb ++ ⟨#[61]⟩).size + tb.size) := by rw [ByteArray.size_append]; show ¬ (9223372036854775807 < xb.size + 1 + tb.size); omega
      go_upto_region 5 with fail
      refine wp_region_held_drew (S := (fun w' => w'.cell? ⟨bn, on + k, none⟩ = some (.string xb) ∧ w'.cell? ⟨bi, oi + k, none⟩ = some (.int .i64 x))) (by kernel_rfl) ⟨n1, m1⟩ (fun hHeld => ?_)
      refine wpAnyH_take (i := 0) (oi := ({ dst := some 23, op := Op.move (Operand.tmp 7), type := 67, pos := "ref.go:14", after := #[], guard := none })) (v := u7) rfl (by kernel_rfl) (by kernel_rfl) (by kernel_rfl) (fun _ _ _ h => h) (Or.inl ⟨by rfl, ?_⟩) (by assumption) ?_
      · (intro w hSw; (try dsimp only at hSw); go_simp)
      try simp only [Act.put, List.setIfInBounds_toArray, List.set_cons_zero, List.set_cons_succ]
      refine wpAnyH_take (i := 1) (oi := ({ dst := some 24, op := Op.move (Operand.tmp 1), type := 67, pos := "ref.go:14", after := #[], guard := none })) (v := (.slice (some ⟨bn, on, none⟩) N cn)) rfl (by kernel_rfl) (by kernel_rfl) (by kernel_rfl) (fun _ _ _ h => h) (Or.inl ⟨by rfl, ?_⟩) (by assumption) ?_
      · (intro w hSw; (try dsimp only at hSw); go_simp)
      try simp only [Act.put, List.setIfInBounds_toArray, List.set_cons_zero, List.set_cons_succ]
      refine wpAnyH_take (i := 2) (oi := ({ dst := some 25, op := Op.move (Operand.tmp 8), type := 3, pos := "ref.go:14", after := #[], guard := none })) (v := (.int .i64 k)) rfl (by kernel_rfl) (by kernel_rfl) (by kernel_rfl) (fun _ _ _ h => h) (Or.inl ⟨by rfl, ?_⟩) (by assumption) ?_
      · (intro w hSw; (try dsimp only at hSw); go_simp)
      try simp only [Act.put, List.setIfInBounds_toArray, List.set_cons_zero, List.set_cons_succ]
      refine wpAnyH_take (i := 3) (oi := ({ dst := some 26, op := Op.indexAddr 67 (Operand.tmp 24) (Operand.tmp 25), type := 0, pos := "ref.go:14", after := #[{ on := 1, ground := Ground.data }, { on := 2, ground := Ground.data }], guard := none })) (v := (.pointer (some ⟨bn, on + k, none⟩))) rfl (by kernel_rfl) (by kernel_rfl) (by kernel_rfl) (fun _ _ _ h => h) (Or.inl ⟨by rfl, ?_⟩) (by assumption) ?_
      · (intro w hSw; (try dsimp only at hSw); go_simp)
      try simp only [Act.put, List.setIfInBounds_toArray, List.set_cons_zero, List.set_cons_succ]
      refine wpAnyH_take (i := 4) (oi := ({ dst := some 27, op := Op.load 9 (Operand.tmp 26), type := 9, pos := "ref.go:14", after := #[{ on := 3, ground := Ground.data }], guard := none })) (v := (.string xb)) rfl (by kernel_rfl) (by kernel_rfl) (by kernel_rfl) (fun _ _ _ h => h) (Or.inl ⟨by rfl, ?_⟩) (by assumption) ?_
      · (intro w hSw; (try dsimp only at hSw); go_simp)
      try simp only [Act.put, List.setIfInBounds_toArray, List.set_cons_zero, List.set_cons_succ]
      refine wpAnyH_take (i := 5) (oi := ({ dst := some 28, op := Op.binOp BinOp.add 9 (Operand.tmp 27) (Operand.const (Value.string { data := #[61] })) 9, type := 9, pos := "ref.go:14", after := #[{ on := 4, ground := Ground.data }], guard := none })) (v := (.string (xb ++ ⟨#[61]⟩))) rfl (by kernel_rfl) (by kernel_rfl) (by kernel_rfl) (fun _ _ _ h => h) (Or.inl ⟨by rfl, ?_⟩) (by assumption) ?_
      · (intro w hSw; (try dsimp only at hSw); go_simp)
      try simp only [Act.put, List.setIfInBounds_toArray, List.set_cons_zero, List.set_cons_succ]
      refine wpAnyH_take (i := 6) (oi := ({ dst := some 29, op := Op.move (Operand.tmp 2), type := 60, pos := "ref.go:14", after := #[], guard := none })) (v := (.slice (some ⟨bi, oi, none⟩) M ci)) rfl (by kernel_rfl) (by kernel_rfl) (by kernel_rfl) (fun _ _ _ h => h) (Or.inl ⟨by rfl, ?_⟩) (by assumption) ?_
      · (intro w hSw; (try dsimp only at hSw); go_simp)
      try simp only [Act.put, List.setIfInBounds_toArray, List.set_cons_zero, List.set_cons_succ]
      refine wpAnyH_take (i := 7) (oi := ({ dst := some 30, op := Op.move (Operand.tmp 8), type := 3, pos := "ref.go:14", after := #[], guard := none })) (v := (.int .i64 k)) rfl (by kernel_rfl) (by kernel_rfl) (by kernel_rfl) (fun _ _ _ h => h) (Or.inl ⟨by rfl, ?_⟩) (by assumption) ?_
      · (intro w hSw; (try dsimp only at hSw); go_simp)
      try simp only [Act.put, List.setIfInBounds_toArray, List.set_cons_zero, List.set_cons_succ]
      refine wpAnyH_take (i := 8) (oi := ({ dst := some 31, op := Op.indexAddr 60 (Operand.tmp 29) (Operand.tmp 30), type := 0, pos := "ref.go:14", after := #[{ on := 6, ground := Ground.data }, { on := 7, ground := Ground.data }], guard := none })) (v := (.pointer (some ⟨bi, oi + k, none⟩))) rfl (by kernel_rfl) (by kernel_rfl) (by kernel_rfl) (fun _ _ _ h => h) (Or.inl ⟨by rfl, ?_⟩) (by assumption) ?_
      · (intro w hSw; (try dsimp only at hSw); go_simp)
      try simp only [Act.put, List.setIfInBounds_toArray, List.set_cons_zero, List.set_cons_succ]
      refine wpAnyH_take (i := 9) (oi := ({ dst := some 32, op := Op.load 3 (Operand.tmp 31), type := 3, pos := "ref.go:14", after := #[{ on := 8, ground := Ground.data }], guard := none })) (v := (.int .i64 x)) rfl (by kernel_rfl) (by kernel_rfl) (by kernel_rfl) (fun _ _ _ h => h) (Or.inl ⟨by rfl, ?_⟩) (by assumption) ?_
      · (intro w hSw; (try dsimp only at hSw); go_simp)
      try simp only [Act.put, List.setIfInBounds_toArray, List.set_cons_zero, List.set_cons_succ]
      refine wpAnyH_ready (rs := [10]) (by kernel_rfl) (by simp) (AllReadyH.cons (o := ({ dst := some 33, op := Op.call { callee := Callee.value (Operand.func 74), args := #[Operand.tmp 32], argTypes := #[3] }, type := 9, pos := "ref.go:14", after := #[{ on := 9, ground := Ground.data }], guard := none })) rfl (fun K hK => ?_) AllReadyH.nil)
      go_simp
      refine (TX.out _).mono ?_
      rintro e w2 ⟨rfl, rfl⟩
      have hb3 : Below wr.heap.size wr wr.drew := by exact ⟨rfl, rfl, rfl, Nat.le_refl _, fun _ _ => rfl⟩
      have HO2 := Lib.hid (HO.out.below hb3 (Nat.le_refl _))
      have HB2 := Lib.hid (HB.out.trans (hb3.mono HB.out.size))
      clear hb3
      go_wp2_with fail
      clear hHeld
      refine hK.out _ _ ⟨keepB HB2.out n0 hbn, keepB HB2.out m0 hbi⟩ (fun hHeld => ?_)
      clear hK K
      try simp only [Act.put, List.setIfInBounds_toArray, List.set_cons_zero, List.set_cons_succ]
      refine wpAnyH_take (i := 11) (oi := ({ dst := some 34, op := Op.binOp BinOp.add 9 (Operand.tmp 28) (Operand.tmp 33) 9, type := 9, pos := "ref.go:14", after := #[{ on := 5, ground := Ground.data }, { on := 10, ground := Ground.data }], guard := none })) (v := (.string (xb ++ ⟨#[61]⟩ ++ tb))) rfl (by kernel_rfl) (by kernel_rfl) (by kernel_rfl) (fun _ _ _ h => h) (Or.inl ⟨by rfl, ?_⟩) (by assumption) ?_
      · (intro w hSw; (try dsimp only at hSw); go_simp)
      try simp only [Act.put, List.setIfInBounds_toArray, List.set_cons_zero, List.set_cons_succ]
      refine wpAnyH_ready (rs := [12]) (by kernel_rfl) (by simp) (AllReadyH.cons (o := ({ dst := some 35, op := Op.buildSlice 67 1 #[(0, Operand.tmp 34)], type := 67, pos := "ref.go:14", after := #[{ on := 11, ground := Ground.data }], guard := none })) rfl (fun K hK => ?_) AllReadyH.nil)
      go_simp
      clear hHeld
      refine hK.out _ _ ⟨keepA (keepB HB2.out n0 hbn) _, keepA (keepB HB2.out m0 hbi) _⟩ (fun hHeld => ?_)
      clear hK K
      try simp only [Act.put, List.setIfInBounds_toArray, List.set_cons_zero, List.set_cons_succ]
      refine wpAnyH_ready (rs := [13]) (by kernel_rfl) (by simp) (AllReadyH.cons (o := ({ dst := some 36, op := Op.call { callee := Callee.builtin Builtin.append, args := #[Operand.tmp 23, Operand.tmp 35], argTypes := #[67, 67] }, type := 67, pos := "ref.go:14", after := #[{ on := 0, ground := Ground.data }, { on := 12, ground := Ground.data }, { on := 10, ground := Ground.chain }], guard := none })) rfl (fun K hK => ?_) AllReadyH.nil)
      rw [if_pos (by rfl)]
      refine wp_append_own _ _ _ 67 rfl w.heap.size 9 i0 (.string ⟨#[]⟩) 1 16 Tryz.underlying67 HI.out hz hsize hby rfl (by decide) _ (l.map strL).length ((l.map strL).map Value.string) rfl (HO2.out.below ((Below.refl _ _).alloc (Nat.le_refl _) _) (Nat.le_refl _)) ⟨_, 0, none⟩ 1 1 [.string (xb ++ ⟨#[61]⟩ ++ tb)] rfl rfl (cell_one_new _ _ _) (by intro u hu; simp at hu; subst hu; rfl) (by unfold maxLen; simp; omega) (by simp; omega) (by have := HB2.out.size; simp at this ⊢; omega) ?_
      intro v' w4 hown2 hgrow _
      have HO3 := Lib.hid (OwnS.mk (l := l.map strL) (b := xb ++ ⟨#[61]⟩ ++ tb) hown2)
      have HB3 := Lib.hid (OwnS.gby (HO2.out.below ((Below.refl _ _).alloc (Nat.le_refl _) _) (Nat.le_refl _)) (HB2.out.alloc HB2.out.size _) (by have := HB2.out.size; simp at this ⊢; omega) hgrow)
      clear hown2 hgrow
      clear hHeld
      refine hK.out _ _ ⟨keepB HB3.out n0 hbn, keepB HB3.out m0 hbi⟩ (fun hHeld => ?_)
      clear hK K
      try simp only [Act.put, List.setIfInBounds_toArray, List.set_cons_zero, List.set_cons_succ]
      refine wpAnyH_take (i := 14) (oi := ({ dst := some 7, op := Op.assign (Operand.tmp 36), type := 67, pos := "ref.go:14", after := #[{ on := 13, ground := Ground.data }, { on := 13, ground := Ground.chain }, { on := 0, ground := Ground.phase }, { on := 1, ground := Ground.phase }, { on := 2, ground := Ground.phase }, { on := 3, ground := Ground.phase }, { on := 4, ground := Ground.phase }, { on := 5, ground := Ground.phase }, { on := 6, ground := Ground.phase }, { on := 7, ground := Ground.phase }, { on := 8, ground := Ground.phase }, { on := 9, ground := Ground.phase }, { on := 10, ground := Ground.phase }, { on := 11, ground := Ground.phase }, { on := 12, ground := Ground.phase }, { on := 13, ground := Ground.phase }], guard := none })) (v := v') rfl (by kernel_rfl) (by kernel_rfl) (by kernel_rfl) (fun _ _ _ h => h) (Or.inl ⟨by rfl, ?_⟩) (by assumption) ?_
      · (intro w hSw; (try dsimp only at hSw); go_simp)
      try simp only [Act.put, List.setIfInBounds_toArray, List.set_cons_zero, List.set_cons_succ]
      refine wpAnyH_done (by kernel_rfl) ?_ _
      clear hHeld
      rw [HP.out] at HO3
      go_wp2_with fail
      go_roundg (Q - (k + 1))
      case measure => omega
      case rel => exact ⟨k + 1, l ++ [X ++ [61] ++ T], by omega, rfl, by go_num, by rw [List.length_append, hll]; rfl, by rw [List.map_append]; exact HO3.out, HB3.out, HA2⟩
    · obtain rfl : k = Q := by omega
      have HF : Hid (Lib.join l [32] = rowL word names ns) := Lib.hid (by rw [HA.out, List.take_of_length_le (by rw [HPL.out, HQ.out]; exact Nat.le_refl _)]; rfl)
      have HR := Lib.hid HO.out.row
      have hjl : (Lib.join l [32]).length ≤ 100000000 := by rw [HF.out]; exact HJL.out
      have J := Lib.hid (fun (wx : World) (v : Value) (h : RowS wx v (l.map strL)) => ref06_join v l wx h (by omega) hjl)
      rw [HF.out, HRL.out] at J
      clear hjl HF HA HO
      rcases Nat.lt_or_ge k N with hkN | hkN
      · have h1 : (k : Int) < (N : Int) := by omega
        have h2 : (M : Int) ≤ (k : Int) := by omega
        have h3 : ¬ ((k : Int) < (M : Int)) := by omega
        go_wp2_with fail
        refine (J.out _ _ HR.out).mono ?_
        rintro e w2 ⟨rfl, rfl⟩
        go_wp2_with fail
        go_ret
        exact ⟨rfl, HB.out⟩
      have h1 : (N : Int) ≤ (k : Int) := by omega
      have h3 : ¬ ((k : Int) < (N : Int)) := by omega
      go_wp2_with fail
      refine (J.out _ _ HR.out).mono ?_
      rintro e w2 ⟨rfl, rfl⟩
      go_wp2_with fail
      go_ret
      exact ⟨rfl, HB.out⟩
end Go.Proofs.YtanihdpgblkeaaaGreatDoor

/-! RowParse -/
namespace Go.Proofs.YtanihdpgblkeaaaGreatDoor
open Go.RowKit
set_option linter.unusedVariables false
set_option linter.unusedSimpArgs false

theorem own_ne {B g : Nat} {w : World} {v : Value} {l : List Int} {x : Value} {t : TypeId} (h : OwnN B w v l) (hb : Blk w g #[x] t) (ht : t ≠ 3) : ¬ some g = v.ownBlock := by
  obtain ⟨_, ⟨rfl, _⟩ | ⟨g2, cap, cur, rfl, _, hh, _⟩⟩ := h
  · simp [Value.ownBlock]
  · intro e
    have e2 : g = g2 := by simpa [Value.ownBlock] using e
    subst e2
    unfold Blk at hb
    rw [hb] at hh
    injection hh with hh
    injection hh with _ h2 _
    exact ht h2
theorem Blk.set1_ {w : World} {b : Nat} {x : Value} {t : TypeId} (h : Blk w b #[x] t) (v : Value) : Blk (w.setCell ⟨b, 0, none⟩ v) b #[v] t := h.set 0 v
theorem blk_ne {w : World} {g k : Nat} {x y : Value} {t u : TypeId} (h : Blk w g #[x] t) (h2 : Blk w k #[y] u) (ht : t ≠ u) : ¬ g = k := by
  rintro rfl
  unfold Blk at h h2
  rw [h] at h2
  injection h2 with h2
  injection h2 with _ h3 _
  exact ht h3
theorem OwnN.put {B g : Nat} {w : World} {v x : Value} {l : List Int} {t : TypeId} (h : OwnN B w v l) (hb : Blk w g #[x] t) (ht : t ≠ 3) (y : Value) : OwnN B (w.setCell ⟨g, 0, none⟩ y) v l := by
  have hne := own_ne h hb ht
  obtain ⟨h1, h2 | ⟨g2, cap, cur, rfl, hg, hh, rest⟩⟩ := h
  · exact ⟨h1, .inl h2⟩
  · refine ⟨h1, .inr ⟨g2, cap, cur, rfl, hg, ?_, rest⟩⟩
    exact (show Blk _ g2 cur 3 from Blk.far (show Blk w g2 cur 3 from hh) (a := ⟨g, 0, none⟩) (by intro e; exact hne (by show some g = some g2; rw [show g = g2 from e])) y)
theorem OwnN.lower {A B : Nat} {w : World} {v : Value} {l : List Int} (h : OwnN B w v l) (hA : A ≤ B) : OwnN A w v l := by
  obtain ⟨h1, h2 | ⟨g, cap, cur, h3, h4, rest⟩⟩ := h
  · exact ⟨h1, .inl h2⟩
  · exact ⟨h1, .inr ⟨g, cap, cur, h3, Nat.le_trans hA h4, rest⟩⟩
theorem Blk.grown {B g : Nat} {w w1 : World} {v x : Value} {l : List Int} {t : TypeId} (h : Blk w g #[x] t) (ho : OwnN B w v l) (ht : t ≠ 3) (hg : w.grownBy w1 v.ownBlock) : Blk w1 g #[x] t :=
  (hg.block g h.lt (own_ne ho h ht)).trans h
/-- The number of a part that is none: whatever is read of it. -/
theorem part_num (P A : List UInt8) : (Lib.hasPrefix P (A ++ [61]) = true → partV P A = decV (Lib.trimPrefix P (A ++ [61]))) ∧ (Lib.hasPrefix P (A ++ [61]) = false → partV P A = none) := by
  unfold partV Lib.trimPrefix
  unfold Lib.hasPrefix
  constructor
  · intro h; rw [if_pos h, if_pos h]; congr 2; simp
  · intro h; rw [if_neg (by rw [h]; simp)]
set_option maxRecDepth 100000 in
set_option maxHeartbeats 3200000 in
theorem row_take (P A : List UInt8) (hP : P.length ≤ 100000) (hA : A.length ≤ 60) (b : Bool) (br bo B : Nat) (v : Value) (vs : List Int) (hvl : vs.length ≤ 1000) (w : World) (hl : Laid w)
    (hbr : Blk w br #[.bool b] 4) (hbo : Blk w bo #[v] 60) (hr : B ≤ br) (ho : B ≤ bo) (hB : B ≤ w.heap.size) (hown : OwnN B w v vs) :
    Calls Tryz.prog 82 #[.string (strL P), .string (strL A), .pointer (some ⟨br, 0, none⟩), .pointer (some ⟨bo, 0, none⟩)] w fun e w' => e = .returned (.tuple #[]) ∧ ∃ (v' : Value) (n : Int), (∀ m, partV P A = some m → m = n) ∧ Blk w' br #[.bool (b && (partV P A).isSome)] 4 ∧ Blk w' bo #[v'] 60 ∧ OwnN B w' v' (vs ++ [n]) ∧ Below B w w' := by
  obtain ⟨i0, hi, hz, hsize, hby⟩ : ∃ i, Tryz.prog.info? 3 = some i ∧ i.zero = some (.int .i64 0) ∧ i.size = 1 ∧ i.bytes = 8 := ⟨_, rfl, rfl, rfl, rfl⟩
  have HI := Lib.hid hi
  clear hi
  have hna : strL A ++ ⟨#[61]⟩ = strL (A ++ [61]) := by rw [strL_app]; rfl
  have TP : Hid (∀ w : World, Calls Tryz.prog 83 #[.string (strL P), .string (strL (A ++ [61]))] w fun e w' => e = .returned (.string (strL (Lib.trimPrefix P (A ++ [61])))) ∧ w' = w) := Lib.hid (fun w => Tryz.strings_TrimPrefix (strL P) (strL (A ++ [61])) w)
  have HPX : Hid (∀ w : World, Calls Tryz.prog 84 #[.string (strL P), .string (strL (A ++ [61]))] w fun e w' => e = .returned (.bool (Lib.hasPrefix P (A ++ [61]))) ∧ w' = w) := Lib.hid (fun w => Tryz.strings_HasPrefix (strL P) (strL (A ++ [61])) w)
  have hle := Lib.trimPrefix_le P (A ++ [61])
  have DP := Lib.hid (fun w h => dec_parse (strL (Lib.trimPrefix P (A ++ [61]))) (by rw [strL_size]; omega) w h)
  rw [strL_list] at DP
  obtain ⟨hp1, hp2⟩ := part_num P A
  have hd := decR_of (l := Lib.trimPrefix P (A ++ [61]))
  have has : (strL A).size ≤ 60 := by rw [strL_size]; exact hA
  rw [← hna] at TP HPX
  generalize Lib.hasPrefix P (A ++ [61]) = px at HPX hp1 hp2
  generalize Lib.trimPrefix P (A ++ [61]) = TR at TP DP hp1 hd
  generalize strL TR = TS at TP DP
  generalize hAb : strL A = AB at *
  generalize strL P = PB at *
  clear hna
  have HD : Hid (∃ (n E : Int) (e : Bool), decR TR = (n, E) ∧ (decV TR = if e then some n else none) ∧ (E = if e then 0 else 2)) := Lib.hid (by
    rcases hd with ⟨n, h1, h2⟩ | ⟨h1, h2⟩
    · exact ⟨n, 0, true, h2, h1, rfl⟩
    · exact ⟨0, 2, false, h2, h1, rfl⟩)
  obtain ⟨n, E, e, hd1, hd2, hd3⟩ := HD.out
  have HE := Lib.hid hd3
  rw [hd1] at DP
  rw [hd2] at hp1
  have HS : Hid ((partV P A).isSome = (e && px) ∧ ∀ m, partV P A = some m → m = n) := Lib.hid (by
    cases px with
    | false => rw [hp2 rfl]; cases e <;> simp
    | true => rw [hp1 rfl]; cases e <;> simp)
  clear hp1 hp2 hd hd1 hd2 hd3 HD hle
  generalize (partV P A).isSome = s at *
  have HR := Lib.hid hbr
  have HO := Lib.hid hbo
  have HW := Lib.hid hown
  have HL := Lib.hid hl
  clear hbr hbo hown hl
  have hq1 : ¬ (9223372036854775807 < AB.size + 1) := by omega
  go_enter Tryz.func82, Tryz.ntmps82
  go_wp2_with fail
  refine (TP.out _).mono ?_
  rintro ee w1 ⟨rfl, rfl⟩
  go_wp2_with fail
  refine (DP.out _ HL.out).mono ?_
  rintro ee w2 ⟨rfl, hb2⟩
  replace HR := Lib.hid (HR.out.below hb2 HR.out.lt)
  replace HO := Lib.hid (HO.out.below hb2 HO.out.lt)
  replace HW := Lib.hid (HW.out.below hb2 (Nat.le_refl _))
  have HB := Lib.hid (hb2.mono hB)
  have HZ := Lib.hid hb2.size
  clear hb2 HL DP TP
  go_upto_region 1 with fail
  go_cut [] (fun wx => Hid (Blk wx br #[.bool (b && (e && px))] 4) ∧ Hid (Blk wx bo #[v] 60) ∧ Hid (OwnN B wx v vs) ∧ Hid (Below B w1 wx) ∧ Hid (w1.heap.size ≤ wx.heap.size))
  case first =>
    have c0 := HR.out.cell (i := 0) rfl
    have f0 := HR.out.free 0
    have hne := blk_ne HR.out HO.out (by decide)
    cases b with
    | false =>
      go_wp2_with fail
      go_meet
      exact ⟨Lib.hid (HR.out.set1_ _), Lib.hid (HO.out.far hne _), Lib.hid (HW.out.put HR.out (by decide) _), Lib.hid (HB.out.setCell (p := ⟨br, 0, none⟩) hr _), Lib.hid (by have := HZ.out; simp; omega)⟩
    | true =>
      cases e with
      | false =>
        obtain rfl : E = 2 := HE.out
        go_wp2_with fail
        go_meet
        exact ⟨Lib.hid (HR.out.set1_ _), Lib.hid (HO.out.far hne _), Lib.hid (HW.out.put HR.out (by decide) _), Lib.hid (HB.out.setCell (p := ⟨br, 0, none⟩) hr _), Lib.hid (by have := HZ.out; simp; omega)⟩
      | true =>
        obtain rfl : E = 0 := HE.out
        go_wp2_with fail
        refine (HPX.out _).mono ?_
        rintro ee w3 ⟨rfl, rfl⟩
        go_wp2_with fail
        go_meet
        exact ⟨Lib.hid (HR.out.set1_ _), Lib.hid (HO.out.far hne _), Lib.hid (HW.out.put HR.out (by decide) _), Lib.hid (HB.out.setCell (p := ⟨br, 0, none⟩) hr _), Lib.hid (by have := HZ.out; simp; omega)⟩
  case rest =>
    obtain ⟨HR, HO, HW, HB, HZ⟩ := hcut
    have c0 := HO.out.cell (i := 0) rfl
    have hbl := HO.out.lt
    go_wp2_with (at_builtin; refine wpList_append_own _ rfl _ _ 60 rfl B 3 i0 (.int .i64 0) 1 8 Tryz.underlying60 HI.out hz hsize hby rfl (by decide) _ vs.length (vs.map (Value.int .i64)) rfl (HW.out.below ((Below.refl _ _).alloc (Nat.le_refl _) _) (Nat.le_refl _)) ⟨_, 0, none⟩ 1 1 [.int .i64 n] rfl rfl (cell_one_new _ _ _) (by intro u hu; simp at hu; subst hu; rfl) (by unfold maxLen; omega) (by omega) (by have := HZ.out; simp; omega) ?_)
    intro v' w4 hown2 hgrow _
    have HW3 := Lib.hid (OwnN.mk (l := vs) (b := n) hown2)
    have HB3 := Lib.hid (OwnN.gby (HW.out.below ((Below.refl _ _).alloc (Nat.le_refl _) _) (Nat.le_refl _)) (HB.out.alloc (by have := HZ.out; omega) _) (by have := HZ.out; simp; omega) hgrow)
    have HO3 := Lib.hid ((HO.out.alloc _).grown (HW.out.below ((Below.refl _ _).alloc (Nat.le_refl _) _) (Nat.le_refl _)) (by decide) hgrow)
    have HR3 := Lib.hid ((HR.out.alloc _).grown (HW.out.below ((Below.refl _ _).alloc (Nat.le_refl _) _) (Nat.le_refl _)) (by decide) hgrow)
    have hne := blk_ne HO.out HR.out (by decide)
    clear hown2 hgrow c0
    obtain ⟨p', c', hv'⟩ := HW3.out.row.len
    rw [show (vs ++ [n]).length = vs.length + 1 by simp] at hv'
    subst hv'
    have f0 := HO3.out.free 0
    have c0 := HO3.out.cell (i := 0) rfl
    go_wp2_with fail
    go_end0
    exact ⟨rfl, _, n, HS.out.2, by rw [HS.out.1]; exact HR3.out.far hne _, HO3.out.set1_ _, HW3.out.put HO3.out (by decide) _, HB3.out.setCell (p := ⟨bo, 0, none⟩) ho _⟩
/-- What a row's parts tell, one by one. -/
theorem zip_at {r names : List (List UInt8)} {k : Nat} {P A : List UInt8} (h1 : r[k]? = some P) (h2 : names[k]? = some A) : (List.zipWith partV r names)[k]? = some (partV P A) := by
  rw [List.getElem?_zipWith, h1, h2]
theorem takeO_at {l : List (Option Int)} {i : Nat} {x : Option Int} (h : l[i]? = some x) : l.take (i + 1) = l.take i ++ [x] := by
  obtain ⟨hi, e⟩ := List.getElem?_eq_some_iff.1 h
  rw [List.take_succ_eq_append_getElem hi, e]
theorem allO_take_some (l : List (Option Int)) (i : Nat) (ns : List Int) (n : Int) (h : l[i]? = some (some n)) (hx : allO (l.take i) = some ns) : allO (l.take (i + 1)) = some (ns ++ [n]) := by
  rw [takeO_at h]; exact allO_snoc _ _ _ hx
theorem rowR_bad {ws : List (List UInt8)} {word : List UInt8} {names : List (List UInt8)} (h : ¬ (ws.length = names.length + 1 ∧ ws[0]? = some word)) : rowR ws word names = ([], 2) := by
  unfold rowR; rw [if_neg h]
theorem rowR_none {ws : List (List UInt8)} {word : List UInt8} {names : List (List UInt8)} (h : allO (List.zipWith partV ws.tail names) = none) : rowR ws word names = ([], 2) := by
  unfold rowR; rw [h]; split <;> rfl
theorem rowR_some {ws : List (List UInt8)} {word : List UInt8} {names : List (List UInt8)} {ns : List Int} (h1 : ws.length = names.length + 1) (h2 : ws[0]? = some word) (h : allO (List.zipWith partV ws.tail names) = some ns) : rowR ws word names = (ns, 0) := by
  unfold rowR; rw [if_pos ⟨h1, h2⟩, h]
theorem strL_inj {a b : List UInt8} (h : strL a = strL b) : a = b := by
  have := congrArg (fun s : ByteArray => s.data.toList) h
  simpa [strL] using this
theorem bne_str {a b : ByteArray} (h : a = b) : (a.toList != b.toList) = false := by subst h; simp
theorem bne_str_ne {a b : ByteArray} (h : a ≠ b) : (a.toList != b.toList) = true := by rw [bne, beq_str_ne h]; rfl
theorem refW_le (s : List UInt8) : ∀ (w : List UInt8) (n : Nat), w.length + s.length ≤ n → ∀ y ∈ refW w s, y.length ≤ n := by
  induction s with
  | nil =>
    intro w n h y hy
    unfold refW at hy
    split at hy
    · simp at hy
    · rw [List.mem_singleton] at hy; subst hy; simp at h; omega
  | cons c r ih =>
    intro w n h y hy
    simp only [List.length_cons] at h
    have h0 := ih [] n (by simp; omega)
    have h1 := ih (w ++ [c]) n (by simp; omega)
    unfold refW at hy
    split at hy
    · split at hy
      · simp at hy
      · rw [List.mem_singleton] at hy; subst hy; omega
    · split at hy
      · split at hy
        · exact h0 y hy
        · rw [List.mem_cons] at hy
          rcases hy with rfl | hy
          · omega
          · exact h0 y hy
      · exact h1 y hy
theorem words_le (s : List UInt8) : ∀ y ∈ wordsL s, y.length ≤ s.length := refW_le s [] _ (by simp)
set_option maxRecDepth 100000 in
set_option maxHeartbeats 3200000 in
theorem row_parse_own (s : ByteArray) (word : List UInt8) (vn : Value) (names : List (List UInt8)) (w : World) (hs : s.size ≤ 100000) (hn : RowS w vn (names.map strL)) (hn1 : names.length ≤ 1000) (hn2 : ∀ y ∈ names, y.length ≤ 60) (hL : Laid w) :
    Calls Tryz.prog 44 #[.string s, .string (strL word), vn] w fun e w' => ∃ v, e = .returned (.tuple #[v, .int .i64 (rowR (wordsL s.data.toList) word names).2]) ∧ OwnN w.heap.size w' v (rowR (wordsL s.data.toList) word names).1 ∧ Below w.heap.size w w' := by
  have WD := Lib.hid (words_words s hs w)
  have hwl := words_le s.data.toList
  have hsl : s.data.toList.length = s.size := (Lib.size_eq s).symm
  have hWL : (wordsL s.data.toList).length ≤ 100001 := by have := refW_len s.data.toList []; unfold wordsL; omega
  generalize wordsL s.data.toList = WS at *
  have hr1 := rowR_bad (ws := WS) (word := word) (names := names)
  have hr2 := rowR_none (ws := WS) (word := word) (names := names)
  have hr3 := fun ns => rowR_some (ws := WS) (word := word) (names := names) (ns := ns)
  obtain ⟨RR, hRR⟩ : ∃ R, rowR WS word names = R := ⟨_, rfl⟩
  rw [hRR] at hr1 hr2 ⊢
  simp only [hRR] at hr3
  obtain ⟨R1, R2⟩ := RR
  obtain ⟨pn, cn, rfl⟩ := hn.len
  rw [List.length_map] at hn ⊢
  obtain ⟨N, hN⟩ : ∃ N, names.length = N := ⟨_, rfl⟩
  obtain ⟨M, hM⟩ : ∃ M, WS.length = M := ⟨_, rfl⟩
  rw [hN] at hn hn1 hr1 ⊢
  simp only [hN] at hr3
  rw [hM] at hr1 hWL
  simp only [hM] at hr3
  have HPN := Lib.hid (rowS_pick_ hn hN)
  have HNL := Lib.hid hn2
  have HWL := Lib.hid (fun y (h : y ∈ WS) => show y.length ≤ 100000 by have := hwl y h; omega)
  have HR1 := Lib.hid hr1
  have HR2 := Lib.hid hr2
  have HR3 := Lib.hid hr3
  have HM := Lib.hid hM
  have HN := Lib.hid hN
  have LL := Lib.hid hL
  obtain ⟨wb, hwb⟩ : ∃ wb, strL word = wb := ⟨_, rfl⟩
  have HWB := Lib.hid hwb
  rw [hwb]
  clear hn hn2 hwl hr1 hr2 hr3 hM hN hL hwb hRR hsl
  go_enter Tryz.func44, Tryz.ntmps44
  go_wp2_with fail
  refine WD.out.mono ?_
  rintro ee w1 ⟨v8, rfl, how, hb1⟩
  obtain ⟨p8, c8, rfl⟩ := how.row.len
  have hrow := how.row
  rw [List.length_map] at hrow
  rw [List.length_map]
  rw [HM.out] at hrow
  rw [HM.out]
  have HPW := Lib.hid (rowS_pick_ hrow HM.out)
  have HB1 := Lib.hid hb1
  clear hrow how hb1 WD
  by_cases hMN : M = N + 1
  · subst hMN
    have hpos : (0 : Int) < ((N + 1 : Nat) : Int) := by omega
    obtain ⟨b0, o0, cp, X0, e1, hX0, x0, hb0⟩ := HPW.out 0 (by omega)
    cases e1
    rw [Nat.add_zero] at x0
    obtain ⟨xb, hxb⟩ : ∃ xb, strL X0 = xb := ⟨_, rfl⟩
    rw [hxb] at x0
    have hpush : ((N + 1 : Nat) : Int) = (N : Int) + 1 := by push_cast; rfl
    have hwr : IntKind.i64.wrap ((N : Int) + 1) = (N : Int) + 1 := by rw [IntKind.wrap_i64]; omega
    by_cases hx : X0 = word
    · have hxw : xb = wb := by rw [← hxb, hx, HWB.out]
      have hq1 := beq_str hxw
      have hq2 := bne_str hxw
      subst hx
      have HX0 := Lib.hid hX0
      clear hX0 hxb
      subst hxw
      replace HR1 := True.intro
      go_upto_region 7 with fail
      have KO : Hid (Blk ((w1.alloc (.cells #[.slice none 0 0] 60)).alloc (.cells #[.bool true] 4)) w1.heap.size #[.slice none 0 0] 60) := Lib.hid ((Blk.new w1 _ _).alloc _)
      have KR : Hid (Blk ((w1.alloc (.cells #[.slice none 0 0] 60)).alloc (.cells #[.bool true] 4)) (w1.heap.size + 1) #[.bool true] 4) := Lib.hid (by
        have h := Blk.new (w1.alloc (.cells #[.slice none 0 0] 60)) #[.bool true] 4
        rw [show (w1.alloc (.cells #[.slice none 0 0] 60)).heap.size = w1.heap.size + 1 by simp] at h
        exact h)
      have HB2 : Hid (Below w.heap.size w ((w1.alloc (.cells #[.slice none 0 0] 60)).alloc (.cells #[.bool true] 4))) := Lib.hid ((HB1.out.alloc HB1.out.size _).alloc (by have := HB1.out.size; simp; omega) _)
      have HB3 : Hid (Below w1.heap.size w1 ((w1.alloc (.cells #[.slice none 0 0] 60)).alloc (.cells #[.bool true] 4))) := Lib.hid (((Below.refl _ _).alloc (Nat.le_refl _) _).alloc (by simp) _)
      obtain ⟨W0, hW0⟩ : ∃ W0, (w1.alloc (.cells #[.slice none 0 0] 60)).alloc (.cells #[.bool true] 4) = W0 := ⟨_, rfl⟩
      rw [hW0] at KO KR HB2 HB3 ⊢
      clear hW0 x0
      obtain ⟨bo, hbo⟩ : ∃ bo, w1.heap.size = bo := ⟨_, rfl⟩
      have HBO := Lib.hid hbo
      have HSZ := Lib.hid HB1.out.size
      rw [hbo] at KO KR ⊢
      clear hbo
      go_wp2_with fail
      go_loopg [32] N (fun g i wr => ∃ (k : Nat) (b : Bool) (v : Value) (vs : List Int), k ≤ N ∧ g = N - k ∧ i = .int .i64 k ∧ vs.length = k ∧ Hid (Blk wr bo #[v] 60) ∧ Hid (Blk wr (bo + 1) #[.bool b] 4) ∧ Hid (OwnN w1.heap.size wr v vs) ∧ Hid (Below w1.heap.size w1 wr) ∧ Hid (b = true → allO ((List.zipWith partV WS.tail names).take k) = some vs) ∧ Hid (b = false → allO (List.zipWith partV WS.tail names) = none))
      case atStart => exact ⟨0, true, _, [], Nat.zero_le _, rfl, rfl, rfl, KO, KR, Lib.hid (OwnN.nil _ _), HB3, Lib.hid (fun _ => rfl), Lib.hid (fun h => by cases h)⟩
      case round =>
        obtain ⟨k, b, v, vs, hk, hg, rfl, hvl, GO, GR, HO, HC, HT, HF⟩ := hrel
        have HB := Lib.hid (HB1.out.trans (HC.out.mono HB1.out.size))
        have hg := hg.symm
        subst hg
        clear KO KR HB2 HB3
        by_cases hlt : k < N
        · obtain ⟨bn, on, cp, A, e1, hA, n0, hbn⟩ := HPN.out k (by omega)
          cases e1
          obtain ⟨bw, ow, cp, P, e1, hP, p0, hbw⟩ := HPW.out (k + 1) (by omega)
          cases e1
          have n1 := keepB HB.out n0 hbn
          have p1 := keepB HC.out p0 hbw
          have hAl := HNL.out A (List.mem_of_getElem? hA)
          have hPl := HWL.out P (List.mem_of_getElem? hP)
          have hz : (List.zipWith partV WS.tail names)[k]? = some (partV P A) := zip_at (by rw [List.getElem?_tail]; exact hP) hA
          have TK := Lib.hid (fun (wx : World) (h1 : Laid wx) (h2 : Blk wx (bo + 1) #[.bool b] 4) (h3 : Blk wx bo #[v] 60) (h4 : w1.heap.size ≤ wx.heap.size) (h5 : OwnN w1.heap.size wx v vs) => row_take P A hPl hAl b (bo + 1) bo w1.heap.size v vs (by omega) wx h1 h2 h3 (by have := HSZ.out; have := HBO.out; omega) (by have := HSZ.out; have := HBO.out; omega) h4 h5)
          have HT2 : Hid (b = true → ∀ m, partV P A = some m → allO ((List.zipWith partV WS.tail names).take (k + 1)) = some (vs ++ [m])) := Lib.hid (by
            intro hb m hm
            rw [hm] at hz
            exact allO_take_some _ k vs m hz (HT.out hb))
          have HF2 : Hid (partV P A = none → allO (List.zipWith partV WS.tail names) = none) := Lib.hid (by
            intro hm
            rw [hm] at hz
            exact allO_bad _ k hz)
          clear hz n0 p0 hA hP hAl hPl
          have LR := Lib.hid (LL.out.below HB.out)
          have hkN : (k : Int) < (N : Int) := by omega
          have hkM : (k : Int) + 1 < (N : Int) + 1 := by omega
          have hk0 : (0 : Int) ≤ (k : Int) := by omega
          have hk1 : (0 : Int) ≤ (k : Int) + 1 := by omega
          have hkw : IntKind.i64.wrap ((k : Int) + 1) = (k : Int) + 1 := by rw [IntKind.wrap_i64]; omega
          have ht : ((k : Int) + 1).toNat = k + 1 := by omega
          obtain ⟨pv, hpv⟩ : ∃ pv, partV P A = pv := ⟨_, rfl⟩
          rw [hpv] at TK HT2 HF2
          clear hpv
          generalize strL P = PB at *
          generalize strL A = AB at *
          go_wp2_with fail
          refine (TK.out _ LR.out GR.out GO.out HC.out.size HO.out).mono ?_
          rintro ee w2 ⟨rfl, v', n, hm, G1, G2, G3, G4⟩
          have HM2 := Lib.hid hm
          have KR := Lib.hid G1
          have KO := Lib.hid G2
          have KW := Lib.hid G3
          have KC := Lib.hid (HC.out.trans G4)
          clear hm G1 G2 G3 G4
          go_wp2_with fail
          go_roundg (N - (k + 1))
          case measure => omega
          case rel => exact ⟨k + 1, b && pv.isSome, v', vs ++ [n], by omega, rfl, by go_num, by rw [List.length_append, hvl]; rfl, KO, KR, KW, KC, Lib.hid (by
            intro h
            rw [Bool.and_eq_true] at h
            obtain ⟨m, hm⟩ := Option.isSome_iff_exists.1 h.2
            rw [← HM2.out m hm]
            exact HT2.out h.1 m hm), Lib.hid (by
            intro h
            cases hb : b with
            | false => exact HF.out hb
            | true =>
              rw [hb, Bool.true_and] at h
              exact HF2.out (by cases hp : pv with
                | none => rfl
                | some m => rw [hp] at h; cases h))⟩
        · obtain rfl : k = N := by omega
          have c0 := GR.out.cell (i := 0) rfl
          have c1 := GO.out.cell (i := 0) rfl
          cases b with
          | true =>
            have hR := HR3.out vs (by first | rfl | trivial) HX0.out (by have h := HT.out rfl; rw [List.take_of_length_le] at h; exact h; rw [List.length_zipWith, List.length_tail, HM.out, HN.out]; omega)
            have HR := Lib.hid hR
            clear hR HR3 HR2 HT HF
            go_wp2_with fail
            go_ret2
            exact ⟨_, by rw [(Prod.mk.inj HR.out).2]; rfl, by rw [(Prod.mk.inj HR.out).1]; exact HO.out.lower HB1.out.size, HB.out⟩
          | false =>
            have HR := Lib.hid (HR2.out (HF.out rfl))
            clear HR3 HR2 HT HF
            go_wp2_with fail
            go_ret2
            exact ⟨_, by rw [(Prod.mk.inj HR.out).2]; rfl, by rw [(Prod.mk.inj HR.out).1]; exact OwnN.nil _ _, HB.out⟩
    · have hxw : xb ≠ wb := by intro h; rw [← hxb, ← HWB.out] at h; exact hx (strL_inj h)
      have hq1 := beq_str_ne hxw
      have hq2 := bne_str_ne hxw
      have HR := Lib.hid (HR1.out (by rintro ⟨_, h⟩; rw [hX0] at h; injection h with h; exact hx h))
      clear HR1 HR2 HR3 hx hxb hX0 hxw
      go_wp2_with fail
      go_ret2
      exact ⟨_, by rw [(Prod.mk.inj HR.out).2]; rfl, by rw [(Prod.mk.inj HR.out).1]; exact OwnN.nil _ _, HB1.out⟩
  · have HR := Lib.hid (HR1.out (by rintro ⟨h, _⟩; exact hMN h))
    have hne : ¬ (M : Int) = (N : Int) + 1 := by omega
    have hwr : IntKind.i64.wrap ((N : Int) + 1) = (N : Int) + 1 := by rw [IntKind.wrap_i64]; omega
    clear HR1 HR2 HR3
    go_wp2_with fail
    go_ret2
    exact ⟨_, by rw [(Prod.mk.inj HR.out).2]; rfl, by rw [(Prod.mk.inj HR.out).1]; exact OwnN.nil _ _, HB1.out⟩
theorem row_parse (s : ByteArray) (word : List UInt8) (vn : Value) (names : List (List UInt8)) (w : World) (hs : s.size ≤ 100000) (hn : RowS w vn (names.map strL)) (hn1 : names.length ≤ 1000) (hn2 : ∀ y ∈ names, y.length ≤ 60) (hL : Laid w) :
    Calls Tryz.prog 44 #[.string s, .string (strL word), vn] w fun e w' => ∃ v, e = .returned (.tuple #[v, .int .i64 (rowR (wordsL s.data.toList) word names).2]) ∧ RowN w' v (rowR (wordsL s.data.toList) word names).1 ∧ Below w.heap.size w w' := by
  refine (row_parse_own s word vn names w hs hn hn1 hn2 hL).mono ?_
  rintro e w' ⟨v, he, ho, hb⟩
  exact ⟨v, he, ho.row, hb⟩
end Go.Proofs.YtanihdpgblkeaaaGreatDoor

/-! RowRef -/
namespace Go.Proofs.YtanihdpgblkeaaaGreatDoor
open Go.RowKit
set_option linter.unusedVariables false
set_option linter.unusedSimpArgs false

theorem ext_take {P : List UInt8} {n : Nat} (h : n ≤ P.length) : (strL P).extract 0 n = strL (P.take n) := by
  apply ByteArray.ext
  rw [ByteArray.data_extract]
  apply Array.ext'
  simp [strL]
theorem ext_drop {P : List UInt8} {n : Nat} : (strL P).extract n (strL P).size = strL (P.drop n) := by
  apply ByteArray.ext
  rw [ByteArray.data_extract]
  apply Array.ext'
  simp [strL, ByteArray.size, ← List.length_drop]
theorem part_pre (P A : List UInt8) : (P.length < A.length + 1 → partV P A = none) ∧ (A.length + 1 ≤ P.length → P.take (A.length + 1) ≠ A ++ [61] → partV P A = none) ∧ (A.length + 1 ≤ P.length → P.take (A.length + 1) = A ++ [61] → partV P A = decV (P.drop (A.length + 1))) := by
  have hp : (A ++ [61]).isPrefixOf P = true ↔ (A ++ [61]) = P.take (A.length + 1) := by
    rw [List.isPrefixOf_iff_prefix, List.prefix_iff_eq_take]; simp
  unfold partV
  refine ⟨fun h => if_neg (fun h2 => ?_), fun _ h => if_neg (fun h2 => h (hp.1 h2).symm), fun _ h => if_pos (hp.2 h.symm)⟩
  have h3 := congrArg List.length (hp.1 h2)
  rw [List.length_take] at h3
  simp at h3
  omega
set_option maxRecDepth 100000 in
set_option maxHeartbeats 3200000 in
theorem ref07_parse (s : ByteArray) (word : List UInt8) (vn : Value) (names : List (List UInt8)) (w : World) (hs : s.size ≤ 100000) (hn : RowS w vn (names.map strL)) (hn1 : names.length ≤ 1000) (hn2 : ∀ y ∈ names, y.length ≤ 60) :
    Calls Tryz.prog 47 #[.string s, .string (strL word), vn] w fun e w' => ∃ v, e = .returned (.tuple #[v, .int .i64 (rowR (wordsL s.data.toList) word names).2]) ∧ RowN w' v (rowR (wordsL s.data.toList) word names).1 ∧ Below w.heap.size w w' := by
  obtain ⟨i0, hi, hz, hsize, hby⟩ : ∃ i, Tryz.prog.info? 3 = some i ∧ i.zero = some (.int .i64 0) ∧ i.size = 1 ∧ i.bytes = 8 := ⟨_, rfl, rfl, rfl, rfl⟩
  have HI := Lib.hid hi
  clear hi
  have WD := Lib.hid (ref06_words s hs w)
  have hwl := words_le s.data.toList
  have hsl : s.data.toList.length = s.size := (Lib.size_eq s).symm
  have hWL : (wordsL s.data.toList).length ≤ 100001 := by have := refW_len s.data.toList []; unfold wordsL; omega
  generalize wordsL s.data.toList = WS at *
  have hr1 := rowR_bad (ws := WS) (word := word) (names := names)
  have hr2 := rowR_none (ws := WS) (word := word) (names := names)
  have hr3 := fun ns => rowR_some (ws := WS) (word := word) (names := names) (ns := ns)
  obtain ⟨RR, hRR⟩ : ∃ R, rowR WS word names = R := ⟨_, rfl⟩
  rw [hRR] at hr1 hr2 ⊢
  simp only [hRR] at hr3
  obtain ⟨R1, R2⟩ := RR
  obtain ⟨pn, cn, rfl⟩ := hn.len
  rw [List.length_map] at hn ⊢
  obtain ⟨N, hN⟩ : ∃ N, names.length = N := ⟨_, rfl⟩
  obtain ⟨M, hM⟩ : ∃ M, WS.length = M := ⟨_, rfl⟩
  rw [hN] at hn hn1 hr1 ⊢
  simp only [hN] at hr3
  rw [hM] at hr1 hWL
  simp only [hM] at hr3
  have HPN := Lib.hid (rowS_pick_ hn hN)
  have HNL := Lib.hid hn2
  have HWL := Lib.hid (fun y (h : y ∈ WS) => show y.length ≤ 100000 by have := hwl y h; omega)
  have HR1 := Lib.hid hr1
  have HR2 := Lib.hid hr2
  have HR3 := Lib.hid hr3
  have HM := Lib.hid hM
  have HN := Lib.hid hN
  obtain ⟨wb, hwb⟩ : ∃ wb, strL word = wb := ⟨_, rfl⟩
  have HWB := Lib.hid hwb
  rw [hwb]
  clear hn hn2 hwl hr1 hr2 hr3 hM hN hwb hRR hsl
  go_enter Tryz.func47, Tryz.ntmps47
  go_wp2_with fail
  refine WD.out.mono ?_
  rintro ee w1 ⟨v8, rfl, how, hb1⟩
  obtain ⟨p8, c8, rfl⟩ := how.row.len
  have hrow := how.row
  rw [List.length_map] at hrow
  rw [List.length_map]
  rw [HM.out] at hrow
  rw [HM.out]
  have HPW := Lib.hid (rowS_pick_ hrow HM.out)
  have HB1 := Lib.hid hb1
  clear hrow how hb1 WD
  by_cases hMN : M = N + 1
  · subst hMN
    have hpos : (0 : Int) < ((N + 1 : Nat) : Int) := by omega
    obtain ⟨b0, o0, cp, X0, e1, hX0, x0, hb0⟩ := HPW.out 0 (by omega)
    cases e1
    rw [Nat.add_zero] at x0
    obtain ⟨xb, hxb⟩ : ∃ xb, strL X0 = xb := ⟨_, rfl⟩
    rw [hxb] at x0
    have hpush : ((N + 1 : Nat) : Int) = (N : Int) + 1 := by push_cast; rfl
    have hwr : IntKind.i64.wrap ((N : Int) + 1) = (N : Int) + 1 := by rw [IntKind.wrap_i64]; omega
    by_cases hx : X0 = word
    · have hxw : xb = wb := by rw [← hxb, hx, HWB.out]
      have hq1 := beq_str hxw
      have hq2 := bne_str hxw
      subst hx
      have HX0 := Lib.hid hX0
      clear hX0 hxb
      subst hxw
      replace HR1 := True.intro
      go_wp2_with fail
      go_loopg [9, 10] N (fun g v i wr => ∃ (k : Nat) (vs : List Int), k ≤ N ∧ g = N - k ∧ i = .int .i64 k ∧ vs.length = k ∧ Hid (OwnN w1.heap.size wr v vs) ∧ Hid (Below w1.heap.size w1 wr) ∧ Hid (allO ((List.zipWith partV WS.tail names).take k) = some vs))
      case atStart => exact ⟨0, [], Nat.zero_le _, rfl, rfl, rfl, Lib.hid (OwnN.nil _ _), Lib.hid (Below.refl _ _), Lib.hid rfl⟩
      case round =>
        obtain ⟨k, vs, hk, hg, rfl, hvl, HO, HC, HT⟩ := hrel
        have hg := hg.symm
        subst hg
        have HB := Lib.hid (HB1.out.trans (HC.out.mono HB1.out.size))
        by_cases hlt : k < N
        · obtain ⟨bn, on, cp, A, e1, hA, n0, hbn⟩ := HPN.out k (by omega)
          cases e1
          obtain ⟨bw, ow, cp, P, e1, hP, p0, hbw⟩ := HPW.out (k + 1) (by omega)
          cases e1
          have n1 := keepB HB.out n0 hbn
          have p1 := keepB HC.out p0 hbw
          have hAl := HNL.out A (List.mem_of_getElem? hA)
          have hPl := HWL.out P (List.mem_of_getElem? hP)
          have hz : (List.zipWith partV WS.tail names)[k]? = some (partV P A) := zip_at (by rw [List.getElem?_tail]; exact hP) hA
          obtain ⟨g1, g2, g3⟩ := part_pre P A
          have HT2 : Hid (∀ m, partV P A = some m → allO ((List.zipWith partV WS.tail names).take (k + 1)) = some (vs ++ [m])) := Lib.hid (by
            intro m hm
            rw [hm] at hz
            exact allO_take_some _ k vs m hz HT.out)
          have HF2 : Hid (partV P A = none → allO (List.zipWith partV WS.tail names) = none) := Lib.hid (by
            intro hm
            rw [hm] at hz
            exact allO_bad _ k hz)
          clear hz n0 p0 hA hP
          have hkN : (k : Int) < (N : Int) := by omega
          have hkM : (k : Int) + 1 < (N : Int) + 1 := by omega
          have hk0 : (0 : Int) ≤ (k : Int) := by omega
          have hk1 : (0 : Int) ≤ (k : Int) + 1 := by omega
          have hkw : IntKind.i64.wrap ((k : Int) + 1) = (k : Int) + 1 := by rw [IntKind.wrap_i64]; omega
          have ht : ((k : Int) + 1).toNat = k + 1 := by omega
          have hna : strL (A ++ [61]) = strL A ++ ⟨#[61]⟩ := by rw [strL_app]; rfl
          obtain ⟨a, ha⟩ : ∃ a, A.length = a := ⟨_, rfl⟩
          have hAs : (strL A).size = a := by rw [strL_size]; exact ha
          have hPs : (strL P).size = P.length := strL_size P
          rw [ha] at g1 g2 g3 hAl
          have hpa : ((a + 1 : Nat) : Int) = (a : Int) + 1 := by push_cast; rfl
          have haw : IntKind.i64.wrap ((a : Int) + 1) = (a : Int) + 1 := by rw [IntKind.wrap_i64]; omega
          have hat : ((a : Int) + 1).toNat = a + 1 := by omega
          have ha0 : (0 : Int) ≤ (a : Int) + 1 := by omega
          by_cases hlen : P.length < a + 1
          · have HR := Lib.hid (HR2.out (HF2.out (g1 hlen)))
            have hlI : ((P.length : Nat) : Int) < (a : Int) + 1 := by omega
            have hld : decide (((P.length : Nat) : Int) < (a : Int) + 1) = true := decide_eq_true hlI
            obtain ⟨q, hq⟩ : ∃ q, P.length = q := ⟨_, rfl⟩
            rw [hq] at hlI hld hPs
            clear hq
            clear g1 g2 g3 HT2 HF2 HT HR2 HR3 hna
            generalize strL P = PB at *
            generalize strL A = AB at *
            have hAs2 : (AB.size : Int) = (a : Int) := by rw [hAs]
            go_upto_region 9 with fail
            go_quiet (fail)
            go_wp2_with fail
            go_ret2
            exact ⟨_, by rw [(Prod.mk.inj HR.out).2]; rfl, by rw [(Prod.mk.inj HR.out).1]; exact .inl ⟨_, _, rfl, rfl⟩, HB.out.trans ((below_drewN _ _).mono HB.out.size)⟩
          · have hlI : (a : Int) + 1 ≤ ((P.length : Nat) : Int) := by omega
            have hle : a + 1 ≤ P.length := by omega
            have hex := ext_take hle
            have hex2 := ext_drop (P := P) (n := a + 1)
            have DP := Lib.hid (fun w => ref05_parse (strL (P.drop (a + 1))) (by rw [strL_size, List.length_drop]; omega) w)
            rw [strL_list] at DP
            have hq0 : ¬ (9223372036854775807 < a + 1) := by omega
            have hq3 : decide (9223372036854775807 < a + 1) = false := decide_eq_false hq0
            by_cases htk : P.take (a + 1) = A ++ [61]
            · have hs1 := bne_str (show (strL P).extract 0 (a + 1) = strL A ++ ⟨#[61]⟩ by rw [hex, htk, hna])
              have hs2 := beq_str (show (strL P).extract 0 (a + 1) = strL A ++ ⟨#[61]⟩ by rw [hex, htk, hna])
              replace g3 := g3 hle htk
              have hld : decide (((P.length : Nat) : Int) < (a : Int) + 1) = false := decide_eq_false (by omega)
              obtain ⟨q, hq⟩ : ∃ q, P.length = q := ⟨_, rfl⟩
              rw [hq] at hlI hld hPs
              rw [hPs] at hex2
              clear hq hlen hle hna hex htk g1 g2
              generalize strL (P.drop (a + 1)) = DB at *
              generalize strL P = PB at *
              generalize strL A = AB at *
              rcases decR_of (l := P.drop (a + 1)) with ⟨m, hm1, hm2⟩ | ⟨hm1, hm2⟩
              · rw [hm2] at DP
                have HT3 := Lib.hid (HT2.out m (by rw [g3, hm1]))
                clear hm1 hm2 g3 HT2 HF2
                go_upto_region 9 with fail
                go_quiet (fail)
                have p2 : (wr.drewN nq).cell? ⟨b0, o0 + (k + 1), none⟩ = some (.string PB) := p1
                replace HO := Lib.hid (HO.out.below (below_drewN wr nq) (Nat.le_refl _))
                replace HC := Lib.hid (HC.out.trans ((below_drewN wr nq).mono HC.out.size))
                replace HB := Lib.hid (HB1.out.trans (HC.out.mono HB1.out.size))
                go_wp2_with fail
                refine (DP.out _).mono ?_
                rintro ee w2 ⟨rfl, rfl⟩
                go_wp2_with (at_builtin; refine wpList_append_own _ rfl _ _ 60 rfl w1.heap.size 3 i0 (.int .i64 0) 1 8 Tryz.underlying60 HI.out hz hsize hby rfl (by decide) _ vs.length (vs.map (Value.int .i64)) rfl (HO.out.below ((Below.refl _ _).alloc (Nat.le_refl _) _) (Nat.le_refl _)) ⟨_, 0, none⟩ 1 1 [.int .i64 m] rfl rfl (cell_one_new _ _ _) (by intro u hu; simp at hu; subst hu; rfl) (by unfold maxLen; omega) (by omega) (by have := HC.out.size; simp at this ⊢; omega) ?_)
                intro v' w4 hown2 hgrow _
                have HO3 := Lib.hid (OwnN.mk (l := vs) (b := m) (by rw [hvl]; exact hown2))
                have HC3 := Lib.hid (OwnN.gby (HO.out.below ((Below.refl _ _).alloc (Nat.le_refl _) _) (Nat.le_refl _)) (HC.out.alloc HC.out.size _) (by have := HC.out.size; simp at this ⊢; omega) hgrow)
                clear hown2 hgrow
                go_wp2_with fail
                go_roundg (N - (k + 1))
                case measure => omega
                case rel => exact ⟨k + 1, vs ++ [m], by omega, rfl, by go_num, by rw [List.length_append, hvl]; rfl, HO3, HC3, HT3⟩
              · rw [hm2] at DP
                have HR := Lib.hid (HR2.out (HF2.out (by rw [g3, hm1])))
                clear hm1 hm2 g3 HT2 HF2 HR2 HR3
                go_upto_region 9 with fail
                go_quiet (fail)
                have p2 : (wr.drewN nq).cell? ⟨b0, o0 + (k + 1), none⟩ = some (.string PB) := p1
                go_wp2_with fail
                refine (DP.out _).mono ?_
                rintro ee w2 ⟨rfl, rfl⟩
                go_wp2_with fail
                go_ret2
                exact ⟨_, by rw [(Prod.mk.inj HR.out).2]; rfl, by rw [(Prod.mk.inj HR.out).1]; exact .inl ⟨_, _, rfl, rfl⟩, HB.out.trans ((below_drewN _ _).mono HB.out.size)⟩
            · have hs1 := bne_str_ne (show (strL P).extract 0 (a + 1) ≠ strL A ++ ⟨#[61]⟩ by rw [hex, ← hna]; intro h; exact htk (strL_inj h))
              have hs2 := beq_str_ne (show (strL P).extract 0 (a + 1) ≠ strL A ++ ⟨#[61]⟩ by rw [hex, ← hna]; intro h; exact htk (strL_inj h))
              have HR := Lib.hid (HR2.out (HF2.out (g2 hle htk)))
              have hld : decide (((P.length : Nat) : Int) < (a : Int) + 1) = false := decide_eq_false (by omega)
              obtain ⟨q, hq⟩ : ∃ q, P.length = q := ⟨_, rfl⟩
              rw [hq] at hlI hld hPs
              clear hq hlen hle hna hex htk g1 g2 g3 HT2 HF2 HT HR2 HR3 DP hex2
              generalize strL P = PB at *
              generalize strL A = AB at *
              go_upto_region 9 with fail
              go_quiet (fail)
              go_wp2_with fail
              go_ret2
              exact ⟨_, by rw [(Prod.mk.inj HR.out).2]; rfl, by rw [(Prod.mk.inj HR.out).1]; exact .inl ⟨_, _, rfl, rfl⟩, HB.out.trans ((below_drewN _ _).mono HB.out.size)⟩
        · obtain rfl : k = N := by omega
          have hR := HR3.out vs (by first | rfl | trivial) HX0.out (by have h := HT.out; rw [List.take_of_length_le] at h; exact h; rw [List.length_zipWith, List.length_tail, HM.out, HN.out]; omega)
          have HR := Lib.hid hR
          clear hR HR3 HR2 HT
          go_wp2_with fail
          go_ret2
          exact ⟨_, by rw [(Prod.mk.inj HR.out).2]; rfl, by rw [(Prod.mk.inj HR.out).1]; exact HO.out.row, HB.out⟩
    · have hxw : xb ≠ wb := by intro h; rw [← hxb, ← HWB.out] at h; exact hx (strL_inj h)
      have hq1 := beq_str_ne hxw
      have hq2 := bne_str_ne hxw
      have HR := Lib.hid (HR1.out (by rintro ⟨_, h⟩; rw [hX0] at h; injection h with h; exact hx h))
      clear HR1 HR2 HR3 hx hxb hX0 hxw
      go_wp2_with fail
      go_ret2
      exact ⟨_, by rw [(Prod.mk.inj HR.out).2]; rfl, by rw [(Prod.mk.inj HR.out).1]; exact .inl ⟨_, _, rfl, rfl⟩, HB1.out⟩
  · have HR := Lib.hid (HR1.out (by rintro ⟨h, _⟩; exact hMN h))
    have hne : ¬ (M : Int) = (N : Int) + 1 := by omega
    have hwr : IntKind.i64.wrap ((N : Int) + 1) = (N : Int) + 1 := by rw [IntKind.wrap_i64]; omega
    clear HR1 HR2 HR3
    go_wp2_with fail
    go_ret2
    exact ⟨_, by rw [(Prod.mk.inj HR.out).2]; rfl, by rw [(Prod.mk.inj HR.out).1]; exact .inl ⟨_, _, rfl, rfl⟩, HB1.out⟩
/-- The first word of a line: the program's, and the reference's. -/
theorem row_word (s : ByteArray) (hs : s.size ≤ 100000) (w : World) :
    Calls Tryz.prog 56 #[.string s] w fun e w' => e = .returned (.string (strL (wordR (wordsL s.data.toList)))) ∧ Below w.heap.size w w' := by
  have WD := Lib.hid (words_words s hs w)
  generalize wordsL s.data.toList = WS at *
  obtain ⟨R, hR⟩ : ∃ R, strL (wordR WS) = R := ⟨_, rfl⟩
  have HR := Lib.hid hR
  rw [hR]
  clear hR
  go_enter Tryz.func56, Tryz.ntmps56
  go_wp2_with fail
  refine WD.out.mono ?_
  rintro ee w1 ⟨v8, rfl, how, hb1⟩
  have HB := Lib.hid hb1
  have hrow := how.row
  clear how hb1 WD
  cases WS with
  | nil =>
    obtain ⟨p8, c8, rfl⟩ := hrow.len
    go_wp2_with fail
    go_ret
    exact ⟨by rw [← HR.out]; rfl, HB.out⟩
  | cons x r =>
    obtain ⟨b, off, cap, y, rfl, hy, hc⟩ := RowS.at hrow (j := 0) (by simp)
    rw [Nat.add_zero] at hc
    obtain rfl : strL x = y := by simpa using hy
    have hpos : (0 : Int) < (((x :: r).map strL).length : Int) := by first | (simp; done) | (simp; omega)
    have hne : ¬ (((x :: r).map strL).length : Int) = 0 := by first | (simp; done) | (simp; omega)
    have HX : Hid (strL x = R) := Lib.hid HR.out
    clear HR
    generalize ((x :: r).map strL).length = n at *
    have hne2 : ¬ n = 0 := by omega
    clear hy hrow
    generalize strL x = xb at *
    obtain rfl : xb = R := HX.out
    clear HX
    go_wp2_with fail
    go_ret
    exact ⟨rfl, HB.out⟩
/-- Few names, of few bytes. -/
def fewB (l : List (List UInt8)) : Bool := l.all (fun x => decide (x.length ≤ 60)) && decide (l.length ≤ 16)
theorem fewB_iff (l : List (List UInt8)) : fewB l = true ↔ (∀ y ∈ l, y.length ≤ 60) ∧ l.length ≤ 16 := by
  unfold fewB; simp
end Go.Proofs.YtanihdpgblkeaaaGreatDoor
