/-
  Events as texts (reeve's layer 19): the plain law.
-/
import Derived.Test.YtanihdpgblkeaaaGreatDoorRowAll
import Derived.Test.YtanihdpgblkeaaaGreatDoorEventAll
import Derived.Test.YtanihdpgblkeaaaGreatDoorRefAll
namespace Go.Proofs.YtanihdpgblkeaaaGreatDoor
open Go.RowKit
set_option linter.unusedVariables false
set_option linter.unusedSimpArgs false

theorem check_kind_p {l : List Int} (h : checkL l = 0) : offs (fld l 0) ≠ [] ∧ 1 ≤ fld l 0 ∧ fld l 0 ≤ 7 := by
  have h1 : offs (fld l 0) ≠ [] := by
    intro e; unfold checkL at h; rw [if_pos e] at h; omega
  refine ⟨h1, ?_⟩
  rcases kind_cases (fld l 0) with e | e | e | e | e | e | e | e
  all_goals first | omega | exact absurd (offs_none e) h1
theorem check_cases_p (l : List Int) : checkL l = 0 ∨ checkL l = 1 ∨ checkL l = 5 := by
  unfold checkL; split
  · simp
  · split <;> simp
theorem check_pure_p {l : List Int} (h : checkL l = 0) : pureL l = l ∧ rightL l = true := by
  have h1 := (check_kind_p h).1
  unfold checkL at h
  rw [if_neg h1] at h
  by_cases h2 : pureL l ≠ l ∨ rightL l = false
  · rw [if_pos h2] at h; omega
  · exact ⟨Classical.not_not.1 fun e => h2 (.inl e), by cases hr : rightL l; exact absurd (.inr hr) h2; rfl⟩
/-- A kind's word. -/
def kindW (k : Int) : List UInt8 :=
  if k = 1 then [106, 111, 105, 110] else if k = 2 then [114, 101, 115, 105, 122, 101] else if k = 3 then [103, 111, 110, 101] else if k = 4 then [115, 117, 98, 109, 105, 116] else if k = 5 then [99, 97, 110, 99, 101, 108] else if k = 6 then [114, 117, 110] else if k = 7 then [100, 111, 110, 101] else []
/-- The name of what stands at a place of an event. -/
def partW (o : Nat) : List UInt8 :=
  if o = 1 then [110, 111, 100, 101] else if o = 3 then [105, 110, 99] else if o = 2 then [106, 111, 98] else if o = 4 then [112, 114, 105, 111] else if o = 5 then [99, 111, 114, 101, 115] else if o = 6 then [109, 101, 109, 111, 114, 121] else if o = 7 then [100, 105, 115, 107] else []
def namesW (k : Int) : List (List UInt8) := (offs k).map partW
/-- The line of an event. -/
def lineR (l : List Int) : List UInt8 × Int := if checkL l = 0 then (rowL (kindW (fld l 0)) (namesW (fld l 0)) (numsL l), 0) else ([], checkL l)
/-- The event of words, as of one kind. -/
def parseK (k : Int) (ws : List (List UInt8)) : Option (List Int) :=
  if (rowR ws (kindW k) (namesW k)).2 = 0 then (if checkL (layZ (offs k) (rowR ws (kindW k) (namesW k)).1 (bare k)) = 0 then some (layZ (offs k) (rowR ws (kindW k) (namesW k)).1 (bare k)) else none) else none
/-- The first kind, from one on, as which words are an event's. -/
def firstK (ws : List (List UInt8)) : Nat → Nat → Option (List Int)
  | _, 0 => none
  | k, n + 1 => match parseK k ws with
    | some v => some v
    | none => firstK ws (k + 1) n
def parseR (ws : List (List UInt8)) : List Int × Int := match firstK ws 1 7 with
  | some v => (v, 0)
  | none => (bare 0, 2)
theorem rowR_word {ws : List (List UInt8)} {word : List UInt8} {names : List (List UInt8)} (h : (rowR ws word names).2 = 0) : ws[0]? = some word := by
  unfold rowR at h
  split at h
  · rename_i h2; exact h2.2
  · simp at h
theorem parseK_word {ws : List (List UInt8)} {k : Int} {v : List Int} (h : parseK k ws = some v) : ws[0]? = some (kindW k) := by
  unfold parseK at h
  split at h
  · rename_i h2; exact rowR_word h2
  · cases h
theorem parseK_not {ws : List (List UInt8)} {k : Int} (h : ws[0]? ≠ some (kindW k)) : parseK k ws = none := by
  cases hp : parseK k ws with
  | none => rfl
  | some v => exact absurd (parseK_word hp) h
theorem kindW_inj {a b : Nat} (h1 : 1 ≤ a ∧ a ≤ 7) (h2 : 1 ≤ b ∧ b ≤ 7) (h : kindW a = kindW b) : a = b := by
  have ha : a = 1 ∨ a = 2 ∨ a = 3 ∨ a = 4 ∨ a = 5 ∨ a = 6 ∨ a = 7 := by omega
  have hb : b = 1 ∨ b = 2 ∨ b = 3 ∨ b = 4 ∨ b = 5 ∨ b = 6 ∨ b = 7 := by omega
  rcases ha with rfl | rfl | rfl | rfl | rfl | rfl | rfl <;> rcases hb with rfl | rfl | rfl | rfl | rfl | rfl | rfl <;> first | rfl | (exfalso; revert h; decide)
theorem firstK_none {ws : List (List UInt8)} : ∀ (n k : Nat), (∀ j, k ≤ j → j < k + n → ws[0]? ≠ some (kindW j)) → firstK ws k n = none := by
  intro n
  induction n with
  | zero => intro k _; rfl
  | succ n ih =>
    intro k h
    unfold firstK
    rw [parseK_not (h k (Nat.le_refl _) (by omega))]
    exact ih (k + 1) (fun j h1 h2 => h j (by omega) (by omega))
theorem firstK_at {ws : List (List UInt8)} (q : Nat) : ∀ (n k : Nat), k ≤ q → q < k + n → (∀ j, k ≤ j → j < k + n → j ≠ q → ws[0]? ≠ some (kindW j)) → firstK ws k n = parseK q ws := by
  intro n
  induction n with
  | zero => intro k h1 h2; omega
  | succ n ih =>
    intro k h1 h2 h
    unfold firstK
    by_cases hk : k = q
    · subst hk
      cases hp : parseK k ws with
      | some v => rfl
      | none =>
        refine firstK_none n (k + 1) (fun j h3 h4 => h j (by omega) (by omega) (by omega))
    · rw [parseK_not (h k (Nat.le_refl _) (by omega) hk)]
      exact ih (k + 1) (by omega) (by omega) (fun j h3 h4 => h j (by omega) (by omega))
/-- Words that begin with a kind's word are an event's as of that kind, or none's. -/
theorem parseR_at {ws : List (List UInt8)} {q : Nat} (hq : 1 ≤ q ∧ q ≤ 7) (h : ws[0]? = some (kindW q)) : parseR ws = match parseK q ws with
    | some v => (v, 0)
    | none => (bare 0, 2) := by
  unfold parseR
  rw [firstK_at q 7 1 (by omega) (by omega) (fun j h1 h2 h3 h4 => h3 (by
    rw [h] at h4; injection h4 with h4; exact (kindW_inj hq (by omega) h4).symm))]
theorem parseR_none {ws : List (List UInt8)} (h : ∀ j : Nat, 1 ≤ j → j ≤ 7 → ws[0]? ≠ some (kindW j)) : parseR ws = (bare 0, 2) := by
  unfold parseR
  rw [firstK_none 7 1 (fun j h1 h2 => h j h1 (by omega))]
theorem kindW_plain {k : Nat} (h : 1 ≤ k ∧ k ≤ 7) : kindW k ≠ [] ∧ ∀ c ∈ kindW k, plainB c := by
  have ha : k = 1 ∨ k = 2 ∨ k = 3 ∨ k = 4 ∨ k = 5 ∨ k = 6 ∨ k = 7 := by omega
  unfold plainB
  rcases ha with rfl | rfl | rfl | rfl | rfl | rfl | rfl <;> decide
theorem partW_plain (o : Nat) : ∀ c ∈ partW o, plainB c := by
  unfold plainB partW
  repeat' split
  all_goals decide
theorem partW_len (o : Nat) : (partW o).length ≤ 60 := by
  unfold partW
  repeat' split
  all_goals decide
theorem kindW_len (k : Int) : (kindW k).length ≤ 100 := by
  unfold kindW
  repeat' split
  all_goals decide
theorem namesW_len (k : Int) : (namesW k).length ≤ 5 ∧ ∀ a ∈ namesW k, a.length ≤ 60 := by
  refine ⟨by unfold namesW; rw [List.length_map]; exact offs_length k, fun a ha => ?_⟩
  unfold namesW at ha
  rw [List.mem_map] at ha
  obtain ⟨o, _, rfl⟩ := ha
  exact partW_len o
theorem namesW_plain (k : Int) : ∀ a ∈ namesW k, ∀ c ∈ a, plainB c := by
  intro a ha
  unfold namesW at ha
  rw [List.mem_map] at ha
  obtain ⟨o, _, rfl⟩ := ha
  exact partW_plain o
theorem numsL_in {l : List Int} (h : wfI l) : ∀ n ∈ numsL l, inI n := by
  intro n hn
  unfold numsL at hn
  rw [List.mem_map] at hn
  obtain ⟨o, _, rfl⟩ := hn
  exact wfI_fld h o
theorem numsL_len (l : List Int) : (numsL l).length = (namesW (fld l 0)).length := by unfold numsL namesW; rw [List.length_map, List.length_map]
/-- An event's line tells the event again. -/
theorem parse_line (l : List Int) (hw : wfI l) (h : checkL l = 0) : parseR (wordsL (lineR l).1) = (l, 0) := by
  have hk := check_kind_p h
  obtain ⟨kn, hkn⟩ : ∃ kn : Nat, fld l 0 = kn := ⟨(fld l 0).toNat, by omega⟩
  have hb : 1 ≤ kn ∧ kn ≤ 7 := by omega
  obtain ⟨p1, p2⟩ := kindW_plain hb
  have hoff : offs (fld l 0) ≠ [] := hk.1
  have hpure := (check_pure_p h).1
  have e : (lineR l).1 = rowL (kindW kn) (namesW kn) (numsL l) := by unfold lineR; rw [if_pos h, hkn]
  have hlen : (namesW kn).length = (numsL l).length := by rw [numsL_len, hkn]
  rw [e, row_words _ _ _ p1 p2 (namesW_plain _)]
  have hr := row_back (kindW kn) (namesW kn) (numsL l) (by omega) (numsL_in hw)
  rw [hlen, List.take_length] at hr
  rw [parseR_at (q := kn) hb rfl]
  unfold parseK
  rw [hr, if_pos rfl]
  have hm := made_pure l hoff
  rw [hkn] at hm
  rw [hm, hpure, if_pos h]
end Go.Proofs.YtanihdpgblkeaaaGreatDoor
