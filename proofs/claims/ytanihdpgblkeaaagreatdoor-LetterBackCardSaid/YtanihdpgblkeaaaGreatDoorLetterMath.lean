/-
  Messages as texts (reeve's layer 36): the plain law.
-/
import Derived.Test.YtanihdpgblkeaaaGreatDoorRowAll
import Derived.Test.YtanihdpgblkeaaaGreatDoorMsgRefPure
namespace Go.Proofs.YtanihdpgblkeaaaGreatDoor
open Go.RowKit
set_option linter.unusedVariables false
set_option linter.unusedSimpArgs false

/-- A kind's word. -/
def kindWM (k : Int) : List UInt8 :=
  if k = 1 then [104, 101, 108, 108, 111] else if k = 2 then [97, 99, 107] else if k = 3 then [100, 111] else if k = 4 then [115, 116, 111, 112] else if k = 5 then [100, 111, 110, 101] else if k = 6 then [115, 117, 98, 109, 105, 116] else if k = 7 then [99, 97, 110, 99, 101, 108] else if k = 8 then [97, 110, 115, 119, 101, 114] else []
/-- The name of what stands at a place of a message. -/
def partWM (o : Nat) : List UInt8 :=
  if o = 3 then [101, 112, 111, 99, 104] else if o = 4 then [105, 110, 99] else if o = 5 then [106, 111, 98] else if o = 6 then [116, 105, 99, 107] else if o = 7 then [112, 114, 105, 111] else if o = 8 then [99, 111, 100, 101] else if o = 9 then [99, 111, 114, 101, 115] else if o = 10 then [109, 101, 109, 111, 114, 121] else if o = 11 then [100, 105, 115, 107] else []
def namesWM (k : Int) : List (List UInt8) := (offsM k).map partWM
/-- The first three words of a message's line. -/
def headM (l : List Int) : List UInt8 := Lib.join [kindWM (fld l 0), nameM (fld l 1), nameM (fld l 2)] [32]
/-- The line of a message. -/
def lineM (l : List Int) : List UInt8 × Int := if checkM l = 0 then (rowL (headM l) (namesWM (fld l 0)) (numsM l), 0) else ([], checkM l)
/-- The message of words, as of one kind. -/
def parseKM (k f t : Int) (ws : List (List UInt8)) : Option (List Int) :=
  if (rowR ws (kindWM k) (namesWM k)).2 = 0 then (if checkM (layZ (offsM k) (rowR ws (kindWM k) (namesWM k)).1 (bare3 k f t)) = 0 then some (layZ (offsM k) (rowR ws (kindWM k) (namesWM k)).1 (bare3 k f t)) else none) else none
/-- The first kind, from one on, as which words are a message's. -/
def firstKM (f t : Int) (ws : List (List UInt8)) : Nat → Nat → Option (List Int)
  | _, 0 => none
  | k, n + 1 => match parseKM k f t ws with
    | some v => some v
    | none => firstKM f t ws (k + 1) n
def parseGM (f t : Int) (ws : List (List UInt8)) : List Int × Int := match firstKM f t ws 1 8 with
  | some v => (v, 0)
  | none => (bare3 0 0 0, 2)
/-- The words but the second and the third. -/
def cutM (ws : List (List UInt8)) : List (List UInt8) := ws.take 1 ++ ws.drop 3
def parseM (ws : List (List UInt8)) : List Int × Int :=
  if ws.length < 3 then (bare3 0 0 0, 2)
  else if (parseN (ws.getD 1 [])).2 = true ∧ (parseN (ws.getD 2 [])).2 = true then parseGM (parseN (ws.getD 1 [])).1 (parseN (ws.getD 2 [])).1 (cutM ws)
  else (bare3 0 0 0, 2)
theorem parseKM_word {ws : List (List UInt8)} {k f t : Int} {v : List Int} (h : parseKM k f t ws = some v) : ws[0]? = some (kindWM k) := by
  unfold parseKM at h
  split at h
  · rename_i h2
    unfold rowR at h2
    split at h2
    · rename_i h3; exact h3.2
    · simp at h2
  · cases h
theorem parseKM_not {ws : List (List UInt8)} {k f t : Int} (h : ws[0]? ≠ some (kindWM k)) : parseKM k f t ws = none := by
  cases hp : parseKM k f t ws with
  | none => rfl
  | some v => exact absurd (parseKM_word hp) h
theorem kind_eight {a : Nat} (h : 1 ≤ a ∧ a ≤ 8) : a = 1 ∨ a = 2 ∨ a = 3 ∨ a = 4 ∨ a = 5 ∨ a = 6 ∨ a = 7 ∨ a = 8 := by omega
theorem kindWM_inj {a b : Nat} (h1 : 1 ≤ a ∧ a ≤ 8) (h2 : 1 ≤ b ∧ b ≤ 8) (h : kindWM a = kindWM b) : a = b := by
  rcases kind_eight h1 with rfl | rfl | rfl | rfl | rfl | rfl | rfl | rfl <;> rcases kind_eight h2 with rfl | rfl | rfl | rfl | rfl | rfl | rfl | rfl <;> first | rfl | (exfalso; revert h; decide)
theorem firstKM_none {ws : List (List UInt8)} {f t : Int} : ∀ (n k : Nat), (∀ j, k ≤ j → j < k + n → ws[0]? ≠ some (kindWM j)) → firstKM f t ws k n = none := by
  intro n
  induction n with
  | zero => intro k _; rfl
  | succ n ih =>
    intro k h
    unfold firstKM
    rw [parseKM_not (h k (Nat.le_refl _) (by omega))]
    exact ih (k + 1) (fun j h1 h2 => h j (by omega) (by omega))
theorem firstKM_at {ws : List (List UInt8)} {f t : Int} (q : Nat) : ∀ (n k : Nat), k ≤ q → q < k + n → (∀ j, k ≤ j → j < k + n → j ≠ q → ws[0]? ≠ some (kindWM j)) → firstKM f t ws k n = parseKM q f t ws := by
  intro n
  induction n with
  | zero => intro k h1 h2; omega
  | succ n ih =>
    intro k h1 h2 h
    unfold firstKM
    by_cases hk : k = q
    · subst hk
      cases hp : parseKM k f t ws with
      | some v => rfl
      | none => exact firstKM_none n (k + 1) (fun j h3 h4 => h j (by omega) (by omega) (by omega))
    · rw [parseKM_not (h k (Nat.le_refl _) (by omega) hk)]
      exact ih (k + 1) (by omega) (by omega) (fun j h3 h4 => h j (by omega) (by omega))
/-- Words that begin with a kind's word are a message's as of that kind, or none's. -/
theorem parseGM_at {ws : List (List UInt8)} {f t : Int} {q : Nat} (hq : 1 ≤ q ∧ q ≤ 8) (h : ws[0]? = some (kindWM q)) : parseGM f t ws = match parseKM q f t ws with
    | some v => (v, 0)
    | none => (bare3 0 0 0, 2) := by
  unfold parseGM
  rw [firstKM_at q 8 1 (by omega) (by omega) (fun j h1 h2 h3 h4 => h3 (by
    rw [h] at h4; injection h4 with h4; exact (kindWM_inj hq (by omega) h4).symm))]
theorem parseGM_none {ws : List (List UInt8)} {f t : Int} (h : ∀ j : Nat, 1 ≤ j → j ≤ 8 → ws[0]? ≠ some (kindWM j)) : parseGM f t ws = (bare3 0 0 0, 2) := by
  unfold parseGM
  rw [firstKM_none 8 1 (fun j h1 h2 => h j h1 (by omega))]
theorem kindWM_plain {k : Nat} (h : 1 ≤ k ∧ k ≤ 8) : kindWM k ≠ [] ∧ ∀ c ∈ kindWM k, plainB c := by
  unfold plainB
  rcases kind_eight h with rfl | rfl | rfl | rfl | rfl | rfl | rfl | rfl <;> decide
theorem partWM_plain (o : Nat) : ∀ c ∈ partWM o, plainB c := by
  unfold plainB partWM
  repeat' split
  all_goals decide
theorem partWM_len (o : Nat) : (partWM o).length ≤ 60 := by
  unfold partWM
  repeat' split
  all_goals decide
theorem kindWM_len (k : Int) : (kindWM k).length ≤ 6 := by
  unfold kindWM
  repeat' split
  all_goals decide
theorem nameM_len (n : Int) : (nameM n).length ≤ 30 := by
  have hp := place_cases n
  unfold nameM
  have hb : ∀ k : Int, 0 ≤ k → k ≤ 200 → (Lib.itoa k).length ≤ 20 := fun k h1 h2 => itoa_len k ⟨by omega, by omega⟩
  rcases hp with ⟨h1, h2, h3⟩ | ⟨h1, h2, h3⟩ | ⟨h1, _⟩ | ⟨h1, _⟩ <;> rw [h1]
  · have := hb n h2 (by omega); simp; omega
  · have := hb (n - 100) (by omega) (by omega); simp; omega
  · simp
  · simp
theorem nameM_plain (n : Int) (h : 0 < placeI n) : nameM n ≠ [] ∧ ∀ c ∈ nameM n, plainB c := by
  have hp := place_cases n
  unfold nameM
  rcases hp with ⟨h1, h2, h3⟩ | ⟨h1, h2, h3⟩ | ⟨h1, _⟩ | ⟨h1, _⟩ <;> rw [h1]
  · refine ⟨by simp, fun c hc => ?_⟩
    simp at hc
    rcases hc with rfl | hc
    · unfold plainB; decide
    · exact itoa_plain n c hc
  · refine ⟨by simp, fun c hc => ?_⟩
    simp at hc
    rcases hc with rfl | hc
    · unfold plainB; decide
    · exact itoa_plain _ c hc
  · refine ⟨by simp, fun c hc => ?_⟩
    simp at hc
    subst hc; unfold plainB; decide
  · omega
theorem namesWM_len (k : Int) : (namesWM k).length ≤ 5 ∧ ∀ a ∈ namesWM k, a.length ≤ 60 := by
  refine ⟨by unfold namesWM; rw [List.length_map]; exact offsM_length k, fun a ha => ?_⟩
  unfold namesWM at ha
  rw [List.mem_map] at ha
  obtain ⟨o, _, rfl⟩ := ha
  exact partWM_len o
theorem namesWM_plain (k : Int) : ∀ a ∈ namesWM k, ∀ c ∈ a, plainB c := by
  intro a ha
  unfold namesWM at ha
  rw [List.mem_map] at ha
  obtain ⟨o, _, rfl⟩ := ha
  exact partWM_plain o
theorem numsM_in {l : List Int} (h : wfI l) : ∀ n ∈ numsM l, inI n := by
  intro n hn
  unfold numsM at hn
  rw [List.mem_map] at hn
  obtain ⟨o, _, rfl⟩ := hn
  exact wfI_fld h o
theorem numsM_len (l : List Int) : (numsM l).length = (namesWM (fld l 0)).length := by unfold numsM namesWM; rw [List.length_map, List.length_map]
theorem headM_len (l : List Int) : (headM l).length ≤ 100 := by
  unfold headM
  have h1 := kindWM_len (fld l 0)
  have h2 := nameM_len (fld l 1)
  have h3 := nameM_len (fld l 2)
  rw [Lib.join_cons]
  simp [Lib.joinTail]
  omega
theorem join_head3 (a b c : List UInt8) (r : List (List UInt8)) : Lib.join (Lib.join [a, b, c] [32] :: r) [32] = Lib.join (a :: b :: c :: r) [32] := by
  rw [Lib.join_cons, Lib.join_cons, Lib.join_cons]; simp [Lib.joinTail]
theorem check_places {l : List Int} (h : checkM l = 0) : 0 < placeI (fld l 1) ∧ 0 < placeI (fld l 2) := by
  have h3 := (checkM_ok h).2.2.1
  have hw : 1 ≤ (waysF (fld l 0)).1 ∧ 1 ≤ (waysF (fld l 0)).2 := by unfold waysF; (repeat' split) <;> exact ⟨by decide, by decide⟩
  rw [← h3] at hw
  exact ⟨by have := hw.1; simp only at this; omega, by have := hw.2; simp only at this; omega⟩
/-- The words of a message's line. -/
theorem lineM_split (l : List Int) (h : checkM l = 0) : wordsL (lineM l).1 = kindWM (fld l 0) :: nameM (fld l 1) :: nameM (fld l 2) :: rowP (namesWM (fld l 0)) (numsM l) := by
  have hk := checkM_kind h
  obtain ⟨kn, hkn⟩ : ∃ kn : Nat, fld l 0 = kn := ⟨(fld l 0).toNat, by omega⟩
  obtain ⟨p1, p2⟩ := kindWM_plain (k := kn) (by omega)
  rw [← hkn] at p1 p2
  obtain ⟨q1, q2⟩ := check_places h
  have n1 := nameM_plain _ q1
  have n2 := nameM_plain _ q2
  have e : (lineM l).1 = Lib.join (kindWM (fld l 0) :: nameM (fld l 1) :: nameM (fld l 2) :: rowP (namesWM (fld l 0)) (numsM l)) [32] := by
    unfold lineM rowL headM
    rw [if_pos h]
    exact join_head3 _ _ _ _
  rw [e]
  refine words_join0 _ _ (fun y hy => ?_)
  simp only [List.mem_cons] at hy
  rcases hy with rfl | rfl | rfl | hy
  · exact ⟨p1, fun c hc => plainB_ok (p2 c hc)⟩
  · exact ⟨n1.1, fun c hc => plainB_ok (n1.2 c hc)⟩
  · exact ⟨n2.1, fun c hc => plainB_ok (n2.2 c hc)⟩
  · exact rowP_plain _ (namesWM_plain _) _ y hy
/-- A message's line tells the message again. -/
theorem parse_lineM (l : List Int) (hw : wfI l) (h : checkM l = 0) : parseM (wordsL (lineM l).1) = (l, 0) := by
  have hk := checkM_kind h
  obtain ⟨kn, hkn⟩ : ∃ kn : Nat, fld l 0 = kn := ⟨(fld l 0).toNat, by omega⟩
  have hb : 1 ≤ kn ∧ kn ≤ 8 := by omega
  have hoff := (checkM_ok h).1
  have hpure := (checkM_ok h).2.1
  obtain ⟨q1, q2⟩ := check_places h
  have hlen : (namesWM kn).length = (numsM l).length := by rw [numsM_len, hkn]
  rw [lineM_split l h]
  unfold parseM
  rw [if_neg (by simp)]
  show (if (parseN (nameM (fld l 1))).2 = true ∧ (parseN (nameM (fld l 2))).2 = true then parseGM (parseN (nameM (fld l 1))).1 (parseN (nameM (fld l 2))).1 (cutM _) else _) = _
  rw [parseN_name _ q1, parseN_name _ q2, if_pos ⟨rfl, rfl⟩]
  have hcut : cutM (kindWM (fld l 0) :: nameM (fld l 1) :: nameM (fld l 2) :: rowP (namesWM (fld l 0)) (numsM l)) = kindWM kn :: rowP (namesWM kn) (numsM l) := by rw [hkn]; rfl
  rw [hcut]
  have hr := row_back (kindWM kn) (namesWM kn) (numsM l) (by omega) (numsM_in hw)
  rw [hlen, List.take_length] at hr
  rw [parseGM_at (q := kn) hb rfl]
  unfold parseKM
  rw [hr, if_pos rfl]
  have hm := mmade_pure l hoff
  rw [hkn] at hm
  rw [hm, hpure, if_pos h]
theorem parseGM_length (f t : Int) (ws : List (List UInt8)) : (parseGM f t ws).1.length = 12 := by
  have hf : ∀ (n k : Nat) (v : List Int), firstKM f t ws k n = some v → v.length = 12 := by
    intro n
    induction n with
    | zero => intro k v h; cases h
    | succ n ih =>
      intro k v h
      unfold firstKM at h
      cases hp : parseKM k f t ws with
      | some u =>
        rw [hp] at h
        injection h with h
        subst h
        unfold parseKM at hp
        split at hp
        · split at hp
          · injection hp with hp; subst hp; rw [layZ_length]; rfl
          · cases hp
        · cases hp
      | none => rw [hp] at h; exact ih _ _ h
  unfold parseGM
  cases h : firstKM f t ws 1 8 with
  | some v => exact hf _ _ _ h
  | none => rfl
theorem parseM_length (ws : List (List UInt8)) : (parseM ws).1.length = 12 := by
  unfold parseM
  split
  · rfl
  · split
    · exact parseGM_length _ _ _
    · rfl
end Go.Proofs.YtanihdpgblkeaaaGreatDoor
