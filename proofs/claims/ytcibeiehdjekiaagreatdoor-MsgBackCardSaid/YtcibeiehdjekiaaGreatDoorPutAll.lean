/-
  EventPut, EventGet, RefPut, RefGet, EventLaw in one text.
-/
import Derived.Test.YtcibeiehdjekiaaGreatDoorEventAll
import Derived.Test.YtcibeiehdjekiaaGreatDoorOctAll
import Derived.Test.YtcibeiehdjekiaaGreatDoorRefAll
/-! EventPut -/
namespace Go.Proofs.YtcibeiehdjekiaaGreatDoor
open Go.RowKit
set_option linter.unusedVariables false
set_option linter.unusedSimpArgs false

/-- An event's bytes. -/
def putB (l : List Int) : List UInt8 := Oct.fixB (fld l 0).toNat 1 ++ (offs (fld l 0)).flatMap (fun o => varAny (fld l o))
def putS (l : List Int) : ByteArray := if checkL l = 0 then str (putB l) else str []
theorem varAny_length (n : Int) (h : n ≤ 9223372036854775807) : (varAny n).length ≤ 9 := by
  unfold varAny; split
  · simp
  · exact Oct.varB_nine _ (by omega)
theorem flat_length (l : List Int) (h : ∀ i, fld l i ≤ 9223372036854775807) (os : List Nat) : (os.flatMap (fun o => varAny (fld l o))).length ≤ 9 * os.length := by
  induction os with
  | nil => simp
  | cons o r ih =>
    rw [List.flatMap_cons, List.length_append, List.length_cons]
    have := varAny_length (fld l o) (h o)
    omega
/-- An event that may be: its kind. -/
theorem check_kind {l : List Int} (h : checkL l = 0) : offs (fld l 0) ≠ [] ∧ 1 ≤ fld l 0 ∧ fld l 0 ≤ 7 := by
  have h1 : offs (fld l 0) ≠ [] := by
    intro e; unfold checkL at h; rw [if_pos e] at h; omega
  refine ⟨h1, ?_⟩
  rcases kind_cases (fld l 0) with e | e | e | e | e | e | e | e
  all_goals first | omega | exact absurd (offs_none e) h1
theorem check_cases (l : List Int) : checkL l = 0 ∨ checkL l = 1 ∨ checkL l = 5 := by
  unfold checkL; split
  · simp
  · split <;> simp
theorem check_pure {l : List Int} (h : checkL l = 0) : pureL l = l ∧ rightL l = true := by
  have h1 := (check_kind h).1
  unfold checkL at h
  rw [if_neg h1] at h
  by_cases h2 : pureL l ≠ l ∨ rightL l = false
  · rw [if_pos h2] at h; omega
  · exact ⟨Classical.not_not.1 fun e => h2 (.inl e), by cases hr : rightL l; exact absurd (.inr hr) h2; rfl⟩
theorem lies_two : Lies 44 2 0 := lies_own
theorem chg_below {S : Nat → Prop} {w w' : World} (hb : Below w.heap.size w w') : Chg S w w' := ⟨hb.os, hb.tape, hb.output, hb.size, fun k hk _ => hb.block k hk⟩
theorem BldIn.below {cs : Array Value} {B b o : Nat} {w w' : World} {v : Value} {l : List UInt8} (h : BldIn cs B b o w v l) (hb : Below w.heap.size w w') : BldIn cs B b o w' v l :=
  ⟨h.1, h.2.1, own_kept h.2.2.1 (chg_below (S := fun _ => False) hb) (fun _ _ h => h), h.2.2.2⟩
theorem BldIn.fresh (b : Nat) (w : World) (B : Nat) : BldIn #[.pointer none, .slice none 0 0] B b 0 w (.slice none 0 0) [] := ⟨.inl rfl, rfl, World.ownsRowF_nil _ _ _ _, by simp [Value.ownBlock]⟩
/-- The bytes that are written so far. -/
def putPart (l : List Int) (i : Nat) : List UInt8 := Oct.fixB (fld l 0).toNat 1 ++ ((offs (fld l 0)).take i).flatMap (fun o => varAny (fld l o))
theorem putPart_succ (l : List Int) (i o : Nat) (h : (offs (fld l 0))[i]? = some o) : putPart l (i + 1) = putPart l i ++ varAny (fld l o) := by
  obtain ⟨hi, e⟩ := List.getElem?_eq_some_iff.1 h
  unfold putPart
  rw [List.take_succ_eq_append_getElem hi, List.flatMap_append, e]
  simp
theorem putPart_le (l : List Int) (h : ∀ i, fld l i ≤ 9223372036854775807) (i : Nat) : (putPart l i).length ≤ 46 := by
  unfold putPart
  have h1 := flat_length l h ((offs (fld l 0)).take i)
  have h2 := offs_length (fld l 0)
  rw [List.length_take] at h1
  rw [List.length_append, Oct.fixB_length]
  omega
end Go.Proofs.YtcibeiehdjekiaaGreatDoor

/-! EventGet -/
namespace Go.Proofs.YtcibeiehdjekiaaGreatDoor
open Go.RowKit
set_option linter.unusedVariables false
set_option linter.unusedSimpArgs false

/-- Numbers taken one by one, and laid at places; where that ended, and the error. -/
def getGo (s : ByteArray) : List Nat → Nat → List Int → List Int × Nat × Int
  | [], a, d => (d, a, 0)
  | o :: r, a, d =>
    match Oct.takeVar (rest s a) with
    | .short => (d, a, 3)
    | .form => (d, a, 2)
    | .num n k => getGo s r (a + k) (d.set o n)
/-- What is read of bytes: the event, and the error. -/
def getL (s : ByteArray) : List Int × Int :=
  if s.size = 0 then (bare 0, 3) else
  if offs (Oct.numFrom 0 ((rest s 0).take 1) : Nat) = [] then (bare 0, 5) else
  if (getGo s (offs (Oct.numFrom 0 ((rest s 0).take 1) : Nat)) 1 (bare (Oct.numFrom 0 ((rest s 0).take 1) : Nat))).2.2 ≠ 0 then (bare 0, (getGo s (offs (Oct.numFrom 0 ((rest s 0).take 1) : Nat)) 1 (bare (Oct.numFrom 0 ((rest s 0).take 1) : Nat))).2.2) else
  if (getGo s (offs (Oct.numFrom 0 ((rest s 0).take 1) : Nat)) 1 (bare (Oct.numFrom 0 ((rest s 0).take 1) : Nat))).2.1 < s.size then (bare 0, 2) else
  if checkL (getGo s (offs (Oct.numFrom 0 ((rest s 0).take 1) : Nat)) 1 (bare (Oct.numFrom 0 ((rest s 0).take 1) : Nat))).1 ≠ 0 then (bare 0, checkL (getGo s (offs (Oct.numFrom 0 ((rest s 0).take 1) : Nat)) 1 (bare (Oct.numFrom 0 ((rest s 0).take 1) : Nat))).1) else
  ((getGo s (offs (Oct.numFrom 0 ((rest s 0).take 1) : Nat)) 1 (bare (Oct.numFrom 0 ((rest s 0).take 1) : Nat))).1, 0)
theorem getGo_drop (s : ByteArray) (os : List Nat) (i o a : Nat) (d : List Int) (h : os[i]? = some o) :
    getGo s (os.drop i) a d = match Oct.takeVar (rest s a) with | .short => (d, a, 3) | .form => (d, a, 2) | .num n k => getGo s (os.drop (i + 1)) (a + k) (d.set o n) := by
  obtain ⟨hi, e⟩ := List.getElem?_eq_some_iff.1 h
  rw [List.drop_eq_getElem_cons hi, e, getGo]
end Go.Proofs.YtcibeiehdjekiaaGreatDoor

/-! RefPut -/
namespace Go.Proofs.YtcibeiehdjekiaaGreatDoor
open Go.RowKit
set_option linter.unusedVariables false
set_option linter.unusedSimpArgs false

theorem str_add2 (a b : ByteArray) : (⟨a.data ++ b.data⟩ : ByteArray) = a ++ b := by apply ByteArray.ext; simp
theorem nums_at (l : List Int) (i o : Nat) (h : (offs (fld l 0))[i]? = some o) : ((numsL l).map (Value.int .i64))[i]? = some (.int .i64 (fld l o)) := by
  unfold numsL
  rw [List.getElem?_map, List.getElem?_map, h]
  rfl
end Go.Proofs.YtcibeiehdjekiaaGreatDoor

/-! RefGet -/
namespace Go.Proofs.YtcibeiehdjekiaaGreatDoor
open Go.RowKit
set_option linter.unusedVariables false
set_option linter.unusedSimpArgs false

theorem rest_extract (s : ByteArray) (a : Nat) : rest (s.extract a s.size) 0 = rest s a := by
  unfold rest
  rw [List.drop_zero, ByteArray.data_extract, Array.toList_extract, List.extract_eq_take_drop]
  exact List.take_of_length_le (by rw [List.length_drop]; exact Nat.le_refl _)
theorem first_num (s : ByteArray) (h : 0 < s.size) : Oct.numFrom 0 ((rest s 0).take 1) = (s[0]'h).toNat := by
  have h2 : rest s 0 = s[0] :: (s.data.toList.drop 1) := by
    unfold rest
    rw [List.drop_eq_getElem_cons (show 0 < s.data.toList.length from h)]
    rfl
  rw [h2]
  show Oct.numFrom 0 [s[0]] = _
  simp [Oct.numFrom]
theorem layZ_take (os : List Nat) (ts d : List Int) (i o : Nat) (n : Int) (ho : os[i]? = some o) (hl : ts.length = i) : layZ (os.take (i + 1)) (ts ++ [n]) d = (layZ (os.take i) ts d).set o n := by
  obtain ⟨hi, e⟩ := List.getElem?_eq_some_iff.1 ho
  rw [List.take_succ_eq_append_getElem hi, layZ_append _ _ _ _ _ (by rw [List.length_take]; omega), e]
  rfl
theorem nums_bare (k : Int) : (numsL (bare k)).length = (offs k).length := by unfold numsL; rw [List.length_map]; rfl
end Go.Proofs.YtcibeiehdjekiaaGreatDoor

/-! EventLaw -/
namespace Go.Proofs.YtcibeiehdjekiaaGreatDoor
open Go.RowKit
set_option linter.unusedVariables false
set_option linter.unusedSimpArgs false

theorem rest_dropE (s : ByteArray) (a k : Nat) : rest s (a + k) = (rest s a).drop k := by unfold rest; rw [List.drop_drop]
theorem lay_lay (l : List Int) (os : List Nat) (d : List Int) : lay (lay l os d) os d = lay l os d := by
  apply fld_ext
  · rw [lay_length, lay_length]
  · intro i hi
    rw [lay_length] at hi
    by_cases h : i ∈ os
    · rw [fld_lay_in _ _ _ _ h hi]
    · rw [fld_lay_out _ _ _ _ h, fld_lay_out _ _ _ _ h]
theorem pure_pure (l : List Int) : pureL (pureL l) = pureL l := by
  by_cases h : offs (fld l 0) = []
  · have e : pureL l = bare 0 := by unfold pureL; rw [if_pos h]
    rw [e]; rfl
  · have hk := pureL_kind l h
    have e : pureL l = lay l (offs (fld l 0)) (bare (fld l 0)) := by unfold pureL; rw [if_neg h]
    have e2 : pureL (pureL l) = if offs (fld (pureL l) 0) = [] then bare 0 else lay (pureL l) (offs (fld (pureL l) 0)) (bare (fld (pureL l) 0)) := rfl
    rw [e2, hk, if_neg h, e, lay_lay]
/-- What a right event names is from 0 on. -/
theorem right_nonneg (l : List Int) (h : checkL l = 0) : ∀ o ∈ offs (fld l 0), 0 ≤ fld l o := by
  have hr := (check_pure h).2
  have hk := (check_kind h).1
  rw [right_all l hk, List.all_eq_true] at hr
  intro o ho
  rw [← nm_offs, List.mem_flatMap] at ho
  obtain ⟨c, hc, hoc⟩ := ho
  have hok := hr c hc
  rcases nm_mem _ c hc with rfl | rfl | rfl | rfl | rfl
  · simp [ch] at hoc; subst hoc; simp [okC, inR_iff] at hok; omega
  · simp [ch] at hoc; subst hoc; simp [okC, inR_iff] at hok; omega
  · simp [ch] at hoc; subst hoc; simp [okC, inR_iff] at hok; omega
  · simp [ch] at hoc; subst hoc; simp [okC, inR_iff] at hok; omega
  · simp [ch] at hoc
    have hok : resB [fld l 5, fld l 6, fld l 7] = true := hok
    unfold resB at hok
    simp only [Bool.and_eq_true, inR_iff] at hok
    have h5 : 0 ≤ fld l 5 := hok.1.1
    have h6 : 0 ≤ fld l 6 := hok.2.1.1
    have h7 : 0 ≤ fld l 7 := hok.2.2.1
    rcases hoc with rfl | rfl | rfl <;> assumption
/-- Numbers that were put are taken again. -/
theorem getGo_put (l : List Int) (hw : ∀ i, fld l i ≤ 9223372036854775807) (s : ByteArray) : ∀ (os : List Nat) (a : Nat) (d : List Int) (r : List UInt8), (∀ o ∈ os, 0 ≤ fld l o) →
    rest s a = os.flatMap (fun o => varAny (fld l o)) ++ r → getGo s os a d = (lay l os d, a + (os.flatMap (fun o => varAny (fld l o))).length, 0) := by
  intro os
  induction os with
  | nil => intro a d r _ _; rfl
  | cons o t ih =>
    intro a d r h0 hr
    have ho := h0 o (by simp)
    have e1 : varAny (fld l o) = Oct.varB (fld l o).toNat := by unfold varAny; rw [if_neg (by omega)]
    rw [List.flatMap_cons, List.append_assoc, e1] at hr
    have ht := Oct.takeVar_varB (fld l o).toNat (by have := hw o; omega) (t.flatMap (fun o => varAny (fld l o)) ++ r)
    rw [← hr] at ht
    have hr2 : rest s (a + (Oct.varB (fld l o).toNat).length) = t.flatMap (fun o => varAny (fld l o)) ++ r := by
      rw [rest_dropE, hr, List.drop_left']
      rfl
    have := ih (a + (Oct.varB (fld l o).toNat).length) (d.set o ((fld l o).toNat : Int)) r (fun x hx => h0 x (by simp [hx])) hr2
    rw [getGo, ht]
    show getGo s t _ _ = _
    rw [this, List.flatMap_cons, List.length_append, e1]
    have e2 : ((fld l o).toNat : Int) = fld l o := by omega
    rw [e2]
    rw [Nat.add_assoc]
    rfl
theorem kind_of_put (kn : Nat) (h : kn < 256) (r : List UInt8) : Oct.numFrom 0 ((rest (str (Oct.fixB kn 1 ++ r)) 0).take 1) = kn := by
  have e : rest (str (Oct.fixB kn 1 ++ r)) 0 = Oct.fixB kn 1 ++ r := by simp [rest, str]
  rw [e, List.take_left' (Oct.fixB_length kn 1), Oct.numFrom_fixB]
  omega
/-- An event's bytes are read as it, and as nothing where more stands behind. -/
theorem get_put (l : List Int) (hl : l.length = 8) (hw : wfI l) (h : checkL l = 0) (r : List UInt8) : getL (str (putB l ++ r)) = if r = [] then (l, 0) else (bare 0, 2) := by
  have hk := check_kind h
  obtain ⟨kn, hkn⟩ : ∃ kn : Nat, fld l 0 = kn := ⟨(fld l 0).toNat, by omega⟩
  have hp := (check_pure h).1
  have e1 : putB l ++ r = Oct.fixB kn 1 ++ ((offs (fld l 0)).flatMap (fun o => varAny (fld l o)) ++ r) := by
    unfold putB; rw [hkn, List.append_assoc]; rfl
  have hnum : Oct.numFrom 0 ((rest (str (putB l ++ r)) 0).take 1) = kn := by rw [e1]; exact kind_of_put kn (by omega) _
  have hr1 : rest (str (putB l ++ r)) 1 = (offs (fld l 0)).flatMap (fun o => varAny (fld l o)) ++ r := by
    unfold rest
    rw [str_list, e1, List.drop_left' (Oct.fixB_length kn 1)]
  have hg := getGo_put l (fun i => (wfI_fld hw i).2) (str (putB l ++ r)) (offs (fld l 0)) 1 (bare (fld l 0)) r (right_nonneg l h) hr1
  have hsz : (str (putB l ++ r)).size = 1 + ((offs (fld l 0)).flatMap (fun o => varAny (fld l o))).length + r.length := by
    rw [str_size, e1, List.length_append, List.length_append, Oct.fixB_length]; omega
  have hlay : lay l (offs (fld l 0)) (bare (fld l 0)) = l := by
    conv => rhs; rw [← hp]
    unfold pureL
    rw [if_neg hk.1]
  rw [hlay] at hg
  unfold getL
  rw [hnum, if_neg (by rw [hsz]; omega), ← hkn, if_neg hk.1, hg]
  rw [if_neg (by simp)]
  show (if 1 + _ < (str (putB l ++ r)).size then _ else _) = _
  rw [hsz]
  by_cases hr : r = []
  · subst hr
    rw [if_neg (by simp), if_pos rfl, h, if_neg (by simp)]
  · rw [if_neg hr, if_pos (by have : 0 < r.length := List.length_pos_iff.2 hr; omega)]
/-- What is taken one by one stands there. -/
theorem getGo_inv (s : ByteArray) : ∀ (os : List Nat) (a : Nat) (d d' : List Int) (a' : Nat), os.Nodup → (∀ o ∈ os, o < d.length) → a ≤ s.size → wfI d → getGo s os a d = (d', a', 0) →
    rest s a = os.flatMap (fun o => varAny (fld d' o)) ++ rest s a' ∧ a' ≤ s.size ∧ wfI d' ∧ d'.length = d.length ∧ ∀ i, i ∉ os → fld d' i = fld d i := by
  intro os
  induction os with
  | nil =>
    intro a d d' a' _ _ ha hwf h
    simp only [getGo, Prod.mk.injEq, and_true] at h
    obtain ⟨rfl, rfl⟩ := h
    exact ⟨rfl, ha, hwf, rfl, fun _ _ => rfl⟩
  | cons o t ih =>
    intro a d d' a' hnd hlt ha hwf h
    rw [getGo] at h
    cases ht : Oct.takeVar (rest s a) with
    | short => rw [ht] at h; simp at h
    | form => rw [ht] at h; simp at h
    | num n k =>
      rw [ht] at h
      obtain ⟨h1, h2, h3, h4, h5, h6⟩ := Oct.takeVar_num _ n k ht
      rw [rest_length] at h1
      have hwf2 : wfI (d.set o (n : Int)) := by
        intro x hx
        rcases List.mem_or_eq_of_mem_set hx with hx | hx
        · exact hwf x hx
        · subst hx; exact WalkArith.wf_i64 (by omega)
      obtain ⟨i1, i2, i3, i4, i5⟩ := ih (a + k) (d.set o n) d' a' (List.nodup_cons.1 hnd).2 (fun x hx => by rw [List.length_set]; exact hlt x (by simp [hx])) (by omega) hwf2 h
      have ho : fld d' o = n := by
        rw [i5 o (List.nodup_cons.1 hnd).1]
        exact fld_set_same (hlt o (by simp))
      refine ⟨?_, i2, i3, by rw [i4, List.length_set], fun i hi => ?_⟩
      · rw [List.flatMap_cons, ho, List.append_assoc, ← i1, rest_dropE]
        have e1 : varAny (n : Int) = Oct.varB n := by unfold varAny; rw [if_neg (by omega)]; rfl
        rw [e1, h6, List.take_append_drop]
      · rw [i5 i (fun h => hi (by simp [h])), fld_set_other (fun e => hi (by simp [e]))]
theorem wf_bare (k : Int) (h : 0 ≤ k) (h2 : k < 256) : wfI (bare k) := by
  intro x hx
  simp [bare] at hx
  rcases hx with rfl | rfl
  · exact WalkArith.wf_i64 (by omega)
  · decide
theorem getL_err (s : ByteArray) (h : (getL s).2 ≠ 0) : (getL s).1 = bare 0 := by
  unfold getL at *
  split
  · rfl
  · split
    · rfl
    · split
      · rfl
      · split
        · rfl
        · split
          · rfl
          · rename_i h1 h2 h3 h4 h5
            rw [if_neg h1, if_neg h2, if_neg h3, if_neg h4, if_neg h5] at h
            exact absurd rfl h
/-- What is read is written as it was. -/
theorem put_get (s : ByteArray) (h : (getL s).2 = 0) : checkL (getL s).1 = 0 ∧ wfI (getL s).1 ∧ (getL s).1.length = 8 ∧ str (putB (getL s).1) = s := by
  obtain ⟨K, hK⟩ : ∃ K : Nat, Oct.numFrom 0 ((rest s 0).take 1) = K := ⟨_, rfl⟩
  have hex : ∃ d a, s.size ≠ 0 ∧ offs (K : Int) ≠ [] ∧ getGo s (offs (K : Int)) 1 (bare K) = (d, a, 0) ∧ ¬ a < s.size ∧ checkL d = 0 ∧ (getL s).1 = d := by
    unfold getL at *
    rw [hK] at h ⊢
    split at h
    · simp at h
    · rename_i h1
      split at h
      · simp at h
      · rename_i h2
        split at h
        · rename_i h3; exact absurd h h3
        · rename_i h3
          split at h
          · simp at h
          · rename_i h4
            split at h
            · rename_i h5; exact absurd h h5
            · rename_i h5
              rw [if_neg h1, if_neg h2, if_neg h3, if_neg h4, if_neg h5]
              obtain ⟨G, hG⟩ : ∃ G, getGo s (offs (K : Int)) 1 (bare K) = G := ⟨_, rfl⟩
              rw [hG] at h3 h4 h5 ⊢
              obtain ⟨d, a, e⟩ := G
              refine ⟨d, a, h1, h2, ?_, h4, Classical.not_not.1 h5, rfl⟩
              have : e = 0 := Classical.not_not.1 h3
              rw [this]
  obtain ⟨d, a, h1, h2, h3, h4, h5, h6⟩ := hex
  have hs : 0 < s.size := by omega
  have hK2 := first_num s hs
  rw [hK] at hK2
  have hKb : K < 256 := by rw [hK2]; exact UInt8.toNat_lt _
  obtain ⟨i1, i2, i3, i4, i5⟩ := getGo_inv s (offs (K : Int)) 1 (bare K) d a (offs_nodup _) (fun o ho => (offs_lt _ o ho).2) (by omega) (wf_bare K (by omega) (by omega)) h3
  have ha : a = s.size := by omega
  have hk0 : fld d 0 = K := by rw [i5 0 (fun h => by have := (offs_lt _ 0 h).1; omega)]; rfl
  rw [h6]
  refine ⟨h5, i3, i4, ?_⟩
  have e1 : rest s a = [] := by unfold rest; rw [ha]; exact List.drop_eq_nil_of_le (Nat.le_refl _)
  rw [e1, List.append_nil] at i1
  unfold putB
  rw [hk0, ← i1]
  have e2 : Oct.fixB (K : Int).toNat 1 = [s[0]] := by
    show Oct.fixB K 1 = _
    rw [Oct.fixB_cons]
    show [UInt8.ofNat (K / 256 ^ 0 % 256)] = _
    rw [Nat.pow_zero, Nat.div_one, Nat.mod_eq_of_lt hKb, hK2]
    simp
  have e3 : rest s 0 = s[0] :: rest s 1 := by
    unfold rest
    rw [List.drop_eq_getElem_cons (show 0 < s.data.toList.length from hs)]
    rfl
  rw [e2]
  show str (s[0] :: rest s 1) = s
  rw [← e3]
  exact str_rest s
/-- An event's bytes without the last one are read as nothing. -/
theorem get_cut (l : List Int) (hl : l.length = 8) (hw : wfI l) (h : checkL l = 0) : (getL ((str (putB l)).extract 0 ((putB l).length - 1))).2 ≠ 0 := by
  intro e
  obtain ⟨c1, c2, c3, c4⟩ := put_get _ e
  obtain ⟨x, hx⟩ : ∃ x, (getL ((str (putB l)).extract 0 ((putB l).length - 1))).1 = x := ⟨_, rfl⟩
  rw [hx] at c1 c2 c3 c4
  have hpos : putB l ≠ [] := by
    intro e2
    have := congrArg List.length e2
    unfold putB at this
    rw [List.length_append, Oct.fixB_length] at this
    simp at this
  have e3 : (str (putB l)).extract 0 ((putB l).length - 1) = str (putB l).dropLast := by
    rw [extract0, rest_str, List.dropLast_eq_take]
  rw [e3] at c4
  have e5 := str_inj c4
  have h1 := get_put l hl hw h []
  have h2 := get_put x c3 c2 c1 [(putB l).getLast hpos]
  rw [e5, List.dropLast_concat_getLast hpos, if_neg (by simp)] at h2
  rw [List.append_nil, if_pos rfl, h2] at h1
  simp at h1
end Go.Proofs.YtcibeiehdjekiaaGreatDoor
