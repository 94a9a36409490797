/-
  Messages come back from their bytes, and nothing else is read as one (reeve's layer 35): the plain law.
-/
import Derived.Test.YtcibeiehdjekiaaGreatDoorMsgGet
import Derived.Test.YtcibeiehdjekiaaGreatDoorMsgRefCheck
import Derived.Test.YtcibeiehdjekiaaGreatDoorFrameMath
import Derived.Test.YtcibeiehdjekiaaGreatDoorPutAll
namespace Go.Proofs.YtcibeiehdjekiaaGreatDoor
open Go.RowKit
set_option linter.unusedVariables false
set_option linter.unusedSimpArgs false

/-- What a message that may be tells is from 0 on. -/
theorem mright_nonneg (l : List Int) (h : checkM l = 0) : ∀ o ∈ allM (fld l 0), 0 ≤ fld l o := by
  obtain ⟨h1, h2, h3, h4⟩ := checkM_ok h
  have hw : 1 ≤ (waysF (fld l 0)).1 ∧ 1 ≤ (waysF (fld l 0)).2 := by unfold waysF; (repeat' split) <;> exact ⟨by decide, by decide⟩
  have hp1 : placeI (fld l 1) = (waysF (fld l 0)).1 := by rw [← h3]
  have hp2 : placeI (fld l 2) = (waysF (fld l 0)).2 := by rw [← h3]
  have hpl : ∀ n, 1 ≤ placeI n → 0 ≤ n := by intro n hn; rcases place_cases n with h | h | h | h <;> omega
  unfold rightM at h4
  rw [Bool.and_eq_true, List.all_eq_true] at h4
  obtain ⟨h5, h6⟩ := h4
  unfold resB at h6
  simp only [Bool.and_eq_true, inR_iff] at h6
  intro o ho
  unfold allM at ho
  simp only [List.mem_cons] at ho
  rcases ho with rfl | rfl | ho
  · exact hpl _ (by omega)
  · exact hpl _ (by omega)
  · have hb := offsM_lt _ o ho
    have hr := h5 o ho
    have ho' : o = 3 ∨ o = 4 ∨ o = 5 ∨ o = 6 ∨ o = 7 ∨ o = 8 ∨ o = 9 ∨ o = 10 ∨ o = 11 := by omega
    rcases ho' with rfl | rfl | rfl | rfl | rfl | rfl | rfl | rfl | rfl
    · have hr : inR (fld l 3) 1 4294967295 = true := hr
      rw [inR_iff] at hr; omega
    · have hr : inR (fld l 4) 1 2147483647 = true := hr
      rw [inR_iff] at hr; omega
    · have hr : inR (fld l 5) 1 2147483647 = true := hr
      rw [inR_iff] at hr; omega
    · have hr : inR (fld l 6) 0 1099511627776 = true := hr
      rw [inR_iff] at hr; omega
    · have hr : inR (fld l 7) 0 99 = true := hr
      rw [inR_iff] at hr; omega
    · have hr : inR (fld l 8) 0 14 = true := hr
      rw [inR_iff] at hr; omega
    · exact h6.1.1
    · exact h6.2.1.1
    · exact h6.2.2.1
theorem lay_all (l : List Int) (h : checkM l = 0) : lay l (allM (fld l 0)) (bare3 (fld l 0) 0 0) = l := by
  obtain ⟨h1, h2, _, _⟩ := checkM_ok h
  conv => rhs; rw [← h2]
  unfold pureM allM
  rw [if_neg h1]
  rfl
/-- A message's body is read as it. -/
theorem getMb_put (l : List Int) (hl : l.length = 12) (hw : wfI l) (h : checkM l = 0) : getMb (str (putMB l)) = (l, 0) := by
  have hk := checkM_kind h
  have hko := (checkM_ok h).1
  obtain ⟨kn, hkn⟩ : ∃ kn : Nat, fld l 0 = kn := ⟨(fld l 0).toNat, by omega⟩
  have e1 : putMB l = Oct.fixB kn 1 ++ (allM (fld l 0)).flatMap (fun o => varAny (fld l o)) := by
    unfold putMB; rw [hkn]; rfl
  have hnum : Oct.numFrom 0 ((rest (str (putMB l)) 0).take 1) = kn := by rw [e1]; exact kind_of_put kn (by omega) _
  have hr1 : rest (str (putMB l)) 1 = (allM (fld l 0)).flatMap (fun o => varAny (fld l o)) ++ [] := by
    unfold rest
    rw [str_list, e1, List.drop_left' (Oct.fixB_length kn 1), List.append_nil]
  have hg := getGo_put l (fun i => (wfI_fld hw i).2) (str (putMB l)) (allM (fld l 0)) 1 (bare3 (fld l 0) 0 0) [] (mright_nonneg l h) hr1
  have hsz : (str (putMB l)).size = 1 + ((allM (fld l 0)).flatMap (fun o => varAny (fld l o))).length := by
    rw [str_size, e1, List.length_append, Oct.fixB_length]
  rw [lay_all l h] at hg
  unfold getMb
  rw [hnum, if_neg (by rw [hsz]; omega), ← hkn, if_neg hko, hg]
  rw [if_neg (by simp)]
  show (if 1 + _ < (str (putMB l)).size then _ else _) = _
  rw [hsz, if_neg (by simp), h, if_neg (by simp)]
theorem putM_ok (l : List Int) (hw : wfI l) (h : checkM l = 0) : putM l = (sealB (str (putMB l)), 0) := by
  unfold putM sealF
  have := putMB_le l (fun i => (wfI_fld hw i).2)
  rw [if_pos h, if_neg (by rw [str_size]; omega)]
/-- A message's bytes are read as it. -/
theorem getM_put (l : List Int) (hl : l.length = 12) (hw : wfI l) (h : checkM l = 0) : getM (putM l).1 = (l, 0) := by
  rw [putM_ok l hw h]
  have hle := putMB_le l (fun i => (wfI_fld hw i).2)
  have ho := open_seal (str (putMB l)) (by rw [str_size]; omega) ⟨#[]⟩
  have e : sealB (str (putMB l)) ++ (⟨#[]⟩ : ByteArray) = sealB (str (putMB l)) := by apply ByteArray.ext; simp
  rw [e] at ho
  unfold getM
  rw [ho, if_neg (by simp), if_neg (by show ¬ ((str (putMB l)).size + 7) < (sealB (str (putMB l))).size; rw [sealB_size]; omega)]
  exact getMb_put l hl hw h
/-- What is opened whole is the body's frame. -/
theorem open_whole_eq (s : ByteArray) (h : (openF s).2.2 = 0) (h2 : ¬ (openF s).2.1 < s.size) : s = sealB (openF s).1 ∧ (openF s).1.size ≤ 200 := by
  unfold openF at *
  by_cases h1 : s.size = 0
  · rw [if_pos h1] at h; cases h
  rw [if_neg h1] at *
  by_cases hp : Lib.hasPrefix s.data.toList [82] = false
  · rw [if_pos hp] at h; cases h
  rw [if_neg hp] at *
  by_cases h3 : s.size < 3
  · rw [if_pos h3] at h; cases h
  rw [if_neg h3] at *
  by_cases h4 : 200 < openN s
  · rw [if_pos h4] at h; cases h
  rw [if_neg h4] at *
  by_cases h5 : s.size < openN s + 7
  · rw [if_pos h5] at h; cases h
  rw [if_neg h5] at *
  by_cases h6 : s.extract (openN s + 3) (openN s + 7) = sumB (s.extract 1 (openN s + 3))
  · rw [if_pos h6] at *
    have hpt : Lib.hasPrefix s.data.toList [82] = true := by simpa using hp
    have hs := (seal_eq s hpt (by omega) (by omega)).2 h6
    have hn : openN s + 7 = s.size := by
      have : ¬ openN s + 7 < s.size := h2
      omega
    refine ⟨?_, ?_⟩
    · show s = sealB (s.extract 3 (openN s + 3))
      rw [hs, hn]
      exact (ByteArray.extract_zero_size).symm
    · show (s.extract 3 (openN s + 3)).size ≤ 200
      rw [ByteArray.size_extract]; omega
  · rw [if_neg h6] at h; cases h
theorem wf_bareM (k : Int) (h : 0 ≤ k) (h2 : k < 256) : wfI (bare3 k 0 0) := by
  intro x hx
  simp [bare3] at hx
  rcases hx with rfl | rfl
  · exact WalkArith.wf_i64 (by omega)
  · decide
theorem allM_nodup (k : Int) : (allM k).Nodup := by
  unfold allM
  have h := offsM_nodup k
  have hl := offsM_lt k
  refine List.nodup_cons.2 ⟨?_, List.nodup_cons.2 ⟨?_, h⟩⟩
  · intro hm
    rcases List.mem_cons.1 hm with e | e
    · cases e
    · have := (hl 1 e).1; omega
  · intro hm
    have := (hl 2 hm).1; omega
theorem getMb_err (s : ByteArray) (h : (getMb s).2 ≠ 0) : (getMb s).1 = bare3 0 0 0 := by
  unfold getMb at *
  split
  · rfl
  · split
    · rfl
    · split
      · rfl
      · split
        · rfl
        · split
          · rfl
          · rename_i h1 h2 h3 h4 h5
            rw [if_neg h1, if_neg h2, if_neg h3, if_neg h4, if_neg h5] at h
            exact absurd rfl h
theorem getM_err (s : ByteArray) (h : (getM s).2 ≠ 0) : (getM s).1 = bare3 0 0 0 := by
  unfold getM at *
  split
  · rfl
  · split
    · rfl
    · rename_i h1 h2
      rw [if_neg h1, if_neg h2] at h
      exact getMb_err _ h
/-- What is read of a body is written as it was. -/
theorem put_getMb (s : ByteArray) (h : (getMb s).2 = 0) : checkM (getMb s).1 = 0 ∧ wfI (getMb s).1 ∧ (getMb s).1.length = 12 ∧ str (putMB (getMb s).1) = s := by
  obtain ⟨K, hK⟩ : ∃ K : Nat, Oct.numFrom 0 ((rest s 0).take 1) = K := ⟨_, rfl⟩
  have hex : ∃ d a, s.size ≠ 0 ∧ offsM (K : Int) ≠ [] ∧ getGo s (allM (K : Int)) 1 (bare3 K 0 0) = (d, a, 0) ∧ ¬ a < s.size ∧ checkM d = 0 ∧ (getMb s).1 = d := by
    unfold getMb at *
    rw [hK] at h ⊢
    split at h
    · simp at h
    · rename_i h1
      split at h
      · simp at h
      · rename_i h2
        split at h
        · rename_i h3; exact absurd h h3
        · rename_i h3
          split at h
          · simp at h
          · rename_i h4
            split at h
            · simp at h
            · rename_i h5
              rw [if_neg h1, if_neg h2, if_neg h3, if_neg h4, if_neg h5]
              obtain ⟨G, hG⟩ : ∃ G, getGo s (allM (K : Int)) 1 (bare3 K 0 0) = G := ⟨_, rfl⟩
              rw [hG] at h3 h4 h5 ⊢
              obtain ⟨d, a, e⟩ := G
              refine ⟨d, a, h1, h2, ?_, h4, Classical.not_not.1 h5, rfl⟩
              have : e = 0 := Classical.not_not.1 h3
              rw [this]
  obtain ⟨d, a, h1, h2, h3, h4, h5, h6⟩ := hex
  have hs : 0 < s.size := by omega
  have hK2 := first_num s hs
  rw [hK] at hK2
  have hKb : K < 256 := by rw [hK2]; exact UInt8.toNat_lt _
  obtain ⟨i1, i2, i3, i4, i5⟩ := getGo_inv s (allM (K : Int)) 1 (bare3 K 0 0) d a (allM_nodup _) (fun o ho => (allM_lt _ o ho).2) (by omega) (wf_bareM K (by omega) (by omega)) h3
  have ha : a = s.size := by omega
  have hk0 : fld d 0 = K := by rw [i5 0 (fun h => by have := (allM_lt _ 0 h).1; omega)]; rfl
  rw [h6]
  refine ⟨h5, i3, i4, ?_⟩
  have e1 : rest s a = [] := by unfold rest; rw [ha]; exact List.drop_eq_nil_of_le (Nat.le_refl _)
  rw [e1, List.append_nil] at i1
  unfold putMB
  rw [hk0, ← i1]
  have e2 : Oct.fixB (K : Int).toNat 1 = [s[0]] := by
    show Oct.fixB K 1 = _
    rw [Oct.fixB_cons]
    show [UInt8.ofNat (K / 256 ^ 0 % 256)] = _
    rw [Nat.pow_zero, Nat.div_one, Nat.mod_eq_of_lt hKb, hK2]
    simp
  have e3 : rest s 0 = s[0] :: rest s 1 := by
    unfold rest
    rw [List.drop_eq_getElem_cons (show 0 < s.data.toList.length from hs)]
    rfl
  rw [e2]
  show str (s[0] :: rest s 1) = s
  rw [← e3]
  exact str_rest s
/-- What is read is written as it was. -/
theorem put_getM (s : ByteArray) (h : (getM s).2 = 0) : wfI (getM s).1 ∧ (getM s).1.length = 12 ∧ putM (getM s).1 = (s, 0) := by
  have hx : ∃ b, (openF s).2.2 = 0 ∧ ¬ (openF s).2.1 < s.size ∧ (openF s).1 = b ∧ getM s = getMb b := by
    unfold getM at *
    by_cases h1 : (openF s).2.2 ≠ 0
    · rw [if_pos h1] at h; exact absurd h h1
    · rw [if_neg h1] at *
      by_cases h2 : (openF s).2.1 < s.size
      · rw [if_pos h2] at h; cases h
      · rw [if_neg h2]
        exact ⟨_, Classical.not_not.1 h1, h2, rfl, rfl⟩
  obtain ⟨b, h1, h2, h3, h4⟩ := hx
  obtain ⟨e1, e2⟩ := open_whole_eq s h1 h2
  rw [h3] at e1 e2
  rw [h4] at h ⊢
  obtain ⟨p1, p2, p3, p4⟩ := put_getMb b h
  refine ⟨p2, p3, ?_⟩
  rw [putM_ok _ p2 p1, p4, ← e1]
/-- A place comes back from its name. -/
theorem place_name (n : Int) : ((parseN (nameM n)).2 = true ↔ 0 < placeI n) ∧ (0 < placeI n → (parseN (nameM n)).1 = n) := by
  by_cases h : 0 < placeI n
  · rw [parseN_name n h]; exact ⟨⟨fun _ => h, fun _ => rfl⟩, fun _ => rfl⟩
  · have h0 : placeI n = 0 := by rcases place_cases n with h1 | h1 | h1 | h1 <;> omega
    have he : parseN (nameM n) = (0, false) := by
      rw [nameM_zero h0]
      refine parseN_none [] (fun m hm e => ?_)
      rcases place_cases m with ⟨e1, _⟩ | ⟨e1, _⟩ | ⟨e1, _⟩ | ⟨e1, _⟩
      · rw [nameM_one e1] at e; cases e
      · rw [nameM_two e1] at e; cases e
      · rw [nameM_three e1] at e; cases e
      · omega
    rw [he]
    exact ⟨⟨fun h => (by cases h), fun h' => absurd h' h⟩, fun h' => absurd h' h⟩
end Go.Proofs.YtcibeiehdjekiaaGreatDoor
