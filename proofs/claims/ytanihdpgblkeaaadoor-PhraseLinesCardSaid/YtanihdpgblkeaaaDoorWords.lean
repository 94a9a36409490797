/-
  Lines and words (reeve's layer 6): the program's walks: until, Words, Cut, Find, Text.
-/
import Derived.Test.YtanihdpgblkeaaaDoorWordsMath
import Derived.Test.YtanihdpgblkeaaaDoorShelf
import Derived.WalkMore
namespace Go.Proofs.YtanihdpgblkeaaaDoor
open Go.RowKit
set_option linter.unusedVariables false
set_option linter.unusedSimpArgs false

/-- How far the first byte that is so stands. -/
def untilN (p : UInt8 → Bool) (l : List UInt8) : Nat := (l.takeWhile (fun c => !p c)).length
theorem untilN_le (p : UInt8 → Bool) (l : List UInt8) : untilN p l ≤ l.length := (List.takeWhile_prefix _).length_le
theorem drop_at {l : List UInt8} {a : Nat} {c : UInt8} (h : l[a]? = some c) : l.drop a = c :: l.drop (a + 1) := by
  obtain ⟨hl, e⟩ := List.getElem?_eq_some_iff.1 h
  rw [List.drop_eq_getElem_cons hl, e]
theorem untilN_yes {p : UInt8 → Bool} {l : List UInt8} {a : Nat} {c : UInt8} (h : l[a]? = some c) (hp : p c = true) : untilN p (l.drop a) = 0 := by
  rw [drop_at h]; unfold untilN; simp [hp]
theorem untilN_no {p : UInt8 → Bool} {l : List UInt8} {a : Nat} {c : UInt8} (h : l[a]? = some c) (hp : p c = false) : untilN p (l.drop a) = untilN p (l.drop (a + 1)) + 1 := by
  rw [drop_at h]; unfold untilN; simp [hp]
theorem untilN_end {p : UInt8 → Bool} {l : List UInt8} {a : Nat} (h : l.length ≤ a) : untilN p (l.drop a) = 0 := by
  rw [List.drop_eq_nil_of_le h]; rfl
theorem untilN_at {p : UInt8 → Bool} {l : List UInt8} {a : Nat} {c : UInt8} (h : l[a + untilN p (l.drop a)]? = some c) : p c = true := by
  rw [← List.getElem?_drop] at h
  generalize l.drop a = r at h
  induction r with
  | nil => simp at h
  | cons x t ih =>
    cases hx : p x with
    | true => unfold untilN at h; simp [hx] at h; rw [← h]; exact hx
    | false =>
      apply ih
      have e : untilN p (x :: t) = untilN p t + 1 := by unfold untilN; simp [hx]
      rw [e] at h
      simpa using h
theorem dropWhile_drop (q : UInt8 → Bool) (l : List UInt8) : l.dropWhile q = l.drop (l.takeWhile q).length := by
  induction l with
  | nil => rfl
  | cons x t ih =>
    cases hx : q x with
    | true => simp [hx, ih]
    | false => simp [hx]
theorem takeWhile_take (q : UInt8 → Bool) (l : List UInt8) : l.takeWhile q = l.take (l.takeWhile q).length := by
  induction l with
  | nil => rfl
  | cons x t ih =>
    cases hx : q x with
    | true => simp only [List.takeWhile_cons, hx, if_true, List.length_cons, List.take_succ_cons]; rw [← ih]
    | false => simp [hx]
theorem words_skip (L : List UInt8) (hL : ∀ c ∈ L, c ≠ 35) (k : Nat) : wordsL (L.drop (k + untilN (fun c => !isB c) (L.drop k))) = wordsL (L.drop k) := by
  have h := refW_blank (L.drop k) (fun c hc => hL c (List.mem_of_mem_drop hc))
  unfold wordsL
  rw [← h, dropWhile_drop, ← List.drop_drop]
  congr 2
  unfold untilN
  congr 1
  congr 1
  funext c
  simp
theorem words_take (L : List UInt8) (hL : ∀ c ∈ L, c ≠ 35) (k : Nat) (c : UInt8) (hc : L[k]? = some c) (hb : isB c = false) : wordsL (L.drop k) = (L.drop k).take (untilN isB (L.drop k)) :: wordsL (L.drop (k + untilN isB (L.drop k))) := by
  have hne : ([] : List UInt8) ++ (L.drop k).takeWhile (fun c => !isB c) ≠ [] := by rw [drop_at hc]; simp [hb]
  have h := refW_run (L.drop k) (fun c hc => hL c (List.mem_of_mem_drop hc)) [] hne
  unfold wordsL
  rw [h, dropWhile_drop, List.nil_append, ← List.drop_drop]
  congr 1
  exact takeWhile_take _ _
theorem mem_tw (q : UInt8 → Bool) (l : List UInt8) : ∀ c ∈ l.takeWhile q, q c = true := by
  induction l with
  | nil => intro c h; simp at h
  | cons x t ih =>
    intro c h
    cases hx : q x with
    | true =>
      rw [List.takeWhile_cons, hx] at h
      simp only [if_true, List.mem_cons] at h
      rcases h with rfl | h
      · exact hx
      · exact ih c h
    | false => rw [List.takeWhile_cons, hx] at h; simp at h
theorem ownS_mkL {B : Nat} {w : World} {v : Value} {l : List (List UInt8)} {b : ByteArray} (h : w.ownsRow B 9 1 v (l.length + 1) (l.map (Value.string ∘ strL) ++ [Value.string b])) : OwnS B w v (l.map strL ++ [b]) := by
  unfold OwnS
  rw [List.length_append, List.map_append, List.length_map, List.map_map]
  exact h
theorem words_hash (c : UInt8) (w : World) : Calls Tryd.prog 51 #[.int .u8 c.toNat] w fun e w' => e = .returned (.bool (c == 35)) ∧ w = w' := by
  have hd : ((c.toNat : Int) == 35) = (c == 35) := by
    rw [Bool.eq_iff_iff, beq_iff_eq, beq_iff_eq, ← UInt8.toNat_inj]
    show _ ↔ c.toNat = 35
    omega
  go_enter Tryd.func51, Tryd.ntmps51
  go_wp2_with fail
  go_ret
  exact ⟨by rw [← hd]; rfl, rfl⟩
theorem words_blank (c : UInt8) (w : World) : Calls Tryd.prog 53 #[.int .u8 c.toNat] w fun e w' => e = .returned (.bool (isB c)) ∧ w = w' := by
  go_enter Tryd.func53, Tryd.ntmps53
  by_cases h : c = 32
  · subst h
    go_wp2_with fail
    go_ret
    exact ⟨rfl, rfl⟩
  · have e2 : isB c = (c == 9) := by
      have e1 : (c == 32) = false := beq_eq_false_iff_ne.2 h
      unfold isB; rw [e1]; rfl
    rw [e2]
    by_cases h9 : c = 9
    · subst h9
      go_wp2_with fail
      go_ret
      exact ⟨rfl, rfl⟩
    · have h1 : ¬ (c.toNat : Int) = 32 := by
        intro e; apply h; rw [← UInt8.toNat_inj]; show c.toNat = 32; omega
      have h2 : ¬ (c.toNat : Int) = 9 := by
        intro e; apply h9; rw [← UInt8.toNat_inj]; show c.toNat = 9; omega
      have e1 : (c == 9) = false := beq_eq_false_iff_ne.2 h9
      have g1 : ((c.toNat : Int) == 32) = false := beq_eq_false_iff_ne.2 h1
      have g2 : ((c.toNat : Int) == 9) = false := beq_eq_false_iff_ne.2 h2
      rw [e1]
      go_wp2_with fail
      go_ret
      exact ⟨rfl, rfl⟩
theorem words_solid (c : UInt8) (w : World) : Calls Tryd.prog 52 #[.int .u8 c.toNat] w fun e w' => e = .returned (.bool (!isB c)) ∧ w = w' := by
  go_enter Tryd.func52, Tryd.ntmps52
  go_wp2_with (go_at_call 53; refine (words_blank c _).mono ?_; rintro e w' ⟨rfl, rfl⟩)
  go_ret
  exact ⟨rfl, rfl⟩
set_option maxRecDepth 100000 in
theorem until_hash (s : ByteArray) (a : Nat) (hs : s.size ≤ maxLen) (ha : a ≤ s.size) (w : World) :
    Calls Tryd.prog 50 #[.string s, .int .i64 a, .func (.func 51) #[] #[]] w fun e w' => e = .returned (.int .i64 ((a + untilN (fun c => c == 35) (s.data.toList.drop a) : Nat) : Int)) ∧ w = w' := by
  have hs63 : s.size ≤ 9223372036854775807 := by unfold maxLen at hs; omega
  have hlen : s.data.toList.length = s.size := (Lib.size_eq s).symm
  obtain ⟨N, hN⟩ : ∃ N, a + untilN (fun c => c == 35) (s.data.toList.drop a) = N := ⟨_, rfl⟩
  rw [hN]
  have HN := Lib.hid hN
  clear hN
  go_enter Tryd.func50, Tryd.ntmps50
  go_wp2_with fail
  go_loopg [1] (s.size - a) (fun g i wr => ∃ q : Nat, q ≤ s.size ∧ g = s.size - q ∧ i = .int .i64 q ∧ wr = w ∧ Hid (q + untilN (fun c => c == 35) (s.data.toList.drop q) = N))
  case atStart => exact ⟨a, ha, rfl, rfl, rfl, HN⟩
  case round =>
    obtain ⟨q, hq, hg, rfl, rfl, HQ⟩ := hrel
    have hg := hg.symm
    subst hg
    by_cases hlt : q < s.size
    · obtain ⟨c, hc⟩ : ∃ c, s[q]'hlt = c := ⟨_, rfl⟩
      have hget : s.data.toList[q]? = some c := by
        rw [List.getElem?_eq_getElem (by rw [hlen]; exact hlt), ← hc]
        rfl
      have hby : (((s[q]'hlt).toNat : Nat) : Int) = (c.toNat : Int) := by rw [hc]
      have hlI : (q : Int) < (s.size : Int) := by omega
      have hq0 : (0 : Int) ≤ (q : Int) := by omega
      have CT := Lib.hid (words_hash c)
      cases hpc : (fun c => c == 35) c with
      | true =>
        have HF : Hid (N = q) := Lib.hid (by rw [← HQ.out, untilN_yes hget hpc]; rfl)
        have hpc := Lib.hid hpc
        clear hget hc HQ HN
        go_wp2_with fail
        refine (CT.out _).mono ?_
        rintro e w1 ⟨rfl, rfl⟩
        rw [hpc.out]
        go_wp2_with fail
        go_ret
        exact ⟨by rw [HF.out]; rfl, rfl⟩
      | false =>
        have HF : Hid ((q + 1) + untilN (fun c => c == 35) (s.data.toList.drop (q + 1)) = N) := Lib.hid (by rw [← HQ.out, untilN_no hget hpc]; omega)
        have hpc := Lib.hid hpc
        clear hget hc HQ HN
        go_wp2_with fail
        refine (CT.out _).mono ?_
        rintro e w1 ⟨rfl, rfl⟩
        rw [hpc.out]
        go_wp2_with fail
        go_roundg (s.size - (q + 1))
        case measure => omega
        case rel => exact ⟨q + 1, by omega, rfl, by go_num, rfl, HF⟩
    · obtain rfl : q = s.size := by omega
      have HF : Hid (N = s.size) := Lib.hid (by rw [← HQ.out, untilN_end (by omega)]; rfl)
      clear HQ HN
      go_wp2_with fail
      go_ret
      exact ⟨by rw [HF.out]; rfl, rfl⟩
set_option maxRecDepth 100000 in
theorem until_solid (s : ByteArray) (a : Nat) (hs : s.size ≤ maxLen) (ha : a ≤ s.size) (w : World) :
    Calls Tryd.prog 50 #[.string s, .int .i64 a, .func (.func 52) #[] #[]] w fun e w' => e = .returned (.int .i64 ((a + untilN (fun c => !isB c) (s.data.toList.drop a) : Nat) : Int)) ∧ w = w' := by
  have hs63 : s.size ≤ 9223372036854775807 := by unfold maxLen at hs; omega
  have hlen : s.data.toList.length = s.size := (Lib.size_eq s).symm
  obtain ⟨N, hN⟩ : ∃ N, a + untilN (fun c => !isB c) (s.data.toList.drop a) = N := ⟨_, rfl⟩
  rw [hN]
  have HN := Lib.hid hN
  clear hN
  go_enter Tryd.func50, Tryd.ntmps50
  go_wp2_with fail
  go_loopg [1] (s.size - a) (fun g i wr => ∃ q : Nat, q ≤ s.size ∧ g = s.size - q ∧ i = .int .i64 q ∧ wr = w ∧ Hid (q + untilN (fun c => !isB c) (s.data.toList.drop q) = N))
  case atStart => exact ⟨a, ha, rfl, rfl, rfl, HN⟩
  case round =>
    obtain ⟨q, hq, hg, rfl, rfl, HQ⟩ := hrel
    have hg := hg.symm
    subst hg
    by_cases hlt : q < s.size
    · obtain ⟨c, hc⟩ : ∃ c, s[q]'hlt = c := ⟨_, rfl⟩
      have hget : s.data.toList[q]? = some c := by
        rw [List.getElem?_eq_getElem (by rw [hlen]; exact hlt), ← hc]
        rfl
      have hby : (((s[q]'hlt).toNat : Nat) : Int) = (c.toNat : Int) := by rw [hc]
      have hlI : (q : Int) < (s.size : Int) := by omega
      have hq0 : (0 : Int) ≤ (q : Int) := by omega
      have CT := Lib.hid (words_solid c)
      cases hpc : (fun c => !isB c) c with
      | true =>
        have HF : Hid (N = q) := Lib.hid (by rw [← HQ.out, untilN_yes hget hpc]; rfl)
        have hpc := Lib.hid hpc
        clear hget hc HQ HN
        go_wp2_with fail
        refine (CT.out _).mono ?_
        rintro e w1 ⟨rfl, rfl⟩
        rw [hpc.out]
        go_wp2_with fail
        go_ret
        exact ⟨by rw [HF.out]; rfl, rfl⟩
      | false =>
        have HF : Hid ((q + 1) + untilN (fun c => !isB c) (s.data.toList.drop (q + 1)) = N) := Lib.hid (by rw [← HQ.out, untilN_no hget hpc]; omega)
        have hpc := Lib.hid hpc
        clear hget hc HQ HN
        go_wp2_with fail
        refine (CT.out _).mono ?_
        rintro e w1 ⟨rfl, rfl⟩
        rw [hpc.out]
        go_wp2_with fail
        go_roundg (s.size - (q + 1))
        case measure => omega
        case rel => exact ⟨q + 1, by omega, rfl, by go_num, rfl, HF⟩
    · obtain rfl : q = s.size := by omega
      have HF : Hid (N = s.size) := Lib.hid (by rw [← HQ.out, untilN_end (by omega)]; rfl)
      clear HQ HN
      go_wp2_with fail
      go_ret
      exact ⟨by rw [HF.out]; rfl, rfl⟩
set_option maxRecDepth 100000 in
theorem until_blank (s : ByteArray) (a : Nat) (hs : s.size ≤ maxLen) (ha : a ≤ s.size) (w : World) :
    Calls Tryd.prog 50 #[.string s, .int .i64 a, .func (.func 53) #[] #[]] w fun e w' => e = .returned (.int .i64 ((a + untilN isB (s.data.toList.drop a) : Nat) : Int)) ∧ w = w' := by
  have hs63 : s.size ≤ 9223372036854775807 := by unfold maxLen at hs; omega
  have hlen : s.data.toList.length = s.size := (Lib.size_eq s).symm
  obtain ⟨N, hN⟩ : ∃ N, a + untilN isB (s.data.toList.drop a) = N := ⟨_, rfl⟩
  rw [hN]
  have HN := Lib.hid hN
  clear hN
  go_enter Tryd.func50, Tryd.ntmps50
  go_wp2_with fail
  go_loopg [1] (s.size - a) (fun g i wr => ∃ q : Nat, q ≤ s.size ∧ g = s.size - q ∧ i = .int .i64 q ∧ wr = w ∧ Hid (q + untilN isB (s.data.toList.drop q) = N))
  case atStart => exact ⟨a, ha, rfl, rfl, rfl, HN⟩
  case round =>
    obtain ⟨q, hq, hg, rfl, rfl, HQ⟩ := hrel
    have hg := hg.symm
    subst hg
    by_cases hlt : q < s.size
    · obtain ⟨c, hc⟩ : ∃ c, s[q]'hlt = c := ⟨_, rfl⟩
      have hget : s.data.toList[q]? = some c := by
        rw [List.getElem?_eq_getElem (by rw [hlen]; exact hlt), ← hc]
        rfl
      have hby : (((s[q]'hlt).toNat : Nat) : Int) = (c.toNat : Int) := by rw [hc]
      have hlI : (q : Int) < (s.size : Int) := by omega
      have hq0 : (0 : Int) ≤ (q : Int) := by omega
      have CT := Lib.hid (words_blank c)
      cases hpc : isB c with
      | true =>
        have HF : Hid (N = q) := Lib.hid (by rw [← HQ.out, untilN_yes hget hpc]; rfl)
        have hpc := Lib.hid hpc
        clear hget hc HQ HN
        go_wp2_with fail
        refine (CT.out _).mono ?_
        rintro e w1 ⟨rfl, rfl⟩
        rw [hpc.out]
        go_wp2_with fail
        go_ret
        exact ⟨by rw [HF.out]; rfl, rfl⟩
      | false =>
        have HF : Hid ((q + 1) + untilN isB (s.data.toList.drop (q + 1)) = N) := Lib.hid (by rw [← HQ.out, untilN_no hget hpc]; omega)
        have hpc := Lib.hid hpc
        clear hget hc HQ HN
        go_wp2_with fail
        refine (CT.out _).mono ?_
        rintro e w1 ⟨rfl, rfl⟩
        rw [hpc.out]
        go_wp2_with fail
        go_roundg (s.size - (q + 1))
        case measure => omega
        case rel => exact ⟨q + 1, by omega, rfl, by go_num, rfl, HF⟩
    · obtain rfl : q = s.size := by omega
      have HF : Hid (N = s.size) := Lib.hid (by rw [← HQ.out, untilN_end (by omega)]; rfl)
      clear HQ HN
      go_wp2_with fail
      go_ret
      exact ⟨by rw [HF.out]; rfl, rfl⟩
set_option maxRecDepth 100000 in
set_option maxHeartbeats 1600000 in
theorem words_words (s : ByteArray) (hs : s.size ≤ 100000) (w : World) :
    Calls Tryd.prog 37 #[.string s] w fun e w' => ∃ v, e = .returned v ∧ OwnS w.heap.size w' v ((wordsL s.data.toList).map strL) ∧ Below w.heap.size w w' := by
  obtain ⟨i, hi, hz, hsize, hby⟩ : ∃ i, Tryd.prog.info? 9 = some i ∧ i.zero = some (.string ⟨#[]⟩) ∧ i.size = 1 ∧ i.bytes = 16 := ⟨_, rfl, rfl, rfl, rfl⟩
  have HI := Lib.hid hi
  clear hi
  have hs63 : s.size ≤ 9223372036854775807 := by omega
  have U0 := until_hash s 0 (by unfold maxLen; omega) (Nat.zero_le _)
  rw [List.drop_zero, Nat.zero_add] at U0
  have hn := untilN_le (fun c => c == 35) s.data.toList
  have hcut : (s.extract 0 (untilN (fun c => c == 35) s.data.toList)).data.toList = s.data.toList.takeWhile (fun c => !(c == 35)) := by
    rw [ByteArray.data_extract, Array.toList_extract, List.extract_eq_take_drop, List.drop_zero, Nat.sub_zero]
    exact (takeWhile_take _ _).symm
  have hw := refW_cut s.data.toList []
  rw [← hcut] at hw
  have hL : ∀ c ∈ (s.extract 0 (untilN (fun c => c == 35) s.data.toList)).data.toList, c ≠ 35 := by
    rw [hcut]
    intro c hc
    have := mem_tw _ _ _ hc
    simpa using this
  have hz2 : (s.extract 0 (untilN (fun c => c == 35) s.data.toList)).size ≤ 100000 := by rw [ByteArray.size_extract]; omega
  have hlen : untilN (fun c => c == 35) s.data.toList ≤ s.size := by rw [show s.size = s.data.toList.length from Lib.size_eq s]; exact hn
  generalize untilN (fun c => c == 35) s.data.toList = n at U0 hcut hw hL hz2 hlen
  obtain ⟨t, ht⟩ : ∃ t, s.extract 0 n = t := ⟨_, rfl⟩
  rw [ht] at hw hL hz2
  have ht2 := ht
  have hw2 : wordsL s.data.toList = wordsL t.data.toList := hw.symm
  rw [hw2]
  have hlI : (n : Int) ≤ (s.size : Int) := by omega
  have hl0 : (0 : Int) ≤ (n : Int) := by omega
  have HU0 := Lib.hid U0
  have HLH := Lib.hid hL
  have HT := Lib.hid ht2
  have hzl : t.data.toList.length = t.size := (Lib.size_eq t).symm
  have hz63 : t.size ≤ 9223372036854775807 := by omega
  clear hn hcut hw hL hw2 U0 ht2 ht hlen
  go_enter Tryd.func37, Tryd.ntmps37
  go_wp2_with fail
  go_step3
  go_upto_region 2 with (go_at_call 50; refine (HU0.out _).mono ?_; rintro e w1 ⟨rfl, rfl⟩)
  rw [HT.out]
  clear HT HU0 hlI hl0
  go_wp2_with fail
  go_step3
  go_wp2_with fail
  go_loopg [3, 4] (t.size + 1) (fun g v at_ wr => ∃ (k : Nat) (l : List (List UInt8)), k ≤ t.size ∧ g = t.size + 1 - k ∧ at_ = .int .i64 k ∧ l.length ≤ k ∧ OwnS w.heap.size wr v (l.map strL) ∧ Below w.heap.size w wr ∧ Hid (wordsL t.data.toList = l ++ wordsL (t.data.toList.drop k)))
  case atStart => exact ⟨0, [], by omega, by omega, rfl, by simp, OwnS.nil _ _, Below.refl _ _, Lib.hid (by simp)⟩
  case round =>
    obtain ⟨k, l, hk, hg, rfl, hl, hown, hbl, HA⟩ := hrel
    have hg := hg.symm
    subst hg
    have HO := Lib.hid hown
    have HB := Lib.hid hbl
    clear hown hbl
    have U1 := until_solid t k (by unfold maxLen; omega) hk
    have hp1 := untilN_le (fun c => !isB c) (t.data.toList.drop k)
    have hsk := words_skip t.data.toList HLH.out k
    rw [List.length_drop, hzl] at hp1
    obtain ⟨p1, hp⟩ : ∃ p1, k + untilN (fun c => !isB c) (t.data.toList.drop k) = p1 := ⟨_, rfl⟩
    have hat := fun c => untilN_at (p := fun c => !isB c) (l := t.data.toList) (a := k) (c := c)
    rw [hp] at hsk hat U1
    have hpk : k ≤ p1 ∧ p1 ≤ t.size := by omega
    have HA1 : Hid (wordsL t.data.toList = l ++ wordsL (t.data.toList.drop p1)) := Lib.hid (by rw [hsk]; exact HA.out)
    have HU1 := Lib.hid U1
    have HAT := Lib.hid hat
    clear hp hp1 hsk hat U1 HA
    by_cases hend : p1 = t.size
    · have HA2 : Hid (wordsL t.data.toList = l) := Lib.hid (by rw [HA1.out, List.drop_eq_nil_of_le (by omega)]; simp [wordsL, refW])
      have he : ((p1 : Int) == (t.size : Int)) = true := by rw [hend]; simp
      clear HA1 HAT hend
      go_wp2_with fail
      refine (HU1.out _).mono ?_
      rintro e w2 ⟨rfl, rfl⟩
      go_wp2_with fail
      rw [Exit.noGoto_ret]
      go_ret
      rw [HA2.out]
      exact ⟨_, rfl, HO.out, HB.out⟩
    · have he : ((p1 : Int) == (t.size : Int)) = false := by rw [beq_eq_false_iff_ne]; omega
      have hlt : p1 < t.data.toList.length := by omega
      have hcb : isB (t.data.toList[p1]) = false := by
        have := HAT.out _ (List.getElem?_eq_getElem hlt)
        simpa using this
      have U2 := until_blank t p1 (by unfold maxLen; omega) hpk.2
      have htk := words_take t.data.toList HLH.out p1 _ (List.getElem?_eq_getElem hlt) hcb
      have hp2 := untilN_le isB (t.data.toList.drop p1)
      rw [List.length_drop, hzl] at hp2
      have hpos : 0 < untilN isB (t.data.toList.drop p1) := by rw [untilN_no (List.getElem?_eq_getElem hlt) hcb]; omega
      obtain ⟨m, hm⟩ : ∃ m, untilN isB (t.data.toList.drop p1) = m := ⟨_, rfl⟩
      rw [hm] at htk hp2 hpos U2
      have hpc : (t.extract p1 (p1 + m)) = strL ((t.data.toList.drop p1).take m) := by
        apply ByteArray.ext
        apply Array.ext'
        show (t.extract p1 (p1 + m)).data.toList = _
        rw [ByteArray.data_extract, Array.toList_extract, List.extract_eq_take_drop, show p1 + m - p1 = m by omega]
        rfl
      obtain ⟨p2, hq⟩ : ∃ p2, p1 + m = p2 := ⟨_, rfl⟩
      rw [hq] at htk U2 hpc
      have HA2 : Hid (wordsL t.data.toList = l ++ [(t.data.toList.drop p1).take m] ++ wordsL (t.data.toList.drop p2)) := Lib.hid (by rw [HA1.out, htk]; simp)
      obtain ⟨P, hP⟩ : ∃ P, (t.data.toList.drop p1).take m = P := ⟨_, rfl⟩
      rw [hP] at HA2 hpc
      have HPC := Lib.hid hpc
      have hp2' : p1 < p2 ∧ p2 ≤ t.size := by omega
      have q1 : (p1 : Int) ≤ (p2 : Int) := by omega
      have q2 : (p2 : Int) ≤ (t.size : Int) := by omega
      have q0 : (0 : Int) ≤ (p1 : Int) := by omega
      have HU2 := Lib.hid U2
      clear HA1 HAT hend hlt hcb htk hp2 hpos hm hq hpc hP U2
      go_wp2_with fail
      refine (HU1.out _).mono ?_
      rintro e w2 ⟨rfl, rfl⟩
      go_wp2_with fail
      refine (HU2.out _).mono ?_
      rintro e w3 ⟨rfl, rfl⟩
      rename_i wr
      go_wp2_with (at_builtin; refine wpList_append_own _ rfl _ _ 44 rfl w.heap.size 9 i (.string ⟨#[]⟩) 1 16 Tryd.underlying44 HI.out hz hsize hby rfl (by decide) _ (l.map strL).length ((l.map strL).map Value.string) rfl (HO.out.below ((Below.refl _ _).alloc (Nat.le_refl _) _) (Nat.le_refl _)) ⟨_, 0, none⟩ 1 1 [.string (t.extract p1 p2)] rfl rfl (cell_one_new _ _ _) (by intro u hu; simp at hu; subst hu; rfl) (by unfold maxLen; simp; omega) (by simp; omega) (by have := HB.out.size; simp; omega) ?_)
      intro v' w4 hown2 hgrow _
      have HO2 := Lib.hid (ownS_mkL (by exact hown2))
      rw [HPC.out] at HO2
      have HB2 := Lib.hid (OwnS.gby (HO.out.below ((Below.refl _ _).alloc (Nat.le_refl _) _) (Nat.le_refl _)) (HB.out.alloc HB.out.size _) (by have := HB.out.size; simp; omega) hgrow)
      clear hown2 hgrow
      go_wp2_with fail
      go_roundg (t.size + 1 - p2)
      case measure => omega
      case rel => exact ⟨p2, l ++ [P], hp2'.2, rfl, rfl, by rw [List.length_append]; simp; omega, by rw [List.map_append]; exact HO2.out, HB2.out, HA2⟩
end Go.Proofs.YtanihdpgblkeaaaDoor
