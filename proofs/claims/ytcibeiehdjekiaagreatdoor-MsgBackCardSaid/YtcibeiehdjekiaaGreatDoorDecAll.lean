/-
  DecMath, DecText, DecParse in one text.
-/
import Derived.Test.YtcibeiehdjekiaaGreatDoorWordsAll
import Derived.Lib.ItoaNum
import Derived.Lib.AtoiAll
import Derived.WalkSmall
import Derived.Lib.LaidTab
import Derived.Lib.AppendIntMem
import Derived.Laws.RangeAny
import Derived.Stop.LaidErr
/-! DecMath -/
namespace Go.Proofs.YtcibeiehdjekiaaGreatDoor
open Go.RowKit
set_option linter.unusedVariables false
set_option linter.unusedSimpArgs false

/-- A digit. -/
def isD (c : UInt8) : Bool := decide (48 ≤ c.toNat) && decide (c.toNat ≤ 57)
theorem isD_iff {c : UInt8} : isD c = true ↔ 48 ≤ c.toNat ∧ c.toNat ≤ 57 := by unfold isD; simp
/-- The number that digits spell, behind others. -/
def natV (acc : Nat) : List UInt8 → Nat
  | [] => acc
  | c :: r => natV (acc * 10 + (c.toNat - 48)) r
theorem natV_app (l r : List UInt8) : ∀ acc, natV acc (l ++ r) = natV (natV acc l) r := by
  induction l with
  | nil => intro acc; rfl
  | cons c l ih => intro acc; exact ih _
theorem natV_ge (l : List UInt8) : ∀ acc, acc ≤ natV acc l := by
  induction l with
  | nil => intro acc; exact Nat.le_refl _
  | cons c l ih => intro acc; exact Nat.le_trans (by omega) (ih (acc * 10 + (c.toNat - 48)))
theorem dig_toNat (u : Nat) (h : u < 10) : (UInt8.ofNat (48 + u)).toNat = 48 + u := by
  rw [UInt8.toNat_ofNat']; omega
theorem dec_all (u : Nat) : ∀ c ∈ Lib.decDigits u, isD c = true := by
  induction u using Nat.strongRecOn with
  | ind u ih =>
    intro c hc
    unfold Lib.decDigits at hc
    split at hc
    · rename_i h
      rw [List.mem_singleton] at hc
      subst hc
      rw [isD_iff, dig_toNat u h]; omega
    · rename_i h
      rw [List.mem_append] at hc
      rcases hc with hc | hc
      · exact ih (u / 10) (by omega) c hc
      · rw [List.mem_singleton] at hc
        subst hc
        rw [isD_iff, dig_toNat _ (by omega)]; omega
theorem dec_ne (u : Nat) : Lib.decDigits u ≠ [] := by
  unfold Lib.decDigits
  split <;> simp
theorem dec_big (u : Nat) (h : 10 ≤ u) : Lib.decDigits u = Lib.decDigits (u / 10) ++ [UInt8.ofNat (48 + u % 10)] := by
  conv => lhs; unfold Lib.decDigits
  rw [dif_neg (by omega)]
theorem dec_small (u : Nat) (h : u < 10) : Lib.decDigits u = [UInt8.ofNat (48 + u)] := by
  unfold Lib.decDigits
  rw [dif_pos h]
theorem natV_dec (u : Nat) : natV 0 (Lib.decDigits u) = u := by
  induction u using Nat.strongRecOn with
  | ind u ih =>
    by_cases h : u < 10
    · rw [dec_small u h]
      show 0 * 10 + ((UInt8.ofNat (48 + u)).toNat - 48) = u
      rw [dig_toNat u h]; omega
    · rw [dec_big u (by omega), natV_app, ih (u / 10) (by omega)]
      show u / 10 * 10 + ((UInt8.ofNat (48 + u % 10)).toNat - 48) = u
      rw [dig_toNat _ (by omega)]; omega
theorem dec_len (k : Nat) : ∀ u, u < 10 ^ (k + 1) → (Lib.decDigits u).length ≤ k + 1 := by
  induction k with
  | zero => intro u h; rw [dec_small u (by omega)]; simp
  | succ k ih =>
    intro u h
    by_cases h10 : u < 10
    · rw [dec_small u h10]; simp
    · rw [dec_big u (by omega), List.length_append]
      have : u / 10 < 10 ^ (k + 1) := by rw [Nat.pow_succ] at h; omega
      have := ih (u / 10) this
      simp only [List.length_cons, List.length_nil]; omega
theorem parse10 (l : List UInt8) : ∀ acc, (∀ c ∈ l, isD c = true) → natV acc l < 18446744073709551616 → Lib.parseUint10 acc l = .ok (natV acc l) := by
  induction l with
  | nil => intro acc _ _; rfl
  | cons c r ih =>
    intro acc h hv
    have hc := isD_iff.1 (h c (by simp))
    have hge := natV_ge r (acc * 10 + (c.toNat - 48))
    have hv' : natV (acc * 10 + (c.toNat - 48)) r < 18446744073709551616 := hv
    unfold Lib.parseUint10
    rw [if_pos hc, if_neg (by omega), if_neg (by omega), ih _ (fun x hx => h x (by simp [hx])) hv']
    rfl
/-- The range of an int. -/
def inI (n : Int) : Prop := -9223372036854775808 ≤ n ∧ n ≤ 9223372036854775807
instance (n : Int) : Decidable (inI n) := inferInstanceAs (Decidable (_ ∧ _))
theorem itoa_pos (n : Int) (h : 0 ≤ n) : Lib.itoa n = Lib.decDigits n.toNat := by unfold Lib.itoa; rw [if_neg (by omega)]
theorem itoa_negI (n : Int) (h : n < 0) : Lib.itoa n = 45 :: Lib.decDigits n.natAbs := by unfold Lib.itoa; rw [if_pos h]
theorem itoa_ne (n : Int) : Lib.itoa n ≠ [] := by
  unfold Lib.itoa
  split
  · simp
  · exact dec_ne _
theorem atoi_itoa (n : Int) (h : inI n) : Lib.atoiAll (Lib.itoa n) = .ok n := by
  obtain ⟨h0, h1⟩ := h
  by_cases hn : n < 0
  · rw [itoa_negI n hn]
    unfold Lib.atoiAll
    have hp : Lib.parseMag (Lib.decDigits n.natAbs) = .ok n.natAbs := by
      unfold Lib.parseMag
      rw [if_neg (dec_ne _), parse10 _ 0 (dec_all _) (by rw [natV_dec]; omega), natV_dec]
    have e1 : ((45 : UInt8).toNat = 43 ∨ (45 : UInt8).toNat = 45) := .inr rfl
    simp only [if_pos e1, hp]
    rw [if_neg (by simp), if_neg (by omega)]
    simp
    omega
  · rw [itoa_pos n (by omega)]
    have hp : Lib.parseMag (Lib.decDigits n.toNat) = .ok n.toNat := by
      unfold Lib.parseMag
      rw [if_neg (dec_ne _), parse10 _ 0 (dec_all _) (by rw [natV_dec]; omega), natV_dec]
    cases hd : Lib.decDigits n.toNat with
    | nil => exact absurd hd (dec_ne _)
    | cons c r =>
      have hc := isD_iff.1 (dec_all n.toNat c (by rw [hd]; simp))
      rw [hd] at hp
      unfold Lib.atoiAll
      have e1 : ¬ (c.toNat = 43 ∨ c.toNat = 45) := by omega
      simp only [if_neg e1, hp]
      rw [if_neg (by omega), if_neg (by omega), if_neg (by omega)]
      simp
      omega
/-- The number that a text spells, sign and all. -/
def sgnV : List UInt8 → Int
  | [] => 0
  | c :: r => if c = 45 then -(natV 0 r : Int) else natV 0 (c :: r)
theorem sgnV_neg (r : List UInt8) : sgnV (45 :: r) = -(natV 0 r : Int) := by simp [sgnV]
theorem sgnV_pos (c : UInt8) (r : List UInt8) (h : c ≠ 45) : sgnV (c :: r) = (natV 0 (c :: r) : Int) := by simp [sgnV, h]
theorem sgnV_itoa (n : Int) : sgnV (Lib.itoa n) = n := by
  by_cases hn : n < 0
  · rw [itoa_negI n hn, sgnV_neg, natV_dec]; omega
  · rw [itoa_pos n (by omega)]
    have hv := natV_dec n.toNat
    cases hd : Lib.decDigits n.toNat with
    | nil => exact absurd hd (dec_ne _)
    | cons c r =>
      have hc := isD_iff.1 (dec_all n.toNat c (by rw [hd]; simp))
      rw [hd] at hv
      rw [sgnV_pos c r (by intro e; subst e; exact absurd hc.1 (by decide)), hv]; omega
theorem itoa_inj {a b : Int} (h : Lib.itoa a = Lib.itoa b) : a = b := by rw [← sgnV_itoa a, h, sgnV_itoa]
/-- The number of a text, if it is one's text. -/
def decV (l : List UInt8) : Option Int := if inI (sgnV l) ∧ Lib.itoa (sgnV l) = l then some (sgnV l) else none
theorem decV_itoa (n : Int) (h : inI n) : decV (Lib.itoa n) = some n := by
  unfold decV
  rw [sgnV_itoa, if_pos ⟨h, rfl⟩]
theorem decV_some {l : List UInt8} {n : Int} (h : decV l = some n) : inI n ∧ Lib.itoa n = l := by
  unfold decV at h
  split at h
  · rename_i hc; injection h with h; rw [← h]; exact hc
  · cases h
theorem decV_none {l : List UInt8} (h : ∀ n, inI n → Lib.itoa n ≠ l) : decV l = none := by
  cases hd : decV l with
  | none => rfl
  | some n => exact absurd (decV_some hd).2 (h n (decV_some hd).1)
theorem itoa_len (n : Int) (h : inI n) : (Lib.itoa n).length ≤ 20 := by
  obtain ⟨h0, h1⟩ := h
  by_cases hn : n < 0
  · rw [itoa_negI n hn]
    have := dec_len 18 n.natAbs (by omega)
    simp only [List.length_cons]; omega
  · rw [itoa_pos n (by omega)]
    have := dec_len 18 n.toNat (by omega)
    omega
theorem itoa_trim (n : Int) : (Lib.trimPrefix (Lib.itoa n) [45]).all isD = true := by
  by_cases hn : n < 0
  · rw [itoa_negI n hn]
    have e : Lib.trimPrefix (45 :: Lib.decDigits n.natAbs) [45] = Lib.decDigits n.natAbs := by
      unfold Lib.trimPrefix Lib.hasPrefix
      rw [if_pos (by simp)]; simp
    rw [e, List.all_eq_true]
    exact dec_all _
  · rw [itoa_pos n (by omega)]
    cases hd : Lib.decDigits n.toNat with
    | nil => exact absurd hd (dec_ne _)
    | cons c r =>
      have hc := isD_iff.1 (dec_all n.toNat c (by rw [hd]; simp))
      have e : Lib.trimPrefix (c :: r) [45] = c :: r := by
        unfold Lib.trimPrefix Lib.hasPrefix
        rw [if_neg]
        have : (45 == c) = false := by rw [beq_eq_false_iff_ne]; intro e; subst e; exact absurd hc.1 (by decide)
        simp [List.isPrefixOf, this]
      rw [e, ← hd, List.all_eq_true]
      exact dec_all _
theorem itoa_at (n : Int) (i : Nat) (c : UInt8) (h : (Lib.itoa n)[i]? = some c) : (i = 0 ∧ c = 45) ∨ isD c = true := by
  by_cases hn : n < 0
  · rw [itoa_negI n hn] at h
    cases i with
    | zero => simp at h; exact .inl ⟨rfl, h.symm⟩
    | succ i =>
      rw [List.getElem?_cons_succ] at h
      exact .inr (dec_all _ c (List.mem_of_getElem? h))
  · rw [itoa_pos n (by omega)] at h
    exact .inr (dec_all _ c (List.mem_of_getElem? h))
/-- A number's text from the one of its tenth. -/
theorem itoa_step (n d r : Int) (hn : inI n) (h10 : n ≤ -10 ∨ 10 ≤ n) (hd : n.tdiv 10 = d) (hr : (n.tmod 10).natAbs = r.toNat) (h0 : 0 ≤ r) : Lib.itoa n = Lib.itoa d ++ Lib.itoa r ∧ r < 10 ∧ d.natAbs < n.natAbs ∧ inI d := by
  rcases h10 with h | h
  · obtain ⟨u, rfl⟩ : ∃ u : Nat, n = -(u : Int) := ⟨n.natAbs, by omega⟩
    have e1 : (-(u : Int)).tdiv 10 = -((u / 10 : Nat) : Int) := by rw [Int.neg_tdiv]; rfl
    have e2 : (-(u : Int)).tmod 10 = -((u % 10 : Nat) : Int) := by rw [Int.neg_tmod]; rfl
    rw [e1] at hd
    rw [e2] at hr
    subst hd
    obtain ⟨q, rfl⟩ : ∃ q : Nat, r = q := ⟨r.toNat, by omega⟩
    have hq : q = u % 10 := by omega
    refine ⟨?_, by omega, by omega, ?_⟩
    · rw [itoa_negI _ (by omega), itoa_negI _ (by omega), itoa_pos _ (by omega), show (-(u : Int)).natAbs = u by omega, show (-((u / 10 : Nat) : Int)).natAbs = u / 10 by omega, show ((q : Int)).toNat = q by omega, dec_big u (by omega), dec_small q (by omega), hq]
      rfl
    · unfold inI at hn ⊢; omega
  · obtain ⟨u, rfl⟩ : ∃ u : Nat, n = (u : Int) := ⟨n.toNat, by omega⟩
    have e1 : (u : Int).tdiv 10 = ((u / 10 : Nat) : Int) := rfl
    have e2 : (u : Int).tmod 10 = ((u % 10 : Nat) : Int) := rfl
    rw [e1] at hd
    rw [e2] at hr
    subst hd
    obtain ⟨q, rfl⟩ : ∃ q : Nat, r = q := ⟨r.toNat, by omega⟩
    have hq : q = u % 10 := by omega
    refine ⟨?_, by omega, by omega, ?_⟩
    · rw [itoa_pos _ (by omega), itoa_pos _ (by omega), itoa_pos _ (by omega), show ((u : Int)).toNat = u by omega, show (((u / 10 : Nat) : Int)).toNat = u / 10 by omega, show ((q : Int)).toNat = q by omega, dec_big u (by omega), dec_small q (by omega), hq]
    · unfold inI at hn ⊢; omega
end Go.Proofs.YtcibeiehdjekiaaGreatDoor

/-! DecText -/
namespace Go.Proofs.YtcibeiehdjekiaaGreatDoor
open Go.RowKit
set_option linter.unusedVariables false
set_option linter.unusedSimpArgs false

/-- The library's tables are as its initialisers laid them. -/
structure Laid (w : World) : Prop where
  tab : Lib.TabIs Tryz.prog w "internal/strconv.uint64pow10" .u64 Lib.pow10Tab
  syn : ∃ tp p, w.var? Tryz.prog "strconv.ErrSyntax" = some #[.iface tp p]
  rng : ∃ tp p, w.var? Tryz.prog "strconv.ErrRange" = some #[.iface tp p]
theorem var_lt {w : World} {n : String} {cs : Array Value} {g : Nat} (hg : Tryz.prog.globalNamed n = some g) (h : w.var? Tryz.prog n = some cs) (h0 : 0 < cs.size) : g < w.heap.size := by
  have := World.var?_cell hg h 0
  rw [Array.getElem?_eq_getElem h0] at this
  exact World.block_lt_of_cell? _ _ this
theorem Laid.below {w w' : World} (h : Laid w) (hb : Below w.heap.size w w') : Laid w' := by
  obtain ⟨t, ⟨a, b, hs⟩, ⟨c, d, hr⟩⟩ := h
  have g1 : ∃ g, Tryz.prog.globalNamed "internal/strconv.uint64pow10" = some g := Option.isSome_iff_exists.1 (by kernel_rfl)
  have g2 : ∃ g, Tryz.prog.globalNamed "strconv.ErrSyntax" = some g := Option.isSome_iff_exists.1 (by kernel_rfl)
  have g3 : ∃ g, Tryz.prog.globalNamed "strconv.ErrRange" = some g := Option.isSome_iff_exists.1 (by kernel_rfl)
  obtain ⟨x1, g1⟩ := g1
  obtain ⟨x2, g2⟩ := g2
  obtain ⟨x3, g3⟩ := g3
  exact ⟨var?_below hb g1 (var_lt g1 t (by decide)) t, ⟨a, b, var?_below hb g2 (var_lt g2 hs (Nat.succ_pos 0)) hs⟩, ⟨c, d, var?_below hb g3 (var_lt g3 hr (Nat.succ_pos 0)) hr⟩⟩
theorem dec_text (n : Int) (hn : inI n) (w : World) (hl : Laid w) :
    Calls Tryz.prog 41 #[.int .i64 n] w fun e w' => e = .returned (.string (strL (Lib.itoa n))) ∧ Below w.heap.size w w' := by
  have J := Lib.hid (Tryz.strconv_Itoa n hn.1 hn.2 w hl.tab)
  go_enter Tryz.func41, Tryz.ntmps41
  go_wp2_with fail
  refine J.out.mono ?_
  rintro e w1 ⟨rfl, k, os, hw⟩
  have HB : Hid (Below w.heap.size w w1) := Lib.hid (by rw [hw]; exact Lib.below_grow _ w (Nat.le_refl _) k os)
  clear hw
  go_wp2_with fail
  go_ret
  exact ⟨rfl, HB.out⟩
theorem digit_text (n : Nat) (h : n < 10) : (⟨#[48, 49, 50, 51, 52, 53, 54, 55, 56, 57]⟩ : ByteArray).extract n (n + 1) = strL (Lib.decDigits n) := by
  rw [dec_small n h]
  have : n = 0 ∨ n = 1 ∨ n = 2 ∨ n = 3 ∨ n = 4 ∨ n = 5 ∨ n = 6 ∨ n = 7 ∨ n = 8 ∨ n = 9 := by omega
  rcases this with rfl | rfl | rfl | rfl | rfl | rfl | rfl | rfl | rfl | rfl
  all_goals (first | rfl | decide +kernel)
set_option maxRecDepth 100000 in
theorem ref05_small (n : Nat) (h : n < 10) (w : World) :
    Calls Tryz.prog 42 #[.int .i64 n] w fun e w' => e = .returned (.string (strL (Lib.itoa n))) ∧ w = w' := by
  have hd := digit_text n h
  have hi : Lib.itoa (n : Int) = Lib.decDigits n := by rw [itoa_pos _ (by omega)]; rfl
  rw [hi]
  have h0 : (0 : Int) ≤ (n : Int) := by omega
  have h1 : (n : Int) < 10 := by omega
  have h2 : ¬ (n : Int) < 0 := by omega
  have h3 : (-10 : Int) < (n : Int) := by omega
  obtain ⟨m, hm⟩ : ∃ m, n + 1 = m := ⟨_, rfl⟩
  rw [hm] at hd
  have w1 : IntKind.i64.wrap ((n : Int) + 1) = (m : Int) := by rw [IntKind.wrap_i64]; omega
  have q1 : (n : Int) ≤ (m : Int) := by omega
  have q2 : (m : Int) ≤ 10 := by omega
  have HD := Lib.hid hd
  clear hd hi hm
  go_enter Tryz.func42, Tryz.ntmps42
  go_wp2_with fail
  go_ret
  exact ⟨by rw [← HD.out]; rfl, rfl⟩
set_option maxRecDepth 100000 in
set_option maxHeartbeats 1600000 in
theorem ref05_text (k : Nat) : ∀ (n : Int), n.natAbs = k → inI n → ∀ w : World,
    Calls Tryz.prog 42 #[.int .i64 n] w fun e w' => e = .returned (.string (strL (Lib.itoa n))) ∧ w = w' := by
  induction k using Nat.strongRecOn with
  | ind k ih =>
    intro n hk hn w
    by_cases hs : 0 ≤ n ∧ n < 10
    · obtain ⟨m, rfl⟩ : ∃ m : Nat, n = m := ⟨n.toNat, by omega⟩
      exact ref05_small m (by omega) w
    by_cases hg : -10 < n ∧ n < 0
    · obtain ⟨m, rfl⟩ : ∃ m : Nat, n = -(m : Int) := ⟨n.natAbs, by omega⟩
      have IH := Lib.hid (ref05_small m (by omega) w)
      have hi : strL (Lib.itoa (-(m : Int))) = (⟨#[45]⟩ : ByteArray) ++ strL (Lib.itoa (m : Int)) := by
        rw [itoa_negI _ hg.2, itoa_pos _ (by omega), show (-(m : Int)).natAbs = m by omega, show ((m : Int)).toNat = m by omega]
        exact strL_app [45] _
      have hz : (Lib.itoa (m : Int)).length ≤ 20 := itoa_len _ (by unfold inI; omega)
      have hz2 : (strL (Lib.itoa (m : Int))).size ≤ 20 := by rw [strL_size]; exact hz
      generalize strL (Lib.itoa (m : Int)) = S at IH hi hz2
      have HI := Lib.hid hi
      have h1 := hg.1
      have h2 := hg.2
      have w1 : IntKind.i64.wrap (- -(m : Int)) = (m : Int) := by rw [IntKind.wrap_i64]; omega
      have w2 : IntKind.i64.wrap (m : Int) = (m : Int) := by rw [IntKind.wrap_i64]; omega
      have z : (⟨#[45]⟩ : ByteArray).size + S.size ≤ 9223372036854775807 := by show 1 + S.size ≤ _; omega
      clear hi hg hs hz ih hk hn
      go_enter Tryz.func42, Tryz.ntmps42
      go_wp2_with fail
      refine IH.out.mono ?_
      rintro e w' ⟨rfl, rfl⟩
      go_wp2_with fail
      go_ret
      exact ⟨by rw [HI.out]; rfl, rfl⟩
    · have h10 : n ≤ -10 ∨ 10 ≤ n := by omega
      obtain ⟨d, hd⟩ : ∃ d, n.tdiv 10 = d := ⟨_, rfl⟩
      obtain ⟨q, hq⟩ : ∃ q, n.tmod 10 = q := ⟨_, rfl⟩
      obtain ⟨r, hr⟩ : ∃ r : Nat, q.natAbs = r := ⟨_, rfl⟩
      obtain ⟨h1, h2, h3, h4⟩ := itoa_step n d (r : Int) hn h10 hd (by rw [hq, hr]; omega) (by omega)
      have IH := Lib.hid (ih d.natAbs (by omega) d rfl h4 w)
      have SM := Lib.hid (ref05_small r (by omega) w)
      have hz1 : (strL (Lib.itoa d)).size ≤ 20 := by rw [strL_size]; exact itoa_len _ h4
      have hz2 : (strL (Lib.itoa (r : Int))).size ≤ 20 := by rw [strL_size]; exact itoa_len _ (by unfold inI; omega)
      have hi : strL (Lib.itoa n) = strL (Lib.itoa d) ++ strL (Lib.itoa (r : Int)) := by rw [h1, strL_app]
      generalize strL (Lib.itoa d) = S at IH hi hz1
      generalize strL (Lib.itoa (r : Int)) = T at SM hi hz2
      have HI := Lib.hid hi
      have wd : IntKind.i64.wrap d = d := by unfold inI at h4; rw [IntKind.wrap_i64]; omega
      have z : S.size + T.size ≤ 9223372036854775807 := by omega
      unfold inI at hn
      obtain ⟨n0, n1⟩ := hn
      clear hi ih h1 h4 hz1 hz2
      have hcase : (n ≤ -10 ∧ n < 0 ∧ ¬ (-10 < n)) ∨ (10 ≤ n ∧ 0 ≤ n ∧ ¬ n < 0 ∧ -10 < n ∧ ¬ n < 10) := by omega
      clear hs hg h10
      rcases hcase with ⟨c1, c2, c3⟩ | ⟨c1, c2, c3, c4, c5⟩
      · by_cases hq0 : q < 0
        · have w1 : IntKind.i64.wrap (-q) = (r : Int) := by rw [IntKind.wrap_i64]; omega
          go_enter Tryz.func42, Tryz.ntmps42
          go_wp2_with fail
          refine IH.out.mono ?_
          rintro e w' ⟨rfl, rfl⟩
          go_wp2_with fail
          refine SM.out.mono ?_
          rintro e w' ⟨rfl, rfl⟩
          go_wp2_with fail
          go_ret
          exact ⟨by rw [HI.out]; rfl, rfl⟩
        · have hqr : q = (r : Int) := by omega
          subst hqr
          go_enter Tryz.func42, Tryz.ntmps42
          go_wp2_with fail
          refine IH.out.mono ?_
          rintro e w' ⟨rfl, rfl⟩
          go_wp2_with fail
          refine SM.out.mono ?_
          rintro e w' ⟨rfl, rfl⟩
          go_wp2_with fail
          go_ret
          exact ⟨by rw [HI.out]; rfl, rfl⟩
      · by_cases hq0 : q < 0
        · have w1 : IntKind.i64.wrap (-q) = (r : Int) := by rw [IntKind.wrap_i64]; omega
          go_enter Tryz.func42, Tryz.ntmps42
          go_wp2_with fail
          refine IH.out.mono ?_
          rintro e w' ⟨rfl, rfl⟩
          go_wp2_with fail
          refine SM.out.mono ?_
          rintro e w' ⟨rfl, rfl⟩
          go_wp2_with fail
          go_ret
          exact ⟨by rw [HI.out]; rfl, rfl⟩
        · have hqr : q = (r : Int) := by omega
          subst hqr
          go_enter Tryz.func42, Tryz.ntmps42
          go_wp2_with fail
          refine IH.out.mono ?_
          rintro e w' ⟨rfl, rfl⟩
          go_wp2_with fail
          refine SM.out.mono ?_
          rintro e w' ⟨rfl, rfl⟩
          go_wp2_with fail
          go_ret
          exact ⟨by rw [HI.out]; rfl, rfl⟩
theorem ref05_textI (n : Int) (hn : inI n) (w : World) : Calls Tryz.prog 42 #[.int .i64 n] w fun e w' => e = .returned (.string (strL (Lib.itoa n))) ∧ w = w' := ref05_text _ n rfl hn w
theorem take_at_ {l : List UInt8} {i : Nat} {c : UInt8} (h : l[i]? = some c) : l.take (i + 1) = l.take i ++ [c] := by
  obtain ⟨hi, e⟩ := List.getElem?_eq_some_iff.1 h
  rw [List.take_succ_eq_append_getElem hi, e]
theorem digit_yes (r : Int) (h0 : 48 ≤ r) (h1 : r ≤ 57) (w : World) : Calls Tryz.prog 58 #[.int .i32 r] w fun e w' => e = .returned (.bool true) ∧ w = w' := by
  go_enter Tryz.func58, Tryz.ntmps58
  go_wp2_with fail
  go_ret
  exact ⟨rfl, rfl⟩
theorem digit_no (r : Int) (h : r < 48 ∨ 57 < r) (w : World) : Calls Tryz.prog 58 #[.int .i32 r] w fun e w' => e = .returned (.bool false) ∧ w = w' := by
  by_cases h0 : r < 48
  · go_enter Tryz.func58, Tryz.ntmps58
    go_wp2_with fail
    go_ret
    exact ⟨rfl, rfl⟩
  · have h0' : 48 ≤ r := by omega
    have h1 : 57 < r := by omega
    have hd : decide (r ≤ 57) = false := by simp; omega
    clear h
    go_enter Tryz.func58, Tryz.ntmps58
    go_wp2_with fail
    go_ret
    exact ⟨rfl, rfl⟩
theorem below_iter (w : World) (s : ByteArray) (p : Nat) : Below w.heap.size w (w.iter s p) := (Below.refl _ _).alloc (Nat.le_refl _) _
set_option maxRecDepth 100000 in
set_option maxHeartbeats 800000 in
theorem dec_digits (s : ByteArray) (hs : s.size ≤ maxLen) (w : World) :
    Calls Tryz.prog 57 #[.string s, .func (.func 58) #[] #[]] w fun e w' => e = .returned (.bool (s.data.toList.all isD)) ∧ Below w.heap.size w w' := by
  have hs63 : s.size ≤ 9223372036854775807 := by unfold maxLen at hs; omega
  obtain ⟨B, hB⟩ : ∃ B, s.data.toList.all isD = B := ⟨_, rfl⟩
  rw [hB]
  have HB := Lib.hid hB
  clear hB
  go_enter Tryz.func57, Tryz.ntmps57
  go_wp2_with fail
  go_loopg [6] s.size (fun g c wr => ∃ p : Nat, p ≤ s.size ∧ g = s.size - p ∧ wr = w.iter s p ∧ Hid ((s.data.toList.take p).all isD = true))
  case atStart => exact ⟨0, Nat.zero_le _, rfl, rfl, Lib.hid (by simp)⟩
  case round =>
    obtain ⟨p, hp, hg, rfl, HP⟩ := hrel
    have hg := hg.symm
    subst hg
    by_cases hlt : p < s.size
    · obtain ⟨c, hc⟩ : ∃ c, s[p]'hlt = c := ⟨_, rfl⟩
      have hget : s.data.toList[p]? = some c := by
        rw [List.getElem?_eq_getElem (by rw [show s.data.toList.length = s.size from (Lib.size_eq s).symm]; exact hlt), ← hc]
        rfl
      by_cases hd : isD c = true
      · have hcc := isD_iff.1 hd
        have h1 : (48 : Int) ≤ (c.toNat : Int) := by omega
        have h2 : (c.toNat : Int) ≤ 57 := by omega
        have hnx : ∀ ty, (Instr.next (.pointer (some ⟨w.heap.size, 0, none⟩)) true ty).run Tryz.prog (w.iter s p) = .ok (.tuple #[.bool true, .int .i64 p, .int .i32 c.toNat]) (w.iter s (p + 1)) := by
          intro ty
          have := run_next_ascii (P := Tryz.prog) w s p ty hlt (by rw [hc]; omega)
          rw [hc] at this
          exact this
        have HP2 : Hid ((s.data.toList.take (p + 1)).all isD = true) := Lib.hid (by
          rw [take_at_ hget, List.all_append, HP.out]; simp [hd])
        have DY := Lib.hid (digit_yes c.toNat h1 h2)
        clear hget hc hd hcc HP h1 h2
        go_wp2_with fail
        refine (DY.out _).mono ?_
        rintro e w1 ⟨rfl, rfl⟩
        go_wp2_with fail
        go_roundg (s.size - (p + 1))
        case measure => omega
        case rel => exact ⟨p + 1, by omega, rfl, rfl, HP2⟩
      · have hBf : Hid (B = false) := Lib.hid (by
          rw [← HB.out, List.all_eq_false]
          exact ⟨c, List.mem_of_getElem? hget, hd⟩)
        obtain ⟨r, q, hr, hnx⟩ : ∃ (r : Int) (q : Nat), (r < 48 ∨ 57 < r) ∧ ∀ ty, (Instr.next (.pointer (some ⟨w.heap.size, 0, none⟩)) true ty).run Tryz.prog (w.iter s p) = .ok (.tuple #[.bool true, .int .i64 p, .int .i32 r]) (w.iter s q) := by
          by_cases ha : c.toNat < 128
          · refine ⟨c.toNat, p + 1, ?_, fun ty => ?_⟩
            · have : ¬ (48 ≤ c.toNat ∧ c.toNat ≤ 57) := fun h => hd (isD_iff.2 h)
              omega
            · have := run_next_ascii (P := Tryz.prog) w s p ty hlt (by rw [hc]; omega)
              rw [hc] at this
              exact this
          · have h128 := (decode_high s p hlt (by rw [hc]; omega)).1
            exact ⟨((Utf8.decode s p).1 : Int), p + (Utf8.decode s p).2, by omega, fun ty => run_next_any (P := Tryz.prog) w s p ty hlt⟩
        have DN := Lib.hid (digit_no r hr)
        clear hget hc hd HP hr
        go_wp2_with fail
        refine (DN.out _).mono ?_
        rintro e w1 ⟨rfl, rfl⟩
        go_wp2_with fail
        go_ret
        exact ⟨by rw [hBf.out]; rfl, below_iter _ _ _⟩
    · obtain rfl : p = s.size := by omega
      have hnx : ∀ ty, (Instr.next (.pointer (some ⟨w.heap.size, 0, none⟩)) true ty).run Tryz.prog (w.iter s s.size) = .ok (.tuple #[.bool false]) (w.iter s s.size) := fun ty => run_next_end (P := Tryz.prog) w s s.size ty hlt
      have hBt : Hid (B = true) := Lib.hid (by
        rw [← HB.out, ← HP.out, List.take_of_length_le (by rw [show s.size = s.data.toList.length from Lib.size_eq s]; exact Nat.le_refl _)])
      clear HP
      go_wp2_with fail
      go_ret
      exact ⟨by rw [hBt.out]; rfl, below_iter _ _ _⟩
end Go.Proofs.YtcibeiehdjekiaaGreatDoor

/-! DecParse -/
namespace Go.Proofs.YtcibeiehdjekiaaGreatDoor
open Go.RowKit
set_option linter.unusedVariables false
set_option linter.unusedSimpArgs false

/-- The number of a text, and the error. -/
def decR (l : List UInt8) : Int × Int := match decV l with
  | some n => (n, 0)
  | none => (0, 2)
theorem decR_none {l : List UInt8} (h : ∀ n, inI n → Lib.itoa n ≠ l) : decR l = (0, 2) := by unfold decR; rw [decV_none h]
theorem decR_text {l : List UInt8} {n : Int} (h : inI n) (h2 : Lib.itoa n = l) : decR l = (n, 0) := by unfold decR; rw [← h2, decV_itoa n h]
theorem atoi_in {l : List UInt8} {v : Int} (h : Lib.atoiAll l = .ok v) : inI v := by
  unfold Lib.atoiAll at h
  unfold inI
  split at h
  · cases h
  · simp only at h
    split at h
    · cases h
    · cases h
    · rename_i u _
      split at h
      · cases h
      · split at h
        · cases h
        · injection h with h
          split at h <;> omega
theorem str_eq_list (n : Int) (s : ByteArray) : strL (Lib.itoa n) = s ↔ Lib.itoa n = s.data.toList := by
  constructor
  · intro h; rw [← h]; rfl
  · intro h; rw [h]; exact strL_of s
theorem beq_str {a b : ByteArray} (h : a = b) : (a.toList == b.toList) = true := by subst h; simp
theorem beq_str_ne {a b : ByteArray} (h : a ≠ b) : (a.toList == b.toList) = false := (Lib.bytes_beq_false_iff a b).2 h
set_option maxRecDepth 100000 in
set_option maxHeartbeats 1600000 in
theorem dec_parse (s : ByteArray) (hs : s.size ≤ 100000) (w : World) (hl : Laid w) :
    Calls Tryz.prog 32 #[.string s] w fun e w' => e = .returned (.tuple #[.int .i64 (decR s.data.toList).1, .int .i64 (decR s.data.toList).2]) ∧ Below w.heap.size w w' := by
  have hs63 : s.size ≤ 9223372036854775807 := by omega
  have TP : Hid (Calls Tryz.prog 56 #[.string s, .string ⟨#[45]⟩] w fun e w' => e = .returned (.string (strL (Lib.trimPrefix s.data.toList [45]))) ∧ w' = w) := Lib.hid (Tryz.strings_TrimPrefix s ⟨#[45]⟩ w)
  have hle := Lib.trimPrefix_le s.data.toList [45]
  have hsl : s.data.toList.length = s.size := (Lib.size_eq s).symm
  have AD := Lib.hid (fun w => dec_digits (strL (Lib.trimPrefix s.data.toList [45])) (by rw [strL_size]; unfold maxLen; omega) w)
  rw [strL_list] at AD
  have hno : (Lib.trimPrefix s.data.toList [45]).all isD = false → decR s.data.toList = (0, 2) := by
    intro h
    refine decR_none (fun n _ e => ?_)
    rw [← e, itoa_trim] at h
    cases h
  have hat := fun n (h : inI n) (e : Lib.itoa n = s.data.toList) => show Lib.atoiAll s.data.toList = .ok n by rw [← e]; exact atoi_itoa n h
  have hok := fun n (h : inI n) (e : Lib.itoa n = s.data.toList) => decR_text h e
  have hnn := fun (h : ∀ n, inI n → Lib.itoa n ≠ s.data.toList) => decR_none h
  have HL := Lib.hid hl
  generalize (Lib.trimPrefix s.data.toList [45]).all isD = ad at AD hno
  generalize strL (Lib.trimPrefix s.data.toList [45]) = T at TP AD
  obtain ⟨RR, hR⟩ : ∃ RR, decR s.data.toList = RR := ⟨_, rfl⟩
  rw [hR] at hno ⊢
  simp only [hR] at hok hnn
  obtain ⟨R1, R2⟩ := RR
  have HNO := Lib.hid hno
  have HOK := Lib.hid hok
  have HNN := Lib.hid hnn
  have HAT := Lib.hid hat
  clear hno hok hnn hat hl hle hR
  go_enter Tryz.func32, Tryz.ntmps32
  go_wp2_with fail
  refine TP.out.mono ?_
  rintro e w0 ⟨rfl, rfl⟩
  go_wp2_with fail
  refine (AD.out _).mono ?_
  rintro e w1 ⟨rfl, hb1⟩
  have L1 := Lib.hid (HL.out.below hb1)
  have B1 := Lib.hid hb1
  clear hb1 TP AD HL
  cases ad with
  | false =>
    have HR := Lib.hid (HNO.out rfl)
    clear HNO HOK HNN HAT
    go_wp2_with fail
    go_ret2
    exact ⟨by rw [(Prod.mk.inj HR.out).1, (Prod.mk.inj HR.out).2]; rfl, B1.out⟩
  | true =>
    clear HNO
    cases ha : Lib.atoiAll s.data.toList with
    | ok v =>
      have hv := atoi_in ha
      have AT := Lib.hid (Tryz.strconv_Atoi_ok s (by omega) v ha w1)
      have TX := Lib.hid (fun w h => dec_text v hv w h)
      go_wp2_with fail
      refine AT.out.mono ?_
      rintro e w2 ⟨rfl, hw2⟩
      have hb2 : Below w1.heap.size w1 w2 := by
        rcases hw2 with rfl | ⟨t, rfl⟩
        · exact Below.refl _ _
        · exact Lib.bytesWorld_below _ _ _
      have L2 := Lib.hid (L1.out.below hb2)
      have B2 := Lib.hid (B1.out.trans (hb2.mono B1.out.size))
      clear hb2 hw2 AT B1 L1
      go_wp2_with fail
      refine (TX.out _ L2.out).mono ?_
      rintro e w3 ⟨rfl, hb3⟩
      have B3 := Lib.hid (B2.out.trans (hb3.mono B2.out.size))
      clear hb3 TX
      by_cases he : Lib.itoa v = s.data.toList
      · have HR := Lib.hid (HOK.out v hv he)
        have hq := beq_str ((str_eq_list v s).2 he)
        generalize strL (Lib.itoa v) = V at hq ⊢
        clear he HOK HNN HAT ha
        go_wp2_with fail
        go_ret2
        exact ⟨by rw [(Prod.mk.inj HR.out).1, (Prod.mk.inj HR.out).2]; rfl, B3.out⟩
      · have HR := Lib.hid (HNN.out (fun n hn e => by
          have h2 := HAT.out n hn e
          rw [ha] at h2
          injection h2 with h2
          subst h2
          exact he e))
        have hq := beq_str_ne (fun e => he ((str_eq_list v s).1 e))
        generalize strL (Lib.itoa v) = V at hq ⊢
        clear he HOK HNN HAT ha
        go_wp2_with fail
        go_ret2
        exact ⟨by rw [(Prod.mk.inj HR.out).1, (Prod.mk.inj HR.out).2]; rfl, B3.out⟩
    | «syntax» =>
      have HR := Lib.hid (HNN.out (fun n hn e => by have h2 := HAT.out n hn e; rw [ha] at h2; cases h2))
      obtain ⟨tp, p, hvar⟩ := L1.out.syn
      have AT := Lib.hid (Tryz.strconv_Atoi_syntax_var s (by omega) ha tp p w1 hvar)
      clear HOK HNN HAT ha hvar
      go_wp2_with fail
      refine AT.out.mono ?_
      rintro e w2 ⟨N, rfl, _, _, hb2⟩
      have B2 := Lib.hid (B1.out.trans (hb2.mono B1.out.size))
      clear hb2
      go_wp2_with fail
      go_ret2
      exact ⟨by rw [(Prod.mk.inj HR.out).1, (Prod.mk.inj HR.out).2]; rfl, B2.out⟩
    | range =>
      have HR := Lib.hid (HNN.out (fun n hn e => by have h2 := HAT.out n hn e; rw [ha] at h2; cases h2))
      obtain ⟨tp, p, hvar⟩ := L1.out.rng
      have AT := Lib.hid (Tryz.strconv_Atoi_range_var s (by omega) ha tp p w1 hvar)
      clear HOK HNN HAT ha hvar
      go_wp2_with fail
      refine AT.out.mono ?_
      rintro e w2 ⟨N, rfl, _, _, hb2⟩
      have B2 := Lib.hid (B1.out.trans (hb2.mono B1.out.size))
      clear hb2
      go_wp2_with fail
      go_ret2
      exact ⟨by rw [(Prod.mk.inj HR.out).1, (Prod.mk.inj HR.out).2]; rfl, B2.out⟩
theorem sgn_take_neg {l : List UInt8} {q : Nat} {c : UInt8} (h0 : l[0]? = some 45) (hq : 1 ≤ q) (hc : l[q]? = some c) (hd : isD c = true) : sgnV (l.take (q + 1)) = sgnV (l.take q) * 10 - ((c.toNat : Int) - 48) := by
  cases l with
  | nil => simp at h0
  | cons x r =>
    simp at h0
    subst h0
    obtain ⟨p, rfl⟩ : ∃ p, q = p + 1 := ⟨q - 1, by omega⟩
    rw [List.getElem?_cons_succ] at hc
    have := isD_iff.1 hd
    rw [List.take_succ_cons, List.take_succ_cons, sgnV_neg, sgnV_neg, take_at_ hc, natV_app]
    show -(((natV 0 (r.take p)) * 10 + (c.toNat - 48) : Nat) : Int) = _
    omega
theorem sgn_take_pos {l : List UInt8} {q : Nat} {c z : UInt8} (h0 : l[0]? = some z) (hz : z ≠ 45) (hc : l[q]? = some c) (hd : isD c = true) : sgnV (l.take (q + 1)) = sgnV (l.take q) * 10 + ((c.toNat : Int) - 48) := by
  have := isD_iff.1 hd
  cases l with
  | nil => simp at h0
  | cons x r =>
    simp at h0
    subst h0
    have e1 : sgnV ((x :: r).take (q + 1)) = (natV 0 ((x :: r).take (q + 1)) : Int) := by rw [List.take_succ_cons, sgnV_pos _ _ hz]
    have e2 : sgnV ((x :: r).take q) = (natV 0 ((x :: r).take q) : Int) := by
      cases q with
      | zero => rfl
      | succ q => rw [List.take_succ_cons, sgnV_pos _ _ hz]
    rw [e1, e2, take_at_ hc, natV_app]
    show (((natV 0 ((x :: r).take q)) * 10 + (c.toNat - 48) : Nat) : Int) = _
    omega
theorem wrap_in (x : Int) : inI (IntKind.i64.wrap x) := by unfold inI; rw [IntKind.wrap_i64]; omega
theorem wrap_of {x : Int} (h : inI x) : IntKind.i64.wrap x = x := by unfold inI at h; rw [IntKind.wrap_i64]; omega
end Go.Proofs.YtcibeiehdjekiaaGreatDoor
