/-
  DecMath, DecText, DecParse, IntRow, DecList, DecJoin, DecRefList in one text.
-/
import Derived.Test.YtanihdpgblkeaaaGreatDoorWordsAll
import Derived.Lib.ItoaNum
import Derived.Lib.AtoiAll
import Derived.WalkSmall
import Derived.Lib.LaidTab
import Derived.Lib.AppendIntMem
import Derived.Laws.RangeAny
import Derived.Stop.LaidErr
/-! DecMath -/
namespace Go.Proofs.YtanihdpgblkeaaaGreatDoor
open Go.RowKit
set_option linter.unusedVariables false
set_option linter.unusedSimpArgs false

/-- A digit. -/
def isD (c : UInt8) : Bool := decide (48 ≤ c.toNat) && decide (c.toNat ≤ 57)
theorem isD_iff {c : UInt8} : isD c = true ↔ 48 ≤ c.toNat ∧ c.toNat ≤ 57 := by unfold isD; simp
/-- The number that digits spell, behind others. -/
def natV (acc : Nat) : List UInt8 → Nat
  | [] => acc
  | c :: r => natV (acc * 10 + (c.toNat - 48)) r
theorem natV_app (l r : List UInt8) : ∀ acc, natV acc (l ++ r) = natV (natV acc l) r := by
  induction l with
  | nil => intro acc; rfl
  | cons c l ih => intro acc; exact ih _
theorem natV_ge (l : List UInt8) : ∀ acc, acc ≤ natV acc l := by
  induction l with
  | nil => intro acc; exact Nat.le_refl _
  | cons c l ih => intro acc; exact Nat.le_trans (by omega) (ih (acc * 10 + (c.toNat - 48)))
theorem dig_toNat (u : Nat) (h : u < 10) : (UInt8.ofNat (48 + u)).toNat = 48 + u := by
  rw [UInt8.toNat_ofNat']; omega
theorem dec_all (u : Nat) : ∀ c ∈ Lib.decDigits u, isD c = true := by
  induction u using Nat.strongRecOn with
  | ind u ih =>
    intro c hc
    unfold Lib.decDigits at hc
    split at hc
    · rename_i h
      rw [List.mem_singleton] at hc
      subst hc
      rw [isD_iff, dig_toNat u h]; omega
    · rename_i h
      rw [List.mem_append] at hc
      rcases hc with hc | hc
      · exact ih (u / 10) (by omega) c hc
      · rw [List.mem_singleton] at hc
        subst hc
        rw [isD_iff, dig_toNat _ (by omega)]; omega
theorem dec_ne (u : Nat) : Lib.decDigits u ≠ [] := by
  unfold Lib.decDigits
  split <;> simp
theorem dec_big (u : Nat) (h : 10 ≤ u) : Lib.decDigits u = Lib.decDigits (u / 10) ++ [UInt8.ofNat (48 + u % 10)] := by
  conv => lhs; unfold Lib.decDigits
  rw [dif_neg (by omega)]
theorem dec_small (u : Nat) (h : u < 10) : Lib.decDigits u = [UInt8.ofNat (48 + u)] := by
  unfold Lib.decDigits
  rw [dif_pos h]
theorem natV_dec (u : Nat) : natV 0 (Lib.decDigits u) = u := by
  induction u using Nat.strongRecOn with
  | ind u ih =>
    by_cases h : u < 10
    · rw [dec_small u h]
      show 0 * 10 + ((UInt8.ofNat (48 + u)).toNat - 48) = u
      rw [dig_toNat u h]; omega
    · rw [dec_big u (by omega), natV_app, ih (u / 10) (by omega)]
      show u / 10 * 10 + ((UInt8.ofNat (48 + u % 10)).toNat - 48) = u
      rw [dig_toNat _ (by omega)]; omega
theorem dec_len (k : Nat) : ∀ u, u < 10 ^ (k + 1) → (Lib.decDigits u).length ≤ k + 1 := by
  induction k with
  | zero => intro u h; rw [dec_small u (by omega)]; simp
  | succ k ih =>
    intro u h
    by_cases h10 : u < 10
    · rw [dec_small u h10]; simp
    · rw [dec_big u (by omega), List.length_append]
      have : u / 10 < 10 ^ (k + 1) := by rw [Nat.pow_succ] at h; omega
      have := ih (u / 10) this
      simp only [List.length_cons, List.length_nil]; omega
theorem parse10 (l : List UInt8) : ∀ acc, (∀ c ∈ l, isD c = true) → natV acc l < 18446744073709551616 → Lib.parseUint10 acc l = .ok (natV acc l) := by
  induction l with
  | nil => intro acc _ _; rfl
  | cons c r ih =>
    intro acc h hv
    have hc := isD_iff.1 (h c (by simp))
    have hge := natV_ge r (acc * 10 + (c.toNat - 48))
    have hv' : natV (acc * 10 + (c.toNat - 48)) r < 18446744073709551616 := hv
    unfold Lib.parseUint10
    rw [if_pos hc, if_neg (by omega), if_neg (by omega), ih _ (fun x hx => h x (by simp [hx])) hv']
    rfl
/-- The range of an int. -/
def inI (n : Int) : Prop := -9223372036854775808 ≤ n ∧ n ≤ 9223372036854775807
instance (n : Int) : Decidable (inI n) := inferInstanceAs (Decidable (_ ∧ _))
theorem itoa_pos (n : Int) (h : 0 ≤ n) : Lib.itoa n = Lib.decDigits n.toNat := by unfold Lib.itoa; rw [if_neg (by omega)]
theorem itoa_negI (n : Int) (h : n < 0) : Lib.itoa n = 45 :: Lib.decDigits n.natAbs := by unfold Lib.itoa; rw [if_pos h]
theorem itoa_ne (n : Int) : Lib.itoa n ≠ [] := by
  unfold Lib.itoa
  split
  · simp
  · exact dec_ne _
theorem atoi_itoa (n : Int) (h : inI n) : Lib.atoiAll (Lib.itoa n) = .ok n := by
  obtain ⟨h0, h1⟩ := h
  by_cases hn : n < 0
  · rw [itoa_negI n hn]
    unfold Lib.atoiAll
    have hp : Lib.parseMag (Lib.decDigits n.natAbs) = .ok n.natAbs := by
      unfold Lib.parseMag
      rw [if_neg (dec_ne _), parse10 _ 0 (dec_all _) (by rw [natV_dec]; omega), natV_dec]
    have e1 : ((45 : UInt8).toNat = 43 ∨ (45 : UInt8).toNat = 45) := .inr rfl
    simp only [if_pos e1, hp]
    rw [if_neg (by simp), if_neg (by omega)]
    simp
    omega
  · rw [itoa_pos n (by omega)]
    have hp : Lib.parseMag (Lib.decDigits n.toNat) = .ok n.toNat := by
      unfold Lib.parseMag
      rw [if_neg (dec_ne _), parse10 _ 0 (dec_all _) (by rw [natV_dec]; omega), natV_dec]
    cases hd : Lib.decDigits n.toNat with
    | nil => exact absurd hd (dec_ne _)
    | cons c r =>
      have hc := isD_iff.1 (dec_all n.toNat c (by rw [hd]; simp))
      rw [hd] at hp
      unfold Lib.atoiAll
      have e1 : ¬ (c.toNat = 43 ∨ c.toNat = 45) := by omega
      simp only [if_neg e1, hp]
      rw [if_neg (by omega), if_neg (by omega), if_neg (by omega)]
      simp
      omega
/-- The number that a text spells, sign and all. -/
def sgnV : List UInt8 → Int
  | [] => 0
  | c :: r => if c = 45 then -(natV 0 r : Int) else natV 0 (c :: r)
theorem sgnV_neg (r : List UInt8) : sgnV (45 :: r) = -(natV 0 r : Int) := by simp [sgnV]
theorem sgnV_pos (c : UInt8) (r : List UInt8) (h : c ≠ 45) : sgnV (c :: r) = (natV 0 (c :: r) : Int) := by simp [sgnV, h]
theorem sgnV_itoa (n : Int) : sgnV (Lib.itoa n) = n := by
  by_cases hn : n < 0
  · rw [itoa_negI n hn, sgnV_neg, natV_dec]; omega
  · rw [itoa_pos n (by omega)]
    have hv := natV_dec n.toNat
    cases hd : Lib.decDigits n.toNat with
    | nil => exact absurd hd (dec_ne _)
    | cons c r =>
      have hc := isD_iff.1 (dec_all n.toNat c (by rw [hd]; simp))
      rw [hd] at hv
      rw [sgnV_pos c r (by intro e; subst e; exact absurd hc.1 (by decide)), hv]; omega
theorem itoa_inj {a b : Int} (h : Lib.itoa a = Lib.itoa b) : a = b := by rw [← sgnV_itoa a, h, sgnV_itoa]
/-- The number of a text, if it is one's text. -/
def decV (l : List UInt8) : Option Int := if inI (sgnV l) ∧ Lib.itoa (sgnV l) = l then some (sgnV l) else none
theorem decV_itoa (n : Int) (h : inI n) : decV (Lib.itoa n) = some n := by
  unfold decV
  rw [sgnV_itoa, if_pos ⟨h, rfl⟩]
theorem decV_some {l : List UInt8} {n : Int} (h : decV l = some n) : inI n ∧ Lib.itoa n = l := by
  unfold decV at h
  split at h
  · rename_i hc; injection h with h; rw [← h]; exact hc
  · cases h
theorem decV_none {l : List UInt8} (h : ∀ n, inI n → Lib.itoa n ≠ l) : decV l = none := by
  cases hd : decV l with
  | none => rfl
  | some n => exact absurd (decV_some hd).2 (h n (decV_some hd).1)
theorem itoa_len (n : Int) (h : inI n) : (Lib.itoa n).length ≤ 20 := by
  obtain ⟨h0, h1⟩ := h
  by_cases hn : n < 0
  · rw [itoa_negI n hn]
    have := dec_len 18 n.natAbs (by omega)
    simp only [List.length_cons]; omega
  · rw [itoa_pos n (by omega)]
    have := dec_len 18 n.toNat (by omega)
    omega
theorem itoa_trim (n : Int) : (Lib.trimPrefix (Lib.itoa n) [45]).all isD = true := by
  by_cases hn : n < 0
  · rw [itoa_negI n hn]
    have e : Lib.trimPrefix (45 :: Lib.decDigits n.natAbs) [45] = Lib.decDigits n.natAbs := by
      unfold Lib.trimPrefix Lib.hasPrefix
      rw [if_pos (by simp)]; simp
    rw [e, List.all_eq_true]
    exact dec_all _
  · rw [itoa_pos n (by omega)]
    cases hd : Lib.decDigits n.toNat with
    | nil => exact absurd hd (dec_ne _)
    | cons c r =>
      have hc := isD_iff.1 (dec_all n.toNat c (by rw [hd]; simp))
      have e : Lib.trimPrefix (c :: r) [45] = c :: r := by
        unfold Lib.trimPrefix Lib.hasPrefix
        rw [if_neg]
        have : (45 == c) = false := by rw [beq_eq_false_iff_ne]; intro e; subst e; exact absurd hc.1 (by decide)
        simp [List.isPrefixOf, this]
      rw [e, ← hd, List.all_eq_true]
      exact dec_all _
theorem itoa_at (n : Int) (i : Nat) (c : UInt8) (h : (Lib.itoa n)[i]? = some c) : (i = 0 ∧ c = 45) ∨ isD c = true := by
  by_cases hn : n < 0
  · rw [itoa_negI n hn] at h
    cases i with
    | zero => simp at h; exact .inl ⟨rfl, h.symm⟩
    | succ i =>
      rw [List.getElem?_cons_succ] at h
      exact .inr (dec_all _ c (List.mem_of_getElem? h))
  · rw [itoa_pos n (by omega)] at h
    exact .inr (dec_all _ c (List.mem_of_getElem? h))
/-- A number's text from the one of its tenth. -/
theorem itoa_step (n d r : Int) (hn : inI n) (h10 : n ≤ -10 ∨ 10 ≤ n) (hd : n.tdiv 10 = d) (hr : (n.tmod 10).natAbs = r.toNat) (h0 : 0 ≤ r) : Lib.itoa n = Lib.itoa d ++ Lib.itoa r ∧ r < 10 ∧ d.natAbs < n.natAbs ∧ inI d := by
  rcases h10 with h | h
  · obtain ⟨u, rfl⟩ : ∃ u : Nat, n = -(u : Int) := ⟨n.natAbs, by omega⟩
    have e1 : (-(u : Int)).tdiv 10 = -((u / 10 : Nat) : Int) := by rw [Int.neg_tdiv]; rfl
    have e2 : (-(u : Int)).tmod 10 = -((u % 10 : Nat) : Int) := by rw [Int.neg_tmod]; rfl
    rw [e1] at hd
    rw [e2] at hr
    subst hd
    obtain ⟨q, rfl⟩ : ∃ q : Nat, r = q := ⟨r.toNat, by omega⟩
    have hq : q = u % 10 := by omega
    refine ⟨?_, by omega, by omega, ?_⟩
    · rw [itoa_negI _ (by omega), itoa_negI _ (by omega), itoa_pos _ (by omega), show (-(u : Int)).natAbs = u by omega, show (-((u / 10 : Nat) : Int)).natAbs = u / 10 by omega, show ((q : Int)).toNat = q by omega, dec_big u (by omega), dec_small q (by omega), hq]
      rfl
    · unfold inI at hn ⊢; omega
  · obtain ⟨u, rfl⟩ : ∃ u : Nat, n = (u : Int) := ⟨n.toNat, by omega⟩
    have e1 : (u : Int).tdiv 10 = ((u / 10 : Nat) : Int) := rfl
    have e2 : (u : Int).tmod 10 = ((u % 10 : Nat) : Int) := rfl
    rw [e1] at hd
    rw [e2] at hr
    subst hd
    obtain ⟨q, rfl⟩ : ∃ q : Nat, r = q := ⟨r.toNat, by omega⟩
    have hq : q = u % 10 := by omega
    refine ⟨?_, by omega, by omega, ?_⟩
    · rw [itoa_pos _ (by omega), itoa_pos _ (by omega), itoa_pos _ (by omega), show ((u : Int)).toNat = u by omega, show (((u / 10 : Nat) : Int)).toNat = u / 10 by omega, show ((q : Int)).toNat = q by omega, dec_big u (by omega), dec_small q (by omega), hq]
    · unfold inI at hn ⊢; omega
end Go.Proofs.YtanihdpgblkeaaaGreatDoor

/-! DecText -/
namespace Go.Proofs.YtanihdpgblkeaaaGreatDoor
open Go.RowKit
set_option linter.unusedVariables false
set_option linter.unusedSimpArgs false

/-- The library's tables are as its initialisers laid them. -/
structure Laid (w : World) : Prop where
  tab : Lib.TabIs Tryz.prog w "internal/strconv.uint64pow10" .u64 Lib.pow10Tab
  syn : ∃ tp p, w.var? Tryz.prog "strconv.ErrSyntax" = some #[.iface tp p]
  rng : ∃ tp p, w.var? Tryz.prog "strconv.ErrRange" = some #[.iface tp p]
theorem var_lt {w : World} {n : String} {cs : Array Value} {g : Nat} (hg : Tryz.prog.globalNamed n = some g) (h : w.var? Tryz.prog n = some cs) (h0 : 0 < cs.size) : g < w.heap.size := by
  have := World.var?_cell hg h 0
  rw [Array.getElem?_eq_getElem h0] at this
  exact World.block_lt_of_cell? _ _ this
theorem Laid.below {w w' : World} (h : Laid w) (hb : Below w.heap.size w w') : Laid w' := by
  obtain ⟨t, ⟨a, b, hs⟩, ⟨c, d, hr⟩⟩ := h
  have g1 : ∃ g, Tryz.prog.globalNamed "internal/strconv.uint64pow10" = some g := Option.isSome_iff_exists.1 (by kernel_rfl)
  have g2 : ∃ g, Tryz.prog.globalNamed "strconv.ErrSyntax" = some g := Option.isSome_iff_exists.1 (by kernel_rfl)
  have g3 : ∃ g, Tryz.prog.globalNamed "strconv.ErrRange" = some g := Option.isSome_iff_exists.1 (by kernel_rfl)
  obtain ⟨x1, g1⟩ := g1
  obtain ⟨x2, g2⟩ := g2
  obtain ⟨x3, g3⟩ := g3
  exact ⟨var?_below hb g1 (var_lt g1 t (by decide)) t, ⟨a, b, var?_below hb g2 (var_lt g2 hs (Nat.succ_pos 0)) hs⟩, ⟨c, d, var?_below hb g3 (var_lt g3 hr (Nat.succ_pos 0)) hr⟩⟩
theorem dec_text (n : Int) (hn : inI n) (w : World) (hl : Laid w) :
    Calls Tryz.prog 72 #[.int .i64 n] w fun e w' => e = .returned (.string (strL (Lib.itoa n))) ∧ Below w.heap.size w w' := by
  have J := Lib.hid (Tryz.strconv_Itoa n hn.1 hn.2 w hl.tab)
  go_enter Tryz.func72, Tryz.ntmps72
  go_wp2_with fail
  refine J.out.mono ?_
  rintro e w1 ⟨rfl, k, os, hw⟩
  have HB : Hid (Below w.heap.size w w1) := Lib.hid (by rw [hw]; exact Lib.below_grow _ w (Nat.le_refl _) k os)
  clear hw
  go_wp2_with fail
  go_ret
  exact ⟨rfl, HB.out⟩
theorem digit_text (n : Nat) (h : n < 10) : (⟨#[48, 49, 50, 51, 52, 53, 54, 55, 56, 57]⟩ : ByteArray).extract n (n + 1) = strL (Lib.decDigits n) := by
  rw [dec_small n h]
  have : n = 0 ∨ n = 1 ∨ n = 2 ∨ n = 3 ∨ n = 4 ∨ n = 5 ∨ n = 6 ∨ n = 7 ∨ n = 8 ∨ n = 9 := by omega
  rcases this with rfl | rfl | rfl | rfl | rfl | rfl | rfl | rfl | rfl | rfl
  all_goals (first | rfl | decide +kernel)
set_option maxRecDepth 100000 in
theorem ref05_small (n : Nat) (h : n < 10) (w : World) :
    Calls Tryz.prog 74 #[.int .i64 n] w fun e w' => e = .returned (.string (strL (Lib.itoa n))) ∧ w = w' := by
  have hd := digit_text n h
  have hi : Lib.itoa (n : Int) = Lib.decDigits n := by rw [itoa_pos _ (by omega)]; rfl
  rw [hi]
  have h0 : (0 : Int) ≤ (n : Int) := by omega
  have h1 : (n : Int) < 10 := by omega
  have h2 : ¬ (n : Int) < 0 := by omega
  have h3 : (-10 : Int) < (n : Int) := by omega
  obtain ⟨m, hm⟩ : ∃ m, n + 1 = m := ⟨_, rfl⟩
  rw [hm] at hd
  have w1 : IntKind.i64.wrap ((n : Int) + 1) = (m : Int) := by rw [IntKind.wrap_i64]; omega
  have q1 : (n : Int) ≤ (m : Int) := by omega
  have q2 : (m : Int) ≤ 10 := by omega
  have HD := Lib.hid hd
  clear hd hi hm
  go_enter Tryz.func74, Tryz.ntmps74
  go_wp2_with fail
  go_ret
  exact ⟨by rw [← HD.out]; rfl, rfl⟩
set_option maxRecDepth 100000 in
set_option maxHeartbeats 1600000 in
theorem ref05_text (k : Nat) : ∀ (n : Int), n.natAbs = k → inI n → ∀ w : World,
    Calls Tryz.prog 74 #[.int .i64 n] w fun e w' => e = .returned (.string (strL (Lib.itoa n))) ∧ w = w' := by
  induction k using Nat.strongRecOn with
  | ind k ih =>
    intro n hk hn w
    by_cases hs : 0 ≤ n ∧ n < 10
    · obtain ⟨m, rfl⟩ : ∃ m : Nat, n = m := ⟨n.toNat, by omega⟩
      exact ref05_small m (by omega) w
    by_cases hg : -10 < n ∧ n < 0
    · obtain ⟨m, rfl⟩ : ∃ m : Nat, n = -(m : Int) := ⟨n.natAbs, by omega⟩
      have IH := Lib.hid (ref05_small m (by omega) w)
      have hi : strL (Lib.itoa (-(m : Int))) = (⟨#[45]⟩ : ByteArray) ++ strL (Lib.itoa (m : Int)) := by
        rw [itoa_negI _ hg.2, itoa_pos _ (by omega), show (-(m : Int)).natAbs = m by omega, show ((m : Int)).toNat = m by omega]
        exact strL_app [45] _
      have hz : (Lib.itoa (m : Int)).length ≤ 20 := itoa_len _ (by unfold inI; omega)
      have hz2 : (strL (Lib.itoa (m : Int))).size ≤ 20 := by rw [strL_size]; exact hz
      generalize strL (Lib.itoa (m : Int)) = S at IH hi hz2
      have HI := Lib.hid hi
      have h1 := hg.1
      have h2 := hg.2
      have w1 : IntKind.i64.wrap (- -(m : Int)) = (m : Int) := by rw [IntKind.wrap_i64]; omega
      have w2 : IntKind.i64.wrap (m : Int) = (m : Int) := by rw [IntKind.wrap_i64]; omega
      have z : (⟨#[45]⟩ : ByteArray).size + S.size ≤ 9223372036854775807 := by show 1 + S.size ≤ _; omega
      clear hi hg hs hz ih hk hn
      go_enter Tryz.func74, Tryz.ntmps74
      go_wp2_with fail
      refine IH.out.mono ?_
      rintro e w' ⟨rfl, rfl⟩
      go_wp2_with fail
      go_ret
      exact ⟨by rw [HI.out]; rfl, rfl⟩
    · have h10 : n ≤ -10 ∨ 10 ≤ n := by omega
      obtain ⟨d, hd⟩ : ∃ d, n.tdiv 10 = d := ⟨_, rfl⟩
      obtain ⟨q, hq⟩ : ∃ q, n.tmod 10 = q := ⟨_, rfl⟩
      obtain ⟨r, hr⟩ : ∃ r : Nat, q.natAbs = r := ⟨_, rfl⟩
      obtain ⟨h1, h2, h3, h4⟩ := itoa_step n d (r : Int) hn h10 hd (by rw [hq, hr]; omega) (by omega)
      have IH := Lib.hid (ih d.natAbs (by omega) d rfl h4 w)
      have SM := Lib.hid (ref05_small r (by omega) w)
      have hz1 : (strL (Lib.itoa d)).size ≤ 20 := by rw [strL_size]; exact itoa_len _ h4
      have hz2 : (strL (Lib.itoa (r : Int))).size ≤ 20 := by rw [strL_size]; exact itoa_len _ (by unfold inI; omega)
      have hi : strL (Lib.itoa n) = strL (Lib.itoa d) ++ strL (Lib.itoa (r : Int)) := by rw [h1, strL_app]
      generalize strL (Lib.itoa d) = S at IH hi hz1
      generalize strL (Lib.itoa (r : Int)) = T at SM hi hz2
      have HI := Lib.hid hi
      have wd : IntKind.i64.wrap d = d := by unfold inI at h4; rw [IntKind.wrap_i64]; omega
      have z : S.size + T.size ≤ 9223372036854775807 := by omega
      unfold inI at hn
      obtain ⟨n0, n1⟩ := hn
      clear hi ih h1 h4 hz1 hz2
      have hcase : (n ≤ -10 ∧ n < 0 ∧ ¬ (-10 < n)) ∨ (10 ≤ n ∧ 0 ≤ n ∧ ¬ n < 0 ∧ -10 < n ∧ ¬ n < 10) := by omega
      clear hs hg h10
      rcases hcase with ⟨c1, c2, c3⟩ | ⟨c1, c2, c3, c4, c5⟩
      · by_cases hq0 : q < 0
        · have w1 : IntKind.i64.wrap (-q) = (r : Int) := by rw [IntKind.wrap_i64]; omega
          go_enter Tryz.func74, Tryz.ntmps74
          go_wp2_with fail
          refine IH.out.mono ?_
          rintro e w' ⟨rfl, rfl⟩
          go_wp2_with fail
          refine SM.out.mono ?_
          rintro e w' ⟨rfl, rfl⟩
          go_wp2_with fail
          go_ret
          exact ⟨by rw [HI.out]; rfl, rfl⟩
        · have hqr : q = (r : Int) := by omega
          subst hqr
          go_enter Tryz.func74, Tryz.ntmps74
          go_wp2_with fail
          refine IH.out.mono ?_
          rintro e w' ⟨rfl, rfl⟩
          go_wp2_with fail
          refine SM.out.mono ?_
          rintro e w' ⟨rfl, rfl⟩
          go_wp2_with fail
          go_ret
          exact ⟨by rw [HI.out]; rfl, rfl⟩
      · by_cases hq0 : q < 0
        · have w1 : IntKind.i64.wrap (-q) = (r : Int) := by rw [IntKind.wrap_i64]; omega
          go_enter Tryz.func74, Tryz.ntmps74
          go_wp2_with fail
          refine IH.out.mono ?_
          rintro e w' ⟨rfl, rfl⟩
          go_wp2_with fail
          refine SM.out.mono ?_
          rintro e w' ⟨rfl, rfl⟩
          go_wp2_with fail
          go_ret
          exact ⟨by rw [HI.out]; rfl, rfl⟩
        · have hqr : q = (r : Int) := by omega
          subst hqr
          go_enter Tryz.func74, Tryz.ntmps74
          go_wp2_with fail
          refine IH.out.mono ?_
          rintro e w' ⟨rfl, rfl⟩
          go_wp2_with fail
          refine SM.out.mono ?_
          rintro e w' ⟨rfl, rfl⟩
          go_wp2_with fail
          go_ret
          exact ⟨by rw [HI.out]; rfl, rfl⟩
theorem ref05_textI (n : Int) (hn : inI n) (w : World) : Calls Tryz.prog 74 #[.int .i64 n] w fun e w' => e = .returned (.string (strL (Lib.itoa n))) ∧ w = w' := ref05_text _ n rfl hn w
theorem take_at_ {l : List UInt8} {i : Nat} {c : UInt8} (h : l[i]? = some c) : l.take (i + 1) = l.take i ++ [c] := by
  obtain ⟨hi, e⟩ := List.getElem?_eq_some_iff.1 h
  rw [List.take_succ_eq_append_getElem hi, e]
theorem digit_yes (r : Int) (h0 : 48 ≤ r) (h1 : r ≤ 57) (w : World) : Calls Tryz.prog 104 #[.int .i32 r] w fun e w' => e = .returned (.bool true) ∧ w = w' := by
  go_enter Tryz.func104, Tryz.ntmps104
  go_wp2_with fail
  go_ret
  exact ⟨rfl, rfl⟩
theorem digit_no (r : Int) (h : r < 48 ∨ 57 < r) (w : World) : Calls Tryz.prog 104 #[.int .i32 r] w fun e w' => e = .returned (.bool false) ∧ w = w' := by
  by_cases h0 : r < 48
  · go_enter Tryz.func104, Tryz.ntmps104
    go_wp2_with fail
    go_ret
    exact ⟨rfl, rfl⟩
  · have h0' : 48 ≤ r := by omega
    have h1 : 57 < r := by omega
    have hd : decide (r ≤ 57) = false := by simp; omega
    clear h
    go_enter Tryz.func104, Tryz.ntmps104
    go_wp2_with fail
    go_ret
    exact ⟨rfl, rfl⟩
theorem below_iter (w : World) (s : ByteArray) (p : Nat) : Below w.heap.size w (w.iter s p) := (Below.refl _ _).alloc (Nat.le_refl _) _
set_option maxRecDepth 100000 in
set_option maxHeartbeats 800000 in
theorem dec_digits (s : ByteArray) (hs : s.size ≤ maxLen) (w : World) :
    Calls Tryz.prog 103 #[.string s, .func (.func 104) #[] #[]] w fun e w' => e = .returned (.bool (s.data.toList.all isD)) ∧ Below w.heap.size w w' := by
  have hs63 : s.size ≤ 9223372036854775807 := by unfold maxLen at hs; omega
  obtain ⟨B, hB⟩ : ∃ B, s.data.toList.all isD = B := ⟨_, rfl⟩
  rw [hB]
  have HB := Lib.hid hB
  clear hB
  go_enter Tryz.func103, Tryz.ntmps103
  go_wp2_with fail
  go_loopg [6] s.size (fun g c wr => ∃ p : Nat, p ≤ s.size ∧ g = s.size - p ∧ wr = w.iter s p ∧ Hid ((s.data.toList.take p).all isD = true))
  case atStart => exact ⟨0, Nat.zero_le _, rfl, rfl, Lib.hid (by simp)⟩
  case round =>
    obtain ⟨p, hp, hg, rfl, HP⟩ := hrel
    have hg := hg.symm
    subst hg
    by_cases hlt : p < s.size
    · obtain ⟨c, hc⟩ : ∃ c, s[p]'hlt = c := ⟨_, rfl⟩
      have hget : s.data.toList[p]? = some c := by
        rw [List.getElem?_eq_getElem (by rw [show s.data.toList.length = s.size from (Lib.size_eq s).symm]; exact hlt), ← hc]
        rfl
      by_cases hd : isD c = true
      · have hcc := isD_iff.1 hd
        have h1 : (48 : Int) ≤ (c.toNat : Int) := by omega
        have h2 : (c.toNat : Int) ≤ 57 := by omega
        have hnx : ∀ ty, (Instr.next (.pointer (some ⟨w.heap.size, 0, none⟩)) true ty).run Tryz.prog (w.iter s p) = .ok (.tuple #[.bool true, .int .i64 p, .int .i32 c.toNat]) (w.iter s (p + 1)) := by
          intro ty
          have := run_next_ascii (P := Tryz.prog) w s p ty hlt (by rw [hc]; omega)
          rw [hc] at this
          exact this
        have HP2 : Hid ((s.data.toList.take (p + 1)).all isD = true) := Lib.hid (by
          rw [take_at_ hget, List.all_append, HP.out]; simp [hd])
        have DY := Lib.hid (digit_yes c.toNat h1 h2)
        clear hget hc hd hcc HP h1 h2
        go_wp2_with fail
        refine (DY.out _).mono ?_
        rintro e w1 ⟨rfl, rfl⟩
        go_wp2_with fail
        go_roundg (s.size - (p + 1))
        case measure => omega
        case rel => exact ⟨p + 1, by omega, rfl, rfl, HP2⟩
      · have hBf : Hid (B = false) := Lib.hid (by
          rw [← HB.out, List.all_eq_false]
          exact ⟨c, List.mem_of_getElem? hget, hd⟩)
        obtain ⟨r, q, hr, hnx⟩ : ∃ (r : Int) (q : Nat), (r < 48 ∨ 57 < r) ∧ ∀ ty, (Instr.next (.pointer (some ⟨w.heap.size, 0, none⟩)) true ty).run Tryz.prog (w.iter s p) = .ok (.tuple #[.bool true, .int .i64 p, .int .i32 r]) (w.iter s q) := by
          by_cases ha : c.toNat < 128
          · refine ⟨c.toNat, p + 1, ?_, fun ty => ?_⟩
            · have : ¬ (48 ≤ c.toNat ∧ c.toNat ≤ 57) := fun h => hd (isD_iff.2 h)
              omega
            · have := run_next_ascii (P := Tryz.prog) w s p ty hlt (by rw [hc]; omega)
              rw [hc] at this
              exact this
          · have h128 := (decode_high s p hlt (by rw [hc]; omega)).1
            exact ⟨((Utf8.decode s p).1 : Int), p + (Utf8.decode s p).2, by omega, fun ty => run_next_any (P := Tryz.prog) w s p ty hlt⟩
        have DN := Lib.hid (digit_no r hr)
        clear hget hc hd HP hr
        go_wp2_with fail
        refine (DN.out _).mono ?_
        rintro e w1 ⟨rfl, rfl⟩
        go_wp2_with fail
        go_ret
        exact ⟨by rw [hBf.out]; rfl, below_iter _ _ _⟩
    · obtain rfl : p = s.size := by omega
      have hnx : ∀ ty, (Instr.next (.pointer (some ⟨w.heap.size, 0, none⟩)) true ty).run Tryz.prog (w.iter s s.size) = .ok (.tuple #[.bool false]) (w.iter s s.size) := fun ty => run_next_end (P := Tryz.prog) w s s.size ty hlt
      have hBt : Hid (B = true) := Lib.hid (by
        rw [← HB.out, ← HP.out, List.take_of_length_le (by rw [show s.size = s.data.toList.length from Lib.size_eq s]; exact Nat.le_refl _)])
      clear HP
      go_wp2_with fail
      go_ret
      exact ⟨by rw [hBt.out]; rfl, below_iter _ _ _⟩
end Go.Proofs.YtanihdpgblkeaaaGreatDoor

/-! DecParse -/
namespace Go.Proofs.YtanihdpgblkeaaaGreatDoor
open Go.RowKit
set_option linter.unusedVariables false
set_option linter.unusedSimpArgs false

/-- The number of a text, and the error. -/
def decR (l : List UInt8) : Int × Int := match decV l with
  | some n => (n, 0)
  | none => (0, 2)
theorem decR_none {l : List UInt8} (h : ∀ n, inI n → Lib.itoa n ≠ l) : decR l = (0, 2) := by unfold decR; rw [decV_none h]
theorem decR_text {l : List UInt8} {n : Int} (h : inI n) (h2 : Lib.itoa n = l) : decR l = (n, 0) := by unfold decR; rw [← h2, decV_itoa n h]
theorem atoi_in {l : List UInt8} {v : Int} (h : Lib.atoiAll l = .ok v) : inI v := by
  unfold Lib.atoiAll at h
  unfold inI
  split at h
  · cases h
  · simp only at h
    split at h
    · cases h
    · cases h
    · rename_i u _
      split at h
      · cases h
      · split at h
        · cases h
        · injection h with h
          split at h <;> omega
theorem str_eq_list (n : Int) (s : ByteArray) : strL (Lib.itoa n) = s ↔ Lib.itoa n = s.data.toList := by
  constructor
  · intro h; rw [← h]; rfl
  · intro h; rw [h]; exact strL_of s
theorem beq_str {a b : ByteArray} (h : a = b) : (a.toList == b.toList) = true := by subst h; simp
theorem beq_str_ne {a b : ByteArray} (h : a ≠ b) : (a.toList == b.toList) = false := (Lib.bytes_beq_false_iff a b).2 h
set_option maxRecDepth 100000 in
set_option maxHeartbeats 1600000 in
theorem dec_parse (s : ByteArray) (hs : s.size ≤ 100000) (w : World) (hl : Laid w) :
    Calls Tryz.prog 81 #[.string s] w fun e w' => e = .returned (.tuple #[.int .i64 (decR s.data.toList).1, .int .i64 (decR s.data.toList).2]) ∧ Below w.heap.size w w' := by
  have hs63 : s.size ≤ 9223372036854775807 := by omega
  have TP : Hid (Calls Tryz.prog 83 #[.string s, .string ⟨#[45]⟩] w fun e w' => e = .returned (.string (strL (Lib.trimPrefix s.data.toList [45]))) ∧ w' = w) := Lib.hid (Tryz.strings_TrimPrefix s ⟨#[45]⟩ w)
  have hle := Lib.trimPrefix_le s.data.toList [45]
  have hsl : s.data.toList.length = s.size := (Lib.size_eq s).symm
  have AD := Lib.hid (fun w => dec_digits (strL (Lib.trimPrefix s.data.toList [45])) (by rw [strL_size]; unfold maxLen; omega) w)
  rw [strL_list] at AD
  have hno : (Lib.trimPrefix s.data.toList [45]).all isD = false → decR s.data.toList = (0, 2) := by
    intro h
    refine decR_none (fun n _ e => ?_)
    rw [← e, itoa_trim] at h
    cases h
  have hat := fun n (h : inI n) (e : Lib.itoa n = s.data.toList) => show Lib.atoiAll s.data.toList = .ok n by rw [← e]; exact atoi_itoa n h
  have hok := fun n (h : inI n) (e : Lib.itoa n = s.data.toList) => decR_text h e
  have hnn := fun (h : ∀ n, inI n → Lib.itoa n ≠ s.data.toList) => decR_none h
  have HL := Lib.hid hl
  generalize (Lib.trimPrefix s.data.toList [45]).all isD = ad at AD hno
  generalize strL (Lib.trimPrefix s.data.toList [45]) = T at TP AD
  obtain ⟨RR, hR⟩ : ∃ RR, decR s.data.toList = RR := ⟨_, rfl⟩
  rw [hR] at hno ⊢
  simp only [hR] at hok hnn
  obtain ⟨R1, R2⟩ := RR
  have HNO := Lib.hid hno
  have HOK := Lib.hid hok
  have HNN := Lib.hid hnn
  have HAT := Lib.hid hat
  clear hno hok hnn hat hl hle hR
  go_enter Tryz.func81, Tryz.ntmps81
  go_wp2_with fail
  refine TP.out.mono ?_
  rintro e w0 ⟨rfl, rfl⟩
  go_wp2_with fail
  refine (AD.out _).mono ?_
  rintro e w1 ⟨rfl, hb1⟩
  have L1 := Lib.hid (HL.out.below hb1)
  have B1 := Lib.hid hb1
  clear hb1 TP AD HL
  cases ad with
  | false =>
    have HR := Lib.hid (HNO.out rfl)
    clear HNO HOK HNN HAT
    go_wp2_with fail
    go_ret2
    exact ⟨by rw [(Prod.mk.inj HR.out).1, (Prod.mk.inj HR.out).2]; rfl, B1.out⟩
  | true =>
    clear HNO
    cases ha : Lib.atoiAll s.data.toList with
    | ok v =>
      have hv := atoi_in ha
      have AT := Lib.hid (Tryz.strconv_Atoi_ok s (by omega) v ha w1)
      have TX := Lib.hid (fun w h => dec_text v hv w h)
      go_wp2_with fail
      refine AT.out.mono ?_
      rintro e w2 ⟨rfl, hw2⟩
      have hb2 : Below w1.heap.size w1 w2 := by
        rcases hw2 with rfl | ⟨t, rfl⟩
        · exact Below.refl _ _
        · exact Lib.bytesWorld_below _ _ _
      have L2 := Lib.hid (L1.out.below hb2)
      have B2 := Lib.hid (B1.out.trans (hb2.mono B1.out.size))
      clear hb2 hw2 AT B1 L1
      go_wp2_with fail
      refine (TX.out _ L2.out).mono ?_
      rintro e w3 ⟨rfl, hb3⟩
      have B3 := Lib.hid (B2.out.trans (hb3.mono B2.out.size))
      clear hb3 TX
      by_cases he : Lib.itoa v = s.data.toList
      · have HR := Lib.hid (HOK.out v hv he)
        have hq := beq_str ((str_eq_list v s).2 he)
        generalize strL (Lib.itoa v) = V at hq ⊢
        clear he HOK HNN HAT ha
        go_wp2_with fail
        go_ret2
        exact ⟨by rw [(Prod.mk.inj HR.out).1, (Prod.mk.inj HR.out).2]; rfl, B3.out⟩
      · have HR := Lib.hid (HNN.out (fun n hn e => by
          have h2 := HAT.out n hn e
          rw [ha] at h2
          injection h2 with h2
          subst h2
          exact he e))
        have hq := beq_str_ne (fun e => he ((str_eq_list v s).1 e))
        generalize strL (Lib.itoa v) = V at hq ⊢
        clear he HOK HNN HAT ha
        go_wp2_with fail
        go_ret2
        exact ⟨by rw [(Prod.mk.inj HR.out).1, (Prod.mk.inj HR.out).2]; rfl, B3.out⟩
    | «syntax» =>
      have HR := Lib.hid (HNN.out (fun n hn e => by have h2 := HAT.out n hn e; rw [ha] at h2; cases h2))
      obtain ⟨tp, p, hvar⟩ := L1.out.syn
      have AT := Lib.hid (Tryz.strconv_Atoi_syntax_var s (by omega) ha tp p w1 hvar)
      clear HOK HNN HAT ha hvar
      go_wp2_with fail
      refine AT.out.mono ?_
      rintro e w2 ⟨N, rfl, _, _, hb2⟩
      have B2 := Lib.hid (B1.out.trans (hb2.mono B1.out.size))
      clear hb2
      go_wp2_with fail
      go_ret2
      exact ⟨by rw [(Prod.mk.inj HR.out).1, (Prod.mk.inj HR.out).2]; rfl, B2.out⟩
    | range =>
      have HR := Lib.hid (HNN.out (fun n hn e => by have h2 := HAT.out n hn e; rw [ha] at h2; cases h2))
      obtain ⟨tp, p, hvar⟩ := L1.out.rng
      have AT := Lib.hid (Tryz.strconv_Atoi_range_var s (by omega) ha tp p w1 hvar)
      clear HOK HNN HAT ha hvar
      go_wp2_with fail
      refine AT.out.mono ?_
      rintro e w2 ⟨N, rfl, _, _, hb2⟩
      have B2 := Lib.hid (B1.out.trans (hb2.mono B1.out.size))
      clear hb2
      go_wp2_with fail
      go_ret2
      exact ⟨by rw [(Prod.mk.inj HR.out).1, (Prod.mk.inj HR.out).2]; rfl, B2.out⟩
theorem sgn_take_neg {l : List UInt8} {q : Nat} {c : UInt8} (h0 : l[0]? = some 45) (hq : 1 ≤ q) (hc : l[q]? = some c) (hd : isD c = true) : sgnV (l.take (q + 1)) = sgnV (l.take q) * 10 - ((c.toNat : Int) - 48) := by
  cases l with
  | nil => simp at h0
  | cons x r =>
    simp at h0
    subst h0
    obtain ⟨p, rfl⟩ : ∃ p, q = p + 1 := ⟨q - 1, by omega⟩
    rw [List.getElem?_cons_succ] at hc
    have := isD_iff.1 hd
    rw [List.take_succ_cons, List.take_succ_cons, sgnV_neg, sgnV_neg, take_at_ hc, natV_app]
    show -(((natV 0 (r.take p)) * 10 + (c.toNat - 48) : Nat) : Int) = _
    omega
theorem sgn_take_pos {l : List UInt8} {q : Nat} {c z : UInt8} (h0 : l[0]? = some z) (hz : z ≠ 45) (hc : l[q]? = some c) (hd : isD c = true) : sgnV (l.take (q + 1)) = sgnV (l.take q) * 10 + ((c.toNat : Int) - 48) := by
  have := isD_iff.1 hd
  cases l with
  | nil => simp at h0
  | cons x r =>
    simp at h0
    subst h0
    have e1 : sgnV ((x :: r).take (q + 1)) = (natV 0 ((x :: r).take (q + 1)) : Int) := by rw [List.take_succ_cons, sgnV_pos _ _ hz]
    have e2 : sgnV ((x :: r).take q) = (natV 0 ((x :: r).take q) : Int) := by
      cases q with
      | zero => rfl
      | succ q => rw [List.take_succ_cons, sgnV_pos _ _ hz]
    rw [e1, e2, take_at_ hc, natV_app]
    show (((natV 0 ((x :: r).take q)) * 10 + (c.toNat - 48) : Nat) : Int) = _
    omega
theorem wrap_in (x : Int) : inI (IntKind.i64.wrap x) := by unfold inI; rw [IntKind.wrap_i64]; omega
theorem wrap_of {x : Int} (h : inI x) : IntKind.i64.wrap x = x := by unfold inI at h; rw [IntKind.wrap_i64]; omega
set_option maxRecDepth 100000 in
set_option maxHeartbeats 3200000 in
theorem ref05_parse (s : ByteArray) (hs : s.size ≤ 100000) (w : World) :
    Calls Tryz.prog 85 #[.string s] w fun e w' => e = .returned (.tuple #[.int .i64 (decR s.data.toList).1, .int .i64 (decR s.data.toList).2]) ∧ w = w' := by
  have hs63 : s.size ≤ 9223372036854775807 := by omega
  have hsl : s.data.toList.length = s.size := (Lib.size_eq s).symm
  by_cases h0 : s.size = 0
  · have hd := decR_none (l := s.data.toList) (fun n hn e => by have := congrArg List.length e; rw [hsl, h0] at this; exact itoa_ne n (List.eq_nil_of_length_eq_zero this))
    rw [hd]
    have he : ((s.size : Int) == 0) = true := by simp [h0]
    clear hd h0 hsl
    go_enter Tryz.func85, Tryz.ntmps85
    go_wp2_with fail
    go_ret2
    exact ⟨rfl, rfl⟩
  have he : ((s.size : Int) == 0) = false := by simp [h0]
  by_cases h20 : 20 < s.size
  · have hd := decR_none (l := s.data.toList) (fun n hn e => by have := congrArg List.length e; have := itoa_len n hn; omega)
    rw [hd]
    have hb : (20 : Int) < (s.size : Int) := by omega
    clear hd h0 hsl h20
    go_enter Tryz.func85, Tryz.ntmps85
    go_wp2_with fail
    go_ret2
    exact ⟨rfl, rfl⟩
  have hb : (s.size : Int) ≤ 20 := by omega
  have hpos : 0 < s.size := by omega
  have hpI : (0 : Int) < (s.size : Int) := by omega
  obtain ⟨z, hz⟩ : ∃ z, s[0]'hpos = z := ⟨_, rfl⟩
  have hz0 : s.data.toList[0]? = some z := by
    rw [List.getElem?_eq_getElem (by rw [hsl]; exact hpos), ← hz]
    rfl
  have hbz : (((s[0]'hpos).toNat : Nat) : Int) = (z.toNat : Int) := by rw [hz]
  have hok := fun n (h : inI n) (e : Lib.itoa n = s.data.toList) => decR_text h e
  have hnn := fun (h : ∀ n, inI n → Lib.itoa n ≠ s.data.toList) => decR_none h
  obtain ⟨RR, hR⟩ : ∃ RR, decR s.data.toList = RR := ⟨_, rfl⟩
  rw [hR]
  simp only [hR] at hok hnn
  obtain ⟨R1, R2⟩ := RR
  have HOK := Lib.hid hok
  have HNN := Lib.hid hnn
  have HZ := Lib.hid hz0
  clear hok hnn hR hz hz0 h20
  go_enter Tryz.func85, Tryz.ntmps85
  go_wp2_with fail
  go_loopg [4, 5] s.size (fun g n i wr => ∃ q : Nat, q ≤ s.size ∧ g = s.size - q ∧ i = .int .i64 q ∧ wr = w ∧ n = .int .i64 (IntKind.i64.wrap (sgnV (s.data.toList.take q))))
  case atStart => exact ⟨0, Nat.zero_le _, rfl, rfl, rfl, by rw [List.take_zero]; rfl⟩
  case round =>
    obtain ⟨q, hq, hg, rfl, rfl, rfl⟩ := hrel
    have hg := hg.symm
    subst hg
    by_cases hlt : q < s.size
    · obtain ⟨c, hc⟩ : ∃ c, s[q]'hlt = c := ⟨_, rfl⟩
      have hget : s.data.toList[q]? = some c := by
        rw [List.getElem?_eq_getElem (by rw [hsl]; exact hlt), ← hc]
        rfl
      have hby : (((s[q]'hlt).toNat : Nat) : Int) = (c.toNat : Int) := by rw [hc]
      have hlI : (q : Int) < (s.size : Int) := by omega
      have hq0 : (0 : Int) ≤ (q : Int) := by omega
      by_cases hfirst : q = 0 ∧ z = 45
      · obtain ⟨rfl, rfl⟩ := hfirst
        have hX : sgnV (s.data.toList.take (0 + 1)) = 0 := by rw [take_at_ HZ.out]; rfl
        have hX0 : IntKind.i64.wrap (sgnV (s.data.toList.take 0)) = 0 := by rw [List.take_zero]; rfl
        have HX := Lib.hid hX
        rw [hX0]
        have hcz : c = 45 := by rw [HZ.out] at hget; injection hget with h; exact h.symm
        subst hcz
        clear hget hc hX hX0 hbz
        go_wp2_with fail
        go_roundg (s.size - (0 + 1))
        case measure => omega
        case rel => exact ⟨0 + 1, by omega, rfl, by go_num, rfl, by rw [HX.out]; rfl⟩
      have hskip : ((q : Int) == 0) = false ∨ (((z.toNat : Int) == 45) = false) := by
        by_cases hq1 : q = 0
        · right
          rw [beq_eq_false_iff_ne]
          intro e
          apply hfirst
          refine ⟨hq1, ?_⟩
          rw [← UInt8.toNat_inj]; show z.toNat = 45; omega
        · left; rw [beq_eq_false_iff_ne]; omega
      by_cases hd : isD c = true
      · have hcc := isD_iff.1 hd
        obtain ⟨d, hdd⟩ : ∃ d : Nat, c.toNat - 48 = d := ⟨_, rfl⟩
        have hcI : (48 : Int) ≤ (c.toNat : Int) := by omega
        have hcJ : (c.toNat : Int) ≤ 57 := by omega
        have w8 : IntKind.u8.wrap ((c.toNat : Int) - 48) = (d : Int) := by rw [IntKind.wrap_u8]; omega
        have w9 : IntKind.i64.wrap (d : Int) = (d : Int) := by rw [IntKind.wrap_i64]; omega
        obtain ⟨A, hA⟩ : ∃ A, IntKind.i64.wrap (sgnV (s.data.toList.take q)) = A := ⟨_, rfl⟩
        obtain ⟨B, hB⟩ : ∃ B, IntKind.i64.wrap (A * 10) = B := ⟨_, rfl⟩
        rw [hA]
        by_cases h45 : z = 45
        · have hq1 : 1 ≤ q := by
            by_cases h : q = 0
            · exact absurd ⟨h, h45⟩ hfirst
            · omega
          obtain ⟨C, hC⟩ : ∃ C, IntKind.i64.wrap (B - (d : Int)) = C := ⟨_, rfl⟩
          have hst := sgn_take_neg (by rw [HZ.out, h45]) hq1 hget hd
          have HC : Hid (IntKind.i64.wrap (sgnV (s.data.toList.take (q + 1))) = C) := Lib.hid (by
            rw [hst, ← hC, ← hB, ← hA]
            simp only [IntKind.wrap_i64]
            omega)
          have hqn : ((q : Int) == 0) = false := by rw [beq_eq_false_iff_ne]; omega
          have hqn2 : ¬ q = 0 := by omega
          subst h45
          clear hget hc hd hA hst hdd hfirst hskip hcc
          go_wp2_with fail
          go_roundg (s.size - (q + 1))
          case measure => omega
          case rel => exact ⟨q + 1, by omega, rfl, by go_num, rfl, by rw [HC.out]⟩
        · obtain ⟨C, hC⟩ : ∃ C, IntKind.i64.wrap (B + (d : Int)) = C := ⟨_, rfl⟩
          have hst := sgn_take_pos HZ.out h45 hget hd
          have HC : Hid (IntKind.i64.wrap (sgnV (s.data.toList.take (q + 1))) = C) := Lib.hid (by
            rw [hst, ← hC, ← hB, ← hA]
            simp only [IntKind.wrap_i64]
            omega)
          have z1 : (z == 45) = false := beq_eq_false_iff_ne.2 h45
          have z2 : ¬ (z.toNat : Int) = 45 := by intro e; apply h45; rw [← UInt8.toNat_inj]; show z.toNat = 45; omega
          have z3 : ((z.toNat : Int) == 45) = false := beq_eq_false_iff_ne.2 z2
          by_cases hqz : q = 0
          · subst hqz
            have hcz : c = z := by rw [HZ.out] at hget; injection hget with h; exact h.symm
            subst hcz
            clear hget hc hd hA hst hdd hfirst hskip hcc h45 hbz
            go_wp2_with fail
            go_roundg (s.size - (0 + 1))
            case measure => omega
            case rel => exact ⟨0 + 1, by omega, rfl, by go_num, rfl, by rw [HC.out]⟩
          · have hqn : ((q : Int) == 0) = false := by rw [beq_eq_false_iff_ne]; omega
            clear hget hc hd hA hst hdd hfirst hskip hcc h45
            go_wp2_with fail
            go_roundg (s.size - (q + 1))
            case measure => omega
            case rel => exact ⟨q + 1, by omega, rfl, by go_num, rfl, by rw [HC.out]⟩
      · have HR := Lib.hid (HNN.out (fun n hn e => by
          rcases itoa_at n q c (by rw [e]; exact hget) with ⟨h1, h2⟩ | h
          · subst h1
            rw [HZ.out] at hget
            injection hget with hget
            exact hfirst ⟨rfl, by rw [hget, h2]⟩
          · exact hd h))
        have hno : (c.toNat : Int) < 48 ∨ (48 ≤ (c.toNat : Int) ∧ 57 < (c.toNat : Int)) := by
          have : ¬ (48 ≤ c.toNat ∧ c.toNat ≤ 57) := fun h => hd (isD_iff.2 h)
          omega
        have hcz : q = 0 → c = z := by intro e; subst e; rw [HZ.out] at hget; injection hget with h; exact h.symm
        have HCZ := Lib.hid hcz
        clear hget hc hd hfirst HOK HNN HZ hcz
        generalize IntKind.i64.wrap (sgnV (s.data.toList.take q)) = A
        rcases hno with hno | ⟨hno1, hno2⟩
        · rcases hskip with hk | hk
          · have hk2 : ¬ q = 0 := by intro e; subst e; exact absurd hk (by decide)
            go_wp2_with fail
            go_ret2
            exact ⟨by rw [(Prod.mk.inj HR.out).1, (Prod.mk.inj HR.out).2]; rfl, rfl⟩
          · have z2 : ¬ (z.toNat : Int) = 45 := by rw [beq_eq_false_iff_ne] at hk; exact hk
            have z4 : ¬ z = 45 := by intro e; subst e; exact z2 rfl
            have z1 : (z == 45) = false := beq_eq_false_iff_ne.2 z4
            by_cases hqz : q = 0
            · subst hqz
              have hcz := HCZ.out rfl
              subst hcz
              clear hbz HCZ
              go_wp2_with fail
              go_ret2
              exact ⟨by rw [(Prod.mk.inj HR.out).1, (Prod.mk.inj HR.out).2]; rfl, rfl⟩
            · have hqn : ((q : Int) == 0) = false := by rw [beq_eq_false_iff_ne]; omega
              go_wp2_with fail
              go_ret2
              exact ⟨by rw [(Prod.mk.inj HR.out).1, (Prod.mk.inj HR.out).2]; rfl, rfl⟩
        · rcases hskip with hk | hk
          · have hk2 : ¬ q = 0 := by intro e; subst e; exact absurd hk (by decide)
            go_wp2_with fail
            go_ret2
            exact ⟨by rw [(Prod.mk.inj HR.out).1, (Prod.mk.inj HR.out).2]; rfl, rfl⟩
          · have z2 : ¬ (z.toNat : Int) = 45 := by rw [beq_eq_false_iff_ne] at hk; exact hk
            have z4 : ¬ z = 45 := by intro e; subst e; exact z2 rfl
            have z1 : (z == 45) = false := beq_eq_false_iff_ne.2 z4
            by_cases hqz : q = 0
            · subst hqz
              have hcz := HCZ.out rfl
              subst hcz
              clear hbz HCZ
              go_wp2_with fail
              go_ret2
              exact ⟨by rw [(Prod.mk.inj HR.out).1, (Prod.mk.inj HR.out).2]; rfl, rfl⟩
            · have hqn : ((q : Int) == 0) = false := by rw [beq_eq_false_iff_ne]; omega
              go_wp2_with fail
              go_ret2
              exact ⟨by rw [(Prod.mk.inj HR.out).1, (Prod.mk.inj HR.out).2]; rfl, rfl⟩
    · obtain rfl : q = s.size := by omega
      rw [List.take_of_length_le (by rw [hsl]; exact Nat.le_refl _)]
      have hin := wrap_in (sgnV s.data.toList)
      have hback : ∀ n, inI n → Lib.itoa n = s.data.toList → n = IntKind.i64.wrap (sgnV s.data.toList) := by
        intro n hn e
        rw [← e, sgnV_itoa, wrap_of hn]
      generalize IntKind.i64.wrap (sgnV s.data.toList) = A at hin hback
      have TX := Lib.hid (ref05_textI A hin)
      by_cases heq : Lib.itoa A = s.data.toList
      · have HR := Lib.hid (HOK.out A hin heq)
        have hqq := beq_str ((str_eq_list A s).2 heq)
        generalize strL (Lib.itoa A) = V at hqq TX
        clear heq HOK HNN hback
        go_wp2_with fail
        refine (TX.out _).mono ?_
        rintro e w1 ⟨rfl, rfl⟩
        go_wp2_with fail
        go_ret2
        exact ⟨by rw [(Prod.mk.inj HR.out).1, (Prod.mk.inj HR.out).2]; rfl, rfl⟩
      · have HR := Lib.hid (HNN.out (fun n hn e => by
          have := hback n hn e
          subst this
          exact heq e))
        have hqq := beq_str_ne (fun e => heq ((str_eq_list A s).1 e))
        generalize strL (Lib.itoa A) = V at hqq TX
        clear heq HOK HNN hback
        go_wp2_with fail
        refine (TX.out _).mono ?_
        rintro e w1 ⟨rfl, rfl⟩
        go_wp2_with fail
        go_ret2
        exact ⟨by rw [(Prod.mk.inj HR.out).1, (Prod.mk.inj HR.out).2]; rfl, rfl⟩
end Go.Proofs.YtanihdpgblkeaaaGreatDoor

/-! IntRow -/
namespace Go.Proofs.YtanihdpgblkeaaaGreatDoor
open Go.RowKit
set_option linter.unusedVariables false
set_option linter.unusedSimpArgs false

/-- A row of numbers of the call's own. -/
def OwnN (B : Nat) (w : World) (v : Value) (l : List Int) : Prop := w.ownsRow B 3 1 v l.length (l.map (Value.int .i64))
theorem OwnN.nil (B : Nat) (w : World) : OwnN B w (.slice none 0 0) [] := ⟨rfl, .inl ⟨rfl, rfl⟩⟩
theorem OwnN.below {B C : Nat} {w w' : World} {v : Value} {l : List Int} (h : OwnN B w v l) (hb : Below C w w') (hC : w.heap.size ≤ C) : OwnN B w' v l := by
  obtain ⟨h1, h2 | ⟨g, cap, cur, rfl, hg, hh, rest⟩⟩ := h
  · exact ⟨h1, .inl h2⟩
  · refine ⟨h1, .inr ⟨g, cap, cur, rfl, hg, ?_, rest⟩⟩
    rw [← hh]
    exact hb.block g (Nat.lt_of_lt_of_le (Array.getElem?_eq_some_iff.1 hh).1 hC)

theorem OwnN.gby {B : Nat} {w0 w1 w2 : World} {v : Value} {l : List Int} (h : OwnN B w1 v l) (hb : Below B w0 w1) (hB : B ≤ w1.heap.size) (hg : w1.grownBy w2 v.ownBlock) : Below B w0 w2 := by
  refine hb.trans ⟨hg.os, hg.tape, hg.output, hg.size, fun k hk => hg.block k (Nat.lt_of_lt_of_le hk hB) (fun e => ?_)⟩
  obtain ⟨_, ⟨rfl, _⟩ | ⟨g, cap, cur, rfl, hg1, _⟩⟩ := h
  · cases e
  · have : g = k := by have e2 := e.symm; simpa [Value.ownBlock] using e2
    omega
theorem OwnN.mk {B : Nat} {w : World} {v : Value} {l : List Int} {b : Int} (h : w.ownsRow B 3 1 v (l.length + 1) (l.map (Value.int .i64) ++ [Value.int .i64 b])) : OwnN B w v (l ++ [b]) := by
  unfold OwnN
  rw [List.length_append, List.map_append]
  exact h

/-- A slice that holds numbers. -/
def RowN (w : World) (v : Value) (l : List Int) : Prop :=
  (∃ p cap, v = .slice p 0 cap ∧ l = []) ∨ ∃ b off cap, v = .slice (some ⟨b, off, none⟩) l.length cap ∧ b < w.heap.size ∧ (∀ j x, l[j]? = some x → w.cell? ⟨b, off + j, none⟩ = some (.int .i64 x)) ∧ l.length ≤ cap
theorem OwnN.row {B : Nat} {w : World} {v : Value} {l : List Int} (h : OwnN B w v l) : RowN w v l := by
  have hc := fun g (hg : v.ownBlock = some g) => World.ownsRow.cells h (g := g) hg
  obtain ⟨h1, ⟨rfl, h2⟩ | ⟨g, cap, cur, rfl, hg, hh, hnc, _⟩⟩ := h
  · exact .inl ⟨none, 0, rfl, List.eq_nil_of_length_eq_zero h2⟩
  · refine .inr ⟨g, 0, cap, rfl, (Array.getElem?_eq_some_iff.1 hh).1, fun j x hj => ?_, hnc⟩
    have := hc g rfl j (.int .i64 x) (by rw [List.getElem?_map, hj]; rfl)
    rw [Nat.zero_add]; have e : (⟨g, 0, none⟩ : Addr).add j = ⟨g, j, none⟩ := by simp [Addr.add]; intro h; exact h.symm
    rw [e] at this; exact this
theorem RowN.below {C : Nat} {w w' : World} {v : Value} {l : List Int} (h : RowN w v l) (hb : Below C w w') (hC : w.heap.size ≤ C) : RowN w' v l := by
  rcases h with h | ⟨b, off, cap, h1, h2, h3, h4⟩
  · exact .inl h
  · exact .inr ⟨b, off, cap, h1, Nat.lt_of_lt_of_le h2 hb.size, fun j x hj => keepB (Below.mono hb hC) (h3 j x hj) h2, h4⟩
/-- What a slice of numbers holds, element by element. -/
theorem RowN.at {w : World} {v : Value} {l : List Int} (h : RowN w v l) {j : Nat} (hj : j < l.length) : ∃ b off cap x, v = .slice (some ⟨b, off, none⟩) l.length cap ∧ l[j]? = some x ∧ w.cell? ⟨b, off + j, none⟩ = some (.int .i64 x) := by
  rcases h with ⟨_, _, rfl, rfl⟩ | ⟨b, off, cap, h1, h2, h3, _⟩
  · exact absurd hj (by simp)
  · exact ⟨b, off, cap, l[j], h1, List.getElem?_eq_getElem hj, h3 j _ (List.getElem?_eq_getElem hj)⟩
theorem RowN.len {w : World} {v : Value} {l : List Int} (h : RowN w v l) : ∃ p cap, v = .slice p l.length cap := by
  rcases h with ⟨p, cap, rfl, rfl⟩ | ⟨b, off, cap, h1, h2, h3, _⟩
  · exact ⟨p, cap, rfl⟩
  · exact ⟨_, cap, h1⟩
end Go.Proofs.YtanihdpgblkeaaaGreatDoor

/-! DecList -/
namespace Go.Proofs.YtanihdpgblkeaaaGreatDoor
open Go.RowKit
set_option linter.unusedVariables false
set_option linter.unusedSimpArgs false

theorem splitC_le (c : UInt8) (l : List UInt8) : ∀ x ∈ splitC c l, x.length ≤ l.length := by
  induction l with
  | nil => intro x hx; simp [splitC] at hx; subst hx; simp
  | cons a r ih =>
    intro x hx
    unfold splitC at hx
    have hne := splitC_ne c r
    split at hx
    · rw [List.mem_cons] at hx
      rcases hx with rfl | hx
      · simp
      · have := ih x hx; simp only [List.length_cons]; omega
    · cases hs : splitC c r with
      | nil => exact absurd hs hne
      | cons h t =>
        rw [hs] at hx ih
        simp only [List.headD_cons, List.tail_cons, List.mem_cons] at hx
        rcases hx with rfl | hx
        · have := ih h (by simp); simp only [List.length_cons]; omega
        · have := ih x (by simp [hx]); simp only [List.length_cons]; omega
theorem rowS_pick_ {w : World} {p : Option Addr} {cap n : Nat} {l : List (List UInt8)} (h : RowS w (.slice p n cap) (l.map strL)) (hn : l.length = n) : ∀ j, j < n → ∃ b off cp x, (Value.slice p n cap) = .slice (some ⟨b, off, none⟩) n cp ∧ l[j]? = some x ∧ w.cell? ⟨b, off + j, none⟩ = some (.string (strL x)) ∧ b < w.heap.size := by
  intro j hj
  rcases h with ⟨_, _, _, h0⟩ | ⟨b, off, cp, e1, hb, hc, _⟩
  · have : l = [] := by simpa using h0
    rw [this] at hn; simp at hn; omega
  · rw [List.length_map, hn] at e1
    have hj' : j < l.length := by omega
    exact ⟨b, off, cp, l[j], e1, List.getElem?_eq_getElem hj', hc j _ (by rw [List.getElem?_map, List.getElem?_eq_getElem hj']; rfl), hb⟩
theorem takeL_at_ {l : List (List UInt8)} {i : Nat} {x : List UInt8} (h : l[i]? = some x) : l.take (i + 1) = l.take i ++ [x] := by
  obtain ⟨hi, e⟩ := List.getElem?_eq_some_iff.1 h
  rw [List.take_succ_eq_append_getElem hi, e]
/-- The numbers of texts, if each is one's. -/
def allV : List (List UInt8) → Option (List Int)
  | [] => some []
  | x :: r => match decV x, allV r with
    | some n, some ns => some (n :: ns)
    | _, _ => none
theorem allV_length {l : List (List UInt8)} {ns : List Int} (h : allV l = some ns) : ns.length = l.length := by
  induction l generalizing ns with
  | nil => simp [allV] at h; subst h; rfl
  | cons x r ih =>
    unfold allV at h
    split at h
    · rename_i n ns' h1 h2
      injection h with h; subst h
      simp [ih h2]
    · cases h
theorem allV_app (l r : List (List UInt8)) : allV (l ++ r) = match allV l, allV r with
    | some a, some b => some (a ++ b)
    | _, _ => none := by
  induction l with
  | nil => simp [allV]; cases allV r <;> rfl
  | cons x l ih =>
    have e1 : allV (x :: l ++ r) = (match decV x, allV (l ++ r) with | some n, some ns => some (n :: ns) | _, _ => none) := rfl
    have e2 : allV (x :: l) = (match decV x, allV l with | some n, some ns => some (n :: ns) | _, _ => none) := rfl
    rw [e1, e2, ih]
    cases decV x <;> cases allV l <;> cases allV r <;> rfl
theorem allV_snoc (l : List (List UInt8)) (x : List UInt8) (ns : List Int) (n : Int) (h : allV l = some ns) (hx : decV x = some n) : allV (l ++ [x]) = some (ns ++ [n]) := by
  rw [allV_app, h]
  have : allV [x] = some [n] := by simp [allV, hx]
  rw [this]
theorem allV_bad (l : List (List UInt8)) (i : Nat) (x : List UInt8) (h : l[i]? = some x) (hx : decV x = none) : allV l = none := by
  induction l generalizing i with
  | nil => simp at h
  | cons y r ih =>
    unfold allV
    cases i with
    | zero => simp at h; subst h; rw [hx]
    | succ i =>
      rw [List.getElem?_cons_succ] at h
      rw [ih i h]
      cases decV y <;> rfl
/-- The numbers of a text, if it has so many; and the error. -/
def listR (l : List UInt8) (many : Int) : List Int × Int := if ((splitC 44 l).length : Int) ≠ many then ([], 2) else match allV (splitC 44 l) with
  | some ns => (ns, 0)
  | none => ([], 2)
theorem decR_of {l : List UInt8} : (∃ n, decV l = some n ∧ decR l = (n, 0)) ∨ (decV l = none ∧ decR l = (0, 2)) := by
  unfold decR
  cases h : decV l with
  | none => exact .inr ⟨rfl, rfl⟩
  | some n => exact .inl ⟨n, rfl, rfl⟩
end Go.Proofs.YtanihdpgblkeaaaGreatDoor

/-! DecJoin -/
namespace Go.Proofs.YtanihdpgblkeaaaGreatDoor
open Go.RowKit
set_option linter.unusedVariables false
set_option linter.unusedSimpArgs false

theorem nil_app_ (X : ByteArray) : (⟨#[]⟩ : ByteArray) ++ X = X := by apply ByteArray.ext; simp
/-- Numbers as one text. -/
def listL (ns : List Int) : List UInt8 := Lib.join (ns.map Lib.itoa) [44]
theorem join_snoc_ (l : List (List UInt8)) (h : l ≠ []) (x sep : List UInt8) : Lib.join (l ++ [x]) sep = Lib.join l sep ++ sep ++ x := by
  cases l with
  | nil => exact absurd rfl h
  | cons y r => rw [List.cons_append, Lib.join_cons, Lib.join_cons]; simp [Lib.joinTail]
theorem listL_snoc (ns : List Int) (h : ns ≠ []) (n : Int) : listL (ns ++ [n]) = listL ns ++ [44] ++ Lib.itoa n := by
  unfold listL
  rw [List.map_append]
  exact join_snoc_ _ (by simp [h]) _ _
theorem listL_one (n : Int) : listL [n] = Lib.itoa n := Lib.join_one _ _
theorem listL_len (ns : List Int) (h : ∀ n ∈ ns, inI n) : (listL ns).length ≤ 21 * ns.length := by
  unfold listL
  cases ns with
  | nil => simp [Lib.join_nil]
  | cons a r =>
    have h1 := itoa_len a (h a (by simp))
    rw [List.map_cons, Lib.join_cons, List.length_append, Lib.joinTail_length, List.length_map]
    have h2 : Lib.lens (r.map Lib.itoa) ≤ 20 * r.length := by
      have hr : ∀ n ∈ r, inI n := fun n hn => h n (by simp [hn])
      clear h
      induction r with
      | nil => simp [Lib.lens]
      | cons b t ih =>
        have h3 := itoa_len b (hr b (by simp))
        have h4 := ih (fun n hn => hr n (by simp [hn]))
        simp only [Lib.lens, List.map_cons, List.sum_cons, List.length_cons] at h4 ⊢
        omega
    simp only [List.length_cons, List.length_nil]
    omega
theorem takeI_at {l : List Int} {i : Nat} {x : Int} (h : l[i]? = some x) : l.take (i + 1) = l.take i ++ [x] := by
  obtain ⟨hi, e⟩ := List.getElem?_eq_some_iff.1 h
  rw [List.take_succ_eq_append_getElem hi, e]
theorem rowN_pick {w : World} {p : Option Addr} {cap n : Nat} {l : List Int} (h : RowN w (.slice p n cap) l) (hn : l.length = n) : ∀ j, j < n → ∃ b off cp x, (Value.slice p n cap) = .slice (some ⟨b, off, none⟩) n cp ∧ l[j]? = some x ∧ w.cell? ⟨b, off + j, none⟩ = some (.int .i64 x) ∧ b < w.heap.size := by
  intro j hj
  rcases h with ⟨_, _, _, h0⟩ | ⟨b, off, cp, e1, hb, hc, _⟩
  · rw [h0] at hn; simp at hn; omega
  · rw [hn] at e1
    have hj' : j < l.length := by omega
    exact ⟨b, off, cp, l[j], e1, List.getElem?_eq_getElem hj', hc j _ (List.getElem?_eq_getElem hj'), hb⟩
set_option maxRecDepth 100000 in
theorem join_row (v : Value) (l : List (List UInt8)) (w : World) (hv : RowS w v (l.map strL)) (hl : l.length ≤ 1000000) (hlen : (Lib.join l [44]).length ≤ 100000000) :
    Calls Tryz.prog 73 #[v, .string ⟨#[44]⟩] w fun e w' => e = .returned (.string (strL (Lib.join l [44]))) ∧ Below w.heap.size w w' := by
  have hmm : (l.map strL).map (·.data.toList) = l := by
    rw [List.map_map]
    conv => rhs; rw [← List.map_id l]
    apply List.map_congr_left
    intro x _; rfl
  rcases hv with ⟨p, cap, rfl, h0⟩ | ⟨b, off, cap, rfl, hb, hc, hcap⟩
  · have : l = [] := by simpa using h0
    subst this
    exact (Tryz.strings_Join_none p cap ⟨#[44]⟩ w).mono fun e w' ⟨he, hw⟩ => ⟨he, hw ▸ Below.refl _ _⟩
  · have hx : ((l.map strL).length) ≤ 140737488355328 := by rw [List.length_map]; omega
    have hj : (Lib.join ((l.map strL).map (·.data.toList)) (⟨#[44]⟩ : ByteArray).data.toList).length ≤ 140737488355328 := by
      rw [hmm]
      refine Nat.le_trans hlen ?_
      omega
    have h := Tryz.strings_Join b off cap (l.map strL) ⟨#[44]⟩ w hc hb hx hcap hj
    rw [hmm] at h
    exact h
end Go.Proofs.YtanihdpgblkeaaaGreatDoor

/-! DecRefList -/
namespace Go.Proofs.YtanihdpgblkeaaaGreatDoor
open Go.RowKit
set_option linter.unusedVariables false
set_option linter.unusedSimpArgs false

/-- The pieces of a text, with what has been read of the first. -/
def refP (line : List UInt8) : List UInt8 → List (List UInt8)
  | [] => [line]
  | x :: r => if x = 44 then line :: refP [] r else refP (line ++ [x]) r
theorem refP_split (l : List UInt8) : ∀ line, refP line l = (line ++ (splitC 44 l).headD []) :: (splitC 44 l).tail := by
  induction l with
  | nil => intro line; simp [refP, splitC]
  | cons x r ih =>
    intro line
    unfold refP
    by_cases h : x = 44
    · rw [if_pos h, ih []]
      rw [show splitC 44 (x :: r) = [] :: splitC 44 r by rw [splitC, if_pos h]]
      have hne := splitC_ne 44 r
      cases hs : splitC 44 r with
      | nil => exact absurd hs hne
      | cons a b => simp
    · rw [if_neg h, ih]
      rw [show splitC 44 (x :: r) = (x :: (splitC 44 r).headD []) :: (splitC 44 r).tail by rw [splitC, if_neg h]]
      simp
theorem refP_zero (l : List UInt8) : refP [] l = splitC 44 l := by
  rw [refP_split]
  have hne := splitC_ne 44 l
  cases hs : splitC 44 l with
  | nil => exact absurd hs hne
  | cons a b => simp
def lineAt (L : List UInt8) (fr k : Nat) : List UInt8 := (L.drop fr).take (k - fr)
theorem line_ext (s : ByteArray) (fr k : Nat) : s.extract fr k = strL (lineAt s.data.toList fr k) := by
  apply ByteArray.ext
  unfold strL lineAt
  rw [ByteArray.data_extract]
  apply Array.ext'
  simp
theorem line_snoc (L : List UInt8) (fr k : Nat) (c : UInt8) (h : L[k]? = some c) (hf : fr ≤ k) : lineAt L fr (k + 1) = lineAt L fr k ++ [c] := by
  unfold lineAt
  rw [show k + 1 - fr = (k - fr) + 1 by omega]
  refine take_at ?_
  rw [List.getElem?_drop, show fr + (k - fr) = k by omega]
  exact h
theorem line_self (L : List UInt8) (k : Nat) : lineAt L k k = [] := by unfold lineAt; rw [Nat.sub_self, List.take_zero]
theorem line_le (L : List UInt8) (fr k : Nat) : (lineAt L fr k).length ≤ L.length := by
  unfold lineAt; rw [List.length_take, List.length_drop]; omega
end Go.Proofs.YtanihdpgblkeaaaGreatDoor
