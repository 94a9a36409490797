/-
  Numbers as texts (reeve's layer 5): the tables; the text of a number; are all signs digits.
-/
import Derived.Test.YtanihdpgblkeaaaDoorDecMath
import Derived.Test.YtanihdpgblkeaaaDoorWordsRest
import Derived.WalkSmall
import Derived.Lib.LaidTab
import Derived.Lib.AppendIntMem
import Derived.Laws.RangeAny
import Derived.Stop.LaidErr
namespace Go.Proofs.YtanihdpgblkeaaaDoor
open Go.RowKit
set_option linter.unusedVariables false
set_option linter.unusedSimpArgs false

/-- The library's tables are as its initialisers laid them. -/
structure Laid (w : World) : Prop where
  tab : Lib.TabIs Tryd.prog w "internal/strconv.uint64pow10" .u64 Lib.pow10Tab
  syn : ∃ tp p, w.var? Tryd.prog "strconv.ErrSyntax" = some #[.iface tp p]
  rng : ∃ tp p, w.var? Tryd.prog "strconv.ErrRange" = some #[.iface tp p]
theorem var_lt {w : World} {n : String} {cs : Array Value} {g : Nat} (hg : Tryd.prog.globalNamed n = some g) (h : w.var? Tryd.prog n = some cs) (h0 : 0 < cs.size) : g < w.heap.size := by
  have := World.var?_cell hg h 0
  rw [Array.getElem?_eq_getElem h0] at this
  exact World.block_lt_of_cell? _ _ this
theorem Laid.below {w w' : World} (h : Laid w) (hb : Below w.heap.size w w') : Laid w' := by
  obtain ⟨t, ⟨a, b, hs⟩, ⟨c, d, hr⟩⟩ := h
  have g1 : ∃ g, Tryd.prog.globalNamed "internal/strconv.uint64pow10" = some g := Option.isSome_iff_exists.1 (by kernel_rfl)
  have g2 : ∃ g, Tryd.prog.globalNamed "strconv.ErrSyntax" = some g := Option.isSome_iff_exists.1 (by kernel_rfl)
  have g3 : ∃ g, Tryd.prog.globalNamed "strconv.ErrRange" = some g := Option.isSome_iff_exists.1 (by kernel_rfl)
  obtain ⟨x1, g1⟩ := g1
  obtain ⟨x2, g2⟩ := g2
  obtain ⟨x3, g3⟩ := g3
  exact ⟨var?_below hb g1 (var_lt g1 t (by decide)) t, ⟨a, b, var?_below hb g2 (var_lt g2 hs (Nat.succ_pos 0)) hs⟩, ⟨c, d, var?_below hb g3 (var_lt g3 hr (Nat.succ_pos 0)) hr⟩⟩
theorem dec_text (n : Int) (hn : inI n) (w : World) (hl : Laid w) :
    Calls Tryd.prog 29 #[.int .i64 n] w fun e w' => e = .returned (.string (strL (Lib.itoa n))) ∧ Below w.heap.size w w' := by
  have J := Lib.hid (Tryd.strconv_Itoa n hn.1 hn.2 w hl.tab)
  go_enter Tryd.func29, Tryd.ntmps29
  go_wp2_with fail
  refine J.out.mono ?_
  rintro e w1 ⟨rfl, k, os, hw⟩
  have HB : Hid (Below w.heap.size w w1) := Lib.hid (by rw [hw]; exact Lib.below_grow _ w (Nat.le_refl _) k os)
  clear hw
  go_wp2_with fail
  go_ret
  exact ⟨rfl, HB.out⟩
theorem digit_text (n : Nat) (h : n < 10) : (⟨#[48, 49, 50, 51, 52, 53, 54, 55, 56, 57]⟩ : ByteArray).extract n (n + 1) = strL (Lib.decDigits n) := by
  rw [dec_small n h]
  have : n = 0 ∨ n = 1 ∨ n = 2 ∨ n = 3 ∨ n = 4 ∨ n = 5 ∨ n = 6 ∨ n = 7 ∨ n = 8 ∨ n = 9 := by omega
  rcases this with rfl | rfl | rfl | rfl | rfl | rfl | rfl | rfl | rfl | rfl
  all_goals (first | rfl | decide +kernel)
set_option maxRecDepth 100000 in
theorem ref05_small (n : Nat) (h : n < 10) (w : World) :
    Calls Tryd.prog 34 #[.int .i64 n] w fun e w' => e = .returned (.string (strL (Lib.itoa n))) ∧ w = w' := by
  have hd := digit_text n h
  have hi : Lib.itoa (n : Int) = Lib.decDigits n := by rw [itoa_pos _ (by omega)]; rfl
  rw [hi]
  have h0 : (0 : Int) ≤ (n : Int) := by omega
  have h1 : (n : Int) < 10 := by omega
  have h2 : ¬ (n : Int) < 0 := by omega
  have h3 : (-10 : Int) < (n : Int) := by omega
  obtain ⟨m, hm⟩ : ∃ m, n + 1 = m := ⟨_, rfl⟩
  rw [hm] at hd
  have w1 : IntKind.i64.wrap ((n : Int) + 1) = (m : Int) := by rw [IntKind.wrap_i64]; omega
  have q1 : (n : Int) ≤ (m : Int) := by omega
  have q2 : (m : Int) ≤ 10 := by omega
  have HD := Lib.hid hd
  clear hd hi hm
  go_enter Tryd.func34, Tryd.ntmps34
  go_wp2_with fail
  go_ret
  exact ⟨by rw [← HD.out]; rfl, rfl⟩
set_option maxRecDepth 100000 in
set_option maxHeartbeats 1600000 in
theorem ref05_text (k : Nat) : ∀ (n : Int), n.natAbs = k → inI n → ∀ w : World,
    Calls Tryd.prog 34 #[.int .i64 n] w fun e w' => e = .returned (.string (strL (Lib.itoa n))) ∧ w = w' := by
  induction k using Nat.strongRecOn with
  | ind k ih =>
    intro n hk hn w
    by_cases hs : 0 ≤ n ∧ n < 10
    · obtain ⟨m, rfl⟩ : ∃ m : Nat, n = m := ⟨n.toNat, by omega⟩
      exact ref05_small m (by omega) w
    by_cases hg : -10 < n ∧ n < 0
    · obtain ⟨m, rfl⟩ : ∃ m : Nat, n = -(m : Int) := ⟨n.natAbs, by omega⟩
      have IH := Lib.hid (ref05_small m (by omega) w)
      have hi : strL (Lib.itoa (-(m : Int))) = (⟨#[45]⟩ : ByteArray) ++ strL (Lib.itoa (m : Int)) := by
        rw [itoa_negI _ hg.2, itoa_pos _ (by omega), show (-(m : Int)).natAbs = m by omega, show ((m : Int)).toNat = m by omega]
        exact strL_app [45] _
      have hz : (Lib.itoa (m : Int)).length ≤ 20 := itoa_len _ (by unfold inI; omega)
      have hz2 : (strL (Lib.itoa (m : Int))).size ≤ 20 := by rw [strL_size]; exact hz
      generalize strL (Lib.itoa (m : Int)) = S at IH hi hz2
      have HI := Lib.hid hi
      have h1 := hg.1
      have h2 := hg.2
      have w1 : IntKind.i64.wrap (- -(m : Int)) = (m : Int) := by rw [IntKind.wrap_i64]; omega
      have w2 : IntKind.i64.wrap (m : Int) = (m : Int) := by rw [IntKind.wrap_i64]; omega
      have z : (⟨#[45]⟩ : ByteArray).size + S.size ≤ 9223372036854775807 := by show 1 + S.size ≤ _; omega
      clear hi hg hs hz ih hk hn
      go_enter Tryd.func34, Tryd.ntmps34
      go_wp2_with fail
      refine IH.out.mono ?_
      rintro e w' ⟨rfl, rfl⟩
      go_wp2_with fail
      go_ret
      exact ⟨by rw [HI.out]; rfl, rfl⟩
    · have h10 : n ≤ -10 ∨ 10 ≤ n := by omega
      obtain ⟨d, hd⟩ : ∃ d, n.tdiv 10 = d := ⟨_, rfl⟩
      obtain ⟨q, hq⟩ : ∃ q, n.tmod 10 = q := ⟨_, rfl⟩
      obtain ⟨r, hr⟩ : ∃ r : Nat, q.natAbs = r := ⟨_, rfl⟩
      obtain ⟨h1, h2, h3, h4⟩ := itoa_step n d (r : Int) hn h10 hd (by rw [hq, hr]; omega) (by omega)
      have IH := Lib.hid (ih d.natAbs (by omega) d rfl h4 w)
      have SM := Lib.hid (ref05_small r (by omega) w)
      have hz1 : (strL (Lib.itoa d)).size ≤ 20 := by rw [strL_size]; exact itoa_len _ h4
      have hz2 : (strL (Lib.itoa (r : Int))).size ≤ 20 := by rw [strL_size]; exact itoa_len _ (by unfold inI; omega)
      have hi : strL (Lib.itoa n) = strL (Lib.itoa d) ++ strL (Lib.itoa (r : Int)) := by rw [h1, strL_app]
      generalize strL (Lib.itoa d) = S at IH hi hz1
      generalize strL (Lib.itoa (r : Int)) = T at SM hi hz2
      have HI := Lib.hid hi
      have wd : IntKind.i64.wrap d = d := by unfold inI at h4; rw [IntKind.wrap_i64]; omega
      have z : S.size + T.size ≤ 9223372036854775807 := by omega
      unfold inI at hn
      obtain ⟨n0, n1⟩ := hn
      clear hi ih h1 h4 hz1 hz2
      have hcase : (n ≤ -10 ∧ n < 0 ∧ ¬ (-10 < n)) ∨ (10 ≤ n ∧ 0 ≤ n ∧ ¬ n < 0 ∧ -10 < n ∧ ¬ n < 10) := by omega
      clear hs hg h10
      rcases hcase with ⟨c1, c2, c3⟩ | ⟨c1, c2, c3, c4, c5⟩
      · by_cases hq0 : q < 0
        · have w1 : IntKind.i64.wrap (-q) = (r : Int) := by rw [IntKind.wrap_i64]; omega
          go_enter Tryd.func34, Tryd.ntmps34
          go_wp2_with fail
          refine IH.out.mono ?_
          rintro e w' ⟨rfl, rfl⟩
          go_wp2_with fail
          refine SM.out.mono ?_
          rintro e w' ⟨rfl, rfl⟩
          go_wp2_with fail
          go_ret
          exact ⟨by rw [HI.out]; rfl, rfl⟩
        · have hqr : q = (r : Int) := by omega
          subst hqr
          go_enter Tryd.func34, Tryd.ntmps34
          go_wp2_with fail
          refine IH.out.mono ?_
          rintro e w' ⟨rfl, rfl⟩
          go_wp2_with fail
          refine SM.out.mono ?_
          rintro e w' ⟨rfl, rfl⟩
          go_wp2_with fail
          go_ret
          exact ⟨by rw [HI.out]; rfl, rfl⟩
      · by_cases hq0 : q < 0
        · have w1 : IntKind.i64.wrap (-q) = (r : Int) := by rw [IntKind.wrap_i64]; omega
          go_enter Tryd.func34, Tryd.ntmps34
          go_wp2_with fail
          refine IH.out.mono ?_
          rintro e w' ⟨rfl, rfl⟩
          go_wp2_with fail
          refine SM.out.mono ?_
          rintro e w' ⟨rfl, rfl⟩
          go_wp2_with fail
          go_ret
          exact ⟨by rw [HI.out]; rfl, rfl⟩
        · have hqr : q = (r : Int) := by omega
          subst hqr
          go_enter Tryd.func34, Tryd.ntmps34
          go_wp2_with fail
          refine IH.out.mono ?_
          rintro e w' ⟨rfl, rfl⟩
          go_wp2_with fail
          refine SM.out.mono ?_
          rintro e w' ⟨rfl, rfl⟩
          go_wp2_with fail
          go_ret
          exact ⟨by rw [HI.out]; rfl, rfl⟩
theorem ref05_textI (n : Int) (hn : inI n) (w : World) : Calls Tryd.prog 34 #[.int .i64 n] w fun e w' => e = .returned (.string (strL (Lib.itoa n))) ∧ w = w' := ref05_text _ n rfl hn w
theorem take_at_ {l : List UInt8} {i : Nat} {c : UInt8} (h : l[i]? = some c) : l.take (i + 1) = l.take i ++ [c] := by
  obtain ⟨hi, e⟩ := List.getElem?_eq_some_iff.1 h
  rw [List.take_succ_eq_append_getElem hi, e]
theorem digit_yes (r : Int) (h0 : 48 ≤ r) (h1 : r ≤ 57) (w : World) : Calls Tryd.prog 55 #[.int .i32 r] w fun e w' => e = .returned (.bool true) ∧ w = w' := by
  go_enter Tryd.func55, Tryd.ntmps55
  go_wp2_with fail
  go_ret
  exact ⟨rfl, rfl⟩
theorem digit_no (r : Int) (h : r < 48 ∨ 57 < r) (w : World) : Calls Tryd.prog 55 #[.int .i32 r] w fun e w' => e = .returned (.bool false) ∧ w = w' := by
  by_cases h0 : r < 48
  · go_enter Tryd.func55, Tryd.ntmps55
    go_wp2_with fail
    go_ret
    exact ⟨rfl, rfl⟩
  · have h0' : 48 ≤ r := by omega
    have h1 : 57 < r := by omega
    have hd : decide (r ≤ 57) = false := by simp; omega
    clear h
    go_enter Tryd.func55, Tryd.ntmps55
    go_wp2_with fail
    go_ret
    exact ⟨rfl, rfl⟩
theorem below_iter (w : World) (s : ByteArray) (p : Nat) : Below w.heap.size w (w.iter s p) := (Below.refl _ _).alloc (Nat.le_refl _) _
set_option maxRecDepth 100000 in
set_option maxHeartbeats 800000 in
theorem dec_digits (s : ByteArray) (hs : s.size ≤ maxLen) (w : World) :
    Calls Tryd.prog 54 #[.string s, .func (.func 55) #[] #[]] w fun e w' => e = .returned (.bool (s.data.toList.all isD)) ∧ Below w.heap.size w w' := by
  have hs63 : s.size ≤ 9223372036854775807 := by unfold maxLen at hs; omega
  obtain ⟨B, hB⟩ : ∃ B, s.data.toList.all isD = B := ⟨_, rfl⟩
  rw [hB]
  have HB := Lib.hid hB
  clear hB
  go_enter Tryd.func54, Tryd.ntmps54
  go_wp2_with fail
  go_loopg [6] s.size (fun g c wr => ∃ p : Nat, p ≤ s.size ∧ g = s.size - p ∧ wr = w.iter s p ∧ Hid ((s.data.toList.take p).all isD = true))
  case atStart => exact ⟨0, Nat.zero_le _, rfl, rfl, Lib.hid (by simp)⟩
  case round =>
    obtain ⟨p, hp, hg, rfl, HP⟩ := hrel
    have hg := hg.symm
    subst hg
    by_cases hlt : p < s.size
    · obtain ⟨c, hc⟩ : ∃ c, s[p]'hlt = c := ⟨_, rfl⟩
      have hget : s.data.toList[p]? = some c := by
        rw [List.getElem?_eq_getElem (by rw [show s.data.toList.length = s.size from (Lib.size_eq s).symm]; exact hlt), ← hc]
        rfl
      by_cases hd : isD c = true
      · have hcc := isD_iff.1 hd
        have h1 : (48 : Int) ≤ (c.toNat : Int) := by omega
        have h2 : (c.toNat : Int) ≤ 57 := by omega
        have hnx : ∀ ty, (Instr.next (.pointer (some ⟨w.heap.size, 0, none⟩)) true ty).run Tryd.prog (w.iter s p) = .ok (.tuple #[.bool true, .int .i64 p, .int .i32 c.toNat]) (w.iter s (p + 1)) := by
          intro ty
          have := run_next_ascii (P := Tryd.prog) w s p ty hlt (by rw [hc]; omega)
          rw [hc] at this
          exact this
        have HP2 : Hid ((s.data.toList.take (p + 1)).all isD = true) := Lib.hid (by
          rw [take_at_ hget, List.all_append, HP.out]; simp [hd])
        have DY := Lib.hid (digit_yes c.toNat h1 h2)
        clear hget hc hd hcc HP h1 h2
        go_wp2_with fail
        refine (DY.out _).mono ?_
        rintro e w1 ⟨rfl, rfl⟩
        go_wp2_with fail
        go_roundg (s.size - (p + 1))
        case measure => omega
        case rel => exact ⟨p + 1, by omega, rfl, rfl, HP2⟩
      · have hBf : Hid (B = false) := Lib.hid (by
          rw [← HB.out, List.all_eq_false]
          exact ⟨c, List.mem_of_getElem? hget, hd⟩)
        obtain ⟨r, q, hr, hnx⟩ : ∃ (r : Int) (q : Nat), (r < 48 ∨ 57 < r) ∧ ∀ ty, (Instr.next (.pointer (some ⟨w.heap.size, 0, none⟩)) true ty).run Tryd.prog (w.iter s p) = .ok (.tuple #[.bool true, .int .i64 p, .int .i32 r]) (w.iter s q) := by
          by_cases ha : c.toNat < 128
          · refine ⟨c.toNat, p + 1, ?_, fun ty => ?_⟩
            · have : ¬ (48 ≤ c.toNat ∧ c.toNat ≤ 57) := fun h => hd (isD_iff.2 h)
              omega
            · have := run_next_ascii (P := Tryd.prog) w s p ty hlt (by rw [hc]; omega)
              rw [hc] at this
              exact this
          · have h128 := (decode_high s p hlt (by rw [hc]; omega)).1
            exact ⟨((Utf8.decode s p).1 : Int), p + (Utf8.decode s p).2, by omega, fun ty => run_next_any (P := Tryd.prog) w s p ty hlt⟩
        have DN := Lib.hid (digit_no r hr)
        clear hget hc hd HP hr
        go_wp2_with fail
        refine (DN.out _).mono ?_
        rintro e w1 ⟨rfl, rfl⟩
        go_wp2_with fail
        go_ret
        exact ⟨by rw [hBf.out]; rfl, below_iter _ _ _⟩
    · obtain rfl : p = s.size := by omega
      have hnx : ∀ ty, (Instr.next (.pointer (some ⟨w.heap.size, 0, none⟩)) true ty).run Tryd.prog (w.iter s s.size) = .ok (.tuple #[.bool false]) (w.iter s s.size) := fun ty => run_next_end (P := Tryd.prog) w s s.size ty hlt
      have hBt : Hid (B = true) := Lib.hid (by
        rw [← HB.out, ← HP.out, List.take_of_length_le (by rw [show s.size = s.data.toList.length from Lib.size_eq s]; exact Nat.le_refl _)])
      clear HP
      go_wp2_with fail
      go_ret
      exact ⟨by rw [hBt.out]; rfl, below_iter _ _ _⟩
end Go.Proofs.YtanihdpgblkeaaaDoor
