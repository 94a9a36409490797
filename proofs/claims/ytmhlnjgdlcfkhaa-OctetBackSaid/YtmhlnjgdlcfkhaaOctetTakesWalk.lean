/-
  The walk of the statement OctetTakes.
-/
import Derived.Test.YtmhlnjgdlcfkhaaAwake02
import Derived.Test.YtmhlnjgdlcfkhaaFlat
import Derived.StillTailTactics
namespace Go.Proofs.Ytmhlnjgdlcfkhaa
open Go.RowKit
set_option linter.unusedVariables false
set_option linter.unusedSimpArgs false

theorem below_dN {B : Nat} {a w : World} (h : Below B a w) (n : Nat) : Below B a (w.drewN n) := ⟨h.os, h.tape, h.output, h.size, h.block⟩
/-- What Fixed takes of bytes: the number, how many bytes, the error. -/
def fxN (l : List UInt8) (k : Int) : Nat := if k < 1 ∨ 8 < k then 0 else if l.length < k.toNat then 0 else Oct.numFrom 0 (l.take k.toNat)
def fxL (l : List UInt8) (k : Int) : Nat := if k < 1 ∨ 8 < k then 0 else if l.length < k.toNat then 0 else k.toNat
def fxE (l : List UInt8) (k : Int) : Int := if k < 1 ∨ 8 < k then 1 else if l.length < k.toNat then 3 else 0
theorem fxL_le (l : List UInt8) (k : Int) : fxL l k ≤ l.length := by
  unfold fxL
  split
  · omega
  · split <;> omega
theorem cur_fixed_any (b : Nat) (s : ByteArray) (a : Nat) (k : Int) (hs : s.size ≤ maxLen) (ha : a ≤ s.size) (w : World) (h : Cur w b s a) :
    Calls Try.prog 23 #[.pointer (some ⟨b, 0, none⟩), .int .i64 k] w fun e w' => e = .returned (.tuple #[.int .u64 (fxN (rest s a) k), .int .i64 (fxE (rest s a) k)]) ∧ Cur w' b s (a + fxL (rest s a) k) ∧ w.grownBy w' (some b) := by
  have hl := rest_length s a
  unfold fxN fxE fxL
  by_cases h1 : k < 1 ∨ 8 < k
  · simp only [if_pos h1]
    refine (cur_fixed_out b k h1 w).mono ?_
    rintro e w' ⟨rfl, rfl⟩
    exact ⟨rfl, h, gby_refl _ _⟩
  · simp only [if_neg h1]
    obtain ⟨k, rfl⟩ : ∃ k' : Nat, k = k' := ⟨k.toNat, by omega⟩
    simp only [Int.toNat_natCast]
    by_cases h2 : (rest s a).length < k
    · simp only [if_pos h2]
      refine (cur_fixed_short b s a k hs ha (by omega) (by omega) (by omega) w h).mono ?_
      rintro e w' ⟨rfl, hr⟩
      subst hr
      exact ⟨rfl, h.drewN (m := 1), gby_drew (gby_refl _ _)⟩
    · simp only [if_neg h2]
      refine (cur_fixed b s a k hs (by omega) (by omega) (by omega) w h).mono ?_
      rintro e w' ⟨rfl, hr⟩
      exact ⟨rfl, hr⟩
theorem ref02_takeFixed_any (s : ByteArray) (k : Int) (hs : s.size ≤ maxLen) (w : World) :
    Calls Try.prog 24 #[.string s, .int .i64 k] w fun e w' => e = .returned (.tuple #[.int .u64 (fxN (rest s 0) k), .int .i64 (fxL (rest s 0) k), .int .i64 (fxE (rest s 0) k)]) ∧ ∃ m, w' = w.drewN m := by
  have hl := rest0_length s
  unfold fxN fxE fxL
  by_cases h1 : k < 1 ∨ 8 < k
  · simp only [if_pos h1]
    refine (ref02_takeFixed_out s k h1 w).mono ?_
    rintro e w' ⟨rfl, rfl⟩
    exact ⟨rfl, 0, rfl⟩
  · simp only [if_neg h1]
    obtain ⟨k, rfl⟩ : ∃ k' : Nat, k = k' := ⟨k.toNat, by omega⟩
    simp only [Int.toNat_natCast]
    by_cases h2 : (rest s 0).length < k
    · simp only [if_pos h2]
      refine (ref02_takeFixed_short s k (by omega) (by omega) (by omega) w).mono ?_
      rintro e w' ⟨rfl, rfl⟩
      exact ⟨rfl, 0, rfl⟩
    · simp only [if_neg h2]
      refine (ref02_takeFixed s k hs (by omega) (by omega) (by omega) w).mono ?_
      rintro e w' ⟨rfl, hr⟩
      exact ⟨rfl, hr⟩
/-- What Var takes. -/
def vN : Oct.Took → Int
  | .num n _ => n
  | _ => 0
def vE : Oct.Took → Int
  | .short => 3
  | .form => 2
  | .num _ _ => 0
theorem varVal_eq (t : Oct.Took) : varVal t = .tuple #[.int .i64 (vN t), .int .i64 (vE t)] := by cases t <;> rfl
theorem tookVal_eq (t : Oct.Took) : tookVal t = .tuple #[.int .i64 (vN t), .int .i64 (tookLen t), .int .i64 (vE t)] := by cases t <;> rfl
theorem tookLen_le (l : List UInt8) : tookLen (Oct.takeVar l) ≤ l.length := by
  cases h : Oct.takeVar l with
  | short => simp [tookLen]
  | form => simp [tookLen]
  | num n k => exact (Oct.takeVar_num _ n k h).1
def tS (l : List UInt8) (most : Int) : ByteArray :=
  match Oct.takeVar l with
  | .num n k => if most < n then str [] else if l.length - k < n then str [] else str ((l.drop k).take n)
  | _ => str []
def tE (l : List UInt8) (most : Int) : Int :=
  match Oct.takeVar l with
  | .short => 3
  | .form => 2
  | .num n k => if most < n then 9 else if l.length - k < n then 3 else 0
theorem textVal_eq (l : List UInt8) (most : Int) : textVal l most = .tuple #[.string (tS l most), .int .i64 (tE l most)] := by
  unfold textVal tS tE
  cases Oct.takeVar l with
  | short => rfl
  | form => rfl
  | num n k => simp only; split; · rfl
               · split <;> rfl
theorem textLen_le (l : List UInt8) (most : Int) : textLen l most ≤ l.length := by
  unfold textLen
  cases h : Oct.takeVar l with
  | short => simp
  | form => simp
  | num n k => have := (Oct.takeVar_num _ n k h).1; simp only; split; · omega
               · split <;> omega
theorem tS_le (l : List UInt8) (most : Int) : (tS l most).size ≤ l.length := by
  have h0 : (str []).size = 0 := rfl
  unfold tS
  cases h : Oct.takeVar l with
  | short => simp only [h0]; omega
  | form => simp only [h0]; omega
  | num n k =>
    simp only
    split
    · omega
    · split
      · omega
      · rw [str_size]; simp; omega

set_option maxRecDepth 100000 in
theorem takes_awake (s : ByteArray) (l : Option Addr) (len cap : Nat) (w : World) (w0 : s.size ≤ maxLen) (hbig : 300 < s.size ∨ 40 < len) :
    Calls Try.prog 6 #[.string s, .slice l len cap] w fun e w' => e = .returned (.bool true) ∧ Below w.heap.size w w' := by
  have hs0 : (s.size : Int) ≤ 9223372036854775807 := by unfold maxLen at w0; omega
  by_cases h1 : 300 < s.size
  · go_enter Try.func6, Try.ntmps6
    go_wp2_with (go_at_call 15; refine (awake02 _).mono ?_; rintro e w' ⟨rfl, hb⟩)
    go_ret
    exact ⟨rfl, hb⟩
  · have h2 : 40 < len := by omega
    go_enter Try.func6, Try.ntmps6
    go_wp2_with (go_at_call 15; refine (awake02 _).mono ?_; rintro e w' ⟨rfl, hb⟩)
    go_ret
    exact ⟨rfl, hb⟩

set_option maxRecDepth 100000 in
set_option maxHeartbeats 1600000 in
theorem walk_OctetTakes (s : ByteArray) (l : Option Addr) (len cap : Nat) (w : World) (w0 : s.size ≤ maxLen) (w1 : IsFlat [.int .i64, .int .i64] w l len cap) :
    Calls Try.prog 6 #[.string s, .slice l len cap] w fun e w' => e = .returned (.bool true) ∧ Below w.heap.size w w' := by
  by_cases hbig : 300 < s.size ∨ 40 < len
  · exact takes_awake s l len cap w w0 hbig
  have hs0 : s.size ≤ 300 := by omega
  have hl0 : len ≤ 40 := by omega
  have hstr := str_rest s
  have HSTR := Lib.hid hstr
  clear hbig hstr
  go_enter Try.func6, Try.ntmps6
  go_wp2_with (go_at_call 22; refine (octet_new s _).mono ?_; rintro e w1' ⟨rfl, hc1, hb1, hz1⟩)
  go_loopg [6, 7] len (fun g left i wr => ∃ (j a : Nat), j ≤ len ∧ g = len - j ∧ i = .int .i64 j ∧ left = .string (str (rest s a)) ∧ a ≤ s.size ∧ Cur wr w.heap.size s a ∧ Below w.heap.size w wr)
  case atStart => exact ⟨0, 0, by omega, rfl, rfl, by rw [HSTR.out], by omega, hc1, hb1⟩
  case round =>
    obtain ⟨j, a, hj, hg, rfl, rfl, ha, hcur, hbl⟩ := hrel
    have hg := hg.symm
    subst hg
    clear hc1 hb1 hz1
    by_cases hlt : j < len
    · rcases isFlat_cases (by decide) w1 with h0 | ⟨b0, off, rfl, hpos, hmax, hcap, hlb, hcell⟩
      · omega
      obtain ⟨v0, hv0, n0, rfl, wf0⟩ := hcell j hlt 0 _ rfl
      obtain ⟨v1, hv1, n1, rfl, wf1⟩ := hcell j hlt 1 _ rfl
      have hv0 : wr.cell? ⟨b0, off + j * 2, none⟩ = some (.int .i64 n0) := keepB hbl hv0 hlb
      have hv1 : wr.cell? ⟨b0, off + j * 2 + 1, none⟩ = some (.int .i64 n1) := keepB hbl hv1 hlb
      clear wf0 wf1
      have HC := Lib.hid hcur
      have HBL := Lib.hid hbl
      clear hcur hbl hcell
      have hll := rest_length s a
      have HS := Lib.hid (show (str (rest s a)).size = s.size - a by rw [str_size, rest_length])
      by_cases hk1 : n0 = 1
      · subst hk1
        have F := cur_fixed_any w.heap.size s a n1 w0 ha wr HC.out
        have R := ref02_takeFixed_any (str (rest s a)) n1 (by rw [HS.out]; unfold maxLen; omega)
        rw [rest_str] at R
        have hk := fxL_le (rest s a) n1
        rw [hll] at hk
        generalize fxN (rest s a) n1 = x at F R
        generalize fxE (rest s a) n1 = er at F R
        generalize fxL (rest s a) n1 = k at F R hk
        have F := Lib.hid F
        have R := Lib.hid R
        clear hll
        go_wp2_with fail
        refine F.out.mono ?_
        rintro e w2 ⟨rfl, hc2, hg2⟩
        have HC2 := Lib.hid hc2
        have HG2 := Lib.hid hg2
        have HB2 := Lib.hid (below_gby HBL.out hg2 (Nat.le_refl _) HBL.out.size)
        have hv1 : w2.cell? ⟨b0, off + j * 2 + 1, none⟩ = some (.int .i64 n1) := ((gcell hg2).1 _ _ (by have := HBL.out.size; omega) (by omega)).trans hv1
        clear hc2 hg2 hv0
        go_wp2_with fail
        refine (R.out _).mono ?_
        rintro e w3 ⟨rfl, m, rfl⟩
        clear hv1
        have hkl : (k : Int) ≤ ((str (rest s a)).size : Int) := by rw [HS.out]; omega
        have hne : (((s.size - (a + k) : Nat) : Int) != (((str (rest s a)).size - k : Nat) : Int)) = false := by rw [HS.out]; simp; omega
        go_wp2_with fail
        refine (cur_left w.heap.size s (a + k) w0 (by omega) _ HC2.out.drewN).mono ?_
        rintro e w4 ⟨rfl, rfl⟩
        go_wp2_with fail
        have HX : (str (rest s a)).extract k (str (rest s a)).size = str (rest s (a + k)) := by
          have h1 := extract_take (str (rest s a)) k ((str (rest s a)).size - k)
          rw [Nat.add_sub_cancel' (by omega)] at h1
          rw [h1, List.take_of_length_le (by rw [rest_length]; exact Nat.le_refl _), rest_drop]
          rfl
        rw [HX]
        go_roundg (len - (j + 1))
        case measure => omega
        case rel => exact ⟨j + 1, a + k, by omega, rfl, by go_num, rfl, by omega, HC2.out.drewN, below_dN HB2.out _⟩
      by_cases hk2 : n0 = 2
      · subst hk2
        clear hk1
        have F := cur_var w.heap.size s a w0 ha wr HC.out
        rw [varVal_eq] at F
        have R := ref02_takeVar (str (rest s a)) (by rw [HS.out]; unfold maxLen; omega)
        rw [rest_str, tookVal_eq] at R
        have hk := tookLen_le (rest s a)
        rw [hll] at hk
        generalize vN (Oct.takeVar (rest s a)) = x at F R
        generalize vE (Oct.takeVar (rest s a)) = er at F R
        generalize tookLen (Oct.takeVar (rest s a)) = k at F R hk
        have F := Lib.hid F
        have R := Lib.hid R
        clear hll
        go_wp2_with fail
        refine F.out.mono ?_
        rintro e w2 ⟨rfl, hc2, hg2, hz2⟩
        clear hz2
        have HC2 := Lib.hid hc2
        have HG2 := Lib.hid hg2
        have HB2 := Lib.hid (below_gby HBL.out hg2 (Nat.le_refl _) HBL.out.size)
        clear hc2 hg2 hv0
        go_wp2_with fail
        refine (R.out _).mono ?_
        rintro e w3 ⟨rfl, hb3⟩
        have HC3 : Hid (Cur w3 w.heap.size s (a + k)) := Lib.hid (Blk.below HC2.out hb3 (Blk.lt HC2.out))
        have HB3 := Lib.hid (HB2.out.trans (hb3.mono HB2.out.size))
        clear hb3
        clear hv1
        have hkl : (k : Int) ≤ ((str (rest s a)).size : Int) := by rw [HS.out]; omega
        have hne : (((s.size - (a + k) : Nat) : Int) != (((str (rest s a)).size - k : Nat) : Int)) = false := by rw [HS.out]; simp; omega
        go_wp2_with fail
        refine (cur_left w.heap.size s (a + k) w0 (by omega) _ HC3.out).mono ?_
        rintro e w4 ⟨rfl, rfl⟩
        go_wp2_with fail
        have HX : (str (rest s a)).extract k (str (rest s a)).size = str (rest s (a + k)) := by
          have h1 := extract_take (str (rest s a)) k ((str (rest s a)).size - k)
          rw [Nat.add_sub_cancel' (by omega)] at h1
          rw [h1, List.take_of_length_le (by rw [rest_length]; exact Nat.le_refl _), rest_drop]
          rfl
        rw [HX]
        go_roundg (len - (j + 1))
        case measure => omega
        case rel => exact ⟨j + 1, a + k, by omega, rfl, by go_num, rfl, by omega, HC3.out.drewN (m := 1), HB3.out.drew⟩
      · have hd1 : (n0 == 1) = false := by simpa using hk1
        have hd2 : (n0 == 2) = false := by simpa using hk2
        clear hk1 hk2
        have F := cur_text w.heap.size s a n1 w0 ha wr HC.out
        rw [textVal_eq] at F
        have R := ref02_takeText (str (rest s a)) n1 (by rw [HS.out]; unfold maxLen; omega)
        rw [rest_str, textVal_eq] at R
        have hk := textLen_le (rest s a) n1
        rw [hll] at hk
        generalize tS (rest s a) n1 = x at F R
        generalize tE (rest s a) n1 = er at F R
        generalize textLen (rest s a) n1 = k at F R hk
        have F := Lib.hid F
        have R := Lib.hid R
        clear hll
        go_wp2_with fail
        refine F.out.mono ?_
        rintro e w2 ⟨rfl, hc2, hg2, hz2⟩
        clear hz2
        have HC2 := Lib.hid hc2
        have HG2 := Lib.hid hg2
        have HB2 := Lib.hid (below_gby HBL.out hg2 (Nat.le_refl _) HBL.out.size)
        have hv1 : w2.cell? ⟨b0, off + j * 2 + 1, none⟩ = some (.int .i64 n1) := ((gcell hg2).1 _ _ (by have := HBL.out.size; omega) (by omega)).trans hv1
        clear hc2 hg2 hv0
        go_wp2_with fail
        refine (R.out _).mono ?_
        rintro e w3 ⟨⟨x', er', hxe, rfl⟩, hb3⟩
        simp only [Value.tuple.injEq] at hxe
        obtain ⟨rfl, rfl⟩ : x' = .string x ∧ er' = .int .i64 er := by simp at hxe; exact ⟨hxe.1.symm, hxe.2.symm⟩
        clear hxe
        have HC3 : Hid (Cur w3 w.heap.size s (a + k)) := Lib.hid (Blk.below HC2.out hb3 (Blk.lt HC2.out))
        have HB3 := Lib.hid (HB2.out.trans (hb3.mono HB2.out.size))
        clear hb3
        clear hv1
        have hkl : (k : Int) ≤ ((str (rest s a)).size : Int) := by rw [HS.out]; omega
        have hne : (((s.size - (a + k) : Nat) : Int) != (((str (rest s a)).size - k : Nat) : Int)) = false := by rw [HS.out]; simp; omega
        go_wp2_with fail
        refine (cur_left w.heap.size s (a + k) w0 (by omega) _ HC3.out).mono ?_
        rintro e w4 ⟨rfl, rfl⟩
        go_wp2_with fail
        have HX : (str (rest s a)).extract k (str (rest s a)).size = str (rest s (a + k)) := by
          have h1 := extract_take (str (rest s a)) k ((str (rest s a)).size - k)
          rw [Nat.add_sub_cancel' (by omega)] at h1
          rw [h1, List.take_of_length_le (by rw [rest_length]; exact Nat.le_refl _), rest_drop]
          rfl
        rw [HX]
        go_roundg (len - (j + 1))
        case measure => omega
        case rel => exact ⟨j + 1, a + k, by omega, rfl, by go_num, rfl, by omega, HC3.out.drewN (m := 1), HB3.out.drew⟩
    · obtain rfl : j = len := by omega
      clear hcur
      have HBL := Lib.hid hbl
      clear hbl
      have T := fun (w : World) (h : Cur w wr.heap.size ⟨#[]⟩ 0) => cur_text wr.heap.size ⟨#[]⟩ 0 9 (by decide) (by decide) w h
      have e1 : textVal (rest ⟨#[]⟩ 0) 9 = .tuple #[.string (str []), .int .i64 3] := rfl
      have e2 : 0 + textLen (rest ⟨#[]⟩ 0) 9 = 0 := rfl
      rw [e1, e2] at T
      have T := Lib.hid T
      clear e1 e2
      go_wp2_with fail
      refine (nil_var _).mono ?_
      rintro e w2 ⟨rfl, m, rfl⟩
      have hz : Cur ((wr.alloc (.cells #[.string ⟨#[]⟩, .int .i64 0] 57)).drewN m) wr.heap.size ⟨#[]⟩ 0 := Blk.new wr _ _
      have HZ := Lib.hid hz
      clear hz
      go_wp2_with fail
      refine (T.out _ HZ.out).mono ?_
      rintro e w3 ⟨rfl, hc3, hg3, hz3⟩
      have HC3 := Lib.hid hc3
      have HB3 : Hid (Below w.heap.size w w3) := Lib.hid (below_gby (below_dN (HBL.out.alloc HBL.out.size _) m) hg3 HBL.out.size (by have := HBL.out.size; simp; omega))
      clear hc3 hg3 hz3
      go_wp2_with fail
      refine (nil_left _).mono ?_
      rintro e w4 ⟨rfl, rfl⟩
      have L := fun (w : World) (h : Cur w wr.heap.size ⟨#[]⟩ 0) => cur_left wr.heap.size ⟨#[]⟩ 0 (by decide) (by decide) w h
      have e1 : (((⟨#[]⟩ : ByteArray).size - 0 : Nat) : Int) = 0 := rfl
      rw [e1] at L
      have L := Lib.hid L
      clear e1
      go_wp2_with fail
      refine (L.out _ HC3.out).mono ?_
      rintro e w5 ⟨rfl, rfl⟩
      go_wp2_with (go_at_call 15; refine (awake02 _).mono ?_; rintro e w6 ⟨rfl, hb6⟩)
      go_ret
      exact ⟨rfl, HB3.out.trans ((below_undrew hb6).mono HB3.out.size)⟩
end Go.Proofs.Ytmhlnjgdlcfkhaa
