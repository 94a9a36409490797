/-
  What the functions of package crc compute (reeve's layer 3), as contracts.
-/
import Derived.Test.YtokghlmffkboiaaGreatOnce
import Derived.Test.YtokghlmffkboiaaGreatCrcMath
namespace Go.Proofs.YtokghlmffkboiaaGreat
open Go.RowKit
set_option linter.unusedVariables false
set_option linter.unusedSimpArgs false

theorem crc_odd (m : Nat) (h : m < 4294967296) (ho : m % 2 = 1) : (bits BinOp.and IntKind.u32 (m : Int) 1 == 1) = true := by
  have e := u32_and_nat m 1 h (by decide)
  have e2 : m &&& 1 = 1 := by rw [Nat.and_one_is_mod]; exact ho
  rw [e2] at e
  have e3 : ((1 : Nat) : Int) = 1 := rfl
  rw [e3] at e
  rw [e]; rfl
theorem crc_even (m : Nat) (h : m < 4294967296) (ho : ¬ m % 2 = 1) : (bits BinOp.and IntKind.u32 (m : Int) 1 == 1) = false := by
  have e := u32_and_nat m 1 h (by decide)
  have e2 : m &&& 1 = 0 := by rw [Nat.and_one_is_mod]; omega
  rw [e2] at e
  have e3 : ((1 : Nat) : Int) = 1 := rfl
  rw [e3] at e
  rw [e]; rfl
theorem crc_turn (m : Nat) (h : m < 4294967296) (ho : m % 2 = 1) : bits BinOp.xor IntKind.u32 ((m : Int) / 2) 3988292384 = ((Crc.half m : Nat) : Int) := by
  have e := u32_xor_nat (m / 2) 3988292384 (by omega) (by decide)
  have e1 : ((m / 2 : Nat) : Int) = (m : Int) / 2 := by omega
  rw [e1] at e
  unfold Crc.half
  rw [if_pos ho]
  exact e
theorem crc_halve (m : Nat) (ho : ¬ m % 2 = 1) : (m : Int) / 2 = ((Crc.half m : Nat) : Int) := by
  unfold Crc.half
  rw [if_neg ho]
  omega

theorem crc_entry (n : Nat) (hn : n < 4294967296) (w : World) :
    Calls Tryz.prog 110 #[.int .u32 n] w fun e w' => e = .returned (.int .u32 (Crc.step n : Nat)) ∧ w = w' := by
  go_enter Tryz.func110, Tryz.ntmps110
  go_wp2
  go_loopg [0, 3] 8 (fun g t i wr => w = wr ∧ ∃ (k m : Nat), k ≤ 8 ∧ g = 8 - k ∧ i = .int .i64 k ∧ t = .int .u32 m ∧ m < 4294967296 ∧ Hid (Crc.halves (8 - k) m = Crc.step n))
  case atStart => exact ⟨rfl, 0, n, by omega, rfl, rfl, rfl, hn, Lib.hid (Crc.step_eq n).symm⟩
  case round =>
    obtain ⟨rfl, k, m, hk, rfl, rfl, rfl, hm, HH⟩ := hrel
    by_cases hlt : k < 8
    · have hh : Hid (Crc.halves (8 - (k + 1)) (Crc.half m) = Crc.step n) := by
        have e : 8 - k = (8 - (k + 1)) + 1 := by omega
        have := HH.out
        rw [e, Crc.halves_succ] at this
        exact this
      have hl := Crc.half_lt hm
      by_cases ho : m % 2 = 1
      · have h1 := crc_odd m hm ho
        have h2 := crc_turn m hm ho
        clear ho
        go_wp2
        go_roundg (8 - (k + 1))
        case measure => omega
        case rel => exact ⟨rfl, k + 1, Crc.half m, by omega, rfl, by go_num, rfl, hl, hh⟩
      · have h1 := crc_even m hm ho
        have h2 := crc_halve m ho
        clear ho
        go_wp2
        go_roundg (8 - (k + 1))
        case measure => omega
        case rel => exact ⟨rfl, k + 1, Crc.half m, by omega, rfl, by go_num, rfl, hl, hh⟩
    · obtain rfl : k = 8 := by omega
      have e := HH.out
      rw [Nat.sub_self, Crc.halves_nil] at e
      subst e
      go_wp2
      go_ret
      exact ⟨rfl, rfl⟩

theorem ref03_step (n : Nat) (hn : n < 4294967296) (w : World) :
    Calls Tryz.prog 99 #[.int .u32 n] w fun e w' => e = .returned (.int .u32 (Crc.step n : Nat)) ∧ w = w' := by
  go_enter Tryz.func99, Tryz.ntmps99
  go_wp2
  go_loopg [0, 3] 8 (fun g t i wr => w = wr ∧ ∃ (k m : Nat), k ≤ 8 ∧ g = 8 - k ∧ i = .int .i64 k ∧ t = .int .u32 m ∧ m < 4294967296 ∧ Hid (Crc.halves (8 - k) m = Crc.step n))
  case atStart => exact ⟨rfl, 0, n, by omega, rfl, rfl, rfl, hn, Lib.hid (Crc.step_eq n).symm⟩
  case round =>
    obtain ⟨rfl, k, m, hk, rfl, rfl, rfl, hm, HH⟩ := hrel
    by_cases hlt : k < 8
    · have hh : Hid (Crc.halves (8 - (k + 1)) (Crc.half m) = Crc.step n) := by
        have e : 8 - k = (8 - (k + 1)) + 1 := by omega
        have := HH.out
        rw [e, Crc.halves_succ] at this
        exact this
      have hl := Crc.half_lt hm
      by_cases ho : m % 2 = 1
      · have h1 : ((m : Int) % 2 == 1) = true := by simp; omega
        have h2 := crc_turn m hm ho
        clear ho
        go_wp2
        go_roundg (8 - (k + 1))
        case measure => omega
        case rel => exact ⟨rfl, k + 1, Crc.half m, by omega, rfl, by go_num, rfl, hl, hh⟩
      · have h1 : ((m : Int) % 2 == 1) = false := by simp; omega
        have h2 := crc_halve m ho
        clear ho
        go_wp2
        go_roundg (8 - (k + 1))
        case measure => omega
        case rel => exact ⟨rfl, k + 1, Crc.half m, by omega, rfl, by go_num, rfl, hl, hh⟩
    · obtain rfl : k = 8 := by omega
      have e := HH.out
      rw [Nat.sub_self, Crc.halves_nil] at e
      subst e
      go_wp2
      go_ret
      exact ⟨rfl, rfl⟩

/-- A text's bytes, as numbers. -/
def bts (s : ByteArray) : List Nat := s.data.toList.map UInt8.toNat
theorem bts_lt (s : ByteArray) : ∀ c ∈ bts s, c < 256 := by
  intro c hc
  simp only [bts, List.mem_map] at hc
  obtain ⟨x, _, rfl⟩ := hc
  exact x.toNat_lt
theorem bts_length (s : ByteArray) : (bts s).length = s.size := by simp [bts]
theorem bts_take (s : ByteArray) (k : Nat) (h : k < s.size) : (bts s).take (k + 1) = (bts s).take k ++ [(s[k]).toNat] := by
  rw [List.take_succ_eq_append_getElem (by simpa [bts] using h)]
  simp [bts]; rfl

theorem compl_xor (n : Nat) (h : n < 4294967296) : 4294967295 ^^^ n = Crc.compl n := by
  apply Nat.eq_of_testBit_eq; intro i
  have e1 : Crc.compl n = 2 ^ 32 - (n + 1) := by unfold Crc.compl; omega
  rw [e1, Nat.testBit_xor, Nat.testBit_two_pow_sub_succ (n := 32) h]
  have e2 : (4294967295 : Nat) = 2 ^ 32 - 1 := by decide
  rw [e2, Nat.testBit_two_pow_sub_one]
  by_cases hi : i < 32
  · simp [hi]
  · have hn : n.testBit i = false := Nat.testBit_lt_two_pow (Nat.lt_of_lt_of_le h (Nat.pow_le_pow_right (n := 2) (by omega) (by omega : 32 ≤ i)))
    simp [hi, hn]
/-- All bits of a number of 32 bits turned. -/
theorem crc_compl (n : Nat) (h : n < 4294967296) : bits BinOp.xor IntKind.u32 IntKind.u32.max (n : Int) = ((Crc.compl n : Nat) : Int) := by
  have e := u32_xor_nat 4294967295 n (by decide) h
  rw [compl_xor n h] at e
  exact e

theorem crc_mix (n c : Nat) (hn : n < 4294967296) (hc : c < 256) : bits BinOp.xor IntKind.u32 (n : Int) (c : Int) = ((n ^^^ c : Nat) : Int) := u32_xor_nat n c hn (by omega)

set_option maxHeartbeats 400000 in
theorem ref03_more (sum : Nat) (s : ByteArray) (hsum : sum < 4294967296) (hs : s.size ≤ maxLen) (w : World) :
    Calls Tryz.prog 90 #[.int .u32 sum, .string s] w fun e w' => e = .returned (.int .u32 (Crc.more sum (bts s) : Nat)) ∧ w = w' := by
  unfold maxLen at hs
  have hc := crc_compl sum hsum
  go_enter Tryz.func90, Tryz.ntmps90
  go_wp2
  clear hc
  go_loopg [5, 6] s.size (fun g t i wr => w = wr ∧ ∃ (k m : Nat), k ≤ s.size ∧ g = s.size - k ∧ i = .int .i64 k ∧ t = .int .u32 m ∧ m < 4294967296 ∧ Hid (m = Crc.reg (Crc.compl sum) ((bts s).take k)))
  case atStart => exact ⟨rfl, 0, Crc.compl sum, by omega, rfl, rfl, rfl, Crc.compl_lt _, Lib.hid rfl⟩
  case round =>
    obtain ⟨rfl, k, m, hk, rfl, rfl, rfl, hm, HH⟩ := hrel
    by_cases hlt : k < s.size
    · have hcc : (s[k]).toNat < 256 := (s[k]).toNat_lt
      have hx := crc_mix m (s[k]).toNat hm hcc
      have hxl : m ^^^ (s[k]).toNat < 4294967296 := Crc.xor_lt hm (by omega)
      have hsl := Crc.step_lt hxl
      have HN : Hid (Crc.step (m ^^^ (s[k]).toNat) = Crc.reg (Crc.compl sum) ((bts s).take (k + 1))) := by
        have e := HH.out
        rw [bts_take s k hlt, Crc.reg_snoc, ← e]; exact rfl
      go_wp2_with (go_at_call 99; refine (ref03_step _ hxl _).mono ?_; rintro e w' ⟨rfl, rfl⟩)
      go_roundg (s.size - (k + 1))
      case measure => omega
      case rel => exact ⟨rfl, k + 1, _, by omega, rfl, by go_num, rfl, hsl, HN⟩
    · obtain rfl : k = s.size := by omega
      have e := HH.out
      rw [List.take_of_length_le (by rw [bts_length]; omega)] at e
      have hc := crc_compl m hm
      have HE : Hid (Crc.compl m = Crc.more sum (bts s)) := by rw [e]; exact rfl
      clear e HH
      go_wp2
      go_ret
      exact ⟨by rw [HE.out]; rfl, rfl⟩

theorem ref03_sum (s : ByteArray) (hs : s.size ≤ maxLen) (w : World) :
    Calls Tryz.prog 65 #[.string s] w fun e w' => e = .returned (.int .u32 (Crc.more 0 (bts s) : Nat)) ∧ w = w' := by
  go_enter Tryz.func65, Tryz.ntmps65
  go_wp2_with (go_at_call 90; refine (ref03_more 0 s (by omega) hs _).mono ?_; rintro e w' ⟨rfl, rfl⟩)
  go_ret
  exact ⟨rfl, rfl⟩

/-- The n-th entry. -/
def entryI (n : Int) : Nat := if n < 0 ∨ n > 255 then 0 else Crc.step n.toNat

theorem i32_add (b o : Nat) (x : Int) (w : World) (h : w.cell? ⟨b, o, none⟩ = some (.int .i32 x)) (hf : w.frozen? ⟨b, o, none⟩ = false) :
    Calls Tryz.prog 111 #[.pointer (some ⟨b, o, none⟩), .int .i32 1] w fun e w' => e = .returned (.int .i32 (wrap32 (x + 1))) ∧ w.setCell ⟨b, o, none⟩ (.int .i32 (wrap32 (x + 1))) = w' := by
  have hl := run_call_add (P := Tryz.prog) (y := 1) (s := wrap32 (x + 1)) Tryz.func116 (by kernel_rfl) (by kernel_rfl) (by kernel_rfl) .i32 (by kernel_rfl) h hf (by simp [go_sem, wrap32, IntKind.wrap_i32])
  go_enter Tryz.func111, Tryz.ntmps111
  go_wp2
  go_ret
  exact ⟨rfl, rfl⟩

/-- What is in the table's block: the Once's word, its lock, how often the entries were reckoned. -/
def Head (cs : Array Value) (d m : Int) : Prop := cs.size = 260 ∧ cs[0]? = some (.int .u32 d) ∧ cs[1]? = some (.int .i32 0) ∧ cs[3]? = some (.int .i32 m)
/-- The entries. -/
def Ents (cs : Array Value) : Prop := ∀ i, i < 256 → cs[4 + i]? = some (.int .u32 (Crc.step i : Nat))

set_option maxRecDepth 100000 in
set_option maxHeartbeats 800000 in
theorem crc_reckon (b : Nat) (cs : Array Value) (m : Int) (w : World) (hb : Blk w b cs 154) (hs : cs.size = 260) (h3 : cs[3]? = some (.int .i32 m)) :
    Calls Tryz.prog 106 #[.pointer (some ⟨b, 0, none⟩)] w fun e w' => e = .returned (.tuple #[]) ∧ ∃ cs', Blk w' b cs' 154 ∧ w.grownBy w' (some b) ∧ cs'.size = 260 ∧ cs'[0]? = cs[0]? ∧ cs'[1]? = cs[1]? ∧ cs'[3]? = some (.int .i32 (wrap32 (m + 1))) ∧ Ents cs' := by
  go_enter Tryz.func106, Tryz.ntmps106
  go_wp2
  go_loopg [3] 256 (fun g i wr => ∃ (k : Nat) (ds : Array Value), k ≤ 256 ∧ g = 256 - k ∧ i = .int .i64 k ∧ Blk wr b ds 154 ∧ w.grownBy wr (some b) ∧ Hid (ds.size = 260 ∧ (∀ j, j < 4 → ds[j]? = cs[j]?) ∧ ∀ j, j < k → ds[4 + j]? = some (.int .u32 (Crc.step j : Nat))))
  case atStart => exact ⟨0, cs, by omega, rfl, rfl, hb, gby_refl _ _, Lib.hid ⟨hs, fun _ _ => rfl, fun j hj => by omega⟩⟩
  case round =>
    obtain ⟨k, ds, hk, rfl, rfl, hbl, hgb, HH⟩ := hrel
    by_cases hlt : k < 256
    · have hk4 : k < 4294967296 := by omega
      have hw : IntKind.u32.wrap (k : Int) = k := by rw [IntKind.wrap_u32]; omega
      have hk0 : (0 : Int) ≤ (k : Int) := by omega
      have hk1 : (k : Int) < 256 := by omega
      have hc : wr.cell? ⟨b, 4 + k, none⟩ = some (ds[4 + k]'(by have := HH.out.1; omega)) := hbl.cell (Array.getElem?_eq_getElem _)
      have hf : wr.frozen? ⟨b, 4 + k, none⟩ = false := hbl.free _
      have BL := Lib.hid hbl
      clear hbl
      go_wp2_with fail
      go_region_held3 (fun _ => True) (trivial) ((go_at_call 110; (with_reducible refine (crc_entry k hk4 _).mono ?_); rintro e w' ⟨rfl, rfl⟩))
      go_wp2_with fail
      go_roundg (256 - (k + 1))
      case measure => omega
      case rel =>
        refine ⟨k + 1, _, by omega, rfl, by go_num, (BL.out.set (4 + k) _).drew, gby_drew (gby_set hgb _ _), Lib.hid ?_⟩
        obtain ⟨h1, h2, h3⟩ := HH.out
        refine ⟨by simpa using h1, fun j hj => ?_, fun j hj => ?_⟩
        · rw [Array.getElem?_setIfInBounds_ne (by omega)]; exact h2 j hj
        · by_cases hjk : j = k
          · subst hjk
            rw [Array.getElem?_setIfInBounds_self_of_lt (by omega)]
          · rw [Array.getElem?_setIfInBounds_ne (by omega)]; exact h3 j (by omega)
    · obtain rfl : k = 256 := by omega
      obtain ⟨h1, h2, h4⟩ := HH.out
      have e3 := (h2 3 (by omega)).trans h3
      have e0 := h2 0 (by omega)
      have e1 := h2 1 (by omega)
      have K3 := hbl.cell e3
      have F3 := hbl.free 3
      have HF := Lib.hid (And.intro h1 (And.intro e0 (And.intro e1 h4)))
      have BL := Lib.hid hbl
      clear HH h1 h2 h4 e3 e0 e1 hbl h3 hb
      go_wp2_with (go_at_call 111; refine (i32_add b 3 m _ K3 F3).mono ?_; rintro e w' ⟨rfl, rfl⟩)
      go_end0
      obtain ⟨h1, e0, e1, h4⟩ := HF.out
      refine ⟨rfl, _, BL.out.set 3 _, gby_set hgb _ _, by simpa using h1, ?_, ?_, ?_, fun j hj => ?_⟩
      · rw [Array.getElem?_setIfInBounds_ne (by omega)]; exact e0
      · rw [Array.getElem?_setIfInBounds_ne (by omega)]; exact e1
      · rw [Array.getElem?_setIfInBounds_self_of_lt (by omega)]
      · rw [Array.getElem?_setIfInBounds_ne (by omega)]; exact h4 j hj

/-- A table in block b: d is the Once's word, m how often the entries were reckoned. -/
def Tab (w : World) (b : Nat) (d m : Int) : Prop := ∃ cs, Blk w b cs 154 ∧ Head cs d m ∧ (d = 1 → Ents cs)
theorem Tab.lt {w : World} {b : Nat} {d m : Int} (h : Tab w b d m) : b < w.heap.size := by obtain ⟨cs, hb, _⟩ := h; exact hb.lt
theorem Tab.below {w w1 : World} {b B : Nat} {d m : Int} (h : Tab w b d m) (hb : Below B w w1) (hlt : b < B) : Tab w1 b d m := by
  obtain ⟨cs, h1, h2⟩ := h; exact ⟨cs, h1.below hb hlt, h2⟩
theorem Tab.gby {w w1 : World} {b g : Nat} {d m : Int} (h : Tab w b d m) (hb : w.grownBy w1 (some g)) (hne : ¬ b = g) : Tab w1 b d m := by
  obtain ⟨cs, h1, h2⟩ := h; exact ⟨cs, h1.gby hb hne, h2⟩

/-- What a call on a table does to how often the entries were reckoned. -/
def madeI (d m : Int) : Int := if d = 1 then m else wrap32 (m + 1)
theorem madeI_one (m : Int) : madeI 1 m = m := rfl
theorem madeI_first : madeI 0 0 = 1 := by unfold madeI wrap32; simp

theorem crc_do (b : Nat) (d m : Int) (hd : d = 0 ∨ d = 1) (w : World) (ht : Tab w b d m) :
    Calls Tryz.prog 105 #[.pointer (some ⟨b, 0, none⟩), .func (.func 106) #[.pointer (some ⟨b, 0, none⟩)] #[]] w fun e w' => e = .returned (.tuple #[]) ∧ Tab w' b 1 (madeI d m) ∧ w.grownBy w' (some b) := by
  obtain ⟨cs, hb, ⟨hs, h0, h1, h3⟩, he⟩ := ht
  rcases hd with rfl | rfl
  · have hb1 := hb.set 1 (.int .i32 1)
    have hrk := crc_reckon b _ m _ hb1 (by simpa using hs) (by rw [Array.getElem?_setIfInBounds_ne (by omega)]; exact h3)
    refine (do_m b 0 106 _ (fun w2 => ∃ cs', Blk w2 b cs' 154 ∧ w.grownBy w2 (some b) ∧ cs'.size = 260 ∧ cs'[0]? = some (.int .u32 0) ∧ cs'[1]? = some (.int .i32 1) ∧ cs'[3]? = some (.int .i32 (wrap32 (m + 1))) ∧ Ents cs') w (hb.cell h0) (hb.cell h1) (hb.free _) (hb.free _) (fun w => by kernel_rfl) (Lib.hid ?_) (Lib.hid ?_)).mono ?_
    · refine hrk.mono ?_
      rintro e w' ⟨rfl, cs', k1, k2, k3, k4, k5, k6, k7⟩
      refine ⟨rfl, cs', k1, gby_trans (gby_set (gby_refl _ _) _ _) k2, k3, ?_, ?_, k6, k7⟩
      · rw [k4, Array.getElem?_setIfInBounds_ne (by omega)]; exact h0
      · rw [k5, Array.getElem?_setIfInBounds_self_of_lt (by omega)]
    · rintro w2 ⟨cs', k1, k2, k3, k4, k5, k6, k7⟩
      exact ⟨k1.cell k4, k1.cell k5, k1.free _, k1.free _⟩
    · rintro e w' ⟨rfl, w2, ⟨cs', k1, k2, k3, k4, k5, k6, k7⟩, rfl⟩
      refine ⟨rfl, ⟨_, (k1.drew.set 0 _).set 1 _, ⟨by simpa using k3, ?_, ?_, ?_⟩, fun _ j hj => ?_⟩, gby_set (gby_set (gby_drew k2) _ _) _ _⟩
      · rw [Array.getElem?_setIfInBounds_ne (by omega), Array.getElem?_setIfInBounds_self_of_lt (by omega)]
      · rw [Array.getElem?_setIfInBounds_self_of_lt (by simp; omega)]
      · rw [Array.getElem?_setIfInBounds_ne (by omega), Array.getElem?_setIfInBounds_ne (by omega)]; exact k6
      · rw [Array.getElem?_setIfInBounds_ne (by omega), Array.getElem?_setIfInBounds_ne (by omega)]; exact k7 j hj
  · refine (do_done b 0 1 (by omega) _ w (hb.cell h0)).mono ?_
    rintro e w' ⟨rfl, rfl⟩
    exact ⟨rfl, ⟨cs, hb, ⟨hs, h0, h1, h3⟩, he⟩, gby_refl _ _⟩

theorem crc_nil_more (sum : Int) (s : ByteArray) (w : World) : Calls Tryz.prog 98 #[.pointer none, .int .u32 sum, .string s] w fun e w' => e = .returned (.int .u32 0) ∧ w = w' := by
  go_enter Tryz.func98, Tryz.ntmps98
  go_wp2
  go_ret
  exact ⟨rfl, rfl⟩

/-- One byte: which entry is looked up, and what it makes of the register. -/
theorem crc_byte (n c : Nat) (hn : n < 4294967296) (hc : c < 256) : ∃ j : Nat, j < 256 ∧ bits BinOp.xor IntKind.u8 (IntKind.u8.wrap (n : Int)) (c : Int) = (j : Int) ∧
    bits BinOp.xor IntKind.u32 ((n : Int) / 256) ((Crc.step j : Nat) : Int) = ((Crc.step (n ^^^ c) : Nat) : Int) := by
  refine ⟨n % 256 ^^^ c, Nat.xor_lt_two_pow (n := 8) (by omega) hc, ?_, ?_⟩
  · have e := u8_xor_nat (n % 256) c (by omega) hc
    rw [IntKind.wrap_u8]
    have e1 : ((n % 256 : Nat) : Int) = (n : Int) % 256 := by omega
    rw [e1] at e
    exact e
  · have hl : Crc.step (n % 256 ^^^ c) < 4294967296 := Crc.step_lt (Crc.xor_lt (by omega) (by omega))
    have e := u32_xor_nat (n / 256) (Crc.step (n % 256 ^^^ c)) (by omega) hl
    have e1 : ((n / 256 : Nat) : Int) = (n : Int) / 256 := by omega
    rw [e1] at e
    rw [e, Crc.step_table n c hc]

set_option maxRecDepth 100000 in
set_option maxHeartbeats 800000 in
theorem crc_more (b : Nat) (d m : Int) (hd : d = 0 ∨ d = 1) (sum : Nat) (hsum : sum < 4294967296) (s : ByteArray) (hs : s.size ≤ maxLen) (w : World) (ht : Tab w b d m) :
    Calls Tryz.prog 98 #[.pointer (some ⟨b, 0, none⟩), .int .u32 sum, .string s] w fun e w' => e = .returned (.int .u32 (Crc.more sum (bts s) : Nat)) ∧ Tab w' b 1 (madeI d m) ∧ w.grownBy w' (some b) := by
  unfold maxLen at hs
  have hc := crc_compl sum hsum
  have hmf : ∀ (fn : Fn) (first cap : Array Value) (w : World), (Instr.makeFunc fn first cap).run Tryz.prog w = .ok (.func fn first cap) w := fun _ _ _ _ => rfl
  go_enter Tryz.func98, Tryz.ntmps98
  go_wp2_with (go_at_call 105; (with_reducible refine (crc_do b d m hd _ ht).mono ?_); rintro e w1 ⟨rfl, ht1, hg1⟩)
  obtain ⟨cs, hb, hh, he⟩ := ht1
  have HH := Lib.hid (And.intro hh (he rfl))
  clear hh he hc ht
  go_loopg [7, 21] s.size (fun g t i wr => Blk wr b cs 154 ∧ w.grownBy wr (some b) ∧ ∃ (k m : Nat), k ≤ s.size ∧ g = s.size - k ∧ i = .int .i64 k ∧ t = .int .u32 m ∧ m < 4294967296 ∧ Hid (m = Crc.reg (Crc.compl sum) ((bts s).take k)))
  case atStart => exact ⟨hb, hg1, 0, Crc.compl sum, by omega, rfl, rfl, rfl, Crc.compl_lt _, Lib.hid rfl⟩
  case round =>
    obtain ⟨hb', hgb, k, n, hk, rfl, rfl, rfl, hm, HN⟩ := hrel
    clear hb hg1
    by_cases hlt : k < s.size
    · have hcc : (s[k]).toNat < 256 := (s[k]).toNat_lt
      obtain ⟨j, hj, hx1, hx2⟩ := crc_byte n (s[k]).toNat hm hcc
      have hj0 : (0 : Int) ≤ (j : Int) := by omega
      have hj1 : (j : Int) < 256 := by omega
      have hcell := hb'.cell (HH.out.2 j hj)
      have BL := Lib.hid hb'
      clear hb'
      have hw2 : IntKind.u8.wrap (n : Int) = (n : Int) % 256 := by rw [IntKind.wrap_u8]
      rw [hw2] at hx1
      go_wp2_with fail
      go_quiet (fail)
      go_wp2_with fail
      have HN2 : Hid (Crc.step (n ^^^ (s[k]).toNat) = Crc.reg (Crc.compl sum) ((bts s).take (k + 1))) := by
        have e := HN.out
        rw [bts_take s k hlt, Crc.reg_snoc, ← e]; exact rfl
      go_roundg (s.size - (k + 1))
      case measure => omega
      case rel => exact ⟨BL.out.drewN _, gby_drewN hgb _, k + 1, _, by omega, rfl, by go_num, rfl, Crc.step_lt (Crc.xor_lt hm (by omega)), HN2⟩
    · obtain rfl : k = s.size := by omega
      have e := HN.out
      rw [List.take_of_length_le (by rw [bts_length]; omega)] at e
      have hc := crc_compl n hm
      have HE : Hid (Crc.compl n = Crc.more sum (bts s)) := by rw [e]; exact rfl
      have BL := Lib.hid hb'
      clear e HN hb'
      go_wp2
      go_ret
      exact ⟨by rw [HE.out]; rfl, ⟨cs, BL.out, HH.out.1, fun _ => HH.out.2⟩, hgb⟩

theorem crc_sum (b : Nat) (d m : Int) (hd : d = 0 ∨ d = 1) (s : ByteArray) (hs : s.size ≤ maxLen) (w : World) (ht : Tab w b d m) :
    Calls Tryz.prog 89 #[.pointer (some ⟨b, 0, none⟩), .string s] w fun e w' => e = .returned (.int .u32 (Crc.more 0 (bts s) : Nat)) ∧ Tab w' b 1 (madeI d m) ∧ w.grownBy w' (some b) := by
  have hq := crc_more b d m hd 0 (by omega) s hs w ht
  rw [show ((0 : Nat) : Int) = 0 from rfl] at hq
  go_enter Tryz.func89, Tryz.ntmps89
  go_wp2_with (go_at_call 98; (with_reducible refine hq.mono ?_); rintro e w1 ⟨rfl, ht1, hg1⟩)
  go_ret
  exact ⟨rfl, ht1, hg1⟩

theorem crc_nil_sum (s : ByteArray) (w : World) : Calls Tryz.prog 89 #[.pointer none, .string s] w fun e w' => e = .returned (.int .u32 0) ∧ w = w' := by
  go_enter Tryz.func89, Tryz.ntmps89
  go_wp2_with (go_at_call 98; (with_reducible refine (crc_nil_more 0 s _).mono ?_); rintro e w1 ⟨rfl, rfl⟩)
  go_ret
  exact ⟨rfl, rfl⟩

theorem head_new : Head Tryz.zeroCells154 0 0 := ⟨by kernel_rfl, by kernel_rfl, by kernel_rfl, by kernel_rfl⟩

theorem crc_new (w : World) :
    Calls Tryz.prog 88 #[] w fun e w' => e = .returned (.pointer (some ⟨w.heap.size, 0, none⟩)) ∧ Tab w' w.heap.size 0 0 ∧ Below w.heap.size w w' ∧ w.heap.size < w'.heap.size := by
  go_enter Tryz.func88, Tryz.ntmps88
  go_wp2
  go_ret
  refine ⟨rfl, ⟨_, Blk.new w _ _, head_new, fun h => by cases h⟩, ?_, by simp⟩
  go_grown

/-- The three texts of what must come. -/
def nineA : ByteArray := ⟨#[49, 50, 51, 52, 53, 54, 55, 56, 57]⟩
def nineB : ByteArray := ⟨#[49, 50, 51, 52]⟩
def nineC : ByteArray := ⟨#[53, 54, 55, 56, 57]⟩
theorem nine_a : Crc.more 0 (bts nineA) = 3421780262 := by decide +kernel
theorem nine_c : Crc.more (Crc.more 0 (bts nineB)) (bts nineC) = 3421780262 := by decide +kernel

end Go.Proofs.YtokghlmffkboiaaGreat
