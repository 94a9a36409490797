/-
  OctetMath, Octet, CursorMath, Cursor, CursorFixed, CursorRef in one text.
-/
import Derived.Laws.Bits128
import Derived.Test.YtcibeiehdjekiaaGreatDoorBuilder
import Derived.Laws.BytesArg
import Derived.Lib.ConvBytes
/-! OctetMath -/
namespace Go.Proofs.YtcibeiehdjekiaaGreatDoor.Oct
set_option linter.unusedVariables false
set_option linter.unusedSimpArgs false

/-- So many bytes of a number, the highest one first. -/
def fixB : Nat → Nat → List UInt8
  | _, 0 => []
  | n, k + 1 => fixB (n / 256) k ++ [UInt8.ofNat (n % 256)]
theorem fixB_length (n k : Nat) : (fixB n k).length = k := by
  induction k generalizing n with
  | zero => rfl
  | succ k ih => simp [fixB, ih]
theorem fixB_cons (n k : Nat) : fixB n (k + 1) = UInt8.ofNat (n / 256 ^ k % 256) :: fixB n k := by
  induction k generalizing n with
  | zero => simp [fixB]
  | succ k ih =>
    have e : fixB n (k + 1 + 1) = fixB (n / 256) (k + 1) ++ [UInt8.ofNat (n % 256)] := rfl
    rw [e, ih (n / 256), Nat.div_div_eq_div_mul, show 256 * 256 ^ k = 256 ^ (k + 1) by rw [Nat.pow_succ, Nat.mul_comm]]
    rfl

/-- Seven bits of a number in each byte, the lowest first; all but the last one are marked. -/
def varB (n : Nat) : List UInt8 := if h : n < 128 then [UInt8.ofNat n] else UInt8.ofNat (n % 128 + 128) :: varB (n / 128)
termination_by n
decreasing_by omega
theorem varB_lt {n : Nat} (h : n < 128) : varB n = [UInt8.ofNat n] := by rw [varB, dif_pos h]
theorem varB_ge {n : Nat} (h : ¬ n < 128) : varB n = UInt8.ofNat (n % 128 + 128) :: varB (n / 128) := by rw [varB, dif_neg h]
theorem varB_pos (n : Nat) : 0 < (varB n).length := by
  by_cases h : n < 128
  · rw [varB_lt h]; simp
  · rw [varB_ge h]; simp
theorem varB_length (k n : Nat) (h : n < 128 ^ (k + 1)) : (varB n).length ≤ k + 1 := by
  induction k generalizing n with
  | zero => rw [varB_lt (by simpa using h)]; simp
  | succ k ih =>
    by_cases hn : n < 128
    · rw [varB_lt hn]; simp
    · rw [varB_ge hn, List.length_cons]
      have : n / 128 < 128 ^ (k + 1) := by
        rw [Nat.div_lt_iff_lt_mul (by decide)]
        rw [Nat.pow_succ] at h
        exact h
      have := ih _ this
      omega
theorem varB_nine (n : Nat) (h : n ≤ 9223372036854775807) : (varB n).length ≤ 9 := varB_length 8 n (by
  have : (128 : Nat) ^ 9 = 9223372036854775808 := by decide
  rw [this]; omega)

theorem or128 (n : Nat) (h : n < 128) : bits .or .i64 (n : Int) 128 = ((n + 128 : Nat) : Int) := by
  have e : bits .or .i64 (n : Int) ((128 : Nat) : Int) = ((n ||| 128 : Nat) : Int) :=
    (bits_nat .i64 63 (by decide) (fun m h0 h1 => by rw [IntKind.wrap_i64]; have : (2 : Int) ^ 63 = 9223372036854775808 := by decide
                                                     omega) n 128 (by have : (2 : Nat) ^ 63 = 9223372036854775808 := by decide
                                                                      omega) (by decide)).2
  have e2 : n ||| 128 = n + 128 := by
    have := Nat.two_pow_add_eq_or_of_lt (i := 7) (b := n) h 1
    rw [Nat.or_comm]
    simp at this
    omega
  rw [e2] at e
  exact e

theorem i64_and127 (n : Int) : bits BinOp.and IntKind.i64 n 127 = n % 128 := by
  have h255 : (BitVec.ofInt 64 127).toNat = 2 ^ 7 - 1 := by decide
  have key : (BitVec.ofInt 64 n &&& BitVec.ofInt 64 127).toNat = (n % ((2 ^ 64 : Nat) : Int)).toNat % 2 ^ 7 := by
    rw [BitVec.toNat_and, BitVec.toNat_ofInt, h255, Nat.and_two_pow_sub_one_eq_mod]
  show IntKind.i64.wrap ((BitVec.ofInt 64 n &&& BitVec.ofInt 64 127).toNat : Nat) = n % 128
  rw [key, IntKind.wrap_i64]
  omega
end Go.Proofs.YtcibeiehdjekiaaGreatDoor.Oct

/-! Octet -/
namespace Go.Proofs.YtcibeiehdjekiaaGreatDoor
open Go.RowKit
set_option linter.unusedVariables false
set_option linter.unusedSimpArgs false

/-- A list of bytes as a text. -/
def str (l : List UInt8) : ByteArray := ⟨l.toArray⟩
theorem str_size (l : List UInt8) : (str l).size = l.length := by simp [str, ByteArray.size]
theorem str_list (l : List UInt8) : (str l).data.toList = l := by simp [str]
theorem str_append (a b : List UInt8) : str a ++ str b = str (a ++ b) := by
  apply ByteArray.ext
  simp [str]

theorem lies_own : Lies 44 2 0 := ⟨by decide, by kernel_rfl⟩

theorem octet_fixed_out (n k : Int) (h : k < 1 ∨ 8 < k) (w : World) : Calls Tryz.prog 22 #[.int .u64 n, .int .i64 k] w fun e w' => e = .returned (.string (str [])) ∧ w = w' := by
  rcases h with h | h
  · go_enter Tryz.func22, Tryz.ntmps22
    go_wp2
    go_ret
    exact ⟨rfl, rfl⟩
  · go_enter Tryz.func22, Tryz.ntmps22
    go_wp2
    go_ret
    exact ⟨rfl, rfl⟩

set_option maxRecDepth 100000 in
set_option maxHeartbeats 800000 in
theorem octet_fixed (n k : Nat) (hn : n < 18446744073709551616) (hk1 : 1 ≤ k) (hk8 : k ≤ 8) (w : World) :
    Calls Tryz.prog 22 #[.int .u64 n, .int .i64 k] w fun e w' => e = .returned (.string (str (Oct.fixB n k))) ∧ Below w.heap.size w w' := by
  have hk1' : (1 : Int) ≤ (k : Int) := by omega
  have hk8' : (k : Int) ≤ 8 := by omega
  go_enter Tryz.func22, Tryz.ntmps22
  go_wp2
  go_loopg [6] k (fun g i wr => ∃ (m : Nat) (cs : Array Value) (v : Value), m ≤ k ∧ g = m ∧ i = .int .i64 ((m : Int) - 1) ∧ cs.size = 2 ∧ Blk wr w.heap.size cs 44 ∧ BldIn cs w.heap.size w.heap.size 0 wr v (Oct.fixB (n / 256 ^ m) (k - m)) ∧ w.heap.size < wr.heap.size ∧ Below w.heap.size w wr)
  case atStart =>
    refine ⟨k, _, .slice none 0 0, Nat.le_refl _, rfl, rfl, rfl, Blk.new w _ _, ⟨.inl rfl, rfl, ?_, by simp [Value.ownBlock]⟩, by simp, ?_⟩
    · rw [Nat.sub_self]; exact World.ownsRowF_nil _ _ _ _
    · go_grown
  case round =>
    obtain ⟨m, cs, v, hm, hgm, rfl, hcs, hb, hbi, hsz, hbl⟩ := hrel
    have hgm := hgm.symm
    subst hgm
    have HB := Lib.hid hb
    have HBI := Lib.hid hbi
    clear hb hbi
    by_cases h0 : m = 0
    · subst h0
      have hst := bld_string _ _ 0 w.heap.size cs v _ wr HB.out HBI.out (by omega)
      rw [Nat.pow_zero, Nat.div_one, Nat.sub_zero] at hst
      have HST := Lib.hid hst
      clear hst
      go_wp2_with (go_at_call 26; refine HST.out.mono ?_; rintro e w2 ⟨rfl, hb2, hbi2, hc2⟩)
      go_ret
      exact ⟨rfl, hbl.trans (hc2.below (by omega) (fun j hj => by have := World.ownsRowF.lt HBI.out.2.2.1 j hj.symm; omega))⟩
    · obtain ⟨j, rfl⟩ : ∃ j, m = j + 1 := ⟨m - 1, by omega⟩
      have hx : ((n : Int) / 2 ^ (8 * j) % 256 : Int) = ((UInt8.ofNat (n / 256 ^ j % 256)).toNat : Int) := by
        have e1 : (2 : Int) ^ (8 * j) = ((256 ^ j : Nat) : Int) := by
          rw [Int.pow_mul]; simp
        rw [e1, UInt8.toNat_ofNat_of_lt' (by have := Nat.mod_lt (n / 256 ^ j) (show 256 > 0 by decide); simpa using this)]
        simp
      have hfx : Oct.fixB (n / 256 ^ (j + 1)) (k - (j + 1)) ++ [UInt8.ofNat (n / 256 ^ j % 256)] = Oct.fixB (n / 256 ^ j) (k - j) := by
        rw [show k - j = (k - (j + 1)) + 1 by omega, Oct.fixB, Nat.div_div_eq_div_mul, ← Nat.pow_succ]
      have HX := Lib.hid hx
      have HF := Lib.hid hfx
      clear hx hfx
      go_wp2_with fail
      rw [HX.out]
      refine (bld_writeByte 44 w.heap.size 0 w.heap.size cs v _ (UInt8.ofNat (n / 256 ^ j % 256)) wr (by rw [hcs]; exact lies_own) (by decide) HB.out HBI.out (by rw [Oct.fixB_length]; omega) (by omega) (Nat.le_refl _)).mono ?_
      rintro e w2 ⟨rfl, v', hb2, hbi2, hbl2⟩
      have hs2 : w.heap.size < w2.heap.size := hb2.lt
      have HB2 := Lib.hid hb2
      have HBI2 := Lib.hid hbi2
      clear hb2 hbi2
      go_wp2
      go_roundg j
      case measure => omega
      case rel => exact ⟨j, _, _, by omega, rfl, rfl, by rw [wrote_size]; exact hcs, HB2.out, by rw [← HF.out]; exact HBI2.out, hs2, hbl.trans hbl2⟩

theorem octet_var_neg (n : Int) (h : n < 0) (w : World) : Calls Tryz.prog 24 #[.int .i64 n] w fun e w' => e = .returned (.string (str [])) ∧ w = w' := by
  go_enter Tryz.func24, Tryz.ntmps24
  go_wp2
  go_ret
  exact ⟨rfl, rfl⟩

theorem str_nums (l : List UInt8) : strOfNums (l.map fun x => (x.toNat : Int)) = str l := by
  apply ByteArray.ext
  have : l.map ((fun n : Int => UInt8.ofNat n.toNat) ∘ fun x : UInt8 => (x.toNat : Int)) = l := by
    induction l with
    | nil => rfl
    | cons a r ih => rw [List.map_cons, ih]; simp
  simp [strOfNums, str, this]

/-- The cells of a block of bytes: so many are those of the list. -/
def Pre (cs : Array Value) (l : List UInt8) : Prop := ∀ j : Nat, j < l.length → cs[j]? = some (.int .u8 (l.getD j 0).toNat)
theorem Pre.push {cs : Array Value} {l : List UInt8} (h : Pre cs l) (hl : l.length < cs.size) (x : UInt8) : Pre (cs.setIfInBounds l.length (.int .u8 x.toNat)) (l ++ [x]) := by
  intro j hj
  by_cases hjl : j = l.length
  · subst hjl
    rw [Array.getElem?_setIfInBounds_self_of_lt hl]
    simp
  · have hjlt : j < l.length := by simp at hj; omega
    rw [Array.getElem?_setIfInBounds_ne (fun e => hjl e.symm), h j hjlt]
    simp [List.getElem?_append_left hjlt]

/-- The bytes of a block as a text. -/
theorem conv_pre (w : World) (b cap : Nat) (cs : Array Value) (T : TypeId) (hb : Blk w b cs T) (l : List UInt8) (h : Pre cs l) :
    (convert 42 9 (.slice (some ⟨b, 0, none⟩) l.length cap)).run Tryz.prog w = .ok (.string (str l)) w := by
  have := run_convert_bytes_arg (P := Tryz.prog) w 42 5 Tryz.underlying42 Tryz.underlying5 b 0 l.length cap (l.map fun x => (x.toNat : Int)) (by simp) (fun j hj => by
    rw [hb.cell (by rw [Nat.zero_add]; exact h j hj)]
    simp [List.getD_eq_getElem?_getD, List.getElem?_eq_getElem hj]) 9 Tryz.underlying9
  rw [str_nums] at this
  exact this

set_option maxRecDepth 100000 in
theorem slice_nine (b k : Nat) (hk : k < 9) (w : World) : (Instr.sliceAt 83 (.pointer (some ⟨b, 0, none⟩)) none (some (.int .i64 ((k : Int) + 1))) none).run Tryz.prog w = .ok (.slice (some ⟨b, 0, none⟩) (k + 1) 9) w := by
  rw [run_sliceAt_array_h (P := Tryz.prog) w 83 ⟨b, 0, none⟩ Tryz.underlying83 .i64 ((k : Int) + 1) (by omega) (by
    have e : Tryz.prog.arrayLen 83 = 9 := by kernel_rfl
    rw [e]; omega)]
  have e : Tryz.prog.arrayLen 83 = 9 := by kernel_rfl
  have e2 : Tryz.prog.elem 83 = 5 := by kernel_rfl
  have e3 : ((k : Int) + 1).toNat = k + 1 := by omega
  rw [e, e2, e3]
  have e4 : (sizeOf 5).run Tryz.prog w = .ok 1 w := by go_simp
  rw [e4]
  simp [Result.andThen, slicedAt, Addr.add]

set_option maxRecDepth 100000 in
set_option maxHeartbeats 800000 in
theorem octet_var (n : Nat) (hn : n ≤ 9223372036854775807) (w : World) :
    Calls Tryz.prog 24 #[.int .i64 n] w fun e w' => e = .returned (.string (str (Oct.varB n))) ∧ Below w.heap.size w w' := by
  have hn' : (n : Int) ≤ 9223372036854775807 := by omega
  have hnine := Oct.varB_nine n hn
  go_enter Tryz.func24, Tryz.ntmps24
  go_wp2
  go_loopg [0, 4] 9 (fun g x i wr => ∃ (m : Nat) (pre : List UInt8) (cs : Array Value), pre ++ Oct.varB m = Oct.varB n ∧ g = 9 - pre.length ∧ x = .int .i64 m ∧ i = .int .i64 pre.length ∧ m ≤ 9223372036854775807 ∧ cs.size = 9 ∧ Pre cs pre ∧ Blk wr w.heap.size cs 83 ∧ w.heap.size < wr.heap.size ∧ Below w.heap.size w wr)
  case atStart =>
    refine ⟨n, [], _, rfl, rfl, rfl, rfl, hn, ?_, ?_, Blk.new w _ _, by simp, ?_⟩
    · rfl
    · intro j hj; simp at hj
    · go_grown
  case round =>
    obtain ⟨m, pre, cs, hpre, hg, rfl, rfl, hm, hcs, hcells, hb, hsz, hbl⟩ := hrel
    have hg := hg.symm
    subst hg
    have hlen : pre.length + (Oct.varB m).length ≤ 9 := by rw [← List.length_append, hpre]; exact hnine
    have hpos := Oct.varB_pos m
    have hsl : pre.length < 9 := by omega
    obtain ⟨u, hu⟩ : ∃ u, cs[pre.length]? = some u := ⟨cs[pre.length]'(by omega), Array.getElem?_eq_getElem (by omega)⟩
    have hc := hb.cell hu
    have hf := hb.free pre.length
    have HP := Lib.hid hpre
    have HL := Lib.hid hcells
    have HB := Lib.hid hb
    clear hpre hcells hb hlen hpos
    have hm' : (m : Int) ≤ 9223372036854775807 := by omega
    by_cases hlt : m < 128
    · have hP2 := HL.out.push (by omega) (UInt8.ofNat m)
      rw [show (((UInt8.ofNat m).toNat : Nat) : Int) = (m : Int) by simp; omega] at hP2
      have hconv := conv_pre (wr.setCell ⟨w.heap.size, pre.length, none⟩ (.int .u8 m)) w.heap.size 9 _ _ (HB.out.set _ _) _ hP2
      rw [← Oct.varB_lt hlt, HP.out] at hconv
      have e9 : (pre ++ [UInt8.ofNat m]).length = pre.length + 1 := by simp
      rw [← Oct.varB_lt hlt, HP.out] at e9
      rw [e9] at hconv
      have hsl := slice_nine w.heap.size pre.length hsl
      clear hP2 e9
      go_wp2
      go_ret
      exact ⟨rfl, hbl.setCell (Nat.le_refl _) _⟩
    · obtain ⟨r, hr⟩ : ∃ r, r = m % 128 := ⟨_, rfl⟩
      obtain ⟨q, hq⟩ : ∃ q, q = r + 128 := ⟨_, rfl⟩
      have h1 : bits .and .i64 (m : Int) 127 = (r : Int) := by rw [Oct.i64_and127, hr]; omega
      have h2 : bits .or .i64 (r : Int) 128 = (q : Int) := by rw [Oct.or128 r (by omega), hq]
      have hq2 : q < 256 := by omega
      have hP2 := HL.out.push (by omega) (UInt8.ofNat q)
      rw [show (((UInt8.ofNat q).toNat : Nat) : Int) = (r : Int) + 128 by simp; omega] at hP2
      have hv := HP.out
      rw [Oct.varB_ge hlt, ← hr, ← hq] at hv
      have HV := Lib.hid hv
      have HP2 := Lib.hid hP2
      clear hr hv hP2
      go_wp2
      go_roundg (9 - (pre.length + 1))
      case measure => omega
      case rel => exact ⟨m / 128, pre ++ [UInt8.ofNat q], _, by rw [List.append_assoc]; exact HV.out, by simp, by simp, by simp, by omega, by simpa using hcs, HP2.out, HB.out.set _ _, by simpa using hsz, hbl.setCell (Nat.le_refl _) _⟩

theorem ref02_fixed_out (n k : Int) (h : k < 1 ∨ 8 < k) (w : World) : Calls Tryz.prog 27 #[.int .u64 n, .int .i64 k] w fun e w' => e = .returned (.string (str [])) ∧ w = w' := by
  rcases h with h | h
  · go_enter Tryz.func27, Tryz.ntmps27
    go_wp2
    go_ret
    exact ⟨rfl, rfl⟩
  · go_enter Tryz.func27, Tryz.ntmps27
    go_wp2
    go_ret
    exact ⟨rfl, rfl⟩

/-- A block's first byte as a text. -/
theorem conv_cell (x : Int) (h0 : 0 ≤ x) (h1 : x < 256) (w : World) (b cap : Nat) (hc : w.cell? ⟨b, 0, none⟩ = some (.int .u8 x)) :
    (convert 42 9 (.slice (some ⟨b, 0, none⟩) 1 cap)).run Tryz.prog w = .ok (.string (str [UInt8.ofNat x.toNat])) w := by
  have := run_convert_bytes_arg (P := Tryz.prog) w 42 5 Tryz.underlying42 Tryz.underlying5 b 0 1 cap [x] rfl (fun j hj => by
    obtain rfl : j = 0 := by omega
    exact hc) 9 Tryz.underlying9
  exact this

set_option maxRecDepth 100000 in
set_option maxHeartbeats 800000 in
theorem ref02_fixed (n k : Nat) (hn : n < 18446744073709551616) (hk1 : 1 ≤ k) (hk8 : k ≤ 8) (w : World) :
    Calls Tryz.prog 27 #[.int .u64 n, .int .i64 k] w fun e w' => e = .returned (.string (str (Oct.fixB n k))) ∧ Below w.heap.size w w' := by
  have hk1' : (1 : Int) ≤ (k : Int) := by omega
  have hk8' : (k : Int) ≤ 8 := by omega
  go_enter Tryz.func27, Tryz.ntmps27
  go_wp2
  go_loopg [0, 5, 6] k (fun g x s i wr => ∃ (j m : Nat), j ≤ k ∧ g = k - j ∧ i = .int .i64 j ∧ x = .int .u64 m ∧ m < 18446744073709551616 ∧ Hid (m = n / 256 ^ j) ∧ s = .string (str (Oct.fixB n j)) ∧ w.heap.size ≤ wr.heap.size ∧ Below w.heap.size w wr)
  case atStart => exact ⟨0, n, by omega, rfl, rfl, rfl, hn, Lib.hid (by simp), rfl, Nat.le_refl _, Below.refl _ _⟩
  case round =>
    obtain ⟨j, m, hj, hg, rfl, rfl, hm, hmj, rfl, hsz, hbl⟩ := hrel
    have hg := hg.symm
    subst hg
    by_cases hlt : j < k
    · have hm' : (m : Int) < 18446744073709551616 := by omega
      have hconv := conv_cell ((m : Int) % 256) (by omega) (by omega)
      rw [show ((m : Int) % 256).toNat = m % 256 by omega] at hconv
      have hf : str [UInt8.ofNat (m % 256)] ++ str (Oct.fixB n j) = str (Oct.fixB n (j + 1)) := by rw [str_append, Oct.fixB_cons, hmj.out]; rfl
      have hd : m / 256 = n / 256 ^ (j + 1) := by rw [hmj.out, Nat.div_div_eq_div_mul, ← Nat.pow_succ]
      have hlen : (str [UInt8.ofNat (m % 256)]).size + (str (Oct.fixB n j)).size ≤ 9223372036854775807 := by
        rw [str_size, str_size, Oct.fixB_length]; simp; omega
      have HD := Lib.hid hd
      have HF := Lib.hid hf
      clear hd hf
      go_wp2
      rw [HF.out]
      go_roundg (k - (j + 1))
      case measure => omega
      case rel => exact ⟨j + 1, m / 256, by omega, rfl, by go_num, by simp, by omega, Lib.hid HD.out, rfl, by simp; omega, hbl.alloc hsz _⟩
    · obtain rfl : j = k := by omega
      go_wp2
      go_ret
      exact ⟨rfl, hbl⟩

theorem below_new {w w1 : World} {v : Value} {t : TypeId} (hb : Below (w.alloc (.cells #[v] t)).drew.heap.size (w.alloc (.cells #[v] t)).drew w1) : w1.cell? ⟨w.heap.size, 0, none⟩ = some v :=
  keepB hb (by go_simp) (by simp)
theorem below_newB {w w1 : World} {v : Value} {t : TypeId} (hb : Below (w.alloc (.cells #[v] t)).drew.heap.size (w.alloc (.cells #[v] t)).drew w1) : Below w.heap.size w w1 :=
  (show Below w.heap.size w (w.alloc (.cells #[v] t)) by go_grown).trans ((below_undrew hb).mono (by simp))
set_option maxRecDepth 100000 in
set_option maxHeartbeats 800000 in
theorem ref02_var (n : Nat) : ∀ (hn : n ≤ 9223372036854775807) (w : World),
    Calls Tryz.prog 28 #[.int .i64 n] w fun e w' => e = .returned (.string (str (Oct.varB n))) ∧ Below w.heap.size w w' := by
  induction n using Nat.strongRecOn with
  | ind n ih =>
    intro hn w
    have hn' : (n : Int) ≤ 9223372036854775807 := by omega
    by_cases hlt : n < 128
    · have hconv := conv_cell (n : Int) (by omega) (by omega)
      rw [Int.toNat_natCast, ← Oct.varB_lt hlt] at hconv
      go_enter Tryz.func28, Tryz.ntmps28
      go_wp2
      go_ret
      exact ⟨rfl, by go_grown⟩
    · obtain ⟨d, hd⟩ : ∃ d, d = n / 128 := ⟨_, rfl⟩
      obtain ⟨r, hr⟩ : ∃ r, r = n % 128 := ⟨_, rfl⟩
      obtain ⟨q, hq⟩ : ∃ q, q = r + 128 := ⟨_, rfl⟩
      have IH := Lib.hid (ih d (by omega) (by omega))
      clear ih
      have hconv := conv_cell (q : Int) (by omega) (by omega)
      rw [Int.toNat_natCast] at hconv
      have hv := Oct.varB_ge hlt
      rw [← hr, ← hq, ← hd] at hv
      have HV := Lib.hid hv
      have t1 : (n : Int).tmod 128 = (r : Int) := by rw [Int.tmod_eq_emod_of_nonneg (by omega)]; omega
      have t2 : IntKind.i64.wrap ((r : Int) + 128) = (q : Int) := by rw [IntKind.wrap_i64]; omega
      have t3 : IntKind.u8.wrap (q : Int) = (q : Int) := by rw [IntKind.wrap_u8]; omega
      have t4 : IntKind.i64.wrap ((n : Int) / 128) = (d : Int) := by rw [IntKind.wrap_i64]; omega
      have hlen : (str [UInt8.ofNat q]).size + (str (Oct.varB d)).size ≤ 9223372036854775807 := by
        have := Oct.varB_nine d (by omega)
        rw [str_size, str_size]; simp; omega
      clear hv hr hq hd
      go_enter Tryz.func28, Tryz.ntmps28
      go_wp2_with fail
      go_region_with ((go_at_call 28; refine (IH.out _).mono ?_; rintro e w1 ⟨rfl, hb⟩; first | (have k0 := below_new hb; have hb' := below_newB hb) | skip))
      all_goals (go_wp2_with fail; go_ret)
      all_goals (refine ⟨by rw [HV.out, str_append]; rfl, ?_⟩; first | exact hb' | exact (below_undrew hb).alloc (below_undrew hb).size _)

theorem ref02_var_neg (n : Int) (h : n < 0) (w : World) : Calls Tryz.prog 28 #[.int .i64 n] w fun e w' => e = .returned (.string (str [])) ∧ w = w' := by
  go_enter Tryz.func28, Tryz.ntmps28
  go_wp2
  go_ret
  exact ⟨rfl, rfl⟩

/-- What the bytes of a number are, whatever the number and how many are asked for. -/
def fixAny (n : Nat) (k : Int) : List UInt8 := if k < 1 ∨ 8 < k then [] else Oct.fixB n k.toNat
def varAny (n : Int) : List UInt8 := if n < 0 then [] else Oct.varB n.toNat
theorem octet_fixed_any (n : Nat) (k : Int) (hn : n < 18446744073709551616) (w : World) :
    Calls Tryz.prog 22 #[.int .u64 n, .int .i64 k] w fun e w' => e = .returned (.string (str (fixAny n k))) ∧ Below w.heap.size w w' := by
  unfold fixAny
  by_cases h : k < 1 ∨ 8 < k
  · rw [if_pos h]
    refine (octet_fixed_out n k h w).mono ?_
    rintro e w' ⟨rfl, rfl⟩
    exact ⟨rfl, Below.refl _ _⟩
  · rw [if_neg h]
    obtain ⟨k', rfl⟩ : ∃ k' : Nat, k = k' := ⟨k.toNat, by omega⟩
    exact octet_fixed n k' hn (by omega) (by omega) w
theorem ref02_fixed_any (n : Nat) (k : Int) (hn : n < 18446744073709551616) (w : World) :
    Calls Tryz.prog 27 #[.int .u64 n, .int .i64 k] w fun e w' => e = .returned (.string (str (fixAny n k))) ∧ Below w.heap.size w w' := by
  unfold fixAny
  by_cases h : k < 1 ∨ 8 < k
  · rw [if_pos h]
    refine (ref02_fixed_out n k h w).mono ?_
    rintro e w' ⟨rfl, rfl⟩
    exact ⟨rfl, Below.refl _ _⟩
  · rw [if_neg h]
    obtain ⟨k', rfl⟩ : ∃ k' : Nat, k = k' := ⟨k.toNat, by omega⟩
    exact ref02_fixed n k' hn (by omega) (by omega) w
theorem octet_var_any (n : Int) (hn : n ≤ 9223372036854775807) (w : World) :
    Calls Tryz.prog 24 #[.int .i64 n] w fun e w' => e = .returned (.string (str (varAny n))) ∧ Below w.heap.size w w' := by
  unfold varAny
  by_cases h : n < 0
  · rw [if_pos h]
    refine (octet_var_neg n h w).mono ?_
    rintro e w' ⟨rfl, rfl⟩
    exact ⟨rfl, Below.refl _ _⟩
  · rw [if_neg h]
    obtain ⟨n', rfl⟩ : ∃ n' : Nat, n = n' := ⟨n.toNat, by omega⟩
    exact octet_var n' (by omega) w
theorem ref02_var_any (n : Int) (hn : n ≤ 9223372036854775807) (w : World) :
    Calls Tryz.prog 28 #[.int .i64 n] w fun e w' => e = .returned (.string (str (varAny n))) ∧ Below w.heap.size w w' := by
  unfold varAny
  by_cases h : n < 0
  · rw [if_pos h]
    refine (ref02_var_neg n h w).mono ?_
    rintro e w' ⟨rfl, rfl⟩
    exact ⟨rfl, Below.refl _ _⟩
  · rw [if_neg h]
    obtain ⟨n', rfl⟩ : ∃ n' : Nat, n = n' := ⟨n.toNat, by omega⟩
    exact ref02_var n' (by omega) w
end Go.Proofs.YtcibeiehdjekiaaGreatDoor

/-! CursorMath -/
namespace Go.Proofs.YtcibeiehdjekiaaGreatDoor.Oct
set_option linter.unusedVariables false
set_option linter.unusedSimpArgs false

/-- The number that bytes make, the highest one first. -/
def numFrom : Nat → List UInt8 → Nat
  | n, [] => n
  | n, b :: r => numFrom (n * 256 + b.toNat) r
theorem numFrom_append (n : Nat) (a b : List UInt8) : numFrom n (a ++ b) = numFrom (numFrom n a) b := by
  induction a generalizing n with
  | nil => rfl
  | cons x r ih => exact ih _
theorem numFrom_lt (n : Nat) (l : List UInt8) : numFrom n l < (n + 1) * 256 ^ l.length := by
  induction l generalizing n with
  | nil => simp [numFrom]
  | cons x r ih =>
    have h := ih (n * 256 + x.toNat)
    have hx := x.toNat_lt
    have h2 : (n * 256 + x.toNat + 1) * 256 ^ r.length ≤ (n + 1) * 256 * 256 ^ r.length := Nat.mul_le_mul_right _ (by omega)
    rw [List.length_cons, Nat.pow_succ, Nat.mul_comm (256 ^ r.length) 256, ← Nat.mul_assoc]
    exact Nat.lt_of_lt_of_le h h2
theorem numFrom_fixB (n k : Nat) : numFrom 0 (fixB n k) = n % 256 ^ k := by
  induction k generalizing n with
  | zero => simp [fixB, numFrom, Nat.mod_one]
  | succ k ih =>
    rw [fixB, numFrom_append, ih]
    simp only [numFrom]
    have e : (UInt8.ofNat (n % 256)).toNat = n % 256 := by simp
    rw [e, Nat.pow_succ, Nat.mul_comm (256 ^ k) 256, Nat.mod_mul, Nat.mul_comm]
    omega

/-- The number that bytes make, seven bits of each, the lowest first. -/
def valB : List UInt8 → Nat
  | [] => 0
  | b :: r => b.toNat % 128 + 128 * valB r
theorem valB_lt (l : List UInt8) : valB l < 128 ^ l.length := by
  induction l with
  | nil => simp [valB]
  | cons b r ih =>
    rw [valB, List.length_cons, Nat.pow_succ]
    have := Nat.mod_lt b.toNat (show 128 > 0 by decide)
    omega
theorem valB_varB (n : Nat) : valB (varB n) = n := by
  induction n using Nat.strongRecOn with
  | ind n ih =>
    by_cases h : n < 128
    · rw [varB_lt h, valB, valB]
      have e : (UInt8.ofNat n).toNat = n := by simp; omega
      rw [e]; omega
    · rw [varB_ge h, valB, ih _ (by omega)]
      have e : (UInt8.ofNat (n % 128 + 128)).toNat = n % 128 + 128 := by simp; omega
      rw [e]; omega

/-- All are marked. -/
def Marked (l : List UInt8) : Prop := ∀ b ∈ l, 128 ≤ b.toNat
theorem varB_marked (n : Nat) : ∃ p z, varB n = p ++ [z] ∧ Marked p ∧ z.toNat < 128 ∧ (p = [] ∨ z.toNat ≠ 0) := by
  induction n using Nat.strongRecOn with
  | ind n ih =>
    by_cases h : n < 128
    · refine ⟨[], UInt8.ofNat n, by rw [varB_lt h]; rfl, fun b hb => by simp at hb, by simp; omega, .inl rfl⟩
    · obtain ⟨p, z, he, hp, hz, hpz⟩ := ih (n / 128) (by omega)
      refine ⟨UInt8.ofNat (n % 128 + 128) :: p, z, by rw [varB_ge h, he]; rfl, ?_, hz, .inr ?_⟩
      · intro b hb
        rcases List.mem_cons.1 hb with rfl | hb
        · simp; omega
        · exact hp b hb
      · rcases hpz with rfl | hpz
        · intro h0
          have hv := valB_varB (n / 128)
          rw [he] at hv
          simp [valB, h0] at hv
          omega
        · exact hpz

theorem varB_valB (p : List UInt8) (z : UInt8) (hp : Marked p) (hz : z.toNat < 128) (h : p = [] ∨ z.toNat ≠ 0) : varB (valB (p ++ [z])) = p ++ [z] := by
  induction p with
  | nil =>
    have e : valB ([] ++ [z]) = z.toNat := by simp [valB]; omega
    rw [e, varB_lt hz]; simp
  | cons b r ih =>
    have hz0 : z.toNat ≠ 0 := by
      rcases h with h | h
      · cases h
      · exact h
    have ih' := ih (fun x hx => hp x (by simp [hx])) (.inr hz0)
    have hb := hp b (by simp)
    have hb2 := b.toNat_lt
    have hpos : ∀ r : List UInt8, 0 < valB (r ++ [z]) := by
      intro r
      induction r with
      | nil => simp [valB]; omega
      | cons x r ih => simp only [List.cons_append, valB]; omega
    have hp0 := hpos r
    have e : valB (b :: r ++ [z]) = b.toNat % 128 + 128 * valB (r ++ [z]) := rfl
    rw [e, varB_ge (by omega)]
    have e1 : (b.toNat % 128 + 128 * valB (r ++ [z])) % 128 + 128 = b.toNat := by omega
    have e2 : (b.toNat % 128 + 128 * valB (r ++ [z])) / 128 = valB (r ++ [z]) := by omega
    rw [e1, e2, ih']
    simp

/-- Bytes that no number has: their last is nothing, and it is not the first. -/
theorem varB_bad (p : List UInt8) (z : UInt8) (n : Nat) (h : varB n = p ++ [z]) : p = [] ∨ z.toNat ≠ 0 := by
  obtain ⟨p', z', he, _, _, hpz⟩ := varB_marked n
  rw [h] at he
  obtain ⟨rfl, h2⟩ := List.append_inj' he rfl
  injection h2 with h2
  subst h2
  exact hpz

/-- Where the first byte that is not marked lies. -/
def endOf : List UInt8 → Nat
  | [] => 0
  | b :: r => if b.toNat < 128 then 0 else endOf r + 1
theorem endOf_le (l : List UInt8) : endOf l ≤ l.length := by
  induction l with
  | nil => simp [endOf]
  | cons b r ih => rw [endOf]; split <;> simp <;> omega
theorem endOf_marked (l : List UInt8) (j : Nat) (hj : j < endOf l) : 128 ≤ (l.getD j 0).toNat := by
  induction l generalizing j with
  | nil => simp [endOf] at hj
  | cons b r ih =>
    rw [endOf] at hj
    split at hj
    · omega
    · cases j with
      | zero => simp; omega
      | succ j => simpa using ih j (by omega)
theorem endOf_end (l : List UInt8) (h : endOf l < l.length) : (l.getD (endOf l) 0).toNat < 128 := by
  induction l with
  | nil => simp at h
  | cons b r ih =>
    by_cases hb : b.toNat < 128
    · simp [endOf, hb]
    · have e : endOf (b :: r) = endOf r + 1 := by simp [endOf, hb]
      rw [e] at h ⊢
      simpa using ih (by simpa using h)
/-- The end's place is told by what lies ahead of it and there. -/
theorem endOf_eq (l : List UInt8) (k : Nat) (hk : k ≤ l.length) (h1 : ∀ j, j < k → 128 ≤ (l.getD j 0).toNat) (h2 : k = l.length ∨ (l.getD k 0).toNat < 128) : endOf l = k := by
  induction l generalizing k with
  | nil => simp at hk; simp [endOf, hk]
  | cons b r ih =>
    cases k with
    | zero =>
      rcases h2 with h2 | h2
      · simp at h2
      · simp at h2; simp [endOf]; omega
    | succ k =>
      have hb := h1 0 (by omega)
      simp at hb
      rw [endOf, if_neg (by omega), ih k (by simpa using hk) (fun j hj => by simpa using h1 (j + 1) (by omega)) (by simpa using h2)]

/-- What is taken as a number: 0, how many bytes it has; 1: too short; 2: no form. -/
inductive Took where
  | short
  | form
  | num (n size : Nat)
def takeVar (l : List UInt8) : Took :=
  if endOf l = l.length then .short
  else if 9 ≤ endOf l ∨ (0 < endOf l ∧ (l.getD (endOf l) 0).toNat = 0) then .form
  else .num (valB (l.take (endOf l + 1))) (endOf l + 1)
theorem take_end (l : List UInt8) (h : endOf l < l.length) : ∃ p z, l.take (endOf l + 1) = p ++ [z] ∧ p.length = endOf l ∧ Marked p ∧ z.toNat < 128 ∧ z = l.getD (endOf l) 0 := by
  refine ⟨l.take (endOf l), l.getD (endOf l) 0, ?_, by simp; omega, ?_, endOf_end l h, rfl⟩
  · rw [List.take_succ_eq_append_getElem h, List.getD_eq_getElem?_getD, List.getElem?_eq_getElem h]; rfl
  · intro b hb
    obtain ⟨j, hj, rfl⟩ := List.getElem_of_mem hb
    have hj' : j < endOf l := by simp at hj; omega
    have := endOf_marked l j hj'
    rw [List.getD_eq_getElem?_getD, List.getElem?_eq_getElem (by omega)] at this
    simpa using this
theorem takeVar_num (l : List UInt8) (n s : Nat) (h : takeVar l = .num n s) : s ≤ l.length ∧ 1 ≤ s ∧ s ≤ 9 ∧ n = valB (l.take s) ∧ n ≤ 9223372036854775807 ∧ varB n = l.take s := by
  have hle := endOf_le l
  unfold takeVar at h
  split at h
  · cases h
  · split at h
    · cases h
    · rename_i h1 h2
      injection h with h3 h4
      subst h3 h4
      obtain ⟨p, z, e1, e2, e3, e4, e5⟩ := take_end l (by omega)
      refine ⟨by omega, by omega, by omega, rfl, ?_, ?_⟩
      · have := valB_lt (l.take (endOf l + 1))
        have e : (l.take (endOf l + 1)).length ≤ 9 := by rw [List.length_take]; omega
        have : (128 : Nat) ^ (l.take (endOf l + 1)).length ≤ 128 ^ 9 := Nat.pow_le_pow_right (by decide) e
        have : (128 : Nat) ^ 9 = 9223372036854775808 := by decide
        omega
      · rw [e1]
        refine varB_valB p z e3 e4 ?_
        by_cases hp : p = []
        · exact .inl hp
        · right
          intro hz
          have : p.length ≠ 0 := fun h => hp (List.eq_nil_of_length_eq_zero h)
          exact h2 (.inr ⟨by omega, by rw [← e5]; exact hz⟩)
theorem takeVar_varB (n : Nat) (hn : n ≤ 9223372036854775807) (r : List UInt8) : takeVar (varB n ++ r) = .num n (varB n).length := by
  obtain ⟨p, z, he, hp, hz, hpz⟩ := varB_marked n
  have hlen := varB_nine n hn
  have hl : (varB n).length = p.length + 1 := by rw [he]; simp
  have hend : endOf (varB n ++ r) = p.length := by
    apply endOf_eq
    · simp; omega
    · intro j hj
      rw [he, List.append_assoc, List.getD_eq_getElem?_getD, List.getElem?_append_left hj, List.getElem?_eq_getElem hj]
      exact hp _ (List.getElem_mem _)
    · right
      rw [he, List.append_assoc, List.getD_eq_getElem?_getD, List.getElem?_append_right (Nat.le_refl _)]
      simpa using hz
  unfold takeVar
  rw [hend, if_neg (by rw [List.length_append, hl]; omega), if_neg]
  · rw [← hl, List.take_left, valB_varB]
  · rintro (h | ⟨h1, h2⟩)
    · omega
    · rw [he, List.append_assoc, List.getD_eq_getElem?_getD, List.getElem?_append_right (Nat.le_refl _)] at h2
      simp at h2
      rcases hpz with rfl | hpz
      · simp at h1
      · exact hpz (by rw [h2])

/-- How many bytes a number has that begins there; 0: it has no end. -/
def sizeN (l : List UInt8) : Nat := if endOf l = l.length then 0 else endOf l + 1
theorem sizeN_none {l : List UInt8} (h : endOf l = l.length) : sizeN l = 0 := if_pos h
theorem sizeN_some {l : List UInt8} (h : ¬ endOf l = l.length) : sizeN l = endOf l + 1 := if_neg h
theorem sizeN_le (l : List UInt8) : sizeN l ≤ l.length := by
  have := endOf_le l
  unfold sizeN; split <;> omega
theorem takeVar_cases (l : List UInt8) :
    (sizeN l = 0 ∧ takeVar l = .short) ∨ (9 < sizeN l ∧ takeVar l = .form) ∨
    (1 < sizeN l ∧ sizeN l ≤ 9 ∧ (l.getD (sizeN l - 1) 0).toNat = 0 ∧ takeVar l = .form) ∨
    (1 ≤ sizeN l ∧ sizeN l ≤ 9 ∧ ¬ (1 < sizeN l ∧ (l.getD (sizeN l - 1) 0).toNat = 0) ∧ takeVar l = .num (valB (l.take (sizeN l))) (sizeN l)) := by
  unfold takeVar
  by_cases h : endOf l = l.length
  · rw [sizeN_none h, if_pos h]; exact .inl ⟨rfl, rfl⟩
  · rw [sizeN_some h, if_neg h, Nat.add_sub_cancel]
    by_cases h1 : 9 ≤ endOf l
    · rw [if_pos (.inl h1)]; exact .inr (.inl ⟨by omega, rfl⟩)
    · by_cases h2 : 0 < endOf l ∧ (l.getD (endOf l) 0).toNat = 0
      · rw [if_pos (.inr h2)]; exact .inr (.inr (.inl ⟨by omega, by omega, h2.2, rfl⟩))
      · rw [if_neg (fun h => h.elim h1 h2)]
        exact .inr (.inr (.inr ⟨by omega, by omega, fun h => h2 ⟨by omega, h.2⟩, rfl⟩))
/-- The number from the end on: what a loop from the last byte down has reckoned. -/
def valFrom (l : List UInt8) (k : Nat) : Nat := valB (l.drop k)
theorem valFrom_step (l : List UInt8) (k : Nat) (h : k < l.length) : valFrom l k = (l.getD k 0).toNat % 128 + 128 * valFrom l (k + 1) := by
  unfold valFrom
  rw [List.drop_eq_getElem_cons h, valB, List.getD_eq_getElem?_getD, List.getElem?_eq_getElem h]
  rfl
theorem valFrom_end (l : List UInt8) : valFrom l l.length = 0 := by simp [valFrom, valB]
theorem valFrom_all (l : List UInt8) : valFrom l 0 = valB l := by simp [valFrom]
theorem valFrom_lt (l : List UInt8) (k : Nat) (h : l.length ≤ 9) : valFrom l (k + 1) < 72057594037927936 := by
  have := valB_lt (l.drop (k + 1))
  have e : (l.drop (k + 1)).length ≤ 8 := by rw [List.length_drop]; omega
  have : (128 : Nat) ^ (l.drop (k + 1)).length ≤ 128 ^ 8 := Nat.pow_le_pow_right (by decide) e
  have : (128 : Nat) ^ 8 = 72057594037927936 := by decide
  unfold valFrom
  omega

theorem u8_and127 (n : Nat) (h : n < 256) : bits BinOp.and IntKind.u8 (n : Int) 127 = ((n % 128 : Nat) : Int) := by
  have key := (bits_nat .u8 8 (by decide) (fun m h0 h1 => by rw [IntKind.wrap_u8]; have : (2 : Int) ^ 8 = 256 := by decide
                                                             omega) n 127 (by have : (2 : Nat) ^ 8 = 256 := by decide
                                                                              omega) (by decide)).1
  have e : n &&& 127 = n % 128 := Nat.and_two_pow_sub_one_eq_mod n 7
  rw [e] at key
  exact key
theorem or_low (v r : Nat) (hv : v < 72057594037927936) (hr : r < 128) : bits BinOp.or IntKind.i64 ((128 * v : Nat) : Int) (r : Int) = ((r + 128 * v : Nat) : Int) := by
  have p63 : (2 : Nat) ^ 63 = 9223372036854775808 := by decide
  have i63 : (2 : Int) ^ 63 = 9223372036854775808 := by decide
  have hw : ∀ m : Int, 0 ≤ m → m < 2 ^ 63 → IntKind.i64.wrap m = m := by
    intro m h0 h1
    rw [IntKind.wrap_i64]
    omega
  have key := (bits_nat .i64 63 (by decide) hw (128 * v) r (by omega) (by omega)).2
  have e : 128 * v ||| r = r + 128 * v := by
    have := Nat.two_pow_add_eq_or_of_lt (i := 7) (b := r) hr v
    rw [show (2 : Nat) ^ 7 = 128 by decide] at this
    omega
  rw [e] at key
  exact key
end Go.Proofs.YtcibeiehdjekiaaGreatDoor.Oct

/-! Cursor -/
namespace Go.Proofs.YtcibeiehdjekiaaGreatDoor
open Go.RowKit
set_option linter.unusedVariables false
set_option linter.unusedSimpArgs false

/-- A cursor over s at a place. -/
def Cur (w : World) (b : Nat) (s : ByteArray) (a : Nat) : Prop := Blk w b #[.string s, .int .i64 a] 101
/-- What is left. -/
def rest (s : ByteArray) (a : Nat) : List UInt8 := s.data.toList.drop a
theorem rest_length (s : ByteArray) (a : Nat) : (rest s a).length = s.size - a := by unfold rest; rw [List.length_drop]; rfl
theorem Cur.s {w : World} {b : Nat} {s : ByteArray} {a : Nat} (h : Cur w b s a) : w.cell? ⟨b, 0, none⟩ = some (.string s) := Blk.cell h rfl
theorem Cur.a {w : World} {b : Nat} {s : ByteArray} {a : Nat} (h : Cur w b s a) : w.cell? ⟨b, 1, none⟩ = some (.int .i64 a) := Blk.cell h rfl

theorem extract_take (s : ByteArray) (a k : Nat) : s.extract a (a + k) = str ((rest s a).take k) := by
  apply ByteArray.ext
  apply Array.ext'
  simp [str, rest, ByteArray.data_extract, List.extract_eq_take_drop]
theorem rest_get (s : ByteArray) (a j : Nat) (h : a + j < s.size) : s[a + j].toNat = ((rest s a).getD j 0).toNat := by
  have e : (rest s a)[j]? = some s[a + j] := by
    unfold rest
    rw [List.getElem?_drop, List.getElem?_eq_getElem (by exact h)]
    rfl
  rw [List.getD_eq_getElem?_getD, e]; rfl
theorem octet_new (s : ByteArray) (w : World) : Calls Tryz.prog 44 #[.string s] w fun e w' => e = .returned (.pointer (some ⟨w.heap.size, 0, none⟩)) ∧ Cur w' w.heap.size s 0 ∧ Below w.heap.size w w' ∧ w'.heap.size = w.heap.size + 1 := by
  go_enter Tryz.func44, Tryz.ntmps44
  go_wp2
  go_ret
  refine ⟨rfl, ?_, by go_grown, by simp⟩
  exact Blk.new w _ _

theorem cur_left (b : Nat) (s : ByteArray) (a : Nat) (hs : s.size ≤ maxLen) (ha : a ≤ s.size) (w : World) (h : Cur w b s a) :
    Calls Tryz.prog 47 #[.pointer (some ⟨b, 0, none⟩)] w fun e w' => e = .returned (.int .i64 ((s.size - a : Nat) : Int)) ∧ w.drew = w' := by
  have h0 := h.s
  have h1 := h.a
  have hs' : (s.size : Int) ≤ 9223372036854775807 := by unfold maxLen at hs; omega
  have hw : IntKind.i64.wrap ((s.size : Int) - (a : Int)) = ((s.size - a : Nat) : Int) := by rw [IntKind.wrap_i64]; omega
  go_enter Tryz.func47, Tryz.ntmps47
  go_wp2_with fail
  go_region
  go_wp2
  go_ret
  exact ⟨rfl, rfl⟩
theorem nil_left (w : World) :
    Calls Tryz.prog 47 #[.pointer none] w fun e w' => e = .returned (.int .i64 0) ∧ w = w' := by
  go_enter Tryz.func47, Tryz.ntmps47
  go_wp2
  go_ret
  exact ⟨rfl, rfl⟩
theorem cur_step (b : Nat) (s : ByteArray) (a k : Nat) (hs : s.size ≤ maxLen) (ha : a + k ≤ s.size) (w : World) (h : Cur w b s a) :
    Calls Tryz.prog 69 #[.pointer (some ⟨b, 0, none⟩), .int .i64 k] w fun e w' => e = .returned (.string (str ((rest s a).take k))) ∧ Cur w' b s (a + k) ∧ w.grownBy w' (some b) ∧ w'.heap.size = w.heap.size := by
  have h0 := h.s
  have h1 := h.a
  have hf := Blk.free h 1
  have hs' : (s.size : Int) ≤ 9223372036854775807 := by unfold maxLen at hs; omega
  have hw : IntKind.i64.wrap ((a : Int) + (k : Int)) = (a : Int) + k := by rw [IntKind.wrap_i64]; omega
  have hk0 : (a : Int) ≤ (a : Int) + k := by omega
  have hk1 : (a : Int) + k ≤ (s.size : Int) := by omega
  go_enter Tryz.func69, Tryz.ntmps69
  go_wp2_with fail
  go_region
  go_wp2
  go_ret
  refine ⟨by rw [extract_take]; rfl, ?_, gby_drew (gby_set (gby_refl _ _) _ _), by simp⟩
  exact (Blk.set h 1 (.int .i64 ((a + k : Nat) : Int))).drew
set_option maxRecDepth 100000 in
set_option maxHeartbeats 800000 in
theorem cur_size (b : Nat) (s : ByteArray) (a : Nat) (hs : s.size ≤ maxLen) (ha : a ≤ s.size) (w : World) (h : Cur w b s a) :
    Calls Tryz.prog 85 #[.pointer (some ⟨b, 0, none⟩)] w fun e w' => e = .returned (.int .i64 (Oct.sizeN (rest s a) : Nat)) ∧ ∃ m, w' = w.drewN m := by
  have h0 := h.s
  have h1 := h.a
  have hs' : (s.size : Int) ≤ 9223372036854775807 := by unfold maxLen at hs; omega
  go_enter Tryz.func85, Tryz.ntmps85
  go_wp2_with (go_at_call 47; refine (cur_left b s a hs ha _ h).mono ?_; rintro e w1 ⟨rfl, rfl⟩)
  go_loopg [3, 6] (s.size - a) (fun g x i wr => ∃ (j m : Nat), j ≤ s.size - a ∧ g = s.size - a - j ∧ i = .int .i64 j ∧ wr = w.drewN m ∧ Hid (∀ k, k < j → 128 ≤ ((rest s a).getD k 0).toNat))
  case atStart => exact ⟨0, 1, by omega, rfl, rfl, rfl, Lib.hid (fun k hk => by omega)⟩
  case round =>
    obtain ⟨j, m, hj, hg, rfl, rfl, HM⟩ := hrel
    have hg := hg.symm
    subst hg
    by_cases hlt : j < s.size - a
    · have hw : IntKind.i64.wrap ((a : Int) + (j : Int)) = (a : Int) + j := by rw [IntKind.wrap_i64]; omega
      have hk0 : (0 : Int) ≤ (a : Int) + j := by omega
      have hk1 : (a : Int) + j < (s.size : Int) := by omega
      have hx := rest_get s a j (by omega)
      have HX := Lib.hid (show ((rest s a).getD j 0).toNat = ((rest s a).getD j 0).toNat from rfl)
      obtain ⟨x, HX⟩ : ∃ x, Hid (((rest s a).getD j 0).toNat = x) := ⟨_, Lib.hid rfl⟩
      rw [HX.out] at hx
      by_cases hlx : x < 128
      · have he : Oct.endOf (rest s a) = j := Oct.endOf_eq _ j (by rw [rest_length]; omega) HM.out (.inr (by rw [HX.out]; exact hlx))
        have HE := Lib.hid he
        clear he
        go_wp2_with fail
        go_region
        go_wp2_with fail
        go_ret
        exact ⟨by rw [Oct.sizeN_some (by rw [HE.out, rest_length]; omega), HE.out]; rfl, _, rfl⟩
      · go_wp2_with fail
        go_region
        go_wp2_with fail
        go_roundg (s.size - a - (j + 1))
        case measure => omega
        case rel =>
          refine ⟨j + 1, m + 1, by omega, rfl, by go_num, rfl, Lib.hid (fun k hk => ?_)⟩
          by_cases hkj : k = j
          · subst hkj; rw [HX.out]; omega
          · exact HM.out k (by omega)
    · obtain rfl : j = s.size - a := by omega
      have he : Oct.endOf (rest s a) = s.size - a := Oct.endOf_eq _ _ (by rw [rest_length]; omega) HM.out (.inl (rest_length s a).symm)
      have HE := Lib.hid he
      clear he
      go_wp2_with fail
      go_ret
      exact ⟨by rw [Oct.sizeN_none (by rw [HE.out, rest_length])]; rfl, _, rfl⟩

theorem nil_size (w : World) :
    Calls Tryz.prog 85 #[.pointer none] w fun e w' => e = .returned (.int .i64 0) ∧ ∃ m, w' = w.drewN m := by
  go_enter Tryz.func85, Tryz.ntmps85
  go_wp2_with (go_at_call 47; refine (nil_left _).mono ?_; rintro e w1 ⟨rfl, rfl⟩)
  refine wp_loop_rounds 1 ?_
  rw [rounds_succ]
  go_wp2_with fail
  go_ret
  exact ⟨rfl, 0, rfl⟩

/-- What peek and Var answer. -/
def tookVal : Oct.Took → Value
  | .short => .tuple #[.int .i64 0, .int .i64 0, .int .i64 3]
  | .form => .tuple #[.int .i64 0, .int .i64 0, .int .i64 2]
  | .num n k => .tuple #[.int .i64 n, .int .i64 k, .int .i64 0]
set_option maxRecDepth 100000 in
set_option maxHeartbeats 1600000 in
theorem cur_peek (b : Nat) (s : ByteArray) (a : Nat) (hs : s.size ≤ maxLen) (ha : a ≤ s.size) (w : World) (h : Cur w b s a) :
    Calls Tryz.prog 70 #[.pointer (some ⟨b, 0, none⟩)] w fun e w' => e = .returned (tookVal (Oct.takeVar (rest s a))) ∧ ∃ m, w' = w.drewN m := by
  have h0 := h.s
  have h1 := h.a
  have hs' : (s.size : Int) ≤ 9223372036854775807 := by unfold maxLen at hs; omega
  have hle := Oct.sizeN_le (rest s a)
  rw [rest_length] at hle
  have HS := cur_size b s a hs ha w h
  obtain ⟨z, HZ⟩ : ∃ z, Hid (Oct.sizeN (rest s a) = z) := ⟨_, Lib.hid rfl⟩
  rcases Oct.takeVar_cases (rest s a) with ⟨hz, ht⟩ | ⟨hz, ht⟩ | ⟨hz, hz9, hl, ht⟩ | ⟨hz, hz9, hl, ht⟩
  · rw [hz, show ((0 : Nat) : Int) = 0 from rfl] at HS
    rw [ht]
    have HS := Lib.hid HS
    clear hz hle ht
    go_enter Tryz.func70, Tryz.ntmps70
    go_wp2_with (go_at_call 85; refine HS.out.mono ?_; rintro e w1 ⟨rfl, m, rfl⟩)
    go_ret3
    exact ⟨rfl, m, rfl⟩
  · rw [HZ.out] at HS hz hle
    rw [ht]
    have HS := Lib.hid HS
    have hz0 : ((z : Int) == 0) = false := by simp; omega
    have hz9 : (9 : Int) < (z : Int) := by omega
    clear ht
    go_enter Tryz.func70, Tryz.ntmps70
    go_wp2_with (go_at_call 85; refine HS.out.mono ?_; rintro e w1 ⟨rfl, m, rfl⟩)
    go_region
    go_wp2_with fail
    go_ret3
    exact ⟨rfl, m + 1, rfl⟩
  · rw [HZ.out] at HS hz hz9 hle hl
    obtain ⟨y, rfl⟩ : ∃ y, z = y + 1 := ⟨z - 1, by omega⟩
    rw [ht]
    rw [show ((y + 1 : Nat) : Int) = (y : Int) + 1 from rfl] at HS
    have HS := Lib.hid HS
    clear ht
    have hx := rest_get s a y (by omega)
    rw [Nat.add_sub_cancel] at hl
    rw [hl] at hx
    have hz0 : ((y : Int) + 1 == 0) = false := by simp; omega
    have hw1 : IntKind.i64.wrap ((a : Int) + ((y : Int) + 1)) = (a : Int) + ((y : Int) + 1) := by rw [IntKind.wrap_i64]; omega
    have hw2 : IntKind.i64.wrap ((a : Int) + ((y : Int) + 1) - 1) = (a : Int) + y := by rw [IntKind.wrap_i64]; omega
    have hk0 : (0 : Int) ≤ (a : Int) + y := by omega
    have hk1 : (a : Int) + y < (s.size : Int) := by omega
    have hy9 : decide ((9 : Int) < (y : Int) + 1) = false := by simp; omega
    have hy1 : decide ((1 : Int) < (y : Int) + 1) = true := by simp; omega
    go_enter Tryz.func70, Tryz.ntmps70
    go_wp2_with (go_at_call 85; refine HS.out.mono ?_; rintro e w1 ⟨rfl, m, rfl⟩)
    go_region
    go_wp2_with fail
    go_ret3
    exact ⟨rfl, m + 1, rfl⟩
  · rw [HZ.out] at HS hz hz9 hle hl
    obtain ⟨y, rfl⟩ : ∃ y, z = y + 1 := ⟨z - 1, by omega⟩
    rw [ht]
    rw [show ((y + 1 : Nat) : Int) = (y : Int) + 1 from rfl] at HS
    have HS := Lib.hid HS
    clear ht
    have hx := rest_get s a y (by omega)
    rw [Nat.add_sub_cancel] at hl
    obtain ⟨x, HX⟩ : ∃ x, Hid (((rest s a).getD y 0).toNat = x) := ⟨_, Lib.hid rfl⟩
    rw [HX.out] at hx hl
    have hz0 : ((y : Int) + 1 == 0) = false := by simp; omega
    have hw1 : IntKind.i64.wrap ((a : Int) + ((y : Int) + 1)) = (a : Int) + ((y : Int) + 1) := by rw [IntKind.wrap_i64]; omega
    have hw2 : IntKind.i64.wrap ((a : Int) + ((y : Int) + 1) - 1) = (a : Int) + y := by rw [IntKind.wrap_i64]; omega
    have hk0 : (0 : Int) ≤ (a : Int) + y := by omega
    have hk1 : (a : Int) + y < (s.size : Int) := by omega
    have hy9 : decide ((9 : Int) < (y : Int) + 1) = false := by simp; omega
    go_enter Tryz.func70, Tryz.ntmps70
    go_wp2_with (go_at_call 85; refine HS.out.mono ?_; rintro e w1 ⟨rfl, m, rfl⟩)
    go_upto_region 6 with fail
    go_cut [13] (fun s13 wx => s13 = .bool false ∧ ∃ m', wx = w.drewN m')
    case first =>
      by_cases hy : y = 0
      · have hy1 : decide ((1 : Int) < (y : Int) + 1) = false := by simp; omega
        clear hy
        go_region
        go_wp2_with fail
        go_meet
        exact ⟨rfl, m + 1, rfl⟩
      · have hy1 : decide ((1 : Int) < (y : Int) + 1) = true := by simp; omega
        have hx0 : ((x : Int) == 0) = false := by
          have : x ≠ 0 := fun h => hl ⟨by omega, h⟩
          simp; omega
        clear hy
        go_region
        go_wp2_with fail
        go_meet
        exact ⟨rfl, m + 1, rfl⟩
    case rest =>
      obtain ⟨rfl, m', rfl⟩ := hcut
      go_wp2_with fail
      clear hw1 hw2 hx hk0 hk1 hy9
      obtain ⟨l, HL⟩ : ∃ l, Hid (l = (rest s a).take (y + 1)) := ⟨_, Lib.hid rfl⟩
      have hll : l.length = y + 1 := by rw [HL.out, List.length_take, rest_length]; omega
      go_loopg [6, 7] (y + 1) (fun g n i wr => ∃ (k q v : Nat), k ≤ y + 1 ∧ g = k ∧ i = .int .i64 ((k : Int) - 1) ∧ n = .int .i64 v ∧ v = Oct.valFrom l k ∧ wr = w.drewN q)
      case atStart =>
        refine ⟨y + 1, m', 0, by omega, rfl, by go_num, rfl, ?_, rfl⟩
        rw [← hll, Oct.valFrom_end]
      case round =>
        obtain ⟨k, q, v, hk, hg, rfl, rfl, hv, rfl⟩ := hrel
        have hg := hg.symm
        subst hg
        by_cases h0 : k = 0
        · subst h0
          have HV := Lib.hid hv
          clear hv
          go_wp2_with fail
          go_ret3
          refine ⟨?_, q, rfl⟩
          rw [HV.out, Oct.valFrom_all, HL.out, HZ.out]
          rfl
        · obtain ⟨j, rfl⟩ : ∃ j, k = j + 1 := ⟨k - 1, by omega⟩
          have hw1 : IntKind.i64.wrap ((a : Int) + (j : Int)) = (a : Int) + j := by rw [IntKind.wrap_i64]; omega
          have hk0 : (0 : Int) ≤ (a : Int) + j := by omega
          have hk1 : (a : Int) + j < (s.size : Int) := by omega
          have hx := rest_get s a j (by omega)
          have hst := Oct.valFrom_step l j (by omega)
          have hlt := Oct.valFrom_lt l j (by omega)
          have hgl : (l.getD j 0) = (rest s a).getD j 0 := by
            rw [HL.out, List.getD_eq_getElem?_getD, List.getD_eq_getElem?_getD, List.getElem?_take_of_lt (by omega)]
          rw [hgl, ← hv] at hst
          rw [← hv] at hlt
          obtain ⟨t, HT⟩ : ∃ t, Hid (((rest s a).getD j 0).toNat = t) := ⟨_, Lib.hid rfl⟩
          rw [HT.out] at hx hst
          have ht : t < 256 := by rw [← HT.out]; exact UInt8.toNat_lt _
          have HST := Lib.hid hst
          have HV := Lib.hid hv
          clear hst hv hgl
          obtain ⟨r, hr⟩ : ∃ r, r = t % 128 := ⟨_, rfl⟩
          obtain ⟨p, hp⟩ : ∃ p, p = 128 * v := ⟨_, rfl⟩
          obtain ⟨v', hv'⟩ : ∃ v', v' = r + p := ⟨_, rfl⟩
          have b1 : bits BinOp.and IntKind.u8 (t : Int) 127 = (r : Int) := by rw [Oct.u8_and127 t ht, hr]
          have b2 : IntKind.i64.wrap ((v : Int) * 128) = (p : Int) := by rw [IntKind.wrap_i64]; omega
          have b3 : bits BinOp.or IntKind.i64 (p : Int) (r : Int) = (v' : Int) := by rw [hp, Oct.or_low v r hlt (by omega), hv', hp]
          have b4 : IntKind.i64.wrap (r : Int) = (r : Int) := by rw [IntKind.wrap_i64]; omega
          have HV' := Lib.hid (show v' = Oct.valFrom l j by rw [HST.out, hv', hr, hp])
          clear hr hp hv'
          go_wp2_with fail
          go_region
          go_wp2_with fail
          go_roundg j
          case measure => omega
          case rel => exact ⟨j, q + 1, v', by omega, rfl, by go_num, rfl, HV'.out, rfl⟩

theorem nil_peek (w : World) :
    Calls Tryz.prog 70 #[.pointer none] w fun e w' => e = .returned (tookVal .short) ∧ ∃ m, w' = w.drewN m := by
  go_enter Tryz.func70, Tryz.ntmps70
  go_wp2_with (go_at_call 85; refine (nil_size _).mono ?_; rintro e w1 ⟨rfl, m, rfl⟩)
  go_ret3
  exact ⟨rfl, m, rfl⟩
theorem nil_var (w : World) :
    Calls Tryz.prog 46 #[.pointer none] w fun e w' => e = .returned (.tuple #[.int .i64 0, .int .i64 3]) ∧ ∃ m, w' = w.drewN m := by
  go_enter Tryz.func46, Tryz.ntmps46
  go_wp2_with (go_at_call 70; refine (nil_peek _).mono ?_; rw [tookVal]; rintro e w1 ⟨rfl, m, rfl⟩)
  go_ret2
  exact ⟨rfl, m, rfl⟩

/-- What Var answers, and how many bytes are taken. -/
def varVal : Oct.Took → Value
  | .short => .tuple #[.int .i64 0, .int .i64 3]
  | .form => .tuple #[.int .i64 0, .int .i64 2]
  | .num n _ => .tuple #[.int .i64 n, .int .i64 0]
def tookLen : Oct.Took → Nat
  | .short => 0
  | .form => 0
  | .num _ k => k
/-- The cursor has gone on by so many bytes; nothing else has turned. -/
def Went (b : Nat) (s : ByteArray) (a : Nat) (w w' : World) : Prop := Cur w' b s a ∧ w.grownBy w' (some b) ∧ w'.heap.size = w.heap.size
theorem Cur.drewN {w : World} {b : Nat} {s : ByteArray} {a m : Nat} (h : Cur w b s a) : Cur (w.drewN m) b s a := h
theorem went_drewN {w : World} {b : Nat} {s : ByteArray} {a : Nat} (h : Cur w b s a) (m : Nat) : Went b s a w (w.drewN m) := ⟨h.drewN, gby_drewN (gby_refl _ _) _, rfl⟩

set_option maxRecDepth 100000 in
set_option maxHeartbeats 800000 in
theorem cur_var (b : Nat) (s : ByteArray) (a : Nat) (hs : s.size ≤ maxLen) (ha : a ≤ s.size) (w : World) (h : Cur w b s a) :
    Calls Tryz.prog 46 #[.pointer (some ⟨b, 0, none⟩)] w fun e w' => e = .returned (varVal (Oct.takeVar (rest s a))) ∧ Went b s (a + tookLen (Oct.takeVar (rest s a))) w w' := by
  have HP := cur_peek b s a hs ha w h
  cases ht : Oct.takeVar (rest s a) with
  | short =>
    rw [ht, tookVal] at HP
    have HP := Lib.hid HP
    clear ht
    go_enter Tryz.func46, Tryz.ntmps46
    go_wp2_with (go_at_call 70; refine HP.out.mono ?_; rintro e w1 ⟨rfl, m, rfl⟩)
    go_ret2
    exact ⟨rfl, went_drewN h m⟩
  | form =>
    rw [ht, tookVal] at HP
    have HP := Lib.hid HP
    clear ht
    go_enter Tryz.func46, Tryz.ntmps46
    go_wp2_with (go_at_call 70; refine HP.out.mono ?_; rintro e w1 ⟨rfl, m, rfl⟩)
    go_ret2
    exact ⟨rfl, went_drewN h m⟩
  | num n k =>
    rw [ht, tookVal] at HP
    have HP := Lib.hid HP
    have hk := (Oct.takeVar_num _ n k ht).1
    rw [rest_length] at hk
    clear ht
    go_enter Tryz.func46, Tryz.ntmps46
    go_wp2_with (go_at_call 70; refine HP.out.mono ?_; rintro e w1 ⟨rfl, m, rfl⟩)
    go_wp2_with (go_at_call 69; refine (cur_step b s a k hs (by omega) _ h.drewN).mono ?_; rintro e w2 ⟨rfl, hc, hg, hz⟩)
    go_ret2
    exact ⟨rfl, hc, gby_undrewN hg, hz⟩

/-- What Text answers of at most so many bytes, and how many bytes are taken. -/
def textVal (l : List UInt8) (most : Int) : Value :=
  match Oct.takeVar l with
  | .short => .tuple #[.string (str []), .int .i64 3]
  | .form => .tuple #[.string (str []), .int .i64 2]
  | .num n k => if most < n then .tuple #[.string (str []), .int .i64 9] else if l.length - k < n then .tuple #[.string (str []), .int .i64 3] else .tuple #[.string (str ((l.drop k).take n)), .int .i64 0]
def textLen (l : List UInt8) (most : Int) : Nat :=
  match Oct.takeVar l with
  | .short => 0
  | .form => 0
  | .num n k => if most < n then 0 else if l.length - k < n then 0 else k + n
theorem rest_drop (s : ByteArray) (a k : Nat) : rest s (a + k) = (rest s a).drop k := by unfold rest; rw [List.drop_drop]

end Go.Proofs.YtcibeiehdjekiaaGreatDoor

/-! CursorFixed -/
namespace Go.Proofs.YtcibeiehdjekiaaGreatDoor
open Go.RowKit
set_option linter.unusedVariables false
set_option linter.unusedSimpArgs false

theorem or_byte (v r : Nat) (hv : v < 72057594037927936) (hr : r < 256) : bits BinOp.or IntKind.u64 ((v * 256 : Nat) : Int) (r : Int) = ((v * 256 + r : Nat) : Int) := by
  have p64 : (2 : Nat) ^ 64 = 18446744073709551616 := by decide
  have i64 : (2 : Int) ^ 64 = 18446744073709551616 := by decide
  have hw : ∀ m : Int, 0 ≤ m → m < 2 ^ 64 → IntKind.u64.wrap m = m := by
    intro m h0 h1
    rw [IntKind.wrap_u64]
    omega
  have key := (bits_nat .u64 64 (by decide) hw (v * 256) r (by omega) (by omega)).2
  have e : v * 256 ||| r = v * 256 + r := by
    have := Nat.two_pow_add_eq_or_of_lt (i := 8) (b := r) hr v
    rw [show (2 : Nat) ^ 8 = 256 by decide] at this
    rw [Nat.mul_comm]
    omega
  rw [e] at key
  exact key

set_option maxRecDepth 100000 in
theorem cur_add (g v r : Nat) (hv : v < 72057594037927936) (hr : r < 256) (w : World) (h0 : w.cell? ⟨g, 0, none⟩ = some (.int .u64 v)) (hf : w.frozen? ⟨g, 0, none⟩ = false) :
    Calls Tryz.prog 68 #[.int .u8 r, .pointer (some ⟨g, 0, none⟩)] w fun e w' => e = .returned (.tuple #[]) ∧ (w.setCell ⟨g, 0, none⟩ (.int .u64 (v * 256 + r : Nat))) = w' := by
  have b1 := or_byte v r hv hr
  obtain ⟨p, hp⟩ : ∃ p, p = v * 256 := ⟨_, rfl⟩
  obtain ⟨q, hq⟩ : ∃ q, q = v * 256 + r := ⟨_, rfl⟩
  rw [← hq, ← hp] at b1
  rw [← hq]
  have b2 : IntKind.u64.wrap ((v : Int) * 256) = (p : Int) := by rw [IntKind.wrap_u64]; omega
  have b3 : IntKind.u64.wrap (r : Int) = (r : Int) := by rw [IntKind.wrap_u64]; omega
  clear hp hq
  go_enter Tryz.func68, Tryz.ntmps68
  go_wp2_with fail
  go_end0
  exact ⟨rfl, rfl⟩

theorem cur_fixed_out (b : Nat) (k : Int) (h : k < 1 ∨ 8 < k) (w : World) : Calls Tryz.prog 45 #[.pointer (some ⟨b, 0, none⟩), .int .i64 k] w fun e w' => e = .returned (.tuple #[.int .u64 0, .int .i64 1]) ∧ w = w' := by
  rcases h with h | h
  · go_enter Tryz.func45, Tryz.ntmps45
    go_wp2
    go_ret2
    exact ⟨rfl, rfl⟩
  · go_enter Tryz.func45, Tryz.ntmps45
    go_wp2
    go_ret2
    exact ⟨rfl, rfl⟩
theorem cur_fixed_short (b : Nat) (s : ByteArray) (a k : Nat) (hs : s.size ≤ maxLen) (ha : a ≤ s.size) (hk1 : 1 ≤ k) (hk8 : k ≤ 8) (hl : s.size - a < k) (w : World) (h : Cur w b s a) :
    Calls Tryz.prog 45 #[.pointer (some ⟨b, 0, none⟩), .int .i64 k] w fun e w' => e = .returned (.tuple #[.int .u64 0, .int .i64 3]) ∧ w.drew = w' := by
  have hk1' : (1 : Int) ≤ (k : Int) := by omega
  have hk8' : (k : Int) ≤ 8 := by omega
  have hl' : decide (((s.size - a : Nat) : Int) < (k : Int)) = true := by simp; omega
  go_enter Tryz.func45, Tryz.ntmps45
  go_wp2_with (go_at_call 47; refine (cur_left b s a hs ha _ h).mono ?_; rintro e w2 ⟨rfl, rfl⟩)
  go_ret2
  exact ⟨rfl, rfl⟩
set_option maxRecDepth 100000 in
set_option maxHeartbeats 800000 in
theorem cur_fixed (b : Nat) (s : ByteArray) (a k : Nat) (hs : s.size ≤ maxLen) (ha : a + k ≤ s.size) (hk1 : 1 ≤ k) (hk8 : k ≤ 8) (w : World) (h : Cur w b s a) :
    Calls Tryz.prog 45 #[.pointer (some ⟨b, 0, none⟩), .int .i64 k] w fun e w' => e = .returned (.tuple #[.int .u64 (Oct.numFrom 0 ((rest s a).take k) : Nat), .int .i64 0]) ∧ Cur w' b s (a + k) ∧ w.grownBy w' (some b) := by
  have hk1' : (1 : Int) ≤ (k : Int) := by omega
  have hk8' : (k : Int) ≤ 8 := by omega
  have hl' : decide (((s.size - a : Nat) : Int) < (k : Int)) = false := by simp; omega
  go_enter Tryz.func45, Tryz.ntmps45
  go_wp2_with (go_at_call 47; refine (cur_left b s a hs (by omega) _ h).mono ?_; rintro e w2 ⟨rfl, rfl⟩)
  refine (cur_step b s a k hs (by omega) _ (Blk.drew (Blk.alloc h _))).mono ?_
  rintro e w1 ⟨rfl, hc, hg, hz⟩
  have hg1 : (w.alloc (Obj.cells #[Value.int IntKind.u64 0] 50)).grownBy w1 (some b) := gby_undrew hg
  have hbw := Blk.lt h
  have hbn : Blk w1 w.heap.size #[Value.int IntKind.u64 0] 50 := Blk.gby (Blk.new w _ _) hg1 (by omega)
  have hgw : w.grownBy w1 (some b) := gby_trans (gby_alloc (gby_refl _ _) _) hg1
  have hz1 : w1.heap.size = w.heap.size + 1 := by simpa using hz
  clear hg hg1 hz
  obtain ⟨l, HL⟩ : ∃ l, Hid (l = (rest s a).take k) := ⟨_, Lib.hid rfl⟩
  have hll : l.length = k := by rw [HL.out, List.length_take, rest_length]; omega
  rw [← HL.out]
  have hsl : (str l).size = k := by rw [str_size, hll]
  have hconv := fun w => Lib.run_convert_string_bytes (P := Tryz.prog) w 9 42 5 (str l) Tryz.underlying9 Tryz.underlying42 Tryz.underlying5
  rw [hsl] at hconv
  have hC : ∀ j, j < k → (Lib.bytesWorld w1 5 (str l)).cell? ⟨w.heap.size + 1, j, none⟩ = some (.int .u8 ((l.getD j 0).toNat : Nat)) := by
    intro j hj
    have := Lib.bytesWorld_cell w1 5 (str l) j (by omega)
    rw [hz1] at this
    rw [this]
    congr 3
  have HC := Lib.hid hC
  have hX : ∀ j, j < w.heap.size + 1 → (Lib.bytesWorld w1 5 (str l)).heap[j]? = w1.heap[j]? := fun j hj => Lib.bytesWorld_at_old w1 _ _ j (by omega)
  have hZ : (Lib.bytesWorld w1 5 (str l)).heap.size = w1.heap.size + 1 := Lib.bytesWorld_size w1 _ _
  have hgx : w.grownBy (Lib.bytesWorld w1 5 (str l)) (some b) := gby_trans hgw ⟨rfl, rfl, rfl, by omega, fun j hj _ => hX j (by omega)⟩
  have hbx : Blk (Lib.bytesWorld w1 5 (str l)) w.heap.size #[Value.int IntKind.u64 0] 50 := (hX _ (by omega)).trans hbn
  have hcx : Cur (Lib.bytesWorld w1 5 (str l)) b s (a + k) := (hX _ (by omega)).trans hc
  have HX := Lib.hid (And.intro hgx (And.intro hbx (And.intro hcx hZ)))
  clear hX hZ hgx hbx hcx hC hbn hgw hc hsl
  go_wp2_with fail
  clear hconv
  have HZ1 := Lib.hid hz1
  clear hz1
  generalize Lib.bytesWorld w1 5 (str l) = wb at *
  generalize grownCap w1 k 0 5 = cap at *
  go_loopg [9, 28] k (fun g x i wr => ∃ (j v : Nat), j ≤ k ∧ g = k - j ∧ i = .int .i64 j ∧ v = Oct.numFrom 0 (l.take j) ∧ Blk wr w.heap.size #[.int .u64 v] 50 ∧ Cur wr b s (a + k) ∧ w.grownBy wr (some b) ∧ Hid (∀ j, j < k → wr.cell? ⟨w.heap.size + 1, j, none⟩ = some (.int .u8 ((l.getD j 0).toNat : Nat))))
  case atStart => exact ⟨0, 0, by omega, rfl, rfl, rfl, HX.out.2.1, HX.out.2.2.1, HX.out.1, HC⟩
  case round =>
    clear HX HC
    obtain ⟨j, v, hj, hg, rfl, hv, hbn, hcu, hgw, HC⟩ := hrel
    have hg := hg.symm
    subst hg
    have h0 : wr.cell? ⟨w.heap.size, 0, none⟩ = some (.int .u64 v) := hbn.cell rfl
    have hf : wr.frozen? ⟨w.heap.size, 0, none⟩ = false := hbn.free 0
    have HG := Lib.hid (And.intro hbn (And.intro hcu hgw))
    clear hbn hcu hgw
    by_cases hlt : j < k
    · have hcj := HC.out j hlt
      have hv56 : v < 72057594037927936 := by
        have := Oct.numFrom_lt 0 (l.take j)
        have e : (l.take j).length ≤ 7 := by rw [List.length_take]; omega
        have : (256 : Nat) ^ (l.take j).length ≤ 256 ^ 7 := Nat.pow_le_pow_right (by decide) e
        have : (256 : Nat) ^ 7 = 72057594037927936 := by decide
        omega
      obtain ⟨t, ht⟩ : ∃ t, (l.getD j 0).toNat = t := ⟨_, rfl⟩
      have ht8 : t < 256 := by rw [← ht]; exact UInt8.toNat_lt _
      have hvn : v * 256 + t = Oct.numFrom 0 (l.take (j + 1)) := by
        rw [List.take_succ_eq_append_getElem (by omega), Oct.numFrom_append, ← hv]
        simp only [Oct.numFrom]
        rw [← ht, List.getD_eq_getElem?_getD, List.getElem?_eq_getElem (by omega)]
        rfl
      rw [ht] at hcj
      have HV := Lib.hid hvn
      have HT := Lib.hid ht
      have HV0 := Lib.hid hv
      clear hvn ht hv
      go_wp2_with fail
      refine (cur_add w.heap.size v t hv56 ht8 _ h0 hf).mono ?_
      rintro e w2 ⟨rfl, rfl⟩
      go_wp2_with fail
      go_roundg (k - (j + 1))
      case measure => omega
      case rel =>
        obtain ⟨g1, g2, g3⟩ := HG.out
        refine ⟨j + 1, v * 256 + t, by omega, rfl, by go_num, HV.out, by simpa using g1.set 0 (.int .u64 (v * 256 + t : Nat)), Blk.far g2 (by simp; omega) _, ⟨g3.os, g3.tape, g3.output, by simpa using g3.size, fun i hi hn => (Below.heap_setCell _ _ _ _ (by simp; omega)).trans (g3.block i hi hn)⟩, Lib.hid fun i hi => ?_⟩
        exact (World.cell?_setCell_far _ _ _ _ (by simp)).trans (HC.out i hi)
    · obtain rfl : j = k := by omega
      have HV0 := Lib.hid hv
      clear hv
      go_wp2_with fail
      go_ret2
      refine ⟨?_, HG.out.2.1, HG.out.2.2⟩
      rw [← HL.out, ← (show l.take j = l by rw [← hll, List.take_length]), ← HV0.out]
      rfl
end Go.Proofs.YtcibeiehdjekiaaGreatDoor

/-! CursorRef -/
namespace Go.Proofs.YtcibeiehdjekiaaGreatDoor
open Go.RowKit
set_option linter.unusedVariables false
set_option linter.unusedSimpArgs false

theorem get0 (s : ByteArray) (j : Nat) (h : j < s.size) : s[j].toNat = ((rest s 0).getD j 0).toNat := by
  have := rest_get s 0 j (by omega)
  simpa using this
theorem tl_eq {a b : ByteArray} (h : a = b) : (a.toList == b.toList) = true := by subst h; simp
theorem tl_ne {a b : ByteArray} (h : a ≠ b) : (a.toList == b.toList) = false := by
  cases hh : (a.toList == b.toList) with
  | false => rfl
  | true =>
    have h2 : a.toList = b.toList := by simpa using hh
    rw [ByteArray.toList_eq, ByteArray.toList_eq] at h2
    exact absurd (ByteArray.ext (Array.ext' h2)) h
theorem str_inj {a b : List UInt8} (h : str a = str b) : a = b := by
  have := congrArg (fun x : ByteArray => x.data.toList) h
  simpa [str] using this
theorem extract0 (s : ByteArray) (k : Nat) : s.extract 0 k = str ((rest s 0).take k) := by
  have := extract_take s 0 k
  simpa using this
theorem rest0_length (s : ByteArray) : (rest s 0).length = s.size := by rw [rest_length]; omega
theorem rest_str (l : List UInt8) : rest (str l) 0 = l := by simp [rest, str]
theorem str_rest (s : ByteArray) : str (rest s 0) = s := by apply ByteArray.ext; simp [rest, str]

set_option maxRecDepth 100000 in
set_option maxHeartbeats 800000 in
theorem ref02_takeVar (s : ByteArray) (hs : s.size ≤ maxLen) (w : World) :
    Calls Tryz.prog 49 #[.string s] w fun e w' => e = .returned (tookVal (Oct.takeVar (rest s 0))) ∧ Below w.heap.size w w' := by
  have hs' : (s.size : Int) ≤ 9223372036854775807 := by unfold maxLen at hs; omega
  go_enter Tryz.func49, Tryz.ntmps49
  have hrl := rest0_length s
  go_wp2
  go_loopg [5] s.size (fun g i wr => w = wr ∧ ∃ (j : Nat), j ≤ s.size ∧ g = s.size - j ∧ i = .int .i64 j ∧ Hid (∀ k, k < j → 128 ≤ ((rest s 0).getD k 0).toNat))
  case atStart => exact ⟨rfl, 0, by omega, by omega, rfl, Lib.hid (fun k hk => by omega)⟩
  case round =>
    obtain ⟨rfl, j, hj, hg, rfl, HM⟩ := hrel
    have hg := hg.symm
    subst hg
    have HL := Lib.hid hrl
    clear hrl
    by_cases hlt : j < s.size
    · have hx := get0 s j hlt
      obtain ⟨x, HX⟩ : ∃ x, Hid (((rest s 0).getD j 0).toNat = x) := ⟨_, Lib.hid rfl⟩
      rw [HX.out] at hx
      have hd1 : decide ((j : Int) < (s.size : Int)) = true := by simp; omega
      by_cases hx8 : 128 ≤ x
      · go_wp2_with fail
        go_roundg (s.size - (j + 1))
        case measure => omega
        case rel =>
          refine ⟨rfl, j + 1, by omega, rfl, by go_num, Lib.hid (fun k hk => ?_)⟩
          by_cases hkj : k = j
          · subst hkj; rw [HX.out]; exact hx8
          · exact HM.out k (by omega)
      · have he : Oct.endOf (rest s 0) = j := Oct.endOf_eq _ j (by rw [HL.out]; omega) HM.out (.inr (by rw [HX.out]; omega))
        have HE := Lib.hid he
        clear he
        have hle9 : (str (Oct.varB 0)).size = 1 := by rw [str_size, Oct.varB_lt (by decide)]; rfl
        by_cases h9 : 9 ≤ j
        · have hd9 : decide ((j : Int) < 9) = false := by simp; omega
          have hw1 : IntKind.i64.wrap ((j : Int) + 1) = (j : Int) + 1 := by rw [IntKind.wrap_i64]; omega
          have hj0 : (0 : Int) ≤ (j : Int) + 1 := by omega
          have hne : ((str (Oct.varB 0)).toList == (s.extract 0 (j + 1)).toList) = false := by
            apply tl_ne
            intro h
            rw [extract0] at h
            have h := congrArg List.length (str_inj h)
            rw [Oct.varB_lt (by decide), List.length_take, HL.out] at h
            simp at h
            omega
          have hj1 : (j : Int) + 1 ≤ (s.size : Int) := by omega
          go_wp2_with fail
          refine wp_loop_rounds 1 ?_
          rw [rounds_succ]
          go_wp2_with fail
          go_region_with ((go_at_call 28; refine (ref02_var 0 (by decide) _).mono ?_; rintro e w1 ⟨rfl, hb⟩))
          go_wp2_with fail
          go_ret3
          have ht : Oct.takeVar (rest s 0) = .form := by
            rw [Oct.takeVar, if_neg (by rw [HE.out, HL.out]; omega), HE.out, if_pos (.inl h9)]
          rw [ht]
          exact ⟨rfl, below_undrew hb⟩
        · have hd9 : decide ((j : Int) < 9) = true := by simp; omega
          obtain ⟨l, HLL⟩ : ∃ l, Hid (l = (rest s 0).take (j + 1)) := ⟨_, Lib.hid rfl⟩
          have hll : l.length = j + 1 := by rw [HLL.out, List.length_take, HL.out]; omega
          go_wp2_with fail
          go_loopg [6, 7] (j + 1) (fun g n i wr => w = wr ∧ ∃ (k v : Nat), k ≤ j + 1 ∧ g = k ∧ i = .int .i64 ((k : Int) - 1) ∧ n = .int .i64 v ∧ v = Oct.valFrom l k)
          case atStart =>
            refine ⟨rfl, j + 1, 0, by omega, rfl, by go_num, rfl, ?_⟩
            rw [← hll, Oct.valFrom_end]
          case round =>
            obtain ⟨rfl, k, v, hk, hg, rfl, rfl, hv⟩ := hrel
            have hg := hg.symm
            subst hg
            by_cases h0 : k = 0
            · subst h0
              have HV := Lib.hid hv
              clear hv
              go_wp2_with fail
              have hw1 : IntKind.i64.wrap ((j : Int) + 1) = (j : Int) + 1 := by rw [IntKind.wrap_i64]; omega
              have hj0 : (0 : Int) ≤ (j : Int) + 1 := by omega
              have hj1 : (j : Int) + 1 ≤ (s.size : Int) := by omega
              have hvl : v = Oct.valB l := by rw [HV.out, Oct.valFrom_all]
              have hv9 : v ≤ 9223372036854775807 := by
                have := Oct.valB_lt l
                have e : (128 : Nat) ^ l.length ≤ 128 ^ 9 := Nat.pow_le_pow_right (by decide) (by omega)
                have : (128 : Nat) ^ 9 = 9223372036854775808 := by decide
                omega
              have HVL := Lib.hid hvl
              clear hvl
              by_cases hbad : 0 < j ∧ ((rest s 0).getD j 0).toNat = 0
              · have hne : ((str (Oct.varB v)).toList == (s.extract 0 (j + 1)).toList) = false := by
                  apply tl_ne
                  intro h
                  rw [extract0] at h
                  have h := str_inj h
                  obtain ⟨p, z, e1, e2, e3, e4, e5⟩ := Oct.take_end (rest s 0) (by rw [HE.out, HL.out]; omega)
                  rw [HE.out] at e1 e2 e5
                  rw [e1] at h
                  rcases Oct.varB_bad p z v h with h1 | h1
                  · subst h1; simp at e2; omega
                  · rw [e5] at h1; exact h1 hbad.2
                have HB := Lib.hid hbad
                clear hbad
                go_region_with ((go_at_call 28; refine (ref02_var v hv9 _).mono ?_; rintro e w1 ⟨rfl, hb⟩))
                go_wp2_with fail
                go_ret3
                have ht : Oct.takeVar (rest s 0) = .form := by
                  rw [Oct.takeVar, if_neg (by rw [HE.out, HL.out]; omega), HE.out, if_pos (.inr HB.out)]
                rw [ht]
                exact ⟨rfl, below_undrew hb⟩
              · have heq : ((str (Oct.varB v)).toList == (s.extract 0 (j + 1)).toList) = true := by
                  apply tl_eq
                  rw [extract0]
                  obtain ⟨p, z, e1, e2, e3, e4, e5⟩ := Oct.take_end (rest s 0) (by rw [HE.out, HL.out]; omega)
                  rw [HE.out] at e1 e2 e5
                  rw [HVL.out, HLL.out, e1, Oct.varB_valB p z e3 e4]
                  by_cases hp : p = []
                  · exact .inl hp
                  · right
                    intro hz
                    have : p.length ≠ 0 := fun h => hp (List.eq_nil_of_length_eq_zero h)
                    exact hbad ⟨by omega, by rw [← e5]; exact hz⟩
                have HB := Lib.hid hbad
                clear hbad
                go_region_with ((go_at_call 28; refine (ref02_var v hv9 _).mono ?_; rintro e w1 ⟨rfl, hb⟩))
                go_wp2_with fail
                go_ret3
                have ht : Oct.takeVar (rest s 0) = .num v (j + 1) := by
                  rw [Oct.takeVar, if_neg (by rw [HE.out, HL.out]; omega), HE.out, if_neg (fun h => h.elim h9 HB.out), HVL.out, HLL.out]
                rw [ht]
                exact ⟨rfl, below_undrew hb⟩
            · obtain ⟨i, rfl⟩ : ∃ i, k = i + 1 := ⟨k - 1, by omega⟩
              have hst := Oct.valFrom_step l i (by omega)
              have hlt7 := Oct.valFrom_lt l i (by omega)
              have hgl : (l.getD i 0) = (rest s 0).getD i 0 := by
                rw [HLL.out, List.getD_eq_getElem?_getD, List.getD_eq_getElem?_getD, List.getElem?_take_of_lt (by omega)]
              rw [hgl, ← hv] at hst
              rw [← hv] at hlt7
              have hxi := get0 s i (by omega)
              obtain ⟨t, HT⟩ : ∃ t, Hid (((rest s 0).getD i 0).toNat = t) := ⟨_, Lib.hid rfl⟩
              rw [HT.out] at hxi hst
              have ht : t < 256 := by rw [← HT.out]; exact UInt8.toNat_lt _
              have HV := Lib.hid (show v * 128 + t % 128 = Oct.valFrom l i by rw [hst]; omega)
              have his : (i : Int) < (s.size : Int) := by omega
              clear hst hv hgl
              go_wp2_with fail
              go_roundg i
              case measure => omega
              case rel => exact ⟨rfl, i, v * 128 + t % 128, by omega, rfl, by go_num, by go_num, HV.out⟩
    · obtain rfl : j = s.size := by omega
      have he : Oct.endOf (rest s 0) = s.size := Oct.endOf_eq _ _ (by rw [HL.out]; exact Nat.le_refl _) HM.out (.inl HL.out.symm)
      have HE := Lib.hid he
      clear he
      go_wp2_with fail
      go_ret3
      refine ⟨?_, Below.refl _ _⟩
      rw [Oct.takeVar, if_pos (by rw [HE.out, HL.out])]
      rfl

end Go.Proofs.YtcibeiehdjekiaaGreatDoor
