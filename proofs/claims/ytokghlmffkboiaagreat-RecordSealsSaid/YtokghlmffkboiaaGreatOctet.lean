/-
  What the putting functions of package octet compute (reeve's layer 2), and the reference's, as contracts.
-/
import Derived.Test.YtokghlmffkboiaaGreatBuilder
import Derived.Test.YtokghlmffkboiaaGreatOctetMath
import Derived.Laws.BytesArg
import Derived.Lib.ConvBytes
namespace Go.Proofs.YtokghlmffkboiaaGreat
open Go.RowKit
set_option linter.unusedVariables false
set_option linter.unusedSimpArgs false

/-- A list of bytes as a text. -/
def str (l : List UInt8) : ByteArray := ⟨l.toArray⟩
theorem str_size (l : List UInt8) : (str l).size = l.length := by simp [str, ByteArray.size]
theorem str_list (l : List UInt8) : (str l).data.toList = l := by simp [str]
theorem str_append (a b : List UInt8) : str a ++ str b = str (a ++ b) := by
  apply ByteArray.ext
  simp [str]

theorem lies_own : Lies 62 2 0 := ⟨by decide, by kernel_rfl⟩

theorem octet_fixed_out (n k : Int) (h : k < 1 ∨ 8 < k) (w : World) : Calls Tryz.prog 58 #[.int .u64 n, .int .i64 k] w fun e w' => e = .returned (.string (str [])) ∧ w = w' := by
  rcases h with h | h
  · go_enter Tryz.func58, Tryz.ntmps58
    go_wp2
    go_ret
    exact ⟨rfl, rfl⟩
  · go_enter Tryz.func58, Tryz.ntmps58
    go_wp2
    go_ret
    exact ⟨rfl, rfl⟩

set_option maxRecDepth 100000 in
set_option maxHeartbeats 800000 in
theorem octet_fixed (n k : Nat) (hn : n < 18446744073709551616) (hk1 : 1 ≤ k) (hk8 : k ≤ 8) (w : World) :
    Calls Tryz.prog 58 #[.int .u64 n, .int .i64 k] w fun e w' => e = .returned (.string (str (Oct.fixB n k))) ∧ Below w.heap.size w w' := by
  have hk1' : (1 : Int) ≤ (k : Int) := by omega
  have hk8' : (k : Int) ≤ 8 := by omega
  go_enter Tryz.func58, Tryz.ntmps58
  go_wp2
  go_loopg [6] k (fun g i wr => ∃ (m : Nat) (cs : Array Value) (v : Value), m ≤ k ∧ g = m ∧ i = .int .i64 ((m : Int) - 1) ∧ cs.size = 2 ∧ Blk wr w.heap.size cs 62 ∧ BldIn cs w.heap.size w.heap.size 0 wr v (Oct.fixB (n / 256 ^ m) (k - m)) ∧ w.heap.size < wr.heap.size ∧ Below w.heap.size w wr)
  case atStart =>
    refine ⟨k, _, .slice none 0 0, Nat.le_refl _, rfl, rfl, rfl, Blk.new w _ _, ⟨.inl rfl, rfl, ?_, by simp [Value.ownBlock]⟩, by simp, ?_⟩
    · rw [Nat.sub_self]; exact World.ownsRowF_nil _ _ _ _
    · go_grown
  case round =>
    obtain ⟨m, cs, v, hm, hgm, rfl, hcs, hb, hbi, hsz, hbl⟩ := hrel
    have hgm := hgm.symm
    subst hgm
    have HB := Lib.hid hb
    have HBI := Lib.hid hbi
    clear hb hbi
    by_cases h0 : m = 0
    · subst h0
      have hst := bld_string _ _ 0 w.heap.size cs v _ wr HB.out HBI.out (by omega)
      rw [Nat.pow_zero, Nat.div_one, Nat.sub_zero] at hst
      have HST := Lib.hid hst
      clear hst
      go_wp2_with (go_at_call 53; refine HST.out.mono ?_; rintro e w2 ⟨rfl, hb2, hbi2, hc2⟩)
      go_ret
      exact ⟨rfl, hbl.trans (hc2.below (by omega) (fun j hj => by have := World.ownsRowF.lt HBI.out.2.2.1 j hj.symm; omega))⟩
    · obtain ⟨j, rfl⟩ : ∃ j, m = j + 1 := ⟨m - 1, by omega⟩
      have hx : ((n : Int) / 2 ^ (8 * j) % 256 : Int) = ((UInt8.ofNat (n / 256 ^ j % 256)).toNat : Int) := by
        have e1 : (2 : Int) ^ (8 * j) = ((256 ^ j : Nat) : Int) := by
          rw [Int.pow_mul]; simp
        rw [e1, UInt8.toNat_ofNat_of_lt' (by have := Nat.mod_lt (n / 256 ^ j) (show 256 > 0 by decide); simpa using this)]
        simp
      have hfx : Oct.fixB (n / 256 ^ (j + 1)) (k - (j + 1)) ++ [UInt8.ofNat (n / 256 ^ j % 256)] = Oct.fixB (n / 256 ^ j) (k - j) := by
        rw [show k - j = (k - (j + 1)) + 1 by omega, Oct.fixB, Nat.div_div_eq_div_mul, ← Nat.pow_succ]
      have HX := Lib.hid hx
      have HF := Lib.hid hfx
      clear hx hfx
      go_wp2_with fail
      rw [HX.out]
      refine (bld_writeByte 62 w.heap.size 0 w.heap.size cs v _ (UInt8.ofNat (n / 256 ^ j % 256)) wr (by rw [hcs]; exact lies_own) (by decide) HB.out HBI.out (by rw [Oct.fixB_length]; omega) (by omega) (Nat.le_refl _)).mono ?_
      rintro e w2 ⟨rfl, v', hb2, hbi2, hbl2⟩
      have hs2 : w.heap.size < w2.heap.size := hb2.lt
      have HB2 := Lib.hid hb2
      have HBI2 := Lib.hid hbi2
      clear hb2 hbi2
      go_wp2
      go_roundg j
      case measure => omega
      case rel => exact ⟨j, _, _, by omega, rfl, rfl, by rw [wrote_size]; exact hcs, HB2.out, by rw [← HF.out]; exact HBI2.out, hs2, hbl.trans hbl2⟩

theorem octet_var_neg (n : Int) (h : n < 0) (w : World) : Calls Tryz.prog 60 #[.int .i64 n] w fun e w' => e = .returned (.string (str [])) ∧ w = w' := by
  go_enter Tryz.func60, Tryz.ntmps60
  go_wp2
  go_ret
  exact ⟨rfl, rfl⟩

theorem str_nums (l : List UInt8) : strOfNums (l.map fun x => (x.toNat : Int)) = str l := by
  apply ByteArray.ext
  have : l.map ((fun n : Int => UInt8.ofNat n.toNat) ∘ fun x : UInt8 => (x.toNat : Int)) = l := by
    induction l with
    | nil => rfl
    | cons a r ih => rw [List.map_cons, ih]; simp
  simp [strOfNums, str, this]

/-- The cells of a block of bytes: so many are those of the list. -/
def Pre (cs : Array Value) (l : List UInt8) : Prop := ∀ j : Nat, j < l.length → cs[j]? = some (.int .u8 (l.getD j 0).toNat)
theorem Pre.push {cs : Array Value} {l : List UInt8} (h : Pre cs l) (hl : l.length < cs.size) (x : UInt8) : Pre (cs.setIfInBounds l.length (.int .u8 x.toNat)) (l ++ [x]) := by
  intro j hj
  by_cases hjl : j = l.length
  · subst hjl
    rw [Array.getElem?_setIfInBounds_self_of_lt hl]
    simp
  · have hjlt : j < l.length := by simp at hj; omega
    rw [Array.getElem?_setIfInBounds_ne (fun e => hjl e.symm), h j hjlt]
    simp [List.getElem?_append_left hjlt]

/-- The bytes of a block as a text. -/
theorem conv_pre (w : World) (b cap : Nat) (cs : Array Value) (T : TypeId) (hb : Blk w b cs T) (l : List UInt8) (h : Pre cs l) :
    (convert 49 9 (.slice (some ⟨b, 0, none⟩) l.length cap)).run Tryz.prog w = .ok (.string (str l)) w := by
  have := run_convert_bytes_arg (P := Tryz.prog) w 49 5 Tryz.underlying49 Tryz.underlying5 b 0 l.length cap (l.map fun x => (x.toNat : Int)) (by simp) (fun j hj => by
    rw [hb.cell (by rw [Nat.zero_add]; exact h j hj)]
    simp [List.getD_eq_getElem?_getD, List.getElem?_eq_getElem hj]) 9 Tryz.underlying9
  rw [str_nums] at this
  exact this

set_option maxRecDepth 100000 in
theorem slice_nine (b k : Nat) (hk : k < 9) (w : World) : (Instr.sliceAt 125 (.pointer (some ⟨b, 0, none⟩)) none (some (.int .i64 ((k : Int) + 1))) none).run Tryz.prog w = .ok (.slice (some ⟨b, 0, none⟩) (k + 1) 9) w := by
  rw [run_sliceAt_array_h (P := Tryz.prog) w 125 ⟨b, 0, none⟩ Tryz.underlying125 .i64 ((k : Int) + 1) (by omega) (by
    have e : Tryz.prog.arrayLen 125 = 9 := by kernel_rfl
    rw [e]; omega)]
  have e : Tryz.prog.arrayLen 125 = 9 := by kernel_rfl
  have e2 : Tryz.prog.elem 125 = 5 := by kernel_rfl
  have e3 : ((k : Int) + 1).toNat = k + 1 := by omega
  rw [e, e2, e3]
  have e4 : (sizeOf 5).run Tryz.prog w = .ok 1 w := by go_simp
  rw [e4]
  simp [Result.andThen, slicedAt, Addr.add]

set_option maxRecDepth 100000 in
set_option maxHeartbeats 800000 in
theorem octet_var (n : Nat) (hn : n ≤ 9223372036854775807) (w : World) :
    Calls Tryz.prog 60 #[.int .i64 n] w fun e w' => e = .returned (.string (str (Oct.varB n))) ∧ Below w.heap.size w w' := by
  have hn' : (n : Int) ≤ 9223372036854775807 := by omega
  have hnine := Oct.varB_nine n hn
  go_enter Tryz.func60, Tryz.ntmps60
  go_wp2
  go_loopg [0, 4] 9 (fun g x i wr => ∃ (m : Nat) (pre : List UInt8) (cs : Array Value), pre ++ Oct.varB m = Oct.varB n ∧ g = 9 - pre.length ∧ x = .int .i64 m ∧ i = .int .i64 pre.length ∧ m ≤ 9223372036854775807 ∧ cs.size = 9 ∧ Pre cs pre ∧ Blk wr w.heap.size cs 125 ∧ w.heap.size < wr.heap.size ∧ Below w.heap.size w wr)
  case atStart =>
    refine ⟨n, [], _, rfl, rfl, rfl, rfl, hn, ?_, ?_, Blk.new w _ _, by simp, ?_⟩
    · rfl
    · intro j hj; simp at hj
    · go_grown
  case round =>
    obtain ⟨m, pre, cs, hpre, hg, rfl, rfl, hm, hcs, hcells, hb, hsz, hbl⟩ := hrel
    have hg := hg.symm
    subst hg
    have hlen : pre.length + (Oct.varB m).length ≤ 9 := by rw [← List.length_append, hpre]; exact hnine
    have hpos := Oct.varB_pos m
    have hsl : pre.length < 9 := by omega
    obtain ⟨u, hu⟩ : ∃ u, cs[pre.length]? = some u := ⟨cs[pre.length]'(by omega), Array.getElem?_eq_getElem (by omega)⟩
    have hc := hb.cell hu
    have hf := hb.free pre.length
    have HP := Lib.hid hpre
    have HL := Lib.hid hcells
    have HB := Lib.hid hb
    clear hpre hcells hb hlen hpos
    have hm' : (m : Int) ≤ 9223372036854775807 := by omega
    by_cases hlt : m < 128
    · have hP2 := HL.out.push (by omega) (UInt8.ofNat m)
      rw [show (((UInt8.ofNat m).toNat : Nat) : Int) = (m : Int) by simp; omega] at hP2
      have hconv := conv_pre (wr.setCell ⟨w.heap.size, pre.length, none⟩ (.int .u8 m)) w.heap.size 9 _ _ (HB.out.set _ _) _ hP2
      rw [← Oct.varB_lt hlt, HP.out] at hconv
      have e9 : (pre ++ [UInt8.ofNat m]).length = pre.length + 1 := by simp
      rw [← Oct.varB_lt hlt, HP.out] at e9
      rw [e9] at hconv
      have hsl := slice_nine w.heap.size pre.length hsl
      clear hP2 e9
      go_wp2
      go_ret
      exact ⟨rfl, hbl.setCell (Nat.le_refl _) _⟩
    · obtain ⟨r, hr⟩ : ∃ r, r = m % 128 := ⟨_, rfl⟩
      obtain ⟨q, hq⟩ : ∃ q, q = r + 128 := ⟨_, rfl⟩
      have h1 : bits .and .i64 (m : Int) 127 = (r : Int) := by rw [Oct.i64_and127, hr]; omega
      have h2 : bits .or .i64 (r : Int) 128 = (q : Int) := by rw [Oct.or128 r (by omega), hq]
      have hq2 : q < 256 := by omega
      have hP2 := HL.out.push (by omega) (UInt8.ofNat q)
      rw [show (((UInt8.ofNat q).toNat : Nat) : Int) = (r : Int) + 128 by simp; omega] at hP2
      have hv := HP.out
      rw [Oct.varB_ge hlt, ← hr, ← hq] at hv
      have HV := Lib.hid hv
      have HP2 := Lib.hid hP2
      clear hr hv hP2
      go_wp2
      go_roundg (9 - (pre.length + 1))
      case measure => omega
      case rel => exact ⟨m / 128, pre ++ [UInt8.ofNat q], _, by rw [List.append_assoc]; exact HV.out, by simp, by simp, by simp, by omega, by simpa using hcs, HP2.out, HB.out.set _ _, by simpa using hsz, hbl.setCell (Nat.le_refl _) _⟩

theorem ref02_fixed_out (n k : Int) (h : k < 1 ∨ 8 < k) (w : World) : Calls Tryz.prog 63 #[.int .u64 n, .int .i64 k] w fun e w' => e = .returned (.string (str [])) ∧ w = w' := by
  rcases h with h | h
  · go_enter Tryz.func63, Tryz.ntmps63
    go_wp2
    go_ret
    exact ⟨rfl, rfl⟩
  · go_enter Tryz.func63, Tryz.ntmps63
    go_wp2
    go_ret
    exact ⟨rfl, rfl⟩

/-- A block's first byte as a text. -/
theorem conv_cell (x : Int) (h0 : 0 ≤ x) (h1 : x < 256) (w : World) (b cap : Nat) (hc : w.cell? ⟨b, 0, none⟩ = some (.int .u8 x)) :
    (convert 49 9 (.slice (some ⟨b, 0, none⟩) 1 cap)).run Tryz.prog w = .ok (.string (str [UInt8.ofNat x.toNat])) w := by
  have := run_convert_bytes_arg (P := Tryz.prog) w 49 5 Tryz.underlying49 Tryz.underlying5 b 0 1 cap [x] rfl (fun j hj => by
    obtain rfl : j = 0 := by omega
    exact hc) 9 Tryz.underlying9
  exact this

set_option maxRecDepth 100000 in
set_option maxHeartbeats 800000 in
theorem ref02_fixed (n k : Nat) (hn : n < 18446744073709551616) (hk1 : 1 ≤ k) (hk8 : k ≤ 8) (w : World) :
    Calls Tryz.prog 63 #[.int .u64 n, .int .i64 k] w fun e w' => e = .returned (.string (str (Oct.fixB n k))) ∧ Below w.heap.size w w' := by
  have hk1' : (1 : Int) ≤ (k : Int) := by omega
  have hk8' : (k : Int) ≤ 8 := by omega
  go_enter Tryz.func63, Tryz.ntmps63
  go_wp2
  go_loopg [0, 5, 6] k (fun g x s i wr => ∃ (j m : Nat), j ≤ k ∧ g = k - j ∧ i = .int .i64 j ∧ x = .int .u64 m ∧ m < 18446744073709551616 ∧ Hid (m = n / 256 ^ j) ∧ s = .string (str (Oct.fixB n j)) ∧ w.heap.size ≤ wr.heap.size ∧ Below w.heap.size w wr)
  case atStart => exact ⟨0, n, by omega, rfl, rfl, rfl, hn, Lib.hid (by simp), rfl, Nat.le_refl _, Below.refl _ _⟩
  case round =>
    obtain ⟨j, m, hj, hg, rfl, rfl, hm, hmj, rfl, hsz, hbl⟩ := hrel
    have hg := hg.symm
    subst hg
    by_cases hlt : j < k
    · have hm' : (m : Int) < 18446744073709551616 := by omega
      have hconv := conv_cell ((m : Int) % 256) (by omega) (by omega)
      rw [show ((m : Int) % 256).toNat = m % 256 by omega] at hconv
      have hf : str [UInt8.ofNat (m % 256)] ++ str (Oct.fixB n j) = str (Oct.fixB n (j + 1)) := by rw [str_append, Oct.fixB_cons, hmj.out]; rfl
      have hd : m / 256 = n / 256 ^ (j + 1) := by rw [hmj.out, Nat.div_div_eq_div_mul, ← Nat.pow_succ]
      have hlen : (str [UInt8.ofNat (m % 256)]).size + (str (Oct.fixB n j)).size ≤ 9223372036854775807 := by
        rw [str_size, str_size, Oct.fixB_length]; simp; omega
      have HD := Lib.hid hd
      have HF := Lib.hid hf
      clear hd hf
      go_wp2
      rw [HF.out]
      go_roundg (k - (j + 1))
      case measure => omega
      case rel => exact ⟨j + 1, m / 256, by omega, rfl, by go_num, by simp, by omega, Lib.hid HD.out, rfl, by simp; omega, hbl.alloc hsz _⟩
    · obtain rfl : j = k := by omega
      go_wp2
      go_ret
      exact ⟨rfl, hbl⟩

theorem below_new {w w1 : World} {v : Value} {t : TypeId} (hb : Below (w.alloc (.cells #[v] t)).drew.heap.size (w.alloc (.cells #[v] t)).drew w1) : w1.cell? ⟨w.heap.size, 0, none⟩ = some v :=
  keepB hb (by go_simp) (by simp)
theorem below_newB {w w1 : World} {v : Value} {t : TypeId} (hb : Below (w.alloc (.cells #[v] t)).drew.heap.size (w.alloc (.cells #[v] t)).drew w1) : Below w.heap.size w w1 :=
  (show Below w.heap.size w (w.alloc (.cells #[v] t)) by go_grown).trans ((below_undrew hb).mono (by simp))
set_option maxRecDepth 100000 in
set_option maxHeartbeats 800000 in
theorem ref02_var (n : Nat) : ∀ (hn : n ≤ 9223372036854775807) (w : World),
    Calls Tryz.prog 40 #[.int .i64 n] w fun e w' => e = .returned (.string (str (Oct.varB n))) ∧ Below w.heap.size w w' := by
  induction n using Nat.strongRecOn with
  | ind n ih =>
    intro hn w
    have hn' : (n : Int) ≤ 9223372036854775807 := by omega
    by_cases hlt : n < 128
    · have hconv := conv_cell (n : Int) (by omega) (by omega)
      rw [Int.toNat_natCast, ← Oct.varB_lt hlt] at hconv
      go_enter Tryz.func40, Tryz.ntmps40
      go_wp2
      go_ret
      exact ⟨rfl, by go_grown⟩
    · obtain ⟨d, hd⟩ : ∃ d, d = n / 128 := ⟨_, rfl⟩
      obtain ⟨r, hr⟩ : ∃ r, r = n % 128 := ⟨_, rfl⟩
      obtain ⟨q, hq⟩ : ∃ q, q = r + 128 := ⟨_, rfl⟩
      have IH := Lib.hid (ih d (by omega) (by omega))
      clear ih
      have hconv := conv_cell (q : Int) (by omega) (by omega)
      rw [Int.toNat_natCast] at hconv
      have hv := Oct.varB_ge hlt
      rw [← hr, ← hq, ← hd] at hv
      have HV := Lib.hid hv
      have t1 : (n : Int).tmod 128 = (r : Int) := by rw [Int.tmod_eq_emod_of_nonneg (by omega)]; omega
      have t2 : IntKind.i64.wrap ((r : Int) + 128) = (q : Int) := by rw [IntKind.wrap_i64]; omega
      have t3 : IntKind.u8.wrap (q : Int) = (q : Int) := by rw [IntKind.wrap_u8]; omega
      have t4 : IntKind.i64.wrap ((n : Int) / 128) = (d : Int) := by rw [IntKind.wrap_i64]; omega
      have hlen : (str [UInt8.ofNat q]).size + (str (Oct.varB d)).size ≤ 9223372036854775807 := by
        have := Oct.varB_nine d (by omega)
        rw [str_size, str_size]; simp; omega
      clear hv hr hq hd
      go_enter Tryz.func40, Tryz.ntmps40
      go_wp2_with fail
      go_region_with ((go_at_call 40; refine (IH.out _).mono ?_; rintro e w1 ⟨rfl, hb⟩; first | (have k0 := below_new hb; have hb' := below_newB hb) | skip))
      all_goals (go_wp2_with fail; go_ret)
      all_goals (refine ⟨by rw [HV.out, str_append]; rfl, ?_⟩; first | exact hb' | exact (below_undrew hb).alloc (below_undrew hb).size _)

theorem ref02_var_neg (n : Int) (h : n < 0) (w : World) : Calls Tryz.prog 40 #[.int .i64 n] w fun e w' => e = .returned (.string (str [])) ∧ w = w' := by
  go_enter Tryz.func40, Tryz.ntmps40
  go_wp2
  go_ret
  exact ⟨rfl, rfl⟩

/-- What the bytes of a number are, whatever the number and how many are asked for. -/
def fixAny (n : Nat) (k : Int) : List UInt8 := if k < 1 ∨ 8 < k then [] else Oct.fixB n k.toNat
def varAny (n : Int) : List UInt8 := if n < 0 then [] else Oct.varB n.toNat
theorem octet_fixed_any (n : Nat) (k : Int) (hn : n < 18446744073709551616) (w : World) :
    Calls Tryz.prog 58 #[.int .u64 n, .int .i64 k] w fun e w' => e = .returned (.string (str (fixAny n k))) ∧ Below w.heap.size w w' := by
  unfold fixAny
  by_cases h : k < 1 ∨ 8 < k
  · rw [if_pos h]
    refine (octet_fixed_out n k h w).mono ?_
    rintro e w' ⟨rfl, rfl⟩
    exact ⟨rfl, Below.refl _ _⟩
  · rw [if_neg h]
    obtain ⟨k', rfl⟩ : ∃ k' : Nat, k = k' := ⟨k.toNat, by omega⟩
    exact octet_fixed n k' hn (by omega) (by omega) w
theorem ref02_fixed_any (n : Nat) (k : Int) (hn : n < 18446744073709551616) (w : World) :
    Calls Tryz.prog 63 #[.int .u64 n, .int .i64 k] w fun e w' => e = .returned (.string (str (fixAny n k))) ∧ Below w.heap.size w w' := by
  unfold fixAny
  by_cases h : k < 1 ∨ 8 < k
  · rw [if_pos h]
    refine (ref02_fixed_out n k h w).mono ?_
    rintro e w' ⟨rfl, rfl⟩
    exact ⟨rfl, Below.refl _ _⟩
  · rw [if_neg h]
    obtain ⟨k', rfl⟩ : ∃ k' : Nat, k = k' := ⟨k.toNat, by omega⟩
    exact ref02_fixed n k' hn (by omega) (by omega) w
theorem octet_var_any (n : Int) (hn : n ≤ 9223372036854775807) (w : World) :
    Calls Tryz.prog 60 #[.int .i64 n] w fun e w' => e = .returned (.string (str (varAny n))) ∧ Below w.heap.size w w' := by
  unfold varAny
  by_cases h : n < 0
  · rw [if_pos h]
    refine (octet_var_neg n h w).mono ?_
    rintro e w' ⟨rfl, rfl⟩
    exact ⟨rfl, Below.refl _ _⟩
  · rw [if_neg h]
    obtain ⟨n', rfl⟩ : ∃ n' : Nat, n = n' := ⟨n.toNat, by omega⟩
    exact octet_var n' (by omega) w
theorem ref02_var_any (n : Int) (hn : n ≤ 9223372036854775807) (w : World) :
    Calls Tryz.prog 40 #[.int .i64 n] w fun e w' => e = .returned (.string (str (varAny n))) ∧ Below w.heap.size w w' := by
  unfold varAny
  by_cases h : n < 0
  · rw [if_pos h]
    refine (ref02_var_neg n h w).mono ?_
    rintro e w' ⟨rfl, rfl⟩
    exact ⟨rfl, Below.refl _ _⟩
  · rw [if_neg h]
    obtain ⟨n', rfl⟩ : ∃ n' : Nat, n = n' := ⟨n.toNat, by omega⟩
    exact ref02_var n' (by omega) w
end Go.Proofs.YtokghlmffkboiaaGreat
