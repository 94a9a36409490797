/-
  The walk of the statement OctetBack.
-/
import Derived.Test.YtmhlnjgdlcfkhaaOctetTakesWalk
namespace Go.Proofs.Ytmhlnjgdlcfkhaa
open Go.RowKit
set_option linter.unusedVariables false
set_option linter.unusedSimpArgs false

def msk (n : Int) : Nat := (n % 9223372036854775808).toNat
theorem msk_le (n : Int) : msk n ≤ 9223372036854775807 := by unfold msk; omega
theorem and_max (n : Int) : bits BinOp.and IntKind.i64 n 9223372036854775807 = (msk n : Int) := by
  have h255 : (BitVec.ofInt 64 9223372036854775807).toNat = 2 ^ 63 - 1 := by decide
  have key : (BitVec.ofInt 64 n &&& BitVec.ofInt 64 9223372036854775807).toNat = (n % ((2 ^ 64 : Nat) : Int)).toNat % 2 ^ 63 := by
    rw [BitVec.toNat_and, BitVec.toNat_ofInt, h255, Nat.and_two_pow_sub_one_eq_mod]
  show IntKind.i64.wrap ((BitVec.ofInt 64 n &&& BitVec.ofInt 64 9223372036854775807).toNat : Nat) = (msk n : Int)
  rw [key, IntKind.wrap_i64]
  unfold msk
  omega
theorem and_seven (n : Int) : bits BinOp.and IntKind.i64 n 7 = ((n % 8).toNat : Int) := by
  have h255 : (BitVec.ofInt 64 7).toNat = 2 ^ 3 - 1 := by decide
  have key : (BitVec.ofInt 64 n &&& BitVec.ofInt 64 7).toNat = (n % ((2 ^ 64 : Nat) : Int)).toNat % 2 ^ 3 := by
    rw [BitVec.toNat_and, BitVec.toNat_ofInt, h255, Nat.and_two_pow_sub_one_eq_mod]
  show IntKind.i64.wrap ((BitVec.ofInt 64 n &&& BitVec.ofInt 64 7).toNat : Nat) = _
  rw [key, IntKind.wrap_i64]
  omega
def unn (n : Int) : Nat := (n % 18446744073709551616).toNat
theorem unn_lt (n : Int) : unn n < 18446744073709551616 := by unfold unn; omega
theorem conv_unn (n : Int) : IntKind.u64.wrap n = (unn n : Int) := by rw [IntKind.wrap_u64]; unfold unn; omega

/-- What is put in round i. -/
def part (zs : List Int) (ss : List ByteArray) (nt k : Nat) (i : Nat) : List UInt8 :=
  Oct.varB (msk (zs.getD i 0)) ++ Oct.fixB (unn (zs.getD i 0)) k ++ (if i < nt then Oct.varB (ss.getD i ByteArray.empty).size ++ (ss.getD i ByteArray.empty).data.toList else [])
def allB (zs : List Int) (ss : List ByteArray) (nt k : Nat) : Nat → List UInt8
  | 0 => []
  | i + 1 => allB zs ss nt k i ++ part zs ss nt k i
theorem allB_le (zs : List Int) (ss : List ByteArray) (nt k : Nat) (hk : k ≤ 8) (i : Nat) (h : ∀ j, j < i → j < nt → (ss.getD j ByteArray.empty).size ≤ 100) : (allB zs ss nt k i).length ≤ i * 200 := by
  induction i with
  | zero => simp [allB]
  | succ i ih =>
    have h1 := ih (fun j hj => h j (by omega))
    have h2 := Oct.varB_nine _ (msk_le (zs.getD i 0))
    simp only [allB, part, List.length_append, Oct.fixB_length]
    by_cases hi : i < nt
    · have h3 := h i (by omega) hi
      have h4 := Oct.varB_nine (ss.getD i ByteArray.empty).size (by omega)
      have h5 : (ss.getD i ByteArray.empty).data.toList.length = (ss.getD i ByteArray.empty).size := rfl
      rw [if_pos hi, List.length_append, h5]
      omega
    · rw [if_neg hi, List.length_nil]
      omega
/-- What is left behind round i. -/
theorem allB_split (zs : List Int) (ss : List ByteArray) (nt k i n : Nat) (h : i < n) : ∃ r, allB zs ss nt k n = allB zs ss nt k i ++ (part zs ss nt k i ++ r) := by
  induction n with
  | zero => omega
  | succ n ih =>
    by_cases e : i = n
    · subst e
      exact ⟨[], by simp [allB]⟩
    · obtain ⟨r, hr⟩ := ih (by omega)
      exact ⟨r ++ part zs ss nt k n, by simp only [allB, hr, List.append_assoc]⟩

theorem rest_mid (a b : List UInt8) : rest (str (a ++ b)) a.length = b := by simp [rest, str]
theorem text_back (t : ByteArray) (ht : t.size ≤ 100) (r : List UInt8) : textVal (Oct.varB t.size ++ (t.data.toList ++ r)) 100 = .tuple #[.string t, .int .i64 0] ∧ textLen (Oct.varB t.size ++ (t.data.toList ++ r)) 100 = (Oct.varB t.size).length + t.size := by
  have h1 := Oct.takeVar_varB t.size (by omega) (t.data.toList ++ r)
  have h2 : t.data.toList.length = t.size := rfl
  unfold textVal textLen
  rw [h1]
  simp only
  have a1 : ¬ ((100 : Int) < (t.size : Int)) := by omega
  have a2 : ¬ ((Oct.varB t.size ++ (t.data.toList ++ r)).length - (Oct.varB t.size).length < t.size) := by simp only [List.length_append]; omega
  simp only [if_neg a1, if_neg a2]
  refine ⟨?_, trivial⟩
  rw [List.drop_left, ← h2, List.take_left]
  rfl
theorem back_awake (a : Option Addr) (len cap : Nat) (b : Option Addr) (len1 cap1 : Nat) (z : Int) (w : World) (h0 : len ≤ maxLen) (h1 : len1 ≤ maxLen) (hbig : 20 < len ∨ 20 < len1) :
    Calls Try.prog 7 #[.slice a len cap, .slice b len1 cap1, .int .i64 z] w fun e w' => e = .returned (.bool true) ∧ Below w.heap.size w w' := by
  unfold maxLen at h0 h1
  by_cases h2 : 20 < len
  · go_enter Try.func7, Try.ntmps7
    go_wp2_with (go_at_call 15; refine (awake02 _).mono ?_; rintro e w' ⟨rfl, hb⟩)
    go_ret
    exact ⟨rfl, hb⟩
  · have h3 : 20 < len1 := by omega
    go_enter Try.func7, Try.ntmps7
    go_wp2_with (go_at_call 15; refine (awake02 _).mono ?_; rintro e w' ⟨rfl, hb⟩)
    go_ret
    exact ⟨rfl, hb⟩

set_option maxRecDepth 100000 in
set_option maxHeartbeats 1600000 in
theorem walk_OctetBack (a : Option Addr) (len cap : Nat) (zs : List Int) (b : Option Addr) (len1 cap1 : Nat) (ss : List ByteArray) (z : Int) (w : World) (w0 : IsInts .i64 w a len cap zs) (w1 : IsStrs w b len1 cap1 ss) (w2 : (Lit.int .i64 z).wf = true) :
    Calls Try.prog 7 #[.slice a len cap, .slice b len1 cap1, .int .i64 z] w fun e w' => e = .returned (.bool true) ∧ Below w.heap.size w w' := by
  have hl0 : len ≤ maxLen := by
    rcases isInts_cases w0 with h | ⟨_, _, _, _, h, _⟩
    · unfold maxLen; omega
    · exact h
  have hl1 : len1 ≤ maxLen := by
    rcases isStrs_cases w1 with h | ⟨_, _, _, _, h, _⟩
    · unfold maxLen; omega
    · exact h
  by_cases hbig : 20 < len ∨ 20 < len1
  · exact back_awake a len cap b len1 cap1 z w hl0 hl1 hbig
  have h20 : len ≤ 20 := by omega
  have h201 : len1 ≤ 20 := by omega
  clear hbig hl0 hl1 w2
  obtain ⟨q, hq, hq7⟩ : ∃ q : Nat, bits BinOp.and IntKind.i64 z 7 = (q : Int) ∧ q ≤ 7 := ⟨(z % 8).toNat, and_seven z, by omega⟩
  go_enter Try.func7, Try.ntmps7
  go_wp2_with fail
  have HQ := Lib.hid hq
  clear hq
  go_loopg [8, 9] len (fun g s i wr => ∃ (j : Nat), j ≤ len ∧ g = len - j ∧ i = .int .i64 j ∧ s = .string (str (allB zs ss len1 (q + 1) j)) ∧ Hid (∀ k, k < j → k < len1 → (ss.getD k ByteArray.empty).size ≤ 100) ∧ Below w.heap.size w wr)
  case atStart => exact ⟨0, by omega, rfl, rfl, rfl, Lib.hid (fun k hk => by omega), Below.refl _ _⟩
  case round =>
    obtain ⟨j, hj, hg, rfl, rfl, HT, hbl⟩ := hrel
    have hg := hg.symm
    subst hg
    by_cases hlt : j < len
    · rcases isInts_cases w0 with h0 | ⟨b0, off, rfl, hpos, hmax, hcap, hlb, hcell, hwf⟩
      · omega
      have hv0 := keepB hbl (hcell j hlt) hlb
      have hsz := allB_le zs ss len1 (q + 1) (by omega) j HT.out
      have HBL := Lib.hid hbl
      clear hbl hcell hwf
      obtain ⟨x, HX⟩ : ∃ x, Hid (zs.getD j 0 = x) := ⟨_, Lib.hid rfl⟩
      rw [HX.out] at hv0
      have hm := and_max x
      have hml := msk_le x
      have hu := conv_unn x
      have hul := unn_lt x
      have hvl := Oct.varB_nine _ hml
      have hfl : (fixAny (unn x) (1 + q)) = Oct.fixB (unn x) (q + 1) := by
        unfold fixAny
        rw [if_neg (by omega), show (1 + (q : Int)).toNat = q + 1 by omega]
      generalize hmm : msk x = m at hm hml hvl
      generalize huu : unn x = u at hu hul hfl
      have HF := fun w => octet_fixed_any u (1 + q) hul w
      rw [hfl] at HF
      have HF := Lib.hid HF
      have hadd1 : (str (allB zs ss len1 (q + 1) j)).size + (str (Oct.varB m)).size ≤ 9223372036854775807 := by rw [str_size, str_size]; omega
      have hadd2 : (str (allB zs ss len1 (q + 1) j) ++ str (Oct.varB m)).size + (str (Oct.fixB u (q + 1))).size ≤ 9223372036854775807 := by rw [ByteArray.size_append, str_size, str_size, str_size, Oct.fixB_length]; omega
      have hadd3 : (str (allB zs ss len1 (q + 1) j)).size + (str (Oct.varB m)).size + (str (Oct.fixB u (q + 1))).size ≤ 9223372036854775807 := by rw [str_size, str_size, str_size, Oct.fixB_length]; omega
      have HMM := Lib.hid hmm
      have HUU := Lib.hid huu
      clear hmm huu hfl hvl
      go_wp2_with fail
      go_cut [8] (fun s8 wx => s8 = .string (str (allB zs ss len1 (q + 1) j) ++ str (Oct.varB m) ++ str (Oct.fixB u (q + 1))) ∧ Below wr.heap.size wr wx)
      case first =>
        go_region_with (((first
          | (go_at_call 18; refine (octet_var m hml _).mono ?_; rintro e w3 ⟨rfl, hb3⟩)
          | (go_at_call 16; refine (HF.out _).mono ?_; rintro e w4 ⟨rfl, hb4⟩)); (first | (have hk2 : Below wr.heap.size wr w4 := hk1.trans (hb4.mono hk1.size)) | (have hk2 : Below wr.heap.size wr w3 := hk1.trans (hb3.mono hk1.size)) | (have hk1 : Below wr.heap.size wr w3 := below_undrew hb3; have hc1 := keepB hk1 hv0 (Nat.lt_of_lt_of_le hlb HBL.out.size)) | (have hk1 : Below wr.heap.size wr w4 := below_undrew hb4; have hc1 := keepB hk1 hv0 (Nat.lt_of_lt_of_le hlb HBL.out.size)))))
        all_goals (go_wp2_with fail; go_meet; exact ⟨rfl, hk2⟩)
      case rest =>
        obtain ⟨rfl, hbx⟩ := hcut
        have HBX := Lib.hid (HBL.out.trans (hbx.mono HBL.out.size))
        clear hbx hv0 hm hu hadd1 hadd2 hadd3 hml hul HF
        by_cases hj1 : j < len1
        · rcases isStrs_cases w1 with h0 | ⟨b1, off1, rfl, hpos1, hmax1, hcap1, hlb1, hcell1, hwf1, hll1⟩
          · omega
          have ht := keepB HBX.out (hcell1 j hj1) hlb1
          have htm := hwf1 j hj1
          obtain ⟨t, HTT⟩ : ∃ t, Hid (ss.getD j ByteArray.empty = t) := ⟨_, Lib.hid rfl⟩
          rw [HTT.out] at ht htm
          clear hcell1 hwf1
          have htm' : t.size ≤ 9223372036854775807 := by unfold maxLen at htm; omega
          by_cases h100 : 100 < t.size
          · go_wp2_with (go_at_call 15; refine (awake02 _).mono ?_; rintro e w' ⟨rfl, hb'⟩)
            go_ret
            exact ⟨rfl, HBX.out.trans (hb'.mono HBX.out.size)⟩
          · have hE : str (allB zs ss len1 (q + 1) j) ++ str (Oct.varB m) ++ str (Oct.fixB u (q + 1)) ++ (str (Oct.varB t.size) ++ t) = str (allB zs ss len1 (q + 1) (j + 1)) := by
              have e1 : part zs ss len1 (q + 1) j = Oct.varB m ++ Oct.fixB u (q + 1) ++ (Oct.varB t.size ++ t.data.toList) := by
                unfold part
                rw [if_pos hj1, HX.out, HMM.out, HUU.out, HTT.out]
              have e2 : t = str t.data.toList := by apply ByteArray.ext; simp [str]
              have e3 : allB zs ss len1 (q + 1) (j + 1) = allB zs ss len1 (q + 1) j ++ part zs ss len1 (q + 1) j := rfl
              rw [e3, e1]
              conv => lhs; rw [e2]
              simp only [str_append, List.append_assoc]
              rw [← e2]
            have hvt := Oct.varB_nine t.size htm'
            have hvm := Oct.varB_nine m (by rw [← HMM.out]; exact msk_le x)
            have hlen : (str (allB zs ss len1 (q + 1) j) ++ str (Oct.varB m) ++ str (Oct.fixB u (q + 1))).size + (str (Oct.varB t.size) ++ t).size ≤ 9223372036854775807 := by
              simp only [ByteArray.size_append, str_size, Oct.fixB_length]; omega
            have hlen2 : (str (allB zs ss len1 (q + 1) j)).size + (str (Oct.varB m)).size + (str (Oct.fixB u (q + 1))).size + ((str (Oct.varB t.size)).size + t.size) ≤ 9223372036854775807 := by
              simp only [str_size, Oct.fixB_length]; omega
            have HE := Lib.hid hE
            clear hE hvt hvm
            go_wp2_with (go_at_call 20; refine (octet_text t (by omega) _).mono ?_; rintro e w5 ⟨rfl, hb5⟩)
            rw [HE.out]
            go_roundg (len - (j + 1))
            case measure => omega
            case rel =>
              refine ⟨j + 1, by omega, rfl, by go_num, rfl, Lib.hid (fun k hk hk1 => ?_), HBX.out.trans (hb5.mono HBX.out.size)⟩
              by_cases hkj : k = j
              · subst hkj; rw [HTT.out]; omega
              · exact HT.out k (by omega) hk1
        · have hE : str (allB zs ss len1 (q + 1) j) ++ str (Oct.varB m) ++ str (Oct.fixB u (q + 1)) = str (allB zs ss len1 (q + 1) (j + 1)) := by
            have e1 : part zs ss len1 (q + 1) j = Oct.varB m ++ Oct.fixB u (q + 1) := by
              unfold part
              rw [if_neg hj1, HX.out, HMM.out, HUU.out, List.append_nil]
            have e3 : allB zs ss len1 (q + 1) (j + 1) = allB zs ss len1 (q + 1) j ++ part zs ss len1 (q + 1) j := rfl
            rw [e3, e1]
            simp only [str_append, List.append_assoc]
          have HE := Lib.hid hE
          clear hE
          have hd : decide (j < len1) = false := by simp; omega
          go_wp2_with fail
          rw [HE.out]
          go_roundg (len - (j + 1))
          case measure => omega
          case rel =>
            refine ⟨j + 1, by omega, rfl, by go_num, rfl, Lib.hid (fun k hk hk1 => ?_), HBX.out⟩
            by_cases hkj : k = j
            · omega
            · exact HT.out k (by omega) hk1
    · obtain rfl : j = len := by omega
      have hsz := allB_le zs ss len1 (q + 1) (by omega) j HT.out
      have HBL := Lib.hid hbl
      clear hbl
      have hS : (str (allB zs ss len1 (q + 1) j)).size = (allB zs ss len1 (q + 1) j).length := str_size _
      have hSm : (str (allB zs ss len1 (q + 1) j)).size ≤ maxLen := by rw [hS]; unfold maxLen; omega
      have HS := Lib.hid hS
      clear hS
      go_wp2_with fail
      refine (octet_new _ _).mono ?_
      rintro e w2 ⟨rfl, hc2, hb2, hz2⟩
      have HB2 := Lib.hid (HBL.out.trans (hb2.mono HBL.out.size))
      obtain ⟨B, HB⟩ : ∃ B, Hid (wr.heap.size = B) := ⟨_, Lib.hid rfl⟩
      have hwB : w.heap.size ≤ B := by rw [← HB.out]; exact HBL.out.size
      rw [HB.out] at hc2 ⊢
      clear hb2 hz2 HBL
      clear HB
      go_wp2_with fail
      go_loopg [11] j (fun g i11 wx => ∃ (i : Nat), i ≤ j ∧ g = j - i ∧ i11 = .int .i64 i ∧ Cur wx B (str (allB zs ss len1 (q + 1) j)) (allB zs ss len1 (q + 1) i).length ∧ Below w.heap.size w wx)
      case atStart => exact ⟨0, by omega, rfl, rfl, hc2, HB2.out⟩
      case round =>
        obtain ⟨i, hi, hg, rfl, hcur, hbl⟩ := hrel
        have hg := hg.symm
        subst hg
        clear hc2 HB2
        have HC := Lib.hid hcur
        have HBL := Lib.hid hbl
        clear hcur hbl
        by_cases hlt : i < j
        · obtain ⟨r, hr⟩ := allB_split zs ss len1 (q + 1) i j hlt
          rcases isInts_cases w0 with h0 | ⟨b0, off, rfl, hpos, hmax, hcap, hlb, hcell, hwf⟩
          · omega
          have hv0 := keepB HBL.out (hcell i hlt) hlb
          obtain ⟨x, HX⟩ : ∃ x, Hid (zs.getD i 0 = x) := ⟨_, Lib.hid rfl⟩
          rw [HX.out] at hv0
          have HV0 := Lib.hid (hcell i hlt)
          clear hcell hwf
          have hS : (str (allB zs ss len1 (q + 1) j)).size = (allB zs ss len1 (q + 1) j).length := HS.out
          have hlen := congrArg List.length hr
          have hp : (part zs ss len1 (q + 1) i).length = (Oct.varB (msk x)).length + (q + 1) + (if i < len1 then Oct.varB (ss.getD i ByteArray.empty).size ++ (ss.getD i ByteArray.empty).data.toList else []).length := by
            unfold part; rw [HX.out]; simp only [List.length_append, Oct.fixB_length]
          obtain ⟨tx, htx⟩ : ∃ tx, (if i < len1 then Oct.varB (ss.getD i ByteArray.empty).size ++ (ss.getD i ByteArray.empty).data.toList else []) = tx := ⟨_, rfl⟩
          have hpart : part zs ss len1 (q + 1) i = Oct.varB (msk x) ++ Oct.fixB (unn x) (q + 1) ++ tx := by unfold part; rw [HX.out, htx]
          rw [htx] at hp
          simp only [List.length_append] at hlen
          have HSM := hSm
          -- the number
          have R1 : rest (str (allB zs ss len1 (q + 1) j)) (allB zs ss len1 (q + 1) i).length = Oct.varB (msk x) ++ (Oct.fixB (unn x) (q + 1) ++ (tx ++ r)) := by
            rw [hr, rest_mid, hpart]; simp only [List.append_assoc]
          have R2 : rest (str (allB zs ss len1 (q + 1) j)) ((allB zs ss len1 (q + 1) i).length + (Oct.varB (msk x)).length) = Oct.fixB (unn x) (q + 1) ++ (tx ++ r) := by
            rw [rest_drop, R1, List.drop_left]
          have R3 : rest (str (allB zs ss len1 (q + 1) j)) ((allB zs ss len1 (q + 1) i).length + (Oct.varB (msk x)).length + (q + 1)) = tx ++ r := by
            have h1 := rest_drop (str (allB zs ss len1 (q + 1) j)) ((allB zs ss len1 (q + 1) i).length + (Oct.varB (msk x)).length) (q + 1)
            rw [R2] at h1
            rw [h1]
            have h2 := List.drop_left (l₁ := Oct.fixB (unn x) (q + 1)) (l₂ := tx ++ r)
            rwa [Oct.fixB_length] at h2
          have F1 := cur_var B (str (allB zs ss len1 (q + 1) j)) (allB zs ss len1 (q + 1) i).length hSm (by rw [hS]; omega) _ HC.out
          rw [R1, Oct.takeVar_varB _ (msk_le x)] at F1
          simp only [varVal, tookLen] at F1
          have F2 := fun (w : World) => cur_fixed B (str (allB zs ss len1 (q + 1) j)) ((allB zs ss len1 (q + 1) i).length + (Oct.varB (msk x)).length) (q + 1) hSm (by rw [hS]; omega) (by omega) (by omega) w
          have e4 : (Oct.fixB (unn x) (q + 1) ++ (tx ++ r)).take (q + 1) = Oct.fixB (unn x) (q + 1) := by
            have h2 := List.take_left (l₁ := Oct.fixB (unn x) (q + 1)) (l₂ := tx ++ r)
            rwa [Oct.fixB_length] at h2
          rw [R2, e4, Oct.numFrom_fixB, show ((q + 1 : Nat) : Int) = 1 + (q : Int) by omega] at F2
          have hy8 : q = 7 → unn x % 256 ^ (q + 1) = unn x := by
            rintro rfl
            have := unn_lt x
            have e : (256 : Nat) ^ (7 + 1) = 18446744073709551616 := by decide
            rw [e, Nat.mod_eq_of_lt this]
          obtain ⟨y, hy⟩ : ∃ y, unn x % 256 ^ (q + 1) = y := ⟨_, rfl⟩
          rw [hy] at F2 hy8
          have hm := and_max x
          have hu := conv_unn x
          generalize hmm : msk x = m at *
          generalize huu : unn x = u at *
          have F1 := Lib.hid F1
          have F2 := Lib.hid F2
          have R3 := Lib.hid R3
          have HLEN := Lib.hid hlen
          have HP := Lib.hid hp
          have HTX := Lib.hid htx
          have HPART := Lib.hid hpart
          have HR := Lib.hid hr
          clear R1 R2 e4 hy hlen hp htx hpart hr hmm huu hS
          go_wp2_with fail
          refine F1.out.mono ?_
          rintro e w3 ⟨rfl, hc3, hg3, hz3⟩
          have HC3 := Lib.hid hc3
          have HB3 := Lib.hid (below_gby HBL.out hg3 hwB HBL.out.size)
          clear hc3 hg3 hz3
          go_wp2_with fail
          refine (F2.out _ HC3.out).mono ?_
          rintro e w4 ⟨rfl, hc4, hg4⟩
          have HC4 := Lib.hid hc4
          have HB4 := Lib.hid (below_gby HB3.out hg4 hwB HB3.out.size)
          clear hc4 hg4
          have hv4 : w4.cell? ⟨b0, off + i, none⟩ = some (.int .i64 x) := (HB4.out.cell hlb).trans (by rw [HV0.out, HX.out])
          clear hv0
          have hnext : (allB zs ss len1 (q + 1) (i + 1)).length = (allB zs ss len1 (q + 1) i).length + (Oct.varB m).length + (q + 1) + tx.length := by
            have e : allB zs ss len1 (q + 1) (i + 1) = allB zs ss len1 (q + 1) i ++ part zs ss len1 (q + 1) i := rfl
            rw [e, List.length_append, HP.out]; omega
          have hsz2 := HLEN.out
          rw [HP.out] at hsz2
          have hSz := HS.out
          have h8 : ((1 + (q : Int)) == 8) = true ∧ y = u ∨ ((1 + (q : Int)) == 8) = false := by
            by_cases h7 : q = 7
            · exact .inl ⟨by simp; omega, hy8 h7⟩
            · exact .inr (by simp; omega)
          by_cases hi1 : i < len1
          · rcases isStrs_cases w1 with h0 | ⟨b1, off1, rfl, hpos1, hmax1, hcap1, hlb1, hcell1, hwf1, hll1⟩
            · omega
            have ht := keepB HB4.out (hcell1 i hi1) hlb1
            have HT1 := Lib.hid (hcell1 i hi1)
            obtain ⟨t, HTT⟩ : ∃ t, Hid (ss.getD i ByteArray.empty = t) := ⟨_, Lib.hid rfl⟩
            have ht100 := HT.out i hlt hi1
            have htx := HTX.out
            rw [if_pos hi1] at htx
            rw [HTT.out] at ht ht100 htx
            clear hcell1 hwf1
            have F3 := fun (w : World) => cur_text B (str (allB zs ss len1 (q + 1) j)) ((allB zs ss len1 (q + 1) i).length + (Oct.varB m).length + (q + 1)) 100 hSm (by rw [hSz]; omega) w
            obtain ⟨tb1, tb2⟩ := text_back t ht100 r
            rw [R3.out, ← htx, List.append_assoc, tb1, tb2] at F3
            have hn : (allB zs ss len1 (q + 1) i).length + (Oct.varB m).length + (q + 1) + ((Oct.varB t.size).length + t.size) = (allB zs ss len1 (q + 1) (i + 1)).length := by
              rw [hnext, ← htx, List.length_append]; rfl
            rw [hn] at F3
            have F3 := Lib.hid F3
            have htm : t.size ≤ 9223372036854775807 := by omega
            clear htx tb1 tb2 hn hnext hsz2 hSz hy8 ht
            rcases h8 with ⟨h8, rfl⟩ | h8
            all_goals
              go_wp2_with fail
              refine (F3.out _ HC4.out).mono ?_
              rintro e w5 ⟨rfl, hc5, hg5, hz5⟩
              have HC5 := Lib.hid hc5
              have HB5 := Lib.hid (below_gby HB4.out hg5 hwB HB4.out.size)
              clear hc5 hg5 hz5
              have ht5 : w5.cell? ⟨b1, off1 + i, none⟩ = some (.string t) := (HB5.out.cell hlb1).trans (by rw [HT1.out, HTT.out])
              clear hv4 hu hm
              go_wp2_with fail
              go_roundg (j - (i + 1))
              case measure => omega
              case rel => exact ⟨i + 1, by omega, rfl, by go_num, HC5.out, HB5.out⟩
          · have htx := HTX.out
            rw [if_neg hi1] at htx
            subst htx
            have hd : decide (i < len1) = false := by simp; omega
            have HN := Lib.hid hnext
            clear hnext hsz2 hSz hy8
            rcases h8 with ⟨h8, rfl⟩ | h8
            all_goals
              go_wp2_with fail
              go_roundg (j - (i + 1))
              case measure => omega
              case rel => exact ⟨i + 1, by omega, rfl, by go_num, by rw [HN.out]; exact HC4.out, HB4.out⟩
        · obtain rfl : i = j := by omega
          have L := fun (w : World) => cur_left B (str (allB zs ss len1 (q + 1) i)) (allB zs ss len1 (q + 1) i).length hSm (by rw [HS.out]; exact Nat.le_refl _) w
          rw [HS.out, Nat.sub_self] at L
          have L := Lib.hid L
          have hs0 := HBL.out.size
          go_wp2_with (first | (go_at_call 29; refine (L.out _ HC.out).mono ?_; rintro e w3 ⟨rfl, rfl⟩) | (go_at_call 15; refine (awake02 _).mono ?_; rintro e w4 ⟨rfl, hb4⟩))
          go_ret
          exact ⟨rfl, HBL.out.trans ((below_undrew hb4).mono hs0)⟩
end Go.Proofs.Ytmhlnjgdlcfkhaa
