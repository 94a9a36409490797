/-
  What the cursor of package octet computes (reeve's layer 2), and the reference's, as contracts.
-/
import Derived.Test.YtokghlmffkboiaaGreatOctet
import Derived.Test.YtokghlmffkboiaaGreatCursorMath
namespace Go.Proofs.YtokghlmffkboiaaGreat
open Go.RowKit
set_option linter.unusedVariables false
set_option linter.unusedSimpArgs false

/-- A cursor over s at a place. -/
def Cur (w : World) (b : Nat) (s : ByteArray) (a : Nat) : Prop := Blk w b #[.string s, .int .i64 a] 132
/-- What is left. -/
def rest (s : ByteArray) (a : Nat) : List UInt8 := s.data.toList.drop a
theorem rest_length (s : ByteArray) (a : Nat) : (rest s a).length = s.size - a := by unfold rest; rw [List.length_drop]; rfl
theorem Cur.s {w : World} {b : Nat} {s : ByteArray} {a : Nat} (h : Cur w b s a) : w.cell? ⟨b, 0, none⟩ = some (.string s) := Blk.cell h rfl
theorem Cur.a {w : World} {b : Nat} {s : ByteArray} {a : Nat} (h : Cur w b s a) : w.cell? ⟨b, 1, none⟩ = some (.int .i64 a) := Blk.cell h rfl

theorem extract_take (s : ByteArray) (a k : Nat) : s.extract a (a + k) = str ((rest s a).take k) := by
  apply ByteArray.ext
  apply Array.ext'
  simp [str, rest, ByteArray.data_extract, List.extract_eq_take_drop]
theorem rest_get (s : ByteArray) (a j : Nat) (h : a + j < s.size) : s[a + j].toNat = ((rest s a).getD j 0).toNat := by
  have e : (rest s a)[j]? = some s[a + j] := by
    unfold rest
    rw [List.getElem?_drop, List.getElem?_eq_getElem (by exact h)]
    rfl
  rw [List.getD_eq_getElem?_getD, e]; rfl
theorem octet_new (s : ByteArray) (w : World) : Calls Tryz.prog 69 #[.string s] w fun e w' => e = .returned (.pointer (some ⟨w.heap.size, 0, none⟩)) ∧ Cur w' w.heap.size s 0 ∧ Below w.heap.size w w' ∧ w'.heap.size = w.heap.size + 1 := by
  go_enter Tryz.func69, Tryz.ntmps69
  go_wp2
  go_ret
  refine ⟨rfl, ?_, by go_grown, by simp⟩
  exact Blk.new w _ _

theorem cur_left (b : Nat) (s : ByteArray) (a : Nat) (hs : s.size ≤ maxLen) (ha : a ≤ s.size) (w : World) (h : Cur w b s a) :
    Calls Tryz.prog 78 #[.pointer (some ⟨b, 0, none⟩)] w fun e w' => e = .returned (.int .i64 ((s.size - a : Nat) : Int)) ∧ w.drew = w' := by
  have h0 := h.s
  have h1 := h.a
  have hs' : (s.size : Int) ≤ 9223372036854775807 := by unfold maxLen at hs; omega
  have hw : IntKind.i64.wrap ((s.size : Int) - (a : Int)) = ((s.size - a : Nat) : Int) := by rw [IntKind.wrap_i64]; omega
  go_enter Tryz.func78, Tryz.ntmps78
  go_wp2_with fail
  go_region
  go_wp2
  go_ret
  exact ⟨rfl, rfl⟩
theorem nil_left (w : World) :
    Calls Tryz.prog 78 #[.pointer none] w fun e w' => e = .returned (.int .i64 0) ∧ w = w' := by
  go_enter Tryz.func78, Tryz.ntmps78
  go_wp2
  go_ret
  exact ⟨rfl, rfl⟩
theorem cur_step (b : Nat) (s : ByteArray) (a k : Nat) (hs : s.size ≤ maxLen) (ha : a + k ≤ s.size) (w : World) (h : Cur w b s a) :
    Calls Tryz.prog 93 #[.pointer (some ⟨b, 0, none⟩), .int .i64 k] w fun e w' => e = .returned (.string (str ((rest s a).take k))) ∧ Cur w' b s (a + k) ∧ w.grownBy w' (some b) ∧ w'.heap.size = w.heap.size := by
  have h0 := h.s
  have h1 := h.a
  have hf := Blk.free h 1
  have hs' : (s.size : Int) ≤ 9223372036854775807 := by unfold maxLen at hs; omega
  have hw : IntKind.i64.wrap ((a : Int) + (k : Int)) = (a : Int) + k := by rw [IntKind.wrap_i64]; omega
  have hk0 : (a : Int) ≤ (a : Int) + k := by omega
  have hk1 : (a : Int) + k ≤ (s.size : Int) := by omega
  go_enter Tryz.func93, Tryz.ntmps93
  go_wp2_with fail
  go_region
  go_wp2
  go_ret
  refine ⟨by rw [extract_take]; rfl, ?_, gby_drew (gby_set (gby_refl _ _) _ _), by simp⟩
  exact (Blk.set h 1 (.int .i64 ((a + k : Nat) : Int))).drew
set_option maxRecDepth 100000 in
set_option maxHeartbeats 800000 in
theorem cur_size (b : Nat) (s : ByteArray) (a : Nat) (hs : s.size ≤ maxLen) (ha : a ≤ s.size) (w : World) (h : Cur w b s a) :
    Calls Tryz.prog 100 #[.pointer (some ⟨b, 0, none⟩)] w fun e w' => e = .returned (.int .i64 (Oct.sizeN (rest s a) : Nat)) ∧ ∃ m, w' = w.drewN m := by
  have h0 := h.s
  have h1 := h.a
  have hs' : (s.size : Int) ≤ 9223372036854775807 := by unfold maxLen at hs; omega
  go_enter Tryz.func100, Tryz.ntmps100
  go_wp2_with (go_at_call 78; refine (cur_left b s a hs ha _ h).mono ?_; rintro e w1 ⟨rfl, rfl⟩)
  go_loopg [3, 6] (s.size - a) (fun g x i wr => ∃ (j m : Nat), j ≤ s.size - a ∧ g = s.size - a - j ∧ i = .int .i64 j ∧ wr = w.drewN m ∧ Hid (∀ k, k < j → 128 ≤ ((rest s a).getD k 0).toNat))
  case atStart => exact ⟨0, 1, by omega, rfl, rfl, rfl, Lib.hid (fun k hk => by omega)⟩
  case round =>
    obtain ⟨j, m, hj, hg, rfl, rfl, HM⟩ := hrel
    have hg := hg.symm
    subst hg
    by_cases hlt : j < s.size - a
    · have hw : IntKind.i64.wrap ((a : Int) + (j : Int)) = (a : Int) + j := by rw [IntKind.wrap_i64]; omega
      have hk0 : (0 : Int) ≤ (a : Int) + j := by omega
      have hk1 : (a : Int) + j < (s.size : Int) := by omega
      have hx := rest_get s a j (by omega)
      have HX := Lib.hid (show ((rest s a).getD j 0).toNat = ((rest s a).getD j 0).toNat from rfl)
      obtain ⟨x, HX⟩ : ∃ x, Hid (((rest s a).getD j 0).toNat = x) := ⟨_, Lib.hid rfl⟩
      rw [HX.out] at hx
      by_cases hlx : x < 128
      · have he : Oct.endOf (rest s a) = j := Oct.endOf_eq _ j (by rw [rest_length]; omega) HM.out (.inr (by rw [HX.out]; exact hlx))
        have HE := Lib.hid he
        clear he
        go_wp2_with fail
        go_region
        go_wp2_with fail
        go_ret
        exact ⟨by rw [Oct.sizeN_some (by rw [HE.out, rest_length]; omega), HE.out]; rfl, _, rfl⟩
      · go_wp2_with fail
        go_region
        go_wp2_with fail
        go_roundg (s.size - a - (j + 1))
        case measure => omega
        case rel =>
          refine ⟨j + 1, m + 1, by omega, rfl, by go_num, rfl, Lib.hid (fun k hk => ?_)⟩
          by_cases hkj : k = j
          · subst hkj; rw [HX.out]; omega
          · exact HM.out k (by omega)
    · obtain rfl : j = s.size - a := by omega
      have he : Oct.endOf (rest s a) = s.size - a := Oct.endOf_eq _ _ (by rw [rest_length]; omega) HM.out (.inl (rest_length s a).symm)
      have HE := Lib.hid he
      clear he
      go_wp2_with fail
      go_ret
      exact ⟨by rw [Oct.sizeN_none (by rw [HE.out, rest_length])]; rfl, _, rfl⟩

theorem nil_size (w : World) :
    Calls Tryz.prog 100 #[.pointer none] w fun e w' => e = .returned (.int .i64 0) ∧ ∃ m, w' = w.drewN m := by
  go_enter Tryz.func100, Tryz.ntmps100
  go_wp2_with (go_at_call 78; refine (nil_left _).mono ?_; rintro e w1 ⟨rfl, rfl⟩)
  refine wp_loop_rounds 1 ?_
  rw [rounds_succ]
  go_wp2_with fail
  go_ret
  exact ⟨rfl, 0, rfl⟩

/-- What peek and Var answer. -/
def tookVal : Oct.Took → Value
  | .short => .tuple #[.int .i64 0, .int .i64 0, .int .i64 3]
  | .form => .tuple #[.int .i64 0, .int .i64 0, .int .i64 2]
  | .num n k => .tuple #[.int .i64 n, .int .i64 k, .int .i64 0]
set_option maxRecDepth 100000 in
set_option maxHeartbeats 1600000 in
theorem cur_peek (b : Nat) (s : ByteArray) (a : Nat) (hs : s.size ≤ maxLen) (ha : a ≤ s.size) (w : World) (h : Cur w b s a) :
    Calls Tryz.prog 94 #[.pointer (some ⟨b, 0, none⟩)] w fun e w' => e = .returned (tookVal (Oct.takeVar (rest s a))) ∧ ∃ m, w' = w.drewN m := by
  have h0 := h.s
  have h1 := h.a
  have hs' : (s.size : Int) ≤ 9223372036854775807 := by unfold maxLen at hs; omega
  have hle := Oct.sizeN_le (rest s a)
  rw [rest_length] at hle
  have HS := cur_size b s a hs ha w h
  obtain ⟨z, HZ⟩ : ∃ z, Hid (Oct.sizeN (rest s a) = z) := ⟨_, Lib.hid rfl⟩
  rcases Oct.takeVar_cases (rest s a) with ⟨hz, ht⟩ | ⟨hz, ht⟩ | ⟨hz, hz9, hl, ht⟩ | ⟨hz, hz9, hl, ht⟩
  · rw [hz, show ((0 : Nat) : Int) = 0 from rfl] at HS
    rw [ht]
    have HS := Lib.hid HS
    clear hz hle ht
    go_enter Tryz.func94, Tryz.ntmps94
    go_wp2_with (go_at_call 100; refine HS.out.mono ?_; rintro e w1 ⟨rfl, m, rfl⟩)
    go_ret3
    exact ⟨rfl, m, rfl⟩
  · rw [HZ.out] at HS hz hle
    rw [ht]
    have HS := Lib.hid HS
    have hz0 : ((z : Int) == 0) = false := by simp; omega
    have hz9 : (9 : Int) < (z : Int) := by omega
    clear ht
    go_enter Tryz.func94, Tryz.ntmps94
    go_wp2_with (go_at_call 100; refine HS.out.mono ?_; rintro e w1 ⟨rfl, m, rfl⟩)
    go_region
    go_wp2_with fail
    go_ret3
    exact ⟨rfl, m + 1, rfl⟩
  · rw [HZ.out] at HS hz hz9 hle hl
    obtain ⟨y, rfl⟩ : ∃ y, z = y + 1 := ⟨z - 1, by omega⟩
    rw [ht]
    rw [show ((y + 1 : Nat) : Int) = (y : Int) + 1 from rfl] at HS
    have HS := Lib.hid HS
    clear ht
    have hx := rest_get s a y (by omega)
    rw [Nat.add_sub_cancel] at hl
    rw [hl] at hx
    have hz0 : ((y : Int) + 1 == 0) = false := by simp; omega
    have hw1 : IntKind.i64.wrap ((a : Int) + ((y : Int) + 1)) = (a : Int) + ((y : Int) + 1) := by rw [IntKind.wrap_i64]; omega
    have hw2 : IntKind.i64.wrap ((a : Int) + ((y : Int) + 1) - 1) = (a : Int) + y := by rw [IntKind.wrap_i64]; omega
    have hk0 : (0 : Int) ≤ (a : Int) + y := by omega
    have hk1 : (a : Int) + y < (s.size : Int) := by omega
    have hy9 : decide ((9 : Int) < (y : Int) + 1) = false := by simp; omega
    have hy1 : decide ((1 : Int) < (y : Int) + 1) = true := by simp; omega
    go_enter Tryz.func94, Tryz.ntmps94
    go_wp2_with (go_at_call 100; refine HS.out.mono ?_; rintro e w1 ⟨rfl, m, rfl⟩)
    go_region
    go_wp2_with fail
    go_ret3
    exact ⟨rfl, m + 1, rfl⟩
  · rw [HZ.out] at HS hz hz9 hle hl
    obtain ⟨y, rfl⟩ : ∃ y, z = y + 1 := ⟨z - 1, by omega⟩
    rw [ht]
    rw [show ((y + 1 : Nat) : Int) = (y : Int) + 1 from rfl] at HS
    have HS := Lib.hid HS
    clear ht
    have hx := rest_get s a y (by omega)
    rw [Nat.add_sub_cancel] at hl
    obtain ⟨x, HX⟩ : ∃ x, Hid (((rest s a).getD y 0).toNat = x) := ⟨_, Lib.hid rfl⟩
    rw [HX.out] at hx hl
    have hz0 : ((y : Int) + 1 == 0) = false := by simp; omega
    have hw1 : IntKind.i64.wrap ((a : Int) + ((y : Int) + 1)) = (a : Int) + ((y : Int) + 1) := by rw [IntKind.wrap_i64]; omega
    have hw2 : IntKind.i64.wrap ((a : Int) + ((y : Int) + 1) - 1) = (a : Int) + y := by rw [IntKind.wrap_i64]; omega
    have hk0 : (0 : Int) ≤ (a : Int) + y := by omega
    have hk1 : (a : Int) + y < (s.size : Int) := by omega
    have hy9 : decide ((9 : Int) < (y : Int) + 1) = false := by simp; omega
    go_enter Tryz.func94, Tryz.ntmps94
    go_wp2_with (go_at_call 100; refine HS.out.mono ?_; rintro e w1 ⟨rfl, m, rfl⟩)
    go_upto_region 6 with fail
    go_cut [13] (fun s13 wx => s13 = .bool false ∧ ∃ m', wx = w.drewN m')
    case first =>
      by_cases hy : y = 0
      · have hy1 : decide ((1 : Int) < (y : Int) + 1) = false := by simp; omega
        clear hy
        go_region
        go_wp2_with fail
        go_meet
        exact ⟨rfl, m + 1, rfl⟩
      · have hy1 : decide ((1 : Int) < (y : Int) + 1) = true := by simp; omega
        have hx0 : ((x : Int) == 0) = false := by
          have : x ≠ 0 := fun h => hl ⟨by omega, h⟩
          simp; omega
        clear hy
        go_region
        go_wp2_with fail
        go_meet
        exact ⟨rfl, m + 1, rfl⟩
    case rest =>
      obtain ⟨rfl, m', rfl⟩ := hcut
      go_wp2_with fail
      clear hw1 hw2 hx hk0 hk1 hy9
      obtain ⟨l, HL⟩ : ∃ l, Hid (l = (rest s a).take (y + 1)) := ⟨_, Lib.hid rfl⟩
      have hll : l.length = y + 1 := by rw [HL.out, List.length_take, rest_length]; omega
      go_loopg [6, 7] (y + 1) (fun g n i wr => ∃ (k q v : Nat), k ≤ y + 1 ∧ g = k ∧ i = .int .i64 ((k : Int) - 1) ∧ n = .int .i64 v ∧ v = Oct.valFrom l k ∧ wr = w.drewN q)
      case atStart =>
        refine ⟨y + 1, m', 0, by omega, rfl, by go_num, rfl, ?_, rfl⟩
        rw [← hll, Oct.valFrom_end]
      case round =>
        obtain ⟨k, q, v, hk, hg, rfl, rfl, hv, rfl⟩ := hrel
        have hg := hg.symm
        subst hg
        by_cases h0 : k = 0
        · subst h0
          have HV := Lib.hid hv
          clear hv
          go_wp2_with fail
          go_ret3
          refine ⟨?_, q, rfl⟩
          rw [HV.out, Oct.valFrom_all, HL.out, HZ.out]
          rfl
        · obtain ⟨j, rfl⟩ : ∃ j, k = j + 1 := ⟨k - 1, by omega⟩
          have hw1 : IntKind.i64.wrap ((a : Int) + (j : Int)) = (a : Int) + j := by rw [IntKind.wrap_i64]; omega
          have hk0 : (0 : Int) ≤ (a : Int) + j := by omega
          have hk1 : (a : Int) + j < (s.size : Int) := by omega
          have hx := rest_get s a j (by omega)
          have hst := Oct.valFrom_step l j (by omega)
          have hlt := Oct.valFrom_lt l j (by omega)
          have hgl : (l.getD j 0) = (rest s a).getD j 0 := by
            rw [HL.out, List.getD_eq_getElem?_getD, List.getD_eq_getElem?_getD, List.getElem?_take_of_lt (by omega)]
          rw [hgl, ← hv] at hst
          rw [← hv] at hlt
          obtain ⟨t, HT⟩ : ∃ t, Hid (((rest s a).getD j 0).toNat = t) := ⟨_, Lib.hid rfl⟩
          rw [HT.out] at hx hst
          have ht : t < 256 := by rw [← HT.out]; exact UInt8.toNat_lt _
          have HST := Lib.hid hst
          have HV := Lib.hid hv
          clear hst hv hgl
          obtain ⟨r, hr⟩ : ∃ r, r = t % 128 := ⟨_, rfl⟩
          obtain ⟨p, hp⟩ : ∃ p, p = 128 * v := ⟨_, rfl⟩
          obtain ⟨v', hv'⟩ : ∃ v', v' = r + p := ⟨_, rfl⟩
          have b1 : bits BinOp.and IntKind.u8 (t : Int) 127 = (r : Int) := by rw [Oct.u8_and127 t ht, hr]
          have b2 : IntKind.i64.wrap ((v : Int) * 128) = (p : Int) := by rw [IntKind.wrap_i64]; omega
          have b3 : bits BinOp.or IntKind.i64 (p : Int) (r : Int) = (v' : Int) := by rw [hp, Oct.or_low v r hlt (by omega), hv', hp]
          have b4 : IntKind.i64.wrap (r : Int) = (r : Int) := by rw [IntKind.wrap_i64]; omega
          have HV' := Lib.hid (show v' = Oct.valFrom l j by rw [HST.out, hv', hr, hp])
          clear hr hp hv'
          go_wp2_with fail
          go_region
          go_wp2_with fail
          go_roundg j
          case measure => omega
          case rel => exact ⟨j, q + 1, v', by omega, rfl, by go_num, rfl, HV'.out, rfl⟩

theorem nil_peek (w : World) :
    Calls Tryz.prog 94 #[.pointer none] w fun e w' => e = .returned (tookVal .short) ∧ ∃ m, w' = w.drewN m := by
  go_enter Tryz.func94, Tryz.ntmps94
  go_wp2_with (go_at_call 100; refine (nil_size _).mono ?_; rintro e w1 ⟨rfl, m, rfl⟩)
  go_ret3
  exact ⟨rfl, m, rfl⟩
theorem nil_var (w : World) :
    Calls Tryz.prog 74 #[.pointer none] w fun e w' => e = .returned (.tuple #[.int .i64 0, .int .i64 3]) ∧ ∃ m, w' = w.drewN m := by
  go_enter Tryz.func74, Tryz.ntmps74
  go_wp2_with (go_at_call 94; refine (nil_peek _).mono ?_; rw [tookVal]; rintro e w1 ⟨rfl, m, rfl⟩)
  go_ret2
  exact ⟨rfl, m, rfl⟩

/-- What Var answers, and how many bytes are taken. -/
def varVal : Oct.Took → Value
  | .short => .tuple #[.int .i64 0, .int .i64 3]
  | .form => .tuple #[.int .i64 0, .int .i64 2]
  | .num n _ => .tuple #[.int .i64 n, .int .i64 0]
def tookLen : Oct.Took → Nat
  | .short => 0
  | .form => 0
  | .num _ k => k
/-- The cursor has gone on by so many bytes; nothing else has turned. -/
def Went (b : Nat) (s : ByteArray) (a : Nat) (w w' : World) : Prop := Cur w' b s a ∧ w.grownBy w' (some b) ∧ w'.heap.size = w.heap.size
theorem Cur.drewN {w : World} {b : Nat} {s : ByteArray} {a m : Nat} (h : Cur w b s a) : Cur (w.drewN m) b s a := h
theorem went_drewN {w : World} {b : Nat} {s : ByteArray} {a : Nat} (h : Cur w b s a) (m : Nat) : Went b s a w (w.drewN m) := ⟨h.drewN, gby_drewN (gby_refl _ _) _, rfl⟩

set_option maxRecDepth 100000 in
set_option maxHeartbeats 800000 in
theorem cur_var (b : Nat) (s : ByteArray) (a : Nat) (hs : s.size ≤ maxLen) (ha : a ≤ s.size) (w : World) (h : Cur w b s a) :
    Calls Tryz.prog 74 #[.pointer (some ⟨b, 0, none⟩)] w fun e w' => e = .returned (varVal (Oct.takeVar (rest s a))) ∧ Went b s (a + tookLen (Oct.takeVar (rest s a))) w w' := by
  have HP := cur_peek b s a hs ha w h
  cases ht : Oct.takeVar (rest s a) with
  | short =>
    rw [ht, tookVal] at HP
    have HP := Lib.hid HP
    clear ht
    go_enter Tryz.func74, Tryz.ntmps74
    go_wp2_with (go_at_call 94; refine HP.out.mono ?_; rintro e w1 ⟨rfl, m, rfl⟩)
    go_ret2
    exact ⟨rfl, went_drewN h m⟩
  | form =>
    rw [ht, tookVal] at HP
    have HP := Lib.hid HP
    clear ht
    go_enter Tryz.func74, Tryz.ntmps74
    go_wp2_with (go_at_call 94; refine HP.out.mono ?_; rintro e w1 ⟨rfl, m, rfl⟩)
    go_ret2
    exact ⟨rfl, went_drewN h m⟩
  | num n k =>
    rw [ht, tookVal] at HP
    have HP := Lib.hid HP
    have hk := (Oct.takeVar_num _ n k ht).1
    rw [rest_length] at hk
    clear ht
    go_enter Tryz.func74, Tryz.ntmps74
    go_wp2_with (go_at_call 94; refine HP.out.mono ?_; rintro e w1 ⟨rfl, m, rfl⟩)
    go_wp2_with (go_at_call 93; refine (cur_step b s a k hs (by omega) _ h.drewN).mono ?_; rintro e w2 ⟨rfl, hc, hg, hz⟩)
    go_ret2
    exact ⟨rfl, hc, gby_undrewN hg, hz⟩

/-- What Text answers of at most so many bytes, and how many bytes are taken. -/
def textVal (l : List UInt8) (most : Int) : Value :=
  match Oct.takeVar l with
  | .short => .tuple #[.string (str []), .int .i64 3]
  | .form => .tuple #[.string (str []), .int .i64 2]
  | .num n k => if most < n then .tuple #[.string (str []), .int .i64 9] else if l.length - k < n then .tuple #[.string (str []), .int .i64 3] else .tuple #[.string (str ((l.drop k).take n)), .int .i64 0]
def textLen (l : List UInt8) (most : Int) : Nat :=
  match Oct.takeVar l with
  | .short => 0
  | .form => 0
  | .num n k => if most < n then 0 else if l.length - k < n then 0 else k + n
theorem rest_drop (s : ByteArray) (a k : Nat) : rest s (a + k) = (rest s a).drop k := by unfold rest; rw [List.drop_drop]

end Go.Proofs.YtokghlmffkboiaaGreat
