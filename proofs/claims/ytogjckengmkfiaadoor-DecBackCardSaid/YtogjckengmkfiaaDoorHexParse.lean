/-
  Signs as bytes (reeve's layer 5): ParseHex; the program's walk, and the reference's.
-/
import Derived.Test.YtogjckengmkfiaaDoorHexRune
import Derived.Laws.BytesArg
namespace Go.Proofs.YtogjckengmkfiaaDoor
open Go.RowKit
set_option linter.unusedVariables false
set_option linter.unusedSimpArgs false

theorem idx_byte (x : UInt8) (h : plc x < 16) (w : World) : Calls Tryd.prog 68 #[.string ⟨#[48, 49, 50, 51, 52, 53, 54, 55, 56, 57, 97, 98, 99, 100, 101, 102]⟩, .int .u8 x.toNat] w fun e w' => e = .returned (.int .i64 (plc x)) ∧ w = w' := by
  have h1 := Tryd.strings_IndexByte signS x.toNat w
  rw [show ((x.toNat : Int)).toNat.toUInt8 = x by simp, show signS.data.toList = sigL from rfl, index_sign x, if_pos h] at h1
  exact h1.mono (fun e w' ⟨a, b⟩ => ⟨a, b.symm⟩)
theorem or_nib : ∀ a b : Fin 16, bits BinOp.or IntKind.i64 ((a.val : Int) * 16) (b.val : Int) = (a.val : Int) * 16 + (b.val : Int) := by decide +kernel
set_option maxRecDepth 100000 in
set_option maxHeartbeats 3200000 in
theorem dec_parseHex (s : ByteArray) (hs : s.size ≤ 1000000) (w : World) :
    Calls Tryd.prog 62 #[.string s] w fun e w' => e = .returned (.tuple #[.string (strL (hexR s.data.toList).1), .int .i64 (hexR s.data.toList).2]) ∧ Below w.heap.size w w' := by
  have hs63 : s.size ≤ 9223372036854775807 := by omega
  have hsl : s.data.toList.length = s.size := (Lib.size_eq s).symm
  have SG := Lib.hid (fun w => dec_signs s (by unfold maxLen; omega) w)
  by_cases hodd : s.size % 2 = 1
  · have HR := Lib.hid (hexR_odd (l := s.data.toList) (by rw [hsl]; exact hodd))
    have ho : (s.size : Int) % 2 = 1 := by omega
    have ho2 : Int.tmod (s.size : Int) 2 = 1 := by rw [Int.tmod_eq_emod_of_nonneg (by omega)]; omega
    go_enter Tryd.func62, Tryd.ntmps62
    go_wp2_with fail
    go_ret2
    exact ⟨by rw [HR.out]; rfl, Below.refl _ _⟩
  have ho : (s.size : Int) % 2 = 0 := by omega
  have ho2 : Int.tmod (s.size : Int) 2 = 0 := by rw [Int.tmod_eq_emod_of_nonneg (by omega)]; omega
  cases hok : hexOk s.data.toList with
  | false =>
    rw [hok] at SG
    have HR := Lib.hid (hexR_bad hok)
    clear hok
    go_enter Tryd.func62, Tryd.ntmps62
    go_wp2_with fail
    refine (SG.out _).mono ?_
    rintro e w1 ⟨rfl, hb1⟩
    have HB := Lib.hid hb1
    clear hb1
    go_wp2_with fail
    go_ret2
    exact ⟨by rw [HR.out]; rfl, HB.out⟩
  | true =>
  rw [hok] at SG
  obtain ⟨N, hN⟩ : ∃ N, s.size = 2 * N := ⟨s.size / 2, by omega⟩
  obtain ⟨RES, hRES⟩ : ∃ R, pairsB s.data.toList = R := ⟨_, rfl⟩
  have HR : Hid (hexR s.data.toList = (RES, 0)) := Lib.hid (by rw [hexR_good (by rw [hsl]; exact hodd) hok, hRES])
  rw [HR.out]
  have HRES := Lib.hid hRES
  have HOK := Lib.hid hok
  have HNN := Lib.hid hN
  have hpl := pairsB_le s.data.toList
  rw [hRES] at hpl
  clear hRES hok hodd hN
  go_enter Tryd.func62, Tryd.ntmps62
  go_wp2_with fail
  refine (SG.out _).mono ?_
  rintro e w1 ⟨rfl, hb1⟩
  have HB1 := Lib.hid hb1
  clear hb1 SG
  go_wp2_with fail
  go_loopg [5] N (fun gg s5 wr => ∃ (k : Nat) (cs : Array Value) (v : Value), k ≤ N ∧ gg = N - k ∧ s5 = .int .i64 (2 * k) ∧ cs.size = 2 ∧ Hid (Blk wr w1.heap.size cs 81) ∧ Hid (BldIn cs w1.heap.size w1.heap.size 0 wr v (pairsB (s.data.toList.take (2 * k)))) ∧ Hid (Below w1.heap.size w1 wr))
  case atStart => exact ⟨0, _, .slice none 0 0, by omega, rfl, rfl, rfl, Lib.hid (Blk.new w1 _ _), Lib.hid (bld_fresh _ _ _), Lib.hid ((Below.refl w1.heap.size w1).alloc (Nat.le_refl _) _)⟩
  case round =>
    obtain ⟨k, cs, v, hk, hg, rfl, hcs, HB, HBI, HL⟩ := hrel
    have hg := hg.symm
    subst hg
    have hbw := HB.out.lt
    by_cases hlt : k < N
    · skip
      have hk0 : 2 * k < s.size := by have := HNN.out; omega
      have hk1 : 2 * k + 1 < s.size := by have := HNN.out; omega
      obtain ⟨x, hx⟩ : ∃ x, s[2 * k]'hk0 = x := ⟨_, rfl⟩
      obtain ⟨y, hy⟩ : ∃ y, s[2 * k + 1]'hk1 = y := ⟨_, rfl⟩
      have hgx : s.data.toList[2 * k]? = some x := by rw [byte_at s (2 * k) hk0, hx]
      have hgy : s.data.toList[2 * k + 1]? = some y := by rw [byte_at s (2 * k + 1) hk1, hy]
      have hbx : (((s[2 * k]'hk0).toNat : Nat) : Int) = (x.toNat : Int) := by rw [hx]
      have hby : (((s[2 * k + 1]'hk1).toNat : Nat) : Int) = (y.toNat : Int) := by rw [hy]
      have i0 : (0 : Int) ≤ 2 * (k : Int) := by omega
      have i1 : 2 * (k : Int) < (s.size : Int) := by omega
      have i2 : (0 : Int) ≤ 2 * (k : Int) + 1 := by omega
      have i3 : 2 * (k : Int) + 1 < (s.size : Int) := by omega
      have i4 : (2 * (k : Int)).toNat = 2 * k := by omega
      have i5 : (2 * (k : Int) + 1).toNat = 2 * k + 1 := by omega
      have i6 : IntKind.i64.wrap (2 * (k : Int) + 1) = 2 * (k : Int) + 1 := by rw [IntKind.wrap_i64]; omega
      have i7 : IntKind.i64.wrap (2 * (k : Int) + 2) = 2 * (k : Int) + 2 := by rw [IntKind.wrap_i64]; omega
      have px := hexOk_at HOK.out hgx
      have py := hexOk_at HOK.out hgy
      have IX := Lib.hid (fun w => idx_byte x px w)
      have IY := Lib.hid (fun w => idx_byte y py w)
      have hP := pairsB_take s.data.toList k x y hgx hgy
      have hlen : (pairsB (s.data.toList.take (2 * k))).length ≤ 2000000 := by
        have := pairsB_le (s.data.toList.take (2 * k))
        rw [List.length_take] at this
        omega
      have WB := Lib.hid (fun (wx : World) (h1 : Blk wx w1.heap.size cs 81) (h2 : BldIn cs w1.heap.size w1.heap.size 0 wx v (pairsB (s.data.toList.take (2 * k)))) => bld_writeByte 81 w1.heap.size 0 w1.heap.size cs v _ (UInt8.ofNat (plc x * 16 + plc y)) wx (by rw [hcs]; exact lies_two_) (by decide) h1 h2 (by omega) (by have := h1.lt; omega) (Nat.le_refl _))
      rw [← hP] at WB
      have hor := or_nib ⟨plc x, px⟩ ⟨plc y, py⟩
      have hcv : ((UInt8.ofNat (plc x * 16 + plc y)).toNat : Int) = (plc x : Int) * 16 + (plc y : Int) := by
        have : (UInt8.ofNat (plc x * 16 + plc y)).toNat = plc x * 16 + plc y := by simp; omega
        rw [this]; push_cast; rfl
      have wm : IntKind.i64.wrap ((plc x : Int) * 16) = (plc x : Int) * 16 := by rw [IntKind.wrap_i64]; omega
      have wu : IntKind.u8.wrap ((plc x : Int) * 16 + (plc y : Int)) = ((plc x : Int) * 16 + (plc y : Int)) % 256 := by unfold IntKind.wrap; simp [IntKind.bits, IntKind.signed]
      clear hgx hgy hx hy hP
      go_upto_region 7 with fail
      refine wp_region_held_drew (S := (fun _ => True)) (by kernel_rfl) trivial (fun hHeld => ?_)
      refine wpAnyH_take (i := 0) (oi := ({ dst := some 21, op := Op.move (Operand.tmp 0), type := 9, pos := "dec.go:82", after := #[], guard := none })) (v := (.string s)) rfl (by kernel_rfl) (by kernel_rfl) (by kernel_rfl) (fun _ _ _ h => h) (Or.inl ⟨by rfl, ?_⟩) (by assumption) ?_
      · (intro w hSw; go_simp)
      try simp only [Act.put, List.setIfInBounds_toArray, List.set_cons_zero, List.set_cons_succ]
      refine wpAnyH_take (i := 1) (oi := ({ dst := some 22, op := Op.move (Operand.tmp 5), type := 3, pos := "dec.go:82", after := #[], guard := none })) (v := (.int .i64 (2 * k))) rfl (by kernel_rfl) (by kernel_rfl) (by kernel_rfl) (fun _ _ _ h => h) (Or.inl ⟨by rfl, ?_⟩) (by assumption) ?_
      · (intro w hSw; go_simp)
      try simp only [Act.put, List.setIfInBounds_toArray, List.set_cons_zero, List.set_cons_succ]
      refine wpAnyH_take (i := 2) (oi := ({ dst := some 23, op := Op.index 9 (Operand.tmp 21) (Operand.tmp 22), type := 5, pos := "dec.go:82", after := #[{ on := 0, ground := Ground.data }, { on := 1, ground := Ground.data }], guard := none })) (v := (.int .u8 x.toNat)) rfl (by kernel_rfl) (by kernel_rfl) (by kernel_rfl) (fun _ _ _ h => h) (Or.inl ⟨by rfl, ?_⟩) (by assumption) ?_
      · (intro w hSw; go_simp)
      try simp only [Act.put, List.setIfInBounds_toArray, List.set_cons_zero, List.set_cons_succ]
      refine wpAnyH_take (i := 5) (oi := ({ dst := some 26, op := Op.move (Operand.tmp 0), type := 9, pos := "dec.go:82", after := #[], guard := none })) (v := (.string s)) rfl (by kernel_rfl) (by kernel_rfl) (by kernel_rfl) (fun _ _ _ h => h) (Or.inl ⟨by rfl, ?_⟩) (by assumption) ?_
      · (intro w hSw; go_simp)
      try simp only [Act.put, List.setIfInBounds_toArray, List.set_cons_zero, List.set_cons_succ]
      refine wpAnyH_take (i := 6) (oi := ({ dst := some 27, op := Op.move (Operand.tmp 5), type := 3, pos := "dec.go:82", after := #[], guard := none })) (v := (.int .i64 (2 * k))) rfl (by kernel_rfl) (by kernel_rfl) (by kernel_rfl) (fun _ _ _ h => h) (Or.inl ⟨by rfl, ?_⟩) (by assumption) ?_
      · (intro w hSw; go_simp)
      try simp only [Act.put, List.setIfInBounds_toArray, List.set_cons_zero, List.set_cons_succ]
      refine wpAnyH_take (i := 7) (oi := ({ dst := some 28, op := Op.binOp BinOp.add 3 (Operand.tmp 27) (Operand.const (Value.int IntKind.i64 1)) 3, type := 3, pos := "dec.go:82", after := #[{ on := 6, ground := Ground.data }], guard := none })) (v := (.int .i64 (2 * k + 1))) rfl (by kernel_rfl) (by kernel_rfl) (by kernel_rfl) (fun _ _ _ h => h) (Or.inl ⟨by rfl, ?_⟩) (by assumption) ?_
      · (intro w hSw; go_simp)
      try simp only [Act.put, List.setIfInBounds_toArray, List.set_cons_zero, List.set_cons_succ]
      refine wpAnyH_take (i := 8) (oi := ({ dst := some 29, op := Op.index 9 (Operand.tmp 26) (Operand.tmp 28), type := 5, pos := "dec.go:82", after := #[{ on := 5, ground := Ground.data }, { on := 7, ground := Ground.data }], guard := none })) (v := (.int .u8 y.toNat)) rfl (by kernel_rfl) (by kernel_rfl) (by kernel_rfl) (fun _ _ _ h => h) (Or.inl ⟨by rfl, ?_⟩) (by assumption) ?_
      · (intro w hSw; go_simp)
      try simp only [Act.put, List.setIfInBounds_toArray, List.set_cons_zero, List.set_cons_succ]
      refine wpAnyH_ready (rs := [3]) (by kernel_rfl) (by simp) (AllReadyH.cons (o := ({ dst := some 24, op := Op.call { callee := Callee.value (Operand.func 68), args := #[Operand.const (Value.string { data := #[48, 49, 50, 51, 52, 53, 54, 55, 56, 57, 97, 98, 99, 100, 101, 102] }), Operand.tmp 23], argTypes := #[9, 5] }, type := 3, pos := "dec.go:82", after := #[{ on := 2, ground := Ground.data }], guard := none })) rfl (fun K hK => ?_) AllReadyH.nil)
      go_simp
      refine (IX.out _).mono ?_
      rintro ee wq ⟨rfl, rfl⟩
      go_wp2_with fail
      clear hHeld
      refine hK.out _ _ trivial (fun hHeld => ?_)
      clear hK K
      try simp only [Act.put, List.setIfInBounds_toArray, List.set_cons_zero, List.set_cons_succ]
      refine wpAnyH_take (i := 4) (oi := ({ dst := some 25, op := Op.binOp BinOp.shl 3 (Operand.tmp 24) (Operand.const (Value.int IntKind.u64 4)) 97, type := 3, pos := "dec.go:82", after := #[{ on := 3, ground := Ground.data }], guard := none })) (v := (.int .i64 (plc x * 16))) rfl (by kernel_rfl) (by kernel_rfl) (by kernel_rfl) (fun _ _ _ h => h) (Or.inl ⟨by rfl, ?_⟩) (by assumption) ?_
      · (intro w hSw; go_simp)
      try simp only [Act.put, List.setIfInBounds_toArray, List.set_cons_zero, List.set_cons_succ]
      refine wpAnyH_ready (rs := [9]) (by kernel_rfl) (by simp) (AllReadyH.cons (o := ({ dst := some 30, op := Op.call { callee := Callee.value (Operand.func 68), args := #[Operand.const (Value.string { data := #[48, 49, 50, 51, 52, 53, 54, 55, 56, 57, 97, 98, 99, 100, 101, 102] }), Operand.tmp 29], argTypes := #[9, 5] }, type := 3, pos := "dec.go:82", after := #[{ on := 8, ground := Ground.data }, { on := 3, ground := Ground.chain }], guard := none })) rfl (fun K hK => ?_) AllReadyH.nil)
      go_simp
      refine (IY.out _).mono ?_
      rintro ee wq ⟨rfl, rfl⟩
      go_wp2_with fail
      clear hHeld
      refine hK.out _ _ trivial (fun hHeld => ?_)
      clear hK K
      try simp only [Act.put, List.setIfInBounds_toArray, List.set_cons_zero, List.set_cons_succ]
      refine wpAnyH_take (i := 10) (oi := ({ dst := some 31, op := Op.binOp BinOp.or 3 (Operand.tmp 25) (Operand.tmp 30) 3, type := 3, pos := "dec.go:82", after := #[{ on := 4, ground := Ground.data }, { on := 9, ground := Ground.data }], guard := none })) (v := (.int .i64 (plc x * 16 + plc y))) rfl (by kernel_rfl) (by kernel_rfl) (by kernel_rfl) (fun _ _ _ h => h) (Or.inl ⟨by rfl, ?_⟩) (by assumption) ?_
      · (intro w hSw; go_simp)
      try simp only [Act.put, List.setIfInBounds_toArray, List.set_cons_zero, List.set_cons_succ]
      refine wpAnyH_take (i := 11) (oi := ({ dst := some 32, op := Op.convert 3 5 (Operand.tmp 31), type := 5, pos := "dec.go:82", after := #[{ on := 10, ground := Ground.data }], guard := none })) (v := (.int .u8 (UInt8.ofNat (plc x * 16 + plc y)).toNat)) rfl (by kernel_rfl) (by kernel_rfl) (by kernel_rfl) (fun _ _ _ h => h) (Or.inl ⟨by rfl, ?_⟩) (by assumption) ?_
      · (intro w hSw; go_simp)
      try simp only [Act.put, List.setIfInBounds_toArray, List.set_cons_zero, List.set_cons_succ]
      refine wpAnyH_ready (rs := [12]) (by kernel_rfl) (by simp) (AllReadyH.cons (o := ({ dst := some 33, op := Op.call { callee := Callee.value (Operand.func 95), args := #[Operand.tmp 4, Operand.tmp 32], argTypes := #[81, 5] }, type := 83, pos := "dec.go:82", after := #[{ on := 11, ground := Ground.data }, { on := 9, ground := Ground.chain }], guard := none })) rfl (fun K hK => ?_) AllReadyH.nil)
      go_simp
      refine (WB.out _ HB.out.drew (by exact HBI.out)).mono ?_
      rintro ee w6 ⟨rfl, v6, hb6, hbi6, hc6⟩
      have HL6 := Lib.hid (HL.out.trans (by exact ⟨hc6.os, hc6.tape, hc6.output, hc6.size, hc6.block⟩))
      have HB6 := Lib.hid hb6
      have HBI6 := Lib.hid hbi6
      clear hb6 hbi6 hc6
      go_wp2_with fail
      clear hHeld
      refine hK.out _ _ trivial (fun hHeld => ?_)
      clear hK K
      try simp only [Act.put, List.setIfInBounds_toArray, List.set_cons_zero, List.set_cons_succ]
      refine wpAnyH_done (by kernel_rfl) ?_ _
      clear hHeld
      go_wp2_with fail
      go_roundg (N - (k + 1))
      case measure => omega
      case rel => exact ⟨k + 1, _, _, by omega, rfl, by push_cast; go_num, by rw [wrote_size]; exact hcs, HB6, HBI6, HL6⟩
    · obtain rfl : k = N := by omega
      have hNN := HNN.out
      have hst := bld_string 81 w1.heap.size 0 w1.heap.size cs v _ _ HB.out HBI.out (by omega)
      have HST := Lib.hid hst
      have HF : Hid (strL RES = ⟨(pairsB (s.data.toList.take (2 * k))).toArray⟩) := Lib.hid (by
        rw [← HRES.out, List.take_of_length_le (by rw [hsl]; omega)]; rfl)
      have hge : (s.size : Int) ≤ 2 * (k : Int) := by omega
      clear hst hNN
      go_wp2_with fail
      refine HST.out.mono ?_
      rintro e w5 ⟨rfl, hb5, hbi5, hc5⟩
      have HL5 := Lib.hid (HB1.out.trans ((HL.out.trans (hc5.below HL.out.size (fun k hk => (World.ownsRowF.lt HBI.out.2.2.1 k hk.symm).1))).mono HB1.out.size))
      clear hb5 hbi5 hc5 HST
      go_wp2_with fail
      go_ret2
      exact ⟨by rw [HF.out]; rfl, HL5.out⟩
/-- A row of bytes of the call's own. -/
def OwnY (B : Nat) (w : World) (v : Value) (l : List UInt8) : Prop := w.ownsRow B 5 1 v l.length (l.map (fun c => Value.int .u8 c.toNat))
theorem OwnY.nil (B : Nat) (w : World) : OwnY B w (.slice none 0 0) [] := ⟨rfl, .inl ⟨rfl, rfl⟩⟩
theorem OwnY.below {B C : Nat} {w w' : World} {v : Value} {l : List UInt8} (h : OwnY B w v l) (hb : Below C w w') (hC : w.heap.size ≤ C) : OwnY B w' v l := by
  obtain ⟨h1, h2 | ⟨g, cap, cur, rfl, hg, hh, rest⟩⟩ := h
  · exact ⟨h1, .inl h2⟩
  · refine ⟨h1, .inr ⟨g, cap, cur, rfl, hg, ?_, rest⟩⟩
    rw [← hh]
    exact hb.block g (Nat.lt_of_lt_of_le (Array.getElem?_eq_some_iff.1 hh).1 hC)
theorem OwnY.gby {B : Nat} {w0 w1 w2 : World} {v : Value} {l : List UInt8} (h : OwnY B w1 v l) (hb : Below B w0 w1) (hB : B ≤ w1.heap.size) (hg : w1.grownBy w2 v.ownBlock) : Below B w0 w2 := by
  refine hb.trans ⟨hg.os, hg.tape, hg.output, hg.size, fun k hk => hg.block k (Nat.lt_of_lt_of_le hk hB) (fun e => ?_)⟩
  obtain ⟨_, ⟨rfl, _⟩ | ⟨g, cap, cur, rfl, hg1, _⟩⟩ := h
  · cases e
  · have : g = k := by have e2 := e.symm; simpa [Value.ownBlock] using e2
    omega
theorem OwnY.mk {B : Nat} {w : World} {v : Value} {l : List UInt8} {b : UInt8} (h : w.ownsRow B 5 1 v (l.length + 1) (l.map (fun c => Value.int .u8 c.toNat) ++ [Value.int .u8 b.toNat])) : OwnY B w v (l ++ [b]) := by
  unfold OwnY
  rw [List.length_append, List.map_append]
  exact h
theorem str_nums_ (l : List UInt8) : strOfNums (l.map fun x => (x.toNat : Int)) = strL l := by
  apply ByteArray.ext
  have : l.map ((fun n : Int => UInt8.ofNat n.toNat) ∘ fun x : UInt8 => (x.toNat : Int)) = l := by
    induction l with
    | nil => rfl
    | cons a r ih => rw [List.map_cons, ih]; simp
  simp [strOfNums, strL, this]
theorem conv_own {B : Nat} {w : World} {v : Value} {l : List UInt8} (h : OwnY B w v l) : (convert 79 9 v).run Tryd.prog w = .ok (.string (strL l)) w := by
  have hc := fun g (hg : v.ownBlock = some g) => World.ownsRow.cells h (g := g) hg
  obtain ⟨h1, ⟨rfl, h2⟩ | ⟨g, cap, cur, rfl, hg, hh, hnc, _⟩⟩ := h
  · have : l = [] := List.eq_nil_of_length_eq_zero h2
    subst this
    exact run_convert_bytes_nil (P := Tryd.prog) w 79 5 Tryd.underlying79 Tryd.underlying5 0 0 9 Tryd.underlying9
  · have := run_convert_bytes_arg (P := Tryd.prog) w 79 5 Tryd.underlying79 Tryd.underlying5 g 0 l.length cap (l.map fun x => (x.toNat : Int)) (by simp) (fun j hj => by
      have h3 := hc g rfl j (.int .u8 (l[j]).toNat) (by rw [List.getElem?_map, List.getElem?_eq_getElem hj]; rfl)
      have e : (⟨g, 0, none⟩ : Addr).add j = ⟨g, j, none⟩ := by simp [Addr.add]; intro h; exact h.symm
      rw [e] at h3
      rw [Nat.zero_add, h3]
      simp [List.getD_eq_getElem?_getD, List.getElem?_eq_getElem hj]) 9 Tryd.underlying9
    rw [str_nums_] at this
    exact this
set_option maxRecDepth 100000 in
set_option maxHeartbeats 3200000 in
theorem ref05_parseHex (s : ByteArray) (hs : s.size ≤ 1000000) (w : World) :
    Calls Tryd.prog 63 #[.string s] w fun e w' => e = .returned (.tuple #[.string (strL (hexR s.data.toList).1), .int .i64 (hexR s.data.toList).2]) ∧ Below w.heap.size w w' := by
  obtain ⟨ii, hi, hz, hsize, hbs⟩ : ∃ i, Tryd.prog.info? 5 = some i ∧ i.zero = some (.int .u8 0) ∧ i.size = 1 ∧ i.bytes = 1 := ⟨_, rfl, rfl, rfl, rfl⟩
  have HI := Lib.hid hi
  clear hi
  have hs63 : s.size ≤ 9223372036854775807 := by omega
  have hsl : s.data.toList.length = s.size := (Lib.size_eq s).symm
  by_cases hodd : s.size % 2 = 1
  · have HR := Lib.hid (hexR_odd (l := s.data.toList) (by rw [hsl]; exact hodd))
    have ho2 : Int.tmod (s.size : Int) 2 = 1 := by rw [Int.tmod_eq_emod_of_nonneg (by omega)]; omega
    have ho : (s.size : Int) % 2 = 1 := by omega
    go_enter Tryd.func63, Tryd.ntmps63
    go_wp2_with fail
    go_ret2
    exact ⟨by rw [HR.out]; rfl, Below.refl _ _⟩
  have ho2 : Int.tmod (s.size : Int) 2 = 0 := by rw [Int.tmod_eq_emod_of_nonneg (by omega)]; omega
  have ho : (s.size : Int) % 2 = 0 := by omega
  obtain ⟨N, hN⟩ : ∃ N, s.size = 2 * N := ⟨s.size / 2, by omega⟩
  have HNN := Lib.hid hN
  have HODD := Lib.hid hodd
  obtain ⟨RES, hRES⟩ : ∃ R, hexR s.data.toList = R := ⟨_, rfl⟩
  rw [hRES]
  have HRES := Lib.hid hRES
  clear hN hodd hRES
  go_enter Tryd.func63, Tryd.ntmps63
  go_wp2_with fail
  go_loopg [4, 5] N (fun gg v s5 wr => ∃ (k : Nat) (l : List UInt8), k ≤ N ∧ gg = N - k ∧ s5 = .int .i64 (2 * k) ∧ l.length ≤ 1000000 ∧ OwnY w.heap.size wr v l ∧ Below w.heap.size w wr ∧ Hid (l = pairsB (s.data.toList.take (2 * k))) ∧ Hid (hexOk (s.data.toList.take (2 * k)) = true))
  case atStart => exact ⟨0, [], Nat.zero_le _, rfl, rfl, by simp, OwnY.nil _ _, Below.refl _ _, Lib.hid rfl, Lib.hid rfl⟩
  case round =>
    obtain ⟨k, l, hk, hg, rfl, hll, hown, hbl, HL, HK⟩ := hrel
    have hg := hg.symm
    subst hg
    have HO := Lib.hid hown
    have HB := Lib.hid hbl
    clear hown hbl
    by_cases hlt : k < N
    · skip
      have hk0 : 2 * k < s.size := by have := HNN.out; omega
      have hk1 : 2 * k + 1 < s.size := by have := HNN.out; omega
      obtain ⟨x, hx⟩ : ∃ x, s[2 * k]'hk0 = x := ⟨_, rfl⟩
      obtain ⟨y, hy⟩ : ∃ y, s[2 * k + 1]'hk1 = y := ⟨_, rfl⟩
      have hgx : s.data.toList[2 * k]? = some x := by rw [byte_at s (2 * k) hk0, hx]
      have hgy : s.data.toList[2 * k + 1]? = some y := by rw [byte_at s (2 * k + 1) hk1, hy]
      have hbx : (((s[2 * k]'hk0).toNat : Nat) : Int) = (x.toNat : Int) := by rw [hx]
      have hby : (((s[2 * k + 1]'hk1).toNat : Nat) : Int) = (y.toNat : Int) := by rw [hy]
      have i0 : (0 : Int) ≤ 2 * (k : Int) := by omega
      have i1 : 2 * (k : Int) < (s.size : Int) := by omega
      have i2 : (0 : Int) ≤ 2 * (k : Int) + 1 := by omega
      have i3 : 2 * (k : Int) + 1 < (s.size : Int) := by omega
      have i4 : (2 * (k : Int)).toNat = 2 * k := by omega
      have i5 : (2 * (k : Int) + 1).toNat = 2 * k + 1 := by omega
      have i6 : IntKind.i64.wrap (2 * (k : Int) + 1) = 2 * (k : Int) + 1 := by rw [IntKind.wrap_i64]; omega
      have i7 : IntKind.i64.wrap (2 * (k : Int) + 2) = 2 * (k : Int) + 2 := by rw [IntKind.wrap_i64]; omega
      have IX := Lib.hid (fun w => ref05_place x w)
      have IY := Lib.hid (fun w => ref05_place y w)
      have hP := pairsB_take s.data.toList k x y hgx hgy
      have hxb := fun (h : plc x = 16) => hexR_bad_at hgx h
      have hyb := fun (h : plc y = 16) => hexR_bad_at hgy h
      rw [HRES.out] at hxb hyb
      have hx16 := plc_le x
      have hy16 := plc_le y
      have hK2 : plc x < 16 → plc y < 16 → hexOk (s.data.toList.take (2 * (k + 1))) = true := by
        intro h1 h2
        rw [show 2 * (k + 1) = 2 * k + 1 + 1 by omega, take_at hgy, take_at hgx]
        have := HK.out
        unfold hexOk at *
        rw [List.all_append, List.all_append, this]
        simp [h1, h2]
      have hl2 : (l ++ [UInt8.ofNat (plc x * 16 + plc y)]).length ≤ 1000000 := by
        rw [HL.out, ← hP]
        have := pairsB_le (s.data.toList.take (2 * (k + 1)))
        rw [List.length_take] at this
        omega
      rw [← HL.out] at hP
      have hcv : ((UInt8.ofNat (plc x * 16 + plc y)).toNat : Int) = ((plc x : Int) * 16 + (plc y : Int)) % 256 := by simp
      have wu : IntKind.u8.wrap ((plc x : Int) * 16 + (plc y : Int)) = ((plc x : Int) * 16 + (plc y : Int)) % 256 := by unfold IntKind.wrap; simp [IntKind.bits, IntKind.signed]
      have wm : IntKind.i64.wrap ((plc x : Int) * 16) = (plc x : Int) * 16 := by rw [IntKind.wrap_i64]; omega
      have wn : IntKind.i64.wrap ((plc x : Int) * 16 + (plc y : Int)) = (plc x : Int) * 16 + (plc y : Int) := by rw [IntKind.wrap_i64]; omega
      have HP := Lib.hid hP
      have HK2 := Lib.hid hK2
      have HXB := Lib.hid hxb
      have HYB := Lib.hid hyb
      have HL2 := Lib.hid hl2
      clear hgx hgy hx hy hP hK2 hxb hyb hl2
      generalize UInt8.ofNat (plc x * 16 + plc y) = Z at *
      generalize plc x = a at *
      generalize plc y = b at *
      go_upto_region 7 with fail
      refine wp_region_held_drew (S := (fun _ => True)) (by kernel_rfl) trivial (fun hHeld => ?_)
      refine wpAnyH_take (i := 0) (oi := ({ dst := some 18, op := Op.move (Operand.tmp 0), type := 9, pos := "ref.go:109", after := #[], guard := none })) (v := (.string s)) rfl (by kernel_rfl) (by kernel_rfl) (by kernel_rfl) (fun _ _ _ h => h) (Or.inl ⟨by rfl, ?_⟩) (by assumption) ?_
      · (intro w hSw; go_simp)
      try simp only [Act.put, List.setIfInBounds_toArray, List.set_cons_zero, List.set_cons_succ]
      refine wpAnyH_take (i := 1) (oi := ({ dst := some 19, op := Op.move (Operand.tmp 5), type := 3, pos := "ref.go:109", after := #[], guard := none })) (v := (.int .i64 (2 * k))) rfl (by kernel_rfl) (by kernel_rfl) (by kernel_rfl) (fun _ _ _ h => h) (Or.inl ⟨by rfl, ?_⟩) (by assumption) ?_
      · (intro w hSw; go_simp)
      try simp only [Act.put, List.setIfInBounds_toArray, List.set_cons_zero, List.set_cons_succ]
      refine wpAnyH_take (i := 2) (oi := ({ dst := some 20, op := Op.index 9 (Operand.tmp 18) (Operand.tmp 19), type := 5, pos := "ref.go:109", after := #[{ on := 0, ground := Ground.data }, { on := 1, ground := Ground.data }], guard := none })) (v := (.int .u8 x.toNat)) rfl (by kernel_rfl) (by kernel_rfl) (by kernel_rfl) (fun _ _ _ h => h) (Or.inl ⟨by rfl, ?_⟩) (by assumption) ?_
      · (intro w hSw; go_simp)
      try simp only [Act.put, List.setIfInBounds_toArray, List.set_cons_zero, List.set_cons_succ]
      refine wpAnyH_take (i := 4) (oi := ({ dst := some 22, op := Op.move (Operand.tmp 0), type := 9, pos := "ref.go:109", after := #[], guard := none })) (v := (.string s)) rfl (by kernel_rfl) (by kernel_rfl) (by kernel_rfl) (fun _ _ _ h => h) (Or.inl ⟨by rfl, ?_⟩) (by assumption) ?_
      · (intro w hSw; go_simp)
      try simp only [Act.put, List.setIfInBounds_toArray, List.set_cons_zero, List.set_cons_succ]
      refine wpAnyH_take (i := 5) (oi := ({ dst := some 23, op := Op.move (Operand.tmp 5), type := 3, pos := "ref.go:109", after := #[], guard := none })) (v := (.int .i64 (2 * k))) rfl (by kernel_rfl) (by kernel_rfl) (by kernel_rfl) (fun _ _ _ h => h) (Or.inl ⟨by rfl, ?_⟩) (by assumption) ?_
      · (intro w hSw; go_simp)
      try simp only [Act.put, List.setIfInBounds_toArray, List.set_cons_zero, List.set_cons_succ]
      refine wpAnyH_take (i := 6) (oi := ({ dst := some 24, op := Op.binOp BinOp.add 3 (Operand.tmp 23) (Operand.const (Value.int IntKind.i64 1)) 3, type := 3, pos := "ref.go:109", after := #[{ on := 5, ground := Ground.data }], guard := none })) (v := (.int .i64 (2 * k + 1))) rfl (by kernel_rfl) (by kernel_rfl) (by kernel_rfl) (fun _ _ _ h => h) (Or.inl ⟨by rfl, ?_⟩) (by assumption) ?_
      · (intro w hSw; go_simp)
      try simp only [Act.put, List.setIfInBounds_toArray, List.set_cons_zero, List.set_cons_succ]
      refine wpAnyH_take (i := 7) (oi := ({ dst := some 25, op := Op.index 9 (Operand.tmp 22) (Operand.tmp 24), type := 5, pos := "ref.go:109", after := #[{ on := 4, ground := Ground.data }, { on := 6, ground := Ground.data }], guard := none })) (v := (.int .u8 y.toNat)) rfl (by kernel_rfl) (by kernel_rfl) (by kernel_rfl) (fun _ _ _ h => h) (Or.inl ⟨by rfl, ?_⟩) (by assumption) ?_
      · (intro w hSw; go_simp)
      try simp only [Act.put, List.setIfInBounds_toArray, List.set_cons_zero, List.set_cons_succ]
      refine wpAnyH_ready (rs := [3]) (by kernel_rfl) (by simp) (AllReadyH.cons (o := ({ dst := some 21, op := Op.call { callee := Callee.value (Operand.func 96), args := #[Operand.tmp 20], argTypes := #[5] }, type := 3, pos := "ref.go:109", after := #[{ on := 2, ground := Ground.data }], guard := none })) rfl (fun K hK => ?_) AllReadyH.nil)
      go_simp
      refine (IX.out _).mono ?_
      rintro ee wq ⟨rfl, rfl⟩
      go_wp2_with fail
      clear hHeld
      refine hK.out _ _ trivial (fun hHeld => ?_)
      clear hK K
      try simp only [Act.put, List.setIfInBounds_toArray, List.set_cons_zero, List.set_cons_succ]
      refine wpAnyH_ready (rs := [8]) (by kernel_rfl) (by simp) (AllReadyH.cons (o := ({ dst := some 26, op := Op.call { callee := Callee.value (Operand.func 96), args := #[Operand.tmp 25], argTypes := #[5] }, type := 3, pos := "ref.go:109", after := #[{ on := 7, ground := Ground.data }, { on := 3, ground := Ground.chain }], guard := none })) rfl (fun K hK => ?_) AllReadyH.nil)
      go_simp
      refine (IY.out _).mono ?_
      rintro ee wq ⟨rfl, rfl⟩
      go_wp2_with fail
      clear hHeld
      refine hK.out _ _ trivial (fun hHeld => ?_)
      clear hK K
      try simp only [Act.put, List.setIfInBounds_toArray, List.set_cons_zero, List.set_cons_succ]
      refine wpAnyH_take (i := 9) (oi := ({ dst := some 6, op := Op.assign (Operand.tmp 21), type := 3, pos := "ref.go:109", after := #[{ on := 3, ground := Ground.data }, { on := 8, ground := Ground.chain }, { on := 0, ground := Ground.phase }, { on := 1, ground := Ground.phase }, { on := 2, ground := Ground.phase }, { on := 3, ground := Ground.phase }, { on := 4, ground := Ground.textOnly Departure.lateStores }, { on := 5, ground := Ground.textOnly Departure.lateStores }, { on := 6, ground := Ground.textOnly Departure.lateStores }, { on := 7, ground := Ground.textOnly Departure.lateStores }, { on := 8, ground := Ground.textOnly Departure.lateStoresUnsure }], guard := none })) (v := (.int .i64 a)) rfl (by kernel_rfl) (by kernel_rfl) (by kernel_rfl) (fun _ _ _ h => h) (Or.inl ⟨by rfl, ?_⟩) (by assumption) ?_
      · (intro w hSw; go_simp)
      try simp only [Act.put, List.setIfInBounds_toArray, List.set_cons_zero, List.set_cons_succ]
      refine wpAnyH_take (i := 10) (oi := ({ dst := some 7, op := Op.assign (Operand.tmp 26), type := 3, pos := "ref.go:109", after := #[{ on := 8, ground := Ground.data }, { on := 9, ground := Ground.chain }, { on := 0, ground := Ground.phase }, { on := 1, ground := Ground.phase }, { on := 2, ground := Ground.phase }, { on := 3, ground := Ground.phase }, { on := 4, ground := Ground.phase }, { on := 5, ground := Ground.phase }, { on := 6, ground := Ground.phase }, { on := 7, ground := Ground.phase }, { on := 8, ground := Ground.phase }, { on := 9, ground := Ground.phase }], guard := none })) (v := (.int .i64 b)) rfl (by kernel_rfl) (by kernel_rfl) (by kernel_rfl) (fun _ _ _ h => h) (Or.inl ⟨by rfl, ?_⟩) (by assumption) ?_
      · (intro w hSw; go_simp)
      try simp only [Act.put, List.setIfInBounds_toArray, List.set_cons_zero, List.set_cons_succ]
      refine wpAnyH_done (by kernel_rfl) ?_ _
      clear hHeld
      have HB2 : Hid (Below w.heap.size w wr.drew) := Lib.hid (by have h := HB.out; exact ⟨h.os, h.tape, h.output, h.size, h.block⟩)
      have HO2 : Hid (OwnY w.heap.size wr.drew u4 l) := Lib.hid (by have h := HO.out; exact h)
      obtain ⟨w2, hw2⟩ : ∃ w2, wr.drew = w2 := ⟨_, rfl⟩
      rw [hw2] at HB2 HO2 ⊢
      clear hw2
      by_cases ha : a = 16
      · subst ha
        have HR := Lib.hid (HXB.out rfl)
        go_wp2_with fail
        go_ret2
        exact ⟨by rw [HR.out]; rfl, HB2.out⟩
      by_cases hb : b = 16
      · subst hb
        have HR := Lib.hid (HYB.out rfl)
        have ha1 : ¬ (a : Int) = 16 := by omega
        have ha2 : ((a : Int) == 16) = false := by simp [ha1]
        go_wp2_with fail
        go_ret2
        exact ⟨by rw [HR.out]; rfl, HB2.out⟩
      have ha1 : ¬ (a : Int) = 16 := by omega
      have ha2 : ((a : Int) == 16) = false := by simp [ha1]
      have hb1 : ¬ (b : Int) = 16 := by omega
      have hb2 : ((b : Int) == 16) = false := by simp [hb1]
      have HK3 := Lib.hid (HK2.out (by omega) (by omega))
      have hl2 := HL2.out
      clear HK2 HXB HYB HL2
      go_wp2_with (at_builtin; refine wpList_append_own _ rfl _ _ 79 rfl w.heap.size 5 ii (.int .u8 0) 1 1 Tryd.underlying79 HI.out hz hsize hbs rfl (by decide) _ l.length (l.map (fun c => Value.int .u8 c.toNat)) rfl ?a1 ⟨?b14, 0, none⟩ 1 1 [.int .u8 (((a : Int) * 16 + (b : Int)) % 256)] ?b15 rfl ?a2 ?a3 ?a4 ?a5 ?a6 ?a7)
      case b15 => rfl
      case a1 => exact (HO2.out.below ((Below.refl _ _).alloc (Nat.le_refl _) _) (Nat.le_refl _))
      case a2 => exact (cell_one_new _ _ _)
      case a3 => intro u hu; simp at hu; subst hu; rfl
      case a4 => unfold maxLen; omega
      case a5 => omega
      case a6 => have := HB2.out.size; simp at this ⊢; omega
      intro v' w4 hown2 hgrow _
      have HO3 := Lib.hid (OwnY.mk (l := l) (b := Z) (by rw [hcv]; exact hown2))
      have HB3 := Lib.hid (OwnY.gby (HO2.out.below ((Below.refl _ _).alloc (Nat.le_refl _) _) (Nat.le_refl _)) (HB2.out.alloc HB2.out.size _) (by have := HB2.out.size; simp at this ⊢; omega) hgrow)
      clear hown2 hgrow
      go_wp2_with fail
      go_roundg (N - (k + 1))
      case measure => omega
      case rel => exact ⟨k + 1, l ++ [Z], by omega, rfl, by push_cast; go_num, hl2, HO3.out, HB3.out, Lib.hid HP.out.symm, HK3⟩
    · obtain rfl : k = N := by omega
      have hNN := HNN.out
      have hge : (s.size : Int) ≤ 2 * (k : Int) := by omega
      have htk : s.data.toList.take (2 * k) = s.data.toList := List.take_of_length_le (by rw [hsl]; omega)
      have HR : Hid (RES = (l, 0)) := Lib.hid (by
        rw [← HRES.out, hexR_good (by rw [hsl]; exact HODD.out) (by have := HK.out; rw [htk] at this; exact this)]
        have := HL.out
        rw [htk] at this
        rw [this])
      have hcv := conv_own HO.out
      clear hNN htk
      go_wp2_with fail
      go_ret2
      exact ⟨by rw [HR.out]; rfl, HB.out⟩
end Go.Proofs.YtogjckengmkfiaaDoor
