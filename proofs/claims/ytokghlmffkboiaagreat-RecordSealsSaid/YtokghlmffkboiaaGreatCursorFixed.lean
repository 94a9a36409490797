/-
  What the cursor's Fixed computes.
-/
import Derived.Test.YtokghlmffkboiaaGreatCursor
namespace Go.Proofs.YtokghlmffkboiaaGreat
open Go.RowKit
set_option linter.unusedVariables false
set_option linter.unusedSimpArgs false

theorem or_byte (v r : Nat) (hv : v < 72057594037927936) (hr : r < 256) : bits BinOp.or IntKind.u64 ((v * 256 : Nat) : Int) (r : Int) = ((v * 256 + r : Nat) : Int) := by
  have p64 : (2 : Nat) ^ 64 = 18446744073709551616 := by decide
  have i64 : (2 : Int) ^ 64 = 18446744073709551616 := by decide
  have hw : ∀ m : Int, 0 ≤ m → m < 2 ^ 64 → IntKind.u64.wrap m = m := by
    intro m h0 h1
    rw [IntKind.wrap_u64]
    omega
  have key := (bits_nat .u64 64 (by decide) hw (v * 256) r (by omega) (by omega)).2
  have e : v * 256 ||| r = v * 256 + r := by
    have := Nat.two_pow_add_eq_or_of_lt (i := 8) (b := r) hr v
    rw [show (2 : Nat) ^ 8 = 256 by decide] at this
    rw [Nat.mul_comm]
    omega
  rw [e] at key
  exact key

set_option maxRecDepth 100000 in
theorem cur_add (g v r : Nat) (hv : v < 72057594037927936) (hr : r < 256) (w : World) (h0 : w.cell? ⟨g, 0, none⟩ = some (.int .u64 v)) (hf : w.frozen? ⟨g, 0, none⟩ = false) :
    Calls Tryz.prog 92 #[.int .u8 r, .pointer (some ⟨g, 0, none⟩)] w fun e w' => e = .returned (.tuple #[]) ∧ (w.setCell ⟨g, 0, none⟩ (.int .u64 (v * 256 + r : Nat))) = w' := by
  have b1 := or_byte v r hv hr
  obtain ⟨p, hp⟩ : ∃ p, p = v * 256 := ⟨_, rfl⟩
  obtain ⟨q, hq⟩ : ∃ q, q = v * 256 + r := ⟨_, rfl⟩
  rw [← hq, ← hp] at b1
  rw [← hq]
  have b2 : IntKind.u64.wrap ((v : Int) * 256) = (p : Int) := by rw [IntKind.wrap_u64]; omega
  have b3 : IntKind.u64.wrap (r : Int) = (r : Int) := by rw [IntKind.wrap_u64]; omega
  clear hp hq
  go_enter Tryz.func92, Tryz.ntmps92
  go_wp2_with fail
  go_end0
  exact ⟨rfl, rfl⟩

theorem cur_fixed_out (b : Nat) (k : Int) (h : k < 1 ∨ 8 < k) (w : World) : Calls Tryz.prog 70 #[.pointer (some ⟨b, 0, none⟩), .int .i64 k] w fun e w' => e = .returned (.tuple #[.int .u64 0, .int .i64 1]) ∧ w = w' := by
  rcases h with h | h
  · go_enter Tryz.func70, Tryz.ntmps70
    go_wp2
    go_ret2
    exact ⟨rfl, rfl⟩
  · go_enter Tryz.func70, Tryz.ntmps70
    go_wp2
    go_ret2
    exact ⟨rfl, rfl⟩
theorem cur_fixed_short (b : Nat) (s : ByteArray) (a k : Nat) (hs : s.size ≤ maxLen) (ha : a ≤ s.size) (hk1 : 1 ≤ k) (hk8 : k ≤ 8) (hl : s.size - a < k) (w : World) (h : Cur w b s a) :
    Calls Tryz.prog 70 #[.pointer (some ⟨b, 0, none⟩), .int .i64 k] w fun e w' => e = .returned (.tuple #[.int .u64 0, .int .i64 3]) ∧ w.drew = w' := by
  have hk1' : (1 : Int) ≤ (k : Int) := by omega
  have hk8' : (k : Int) ≤ 8 := by omega
  have hl' : decide (((s.size - a : Nat) : Int) < (k : Int)) = true := by simp; omega
  go_enter Tryz.func70, Tryz.ntmps70
  go_wp2_with (go_at_call 78; refine (cur_left b s a hs ha _ h).mono ?_; rintro e w2 ⟨rfl, rfl⟩)
  go_ret2
  exact ⟨rfl, rfl⟩
set_option maxRecDepth 100000 in
set_option maxHeartbeats 800000 in
theorem cur_fixed (b : Nat) (s : ByteArray) (a k : Nat) (hs : s.size ≤ maxLen) (ha : a + k ≤ s.size) (hk1 : 1 ≤ k) (hk8 : k ≤ 8) (w : World) (h : Cur w b s a) :
    Calls Tryz.prog 70 #[.pointer (some ⟨b, 0, none⟩), .int .i64 k] w fun e w' => e = .returned (.tuple #[.int .u64 (Oct.numFrom 0 ((rest s a).take k) : Nat), .int .i64 0]) ∧ Cur w' b s (a + k) ∧ w.grownBy w' (some b) := by
  have hk1' : (1 : Int) ≤ (k : Int) := by omega
  have hk8' : (k : Int) ≤ 8 := by omega
  have hl' : decide (((s.size - a : Nat) : Int) < (k : Int)) = false := by simp; omega
  go_enter Tryz.func70, Tryz.ntmps70
  go_wp2_with (go_at_call 78; refine (cur_left b s a hs (by omega) _ h).mono ?_; rintro e w2 ⟨rfl, rfl⟩)
  refine (cur_step b s a k hs (by omega) _ (Blk.drew (Blk.alloc h _))).mono ?_
  rintro e w1 ⟨rfl, hc, hg, hz⟩
  have hg1 : (w.alloc (Obj.cells #[Value.int IntKind.u64 0] 98)).grownBy w1 (some b) := gby_undrew hg
  have hbw := Blk.lt h
  have hbn : Blk w1 w.heap.size #[Value.int IntKind.u64 0] 98 := Blk.gby (Blk.new w _ _) hg1 (by omega)
  have hgw : w.grownBy w1 (some b) := gby_trans (gby_alloc (gby_refl _ _) _) hg1
  have hz1 : w1.heap.size = w.heap.size + 1 := by simpa using hz
  clear hg hg1 hz
  obtain ⟨l, HL⟩ : ∃ l, Hid (l = (rest s a).take k) := ⟨_, Lib.hid rfl⟩
  have hll : l.length = k := by rw [HL.out, List.length_take, rest_length]; omega
  rw [← HL.out]
  have hsl : (str l).size = k := by rw [str_size, hll]
  have hconv := fun w => Lib.run_convert_string_bytes (P := Tryz.prog) w 9 49 5 (str l) Tryz.underlying9 Tryz.underlying49 Tryz.underlying5
  rw [hsl] at hconv
  have hC : ∀ j, j < k → (Lib.bytesWorld w1 5 (str l)).cell? ⟨w.heap.size + 1, j, none⟩ = some (.int .u8 ((l.getD j 0).toNat : Nat)) := by
    intro j hj
    have := Lib.bytesWorld_cell w1 5 (str l) j (by omega)
    rw [hz1] at this
    rw [this]
    congr 3
  have HC := Lib.hid hC
  have hX : ∀ j, j < w.heap.size + 1 → (Lib.bytesWorld w1 5 (str l)).heap[j]? = w1.heap[j]? := fun j hj => Lib.bytesWorld_at_old w1 _ _ j (by omega)
  have hZ : (Lib.bytesWorld w1 5 (str l)).heap.size = w1.heap.size + 1 := Lib.bytesWorld_size w1 _ _
  have hgx : w.grownBy (Lib.bytesWorld w1 5 (str l)) (some b) := gby_trans hgw ⟨rfl, rfl, rfl, by omega, fun j hj _ => hX j (by omega)⟩
  have hbx : Blk (Lib.bytesWorld w1 5 (str l)) w.heap.size #[Value.int IntKind.u64 0] 98 := (hX _ (by omega)).trans hbn
  have hcx : Cur (Lib.bytesWorld w1 5 (str l)) b s (a + k) := (hX _ (by omega)).trans hc
  have HX := Lib.hid (And.intro hgx (And.intro hbx (And.intro hcx hZ)))
  clear hX hZ hgx hbx hcx hC hbn hgw hc hsl
  go_wp2_with fail
  clear hconv
  have HZ1 := Lib.hid hz1
  clear hz1
  generalize Lib.bytesWorld w1 5 (str l) = wb at *
  generalize grownCap w1 k 0 5 = cap at *
  go_loopg [9, 28] k (fun g x i wr => ∃ (j v : Nat), j ≤ k ∧ g = k - j ∧ i = .int .i64 j ∧ v = Oct.numFrom 0 (l.take j) ∧ Blk wr w.heap.size #[.int .u64 v] 98 ∧ Cur wr b s (a + k) ∧ w.grownBy wr (some b) ∧ Hid (∀ j, j < k → wr.cell? ⟨w.heap.size + 1, j, none⟩ = some (.int .u8 ((l.getD j 0).toNat : Nat))))
  case atStart => exact ⟨0, 0, by omega, rfl, rfl, rfl, HX.out.2.1, HX.out.2.2.1, HX.out.1, HC⟩
  case round =>
    clear HX HC
    obtain ⟨j, v, hj, hg, rfl, hv, hbn, hcu, hgw, HC⟩ := hrel
    have hg := hg.symm
    subst hg
    have h0 : wr.cell? ⟨w.heap.size, 0, none⟩ = some (.int .u64 v) := hbn.cell rfl
    have hf : wr.frozen? ⟨w.heap.size, 0, none⟩ = false := hbn.free 0
    have HG := Lib.hid (And.intro hbn (And.intro hcu hgw))
    clear hbn hcu hgw
    by_cases hlt : j < k
    · have hcj := HC.out j hlt
      have hv56 : v < 72057594037927936 := by
        have := Oct.numFrom_lt 0 (l.take j)
        have e : (l.take j).length ≤ 7 := by rw [List.length_take]; omega
        have : (256 : Nat) ^ (l.take j).length ≤ 256 ^ 7 := Nat.pow_le_pow_right (by decide) e
        have : (256 : Nat) ^ 7 = 72057594037927936 := by decide
        omega
      obtain ⟨t, ht⟩ : ∃ t, (l.getD j 0).toNat = t := ⟨_, rfl⟩
      have ht8 : t < 256 := by rw [← ht]; exact UInt8.toNat_lt _
      have hvn : v * 256 + t = Oct.numFrom 0 (l.take (j + 1)) := by
        rw [List.take_succ_eq_append_getElem (by omega), Oct.numFrom_append, ← hv]
        simp only [Oct.numFrom]
        rw [← ht, List.getD_eq_getElem?_getD, List.getElem?_eq_getElem (by omega)]
        rfl
      rw [ht] at hcj
      have HV := Lib.hid hvn
      have HT := Lib.hid ht
      have HV0 := Lib.hid hv
      clear hvn ht hv
      go_wp2_with fail
      refine (cur_add w.heap.size v t hv56 ht8 _ h0 hf).mono ?_
      rintro e w2 ⟨rfl, rfl⟩
      go_wp2_with fail
      go_roundg (k - (j + 1))
      case measure => omega
      case rel =>
        obtain ⟨g1, g2, g3⟩ := HG.out
        refine ⟨j + 1, v * 256 + t, by omega, rfl, by go_num, HV.out, by simpa using g1.set 0 (.int .u64 (v * 256 + t : Nat)), Blk.far g2 (by simp; omega) _, ⟨g3.os, g3.tape, g3.output, by simpa using g3.size, fun i hi hn => (Below.heap_setCell _ _ _ _ (by simp; omega)).trans (g3.block i hi hn)⟩, Lib.hid fun i hi => ?_⟩
        exact (World.cell?_setCell_far _ _ _ _ (by simp)).trans (HC.out i hi)
    · obtain rfl : j = k := by omega
      have HV0 := Lib.hid hv
      clear hv
      go_wp2_with fail
      go_ret2
      refine ⟨?_, HG.out.2.1, HG.out.2.2⟩
      rw [← HL.out, ← (show l.take j = l by rw [← hll, List.take_length]), ← HV0.out]
      rfl
end Go.Proofs.YtokghlmffkboiaaGreat
