/-
  Rows of named numbers (reeve's layer 7): the line of a row; the program's walk, and the reference's.
-/
import Derived.Test.YtanihdpgblkeaaaDoorRowMath
import Derived.Test.YtanihdpgblkeaaaDoorWordsIn
import Derived.Test.YtanihdpgblkeaaaDoorDecJoin
import Derived.Laws.OwnMore
namespace Go.Proofs.YtanihdpgblkeaaaDoor
open Go.RowKit
set_option linter.unusedVariables false
set_option linter.unusedSimpArgs false

theorem rowL_take_at {a : List (List UInt8)} {b : List Int} {i : Nat} {x : List UInt8} {n : Int} (word : List UInt8) (h1 : a[i]? = some x) (h2 : b[i]? = some n) : word :: (rowP a b).take (i + 1) = word :: (rowP a b).take i ++ [x ++ [61] ++ Lib.itoa n] := by
  rw [takeL_at_ (rowP_at a b i x n h1 h2)]; rfl
theorem ownS_lit (w : World) (B : Nat) (hB : B ≤ w.heap.size) (b : ByteArray) : OwnS B (w.alloc (.cells #[.string b] 9)) (.slice (some ⟨w.heap.size, 0, none⟩) 1 1) [b] :=
  World.ownsRow_lit w #[.string b] 1 hB (by decide) rfl
theorem str_part (xb tb : ByteArray) (X T : List UInt8) (h1 : strL X = xb) (h2 : strL T = tb) : xb ++ ⟨#[61]⟩ ++ tb = strL (X ++ [61] ++ T) := by
  rw [strL_app, strL_app, h1, h2]; rfl
set_option maxRecDepth 100000 in
set_option maxHeartbeats 3200000 in
theorem row_line (word : List UInt8) (vn vi : Value) (names : List (List UInt8)) (ns : List Int) (w : World) (hn : RowS w vn (names.map strL)) (hi : RowN w vi ns) (hw1 : word.length ≤ 100) (hn1 : names.length ≤ 1000) (hn2 : ∀ y ∈ names, y.length ≤ 60) (hi1 : ns.length ≤ 9223372036854775807) (hi2 : ∀ n ∈ ns, inI n) (hL : Laid w) :
    Calls Tryd.prog 13 #[.string (strL word), vn, vi] w fun e w' => e = .returned (.string (strL (rowL word names ns))) ∧ Below w.heap.size w w' := by
  obtain ⟨i0, hi0, hz, hsize, hby⟩ : ∃ i, Tryd.prog.info? 9 = some i ∧ i.zero = some (.string ⟨#[]⟩) ∧ i.size = 1 ∧ i.bytes = 16 := ⟨_, rfl, rfl, rfl, rfl⟩
  have HI := Lib.hid hi0
  clear hi0
  obtain ⟨pn, cn, rfl⟩ := hn.len
  obtain ⟨pi, ci, rfl⟩ := hi.len
  rw [List.length_map] at hn ⊢
  obtain ⟨N, hN⟩ : ∃ N, names.length = N := ⟨_, rfl⟩
  obtain ⟨M, hM⟩ : ∃ M, ns.length = M := ⟨_, rfl⟩
  have hpl : (rowP names ns).length = min N M := by rw [rowP_length, hN, hM]
  rw [hN] at hn hn1 ⊢
  rw [hM] at hi hi1 ⊢
  have HPN := Lib.hid (rowS_pick_ hn hN)
  have HPI := Lib.hid (rowN_pick hi hM)
  have HNS := Lib.hid hi2
  have HNL := Lib.hid hn2
  have HPL := Lib.hid hpl
  have HJL : Hid ((Lib.join (word :: rowP names ns) [32]).length ≤ 100000000) := Lib.hid (by
    have h1 := join_le (word :: rowP names ns) (by
      intro y hy
      rw [List.mem_cons] at hy
      rcases hy with rfl | hy
      · exact hw1
      · exact rowP_len names hn2 ns hi2 y hy)
    rw [List.length_cons, hpl] at h1
    omega)
  obtain ⟨RL, hRL⟩ : ∃ RL, strL (rowL word names ns) = RL := ⟨_, rfl⟩
  have HRL := Lib.hid hRL
  rw [hRL]
  obtain ⟨wb, hwb⟩ : ∃ wb, strL word = wb := ⟨_, rfl⟩
  have HWB := Lib.hid hwb
  rw [hwb]
  have LL := Lib.hid hL
  obtain ⟨Q, hQ⟩ : ∃ Q, min N M = Q := ⟨_, rfl⟩
  have hQN : Q ≤ N := by omega
  have hQM : Q ≤ M := by omega
  have HQ := Lib.hid hQ
  have hQ2 : Q = N ∨ Q = M := by omega
  clear hn hi hn2 hi2 hpl hRL hwb hN hM hQ hL
  go_enter Tryd.func13, Tryd.ntmps13
  have hmin : min (N : Int) (M : Int) = (Q : Int) := by have := HQ.out; omega
  go_upto_region 2 with fail
  have HO0 := Lib.hid (ownS_lit w w.heap.size (Nat.le_refl _) wb)
  have HB0 : Hid (Below w.heap.size w (w.alloc (.cells #[.string wb] 9))) := Lib.hid ((Below.refl _ _).alloc (Nat.le_refl _) _)
  obtain ⟨W0, hW0⟩ : ∃ W0, w.alloc (.cells #[.string wb] 9) = W0 := ⟨_, rfl⟩
  rw [hW0] at HO0 HB0 ⊢
  clear hW0
  go_cut [15, 16] (fun v15 v16 wx => v15 = .int .i64 Q ∧ v16 = .int .i64 0 ∧ wx = W0)
  case first =>
    rcases Nat.lt_or_ge N M with h | h
    · have hI : (N : Int) < (M : Int) := by omega
      obtain rfl : Q = N := by have := HQ.out; omega
      go_wp2_with fail
      go_meet
      exact ⟨rfl, rfl, rfl⟩
    · have hI : (M : Int) ≤ (N : Int) := by omega
      obtain rfl : Q = M := by have := HQ.out; omega
      go_wp2_with fail
      go_meet
      exact ⟨rfl, rfl, rfl⟩
  case rest =>
  obtain ⟨rfl, rfl, rfl⟩ := hcut
  go_wp2_with fail
  go_loopg [7, 16] Q (fun g v i wr => ∃ (k : Nat) (l : List (List UInt8)), k ≤ Q ∧ g = Q - k ∧ i = .int .i64 k ∧ l.length = k + 1 ∧ OwnS w.heap.size wr v (l.map strL) ∧ Below w.heap.size w wr ∧ Hid (l = word :: (rowP names ns).take k))
  case atStart => exact ⟨0, [word], Nat.zero_le _, rfl, rfl, rfl, by rw [← HWB.out] at HO0; exact HO0.out, HB0.out, Lib.hid rfl⟩
  case round =>
    obtain ⟨k, l, hk, hg, rfl, hll, hown, hbl, HA⟩ := hrel
    have hg := hg.symm
    subst hg
    have HO := Lib.hid hown
    have HB := Lib.hid hbl
    clear hown hbl HO0 HB0
    by_cases hlt : k < Q
    · obtain ⟨bn, on, cp, X, e1, hX, n0, hbn⟩ := HPN.out k (by omega)
      cases e1
      obtain ⟨bi, oi, cp, x, e1, hx, m0, hbi⟩ := HPI.out k (by omega)
      cases e1
      have n1 := keepB HB.out n0 hbn
      have m1 := keepB HB.out m0 hbi
      have hkQ : (k : Int) < (Q : Int) := by omega
      have hkN : (k : Int) < (N : Int) := by omega
      have hkM : (k : Int) < (M : Int) := by omega
      have hk0 : (0 : Int) ≤ (k : Int) := by omega
      have LR := Lib.hid (LL.out.below HB.out)
      have TX := Lib.hid (fun w h => dec_text x (HNS.out x (List.mem_of_getElem? hx)) w h)
      have hXl := HNL.out X (List.mem_of_getElem? hX)
      have hTl := itoa_len x (HNS.out x (List.mem_of_getElem? hx))
      have HA2 : Hid (l ++ [X ++ [61] ++ Lib.itoa x] = word :: (rowP names ns).take (k + 1)) := Lib.hid (by rw [rowL_take_at word hX hx, ← HA.out])
      obtain ⟨T, hT⟩ : ∃ T, Lib.itoa x = T := ⟨_, rfl⟩
      rw [hT] at TX HA2 hTl
      obtain ⟨xb, hxb⟩ : ∃ xb, strL X = xb := ⟨_, rfl⟩
      obtain ⟨tb, htb⟩ : ∃ tb, strL T = tb := ⟨_, rfl⟩
      have HP : Hid (xb ++ ⟨#[61]⟩ ++ tb = strL (X ++ [61] ++ T)) := Lib.hid (str_part xb tb X T hxb htb)
      rw [hxb] at n0 n1
      rw [htb] at TX
      have hs1 : xb.size ≤ 60 := by rw [← hxb, strL_size]; exact hXl
      have hs2 : tb.size ≤ 20 := by rw [← htb, strL_size]; exact hTl
      clear hX hx HA hT hxb htb hXl hTl
      have hq1 : ¬ (9223372036854775807 < xb.size + 1) := by omega
      have hq2 : ¬ (9223372036854775807 < xb.size + 1 + tb.size) := by omega
      have hq3 : ¬ (9223372036854775807 < (xb ++ ⟨#[61]⟩).size + tb.size) := by rw [ByteArray.size_append]; show ¬ (9223372036854775807 < xb.size + 1 + tb.size); omega
      go_upto_region 5 with fail
      refine wp_region_held_drew (S := (fun w' => w'.cell? ⟨bn, on + k, none⟩ = some (.string xb) ∧ w'.cell? ⟨bi, oi + k, none⟩ = some (.int .i64 x))) (by kernel_rfl) ⟨n1, m1⟩ (fun hHeld => ?_)
      refine wpAnyH_take (i := 0) (oi := ({ dst := some 19, op := Op.move (Operand.tmp 7), type := 44, pos := "row.go:18", after := #[], guard := none })) (v := u7) rfl (by kernel_rfl) (by kernel_rfl) (by kernel_rfl) (fun _ _ _ h => h) (Or.inl ⟨by rfl, ?_⟩) (by assumption) ?_
      · (intro w hSw; (try dsimp only at hSw); go_simp)
      try simp only [Act.put, List.setIfInBounds_toArray, List.set_cons_zero, List.set_cons_succ]
      refine wpAnyH_take (i := 1) (oi := ({ dst := some 20, op := Op.move (Operand.tmp 1), type := 44, pos := "row.go:18", after := #[], guard := none })) (v := (.slice (some ⟨bn, on, none⟩) N cn)) rfl (by kernel_rfl) (by kernel_rfl) (by kernel_rfl) (fun _ _ _ h => h) (Or.inl ⟨by rfl, ?_⟩) (by assumption) ?_
      · (intro w hSw; (try dsimp only at hSw); go_simp)
      try simp only [Act.put, List.setIfInBounds_toArray, List.set_cons_zero, List.set_cons_succ]
      refine wpAnyH_take (i := 2) (oi := ({ dst := some 21, op := Op.move (Operand.tmp 8), type := 3, pos := "row.go:18", after := #[], guard := none })) (v := (.int .i64 k)) rfl (by kernel_rfl) (by kernel_rfl) (by kernel_rfl) (fun _ _ _ h => h) (Or.inl ⟨by rfl, ?_⟩) (by assumption) ?_
      · (intro w hSw; (try dsimp only at hSw); go_simp)
      try simp only [Act.put, List.setIfInBounds_toArray, List.set_cons_zero, List.set_cons_succ]
      refine wpAnyH_take (i := 3) (oi := ({ dst := some 22, op := Op.indexAddr 44 (Operand.tmp 20) (Operand.tmp 21), type := 0, pos := "row.go:18", after := #[{ on := 1, ground := Ground.data }, { on := 2, ground := Ground.data }], guard := none })) (v := (.pointer (some ⟨bn, on + k, none⟩))) rfl (by kernel_rfl) (by kernel_rfl) (by kernel_rfl) (fun _ _ _ h => h) (Or.inl ⟨by rfl, ?_⟩) (by assumption) ?_
      · (intro w hSw; (try dsimp only at hSw); go_simp)
      try simp only [Act.put, List.setIfInBounds_toArray, List.set_cons_zero, List.set_cons_succ]
      refine wpAnyH_take (i := 4) (oi := ({ dst := some 23, op := Op.load 9 (Operand.tmp 22), type := 9, pos := "row.go:18", after := #[{ on := 3, ground := Ground.data }], guard := none })) (v := (.string xb)) rfl (by kernel_rfl) (by kernel_rfl) (by kernel_rfl) (fun _ _ _ h => h) (Or.inl ⟨by rfl, ?_⟩) (by assumption) ?_
      · (intro w hSw; (try dsimp only at hSw); go_simp)
      try simp only [Act.put, List.setIfInBounds_toArray, List.set_cons_zero, List.set_cons_succ]
      refine wpAnyH_take (i := 5) (oi := ({ dst := some 24, op := Op.binOp BinOp.add 9 (Operand.tmp 23) (Operand.const (Value.string { data := #[61] })) 9, type := 9, pos := "row.go:18", after := #[{ on := 4, ground := Ground.data }], guard := none })) (v := (.string (xb ++ ⟨#[61]⟩))) rfl (by kernel_rfl) (by kernel_rfl) (by kernel_rfl) (fun _ _ _ h => h) (Or.inl ⟨by rfl, ?_⟩) (by assumption) ?_
      · (intro w hSw; (try dsimp only at hSw); go_simp)
      try simp only [Act.put, List.setIfInBounds_toArray, List.set_cons_zero, List.set_cons_succ]
      refine wpAnyH_take (i := 6) (oi := ({ dst := some 25, op := Op.move (Operand.tmp 2), type := 39, pos := "row.go:18", after := #[], guard := none })) (v := (.slice (some ⟨bi, oi, none⟩) M ci)) rfl (by kernel_rfl) (by kernel_rfl) (by kernel_rfl) (fun _ _ _ h => h) (Or.inl ⟨by rfl, ?_⟩) (by assumption) ?_
      · (intro w hSw; (try dsimp only at hSw); go_simp)
      try simp only [Act.put, List.setIfInBounds_toArray, List.set_cons_zero, List.set_cons_succ]
      refine wpAnyH_take (i := 7) (oi := ({ dst := some 26, op := Op.move (Operand.tmp 8), type := 3, pos := "row.go:18", after := #[], guard := none })) (v := (.int .i64 k)) rfl (by kernel_rfl) (by kernel_rfl) (by kernel_rfl) (fun _ _ _ h => h) (Or.inl ⟨by rfl, ?_⟩) (by assumption) ?_
      · (intro w hSw; (try dsimp only at hSw); go_simp)
      try simp only [Act.put, List.setIfInBounds_toArray, List.set_cons_zero, List.set_cons_succ]
      refine wpAnyH_take (i := 8) (oi := ({ dst := some 27, op := Op.indexAddr 39 (Operand.tmp 25) (Operand.tmp 26), type := 0, pos := "row.go:18", after := #[{ on := 6, ground := Ground.data }, { on := 7, ground := Ground.data }], guard := none })) (v := (.pointer (some ⟨bi, oi + k, none⟩))) rfl (by kernel_rfl) (by kernel_rfl) (by kernel_rfl) (fun _ _ _ h => h) (Or.inl ⟨by rfl, ?_⟩) (by assumption) ?_
      · (intro w hSw; (try dsimp only at hSw); go_simp)
      try simp only [Act.put, List.setIfInBounds_toArray, List.set_cons_zero, List.set_cons_succ]
      refine wpAnyH_take (i := 9) (oi := ({ dst := some 28, op := Op.load 3 (Operand.tmp 27), type := 3, pos := "row.go:18", after := #[{ on := 8, ground := Ground.data }], guard := none })) (v := (.int .i64 x)) rfl (by kernel_rfl) (by kernel_rfl) (by kernel_rfl) (fun _ _ _ h => h) (Or.inl ⟨by rfl, ?_⟩) (by assumption) ?_
      · (intro w hSw; (try dsimp only at hSw); go_simp)
      try simp only [Act.put, List.setIfInBounds_toArray, List.set_cons_zero, List.set_cons_succ]
      refine wpAnyH_ready (rs := [10]) (by kernel_rfl) (by simp) (AllReadyH.cons (o := ({ dst := some 29, op := Op.call { callee := Callee.value (Operand.func 29), args := #[Operand.tmp 28], argTypes := #[3] }, type := 9, pos := "row.go:18", after := #[{ on := 9, ground := Ground.data }], guard := none })) rfl (fun K hK => ?_) AllReadyH.nil)
      go_simp
      refine (TX.out _ (LR.out.below (by exact ⟨rfl, rfl, rfl, Nat.le_refl _, fun _ _ => rfl⟩))).mono ?_
      rintro e w2 ⟨rfl, hb2⟩
      have hb3 : Below wr.heap.size wr w2 := by exact ⟨hb2.os, hb2.tape, hb2.output, hb2.size, hb2.block⟩
      have HO2 := Lib.hid (HO.out.below hb3 (Nat.le_refl _))
      have HB2 := Lib.hid (HB.out.trans (hb3.mono HB.out.size))
      clear hb3
      go_wp2_with fail
      clear hHeld
      refine hK.out _ _ ⟨keepB HB2.out n0 hbn, keepB HB2.out m0 hbi⟩ (fun hHeld => ?_)
      clear hK K
      try simp only [Act.put, List.setIfInBounds_toArray, List.set_cons_zero, List.set_cons_succ]
      refine wpAnyH_take (i := 11) (oi := ({ dst := some 30, op := Op.binOp BinOp.add 9 (Operand.tmp 24) (Operand.tmp 29) 9, type := 9, pos := "row.go:18", after := #[{ on := 5, ground := Ground.data }, { on := 10, ground := Ground.data }], guard := none })) (v := (.string (xb ++ ⟨#[61]⟩ ++ tb))) rfl (by kernel_rfl) (by kernel_rfl) (by kernel_rfl) (fun _ _ _ h => h) (Or.inl ⟨by rfl, ?_⟩) (by assumption) ?_
      · (intro w hSw; (try dsimp only at hSw); go_simp)
      try simp only [Act.put, List.setIfInBounds_toArray, List.set_cons_zero, List.set_cons_succ]
      refine wpAnyH_ready (rs := [12]) (by kernel_rfl) (by simp) (AllReadyH.cons (o := ({ dst := some 31, op := Op.buildSlice 44 1 #[(0, Operand.tmp 30)], type := 44, pos := "row.go:18", after := #[{ on := 11, ground := Ground.data }], guard := none })) rfl (fun K hK => ?_) AllReadyH.nil)
      go_simp
      clear hHeld
      refine hK.out _ _ ⟨keepA (keepB HB2.out n0 hbn) _, keepA (keepB HB2.out m0 hbi) _⟩ (fun hHeld => ?_)
      clear hK K
      try simp only [Act.put, List.setIfInBounds_toArray, List.set_cons_zero, List.set_cons_succ]
      refine wpAnyH_ready (rs := [13]) (by kernel_rfl) (by simp) (AllReadyH.cons (o := ({ dst := some 32, op := Op.call { callee := Callee.builtin Builtin.append, args := #[Operand.tmp 19, Operand.tmp 31], argTypes := #[44, 44] }, type := 44, pos := "row.go:18", after := #[{ on := 0, ground := Ground.data }, { on := 12, ground := Ground.data }, { on := 10, ground := Ground.chain }], guard := none })) rfl (fun K hK => ?_) AllReadyH.nil)
      rw [if_pos (by rfl)]
      refine wp_append_own _ _ _ 44 rfl w.heap.size 9 i0 (.string ⟨#[]⟩) 1 16 Tryd.underlying44 HI.out hz hsize hby rfl (by decide) _ (l.map strL).length ((l.map strL).map Value.string) rfl (HO2.out.below ((Below.refl _ _).alloc (Nat.le_refl _) _) (Nat.le_refl _)) ⟨_, 0, none⟩ 1 1 [.string (xb ++ ⟨#[61]⟩ ++ tb)] rfl rfl (cell_one_new _ _ _) (by intro u hu; simp at hu; subst hu; rfl) (by unfold maxLen; simp; omega) (by simp; omega) (by have := HB2.out.size; simp at this ⊢; omega) ?_
      intro v' w4 hown2 hgrow _
      have HO3 := Lib.hid (OwnS.mk (l := l.map strL) (b := xb ++ ⟨#[61]⟩ ++ tb) hown2)
      have HB3 := Lib.hid (OwnS.gby (HO2.out.below ((Below.refl _ _).alloc (Nat.le_refl _) _) (Nat.le_refl _)) (HB2.out.alloc HB2.out.size _) (by have := HB2.out.size; simp at this ⊢; omega) hgrow)
      clear hown2 hgrow
      clear hHeld
      refine hK.out _ _ ⟨keepB HB3.out n0 hbn, keepB HB3.out m0 hbi⟩ (fun hHeld => ?_)
      clear hK K
      try simp only [Act.put, List.setIfInBounds_toArray, List.set_cons_zero, List.set_cons_succ]
      refine wpAnyH_take (i := 14) (oi := ({ dst := some 7, op := Op.assign (Operand.tmp 32), type := 44, pos := "row.go:18", after := #[{ on := 13, ground := Ground.data }, { on := 13, ground := Ground.chain }, { on := 0, ground := Ground.phase }, { on := 1, ground := Ground.phase }, { on := 2, ground := Ground.phase }, { on := 3, ground := Ground.phase }, { on := 4, ground := Ground.phase }, { on := 5, ground := Ground.phase }, { on := 6, ground := Ground.phase }, { on := 7, ground := Ground.phase }, { on := 8, ground := Ground.phase }, { on := 9, ground := Ground.phase }, { on := 10, ground := Ground.phase }, { on := 11, ground := Ground.phase }, { on := 12, ground := Ground.phase }, { on := 13, ground := Ground.phase }], guard := none })) (v := v') rfl (by kernel_rfl) (by kernel_rfl) (by kernel_rfl) (fun _ _ _ h => h) (Or.inl ⟨by rfl, ?_⟩) (by assumption) ?_
      · (intro w hSw; (try dsimp only at hSw); go_simp)
      try simp only [Act.put, List.setIfInBounds_toArray, List.set_cons_zero, List.set_cons_succ]
      refine wpAnyH_done (by kernel_rfl) ?_ _
      clear hHeld
      rw [HP.out] at HO3
      go_wp2_with fail
      go_roundg (Q - (k + 1))
      case measure => omega
      case rel => exact ⟨k + 1, l ++ [X ++ [61] ++ T], by omega, rfl, by go_num, by rw [List.length_append, hll]; rfl, by rw [List.map_append]; exact HO3.out, HB3.out, HA2⟩
    · obtain rfl : k = Q := by omega
      have HF : Hid (Lib.join l [32] = rowL word names ns) := Lib.hid (by rw [HA.out, List.take_of_length_le (by rw [HPL.out, HQ.out]; exact Nat.le_refl _)]; rfl)
      have HR := Lib.hid HO.out.row
      have hjl : (Lib.join l [32]).length ≤ 100000000 := by rw [HF.out]; exact HJL.out
      have J := Lib.hid (fun (wx : World) (v : Value) (h : RowS wx v (l.map strL)) => words_joined v l wx h (by omega) hjl)
      rw [HF.out, HRL.out] at J
      clear hjl HF HA HO
      go_wp2_with fail
      refine (J.out _ _ HR.out).mono ?_
      rintro e w2 ⟨rfl, hb2⟩
      have HB2 := Lib.hid (HB.out.trans (hb2.mono HB.out.size))
      clear hb2
      go_wp2_with fail
      go_ret
      exact ⟨rfl, HB2.out⟩
set_option maxRecDepth 100000 in
set_option maxHeartbeats 3200000 in
theorem ref07_line (word : List UInt8) (vn vi : Value) (names : List (List UInt8)) (ns : List Int) (w : World) (hn : RowS w vn (names.map strL)) (hi : RowN w vi ns) (hw1 : word.length ≤ 100) (hn1 : names.length ≤ 1000) (hn2 : ∀ y ∈ names, y.length ≤ 60) (hi1 : ns.length ≤ 9223372036854775807) (hi2 : ∀ n ∈ ns, inI n) :
    Calls Tryd.prog 16 #[.string (strL word), vn, vi] w fun e w' => e = .returned (.string (strL (rowL word names ns))) ∧ Below w.heap.size w w' := by
  obtain ⟨i0, hi0, hz, hsize, hby⟩ : ∃ i, Tryd.prog.info? 9 = some i ∧ i.zero = some (.string ⟨#[]⟩) ∧ i.size = 1 ∧ i.bytes = 16 := ⟨_, rfl, rfl, rfl, rfl⟩
  have HI := Lib.hid hi0
  clear hi0
  obtain ⟨pn, cn, rfl⟩ := hn.len
  obtain ⟨pi, ci, rfl⟩ := hi.len
  rw [List.length_map] at hn ⊢
  obtain ⟨N, hN⟩ : ∃ N, names.length = N := ⟨_, rfl⟩
  obtain ⟨M, hM⟩ : ∃ M, ns.length = M := ⟨_, rfl⟩
  have hpl : (rowP names ns).length = min N M := by rw [rowP_length, hN, hM]
  rw [hN] at hn hn1 ⊢
  rw [hM] at hi hi1 ⊢
  have HPN := Lib.hid (rowS_pick_ hn hN)
  have HPI := Lib.hid (rowN_pick hi hM)
  have HNS := Lib.hid hi2
  have HNL := Lib.hid hn2
  have HPL := Lib.hid hpl
  have HJL : Hid ((Lib.join (word :: rowP names ns) [32]).length ≤ 100000000) := Lib.hid (by
    have h1 := join_le (word :: rowP names ns) (by
      intro y hy
      rw [List.mem_cons] at hy
      rcases hy with rfl | hy
      · exact hw1
      · exact rowP_len names hn2 ns hi2 y hy)
    rw [List.length_cons, hpl] at h1
    omega)
  obtain ⟨RL, hRL⟩ : ∃ RL, strL (rowL word names ns) = RL := ⟨_, rfl⟩
  have HRL := Lib.hid hRL
  rw [hRL]
  obtain ⟨wb, hwb⟩ : ∃ wb, strL word = wb := ⟨_, rfl⟩
  have HWB := Lib.hid hwb
  rw [hwb]
  obtain ⟨Q, hQ⟩ : ∃ Q, min N M = Q := ⟨_, rfl⟩
  have hQN : Q ≤ N := by omega
  have hQM : Q ≤ M := by omega
  have HQ := Lib.hid hQ
  have hQ2 : Q = N ∨ Q = M := by omega
  clear hn hi hn2 hi2 hpl hRL hwb hN hM hQ
  go_enter Tryd.func16, Tryd.ntmps16
  go_upto_region 2 with fail
  have HO0 := Lib.hid (ownS_lit w w.heap.size (Nat.le_refl _) wb)
  have HB0 : Hid (Below w.heap.size w (w.alloc (.cells #[.string wb] 9))) := Lib.hid ((Below.refl _ _).alloc (Nat.le_refl _) _)
  obtain ⟨W0, hW0⟩ : ∃ W0, w.alloc (.cells #[.string wb] 9) = W0 := ⟨_, rfl⟩
  rw [hW0] at HO0 HB0 ⊢
  clear hW0
  go_wp2_with fail
  go_loopg [7, 8] Q (fun g v i wr => ∃ (k : Nat) (l : List (List UInt8)), k ≤ Q ∧ g = Q - k ∧ i = .int .i64 k ∧ l.length = k + 1 ∧ OwnS w.heap.size wr v (l.map strL) ∧ Below w.heap.size w wr ∧ Hid (l = word :: (rowP names ns).take k))
  case atStart => exact ⟨0, [word], Nat.zero_le _, rfl, rfl, rfl, by rw [← HWB.out] at HO0; exact HO0.out, HB0.out, Lib.hid rfl⟩
  case round =>
    obtain ⟨k, l, hk, hg, rfl, hll, hown, hbl, HA⟩ := hrel
    have hg := hg.symm
    subst hg
    have HO := Lib.hid hown
    have HB := Lib.hid hbl
    clear hown hbl HO0 HB0
    by_cases hlt : k < Q
    · obtain ⟨bn, on, cp, X, e1, hX, n0, hbn⟩ := HPN.out k (by omega)
      cases e1
      obtain ⟨bi, oi, cp, x, e1, hx, m0, hbi⟩ := HPI.out k (by omega)
      cases e1
      have n1 := keepB HB.out n0 hbn
      have m1 := keepB HB.out m0 hbi
      have hkQ : (k : Int) < (Q : Int) := by omega
      have hkN : (k : Int) < (N : Int) := by omega
      have hkM : (k : Int) < (M : Int) := by omega
      have hk0 : (0 : Int) ≤ (k : Int) := by omega
      have TX := Lib.hid (fun w => ref05_textI x (HNS.out x (List.mem_of_getElem? hx)) w)
      have hXl := HNL.out X (List.mem_of_getElem? hX)
      have hTl := itoa_len x (HNS.out x (List.mem_of_getElem? hx))
      have HA2 : Hid (l ++ [X ++ [61] ++ Lib.itoa x] = word :: (rowP names ns).take (k + 1)) := Lib.hid (by rw [rowL_take_at word hX hx, ← HA.out])
      obtain ⟨T, hT⟩ : ∃ T, Lib.itoa x = T := ⟨_, rfl⟩
      rw [hT] at TX HA2 hTl
      obtain ⟨xb, hxb⟩ : ∃ xb, strL X = xb := ⟨_, rfl⟩
      obtain ⟨tb, htb⟩ : ∃ tb, strL T = tb := ⟨_, rfl⟩
      have HP : Hid (xb ++ ⟨#[61]⟩ ++ tb = strL (X ++ [61] ++ T)) := Lib.hid (str_part xb tb X T hxb htb)
      rw [hxb] at n0 n1
      rw [htb] at TX
      have hs1 : xb.size ≤ 60 := by rw [← hxb, strL_size]; exact hXl
      have hs2 : tb.size ≤ 20 := by rw [← htb, strL_size]; exact hTl
      clear hX hx HA hT hxb htb hXl hTl
      have hq1 : ¬ (9223372036854775807 < xb.size + 1) := by omega
      have hq2 : ¬ (9223372036854775807 < xb.size + 1 + tb.size) := by omega
      have hq3 : ¬ (9223372036854775807 < (xb ++ ⟨#[61]⟩).size + tb.size) := by rw [ByteArray.size_append]; show ¬ (9223372036854775807 < xb.size + 1 + tb.size); omega
      go_upto_region 5 with fail
      refine wp_region_held_drew (S := (fun w' => w'.cell? ⟨bn, on + k, none⟩ = some (.string xb) ∧ w'.cell? ⟨bi, oi + k, none⟩ = some (.int .i64 x))) (by kernel_rfl) ⟨n1, m1⟩ (fun hHeld => ?_)
      refine wpAnyH_take (i := 0) (oi := ({ dst := some 23, op := Op.move (Operand.tmp 7), type := 44, pos := "ref.go:14", after := #[], guard := none })) (v := u7) rfl (by kernel_rfl) (by kernel_rfl) (by kernel_rfl) (fun _ _ _ h => h) (Or.inl ⟨by rfl, ?_⟩) (by assumption) ?_
      · (intro w hSw; (try dsimp only at hSw); go_simp)
      try simp only [Act.put, List.setIfInBounds_toArray, List.set_cons_zero, List.set_cons_succ]
      refine wpAnyH_take (i := 1) (oi := ({ dst := some 24, op := Op.move (Operand.tmp 1), type := 44, pos := "ref.go:14", after := #[], guard := none })) (v := (.slice (some ⟨bn, on, none⟩) N cn)) rfl (by kernel_rfl) (by kernel_rfl) (by kernel_rfl) (fun _ _ _ h => h) (Or.inl ⟨by rfl, ?_⟩) (by assumption) ?_
      · (intro w hSw; (try dsimp only at hSw); go_simp)
      try simp only [Act.put, List.setIfInBounds_toArray, List.set_cons_zero, List.set_cons_succ]
      refine wpAnyH_take (i := 2) (oi := ({ dst := some 25, op := Op.move (Operand.tmp 8), type := 3, pos := "ref.go:14", after := #[], guard := none })) (v := (.int .i64 k)) rfl (by kernel_rfl) (by kernel_rfl) (by kernel_rfl) (fun _ _ _ h => h) (Or.inl ⟨by rfl, ?_⟩) (by assumption) ?_
      · (intro w hSw; (try dsimp only at hSw); go_simp)
      try simp only [Act.put, List.setIfInBounds_toArray, List.set_cons_zero, List.set_cons_succ]
      refine wpAnyH_take (i := 3) (oi := ({ dst := some 26, op := Op.indexAddr 44 (Operand.tmp 24) (Operand.tmp 25), type := 0, pos := "ref.go:14", after := #[{ on := 1, ground := Ground.data }, { on := 2, ground := Ground.data }], guard := none })) (v := (.pointer (some ⟨bn, on + k, none⟩))) rfl (by kernel_rfl) (by kernel_rfl) (by kernel_rfl) (fun _ _ _ h => h) (Or.inl ⟨by rfl, ?_⟩) (by assumption) ?_
      · (intro w hSw; (try dsimp only at hSw); go_simp)
      try simp only [Act.put, List.setIfInBounds_toArray, List.set_cons_zero, List.set_cons_succ]
      refine wpAnyH_take (i := 4) (oi := ({ dst := some 27, op := Op.load 9 (Operand.tmp 26), type := 9, pos := "ref.go:14", after := #[{ on := 3, ground := Ground.data }], guard := none })) (v := (.string xb)) rfl (by kernel_rfl) (by kernel_rfl) (by kernel_rfl) (fun _ _ _ h => h) (Or.inl ⟨by rfl, ?_⟩) (by assumption) ?_
      · (intro w hSw; (try dsimp only at hSw); go_simp)
      try simp only [Act.put, List.setIfInBounds_toArray, List.set_cons_zero, List.set_cons_succ]
      refine wpAnyH_take (i := 5) (oi := ({ dst := some 28, op := Op.binOp BinOp.add 9 (Operand.tmp 27) (Operand.const (Value.string { data := #[61] })) 9, type := 9, pos := "ref.go:14", after := #[{ on := 4, ground := Ground.data }], guard := none })) (v := (.string (xb ++ ⟨#[61]⟩))) rfl (by kernel_rfl) (by kernel_rfl) (by kernel_rfl) (fun _ _ _ h => h) (Or.inl ⟨by rfl, ?_⟩) (by assumption) ?_
      · (intro w hSw; (try dsimp only at hSw); go_simp)
      try simp only [Act.put, List.setIfInBounds_toArray, List.set_cons_zero, List.set_cons_succ]
      refine wpAnyH_take (i := 6) (oi := ({ dst := some 29, op := Op.move (Operand.tmp 2), type := 39, pos := "ref.go:14", after := #[], guard := none })) (v := (.slice (some ⟨bi, oi, none⟩) M ci)) rfl (by kernel_rfl) (by kernel_rfl) (by kernel_rfl) (fun _ _ _ h => h) (Or.inl ⟨by rfl, ?_⟩) (by assumption) ?_
      · (intro w hSw; (try dsimp only at hSw); go_simp)
      try simp only [Act.put, List.setIfInBounds_toArray, List.set_cons_zero, List.set_cons_succ]
      refine wpAnyH_take (i := 7) (oi := ({ dst := some 30, op := Op.move (Operand.tmp 8), type := 3, pos := "ref.go:14", after := #[], guard := none })) (v := (.int .i64 k)) rfl (by kernel_rfl) (by kernel_rfl) (by kernel_rfl) (fun _ _ _ h => h) (Or.inl ⟨by rfl, ?_⟩) (by assumption) ?_
      · (intro w hSw; (try dsimp only at hSw); go_simp)
      try simp only [Act.put, List.setIfInBounds_toArray, List.set_cons_zero, List.set_cons_succ]
      refine wpAnyH_take (i := 8) (oi := ({ dst := some 31, op := Op.indexAddr 39 (Operand.tmp 29) (Operand.tmp 30), type := 0, pos := "ref.go:14", after := #[{ on := 6, ground := Ground.data }, { on := 7, ground := Ground.data }], guard := none })) (v := (.pointer (some ⟨bi, oi + k, none⟩))) rfl (by kernel_rfl) (by kernel_rfl) (by kernel_rfl) (fun _ _ _ h => h) (Or.inl ⟨by rfl, ?_⟩) (by assumption) ?_
      · (intro w hSw; (try dsimp only at hSw); go_simp)
      try simp only [Act.put, List.setIfInBounds_toArray, List.set_cons_zero, List.set_cons_succ]
      refine wpAnyH_take (i := 9) (oi := ({ dst := some 32, op := Op.load 3 (Operand.tmp 31), type := 3, pos := "ref.go:14", after := #[{ on := 8, ground := Ground.data }], guard := none })) (v := (.int .i64 x)) rfl (by kernel_rfl) (by kernel_rfl) (by kernel_rfl) (fun _ _ _ h => h) (Or.inl ⟨by rfl, ?_⟩) (by assumption) ?_
      · (intro w hSw; (try dsimp only at hSw); go_simp)
      try simp only [Act.put, List.setIfInBounds_toArray, List.set_cons_zero, List.set_cons_succ]
      refine wpAnyH_ready (rs := [10]) (by kernel_rfl) (by simp) (AllReadyH.cons (o := ({ dst := some 33, op := Op.call { callee := Callee.value (Operand.func 34), args := #[Operand.tmp 32], argTypes := #[3] }, type := 9, pos := "ref.go:14", after := #[{ on := 9, ground := Ground.data }], guard := none })) rfl (fun K hK => ?_) AllReadyH.nil)
      go_simp
      refine (TX.out _).mono ?_
      rintro e w2 ⟨rfl, rfl⟩
      have hb3 : Below wr.heap.size wr wr.drew := by exact ⟨rfl, rfl, rfl, Nat.le_refl _, fun _ _ => rfl⟩
      have HO2 := Lib.hid (HO.out.below hb3 (Nat.le_refl _))
      have HB2 := Lib.hid (HB.out.trans (hb3.mono HB.out.size))
      clear hb3
      go_wp2_with fail
      clear hHeld
      refine hK.out _ _ ⟨keepB HB2.out n0 hbn, keepB HB2.out m0 hbi⟩ (fun hHeld => ?_)
      clear hK K
      try simp only [Act.put, List.setIfInBounds_toArray, List.set_cons_zero, List.set_cons_succ]
      refine wpAnyH_take (i := 11) (oi := ({ dst := some 34, op := Op.binOp BinOp.add 9 (Operand.tmp 28) (Operand.tmp 33) 9, type := 9, pos := "ref.go:14", after := #[{ on := 5, ground := Ground.data }, { on := 10, ground := Ground.data }], guard := none })) (v := (.string (xb ++ ⟨#[61]⟩ ++ tb))) rfl (by kernel_rfl) (by kernel_rfl) (by kernel_rfl) (fun _ _ _ h => h) (Or.inl ⟨by rfl, ?_⟩) (by assumption) ?_
      · (intro w hSw; (try dsimp only at hSw); go_simp)
      try simp only [Act.put, List.setIfInBounds_toArray, List.set_cons_zero, List.set_cons_succ]
      refine wpAnyH_ready (rs := [12]) (by kernel_rfl) (by simp) (AllReadyH.cons (o := ({ dst := some 35, op := Op.buildSlice 44 1 #[(0, Operand.tmp 34)], type := 44, pos := "ref.go:14", after := #[{ on := 11, ground := Ground.data }], guard := none })) rfl (fun K hK => ?_) AllReadyH.nil)
      go_simp
      clear hHeld
      refine hK.out _ _ ⟨keepA (keepB HB2.out n0 hbn) _, keepA (keepB HB2.out m0 hbi) _⟩ (fun hHeld => ?_)
      clear hK K
      try simp only [Act.put, List.setIfInBounds_toArray, List.set_cons_zero, List.set_cons_succ]
      refine wpAnyH_ready (rs := [13]) (by kernel_rfl) (by simp) (AllReadyH.cons (o := ({ dst := some 36, op := Op.call { callee := Callee.builtin Builtin.append, args := #[Operand.tmp 23, Operand.tmp 35], argTypes := #[44, 44] }, type := 44, pos := "ref.go:14", after := #[{ on := 0, ground := Ground.data }, { on := 12, ground := Ground.data }, { on := 10, ground := Ground.chain }], guard := none })) rfl (fun K hK => ?_) AllReadyH.nil)
      rw [if_pos (by rfl)]
      refine wp_append_own _ _ _ 44 rfl w.heap.size 9 i0 (.string ⟨#[]⟩) 1 16 Tryd.underlying44 HI.out hz hsize hby rfl (by decide) _ (l.map strL).length ((l.map strL).map Value.string) rfl (HO2.out.below ((Below.refl _ _).alloc (Nat.le_refl _) _) (Nat.le_refl _)) ⟨_, 0, none⟩ 1 1 [.string (xb ++ ⟨#[61]⟩ ++ tb)] rfl rfl (cell_one_new _ _ _) (by intro u hu; simp at hu; subst hu; rfl) (by unfold maxLen; simp; omega) (by simp; omega) (by have := HB2.out.size; simp at this ⊢; omega) ?_
      intro v' w4 hown2 hgrow _
      have HO3 := Lib.hid (OwnS.mk (l := l.map strL) (b := xb ++ ⟨#[61]⟩ ++ tb) hown2)
      have HB3 := Lib.hid (OwnS.gby (HO2.out.below ((Below.refl _ _).alloc (Nat.le_refl _) _) (Nat.le_refl _)) (HB2.out.alloc HB2.out.size _) (by have := HB2.out.size; simp at this ⊢; omega) hgrow)
      clear hown2 hgrow
      clear hHeld
      refine hK.out _ _ ⟨keepB HB3.out n0 hbn, keepB HB3.out m0 hbi⟩ (fun hHeld => ?_)
      clear hK K
      try simp only [Act.put, List.setIfInBounds_toArray, List.set_cons_zero, List.set_cons_succ]
      refine wpAnyH_take (i := 14) (oi := ({ dst := some 7, op := Op.assign (Operand.tmp 36), type := 44, pos := "ref.go:14", after := #[{ on := 13, ground := Ground.data }, { on := 13, ground := Ground.chain }, { on := 0, ground := Ground.phase }, { on := 1, ground := Ground.phase }, { on := 2, ground := Ground.phase }, { on := 3, ground := Ground.phase }, { on := 4, ground := Ground.phase }, { on := 5, ground := Ground.phase }, { on := 6, ground := Ground.phase }, { on := 7, ground := Ground.phase }, { on := 8, ground := Ground.phase }, { on := 9, ground := Ground.phase }, { on := 10, ground := Ground.phase }, { on := 11, ground := Ground.phase }, { on := 12, ground := Ground.phase }, { on := 13, ground := Ground.phase }], guard := none })) (v := v') rfl (by kernel_rfl) (by kernel_rfl) (by kernel_rfl) (fun _ _ _ h => h) (Or.inl ⟨by rfl, ?_⟩) (by assumption) ?_
      · (intro w hSw; (try dsimp only at hSw); go_simp)
      try simp only [Act.put, List.setIfInBounds_toArray, List.set_cons_zero, List.set_cons_succ]
      refine wpAnyH_done (by kernel_rfl) ?_ _
      clear hHeld
      rw [HP.out] at HO3
      go_wp2_with fail
      go_roundg (Q - (k + 1))
      case measure => omega
      case rel => exact ⟨k + 1, l ++ [X ++ [61] ++ T], by omega, rfl, by go_num, by rw [List.length_append, hll]; rfl, by rw [List.map_append]; exact HO3.out, HB3.out, HA2⟩
    · obtain rfl : k = Q := by omega
      have HF : Hid (Lib.join l [32] = rowL word names ns) := Lib.hid (by rw [HA.out, List.take_of_length_le (by rw [HPL.out, HQ.out]; exact Nat.le_refl _)]; rfl)
      have HR := Lib.hid HO.out.row
      have hjl : (Lib.join l [32]).length ≤ 100000000 := by rw [HF.out]; exact HJL.out
      have J := Lib.hid (fun (wx : World) (v : Value) (h : RowS wx v (l.map strL)) => ref06_join v l wx h (by omega) hjl)
      rw [HF.out, HRL.out] at J
      clear hjl HF HA HO
      rcases Nat.lt_or_ge k N with hkN | hkN
      · have h1 : (k : Int) < (N : Int) := by omega
        have h2 : (M : Int) ≤ (k : Int) := by omega
        have h3 : ¬ ((k : Int) < (M : Int)) := by omega
        go_wp2_with fail
        refine (J.out _ _ HR.out).mono ?_
        rintro e w2 ⟨rfl, rfl⟩
        go_wp2_with fail
        go_ret
        exact ⟨rfl, HB.out⟩
      have h1 : (N : Int) ≤ (k : Int) := by omega
      have h3 : ¬ ((k : Int) < (N : Int)) := by omega
      go_wp2_with fail
      refine (J.out _ _ HR.out).mono ?_
      rintro e w2 ⟨rfl, rfl⟩
      go_wp2_with fail
      go_ret
      exact ⟨rfl, HB.out⟩
end Go.Proofs.YtanihdpgblkeaaaDoor
