/-
  The record of bytes (reeve's layer 20): the walks of the reader and of Open.
-/
import Derived.Test.YtokghlmffkboiaaGreatRecRead
import Derived.Test.YtokghlmffkboiaaGreatFrameLaw
namespace Go.Proofs.YtokghlmffkboiaaGreat
open Go.RowKit
set_option linter.unusedVariables false
set_option linter.unusedSimpArgs false

theorem info_record (l : List Int) (h : l.length = 10) : (Tryz.prog.info? 27).map (·.size) = some (cellsI l).size := by
  rw [cellsI_size, h]; kernel_rfl
theorem readL_len (s : ByteArray) : (readL s).1.length = 10 := by
  have h := getL_len (s.extract (0 + tookLen (Oct.takeVar (rest s 0)) + tookLen (Oct.takeVar (rest s (0 + tookLen (Oct.takeVar (rest s 0)))))) s.size)
  unfold readL
  split
  · rfl
  split
  · rfl
  split
  · rfl
  split
  · rfl
  · simp only [List.length_cons]; rw [h]
theorem readL_err (s : ByteArray) (h : (readL s).2 ≠ 0) : (readL s).1 = zeroR := by
  unfold readL at h ⊢
  split
  · rfl
  split
  · rfl
  split
  · rfl
  split
  · rfl
  · rename_i h1 h2 h3 h4
    rw [if_neg h1, if_neg h2, if_neg h3, if_neg h4] at h
    exact absurd rfl h
theorem three_recs (w : World) (b : Nat) (hb : w.heap.size = b) (s : ByteArray) :
    Blk (((w.alloc (.cells #[.string s] 9)).alloc (.cells (cellsI zeroR) 27)).alloc (.cells (cellsI zeroR) 27)) b #[.string s] 9 ∧
    Blk (((w.alloc (.cells #[.string s] 9)).alloc (.cells (cellsI zeroR) 27)).alloc (.cells (cellsI zeroR) 27)) (b + 1) (cellsI zeroR) 27 ∧
    Blk (((w.alloc (.cells #[.string s] 9)).alloc (.cells (cellsI zeroR) 27)).alloc (.cells (cellsI zeroR) 27)) (b + 2) (cellsI zeroR) 27 ∧
    (((w.alloc (.cells #[.string s] 9)).alloc (.cells (cellsI zeroR) 27)).alloc (.cells (cellsI zeroR) 27)).heap.size = b + 3 ∧
    Below b w (((w.alloc (.cells #[.string s] 9)).alloc (.cells (cellsI zeroR) 27)).alloc (.cells (cellsI zeroR) 27)) := by
  subst hb
  refine ⟨((Blk.new w _ _).alloc _).alloc _, ?_, ?_, by simp, (((Below.refl _ w).alloc (Nat.le_refl _) _).alloc (by simp) _).alloc (by simp; omega) _⟩
  · have h := (Blk.new (w.alloc (.cells #[.string s] 9)) (cellsI zeroR) 27).alloc (.cells (cellsI zeroR) 27)
    have e : (w.alloc (.cells #[.string s] 9)).heap.size = w.heap.size + 1 := by simp
    rw [e] at h; exact h
  · have h := Blk.new ((w.alloc (.cells #[.string s] 9)).alloc (.cells (cellsI zeroR) 27)) (cellsI zeroR) 27
    have e : ((w.alloc (.cells #[.string s] 9)).alloc (.cells (cellsI zeroR) 27)).heap.size = w.heap.size + 2 := by simp
    rw [e] at h; exact h
set_option maxRecDepth 100000 in
set_option maxHeartbeats 3200000 in
theorem rec_read (s : ByteArray) (hs : s.size ≤ maxLen) (w : World) :
    Calls Tryz.prog 42 #[.string s] w fun e w' => e = .returned (.tuple #[.agg (cellsI (readL s).1), .int .i64 (readL s).2]) ∧ Below w.heap.size w w' := by
  have hu := Tryz.underlying27
  obtain ⟨b, hb⟩ : ∃ b, w.heap.size = b := ⟨_, rfl⟩
  obtain ⟨k0, k1, k2, kz, kb⟩ := three_recs w b hb s
  have HF := fun w' (h' : St b s 0 0 0 w') => rec_first b s hs w' h'
  have hlen := readL_len s
  have herr := readL_err s
  generalize (readL s).1 = R1 at HF hlen herr ⊢
  generalize (readL s).2 = R2 at HF herr ⊢
  rw [hb]
  obtain ⟨W, hW⟩ : ∃ W, ((w.alloc (.cells #[.string s] 9)).alloc (.cells (cellsI zeroR) 27)).alloc (.cells (cellsI zeroR) 27) = W := ⟨_, rfl⟩
  rw [hW] at k0 k1 k2 kz kb
  have HW := Lib.hid hW
  have K0 := Lib.hid k0
  have K1 := Lib.hid k1
  have K2 := Lib.hid k2
  have KB := Lib.hid kb
  have HF := Lib.hid HF
  have HERR := Lib.hid herr
  have hW2 : ((w.alloc (.cells #[.string s] 9)).alloc (.cells #[Value.int .i64 0, Value.int .i64 0, Value.int .i64 0, Value.int .i64 0, Value.int .i64 0, Value.int .i64 0, Value.int .i64 0, Value.int .i64 0, Value.int .i64 0, Value.int .i64 0] 27)).alloc (.cells #[Value.int .i64 0, Value.int .i64 0, Value.int .i64 0, Value.int .i64 0, Value.int .i64 0, Value.int .i64 0, Value.int .i64 0, Value.int .i64 0, Value.int .i64 0, Value.int .i64 0] 27) = W := hW
  have HW2 := Lib.hid hW2
  clear hW k0 k1 k2 kb herr hW2
  go_enter Tryz.func42, Tryz.ntmps42
  go_upto_region 2 with fail
  rw [HW2.out]
  have a0 := K0.out.cell (i := 0) rfl
  have e11 : b + 1 + 1 = b + 2 := rfl
  rw [e11]
  clear HW2 HW
  go_wp2_with fail
  refine (octet_new s W).mono ?_
  rintro e w1 ⟨rfl, hc1, hb1, hz1⟩
  rw [kz] at hc1 hb1 hz1 ⊢
  have K0 := Lib.hid (K0.out.below hb1 (by omega))
  have K1 := Lib.hid (K1.out.below hb1 (by omega))
  have K2 := Lib.hid (K2.out.below hb1 (by omega))
  have KB := Lib.hid (KB.out.trans (hb1.mono (by omega)))
  have C1 := Lib.hid hc1
  clear hc1 hb1 a0
  go_upto_region 3 with fail
  rw [show b + 3 + 1 = b + 4 from rfl] at hz1 ⊢
  obtain ⟨W2, hW2⟩ : ∃ W2, w1.alloc (.cells #[.pointer (some ⟨b + 3, 0, none⟩)] 110) = W2 := ⟨_, rfl⟩
  have hz2 : W2.heap.size = b + 5 := by rw [← hW2]; simp [hz1]
  have C4 : Hid (Blk W2 (b + 4) #[.pointer (some ⟨b + 3, 0, none⟩)] 110) := Lib.hid (by rw [← hW2, ← hz1]; exact Blk.new w1 _ _)
  have K0 : Hid (Blk W2 b #[.string s] 9) := Lib.hid (by rw [← hW2]; exact K0.out.alloc _)
  have K1 : Hid (Blk W2 (b + 1) (cellsI zeroR) 27) := Lib.hid (by rw [← hW2]; exact K1.out.alloc _)
  have K2 : Hid (Blk W2 (b + 2) (cellsI zeroR) 27) := Lib.hid (by rw [← hW2]; exact K2.out.alloc _)
  have C3 : Hid (Cur W2 (b + 3) s 0) := Lib.hid (by rw [← hW2]; exact C1.out.alloc _)
  have KB : Hid (Below b w W2) := Lib.hid (by rw [← hW2]; exact KB.out.alloc (by omega) _)
  rw [hW2]
  clear hW2 C1
  go_wp2_with fail
  refine (rec_mk (b + 2) 0 (b + 4) W2).mono ?_
  rintro e w2 ⟨rfl, rfl⟩
  rw [hz2]
  go_wp2_with fail
  refine (rec_mk (b + 2) 1 (b + 4) _).mono ?_
  rintro e w2 ⟨rfl, rfl⟩
  have hz3 : (W2.alloc (.cells #[.pointer (some ⟨b + 2, 0, none⟩)] 102)).heap.size = b + 6 := by simp [hz2]
  rw [hz3]
  go_wp2_with fail
  have hz4 : ((W2.alloc (.cells #[.pointer (some ⟨b + 2, 0, none⟩)] 102)).alloc (.cells #[.pointer (some ⟨b + 2, 1, none⟩)] 102)).heap.size = b + 7 := by simp [hz2]
  refine (HF.out _ (by
    refine ⟨((K0.out.alloc _).alloc _).alloc _, ((K2.out.alloc _).alloc _).alloc _, ((C3.out.alloc _).alloc _).alloc _, ((C4.out.alloc _).alloc _).alloc _, ?_, ?_, ?_⟩
    · rw [← hz2]; exact ((Blk.new W2 _ _).alloc _).alloc _
    · rw [← hz3]; exact (Blk.new (W2.alloc _) _ _).alloc _
    · rw [← hz4]; exact Blk.new ((W2.alloc _).alloc _) _ _)).mono ?_
  rintro e w4 ⟨rfl, hb4, hr4⟩
  have K1 := Lib.hid ((((K1.out.alloc (.cells #[.pointer (some ⟨b + 2, 0, none⟩)] 102)).alloc (.cells #[.pointer (some ⟨b + 2, 1, none⟩)] 102)).alloc _).below hb4 (by omega))
  have L4 := Lib.hid (((((KB.out.alloc (by omega) _).alloc (by rw [hz3]; omega) _).alloc (by rw [hz4]; omega) _)).trans (hb4.mono (by omega)))
  have HR := Lib.hid hr4
  clear hr4 hb4 K0 K2 C3 C4 KB HF hz2 hz3 hz4 hz1 kz
  by_cases h0 : R2 = 0
  · subst h0
    have HQ : Hid (Blk w4 (b + 2) (cellsI R1) 27) := Lib.hid (HR.out rfl)
    clear HR
    have hsz : (cellsI zeroR).size = (cellsI R1).size := by rw [cellsI_size, cellsI_size, hlen]; try rfl
    go_wp2_with (first
      | (with_reducible refine ev_load rfl 27 (.tmp 4) rfl (b + 2) rfl 27 (cellsI R1) _ HQ.out hu rfl (info_record R1 hlen) ?_)
      | (with_reducible refine ev_store rfl 27 (.tmp 2) (.tmp 25) rfl (b + 1) (cellsI R1) rfl rfl 27 _ K1.out (info_record R1 hlen) hsz (cellsI_one _) ?_; intro w9 hb9 hc9 hz9))
    refine bodyPost_ret (res_ct rfl _ (b + 1) 27 (cellsI R1) _ rfl hb9 hu rfl (info_record R1 hlen)) rfl ⟨rfl, ?_⟩
    exact Chg.belowOf L4.out hc9 (fun k hk => by omega) (by have := L4.out.size; omega)
  · have hne : (R2 == 0) = false := by rw [beq_eq_false_iff_ne]; exact h0
    have hz := HERR.out h0
    subst hz
    go_wp2_with (with_reducible refine ev_store rfl 27 (.tmp 2) (.tmp 23) rfl (b + 1) (cellsI zeroR) rfl rfl 27 _ K1.out (by kernel_rfl) rfl (cellsI_one _) ?_; intro w9 hb9 hc9 hz9)
    refine bodyPost_ret (res_ct rfl _ (b + 1) 27 (cellsI zeroR) _ rfl hb9 hu rfl (info_record zeroR rfl)) rfl ⟨rfl, ?_⟩
    exact Chg.belowOf L4.out hc9 (fun k hk => by omega) (by have := L4.out.size; omega)
/-- The record with which bytes begin, how many bytes it has, and the error. -/
def openR (s : ByteArray) : List Int × Nat × Int :=
  if (openF s).2.2 ≠ 0 then (zeroR, 0, (openF s).2.2) else
  if (readL (openF s).1).2 ≠ 0 then (zeroR, 0, (readL (openF s).1).2) else ((readL (openF s).1).1, (openF s).2.1, 0)
theorem openF_size (s : ByteArray) : (openF s).1.size ≤ s.size := by
  rcases openF_cases s with ⟨e, _, _, h⟩ | ⟨h, _, _⟩
  · rw [h]; exact Nat.zero_le _
  · rw [h]; show (s.extract _ _).size ≤ _; rw [ByteArray.size_extract]; omega
theorem openR_len (s : ByteArray) : (openR s).1.length = 10 := by
  unfold openR
  split
  · rfl
  split
  · rfl
  · exact readL_len _
set_option maxRecDepth 100000 in
set_option maxHeartbeats 3200000 in
theorem rec_open (s : ByteArray) (hs : s.size ≤ maxLen) (w : World) :
    Calls Tryz.prog 11 #[.string s] w fun e w' => e = .returned (.tuple #[.agg (cellsI (openR s).1), .int .i64 (openR s).2.1, .int .i64 (openR s).2.2]) ∧ Below w.heap.size w w' := by
  have hu := Tryz.underlying27
  have HO := frame_open s hs
  have HR := rec_read (openF s).1 (Nat.le_trans (openF_size s) hs)
  have hlen := readL_len (openF s).1
  have hO : openR s = if (openF s).2.2 ≠ 0 then (zeroR, 0, (openF s).2.2) else if (readL (openF s).1).2 ≠ 0 then (zeroR, 0, (readL (openF s).1).2) else ((readL (openF s).1).1, (openF s).2.1, 0) := rfl
  generalize openR s = O at hO ⊢
  obtain ⟨O1, O2, O3⟩ := O
  generalize (openF s).2.2 = E at HO hO
  generalize (openF s).2.1 = N at HO hO
  generalize (openF s).1 = F at HO hO HR hlen
  generalize (readL F).1 = R1 at HR hO hlen
  generalize (readL F).2 = R2 at HR hO
  have HO := Lib.hid HO
  have HR := Lib.hid HR
  have HRL := Lib.hid hO
  obtain ⟨b, hb⟩ : ∃ b, w.heap.size = b := ⟨_, rfl⟩
  have k0 : Blk (w.alloc (.cells (cellsI zeroR) 27)) b (cellsI zeroR) 27 := by rw [← hb]; exact Blk.new w _ _
  have kz : (w.alloc (.cells (cellsI zeroR) 27)).heap.size = b + 1 := by simp [hb]
  have kb : Below b w (w.alloc (.cells (cellsI zeroR) 27)) := (Below.refl b w).alloc (by omega) _
  obtain ⟨W, hW⟩ : ∃ W, w.alloc (.cells (cellsI zeroR) 27) = W := ⟨_, rfl⟩
  rw [hW] at k0 kz kb
  have hW2 : w.alloc (.cells #[Value.int .i64 0, Value.int .i64 0, Value.int .i64 0, Value.int .i64 0, Value.int .i64 0, Value.int .i64 0, Value.int .i64 0, Value.int .i64 0, Value.int .i64 0, Value.int .i64 0] 27) = W := hW
  have HW2 := Lib.hid hW2
  have K0 := Lib.hid k0
  have KB := Lib.hid kb
  rw [hb]
  have hsz : (cellsI zeroR).size = (cellsI R1).size := by rw [cellsI_size, cellsI_size, hlen]; try rfl
  clear hW hW2 k0 kb hO
  go_enter Tryz.func11, Tryz.ntmps11
  go_upto_region 1 with fail
  rw [HW2.out]
  clear HW2
  go_wp2_with fail
  refine (HO.out W).mono ?_
  rintro e w1 ⟨rfl, hb1⟩
  have K1 := Lib.hid (K0.out.below hb1 K0.out.lt)
  have KB1 := Lib.hid (KB.out.trans (hb1.mono (by omega)))
  have L1 : b < w1.heap.size := K1.out.lt
  clear hb1 K0 KB HO kz
  by_cases e1 : E = 0
  · subst e1
    have HRL1 : Hid ((O1, O2, O3) = if R2 ≠ 0 then (zeroR, 0, R2) else (R1, N, 0)) := Lib.hid (by rw [HRL.out, if_neg (show ¬ ((0 : Int) ≠ 0) by simp)])
    clear HRL
    go_wp2_with fail
    refine (HR.out w1).mono ?_
    rintro e w2 ⟨rfl, hb2⟩
    have K2 := Lib.hid (K1.out.below hb2 K1.out.lt)
    have KB2 := Lib.hid (KB1.out.trans (hb2.mono (by omega)))
    have L2 : b < w2.heap.size := K2.out.lt
    clear hb2 K1 KB1 HR
    go_upto_region 5 with (with_reducible refine ev_store rfl 27 (.tmp 8) (.tmp 22) rfl w2.heap.size (cellsI R1) rfl rfl 27 (cellsI zeroR) (Blk.new w2 _ _) (info_record R1 hlen) hsz (cellsI_one _) ?_; intro w3 hb3 hc3 hz3)
    have hc3' : Chg (fun k => k = w2.heap.size) w2 w3 := ⟨hc3.os, hc3.tape, hc3.output, by have := hc3.size; simp at this; omega, fun k hk hn => (hc3.block k (by simp; omega) hn).trans (Below.heap_alloc _ _ _ hk)⟩
    have K3 := Lib.hid (K2.out.chg (w' := w3) (S := fun k => k = w2.heap.size) hc3' (by show ¬ b = _; omega))
    have B3 := Lib.hid hb3
    have KB3 := Lib.hid (Chg.belowOf KB2.out hc3' (fun k hk => by omega) (by omega))
    clear hb3 hc3 K2 KB2
    by_cases e2 : R2 = 0
    · subst e2
      have HRL2 : Hid ((O1, O2, O3) = (R1, N, 0)) := Lib.hid (by rw [HRL1.out, if_neg (show ¬ ((0 : Int) ≠ 0) by simp)])
      clear HRL1
      go_wp2_with (first
        | (with_reducible refine ev_load rfl 27 (.tmp 8) rfl w2.heap.size rfl 27 (cellsI R1) _ B3.out hu rfl (info_record R1 hlen) ?_)
        | (with_reducible refine ev_store rfl 27 (.tmp 2) (.tmp 28) rfl b (cellsI R1) rfl rfl 27 _ K3.out (info_record R1 hlen) hsz (cellsI_one _) ?_; intro w9 hb9 hc9 hz9))
      refine bodyPost_ret (res_ctt rfl _ b 27 (cellsI R1) _ rfl hb9 hu rfl (info_record R1 hlen)) rfl ⟨by have h := HRL2.out; injection h with h1 h2; injection h2 with h2 h3; rw [h1, h2, h3]; rfl, ?_⟩
      exact Chg.belowOf KB3.out hc9 (fun k hk => by omega) (by have := KB3.out.size; omega)
    · have hne : (R2 == 0) = false := by rw [beq_eq_false_iff_ne]; exact e2
      have HRL2 : Hid ((O1, O2, O3) = (zeroR, 0, R2)) := Lib.hid (by rw [HRL1.out, if_pos e2])
      clear HRL1
      go_wp2_with (with_reducible refine ev_store rfl 27 (.tmp 2) (.tmp 26) rfl b (cellsI zeroR) rfl rfl 27 _ K3.out (by kernel_rfl) rfl (cellsI_one _) ?_; intro w9 hb9 hc9 hz9)
      refine bodyPost_ret (res_ctt rfl _ b 27 (cellsI zeroR) _ rfl hb9 hu rfl (info_record zeroR rfl)) rfl ⟨by have h := HRL2.out; injection h with h1 h2; injection h2 with h2 h3; rw [h1, h2, h3]; rfl, ?_⟩
      exact Chg.belowOf KB3.out hc9 (fun k hk => by omega) (by have := KB3.out.size; omega)
  · have hne : (E == 0) = false := by rw [beq_eq_false_iff_ne]; exact e1
    have HRL2 : Hid ((O1, O2, O3) = (zeroR, 0, E)) := Lib.hid (by rw [HRL.out, if_pos e1])
    clear HRL
    go_wp2_with (with_reducible refine ev_store rfl 27 (.tmp 2) (.tmp 17) rfl b (cellsI zeroR) rfl rfl 27 _ K1.out (by kernel_rfl) rfl (cellsI_one _) ?_; intro w9 hb9 hc9 hz9)
    refine bodyPost_ret (res_ctt rfl _ b 27 (cellsI zeroR) _ rfl hb9 hu rfl (info_record zeroR rfl)) rfl ⟨by have h := HRL2.out; injection h with h1 h2; injection h2 with h2 h3; rw [h1, h2, h3]; rfl, ?_⟩
    exact Chg.belowOf KB1.out hc9 (fun k hk => by omega) (by have := KB1.out.size; omega)
end Go.Proofs.YtokghlmffkboiaaGreat
