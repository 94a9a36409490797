/-
  The walk of the statement DiskTorn.
-/
import Derived.Test.YtdeeeoakdfldkaaDiskAny
import Derived.Test.YtdeeeoakdfldkaaFlat
import Derived.Test.YtdeeeoakdfldkaaMem
namespace Go.Proofs.Ytdeeeoakdfldkaa
open Go.RowKit
set_option linter.unusedVariables false
set_option linter.unusedSimpArgs false

/-- One disk of the call's own, beside blocks that it does not touch. -/
def StR (w0 : World) (b : Nat) (R : Nat → Prop) (w : World) (d : DS) : Prop := ∃ v, DskD w0.heap.size b w d v ∧ Below w0.heap.size w0 w ∧ w0.heap.size ≤ b ∧ ∀ k, R k → k < w.heap.size ∧ k ≠ b ∧ v.ownBlock ≠ some k
theorem StR.st {w0 : World} {b : Nat} {R : Nat → Prop} {w : World} {d : DS} (h : StR w0 b R w d) : St w0 b w d := by
  obtain ⟨v, h1, h2, h3, _⟩ := h; exact ⟨v, h1, h2, h3⟩
theorem StR.bel {w0 : World} {b : Nat} {R : Nat → Prop} {w : World} {d : DS} (h : StR w0 b R w d) : Below w0.heap.size w0 w := h.st.bel
/-- A new block beside it. -/
theorem StR.alloc {w0 w : World} {b : Nat} {d : DS} (h : St w0 b w d) (o : Obj) : StR w0 b (fun k => k = w.heap.size) (w.alloc o) d := by
  obtain ⟨v, h1, h2, h3⟩ := h
  have hk : DskD w0.heap.size b (w.alloc o) d v := Dsk.below h1 ((Below.refl w.heap.size w).alloc (Nat.le_refl _) o) (Nat.le_refl _)
  refine ⟨v, hk, h2.alloc h2.size _, h3, fun k hk => ?_⟩
  subst hk
  refine ⟨by simp, fun e => ?_, fun e => ?_⟩
  · have := Dsk.lt h1; omega
  · have := (Dsk.row h1 _ e).2.1; omega
theorem StR.step {w0 w w' : World} {b : Nat} {R : Nat → Prop} {d d' : DS} {v v' : Value} (h1 : DskD w0.heap.size b w d v) (h2 : Below w0.heap.size w0 w) (h3 : w0.heap.size ≤ b) (h4 : ∀ k, R k → k < w.heap.size ∧ k ≠ b ∧ v.ownBlock ≠ some k)
    (h' : DskD w0.heap.size b w' d' v') (hp : Dpost b v v' w w') : StR w0 b R w' d' ∧ ∀ k, R k → w'.heap[k]? = w.heap[k]? := by
  refine ⟨⟨v', h', Dpost.below (B := w0.heap.size) h2 hp h3 h1.rowB h2.size, h3, fun k hk => ?_⟩, fun k hk => ?_⟩
  · obtain ⟨a1, a2, a3⟩ := h4 k hk
    refine ⟨Nat.lt_of_lt_of_le a1 hp.1.size, a2, fun e => ?_⟩
    rcases hp.2 with p | p | ⟨q, p, hq⟩
    · exact a3 (p ▸ e)
    · rw [p] at e; cases e
    · rw [p] at e; injection e with e; omega
  · obtain ⟨a1, a2, a3⟩ := h4 k hk
    exact hp.1.block k a1 (fun h => h.elim a2 a3)
theorem stR_append (w0 : World) (b : Nat) (R : Nat → Prop) (d : DS) (n : Int) (t : ByteArray) (hd : DOk d) (ht : t.size ≤ 65536) (w : World) (h : StR w0 b R w d) :
    Calls Try.prog 27 #[.pointer (some ⟨b, 0, none⟩), .int .i64 n, .string t] w fun e w' => e = .returned (.int .i64 (appD d n t).2) ∧ StR w0 b R w' (appD d n t).1 ∧ ∀ k, R k → w'.heap[k]? = w.heap[k]? := by
  obtain ⟨v, h1, h2, h3, h4⟩ := h
  refine (disk_append _ b d v n t hd ht w h1 h2.size h3).mono ?_
  rintro e w' ⟨rfl, v', h', hp⟩
  exact ⟨rfl, StR.step h1 h2 h3 h4 h' hp⟩
theorem stR_fuse (w0 : World) (b : Nat) (R : Nat → Prop) (d : DS) (x : Int) (w : World) (h : StR w0 b R w d) :
    Calls Try.prog 30 #[.pointer (some ⟨b, 0, none⟩), .int .i64 x] w fun e w' => e = .returned (.int .i64 0) ∧ StR w0 b R w' (fuseD d x) ∧ ∀ k, R k → w'.heap[k]? = w.heap[k]? := by
  obtain ⟨v, h1, h2, h3, h4⟩ := h
  refine (disk_fuse _ b d v x w h1).mono ?_
  rintro e w' ⟨rfl, h', hp⟩
  exact ⟨rfl, StR.step h1 h2 h3 h4 h' hp⟩
theorem stR_read (w0 : World) (b : Nat) (R : Nat → Prop) (d : DS) (w : World) (h : StR w0 b R w d) :
    Calls Try.prog 31 #[.pointer (some ⟨b, 0, none⟩)] w fun e w' => e = .returned (.string d.s) ∧ StR w0 b R w' d ∧ ∀ k, R k → w'.heap[k]? = w.heap[k]? := by
  obtain ⟨v, h1, h2, h3, h4⟩ := h
  refine (diskD_read _ b d v w h1 h2.size).mono ?_
  rintro e w' ⟨rfl, h', hp⟩
  exact ⟨rfl, StR.step h1 h2 h3 h4 h' hp⟩
theorem and_mask (n : Int) (m k : Nat) (hk : k ≤ 62) (hm : (BitVec.ofInt 64 (m : Int)).toNat = 2 ^ k - 1) : bits BinOp.and IntKind.i64 n (m : Int) = ((n % (2 ^ k : Nat)).toNat : Int) := by
  have hpow : (2 : Nat) ^ k ≤ 2 ^ 62 := Nat.pow_le_pow_right (by decide) hk
  have h62 : (2 : Nat) ^ 62 = 4611686018427387904 := by decide
  have hpos : 0 < (2 : Nat) ^ k := Nat.two_pow_pos k
  have hdvd : ((2 : Nat) ^ k : Nat) ∣ 2 ^ 64 := Nat.pow_dvd_pow 2 (by omega)
  have key : (BitVec.ofInt 64 n &&& BitVec.ofInt 64 (m : Int)).toNat = (n % ((2 ^ 64 : Nat) : Int)).toNat % 2 ^ k := by
    rw [BitVec.toNat_and, BitVec.toNat_ofInt, hm, Nat.and_two_pow_sub_one_eq_mod]
  have hlt := Nat.mod_lt (n % ((2 ^ 64 : Nat) : Int)).toNat hpos
  have e : (n % ((2 ^ 64 : Nat) : Int)).toNat % 2 ^ k = (n % (2 ^ k : Nat)).toNat := by
    have h1 : (0 : Int) ≤ n % ((2 ^ 64 : Nat) : Int) := Int.emod_nonneg _ (by decide)
    have h2 : (((n % ((2 ^ 64 : Nat) : Int)).toNat % 2 ^ k : Nat) : Int) = n % ((2 ^ k : Nat) : Int) := by
      rw [Int.natCast_emod, Int.toNat_of_nonneg h1, Int.emod_emod_of_dvd _ (by exact_mod_cast hdvd)]
    omega
  show IntKind.i64.wrap ((BitVec.ofInt 64 n &&& BitVec.ofInt 64 (m : Int)).toNat : Nat) = _
  rw [key, e, IntKind.wrap_i64]
  have h3 : (n % (2 ^ k : Nat)).toNat < 2 ^ k := by rw [← e]; exact hlt
  omega
theorem and3 (n : Int) : bits BinOp.and IntKind.i64 n 3 = ((n % 4).toNat : Int) := and_mask n 3 2 (by decide) (by decide)
theorem and255 (n : Int) : bits BinOp.and IntKind.i64 n 255 = ((n % 256).toNat : Int) := and_mask n 255 8 (by decide) (by decide)

theorem app_cases (d : DS) (n : Int) (t : ByteArray) (h1 : 1 ≤ n) (h2 : n ≤ 4) (hs : d.s.size + t.size ≤ 65536) (ok : DOk d) :
    (n < d.ep ∧ (appD d n t).2 = 11 ∧ (appD d n t).1.s = d.s ∧ (appD d n t).1.ep = d.ep) ∨
    (¬ n < d.ep ∧ (appD d n t).2 = 14 ∧ ∃ f : Nat, f < t.size ∧ (appD d n t).1.s = d.s ++ t.extract 0 f ∧ (appD d n t).1.ep = n) ∨
    (¬ n < d.ep ∧ (appD d n t).2 = 0 ∧ (appD d n t).1.s = d.s ++ t ∧ (appD d n t).1.ep = n) := by
  unfold appD
  by_cases c1 : n < 1 ∨ 4294967295 < n ∨ n < d.ep
  · simp only [if_pos c1]
    exact .inl ⟨by omega, by first | rfl | trivial, by first | rfl | trivial, by first | rfl | trivial⟩
  · simp only [if_neg c1, if_neg (show ¬ 65536 < d.s.size + t.size by omega)]
    by_cases c3 : d.lit = true ∧ d.fuse < t.size
    · simp only [if_pos c3]
      have := ok.2 c3.1
      exact .inr (.inl ⟨by omega, by first | rfl | trivial, d.fuse.toNat, by omega, by first | rfl | trivial, by first | rfl | trivial⟩)
    · simp only [if_neg c3]
      exact .inr (.inr ⟨by omega, by first | rfl | trivial, by first | rfl | trivial, by first | rfl | trivial⟩)

set_option maxRecDepth 100000 in
theorem torn_awake (l : Option Addr) (len cap : Nat) (w : World) (h0 : len ≤ maxLen) (hbig : 80 < len) :
    Calls Try.prog 8 #[.slice l len cap] w fun e w' => e = .returned (.bool true) ∧ Below w.heap.size w w' := by
  unfold maxLen at h0
  go_enter Try.func8, Try.ntmps8
  go_wp2_with (go_at_call 23; refine (awake38 _).mono ?_; rintro e w' ⟨rfl, hb⟩)
  go_ret
  exact ⟨rfl, hb⟩

set_option maxRecDepth 100000 in
set_option maxHeartbeats 1600000 in
theorem walk_DiskTorn (l : Option Addr) (len cap : Nat) (w : World) (w1 : IsFlat [.int .i64, .int .i64, .int .i64, .str] w l len cap) :
    Calls Try.prog 8 #[.slice l len cap] w fun e w' => e = .returned (.bool true) ∧ Below w.heap.size w w' := by
  have hl0 : len ≤ maxLen := by
    rcases isFlat_cases (by decide) w1 with h | ⟨_, _, _, _, h, _⟩
    · unfold maxLen; omega
    · exact h
  by_cases hbig : 80 < len
  · exact torn_awake l len cap w hl0 hbig
  have h80 : len ≤ 80 := by omega
  have hu76 := Try.underlying76
  go_enter Try.func8, Try.ntmps8
  go_wp2_with fail
  refine (disk_new _).mono ?_
  rintro e w2 ⟨rfl, rfl⟩
  have S0 := Lib.hid (St.new w)
  clear hbig
  go_wp2_with fail
  go_loopg [4, 5, 6] len (fun g s last i wr => ∃ (j : Nat) (d : DS), j ≤ len ∧ g = len - j ∧ i = .int .i64 j ∧ s = .string d.s ∧ last = .int .i64 d.ep ∧ d.s.size ≤ j * 200 ∧ DOk d ∧ St w w.heap.size wr d)
  case atStart => exact ⟨0, ds0, by omega, rfl, rfl, rfl, rfl, by decide, ds0_ok, S0.out⟩
  case round =>
    obtain ⟨j, d, hj, hg, rfl, rfl, rfl, hsz, hok, hst⟩ := hrel
    have hg := hg.symm
    subst hg
    have HST := Lib.hid hst
    have HOK := Lib.hid hok
    have HSZ := Lib.hid hsz
    have HBL := Lib.hid hst.bel
    clear hst hok hsz S0
    by_cases hlt : j < len
    · rcases isFlat_cases (by decide) w1 with h0 | ⟨b0, off, rfl, hpos, hmax, hcap, hlb, hcell⟩
      · omega
      obtain ⟨v0, hv0, k0, rfl, wf0⟩ := hcell j hlt 0 _ rfl
      obtain ⟨v1, hv1, k1, rfl, wf1⟩ := hcell j hlt 1 _ rfl
      obtain ⟨v2, hv2, k2, rfl, wf2⟩ := hcell j hlt 2 _ rfl
      obtain ⟨v3, hv3, t, rfl, wt⟩ := hcell j hlt 3 _ rfl
      have hv0 : wr.cell? ⟨b0, off + j * 4, none⟩ = some (.int .i64 k0) := keepB HBL.out hv0 hlb
      have hv1 : wr.cell? ⟨b0, off + j * 4 + 1, none⟩ = some (.int .i64 k1) := keepB HBL.out hv1 hlb
      have hv2 : wr.cell? ⟨b0, off + j * 4 + 2, none⟩ = some (.int .i64 k2) := keepB HBL.out hv2 hlb
      have hv3 : wr.cell? ⟨b0, off + j * 4 + 3, none⟩ = some (.string t) := keepB HBL.out hv3 hlb
      have htm : t.size ≤ 9223372036854775807 := by unfold maxLen at wt; omega
      clear wf0 wf1 wf2 wt hcell
      by_cases h200 : 200 < t.size
      · go_wp2_with (go_at_call 23; refine (awake38 _).mono ?_; rintro e w' ⟨rfl, hb'⟩)
        go_ret
        exact ⟨rfl, (HBL.out.alloc HBL.out.size _).trans (hb'.mono (by have := HBL.out.size; simp; omega))⟩
      obtain ⟨p, hp, hp3⟩ : ∃ p : Nat, bits BinOp.and IntKind.i64 k1 3 = (p : Int) ∧ p ≤ 3 := ⟨(k1 % 4).toNat, and3 k1, by omega⟩
      obtain ⟨q, hq, hq3⟩ : ∃ q : Nat, bits BinOp.and IntKind.i64 k2 255 = (q : Int) ∧ q ≤ 255 := ⟨(k2 % 256).toNat, and255 k2, by omega⟩
      obtain ⟨g, hg⟩ : ∃ g, g = wr.heap.size := ⟨_, rfl⟩
      have HR := StR.alloc HST.out (.cells #[.int .i64 k0, .int .i64 k1, .int .i64 k2, .string t] 76)
      have HG := Blk.new wr #[.int .i64 k0, .int .i64 k1, .int .i64 k2, .string t] 76
      rw [← hg] at HR HG
      have HGG := Lib.hid hg
      have HR := Lib.hid HR
      have HG := Lib.hid HG
      clear hg
      go_upto_if 37 with fail
      go_cut [] (fun wx => ∃ d1 : DS, d1.s = d.s ∧ d1.ep = d.ep ∧ DOk d1 ∧ StR w w.heap.size (fun k => k = g) wx d1 ∧ Blk wx g #[.int .i64 k0, .int .i64 k1, .int .i64 k2, .string t] 76)
      case first =>
        go_wp2_with (go_at_call 30; refine (stR_fuse w w.heap.size (fun k => k = g) d q _ HR.out).mono ?_; rintro e w3 ⟨rfl, hr, hk⟩)
        · go_meet
          exact ⟨_, by unfold fuseD; split <;> rfl, by unfold fuseD; split <;> rfl, fuseD_ok _ _ (by omega) HOK.out, hr, (hk g rfl).trans HG.out⟩
        · go_meet
          exact ⟨d, rfl, rfl, HOK.out, HR.out, HG.out⟩
      case rest =>
        obtain ⟨d1, e1, e2, ok1, hr1, hg1⟩ := hcut
        have A := fun (wx : World) h => stR_append w w.heap.size (fun k => k = g) d1 (1 + p) t ok1 (by omega) wx h
        have hsz := HSZ.out
        have ok2 := appD_ok d1 (1 + p) t ok1
        have cs := app_cases d1 (1 + p) t (by omega) (by omega) (by rw [e1]; omega) ok1
        rw [e1, e2] at cs
        generalize hd2 : (appD d1 (1 + p) t).1 = d2 at A cs ok2
        generalize hcc : (appD d1 (1 + p) t).2 = c at A cs
        have RD := fun (wx : World) h => stR_read w w.heap.size (fun k => k = g) d2 wx h
        have LN := fun (wx : World) h => st_len w w.heap.size d2 wx h
        have EP := fun (wx : World) h => st_epoch w w.heap.size d2 wx h
        have c3 : wc.cell? ⟨wr.heap.size, 3, none⟩ = some (.string t) := by rw [← HGG.out]; exact hg1.cell rfl
        have HR1 := Lib.hid hr1
        have OK2 := Lib.hid ok2
        clear hd2 hcc e1 e2 ok1 hr1 hv0 hv1 hv2 hv3 hp hq ok2
        rcases cs with ⟨hlt1, rfl, hds, hde⟩ | ⟨hlt1, rfl, f, hft, hds, hde⟩ | ⟨hlt1, rfl, hds, hde⟩
        · have DSEQ := Lib.hid hds
          have DEP := Lib.hid hde
          rw [hds] at RD LN
          rw [hde] at EP
          have A := Lib.hid A
          have RD := Lib.hid RD
          have LN := Lib.hid LN
          have EP := Lib.hid EP
          have hmx : max d.ep (1 + (p : Int)) = d.ep := by omega
          have hb1 : decide (1 + (p : Int) < d.ep) = true := by simpa using hlt1
          clear hds hde hsz hlt1
          go_wp2_with fail
          refine (A.out _ HR1.out).mono ?_
          rintro e w3 ⟨rfl, hr3, hk3⟩
          have HR3 := Lib.hid hr3
          have hg3 := (hk3 g rfl).trans hg1
          have c3 : w3.cell? ⟨wr.heap.size, 3, none⟩ = some (.string t) := by rw [← HGG.out]; exact Blk.cell hg3 rfl
          clear hr3 hk3 hg3
          go_wp2_with fail
          refine (RD.out _ HR3.out).mono ?_
          rintro e w4 ⟨rfl, hr4, hk4⟩
          have HR4 := Lib.hid hr4
          have c3 : w4.cell? ⟨wr.heap.size, 3, none⟩ = some (.string t) := (World.cell?_of_block (hk4 _ HGG.out.symm)).trans c3
          clear hr4 hk4
          go_wp2_with fail
          refine (LN.out _ HR4.out.st).mono ?_
          rintro e w5 ⟨rfl, s5⟩
          have S5 := Lib.hid s5
          clear s5 c3
          go_wp2_with fail
          refine (EP.out _ S5.out).mono ?_
          rintro e w6 ⟨rfl, rfl⟩
          go_wp2_with fail
          go_roundg (len - (j + 1))
          case measure => omega
          case rel => exact ⟨j + 1, d2, by omega, rfl, by go_num, by rw [DSEQ.out], by rw [DEP.out], by rw [DSEQ.out]; have := HSZ.out; omega, OK2.out, S5.out⟩
        · obtain ⟨m, hde, hx⟩ : ∃ m, d2.ep = m ∧ ((d.ep < 1 + (p : Int) ∧ m = 1 + (p : Int)) ∨ (1 + (p : Int) ≤ d.ep ∧ m = d.ep)) := ⟨d2.ep, rfl, by omega⟩
          rcases hx with ⟨hx, rfl⟩ | ⟨hx, rfl⟩
          all_goals
            have DSEQ := Lib.hid hds
            have DEP := Lib.hid hde
            rw [hds] at RD LN
            rw [hde] at EP
            have A := Lib.hid A
            have RD := Lib.hid RD
            have LN := Lib.hid LN
            have EP := Lib.hid EP
            have hb1 : decide (1 + (p : Int) < d.ep) = false := by simp; omega
            have hz1 : (d.s ++ t.extract 0 f).size = d.s.size + f := by rw [ByteArray.size_append, ByteArray.size_extract]; omega
            have HZ1 := Lib.hid hz1
            have hsu : ((d.s ++ t.extract 0 f).size : Int) - (d.s.size : Int) = (f : Int) := by rw [hz1]; omega
            have hlo : decide ((d.s ++ t.extract 0 f).size < d.s.size) = false := by rw [hz1]; simp
            have hf0 : (0 : Int) ≤ (f : Int) := by omega
            have hf1 : (f : Int) ≤ (t.size : Int) := by omega
            have hf2 : decide ((t.size : Int) ≤ (f : Int)) = false := by simp; omega
            have hadd : d.s.size + (t.extract 0 f).size ≤ 9223372036854775807 := by rw [ByteArray.size_extract]; omega
            have hadd2 : d.s.size + f ≤ 9223372036854775807 := by omega
            have hmin : min f t.size = f := by omega
            have hsu2 : (d.s.size : Int) + (f : Int) - (d.s.size : Int) = (f : Int) := by omega
            clear hds hde hsz hz1 hlt1
            go_wp2_with fail
            refine (A.out _ HR1.out).mono ?_
            rintro e w3 ⟨rfl, hr3, hk3⟩
            have HR3 := Lib.hid hr3
            have hg3 := (hk3 g rfl).trans hg1
            have c3 : w3.cell? ⟨wr.heap.size, 3, none⟩ = some (.string t) := by rw [← HGG.out]; exact Blk.cell hg3 rfl
            clear hr3 hk3 hg3
            go_wp2_with fail
            refine (RD.out _ HR3.out).mono ?_
            rintro e w4 ⟨rfl, hr4, hk4⟩
            have HR4 := Lib.hid hr4
            have c3 : w4.cell? ⟨wr.heap.size, 3, none⟩ = some (.string t) := (World.cell?_of_block (hk4 _ HGG.out.symm)).trans c3
            clear hr4 hk4
            go_wp2_with fail
            refine (LN.out _ HR4.out.st).mono ?_
            rintro e w5 ⟨rfl, s5⟩
            have S5 := Lib.hid s5
            clear s5 c3
            go_wp2_with fail
            refine (EP.out _ S5.out).mono ?_
            rintro e w6 ⟨rfl, rfl⟩
            go_wp2_with fail
            go_roundg (len - (j + 1))
            case measure => omega
            case rel => exact ⟨j + 1, d2, by omega, rfl, by go_num, by rw [DSEQ.out], by rw [DEP.out], by rw [DSEQ.out]; have := HSZ.out; rw [HZ1.out]; omega, OK2.out, S5.out⟩
        · obtain ⟨m, hde, hx⟩ : ∃ m, d2.ep = m ∧ ((d.ep < 1 + (p : Int) ∧ m = 1 + (p : Int)) ∨ (1 + (p : Int) ≤ d.ep ∧ m = d.ep)) := ⟨d2.ep, rfl, by omega⟩
          rcases hx with ⟨hx, rfl⟩ | ⟨hx, rfl⟩
          all_goals
            have DSEQ := Lib.hid hds
            have DEP := Lib.hid hde
            rw [hds] at RD LN
            rw [hde] at EP
            have A := Lib.hid A
            have RD := Lib.hid RD
            have LN := Lib.hid LN
            have EP := Lib.hid EP
            have hb1 : decide (1 + (p : Int) < d.ep) = false := by simp; omega
            have hadd : d.s.size + t.size ≤ 9223372036854775807 := by omega
            clear hds hde hsz hlt1
            go_wp2_with fail
            refine (A.out _ HR1.out).mono ?_
            rintro e w3 ⟨rfl, hr3, hk3⟩
            have HR3 := Lib.hid hr3
            have hg3 := (hk3 g rfl).trans hg1
            have c3 : w3.cell? ⟨wr.heap.size, 3, none⟩ = some (.string t) := by rw [← HGG.out]; exact Blk.cell hg3 rfl
            clear hr3 hk3 hg3
            go_wp2_with fail
            refine (RD.out _ HR3.out).mono ?_
            rintro e w4 ⟨rfl, hr4, hk4⟩
            have HR4 := Lib.hid hr4
            have c3 : w4.cell? ⟨wr.heap.size, 3, none⟩ = some (.string t) := (World.cell?_of_block (hk4 _ HGG.out.symm)).trans c3
            clear hr4 hk4
            go_wp2_with fail
            refine (LN.out _ HR4.out.st).mono ?_
            rintro e w5 ⟨rfl, s5⟩
            have S5 := Lib.hid s5
            clear s5 c3
            go_wp2_with fail
            refine (EP.out _ S5.out).mono ?_
            rintro e w6 ⟨rfl, rfl⟩
            go_wp2_with fail
            go_roundg (len - (j + 1))
            case measure => omega
            case rel => exact ⟨j + 1, d2, by omega, rfl, by go_num, by rw [DSEQ.out], by rw [DEP.out], by rw [DSEQ.out]; have := HSZ.out; rw [ByteArray.size_append]; omega, OK2.out, S5.out⟩
    · obtain rfl : j = len := by omega
      go_wp2_with (go_at_call 23; refine (awake38 _).mono ?_; rintro e w' ⟨rfl, hb'⟩)
      go_ret
      exact ⟨rfl, HBL.out.trans (hb'.mono HBL.out.size)⟩
end Go.Proofs.Ytdeeeoakdfldkaa
