/-
  The walk of the statement DiskFull.
-/
import Derived.Test.YtdeeeoakdfldkaaDiskAny
import Derived.Deep.OwnRows
import Derived.Laws.BytesArg
namespace Go.Proofs.Ytdeeeoakdfldkaa
open Go.RowKit
set_option linter.unusedVariables false
set_option linter.unusedSimpArgs false

/-- So many zero bytes. -/
def zt (n : Nat) : ByteArray := strOfNums (List.replicate n 0)
theorem zt_size (n : Nat) : (zt n).size = n := by unfold zt; rw [strOfNums_size, List.length_replicate]
theorem conv_zt (w : World) (g N n cap : Nat) (T : TypeId) (hb : Blk w g (madeCells #[.int .u8 0] N) T) (hn : n ≤ N) :
    (convert 67 9 (.slice (some ⟨g, 0, none⟩) n cap)).run Try.prog w = .ok (.string (zt n)) w := by
  refine run_convert_bytes_arg (P := Try.prog) w 67 5 Try.underlying67 Try.underlying5 g 0 n cap (List.replicate n 0) (by simp) (fun j hj => ?_) 9 Try.underlying9
  refine hb.cell ?_
  have h := toList_madeCells_one (.int .u8 0) N
  rw [← Array.getElem?_toList, h, List.getElem?_replicate, if_pos (by omega), List.getD_eq_getElem?_getD, List.getElem?_replicate, if_pos hj]
  rfl
theorem info_u8f : (Try.prog.info? 5).map (fun i => (i.zero, i.size, i.bytes)) = some (some (.int .u8 0), 1, 1) := by kernel_rfl

/-- A disk without a fuse, in the first epoch. -/
def Plain (d : DS) (k : Nat) : Prop := d.s.size = k ∧ d.lit = false ∧ d.ep ≤ 1
theorem plain_app {d : DS} {k : Nat} (h : Plain d k) (t : ByteArray) (hk : k + t.size ≤ 65536) : (appD d 1 t).2 = 0 ∧ Plain (appD d 1 t).1 (k + t.size) := by
  obtain ⟨h1, h2, h3⟩ := h
  unfold appD
  rw [if_neg (by omega), if_neg (by omega), if_neg (by rw [h2]; simp)]
  exact ⟨rfl, by show (d.s ++ t).size = _; rw [ByteArray.size_append, h1], h2, Int.le_refl _⟩
theorem plain_full {d : DS} {k : Nat} (h : Plain d k) (t : ByteArray) (hk : 65536 < k + t.size) : (appD d 1 t).2 = 6 ∧ Plain (appD d 1 t).1 k := by
  obtain ⟨h1, h2, h3⟩ := h
  unfold appD
  rw [if_neg (by omega), if_pos (by omega)]
  exact ⟨rfl, h1, h2, Int.le_refl _⟩

set_option maxRecDepth 100000 in
set_option maxHeartbeats 1600000 in
theorem walk_DiskFull (x : Int) (w : World) (w0 : (Lit.int .u8 x).wf = true) :
    Calls Try.prog 9 #[.int .u8 x] w fun e w' => e = .returned (.bool true) ∧ Below w.heap.size w w' := by
  have hb := bounds_u8 w0
  obtain ⟨N, hN⟩ : ∃ N : Nat, 1 + x % 200 = (N : Int) ∧ 1 ≤ N ∧ N ≤ 200 := ⟨(1 + x % 200).toNat, by omega⟩
  obtain ⟨hN, hN1, hN2⟩ := hN
  have hwx : IntKind.i64.wrap x = x := by rw [IntKind.wrap_i64]; omega
  have htm : x.tmod 200 = x % 200 := Int.tmod_eq_emod_of_nonneg (by omega)
  have hmk := run_make_row' (P := Try.prog) 67 5 (.int .u8 0) 1 Try.underlying67 info_u8f rfl .i64 .i64 N (by omega) (by omega)
  clear w0
  go_enter Try.func9, Try.ntmps9
  go_wp2_with fail
  obtain ⟨q, hq⟩ : ∃ q : Nat, q = 65536 / N := ⟨_, rfl⟩
  obtain ⟨r, hr⟩ : ∃ r : Nat, r = 65536 % N := ⟨_, rfl⟩
  have hqr : q * N + r = 65536 := by rw [hq, hr]; exact Nat.div_add_mod' _ _
  have hrN : r < N := by rw [hr]; exact Nat.mod_lt _ (by omega)
  have d1 : (65536 : Int) / (N : Int) = (q : Int) := by rw [hq]; rfl
  have d2 : (65536 : Int).tdiv (N : Int) = (q : Int) := by rw [Int.tdiv_eq_ediv_of_nonneg (by omega), d1]
  have d3 : (65536 : Int) % (N : Int) = (r : Int) := by rw [hr]; rfl
  have d4 : (65536 : Int).tmod (N : Int) = (r : Int) := by rw [Int.tmod_eq_emod_of_nonneg (by omega), d3]
  clear hq hr hwx htm hmk
  have HB0 := Blk.new w (madeCells #[.int .u8 0] N) 5
  have HW0 : Below w.heap.size w (w.alloc (.cells (madeCells #[.int .u8 0] N) 5)) := (Below.refl _ _).alloc (Nat.le_refl _) _
  generalize hW : w.alloc (.cells (madeCells #[.int .u8 0] N) 5) = W at *
  have HB := Lib.hid HB0
  have HW := Lib.hid HW0
  have hlW : w.heap.size < W.heap.size := HB0.lt
  clear HB0 HW0 hW
  refine (disk_new _).mono ?_
  rintro e w2 ⟨rfl, rfl⟩
  have S0 := Lib.hid (St.new W)
  have hqle : q ≤ 65536 := by
    have := Nat.le_mul_of_pos_right q (show 0 < N by omega)
    omega
  go_wp2_with fail
  go_loopg [6] q (fun g i wr => ∃ (j : Nat) (d : DS), j ≤ q ∧ g = q - j ∧ i = .int .i64 j ∧ Plain d (j * N) ∧ DOk d ∧ St W W.heap.size wr d)
  case atStart => exact ⟨0, ds0, by omega, rfl, rfl, ⟨by rw [Nat.zero_mul]; rfl, rfl, by decide⟩, ds0_ok, S0.out⟩
  case round =>
    obtain ⟨j, d, hj, hg, rfl, hpl, hok, hst⟩ := hrel
    have hg := hg.symm
    subst hg
    have HBr := hst.bel
    have HBK := Lib.hid (HB.out.below HBr hlW)
    have HST := Lib.hid hst
    have HOK := Lib.hid hok
    have HPL := Lib.hid hpl
    clear HBr hst hok hpl S0
    by_cases hlt : j < q
    · have hsz : j * N + N ≤ 65536 := by
        have h1 : (j + 1) * N ≤ q * N := Nat.mul_le_mul_right N hlt
        rw [Nat.add_mul, Nat.one_mul] at h1
        omega
      obtain ⟨a1, a2⟩ := plain_app HPL.out (zt N) (by rw [zt_size]; exact hsz)
      rw [zt_size] at a2
      have A := st_append W W.heap.size d 1 (zt N) HOK.out (by rw [zt_size]; omega) _ HST.out
      rw [a1] at A
      have A := Lib.hid A
      have A2 := Lib.hid a2
      have hcv := conv_zt _ _ N N N _ HBK.out (Nat.le_refl _)
      clear a1 a2
      go_wp2_with fail
      refine A.out.mono ?_
      rintro e w3 ⟨rfl, s⟩
      have S3 := Lib.hid s
      clear s
      go_wp2_with fail
      go_roundg (q - (j + 1))
      case measure => omega
      case rel => exact ⟨j + 1, _, by omega, rfl, by go_num, by rw [Nat.add_mul, Nat.one_mul]; exact A2.out, appD_ok _ _ _ HOK.out, S3.out⟩
    · obtain rfl : j = q := by omega
      have hs := HPL.out.1
      have A1 := fun (wx : World) (h : St W W.heap.size wx d) => st_len W W.heap.size d wx h
      rw [hs] at A1
      obtain ⟨b1, b2⟩ := plain_full HPL.out (zt N) (by rw [zt_size]; omega)
      have A2 := fun (wx : World) (h : St W W.heap.size wx d) => st_append W W.heap.size d 1 (zt N) HOK.out (by rw [zt_size]; omega) wx h
      rw [b1] at A2
      have ok2 := appD_ok d 1 (zt N) HOK.out
      generalize (appD d 1 (zt N)).1 = d2 at A2 b2 ok2
      have A3 := fun (wx : World) (h : St W W.heap.size wx d2) => st_len W W.heap.size d2 wx h
      rw [b2.1] at A3
      obtain ⟨c1, c2⟩ := plain_app b2 (zt r) (by rw [zt_size]; omega)
      rw [zt_size, hqr] at c2
      have A4 := fun (wx : World) (h : St W W.heap.size wx d2) => st_append W W.heap.size d2 1 (zt r) ok2 (by rw [zt_size]; omega) wx h
      rw [c1] at A4
      generalize (appD d2 1 (zt r)).1 = d3 at A4 c2
      have A5 := fun (wx : World) (h : St W W.heap.size wx d3) => st_len W W.heap.size d3 wx h
      rw [c2.1] at A5
      obtain ⟨m, hm⟩ : ∃ m : Nat, j * N = m := ⟨_, rfl⟩
      rw [hm] at A1 A3 hqr
      have A1 := Lib.hid A1
      have A2 := Lib.hid A2
      have A3 := Lib.hid A3
      have A4 := Lib.hid A4
      have A5 := Lib.hid A5
      clear b1 b2 c1 c2 hs ok2 hm
      go_wp2_with fail
      refine (A1.out _ HST.out).mono ?_
      rintro e w3 ⟨rfl, s⟩
      have S3 := Lib.hid s
      have hcv := conv_zt _ _ N N N _ (HB.out.below s.bel hlW) (Nat.le_refl _)
      clear s
      have hl : (65536 : Int) - (m : Int) = (r : Int) := by omega
      go_wp2_with fail
      refine (A2.out _ S3.out).mono ?_
      rintro e w4 ⟨rfl, s⟩
      have S4 := Lib.hid s
      clear s hcv
      have hl2 : (65536 : Int) - (r : Int) = (m : Int) := by omega
      go_wp2_with fail
      refine (A3.out _ S4.out).mono ?_
      rintro e w5 ⟨rfl, s⟩
      have S5 := Lib.hid s
      have hcv := conv_zt _ _ N r N _ (HB.out.below s.bel hlW) (by omega)
      clear s
      have hrN' : (r : Int) ≤ (N : Int) := by omega
      have hr0 : (0 : Int) ≤ (r : Int) := by omega
      go_wp2_with fail
      refine (A4.out _ S5.out).mono ?_
      rintro e w6 ⟨rfl, s⟩
      have S6 := Lib.hid s
      clear s hcv
      go_wp2_with fail
      refine (A5.out _ S6.out).mono ?_
      rintro e w7 ⟨rfl, s⟩
      have S7 := Lib.hid s.bel
      clear s
      go_wp2_with (go_at_call 23; refine (awake38 _).mono ?_; rintro e w8 ⟨rfl, hb8⟩)
      go_ret
      exact ⟨rfl, HW.out.trans ((S7.out.trans (hb8.mono S7.out.size)).mono (Nat.le_of_lt hlW))⟩
end Go.Proofs.Ytdeeeoakdfldkaa
