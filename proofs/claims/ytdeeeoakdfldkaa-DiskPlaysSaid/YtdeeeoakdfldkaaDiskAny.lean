/-
  A disk's calls, one contract each, whatever they come to (reeve's layer 38).
-/
import Derived.Test.YtdeeeoakdfldkaaDisk
namespace Go.Proofs.Ytdeeeoakdfldkaa
open Go.RowKit
set_option linter.unusedVariables false
set_option linter.unusedSimpArgs false

structure DS where
  s : ByteArray
  ep : Int
  yes : Int
  no : Int
  lit : Bool
  fuse : Int
def DskD (B b : Nat) (w : World) (d : DS) (v : Value) : Prop := Dsk B b w d.s d.ep d.yes d.no d.lit d.fuse v
/-- A disk, whatever its row is; what else it may touch: a row that F tells. -/
def appD (d : DS) (n : Int) (t : ByteArray) : DS × Int :=
  if n < 1 ∨ 4294967295 < n ∨ n < d.ep then ({ d with no := wrap64 (d.no + 1) }, 11)
  else if 65536 < d.s.size + t.size then ({ d with ep := n, yes := wrap64 (d.yes + 1) }, 6)
  else if d.lit = true ∧ d.fuse < t.size then ({ d with s := d.s ++ t.extract 0 d.fuse.toNat, ep := n, yes := wrap64 (d.yes + 1), lit := false }, 14)
  else ({ d with s := d.s ++ t, ep := n, yes := wrap64 (d.yes + 1), fuse := wrap64 (d.fuse - t.size) }, 0)
def trimD (d : DS) (n k : Int) : DS × Int :=
  if n < 1 ∨ 4294967295 < n ∨ n < d.ep then ({ d with no := wrap64 (d.no + 1) }, 11)
  else if k < 0 ∨ (d.s.size : Int) < k then ({ d with ep := n, yes := wrap64 (d.yes + 1) }, 1)
  else ({ d with s := d.s.extract 0 k.toNat, ep := n, yes := wrap64 (d.yes + 1) }, 0)
def fuseD (d : DS) (x : Int) : DS := if 0 ≤ x then { d with lit := true, fuse := x } else { d with lit := false, fuse := 0 }
/-- What holds of a disk all along. -/
def DOk (d : DS) : Prop := d.s.size ≤ 65536 ∧ (d.lit = true → 0 ≤ d.fuse ∧ d.fuse ≤ 9223372036854775807)
def ds0 : DS := ⟨⟨#[]⟩, 0, 0, 0, false, 0⟩
theorem ds0_ok : DOk ds0 := ⟨by decide, by intro h; cases h⟩
theorem appD_ok (d : DS) (n : Int) (t : ByteArray) (h : DOk d) : DOk (appD d n t).1 := by
  obtain ⟨h1, h2⟩ := h
  unfold appD
  split
  · exact ⟨h1, h2⟩
  · split
    · exact ⟨h1, h2⟩
    · split
      · rename_i h3
        refine ⟨?_, by intro h; cases h⟩
        show (d.s ++ _).size ≤ _
        rw [ByteArray.size_append, ByteArray.size_extract]
        omega
      · rename_i h3 h4
        refine ⟨?_, fun h => ?_⟩
        · show (d.s ++ _).size ≤ _
          rw [ByteArray.size_append]; omega
        · have h5 := h2 h
          have h6 : ¬ d.fuse < t.size := fun h6 => h4 ⟨h, h6⟩
          show 0 ≤ wrap64 (d.fuse - t.size) ∧ wrap64 (d.fuse - t.size) ≤ _
          unfold wrap64; omega
theorem trimD_ok (d : DS) (n k : Int) (h : DOk d) : DOk (trimD d n k).1 := by
  obtain ⟨h1, h2⟩ := h
  unfold trimD
  split
  · exact ⟨h1, h2⟩
  · split
    · exact ⟨h1, h2⟩
    · refine ⟨?_, h2⟩
      show (d.s.extract _ _).size ≤ _
      rw [ByteArray.size_extract]; omega
theorem fuseD_ok (d : DS) (x : Int) (hx : x ≤ 9223372036854775807) (h : DOk d) : DOk (fuseD d x) := by
  obtain ⟨h1, h2⟩ := h
  unfold fuseD
  split
  · exact ⟨h1, fun _ => ⟨by assumption, hx⟩⟩
  · exact ⟨h1, by intro h; cases h⟩

theorem disk_append (B b : Nat) (d : DS) (v : Value) (n : Int) (t : ByteArray) (hd : DOk d) (ht : t.size ≤ 65536) (w : World) (h : DskD B b w d v) (hB : B ≤ w.heap.size) (hbB : B ≤ b) :
    Calls Try.prog 27 #[.pointer (some ⟨b, 0, none⟩), .int .i64 n, .string t] w fun e w' => e = .returned (.int .i64 (appD d n t).2) ∧ ∃ v', DskD B b w' (appD d n t).1 v' ∧ Dpost b v v' w w' := by
  obtain ⟨h1, h2⟩ := hd
  unfold appD
  by_cases c1 : n < 1 ∨ 4294967295 < n ∨ n < d.ep
  · rw [if_pos c1]
    refine (disk_append_fence B b _ _ _ _ _ _ v n t c1 w h).mono ?_
    rintro e w' ⟨rfl, hd, hp⟩
    exact ⟨rfl, v, hd, hp⟩
  · rw [if_neg c1]
    by_cases c2 : 65536 < d.s.size + t.size
    · rw [if_pos c2]
      refine (disk_append_full B b _ _ _ _ _ _ v n t (by omega) (by omega) (by omega) h1 ht c2 w h hB).mono ?_
      rintro e w' ⟨rfl, hd, hp⟩
      exact ⟨rfl, v, hd, hp⟩
    · rw [if_neg c2]
      obtain ⟨s, ep, yes, no, lit, fuse⟩ := d
      simp only at *
      by_cases c3 : lit = true ∧ fuse < t.size
      · rw [if_pos c3]
        obtain ⟨rfl, c3⟩ := c3
        obtain ⟨f, rfl⟩ : ∃ f : Nat, fuse = f := ⟨fuse.toNat, by have := h2 rfl; omega⟩
        refine (disk_append_off B b s ep yes no f v n t (by omega) (by omega) (by omega) h1 ht c2 (by omega) w h hB hbB).mono ?_
        rintro e w' ⟨rfl, v', hd, hp⟩
        exact ⟨rfl, v', hd, hp⟩
      · rw [if_neg c3]
        refine (disk_append_ok B b s ep yes no lit fuse v n t (by omega) (by omega) (by omega) h1 ht c2 (fun hl => by
          have : ¬ fuse < t.size := fun h => c3 ⟨hl, h⟩
          omega) w h hB hbB).mono ?_
        rintro e w' ⟨rfl, v', hd, hp⟩
        exact ⟨rfl, v', hd, hp⟩
theorem disk_trim (B b : Nat) (d : DS) (v : Value) (n k : Int) (hd : DOk d) (w : World) (h : DskD B b w d v) (hB : B ≤ w.heap.size) (hbB : B ≤ b) :
    Calls Try.prog 29 #[.pointer (some ⟨b, 0, none⟩), .int .i64 n, .int .i64 k] w fun e w' => e = .returned (.int .i64 (trimD d n k).2) ∧ ∃ v', DskD B b w' (trimD d n k).1 v' ∧ Dpost b v v' w w' := by
  obtain ⟨h1, h2⟩ := hd
  unfold trimD
  by_cases c1 : n < 1 ∨ 4294967295 < n ∨ n < d.ep
  · rw [if_pos c1]
    refine (disk_trim_fence B b _ _ _ _ _ _ v n k c1 w h).mono ?_
    rintro e w' ⟨rfl, hd, hp⟩
    exact ⟨rfl, v, hd, hp⟩
  · rw [if_neg c1]
    by_cases c2 : k < 0 ∨ (d.s.size : Int) < k
    · rw [if_pos c2]
      refine (disk_trim_out B b _ _ _ _ _ _ v n k (by omega) (by omega) (by omega) h1 c2 w h hB).mono ?_
      rintro e w' ⟨rfl, hd, hp⟩
      exact ⟨rfl, v, hd, hp⟩
    · rw [if_neg c2]
      obtain ⟨q, rfl⟩ : ∃ q : Nat, k = q := ⟨k.toNat, by omega⟩
      refine (disk_trim_ok B b _ _ _ _ _ _ v n q (by omega) (by omega) (by omega) h1 (by omega) w h hB hbB).mono ?_
      rintro e w' ⟨rfl, v', hd, hp⟩
      exact ⟨rfl, v', hd, hp⟩
theorem disk_fuse (B b : Nat) (d : DS) (v : Value) (x : Int) (w : World) (h : DskD B b w d v) :
    Calls Try.prog 30 #[.pointer (some ⟨b, 0, none⟩), .int .i64 x] w fun e w' => e = .returned (.int .i64 0) ∧ DskD B b w' (fuseD d x) v ∧ Dpost b v v w w' := by
  unfold fuseD
  by_cases hx : 0 ≤ x
  · rw [if_pos hx]
    exact disk_fuse_on B b _ _ _ _ _ _ v x hx w h
  · rw [if_neg hx]
    exact disk_fuse_off B b _ _ _ _ _ _ v x (by omega) w h
theorem diskD_read (B b : Nat) (d : DS) (v : Value) (w : World) (h : DskD B b w d v) (hB : B ≤ w.heap.size) :
    Calls Try.prog 31 #[.pointer (some ⟨b, 0, none⟩)] w fun e w' => e = .returned (.string d.s) ∧ DskD B b w' d v ∧ Dpost b v v w w' := disk_read B b _ _ _ _ _ _ v w h hB
theorem diskD_len (B b : Nat) (d : DS) (v : Value) (w : World) (h : DskD B b w d v) (hB : B ≤ w.heap.size) :
    Calls Try.prog 32 #[.pointer (some ⟨b, 0, none⟩)] w fun e w' => e = .returned (.int .i64 d.s.size) ∧ DskD B b w' d v ∧ Dpost b v v w w' := disk_len B b _ _ _ _ _ _ v w h hB
theorem diskD_epoch (B b : Nat) (d : DS) (v : Value) (w : World) (h : DskD B b w d v) :
    Calls Try.prog 33 #[.pointer (some ⟨b, 0, none⟩)] w fun e w' => e = .returned (.int .i64 d.ep) ∧ w = w' := disk_epoch B b _ _ _ _ _ _ v w h
theorem Dpost.below {B b C : Nat} {v v' : Value} {a w w' : World} (h : Below C a w) (hp : Dpost b v v' w w') (hb : C ≤ b) (hv : ∀ k, v.ownBlock = some k → C ≤ k) (hC : C ≤ w.heap.size) : Below C a w' :=
  h.trans (hp.1.below hC (fun k hk => by
    rcases hk with rfl | hk
    · exact hb
    · exact hv k hk))
/-- A disk's row lies from B on, behind whatever. -/
theorem DskD.rowB {B b : Nat} {w : World} {d : DS} {v : Value} (h : DskD B b w d v) : ∀ k, v.ownBlock = some k → B ≤ k := fun k hk => (Dsk.row h k hk).1

/-- One disk of the call's own, and nothing that was there has turned. -/
def St (w0 : World) (b : Nat) (w : World) (d : DS) : Prop := ∃ v, DskD w0.heap.size b w d v ∧ Below w0.heap.size w0 w ∧ w0.heap.size ≤ b
theorem St.drew {w0 w : World} {b : Nat} {d : DS} (h : St w0 b w d) : St w0 b w.drew d := by
  obtain ⟨v, h1, h2, h3⟩ := h; exact ⟨v, Dsk.drew h1, h2.drew, h3⟩
theorem St.bel {w0 w : World} {b : Nat} {d : DS} (h : St w0 b w d) : Below w0.heap.size w0 w := by obtain ⟨v, h1, h2, h3⟩ := h; exact h2
theorem St.step {w0 w w' : World} {b : Nat} {d d' : DS} {v v' : Value} (h : DskD w0.heap.size b w d v) (hb : Below w0.heap.size w0 w) (h3 : w0.heap.size ≤ b) (h' : DskD w0.heap.size b w' d' v') (hp : Dpost b v v' w w') : St w0 b w' d' :=
  ⟨v', h', Dpost.below (B := w0.heap.size) hb hp h3 h.rowB hb.size, h3⟩
theorem St.new (w : World) : St w w.heap.size (w.alloc (.cells #[.int .i64 0, .int .i64 0, .int .i64 0, .pointer none, .slice none 0 0, .bool false, .int .i64 0] 71)) ds0 :=
  ⟨_, dsk_new _ w, (Below.refl _ _).alloc (Nat.le_refl _) _, Nat.le_refl _⟩
theorem st_append (w0 : World) (b : Nat) (d : DS) (n : Int) (t : ByteArray) (hd : DOk d) (ht : t.size ≤ 65536) (w : World) (h : St w0 b w d) :
    Calls Try.prog 27 #[.pointer (some ⟨b, 0, none⟩), .int .i64 n, .string t] w fun e w' => e = .returned (.int .i64 (appD d n t).2) ∧ St w0 b w' (appD d n t).1 := by
  obtain ⟨v, h1, h2, h3⟩ := h
  refine (disk_append _ b d v n t hd ht w h1 h2.size h3).mono ?_
  rintro e w' ⟨rfl, v', h4, hp⟩
  exact ⟨rfl, St.step h1 h2 h3 h4 hp⟩
theorem st_trim (w0 : World) (b : Nat) (d : DS) (n k : Int) (hd : DOk d) (w : World) (h : St w0 b w d) :
    Calls Try.prog 29 #[.pointer (some ⟨b, 0, none⟩), .int .i64 n, .int .i64 k] w fun e w' => e = .returned (.int .i64 (trimD d n k).2) ∧ St w0 b w' (trimD d n k).1 := by
  obtain ⟨v, h1, h2, h3⟩ := h
  refine (disk_trim _ b d v n k hd w h1 h2.size h3).mono ?_
  rintro e w' ⟨rfl, v', h4, hp⟩
  exact ⟨rfl, St.step h1 h2 h3 h4 hp⟩
theorem st_fuse (w0 : World) (b : Nat) (d : DS) (x : Int) (w : World) (h : St w0 b w d) :
    Calls Try.prog 30 #[.pointer (some ⟨b, 0, none⟩), .int .i64 x] w fun e w' => e = .returned (.int .i64 0) ∧ St w0 b w' (fuseD d x) := by
  obtain ⟨v, h1, h2, h3⟩ := h
  refine (disk_fuse _ b d v x w h1).mono ?_
  rintro e w' ⟨rfl, h4, hp⟩
  exact ⟨rfl, St.step h1 h2 h3 h4 hp⟩
theorem st_read (w0 : World) (b : Nat) (d : DS) (w : World) (h : St w0 b w d) :
    Calls Try.prog 31 #[.pointer (some ⟨b, 0, none⟩)] w fun e w' => e = .returned (.string d.s) ∧ St w0 b w' d := by
  obtain ⟨v, h1, h2, h3⟩ := h
  refine (diskD_read _ b d v w h1 h2.size).mono ?_
  rintro e w' ⟨rfl, h4, hp⟩
  exact ⟨rfl, St.step h1 h2 h3 h4 hp⟩
theorem st_len (w0 : World) (b : Nat) (d : DS) (w : World) (h : St w0 b w d) :
    Calls Try.prog 32 #[.pointer (some ⟨b, 0, none⟩)] w fun e w' => e = .returned (.int .i64 d.s.size) ∧ St w0 b w' d := by
  obtain ⟨v, h1, h2, h3⟩ := h
  refine (diskD_len _ b d v w h1 h2.size).mono ?_
  rintro e w' ⟨rfl, h4, hp⟩
  exact ⟨rfl, St.step h1 h2 h3 h4 hp⟩
theorem st_epoch (w0 : World) (b : Nat) (d : DS) (w : World) (h : St w0 b w d) :
    Calls Try.prog 33 #[.pointer (some ⟨b, 0, none⟩)] w fun e w' => e = .returned (.int .i64 d.ep) ∧ w = w' := by
  obtain ⟨v, h1, h2, h3⟩ := h
  exact diskD_epoch _ b d v w h1

/-! What must come, whatever the arguments are. -/
def aw1 : DS := (appD ds0 1 ⟨#[120, 121]⟩).1
def aw2 : DS := fuseD aw1 3
def aw3 : DS := (appD aw2 2 ⟨#[97, 98, 99, 100]⟩).1
def aw4 : DS := (appD aw3 1 ⟨#[101]⟩).1
def aw5 : DS := (trimD aw4 2 2).1
def aw6 : DS := (trimD aw5 2 3).1
theorem aw_ok : DOk aw1 ∧ DOk aw2 ∧ DOk aw3 ∧ DOk aw4 ∧ DOk aw5 := by
  have h1 : DOk aw1 := appD_ok _ _ _ ds0_ok
  have h2 : DOk aw2 := fuseD_ok _ _ (by decide) h1
  have h3 : DOk aw3 := appD_ok _ _ _ h2
  have h4 : DOk aw4 := appD_ok _ _ _ h3
  exact ⟨h1, h2, h3, h4, trimD_ok _ _ _ h4⟩
theorem aw_codes : (appD ds0 1 ⟨#[120, 121]⟩).2 = 0 ∧ (appD aw2 2 ⟨#[97, 98, 99, 100]⟩).2 = 14 ∧ (appD aw3 1 ⟨#[101]⟩).2 = 11 ∧ aw4.s = ⟨#[120, 121, 97, 98, 99]⟩ ∧ aw4.ep = 2 ∧ (trimD aw4 2 2).2 = 0 ∧ (aw5.s.size : Int) = 2 ∧ (trimD aw5 2 3).2 = 1 :=
  ⟨by kernel_rfl, by kernel_rfl, by kernel_rfl, by kernel_rfl, by kernel_rfl, by kernel_rfl, by kernel_rfl, by kernel_rfl⟩
set_option maxRecDepth 100000 in
set_option maxHeartbeats 800000 in
theorem awake38 (w : World) : Calls Try.prog 23 #[] w fun e w' => e = .returned (.bool true) ∧ Below w.heap.size w w' := by
  obtain ⟨o1, o2, o3, o4, o5⟩ := aw_ok
  obtain ⟨c1, c2, c3, c4, c5, c6, c7, c8⟩ := aw_codes
  have A1 := fun W h => st_append w w.heap.size ds0 1 ⟨#[120, 121]⟩ ds0_ok (by decide) W h
  have A2 := fun W h => st_fuse w w.heap.size aw1 3 W h
  have A3 := fun W h => st_append w w.heap.size aw2 2 ⟨#[97, 98, 99, 100]⟩ o2 (by decide) W h
  have A4 := fun W h => st_append w w.heap.size aw3 1 ⟨#[101]⟩ o3 (by decide) W h
  have A5 := fun W h => st_read w w.heap.size aw4 W h
  have A6 := fun W h => st_epoch w w.heap.size aw4 W h
  have A7 := fun W h => st_trim w w.heap.size aw4 2 2 o4 W h
  have A8 := fun W h => st_len w w.heap.size aw5 W h
  have A9 := fun W h => st_trim w w.heap.size aw5 2 3 o5 W h
  rw [c1] at A1
  rw [c2] at A3
  rw [c3] at A4
  rw [c4] at A5
  rw [c5] at A6
  rw [c6] at A7
  rw [c7] at A8
  rw [c8] at A9
  have A1 := Lib.hid A1
  have A2 := Lib.hid A2
  have A3 := Lib.hid A3
  have A4 := Lib.hid A4
  have A5 := Lib.hid A5
  have A6 := Lib.hid A6
  have A7 := Lib.hid A7
  have A8 := Lib.hid A8
  have A9 := Lib.hid A9
  clear c1 c2 c3 c4 c5 c6 c7 c8 o1 o2 o3 o4 o5
  go_enter Try.func23, Try.ntmps23
  go_wp2_with fail
  refine (disk_new _).mono ?_
  rintro e w1 ⟨rfl, rfl⟩
  have S0 := Lib.hid (St.new w)
  go_wp2_with fail
  refine (A1.out _ S0.out).mono ?_
  rintro e w2 ⟨rfl, s⟩
  have S1 := Lib.hid s
  clear s S0
  go_wp2_with fail
  refine (A2.out _ S1.out).mono ?_
  rintro e w3 ⟨rfl, s⟩
  have S2 := Lib.hid s
  clear s
  go_wp2_with fail
  refine (A3.out _ S2.out).mono ?_
  rintro e w4 ⟨rfl, s⟩
  have S3 := Lib.hid s
  clear s
  go_wp2_with fail
  refine (A4.out _ S3.out).mono ?_
  rintro e w5 ⟨rfl, s⟩
  have S4 := Lib.hid s
  clear s
  go_wp2_with fail
  refine (A5.out _ S4.out).mono ?_
  rintro e w6 ⟨rfl, s⟩
  have S5 := Lib.hid s
  clear s
  have q1 : (⟨#[120, 121, 97, 98, 99]⟩ : ByteArray).toList = [120, 121, 97, 98, 99] := by rw [ByteArray.toList_eq]
  go_wp2_with fail
  refine (A6.out _ S5.out).mono ?_
  rintro e w7 ⟨rfl, rfl⟩
  go_wp2_with fail
  refine (A7.out _ S5.out).mono ?_
  rintro e w8 ⟨rfl, s⟩
  have S6 := Lib.hid s
  clear s
  go_wp2_with fail
  refine (A8.out _ S6.out).mono ?_
  rintro e w9 ⟨rfl, s⟩
  have S7 := Lib.hid s
  clear s
  go_wp2_with fail
  refine (A9.out _ S7.out).mono ?_
  rintro e w10 ⟨rfl, s⟩
  have S8 := Lib.hid s
  clear s
  go_wp2_with fail
  go_ret
  exact ⟨rfl, S8.out.bel⟩
end Go.Proofs.Ytdeeeoakdfldkaa
