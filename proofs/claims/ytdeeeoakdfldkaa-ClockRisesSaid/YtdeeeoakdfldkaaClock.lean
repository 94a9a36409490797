/-
  What the functions of package clock compute (reeve's layer 14), as contracts: for whatever world holds a clock's cells.
-/
import Derived.Test.YtdeeeoakdfldkaaFence
import Derived.Test.YtdeeeoakdfldkaaOnce
import Derived.Test.YtdeeeoakdfldkaaNum
import Derived.OwnWalk
namespace Go.Proofs.Ytdeeeoakdfldkaa
open Go.RowKit
set_option linter.unusedVariables false
set_option linter.unusedSimpArgs false

/-- The clock in block b: its tick, whether it is stopped: 1, else 0 (then its Once is done, too). -/
def Clk (w : World) (b : Nat) (n : Int) (d : Int) : Prop :=
  (w.cell? ⟨b, 0, none⟩ = some (.int .i64 n) ∧ w.cell? ⟨b, 1, none⟩ = some (.int .u32 d) ∧ w.cell? ⟨b, 2, none⟩ = some (.int .u32 d) ∧ w.cell? ⟨b, 3, none⟩ = some (.int .i32 0)) ∧
  w.frozen? ⟨b, 0, none⟩ = false ∧ w.frozen? ⟨b, 1, none⟩ = false ∧ w.frozen? ⟨b, 2, none⟩ = false ∧ w.frozen? ⟨b, 3, none⟩ = false

theorem clock_new (w : World) :
    Calls Try.prog 17 #[] w fun e w' => e = .returned (.pointer (some ⟨w.heap.size, 0, none⟩)) ∧ w.alloc (.cells #[.int .i64 0, .int .u32 0, .int .u32 0, .int .i32 0, .int .u32 0] 56) = w' := by
  go_enter Try.func17, Try.ntmps17
  go_wp2
  go_ret
  exact ⟨rfl, rfl⟩

theorem clk_new (w : World) : Clk (w.alloc (.cells #[.int .i64 0, .int .u32 0, .int .u32 0, .int .i32 0, .int .u32 0] 56)) w.heap.size 0 0 := by
  unfold Clk; go_simp

theorem now_any (b o : Nat) (x : Int) (w : World) (h : w.cell? ⟨b, o, none⟩ = some (.int .i64 x)) :
    Calls Try.prog 21 #[.pointer (some ⟨b, o, none⟩)] w fun e w' => e = .returned (.int .i64 x) ∧ w = w' := by
  go_enter Try.func21, Try.ntmps21
  go_wp2_with (first | (go_at_call 37; refine (i64_load b o x _ h).mono ?_; rintro e w' ⟨rfl, rfl⟩))
  go_ret
  exact ⟨rfl, rfl⟩

theorem now_nil (w : World) :
    Calls Try.prog 21 #[.pointer none] w fun e w' => e = .returned (.int .i64 0) ∧ w = w' := by
  go_enter Try.func21, Try.ntmps21
  go_wp2
  go_ret
  exact ⟨rfl, rfl⟩

theorem stopped_any (b o : Nat) (d : Int) (w : World) (h : w.cell? ⟨b, o + 1, none⟩ = some (.int .u32 d)) :
    Calls Try.prog 22 #[.pointer (some ⟨b, o, none⟩)] w fun e w' => e = .returned (.bool (d != 0)) ∧ w = w' := by
  go_enter Try.func22, Try.ntmps22
  go_wp2_with (first | (go_at_call 42; refine (bool_load b (o + 1) d _ h).mono ?_; rintro e w' ⟨rfl, rfl⟩))
  go_ret
  exact ⟨rfl, rfl⟩

theorem stopped_nil (w : World) :
    Calls Try.prog 22 #[.pointer none] w fun e w' => e = .returned (.bool true) ∧ w = w' := by
  go_enter Try.func22, Try.ntmps22
  go_wp2
  go_ret
  exact ⟨rfl, rfl⟩

theorem tick_nil (x : Int) (w : World) :
    Calls Try.prog 20 #[.pointer none, .int .i64 x] w fun e w' => e = .returned (.int .i64 0) ∧ w = w' := by
  go_enter Try.func20, Try.ntmps20
  go_wp2
  go_ret
  exact ⟨rfl, rfl⟩

theorem stop_nil (w : World) :
    Calls Try.prog 18 #[.pointer none] w fun e w' => e = .returned (.bool false) ∧ Below w.heap.size w w' := by
  go_enter Try.func18, Try.ntmps18
  go_wp2
  go_ret
  refine ⟨rfl, ?_⟩
  go_grown

theorem tick_off (b : Nat) (n x : Int) (w : World) (h0 : w.cell? ⟨b, 0, none⟩ = some (.int .i64 n)) (h1 : w.cell? ⟨b, 1, none⟩ = some (.int .u32 1)) :
    Calls Try.prog 20 #[.pointer (some ⟨b, 0, none⟩), .int .i64 x] w fun e w' => e = .returned (.int .i64 n) ∧ w = w' := by
  have hnot : ∀ (x : Bool) (w : World), (Op.unary .not (.bool x)).run Try.prog w = .ok (.bool (!x)) w := fun _ _ => rfl
  go_enter Try.func20, Try.ntmps20
  go_wp2
  refine wp_loop_rounds 1 ?_
  rw [rounds_succ]
  go_wp2_with (first | (go_at_call 42; refine (bool_load b 1 1 _ h1).mono ?_; rintro e w' ⟨rfl, rfl⟩) | (go_at_call 21; refine (now_any b 0 n _ h0).mono ?_; rintro e w' ⟨rfl, rfl⟩))
  go_ret
  exact ⟨rfl, rfl⟩

theorem tick_on (b : Nat) (n x : Int) (w : World) (h0 : w.cell? ⟨b, 0, none⟩ = some (.int .i64 n)) (h1 : w.cell? ⟨b, 1, none⟩ = some (.int .u32 0)) (f0 : w.frozen? ⟨b, 0, none⟩ = false) :
    Calls Try.prog 20 #[.pointer (some ⟨b, 0, none⟩), .int .i64 x] w fun e w' => e = .returned (.int .i64 (laterI n x)) ∧ (w.setCell ⟨b, 0, none⟩ (.int .i64 (laterI n x))).drew = w' := by
  have hnot : ∀ (x : Bool) (w : World), (Op.unary .not (.bool x)).run Try.prog w = .ok (.bool (!x)) w := fun _ _ => rfl
  go_enter Try.func20, Try.ntmps20
  go_wp2
  refine wp_loop_rounds 1 ?_
  rw [rounds_succ]
  go_wp2_with (first | (go_at_call 42; refine (bool_load b 1 0 _ h1).mono ?_; rintro e w' ⟨rfl, rfl⟩) | (go_at_call 37; refine (i64_load b 0 n _ h0).mono ?_; rintro e w' ⟨rfl, rfl⟩))
  go_region_held3 (fun _ => True) (trivial) ((first | (go_at_call 44; refine (num_later n x _).mono ?_; rintro e w' ⟨rfl, rfl⟩) | (go_at_call 43; refine (i64_cas b 0 n (laterI n x) _ (by go_simp) (by go_simp)).mono ?_; rintro e w' ⟨rfl, rfl⟩)))
  go_wp2_with (first | (go_at_call 21; refine (now_any b 0 (laterI n x) _ (by go_simp)).mono ?_; rintro e w' ⟨rfl, rfl⟩))
  go_ret
  exact ⟨rfl, rfl⟩

theorem stop1 (g0 g1 : Nat) (b : Nat) (x u : Value) (hp : ¬ b = g1) (w : World) (h0 : w.cell? ⟨g0, 0, none⟩ = some (.pointer (some ⟨b, 0, none⟩))) (h1 : w.cell? ⟨b, 1, none⟩ = some x) (f1 : w.frozen? ⟨b, 1, none⟩ = false)
    (h2 : w.cell? ⟨g1, 0, none⟩ = some u) (f2 : w.frozen? ⟨g1, 0, none⟩ = false) :
    Calls Try.prog 39 #[.pointer (some ⟨g0, 0, none⟩), .pointer (some ⟨g1, 0, none⟩)] w fun e w' => e = .returned (.tuple #[]) ∧ ((w.setCell ⟨b, 1, none⟩ (.int .u32 1)).setCell ⟨g1, 0, none⟩ (.bool true)).drew = w' := by
  have h3 : (w.setCell ⟨b, 1, none⟩ (.int .u32 1)).cell? ⟨g1, 0, none⟩ = some u := by
    rw [World.cell?_setCell_far _ _ _ _ hp]; exact h2
  have f3 : (w.setCell ⟨b, 1, none⟩ (.int .u32 1)).frozen? ⟨g1, 0, none⟩ = false := by go_simp
  go_enter Try.func39, Try.ntmps39
  go_wp2_with (go_at_call 40; refine (bool_store ⟨b, 1, none⟩ x _ h1 f1).mono ?_; rintro e w' ⟨rfl, rfl⟩)
  go_end0
  exact ⟨rfl, rfl⟩

theorem do_stop (b g0 g1 : Nat) (n01 : ¬ g0 = b) (n1 : ¬ b = g1) (w : World) (x u : Value)
    (h1 : w.cell? ⟨b, 1, none⟩ = some x) (h2 : w.cell? ⟨b, 2, none⟩ = some (.int .u32 0)) (h3 : w.cell? ⟨b, 3, none⟩ = some (.int .i32 0))
    (f1 : w.frozen? ⟨b, 1, none⟩ = false) (f2 : w.frozen? ⟨b, 2, none⟩ = false) (f3 : w.frozen? ⟨b, 3, none⟩ = false)
    (p0 : w.cell? ⟨g0, 0, none⟩ = some (.pointer (some ⟨b, 0, none⟩))) (p1 : w.cell? ⟨g1, 0, none⟩ = some u) (q1 : w.frozen? ⟨g1, 0, none⟩ = false) :
    Calls Try.prog 38 #[.pointer (some ⟨b, 2, none⟩), .func (.func 39) #[] #[.pointer (some ⟨g0, 0, none⟩), .pointer (some ⟨g1, 0, none⟩)]] w fun e w' =>
      e = .returned (.tuple #[]) ∧ (((((w.setCell ⟨b, 3, none⟩ (.int .i32 1)).setCell ⟨b, 1, none⟩ (.int .u32 1)).setCell ⟨g1, 0, none⟩ (.bool true)).setCell ⟨b, 2, none⟩ (.int .u32 1)).setCell ⟨b, 3, none⟩ (.int .i32 0)).drew.drew = w' := by
  have n1' : ¬ b = g0 := fun h => n01 h.symm
  have n2 : ¬ g1 = b := fun h => n1 h.symm
  refine (do_first b 2 39 _ (fun w2 => (((w.setCell ⟨b, 3, none⟩ (.int .i32 1)).setCell ⟨b, 1, none⟩ (.int .u32 1)).setCell ⟨g1, 0, none⟩ (.bool true)).drew = w2) w h2 h3 f2 f3 (fun w => by kernel_rfl)
    (Lib.hid (stop1 g0 g1 b x u n1 _ ?_ ?_ ?_ ?_ ?_)) (Lib.hid ?_)).mono ?_
  · rw [World.cell?_setCell_far _ _ _ _ n1']; exact p0
  · exact (World.cell?_setCell_other _ ⟨b, 3, none⟩ ⟨b, 1, none⟩ _ (by simp)).trans h1
  · go_simp
  · rw [World.cell?_setCell_far _ _ _ _ n1]; exact p1
  · go_simp
  · rintro w' rfl
    refine ⟨?_, ?_, ?_, ?_⟩
    · rw [World.cell?_drew, World.cell?_setCell_far _ _ _ _ n2]
      exact (World.cell?_setCell_other _ ⟨b, 1, none⟩ ⟨b, 2, none⟩ _ (by simp)).trans ((World.cell?_setCell_other _ ⟨b, 3, none⟩ ⟨b, 2, none⟩ _ (by simp)).trans h2)
    · rw [World.cell?_drew, World.cell?_setCell_far _ _ _ _ n2]
      exact (World.cell?_setCell_other _ ⟨b, 1, none⟩ ⟨b, 3, none⟩ _ (by simp)).trans (World.cell?_setCell_same w _ _ h3)
    · go_simp
    · go_simp
  · rintro e w' ⟨rfl, w2, rfl, rfl⟩
    exact ⟨rfl, by simp only [World.setCell_drew]⟩

set_option maxRecDepth 100000 in
set_option maxHeartbeats 800000 in
theorem stop_on (b : Nat) (n : Int) (w : World) (hk : Clk w b n 0) :
    Calls Try.prog 18 #[.pointer (some ⟨b, 0, none⟩)] w fun e w' => e = .returned (.bool true) ∧ Clk w' b n 1 ∧ w.grownBy w' (some b) := by
  obtain ⟨⟨h0, h1, h2, h3⟩, f0, f1, f2, f3⟩ := hk
  have hb := World.block_lt_of_cell? w _ h0
  have hb0 : ¬ w.heap.size = b := by simp at hb; omega
  have hb1 : ¬ w.heap.size + 1 = b := by simp at hb; omega
  have hb2 : ¬ b = w.heap.size + 1 := by simp at hb; omega
  have hb3 : ¬ b = w.heap.size := by simp at hb; omega
  have hb4 : b < w.heap.size := hb
  have hmf : ∀ (fn : Fn) (first cap : Array Value) (w : World), (Instr.makeFunc fn first cap).run Try.prog w = .ok (.func fn first cap) w := fun _ _ _ _ => rfl
  go_enter Try.func18, Try.ntmps18
  go_wp2_with (go_at_call 38; refine (do_stop b w.heap.size (w.heap.size + 1) hb0 hb2 _ (.int .u32 0) (.bool false) (by go_simp) (by go_simp) (by go_simp) (by go_simp) (by go_simp) (by go_simp) (by go_simp) (by go_simp) (by go_simp)).mono ?_; rintro e w' ⟨rfl, rfl⟩)
  go_ret
  refine ⟨rfl, ?_, ?_⟩
  · unfold Clk
    have e3 : (((w.setCell ⟨b, 3, none⟩ (.int .i32 1)).setCell ⟨b, 1, none⟩ (.int .u32 1)).setCell ⟨b, 2, none⟩ (.int .u32 1)).cell? ⟨b, 3, none⟩ = some (.int .i32 1) := by
      rw [World.cell?_setCell_other _ ⟨b, 2, none⟩ ⟨b, 3, none⟩ _ (by simp), World.cell?_setCell_other _ ⟨b, 1, none⟩ ⟨b, 3, none⟩ _ (by simp)]
      exact World.cell?_setCell_same w _ _ h3
    have e2 : ((w.setCell ⟨b, 3, none⟩ (.int .i32 1)).setCell ⟨b, 1, none⟩ (.int .u32 1)).cell? ⟨b, 2, none⟩ = some (.int .u32 0) := by
      rw [World.cell?_setCell_other _ ⟨b, 1, none⟩ ⟨b, 2, none⟩ _ (by simp), World.cell?_setCell_other _ ⟨b, 3, none⟩ ⟨b, 2, none⟩ _ (by simp)]
      exact h2
    have e1 : (w.setCell ⟨b, 3, none⟩ (.int .i32 1)).cell? ⟨b, 1, none⟩ = some (.int .u32 0) := by
      rw [World.cell?_setCell_other _ ⟨b, 3, none⟩ ⟨b, 1, none⟩ _ (by simp)]
      exact h1
    have d2 := World.cell?_setCell_same _ _ (.int .u32 1) e2
    have d1 := World.cell?_setCell_same _ _ (.int .u32 1) e1
    have d3 := World.cell?_setCell_same _ _ (.int .i32 0) e3
    refine ⟨⟨?_, ?_, ?_, ?_⟩, ?_, ?_, ?_, ?_⟩
    all_goals (first | (go_simp; done) | skip)
    all_goals (rw [World.cell?_drew, World.cell?_drew, World.cell?_alloc_lt _ _ _ (by simp; omega), World.cell?_alloc_lt _ _ _ (by simp; omega)])
    all_goals (first | exact d3 | skip)
    all_goals (rw [World.cell?_setCell_other _ ⟨b, 3, none⟩ _ _ (by simp)])
    all_goals (first | exact d2 | skip)
    all_goals (rw [World.cell?_setCell_other _ ⟨b, 2, none⟩ _ _ (by simp)])
    all_goals (first | exact d1 | skip)
  · repeat (first | exact gby_refl _ _ | apply gby_drew | apply gby_alloc | apply gby_set)

theorem stop_off (b : Nat) (n : Int) (w : World) (hk : Clk w b n 1) :
    Calls Try.prog 18 #[.pointer (some ⟨b, 0, none⟩)] w fun e w' => e = .returned (.bool false) ∧ Below w.heap.size w w' := by
  obtain ⟨⟨h0, h1, h2, h3⟩, f0, f1, f2, f3⟩ := hk
  have hb4 : b < w.heap.size := World.block_lt_of_cell? w _ h0
  have hmf : ∀ (fn : Fn) (first cap : Array Value) (w : World), (Instr.makeFunc fn first cap).run Try.prog w = .ok (.func fn first cap) w := fun _ _ _ _ => rfl
  go_enter Try.func18, Try.ntmps18
  go_wp2_with (go_at_call 38; refine (do_done b 2 1 (by omega) _ _ (by go_simp)).mono ?_; rintro e w' ⟨rfl, rfl⟩)
  go_ret
  refine ⟨rfl, ?_⟩
  go_grown

theorem clk_tick {w : World} {b : Nat} {n d : Int} (h : Clk w b n d) (m : Int) : Clk ((w.setCell ⟨b, 0, none⟩ (.int .i64 m)).drew) b m d := by
  obtain ⟨⟨h0, h1, h2, h3⟩, f0, f1, f2, f3⟩ := h
  unfold Clk; go_simp
theorem clk_below {w w1 : World} {b : Nat} {n d : Int} (h : Clk w b n d) (hb : Below w.heap.size w w1) : Clk w1 b n d := by
  have hlt : b < w.heap.size := World.block_lt_of_cell? w _ h.1.1
  obtain ⟨⟨h0, h1, h2, h3⟩, f0, f1, f2, f3⟩ := h
  exact ⟨⟨keepB hb h0 hlt, keepB hb h1 hlt, keepB hb h2 hlt, keepB hb h3 hlt⟩, (hb.frozen hlt).trans f0, (hb.frozen hlt).trans f1, (hb.frozen hlt).trans f2, (hb.frozen hlt).trans f3⟩
theorem clk_gby {w w1 : World} {b g : Nat} {n d : Int} (h : Clk w b n d) (hb : w.grownBy w1 (some g)) (hne : ¬ b = g) : Clk w1 b n d := by
  have hlt : b < w.heap.size := World.block_lt_of_cell? w _ h.1.1
  obtain ⟨⟨h0, h1, h2, h3⟩, f0, f1, f2, f3⟩ := h
  obtain ⟨c, f⟩ := gcell hb
  exact ⟨⟨(c _ _ hlt hne).trans h0, (c _ _ hlt hne).trans h1, (c _ _ hlt hne).trans h2, (c _ _ hlt hne).trans h3⟩, (f _ _ hlt hne).trans f0, (f _ _ hlt hne).trans f1, (f _ _ hlt hne).trans f2, (f _ _ hlt hne).trans f3⟩

theorem awake14 (w : World) : Calls Try.prog 16 #[] w fun e w' => e = .returned (.bool true) ∧ Below w.heap.size w w' := by
  have hnot : ∀ (x : Bool) (w : World), (Op.unary .not (.bool x)).run Try.prog w = .ok (.bool (!x)) w := fun _ _ => rfl
  have l1 : laterI 0 3 = 3 := by decide
  have l2 : laterI 3 (-1) = 3 := by decide
  go_enter Try.func16, Try.ntmps16
  go_wp2_with fail
  refine (clock_new _).mono ?_; rintro e w' ⟨rfl, rfl⟩
  go_wp2_with fail
  refine (tick_on w.heap.size 0 3 _ (by go_simp) (by go_simp) (by go_simp)).mono ?_; rintro e w' ⟨rfl, rfl⟩
  go_wp2_with fail
  refine (tick_on w.heap.size 3 (-1) _ (by go_simp) (by go_simp) (by go_simp)).mono ?_; rintro e w' ⟨rfl, rfl⟩
  go_wp2_with fail
  refine (stop_on w.heap.size 3 _ (by unfold Clk; go_simp)).mono ?_; rintro e w1 ⟨rfl, hk1, hg1⟩
  go_wp2_with fail
  refine (stop_off w.heap.size 3 _ hk1).mono ?_; rintro e w2 ⟨rfl, hb2⟩
  have hk2 := clk_below hk1 hb2
  have hk3 := Lib.hid hk2
  obtain ⟨⟨h0, h1, _, _⟩, _, _, _, _⟩ := hk2
  go_wp2_with (first | (go_at_call 20; refine (tick_off w.heap.size 3 5 _ h0 h1).mono ?_; rintro e w' ⟨rfl, rfl⟩) | (go_at_call 21; refine (now_any w.heap.size 0 3 _ h0).mono ?_; rintro e w' ⟨rfl, rfl⟩) | (go_at_call 22; refine (stopped_any w.heap.size 0 1 _ h1).mono ?_; rintro e w' ⟨rfl, rfl⟩))
  go_ret
  have b1 : Below w.heap.size w w1 := below_gby (by go_grown) hg1 (Nat.le_refl _) (by simp)
  exact ⟨rfl, b1.trans (hb2.mono b1.size)⟩

/-- Stop and Tick, whether or not it is stopped. -/
theorem stop_any (b : Nat) (n d : Int) (hd : d = 0 ∨ d = 1) (w : World) (hk : Clk w b n d) :
    Calls Try.prog 18 #[.pointer (some ⟨b, 0, none⟩)] w fun e w' => e = .returned (.bool (d == 0)) ∧ Clk w' b n 1 ∧ w.grownBy w' (some b) := by
  rcases hd with rfl | rfl
  · exact stop_on b n w hk
  · refine (stop_off b n w hk).mono ?_
    rintro e w' ⟨rfl, hb⟩
    exact ⟨rfl, clk_below hk hb, gby_below (gby_refl _ _) hb⟩

theorem tick_any (b : Nat) (n x d : Int) (hd : d = 0 ∨ d = 1) (w : World) (hk : Clk w b n d) :
    Calls Try.prog 20 #[.pointer (some ⟨b, 0, none⟩), .int .i64 x] w fun e w' => e = .returned (.int .i64 (if d = 0 then laterI n x else n)) ∧ Clk w' b (if d = 0 then laterI n x else n) d ∧ w.grownBy w' (some b) := by
  rcases hd with rfl | rfl
  · refine (tick_on b n x w hk.1.1 hk.1.2.1 hk.2.1).mono ?_
    rintro e w' ⟨rfl, rfl⟩
    exact ⟨rfl, clk_tick hk _, gby_drew (gby_set (gby_refl _ _) _ _)⟩
  · refine (tick_off b n x w hk.1.1 hk.1.2.1).mono ?_
    rintro e w' ⟨rfl, rfl⟩
    exact ⟨rfl, hk, gby_refl _ _⟩

theorem ref14_tick (n x : Int) (off : Bool) (w : World) :
    Calls Try.prog 19 #[.agg #[.int .i64 n, .bool off], .int .i64 x] w fun e w' => e = .returned (.agg #[.int .i64 (if (if off then (1 : Int) else 0) = 0 then laterI n x else n), .bool off]) ∧ Below w.heap.size w w' := by
  have hnot : ∀ (x : Bool) (w : World), (Op.unary .not (.bool x)).run Try.prog w = .ok (.bool (!x)) w := fun _ _ => rfl
  cases off
  all_goals
    go_enter Try.func19, Try.ntmps19
    go_wp2_with (go_at_call 41; refine (ref_later n x _).mono ?_; rintro e w' ⟨rfl, rfl⟩)
    go_returns
    refine ⟨rfl, ?_⟩
    go_grown
end Go.Proofs.Ytdeeeoakdfldkaa
