/-
  What package frame's Open computes (reeve's layer 4), as contracts: it defers a closure that recovers.
-/
import Derived.Test.YtokghlmffkboiaaGreatFrame
import Derived.Defers
import Derived.Recover
import Derived.Tactics2
namespace Go.Proofs.YtokghlmffkboiaaGreat
open Go.RowKit
set_option linter.unusedVariables false
set_option linter.unusedSimpArgs false

theorem must_yes (e : Int) (w : World) : Calls Tryz.prog 67 #[.bool true, .int .i64 e] w fun en w' => en = .returned (.tuple #[]) ∧ w = w' := by
  have hnot : ∀ (x : Bool) (w : World), (Op.unary .not (.bool x)).run Tryz.prog w = .ok (.bool (!x)) w := fun _ _ => rfl
  go_enter Tryz.func67, Tryz.ntmps67
  go_wp2
  go_end0
  exact ⟨rfl, rfl⟩
theorem must_no (e : Int) (w : World) : Calls Tryz.prog 67 #[.bool false, .int .i64 e] w fun en w' => en = .panicked [{ v := .iface 29 (.int .i64 e), recovered := false }] ∧ w = w' := by
  have hnot : ∀ (x : Bool) (w : World), (Op.unary .not (.bool x)).run Tryz.prog w = .ok (.bool (!x)) w := fun _ _ => rfl
  go_enter Tryz.func67, Tryz.ntmps67
  go_wp2
  exact ⟨rfl, rfl, rfl⟩

theorem catch_idle (p q r : Addr) (w : World) :
    CallsD Tryz.prog 66 #[.pointer (some p), .pointer (some q), .pointer (some r)] .returning w fun e u' w' => e = .returned (.tuple #[]) ∧ u' = .returning ∧ w' = w := by
  refine callsD_of_wpS Tryz.func66 rfl fun c₀ cs hu => ?_
  apply wpS_seq
  apply wpS_region
  simp [wpOpsS, go_sem, recoverD, hu, Tryz.ntmps66, Exit.thenS]
  apply wpS_seq
  apply wpS_region
  simp [wpOpsS, go_sem, Exit.thenS]
  refine wpS_cond (t := false) (by simp [Act.eval, Array.replicate]) ?_
  simp only [Bool.false_eq_true, if_false]
  refine wpS_of_wp (wp_skip ?_)
  cases c₀
  simp_all [bodyPostS, results, Tryz.results66]
set_option maxRecDepth 100000 in
theorem catch_panicking (p q r : Addr) (x y z : Value) (pv : Int) (older : List PanicEntry) (w : World) (h0 : w.cell? p = some x) (h1 : w.cell? q = some y) (h2 : w.cell? r = some z) (f0 : w.frozen? p = false) (f1 : w.frozen? q = false) (f2 : w.frozen? r = false) (n1 : p ≠ q) (n2 : p ≠ r) (n3 : q ≠ r) :
    CallsD Tryz.prog 66 #[.pointer (some p), .pointer (some q), .pointer (some r)] (.panicking ({ v := .iface 29 (.int .i64 pv), recovered := false } :: older)) w fun e u' w' =>
      e = .returned (.tuple #[]) ∧ u' = .panicking ({ v := .iface 29 (.int .i64 pv), recovered := true } :: older) ∧ w' = ((w.setCell p (.string ⟨#[]⟩)).setCell q (.int .i64 0)).setCell r (.int .i64 pv) := by
  have hta : ∀ (v : Value) (W : World), (Instr.typeAssert (.iface 29 v) 20 29 false).run Tryz.prog W = .ok v W := fun v W => by rfl
  have n1' : q ≠ p := fun e => n1 e.symm
  have n2' : r ≠ p := fun e => n2 e.symm
  have n3' : r ≠ q := fun e => n3 e.symm
  refine callsD_of_wpS Tryz.func66 rfl fun c₀ cs hu => ?_
  apply wpS_seq
  apply wpS_region
  simp [wpOpsS, go_sem, recoverD, hu, Tryz.ntmps66, Exit.thenS]
  apply wpS_seq
  apply wpS_region
  simp [wpOpsS, go_sem, Exit.thenS]
  refine wpS_cond (t := true) (by simp [Act.eval, Array.replicate]) ?_
  simp only [if_true]
  apply wpS_seq
  apply wpS_region
  have e1 : (w.setCell p (.string ⟨#[]⟩)).cell? q = some y := by rw [World.cell?_setCell_other (h := n1)]; exact h1
  have e2 : ((w.setCell p (.string ⟨#[]⟩)).setCell q (.int .i64 0)).cell? r = some z := by rw [World.cell?_setCell_other (h := n3), World.cell?_setCell_other (h := n2)]; exact h2
  simp [wpOpsS, go_sem, Exit.thenS, h0, e1, f0, f1]
  apply wpS_region
  simp [wpOpsS, go_sem, Exit.thenS, e2, f2, hta, bodyPostS, results, Tryz.results66]

theorem three_new (w : World) : Blk (((w.alloc (.cells #[.string ⟨#[]⟩] 9)).alloc (.cells #[.int .i64 0] 3)).alloc (.cells #[.int .i64 0] 29)) w.heap.size #[.string ⟨#[]⟩] 9 ∧
    Blk (((w.alloc (.cells #[.string ⟨#[]⟩] 9)).alloc (.cells #[.int .i64 0] 3)).alloc (.cells #[.int .i64 0] 29)) (w.heap.size + 1) #[.int .i64 0] 3 ∧
    Blk (((w.alloc (.cells #[.string ⟨#[]⟩] 9)).alloc (.cells #[.int .i64 0] 3)).alloc (.cells #[.int .i64 0] 29)) (w.heap.size + 1 + 1) #[.int .i64 0] 29 ∧
    Below w.heap.size w (((w.alloc (.cells #[.string ⟨#[]⟩] 9)).alloc (.cells #[.int .i64 0] 3)).alloc (.cells #[.int .i64 0] 29)) := by
  have h1 := Blk.new (w.alloc (.cells #[.string ⟨#[]⟩] 9)) #[.int .i64 0] 3
  have h2 := Blk.new ((w.alloc (.cells #[.string ⟨#[]⟩] 9)).alloc (.cells #[.int .i64 0] 3)) #[.int .i64 0] 29
  simp only [World.size_alloc] at h1 h2
  exact ⟨((Blk.new w _ _).alloc _).alloc _, h1.alloc _, h2, (((Below.refl _ _).alloc (Nat.le_refl _) _).alloc (by simp) _).alloc (by simp; omega) _⟩

/-- The door, behind a panic: the closure recovers it. -/
theorem door_panic {w w1 : World} {T : Array Value} (x : Value) (y z e : Int)
    (t2 : T.getD 2 undef = .pointer (some ⟨w.heap.size, 0, none⟩)) (t3 : T.getD 3 undef = .pointer (some ⟨w.heap.size + 1, 0, none⟩)) (t4 : T.getD 4 undef = .pointer (some ⟨w.heap.size + 1 + 1, 0, none⟩))
    (h0 : Blk w1 w.heap.size #[x] 9) (h1 : Blk w1 (w.heap.size + 1) #[.int .i64 y] 3) (h2 : Blk w1 (w.heap.size + 1 + 1) #[.int .i64 z] 29) (hb : Below w.heap.size w w1) :
    bodyPostD Tryz.prog Tryz.f41 (fun en w' => en = .returned (.tuple #[.string ⟨#[]⟩, .int .i64 0, .int .i64 e]) ∧ Below w.heap.size w w') (Exit.panic [{ v := .iface 29 (.int .i64 e), recovered := false }])
      { tmps := T, defers := [{ target := Target.fn (Fn.func 66) #[.pointer (some ⟨w.heap.size, 0, none⟩), .pointer (some ⟨w.heap.size + 1, 0, none⟩), .pointer (some ⟨w.heap.size + 1 + 1, 0, none⟩)], args := #[] }] } w1 := by
  refine leaves_cons (f := 66) (args := #[.pointer (some ⟨w.heap.size, 0, none⟩), .pointer (some ⟨w.heap.size + 1, 0, none⟩), .pointer (some ⟨w.heap.size + 1 + 1, 0, none⟩)]) (by simp) (by simp [go_sem]) ?_
  refine (catch_panicking _ _ _ x (.int .i64 y) (.int .i64 z) e [] _ (h0.cell rfl) (h1.cell rfl) (h2.cell rfl) (h0.free _) (h1.free _) (h2.free _) (by simp) (by first | (simp; done) | (simp; omega)) (by simp)).mono ?_
  rintro en u' w'' ⟨rfl, rfl, rfl⟩
  have k0 := ((((h0.set 0 (.string ⟨#[]⟩)).far (a := ⟨w.heap.size + 1, 0, none⟩) (by simp) (.int .i64 0)).far (a := ⟨w.heap.size + 1 + 1, 0, none⟩) (by first | (simp; done) | (simp; omega)) (.int .i64 e))).cell (i := 0) (v := .string ⟨#[]⟩) rfl
  have k1 := ((((h1.far (a := ⟨w.heap.size, 0, none⟩) (by simp) (.string ⟨#[]⟩)).set 0 (.int .i64 0)).far (a := ⟨w.heap.size + 1 + 1, 0, none⟩) (by simp) (.int .i64 e))).cell (i := 0) (v := .int .i64 0) rfl
  have k2 := ((((h2.far (a := ⟨w.heap.size, 0, none⟩) (by first | (simp; done) | (simp; omega)) (.string ⟨#[]⟩)).far (a := ⟨w.heap.size + 1, 0, none⟩) (by simp) (.int .i64 0)).set 0 (.int .i64 e))).cell (i := 0) (v := .int .i64 e) rfl
  have hbl : Below w.heap.size w (((w1.setCell ⟨w.heap.size, 0, none⟩ (.string ⟨#[]⟩)).setCell ⟨w.heap.size + 1, 0, none⟩ (.int .i64 0)).setCell ⟨w.heap.size + 1 + 1, 0, none⟩ (.int .i64 e)) := ((hb.setCell (Nat.le_refl _) _).setCell (by simp) _).setCell (by first | (simp; done) | (simp; omega)) _
  have t2' : T[2]?.getD undef = .pointer (some ⟨w.heap.size, 0, none⟩) := by simpa using t2
  have t3' : T[3]?.getD undef = .pointer (some ⟨w.heap.size + 1, 0, none⟩) := by simpa using t3
  have t4' : T[4]?.getD undef = .pointer (some ⟨w.heap.size + 1 + 1, 0, none⟩) := by simpa using t4
  simp [Leaves, settle, results, Tryz.results41, go_sem, t2', t3', t4', k0, k1, k2, hbl]

set_option maxRecDepth 100000 in
theorem open_empty (w : World) : Calls Tryz.prog 41 #[.string ⟨#[]⟩] w fun e w' => e = .returned (.tuple #[.string ⟨#[]⟩, .int .i64 0, .int .i64 3]) ∧ Below w.heap.size w w' := by
  have hmf : ∀ (fn : Fn) (first cap : Array Value) (w : World), (Instr.makeFunc fn first cap).run Tryz.prog w = .ok (.func fn first cap) w := fun _ _ _ _ => rfl
  obtain ⟨b0, b1, b2, bb⟩ := three_new w
  have B0 := Lib.hid b0
  have B1 := Lib.hid b1
  have B2 := Lib.hid b2
  have BB := Lib.hid bb
  clear b0 b1 b2 bb
  go_enter_defers Tryz.func41, Tryz.ntmps41
  go_wp2_with fail
  refine (must_no 3 _).mono ?_
  rintro e w1 ⟨rfl, rfl⟩
  go_wp2_with fail
  exact door_panic _ 0 0 3 rfl rfl rfl B0.out B1.out B2.out BB.out

theorem not_empty {s : ByteArray} (h : 0 < s.size) : (!s.toList.isEmpty) = true := by
  rw [ByteArray.toList_eq]
  cases h2 : s.data.toList with
  | nil => have : s.size = 0 := congrArg List.length h2; omega
  | cons a b => rfl
theorem must_y {b : Bool} (h : b = true) (e : Int) (w : World) : Calls Tryz.prog 67 #[.bool b, .int .i64 e] w fun en w' => en = .returned (.tuple #[]) ∧ w = w' := by subst h; exact must_yes e w
theorem must_n {b : Bool} (h : b = false) (e : Int) (w : World) : Calls Tryz.prog 67 #[.bool b, .int .i64 e] w fun en w' => en = .panicked [{ v := .iface 29 (.int .i64 e), recovered := false }] ∧ w = w' := by subst h; exact must_no e w

set_option maxRecDepth 100000 in
set_option maxHeartbeats 1600000 in
theorem open_form (s : ByteArray) (hs : s.size ≤ maxLen) (h0 : 0 < s.size) (hx : Lib.hasPrefix s.data.toList [82] = false) (w : World) : Calls Tryz.prog 41 #[.string s] w fun e w' => e = .returned (.tuple #[.string ⟨#[]⟩, .int .i64 0, .int .i64 2]) ∧ Below w.heap.size w w' := by
  have hmf : ∀ (fn : Fn) (first cap : Array Value) (w : World), (Instr.makeFunc fn first cap).run Tryz.prog w = .ok (.func fn first cap) w := fun _ _ _ _ => rfl
  obtain ⟨b0, b1, b2, bb⟩ := three_new w
  have B0 := Lib.hid b0
  have B1 := Lib.hid b1
  have B2 := Lib.hid b2
  have BB := Lib.hid bb
  clear b0 b1 b2 bb
  have hs63 : s.size ≤ 9223372036854775807 := by unfold maxLen at hs; omega
  have HP := fun w => Tryz.strings_HasPrefix s ⟨#[82]⟩ w
  change ∀ w, Calls _ _ _ _ fun e w' => e = .returned (.bool (Lib.hasPrefix s.data.toList [82])) ∧ _ at HP
  rw [hx] at HP
  have HP := Lib.hid HP
  have hne : (!s.toList.isEmpty) = true := not_empty h0
  clear hx
  go_enter_defers Tryz.func41, Tryz.ntmps41
  go_wp2_with fail
  refine (must_yes 3 _).mono ?_
  rintro e w1 ⟨rfl, rfl⟩
  go_wp2_with fail
  refine (HP.out _).mono ?_
  rintro e w1 ⟨rfl, rfl⟩
  go_wp2_with fail
  refine (must_no 2 _).mono ?_
  rintro e w1 ⟨rfl, rfl⟩
  go_wp2_with fail
  exact door_panic _ 0 0 2 rfl rfl rfl B0.out B1.out B2.out BB.out

set_option maxRecDepth 100000 in
set_option maxHeartbeats 1600000 in
theorem open_short (s : ByteArray) (hs : s.size ≤ maxLen) (h0 : 0 < s.size) (hx : Lib.hasPrefix s.data.toList [82] = true) (h3 : s.size < 3) (w : World) : Calls Tryz.prog 41 #[.string s] w fun e w' => e = .returned (.tuple #[.string ⟨#[]⟩, .int .i64 0, .int .i64 3]) ∧ Below w.heap.size w w' := by
  have hmf : ∀ (fn : Fn) (first cap : Array Value) (w : World), (Instr.makeFunc fn first cap).run Tryz.prog w = .ok (.func fn first cap) w := fun _ _ _ _ => rfl
  obtain ⟨b0, b1, b2, bb⟩ := three_new w
  have B0 := Lib.hid b0
  have B1 := Lib.hid b1
  have B2 := Lib.hid b2
  have BB := Lib.hid bb
  clear b0 b1 b2 bb
  have hs63 : s.size ≤ 9223372036854775807 := by unfold maxLen at hs; omega
  have HP := fun w => Tryz.strings_HasPrefix s ⟨#[82]⟩ w
  change ∀ w, Calls _ _ _ _ fun e w' => e = .returned (.bool (Lib.hasPrefix s.data.toList [82])) ∧ _ at HP
  rw [hx] at HP
  have HP := Lib.hid HP
  have hne : (!s.toList.isEmpty) = true := not_empty h0
  clear hx
  go_enter_defers Tryz.func41, Tryz.ntmps41
  go_wp2_with fail
  refine (must_yes 3 _).mono ?_
  rintro e w1 ⟨rfl, rfl⟩
  go_wp2_with fail
  refine (HP.out _).mono ?_
  rintro e w1 ⟨rfl, rfl⟩
  go_wp2_with fail
  refine (must_yes 2 _).mono ?_
  rintro e w1 ⟨rfl, rfl⟩
  go_wp2_with fail
  refine (must_n (by simp; omega) 3 _).mono ?_
  rintro e w1 ⟨rfl, rfl⟩
  go_wp2_with fail
  exact door_panic _ 0 0 3 rfl rfl rfl B0.out B1.out B2.out BB.out

set_option maxRecDepth 100000 in
set_option maxHeartbeats 1600000 in
theorem open_many (s : ByteArray) (hs : s.size ≤ maxLen) (h0 : 0 < s.size) (hx : Lib.hasPrefix s.data.toList [82] = true) (h3 : 3 ≤ s.size) (n : Nat) (hn : Oct.numFrom 0 ((rest (s.extract 1 3) 0).take 2) = n) (hn2 : 200 < n) (w : World) : Calls Tryz.prog 41 #[.string s] w fun e w' => e = .returned (.tuple #[.string ⟨#[]⟩, .int .i64 0, .int .i64 9]) ∧ Below w.heap.size w w' := by
  have hmf : ∀ (fn : Fn) (first cap : Array Value) (w : World), (Instr.makeFunc fn first cap).run Tryz.prog w = .ok (.func fn first cap) w := fun _ _ _ _ => rfl
  obtain ⟨b0, b1, b2, bb⟩ := three_new w
  have B0 := Lib.hid b0
  have B1 := Lib.hid b1
  have B2 := Lib.hid b2
  have BB := Lib.hid bb
  clear b0 b1 b2 bb
  have hs63 : s.size ≤ 9223372036854775807 := by unfold maxLen at hs; omega
  have HP := fun w => Tryz.strings_HasPrefix s ⟨#[82]⟩ w
  change ∀ w, Calls _ _ _ _ fun e w' => e = .returned (.bool (Lib.hasPrefix s.data.toList [82])) ∧ _ at HP
  rw [hx] at HP
  have HP := Lib.hid HP
  have hne : (!s.toList.isEmpty) = true := not_empty h0
  clear hx
  go_enter_defers Tryz.func41, Tryz.ntmps41
  go_wp2_with fail
  refine (must_yes 3 _).mono ?_
  rintro e w1 ⟨rfl, rfl⟩
  go_wp2_with fail
  refine (HP.out _).mono ?_
  rintro e w1 ⟨rfl, rfl⟩
  go_wp2_with fail
  refine (must_yes 2 _).mono ?_
  rintro e w1 ⟨rfl, rfl⟩
  go_wp2_with fail
  refine (must_y (by simp; omega) 3 _).mono ?_
  rintro e w1 ⟨rfl, rfl⟩
  have k1 : (3 : Int) ≤ (s.size : Int) := by omega
  go_wp2_with fail
  refine (octet_new _ _).mono ?_
  rintro e w1 ⟨rfl, hc1, hb1, hz1⟩
  have C0 := Lib.hid (B0.out.below hb1 B0.out.lt)
  have C1 := Lib.hid (B1.out.below hb1 B1.out.lt)
  have C2 := Lib.hid (B2.out.below hb1 B2.out.lt)
  have CB := Lib.hid (BB.out.trans (hb1.mono BB.out.size))
  have hez : (s.extract 1 3).size = 2 := by rw [ByteArray.size_extract]; omega
  have n0 := B0.out.lt
  have n1 := B1.out.lt
  have n2 := B2.out.lt
  obtain ⟨W, hW⟩ : ∃ W, W = ((w.alloc (.cells #[.string ⟨#[]⟩] 9)).alloc (.cells #[.int .i64 0] 3)).alloc (.cells #[.int .i64 0] 29) := ⟨_, rfl⟩
  rw [← hW] at hc1 hb1 n0 n1 n2 ⊢
  have CF := cur_fixed W.heap.size (s.extract 1 3) 0 2 (by rw [hez]; decide) (by rw [hez]; decide) (by decide) (by decide) w1 hc1
  rw [hn] at CF
  have CF := Lib.hid CF
  have hWw : w.heap.size ≤ W.heap.size := by omega
  clear hc1 hb1 hz1 hez hn B0 B1 B2 BB hW
  go_wp2_with fail
  refine CF.out.mono ?_
  rintro e w2 ⟨rfl, hc2, hg2⟩
  have D0 := Lib.hid (C0.out.gby hg2 (by omega))
  have D1 := Lib.hid (C1.out.gby hg2 (by omega))
  have D2 := Lib.hid (C2.out.gby hg2 (by omega))
  have DB := Lib.hid (below_gby CB.out hg2 hWw CB.out.size)
  clear hc2 hg2 C0 C1 C2 CB n0 n1 n2
  go_wp2_with fail
  refine (must_n (by simp; omega) 9 _).mono ?_
  rintro e w1 ⟨rfl, rfl⟩
  go_wp2_with fail
  exact door_panic _ 0 0 9 rfl rfl rfl D0.out D1.out D2.out DB.out

set_option maxRecDepth 100000 in
set_option maxHeartbeats 1600000 in
theorem open_cut (s : ByteArray) (hs : s.size ≤ maxLen) (h0 : 0 < s.size) (hx : Lib.hasPrefix s.data.toList [82] = true) (h3 : 3 ≤ s.size) (n : Nat) (hn : Oct.numFrom 0 ((rest (s.extract 1 3) 0).take 2) = n) (hn2 : n ≤ 200) (hcut : s.size < n + 7) (w : World) : Calls Tryz.prog 41 #[.string s] w fun e w' => e = .returned (.tuple #[.string ⟨#[]⟩, .int .i64 0, .int .i64 3]) ∧ Below w.heap.size w w' := by
  have hmf : ∀ (fn : Fn) (first cap : Array Value) (w : World), (Instr.makeFunc fn first cap).run Tryz.prog w = .ok (.func fn first cap) w := fun _ _ _ _ => rfl
  obtain ⟨b0, b1, b2, bb⟩ := three_new w
  have B0 := Lib.hid b0
  have B1 := Lib.hid b1
  have B2 := Lib.hid b2
  have BB := Lib.hid bb
  clear b0 b1 b2 bb
  have hs63 : s.size ≤ 9223372036854775807 := by unfold maxLen at hs; omega
  have HP := fun w => Tryz.strings_HasPrefix s ⟨#[82]⟩ w
  change ∀ w, Calls _ _ _ _ fun e w' => e = .returned (.bool (Lib.hasPrefix s.data.toList [82])) ∧ _ at HP
  rw [hx] at HP
  have HP := Lib.hid HP
  have hne : (!s.toList.isEmpty) = true := not_empty h0
  clear hx
  go_enter_defers Tryz.func41, Tryz.ntmps41
  go_wp2_with fail
  refine (must_yes 3 _).mono ?_
  rintro e w1 ⟨rfl, rfl⟩
  go_wp2_with fail
  refine (HP.out _).mono ?_
  rintro e w1 ⟨rfl, rfl⟩
  go_wp2_with fail
  refine (must_yes 2 _).mono ?_
  rintro e w1 ⟨rfl, rfl⟩
  go_wp2_with fail
  refine (must_y (by simp; omega) 3 _).mono ?_
  rintro e w1 ⟨rfl, rfl⟩
  have k1 : (3 : Int) ≤ (s.size : Int) := by omega
  go_wp2_with fail
  refine (octet_new _ _).mono ?_
  rintro e w1 ⟨rfl, hc1, hb1, hz1⟩
  have C0 := Lib.hid (B0.out.below hb1 B0.out.lt)
  have C1 := Lib.hid (B1.out.below hb1 B1.out.lt)
  have C2 := Lib.hid (B2.out.below hb1 B2.out.lt)
  have CB := Lib.hid (BB.out.trans (hb1.mono BB.out.size))
  have hez : (s.extract 1 3).size = 2 := by rw [ByteArray.size_extract]; omega
  have n0 := B0.out.lt
  have n1 := B1.out.lt
  have n2 := B2.out.lt
  obtain ⟨W, hW⟩ : ∃ W, W = ((w.alloc (.cells #[.string ⟨#[]⟩] 9)).alloc (.cells #[.int .i64 0] 3)).alloc (.cells #[.int .i64 0] 29) := ⟨_, rfl⟩
  rw [← hW] at hc1 hb1 n0 n1 n2 ⊢
  have CF := cur_fixed W.heap.size (s.extract 1 3) 0 2 (by rw [hez]; decide) (by rw [hez]; decide) (by decide) (by decide) w1 hc1
  rw [hn] at CF
  have CF := Lib.hid CF
  have hWw : w.heap.size ≤ W.heap.size := by omega
  clear hc1 hb1 hz1 hez hn B0 B1 B2 BB hW
  go_wp2_with fail
  refine CF.out.mono ?_
  rintro e w2 ⟨rfl, hc2, hg2⟩
  have D0 := Lib.hid (C0.out.gby hg2 (by omega))
  have D1 := Lib.hid (C1.out.gby hg2 (by omega))
  have D2 := Lib.hid (C2.out.gby hg2 (by omega))
  have DB := Lib.hid (below_gby CB.out hg2 hWw CB.out.size)
  clear hc2 hg2 C0 C1 C2 CB n0 n1 n2
  go_wp2_with fail
  refine (must_y (by simp; omega) 9 _).mono ?_
  rintro e w1 ⟨rfl, rfl⟩
  have FS := frame_size (n : Int)
  rw [if_neg (by omega)] at FS
  have FS := Lib.hid FS
  have hwn : IntKind.i64.wrap (n : Int) = (n : Int) := by rw [IntKind.wrap_i64]; omega
  have x1 := D1.out.cell (i := 0) rfl
  have y1 := D1.out.free 0
  go_wp2_with (go_at_call 71; refine (FS.out _).mono ?_; rintro e w1 ⟨rfl, rfl⟩)
  have E0 := Lib.hid (D0.out.far (a := ⟨w.heap.size + 1, 0, none⟩) (by simp) (.int .i64 ((n : Int) + 7)))
  have E1 := Lib.hid (show Blk _ _ #[.int .i64 ((n : Int) + 7)] _ from D1.out.set 0 (.int .i64 ((n : Int) + 7)))
  have E2 := Lib.hid (D2.out.far (a := ⟨w.heap.size + 1, 0, none⟩) (by simp) (.int .i64 ((n : Int) + 7)))
  have EB := Lib.hid (DB.out.setCell (p := ⟨w.heap.size + 1, 0, none⟩) (by simp) (.int .i64 ((n : Int) + 7)))
  refine (must_n (by simp; omega) 3 _).mono ?_
  rintro e w1 ⟨rfl, rfl⟩
  go_wp2_with fail
  exact door_panic _ _ 0 3 rfl rfl rfl E0.out E1.out E2.out EB.out
end Go.Proofs.YtokghlmffkboiaaGreat
