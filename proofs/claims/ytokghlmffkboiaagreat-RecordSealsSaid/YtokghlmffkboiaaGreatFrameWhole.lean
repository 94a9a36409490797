/-
  Open of a frame that is whole (reeve's layer 4), and of one whose sum is another.
-/
import Derived.Test.YtokghlmffkboiaaGreatFrameOpen
namespace Go.Proofs.YtokghlmffkboiaaGreat
open Go.RowKit
set_option linter.unusedVariables false
set_option linter.unusedSimpArgs false

theorem Blk.set1 {w : World} {b : Nat} {x : Value} {t : TypeId} (h : Blk w b #[x] t) (v : Value) : Blk (w.setCell ⟨b, 0, none⟩ v) b #[v] t := h.set 0 v
/-- The door, behind a return: what the results' variables hold is handed back. -/
theorem door_ret {w w1 : World} {T : Array Value} (x : ByteArray) (y z : Int)
    (t2 : T.getD 2 undef = .pointer (some ⟨w.heap.size, 0, none⟩)) (t3 : T.getD 3 undef = .pointer (some ⟨w.heap.size + 1, 0, none⟩)) (t4 : T.getD 4 undef = .pointer (some ⟨w.heap.size + 1 + 1, 0, none⟩))
    (h0 : Blk w1 w.heap.size #[.string x] 9) (h1 : Blk w1 (w.heap.size + 1) #[.int .i64 y] 3) (h2 : Blk w1 (w.heap.size + 1 + 1) #[.int .i64 z] 29) (hb : Below w.heap.size w w1) :
    bodyPostD Tryz.prog Tryz.f41 (fun en w' => en = .returned (.tuple #[.string x, .int .i64 y, .int .i64 z]) ∧ Below w.heap.size w w') Exit.ret
      { tmps := T, defers := [{ target := Target.fn (Fn.func 66) #[.pointer (some ⟨w.heap.size, 0, none⟩), .pointer (some ⟨w.heap.size + 1, 0, none⟩), .pointer (some ⟨w.heap.size + 1 + 1, 0, none⟩)], args := #[] }] } w1 := by
  refine leaves_cons (f := 66) (args := #[.pointer (some ⟨w.heap.size, 0, none⟩), .pointer (some ⟨w.heap.size + 1, 0, none⟩), .pointer (some ⟨w.heap.size + 1 + 1, 0, none⟩)]) (by simp) (by simp [go_sem]) ?_
  refine (catch_idle _ _ _ _).mono ?_
  rintro en u' w'' ⟨rfl, rfl, rfl⟩
  have k0 := h0.cell (i := 0) (v := .string x) rfl
  have k1 := h1.cell (i := 0) (v := .int .i64 y) rfl
  have k2 := h2.cell (i := 0) (v := .int .i64 z) rfl
  have t2' : T[2]?.getD undef = .pointer (some ⟨w.heap.size, 0, none⟩) := by simpa using t2
  have t3' : T[3]?.getD undef = .pointer (some ⟨w.heap.size + 1, 0, none⟩) := by simpa using t3
  have t4' : T[4]?.getD undef = .pointer (some ⟨w.heap.size + 1 + 1, 0, none⟩) := by simpa using t4
  simp [Leaves, settle, results, Tryz.results41, go_sem, t2', t3', t4', k0, k1, k2, hb]

set_option maxRecDepth 100000 in
set_option maxHeartbeats 1600000 in
theorem open_whole (s : ByteArray) (hs : s.size ≤ maxLen) (h0 : 0 < s.size) (hx : Lib.hasPrefix s.data.toList [82] = true) (h3 : 3 ≤ s.size) (n : Nat) (hn : Oct.numFrom 0 ((rest (s.extract 1 3) 0).take 2) = n) (hn2 : n ≤ 200) (hcut : n + 7 ≤ s.size) (hsum : s.extract (n + 3) (n + 7) = sumB (s.extract 1 (n + 3))) (w : World) : Calls Tryz.prog 41 #[.string s] w fun e w' => e = .returned (.tuple #[.string (s.extract 3 (n + 3)), .int .i64 ((n : Int) + 7), .int .i64 0]) ∧ Below w.heap.size w w' := by
  have hmf : ∀ (fn : Fn) (first cap : Array Value) (w : World), (Instr.makeFunc fn first cap).run Tryz.prog w = .ok (.func fn first cap) w := fun _ _ _ _ => rfl
  obtain ⟨b0, b1, b2, bb⟩ := three_new w
  have B0 := Lib.hid b0
  have B1 := Lib.hid b1
  have B2 := Lib.hid b2
  have BB := Lib.hid bb
  clear b0 b1 b2 bb
  have hs63 : s.size ≤ 9223372036854775807 := by unfold maxLen at hs; omega
  have HP := fun w => Tryz.strings_HasPrefix s ⟨#[82]⟩ w
  change ∀ w, Calls _ _ _ _ fun e w' => e = .returned (.bool (Lib.hasPrefix s.data.toList [82])) ∧ _ at HP
  rw [hx] at HP
  have HP := Lib.hid HP
  have hne : (!s.toList.isEmpty) = true := not_empty h0
  clear hx
  go_enter_defers Tryz.func41, Tryz.ntmps41
  go_wp2_with fail
  refine (must_yes 3 _).mono ?_
  rintro e w1 ⟨rfl, rfl⟩
  go_wp2_with fail
  refine (HP.out _).mono ?_
  rintro e w1 ⟨rfl, rfl⟩
  go_wp2_with fail
  refine (must_yes 2 _).mono ?_
  rintro e w1 ⟨rfl, rfl⟩
  go_wp2_with fail
  refine (must_y (by simp; omega) 3 _).mono ?_
  rintro e w1 ⟨rfl, rfl⟩
  have k1 : (3 : Int) ≤ (s.size : Int) := by omega
  go_wp2_with fail
  refine (octet_new _ _).mono ?_
  rintro e w1 ⟨rfl, hc1, hb1, hz1⟩
  have C0 := Lib.hid (B0.out.below hb1 B0.out.lt)
  have C1 := Lib.hid (B1.out.below hb1 B1.out.lt)
  have C2 := Lib.hid (B2.out.below hb1 B2.out.lt)
  have CB := Lib.hid (BB.out.trans (hb1.mono BB.out.size))
  have hez : (s.extract 1 3).size = 2 := by rw [ByteArray.size_extract]; omega
  have n0 := B0.out.lt
  have n1 := B1.out.lt
  have n2 := B2.out.lt
  obtain ⟨W, hW⟩ : ∃ W, W = ((w.alloc (.cells #[.string ⟨#[]⟩] 9)).alloc (.cells #[.int .i64 0] 3)).alloc (.cells #[.int .i64 0] 29) := ⟨_, rfl⟩
  rw [← hW] at hc1 hb1 n0 n1 n2 ⊢
  have CF := cur_fixed W.heap.size (s.extract 1 3) 0 2 (by rw [hez]; decide) (by rw [hez]; decide) (by decide) (by decide) w1 hc1
  rw [hn] at CF
  have CF := Lib.hid CF
  have hWw : w.heap.size ≤ W.heap.size := by omega
  clear hc1 hb1 hz1 hez hn B0 B1 B2 BB hW
  go_wp2_with fail
  refine CF.out.mono ?_
  rintro e w2 ⟨rfl, hc2, hg2⟩
  have D0 := Lib.hid (C0.out.gby hg2 (by omega))
  have D1 := Lib.hid (C1.out.gby hg2 (by omega))
  have D2 := Lib.hid (C2.out.gby hg2 (by omega))
  have DB := Lib.hid (below_gby CB.out hg2 hWw CB.out.size)
  clear hc2 hg2 C0 C1 C2 CB n0 n1 n2
  go_wp2_with fail
  refine (must_y (by simp; omega) 9 _).mono ?_
  rintro e w1 ⟨rfl, rfl⟩
  have FS := frame_size (n : Int)
  rw [if_neg (by omega)] at FS
  have FS := Lib.hid FS
  have hwn : IntKind.i64.wrap (n : Int) = (n : Int) := by rw [IntKind.wrap_i64]; omega
  have x1 := D1.out.cell (i := 0) rfl
  have y1 := D1.out.free 0
  go_wp2_with (go_at_call 71; refine (FS.out _).mono ?_; rintro e w1 ⟨rfl, rfl⟩)
  have E0 := Lib.hid (D0.out.far (a := ⟨w.heap.size + 1, 0, none⟩) (by simp) (.int .i64 ((n : Int) + 7)))
  have E1 := Lib.hid (show Blk _ _ #[.int .i64 ((n : Int) + 7)] _ from D1.out.set 0 (.int .i64 ((n : Int) + 7)))
  have E2 := Lib.hid (D2.out.far (a := ⟨w.heap.size + 1, 0, none⟩) (by simp) (.int .i64 ((n : Int) + 7)))
  have EB := Lib.hid (DB.out.setCell (p := ⟨w.heap.size + 1, 0, none⟩) (by simp) (.int .i64 ((n : Int) + 7)))
  obtain ⟨w3, hw3⟩ : ∃ w3, w3 = w2.setCell ⟨w.heap.size + 1, 0, none⟩ (.int .i64 ((n : Int) + 7)) := ⟨_, rfl⟩
  rw [← hw3]
  have E0 : Hid (Blk w3 _ _ _) := hw3 ▸ E0
  have E1 : Hid (Blk w3 _ _ _) := hw3 ▸ E1
  have E2 : Hid (Blk w3 _ _ _) := hw3 ▸ E2
  have EB : Hid (Below _ w w3) := hw3 ▸ EB
  clear hw3 x1 y1
  refine (must_y (by simp; omega) 3 _).mono ?_
  rintro e w1 ⟨rfl, rfl⟩
  have x0 := E0.out.cell (i := 0) rfl
  have x1 := E1.out.cell (i := 0) rfl
  have y0 := E0.out.free 0
  have hw7 : (n : Int) + 7 - 4 = (n : Int) + 3 := by omega
  have hk0 : (3 : Int) ≤ (n : Int) + 3 := by omega
  have hk1 : (n : Int) + 3 ≤ (s.size : Int) := by omega
  go_upto_region 10 with fail
  have F0 := Lib.hid (show Blk _ _ #[.string (s.extract 3 (n + 3))] _ from E0.out.set 0 (.string (s.extract 3 (n + 3))))
  have F1 := Lib.hid (E1.out.far (a := ⟨w.heap.size, 0, none⟩) (by simp) (.string (s.extract 3 (n + 3))))
  have F2 := Lib.hid (E2.out.far (a := ⟨w.heap.size, 0, none⟩) (by first | (simp; done) | (simp; omega)) (.string (s.extract 3 (n + 3))))
  have FB := Lib.hid (EB.out.setCell (p := ⟨w.heap.size, 0, none⟩) (Nat.le_refl _) (.string (s.extract 3 (n + 3))))
  obtain ⟨w4, hw4⟩ : ∃ w4, w4 = w3.setCell ⟨w.heap.size, 0, none⟩ (.string (s.extract 3 (n + 3))) := ⟨_, rfl⟩
  rw [← hw4]
  have F0 : Hid (Blk w4 _ _ _) := hw4 ▸ F0
  have F1 : Hid (Blk w4 _ _ _) := hw4 ▸ F1
  have F2 : Hid (Blk w4 _ _ _) := hw4 ▸ F2
  have FB : Hid (Below _ w w4) := hw4 ▸ FB
  clear hw4 x0 x1 y0 E0 E1 E2 EB
  have x0 := F0.out.cell (i := 0) rfl
  have x1 := F1.out.cell (i := 0) rfl
  have hk2 : (0 : Int) ≤ (n : Int) + 3 := by omega
  have hk3 : (n : Int) + 3 ≤ (n : Int) + 7 := by omega
  have hk4 : (n : Int) + 7 ≤ (s.size : Int) := by omega
  have hq : ((s.extract (n + 3) (n + 7)).toList == (sumB (s.extract 1 (n + 3))).toList) = true := by rw [hsum]; simp
  clear hsum
  have hwr : IntKind.i64.wrap ((n : Int) + 7 - 4) = (n : Int) + 3 := by rw [IntKind.wrap_i64]; omega
  have ht1 : ((n : Int) + 3).toNat = n + 3 := by omega
  have ht2 : ((n : Int) + 7).toNat = n + 7 := by omega
  clear hw7
  have z1 : (s.extract 1 3).size ≤ 1000 := by rw [ByteArray.size_extract]; omega
  have z2 : (s.extract 3 (n + 3)).size ≤ 1000 := by rw [ByteArray.size_extract]; omega
  have hnb : Blk (w4.alloc (.cells #[.string (s.extract 1 3), .string (s.extract 3 (n + 3))] 9)).drew w4.heap.size #[.string (s.extract 1 3), .string (s.extract 3 (n + 3))] 9 := (Blk.new w4 _ _).drew
  have hd0 := hnb.cell (i := 0) rfl
  have hd1 := hnb.cell (i := 1) rfl
  have hd2 := hnb.lt
  clear hnb
  go_region_held3 (fun w' => w'.cell? ⟨w.heap.size, 0, none⟩ = some (.string (s.extract 3 (n + 3))) ∧ w'.cell? ⟨w.heap.size + 1, 0, none⟩ = some (.int .i64 ((n : Int) + 7)))
    ((first | exact ⟨F0.out.drew.cell (i := 0) rfl, F1.out.drew.cell (i := 0) rfl⟩ | exact ⟨(F0.out.alloc _).drew.cell (i := 0) rfl, (F1.out.alloc _).drew.cell (i := 0) rfl⟩ | exact ⟨Blk.cell G0.out (i := 0) rfl, Blk.cell G1.out (i := 0) rfl⟩))
    ((first
      | (go_at_call 62; refine (frame_sum w4.heap.size 2 (s.extract 1 3) (s.extract 3 (n + 3)) _ hd0 hd1 hd2 (by decide) z1 z2).mono ?_; rintro e w5 ⟨rfl, hb5⟩; have G0 := Lib.hid ((F0.out.alloc _).drew.below hb5 (by have := F0.out.lt; simp; omega)); have G1 := Lib.hid ((F1.out.alloc _).drew.below hb5 (by have := F1.out.lt; simp; omega)); have G2 := Lib.hid ((F2.out.alloc _).drew.below hb5 (by have := F2.out.lt; simp; omega)); have GB := Lib.hid ((FB.out.alloc FB.out.size _).drew.trans (hb5.mono (by have := FB.out.size; simp; omega))))
      | (go_at_call 67; refine (must_yes 4 _).mono ?_; rintro e w6 ⟨rfl, rfl⟩)))
  have a0 := Blk.cell G0.out (i := 0) rfl
  have a1 := Blk.cell G1.out (i := 0) rfl
  have a2 := Blk.cell G2.out (i := 0) rfl
  have f0 := Blk.free G0.out 0
  have f1 := Blk.free G1.out 0
  have f2 := Blk.free G2.out 0
  clear x0 x1 hd0 hd1 hd2
  go_wp2_with fail
  go_region
  all_goals
    go_wp2_with fail
    refine door_ret (s.extract 3 (n + 3)) ((n : Int) + 7) 0 rfl rfl rfl ?_ ?_ ?_ ?_
    · repeat (first | exact G0.out | refine Blk.drew ?_ | refine Blk.set1 (x := .string (s.extract 3 (n + 3))) ?_ _ | refine Blk.far ?_ (by first | (simp; done) | (simp; omega)) _)
    · repeat (first | exact G1.out | refine Blk.drew ?_ | refine Blk.set1 (x := .int .i64 ((n : Int) + 7)) ?_ _ | refine Blk.far ?_ (by first | (simp; done) | (simp; omega)) _)
    · repeat (first | exact G2.out | refine Blk.drew ?_ | refine Blk.set1 (x := .int .i64 0) ?_ _ | refine Blk.far ?_ (by first | (simp; done) | (simp; omega)) _)
    · repeat (first | exact GB.out | refine Below.drew ?_ | refine Below.setCell ?_ (by first | (simp; done) | (simp; omega)) _)
end Go.Proofs.YtokghlmffkboiaaGreat
