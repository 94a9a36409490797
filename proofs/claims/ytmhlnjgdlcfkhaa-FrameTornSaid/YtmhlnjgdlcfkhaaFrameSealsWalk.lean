/-
  The walk of the statement FrameSeals.
-/
import Derived.Test.YtmhlnjgdlcfkhaaAwake04
namespace Go.Proofs.Ytmhlnjgdlcfkhaa
open Go.RowKit
set_option linter.unusedVariables false
set_option linter.unusedSimpArgs false

/-- A body in a frame, or the error. -/
def sealF (b : ByteArray) : ByteArray × Int := if 200 < b.size then (⟨#[]⟩, 9) else (sealB b, 0)
theorem frame_seal_any (b : ByteArray) (hs : b.size ≤ maxLen) (w : World) : Calls Try.prog 36 #[.string b] w fun e w' => e = .returned (.tuple #[.string (sealF b).1, .int .i64 (sealF b).2]) ∧ Below w.heap.size w w' := by
  unfold sealF
  by_cases h : 200 < b.size
  · rw [if_pos h]
    refine (frame_seal_many b h hs w).mono ?_
    rintro e w' ⟨rfl, rfl⟩
    exact ⟨rfl, Below.refl _ _⟩
  · rw [if_neg h]
    exact frame_seal b (by omega) w
theorem ref04_seal_any (b : ByteArray) (hs : b.size ≤ maxLen) (w : World) : Calls Try.prog 37 #[.string b] w fun e w' => e = .returned (.tuple #[.string (sealF b).1, .int .i64 (sealF b).2]) ∧ Below w.heap.size w w' := by
  unfold sealF
  by_cases h : 200 < b.size
  · rw [if_pos h]
    refine (ref04_seal_many b h hs w).mono ?_
    rintro e w' ⟨rfl, rfl⟩
    exact ⟨rfl, Below.refl _ _⟩
  · rw [if_neg h]
    exact ref04_seal b (by omega) w
theorem allG_le (s : ByteArray) (k : Nat) : (allG s k).1.length ≤ s.size - k := by
  induction h : s.size - k using Nat.strongRecOn generalizing k with
  | ind m ih =>
    by_cases ho : (openF (s.extract k s.size)).2.2 = 0
    · rw [allG_ok ho]
      have h1 := openF_ok ho
      have hz : (s.extract k s.size).size = min s.size s.size - k := ByteArray.size_extract
      have := ih (s.size - (k + (openF (s.extract k s.size)).2.1)) (by omega) (k + (openF (s.extract k s.size)).2.1) rfl
      show (_ :: _).length ≤ _
      rw [List.length_cons]
      omega
    · rw [allG_no ho]; simp

set_option maxRecDepth 100000 in
set_option maxHeartbeats 1600000 in
theorem seals_awake (b s : ByteArray) (n : Int) (w : World) (hb : b.size ≤ maxLen) (hs : s.size ≤ maxLen) (h : 300 < b.size ∨ 300 < s.size) :
    Calls Try.prog 9 #[.string b, .string s, .int .i64 n] w fun e w' => e = .returned (.bool true) ∧ Below w.heap.size w w' := by
  unfold maxLen at hb hs
  have d1 : (b.size : Int) ≤ 9223372036854775807 := by omega
  have d2 : (s.size : Int) ≤ 9223372036854775807 := by omega
  by_cases h1 : 300 < b.size
  · have h1' : (300 : Int) < (b.size : Int) := by omega
    go_enter Try.func9, Try.ntmps9
    go_wp2_with (go_at_call 35; refine (awake04 _).mono ?_; rintro e w' ⟨rfl, hb⟩)
    go_ret
    exact ⟨rfl, hb⟩
  · have h1' : (b.size : Int) ≤ 300 := by omega
    have h2' : (300 : Int) < (s.size : Int) := by omega
    go_enter Try.func9, Try.ntmps9
    go_wp2_with (go_at_call 35; refine (awake04 _).mono ?_; rintro e w' ⟨rfl, hb⟩)
    go_ret
    exact ⟨rfl, hb⟩

set_option maxRecDepth 100000 in
set_option maxHeartbeats 3200000 in
theorem walk_FrameSeals (b s : ByteArray) (n : Int) (w : World) (w0 : b.size ≤ maxLen) (w1 : s.size ≤ maxLen) (w2 : (Lit.int .i64 n).wf = true) :
    Calls Try.prog 9 #[.string b, .string s, .int .i64 n] w fun e w' => e = .returned (.bool true) ∧ Below w.heap.size w w' := by
  have hb := bounds_i64 w2
  clear w2
  by_cases hbig : 300 < b.size ∨ 300 < s.size
  · exact seals_awake b s n w w0 w1 hbig
  have h1' : (b.size : Int) ≤ 300 := by omega
  have h2' : (s.size : Int) ≤ 300 := by omega
  have S1 := frame_seal_any b w0
  have S2 := ref04_seal_any b w0
  have O1 := frame_open s w1
  have O2 := ref04_open s w1
  have A1 := frame_all s (by omega)
  have A2 := ref04_all s (by omega)
  have hle := allG_le s 0
  have SZ := frame_size n
  obtain ⟨r, hr⟩ : ∃ r, openF s = r := ⟨_, rfl⟩
  rw [hr] at O1 O2
  clear hr
  obtain ⟨x1, x2, x3⟩ := r
  obtain ⟨r, hr⟩ : ∃ r, allG s 0 = r := ⟨_, rfl⟩
  rw [hr] at A1 A2 hle
  clear hr
  obtain ⟨l, k⟩ := r
  obtain ⟨r, hr⟩ : ∃ r, sealF b = r := ⟨_, rfl⟩
  rw [hr] at S1 S2
  clear hr
  obtain ⟨y1, y2⟩ := r
  have S1H := Lib.hid S1
  have S2H := Lib.hid S2
  have O1H := Lib.hid O1
  have O2H := Lib.hid O2
  have A1H := Lib.hid A1
  have A2H := Lib.hid A2
  have HL := Lib.hid (show l.length ≤ 1000000 by have : l.length ≤ s.size - 0 := hle; omega)
  clear S1 S2 O1 O2 A1 A2 hle hbig w0 w1
  obtain ⟨z, hz⟩ : ∃ z : Int, (if n < 0 ∨ 200 < n then (0 : Int) else n + 7) = z := ⟨_, rfl⟩
  rw [hz] at SZ
  have SZH := Lib.hid SZ
  have HC : Hid ((n < 0 ∧ z = 0) ∨ (200 < n ∧ z = 0) ∨ ((0 ≤ n ∧ n ≤ 200) ∧ z = n + 7)) := Lib.hid (by
    by_cases c1 : n < 0
    · rw [if_pos (.inl c1)] at hz; exact .inl ⟨c1, hz.symm⟩
    · by_cases c2 : 200 < n
      · rw [if_pos (.inr c2)] at hz; exact .inr (.inl ⟨c2, hz.symm⟩)
      · rw [if_neg (by omega)] at hz; exact .inr (.inr ⟨⟨by omega, by omega⟩, hz.symm⟩))
  have HN := Lib.hid hb
  clear hz hb SZ
  go_enter Try.func9, Try.ntmps9
  go_wp2_with fail
  refine (S1H.out _).mono ?_
  rintro e w1 ⟨rfl, b1⟩
  go_wp2_with fail
  refine (S2H.out _).mono ?_
  rintro e w2 ⟨rfl, b2⟩
  have B2 := Lib.hid (b1.trans (b2.mono b1.size))
  clear b1 b2
  go_wp2_with fail
  refine (O1H.out _).mono ?_
  rintro e w3 ⟨rfl, b3⟩
  have B3 := Lib.hid (B2.out.trans (b3.mono B2.out.size))
  clear b3
  go_wp2_with fail
  refine (O2H.out _).mono ?_
  rintro e w4 ⟨rfl, b4⟩
  have B4 := Lib.hid (B3.out.trans (b4.mono B3.out.size))
  clear b4
  go_wp2_with fail
  refine (A1H.out _).mono ?_
  rintro e w5 ⟨va, rfl, oa, b5⟩
  have B5 := Lib.hid (B4.out.trans (b5.mono B4.out.size))
  have RA := Lib.hid oa.row
  have RLT := Lib.hid (RowS.below oa.row (Below.refl w5.heap.size w5) (Nat.le_refl _))
  clear b5 oa
  go_wp2_with fail
  refine (A2H.out _).mono ?_
  rintro e w6 ⟨vb, rfl, ob, b6⟩
  have B6 := Lib.hid (B5.out.trans (b6.mono B5.out.size))
  have RB := Lib.hid ob.row
  have RA6 := Lib.hid (RA.out.below b6 (Nat.le_refl _))
  clear b6 ob RA RLT
  obtain ⟨pa, ca, rfl⟩ := RA6.out.len
  obtain ⟨pb, cb, rfl⟩ := RB.out.len
  have HSM := Lib.hid (fun (wx : World) (h1 : Below w6.heap.size w6 wx) => ref04_same _ _ l HL.out wx (RA6.out.below h1 (Nat.le_refl _)) (RB.out.below h1 (Nat.le_refl _)))
  rcases HC.out with ⟨c1, rfl⟩ | ⟨c1, rfl⟩ | ⟨⟨c1, c2⟩, rfl⟩
  · go_wp2_with (first
      | (go_at_call 42; refine (HSM.out _ (Below.refl _ _)).mono ?_; rintro e w7 ⟨rfl, b7⟩)
      | (go_at_call 43; refine (SZH.out _).mono ?_; rintro e w8 ⟨rfl, rfl⟩)
      | (go_at_call 35; refine (awake04 _).mono ?_; rintro e w9 ⟨rfl, b9⟩))
    go_ret
    have B7 := B6.out.trans (b7.mono B6.out.size)
    exact ⟨rfl, B7.trans (b9.mono B7.size)⟩
  · have c0 : (0 : Int) ≤ n := by omega
    go_wp2_with (first
      | (go_at_call 42; refine (HSM.out _ (Below.refl _ _)).mono ?_; rintro e w7 ⟨rfl, b7⟩)
      | (go_at_call 43; refine (SZH.out _).mono ?_; rintro e w8 ⟨rfl, rfl⟩)
      | (go_at_call 35; refine (awake04 _).mono ?_; rintro e w9 ⟨rfl, b9⟩))
    go_ret
    have B7 := B6.out.trans (b7.mono B6.out.size)
    exact ⟨rfl, B7.trans (b9.mono B7.size)⟩
  · have hwn : IntKind.i64.wrap (n + 7) = n + 7 := by rw [IntKind.wrap_i64]; omega
    go_wp2_with (first
      | (go_at_call 42; refine (HSM.out _ (Below.refl _ _)).mono ?_; rintro e w7 ⟨rfl, b7⟩)
      | (go_at_call 43; refine (SZH.out _).mono ?_; rintro e w8 ⟨rfl, rfl⟩)
      | (go_at_call 35; refine (awake04 _).mono ?_; rintro e w9 ⟨rfl, b9⟩))
    go_ret
    have B7 := B6.out.trans (b7.mono B6.out.size)
    exact ⟨rfl, B7.trans (b9.mono B7.size)⟩
end Go.Proofs.Ytmhlnjgdlcfkhaa
