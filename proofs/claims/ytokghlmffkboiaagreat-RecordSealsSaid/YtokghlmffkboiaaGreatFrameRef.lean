/-
  The reference of layer 4 (frames), as contracts: Seal and Open.
-/
import Derived.Test.YtokghlmffkboiaaGreatFrameLaw
import Derived.BigQuiet
namespace Go.Proofs.YtokghlmffkboiaaGreat
open Go.RowKit
set_option linter.unusedVariables false
set_option linter.unusedSimpArgs false

theorem below_drewN (w : World) (n : Nat) : Below w.heap.size w (w.drewN n) := ⟨rfl, rfl, rfl, Nat.le_refl _, fun _ _ => rfl⟩
theorem str_add (a b : ByteArray) : (⟨a.data ++ b.data⟩ : ByteArray) = a ++ b := by apply ByteArray.ext; simp
theorem ref04_seal_many (body : ByteArray) (h : 200 < body.size) (hs : body.size ≤ maxLen) (w : World) :
    Calls Tryz.prog 39 #[.string body] w fun e w' => e = .returned (.tuple #[.string ⟨#[]⟩, .int .i64 9]) ∧ w = w' := by
  have h' : (200 : Int) < (body.size : Int) := by omega
  unfold maxLen at hs
  go_enter Tryz.func39, Tryz.ntmps39
  go_wp2
  go_ret2
  exact ⟨rfl, rfl⟩
theorem ref04_seal (body : ByteArray) (h : body.size ≤ 200) (w : World) :
    Calls Tryz.prog 39 #[.string body] w fun e w' => e = .returned (.tuple #[.string (sealB body), .int .i64 0]) ∧ Below w.heap.size w w' := by
  have h' : (body.size : Int) ≤ 200 := by omega
  have hz := longB_size body
  have OF := ref02_fixed body.size 2 (by omega) (by decide) (by decide)
  change ∀ w, Calls _ _ _ _ fun e w' => e = .returned (.string (longB body)) ∧ _ at OF
  obtain ⟨lg, hlg⟩ : ∃ lg, longB body = lg := ⟨_, rfl⟩
  unfold sealB sumB
  rw [hlg] at OF hz ⊢
  have OF := Lib.hid OF
  have hsz : (lg ++ body).size ≤ 300 := by rw [ByteArray.size_append]; omega
  have RS := ref03_sum (lg ++ body) (by unfold maxLen; omega)
  have hml : (Crc.more 0 (bts (lg ++ body))) < 4294967296 := Crc.more_lt _ _
  obtain ⟨m, hm⟩ : ∃ m, Crc.more 0 (bts (lg ++ body)) = m := ⟨_, rfl⟩
  rw [hm] at RS hml ⊢
  have OF2 := Lib.hid (ref02_fixed m 4 (by omega) (by decide) (by decide))
  have RSH := Lib.hid RS
  have HMI := Lib.hid hml
  clear RS
  have hs1 : lg.size + body.size ≤ 9223372036854775807 := by omega
  have hs2 : (⟨#[82]⟩ : ByteArray).size + (lg ++ body).size ≤ 9223372036854775807 := by show 1 + (lg ++ body).size ≤ _; omega
  have hs3 : ((⟨#[82]⟩ : ByteArray) ++ (lg ++ body)).size + (str (Oct.fixB m 4)).size ≤ 9223372036854775807 := by
    rw [str_size, Oct.fixB_length, ByteArray.size_append]; show 1 + (lg ++ body).size + 4 ≤ _; omega
  have hs4 : 1 + (lg.size + body.size) ≤ 9223372036854775807 := by rw [ByteArray.size_append] at hsz; omega
  have hs5 : 1 + (lg.size + body.size) + 4 ≤ 9223372036854775807 := by rw [ByteArray.size_append] at hsz; omega
  clear hlg hm hsz hz hml
  go_enter Tryz.func39, Tryz.ntmps39
  go_wp2_with fail
  refine (OF.out _).mono ?_
  rintro e w1 ⟨rfl, hb1⟩
  have HB1 := Lib.hid hb1
  clear hb1
  go_wp2_with fail
  refine (RSH.out _).mono ?_
  rintro e w2 ⟨rfl, rfl⟩
  have hmI : (m : Int) < 4294967296 := by have := HMI.out; omega
  go_wp2_with fail
  refine (OF2.out _).mono ?_
  rintro e w3 ⟨rfl, hb3⟩
  go_wp2_with fail
  go_ret2
  refine ⟨?_, HB1.out.trans (hb3.mono HB1.out.size)⟩
  rw [← ByteArray.append_assoc]
  rfl

theorem refopen_empty (w : World) : Calls Tryz.prog 43 #[.string ⟨#[]⟩] w fun e w' => e = .returned (.tuple #[.string ⟨#[]⟩, .int .i64 0, .int .i64 3]) ∧ Below w.heap.size w w' := by
  go_enter Tryz.func43, Tryz.ntmps43
  go_wp2_with fail
  go_ret3
  exact ⟨rfl, Below.refl _ _⟩
theorem refopen_form (s : ByteArray) (hs : s.size ≤ maxLen) (h0 : 0 < s.size) (hx : s[0].toNat ≠ 82) (w : World) : Calls Tryz.prog 43 #[.string s] w fun e w' => e = .returned (.tuple #[.string ⟨#[]⟩, .int .i64 0, .int .i64 2]) ∧ Below w.heap.size w w' := by
  have hs63 : s.size ≤ 9223372036854775807 := by unfold maxLen at hs; omega
  have k0 : (0 : Int) < (s.size : Int) := by omega
  have hnz : ¬ s.size = 0 := by omega
  obtain ⟨x, hg⟩ : ∃ x, s[0].toNat = x := ⟨_, rfl⟩
  rw [hg] at hx
  have hx2 : ¬ ((x : Int) = 82) := by omega
  clear hx
  go_enter Tryz.func43, Tryz.ntmps43
  go_wp2_with fail
  go_ret3
  exact ⟨rfl, Below.refl _ _⟩
theorem refopen_short (s : ByteArray) (hs : s.size ≤ maxLen) (h0 : 0 < s.size) (hx : s[0].toNat = 82) (h3 : s.size < 3) (w : World) : Calls Tryz.prog 43 #[.string s] w fun e w' => e = .returned (.tuple #[.string ⟨#[]⟩, .int .i64 0, .int .i64 3]) ∧ Below w.heap.size w w' := by
  have hs63 : s.size ≤ 9223372036854775807 := by unfold maxLen at hs; omega
  have k0 : (0 : Int) < (s.size : Int) := by omega
  have hnz : ¬ s.size = 0 := by omega
  have h3' : (s.size : Int) < 3 := by omega
  go_enter Tryz.func43, Tryz.ntmps43
  go_wp2_with fail
  go_ret3
  exact ⟨rfl, Below.refl _ _⟩
set_option maxRecDepth 100000 in
set_option maxHeartbeats 800000 in
theorem refopen_many (s : ByteArray) (hs : s.size ≤ maxLen) (h3 : 3 ≤ s.size) (hx : s[0].toNat = 82) (n : Nat) (hn : s[1].toNat * 256 + s[2].toNat = n) (h4 : 200 < n) (w : World) : Calls Tryz.prog 43 #[.string s] w fun e w' => e = .returned (.tuple #[.string ⟨#[]⟩, .int .i64 0, .int .i64 9]) ∧ Below w.heap.size w w' := by
  have hs63 : s.size ≤ 9223372036854775807 := by unfold maxLen at hs; omega
  have h0 : 0 < s.size := by omega
  have i1 : 1 < s.size := by omega
  have i2 : 2 < s.size := by omega
  replace hx : (s[0]'h0).toNat = 82 := hx
  have b1 := (s[1]'i1).toNat_lt
  have b2 := (s[2]'i2).toNat_lt
  obtain ⟨x, h1⟩ : ∃ x, (s[1]'i1).toNat = x := ⟨_, rfl⟩
  obtain ⟨y, h2⟩ : ∃ y, (s[2]'i2).toNat = y := ⟨_, rfl⟩
  replace hn : (s[1]'i1).toNat * 256 + (s[2]'i2).toNat = n := hn
  rw [h1] at hn b1
  rw [h2] at hn b2
  have k0 : (0 : Int) < (s.size : Int) := by omega
  have k1 : (1 : Int) < (s.size : Int) := by omega
  have k2 : (2 : Int) < (s.size : Int) := by omega
  have hnz : ¬ s.size = 0 := by omega
  have h3' : (3 : Int) ≤ (s.size : Int) := by omega
  have H3 := Lib.hid h3
  have HN := Lib.hid hn
  have BX := Lib.hid b1
  have BY := Lib.hid b2
  clear hn b1 b2 h3
  go_enter Tryz.func43, Tryz.ntmps43
  go_upto_region 7 with fail
  have b1 := BX.out
  have b2 := BY.out
  have hn := HN.out
  have w1 : IntKind.i64.wrap ((x : Int) * 256) = (x : Int) * 256 := by rw [IntKind.wrap_i64]; omega
  have w2 : IntKind.i64.wrap ((x : Int) * 256 + (y : Int)) = (n : Int) := by rw [IntKind.wrap_i64]; omega
  have w3 : IntKind.i64.wrap (x : Int) = (x : Int) := by rw [IntKind.wrap_i64]; omega
  have w4 : IntKind.i64.wrap (y : Int) = (y : Int) := by rw [IntKind.wrap_i64]; omega
  clear b1 b2 hn
  go_quiet (fail)
  clear w1 w2 w3 w4
  go_wp2_with fail
  go_ret3
  exact ⟨rfl, below_drewN _ _⟩
set_option maxRecDepth 100000 in
set_option maxHeartbeats 800000 in
theorem refopen_cut (s : ByteArray) (hs : s.size ≤ maxLen) (h3 : 3 ≤ s.size) (hx : s[0].toNat = 82) (n : Nat) (hn : s[1].toNat * 256 + s[2].toNat = n) (h4 : n ≤ 200) (h5 : s.size < n + 7) (w : World) : Calls Tryz.prog 43 #[.string s] w fun e w' => e = .returned (.tuple #[.string ⟨#[]⟩, .int .i64 0, .int .i64 3]) ∧ Below w.heap.size w w' := by
  have hs63 : s.size ≤ 9223372036854775807 := by unfold maxLen at hs; omega
  have h0 : 0 < s.size := by omega
  have i1 : 1 < s.size := by omega
  have i2 : 2 < s.size := by omega
  replace hx : (s[0]'h0).toNat = 82 := hx
  have b1 := (s[1]'i1).toNat_lt
  have b2 := (s[2]'i2).toNat_lt
  obtain ⟨x, h1⟩ : ∃ x, (s[1]'i1).toNat = x := ⟨_, rfl⟩
  obtain ⟨y, h2⟩ : ∃ y, (s[2]'i2).toNat = y := ⟨_, rfl⟩
  replace hn : (s[1]'i1).toNat * 256 + (s[2]'i2).toNat = n := hn
  rw [h1] at hn b1
  rw [h2] at hn b2
  have k0 : (0 : Int) < (s.size : Int) := by omega
  have k1 : (1 : Int) < (s.size : Int) := by omega
  have k2 : (2 : Int) < (s.size : Int) := by omega
  have hnz : ¬ s.size = 0 := by omega
  have h3' : (3 : Int) ≤ (s.size : Int) := by omega
  have H3 := Lib.hid h3
  have HN := Lib.hid hn
  have BX := Lib.hid b1
  have BY := Lib.hid b2
  clear hn b1 b2 h3
  go_enter Tryz.func43, Tryz.ntmps43
  go_upto_region 7 with fail
  have b1 := BX.out
  have b2 := BY.out
  have hn := HN.out
  have w1 : IntKind.i64.wrap ((x : Int) * 256) = (x : Int) * 256 := by rw [IntKind.wrap_i64]; omega
  have w2 : IntKind.i64.wrap ((x : Int) * 256 + (y : Int)) = (n : Int) := by rw [IntKind.wrap_i64]; omega
  have w3 : IntKind.i64.wrap (x : Int) = (x : Int) := by rw [IntKind.wrap_i64]; omega
  have w4 : IntKind.i64.wrap (y : Int) = (y : Int) := by rw [IntKind.wrap_i64]; omega
  clear b1 b2 hn
  go_quiet (fail)
  clear w1 w2 w3 w4
  have h6 : (s.size : Int) < (n : Int) + 7 := by omega
  go_wp2_with fail
  go_ret3
  exact ⟨rfl, below_drewN _ _⟩
set_option maxRecDepth 100000 in
set_option maxHeartbeats 800000 in
theorem refopen_whole (s : ByteArray) (hs : s.size ≤ maxLen) (h3 : 3 ≤ s.size) (hx : s[0].toNat = 82) (n : Nat) (hn : s[1].toNat * 256 + s[2].toNat = n) (h4 : n ≤ 200) (h5 : n + 7 ≤ s.size) (hsum : sealB (s.extract 3 (n + 3)) = s.extract 0 (n + 7)) (w : World) : Calls Tryz.prog 43 #[.string s] w fun e w' => e = .returned (.tuple #[.string (s.extract 3 (n + 3)), .int .i64 ((n : Int) + 7), .int .i64 0]) ∧ Below w.heap.size w w' := by
  have hs63 : s.size ≤ 9223372036854775807 := by unfold maxLen at hs; omega
  have h0 : 0 < s.size := by omega
  have i1 : 1 < s.size := by omega
  have i2 : 2 < s.size := by omega
  replace hx : (s[0]'h0).toNat = 82 := hx
  have b1 := (s[1]'i1).toNat_lt
  have b2 := (s[2]'i2).toNat_lt
  obtain ⟨x, h1⟩ : ∃ x, (s[1]'i1).toNat = x := ⟨_, rfl⟩
  obtain ⟨y, h2⟩ : ∃ y, (s[2]'i2).toNat = y := ⟨_, rfl⟩
  replace hn : (s[1]'i1).toNat * 256 + (s[2]'i2).toNat = n := hn
  rw [h1] at hn b1
  rw [h2] at hn b2
  have k0 : (0 : Int) < (s.size : Int) := by omega
  have k1 : (1 : Int) < (s.size : Int) := by omega
  have k2 : (2 : Int) < (s.size : Int) := by omega
  have hnz : ¬ s.size = 0 := by omega
  have h3' : (3 : Int) ≤ (s.size : Int) := by omega
  have H3 := Lib.hid h3
  have HN := Lib.hid hn
  have BX := Lib.hid b1
  have BY := Lib.hid b2
  clear hn b1 b2 h3
  go_enter Tryz.func43, Tryz.ntmps43
  go_upto_region 7 with fail
  have b1 := BX.out
  have b2 := BY.out
  have hn := HN.out
  have w1 : IntKind.i64.wrap ((x : Int) * 256) = (x : Int) * 256 := by rw [IntKind.wrap_i64]; omega
  have w2 : IntKind.i64.wrap ((x : Int) * 256 + (y : Int)) = (n : Int) := by rw [IntKind.wrap_i64]; omega
  have w3 : IntKind.i64.wrap (x : Int) = (x : Int) := by rw [IntKind.wrap_i64]; omega
  have w4 : IntKind.i64.wrap (y : Int) = (y : Int) := by rw [IntKind.wrap_i64]; omega
  clear b1 b2 hn
  go_quiet (fail)
  clear w1 w2 w3 w4
  have SL := Lib.hid (ref04_seal (s.extract 3 (n + 3)) (by rw [ByteArray.size_extract]; omega))
  have h6 : (n : Int) + 7 ≤ (s.size : Int) := by omega
  have h7 : (n : Int) + 3 ≤ (s.size : Int) := by omega
  have h8 : (3 : Int) ≤ (n : Int) + 3 := by omega
  have h9 : (0 : Int) ≤ (n : Int) + 7 := by omega
  have hq : ((sealB (s.extract 3 (n + 3))).toList == (s.extract 0 (n + 7)).toList) = true := by rw [hsum]; simp
  clear hsum
  go_wp2_with fail
  refine (SL.out _).mono ?_
  rintro e w1 ⟨rfl, hb1⟩
  have HB := Lib.hid ((below_drewN w _).trans hb1)
  clear hb1
  go_wp2_with fail
  go_ret3
  exact ⟨rfl, HB.out⟩
set_option maxRecDepth 100000 in
set_option maxHeartbeats 800000 in
theorem refopen_sum (s : ByteArray) (hs : s.size ≤ maxLen) (h3 : 3 ≤ s.size) (hx : s[0].toNat = 82) (n : Nat) (hn : s[1].toNat * 256 + s[2].toNat = n) (h4 : n ≤ 200) (h5 : n + 7 ≤ s.size) (hsum : sealB (s.extract 3 (n + 3)) ≠ s.extract 0 (n + 7)) (w : World) : Calls Tryz.prog 43 #[.string s] w fun e w' => e = .returned (.tuple #[.string ⟨#[]⟩, .int .i64 0, .int .i64 4]) ∧ Below w.heap.size w w' := by
  have hs63 : s.size ≤ 9223372036854775807 := by unfold maxLen at hs; omega
  have h0 : 0 < s.size := by omega
  have i1 : 1 < s.size := by omega
  have i2 : 2 < s.size := by omega
  replace hx : (s[0]'h0).toNat = 82 := hx
  have b1 := (s[1]'i1).toNat_lt
  have b2 := (s[2]'i2).toNat_lt
  obtain ⟨x, h1⟩ : ∃ x, (s[1]'i1).toNat = x := ⟨_, rfl⟩
  obtain ⟨y, h2⟩ : ∃ y, (s[2]'i2).toNat = y := ⟨_, rfl⟩
  replace hn : (s[1]'i1).toNat * 256 + (s[2]'i2).toNat = n := hn
  rw [h1] at hn b1
  rw [h2] at hn b2
  have k0 : (0 : Int) < (s.size : Int) := by omega
  have k1 : (1 : Int) < (s.size : Int) := by omega
  have k2 : (2 : Int) < (s.size : Int) := by omega
  have hnz : ¬ s.size = 0 := by omega
  have h3' : (3 : Int) ≤ (s.size : Int) := by omega
  have H3 := Lib.hid h3
  have HN := Lib.hid hn
  have BX := Lib.hid b1
  have BY := Lib.hid b2
  clear hn b1 b2 h3
  go_enter Tryz.func43, Tryz.ntmps43
  go_upto_region 7 with fail
  have b1 := BX.out
  have b2 := BY.out
  have hn := HN.out
  have w1 : IntKind.i64.wrap ((x : Int) * 256) = (x : Int) * 256 := by rw [IntKind.wrap_i64]; omega
  have w2 : IntKind.i64.wrap ((x : Int) * 256 + (y : Int)) = (n : Int) := by rw [IntKind.wrap_i64]; omega
  have w3 : IntKind.i64.wrap (x : Int) = (x : Int) := by rw [IntKind.wrap_i64]; omega
  have w4 : IntKind.i64.wrap (y : Int) = (y : Int) := by rw [IntKind.wrap_i64]; omega
  clear b1 b2 hn
  go_quiet (fail)
  clear w1 w2 w3 w4
  have SL := Lib.hid (ref04_seal (s.extract 3 (n + 3)) (by rw [ByteArray.size_extract]; omega))
  have h6 : (n : Int) + 7 ≤ (s.size : Int) := by omega
  have h7 : (n : Int) + 3 ≤ (s.size : Int) := by omega
  have h8 : (3 : Int) ≤ (n : Int) + 3 := by omega
  have h9 : (0 : Int) ≤ (n : Int) + 7 := by omega
  have hq : ((sealB (s.extract 3 (n + 3))).toList == (s.extract 0 (n + 7)).toList) = false := tl_ne' hsum
  clear hsum
  go_wp2_with fail
  refine (SL.out _).mono ?_
  rintro e w1 ⟨rfl, hb1⟩
  have HB := Lib.hid ((below_drewN w _).trans hb1)
  clear hb1
  go_wp2_with fail
  go_ret3
  exact ⟨rfl, HB.out⟩

theorem ref04_open (s : ByteArray) (hs : s.size ≤ maxLen) (w : World) : Calls Tryz.prog 43 #[.string s] w fun e w' => e = .returned (.tuple #[.string (openF s).1, .int .i64 (openF s).2.1, .int .i64 (openF s).2.2]) ∧ Below w.heap.size w w' := by
  unfold openF
  by_cases h1 : s.size = 0
  · rw [if_pos h1]
    have e : s = ⟨#[]⟩ := ByteArray.ext (Array.eq_empty_of_size_eq_zero h1)
    subst e
    refine (refopen_empty w).mono ?_
    rintro e w' ⟨rfl, hb⟩
    exact ⟨rfl, hb⟩
  rw [if_neg h1]
  have hp := prefix_eq s (by omega)
  by_cases h2 : Lib.hasPrefix s.data.toList [82] = false
  · rw [if_pos h2]
    rw [hp] at h2
    refine (refopen_form s hs (by omega) (by simpa using h2) w).mono ?_
    rintro e w' ⟨rfl, hb⟩
    exact ⟨rfl, hb⟩
  rw [if_neg h2]
  have h2 : Lib.hasPrefix s.data.toList [82] = true := by simpa using h2
  have hx : s[0].toNat = 82 := by rw [h2] at hp; simpa using hp.symm
  by_cases h3 : s.size < 3
  · rw [if_pos h3]
    refine (refopen_short s hs (by omega) hx h3 w).mono ?_
    rintro e w' ⟨rfl, hb⟩
    exact ⟨rfl, hb⟩
  rw [if_neg h3]
  have hn := (openN_eq s (by omega)).symm
  by_cases h4 : 200 < openN s
  · rw [if_pos h4]
    refine (refopen_many s hs (by omega) hx (openN s) hn h4 w).mono ?_
    rintro e w' ⟨rfl, hb⟩
    exact ⟨rfl, hb⟩
  rw [if_neg h4]
  by_cases h5 : s.size < openN s + 7
  · rw [if_pos h5]
    refine (refopen_cut s hs (by omega) hx (openN s) hn (by omega) h5 w).mono ?_
    rintro e w' ⟨rfl, hb⟩
    exact ⟨rfl, hb⟩
  rw [if_neg h5]
  have hse := seal_eq s h2 (by omega) (by omega)
  by_cases h6 : s.extract (openN s + 3) (openN s + 7) = sumB (s.extract 1 (openN s + 3))
  · rw [if_pos h6]
    refine (refopen_whole s hs (by omega) hx (openN s) hn (by omega) (by omega) (hse.2 h6) w).mono ?_
    rintro e w' ⟨rfl, hb⟩
    exact ⟨rfl, hb⟩
  · rw [if_neg h6]
    refine (refopen_sum s hs (by omega) hx (openN s) hn (by omega) (by omega) (fun h => h6 (hse.1 h)) w).mono ?_
    rintro e w' ⟨rfl, hb⟩
    exact ⟨rfl, hb⟩
end Go.Proofs.YtokghlmffkboiaaGreat
