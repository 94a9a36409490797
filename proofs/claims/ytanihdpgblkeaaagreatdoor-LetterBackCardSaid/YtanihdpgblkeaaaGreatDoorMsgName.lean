/-
  Places and their names (reeve's layer 35): the program's walks.
-/
import Derived.Test.YtanihdpgblkeaaaGreatDoorMsgMath
import Derived.Test.YtanihdpgblkeaaaGreatDoorDecAll
import Derived.Maps.RangeWalk
import Derived.Maps.Views
import Derived.Sort.KeysCollected
namespace Go.Proofs.YtanihdpgblkeaaaGreatDoor
open Go.RowKit
set_option linter.unusedVariables false
set_option linter.unusedSimpArgs false

theorem msg_place (n : Int) (w : World) : Calls Tryz.prog 68 #[.int .i64 n] w fun e w' => e = .returned (.int .i64 (placeI n)) ∧ w = w' := by
  have R1 := fun w => num_right n 0 4 w
  have R2 := fun w => num_right n 100 115 w
  have h1 : inR n 0 4 = decide (0 ≤ n ∧ n ≤ 4) := by unfold inR; simp
  have h2 : inR n 100 115 = decide (100 ≤ n ∧ n ≤ 115) := by unfold inR; simp
  rw [h1] at R1
  rw [h2] at R2
  rcases place_cases n with ⟨e, h⟩ | ⟨e, h⟩ | ⟨e, h⟩ | ⟨e, h, h', h''⟩
  · rw [e]
    rw [decide_eq_true h] at R1
    have R1 := Lib.hid R1
    clear R2 h1 h2 e h
    go_enter Tryz.func68, Tryz.ntmps68
    go_wp2_with fail
    refine (R1.out _).mono ?_
    rintro e w2 ⟨rfl, rfl⟩
    go_wp2_with fail
    go_ret
    exact ⟨rfl, rfl⟩
  · rw [e]
    rw [decide_eq_false (by omega)] at R1
    rw [decide_eq_true h] at R2
    have R1 := Lib.hid R1
    have R2 := Lib.hid R2
    clear h1 h2 e h
    go_enter Tryz.func68, Tryz.ntmps68
    go_wp2_with fail
    refine (R1.out _).mono ?_
    rintro e w2 ⟨rfl, rfl⟩
    go_wp2_with fail
    refine (R2.out _).mono ?_
    rintro e w2 ⟨rfl, rfl⟩
    go_wp2_with fail
    go_ret
    exact ⟨rfl, rfl⟩
  · rw [e]
    rw [decide_eq_false (by omega)] at R1
    rw [decide_eq_false (by omega)] at R2
    subst h
    have R1 := Lib.hid R1
    have R2 := Lib.hid R2
    clear h1 h2 e
    go_enter Tryz.func68, Tryz.ntmps68
    go_wp2_with fail
    refine (R1.out _).mono ?_
    rintro e w2 ⟨rfl, rfl⟩
    go_wp2_with fail
    refine (R2.out _).mono ?_
    rintro e w2 ⟨rfl, rfl⟩
    go_wp2_with fail
    go_ret
    exact ⟨rfl, rfl⟩
  · rw [e]
    rw [decide_eq_false h] at R1
    rw [decide_eq_false h'] at R2
    have R1 := Lib.hid R1
    have R2 := Lib.hid R2
    have hne : (n == 200) = false := by rw [beq_eq_false_iff_ne]; exact h''
    clear h1 h2 e h h' h''
    go_enter Tryz.func68, Tryz.ntmps68
    go_wp2_with fail
    refine (R1.out _).mono ?_
    rintro e w2 ⟨rfl, rfl⟩
    go_wp2_with fail
    refine (R2.out _).mono ?_
    rintro e w2 ⟨rfl, rfl⟩
    go_wp2_with fail
    go_ret
    exact ⟨rfl, rfl⟩
theorem nameM_one {n : Int} (h : placeI n = 1) : nameM n = 114 :: Lib.itoa n := by unfold nameM; rw [if_pos h]
theorem nameM_two {n : Int} (h : placeI n = 2) : nameM n = 119 :: Lib.itoa (n - 100) := by unfold nameM; rw [h]; rfl
theorem nameM_three {n : Int} (h : placeI n = 3) : nameM n = [99] := by unfold nameM; rw [h]; rfl
theorem nameM_zero {n : Int} (h : placeI n = 0) : nameM n = [] := by unfold nameM; rw [h]; rfl
theorem msg_name (n : Int) (w : World) (hl : Laid w) : Calls Tryz.prog 34 #[.int .i64 n] w fun e w' => e = .returned (.string (strL (nameM n))) ∧ Below w.heap.size w w' := by
  have PL := fun w => msg_place n w
  rcases place_cases n with ⟨e, h⟩ | ⟨e, h⟩ | ⟨e, h⟩ | ⟨e, h, h', h''⟩
  · rw [e] at PL
    have DT := fun w h => dec_text n (by unfold inI; omega) w h
    have hnm : (⟨#[114]⟩ : ByteArray) ++ strL (Lib.itoa n) = strL (nameM n) := by rw [nameM_one e, show (114 : UInt8) :: Lib.itoa n = [114] ++ Lib.itoa n from rfl, strL_app]; rfl
    have hsz : (⟨#[114]⟩ : ByteArray).size + (strL (Lib.itoa n)).size ≤ 9223372036854775807 := by have := itoa_len n (by unfold inI; omega); rw [strL_size]; show 1 + _ ≤ _; omega
    generalize strL (Lib.itoa n) = S at DT hnm hsz
    have HN := Lib.hid hnm
    have PL := Lib.hid PL
    have DT := Lib.hid DT
    have HL := Lib.hid hl
    clear hnm hl e h
    go_enter Tryz.func34, Tryz.ntmps34
    go_wp2_with fail
    refine (PL.out _).mono ?_
    rintro e w2 ⟨rfl, rfl⟩
    go_wp2_with fail
    refine (DT.out _ HL.out).mono ?_
    rintro e w2 ⟨rfl, hb2⟩
    have HB := Lib.hid hb2
    clear hb2
    go_wp2_with fail
    go_ret
    exact ⟨by rw [← HN.out]; rfl, HB.out⟩
  · rw [e] at PL
    have DT := fun w h => dec_text (n - 100) (by unfold inI; omega) w h
    have hnm : (⟨#[119]⟩ : ByteArray) ++ strL (Lib.itoa (n - 100)) = strL (nameM n) := by rw [nameM_two e, show (119 : UInt8) :: Lib.itoa (n - 100) = [119] ++ Lib.itoa (n - 100) from rfl, strL_app]; rfl
    have hsz : (⟨#[119]⟩ : ByteArray).size + (strL (Lib.itoa (n - 100))).size ≤ 9223372036854775807 := by have := itoa_len (n - 100) (by unfold inI; omega); rw [strL_size]; show 1 + _ ≤ _; omega
    have hw : IntKind.i64.wrap (n - 100) = n - 100 := by rw [IntKind.wrap_i64]; omega
    generalize strL (Lib.itoa (n - 100)) = S at DT hnm hsz
    have HN := Lib.hid hnm
    have PL := Lib.hid PL
    have DT := Lib.hid DT
    have HL := Lib.hid hl
    clear hnm hl e h
    go_enter Tryz.func34, Tryz.ntmps34
    go_wp2_with fail
    refine (PL.out _).mono ?_
    rintro e w2 ⟨rfl, rfl⟩
    go_wp2_with fail
    refine (DT.out _ HL.out).mono ?_
    rintro e w2 ⟨rfl, hb2⟩
    have HB := Lib.hid hb2
    clear hb2
    go_wp2_with fail
    go_ret
    exact ⟨by rw [← HN.out]; rfl, HB.out⟩
  · rw [e] at PL
    rw [nameM_three e]
    have PL := Lib.hid PL
    clear hl e h
    go_enter Tryz.func34, Tryz.ntmps34
    go_wp2_with fail
    refine (PL.out _).mono ?_
    rintro e w2 ⟨rfl, rfl⟩
    go_wp2_with fail
    go_ret
    exact ⟨rfl, Below.refl _ _⟩
  · rw [e] at PL
    rw [nameM_zero e]
    have PL := Lib.hid PL
    clear hl e h h' h''
    go_enter Tryz.func34, Tryz.ntmps34
    go_wp2_with fail
    refine (PL.out _).mono ?_
    rintro e w2 ⟨rfl, rfl⟩
    go_wp2_with fail
    go_ret
    exact ⟨rfl, Below.refl _ _⟩

/-! ### The place of a name -/
theorem parseN_at {s : List UInt8} {n : Int} (hs : s ≠ []) (h : nameM n = s) : parseN s = (n, true) := by
  have hp : 0 < placeI n := by
    rcases place_cases n with h1 | h1 | h1 | ⟨e, _⟩
    · omega
    · omega
    · omega
    · exact absurd (h.symm.trans (nameM_zero e)) hs
  rw [← h]; exact parseN_name n hp
/-- The two letters, and where their places begin. -/
def LF (c : UInt8) (f : Int) : Prop := (c = 114 ∧ f = 0) ∨ (c = 119 ∧ f = 100)
theorem no_name {s : List UInt8} (hc : s ≠ [99]) (h : ∀ c f, LF c f → ∀ n : Int, 0 ≤ n → n < 100 → Lib.hasPrefix s [c] = true → decR (Lib.trimPrefix s [c]) = (n, 0) → nameM (f + n) ≠ s) : parseN s = (0, false) := by
  refine parseN_none s (fun n hn e => ?_)
  rcases place_cases n with ⟨e1, h1⟩ | ⟨e1, h1⟩ | ⟨e1, h1⟩ | ⟨e1, _⟩
  · have hs : s = 114 :: Lib.itoa n := by rw [← e, nameM_one e1]
    refine h 114 0 (.inl ⟨rfl, rfl⟩) n (by omega) (by omega) (by rw [hs]; simp [Lib.hasPrefix]) ?_ (by rw [Int.zero_add]; exact e)
    have : Lib.trimPrefix s [114] = Lib.itoa n := by rw [hs]; simp [Lib.trimPrefix, Lib.hasPrefix]
    rw [this]; exact decR_text (by unfold inI; omega) rfl
  · have hs : s = 119 :: Lib.itoa (n - 100) := by rw [← e, nameM_two e1]
    refine h 119 100 (.inr ⟨rfl, rfl⟩) (n - 100) (by omega) (by omega) (by rw [hs]; simp [Lib.hasPrefix]) ?_ (by rw [show 100 + (n - 100) = n by omega]; exact e)
    have : Lib.trimPrefix s [119] = Lib.itoa (n - 100) := by rw [hs]; simp [Lib.trimPrefix, Lib.hasPrefix]
    rw [this]; exact decR_text (by unfold inI; omega) rfl
  · exact hc (by rw [← e, nameM_three e1])
  · omega
theorem law_str : Go.Maps.Keyed Tryz.prog 9 := Go.Maps.string_keyed Tryz.underlying9
/-- The two letters, as the map holds them. -/
def twoD : DataW Unit := ((DataW.map []).put (.string [114]) (.lit (.int .i64 0))).put (.string [119]) (.lit (.int .i64 100))
theorem twoD_has {x : List UInt8} (h : Go.Maps.has twoD (.string x) = true) : x = [114] ∨ x = [119] := by
  have : Go.Maps.has twoD (.string x) = ((Lit.string [114]).sameKey (.string x) || ((Lit.string [119]).sameKey (.string x) || false)) := rfl
  rw [this] at h
  simp [Lit.sameKey] at h
  rcases h with h | h
  · exact .inl h.symm
  · exact .inr h.symm
theorem twoD_r (z : DataW Unit) : twoD.atKey (.string [114]) z = .lit (.int .i64 0) := rfl
theorem twoD_w (z : DataW Unit) : twoD.atKey (.string [119]) z = .lit (.int .i64 100) := rfl
/-- What a letter's entry is a name of: none, or the one that was found. -/
def missR (s : List UInt8) (c : UInt8) (f : Int) : Prop := ∀ n : Int, 0 ≤ n → n < 100 → Lib.hasPrefix s [c] = true → decR (Lib.trimPrefix s [c]) = (n, 0) → nameM (f + n) ≠ s
theorem miss_step {s : List UInt8} {left : Lit → Bool} {ch : UInt8} {f : Int} (h : ∀ c f, LF c f → left (.string [c]) = false → missR s c f) (hlf : LF ch f) (hm : missR s ch f) : ∀ c f', LF c f' → (left (.string [c]) && !(Lit.string [c]).sameKey (.string [ch])) = false → missR s c f' := by
  intro c f' h1 h2
  rw [Bool.and_eq_false_iff] at h2
  rcases h2 with h2 | h2
  · exact h c f' h1 h2
  · have e : c = ch := by simp [Lit.sameKey] at h2; exact h2
    subst e
    have : f' = f := by
      rcases h1 with ⟨a, b⟩ | ⟨a, b⟩ <;> rcases hlf with ⟨a', b'⟩ | ⟨a', b'⟩
      · omega
      · rw [a] at a'; exact absurd a' (by decide)
      · rw [a] at a'; exact absurd a' (by decide)
      · omega
    rw [this]; exact hm
theorem grown_none {w w' : World} (hb : Below w.heap.size w w') : w.grownBy w' none := ⟨hb.os, hb.tape, hb.output, hb.size, fun k hk _ => hb.block k hk⟩
set_option maxRecDepth 100000 in
set_option maxHeartbeats 1600000 in
theorem msg_parseName (s : ByteArray) (hs : s.size ≤ 100000) (w : World) (hl : Laid w) : Calls Tryz.prog 43 #[.string s] w fun e w' => e = .returned (.tuple #[.int .i64 (parseN s.data.toList).1, .bool (parseN s.data.toList).2]) ∧ Below w.heap.size w w' := by
  by_cases hc : s.data.toList = [99]
  · have e : s = ⟨#[99]⟩ := by rw [← strL_of s, hc]; rfl
    have hp : parseN s.data.toList = (200, true) := by rw [hc]; exact parseN_at (n := 200) (by simp) rfl
    rw [hp]
    subst e
    clear hc hp
    go_enter Tryz.func43, Tryz.ntmps43
    go_wp2_with fail
    go_ret2
    exact ⟨rfl, Below.refl _ _⟩
  obtain ⟨RN, hRN⟩ : ∃ R, parseN s.data.toList = R := ⟨_, rfl⟩
  obtain ⟨R1, R2⟩ := RN
  rw [hRN]
  have hne : (s.toList == [99]) = false := by rw [beq_eq_false_iff_ne, ByteArray.toList_eq]; exact hc
  have HC := Lib.hid hc
  have HR := Lib.hid hRN
  have HL := Lib.hid hl
  have hmm := @run_makeMap Tryz.prog
  obtain ⟨w1, hrun1, hown1, hg1⟩ := (World.ownsMap_made w Tryz.prog 9 (plainElem (H := Unit) Tryz.prog 3)).update (t := 104) law_str Tryz.underlying104 (by decide) (key := .string ⟨#[114]⟩) (val := .int .i64 0) (kl := .string [114]) (by kernel_rfl) (plainElem_int Tryz.underlying3 (by decide))
  obtain ⟨w2, hrun2, hown2, hg2⟩ := hown1.update (t := 104) law_str Tryz.underlying104 (by decide) (key := .string ⟨#[119]⟩) (val := .int .i64 100) (kl := .string [119]) (by kernel_rfl) (plainElem_int Tryz.underlying3 (by decide))
  have hown2 : w2.ownsMap Tryz.prog 9 (plainElem Tryz.prog 3) w.heap.size 2 twoD := hown2
  have hb2 : Below w.heap.size w w2 := (((Below.refl _ _).alloc (Nat.le_refl _) _).grown hg1 (by simp) (fun j hj => by cases hj; exact Nat.le_refl _)).grown hg2 (by have := hg1.size; simp at this; omega) (fun j hj => by cases hj; exact Nat.le_refl _)
  have HB2 := Lib.hid hb2
  have HOW := Lib.hid hown2
  clear hRN hl hg1 hg2 hown1 hb2 hc hown2
  go_enter Tryz.func43, Tryz.ntmps43
  go_wp2_with (at_range; refine wpList_range_own _ rfl _ 104 rfl 9 3 law_str Tryz.underlying104 _ w.heap.size 2 twoD rfl HOW.out ?_; intro w0 hrg0 hg0 hs0)
  skip
  go_frame
  go_loopw [4] (fun _ wr => ∃ (left : Lit → Bool) (cnt : Nat), wr.ranges Tryz.prog 9 (plainElem Tryz.prog 3) w.heap.size w2.heap.size 2 twoD left cnt ∧ Hid (Below w.heap.size w wr) ∧ Hid (∀ kl, left kl = true → Go.Maps.has twoD kl = true) ∧ Hid (∀ c f, LF c f → left (.string [c]) = false → missR s.data.toList c f)) (fun _ wr => wr.rangeLeft w.heap.size w2.heap.size)
  case atStart => exact ⟨_, _, hrg0, Lib.hid (HB2.out.grown hg0 HB2.out.size (fun j hj => by cases hj)), Lib.hid (fun kl h => h), Lib.hid (fun c f h h2 => by
    rcases h with ⟨rfl, rfl⟩ | ⟨rfl, rfl⟩
    · cases h2
    · cases h2)⟩
  case round =>
    obtain ⟨left, cnt, hrg, HB, HH, HM⟩ := hrel
    clear hrg0 hg0 hs0 HOW hmm hrun1 hrun2
    go_wp2_with (at_next; refine wpList_next_ranges _ rfl _ rfl 9 law_str (plainElem Tryz.prog 3) encStr (Value.int .i64) (fun key kl hk => by obtain ⟨x, hx, _⟩ := Maps.keyOf_str Tryz.underlying9 hk; exact ⟨x, hx⟩) (fun v y hv => by obtain ⟨c, rfl, _⟩ := plainElem_int_inv Tryz.underlying3 hv; exact ⟨c, rfl⟩) w.heap.size w2.heap.size 2 _ _ _ rfl hrg ?_ ?_)
    · intro hc0 hl0
      have HF : Hid ((R1, R2) = (0, false)) := Lib.hid (by rw [← HR.out]; exact no_name HC.out (fun c f h => HM.out c f h (hl0 _)))
      clear hc0 hl0 hrg
      go_wp2_with fail
      go_ret2
      exact ⟨by rw [(Prod.mk.inj HF.out).1, (Prod.mk.inj HF.out).2]; rfl, HB.out⟩
    · intro x c kl yd yp w3 cnt2 hkey hlk hv hat hrg2 hlt hg2 hs2 hen
      obtain ⟨x', ex, rfl, _⟩ := Maps.keyOf_str Tryz.underlying9 hkey
      obtain rfl : x = x' := encStr_inj ex
      have hyd : yd = .lit (.int .i64 c) := by
        obtain ⟨c', ec, hc', _⟩ := plainElem_int_inv Tryz.underlying3 hv
        cases ec
        exact (Prod.mk.inj hc').1
      obtain ⟨ch, rfl, hlf⟩ : ∃ ch, x = [ch] ∧ LF ch c := by
        have h1 := hat (.lit (.bool true))
        rw [hyd] at h1
        rcases twoD_has (HH.out _ hlk) with rfl | rfl
        · refine ⟨114, rfl, .inl ⟨rfl, ?_⟩⟩
          rw [twoD_r] at h1
          injection h1 with h1; injection h1 with _ h1; exact h1.symm
        · refine ⟨119, rfl, .inr ⟨rfl, ?_⟩⟩
          rw [twoD_w] at h1
          injection h1 with h1; injection h1 with _ h1; exact h1.symm
      have hen2 : (Instr.entry (.pointer (some ⟨w2.heap.size, 0, none⟩))).run Tryz.prog w3 = .ok (.tuple #[.string ⟨#[ch]⟩, .int .i64 c]) w3 := hen
      have hcb : 0 ≤ c ∧ c ≤ 100 := by rcases hlf with ⟨_, h⟩ | ⟨_, h⟩ <;> omega
      have HLF := Lib.hid hlf
      have HB3 := Lib.hid (HB.out.grown hg2 HB.out.size (fun j hj => by cases hj; exact HB2.out.size))
      have HRG3 := Lib.hid hrg2
      have HLT := Lib.hid hlt
      have CP := Lib.hid (Tryz.strings_CutPrefix s ⟨#[ch]⟩)
      have DP := fun w h => dec_parse (strL (Lib.trimPrefix s.data.toList [ch])) (by rw [strL_size]; have := Lib.trimPrefix_le s.data.toList [ch]; rw [Lib.size_eq] at hs; omega) w h
      rw [strL_list] at DP
      obtain ⟨PV, hPV⟩ : ∃ P, decR (Lib.trimPrefix s.data.toList [ch]) = P := ⟨_, rfl⟩
      obtain ⟨m, er⟩ := PV
      rw [hPV] at DP
      simp only at DP
      have hlist : (⟨#[ch]⟩ : ByteArray).data.toList = [ch] := rfl
      obtain ⟨is, his⟩ : ∃ b, Lib.hasPrefix s.data.toList [ch] = b := ⟨_, rfl⟩
      have CP2 : Hid (∀ w, Calls Tryz.prog 80 #[.string s, .string ⟨#[ch]⟩] w fun e w' => e = .returned (.tuple #[.string (strL (Lib.trimPrefix s.data.toList [ch])), .bool is]) ∧ w' = w) := Lib.hid (fun w => by
        have h := CP.out w
        rw [hlist, his] at h
        exact h)
      generalize strL (Lib.trimPrefix s.data.toList [ch]) = TP at DP CP2
      have DPH := Lib.hid DP
      have HPV := Lib.hid hPV
      have HIS := Lib.hid his
      clear hkey hlk hv hat hrg2 hlt hg2 hs2 hen hyd hlf CP DP hPV hlist his ex
      go_wp2_with fail
      refine (CP2.out _).mono ?_
      rintro e w' ⟨rfl, rfl⟩
      clear hen2 CP2
      go_wp2_with fail
      refine (DPH.out _ (HL.out.below HB3.out)).mono ?_
      rintro e w4 ⟨rfl, hb4⟩
      have HRG4 := Lib.hid (HRG3.out.kept (grown_none hb4) (by simp) (by simp))
      have HB4 := Lib.hid (HB3.out.trans (hb4.mono HB3.out.size))
      clear hb4 DPH HRG3 HB3
      cases is with
      | false =>
        have HMI : Hid (missR s.data.toList ch c) := Lib.hid (fun n _ _ hp => by rw [HIS.out] at hp; cases hp)
        go_wp2_with fail
        go_roundw
        case rel => exact ⟨_, _, HRG4.out, HB4, Lib.hid (fun kl h => HH.out kl (by rw [Bool.and_eq_true] at h; exact h.1)), Lib.hid (miss_step HM.out HLF.out HMI.out)⟩
        case measure => rw [HRG4.out.left_eq, hrg.left_eq]; exact HLT.out
      | true =>
      by_cases he : er = 0
      case neg =>
        have hne2 : (er == 0) = false := by rw [beq_eq_false_iff_ne]; exact he
        have HMI : Hid (missR s.data.toList ch c) := Lib.hid (fun n _ _ _ hd => by rw [HPV.out] at hd; exact absurd (Prod.mk.inj hd).2 he)
        clear he
        go_wp2_with fail
        go_roundw
        case rel => exact ⟨_, _, HRG4.out, HB4, Lib.hid (fun kl h => HH.out kl (by rw [Bool.and_eq_true] at h; exact h.1)), Lib.hid (miss_step HM.out HLF.out HMI.out)⟩
        case measure => rw [HRG4.out.left_eq, hrg.left_eq]; exact HLT.out
      subst he
      by_cases hm0 : m < 0
      · have HMI : Hid (missR s.data.toList ch c) := Lib.hid (fun n h1 h2 _ hd => by rw [HPV.out] at hd; have := (Prod.mk.inj hd).1; omega)
        go_wp2_with fail
        go_roundw
        case rel => exact ⟨_, _, HRG4.out, HB4, Lib.hid (fun kl h => HH.out kl (by rw [Bool.and_eq_true] at h; exact h.1)), Lib.hid (miss_step HM.out HLF.out HMI.out)⟩
        case measure => rw [HRG4.out.left_eq, hrg.left_eq]; exact HLT.out
      have hm0' : 0 ≤ m := by omega
      by_cases hm1 : m < 100
      case neg =>
        have HMI : Hid (missR s.data.toList ch c) := Lib.hid (fun n h1 h2 _ hd => by rw [HPV.out] at hd; have := (Prod.mk.inj hd).1; omega)
        have hm1' : 100 ≤ m := by omega
        clear hm1
        go_wp2_with fail
        go_roundw
        case rel => exact ⟨_, _, HRG4.out, HB4, Lib.hid (fun kl h => HH.out kl (by rw [Bool.and_eq_true] at h; exact h.1)), Lib.hid (miss_step HM.out HLF.out HMI.out)⟩
        case measure => rw [HRG4.out.left_eq, hrg.left_eq]; exact HLT.out
      have NM := fun w h => msg_name (c + m) w h
      obtain ⟨q, hq⟩ : ∃ q, nameM (c + m) = q := ⟨_, rfl⟩
      rw [hq] at NM
      have HQ := Lib.hid hq
      obtain ⟨cm, hcm⟩ : ∃ x, c + m = x := ⟨_, rfl⟩
      rw [hcm] at NM
      have hw : IntKind.i64.wrap (c + m) = cm := by rw [IntKind.wrap_i64, ← hcm]; omega
      have HCM := Lib.hid hcm
      obtain ⟨QS, hQS⟩ : ∃ x, strL q = x := ⟨_, rfl⟩
      have HQS := Lib.hid hQS
      rw [hQS] at NM
      have NMH := Lib.hid NM
      clear NM hq hcm hQS hcb hm0
      go_wp2_with fail
      refine (NMH.out _ (HL.out.below HB4.out)).mono ?_
      rintro e w5 ⟨rfl, hb5⟩
      have HRG5 := Lib.hid (HRG4.out.kept (grown_none hb5) (by simp) (by simp))
      have HB5 := Lib.hid (HB4.out.trans (hb5.mono HB4.out.size))
      clear hb5 NMH HRG4 HB4
      by_cases hqs : QS = s
      · have hqe : (QS.toList == s.toList) = true := by rw [hqs]; simp
        have HF : Hid ((R1, R2) = (cm, true)) := Lib.hid (by
          rw [← HR.out, ← HCM.out]
          refine parseN_at ?_ ?_
          · intro e
            have := HIS.out
            rw [e] at this
            cases this
          · rw [HQ.out, ← hqs, ← HQS.out]; rfl)
        clear hqs
        go_wp2_with fail
        go_ret2
        exact ⟨by rw [(Prod.mk.inj HF.out).1, (Prod.mk.inj HF.out).2]; rfl, HB5.out⟩
      · have hqe : (QS.toList == s.toList) = false := by
          rw [beq_eq_false_iff_ne, ByteArray.toList_eq, ByteArray.toList_eq]
          intro e
          apply hqs
          rw [← strL_of QS, ← strL_of s, e]
        have HMI : Hid (missR s.data.toList ch c) := Lib.hid (fun n h1 h2 _ hd hn => by
          rw [HPV.out] at hd
          have e := (Prod.mk.inj hd).1
          subst e
          apply hqs
          rw [← HQS.out, ← HQ.out, hn, strL_of])
        clear hqs
        go_wp2_with fail
        go_roundw
        case rel => exact ⟨_, _, HRG5.out, HB5, Lib.hid (fun kl h => HH.out kl (by rw [Bool.and_eq_true] at h; exact h.1)), Lib.hid (miss_step HM.out HLF.out HMI.out)⟩
        case measure => rw [HRG5.out.left_eq, hrg.left_eq]; exact HLT.out
end Go.Proofs.YtanihdpgblkeaaaGreatDoor
