/-
  What package frame computes (reeve's layer 4), as contracts: Seal, and what stands below it.
-/
import Derived.Test.YtokghlmffkboiaaGreatCrc
import Derived.Test.YtokghlmffkboiaaGreatCursorFixed
import Derived.Test.YtokghlmffkboiaaGreatShelf
namespace Go.Proofs.YtokghlmffkboiaaGreat
open Go.RowKit
set_option linter.unusedVariables false
set_option linter.unusedSimpArgs false

theorem join_nil (xs : List (List UInt8)) : Lib.join xs [] = xs.flatten := by
  induction xs with
  | nil => rfl
  | cons x t ih =>
    cases t with
    | nil => simp [Lib.join]
    | cons y t => simp [Lib.join] at ih ⊢; simp [ih]

/-- Parts as one text. -/
theorem frame_parts (bk o c : Nat) (xs : List ByteArray) (w : World) (hcells : ∀ (j : Nat) x, xs[j]? = some x → w.cell? ⟨bk, o + j, none⟩ = some (.string x)) (hbk : bk < w.heap.size) (hN : xs.length ≤ 1000) (hcap : xs.length ≤ c) (hlen : (xs.map (·.data.toList)).flatten.length ≤ 1000000) :
    Calls Tryz.prog 61 #[.slice (some ⟨bk, o, none⟩) xs.length c] w fun e w' => e = .returned (.string (str (xs.map (·.data.toList)).flatten)) ∧ Below w.heap.size w w' := by
  have J := Tryz.strings_Join bk o c xs ⟨#[]⟩ w hcells hbk (by omega) hcap (by rw [join_nil]; omega)
  rw [join_nil] at J
  have J := Lib.hid J
  clear hcells
  go_enter Tryz.func61, Tryz.ntmps61
  go_wp2_with (go_at_call 87; refine J.out.mono ?_; rintro e w1 ⟨rfl, hb⟩)
  go_ret
  exact ⟨rfl, hb⟩

/-- The sum of a text as four bytes. -/
def sumB (s : ByteArray) : ByteArray := str (Oct.fixB (Crc.more 0 (bts s)) 4)
theorem sumB_size (s : ByteArray) : (sumB s).size = 4 := by unfold sumB; rw [str_size, Oct.fixB_length]
theorem two_flat (a b : ByteArray) : str ([a, b].map (·.data.toList)).flatten = a ++ b := by
  apply ByteArray.ext; simp [str]
set_option maxRecDepth 100000 in
theorem frame_sum (bk c : Nat) (a b : ByteArray) (w : World) (h0 : w.cell? ⟨bk, 0, none⟩ = some (.string a)) (h1 : w.cell? ⟨bk, 1, none⟩ = some (.string b)) (hbk : bk < w.heap.size) (hc : 2 ≤ c) (ha : a.size ≤ 1000) (hb : b.size ≤ 1000) :
    Calls Tryz.prog 62 #[.slice (some ⟨bk, 0, none⟩) 2 c] w fun e w' => e = .returned (.string (sumB (a ++ b))) ∧ Below w.heap.size w w' := by
  obtain ⟨m, hm⟩ : ∃ m, Crc.more 0 (bts (a ++ b)) = m := ⟨_, rfl⟩
  unfold sumB
  rw [hm]
  have HM := Lib.hid hm
  clear hm
  go_enter Tryz.func62, Tryz.ntmps62
  go_wp2_with fail
  refine (crc_new _).mono ?_
  rintro e wn ⟨rfl, ht1, hb1, hs1⟩
  have k0 := keepB hb1 h0 hbk
  have k1 := keepB hb1 h1 hbk
  have HT1 := Lib.hid ht1
  have HB1 := Lib.hid hb1
  clear ht1 hb1
  have PT := frame_parts bk 0 c [a, b] wn (fun j x hj => by
    match j, hj with
    | 0, hj => simp at hj; subst hj; simpa using k0
    | 1, hj => simp at hj; subst hj; simpa using k1) (by omega) (by simp) (by simpa using hc) (by
      have e : ([a, b].map (·.data.toList)).flatten.length = a.size + b.size := by
        show (a.data.toList ++ (b.data.toList ++ [])).length = _
        rw [List.length_append, List.length_append]; rfl
      rw [e]; omega)
  rw [two_flat] at PT
  have PT := Lib.hid PT
  clear k0 k1
  go_wp2_with fail
  refine PT.out.mono ?_
  rintro e w2 ⟨rfl, hb2⟩
  have HB2 := Lib.hid (HB1.out.trans (hb2.mono HB1.out.size))
  have HT2 := Lib.hid (HT1.out.below hb2 HT1.out.lt)
  clear hb2
  have CS := crc_sum w.heap.size 0 0 (.inl rfl) (a ++ b) (by rw [ByteArray.size_append]; unfold maxLen; omega) w2 HT2.out
  rw [HM.out] at CS
  have CS := Lib.hid CS
  have hml : Crc.more 0 (bts (a ++ b)) < 4294967296 := Crc.more_lt _ _
  rw [HM.out] at hml
  go_wp2_with fail
  refine CS.out.mono ?_
  rintro e w3 ⟨rfl, ht3, hg3⟩
  have HB3 := Lib.hid (below_gby HB2.out hg3 (Nat.le_refl _) HB2.out.size)
  clear ht3 hg3
  have hmI : (m : Int) < 4294967296 := by omega
  go_wp2_with (go_at_call 58; refine (octet_fixed m 4 (by omega) (by decide) (by decide) _).mono ?_; rintro e w4 ⟨rfl, hb4⟩)
  go_ret
  exact ⟨rfl, HB3.out.trans (hb4.mono HB3.out.size)⟩

/-- A body in a frame. -/
def longB (body : ByteArray) : ByteArray := str (Oct.fixB body.size 2)
def sealB (body : ByteArray) : ByteArray := str [82] ++ (longB body ++ body ++ sumB (longB body ++ body))
theorem longB_size (body : ByteArray) : (longB body).size = 2 := by unfold longB; rw [str_size, Oct.fixB_length]
theorem sealB_size (body : ByteArray) : (sealB body).size = body.size + 7 := by
  unfold sealB
  simp only [ByteArray.size_append, sumB_size, longB_size]
  show 1 + _ = _
  omega
theorem four_flat (a b c d : ByteArray) : str ([a, b, c, d].map (·.data.toList)).flatten = a ++ (b ++ c ++ d) := by
  apply ByteArray.ext; simp [str]

theorem frame_size (n : Int) (w : World) : Calls Tryz.prog 71 #[.int .i64 n] w fun e w' => e = .returned (.int .i64 (if n < 0 ∨ 200 < n then 0 else n + 7)) ∧ w = w' := by
  by_cases h : n < 0
  · rw [if_pos (.inl h)]
    go_enter Tryz.func71, Tryz.ntmps71
    go_wp2
    go_ret
    exact ⟨rfl, rfl⟩
  · by_cases h2 : 200 < n
    · rw [if_pos (.inr h2)]
      go_enter Tryz.func71, Tryz.ntmps71
      go_wp2
      go_ret
      exact ⟨rfl, rfl⟩
    · rw [if_neg (by omega)]
      have e : (3 : Int) + n + 4 = n + 7 := by omega
      go_enter Tryz.func71, Tryz.ntmps71
      go_wp2
      go_ret
      exact ⟨by rw [← e]; rfl, rfl⟩
theorem frame_seal_many (body : ByteArray) (h : 200 < body.size) (hs : body.size ≤ maxLen) (w : World) :
    Calls Tryz.prog 36 #[.string body] w fun e w' => e = .returned (.tuple #[.string ⟨#[]⟩, .int .i64 9]) ∧ w = w' := by
  have h' : (200 : Int) < (body.size : Int) := by omega
  unfold maxLen at hs
  go_enter Tryz.func36, Tryz.ntmps36
  go_wp2
  go_ret2
  exact ⟨rfl, rfl⟩
set_option maxRecDepth 100000 in
set_option maxHeartbeats 800000 in
theorem frame_seal (body : ByteArray) (h : body.size ≤ 200) (w : World) :
    Calls Tryz.prog 36 #[.string body] w fun e w' => e = .returned (.tuple #[.string (sealB body), .int .i64 0]) ∧ Below w.heap.size w w' := by
  have h' : (body.size : Int) ≤ 200 := by omega
  have hz := longB_size body
  have OF := octet_fixed body.size 2 (by omega) (by decide) (by decide)
  change ∀ w, Calls _ _ _ _ fun e w' => e = .returned (.string (longB body)) ∧ _ at OF
  obtain ⟨lg, hlg⟩ : ∃ lg, longB body = lg := ⟨_, rfl⟩
  unfold sealB
  rw [hlg] at OF hz ⊢
  have OF := Lib.hid OF
  have HZ := Lib.hid hz
  clear hlg hz
  go_enter Tryz.func36, Tryz.ntmps36
  go_wp2_with fail
  refine (OF.out _).mono ?_
  rintro e w1 ⟨rfl, hb1⟩
  have HB1 := Lib.hid hb1
  clear hb1
  go_wp2_with fail
  refine (frame_sum w1.heap.size 2 lg body _ (by go_simp) (by go_simp) (by simp) (by decide) (by rw [HZ.out]; decide) (by omega)).mono ?_
  rintro e w2 ⟨rfl, hb2⟩
  have HB2 : Hid (Below w.heap.size w w2) := Lib.hid ((HB1.out.alloc HB1.out.size _).trans (hb2.mono (by have := HB1.out.size; simp; omega)))
  clear hb2
  have PT := fun (wx : World) h0 h1 => frame_parts w2.heap.size 0 4 [str [82], lg, body, sumB (lg ++ body)] wx h0 h1 (by simp) (by simp) (by
    have e : ([str [82], lg, body, sumB (lg ++ body)].map (·.data.toList)).flatten.length = 1 + lg.size + body.size + (sumB (lg ++ body)).size := by
      show ([82] ++ (lg.data.toList ++ (body.data.toList ++ ((sumB (lg ++ body)).data.toList ++ [])))).length = _
      rw [List.length_append, List.length_append, List.length_append, List.length_append]
      show 1 + (lg.size + (body.size + ((sumB (lg ++ body)).size + 0))) = _
      omega
    rw [e, sumB_size, HZ.out]; omega)
  rw [four_flat] at PT
  have PT := Lib.hid PT
  go_wp2_with fail
  refine (PT.out _ (fun j x hj => ?_) (by simp)).mono ?_
  · match j, hj with
    | 0, hj => simp at hj; subst hj; go_simp; rfl
    | 1, hj => simp at hj; subst hj; go_simp
    | 2, hj => simp at hj; subst hj; go_simp
    | 3, hj => simp at hj; subst hj; go_simp
  rintro e w3 ⟨rfl, hb3⟩
  go_wp2_with fail
  go_ret2
  exact ⟨rfl, (HB2.out.alloc HB2.out.size _).trans (hb3.mono (by have := HB2.out.size; simp; omega))⟩
end Go.Proofs.YtokghlmffkboiaaGreat
