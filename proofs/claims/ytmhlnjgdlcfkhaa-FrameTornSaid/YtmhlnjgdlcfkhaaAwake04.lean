/-
  What must come whatever the arguments are (reeve's layer 4).
-/
import Derived.Test.YtmhlnjgdlcfkhaaFrameAll
import Derived.Test.YtmhlnjgdlcfkhaaFrameMath
namespace Go.Proofs.Ytmhlnjgdlcfkhaa
open Go.RowKit
set_option linter.unusedVariables false
set_option linter.unusedSimpArgs false

theorem aw4_head : (sealB ⟨#[97]⟩).extract 0 4 = ⟨#[82, 0, 1, 97]⟩ := by
  have e : str [82] ++ longB ⟨#[97]⟩ ++ ⟨#[97]⟩ = ⟨#[82, 0, 1, 97]⟩ := rfl
  rw [sealB_eq, e, ByteArray.extract_append]
  show _ ++ (sumB _).extract (0 - 4) (4 - 4) = _
  rw [show (⟨#[82, 0, 1, 97]⟩ : ByteArray).extract 0 4 = ⟨#[82, 0, 1, 97]⟩ from ByteArray.extract_zero_size]
  simp
theorem aw4_x : openF ⟨#[120]⟩ = (⟨#[]⟩, 0, 2) := by
  unfold openF
  rw [if_neg (by decide), if_pos (by rfl)]
theorem aw4_R : (openF ⟨#[82]⟩).2.2 ≠ 0 := by
  unfold openF
  rw [if_neg (by decide), if_neg (by intro h; exact absurd h (by decide)), if_pos (by decide)]
  decide
set_option maxRecDepth 100000 in
set_option maxHeartbeats 1600000 in
theorem awake04 (w : World) : Calls Try.prog 35 #[] w fun e w' => e = .returned (.bool true) ∧ Below w.heap.size w w' := by
  have SL := frame_seal ⟨#[97]⟩ (by decide)
  have h8 : (sealB ⟨#[97]⟩).size = 8 := sealB_size _
  have h4 : ((sealB ⟨#[97]⟩).extract 0 4).toList = [82, 0, 1, 97] := by rw [aw4_head, ByteArray.toList_eq]
  have OP := frame_open (sealB ⟨#[97]⟩ ++ ⟨#[120]⟩) (by rw [ByteArray.size_append, h8]; decide)
  rw [open_seal ⟨#[97]⟩ (by decide)] at OP
  have OX := frame_open ⟨#[120]⟩ (by decide)
  rw [aw4_x] at OX
  have AL := frame_all (sealB ⟨#[97]⟩ ++ sealB ⟨#[97]⟩ ++ ⟨#[82]⟩) (by rw [ByteArray.size_append, ByteArray.size_append, h8]; decide)
  have hal := allG_frames [⟨#[97]⟩, ⟨#[97]⟩] ByteArray.empty ⟨#[82]⟩ (by intro b hb; simp at hb; subst hb; decide) aw4_R
  have hfr : ByteArray.empty ++ frames [⟨#[97]⟩, ⟨#[97]⟩] ++ ⟨#[82]⟩ = sealB ⟨#[97]⟩ ++ sealB ⟨#[97]⟩ ++ ⟨#[82]⟩ := by
    show ByteArray.empty ++ (sealB ⟨#[97]⟩ ++ (sealB ⟨#[97]⟩ ++ ByteArray.empty)) ++ ⟨#[82]⟩ = _
    simp
  have hfz : ByteArray.empty.size + (frames [⟨#[97]⟩, ⟨#[97]⟩]).size = 16 := by
    show 0 + (sealB ⟨#[97]⟩ ++ (sealB ⟨#[97]⟩ ++ ByteArray.empty)).size = 16
    rw [ByteArray.size_append, ByteArray.size_append, h8]; rfl
  rw [hfr, hfz] at hal
  rw [show ByteArray.empty.size = 0 from rfl] at hal
  rw [hal] at AL
  clear hfr hfz hal
  obtain ⟨S, hS⟩ : ∃ S, sealB ⟨#[97]⟩ = S := ⟨_, rfl⟩
  rw [hS] at SL h8 h4 OP AL
  clear hS
  have SLH := Lib.hid SL
  have OPH := Lib.hid OP
  have OXH := Lib.hid OX
  have ALH := Lib.hid AL
  clear SL OP OX AL
  have z1 : S.size + (⟨#[120]⟩ : ByteArray).size ≤ 9223372036854775807 := by rw [h8]; decide
  have z2 : S.size + S.size ≤ 9223372036854775807 := by rw [h8]; decide
  have z3 : (S ++ S).size + (⟨#[82]⟩ : ByteArray).size ≤ 9223372036854775807 := by rw [ByteArray.size_append, h8]; decide
  go_enter Try.func35, Try.ntmps35
  go_wp2_with fail
  refine (SLH.out _).mono ?_
  rintro e w1 ⟨rfl, hb1⟩
  go_wp2_with fail
  refine (OPH.out _).mono ?_
  rintro e w2 ⟨rfl, hb2⟩
  go_wp2_with fail
  refine (OXH.out _).mono ?_
  rintro e w3 ⟨rfl, hb3⟩
  have HB3 := Lib.hid ((hb1.trans (hb2.mono hb1.size)).trans (hb3.mono (Nat.le_trans hb1.size hb2.size)))
  clear hb1 hb2 hb3
  go_wp2_with fail
  refine (ALH.out _).mono ?_
  rintro e w4 ⟨v, rfl, ho, hb4⟩
  obtain ⟨p, cap, rfl⟩ := ho.row.len
  have HB4 := Lib.hid (HB3.out.trans (hb4.mono HB3.out.size))
  clear ho hb4
  go_wp2_with fail
  go_ret
  exact ⟨rfl, HB4.out⟩
end Go.Proofs.Ytmhlnjgdlcfkhaa
