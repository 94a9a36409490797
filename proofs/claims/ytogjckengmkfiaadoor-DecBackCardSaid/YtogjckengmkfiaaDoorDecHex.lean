/-
  Bytes as signs (reeve's layer 5): the program's Hex.
-/
import Derived.Test.YtogjckengmkfiaaDoorDecList
namespace Go.Proofs.YtogjckengmkfiaaDoor
open Go.RowKit
set_option linter.unusedVariables false
set_option linter.unusedSimpArgs false

/-- The sixteen signs. -/
def sigL : List UInt8 := [48, 49, 50, 51, 52, 53, 54, 55, 56, 57, 97, 98, 99, 100, 101, 102]
def sg (k : Nat) : UInt8 := sigL.getD k 0
def hexB (c : UInt8) : List UInt8 := [sg (c.toNat / 16), sg (c.toNat % 16)]
def hexL (l : List UInt8) : List UInt8 := l.flatMap hexB
theorem sig_at (k : Nat) (h : k < 16) : (((⟨#[48, 49, 50, 51, 52, 53, 54, 55, 56, 57, 97, 98, 99, 100, 101, 102]⟩ : ByteArray)[k]'h).toNat : Int) = ((sg k).toNat : Int) := by
  have : k = 0 ∨ k = 1 ∨ k = 2 ∨ k = 3 ∨ k = 4 ∨ k = 5 ∨ k = 6 ∨ k = 7 ∨ k = 8 ∨ k = 9 ∨ k = 10 ∨ k = 11 ∨ k = 12 ∨ k = 13 ∨ k = 14 ∨ k = 15 := by omega
  rcases this with rfl | rfl | rfl | rfl | rfl | rfl | rfl | rfl | rfl | rfl | rfl | rfl | rfl | rfl | rfl | rfl <;> rfl
theorem hexL_take (l : List UInt8) (i : Nat) (c : UInt8) (h : l[i]? = some c) : hexL (l.take (i + 1)) = hexL (l.take i) ++ [sg (c.toNat / 16)] ++ [sg (c.toNat % 16)] := by
  rw [take_at_ h]
  simp [hexL, hexB]
theorem hexL_length (l : List UInt8) : (hexL l).length = 2 * l.length := by
  induction l with
  | nil => rfl
  | cons c r ih =>
    have e : hexL (c :: r) = hexB c ++ hexL r := by simp [hexL]
    rw [e, List.length_append, ih]
    simp only [hexB, List.length_cons, List.length_nil]; omega
set_option maxRecDepth 100000 in
set_option maxHeartbeats 1600000 in
theorem dec_hex (s : ByteArray) (hs : s.size ≤ 1000000) (w : World) :
    Calls Tryd.prog 66 #[.string s] w fun e w' => e = .returned (.string (strL (hexL s.data.toList))) ∧ Below w.heap.size w w' := by
  have hs63 : s.size ≤ 9223372036854775807 := by omega
  have hsl : s.data.toList.length = s.size := (Lib.size_eq s).symm
  obtain ⟨RES, hRES⟩ : ∃ R, strL (hexL s.data.toList) = R := ⟨_, rfl⟩
  rw [hRES]
  have HRES := Lib.hid hRES
  clear hRES
  go_enter Tryd.func66, Tryd.ntmps66
  go_wp2_with fail
  go_loopg [7] s.size (fun gg s7 wr => ∃ (i : Nat) (cs : Array Value) (v : Value), i ≤ s.size ∧ gg = s.size - i ∧ s7 = .int .i64 i ∧ cs.size = 2 ∧ Hid (Blk wr w.heap.size cs 81) ∧ Hid (BldIn cs w.heap.size w.heap.size 0 wr v (hexL (s.data.toList.take i))) ∧ Hid (Below w.heap.size w wr))
  case atStart => exact ⟨0, _, .slice none 0 0, by omega, rfl, rfl, rfl, Lib.hid (Blk.new w _ _), Lib.hid (bld_fresh _ _ _), Lib.hid ((Below.refl w.heap.size w).alloc (Nat.le_refl _) _)⟩
  case round =>
    obtain ⟨i, cs, v, hi', hg, rfl, hcs, HB, HBI, HL⟩ := hrel
    have hg := hg.symm
    subst hg
    have hbw := HB.out.lt
    by_cases hlt : i < s.size
    · obtain ⟨c, hc⟩ : ∃ c, s[i]'hlt = c := ⟨_, rfl⟩
      have hget : s.data.toList[i]? = some c := by
        rw [List.getElem?_eq_getElem (by rw [hsl]; exact hlt), ← hc]
        rfl
      have hby : (((s[i]'hlt).toNat : Nat) : Int) = (c.toNat : Int) := by rw [hc]
      have hiI : (i : Int) < (s.size : Int) := by omega
      have hi0 : (0 : Int) ≤ (i : Int) := by omega
      have hc256 := c.toNat_lt
      obtain ⟨a, ha⟩ : ∃ a, c.toNat / 16 = a := ⟨_, rfl⟩
      obtain ⟨b, hb⟩ : ∃ b, c.toNat % 16 = b := ⟨_, rfl⟩
      have ha16 : a < 16 := by omega
      have hb16 : b < 16 := by omega
      have hP := hexL_take s.data.toList i c hget
      rw [ha, hb] at hP
      have HP := Lib.hid hP
      have qa : (c.toNat : Int) / 16 = (a : Int) := by omega
      have qb : (c.toNat : Int) % 16 = (b : Int) := by omega
      have qa2 : (a : Int) < 16 := by omega
      have qb2 : (b : Int) < 16 := by omega
      have sa := sig_at a ha16
      have sb := sig_at b hb16
      have hlen : (hexL (s.data.toList.take i)).length ≤ 2000000 := by rw [hexL_length, List.length_take]; omega
      generalize sg a = x at sa HP
      generalize sg b = y at sb HP
      clear hget hc hP ha hb hc256
      go_wp2_with fail
      refine (bld_writeByte 81 w.heap.size 0 w.heap.size cs v _ x _ (by rw [hcs]; exact lies_two_) (by decide) HB.out HBI.out (by omega) (by omega) (Nat.le_refl _)).mono ?_
      rintro e w6 ⟨rfl, v6, hb6, hbi6, hc6⟩
      have HL6 := Lib.hid (HL.out.trans hc6)
      have HB6 := Lib.hid hb6
      have HBI6 := Lib.hid hbi6
      have hs6 : w.heap.size < w6.heap.size := hb6.lt
      clear hb6 hbi6 hc6 HB HBI HL
      go_wp2_with fail
      refine (bld_writeByte 81 w.heap.size 0 w.heap.size (wrote cs w.heap.size 0 v6) v6 _ y w6 (by rw [wrote_size, hcs]; exact lies_two_) (by decide) HB6.out HBI6.out (by rw [List.length_append]; show _ + 1 + 1 ≤ _; omega) (by omega) (Nat.le_refl _)).mono ?_
      rintro e w7 ⟨rfl, v7, hb7, hbi7, hc7⟩
      have HL7 := Lib.hid (HL6.out.trans hc7)
      have HB7 := Lib.hid hb7
      have HBI7 : Hid (BldIn (wrote (wrote cs w.heap.size 0 v6) w.heap.size 0 v7) w.heap.size w.heap.size 0 w7 v7 (hexL (s.data.toList.take (i + 1)))) := Lib.hid (by rw [HP.out]; exact hbi7)
      clear hb7 hbi7 hc7
      go_wp2_with fail
      go_roundg (s.size - (i + 1))
      case measure => omega
      case rel => exact ⟨i + 1, _, _, by omega, rfl, by go_num, by rw [wrote_size, wrote_size]; exact hcs, HB7, HBI7, HL7⟩
    · obtain rfl : i = s.size := by omega
      have hst := bld_string 81 w.heap.size 0 w.heap.size cs v _ _ HB.out HBI.out (by omega)
      have HST := Lib.hid hst
      clear hst
      go_wp2_with fail
      refine HST.out.mono ?_
      rintro e w5 ⟨rfl, hb5, hbi5, hc5⟩
      have HL5 := Lib.hid (HL.out.trans (hc5.below HL.out.size (fun k hk => (World.ownsRowF.lt HBI.out.2.2.1 k hk.symm).1)))
      have HF : Hid (RES = ⟨(hexL (s.data.toList.take s.size)).toArray⟩) := Lib.hid (by
        rw [← HRES.out, List.take_of_length_le (by rw [hsl]; exact Nat.le_refl _)]; rfl)
      clear hb5 hbi5 hc5 HST
      go_wp2_with fail
      go_ret
      exact ⟨by rw [HF.out]; rfl, HL5.out⟩
end Go.Proofs.YtogjckengmkfiaaDoor
