/-
  The walk of the statement CrcTells.
-/
import Derived.Test.YtmhlnjgdlcfkhaaCrc
import Derived.Lib.ConvBytes
import Derived.Laws.BytesArg
import Derived.RegionTactic
namespace Go.Proofs.Ytmhlnjgdlcfkhaa
open Go.RowKit
set_option linter.unusedVariables false
set_option linter.unusedSimpArgs false

theorem i64_and255 (n : Int) : bits BinOp.and IntKind.i64 n 255 = n % 256 := by
  have h255 : (BitVec.ofInt 64 255).toNat = 2 ^ 8 - 1 := by decide
  have key : (BitVec.ofInt 64 n &&& BitVec.ofInt 64 255).toNat = (n % ((2 ^ 64 : Nat) : Int)).toNat % 2 ^ 8 := by
    rw [BitVec.toNat_and, BitVec.toNat_ofInt, h255, Nat.and_two_pow_sub_one_eq_mod]
  show IntKind.i64.wrap ((BitVec.ofInt 64 n &&& BitVec.ofInt 64 255).toNat : Nat) = n % 256
  rw [key, IntKind.wrap_i64]
  omega

/-- The bytes that are turned: from place k on, i of them. -/
def tellVal (s : ByteArray) (k turn i j : Nat) : Nat := if k ≤ j ∧ j < k + i then (bts s).getD j 0 ^^^ (turn / 2 ^ (8 * (j - k)) % 256) else (bts s).getD j 0
theorem tellVal_zero (s : ByteArray) (k turn j : Nat) : tellVal s k turn 0 j = (bts s).getD j 0 := by unfold tellVal; rw [if_neg (by omega)]
theorem bts_getD_lt (s : ByteArray) (j : Nat) : (bts s).getD j 0 < 256 := by
  rw [List.getD_eq_getElem?_getD]
  by_cases h : j < (bts s).length
  · rw [List.getElem?_eq_getElem h]; exact bts_lt s _ (List.getElem_mem _)
  · rw [List.getElem?_eq_none (by omega)]; decide
theorem tellVal_lt (s : ByteArray) (k turn i j : Nat) : tellVal s k turn i j < 256 := by
  unfold tellVal; split
  · exact Nat.xor_lt_two_pow (n := 8) (bts_getD_lt s j) (Nat.mod_lt _ (by decide))
  · exact bts_getD_lt s j
/-- The bytes behind the turn. -/
def tellList (s : ByteArray) (k turn : Nat) : List Nat := (List.range s.size).map (tellVal s k turn 4)
theorem tell_ne (s : ByteArray) (k turn : Nat) (hk : k + 4 ≤ s.size) (ht : turn < 4294967296) (h0 : turn ≠ 0) : Crc.more 0 (tellList s k turn) ≠ Crc.more 0 (bts s) := by
  intro h
  have hl : ∀ c ∈ tellList s k turn, c < 256 := by
    intro c hc
    simp only [tellList, List.mem_map] at hc
    obtain ⟨j, _, rfl⟩ := hc
    exact tellVal_lt s k turn 4 j
  have h1 := Crc.compl_inj (Crc.reg_lt (Crc.compl_lt 0) hl) (Crc.reg_lt (Crc.compl_lt 0) (bts_lt s)) h
  have h2 := Crc.reg_xor (Crc.compl 0) (Crc.compl 0) (tellList s k turn) (bts s) (by simp [tellList, bts_length])
  rw [h1, Nat.xor_self, Nat.xor_self] at h2
  have h3 : List.zipWith (· ^^^ ·) (tellList s k turn) (bts s) = List.replicate k 0 ++ [turn % 256, turn / 256 % 256, turn / 65536 % 256, turn / 16777216] ++ List.replicate (s.size - (k + 4)) 0 := by
    apply List.ext_getElem
    · simp [tellList, bts_length]; omega
    · intro j hj1 hj2
      have hj : j < s.size := by simp [tellList, bts_length] at hj1; exact hj1
      have hb : (bts s)[j]'(by rw [bts_length]; exact hj) = (bts s).getD j 0 := by
        rw [List.getD_eq_getElem?_getD, List.getElem?_eq_getElem (by rw [bts_length]; exact hj)]; rfl
      rw [List.getElem_zipWith, hb]
      simp only [tellList, List.getElem_map, List.getElem_range]
      have e1 : tellVal s k turn 4 j ^^^ (bts s).getD j 0 = if k ≤ j ∧ j < k + 4 then turn / 2 ^ (8 * (j - k)) % 256 else 0 := by
        unfold tellVal
        split
        · rw [Nat.xor_comm ((bts s).getD j 0), Nat.xor_assoc, Nat.xor_self, Nat.xor_zero]
        · rw [Nat.xor_self]
      rw [e1]
      by_cases c1 : j < k
      · rw [if_neg (by omega)]
        simp [List.getElem_append, c1]
      · by_cases c2 : j < k + 4
        · rw [if_pos (by omega)]
          obtain ⟨r, rfl⟩ : ∃ r, j = k + r := ⟨j - k, by omega⟩
          have hr : r = 0 ∨ r = 1 ∨ r = 2 ∨ r = 3 := by omega
          rw [Nat.add_sub_cancel_left]
          rcases hr with rfl | rfl | rfl | rfl <;> simp [List.getElem_append] <;> omega
        · rw [if_neg (by omega)]
          rw [List.getElem_append_right (by simp; omega)]
          simp
  rw [h3] at h2
  exact Crc.reg_burst k _ turn ht h0 h2

theorem tell_step (s : ByteArray) (k turn i : Nat) : bits BinOp.xor IntKind.u8 ((tellVal s k turn i (k + i) : Nat) : Int) ((turn : Int) / 2 ^ (8 * i) % 256) = ((tellVal s k turn (i + 1) (k + i) : Nat) : Int) := by
  have e1 : tellVal s k turn i (k + i) = (bts s).getD (k + i) 0 := by unfold tellVal; rw [if_neg (by omega)]
  have e2 : tellVal s k turn (i + 1) (k + i) = (bts s).getD (k + i) 0 ^^^ (turn / 2 ^ (8 * i) % 256) := by
    unfold tellVal; rw [if_pos (by omega), Nat.add_sub_cancel_left]
  have e3 : ((turn : Int) / 2 ^ (8 * i) % 256) = ((turn / 2 ^ (8 * i) % 256 : Nat) : Int) := by simp
  rw [e1, e2, e3]
  exact u8_xor_nat _ _ (bts_getD_lt s _) (Nat.mod_lt _ (by decide))
theorem tell_other (s : ByteArray) (k turn i j : Nat) (h : ¬ j = k + i) : tellVal s k turn (i + 1) j = tellVal s k turn i j := by
  unfold tellVal
  by_cases c : k ≤ j ∧ j < k + i
  · rw [if_pos c, if_pos (by omega)]
  · rw [if_neg c, if_neg (by omega)]
/-- The numbers behind the turn, and the text that they make. -/
def tellNums (s : ByteArray) (k turn : Nat) : List Int := (tellList s k turn).map (fun n : Nat => (n : Int))
theorem tell_bts (s : ByteArray) (k turn : Nat) : bts (strOfNums (tellNums s k turn)) = tellList s k turn := by
  unfold bts
  rw [strOfNums_data, tellNums, List.map_map, List.map_map]
  have : ∀ l : List Nat, (∀ c ∈ l, c < 256) → l.map (UInt8.toNat ∘ (fun n : Int => UInt8.ofNat n.toNat) ∘ fun n : Nat => (n : Int)) = l := by
    intro l
    induction l with
    | nil => intro _; rfl
    | cons c r ih =>
      intro h
      rw [List.map_cons, ih (fun x hx => h x (by simp [hx]))]
      congr 1
      simp [Nat.mod_eq_of_lt (h c (by simp))]
  exact this (tellList s k turn) (by
    intro c hc
    simp only [tellList, List.mem_map] at hc
    obtain ⟨j, _, rfl⟩ := hc
    exact tellVal_lt s k turn 4 j)
theorem tell_length (s : ByteArray) (k turn : Nat) : (tellNums s k turn).length = s.size := by simp [tellNums, tellList]
theorem tell_get (s : ByteArray) (k turn j : Nat) (hj : j < s.size) : (tellNums s k turn).getD j 0 = ((tellVal s k turn 4 j : Nat) : Int) := by
  rw [List.getD_eq_getElem?_getD, List.getElem?_eq_getElem (by rw [tell_length]; exact hj)]
  simp [tellNums, tellList]

set_option maxRecDepth 100000 in
set_option maxHeartbeats 1600000 in
theorem walk_CrcTells (s : ByteArray) (a1 : Int) (a2 : Int) (w : World) (w0 : s.size ≤ maxLen) (w1 : (Lit.int .i64 a1).wf = true) (w2 : (Lit.int .u32 a2).wf = true) :
    Calls Try.prog 4 #[.string s, .int .i64 a1, .int .u32 a2] w fun e w' => e = .returned (.bool true) ∧ Below w.heap.size w w' := by
  have hb := bounds_u32 w2
  obtain ⟨turn, rfl⟩ : ∃ n : Nat, a2 = n := ⟨a2.toNat, by omega⟩
  have ht : turn < 4294967296 := by omega
  clear w1 w2 hb
  have hs0 : s.size ≤ 9223372036854775807 := w0
  by_cases h4 : s.size < 4
  · go_enter Try.func4, Try.ntmps4
    go_wp2_with (go_at_call 11; refine (awake03 _).mono ?_; rintro e w' ⟨rfl, hb⟩)
    go_ret
    exact ⟨rfl, hb⟩
  by_cases hbig : 200 < s.size
  · go_enter Try.func4, Try.ntmps4
    go_wp2_with (go_at_call 11; refine (awake03 _).mono ?_; rintro e w' ⟨rfl, hb⟩)
    go_ret
    exact ⟨rfl, hb⟩
  by_cases h0 : turn = 0
  · subst h0
    go_enter Try.func4, Try.ntmps4
    go_wp2_with (go_at_call 11; refine (awake03 _).mono ?_; rintro e w' ⟨rfl, hb⟩)
    go_ret
    exact ⟨rfl, hb⟩
  have h0' : ((turn : Int) == 0) = false := by simp; omega
  have hand := i64_and255 a1
  obtain ⟨k, hk, hkb⟩ : ∃ k : Nat, (a1 % 256) % ((s.size : Int) - 3) = k ∧ k + 4 ≤ s.size := by
    have e1 := Int.emod_nonneg (a1 % 256) (b := (s.size : Int) - 3) (by omega)
    have e2 := Int.emod_lt_of_pos (a1 % 256) (b := (s.size : Int) - 3) (by omega)
    exact ⟨((a1 % 256) % ((s.size : Int) - 3)).toNat, by omega, by omega⟩
  have hm0 : 0 ≤ a1 % 256 := by omega
  have hconv := fun w => Lib.run_convert_string_bytes (P := Try.prog) w 9 30 5 s Try.underlying9 Try.underlying30 Try.underlying5
  have hsz : (Lib.bytesWorld w 5 s).heap.size = w.heap.size + 1 := Lib.bytesWorld_size w _ s
  go_enter Try.func4, Try.ntmps4
  go_wp2_with fail
  rw [hk]
  clear hk hand hm0 hconv
  have hC : ∀ j, j < s.size → (Lib.bytesWorld w 5 s).cell? ⟨w.heap.size, j, none⟩ = some (.int .u8 (tellVal s k turn 0 j : Nat)) ∧ (Lib.bytesWorld w 5 s).frozen? ⟨w.heap.size, j, none⟩ = false := by
    intro j hj
    refine ⟨?_, ?_⟩
    · rw [Lib.bytesWorld_cell w _ s j hj, tellVal_zero]
      congr 3
      simp [bts, List.getD_eq_getElem?_getD]
      cases s.data[j]? <;> rfl
    · have h := Lib.bytesWorld_at_new w 5 s
      have h2 : s.size ≤ (Lib.bytesCells w 5 s).size := by unfold Lib.bytesCells; rw [Array.size_append, Array.size_map]; exact Nat.le_add_right _ _
      unfold World.frozen?
      rw [h]
      simp; omega
  have HB : Below w.heap.size w (Lib.bytesWorld w 5 s) := ⟨rfl, rfl, rfl, by omega, fun j hj => Lib.bytesWorld_at_old w _ s j hj⟩
  have HC := Lib.hid hC
  clear hC
  generalize Lib.bytesWorld w 5 s = wb at *
  generalize grownCap w s.size 0 5 = cap at *
  go_loopg [9] 4 (fun g i wr => ∃ (i' : Nat), i' ≤ 4 ∧ g = 4 - i' ∧ i = .int .i64 i' ∧ Hid (∀ j, j < s.size → wr.cell? ⟨w.heap.size, j, none⟩ = some (.int .u8 (tellVal s k turn i' j : Nat)) ∧ wr.frozen? ⟨w.heap.size, j, none⟩ = false) ∧ w.heap.size < wr.heap.size ∧ Below w.heap.size w wr)
  case atStart => exact ⟨0, by omega, rfl, rfl, HC, by omega, HB⟩
  case round =>
    clear HC hsz HB
    obtain ⟨i, hi, rfl, rfl, HR, hsz, hbl⟩ := hrel
    by_cases hlt : i < 4
    · have hc := (HR.out (k + i) (by omega)).1
      have hf := (HR.out (k + i) (by omega)).2
      have hk0 : (0 : Int) ≤ (k : Int) + (i : Int) := by omega
      have hk1 : (k : Int) + (i : Int) < (s.size : Int) := by omega
      have hkw : IntKind.i64.wrap ((k : Int) + (i : Int)) = (k : Int) + i := by rw [IntKind.wrap_i64]; omega
      have hkn : ((k : Int) + (i : Int)).toNat = k + i := by omega
      have hmw : IntKind.i64.wrap (8 * (i : Int)) = 8 * (i : Int) := by rw [IntKind.wrap_i64]; omega
      have hx := tell_step s k turn i
      go_wp2_with fail
      go_region
      go_wp2_with fail
      go_roundg (4 - (i + 1))
      case measure => omega
      case rel =>
        refine ⟨i + 1, by omega, rfl, by go_num, Lib.hid fun j hj => ⟨?_, ?_⟩, by simp; omega, (hbl.setCell (Nat.le_refl _) _).drew⟩
        · rw [World.cell?_drew]
          by_cases hjk : j = k + i
          · subst hjk
            exact World.cell?_setCell_same _ _ _ hc
          · rw [tell_other s k turn i j hjk]
            exact (World.cell?_setCell_other _ ⟨w.heap.size, k + i, none⟩ ⟨w.heap.size, j, none⟩ _ (by simp <;> omega)).trans (HR.out j hj).1
        · have := (HR.out j hj).2
          go_simp
    · obtain rfl : i = 4 := by omega
      go_wp2_with fail
      refine (crc_new _).mono ?_; rintro e w1 ⟨rfl, ht1, hb1, hs1⟩
      have hback := run_convert_bytes_arg (P := Try.prog) w1 30 5 Try.underlying30 Try.underlying5 w.heap.size 0 s.size cap (tellNums s k turn) (tell_length s k turn) (fun j hj => by
        rw [tell_get s k turn j hj, Nat.zero_add]
        exact keepB hb1 (HR.out j hj).1 hsz) 9 Try.underlying9
      have hne := tell_ne s k turn hkb ht h0
      rw [← tell_bts] at hne
      have hl : (strOfNums (tellNums s k turn)).size ≤ maxLen := by rw [strOfNums_size, tell_length]; exact w0
      generalize strOfNums (tellNums s k turn) = u at *
      go_wp2_with fail
      refine (crc_sum _ 0 0 (.inl rfl) u hl _ ht1).mono ?_; rintro e w2 ⟨rfl, ht2, hg2⟩
      rw [madeI_first] at ht2
      clear hback
      go_wp2_with fail
      refine (crc_sum _ 1 1 (.inr rfl) s w0 _ ht2).mono ?_; rintro e w3 ⟨rfl, ht3, hg3⟩
      clear ht1 ht2 ht3
      generalize Crc.more 0 (bts u) = x at *
      generalize Crc.more 0 (bts s) = y at *
      have hxy : ((x : Int) != (y : Int)) = true := by simp; omega
      have z2 := hg2.size
      have z3 := hg3.size
      have B1 := hbl.trans (hb1.mono (by omega))
      have B3 := below_gby (below_gby B1 hg2 (by omega) (by omega)) hg3 (by omega) (by omega)
      go_wp2_with fail
      refine (awake03 _).mono ?_; rintro e w4 ⟨rfl, hb4⟩
      go_wp2
      go_ret
      exact ⟨rfl, B3.trans (hb4.mono (by omega))⟩
end Go.Proofs.Ytmhlnjgdlcfkhaa
