/-
  The walk of the statement FrameTorn.
-/
import Derived.Test.YtmhlnjgdlcfkhaaFrameSealsWalk
import Derived.Test.YtmhlnjgdlcfkhaaFrameCut
import Derived.Test.YtmhlnjgdlcfkhaaFlat
import Derived.Test.YtmhlnjgdlcfkhaaByteTurn
namespace Go.Proofs.Ytmhlnjgdlcfkhaa
open Go.RowKit
set_option linter.unusedVariables false
set_option linter.unusedSimpArgs false

theorem and_mask (n : Int) (m k : Nat) (hk : k ≤ 62) (hm : (BitVec.ofInt 64 (m : Int)).toNat = 2 ^ k - 1) : bits BinOp.and IntKind.i64 n (m : Int) = ((n % (2 ^ k : Nat)).toNat : Int) := by
  have hpow : (2 : Nat) ^ k ≤ 2 ^ 62 := Nat.pow_le_pow_right (by decide) hk
  have h62 : (2 : Nat) ^ 62 = 4611686018427387904 := by decide
  have hpos : 0 < (2 : Nat) ^ k := Nat.two_pow_pos k
  have hdvd : ((2 : Nat) ^ k : Nat) ∣ 2 ^ 64 := Nat.pow_dvd_pow 2 (by omega)
  have key : (BitVec.ofInt 64 n &&& BitVec.ofInt 64 (m : Int)).toNat = (n % ((2 ^ 64 : Nat) : Int)).toNat % 2 ^ k := by
    rw [BitVec.toNat_and, BitVec.toNat_ofInt, hm, Nat.and_two_pow_sub_one_eq_mod]
  have hlt := Nat.mod_lt (n % ((2 ^ 64 : Nat) : Int)).toNat hpos
  have e : (n % ((2 ^ 64 : Nat) : Int)).toNat % 2 ^ k = (n % (2 ^ k : Nat)).toNat := by
    have h1 : (0 : Int) ≤ n % ((2 ^ 64 : Nat) : Int) := Int.emod_nonneg _ (by decide)
    have h2 : (((n % ((2 ^ 64 : Nat) : Int)).toNat % 2 ^ k : Nat) : Int) = n % ((2 ^ k : Nat) : Int) := by
      rw [Int.natCast_emod, Int.toNat_of_nonneg h1, Int.emod_emod_of_dvd _ (by exact_mod_cast hdvd)]
    omega
  show IntKind.i64.wrap ((BitVec.ofInt 64 n &&& BitVec.ofInt 64 (m : Int)).toNat : Nat) = _
  rw [key, e, IntKind.wrap_i64]
  have h3 : (n % (2 ^ k : Nat)).toNat < 2 ^ k := by rw [← e]; exact hlt
  omega

theorem and65535 (n : Int) : bits BinOp.and IntKind.i64 n 65535 = ((n % 65536).toNat : Int) := and_mask n 65535 16 (by decide) (by decide)

/-- A row of numbers of the call's own. -/
def OwnN (B : Nat) (w : World) (v : Value) (l : List Nat) : Prop := w.ownsRow B 3 1 v l.length (l.map (fun n : Nat => Value.int .i64 n))
theorem OwnN.nil (B : Nat) (w : World) : OwnN B w (.slice none 0 0) [] := ⟨rfl, .inl ⟨rfl, rfl⟩⟩
theorem OwnN.below {B C : Nat} {w w' : World} {v : Value} {l : List Nat} (h : OwnN B w v l) (hb : Below C w w') (hC : w.heap.size ≤ C) : OwnN B w' v l := by
  obtain ⟨h1, h2 | ⟨g, cap, cur, rfl, hg, hh, rest⟩⟩ := h
  · exact ⟨h1, .inl h2⟩
  · refine ⟨h1, .inr ⟨g, cap, cur, rfl, hg, ?_, rest⟩⟩
    rw [← hh]
    exact hb.block g (Nat.lt_of_lt_of_le (Array.getElem?_eq_some_iff.1 hh).1 hC)
theorem OwnN.gby {B : Nat} {w0 w1 w2 : World} {v : Value} {l : List Nat} (h : OwnN B w1 v l) (hb : Below B w0 w1) (hB : B ≤ w1.heap.size) (hg : w1.grownBy w2 v.ownBlock) : Below B w0 w2 := by
  refine hb.trans ⟨hg.os, hg.tape, hg.output, hg.size, fun k hk => hg.block k (Nat.lt_of_lt_of_le hk hB) (fun e => ?_)⟩
  obtain ⟨_, ⟨rfl, _⟩ | ⟨g, cap, cur, rfl, hg1, _⟩⟩ := h
  · cases e
  · have : g = k := by have e2 := e.symm; simpa [Value.ownBlock] using e2
    omega
theorem OwnN.mk {B : Nat} {w : World} {v : Value} {l : List Nat} {b : Nat} (h : w.ownsRow B 3 1 v (l.length + 1) (l.map (fun n : Nat => Value.int .i64 n) ++ [Value.int .i64 (b : Int)])) : OwnN B w v (l ++ [b]) := by
  unfold OwnN
  rw [List.length_append, List.map_append]
  exact h
/-- A slice that holds numbers. -/
def RowN (w : World) (v : Value) (l : List Nat) : Prop :=
  (∃ p cap, v = .slice p 0 cap ∧ l = []) ∨ ∃ b off cap, v = .slice (some ⟨b, off, none⟩) l.length cap ∧ b < w.heap.size ∧ ∀ j x, l[j]? = some x → w.cell? ⟨b, off + j, none⟩ = some (.int .i64 (x : Nat))
theorem OwnN.row {B : Nat} {w : World} {v : Value} {l : List Nat} (h : OwnN B w v l) : RowN w v l := by
  have hc := fun g (hg : v.ownBlock = some g) => World.ownsRow.cells h (g := g) hg
  obtain ⟨h1, ⟨rfl, h2⟩ | ⟨g, cap, cur, rfl, hg, hh, _⟩⟩ := h
  · exact .inl ⟨none, 0, rfl, List.eq_nil_of_length_eq_zero h2⟩
  · refine .inr ⟨g, 0, cap, rfl, (Array.getElem?_eq_some_iff.1 hh).1, fun j x hj => ?_⟩
    have := hc g rfl j (.int .i64 x) (by rw [List.getElem?_map, hj]; rfl)
    rw [Nat.zero_add]; have e : (⟨g, 0, none⟩ : Addr).add j = ⟨g, j, none⟩ := by simp [Addr.add]; intro h; exact h.symm
    rw [e] at this; exact this
theorem RowN.below {C : Nat} {w w' : World} {v : Value} {l : List Nat} (h : RowN w v l) (hb : Below C w w') (hC : w.heap.size ≤ C) : RowN w' v l := by
  rcases h with h | ⟨b, off, cap, h1, h2, h3⟩
  · exact .inl h
  · exact .inr ⟨b, off, cap, h1, Nat.lt_of_lt_of_le h2 hb.size, fun j x hj => keepB (Below.mono hb hC) (h3 j x hj) h2⟩
theorem RowN.at {w : World} {v : Value} {l : List Nat} (h : RowN w v l) {j : Nat} (hj : j < l.length) : ∃ b off cap x, v = .slice (some ⟨b, off, none⟩) l.length cap ∧ l[j]? = some x ∧ w.cell? ⟨b, off + j, none⟩ = some (.int .i64 (x : Nat)) := by
  rcases h with ⟨_, _, rfl, rfl⟩ | ⟨b, off, cap, h1, h2, h3⟩
  · exact absurd hj (by simp)
  · exact ⟨b, off, cap, l[j], h1, List.getElem?_eq_getElem hj, h3 j _ (List.getElem?_eq_getElem hj)⟩
theorem RowN.len {w : World} {v : Value} {l : List Nat} (h : RowN w v l) : ∃ p cap, v = .slice p l.length cap := by
  rcases h with ⟨p, cap, rfl, rfl⟩ | ⟨b, off, cap, h1, h2, h3⟩
  · exact ⟨p, cap, rfl⟩
  · exact ⟨_, cap, h1⟩
/-- The slice of texts that came in. -/
theorem rowS_of_strs {w : World} {a : Option Addr} {len cap : Nat} {ss : List ByteArray} (h : IsStrs w a len cap ss) (n : Nat) (hn : n ≤ len) : RowS w (.slice a n cap) (ss.take n) := by
  by_cases h0 : n = 0
  · subst h0; exact .inl ⟨_, _, rfl, by simp⟩
  rcases isStrs_cases h with h1 | ⟨b, off, rfl, _, _, hcap, hb, hc, _, hl⟩
  · omega
  · refine .inr ⟨b, off, cap, ?_, hb, fun j x hj => ?_⟩
    · rw [List.length_take, Nat.min_eq_left (by omega)]
    · have hjn : j < n := by
        have := (List.getElem?_eq_some_iff.1 hj).1
        rw [List.length_take] at this; omega
      have := hc j (by omega)
      rw [List.getElem?_take, if_pos hjn] at hj
      rw [List.getD_eq_getElem?_getD, hj] at this
      exact this

theorem frames_le (l : List ByteArray) (h : ∀ b ∈ l, b.size ≤ 60) : (frames l).size ≤ 67 * l.length := by
  induction l with
  | nil => exact Nat.zero_le _
  | cons b r ih =>
    show (sealB b ++ frames r).size ≤ _
    have h1 := h b (by simp)
    have h2 := ih (fun x hx => h x (by simp [hx]))
    rw [ByteArray.size_append, sealB_size, List.length_cons]
    omega
/-- Where the frames end. -/
def endL (bs : List ByteArray) (j : Nat) : List Nat := (List.range j).map fun i => endE bs (i + 1)
theorem endL_length (bs : List ByteArray) (j : Nat) : (endL bs j).length = j := by simp [endL]
theorem endL_succ (bs : List ByteArray) (j : Nat) : endL bs (j + 1) = endL bs j ++ [endE bs (j + 1)] := by unfold endL; rw [List.range_succ, List.map_append]; rfl
theorem endL_at (bs : List ByteArray) (j k x : Nat) (h : (endL bs j)[k]? = some x) : x = endE bs (k + 1) := by
  unfold endL at h
  rw [List.getElem?_map] at h
  by_cases hk : k < j
  · rw [List.getElem?_range hk] at h; simpa using h.symm
  · rw [List.getElem?_eq_none (by simp; omega)] at h; cases h
set_option maxRecDepth 100000 in
set_option maxHeartbeats 3200000 in
theorem walk_FrameTorn (a : Option Addr) (len cap : Nat) (ss : List ByteArray) (cut at_ by_ : Int) (w : World) (w0 : IsStrs w a len cap ss) (w1 : (Lit.int .i64 cut).wf = true) (w2 : (Lit.int .i64 at_).wf = true) (w3 : (Lit.int .u8 by_).wf = true) :
    Calls Try.prog 10 #[.slice a len cap, .agg #[.int .i64 cut, .int .i64 at_], .int .u8 by_] w fun e w' => e = .returned (.bool true) ∧ Below w.heap.size w w' := by
  have hl0 : len ≤ maxLen := by
    rcases isStrs_cases w0 with h | ⟨_, _, _, _, h, _⟩
    · unfold maxLen; omega
    · exact h
  have hu87 := Try.underlying87
  by_cases hbig : 12 < len
  · unfold maxLen at hl0
    have hbI : (12 : Int) < (len : Int) := by omega
    clear w0 w1 w2 w3
    go_enter Try.func10, Try.ntmps10
    go_wp2_with fail
    go_region
    go_wp2_with fail
    refine (awake04 _).mono ?_
    rintro e w' ⟨rfl, hb⟩
    have HB := Lib.hid (((Below.refl w.heap.size w).alloc (Nat.le_refl _) (.cells #[.int .i64 cut, .int .i64 at_] 87)).drew.trans (hb.mono (by simp)))
    clear hb
    go_wp2_with fail
    go_ret
    exact ⟨rfl, HB.out⟩
  have hl12 : (len : Int) ≤ 12 := by omega
  obtain ⟨bs, hbs⟩ : ∃ bs, ss.take len = bs := ⟨_, rfl⟩
  have hbl : len = 0 ∨ bs.length = len := by
    rcases isStrs_cases w0 with h | ⟨_, _, _, _, _, _, _, _, _, h⟩
    · exact .inl h
    · right; rw [← hbs, List.length_take]; omega
  have hbl : bs.length = len := by
    rcases hbl with h | h
    · subst h; rw [← hbs]; simp
    · exact h
  have hcap : len ≤ cap ∧ (if cap = 0 then a else Option.map (fun x : Addr => x.add 0) a) = a := by
    rcases w0 with ⟨rfl, rfl, rfl, _⟩ | ⟨x, rfl, h, _⟩
    · exact ⟨Nat.le_refl _, rfl⟩
    · refine ⟨h, ?_⟩
      have : x.add 0 = x := by simp [Addr.add]
      simp [this]
  have HCAP := Lib.hid hcap
  clear hcap
  have RS := Lib.hid (fun n (hn : n ≤ len) => show RowS w (.slice a n cap) (bs.take n) by rw [← hbs, List.take_take, Nat.min_eq_left hn]; exact rowS_of_strs w0 n hn)
  have LE : Hid (∀ b ∈ bs, b.size ≤ maxLen) := Lib.hid (by
    intro b hb
    obtain ⟨j, hj, rfl⟩ := List.getElem_of_mem hb
    rcases isStrs_cases w0 with h | ⟨_, _, _, _, _, _, _, _, h, hlen⟩
    · omega
    · have := h j (by omega)
      rw [List.getD_eq_getElem?_getD, List.getElem?_eq_getElem (by omega)] at this
      subst hbs
      rw [List.getElem_take]
      exact this)
  have BL := Lib.hid hbl
  obtain ⟨i0, hi, hz, hsize, hby⟩ : ∃ i, Try.prog.info? 3 = some i ∧ i.zero = some (.int .i64 0) ∧ i.size = 1 ∧ i.bytes = 8 := ⟨_, rfl, rfl, rfl, rfl⟩
  have HI := Lib.hid hi
  have Hz := Lib.hid hz
  have Hs := Lib.hid hsize
  have Hb := Lib.hid hby
  have W1 := Lib.hid w1
  have W2 := Lib.hid w2
  have W3 := Lib.hid w3
  clear hi hz hsize hby hbl hbs w0 w1 w2 w3 hl0
  have B0 := Lib.hid ((Below.refl w.heap.size w).alloc (Nat.le_refl _) (.cells #[.int .i64 cut, .int .i64 at_] 87)).drew
  go_enter Try.func10, Try.ntmps10
  go_wp2_with fail
  go_region
  go_wp2_with fail
  go_loopg [9, 10, 11] len (fun g s v i wr => ∃ j : Nat, j ≤ len ∧ g = len - j ∧ i = .int .i64 j ∧ s = .string (frames (bs.take j)) ∧ OwnN w.heap.size wr v (endL bs j) ∧ Below w.heap.size w wr ∧ Hid (∀ b ∈ bs.take j, b.size ≤ 60))
  case atStart => exact ⟨0, by omega, rfl, rfl, rfl, OwnN.nil _ _, B0.out, Lib.hid (by simp)⟩
  case round =>
    clear B0
    obtain ⟨j, hj, hg, rfl, rfl, hown, hbel, H60⟩ := hrel
    have hg := hg.symm
    subst hg
    have HO := Lib.hid hown
    have HB := Lib.hid hbel
    clear hown hbel
    by_cases hlt : j < len
    · have hjb : j < bs.length := by rw [BL.out]; exact hlt
      obtain ⟨b0, o0, c0, x, e0, g0, k0⟩ := (RowS.below ((RS.out len (Nat.le_refl _))) HB.out (Nat.le_refl _)).at (j := j) (by rw [List.length_take]; omega)
      have hx : bs[j] = x := by
        rw [List.getElem?_take, if_pos hlt, List.getElem?_eq_getElem hjb] at g0
        injection g0
      rw [show (bs.take len).length = len by rw [List.length_take, BL.out]; omega] at e0
      cases e0
      have hxm := LE.out x (by rw [← hx]; exact List.getElem_mem hjb)
      have hx63 : x.size ≤ 9223372036854775807 := by unfold maxLen at hxm; omega
      have HX := Lib.hid hx
      clear g0 hxm hx
      by_cases h60 : 60 < x.size
      · have h60' : (60 : Int) < (x.size : Int) := by omega
        go_wp2_with fail
        refine (awake04 _).mono ?_
        rintro e w' ⟨rfl, hb'⟩
        have HB1 := Lib.hid (HB.out.trans (hb'.mono HB.out.size))
        clear hb'
        go_wp2_with fail
        go_ret
        exact ⟨rfl, HB1.out⟩
      have h60' : (x.size : Int) ≤ 60 := by omega
      have SL := frame_seal x (by omega)
      have SZ := frame_size (x.size : Int)
      rw [if_neg (by omega)] at SZ
      have FS := frames_take bs j hjb
      rw [HX.out] at FS
      have h1 := sealB_size x
      have h0 := frames_le (bs.take j) H60.out
      rw [List.length_take, Nat.min_eq_left (by omega)] at h0
      have H60' : Hid (∀ b ∈ bs.take (j + 1), b.size ≤ 60) := Lib.hid (by
        intro b hb
        rw [List.take_succ_eq_append_getElem hjb, HX.out] at hb
        rcases List.mem_append.1 hb with hb | hb
        · exact H60.out b hb
        · simp at hb; subst hb; omega)
      have hE : endE bs (j + 1) = (frames (bs.take j)).size + (x.size + 7) := by rw [endE_succ bs j hjb, HX.out]; rfl
      obtain ⟨F0, hF0⟩ : ∃ F, frames (bs.take j) = F := ⟨_, rfl⟩
      obtain ⟨F1, hF1⟩ : ∃ F, sealB x = F := ⟨_, rfl⟩
      rw [hF0] at FS h0 hE ⊢
      rw [hF1] at FS h1 SL
      clear hF0 hF1
      have SLH := Lib.hid SL
      have SZH := Lib.hid SZ
      have FSH := Lib.hid FS
      have HE := Lib.hid hE
      have H1 := Lib.hid h1
      have H0 := Lib.hid h0
      have hadd : F0.size + F1.size ≤ 9223372036854775807 := by omega
      clear SL SZ FS hE h0
      go_wp2_with fail
      refine (SLH.out _).mono ?_
      rintro e w1 ⟨rfl, hb1⟩
      have k1 := keepB hb1 k0 (World.block_lt_of_cell? _ _ k0)
      have HB1 := Lib.hid (HB.out.trans (hb1.mono HB.out.size))
      have HO1 := Lib.hid (HO.out.below hb1 (Nat.le_refl _))
      clear hb1 k0
      have hel := endL_length bs j
      have HEL := Lib.hid hel
      clear hel
      go_wp2_with (first
        | (go_at_call 43; refine (SZH.out _).mono ?_; rintro e w2 ⟨rfl, rfl⟩)
        | (at_builtin; refine wpList_append_own _ rfl _ _ 59 rfl w.heap.size 3 i0 (.int .i64 0) 1 8 Try.underlying59 HI.out Hz.out Hs.out Hb.out rfl (by decide) _ (endL bs j).length ((endL bs j).map (fun n : Nat => Value.int .i64 n)) rfl (HO1.out.below ((Below.refl w1.heap.size w1).alloc (Nat.le_refl _) _) (Nat.le_refl _)) ⟨w1.heap.size, 0, none⟩ 1 1 [_] rfl rfl (cell_one_new _ _ _) (by intro u hu; simp at hu; subst hu; rfl) (by have := HEL.out; simp; unfold maxLen; omega) (by have := HEL.out; simp; omega) (by have := HB1.out.size; simp; omega) ?_))
      intro v' w2 hown2 hgrow _
      have hcast : ((F0.size : Int) + ((x.size : Int) + 7)) = ((endE bs (j + 1) : Nat) : Int) := by rw [HE.out]; push_cast; rfl
      rw [hcast] at hown2
      have HO2 : Hid (OwnN w.heap.size w2 v' (endL bs (j + 1))) := Lib.hid (by rw [endL_succ]; exact OwnN.mk hown2)
      have HB2 := Lib.hid (OwnN.gby (HO1.out.below ((Below.refl w1.heap.size w1).alloc (Nat.le_refl _) (.cells #[.int .i64 ((endE bs (j + 1) : Nat) : Int)] 3)) (Nat.le_refl _)) (HB1.out.alloc HB1.out.size _) (by have := HB1.out.size; simp; omega) (by rw [← hcast]; exact hgrow))
      clear hown2 hgrow hcast
      go_wp2_with fail
      go_roundg (len - (j + 1))
      case measure => omega
      case rel => exact ⟨j + 1, by omega, rfl, by go_num, by rw [FSH.out], HO2.out, HB2.out, H60'⟩
    · obtain rfl : j = len := by omega
      have hfr : frames (bs.take j) = frames bs := by rw [List.take_of_length_le (by rw [BL.out]; omega)]
      rw [hfr]
      have H60' : Hid (∀ b ∈ bs, b.size ≤ 60) := Lib.hid (by have := H60.out; rwa [List.take_of_length_le (by rw [BL.out]; omega)] at this)
      have hle := frames_le bs H60'.out
      rw [BL.out] at hle
      obtain ⟨s, hs⟩ : ∃ s, frames bs = s := ⟨_, rfl⟩
      rw [hs] at hle ⊢
      have HS := Lib.hid hs
      have hs804 : (s.size : Int) ≤ 804 := by omega
      clear hfr hs hle H60 hlt hj hg
      obtain ⟨K1, hK1⟩ : ∃ K : Nat, (cut % 65536).toNat = K := ⟨_, rfl⟩
      have hA1 : bits BinOp.and IntKind.i64 cut 65535 = (K1 : Int) := by rw [and65535, hK1]
      obtain ⟨C, hC⟩ : ∃ C, K1 % (s.size + 1) = C := ⟨_, rfl⟩
      have hCle : C ≤ s.size := by have := Nat.mod_lt K1 (show 0 < s.size + 1 by omega); omega
      have hA2 : (K1 : Int) % ((s.size : Int) + 1) = (C : Int) := by rw [← hC]; push_cast; rfl
      have hCI : (C : Int) ≤ (s.size : Int) := by omega
      have hC0 : (0 : Int) ≤ (C : Int) := by omega
      clear hK1 hC
      go_wp2_with fail
      have FA := frame_all (s.extract 0 C) (by rw [ByteArray.size_extract]; omega)
      obtain ⟨r, hr⟩ : ∃ r, allG (s.extract 0 C) 0 = r := ⟨_, rfl⟩
      rw [hr] at FA
      have HR := Lib.hid hr
      clear hr
      obtain ⟨l1, n1⟩ := r
      have FAH := Lib.hid FA
      rw [hA2]
      clear FA hA1 hA2
      refine (FAH.out _).mono ?_
      rintro e w1 ⟨va, rfl, oa, b1⟩
      have B1 := Lib.hid (HB.out.trans (b1.mono HB.out.size))
      have RA := Lib.hid oa.row
      have HO1 := Lib.hid (HO.out.below b1 (Nat.le_refl _))
      have RN := Lib.hid HO1.out.row
      clear b1 oa HO HB
      obtain ⟨pe, ce, e1⟩ := RN.out.len
      rw [endL_length] at e1
      subst e1
      obtain ⟨pa, ca, rfl⟩ := RA.out.len
      go_upto_block 2 with fail
      go_cut [17] (fun s17 wx => ∃ k : Nat, s17 = .int .i64 k ∧ w1 = wx ∧ Hid (k ≤ j ∧ endE bs k ≤ C ∧ (k = j ∨ C < endE bs (k + 1))))
      case first =>
        go_wp2_with fail
        go_loop [17] (fun v => ∃ k : Nat, k ≤ j ∧ endE bs k ≤ C ∧ v = .int .i64 k) (fun v => j - (intOf v).toNat)
        case atStart => exact ⟨0, by omega, Nat.zero_le _, rfl⟩
        case round =>
          obtain ⟨k, hk, hek, rfl⟩ := hrel
          by_cases hlt : k < j
          · obtain ⟨b1, o1, c1, x, e1, g1, k1⟩ := RN.out.at (j := k) (by rw [endL_length]; exact hlt)
            rw [endL_length] at e1
            cases e1
            have hx := endL_at bs j k x g1
            subst hx
            clear g1
            by_cases hx : endE bs (k + 1) ≤ C
            · have hxI : ((endE bs (k + 1) : Nat) : Int) ≤ (C : Int) := by omega
              go_wp2_with fail
              go_round
              case rel => exact ⟨k + 1, by omega, hx, by go_num⟩
              case measure => simp [intOf]; omega
            · have hxI : (C : Int) < ((endE bs (k + 1) : Nat) : Int) := by omega
              go_wp2_with fail
              go_meet
              exact ⟨k, rfl, rfl, Lib.hid ⟨hk, hek, .inr (by omega)⟩⟩
          · obtain rfl : k = j := by omega
            go_wp2_with fail
            go_meet
            exact ⟨k, rfl, rfl, Lib.hid ⟨hk, hek, .inl rfl⟩⟩
      case rest =>
        obtain ⟨k, rfl, rfl, HK⟩ := hcut
        have CL := cut_law bs (fun b hb => by have := H60'.out b hb; omega) C k (by rw [HS.out]; omega) (by rw [BL.out]; exact HK.out.1) HK.out.2.1 (by rw [BL.out]; exact HK.out.2.2)
        rw [HS.out, HR.out] at CL
        obtain ⟨hl1, hn1⟩ := Prod.mk.inj CL
        have HL1 := Lib.hid hl1
        have HRB : Hid (RowS w (.slice a k cap) l1) := Lib.hid (by rw [hl1]; exact RS.out k HK.out.1)
        clear CL HR FAH hl1
        have hkj := HK.out.1
        have hkc : (k : Int) ≤ (cap : Int) := by have := HCAP.out.1; omega
        have hkx : k ≤ cap := by omega
        have hk0 : (0 : Int) ≤ (k : Int) := by omega
        have hln : l1.length ≤ 1000000 := by have := HL1.out; rw [this, List.length_take]; omega
        have LN := Lib.hid hln
        have hsl := HCAP.out.2
        obtain ⟨E, hE⟩ : ∃ E, endE bs k = E := ⟨_, rfl⟩
        obtain rfl : n1 = E := hn1.trans hE
        have HE := Lib.hid hE
        clear hn1 hE hln
        go_upto_region 21 with fail
        go_cut [127] (fun s127 wx => s127 = .bool false ∧ Below w1.heap.size w1 wx)
        case first =>
          go_wp2_with fail
          refine (ref04_same _ _ l1 LN.out w1 RA.out (HRB.out.below B1.out (Nat.le_refl _))).mono ?_
          rintro e w2 ⟨rfl, b2⟩
          have RN2 := Lib.hid (RN.out.below b2 (Nat.le_refl _))
          have B2 := Lib.hid b2
          clear b2
          by_cases h0 : k = 0
          · subst h0
            have hn0 : n1 = 0 := by have := HE.out; rw [endE_zero] at this; omega
            subst hn0
            go_wp2_with fail
            go_meet
            exact ⟨rfl, B2.out⟩
          · obtain ⟨b1, o1, c1, x, e1, g1, k1⟩ := RN2.out.at (j := k - 1) (by rw [endL_length]; omega)
            rw [endL_length] at e1
            cases e1
            have hx := endL_at bs j (k - 1) x g1
            rw [Nat.sub_add_cancel (by omega), HE.out] at hx
            subst hx
            clear g1
            have hkpos : (0 : Int) < (k : Int) := by omega
            have hkI : (k : Int) ≤ (j : Int) := by omega
            have hkn : ((k : Int) - 1).toNat = k - 1 := by omega
            have hne : ((k : Int) == 0) = false := by simp; omega
            go_wp2_with fail
            go_meet
            exact ⟨rfl, B2.out⟩
        case rest =>
          obtain ⟨rfl, b2⟩ := hcut
          have B2 := Lib.hid (B1.out.trans (b2.mono B1.out.size))
          have RN2 := Lib.hid (RN.out.below b2 (Nat.le_refl _))
          clear b2 B1 RN RA HRB HO1 LN hkj HL1 HE HK
          obtain ⟨w3, rfl⟩ : ∃ w3, w3 = wc := ⟨_, rfl⟩
          have hby := bounds_u8 W3.out
          obtain ⟨t, rfl⟩ : ∃ t : Nat, by_ = t := ⟨by_.toNat, by omega⟩
          have ht : t < 256 := by omega
          clear hby
          by_cases hz : s.size = 0
          · have hz1 : ((s.size : Int) == 0) = true := by simp [hz]
            clear hz
            go_wp2_with fail
            refine (awake04 _).mono ?_
            rintro e w4 ⟨rfl, b4⟩
            have B4 := Lib.hid (B2.out.trans (b4.mono B2.out.size))
            clear b4
            go_wp2_with fail
            go_ret
            exact ⟨rfl, B4.out⟩
          have hz1 : ((s.size : Int) == 0) = false := by rw [beq_eq_false_iff_ne]; omega
          by_cases ht0 : t = 0
          · have ht1 : ((t : Int) == 0) = true := by simp [ht0]
            clear ht0
            go_wp2_with fail
            refine (awake04 _).mono ?_
            rintro e w4 ⟨rfl, b4⟩
            have B4 := Lib.hid (B2.out.trans (b4.mono B2.out.size))
            clear b4
            go_wp2_with fail
            go_ret
            exact ⟨rfl, B4.out⟩
          have ht1 : ((t : Int) == 0) = false := by simp; omega
          have hzp : 0 < s.size := by omega
          obtain ⟨K2, hK2⟩ : ∃ K : Nat, (at_ % 65536).toNat = K := ⟨_, rfl⟩
          have hA1 : bits BinOp.and IntKind.i64 at_ 65535 = (K2 : Int) := by rw [and65535, hK2]
          obtain ⟨q, hq⟩ : ∃ q, K2 % s.size = q := ⟨_, rfl⟩
          have hqlt : q < s.size := by have := Nat.mod_lt K2 hzp; omega
          have hA2 : (K2 : Int) % (s.size : Int) = (q : Int) := by rw [← hq]; push_cast; rfl
          have hqI : (q : Int) < (s.size : Int) := by omega
          have hq0 : (0 : Int) ≤ (q : Int) := by omega
          clear hK2 hq
          have hconv := fun w => Lib.run_convert_string_bytes (P := Try.prog) w 9 30 5 s Try.underlying9 Try.underlying30 Try.underlying5
          go_upto_region 27 with fail
          rw [hA2]
          clear hA1 hA2 hconv
          have hC := bytes_cell w3 5 s
          have BX := Lib.hid (B2.out.trans ((bytes_below w3 5 s).mono B2.out.size))
          have RN3 := Lib.hid (RN2.out.below (bytes_below w3 5 s) (Nat.le_refl _))
          have hsz3 : w3.heap.size < (Lib.bytesWorld w3 5 s).heap.size := by rw [Lib.bytesWorld_size]; omega
          have HB2s := Lib.hid B2.out.size
          have BW := Lib.hid (bytes_below w3 5 s)
          clear B2 RN3
          obtain ⟨g, hg⟩ : ∃ g, w3.heap.size = g := ⟨_, rfl⟩
          rw [hg] at hC hsz3 HB2s BW ⊢
          generalize Lib.bytesWorld w3 5 s = wb at *
          generalize grownCap w3 s.size 0 5 = cb at *
          have HG := Lib.hid hg
          clear hg
          have HC := Lib.hid hC
          have hcell := (hC q hqlt).1
          have hfree := (hC q hqlt).2
          clear hC
          have hxor : bits BinOp.xor IntKind.u8 ((byteN s q : Nat) : Int) (t : Int) = ((byteN s q ^^^ t : Nat) : Int) := u8_xor_nat _ _ (byteN_lt s q) ht
          go_upto_region 28 with fail
          have HTC := Lib.hid (turn_cells wb g s q t ht hqlt (fun j hj => (HC.out j hj).1))
          have B5 := Lib.hid (BX.out.setCell (p := ⟨g, q, none⟩) HB2s.out (.int .u8 ((byteN s q ^^^ t : Nat) : Int)))
          have RN5 := Lib.hid (RN2.out.below (BW.out.setCell (p := ⟨g, q, none⟩) (Nat.le_refl g) (.int .u8 ((byteN s q ^^^ t : Nat) : Int))) (by rw [HG.out]; exact Nat.le_refl _))
          clear hxor hcell hfree HC BX BW RN2 HG hsz3
          obtain ⟨w5, hw5⟩ : ∃ w5, wb.setCell ⟨g, q, none⟩ (.int .u8 ((byteN s q ^^^ t : Nat) : Int)) = w5 := ⟨_, rfl⟩
          rw [hw5] at HTC B5 RN5 ⊢
          clear hw5
          have hback := run_convert_bytes_arg (P := Try.prog) w5 30 5 Try.underlying30 Try.underlying5 g 0 s.size cb (turnNums s q t) (turn_length s q t) HTC.out 9 Try.underlying9
          rw [turn_back] at hback
          have SP := Lib.hid (fun (k' : Nat) (h1 : k' < j) (h2 : endE bs k' ≤ q) (h3 : q < endE bs (k' + 1)) (h4 : q - endE bs k' ≠ 1) (h5 : q - endE bs k' ≠ 2) =>
            spoilt_law bs (fun b hb => by have := H60'.out b hb; omega) q k' (by rw [BL.out]; exact h1) h2 h3 h4 h5 (turned s q t) (fun h => by
              have hh : q < s.size := hqlt
              have e : (frames bs)[q]'h = s[q]'hh := by congr 1
              rw [e]
              exact turned_ne s q t ht ht0 hh))
          rw [HS.out] at SP
          have husz := setB_size s q (turned s q t)
          obtain ⟨u, hu⟩ : ∃ u, setB s q (turned s q t) = u := ⟨_, rfl⟩
          rw [hu] at hback SP husz
          have FA := frame_all u (by omega)
          obtain ⟨r, hr⟩ : ∃ r, allG u 0 = r := ⟨_, rfl⟩
          rw [hr] at FA SP
          clear hr hu husz HTC
          obtain ⟨l2, n2⟩ := r
          have FAH := Lib.hid FA
          clear FA
          go_wp2_with fail
          refine (FAH.out _).mono ?_
          rintro e w6 ⟨vb, rfl, ob, b6⟩
          have B6 := Lib.hid (B5.out.trans (b6.mono B5.out.size))
          have RB := Lib.hid ob.row
          have RN := Lib.hid (RN5.out.below b6 (Nat.le_refl _))
          clear b6 ob B5 RN5 hback FAH
          obtain ⟨pb, cb2, rfl⟩ := RB.out.len
          go_upto_block 4 with fail
          go_cut [22] (fun s22 wx => ∃ k : Nat, s22 = .int .i64 k ∧ w6 = wx ∧ Hid (k ≤ j ∧ endE bs k ≤ q ∧ (k = j ∨ q < endE bs (k + 1))))
          case first =>
            go_wp2_with fail
            go_loop [22] (fun v => ∃ k : Nat, k ≤ j ∧ endE bs k ≤ q ∧ v = .int .i64 k) (fun v => j - (intOf v).toNat)
            case atStart => exact ⟨0, by omega, Nat.zero_le _, rfl⟩
            case round =>
              obtain ⟨k, hk, hek, rfl⟩ := hrel
              by_cases hlt : k < j
              · obtain ⟨b1, o1, c1, x, e1, g1, k1⟩ := RN.out.at (j := k) (by rw [endL_length]; exact hlt)
                rw [endL_length] at e1
                cases e1
                have hx := endL_at bs j k x g1
                subst hx
                clear g1
                by_cases hx : endE bs (k + 1) ≤ q
                · have hxI : ((endE bs (k + 1) : Nat) : Int) ≤ (q : Int) := by omega
                  go_wp2_with fail
                  go_round
                  case rel => exact ⟨k + 1, by omega, hx, by go_num⟩
                  case measure => simp [intOf]; omega
                · have hxI : (q : Int) < ((endE bs (k + 1) : Nat) : Int) := by omega
                  go_wp2_with fail
                  go_meet
                  exact ⟨k, rfl, rfl, Lib.hid ⟨hk, hek, .inr (by omega)⟩⟩
              · obtain rfl : k = j := by omega
                go_wp2_with fail
                go_meet
                exact ⟨k, rfl, rfl, Lib.hid ⟨hk, hek, .inl rfl⟩⟩
          case rest =>
            obtain ⟨m, rfl, rfl, HK⟩ := hcut
            have hmj : m < j := by
              rcases HK.out with ⟨h1, h2, h3 | h3⟩
              · exfalso
                subst h3
                have h4 := endE_len bs
                rw [BL.out, HS.out] at h4
                omega
              · by_cases hm : m = j
                · exfalso
                  subst hm
                  have h4 := endE_len bs
                  rw [BL.out, HS.out] at h4
                  omega
                · omega
            have h3 : q < endE bs (m + 1) := by rcases HK.out with ⟨h1, h2, h | h⟩ <;> omega
            have SP2 := Lib.hid (SP.out m hmj HK.out.2.1 h3)
            have hEq : endE bs m ≤ q := HK.out.2.1
            clear SP h3 HK
            obtain ⟨E, hE⟩ : ∃ E, endE bs m = E := ⟨_, rfl⟩
            rw [hE] at SP2 hEq
            have HE := Lib.hid hE
            clear hE
            go_upto_if 173 with fail
            go_cut [23] (fun s23 wx => s23 = .int .i64 E ∧ w6 = wx)
            case first =>
              by_cases h0 : m = 0
              · subst h0
                have hn0 : E = 0 := by have := HE.out; rw [endE_zero] at this; omega
                subst hn0
                go_wp2_with fail
                go_meet
                exact ⟨rfl, rfl⟩
              · obtain ⟨b1, o1, c1, x, e1, g1, k1⟩ := RN.out.at (j := m - 1) (by rw [endL_length]; omega)
                rw [endL_length] at e1
                cases e1
                have hx := endL_at bs j (m - 1) x g1
                rw [Nat.sub_add_cancel (by omega), HE.out] at hx
                subst hx
                clear g1
                have hkpos : (0 : Int) < (m : Int) := by omega
                have hkI : (m : Int) ≤ (j : Int) := by omega
                have hkn : ((m : Int) - 1).toNat = m - 1 := by omega
                go_wp2_with fail
                go_meet
                exact ⟨rfl, rfl⟩
            case rest =>
              obtain ⟨rfl, rfl⟩ := hcut
              have hEI : (E : Int) ≤ (q : Int) := by omega
              have hq9 : (q : Int) ≤ 804 := by omega
              by_cases c1 : q - E = 1
              · have hd1 : ((q : Int) - (E : Int) == 1) = true := by rw [beq_iff_eq]; omega
                clear c1 RN RB SP2
                go_wp2_with fail
                refine (awake04 _).mono ?_
                rintro e w7 ⟨rfl, b7⟩
                have B7 := Lib.hid (B6.out.trans (b7.mono B6.out.size))
                clear b7
                go_wp2_with fail
                go_ret
                exact ⟨rfl, B7.out⟩
              have hd1 : ((q : Int) - (E : Int) == 1) = false := by rw [beq_eq_false_iff_ne]; omega
              by_cases c2 : q - E = 2
              · have hd2 : ((q : Int) - (E : Int) == 2) = true := by rw [beq_iff_eq]; omega
                clear c1 c2 RN RB SP2
                go_wp2_with fail
                refine (awake04 _).mono ?_
                rintro e w7 ⟨rfl, b7⟩
                have B7 := Lib.hid (B6.out.trans (b7.mono B6.out.size))
                clear b7
                go_wp2_with fail
                go_ret
                exact ⟨rfl, B7.out⟩
              have hd2 : ((q : Int) - (E : Int) == 2) = false := by rw [beq_eq_false_iff_ne]; omega
              obtain ⟨hl2, _⟩ := Prod.mk.inj (SP2.out c1 c2)
              have HRB : Hid (RowS w (.slice a m cap) l2) := Lib.hid (by rw [hl2]; exact RS.out m (by omega))
              have hln : l2.length ≤ 1000000 := by rw [hl2, List.length_take]; omega
              have LN := Lib.hid hln
              have hkc : (m : Int) ≤ (cap : Int) := by have := HCAP.out.1; omega
              have hkx : m ≤ cap := by omega
              have hsl := HCAP.out.2
              clear c1 c2 RN SP2 hl2 hln
              go_wp2_with fail
              refine (ref04_same _ _ l2 LN.out w6 RB.out (HRB.out.below B6.out (Nat.le_refl _))).mono ?_
              rintro e w7 ⟨rfl, b7⟩
              have B7 := Lib.hid (B6.out.trans (b7.mono B6.out.size))
              clear b7
              go_wp2_with fail
              refine (awake04 _).mono ?_
              rintro e w8 ⟨rfl, b8⟩
              have B8 := Lib.hid (B7.out.trans (b8.mono B7.out.size))
              clear b8
              go_wp2_with fail
              go_ret
              exact ⟨rfl, B8.out⟩
end Go.Proofs.Ytmhlnjgdlcfkhaa
