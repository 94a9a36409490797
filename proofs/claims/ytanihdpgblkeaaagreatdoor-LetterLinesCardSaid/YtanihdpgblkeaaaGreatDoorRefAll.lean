/-
  OctetMath, Octet, OwnI, Ref18, RefNums, RefRight, RefMade, RefPure, RefCheck in one text.
-/
import Derived.Laws.Bits128
import Derived.Test.YtanihdpgblkeaaaGreatDoorBuilder
import Derived.Laws.BytesArg
import Derived.Lib.ConvBytes
import Derived.Test.YtanihdpgblkeaaaGreatDoorEventAll
import Derived.Laws.AppendOwn
import Derived.Maps.AppendAt
import Derived.StillTailTactics
/-! OctetMath -/
namespace Go.Proofs.YtanihdpgblkeaaaGreatDoor.Oct
set_option linter.unusedVariables false
set_option linter.unusedSimpArgs false

/-- So many bytes of a number, the highest one first. -/
def fixB : Nat → Nat → List UInt8
  | _, 0 => []
  | n, k + 1 => fixB (n / 256) k ++ [UInt8.ofNat (n % 256)]
theorem fixB_length (n k : Nat) : (fixB n k).length = k := by
  induction k generalizing n with
  | zero => rfl
  | succ k ih => simp [fixB, ih]
theorem fixB_cons (n k : Nat) : fixB n (k + 1) = UInt8.ofNat (n / 256 ^ k % 256) :: fixB n k := by
  induction k generalizing n with
  | zero => simp [fixB]
  | succ k ih =>
    have e : fixB n (k + 1 + 1) = fixB (n / 256) (k + 1) ++ [UInt8.ofNat (n % 256)] := rfl
    rw [e, ih (n / 256), Nat.div_div_eq_div_mul, show 256 * 256 ^ k = 256 ^ (k + 1) by rw [Nat.pow_succ, Nat.mul_comm]]
    rfl

/-- Seven bits of a number in each byte, the lowest first; all but the last one are marked. -/
def varB (n : Nat) : List UInt8 := if h : n < 128 then [UInt8.ofNat n] else UInt8.ofNat (n % 128 + 128) :: varB (n / 128)
termination_by n
decreasing_by omega
theorem varB_lt {n : Nat} (h : n < 128) : varB n = [UInt8.ofNat n] := by rw [varB, dif_pos h]
theorem varB_ge {n : Nat} (h : ¬ n < 128) : varB n = UInt8.ofNat (n % 128 + 128) :: varB (n / 128) := by rw [varB, dif_neg h]
theorem varB_pos (n : Nat) : 0 < (varB n).length := by
  by_cases h : n < 128
  · rw [varB_lt h]; simp
  · rw [varB_ge h]; simp
theorem varB_length (k n : Nat) (h : n < 128 ^ (k + 1)) : (varB n).length ≤ k + 1 := by
  induction k generalizing n with
  | zero => rw [varB_lt (by simpa using h)]; simp
  | succ k ih =>
    by_cases hn : n < 128
    · rw [varB_lt hn]; simp
    · rw [varB_ge hn, List.length_cons]
      have : n / 128 < 128 ^ (k + 1) := by
        rw [Nat.div_lt_iff_lt_mul (by decide)]
        rw [Nat.pow_succ] at h
        exact h
      have := ih _ this
      omega
theorem varB_nine (n : Nat) (h : n ≤ 9223372036854775807) : (varB n).length ≤ 9 := varB_length 8 n (by
  have : (128 : Nat) ^ 9 = 9223372036854775808 := by decide
  rw [this]; omega)

theorem or128 (n : Nat) (h : n < 128) : bits .or .i64 (n : Int) 128 = ((n + 128 : Nat) : Int) := by
  have e : bits .or .i64 (n : Int) ((128 : Nat) : Int) = ((n ||| 128 : Nat) : Int) :=
    (bits_nat .i64 63 (by decide) (fun m h0 h1 => by rw [IntKind.wrap_i64]; have : (2 : Int) ^ 63 = 9223372036854775808 := by decide
                                                     omega) n 128 (by have : (2 : Nat) ^ 63 = 9223372036854775808 := by decide
                                                                      omega) (by decide)).2
  have e2 : n ||| 128 = n + 128 := by
    have := Nat.two_pow_add_eq_or_of_lt (i := 7) (b := n) h 1
    rw [Nat.or_comm]
    simp at this
    omega
  rw [e2] at e
  exact e

theorem i64_and127 (n : Int) : bits BinOp.and IntKind.i64 n 127 = n % 128 := by
  have h255 : (BitVec.ofInt 64 127).toNat = 2 ^ 7 - 1 := by decide
  have key : (BitVec.ofInt 64 n &&& BitVec.ofInt 64 127).toNat = (n % ((2 ^ 64 : Nat) : Int)).toNat % 2 ^ 7 := by
    rw [BitVec.toNat_and, BitVec.toNat_ofInt, h255, Nat.and_two_pow_sub_one_eq_mod]
  show IntKind.i64.wrap ((BitVec.ofInt 64 n &&& BitVec.ofInt 64 127).toNat : Nat) = n % 128
  rw [key, IntKind.wrap_i64]
  omega
end Go.Proofs.YtanihdpgblkeaaaGreatDoor.Oct

/-! Octet -/
namespace Go.Proofs.YtanihdpgblkeaaaGreatDoor
open Go.RowKit
set_option linter.unusedVariables false
set_option linter.unusedSimpArgs false

/-- A list of bytes as a text. -/
def str (l : List UInt8) : ByteArray := ⟨l.toArray⟩
theorem str_size (l : List UInt8) : (str l).size = l.length := by simp [str, ByteArray.size]
theorem str_list (l : List UInt8) : (str l).data.toList = l := by simp [str]
theorem str_append (a b : List UInt8) : str a ++ str b = str (a ++ b) := by
  apply ByteArray.ext
  simp [str]

theorem lies_own : Lies 121 2 0 := ⟨by decide, by kernel_rfl⟩

theorem str_nums (l : List UInt8) : strOfNums (l.map fun x => (x.toNat : Int)) = str l := by
  apply ByteArray.ext
  have : l.map ((fun n : Int => UInt8.ofNat n.toNat) ∘ fun x : UInt8 => (x.toNat : Int)) = l := by
    induction l with
    | nil => rfl
    | cons a r ih => rw [List.map_cons, ih]; simp
  simp [strOfNums, str, this]

/-- The cells of a block of bytes: so many are those of the list. -/
def Pre (cs : Array Value) (l : List UInt8) : Prop := ∀ j : Nat, j < l.length → cs[j]? = some (.int .u8 (l.getD j 0).toNat)
theorem Pre.push {cs : Array Value} {l : List UInt8} (h : Pre cs l) (hl : l.length < cs.size) (x : UInt8) : Pre (cs.setIfInBounds l.length (.int .u8 x.toNat)) (l ++ [x]) := by
  intro j hj
  by_cases hjl : j = l.length
  · subst hjl
    rw [Array.getElem?_setIfInBounds_self_of_lt hl]
    simp
  · have hjlt : j < l.length := by simp at hj; omega
    rw [Array.getElem?_setIfInBounds_ne (fun e => hjl e.symm), h j hjlt]
    simp [List.getElem?_append_left hjlt]

/-- The bytes of a block as a text. -/
theorem conv_pre (w : World) (b cap : Nat) (cs : Array Value) (T : TypeId) (hb : Blk w b cs T) (l : List UInt8) (h : Pre cs l) :
    (convert 119 9 (.slice (some ⟨b, 0, none⟩) l.length cap)).run Tryz.prog w = .ok (.string (str l)) w := by
  have := run_convert_bytes_arg (P := Tryz.prog) w 119 5 Tryz.underlying119 Tryz.underlying5 b 0 l.length cap (l.map fun x => (x.toNat : Int)) (by simp) (fun j hj => by
    rw [hb.cell (by rw [Nat.zero_add]; exact h j hj)]
    simp [List.getD_eq_getElem?_getD, List.getElem?_eq_getElem hj]) 9 Tryz.underlying9
  rw [str_nums] at this
  exact this

/-- A block's first byte as a text. -/
theorem conv_cell (x : Int) (h0 : 0 ≤ x) (h1 : x < 256) (w : World) (b cap : Nat) (hc : w.cell? ⟨b, 0, none⟩ = some (.int .u8 x)) :
    (convert 119 9 (.slice (some ⟨b, 0, none⟩) 1 cap)).run Tryz.prog w = .ok (.string (str [UInt8.ofNat x.toNat])) w := by
  have := run_convert_bytes_arg (P := Tryz.prog) w 119 5 Tryz.underlying119 Tryz.underlying5 b 0 1 cap [x] rfl (fun j hj => by
    obtain rfl : j = 0 := by omega
    exact hc) 9 Tryz.underlying9
  exact this

theorem below_new {w w1 : World} {v : Value} {t : TypeId} (hb : Below (w.alloc (.cells #[v] t)).drew.heap.size (w.alloc (.cells #[v] t)).drew w1) : w1.cell? ⟨w.heap.size, 0, none⟩ = some v :=
  keepB hb (by go_simp) (by simp)
theorem below_newB {w w1 : World} {v : Value} {t : TypeId} (hb : Below (w.alloc (.cells #[v] t)).drew.heap.size (w.alloc (.cells #[v] t)).drew w1) : Below w.heap.size w w1 :=
  (show Below w.heap.size w (w.alloc (.cells #[v] t)) by go_grown).trans ((below_undrew hb).mono (by simp))
/-- What the bytes of a number are, whatever the number and how many are asked for. -/
def fixAny (n : Nat) (k : Int) : List UInt8 := if k < 1 ∨ 8 < k then [] else Oct.fixB n k.toNat
def varAny (n : Int) : List UInt8 := if n < 0 then [] else Oct.varB n.toNat
end Go.Proofs.YtanihdpgblkeaaaGreatDoor

/-! OwnI -/
namespace Go.Proofs.YtanihdpgblkeaaaGreatDoor
open Go.RowKit
set_option linter.unusedVariables false
set_option linter.unusedSimpArgs false

/-- A row of numbers of the call's own. -/
def OwnI (B : Nat) (w : World) (v : Value) (l : List Int) : Prop := w.ownsRow B 3 1 v l.length (l.map (Value.int .i64))
theorem OwnI.nil (B : Nat) (w : World) : OwnI B w (.slice none 0 0) [] := ⟨rfl, .inl ⟨rfl, rfl⟩⟩
theorem OwnI.below {B C : Nat} {w w' : World} {v : Value} {l : List Int} (h : OwnI B w v l) (hb : Below C w w') (hC : w.heap.size ≤ C) : OwnI B w' v l := by
  obtain ⟨h1, h2 | ⟨g, cap, cur, rfl, hg, hh, rest⟩⟩ := h
  · exact ⟨h1, .inl h2⟩
  · refine ⟨h1, .inr ⟨g, cap, cur, rfl, hg, ?_, rest⟩⟩
    rw [← hh]
    exact hb.block g (Nat.lt_of_lt_of_le (Array.getElem?_eq_some_iff.1 hh).1 hC)
theorem OwnI.gby {B : Nat} {w0 w1 w2 : World} {v : Value} {l : List Int} (h : OwnI B w1 v l) (hb : Below B w0 w1) (hB : B ≤ w1.heap.size) (hg : w1.grownBy w2 v.ownBlock) : Below B w0 w2 := by
  refine hb.trans ⟨hg.os, hg.tape, hg.output, hg.size, fun k hk => hg.block k (Nat.lt_of_lt_of_le hk hB) (fun e => ?_)⟩
  obtain ⟨_, ⟨rfl, _⟩ | ⟨g, cap, cur, rfl, hg1, _⟩⟩ := h
  · cases e
  · have : g = k := by have e2 := e.symm; simpa [Value.ownBlock] using e2
    omega
theorem OwnI.mono {B C : Nat} {w : World} {v : Value} {l : List Int} (h : OwnI B w v l) (hC : C ≤ B) : OwnI C w v l := by
  obtain ⟨h1, h2 | ⟨g, cap, cur, rfl, hg, hh, rest⟩⟩ := h
  · exact ⟨h1, .inl h2⟩
  · exact ⟨h1, .inr ⟨g, cap, cur, rfl, Nat.le_trans hC hg, hh, rest⟩⟩
theorem OwnI.mk {B : Nat} {w : World} {v : Value} {l : List Int} {b : Int} (h : w.ownsRow B 3 1 v (l.length + 1) (l.map (Value.int .i64) ++ [Value.int .i64 b])) : OwnI B w v (l ++ [b]) := by
  unfold OwnI
  rw [List.length_append, List.map_append]
  exact h
theorem OwnI.row {B : Nat} {w : World} {v : Value} {l : List Int} (h : OwnI B w v l) : RowV B w v (l.map (Value.int .i64)) := by
  have hc := fun g (hg : v.ownBlock = some g) => World.ownsRow.cells h (g := g) hg
  obtain ⟨h1, ⟨rfl, h2⟩ | ⟨g, cap, cur, rfl, hg, hh, _⟩⟩ := h
  · exact .inl ⟨none, 0, rfl, by rw [List.eq_nil_of_length_eq_zero h2]; rfl⟩
  · refine .inr ⟨g, 0, cap, by rw [List.length_map], hg, (Array.getElem?_eq_some_iff.1 hh).1, fun j x hj => ?_⟩
    have := hc g rfl j x hj
    rw [Nat.zero_add]; have e : (⟨g, 0, none⟩ : Addr).add j = ⟨g, j, none⟩ := by simp [Addr.add]; intro h; exact h.symm
    rw [e] at this; exact this
theorem OwnI.len {B : Nat} {w : World} {v : Value} {l : List Int} (h : OwnI B w v l) : ∃ p cap, v = .slice p l.length cap := by
  obtain ⟨p, cap, e⟩ := h.row.len
  rw [List.length_map] at e
  exact ⟨p, cap, e⟩
set_option maxRecDepth 100000 in
/-- One number more, as an operation of the walk. -/
theorem ev_appI {ops : Array Oper} {rest : List Oper} {o : Oper} {a : Act} {Q : Exit → Act → World → Prop} {w : World} (hgd : o.guard = none) (s x : Operand)
    (ho : o.op = .call { callee := .builtin .append, args := #[s, x], argTypes := #[60, 60] }) (B : Nat) (w0 : World) (v : Value) (l : List Int) (hs : a.eval s = v) (h : OwnI B w v l) (hb : Below B w0 w) (hB : B ≤ w.heap.size)
    (g : Nat) (n : Int) (hx : a.eval x = .slice (some ⟨g, 0, none⟩) 1 1) (hg : w.cell? ⟨g, 0, none⟩ = some (.int .i64 n)) (hl : l.length ≤ 1000000)
    (hk : ∀ v' w', OwnI B w' v' (l ++ [n]) → Below B w0 w' → w.grownBy w' v.ownBlock → wpList Tryz.prog ops Q rest (a.put o.dst v') w') : wpList Tryz.prog ops Q (o :: rest) a w := by
  obtain ⟨i0, hi, hz, hsz, hby⟩ : ∃ i, Tryz.prog.info? 3 = some i ∧ i.zero = some (.int .i64 0) ∧ i.size = 1 ∧ i.bytes = 8 := ⟨_, rfl, rfl, rfl, rfl⟩
  refine wpList_append_own _ hgd s x 60 ho B 3 i0 (.int .i64 0) 1 8 Tryz.underlying60 hi hz hsz hby rfl (by decide) v l.length (l.map (Value.int .i64)) hs h ⟨g, 0, none⟩ 1 1 [.int .i64 n] hx rfl ?_ ?_ ?_ ?_ hB ?_
  · intro j u hj
    match j, hj with
    | 0, hj => simp at hj; subst hj; simpa [Addr.add] using hg
    | j + 1, hj => simp at hj
  · intro u hu; simp at hu; subst hu; rfl
  · unfold maxLen; omega
  · omega
  · intro v' w' hown hgr _
    exact hk v' w' (OwnI.mk hown) (OwnI.gby h hb hB hgr) hgr
end Go.Proofs.YtanihdpgblkeaaaGreatDoor

/-! Ref18 -/
namespace Go.Proofs.YtanihdpgblkeaaaGreatDoor
open Go.RowKit
set_option linter.unusedVariables false
set_option linter.unusedSimpArgs false

/-- The letters of what a kind names. -/
def nm (k : Int) : List UInt8 :=
  if k = 1 ∨ k = 2 then [78, 73, 82] else if k = 3 then [78, 73] else if k = 4 then [74, 80, 82] else if k = 5 then [74] else if k = 6 ∨ k = 7 then [74, 78, 73] else []
/-- What a letter names. -/
def ch (c : UInt8) : List Nat := if c = 78 then [1] else if c = 73 then [3] else if c = 74 then [2] else if c = 80 then [4] else [5, 6, 7]
theorem nm_none {k : Int} (h : k ≠ 1 ∧ k ≠ 2 ∧ k ≠ 3 ∧ k ≠ 4 ∧ k ≠ 5 ∧ k ≠ 6 ∧ k ≠ 7) : nm k = [] := by
  unfold nm
  rw [if_neg (by omega), if_neg (by omega), if_neg (by omega), if_neg (by omega), if_neg (by omega)]
theorem nm_offs (k : Int) : (nm k).flatMap ch = offs k := by
  rcases kind_cases k with rfl | rfl | rfl | rfl | rfl | rfl | rfl | h
  all_goals first | rfl | (rw [nm_none h, offs_none h]; rfl)
theorem nm_nil (k : Int) : nm k = [] ↔ offs k = [] := by
  rcases kind_cases k with rfl | rfl | rfl | rfl | rfl | rfl | rfl | h
  all_goals first | (rw [nm_none h, offs_none h]; simp) | simp [nm, offs]
theorem nm_length (k : Int) : (nm k).length ≤ 3 := by
  rcases kind_cases k with rfl | rfl | rfl | rfl | rfl | rfl | rfl | h
  all_goals first | decide | (rw [nm_none h]; simp)
theorem nm_mem (k : Int) (c : UInt8) (h : c ∈ nm k) : c = 78 ∨ c = 73 ∨ c = 74 ∨ c = 80 ∨ c = 82 := by
  rcases kind_cases k with rfl | rfl | rfl | rfl | rfl | rfl | rfl | hk
  all_goals first | (rw [nm_none hk] at h; simp at h; done) | (simp [nm] at h; rcases h with h | h | h <;> simp [h]; done) | (simp [nm] at h; rcases h with h | h <;> simp [h]; done) | (simp [nm] at h; simp [h]; done)
set_option maxRecDepth 100000 in
set_option maxHeartbeats 800000 in
theorem ref18_names (k : Int) (w : World) : Calls Tryz.prog 59 #[.int .i64 k] w fun e w' => e = .returned (.string (str (nm k))) ∧ Below w.heap.size w w' := by
  rcases kind_cases k with rfl | rfl | rfl | rfl | rfl | rfl | rfl | h
  iterate 7
    · go_enter Tryz.func59, Tryz.ntmps59
      go_wp2_with fail
      go_ret
      exact ⟨rfl, (Below.refl _ _).alloc (Nat.le_refl _) _⟩
  rw [nm_none h]
  by_cases h1 : k < 1
  · clear h
    go_enter Tryz.func59, Tryz.ntmps59
    go_wp2_with fail
    go_ret
    exact ⟨rfl, (Below.refl _ _).alloc (Nat.le_refl _) _⟩
  · have h2 : 7 < k := by omega
    have h1' : 1 ≤ k := by omega
    clear h h1
    go_enter Tryz.func59, Tryz.ntmps59
    go_wp2_with fail
    go_ret
    exact ⟨rfl, (Below.refl _ _).alloc (Nat.le_refl _) _⟩
end Go.Proofs.YtanihdpgblkeaaaGreatDoor

/-! RefNums -/
namespace Go.Proofs.YtanihdpgblkeaaaGreatDoor
open Go.RowKit
set_option linter.unusedVariables false
set_option linter.unusedSimpArgs false

/-- The numbers that an event's kind names. -/
def numsL (l : List Int) : List Int := (offs (fld l 0)).map (fld l)
theorem part_le (k : Int) (i : Nat) : (((nm k).take i).flatMap ch).length ≤ 5 := by
  have h := offs_length k
  rw [← nm_offs, ← List.take_append_drop i (nm k), List.flatMap_append, List.length_append] at h
  omega
theorem part_succ (l : List Int) (k : Int) (i : Nat) (c : UInt8) (h : (nm k)[i]? = some c) : (((nm k).take (i + 1)).flatMap ch).map (fld l) = (((nm k).take i).flatMap ch).map (fld l) ++ (ch c).map (fld l) := by
  obtain ⟨hi, e⟩ := List.getElem?_eq_some_iff.1 h
  rw [List.take_succ_eq_append_getElem hi, List.flatMap_append, List.map_append, e]
  simp
set_option maxRecDepth 100000 in
set_option maxHeartbeats 1600000 in
theorem ref18_numbers (l : List Int) (hl : l.length = 8) (w : World) :
    Calls Tryz.prog 61 #[.agg (cellsI l)] w fun e w' => ∃ v, e = .returned v ∧ OwnI w.heap.size w' v (numsL l) ∧ Below w.heap.size w w' := by
  obtain ⟨K, hK⟩ : ∃ K, fld l 0 = K := ⟨_, rfl⟩
  have HCC := Lib.hid (fun i (h : i < 8) => show (cellsI l)[i]? = some (.int .i64 (fld l i)) from cellsI_at (by omega))
  have HF : Hid (numsL l = ((nm K).flatMap ch).map (fld l)) := Lib.hid (by unfold numsL; rw [nm_offs, hK])
  have HK := Lib.hid hK
  clear hK
  obtain ⟨C, hC⟩ : ∃ C, cellsI l = C := ⟨_, rfl⟩
  rw [hC] at HCC ⊢
  clear hC
  obtain ⟨W, hW⟩ : ∃ W, w.alloc (.cells C 43) = W := ⟨_, rfl⟩
  have hB : Blk W w.heap.size C 43 := by rw [← hW]; exact Blk.new w C _
  have hWs : W.heap.size = w.heap.size + 1 := by rw [← hW]; simp
  have HBL : Hid (Below w.heap.size w W) := Lib.hid (by rw [← hW]; exact (Below.refl w.heap.size w).alloc (Nat.le_refl _) _)
  have HB := Lib.hid hB
  have HWS := Lib.hid hWs
  have HW := Lib.hid hW
  clear hB hWs hW
  have hc0 : W.cell? ⟨w.heap.size, 0, none⟩ = some (.int .i64 K) := HB.out.cell (by rw [← HK.out]; exact HCC.out 0 (by omega))
  go_enter Tryz.func61, Tryz.ntmps61
  go_upto_region 1 with fail
  rw [HW.out]
  go_wp2_with fail
  refine (ref18_names K _).mono ?_
  rintro e w1 ⟨rfl, hb1⟩
  have L1 : Hid (Below (w.heap.size + 1) W w1) := Lib.hid (hb1.mono (by rw [HWS.out]; exact Nat.le_refl _))
  have hm3 := nm_length K
  obtain ⟨m, hm⟩ : ∃ m, (nm K).length = m := ⟨_, rfl⟩
  have hsz : (str (nm K)).size = m := by rw [str_size, hm]
  have hbyte : ∀ i c, (nm K)[i]? = some c → ∀ h : i < (str (nm K)).size, (((str (nm K))[i]'h).toNat : Int) = (c.toNat : Int) := by
    intro i c hc h
    obtain ⟨hi, e⟩ := List.getElem?_eq_some_iff.1 hc
    show (((nm K)[i]'hi).toNat : Int) = _
    rw [e]
  obtain ⟨S, hS⟩ : ∃ S, str (nm K) = S := ⟨_, rfl⟩
  rw [hm] at hm3
  rw [hS] at hsz hbyte ⊢
  have HM := Lib.hid hm
  have HSZ := Lib.hid hsz
  have HBY := Lib.hid hbyte
  have hm63 : S.size ≤ 3 := by omega
  clear hm hS hb1 hc0 hbyte
  go_wp2_with fail
  go_loopg [3, 5] m (fun gg s3 s5 wr => ∃ i : Nat, i ≤ m ∧ gg = m - i ∧ s5 = .int .i64 i ∧ Hid (OwnI (w.heap.size + 1) wr s3 ((((nm K).take i).flatMap ch).map (fld l))) ∧ Hid (Below (w.heap.size + 1) W wr))
  case atStart => exact ⟨0, by omega, rfl, rfl, Lib.hid (OwnI.nil _ _), L1⟩
  case round =>
    clear L1
    obtain ⟨i, hi, hg, rfl, HO, HL⟩ := hrel
    have hg := hg.symm
    subst hg
    by_cases hlt : i < m
    · have hiS : i < S.size := by omega
      have hi0 : (0 : Int) ≤ (i : Int) := by omega
      obtain ⟨c, hc⟩ : ∃ c, (nm K)[i]? = some c := ⟨_, List.getElem?_eq_getElem (by rw [HM.out]; exact hlt)⟩
      have hcc := nm_mem K c (List.mem_of_getElem? hc)
      have hby := HBY.out i c hc hiS
      have hps := part_succ l K i c hc
      have hpl := part_le K i
      rw [← List.length_map (f := fld l)] at hpl
      generalize (((nm K).take i).flatMap ch).map (fld l) = P at HO hps hpl
      have hLs : w.heap.size + 1 ≤ wr.heap.size := by have := HL.out.size; rw [HWS.out] at this; exact this
      go_upto_region 10 with fail
      clear hby hc
      rcases hcc with rfl | rfl | rfl | rfl | rfl
      · have k0 := (HB.out.below HL.out (by omega)).cell (HCC.out 1 (by omega))
        go_wp2_with (with_reducible refine ev_appI rfl (.tmp 38) (.tmp 41) rfl (w.heap.size + 1) W _ _ rfl (HO.out.below ((Below.refl wr.heap.size wr).alloc (Nat.le_refl _) _) (Nat.le_refl _)) (HL.out.alloc (by omega) _) (by simp; omega) wr.heap.size (fld l 1) rfl ((Blk.new wr _ _).cell rfl) (by omega) ?_; intro v2 w2 how2 hlw2 hgw2)
        have HO2 : Hid (OwnI (w.heap.size + 1) w2 v2 ((((nm K).take (i + 1)).flatMap ch).map (fld l))) := Lib.hid (by rw [hps]; exact how2)
        have HL2 := Lib.hid hlw2
        clear how2 hlw2 hgw2 k0
        go_wp2_with fail
        go_roundg (m - (i + 1))
        case measure => omega
        case rel => exact ⟨i + 1, by omega, rfl, by go_num, HO2, HL2⟩
      · have k0 := (HB.out.below HL.out (by omega)).cell (HCC.out 3 (by omega))
        go_wp2_with (with_reducible refine ev_appI rfl (.tmp 45) (.tmp 48) rfl (w.heap.size + 1) W _ _ rfl (HO.out.below ((Below.refl wr.heap.size wr).alloc (Nat.le_refl _) _) (Nat.le_refl _)) (HL.out.alloc (by omega) _) (by simp; omega) wr.heap.size (fld l 3) rfl ((Blk.new wr _ _).cell rfl) (by omega) ?_; intro v2 w2 how2 hlw2 hgw2)
        have HO2 : Hid (OwnI (w.heap.size + 1) w2 v2 ((((nm K).take (i + 1)).flatMap ch).map (fld l))) := Lib.hid (by rw [hps]; exact how2)
        have HL2 := Lib.hid hlw2
        clear how2 hlw2 hgw2 k0
        go_wp2_with fail
        go_roundg (m - (i + 1))
        case measure => omega
        case rel => exact ⟨i + 1, by omega, rfl, by go_num, HO2, HL2⟩
      · have k0 := (HB.out.below HL.out (by omega)).cell (HCC.out 2 (by omega))
        go_wp2_with (with_reducible refine ev_appI rfl (.tmp 52) (.tmp 55) rfl (w.heap.size + 1) W _ _ rfl (HO.out.below ((Below.refl wr.heap.size wr).alloc (Nat.le_refl _) _) (Nat.le_refl _)) (HL.out.alloc (by omega) _) (by simp; omega) wr.heap.size (fld l 2) rfl ((Blk.new wr _ _).cell rfl) (by omega) ?_; intro v2 w2 how2 hlw2 hgw2)
        have HO2 : Hid (OwnI (w.heap.size + 1) w2 v2 ((((nm K).take (i + 1)).flatMap ch).map (fld l))) := Lib.hid (by rw [hps]; exact how2)
        have HL2 := Lib.hid hlw2
        clear how2 hlw2 hgw2 k0
        go_wp2_with fail
        go_roundg (m - (i + 1))
        case measure => omega
        case rel => exact ⟨i + 1, by omega, rfl, by go_num, HO2, HL2⟩
      · have k0 := (HB.out.below HL.out (by omega)).cell (HCC.out 4 (by omega))
        go_wp2_with (with_reducible refine ev_appI rfl (.tmp 59) (.tmp 62) rfl (w.heap.size + 1) W _ _ rfl (HO.out.below ((Below.refl wr.heap.size wr).alloc (Nat.le_refl _) _) (Nat.le_refl _)) (HL.out.alloc (by omega) _) (by simp; omega) wr.heap.size (fld l 4) rfl ((Blk.new wr _ _).cell rfl) (by omega) ?_; intro v2 w2 how2 hlw2 hgw2)
        have HO2 : Hid (OwnI (w.heap.size + 1) w2 v2 ((((nm K).take (i + 1)).flatMap ch).map (fld l))) := Lib.hid (by rw [hps]; exact how2)
        have HL2 := Lib.hid hlw2
        clear how2 hlw2 hgw2 k0
        go_wp2_with fail
        go_roundg (m - (i + 1))
        case measure => omega
        case rel => exact ⟨i + 1, by omega, rfl, by go_num, HO2, HL2⟩
      · have k0 := (HB.out.below HL.out (by omega)).cell (HCC.out 5 (by omega))
        go_upto_region 8 with (with_reducible refine ev_appI rfl (.tmp 18) (.tmp 22) rfl (w.heap.size + 1) W _ _ rfl (HO.out.below ((Below.refl wr.heap.size wr).alloc (Nat.le_refl _) _) (Nat.le_refl _)) (HL.out.alloc (by omega) _) (by simp; omega) wr.heap.size (fld l 5) rfl ((Blk.new wr _ _).cell rfl) (by omega) ?_; intro v2 w2 how2 hlw2 hgw2)
        have HO2 := Lib.hid how2
        have HL2 := Lib.hid hlw2
        clear how2 hlw2 hgw2 k0
        have hz2 : w.heap.size + 1 ≤ w2.heap.size := by have := HL2.out.size; rw [HWS.out] at this; exact this
        have k0 := (HB.out.below HL2.out (by omega)).cell (HCC.out 6 (by omega))
        go_upto_region 9 with (with_reducible refine ev_appI rfl (.tmp 24) (.tmp 28) rfl (w.heap.size + 1) W _ _ rfl (HO2.out.below ((Below.refl w2.heap.size w2).alloc (Nat.le_refl _) _) (Nat.le_refl _)) (HL2.out.alloc (by omega) _) (by simp; omega) w2.heap.size (fld l 6) rfl ((Blk.new w2 _ _).cell rfl) (by simp; omega) ?_; intro v3 w3 how3 hlw3 hgw3)
        have HO3 := Lib.hid how3
        have HL3 := Lib.hid hlw3
        clear how3 hlw3 hgw3 k0
        have hz3 : w.heap.size + 1 ≤ w3.heap.size := by have := HL3.out.size; rw [HWS.out] at this; exact this
        have k0 := (HB.out.below HL3.out (by omega)).cell (HCC.out 7 (by omega))
        go_wp2_with (with_reducible refine ev_appI rfl (.tmp 30) (.tmp 34) rfl (w.heap.size + 1) W _ _ rfl (HO3.out.below ((Below.refl w3.heap.size w3).alloc (Nat.le_refl _) _) (Nat.le_refl _)) (HL3.out.alloc (by omega) _) (by simp; omega) w3.heap.size (fld l 7) rfl ((Blk.new w3 _ _).cell rfl) (by simp; omega) ?_; intro v4 w4 how4 hlw4 hgw4)
        have HO4 : Hid (OwnI (w.heap.size + 1) w4 v4 ((((nm K).take (i + 1)).flatMap ch).map (fld l))) := Lib.hid (by
          rw [hps]
          have e : P ++ (ch 82).map (fld l) = P ++ [fld l 5] ++ [fld l 6] ++ [fld l 7] := by simp [ch]
          rw [e]; exact how4)
        have HL4 := Lib.hid hlw4
        clear how4 hlw4 hgw4 k0
        go_wp2_with fail
        go_roundg (m - (i + 1))
        case measure => omega
        case rel => exact ⟨i + 1, by omega, rfl, by go_num, HO4, HL4⟩
    · obtain rfl : i = m := by omega
      go_wp2_with fail
      go_ret
      exact ⟨_, rfl, by rw [HF.out]; have := HO.out.mono (C := w.heap.size) (by omega); rwa [List.take_of_length_le (by rw [HM.out]; exact Nat.le_refl _)] at this, HBL.out.trans (HL.out.mono (by omega))⟩
end Go.Proofs.YtanihdpgblkeaaaGreatDoor

/-! RefRight -/
namespace Go.Proofs.YtanihdpgblkeaaaGreatDoor
open Go.RowKit
set_option linter.unusedVariables false
set_option linter.unusedSimpArgs false

theorem resB_bad (l : List Int) (k : Nat) (hk : k < 3) (h : inR (fld l k) 0 1048576 = false) : resB l = false := by
  unfold resB
  match k, hk with
  | 0, _ => rw [h]; rfl
  | 1, _ => rw [h]; simp
  | 2, _ => rw [h]; simp
set_option maxRecDepth 100000 in
set_option maxHeartbeats 800000 in
theorem ref08_right (l : List Int) (hl : l.length = 3) (w : World) : Calls Tryz.prog 62 #[.agg (cellsI l)] w fun e w' => e = .returned (.bool (resB l)) ∧ Below w.heap.size w w' := by
  have HCC := Lib.hid (fun i (h : i < 3) => show (cellsI l)[i]? = some (.int .i64 (fld l i)) from cellsI_at (by omega))
  obtain ⟨C, hC⟩ : ∃ C, cellsI l = C := ⟨_, rfl⟩
  rw [hC] at HCC ⊢
  clear hC
  obtain ⟨R, hR⟩ : ∃ R, resB l = R := ⟨_, rfl⟩
  rw [hR]
  have HR := Lib.hid hR
  clear hR
  have HB := Lib.hid (Blk.new w C 23)
  have HL := Lib.hid ((Below.refl w.heap.size w).alloc (Nat.le_refl _) (.cells C 23))
  obtain ⟨W, hW⟩ : ∃ W, w.alloc (.cells C 23) = W := ⟨_, rfl⟩
  rw [hW] at HB HL
  have HW := Lib.hid hW
  clear hW
  go_enter Tryz.func62, Tryz.ntmps62
  go_upto_region 1 with fail
  rw [HW.out]
  go_wp2_with fail
  go_loopg [3] 3 (fun gg s3 wr => ∃ k : Nat, k ≤ 3 ∧ gg = 3 - k ∧ s3 = .int .i64 k ∧ W = wr ∧ Hid (∀ j, j < k → inR (fld l j) 0 1048576 = true))
  case atStart => exact ⟨0, by omega, rfl, rfl, rfl, Lib.hid (fun j h => by omega)⟩
  case round =>
    obtain ⟨k, hk, hg, rfl, rfl, HI⟩ := hrel
    have hg := hg.symm
    subst hg
    by_cases hlt : k < 3
    · have hkI : (k : Int) < 3 := by omega
      have hk0 : (0 : Int) ≤ (k : Int) := by omega
      have c0 := HB.out.cell (HCC.out k hlt)
      have hbad := resB_bad l k hlt
      rw [HR.out] at hbad
      have HBAD := Lib.hid hbad
      have HI2 := Lib.hid (fun (h : inR (fld l k) 0 1048576 = true) j (hj : j < k + 1) => show inR (fld l j) 0 1048576 = true by
        by_cases e : j = k
        · rw [e]; exact h
        · exact HI.out j (by omega))
      clear hbad
      obtain ⟨x, hx⟩ : ∃ x, fld l k = x := ⟨_, rfl⟩
      rw [hx] at c0 HBAD HI2
      clear hx
      by_cases h1 : x < 0
      · have HR2 := Lib.hid (HBAD.out (inR_no (.inl h1)))
        go_wp2_with fail
        go_ret
        exact ⟨by rw [HR2.out]; rfl, HL.out⟩
      · have h1' : 0 ≤ x := by omega
        by_cases h2 : 1048576 < x
        · have HR2 := Lib.hid (HBAD.out (inR_no (.inr h2)))
          go_wp2_with fail
          go_ret
          exact ⟨by rw [HR2.out]; rfl, HL.out⟩
        · have h2' : x ≤ 1048576 := by omega
          have HI3 := Lib.hid (HI2.out (inR_yes h1' h2'))
          go_wp2_with fail
          go_roundg (3 - (k + 1))
          case measure => omega
          case rel => exact ⟨k + 1, by omega, rfl, by go_num, rfl, HI3⟩
    · obtain rfl : k = 3 := by omega
      have HR2 : Hid (R = true) := Lib.hid (by
        rw [← HR.out]; unfold resB
        rw [HI.out 0 (by omega), HI.out 1 (by omega), HI.out 2 (by omega)]; rfl)
      go_wp2_with fail
      go_ret
      exact ⟨by rw [HR2.out]; rfl, HL.out⟩
/-- Numbers laid at places, one by one. -/
def layZ (os : List Nat) (ns : List Int) (d : List Int) : List Int := (os.zip ns).foldl (fun d p => d.set p.1 p.2) d
theorem layZ_length (os : List Nat) : ∀ (ns d : List Int), (layZ os ns d).length = d.length := by
  induction os with
  | nil => intro ns d; rfl
  | cons o r ih =>
    intro ns d
    cases ns with
    | nil => rfl
    | cons n s =>
      show (layZ r s (d.set o n)).length = _
      rw [ih, List.length_set]
theorem layZ_map (l : List Int) (os : List Nat) : ∀ d, layZ os (os.map (fld l)) d = lay l os d := by
  induction os with
  | nil => intro d; rfl
  | cons o r ih => intro d; exact ih _
theorem layZ_append (a b : List Nat) : ∀ (x y d : List Int), a.length = x.length → layZ (a ++ b) (x ++ y) d = layZ b y (layZ a x d) := by
  induction a with
  | nil =>
    intro x y d h
    have : x = [] := List.eq_nil_of_length_eq_zero h.symm
    subst this; rfl
  | cons o r ih =>
    intro x y d h
    cases x with
    | nil => simp at h
    | cons n s => exact ih s y _ (by simpa using h)
end Go.Proofs.YtanihdpgblkeaaaGreatDoor

/-! RefMade -/
namespace Go.Proofs.YtanihdpgblkeaaaGreatDoor
open Go.RowKit
set_option linter.unusedVariables false
set_option linter.unusedSimpArgs false

/-- The places of the first letters. -/
def pre (k : Int) (i : Nat) : List Nat := ((nm k).take i).flatMap ch
theorem pre_succ (k : Int) (i : Nat) (c : UInt8) (h : (nm k)[i]? = some c) : pre k (i + 1) = pre k i ++ ch c := by
  obtain ⟨hi, e⟩ := List.getElem?_eq_some_iff.1 h
  unfold pre
  rw [List.take_succ_eq_append_getElem hi, List.flatMap_append, e]
  simp
theorem pre_le (k : Int) (i : Nat) : (pre k i).length ≤ (offs k).length := by
  unfold pre
  rw [← nm_offs]
  conv => rhs; rw [← List.take_append_drop i (nm k), List.flatMap_append, List.length_append]
  omega
theorem pre_whole (k : Int) : pre k (nm k).length = offs k := by unfold pre; rw [List.take_length, nm_offs]
/-- The event behind so many letters. -/
def madeL (k : Int) (ns : List Int) (i : Nat) : List Int := layZ (pre k i) (ns.take (pre k i).length) (bare k)
theorem madeL_length (k : Int) (ns : List Int) (i : Nat) : (madeL k ns i).length = 8 := by unfold madeL; rw [layZ_length]; rfl
theorem madeL_succ (k : Int) (ns : List Int) (i : Nat) (c : UInt8) (h : (nm k)[i]? = some c) (hn : ns.length = (offs k).length) :
    madeL k ns (i + 1) = layZ (ch c) ((ns.drop (pre k i).length).take (ch c).length) (madeL k ns i) := by
  have h1 := pre_le k (i + 1)
  unfold madeL
  rw [pre_succ k i c h, List.length_append] at *
  rw [List.take_add, layZ_append]
  rw [List.length_take]; omega
theorem drop_one (ns : List Int) (q : Nat) (h : q < ns.length) : (ns.drop q).take 1 = [fld ns q] := by
  rw [List.drop_eq_getElem_cons h, List.take_succ_cons, List.take_zero]; simp [fld, h]
theorem drop_three (ns : List Int) (q : Nat) (h : q + 2 < ns.length) : (ns.drop q).take 3 = [fld ns q, fld ns (q + 1), fld ns (q + 2)] := by
  rw [List.drop_eq_getElem_cons (by omega), List.drop_eq_getElem_cons (by omega), List.drop_eq_getElem_cons (by omega), List.take_succ_cons, List.take_succ_cons, List.take_succ_cons, List.take_zero]
  have h1 : q + 1 < ns.length := by omega
  have h2 : q < ns.length := by omega
  have h3 : q + 1 + 1 < ns.length := by omega
  simp [fld, h, h1, h2, h3]
theorem cell_far3 {w : World} {g : Nat} {p : Addr} {a b c x : Value} (hc : w.cell? p = some x) (h : ¬ g = p.block) :
    (((w.setCell ⟨g, 5, none⟩ a).setCell ⟨g, 6, none⟩ b).setCell ⟨g, 7, none⟩ c).drew.cell? p = some x := by
  have h1 := (World.cell?_setCell_other w ⟨g, 5, none⟩ p a (fun e => h (by rw [← e]))).trans hc
  have h2 := (World.cell?_setCell_other (w.setCell ⟨g, 5, none⟩ a) ⟨g, 6, none⟩ p b (fun e => h (by rw [← e]))).trans h1
  exact (World.cell?_setCell_other ((w.setCell ⟨g, 5, none⟩ a).setCell ⟨g, 6, none⟩ b) ⟨g, 7, none⟩ p c (fun e => h (by rw [← e]))).trans h2
set_option maxRecDepth 100000 in
set_option maxHeartbeats 3200000 in
theorem ref18_made (K : Int) (ns : List Int) (hns : ns.length = (offs K).length) (v : Value) (w : World) (hv : RowV 0 w v (ns.map (Value.int .i64))) :
    Calls Tryz.prog 60 #[.int .i64 K, v] w fun e w' => e = .returned (.agg (cellsI (layZ (offs K) ns (bare K)))) ∧ Below w.heap.size w w' := by
  have hu := Tryz.underlying43
  have HW : Hid (layZ (offs K) ns (bare K) = madeL K ns (nm K).length) := Lib.hid (by unfold madeL; rw [pre_whole, ← hns, List.take_length])
  have HNS := Lib.hid hns
  have hn5 := offs_length K
  rw [← hns] at hn5
  have HV := Lib.hid hv
  obtain ⟨p, cap, rfl⟩ := hv.len
  rw [List.length_map] at HV ⊢
  obtain ⟨RES, hRES⟩ : ∃ R, layZ (offs K) ns (bare K) = R := ⟨_, rfl⟩
  rw [hRES] at HW ⊢
  clear hv hns hRES
  obtain ⟨n, hn⟩ : ∃ n, ns.length = n := ⟨_, rfl⟩
  rw [hn] at HV hn5 ⊢
  have HN := Lib.hid hn
  clear hn
  go_enter Tryz.func60, Tryz.ntmps60
  go_wp2_with fail
  obtain ⟨w1, hw1⟩ : ∃ w1, (w.alloc (.cells (cellsI (bare 0)) 43)).alloc (.cells (cellsI (bare K)) 43) = w1 := ⟨_, rfl⟩
  show Calls _ _ _ ((w.alloc (.cells (cellsI (bare 0)) 43)).alloc (.cells (cellsI (bare K)) 43)) _
  have A1 : Blk w1 w.heap.size (cellsI (bare 0)) 43 := by rw [← hw1]; exact (Blk.new w _ _).alloc _
  have V1 : Blk w1 (w.heap.size + 1) (cellsI (bare K)) 43 := by rw [← hw1]; exact blk_second w _ _ _ _
  have L1 : Below w.heap.size w w1 := by rw [← hw1]; exact ((Below.refl w.heap.size w).alloc (Nat.le_refl _) _).alloc (by simp) _
  rw [hw1]
  clear hw1
  refine (ref18_names K w1).mono ?_
  rintro e w2 ⟨rfl, hb2⟩
  have A2 := Lib.hid (A1.below hb2 A1.lt)
  have V2 := Lib.hid (V1.below hb2 V1.lt)
  have L2 := Lib.hid (L1.trans (hb2.mono L1.size))
  have hz2 : w.heap.size + 1 < w2.heap.size := V2.out.lt
  clear A1 V1 L1 hb2
  have hm3 := nm_length K
  obtain ⟨m, hm⟩ : ∃ m, (nm K).length = m := ⟨_, rfl⟩
  have hsz : (str (nm K)).size = m := by rw [str_size, hm]
  have hbyte : ∀ i c, (nm K)[i]? = some c → ∀ h : i < (str (nm K)).size, (((str (nm K))[i]'h).toNat : Int) = (c.toNat : Int) := by
    intro i c hc h
    obtain ⟨hi, e⟩ := List.getElem?_eq_some_iff.1 hc
    show (((nm K)[i]'hi).toNat : Int) = _
    rw [e]
  obtain ⟨S, hS⟩ : ∃ S, str (nm K) = S := ⟨_, rfl⟩
  rw [hm] at hm3 HW
  rw [hS] at hsz hbyte ⊢
  have HM := Lib.hid hm
  have HSZ := Lib.hid hsz
  have HBY := Lib.hid hbyte
  have hm63 : S.size ≤ 3 := by omega
  clear hm hS hbyte
  go_wp2_with fail
  go_loopg [7, 8] m (fun gg s7 s8 wr => ∃ i : Nat, i ≤ m ∧ gg = m - i ∧ s8 = .int .i64 i ∧ s7 = .int .i64 ((pre K i).length : Nat) ∧ Hid (Blk wr (w.heap.size + 1) (cellsI (madeL K ns i)) 43) ∧ Hid (Chg (fun k => k = w.heap.size + 1) w2 wr))
  case atStart => exact ⟨0, by omega, rfl, rfl, rfl, V2, Lib.hid (Chg.refl _ _)⟩
  case round =>
    clear V2
    obtain ⟨i, hi, hg, rfl, rfl, HX, HC⟩ := hrel
    have hg := hg.symm
    subst hg
    have hXl := madeL_length K ns i
    by_cases hlt : i < m
    · have hiS : i < S.size := by omega
      have hi0 : (0 : Int) ≤ (i : Int) := by omega
      obtain ⟨c, hc⟩ : ∃ c, (nm K)[i]? = some c := ⟨_, List.getElem?_eq_getElem (by rw [HM.out]; exact hlt)⟩
      have hcc := nm_mem K c (List.mem_of_getElem? hc)
      have hby := HBY.out i c hc hiS
      have hms := madeL_succ K ns i c hc HNS.out
      have hpl := pre_le K (i + 1)
      have hps := pre_succ K i c hc
      rw [hps, List.length_append, ← HNS.out, HN.out] at hpl
      have hpl2 : (pre K (i + 1)).length = (pre K i).length + (ch c).length := by rw [hps, List.length_append]
      have HX' := HX
      obtain ⟨D, hD⟩ : ∃ D, madeL K ns i = D := ⟨_, rfl⟩
      rw [hD] at hms HX hXl
      obtain ⟨q, hq⟩ : ∃ q, (pre K i).length = q := ⟨_, rfl⟩
      rw [hq] at hms hpl hpl2 ⊢
      have hcell : ∀ j, j < n → ∃ (b off cp : Nat), p = some ⟨b, off, none⟩ ∧ b < w.heap.size ∧ wr.cell? ⟨b, off + j, none⟩ = some (.int .i64 (fld ns j)) := by
        intro j hj
        obtain ⟨b, off, cp, e1, _, hb, hcj⟩ := HV.out.at (j := j) (by rw [List.length_map, HN.out]; exact hj)
        injection e1 with e2 e3 e4
        refine ⟨b, off, cp, e2, hb, ?_⟩
        have hj2 : j < ns.length := by rw [HN.out]; exact hj
        have k2 := keepB (L2.out) hcj hb
        have k3 := (HC.out.cell (p := ⟨b, off + j, none⟩) (by have := L2.out.size; show b < _; omega) (by show ¬ b = _; omega)).trans k2
        rw [k3]
        simp [fld, hj2]
      have HPL2 := Lib.hid hpl2
      have HMS := Lib.hid hms
      clear hq hD hps hms hpl2 HX'
      rcases hcc with rfl | rfl | rfl | rfl | rfl
      · have hpl : q + 1 ≤ n := hpl
        obtain ⟨b, off, cp, rfl, _, k0⟩ := hcell q (by omega)
        have k1 := HX.out.cell (cellsI_at (l := D) (i := 1) (by omega))
        have k2 := HX.out.free 1
        have hqI : (q : Int) < (n : Int) := by omega
        have hq0 : (0 : Int) ≤ (q : Int) := by omega
        have hstep : Hid (madeL K ns (i + 1) = D.set 1 (fld ns q)) := Lib.hid (by rw [HMS.out]; show layZ [1] _ D = _; rw [show (ch 78).length = 1 from rfl, drop_one ns q (by rw [HN.out]; omega)]; rfl)
        clear hcell HMS
        go_wp2_with fail
        go_roundg (m - (i + 1))
        case measure => omega
        case rel =>
          refine ⟨i + 1, by omega, rfl, by go_num, by rw [HPL2.out]; show _ = Value.int .i64 ((q + 1 : Nat) : Int); go_num, Lib.hid ?_, Lib.hid (HC.out.set (by rfl) _)⟩
          rw [hstep.out, ← cellsI_set]; exact HX.out.set 1 _
      · have hpl : q + 1 ≤ n := hpl
        obtain ⟨b, off, cp, rfl, _, k0⟩ := hcell q (by omega)
        have k1 := HX.out.cell (cellsI_at (l := D) (i := 3) (by omega))
        have k2 := HX.out.free 3
        have hqI : (q : Int) < (n : Int) := by omega
        have hq0 : (0 : Int) ≤ (q : Int) := by omega
        have hstep : Hid (madeL K ns (i + 1) = D.set 3 (fld ns q)) := Lib.hid (by rw [HMS.out]; show layZ [3] _ D = _; rw [show (ch 73).length = 1 from rfl, drop_one ns q (by rw [HN.out]; omega)]; rfl)
        clear hcell HMS
        go_wp2_with fail
        go_roundg (m - (i + 1))
        case measure => omega
        case rel =>
          refine ⟨i + 1, by omega, rfl, by go_num, by rw [HPL2.out]; show _ = Value.int .i64 ((q + 1 : Nat) : Int); go_num, Lib.hid ?_, Lib.hid (HC.out.set (by rfl) _)⟩
          rw [hstep.out, ← cellsI_set]; exact HX.out.set 3 _
      · have hpl : q + 1 ≤ n := hpl
        obtain ⟨b, off, cp, rfl, _, k0⟩ := hcell q (by omega)
        have k1 := HX.out.cell (cellsI_at (l := D) (i := 2) (by omega))
        have k2 := HX.out.free 2
        have hqI : (q : Int) < (n : Int) := by omega
        have hq0 : (0 : Int) ≤ (q : Int) := by omega
        have hstep : Hid (madeL K ns (i + 1) = D.set 2 (fld ns q)) := Lib.hid (by rw [HMS.out]; show layZ [2] _ D = _; rw [show (ch 74).length = 1 from rfl, drop_one ns q (by rw [HN.out]; omega)]; rfl)
        clear hcell HMS
        go_wp2_with fail
        go_roundg (m - (i + 1))
        case measure => omega
        case rel =>
          refine ⟨i + 1, by omega, rfl, by go_num, by rw [HPL2.out]; show _ = Value.int .i64 ((q + 1 : Nat) : Int); go_num, Lib.hid ?_, Lib.hid (HC.out.set (by rfl) _)⟩
          rw [hstep.out, ← cellsI_set]; exact HX.out.set 2 _
      · have hpl : q + 1 ≤ n := hpl
        obtain ⟨b, off, cp, rfl, _, k0⟩ := hcell q (by omega)
        have k1 := HX.out.cell (cellsI_at (l := D) (i := 4) (by omega))
        have k2 := HX.out.free 4
        have hqI : (q : Int) < (n : Int) := by omega
        have hq0 : (0 : Int) ≤ (q : Int) := by omega
        have hstep : Hid (madeL K ns (i + 1) = D.set 4 (fld ns q)) := Lib.hid (by rw [HMS.out]; show layZ [4] _ D = _; rw [show (ch 80).length = 1 from rfl, drop_one ns q (by rw [HN.out]; omega)]; rfl)
        clear hcell HMS
        go_wp2_with fail
        go_roundg (m - (i + 1))
        case measure => omega
        case rel =>
          refine ⟨i + 1, by omega, rfl, by go_num, by rw [HPL2.out]; show _ = Value.int .i64 ((q + 1 : Nat) : Int); go_num, Lib.hid ?_, Lib.hid (HC.out.set (by rfl) _)⟩
          rw [hstep.out, ← cellsI_set]; exact HX.out.set 4 _
      · have hpl : q + 3 ≤ n := hpl
        obtain ⟨b, off, cp, hp1, hbl, k0⟩ := hcell q (by omega)
        obtain ⟨b', off', cp', hp2, _, k1⟩ := hcell (q + 1) (by omega)
        obtain ⟨b'', off'', cp'', hp3, _, k2⟩ := hcell (q + 2) (by omega)
        subst hp1
        injection hp2 with hp2
        injection hp2 with h1 h2 _
        injection hp3 with hp3
        injection hp3 with h3 h4 _
        subst h1 h2 h3 h4
        have f5 := HX.out.cell (cellsI_at (l := D) (i := 5) (by omega))
        have f6 := HX.out.cell (cellsI_at (l := D) (i := 6) (by omega))
        have f7 := HX.out.cell (cellsI_at (l := D) (i := 7) (by omega))
        have e5 := HX.out.free 5
        have e6 := HX.out.free 6
        have e7 := HX.out.free 7
        have hqI : (q : Int) + 2 < (n : Int) := by omega
        have hq0 : (0 : Int) ≤ (q : Int) := by omega
        have hw1 : IntKind.i64.wrap ((q : Int) + 1) = (q : Int) + 1 := by rw [IntKind.wrap_i64]; omega
        have hw2 : IntKind.i64.wrap ((q : Int) + 2) = (q : Int) + 2 := by rw [IntKind.wrap_i64]; omega
        have hn1 : ((q : Int) + 1).toNat = q + 1 := by omega
        have hn2 : ((q : Int) + 2).toNat = q + 2 := by omega
        have hb0 : (q : Int) < (n : Int) := by omega
        have hb1 : (q : Int) + 1 < (n : Int) := by omega
        have hb2 : (0 : Int) ≤ (q : Int) + 1 := by omega
        have hb3 : (0 : Int) ≤ (q : Int) + 2 := by omega
        have hstep : Hid (madeL K ns (i + 1) = ((D.set 5 (fld ns q)).set 6 (fld ns (q + 1))).set 7 (fld ns (q + 2))) := Lib.hid (by rw [HMS.out]; show layZ [5, 6, 7] _ D = _; rw [show (ch 82).length = 3 from rfl, drop_three ns q (by rw [HN.out]; omega)]; rfl)
        have HCELL := Lib.hid hcell
        clear hcell HMS
        go_upto_region 8 with fail
        go_region_held3 (fun w' => w'.cell? ⟨b, off + q, none⟩ = some (.int .i64 (fld ns q)) ∧ w'.cell? ⟨b, off + (q + 1), none⟩ = some (.int .i64 (fld ns (q + 1))) ∧ w'.cell? ⟨b, off + (q + 2), none⟩ = some (.int .i64 (fld ns (q + 2)))) (first | (go_keep; done) | exact ⟨cell_far3 k0 (by show ¬ w.heap.size + 1 = b; omega), cell_far3 k1 (by show ¬ w.heap.size + 1 = b; omega), cell_far3 k2 (by show ¬ w.heap.size + 1 = b; omega)⟩) (fail)
        go_wp2_with fail
        go_roundg (m - (i + 1))
        case measure => omega
        case rel =>
          refine ⟨i + 1, by omega, rfl, by go_num, by rw [HPL2.out]; show _ = Value.int .i64 ((q + 3 : Nat) : Int); go_num, Lib.hid ?_, Lib.hid ((((HC.out.set (by rfl) _).set (by rfl) _).set (by rfl) _).drew)⟩
          rw [hstep.out, ← cellsI_set, ← cellsI_set, ← cellsI_set]
          exact ((HX.out.set 5 _).set 6 _).set 7 _
    · obtain rfl : i = m := by omega
      clear hXl
      go_wp2_with (first
        | (with_reducible refine ev_load rfl 43 (.tmp 5) rfl (w.heap.size + 1) rfl 43 (cellsI (madeL K ns i)) _ HX.out hu rfl (info_event _ (madeL_length K ns i)) ?_)
        | (with_reducible refine ev_store rfl 43 (.tmp 4) (.tmp 70) rfl w.heap.size (cellsI (madeL K ns i)) rfl rfl 43 _ (A2.out.chg HC.out (by omega)) (info_event _ (madeL_length K ns i)) (by simp [cellsI_size, madeL_length, bare_length]) (cellsI_one _) ?_; intro w9 hb9 hc9 hz9))
      refine bodyPost_ret (res_c rfl _ w.heap.size 43 (cellsI (madeL K ns i)) _ rfl hb9 hu rfl (info_event _ (madeL_length K ns i))) rfl ⟨by rw [HW.out], ?_⟩
      have b1 := Chg.belowOf L2.out HC.out (fun k hk => by omega) L2.out.size
      exact Chg.belowOf b1 hc9 (fun k hk => by omega) b1.size
end Go.Proofs.YtanihdpgblkeaaaGreatDoor

/-! RefPure -/
namespace Go.Proofs.YtanihdpgblkeaaaGreatDoor
open Go.RowKit
set_option linter.unusedVariables false
set_option linter.unusedSimpArgs false

theorem str_inj_p {a b : List UInt8} (h : str a = str b) : a = b := by
  have := congrArg (fun x : ByteArray => x.data.toList) h
  simpa [str] using this
theorem str_empty_ne {s : ByteArray} (h : s ≠ ⟨#[]⟩) : s.toList.isEmpty = false := by
  rw [ByteArray.toList_eq]
  cases hl : s.data.toList with
  | nil => exact absurd (by apply ByteArray.ext; apply Array.ext'; exact hl) h
  | cons a r => rfl
theorem blk_set8 {w : World} {g : Nat} {a b c d e f h i : Value} {t : TypeId} (hB : Blk w g #[a, b, c, d, e, f, h, i] t) (a' b' c' d' e' f' h' i' : Value) :
    Blk ((((((((w.setCell ⟨g, 0, none⟩ a').setCell ⟨g, 1, none⟩ b').setCell ⟨g, 2, none⟩ c').setCell ⟨g, 3, none⟩ d').setCell ⟨g, 4, none⟩ e').setCell ⟨g, 5, none⟩ f').setCell ⟨g, 6, none⟩ h').setCell ⟨g, 7, none⟩ i') g #[a', b', c', d', e', f', h', i'] t := by
  have h1 := (((((((hB.set 0 a').set 1 b').set 2 c').set 3 d').set 4 e').set 5 f').set 6 h').set 7 i'
  have e : ((((((((#[a, b, c, d, e, f, h, i] : Array Value).setIfInBounds 0 a').setIfInBounds 1 b').setIfInBounds 2 c').setIfInBounds 3 d').setIfInBounds 4 e').setIfInBounds 5 f').setIfInBounds 6 h').setIfInBounds 7 i' = #[a', b', c', d', e', f', h', i'] := by simp
  rw [e] at h1
  exact h1
theorem below_set8 {B : Nat} {w0 w : World} {g : Nat} (hb : Below B w0 w) (hg : B ≤ g) (a' b' c' d' e' f' h' i' : Value) :
    Below B w0 ((((((((w.setCell ⟨g, 0, none⟩ a').setCell ⟨g, 1, none⟩ b').setCell ⟨g, 2, none⟩ c').setCell ⟨g, 3, none⟩ d').setCell ⟨g, 4, none⟩ e').setCell ⟨g, 5, none⟩ f').setCell ⟨g, 6, none⟩ h').setCell ⟨g, 7, none⟩ i') :=
  (((((((hb.setCell (p := ⟨g, 0, none⟩) hg a').setCell (p := ⟨g, 1, none⟩) hg b').setCell (p := ⟨g, 2, none⟩) hg c').setCell (p := ⟨g, 3, none⟩) hg d').setCell (p := ⟨g, 4, none⟩) hg e').setCell (p := ⟨g, 5, none⟩) hg f').setCell (p := ⟨g, 6, none⟩) hg h').setCell (p := ⟨g, 7, none⟩) hg i'
theorem made_pure (l : List Int) (h : offs (fld l 0) ≠ []) : layZ (offs (fld l 0)) (numsL l) (bare (fld l 0)) = pureL l := by
  unfold numsL pureL
  rw [if_neg h, layZ_map]
set_option maxRecDepth 100000 in
set_option maxHeartbeats 3200000 in
theorem ref18_pure (l : List Int) (hl : l.length = 8) (w : World) :
    Calls Tryz.prog 21 #[.agg (cellsI l)] w fun e w' => e = .returned (.agg (cellsI (pureL l))) ∧ Below w.heap.size w w' := by
  have hu := Tryz.underlying43
  have hN := ref18_numbers l hl
  obtain ⟨K, hK⟩ : ∃ K, fld l 0 = K := ⟨_, rfl⟩
  have hM := fun (h : offs K ≠ []) => ref18_made K (numsL l) (by unfold numsL; rw [List.length_map, hK])
  have hP : offs K ≠ [] → layZ (offs K) (numsL l) (bare K) = pureL l := by rw [← hK]; exact made_pure l
  have hP0 : offs K = [] → pureL l = bare 0 := by intro h; unfold pureL; rw [hK, if_pos h]
  obtain ⟨p0, p1, p2, p3, p4, p5, p6, p7, hpl⟩ := eight_of (pureL_length l)
  rw [hpl] at hP hP0 ⊢
  clear hpl
  generalize numsL l = ns at hN hM hP
  obtain ⟨k, n, j, i, p, x, y, z, rfl⟩ := eight_of hl
  have hk : K = k := hK.symm
  subst hk
  clear hl hK
  have hcell : cellsI [K, n, j, i, p, x, y, z] = #[.int .i64 K, .int .i64 n, .int .i64 j, .int .i64 i, .int .i64 p, .int .i64 x, .int .i64 y, .int .i64 z] := rfl
  have hpc : cellsI [p0, p1, p2, p3, p4, p5, p6, p7] = #[.int .i64 p0, .int .i64 p1, .int .i64 p2, .int .i64 p3, .int .i64 p4, .int .i64 p5, .int .i64 p6, .int .i64 p7] := rfl
  rw [hcell] at hN ⊢
  rw [hpc]
  clear hcell
  obtain ⟨W, hW⟩ : ∃ W, (w.alloc (.cells #[.int .i64 K, .int .i64 n, .int .i64 j, .int .i64 i, .int .i64 p, .int .i64 x, .int .i64 y, .int .i64 z] 43)).alloc (.cells (cellsI (bare 0)) 43) = W := ⟨_, rfl⟩
  have HB : Hid (Blk W w.heap.size #[.int .i64 K, .int .i64 n, .int .i64 j, .int .i64 i, .int .i64 p, .int .i64 x, .int .i64 y, .int .i64 z] 43) := Lib.hid (by rw [← hW]; exact (Blk.new w _ _).alloc _)
  have HA : Hid (Blk W (w.heap.size + 1) (cellsI (bare 0)) 43) := Lib.hid (by rw [← hW]; exact blk_second w _ _ _ _)
  have HL : Hid (Below w.heap.size w W) := Lib.hid (by rw [← hW]; exact ((Below.refl w.heap.size w).alloc (Nat.le_refl _) _).alloc (by simp) _)
  have hWz : w.heap.size + 1 < W.heap.size := HA.out.lt
  have HW : Hid ((w.alloc (.cells #[.int .i64 K, .int .i64 n, .int .i64 j, .int .i64 i, .int .i64 p, .int .i64 x, .int .i64 y, .int .i64 z] 43)).alloc (.cells #[.int .i64 0, .int .i64 0, .int .i64 0, .int .i64 0, .int .i64 0, .int .i64 0, .int .i64 0, .int .i64 0] 43) = W) := Lib.hid hW
  have HN := Lib.hid hN
  have HM := Lib.hid hM
  have HP := Lib.hid hP
  have HP0 := Lib.hid hP0
  have HPC := Lib.hid hpc
  clear hW hN hM hP hP0 hpc
  have c0 := HB.out.cell (i := 0) rfl
  go_enter Tryz.func21, Tryz.ntmps21
  go_upto_region 1 with fail
  rw [HW.out]
  clear HW
  go_wp2_with fail
  refine (ref18_names K W).mono ?_
  rintro e w1 ⟨rfl, hb1⟩
  have HB1 := Lib.hid (HB.out.below hb1 (by omega))
  have HA1 := Lib.hid (HA.out.below hb1 (by omega))
  have HL1 := Lib.hid (HL.out.trans (hb1.mono HL.out.size))
  have hz1 : W.heap.size ≤ w1.heap.size := hb1.size
  clear hb1 c0 HB HA HL
  by_cases h0 : offs K = []
  · have hn0 : nm K = [] := (nm_nil K).2 h0
    rw [hn0]
    have hp0 := HP0.out h0
    have HPC0 : Hid (#[.int .i64 p0, .int .i64 p1, .int .i64 p2, .int .i64 p3, .int .i64 p4, .int .i64 p5, .int .i64 p6, .int .i64 p7] = cellsI (bare 0)) := Lib.hid (by rw [← HPC.out, hp0])
    clear h0 hn0 hp0
    have hstr : str [] = ⟨#[]⟩ := rfl
    rw [hstr]
    clear hstr
    go_wp2_with (with_reducible refine ev_store rfl 43 (.tmp 2) (.tmp 7) rfl (w.heap.size + 1) (cellsI (bare 0)) rfl rfl 43 _ HA1.out (by kernel_rfl) rfl (cellsI_one _) ?_; intro w9 hb9 hc9 hz9)
    refine bodyPost_ret (res_c rfl _ (w.heap.size + 1) 43 (cellsI (bare 0)) _ rfl hb9 hu rfl (by kernel_rfl)) rfl ⟨by rw [HPC0.out], ?_⟩
    exact Chg.belowOf HL1.out hc9 (fun k hk => by omega) HL1.out.size
  · have hne : (str (nm K)).toList.isEmpty = false := str_empty_ne (fun e => h0 ((nm_nil K).1 (str_inj_p (e.trans rfl : str (nm K) = str []))))
    have HMK : Hid (∀ v (wx : World), RowV 0 wx v (ns.map (Value.int .i64)) → Calls Tryz.prog 60 #[.int .i64 K, v] wx fun e w' => e = .returned (.agg #[.int .i64 p0, .int .i64 p1, .int .i64 p2, .int .i64 p3, .int .i64 p4, .int .i64 p5, .int .i64 p6, .int .i64 p7]) ∧ Below wx.heap.size wx w') := Lib.hid (fun v wx hv => by have := HM.out h0 v wx hv; rw [HP.out h0, HPC.out] at this; exact this)
    generalize str (nm K) = S at hne ⊢
    have d0 := HB1.out.cell (i := 0) rfl
    have d1 := HB1.out.cell (i := 1) rfl
    have d2 := HB1.out.cell (i := 2) rfl
    have d3 := HB1.out.cell (i := 3) rfl
    have d4 := HB1.out.cell (i := 4) rfl
    have d5 := HB1.out.cell (i := 5) rfl
    have d6 := HB1.out.cell (i := 6) rfl
    have d7 := HB1.out.cell (i := 7) rfl
    have hlt : w.heap.size < w1.heap.size := by omega
    have HD := Lib.hid (fun (wx : World) (hb : Below w1.heap.size w1 wx) => show wx.cell? ⟨w.heap.size, 0, none⟩ = some (.int .i64 K) ∧ wx.cell? ⟨w.heap.size, 1, none⟩ = some (.int .i64 n) ∧ wx.cell? ⟨w.heap.size, 2, none⟩ = some (.int .i64 j) ∧ wx.cell? ⟨w.heap.size, 3, none⟩ = some (.int .i64 i) ∧ wx.cell? ⟨w.heap.size, 4, none⟩ = some (.int .i64 p) ∧ wx.cell? ⟨w.heap.size, 5, none⟩ = some (.int .i64 x) ∧ wx.cell? ⟨w.heap.size, 6, none⟩ = some (.int .i64 y) ∧ wx.cell? ⟨w.heap.size, 7, none⟩ = some (.int .i64 z) from ⟨keepB hb d0 hlt, keepB hb d1 hlt, keepB hb d2 hlt, keepB hb d3 hlt, keepB hb d4 hlt, keepB hb d5 hlt, keepB hb d6 hlt, keepB hb d7 hlt⟩)
    clear h0 HP HP0 HM
    go_upto_region 3 with fail
    go_cut [] (fun wx => Blk wx (w.heap.size + 1) #[.int .i64 p0, .int .i64 p1, .int .i64 p2, .int .i64 p3, .int .i64 p4, .int .i64 p5, .int .i64 p6, .int .i64 p7] 43 ∧ Below w.heap.size w wx)
    case first =>
      go_region_with (first
        | (go_at_call 61; refine (HN.out _).mono ?_; rintro e w4 ⟨v4, rfl, ho4, hb4⟩; have hb4 : Below w1.heap.size w1 w4 := ⟨hb4.os, hb4.tape, hb4.output, hb4.size, hb4.block⟩; obtain ⟨e0, e1, e2, e3, e4, e5, e6, e7⟩ := HD.out w4 hb4; have hr4 := ho4.row.mono (Nat.zero_le _))
        | (go_at_call 60; refine (HMK.out _ _ (by exact hr4)).mono ?_; rintro e w5 ⟨rfl, hb5⟩; have hb5 : Below w1.heap.size w1 w5 := hb4.trans (Below.mono ⟨hb5.os, hb5.tape, hb5.output, hb5.size, hb5.block⟩ hb4.size); have hA5 := HA1.out.below hb5 (by omega); have q0 := hA5.cell (i := 0) rfl; have q1 := hA5.cell (i := 1) rfl; have q2 := hA5.cell (i := 2) rfl; have q3 := hA5.cell (i := 3) rfl; have q4 := hA5.cell (i := 4) rfl; have q5 := hA5.cell (i := 5) rfl; have q6 := hA5.cell (i := 6) rfl; have q7 := hA5.cell (i := 7) rfl; have qf := hA5.free))
      all_goals
        have hA5' : Blk w5 (w.heap.size + 1) #[.int .i64 0, .int .i64 0, .int .i64 0, .int .i64 0, .int .i64 0, .int .i64 0, .int .i64 0, .int .i64 0] 43 := hA5
        have HBS := Lib.hid (blk_set8 hA5' (.int .i64 p0) (.int .i64 p1) (.int .i64 p2) (.int .i64 p3) (.int .i64 p4) (.int .i64 p5) (.int .i64 p6) (.int .i64 p7))
        have HLS := Lib.hid (below_set8 (HL1.out.trans (hb5.mono HL1.out.size)) (show w.heap.size ≤ w.heap.size + 1 by omega) (.int .i64 p0) (.int .i64 p1) (.int .i64 p2) (.int .i64 p3) (.int .i64 p4) (.int .i64 p5) (.int .i64 p6) (.int .i64 p7))
        clear hA5' hA5 q0 q1 q2 q3 q4 q5 q6 q7 qf
        go_wp2_with fail
        go_meet
        exact ⟨HBS.out, HLS.out⟩
    case rest =>
      obtain ⟨hb9, hl9⟩ := hcut
      have HB9 := Lib.hid hb9
      have HL9 := Lib.hid hl9
      clear hb9 hl9
      go_wp2_with fail
      refine bodyPost_ret (res_c rfl _ (w.heap.size + 1) 43 #[.int .i64 p0, .int .i64 p1, .int .i64 p2, .int .i64 p3, .int .i64 p4, .int .i64 p5, .int .i64 p6, .int .i64 p7] _ rfl HB9.out hu rfl (by kernel_rfl)) rfl ⟨rfl, HL9.out⟩
end Go.Proofs.YtanihdpgblkeaaaGreatDoor

/-! RefCheck -/
namespace Go.Proofs.YtanihdpgblkeaaaGreatDoor
open Go.RowKit
set_option linter.unusedVariables false
set_option linter.unusedSimpArgs false

/-- May what a letter names be? -/
def okC (c : UInt8) (l : List Int) : Bool :=
  if c = 78 then inR (fld l 1) 0 15 else if c = 73 then inR (fld l 3) 1 2147483647 else if c = 74 then inR (fld l 2) 1 2147483647 else if c = 80 then inR (fld l 4) 0 99 else resB [fld l 5, fld l 6, fld l 7]
theorem right_all (l : List Int) (h : offs (fld l 0) ≠ []) : rightL l = (nm (fld l 0)).all (fun c => okC c l) := by
  unfold rightL
  rcases kind_cases (fld l 0) with e | e | e | e | e | e | e | e
  all_goals first
    | exact absurd (offs_none e) h
    | (rw [e]; simp [nm, okC, Bool.and_assoc, Bool.and_comm, Bool.and_left_comm])
theorem right_bad (l : List Int) (h : offs (fld l 0) ≠ []) (i : Nat) (c : UInt8) (hc : (nm (fld l 0))[i]? = some c) (hf : okC c l = false) : checkL l = 1 := by
  have hr : rightL l = false := by
    rw [right_all l h, List.all_eq_false]
    exact ⟨c, List.mem_of_getElem? hc, by rw [hf]; simp⟩
  unfold checkL
  rw [if_neg h, if_pos (.inr hr)]
theorem right_good (l : List Int) (h : offs (fld l 0) ≠ []) (hg : ∀ j c, j < (nm (fld l 0)).length → (nm (fld l 0))[j]? = some c → okC c l = true) : checkL l = if pureL l ≠ l then 1 else 0 := by
  have hr : rightL l = true := by
    rw [right_all l h, List.all_eq_true]
    intro c hc
    obtain ⟨j, hj, rfl⟩ := List.getElem_of_mem hc
    exact hg j _ hj (List.getElem?_eq_getElem hj)
  unfold checkL
  rw [if_neg h, hr]
  simp
set_option maxRecDepth 100000 in
set_option maxHeartbeats 3200000 in
theorem ref18_check (l : List Int) (hl : l.length = 8) (w : World) :
    Calls Tryz.prog 22 #[.agg (cellsI l)] w fun e w' => e = .returned (.int .i64 (checkL l)) ∧ Below w.heap.size w w' := by
  have HP := ref18_pure l hl
  have hpl := pureL_length l
  have hneq := neq_event (pureL l) l hpl hl
  have hno : offs (fld l 0) = [] → checkL l = 5 := by intro h; unfold checkL; rw [if_pos h]
  have hbad := fun h => right_bad l h
  have hgood := fun h => right_good l h
  obtain ⟨CK, hCK⟩ : ∃ c, checkL l = c := ⟨_, rfl⟩
  rw [hCK] at hno hbad hgood ⊢
  clear hCK
  obtain ⟨PC, hPC⟩ : ∃ C, cellsI (pureL l) = C := ⟨_, rfl⟩
  rw [hPC] at HP hneq
  clear hPC
  obtain ⟨pq, hq, hqi⟩ : ∃ q : Bool, decide (pureL l = l) = q ∧ (pureL l ≠ l ↔ q = false) := ⟨_, rfl, by simp⟩
  rw [hq] at hneq
  simp only [hqi] at hgood
  clear hq hqi hpl
  have hrr := ref08_right [fld l 5, fld l 6, fld l 7] rfl
  obtain ⟨K, n, j, i, p, x, y, z, rfl⟩ := eight_of hl
  clear hl
  have hk : fld [K, n, j, i, p, x, y, z] 0 = K := rfl
  rw [hk] at hno hbad hgood
  clear hk
  have hcell : cellsI [K, n, j, i, p, x, y, z] = #[.int .i64 K, .int .i64 n, .int .i64 j, .int .i64 i, .int .i64 p, .int .i64 x, .int .i64 y, .int .i64 z] := rfl
  rw [hcell] at HP hneq ⊢
  clear hcell
  have hc3 : cellsI [fld [K, n, j, i, p, x, y, z] 5, fld [K, n, j, i, p, x, y, z] 6, fld [K, n, j, i, p, x, y, z] 7] = #[.int .i64 x, .int .i64 y, .int .i64 z] := rfl
  rw [hc3] at hrr
  clear hc3
  obtain ⟨r, hr⟩ : ∃ r, resB [fld [K, n, j, i, p, x, y, z] 5, fld [K, n, j, i, p, x, y, z] 6, fld [K, n, j, i, p, x, y, z] 7] = r := ⟨_, rfl⟩
  rw [hr] at hrr
  have hok82 : okC 82 [K, n, j, i, p, x, y, z] = r := hr
  clear hr
  obtain ⟨W, hW⟩ : ∃ W, w.alloc (.cells #[.int .i64 K, .int .i64 n, .int .i64 j, .int .i64 i, .int .i64 p, .int .i64 x, .int .i64 y, .int .i64 z] 43) = W := ⟨_, rfl⟩
  have HB : Hid (Blk W w.heap.size #[.int .i64 K, .int .i64 n, .int .i64 j, .int .i64 i, .int .i64 p, .int .i64 x, .int .i64 y, .int .i64 z] 43) := Lib.hid (by rw [← hW]; exact Blk.new w _ _)
  have HL : Hid (Below w.heap.size w W) := Lib.hid (by rw [← hW]; exact (Below.refl w.heap.size w).alloc (Nat.le_refl _) _)
  have HW := Lib.hid hW
  have HNO := Lib.hid hno
  have HBADA := Lib.hid hbad
  have HGOODA := Lib.hid hgood
  have HPH := Lib.hid HP
  have HN := Lib.hid hneq
  have HRR := Lib.hid hrr
  have HOK := Lib.hid hok82
  clear hW hno hbad hgood HP hneq hrr hok82
  have c0 := HB.out.cell (i := 0) rfl
  go_enter Tryz.func22, Tryz.ntmps22
  go_upto_region 1 with fail
  rw [HW.out]
  clear HW
  go_wp2_with fail
  refine (ref18_names K W).mono ?_
  rintro e w1 ⟨rfl, hb1⟩
  have HB1 := Lib.hid (HB.out.below hb1 HB.out.lt)
  have HL1 := Lib.hid (HL.out.trans (hb1.mono HL.out.size))
  have hlt : w.heap.size < w1.heap.size := HB1.out.lt
  clear hb1 c0 HB HL
  by_cases h0 : offs K = []
  · have hn0 : nm K = [] := (nm_nil K).2 h0
    rw [hn0]
    have HC5 := Lib.hid (HNO.out h0)
    clear h0 hn0
    have hstr : str [] = ⟨#[]⟩ := rfl
    rw [hstr]
    clear hstr
    go_wp2_with fail
    go_ret
    exact ⟨by rw [HC5.out]; rfl, HL1.out⟩
  have hne : (str (nm K)).toList.isEmpty = false := str_empty_ne (fun e => h0 ((nm_nil K).1 (str_inj_p (e.trans rfl : str (nm K) = str []))))
  have HBADK := Lib.hid (HBADA.out h0)
  have HGOODK := Lib.hid (HGOODA.out h0)
  have hm3 := nm_length K
  obtain ⟨m, hm⟩ : ∃ m, (nm K).length = m := ⟨_, rfl⟩
  have hsz : (str (nm K)).size = m := by rw [str_size, hm]
  have hbyte : ∀ i c, (nm K)[i]? = some c → ∀ h : i < (str (nm K)).size, (((str (nm K))[i]'h).toNat : Int) = (c.toNat : Int) := by
    intro i c hc h
    obtain ⟨hi, e⟩ := List.getElem?_eq_some_iff.1 hc
    show (((nm K)[i]'hi).toNat : Int) = _
    rw [e]
  obtain ⟨S, hS⟩ : ∃ S, str (nm K) = S := ⟨_, rfl⟩
  rw [hm] at hm3
  rw [hS] at hsz hbyte hne ⊢
  have HM := Lib.hid hm
  have HSZ := Lib.hid hsz
  have HBY := Lib.hid hbyte
  have hm63 : S.size ≤ 3 := by omega
  clear hm hS hbyte h0 HNO HBADA HGOODA
  go_wp2_with fail
  go_loopg [4] m (fun gg s4 wr => ∃ q : Nat, q ≤ m ∧ gg = m - q ∧ s4 = .int .i64 q ∧ Hid (∀ jj c, jj < q → (nm K)[jj]? = some c → okC c [K, n, j, i, p, x, y, z] = true) ∧ Hid (Below w1.heap.size w1 wr))
  case atStart => exact ⟨0, by omega, rfl, rfl, Lib.hid (fun jj c h => by omega), Lib.hid (Below.refl _ _)⟩
  case round =>
    obtain ⟨q, hq, hg, rfl, HALL, HLW⟩ := hrel
    have hg := hg.symm
    subst hg
    have HBr := Lib.hid (HB1.out.below HLW.out (by omega))
    have HLr := Lib.hid (HL1.out.trans (HLW.out.mono HL1.out.size))
    by_cases hqm : q < m
    · have hiS : q < S.size := by omega
      have hi0 : (0 : Int) ≤ (q : Int) := by omega
      obtain ⟨c, hc⟩ : ∃ c, (nm K)[q]? = some c := ⟨_, List.getElem?_eq_getElem (by rw [HM.out]; exact hqm)⟩
      have hcc := nm_mem K c (List.mem_of_getElem? hc)
      have hby := HBY.out q c hc hiS
      have HBAD := Lib.hid (fun (hf : okC c [K, n, j, i, p, x, y, z] = false) => HBADK.out q c hc hf)
      have HGOOD := Lib.hid (fun (hf : okC c [K, n, j, i, p, x, y, z] = true) jj c' (hj : jj < q + 1) (hc' : (nm K)[jj]? = some c') => show okC c' [K, n, j, i, p, x, y, z] = true by
        by_cases e : jj = q
        · subst e; rw [hc] at hc'; injection hc' with hc'; rw [← hc']; exact hf
        · exact HALL.out jj c' (by omega) hc')
      clear hc
      go_upto_region 7 with fail
      dsimp only [List.append]
      rcases hcc with rfl | rfl | rfl | rfl | rfl
      · have c0 := HBr.out.cell (i := 1) rfl
        by_cases h1 : n < 0
        · have hf : okC 78 [K, n, j, i, p, x, y, z] = false := inR_no (.inl h1)
          have HR := Lib.hid (HBAD.out hf)
          clear hf HBAD HGOOD
          go_wp2_with fail
          go_ret
          exact ⟨by rw [HR.out]; rfl, HLr.out⟩
        · have h1' : 0 ≤ n := by omega
          by_cases h2 : 15 < n
          · have hf : okC 78 [K, n, j, i, p, x, y, z] = false := inR_no (.inr h2)
            have HR := Lib.hid (HBAD.out hf)
            clear hf HBAD HGOOD
            go_wp2_with fail
            go_ret
            exact ⟨by rw [HR.out]; rfl, HLr.out⟩
          · have h2' : n ≤ 15 := by omega
            have HG2 := Lib.hid (HGOOD.out (inR_yes h1' h2'))
            clear HBAD HGOOD
            go_wp2_with fail
            go_roundg (m - (q + 1))
            case measure => omega
            case rel => exact ⟨q + 1, by omega, rfl, by go_num, HG2, HLW⟩
      · have c0 := HBr.out.cell (i := 3) rfl
        by_cases h1 : i < 1
        · have hf : okC 73 [K, n, j, i, p, x, y, z] = false := inR_no (.inl h1)
          have HR := Lib.hid (HBAD.out hf)
          clear hf HBAD HGOOD
          go_wp2_with fail
          go_ret
          exact ⟨by rw [HR.out]; rfl, HLr.out⟩
        · have h1' : 1 ≤ i := by omega
          by_cases h2 : 2147483647 < i
          · have hf : okC 73 [K, n, j, i, p, x, y, z] = false := inR_no (.inr h2)
            have HR := Lib.hid (HBAD.out hf)
            clear hf HBAD HGOOD
            go_wp2_with fail
            go_ret
            exact ⟨by rw [HR.out]; rfl, HLr.out⟩
          · have h2' : i ≤ 2147483647 := by omega
            have HG2 := Lib.hid (HGOOD.out (inR_yes h1' h2'))
            clear HBAD HGOOD
            go_wp2_with fail
            go_roundg (m - (q + 1))
            case measure => omega
            case rel => exact ⟨q + 1, by omega, rfl, by go_num, HG2, HLW⟩
      · have c0 := HBr.out.cell (i := 2) rfl
        by_cases h1 : j < 1
        · have hf : okC 74 [K, n, j, i, p, x, y, z] = false := inR_no (.inl h1)
          have HR := Lib.hid (HBAD.out hf)
          clear hf HBAD HGOOD
          go_wp2_with fail
          go_ret
          exact ⟨by rw [HR.out]; rfl, HLr.out⟩
        · have h1' : 1 ≤ j := by omega
          by_cases h2 : 2147483647 < j
          · have hf : okC 74 [K, n, j, i, p, x, y, z] = false := inR_no (.inr h2)
            have HR := Lib.hid (HBAD.out hf)
            clear hf HBAD HGOOD
            go_wp2_with fail
            go_ret
            exact ⟨by rw [HR.out]; rfl, HLr.out⟩
          · have h2' : j ≤ 2147483647 := by omega
            have HG2 := Lib.hid (HGOOD.out (inR_yes h1' h2'))
            clear HBAD HGOOD
            go_wp2_with fail
            go_roundg (m - (q + 1))
            case measure => omega
            case rel => exact ⟨q + 1, by omega, rfl, by go_num, HG2, HLW⟩
      · have c0 := HBr.out.cell (i := 4) rfl
        by_cases h1 : p < 0
        · have hf : okC 80 [K, n, j, i, p, x, y, z] = false := inR_no (.inl h1)
          have HR := Lib.hid (HBAD.out hf)
          clear hf HBAD HGOOD
          go_wp2_with fail
          go_ret
          exact ⟨by rw [HR.out]; rfl, HLr.out⟩
        · have h1' : 0 ≤ p := by omega
          by_cases h2 : 99 < p
          · have hf : okC 80 [K, n, j, i, p, x, y, z] = false := inR_no (.inr h2)
            have HR := Lib.hid (HBAD.out hf)
            clear hf HBAD HGOOD
            go_wp2_with fail
            go_ret
            exact ⟨by rw [HR.out]; rfl, HLr.out⟩
          · have h2' : p ≤ 99 := by omega
            have HG2 := Lib.hid (HGOOD.out (inR_yes h1' h2'))
            clear HBAD HGOOD
            go_wp2_with fail
            go_roundg (m - (q + 1))
            case measure => omega
            case rel => exact ⟨q + 1, by omega, rfl, by go_num, HG2, HLW⟩
      · have c5 := HBr.out.cell (i := 5) rfl
        have c6 := HBr.out.cell (i := 6) rfl
        have c7 := HBr.out.cell (i := 7) rfl
        go_wp2_with fail
        refine (HRR.out _).mono ?_
        rintro e w4 ⟨rfl, hb4⟩
        have HLW4 := Lib.hid (HLW.out.trans (hb4.mono HLW.out.size))
        have HLr4 := Lib.hid (HLr.out.trans (hb4.mono HLr.out.size))
        clear hb4
        cases r
        · have HR := Lib.hid (HBAD.out HOK.out)
          clear HBAD HGOOD
          go_wp2_with fail
          go_ret
          exact ⟨by rw [HR.out]; rfl, HLr4.out⟩
        · have HG2 := Lib.hid (HGOOD.out HOK.out)
          clear HBAD HGOOD
          go_wp2_with fail
          go_roundg (m - (q + 1))
          case measure => omega
          case rel => exact ⟨q + 1, by omega, rfl, by go_num, HG2, HLW4⟩
    · obtain rfl : q = m := by omega
      have HC := Lib.hid (HGOODK.out (fun jj c hj hc => HALL.out jj c (by rw [HM.out] at hj; exact hj) hc))
      have d0 := HBr.out.cell (i := 0) rfl
      have d1 := HBr.out.cell (i := 1) rfl
      have d2 := HBr.out.cell (i := 2) rfl
      have d3 := HBr.out.cell (i := 3) rfl
      have d4 := HBr.out.cell (i := 4) rfl
      have d5 := HBr.out.cell (i := 5) rfl
      have d6 := HBr.out.cell (i := 6) rfl
      have d7 := HBr.out.cell (i := 7) rfl
      have hlt := HBr.out.lt
      clear HBADK HGOODK HALL
      go_upto_region 9 with fail
      have hneq := HN.out
      cases pq
      all_goals
        simp only [Bool.not_false, Bool.not_true] at hneq
        go_region_held3 (fun w' => w'.cell? ⟨w.heap.size, 0, none⟩ = some (.int .i64 K) ∧ w'.cell? ⟨w.heap.size, 1, none⟩ = some (.int .i64 n) ∧ w'.cell? ⟨w.heap.size, 2, none⟩ = some (.int .i64 j) ∧ w'.cell? ⟨w.heap.size, 3, none⟩ = some (.int .i64 i) ∧ w'.cell? ⟨w.heap.size, 4, none⟩ = some (.int .i64 p) ∧ w'.cell? ⟨w.heap.size, 5, none⟩ = some (.int .i64 x) ∧ w'.cell? ⟨w.heap.size, 6, none⟩ = some (.int .i64 y) ∧ w'.cell? ⟨w.heap.size, 7, none⟩ = some (.int .i64 z))
          (first | (go_keep; done) | exact ⟨keepB hb4 d0 hlt, keepB hb4 d1 hlt, keepB hb4 d2 hlt, keepB hb4 d3 hlt, keepB hb4 d4 hlt, keepB hb4 d5 hlt, keepB hb4 d6 hlt, keepB hb4 d7 hlt⟩)
          ((go_at_call 21; refine (HPH.out _).mono ?_; rintro e w4 ⟨rfl, hb4⟩))
        have HL4 := Lib.hid (HLr.out.drew.trans (hb4.mono (by have := HLr.out.size; simpa using this)))
        go_wp2_with fail
        go_ret
        exact ⟨by rw [HC.out]; rfl, HL4.out⟩
end Go.Proofs.YtanihdpgblkeaaaGreatDoor
