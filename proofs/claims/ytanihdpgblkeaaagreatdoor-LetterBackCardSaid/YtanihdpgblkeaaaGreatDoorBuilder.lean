/-
  What strings.Builder does, wherever it lies in a block: as contracts that tell which cells turn.
-/
import Derived.Test.YtanihdpgblkeaaaGreatDoorBase
import Derived.Lib.Builder
import Derived.Lib.FrozenHead2
import Derived.Lib.UnsafeStr
import Derived.RegionTactic
import Derived.Laws.Externs
namespace Go.Proofs.YtanihdpgblkeaaaGreatDoor
open Go.RowKit
set_option linter.unusedVariables false
set_option linter.unusedSimpArgs false

/-- Blocks other than those of S are as they were; new ones may be there. -/
structure Chg (S : Nat → Prop) (w w' : World) : Prop where
  os : w'.os = w.os
  tape : w'.tape = w.tape
  output : w'.output = w.output
  size : w.heap.size ≤ w'.heap.size
  block : ∀ k, k < w.heap.size → ¬ S k → w'.heap[k]? = w.heap[k]?
theorem Chg.refl (S : Nat → Prop) (w : World) : Chg S w w := ⟨rfl, rfl, rfl, Nat.le_refl _, fun _ _ _ => rfl⟩
theorem Chg.trans {S : Nat → Prop} {a b c : World} (h : Chg S a b) (k : Chg S b c) : Chg S a c :=
  ⟨k.os.trans h.os, k.tape.trans h.tape, k.output.trans h.output, Nat.le_trans h.size k.size, fun i hi hn => (k.block i (Nat.lt_of_lt_of_le hi h.size) hn).trans (h.block i hi hn)⟩
theorem Chg.mono {S T : Nat → Prop} {a b : World} (h : Chg S a b) (hST : ∀ k, k < a.heap.size → S k → T k) : Chg T a b := ⟨h.os, h.tape, h.output, h.size, fun k hk hn => h.block k hk (fun hs => hn (hST k hk hs))⟩
theorem Chg.below {S : Nat → Prop} {a b : World} (h : Chg S a b) {B : Nat} (hB : B ≤ a.heap.size) (hS : ∀ k, S k → B ≤ k) : Below B a b :=
  ⟨h.os, h.tape, h.output, h.size, fun k hk => h.block k (by omega) (fun hs => by have := hS k hs; omega)⟩
theorem Chg.set {S : Nat → Prop} {a w : World} (h : Chg S a w) {p : Addr} (hp : S p.block) (v : Value) : Chg S a (w.setCell p v) :=
  ⟨h.os, h.tape, h.output, by simpa [World.setCell] using h.size, fun k hk hn => (Below.heap_setCell _ _ _ _ (fun e => hn (by rw [e]; exact hp))).trans (h.block k hk hn)⟩
theorem Chg.drew {S : Nat → Prop} {a w : World} (h : Chg S a w) : Chg S a w.drew := ⟨h.os, h.tape, h.output, h.size, h.block⟩
theorem Chg.alloc {S : Nat → Prop} {a w : World} (h : Chg S a w) (o : Obj) : Chg S a (w.alloc o) :=
  ⟨h.os, h.tape, h.output, by have := h.size; simp; omega, fun k hk hn => (Below.heap_alloc _ _ _ (by have := h.size; omega)).trans (h.block k hk hn)⟩
theorem Chg.grown {S : Nat → Prop} {a w w' : World} {row : Option Nat} (h : Chg S a w) (g : w.grownBy w' row) (hr : ∀ k, row = some k → S k) : Chg S a w' :=
  ⟨g.os.trans h.os, g.tape.trans h.tape, g.output.trans h.output, Nat.le_trans h.size g.size, fun k hk hn => (g.block k (by have := h.size; omega) (fun e => hn (hr k e.symm))).trans (h.block k hk hn)⟩
theorem Chg.cell {S : Nat → Prop} {a w : World} (h : Chg S a w) {p : Addr} (hp : p.block < a.heap.size) (hn : ¬ S p.block) : w.cell? p = a.cell? p := World.cell?_of_block (h.block _ hp hn)
theorem Chg.frozen {S : Nat → Prop} {a w : World} (h : Chg S a w) {p : Addr} (hp : p.block < a.heap.size) (hn : ¬ S p.block) : w.frozen? p = a.frozen? p := World.frozen?_of_block (h.block _ hp hn)

/-- A Builder lies at cell o of a block of that type and size. -/
def Lies (T cells o : Nat) : Prop := o + 1 < cells ∧ liesAt Tryz.prog Tryz.prog.depth T (cells / Tryz.prog.cellsOf T) o 121 1 = true

theorem Blk.shape {w : World} {b : Nat} {cs : Array Value} {t : TypeId} (h : Blk w b cs t) : w.shape? b = some (t, cs.size) := by
  unfold Blk at h; simp [World.shape?, h]

/-- A Builder at ⟨b, o⟩ of the block cs: its buffer is v, it holds the bytes l; its row lies from B on. -/
def BldIn (cs : Array Value) (B b o : Nat) (w : World) (v : Value) (l : List UInt8) : Prop :=
  (cs[o]? = some (.pointer none) ∨ cs[o]? = some (.pointer (some ⟨b, o, none⟩))) ∧ cs[o + 1]? = some v ∧ w.ownsRowF B 5 1 v l.length (Lib.byteCells l) ∧ v.ownBlock ≠ some b

theorem bld_info : (Tryz.prog.info? 121).map (·.size) = some 2 := by kernel_rfl

set_option maxRecDepth 100000 in
theorem copyCheck_used (b o : Nat) (w : World) (h0 : w.cell? ⟨b, o, none⟩ = some (.pointer (some ⟨b, o, none⟩))) :
    Calls Tryz.prog 112 #[.pointer (some ⟨b, o, none⟩)] w fun e w' => e = .returned (.tuple #[]) ∧ w = w' := by
  obtain ⟨j, hj, _⟩ := Option.map_eq_some_iff.1 bld_info
  have hne := Lib.run_neq_ptr_same (P := Tryz.prog) w (⟨b, o, none⟩ : Addr) Tryz.underlying118 hj
  go_enter Tryz.func112, Tryz.ntmps112
  go_wp2
  go_end0
  exact ⟨rfl, rfl⟩

set_option maxRecDepth 100000 in
theorem copyCheck_fresh (T cells b o : Nat) (hl : Lies T cells o) (w : World) (h0 : w.cell? ⟨b, o, none⟩ = some (.pointer none)) (hsh : w.shape? b = some (T, cells)) (hf : w.frozen? ⟨b, o, none⟩ = false) :
    Calls Tryz.prog 112 #[.pointer (some ⟨b, o, none⟩)] w fun e w' => e = .returned (.tuple #[]) ∧ w.setCell ⟨b, o, none⟩ (.pointer (some ⟨b, o, none⟩)) = w' := by
  obtain ⟨j, hj, hjs⟩ := Option.map_eq_some_iff.1 bld_info
  obtain ⟨ho, hli⟩ := hl
  have hne : j.size ≠ 0 := by rw [hjs]; decide
  have k1 := Lib.run_to_unsafe (P := Tryz.prog) w (⟨b, o, none⟩ : Addr) Tryz.underlying118 Tryz.underlying146 hj hne hsh (by simp; omega)
  have k2 : (callFunc 124 #[.pointer (some ⟨b, o, none⟩)]).run Tryz.prog w = .ok (.value (.pointer (some ⟨b, o, none⟩))) w := by
    rw [run_callFunc_extern Tryz.func124 (by kernel_rfl) (by kernel_rfl) (by kernel_rfl) (e := Extern.AbiNoEscape.same) (by kernel_rfl), Lib.run_noEscape]
    rfl
  have k3 := Lib.run_from_unsafe (P := Tryz.prog) w (⟨b, o, none⟩ : Addr) Tryz.underlying146 Tryz.underlying118 hj hsh hli
  have h1 : (w.setCell ⟨b, o, none⟩ (.pointer (some ⟨b, o, none⟩))).cell? ⟨b, o, none⟩ = some (.pointer (some ⟨b, o, none⟩)) := World.cell?_setCell_same _ _ _ h0
  have hnp := Lib.run_neq_ptr_same (P := Tryz.prog) (w.setCell ⟨b, o, none⟩ (.pointer (some ⟨b, o, none⟩))) (⟨b, o, none⟩ : Addr) Tryz.underlying118 hj
  clear hjs
  go_enter Tryz.func112, Tryz.ntmps112
  go_wp2
  go_end0
  exact ⟨rfl, rfl⟩

/-- copyCheck, whether or not the Builder has been used: behind it it has. -/
theorem copyCheck_any (T b o B : Nat) (cs : Array Value) (v : Value) (l : List UInt8) (w : World) (hl : Lies T cs.size o) (hb : Blk w b cs T) (h : BldIn cs B b o w v l) :
    Calls Tryz.prog 112 #[.pointer (some ⟨b, o, none⟩)] w fun e w' => e = .returned (.tuple #[]) ∧ Blk w' b (cs.setIfInBounds o (.pointer (some ⟨b, o, none⟩))) T ∧ Chg (fun k => k = b) w w' ∧ w'.heap.size = w.heap.size := by
  rcases h.1 with h0 | h0
  · refine (copyCheck_fresh T cs.size b o hl w (hb.cell h0) hb.shape (hb.free _)).mono ?_
    rintro e w' ⟨rfl, rfl⟩
    exact ⟨rfl, hb.set _ _, Chg.set (S := fun k => k = b) (Chg.refl _ _) (p := ⟨b, o, none⟩) rfl _, by simp⟩
  · refine (copyCheck_used b o w (hb.cell h0)).mono ?_
    rintro e w' ⟨rfl, rfl⟩
    refine ⟨rfl, ?_, Chg.refl _ _, rfl⟩
    have e1 : cs.setIfInBounds o (.pointer (some ⟨b, o, none⟩)) = cs := by
      apply Array.ext_getElem?
      intro i
      by_cases hi : o = i
      · subst hi
        rw [Array.getElem?_setIfInBounds_self_of_lt (by have := hl.1; omega), h0]
      · rw [Array.getElem?_setIfInBounds_ne hi]
    rw [e1]
    exact hb

theorem own_kept {w w' : World} {S : Nat → Prop} {B e : Nat} {v : Value} {n : Nat} {xs : List Value} (h : w.ownsRowF B e 1 v n xs) (hc : Chg S w w') (hS : ∀ k, v.ownBlock = some k → ¬ S k) : w'.ownsRowF B e 1 v n xs := by
  refine ⟨h.1, ?_⟩
  rcases h.2 with hn | ⟨g, cap, cur, fz, rfl, hb, hgg, rest⟩
  · exact .inl hn
  · refine .inr ⟨g, cap, cur, fz, rfl, hb, ?_, rest⟩
    rw [hc.block g (Array.getElem?_eq_some_iff.1 hgg).1 (hS g rfl)]
    exact hgg

theorem own_up {w : World} {B B' e : Nat} {v : Value} {n : Nat} {xs : List Value} (h : w.ownsRow B' e 1 v n xs) (hB : B ≤ B') : w.ownsRowF B e 1 v n xs := by
  obtain ⟨h1, h2⟩ := World.ownsRowF_of h
  refine ⟨h1, ?_⟩
  rcases h2 with hn | ⟨g, cap, cur, fz, hv, hg, r⟩
  · exact .inl hn
  · exact .inr ⟨g, cap, cur, fz, hv, by omega, r⟩

/-- Appending a text's bytes: the row is the elder one, or a new one. -/
theorem app_str (B : Nat) (i : TypeInfo) (hi : Tryz.prog.info? 5 = some i) (hz : i.zero = some (.int .u8 0)) (hs1 : i.size = 1) (hby : i.bytes = 1) (ty : TypeId)
    (v : Value) (n : Nat) (xs : List Value) (w : World) (hown : w.ownsRowF B 5 1 v n xs) (s : ByteArray) (hlen : n + s.size ≤ 140737488355328) (hB : B ≤ w.heap.size) :
    ∃ v' w', (Builtin.append_ #[119, 9] ty #[v, .string s]).run Tryz.prog w = .ok v' w' ∧ w'.ownsRowF B 5 1 v' (n + s.size) (xs ++ Lib.strCells s) ∧ w.grownBy w' v.ownBlock ∧
      (v'.ownBlock = v.ownBlock ∨ ∃ k, v'.ownBlock = some k ∧ w.heap.size ≤ k) := by
  have h63 : n + s.size ≤ maxLen := by unfold maxLen; omega
  rcases hown.2 with ⟨rfl, rfl⟩ | ⟨g, cap, cur, fz, rfl, hbg, hg, hfz, hnc, hcm, hcs, htake⟩
  · obtain ⟨v', w', h1, h2, h3, h4⟩ := Lib.run_append_own_string (P := Tryz.prog) w w.heap.size 119 9 ty 5 i Tryz.underlying119 Tryz.underlying9 hi hz hs1 hby (.slice none 0 0) 0 xs ⟨hown.1, .inl ⟨rfl, rfl⟩⟩ s h63 hlen (Nat.le_refl _)
    refine ⟨v', w', h1, own_up h2 hB, h3, ?_⟩
    rcases h2.2 with ⟨rfl, _⟩ | ⟨g, cap, cur, rfl, hg, _⟩
    · exact .inl rfl
    · exact .inr ⟨g, rfl, hg⟩
  · obtain ⟨v', w', h1, h2, h3, h4⟩ := Lib.run_append_own_stringF (P := Tryz.prog) w B 119 9 ty 5 i Tryz.underlying119 Tryz.underlying9 hi hz hs1 hby _ n xs hown s h63 hlen hB
    refine ⟨v', w', h1, h2, h3, ?_⟩
    by_cases hroom : n + s.size ≤ cap
    · have hr := Lib.run_append_room_stringF (P := Tryz.prog) w 119 9 ty 5 i Tryz.underlying119 Tryz.underlying9 hi hs1 g n cap cur fz hg (by simpa using hfz) s hroom (by simp at hcs; omega)
      rw [h1] at hr
      injection hr with e1 e2
      rw [e1]
      exact .inl rfl
    · have hxl : xs.length = n := by simpa using hown.1
      have holds : ∀ j u, xs[j]? = some u → w.cell? ((⟨g, 0, none⟩ : Addr).add j) = some u := hown.cells (g := g) rfl
      have hr := Lib.run_append_grow_string (P := Tryz.prog) w 119 9 ty 5 i (.int .u8 0) Tryz.underlying119 Tryz.underlying9 hi hz ⟨g, 0, none⟩ n cap xs (by rw [hs1]; simpa using hxl) holds s (by omega) (by omega) (by rw [hby]; exact growslice_fits (by omega) (by omega))
      rw [h1] at hr
      injection hr with e1 e2
      rw [e1]
      exact .inr ⟨_, rfl, Nat.le_refl _⟩

theorem wpList_app_str {ops : Array Oper} {rest : List Oper} {o : Oper} {a : Act} {Q : Exit → Act → World → Prop} {w : World} (hgd : o.guard = none) (sl x : Operand)
    (ho : o.op = .call { callee := .builtin .append, args := #[sl, x], argTypes := #[119, 9] })
    (B : Nat) (i : TypeInfo) (hi : Tryz.prog.info? 5 = some i) (hz : i.zero = some (.int .u8 0)) (hs1 : i.size = 1) (hby : i.bytes = 1)
    (v : Value) (n : Nat) (xs : List Value) (hs : a.eval sl = v) (hown : w.ownsRowF B 5 1 v n xs) (s : ByteArray) (hx : a.eval x = .string s) (hlen : n + s.size ≤ 140737488355328) (hB : B ≤ w.heap.size)
    (h : ∀ v' w', w'.ownsRowF B 5 1 v' (n + s.size) (xs ++ Lib.strCells s) → w.grownBy w' v.ownBlock → (v'.ownBlock = v.ownBlock ∨ ∃ k, v'.ownBlock = some k ∧ w.heap.size ≤ k) → wpList Tryz.prog ops Q rest (a.put o.dst v') w') : wpList Tryz.prog ops Q (o :: rest) a w := by
  refine wpList_plain hgd fun K hK => ?_
  obtain ⟨v', w', hr, h2, h3, h4⟩ := app_str B i hi hz hs1 hby o.type v n xs w hown s hlen hB
  unfold Oper.wp execOp
  simp only [ho, resolve, invoke, builtin, Sem.run_bind, Sem.run_pure, Result.andThen_ok, List.map_toArray, List.map_cons, List.map_nil, hs, hx, hr]
  exact hK _ _ (h v' w' h2 h3 h4)

theorem info_u8 : (Tryz.prog.info? 5).map (fun i => (i.zero, i.size, i.bytes)) = some (some (.int .u8 0), 1, 1) := by kernel_rfl

/-- The block behind a write: the Builder has been used, its buffer is v'. -/
def wrote (cs : Array Value) (b o : Nat) (v' : Value) : Array Value := (cs.setIfInBounds o (.pointer (some ⟨b, o, none⟩))).setIfInBounds (o + 1) v'
theorem wrote_size (cs : Array Value) (b o : Nat) (v' : Value) : (wrote cs b o v').size = cs.size := by simp [wrote]
theorem wrote_o (cs : Array Value) (b o : Nat) (v' : Value) (h : o + 1 < cs.size) : (wrote cs b o v')[o]? = some (.pointer (some ⟨b, o, none⟩)) := by
  unfold wrote
  rw [Array.getElem?_setIfInBounds_ne (by omega), Array.getElem?_setIfInBounds_self_of_lt (by omega)]
theorem wrote_o1 (cs : Array Value) (b o : Nat) (v' : Value) (h : o + 1 < cs.size) : (wrote cs b o v')[o + 1]? = some v' := by
  unfold wrote
  rw [Array.getElem?_setIfInBounds_self_of_lt (by simpa using h)]
theorem wrote_ne (cs : Array Value) (b o : Nat) (v' : Value) (j : Nat) (h1 : j ≠ o) (h2 : j ≠ o + 1) : (wrote cs b o v')[j]? = cs[j]? := by
  unfold wrote
  rw [Array.getElem?_setIfInBounds_ne (by omega), Array.getElem?_setIfInBounds_ne (by omega)]

set_option maxRecDepth 100000 in
set_option maxHeartbeats 800000 in
theorem bld_writeString (T b o B : Nat) (cs : Array Value) (v : Value) (l : List UInt8) (s : ByteArray) (w : World) (hl : Lies T cs.size o) (hT : T ≠ 5) (hb : Blk w b cs T) (h : BldIn cs B b o w v l)
    (hlen : l.length + s.size ≤ 140737488355328) (hB : B ≤ w.heap.size) (hbB : B ≤ b) :
    Calls Tryz.prog 89 #[.pointer (some ⟨b, o, none⟩), .string s] w fun e w' => e = .returned (.tuple #[.int .i64 s.size, .nilIface]) ∧
      ∃ v', Blk w' b (wrote cs b o v') T ∧ BldIn (wrote cs b o v') B b o w' v' (l ++ s.data.toList) ∧ Chg (fun k => k = b ∨ some k = v.ownBlock) w w' ∧ (v'.ownBlock = v.ownBlock ∨ ∃ k, v'.ownBlock = some k ∧ w.heap.size ≤ k) := by
  obtain ⟨i0, hi, hz0, hz1, hz2⟩ := info_parts info_u8
  have HCC := Lib.hid (copyCheck_any T b o B cs v l w hl hb h)
  obtain ⟨_, hv, hown, hne⟩ := h
  have ho := hl.1
  clear hl
  go_enter Tryz.func89, Tryz.ntmps89
  go_wp2_with (go_at_call 112; refine HCC.out.mono ?_)
  rintro e w1 ⟨rfl, hb1, hc1, hsz1⟩
  have c0 : w1.cell? ⟨b, o, none⟩ = some (.pointer (some ⟨b, o, none⟩)) := hb1.cell (Array.getElem?_setIfInBounds_self_of_lt (by omega))
  have c1 : w1.cell? ⟨b, o + 1, none⟩ = some v := hb1.cell (by rw [Array.getElem?_setIfInBounds_ne (by omega)]; exact hv)
  have hown1 := own_kept hown hc1 (fun k hk e => hne (by rw [hk, e]))
  have hB1 : B ≤ w1.heap.size := by omega
  have HB1 := Lib.hid hb1
  clear hb1 hb hv
  go_wp2_with (at_builtin; refine wpList_app_str rfl _ _ rfl B i0 hi hz0 hz1 hz2 v l.length _ rfl hown1 s rfl ?c3 ?c5 ?_)
  case c3 => exact hlen
  case c5 => exact hB1
  intro v' w2 hown' hgrow hrow
  have hb2 : Blk w2 b _ T := (hgrow.block b HB1.out.lt (fun e => hne e.symm)).trans HB1.out
  have d0 : w2.cell? ⟨b, o, none⟩ = some (.pointer (some ⟨b, o, none⟩)) := hb2.cell (Array.getElem?_setIfInBounds_self_of_lt (by omega))
  have d1 : w2.cell? ⟨b, o + 1, none⟩ = some v := by
    have hg := HB1.out
    rw [← c1]
    exact World.cell?_of_block (hgrow.block b hg.lt (fun e => hne e.symm))
  have f1 : w2.frozen? ⟨b, o + 1, none⟩ = false := hb2.free _
  obtain ⟨ao, n', cap, rfl⟩ : ∃ ao n' cap, v' = .slice ao n' cap := by
    rcases hown'.2 with ⟨hv, _⟩ | ⟨g, cap, cur, fz, hv, _⟩
    · exact ⟨_, _, _, hv⟩
    · exact ⟨_, _, _, hv⟩
  have HB2 := Lib.hid hb2
  have HG := Lib.hid hgrow
  have HR := Lib.hid hrow
  have HO := Lib.hid hown'
  clear hb2 hgrow hrow hown' hown1 hown
  go_wp2
  go_ret2
  refine ⟨rfl, _, HB2.out.set (o + 1) _, ⟨.inr (wrote_o cs b o _ ho), wrote_o1 cs b o _ ho, ?_, ?_⟩, ?_, ?_⟩
  · have e1 : (l ++ s.data.toList).length = l.length + s.size := by rw [List.length_append]; rfl
    have e2 : Lib.byteCells (l ++ s.data.toList) = Lib.byteCells l ++ Lib.strCells s := by rw [Lib.byteCells_append, Lib.strCells_eq]
    rw [e1, e2]
    refine own_kept HO.out (S := fun k => k = b) (Chg.set (S := fun k => k = b) (Chg.refl _ _) (p := ⟨b, o + 1, none⟩) rfl _) (fun k hk e => ?_)
    rcases HR.out with hr | ⟨k', hr, hk'⟩
    · exact hne (by rw [← hr, hk, e])
    · have := HB1.out.lt
      rw [hr] at hk
      injection hk with hk
      omega
  · intro e
    rcases HR.out with hr | ⟨k', hr, hk'⟩
    · exact hne (by rw [← hr, e])
    · have := HB1.out.lt
      rw [hr] at e
      injection e with e
      omega
  · exact Chg.set (((hc1.mono (fun k _ hk => Or.inl hk)).grown HG.out (fun k hk => Or.inr hk.symm))) (p := ⟨b, o + 1, none⟩) (Or.inl rfl) _
  · exact HR.out

theorem unsafeString_none_u8 (p : Option Addr) (w : World) : (Builtin.unsafeString_ #[139, 3] 9 #[.pointer p, .int .i64 0]).run Tryz.prog w = .ok (.string ⟨#[]⟩) w :=
  Lib.run_unsafeString_none (P := Tryz.prog) w 139 3 9 p

/-- Freezing the head of a Builder's row leaves it a Builder. -/
theorem own_froze {w : World} {B g cap n : Nat} {xs : List Value} (h : w.ownsRowF B 5 1 (.slice (some ⟨g, 0, none⟩) n cap) n xs) : (w.freeze ⟨g, 0, none⟩ n).ownsRowF B 5 1 (.slice (some ⟨g, 0, none⟩) n cap) n xs := by
  unfold World.freeze
  split
  · exact h
  · rename_i hn0
    refine ⟨h.1, ?_⟩
    rcases h.2 with ⟨hv, _⟩ | ⟨g', cap', cur, fz, hv, hbg, hg, hfz, rest⟩
    · cases hv
    · injection hv with ha _ hcap
      injection ha with ha
      injection ha with hgg _ _
      subst hgg
      subst hcap
      obtain ⟨lo, hi⟩ := fz
      refine .inr ⟨g, _, cur, (if lo == hi then (0, 0 + n) else (min lo 0, max hi (0 + n))), rfl, hbg, ?_, ?_, rest⟩
      · simp [Array.getElem?_modify, hg]
      · simp only at hfz
        split <;> simp <;> omega

theorem chg_froze {w : World} {g n : Nat} {S : Nat → Prop} (hS : S g) : Chg S w (w.freeze ⟨g, 0, none⟩ n) := by
  unfold World.freeze
  split
  · exact Chg.refl _ _
  · refine ⟨rfl, rfl, rfl, by simp, fun k hk hn => ?_⟩
    simp only [Array.getElem?_modify]
    rw [if_neg (fun e => hn (by rw [← e]; exact hS))]

set_option maxRecDepth 100000 in
set_option maxHeartbeats 800000 in
/-- String: the bytes; the Builder's block is as it was. -/
theorem bld_string (T b o B : Nat) (cs : Array Value) (v : Value) (l : List UInt8) (w : World) (hb : Blk w b cs T) (h : BldIn cs B b o w v l) (hB : B ≤ w.heap.size) :
    Calls Tryz.prog 90 #[.pointer (some ⟨b, o, none⟩)] w fun e w' => e = .returned (.string ⟨l.toArray⟩) ∧ Blk w' b cs T ∧ BldIn cs B b o w' v l ∧ Chg (fun k => some k = v.ownBlock) w w' := by
  have hBI := h
  obtain ⟨hp, hv, hown, hne⟩ := h
  have c1 : w.cell? ⟨b, o + 1, none⟩ = some v := hb.cell hv
  rcases hown.2 with ⟨rfl, h0⟩ | ⟨g, cap, cur, fz, rfl, hbg, hg, hfz, hnc, hcm, hcs, htake⟩
  · obtain rfl : l = [] := List.eq_nil_of_length_eq_zero h0
    have hSD : ∀ w, (Builtin.unsafeSliceData_ #[119] 139 #[.slice none 0 0]).run Tryz.prog w = .ok (.pointer none) w := fun _ => rfl
    have hUS := unsafeString_none_u8
    go_enter Tryz.func90, Tryz.ntmps90
    go_wp2
    go_region
    all_goals (go_wp2; go_ret; exact ⟨rfl, hb.drew, hBI, (Chg.refl _ _).drew⟩)
  · by_cases hl0 : l = []
    · subst hl0
      by_cases hc0 : cap = 0
      · subst hc0
        have hsh : w.shape? g = some (5, cur.size) := by simp [World.shape?, hg]
        have hSD : ∀ x, (x = w.drew) → (Builtin.unsafeSliceData_ #[119] 139 #[.slice (some ⟨g, 0, none⟩) 0 0]).run Tryz.prog x = .ok (.pointer (some ⟨w.heap.size, 0, none⟩)) ((w.alloc (.view ⟨g, 0, none⟩ 5)).drew) := by
          rintro x rfl
          exact Lib.run_unsafeSliceData_zero (P := Tryz.prog) w.drew _ _ 5 Tryz.underlying139 ⟨g, 0, none⟩ 0 (5, cur.size) hsh
        have hSD1 := hSD w.drew rfl
        clear hSD
        have hUS := unsafeString_none_u8
        have hlt := hb.lt
        have c2 : (w.alloc (.view ⟨g, 0, none⟩ 5)).cell? ⟨b, o + 1, none⟩ = some (.slice (some ⟨g, 0, none⟩) 0 0) := keepA c1 _
        have c3 : (w.alloc (.view ⟨g, 0, none⟩ 5)).drew.cell? ⟨b, o + 1, none⟩ = some (.slice (some ⟨g, 0, none⟩) 0 0) := c2
        have c4 : w.drew.cell? ⟨b, o + 1, none⟩ = some (.slice (some ⟨g, 0, none⟩) 0 0) := c1
        have fin : Blk (w.alloc (.view ⟨g, 0, none⟩ 5)).drew b cs T ∧ BldIn cs B b o (w.alloc (.view ⟨g, 0, none⟩ 5)).drew (.slice (some ⟨g, 0, none⟩) 0 0) [] ∧ Chg (fun k => some k = some g) w (w.alloc (.view ⟨g, 0, none⟩ 5)).drew :=
          ⟨(hb.alloc _).drew, ⟨hp, hv, hown.alloc _, hne⟩, ((Chg.refl _ _).alloc _).drew⟩
        have FIN := Lib.hid fin
        clear fin
        go_enter Tryz.func90, Tryz.ntmps90
        go_wp2
        go_region
        all_goals (go_wp2; go_ret; exact ⟨rfl, FIN.out⟩)
      · have hSD : ∀ w, (Builtin.unsafeSliceData_ #[119] 139 #[.slice (some ⟨g, 0, none⟩) 0 cap]).run Tryz.prog w = .ok (.pointer (some ⟨g, 0, none⟩)) w := fun w => Lib.run_unsafeSliceData_row (P := Tryz.prog) w _ _ _ _ _ hc0
        have hUS := unsafeString_none_u8
        clear hc0
        go_enter Tryz.func90, Tryz.ntmps90
        go_wp2
        go_region
        all_goals (go_wp2; go_ret; exact ⟨rfl, hb.drew, hBI, (Chg.refl _ _).drew⟩)
    · have hl1 : l.length ≠ 0 := by simpa using hl0
      have hSD : ∀ w, (Builtin.unsafeSliceData_ #[119] 139 #[.slice (some ⟨g, 0, none⟩) l.length cap]).run Tryz.prog w = .ok (.pointer (some ⟨g, 0, none⟩)) w := fun w => Lib.run_unsafeSliceData_row (P := Tryz.prog) w _ _ _ _ _ (by omega)
      have hUS : (Builtin.unsafeString_ #[139, 3] 9 #[.pointer (some ⟨g, 0, none⟩), .int .i64 l.length]).run Tryz.prog w.drew = .ok (.string ⟨l.toArray⟩) (w.drew.freeze ⟨g, 0, none⟩ l.length) := by
        refine Lib.run_unsafeString_row (P := Tryz.prog) w.drew 139 3 9 5 Tryz.underlying139 (by kernel_rfl) g cur.size (by have hg' : w.drew.heap[g]? = some (.cells cur 5 fz) := hg; simp [World.shape?, hg']) l hl0 (by simp at hcs; omega) (by unfold maxLen at hcm; omega) ?_
        intro j x hx
        exact hown.cells (g := g) rfl j (.int .u8 x.toNat) (by simp [Lib.byteCells, hx])
      have c4 : w.drew.cell? ⟨b, o + 1, none⟩ = some (.slice (some ⟨g, 0, none⟩) l.length cap) := c1
      have hgb : ¬ g = b := fun e => hne (by simp [Value.ownBlock, e])
      have fin : Blk (w.drew.freeze ⟨g, 0, none⟩ l.length) b cs T ∧ BldIn cs B b o (w.drew.freeze ⟨g, 0, none⟩ l.length) (.slice (some ⟨g, 0, none⟩) l.length cap) l ∧ Chg (fun k => some k = some g) w (w.drew.freeze ⟨g, 0, none⟩ l.length) := by
        have hc : Chg (fun k => some k = some g) w (w.drew.freeze ⟨g, 0, none⟩ l.length) := (Chg.refl _ _).drew.trans (chg_froze (w := w.drew) rfl)
        refine ⟨(hc.block b hb.lt (by simp; omega)).trans hb, ⟨hp, hv, ?_, hne⟩, hc⟩
        have hd : w.drew.ownsRowF B 5 1 (.slice (some ⟨g, 0, none⟩) l.length cap) l.length (Lib.byteCells l) := hown
        exact own_froze hd
      have FIN := Lib.hid fin
      clear fin
      go_enter Tryz.func90, Tryz.ntmps90
      go_wp2
      go_region
      all_goals (go_wp2; go_ret; exact ⟨rfl, FIN.out⟩)
end Go.Proofs.YtanihdpgblkeaaaGreatDoor
