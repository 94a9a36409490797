/-
  The ends of a message and what its kind names, as places (reeve's layer 35): the walk.
-/
import Derived.Test.YtcibeiehdjekiaaGreatDoorMsgCheck
import Derived.Test.YtcibeiehdjekiaaGreatDoorOctAll
namespace Go.Proofs.YtcibeiehdjekiaaGreatDoor
open Go.RowKit
set_option linter.unusedVariables false
set_option linter.unusedSimpArgs false

/-- The places that are written: the ends, and what the kind names. -/
def allM (k : Int) : List Nat := 1 :: 2 :: offsM k
theorem allM_lt (k : Int) : ∀ o ∈ allM k, 1 ≤ o ∧ o < 12 := by
  intro o ho
  unfold allM at ho
  simp only [List.mem_cons] at ho
  rcases ho with rfl | rfl | h
  · decide
  · decide
  · have := offsM_lt k o h; omega
theorem allM_length (k : Int) : (allM k).length ≤ 7 := by unfold allM; have := offsM_length k; simp; omega
theorem lit_own (w : World) (B : Nat) (T : TypeId) (x y : Value) (hB : B ≤ w.heap.size) : (w.alloc (.cells #[x, y] T)).ownsRow B T 1 (.slice (some ⟨w.heap.size, 0, none⟩) 2 2) 2 [x, y] := World.ownsRow_lit (base := B) (e := T) (size := 1) w #[x, y] 2 hB (by decide) rfl
theorem own_below {B C : Nat} {w w' : World} {v : Value} {T : TypeId} {n : Nat} {xs : List Value} (h : w.ownsRow B T 1 v n xs) (hb : Below C w w') (hC : w.heap.size ≤ C) : w'.ownsRow B T 1 v n xs := by
  obtain ⟨h1, h2 | ⟨g, cap, cur, rfl, hg, hh, rest⟩⟩ := h
  · exact ⟨h1, .inl h2⟩
  · refine ⟨h1, .inr ⟨g, cap, cur, rfl, hg, ?_, rest⟩⟩
    rw [← hh]
    exact hb.block g (Nat.lt_of_lt_of_le (Array.getElem?_eq_some_iff.1 hh).1 hC)
theorem szA (w : World) (o : Obj) : w.heap.size ≤ (w.alloc o).heap.size := by simp
theorem ptrs_news {w : World} {b off : Nat} {l : List Value} (h : ∀ j x, l[j]? = some x → w.cell? ⟨b, off + j, none⟩ = some x) : ∀ j u, l[j]? = some u → w.cell? ((⟨b, off, none⟩ : Addr).add j) = some u := by
  intro j u hj
  have e : (⟨b, off, none⟩ : Addr).add j = ⟨b, off + j, none⟩ := by simp [Addr.add]; try (intro h; rw [h]; done)
  rw [e]; exact h j u hj
theorem msg_named_some (g : Nat) (k : Int) (hk : offsM k ≠ []) (w : World) (hc : w.cell? ⟨g, 0, none⟩ = some (.int .i64 k)) :
    Calls Tryz.prog 33 #[.pointer (some ⟨g, 0, none⟩)] w fun e w' => ∃ b off cap, e = .returned (.slice (some ⟨b, off, none⟩) (ptrs g (offsM k)).length cap) ∧ b < w'.heap.size ∧ (∀ j x, (ptrs g (offsM k))[j]? = some x → w'.cell? ⟨b, off + j, none⟩ = some x) ∧ w'.cell? ⟨g, 0, none⟩ = some (.int .i64 k) ∧ Below w.heap.size w w' := by
  have hgl := World.block_lt_of_cell? w _ hc
  refine (msg_named g k w hc).mono ?_
  rintro e w' ⟨v, rfl, hr, hb⟩
  rcases hr with ⟨_, _, _, hnil⟩ | ⟨b, off, cap, rfl, _, hbl, hn⟩
  · exfalso
    apply hk
    have := congrArg List.length hnil
    rw [ptrs_length] at this
    exact List.eq_nil_of_length_eq_zero this
  · exact ⟨b, off, cap, rfl, hbl, hn, keepB hb hc hgl, hb⟩
/-- append onto a slice of the call's own, as one step of a region that draws its order. -/
theorem step_append_own {P : Program} {w : World} {ops : Array Oper} {o : Oper} {a : Act} {K : Act → World → Prop} {Q : Exit → Act → World → Prop} {E : Prop} (hgd : o.guard = none) (s x : Operand) (t : TypeId)
    (ho : o.op = .call { callee := .builtin .append, args := #[s, x], argTypes := #[t, t] })
    (base : Nat) (e : TypeId) (i : TypeInfo) (z : Value) (size bytes : Nat) (ht : P.underlying t = some (.slice e)) (hi : P.info? e = some i) (hz : i.zero = some z)
    (hsize : i.size = size) (hby : i.bytes = bytes) (hzs : z.cells.size = size) (hsz : 0 < size)
    (v : Value) (n : Nat) (xs : List Value) (hs : a.eval s = v) (hown : w.ownsRow base e size v n xs)
    (ad : Addr) (m c : Nat) (news : List Value) (hx : a.eval x = .slice (some ad) m c) (hl : news.length = m * size) (hnews : ∀ j u, news[j]? = some u → w.cell? (ad.add j) = some u) (h1 : ∀ u ∈ news, u.oneCell' = true)
    (h63 : n + m ≤ maxLen) (hbytes : (n + m) * bytes ≤ 140737488355328) (hbase : base ≤ w.heap.size)
    (h : ∀ v' w', w'.ownsRow base e size v' (n + m) (xs ++ news) → w.grownBy w' v.ownBlock → (v' = .slice none 0 0 ↔ v = .slice none 0 0 ∧ m = 0) → K (a.put o.dst v') w') :
    if Region.wanted o (yielded ops a.tmps) = true then Oper.wp P o a w K Q else E := by
  have hw : Region.wanted o (yielded ops a.tmps) = true := by simp [Region.wanted, hgd]
  rw [if_pos hw]
  exact wp_append_own w s x t ho base e i z size bytes ht hi hz hsize hby hzs hsz v n xs hs hown ad m c news hx hl hnews h1 h63 hbytes hbase h
set_option maxRecDepth 100000 in
set_option maxHeartbeats 1600000 in
theorem msg_all (g : Nat) (k : Int) (hk : offsM k ≠ []) (w : World) (hc : w.cell? ⟨g, 0, none⟩ = some (.int .i64 k)) :
    Calls Tryz.prog 23 #[.pointer (some ⟨g, 0, none⟩)] w fun e w' => ∃ v, e = .returned v ∧ RowV w.heap.size w' v (ptrs g (allM k)) ∧ Below w.heap.size w w' := by
  obtain ⟨i0, hi, hz, hsize, hby⟩ : ∃ i, Tryz.prog.info? 54 = some i ∧ i.zero = some (.pointer none) ∧ i.size = 1 ∧ i.bytes = 8 := ⟨_, rfl, rfl, rfl, rfl⟩
  have HI := Lib.hid hi
  have hgl := World.block_lt_of_cell? w _ hc
  have hn5 := offsM_length k
  have hpo : ∀ u ∈ ptrs g (offsM k), u.oneCell' = true := by intro u hu; unfold ptrs at hu; obtain ⟨o, _, rfl⟩ := List.mem_map.1 hu; rfl
  have HPO := Lib.hid hpo
  have H63 : Hid (2 + (ptrs g (offsM k)).length ≤ maxLen) := Lib.hid (by unfold maxLen; rw [ptrs_length]; omega)
  have HBY : Hid ((2 + (ptrs g (offsM k)).length) * 8 ≤ 140737488355328) := Lib.hid (by rw [ptrs_length]; omega)
  clear hi hpo
  go_enter Tryz.func23, Tryz.ntmps23
  go_upto_region 1 with fail
  go_cut [2] (fun s2 wx => RowV w.heap.size wx s2 (ptrs g (allM k)) ∧ Below w.heap.size w wx)
  case first =>
    go_region_held3 (fun w' => w'.cell? ⟨g, 0, none⟩ = some (.int .i64 k)) (first | (go_keep; done) | exact hc4 | exact hc5 | exact keepA hc4 _)
      (first
        | (go_at_call 33; refine (msg_named_some g k hk _ (by first | exact hc | exact keepA hc _)).mono ?_; rintro e w4 ⟨b4, o4, cp4, rfl, hbl, hnews, hc4, hb4⟩)
        | (first | (refine step_append_own (by rfl) (.tmp 9) (.tmp 11) 51 (by rfl) w.heap.size 54 i0 (.pointer none) 1 8 Tryz.underlying51 HI.out hz hsize hby rfl (by decide) _ 2 [.pointer (some ⟨g, 1, none⟩), .pointer (some ⟨g, 2, none⟩)] rfl (own_below (lit_two w w.heap.size 54 _ _ (Nat.le_refl _)) hb4 (Nat.le_refl _)) ⟨b4, o4, none⟩ _ _ (ptrs g (offsM k)) rfl (Nat.mul_one _).symm (ptrs_news hnews) HPO.out H63.out HBY.out (Nat.le_trans (szA w _) hb4.size) (fun v5 w5 hown5 hgrow5 _ => ?_); have hb5 : Below w.heap.size w w5 := own_grown_ (own_below (lit_two w w.heap.size 54 (.pointer (some ⟨g, 1, none⟩)) (.pointer (some ⟨g, 2, none⟩)) (Nat.le_refl _)) hb4 (Nat.le_refl _)) ((((Below.refl w.heap.size w).alloc (Nat.le_refl _) _).drew).trans (hb4.mono (szA w _))) (Nat.le_trans (szA w _) hb4.size) hgrow5; have hc5 := keepB hb5 hc hgl) | (refine step_append_own (by rfl) (.tmp 9) (.tmp 11) 51 (by rfl) w.heap.size 54 i0 (.pointer none) 1 8 Tryz.underlying51 HI.out hz hsize hby rfl (by decide) _ 2 [.pointer (some ⟨g, 1, none⟩), .pointer (some ⟨g, 2, none⟩)] rfl (lit_own w4 w.heap.size 54 _ _ hb4.size) ⟨b4, o4, none⟩ _ _ (ptrs g (offsM k)) rfl (Nat.mul_one _).symm (ptrs_news (fun j x hj => keepA (hnews j x hj) _)) HPO.out H63.out HBY.out (Nat.le_trans hb4.size (szA w4 _)) (fun v5 w5 hown5 hgrow5 _ => ?_); have hb5 : Below w.heap.size w w5 := own_grown_ (lit_own w4 w.heap.size 54 (.pointer (some ⟨g, 1, none⟩)) (.pointer (some ⟨g, 2, none⟩)) hb4.size) (((Below.refl w.heap.size w).drew.trans hb4).alloc hb4.size _) (Nat.le_trans hb4.size (szA w4 _)) hgrow5; have hc5 := keepB hb5 hc hgl)))
    all_goals
      go_wp2_with fail
      go_meet
      exact ⟨rowV_own (by exact hown5), hb5⟩
  case rest =>
    obtain ⟨hr, hb⟩ := hcut
    have HR := Lib.hid hr
    have HB := Lib.hid hb
    clear hr hb
    go_wp2_with fail
    go_ret
    exact ⟨_, rfl, HR.out, HB.out⟩
end Go.Proofs.YtcibeiehdjekiaaGreatDoor
