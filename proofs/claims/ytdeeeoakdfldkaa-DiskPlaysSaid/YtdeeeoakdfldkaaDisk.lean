/-
  What a disk does (reeve's layer 38), as contracts; and its reference.
-/
import Derived.Test.YtdeeeoakdfldkaaBuild
import Derived.Test.YtdeeeoakdfldkaaFenceLaws
import Derived.StillTailTactics
namespace Go.Proofs.Ytdeeeoakdfldkaa
open Go.RowKit
set_option linter.unusedVariables false
set_option linter.unusedSimpArgs false

set_option maxRecDepth 100000 in
theorem bld_reset (T b o B : Nat) (cs : Array Value) (v : Value) (l : List UInt8) (w : World) (ho : o + 1 < cs.size) (hb : Blk w b cs T) (h : BldIn cs B b o w v l) :
    Calls Try.prog 47 #[.pointer (some ⟨b, o, none⟩)] w fun e w' => e = .returned (.tuple #[]) ∧ Blk w' b ((cs.setIfInBounds o (.pointer none)).setIfInBounds (o + 1) (.slice none 0 0)) T ∧ Chg (fun k => k = b) w w' ∧ w'.heap.size = w.heap.size := by
  obtain ⟨x, hx⟩ : ∃ x, cs[o]? = some x := ⟨cs[o], Array.getElem?_eq_getElem _⟩
  obtain ⟨y, hy⟩ : ∃ y, cs[o + 1]? = some y := ⟨cs[o + 1], Array.getElem?_eq_getElem _⟩
  have c0 := hb.cell hx
  have c1 := hb.cell hy
  have f0 := hb.free o
  have f1 := hb.free (o + 1)
  have HB := Lib.hid hb
  clear hb hx hy h
  go_enter Try.func47, Try.ntmps47
  go_wp2
  go_end0
  exact ⟨rfl, (HB.out.set o _).set (o + 1) _, Chg.set (Chg.set (S := fun k => k = b) (Chg.refl _ _) (p := ⟨b, o, none⟩) rfl _) (p := ⟨b, o + 1, none⟩) rfl _, by simp⟩

/-- A disk's cells. -/
def dcs (ep yes no : Int) (p v : Value) (lit : Bool) (fuse : Int) : Array Value := #[.int .i64 ep, .int .i64 yes, .int .i64 no, p, v, .bool lit, .int .i64 fuse]
/-- A disk with those bytes; its bytes' row is v. -/
def Dsk (B b : Nat) (w : World) (s : ByteArray) (ep yes no : Int) (lit : Bool) (fuse : Int) (v : Value) : Prop :=
  ∃ p, Blk w b (dcs ep yes no p v lit fuse) 71 ∧ BldIn (dcs ep yes no p v lit fuse) B b 3 w v s.data.toList
theorem dsk_lies : Lies 71 7 3 := ⟨by decide, by kernel_rfl⟩

theorem disk_new (w : World) : Calls Try.prog 24 #[] w fun e w' => e = .returned (.pointer (some ⟨w.heap.size, 0, none⟩)) ∧ w.alloc (.cells #[.int .i64 0, .int .i64 0, .int .i64 0, .pointer none, .slice none 0 0, .bool false, .int .i64 0] 71) = w' := by
  go_enter Try.func24, Try.ntmps24
  go_wp2
  go_ret
  exact ⟨rfl, rfl⟩
theorem dsk_new (B : Nat) (w : World) : Dsk B w.heap.size (w.alloc (.cells #[.int .i64 0, .int .i64 0, .int .i64 0, .pointer none, .slice none 0 0, .bool false, .int .i64 0] 71)) ⟨#[]⟩ 0 0 0 false 0 (.slice none 0 0) :=
  ⟨.pointer none, Blk.new w _ _, .inl rfl, rfl, ⟨rfl, .inl ⟨rfl, rfl⟩⟩, by simp [Value.ownBlock]⟩

/-- What a disk's bytes' row is: none, or a row of bytes that lies from B on. -/
theorem Dsk.row {B b : Nat} {w : World} {s : ByteArray} {ep yes no : Int} {lit : Bool} {fuse : Int} {v : Value} (h : Dsk B b w s ep yes no lit fuse v) : ∀ k, v.ownBlock = some k → B ≤ k ∧ k < w.heap.size ∧ k ≠ b := by
  obtain ⟨p, hb, _, _, hown, hne⟩ := h
  intro k hk
  rcases hown.2 with ⟨rfl, _⟩ | ⟨g, cap, cur, fz, rfl, hbg, hg, _⟩
  · simp [Value.ownBlock] at hk
  · have : g = k := by simpa [Value.ownBlock] using hk
    subst this
    exact ⟨hbg, (Array.getElem?_eq_some_iff.1 hg).1, fun e => hne (by rw [← e]; exact hk)⟩
theorem Dsk.lt {B b : Nat} {w : World} {s : ByteArray} {ep yes no : Int} {lit : Bool} {fuse : Int} {v : Value} (h : Dsk B b w s ep yes no lit fuse v) : b < w.heap.size := by
  obtain ⟨p, hb, _⟩ := h; exact hb.lt
/-- A disk is as it was where none of its blocks has turned. -/
theorem Dsk.kept {B b : Nat} {w w' : World} {s : ByteArray} {ep yes no : Int} {lit : Bool} {fuse : Int} {v : Value} {S : Nat → Prop} (h : Dsk B b w s ep yes no lit fuse v) (hc : Chg S w w') (h1 : ¬ S b) (h2 : ∀ k, v.ownBlock = some k → ¬ S k) : Dsk B b w' s ep yes no lit fuse v := by
  obtain ⟨p, hb, hp, hv, hown, hne⟩ := h
  exact ⟨p, (hc.block b hb.lt h1).trans hb, hp, hv, own_kept hown hc h2, hne⟩
theorem Dsk.below {B b C : Nat} {w w' : World} {s : ByteArray} {ep yes no : Int} {lit : Bool} {fuse : Int} {v : Value} (h : Dsk B b w s ep yes no lit fuse v) (hc : Below C w w') (hC : w.heap.size ≤ C) : Dsk B b w' s ep yes no lit fuse v :=
  h.kept (S := fun _ => False) ⟨hc.os, hc.tape, hc.output, hc.size, fun k hk _ => hc.block k (by omega)⟩ (fun h => h) (fun _ _ h => h)
theorem Dsk.drew {B b : Nat} {w : World} {s : ByteArray} {ep yes no : Int} {lit : Bool} {fuse : Int} {v : Value} (h : Dsk B b w s ep yes no lit fuse v) : Dsk B b w.drew s ep yes no lit fuse v := h
theorem Dsk.drewN {B b n : Nat} {w : World} {s : ByteArray} {ep yes no : Int} {lit : Bool} {fuse : Int} {v : Value} (h : Dsk B b w s ep yes no lit fuse v) : Dsk B b (w.drewN n) s ep yes no lit fuse v := h
/-- A number of the disk's own is turned. -/
theorem Dsk.upd {B b : Nat} {w w' : World} {s : ByteArray} {ep yes no ep' yes' no' : Int} {lit lit' : Bool} {fuse fuse' : Int} {v : Value} (h : Dsk B b w s ep yes no lit fuse v) (hc : Chg (fun k => k = b) w w')
    (hb : ∀ p, Blk w b (dcs ep yes no p v lit fuse) 71 → Blk w' b (dcs ep' yes' no' p v lit' fuse') 71) : Dsk B b w' s ep' yes' no' lit' fuse' v := by
  obtain ⟨p, hb0, hp, hv, hown, hne⟩ := h
  exact ⟨p, hb p hb0, hp, hv, own_kept hown hc (fun k hk e => hne (by rw [hk, e])), hne⟩
theorem chg_b (w : World) (b o : Nat) (v : Value) : Chg (fun k => k = b) w (w.setCell ⟨b, o, none⟩ v) := Chg.set (S := fun k => k = b) (Chg.refl _ _) (p := ⟨b, o, none⟩) rfl _

section
variable {B b : Nat} {w : World} {s : ByteArray} {ep yes no : Int} {lit : Bool} {fuse : Int} {v : Value}
theorem Dsk.c (h : Dsk B b w s ep yes no lit fuse v) : w.cell? ⟨b, 0, none⟩ = some (.int .i64 ep) ∧ w.cell? ⟨b, 1, none⟩ = some (.int .i64 yes) ∧ w.cell? ⟨b, 2, none⟩ = some (.int .i64 no) ∧ w.cell? ⟨b, 5, none⟩ = some (.bool lit) ∧ w.cell? ⟨b, 6, none⟩ = some (.int .i64 fuse) := by
  obtain ⟨p, hb, _⟩ := h
  exact ⟨hb.cell rfl, hb.cell rfl, hb.cell rfl, hb.cell rfl, hb.cell rfl⟩
theorem Dsk.f (h : Dsk B b w s ep yes no lit fuse v) (i : Nat) : w.frozen? ⟨b, i, none⟩ = false := by
  obtain ⟨p, hb, _⟩ := h
  exact hb.free i
theorem Dsk.set0 (h : Dsk B b w s ep yes no lit fuse v) (x : Int) : Dsk B b (w.setCell ⟨b, 0, none⟩ (.int .i64 x)) s x yes no lit fuse v := h.upd (chg_b _ _ _ _) fun p hb => hb.set 0 _
theorem Dsk.set1 (h : Dsk B b w s ep yes no lit fuse v) (x : Int) : Dsk B b (w.setCell ⟨b, 1, none⟩ (.int .i64 x)) s ep x no lit fuse v := h.upd (chg_b _ _ _ _) fun p hb => hb.set 1 _
theorem Dsk.set2 (h : Dsk B b w s ep yes no lit fuse v) (x : Int) : Dsk B b (w.setCell ⟨b, 2, none⟩ (.int .i64 x)) s ep yes x lit fuse v := h.upd (chg_b _ _ _ _) fun p hb => hb.set 2 _
theorem Dsk.set5 (h : Dsk B b w s ep yes no lit fuse v) (x : Bool) : Dsk B b (w.setCell ⟨b, 5, none⟩ (.bool x)) s ep yes no x fuse v := h.upd (chg_b _ _ _ _) fun p hb => hb.set 5 _
theorem Dsk.set6 (h : Dsk B b w s ep yes no lit fuse v) (x : Int) : Dsk B b (w.setCell ⟨b, 6, none⟩ (.int .i64 x)) s ep yes no lit x v := h.upd (chg_b _ _ _ _) fun p hb => hb.set 6 _
end

/-- What a call of a disk's leaves: the disk's block and its bytes' row may have turned, the row may be a new one. -/
def Dpost (b : Nat) (v v' : Value) (w w' : World) : Prop := Chg (fun k => k = b ∨ v.ownBlock = some k) w w' ∧ (v'.ownBlock = v.ownBlock ∨ v'.ownBlock = none ∨ ∃ k, v'.ownBlock = some k ∧ w.heap.size ≤ k)
theorem Dpost.refl (b : Nat) (v : Value) (w : World) : Dpost b v v w w := ⟨Chg.refl _ _, .inl rfl⟩
theorem Dpost.trans {b : Nat} {v v1 v2 : Value} {a w w' : World} (h : Dpost b v v1 a w) (k : Dpost b v1 v2 w w') : Dpost b v v2 a w' := by
  obtain ⟨h1, h2⟩ := h
  obtain ⟨k1, k2⟩ := k
  refine ⟨⟨k1.os.trans h1.os, k1.tape.trans h1.tape, k1.output.trans h1.output, Nat.le_trans h1.size k1.size, fun i hi hn => ?_⟩, ?_⟩
  · refine (k1.block i (Nat.lt_of_lt_of_le hi h1.size) (fun hs => ?_)).trans (h1.block i hi hn)
    rcases hs with hs | hs
    · exact hn (.inl hs)
    · rcases h2 with h2 | h2 | ⟨q, h2, hq⟩
      · exact hn (.inr (h2 ▸ hs))
      · rw [h2] at hs; cases hs
      · rw [h2] at hs; injection hs with hs; omega
  · rcases k2 with k2 | k2 | ⟨q, k2, hq⟩
    · rw [k2]; exact h2
    · exact .inr (.inl k2)
    · exact .inr (.inr ⟨q, k2, Nat.le_trans h1.size hq⟩)
theorem Dpost.own {b : Nat} {v : Value} {a w w' : World} {v1 : Value} (h : Dpost b v v1 a w) (k : Chg (fun k => k = b) w w') : Dpost b v v1 a w' :=
  h.trans ⟨k.mono (fun _ _ h => .inl h), .inl rfl⟩
theorem Dpost.drew {b : Nat} {v v1 : Value} {a w : World} (h : Dpost b v v1 a w) : Dpost b v v1 a w.drew := ⟨h.1.drew, h.2⟩

set_option maxRecDepth 100000 in
theorem disk_read (B b : Nat) (s : ByteArray) (ep yes no : Int) (lit : Bool) (fuse : Int) (v : Value) (w : World) (h : Dsk B b w s ep yes no lit fuse v) (hB : B ≤ w.heap.size) :
    Calls Try.prog 31 #[.pointer (some ⟨b, 0, none⟩)] w fun e w' => e = .returned (.string s) ∧ Dsk B b w' s ep yes no lit fuse v ∧ Dpost b v v w w' := by
  obtain ⟨p, hb, hbl⟩ := h
  have HS := Lib.hid (bld_string 71 b 3 B _ v _ w hb hbl hB)
  clear hb hbl
  go_enter Try.func31, Try.ntmps31
  go_wp2_with (go_at_call 48; refine HS.out.mono ?_; rintro e w1 ⟨rfl, hb1, hbl1, hc1⟩)
  go_ret
  exact ⟨rfl, ⟨p, hb1, hbl1⟩, hc1.mono (fun k _ hk => .inr hk.symm), .inl rfl⟩
theorem disk_len (B b : Nat) (s : ByteArray) (ep yes no : Int) (lit : Bool) (fuse : Int) (v : Value) (w : World) (h : Dsk B b w s ep yes no lit fuse v) (hB : B ≤ w.heap.size) :
    Calls Try.prog 32 #[.pointer (some ⟨b, 0, none⟩)] w fun e w' => e = .returned (.int .i64 s.size) ∧ Dsk B b w' s ep yes no lit fuse v ∧ Dpost b v v w w' := by
  have HS := Lib.hid (disk_read B b s ep yes no lit fuse v w h hB)
  clear h
  go_enter Try.func32, Try.ntmps32
  go_wp2_with (go_at_call 31; refine HS.out.mono ?_; rintro e w1 ⟨rfl, hb1, hc1⟩)
  go_ret
  exact ⟨rfl, hb1, hc1⟩
theorem disk_epoch (B b : Nat) (s : ByteArray) (ep yes no : Int) (lit : Bool) (fuse : Int) (v : Value) (w : World) (h : Dsk B b w s ep yes no lit fuse v) :
    Calls Try.prog 33 #[.pointer (some ⟨b, 0, none⟩)] w fun e w' => e = .returned (.int .i64 ep) ∧ w = w' := by
  obtain ⟨h0, _⟩ := h.c
  clear h
  go_enter Try.func33, Try.ntmps33
  go_wp2_with (go_at_call 15; refine (epoch_any _ _ _ _ h0).mono ?_; rintro e w1 ⟨rfl, rfl⟩)
  go_ret
  exact ⟨rfl, rfl⟩
theorem disk_enter_yes (B b : Nat) (s : ByteArray) (ep yes no : Int) (lit : Bool) (fuse : Int) (v : Value) (n : Int) (h1 : 1 ≤ n) (h2 : n ≤ 4294967295) (h3 : ep ≤ n) (w : World) (h : Dsk B b w s ep yes no lit fuse v) :
    Calls Try.prog 45 #[.pointer (some ⟨b, 0, none⟩), .int .i64 n] w fun e w' => e = .returned (.int .i64 0) ∧ Dsk B b w' s n (wrap64 (yes + 1)) no lit fuse v ∧ Dpost b v v w w' := by
  obtain ⟨c0, c1, _⟩ := h.c
  have f0 := h.f 0
  have f1 := h.f 1
  have H := Lib.hid h
  clear h
  have hnot : ∀ (x : Bool) (w : World), (Op.unary .not (.bool x)).run Try.prog w = .ok (.bool (!x)) w := fun _ _ => rfl
  go_enter Try.func45, Try.ntmps45
  go_wp2_with (go_at_call 13; refine (pass_yes b 0 ep yes n h1 h2 h3 _ c0 c1 f0 f1).mono ?_; rintro e w1 ⟨rfl, rfl⟩)
  go_ret
  exact ⟨rfl, (H.out.set0 n).set1 _, ((Dpost.refl b v w).own (chg_b _ _ 0 _)).own (chg_b _ _ 1 _)⟩
theorem disk_enter_no (B b : Nat) (s : ByteArray) (ep yes no : Int) (lit : Bool) (fuse : Int) (v : Value) (n : Int) (hn : n < 1 ∨ 4294967295 < n ∨ n < ep) (w : World) (h : Dsk B b w s ep yes no lit fuse v) :
    Calls Try.prog 45 #[.pointer (some ⟨b, 0, none⟩), .int .i64 n] w fun e w' => e = .returned (.int .i64 11) ∧ Dsk B b w' s ep yes (wrap64 (no + 1)) lit fuse v ∧ Dpost b v v w w' := by
  obtain ⟨c0, c1, c2, _⟩ := h.c
  have f2 := h.f 2
  have H := Lib.hid h
  have HN := Lib.hid hn
  clear h hn
  have hnot : ∀ (x : Bool) (w : World), (Op.unary .not (.bool x)).run Try.prog w = .ok (.bool (!x)) w := fun _ _ => rfl
  go_enter Try.func45, Try.ntmps45
  go_wp2_with (go_at_call 13; refine (pass_no b 0 ep no n HN.out _ c0 c2 f2).mono ?_; rintro e w1 ⟨rfl, rfl⟩)
  go_ret
  exact ⟨rfl, H.out.set2 _, (Dpost.refl b v w).own (chg_b _ _ 2 _)⟩

/-- A write: the row may be a new one. -/
theorem dsk_write (B b : Nat) (s : ByteArray) (ep yes no : Int) (lit : Bool) (fuse : Int) (v : Value) (t : ByteArray) (w : World) (h : Dsk B b w s ep yes no lit fuse v) (hlen : s.size + t.size ≤ 140737488355328) (hB : B ≤ w.heap.size) (hbB : B ≤ b) :
    Calls Try.prog 46 #[.pointer (some ⟨b, 3, none⟩), .string t] w fun e w' => e = .returned (.tuple #[.int .i64 t.size, .nilIface]) ∧ ∃ v', Dsk B b w' (s ++ t) ep yes no lit fuse v' ∧ Dpost b v v' w w' := by
  obtain ⟨p, hb, hbl⟩ := h
  refine (bld_writeString 71 b 3 B _ v s.data.toList t w (show Lies _ (dcs ep yes no p v lit fuse).size 3 from dsk_lies) (by decide) hb hbl hlen hB hbB).mono ?_
  rintro e w' ⟨rfl, v', hb', hbl', hc, hv⟩
  have e1 : wrote (dcs ep yes no p v lit fuse) b 3 v' = dcs ep yes no (.pointer (some ⟨b, 3, none⟩)) v' lit fuse := rfl
  rw [e1] at hb' hbl'
  have e2 : (s ++ t).data.toList = s.data.toList ++ t.data.toList := by simp
  exact ⟨rfl, v', ⟨_, hb', by rw [e2]; exact hbl'⟩, hc.mono (fun k _ hk => hk.imp id Eq.symm), hv.imp id .inr⟩
theorem dsk_reset (B b : Nat) (s : ByteArray) (ep yes no : Int) (lit : Bool) (fuse : Int) (v : Value) (w : World) (h : Dsk B b w s ep yes no lit fuse v) :
    Calls Try.prog 47 #[.pointer (some ⟨b, 3, none⟩)] w fun e w' => e = .returned (.tuple #[]) ∧ Dsk B b w' ⟨#[]⟩ ep yes no lit fuse (.slice none 0 0) ∧ Dpost b v (.slice none 0 0) w w' := by
  obtain ⟨p, hb, hbl⟩ := h
  refine (bld_reset 71 b 3 B _ v s.data.toList w (show 3 + 1 < (dcs ep yes no p v lit fuse).size from (by show 3 + 1 < 7; decide)) hb hbl).mono ?_
  rintro e w' ⟨rfl, hb', hc, hz⟩
  have e1 : ((dcs ep yes no p v lit fuse).setIfInBounds 3 (.pointer none)).setIfInBounds (3 + 1) (.slice none 0 0) = dcs ep yes no (.pointer none) (.slice none 0 0) lit fuse := rfl
  rw [e1] at hb'
  exact ⟨rfl, ⟨_, hb', .inl rfl, rfl, ⟨rfl, .inl ⟨rfl, rfl⟩⟩, by simp [Value.ownBlock]⟩, hc.mono (fun k _ hk => .inl hk), .inr (.inl rfl)⟩
theorem Dpost.sizeB {b B : Nat} {v v' : Value} {w w' : World} (h : Dpost b v v' w w') (hB : B ≤ w.heap.size) : B ≤ w'.heap.size := Nat.le_trans hB h.1.size

theorem disk_append_fence (B b : Nat) (s : ByteArray) (ep yes no : Int) (lit : Bool) (fuse : Int) (v : Value) (n : Int) (t : ByteArray) (hn : n < 1 ∨ 4294967295 < n ∨ n < ep) (w : World) (h : Dsk B b w s ep yes no lit fuse v) :
    Calls Try.prog 27 #[.pointer (some ⟨b, 0, none⟩), .int .i64 n, .string t] w fun e w' => e = .returned (.int .i64 11) ∧ Dsk B b w' s ep yes (wrap64 (no + 1)) lit fuse v ∧ Dpost b v v w w' := by
  have HE := Lib.hid (disk_enter_no B b s ep yes no lit fuse v n hn w h)
  clear h hn
  go_enter Try.func27, Try.ntmps27
  go_wp2_with (go_at_call 45; refine HE.out.mono ?_; rintro e w1 ⟨rfl, hd, hp⟩)
  go_ret
  exact ⟨rfl, hd, hp⟩
theorem disk_append_full (B b : Nat) (s : ByteArray) (ep yes no : Int) (lit : Bool) (fuse : Int) (v : Value) (n : Int) (t : ByteArray) (h1 : 1 ≤ n) (h2 : n ≤ 4294967295) (h3 : ep ≤ n) (hs : s.size ≤ 65536) (ht : t.size ≤ 65536) (hfull : 65536 < s.size + t.size) (w : World) (h : Dsk B b w s ep yes no lit fuse v) (hB : B ≤ w.heap.size) :
    Calls Try.prog 27 #[.pointer (some ⟨b, 0, none⟩), .int .i64 n, .string t] w fun e w' => e = .returned (.int .i64 6) ∧ Dsk B b w' s n (wrap64 (yes + 1)) no lit fuse v ∧ Dpost b v v w w' := by
  have HE := Lib.hid (disk_enter_yes B b s ep yes no lit fuse v n h1 h2 h3 w h)
  have hd : decide ((65536 : Int) < (s.size : Int) + (t.size : Int)) = true := by simp; omega
  clear h
  go_enter Try.func27, Try.ntmps27
  go_wp2_with (go_at_call 45; refine HE.out.mono ?_; rintro e w1 ⟨rfl, hd1, hp1⟩)
  refine (disk_len B b s _ _ no lit fuse v _ hd1 (hp1.sizeB hB)).mono ?_
  rintro e w2 ⟨rfl, hd2, hp2⟩
  have HD := Lib.hid hd2
  have HP := Lib.hid (hp1.trans hp2)
  clear hd1 hd2 hp1 hp2
  go_wp2_with fail
  go_ret
  exact ⟨rfl, HD.out, HP.out⟩
set_option maxRecDepth 100000 in
theorem disk_append_off (B b : Nat) (s : ByteArray) (ep yes no : Int) (fuse : Nat) (v : Value) (n : Int) (t : ByteArray) (h1 : 1 ≤ n) (h2 : n ≤ 4294967295) (h3 : ep ≤ n) (hs : s.size ≤ 65536) (ht : t.size ≤ 65536) (hfull : ¬ 65536 < s.size + t.size) (hfu : fuse < t.size) (w : World) (h : Dsk B b w s ep yes no true fuse v) (hB : B ≤ w.heap.size) (hbB : B ≤ b) :
    Calls Try.prog 27 #[.pointer (some ⟨b, 0, none⟩), .int .i64 n, .string t] w fun e w' => e = .returned (.int .i64 14) ∧ ∃ v', Dsk B b w' (s ++ t.extract 0 fuse) n (wrap64 (yes + 1)) no false fuse v' ∧ Dpost b v v' w w' := by
  have HE := Lib.hid (disk_enter_yes B b s ep yes no true fuse v n h1 h2 h3 w h)
  have hd : decide ((65536 : Int) < (s.size : Int) + (t.size : Int)) = false := by simp; omega
  have hd2 : decide ((fuse : Int) < (t.size : Int)) = true := by simp; omega
  have hk0 : (0 : Int) ≤ (fuse : Int) := by omega
  have hk1 : (fuse : Int) ≤ (t.size : Int) := by omega
  clear h
  go_enter Try.func27, Try.ntmps27
  go_wp2_with (go_at_call 45; refine HE.out.mono ?_; rintro e w1 ⟨rfl, hd1, hp1⟩)
  refine (disk_len B b s _ _ no true fuse v _ hd1 (hp1.sizeB hB)).mono ?_
  rintro e w2 ⟨rfl, hd2', hp2⟩
  obtain ⟨_, _, _, c5, c6⟩ := hd2'.c
  have HD := Lib.hid hd2'
  have HP := Lib.hid (hp1.trans hp2)
  clear hd1 hd2' hp1 hp2
  go_wp2_with fail
  go_still_tail 9, (by kernel_rfl)
  change wpList _ _ _ _ _ w2.drew
  generalize hw3 : w2.drew = w3
  have HD3 : Hid (Dsk B b w3 s n (wrap64 (yes + 1)) no true fuse v) := Lib.hid (by rw [← hw3]; exact HD.out.drew)
  have HP3 : Hid (Dpost b v v w w3) := Lib.hid (by rw [← hw3]; exact HP.out.drew)
  clear hw3 c5 c6
  go_wp2_with fail
  refine (dsk_write B b s _ _ no true fuse v _ _ HD3.out (by rw [ByteArray.size_extract]; omega) (HP3.out.sizeB hB) hbB).mono ?_
  rintro e w4 ⟨rfl, v', hd4, hp4⟩
  obtain ⟨_, _, _, c5, c6⟩ := hd4.c
  have f5 := hd4.f 5
  have HD4 := Lib.hid hd4
  have HP4 := Lib.hid (HP3.out.trans hp4)
  clear hd4 hp4
  go_wp2_with fail
  go_ret
  exact ⟨rfl, v', HD4.out.set5 false, HP4.out.own (chg_b _ _ 5 _)⟩
set_option maxRecDepth 100000 in
theorem disk_append_ok (B b : Nat) (s : ByteArray) (ep yes no : Int) (lit : Bool) (fuse : Int) (v : Value) (n : Int) (t : ByteArray) (h1 : 1 ≤ n) (h2 : n ≤ 4294967295) (h3 : ep ≤ n) (hs : s.size ≤ 65536) (ht : t.size ≤ 65536) (hfull : ¬ 65536 < s.size + t.size) (hfu : lit = true → (t.size : Int) ≤ fuse) (w : World) (h : Dsk B b w s ep yes no lit fuse v) (hB : B ≤ w.heap.size) (hbB : B ≤ b) :
    Calls Try.prog 27 #[.pointer (some ⟨b, 0, none⟩), .int .i64 n, .string t] w fun e w' => e = .returned (.int .i64 0) ∧ ∃ v', Dsk B b w' (s ++ t) n (wrap64 (yes + 1)) no lit (wrap64 (fuse - t.size)) v' ∧ Dpost b v v' w w' := by
  have HE := Lib.hid (disk_enter_yes B b s ep yes no lit fuse v n h1 h2 h3 w h)
  have hd : decide ((65536 : Int) < (s.size : Int) + (t.size : Int)) = false := by simp; omega
  clear h
  cases lit
  all_goals
    go_enter Try.func27, Try.ntmps27
    go_wp2_with (go_at_call 45; refine HE.out.mono ?_; rintro e w1 ⟨rfl, hd1, hp1⟩)
    refine (disk_len B b s _ _ no _ fuse v _ hd1 (hp1.sizeB hB)).mono ?_
    rintro e w2 ⟨rfl, hd2', hp2⟩
    obtain ⟨_, _, _, c5, c6⟩ := hd2'.c
    have HD := Lib.hid hd2'
    have HP := Lib.hid (hp1.trans hp2)
    clear hd1 hd2' hp1 hp2
  · go_wp2_with fail
    refine (dsk_write B b s _ _ no _ fuse v t _ HD.out (by omega) (HP.out.sizeB hB) hbB).mono ?_
    rintro e w4 ⟨rfl, v', hd4, hp4⟩
    obtain ⟨_, _, _, c5, c6⟩ := hd4.c
    have f6 := hd4.f 6
    have HD4 := Lib.hid hd4
    have HP4 := Lib.hid (HP.out.trans hp4)
    clear hd4 hp4
    go_wp2_with fail
    go_ret
    exact ⟨rfl, v', HD4.out.set6 _, HP4.out.own (chg_b _ _ 6 _)⟩
  · have hlt : decide (fuse < (t.size : Int)) = false := by have := hfu (by first | rfl | trivial); simp; omega
    go_wp2_with fail
    refine (dsk_write B b s _ _ no _ fuse v t _ HD.out (by omega) (HP.out.sizeB hB) hbB).mono ?_
    rintro e w4 ⟨rfl, v', hd4, hp4⟩
    obtain ⟨_, _, _, c5, c6⟩ := hd4.c
    have f6 := hd4.f 6
    have HD4 := Lib.hid hd4
    have HP4 := Lib.hid (HP.out.trans hp4)
    clear hd4 hp4
    go_wp2_with fail
    go_ret
    exact ⟨rfl, v', HD4.out.set6 _, HP4.out.own (chg_b _ _ 6 _)⟩

theorem disk_trim_fence (B b : Nat) (s : ByteArray) (ep yes no : Int) (lit : Bool) (fuse : Int) (v : Value) (n k : Int) (hn : n < 1 ∨ 4294967295 < n ∨ n < ep) (w : World) (h : Dsk B b w s ep yes no lit fuse v) :
    Calls Try.prog 29 #[.pointer (some ⟨b, 0, none⟩), .int .i64 n, .int .i64 k] w fun e w' => e = .returned (.int .i64 11) ∧ Dsk B b w' s ep yes (wrap64 (no + 1)) lit fuse v ∧ Dpost b v v w w' := by
  have HE := Lib.hid (disk_enter_no B b s ep yes no lit fuse v n hn w h)
  clear h hn
  go_enter Try.func29, Try.ntmps29
  go_wp2_with (go_at_call 45; refine HE.out.mono ?_; rintro e w1 ⟨rfl, hd, hp⟩)
  go_ret
  exact ⟨rfl, hd, hp⟩
set_option maxRecDepth 100000 in
theorem disk_trim_out (B b : Nat) (s : ByteArray) (ep yes no : Int) (lit : Bool) (fuse : Int) (v : Value) (n k : Int) (h1 : 1 ≤ n) (h2 : n ≤ 4294967295) (h3 : ep ≤ n) (hs : s.size ≤ 65536) (hk : k < 0 ∨ (s.size : Int) < k) (w : World) (h : Dsk B b w s ep yes no lit fuse v) (hB : B ≤ w.heap.size) :
    Calls Try.prog 29 #[.pointer (some ⟨b, 0, none⟩), .int .i64 n, .int .i64 k] w fun e w' => e = .returned (.int .i64 1) ∧ Dsk B b w' s n (wrap64 (yes + 1)) no lit fuse v ∧ Dpost b v v w w' := by
  have HE := Lib.hid (disk_enter_yes B b s ep yes no lit fuse v n h1 h2 h3 w h)
  have hr : (decide (0 ≤ k) && decide (k ≤ (s.size : Int))) = false := by simp; omega
  have HN : Hid (∀ w, Calls Try.prog 34 #[.int .i64 k, .int .i64 0, .int .i64 s.size] w fun e w' => e = .returned (.bool false) ∧ w = w') := Lib.hid (fun w => by have := num_right k 0 s.size w; rwa [hr] at this)
  have hnot : ∀ (x : Bool) (w : World), (Op.unary .not (.bool x)).run Try.prog w = .ok (.bool (!x)) w := fun _ _ => rfl
  clear h hk hr
  go_enter Try.func29, Try.ntmps29
  go_wp2_with (go_at_call 45; refine HE.out.mono ?_; rintro e w1 ⟨rfl, hd1, hp1⟩)
  refine (disk_len B b s _ _ no lit fuse v _ hd1 (hp1.sizeB hB)).mono ?_
  rintro e w2 ⟨rfl, hd2, hp2⟩
  have HD := Lib.hid hd2
  have HP := Lib.hid (hp1.trans hp2)
  clear hd1 hd2 hp1 hp2
  go_wp2_with (go_at_call 34; refine (HN.out _).mono ?_; rintro e w3 ⟨rfl, rfl⟩)
  go_ret
  exact ⟨rfl, HD.out, HP.out⟩
set_option maxRecDepth 100000 in
theorem disk_trim_ok (B b : Nat) (s : ByteArray) (ep yes no : Int) (lit : Bool) (fuse : Int) (v : Value) (n : Int) (k : Nat) (h1 : 1 ≤ n) (h2 : n ≤ 4294967295) (h3 : ep ≤ n) (hs : s.size ≤ 65536) (hk : k ≤ s.size) (w : World) (h : Dsk B b w s ep yes no lit fuse v) (hB : B ≤ w.heap.size) (hbB : B ≤ b) :
    Calls Try.prog 29 #[.pointer (some ⟨b, 0, none⟩), .int .i64 n, .int .i64 k] w fun e w' => e = .returned (.int .i64 0) ∧ ∃ v', Dsk B b w' (s.extract 0 k) n (wrap64 (yes + 1)) no lit fuse v' ∧ Dpost b v v' w w' := by
  have HE := Lib.hid (disk_enter_yes B b s ep yes no lit fuse v n h1 h2 h3 w h)
  have hr : (decide (0 ≤ (k : Int)) && decide ((k : Int) ≤ (s.size : Int))) = true := by simp; omega
  have HN : Hid (∀ w, Calls Try.prog 34 #[.int .i64 k, .int .i64 0, .int .i64 s.size] w fun e w' => e = .returned (.bool true) ∧ w = w') := Lib.hid (fun w => by have := num_right k 0 s.size w; rwa [hr] at this)
  have hnot : ∀ (x : Bool) (w : World), (Op.unary .not (.bool x)).run Try.prog w = .ok (.bool (!x)) w := fun _ _ => rfl
  have hk1 : (k : Int) ≤ (s.size : Int) := by omega
  clear h hr
  go_enter Try.func29, Try.ntmps29
  go_wp2_with (go_at_call 45; refine HE.out.mono ?_; rintro e w1 ⟨rfl, hd1, hp1⟩)
  refine (disk_len B b s _ _ no lit fuse v _ hd1 (hp1.sizeB hB)).mono ?_
  rintro e w2 ⟨rfl, hd2, hp2⟩
  have HD := Lib.hid hd2
  have HP := Lib.hid (hp1.trans hp2)
  clear hd1 hd2 hp1 hp2
  go_wp2_with (go_at_call 34; refine (HN.out _).mono ?_; rintro e w3 ⟨rfl, rfl⟩)
  refine (disk_read B b s _ _ no lit fuse v _ HD.out (HP.out.sizeB hB)).mono ?_
  rintro e w4 ⟨rfl, hd4, hp4⟩
  have HD4 := Lib.hid hd4
  have HP4 := Lib.hid (HP.out.trans hp4)
  clear hd4 hp4
  go_wp2_with fail
  refine (dsk_reset B b s _ _ no lit fuse v _ HD4.out).mono ?_
  rintro e w5 ⟨rfl, hd5, hp5⟩
  have HD5 := Lib.hid hd5
  have HP5 := Lib.hid (HP4.out.trans hp5)
  clear hd5 hp5
  go_wp2_with fail
  refine (dsk_write B b _ _ _ no lit fuse _ _ _ HD5.out (by rw [ByteArray.size_extract]; show 0 + _ ≤ _; omega) (HP5.out.sizeB hB) hbB).mono ?_
  rintro e w6 ⟨rfl, v', hd6, hp6⟩
  have HD6 := Lib.hid hd6
  have HP6 := Lib.hid (HP5.out.trans hp6)
  clear hd6 hp6
  go_wp2_with fail
  go_ret
  refine ⟨rfl, v', ?_, HP6.out⟩
  have e : (⟨#[]⟩ : ByteArray) ++ s.extract 0 k = s.extract 0 k := by apply ByteArray.ext; simp
  have := HD6.out
  rwa [e] at this
theorem disk_fuse_on (B b : Nat) (s : ByteArray) (ep yes no : Int) (lit : Bool) (fuse : Int) (v : Value) (x : Int) (hx : 0 ≤ x) (w : World) (h : Dsk B b w s ep yes no lit fuse v) :
    Calls Try.prog 30 #[.pointer (some ⟨b, 0, none⟩), .int .i64 x] w fun e w' => e = .returned (.int .i64 0) ∧ Dsk B b w' s ep yes no true x v ∧ Dpost b v v w w' := by
  obtain ⟨_, _, _, c5, c6⟩ := h.c
  have f5 := h.f 5
  have f6 := h.f 6
  have H := Lib.hid h
  clear h
  have hm : max x 0 = x := by omega
  go_enter Try.func30, Try.ntmps30
  go_wp2_with fail
  go_ret
  exact ⟨rfl, (H.out.set5 true).set6 x, ((Dpost.refl b v w).own (chg_b _ _ 5 _)).own (chg_b _ _ 6 _)⟩
theorem disk_fuse_off (B b : Nat) (s : ByteArray) (ep yes no : Int) (lit : Bool) (fuse : Int) (v : Value) (x : Int) (hx : x < 0) (w : World) (h : Dsk B b w s ep yes no lit fuse v) :
    Calls Try.prog 30 #[.pointer (some ⟨b, 0, none⟩), .int .i64 x] w fun e w' => e = .returned (.int .i64 0) ∧ Dsk B b w' s ep yes no false 0 v ∧ Dpost b v v w w' := by
  obtain ⟨_, _, _, c5, c6⟩ := h.c
  have f5 := h.f 5
  have f6 := h.f 6
  have H := Lib.hid h
  clear h
  have hm : max x 0 = 0 := by omega
  have hd : decide (0 ≤ x) = false := by simp; omega
  go_enter Try.func30, Try.ntmps30
  go_wp2_with fail
  go_ret
  exact ⟨rfl, (H.out.set5 false).set6 0, ((Dpost.refl b v w).own (chg_b _ _ 5 _)).own (chg_b _ _ 6 _)⟩
theorem disk_nil_append (n : Int) (t : ByteArray) (w : World) : Calls Try.prog 27 #[.pointer none, .int .i64 n, .string t] w fun e w' => e = .returned (.int .i64 7) ∧ w = w' := by
  have HE : Hid (∀ w, Calls Try.prog 45 #[.pointer none, .int .i64 n] w fun e w' => e = .returned (.int .i64 7) ∧ w = w') := Lib.hid (fun w => by
    go_enter Try.func45, Try.ntmps45
    go_wp2
    go_ret
    exact ⟨rfl, rfl⟩)
  go_enter Try.func27, Try.ntmps27
  go_wp2_with (go_at_call 45; refine (HE.out _).mono ?_; rintro e w1 ⟨rfl, rfl⟩)
  go_ret
  exact ⟨rfl, rfl⟩
theorem disk_nil_trim (n k : Int) (w : World) : Calls Try.prog 29 #[.pointer none, .int .i64 n, .int .i64 k] w fun e w' => e = .returned (.int .i64 7) ∧ w = w' := by
  have HE : Hid (∀ w, Calls Try.prog 45 #[.pointer none, .int .i64 n] w fun e w' => e = .returned (.int .i64 7) ∧ w = w') := Lib.hid (fun w => by
    go_enter Try.func45, Try.ntmps45
    go_wp2
    go_ret
    exact ⟨rfl, rfl⟩)
  go_enter Try.func29, Try.ntmps29
  go_wp2_with (go_at_call 45; refine (HE.out _).mono ?_; rintro e w1 ⟨rfl, rfl⟩)
  go_ret
  exact ⟨rfl, rfl⟩
theorem disk_nil_fuse (n : Int) (w : World) : Calls Try.prog 30 #[.pointer none, .int .i64 n] w fun e w' => e = .returned (.int .i64 7) ∧ w = w' := by
  go_enter Try.func30, Try.ntmps30
  go_wp2
  go_ret
  exact ⟨rfl, rfl⟩
theorem disk_nil_read (w : World) : Calls Try.prog 31 #[.pointer none] w fun e w' => e = .returned (.string ⟨#[]⟩) ∧ w = w' := by
  go_enter Try.func31, Try.ntmps31
  go_wp2
  go_ret
  exact ⟨rfl, rfl⟩
theorem disk_nil_len (w : World) : Calls Try.prog 32 #[.pointer none] w fun e w' => e = .returned (.int .i64 0) ∧ w = w' := by
  go_enter Try.func32, Try.ntmps32
  go_wp2_with (go_at_call 31; refine (disk_nil_read _).mono ?_; rintro e w1 ⟨rfl, rfl⟩)
  go_ret
  exact ⟨rfl, rfl⟩
theorem disk_nil_epoch (w : World) : Calls Try.prog 33 #[.pointer none] w fun e w' => e = .returned (.int .i64 0) ∧ w = w' := by
  go_enter Try.func33, Try.ntmps33
  go_wp2
  go_ret
  exact ⟨rfl, rfl⟩
end Go.Proofs.Ytdeeeoakdfldkaa
