/-
  The numbers of a text (reeve's layer 5): the program's walk.
-/
import Derived.Test.YtogjckengmkfiaaDoorDecParse
import Derived.Test.YtogjckengmkfiaaDoorIntRow
namespace Go.Proofs.YtogjckengmkfiaaDoor
open Go.RowKit
set_option linter.unusedVariables false
set_option linter.unusedSimpArgs false

theorem splitC_le (c : UInt8) (l : List UInt8) : ∀ x ∈ splitC c l, x.length ≤ l.length := by
  induction l with
  | nil => intro x hx; simp [splitC] at hx; subst hx; simp
  | cons a r ih =>
    intro x hx
    unfold splitC at hx
    have hne := splitC_ne c r
    split at hx
    · rw [List.mem_cons] at hx
      rcases hx with rfl | hx
      · simp
      · have := ih x hx; simp only [List.length_cons]; omega
    · cases hs : splitC c r with
      | nil => exact absurd hs hne
      | cons h t =>
        rw [hs] at hx ih
        simp only [List.headD_cons, List.tail_cons, List.mem_cons] at hx
        rcases hx with rfl | hx
        · have := ih h (by simp); simp only [List.length_cons]; omega
        · have := ih x (by simp [hx]); simp only [List.length_cons]; omega
theorem rowS_pick_ {w : World} {p : Option Addr} {cap n : Nat} {l : List (List UInt8)} (h : RowS w (.slice p n cap) (l.map strL)) (hn : l.length = n) : ∀ j, j < n → ∃ b off cp x, (Value.slice p n cap) = .slice (some ⟨b, off, none⟩) n cp ∧ l[j]? = some x ∧ w.cell? ⟨b, off + j, none⟩ = some (.string (strL x)) ∧ b < w.heap.size := by
  intro j hj
  rcases h with ⟨_, _, _, h0⟩ | ⟨b, off, cp, e1, hb, hc, _⟩
  · have : l = [] := by simpa using h0
    rw [this] at hn; simp at hn; omega
  · rw [List.length_map, hn] at e1
    have hj' : j < l.length := by omega
    exact ⟨b, off, cp, l[j], e1, List.getElem?_eq_getElem hj', hc j _ (by rw [List.getElem?_map, List.getElem?_eq_getElem hj']; rfl), hb⟩
theorem takeL_at_ {l : List (List UInt8)} {i : Nat} {x : List UInt8} (h : l[i]? = some x) : l.take (i + 1) = l.take i ++ [x] := by
  obtain ⟨hi, e⟩ := List.getElem?_eq_some_iff.1 h
  rw [List.take_succ_eq_append_getElem hi, e]
/-- The numbers of texts, if each is one's. -/
def allV : List (List UInt8) → Option (List Int)
  | [] => some []
  | x :: r => match decV x, allV r with
    | some n, some ns => some (n :: ns)
    | _, _ => none
theorem allV_length {l : List (List UInt8)} {ns : List Int} (h : allV l = some ns) : ns.length = l.length := by
  induction l generalizing ns with
  | nil => simp [allV] at h; subst h; rfl
  | cons x r ih =>
    unfold allV at h
    split at h
    · rename_i n ns' h1 h2
      injection h with h; subst h
      simp [ih h2]
    · cases h
theorem allV_app (l r : List (List UInt8)) : allV (l ++ r) = match allV l, allV r with
    | some a, some b => some (a ++ b)
    | _, _ => none := by
  induction l with
  | nil => simp [allV]; cases allV r <;> rfl
  | cons x l ih =>
    have e1 : allV (x :: l ++ r) = (match decV x, allV (l ++ r) with | some n, some ns => some (n :: ns) | _, _ => none) := rfl
    have e2 : allV (x :: l) = (match decV x, allV l with | some n, some ns => some (n :: ns) | _, _ => none) := rfl
    rw [e1, e2, ih]
    cases decV x <;> cases allV l <;> cases allV r <;> rfl
theorem allV_snoc (l : List (List UInt8)) (x : List UInt8) (ns : List Int) (n : Int) (h : allV l = some ns) (hx : decV x = some n) : allV (l ++ [x]) = some (ns ++ [n]) := by
  rw [allV_app, h]
  have : allV [x] = some [n] := by simp [allV, hx]
  rw [this]
theorem allV_bad (l : List (List UInt8)) (i : Nat) (x : List UInt8) (h : l[i]? = some x) (hx : decV x = none) : allV l = none := by
  induction l generalizing i with
  | nil => simp at h
  | cons y r ih =>
    unfold allV
    cases i with
    | zero => simp at h; subst h; rw [hx]
    | succ i =>
      rw [List.getElem?_cons_succ] at h
      rw [ih i h]
      cases decV y <;> rfl
/-- The numbers of a text, if it has so many; and the error. -/
def listR (l : List UInt8) (many : Int) : List Int × Int := if ((splitC 44 l).length : Int) ≠ many then ([], 2) else match allV (splitC 44 l) with
  | some ns => (ns, 0)
  | none => ([], 2)
theorem decR_of {l : List UInt8} : (∃ n, decV l = some n ∧ decR l = (n, 0)) ∨ (decV l = none ∧ decR l = (0, 2)) := by
  unfold decR
  cases h : decV l with
  | none => exact .inr ⟨rfl, rfl⟩
  | some n => exact .inl ⟨n, rfl, rfl⟩
set_option maxRecDepth 100000 in
set_option maxHeartbeats 3200000 in
theorem dec_parseList (s : ByteArray) (many : Int) (hs : s.size ≤ 100000) (w : World) (hl : Laid w) :
    Calls Tryd.prog 60 #[.string s, .int .i64 many] w fun e w' => ∃ v, e = .returned (.tuple #[v, .int .i64 (listR s.data.toList many).2]) ∧ RowN w' v (listR s.data.toList many).1 ∧ Below w.heap.size w w' := by
  obtain ⟨i0, hi, hz, hsize, hby⟩ : ∃ i, Tryd.prog.info? 3 = some i ∧ i.zero = some (.int .i64 0) ∧ i.size = 1 ∧ i.bytes = 8 := ⟨_, rfl, rfl, rfl, rfl⟩
  have HI := Lib.hid hi
  clear hi
  have hs63 : s.size ≤ 9223372036854775807 := by omega
  have hsl : s.data.toList.length = s.size := (Lib.size_eq s).symm
  have SP := Lib.hid (fun w => split_one s 44 w (by omega))
  have hle := splitC_le 44 s.data.toList
  have hcnt := splitC_count 44 s.data.toList
  have hcl : List.count 44 s.data.toList ≤ s.data.toList.length := List.count_le_length
  have hn1 : ((splitC 44 s.data.toList).length : Int) ≠ many → listR s.data.toList many = ([], 2) := by intro h; unfold listR; rw [if_pos h]
  have hn2 : allV (splitC 44 s.data.toList) = none → listR s.data.toList many = ([], 2) := by
    intro h; unfold listR; rw [h]; split <;> rfl
  have hn3 : ∀ ns, ((splitC 44 s.data.toList).length : Int) = many → allV (splitC 44 s.data.toList) = some ns → listR s.data.toList many = (ns, 0) := by
    intro ns h h2; unfold listR; rw [if_neg (by rw [h]; simp), h2]
  obtain ⟨RR, hR⟩ : ∃ RR, listR s.data.toList many = RR := ⟨_, rfl⟩
  rw [hR] at hn1 hn2 ⊢
  simp only [hR] at hn3
  obtain ⟨R1, R2⟩ := RR
  generalize splitC 44 s.data.toList = P at SP hle hcnt hn1 hn2 hn3
  obtain ⟨n, hn⟩ : ∃ n, P.length = n := ⟨_, rfl⟩
  rw [hn] at hcnt
  simp only [hn] at hn1 hn3
  have HN := Lib.hid hn
  have HN1 := Lib.hid hn1
  have HN2 := Lib.hid hn2
  have HN3 := Lib.hid hn3
  have HLE := Lib.hid hle
  have HL := Lib.hid hl
  have hnb : n ≤ 100001 := by omega
  clear hle hcnt hcl hn1 hn2 hn3 hR hn hl
  go_enter Tryd.func60, Tryd.ntmps60
  go_wp2_with fail
  refine (SP.out _).mono ?_
  rintro e w1 ⟨v1, rfl, hr1, hb1⟩
  have L1 := Lib.hid (HL.out.below hb1)
  have B1 := Lib.hid hb1
  obtain ⟨p, cap, hv1⟩ := hr1.len
  rw [List.length_map, HN.out] at hv1
  subst hv1
  have RW := Lib.hid hr1
  have HP := Lib.hid (rowS_pick_ hr1 HN.out)
  clear hr1 hb1 SP HL
  by_cases hm : (n : Int) = many
  · subst hm
    clear HN1
    go_wp2_with fail
    go_loopg [7, 20] n (fun g v i wr => ∃ (k : Nat) (ns : List Int), k ≤ n ∧ g = n - k ∧ i = .int .i64 k ∧ ns.length = k ∧ OwnN w1.heap.size wr v ns ∧ Below w1.heap.size w1 wr ∧ Hid (allV (P.take k) = some ns))
    case atStart => exact ⟨0, [], Nat.zero_le _, rfl, rfl, rfl, OwnN.nil _ _, Below.refl _ _, Lib.hid rfl⟩
    case round =>
      obtain ⟨k, ns, hk, hg, rfl, hns, hown, hbl, HA⟩ := hrel
      have hg := hg.symm
      subst hg
      have HO := Lib.hid hown
      have HB := Lib.hid hbl
      clear hown hbl
      by_cases hlt : k < n
      · obtain ⟨b, off, cp, x, e1, hx, k0, hbl⟩ := HP.out k hlt
        cases e1
        have k1 := keepB HB.out k0 hbl
        have hlI : (k : Int) < (n : Int) := by omega
        have hk0 : (0 : Int) ≤ (k : Int) := by omega
        have hxl := HLE.out x (List.mem_of_getElem? hx)
        have LR := Lib.hid (L1.out.below HB.out)
        have PX := Lib.hid (fun w h => dec_parse (strL x) (by rw [strL_size]; omega) w h)
        rw [strL_list] at PX
        generalize strL x = X at k1 PX
        rcases decR_of (l := x) with ⟨m, hm1, hm2⟩ | ⟨hm1, hm2⟩
        · rw [hm2] at PX
          have HA2 : Hid (allV (P.take (k + 1)) = some (ns ++ [m])) := Lib.hid (by rw [takeL_at_ hx]; exact allV_snoc _ _ _ _ HA.out hm1)
          clear hx hm1 hm2 k0 hxl HA
          go_wp2_with fail
          refine (PX.out _ LR.out).mono ?_
          rintro e w2 ⟨rfl, hb2⟩
          have HO2 := Lib.hid (HO.out.below hb2 (Nat.le_refl _))
          have HB2 := Lib.hid (HB.out.trans (hb2.mono HB.out.size))
          clear hb2 HO HB LR PX k1
          go_wp2_with (at_builtin; refine wpList_append_own _ rfl _ _ 37 rfl w1.heap.size 3 i0 (.int .i64 0) 1 8 Tryd.underlying37 HI.out hz hsize hby rfl (by decide) _ ns.length (ns.map (Value.int .i64)) rfl (HO2.out.below ((Below.refl _ _).alloc (Nat.le_refl _) _) (Nat.le_refl _)) ⟨_, 0, none⟩ 1 1 [.int .i64 m] rfl rfl (cell_one_new _ _ _) (by intro u hu; simp at hu; subst hu; rfl) (by unfold maxLen; omega) (by omega) (by have := HB2.out.size; simp; omega) ?_)
          intro v' w4 hown2 hgrow _
          have HO3 := Lib.hid (OwnN.mk (l := ns) (b := m) (by rw [hns]; exact hown2))
          have HB3 := Lib.hid (OwnN.gby (HO2.out.below ((Below.refl _ _).alloc (Nat.le_refl _) _) (Nat.le_refl _)) (HB2.out.alloc HB2.out.size _) (by have := HB2.out.size; simp; omega) hgrow)
          clear hown2 hgrow
          go_wp2_with fail
          go_roundg (n - (k + 1))
          case measure => omega
          case rel => exact ⟨k + 1, ns ++ [m], by omega, rfl, by go_num, by rw [List.length_append, hns]; rfl, HO3.out, HB3.out, HA2⟩
        · rw [hm2] at PX
          have HR := Lib.hid (HN2.out (allV_bad P k x hx hm1))
          clear hx hm1 hm2 k0 hxl HA
          go_wp2_with fail
          refine (PX.out _ LR.out).mono ?_
          rintro e w2 ⟨rfl, hb2⟩
          have HB2 := Lib.hid (HB.out.trans (hb2.mono HB.out.size))
          clear hb2
          go_wp2_with fail
          go_ret2
          exact ⟨_, by rw [(Prod.mk.inj HR.out).2]; rfl, by rw [(Prod.mk.inj HR.out).1]; exact .inl ⟨_, _, rfl, rfl⟩, B1.out.trans (HB2.out.mono B1.out.size)⟩
      · obtain rfl : k = n := by omega
        have HR := Lib.hid (HN3.out ns (by first | rfl | trivial) (by rw [← HA.out, List.take_of_length_le (by rw [HN.out]; exact Nat.le_refl _)]))
        clear HA
        go_wp2_with fail
        go_ret2
        exact ⟨_, by rw [(Prod.mk.inj HR.out).2]; rfl, by rw [(Prod.mk.inj HR.out).1]; exact HO.out.row, B1.out.trans (HB.out.mono B1.out.size)⟩
  · have HR := Lib.hid (HN1.out hm)
    have hne : ((n : Int) == many) = false := beq_eq_false_iff_ne.2 hm
    clear HN1 HN2 HN3
    go_wp2_with fail
    go_ret2
    exact ⟨_, by rw [(Prod.mk.inj HR.out).2]; rfl, by rw [(Prod.mk.inj HR.out).1]; exact .inl ⟨_, _, rfl, rfl⟩, B1.out⟩
end Go.Proofs.YtogjckengmkfiaaDoor
