/-
  Numbers' texts with a comma between (reeve's layer 5): the program's List, the reference's List and ParseList.
-/
import Derived.Test.YtogjckengmkfiaaDoorDecList
import Derived.Test.YtogjckengmkfiaaDoorWords
namespace Go.Proofs.YtogjckengmkfiaaDoor
open Go.RowKit
set_option linter.unusedVariables false
set_option linter.unusedSimpArgs false

theorem nil_app_ (X : ByteArray) : (⟨#[]⟩ : ByteArray) ++ X = X := by apply ByteArray.ext; simp
/-- Numbers as one text. -/
def listL (ns : List Int) : List UInt8 := Lib.join (ns.map Lib.itoa) [44]
theorem join_snoc_ (l : List (List UInt8)) (h : l ≠ []) (x sep : List UInt8) : Lib.join (l ++ [x]) sep = Lib.join l sep ++ sep ++ x := by
  cases l with
  | nil => exact absurd rfl h
  | cons y r => rw [List.cons_append, Lib.join_cons, Lib.join_cons]; simp [Lib.joinTail]
theorem listL_snoc (ns : List Int) (h : ns ≠ []) (n : Int) : listL (ns ++ [n]) = listL ns ++ [44] ++ Lib.itoa n := by
  unfold listL
  rw [List.map_append]
  exact join_snoc_ _ (by simp [h]) _ _
theorem listL_one (n : Int) : listL [n] = Lib.itoa n := Lib.join_one _ _
theorem listL_len (ns : List Int) (h : ∀ n ∈ ns, inI n) : (listL ns).length ≤ 21 * ns.length := by
  unfold listL
  cases ns with
  | nil => simp [Lib.join_nil]
  | cons a r =>
    have h1 := itoa_len a (h a (by simp))
    rw [List.map_cons, Lib.join_cons, List.length_append, Lib.joinTail_length, List.length_map]
    have h2 : Lib.lens (r.map Lib.itoa) ≤ 20 * r.length := by
      have hr : ∀ n ∈ r, inI n := fun n hn => h n (by simp [hn])
      clear h
      induction r with
      | nil => simp [Lib.lens]
      | cons b t ih =>
        have h3 := itoa_len b (hr b (by simp))
        have h4 := ih (fun n hn => hr n (by simp [hn]))
        simp only [Lib.lens, List.map_cons, List.sum_cons, List.length_cons] at h4 ⊢
        omega
    simp only [List.length_cons, List.length_nil]
    omega
theorem takeI_at {l : List Int} {i : Nat} {x : Int} (h : l[i]? = some x) : l.take (i + 1) = l.take i ++ [x] := by
  obtain ⟨hi, e⟩ := List.getElem?_eq_some_iff.1 h
  rw [List.take_succ_eq_append_getElem hi, e]
theorem rowN_pick {w : World} {p : Option Addr} {cap n : Nat} {l : List Int} (h : RowN w (.slice p n cap) l) (hn : l.length = n) : ∀ j, j < n → ∃ b off cp x, (Value.slice p n cap) = .slice (some ⟨b, off, none⟩) n cp ∧ l[j]? = some x ∧ w.cell? ⟨b, off + j, none⟩ = some (.int .i64 x) ∧ b < w.heap.size := by
  intro j hj
  rcases h with ⟨_, _, _, h0⟩ | ⟨b, off, cp, e1, hb, hc, _⟩
  · rw [h0] at hn; simp at hn; omega
  · rw [hn] at e1
    have hj' : j < l.length := by omega
    exact ⟨b, off, cp, l[j], e1, List.getElem?_eq_getElem hj', hc j _ (List.getElem?_eq_getElem hj'), hb⟩
set_option maxRecDepth 100000 in
theorem join_row (v : Value) (l : List (List UInt8)) (w : World) (hv : RowS w v (l.map strL)) (hl : l.length ≤ 1000000) (hlen : (Lib.join l [44]).length ≤ 100000000) :
    Calls Tryd.prog 76 #[v, .string ⟨#[44]⟩] w fun e w' => e = .returned (.string (strL (Lib.join l [44]))) ∧ Below w.heap.size w w' := by
  have hmm : (l.map strL).map (·.data.toList) = l := by
    rw [List.map_map]
    conv => rhs; rw [← List.map_id l]
    apply List.map_congr_left
    intro x _; rfl
  rcases hv with ⟨p, cap, rfl, h0⟩ | ⟨b, off, cap, rfl, hb, hc, hcap⟩
  · have : l = [] := by simpa using h0
    subst this
    exact (Tryd.strings_Join_none p cap ⟨#[44]⟩ w).mono fun e w' ⟨he, hw⟩ => ⟨he, hw ▸ Below.refl _ _⟩
  · have hx : ((l.map strL).length) ≤ 140737488355328 := by rw [List.length_map]; omega
    have hj : (Lib.join ((l.map strL).map (·.data.toList)) (⟨#[44]⟩ : ByteArray).data.toList).length ≤ 140737488355328 := by
      rw [hmm]
      refine Nat.le_trans hlen ?_
      omega
    have h := Tryd.strings_Join b off cap (l.map strL) ⟨#[44]⟩ w hc hb hx hcap hj
    rw [hmm] at h
    exact h
set_option maxRecDepth 100000 in
set_option maxHeartbeats 3200000 in
theorem dec_list (v : Value) (ns : List Int) (w : World) (hv : RowN w v ns) (hl : ns.length ≤ 1000) (hns : ∀ n ∈ ns, inI n) (hL : Laid w) :
    Calls Tryd.prog 64 #[v] w fun e w' => e = .returned (.string (strL (listL ns))) ∧ Below w.heap.size w w' := by
  obtain ⟨i0, hi, hz, hsize, hby⟩ : ∃ i, Tryd.prog.info? 9 = some i ∧ i.zero = some (.string ⟨#[]⟩) ∧ i.size = 1 ∧ i.bytes = 16 := ⟨_, rfl, rfl, rfl, rfl⟩
  have HI := Lib.hid hi
  clear hi
  obtain ⟨p, cap, rfl⟩ := hv.len
  obtain ⟨n, hn⟩ : ∃ n, ns.length = n := ⟨_, rfl⟩
  rw [hn] at hv hl ⊢
  have HP := Lib.hid (rowN_pick hv hn)
  have HN := Lib.hid hn
  have HNS := Lib.hid hns
  have LL := Lib.hid hL
  have HLEN := Lib.hid (listL_len ns hns)
  clear hv hn hns hL
  go_enter Tryd.func64, Tryd.ntmps64
  go_wp2_with fail
  go_loopg [3, 8] n (fun g v i wr => ∃ (k : Nat) (l : List (List UInt8)), k ≤ n ∧ g = n - k ∧ i = .int .i64 k ∧ l.length = k ∧ OwnS w.heap.size wr v (l.map strL) ∧ Below w.heap.size w wr ∧ Hid (l = (ns.take k).map Lib.itoa))
  case atStart => exact ⟨0, [], Nat.zero_le _, rfl, rfl, rfl, OwnS.nil _ _, Below.refl _ _, Lib.hid rfl⟩
  case round =>
    obtain ⟨k, l, hk, hg, rfl, hll, hown, hbl, HA⟩ := hrel
    have hg := hg.symm
    subst hg
    have HO := Lib.hid hown
    have HB := Lib.hid hbl
    clear hown hbl
    by_cases hlt : k < n
    · obtain ⟨b, off, cp, x, e1, hx, k0, hbl⟩ := HP.out k hlt
      cases e1
      have k1 := keepB HB.out k0 hbl
      have hlI : (k : Int) < (n : Int) := by omega
      have hk0 : (0 : Int) ≤ (k : Int) := by omega
      have LR := Lib.hid (LL.out.below HB.out)
      have TX := Lib.hid (fun w h => dec_text x (HNS.out x (List.mem_of_getElem? hx)) w h)
      have HA2 : Hid (l ++ [Lib.itoa x] = (ns.take (k + 1)).map Lib.itoa) := Lib.hid (by rw [takeI_at hx, List.map_append, ← HA.out]; rfl)
      obtain ⟨T, hT⟩ : ∃ T, Lib.itoa x = T := ⟨_, rfl⟩
      rw [hT] at TX HA2
      clear hx k0 HA hT
      go_wp2_with fail
      refine (TX.out _ LR.out).mono ?_
      rintro e w2 ⟨rfl, hb2⟩
      have HO2 := Lib.hid (HO.out.below hb2 (Nat.le_refl _))
      have HB2 := Lib.hid (HB.out.trans (hb2.mono HB.out.size))
      clear hb2 HO HB LR TX k1
      go_wp2_with (at_builtin; refine wpList_append_own _ rfl _ _ 26 rfl w.heap.size 9 i0 (.string ⟨#[]⟩) 1 16 Tryd.underlying26 HI.out hz hsize hby rfl (by decide) _ (l.map strL).length ((l.map strL).map Value.string) rfl (HO2.out.below ((Below.refl _ _).alloc (Nat.le_refl _) _) (Nat.le_refl _)) ⟨_, 0, none⟩ 1 1 [.string (strL T)] rfl rfl (cell_one_new _ _ _) (by intro u hu; simp at hu; subst hu; rfl) (by unfold maxLen; simp; omega) (by simp; omega) (by have := HB2.out.size; simp; omega) ?_)
      intro v' w4 hown2 hgrow _
      have HO3 := Lib.hid (ownS_mkL (l := l) (b := strL T) (by rw [hll]; exact hown2))
      have HB3 := Lib.hid (OwnS.gby (HO2.out.below ((Below.refl _ _).alloc (Nat.le_refl _) _) (Nat.le_refl _)) (HB2.out.alloc HB2.out.size _) (by have := HB2.out.size; simp; omega) hgrow)
      clear hown2 hgrow
      go_wp2_with fail
      go_roundg (n - (k + 1))
      case measure => omega
      case rel => exact ⟨k + 1, l ++ [T], by omega, rfl, by go_num, by rw [List.length_append, hll]; rfl, by rw [List.map_append]; exact HO3.out, HB3.out, HA2⟩
    · obtain rfl : k = n := by omega
      have HF : Hid (Lib.join l [44] = listL ns) := Lib.hid (by rw [HA.out, List.take_of_length_le (by rw [HN.out]; exact Nat.le_refl _)]; rfl)
      have HR := Lib.hid HO.out.row
      have hjl : (Lib.join l [44]).length ≤ 100000000 := by have := HLEN.out; rw [HF.out]; rw [HN.out] at this; omega
      have J := Lib.hid (fun (wx : World) (v : Value) (h : RowS wx v (l.map strL)) => join_row v l wx h (by omega) hjl)
      rw [HF.out] at J
      obtain ⟨R, hR⟩ : ∃ R, strL (listL ns) = R := ⟨_, rfl⟩
      rw [hR] at J
      have HRR := Lib.hid hR
      clear hjl HF HA HO hR
      go_wp2_with fail
      refine (J.out _ _ HR.out).mono ?_
      rintro e w2 ⟨rfl, hb2⟩
      have HB2 := Lib.hid (HB.out.trans (hb2.mono HB.out.size))
      clear hb2
      go_wp2_with fail
      go_ret
      exact ⟨by rw [HRR.out]; rfl, HB2.out⟩
set_option maxRecDepth 100000 in
set_option maxHeartbeats 1600000 in
theorem ref05_list (v : Value) (ns : List Int) (w : World) (hv : RowN w v ns) (hl : ns.length ≤ 1000) (hns : ∀ n ∈ ns, inI n) :
    Calls Tryd.prog 65 #[v] w fun e w' => e = .returned (.string (strL (listL ns))) ∧ w = w' := by
  obtain ⟨p, cap, rfl⟩ := hv.len
  obtain ⟨n, hn⟩ : ∃ n, ns.length = n := ⟨_, rfl⟩
  rw [hn] at hv hl ⊢
  have HP := Lib.hid (rowN_pick hv hn)
  have HN := Lib.hid hn
  have HNS := Lib.hid hns
  obtain ⟨RES, hRES⟩ : ∃ R, strL (listL ns) = R := ⟨_, rfl⟩
  rw [hRES]
  have HRES := Lib.hid hRES
  clear hRES hv hn hns
  go_enter Tryd.func65, Tryd.ntmps65
  go_wp2_with fail
  go_loopg [3, 4] n (fun g s i wr => ∃ q : Nat, q ≤ n ∧ g = n - q ∧ i = .int .i64 q ∧ wr = w ∧ s = .string (strL (listL (ns.take q))))
  case atStart => exact ⟨0, Nat.zero_le _, rfl, rfl, rfl, rfl⟩
  case round =>
    obtain ⟨q, hq, hg, rfl, rfl, rfl⟩ := hrel
    have hg := hg.symm
    subst hg
    by_cases hlt : q < n
    · obtain ⟨b, off, cp, x, e1, hx, k1, hbl⟩ := HP.out q hlt
      cases e1
      have hlI : (q : Int) < (n : Int) := by omega
      have hq0 : (0 : Int) ≤ (q : Int) := by omega
      have hxi := HNS.out x (List.mem_of_getElem? hx)
      have TX := Lib.hid (ref05_textI x hxi)
      have hxz := itoa_len x hxi
      have hlen := listL_len (ns.take q) (fun n hn => HNS.out n (List.mem_of_mem_take hn))
      have htl : (ns.take q).length ≤ 1000 := by rw [List.length_take]; omega
      by_cases h0 : q = 0
      · subst h0
        have hJ : listL (ns.take (0 + 1)) = Lib.itoa x := by rw [takeI_at hx, List.take_zero, List.nil_append, listL_one]
        have HJ := Lib.hid hJ
        rw [List.take_zero]
        have hz0 : strL (listL []) = ⟨#[]⟩ := rfl
        rw [hz0]
        rw [Nat.add_zero] at k1
        have hz : (strL (Lib.itoa x)).size ≤ 9223372036854775807 := by rw [strL_size]; omega
        obtain ⟨X, hX⟩ : ∃ X, strL (Lib.itoa x) = X := ⟨_, rfl⟩
        rw [hX] at hz TX
        have HX := Lib.hid hX
        clear hx hJ hX hz0 hlen htl hxz hxi
        go_wp2_with fail
        refine (TX.out _).mono ?_
        rintro e w2 ⟨rfl, rfl⟩
        go_wp2_with fail
        go_roundg (n - (0 + 1))
        case measure => omega
        case rel => exact ⟨0 + 1, by omega, rfl, by go_num, rfl, by rw [HJ.out, HX.out, nil_app_]⟩
      · have hne : ns.take q ≠ [] := by
          intro e
          have := congrArg List.length e
          rw [List.length_take, HN.out] at this
          simp at this
          omega
        have hJ : listL (ns.take (q + 1)) = listL (ns.take q) ++ [44] ++ Lib.itoa x := by rw [takeI_at hx, listL_snoc _ hne]
        obtain ⟨A, hA⟩ : ∃ A, strL (listL (ns.take q)) = A := ⟨_, rfl⟩
        have hAz : A.size = (listL (ns.take q)).length := by rw [← hA, strL_size]
        obtain ⟨X, hX⟩ : ∃ X, strL (Lib.itoa x) = X := ⟨_, rfl⟩
        have hXz : X.size = (Lib.itoa x).length := by rw [← hX, strL_size]
        have HJ : Hid (strL (listL (ns.take (q + 1))) = A ++ ⟨#[44]⟩ ++ X) := Lib.hid (by rw [hJ, strL_app, strL_app, hA, hX]; rfl)
        rw [hX] at TX
        rw [hA]
        have z1 : A.size + (⟨#[44]⟩ : ByteArray).size ≤ 9223372036854775807 := by show A.size + 1 ≤ _; omega
        have z2 : (A ++ ⟨#[44]⟩).size + X.size ≤ 9223372036854775807 := by rw [ByteArray.size_append]; show A.size + 1 + X.size ≤ _; omega
        have hqp : (0 : Int) < (q : Int) := by omega
        clear hx hJ hX hA hne hAz hXz hlen htl hxz hxi
        go_wp2_with fail
        refine (TX.out _).mono ?_
        rintro e w2 ⟨rfl, rfl⟩
        go_wp2_with fail
        go_roundg (n - (q + 1))
        case measure => omega
        case rel => exact ⟨q + 1, by omega, rfl, by go_num, rfl, by rw [HJ.out]⟩
    · obtain rfl : q = n := by omega
      have HF : Hid (strL (listL (ns.take q)) = RES) := Lib.hid (by rw [← HRES.out, List.take_of_length_le (by rw [HN.out]; exact Nat.le_refl _)])
      rw [HF.out]
      go_wp2_with fail
      go_ret
      exact ⟨rfl, rfl⟩
end Go.Proofs.YtogjckengmkfiaaDoor
