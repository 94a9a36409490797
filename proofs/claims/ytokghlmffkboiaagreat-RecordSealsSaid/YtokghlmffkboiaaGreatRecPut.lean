/-
  Records: which may be, and their bytes (reeve's layer 20): the program's walks.
-/
import Derived.Test.YtokghlmffkboiaaGreatEventLaw
import Derived.Test.YtokghlmffkboiaaGreatFrameSeal
import Derived.Test.YtokghlmffkboiaaGreatFrameMath
namespace Go.Proofs.YtokghlmffkboiaaGreat
open Go.RowKit
set_option linter.unusedVariables false
set_option linter.unusedSimpArgs false

/-- The error of a record; 0: none. -/
def recCheck (r : List Int) : Int := if inR (fld r 0) 1 2147483647 = false ∨ inR (fld r 1) 1 4294967295 = false then 1 else checkL (r.drop 2)
/-- What stands in a record's frame. -/
def recB (r : List Int) : List UInt8 := varAny (fld r 0) ++ varAny (fld r 1) ++ putB (r.drop 2)
/-- A record's bytes, and the error. -/
def sealR (r : List Int) : ByteArray × Int := if recCheck r = 0 then (sealB (str (recB r)), 0) else (⟨#[]⟩, recCheck r)
theorem ten_of {l : List Int} (h : l.length = 10) : ∃ q t k n j i p x y z, l = [q, t, k, n, j, i, p, x, y, z] := by
  match l, h with
  | [q, t, k, n, j, i, p, x, y, z], _ => exact ⟨q, t, k, n, j, i, p, x, y, z, rfl⟩
theorem recCheck_zero {r : List Int} (h : recCheck r = 0) : (1 ≤ fld r 0 ∧ fld r 0 ≤ 2147483647) ∧ (1 ≤ fld r 1 ∧ fld r 1 ≤ 4294967295) ∧ checkL (r.drop 2) = 0 := by
  unfold recCheck at h
  by_cases h1 : inR (fld r 0) 1 2147483647 = false ∨ inR (fld r 1) 1 4294967295 = false
  · rw [if_pos h1] at h; omega
  · rw [if_neg h1] at h
    have a : inR (fld r 0) 1 2147483647 = true := by cases hx : inR (fld r 0) 1 2147483647; exact absurd (.inl hx) h1; rfl
    have b : inR (fld r 1) 1 4294967295 = true := by cases hx : inR (fld r 1) 1 4294967295; exact absurd (.inr hx) h1; rfl
    exact ⟨inR_iff.1 a, inR_iff.1 b, h⟩
theorem recB_le (r : List Int) (h : recCheck r = 0) (hw : wfI (r.drop 2)) : (recB r).length ≤ 64 := by
  obtain ⟨h1, h2, h3⟩ := recCheck_zero h
  have a := varAny_length (fld r 0) (by omega)
  have b := varAny_length (fld r 1) (by omega)
  have c := putPart_le (r.drop 2) (fun i => (wfI_fld hw i).2) (offs (fld (r.drop 2) 0)).length
  unfold putPart at c
  rw [List.take_length] at c
  unfold recB putB
  rw [List.length_append, List.length_append]
  omega
set_option maxRecDepth 100000 in
set_option maxHeartbeats 1600000 in
theorem rec_check (r : List Int) (hr : r.length = 10) (w : World) :
    Calls Tryz.prog 13 #[.agg (cellsI r)] w fun e w' => e = .returned (.int .i64 (recCheck r)) ∧ Below w.heap.size w w' := by
  obtain ⟨q, t, k, n, j, i, p, x, y, z, rfl⟩ := ten_of hr
  clear hr
  have hC := event_check [k, n, j, i, p, x, y, z] rfl
  have h1 := num_right q 1 2147483647
  have h2 := num_right t 1 4294967295
  have hR : recCheck [q, t, k, n, j, i, p, x, y, z] = if inR q 1 2147483647 = false ∨ inR t 1 4294967295 = false then 1 else checkL [k, n, j, i, p, x, y, z] := rfl
  have a1 : cellsI [q, t, k, n, j, i, p, x, y, z] = #[.int .i64 q, .int .i64 t, .int .i64 k, .int .i64 n, .int .i64 j, .int .i64 i, .int .i64 p, .int .i64 x, .int .i64 y, .int .i64 z] := rfl
  have a2 : cellsI [k, n, j, i, p, x, y, z] = #[.int .i64 k, .int .i64 n, .int .i64 j, .int .i64 i, .int .i64 p, .int .i64 x, .int .i64 y, .int .i64 z] := rfl
  rw [a1]
  rw [a2] at hC
  clear a1 a2
  generalize inR q 1 2147483647 = a at h1 hR
  generalize inR t 1 4294967295 = b at h2 hR
  generalize checkL [k, n, j, i, p, x, y, z] = CK at hC hR
  obtain ⟨RC, hRC⟩ : ∃ c, recCheck [q, t, k, n, j, i, p, x, y, z] = c := ⟨_, rfl⟩
  rw [hRC] at hR ⊢
  clear hRC
  obtain ⟨W, hW⟩ : ∃ W, w.alloc (.cells #[.int .i64 q, .int .i64 t, .int .i64 k, .int .i64 n, .int .i64 j, .int .i64 i, .int .i64 p, .int .i64 x, .int .i64 y, .int .i64 z] 27) = W := ⟨_, rfl⟩
  have HB : Hid (Blk W w.heap.size #[.int .i64 q, .int .i64 t, .int .i64 k, .int .i64 n, .int .i64 j, .int .i64 i, .int .i64 p, .int .i64 x, .int .i64 y, .int .i64 z] 27) := Lib.hid (by rw [← hW]; exact Blk.new w _ _)
  have HL : Hid (Below w.heap.size w W) := Lib.hid (by rw [← hW]; exact (Below.refl w.heap.size w).alloc (Nat.le_refl _) _)
  have HW := Lib.hid hW
  have H1 := Lib.hid h1
  have H2 := Lib.hid h2
  have HC := Lib.hid hC
  have HR := Lib.hid hR
  clear hW h1 h2 hC hR
  have c0 := HB.out.cell (i := 0) rfl
  have c1 := HB.out.cell (i := 1) rfl
  have c2 := HB.out.cell (i := 2) rfl
  have c3 := HB.out.cell (i := 3) rfl
  have c4 := HB.out.cell (i := 4) rfl
  have c5 := HB.out.cell (i := 5) rfl
  have c6 := HB.out.cell (i := 6) rfl
  have c7 := HB.out.cell (i := 7) rfl
  have c8 := HB.out.cell (i := 8) rfl
  have c9 := HB.out.cell (i := 9) rfl
  go_enter Tryz.func13, Tryz.ntmps13
  go_upto_region 1 with fail
  rw [HW.out]
  clear HW
  cases a
  · have HR2 : Hid (RC = 1) := Lib.hid (by rw [HR.out]; simp)
    clear HR
    go_wp2_with (go_at_call 46; refine (H1.out _).mono ?_; rintro e w' ⟨rfl, rfl⟩)
    go_ret
    exact ⟨by rw [HR2.out]; rfl, HL.out⟩
  · cases b
    · have HR2 : Hid (RC = 1) := Lib.hid (by rw [HR.out]; simp)
      clear HR
      go_wp2_with (first
        | (go_at_call 46; ((with_reducible refine (H1.out _).mono ?_); rintro e w' ⟨rfl, rfl⟩))
        | (go_at_call 46; ((with_reducible refine (H2.out _).mono ?_); rintro e w' ⟨rfl, rfl⟩)))
      go_ret
      exact ⟨by rw [HR2.out]; rfl, HL.out⟩
    · have HR2 : Hid (RC = CK) := Lib.hid (by rw [HR.out]; simp)
      clear HR
      go_wp2_with (first
        | (go_at_call 46; ((with_reducible refine (H1.out _).mono ?_); rintro e w' ⟨rfl, rfl⟩))
        | (go_at_call 46; ((with_reducible refine (H2.out _).mono ?_); rintro e w' ⟨rfl, rfl⟩)))
      refine (HC.out _).mono ?_
      rintro e w4 ⟨rfl, hb4⟩
      have HL4 := Lib.hid (HL.out.trans (hb4.mono HL.out.size))
      clear hb4
      go_wp2_with fail
      go_ret
      exact ⟨by rw [HR2.out]; rfl, HL4.out⟩
set_option maxRecDepth 100000 in
set_option maxHeartbeats 1600000 in
theorem rec_vars (v : Value) (ns : List Int) (hn : ns.length ≤ 10) (hm : ∀ x ∈ ns, x ≤ 9223372036854775807) (w : World) (hv : RowV 0 w v (ns.map (Value.int .i64))) :
    Calls Tryz.prog 37 #[v] w fun e w' => e = .returned (.string (str (ns.flatMap varAny))) ∧ Below w.heap.size w w' := by
  obtain ⟨p, cap, rfl⟩ := hv.len
  rw [List.length_map] at hv ⊢
  have HV := Lib.hid hv
  have HM := Lib.hid hm
  obtain ⟨n, hnn⟩ : ∃ n, ns.length = n := ⟨_, rfl⟩
  rw [hnn] at HV hn ⊢
  have HN := Lib.hid hnn
  clear hv hm hnn
  obtain ⟨RES, hRES⟩ : ∃ R, str (ns.flatMap varAny) = R := ⟨_, rfl⟩
  rw [hRES]
  have HRES := Lib.hid hRES
  clear hRES
  go_enter Tryz.func37, Tryz.ntmps37
  go_wp2_with fail
  go_loopg [8] n (fun gg s8 wr => ∃ (i : Nat) (cs : Array Value) (v : Value), i ≤ n ∧ gg = n - i ∧ s8 = .int .i64 i ∧ cs.size = 2 ∧ Hid (Blk wr w.heap.size cs 62) ∧ Hid (BldIn cs w.heap.size w.heap.size 0 wr v ((ns.take i).flatMap varAny)) ∧ Hid (Below w.heap.size w wr) ∧ ((ns.take i).flatMap varAny).length ≤ 9 * i)
  case atStart => exact ⟨0, _, .slice none 0 0, by omega, rfl, rfl, rfl, Lib.hid (Blk.new w _ _), Lib.hid (BldIn.fresh _ _ _), Lib.hid ((Below.refl w.heap.size w).alloc (Nat.le_refl _) _), by simp⟩
  case round =>
    obtain ⟨i, cs, v, hi', hg, rfl, hcs, HB, HBI, HL, hlen⟩ := hrel
    have hg := hg.symm
    subst hg
    have hbw := HB.out.lt
    by_cases hlt : i < n
    · obtain ⟨b, off, cp, e1, _, hbl, k0⟩ := HV.out.at (j := i) (by rw [List.length_map, HN.out]; exact hlt)
      rw [List.length_map, HN.out] at e1
      cases e1
      have hns : i < ns.length := by rw [HN.out]; exact hlt
      have k1 := k0.trans ((List.getElem?_eq_getElem _).symm.trans (show (ns.map (Value.int .i64))[i]? = some (.int .i64 (fld ns i)) by simp [fld, hns]))
      have k2 := keepB HL.out k1 hbl
      have hfm : fld ns i ∈ ns := by
        have : fld ns i = ns[i] := by simp [fld, hns]
        rw [this]; exact List.getElem_mem hns
      have hx := HM.out _ hfm
      have hvl := varAny_length (fld ns i) hx
      have HP : Hid ((ns.take (i + 1)).flatMap varAny = (ns.take i).flatMap varAny ++ varAny (fld ns i)) := Lib.hid (by
        rw [List.take_succ_eq_append_getElem hns, List.flatMap_append]
        simp [fld, hns])
      have HVA := Lib.hid (octet_var_any (fld ns i) hx)
      generalize fld ns i = x at k2 hvl HP HVA
      have hiI : (i : Int) < (n : Int) := by omega
      have hi0 : (0 : Int) ≤ (i : Int) := by omega
      clear k0 k1 hx hfm
      go_wp2_with fail
      refine (HVA.out _).mono ?_
      rintro e w5 ⟨rfl, hb5⟩
      have HB5 := Lib.hid (HB.out.below hb5 hbw)
      have HBI5 := Lib.hid (HBI.out.below hb5)
      have HL5 := Lib.hid (HL.out.trans (hb5.mono HL.out.size))
      have hs5 : wr.heap.size ≤ w5.heap.size := hb5.size
      clear k2 hb5 HB HBI HL
      go_wp2_with fail
      refine (bld_writeString 62 w.heap.size 0 w.heap.size cs v _ (str (varAny x)) w5 (by rw [hcs]; exact lies_own) (by decide) HB5.out HBI5.out (by rw [str_size]; omega) (by omega) (Nat.le_refl _)).mono ?_
      rintro e w6 ⟨rfl, v6, hb6, hbi6, hc6, hown6⟩
      have HL6 := Lib.hid (HL5.out.trans (hc6.below HL5.out.size (fun k hk => by
        rcases hk with h | h
        · omega
        · have := (World.ownsRowF.lt HBI5.out.2.2.1 k h.symm).1; omega)))
      have HB6 := Lib.hid hb6
      have HBI6 : Hid (BldIn (wrote cs w.heap.size 0 v6) w.heap.size w.heap.size 0 w6 v6 ((ns.take (i + 1)).flatMap varAny)) := Lib.hid (by rw [HP.out]; rw [str_list] at hbi6; exact hbi6)
      have hlen2 : ((ns.take (i + 1)).flatMap varAny).length ≤ 9 * (i + 1) := by rw [HP.out, List.length_append]; omega
      clear hb6 hbi6 hc6 hown6
      go_wp2_with fail
      go_roundg (n - (i + 1))
      case measure => omega
      case rel => exact ⟨i + 1, _, _, by omega, rfl, by go_num, by rw [wrote_size]; exact hcs, HB6, HBI6, HL6, hlen2⟩
    · obtain rfl : i = n := by omega
      have hst := bld_string 62 w.heap.size 0 w.heap.size cs v _ wr HB.out HBI.out (by omega)
      have HST := Lib.hid hst
      clear hst
      go_wp2_with fail
      refine HST.out.mono ?_
      rintro e w5 ⟨rfl, hb5, hbi5, hc5⟩
      have HL5 := Lib.hid (HL.out.trans (hc5.below HL.out.size (fun k hk => (World.ownsRowF.lt HBI.out.2.2.1 k hk.symm).1)))
      have HF : Hid (RES = ⟨((ns.take i).flatMap varAny).toArray⟩) := Lib.hid (by
        rw [← HRES.out, List.take_of_length_le (by rw [HN.out]; exact Nat.le_refl _)]; rfl)
      clear hb5 hbi5 hc5 HST
      go_wp2_with fail
      go_ret
      exact ⟨by rw [HF.out]; rfl, HL5.out⟩
end Go.Proofs.YtokghlmffkboiaaGreat
