/-
  Once, CrcMath, Crc, Frame, FrameOpen, FrameWhole, FrameSum, FrameLaw, FrameRef, FrameSeal in one text.
-/
import Derived.Test.YtcibeiehdjekiaaGreatDoorBase
import Derived.Defers
import Derived.RegionTactic
import Derived.RegionCalls
import Derived.ChangeAlike
import Derived.Laws.BitsAllLaws
import Derived.Test.YtcibeiehdjekiaaGreatDoorOctAll
import Derived.Test.YtcibeiehdjekiaaGreatDoorShelf
import Derived.Recover
import Derived.Tactics2
import Derived.BigQuiet
/-! Once -/
namespace Go.Proofs.YtcibeiehdjekiaaGreatDoor
open Go.RowKit
set_option linter.unusedVariables false
set_option linter.unusedSimpArgs false

theorem race_disable (w : World) : (callFunc 128 #[]).run Tryz.prog w = .ok (.value (.tuple #[])) w := run_call_mark0 Tryz.func128 (by kernel_rfl) (by kernel_rfl) (by kernel_rfl) .disable (by kernel_rfl) w
theorem race_enable (w : World) : (callFunc 130 #[]).run Tryz.prog w = .ok (.value (.tuple #[])) w := run_call_mark0 Tryz.func130 (by kernel_rfl) (by kernel_rfl) (by kernel_rfl) .enable (by kernel_rfl) w
theorem race_acquire (a : Addr) (w : World) : (callFunc 131 #[.pointer (some a)]).run Tryz.prog w = .ok (.value (.tuple #[])) w := run_call_marked Tryz.func131 (by kernel_rfl) (by kernel_rfl) (by kernel_rfl) .acquire (by kernel_rfl) a w
theorem race_releaseMerge (a : Addr) (w : World) : (callFunc 133 #[.pointer (some a)]).run Tryz.prog w = .ok (.value (.tuple #[])) w := run_call_marked Tryz.func133 (by kernel_rfl) (by kernel_rfl) (by kernel_rfl) .releaseMerge (by kernel_rfl) a w

/-- '(*sync/atomic.Bool).Load'. -/
theorem bool_load (b o : Nat) (d : Int) (w : World) (h : w.cell? ⟨b, o, none⟩ = some (.int .u32 d)) :
    Calls Tryz.prog 106 #[.pointer (some ⟨b, o, none⟩)] w fun e w' => e = .returned (.bool (d != 0)) ∧ w = w' := by
  have hl := run_call_load (P := Tryz.prog) Tryz.func117 (by kernel_rfl) (by kernel_rfl) (by kernel_rfl) .u32 (by kernel_rfl) h
  go_enter Tryz.func106, Tryz.ntmps106
  go_wp2
  go_ret
  exact ⟨rfl, rfl⟩

/-- '(*sync/atomic.Bool).Store(true)'. -/
theorem bool_store (a : Addr) (x : Value) (w : World) (hc : w.cell? a = some x) (hz : w.frozen? a = false) :
    Calls Tryz.prog 120 #[.pointer (some a), .bool true] w fun e w' => e = .returned (.tuple #[]) ∧ w.drew.setCell a (.int .u32 1) = w' := by
  have hc' : w.drew.cell? a = some x := by go_simp
  have hz' : w.drew.frozen? a = false := by go_simp
  have hst := run_call_store (P := Tryz.prog) Tryz.func126 (by kernel_rfl) (by kernel_rfl) (by kernel_rfl) (by kernel_rfl) (k := .u32) (y := 1) hc' hz'
  go_enter Tryz.func120, Tryz.ntmps120
  go_wp2
  go_region_calls
  all_goals (go_end0; exact ⟨rfl, rfl⟩)

/-- The same, entered as a deferred call. -/
theorem store_deferred (a : Addr) (x : Value) (u : FrameMode) (w : World) (hc : w.cell? a = some x) (hz : w.frozen? a = false) :
    CallsD Tryz.prog 120 #[.pointer (some a), .bool true] u w fun e u' w' => u' = u ∧ (e = .returned (.tuple #[]) ∧ w' = w.drew.setCell a (.int .u32 1)) := by
  have hc' : w.drew.cell? a = some x := by go_simp
  have hz' : w.drew.frozen? a = false := by go_simp
  have hst := run_call_store (P := Tryz.prog) Tryz.func126 (by kernel_rfl) (by kernel_rfl) (by kernel_rfl) (by kernel_rfl) (k := .u32) (y := 1) hc' hz'
  go_enter_d Tryz.func120, Tryz.ntmps120
  go_wp2
  go_region_calls
  all_goals (go_end0; exact ⟨rfl, rfl⟩)

set_option maxRecDepth 100000 in
set_option maxHeartbeats 400000 in
/-- '(*sync.Mutex).Unlock', entered as a deferred call, the lock held and nobody waiting. -/
theorem unlock_deferred (a : Addr) (u : FrameMode) (w : World) (hc : w.cell? a = some (.int .i32 1)) (hz : w.frozen? a = false) :
    CallsD Tryz.prog 119 #[.pointer (some a)] u w fun e u' w' => u' = u ∧ (e = .returned (.tuple #[]) ∧ w' = w.setCell a (.int .i32 0)) := by
  have hd := race_disable
  have he := race_enable
  have hr := race_releaseMerge
  have hadd := run_call_add (P := Tryz.prog) Tryz.func121 (by kernel_rfl) (by kernel_rfl) (by kernel_rfl) .i32 (by kernel_rfl) (y := -1) (s := 0) hc hz (by simp [go_sem]; rfl)
  have hcv := run_convert_to_unsafe (P := Tryz.prog) (src := 177) (dst := 104) Tryz.underlying177 Tryz.underlying104 (by kernel_rfl) hc
  go_enter_d Tryz.func119, Tryz.ntmps119
  go_wp2
  go_end0
  go_wp2
  all_goals (go_end0; exact ⟨rfl, rfl⟩)

set_option maxRecDepth 100000 in
set_option maxHeartbeats 400000 in
/-- '(*sync.Mutex).Lock', the lock free. -/
theorem lock_free (a : Addr) (w : World) (hc : w.cell? a = some (.int .i32 0)) (hz : w.frozen? a = false) :
    Calls Tryz.prog 118 #[.pointer (some a)] w fun e w' => e = .returned (.tuple #[]) ∧ w' = w.setCell a (.int .i32 1) := by
  have hd := race_disable
  have he := race_enable
  have ha := race_acquire
  have hcas := run_call_cas_hit (P := Tryz.prog) Tryz.func129 (by kernel_rfl) (by kernel_rfl) (by kernel_rfl) .i32 (by kernel_rfl) (y := 1) hc hz
  have hc' : (w.setCell a (.int .i32 1)).cell? a = some (.int .i32 1) := World.cell?_setCell_same w a _ hc
  have hcv := run_convert_to_unsafe (P := Tryz.prog) (src := 177) (dst := 104) Tryz.underlying177 Tryz.underlying104 (by kernel_rfl) hc'
  go_enter Tryz.func118, Tryz.ntmps118
  go_wp2
  first | go_end0 | (simp only [Exit.inBlock, Exit.then]; refine bodyPost_ret (results_none rfl _ _ _) rfl ?_) | refine bodyPost_ret (results_none rfl _ _ _) rfl ?_
  go_wp2
  all_goals (go_end0; exact ⟨rfl, rfl⟩)

/-- What the function that a Once is handed leaves of the Once (its lock held, not yet done). -/
def OnceOpen (b o : Nat) (w : World) : Prop :=
  w.cell? ⟨b, o, none⟩ = some (.int .u32 0) ∧ w.cell? ⟨b, o + 1, none⟩ = some (.int .i32 1) ∧ w.frozen? ⟨b, o, none⟩ = false ∧ w.frozen? ⟨b, o + 1, none⟩ = false

set_option maxRecDepth 100000 in
set_option maxHeartbeats 1600000 in
/-- '(*sync.Once).doSlow', not yet done and the lock free. -/
theorem slow_any (b o K : Nat) (caps : Array Value) (R : World → Prop) (w : World)
    (h0 : w.cell? ⟨b, o, none⟩ = some (.int .u32 0)) (h1 : w.cell? ⟨b, o + 1, none⟩ = some (.int .i32 0))
    (f0 : w.frozen? ⟨b, o, none⟩ = false) (f1 : w.frozen? ⟨b, o + 1, none⟩ = false)
    (hk : ∀ w, (callFunc K caps).run Tryz.prog w = .ok (.enter K caps) w)
    (hc : Hid (Calls Tryz.prog K caps (w.setCell ⟨b, o + 1, none⟩ (.int .i32 1)) fun e w' => e = .returned (.tuple #[]) ∧ R w')) (hR : Hid (∀ w', R w' → OnceOpen b o w')) :
    Calls Tryz.prog 107 #[.pointer (some ⟨b, o, none⟩), .func (.func K) #[] caps] w fun e w' => e = .returned (.tuple #[]) ∧ ∃ w2, R w2 ∧ w' = (w2.drew.setCell ⟨b, o, none⟩ (.int .u32 1)).setCell ⟨b, o + 1, none⟩ (.int .i32 0) := by
  have hnot : ∀ (x : Bool) (w : World), (Op.unary .not (.bool x)).run Tryz.prog w = .ok (.bool (!x)) w := fun _ _ => rfl
  go_enter_defers Tryz.func107, Tryz.ntmps107
  go_wp2_with (first | (go_at_call 118; refine (lock_free ⟨b, o + 1, none⟩ _ (by go_simp) (by go_simp)).mono ?_; rintro e w' ⟨rfl, rfl⟩) | (go_at_call 106; refine (bool_load b o 0 _ (by go_simp)).mono ?_; rintro e w' ⟨rfl, rfl⟩))
  refine hc.out.mono ?_
  rintro e w2 ⟨rfl, hr⟩
  obtain ⟨k0, k1, k2, k3⟩ := hR.out w2 hr
  go_wp2
  refine leaves_cons (f := 120) (args := #[.pointer (some ⟨b, o, none⟩), .bool true]) (by simp) (by simp [go_sem]) ?_
  refine (store_deferred ⟨b, o, none⟩ (.int .u32 0) .returning _ k0 k2).mono ?_
  rintro e u' w'' ⟨rfl, rfl, rfl⟩
  refine leaves_cons (f := 119) (args := #[.pointer (some ⟨b, o + 1, none⟩)]) (by simp [settle]) (by simp [go_sem]) ?_
  refine (unlock_deferred ⟨b, o + 1, none⟩ _ _ ?_ ?_).mono ?_
  · refine (World.cell?_setCell_other _ ⟨b, o, none⟩ ⟨b, o + 1, none⟩ _ (by simp)).trans ?_
    rw [World.cell?_drew]
    exact k1
  · simp [k3]
  rintro e u' w'' ⟨rfl, rfl, rfl⟩
  simp [Leaves, settle, results, Tryz.results107]
  exact ⟨w2, hr, rfl⟩

/-- '(*sync.Once).Do', not yet done. -/
theorem do_first (b o K : Nat) (caps : Array Value) (R : World → Prop) (w : World)
    (h0 : w.cell? ⟨b, o, none⟩ = some (.int .u32 0)) (h1 : w.cell? ⟨b, o + 1, none⟩ = some (.int .i32 0))
    (f0 : w.frozen? ⟨b, o, none⟩ = false) (f1 : w.frozen? ⟨b, o + 1, none⟩ = false)
    (hk : ∀ w, (callFunc K caps).run Tryz.prog w = .ok (.enter K caps) w)
    (hc : Hid (Calls Tryz.prog K caps (w.setCell ⟨b, o + 1, none⟩ (.int .i32 1)) fun e w' => e = .returned (.tuple #[]) ∧ R w')) (hR : Hid (∀ w', R w' → OnceOpen b o w')) :
    Calls Tryz.prog 96 #[.pointer (some ⟨b, o, none⟩), .func (.func K) #[] caps] w fun e w' => e = .returned (.tuple #[]) ∧ ∃ w2, R w2 ∧ w' = (w2.drew.setCell ⟨b, o, none⟩ (.int .u32 1)).setCell ⟨b, o + 1, none⟩ (.int .i32 0) := by
  have hnot : ∀ (x : Bool) (w : World), (Op.unary .not (.bool x)).run Tryz.prog w = .ok (.bool (!x)) w := fun _ _ => rfl
  have HK := Lib.hid hk
  clear hk
  go_enter Tryz.func96, Tryz.ntmps96
  go_wp2_with (first | (go_at_call 106; refine (bool_load b o 0 _ (by go_simp)).mono ?_; rintro e w' ⟨rfl, rfl⟩) | (go_at_call 107; refine (slow_any b o K caps R _ h0 h1 f0 f1 HK.out hc hR).mono ?_; rintro e w' ⟨rfl, w2, hr, rfl⟩))
  go_end0
  exact ⟨rfl, w2, hr, rfl⟩

/-- '(*sync.Once).Do', done already. -/
theorem do_done (b o : Nat) (d : Int) (hd : ¬ d = 0) (fv : Value) (w : World) (h0 : w.cell? ⟨b, o, none⟩ = some (.int .u32 d)) :
    Calls Tryz.prog 96 #[.pointer (some ⟨b, o, none⟩), fv] w fun e w' => e = .returned (.tuple #[]) ∧ w = w' := by
  have hnot : ∀ (x : Bool) (w : World), (Op.unary .not (.bool x)).run Tryz.prog w = .ok (.bool (!x)) w := fun _ _ => rfl
  have hd' : (d != 0) = true := by simp [hd]
  go_enter Tryz.func96, Tryz.ntmps96
  go_wp2_with (first | (go_at_call 106; refine (bool_load b o d _ (by go_simp)).mono ?_; rintro e w' ⟨rfl, rfl⟩))
  go_end0
  exact ⟨rfl, rfl⟩
set_option maxRecDepth 100000 in
set_option maxHeartbeats 1600000 in
/-- '(*sync.Once).doSlow', not yet done and the lock free; a method that is handed on. -/
theorem slow_m (b o K : Nat) (caps : Array Value) (R : World → Prop) (w : World)
    (h0 : w.cell? ⟨b, o, none⟩ = some (.int .u32 0)) (h1 : w.cell? ⟨b, o + 1, none⟩ = some (.int .i32 0))
    (f0 : w.frozen? ⟨b, o, none⟩ = false) (f1 : w.frozen? ⟨b, o + 1, none⟩ = false)
    (hk : ∀ w, (callFunc K caps).run Tryz.prog w = .ok (.enter K caps) w)
    (hc : Hid (Calls Tryz.prog K caps (w.setCell ⟨b, o + 1, none⟩ (.int .i32 1)) fun e w' => e = .returned (.tuple #[]) ∧ R w')) (hR : Hid (∀ w', R w' → OnceOpen b o w')) :
    Calls Tryz.prog 107 #[.pointer (some ⟨b, o, none⟩), .func (.func K) caps #[]] w fun e w' => e = .returned (.tuple #[]) ∧ ∃ w2, R w2 ∧ w' = (w2.drew.setCell ⟨b, o, none⟩ (.int .u32 1)).setCell ⟨b, o + 1, none⟩ (.int .i32 0) := by
  have hnot : ∀ (x : Bool) (w : World), (Op.unary .not (.bool x)).run Tryz.prog w = .ok (.bool (!x)) w := fun _ _ => rfl
  go_enter_defers Tryz.func107, Tryz.ntmps107
  go_wp2_with (first | (go_at_call 118; refine (lock_free ⟨b, o + 1, none⟩ _ (by go_simp) (by go_simp)).mono ?_; rintro e w' ⟨rfl, rfl⟩) | (go_at_call 106; refine (bool_load b o 0 _ (by go_simp)).mono ?_; rintro e w' ⟨rfl, rfl⟩))
  refine hc.out.mono ?_
  rintro e w2 ⟨rfl, hr⟩
  obtain ⟨k0, k1, k2, k3⟩ := hR.out w2 hr
  go_wp2
  refine leaves_cons (f := 120) (args := #[.pointer (some ⟨b, o, none⟩), .bool true]) (by simp) (by simp [go_sem]) ?_
  refine (store_deferred ⟨b, o, none⟩ (.int .u32 0) .returning _ k0 k2).mono ?_
  rintro e u' w'' ⟨rfl, rfl, rfl⟩
  refine leaves_cons (f := 119) (args := #[.pointer (some ⟨b, o + 1, none⟩)]) (by simp [settle]) (by simp [go_sem]) ?_
  refine (unlock_deferred ⟨b, o + 1, none⟩ _ _ ?_ ?_).mono ?_
  · refine (World.cell?_setCell_other _ ⟨b, o, none⟩ ⟨b, o + 1, none⟩ _ (by simp)).trans ?_
    rw [World.cell?_drew]
    exact k1
  · simp [k3]
  rintro e u' w'' ⟨rfl, rfl, rfl⟩
  simp [Leaves, settle, results, Tryz.results107]
  exact ⟨w2, hr, rfl⟩

/-- '(*sync.Once).Do', not yet done; a method that is handed on. -/
theorem do_m (b o K : Nat) (caps : Array Value) (R : World → Prop) (w : World)
    (h0 : w.cell? ⟨b, o, none⟩ = some (.int .u32 0)) (h1 : w.cell? ⟨b, o + 1, none⟩ = some (.int .i32 0))
    (f0 : w.frozen? ⟨b, o, none⟩ = false) (f1 : w.frozen? ⟨b, o + 1, none⟩ = false)
    (hk : ∀ w, (callFunc K caps).run Tryz.prog w = .ok (.enter K caps) w)
    (hc : Hid (Calls Tryz.prog K caps (w.setCell ⟨b, o + 1, none⟩ (.int .i32 1)) fun e w' => e = .returned (.tuple #[]) ∧ R w')) (hR : Hid (∀ w', R w' → OnceOpen b o w')) :
    Calls Tryz.prog 96 #[.pointer (some ⟨b, o, none⟩), .func (.func K) caps #[]] w fun e w' => e = .returned (.tuple #[]) ∧ ∃ w2, R w2 ∧ w' = (w2.drew.setCell ⟨b, o, none⟩ (.int .u32 1)).setCell ⟨b, o + 1, none⟩ (.int .i32 0) := by
  have hnot : ∀ (x : Bool) (w : World), (Op.unary .not (.bool x)).run Tryz.prog w = .ok (.bool (!x)) w := fun _ _ => rfl
  have HK := Lib.hid hk
  clear hk
  go_enter Tryz.func96, Tryz.ntmps96
  go_wp2_with (first | (go_at_call 106; refine (bool_load b o 0 _ (by go_simp)).mono ?_; rintro e w' ⟨rfl, rfl⟩) | (go_at_call 107; refine (slow_m b o K caps R _ h0 h1 f0 f1 HK.out hc hR).mono ?_; rintro e w' ⟨rfl, w2, hr, rfl⟩))
  go_end0
  exact ⟨rfl, w2, hr, rfl⟩

end Go.Proofs.YtcibeiehdjekiaaGreatDoor

/-! CrcMath -/
namespace Go.Proofs.YtcibeiehdjekiaaGreatDoor.Crc
set_option linter.unusedVariables false
set_option linter.unusedSimpArgs false

def half (n : Nat) : Nat := if n % 2 = 1 then (n / 2) ^^^ 3988292384 else n / 2
def halves : Nat → Nat → Nat
  | 0, n => n
  | k + 1, n => halves k (half n)
def step (n : Nat) : Nat := halves 8 n
def reg : Nat → List Nat → Nat
  | n, [] => n
  | n, c :: r => reg (step (n ^^^ c)) r

theorem reg_nil (n : Nat) : reg n [] = n := rfl
theorem reg_cons (n c : Nat) (r : List Nat) : reg n (c :: r) = reg (step (n ^^^ c)) r := rfl
theorem halves_nil (n : Nat) : halves 0 n = n := rfl
theorem halves_succ (k n : Nat) : halves (k + 1) n = halves k (half n) := rfl

theorem xor_lt {a b : Nat} (ha : a < 4294967296) (hb : b < 4294967296) : a ^^^ b < 4294967296 := Nat.xor_lt_two_pow (n := 32) ha hb
theorem half_lt {n : Nat} (h : n < 4294967296) : half n < 4294967296 := by
  unfold half; split
  · exact xor_lt (by omega) (by decide)
  · omega
theorem halves_lt {n : Nat} (k : Nat) (h : n < 4294967296) : halves k n < 4294967296 := by
  induction k generalizing n with
  | zero => exact h
  | succ k ih => exact ih (half_lt h)
theorem step_lt {n : Nat} (h : n < 4294967296) : step n < 4294967296 := halves_lt 8 h

theorem xor_div_two (a b : Nat) : (a ^^^ b) / 2 = (a / 2) ^^^ (b / 2) := by
  apply Nat.eq_of_testBit_eq; intro i
  simp [Nat.testBit_div_two]
theorem half_xor (a b : Nat) : half (a ^^^ b) = half a ^^^ half b := by
  have hm : (a ^^^ b) % 2 = (a % 2 + b % 2) % 2 := by
    have h := Nat.testBit_xor a b 0
    simp only [Nat.testBit_zero] at h
    rcases Nat.mod_two_eq_zero_or_one a with ha | ha <;> rcases Nat.mod_two_eq_zero_or_one b with hb | hb <;> rcases Nat.mod_two_eq_zero_or_one (a ^^^ b) with hc | hc <;> simp [ha, hb, hc] at h ⊢
  unfold half
  rw [xor_div_two, hm]
  rcases Nat.mod_two_eq_zero_or_one a with ha | ha <;> rcases Nat.mod_two_eq_zero_or_one b with hb | hb <;> simp only [ha, hb]
  · rfl
  · simp only [Nat.zero_add, if_true, Nat.reduceMod, Nat.zero_ne_one, if_false]; ac_rfl
  · simp only [Nat.add_zero, if_true, Nat.reduceMod, Nat.zero_ne_one, if_false]; ac_rfl
  · simp only [Nat.reduceAdd, if_true, Nat.reduceMod, Nat.zero_ne_one, if_false]
    have : (a / 2 ^^^ 3988292384) ^^^ (b / 2 ^^^ 3988292384) = (a / 2 ^^^ b / 2) ^^^ (3988292384 ^^^ 3988292384) := by ac_rfl
    rw [this, Nat.xor_self, Nat.xor_zero]
theorem halves_xor (k a b : Nat) : halves k (a ^^^ b) = halves k a ^^^ halves k b := by
  induction k generalizing a b with
  | zero => rfl
  | succ k ih => simp only [halves]; rw [half_xor, ih]
theorem step_xor (a b : Nat) : step (a ^^^ b) = step a ^^^ step b := halves_xor 8 a b

theorem half_ne {n : Nat} (h : n < 4294967296) (h0 : n ≠ 0) : half n ≠ 0 := by
  unfold half; split
  · intro e
    have : n / 2 = 3988292384 := by
      have h1 := congrArg (· ^^^ 3988292384) e
      simp only [Nat.zero_xor, Nat.xor_assoc, Nat.xor_self, Nat.xor_zero] at h1
      exact h1
    omega
  · omega
theorem halves_ne {n : Nat} (k : Nat) (h : n < 4294967296) (h0 : n ≠ 0) : halves k n ≠ 0 := by
  induction k generalizing n with
  | zero => exact h0
  | succ k ih => exact ih (half_lt h) (half_ne h h0)

theorem halves_add (j k n : Nat) : halves (j + k) n = halves k (halves j n) := by
  induction j generalizing n with
  | zero => rw [Nat.zero_add]; rfl
  | succ j ih => rw [Nat.succ_add]; exact ih _
theorem halves_shift (k m : Nat) : halves k (m * 2 ^ k) = m := by
  induction k generalizing m with
  | zero => simp [halves]
  | succ k ih =>
    have e : half (m * 2 ^ (k + 1)) = m * 2 ^ k := by
      have : m * 2 ^ (k + 1) = 2 * (m * 2 ^ k) := by rw [Nat.pow_succ]; simp [Nat.mul_comm, Nat.mul_left_comm]
      unfold half; rw [this, if_neg (by omega)]; omega
    simp only [halves]; rw [e]; exact ih m
theorem step_shift (m : Nat) : step (m * 256) = m := halves_shift 8 m
theorem step_zero : step 0 = 0 := by decide
theorem step_eq (n : Nat) : step n = halves 8 n := rfl
attribute [irreducible] step

/-- A register is its low byte, and what is above it. -/
theorem low_high (n : Nat) : n = (n / 256 * 256) ^^^ (n % 256) := by
  apply Nat.eq_of_testBit_eq; intro i
  rw [Nat.testBit_xor]
  have e1 : n / 256 * 256 = (n / 256) <<< 8 := by rw [Nat.shiftLeft_eq]
  rw [e1, Nat.testBit_shiftLeft]
  have e2 : n / 256 = n >>> 8 := by rw [Nat.shiftRight_eq_div_pow]
  rw [e2, Nat.testBit_shiftRight]
  have e3 : n % 256 = n % 2 ^ 8 := rfl
  rw [e3, Nat.testBit_mod_two_pow]
  by_cases hi : i < 8
  · have h8 : ¬ 8 ≤ i := by omega
    simp [hi, h8]
  · have h8 : 8 ≤ i := by omega
    have : 8 + (i - 8) = i := by omega
    simp [hi, this, h8]
/-- What the table's entries are good for. -/
theorem step_table (n c : Nat) (hc : c < 256) : step (n ^^^ c) = (n / 256) ^^^ step ((n % 256) ^^^ c) := by
  have e : n ^^^ c = (n / 256 * 256) ^^^ ((n % 256) ^^^ c) := by rw [← Nat.xor_assoc, ← low_high]
  rw [e, step_xor, step_shift]

theorem reg_lt {n : Nat} {l : List Nat} (h : n < 4294967296) (hl : ∀ c ∈ l, c < 256) : reg n l < 4294967296 := by
  induction l generalizing n with
  | nil => exact h
  | cons c r ih => exact ih (step_lt (xor_lt h (by have := hl c (by simp); omega))) (fun x hx => hl x (by simp [hx]))
theorem reg_append (n : Nat) (s t : List Nat) : reg n (s ++ t) = reg (reg n s) t := by
  induction s generalizing n with
  | nil => rfl
  | cons c r ih => exact ih _
theorem reg_snoc (n : Nat) (s : List Nat) (c : Nat) : reg n (s ++ [c]) = step (reg n s ^^^ c) := by rw [reg_append]; rfl

theorem xor_four (a b c d : Nat) : a ^^^ b ^^^ (c ^^^ d) = (a ^^^ c) ^^^ (b ^^^ d) := by ac_rfl

/-- Two registers that are fed bytes of one length differ by the register that is fed their differences. -/
theorem reg_xor (a b : Nat) (s t : List Nat) (h : s.length = t.length) : reg (a ^^^ b) (List.zipWith (· ^^^ ·) s t) = reg a s ^^^ reg b t := by
  induction s generalizing a b t with
  | nil => cases t with
    | nil => rfl
    | cons _ _ => simp only [List.length_nil, List.length_cons] at h; omega
  | cons c r ih => cases t with
    | nil => simp only [List.length_nil, List.length_cons] at h; omega
    | cons d t =>
      rw [List.zipWith_cons_cons, reg_cons, reg_cons, reg_cons, xor_four, step_xor]
      exact ih _ _ t (by simp only [List.length_cons] at h; omega)

theorem reg_zeros (n k : Nat) : reg n (List.replicate k 0) = halves (8 * k) n := by
  induction k generalizing n with
  | zero => rw [Nat.mul_zero, List.replicate_zero, reg_nil, halves_nil]
  | succ k ih =>
    have e : 8 * (k + 1) = 8 + 8 * k := by omega
    rw [List.replicate_succ, reg_cons, ih, Nat.xor_zero, e, halves_add 8, step_eq]
theorem halves_zero (k : Nat) : halves k 0 = 0 := by
  induction k with
  | zero => rfl
  | succ k ih => rw [halves_succ]; exact ih

/-- Four bytes of a turn, the lowest first, make what 32 halvings make of it. -/
theorem reg_four (t : Nat) : reg 0 [t % 256, t / 256 % 256, t / 65536 % 256, t / 16777216] = halves 32 t := by
  have s1 (x : Nat) : halves 8 x = (x / 256) ^^^ step (x % 256) := by
    have h1 := congrArg (halves 8) (low_high x)
    rw [halves_xor, halves_shift 8] at h1
    rw [step_eq]
    exact h1
  have h32 : halves 32 t = halves 8 (halves 8 (halves 8 (halves 8 t))) := by rw [← halves_add, ← halves_add, ← halves_add]
  have key (x y : Nat) (r : Nat) : step (r ^^^ (y % 256)) = step (r ^^^ y) ^^^ (y / 256) := by
    have e : r ^^^ y = (r ^^^ (y % 256)) ^^^ (y / 256 * 256) := by
      rw [Nat.xor_assoc, Nat.xor_comm (y % 256), ← low_high]
    rw [e, step_xor (r ^^^ y % 256), step_shift, Nat.xor_assoc, Nat.xor_self, Nat.xor_zero]
  have d1 : t / 65536 = t / 256 / 256 := by omega
  have d2 : t / 16777216 = t / 256 / 256 / 256 := by omega
  rw [h32, d1, d2]
  simp only [reg_cons, reg_nil, Nat.zero_xor]
  have a1 : step (t % 256) = halves 8 t ^^^ (t / 256) := by
    have := key 0 t 0; rw [Nat.zero_xor, Nat.zero_xor, step_eq t] at this; exact this
  generalize halves 8 t = H1 at *
  rw [a1]
  have a2 : step (H1 ^^^ t / 256 ^^^ t / 256 % 256) = halves 8 H1 ^^^ (t / 256 / 256) := by
    rw [key 0 (t / 256)]
    rw [Nat.xor_assoc H1, Nat.xor_self, Nat.xor_zero, step_eq]
  rw [a2]
  generalize halves 8 H1 = H2
  have a3 : step (H2 ^^^ t / 256 / 256 ^^^ t / 256 / 256 % 256) = halves 8 H2 ^^^ (t / 256 / 256 / 256) := by
    rw [key 0 (t / 256 / 256)]
    rw [Nat.xor_assoc H2, Nat.xor_self, Nat.xor_zero, step_eq]
  rw [a3, Nat.xor_assoc, Nat.xor_self, Nat.xor_zero, step_eq]
theorem reg_burst (k m t : Nat) (ht : t < 4294967296) (h0 : t ≠ 0) :
    reg 0 (List.replicate k 0 ++ [t % 256, t / 256 % 256, t / 65536 % 256, t / 16777216] ++ List.replicate m 0) ≠ 0 := by
  simp only [reg_append, reg_zeros, halves_zero, reg_four]
  exact halves_ne _ (halves_lt _ ht) (halves_ne _ ht h0)

/-- All bits turned. -/
def compl (n : Nat) : Nat := 4294967295 - n
theorem compl_compl {n : Nat} (h : n < 4294967296) : compl (compl n) = n := by unfold compl; omega
theorem compl_lt (n : Nat) : compl n < 4294967296 := by unfold compl; omega
theorem compl_inj {a b : Nat} (ha : a < 4294967296) (hb : b < 4294967296) (h : compl a = compl b) : a = b := by unfold compl at h; omega
/-- The sum of a text behind a sum. -/
def more (sum : Nat) (s : List Nat) : Nat := compl (reg (compl sum) s)
theorem more_lt (sum : Nat) (s : List Nat) : more sum s < 4294967296 := compl_lt _
theorem more_append (sum : Nat) (s t : List Nat) (hs : ∀ c ∈ s, c < 256) : more sum (s ++ t) = more (more sum s) t := by
  unfold more; rw [reg_append, compl_compl (reg_lt (compl_lt _) hs)]
end Go.Proofs.YtcibeiehdjekiaaGreatDoor.Crc

/-! Crc -/
namespace Go.Proofs.YtcibeiehdjekiaaGreatDoor
open Go.RowKit
set_option linter.unusedVariables false
set_option linter.unusedSimpArgs false

theorem crc_odd (m : Nat) (h : m < 4294967296) (ho : m % 2 = 1) : (bits BinOp.and IntKind.u32 (m : Int) 1 == 1) = true := by
  have e := u32_and_nat m 1 h (by decide)
  have e2 : m &&& 1 = 1 := by rw [Nat.and_one_is_mod]; exact ho
  rw [e2] at e
  have e3 : ((1 : Nat) : Int) = 1 := rfl
  rw [e3] at e
  rw [e]; rfl
theorem crc_even (m : Nat) (h : m < 4294967296) (ho : ¬ m % 2 = 1) : (bits BinOp.and IntKind.u32 (m : Int) 1 == 1) = false := by
  have e := u32_and_nat m 1 h (by decide)
  have e2 : m &&& 1 = 0 := by rw [Nat.and_one_is_mod]; omega
  rw [e2] at e
  have e3 : ((1 : Nat) : Int) = 1 := rfl
  rw [e3] at e
  rw [e]; rfl
theorem crc_turn (m : Nat) (h : m < 4294967296) (ho : m % 2 = 1) : bits BinOp.xor IntKind.u32 ((m : Int) / 2) 3988292384 = ((Crc.half m : Nat) : Int) := by
  have e := u32_xor_nat (m / 2) 3988292384 (by omega) (by decide)
  have e1 : ((m / 2 : Nat) : Int) = (m : Int) / 2 := by omega
  rw [e1] at e
  unfold Crc.half
  rw [if_pos ho]
  exact e
theorem crc_halve (m : Nat) (ho : ¬ m % 2 = 1) : (m : Int) / 2 = ((Crc.half m : Nat) : Int) := by
  unfold Crc.half
  rw [if_neg ho]
  omega

theorem crc_entry (n : Nat) (hn : n < 4294967296) (w : World) :
    Calls Tryz.prog 108 #[.int .u32 n] w fun e w' => e = .returned (.int .u32 (Crc.step n : Nat)) ∧ w = w' := by
  go_enter Tryz.func108, Tryz.ntmps108
  go_wp2
  go_loopg [0, 3] 8 (fun g t i wr => w = wr ∧ ∃ (k m : Nat), k ≤ 8 ∧ g = 8 - k ∧ i = .int .i64 k ∧ t = .int .u32 m ∧ m < 4294967296 ∧ Hid (Crc.halves (8 - k) m = Crc.step n))
  case atStart => exact ⟨rfl, 0, n, by omega, rfl, rfl, rfl, hn, Lib.hid (Crc.step_eq n).symm⟩
  case round =>
    obtain ⟨rfl, k, m, hk, rfl, rfl, rfl, hm, HH⟩ := hrel
    by_cases hlt : k < 8
    · have hh : Hid (Crc.halves (8 - (k + 1)) (Crc.half m) = Crc.step n) := by
        have e : 8 - k = (8 - (k + 1)) + 1 := by omega
        have := HH.out
        rw [e, Crc.halves_succ] at this
        exact this
      have hl := Crc.half_lt hm
      by_cases ho : m % 2 = 1
      · have h1 := crc_odd m hm ho
        have h2 := crc_turn m hm ho
        clear ho
        go_wp2
        go_roundg (8 - (k + 1))
        case measure => omega
        case rel => exact ⟨rfl, k + 1, Crc.half m, by omega, rfl, by go_num, rfl, hl, hh⟩
      · have h1 := crc_even m hm ho
        have h2 := crc_halve m ho
        clear ho
        go_wp2
        go_roundg (8 - (k + 1))
        case measure => omega
        case rel => exact ⟨rfl, k + 1, Crc.half m, by omega, rfl, by go_num, rfl, hl, hh⟩
    · obtain rfl : k = 8 := by omega
      have e := HH.out
      rw [Nat.sub_self, Crc.halves_nil] at e
      subst e
      go_wp2
      go_ret
      exact ⟨rfl, rfl⟩

theorem ref03_step (n : Nat) (hn : n < 4294967296) (w : World) :
    Calls Tryz.prog 88 #[.int .u32 n] w fun e w' => e = .returned (.int .u32 (Crc.step n : Nat)) ∧ w = w' := by
  go_enter Tryz.func88, Tryz.ntmps88
  go_wp2
  go_loopg [0, 3] 8 (fun g t i wr => w = wr ∧ ∃ (k m : Nat), k ≤ 8 ∧ g = 8 - k ∧ i = .int .i64 k ∧ t = .int .u32 m ∧ m < 4294967296 ∧ Hid (Crc.halves (8 - k) m = Crc.step n))
  case atStart => exact ⟨rfl, 0, n, by omega, rfl, rfl, rfl, hn, Lib.hid (Crc.step_eq n).symm⟩
  case round =>
    obtain ⟨rfl, k, m, hk, rfl, rfl, rfl, hm, HH⟩ := hrel
    by_cases hlt : k < 8
    · have hh : Hid (Crc.halves (8 - (k + 1)) (Crc.half m) = Crc.step n) := by
        have e : 8 - k = (8 - (k + 1)) + 1 := by omega
        have := HH.out
        rw [e, Crc.halves_succ] at this
        exact this
      have hl := Crc.half_lt hm
      by_cases ho : m % 2 = 1
      · have h1 : ((m : Int) % 2 == 1) = true := by simp; omega
        have h2 := crc_turn m hm ho
        clear ho
        go_wp2
        go_roundg (8 - (k + 1))
        case measure => omega
        case rel => exact ⟨rfl, k + 1, Crc.half m, by omega, rfl, by go_num, rfl, hl, hh⟩
      · have h1 : ((m : Int) % 2 == 1) = false := by simp; omega
        have h2 := crc_halve m ho
        clear ho
        go_wp2
        go_roundg (8 - (k + 1))
        case measure => omega
        case rel => exact ⟨rfl, k + 1, Crc.half m, by omega, rfl, by go_num, rfl, hl, hh⟩
    · obtain rfl : k = 8 := by omega
      have e := HH.out
      rw [Nat.sub_self, Crc.halves_nil] at e
      subst e
      go_wp2
      go_ret
      exact ⟨rfl, rfl⟩

/-- A text's bytes, as numbers. -/
def bts (s : ByteArray) : List Nat := s.data.toList.map UInt8.toNat
theorem bts_lt (s : ByteArray) : ∀ c ∈ bts s, c < 256 := by
  intro c hc
  simp only [bts, List.mem_map] at hc
  obtain ⟨x, _, rfl⟩ := hc
  exact x.toNat_lt
theorem bts_length (s : ByteArray) : (bts s).length = s.size := by simp [bts]
theorem bts_take (s : ByteArray) (k : Nat) (h : k < s.size) : (bts s).take (k + 1) = (bts s).take k ++ [(s[k]).toNat] := by
  rw [List.take_succ_eq_append_getElem (by simpa [bts] using h)]
  simp [bts]; rfl

theorem compl_xor (n : Nat) (h : n < 4294967296) : 4294967295 ^^^ n = Crc.compl n := by
  apply Nat.eq_of_testBit_eq; intro i
  have e1 : Crc.compl n = 2 ^ 32 - (n + 1) := by unfold Crc.compl; omega
  rw [e1, Nat.testBit_xor, Nat.testBit_two_pow_sub_succ (n := 32) h]
  have e2 : (4294967295 : Nat) = 2 ^ 32 - 1 := by decide
  rw [e2, Nat.testBit_two_pow_sub_one]
  by_cases hi : i < 32
  · simp [hi]
  · have hn : n.testBit i = false := Nat.testBit_lt_two_pow (Nat.lt_of_lt_of_le h (Nat.pow_le_pow_right (n := 2) (by omega) (by omega : 32 ≤ i)))
    simp [hi, hn]
/-- All bits of a number of 32 bits turned. -/
theorem crc_compl (n : Nat) (h : n < 4294967296) : bits BinOp.xor IntKind.u32 IntKind.u32.max (n : Int) = ((Crc.compl n : Nat) : Int) := by
  have e := u32_xor_nat 4294967295 n (by decide) h
  rw [compl_xor n h] at e
  exact e

theorem crc_mix (n c : Nat) (hn : n < 4294967296) (hc : c < 256) : bits BinOp.xor IntKind.u32 (n : Int) (c : Int) = ((n ^^^ c : Nat) : Int) := u32_xor_nat n c hn (by omega)

set_option maxHeartbeats 400000 in
theorem ref03_more (sum : Nat) (s : ByteArray) (hsum : sum < 4294967296) (hs : s.size ≤ maxLen) (w : World) :
    Calls Tryz.prog 75 #[.int .u32 sum, .string s] w fun e w' => e = .returned (.int .u32 (Crc.more sum (bts s) : Nat)) ∧ w = w' := by
  unfold maxLen at hs
  have hc := crc_compl sum hsum
  go_enter Tryz.func75, Tryz.ntmps75
  go_wp2
  clear hc
  go_loopg [5, 6] s.size (fun g t i wr => w = wr ∧ ∃ (k m : Nat), k ≤ s.size ∧ g = s.size - k ∧ i = .int .i64 k ∧ t = .int .u32 m ∧ m < 4294967296 ∧ Hid (m = Crc.reg (Crc.compl sum) ((bts s).take k)))
  case atStart => exact ⟨rfl, 0, Crc.compl sum, by omega, rfl, rfl, rfl, Crc.compl_lt _, Lib.hid rfl⟩
  case round =>
    obtain ⟨rfl, k, m, hk, rfl, rfl, rfl, hm, HH⟩ := hrel
    by_cases hlt : k < s.size
    · have hcc : (s[k]).toNat < 256 := (s[k]).toNat_lt
      have hx := crc_mix m (s[k]).toNat hm hcc
      have hxl : m ^^^ (s[k]).toNat < 4294967296 := Crc.xor_lt hm (by omega)
      have hsl := Crc.step_lt hxl
      have HN : Hid (Crc.step (m ^^^ (s[k]).toNat) = Crc.reg (Crc.compl sum) ((bts s).take (k + 1))) := by
        have e := HH.out
        rw [bts_take s k hlt, Crc.reg_snoc, ← e]; exact rfl
      go_wp2_with (go_at_call 88; refine (ref03_step _ hxl _).mono ?_; rintro e w' ⟨rfl, rfl⟩)
      go_roundg (s.size - (k + 1))
      case measure => omega
      case rel => exact ⟨rfl, k + 1, _, by omega, rfl, by go_num, rfl, hsl, HN⟩
    · obtain rfl : k = s.size := by omega
      have e := HH.out
      rw [List.take_of_length_le (by rw [bts_length]; omega)] at e
      have hc := crc_compl m hm
      have HE : Hid (Crc.compl m = Crc.more sum (bts s)) := by rw [e]; exact rfl
      clear e HH
      go_wp2
      go_ret
      exact ⟨by rw [HE.out]; rfl, rfl⟩

theorem ref03_sum (s : ByteArray) (hs : s.size ≤ maxLen) (w : World) :
    Calls Tryz.prog 54 #[.string s] w fun e w' => e = .returned (.int .u32 (Crc.more 0 (bts s) : Nat)) ∧ w = w' := by
  go_enter Tryz.func54, Tryz.ntmps54
  go_wp2_with (go_at_call 75; refine (ref03_more 0 s (by omega) hs _).mono ?_; rintro e w' ⟨rfl, rfl⟩)
  go_ret
  exact ⟨rfl, rfl⟩

/-- The n-th entry. -/
def entryI (n : Int) : Nat := if n < 0 ∨ n > 255 then 0 else Crc.step n.toNat

theorem i32_add (b o : Nat) (x : Int) (w : World) (h : w.cell? ⟨b, o, none⟩ = some (.int .i32 x)) (hf : w.frozen? ⟨b, o, none⟩ = false) :
    Calls Tryz.prog 109 #[.pointer (some ⟨b, o, none⟩), .int .i32 1] w fun e w' => e = .returned (.int .i32 (wrap32 (x + 1))) ∧ w.setCell ⟨b, o, none⟩ (.int .i32 (wrap32 (x + 1))) = w' := by
  have hl := run_call_add (P := Tryz.prog) (y := 1) (s := wrap32 (x + 1)) Tryz.func121 (by kernel_rfl) (by kernel_rfl) (by kernel_rfl) .i32 (by kernel_rfl) h hf (by simp [go_sem, wrap32, IntKind.wrap_i32])
  go_enter Tryz.func109, Tryz.ntmps109
  go_wp2
  go_ret
  exact ⟨rfl, rfl⟩

/-- What is in the table's block: the Once's word, its lock, how often the entries were reckoned. -/
def Head (cs : Array Value) (d m : Int) : Prop := cs.size = 260 ∧ cs[0]? = some (.int .u32 d) ∧ cs[1]? = some (.int .i32 0) ∧ cs[3]? = some (.int .i32 m)
/-- The entries. -/
def Ents (cs : Array Value) : Prop := ∀ i, i < 256 → cs[4 + i]? = some (.int .u32 (Crc.step i : Nat))

set_option maxRecDepth 100000 in
set_option maxHeartbeats 800000 in
theorem crc_reckon (b : Nat) (cs : Array Value) (m : Int) (w : World) (hb : Blk w b cs 131) (hs : cs.size = 260) (h3 : cs[3]? = some (.int .i32 m)) :
    Calls Tryz.prog 97 #[.pointer (some ⟨b, 0, none⟩)] w fun e w' => e = .returned (.tuple #[]) ∧ ∃ cs', Blk w' b cs' 131 ∧ w.grownBy w' (some b) ∧ cs'.size = 260 ∧ cs'[0]? = cs[0]? ∧ cs'[1]? = cs[1]? ∧ cs'[3]? = some (.int .i32 (wrap32 (m + 1))) ∧ Ents cs' := by
  go_enter Tryz.func97, Tryz.ntmps97
  go_wp2
  go_loopg [3] 256 (fun g i wr => ∃ (k : Nat) (ds : Array Value), k ≤ 256 ∧ g = 256 - k ∧ i = .int .i64 k ∧ Blk wr b ds 131 ∧ w.grownBy wr (some b) ∧ Hid (ds.size = 260 ∧ (∀ j, j < 4 → ds[j]? = cs[j]?) ∧ ∀ j, j < k → ds[4 + j]? = some (.int .u32 (Crc.step j : Nat))))
  case atStart => exact ⟨0, cs, by omega, rfl, rfl, hb, gby_refl _ _, Lib.hid ⟨hs, fun _ _ => rfl, fun j hj => by omega⟩⟩
  case round =>
    obtain ⟨k, ds, hk, rfl, rfl, hbl, hgb, HH⟩ := hrel
    by_cases hlt : k < 256
    · have hk4 : k < 4294967296 := by omega
      have hw : IntKind.u32.wrap (k : Int) = k := by rw [IntKind.wrap_u32]; omega
      have hk0 : (0 : Int) ≤ (k : Int) := by omega
      have hk1 : (k : Int) < 256 := by omega
      have hc : wr.cell? ⟨b, 4 + k, none⟩ = some (ds[4 + k]'(by have := HH.out.1; omega)) := hbl.cell (Array.getElem?_eq_getElem _)
      have hf : wr.frozen? ⟨b, 4 + k, none⟩ = false := hbl.free _
      have BL := Lib.hid hbl
      clear hbl
      go_wp2_with fail
      go_region_held3 (fun _ => True) (trivial) ((go_at_call 108; (with_reducible refine (crc_entry k hk4 _).mono ?_); rintro e w' ⟨rfl, rfl⟩))
      go_wp2_with fail
      go_roundg (256 - (k + 1))
      case measure => omega
      case rel =>
        refine ⟨k + 1, _, by omega, rfl, by go_num, (BL.out.set (4 + k) _).drew, gby_drew (gby_set hgb _ _), Lib.hid ?_⟩
        obtain ⟨h1, h2, h3⟩ := HH.out
        refine ⟨by simpa using h1, fun j hj => ?_, fun j hj => ?_⟩
        · rw [Array.getElem?_setIfInBounds_ne (by omega)]; exact h2 j hj
        · by_cases hjk : j = k
          · subst hjk
            rw [Array.getElem?_setIfInBounds_self_of_lt (by omega)]
          · rw [Array.getElem?_setIfInBounds_ne (by omega)]; exact h3 j (by omega)
    · obtain rfl : k = 256 := by omega
      obtain ⟨h1, h2, h4⟩ := HH.out
      have e3 := (h2 3 (by omega)).trans h3
      have e0 := h2 0 (by omega)
      have e1 := h2 1 (by omega)
      have K3 := hbl.cell e3
      have F3 := hbl.free 3
      have HF := Lib.hid (And.intro h1 (And.intro e0 (And.intro e1 h4)))
      have BL := Lib.hid hbl
      clear HH h1 h2 h4 e3 e0 e1 hbl h3 hb
      go_wp2_with (go_at_call 109; refine (i32_add b 3 m _ K3 F3).mono ?_; rintro e w' ⟨rfl, rfl⟩)
      go_end0
      obtain ⟨h1, e0, e1, h4⟩ := HF.out
      refine ⟨rfl, _, BL.out.set 3 _, gby_set hgb _ _, by simpa using h1, ?_, ?_, ?_, fun j hj => ?_⟩
      · rw [Array.getElem?_setIfInBounds_ne (by omega)]; exact e0
      · rw [Array.getElem?_setIfInBounds_ne (by omega)]; exact e1
      · rw [Array.getElem?_setIfInBounds_self_of_lt (by omega)]
      · rw [Array.getElem?_setIfInBounds_ne (by omega)]; exact h4 j hj

/-- A table in block b: d is the Once's word, m how often the entries were reckoned. -/
def Tab (w : World) (b : Nat) (d m : Int) : Prop := ∃ cs, Blk w b cs 131 ∧ Head cs d m ∧ (d = 1 → Ents cs)
theorem Tab.lt {w : World} {b : Nat} {d m : Int} (h : Tab w b d m) : b < w.heap.size := by obtain ⟨cs, hb, _⟩ := h; exact hb.lt
theorem Tab.below {w w1 : World} {b B : Nat} {d m : Int} (h : Tab w b d m) (hb : Below B w w1) (hlt : b < B) : Tab w1 b d m := by
  obtain ⟨cs, h1, h2⟩ := h; exact ⟨cs, h1.below hb hlt, h2⟩
theorem Tab.gby {w w1 : World} {b g : Nat} {d m : Int} (h : Tab w b d m) (hb : w.grownBy w1 (some g)) (hne : ¬ b = g) : Tab w1 b d m := by
  obtain ⟨cs, h1, h2⟩ := h; exact ⟨cs, h1.gby hb hne, h2⟩

/-- What a call on a table does to how often the entries were reckoned. -/
def madeI (d m : Int) : Int := if d = 1 then m else wrap32 (m + 1)
theorem madeI_one (m : Int) : madeI 1 m = m := rfl
theorem madeI_first : madeI 0 0 = 1 := by unfold madeI wrap32; simp

theorem crc_do (b : Nat) (d m : Int) (hd : d = 0 ∨ d = 1) (w : World) (ht : Tab w b d m) :
    Calls Tryz.prog 96 #[.pointer (some ⟨b, 0, none⟩), .func (.func 97) #[.pointer (some ⟨b, 0, none⟩)] #[]] w fun e w' => e = .returned (.tuple #[]) ∧ Tab w' b 1 (madeI d m) ∧ w.grownBy w' (some b) := by
  obtain ⟨cs, hb, ⟨hs, h0, h1, h3⟩, he⟩ := ht
  rcases hd with rfl | rfl
  · have hb1 := hb.set 1 (.int .i32 1)
    have hrk := crc_reckon b _ m _ hb1 (by simpa using hs) (by rw [Array.getElem?_setIfInBounds_ne (by omega)]; exact h3)
    refine (do_m b 0 97 _ (fun w2 => ∃ cs', Blk w2 b cs' 131 ∧ w.grownBy w2 (some b) ∧ cs'.size = 260 ∧ cs'[0]? = some (.int .u32 0) ∧ cs'[1]? = some (.int .i32 1) ∧ cs'[3]? = some (.int .i32 (wrap32 (m + 1))) ∧ Ents cs') w (hb.cell h0) (hb.cell h1) (hb.free _) (hb.free _) (fun w => by kernel_rfl) (Lib.hid ?_) (Lib.hid ?_)).mono ?_
    · refine hrk.mono ?_
      rintro e w' ⟨rfl, cs', k1, k2, k3, k4, k5, k6, k7⟩
      refine ⟨rfl, cs', k1, gby_trans (gby_set (gby_refl _ _) _ _) k2, k3, ?_, ?_, k6, k7⟩
      · rw [k4, Array.getElem?_setIfInBounds_ne (by omega)]; exact h0
      · rw [k5, Array.getElem?_setIfInBounds_self_of_lt (by omega)]
    · rintro w2 ⟨cs', k1, k2, k3, k4, k5, k6, k7⟩
      exact ⟨k1.cell k4, k1.cell k5, k1.free _, k1.free _⟩
    · rintro e w' ⟨rfl, w2, ⟨cs', k1, k2, k3, k4, k5, k6, k7⟩, rfl⟩
      refine ⟨rfl, ⟨_, (k1.drew.set 0 _).set 1 _, ⟨by simpa using k3, ?_, ?_, ?_⟩, fun _ j hj => ?_⟩, gby_set (gby_set (gby_drew k2) _ _) _ _⟩
      · rw [Array.getElem?_setIfInBounds_ne (by omega), Array.getElem?_setIfInBounds_self_of_lt (by omega)]
      · rw [Array.getElem?_setIfInBounds_self_of_lt (by simp; omega)]
      · rw [Array.getElem?_setIfInBounds_ne (by omega), Array.getElem?_setIfInBounds_ne (by omega)]; exact k6
      · rw [Array.getElem?_setIfInBounds_ne (by omega), Array.getElem?_setIfInBounds_ne (by omega)]; exact k7 j hj
  · refine (do_done b 0 1 (by omega) _ w (hb.cell h0)).mono ?_
    rintro e w' ⟨rfl, rfl⟩
    exact ⟨rfl, ⟨cs, hb, ⟨hs, h0, h1, h3⟩, he⟩, gby_refl _ _⟩

theorem crc_nil_more (sum : Int) (s : ByteArray) (w : World) : Calls Tryz.prog 87 #[.pointer none, .int .u32 sum, .string s] w fun e w' => e = .returned (.int .u32 0) ∧ w = w' := by
  go_enter Tryz.func87, Tryz.ntmps87
  go_wp2
  go_ret
  exact ⟨rfl, rfl⟩

/-- One byte: which entry is looked up, and what it makes of the register. -/
theorem crc_byte (n c : Nat) (hn : n < 4294967296) (hc : c < 256) : ∃ j : Nat, j < 256 ∧ bits BinOp.xor IntKind.u8 (IntKind.u8.wrap (n : Int)) (c : Int) = (j : Int) ∧
    bits BinOp.xor IntKind.u32 ((n : Int) / 256) ((Crc.step j : Nat) : Int) = ((Crc.step (n ^^^ c) : Nat) : Int) := by
  refine ⟨n % 256 ^^^ c, Nat.xor_lt_two_pow (n := 8) (by omega) hc, ?_, ?_⟩
  · have e := u8_xor_nat (n % 256) c (by omega) hc
    rw [IntKind.wrap_u8]
    have e1 : ((n % 256 : Nat) : Int) = (n : Int) % 256 := by omega
    rw [e1] at e
    exact e
  · have hl : Crc.step (n % 256 ^^^ c) < 4294967296 := Crc.step_lt (Crc.xor_lt (by omega) (by omega))
    have e := u32_xor_nat (n / 256) (Crc.step (n % 256 ^^^ c)) (by omega) hl
    have e1 : ((n / 256 : Nat) : Int) = (n : Int) / 256 := by omega
    rw [e1] at e
    rw [e, Crc.step_table n c hc]

set_option maxRecDepth 100000 in
set_option maxHeartbeats 800000 in
theorem crc_more (b : Nat) (d m : Int) (hd : d = 0 ∨ d = 1) (sum : Nat) (hsum : sum < 4294967296) (s : ByteArray) (hs : s.size ≤ maxLen) (w : World) (ht : Tab w b d m) :
    Calls Tryz.prog 87 #[.pointer (some ⟨b, 0, none⟩), .int .u32 sum, .string s] w fun e w' => e = .returned (.int .u32 (Crc.more sum (bts s) : Nat)) ∧ Tab w' b 1 (madeI d m) ∧ w.grownBy w' (some b) := by
  unfold maxLen at hs
  have hc := crc_compl sum hsum
  have hmf : ∀ (fn : Fn) (first cap : Array Value) (w : World), (Instr.makeFunc fn first cap).run Tryz.prog w = .ok (.func fn first cap) w := fun _ _ _ _ => rfl
  go_enter Tryz.func87, Tryz.ntmps87
  go_wp2_with (go_at_call 96; (with_reducible refine (crc_do b d m hd _ ht).mono ?_); rintro e w1 ⟨rfl, ht1, hg1⟩)
  obtain ⟨cs, hb, hh, he⟩ := ht1
  have HH := Lib.hid (And.intro hh (he rfl))
  clear hh he hc ht
  go_loopg [7, 21] s.size (fun g t i wr => Blk wr b cs 131 ∧ w.grownBy wr (some b) ∧ ∃ (k m : Nat), k ≤ s.size ∧ g = s.size - k ∧ i = .int .i64 k ∧ t = .int .u32 m ∧ m < 4294967296 ∧ Hid (m = Crc.reg (Crc.compl sum) ((bts s).take k)))
  case atStart => exact ⟨hb, hg1, 0, Crc.compl sum, by omega, rfl, rfl, rfl, Crc.compl_lt _, Lib.hid rfl⟩
  case round =>
    obtain ⟨hb', hgb, k, n, hk, rfl, rfl, rfl, hm, HN⟩ := hrel
    clear hb hg1
    by_cases hlt : k < s.size
    · have hcc : (s[k]).toNat < 256 := (s[k]).toNat_lt
      obtain ⟨j, hj, hx1, hx2⟩ := crc_byte n (s[k]).toNat hm hcc
      have hj0 : (0 : Int) ≤ (j : Int) := by omega
      have hj1 : (j : Int) < 256 := by omega
      have hcell := hb'.cell (HH.out.2 j hj)
      have BL := Lib.hid hb'
      clear hb'
      have hw2 : IntKind.u8.wrap (n : Int) = (n : Int) % 256 := by rw [IntKind.wrap_u8]
      rw [hw2] at hx1
      go_wp2_with fail
      go_quiet (fail)
      go_wp2_with fail
      have HN2 : Hid (Crc.step (n ^^^ (s[k]).toNat) = Crc.reg (Crc.compl sum) ((bts s).take (k + 1))) := by
        have e := HN.out
        rw [bts_take s k hlt, Crc.reg_snoc, ← e]; exact rfl
      go_roundg (s.size - (k + 1))
      case measure => omega
      case rel => exact ⟨BL.out.drewN _, gby_drewN hgb _, k + 1, _, by omega, rfl, by go_num, rfl, Crc.step_lt (Crc.xor_lt hm (by omega)), HN2⟩
    · obtain rfl : k = s.size := by omega
      have e := HN.out
      rw [List.take_of_length_le (by rw [bts_length]; omega)] at e
      have hc := crc_compl n hm
      have HE : Hid (Crc.compl n = Crc.more sum (bts s)) := by rw [e]; exact rfl
      have BL := Lib.hid hb'
      clear e HN hb'
      go_wp2
      go_ret
      exact ⟨by rw [HE.out]; rfl, ⟨cs, BL.out, HH.out.1, fun _ => HH.out.2⟩, hgb⟩

theorem crc_sum (b : Nat) (d m : Int) (hd : d = 0 ∨ d = 1) (s : ByteArray) (hs : s.size ≤ maxLen) (w : World) (ht : Tab w b d m) :
    Calls Tryz.prog 74 #[.pointer (some ⟨b, 0, none⟩), .string s] w fun e w' => e = .returned (.int .u32 (Crc.more 0 (bts s) : Nat)) ∧ Tab w' b 1 (madeI d m) ∧ w.grownBy w' (some b) := by
  have hq := crc_more b d m hd 0 (by omega) s hs w ht
  rw [show ((0 : Nat) : Int) = 0 from rfl] at hq
  go_enter Tryz.func74, Tryz.ntmps74
  go_wp2_with (go_at_call 87; (with_reducible refine hq.mono ?_); rintro e w1 ⟨rfl, ht1, hg1⟩)
  go_ret
  exact ⟨rfl, ht1, hg1⟩

theorem crc_nil_sum (s : ByteArray) (w : World) : Calls Tryz.prog 74 #[.pointer none, .string s] w fun e w' => e = .returned (.int .u32 0) ∧ w = w' := by
  go_enter Tryz.func74, Tryz.ntmps74
  go_wp2_with (go_at_call 87; (with_reducible refine (crc_nil_more 0 s _).mono ?_); rintro e w1 ⟨rfl, rfl⟩)
  go_ret
  exact ⟨rfl, rfl⟩

theorem head_new : Head Tryz.zeroCells131 0 0 := ⟨by kernel_rfl, by kernel_rfl, by kernel_rfl, by kernel_rfl⟩

theorem crc_new (w : World) :
    Calls Tryz.prog 73 #[] w fun e w' => e = .returned (.pointer (some ⟨w.heap.size, 0, none⟩)) ∧ Tab w' w.heap.size 0 0 ∧ Below w.heap.size w w' ∧ w.heap.size < w'.heap.size := by
  go_enter Tryz.func73, Tryz.ntmps73
  go_wp2
  go_ret
  refine ⟨rfl, ⟨_, Blk.new w _ _, head_new, fun h => by cases h⟩, ?_, by simp⟩
  go_grown

/-- The three texts of what must come. -/
def nineA : ByteArray := ⟨#[49, 50, 51, 52, 53, 54, 55, 56, 57]⟩
def nineB : ByteArray := ⟨#[49, 50, 51, 52]⟩
def nineC : ByteArray := ⟨#[53, 54, 55, 56, 57]⟩
theorem nine_a : Crc.more 0 (bts nineA) = 3421780262 := by decide +kernel
theorem nine_c : Crc.more (Crc.more 0 (bts nineB)) (bts nineC) = 3421780262 := by decide +kernel

end Go.Proofs.YtcibeiehdjekiaaGreatDoor

/-! Frame -/
namespace Go.Proofs.YtcibeiehdjekiaaGreatDoor
open Go.RowKit
set_option linter.unusedVariables false
set_option linter.unusedSimpArgs false

theorem join_nil (xs : List (List UInt8)) : Lib.join xs [] = xs.flatten := by
  induction xs with
  | nil => rfl
  | cons x t ih =>
    cases t with
    | nil => simp [Lib.join]
    | cons y t => simp [Lib.join] at ih ⊢; simp [ih]

/-- Parts as one text. -/
theorem frame_parts (bk o c : Nat) (xs : List ByteArray) (w : World) (hcells : ∀ (j : Nat) x, xs[j]? = some x → w.cell? ⟨bk, o + j, none⟩ = some (.string x)) (hbk : bk < w.heap.size) (hN : xs.length ≤ 1000) (hcap : xs.length ≤ c) (hlen : (xs.map (·.data.toList)).flatten.length ≤ 1000000) :
    Calls Tryz.prog 52 #[.slice (some ⟨bk, o, none⟩) xs.length c] w fun e w' => e = .returned (.string (str (xs.map (·.data.toList)).flatten)) ∧ Below w.heap.size w w' := by
  have J := Tryz.strings_Join bk o c xs ⟨#[]⟩ w hcells hbk (by omega) hcap (by rw [join_nil]; omega)
  rw [join_nil] at J
  have J := Lib.hid J
  clear hcells
  go_enter Tryz.func52, Tryz.ntmps52
  go_wp2_with (go_at_call 72; refine J.out.mono ?_; rintro e w1 ⟨rfl, hb⟩)
  go_ret
  exact ⟨rfl, hb⟩

/-- The sum of a text as four bytes. -/
def sumB (s : ByteArray) : ByteArray := str (Oct.fixB (Crc.more 0 (bts s)) 4)
theorem sumB_size (s : ByteArray) : (sumB s).size = 4 := by unfold sumB; rw [str_size, Oct.fixB_length]
theorem two_flat (a b : ByteArray) : str ([a, b].map (·.data.toList)).flatten = a ++ b := by
  apply ByteArray.ext; simp [str]
set_option maxRecDepth 100000 in
theorem frame_sum (bk c : Nat) (a b : ByteArray) (w : World) (h0 : w.cell? ⟨bk, 0, none⟩ = some (.string a)) (h1 : w.cell? ⟨bk, 1, none⟩ = some (.string b)) (hbk : bk < w.heap.size) (hc : 2 ≤ c) (ha : a.size ≤ 1000) (hb : b.size ≤ 1000) :
    Calls Tryz.prog 53 #[.slice (some ⟨bk, 0, none⟩) 2 c] w fun e w' => e = .returned (.string (sumB (a ++ b))) ∧ Below w.heap.size w w' := by
  obtain ⟨m, hm⟩ : ∃ m, Crc.more 0 (bts (a ++ b)) = m := ⟨_, rfl⟩
  unfold sumB
  rw [hm]
  have HM := Lib.hid hm
  clear hm
  go_enter Tryz.func53, Tryz.ntmps53
  go_wp2_with fail
  refine (crc_new _).mono ?_
  rintro e wn ⟨rfl, ht1, hb1, hs1⟩
  have k0 := keepB hb1 h0 hbk
  have k1 := keepB hb1 h1 hbk
  have HT1 := Lib.hid ht1
  have HB1 := Lib.hid hb1
  clear ht1 hb1
  have PT := frame_parts bk 0 c [a, b] wn (fun j x hj => by
    match j, hj with
    | 0, hj => simp at hj; subst hj; simpa using k0
    | 1, hj => simp at hj; subst hj; simpa using k1) (by omega) (by simp) (by simpa using hc) (by
      have e : ([a, b].map (·.data.toList)).flatten.length = a.size + b.size := by
        show (a.data.toList ++ (b.data.toList ++ [])).length = _
        rw [List.length_append, List.length_append]; rfl
      rw [e]; omega)
  rw [two_flat] at PT
  have PT := Lib.hid PT
  clear k0 k1
  go_wp2_with fail
  refine PT.out.mono ?_
  rintro e w2 ⟨rfl, hb2⟩
  have HB2 := Lib.hid (HB1.out.trans (hb2.mono HB1.out.size))
  have HT2 := Lib.hid (HT1.out.below hb2 HT1.out.lt)
  clear hb2
  have CS := crc_sum w.heap.size 0 0 (.inl rfl) (a ++ b) (by rw [ByteArray.size_append]; unfold maxLen; omega) w2 HT2.out
  rw [HM.out] at CS
  have CS := Lib.hid CS
  have hml : Crc.more 0 (bts (a ++ b)) < 4294967296 := Crc.more_lt _ _
  rw [HM.out] at hml
  go_wp2_with fail
  refine CS.out.mono ?_
  rintro e w3 ⟨rfl, ht3, hg3⟩
  have HB3 := Lib.hid (below_gby HB2.out hg3 (Nat.le_refl _) HB2.out.size)
  clear ht3 hg3
  have hmI : (m : Int) < 4294967296 := by omega
  go_wp2_with (go_at_call 22; refine (octet_fixed m 4 (by omega) (by decide) (by decide) _).mono ?_; rintro e w4 ⟨rfl, hb4⟩)
  go_ret
  exact ⟨rfl, HB3.out.trans (hb4.mono HB3.out.size)⟩

/-- A body in a frame. -/
def longB (body : ByteArray) : ByteArray := str (Oct.fixB body.size 2)
def sealB (body : ByteArray) : ByteArray := str [82] ++ (longB body ++ body ++ sumB (longB body ++ body))
theorem longB_size (body : ByteArray) : (longB body).size = 2 := by unfold longB; rw [str_size, Oct.fixB_length]
theorem sealB_size (body : ByteArray) : (sealB body).size = body.size + 7 := by
  unfold sealB
  simp only [ByteArray.size_append, sumB_size, longB_size]
  show 1 + _ = _
  omega
theorem four_flat (a b c d : ByteArray) : str ([a, b, c, d].map (·.data.toList)).flatten = a ++ (b ++ c ++ d) := by
  apply ByteArray.ext; simp [str]

theorem frame_size (n : Int) (w : World) : Calls Tryz.prog 67 #[.int .i64 n] w fun e w' => e = .returned (.int .i64 (if n < 0 ∨ 200 < n then 0 else n + 7)) ∧ w = w' := by
  by_cases h : n < 0
  · rw [if_pos (.inl h)]
    go_enter Tryz.func67, Tryz.ntmps67
    go_wp2
    go_ret
    exact ⟨rfl, rfl⟩
  · by_cases h2 : 200 < n
    · rw [if_pos (.inr h2)]
      go_enter Tryz.func67, Tryz.ntmps67
      go_wp2
      go_ret
      exact ⟨rfl, rfl⟩
    · rw [if_neg (by omega)]
      have e : (3 : Int) + n + 4 = n + 7 := by omega
      go_enter Tryz.func67, Tryz.ntmps67
      go_wp2
      go_ret
      exact ⟨by rw [← e]; rfl, rfl⟩
theorem frame_seal_many (body : ByteArray) (h : 200 < body.size) (hs : body.size ≤ maxLen) (w : World) :
    Calls Tryz.prog 25 #[.string body] w fun e w' => e = .returned (.tuple #[.string ⟨#[]⟩, .int .i64 9]) ∧ w = w' := by
  have h' : (200 : Int) < (body.size : Int) := by omega
  unfold maxLen at hs
  go_enter Tryz.func25, Tryz.ntmps25
  go_wp2
  go_ret2
  exact ⟨rfl, rfl⟩
set_option maxRecDepth 100000 in
set_option maxHeartbeats 800000 in
theorem frame_seal (body : ByteArray) (h : body.size ≤ 200) (w : World) :
    Calls Tryz.prog 25 #[.string body] w fun e w' => e = .returned (.tuple #[.string (sealB body), .int .i64 0]) ∧ Below w.heap.size w w' := by
  have h' : (body.size : Int) ≤ 200 := by omega
  have hz := longB_size body
  have OF := octet_fixed body.size 2 (by omega) (by decide) (by decide)
  change ∀ w, Calls _ _ _ _ fun e w' => e = .returned (.string (longB body)) ∧ _ at OF
  obtain ⟨lg, hlg⟩ : ∃ lg, longB body = lg := ⟨_, rfl⟩
  unfold sealB
  rw [hlg] at OF hz ⊢
  have OF := Lib.hid OF
  have HZ := Lib.hid hz
  clear hlg hz
  go_enter Tryz.func25, Tryz.ntmps25
  go_wp2_with fail
  refine (OF.out _).mono ?_
  rintro e w1 ⟨rfl, hb1⟩
  have HB1 := Lib.hid hb1
  clear hb1
  go_wp2_with fail
  refine (frame_sum w1.heap.size 2 lg body _ (by go_simp) (by go_simp) (by simp) (by decide) (by rw [HZ.out]; decide) (by omega)).mono ?_
  rintro e w2 ⟨rfl, hb2⟩
  have HB2 : Hid (Below w.heap.size w w2) := Lib.hid ((HB1.out.alloc HB1.out.size _).trans (hb2.mono (by have := HB1.out.size; simp; omega)))
  clear hb2
  have PT := fun (wx : World) h0 h1 => frame_parts w2.heap.size 0 4 [str [82], lg, body, sumB (lg ++ body)] wx h0 h1 (by simp) (by simp) (by
    have e : ([str [82], lg, body, sumB (lg ++ body)].map (·.data.toList)).flatten.length = 1 + lg.size + body.size + (sumB (lg ++ body)).size := by
      show ([82] ++ (lg.data.toList ++ (body.data.toList ++ ((sumB (lg ++ body)).data.toList ++ [])))).length = _
      rw [List.length_append, List.length_append, List.length_append, List.length_append]
      show 1 + (lg.size + (body.size + ((sumB (lg ++ body)).size + 0))) = _
      omega
    rw [e, sumB_size, HZ.out]; omega)
  rw [four_flat] at PT
  have PT := Lib.hid PT
  go_wp2_with fail
  refine (PT.out _ (fun j x hj => ?_) (by simp)).mono ?_
  · match j, hj with
    | 0, hj => simp at hj; subst hj; go_simp; rfl
    | 1, hj => simp at hj; subst hj; go_simp
    | 2, hj => simp at hj; subst hj; go_simp
    | 3, hj => simp at hj; subst hj; go_simp
  rintro e w3 ⟨rfl, hb3⟩
  go_wp2_with fail
  go_ret2
  exact ⟨rfl, (HB2.out.alloc HB2.out.size _).trans (hb3.mono (by have := HB2.out.size; simp; omega))⟩
end Go.Proofs.YtcibeiehdjekiaaGreatDoor

/-! FrameOpen -/
namespace Go.Proofs.YtcibeiehdjekiaaGreatDoor
open Go.RowKit
set_option linter.unusedVariables false
set_option linter.unusedSimpArgs false

theorem must_yes (e : Int) (w : World) : Calls Tryz.prog 65 #[.bool true, .int .i64 e] w fun en w' => en = .returned (.tuple #[]) ∧ w = w' := by
  have hnot : ∀ (x : Bool) (w : World), (Op.unary .not (.bool x)).run Tryz.prog w = .ok (.bool (!x)) w := fun _ _ => rfl
  go_enter Tryz.func65, Tryz.ntmps65
  go_wp2
  go_end0
  exact ⟨rfl, rfl⟩
theorem must_no (e : Int) (w : World) : Calls Tryz.prog 65 #[.bool false, .int .i64 e] w fun en w' => en = .panicked [{ v := .iface 27 (.int .i64 e), recovered := false }] ∧ w = w' := by
  have hnot : ∀ (x : Bool) (w : World), (Op.unary .not (.bool x)).run Tryz.prog w = .ok (.bool (!x)) w := fun _ _ => rfl
  go_enter Tryz.func65, Tryz.ntmps65
  go_wp2
  exact ⟨rfl, rfl, rfl⟩

theorem catch_idle (p q r : Addr) (w : World) :
    CallsD Tryz.prog 64 #[.pointer (some p), .pointer (some q), .pointer (some r)] .returning w fun e u' w' => e = .returned (.tuple #[]) ∧ u' = .returning ∧ w' = w := by
  refine callsD_of_wpS Tryz.func64 rfl fun c₀ cs hu => ?_
  apply wpS_seq
  apply wpS_region
  simp [wpOpsS, go_sem, recoverD, hu, Tryz.ntmps64, Exit.thenS]
  apply wpS_seq
  apply wpS_region
  simp [wpOpsS, go_sem, Exit.thenS]
  refine wpS_cond (t := false) (by simp [Act.eval, Array.replicate]) ?_
  simp only [Bool.false_eq_true, if_false]
  refine wpS_of_wp (wp_skip ?_)
  cases c₀
  simp_all [bodyPostS, results, Tryz.results64]
set_option maxRecDepth 100000 in
theorem catch_panicking (p q r : Addr) (x y z : Value) (pv : Int) (older : List PanicEntry) (w : World) (h0 : w.cell? p = some x) (h1 : w.cell? q = some y) (h2 : w.cell? r = some z) (f0 : w.frozen? p = false) (f1 : w.frozen? q = false) (f2 : w.frozen? r = false) (n1 : p ≠ q) (n2 : p ≠ r) (n3 : q ≠ r) :
    CallsD Tryz.prog 64 #[.pointer (some p), .pointer (some q), .pointer (some r)] (.panicking ({ v := .iface 27 (.int .i64 pv), recovered := false } :: older)) w fun e u' w' =>
      e = .returned (.tuple #[]) ∧ u' = .panicking ({ v := .iface 27 (.int .i64 pv), recovered := true } :: older) ∧ w' = ((w.setCell p (.string ⟨#[]⟩)).setCell q (.int .i64 0)).setCell r (.int .i64 pv) := by
  have hta : ∀ (v : Value) (W : World), (Instr.typeAssert (.iface 27 v) 20 27 false).run Tryz.prog W = .ok v W := fun v W => by rfl
  have n1' : q ≠ p := fun e => n1 e.symm
  have n2' : r ≠ p := fun e => n2 e.symm
  have n3' : r ≠ q := fun e => n3 e.symm
  refine callsD_of_wpS Tryz.func64 rfl fun c₀ cs hu => ?_
  apply wpS_seq
  apply wpS_region
  simp [wpOpsS, go_sem, recoverD, hu, Tryz.ntmps64, Exit.thenS]
  apply wpS_seq
  apply wpS_region
  simp [wpOpsS, go_sem, Exit.thenS]
  refine wpS_cond (t := true) (by simp [Act.eval, Array.replicate]) ?_
  simp only [if_true]
  apply wpS_seq
  apply wpS_region
  have e1 : (w.setCell p (.string ⟨#[]⟩)).cell? q = some y := by rw [World.cell?_setCell_other (h := n1)]; exact h1
  have e2 : ((w.setCell p (.string ⟨#[]⟩)).setCell q (.int .i64 0)).cell? r = some z := by rw [World.cell?_setCell_other (h := n3), World.cell?_setCell_other (h := n2)]; exact h2
  simp [wpOpsS, go_sem, Exit.thenS, h0, e1, f0, f1]
  apply wpS_region
  simp [wpOpsS, go_sem, Exit.thenS, e2, f2, hta, bodyPostS, results, Tryz.results64]

theorem three_new (w : World) : Blk (((w.alloc (.cells #[.string ⟨#[]⟩] 9)).alloc (.cells #[.int .i64 0] 3)).alloc (.cells #[.int .i64 0] 27)) w.heap.size #[.string ⟨#[]⟩] 9 ∧
    Blk (((w.alloc (.cells #[.string ⟨#[]⟩] 9)).alloc (.cells #[.int .i64 0] 3)).alloc (.cells #[.int .i64 0] 27)) (w.heap.size + 1) #[.int .i64 0] 3 ∧
    Blk (((w.alloc (.cells #[.string ⟨#[]⟩] 9)).alloc (.cells #[.int .i64 0] 3)).alloc (.cells #[.int .i64 0] 27)) (w.heap.size + 1 + 1) #[.int .i64 0] 27 ∧
    Below w.heap.size w (((w.alloc (.cells #[.string ⟨#[]⟩] 9)).alloc (.cells #[.int .i64 0] 3)).alloc (.cells #[.int .i64 0] 27)) := by
  have h1 := Blk.new (w.alloc (.cells #[.string ⟨#[]⟩] 9)) #[.int .i64 0] 3
  have h2 := Blk.new ((w.alloc (.cells #[.string ⟨#[]⟩] 9)).alloc (.cells #[.int .i64 0] 3)) #[.int .i64 0] 27
  simp only [World.size_alloc] at h1 h2
  exact ⟨((Blk.new w _ _).alloc _).alloc _, h1.alloc _, h2, (((Below.refl _ _).alloc (Nat.le_refl _) _).alloc (by simp) _).alloc (by simp; omega) _⟩

/-- The door, behind a panic: the closure recovers it. -/
theorem door_panic {w w1 : World} {T : Array Value} (x : Value) (y z e : Int)
    (t2 : T.getD 2 undef = .pointer (some ⟨w.heap.size, 0, none⟩)) (t3 : T.getD 3 undef = .pointer (some ⟨w.heap.size + 1, 0, none⟩)) (t4 : T.getD 4 undef = .pointer (some ⟨w.heap.size + 1 + 1, 0, none⟩))
    (h0 : Blk w1 w.heap.size #[x] 9) (h1 : Blk w1 (w.heap.size + 1) #[.int .i64 y] 3) (h2 : Blk w1 (w.heap.size + 1 + 1) #[.int .i64 z] 27) (hb : Below w.heap.size w w1) :
    bodyPostD Tryz.prog Tryz.f43 (fun en w' => en = .returned (.tuple #[.string ⟨#[]⟩, .int .i64 0, .int .i64 e]) ∧ Below w.heap.size w w') (Exit.panic [{ v := .iface 27 (.int .i64 e), recovered := false }])
      { tmps := T, defers := [{ target := Target.fn (Fn.func 64) #[.pointer (some ⟨w.heap.size, 0, none⟩), .pointer (some ⟨w.heap.size + 1, 0, none⟩), .pointer (some ⟨w.heap.size + 1 + 1, 0, none⟩)], args := #[] }] } w1 := by
  refine leaves_cons (f := 64) (args := #[.pointer (some ⟨w.heap.size, 0, none⟩), .pointer (some ⟨w.heap.size + 1, 0, none⟩), .pointer (some ⟨w.heap.size + 1 + 1, 0, none⟩)]) (by simp) (by simp [go_sem]) ?_
  refine (catch_panicking _ _ _ x (.int .i64 y) (.int .i64 z) e [] _ (h0.cell rfl) (h1.cell rfl) (h2.cell rfl) (h0.free _) (h1.free _) (h2.free _) (by simp) (by first | (simp; done) | (simp; omega)) (by simp)).mono ?_
  rintro en u' w'' ⟨rfl, rfl, rfl⟩
  have k0 := ((((h0.set 0 (.string ⟨#[]⟩)).far (a := ⟨w.heap.size + 1, 0, none⟩) (by simp) (.int .i64 0)).far (a := ⟨w.heap.size + 1 + 1, 0, none⟩) (by first | (simp; done) | (simp; omega)) (.int .i64 e))).cell (i := 0) (v := .string ⟨#[]⟩) rfl
  have k1 := ((((h1.far (a := ⟨w.heap.size, 0, none⟩) (by simp) (.string ⟨#[]⟩)).set 0 (.int .i64 0)).far (a := ⟨w.heap.size + 1 + 1, 0, none⟩) (by simp) (.int .i64 e))).cell (i := 0) (v := .int .i64 0) rfl
  have k2 := ((((h2.far (a := ⟨w.heap.size, 0, none⟩) (by first | (simp; done) | (simp; omega)) (.string ⟨#[]⟩)).far (a := ⟨w.heap.size + 1, 0, none⟩) (by simp) (.int .i64 0)).set 0 (.int .i64 e))).cell (i := 0) (v := .int .i64 e) rfl
  have hbl : Below w.heap.size w (((w1.setCell ⟨w.heap.size, 0, none⟩ (.string ⟨#[]⟩)).setCell ⟨w.heap.size + 1, 0, none⟩ (.int .i64 0)).setCell ⟨w.heap.size + 1 + 1, 0, none⟩ (.int .i64 e)) := ((hb.setCell (Nat.le_refl _) _).setCell (by simp) _).setCell (by first | (simp; done) | (simp; omega)) _
  have t2' : T[2]?.getD undef = .pointer (some ⟨w.heap.size, 0, none⟩) := by simpa using t2
  have t3' : T[3]?.getD undef = .pointer (some ⟨w.heap.size + 1, 0, none⟩) := by simpa using t3
  have t4' : T[4]?.getD undef = .pointer (some ⟨w.heap.size + 1 + 1, 0, none⟩) := by simpa using t4
  simp [Leaves, settle, results, Tryz.results43, go_sem, t2', t3', t4', k0, k1, k2, hbl]

set_option maxRecDepth 100000 in
theorem open_empty (w : World) : Calls Tryz.prog 43 #[.string ⟨#[]⟩] w fun e w' => e = .returned (.tuple #[.string ⟨#[]⟩, .int .i64 0, .int .i64 3]) ∧ Below w.heap.size w w' := by
  have hmf : ∀ (fn : Fn) (first cap : Array Value) (w : World), (Instr.makeFunc fn first cap).run Tryz.prog w = .ok (.func fn first cap) w := fun _ _ _ _ => rfl
  obtain ⟨b0, b1, b2, bb⟩ := three_new w
  have B0 := Lib.hid b0
  have B1 := Lib.hid b1
  have B2 := Lib.hid b2
  have BB := Lib.hid bb
  clear b0 b1 b2 bb
  go_enter_defers Tryz.func43, Tryz.ntmps43
  go_wp2_with fail
  refine (must_no 3 _).mono ?_
  rintro e w1 ⟨rfl, rfl⟩
  go_wp2_with fail
  exact door_panic _ 0 0 3 rfl rfl rfl B0.out B1.out B2.out BB.out

theorem not_empty {s : ByteArray} (h : 0 < s.size) : (!s.toList.isEmpty) = true := by
  rw [ByteArray.toList_eq]
  cases h2 : s.data.toList with
  | nil => have : s.size = 0 := congrArg List.length h2; omega
  | cons a b => rfl
theorem must_y {b : Bool} (h : b = true) (e : Int) (w : World) : Calls Tryz.prog 65 #[.bool b, .int .i64 e] w fun en w' => en = .returned (.tuple #[]) ∧ w = w' := by subst h; exact must_yes e w
theorem must_n {b : Bool} (h : b = false) (e : Int) (w : World) : Calls Tryz.prog 65 #[.bool b, .int .i64 e] w fun en w' => en = .panicked [{ v := .iface 27 (.int .i64 e), recovered := false }] ∧ w = w' := by subst h; exact must_no e w

set_option maxRecDepth 100000 in
set_option maxHeartbeats 1600000 in
theorem open_form (s : ByteArray) (hs : s.size ≤ maxLen) (h0 : 0 < s.size) (hx : Lib.hasPrefix s.data.toList [82] = false) (w : World) : Calls Tryz.prog 43 #[.string s] w fun e w' => e = .returned (.tuple #[.string ⟨#[]⟩, .int .i64 0, .int .i64 2]) ∧ Below w.heap.size w w' := by
  have hmf : ∀ (fn : Fn) (first cap : Array Value) (w : World), (Instr.makeFunc fn first cap).run Tryz.prog w = .ok (.func fn first cap) w := fun _ _ _ _ => rfl
  obtain ⟨b0, b1, b2, bb⟩ := three_new w
  have B0 := Lib.hid b0
  have B1 := Lib.hid b1
  have B2 := Lib.hid b2
  have BB := Lib.hid bb
  clear b0 b1 b2 bb
  have hs63 : s.size ≤ 9223372036854775807 := by unfold maxLen at hs; omega
  have HP := fun w => Tryz.strings_HasPrefix s ⟨#[82]⟩ w
  change ∀ w, Calls _ _ _ _ fun e w' => e = .returned (.bool (Lib.hasPrefix s.data.toList [82])) ∧ _ at HP
  rw [hx] at HP
  have HP := Lib.hid HP
  have hne : (!s.toList.isEmpty) = true := not_empty h0
  clear hx
  go_enter_defers Tryz.func43, Tryz.ntmps43
  go_wp2_with fail
  refine (must_yes 3 _).mono ?_
  rintro e w1 ⟨rfl, rfl⟩
  go_wp2_with fail
  refine (HP.out _).mono ?_
  rintro e w1 ⟨rfl, rfl⟩
  go_wp2_with fail
  refine (must_no 2 _).mono ?_
  rintro e w1 ⟨rfl, rfl⟩
  go_wp2_with fail
  exact door_panic _ 0 0 2 rfl rfl rfl B0.out B1.out B2.out BB.out

set_option maxRecDepth 100000 in
set_option maxHeartbeats 1600000 in
theorem open_short (s : ByteArray) (hs : s.size ≤ maxLen) (h0 : 0 < s.size) (hx : Lib.hasPrefix s.data.toList [82] = true) (h3 : s.size < 3) (w : World) : Calls Tryz.prog 43 #[.string s] w fun e w' => e = .returned (.tuple #[.string ⟨#[]⟩, .int .i64 0, .int .i64 3]) ∧ Below w.heap.size w w' := by
  have hmf : ∀ (fn : Fn) (first cap : Array Value) (w : World), (Instr.makeFunc fn first cap).run Tryz.prog w = .ok (.func fn first cap) w := fun _ _ _ _ => rfl
  obtain ⟨b0, b1, b2, bb⟩ := three_new w
  have B0 := Lib.hid b0
  have B1 := Lib.hid b1
  have B2 := Lib.hid b2
  have BB := Lib.hid bb
  clear b0 b1 b2 bb
  have hs63 : s.size ≤ 9223372036854775807 := by unfold maxLen at hs; omega
  have HP := fun w => Tryz.strings_HasPrefix s ⟨#[82]⟩ w
  change ∀ w, Calls _ _ _ _ fun e w' => e = .returned (.bool (Lib.hasPrefix s.data.toList [82])) ∧ _ at HP
  rw [hx] at HP
  have HP := Lib.hid HP
  have hne : (!s.toList.isEmpty) = true := not_empty h0
  clear hx
  go_enter_defers Tryz.func43, Tryz.ntmps43
  go_wp2_with fail
  refine (must_yes 3 _).mono ?_
  rintro e w1 ⟨rfl, rfl⟩
  go_wp2_with fail
  refine (HP.out _).mono ?_
  rintro e w1 ⟨rfl, rfl⟩
  go_wp2_with fail
  refine (must_yes 2 _).mono ?_
  rintro e w1 ⟨rfl, rfl⟩
  go_wp2_with fail
  refine (must_n (by simp; omega) 3 _).mono ?_
  rintro e w1 ⟨rfl, rfl⟩
  go_wp2_with fail
  exact door_panic _ 0 0 3 rfl rfl rfl B0.out B1.out B2.out BB.out

set_option maxRecDepth 100000 in
set_option maxHeartbeats 1600000 in
theorem open_many (s : ByteArray) (hs : s.size ≤ maxLen) (h0 : 0 < s.size) (hx : Lib.hasPrefix s.data.toList [82] = true) (h3 : 3 ≤ s.size) (n : Nat) (hn : Oct.numFrom 0 ((rest (s.extract 1 3) 0).take 2) = n) (hn2 : 200 < n) (w : World) : Calls Tryz.prog 43 #[.string s] w fun e w' => e = .returned (.tuple #[.string ⟨#[]⟩, .int .i64 0, .int .i64 9]) ∧ Below w.heap.size w w' := by
  have hmf : ∀ (fn : Fn) (first cap : Array Value) (w : World), (Instr.makeFunc fn first cap).run Tryz.prog w = .ok (.func fn first cap) w := fun _ _ _ _ => rfl
  obtain ⟨b0, b1, b2, bb⟩ := three_new w
  have B0 := Lib.hid b0
  have B1 := Lib.hid b1
  have B2 := Lib.hid b2
  have BB := Lib.hid bb
  clear b0 b1 b2 bb
  have hs63 : s.size ≤ 9223372036854775807 := by unfold maxLen at hs; omega
  have HP := fun w => Tryz.strings_HasPrefix s ⟨#[82]⟩ w
  change ∀ w, Calls _ _ _ _ fun e w' => e = .returned (.bool (Lib.hasPrefix s.data.toList [82])) ∧ _ at HP
  rw [hx] at HP
  have HP := Lib.hid HP
  have hne : (!s.toList.isEmpty) = true := not_empty h0
  clear hx
  go_enter_defers Tryz.func43, Tryz.ntmps43
  go_wp2_with fail
  refine (must_yes 3 _).mono ?_
  rintro e w1 ⟨rfl, rfl⟩
  go_wp2_with fail
  refine (HP.out _).mono ?_
  rintro e w1 ⟨rfl, rfl⟩
  go_wp2_with fail
  refine (must_yes 2 _).mono ?_
  rintro e w1 ⟨rfl, rfl⟩
  go_wp2_with fail
  refine (must_y (by simp; omega) 3 _).mono ?_
  rintro e w1 ⟨rfl, rfl⟩
  have k1 : (3 : Int) ≤ (s.size : Int) := by omega
  go_wp2_with fail
  refine (octet_new _ _).mono ?_
  rintro e w1 ⟨rfl, hc1, hb1, hz1⟩
  have C0 := Lib.hid (B0.out.below hb1 B0.out.lt)
  have C1 := Lib.hid (B1.out.below hb1 B1.out.lt)
  have C2 := Lib.hid (B2.out.below hb1 B2.out.lt)
  have CB := Lib.hid (BB.out.trans (hb1.mono BB.out.size))
  have hez : (s.extract 1 3).size = 2 := by rw [ByteArray.size_extract]; omega
  have n0 := B0.out.lt
  have n1 := B1.out.lt
  have n2 := B2.out.lt
  obtain ⟨W, hW⟩ : ∃ W, W = ((w.alloc (.cells #[.string ⟨#[]⟩] 9)).alloc (.cells #[.int .i64 0] 3)).alloc (.cells #[.int .i64 0] 27) := ⟨_, rfl⟩
  rw [← hW] at hc1 hb1 n0 n1 n2 ⊢
  have CF := cur_fixed W.heap.size (s.extract 1 3) 0 2 (by rw [hez]; decide) (by rw [hez]; decide) (by decide) (by decide) w1 hc1
  rw [hn] at CF
  have CF := Lib.hid CF
  have hWw : w.heap.size ≤ W.heap.size := by omega
  clear hc1 hb1 hz1 hez hn B0 B1 B2 BB hW
  go_wp2_with fail
  refine CF.out.mono ?_
  rintro e w2 ⟨rfl, hc2, hg2⟩
  have D0 := Lib.hid (C0.out.gby hg2 (by omega))
  have D1 := Lib.hid (C1.out.gby hg2 (by omega))
  have D2 := Lib.hid (C2.out.gby hg2 (by omega))
  have DB := Lib.hid (below_gby CB.out hg2 hWw CB.out.size)
  clear hc2 hg2 C0 C1 C2 CB n0 n1 n2
  go_wp2_with fail
  refine (must_n (by simp; omega) 9 _).mono ?_
  rintro e w1 ⟨rfl, rfl⟩
  go_wp2_with fail
  exact door_panic _ 0 0 9 rfl rfl rfl D0.out D1.out D2.out DB.out

set_option maxRecDepth 100000 in
set_option maxHeartbeats 1600000 in
theorem open_cut (s : ByteArray) (hs : s.size ≤ maxLen) (h0 : 0 < s.size) (hx : Lib.hasPrefix s.data.toList [82] = true) (h3 : 3 ≤ s.size) (n : Nat) (hn : Oct.numFrom 0 ((rest (s.extract 1 3) 0).take 2) = n) (hn2 : n ≤ 200) (hcut : s.size < n + 7) (w : World) : Calls Tryz.prog 43 #[.string s] w fun e w' => e = .returned (.tuple #[.string ⟨#[]⟩, .int .i64 0, .int .i64 3]) ∧ Below w.heap.size w w' := by
  have hmf : ∀ (fn : Fn) (first cap : Array Value) (w : World), (Instr.makeFunc fn first cap).run Tryz.prog w = .ok (.func fn first cap) w := fun _ _ _ _ => rfl
  obtain ⟨b0, b1, b2, bb⟩ := three_new w
  have B0 := Lib.hid b0
  have B1 := Lib.hid b1
  have B2 := Lib.hid b2
  have BB := Lib.hid bb
  clear b0 b1 b2 bb
  have hs63 : s.size ≤ 9223372036854775807 := by unfold maxLen at hs; omega
  have HP := fun w => Tryz.strings_HasPrefix s ⟨#[82]⟩ w
  change ∀ w, Calls _ _ _ _ fun e w' => e = .returned (.bool (Lib.hasPrefix s.data.toList [82])) ∧ _ at HP
  rw [hx] at HP
  have HP := Lib.hid HP
  have hne : (!s.toList.isEmpty) = true := not_empty h0
  clear hx
  go_enter_defers Tryz.func43, Tryz.ntmps43
  go_wp2_with fail
  refine (must_yes 3 _).mono ?_
  rintro e w1 ⟨rfl, rfl⟩
  go_wp2_with fail
  refine (HP.out _).mono ?_
  rintro e w1 ⟨rfl, rfl⟩
  go_wp2_with fail
  refine (must_yes 2 _).mono ?_
  rintro e w1 ⟨rfl, rfl⟩
  go_wp2_with fail
  refine (must_y (by simp; omega) 3 _).mono ?_
  rintro e w1 ⟨rfl, rfl⟩
  have k1 : (3 : Int) ≤ (s.size : Int) := by omega
  go_wp2_with fail
  refine (octet_new _ _).mono ?_
  rintro e w1 ⟨rfl, hc1, hb1, hz1⟩
  have C0 := Lib.hid (B0.out.below hb1 B0.out.lt)
  have C1 := Lib.hid (B1.out.below hb1 B1.out.lt)
  have C2 := Lib.hid (B2.out.below hb1 B2.out.lt)
  have CB := Lib.hid (BB.out.trans (hb1.mono BB.out.size))
  have hez : (s.extract 1 3).size = 2 := by rw [ByteArray.size_extract]; omega
  have n0 := B0.out.lt
  have n1 := B1.out.lt
  have n2 := B2.out.lt
  obtain ⟨W, hW⟩ : ∃ W, W = ((w.alloc (.cells #[.string ⟨#[]⟩] 9)).alloc (.cells #[.int .i64 0] 3)).alloc (.cells #[.int .i64 0] 27) := ⟨_, rfl⟩
  rw [← hW] at hc1 hb1 n0 n1 n2 ⊢
  have CF := cur_fixed W.heap.size (s.extract 1 3) 0 2 (by rw [hez]; decide) (by rw [hez]; decide) (by decide) (by decide) w1 hc1
  rw [hn] at CF
  have CF := Lib.hid CF
  have hWw : w.heap.size ≤ W.heap.size := by omega
  clear hc1 hb1 hz1 hez hn B0 B1 B2 BB hW
  go_wp2_with fail
  refine CF.out.mono ?_
  rintro e w2 ⟨rfl, hc2, hg2⟩
  have D0 := Lib.hid (C0.out.gby hg2 (by omega))
  have D1 := Lib.hid (C1.out.gby hg2 (by omega))
  have D2 := Lib.hid (C2.out.gby hg2 (by omega))
  have DB := Lib.hid (below_gby CB.out hg2 hWw CB.out.size)
  clear hc2 hg2 C0 C1 C2 CB n0 n1 n2
  go_wp2_with fail
  refine (must_y (by simp; omega) 9 _).mono ?_
  rintro e w1 ⟨rfl, rfl⟩
  have FS := frame_size (n : Int)
  rw [if_neg (by omega)] at FS
  have FS := Lib.hid FS
  have hwn : IntKind.i64.wrap (n : Int) = (n : Int) := by rw [IntKind.wrap_i64]; omega
  have x1 := D1.out.cell (i := 0) rfl
  have y1 := D1.out.free 0
  go_wp2_with (go_at_call 67; refine (FS.out _).mono ?_; rintro e w1 ⟨rfl, rfl⟩)
  have E0 := Lib.hid (D0.out.far (a := ⟨w.heap.size + 1, 0, none⟩) (by simp) (.int .i64 ((n : Int) + 7)))
  have E1 := Lib.hid (show Blk _ _ #[.int .i64 ((n : Int) + 7)] _ from D1.out.set 0 (.int .i64 ((n : Int) + 7)))
  have E2 := Lib.hid (D2.out.far (a := ⟨w.heap.size + 1, 0, none⟩) (by simp) (.int .i64 ((n : Int) + 7)))
  have EB := Lib.hid (DB.out.setCell (p := ⟨w.heap.size + 1, 0, none⟩) (by simp) (.int .i64 ((n : Int) + 7)))
  refine (must_n (by simp; omega) 3 _).mono ?_
  rintro e w1 ⟨rfl, rfl⟩
  go_wp2_with fail
  exact door_panic _ _ 0 3 rfl rfl rfl E0.out E1.out E2.out EB.out
end Go.Proofs.YtcibeiehdjekiaaGreatDoor

/-! FrameWhole -/
namespace Go.Proofs.YtcibeiehdjekiaaGreatDoor
open Go.RowKit
set_option linter.unusedVariables false
set_option linter.unusedSimpArgs false

theorem Blk.set1 {w : World} {b : Nat} {x : Value} {t : TypeId} (h : Blk w b #[x] t) (v : Value) : Blk (w.setCell ⟨b, 0, none⟩ v) b #[v] t := h.set 0 v
/-- The door, behind a return: what the results' variables hold is handed back. -/
theorem door_ret {w w1 : World} {T : Array Value} (x : ByteArray) (y z : Int)
    (t2 : T.getD 2 undef = .pointer (some ⟨w.heap.size, 0, none⟩)) (t3 : T.getD 3 undef = .pointer (some ⟨w.heap.size + 1, 0, none⟩)) (t4 : T.getD 4 undef = .pointer (some ⟨w.heap.size + 1 + 1, 0, none⟩))
    (h0 : Blk w1 w.heap.size #[.string x] 9) (h1 : Blk w1 (w.heap.size + 1) #[.int .i64 y] 3) (h2 : Blk w1 (w.heap.size + 1 + 1) #[.int .i64 z] 27) (hb : Below w.heap.size w w1) :
    bodyPostD Tryz.prog Tryz.f43 (fun en w' => en = .returned (.tuple #[.string x, .int .i64 y, .int .i64 z]) ∧ Below w.heap.size w w') Exit.ret
      { tmps := T, defers := [{ target := Target.fn (Fn.func 64) #[.pointer (some ⟨w.heap.size, 0, none⟩), .pointer (some ⟨w.heap.size + 1, 0, none⟩), .pointer (some ⟨w.heap.size + 1 + 1, 0, none⟩)], args := #[] }] } w1 := by
  refine leaves_cons (f := 64) (args := #[.pointer (some ⟨w.heap.size, 0, none⟩), .pointer (some ⟨w.heap.size + 1, 0, none⟩), .pointer (some ⟨w.heap.size + 1 + 1, 0, none⟩)]) (by simp) (by simp [go_sem]) ?_
  refine (catch_idle _ _ _ _).mono ?_
  rintro en u' w'' ⟨rfl, rfl, rfl⟩
  have k0 := h0.cell (i := 0) (v := .string x) rfl
  have k1 := h1.cell (i := 0) (v := .int .i64 y) rfl
  have k2 := h2.cell (i := 0) (v := .int .i64 z) rfl
  have t2' : T[2]?.getD undef = .pointer (some ⟨w.heap.size, 0, none⟩) := by simpa using t2
  have t3' : T[3]?.getD undef = .pointer (some ⟨w.heap.size + 1, 0, none⟩) := by simpa using t3
  have t4' : T[4]?.getD undef = .pointer (some ⟨w.heap.size + 1 + 1, 0, none⟩) := by simpa using t4
  simp [Leaves, settle, results, Tryz.results43, go_sem, t2', t3', t4', k0, k1, k2, hb]

set_option maxRecDepth 100000 in
set_option maxHeartbeats 1600000 in
theorem open_whole (s : ByteArray) (hs : s.size ≤ maxLen) (h0 : 0 < s.size) (hx : Lib.hasPrefix s.data.toList [82] = true) (h3 : 3 ≤ s.size) (n : Nat) (hn : Oct.numFrom 0 ((rest (s.extract 1 3) 0).take 2) = n) (hn2 : n ≤ 200) (hcut : n + 7 ≤ s.size) (hsum : s.extract (n + 3) (n + 7) = sumB (s.extract 1 (n + 3))) (w : World) : Calls Tryz.prog 43 #[.string s] w fun e w' => e = .returned (.tuple #[.string (s.extract 3 (n + 3)), .int .i64 ((n : Int) + 7), .int .i64 0]) ∧ Below w.heap.size w w' := by
  have hmf : ∀ (fn : Fn) (first cap : Array Value) (w : World), (Instr.makeFunc fn first cap).run Tryz.prog w = .ok (.func fn first cap) w := fun _ _ _ _ => rfl
  obtain ⟨b0, b1, b2, bb⟩ := three_new w
  have B0 := Lib.hid b0
  have B1 := Lib.hid b1
  have B2 := Lib.hid b2
  have BB := Lib.hid bb
  clear b0 b1 b2 bb
  have hs63 : s.size ≤ 9223372036854775807 := by unfold maxLen at hs; omega
  have HP := fun w => Tryz.strings_HasPrefix s ⟨#[82]⟩ w
  change ∀ w, Calls _ _ _ _ fun e w' => e = .returned (.bool (Lib.hasPrefix s.data.toList [82])) ∧ _ at HP
  rw [hx] at HP
  have HP := Lib.hid HP
  have hne : (!s.toList.isEmpty) = true := not_empty h0
  clear hx
  go_enter_defers Tryz.func43, Tryz.ntmps43
  go_wp2_with fail
  refine (must_yes 3 _).mono ?_
  rintro e w1 ⟨rfl, rfl⟩
  go_wp2_with fail
  refine (HP.out _).mono ?_
  rintro e w1 ⟨rfl, rfl⟩
  go_wp2_with fail
  refine (must_yes 2 _).mono ?_
  rintro e w1 ⟨rfl, rfl⟩
  go_wp2_with fail
  refine (must_y (by simp; omega) 3 _).mono ?_
  rintro e w1 ⟨rfl, rfl⟩
  have k1 : (3 : Int) ≤ (s.size : Int) := by omega
  go_wp2_with fail
  refine (octet_new _ _).mono ?_
  rintro e w1 ⟨rfl, hc1, hb1, hz1⟩
  have C0 := Lib.hid (B0.out.below hb1 B0.out.lt)
  have C1 := Lib.hid (B1.out.below hb1 B1.out.lt)
  have C2 := Lib.hid (B2.out.below hb1 B2.out.lt)
  have CB := Lib.hid (BB.out.trans (hb1.mono BB.out.size))
  have hez : (s.extract 1 3).size = 2 := by rw [ByteArray.size_extract]; omega
  have n0 := B0.out.lt
  have n1 := B1.out.lt
  have n2 := B2.out.lt
  obtain ⟨W, hW⟩ : ∃ W, W = ((w.alloc (.cells #[.string ⟨#[]⟩] 9)).alloc (.cells #[.int .i64 0] 3)).alloc (.cells #[.int .i64 0] 27) := ⟨_, rfl⟩
  rw [← hW] at hc1 hb1 n0 n1 n2 ⊢
  have CF := cur_fixed W.heap.size (s.extract 1 3) 0 2 (by rw [hez]; decide) (by rw [hez]; decide) (by decide) (by decide) w1 hc1
  rw [hn] at CF
  have CF := Lib.hid CF
  have hWw : w.heap.size ≤ W.heap.size := by omega
  clear hc1 hb1 hz1 hez hn B0 B1 B2 BB hW
  go_wp2_with fail
  refine CF.out.mono ?_
  rintro e w2 ⟨rfl, hc2, hg2⟩
  have D0 := Lib.hid (C0.out.gby hg2 (by omega))
  have D1 := Lib.hid (C1.out.gby hg2 (by omega))
  have D2 := Lib.hid (C2.out.gby hg2 (by omega))
  have DB := Lib.hid (below_gby CB.out hg2 hWw CB.out.size)
  clear hc2 hg2 C0 C1 C2 CB n0 n1 n2
  go_wp2_with fail
  refine (must_y (by simp; omega) 9 _).mono ?_
  rintro e w1 ⟨rfl, rfl⟩
  have FS := frame_size (n : Int)
  rw [if_neg (by omega)] at FS
  have FS := Lib.hid FS
  have hwn : IntKind.i64.wrap (n : Int) = (n : Int) := by rw [IntKind.wrap_i64]; omega
  have x1 := D1.out.cell (i := 0) rfl
  have y1 := D1.out.free 0
  go_wp2_with (go_at_call 67; refine (FS.out _).mono ?_; rintro e w1 ⟨rfl, rfl⟩)
  have E0 := Lib.hid (D0.out.far (a := ⟨w.heap.size + 1, 0, none⟩) (by simp) (.int .i64 ((n : Int) + 7)))
  have E1 := Lib.hid (show Blk _ _ #[.int .i64 ((n : Int) + 7)] _ from D1.out.set 0 (.int .i64 ((n : Int) + 7)))
  have E2 := Lib.hid (D2.out.far (a := ⟨w.heap.size + 1, 0, none⟩) (by simp) (.int .i64 ((n : Int) + 7)))
  have EB := Lib.hid (DB.out.setCell (p := ⟨w.heap.size + 1, 0, none⟩) (by simp) (.int .i64 ((n : Int) + 7)))
  obtain ⟨w3, hw3⟩ : ∃ w3, w3 = w2.setCell ⟨w.heap.size + 1, 0, none⟩ (.int .i64 ((n : Int) + 7)) := ⟨_, rfl⟩
  rw [← hw3]
  have E0 : Hid (Blk w3 _ _ _) := hw3 ▸ E0
  have E1 : Hid (Blk w3 _ _ _) := hw3 ▸ E1
  have E2 : Hid (Blk w3 _ _ _) := hw3 ▸ E2
  have EB : Hid (Below _ w w3) := hw3 ▸ EB
  clear hw3 x1 y1
  refine (must_y (by simp; omega) 3 _).mono ?_
  rintro e w1 ⟨rfl, rfl⟩
  have x0 := E0.out.cell (i := 0) rfl
  have x1 := E1.out.cell (i := 0) rfl
  have y0 := E0.out.free 0
  have hw7 : (n : Int) + 7 - 4 = (n : Int) + 3 := by omega
  have hk0 : (3 : Int) ≤ (n : Int) + 3 := by omega
  have hk1 : (n : Int) + 3 ≤ (s.size : Int) := by omega
  go_upto_region 10 with fail
  have F0 := Lib.hid (show Blk _ _ #[.string (s.extract 3 (n + 3))] _ from E0.out.set 0 (.string (s.extract 3 (n + 3))))
  have F1 := Lib.hid (E1.out.far (a := ⟨w.heap.size, 0, none⟩) (by simp) (.string (s.extract 3 (n + 3))))
  have F2 := Lib.hid (E2.out.far (a := ⟨w.heap.size, 0, none⟩) (by first | (simp; done) | (simp; omega)) (.string (s.extract 3 (n + 3))))
  have FB := Lib.hid (EB.out.setCell (p := ⟨w.heap.size, 0, none⟩) (Nat.le_refl _) (.string (s.extract 3 (n + 3))))
  obtain ⟨w4, hw4⟩ : ∃ w4, w4 = w3.setCell ⟨w.heap.size, 0, none⟩ (.string (s.extract 3 (n + 3))) := ⟨_, rfl⟩
  rw [← hw4]
  have F0 : Hid (Blk w4 _ _ _) := hw4 ▸ F0
  have F1 : Hid (Blk w4 _ _ _) := hw4 ▸ F1
  have F2 : Hid (Blk w4 _ _ _) := hw4 ▸ F2
  have FB : Hid (Below _ w w4) := hw4 ▸ FB
  clear hw4 x0 x1 y0 E0 E1 E2 EB
  have x0 := F0.out.cell (i := 0) rfl
  have x1 := F1.out.cell (i := 0) rfl
  have hk2 : (0 : Int) ≤ (n : Int) + 3 := by omega
  have hk3 : (n : Int) + 3 ≤ (n : Int) + 7 := by omega
  have hk4 : (n : Int) + 7 ≤ (s.size : Int) := by omega
  have hq : ((s.extract (n + 3) (n + 7)).toList == (sumB (s.extract 1 (n + 3))).toList) = true := by rw [hsum]; simp
  clear hsum
  have hwr : IntKind.i64.wrap ((n : Int) + 7 - 4) = (n : Int) + 3 := by rw [IntKind.wrap_i64]; omega
  have ht1 : ((n : Int) + 3).toNat = n + 3 := by omega
  have ht2 : ((n : Int) + 7).toNat = n + 7 := by omega
  clear hw7
  have z1 : (s.extract 1 3).size ≤ 1000 := by rw [ByteArray.size_extract]; omega
  have z2 : (s.extract 3 (n + 3)).size ≤ 1000 := by rw [ByteArray.size_extract]; omega
  have hnb : Blk (w4.alloc (.cells #[.string (s.extract 1 3), .string (s.extract 3 (n + 3))] 9)).drew w4.heap.size #[.string (s.extract 1 3), .string (s.extract 3 (n + 3))] 9 := (Blk.new w4 _ _).drew
  have hd0 := hnb.cell (i := 0) rfl
  have hd1 := hnb.cell (i := 1) rfl
  have hd2 := hnb.lt
  clear hnb
  go_region_held3 (fun w' => w'.cell? ⟨w.heap.size, 0, none⟩ = some (.string (s.extract 3 (n + 3))) ∧ w'.cell? ⟨w.heap.size + 1, 0, none⟩ = some (.int .i64 ((n : Int) + 7)))
    ((first | exact ⟨F0.out.drew.cell (i := 0) rfl, F1.out.drew.cell (i := 0) rfl⟩ | exact ⟨(F0.out.alloc _).drew.cell (i := 0) rfl, (F1.out.alloc _).drew.cell (i := 0) rfl⟩ | exact ⟨Blk.cell G0.out (i := 0) rfl, Blk.cell G1.out (i := 0) rfl⟩))
    ((first
      | (go_at_call 53; refine (frame_sum w4.heap.size 2 (s.extract 1 3) (s.extract 3 (n + 3)) _ hd0 hd1 hd2 (by decide) z1 z2).mono ?_; rintro e w5 ⟨rfl, hb5⟩; have G0 := Lib.hid ((F0.out.alloc _).drew.below hb5 (by have := F0.out.lt; simp; omega)); have G1 := Lib.hid ((F1.out.alloc _).drew.below hb5 (by have := F1.out.lt; simp; omega)); have G2 := Lib.hid ((F2.out.alloc _).drew.below hb5 (by have := F2.out.lt; simp; omega)); have GB := Lib.hid ((FB.out.alloc FB.out.size _).drew.trans (hb5.mono (by have := FB.out.size; simp; omega))))
      | (go_at_call 65; refine (must_yes 4 _).mono ?_; rintro e w6 ⟨rfl, rfl⟩)))
  have a0 := Blk.cell G0.out (i := 0) rfl
  have a1 := Blk.cell G1.out (i := 0) rfl
  have a2 := Blk.cell G2.out (i := 0) rfl
  have f0 := Blk.free G0.out 0
  have f1 := Blk.free G1.out 0
  have f2 := Blk.free G2.out 0
  clear x0 x1 hd0 hd1 hd2
  go_wp2_with fail
  go_region
  all_goals
    go_wp2_with fail
    refine door_ret (s.extract 3 (n + 3)) ((n : Int) + 7) 0 rfl rfl rfl ?_ ?_ ?_ ?_
    · repeat (first | exact G0.out | refine Blk.drew ?_ | refine Blk.set1 (x := .string (s.extract 3 (n + 3))) ?_ _ | refine Blk.far ?_ (by first | (simp; done) | (simp; omega)) _)
    · repeat (first | exact G1.out | refine Blk.drew ?_ | refine Blk.set1 (x := .int .i64 ((n : Int) + 7)) ?_ _ | refine Blk.far ?_ (by first | (simp; done) | (simp; omega)) _)
    · repeat (first | exact G2.out | refine Blk.drew ?_ | refine Blk.set1 (x := .int .i64 0) ?_ _ | refine Blk.far ?_ (by first | (simp; done) | (simp; omega)) _)
    · repeat (first | exact GB.out | refine Below.drew ?_ | refine Below.setCell ?_ (by first | (simp; done) | (simp; omega)) _)
end Go.Proofs.YtcibeiehdjekiaaGreatDoor

/-! FrameSum -/
namespace Go.Proofs.YtcibeiehdjekiaaGreatDoor
open Go.RowKit
set_option linter.unusedVariables false
set_option linter.unusedSimpArgs false

theorem tl_ne' {a b : ByteArray} (h : a ≠ b) : (a.toList == b.toList) = false := by
  rw [ByteArray.toList_eq, ByteArray.toList_eq, beq_eq_false_iff_ne]
  intro e
  exact h (ByteArray.ext (Array.ext' e))
/-- What the panic of a sum that is another leaves: the named results' addresses stand where they stood, and the closure is deferred. -/
def SumPost (w : World) (x : Value) (y : Int) : Exit → Act → World → Prop
  | .panic c, a, w' => c = [{ v := .iface 27 (.int .i64 4), recovered := false }] ∧
      (a.tmps.getD 2 undef = .pointer (some ⟨w.heap.size, 0, none⟩) ∧ a.tmps.getD 3 undef = .pointer (some ⟨w.heap.size + 1, 0, none⟩) ∧ a.tmps.getD 4 undef = .pointer (some ⟨w.heap.size + 1 + 1, 0, none⟩)) ∧
      a.defers = [{ target := Target.fn (Fn.func 64) #[.pointer (some ⟨w.heap.size, 0, none⟩), .pointer (some ⟨w.heap.size + 1, 0, none⟩), .pointer (some ⟨w.heap.size + 1 + 1, 0, none⟩)], args := #[] }] ∧
      Blk w' w.heap.size #[x] 9 ∧ Blk w' (w.heap.size + 1) #[.int .i64 y] 3 ∧ Blk w' (w.heap.size + 1 + 1) #[.int .i64 0] 27 ∧ Below w.heap.size w w'
  | _, _, _ => False
theorem SumPost.put {W : World} {x : Value} {y : Int} {d : Nat} (hd : 5 ≤ d) (v : Value) (c : List PanicEntry) (a : Act) (w : World) (h : SumPost W x y (.panic c) (a.put (some d) v) w) : SumPost W x y (.panic c) a w := by
  obtain ⟨h0, ⟨h2, h3, h4⟩, h5, h6⟩ := h
  refine ⟨h0, ⟨?_, ?_, ?_⟩, h5, h6⟩
  · rw [← h2]; simp only [Act.put, Array.getD_eq_getD_getElem?]; rw [Array.getElem?_setIfInBounds_ne (by omega)]
  · rw [← h3]; simp only [Act.put, Array.getD_eq_getD_getElem?]; rw [Array.getElem?_setIfInBounds_ne (by omega)]
  · rw [← h4]; simp only [Act.put, Array.getD_eq_getD_getElem?]; rw [Array.getElem?_setIfInBounds_ne (by omega)]
theorem SumPost.imp {w : World} {x : Value} {y : Int} {K : Act → World → Prop} : ∀ (e : Exit) (a : Act) (w' : World), SumPost w x y e a w' → Exit.then K (bodyPostD Tryz.prog Tryz.f43 (fun en w' => en = .returned (.tuple #[.string ⟨#[]⟩, .int .i64 0, .int .i64 4]) ∧ Below w.heap.size w w')) e a w' := by
  intro e a w' h
  cases e with
  | panic c =>
    obtain ⟨rfl, ⟨h2, h3, h4⟩, h5, h6, h7, h8, h9⟩ := h
    obtain ⟨T, D⟩ := a
    cases h5
    exact door_panic x y 0 4 h2 h3 h4 h6 h7 h8 h9
  | _ => exact (h : False).elim
set_option maxRecDepth 100000 in
set_option maxHeartbeats 1600000 in
theorem open_sum (s : ByteArray) (hs : s.size ≤ maxLen) (h0 : 0 < s.size) (hx : Lib.hasPrefix s.data.toList [82] = true) (h3 : 3 ≤ s.size) (n : Nat) (hn : Oct.numFrom 0 ((rest (s.extract 1 3) 0).take 2) = n) (hn2 : n ≤ 200) (hcut : n + 7 ≤ s.size) (hsum : s.extract (n + 3) (n + 7) ≠ sumB (s.extract 1 (n + 3))) (w : World) : Calls Tryz.prog 43 #[.string s] w fun e w' => e = .returned (.tuple #[.string ⟨#[]⟩, .int .i64 0, .int .i64 4]) ∧ Below w.heap.size w w' := by
  have hmf : ∀ (fn : Fn) (first cap : Array Value) (w : World), (Instr.makeFunc fn first cap).run Tryz.prog w = .ok (.func fn first cap) w := fun _ _ _ _ => rfl
  obtain ⟨b0, b1, b2, bb⟩ := three_new w
  have B0 := Lib.hid b0
  have B1 := Lib.hid b1
  have B2 := Lib.hid b2
  have BB := Lib.hid bb
  clear b0 b1 b2 bb
  have hs63 : s.size ≤ 9223372036854775807 := by unfold maxLen at hs; omega
  have HP := fun w => Tryz.strings_HasPrefix s ⟨#[82]⟩ w
  change ∀ w, Calls _ _ _ _ fun e w' => e = .returned (.bool (Lib.hasPrefix s.data.toList [82])) ∧ _ at HP
  rw [hx] at HP
  have HP := Lib.hid HP
  have hne : (!s.toList.isEmpty) = true := not_empty h0
  clear hx
  go_enter_defers Tryz.func43, Tryz.ntmps43
  go_wp2_with fail
  refine (must_yes 3 _).mono ?_
  rintro e w1 ⟨rfl, rfl⟩
  go_wp2_with fail
  refine (HP.out _).mono ?_
  rintro e w1 ⟨rfl, rfl⟩
  go_wp2_with fail
  refine (must_yes 2 _).mono ?_
  rintro e w1 ⟨rfl, rfl⟩
  go_wp2_with fail
  refine (must_y (by simp; omega) 3 _).mono ?_
  rintro e w1 ⟨rfl, rfl⟩
  have k1 : (3 : Int) ≤ (s.size : Int) := by omega
  go_wp2_with fail
  refine (octet_new _ _).mono ?_
  rintro e w1 ⟨rfl, hc1, hb1, hz1⟩
  have C0 := Lib.hid (B0.out.below hb1 B0.out.lt)
  have C1 := Lib.hid (B1.out.below hb1 B1.out.lt)
  have C2 := Lib.hid (B2.out.below hb1 B2.out.lt)
  have CB := Lib.hid (BB.out.trans (hb1.mono BB.out.size))
  have hez : (s.extract 1 3).size = 2 := by rw [ByteArray.size_extract]; omega
  have n0 := B0.out.lt
  have n1 := B1.out.lt
  have n2 := B2.out.lt
  obtain ⟨W, hW⟩ : ∃ W, W = ((w.alloc (.cells #[.string ⟨#[]⟩] 9)).alloc (.cells #[.int .i64 0] 3)).alloc (.cells #[.int .i64 0] 27) := ⟨_, rfl⟩
  rw [← hW] at hc1 hb1 n0 n1 n2 ⊢
  have CF := cur_fixed W.heap.size (s.extract 1 3) 0 2 (by rw [hez]; decide) (by rw [hez]; decide) (by decide) (by decide) w1 hc1
  rw [hn] at CF
  have CF := Lib.hid CF
  have hWw : w.heap.size ≤ W.heap.size := by omega
  clear hc1 hb1 hz1 hez hn B0 B1 B2 BB hW
  go_wp2_with fail
  refine CF.out.mono ?_
  rintro e w2 ⟨rfl, hc2, hg2⟩
  have D0 := Lib.hid (C0.out.gby hg2 (by omega))
  have D1 := Lib.hid (C1.out.gby hg2 (by omega))
  have D2 := Lib.hid (C2.out.gby hg2 (by omega))
  have DB := Lib.hid (below_gby CB.out hg2 hWw CB.out.size)
  clear hc2 hg2 C0 C1 C2 CB n0 n1 n2
  go_wp2_with fail
  refine (must_y (by simp; omega) 9 _).mono ?_
  rintro e w1 ⟨rfl, rfl⟩
  have FS := frame_size (n : Int)
  rw [if_neg (by omega)] at FS
  have FS := Lib.hid FS
  have hwn : IntKind.i64.wrap (n : Int) = (n : Int) := by rw [IntKind.wrap_i64]; omega
  have x1 := D1.out.cell (i := 0) rfl
  have y1 := D1.out.free 0
  go_wp2_with (go_at_call 67; refine (FS.out _).mono ?_; rintro e w1 ⟨rfl, rfl⟩)
  have E0 := Lib.hid (D0.out.far (a := ⟨w.heap.size + 1, 0, none⟩) (by simp) (.int .i64 ((n : Int) + 7)))
  have E1 := Lib.hid (show Blk _ _ #[.int .i64 ((n : Int) + 7)] _ from D1.out.set 0 (.int .i64 ((n : Int) + 7)))
  have E2 := Lib.hid (D2.out.far (a := ⟨w.heap.size + 1, 0, none⟩) (by simp) (.int .i64 ((n : Int) + 7)))
  have EB := Lib.hid (DB.out.setCell (p := ⟨w.heap.size + 1, 0, none⟩) (by simp) (.int .i64 ((n : Int) + 7)))
  obtain ⟨w3, hw3⟩ : ∃ w3, w3 = w2.setCell ⟨w.heap.size + 1, 0, none⟩ (.int .i64 ((n : Int) + 7)) := ⟨_, rfl⟩
  rw [← hw3]
  have E0 : Hid (Blk w3 _ _ _) := hw3 ▸ E0
  have E1 : Hid (Blk w3 _ _ _) := hw3 ▸ E1
  have E2 : Hid (Blk w3 _ _ _) := hw3 ▸ E2
  have EB : Hid (Below _ w w3) := hw3 ▸ EB
  clear hw3 x1 y1
  refine (must_y (by simp; omega) 3 _).mono ?_
  rintro e w1 ⟨rfl, rfl⟩
  have x0 := E0.out.cell (i := 0) rfl
  have x1 := E1.out.cell (i := 0) rfl
  have y0 := E0.out.free 0
  have hw7 : (n : Int) + 7 - 4 = (n : Int) + 3 := by omega
  have hk0 : (3 : Int) ≤ (n : Int) + 3 := by omega
  have hk1 : (n : Int) + 3 ≤ (s.size : Int) := by omega
  go_upto_region 10 with fail
  have F0 := Lib.hid (show Blk _ _ #[.string (s.extract 3 (n + 3))] _ from E0.out.set 0 (.string (s.extract 3 (n + 3))))
  have F1 := Lib.hid (E1.out.far (a := ⟨w.heap.size, 0, none⟩) (by simp) (.string (s.extract 3 (n + 3))))
  have F2 := Lib.hid (E2.out.far (a := ⟨w.heap.size, 0, none⟩) (by first | (simp; done) | (simp; omega)) (.string (s.extract 3 (n + 3))))
  have FB := Lib.hid (EB.out.setCell (p := ⟨w.heap.size, 0, none⟩) (Nat.le_refl _) (.string (s.extract 3 (n + 3))))
  obtain ⟨w4, hw4⟩ : ∃ w4, w4 = w3.setCell ⟨w.heap.size, 0, none⟩ (.string (s.extract 3 (n + 3))) := ⟨_, rfl⟩
  rw [← hw4]
  have F0 : Hid (Blk w4 _ _ _) := hw4 ▸ F0
  have F1 : Hid (Blk w4 _ _ _) := hw4 ▸ F1
  have F2 : Hid (Blk w4 _ _ _) := hw4 ▸ F2
  have FB : Hid (Below _ w w4) := hw4 ▸ FB
  clear hw4 x0 x1 y0 E0 E1 E2 EB
  have x0 := F0.out.cell (i := 0) rfl
  have x1 := F1.out.cell (i := 0) rfl
  have hk2 : (0 : Int) ≤ (n : Int) + 3 := by omega
  have hk3 : (n : Int) + 3 ≤ (n : Int) + 7 := by omega
  have hk4 : (n : Int) + 7 ≤ (s.size : Int) := by omega
  have hq : ((s.extract (n + 3) (n + 7)).toList == (sumB (s.extract 1 (n + 3))).toList) = false := tl_ne' hsum
  clear hsum
  have hwr : IntKind.i64.wrap ((n : Int) + 7 - 4) = (n : Int) + 3 := by rw [IntKind.wrap_i64]; omega
  have ht1 : ((n : Int) + 3).toNat = n + 3 := by omega
  have ht2 : ((n : Int) + 7).toNat = n + 7 := by omega
  clear hw7
  have z1 : (s.extract 1 3).size ≤ 1000 := by rw [ByteArray.size_extract]; omega
  have z2 : (s.extract 3 (n + 3)).size ≤ 1000 := by rw [ByteArray.size_extract]; omega
  have hnb : Blk (w4.alloc (.cells #[.string (s.extract 1 3), .string (s.extract 3 (n + 3))] 9)).drew w4.heap.size #[.string (s.extract 1 3), .string (s.extract 3 (n + 3))] 9 := (Blk.new w4 _ _).drew
  have hd0 := hnb.cell (i := 0) rfl
  have hd1 := hnb.cell (i := 1) rfl
  have hd2 := hnb.lt
  clear hnb
  refine Code.wp_mono (SumPost.imp (w := w) (x := .string (s.extract 3 (n + 3))) (y := (n : Int) + 7)) ?_
  refine wp_region_held_drew (S := fun w' => w'.cell? ⟨w.heap.size, 0, none⟩ = some (.string (s.extract 3 (n + 3))) ∧ w'.cell? ⟨w.heap.size + 1, 0, none⟩ = some (.int .i64 ((n : Int) + 7))) (by kernel_rfl) ⟨F0.out.drew.cell (i := 0) rfl, F1.out.drew.cell (i := 0) rfl⟩ (fun hHeld => ?_)
  refine wpAnyH_take (i := 0) (oi := ({ dst := some 40, op := Op.move (Operand.tmp 0), type := 9, pos := "frame.go:67", after := #[], guard := none })) (v := (.string s)) rfl (by kernel_rfl) (by kernel_rfl) (by kernel_rfl) (SumPost.put (d := 40) (by decide) _) (Or.inl ⟨by rfl, ?_⟩) (by assumption) ?_
  · (intro w hSw; (try dsimp only at hSw); go_simp)
  try simp only [Act.put, List.setIfInBounds_toArray, List.set_cons_zero, List.set_cons_succ]
  refine wpAnyH_take (i := 1) (oi := ({ dst := some 41, op := Op.load 3 (Operand.tmp 3), type := 3, pos := "frame.go:67", after := #[], guard := none })) (v := (.int .i64 ((n : Int) + 7))) rfl (by kernel_rfl) (by kernel_rfl) (by kernel_rfl) (SumPost.put (d := 41) (by decide) _) (Or.inl ⟨by rfl, ?_⟩) (by assumption) ?_
  · (intro w hSw; (try dsimp only at hSw); go_simp)
  try simp only [Act.put, List.setIfInBounds_toArray, List.set_cons_zero, List.set_cons_succ]
  refine wpAnyH_take (i := 2) (oi := ({ dst := some 42, op := Op.binOp BinOp.sub 3 (Operand.tmp 41) (Operand.const (Value.int IntKind.i64 4)) 3, type := 3, pos := "frame.go:67", after := #[{ on := 1, ground := Ground.data }], guard := none })) (v := (.int .i64 ((n : Int) + 3))) rfl (by kernel_rfl) (by kernel_rfl) (by kernel_rfl) (SumPost.put (d := 42) (by decide) _) (Or.inl ⟨by rfl, ?_⟩) (by assumption) ?_
  · (intro w hSw; (try dsimp only at hSw); go_simp)
  try simp only [Act.put, List.setIfInBounds_toArray, List.set_cons_zero, List.set_cons_succ]
  refine wpAnyH_take (i := 3) (oi := ({ dst := some 43, op := Op.load 3 (Operand.tmp 3), type := 3, pos := "frame.go:67", after := #[], guard := none })) (v := (.int .i64 ((n : Int) + 7))) rfl (by kernel_rfl) (by kernel_rfl) (by kernel_rfl) (SumPost.put (d := 43) (by decide) _) (Or.inl ⟨by rfl, ?_⟩) (by assumption) ?_
  · (intro w hSw; (try dsimp only at hSw); go_simp)
  try simp only [Act.put, List.setIfInBounds_toArray, List.set_cons_zero, List.set_cons_succ]
  refine wpAnyH_take (i := 4) (oi := ({ dst := some 44, op := Op.slice 9 (Operand.tmp 40) (some (Operand.tmp 42)) (some (Operand.tmp 43)) none, type := 9, pos := "frame.go:67", after := #[{ on := 0, ground := Ground.data }, { on := 2, ground := Ground.data }, { on := 3, ground := Ground.data }], guard := none })) (v := (.string (s.extract (n + 3) (n + 7)))) rfl (by kernel_rfl) (by kernel_rfl) (by kernel_rfl) (SumPost.put (d := 44) (by decide) _) (Or.inl ⟨by rfl, ?_⟩) (by assumption) ?_
  · (intro w hSw; (try dsimp only at hSw); go_simp)
  try simp only [Act.put, List.setIfInBounds_toArray, List.set_cons_zero, List.set_cons_succ]
  refine wpAnyH_take (i := 5) (oi := ({ dst := some 45, op := Op.move (Operand.tmp 0), type := 9, pos := "frame.go:67", after := #[], guard := none })) (v := (.string s)) rfl (by kernel_rfl) (by kernel_rfl) (by kernel_rfl) (SumPost.put (d := 45) (by decide) _) (Or.inl ⟨by rfl, ?_⟩) (by assumption) ?_
  · (intro w hSw; (try dsimp only at hSw); go_simp)
  try simp only [Act.put, List.setIfInBounds_toArray, List.set_cons_zero, List.set_cons_succ]
  refine wpAnyH_take (i := 6) (oi := ({ dst := some 46, op := Op.slice 9 (Operand.tmp 45) (some (Operand.const (Value.int IntKind.i64 1))) (some (Operand.const (Value.int IntKind.i64 3))) none, type := 9, pos := "frame.go:67", after := #[{ on := 5, ground := Ground.data }], guard := none })) (v := (.string (s.extract 1 3))) rfl (by kernel_rfl) (by kernel_rfl) (by kernel_rfl) (SumPost.put (d := 46) (by decide) _) (Or.inl ⟨by rfl, ?_⟩) (by assumption) ?_
  · (intro w hSw; (try dsimp only at hSw); go_simp)
  try simp only [Act.put, List.setIfInBounds_toArray, List.set_cons_zero, List.set_cons_succ]
  refine wpAnyH_take (i := 7) (oi := ({ dst := some 47, op := Op.load 9 (Operand.tmp 2), type := 9, pos := "frame.go:67", after := #[], guard := none })) (v := (.string (s.extract 3 (n + 3)))) rfl (by kernel_rfl) (by kernel_rfl) (by kernel_rfl) (SumPost.put (d := 47) (by decide) _) (Or.inl ⟨by rfl, ?_⟩) (by assumption) ?_
  · (intro w hSw; (try dsimp only at hSw); go_simp)
  try simp only [Act.put, List.setIfInBounds_toArray, List.set_cons_zero, List.set_cons_succ]
  refine wpAnyH_ready (rs := [8]) (by kernel_rfl) (by simp) (AllReadyH.cons (o := ({ dst := some 48, op := Op.buildSlice 97 2 #[(0, Operand.tmp 46), (1, Operand.tmp 47)], type := 97, pos := "frame.go:67", after := #[{ on := 6, ground := Ground.data }, { on := 7, ground := Ground.data }], guard := none })) rfl (fun K hK => ?_) AllReadyH.nil)
  go_simp
  refine hK.out _ _ ⟨(F0.out.alloc _).drew.cell (i := 0) rfl, (F1.out.alloc _).drew.cell (i := 0) rfl⟩ (fun hHeld => ?_)
  clear hK K
  refine wpAnyH_ready (rs := [9]) (by kernel_rfl) (by simp) (AllReadyH.cons (o := ({ dst := some 49, op := Op.call { callee := Callee.value (Operand.func 53), args := #[Operand.tmp 48], argTypes := #[97] }, type := 9, pos := "frame.go:67", after := #[{ on := 8, ground := Ground.data }], guard := none })) rfl (fun K hK => ?_) AllReadyH.nil)
  go_simp
  refine (frame_sum w4.heap.size 2 (s.extract 1 3) (s.extract 3 (n + 3)) _ hd0 hd1 hd2 (by decide) z1 z2).mono ?_
  rintro e w5 ⟨rfl, hb5⟩
  have G0 := Lib.hid ((F0.out.alloc _).drew.below hb5 (by have := F0.out.lt; simp; omega))
  have G1 := Lib.hid ((F1.out.alloc _).drew.below hb5 (by have := F1.out.lt; simp; omega))
  have G2 := Lib.hid ((F2.out.alloc _).drew.below hb5 (by have := F2.out.lt; simp; omega))
  have GB := Lib.hid ((FB.out.alloc FB.out.size _).drew.trans (hb5.mono (by have := FB.out.size; simp; omega)))
  clear hb5
  go_wp2_with fail
  refine hK.out _ _ ⟨G0.out.cell (i := 0) rfl, G1.out.cell (i := 0) rfl⟩ (fun hHeld => ?_)
  clear hK K
  refine wpAnyH_take (i := 10) (oi := ({ dst := some 50, op := Op.binOp BinOp.eql 9 (Operand.tmp 44) (Operand.tmp 49) 9, type := 4, pos := "frame.go:67", after := #[{ on := 4, ground := Ground.data }, { on := 9, ground := Ground.data }], guard := none })) (v := (.bool false)) rfl (by kernel_rfl) (by kernel_rfl) (by kernel_rfl) (SumPost.put (d := 50) (by decide) _) (Or.inl ⟨by rfl, ?_⟩) (by assumption) ?_
  · (intro w hSw; (try dsimp only at hSw); go_simp)
  try simp only [Act.put, List.setIfInBounds_toArray, List.set_cons_zero, List.set_cons_succ]
  refine wpAnyH_ready (rs := [11]) (by kernel_rfl) (by simp) (AllReadyH.cons (o := ({ dst := some 51, op := Op.call { callee := Callee.value (Operand.func 65), args := #[Operand.tmp 50, Operand.const (Value.int IntKind.i64 4)], argTypes := #[4, 27] }, type := 0, pos := "frame.go:67", after := #[{ on := 10, ground := Ground.data }, { on := 9, ground := Ground.chain }], guard := none })) rfl (fun K hK => ?_) AllReadyH.nil)
  go_simp
  refine (must_no 4 _).mono ?_
  rintro e w6 ⟨rfl, rfl⟩
  go_wp2_with fail
  exact ⟨rfl, ⟨rfl, rfl, rfl⟩, rfl, G0.out, G1.out, G2.out, GB.out⟩
end Go.Proofs.YtcibeiehdjekiaaGreatDoor

/-! FrameLaw -/
namespace Go.Proofs.YtcibeiehdjekiaaGreatDoor
open Go.RowKit
set_option linter.unusedVariables false
set_option linter.unusedSimpArgs false

/-- The length that a frame tells. -/
def openN (s : ByteArray) : Nat := Oct.numFrom 0 ((rest (s.extract 1 3) 0).take 2)
/-- The body of the frame with which bytes begin, how many bytes it has, and the error. -/
def openF (s : ByteArray) : ByteArray × Nat × Int :=
  if s.size = 0 then (⟨#[]⟩, 0, 3)
  else if Lib.hasPrefix s.data.toList [82] = false then (⟨#[]⟩, 0, 2)
  else if s.size < 3 then (⟨#[]⟩, 0, 3)
  else if 200 < openN s then (⟨#[]⟩, 0, 9)
  else if s.size < openN s + 7 then (⟨#[]⟩, 0, 3)
  else if s.extract (openN s + 3) (openN s + 7) = sumB (s.extract 1 (openN s + 3)) then (s.extract 3 (openN s + 3), openN s + 7, 0)
  else (⟨#[]⟩, 0, 4)
theorem openF_cases (s : ByteArray) : (∃ e : Int, 0 < e ∧ e ≤ 9 ∧ openF s = (⟨#[]⟩, 0, e)) ∨ (openF s = (s.extract 3 (openN s + 3), openN s + 7, 0) ∧ openN s ≤ 200 ∧ openN s + 7 ≤ s.size) := by
  unfold openF
  by_cases h1 : s.size = 0
  · rw [if_pos h1]; exact .inl ⟨_, by decide, by decide, rfl⟩
  rw [if_neg h1]
  by_cases h2 : Lib.hasPrefix s.data.toList [82] = false
  · rw [if_pos h2]; exact .inl ⟨_, by decide, by decide, rfl⟩
  rw [if_neg h2]
  by_cases h3 : s.size < 3
  · rw [if_pos h3]; exact .inl ⟨_, by decide, by decide, rfl⟩
  rw [if_neg h3]
  by_cases h4 : 200 < openN s
  · rw [if_pos h4]; exact .inl ⟨_, by decide, by decide, rfl⟩
  rw [if_neg h4]
  by_cases h5 : s.size < openN s + 7
  · rw [if_pos h5]; exact .inl ⟨_, by decide, by decide, rfl⟩
  rw [if_neg h5]
  by_cases h6 : s.extract (openN s + 3) (openN s + 7) = sumB (s.extract 1 (openN s + 3))
  · rw [if_pos h6]; exact .inr ⟨rfl, by omega, by omega⟩
  · rw [if_neg h6]; exact .inl ⟨_, by decide, by decide, rfl⟩
theorem openF_ok {s : ByteArray} (h : (openF s).2.2 = 0) : 7 ≤ (openF s).2.1 ∧ (openF s).2.1 ≤ s.size ∧ (openF s).2.1 ≤ 207 ∧ (openF s).1.size + 7 = (openF s).2.1 := by
  rcases openF_cases s with ⟨e, he, _, h1⟩ | ⟨h1, h2, h3⟩
  · rw [h1] at h; have h : e = 0 := h; omega
  · rw [h1]
    refine ⟨by simp, by simpa using h3, by simp; omega, ?_⟩
    show (s.extract 3 (openN s + 3)).size + 7 = openN s + 7
    rw [ByteArray.size_extract]; omega
theorem openF_errno (s : ByteArray) : 0 ≤ (openF s).2.2 ∧ (openF s).2.2 ≤ 9 := by
  rcases openF_cases s with ⟨e, he, h9, h1⟩ | ⟨h1, h2, h3⟩
  · rw [h1]; exact ⟨by simp; omega, by simpa using h9⟩
  · rw [h1]; exact ⟨by simp, by simp⟩

theorem frame_open (s : ByteArray) (hs : s.size ≤ maxLen) (w : World) : Calls Tryz.prog 43 #[.string s] w fun e w' => e = .returned (.tuple #[.string (openF s).1, .int .i64 (openF s).2.1, .int .i64 (openF s).2.2]) ∧ Below w.heap.size w w' := by
  unfold openF
  by_cases h1 : s.size = 0
  · rw [if_pos h1]
    have e : s = ⟨#[]⟩ := ByteArray.ext (Array.eq_empty_of_size_eq_zero h1)
    subst e
    refine (open_empty w).mono ?_
    rintro e w' ⟨rfl, hb⟩
    exact ⟨rfl, hb⟩
  rw [if_neg h1]
  by_cases h2 : Lib.hasPrefix s.data.toList [82] = false
  · rw [if_pos h2]
    refine (open_form s hs (by omega) h2 w).mono ?_
    rintro e w' ⟨rfl, hb⟩
    exact ⟨rfl, hb⟩
  rw [if_neg h2]
  have h2 : Lib.hasPrefix s.data.toList [82] = true := by simpa using h2
  by_cases h3 : s.size < 3
  · rw [if_pos h3]
    refine (open_short s hs (by omega) h2 h3 w).mono ?_
    rintro e w' ⟨rfl, hb⟩
    exact ⟨rfl, hb⟩
  rw [if_neg h3]
  by_cases h4 : 200 < openN s
  · rw [if_pos h4]
    refine (open_many s hs (by omega) h2 (by omega) (openN s) rfl h4 w).mono ?_
    rintro e w' ⟨rfl, hb⟩
    exact ⟨rfl, hb⟩
  rw [if_neg h4]
  by_cases h5 : s.size < openN s + 7
  · rw [if_pos h5]
    refine (open_cut s hs (by omega) h2 (by omega) (openN s) rfl (by omega) h5 w).mono ?_
    rintro e w' ⟨rfl, hb⟩
    exact ⟨rfl, hb⟩
  rw [if_neg h5]
  by_cases h6 : s.extract (openN s + 3) (openN s + 7) = sumB (s.extract 1 (openN s + 3))
  · rw [if_pos h6]
    refine (open_whole s hs (by omega) h2 (by omega) (openN s) rfl (by omega) (by omega) h6 w).mono ?_
    rintro e w' ⟨rfl, hb⟩
    exact ⟨rfl, hb⟩
  · rw [if_neg h6]
    refine (open_sum s hs (by omega) h2 (by omega) (openN s) rfl (by omega) (by omega) h6 w).mono ?_
    rintro e w' ⟨rfl, hb⟩
    exact ⟨rfl, hb⟩

/-- All bodies from a place on, and where they end. -/
def allG (s : ByteArray) (k : Nat) : List ByteArray × Nat :=
  if h : (openF (s.extract k s.size)).2.2 = 0 then
    ((openF (s.extract k s.size)).1 :: (allG s (k + (openF (s.extract k s.size)).2.1)).1, (allG s (k + (openF (s.extract k s.size)).2.1)).2)
  else ([], k)
termination_by s.size - k
decreasing_by
  all_goals
    have := openF_ok h
    have hz : (s.extract k s.size).size = min s.size s.size - k := ByteArray.size_extract
    omega
theorem allG_ok {s : ByteArray} {k : Nat} (h : (openF (s.extract k s.size)).2.2 = 0) : allG s k = ((openF (s.extract k s.size)).1 :: (allG s (k + (openF (s.extract k s.size)).2.1)).1, (allG s (k + (openF (s.extract k s.size)).2.1)).2) := by rw [allG, dif_pos h]
theorem allG_no {s : ByteArray} {k : Nat} (h : (openF (s.extract k s.size)).2.2 ≠ 0) : allG s k = ([], k) := by rw [allG, dif_neg h]
theorem allG_end (s : ByteArray) : allG s s.size = ([], s.size) := by
  apply allG_no
  have hz : (s.extract s.size s.size).size = 0 := by rw [ByteArray.size_extract]; omega
  unfold openF
  rw [if_pos hz]; decide

/-- The head of a frame, byte for byte. -/
theorem openN_eq (s : ByteArray) (h : 3 ≤ s.size) : openN s = s[1].toNat * 256 + s[2].toNat := by
  obtain ⟨⟨l⟩⟩ := s
  match l, h with
  | a :: b :: c :: t, h =>
    show Oct.numFrom 0 _ = b.toNat * 256 + c.toNat
    simp [rest, Oct.numFrom]
theorem prefix_eq (s : ByteArray) (h : 0 < s.size) : Lib.hasPrefix s.data.toList [82] = (s[0].toNat == 82) := by
  obtain ⟨⟨l⟩⟩ := s
  match l, h with
  | a :: t, h =>
    show List.isPrefixOf [82] (a :: t) = (a.toNat == 82)
    have e : ((82 : UInt8) == a) = (a.toNat == 82) := by
      rw [Bool.eq_iff_iff, beq_iff_eq, beq_iff_eq]
      exact ⟨fun e => by rw [← e]; rfl, fun e => by apply UInt8.toNat.inj; rw [e]; rfl⟩
    simp [List.isPrefixOf, e]
theorem ext_add (s : ByteArray) (a b c : Nat) (h1 : a ≤ b) (h2 : b ≤ c) : s.extract a b ++ s.extract b c = s.extract a c := by
  rw [ByteArray.extract_append_extract, Nat.min_eq_left h1, Nat.max_eq_right h2]
theorem ext13 (s : ByteArray) (h : 3 ≤ s.size) : s.extract 1 3 = str [s[1], s[2]] := by
  obtain ⟨⟨l⟩⟩ := s
  match l, h with
  | a :: b :: c :: t, h => 
    apply ByteArray.ext
    apply Array.ext'
    rw [ByteArray.data_extract, Array.toList_extract, List.extract_eq_take_drop]
    rfl
theorem ext01 (s : ByteArray) (h : Lib.hasPrefix s.data.toList [82] = true) : str [82] = s.extract 0 1 := by
  obtain ⟨t, ht⟩ := List.isPrefixOf_iff_prefix.1 h
  apply ByteArray.ext
  apply Array.ext'
  rw [ByteArray.data_extract, Array.toList_extract, List.extract_eq_take_drop, ← ht]
  rfl
theorem fix_two (b c : UInt8) : Oct.fixB (b.toNat * 256 + c.toNat) 2 = [b, c] := by
  have hb := b.toNat_lt
  have hc := c.toNat_lt
  rw [Oct.fixB_cons, Oct.fixB_cons]
  have i1 : UInt8.ofNat ((b.toNat * 256 + c.toNat) / 256 ^ 1 % 256) = b := by
    apply UInt8.toNat.inj; rw [UInt8.toNat_ofNat']; omega
  have i2 : UInt8.ofNat ((b.toNat * 256 + c.toNat) / 256 ^ 0 % 256) = c := by
    apply UInt8.toNat.inj; rw [UInt8.toNat_ofNat']; omega
  rw [i1, i2]
  rfl
theorem seal_eq (s : ByteArray) (hx : Lib.hasPrefix s.data.toList [82] = true) (h3 : 3 ≤ s.size) (hcut : openN s + 7 ≤ s.size) :
    (sealB (s.extract 3 (openN s + 3)) = s.extract 0 (openN s + 7)) ↔ s.extract (openN s + 3) (openN s + 7) = sumB (s.extract 1 (openN s + 3)) := by
  have hN := openN_eq s h3
  have e0 := ext01 s hx
  have hbs : (s.extract 3 (openN s + 3)).size = openN s := by rw [ByteArray.size_extract]; omega
  have e1 : longB (s.extract 3 (openN s + 3)) = s.extract 1 3 := by
    unfold longB
    rw [hbs, hN, ext13 s h3, fix_two]
  unfold sealB
  rw [e1, ext_add s 1 3 (openN s + 3) (by omega) (by omega), e0, ← ByteArray.append_assoc, ext_add s 0 1 (openN s + 3) (by omega) (by omega), ← ext_add s 0 (openN s + 3) (openN s + 7) (by omega) (by omega)]
  constructor
  · intro h
    exact (ByteArray.append_right_inj _ |>.1 h).symm
  · intro h; rw [h]
end Go.Proofs.YtcibeiehdjekiaaGreatDoor

/-! FrameRef -/
namespace Go.Proofs.YtcibeiehdjekiaaGreatDoor
open Go.RowKit
set_option linter.unusedVariables false
set_option linter.unusedSimpArgs false

theorem below_drewN (w : World) (n : Nat) : Below w.heap.size w (w.drewN n) := ⟨rfl, rfl, rfl, Nat.le_refl _, fun _ _ => rfl⟩
theorem str_add (a b : ByteArray) : (⟨a.data ++ b.data⟩ : ByteArray) = a ++ b := by apply ByteArray.ext; simp
theorem ref04_seal_many (body : ByteArray) (h : 200 < body.size) (hs : body.size ≤ maxLen) (w : World) :
    Calls Tryz.prog 30 #[.string body] w fun e w' => e = .returned (.tuple #[.string ⟨#[]⟩, .int .i64 9]) ∧ w = w' := by
  have h' : (200 : Int) < (body.size : Int) := by omega
  unfold maxLen at hs
  go_enter Tryz.func30, Tryz.ntmps30
  go_wp2
  go_ret2
  exact ⟨rfl, rfl⟩
theorem ref04_seal (body : ByteArray) (h : body.size ≤ 200) (w : World) :
    Calls Tryz.prog 30 #[.string body] w fun e w' => e = .returned (.tuple #[.string (sealB body), .int .i64 0]) ∧ Below w.heap.size w w' := by
  have h' : (body.size : Int) ≤ 200 := by omega
  have hz := longB_size body
  have OF := ref02_fixed body.size 2 (by omega) (by decide) (by decide)
  change ∀ w, Calls _ _ _ _ fun e w' => e = .returned (.string (longB body)) ∧ _ at OF
  obtain ⟨lg, hlg⟩ : ∃ lg, longB body = lg := ⟨_, rfl⟩
  unfold sealB sumB
  rw [hlg] at OF hz ⊢
  have OF := Lib.hid OF
  have hsz : (lg ++ body).size ≤ 300 := by rw [ByteArray.size_append]; omega
  have RS := ref03_sum (lg ++ body) (by unfold maxLen; omega)
  have hml : (Crc.more 0 (bts (lg ++ body))) < 4294967296 := Crc.more_lt _ _
  obtain ⟨m, hm⟩ : ∃ m, Crc.more 0 (bts (lg ++ body)) = m := ⟨_, rfl⟩
  rw [hm] at RS hml ⊢
  have OF2 := Lib.hid (ref02_fixed m 4 (by omega) (by decide) (by decide))
  have RSH := Lib.hid RS
  have HMI := Lib.hid hml
  clear RS
  have hs1 : lg.size + body.size ≤ 9223372036854775807 := by omega
  have hs2 : (⟨#[82]⟩ : ByteArray).size + (lg ++ body).size ≤ 9223372036854775807 := by show 1 + (lg ++ body).size ≤ _; omega
  have hs3 : ((⟨#[82]⟩ : ByteArray) ++ (lg ++ body)).size + (str (Oct.fixB m 4)).size ≤ 9223372036854775807 := by
    rw [str_size, Oct.fixB_length, ByteArray.size_append]; show 1 + (lg ++ body).size + 4 ≤ _; omega
  have hs4 : 1 + (lg.size + body.size) ≤ 9223372036854775807 := by rw [ByteArray.size_append] at hsz; omega
  have hs5 : 1 + (lg.size + body.size) + 4 ≤ 9223372036854775807 := by rw [ByteArray.size_append] at hsz; omega
  clear hlg hm hsz hz hml
  go_enter Tryz.func30, Tryz.ntmps30
  go_wp2_with fail
  refine (OF.out _).mono ?_
  rintro e w1 ⟨rfl, hb1⟩
  have HB1 := Lib.hid hb1
  clear hb1
  go_wp2_with fail
  refine (RSH.out _).mono ?_
  rintro e w2 ⟨rfl, rfl⟩
  have hmI : (m : Int) < 4294967296 := by have := HMI.out; omega
  go_wp2_with fail
  refine (OF2.out _).mono ?_
  rintro e w3 ⟨rfl, hb3⟩
  go_wp2_with fail
  go_ret2
  refine ⟨?_, HB1.out.trans (hb3.mono HB1.out.size)⟩
  rw [← ByteArray.append_assoc]
  rfl

theorem refopen_empty (w : World) : Calls Tryz.prog 48 #[.string ⟨#[]⟩] w fun e w' => e = .returned (.tuple #[.string ⟨#[]⟩, .int .i64 0, .int .i64 3]) ∧ Below w.heap.size w w' := by
  go_enter Tryz.func48, Tryz.ntmps48
  go_wp2_with fail
  go_ret3
  exact ⟨rfl, Below.refl _ _⟩
theorem refopen_form (s : ByteArray) (hs : s.size ≤ maxLen) (h0 : 0 < s.size) (hx : s[0].toNat ≠ 82) (w : World) : Calls Tryz.prog 48 #[.string s] w fun e w' => e = .returned (.tuple #[.string ⟨#[]⟩, .int .i64 0, .int .i64 2]) ∧ Below w.heap.size w w' := by
  have hs63 : s.size ≤ 9223372036854775807 := by unfold maxLen at hs; omega
  have k0 : (0 : Int) < (s.size : Int) := by omega
  have hnz : ¬ s.size = 0 := by omega
  obtain ⟨x, hg⟩ : ∃ x, s[0].toNat = x := ⟨_, rfl⟩
  rw [hg] at hx
  have hx2 : ¬ ((x : Int) = 82) := by omega
  clear hx
  go_enter Tryz.func48, Tryz.ntmps48
  go_wp2_with fail
  go_ret3
  exact ⟨rfl, Below.refl _ _⟩
theorem refopen_short (s : ByteArray) (hs : s.size ≤ maxLen) (h0 : 0 < s.size) (hx : s[0].toNat = 82) (h3 : s.size < 3) (w : World) : Calls Tryz.prog 48 #[.string s] w fun e w' => e = .returned (.tuple #[.string ⟨#[]⟩, .int .i64 0, .int .i64 3]) ∧ Below w.heap.size w w' := by
  have hs63 : s.size ≤ 9223372036854775807 := by unfold maxLen at hs; omega
  have k0 : (0 : Int) < (s.size : Int) := by omega
  have hnz : ¬ s.size = 0 := by omega
  have h3' : (s.size : Int) < 3 := by omega
  go_enter Tryz.func48, Tryz.ntmps48
  go_wp2_with fail
  go_ret3
  exact ⟨rfl, Below.refl _ _⟩
set_option maxRecDepth 100000 in
set_option maxHeartbeats 800000 in
theorem refopen_many (s : ByteArray) (hs : s.size ≤ maxLen) (h3 : 3 ≤ s.size) (hx : s[0].toNat = 82) (n : Nat) (hn : s[1].toNat * 256 + s[2].toNat = n) (h4 : 200 < n) (w : World) : Calls Tryz.prog 48 #[.string s] w fun e w' => e = .returned (.tuple #[.string ⟨#[]⟩, .int .i64 0, .int .i64 9]) ∧ Below w.heap.size w w' := by
  have hs63 : s.size ≤ 9223372036854775807 := by unfold maxLen at hs; omega
  have h0 : 0 < s.size := by omega
  have i1 : 1 < s.size := by omega
  have i2 : 2 < s.size := by omega
  replace hx : (s[0]'h0).toNat = 82 := hx
  have b1 := (s[1]'i1).toNat_lt
  have b2 := (s[2]'i2).toNat_lt
  obtain ⟨x, h1⟩ : ∃ x, (s[1]'i1).toNat = x := ⟨_, rfl⟩
  obtain ⟨y, h2⟩ : ∃ y, (s[2]'i2).toNat = y := ⟨_, rfl⟩
  replace hn : (s[1]'i1).toNat * 256 + (s[2]'i2).toNat = n := hn
  rw [h1] at hn b1
  rw [h2] at hn b2
  have k0 : (0 : Int) < (s.size : Int) := by omega
  have k1 : (1 : Int) < (s.size : Int) := by omega
  have k2 : (2 : Int) < (s.size : Int) := by omega
  have hnz : ¬ s.size = 0 := by omega
  have h3' : (3 : Int) ≤ (s.size : Int) := by omega
  have H3 := Lib.hid h3
  have HN := Lib.hid hn
  have BX := Lib.hid b1
  have BY := Lib.hid b2
  clear hn b1 b2 h3
  go_enter Tryz.func48, Tryz.ntmps48
  go_upto_region 7 with fail
  have b1 := BX.out
  have b2 := BY.out
  have hn := HN.out
  have w1 : IntKind.i64.wrap ((x : Int) * 256) = (x : Int) * 256 := by rw [IntKind.wrap_i64]; omega
  have w2 : IntKind.i64.wrap ((x : Int) * 256 + (y : Int)) = (n : Int) := by rw [IntKind.wrap_i64]; omega
  have w3 : IntKind.i64.wrap (x : Int) = (x : Int) := by rw [IntKind.wrap_i64]; omega
  have w4 : IntKind.i64.wrap (y : Int) = (y : Int) := by rw [IntKind.wrap_i64]; omega
  clear b1 b2 hn
  go_quiet (fail)
  clear w1 w2 w3 w4
  go_wp2_with fail
  go_ret3
  exact ⟨rfl, below_drewN _ _⟩
set_option maxRecDepth 100000 in
set_option maxHeartbeats 800000 in
theorem refopen_cut (s : ByteArray) (hs : s.size ≤ maxLen) (h3 : 3 ≤ s.size) (hx : s[0].toNat = 82) (n : Nat) (hn : s[1].toNat * 256 + s[2].toNat = n) (h4 : n ≤ 200) (h5 : s.size < n + 7) (w : World) : Calls Tryz.prog 48 #[.string s] w fun e w' => e = .returned (.tuple #[.string ⟨#[]⟩, .int .i64 0, .int .i64 3]) ∧ Below w.heap.size w w' := by
  have hs63 : s.size ≤ 9223372036854775807 := by unfold maxLen at hs; omega
  have h0 : 0 < s.size := by omega
  have i1 : 1 < s.size := by omega
  have i2 : 2 < s.size := by omega
  replace hx : (s[0]'h0).toNat = 82 := hx
  have b1 := (s[1]'i1).toNat_lt
  have b2 := (s[2]'i2).toNat_lt
  obtain ⟨x, h1⟩ : ∃ x, (s[1]'i1).toNat = x := ⟨_, rfl⟩
  obtain ⟨y, h2⟩ : ∃ y, (s[2]'i2).toNat = y := ⟨_, rfl⟩
  replace hn : (s[1]'i1).toNat * 256 + (s[2]'i2).toNat = n := hn
  rw [h1] at hn b1
  rw [h2] at hn b2
  have k0 : (0 : Int) < (s.size : Int) := by omega
  have k1 : (1 : Int) < (s.size : Int) := by omega
  have k2 : (2 : Int) < (s.size : Int) := by omega
  have hnz : ¬ s.size = 0 := by omega
  have h3' : (3 : Int) ≤ (s.size : Int) := by omega
  have H3 := Lib.hid h3
  have HN := Lib.hid hn
  have BX := Lib.hid b1
  have BY := Lib.hid b2
  clear hn b1 b2 h3
  go_enter Tryz.func48, Tryz.ntmps48
  go_upto_region 7 with fail
  have b1 := BX.out
  have b2 := BY.out
  have hn := HN.out
  have w1 : IntKind.i64.wrap ((x : Int) * 256) = (x : Int) * 256 := by rw [IntKind.wrap_i64]; omega
  have w2 : IntKind.i64.wrap ((x : Int) * 256 + (y : Int)) = (n : Int) := by rw [IntKind.wrap_i64]; omega
  have w3 : IntKind.i64.wrap (x : Int) = (x : Int) := by rw [IntKind.wrap_i64]; omega
  have w4 : IntKind.i64.wrap (y : Int) = (y : Int) := by rw [IntKind.wrap_i64]; omega
  clear b1 b2 hn
  go_quiet (fail)
  clear w1 w2 w3 w4
  have h6 : (s.size : Int) < (n : Int) + 7 := by omega
  go_wp2_with fail
  go_ret3
  exact ⟨rfl, below_drewN _ _⟩
set_option maxRecDepth 100000 in
set_option maxHeartbeats 800000 in
theorem refopen_whole (s : ByteArray) (hs : s.size ≤ maxLen) (h3 : 3 ≤ s.size) (hx : s[0].toNat = 82) (n : Nat) (hn : s[1].toNat * 256 + s[2].toNat = n) (h4 : n ≤ 200) (h5 : n + 7 ≤ s.size) (hsum : sealB (s.extract 3 (n + 3)) = s.extract 0 (n + 7)) (w : World) : Calls Tryz.prog 48 #[.string s] w fun e w' => e = .returned (.tuple #[.string (s.extract 3 (n + 3)), .int .i64 ((n : Int) + 7), .int .i64 0]) ∧ Below w.heap.size w w' := by
  have hs63 : s.size ≤ 9223372036854775807 := by unfold maxLen at hs; omega
  have h0 : 0 < s.size := by omega
  have i1 : 1 < s.size := by omega
  have i2 : 2 < s.size := by omega
  replace hx : (s[0]'h0).toNat = 82 := hx
  have b1 := (s[1]'i1).toNat_lt
  have b2 := (s[2]'i2).toNat_lt
  obtain ⟨x, h1⟩ : ∃ x, (s[1]'i1).toNat = x := ⟨_, rfl⟩
  obtain ⟨y, h2⟩ : ∃ y, (s[2]'i2).toNat = y := ⟨_, rfl⟩
  replace hn : (s[1]'i1).toNat * 256 + (s[2]'i2).toNat = n := hn
  rw [h1] at hn b1
  rw [h2] at hn b2
  have k0 : (0 : Int) < (s.size : Int) := by omega
  have k1 : (1 : Int) < (s.size : Int) := by omega
  have k2 : (2 : Int) < (s.size : Int) := by omega
  have hnz : ¬ s.size = 0 := by omega
  have h3' : (3 : Int) ≤ (s.size : Int) := by omega
  have H3 := Lib.hid h3
  have HN := Lib.hid hn
  have BX := Lib.hid b1
  have BY := Lib.hid b2
  clear hn b1 b2 h3
  go_enter Tryz.func48, Tryz.ntmps48
  go_upto_region 7 with fail
  have b1 := BX.out
  have b2 := BY.out
  have hn := HN.out
  have w1 : IntKind.i64.wrap ((x : Int) * 256) = (x : Int) * 256 := by rw [IntKind.wrap_i64]; omega
  have w2 : IntKind.i64.wrap ((x : Int) * 256 + (y : Int)) = (n : Int) := by rw [IntKind.wrap_i64]; omega
  have w3 : IntKind.i64.wrap (x : Int) = (x : Int) := by rw [IntKind.wrap_i64]; omega
  have w4 : IntKind.i64.wrap (y : Int) = (y : Int) := by rw [IntKind.wrap_i64]; omega
  clear b1 b2 hn
  go_quiet (fail)
  clear w1 w2 w3 w4
  have SL := Lib.hid (ref04_seal (s.extract 3 (n + 3)) (by rw [ByteArray.size_extract]; omega))
  have h6 : (n : Int) + 7 ≤ (s.size : Int) := by omega
  have h7 : (n : Int) + 3 ≤ (s.size : Int) := by omega
  have h8 : (3 : Int) ≤ (n : Int) + 3 := by omega
  have h9 : (0 : Int) ≤ (n : Int) + 7 := by omega
  have hq : ((sealB (s.extract 3 (n + 3))).toList == (s.extract 0 (n + 7)).toList) = true := by rw [hsum]; simp
  clear hsum
  go_wp2_with fail
  refine (SL.out _).mono ?_
  rintro e w1 ⟨rfl, hb1⟩
  have HB := Lib.hid ((below_drewN w _).trans hb1)
  clear hb1
  go_wp2_with fail
  go_ret3
  exact ⟨rfl, HB.out⟩
set_option maxRecDepth 100000 in
set_option maxHeartbeats 800000 in
theorem refopen_sum (s : ByteArray) (hs : s.size ≤ maxLen) (h3 : 3 ≤ s.size) (hx : s[0].toNat = 82) (n : Nat) (hn : s[1].toNat * 256 + s[2].toNat = n) (h4 : n ≤ 200) (h5 : n + 7 ≤ s.size) (hsum : sealB (s.extract 3 (n + 3)) ≠ s.extract 0 (n + 7)) (w : World) : Calls Tryz.prog 48 #[.string s] w fun e w' => e = .returned (.tuple #[.string ⟨#[]⟩, .int .i64 0, .int .i64 4]) ∧ Below w.heap.size w w' := by
  have hs63 : s.size ≤ 9223372036854775807 := by unfold maxLen at hs; omega
  have h0 : 0 < s.size := by omega
  have i1 : 1 < s.size := by omega
  have i2 : 2 < s.size := by omega
  replace hx : (s[0]'h0).toNat = 82 := hx
  have b1 := (s[1]'i1).toNat_lt
  have b2 := (s[2]'i2).toNat_lt
  obtain ⟨x, h1⟩ : ∃ x, (s[1]'i1).toNat = x := ⟨_, rfl⟩
  obtain ⟨y, h2⟩ : ∃ y, (s[2]'i2).toNat = y := ⟨_, rfl⟩
  replace hn : (s[1]'i1).toNat * 256 + (s[2]'i2).toNat = n := hn
  rw [h1] at hn b1
  rw [h2] at hn b2
  have k0 : (0 : Int) < (s.size : Int) := by omega
  have k1 : (1 : Int) < (s.size : Int) := by omega
  have k2 : (2 : Int) < (s.size : Int) := by omega
  have hnz : ¬ s.size = 0 := by omega
  have h3' : (3 : Int) ≤ (s.size : Int) := by omega
  have H3 := Lib.hid h3
  have HN := Lib.hid hn
  have BX := Lib.hid b1
  have BY := Lib.hid b2
  clear hn b1 b2 h3
  go_enter Tryz.func48, Tryz.ntmps48
  go_upto_region 7 with fail
  have b1 := BX.out
  have b2 := BY.out
  have hn := HN.out
  have w1 : IntKind.i64.wrap ((x : Int) * 256) = (x : Int) * 256 := by rw [IntKind.wrap_i64]; omega
  have w2 : IntKind.i64.wrap ((x : Int) * 256 + (y : Int)) = (n : Int) := by rw [IntKind.wrap_i64]; omega
  have w3 : IntKind.i64.wrap (x : Int) = (x : Int) := by rw [IntKind.wrap_i64]; omega
  have w4 : IntKind.i64.wrap (y : Int) = (y : Int) := by rw [IntKind.wrap_i64]; omega
  clear b1 b2 hn
  go_quiet (fail)
  clear w1 w2 w3 w4
  have SL := Lib.hid (ref04_seal (s.extract 3 (n + 3)) (by rw [ByteArray.size_extract]; omega))
  have h6 : (n : Int) + 7 ≤ (s.size : Int) := by omega
  have h7 : (n : Int) + 3 ≤ (s.size : Int) := by omega
  have h8 : (3 : Int) ≤ (n : Int) + 3 := by omega
  have h9 : (0 : Int) ≤ (n : Int) + 7 := by omega
  have hq : ((sealB (s.extract 3 (n + 3))).toList == (s.extract 0 (n + 7)).toList) = false := tl_ne' hsum
  clear hsum
  go_wp2_with fail
  refine (SL.out _).mono ?_
  rintro e w1 ⟨rfl, hb1⟩
  have HB := Lib.hid ((below_drewN w _).trans hb1)
  clear hb1
  go_wp2_with fail
  go_ret3
  exact ⟨rfl, HB.out⟩

theorem ref04_open (s : ByteArray) (hs : s.size ≤ maxLen) (w : World) : Calls Tryz.prog 48 #[.string s] w fun e w' => e = .returned (.tuple #[.string (openF s).1, .int .i64 (openF s).2.1, .int .i64 (openF s).2.2]) ∧ Below w.heap.size w w' := by
  unfold openF
  by_cases h1 : s.size = 0
  · rw [if_pos h1]
    have e : s = ⟨#[]⟩ := ByteArray.ext (Array.eq_empty_of_size_eq_zero h1)
    subst e
    refine (refopen_empty w).mono ?_
    rintro e w' ⟨rfl, hb⟩
    exact ⟨rfl, hb⟩
  rw [if_neg h1]
  have hp := prefix_eq s (by omega)
  by_cases h2 : Lib.hasPrefix s.data.toList [82] = false
  · rw [if_pos h2]
    rw [hp] at h2
    refine (refopen_form s hs (by omega) (by simpa using h2) w).mono ?_
    rintro e w' ⟨rfl, hb⟩
    exact ⟨rfl, hb⟩
  rw [if_neg h2]
  have h2 : Lib.hasPrefix s.data.toList [82] = true := by simpa using h2
  have hx : s[0].toNat = 82 := by rw [h2] at hp; simpa using hp.symm
  by_cases h3 : s.size < 3
  · rw [if_pos h3]
    refine (refopen_short s hs (by omega) hx h3 w).mono ?_
    rintro e w' ⟨rfl, hb⟩
    exact ⟨rfl, hb⟩
  rw [if_neg h3]
  have hn := (openN_eq s (by omega)).symm
  by_cases h4 : 200 < openN s
  · rw [if_pos h4]
    refine (refopen_many s hs (by omega) hx (openN s) hn h4 w).mono ?_
    rintro e w' ⟨rfl, hb⟩
    exact ⟨rfl, hb⟩
  rw [if_neg h4]
  by_cases h5 : s.size < openN s + 7
  · rw [if_pos h5]
    refine (refopen_cut s hs (by omega) hx (openN s) hn (by omega) h5 w).mono ?_
    rintro e w' ⟨rfl, hb⟩
    exact ⟨rfl, hb⟩
  rw [if_neg h5]
  have hse := seal_eq s h2 (by omega) (by omega)
  by_cases h6 : s.extract (openN s + 3) (openN s + 7) = sumB (s.extract 1 (openN s + 3))
  · rw [if_pos h6]
    refine (refopen_whole s hs (by omega) hx (openN s) hn (by omega) (by omega) (hse.2 h6) w).mono ?_
    rintro e w' ⟨rfl, hb⟩
    exact ⟨rfl, hb⟩
  · rw [if_neg h6]
    refine (refopen_sum s hs (by omega) hx (openN s) hn (by omega) (by omega) (fun h => h6 (hse.1 h)) w).mono ?_
    rintro e w' ⟨rfl, hb⟩
    exact ⟨rfl, hb⟩
end Go.Proofs.YtcibeiehdjekiaaGreatDoor

/-! FrameSeal -/
namespace Go.Proofs.YtcibeiehdjekiaaGreatDoor
open Go.RowKit
set_option linter.unusedVariables false
set_option linter.unusedSimpArgs false

/-- A body in a frame, or the error. -/
def sealF (b : ByteArray) : ByteArray × Int := if 200 < b.size then (⟨#[]⟩, 9) else (sealB b, 0)
theorem frame_seal_any (b : ByteArray) (hs : b.size ≤ maxLen) (w : World) : Calls Tryz.prog 25 #[.string b] w fun e w' => e = .returned (.tuple #[.string (sealF b).1, .int .i64 (sealF b).2]) ∧ Below w.heap.size w w' := by
  unfold sealF
  by_cases h : 200 < b.size
  · rw [if_pos h]
    refine (frame_seal_many b h hs w).mono ?_
    rintro e w' ⟨rfl, rfl⟩
    exact ⟨rfl, Below.refl _ _⟩
  · rw [if_neg h]
    exact frame_seal b (by omega) w
theorem ref04_seal_any (b : ByteArray) (hs : b.size ≤ maxLen) (w : World) : Calls Tryz.prog 30 #[.string b] w fun e w' => e = .returned (.tuple #[.string (sealF b).1, .int .i64 (sealF b).2]) ∧ Below w.heap.size w w' := by
  unfold sealF
  by_cases h : 200 < b.size
  · rw [if_pos h]
    refine (ref04_seal_many b h hs w).mono ?_
    rintro e w' ⟨rfl, rfl⟩
    exact ⟨rfl, Below.refl _ _⟩
  · rw [if_neg h]
    exact ref04_seal b (by omega) w
end Go.Proofs.YtcibeiehdjekiaaGreatDoor
