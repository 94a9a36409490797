/-
  The reference of layer 4 (frames), as contracts: Seal and Open.
-/
import Derived.Test.YtokghlmffkboiaaFrameLaw
import Derived.BigQuiet
namespace Go.Proofs.Ytokghlmffkboiaa
open Go.RowKit
set_option linter.unusedVariables false
set_option linter.unusedSimpArgs false

theorem below_drewN (w : World) (n : Nat) : Below w.heap.size w (w.drewN n) := ⟨rfl, rfl, rfl, Nat.le_refl _, fun _ _ => rfl⟩
theorem str_add (a b : ByteArray) : (⟨a.data ++ b.data⟩ : ByteArray) = a ++ b := by apply ByteArray.ext; simp
end Go.Proofs.Ytokghlmffkboiaa
