/-
  What the putting functions of package octet compute (reeve's layer 2), and the reference's, as contracts.
-/
import Derived.Test.YtanihdpgblkeaaaDoorBuilder
import Derived.Test.YtanihdpgblkeaaaDoorOctetMath
import Derived.Laws.BytesArg
import Derived.Lib.ConvBytes
namespace Go.Proofs.YtanihdpgblkeaaaDoor
open Go.RowKit
set_option linter.unusedVariables false
set_option linter.unusedSimpArgs false

/-- A list of bytes as a text. -/
def str (l : List UInt8) : ByteArray := ⟨l.toArray⟩
theorem str_size (l : List UInt8) : (str l).size = l.length := by simp [str, ByteArray.size]
theorem str_list (l : List UInt8) : (str l).data.toList = l := by simp [str]
theorem str_append (a b : List UInt8) : str a ++ str b = str (a ++ b) := by
  apply ByteArray.ext
  simp [str]

theorem lies_own : Lies 91 2 0 := ⟨by decide, by kernel_rfl⟩

theorem str_nums (l : List UInt8) : strOfNums (l.map fun x => (x.toNat : Int)) = str l := by
  apply ByteArray.ext
  have : l.map ((fun n : Int => UInt8.ofNat n.toNat) ∘ fun x : UInt8 => (x.toNat : Int)) = l := by
    induction l with
    | nil => rfl
    | cons a r ih => rw [List.map_cons, ih]; simp
  simp [strOfNums, str, this]

/-- The cells of a block of bytes: so many are those of the list. -/
def Pre (cs : Array Value) (l : List UInt8) : Prop := ∀ j : Nat, j < l.length → cs[j]? = some (.int .u8 (l.getD j 0).toNat)
theorem Pre.push {cs : Array Value} {l : List UInt8} (h : Pre cs l) (hl : l.length < cs.size) (x : UInt8) : Pre (cs.setIfInBounds l.length (.int .u8 x.toNat)) (l ++ [x]) := by
  intro j hj
  by_cases hjl : j = l.length
  · subst hjl
    rw [Array.getElem?_setIfInBounds_self_of_lt hl]
    simp
  · have hjlt : j < l.length := by simp at hj; omega
    rw [Array.getElem?_setIfInBounds_ne (fun e => hjl e.symm), h j hjlt]
    simp [List.getElem?_append_left hjlt]

/-- The bytes of a block as a text. -/
theorem conv_pre (w : World) (b cap : Nat) (cs : Array Value) (T : TypeId) (hb : Blk w b cs T) (l : List UInt8) (h : Pre cs l) :
    (convert 89 9 (.slice (some ⟨b, 0, none⟩) l.length cap)).run Tryd.prog w = .ok (.string (str l)) w := by
  have := run_convert_bytes_arg (P := Tryd.prog) w 89 5 Tryd.underlying89 Tryd.underlying5 b 0 l.length cap (l.map fun x => (x.toNat : Int)) (by simp) (fun j hj => by
    rw [hb.cell (by rw [Nat.zero_add]; exact h j hj)]
    simp [List.getD_eq_getElem?_getD, List.getElem?_eq_getElem hj]) 9 Tryd.underlying9
  rw [str_nums] at this
  exact this

/-- A block's first byte as a text. -/
theorem conv_cell (x : Int) (h0 : 0 ≤ x) (h1 : x < 256) (w : World) (b cap : Nat) (hc : w.cell? ⟨b, 0, none⟩ = some (.int .u8 x)) :
    (convert 89 9 (.slice (some ⟨b, 0, none⟩) 1 cap)).run Tryd.prog w = .ok (.string (str [UInt8.ofNat x.toNat])) w := by
  have := run_convert_bytes_arg (P := Tryd.prog) w 89 5 Tryd.underlying89 Tryd.underlying5 b 0 1 cap [x] rfl (fun j hj => by
    obtain rfl : j = 0 := by omega
    exact hc) 9 Tryd.underlying9
  exact this

theorem below_new {w w1 : World} {v : Value} {t : TypeId} (hb : Below (w.alloc (.cells #[v] t)).drew.heap.size (w.alloc (.cells #[v] t)).drew w1) : w1.cell? ⟨w.heap.size, 0, none⟩ = some v :=
  keepB hb (by go_simp) (by simp)
theorem below_newB {w w1 : World} {v : Value} {t : TypeId} (hb : Below (w.alloc (.cells #[v] t)).drew.heap.size (w.alloc (.cells #[v] t)).drew w1) : Below w.heap.size w w1 :=
  (show Below w.heap.size w (w.alloc (.cells #[v] t)) by go_grown).trans ((below_undrew hb).mono (by simp))
/-- What the bytes of a number are, whatever the number and how many are asked for. -/
def fixAny (n : Nat) (k : Int) : List UInt8 := if k < 1 ∨ 8 < k then [] else Oct.fixB n k.toNat
def varAny (n : Int) : List UInt8 := if n < 0 then [] else Oct.varB n.toNat
end Go.Proofs.YtanihdpgblkeaaaDoor
