/- The walk of markText. -/
import Derived.Test.YtafihplbchofoaaInts
import Derived.Laws.BytesArg
import Derived.Deep.RegionHeld3
namespace Go.Proofs.Ytafihplbchofoaa
open Go.ChangeShapes Go.WideShapes Go.ChangeAt Go.RowKit Go.Dt
set_option linter.unusedVariables false
set_option linter.unusedSimpArgs false
def mdig : Nat → Int → ByteArray → ByteArray
  | 0, _, s => s
  | n + 1, r, s => if 0 < r then mdig n (r / 10) (strOfNums [48 + r % 10] ++ s) else s
def mtext (k : Int) : ByteArray := if k ≤ 0 then ⟨#[109, 48]⟩ else ⟨#[109]⟩ ++ mdig 64 k ByteArray.empty
theorem mdig_pos {n : Nat} {r : Int} {s : ByteArray} (h : 0 < r) (hn : r < 2 ^ n) : ∃ m, n = m + 1 ∧ mdig n r s = mdig m (r / 10) (strOfNums [48 + r % 10] ++ s) ∧ r / 10 < 2 ^ m := by
  cases n with
  | zero => simp at hn; omega
  | succ m => exact ⟨m, rfl, by simp [mdig, h], by rw [Int.pow_succ] at hn; omega⟩
theorem mdig_zero {n : Nat} {r : Int} {s : ByteArray} (h : ¬ 0 < r) : mdig n r s = s := by cases n <;> simp [mdig, h]
theorem below_drew1 (w : World) : Below w.heap.size w w.drew := ⟨rfl, rfl, rfl, Nat.le_refl _, fun _ _ => rfl⟩
theorem below_call {w0 w w1 : World} (h : Below w0.heap.size w0 w) (h1 : Below w.heap.size w w1) : Below w0.heap.size w0 w1 := h.trans (h1.mono h.size)
end Go.Proofs.Ytafihplbchofoaa
