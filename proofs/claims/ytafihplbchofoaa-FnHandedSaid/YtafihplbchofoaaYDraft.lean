/- Walks of the laws' own functions on Draft. -/
import Derived.Test.YtafihplbchofoaaData
import Derived.Test.YtafihplbchofoaaText
import Derived.StillTailTactics
namespace Go.Proofs.Ytafihplbchofoaa
open Go.ChangeShapes Go.WideShapes Go.ChangeAt Go.RowKit Go.Dt
set_option linter.unusedVariables false
set_option linter.unusedSimpArgs false

def Draft.z (x : Draft) : Nat := x.xText.size
def Draft.zs (l : List Draft) : Nat := l.length + (l.map fun y => Draft.z y).sum

theorem Draft.dec (x y : Draft) : decide (x = y) = (decide (x.xSender = y.xSender) && decide (x.xAt = y.xAt) && decide (x.xText = y.xText)) := by
  cases x; cases y
  simp only [Draft.mk.injEq, Bool.decide_and, Bool.and_assoc]


def Draft.zero : List D := [.int .i64 0, .int .i64 0, .str ByteArray.empty]
theorem Draft.zero_own (w : World) : OwL w Draft.zero (Value.agg #[.int .i64 0, .int .i64 0, .string ByteArray.empty]).cells.toList (fun _ => False) := OwL.consP (Ow.I _ _) (OwL.consP (Ow.I _ _) (OwL.consP (Ow.S _) (OwL.nil)))
theorem Draft.inf : Inf Try.prog 35 (.agg #[.int .i64 0, .int .i64 0, .string ByteArray.empty]) 3 32 := by unfold Inf; kernel_rfl


end Go.Proofs.Ytafihplbchofoaa
