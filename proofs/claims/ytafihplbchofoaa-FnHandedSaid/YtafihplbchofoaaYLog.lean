/- Walks of the laws' own functions on Log. -/
import Derived.Test.YtafihplbchofoaaData
import Derived.Test.YtafihplbchofoaaText
import Derived.Test.YtafihplbchofoaaYMessage
import Derived.StillTailTactics
namespace Go.Proofs.Ytafihplbchofoaa
open Go.ChangeShapes Go.WideShapes Go.ChangeAt Go.RowKit Go.Dt
set_option linter.unusedVariables false
set_option linter.unusedSimpArgs false

def Log.z (x : Log) : Nat := (Message.zs x.xMessages)
def Log.zs (l : List Log) : Nat := l.length + (l.map fun y => Log.z y).sum

theorem Log.dec (x y : Log) : decide (x = y) = (decide (x.xNext = y.xNext) && decide (x.xMessages = y.xMessages)) := by
  cases x; cases y
  simp only [Log.mk.injEq, Bool.decide_and, Bool.and_assoc]


def Log.zero : List D := [.int .i64 0, Message.s true []]
theorem Log.zero_own (w : World) : OwL w Log.zero (Value.agg #[.int .i64 0, .slice none 0 0]).cells.toList (fun _ => False) := OwL.consP (Ow.I _ _) (OwL.consP (.emp _ _ _ _ (by simp)) (OwL.nil))
theorem Log.inf : Inf Try.prog 26 (.agg #[.int .i64 0, .slice none 0 0]) 2 32 := by unfold Inf; kernel_rfl


end Go.Proofs.Ytafihplbchofoaa
