/- Walks of the laws' own functions on Hand. -/
import Derived.Test.YtafihplbchofoaaData
import Derived.Test.YtafihplbchofoaaText
import Derived.Test.YtafihplbchofoaaYLog
import Derived.Test.YtafihplbchofoaaYDraft
import Derived.StillTailTactics
namespace Go.Proofs.Ytafihplbchofoaa
open Go.ChangeShapes Go.WideShapes Go.ChangeAt Go.RowKit Go.Dt
set_option linter.unusedVariables false
set_option linter.unusedSimpArgs false

def Hand.z (x : Hand) : Nat := (Log.z x.xFrom) + (Log.z x.xTo) + (Draft.zs x.xWaiting)
def Hand.zs (l : List Hand) : Nat := l.length + (l.map fun y => Hand.z y).sum

theorem Hand.dec (x y : Hand) : decide (x = y) = (decide (x.xStage = y.xStage) && decide (x.xFrom = y.xFrom) && decide (x.xTo = y.xTo) && decide (x.xWaiting = y.xWaiting)) := by
  cases x; cases y
  simp only [Hand.mk.injEq, Bool.decide_and, Bool.and_assoc]




end Go.Proofs.Ytafihplbchofoaa
