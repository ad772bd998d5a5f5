/- Walks of the laws' own functions on Message. -/
import Derived.Test.YtafihplbchofoaaData
import Derived.Test.YtafihplbchofoaaText
import Derived.StillTailTactics
namespace Go.Proofs.Ytafihplbchofoaa
open Go.ChangeShapes Go.WideShapes Go.ChangeAt Go.RowKit Go.Dt
set_option linter.unusedVariables false
set_option linter.unusedSimpArgs false

def Message.z (x : Message) : Nat := x.xText.size + x.xLikes.length
def Message.zs (l : List Message) : Nat := l.length + (l.map fun y => Message.z y).sum

theorem Message.dec (x y : Message) : decide (x = y) = (decide (x.xNumber = y.xNumber) && decide (x.xSender = y.xSender) && decide (x.xAt = y.xAt) && decide (x.xText = y.xText) && decide (x.xEdits = y.xEdits) && decide (x.xGone = y.xGone) && decide (x.xReply = y.xReply) && decide (x.xLikes = y.xLikes)) := by
  cases x; cases y
  simp only [Message.mk.injEq, Bool.decide_and, Bool.and_assoc]


def Message.zero : List D := [.int .i64 0, .int .i64 0, .int .i64 0, .str ByteArray.empty, .int .i64 0, .bool false, .int .i64 0, ints []]
theorem Message.zero_own (w : World) : OwL w Message.zero (Value.agg #[.int .i64 0, .int .i64 0, .int .i64 0, .string ByteArray.empty, .int .i64 0, .bool false, .int .i64 0, .slice none 0 0]).cells.toList (fun _ => False) := OwL.consP (Ow.I _ _) (OwL.consP (Ow.I _ _) (OwL.consP (Ow.I _ _) (OwL.consP (Ow.S _) (OwL.consP (Ow.I _ _) (OwL.consP (Ow.B _) (OwL.consP (Ow.I _ _) (OwL.consP (.emp _ _ _ _ (by simp)) (OwL.nil))))))))
theorem Message.inf : Inf Try.prog 99 (.agg #[.int .i64 0, .int .i64 0, .int .i64 0, .string ByteArray.empty, .int .i64 0, .bool false, .int .i64 0, .slice none 0 0]) 8 88 := by unfold Inf; kernel_rfl


end Go.Proofs.Ytafihplbchofoaa
