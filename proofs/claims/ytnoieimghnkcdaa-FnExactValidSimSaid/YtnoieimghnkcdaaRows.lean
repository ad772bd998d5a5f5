/-
  No cell of these rows narrows 'for every input' (looked for: loops, veiled, ifaces, maps, wideKeys, modest, calm, conditions, laid).
  DERIVED. THE GIVEN ROWS OF THIS SEAT. 3 by the template 'for every input the law returns true; each argument reads behind the call as it read before'; 0 by the template 'total and deterministic' (their statements: YtnoieimghnkcdaaTotals.lean).
  GIVEN WITH THE SEED: the statements are not yours to turn. If you find one false, say at which input.
  Laid BY PROGRAM, IN A SANDBOX (cutbox-rows.mjs): the forced cells as the released guide's own fill.sh prints them over the translation 9c4c478a59f0eabc… (all of the seat's roots in one cut). By AI agents, Wed Nov 11 2026. No macro, syntax, notation, axiom, sorry.
-/
import Derived.Test.YtnoieimghnkcdaaChecked
import GoSem.Claim
import GoSem.ClaimJoined
import GoSem.ClaimMapViews
import Derived.JoinedTies
import Derived.KernelRfl
namespace Go.Proofs.Ytnoieimghnkcdaa
/- THE CELL 'sum', in the pinned program and in every row, IS THE sha256 OF THE DUMP (.gsa) THAT YtnoieimghnkcdaaProg.lean LOADS. Nothing in Lean hashes anything: it is a label: what it is worth is what the hold of that sum in a sandbox is worth. -/
noncomputable def Try.pinned : Pinned := { name := "ytnoieimghnkcdaa", sum := "9c4c478a59f0eabc35018ca6d968dfdd75559db6033e078f089dca463033998c", checked := Try.checked }
namespace Rows
def none {H : Type} : Left H := { results := [], args := [] }

/-- 'laws.FnExactValidSim': WHATEVER THE INPUT: true; the input reads as it did. -/
def fnExactValidSimSpec : ChangeSpec := { name := "fnExactValidSim", fn := fun _ => fun
  | [d] => { results := [.lit (.bool true)], args := [d] }
  | _ => none }
def fnExactValidSimRow : OpenClaim := { program := "ytnoieimghnkcdaa", sum := "9c4c478a59f0eabc35018ca6d968dfdd75559db6033e078f089dca463033998c", func := "loop.example/g01202/laws.FnExactValidSim", spec := "fnExactValidSim", apart := false }
def FnExactValidSimSaid : Prop := fnExactValidSimRow.holds Try.pinned (OpenSpec.ofChange fnExactValidSimSpec)

/-- ITS FALSE NEIGHBOUR: 'it returns false'. Refute it at one input. -/
def fnExactValidSimWrong : ChangeSpec := { name := "fnExactValidSim", fn := fun _ => fun
  | [d] => { results := [.lit (.bool false)], args := [d] }
  | _ => none }
def FnExactValidSimWrongFalsely : Prop := fnExactValidSimRow.holds Try.pinned (OpenSpec.ofChange fnExactValidSimWrong)

/-- 'laws.FnExactIsReminder': WHATEVER THE INPUT: true; the input reads as it did. -/
def fnExactIsReminderSpec : ChangeSpec := { name := "fnExactIsReminder", fn := fun _ => fun
  | [d] => { results := [.lit (.bool true)], args := [d] }
  | _ => none }
def fnExactIsReminderRow : OpenClaim := { program := "ytnoieimghnkcdaa", sum := "9c4c478a59f0eabc35018ca6d968dfdd75559db6033e078f089dca463033998c", func := "loop.example/g01202/laws.FnExactIsReminder", spec := "fnExactIsReminder", apart := false }
def FnExactIsReminderSaid : Prop := fnExactIsReminderRow.holds Try.pinned (OpenSpec.ofChange fnExactIsReminderSpec)

/-- ITS FALSE NEIGHBOUR: 'it returns false'. Refute it at one input. -/
def fnExactIsReminderWrong : ChangeSpec := { name := "fnExactIsReminder", fn := fun _ => fun
  | [d] => { results := [.lit (.bool false)], args := [d] }
  | _ => none }
def FnExactIsReminderWrongFalsely : Prop := fnExactIsReminderRow.holds Try.pinned (OpenSpec.ofChange fnExactIsReminderWrong)

/-- 'laws.FnExactNextReminder': WHATEVER THE INPUT: true; the input reads as it did. -/
def fnExactNextReminderSpec : ChangeSpec := { name := "fnExactNextReminder", fn := fun _ => fun
  | [d] => { results := [.lit (.bool true)], args := [d] }
  | _ => none }
def fnExactNextReminderRow : OpenClaim := { program := "ytnoieimghnkcdaa", sum := "9c4c478a59f0eabc35018ca6d968dfdd75559db6033e078f089dca463033998c", func := "loop.example/g01202/laws.FnExactNextReminder", spec := "fnExactNextReminder", unfollowed := true, recurses := true, apart := false }
def FnExactNextReminderSaid : Prop := fnExactNextReminderRow.holds Try.pinned (OpenSpec.ofChange fnExactNextReminderSpec)

/-- ITS FALSE NEIGHBOUR: 'it returns false'. Refute it at one input. -/
def fnExactNextReminderWrong : ChangeSpec := { name := "fnExactNextReminder", fn := fun _ => fun
  | [d] => { results := [.lit (.bool false)], args := [d] }
  | _ => none }
def FnExactNextReminderWrongFalsely : Prop := fnExactNextReminderRow.holds Try.pinned (OpenSpec.ofChange fnExactNextReminderWrong)

/- THE SECOND FORM. 'bulk': how many values and letters a reading holds, each counted each time it is reached (what is shared counts as often as it is met; a slice's spare places count too). A statement '..UptoSaid' is the law's where the arguments, and the package variables that the reading takes, are together of bulk at most 1048576: NARROWER than '..Said'. Prove '..Said' where nothing that the law and all that it calls make is longer than what came in: it says more and counts as full. Else prove '..UptoSaid'. A law counts once. -/
mutual
def uptoBulk {H : Type} : DataW H → Nat
  | .lit (.string bytes) => bytes.length + 1
  | .lit _ => 1
  | .nil => 1
  | .ptr d => uptoBulk d + 1
  | .slice elems spare => uptoBulkAll elems + uptoBulkAll spare + 1
  | .agg parts => uptoBulkAll parts + 1
  | .iface _ d => uptoBulk d + 1
  | .map entries => uptoBulkEntries entries + 1
  | .held _ => 1
def uptoBulkAll {H : Type} : List (DataW H) → Nat
  | [] => 0
  | d :: r => uptoBulk d + uptoBulkAll r
def uptoBulkEntries {H : Type} : List (Lit × DataW H) → Nat
  | [] => 0
  | x :: r => uptoBulkEntry x + uptoBulkEntries r
def uptoBulkEntry {H : Type} : Lit × DataW H → Nat
  | (.string bytes, d) => bytes.length + uptoBulk d + 1
  | (_, d) => uptoBulk d + 1
 end
def uptoSmall : (H : Type) → List (DataW H) → Bool := fun _ ds => decide (uptoBulkAll ds ≤ 1048576)
def OpenSpec.upto (s : _root_.Go.ChangeSpec) : _root_.Go.OpenSpec := { _root_.Go.OpenSpec.ofChange s with cond := some uptoSmall }

/-- 'laws.FnExactValidSim', WHERE WHAT IT READS IS OF BULK AT MOST 1048576: true; the input reads as it did. -/
def fnExactValidSimUptoRow : OpenClaim := { program := "ytnoieimghnkcdaa", sum := "9c4c478a59f0eabc35018ca6d968dfdd75559db6033e078f089dca463033998c", func := "loop.example/g01202/laws.FnExactValidSim", spec := "fnExactValidSim", apart := false, narrowed := true }
def FnExactValidSimUptoSaid : Prop := fnExactValidSimUptoRow.holds Try.pinned (OpenSpec.upto fnExactValidSimSpec)

/-- 'laws.FnExactIsReminder', WHERE WHAT IT READS IS OF BULK AT MOST 1048576: true; the input reads as it did. -/
def fnExactIsReminderUptoRow : OpenClaim := { program := "ytnoieimghnkcdaa", sum := "9c4c478a59f0eabc35018ca6d968dfdd75559db6033e078f089dca463033998c", func := "loop.example/g01202/laws.FnExactIsReminder", spec := "fnExactIsReminder", apart := false, narrowed := true }
def FnExactIsReminderUptoSaid : Prop := fnExactIsReminderUptoRow.holds Try.pinned (OpenSpec.upto fnExactIsReminderSpec)

/-- 'laws.FnExactNextReminder', WHERE WHAT IT READS IS OF BULK AT MOST 1048576: true; the input reads as it did. -/
def fnExactNextReminderUptoRow : OpenClaim := { program := "ytnoieimghnkcdaa", sum := "9c4c478a59f0eabc35018ca6d968dfdd75559db6033e078f089dca463033998c", func := "loop.example/g01202/laws.FnExactNextReminder", spec := "fnExactNextReminder", unfollowed := true, recurses := true, apart := false, narrowed := true }
def FnExactNextReminderUptoSaid : Prop := fnExactNextReminderUptoRow.holds Try.pinned (OpenSpec.upto fnExactNextReminderSpec)

end Rows
end Go.Proofs.Ytnoieimghnkcdaa
