/-
  No cell of these rows narrows 'for every input' (looked for: loops, veiled, ifaces, maps, wideKeys, modest, calm, conditions, laid).
  DERIVED. THE GIVEN ROWS OF THIS SEAT. 5 by the template 'for every input the law returns true; each argument reads behind the call as it read before'; 0 by the template 'total and deterministic' (their statements: YtafihplbchofoaaTotals.lean).
  GIVEN WITH THE SEED: the statements are not yours to turn. If you find one false, say at which input.
  Laid BY PROGRAM, IN A SANDBOX (cutbox-rows.mjs): the forced cells as the released guide's own fill.sh prints them over the translation 3b5a7876e8255e24… (all of the seat's roots in one cut). By AI agents, Wed Nov 11 2026. No macro, syntax, notation, axiom, sorry.
-/
import Derived.Test.YtafihplbchofoaaChecked
import GoSem.Claim
import GoSem.ClaimJoined
import GoSem.ClaimMapViews
import Derived.JoinedTies
import Derived.KernelRfl
namespace Go.Proofs.Ytafihplbchofoaa
/- THE CELL 'sum', in the pinned program and in every row, IS THE sha256 OF THE DUMP (.gsa) THAT YtafihplbchofoaaProg.lean LOADS. Nothing in Lean hashes anything: it is a label: what it is worth is what the hold of that sum in a sandbox is worth. -/
noncomputable def Try.pinned : Pinned := { name := "ytafihplbchofoaa", sum := "3b5a7876e8255e24d185cbaf5e28991eecffc62fede83c54b4b00c84e8765ba6", checked := Try.checked }
namespace Rows
def none {H : Type} : Left H := { results := [], args := [] }

/-- 'laws.FnHanded': WHATEVER THE INPUT: true; the input reads as it did. -/
def fnHandedSpec : ChangeSpec := { name := "fnHanded", fn := fun _ => fun
  | [d1, d2] => { results := [.lit (.bool true)], args := [d1, d2] }
  | _ => none }
def fnHandedRow : OpenClaim := { program := "ytafihplbchofoaa", sum := "3b5a7876e8255e24d185cbaf5e28991eecffc62fede83c54b4b00c84e8765ba6", func := "loop.example/g01202/laws.FnHanded", spec := "fnHanded", unfollowed := true, recurses := true, apart := false }
def FnHandedSaid : Prop := fnHandedRow.holds Try.pinned (OpenSpec.ofChange fnHandedSpec)

/-- ITS FALSE NEIGHBOUR: 'it returns false'. Refute it at one input. -/
def fnHandedWrong : ChangeSpec := { name := "fnHanded", fn := fun _ => fun
  | [d1, d2] => { results := [.lit (.bool false)], args := [d1, d2] }
  | _ => none }
def FnHandedWrongFalsely : Prop := fnHandedRow.holds Try.pinned (OpenSpec.ofChange fnHandedWrong)

/-- 'laws.FnSimulated': WHATEVER THE INPUT: true; the input reads as it did. -/
def fnSimulatedSpec : ChangeSpec := { name := "fnSimulated", fn := fun _ => fun
  | [d1, d2] => { results := [.lit (.bool true)], args := [d1, d2] }
  | _ => none }
def fnSimulatedRow : OpenClaim := { program := "ytafihplbchofoaa", sum := "3b5a7876e8255e24d185cbaf5e28991eecffc62fede83c54b4b00c84e8765ba6", func := "loop.example/g01202/laws.FnSimulated", spec := "fnSimulated", inPlace := ["internal/bytealg.abigen_runtime_cmpstring", "slices.overlaps[loop.example/g01202/impl.Box]"], unfollowed := true, recurses := true, apart := false }
def FnSimulatedSaid : Prop := fnSimulatedRow.holds Try.pinned (OpenSpec.ofChange fnSimulatedSpec)

/-- ITS FALSE NEIGHBOUR: 'it returns false'. Refute it at one input. -/
def fnSimulatedWrong : ChangeSpec := { name := "fnSimulated", fn := fun _ => fun
  | [d1, d2] => { results := [.lit (.bool false)], args := [d1, d2] }
  | _ => none }
def FnSimulatedWrongFalsely : Prop := fnSimulatedRow.holds Try.pinned (OpenSpec.ofChange fnSimulatedWrong)

/-- 'laws.FnExactRunSim': WHATEVER THE INPUT: true; the input reads as it did. -/
def fnExactRunSimSpec : ChangeSpec := { name := "fnExactRunSim", fn := fun _ => fun
  | [d] => { results := [.lit (.bool true)], args := [d] }
  | _ => none }
def fnExactRunSimRow : OpenClaim := { program := "ytafihplbchofoaa", sum := "3b5a7876e8255e24d185cbaf5e28991eecffc62fede83c54b4b00c84e8765ba6", func := "loop.example/g01202/laws.FnExactRunSim", spec := "fnExactRunSim", inPlace := ["internal/bytealg.abigen_runtime_cmpstring", "slices.overlaps[loop.example/g01202/impl.Box]"], unfollowed := true, recurses := true, apart := false }
def FnExactRunSimSaid : Prop := fnExactRunSimRow.holds Try.pinned (OpenSpec.ofChange fnExactRunSimSpec)

/-- ITS FALSE NEIGHBOUR: 'it returns false'. Refute it at one input. -/
def fnExactRunSimWrong : ChangeSpec := { name := "fnExactRunSim", fn := fun _ => fun
  | [d] => { results := [.lit (.bool false)], args := [d] }
  | _ => none }
def FnExactRunSimWrongFalsely : Prop := fnExactRunSimRow.holds Try.pinned (OpenSpec.ofChange fnExactRunSimWrong)

/-- 'laws.FnExactDueReminders': WHATEVER THE INPUT: true; the input reads as it did. -/
def fnExactDueRemindersSpec : ChangeSpec := { name := "fnExactDueReminders", fn := fun _ => fun
  | [d1, d2] => { results := [.lit (.bool true)], args := [d1, d2] }
  | _ => none }
def fnExactDueRemindersRow : OpenClaim := { program := "ytafihplbchofoaa", sum := "3b5a7876e8255e24d185cbaf5e28991eecffc62fede83c54b4b00c84e8765ba6", func := "loop.example/g01202/laws.FnExactDueReminders", spec := "fnExactDueReminders", unfollowed := true, recurses := true, apart := false }
def FnExactDueRemindersSaid : Prop := fnExactDueRemindersRow.holds Try.pinned (OpenSpec.ofChange fnExactDueRemindersSpec)

/-- ITS FALSE NEIGHBOUR: 'it returns false'. Refute it at one input. -/
def fnExactDueRemindersWrong : ChangeSpec := { name := "fnExactDueReminders", fn := fun _ => fun
  | [d1, d2] => { results := [.lit (.bool false)], args := [d1, d2] }
  | _ => none }
def FnExactDueRemindersWrongFalsely : Prop := fnExactDueRemindersRow.holds Try.pinned (OpenSpec.ofChange fnExactDueRemindersWrong)

/-- 'laws.FnReminders': WHATEVER THE INPUT: true; the input reads as it did. -/
def fnRemindersSpec : ChangeSpec := { name := "fnReminders", fn := fun _ => fun
  | [d1, d2] => { results := [.lit (.bool true)], args := [d1, d2] }
  | _ => none }
def fnRemindersRow : OpenClaim := { program := "ytafihplbchofoaa", sum := "3b5a7876e8255e24d185cbaf5e28991eecffc62fede83c54b4b00c84e8765ba6", func := "loop.example/g01202/laws.FnReminders", spec := "fnReminders", unfollowed := true, recurses := true, apart := false }
def FnRemindersSaid : Prop := fnRemindersRow.holds Try.pinned (OpenSpec.ofChange fnRemindersSpec)

/-- ITS FALSE NEIGHBOUR: 'it returns false'. Refute it at one input. -/
def fnRemindersWrong : ChangeSpec := { name := "fnReminders", fn := fun _ => fun
  | [d1, d2] => { results := [.lit (.bool false)], args := [d1, d2] }
  | _ => none }
def FnRemindersWrongFalsely : Prop := fnRemindersRow.holds Try.pinned (OpenSpec.ofChange fnRemindersWrong)

/- THE SECOND FORM. 'bulk': how many values and letters a reading holds, each counted each time it is reached (what is shared counts as often as it is met; a slice's spare places count too). A statement '..UptoSaid' is the law's where the arguments, and the package variables that the reading takes, are together of bulk at most 1048576: NARROWER than '..Said'. Prove '..Said' where nothing that the law and all that it calls make is longer than what came in: it says more and counts as full. Else prove '..UptoSaid'. A law counts once. -/
mutual
def uptoBulk {H : Type} : DataW H → Nat
  | .lit (.string bytes) => bytes.length + 1
  | .lit _ => 1
  | .nil => 1
  | .ptr d => uptoBulk d + 1
  | .slice elems spare => uptoBulkAll elems + uptoBulkAll spare + 1
  | .agg parts => uptoBulkAll parts + 1
  | .iface _ d => uptoBulk d + 1
  | .map entries => uptoBulkEntries entries + 1
  | .held _ => 1
def uptoBulkAll {H : Type} : List (DataW H) → Nat
  | [] => 0
  | d :: r => uptoBulk d + uptoBulkAll r
def uptoBulkEntries {H : Type} : List (Lit × DataW H) → Nat
  | [] => 0
  | x :: r => uptoBulkEntry x + uptoBulkEntries r
def uptoBulkEntry {H : Type} : Lit × DataW H → Nat
  | (.string bytes, d) => bytes.length + uptoBulk d + 1
  | (_, d) => uptoBulk d + 1
 end
def uptoSmall : (H : Type) → List (DataW H) → Bool := fun _ ds => decide (uptoBulkAll ds ≤ 1048576)
def OpenSpec.upto (s : _root_.Go.ChangeSpec) : _root_.Go.OpenSpec := { _root_.Go.OpenSpec.ofChange s with cond := some uptoSmall }

/-- 'laws.FnHanded', WHERE WHAT IT READS IS OF BULK AT MOST 1048576: true; the input reads as it did. -/
def fnHandedUptoRow : OpenClaim := { program := "ytafihplbchofoaa", sum := "3b5a7876e8255e24d185cbaf5e28991eecffc62fede83c54b4b00c84e8765ba6", func := "loop.example/g01202/laws.FnHanded", spec := "fnHanded", unfollowed := true, recurses := true, apart := false, narrowed := true }
def FnHandedUptoSaid : Prop := fnHandedUptoRow.holds Try.pinned (OpenSpec.upto fnHandedSpec)

/-- 'laws.FnSimulated', WHERE WHAT IT READS IS OF BULK AT MOST 1048576: true; the input reads as it did. -/
def fnSimulatedUptoRow : OpenClaim := { program := "ytafihplbchofoaa", sum := "3b5a7876e8255e24d185cbaf5e28991eecffc62fede83c54b4b00c84e8765ba6", func := "loop.example/g01202/laws.FnSimulated", spec := "fnSimulated", inPlace := ["internal/bytealg.abigen_runtime_cmpstring", "slices.overlaps[loop.example/g01202/impl.Box]"], unfollowed := true, recurses := true, apart := false, narrowed := true }
def FnSimulatedUptoSaid : Prop := fnSimulatedUptoRow.holds Try.pinned (OpenSpec.upto fnSimulatedSpec)

/-- 'laws.FnExactRunSim', WHERE WHAT IT READS IS OF BULK AT MOST 1048576: true; the input reads as it did. -/
def fnExactRunSimUptoRow : OpenClaim := { program := "ytafihplbchofoaa", sum := "3b5a7876e8255e24d185cbaf5e28991eecffc62fede83c54b4b00c84e8765ba6", func := "loop.example/g01202/laws.FnExactRunSim", spec := "fnExactRunSim", inPlace := ["internal/bytealg.abigen_runtime_cmpstring", "slices.overlaps[loop.example/g01202/impl.Box]"], unfollowed := true, recurses := true, apart := false, narrowed := true }
def FnExactRunSimUptoSaid : Prop := fnExactRunSimUptoRow.holds Try.pinned (OpenSpec.upto fnExactRunSimSpec)

/-- 'laws.FnExactDueReminders', WHERE WHAT IT READS IS OF BULK AT MOST 1048576: true; the input reads as it did. -/
def fnExactDueRemindersUptoRow : OpenClaim := { program := "ytafihplbchofoaa", sum := "3b5a7876e8255e24d185cbaf5e28991eecffc62fede83c54b4b00c84e8765ba6", func := "loop.example/g01202/laws.FnExactDueReminders", spec := "fnExactDueReminders", unfollowed := true, recurses := true, apart := false, narrowed := true }
def FnExactDueRemindersUptoSaid : Prop := fnExactDueRemindersUptoRow.holds Try.pinned (OpenSpec.upto fnExactDueRemindersSpec)

/-- 'laws.FnReminders', WHERE WHAT IT READS IS OF BULK AT MOST 1048576: true; the input reads as it did. -/
def fnRemindersUptoRow : OpenClaim := { program := "ytafihplbchofoaa", sum := "3b5a7876e8255e24d185cbaf5e28991eecffc62fede83c54b4b00c84e8765ba6", func := "loop.example/g01202/laws.FnReminders", spec := "fnReminders", unfollowed := true, recurses := true, apart := false, narrowed := true }
def FnRemindersUptoSaid : Prop := fnRemindersUptoRow.holds Try.pinned (OpenSpec.upto fnRemindersSpec)

end Rows
end Go.Proofs.Ytafihplbchofoaa
