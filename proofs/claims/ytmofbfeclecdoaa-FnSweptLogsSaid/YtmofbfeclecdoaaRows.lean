/-
  No cell of these rows narrows 'for every input' (looked for: loops, veiled, ifaces, maps, wideKeys, modest, calm, conditions, laid).
  DERIVED. THE GIVEN ROWS OF THIS SEAT. 16 by the template 'for every input the law returns true; each argument reads behind the call as it read before'; 0 by the template 'total and deterministic' (their statements: YtmofbfeclecdoaaTotals.lean).
  GIVEN WITH THE SEED: the statements are not yours to turn. If you find one false, say at which input.
  Laid BY PROGRAM, IN A SANDBOX (cutbox-rows.mjs): the forced cells as the released guide's own fill.sh prints them over the translation 6b235e0f860febb9… (all of the seat's roots in one cut). By AI agents, Wed Nov 11 2026. No macro, syntax, notation, axiom, sorry.
-/
import Derived.Test.YtmofbfeclecdoaaChecked
import GoSem.Claim
import GoSem.ClaimJoined
import GoSem.ClaimMapViews
import Derived.JoinedTies
import Derived.KernelRfl
namespace Go.Proofs.Ytmofbfeclecdoaa
/- THE CELL 'sum', in the pinned program and in every row, IS THE sha256 OF THE DUMP (.gsa) THAT YtmofbfeclecdoaaProg.lean LOADS. Nothing in Lean hashes anything: it is a label: what it is worth is what the hold of that sum in a sandbox is worth. -/
noncomputable def Try.pinned : Pinned := { name := "ytmofbfeclecdoaa", sum := "6b235e0f860febb95b821967be8adff762de0de4e2d613407d179bfdcc9eeeb2", checked := Try.checked }
namespace Rows
def none {H : Type} : Left H := { results := [], args := [] }

/-- 'laws.FnSimulated': WHATEVER THE INPUT: true; the input reads as it did. -/
def fnSimulatedSpec : ChangeSpec := { name := "fnSimulated", fn := fun _ => fun
  | [d1, d2] => { results := [.lit (.bool true)], args := [d1, d2] }
  | _ => none }
def fnSimulatedRow : OpenClaim := { program := "ytmofbfeclecdoaa", sum := "6b235e0f860febb95b821967be8adff762de0de4e2d613407d179bfdcc9eeeb2", func := "loop.example/g01202/laws.FnSimulated", spec := "fnSimulated", inPlace := ["internal/bytealg.abigen_runtime_cmpstring", "slices.overlaps[loop.example/g01202/impl.Box]"], unfollowed := true, recurses := true, apart := false }
def FnSimulatedSaid : Prop := fnSimulatedRow.holds Try.pinned (OpenSpec.ofChange fnSimulatedSpec)

/-- ITS FALSE NEIGHBOUR: 'it returns false'. Refute it at one input. -/
def fnSimulatedWrong : ChangeSpec := { name := "fnSimulated", fn := fun _ => fun
  | [d1, d2] => { results := [.lit (.bool false)], args := [d1, d2] }
  | _ => none }
def FnSimulatedWrongFalsely : Prop := fnSimulatedRow.holds Try.pinned (OpenSpec.ofChange fnSimulatedWrong)

/-- 'laws.FnExactAgesOf': WHATEVER THE INPUT: true; the input reads as it did. -/
def fnExactAgesOfSpec : ChangeSpec := { name := "fnExactAgesOf", fn := fun _ => fun
  | [d1, d2] => { results := [.lit (.bool true)], args := [d1, d2] }
  | _ => none }
def fnExactAgesOfRow : OpenClaim := { program := "ytmofbfeclecdoaa", sum := "6b235e0f860febb95b821967be8adff762de0de4e2d613407d179bfdcc9eeeb2", func := "loop.example/g01202/laws.FnExactAgesOf", spec := "fnExactAgesOf", unfollowed := true, recurses := true, apart := false }
def FnExactAgesOfSaid : Prop := fnExactAgesOfRow.holds Try.pinned (OpenSpec.ofChange fnExactAgesOfSpec)

/-- ITS FALSE NEIGHBOUR: 'it returns false'. Refute it at one input. -/
def fnExactAgesOfWrong : ChangeSpec := { name := "fnExactAgesOf", fn := fun _ => fun
  | [d1, d2] => { results := [.lit (.bool false)], args := [d1, d2] }
  | _ => none }
def FnExactAgesOfWrongFalsely : Prop := fnExactAgesOfRow.holds Try.pinned (OpenSpec.ofChange fnExactAgesOfWrong)

/-- 'laws.FnExactHolesOf': WHATEVER THE INPUT: true; the input reads as it did. -/
def fnExactHolesOfSpec : ChangeSpec := { name := "fnExactHolesOf", fn := fun _ => fun
  | [d] => { results := [.lit (.bool true)], args := [d] }
  | _ => none }
def fnExactHolesOfRow : OpenClaim := { program := "ytmofbfeclecdoaa", sum := "6b235e0f860febb95b821967be8adff762de0de4e2d613407d179bfdcc9eeeb2", func := "loop.example/g01202/laws.FnExactHolesOf", spec := "fnExactHolesOf", unfollowed := true, recurses := true, apart := false }
def FnExactHolesOfSaid : Prop := fnExactHolesOfRow.holds Try.pinned (OpenSpec.ofChange fnExactHolesOfSpec)

/-- ITS FALSE NEIGHBOUR: 'it returns false'. Refute it at one input. -/
def fnExactHolesOfWrong : ChangeSpec := { name := "fnExactHolesOf", fn := fun _ => fun
  | [d] => { results := [.lit (.bool false)], args := [d] }
  | _ => none }
def FnExactHolesOfWrongFalsely : Prop := fnExactHolesOfRow.holds Try.pinned (OpenSpec.ofChange fnExactHolesOfWrong)

/-- 'laws.FnExactSweepLog': WHATEVER THE INPUT: true; the input reads as it did. -/
def fnExactSweepLogSpec : ChangeSpec := { name := "fnExactSweepLog", fn := fun _ => fun
  | [d1, d2, d3, d4, d5] => { results := [.lit (.bool true)], args := [d1, d2, d3, d4, d5] }
  | _ => none }
def fnExactSweepLogRow : OpenClaim := { program := "ytmofbfeclecdoaa", sum := "6b235e0f860febb95b821967be8adff762de0de4e2d613407d179bfdcc9eeeb2", func := "loop.example/g01202/laws.FnExactSweepLog", spec := "fnExactSweepLog", unfollowed := true, recurses := true, apart := false }
def FnExactSweepLogSaid : Prop := fnExactSweepLogRow.holds Try.pinned (OpenSpec.ofChange fnExactSweepLogSpec)

/-- ITS FALSE NEIGHBOUR: 'it returns false'. Refute it at one input. -/
def fnExactSweepLogWrong : ChangeSpec := { name := "fnExactSweepLog", fn := fun _ => fun
  | [d1, d2, d3, d4, d5] => { results := [.lit (.bool false)], args := [d1, d2, d3, d4, d5] }
  | _ => none }
def FnExactSweepLogWrongFalsely : Prop := fnExactSweepLogRow.holds Try.pinned (OpenSpec.ofChange fnExactSweepLogWrong)

/-- 'laws.FnSweptLogs': WHATEVER THE INPUT: true; the input reads as it did. -/
def fnSweptLogsSpec : ChangeSpec := { name := "fnSweptLogs", fn := fun _ => fun
  | [d1, d2] => { results := [.lit (.bool true)], args := [d1, d2] }
  | _ => none }
def fnSweptLogsRow : OpenClaim := { program := "ytmofbfeclecdoaa", sum := "6b235e0f860febb95b821967be8adff762de0de4e2d613407d179bfdcc9eeeb2", func := "loop.example/g01202/laws.FnSweptLogs", spec := "fnSweptLogs", unfollowed := true, recurses := true, apart := false }
def FnSweptLogsSaid : Prop := fnSweptLogsRow.holds Try.pinned (OpenSpec.ofChange fnSweptLogsSpec)

/-- ITS FALSE NEIGHBOUR: 'it returns false'. Refute it at one input. -/
def fnSweptLogsWrong : ChangeSpec := { name := "fnSweptLogs", fn := fun _ => fun
  | [d1, d2] => { results := [.lit (.bool false)], args := [d1, d2] }
  | _ => none }
def FnSweptLogsWrongFalsely : Prop := fnSweptLogsRow.holds Try.pinned (OpenSpec.ofChange fnSweptLogsWrong)

/-- 'laws.FnExactValidDesk': WHATEVER THE INPUT: true; the input reads as it did. -/
def fnExactValidDeskSpec : ChangeSpec := { name := "fnExactValidDesk", fn := fun _ => fun
  | [d] => { results := [.lit (.bool true)], args := [d] }
  | _ => none }
def fnExactValidDeskRow : OpenClaim := { program := "ytmofbfeclecdoaa", sum := "6b235e0f860febb95b821967be8adff762de0de4e2d613407d179bfdcc9eeeb2", func := "loop.example/g01202/laws.FnExactValidDesk", spec := "fnExactValidDesk", unfollowed := true, recurses := true, apart := false }
def FnExactValidDeskSaid : Prop := fnExactValidDeskRow.holds Try.pinned (OpenSpec.ofChange fnExactValidDeskSpec)

/-- ITS FALSE NEIGHBOUR: 'it returns false'. Refute it at one input. -/
def fnExactValidDeskWrong : ChangeSpec := { name := "fnExactValidDesk", fn := fun _ => fun
  | [d] => { results := [.lit (.bool false)], args := [d] }
  | _ => none }
def FnExactValidDeskWrongFalsely : Prop := fnExactValidDeskRow.holds Try.pinned (OpenSpec.ofChange fnExactValidDeskWrong)

/-- 'laws.FnHanded': WHATEVER THE INPUT: true; the input reads as it did. -/
def fnHandedSpec : ChangeSpec := { name := "fnHanded", fn := fun _ => fun
  | [d1, d2] => { results := [.lit (.bool true)], args := [d1, d2] }
  | _ => none }
def fnHandedRow : OpenClaim := { program := "ytmofbfeclecdoaa", sum := "6b235e0f860febb95b821967be8adff762de0de4e2d613407d179bfdcc9eeeb2", func := "loop.example/g01202/laws.FnHanded", spec := "fnHanded", unfollowed := true, recurses := true, apart := false }
def FnHandedSaid : Prop := fnHandedRow.holds Try.pinned (OpenSpec.ofChange fnHandedSpec)

/-- ITS FALSE NEIGHBOUR: 'it returns false'. Refute it at one input. -/
def fnHandedWrong : ChangeSpec := { name := "fnHanded", fn := fun _ => fun
  | [d1, d2] => { results := [.lit (.bool false)], args := [d1, d2] }
  | _ => none }
def FnHandedWrongFalsely : Prop := fnHandedRow.holds Try.pinned (OpenSpec.ofChange fnHandedWrong)

/-- 'laws.FnExactRunSim': WHATEVER THE INPUT: true; the input reads as it did. -/
def fnExactRunSimSpec : ChangeSpec := { name := "fnExactRunSim", fn := fun _ => fun
  | [d] => { results := [.lit (.bool true)], args := [d] }
  | _ => none }
def fnExactRunSimRow : OpenClaim := { program := "ytmofbfeclecdoaa", sum := "6b235e0f860febb95b821967be8adff762de0de4e2d613407d179bfdcc9eeeb2", func := "loop.example/g01202/laws.FnExactRunSim", spec := "fnExactRunSim", inPlace := ["internal/bytealg.abigen_runtime_cmpstring", "slices.overlaps[loop.example/g01202/impl.Box]"], unfollowed := true, recurses := true, apart := false }
def FnExactRunSimSaid : Prop := fnExactRunSimRow.holds Try.pinned (OpenSpec.ofChange fnExactRunSimSpec)

/-- ITS FALSE NEIGHBOUR: 'it returns false'. Refute it at one input. -/
def fnExactRunSimWrong : ChangeSpec := { name := "fnExactRunSim", fn := fun _ => fun
  | [d] => { results := [.lit (.bool false)], args := [d] }
  | _ => none }
def FnExactRunSimWrongFalsely : Prop := fnExactRunSimRow.holds Try.pinned (OpenSpec.ofChange fnExactRunSimWrong)

/-- 'laws.FnExactValidHand': WHATEVER THE INPUT: true; the input reads as it did. -/
def fnExactValidHandSpec : ChangeSpec := { name := "fnExactValidHand", fn := fun _ => fun
  | [d] => { results := [.lit (.bool true)], args := [d] }
  | _ => none }
def fnExactValidHandRow : OpenClaim := { program := "ytmofbfeclecdoaa", sum := "6b235e0f860febb95b821967be8adff762de0de4e2d613407d179bfdcc9eeeb2", func := "loop.example/g01202/laws.FnExactValidHand", spec := "fnExactValidHand", unfollowed := true, recurses := true, apart := false }
def FnExactValidHandSaid : Prop := fnExactValidHandRow.holds Try.pinned (OpenSpec.ofChange fnExactValidHandSpec)

/-- ITS FALSE NEIGHBOUR: 'it returns false'. Refute it at one input. -/
def fnExactValidHandWrong : ChangeSpec := { name := "fnExactValidHand", fn := fun _ => fun
  | [d] => { results := [.lit (.bool false)], args := [d] }
  | _ => none }
def FnExactValidHandWrongFalsely : Prop := fnExactValidHandRow.holds Try.pinned (OpenSpec.ofChange fnExactValidHandWrong)

/-- 'laws.FnExactBeginHand': WHATEVER THE INPUT: true; the input reads as it did. -/
def fnExactBeginHandSpec : ChangeSpec := { name := "fnExactBeginHand", fn := fun _ => fun
  | [d] => { results := [.lit (.bool true)], args := [d] }
  | _ => none }
def fnExactBeginHandRow : OpenClaim := { program := "ytmofbfeclecdoaa", sum := "6b235e0f860febb95b821967be8adff762de0de4e2d613407d179bfdcc9eeeb2", func := "loop.example/g01202/laws.FnExactBeginHand", spec := "fnExactBeginHand", unfollowed := true, recurses := true, apart := false }
def FnExactBeginHandSaid : Prop := fnExactBeginHandRow.holds Try.pinned (OpenSpec.ofChange fnExactBeginHandSpec)

/-- ITS FALSE NEIGHBOUR: 'it returns false'. Refute it at one input. -/
def fnExactBeginHandWrong : ChangeSpec := { name := "fnExactBeginHand", fn := fun _ => fun
  | [d] => { results := [.lit (.bool false)], args := [d] }
  | _ => none }
def FnExactBeginHandWrongFalsely : Prop := fnExactBeginHandRow.holds Try.pinned (OpenSpec.ofChange fnExactBeginHandWrong)

/-- 'laws.FnExactLogOfHand': WHATEVER THE INPUT: true; the input reads as it did. -/
def fnExactLogOfHandSpec : ChangeSpec := { name := "fnExactLogOfHand", fn := fun _ => fun
  | [d] => { results := [.lit (.bool true)], args := [d] }
  | _ => none }
def fnExactLogOfHandRow : OpenClaim := { program := "ytmofbfeclecdoaa", sum := "6b235e0f860febb95b821967be8adff762de0de4e2d613407d179bfdcc9eeeb2", func := "loop.example/g01202/laws.FnExactLogOfHand", spec := "fnExactLogOfHand", unfollowed := true, recurses := true, apart := false }
def FnExactLogOfHandSaid : Prop := fnExactLogOfHandRow.holds Try.pinned (OpenSpec.ofChange fnExactLogOfHandSpec)

/-- ITS FALSE NEIGHBOUR: 'it returns false'. Refute it at one input. -/
def fnExactLogOfHandWrong : ChangeSpec := { name := "fnExactLogOfHand", fn := fun _ => fun
  | [d] => { results := [.lit (.bool false)], args := [d] }
  | _ => none }
def FnExactLogOfHandWrongFalsely : Prop := fnExactLogOfHandRow.holds Try.pinned (OpenSpec.ofChange fnExactLogOfHandWrong)

/-- 'laws.FnExactFreezeHand': WHATEVER THE INPUT: true; the input reads as it did. -/
def fnExactFreezeHandSpec : ChangeSpec := { name := "fnExactFreezeHand", fn := fun _ => fun
  | [d] => { results := [.lit (.bool true)], args := [d] }
  | _ => none }
def fnExactFreezeHandRow : OpenClaim := { program := "ytmofbfeclecdoaa", sum := "6b235e0f860febb95b821967be8adff762de0de4e2d613407d179bfdcc9eeeb2", func := "loop.example/g01202/laws.FnExactFreezeHand", spec := "fnExactFreezeHand", unfollowed := true, recurses := true, apart := false }
def FnExactFreezeHandSaid : Prop := fnExactFreezeHandRow.holds Try.pinned (OpenSpec.ofChange fnExactFreezeHandSpec)

/-- ITS FALSE NEIGHBOUR: 'it returns false'. Refute it at one input. -/
def fnExactFreezeHandWrong : ChangeSpec := { name := "fnExactFreezeHand", fn := fun _ => fun
  | [d] => { results := [.lit (.bool false)], args := [d] }
  | _ => none }
def FnExactFreezeHandWrongFalsely : Prop := fnExactFreezeHandRow.holds Try.pinned (OpenSpec.ofChange fnExactFreezeHandWrong)

/-- 'laws.FnExactBreakHand': WHATEVER THE INPUT: true; the input reads as it did. -/
def fnExactBreakHandSpec : ChangeSpec := { name := "fnExactBreakHand", fn := fun _ => fun
  | [d] => { results := [.lit (.bool true)], args := [d] }
  | _ => none }
def fnExactBreakHandRow : OpenClaim := { program := "ytmofbfeclecdoaa", sum := "6b235e0f860febb95b821967be8adff762de0de4e2d613407d179bfdcc9eeeb2", func := "loop.example/g01202/laws.FnExactBreakHand", spec := "fnExactBreakHand", unfollowed := true, recurses := true, apart := false }
def FnExactBreakHandSaid : Prop := fnExactBreakHandRow.holds Try.pinned (OpenSpec.ofChange fnExactBreakHandSpec)

/-- ITS FALSE NEIGHBOUR: 'it returns false'. Refute it at one input. -/
def fnExactBreakHandWrong : ChangeSpec := { name := "fnExactBreakHand", fn := fun _ => fun
  | [d] => { results := [.lit (.bool false)], args := [d] }
  | _ => none }
def FnExactBreakHandWrongFalsely : Prop := fnExactBreakHandRow.holds Try.pinned (OpenSpec.ofChange fnExactBreakHandWrong)

/-- 'laws.FnExactFinishHand': WHATEVER THE INPUT: true; the input reads as it did. -/
def fnExactFinishHandSpec : ChangeSpec := { name := "fnExactFinishHand", fn := fun _ => fun
  | [d] => { results := [.lit (.bool true)], args := [d] }
  | _ => none }
def fnExactFinishHandRow : OpenClaim := { program := "ytmofbfeclecdoaa", sum := "6b235e0f860febb95b821967be8adff762de0de4e2d613407d179bfdcc9eeeb2", func := "loop.example/g01202/laws.FnExactFinishHand", spec := "fnExactFinishHand", unfollowed := true, recurses := true, apart := false }
def FnExactFinishHandSaid : Prop := fnExactFinishHandRow.holds Try.pinned (OpenSpec.ofChange fnExactFinishHandSpec)

/-- ITS FALSE NEIGHBOUR: 'it returns false'. Refute it at one input. -/
def fnExactFinishHandWrong : ChangeSpec := { name := "fnExactFinishHand", fn := fun _ => fun
  | [d] => { results := [.lit (.bool false)], args := [d] }
  | _ => none }
def FnExactFinishHandWrongFalsely : Prop := fnExactFinishHandRow.holds Try.pinned (OpenSpec.ofChange fnExactFinishHandWrong)

/-- 'laws.FnExactCopyHand': WHATEVER THE INPUT: true; the input reads as it did. -/
def fnExactCopyHandSpec : ChangeSpec := { name := "fnExactCopyHand", fn := fun _ => fun
  | [d1, d2] => { results := [.lit (.bool true)], args := [d1, d2] }
  | _ => none }
def fnExactCopyHandRow : OpenClaim := { program := "ytmofbfeclecdoaa", sum := "6b235e0f860febb95b821967be8adff762de0de4e2d613407d179bfdcc9eeeb2", func := "loop.example/g01202/laws.FnExactCopyHand", spec := "fnExactCopyHand", unfollowed := true, recurses := true, apart := false }
def FnExactCopyHandSaid : Prop := fnExactCopyHandRow.holds Try.pinned (OpenSpec.ofChange fnExactCopyHandSpec)

/-- ITS FALSE NEIGHBOUR: 'it returns false'. Refute it at one input. -/
def fnExactCopyHandWrong : ChangeSpec := { name := "fnExactCopyHand", fn := fun _ => fun
  | [d1, d2] => { results := [.lit (.bool false)], args := [d1, d2] }
  | _ => none }
def FnExactCopyHandWrongFalsely : Prop := fnExactCopyHandRow.holds Try.pinned (OpenSpec.ofChange fnExactCopyHandWrong)

/-- 'laws.FnExactSayHand': WHATEVER THE INPUT: true; the input reads as it did. -/
def fnExactSayHandSpec : ChangeSpec := { name := "fnExactSayHand", fn := fun _ => fun
  | [d1, d2] => { results := [.lit (.bool true)], args := [d1, d2] }
  | _ => none }
def fnExactSayHandRow : OpenClaim := { program := "ytmofbfeclecdoaa", sum := "6b235e0f860febb95b821967be8adff762de0de4e2d613407d179bfdcc9eeeb2", func := "loop.example/g01202/laws.FnExactSayHand", spec := "fnExactSayHand", unfollowed := true, recurses := true, apart := false }
def FnExactSayHandSaid : Prop := fnExactSayHandRow.holds Try.pinned (OpenSpec.ofChange fnExactSayHandSpec)

/-- ITS FALSE NEIGHBOUR: 'it returns false'. Refute it at one input. -/
def fnExactSayHandWrong : ChangeSpec := { name := "fnExactSayHand", fn := fun _ => fun
  | [d1, d2] => { results := [.lit (.bool false)], args := [d1, d2] }
  | _ => none }
def FnExactSayHandWrongFalsely : Prop := fnExactSayHandRow.holds Try.pinned (OpenSpec.ofChange fnExactSayHandWrong)

/- THE SECOND FORM. 'bulk': how many values and letters a reading holds, each counted each time it is reached (what is shared counts as often as it is met; a slice's spare places count too). A statement '..UptoSaid' is the law's where the arguments, and the package variables that the reading takes, are together of bulk at most 1048576: NARROWER than '..Said'. Prove '..Said' where nothing that the law and all that it calls make is longer than what came in: it says more and counts as full. Else prove '..UptoSaid'. A law counts once. -/
mutual
def uptoBulk {H : Type} : DataW H → Nat
  | .lit (.string bytes) => bytes.length + 1
  | .lit _ => 1
  | .nil => 1
  | .ptr d => uptoBulk d + 1
  | .slice elems spare => uptoBulkAll elems + uptoBulkAll spare + 1
  | .agg parts => uptoBulkAll parts + 1
  | .iface _ d => uptoBulk d + 1
  | .map entries => uptoBulkEntries entries + 1
  | .held _ => 1
def uptoBulkAll {H : Type} : List (DataW H) → Nat
  | [] => 0
  | d :: r => uptoBulk d + uptoBulkAll r
def uptoBulkEntries {H : Type} : List (Lit × DataW H) → Nat
  | [] => 0
  | x :: r => uptoBulkEntry x + uptoBulkEntries r
def uptoBulkEntry {H : Type} : Lit × DataW H → Nat
  | (.string bytes, d) => bytes.length + uptoBulk d + 1
  | (_, d) => uptoBulk d + 1
 end
def uptoSmall : (H : Type) → List (DataW H) → Bool := fun _ ds => decide (uptoBulkAll ds ≤ 1048576)
def OpenSpec.upto (s : _root_.Go.ChangeSpec) : _root_.Go.OpenSpec := { _root_.Go.OpenSpec.ofChange s with cond := some uptoSmall }

/-- 'laws.FnSimulated', WHERE WHAT IT READS IS OF BULK AT MOST 1048576: true; the input reads as it did. -/
def fnSimulatedUptoRow : OpenClaim := { program := "ytmofbfeclecdoaa", sum := "6b235e0f860febb95b821967be8adff762de0de4e2d613407d179bfdcc9eeeb2", func := "loop.example/g01202/laws.FnSimulated", spec := "fnSimulated", inPlace := ["internal/bytealg.abigen_runtime_cmpstring", "slices.overlaps[loop.example/g01202/impl.Box]"], unfollowed := true, recurses := true, apart := false, narrowed := true }
def FnSimulatedUptoSaid : Prop := fnSimulatedUptoRow.holds Try.pinned (OpenSpec.upto fnSimulatedSpec)

/-- 'laws.FnExactAgesOf', WHERE WHAT IT READS IS OF BULK AT MOST 1048576: true; the input reads as it did. -/
def fnExactAgesOfUptoRow : OpenClaim := { program := "ytmofbfeclecdoaa", sum := "6b235e0f860febb95b821967be8adff762de0de4e2d613407d179bfdcc9eeeb2", func := "loop.example/g01202/laws.FnExactAgesOf", spec := "fnExactAgesOf", unfollowed := true, recurses := true, apart := false, narrowed := true }
def FnExactAgesOfUptoSaid : Prop := fnExactAgesOfUptoRow.holds Try.pinned (OpenSpec.upto fnExactAgesOfSpec)

/-- 'laws.FnExactHolesOf', WHERE WHAT IT READS IS OF BULK AT MOST 1048576: true; the input reads as it did. -/
def fnExactHolesOfUptoRow : OpenClaim := { program := "ytmofbfeclecdoaa", sum := "6b235e0f860febb95b821967be8adff762de0de4e2d613407d179bfdcc9eeeb2", func := "loop.example/g01202/laws.FnExactHolesOf", spec := "fnExactHolesOf", unfollowed := true, recurses := true, apart := false, narrowed := true }
def FnExactHolesOfUptoSaid : Prop := fnExactHolesOfUptoRow.holds Try.pinned (OpenSpec.upto fnExactHolesOfSpec)

/-- 'laws.FnExactSweepLog', WHERE WHAT IT READS IS OF BULK AT MOST 1048576: true; the input reads as it did. -/
def fnExactSweepLogUptoRow : OpenClaim := { program := "ytmofbfeclecdoaa", sum := "6b235e0f860febb95b821967be8adff762de0de4e2d613407d179bfdcc9eeeb2", func := "loop.example/g01202/laws.FnExactSweepLog", spec := "fnExactSweepLog", unfollowed := true, recurses := true, apart := false, narrowed := true }
def FnExactSweepLogUptoSaid : Prop := fnExactSweepLogUptoRow.holds Try.pinned (OpenSpec.upto fnExactSweepLogSpec)

/-- 'laws.FnSweptLogs', WHERE WHAT IT READS IS OF BULK AT MOST 1048576: true; the input reads as it did. -/
def fnSweptLogsUptoRow : OpenClaim := { program := "ytmofbfeclecdoaa", sum := "6b235e0f860febb95b821967be8adff762de0de4e2d613407d179bfdcc9eeeb2", func := "loop.example/g01202/laws.FnSweptLogs", spec := "fnSweptLogs", unfollowed := true, recurses := true, apart := false, narrowed := true }
def FnSweptLogsUptoSaid : Prop := fnSweptLogsUptoRow.holds Try.pinned (OpenSpec.upto fnSweptLogsSpec)

/-- 'laws.FnExactValidDesk', WHERE WHAT IT READS IS OF BULK AT MOST 1048576: true; the input reads as it did. -/
def fnExactValidDeskUptoRow : OpenClaim := { program := "ytmofbfeclecdoaa", sum := "6b235e0f860febb95b821967be8adff762de0de4e2d613407d179bfdcc9eeeb2", func := "loop.example/g01202/laws.FnExactValidDesk", spec := "fnExactValidDesk", unfollowed := true, recurses := true, apart := false, narrowed := true }
def FnExactValidDeskUptoSaid : Prop := fnExactValidDeskUptoRow.holds Try.pinned (OpenSpec.upto fnExactValidDeskSpec)

/-- 'laws.FnHanded', WHERE WHAT IT READS IS OF BULK AT MOST 1048576: true; the input reads as it did. -/
def fnHandedUptoRow : OpenClaim := { program := "ytmofbfeclecdoaa", sum := "6b235e0f860febb95b821967be8adff762de0de4e2d613407d179bfdcc9eeeb2", func := "loop.example/g01202/laws.FnHanded", spec := "fnHanded", unfollowed := true, recurses := true, apart := false, narrowed := true }
def FnHandedUptoSaid : Prop := fnHandedUptoRow.holds Try.pinned (OpenSpec.upto fnHandedSpec)

/-- 'laws.FnExactRunSim', WHERE WHAT IT READS IS OF BULK AT MOST 1048576: true; the input reads as it did. -/
def fnExactRunSimUptoRow : OpenClaim := { program := "ytmofbfeclecdoaa", sum := "6b235e0f860febb95b821967be8adff762de0de4e2d613407d179bfdcc9eeeb2", func := "loop.example/g01202/laws.FnExactRunSim", spec := "fnExactRunSim", inPlace := ["internal/bytealg.abigen_runtime_cmpstring", "slices.overlaps[loop.example/g01202/impl.Box]"], unfollowed := true, recurses := true, apart := false, narrowed := true }
def FnExactRunSimUptoSaid : Prop := fnExactRunSimUptoRow.holds Try.pinned (OpenSpec.upto fnExactRunSimSpec)

/-- 'laws.FnExactValidHand', WHERE WHAT IT READS IS OF BULK AT MOST 1048576: true; the input reads as it did. -/
def fnExactValidHandUptoRow : OpenClaim := { program := "ytmofbfeclecdoaa", sum := "6b235e0f860febb95b821967be8adff762de0de4e2d613407d179bfdcc9eeeb2", func := "loop.example/g01202/laws.FnExactValidHand", spec := "fnExactValidHand", unfollowed := true, recurses := true, apart := false, narrowed := true }
def FnExactValidHandUptoSaid : Prop := fnExactValidHandUptoRow.holds Try.pinned (OpenSpec.upto fnExactValidHandSpec)

/-- 'laws.FnExactBeginHand', WHERE WHAT IT READS IS OF BULK AT MOST 1048576: true; the input reads as it did. -/
def fnExactBeginHandUptoRow : OpenClaim := { program := "ytmofbfeclecdoaa", sum := "6b235e0f860febb95b821967be8adff762de0de4e2d613407d179bfdcc9eeeb2", func := "loop.example/g01202/laws.FnExactBeginHand", spec := "fnExactBeginHand", unfollowed := true, recurses := true, apart := false, narrowed := true }
def FnExactBeginHandUptoSaid : Prop := fnExactBeginHandUptoRow.holds Try.pinned (OpenSpec.upto fnExactBeginHandSpec)

/-- 'laws.FnExactLogOfHand', WHERE WHAT IT READS IS OF BULK AT MOST 1048576: true; the input reads as it did. -/
def fnExactLogOfHandUptoRow : OpenClaim := { program := "ytmofbfeclecdoaa", sum := "6b235e0f860febb95b821967be8adff762de0de4e2d613407d179bfdcc9eeeb2", func := "loop.example/g01202/laws.FnExactLogOfHand", spec := "fnExactLogOfHand", unfollowed := true, recurses := true, apart := false, narrowed := true }
def FnExactLogOfHandUptoSaid : Prop := fnExactLogOfHandUptoRow.holds Try.pinned (OpenSpec.upto fnExactLogOfHandSpec)

/-- 'laws.FnExactFreezeHand', WHERE WHAT IT READS IS OF BULK AT MOST 1048576: true; the input reads as it did. -/
def fnExactFreezeHandUptoRow : OpenClaim := { program := "ytmofbfeclecdoaa", sum := "6b235e0f860febb95b821967be8adff762de0de4e2d613407d179bfdcc9eeeb2", func := "loop.example/g01202/laws.FnExactFreezeHand", spec := "fnExactFreezeHand", unfollowed := true, recurses := true, apart := false, narrowed := true }
def FnExactFreezeHandUptoSaid : Prop := fnExactFreezeHandUptoRow.holds Try.pinned (OpenSpec.upto fnExactFreezeHandSpec)

/-- 'laws.FnExactBreakHand', WHERE WHAT IT READS IS OF BULK AT MOST 1048576: true; the input reads as it did. -/
def fnExactBreakHandUptoRow : OpenClaim := { program := "ytmofbfeclecdoaa", sum := "6b235e0f860febb95b821967be8adff762de0de4e2d613407d179bfdcc9eeeb2", func := "loop.example/g01202/laws.FnExactBreakHand", spec := "fnExactBreakHand", unfollowed := true, recurses := true, apart := false, narrowed := true }
def FnExactBreakHandUptoSaid : Prop := fnExactBreakHandUptoRow.holds Try.pinned (OpenSpec.upto fnExactBreakHandSpec)

/-- 'laws.FnExactFinishHand', WHERE WHAT IT READS IS OF BULK AT MOST 1048576: true; the input reads as it did. -/
def fnExactFinishHandUptoRow : OpenClaim := { program := "ytmofbfeclecdoaa", sum := "6b235e0f860febb95b821967be8adff762de0de4e2d613407d179bfdcc9eeeb2", func := "loop.example/g01202/laws.FnExactFinishHand", spec := "fnExactFinishHand", unfollowed := true, recurses := true, apart := false, narrowed := true }
def FnExactFinishHandUptoSaid : Prop := fnExactFinishHandUptoRow.holds Try.pinned (OpenSpec.upto fnExactFinishHandSpec)

/-- 'laws.FnExactCopyHand', WHERE WHAT IT READS IS OF BULK AT MOST 1048576: true; the input reads as it did. -/
def fnExactCopyHandUptoRow : OpenClaim := { program := "ytmofbfeclecdoaa", sum := "6b235e0f860febb95b821967be8adff762de0de4e2d613407d179bfdcc9eeeb2", func := "loop.example/g01202/laws.FnExactCopyHand", spec := "fnExactCopyHand", unfollowed := true, recurses := true, apart := false, narrowed := true }
def FnExactCopyHandUptoSaid : Prop := fnExactCopyHandUptoRow.holds Try.pinned (OpenSpec.upto fnExactCopyHandSpec)

/-- 'laws.FnExactSayHand', WHERE WHAT IT READS IS OF BULK AT MOST 1048576: true; the input reads as it did. -/
def fnExactSayHandUptoRow : OpenClaim := { program := "ytmofbfeclecdoaa", sum := "6b235e0f860febb95b821967be8adff762de0de4e2d613407d179bfdcc9eeeb2", func := "loop.example/g01202/laws.FnExactSayHand", spec := "fnExactSayHand", unfollowed := true, recurses := true, apart := false, narrowed := true }
def FnExactSayHandUptoSaid : Prop := fnExactSayHandUptoRow.holds Try.pinned (OpenSpec.upto fnExactSayHandSpec)

end Rows
end Go.Proofs.Ytmofbfeclecdoaa
