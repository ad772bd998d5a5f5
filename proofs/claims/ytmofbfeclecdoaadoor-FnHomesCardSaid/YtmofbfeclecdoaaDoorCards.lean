/-
  DERIVED. GIVEN WITH THE SEED: THE CARDS: each row of YtmofbfeclecdoaaDoorRows.lean that lists a variable, with what it lists TIED to the program's text (the seventh form; the later family's looks); each row that meets fmt, with fmt's text TOLD by the authors' own Lean function (tested against real Go, not proved from fmt's source: count such statements apart). THE CARD IS WHAT COUNTS. Prove the row's statement (the work); the ties are given (YtmofbfeclecdoaaDoorTie.lean); close each card by the builder's one call (the guide's Derived/Test/ToyasCard.lean, 'card_holds'). Laid BY PROGRAM, IN A SANDBOX (cutbox-door.mjs). By AI agents, Wed Nov 11 2026. No macro, syntax, notation, axiom, sorry.
-/
import Derived.Test.YtmofbfeclecdoaaDoorRows
import GoSem.ClaimSeven
namespace Go.Proofs.YtmofbfeclecdoaaDoor
namespace Rows

/-- THE TIED CARD OF 'laws.FnExactScoreOf'. -/
def fnExactScoreOfCard : Claim7 := { stood := { row := fnExactScoreOfRow, standIns := [], harness := (true, "0ca8349dadf54778ecda4fa0bb924701ad7557a15610833222e06e3cc5cc4c67"), looks := false }, kinds := [], alts := [], laidByText := true, laidKinds := [.data, .data, .data], laidTests := true, laidLooks := .later }
def FnExactScoreOfCardSaid : Prop := Claim7.holds Tryd.pinned (.plain (OpenSpec.ofChange fnExactScoreOfSpec)) fnExactScoreOfCard

/-- THE TIED CARD OF 'laws.FnHomes'. -/
def fnHomesCard : Claim7 := { stood := { row := fnHomesRow, standIns := [], harness := (true, "0ca8349dadf54778ecda4fa0bb924701ad7557a15610833222e06e3cc5cc4c67"), looks := false }, kinds := [], alts := [], laidByText := true, laidKinds := [.data, .data, .data], laidTests := true, laidLooks := .later }
def FnHomesCardSaid : Prop := Claim7.holds Tryd.pinned (.plain (OpenSpec.ofChange fnHomesSpec)) fnHomesCard

/-- THE TIED CARD OF 'laws.FnExactShardFor'. -/
def fnExactShardForCard : Claim7 := { stood := { row := fnExactShardForRow, standIns := [], harness := (true, "0ca8349dadf54778ecda4fa0bb924701ad7557a15610833222e06e3cc5cc4c67"), looks := false }, kinds := [], alts := [], laidByText := true, laidKinds := [.data, .data, .data], laidTests := true, laidLooks := .later }
def FnExactShardForCardSaid : Prop := Claim7.holds Tryd.pinned (.plain (OpenSpec.ofChange fnExactShardForSpec)) fnExactShardForCard

/-- THE TIED CARD OF 'laws.FnExactLoadOfShards'. -/
def fnExactLoadOfShardsCard : Claim7 := { stood := { row := fnExactLoadOfShardsRow, standIns := [], harness := (true, "0ca8349dadf54778ecda4fa0bb924701ad7557a15610833222e06e3cc5cc4c67"), looks := false }, kinds := [], alts := [], laidByText := true, laidKinds := [.data, .data, .data], laidTests := true, laidLooks := .later }
def FnExactLoadOfShardsCardSaid : Prop := Claim7.holds Tryd.pinned (.plain (OpenSpec.ofChange fnExactLoadOfShardsSpec)) fnExactLoadOfShardsCard

/-- THE TIED CARD OF 'laws.FnExactHomesOf'. -/
def fnExactHomesOfCard : Claim7 := { stood := { row := fnExactHomesOfRow, standIns := [], harness := (true, "0ca8349dadf54778ecda4fa0bb924701ad7557a15610833222e06e3cc5cc4c67"), looks := false }, kinds := [], alts := [], laidByText := true, laidKinds := [.data, .data, .data], laidTests := true, laidLooks := .later }
def FnExactHomesOfCardSaid : Prop := Claim7.holds Tryd.pinned (.plain (OpenSpec.ofChange fnExactHomesOfSpec)) fnExactHomesOfCard

/-- THE TIED CARD OF 'laws.FnExactMovesFor'. -/
def fnExactMovesForCard : Claim7 := { stood := { row := fnExactMovesForRow, standIns := [], harness := (true, "0ca8349dadf54778ecda4fa0bb924701ad7557a15610833222e06e3cc5cc4c67"), looks := false }, kinds := [], alts := [], laidByText := true, laidKinds := [.data, .data, .data], laidTests := true, laidLooks := .later }
def FnExactMovesForCardSaid : Prop := Claim7.holds Tryd.pinned (.plain (OpenSpec.ofChange fnExactMovesForSpec)) fnExactMovesForCard

/-- THE TIED CARD OF 'laws.FnExactJournalOf'. -/
def fnExactJournalOfCard : Claim7 := { stood := { row := fnExactJournalOfRow, standIns := [], harness := (true, "0ca8349dadf54778ecda4fa0bb924701ad7557a15610833222e06e3cc5cc4c67"), looks := false }, kinds := [], alts := [], laidByText := true, laidKinds := [.data, .data, .data], laidTests := true, laidLooks := .later }
def FnExactJournalOfCardSaid : Prop := Claim7.holds Tryd.pinned (.plain (OpenSpec.ofChange fnExactJournalOfSpec)) fnExactJournalOfCard

/-- THE TIED CARD OF 'laws.FnExactRecoverJournal'. -/
def fnExactRecoverJournalCard : Claim7 := { stood := { row := fnExactRecoverJournalRow, standIns := [], harness := (true, "0ca8349dadf54778ecda4fa0bb924701ad7557a15610833222e06e3cc5cc4c67"), looks := false }, kinds := [], alts := [], laidByText := true, laidKinds := [.data, .data, .data], laidTests := true, laidLooks := .later }
def FnExactRecoverJournalCardSaid : Prop := Claim7.holds Tryd.pinned (.plain (OpenSpec.ofChange fnExactRecoverJournalSpec)) fnExactRecoverJournalCard

/-- THE SECOND FORM's CARD OF 'laws.FnExactScoreOf'. -/
def fnExactScoreOfUptoCard : Claim7 := { stood := { row := fnExactScoreOfUptoRow, standIns := [], harness := (true, "0ca8349dadf54778ecda4fa0bb924701ad7557a15610833222e06e3cc5cc4c67"), looks := false }, kinds := [], alts := [], laidByText := true, laidKinds := [.data, .data, .data], laidTests := true, laidLooks := .later }
def FnExactScoreOfUptoCardSaid : Prop := Claim7.holds Tryd.pinned (.plain (OpenSpec.upto fnExactScoreOfSpec)) fnExactScoreOfUptoCard

/-- THE SECOND FORM's CARD OF 'laws.FnHomes'. -/
def fnHomesUptoCard : Claim7 := { stood := { row := fnHomesUptoRow, standIns := [], harness := (true, "0ca8349dadf54778ecda4fa0bb924701ad7557a15610833222e06e3cc5cc4c67"), looks := false }, kinds := [], alts := [], laidByText := true, laidKinds := [.data, .data, .data], laidTests := true, laidLooks := .later }
def FnHomesUptoCardSaid : Prop := Claim7.holds Tryd.pinned (.plain (OpenSpec.upto fnHomesSpec)) fnHomesUptoCard

/-- THE SECOND FORM's CARD OF 'laws.FnExactShardFor'. -/
def fnExactShardForUptoCard : Claim7 := { stood := { row := fnExactShardForUptoRow, standIns := [], harness := (true, "0ca8349dadf54778ecda4fa0bb924701ad7557a15610833222e06e3cc5cc4c67"), looks := false }, kinds := [], alts := [], laidByText := true, laidKinds := [.data, .data, .data], laidTests := true, laidLooks := .later }
def FnExactShardForUptoCardSaid : Prop := Claim7.holds Tryd.pinned (.plain (OpenSpec.upto fnExactShardForSpec)) fnExactShardForUptoCard

/-- THE SECOND FORM's CARD OF 'laws.FnExactLoadOfShards'. -/
def fnExactLoadOfShardsUptoCard : Claim7 := { stood := { row := fnExactLoadOfShardsUptoRow, standIns := [], harness := (true, "0ca8349dadf54778ecda4fa0bb924701ad7557a15610833222e06e3cc5cc4c67"), looks := false }, kinds := [], alts := [], laidByText := true, laidKinds := [.data, .data, .data], laidTests := true, laidLooks := .later }
def FnExactLoadOfShardsUptoCardSaid : Prop := Claim7.holds Tryd.pinned (.plain (OpenSpec.upto fnExactLoadOfShardsSpec)) fnExactLoadOfShardsUptoCard

/-- THE SECOND FORM's CARD OF 'laws.FnExactHomesOf'. -/
def fnExactHomesOfUptoCard : Claim7 := { stood := { row := fnExactHomesOfUptoRow, standIns := [], harness := (true, "0ca8349dadf54778ecda4fa0bb924701ad7557a15610833222e06e3cc5cc4c67"), looks := false }, kinds := [], alts := [], laidByText := true, laidKinds := [.data, .data, .data], laidTests := true, laidLooks := .later }
def FnExactHomesOfUptoCardSaid : Prop := Claim7.holds Tryd.pinned (.plain (OpenSpec.upto fnExactHomesOfSpec)) fnExactHomesOfUptoCard

/-- THE SECOND FORM's CARD OF 'laws.FnExactMovesFor'. -/
def fnExactMovesForUptoCard : Claim7 := { stood := { row := fnExactMovesForUptoRow, standIns := [], harness := (true, "0ca8349dadf54778ecda4fa0bb924701ad7557a15610833222e06e3cc5cc4c67"), looks := false }, kinds := [], alts := [], laidByText := true, laidKinds := [.data, .data, .data], laidTests := true, laidLooks := .later }
def FnExactMovesForUptoCardSaid : Prop := Claim7.holds Tryd.pinned (.plain (OpenSpec.upto fnExactMovesForSpec)) fnExactMovesForUptoCard

/-- THE SECOND FORM's CARD OF 'laws.FnExactJournalOf'. -/
def fnExactJournalOfUptoCard : Claim7 := { stood := { row := fnExactJournalOfUptoRow, standIns := [], harness := (true, "0ca8349dadf54778ecda4fa0bb924701ad7557a15610833222e06e3cc5cc4c67"), looks := false }, kinds := [], alts := [], laidByText := true, laidKinds := [.data, .data, .data], laidTests := true, laidLooks := .later }
def FnExactJournalOfUptoCardSaid : Prop := Claim7.holds Tryd.pinned (.plain (OpenSpec.upto fnExactJournalOfSpec)) fnExactJournalOfUptoCard

/-- THE SECOND FORM's CARD OF 'laws.FnExactRecoverJournal'. -/
def fnExactRecoverJournalUptoCard : Claim7 := { stood := { row := fnExactRecoverJournalUptoRow, standIns := [], harness := (true, "0ca8349dadf54778ecda4fa0bb924701ad7557a15610833222e06e3cc5cc4c67"), looks := false }, kinds := [], alts := [], laidByText := true, laidKinds := [.data, .data, .data], laidTests := true, laidLooks := .later }
def FnExactRecoverJournalUptoCardSaid : Prop := Claim7.holds Tryd.pinned (.plain (OpenSpec.upto fnExactRecoverJournalSpec)) fnExactRecoverJournalUptoCard
end Rows
end Go.Proofs.YtmofbfeclecdoaaDoor
