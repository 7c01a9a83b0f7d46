/-
  DERIVED. GIVEN WITH THE SEED: THE CARDS: each row of YtjamgkcmpcnfpaaGreatDoorRows.lean that lists a variable, with what it lists TIED to the program's text (the seventh form; the later family's looks); each row that meets fmt, with fmt's text TOLD by the authors' own Lean function (tested against real Go, not proved from fmt's source: count such statements apart). THE CARD IS WHAT COUNTS. Prove the row's statement (the work); the ties are given (YtjamgkcmpcnfpaaGreatDoorTie.lean); close each card by the builder's one call (the guide's Derived/Test/ToyasCard.lean, 'card_holds'). Laid BY PROGRAM, IN A SANDBOX (cutbox-door.mjs). By AI agents, Wed Nov 11 2026. No macro, syntax, notation, axiom, sorry.
-/
import Derived.Test.YtjamgkcmpcnfpaaGreatDoorRows
import GoSem.ClaimSeven
namespace Go.Proofs.YtjamgkcmpcnfpaaGreatDoor
namespace Rows

/-- THE TIED CARD OF 'escheatlaw24.CommandCase'. -/
def commandCaseCard : Claim7 := { stood := { row := commandCaseRow, standIns := [], harness := (true, "c85a32bf5762c5c78cafbeea8e4a1edd9cb9d91956f154a1c4940bd91a3725bc"), looks := true }, kinds := [], alts := [], laidByText := true, laidKinds := [.data, .data, .data, .mapped], laidTests := true, laidLooks := .later }
def CommandCaseCardSaid : Prop := Claim7.holds Tryz.pinned (.plain (OpenSpec.ofChange commandCaseSpec)) commandCaseCard

/-- THE TIED CARD OF 'escheatlaw24.CommandNames'. -/
def commandNamesCard : Claim7 := { stood := { row := commandNamesRow, standIns := [], harness := (true, "c85a32bf5762c5c78cafbeea8e4a1edd9cb9d91956f154a1c4940bd91a3725bc"), looks := true }, kinds := [], alts := [], laidByText := true, laidKinds := [.data, .data, .data, .mapped], laidTests := true, laidLooks := .later }
def CommandNamesCardSaid : Prop := Claim7.holds Tryz.pinned (.plain (OpenSpec.ofChange commandNamesSpec)) commandNamesCard

/-- THE TIED CARD OF 'escheatlaw24.CommandTags'. -/
def commandTagsCard : Claim7 := { stood := { row := commandTagsRow, standIns := [], harness := (true, "c85a32bf5762c5c78cafbeea8e4a1edd9cb9d91956f154a1c4940bd91a3725bc"), looks := true }, kinds := [], alts := [], laidByText := true, laidKinds := [.data, .data, .data, .mapped], laidTests := true, laidLooks := .later }
def CommandTagsCardSaid : Prop := Claim7.holds Tryz.pinned (.plain (OpenSpec.ofChange commandTagsSpec)) commandTagsCard

/-- THE TIED CARD OF 'escheatlaw24.CommandTail'. -/
def commandTailCard : Claim7 := { stood := { row := commandTailRow, standIns := [], harness := (true, "c85a32bf5762c5c78cafbeea8e4a1edd9cb9d91956f154a1c4940bd91a3725bc"), looks := true }, kinds := [], alts := [], laidByText := true, laidKinds := [.data, .data, .data, .mapped], laidTests := true, laidLooks := .later }
def CommandTailCardSaid : Prop := Claim7.holds Tryz.pinned (.plain (OpenSpec.ofChange commandTailSpec)) commandTailCard

/-- THE TIED CARD OF 'escheatlaw24.CommandSames'. -/
def commandSamesCard : Claim7 := { stood := { row := commandSamesRow, standIns := [], harness := (true, "c85a32bf5762c5c78cafbeea8e4a1edd9cb9d91956f154a1c4940bd91a3725bc"), looks := true }, kinds := [], alts := [], laidByText := true, laidKinds := [.data, .data, .data, .mapped], laidTests := true, laidLooks := .later }
def CommandSamesCardSaid : Prop := Claim7.holds Tryz.pinned (.plain (OpenSpec.ofChange commandSamesSpec)) commandSamesCard

/-- THE SECOND FORM's CARD OF 'escheatlaw24.CommandCase'. -/
def commandCaseUptoCard : Claim7 := { stood := { row := commandCaseUptoRow, standIns := [], harness := (true, "c85a32bf5762c5c78cafbeea8e4a1edd9cb9d91956f154a1c4940bd91a3725bc"), looks := true }, kinds := [], alts := [], laidByText := true, laidKinds := [.data, .data, .data, .mapped], laidTests := true, laidLooks := .later }
def CommandCaseUptoCardSaid : Prop := Claim7.holds Tryz.pinned (.plain (OpenSpec.upto commandCaseSpec)) commandCaseUptoCard

/-- THE SECOND FORM's CARD OF 'escheatlaw24.CommandNames'. -/
def commandNamesUptoCard : Claim7 := { stood := { row := commandNamesUptoRow, standIns := [], harness := (true, "c85a32bf5762c5c78cafbeea8e4a1edd9cb9d91956f154a1c4940bd91a3725bc"), looks := true }, kinds := [], alts := [], laidByText := true, laidKinds := [.data, .data, .data, .mapped], laidTests := true, laidLooks := .later }
def CommandNamesUptoCardSaid : Prop := Claim7.holds Tryz.pinned (.plain (OpenSpec.upto commandNamesSpec)) commandNamesUptoCard

/-- THE SECOND FORM's CARD OF 'escheatlaw24.CommandTags'. -/
def commandTagsUptoCard : Claim7 := { stood := { row := commandTagsUptoRow, standIns := [], harness := (true, "c85a32bf5762c5c78cafbeea8e4a1edd9cb9d91956f154a1c4940bd91a3725bc"), looks := true }, kinds := [], alts := [], laidByText := true, laidKinds := [.data, .data, .data, .mapped], laidTests := true, laidLooks := .later }
def CommandTagsUptoCardSaid : Prop := Claim7.holds Tryz.pinned (.plain (OpenSpec.upto commandTagsSpec)) commandTagsUptoCard

/-- THE SECOND FORM's CARD OF 'escheatlaw24.CommandTail'. -/
def commandTailUptoCard : Claim7 := { stood := { row := commandTailUptoRow, standIns := [], harness := (true, "c85a32bf5762c5c78cafbeea8e4a1edd9cb9d91956f154a1c4940bd91a3725bc"), looks := true }, kinds := [], alts := [], laidByText := true, laidKinds := [.data, .data, .data, .mapped], laidTests := true, laidLooks := .later }
def CommandTailUptoCardSaid : Prop := Claim7.holds Tryz.pinned (.plain (OpenSpec.upto commandTailSpec)) commandTailUptoCard

/-- THE SECOND FORM's CARD OF 'escheatlaw24.CommandSames'. -/
def commandSamesUptoCard : Claim7 := { stood := { row := commandSamesUptoRow, standIns := [], harness := (true, "c85a32bf5762c5c78cafbeea8e4a1edd9cb9d91956f154a1c4940bd91a3725bc"), looks := true }, kinds := [], alts := [], laidByText := true, laidKinds := [.data, .data, .data, .mapped], laidTests := true, laidLooks := .later }
def CommandSamesUptoCardSaid : Prop := Claim7.holds Tryz.pinned (.plain (OpenSpec.upto commandSamesSpec)) commandSamesUptoCard
end Rows
end Go.Proofs.YtjamgkcmpcnfpaaGreatDoor
