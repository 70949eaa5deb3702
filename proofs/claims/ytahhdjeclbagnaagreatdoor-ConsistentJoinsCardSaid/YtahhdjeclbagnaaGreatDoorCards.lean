/-
  DERIVED. GIVEN WITH THE SEED: THE CARDS: each row of YtahhdjeclbagnaaGreatDoorRows.lean that lists a variable, with what it lists TIED to the program's text (the seventh form; the later family's looks); each row that meets fmt, with fmt's text TOLD by the authors' own Lean function (tested against real Go, not proved from fmt's source: count such statements apart). THE CARD IS WHAT COUNTS. Prove the row's statement (the work); the ties are given (YtahhdjeclbagnaaGreatDoorTie.lean); close each card by the builder's one call (the guide's Derived/Test/ToyasCard.lean, 'card_holds'). Laid BY PROGRAM, IN A SANDBOX (cutbox-door.mjs). By AI agents, Wed Nov 11 2026. No macro, syntax, notation, axiom, sorry.
-/
import Derived.Test.YtahhdjeclbagnaaGreatDoorRows
import GoSem.ClaimSeven
namespace Go.Proofs.YtahhdjeclbagnaaGreatDoor
namespace Rows

/-- THE TIED CARD OF 'estoppellaw35.ConsistentJoins'. -/
def consistentJoinsCard : Claim7 := { stood := { row := consistentJoinsRow, standIns := [], harness := (true, "4c42c79cdc74c822fa29c6da9ac49a1f149375ba62779c7de07ba0ccdebbe11c"), looks := false }, kinds := [], alts := [], laidByText := true, laidKinds := [.data, .data, .data], laidTests := true, laidLooks := .later }
def ConsistentJoinsCardSaid : Prop := Claim7.holds Tryz.pinned (.plain (OpenSpec.ofChange consistentJoinsSpec)) consistentJoinsCard

/-- THE TIED CARD OF 'estoppellaw35.ConsistentComplete'. -/
def consistentCompleteCard : Claim7 := { stood := { row := consistentCompleteRow, standIns := [], harness := (true, "4c42c79cdc74c822fa29c6da9ac49a1f149375ba62779c7de07ba0ccdebbe11c"), looks := false }, kinds := [], alts := [], laidByText := true, laidKinds := [.data, .data, .data], laidTests := true, laidLooks := .later }
def ConsistentCompleteCardSaid : Prop := Claim7.holds Tryz.pinned (.plain (OpenSpec.ofChange consistentCompleteSpec)) consistentCompleteCard

/-- THE TIED CARD OF 'estoppellaw35.ConsistentNarrows'. -/
def consistentNarrowsCard : Claim7 := { stood := { row := consistentNarrowsRow, standIns := [], harness := (true, "4c42c79cdc74c822fa29c6da9ac49a1f149375ba62779c7de07ba0ccdebbe11c"), looks := false }, kinds := [], alts := [], laidByText := true, laidKinds := [.data, .data, .data], laidTests := true, laidLooks := .later }
def ConsistentNarrowsCardSaid : Prop := Claim7.holds Tryz.pinned (.plain (OpenSpec.ofChange consistentNarrowsSpec)) consistentNarrowsCard

/-- THE TIED CARD OF 'estoppellaw35.ConsistentBegins'. -/
def consistentBeginsCard : Claim7 := { stood := { row := consistentBeginsRow, standIns := [], harness := (true, "4c42c79cdc74c822fa29c6da9ac49a1f149375ba62779c7de07ba0ccdebbe11c"), looks := false }, kinds := [], alts := [], laidByText := true, laidKinds := [.data, .data, .data], laidTests := true, laidLooks := .later }
def ConsistentBeginsCardSaid : Prop := Claim7.holds Tryz.pinned (.plain (OpenSpec.ofChange consistentBeginsSpec)) consistentBeginsCard

/-- THE TIED CARD OF 'estoppellaw35.ConsistentConflicts'. -/
def consistentConflictsCard : Claim7 := { stood := { row := consistentConflictsRow, standIns := [], harness := (true, "4c42c79cdc74c822fa29c6da9ac49a1f149375ba62779c7de07ba0ccdebbe11c"), looks := false }, kinds := [], alts := [], laidByText := true, laidKinds := [.data, .data, .data], laidTests := true, laidLooks := .later }
def ConsistentConflictsCardSaid : Prop := Claim7.holds Tryz.pinned (.plain (OpenSpec.ofChange consistentConflictsSpec)) consistentConflictsCard

/-- THE TIED CARD OF 'estoppellaw35.ConsistentTraces'. -/
def consistentTracesCard : Claim7 := { stood := { row := consistentTracesRow, standIns := [], harness := (true, "4c42c79cdc74c822fa29c6da9ac49a1f149375ba62779c7de07ba0ccdebbe11c"), looks := false }, kinds := [], alts := [], laidByText := true, laidKinds := [.data, .data, .data], laidTests := true, laidLooks := .later }
def ConsistentTracesCardSaid : Prop := Claim7.holds Tryz.pinned (.plain (OpenSpec.ofChange consistentTracesSpec)) consistentTracesCard

/-- THE SECOND FORM's CARD OF 'estoppellaw35.ConsistentJoins'. -/
def consistentJoinsUptoCard : Claim7 := { stood := { row := consistentJoinsUptoRow, standIns := [], harness := (true, "4c42c79cdc74c822fa29c6da9ac49a1f149375ba62779c7de07ba0ccdebbe11c"), looks := false }, kinds := [], alts := [], laidByText := true, laidKinds := [.data, .data, .data], laidTests := true, laidLooks := .later }
def ConsistentJoinsUptoCardSaid : Prop := Claim7.holds Tryz.pinned (.plain (OpenSpec.upto consistentJoinsSpec)) consistentJoinsUptoCard

/-- THE SECOND FORM's CARD OF 'estoppellaw35.ConsistentComplete'. -/
def consistentCompleteUptoCard : Claim7 := { stood := { row := consistentCompleteUptoRow, standIns := [], harness := (true, "4c42c79cdc74c822fa29c6da9ac49a1f149375ba62779c7de07ba0ccdebbe11c"), looks := false }, kinds := [], alts := [], laidByText := true, laidKinds := [.data, .data, .data], laidTests := true, laidLooks := .later }
def ConsistentCompleteUptoCardSaid : Prop := Claim7.holds Tryz.pinned (.plain (OpenSpec.upto consistentCompleteSpec)) consistentCompleteUptoCard

/-- THE SECOND FORM's CARD OF 'estoppellaw35.ConsistentNarrows'. -/
def consistentNarrowsUptoCard : Claim7 := { stood := { row := consistentNarrowsUptoRow, standIns := [], harness := (true, "4c42c79cdc74c822fa29c6da9ac49a1f149375ba62779c7de07ba0ccdebbe11c"), looks := false }, kinds := [], alts := [], laidByText := true, laidKinds := [.data, .data, .data], laidTests := true, laidLooks := .later }
def ConsistentNarrowsUptoCardSaid : Prop := Claim7.holds Tryz.pinned (.plain (OpenSpec.upto consistentNarrowsSpec)) consistentNarrowsUptoCard

/-- THE SECOND FORM's CARD OF 'estoppellaw35.ConsistentBegins'. -/
def consistentBeginsUptoCard : Claim7 := { stood := { row := consistentBeginsUptoRow, standIns := [], harness := (true, "4c42c79cdc74c822fa29c6da9ac49a1f149375ba62779c7de07ba0ccdebbe11c"), looks := false }, kinds := [], alts := [], laidByText := true, laidKinds := [.data, .data, .data], laidTests := true, laidLooks := .later }
def ConsistentBeginsUptoCardSaid : Prop := Claim7.holds Tryz.pinned (.plain (OpenSpec.upto consistentBeginsSpec)) consistentBeginsUptoCard

/-- THE SECOND FORM's CARD OF 'estoppellaw35.ConsistentConflicts'. -/
def consistentConflictsUptoCard : Claim7 := { stood := { row := consistentConflictsUptoRow, standIns := [], harness := (true, "4c42c79cdc74c822fa29c6da9ac49a1f149375ba62779c7de07ba0ccdebbe11c"), looks := false }, kinds := [], alts := [], laidByText := true, laidKinds := [.data, .data, .data], laidTests := true, laidLooks := .later }
def ConsistentConflictsUptoCardSaid : Prop := Claim7.holds Tryz.pinned (.plain (OpenSpec.upto consistentConflictsSpec)) consistentConflictsUptoCard

/-- THE SECOND FORM's CARD OF 'estoppellaw35.ConsistentTraces'. -/
def consistentTracesUptoCard : Claim7 := { stood := { row := consistentTracesUptoRow, standIns := [], harness := (true, "4c42c79cdc74c822fa29c6da9ac49a1f149375ba62779c7de07ba0ccdebbe11c"), looks := false }, kinds := [], alts := [], laidByText := true, laidKinds := [.data, .data, .data], laidTests := true, laidLooks := .later }
def ConsistentTracesUptoCardSaid : Prop := Claim7.holds Tryz.pinned (.plain (OpenSpec.upto consistentTracesSpec)) consistentTracesUptoCard
end Rows
end Go.Proofs.YtahhdjeclbagnaaGreatDoor
