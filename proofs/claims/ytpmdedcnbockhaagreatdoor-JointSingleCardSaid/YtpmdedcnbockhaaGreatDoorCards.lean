/-
  DERIVED. GIVEN WITH THE SEED: THE CARDS: each row of YtpmdedcnbockhaaGreatDoorRows.lean that lists a variable, with what it lists TIED to the program's text (the seventh form; the later family's looks); each row that meets fmt, with fmt's text TOLD by the authors' own Lean function (tested against real Go, not proved from fmt's source: count such statements apart). THE CARD IS WHAT COUNTS. Prove the row's statement (the work); the ties are given (YtpmdedcnbockhaaGreatDoorTie.lean); close each card by the builder's one call (the guide's Derived/Test/ToyasCard.lean, 'card_holds'). Laid BY PROGRAM, IN A SANDBOX (cutbox-door.mjs). By AI agents, Wed Nov 11 2026. No macro, syntax, notation, axiom, sorry.
-/
import Derived.Test.YtpmdedcnbockhaaGreatDoorRows
import GoSem.ClaimSeven
namespace Go.Proofs.YtpmdedcnbockhaaGreatDoor
namespace Rows

/-- THE TIED CARD OF 'estoppellaw38.JointEvidence'. -/
def jointEvidenceCard : Claim7 := { stood := { row := jointEvidenceRow, standIns := [], harness := (true, "d2e9ac9fecadf1b5f1b1abb7ef305c6840ed122d0ba088ebc601674e707f7292"), looks := false }, kinds := [], alts := [], laidByText := true, laidKinds := [.data, .data, .data], laidTests := true, laidLooks := .later }
def JointEvidenceCardSaid : Prop := Claim7.holds Tryz.pinned (.plain (OpenSpec.ofChange jointEvidenceSpec)) jointEvidenceCard

/-- THE TIED CARD OF 'estoppellaw38.JointNarrows'. -/
def jointNarrowsCard : Claim7 := { stood := { row := jointNarrowsRow, standIns := [], harness := (true, "d2e9ac9fecadf1b5f1b1abb7ef305c6840ed122d0ba088ebc601674e707f7292"), looks := false }, kinds := [], alts := [], laidByText := true, laidKinds := [.data, .data, .data], laidTests := true, laidLooks := .later }
def JointNarrowsCardSaid : Prop := Claim7.holds Tryz.pinned (.plain (OpenSpec.ofChange jointNarrowsSpec)) jointNarrowsCard

/-- THE TIED CARD OF 'estoppellaw38.JointFinal'. -/
def jointFinalCard : Claim7 := { stood := { row := jointFinalRow, standIns := [], harness := (true, "d2e9ac9fecadf1b5f1b1abb7ef305c6840ed122d0ba088ebc601674e707f7292"), looks := false }, kinds := [], alts := [], laidByText := true, laidKinds := [.data, .data, .data], laidTests := true, laidLooks := .later }
def JointFinalCardSaid : Prop := Claim7.holds Tryz.pinned (.plain (OpenSpec.ofChange jointFinalSpec)) jointFinalCard

/-- THE TIED CARD OF 'estoppellaw38.JointVerdictOrder'. -/
def jointVerdictOrderCard : Claim7 := { stood := { row := jointVerdictOrderRow, standIns := [], harness := (true, "d2e9ac9fecadf1b5f1b1abb7ef305c6840ed122d0ba088ebc601674e707f7292"), looks := false }, kinds := [], alts := [], laidByText := true, laidKinds := [.data, .data, .data], laidTests := true, laidLooks := .later }
def JointVerdictOrderCardSaid : Prop := Claim7.holds Tryz.pinned (.plain (OpenSpec.ofChange jointVerdictOrderSpec)) jointVerdictOrderCard

/-- THE TIED CARD OF 'estoppellaw38.JointTruth'. -/
def jointTruthCard : Claim7 := { stood := { row := jointTruthRow, standIns := [], harness := (true, "d2e9ac9fecadf1b5f1b1abb7ef305c6840ed122d0ba088ebc601674e707f7292"), looks := false }, kinds := [], alts := [], laidByText := true, laidKinds := [.data, .data, .data], laidTests := true, laidLooks := .later }
def JointTruthCardSaid : Prop := Claim7.holds Tryz.pinned (.plain (OpenSpec.ofChange jointTruthSpec)) jointTruthCard

/-- THE TIED CARD OF 'estoppellaw38.JointSingle'. -/
def jointSingleCard : Claim7 := { stood := { row := jointSingleRow, standIns := [], harness := (true, "d2e9ac9fecadf1b5f1b1abb7ef305c6840ed122d0ba088ebc601674e707f7292"), looks := false }, kinds := [], alts := [], laidByText := true, laidKinds := [.data, .data, .data], laidTests := true, laidLooks := .later }
def JointSingleCardSaid : Prop := Claim7.holds Tryz.pinned (.plain (OpenSpec.ofChange jointSingleSpec)) jointSingleCard

/-- THE SECOND FORM's CARD OF 'estoppellaw38.JointEvidence'. -/
def jointEvidenceUptoCard : Claim7 := { stood := { row := jointEvidenceUptoRow, standIns := [], harness := (true, "d2e9ac9fecadf1b5f1b1abb7ef305c6840ed122d0ba088ebc601674e707f7292"), looks := false }, kinds := [], alts := [], laidByText := true, laidKinds := [.data, .data, .data], laidTests := true, laidLooks := .later }
def JointEvidenceUptoCardSaid : Prop := Claim7.holds Tryz.pinned (.plain (OpenSpec.upto jointEvidenceSpec)) jointEvidenceUptoCard

/-- THE SECOND FORM's CARD OF 'estoppellaw38.JointNarrows'. -/
def jointNarrowsUptoCard : Claim7 := { stood := { row := jointNarrowsUptoRow, standIns := [], harness := (true, "d2e9ac9fecadf1b5f1b1abb7ef305c6840ed122d0ba088ebc601674e707f7292"), looks := false }, kinds := [], alts := [], laidByText := true, laidKinds := [.data, .data, .data], laidTests := true, laidLooks := .later }
def JointNarrowsUptoCardSaid : Prop := Claim7.holds Tryz.pinned (.plain (OpenSpec.upto jointNarrowsSpec)) jointNarrowsUptoCard

/-- THE SECOND FORM's CARD OF 'estoppellaw38.JointFinal'. -/
def jointFinalUptoCard : Claim7 := { stood := { row := jointFinalUptoRow, standIns := [], harness := (true, "d2e9ac9fecadf1b5f1b1abb7ef305c6840ed122d0ba088ebc601674e707f7292"), looks := false }, kinds := [], alts := [], laidByText := true, laidKinds := [.data, .data, .data], laidTests := true, laidLooks := .later }
def JointFinalUptoCardSaid : Prop := Claim7.holds Tryz.pinned (.plain (OpenSpec.upto jointFinalSpec)) jointFinalUptoCard

/-- THE SECOND FORM's CARD OF 'estoppellaw38.JointVerdictOrder'. -/
def jointVerdictOrderUptoCard : Claim7 := { stood := { row := jointVerdictOrderUptoRow, standIns := [], harness := (true, "d2e9ac9fecadf1b5f1b1abb7ef305c6840ed122d0ba088ebc601674e707f7292"), looks := false }, kinds := [], alts := [], laidByText := true, laidKinds := [.data, .data, .data], laidTests := true, laidLooks := .later }
def JointVerdictOrderUptoCardSaid : Prop := Claim7.holds Tryz.pinned (.plain (OpenSpec.upto jointVerdictOrderSpec)) jointVerdictOrderUptoCard

/-- THE SECOND FORM's CARD OF 'estoppellaw38.JointTruth'. -/
def jointTruthUptoCard : Claim7 := { stood := { row := jointTruthUptoRow, standIns := [], harness := (true, "d2e9ac9fecadf1b5f1b1abb7ef305c6840ed122d0ba088ebc601674e707f7292"), looks := false }, kinds := [], alts := [], laidByText := true, laidKinds := [.data, .data, .data], laidTests := true, laidLooks := .later }
def JointTruthUptoCardSaid : Prop := Claim7.holds Tryz.pinned (.plain (OpenSpec.upto jointTruthSpec)) jointTruthUptoCard

/-- THE SECOND FORM's CARD OF 'estoppellaw38.JointSingle'. -/
def jointSingleUptoCard : Claim7 := { stood := { row := jointSingleUptoRow, standIns := [], harness := (true, "d2e9ac9fecadf1b5f1b1abb7ef305c6840ed122d0ba088ebc601674e707f7292"), looks := false }, kinds := [], alts := [], laidByText := true, laidKinds := [.data, .data, .data], laidTests := true, laidLooks := .later }
def JointSingleUptoCardSaid : Prop := Claim7.holds Tryz.pinned (.plain (OpenSpec.upto jointSingleSpec)) jointSingleUptoCard
end Rows
end Go.Proofs.YtpmdedcnbockhaaGreatDoor
