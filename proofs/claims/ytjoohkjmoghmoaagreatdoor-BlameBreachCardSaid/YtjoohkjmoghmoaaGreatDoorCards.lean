/-
  DERIVED. GIVEN WITH THE SEED: THE CARDS: each row of YtjoohkjmoghmoaaGreatDoorRows.lean that lists a variable, with what it lists TIED to the program's text (the seventh form; the later family's looks); each row that meets fmt, with fmt's text TOLD by the authors' own Lean function (tested against real Go, not proved from fmt's source: count such statements apart). THE CARD IS WHAT COUNTS. Prove the row's statement (the work); the ties are given (YtjoohkjmoghmoaaGreatDoorTie.lean); close each card by the builder's one call (the guide's Derived/Test/ToyasCard.lean, 'card_holds'). Laid BY PROGRAM, IN A SANDBOX (cutbox-door.mjs). By AI agents, Wed Nov 11 2026. No macro, syntax, notation, axiom, sorry.
-/
import Derived.Test.YtjoohkjmoghmoaaGreatDoorRows
import GoSem.ClaimSeven
namespace Go.Proofs.YtjoohkjmoghmoaaGreatDoor
namespace Rows

/-- THE TIED CARD OF 'estoppellaw39.BlameFirst'. -/
def blameFirstCard : Claim7 := { stood := { row := blameFirstRow, standIns := [], harness := (true, "09f7100ab1b08c9e72633af735441f2cf748f250262807a63709fe6831dd9ee8"), looks := true }, kinds := [], alts := [], laidByText := true, laidKinds := [.data, .data, .data], laidTests := true, laidLooks := .later }
def BlameFirstCardSaid : Prop := Claim7.holds Tryz.pinned (.plain (OpenSpec.ofChange blameFirstSpec)) blameFirstCard

/-- THE TIED CARD OF 'estoppellaw39.BlameOne'. -/
def blameOneCard : Claim7 := { stood := { row := blameOneRow, standIns := [], harness := (true, "09f7100ab1b08c9e72633af735441f2cf748f250262807a63709fe6831dd9ee8"), looks := true }, kinds := [], alts := [], laidByText := true, laidKinds := [.data, .data, .data], laidTests := true, laidLooks := .later }
def BlameOneCardSaid : Prop := Claim7.holds Tryz.pinned (.plain (OpenSpec.ofChange blameOneSpec)) blameOneCard

/-- THE TIED CARD OF 'estoppellaw39.BlameBreach'. -/
def blameBreachCard : Claim7 := { stood := { row := blameBreachRow, standIns := [], harness := (true, "09f7100ab1b08c9e72633af735441f2cf748f250262807a63709fe6831dd9ee8"), looks := true }, kinds := [], alts := [], laidByText := true, laidKinds := [.data, .data, .data], laidTests := true, laidLooks := .later }
def BlameBreachCardSaid : Prop := Claim7.holds Tryz.pinned (.plain (OpenSpec.ofChange blameBreachSpec)) blameBreachCard

/-- THE TIED CARD OF 'estoppellaw39.BlameAdvice'. -/
def blameAdviceCard : Claim7 := { stood := { row := blameAdviceRow, standIns := [], harness := (true, "09f7100ab1b08c9e72633af735441f2cf748f250262807a63709fe6831dd9ee8"), looks := true }, kinds := [], alts := [], laidByText := true, laidKinds := [.data, .data, .data], laidTests := true, laidLooks := .later }
def BlameAdviceCardSaid : Prop := Claim7.holds Tryz.pinned (.plain (OpenSpec.ofChange blameAdviceSpec)) blameAdviceCard

/-- THE TIED CARD OF 'estoppellaw39.BlameProofs'. -/
def blameProofsCard : Claim7 := { stood := { row := blameProofsRow, standIns := [], harness := (true, "09f7100ab1b08c9e72633af735441f2cf748f250262807a63709fe6831dd9ee8"), looks := true }, kinds := [], alts := [], laidByText := true, laidKinds := [.data, .data, .data], laidTests := true, laidLooks := .later }
def BlameProofsCardSaid : Prop := Claim7.holds Tryz.pinned (.plain (OpenSpec.ofChange blameProofsSpec)) blameProofsCard

/-- THE SECOND FORM's CARD OF 'estoppellaw39.BlameFirst'. -/
def blameFirstUptoCard : Claim7 := { stood := { row := blameFirstUptoRow, standIns := [], harness := (true, "09f7100ab1b08c9e72633af735441f2cf748f250262807a63709fe6831dd9ee8"), looks := true }, kinds := [], alts := [], laidByText := true, laidKinds := [.data, .data, .data], laidTests := true, laidLooks := .later }
def BlameFirstUptoCardSaid : Prop := Claim7.holds Tryz.pinned (.plain (OpenSpec.upto blameFirstSpec)) blameFirstUptoCard

/-- THE SECOND FORM's CARD OF 'estoppellaw39.BlameOne'. -/
def blameOneUptoCard : Claim7 := { stood := { row := blameOneUptoRow, standIns := [], harness := (true, "09f7100ab1b08c9e72633af735441f2cf748f250262807a63709fe6831dd9ee8"), looks := true }, kinds := [], alts := [], laidByText := true, laidKinds := [.data, .data, .data], laidTests := true, laidLooks := .later }
def BlameOneUptoCardSaid : Prop := Claim7.holds Tryz.pinned (.plain (OpenSpec.upto blameOneSpec)) blameOneUptoCard

/-- THE SECOND FORM's CARD OF 'estoppellaw39.BlameBreach'. -/
def blameBreachUptoCard : Claim7 := { stood := { row := blameBreachUptoRow, standIns := [], harness := (true, "09f7100ab1b08c9e72633af735441f2cf748f250262807a63709fe6831dd9ee8"), looks := true }, kinds := [], alts := [], laidByText := true, laidKinds := [.data, .data, .data], laidTests := true, laidLooks := .later }
def BlameBreachUptoCardSaid : Prop := Claim7.holds Tryz.pinned (.plain (OpenSpec.upto blameBreachSpec)) blameBreachUptoCard

/-- THE SECOND FORM's CARD OF 'estoppellaw39.BlameAdvice'. -/
def blameAdviceUptoCard : Claim7 := { stood := { row := blameAdviceUptoRow, standIns := [], harness := (true, "09f7100ab1b08c9e72633af735441f2cf748f250262807a63709fe6831dd9ee8"), looks := true }, kinds := [], alts := [], laidByText := true, laidKinds := [.data, .data, .data], laidTests := true, laidLooks := .later }
def BlameAdviceUptoCardSaid : Prop := Claim7.holds Tryz.pinned (.plain (OpenSpec.upto blameAdviceSpec)) blameAdviceUptoCard

/-- THE SECOND FORM's CARD OF 'estoppellaw39.BlameProofs'. -/
def blameProofsUptoCard : Claim7 := { stood := { row := blameProofsUptoRow, standIns := [], harness := (true, "09f7100ab1b08c9e72633af735441f2cf748f250262807a63709fe6831dd9ee8"), looks := true }, kinds := [], alts := [], laidByText := true, laidKinds := [.data, .data, .data], laidTests := true, laidLooks := .later }
def BlameProofsUptoCardSaid : Prop := Claim7.holds Tryz.pinned (.plain (OpenSpec.upto blameProofsSpec)) blameProofsUptoCard
end Rows
end Go.Proofs.YtjoohkjmoghmoaaGreatDoor
