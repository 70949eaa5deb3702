/-
  DERIVED. GIVEN WITH THE SEED: THE CARDS: each row of YtfnnplicbjeifaaGreatDoorRows.lean that lists a variable, with what it lists TIED to the program's text (the seventh form; the later family's looks); each row that meets fmt, with fmt's text TOLD by the authors' own Lean function (tested against real Go, not proved from fmt's source: count such statements apart). THE CARD IS WHAT COUNTS. Prove the row's statement (the work); the ties are given (YtfnnplicbjeifaaGreatDoorTie.lean); close each card by the builder's one call (the guide's Derived/Test/ToyasCard.lean, 'card_holds'). Laid BY PROGRAM, IN A SANDBOX (cutbox-door.mjs). By AI agents, Wed Nov 11 2026. No macro, syntax, notation, axiom, sorry.
-/
import Derived.Test.YtfnnplicbjeifaaGreatDoorRows
import GoSem.ClaimSeven
namespace Go.Proofs.YtfnnplicbjeifaaGreatDoor
namespace Rows

/-- THE TIED CARD OF 'estoppellaw40.ArbiterComplete'. -/
def arbiterCompleteCard : Claim7 := { stood := { row := arbiterCompleteRow, standIns := [], harness := (true, "71cda62e59202d42247cf2f2f4c1c32a1cf37f1bf98c6bb61416a8feb8a929d6"), looks := true }, kinds := [], alts := [], laidByText := true, laidKinds := [.data, .data, .data], laidTests := true, laidLooks := .later }
def ArbiterCompleteCardSaid : Prop := Claim7.holds Tryz.pinned (.plain (OpenSpec.ofChange arbiterCompleteSpec)) arbiterCompleteCard

/-- THE TIED CARD OF 'estoppellaw40.ArbiterOne'. -/
def arbiterOneCard : Claim7 := { stood := { row := arbiterOneRow, standIns := [], harness := (true, "71cda62e59202d42247cf2f2f4c1c32a1cf37f1bf98c6bb61416a8feb8a929d6"), looks := true }, kinds := [], alts := [], laidByText := true, laidKinds := [.data, .data, .data], laidTests := true, laidLooks := .later }
def ArbiterOneCardSaid : Prop := Claim7.holds Tryz.pinned (.plain (OpenSpec.ofChange arbiterOneSpec)) arbiterOneCard

/-- THE TIED CARD OF 'estoppellaw40.ArbiterFiles'. -/
def arbiterFilesCard : Claim7 := { stood := { row := arbiterFilesRow, standIns := [], harness := (true, "71cda62e59202d42247cf2f2f4c1c32a1cf37f1bf98c6bb61416a8feb8a929d6"), looks := true }, kinds := [], alts := [], laidByText := true, laidKinds := [.data, .data, .data], laidTests := true, laidLooks := .later }
def ArbiterFilesCardSaid : Prop := Claim7.holds Tryz.pinned (.plain (OpenSpec.ofChange arbiterFilesSpec)) arbiterFilesCard

/-- THE TIED CARD OF 'estoppellaw40.ArbiterLarger'. -/
def arbiterLargerCard : Claim7 := { stood := { row := arbiterLargerRow, standIns := [], harness := (true, "71cda62e59202d42247cf2f2f4c1c32a1cf37f1bf98c6bb61416a8feb8a929d6"), looks := true }, kinds := [], alts := [], laidByText := true, laidKinds := [.data, .data, .data], laidTests := true, laidLooks := .later }
def ArbiterLargerCardSaid : Prop := Claim7.holds Tryz.pinned (.plain (OpenSpec.ofChange arbiterLargerSpec)) arbiterLargerCard

/-- THE TIED CARD OF 'estoppellaw40.ArbiterTraces'. -/
def arbiterTracesCard : Claim7 := { stood := { row := arbiterTracesRow, standIns := [], harness := (true, "71cda62e59202d42247cf2f2f4c1c32a1cf37f1bf98c6bb61416a8feb8a929d6"), looks := true }, kinds := [], alts := [], laidByText := true, laidKinds := [.data, .data, .data], laidTests := true, laidLooks := .later }
def ArbiterTracesCardSaid : Prop := Claim7.holds Tryz.pinned (.plain (OpenSpec.ofChange arbiterTracesSpec)) arbiterTracesCard

/-- THE TIED CARD OF 'estoppellaw40.ArbiterRight'. -/
def arbiterRightCard : Claim7 := { stood := { row := arbiterRightRow, standIns := [], harness := (true, "71cda62e59202d42247cf2f2f4c1c32a1cf37f1bf98c6bb61416a8feb8a929d6"), looks := true }, kinds := [], alts := [], laidByText := true, laidKinds := [.data, .data, .data], laidTests := true, laidLooks := .later }
def ArbiterRightCardSaid : Prop := Claim7.holds Tryz.pinned (.plain (OpenSpec.ofChange arbiterRightSpec)) arbiterRightCard

/-- THE TIED CARD OF 'estoppellaw40.ArbiterAdvice'. -/
def arbiterAdviceCard : Claim7 := { stood := { row := arbiterAdviceRow, standIns := [], harness := (true, "71cda62e59202d42247cf2f2f4c1c32a1cf37f1bf98c6bb61416a8feb8a929d6"), looks := true }, kinds := [], alts := [], laidByText := true, laidKinds := [.data, .data, .data], laidTests := true, laidLooks := .later }
def ArbiterAdviceCardSaid : Prop := Claim7.holds Tryz.pinned (.plain (OpenSpec.ofChange arbiterAdviceSpec)) arbiterAdviceCard

/-- THE SECOND FORM's CARD OF 'estoppellaw40.ArbiterComplete'. -/
def arbiterCompleteUptoCard : Claim7 := { stood := { row := arbiterCompleteUptoRow, standIns := [], harness := (true, "71cda62e59202d42247cf2f2f4c1c32a1cf37f1bf98c6bb61416a8feb8a929d6"), looks := true }, kinds := [], alts := [], laidByText := true, laidKinds := [.data, .data, .data], laidTests := true, laidLooks := .later }
def ArbiterCompleteUptoCardSaid : Prop := Claim7.holds Tryz.pinned (.plain (OpenSpec.upto arbiterCompleteSpec)) arbiterCompleteUptoCard

/-- THE SECOND FORM's CARD OF 'estoppellaw40.ArbiterOne'. -/
def arbiterOneUptoCard : Claim7 := { stood := { row := arbiterOneUptoRow, standIns := [], harness := (true, "71cda62e59202d42247cf2f2f4c1c32a1cf37f1bf98c6bb61416a8feb8a929d6"), looks := true }, kinds := [], alts := [], laidByText := true, laidKinds := [.data, .data, .data], laidTests := true, laidLooks := .later }
def ArbiterOneUptoCardSaid : Prop := Claim7.holds Tryz.pinned (.plain (OpenSpec.upto arbiterOneSpec)) arbiterOneUptoCard

/-- THE SECOND FORM's CARD OF 'estoppellaw40.ArbiterFiles'. -/
def arbiterFilesUptoCard : Claim7 := { stood := { row := arbiterFilesUptoRow, standIns := [], harness := (true, "71cda62e59202d42247cf2f2f4c1c32a1cf37f1bf98c6bb61416a8feb8a929d6"), looks := true }, kinds := [], alts := [], laidByText := true, laidKinds := [.data, .data, .data], laidTests := true, laidLooks := .later }
def ArbiterFilesUptoCardSaid : Prop := Claim7.holds Tryz.pinned (.plain (OpenSpec.upto arbiterFilesSpec)) arbiterFilesUptoCard

/-- THE SECOND FORM's CARD OF 'estoppellaw40.ArbiterLarger'. -/
def arbiterLargerUptoCard : Claim7 := { stood := { row := arbiterLargerUptoRow, standIns := [], harness := (true, "71cda62e59202d42247cf2f2f4c1c32a1cf37f1bf98c6bb61416a8feb8a929d6"), looks := true }, kinds := [], alts := [], laidByText := true, laidKinds := [.data, .data, .data], laidTests := true, laidLooks := .later }
def ArbiterLargerUptoCardSaid : Prop := Claim7.holds Tryz.pinned (.plain (OpenSpec.upto arbiterLargerSpec)) arbiterLargerUptoCard

/-- THE SECOND FORM's CARD OF 'estoppellaw40.ArbiterTraces'. -/
def arbiterTracesUptoCard : Claim7 := { stood := { row := arbiterTracesUptoRow, standIns := [], harness := (true, "71cda62e59202d42247cf2f2f4c1c32a1cf37f1bf98c6bb61416a8feb8a929d6"), looks := true }, kinds := [], alts := [], laidByText := true, laidKinds := [.data, .data, .data], laidTests := true, laidLooks := .later }
def ArbiterTracesUptoCardSaid : Prop := Claim7.holds Tryz.pinned (.plain (OpenSpec.upto arbiterTracesSpec)) arbiterTracesUptoCard

/-- THE SECOND FORM's CARD OF 'estoppellaw40.ArbiterRight'. -/
def arbiterRightUptoCard : Claim7 := { stood := { row := arbiterRightUptoRow, standIns := [], harness := (true, "71cda62e59202d42247cf2f2f4c1c32a1cf37f1bf98c6bb61416a8feb8a929d6"), looks := true }, kinds := [], alts := [], laidByText := true, laidKinds := [.data, .data, .data], laidTests := true, laidLooks := .later }
def ArbiterRightUptoCardSaid : Prop := Claim7.holds Tryz.pinned (.plain (OpenSpec.upto arbiterRightSpec)) arbiterRightUptoCard

/-- THE SECOND FORM's CARD OF 'estoppellaw40.ArbiterAdvice'. -/
def arbiterAdviceUptoCard : Claim7 := { stood := { row := arbiterAdviceUptoRow, standIns := [], harness := (true, "71cda62e59202d42247cf2f2f4c1c32a1cf37f1bf98c6bb61416a8feb8a929d6"), looks := true }, kinds := [], alts := [], laidByText := true, laidKinds := [.data, .data, .data], laidTests := true, laidLooks := .later }
def ArbiterAdviceUptoCardSaid : Prop := Claim7.holds Tryz.pinned (.plain (OpenSpec.upto arbiterAdviceSpec)) arbiterAdviceUptoCard
end Rows
end Go.Proofs.YtfnnplicbjeifaaGreatDoor
