/-
  DERIVED. GIVEN WITH THE SEED: THE CARDS: each row of YtaielhafpmjkaaaGreatDoorRows.lean that lists a variable, with what it lists TIED to the program's text (the seventh form; the later family's looks); each row that meets fmt, with fmt's text TOLD by the authors' own Lean function (tested against real Go, not proved from fmt's source: count such statements apart). THE CARD IS WHAT COUNTS. Prove the row's statement (the work); the ties are given (YtaielhafpmjkaaaGreatDoorTie.lean); close each card by the builder's one call (the guide's Derived/Test/ToyasCard.lean, 'card_holds'). Laid BY PROGRAM, IN A SANDBOX (cutbox-door.mjs). By AI agents, Wed Nov 11 2026. No macro, syntax, notation, axiom, sorry.
-/
import Derived.Test.YtaielhafpmjkaaaGreatDoorRows
import GoSem.ClaimSeven
namespace Go.Proofs.YtaielhafpmjkaaaGreatDoor
namespace Rows

/-- THE TIED CARD OF 'estoppellaw37.MonitorGives'. -/
def monitorGivesCard : Claim7 := { stood := { row := monitorGivesRow, standIns := [], harness := (true, "4668ca2afee86f15cf9eafea1097f7986bb4278faef9706580cc91a018de526f"), looks := false }, kinds := [], alts := [], laidByText := true, laidKinds := [.data, .data, .data], laidTests := true, laidLooks := .later }
def MonitorGivesCardSaid : Prop := Claim7.holds Tryz.pinned (.plain (OpenSpec.ofChange monitorGivesSpec)) monitorGivesCard

/-- THE TIED CARD OF 'estoppellaw37.MonitorFinal'. -/
def monitorFinalCard : Claim7 := { stood := { row := monitorFinalRow, standIns := [], harness := (true, "4668ca2afee86f15cf9eafea1097f7986bb4278faef9706580cc91a018de526f"), looks := false }, kinds := [], alts := [], laidByText := true, laidKinds := [.data, .data, .data], laidTests := true, laidLooks := .later }
def MonitorFinalCardSaid : Prop := Claim7.holds Tryz.pinned (.plain (OpenSpec.ofChange monitorFinalSpec)) monitorFinalCard

/-- THE TIED CARD OF 'estoppellaw37.MonitorClosed'. -/
def monitorClosedCard : Claim7 := { stood := { row := monitorClosedRow, standIns := [], harness := (true, "4668ca2afee86f15cf9eafea1097f7986bb4278faef9706580cc91a018de526f"), looks := false }, kinds := [], alts := [], laidByText := true, laidKinds := [.data, .data, .data], laidTests := true, laidLooks := .later }
def MonitorClosedCardSaid : Prop := Claim7.holds Tryz.pinned (.plain (OpenSpec.ofChange monitorClosedSpec)) monitorClosedCard

/-- THE TIED CARD OF 'estoppellaw37.MonitorVerdicts'. -/
def monitorVerdictsCard : Claim7 := { stood := { row := monitorVerdictsRow, standIns := [], harness := (true, "4668ca2afee86f15cf9eafea1097f7986bb4278faef9706580cc91a018de526f"), looks := false }, kinds := [], alts := [], laidByText := true, laidKinds := [.data, .data, .data], laidTests := true, laidLooks := .later }
def MonitorVerdictsCardSaid : Prop := Claim7.holds Tryz.pinned (.plain (OpenSpec.ofChange monitorVerdictsSpec)) monitorVerdictsCard

/-- THE TIED CARD OF 'estoppellaw37.MonitorTruth'. -/
def monitorTruthCard : Claim7 := { stood := { row := monitorTruthRow, standIns := [], harness := (true, "4668ca2afee86f15cf9eafea1097f7986bb4278faef9706580cc91a018de526f"), looks := false }, kinds := [], alts := [], laidByText := true, laidKinds := [.data, .data, .data], laidTests := true, laidLooks := .later }
def MonitorTruthCardSaid : Prop := Claim7.holds Tryz.pinned (.plain (OpenSpec.ofChange monitorTruthSpec)) monitorTruthCard

/-- THE TIED CARD OF 'estoppellaw37.MonitorViews'. -/
def monitorViewsCard : Claim7 := { stood := { row := monitorViewsRow, standIns := [], harness := (true, "4668ca2afee86f15cf9eafea1097f7986bb4278faef9706580cc91a018de526f"), looks := false }, kinds := [], alts := [], laidByText := true, laidKinds := [.data, .data, .data], laidTests := true, laidLooks := .later }
def MonitorViewsCardSaid : Prop := Claim7.holds Tryz.pinned (.plain (OpenSpec.ofChange monitorViewsSpec)) monitorViewsCard

/-- THE TIED CARD OF 'estoppellaw37.MonitorPublic'. -/
def monitorPublicCard : Claim7 := { stood := { row := monitorPublicRow, standIns := [], harness := (true, "4668ca2afee86f15cf9eafea1097f7986bb4278faef9706580cc91a018de526f"), looks := false }, kinds := [], alts := [], laidByText := true, laidKinds := [.data, .data, .data], laidTests := true, laidLooks := .later }
def MonitorPublicCardSaid : Prop := Claim7.holds Tryz.pinned (.plain (OpenSpec.ofChange monitorPublicSpec)) monitorPublicCard

/-- THE TIED CARD OF 'estoppellaw37.MonitorOwn'. -/
def monitorOwnCard : Claim7 := { stood := { row := monitorOwnRow, standIns := [], harness := (true, "4668ca2afee86f15cf9eafea1097f7986bb4278faef9706580cc91a018de526f"), looks := false }, kinds := [], alts := [], laidByText := true, laidKinds := [.data, .data, .data], laidTests := true, laidLooks := .later }
def MonitorOwnCardSaid : Prop := Claim7.holds Tryz.pinned (.plain (OpenSpec.ofChange monitorOwnSpec)) monitorOwnCard

/-- THE SECOND FORM's CARD OF 'estoppellaw37.MonitorGives'. -/
def monitorGivesUptoCard : Claim7 := { stood := { row := monitorGivesUptoRow, standIns := [], harness := (true, "4668ca2afee86f15cf9eafea1097f7986bb4278faef9706580cc91a018de526f"), looks := false }, kinds := [], alts := [], laidByText := true, laidKinds := [.data, .data, .data], laidTests := true, laidLooks := .later }
def MonitorGivesUptoCardSaid : Prop := Claim7.holds Tryz.pinned (.plain (OpenSpec.upto monitorGivesSpec)) monitorGivesUptoCard

/-- THE SECOND FORM's CARD OF 'estoppellaw37.MonitorFinal'. -/
def monitorFinalUptoCard : Claim7 := { stood := { row := monitorFinalUptoRow, standIns := [], harness := (true, "4668ca2afee86f15cf9eafea1097f7986bb4278faef9706580cc91a018de526f"), looks := false }, kinds := [], alts := [], laidByText := true, laidKinds := [.data, .data, .data], laidTests := true, laidLooks := .later }
def MonitorFinalUptoCardSaid : Prop := Claim7.holds Tryz.pinned (.plain (OpenSpec.upto monitorFinalSpec)) monitorFinalUptoCard

/-- THE SECOND FORM's CARD OF 'estoppellaw37.MonitorClosed'. -/
def monitorClosedUptoCard : Claim7 := { stood := { row := monitorClosedUptoRow, standIns := [], harness := (true, "4668ca2afee86f15cf9eafea1097f7986bb4278faef9706580cc91a018de526f"), looks := false }, kinds := [], alts := [], laidByText := true, laidKinds := [.data, .data, .data], laidTests := true, laidLooks := .later }
def MonitorClosedUptoCardSaid : Prop := Claim7.holds Tryz.pinned (.plain (OpenSpec.upto monitorClosedSpec)) monitorClosedUptoCard

/-- THE SECOND FORM's CARD OF 'estoppellaw37.MonitorVerdicts'. -/
def monitorVerdictsUptoCard : Claim7 := { stood := { row := monitorVerdictsUptoRow, standIns := [], harness := (true, "4668ca2afee86f15cf9eafea1097f7986bb4278faef9706580cc91a018de526f"), looks := false }, kinds := [], alts := [], laidByText := true, laidKinds := [.data, .data, .data], laidTests := true, laidLooks := .later }
def MonitorVerdictsUptoCardSaid : Prop := Claim7.holds Tryz.pinned (.plain (OpenSpec.upto monitorVerdictsSpec)) monitorVerdictsUptoCard

/-- THE SECOND FORM's CARD OF 'estoppellaw37.MonitorTruth'. -/
def monitorTruthUptoCard : Claim7 := { stood := { row := monitorTruthUptoRow, standIns := [], harness := (true, "4668ca2afee86f15cf9eafea1097f7986bb4278faef9706580cc91a018de526f"), looks := false }, kinds := [], alts := [], laidByText := true, laidKinds := [.data, .data, .data], laidTests := true, laidLooks := .later }
def MonitorTruthUptoCardSaid : Prop := Claim7.holds Tryz.pinned (.plain (OpenSpec.upto monitorTruthSpec)) monitorTruthUptoCard

/-- THE SECOND FORM's CARD OF 'estoppellaw37.MonitorViews'. -/
def monitorViewsUptoCard : Claim7 := { stood := { row := monitorViewsUptoRow, standIns := [], harness := (true, "4668ca2afee86f15cf9eafea1097f7986bb4278faef9706580cc91a018de526f"), looks := false }, kinds := [], alts := [], laidByText := true, laidKinds := [.data, .data, .data], laidTests := true, laidLooks := .later }
def MonitorViewsUptoCardSaid : Prop := Claim7.holds Tryz.pinned (.plain (OpenSpec.upto monitorViewsSpec)) monitorViewsUptoCard

/-- THE SECOND FORM's CARD OF 'estoppellaw37.MonitorPublic'. -/
def monitorPublicUptoCard : Claim7 := { stood := { row := monitorPublicUptoRow, standIns := [], harness := (true, "4668ca2afee86f15cf9eafea1097f7986bb4278faef9706580cc91a018de526f"), looks := false }, kinds := [], alts := [], laidByText := true, laidKinds := [.data, .data, .data], laidTests := true, laidLooks := .later }
def MonitorPublicUptoCardSaid : Prop := Claim7.holds Tryz.pinned (.plain (OpenSpec.upto monitorPublicSpec)) monitorPublicUptoCard

/-- THE SECOND FORM's CARD OF 'estoppellaw37.MonitorOwn'. -/
def monitorOwnUptoCard : Claim7 := { stood := { row := monitorOwnUptoRow, standIns := [], harness := (true, "4668ca2afee86f15cf9eafea1097f7986bb4278faef9706580cc91a018de526f"), looks := false }, kinds := [], alts := [], laidByText := true, laidKinds := [.data, .data, .data], laidTests := true, laidLooks := .later }
def MonitorOwnUptoCardSaid : Prop := Claim7.holds Tryz.pinned (.plain (OpenSpec.upto monitorOwnSpec)) monitorOwnUptoCard
end Rows
end Go.Proofs.YtaielhafpmjkaaaGreatDoor
