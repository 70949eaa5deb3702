/-
  No cell of these rows narrows 'for every input' (looked for: loops, veiled, ifaces, maps, wideKeys, modest, calm, conditions, laid).
  DERIVED. THE GIVEN ROWS OF THIS SEAT. 7 by the template 'for every input the law returns true; each argument reads behind the call as it read before'; 0 by the template 'total and deterministic' (their statements: YtfpiiehdmdmoeaaTotals.lean).
  GIVEN WITH THE SEED: the statements are not yours to turn. If you find one false, say at which input.
  Laid BY PROGRAM, IN A SANDBOX (cutbox-rows.mjs): the forced cells as the released guide's own fill.sh prints them over the translation 1b46c4d61ff8f363… (all of the seat's roots in one cut). By AI agents, Wed Nov 11 2026. No macro, syntax, notation, axiom, sorry.
-/
import Derived.Test.YtfpiiehdmdmoeaaChecked
import GoSem.Claim
import GoSem.ClaimJoined
import GoSem.ClaimMapViews
import Derived.JoinedTies
import Derived.KernelRfl
namespace Go.Proofs.Ytfpiiehdmdmoeaa
/- THE CELL 'sum', in the pinned program and in every row, IS THE sha256 OF THE DUMP (.gsa) THAT YtfpiiehdmdmoeaaProg.lean LOADS. Nothing in Lean hashes anything: it is a label: what it is worth is what the hold of that sum in a sandbox is worth. -/
noncomputable def Try.pinned : Pinned := { name := "ytfpiiehdmdmoeaa", sum := "1b46c4d61ff8f363700fef07ad721b469b4ac5c1bc20d428693c2db284cb9d1d", checked := Try.checked }
namespace Rows
def none {H : Type} : Left H := { results := [], args := [] }

/-- 'estoppellaw46.NetworkMatchesReference': WHATEVER THE INPUT: true; the input reads as it did. -/
def networkMatchesReferenceSpec : ChangeSpec := { name := "networkMatchesReference", fn := fun _ => fun
  | [d1, d2, d3] => { results := [.lit (.bool true)], args := [d1, d2, d3] }
  | _ => none }
def networkMatchesReferenceRow : OpenClaim := { program := "ytfpiiehdmdmoeaa", sum := "1b46c4d61ff8f363700fef07ad721b469b4ac5c1bc20d428693c2db284cb9d1d", func := "estoppel/estoppellaw46.NetworkMatchesReference", spec := "networkMatchesReference", inPlace := ["slices.overlaps[estoppel/network.flight]"], apart := false }
def NetworkMatchesReferenceSaid : Prop := networkMatchesReferenceRow.holds Try.pinned (OpenSpec.ofChange networkMatchesReferenceSpec)

/-- ITS FALSE NEIGHBOUR: 'it returns false'. Refute it at one input. -/
def networkMatchesReferenceWrong : ChangeSpec := { name := "networkMatchesReference", fn := fun _ => fun
  | [d1, d2, d3] => { results := [.lit (.bool false)], args := [d1, d2, d3] }
  | _ => none }
def NetworkMatchesReferenceWrongFalsely : Prop := networkMatchesReferenceRow.holds Try.pinned (OpenSpec.ofChange networkMatchesReferenceWrong)

/-- 'estoppellaw46.NetworkInvents': WHATEVER THE INPUT: true; the input reads as it did. -/
def networkInventsSpec : ChangeSpec := { name := "networkInvents", fn := fun _ => fun
  | [d1, d2, d3] => { results := [.lit (.bool true)], args := [d1, d2, d3] }
  | _ => none }
def networkInventsRow : OpenClaim := { program := "ytfpiiehdmdmoeaa", sum := "1b46c4d61ff8f363700fef07ad721b469b4ac5c1bc20d428693c2db284cb9d1d", func := "estoppel/estoppellaw46.NetworkInvents", spec := "networkInvents", inPlace := ["slices.overlaps[estoppel/network.flight]"], apart := false }
def NetworkInventsSaid : Prop := networkInventsRow.holds Try.pinned (OpenSpec.ofChange networkInventsSpec)

/-- ITS FALSE NEIGHBOUR: 'it returns false'. Refute it at one input. -/
def networkInventsWrong : ChangeSpec := { name := "networkInvents", fn := fun _ => fun
  | [d1, d2, d3] => { results := [.lit (.bool false)], args := [d1, d2, d3] }
  | _ => none }
def NetworkInventsWrongFalsely : Prop := networkInventsRow.holds Try.pinned (OpenSpec.ofChange networkInventsWrong)

/-- 'estoppellaw46.NetworkConserves': WHATEVER THE INPUT: true; the input reads as it did. -/
def networkConservesSpec : ChangeSpec := { name := "networkConserves", fn := fun _ => fun
  | [d1, d2, d3] => { results := [.lit (.bool true)], args := [d1, d2, d3] }
  | _ => none }
def networkConservesRow : OpenClaim := { program := "ytfpiiehdmdmoeaa", sum := "1b46c4d61ff8f363700fef07ad721b469b4ac5c1bc20d428693c2db284cb9d1d", func := "estoppel/estoppellaw46.NetworkConserves", spec := "networkConserves", inPlace := ["slices.overlaps[estoppel/network.flight]"], apart := false }
def NetworkConservesSaid : Prop := networkConservesRow.holds Try.pinned (OpenSpec.ofChange networkConservesSpec)

/-- ITS FALSE NEIGHBOUR: 'it returns false'. Refute it at one input. -/
def networkConservesWrong : ChangeSpec := { name := "networkConserves", fn := fun _ => fun
  | [d1, d2, d3] => { results := [.lit (.bool false)], args := [d1, d2, d3] }
  | _ => none }
def NetworkConservesWrongFalsely : Prop := networkConservesRow.holds Try.pinned (OpenSpec.ofChange networkConservesWrong)

/-- 'estoppellaw46.NetworkEnds': WHATEVER THE INPUT: true; the input reads as it did. -/
def networkEndsSpec : ChangeSpec := { name := "networkEnds", fn := fun _ => fun
  | [d1, d2, d3] => { results := [.lit (.bool true)], args := [d1, d2, d3] }
  | _ => none }
def networkEndsRow : OpenClaim := { program := "ytfpiiehdmdmoeaa", sum := "1b46c4d61ff8f363700fef07ad721b469b4ac5c1bc20d428693c2db284cb9d1d", func := "estoppel/estoppellaw46.NetworkEnds", spec := "networkEnds", inPlace := ["slices.overlaps[estoppel/network.flight]"], apart := false }
def NetworkEndsSaid : Prop := networkEndsRow.holds Try.pinned (OpenSpec.ofChange networkEndsSpec)

/-- ITS FALSE NEIGHBOUR: 'it returns false'. Refute it at one input. -/
def networkEndsWrong : ChangeSpec := { name := "networkEnds", fn := fun _ => fun
  | [d1, d2, d3] => { results := [.lit (.bool false)], args := [d1, d2, d3] }
  | _ => none }
def NetworkEndsWrongFalsely : Prop := networkEndsRow.holds Try.pinned (OpenSpec.ofChange networkEndsWrong)

/-- 'estoppellaw46.NetworkDelays': WHATEVER THE INPUT: true; the input reads as it did. -/
def networkDelaysSpec : ChangeSpec := { name := "networkDelays", fn := fun _ => fun
  | [d1, d2, d3, d4] => { results := [.lit (.bool true)], args := [d1, d2, d3, d4] }
  | _ => none }
def networkDelaysRow : OpenClaim := { program := "ytfpiiehdmdmoeaa", sum := "1b46c4d61ff8f363700fef07ad721b469b4ac5c1bc20d428693c2db284cb9d1d", func := "estoppel/estoppellaw46.NetworkDelays", spec := "networkDelays", inPlace := ["slices.overlaps[estoppel/network.flight]"], apart := false }
def NetworkDelaysSaid : Prop := networkDelaysRow.holds Try.pinned (OpenSpec.ofChange networkDelaysSpec)

/-- ITS FALSE NEIGHBOUR: 'it returns false'. Refute it at one input. -/
def networkDelaysWrong : ChangeSpec := { name := "networkDelays", fn := fun _ => fun
  | [d1, d2, d3, d4] => { results := [.lit (.bool false)], args := [d1, d2, d3, d4] }
  | _ => none }
def NetworkDelaysWrongFalsely : Prop := networkDelaysRow.holds Try.pinned (OpenSpec.ofChange networkDelaysWrong)

/-- 'estoppellaw46.NetworkHouses': WHATEVER THE INPUT: true; the input reads as it did. -/
def networkHousesSpec : ChangeSpec := { name := "networkHouses", fn := fun _ => fun
  | [d1, d2, d3, d4] => { results := [.lit (.bool true)], args := [d1, d2, d3, d4] }
  | _ => none }
def networkHousesRow : OpenClaim := { program := "ytfpiiehdmdmoeaa", sum := "1b46c4d61ff8f363700fef07ad721b469b4ac5c1bc20d428693c2db284cb9d1d", func := "estoppel/estoppellaw46.NetworkHouses", spec := "networkHouses", inPlace := ["slices.overlaps[estoppel/network.flight]"], apart := false }
def NetworkHousesSaid : Prop := networkHousesRow.holds Try.pinned (OpenSpec.ofChange networkHousesSpec)

/-- ITS FALSE NEIGHBOUR: 'it returns false'. Refute it at one input. -/
def networkHousesWrong : ChangeSpec := { name := "networkHouses", fn := fun _ => fun
  | [d1, d2, d3, d4] => { results := [.lit (.bool false)], args := [d1, d2, d3, d4] }
  | _ => none }
def NetworkHousesWrongFalsely : Prop := networkHousesRow.holds Try.pinned (OpenSpec.ofChange networkHousesWrong)

/-- 'estoppellaw46.NetworkFates': WHATEVER THE INPUT: true; the input reads as it did. -/
def networkFatesSpec : ChangeSpec := { name := "networkFates", fn := fun _ => fun
  | [d1, d2, d3, d4] => { results := [.lit (.bool true)], args := [d1, d2, d3, d4] }
  | _ => none }
def networkFatesRow : OpenClaim := { program := "ytfpiiehdmdmoeaa", sum := "1b46c4d61ff8f363700fef07ad721b469b4ac5c1bc20d428693c2db284cb9d1d", func := "estoppel/estoppellaw46.NetworkFates", spec := "networkFates", inPlace := ["slices.overlaps[estoppel/network.flight]"], apart := false }
def NetworkFatesSaid : Prop := networkFatesRow.holds Try.pinned (OpenSpec.ofChange networkFatesSpec)

/-- ITS FALSE NEIGHBOUR: 'it returns false'. Refute it at one input. -/
def networkFatesWrong : ChangeSpec := { name := "networkFates", fn := fun _ => fun
  | [d1, d2, d3, d4] => { results := [.lit (.bool false)], args := [d1, d2, d3, d4] }
  | _ => none }
def NetworkFatesWrongFalsely : Prop := networkFatesRow.holds Try.pinned (OpenSpec.ofChange networkFatesWrong)

/- THE SECOND FORM. 'bulk': how many values and letters a reading holds, each counted each time it is reached (what is shared counts as often as it is met; a slice's spare places count too). A statement '..UptoSaid' is the law's where the arguments, and the package variables that the reading takes, are together of bulk at most 1048576: NARROWER than '..Said'. Prove '..Said' where nothing that the law and all that it calls make is longer than what came in: it says more and counts as full. Else prove '..UptoSaid'. A law counts once. -/
mutual
def uptoBulk {H : Type} : DataW H → Nat
  | .lit (.string bytes) => bytes.length + 1
  | .lit _ => 1
  | .nil => 1
  | .ptr d => uptoBulk d + 1
  | .slice elems spare => uptoBulkAll elems + uptoBulkAll spare + 1
  | .agg parts => uptoBulkAll parts + 1
  | .iface _ d => uptoBulk d + 1
  | .map entries => uptoBulkEntries entries + 1
  | .held _ => 1
def uptoBulkAll {H : Type} : List (DataW H) → Nat
  | [] => 0
  | d :: r => uptoBulk d + uptoBulkAll r
def uptoBulkEntries {H : Type} : List (Lit × DataW H) → Nat
  | [] => 0
  | x :: r => uptoBulkEntry x + uptoBulkEntries r
def uptoBulkEntry {H : Type} : Lit × DataW H → Nat
  | (.string bytes, d) => bytes.length + uptoBulk d + 1
  | (_, d) => uptoBulk d + 1
 end
def uptoSmall : (H : Type) → List (DataW H) → Bool := fun _ ds => decide (uptoBulkAll ds ≤ 1048576)
def OpenSpec.upto (s : _root_.Go.ChangeSpec) : _root_.Go.OpenSpec := { _root_.Go.OpenSpec.ofChange s with cond := some uptoSmall }

/-- 'estoppellaw46.NetworkMatchesReference', WHERE WHAT IT READS IS OF BULK AT MOST 1048576: true; the input reads as it did. -/
def networkMatchesReferenceUptoRow : OpenClaim := { program := "ytfpiiehdmdmoeaa", sum := "1b46c4d61ff8f363700fef07ad721b469b4ac5c1bc20d428693c2db284cb9d1d", func := "estoppel/estoppellaw46.NetworkMatchesReference", spec := "networkMatchesReference", inPlace := ["slices.overlaps[estoppel/network.flight]"], apart := false, narrowed := true }
def NetworkMatchesReferenceUptoSaid : Prop := networkMatchesReferenceUptoRow.holds Try.pinned (OpenSpec.upto networkMatchesReferenceSpec)

/-- 'estoppellaw46.NetworkInvents', WHERE WHAT IT READS IS OF BULK AT MOST 1048576: true; the input reads as it did. -/
def networkInventsUptoRow : OpenClaim := { program := "ytfpiiehdmdmoeaa", sum := "1b46c4d61ff8f363700fef07ad721b469b4ac5c1bc20d428693c2db284cb9d1d", func := "estoppel/estoppellaw46.NetworkInvents", spec := "networkInvents", inPlace := ["slices.overlaps[estoppel/network.flight]"], apart := false, narrowed := true }
def NetworkInventsUptoSaid : Prop := networkInventsUptoRow.holds Try.pinned (OpenSpec.upto networkInventsSpec)

/-- 'estoppellaw46.NetworkConserves', WHERE WHAT IT READS IS OF BULK AT MOST 1048576: true; the input reads as it did. -/
def networkConservesUptoRow : OpenClaim := { program := "ytfpiiehdmdmoeaa", sum := "1b46c4d61ff8f363700fef07ad721b469b4ac5c1bc20d428693c2db284cb9d1d", func := "estoppel/estoppellaw46.NetworkConserves", spec := "networkConserves", inPlace := ["slices.overlaps[estoppel/network.flight]"], apart := false, narrowed := true }
def NetworkConservesUptoSaid : Prop := networkConservesUptoRow.holds Try.pinned (OpenSpec.upto networkConservesSpec)

/-- 'estoppellaw46.NetworkEnds', WHERE WHAT IT READS IS OF BULK AT MOST 1048576: true; the input reads as it did. -/
def networkEndsUptoRow : OpenClaim := { program := "ytfpiiehdmdmoeaa", sum := "1b46c4d61ff8f363700fef07ad721b469b4ac5c1bc20d428693c2db284cb9d1d", func := "estoppel/estoppellaw46.NetworkEnds", spec := "networkEnds", inPlace := ["slices.overlaps[estoppel/network.flight]"], apart := false, narrowed := true }
def NetworkEndsUptoSaid : Prop := networkEndsUptoRow.holds Try.pinned (OpenSpec.upto networkEndsSpec)

/-- 'estoppellaw46.NetworkDelays', WHERE WHAT IT READS IS OF BULK AT MOST 1048576: true; the input reads as it did. -/
def networkDelaysUptoRow : OpenClaim := { program := "ytfpiiehdmdmoeaa", sum := "1b46c4d61ff8f363700fef07ad721b469b4ac5c1bc20d428693c2db284cb9d1d", func := "estoppel/estoppellaw46.NetworkDelays", spec := "networkDelays", inPlace := ["slices.overlaps[estoppel/network.flight]"], apart := false, narrowed := true }
def NetworkDelaysUptoSaid : Prop := networkDelaysUptoRow.holds Try.pinned (OpenSpec.upto networkDelaysSpec)

/-- 'estoppellaw46.NetworkHouses', WHERE WHAT IT READS IS OF BULK AT MOST 1048576: true; the input reads as it did. -/
def networkHousesUptoRow : OpenClaim := { program := "ytfpiiehdmdmoeaa", sum := "1b46c4d61ff8f363700fef07ad721b469b4ac5c1bc20d428693c2db284cb9d1d", func := "estoppel/estoppellaw46.NetworkHouses", spec := "networkHouses", inPlace := ["slices.overlaps[estoppel/network.flight]"], apart := false, narrowed := true }
def NetworkHousesUptoSaid : Prop := networkHousesUptoRow.holds Try.pinned (OpenSpec.upto networkHousesSpec)

/-- 'estoppellaw46.NetworkFates', WHERE WHAT IT READS IS OF BULK AT MOST 1048576: true; the input reads as it did. -/
def networkFatesUptoRow : OpenClaim := { program := "ytfpiiehdmdmoeaa", sum := "1b46c4d61ff8f363700fef07ad721b469b4ac5c1bc20d428693c2db284cb9d1d", func := "estoppel/estoppellaw46.NetworkFates", spec := "networkFates", inPlace := ["slices.overlaps[estoppel/network.flight]"], apart := false, narrowed := true }
def NetworkFatesUptoSaid : Prop := networkFatesUptoRow.holds Try.pinned (OpenSpec.upto networkFatesSpec)

end Rows
end Go.Proofs.Ytfpiiehdmdmoeaa
