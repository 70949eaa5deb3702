/-
  NARROWER THAN 'FOR EVERY INPUT', by the rows' own cells (each row's printed sentence says how): BlameFirst: laid · BlameOne: laid · BlameBreach: laid · BlameAdvice: laid · BlameProofs: laid.
  DERIVED. THE GIVEN ROWS OF THIS SEAT. 5 by the template 'for every input the law returns true; each argument reads behind the call as it read before'; 0 by the template 'total and deterministic' (their statements: YtjoohkjmoghmoaaGreatDoorTotals.lean).
  GIVEN WITH THE SEED: the statements are not yours to turn. If you find one false, say at which input.
  Laid BY PROGRAM, IN A SANDBOX (cutbox-rows.mjs): the forced cells as the released guide's own fill.sh prints them over the translation de6f44d6904ac1e8… (all of the seat's roots in one cut). By AI agents, Wed Nov 11 2026. No macro, syntax, notation, axiom, sorry.
-/
import Derived.Test.YtjoohkjmoghmoaaGreatDoorChecked
import GoSem.Claim
import GoSem.ClaimJoined
import GoSem.ClaimMapViews
import Derived.JoinedTies
import Derived.KernelRfl
namespace Go.Proofs.YtjoohkjmoghmoaaGreatDoor
/- THE CELL 'sum', in the pinned program and in every row, IS THE sha256 OF THE DUMP (.gsa) THAT YtjoohkjmoghmoaaGreatDoorProg.lean LOADS. Nothing in Lean hashes anything: it is a label: what it is worth is what the hold of that sum in a sandbox is worth. -/
noncomputable def Tryz.pinned : Pinned := { name := "ytjoohkjmoghmoaagreatdoor", sum := "de6f44d6904ac1e8f6a1a2e4b104b25aca35a126aa12ec5aac640eea8fdad272", checked := Tryz.checked }
namespace Rows
def none {H : Type} : Left H := { results := [], args := [] }

/- WHAT THE LISTED PACKAGE-LEVEL VARIABLES READ AS WHEN THE CALL BEGINS. Each datum BY PROGRAM (the guide's laid-datum.mjs) off the statement by which the dump's own 'gosem.cut.vars' lays the variable. In a bare row this is a premise. The card (YtjoohkjmoghmoaaGreatDoorCards.lean) ties it to the program's text. -/
def laid_math_bits_deBruijn32tab {H : Type} : DataW H := .agg [.lit (.int .u8 0), .lit (.int .u8 1), .lit (.int .u8 28), .lit (.int .u8 2), .lit (.int .u8 29), .lit (.int .u8 14), .lit (.int .u8 24), .lit (.int .u8 3), .lit (.int .u8 30), .lit (.int .u8 22), .lit (.int .u8 20), .lit (.int .u8 15), .lit (.int .u8 25), .lit (.int .u8 17), .lit (.int .u8 4), .lit (.int .u8 8), .lit (.int .u8 31), .lit (.int .u8 27), .lit (.int .u8 13), .lit (.int .u8 23), .lit (.int .u8 21), .lit (.int .u8 19), .lit (.int .u8 16), .lit (.int .u8 7), .lit (.int .u8 26), .lit (.int .u8 12), .lit (.int .u8 18), .lit (.int .u8 6), .lit (.int .u8 11), .lit (.int .u8 5), .lit (.int .u8 10), .lit (.int .u8 9)]
def laid_math_bits_deBruijn64tab {H : Type} : DataW H := .agg [.lit (.int .u8 0), .lit (.int .u8 1), .lit (.int .u8 56), .lit (.int .u8 2), .lit (.int .u8 57), .lit (.int .u8 49), .lit (.int .u8 28), .lit (.int .u8 3), .lit (.int .u8 61), .lit (.int .u8 58), .lit (.int .u8 42), .lit (.int .u8 50), .lit (.int .u8 38), .lit (.int .u8 29), .lit (.int .u8 17), .lit (.int .u8 4), .lit (.int .u8 62), .lit (.int .u8 47), .lit (.int .u8 59), .lit (.int .u8 36), .lit (.int .u8 45), .lit (.int .u8 43), .lit (.int .u8 51), .lit (.int .u8 22), .lit (.int .u8 53), .lit (.int .u8 39), .lit (.int .u8 33), .lit (.int .u8 30), .lit (.int .u8 24), .lit (.int .u8 18), .lit (.int .u8 12), .lit (.int .u8 5), .lit (.int .u8 63), .lit (.int .u8 55), .lit (.int .u8 48), .lit (.int .u8 27), .lit (.int .u8 60), .lit (.int .u8 41), .lit (.int .u8 37), .lit (.int .u8 16), .lit (.int .u8 46), .lit (.int .u8 35), .lit (.int .u8 44), .lit (.int .u8 21), .lit (.int .u8 52), .lit (.int .u8 32), .lit (.int .u8 23), .lit (.int .u8 11), .lit (.int .u8 54), .lit (.int .u8 26), .lit (.int .u8 40), .lit (.int .u8 15), .lit (.int .u8 34), .lit (.int .u8 20), .lit (.int .u8 31), .lit (.int .u8 10), .lit (.int .u8 25), .lit (.int .u8 14), .lit (.int .u8 19), .lit (.int .u8 9), .lit (.int .u8 13), .lit (.int .u8 8), .lit (.int .u8 7), .lit (.int .u8 6)]
def laid_internal_strconv_uint64pow10 {H : Type} : DataW H := .agg [.lit (.int .u64 1), .lit (.int .u64 10), .lit (.int .u64 100), .lit (.int .u64 1000), .lit (.int .u64 10000), .lit (.int .u64 100000), .lit (.int .u64 1000000), .lit (.int .u64 10000000), .lit (.int .u64 100000000), .lit (.int .u64 1000000000), .lit (.int .u64 10000000000), .lit (.int .u64 100000000000), .lit (.int .u64 1000000000000), .lit (.int .u64 10000000000000), .lit (.int .u64 100000000000000), .lit (.int .u64 1000000000000000), .lit (.int .u64 10000000000000000), .lit (.int .u64 100000000000000000), .lit (.int .u64 1000000000000000000), .lit (.int .u64 10000000000000000000)]

/-- 'estoppellaw39.BlameFirst': WHATEVER THE INPUT: true; the input reads as it did. -/
def blameFirstSpec : ChangeSpec := { name := "blameFirst", fn := fun _ => fun
  | [d1, d2, d3, d4] => { results := [.lit (.bool true)], args := [d1, d2, d3, d4] }
  | _ => none }
def blameFirstRow : OpenClaim := { program := "ytjoohkjmoghmoaagreatdoor", sum := "de6f44d6904ac1e8f6a1a2e4b104b25aca35a126aa12ec5aac640eea8fdad272", func := "estoppel/estoppellaw39.BlameFirst", spec := "blameFirst", unfollowed := true, recurses := true, named := ["internal/strconv.uint64pow10", "math/bits.deBruijn32tab", "math/bits.deBruijn64tab"], plainKeys := false, apart := false, laid := [("math/bits.deBruijn32tab", laid_math_bits_deBruijn32tab), ("math/bits.deBruijn64tab", laid_math_bits_deBruijn64tab), ("internal/strconv.uint64pow10", laid_internal_strconv_uint64pow10)] }
def BlameFirstSaid : Prop := blameFirstRow.holds Tryz.pinned (OpenSpec.ofChange blameFirstSpec)

/-- ITS FALSE NEIGHBOUR: 'it returns false'. Refute it at one input. -/
def blameFirstWrong : ChangeSpec := { name := "blameFirst", fn := fun _ => fun
  | [d1, d2, d3, d4] => { results := [.lit (.bool false)], args := [d1, d2, d3, d4] }
  | _ => none }
def BlameFirstWrongFalsely : Prop := blameFirstRow.holds Tryz.pinned (OpenSpec.ofChange blameFirstWrong)

/-- 'estoppellaw39.BlameOne': WHATEVER THE INPUT: true; the input reads as it did. -/
def blameOneSpec : ChangeSpec := { name := "blameOne", fn := fun _ => fun
  | [d1, d2, d3, d4, d5, d6, d7] => { results := [.lit (.bool true)], args := [d1, d2, d3, d4, d5, d6, d7] }
  | _ => none }
def blameOneRow : OpenClaim := { program := "ytjoohkjmoghmoaagreatdoor", sum := "de6f44d6904ac1e8f6a1a2e4b104b25aca35a126aa12ec5aac640eea8fdad272", func := "estoppel/estoppellaw39.BlameOne", spec := "blameOne", unfollowed := true, recurses := true, named := ["internal/strconv.uint64pow10", "math/bits.deBruijn32tab", "math/bits.deBruijn64tab"], plainKeys := false, apart := false, laid := [("math/bits.deBruijn32tab", laid_math_bits_deBruijn32tab), ("math/bits.deBruijn64tab", laid_math_bits_deBruijn64tab), ("internal/strconv.uint64pow10", laid_internal_strconv_uint64pow10)] }
def BlameOneSaid : Prop := blameOneRow.holds Tryz.pinned (OpenSpec.ofChange blameOneSpec)

/-- ITS FALSE NEIGHBOUR: 'it returns false'. Refute it at one input. -/
def blameOneWrong : ChangeSpec := { name := "blameOne", fn := fun _ => fun
  | [d1, d2, d3, d4, d5, d6, d7] => { results := [.lit (.bool false)], args := [d1, d2, d3, d4, d5, d6, d7] }
  | _ => none }
def BlameOneWrongFalsely : Prop := blameOneRow.holds Tryz.pinned (OpenSpec.ofChange blameOneWrong)

/-- 'estoppellaw39.BlameBreach': WHATEVER THE INPUT: true; the input reads as it did. -/
def blameBreachSpec : ChangeSpec := { name := "blameBreach", fn := fun _ => fun
  | [d1, d2, d3] => { results := [.lit (.bool true)], args := [d1, d2, d3] }
  | _ => none }
def blameBreachRow : OpenClaim := { program := "ytjoohkjmoghmoaagreatdoor", sum := "de6f44d6904ac1e8f6a1a2e4b104b25aca35a126aa12ec5aac640eea8fdad272", func := "estoppel/estoppellaw39.BlameBreach", spec := "blameBreach", unfollowed := true, recurses := true, named := ["internal/strconv.uint64pow10", "math/bits.deBruijn32tab", "math/bits.deBruijn64tab"], plainKeys := false, apart := false, laid := [("math/bits.deBruijn32tab", laid_math_bits_deBruijn32tab), ("math/bits.deBruijn64tab", laid_math_bits_deBruijn64tab), ("internal/strconv.uint64pow10", laid_internal_strconv_uint64pow10)] }
def BlameBreachSaid : Prop := blameBreachRow.holds Tryz.pinned (OpenSpec.ofChange blameBreachSpec)

/-- ITS FALSE NEIGHBOUR: 'it returns false'. Refute it at one input. -/
def blameBreachWrong : ChangeSpec := { name := "blameBreach", fn := fun _ => fun
  | [d1, d2, d3] => { results := [.lit (.bool false)], args := [d1, d2, d3] }
  | _ => none }
def BlameBreachWrongFalsely : Prop := blameBreachRow.holds Tryz.pinned (OpenSpec.ofChange blameBreachWrong)

/-- 'estoppellaw39.BlameAdvice': WHATEVER THE INPUT: true; the input reads as it did. -/
def blameAdviceSpec : ChangeSpec := { name := "blameAdvice", fn := fun _ => fun
  | [d1, d2, d3] => { results := [.lit (.bool true)], args := [d1, d2, d3] }
  | _ => none }
def blameAdviceRow : OpenClaim := { program := "ytjoohkjmoghmoaagreatdoor", sum := "de6f44d6904ac1e8f6a1a2e4b104b25aca35a126aa12ec5aac640eea8fdad272", func := "estoppel/estoppellaw39.BlameAdvice", spec := "blameAdvice", unfollowed := true, recurses := true, named := ["internal/strconv.uint64pow10", "math/bits.deBruijn32tab", "math/bits.deBruijn64tab"], plainKeys := false, apart := false, laid := [("math/bits.deBruijn32tab", laid_math_bits_deBruijn32tab), ("math/bits.deBruijn64tab", laid_math_bits_deBruijn64tab), ("internal/strconv.uint64pow10", laid_internal_strconv_uint64pow10)] }
def BlameAdviceSaid : Prop := blameAdviceRow.holds Tryz.pinned (OpenSpec.ofChange blameAdviceSpec)

/-- ITS FALSE NEIGHBOUR: 'it returns false'. Refute it at one input. -/
def blameAdviceWrong : ChangeSpec := { name := "blameAdvice", fn := fun _ => fun
  | [d1, d2, d3] => { results := [.lit (.bool false)], args := [d1, d2, d3] }
  | _ => none }
def BlameAdviceWrongFalsely : Prop := blameAdviceRow.holds Tryz.pinned (OpenSpec.ofChange blameAdviceWrong)

/-- 'estoppellaw39.BlameProofs': WHATEVER THE INPUT: true; the input reads as it did. -/
def blameProofsSpec : ChangeSpec := { name := "blameProofs", fn := fun _ => fun
  | [d1, d2, d3, d4, d5, d6] => { results := [.lit (.bool true)], args := [d1, d2, d3, d4, d5, d6] }
  | _ => none }
def blameProofsRow : OpenClaim := { program := "ytjoohkjmoghmoaagreatdoor", sum := "de6f44d6904ac1e8f6a1a2e4b104b25aca35a126aa12ec5aac640eea8fdad272", func := "estoppel/estoppellaw39.BlameProofs", spec := "blameProofs", unfollowed := true, recurses := true, named := ["internal/strconv.uint64pow10", "math/bits.deBruijn32tab", "math/bits.deBruijn64tab"], plainKeys := false, apart := false, laid := [("math/bits.deBruijn32tab", laid_math_bits_deBruijn32tab), ("math/bits.deBruijn64tab", laid_math_bits_deBruijn64tab), ("internal/strconv.uint64pow10", laid_internal_strconv_uint64pow10)] }
def BlameProofsSaid : Prop := blameProofsRow.holds Tryz.pinned (OpenSpec.ofChange blameProofsSpec)

/-- ITS FALSE NEIGHBOUR: 'it returns false'. Refute it at one input. -/
def blameProofsWrong : ChangeSpec := { name := "blameProofs", fn := fun _ => fun
  | [d1, d2, d3, d4, d5, d6] => { results := [.lit (.bool false)], args := [d1, d2, d3, d4, d5, d6] }
  | _ => none }
def BlameProofsWrongFalsely : Prop := blameProofsRow.holds Tryz.pinned (OpenSpec.ofChange blameProofsWrong)

/- THE SECOND FORM. 'bulk': how many values and letters a reading holds, each counted each time it is reached (what is shared counts as often as it is met; a slice's spare places count too). A statement '..UptoSaid' is the law's where the arguments, and the package variables that the reading takes, are together of bulk at most 1048576: NARROWER than '..Said'. Prove '..Said' where nothing that the law and all that it calls make is longer than what came in: it says more and counts as full. Else prove '..UptoSaid'. A law counts once. -/
mutual
def uptoBulk {H : Type} : DataW H → Nat
  | .lit (.string bytes) => bytes.length + 1
  | .lit _ => 1
  | .nil => 1
  | .ptr d => uptoBulk d + 1
  | .slice elems spare => uptoBulkAll elems + uptoBulkAll spare + 1
  | .agg parts => uptoBulkAll parts + 1
  | .iface _ d => uptoBulk d + 1
  | .map entries => uptoBulkEntries entries + 1
  | .held _ => 1
def uptoBulkAll {H : Type} : List (DataW H) → Nat
  | [] => 0
  | d :: r => uptoBulk d + uptoBulkAll r
def uptoBulkEntries {H : Type} : List (Lit × DataW H) → Nat
  | [] => 0
  | x :: r => uptoBulkEntry x + uptoBulkEntries r
def uptoBulkEntry {H : Type} : Lit × DataW H → Nat
  | (.string bytes, d) => bytes.length + uptoBulk d + 1
  | (_, d) => uptoBulk d + 1
 end
def uptoSmall : (H : Type) → List (DataW H) → Bool := fun _ ds => decide (uptoBulkAll ds ≤ 1048576)
def OpenSpec.upto (s : _root_.Go.ChangeSpec) : _root_.Go.OpenSpec := { _root_.Go.OpenSpec.ofChange s with cond := some uptoSmall }

/-- 'estoppellaw39.BlameFirst', WHERE WHAT IT READS IS OF BULK AT MOST 1048576: true; the input reads as it did. -/
def blameFirstUptoRow : OpenClaim := { program := "ytjoohkjmoghmoaagreatdoor", sum := "de6f44d6904ac1e8f6a1a2e4b104b25aca35a126aa12ec5aac640eea8fdad272", func := "estoppel/estoppellaw39.BlameFirst", spec := "blameFirst", unfollowed := true, recurses := true, named := ["internal/strconv.uint64pow10", "math/bits.deBruijn32tab", "math/bits.deBruijn64tab"], plainKeys := false, apart := false, laid := [("math/bits.deBruijn32tab", laid_math_bits_deBruijn32tab), ("math/bits.deBruijn64tab", laid_math_bits_deBruijn64tab), ("internal/strconv.uint64pow10", laid_internal_strconv_uint64pow10)], narrowed := true }
def BlameFirstUptoSaid : Prop := blameFirstUptoRow.holds Tryz.pinned (OpenSpec.upto blameFirstSpec)

/-- 'estoppellaw39.BlameOne', WHERE WHAT IT READS IS OF BULK AT MOST 1048576: true; the input reads as it did. -/
def blameOneUptoRow : OpenClaim := { program := "ytjoohkjmoghmoaagreatdoor", sum := "de6f44d6904ac1e8f6a1a2e4b104b25aca35a126aa12ec5aac640eea8fdad272", func := "estoppel/estoppellaw39.BlameOne", spec := "blameOne", unfollowed := true, recurses := true, named := ["internal/strconv.uint64pow10", "math/bits.deBruijn32tab", "math/bits.deBruijn64tab"], plainKeys := false, apart := false, laid := [("math/bits.deBruijn32tab", laid_math_bits_deBruijn32tab), ("math/bits.deBruijn64tab", laid_math_bits_deBruijn64tab), ("internal/strconv.uint64pow10", laid_internal_strconv_uint64pow10)], narrowed := true }
def BlameOneUptoSaid : Prop := blameOneUptoRow.holds Tryz.pinned (OpenSpec.upto blameOneSpec)

/-- 'estoppellaw39.BlameBreach', WHERE WHAT IT READS IS OF BULK AT MOST 1048576: true; the input reads as it did. -/
def blameBreachUptoRow : OpenClaim := { program := "ytjoohkjmoghmoaagreatdoor", sum := "de6f44d6904ac1e8f6a1a2e4b104b25aca35a126aa12ec5aac640eea8fdad272", func := "estoppel/estoppellaw39.BlameBreach", spec := "blameBreach", unfollowed := true, recurses := true, named := ["internal/strconv.uint64pow10", "math/bits.deBruijn32tab", "math/bits.deBruijn64tab"], plainKeys := false, apart := false, laid := [("math/bits.deBruijn32tab", laid_math_bits_deBruijn32tab), ("math/bits.deBruijn64tab", laid_math_bits_deBruijn64tab), ("internal/strconv.uint64pow10", laid_internal_strconv_uint64pow10)], narrowed := true }
def BlameBreachUptoSaid : Prop := blameBreachUptoRow.holds Tryz.pinned (OpenSpec.upto blameBreachSpec)

/-- 'estoppellaw39.BlameAdvice', WHERE WHAT IT READS IS OF BULK AT MOST 1048576: true; the input reads as it did. -/
def blameAdviceUptoRow : OpenClaim := { program := "ytjoohkjmoghmoaagreatdoor", sum := "de6f44d6904ac1e8f6a1a2e4b104b25aca35a126aa12ec5aac640eea8fdad272", func := "estoppel/estoppellaw39.BlameAdvice", spec := "blameAdvice", unfollowed := true, recurses := true, named := ["internal/strconv.uint64pow10", "math/bits.deBruijn32tab", "math/bits.deBruijn64tab"], plainKeys := false, apart := false, laid := [("math/bits.deBruijn32tab", laid_math_bits_deBruijn32tab), ("math/bits.deBruijn64tab", laid_math_bits_deBruijn64tab), ("internal/strconv.uint64pow10", laid_internal_strconv_uint64pow10)], narrowed := true }
def BlameAdviceUptoSaid : Prop := blameAdviceUptoRow.holds Tryz.pinned (OpenSpec.upto blameAdviceSpec)

/-- 'estoppellaw39.BlameProofs', WHERE WHAT IT READS IS OF BULK AT MOST 1048576: true; the input reads as it did. -/
def blameProofsUptoRow : OpenClaim := { program := "ytjoohkjmoghmoaagreatdoor", sum := "de6f44d6904ac1e8f6a1a2e4b104b25aca35a126aa12ec5aac640eea8fdad272", func := "estoppel/estoppellaw39.BlameProofs", spec := "blameProofs", unfollowed := true, recurses := true, named := ["internal/strconv.uint64pow10", "math/bits.deBruijn32tab", "math/bits.deBruijn64tab"], plainKeys := false, apart := false, laid := [("math/bits.deBruijn32tab", laid_math_bits_deBruijn32tab), ("math/bits.deBruijn64tab", laid_math_bits_deBruijn64tab), ("internal/strconv.uint64pow10", laid_internal_strconv_uint64pow10)], narrowed := true }
def BlameProofsUptoSaid : Prop := blameProofsUptoRow.holds Tryz.pinned (OpenSpec.upto blameProofsSpec)

end Rows
end Go.Proofs.YtjoohkjmoghmoaaGreatDoor
