/-
  No cell of these rows narrows 'for every input' (looked for: loops, veiled, ifaces, maps, wideKeys, modest, calm, conditions, laid).
  DERIVED. THE GIVEN ROWS OF THIS SEAT. 8 by the template 'for every input the law returns true; each argument reads behind the call as it read before'; 0 by the template 'total and deterministic' (their statements: YtmofaahhnokohaaTotals.lean).
  GIVEN WITH THE SEED: the statements are not yours to turn. If you find one false, say at which input.
  Laid BY PROGRAM, IN A SANDBOX (cutbox-rows.mjs): the forced cells as the released guide's own fill.sh prints them over the translation 93c79db42330b5a5… (all of the seat's roots in one cut). By AI agents, Wed Nov 11 2026. No macro, syntax, notation, axiom, sorry.
-/
import Derived.Test.YtmofaahhnokohaaChecked
import GoSem.Claim
import GoSem.ClaimJoined
import GoSem.ClaimMapViews
import Derived.JoinedTies
import Derived.KernelRfl
namespace Go.Proofs.Ytmofaahhnokohaa
/- THE CELL 'sum', in the pinned program and in every row, IS THE sha256 OF THE DUMP (.gsa) THAT YtmofaahhnokohaaProg.lean LOADS. Nothing in Lean hashes anything: it is a label: what it is worth is what the hold of that sum in a sandbox is worth. -/
noncomputable def Try.pinned : Pinned := { name := "ytmofaahhnokohaa", sum := "93c79db42330b5a5e5b9092ca660b97310fafa4e97c9f90f45936a06ec53a3c6", checked := Try.checked }
namespace Rows
def none {H : Type} : Left H := { results := [], args := [] }

/-- 'magpielaw02.CodeShapes': WHATEVER THE INPUT: true; the input reads as it did. -/
def codeShapesSpec : ChangeSpec := { name := "codeShapes", fn := fun _ => fun
  | [d1, d2, d3] => { results := [.lit (.bool true)], args := [d1, d2, d3] }
  | _ => none }
def codeShapesRow : OpenClaim := { program := "ytmofaahhnokohaa", sum := "93c79db42330b5a5e5b9092ca660b97310fafa4e97c9f90f45936a06ec53a3c6", func := "magpie/magpielaw02.CodeShapes", spec := "codeShapes", apart := false }
def CodeShapesSaid : Prop := codeShapesRow.holds Try.pinned (OpenSpec.ofChange codeShapesSpec)

/-- ITS FALSE NEIGHBOUR: 'it returns false'. Refute it at one input. -/
def codeShapesWrong : ChangeSpec := { name := "codeShapes", fn := fun _ => fun
  | [d1, d2, d3] => { results := [.lit (.bool false)], args := [d1, d2, d3] }
  | _ => none }
def CodeShapesWrongFalsely : Prop := codeShapesRow.holds Try.pinned (OpenSpec.ofChange codeShapesWrong)

/-- 'magpielaw02.CodeSizes': WHATEVER THE INPUT: true; the input reads as it did. -/
def codeSizesSpec : ChangeSpec := { name := "codeSizes", fn := fun _ => fun
  | [d] => { results := [.lit (.bool true)], args := [d] }
  | _ => none }
def codeSizesRow : OpenClaim := { program := "ytmofaahhnokohaa", sum := "93c79db42330b5a5e5b9092ca660b97310fafa4e97c9f90f45936a06ec53a3c6", func := "magpie/magpielaw02.CodeSizes", spec := "codeSizes", apart := false }
def CodeSizesSaid : Prop := codeSizesRow.holds Try.pinned (OpenSpec.ofChange codeSizesSpec)

/-- ITS FALSE NEIGHBOUR: 'it returns false'. Refute it at one input. -/
def codeSizesWrong : ChangeSpec := { name := "codeSizes", fn := fun _ => fun
  | [d] => { results := [.lit (.bool false)], args := [d] }
  | _ => none }
def CodeSizesWrongFalsely : Prop := codeSizesRow.holds Try.pinned (OpenSpec.ofChange codeSizesWrong)

/-- 'magpielaw02.CodeAll': WHATEVER THE INPUT: true; the input reads as it did. -/
def codeAllSpec : ChangeSpec := { name := "codeAll", fn := fun _ => fun
  | [d1, d2, d3] => { results := [.lit (.bool true)], args := [d1, d2, d3] }
  | _ => none }
def codeAllRow : OpenClaim := { program := "ytmofaahhnokohaa", sum := "93c79db42330b5a5e5b9092ca660b97310fafa4e97c9f90f45936a06ec53a3c6", func := "magpie/magpielaw02.CodeAll", spec := "codeAll", apart := false }
def CodeAllSaid : Prop := codeAllRow.holds Try.pinned (OpenSpec.ofChange codeAllSpec)

/-- ITS FALSE NEIGHBOUR: 'it returns false'. Refute it at one input. -/
def codeAllWrong : ChangeSpec := { name := "codeAll", fn := fun _ => fun
  | [d1, d2, d3] => { results := [.lit (.bool false)], args := [d1, d2, d3] }
  | _ => none }
def CodeAllWrongFalsely : Prop := codeAllRow.holds Try.pinned (OpenSpec.ofChange codeAllWrong)

/-- 'magpielaw02.CodeBack': WHATEVER THE INPUT: true; the input reads as it did. -/
def codeBackSpec : ChangeSpec := { name := "codeBack", fn := fun _ => fun
  | [d1, d2, d3] => { results := [.lit (.bool true)], args := [d1, d2, d3] }
  | _ => none }
def codeBackRow : OpenClaim := { program := "ytmofaahhnokohaa", sum := "93c79db42330b5a5e5b9092ca660b97310fafa4e97c9f90f45936a06ec53a3c6", func := "magpie/magpielaw02.CodeBack", spec := "codeBack", apart := false }
def CodeBackSaid : Prop := codeBackRow.holds Try.pinned (OpenSpec.ofChange codeBackSpec)

/-- ITS FALSE NEIGHBOUR: 'it returns false'. Refute it at one input. -/
def codeBackWrong : ChangeSpec := { name := "codeBack", fn := fun _ => fun
  | [d1, d2, d3] => { results := [.lit (.bool false)], args := [d1, d2, d3] }
  | _ => none }
def CodeBackWrongFalsely : Prop := codeBackRow.holds Try.pinned (OpenSpec.ofChange codeBackWrong)

/-- 'magpielaw02.CodeNumbers': WHATEVER THE INPUT: true; the input reads as it did. -/
def codeNumbersSpec : ChangeSpec := { name := "codeNumbers", fn := fun _ => fun
  | [d1, d2] => { results := [.lit (.bool true)], args := [d1, d2] }
  | _ => none }
def codeNumbersRow : OpenClaim := { program := "ytmofaahhnokohaa", sum := "93c79db42330b5a5e5b9092ca660b97310fafa4e97c9f90f45936a06ec53a3c6", func := "magpie/magpielaw02.CodeNumbers", spec := "codeNumbers", apart := false }
def CodeNumbersSaid : Prop := codeNumbersRow.holds Try.pinned (OpenSpec.ofChange codeNumbersSpec)

/-- ITS FALSE NEIGHBOUR: 'it returns false'. Refute it at one input. -/
def codeNumbersWrong : ChangeSpec := { name := "codeNumbers", fn := fun _ => fun
  | [d1, d2] => { results := [.lit (.bool false)], args := [d1, d2] }
  | _ => none }
def CodeNumbersWrongFalsely : Prop := codeNumbersRow.holds Try.pinned (OpenSpec.ofChange codeNumbersWrong)

/-- 'magpielaw02.CodeTurned': WHATEVER THE INPUT: true; the input reads as it did. -/
def codeTurnedSpec : ChangeSpec := { name := "codeTurned", fn := fun _ => fun
  | [d1, d2, d3] => { results := [.lit (.bool true)], args := [d1, d2, d3] }
  | _ => none }
def codeTurnedRow : OpenClaim := { program := "ytmofaahhnokohaa", sum := "93c79db42330b5a5e5b9092ca660b97310fafa4e97c9f90f45936a06ec53a3c6", func := "magpie/magpielaw02.CodeTurned", spec := "codeTurned", apart := false }
def CodeTurnedSaid : Prop := codeTurnedRow.holds Try.pinned (OpenSpec.ofChange codeTurnedSpec)

/-- ITS FALSE NEIGHBOUR: 'it returns false'. Refute it at one input. -/
def codeTurnedWrong : ChangeSpec := { name := "codeTurned", fn := fun _ => fun
  | [d1, d2, d3] => { results := [.lit (.bool false)], args := [d1, d2, d3] }
  | _ => none }
def CodeTurnedWrongFalsely : Prop := codeTurnedRow.holds Try.pinned (OpenSpec.ofChange codeTurnedWrong)

/-- 'magpielaw05.ValidSpoilt': WHATEVER THE INPUT: true; the input reads as it did. -/
def validSpoiltSpec : ChangeSpec := { name := "validSpoilt", fn := fun _ => fun
  | [d1, d2, d3] => { results := [.lit (.bool true)], args := [d1, d2, d3] }
  | _ => none }
def validSpoiltRow : OpenClaim := { program := "ytmofaahhnokohaa", sum := "93c79db42330b5a5e5b9092ca660b97310fafa4e97c9f90f45936a06ec53a3c6", func := "magpie/magpielaw05.ValidSpoilt", spec := "validSpoilt", unfollowed := true, recurses := true, apart := false }
def ValidSpoiltSaid : Prop := validSpoiltRow.holds Try.pinned (OpenSpec.ofChange validSpoiltSpec)

/-- ITS FALSE NEIGHBOUR: 'it returns false'. Refute it at one input. -/
def validSpoiltWrong : ChangeSpec := { name := "validSpoilt", fn := fun _ => fun
  | [d1, d2, d3] => { results := [.lit (.bool false)], args := [d1, d2, d3] }
  | _ => none }
def ValidSpoiltWrongFalsely : Prop := validSpoiltRow.holds Try.pinned (OpenSpec.ofChange validSpoiltWrong)

/-- 'magpielaw05.ValidCounts': WHATEVER THE INPUT: true; the input reads as it did. -/
def validCountsSpec : ChangeSpec := { name := "validCounts", fn := fun _ => fun
  | [d1, d2] => { results := [.lit (.bool true)], args := [d1, d2] }
  | _ => none }
def validCountsRow : OpenClaim := { program := "ytmofaahhnokohaa", sum := "93c79db42330b5a5e5b9092ca660b97310fafa4e97c9f90f45936a06ec53a3c6", func := "magpie/magpielaw05.ValidCounts", spec := "validCounts", unfollowed := true, recurses := true, apart := false }
def ValidCountsSaid : Prop := validCountsRow.holds Try.pinned (OpenSpec.ofChange validCountsSpec)

/-- ITS FALSE NEIGHBOUR: 'it returns false'. Refute it at one input. -/
def validCountsWrong : ChangeSpec := { name := "validCounts", fn := fun _ => fun
  | [d1, d2] => { results := [.lit (.bool false)], args := [d1, d2] }
  | _ => none }
def ValidCountsWrongFalsely : Prop := validCountsRow.holds Try.pinned (OpenSpec.ofChange validCountsWrong)

/- THE SECOND FORM. 'bulk': how many values and letters a reading holds, each counted each time it is reached (what is shared counts as often as it is met; a slice's spare places count too). A statement '..UptoSaid' is the law's where the arguments, and the package variables that the reading takes, are together of bulk at most 1048576: NARROWER than '..Said'. Prove '..Said' where nothing that the law and all that it calls make is longer than what came in: it says more and counts as full. Else prove '..UptoSaid'. A law counts once. -/
mutual
def uptoBulk {H : Type} : DataW H → Nat
  | .lit (.string bytes) => bytes.length + 1
  | .lit _ => 1
  | .nil => 1
  | .ptr d => uptoBulk d + 1
  | .slice elems spare => uptoBulkAll elems + uptoBulkAll spare + 1
  | .agg parts => uptoBulkAll parts + 1
  | .iface _ d => uptoBulk d + 1
  | .map entries => uptoBulkEntries entries + 1
  | .held _ => 1
def uptoBulkAll {H : Type} : List (DataW H) → Nat
  | [] => 0
  | d :: r => uptoBulk d + uptoBulkAll r
def uptoBulkEntries {H : Type} : List (Lit × DataW H) → Nat
  | [] => 0
  | x :: r => uptoBulkEntry x + uptoBulkEntries r
def uptoBulkEntry {H : Type} : Lit × DataW H → Nat
  | (.string bytes, d) => bytes.length + uptoBulk d + 1
  | (_, d) => uptoBulk d + 1
 end
def uptoSmall : (H : Type) → List (DataW H) → Bool := fun _ ds => decide (uptoBulkAll ds ≤ 1048576)
def OpenSpec.upto (s : _root_.Go.ChangeSpec) : _root_.Go.OpenSpec := { _root_.Go.OpenSpec.ofChange s with cond := some uptoSmall }

/-- 'magpielaw02.CodeShapes', WHERE WHAT IT READS IS OF BULK AT MOST 1048576: true; the input reads as it did. -/
def codeShapesUptoRow : OpenClaim := { program := "ytmofaahhnokohaa", sum := "93c79db42330b5a5e5b9092ca660b97310fafa4e97c9f90f45936a06ec53a3c6", func := "magpie/magpielaw02.CodeShapes", spec := "codeShapes", apart := false, narrowed := true }
def CodeShapesUptoSaid : Prop := codeShapesUptoRow.holds Try.pinned (OpenSpec.upto codeShapesSpec)

/-- 'magpielaw02.CodeSizes', WHERE WHAT IT READS IS OF BULK AT MOST 1048576: true; the input reads as it did. -/
def codeSizesUptoRow : OpenClaim := { program := "ytmofaahhnokohaa", sum := "93c79db42330b5a5e5b9092ca660b97310fafa4e97c9f90f45936a06ec53a3c6", func := "magpie/magpielaw02.CodeSizes", spec := "codeSizes", apart := false, narrowed := true }
def CodeSizesUptoSaid : Prop := codeSizesUptoRow.holds Try.pinned (OpenSpec.upto codeSizesSpec)

/-- 'magpielaw02.CodeAll', WHERE WHAT IT READS IS OF BULK AT MOST 1048576: true; the input reads as it did. -/
def codeAllUptoRow : OpenClaim := { program := "ytmofaahhnokohaa", sum := "93c79db42330b5a5e5b9092ca660b97310fafa4e97c9f90f45936a06ec53a3c6", func := "magpie/magpielaw02.CodeAll", spec := "codeAll", apart := false, narrowed := true }
def CodeAllUptoSaid : Prop := codeAllUptoRow.holds Try.pinned (OpenSpec.upto codeAllSpec)

/-- 'magpielaw02.CodeBack', WHERE WHAT IT READS IS OF BULK AT MOST 1048576: true; the input reads as it did. -/
def codeBackUptoRow : OpenClaim := { program := "ytmofaahhnokohaa", sum := "93c79db42330b5a5e5b9092ca660b97310fafa4e97c9f90f45936a06ec53a3c6", func := "magpie/magpielaw02.CodeBack", spec := "codeBack", apart := false, narrowed := true }
def CodeBackUptoSaid : Prop := codeBackUptoRow.holds Try.pinned (OpenSpec.upto codeBackSpec)

/-- 'magpielaw02.CodeNumbers', WHERE WHAT IT READS IS OF BULK AT MOST 1048576: true; the input reads as it did. -/
def codeNumbersUptoRow : OpenClaim := { program := "ytmofaahhnokohaa", sum := "93c79db42330b5a5e5b9092ca660b97310fafa4e97c9f90f45936a06ec53a3c6", func := "magpie/magpielaw02.CodeNumbers", spec := "codeNumbers", apart := false, narrowed := true }
def CodeNumbersUptoSaid : Prop := codeNumbersUptoRow.holds Try.pinned (OpenSpec.upto codeNumbersSpec)

/-- 'magpielaw02.CodeTurned', WHERE WHAT IT READS IS OF BULK AT MOST 1048576: true; the input reads as it did. -/
def codeTurnedUptoRow : OpenClaim := { program := "ytmofaahhnokohaa", sum := "93c79db42330b5a5e5b9092ca660b97310fafa4e97c9f90f45936a06ec53a3c6", func := "magpie/magpielaw02.CodeTurned", spec := "codeTurned", apart := false, narrowed := true }
def CodeTurnedUptoSaid : Prop := codeTurnedUptoRow.holds Try.pinned (OpenSpec.upto codeTurnedSpec)

/-- 'magpielaw05.ValidSpoilt', WHERE WHAT IT READS IS OF BULK AT MOST 1048576: true; the input reads as it did. -/
def validSpoiltUptoRow : OpenClaim := { program := "ytmofaahhnokohaa", sum := "93c79db42330b5a5e5b9092ca660b97310fafa4e97c9f90f45936a06ec53a3c6", func := "magpie/magpielaw05.ValidSpoilt", spec := "validSpoilt", unfollowed := true, recurses := true, apart := false, narrowed := true }
def ValidSpoiltUptoSaid : Prop := validSpoiltUptoRow.holds Try.pinned (OpenSpec.upto validSpoiltSpec)

/-- 'magpielaw05.ValidCounts', WHERE WHAT IT READS IS OF BULK AT MOST 1048576: true; the input reads as it did. -/
def validCountsUptoRow : OpenClaim := { program := "ytmofaahhnokohaa", sum := "93c79db42330b5a5e5b9092ca660b97310fafa4e97c9f90f45936a06ec53a3c6", func := "magpie/magpielaw05.ValidCounts", spec := "validCounts", unfollowed := true, recurses := true, apart := false, narrowed := true }
def ValidCountsUptoSaid : Prop := validCountsUptoRow.holds Try.pinned (OpenSpec.upto validCountsSpec)

end Rows
end Go.Proofs.Ytmofaahhnokohaa
