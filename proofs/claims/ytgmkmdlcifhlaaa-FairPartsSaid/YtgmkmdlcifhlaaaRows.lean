/-
  No cell of these rows narrows 'for every input' (looked for: loops, veiled, ifaces, maps, wideKeys, modest, calm, conditions, laid).
  DERIVED. THE GIVEN ROWS OF THIS SEAT. 5 by the template 'for every input the law returns true; each argument reads behind the call as it read before'; 0 by the template 'total and deterministic' (their statements: YtgmkmdlcifhlaaaTotals.lean).
  GIVEN WITH THE SEED: the statements are not yours to turn. If you find one false, say at which input.
  Laid BY PROGRAM, IN A SANDBOX (cutbox-rows.mjs): the forced cells as the released guide's own fill.sh prints them over the translation 2420b0107dbfbfcd… (all of the seat's roots in one cut). By AI agents, Wed Nov 11 2026. No macro, syntax, notation, axiom, sorry.
-/
import Derived.Test.YtgmkmdlcifhlaaaChecked
import GoSem.Claim
import GoSem.ClaimJoined
import GoSem.ClaimMapViews
import Derived.JoinedTies
import Derived.KernelRfl
namespace Go.Proofs.Ytgmkmdlcifhlaaa
/- THE CELL 'sum', in the pinned program and in every row, IS THE sha256 OF THE DUMP (.gsa) THAT YtgmkmdlcifhlaaaProg.lean LOADS. Nothing in Lean hashes anything: it is a label: what it is worth is what the hold of that sum in a sandbox is worth. -/
noncomputable def Try.pinned : Pinned := { name := "ytgmkmdlcifhlaaa", sum := "2420b0107dbfbfcd6f3ed615d6eb0cff0a3127cce6c8eebfb8617632673ae5a7", checked := Try.checked }
namespace Rows
def none {H : Type} : Left H := { results := [], args := [] }

/-- 'magpielaw25.FairAll': WHATEVER THE INPUT: true; the input reads as it did. -/
def fairAllSpec : ChangeSpec := { name := "fairAll", fn := fun _ => fun
  | [d1, d2, d3, d4, d5] => { results := [.lit (.bool true)], args := [d1, d2, d3, d4, d5] }
  | _ => none }
def fairAllRow : OpenClaim := { program := "ytgmkmdlcifhlaaa", sum := "2420b0107dbfbfcd6f3ed615d6eb0cff0a3127cce6c8eebfb8617632673ae5a7", func := "magpie/magpielaw25.FairAll", spec := "fairAll", apart := false }
def FairAllSaid : Prop := fairAllRow.holds Try.pinned (OpenSpec.ofChange fairAllSpec)

/-- ITS FALSE NEIGHBOUR: 'it returns false'. Refute it at one input. -/
def fairAllWrong : ChangeSpec := { name := "fairAll", fn := fun _ => fun
  | [d1, d2, d3, d4, d5] => { results := [.lit (.bool false)], args := [d1, d2, d3, d4, d5] }
  | _ => none }
def FairAllWrongFalsely : Prop := fairAllRow.holds Try.pinned (OpenSpec.ofChange fairAllWrong)

/-- 'magpielaw25.FairWindows': WHATEVER THE INPUT: true; the input reads as it did. -/
def fairWindowsSpec : ChangeSpec := { name := "fairWindows", fn := fun _ => fun
  | [d1, d2, d3, d4] => { results := [.lit (.bool true)], args := [d1, d2, d3, d4] }
  | _ => none }
def fairWindowsRow : OpenClaim := { program := "ytgmkmdlcifhlaaa", sum := "2420b0107dbfbfcd6f3ed615d6eb0cff0a3127cce6c8eebfb8617632673ae5a7", func := "magpie/magpielaw25.FairWindows", spec := "fairWindows", apart := false }
def FairWindowsSaid : Prop := fairWindowsRow.holds Try.pinned (OpenSpec.ofChange fairWindowsSpec)

/-- ITS FALSE NEIGHBOUR: 'it returns false'. Refute it at one input. -/
def fairWindowsWrong : ChangeSpec := { name := "fairWindows", fn := fun _ => fun
  | [d1, d2, d3, d4] => { results := [.lit (.bool false)], args := [d1, d2, d3, d4] }
  | _ => none }
def FairWindowsWrongFalsely : Prop := fairWindowsRow.holds Try.pinned (OpenSpec.ofChange fairWindowsWrong)

/-- 'magpielaw25.FairDraws': WHATEVER THE INPUT: true; the input reads as it did. -/
def fairDrawsSpec : ChangeSpec := { name := "fairDraws", fn := fun _ => fun
  | [d1, d2, d3, d4, d5] => { results := [.lit (.bool true)], args := [d1, d2, d3, d4, d5] }
  | _ => none }
def fairDrawsRow : OpenClaim := { program := "ytgmkmdlcifhlaaa", sum := "2420b0107dbfbfcd6f3ed615d6eb0cff0a3127cce6c8eebfb8617632673ae5a7", func := "magpie/magpielaw25.FairDraws", spec := "fairDraws", apart := false }
def FairDrawsSaid : Prop := fairDrawsRow.holds Try.pinned (OpenSpec.ofChange fairDrawsSpec)

/-- ITS FALSE NEIGHBOUR: 'it returns false'. Refute it at one input. -/
def fairDrawsWrong : ChangeSpec := { name := "fairDraws", fn := fun _ => fun
  | [d1, d2, d3, d4, d5] => { results := [.lit (.bool false)], args := [d1, d2, d3, d4, d5] }
  | _ => none }
def FairDrawsWrongFalsely : Prop := fairDrawsRow.holds Try.pinned (OpenSpec.ofChange fairDrawsWrong)

/-- 'magpielaw25.FairParts': WHATEVER THE INPUT: true; the input reads as it did. -/
def fairPartsSpec : ChangeSpec := { name := "fairParts", fn := fun _ => fun
  | [d1, d2, d3] => { results := [.lit (.bool true)], args := [d1, d2, d3] }
  | _ => none }
def fairPartsRow : OpenClaim := { program := "ytgmkmdlcifhlaaa", sum := "2420b0107dbfbfcd6f3ed615d6eb0cff0a3127cce6c8eebfb8617632673ae5a7", func := "magpie/magpielaw25.FairParts", spec := "fairParts", apart := false }
def FairPartsSaid : Prop := fairPartsRow.holds Try.pinned (OpenSpec.ofChange fairPartsSpec)

/-- ITS FALSE NEIGHBOUR: 'it returns false'. Refute it at one input. -/
def fairPartsWrong : ChangeSpec := { name := "fairParts", fn := fun _ => fun
  | [d1, d2, d3] => { results := [.lit (.bool false)], args := [d1, d2, d3] }
  | _ => none }
def FairPartsWrongFalsely : Prop := fairPartsRow.holds Try.pinned (OpenSpec.ofChange fairPartsWrong)

/-- 'magpielaw25.FairBounds': WHATEVER THE INPUT: true; the input reads as it did. -/
def fairBoundsSpec : ChangeSpec := { name := "fairBounds", fn := fun _ => fun
  | [d1, d2, d3, d4] => { results := [.lit (.bool true)], args := [d1, d2, d3, d4] }
  | _ => none }
def fairBoundsRow : OpenClaim := { program := "ytgmkmdlcifhlaaa", sum := "2420b0107dbfbfcd6f3ed615d6eb0cff0a3127cce6c8eebfb8617632673ae5a7", func := "magpie/magpielaw25.FairBounds", spec := "fairBounds", apart := false }
def FairBoundsSaid : Prop := fairBoundsRow.holds Try.pinned (OpenSpec.ofChange fairBoundsSpec)

/-- ITS FALSE NEIGHBOUR: 'it returns false'. Refute it at one input. -/
def fairBoundsWrong : ChangeSpec := { name := "fairBounds", fn := fun _ => fun
  | [d1, d2, d3, d4] => { results := [.lit (.bool false)], args := [d1, d2, d3, d4] }
  | _ => none }
def FairBoundsWrongFalsely : Prop := fairBoundsRow.holds Try.pinned (OpenSpec.ofChange fairBoundsWrong)

/- THE SECOND FORM. 'bulk': how many values and letters a reading holds, each counted each time it is reached (what is shared counts as often as it is met; a slice's spare places count too). A statement '..UptoSaid' is the law's where the arguments, and the package variables that the reading takes, are together of bulk at most 1048576: NARROWER than '..Said'. Prove '..Said' where nothing that the law and all that it calls make is longer than what came in: it says more and counts as full. Else prove '..UptoSaid'. A law counts once. -/
mutual
def uptoBulk {H : Type} : DataW H → Nat
  | .lit (.string bytes) => bytes.length + 1
  | .lit _ => 1
  | .nil => 1
  | .ptr d => uptoBulk d + 1
  | .slice elems spare => uptoBulkAll elems + uptoBulkAll spare + 1
  | .agg parts => uptoBulkAll parts + 1
  | .iface _ d => uptoBulk d + 1
  | .map entries => uptoBulkEntries entries + 1
  | .held _ => 1
def uptoBulkAll {H : Type} : List (DataW H) → Nat
  | [] => 0
  | d :: r => uptoBulk d + uptoBulkAll r
def uptoBulkEntries {H : Type} : List (Lit × DataW H) → Nat
  | [] => 0
  | x :: r => uptoBulkEntry x + uptoBulkEntries r
def uptoBulkEntry {H : Type} : Lit × DataW H → Nat
  | (.string bytes, d) => bytes.length + uptoBulk d + 1
  | (_, d) => uptoBulk d + 1
 end
def uptoSmall : (H : Type) → List (DataW H) → Bool := fun _ ds => decide (uptoBulkAll ds ≤ 1048576)
def OpenSpec.upto (s : _root_.Go.ChangeSpec) : _root_.Go.OpenSpec := { _root_.Go.OpenSpec.ofChange s with cond := some uptoSmall }

/-- 'magpielaw25.FairAll', WHERE WHAT IT READS IS OF BULK AT MOST 1048576: true; the input reads as it did. -/
def fairAllUptoRow : OpenClaim := { program := "ytgmkmdlcifhlaaa", sum := "2420b0107dbfbfcd6f3ed615d6eb0cff0a3127cce6c8eebfb8617632673ae5a7", func := "magpie/magpielaw25.FairAll", spec := "fairAll", apart := false, narrowed := true }
def FairAllUptoSaid : Prop := fairAllUptoRow.holds Try.pinned (OpenSpec.upto fairAllSpec)

/-- 'magpielaw25.FairWindows', WHERE WHAT IT READS IS OF BULK AT MOST 1048576: true; the input reads as it did. -/
def fairWindowsUptoRow : OpenClaim := { program := "ytgmkmdlcifhlaaa", sum := "2420b0107dbfbfcd6f3ed615d6eb0cff0a3127cce6c8eebfb8617632673ae5a7", func := "magpie/magpielaw25.FairWindows", spec := "fairWindows", apart := false, narrowed := true }
def FairWindowsUptoSaid : Prop := fairWindowsUptoRow.holds Try.pinned (OpenSpec.upto fairWindowsSpec)

/-- 'magpielaw25.FairDraws', WHERE WHAT IT READS IS OF BULK AT MOST 1048576: true; the input reads as it did. -/
def fairDrawsUptoRow : OpenClaim := { program := "ytgmkmdlcifhlaaa", sum := "2420b0107dbfbfcd6f3ed615d6eb0cff0a3127cce6c8eebfb8617632673ae5a7", func := "magpie/magpielaw25.FairDraws", spec := "fairDraws", apart := false, narrowed := true }
def FairDrawsUptoSaid : Prop := fairDrawsUptoRow.holds Try.pinned (OpenSpec.upto fairDrawsSpec)

/-- 'magpielaw25.FairParts', WHERE WHAT IT READS IS OF BULK AT MOST 1048576: true; the input reads as it did. -/
def fairPartsUptoRow : OpenClaim := { program := "ytgmkmdlcifhlaaa", sum := "2420b0107dbfbfcd6f3ed615d6eb0cff0a3127cce6c8eebfb8617632673ae5a7", func := "magpie/magpielaw25.FairParts", spec := "fairParts", apart := false, narrowed := true }
def FairPartsUptoSaid : Prop := fairPartsUptoRow.holds Try.pinned (OpenSpec.upto fairPartsSpec)

/-- 'magpielaw25.FairBounds', WHERE WHAT IT READS IS OF BULK AT MOST 1048576: true; the input reads as it did. -/
def fairBoundsUptoRow : OpenClaim := { program := "ytgmkmdlcifhlaaa", sum := "2420b0107dbfbfcd6f3ed615d6eb0cff0a3127cce6c8eebfb8617632673ae5a7", func := "magpie/magpielaw25.FairBounds", spec := "fairBounds", apart := false, narrowed := true }
def FairBoundsUptoSaid : Prop := fairBoundsUptoRow.holds Try.pinned (OpenSpec.upto fairBoundsSpec)

end Rows
end Go.Proofs.Ytgmkmdlcifhlaaa
