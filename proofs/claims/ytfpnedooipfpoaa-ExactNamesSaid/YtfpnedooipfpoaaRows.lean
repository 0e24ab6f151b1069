/-
  No cell of these rows narrows 'for every input' (looked for: loops, veiled, ifaces, maps, wideKeys, modest, calm, conditions, laid).
  DERIVED. THE GIVEN ROWS OF THIS SEAT. 4 by the template 'for every input the law returns true; each argument reads behind the call as it read before'; 0 by the template 'total and deterministic' (their statements: YtfpnedooipfpoaaTotals.lean).
  GIVEN WITH THE SEED: the statements are not yours to turn. If you find one false, say at which input.
  Laid BY PROGRAM, IN A SANDBOX (cutbox-rows.mjs): the forced cells as the released guide's own fill.sh prints them over the translation 53d0970fd04cc103… (all of the seat's roots in one cut). By AI agents, Wed Nov 11 2026. No macro, syntax, notation, axiom, sorry.
-/
import Derived.Test.YtfpnedooipfpoaaChecked
import GoSem.Claim
import GoSem.ClaimJoined
import GoSem.ClaimMapViews
import Derived.JoinedTies
import Derived.KernelRfl
namespace Go.Proofs.Ytfpnedooipfpoaa
/- THE CELL 'sum', in the pinned program and in every row, IS THE sha256 OF THE DUMP (.gsa) THAT YtfpnedooipfpoaaProg.lean LOADS. Nothing in Lean hashes anything: it is a label: what it is worth is what the hold of that sum in a sandbox is worth. -/
noncomputable def Try.pinned : Pinned := { name := "ytfpnedooipfpoaa", sum := "53d0970fd04cc103738965b7399a64f1a76e5576dc627ae3c6117eb00aa9352c", checked := Try.checked }
namespace Rows
def none {H : Type} : Left H := { results := [], args := [] }

/-- 'turnoutlaw10.ExactHalf': WHATEVER THE INPUT: true; the input reads as it did. -/
def exactHalfSpec : ChangeSpec := { name := "exactHalf", fn := fun _ => fun
  | [d] => { results := [.lit (.bool true)], args := [d] }
  | _ => none }
def exactHalfRow : OpenClaim := { program := "ytfpnedooipfpoaa", sum := "53d0970fd04cc103738965b7399a64f1a76e5576dc627ae3c6117eb00aa9352c", func := "turnout/turnoutlaw10.ExactHalf", spec := "exactHalf", apart := false }
def ExactHalfSaid : Prop := exactHalfRow.holds Try.pinned (OpenSpec.ofChange exactHalfSpec)

/-- ITS FALSE NEIGHBOUR: 'it returns false'. Refute it at one input. -/
def exactHalfWrong : ChangeSpec := { name := "exactHalf", fn := fun _ => fun
  | [d] => { results := [.lit (.bool false)], args := [d] }
  | _ => none }
def ExactHalfWrongFalsely : Prop := exactHalfRow.holds Try.pinned (OpenSpec.ofChange exactHalfWrong)

/-- 'turnoutlaw10.ExactReach': WHATEVER THE INPUT: true; the input reads as it did. -/
def exactReachSpec : ChangeSpec := { name := "exactReach", fn := fun _ => fun
  | [d1, d2] => { results := [.lit (.bool true)], args := [d1, d2] }
  | _ => none }
def exactReachRow : OpenClaim := { program := "ytfpnedooipfpoaa", sum := "53d0970fd04cc103738965b7399a64f1a76e5576dc627ae3c6117eb00aa9352c", func := "turnout/turnoutlaw10.ExactReach", spec := "exactReach", recurses := true, apart := false }
def ExactReachSaid : Prop := exactReachRow.holds Try.pinned (OpenSpec.ofChange exactReachSpec)

/-- ITS FALSE NEIGHBOUR: 'it returns false'. Refute it at one input. -/
def exactReachWrong : ChangeSpec := { name := "exactReach", fn := fun _ => fun
  | [d1, d2] => { results := [.lit (.bool false)], args := [d1, d2] }
  | _ => none }
def ExactReachWrongFalsely : Prop := exactReachRow.holds Try.pinned (OpenSpec.ofChange exactReachWrong)

/-- 'turnoutlaw10.ExactNames': WHATEVER THE INPUT: true; the input reads as it did. -/
def exactNamesSpec : ChangeSpec := { name := "exactNames", fn := fun _ => fun
  | [] => { results := [.lit (.bool true)], args := [] }
  | _ => none }
def exactNamesRow : OpenClaim := { program := "ytfpnedooipfpoaa", sum := "53d0970fd04cc103738965b7399a64f1a76e5576dc627ae3c6117eb00aa9352c", func := "turnout/turnoutlaw10.ExactNames", spec := "exactNames", recurses := true, apart := false }
def ExactNamesSaid : Prop := exactNamesRow.holds Try.pinned (OpenSpec.ofChange exactNamesSpec)

/-- ITS FALSE NEIGHBOUR: 'it returns false'. Refute it at one input. -/
def exactNamesWrong : ChangeSpec := { name := "exactNames", fn := fun _ => fun
  | [] => { results := [.lit (.bool false)], args := [] }
  | _ => none }
def ExactNamesWrongFalsely : Prop := exactNamesRow.holds Try.pinned (OpenSpec.ofChange exactNamesWrong)

/-- 'turnoutlaw10.ExactWhatever': WHATEVER THE INPUT: true; the input reads as it did. -/
def exactWhateverSpec : ChangeSpec := { name := "exactWhatever", fn := fun _ => fun
  | [d1, d2] => { results := [.lit (.bool true)], args := [d1, d2] }
  | _ => none }
def exactWhateverRow : OpenClaim := { program := "ytfpnedooipfpoaa", sum := "53d0970fd04cc103738965b7399a64f1a76e5576dc627ae3c6117eb00aa9352c", func := "turnout/turnoutlaw10.ExactWhatever", spec := "exactWhatever", recurses := true, apart := false }
def ExactWhateverSaid : Prop := exactWhateverRow.holds Try.pinned (OpenSpec.ofChange exactWhateverSpec)

/-- ITS FALSE NEIGHBOUR: 'it returns false'. Refute it at one input. -/
def exactWhateverWrong : ChangeSpec := { name := "exactWhatever", fn := fun _ => fun
  | [d1, d2] => { results := [.lit (.bool false)], args := [d1, d2] }
  | _ => none }
def ExactWhateverWrongFalsely : Prop := exactWhateverRow.holds Try.pinned (OpenSpec.ofChange exactWhateverWrong)

/- THE SECOND FORM. 'bulk': how many values and letters a reading holds, each counted each time it is reached (what is shared counts as often as it is met; a slice's spare places count too). A statement '..UptoSaid' is the law's where the arguments, and the package variables that the reading takes, are together of bulk at most 1048576: NARROWER than '..Said'. Prove '..Said' where nothing that the law and all that it calls make is longer than what came in: it says more and counts as full. Else prove '..UptoSaid'. A law counts once. -/
mutual
def uptoBulk {H : Type} : DataW H → Nat
  | .lit (.string bytes) => bytes.length + 1
  | .lit _ => 1
  | .nil => 1
  | .ptr d => uptoBulk d + 1
  | .slice elems spare => uptoBulkAll elems + uptoBulkAll spare + 1
  | .agg parts => uptoBulkAll parts + 1
  | .iface _ d => uptoBulk d + 1
  | .map entries => uptoBulkEntries entries + 1
  | .held _ => 1
def uptoBulkAll {H : Type} : List (DataW H) → Nat
  | [] => 0
  | d :: r => uptoBulk d + uptoBulkAll r
def uptoBulkEntries {H : Type} : List (Lit × DataW H) → Nat
  | [] => 0
  | x :: r => uptoBulkEntry x + uptoBulkEntries r
def uptoBulkEntry {H : Type} : Lit × DataW H → Nat
  | (.string bytes, d) => bytes.length + uptoBulk d + 1
  | (_, d) => uptoBulk d + 1
 end
def uptoSmall : (H : Type) → List (DataW H) → Bool := fun _ ds => decide (uptoBulkAll ds ≤ 1048576)
def OpenSpec.upto (s : _root_.Go.ChangeSpec) : _root_.Go.OpenSpec := { _root_.Go.OpenSpec.ofChange s with cond := some uptoSmall }

/-- 'turnoutlaw10.ExactHalf', WHERE WHAT IT READS IS OF BULK AT MOST 1048576: true; the input reads as it did. -/
def exactHalfUptoRow : OpenClaim := { program := "ytfpnedooipfpoaa", sum := "53d0970fd04cc103738965b7399a64f1a76e5576dc627ae3c6117eb00aa9352c", func := "turnout/turnoutlaw10.ExactHalf", spec := "exactHalf", apart := false, narrowed := true }
def ExactHalfUptoSaid : Prop := exactHalfUptoRow.holds Try.pinned (OpenSpec.upto exactHalfSpec)

/-- 'turnoutlaw10.ExactReach', WHERE WHAT IT READS IS OF BULK AT MOST 1048576: true; the input reads as it did. -/
def exactReachUptoRow : OpenClaim := { program := "ytfpnedooipfpoaa", sum := "53d0970fd04cc103738965b7399a64f1a76e5576dc627ae3c6117eb00aa9352c", func := "turnout/turnoutlaw10.ExactReach", spec := "exactReach", recurses := true, apart := false, narrowed := true }
def ExactReachUptoSaid : Prop := exactReachUptoRow.holds Try.pinned (OpenSpec.upto exactReachSpec)

/-- 'turnoutlaw10.ExactNames', WHERE WHAT IT READS IS OF BULK AT MOST 1048576: true; the input reads as it did. -/
def exactNamesUptoRow : OpenClaim := { program := "ytfpnedooipfpoaa", sum := "53d0970fd04cc103738965b7399a64f1a76e5576dc627ae3c6117eb00aa9352c", func := "turnout/turnoutlaw10.ExactNames", spec := "exactNames", recurses := true, apart := false, narrowed := true }
def ExactNamesUptoSaid : Prop := exactNamesUptoRow.holds Try.pinned (OpenSpec.upto exactNamesSpec)

/-- 'turnoutlaw10.ExactWhatever', WHERE WHAT IT READS IS OF BULK AT MOST 1048576: true; the input reads as it did. -/
def exactWhateverUptoRow : OpenClaim := { program := "ytfpnedooipfpoaa", sum := "53d0970fd04cc103738965b7399a64f1a76e5576dc627ae3c6117eb00aa9352c", func := "turnout/turnoutlaw10.ExactWhatever", spec := "exactWhatever", recurses := true, apart := false, narrowed := true }
def ExactWhateverUptoSaid : Prop := exactWhateverUptoRow.holds Try.pinned (OpenSpec.upto exactWhateverSpec)

end Rows
end Go.Proofs.Ytfpnedooipfpoaa
