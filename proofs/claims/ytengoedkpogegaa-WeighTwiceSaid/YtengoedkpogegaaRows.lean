/-
  No cell of these rows narrows 'for every input' (looked for: loops, veiled, ifaces, maps, wideKeys, modest, calm, conditions, laid).
  DERIVED. THE GIVEN ROWS OF THIS SEAT. 8 by the template 'for every input the law returns true; each argument reads behind the call as it read before'; 0 by the template 'total and deterministic' (their statements: YtengoedkpogegaaTotals.lean).
  GIVEN WITH THE SEED: the statements are not yours to turn. If you find one false, say at which input.
  Laid BY PROGRAM, IN A SANDBOX (cutbox-rows.mjs): the forced cells as the released guide's own fill.sh prints them over the translation 9f2f6118fef1db0c… (all of the seat's roots in one cut). By AI agents, Wed Nov 11 2026. No macro, syntax, notation, axiom, sorry.
-/
import Derived.Test.YtengoedkpogegaaChecked
import GoSem.Claim
import GoSem.ClaimJoined
import GoSem.ClaimMapViews
import Derived.JoinedTies
import Derived.KernelRfl
namespace Go.Proofs.Ytengoedkpogegaa
/- THE CELL 'sum', in the pinned program and in every row, IS THE sha256 OF THE DUMP (.gsa) THAT YtengoedkpogegaaProg.lean LOADS. Nothing in Lean hashes anything: it is a label: what it is worth is what the hold of that sum in a sandbox is worth. -/
noncomputable def Try.pinned : Pinned := { name := "ytengoedkpogegaa", sum := "9f2f6118fef1db0ca959c2ae76d1e4ada6c647bf28022898ed0b688a07a9ce93", checked := Try.checked }
namespace Rows
def none {H : Type} : Left H := { results := [], args := [] }

/-- 'turnoutlaw20.WeighClasses': WHATEVER THE INPUT: true; the input reads as it did. -/
def weighClassesSpec : ChangeSpec := { name := "weighClasses", fn := fun _ => fun
  | [d] => { results := [.lit (.bool true)], args := [d] }
  | _ => none }
def weighClassesRow : OpenClaim := { program := "ytengoedkpogegaa", sum := "9f2f6118fef1db0ca959c2ae76d1e4ada6c647bf28022898ed0b688a07a9ce93", func := "turnout/turnoutlaw20.WeighClasses", spec := "weighClasses", inPlace := ["math.Float64frombits", "math.Float64bits"], apart := false }
def WeighClassesSaid : Prop := weighClassesRow.holds Try.pinned (OpenSpec.ofChange weighClassesSpec)

/-- ITS FALSE NEIGHBOUR: 'it returns false'. Refute it at one input. -/
def weighClassesWrong : ChangeSpec := { name := "weighClasses", fn := fun _ => fun
  | [d] => { results := [.lit (.bool false)], args := [d] }
  | _ => none }
def WeighClassesWrongFalsely : Prop := weighClassesRow.holds Try.pinned (OpenSpec.ofChange weighClassesWrong)

/-- 'turnoutlaw20.WeighChooses': WHATEVER THE INPUT: true; the input reads as it did. -/
def weighChoosesSpec : ChangeSpec := { name := "weighChooses", fn := fun _ => fun
  | [d1, d2] => { results := [.lit (.bool true)], args := [d1, d2] }
  | _ => none }
def weighChoosesRow : OpenClaim := { program := "ytengoedkpogegaa", sum := "9f2f6118fef1db0ca959c2ae76d1e4ada6c647bf28022898ed0b688a07a9ce93", func := "turnout/turnoutlaw20.WeighChooses", spec := "weighChooses", inPlace := ["math.Float64frombits", "math.Float64bits"], apart := false }
def WeighChoosesSaid : Prop := weighChoosesRow.holds Try.pinned (OpenSpec.ofChange weighChoosesSpec)

/-- ITS FALSE NEIGHBOUR: 'it returns false'. Refute it at one input. -/
def weighChoosesWrong : ChangeSpec := { name := "weighChooses", fn := fun _ => fun
  | [d1, d2] => { results := [.lit (.bool false)], args := [d1, d2] }
  | _ => none }
def WeighChoosesWrongFalsely : Prop := weighChoosesRow.holds Try.pinned (OpenSpec.ofChange weighChoosesWrong)

/-- 'turnoutlaw20.WeighNames': WHATEVER THE INPUT: true; the input reads as it did. -/
def weighNamesSpec : ChangeSpec := { name := "weighNames", fn := fun _ => fun
  | [] => { results := [.lit (.bool true)], args := [] }
  | _ => none }
def weighNamesRow : OpenClaim := { program := "ytengoedkpogegaa", sum := "9f2f6118fef1db0ca959c2ae76d1e4ada6c647bf28022898ed0b688a07a9ce93", func := "turnout/turnoutlaw20.WeighNames", spec := "weighNames", inPlace := ["math.Float64frombits", "math.Float64bits"], apart := false }
def WeighNamesSaid : Prop := weighNamesRow.holds Try.pinned (OpenSpec.ofChange weighNamesSpec)

/-- ITS FALSE NEIGHBOUR: 'it returns false'. Refute it at one input. -/
def weighNamesWrong : ChangeSpec := { name := "weighNames", fn := fun _ => fun
  | [] => { results := [.lit (.bool false)], args := [] }
  | _ => none }
def WeighNamesWrongFalsely : Prop := weighNamesRow.holds Try.pinned (OpenSpec.ofChange weighNamesWrong)

/-- 'turnoutlaw20.WeighOne': WHATEVER THE INPUT: true; the input reads as it did. -/
def weighOneSpec : ChangeSpec := { name := "weighOne", fn := fun _ => fun
  | [d1, d2] => { results := [.lit (.bool true)], args := [d1, d2] }
  | _ => none }
def weighOneRow : OpenClaim := { program := "ytengoedkpogegaa", sum := "9f2f6118fef1db0ca959c2ae76d1e4ada6c647bf28022898ed0b688a07a9ce93", func := "turnout/turnoutlaw20.WeighOne", spec := "weighOne", inPlace := ["math.Float64frombits", "math.Float64bits"], apart := false }
def WeighOneSaid : Prop := weighOneRow.holds Try.pinned (OpenSpec.ofChange weighOneSpec)

/-- ITS FALSE NEIGHBOUR: 'it returns false'. Refute it at one input. -/
def weighOneWrong : ChangeSpec := { name := "weighOne", fn := fun _ => fun
  | [d1, d2] => { results := [.lit (.bool false)], args := [d1, d2] }
  | _ => none }
def WeighOneWrongFalsely : Prop := weighOneRow.holds Try.pinned (OpenSpec.ofChange weighOneWrong)

/-- 'turnoutlaw20.WeighRises': WHATEVER THE INPUT: true; the input reads as it did. -/
def weighRisesSpec : ChangeSpec := { name := "weighRises", fn := fun _ => fun
  | [d1, d2, d3] => { results := [.lit (.bool true)], args := [d1, d2, d3] }
  | _ => none }
def weighRisesRow : OpenClaim := { program := "ytengoedkpogegaa", sum := "9f2f6118fef1db0ca959c2ae76d1e4ada6c647bf28022898ed0b688a07a9ce93", func := "turnout/turnoutlaw20.WeighRises", spec := "weighRises", inPlace := ["math.Float64frombits", "math.Float64bits"], apart := false }
def WeighRisesSaid : Prop := weighRisesRow.holds Try.pinned (OpenSpec.ofChange weighRisesSpec)

/-- ITS FALSE NEIGHBOUR: 'it returns false'. Refute it at one input. -/
def weighRisesWrong : ChangeSpec := { name := "weighRises", fn := fun _ => fun
  | [d1, d2, d3] => { results := [.lit (.bool false)], args := [d1, d2, d3] }
  | _ => none }
def WeighRisesWrongFalsely : Prop := weighRisesRow.holds Try.pinned (OpenSpec.ofChange weighRisesWrong)

/-- 'turnoutlaw20.WeighTwice': WHATEVER THE INPUT: true; the input reads as it did. -/
def weighTwiceSpec : ChangeSpec := { name := "weighTwice", fn := fun _ => fun
  | [d1, d2] => { results := [.lit (.bool true)], args := [d1, d2] }
  | _ => none }
def weighTwiceRow : OpenClaim := { program := "ytengoedkpogegaa", sum := "9f2f6118fef1db0ca959c2ae76d1e4ada6c647bf28022898ed0b688a07a9ce93", func := "turnout/turnoutlaw20.WeighTwice", spec := "weighTwice", inPlace := ["math.Float64frombits", "math.Float64bits"], apart := false }
def WeighTwiceSaid : Prop := weighTwiceRow.holds Try.pinned (OpenSpec.ofChange weighTwiceSpec)

/-- ITS FALSE NEIGHBOUR: 'it returns false'. Refute it at one input. -/
def weighTwiceWrong : ChangeSpec := { name := "weighTwice", fn := fun _ => fun
  | [d1, d2] => { results := [.lit (.bool false)], args := [d1, d2] }
  | _ => none }
def WeighTwiceWrongFalsely : Prop := weighTwiceRow.holds Try.pinned (OpenSpec.ofChange weighTwiceWrong)

/-- 'turnoutlaw20.WeighMay': WHATEVER THE INPUT: true; the input reads as it did. -/
def weighMaySpec : ChangeSpec := { name := "weighMay", fn := fun _ => fun
  | [d] => { results := [.lit (.bool true)], args := [d] }
  | _ => none }
def weighMayRow : OpenClaim := { program := "ytengoedkpogegaa", sum := "9f2f6118fef1db0ca959c2ae76d1e4ada6c647bf28022898ed0b688a07a9ce93", func := "turnout/turnoutlaw20.WeighMay", spec := "weighMay", inPlace := ["math.Float64frombits", "math.Float64bits"], apart := false }
def WeighMaySaid : Prop := weighMayRow.holds Try.pinned (OpenSpec.ofChange weighMaySpec)

/-- ITS FALSE NEIGHBOUR: 'it returns false'. Refute it at one input. -/
def weighMayWrong : ChangeSpec := { name := "weighMay", fn := fun _ => fun
  | [d] => { results := [.lit (.bool false)], args := [d] }
  | _ => none }
def WeighMayWrongFalsely : Prop := weighMayRow.holds Try.pinned (OpenSpec.ofChange weighMayWrong)

/-- 'turnoutlaw20.WeighAlike': WHATEVER THE INPUT: true; the input reads as it did. -/
def weighAlikeSpec : ChangeSpec := { name := "weighAlike", fn := fun _ => fun
  | [d1, d2, d3] => { results := [.lit (.bool true)], args := [d1, d2, d3] }
  | _ => none }
def weighAlikeRow : OpenClaim := { program := "ytengoedkpogegaa", sum := "9f2f6118fef1db0ca959c2ae76d1e4ada6c647bf28022898ed0b688a07a9ce93", func := "turnout/turnoutlaw20.WeighAlike", spec := "weighAlike", inPlace := ["math.Float64frombits", "math.Float64bits"], apart := false }
def WeighAlikeSaid : Prop := weighAlikeRow.holds Try.pinned (OpenSpec.ofChange weighAlikeSpec)

/-- ITS FALSE NEIGHBOUR: 'it returns false'. Refute it at one input. -/
def weighAlikeWrong : ChangeSpec := { name := "weighAlike", fn := fun _ => fun
  | [d1, d2, d3] => { results := [.lit (.bool false)], args := [d1, d2, d3] }
  | _ => none }
def WeighAlikeWrongFalsely : Prop := weighAlikeRow.holds Try.pinned (OpenSpec.ofChange weighAlikeWrong)

/- THE SECOND FORM. 'bulk': how many values and letters a reading holds, each counted each time it is reached (what is shared counts as often as it is met; a slice's spare places count too). A statement '..UptoSaid' is the law's where the arguments, and the package variables that the reading takes, are together of bulk at most 1048576: NARROWER than '..Said'. Prove '..Said' where nothing that the law and all that it calls make is longer than what came in: it says more and counts as full. Else prove '..UptoSaid'. A law counts once. -/
mutual
def uptoBulk {H : Type} : DataW H → Nat
  | .lit (.string bytes) => bytes.length + 1
  | .lit _ => 1
  | .nil => 1
  | .ptr d => uptoBulk d + 1
  | .slice elems spare => uptoBulkAll elems + uptoBulkAll spare + 1
  | .agg parts => uptoBulkAll parts + 1
  | .iface _ d => uptoBulk d + 1
  | .map entries => uptoBulkEntries entries + 1
  | .held _ => 1
def uptoBulkAll {H : Type} : List (DataW H) → Nat
  | [] => 0
  | d :: r => uptoBulk d + uptoBulkAll r
def uptoBulkEntries {H : Type} : List (Lit × DataW H) → Nat
  | [] => 0
  | x :: r => uptoBulkEntry x + uptoBulkEntries r
def uptoBulkEntry {H : Type} : Lit × DataW H → Nat
  | (.string bytes, d) => bytes.length + uptoBulk d + 1
  | (_, d) => uptoBulk d + 1
 end
def uptoSmall : (H : Type) → List (DataW H) → Bool := fun _ ds => decide (uptoBulkAll ds ≤ 1048576)
def OpenSpec.upto (s : _root_.Go.ChangeSpec) : _root_.Go.OpenSpec := { _root_.Go.OpenSpec.ofChange s with cond := some uptoSmall }

/-- 'turnoutlaw20.WeighClasses', WHERE WHAT IT READS IS OF BULK AT MOST 1048576: true; the input reads as it did. -/
def weighClassesUptoRow : OpenClaim := { program := "ytengoedkpogegaa", sum := "9f2f6118fef1db0ca959c2ae76d1e4ada6c647bf28022898ed0b688a07a9ce93", func := "turnout/turnoutlaw20.WeighClasses", spec := "weighClasses", inPlace := ["math.Float64frombits", "math.Float64bits"], apart := false, narrowed := true }
def WeighClassesUptoSaid : Prop := weighClassesUptoRow.holds Try.pinned (OpenSpec.upto weighClassesSpec)

/-- 'turnoutlaw20.WeighChooses', WHERE WHAT IT READS IS OF BULK AT MOST 1048576: true; the input reads as it did. -/
def weighChoosesUptoRow : OpenClaim := { program := "ytengoedkpogegaa", sum := "9f2f6118fef1db0ca959c2ae76d1e4ada6c647bf28022898ed0b688a07a9ce93", func := "turnout/turnoutlaw20.WeighChooses", spec := "weighChooses", inPlace := ["math.Float64frombits", "math.Float64bits"], apart := false, narrowed := true }
def WeighChoosesUptoSaid : Prop := weighChoosesUptoRow.holds Try.pinned (OpenSpec.upto weighChoosesSpec)

/-- 'turnoutlaw20.WeighNames', WHERE WHAT IT READS IS OF BULK AT MOST 1048576: true; the input reads as it did. -/
def weighNamesUptoRow : OpenClaim := { program := "ytengoedkpogegaa", sum := "9f2f6118fef1db0ca959c2ae76d1e4ada6c647bf28022898ed0b688a07a9ce93", func := "turnout/turnoutlaw20.WeighNames", spec := "weighNames", inPlace := ["math.Float64frombits", "math.Float64bits"], apart := false, narrowed := true }
def WeighNamesUptoSaid : Prop := weighNamesUptoRow.holds Try.pinned (OpenSpec.upto weighNamesSpec)

/-- 'turnoutlaw20.WeighOne', WHERE WHAT IT READS IS OF BULK AT MOST 1048576: true; the input reads as it did. -/
def weighOneUptoRow : OpenClaim := { program := "ytengoedkpogegaa", sum := "9f2f6118fef1db0ca959c2ae76d1e4ada6c647bf28022898ed0b688a07a9ce93", func := "turnout/turnoutlaw20.WeighOne", spec := "weighOne", inPlace := ["math.Float64frombits", "math.Float64bits"], apart := false, narrowed := true }
def WeighOneUptoSaid : Prop := weighOneUptoRow.holds Try.pinned (OpenSpec.upto weighOneSpec)

/-- 'turnoutlaw20.WeighRises', WHERE WHAT IT READS IS OF BULK AT MOST 1048576: true; the input reads as it did. -/
def weighRisesUptoRow : OpenClaim := { program := "ytengoedkpogegaa", sum := "9f2f6118fef1db0ca959c2ae76d1e4ada6c647bf28022898ed0b688a07a9ce93", func := "turnout/turnoutlaw20.WeighRises", spec := "weighRises", inPlace := ["math.Float64frombits", "math.Float64bits"], apart := false, narrowed := true }
def WeighRisesUptoSaid : Prop := weighRisesUptoRow.holds Try.pinned (OpenSpec.upto weighRisesSpec)

/-- 'turnoutlaw20.WeighTwice', WHERE WHAT IT READS IS OF BULK AT MOST 1048576: true; the input reads as it did. -/
def weighTwiceUptoRow : OpenClaim := { program := "ytengoedkpogegaa", sum := "9f2f6118fef1db0ca959c2ae76d1e4ada6c647bf28022898ed0b688a07a9ce93", func := "turnout/turnoutlaw20.WeighTwice", spec := "weighTwice", inPlace := ["math.Float64frombits", "math.Float64bits"], apart := false, narrowed := true }
def WeighTwiceUptoSaid : Prop := weighTwiceUptoRow.holds Try.pinned (OpenSpec.upto weighTwiceSpec)

/-- 'turnoutlaw20.WeighMay', WHERE WHAT IT READS IS OF BULK AT MOST 1048576: true; the input reads as it did. -/
def weighMayUptoRow : OpenClaim := { program := "ytengoedkpogegaa", sum := "9f2f6118fef1db0ca959c2ae76d1e4ada6c647bf28022898ed0b688a07a9ce93", func := "turnout/turnoutlaw20.WeighMay", spec := "weighMay", inPlace := ["math.Float64frombits", "math.Float64bits"], apart := false, narrowed := true }
def WeighMayUptoSaid : Prop := weighMayUptoRow.holds Try.pinned (OpenSpec.upto weighMaySpec)

/-- 'turnoutlaw20.WeighAlike', WHERE WHAT IT READS IS OF BULK AT MOST 1048576: true; the input reads as it did. -/
def weighAlikeUptoRow : OpenClaim := { program := "ytengoedkpogegaa", sum := "9f2f6118fef1db0ca959c2ae76d1e4ada6c647bf28022898ed0b688a07a9ce93", func := "turnout/turnoutlaw20.WeighAlike", spec := "weighAlike", inPlace := ["math.Float64frombits", "math.Float64bits"], apart := false, narrowed := true }
def WeighAlikeUptoSaid : Prop := weighAlikeUptoRow.holds Try.pinned (OpenSpec.upto weighAlikeSpec)

end Rows
end Go.Proofs.Ytengoedkpogegaa
