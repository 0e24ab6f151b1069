/-
  No cell of these rows narrows 'for every input' (looked for: loops, veiled, ifaces, maps, wideKeys, modest, calm, conditions, laid).
  DERIVED. THE GIVEN ROWS OF THIS SEAT. 7 by the template 'for every input the law returns true; each argument reads behind the call as it read before'; 0 by the template 'total and deterministic' (their statements: YtpmckbpplkkgaaaTotals.lean).
  GIVEN WITH THE SEED: the statements are not yours to turn. If you find one false, say at which input.
  Laid BY PROGRAM, IN A SANDBOX (cutbox-rows.mjs): the forced cells as the released guide's own fill.sh prints them over the translation 15ac80857ab7ee42… (all of the seat's roots in one cut). By AI agents, Wed Nov 11 2026. No macro, syntax, notation, axiom, sorry.
-/
import Derived.Test.YtpmckbpplkkgaaaChecked
import GoSem.Claim
import GoSem.ClaimJoined
import GoSem.ClaimMapViews
import Derived.JoinedTies
import Derived.KernelRfl
namespace Go.Proofs.Ytpmckbpplkkgaaa
/- THE CELL 'sum', in the pinned program and in every row, IS THE sha256 OF THE DUMP (.gsa) THAT YtpmckbpplkkgaaaProg.lean LOADS. Nothing in Lean hashes anything: it is a label: what it is worth is what the hold of that sum in a sandbox is worth. -/
noncomputable def Try.pinned : Pinned := { name := "ytpmckbpplkkgaaa", sum := "15ac80857ab7ee422343cdf7ffa596bf960941d567e85cc151eaf5fc4f349b6e", checked := Try.checked }
namespace Rows
def none {H : Type} : Left H := { results := [], args := [] }

/-- 'turnoutlaw21.GroupNames': WHATEVER THE INPUT: true; the input reads as it did. -/
def groupNamesSpec : ChangeSpec := { name := "groupNames", fn := fun _ => fun
  | [] => { results := [.lit (.bool true)], args := [] }
  | _ => none }
def groupNamesRow : OpenClaim := { program := "ytpmckbpplkkgaaa", sum := "15ac80857ab7ee422343cdf7ffa596bf960941d567e85cc151eaf5fc4f349b6e", func := "turnout/turnoutlaw21.GroupNames", spec := "groupNames", inPlace := ["math.Float64frombits", "math.Float64bits"], unfollowed := true, recurses := true, apart := false }
def GroupNamesSaid : Prop := groupNamesRow.holds Try.pinned (OpenSpec.ofChange groupNamesSpec)

/-- ITS FALSE NEIGHBOUR: 'it returns false'. Refute it at one input. -/
def groupNamesWrong : ChangeSpec := { name := "groupNames", fn := fun _ => fun
  | [] => { results := [.lit (.bool false)], args := [] }
  | _ => none }
def GroupNamesWrongFalsely : Prop := groupNamesRow.holds Try.pinned (OpenSpec.ofChange groupNamesWrong)

/-- 'turnoutlaw21.GroupTells': WHATEVER THE INPUT: true; the input reads as it did. -/
def groupTellsSpec : ChangeSpec := { name := "groupTells", fn := fun _ => fun
  | [d1, d2] => { results := [.lit (.bool true)], args := [d1, d2] }
  | _ => none }
def groupTellsRow : OpenClaim := { program := "ytpmckbpplkkgaaa", sum := "15ac80857ab7ee422343cdf7ffa596bf960941d567e85cc151eaf5fc4f349b6e", func := "turnout/turnoutlaw21.GroupTells", spec := "groupTells", inPlace := ["math.Float64frombits", "math.Float64bits"], unfollowed := true, recurses := true, apart := false }
def GroupTellsSaid : Prop := groupTellsRow.holds Try.pinned (OpenSpec.ofChange groupTellsSpec)

/-- ITS FALSE NEIGHBOUR: 'it returns false'. Refute it at one input. -/
def groupTellsWrong : ChangeSpec := { name := "groupTells", fn := fun _ => fun
  | [d1, d2] => { results := [.lit (.bool false)], args := [d1, d2] }
  | _ => none }
def GroupTellsWrongFalsely : Prop := groupTellsRow.holds Try.pinned (OpenSpec.ofChange groupTellsWrong)

/-- 'turnoutlaw21.GroupGoes': WHATEVER THE INPUT: true; the input reads as it did. -/
def groupGoesSpec : ChangeSpec := { name := "groupGoes", fn := fun _ => fun
  | [d1, d2] => { results := [.lit (.bool true)], args := [d1, d2] }
  | _ => none }
def groupGoesRow : OpenClaim := { program := "ytpmckbpplkkgaaa", sum := "15ac80857ab7ee422343cdf7ffa596bf960941d567e85cc151eaf5fc4f349b6e", func := "turnout/turnoutlaw21.GroupGoes", spec := "groupGoes", inPlace := ["math.Float64frombits", "math.Float64bits"], unfollowed := true, recurses := true, apart := false }
def GroupGoesSaid : Prop := groupGoesRow.holds Try.pinned (OpenSpec.ofChange groupGoesSpec)

/-- ITS FALSE NEIGHBOUR: 'it returns false'. Refute it at one input. -/
def groupGoesWrong : ChangeSpec := { name := "groupGoes", fn := fun _ => fun
  | [d1, d2] => { results := [.lit (.bool false)], args := [d1, d2] }
  | _ => none }
def GroupGoesWrongFalsely : Prop := groupGoesRow.holds Try.pinned (OpenSpec.ofChange groupGoesWrong)

/-- 'turnoutlaw21.GroupAlone': WHATEVER THE INPUT: true; the input reads as it did. -/
def groupAloneSpec : ChangeSpec := { name := "groupAlone", fn := fun _ => fun
  | [d1, d2, d3, d4, d5] => { results := [.lit (.bool true)], args := [d1, d2, d3, d4, d5] }
  | _ => none }
def groupAloneRow : OpenClaim := { program := "ytpmckbpplkkgaaa", sum := "15ac80857ab7ee422343cdf7ffa596bf960941d567e85cc151eaf5fc4f349b6e", func := "turnout/turnoutlaw21.GroupAlone", spec := "groupAlone", inPlace := ["math.Float64frombits", "math.Float64bits"], unfollowed := true, recurses := true, apart := false }
def GroupAloneSaid : Prop := groupAloneRow.holds Try.pinned (OpenSpec.ofChange groupAloneSpec)

/-- ITS FALSE NEIGHBOUR: 'it returns false'. Refute it at one input. -/
def groupAloneWrong : ChangeSpec := { name := "groupAlone", fn := fun _ => fun
  | [d1, d2, d3, d4, d5] => { results := [.lit (.bool false)], args := [d1, d2, d3, d4, d5] }
  | _ => none }
def GroupAloneWrongFalsely : Prop := groupAloneRow.holds Try.pinned (OpenSpec.ofChange groupAloneWrong)

/-- 'turnoutlaw21.GroupEven': WHATEVER THE INPUT: true; the input reads as it did. -/
def groupEvenSpec : ChangeSpec := { name := "groupEven", fn := fun _ => fun
  | [d1, d2, d3] => { results := [.lit (.bool true)], args := [d1, d2, d3] }
  | _ => none }
def groupEvenRow : OpenClaim := { program := "ytpmckbpplkkgaaa", sum := "15ac80857ab7ee422343cdf7ffa596bf960941d567e85cc151eaf5fc4f349b6e", func := "turnout/turnoutlaw21.GroupEven", spec := "groupEven", inPlace := ["math.Float64frombits", "math.Float64bits"], unfollowed := true, recurses := true, apart := false }
def GroupEvenSaid : Prop := groupEvenRow.holds Try.pinned (OpenSpec.ofChange groupEvenSpec)

/-- ITS FALSE NEIGHBOUR: 'it returns false'. Refute it at one input. -/
def groupEvenWrong : ChangeSpec := { name := "groupEven", fn := fun _ => fun
  | [d1, d2, d3] => { results := [.lit (.bool false)], args := [d1, d2, d3] }
  | _ => none }
def GroupEvenWrongFalsely : Prop := groupEvenRow.holds Try.pinned (OpenSpec.ofChange groupEvenWrong)

/-- 'turnoutlaw21.GroupElse': WHATEVER THE INPUT: true; the input reads as it did. -/
def groupElseSpec : ChangeSpec := { name := "groupElse", fn := fun _ => fun
  | [d1, d2] => { results := [.lit (.bool true)], args := [d1, d2] }
  | _ => none }
def groupElseRow : OpenClaim := { program := "ytpmckbpplkkgaaa", sum := "15ac80857ab7ee422343cdf7ffa596bf960941d567e85cc151eaf5fc4f349b6e", func := "turnout/turnoutlaw21.GroupElse", spec := "groupElse", inPlace := ["math.Float64frombits", "math.Float64bits"], unfollowed := true, recurses := true, apart := false }
def GroupElseSaid : Prop := groupElseRow.holds Try.pinned (OpenSpec.ofChange groupElseSpec)

/-- ITS FALSE NEIGHBOUR: 'it returns false'. Refute it at one input. -/
def groupElseWrong : ChangeSpec := { name := "groupElse", fn := fun _ => fun
  | [d1, d2] => { results := [.lit (.bool false)], args := [d1, d2] }
  | _ => none }
def GroupElseWrongFalsely : Prop := groupElseRow.holds Try.pinned (OpenSpec.ofChange groupElseWrong)

/-- 'turnoutlaw21.GroupBlocks': WHATEVER THE INPUT: true; the input reads as it did. -/
def groupBlocksSpec : ChangeSpec := { name := "groupBlocks", fn := fun _ => fun
  | [d1, d2] => { results := [.lit (.bool true)], args := [d1, d2] }
  | _ => none }
def groupBlocksRow : OpenClaim := { program := "ytpmckbpplkkgaaa", sum := "15ac80857ab7ee422343cdf7ffa596bf960941d567e85cc151eaf5fc4f349b6e", func := "turnout/turnoutlaw21.GroupBlocks", spec := "groupBlocks", inPlace := ["math.Float64frombits", "math.Float64bits"], unfollowed := true, recurses := true, apart := false }
def GroupBlocksSaid : Prop := groupBlocksRow.holds Try.pinned (OpenSpec.ofChange groupBlocksSpec)

/-- ITS FALSE NEIGHBOUR: 'it returns false'. Refute it at one input. -/
def groupBlocksWrong : ChangeSpec := { name := "groupBlocks", fn := fun _ => fun
  | [d1, d2] => { results := [.lit (.bool false)], args := [d1, d2] }
  | _ => none }
def GroupBlocksWrongFalsely : Prop := groupBlocksRow.holds Try.pinned (OpenSpec.ofChange groupBlocksWrong)

/- THE SECOND FORM. 'bulk': how many values and letters a reading holds, each counted each time it is reached (what is shared counts as often as it is met; a slice's spare places count too). A statement '..UptoSaid' is the law's where the arguments, and the package variables that the reading takes, are together of bulk at most 1048576: NARROWER than '..Said'. Prove '..Said' where nothing that the law and all that it calls make is longer than what came in: it says more and counts as full. Else prove '..UptoSaid'. A law counts once. -/
mutual
def uptoBulk {H : Type} : DataW H → Nat
  | .lit (.string bytes) => bytes.length + 1
  | .lit _ => 1
  | .nil => 1
  | .ptr d => uptoBulk d + 1
  | .slice elems spare => uptoBulkAll elems + uptoBulkAll spare + 1
  | .agg parts => uptoBulkAll parts + 1
  | .iface _ d => uptoBulk d + 1
  | .map entries => uptoBulkEntries entries + 1
  | .held _ => 1
def uptoBulkAll {H : Type} : List (DataW H) → Nat
  | [] => 0
  | d :: r => uptoBulk d + uptoBulkAll r
def uptoBulkEntries {H : Type} : List (Lit × DataW H) → Nat
  | [] => 0
  | x :: r => uptoBulkEntry x + uptoBulkEntries r
def uptoBulkEntry {H : Type} : Lit × DataW H → Nat
  | (.string bytes, d) => bytes.length + uptoBulk d + 1
  | (_, d) => uptoBulk d + 1
 end
def uptoSmall : (H : Type) → List (DataW H) → Bool := fun _ ds => decide (uptoBulkAll ds ≤ 1048576)
def OpenSpec.upto (s : _root_.Go.ChangeSpec) : _root_.Go.OpenSpec := { _root_.Go.OpenSpec.ofChange s with cond := some uptoSmall }

/-- 'turnoutlaw21.GroupNames', WHERE WHAT IT READS IS OF BULK AT MOST 1048576: true; the input reads as it did. -/
def groupNamesUptoRow : OpenClaim := { program := "ytpmckbpplkkgaaa", sum := "15ac80857ab7ee422343cdf7ffa596bf960941d567e85cc151eaf5fc4f349b6e", func := "turnout/turnoutlaw21.GroupNames", spec := "groupNames", inPlace := ["math.Float64frombits", "math.Float64bits"], unfollowed := true, recurses := true, apart := false, narrowed := true }
def GroupNamesUptoSaid : Prop := groupNamesUptoRow.holds Try.pinned (OpenSpec.upto groupNamesSpec)

/-- 'turnoutlaw21.GroupTells', WHERE WHAT IT READS IS OF BULK AT MOST 1048576: true; the input reads as it did. -/
def groupTellsUptoRow : OpenClaim := { program := "ytpmckbpplkkgaaa", sum := "15ac80857ab7ee422343cdf7ffa596bf960941d567e85cc151eaf5fc4f349b6e", func := "turnout/turnoutlaw21.GroupTells", spec := "groupTells", inPlace := ["math.Float64frombits", "math.Float64bits"], unfollowed := true, recurses := true, apart := false, narrowed := true }
def GroupTellsUptoSaid : Prop := groupTellsUptoRow.holds Try.pinned (OpenSpec.upto groupTellsSpec)

/-- 'turnoutlaw21.GroupGoes', WHERE WHAT IT READS IS OF BULK AT MOST 1048576: true; the input reads as it did. -/
def groupGoesUptoRow : OpenClaim := { program := "ytpmckbpplkkgaaa", sum := "15ac80857ab7ee422343cdf7ffa596bf960941d567e85cc151eaf5fc4f349b6e", func := "turnout/turnoutlaw21.GroupGoes", spec := "groupGoes", inPlace := ["math.Float64frombits", "math.Float64bits"], unfollowed := true, recurses := true, apart := false, narrowed := true }
def GroupGoesUptoSaid : Prop := groupGoesUptoRow.holds Try.pinned (OpenSpec.upto groupGoesSpec)

/-- 'turnoutlaw21.GroupAlone', WHERE WHAT IT READS IS OF BULK AT MOST 1048576: true; the input reads as it did. -/
def groupAloneUptoRow : OpenClaim := { program := "ytpmckbpplkkgaaa", sum := "15ac80857ab7ee422343cdf7ffa596bf960941d567e85cc151eaf5fc4f349b6e", func := "turnout/turnoutlaw21.GroupAlone", spec := "groupAlone", inPlace := ["math.Float64frombits", "math.Float64bits"], unfollowed := true, recurses := true, apart := false, narrowed := true }
def GroupAloneUptoSaid : Prop := groupAloneUptoRow.holds Try.pinned (OpenSpec.upto groupAloneSpec)

/-- 'turnoutlaw21.GroupEven', WHERE WHAT IT READS IS OF BULK AT MOST 1048576: true; the input reads as it did. -/
def groupEvenUptoRow : OpenClaim := { program := "ytpmckbpplkkgaaa", sum := "15ac80857ab7ee422343cdf7ffa596bf960941d567e85cc151eaf5fc4f349b6e", func := "turnout/turnoutlaw21.GroupEven", spec := "groupEven", inPlace := ["math.Float64frombits", "math.Float64bits"], unfollowed := true, recurses := true, apart := false, narrowed := true }
def GroupEvenUptoSaid : Prop := groupEvenUptoRow.holds Try.pinned (OpenSpec.upto groupEvenSpec)

/-- 'turnoutlaw21.GroupElse', WHERE WHAT IT READS IS OF BULK AT MOST 1048576: true; the input reads as it did. -/
def groupElseUptoRow : OpenClaim := { program := "ytpmckbpplkkgaaa", sum := "15ac80857ab7ee422343cdf7ffa596bf960941d567e85cc151eaf5fc4f349b6e", func := "turnout/turnoutlaw21.GroupElse", spec := "groupElse", inPlace := ["math.Float64frombits", "math.Float64bits"], unfollowed := true, recurses := true, apart := false, narrowed := true }
def GroupElseUptoSaid : Prop := groupElseUptoRow.holds Try.pinned (OpenSpec.upto groupElseSpec)

/-- 'turnoutlaw21.GroupBlocks', WHERE WHAT IT READS IS OF BULK AT MOST 1048576: true; the input reads as it did. -/
def groupBlocksUptoRow : OpenClaim := { program := "ytpmckbpplkkgaaa", sum := "15ac80857ab7ee422343cdf7ffa596bf960941d567e85cc151eaf5fc4f349b6e", func := "turnout/turnoutlaw21.GroupBlocks", spec := "groupBlocks", inPlace := ["math.Float64frombits", "math.Float64bits"], unfollowed := true, recurses := true, apart := false, narrowed := true }
def GroupBlocksUptoSaid : Prop := groupBlocksUptoRow.holds Try.pinned (OpenSpec.upto groupBlocksSpec)

end Rows
end Go.Proofs.Ytpmckbpplkkgaaa
