/-
  No cell of these rows narrows 'for every input' (looked for: loops, veiled, ifaces, maps, wideKeys, modest, calm, conditions, laid).
  DERIVED. THE GIVEN ROWS OF THIS SEAT. 9 by the template 'for every input the law returns true; each argument reads behind the call as it read before'; 0 by the template 'total and deterministic' (their statements: YtndbchigekbjaaaTotals.lean).
  GIVEN WITH THE SEED: the statements are not yours to turn. If you find one false, say at which input.
  Laid BY PROGRAM, IN A SANDBOX (cutbox-rows.mjs): the forced cells as the released guide's own fill.sh prints them over the translation ee5c043081767804… (all of the seat's roots in one cut). By AI agents, Wed Nov 11 2026. No macro, syntax, notation, axiom, sorry.
-/
import Derived.Test.YtndbchigekbjaaaChecked
import GoSem.Claim
import GoSem.ClaimJoined
import GoSem.ClaimMapViews
import Derived.JoinedTies
import Derived.KernelRfl
namespace Go.Proofs.Ytndbchigekbjaaa
/- THE CELL 'sum', in the pinned program and in every row, IS THE sha256 OF THE DUMP (.gsa) THAT YtndbchigekbjaaaProg.lean LOADS. Nothing in Lean hashes anything: it is a label: what it is worth is what the hold of that sum in a sandbox is worth. -/
noncomputable def Try.pinned : Pinned := { name := "ytndbchigekbjaaa", sum := "ee5c043081767804a4c15059248c62e11c560aaf837e77f228b83dd0489ed611", checked := Try.checked }
namespace Rows
def none {H : Type} : Left H := { results := [], args := [] }

/-- 'turnoutlaw06.TlvCodes': WHATEVER THE INPUT: true; the input reads as it did. -/
def tlvCodesSpec : ChangeSpec := { name := "tlvCodes", fn := fun _ => fun
  | [d1, d2] => { results := [.lit (.bool true)], args := [d1, d2] }
  | _ => none }
def tlvCodesRow : OpenClaim := { program := "ytndbchigekbjaaa", sum := "ee5c043081767804a4c15059248c62e11c560aaf837e77f228b83dd0489ed611", func := "turnout/turnoutlaw06.TlvCodes", spec := "tlvCodes", apart := false }
def TlvCodesSaid : Prop := tlvCodesRow.holds Try.pinned (OpenSpec.ofChange tlvCodesSpec)

/-- ITS FALSE NEIGHBOUR: 'it returns false'. Refute it at one input. -/
def tlvCodesWrong : ChangeSpec := { name := "tlvCodes", fn := fun _ => fun
  | [d1, d2] => { results := [.lit (.bool false)], args := [d1, d2] }
  | _ => none }
def TlvCodesWrongFalsely : Prop := tlvCodesRow.holds Try.pinned (OpenSpec.ofChange tlvCodesWrong)

/-- 'turnoutlaw06.TlvNumbers': WHATEVER THE INPUT: true; the input reads as it did. -/
def tlvNumbersSpec : ChangeSpec := { name := "tlvNumbers", fn := fun _ => fun
  | [d1, d2, d3] => { results := [.lit (.bool true)], args := [d1, d2, d3] }
  | _ => none }
def tlvNumbersRow : OpenClaim := { program := "ytndbchigekbjaaa", sum := "ee5c043081767804a4c15059248c62e11c560aaf837e77f228b83dd0489ed611", func := "turnout/turnoutlaw06.TlvNumbers", spec := "tlvNumbers", recurses := true, apart := false }
def TlvNumbersSaid : Prop := tlvNumbersRow.holds Try.pinned (OpenSpec.ofChange tlvNumbersSpec)

/-- ITS FALSE NEIGHBOUR: 'it returns false'. Refute it at one input. -/
def tlvNumbersWrong : ChangeSpec := { name := "tlvNumbers", fn := fun _ => fun
  | [d1, d2, d3] => { results := [.lit (.bool false)], args := [d1, d2, d3] }
  | _ => none }
def TlvNumbersWrongFalsely : Prop := tlvNumbersRow.holds Try.pinned (OpenSpec.ofChange tlvNumbersWrong)

/-- 'turnoutlaw06.TlvOne': WHATEVER THE INPUT: true; the input reads as it did. -/
def tlvOneSpec : ChangeSpec := { name := "tlvOne", fn := fun _ => fun
  | [d1, d2] => { results := [.lit (.bool true)], args := [d1, d2] }
  | _ => none }
def tlvOneRow : OpenClaim := { program := "ytndbchigekbjaaa", sum := "ee5c043081767804a4c15059248c62e11c560aaf837e77f228b83dd0489ed611", func := "turnout/turnoutlaw06.TlvOne", spec := "tlvOne", apart := false }
def TlvOneSaid : Prop := tlvOneRow.holds Try.pinned (OpenSpec.ofChange tlvOneSpec)

/-- ITS FALSE NEIGHBOUR: 'it returns false'. Refute it at one input. -/
def tlvOneWrong : ChangeSpec := { name := "tlvOne", fn := fun _ => fun
  | [d1, d2] => { results := [.lit (.bool false)], args := [d1, d2] }
  | _ => none }
def TlvOneWrongFalsely : Prop := tlvOneRow.holds Try.pinned (OpenSpec.ofChange tlvOneWrong)

/-- 'turnoutlaw06.TlvOrder': WHATEVER THE INPUT: true; the input reads as it did. -/
def tlvOrderSpec : ChangeSpec := { name := "tlvOrder", fn := fun _ => fun
  | [d1, d2] => { results := [.lit (.bool true)], args := [d1, d2] }
  | _ => none }
def tlvOrderRow : OpenClaim := { program := "ytndbchigekbjaaa", sum := "ee5c043081767804a4c15059248c62e11c560aaf837e77f228b83dd0489ed611", func := "turnout/turnoutlaw06.TlvOrder", spec := "tlvOrder", apart := false }
def TlvOrderSaid : Prop := tlvOrderRow.holds Try.pinned (OpenSpec.ofChange tlvOrderSpec)

/-- ITS FALSE NEIGHBOUR: 'it returns false'. Refute it at one input. -/
def tlvOrderWrong : ChangeSpec := { name := "tlvOrder", fn := fun _ => fun
  | [d1, d2] => { results := [.lit (.bool false)], args := [d1, d2] }
  | _ => none }
def TlvOrderWrongFalsely : Prop := tlvOrderRow.holds Try.pinned (OpenSpec.ofChange tlvOrderWrong)

/-- 'turnoutlaw06.TlvBehind': WHATEVER THE INPUT: true; the input reads as it did. -/
def tlvBehindSpec : ChangeSpec := { name := "tlvBehind", fn := fun _ => fun
  | [d1, d2, d3, d4] => { results := [.lit (.bool true)], args := [d1, d2, d3, d4] }
  | _ => none }
def tlvBehindRow : OpenClaim := { program := "ytndbchigekbjaaa", sum := "ee5c043081767804a4c15059248c62e11c560aaf837e77f228b83dd0489ed611", func := "turnout/turnoutlaw06.TlvBehind", spec := "tlvBehind", apart := false }
def TlvBehindSaid : Prop := tlvBehindRow.holds Try.pinned (OpenSpec.ofChange tlvBehindSpec)

/-- ITS FALSE NEIGHBOUR: 'it returns false'. Refute it at one input. -/
def tlvBehindWrong : ChangeSpec := { name := "tlvBehind", fn := fun _ => fun
  | [d1, d2, d3, d4] => { results := [.lit (.bool false)], args := [d1, d2, d3, d4] }
  | _ => none }
def TlvBehindWrongFalsely : Prop := tlvBehindRow.holds Try.pinned (OpenSpec.ofChange tlvBehindWrong)

/-- 'turnoutlaw06.TlvCut': WHATEVER THE INPUT: true; the input reads as it did. -/
def tlvCutSpec : ChangeSpec := { name := "tlvCut", fn := fun _ => fun
  | [d1, d2] => { results := [.lit (.bool true)], args := [d1, d2] }
  | _ => none }
def tlvCutRow : OpenClaim := { program := "ytndbchigekbjaaa", sum := "ee5c043081767804a4c15059248c62e11c560aaf837e77f228b83dd0489ed611", func := "turnout/turnoutlaw06.TlvCut", spec := "tlvCut", apart := false }
def TlvCutSaid : Prop := tlvCutRow.holds Try.pinned (OpenSpec.ofChange tlvCutSpec)

/-- ITS FALSE NEIGHBOUR: 'it returns false'. Refute it at one input. -/
def tlvCutWrong : ChangeSpec := { name := "tlvCut", fn := fun _ => fun
  | [d1, d2] => { results := [.lit (.bool false)], args := [d1, d2] }
  | _ => none }
def TlvCutWrongFalsely : Prop := tlvCutRow.holds Try.pinned (OpenSpec.ofChange tlvCutWrong)

/-- 'turnoutlaw06.TlvLists': WHATEVER THE INPUT: true; the input reads as it did. -/
def tlvListsSpec : ChangeSpec := { name := "tlvLists", fn := fun _ => fun
  | [d1, d2, d3] => { results := [.lit (.bool true)], args := [d1, d2, d3] }
  | _ => none }
def tlvListsRow : OpenClaim := { program := "ytndbchigekbjaaa", sum := "ee5c043081767804a4c15059248c62e11c560aaf837e77f228b83dd0489ed611", func := "turnout/turnoutlaw06.TlvLists", spec := "tlvLists", apart := false }
def TlvListsSaid : Prop := tlvListsRow.holds Try.pinned (OpenSpec.ofChange tlvListsSpec)

/-- ITS FALSE NEIGHBOUR: 'it returns false'. Refute it at one input. -/
def tlvListsWrong : ChangeSpec := { name := "tlvLists", fn := fun _ => fun
  | [d1, d2, d3] => { results := [.lit (.bool false)], args := [d1, d2, d3] }
  | _ => none }
def TlvListsWrongFalsely : Prop := tlvListsRow.holds Try.pinned (OpenSpec.ofChange tlvListsWrong)

/-- 'turnoutlaw06.TlvNames': WHATEVER THE INPUT: true; the input reads as it did. -/
def tlvNamesSpec : ChangeSpec := { name := "tlvNames", fn := fun _ => fun
  | [] => { results := [.lit (.bool true)], args := [] }
  | _ => none }
def tlvNamesRow : OpenClaim := { program := "ytndbchigekbjaaa", sum := "ee5c043081767804a4c15059248c62e11c560aaf837e77f228b83dd0489ed611", func := "turnout/turnoutlaw06.TlvNames", spec := "tlvNames", apart := false }
def TlvNamesSaid : Prop := tlvNamesRow.holds Try.pinned (OpenSpec.ofChange tlvNamesSpec)

/-- ITS FALSE NEIGHBOUR: 'it returns false'. Refute it at one input. -/
def tlvNamesWrong : ChangeSpec := { name := "tlvNames", fn := fun _ => fun
  | [] => { results := [.lit (.bool false)], args := [] }
  | _ => none }
def TlvNamesWrongFalsely : Prop := tlvNamesRow.holds Try.pinned (OpenSpec.ofChange tlvNamesWrong)

/-- 'turnoutlaw06.TlvSole': WHATEVER THE INPUT: true; the input reads as it did. -/
def tlvSoleSpec : ChangeSpec := { name := "tlvSole", fn := fun _ => fun
  | [d1, d2, d3] => { results := [.lit (.bool true)], args := [d1, d2, d3] }
  | _ => none }
def tlvSoleRow : OpenClaim := { program := "ytndbchigekbjaaa", sum := "ee5c043081767804a4c15059248c62e11c560aaf837e77f228b83dd0489ed611", func := "turnout/turnoutlaw06.TlvSole", spec := "tlvSole", apart := false }
def TlvSoleSaid : Prop := tlvSoleRow.holds Try.pinned (OpenSpec.ofChange tlvSoleSpec)

/-- ITS FALSE NEIGHBOUR: 'it returns false'. Refute it at one input. -/
def tlvSoleWrong : ChangeSpec := { name := "tlvSole", fn := fun _ => fun
  | [d1, d2, d3] => { results := [.lit (.bool false)], args := [d1, d2, d3] }
  | _ => none }
def TlvSoleWrongFalsely : Prop := tlvSoleRow.holds Try.pinned (OpenSpec.ofChange tlvSoleWrong)

/- THE SECOND FORM. 'bulk': how many values and letters a reading holds, each counted each time it is reached (what is shared counts as often as it is met; a slice's spare places count too). A statement '..UptoSaid' is the law's where the arguments, and the package variables that the reading takes, are together of bulk at most 1048576: NARROWER than '..Said'. Prove '..Said' where nothing that the law and all that it calls make is longer than what came in: it says more and counts as full. Else prove '..UptoSaid'. A law counts once. -/
mutual
def uptoBulk {H : Type} : DataW H → Nat
  | .lit (.string bytes) => bytes.length + 1
  | .lit _ => 1
  | .nil => 1
  | .ptr d => uptoBulk d + 1
  | .slice elems spare => uptoBulkAll elems + uptoBulkAll spare + 1
  | .agg parts => uptoBulkAll parts + 1
  | .iface _ d => uptoBulk d + 1
  | .map entries => uptoBulkEntries entries + 1
  | .held _ => 1
def uptoBulkAll {H : Type} : List (DataW H) → Nat
  | [] => 0
  | d :: r => uptoBulk d + uptoBulkAll r
def uptoBulkEntries {H : Type} : List (Lit × DataW H) → Nat
  | [] => 0
  | x :: r => uptoBulkEntry x + uptoBulkEntries r
def uptoBulkEntry {H : Type} : Lit × DataW H → Nat
  | (.string bytes, d) => bytes.length + uptoBulk d + 1
  | (_, d) => uptoBulk d + 1
 end
def uptoSmall : (H : Type) → List (DataW H) → Bool := fun _ ds => decide (uptoBulkAll ds ≤ 1048576)
def OpenSpec.upto (s : _root_.Go.ChangeSpec) : _root_.Go.OpenSpec := { _root_.Go.OpenSpec.ofChange s with cond := some uptoSmall }

/-- 'turnoutlaw06.TlvCodes', WHERE WHAT IT READS IS OF BULK AT MOST 1048576: true; the input reads as it did. -/
def tlvCodesUptoRow : OpenClaim := { program := "ytndbchigekbjaaa", sum := "ee5c043081767804a4c15059248c62e11c560aaf837e77f228b83dd0489ed611", func := "turnout/turnoutlaw06.TlvCodes", spec := "tlvCodes", apart := false, narrowed := true }
def TlvCodesUptoSaid : Prop := tlvCodesUptoRow.holds Try.pinned (OpenSpec.upto tlvCodesSpec)

/-- 'turnoutlaw06.TlvNumbers', WHERE WHAT IT READS IS OF BULK AT MOST 1048576: true; the input reads as it did. -/
def tlvNumbersUptoRow : OpenClaim := { program := "ytndbchigekbjaaa", sum := "ee5c043081767804a4c15059248c62e11c560aaf837e77f228b83dd0489ed611", func := "turnout/turnoutlaw06.TlvNumbers", spec := "tlvNumbers", recurses := true, apart := false, narrowed := true }
def TlvNumbersUptoSaid : Prop := tlvNumbersUptoRow.holds Try.pinned (OpenSpec.upto tlvNumbersSpec)

/-- 'turnoutlaw06.TlvOne', WHERE WHAT IT READS IS OF BULK AT MOST 1048576: true; the input reads as it did. -/
def tlvOneUptoRow : OpenClaim := { program := "ytndbchigekbjaaa", sum := "ee5c043081767804a4c15059248c62e11c560aaf837e77f228b83dd0489ed611", func := "turnout/turnoutlaw06.TlvOne", spec := "tlvOne", apart := false, narrowed := true }
def TlvOneUptoSaid : Prop := tlvOneUptoRow.holds Try.pinned (OpenSpec.upto tlvOneSpec)

/-- 'turnoutlaw06.TlvOrder', WHERE WHAT IT READS IS OF BULK AT MOST 1048576: true; the input reads as it did. -/
def tlvOrderUptoRow : OpenClaim := { program := "ytndbchigekbjaaa", sum := "ee5c043081767804a4c15059248c62e11c560aaf837e77f228b83dd0489ed611", func := "turnout/turnoutlaw06.TlvOrder", spec := "tlvOrder", apart := false, narrowed := true }
def TlvOrderUptoSaid : Prop := tlvOrderUptoRow.holds Try.pinned (OpenSpec.upto tlvOrderSpec)

/-- 'turnoutlaw06.TlvBehind', WHERE WHAT IT READS IS OF BULK AT MOST 1048576: true; the input reads as it did. -/
def tlvBehindUptoRow : OpenClaim := { program := "ytndbchigekbjaaa", sum := "ee5c043081767804a4c15059248c62e11c560aaf837e77f228b83dd0489ed611", func := "turnout/turnoutlaw06.TlvBehind", spec := "tlvBehind", apart := false, narrowed := true }
def TlvBehindUptoSaid : Prop := tlvBehindUptoRow.holds Try.pinned (OpenSpec.upto tlvBehindSpec)

/-- 'turnoutlaw06.TlvCut', WHERE WHAT IT READS IS OF BULK AT MOST 1048576: true; the input reads as it did. -/
def tlvCutUptoRow : OpenClaim := { program := "ytndbchigekbjaaa", sum := "ee5c043081767804a4c15059248c62e11c560aaf837e77f228b83dd0489ed611", func := "turnout/turnoutlaw06.TlvCut", spec := "tlvCut", apart := false, narrowed := true }
def TlvCutUptoSaid : Prop := tlvCutUptoRow.holds Try.pinned (OpenSpec.upto tlvCutSpec)

/-- 'turnoutlaw06.TlvLists', WHERE WHAT IT READS IS OF BULK AT MOST 1048576: true; the input reads as it did. -/
def tlvListsUptoRow : OpenClaim := { program := "ytndbchigekbjaaa", sum := "ee5c043081767804a4c15059248c62e11c560aaf837e77f228b83dd0489ed611", func := "turnout/turnoutlaw06.TlvLists", spec := "tlvLists", apart := false, narrowed := true }
def TlvListsUptoSaid : Prop := tlvListsUptoRow.holds Try.pinned (OpenSpec.upto tlvListsSpec)

/-- 'turnoutlaw06.TlvNames', WHERE WHAT IT READS IS OF BULK AT MOST 1048576: true; the input reads as it did. -/
def tlvNamesUptoRow : OpenClaim := { program := "ytndbchigekbjaaa", sum := "ee5c043081767804a4c15059248c62e11c560aaf837e77f228b83dd0489ed611", func := "turnout/turnoutlaw06.TlvNames", spec := "tlvNames", apart := false, narrowed := true }
def TlvNamesUptoSaid : Prop := tlvNamesUptoRow.holds Try.pinned (OpenSpec.upto tlvNamesSpec)

/-- 'turnoutlaw06.TlvSole', WHERE WHAT IT READS IS OF BULK AT MOST 1048576: true; the input reads as it did. -/
def tlvSoleUptoRow : OpenClaim := { program := "ytndbchigekbjaaa", sum := "ee5c043081767804a4c15059248c62e11c560aaf837e77f228b83dd0489ed611", func := "turnout/turnoutlaw06.TlvSole", spec := "tlvSole", apart := false, narrowed := true }
def TlvSoleUptoSaid : Prop := tlvSoleUptoRow.holds Try.pinned (OpenSpec.upto tlvSoleSpec)

end Rows
end Go.Proofs.Ytndbchigekbjaaa
