/-
  No cell of these rows narrows 'for every input' (looked for: loops, veiled, ifaces, maps, wideKeys, modest, calm, conditions, laid).
  DERIVED. THE GIVEN ROWS OF THIS SEAT. 5 by the template 'for every input the law returns true; each argument reads behind the call as it read before'; 0 by the template 'total and deterministic' (their statements: YtedbnppdfcljlaaTotals.lean).
  GIVEN WITH THE SEED: the statements are not yours to turn. If you find one false, say at which input.
  Laid BY PROGRAM, IN A SANDBOX (cutbox-rows.mjs): the forced cells as the released guide's own fill.sh prints them over the translation dfd51a98945e382a… (all of the seat's roots in one cut). By AI agents, Wed Nov 11 2026. No macro, syntax, notation, axiom, sorry.
-/
import Derived.Test.YtedbnppdfcljlaaChecked
import GoSem.Claim
import GoSem.ClaimJoined
import GoSem.ClaimMapViews
import Derived.JoinedTies
import Derived.KernelRfl
namespace Go.Proofs.Ytedbnppdfcljlaa
/- THE CELL 'sum', in the pinned program and in every row, IS THE sha256 OF THE DUMP (.gsa) THAT YtedbnppdfcljlaaProg.lean LOADS. Nothing in Lean hashes anything: it is a label: what it is worth is what the hold of that sum in a sandbox is worth. -/
noncomputable def Try.pinned : Pinned := { name := "ytedbnppdfcljlaa", sum := "dfd51a98945e382ac864954e3a38cdc95703dc5a5e4c89fa551a1edfe056b662", checked := Try.checked }
namespace Rows
def none {H : Type} : Left H := { results := [], args := [] }

/-- 'turnoutlaw13.RangParts': WHATEVER THE INPUT: true; the input reads as it did. -/
def rangPartsSpec : ChangeSpec := { name := "rangParts", fn := fun _ => fun
  | [d1, d2, d3] => { results := [.lit (.bool true)], args := [d1, d2, d3] }
  | _ => none }
def rangPartsRow : OpenClaim := { program := "ytedbnppdfcljlaa", sum := "dfd51a98945e382ac864954e3a38cdc95703dc5a5e4c89fa551a1edfe056b662", func := "turnout/turnoutlaw13.RangParts", spec := "rangParts", unfollowed := true, recurses := true, apart := false }
def RangPartsSaid : Prop := rangPartsRow.holds Try.pinned (OpenSpec.ofChange rangPartsSpec)

/-- ITS FALSE NEIGHBOUR: 'it returns false'. Refute it at one input. -/
def rangPartsWrong : ChangeSpec := { name := "rangParts", fn := fun _ => fun
  | [d1, d2, d3] => { results := [.lit (.bool false)], args := [d1, d2, d3] }
  | _ => none }
def RangPartsWrongFalsely : Prop := rangPartsRow.holds Try.pinned (OpenSpec.ofChange rangPartsWrong)

/-- 'turnoutlaw13.RangMore': WHATEVER THE INPUT: true; the input reads as it did. -/
def rangMoreSpec : ChangeSpec := { name := "rangMore", fn := fun _ => fun
  | [d1, d2, d3, d4, d5] => { results := [.lit (.bool true)], args := [d1, d2, d3, d4, d5] }
  | _ => none }
def rangMoreRow : OpenClaim := { program := "ytedbnppdfcljlaa", sum := "dfd51a98945e382ac864954e3a38cdc95703dc5a5e4c89fa551a1edfe056b662", func := "turnout/turnoutlaw13.RangMore", spec := "rangMore", unfollowed := true, recurses := true, apart := false }
def RangMoreSaid : Prop := rangMoreRow.holds Try.pinned (OpenSpec.ofChange rangMoreSpec)

/-- ITS FALSE NEIGHBOUR: 'it returns false'. Refute it at one input. -/
def rangMoreWrong : ChangeSpec := { name := "rangMore", fn := fun _ => fun
  | [d1, d2, d3, d4, d5] => { results := [.lit (.bool false)], args := [d1, d2, d3, d4, d5] }
  | _ => none }
def RangMoreWrongFalsely : Prop := rangMoreRow.holds Try.pinned (OpenSpec.ofChange rangMoreWrong)

/-- 'turnoutlaw13.RangLess': WHATEVER THE INPUT: true; the input reads as it did. -/
def rangLessSpec : ChangeSpec := { name := "rangLess", fn := fun _ => fun
  | [d1, d2, d3, d4, d5, d6] => { results := [.lit (.bool true)], args := [d1, d2, d3, d4, d5, d6] }
  | _ => none }
def rangLessRow : OpenClaim := { program := "ytedbnppdfcljlaa", sum := "dfd51a98945e382ac864954e3a38cdc95703dc5a5e4c89fa551a1edfe056b662", func := "turnout/turnoutlaw13.RangLess", spec := "rangLess", unfollowed := true, recurses := true, apart := false }
def RangLessSaid : Prop := rangLessRow.holds Try.pinned (OpenSpec.ofChange rangLessSpec)

/-- ITS FALSE NEIGHBOUR: 'it returns false'. Refute it at one input. -/
def rangLessWrong : ChangeSpec := { name := "rangLess", fn := fun _ => fun
  | [d1, d2, d3, d4, d5, d6] => { results := [.lit (.bool false)], args := [d1, d2, d3, d4, d5, d6] }
  | _ => none }
def RangLessWrongFalsely : Prop := rangLessRow.holds Try.pinned (OpenSpec.ofChange rangLessWrong)

/-- 'turnoutlaw13.RangNames': WHATEVER THE INPUT: true; the input reads as it did. -/
def rangNamesSpec : ChangeSpec := { name := "rangNames", fn := fun _ => fun
  | [] => { results := [.lit (.bool true)], args := [] }
  | _ => none }
def rangNamesRow : OpenClaim := { program := "ytedbnppdfcljlaa", sum := "dfd51a98945e382ac864954e3a38cdc95703dc5a5e4c89fa551a1edfe056b662", func := "turnout/turnoutlaw13.RangNames", spec := "rangNames", unfollowed := true, recurses := true, apart := false }
def RangNamesSaid : Prop := rangNamesRow.holds Try.pinned (OpenSpec.ofChange rangNamesSpec)

/-- ITS FALSE NEIGHBOUR: 'it returns false'. Refute it at one input. -/
def rangNamesWrong : ChangeSpec := { name := "rangNames", fn := fun _ => fun
  | [] => { results := [.lit (.bool false)], args := [] }
  | _ => none }
def RangNamesWrongFalsely : Prop := rangNamesRow.holds Try.pinned (OpenSpec.ofChange rangNamesWrong)

/-- 'turnoutlaw13.RangApart': WHATEVER THE INPUT: true; the input reads as it did. -/
def rangApartSpec : ChangeSpec := { name := "rangApart", fn := fun _ => fun
  | [d1, d2] => { results := [.lit (.bool true)], args := [d1, d2] }
  | _ => none }
def rangApartRow : OpenClaim := { program := "ytedbnppdfcljlaa", sum := "dfd51a98945e382ac864954e3a38cdc95703dc5a5e4c89fa551a1edfe056b662", func := "turnout/turnoutlaw13.RangApart", spec := "rangApart", unfollowed := true, recurses := true, apart := false }
def RangApartSaid : Prop := rangApartRow.holds Try.pinned (OpenSpec.ofChange rangApartSpec)

/-- ITS FALSE NEIGHBOUR: 'it returns false'. Refute it at one input. -/
def rangApartWrong : ChangeSpec := { name := "rangApart", fn := fun _ => fun
  | [d1, d2] => { results := [.lit (.bool false)], args := [d1, d2] }
  | _ => none }
def RangApartWrongFalsely : Prop := rangApartRow.holds Try.pinned (OpenSpec.ofChange rangApartWrong)

/- THE SECOND FORM. 'bulk': how many values and letters a reading holds, each counted each time it is reached (what is shared counts as often as it is met; a slice's spare places count too). A statement '..UptoSaid' is the law's where the arguments, and the package variables that the reading takes, are together of bulk at most 1048576: NARROWER than '..Said'. Prove '..Said' where nothing that the law and all that it calls make is longer than what came in: it says more and counts as full. Else prove '..UptoSaid'. A law counts once. -/
mutual
def uptoBulk {H : Type} : DataW H → Nat
  | .lit (.string bytes) => bytes.length + 1
  | .lit _ => 1
  | .nil => 1
  | .ptr d => uptoBulk d + 1
  | .slice elems spare => uptoBulkAll elems + uptoBulkAll spare + 1
  | .agg parts => uptoBulkAll parts + 1
  | .iface _ d => uptoBulk d + 1
  | .map entries => uptoBulkEntries entries + 1
  | .held _ => 1
def uptoBulkAll {H : Type} : List (DataW H) → Nat
  | [] => 0
  | d :: r => uptoBulk d + uptoBulkAll r
def uptoBulkEntries {H : Type} : List (Lit × DataW H) → Nat
  | [] => 0
  | x :: r => uptoBulkEntry x + uptoBulkEntries r
def uptoBulkEntry {H : Type} : Lit × DataW H → Nat
  | (.string bytes, d) => bytes.length + uptoBulk d + 1
  | (_, d) => uptoBulk d + 1
 end
def uptoSmall : (H : Type) → List (DataW H) → Bool := fun _ ds => decide (uptoBulkAll ds ≤ 1048576)
def OpenSpec.upto (s : _root_.Go.ChangeSpec) : _root_.Go.OpenSpec := { _root_.Go.OpenSpec.ofChange s with cond := some uptoSmall }

/-- 'turnoutlaw13.RangParts', WHERE WHAT IT READS IS OF BULK AT MOST 1048576: true; the input reads as it did. -/
def rangPartsUptoRow : OpenClaim := { program := "ytedbnppdfcljlaa", sum := "dfd51a98945e382ac864954e3a38cdc95703dc5a5e4c89fa551a1edfe056b662", func := "turnout/turnoutlaw13.RangParts", spec := "rangParts", unfollowed := true, recurses := true, apart := false, narrowed := true }
def RangPartsUptoSaid : Prop := rangPartsUptoRow.holds Try.pinned (OpenSpec.upto rangPartsSpec)

/-- 'turnoutlaw13.RangMore', WHERE WHAT IT READS IS OF BULK AT MOST 1048576: true; the input reads as it did. -/
def rangMoreUptoRow : OpenClaim := { program := "ytedbnppdfcljlaa", sum := "dfd51a98945e382ac864954e3a38cdc95703dc5a5e4c89fa551a1edfe056b662", func := "turnout/turnoutlaw13.RangMore", spec := "rangMore", unfollowed := true, recurses := true, apart := false, narrowed := true }
def RangMoreUptoSaid : Prop := rangMoreUptoRow.holds Try.pinned (OpenSpec.upto rangMoreSpec)

/-- 'turnoutlaw13.RangLess', WHERE WHAT IT READS IS OF BULK AT MOST 1048576: true; the input reads as it did. -/
def rangLessUptoRow : OpenClaim := { program := "ytedbnppdfcljlaa", sum := "dfd51a98945e382ac864954e3a38cdc95703dc5a5e4c89fa551a1edfe056b662", func := "turnout/turnoutlaw13.RangLess", spec := "rangLess", unfollowed := true, recurses := true, apart := false, narrowed := true }
def RangLessUptoSaid : Prop := rangLessUptoRow.holds Try.pinned (OpenSpec.upto rangLessSpec)

/-- 'turnoutlaw13.RangNames', WHERE WHAT IT READS IS OF BULK AT MOST 1048576: true; the input reads as it did. -/
def rangNamesUptoRow : OpenClaim := { program := "ytedbnppdfcljlaa", sum := "dfd51a98945e382ac864954e3a38cdc95703dc5a5e4c89fa551a1edfe056b662", func := "turnout/turnoutlaw13.RangNames", spec := "rangNames", unfollowed := true, recurses := true, apart := false, narrowed := true }
def RangNamesUptoSaid : Prop := rangNamesUptoRow.holds Try.pinned (OpenSpec.upto rangNamesSpec)

/-- 'turnoutlaw13.RangApart', WHERE WHAT IT READS IS OF BULK AT MOST 1048576: true; the input reads as it did. -/
def rangApartUptoRow : OpenClaim := { program := "ytedbnppdfcljlaa", sum := "dfd51a98945e382ac864954e3a38cdc95703dc5a5e4c89fa551a1edfe056b662", func := "turnout/turnoutlaw13.RangApart", spec := "rangApart", unfollowed := true, recurses := true, apart := false, narrowed := true }
def RangApartUptoSaid : Prop := rangApartUptoRow.holds Try.pinned (OpenSpec.upto rangApartSpec)

end Rows
end Go.Proofs.Ytedbnppdfcljlaa
