/-
  No cell of these rows narrows 'for every input' (looked for: loops, veiled, ifaces, maps, wideKeys, modest, calm, conditions, laid).
  DERIVED. THE GIVEN ROWS OF THIS SEAT. 6 by the template 'for every input the law returns true; each argument reads behind the call as it read before'; 0 by the template 'total and deterministic' (their statements: YtohinfbahjepoaaTotals.lean).
  GIVEN WITH THE SEED: the statements are not yours to turn. If you find one false, say at which input.
  Laid BY PROGRAM, IN A SANDBOX (cutbox-rows.mjs): the forced cells as the released guide's own fill.sh prints them over the translation 7d482c3ca4052b1d… (all of the seat's roots in one cut). By AI agents, Wed Nov 11 2026. No macro, syntax, notation, axiom, sorry.
-/
import Derived.Test.YtohinfbahjepoaaChecked
import GoSem.Claim
import GoSem.ClaimJoined
import GoSem.ClaimMapViews
import Derived.JoinedTies
import Derived.KernelRfl
namespace Go.Proofs.Ytohinfbahjepoaa
/- THE CELL 'sum', in the pinned program and in every row, IS THE sha256 OF THE DUMP (.gsa) THAT YtohinfbahjepoaaProg.lean LOADS. Nothing in Lean hashes anything: it is a label: what it is worth is what the hold of that sum in a sandbox is worth. -/
noncomputable def Try.pinned : Pinned := { name := "ytohinfbahjepoaa", sum := "7d482c3ca4052b1d0d158926d1eee2d29ba3339bfe375e70e83bc17052f2ed15", checked := Try.checked }
namespace Rows
def none {H : Type} : Left H := { results := [], args := [] }

/-- 'turnoutlaw22.MeterMuch': WHATEVER THE INPUT: true; the input reads as it did. -/
def meterMuchSpec : ChangeSpec := { name := "meterMuch", fn := fun _ => fun
  | [d1, d2] => { results := [.lit (.bool true)], args := [d1, d2] }
  | _ => none }
def meterMuchRow : OpenClaim := { program := "ytohinfbahjepoaa", sum := "7d482c3ca4052b1d0d158926d1eee2d29ba3339bfe375e70e83bc17052f2ed15", func := "turnout/turnoutlaw22.MeterMuch", spec := "meterMuch", apart := false }
def MeterMuchSaid : Prop := meterMuchRow.holds Try.pinned (OpenSpec.ofChange meterMuchSpec)

/-- ITS FALSE NEIGHBOUR: 'it returns false'. Refute it at one input. -/
def meterMuchWrong : ChangeSpec := { name := "meterMuch", fn := fun _ => fun
  | [d1, d2] => { results := [.lit (.bool false)], args := [d1, d2] }
  | _ => none }
def MeterMuchWrongFalsely : Prop := meterMuchRow.holds Try.pinned (OpenSpec.ofChange meterMuchWrong)

/-- 'turnoutlaw22.MeterFuller': WHATEVER THE INPUT: true; the input reads as it did. -/
def meterFullerSpec : ChangeSpec := { name := "meterFuller", fn := fun _ => fun
  | [d1, d2, d3, d4] => { results := [.lit (.bool true)], args := [d1, d2, d3, d4] }
  | _ => none }
def meterFullerRow : OpenClaim := { program := "ytohinfbahjepoaa", sum := "7d482c3ca4052b1d0d158926d1eee2d29ba3339bfe375e70e83bc17052f2ed15", func := "turnout/turnoutlaw22.MeterFuller", spec := "meterFuller", apart := false }
def MeterFullerSaid : Prop := meterFullerRow.holds Try.pinned (OpenSpec.ofChange meterFullerSpec)

/-- ITS FALSE NEIGHBOUR: 'it returns false'. Refute it at one input. -/
def meterFullerWrong : ChangeSpec := { name := "meterFuller", fn := fun _ => fun
  | [d1, d2, d3, d4] => { results := [.lit (.bool false)], args := [d1, d2, d3, d4] }
  | _ => none }
def MeterFullerWrongFalsely : Prop := meterFullerRow.holds Try.pinned (OpenSpec.ofChange meterFullerWrong)

/-- 'turnoutlaw22.MeterWaits': WHATEVER THE INPUT: true; the input reads as it did. -/
def meterWaitsSpec : ChangeSpec := { name := "meterWaits", fn := fun _ => fun
  | [d1, d2, d3] => { results := [.lit (.bool true)], args := [d1, d2, d3] }
  | _ => none }
def meterWaitsRow : OpenClaim := { program := "ytohinfbahjepoaa", sum := "7d482c3ca4052b1d0d158926d1eee2d29ba3339bfe375e70e83bc17052f2ed15", func := "turnout/turnoutlaw22.MeterWaits", spec := "meterWaits", apart := false }
def MeterWaitsSaid : Prop := meterWaitsRow.holds Try.pinned (OpenSpec.ofChange meterWaitsSpec)

/-- ITS FALSE NEIGHBOUR: 'it returns false'. Refute it at one input. -/
def meterWaitsWrong : ChangeSpec := { name := "meterWaits", fn := fun _ => fun
  | [d1, d2, d3] => { results := [.lit (.bool false)], args := [d1, d2, d3] }
  | _ => none }
def MeterWaitsWrongFalsely : Prop := meterWaitsRow.holds Try.pinned (OpenSpec.ofChange meterWaitsWrong)

/-- 'turnoutlaw22.MeterTogether': WHATEVER THE INPUT: true; the input reads as it did. -/
def meterTogetherSpec : ChangeSpec := { name := "meterTogether", fn := fun _ => fun
  | [d1, d2, d3, d4] => { results := [.lit (.bool true)], args := [d1, d2, d3, d4] }
  | _ => none }
def meterTogetherRow : OpenClaim := { program := "ytohinfbahjepoaa", sum := "7d482c3ca4052b1d0d158926d1eee2d29ba3339bfe375e70e83bc17052f2ed15", func := "turnout/turnoutlaw22.MeterTogether", spec := "meterTogether", apart := false }
def MeterTogetherSaid : Prop := meterTogetherRow.holds Try.pinned (OpenSpec.ofChange meterTogetherSpec)

/-- ITS FALSE NEIGHBOUR: 'it returns false'. Refute it at one input. -/
def meterTogetherWrong : ChangeSpec := { name := "meterTogether", fn := fun _ => fun
  | [d1, d2, d3, d4] => { results := [.lit (.bool false)], args := [d1, d2, d3, d4] }
  | _ => none }
def MeterTogetherWrongFalsely : Prop := meterTogetherRow.holds Try.pinned (OpenSpec.ofChange meterTogetherWrong)

/-- 'turnoutlaw22.MeterPlays': WHATEVER THE INPUT: true; the input reads as it did. -/
def meterPlaysSpec : ChangeSpec := { name := "meterPlays", fn := fun _ => fun
  | [d1, d2] => { results := [.lit (.bool true)], args := [d1, d2] }
  | _ => none }
def meterPlaysRow : OpenClaim := { program := "ytohinfbahjepoaa", sum := "7d482c3ca4052b1d0d158926d1eee2d29ba3339bfe375e70e83bc17052f2ed15", func := "turnout/turnoutlaw22.MeterPlays", spec := "meterPlays", apart := false }
def MeterPlaysSaid : Prop := meterPlaysRow.holds Try.pinned (OpenSpec.ofChange meterPlaysSpec)

/-- ITS FALSE NEIGHBOUR: 'it returns false'. Refute it at one input. -/
def meterPlaysWrong : ChangeSpec := { name := "meterPlays", fn := fun _ => fun
  | [d1, d2] => { results := [.lit (.bool false)], args := [d1, d2] }
  | _ => none }
def MeterPlaysWrongFalsely : Prop := meterPlaysRow.holds Try.pinned (OpenSpec.ofChange meterPlaysWrong)

/-- 'turnoutlaw22.MeterNames': WHATEVER THE INPUT: true; the input reads as it did. -/
def meterNamesSpec : ChangeSpec := { name := "meterNames", fn := fun _ => fun
  | [] => { results := [.lit (.bool true)], args := [] }
  | _ => none }
def meterNamesRow : OpenClaim := { program := "ytohinfbahjepoaa", sum := "7d482c3ca4052b1d0d158926d1eee2d29ba3339bfe375e70e83bc17052f2ed15", func := "turnout/turnoutlaw22.MeterNames", spec := "meterNames", apart := false }
def MeterNamesSaid : Prop := meterNamesRow.holds Try.pinned (OpenSpec.ofChange meterNamesSpec)

/-- ITS FALSE NEIGHBOUR: 'it returns false'. Refute it at one input. -/
def meterNamesWrong : ChangeSpec := { name := "meterNames", fn := fun _ => fun
  | [] => { results := [.lit (.bool false)], args := [] }
  | _ => none }
def MeterNamesWrongFalsely : Prop := meterNamesRow.holds Try.pinned (OpenSpec.ofChange meterNamesWrong)

/- THE SECOND FORM. 'bulk': how many values and letters a reading holds, each counted each time it is reached (what is shared counts as often as it is met; a slice's spare places count too). A statement '..UptoSaid' is the law's where the arguments, and the package variables that the reading takes, are together of bulk at most 1048576: NARROWER than '..Said'. Prove '..Said' where nothing that the law and all that it calls make is longer than what came in: it says more and counts as full. Else prove '..UptoSaid'. A law counts once. -/
mutual
def uptoBulk {H : Type} : DataW H → Nat
  | .lit (.string bytes) => bytes.length + 1
  | .lit _ => 1
  | .nil => 1
  | .ptr d => uptoBulk d + 1
  | .slice elems spare => uptoBulkAll elems + uptoBulkAll spare + 1
  | .agg parts => uptoBulkAll parts + 1
  | .iface _ d => uptoBulk d + 1
  | .map entries => uptoBulkEntries entries + 1
  | .held _ => 1
def uptoBulkAll {H : Type} : List (DataW H) → Nat
  | [] => 0
  | d :: r => uptoBulk d + uptoBulkAll r
def uptoBulkEntries {H : Type} : List (Lit × DataW H) → Nat
  | [] => 0
  | x :: r => uptoBulkEntry x + uptoBulkEntries r
def uptoBulkEntry {H : Type} : Lit × DataW H → Nat
  | (.string bytes, d) => bytes.length + uptoBulk d + 1
  | (_, d) => uptoBulk d + 1
 end
def uptoSmall : (H : Type) → List (DataW H) → Bool := fun _ ds => decide (uptoBulkAll ds ≤ 1048576)
def OpenSpec.upto (s : _root_.Go.ChangeSpec) : _root_.Go.OpenSpec := { _root_.Go.OpenSpec.ofChange s with cond := some uptoSmall }

/-- 'turnoutlaw22.MeterMuch', WHERE WHAT IT READS IS OF BULK AT MOST 1048576: true; the input reads as it did. -/
def meterMuchUptoRow : OpenClaim := { program := "ytohinfbahjepoaa", sum := "7d482c3ca4052b1d0d158926d1eee2d29ba3339bfe375e70e83bc17052f2ed15", func := "turnout/turnoutlaw22.MeterMuch", spec := "meterMuch", apart := false, narrowed := true }
def MeterMuchUptoSaid : Prop := meterMuchUptoRow.holds Try.pinned (OpenSpec.upto meterMuchSpec)

/-- 'turnoutlaw22.MeterFuller', WHERE WHAT IT READS IS OF BULK AT MOST 1048576: true; the input reads as it did. -/
def meterFullerUptoRow : OpenClaim := { program := "ytohinfbahjepoaa", sum := "7d482c3ca4052b1d0d158926d1eee2d29ba3339bfe375e70e83bc17052f2ed15", func := "turnout/turnoutlaw22.MeterFuller", spec := "meterFuller", apart := false, narrowed := true }
def MeterFullerUptoSaid : Prop := meterFullerUptoRow.holds Try.pinned (OpenSpec.upto meterFullerSpec)

/-- 'turnoutlaw22.MeterWaits', WHERE WHAT IT READS IS OF BULK AT MOST 1048576: true; the input reads as it did. -/
def meterWaitsUptoRow : OpenClaim := { program := "ytohinfbahjepoaa", sum := "7d482c3ca4052b1d0d158926d1eee2d29ba3339bfe375e70e83bc17052f2ed15", func := "turnout/turnoutlaw22.MeterWaits", spec := "meterWaits", apart := false, narrowed := true }
def MeterWaitsUptoSaid : Prop := meterWaitsUptoRow.holds Try.pinned (OpenSpec.upto meterWaitsSpec)

/-- 'turnoutlaw22.MeterTogether', WHERE WHAT IT READS IS OF BULK AT MOST 1048576: true; the input reads as it did. -/
def meterTogetherUptoRow : OpenClaim := { program := "ytohinfbahjepoaa", sum := "7d482c3ca4052b1d0d158926d1eee2d29ba3339bfe375e70e83bc17052f2ed15", func := "turnout/turnoutlaw22.MeterTogether", spec := "meterTogether", apart := false, narrowed := true }
def MeterTogetherUptoSaid : Prop := meterTogetherUptoRow.holds Try.pinned (OpenSpec.upto meterTogetherSpec)

/-- 'turnoutlaw22.MeterPlays', WHERE WHAT IT READS IS OF BULK AT MOST 1048576: true; the input reads as it did. -/
def meterPlaysUptoRow : OpenClaim := { program := "ytohinfbahjepoaa", sum := "7d482c3ca4052b1d0d158926d1eee2d29ba3339bfe375e70e83bc17052f2ed15", func := "turnout/turnoutlaw22.MeterPlays", spec := "meterPlays", apart := false, narrowed := true }
def MeterPlaysUptoSaid : Prop := meterPlaysUptoRow.holds Try.pinned (OpenSpec.upto meterPlaysSpec)

/-- 'turnoutlaw22.MeterNames', WHERE WHAT IT READS IS OF BULK AT MOST 1048576: true; the input reads as it did. -/
def meterNamesUptoRow : OpenClaim := { program := "ytohinfbahjepoaa", sum := "7d482c3ca4052b1d0d158926d1eee2d29ba3339bfe375e70e83bc17052f2ed15", func := "turnout/turnoutlaw22.MeterNames", spec := "meterNames", apart := false, narrowed := true }
def MeterNamesUptoSaid : Prop := meterNamesUptoRow.holds Try.pinned (OpenSpec.upto meterNamesSpec)

end Rows
end Go.Proofs.Ytohinfbahjepoaa
