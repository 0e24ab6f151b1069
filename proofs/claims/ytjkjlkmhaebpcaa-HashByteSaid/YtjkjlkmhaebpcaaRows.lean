/-
  No cell of these rows narrows 'for every input' (looked for: loops, veiled, ifaces, maps, wideKeys, modest, calm, conditions, laid).
  DERIVED. THE GIVEN ROWS OF THIS SEAT. 7 by the template 'for every input the law returns true; each argument reads behind the call as it read before'; 0 by the template 'total and deterministic' (their statements: YtjkjlkmhaebpcaaTotals.lean).
  GIVEN WITH THE SEED: the statements are not yours to turn. If you find one false, say at which input.
  Laid BY PROGRAM, IN A SANDBOX (cutbox-rows.mjs): the forced cells as the released guide's own fill.sh prints them over the translation 826e161ce91536b2… (all of the seat's roots in one cut). By AI agents, Wed Nov 11 2026. No macro, syntax, notation, axiom, sorry.
-/
import Derived.Test.YtjkjlkmhaebpcaaChecked
import GoSem.Claim
import GoSem.ClaimJoined
import GoSem.ClaimMapViews
import Derived.JoinedTies
import Derived.KernelRfl
namespace Go.Proofs.Ytjkjlkmhaebpcaa
/- THE CELL 'sum', in the pinned program and in every row, IS THE sha256 OF THE DUMP (.gsa) THAT YtjkjlkmhaebpcaaProg.lean LOADS. Nothing in Lean hashes anything: it is a label: what it is worth is what the hold of that sum in a sandbox is worth. -/
noncomputable def Try.pinned : Pinned := { name := "ytjkjlkmhaebpcaa", sum := "826e161ce91536b2998cb228cb520da74e17c5773721972ce76773d3fcf340d2", checked := Try.checked }
namespace Rows
def none {H : Type} : Left H := { results := [], args := [] }

/-- 'turnoutlaw04.HashSlots': WHATEVER THE INPUT: true; the input reads as it did. -/
def hashSlotsSpec : ChangeSpec := { name := "hashSlots", fn := fun _ => fun
  | [d1, d2] => { results := [.lit (.bool true)], args := [d1, d2] }
  | _ => none }
def hashSlotsRow : OpenClaim := { program := "ytjkjlkmhaebpcaa", sum := "826e161ce91536b2998cb228cb520da74e17c5773721972ce76773d3fcf340d2", func := "turnout/turnoutlaw04.HashSlots", spec := "hashSlots", apart := false }
def HashSlotsSaid : Prop := hashSlotsRow.holds Try.pinned (OpenSpec.ofChange hashSlotsSpec)

/-- ITS FALSE NEIGHBOUR: 'it returns false'. Refute it at one input. -/
def hashSlotsWrong : ChangeSpec := { name := "hashSlots", fn := fun _ => fun
  | [d1, d2] => { results := [.lit (.bool false)], args := [d1, d2] }
  | _ => none }
def HashSlotsWrongFalsely : Prop := hashSlotsRow.holds Try.pinned (OpenSpec.ofChange hashSlotsWrong)

/-- 'turnoutlaw04.HashParts': WHATEVER THE INPUT: true; the input reads as it did. -/
def hashPartsSpec : ChangeSpec := { name := "hashParts", fn := fun _ => fun
  | [d1, d2, d3] => { results := [.lit (.bool true)], args := [d1, d2, d3] }
  | _ => none }
def hashPartsRow : OpenClaim := { program := "ytjkjlkmhaebpcaa", sum := "826e161ce91536b2998cb228cb520da74e17c5773721972ce76773d3fcf340d2", func := "turnout/turnoutlaw04.HashParts", spec := "hashParts", apart := false }
def HashPartsSaid : Prop := hashPartsRow.holds Try.pinned (OpenSpec.ofChange hashPartsSpec)

/-- ITS FALSE NEIGHBOUR: 'it returns false'. Refute it at one input. -/
def hashPartsWrong : ChangeSpec := { name := "hashParts", fn := fun _ => fun
  | [d1, d2, d3] => { results := [.lit (.bool false)], args := [d1, d2, d3] }
  | _ => none }
def HashPartsWrongFalsely : Prop := hashPartsRow.holds Try.pinned (OpenSpec.ofChange hashPartsWrong)

/-- 'turnoutlaw04.HashWithin': WHATEVER THE INPUT: true; the input reads as it did. -/
def hashWithinSpec : ChangeSpec := { name := "hashWithin", fn := fun _ => fun
  | [d1, d2, d3] => { results := [.lit (.bool true)], args := [d1, d2, d3] }
  | _ => none }
def hashWithinRow : OpenClaim := { program := "ytjkjlkmhaebpcaa", sum := "826e161ce91536b2998cb228cb520da74e17c5773721972ce76773d3fcf340d2", func := "turnout/turnoutlaw04.HashWithin", spec := "hashWithin", apart := false }
def HashWithinSaid : Prop := hashWithinRow.holds Try.pinned (OpenSpec.ofChange hashWithinSpec)

/-- ITS FALSE NEIGHBOUR: 'it returns false'. Refute it at one input. -/
def hashWithinWrong : ChangeSpec := { name := "hashWithin", fn := fun _ => fun
  | [d1, d2, d3] => { results := [.lit (.bool false)], args := [d1, d2, d3] }
  | _ => none }
def HashWithinWrongFalsely : Prop := hashWithinRow.holds Try.pinned (OpenSpec.ofChange hashWithinWrong)

/-- 'turnoutlaw04.HashByte': WHATEVER THE INPUT: true; the input reads as it did. -/
def hashByteSpec : ChangeSpec := { name := "hashByte", fn := fun _ => fun
  | [d1, d2, d3] => { results := [.lit (.bool true)], args := [d1, d2, d3] }
  | _ => none }
def hashByteRow : OpenClaim := { program := "ytjkjlkmhaebpcaa", sum := "826e161ce91536b2998cb228cb520da74e17c5773721972ce76773d3fcf340d2", func := "turnout/turnoutlaw04.HashByte", spec := "hashByte", apart := false }
def HashByteSaid : Prop := hashByteRow.holds Try.pinned (OpenSpec.ofChange hashByteSpec)

/-- ITS FALSE NEIGHBOUR: 'it returns false'. Refute it at one input. -/
def hashByteWrong : ChangeSpec := { name := "hashByte", fn := fun _ => fun
  | [d1, d2, d3] => { results := [.lit (.bool false)], args := [d1, d2, d3] }
  | _ => none }
def HashByteWrongFalsely : Prop := hashByteRow.holds Try.pinned (OpenSpec.ofChange hashByteWrong)

/-- 'turnoutlaw04.HashTells': WHATEVER THE INPUT: true; the input reads as it did. -/
def hashTellsSpec : ChangeSpec := { name := "hashTells", fn := fun _ => fun
  | [d1, d2] => { results := [.lit (.bool true)], args := [d1, d2] }
  | _ => none }
def hashTellsRow : OpenClaim := { program := "ytjkjlkmhaebpcaa", sum := "826e161ce91536b2998cb228cb520da74e17c5773721972ce76773d3fcf340d2", func := "turnout/turnoutlaw04.HashTells", spec := "hashTells", apart := false }
def HashTellsSaid : Prop := hashTellsRow.holds Try.pinned (OpenSpec.ofChange hashTellsSpec)

/-- ITS FALSE NEIGHBOUR: 'it returns false'. Refute it at one input. -/
def hashTellsWrong : ChangeSpec := { name := "hashTells", fn := fun _ => fun
  | [d1, d2] => { results := [.lit (.bool false)], args := [d1, d2] }
  | _ => none }
def HashTellsWrongFalsely : Prop := hashTellsRow.holds Try.pinned (OpenSpec.ofChange hashTellsWrong)

/-- 'turnoutlaw04.HashNames': WHATEVER THE INPUT: true; the input reads as it did. -/
def hashNamesSpec : ChangeSpec := { name := "hashNames", fn := fun _ => fun
  | [] => { results := [.lit (.bool true)], args := [] }
  | _ => none }
def hashNamesRow : OpenClaim := { program := "ytjkjlkmhaebpcaa", sum := "826e161ce91536b2998cb228cb520da74e17c5773721972ce76773d3fcf340d2", func := "turnout/turnoutlaw04.HashNames", spec := "hashNames", apart := false }
def HashNamesSaid : Prop := hashNamesRow.holds Try.pinned (OpenSpec.ofChange hashNamesSpec)

/-- ITS FALSE NEIGHBOUR: 'it returns false'. Refute it at one input. -/
def hashNamesWrong : ChangeSpec := { name := "hashNames", fn := fun _ => fun
  | [] => { results := [.lit (.bool false)], args := [] }
  | _ => none }
def HashNamesWrongFalsely : Prop := hashNamesRow.holds Try.pinned (OpenSpec.ofChange hashNamesWrong)

/-- 'turnoutlaw04.HashBack': WHATEVER THE INPUT: true; the input reads as it did. -/
def hashBackSpec : ChangeSpec := { name := "hashBack", fn := fun _ => fun
  | [d1, d2] => { results := [.lit (.bool true)], args := [d1, d2] }
  | _ => none }
def hashBackRow : OpenClaim := { program := "ytjkjlkmhaebpcaa", sum := "826e161ce91536b2998cb228cb520da74e17c5773721972ce76773d3fcf340d2", func := "turnout/turnoutlaw04.HashBack", spec := "hashBack", apart := false }
def HashBackSaid : Prop := hashBackRow.holds Try.pinned (OpenSpec.ofChange hashBackSpec)

/-- ITS FALSE NEIGHBOUR: 'it returns false'. Refute it at one input. -/
def hashBackWrong : ChangeSpec := { name := "hashBack", fn := fun _ => fun
  | [d1, d2] => { results := [.lit (.bool false)], args := [d1, d2] }
  | _ => none }
def HashBackWrongFalsely : Prop := hashBackRow.holds Try.pinned (OpenSpec.ofChange hashBackWrong)

/- THE SECOND FORM. 'bulk': how many values and letters a reading holds, each counted each time it is reached (what is shared counts as often as it is met; a slice's spare places count too). A statement '..UptoSaid' is the law's where the arguments, and the package variables that the reading takes, are together of bulk at most 1048576: NARROWER than '..Said'. Prove '..Said' where nothing that the law and all that it calls make is longer than what came in: it says more and counts as full. Else prove '..UptoSaid'. A law counts once. -/
mutual
def uptoBulk {H : Type} : DataW H → Nat
  | .lit (.string bytes) => bytes.length + 1
  | .lit _ => 1
  | .nil => 1
  | .ptr d => uptoBulk d + 1
  | .slice elems spare => uptoBulkAll elems + uptoBulkAll spare + 1
  | .agg parts => uptoBulkAll parts + 1
  | .iface _ d => uptoBulk d + 1
  | .map entries => uptoBulkEntries entries + 1
  | .held _ => 1
def uptoBulkAll {H : Type} : List (DataW H) → Nat
  | [] => 0
  | d :: r => uptoBulk d + uptoBulkAll r
def uptoBulkEntries {H : Type} : List (Lit × DataW H) → Nat
  | [] => 0
  | x :: r => uptoBulkEntry x + uptoBulkEntries r
def uptoBulkEntry {H : Type} : Lit × DataW H → Nat
  | (.string bytes, d) => bytes.length + uptoBulk d + 1
  | (_, d) => uptoBulk d + 1
 end
def uptoSmall : (H : Type) → List (DataW H) → Bool := fun _ ds => decide (uptoBulkAll ds ≤ 1048576)
def OpenSpec.upto (s : _root_.Go.ChangeSpec) : _root_.Go.OpenSpec := { _root_.Go.OpenSpec.ofChange s with cond := some uptoSmall }

/-- 'turnoutlaw04.HashSlots', WHERE WHAT IT READS IS OF BULK AT MOST 1048576: true; the input reads as it did. -/
def hashSlotsUptoRow : OpenClaim := { program := "ytjkjlkmhaebpcaa", sum := "826e161ce91536b2998cb228cb520da74e17c5773721972ce76773d3fcf340d2", func := "turnout/turnoutlaw04.HashSlots", spec := "hashSlots", apart := false, narrowed := true }
def HashSlotsUptoSaid : Prop := hashSlotsUptoRow.holds Try.pinned (OpenSpec.upto hashSlotsSpec)

/-- 'turnoutlaw04.HashParts', WHERE WHAT IT READS IS OF BULK AT MOST 1048576: true; the input reads as it did. -/
def hashPartsUptoRow : OpenClaim := { program := "ytjkjlkmhaebpcaa", sum := "826e161ce91536b2998cb228cb520da74e17c5773721972ce76773d3fcf340d2", func := "turnout/turnoutlaw04.HashParts", spec := "hashParts", apart := false, narrowed := true }
def HashPartsUptoSaid : Prop := hashPartsUptoRow.holds Try.pinned (OpenSpec.upto hashPartsSpec)

/-- 'turnoutlaw04.HashWithin', WHERE WHAT IT READS IS OF BULK AT MOST 1048576: true; the input reads as it did. -/
def hashWithinUptoRow : OpenClaim := { program := "ytjkjlkmhaebpcaa", sum := "826e161ce91536b2998cb228cb520da74e17c5773721972ce76773d3fcf340d2", func := "turnout/turnoutlaw04.HashWithin", spec := "hashWithin", apart := false, narrowed := true }
def HashWithinUptoSaid : Prop := hashWithinUptoRow.holds Try.pinned (OpenSpec.upto hashWithinSpec)

/-- 'turnoutlaw04.HashByte', WHERE WHAT IT READS IS OF BULK AT MOST 1048576: true; the input reads as it did. -/
def hashByteUptoRow : OpenClaim := { program := "ytjkjlkmhaebpcaa", sum := "826e161ce91536b2998cb228cb520da74e17c5773721972ce76773d3fcf340d2", func := "turnout/turnoutlaw04.HashByte", spec := "hashByte", apart := false, narrowed := true }
def HashByteUptoSaid : Prop := hashByteUptoRow.holds Try.pinned (OpenSpec.upto hashByteSpec)

/-- 'turnoutlaw04.HashTells', WHERE WHAT IT READS IS OF BULK AT MOST 1048576: true; the input reads as it did. -/
def hashTellsUptoRow : OpenClaim := { program := "ytjkjlkmhaebpcaa", sum := "826e161ce91536b2998cb228cb520da74e17c5773721972ce76773d3fcf340d2", func := "turnout/turnoutlaw04.HashTells", spec := "hashTells", apart := false, narrowed := true }
def HashTellsUptoSaid : Prop := hashTellsUptoRow.holds Try.pinned (OpenSpec.upto hashTellsSpec)

/-- 'turnoutlaw04.HashNames', WHERE WHAT IT READS IS OF BULK AT MOST 1048576: true; the input reads as it did. -/
def hashNamesUptoRow : OpenClaim := { program := "ytjkjlkmhaebpcaa", sum := "826e161ce91536b2998cb228cb520da74e17c5773721972ce76773d3fcf340d2", func := "turnout/turnoutlaw04.HashNames", spec := "hashNames", apart := false, narrowed := true }
def HashNamesUptoSaid : Prop := hashNamesUptoRow.holds Try.pinned (OpenSpec.upto hashNamesSpec)

/-- 'turnoutlaw04.HashBack', WHERE WHAT IT READS IS OF BULK AT MOST 1048576: true; the input reads as it did. -/
def hashBackUptoRow : OpenClaim := { program := "ytjkjlkmhaebpcaa", sum := "826e161ce91536b2998cb228cb520da74e17c5773721972ce76773d3fcf340d2", func := "turnout/turnoutlaw04.HashBack", spec := "hashBack", apart := false, narrowed := true }
def HashBackUptoSaid : Prop := hashBackUptoRow.holds Try.pinned (OpenSpec.upto hashBackSpec)

end Rows
end Go.Proofs.Ytjkjlkmhaebpcaa
