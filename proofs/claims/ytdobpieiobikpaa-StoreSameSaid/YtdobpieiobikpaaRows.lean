/-
  No cell of these rows narrows 'for every input' (looked for: loops, veiled, ifaces, maps, wideKeys, modest, calm, conditions, laid).
  DERIVED. THE GIVEN ROWS OF THIS SEAT. 8 by the template 'for every input the law returns true; each argument reads behind the call as it read before'; 0 by the template 'total and deterministic' (their statements: YtdobpieiobikpaaTotals.lean).
  GIVEN WITH THE SEED: the statements are not yours to turn. If you find one false, say at which input.
  Laid BY PROGRAM, IN A SANDBOX (cutbox-rows.mjs): the forced cells as the released guide's own fill.sh prints them over the translation f85bddf4b871d639… (all of the seat's roots in one cut). By AI agents, Wed Nov 11 2026. No macro, syntax, notation, axiom, sorry.
-/
import Derived.Test.YtdobpieiobikpaaChecked
import GoSem.Claim
import GoSem.ClaimJoined
import GoSem.ClaimMapViews
import Derived.JoinedTies
import Derived.KernelRfl
namespace Go.Proofs.Ytdobpieiobikpaa
/- THE CELL 'sum', in the pinned program and in every row, IS THE sha256 OF THE DUMP (.gsa) THAT YtdobpieiobikpaaProg.lean LOADS. Nothing in Lean hashes anything: it is a label: what it is worth is what the hold of that sum in a sandbox is worth. -/
noncomputable def Try.pinned : Pinned := { name := "ytdobpieiobikpaa", sum := "f85bddf4b871d639910635e033dd181fda0f9e7fe1d01d39143400fc20822cea", checked := Try.checked }
namespace Rows
def none {H : Type} : Left H := { results := [], args := [] }

/-- 'turnoutlaw23.StoreAlone': WHATEVER THE INPUT: true; the input reads as it did. -/
def storeAloneSpec : ChangeSpec := { name := "storeAlone", fn := fun _ => fun
  | [d1, d2, d3, d4, d5, d6] => { results := [.lit (.bool true)], args := [d1, d2, d3, d4, d5, d6] }
  | _ => none }
def storeAloneRow : OpenClaim := { program := "ytdobpieiobikpaa", sum := "f85bddf4b871d639910635e033dd181fda0f9e7fe1d01d39143400fc20822cea", func := "turnout/turnoutlaw23.StoreAlone", spec := "storeAlone", unfollowed := true, recurses := true, apart := false }
def StoreAloneSaid : Prop := storeAloneRow.holds Try.pinned (OpenSpec.ofChange storeAloneSpec)

/-- ITS FALSE NEIGHBOUR: 'it returns false'. Refute it at one input. -/
def storeAloneWrong : ChangeSpec := { name := "storeAlone", fn := fun _ => fun
  | [d1, d2, d3, d4, d5, d6] => { results := [.lit (.bool false)], args := [d1, d2, d3, d4, d5, d6] }
  | _ => none }
def StoreAloneWrongFalsely : Prop := storeAloneRow.holds Try.pinned (OpenSpec.ofChange storeAloneWrong)

/-- 'turnoutlaw23.StoreRows': WHATEVER THE INPUT: true; the input reads as it did. -/
def storeRowsSpec : ChangeSpec := { name := "storeRows", fn := fun _ => fun
  | [d1, d2, d3, d4] => { results := [.lit (.bool true)], args := [d1, d2, d3, d4] }
  | _ => none }
def storeRowsRow : OpenClaim := { program := "ytdobpieiobikpaa", sum := "f85bddf4b871d639910635e033dd181fda0f9e7fe1d01d39143400fc20822cea", func := "turnout/turnoutlaw23.StoreRows", spec := "storeRows", unfollowed := true, recurses := true, apart := false }
def StoreRowsSaid : Prop := storeRowsRow.holds Try.pinned (OpenSpec.ofChange storeRowsSpec)

/-- ITS FALSE NEIGHBOUR: 'it returns false'. Refute it at one input. -/
def storeRowsWrong : ChangeSpec := { name := "storeRows", fn := fun _ => fun
  | [d1, d2, d3, d4] => { results := [.lit (.bool false)], args := [d1, d2, d3, d4] }
  | _ => none }
def StoreRowsWrongFalsely : Prop := storeRowsRow.holds Try.pinned (OpenSpec.ofChange storeRowsWrong)

/-- 'turnoutlaw23.StorePlays': WHATEVER THE INPUT: true; the input reads as it did. -/
def storePlaysSpec : ChangeSpec := { name := "storePlays", fn := fun _ => fun
  | [d] => { results := [.lit (.bool true)], args := [d] }
  | _ => none }
def storePlaysRow : OpenClaim := { program := "ytdobpieiobikpaa", sum := "f85bddf4b871d639910635e033dd181fda0f9e7fe1d01d39143400fc20822cea", func := "turnout/turnoutlaw23.StorePlays", spec := "storePlays", inPlace := ["maps.clone"], unfollowed := true, recurses := true, apart := false }
def StorePlaysSaid : Prop := storePlaysRow.holds Try.pinned (OpenSpec.ofChange storePlaysSpec)

/-- ITS FALSE NEIGHBOUR: 'it returns false'. Refute it at one input. -/
def storePlaysWrong : ChangeSpec := { name := "storePlays", fn := fun _ => fun
  | [d] => { results := [.lit (.bool false)], args := [d] }
  | _ => none }
def StorePlaysWrongFalsely : Prop := storePlaysRow.holds Try.pinned (OpenSpec.ofChange storePlaysWrong)

/-- 'turnoutlaw23.StoreSums': WHATEVER THE INPUT: true; the input reads as it did. -/
def storeSumsSpec : ChangeSpec := { name := "storeSums", fn := fun _ => fun
  | [d1, d2] => { results := [.lit (.bool true)], args := [d1, d2] }
  | _ => none }
def storeSumsRow : OpenClaim := { program := "ytdobpieiobikpaa", sum := "f85bddf4b871d639910635e033dd181fda0f9e7fe1d01d39143400fc20822cea", func := "turnout/turnoutlaw23.StoreSums", spec := "storeSums", unfollowed := true, recurses := true, apart := false }
def StoreSumsSaid : Prop := storeSumsRow.holds Try.pinned (OpenSpec.ofChange storeSumsSpec)

/-- ITS FALSE NEIGHBOUR: 'it returns false'. Refute it at one input. -/
def storeSumsWrong : ChangeSpec := { name := "storeSums", fn := fun _ => fun
  | [d1, d2] => { results := [.lit (.bool false)], args := [d1, d2] }
  | _ => none }
def StoreSumsWrongFalsely : Prop := storeSumsRow.holds Try.pinned (OpenSpec.ofChange storeSumsWrong)

/-- 'turnoutlaw23.StoreNames': WHATEVER THE INPUT: true; the input reads as it did. -/
def storeNamesSpec : ChangeSpec := { name := "storeNames", fn := fun _ => fun
  | [] => { results := [.lit (.bool true)], args := [] }
  | _ => none }
def storeNamesRow : OpenClaim := { program := "ytdobpieiobikpaa", sum := "f85bddf4b871d639910635e033dd181fda0f9e7fe1d01d39143400fc20822cea", func := "turnout/turnoutlaw23.StoreNames", spec := "storeNames", inPlace := ["maps.clone"], unfollowed := true, recurses := true, apart := false }
def StoreNamesSaid : Prop := storeNamesRow.holds Try.pinned (OpenSpec.ofChange storeNamesSpec)

/-- ITS FALSE NEIGHBOUR: 'it returns false'. Refute it at one input. -/
def storeNamesWrong : ChangeSpec := { name := "storeNames", fn := fun _ => fun
  | [] => { results := [.lit (.bool false)], args := [] }
  | _ => none }
def StoreNamesWrongFalsely : Prop := storeNamesRow.holds Try.pinned (OpenSpec.ofChange storeNamesWrong)

/-- 'turnoutlaw23.StoreSame': WHATEVER THE INPUT: true; the input reads as it did. -/
def storeSameSpec : ChangeSpec := { name := "storeSame", fn := fun _ => fun
  | [d1, d2] => { results := [.lit (.bool true)], args := [d1, d2] }
  | _ => none }
def storeSameRow : OpenClaim := { program := "ytdobpieiobikpaa", sum := "f85bddf4b871d639910635e033dd181fda0f9e7fe1d01d39143400fc20822cea", func := "turnout/turnoutlaw23.StoreSame", spec := "storeSame", inPlace := ["maps.clone"], unfollowed := true, recurses := true, apart := false }
def StoreSameSaid : Prop := storeSameRow.holds Try.pinned (OpenSpec.ofChange storeSameSpec)

/-- ITS FALSE NEIGHBOUR: 'it returns false'. Refute it at one input. -/
def storeSameWrong : ChangeSpec := { name := "storeSame", fn := fun _ => fun
  | [d1, d2] => { results := [.lit (.bool false)], args := [d1, d2] }
  | _ => none }
def StoreSameWrongFalsely : Prop := storeSameRow.holds Try.pinned (OpenSpec.ofChange storeSameWrong)

/-- 'turnoutlaw23.StoreAnew': WHATEVER THE INPUT: true; the input reads as it did. -/
def storeAnewSpec : ChangeSpec := { name := "storeAnew", fn := fun _ => fun
  | [d1, d2, d3] => { results := [.lit (.bool true)], args := [d1, d2, d3] }
  | _ => none }
def storeAnewRow : OpenClaim := { program := "ytdobpieiobikpaa", sum := "f85bddf4b871d639910635e033dd181fda0f9e7fe1d01d39143400fc20822cea", func := "turnout/turnoutlaw23.StoreAnew", spec := "storeAnew", inPlace := ["maps.clone"], unfollowed := true, recurses := true, apart := false }
def StoreAnewSaid : Prop := storeAnewRow.holds Try.pinned (OpenSpec.ofChange storeAnewSpec)

/-- ITS FALSE NEIGHBOUR: 'it returns false'. Refute it at one input. -/
def storeAnewWrong : ChangeSpec := { name := "storeAnew", fn := fun _ => fun
  | [d1, d2, d3] => { results := [.lit (.bool false)], args := [d1, d2, d3] }
  | _ => none }
def StoreAnewWrongFalsely : Prop := storeAnewRow.holds Try.pinned (OpenSpec.ofChange storeAnewWrong)

/-- 'turnoutlaw23.StoreApart': WHATEVER THE INPUT: true; the input reads as it did. -/
def storeApartSpec : ChangeSpec := { name := "storeApart", fn := fun _ => fun
  | [d1, d2, d3] => { results := [.lit (.bool true)], args := [d1, d2, d3] }
  | _ => none }
def storeApartRow : OpenClaim := { program := "ytdobpieiobikpaa", sum := "f85bddf4b871d639910635e033dd181fda0f9e7fe1d01d39143400fc20822cea", func := "turnout/turnoutlaw23.StoreApart", spec := "storeApart", inPlace := ["maps.clone"], unfollowed := true, recurses := true, apart := false }
def StoreApartSaid : Prop := storeApartRow.holds Try.pinned (OpenSpec.ofChange storeApartSpec)

/-- ITS FALSE NEIGHBOUR: 'it returns false'. Refute it at one input. -/
def storeApartWrong : ChangeSpec := { name := "storeApart", fn := fun _ => fun
  | [d1, d2, d3] => { results := [.lit (.bool false)], args := [d1, d2, d3] }
  | _ => none }
def StoreApartWrongFalsely : Prop := storeApartRow.holds Try.pinned (OpenSpec.ofChange storeApartWrong)

/- THE SECOND FORM. 'bulk': how many values and letters a reading holds, each counted each time it is reached (what is shared counts as often as it is met; a slice's spare places count too). A statement '..UptoSaid' is the law's where the arguments, and the package variables that the reading takes, are together of bulk at most 1048576: NARROWER than '..Said'. Prove '..Said' where nothing that the law and all that it calls make is longer than what came in: it says more and counts as full. Else prove '..UptoSaid'. A law counts once. -/
mutual
def uptoBulk {H : Type} : DataW H → Nat
  | .lit (.string bytes) => bytes.length + 1
  | .lit _ => 1
  | .nil => 1
  | .ptr d => uptoBulk d + 1
  | .slice elems spare => uptoBulkAll elems + uptoBulkAll spare + 1
  | .agg parts => uptoBulkAll parts + 1
  | .iface _ d => uptoBulk d + 1
  | .map entries => uptoBulkEntries entries + 1
  | .held _ => 1
def uptoBulkAll {H : Type} : List (DataW H) → Nat
  | [] => 0
  | d :: r => uptoBulk d + uptoBulkAll r
def uptoBulkEntries {H : Type} : List (Lit × DataW H) → Nat
  | [] => 0
  | x :: r => uptoBulkEntry x + uptoBulkEntries r
def uptoBulkEntry {H : Type} : Lit × DataW H → Nat
  | (.string bytes, d) => bytes.length + uptoBulk d + 1
  | (_, d) => uptoBulk d + 1
 end
def uptoSmall : (H : Type) → List (DataW H) → Bool := fun _ ds => decide (uptoBulkAll ds ≤ 1048576)
def OpenSpec.upto (s : _root_.Go.ChangeSpec) : _root_.Go.OpenSpec := { _root_.Go.OpenSpec.ofChange s with cond := some uptoSmall }

/-- 'turnoutlaw23.StoreAlone', WHERE WHAT IT READS IS OF BULK AT MOST 1048576: true; the input reads as it did. -/
def storeAloneUptoRow : OpenClaim := { program := "ytdobpieiobikpaa", sum := "f85bddf4b871d639910635e033dd181fda0f9e7fe1d01d39143400fc20822cea", func := "turnout/turnoutlaw23.StoreAlone", spec := "storeAlone", unfollowed := true, recurses := true, apart := false, narrowed := true }
def StoreAloneUptoSaid : Prop := storeAloneUptoRow.holds Try.pinned (OpenSpec.upto storeAloneSpec)

/-- 'turnoutlaw23.StoreRows', WHERE WHAT IT READS IS OF BULK AT MOST 1048576: true; the input reads as it did. -/
def storeRowsUptoRow : OpenClaim := { program := "ytdobpieiobikpaa", sum := "f85bddf4b871d639910635e033dd181fda0f9e7fe1d01d39143400fc20822cea", func := "turnout/turnoutlaw23.StoreRows", spec := "storeRows", unfollowed := true, recurses := true, apart := false, narrowed := true }
def StoreRowsUptoSaid : Prop := storeRowsUptoRow.holds Try.pinned (OpenSpec.upto storeRowsSpec)

/-- 'turnoutlaw23.StorePlays', WHERE WHAT IT READS IS OF BULK AT MOST 1048576: true; the input reads as it did. -/
def storePlaysUptoRow : OpenClaim := { program := "ytdobpieiobikpaa", sum := "f85bddf4b871d639910635e033dd181fda0f9e7fe1d01d39143400fc20822cea", func := "turnout/turnoutlaw23.StorePlays", spec := "storePlays", inPlace := ["maps.clone"], unfollowed := true, recurses := true, apart := false, narrowed := true }
def StorePlaysUptoSaid : Prop := storePlaysUptoRow.holds Try.pinned (OpenSpec.upto storePlaysSpec)

/-- 'turnoutlaw23.StoreSums', WHERE WHAT IT READS IS OF BULK AT MOST 1048576: true; the input reads as it did. -/
def storeSumsUptoRow : OpenClaim := { program := "ytdobpieiobikpaa", sum := "f85bddf4b871d639910635e033dd181fda0f9e7fe1d01d39143400fc20822cea", func := "turnout/turnoutlaw23.StoreSums", spec := "storeSums", unfollowed := true, recurses := true, apart := false, narrowed := true }
def StoreSumsUptoSaid : Prop := storeSumsUptoRow.holds Try.pinned (OpenSpec.upto storeSumsSpec)

/-- 'turnoutlaw23.StoreNames', WHERE WHAT IT READS IS OF BULK AT MOST 1048576: true; the input reads as it did. -/
def storeNamesUptoRow : OpenClaim := { program := "ytdobpieiobikpaa", sum := "f85bddf4b871d639910635e033dd181fda0f9e7fe1d01d39143400fc20822cea", func := "turnout/turnoutlaw23.StoreNames", spec := "storeNames", inPlace := ["maps.clone"], unfollowed := true, recurses := true, apart := false, narrowed := true }
def StoreNamesUptoSaid : Prop := storeNamesUptoRow.holds Try.pinned (OpenSpec.upto storeNamesSpec)

/-- 'turnoutlaw23.StoreSame', WHERE WHAT IT READS IS OF BULK AT MOST 1048576: true; the input reads as it did. -/
def storeSameUptoRow : OpenClaim := { program := "ytdobpieiobikpaa", sum := "f85bddf4b871d639910635e033dd181fda0f9e7fe1d01d39143400fc20822cea", func := "turnout/turnoutlaw23.StoreSame", spec := "storeSame", inPlace := ["maps.clone"], unfollowed := true, recurses := true, apart := false, narrowed := true }
def StoreSameUptoSaid : Prop := storeSameUptoRow.holds Try.pinned (OpenSpec.upto storeSameSpec)

/-- 'turnoutlaw23.StoreAnew', WHERE WHAT IT READS IS OF BULK AT MOST 1048576: true; the input reads as it did. -/
def storeAnewUptoRow : OpenClaim := { program := "ytdobpieiobikpaa", sum := "f85bddf4b871d639910635e033dd181fda0f9e7fe1d01d39143400fc20822cea", func := "turnout/turnoutlaw23.StoreAnew", spec := "storeAnew", inPlace := ["maps.clone"], unfollowed := true, recurses := true, apart := false, narrowed := true }
def StoreAnewUptoSaid : Prop := storeAnewUptoRow.holds Try.pinned (OpenSpec.upto storeAnewSpec)

/-- 'turnoutlaw23.StoreApart', WHERE WHAT IT READS IS OF BULK AT MOST 1048576: true; the input reads as it did. -/
def storeApartUptoRow : OpenClaim := { program := "ytdobpieiobikpaa", sum := "f85bddf4b871d639910635e033dd181fda0f9e7fe1d01d39143400fc20822cea", func := "turnout/turnoutlaw23.StoreApart", spec := "storeApart", inPlace := ["maps.clone"], unfollowed := true, recurses := true, apart := false, narrowed := true }
def StoreApartUptoSaid : Prop := storeApartUptoRow.holds Try.pinned (OpenSpec.upto storeApartSpec)

end Rows
end Go.Proofs.Ytdobpieiobikpaa
