/-
  No cell of these rows narrows 'for every input' (looked for: loops, veiled, ifaces, maps, wideKeys, modest, calm, conditions, laid).
  DERIVED. THE GIVEN ROWS OF THIS SEAT. 7 by the template 'for every input the law returns true; each argument reads behind the call as it read before'; 0 by the template 'total and deterministic' (their statements: YtedkfhgpahjleaaTotals.lean).
  GIVEN WITH THE SEED: the statements are not yours to turn. If you find one false, say at which input.
  Laid BY PROGRAM, IN A SANDBOX (cutbox-rows.mjs): the forced cells as the released guide's own fill.sh prints them over the translation 8cd214b252b13338… (all of the seat's roots in one cut). By AI agents, Wed Nov 11 2026. No macro, syntax, notation, axiom, sorry.
-/
import Derived.Test.YtedkfhgpahjleaaChecked
import GoSem.Claim
import GoSem.ClaimJoined
import GoSem.ClaimMapViews
import Derived.JoinedTies
import Derived.KernelRfl
namespace Go.Proofs.Ytedkfhgpahjleaa
/- THE CELL 'sum', in the pinned program and in every row, IS THE sha256 OF THE DUMP (.gsa) THAT YtedkfhgpahjleaaProg.lean LOADS. Nothing in Lean hashes anything: it is a label: what it is worth is what the hold of that sum in a sandbox is worth. -/
noncomputable def Try.pinned : Pinned := { name := "ytedkfhgpahjleaa", sum := "8cd214b252b133387014489b56157bf8ddc747915e8ea971a724be23227373b6", checked := Try.checked }
namespace Rows
def none {H : Type} : Left H := { results := [], args := [] }

/-- 'turnoutlaw07.ChunkFrames': WHATEVER THE INPUT: true; the input reads as it did. -/
def chunkFramesSpec : ChangeSpec := { name := "chunkFrames", fn := fun _ => fun
  | [d] => { results := [.lit (.bool true)], args := [d] }
  | _ => none }
def chunkFramesRow : OpenClaim := { program := "ytedkfhgpahjleaa", sum := "8cd214b252b133387014489b56157bf8ddc747915e8ea971a724be23227373b6", func := "turnout/turnoutlaw07.ChunkFrames", spec := "chunkFrames", unfollowed := true, recurses := true, apart := false }
def ChunkFramesSaid : Prop := chunkFramesRow.holds Try.pinned (OpenSpec.ofChange chunkFramesSpec)

/-- ITS FALSE NEIGHBOUR: 'it returns false'. Refute it at one input. -/
def chunkFramesWrong : ChangeSpec := { name := "chunkFrames", fn := fun _ => fun
  | [d] => { results := [.lit (.bool false)], args := [d] }
  | _ => none }
def ChunkFramesWrongFalsely : Prop := chunkFramesRow.holds Try.pinned (OpenSpec.ofChange chunkFramesWrong)

/-- 'turnoutlaw07.ChunkNames': WHATEVER THE INPUT: true; the input reads as it did. -/
def chunkNamesSpec : ChangeSpec := { name := "chunkNames", fn := fun _ => fun
  | [] => { results := [.lit (.bool true)], args := [] }
  | _ => none }
def chunkNamesRow : OpenClaim := { program := "ytedkfhgpahjleaa", sum := "8cd214b252b133387014489b56157bf8ddc747915e8ea971a724be23227373b6", func := "turnout/turnoutlaw07.ChunkNames", spec := "chunkNames", unfollowed := true, recurses := true, apart := false }
def ChunkNamesSaid : Prop := chunkNamesRow.holds Try.pinned (OpenSpec.ofChange chunkNamesSpec)

/-- ITS FALSE NEIGHBOUR: 'it returns false'. Refute it at one input. -/
def chunkNamesWrong : ChangeSpec := { name := "chunkNames", fn := fun _ => fun
  | [] => { results := [.lit (.bool false)], args := [] }
  | _ => none }
def ChunkNamesWrongFalsely : Prop := chunkNamesRow.holds Try.pinned (OpenSpec.ofChange chunkNamesWrong)

/-- 'turnoutlaw07.ChunkFeeds': WHATEVER THE INPUT: true; the input reads as it did. -/
def chunkFeedsSpec : ChangeSpec := { name := "chunkFeeds", fn := fun _ => fun
  | [d] => { results := [.lit (.bool true)], args := [d] }
  | _ => none }
def chunkFeedsRow : OpenClaim := { program := "ytedkfhgpahjleaa", sum := "8cd214b252b133387014489b56157bf8ddc747915e8ea971a724be23227373b6", func := "turnout/turnoutlaw07.ChunkFeeds", spec := "chunkFeeds", unfollowed := true, recurses := true, apart := false }
def ChunkFeedsSaid : Prop := chunkFeedsRow.holds Try.pinned (OpenSpec.ofChange chunkFeedsSpec)

/-- ITS FALSE NEIGHBOUR: 'it returns false'. Refute it at one input. -/
def chunkFeedsWrong : ChangeSpec := { name := "chunkFeeds", fn := fun _ => fun
  | [d] => { results := [.lit (.bool false)], args := [d] }
  | _ => none }
def ChunkFeedsWrongFalsely : Prop := chunkFeedsRow.holds Try.pinned (OpenSpec.ofChange chunkFeedsWrong)

/-- 'turnoutlaw07.ChunkWays': WHATEVER THE INPUT: true; the input reads as it did. -/
def chunkWaysSpec : ChangeSpec := { name := "chunkWays", fn := fun _ => fun
  | [d] => { results := [.lit (.bool true)], args := [d] }
  | _ => none }
def chunkWaysRow : OpenClaim := { program := "ytedkfhgpahjleaa", sum := "8cd214b252b133387014489b56157bf8ddc747915e8ea971a724be23227373b6", func := "turnout/turnoutlaw07.ChunkWays", spec := "chunkWays", unfollowed := true, recurses := true, apart := false }
def ChunkWaysSaid : Prop := chunkWaysRow.holds Try.pinned (OpenSpec.ofChange chunkWaysSpec)

/-- ITS FALSE NEIGHBOUR: 'it returns false'. Refute it at one input. -/
def chunkWaysWrong : ChangeSpec := { name := "chunkWays", fn := fun _ => fun
  | [d] => { results := [.lit (.bool false)], args := [d] }
  | _ => none }
def ChunkWaysWrongFalsely : Prop := chunkWaysRow.holds Try.pinned (OpenSpec.ofChange chunkWaysWrong)

/-- 'turnoutlaw07.ChunkBack': WHATEVER THE INPUT: true; the input reads as it did. -/
def chunkBackSpec : ChangeSpec := { name := "chunkBack", fn := fun _ => fun
  | [d1, d2] => { results := [.lit (.bool true)], args := [d1, d2] }
  | _ => none }
def chunkBackRow : OpenClaim := { program := "ytedkfhgpahjleaa", sum := "8cd214b252b133387014489b56157bf8ddc747915e8ea971a724be23227373b6", func := "turnout/turnoutlaw07.ChunkBack", spec := "chunkBack", unfollowed := true, recurses := true, apart := false }
def ChunkBackSaid : Prop := chunkBackRow.holds Try.pinned (OpenSpec.ofChange chunkBackSpec)

/-- ITS FALSE NEIGHBOUR: 'it returns false'. Refute it at one input. -/
def chunkBackWrong : ChangeSpec := { name := "chunkBack", fn := fun _ => fun
  | [d1, d2] => { results := [.lit (.bool false)], args := [d1, d2] }
  | _ => none }
def ChunkBackWrongFalsely : Prop := chunkBackRow.holds Try.pinned (OpenSpec.ofChange chunkBackWrong)

/-- 'turnoutlaw07.ChunkWaits': WHATEVER THE INPUT: true; the input reads as it did. -/
def chunkWaitsSpec : ChangeSpec := { name := "chunkWaits", fn := fun _ => fun
  | [d] => { results := [.lit (.bool true)], args := [d] }
  | _ => none }
def chunkWaitsRow : OpenClaim := { program := "ytedkfhgpahjleaa", sum := "8cd214b252b133387014489b56157bf8ddc747915e8ea971a724be23227373b6", func := "turnout/turnoutlaw07.ChunkWaits", spec := "chunkWaits", unfollowed := true, recurses := true, apart := false }
def ChunkWaitsSaid : Prop := chunkWaitsRow.holds Try.pinned (OpenSpec.ofChange chunkWaitsSpec)

/-- ITS FALSE NEIGHBOUR: 'it returns false'. Refute it at one input. -/
def chunkWaitsWrong : ChangeSpec := { name := "chunkWaits", fn := fun _ => fun
  | [d] => { results := [.lit (.bool false)], args := [d] }
  | _ => none }
def ChunkWaitsWrongFalsely : Prop := chunkWaitsRow.holds Try.pinned (OpenSpec.ofChange chunkWaitsWrong)

/-- 'turnoutlaw07.ChunkShuts': WHATEVER THE INPUT: true; the input reads as it did. -/
def chunkShutsSpec : ChangeSpec := { name := "chunkShuts", fn := fun _ => fun
  | [d1, d2, d3, d4, d5, d6, d7] => { results := [.lit (.bool true)], args := [d1, d2, d3, d4, d5, d6, d7] }
  | _ => none }
def chunkShutsRow : OpenClaim := { program := "ytedkfhgpahjleaa", sum := "8cd214b252b133387014489b56157bf8ddc747915e8ea971a724be23227373b6", func := "turnout/turnoutlaw07.ChunkShuts", spec := "chunkShuts", unfollowed := true, recurses := true, apart := false }
def ChunkShutsSaid : Prop := chunkShutsRow.holds Try.pinned (OpenSpec.ofChange chunkShutsSpec)

/-- ITS FALSE NEIGHBOUR: 'it returns false'. Refute it at one input. -/
def chunkShutsWrong : ChangeSpec := { name := "chunkShuts", fn := fun _ => fun
  | [d1, d2, d3, d4, d5, d6, d7] => { results := [.lit (.bool false)], args := [d1, d2, d3, d4, d5, d6, d7] }
  | _ => none }
def ChunkShutsWrongFalsely : Prop := chunkShutsRow.holds Try.pinned (OpenSpec.ofChange chunkShutsWrong)

/- THE SECOND FORM. 'bulk': how many values and letters a reading holds, each counted each time it is reached (what is shared counts as often as it is met; a slice's spare places count too). A statement '..UptoSaid' is the law's where the arguments, and the package variables that the reading takes, are together of bulk at most 1048576: NARROWER than '..Said'. Prove '..Said' where nothing that the law and all that it calls make is longer than what came in: it says more and counts as full. Else prove '..UptoSaid'. A law counts once. -/
mutual
def uptoBulk {H : Type} : DataW H → Nat
  | .lit (.string bytes) => bytes.length + 1
  | .lit _ => 1
  | .nil => 1
  | .ptr d => uptoBulk d + 1
  | .slice elems spare => uptoBulkAll elems + uptoBulkAll spare + 1
  | .agg parts => uptoBulkAll parts + 1
  | .iface _ d => uptoBulk d + 1
  | .map entries => uptoBulkEntries entries + 1
  | .held _ => 1
def uptoBulkAll {H : Type} : List (DataW H) → Nat
  | [] => 0
  | d :: r => uptoBulk d + uptoBulkAll r
def uptoBulkEntries {H : Type} : List (Lit × DataW H) → Nat
  | [] => 0
  | x :: r => uptoBulkEntry x + uptoBulkEntries r
def uptoBulkEntry {H : Type} : Lit × DataW H → Nat
  | (.string bytes, d) => bytes.length + uptoBulk d + 1
  | (_, d) => uptoBulk d + 1
 end
def uptoSmall : (H : Type) → List (DataW H) → Bool := fun _ ds => decide (uptoBulkAll ds ≤ 1048576)
def OpenSpec.upto (s : _root_.Go.ChangeSpec) : _root_.Go.OpenSpec := { _root_.Go.OpenSpec.ofChange s with cond := some uptoSmall }

/-- 'turnoutlaw07.ChunkFrames', WHERE WHAT IT READS IS OF BULK AT MOST 1048576: true; the input reads as it did. -/
def chunkFramesUptoRow : OpenClaim := { program := "ytedkfhgpahjleaa", sum := "8cd214b252b133387014489b56157bf8ddc747915e8ea971a724be23227373b6", func := "turnout/turnoutlaw07.ChunkFrames", spec := "chunkFrames", unfollowed := true, recurses := true, apart := false, narrowed := true }
def ChunkFramesUptoSaid : Prop := chunkFramesUptoRow.holds Try.pinned (OpenSpec.upto chunkFramesSpec)

/-- 'turnoutlaw07.ChunkNames', WHERE WHAT IT READS IS OF BULK AT MOST 1048576: true; the input reads as it did. -/
def chunkNamesUptoRow : OpenClaim := { program := "ytedkfhgpahjleaa", sum := "8cd214b252b133387014489b56157bf8ddc747915e8ea971a724be23227373b6", func := "turnout/turnoutlaw07.ChunkNames", spec := "chunkNames", unfollowed := true, recurses := true, apart := false, narrowed := true }
def ChunkNamesUptoSaid : Prop := chunkNamesUptoRow.holds Try.pinned (OpenSpec.upto chunkNamesSpec)

/-- 'turnoutlaw07.ChunkFeeds', WHERE WHAT IT READS IS OF BULK AT MOST 1048576: true; the input reads as it did. -/
def chunkFeedsUptoRow : OpenClaim := { program := "ytedkfhgpahjleaa", sum := "8cd214b252b133387014489b56157bf8ddc747915e8ea971a724be23227373b6", func := "turnout/turnoutlaw07.ChunkFeeds", spec := "chunkFeeds", unfollowed := true, recurses := true, apart := false, narrowed := true }
def ChunkFeedsUptoSaid : Prop := chunkFeedsUptoRow.holds Try.pinned (OpenSpec.upto chunkFeedsSpec)

/-- 'turnoutlaw07.ChunkWays', WHERE WHAT IT READS IS OF BULK AT MOST 1048576: true; the input reads as it did. -/
def chunkWaysUptoRow : OpenClaim := { program := "ytedkfhgpahjleaa", sum := "8cd214b252b133387014489b56157bf8ddc747915e8ea971a724be23227373b6", func := "turnout/turnoutlaw07.ChunkWays", spec := "chunkWays", unfollowed := true, recurses := true, apart := false, narrowed := true }
def ChunkWaysUptoSaid : Prop := chunkWaysUptoRow.holds Try.pinned (OpenSpec.upto chunkWaysSpec)

/-- 'turnoutlaw07.ChunkBack', WHERE WHAT IT READS IS OF BULK AT MOST 1048576: true; the input reads as it did. -/
def chunkBackUptoRow : OpenClaim := { program := "ytedkfhgpahjleaa", sum := "8cd214b252b133387014489b56157bf8ddc747915e8ea971a724be23227373b6", func := "turnout/turnoutlaw07.ChunkBack", spec := "chunkBack", unfollowed := true, recurses := true, apart := false, narrowed := true }
def ChunkBackUptoSaid : Prop := chunkBackUptoRow.holds Try.pinned (OpenSpec.upto chunkBackSpec)

/-- 'turnoutlaw07.ChunkWaits', WHERE WHAT IT READS IS OF BULK AT MOST 1048576: true; the input reads as it did. -/
def chunkWaitsUptoRow : OpenClaim := { program := "ytedkfhgpahjleaa", sum := "8cd214b252b133387014489b56157bf8ddc747915e8ea971a724be23227373b6", func := "turnout/turnoutlaw07.ChunkWaits", spec := "chunkWaits", unfollowed := true, recurses := true, apart := false, narrowed := true }
def ChunkWaitsUptoSaid : Prop := chunkWaitsUptoRow.holds Try.pinned (OpenSpec.upto chunkWaitsSpec)

/-- 'turnoutlaw07.ChunkShuts', WHERE WHAT IT READS IS OF BULK AT MOST 1048576: true; the input reads as it did. -/
def chunkShutsUptoRow : OpenClaim := { program := "ytedkfhgpahjleaa", sum := "8cd214b252b133387014489b56157bf8ddc747915e8ea971a724be23227373b6", func := "turnout/turnoutlaw07.ChunkShuts", spec := "chunkShuts", unfollowed := true, recurses := true, apart := false, narrowed := true }
def ChunkShutsUptoSaid : Prop := chunkShutsUptoRow.holds Try.pinned (OpenSpec.upto chunkShutsSpec)

end Rows
end Go.Proofs.Ytedkfhgpahjleaa
