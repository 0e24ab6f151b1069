-- PRINTED BY print.sh 35421559b90ae4d0a3588c463048766b98c2df88dd9212a6774a882060cdf62d: not written by this session
import Derived.Test.YtedkfhgpahjleaaProg
import Derived.Below
import Derived.Deep.Draws
import Derived.Deep.AppendLies
import Derived.Maps.AppendAt
import Derived.OwnWalk
import Derived.Laws.BytesArg
import Derived.Laws.MakeOwn
import Derived.Laws.OwnMore
import Derived.Deep.OwnRows
import Derived.Tactics
import Derived.Lib.ConvBytes
import Derived.Laws.Slices
import Derived.WalkKit
import Derived.KernelRfl
import Derived.RowKit3
import Derived.Deep.LoopGhost
import Derived.Deep.QuietTactic
import Derived.BigQuiet
import Derived.WideLaws
import Derived.Deep.DeepCutAuto
import Derived.Deep.CutBlock
import Derived.Deep.RegionHeld3
import Derived.Laws.Rows
import Derived.Lib.AppendStr
import Derived.ArgAppend
import Derived.Laws.IdiomCopy
import Derived.OrdersHeld
import Derived.Laws.BitsLemmas
import Derived.RowKit
import Derived.Test.YtedkfhgpahjleaaWWords
import Derived.Test.YtedkfhgpahjleaaWLast
import Derived.Test.YtedkfhgpahjleaaWTab
import Derived.Test.YtedkfhgpahjleaaWFour
import Derived.Test.YtedkfhgpahjleaaWQPut
import Derived.Test.YtedkfhgpahjleaaWApart
import Derived.Test.YtedkfhgpahjleaaWArr
import Derived.Test.YtedkfhgpahjleaaWZeros
import Derived.Test.YtedkfhgpahjleaaWFoot
import Derived.Test.YtedkfhgpahjleaaWKept
import Derived.Test.YtedkfhgpahjleaaWShare
import Derived.Test.YtedkfhgpahjleaaWN
import Derived.Test.YtedkfhgpahjleaaWFootNe
import Derived.Test.YtedkfhgpahjleaaWAt
import Derived.Test.YtedkfhgpahjleaaWEqStruct
import Derived.Test.YtedkfhgpahjleaaWRepsOne
import Derived.Test.YtedkfhgpahjleaaWInv
import Derived.Test.YtedkfhgpahjleaaWInvWords
import Derived.Test.YtedkfhgpahjleaaWGuard
import Derived.Test.YtedkfhgpahjleaaWNEv
import Derived.Test.YtedkfhgpahjleaaWMore
namespace Go.Proofs.Ytedkfhgpahjleaa.PChunkShuts
open Go.RowKit Go.Proofs.YtedkfhgpahjleaaW.PrintWords Go.Proofs.YtedkfhgpahjleaaW.PrintLast Go.Proofs.YtedkfhgpahjleaaW.PrintMore
attribute [local go_sem] max2_int min2_int max_two min_two max_three min_three max_four min_four   -- for this text's walks alone
set_option linter.unusedVariables false
set_option linter.unusedSimpArgs false



def errW : Option Int → Value
  | none => .nilIface
  | some c => .iface 0 (.int .i64 c)
theorem errW_none : errW none = .nilIface := rfl
theorem errW_some (c : Int) : errW (some c) = .iface 0 (.int .i64 c) := rfl

theorem info5 : (Try.prog.info? 5).map (fun i => (i.zero, i.size, i.bytes)) = some (some (.int .u8 0), 1, 1) := by kernel_rfl
-- the values' own types

end Go.Proofs.Ytedkfhgpahjleaa.PChunkShuts
