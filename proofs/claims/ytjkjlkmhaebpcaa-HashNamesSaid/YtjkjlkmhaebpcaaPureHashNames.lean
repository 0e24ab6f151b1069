/- The examples of the hash, and rows at their ends. Conditions: none. -/
import Derived.Test.YtjkjlkmhaebpcaaPHashNamesx1
import Derived.Test.YtjkjlkmhaebpcaaMath
namespace Go.Proofs.Ytjkjlkmhaebpcaa.Pure
open Go.RowKit Go.Proofs.Ytjkjlkmhaebpcaa.PHashNames Go.Proofs.YtjkjlkmhaebpcaaW.PrintWords Go.Proofs.YtjkjlkmhaebpcaaW.PrintLast Go.Proofs.YtjkjlkmhaebpcaaW.PrintMore Go.Proofs.Ytjkjlkmhaebpcaa.Math
namespace HHashNames
end HHashNames
theorem HashNames : turnoutlaw04_HashNames.Pure := ⟨30, by decide +kernel⟩
end Go.Proofs.Ytjkjlkmhaebpcaa.Pure
