/- The slot of any number in any row is the reference's. Conditions: none beyond the row's own. -/
import Derived.Test.YtjkjlkmhaebpcaaPHashSlotsx1
import Derived.Test.YtjkjlkmhaebpcaaMath
namespace Go.Proofs.Ytjkjlkmhaebpcaa.Pure
open Go.RowKit Go.Proofs.Ytjkjlkmhaebpcaa.PHashSlots Go.Proofs.YtjkjlkmhaebpcaaW.PrintWords Go.Proofs.YtjkjlkmhaebpcaaW.PrintLast Go.Proofs.YtjkjlkmhaebpcaaW.PrintMore Go.Proofs.Ytjkjlkmhaebpcaa.Math
namespace HHashSlots
theorem awake_some (k : Nat) (h : 20 ≤ k) : turnoutlaw04_awake.f k = some true := at_rounds turnoutlaw04_awake.mono h (by decide +kernel)
end HHashSlots
theorem HashSlots : turnoutlaw04_HashSlots.Pure := by
  intro a n ha hn
  have ba := wf_u32 ha
  have bn := wf_i64 hn
  refine ⟨20, ?_⟩
  unfold turnoutlaw04_HashSlots.f
  rw [HHashSlots.awake_some 20 (by omega)]
  unfold hash_Slot.f turnoutref04_Slot.f
  by_cases h : n < 1
  · rw [if_pos h, slot_low a n ba.1 ba.2 h]; rfl
  · rw [if_neg h]
    simp only [Option.bind_some]
    rw [slot_same a n ba.1 ba.2 (by omega), if_pos rfl]
end Go.Proofs.Ytjkjlkmhaebpcaa.Pure
