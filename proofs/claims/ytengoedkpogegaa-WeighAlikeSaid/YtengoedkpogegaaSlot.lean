/- The slot of a number in a row, as hash has it. Conditions: as the contract says. -/
import Derived.Test.YtengoedkpogegaaBase
import Derived.Test.YtengoedkpogegaaWMore
set_option linter.unusedVariables false
set_option linter.unusedSimpArgs false
namespace Go.Proofs.Ytengoedkpogegaa.Base
open Go Go.RowKit Go.Proofs.Ytengoedkpogegaa.Mem Go.Proofs.YtengoedkpogegaaW.PrintWords
theorem slot_num (h n : Nat) (hh : h < 4294967296) (hn : n ≤ 1000) : wrap64 (IntKind.u64.wrap ((h : Int) * (n : Int)) / 4294967296) = ((h * n / 4294967296 : Nat) : Int) := by
  have hk : h * n ≤ 4294967296 * 1000 := Nat.mul_le_mul (Nat.le_of_lt hh) hn
  have hw : ∀ x : Int, IntKind.u64.wrap x = x % 18446744073709551616 := fun x => by simp [IntKind.wrap, IntKind.signed, IntKind.bits]
  rw [hw, ← Int.natCast_mul]
  generalize h * n = k at *
  unfold wrap64
  omega
theorem slot_any (h n : Nat) (hh : h < 4294967296) (hn0 : 0 < n) (hn : n ≤ 1000) (w : World) : Calls Try.prog 23 #[.int .u32 (h : Int), .int .i64 (n : Int)] w fun e w' => e = .returned (.int .i64 ((h * n / 4294967296 : Nat) : Int)) ∧ w = w' := by
  have r1 : ¬ (2147483647 : Int) < (n : Int) := by omega
  have r2 : (0 : Int) < (n : Int) := by omega
  go_enter Try.func23, Try.ntmps23
  go_wp2_with fail
  go_ret
  exact ⟨congrArg (fun x => Ending.returned (Value.int .i64 x)) (slot_num h n hh hn), rfl⟩
end Go.Proofs.Ytengoedkpogegaa.Base
