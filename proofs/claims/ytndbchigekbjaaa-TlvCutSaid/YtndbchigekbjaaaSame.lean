/- That attributes are the same as themselves, by the plain comparison. Conditions: as the contract says. -/
import Derived.Test.YtndbchigekbjaaaConv
import Derived.Test.YtndbchigekbjaaaPTlvCodesx1
set_option linter.unusedVariables false
set_option linter.unusedSimpArgs false
namespace Go.Proofs.Ytndbchigekbjaaa.Base
open Go Go.RowKit Go.Proofs.Ytndbchigekbjaaa.Mem Go.Proofs.YtndbchigekbjaaaW.PrintWords Go.Proofs.YtndbchigekbjaaaW.PrintMore Go.Proofs.Ytndbchigekbjaaa.PTlvCodes
attribute [local go_sem high] eqA48
def SR (n : Nat) (w : World) (t : Value) (wr : World) : Prop := ∃ i : Nat, t = .int .i64 (i : Int) ∧ i ≤ n ∧ ∃ m, wr = w.drewN m
set_option maxHeartbeats 1600000 in
theorem same48_any (A0 : Option Addr) (c0 : Nat) (l : List S48) (A1 : Option Addr) (c1 : Nat) (w : World) (h0 : Kd.C k48 w A0 l.length l) (hc0 : l.length ≤ c0) (h1 : Kd.C k48 w A1 l.length l) (hc1 : l.length ≤ c1) (hl : l.length < 1000000000) :
    Calls Try.prog 17 #[.slice A0 l.length c0, .slice A1 l.length c1] w fun e w' => e = .returned (.bool true) ∧ Below w.heap.size w w' := by
  have hR : SR l.length w (.int .i64 0) w := ⟨0, rfl, by omega, 0, rfl⟩
  have hu48 := Try.underlying48
  have HL := Lib.hid h0
  have HM := Lib.hid h1
  clear h0 h1
  go_enter Try.func17, Try.ntmps17
  go_wp2_with fail
  go_loopw [5] (fun t wr => SR l.length w t wr) (fun t _ => l.length - (intOf t).toNat)
  case atStart => exact hR
  case round =>
    clear hR
    obtain ⟨i, rfl, hi, m, rfl⟩ := hrel
    by_cases hgo : i < l.length
    · have k0 : (0 : Int) ≤ (i : Int) := by omega
      have k1 : (i : Int) < (l.length : Int) := by omega
      obtain ⟨ad, rfl, e0, e1⟩ := at_T48 HL.out (i : Int) k0 k1
      obtain ⟨ad', rfl, f0, f1⟩ := at_T48 HM.out (i : Int) k0 k1
      rw [Int.toNat_natCast] at e0 e1 f0 f1
      generalize rd_T48 l (i : Int) = x at *
      go_wp2_with fail
      go_quiet (fail)
      go_wp2_with fail
      go_roundw
      case rel => exact ⟨i + 1, by go_num, by omega, _, rfl⟩
      case measure => simp [intOf]; omega
    · have k1 : ¬ (i : Int) < (l.length : Int) := by omega
      go_wp2_with fail
      go_ret
      exact ⟨rfl, pw_below_drewN (Below.refl _ _) m⟩
end Go.Proofs.Ytndbchigekbjaaa.Base
