/- The law of what may be a weight. Conditions: none. -/
import Derived.Test.YtpmckbpplkkgaaaClasses
set_option linter.unusedVariables false
set_option linter.unusedSimpArgs false
namespace Go.Proofs.Ytpmckbpplkkgaaa.Base
open Go Go.RowKit Go.Proofs.Ytpmckbpplkkgaaa.Mem Go.Proofs.YtpmckbpplkkgaaaW.PrintWords Go.Proofs.Ytpmckbpplkkgaaa.Fl
theorem cls_rest (n : Nat) (hn : n < 18446744073709551616) : (cls n = 5 → n = 9218868437227405312) ∧ (cls n = 6 → 9223372036854775808 ≤ n ∧ n % 9223372036854775808 ≠ 0 ∧ ¬ 9218868437227405312 < n % 9223372036854775808) ∧ (cls n = 7 → 9218868437227405312 < n % 9223372036854775808) := by
  have hc : cls n = if 9218868437227405312 < n % 9223372036854775808 then 7 else if n % 9223372036854775808 = 0 then (if 9223372036854775808 ≤ n then 2 else 1) else if 9223372036854775808 ≤ n then 6 else if n % 9223372036854775808 = 9218868437227405312 then 5 else if n % 9223372036854775808 < 4503599627370496 then 3 else 4 := rfl
  rw [hc]
  clear hc
  by_cases c1 : 9218868437227405312 < n % 9223372036854775808
  · rw [if_pos c1]; exact ⟨fun h => by omega, fun h => by omega, fun _ => c1⟩
  · rw [if_neg c1]
    by_cases c2 : n % 9223372036854775808 = 0
    · rw [if_pos c2]
      by_cases c3 : 9223372036854775808 ≤ n
      · rw [if_pos c3]; exact ⟨fun h => by omega, fun h => by omega, fun h => by omega⟩
      · rw [if_neg c3]; exact ⟨fun h => by omega, fun h => by omega, fun h => by omega⟩
    · rw [if_neg c2]
      by_cases c3 : 9223372036854775808 ≤ n
      · rw [if_pos c3]; exact ⟨fun h => by omega, fun h => ⟨c3, c2, c1⟩, fun h => by omega⟩
      · rw [if_neg c3]
        by_cases c4 : n % 9223372036854775808 = 9218868437227405312
        · rw [if_pos c4]; exact ⟨fun _ => by omega, fun h => by omega, fun h => by omega⟩
        · rw [if_neg c4]
          by_cases c5 : n % 9223372036854775808 < 4503599627370496
          · rw [if_pos c5]; exact ⟨fun h => by omega, fun h => by omega, fun h => by omega⟩
          · rw [if_neg c5]; exact ⟨fun h => by omega, fun h => by omega, fun h => by omega⟩
theorem lt_pos (a b : Nat) (ha : a ≤ INF) (hb : b ≤ INF) : (FloatKind.f64.format.order a b == some .lt) = decide (a < b) := by
  obtain ⟨a1, a2⟩ := K_pos a ha
  obtain ⟨b1, b2⟩ := K_pos b hb
  rw [ord_key a b (by rw [a2]; exact ha) (by rw [b2]; exact hb), cmp_lt, a1, b1]
  exact decide_eq_decide.2 ⟨fun h => by omega, fun h => by omega⟩
theorem le_pos (a b : Nat) (ha : a ≤ INF) (hb : b ≤ INF) : (FloatKind.f64.format.order a b == some .lt || FloatKind.f64.format.order a b == some .eq) = decide (a ≤ b) := by
  obtain ⟨a1, a2⟩ := K_pos a ha
  obtain ⟨b1, b2⟩ := K_pos b hb
  rw [ord_key a b (by rw [a2]; exact ha) (by rw [b2]; exact hb), cmp_lt, cmp_eq, a1, b1, ← Bool.decide_or]
  exact decide_eq_decide.2 ⟨fun h => by omega, fun h => by omega⟩
theorem ge_pos (a b : Nat) (ha : a ≤ INF) (hb : b ≤ INF) : (FloatKind.f64.format.order a b == some .gt || FloatKind.f64.format.order a b == some .eq) = decide (b ≤ a) := by
  obtain ⟨a1, a2⟩ := K_pos a ha
  obtain ⟨b1, b2⟩ := K_pos b hb
  rw [ord_key a b (by rw [a2]; exact ha) (by rw [b2]; exact hb), cmp_gt, cmp_eq, a1, b1, ← Bool.decide_or]
  exact decide_eq_decide.2 ⟨fun h => by omega, fun h => by omega⟩
end Go.Proofs.Ytpmckbpplkkgaaa.Base
namespace Go.Proofs.Ytpmckbpplkkgaaa.MayLaw
open Go Go.RowKit
end Go.Proofs.Ytpmckbpplkkgaaa.MayLaw
