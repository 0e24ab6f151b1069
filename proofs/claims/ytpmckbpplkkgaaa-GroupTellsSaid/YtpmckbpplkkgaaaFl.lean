/- Words of floats: how they compare. Plain lemmas over the model's floats; no condition. -/
import Ieee.Arith
set_option linter.unusedVariables false
set_option linter.unusedSimpArgs false
namespace Go.Proofs.Ytpmckbpplkkgaaa.Fl
open Ieee
abbrev B : Nat := 4503599627370496
abbrev INF : Nat := 9218868437227405312
abbrev SW : Nat := 9223372036854775808
theorem hB : double.binade = B := by decide
theorem hINF : double.infRung = INF := by decide
theorem hSW : double.signWeight = SW := by decide
theorem hL : double.leastPlace = -1074 := by decide
/-- A rung's magnitude, in units of the least place. -/
def U (r : Nat) : Nat := if r < B then r else (B + r % B) * 2 ^ (r / B - 1)
def neg (n : Nat) : Bool := n / SW % 2 == 1
/-- A word's key: its rung, with its sign. -/
def K (n : Nat) : Int := if neg n then -((n % SW : Nat) : Int) else ((n % SW : Nat) : Int)
theorem read_eq (n : Nat) : double.read n = if n % SW < B then .number (neg n) (n % SW) (-1074) else if n % SW < INF then .number (neg n) (B + n % SW % B) (-1074 + (n % SW / B - 1 : Nat)) else if n % SW = INF then .infinity (neg n) else .nan (neg n) (n % SW - INF) := by
  unfold Format.read
  rw [hB, hINF, hSW, hL]
  rfl
theorem read_fin (n : Nat) (h : n % SW < INF) : ∃ m p, double.read n = .number (neg n) m p ∧ -1074 ≤ p ∧ m * 2 ^ (p + 1074).toNat = U (n % SW) := by
  rw [read_eq]
  unfold U
  by_cases c : n % SW < B
  · rw [if_pos c, if_pos c]
    exact ⟨_, _, rfl, by omega, by simp⟩
  · rw [if_neg c, if_pos h, if_neg c]
    refine ⟨_, _, rfl, by omega, ?_⟩
    rw [show (-1074 + ((n % SW / B - 1 : Nat) : Int) + 1074).toNat = n % SW / B - 1 by omega]
theorem U_lt (r s : Nat) (h : r < s) : U r < U s := by
  unfold U
  by_cases c1 : r < B
  · rw [if_pos c1]
    by_cases c2 : s < B
    · rw [if_pos c2]; exact h
    · rw [if_neg c2]
      have h1 : 1 ≤ 2 ^ (s / B - 1) := Nat.one_le_two_pow
      have h2 : B + s % B ≤ (B + s % B) * 2 ^ (s / B - 1) := Nat.le_mul_of_pos_right _ h1
      omega
  · have c2 : ¬ s < B := by omega
    rw [if_neg c1, if_neg c2]
    have hm1 : r % B < B := Nat.mod_lt _ (by decide)
    have hm2 : s % B < B := Nat.mod_lt _ (by decide)
    have hd : r / B ≤ s / B := Nat.div_le_div_right (by omega)
    have e1 := Nat.div_add_mod r B
    have e2 := Nat.div_add_mod s B
    by_cases c3 : r / B = s / B
    · rw [c3]
      refine Nat.mul_lt_mul_of_pos_right ?_ (Nat.two_pow_pos _)
      rw [c3] at e1
      omega
    · have hr1 : 1 ≤ r / B := Nat.div_pos (by omega) (by decide)
      have hq : r / B - 1 + 1 ≤ s / B - 1 := by omega
      have h1 : (B + r % B) * 2 ^ (r / B - 1) < (B + B) * 2 ^ (r / B - 1) := Nat.mul_lt_mul_of_pos_right (by omega) (Nat.two_pow_pos _)
      have h2 : (B + B) * 2 ^ (r / B - 1) = B * 2 ^ (r / B - 1 + 1) := by rw [Nat.pow_succ, Nat.add_mul, Nat.mul_comm (2 ^ (r / B - 1)) 2, Nat.mul_left_comm B 2]; omega
      have h3 : B * 2 ^ (r / B - 1 + 1) ≤ B * 2 ^ (s / B - 1) := Nat.mul_le_mul_left _ (Nat.pow_le_pow_right (by decide) hq)
      have h4 : B * 2 ^ (s / B - 1) ≤ (B + s % B) * 2 ^ (s / B - 1) := Nat.mul_le_mul_right _ (by omega)
      omega
theorem U_le (r s : Nat) (h : r ≤ s) : U r ≤ U s := by
  rcases Nat.lt_or_ge r s with h1 | h1
  · exact Nat.le_of_lt (U_lt r s h1)
  · rw [show r = s by omega]; exact Nat.le_refl _
def sg (s : Bool) (u : Nat) : Int := if s then -(u : Int) else (u : Int)
theorem cmp_scale (x y c : Int) (hc : 0 < c) : compare (x * c) (y * c) = compare x y := by
  simp only [compare, compareOfLessAndEq]
  have h1 : x * c < y * c ↔ x < y := ⟨fun h => Int.lt_of_mul_lt_mul_right h (Int.le_of_lt hc), fun h => Int.mul_lt_mul_of_pos_right h hc⟩
  have h2 : x * c = y * c ↔ x = y := ⟨fun h => Int.eq_of_mul_eq_mul_right (by omega) h, fun h => by rw [h]⟩
  simp only [h1, h2]
theorem signed_eq (s : Bool) (m k : Nat) : signed s m k = sg s (m * 2 ^ k) := by
  unfold signed sg
  rw [Nat.shiftLeft_eq]
theorem sg_mul (s : Bool) (u c : Nat) : sg s u * (c : Int) = sg s (u * c) := by
  unfold sg
  cases s
  · simp only [Bool.false_eq_true, if_false]; rw [Int.natCast_mul]
  · simp only [if_true]; rw [Int.natCast_mul, Int.neg_mul]
theorem order_num (s t : Bool) (m n : Nat) (i j : Int) (hi : -1074 ≤ i) (hj : -1074 ≤ j) :
    Datum.order (.number s m i) (.number t n j) = some (compare (sg s (m * 2 ^ (i + 1074).toNat)) (sg t (n * 2 ^ (j + 1074).toNat))) := by
  unfold Datum.order
  simp only
  rw [signed_eq, signed_eq]
  have hb : -1074 ≤ min i j := by omega
  rw [← cmp_scale _ _ ((2 ^ (min i j + 1074).toNat : Nat) : Int) (by have := Nat.two_pow_pos (min i j + 1074).toNat; omega), sg_mul, sg_mul, Nat.mul_assoc, Nat.mul_assoc, ← Nat.pow_add, ← Nat.pow_add]
  rw [show (i - min i j).toNat + (min i j + 1074).toNat = (i + 1074).toNat by omega, show (j - min i j).toNat + (min i j + 1074).toNat = (j + 1074).toNat by omega]
theorem cmp_U (s t : Bool) (a b : Nat) : compare (sg s (U a)) (sg t (U b)) = compare (sg s a) (sg t b) := by
  have hp : ∀ a, a = 0 ∨ 0 < U a := by
    intro a
    rcases Nat.eq_zero_or_pos a with h | h
    · exact .inl h
    · have := U_lt 0 a h; exact .inr (by omega)
  have h0 : U 0 = 0 := by unfold U; rfl
  have hab : (a < b ∧ U a < U b) ∨ (a = b ∧ U a = U b) ∨ (b < a ∧ U b < U a) := by
    rcases Nat.lt_trichotomy a b with h | h | h
    · exact .inl ⟨h, U_lt _ _ h⟩
    · exact .inr (.inl ⟨h, by rw [h]⟩)
    · exact .inr (.inr ⟨h, U_lt _ _ h⟩)
  have ha := hp a
  have hb := hp b
  have ha0 : a = 0 → U a = 0 := fun h => by rw [h]; exact h0
  have hb0 : b = 0 → U b = 0 := fun h => by rw [h]; exact h0
  simp only [compare, compareOfLessAndEq]
  have e1 : sg s (U a) < sg t (U b) ↔ sg s a < sg t b := by
    unfold sg
    cases s <;> cases t <;> simp only [Bool.false_eq_true, if_false, if_true] <;> omega
  have e2 : sg s (U a) = sg t (U b) ↔ sg s a = sg t b := by
    unfold sg
    cases s <;> cases t <;> simp only [Bool.false_eq_true, if_false, if_true] <;> omega
  simp only [e1, e2]
/-- Words that are numbers or infinities stand as their keys do. -/
theorem order_key (a b : Nat) (ha : a % SW ≤ INF) (hb : b % SW ≤ INF) : double.order a b = some (compare (K a) (K b)) := by
  unfold Format.order
  have kk : ∀ n, K n = sg (neg n) (n % SW) := fun n => rfl
  have hi : ∀ n, ¬ n % SW < INF → n % SW ≤ INF → double.read n = .infinity (neg n) ∧ n % SW = INF := by
    intro n h1 h2
    have h3 : n % SW = INF := by omega
    rw [read_eq, if_neg (by rw [h3]; decide), if_neg h1, if_pos h3]
    exact ⟨rfl, h3⟩
  by_cases ca : a % SW < INF
  · obtain ⟨m, i, e1, e2, e3⟩ := read_fin a ca
    by_cases cb : b % SW < INF
    · obtain ⟨n, j, f1, f2, f3⟩ := read_fin b cb
      rw [e1, f1, order_num _ _ _ _ _ _ e2 f2, e3, f3, cmp_U, kk, kk]
    · obtain ⟨f1, f2⟩ := hi b cb hb
      rw [e1, f1, kk, kk, f2]
      unfold Datum.order sg
      simp only [compare, compareOfLessAndEq]
      generalize a % SW = r at *
      cases neg a <;> cases neg b <;> simp only [Bool.false_eq_true, if_false, if_true]
      · rw [if_pos (by omega)]
      · rw [if_neg (by omega), if_neg (by omega)]
      · rw [if_pos (by omega)]
      · rw [if_neg (by omega), if_neg (by omega)]
  · obtain ⟨e1, e2⟩ := hi a ca ha
    by_cases cb : b % SW < INF
    · obtain ⟨n, j, f1, f2, f3⟩ := read_fin b cb
      rw [e1, f1, kk, kk, e2]
      unfold Datum.order sg
      simp only [compare, compareOfLessAndEq]
      generalize b % SW = r at *
      cases neg a <;> cases neg b <;> simp only [Bool.false_eq_true, if_false, if_true]
      · rw [if_neg (by omega), if_neg (by omega)]
      · rw [if_neg (by omega), if_neg (by omega)]
      · rw [if_pos (by omega)]
      · rw [if_pos (by omega)]
    · obtain ⟨f1, f2⟩ := hi b cb hb
      rw [e1, f1, kk, kk, e2, f2]
      unfold Datum.order sg
      cases neg a <;> cases neg b <;> rfl
theorem order_nan (a b : Nat) (h : INF < a % SW ∨ INF < b % SW) : double.order a b = none := by
  unfold Format.order
  have hn : ∀ n, INF < n % SW → ∃ s t, double.read n = .nan s t := by
    intro n h
    rw [read_eq, if_neg (by have : B < INF := by decide
                            omega), if_neg (by omega), if_neg (by omega)]
    exact ⟨_, _, rfl⟩
  rcases h with h | h
  · obtain ⟨s, t, e⟩ := hn a h
    rw [e]
    cases double.read b <;> rfl
  · obtain ⟨s, t, e⟩ := hn b h
    rw [e]
    cases double.read a <;> rfl
end Go.Proofs.Ytpmckbpplkkgaaa.Fl
