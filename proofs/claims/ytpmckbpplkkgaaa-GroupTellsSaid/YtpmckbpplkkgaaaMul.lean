/- Products, and what is divided by 2^32. Plain lemmas over the model's floats; no condition but those said. -/
import Derived.Test.YtpmckbpplkkgaaaSum
set_option linter.unusedVariables false
set_option linter.unusedSimpArgs false
namespace Go.Proofs.Ytpmckbpplkkgaaa.Fl
open Ieee
theorem spec_scale (r X E c : Nat) (hc : 0 < c) (h : Spec r (X * c) (E * c)) : Spec r X E := by
  obtain ⟨h1, h2, h3⟩ := h
  have a1 : ∀ A, A * E ≤ 2 * X ↔ A * (E * c) ≤ 2 * (X * c) := fun A => by
    rw [← Nat.mul_assoc, ← Nat.mul_assoc]
    exact ⟨fun h => Nat.mul_le_mul_right _ h, fun h => Nat.le_of_mul_le_mul_right h hc⟩
  have a2 : ∀ A, 2 * X ≤ A * E ↔ 2 * (X * c) ≤ A * (E * c) := fun A => by
    rw [← Nat.mul_assoc, ← Nat.mul_assoc]
    exact ⟨fun h => Nat.mul_le_mul_right _ h, fun h => Nat.le_of_mul_le_mul_right h hc⟩
  have a3 : ∀ A, A * E = 2 * X → A * (E * c) = 2 * (X * c) := fun A h => by
    rw [← Nat.mul_assoc, ← Nat.mul_assoc, h]
  refine ⟨h1, fun h0 => ?_, fun h0 => ?_⟩
  · exact ⟨(a1 _).2 (h2 h0).1, fun h => (h2 h0).2 (a3 _ h)⟩
  · exact ⟨(a2 _).2 (h3 h0).1, fun h => (h3 h0).2 (a3 _ h.symm).symm⟩
/-- 2 to the number of places. -/
def L74 : Nat := 1074
def E74 : Nat := 2 ^ L74
theorem hL74 : ((L74 : Nat) : Int) = 1074 := rfl
theorem E74_pos : 0 < E74 := Nat.two_pow_pos _
def mulW (x y : Nat) : Nat := (double.mul x y).getD 0
theorem mul_spec (x y : Nat) (hx : x < INF) (hy : y < INF) : double.mul x y = some (mulW x y) ∧ Spec (mulW x y) (U x * U y) E74 := by
  obtain ⟨t, n, j, f1, f2, f3, _, f5⟩ := read_good y (.inl hy)
  obtain ⟨s, m, i, e1, e2, e3, _, e5⟩ := read_good x (.inl hx)
  obtain rfl := e5 hx
  obtain rfl := f5 hy
  rw [V_pos x hx] at e3
  rw [V_pos y hy] at f3
  have k1 : double.mul x y = some (double.nearest false (m * n) (i + j)) := by
    unfold Format.mul
    rw [e1, f1]
    rfl
  have ha : mulW x y = double.nearest false (m * n) (i + j) := by unfold mulW; rw [k1]; rfl
  refine ⟨by rw [ha]; exact k1, ?_⟩
  have k2 : m * n * 2 ^ (i + j + 1074 + ((L74 : Nat) : Int)).toNat = U x * U y := by
    rw [← e3, ← f3, show (i + j + 1074 + ((L74 : Nat) : Int)).toNat = (i + 1074).toNat + (j + 1074).toNat by rw [hL74]; omega, Nat.pow_add]
    rw [Nat.mul_assoc, Nat.mul_left_comm n, ← Nat.mul_assoc m]
  rw [ha, ← k2]
  by_cases hT : m * n = 0
  · rw [hT, nearest_zero, word_false, Nat.zero_mul]
    have := spec_self 0 E74 E74_pos (Nat.zero_le _)
    rw [show U 0 = 0 from by decide, Nat.zero_mul] at this
    exact this
  · rw [nearest_eq _ _ _ hT, word_false]
    exact near_spec false (m * n) (i + j) L74 hT (by rw [hL74]; omega)
abbrev W32 : Nat := 4751297606875873280
def divW (x : Nat) : Nat := (double.div x W32).getD 0
theorem read_lt (x : Nat) (hx : x < INF) : ∃ m i, double.read x = .number false m i ∧ -1074 ≤ i ∧ m * 2 ^ (i + 1074).toNat = U x ∧ m < 2 * B := by
  have hm : x % SW = x := Nat.mod_eq_of_lt (Nat.lt_trans hx (by decide))
  have hn : neg x = false := by
    have h1 : x / SW = 0 := Nat.div_eq_of_lt (Nat.lt_trans hx (by decide))
    unfold neg
    rw [h1]
    rfl
  rw [read_eq, hm, hn]
  unfold U
  by_cases c : x < B
  · rw [if_pos c, if_pos c]
    exact ⟨_, _, rfl, by omega, by simp, Nat.lt_of_lt_of_le c (by decide)⟩
  · rw [if_neg c, if_pos hx, if_neg c]
    refine ⟨_, _, rfl, by omega, ?_, ?_⟩
    · rw [show (-1074 + ((x / B - 1 : Nat) : Int) + 1074).toNat = x / B - 1 by omega]
    · have := Nat.mod_lt x (show 0 < B by decide)
      rw [Nat.two_mul]
      exact Nat.add_lt_add_left this _
theorem div_spec (x : Nat) (hx : x < INF) : double.div x W32 = some (divW x) ∧ Spec (divW x) (U x) (2 ^ 32) := by
  obtain ⟨m, i, e1, e2, e3, e4⟩ := read_lt x hx
  have hw : double.read W32 = .number false B (-20) := by decide +kernel
  have hlog : B.log2 = 52 := by decide +kernel
  have hB52 : B = 2 ^ 52 := by decide
  have hm52 : m.log2 ≤ 52 := by
    by_cases h0 : m = 0
    · subst h0; decide
    · rcases Nat.lt_or_ge 52 m.log2 with h | h
      · have h1 := Nat.log2_self_le h0
        have h2 : 2 ^ 53 ≤ 2 ^ m.log2 := Nat.pow_le_pow_right (by decide) h
        have h3 : 2 * B = 2 ^ 53 := by decide
        rw [h3] at e4
        exact absurd (Nat.lt_of_lt_of_le e4 (Nat.le_trans h2 h1)) (Nat.lt_irrefl _)
      · exact h
  obtain ⟨more, hmore⟩ : ∃ more, more = 54 + 52 - m.log2 := ⟨_, rfl⟩
  have hmm : 52 + (more - 52) = more := by omega
  have hdiv : m <<< more / B = m * 2 ^ (more - 52) := by
    rw [Nat.shiftLeft_eq, hB52, ← hmm, Nat.pow_add, hmm, Nat.mul_left_comm, Nat.mul_div_cancel_left _ (Nat.two_pow_pos _)]
  have hmod : m <<< more % B = 0 := by
    rw [Nat.shiftLeft_eq, hB52, ← hmm, Nat.pow_add, Nat.mul_left_comm]
    exact Nat.mul_mod_right _ _
  have k1 : double.div x W32 = some (double.nearest false (2 * (m * 2 ^ (more - 52))) (i - (-20) - more - 1)) := by
    unfold Format.div
    rw [e1, hw]
    show (Datum.quotient 54 (.number false m i) (.number false B (-20))).map double.write = _
    unfold Datum.quotient
    simp only
    rw [if_neg (by decide), hlog, ← hmore, hdiv, hmod]
    rfl
  have ha : divW x = double.nearest false (2 * (m * 2 ^ (more - 52))) (i - (-20) - more - 1) := by unfold divW; rw [k1]; rfl
  refine ⟨by rw [ha]; exact k1, ?_⟩
  refine spec_scale _ _ _ (2 ^ 200) (Nat.two_pow_pos _) ?_
  have k2 : 2 * (m * 2 ^ (more - 52)) * 2 ^ (i - (-20) - more - 1 + 1074 + ((232 : Nat) : Int)).toNat = U x * 2 ^ 200 := by
    rw [← e3, Nat.mul_assoc m, ← Nat.pow_add, Nat.mul_left_comm 2 m, Nat.mul_assoc m, show 2 * 2 ^ (more - 52) = 2 ^ (more - 52 + 1) by rw [Nat.pow_succ, Nat.mul_comm], ← Nat.pow_add]
    congr 2
    omega
  rw [ha, ← k2, ← Nat.pow_add]
  by_cases hT : 2 * (m * 2 ^ (more - 52)) = 0
  · rw [hT, nearest_zero, word_false, Nat.zero_mul]
    have := spec_self 0 (2 ^ (32 + 200)) (Nat.two_pow_pos _) (Nat.zero_le _)
    rw [show U 0 = 0 from by decide, Nat.zero_mul] at this
    exact this
  · rw [nearest_eq _ _ _ hT, word_false]
    exact near_spec false _ _ 232 hT (by omega)
/-- A whole number as a word. -/
def intW (h : Nat) : Nat := double.nearest false h 0
theorem int_spec (h : Nat) : Spec (intW h) (h * E74) 1 := by
  unfold intW
  by_cases hT : h = 0
  · subst hT
    rw [nearest_zero, word_false, Nat.zero_mul]
    exact spec_self 0 1 (by decide) (Nat.zero_le _)
  · rw [nearest_eq _ _ _ hT, word_false]
    have := near_spec false h 0 0 hT (by omega)
    rw [show ((0 : Int) + 1074 + ((0 : Nat) : Int)).toNat = L74 from rfl, Nat.pow_zero] at this
    exact this
end Go.Proofs.Ytpmckbpplkkgaaa.Fl
