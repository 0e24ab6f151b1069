/- Sums of words that are numbers above nought, or noughts. Plain lemmas over the model's floats; no condition but those said. -/
import Derived.Test.YtpmckbpplkkgaaaNear
set_option linter.unusedVariables false
set_option linter.unusedSimpArgs false
namespace Go.Proofs.Ytpmckbpplkkgaaa.Fl
open Ieee
theorem spec_self (t E : Nat) (hE : 0 < E) (h : t ≤ INF) : Spec t (U t * E) E := by
  refine ⟨h, fun h0 => ?_, fun h0 => ?_⟩
  · have h1 := U_lt (t - 1) t (by omega)
    have h2 : (U (t - 1) + U t) * E < (U t + U t) * E := Nat.mul_lt_mul_of_pos_right (by omega) hE
    have h3 : (U t + U t) * E = 2 * (U t * E) := by rw [Nat.add_mul]; omega
    exact ⟨by omega, fun h => by omega⟩
  · have h1 := U_lt t (t + 1) (by omega)
    have h2 : (U t + U t) * E < (U t + U (t + 1)) * E := Nat.mul_lt_mul_of_pos_right (by omega) hE
    have h3 : (U t + U t) * E = 2 * (U t * E) := by rw [Nat.add_mul]; omega
    exact ⟨by omega, fun h => by omega⟩
theorem spec_up (r X t E : Nat) (hE : 0 < E) (h : Spec r X E) (ht : t ≤ INF) (hx : X ≤ U t * E) : r ≤ t := spec_mono r t X _ E hE h (spec_self t E hE ht) hx
theorem spec_dn (r X t E : Nat) (hE : 0 < E) (h : Spec r X E) (ht : t ≤ INF) (hx : U t * E ≤ X) : t ≤ r := spec_mono t r _ X E hE (spec_self t E hE ht) h hx
/-- A weight's word: a number that is not below nought, or the negative nought. -/
def good (y : Nat) : Prop := y < INF ∨ y = SW
def V (y : Nat) : Nat := U (y % SW)
theorem V_pos (y : Nat) (h : y < INF) : V y = U y := by
  unfold V
  rw [Nat.mod_eq_of_lt (Nat.lt_trans h (by decide))]
theorem V_SW : V SW = 0 := by decide
theorem read_good (y : Nat) (h : good y) : ∃ t n j, double.read y = .number t n j ∧ -1074 ≤ j ∧ n * 2 ^ (j + 1074).toNat = V y ∧ (t = true → n = 0) ∧ (y < INF → t = false) := by
  rcases h with h | h
  · have hm : y % SW = y := Nat.mod_eq_of_lt (Nat.lt_trans h (by decide))
    obtain ⟨m, p, e1, e2, e3⟩ := read_fin y (by rw [hm]; exact h)
    have hn : neg y = false := by
      have h1 : y / SW = 0 := Nat.div_eq_of_lt (Nat.lt_trans h (by decide))
      unfold neg
      rw [h1]
      rfl
    rw [hn] at e1
    exact ⟨false, m, p, e1, e2, e3, (fun h => by cases h), fun _ => rfl⟩
  · subst h
    refine ⟨true, 0, -1074, by decide, by decide, by rw [V_SW]; decide, fun _ => rfl, fun h => absurd h (by decide)⟩
def addW (x y : Nat) : Nat := (double.add x y).getD 0
theorem word_false (r : Nat) : double.word false r = r := rfl
theorem add_spec (x y : Nat) (hx : x < INF) (hy : good y) : double.add x y = some (addW x y) ∧ Spec (addW x y) (U x + V y) 1 := by
  obtain ⟨t, n, j, f1, f2, f3, f4, _⟩ := read_good y hy
  obtain ⟨s, m, i, e1, e2, e3, _, e5⟩ := read_good x (.inl hx)
  obtain rfl := e5 hx
  rw [V_pos x hx] at e3
  have key : ∃ T : Nat, double.add x y = some (double.nearest false T (min i j)) ∧ T * 2 ^ (min i j + 1074).toNat = U x + V y := by
    refine ⟨m * 2 ^ (i - min i j).toNat + n * 2 ^ (j - min i j).toNat, ?_, ?_⟩
    · have ht : signed false m (i - min i j).toNat + signed t n (j - min i j).toNat = ((m * 2 ^ (i - min i j).toNat + n * 2 ^ (j - min i j).toNat : Nat) : Int) := by
        unfold signed
        rw [Nat.shiftLeft_eq, Nat.shiftLeft_eq]
        cases t with
        | false => simp only [Bool.false_eq_true, if_false]; exact (Int.natCast_add _ _).symm
        | true => rw [f4 rfl]; simp
      unfold Format.add
      rw [e1, f1]
      show (Datum.sum (.number false m i) (.number t n j)).map double.write = _
      unfold Datum.sum
      simp only [Option.map_some]
      rw [ht]
      generalize m * 2 ^ (i - min i j).toNat + n * 2 ^ (j - min i j).toNat = T
      have hs : (if ((T : Nat) : Int) = 0 then (false && t) else decide (((T : Nat) : Int) < 0)) = false := by
        by_cases h : ((T : Nat) : Int) = 0
        · rw [if_pos h]; rfl
        · rw [if_neg h]; exact decide_eq_false (by omega)
      rw [hs, Int.natAbs_natCast]
      rfl
    · rw [Nat.add_mul, Nat.mul_assoc, Nat.mul_assoc, ← Nat.pow_add, ← Nat.pow_add, ← e3, ← f3]
      rw [show (i - min i j).toNat + (min i j + 1074).toNat = (i + 1074).toNat by omega, show (j - min i j).toNat + (min i j + 1074).toNat = (j + 1074).toNat by omega]
  obtain ⟨T, k1, k2⟩ := key
  have ha : addW x y = double.nearest false T (min i j) := by unfold addW; rw [k1]; rfl
  refine ⟨by rw [ha]; exact k1, ?_⟩
  rw [ha, ← k2]
  by_cases hT : T = 0
  · subst hT
    rw [nearest_zero, word_false, Nat.zero_mul]
    exact spec_self 0 1 (by decide) (Nat.zero_le _)
  · rw [nearest_eq _ _ _ hT, word_false]
    have := near_spec false T (min i j) 0 hT (by omega)
    rw [show (min i j + 1074 + ((0 : Nat) : Int)).toNat = (min i j + 1074).toNat by omega] at this
    exact this
theorem add_zero (x y : Nat) (hx : x < INF) (hy : good y) (h0 : V y = 0) : addW x y = x := by
  have h := (add_spec x y hx hy).2
  rw [h0] at h
  exact spec_exact _ x _ 1 (by decide) h (Nat.le_of_lt hx) (by omega)
theorem add_ge (x y : Nat) (hx : x < INF) (hy : good y) : x ≤ addW x y := spec_dn _ _ x 1 (by decide) (add_spec x y hx hy).2 (Nat.le_of_lt hx) (by omega)
theorem add_ge2 (x y : Nat) (hx : x < INF) (hy : y < INF) : y ≤ addW x y := spec_dn _ _ y 1 (by decide) (add_spec x y hx (.inl hy)).2 (Nat.le_of_lt hy) (by rw [V_pos y hy]; omega)
/-- A whole number of few digits is a word. -/
theorem repr (k p : Nat) (hk0 : 0 < k) (hk : k < 2 * B) (hp : 52 ≤ p) : ∃ r, U r = k * 2 ^ p ∧ r ≤ (p + 1) * B + B := by
  have h1 : 2 ^ k.log2 ≤ k := Nat.log2_self_le (by omega)
  have h2 : k < 2 ^ (k.log2 + 1) := Nat.lt_log2_self
  have hB52 : B = 2 ^ 52 := by decide
  have h3 : k.log2 ≤ 52 := by
    rcases Nat.lt_or_ge 52 k.log2 with h | h
    · have : 2 ^ 53 ≤ 2 ^ k.log2 := Nat.pow_le_pow_right (by decide) h
      have h4 : 2 * B = 2 ^ 53 := by decide
      omega
    · exact h
  have e1 : 2 ^ k.log2 * 2 ^ (52 - k.log2) = B := by rw [← Nat.pow_add, hB52]; congr 1; omega
  have e2 : 2 ^ (k.log2 + 1) * 2 ^ (52 - k.log2) = 2 * B := by rw [Nat.pow_succ, Nat.mul_right_comm, e1, Nat.mul_comm]
  have b1 : B ≤ k * 2 ^ (52 - k.log2) := by rw [← e1]; exact Nat.mul_le_mul_right _ h1
  have b2 : k * 2 ^ (52 - k.log2) < 2 * B := by rw [← e2]; exact Nat.mul_lt_mul_of_pos_right h2 (Nat.two_pow_pos _)
  refine ⟨(p - 52 + k.log2) * B + k * 2 ^ (52 - k.log2), ?_, ?_⟩
  · rw [U_at _ _ (.inr ⟨b1, by omega⟩), Nat.mul_assoc, ← Nat.pow_add]
    congr 2
    omega
  · have : (p - 52 + k.log2) * B ≤ p * B := Nat.mul_le_mul_right _ (by omega)
    have h5 : (p + 1) * B = p * B + B := by rw [Nat.add_mul, Nat.one_mul]
    rw [h5, Nat.add_assoc, ← Nat.two_mul]
    exact Nat.add_le_add this (Nat.le_of_lt b2)
end Go.Proofs.Ytpmckbpplkkgaaa.Fl
