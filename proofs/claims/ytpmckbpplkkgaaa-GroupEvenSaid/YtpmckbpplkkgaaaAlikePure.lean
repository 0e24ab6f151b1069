/- Of weights of 1 the one at the number's share is chosen: plain lemmas. Conditions: as each lemma says. -/
import Derived.Test.YtpmckbpplkkgaaaChoose
set_option linter.unusedVariables false
set_option linter.unusedSimpArgs false
namespace Go.Proofs.Ytpmckbpplkkgaaa.Base
open Go Go.RowKit Go.Proofs.Ytpmckbpplkkgaaa.Fl
def L42 : Nat := 1042
def E42 : Nat := 2 ^ L42
theorem E42_pos : 0 < E42 := Nat.two_pow_pos _
theorem E74_E42 : E74 = E42 * 4294967296 := by
  have h1 : L74 = L42 + 32 := by decide
  have h2 : (2 : Nat) ^ 32 = 4294967296 := by decide
  unfold E74 E42
  rw [h1, Nat.pow_add, h2]
theorem intW_U (k : Nat) (hk : k < 2 * B) : U (intW k) = k * E74 ∧ intW k < INF := by
  by_cases h0 : k = 0
  · subst h0
    have : intW 0 = 0 := by unfold intW; rw [nearest_zero, word_false]
    rw [this, Nat.zero_mul]
    exact ⟨by decide, by decide⟩
  · obtain ⟨r, r1, r2⟩ := repr k L74 (by omega) hk (by decide)
    replace r1 : U r = k * E74 := r1
    have hr : r < INF := Nat.lt_of_le_of_lt r2 (by decide)
    have h := spec_exact _ r _ 1 (by decide) (int_spec k) (Nat.le_of_lt hr) (by rw [r1, Nat.mul_one])
    rw [h]
    exact ⟨r1, hr⟩
theorem U_inj (a b : Nat) (h : U a = U b) : a = b := by
  rcases Nat.lt_trichotomy a b with h1 | h1 | h1
  · have := U_lt a b h1; omega
  · exact h1
  · have := U_lt b a h1; omega
theorem lt_U (a b : Nat) : a < b ↔ U a < U b := by
  constructor
  · exact U_lt a b
  · intro h
    rcases Nat.lt_or_ge a b with h1 | h1
    · exact h1
    · have := U_le b a h1; omega
abbrev ONE : Nat := 4607182418800017408
theorem one_int : intW 1 = ONE := by decide +kernel
theorem one_V : V ONE = E74 := by
  rw [V_pos ONE (by decide), ← one_int, (intW_U 1 (by decide)).1, Nat.one_mul]
theorem add_one (i : Nat) (hi : i + 1 < 2 * B) : addW (intW i) ONE = intW (i + 1) := by
  obtain ⟨a1, a2⟩ := intW_U i (by omega)
  obtain ⟨b1, b2⟩ := intW_U (i + 1) hi
  have h := (add_spec (intW i) ONE a2 (.inl (by decide))).2
  rw [a1, one_V] at h
  exact spec_exact _ _ _ 1 (by decide) h (Nat.le_of_lt b2) (by rw [b1, Nat.mul_one, Nat.add_mul, Nat.one_mul])
theorem mul_int (h n : Nat) (hh : h < 2 * B) (hn : n < 2 * B) (hk : h * n < 2 * B) : mulW (intW h) (intW n) = intW (h * n) := by
  obtain ⟨a1, a2⟩ := intW_U h hh
  obtain ⟨b1, b2⟩ := intW_U n hn
  obtain ⟨c1, c2⟩ := intW_U (h * n) hk
  have hs := (mul_spec _ _ a2 b2).2
  rw [a1, b1] at hs
  refine spec_exact _ _ _ E74 E74_pos hs (Nat.le_of_lt c2) ?_
  rw [c1, Nat.mul_assoc h E74, Nat.mul_left_comm E74 n, ← Nat.mul_assoc h n, Nat.mul_assoc (h * n)]
theorem div_int (k : Nat) (hk : k < 2 * B) : U (divW (intW k)) = k * E42 ∧ divW (intW k) ≤ INF := by
  obtain ⟨a1, a2⟩ := intW_U k hk
  have hs := (div_spec _ a2).2
  rw [a1] at hs
  by_cases h0 : k = 0
  · subst h0
    have h := spec_exact _ 0 _ (2 ^ 32) (by decide) hs (by decide) (by rw [show U 0 = 0 from by decide, Nat.zero_mul, Nat.zero_mul])
    rw [h, Nat.zero_mul]
    exact ⟨by decide, by decide⟩
  · obtain ⟨r, r1, r2⟩ := repr k L42 (by omega) hk (by decide)
    replace r1 : U r = k * E42 := r1
    have hr : r < INF := Nat.lt_of_le_of_lt r2 (by decide)
    have h32 : (2 : Nat) ^ 32 = 4294967296 := by decide
    have h := spec_exact _ r _ (2 ^ 32) (by decide) hs (Nat.le_of_lt hr) (by rw [r1, E74_E42, h32, Nat.mul_assoc])
    rw [h]
    exact ⟨r1, Nat.le_of_lt hr⟩
/-- Noughts of either sign. -/
def noughts (l : List Int) : Prop := ∀ y ∈ l, y = 0 ∨ y = 9223372036854775808
theorem nought_V (y : Int) (h : y = 0 ∨ y = 9223372036854775808) : good y.toNat ∧ V y.toNat = 0 ∧ may y.toNat = true := by
  rcases h with rfl | rfl
  · exact ⟨.inl (by decide), by decide, by decide +kernel⟩
  · exact ⟨.inr rfl, by decide, by decide +kernel⟩
theorem tot_nought : ∀ (l : List Int) (s : Nat), noughts l → s < INF → tot s l = some s
  | [], s, _, _ => rfl
  | y :: r, s, h, hs => by
    obtain ⟨g1, g2, g3⟩ := nought_V y (h y (List.mem_cons_self ..))
    rw [tot, g3, if_pos rfl, add_zero s _ hs g1 g2]
    exact tot_nought r s (fun z hz => h z (List.mem_cons_of_mem _ hz)) hs
theorem tot_ones (zs : List Int) (hz : noughts zs) : ∀ (d i : Nat), i + d < 2 * B → tot (intW i) (List.replicate d (4607182418800017408 : Int) ++ zs) = some (intW (i + d))
  | 0, i, hi => by
    rw [List.replicate_zero, List.nil_append]
    exact tot_nought zs _ hz (intW_U i hi).2
  | d + 1, i, hi => by
    rw [List.replicate_succ, List.cons_append, tot]
    have hm : may (4607182418800017408 : Int).toNat = true := by decide +kernel
    rw [hm, if_pos rfl, show (4607182418800017408 : Int).toNat = ONE from rfl, add_one i (by omega), tot_ones zs hz d (i + 1) (by omega)]
    congr 2
    omega
theorem cho_ones (x k : Nat) (hx : U x = k * E42) (zs : List Int) : ∀ (d i last : Nat), i + d < 2 * B → i ≤ k / 4294967296 → k / 4294967296 < i + d → cho x (intW i) i last (List.replicate d (4607182418800017408 : Int) ++ zs) = k / 4294967296
  | 0, i, last, _, h1, h2 => by omega
  | d + 1, i, last, hi, h1, h2 => by
    rw [List.replicate_succ, List.cons_append, cho, show (4607182418800017408 : Int).toNat = ONE from rfl, add_one i (by omega)]
    have hc : x < intW (i + 1) ↔ k < (i + 1) * 4294967296 := by
      rw [lt_U, hx, (intW_U (i + 1) (by omega)).1, E74_E42, Nat.mul_comm E42, ← Nat.mul_assoc]
      exact ⟨fun h => Nat.lt_of_mul_lt_mul_right h, fun h => Nat.mul_lt_mul_of_pos_right h E42_pos⟩
    by_cases c : k < (i + 1) * 4294967296
    · rw [if_pos (hc.2 c)]
      omega
    · rw [if_neg (fun h => c (hc.1 h))]
      exact cho_ones x k hx zs d (i + 1) _ (by omega) (by omega) (by omega)
theorem choose_ones (n h : Nat) (zs : List Int) (hz : noughts zs) (hn0 : 0 < n) (hn : n ≤ 1000) (hh : h < 4294967296) : choose (List.replicate n (4607182418800017408 : Int) ++ zs) h = (h * n / 4294967296, true) := by
  have hB : (1000000000000000 : Nat) < 2 * B := by decide
  have hk : h * n ≤ 4294967296 * 1000 := Nat.mul_le_mul (Nat.le_of_lt hh) hn
  have hkn : h * n < 4294967296 * n := Nat.mul_lt_mul_of_pos_right hh hn0
  have ht := tot_ones zs hz n 0 (by omega)
  have h0 : intW 0 = 0 := by unfold intW; rw [nearest_zero, word_false]
  rw [h0, Nat.zero_add] at ht
  have hne : intW n ≠ 0 := by
    intro h
    have h1 := (intW_U n (by omega)).1
    rw [h, show U 0 = 0 from by decide] at h1
    have := Nat.mul_pos hn0 E74_pos
    omega
  unfold choose
  rw [ht]
  simp only
  rw [if_neg hne]
  have hx : xof h (intW n) = divW (intW (h * n)) := by unfold xof; rw [mul_int h n (by omega) (by omega) (by omega)]
  have hU := (div_int (h * n) (by omega)).1
  rw [hx]
  have := cho_ones (divW (intW (h * n))) (h * n) hU zs n 0 0 (by omega) (Nat.zero_le _) (by omega)
  rw [h0] at this
  rw [this]
end Go.Proofs.Ytpmckbpplkkgaaa.Base
