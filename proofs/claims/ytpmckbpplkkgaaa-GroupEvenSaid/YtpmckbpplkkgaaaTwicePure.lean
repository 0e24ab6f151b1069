/- Twice the weights: plain lemmas. Conditions: as each lemma says. -/
import Derived.Test.YtpmckbpplkkgaaaAlikePure
set_option linter.unusedVariables false
set_option linter.unusedSimpArgs false
namespace Go.Proofs.Ytpmckbpplkkgaaa.Base
open Go Go.RowKit Go.Proofs.Ytpmckbpplkkgaaa.Fl
theorem U_dbl (r : Nat) (h : B ≤ r) : U (r + B) = 2 * U r := by
  have hB0 : 0 < B := by decide
  have h1 : 1 ≤ r / B := Nat.div_pos h hB0
  unfold U
  rw [if_neg (Nat.not_lt.2 (Nat.le_trans h (Nat.le_add_right _ _))), if_neg (Nat.not_lt.2 h), Nat.add_mod_right, Nat.add_div_right _ hB0, show (r / B).succ - 1 = (r / B - 1) + 1 by omega, Nat.pow_succ, ← Nat.mul_assoc, Nat.mul_comm _ 2]
/-- What is nearest, doubled. -/
theorem spec_dbl (r X E : Nat) (hE : 0 < E) (h : Fl.Spec r X E) (hr : B < r) (hi : r + B < INF) : Fl.Spec (r + B) (2 * X) E := by
  obtain ⟨h1, h2, h3⟩ := h
  obtain ⟨a1, a2⟩ := h2 (Nat.lt_of_le_of_lt (Nat.zero_le _) hr)
  obtain ⟨b1, b2⟩ := h3 (Nat.lt_of_le_of_lt (Nat.le_add_right _ _) hi)
  have hB2 : (r + B) % 2 = r % 2 := by
    show (r + 4503599627370496) % 2 = r % 2
    omega
  have u0 := U_dbl r (Nat.le_of_lt hr)
  have u1 : U (r + B - 1) = 2 * U (r - 1) := by
    have hle : B ≤ r - 1 := Nat.le_sub_one_of_lt hr
    rw [← U_dbl (r - 1) hle]
    rw [Nat.sub_add_comm (Nat.lt_of_le_of_lt (Nat.zero_le B) hr)]
  have u2 : U (r + B + 1) = 2 * U (r + 1) := by
    rw [← U_dbl (r + 1) (Nat.le_trans (Nat.le_of_lt hr) (Nat.le_add_right _ _))]
    rw [Nat.add_right_comm]
  have e1 : (U (r + B - 1) + U (r + B)) * E = 2 * ((U (r - 1) + U r) * E) := by rw [u0, u1, ← Nat.mul_add, Nat.mul_assoc]
  have e2 : (U (r + B) + U (r + B + 1)) * E = 2 * ((U r + U (r + 1)) * E) := by rw [u0, u2, ← Nat.mul_add, Nat.mul_assoc]
  refine ⟨Nat.le_of_lt hi, fun _ => ?_, fun _ => ?_⟩
  · rw [e1, hB2]
    exact ⟨by omega, fun h => a2 (by omega)⟩
  · rw [e2, hB2]
    exact ⟨by omega, fun h => b2 (by omega)⟩
theorem spec_uniq (r s X E : Nat) (hE : 0 < E) (h1 : Fl.Spec r X E) (h2 : Fl.Spec s X E) : r = s := Nat.le_antisymm (spec_mono r s X X E hE h1 h2 (Nat.le_refl _)) (spec_mono s r X X E hE h2 h1 (Nat.le_refl _))
/-- Twice a word: a nought stays. -/
def tw (y : Nat) : Nat := if y = 0 ∨ y = SW then y else y + B
/-- A word that is a nought, or not too small. -/
def mid (y : Nat) : Prop := y = 0 ∨ y = SW ∨ (123 * B ≤ y ∧ y ≤ 1100 * B)
theorem tw_pos (y : Nat) (h0 : y ≠ 0) (h1 : y ≠ SW) : tw y = y + B := by unfold tw; exact if_neg (fun h => h.elim h0 h1)
theorem tw_mono (a b : Nat) (ha : a = 0 ∨ B < a) (hb : b = 0 ∨ B < b) (ha2 : a < INF) (hb2 : b < INF) : tw a < tw b ↔ a < b := by
  have hA : a ≠ SW := fun h => by rw [h] at ha2; exact absurd ha2 (by decide)
  have hC : b ≠ SW := fun h => by rw [h] at hb2; exact absurd hb2 (by decide)
  by_cases a0 : a = 0
  · by_cases b0 : b = 0
    · subst a0 b0; exact Iff.rfl
    · rw [tw_pos b b0 hC]
      subst a0
      have : tw 0 = 0 := rfl
      rw [this]
      exact ⟨fun _ => Nat.pos_of_ne_zero b0, fun _ => Nat.lt_of_lt_of_le (Nat.pos_of_ne_zero b0) (Nat.le_add_right _ _)⟩
  · by_cases b0 : b = 0
    · subst b0
      rw [tw_pos a a0 hA]
      have : tw 0 = 0 := rfl
      rw [this]
      exact ⟨fun h => absurd h (Nat.not_lt_zero _), fun h => absurd h (Nat.not_lt_zero _)⟩
    · rw [tw_pos a a0 hA, tw_pos b b0 hC]
      exact ⟨fun h => Nat.lt_of_add_lt_add_right h, fun h => Nat.add_lt_add_right h _⟩
/-- A sum so far: nought, or a word between these. -/
def sumOk (s : Nat) : Prop := s = 0 ∨ (123 * B ≤ s ∧ s ≤ 1100 * B)
theorem big_lt (s : Nat) (h : s ≤ 1100 * B) : s < INF ∧ s + B < INF ∧ s ≠ SW := by
  have h1 : s + B ≤ 1101 * B := by
    have : 1101 * B = 1100 * B + B := by decide
    rw [this]
    exact Nat.add_le_add_right h _
  have h2 : s < INF := Nat.lt_of_le_of_lt h (by decide)
  exact ⟨h2, Nat.lt_of_le_of_lt h1 (by decide), fun h3 => by rw [h3] at h2; exact absurd h2 (by decide)⟩
theorem small_gt (s : Nat) (h : 123 * B ≤ s) : B < s ∧ s ≠ 0 := by
  have h1 : B < s := Nat.lt_of_lt_of_le (by decide) h
  exact ⟨h1, fun h2 => by rw [h2] at h1; exact absurd h1 (Nat.not_lt_zero _)⟩
theorem sumOk_lt (s : Nat) (h : sumOk s) : s < INF ∧ tw s < INF := by
  rcases h with rfl | ⟨h1, h2⟩
  · exact ⟨by decide, by decide⟩
  · obtain ⟨a1, a2, a3⟩ := big_lt s h2
    rw [tw_pos s (small_gt s h1).2 a3]
    exact ⟨a1, a2⟩
theorem mid_good (y : Nat) (h : mid y) : good y ∧ good (tw y) := by
  rcases h with rfl | rfl | ⟨h1, h2⟩
  · exact ⟨.inl (by decide), .inl (by decide)⟩
  · exact ⟨.inr rfl, .inr (by decide)⟩
  · obtain ⟨a1, a2, a3⟩ := big_lt y h2
    rw [tw_pos y (small_gt y h1).2 a3]
    exact ⟨.inl a1, .inl a2⟩
/-- The sum of twice them is twice the sum. -/
theorem add_tw (s y : Nat) (hs : sumOk s) (hy : mid y) (hr : addW s y ≤ 1100 * B) : addW (tw s) (tw y) = tw (addW s y) ∧ sumOk (addW s y) := by
  obtain ⟨s1, s2⟩ := sumOk_lt s hs
  obtain ⟨g1, g2⟩ := mid_good y hy
  by_cases hz : y = 0 ∨ y = SW
  · have hv : V y = 0 := by
      rcases hz with rfl | rfl
      · decide
      · exact V_SW
    have ht : tw y = y := by unfold tw; exact if_pos hz
    rw [ht, add_zero s y s1 g1 hv, add_zero (tw s) y s2 g1 hv]
    exact ⟨rfl, hs⟩
  · have hn0 : y ≠ 0 := fun h => hz (.inl h)
    have hn1 : y ≠ SW := fun h => hz (.inr h)
    have hb : 123 * B ≤ y ∧ y ≤ 1100 * B := by
      rcases hy with h | h | h
      · exact absurd h hn0
      · exact absurd h hn1
      · exact h
    obtain ⟨y1, y2, _⟩ := big_lt y hb.2
    obtain ⟨y3, _⟩ := small_gt y hb.1
    have hge := add_ge2 s y s1 y1
    have hok : 123 * B ≤ addW s y := Nat.le_trans hb.1 hge
    obtain ⟨r1, r2, r3⟩ := big_lt _ hr
    obtain ⟨r4, r5⟩ := small_gt _ hok
    rw [tw_pos y hn0 hn1, tw_pos _ r5 r3]
    refine ⟨?_, .inr ⟨hok, hr⟩⟩
    have hS := (add_spec s y s1 g1).2
    have hD := spec_dbl _ _ 1 (by decide) hS r4 r2
    rw [V_pos y y1] at hD
    have hT := (add_spec (tw s) (y + B) s2 (.inl y2)).2
    rw [V_pos (y + B) y2, U_dbl y (Nat.le_of_lt y3)] at hT
    have hu : U (tw s) = 2 * U s := by
      rcases hs with rfl | ⟨h1, h2⟩
      · decide
      · rw [tw_pos s (small_gt s h1).2 (big_lt s h2).2.2, U_dbl s (Nat.le_of_lt (small_gt s h1).1)]
    rw [hu, ← Nat.mul_add] at hT
    exact spec_uniq _ _ _ 1 (by decide) hT hD
theorem U_pow (r : Nat) (h : B ≤ r) : ∀ k, U (r + k * B) = 2 ^ k * U r
  | 0 => by rw [Nat.zero_mul, Nat.add_zero, Nat.pow_zero, Nat.one_mul]
  | k + 1 => by
    rw [Nat.add_mul, Nat.one_mul, ← Nat.add_assoc, U_dbl _ (Nat.le_trans h (Nat.le_add_right _ _)), U_pow r h k, Nat.pow_succ, ← Nat.mul_assoc, Nat.mul_comm 2]
/-- A word that is not too small, divided by 2^32. -/
theorem div_norm (r : Nat) (h : B ≤ r) (hi : r + 32 * B < INF) : divW (r + 32 * B) = r := by
  have hs := (div_spec _ hi).2
  exact spec_exact _ r _ (2 ^ 32) (by decide) hs (Nat.le_trans (Nat.le_add_right _ _) (Nat.le_of_lt hi)) (by rw [U_pow r h 32, Nat.mul_comm])
theorem sum_bound2 (s y i : Nat) (hs : s < INF) (hu : U s ≤ i * QQ) (hy : good y) (hv : V y ≤ QQ) (hi : i < 4000000000000000) : addW s y ≤ 1100 * B := by
  have hB : i + 1 < 2 * B := Nat.lt_of_lt_of_le (show i + 1 < 4503599627370496 by omega) (by decide)
  obtain ⟨r, r1, r2⟩ := repr (i + 1) PP (by omega) hB (by decide)
  replace r1 : U r = (i + 1) * QQ := r1
  have hr : r < INF := Nat.lt_of_le_of_lt r2 (by decide)
  have h := spec_up _ _ r 1 (by decide) (add_spec s y hs hy).2 (Nat.le_of_lt hr) (by rw [r1, Nat.add_mul, Nat.mul_one]; omega)
  exact Nat.le_trans h (Nat.le_trans r2 (by decide))
/-- The product of a number and twice a sum is twice the product. -/
theorem mul_tw (h all : Nat) (hh : h < 4294967296) (hh0 : 0 < h) (ha : 123 * B ≤ all) (ha2 : all ≤ 1100 * B) (hu : U all ≤ 1000000000000000 * QQ) :
    mulW (intW h) (tw all) = mulW (intW h) all + B ∧ 123 * B ≤ mulW (intW h) all ∧ mulW (intW h) all + B < INF := by
  obtain ⟨i1, i2⟩ := int_lt h hh
  obtain ⟨a1, a2, a3⟩ := big_lt all ha2
  obtain ⟨a4, a5⟩ := small_gt all ha
  obtain ⟨r, r1, r2⟩ := repr 1 (PP + 82) (by decide) (by decide) (by decide)
  have hr : r < INF := Nat.lt_of_le_of_lt r2 (by decide)
  have hS := (mul_spec (intW h) all i1 a1).2
  have hup : mulW (intW h) all ≤ r := spec_up _ _ r E74 E74_pos hS (Nat.le_of_lt hr) (by
    obtain ⟨r', C, c1, c2, c3⟩ := big_word
    have hUr : U r = 2 ^ 82 * QQ := by
      rw [r1, Nat.one_mul, Nat.pow_add, Nat.mul_comm]
      unfold QQ
      with_reducible rfl
    rw [hUr, Nat.mul_assoc]
    have h2 : U (intW h) * U all ≤ (4294967296 * E74) * (1000000000000000 * QQ) := Nat.mul_le_mul i2 hu
    have h3 : (4294967296 * E74) * (1000000000000000 * QQ) = (4294967296 * 1000000000000000) * (QQ * E74) := by
      rw [Nat.mul_assoc 4294967296 E74, Nat.mul_left_comm E74, Nat.mul_comm E74 QQ, ← Nat.mul_assoc 4294967296]
    exact Nat.le_trans h2 (by rw [h3]; exact Nat.mul_le_mul_right _ (by decide)))
  have hlt : mulW (intW h) all + B < INF := Nat.lt_of_le_of_lt (Nat.add_le_add_right (Nat.le_trans hup r2) _) (by decide)
  have h1 : E74 ≤ U (intW h) := by
    have e1 : intW 1 ≤ intW h := spec_mono _ _ _ _ 1 (by decide) (int_spec 1) (int_spec h) (Nat.mul_le_mul_right _ hh0)
    have := U_le _ _ e1
    rw [(intW_U 1 (by decide)).1, Nat.one_mul] at this
    exact this
  have hdn : all ≤ mulW (intW h) all := spec_dn _ _ all E74 E74_pos hS (Nat.le_of_lt a1) (by rw [Nat.mul_comm]; exact Nat.mul_le_mul_right _ h1)
  have hlo : 123 * B ≤ mulW (intW h) all := Nat.le_trans ha hdn
  refine ⟨?_, hlo, hlt⟩
  have hT := (mul_spec (intW h) (tw all) i1 (by rw [tw_pos all a5 a3]; exact a2)).2
  rw [tw_pos all a5 a3] at hT ⊢
  rw [U_dbl all (Nat.le_of_lt a4), Nat.mul_left_comm] at hT
  exact spec_uniq _ _ _ E74 E74_pos hT (spec_dbl _ _ E74 E74_pos hS (small_gt _ hlo).1 hlt)
theorem xof_tw (h all : Nat) (hh : h < 4294967296) (ha : 123 * B ≤ all) (ha2 : all ≤ 1100 * B) (hu : U all ≤ 1000000000000000 * QQ) :
    xof h (tw all) = tw (xof h all) ∧ (xof h all = 0 ∨ B < xof h all) ∧ xof h all < INF := by
  obtain ⟨a1, a2, a3⟩ := big_lt all ha2
  obtain ⟨a4, a5⟩ := small_gt all ha
  by_cases h0 : h = 0
  · subst h0
    have hi : intW 0 = 0 := by unfold intW; rw [nearest_zero, word_false]
    have hm : ∀ y, y < INF → mulW (intW 0) y = 0 := fun y hy => by
      rw [hi]
      exact spec_exact _ 0 _ E74 E74_pos (mul_spec 0 y (by decide) hy).2 (by decide) (by rw [show U 0 = 0 from by decide, Nat.zero_mul, Nat.zero_mul])
    have hd : divW 0 = 0 := spec_exact _ 0 _ (2 ^ 32) (by decide) (div_spec 0 (by decide)).2 (by decide) (by rw [show U 0 = 0 from by decide, Nat.zero_mul])
    have e1 : xof 0 all = 0 := by unfold xof; rw [hm all a1, hd]
    have e2 : xof 0 (tw all) = 0 := by unfold xof; rw [tw_pos all a5 a3, hm _ a2, hd]
    rw [e1, e2]
    exact ⟨rfl, .inl rfl, by decide⟩
  · obtain ⟨m1, m2, m3⟩ := mul_tw h all hh (Nat.pos_of_ne_zero h0) ha ha2 hu
    obtain ⟨r, hr⟩ : ∃ r, mulW (intW h) all = r + 32 * B := ⟨mulW (intW h) all - 32 * B, (Nat.sub_add_cancel (Nat.le_trans (by decide) m2)).symm⟩
    have hrB : B < r := by
      rw [hr] at m2
      have h1 : B + 32 * B < r + 32 * B := Nat.lt_of_lt_of_le (by decide) m2
      exact Nat.lt_of_add_lt_add_right h1
    have hi1 : r + 32 * B < INF := by rw [← hr]; exact Nat.lt_of_le_of_lt (Nat.le_add_right _ _) m3
    have hi2 : (r + B) + 32 * B < INF := by rw [Nat.add_right_comm, ← hr]; exact m3
    have hrI : r < INF := Nat.lt_of_le_of_lt (Nat.le_add_right _ _) hi1
    have e1 : xof h all = r := by unfold xof; rw [hr]; exact div_norm r (Nat.le_of_lt hrB) hi1
    have e2 : xof h (tw all) = r + B := by
      unfold xof
      rw [m1, hr, Nat.add_right_comm]
      exact div_norm (r + B) (Nat.le_add_left _ _) hi2
    rw [e1, e2, tw_pos r (fun h => by rw [h] at hrB; exact absurd hrB (Nat.not_lt_zero _)) (fun h => by rw [h] at hrI; exact absurd hrI (by decide))]
    exact ⟨rfl, .inr hrB, hrI⟩
/-- Weights of which the law speaks. -/
def midL (l : List Int) : Prop := ∀ y ∈ l, 0 ≤ y ∧ mid y.toNat ∧ may y.toNat = true ∧ may (tw y.toNat) = true
def twL (l : List Int) : List Int := l.map (fun y => ((tw y.toNat : Nat) : Int))
theorem pos_tw (y : Nat) (h : mid y) : pos (tw y) = pos y := by
  rcases h with rfl | rfl | ⟨h1, h2⟩
  · rfl
  · rfl
  · obtain ⟨a1, a2, a3⟩ := big_lt y h2
    obtain ⟨a4, a5⟩ := small_gt y h1
    rw [tw_pos y a5 a3]
    unfold pos
    rw [decide_eq_true (show y ≠ 0 ∧ y ≠ SW from ⟨a5, a3⟩)]
    refine decide_eq_true ⟨fun h => ?_, fun h => ?_⟩
    · rw [h] at a2; exact a5 (by omega)
    · rw [h] at a2; exact absurd a2 (by decide)
theorem sumOk_cmp (s : Nat) (h : sumOk s) : s = 0 ∨ B < s := h.elim .inl (fun h => .inr (small_gt s h.1).1)
theorem cho_tw (x : Nat) (hx : x = 0 ∨ B < x) (hxi : x < INF) : ∀ (l : List Int) (s i last : Nat), midL l → sumOk s → U s ≤ i * QQ → i + l.length < 4000000000000000 → cho (tw x) (tw s) i last (twL l) = cho x s i last l
  | [], s, i, last, _, _, _, _ => rfl
  | y :: r, s, i, last, hm, hs, hu, hi => by
    obtain ⟨y0, y1, y2, y3⟩ := hm y (List.mem_cons_self ..)
    obtain ⟨s1, s2⟩ := sumOk_lt s hs
    obtain ⟨g1, g2⟩ := mid_good _ y1
    have hv : V y.toNat ≤ QQ := by
      rcases y1 with h | h | ⟨h1, h2⟩
      · rw [h]; exact Nat.zero_le _
      · rw [h, V_SW]; exact Nat.zero_le _
      · exact (may_good _ (Nat.lt_trans (big_lt _ h2).1 (by decide)) y2).2
    simp only [List.length_cons] at hi
    have hb := sum_bound2 s y.toNat i s1 hu g1 hv (by omega)
    have hb2 := sum_bound s y.toNat i s1 hu g1 hv (by omega)
    obtain ⟨e1, e2⟩ := add_tw s y.toNat hs y1 hb
    show cho (tw x) (tw s) i last (((tw y.toNat : Nat) : Int) :: twL r) = _
    rw [cho, cho, Int.toNat_natCast, e1, pos_tw _ y1]
    have hc := tw_mono x (addW s y.toNat) hx (sumOk_cmp _ e2) hxi (sumOk_lt _ e2).1
    by_cases c : x < addW s y.toNat
    · rw [if_pos c, if_pos (hc.2 c)]
    · rw [if_neg c, if_neg (fun h => c (hc.1 h))]
      exact cho_tw x hx hxi r _ (i + 1) _ (fun z hz => hm z (List.mem_cons_of_mem _ hz)) e2 hb2.2 (by omega)
theorem tot_tw : ∀ (l : List Int) (s i : Nat), midL l → sumOk s → U s ≤ i * QQ → i + l.length < 4000000000000000 → ∃ t, tot s l = some t ∧ sumOk t ∧ tot (tw s) (twL l) = some (tw t) ∧ U t ≤ (i + l.length) * QQ
  | [], s, i, _, hs, hu, _ => ⟨s, rfl, hs, rfl, hu⟩
  | y :: r, s, i, hm, hs, hu, hi => by
    obtain ⟨y0, y1, y2, y3⟩ := hm y (List.mem_cons_self ..)
    obtain ⟨s1, s2⟩ := sumOk_lt s hs
    obtain ⟨g1, g2⟩ := mid_good _ y1
    have hv : V y.toNat ≤ QQ := by
      rcases y1 with h | h | ⟨h1, h2⟩
      · rw [h]; exact Nat.zero_le _
      · rw [h, V_SW]; exact Nat.zero_le _
      · exact (may_good _ (Nat.lt_trans (big_lt _ h2).1 (by decide)) y2).2
    simp only [List.length_cons] at hi
    have hb := sum_bound2 s y.toNat i s1 hu g1 hv (by omega)
    have hb2 := sum_bound s y.toNat i s1 hu g1 hv (by omega)
    obtain ⟨e1, e2⟩ := add_tw s y.toNat hs y1 hb
    obtain ⟨t, t1, t2, t3, t4⟩ := tot_tw r (addW s y.toNat) (i + 1) (fun z hz => hm z (List.mem_cons_of_mem _ hz)) e2 hb2.2 (by omega)
    refine ⟨t, ?_, t2, ?_, ?_⟩
    · rw [tot, y2, if_pos rfl]; exact t1
    · show tot (tw s) (((tw y.toNat : Nat) : Int) :: twL r) = _
      rw [tot, Int.toNat_natCast, y3, if_pos rfl, e1]
      exact t3
    · rw [List.length_cons, show i + (r.length + 1) = i + 1 + r.length by omega]; exact t4
theorem choose_tw (l : List Int) (h : Nat) (hm : midL l) (hl : l.length ≤ 1000) (hh : h < 4294967296) : choose (twL l) h = choose l h := by
  have hu0 : U 0 ≤ 0 * QQ := by rw [show U 0 = 0 from by decide]; exact Nat.zero_le _
  obtain ⟨t, t1, t2, t3, t4⟩ := tot_tw l 0 0 hm (.inl rfl) hu0 (by omega)
  rw [show tw 0 = 0 from rfl] at t3
  unfold choose
  rw [t1, t3]
  simp only
  rcases t2 with rfl | ⟨h1, h2⟩
  · rfl
  · obtain ⟨a4, a5⟩ := small_gt t h1
    obtain ⟨a1, a2, a3⟩ := big_lt t h2
    have hne : tw t ≠ 0 := by
      rw [tw_pos t a5 a3]
      exact fun h => a5 (Nat.eq_zero_of_add_eq_zero_right h)
    rw [if_neg a5, if_neg hne]
    obtain ⟨x1, x2, x3⟩ := xof_tw h t hh h1 h2 (Nat.le_trans t4 (Nat.mul_le_mul_right _ (by omega)))
    rw [x1]
    have := cho_tw (xof h t) x2 x3 l 0 0 0 hm (.inl rfl) hu0 (by omega)
    rw [show tw 0 = 0 from rfl] at this
    rw [this]
end Go.Proofs.Ytpmckbpplkkgaaa.Base
