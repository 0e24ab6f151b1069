/- The law that with a greater number the place is no lesser one. Conditions: none. -/
import Derived.Test.YtpmckbpplkkgaaaClasses
set_option linter.unusedVariables false
set_option linter.unusedSimpArgs false
namespace Go.Proofs.Ytpmckbpplkkgaaa.Base
open Go Go.RowKit Go.Proofs.Ytpmckbpplkkgaaa.Mem Go.Proofs.YtpmckbpplkkgaaaW.PrintWords Go.Proofs.Ytpmckbpplkkgaaa.Fl
theorem pos_no (y : Nat) (h : pos y = false) : V y = 0 := by
  have h1 := of_decide_eq_false h
  by_cases h2 : y = 0
  · subst h2; decide
  · have h3 : y = SW := Classical.byContradiction (fun h4 => h1 ⟨h2, h4⟩)
    rw [h3]; exact V_SW
theorem cho_ge (x : Nat) : ∀ (l : List Int) (s i last : Nat), last ≤ i → last ≤ cho x s i last l
  | [], s, i, last, _ => Nat.le_refl _
  | b :: r, s, i, last, h => by
    rw [cho]
    by_cases c : x < addW s b.toNat
    · rw [if_pos c]; exact h
    · rw [if_neg c]
      cases hp : pos b.toNat
      · exact cho_ge x r _ (i + 1) last (by omega)
      · exact Nat.le_trans h (cho_ge x r _ (i + 1) i (by omega))
theorem cho_mono (x x' : Nat) (hx : x ≤ x') : ∀ (l : List Int) (s i last : Nat), inU l → (∀ y ∈ l, may y.toNat = true) → s < INF → U s ≤ i * QQ → i + l.length < 4000000000000000 → s ≤ x → last ≤ i → cho x s i last l ≤ cho x' s i last l
  | [], s, i, last, _, _, _, _, _, _, _ => Nat.le_refl _
  | b :: r, s, i, last, hb, hm, hs, hu, hi, hsx, hl => by
    obtain ⟨b0, b1⟩ := hb b (List.mem_cons_self ..)
    obtain ⟨g1, g2⟩ := may_good b.toNat (by omega) (hm b (List.mem_cons_self ..))
    simp only [List.length_cons] at hi
    obtain ⟨c1, c2⟩ := sum_bound s b.toNat i hs hu g1 g2 (by omega)
    rw [cho, cho]
    by_cases c : x < addW s b.toNat
    · rw [if_pos c]
      by_cases c' : x' < addW s b.toNat
      · rw [if_pos c']; exact Nat.le_refl _
      · rw [if_neg c']
        cases hp : pos b.toNat
        · rw [add_zero s b.toNat hs g1 (pos_no _ hp)] at c
          omega
        · exact cho_ge x' r _ (i + 1) i (by omega)
    · have c' : ¬ x' < addW s b.toNat := by omega
      rw [if_neg c, if_neg c']
      refine cho_mono x x' hx r _ (i + 1) _ (fun y hy => hb y (List.mem_cons_of_mem _ hy)) (fun y hy => hm y (List.mem_cons_of_mem _ hy)) c1 c2 (by omega) (by omega) ?_
      cases pos b.toNat
      · show last ≤ i + 1; omega
      · show i ≤ i + 1; omega
theorem xof_mono (g h all : Nat) (hgh : g ≤ h) (hh : h < 4294967296) (ha : all < INF) (hu : U all ≤ 1000000000000000 * QQ) : xof g all ≤ xof h all := by
  obtain ⟨i1, i2⟩ := int_lt g (by omega)
  obtain ⟨j1, j2⟩ := int_lt h hh
  have e1 : intW g ≤ intW h := spec_mono _ _ _ _ 1 (by decide) (int_spec g) (int_spec h) (Nat.mul_le_mul_right _ hgh)
  have e2 : mulW (intW g) all ≤ mulW (intW h) all := spec_mono _ _ _ _ E74 E74_pos (mul_spec _ all i1 ha).2 (mul_spec _ all j1 ha).2 (Nat.mul_le_mul_right _ (U_le _ _ e1))
  have m1 := mul_lt _ all i1 ha i2 hu
  have m2 := mul_lt _ all j1 ha j2 hu
  exact spec_mono _ _ _ _ (2 ^ 32) (by decide) (div_spec _ m1).2 (div_spec _ m2).2 (U_le _ _ e2)
theorem choose_mono (l : List Int) (g h : Nat) (hb : inU l) (hl : l.length ≤ 2000) (hgh : g ≤ h) (hh : h < 4294967296) : (choose l g).2 = (choose l h).2 ∧ (choose l g).1 ≤ (choose l h).1 := by
  have htb := tot_bound l 0 0 hb (by decide) (by rw [show U 0 = 0 from by decide]; exact Nat.zero_le _) (by omega)
  unfold choose
  cases ht : tot 0 l with
  | none => exact ⟨rfl, Nat.le_refl _⟩
  | some all =>
    obtain ⟨ta, tu, tm⟩ := htb all ht
    simp only
    by_cases c : all = 0
    · rw [if_pos c, if_pos c]; exact ⟨rfl, Nat.le_refl _⟩
    · rw [if_neg c, if_neg c]
      refine ⟨rfl, ?_⟩
      have hx := xof_mono g h all hgh hh ta (Nat.le_trans tu (Nat.mul_le_mul_right _ (by omega)))
      exact cho_mono _ _ hx l 0 0 0 hb tm (by decide) (by rw [show U 0 = 0 from by decide]; exact Nat.zero_le _) (by omega) (Nat.zero_le _) (Nat.le_refl _)
end Go.Proofs.Ytpmckbpplkkgaaa.Base
namespace Go.Proofs.Ytpmckbpplkkgaaa.Rises
open Go Go.RowKit Go.Proofs.YtpmckbpplkkgaaaW.PrintWords
end Go.Proofs.Ytpmckbpplkkgaaa.Rises
