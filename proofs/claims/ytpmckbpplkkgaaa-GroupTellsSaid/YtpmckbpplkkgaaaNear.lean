/- The nearest word: what it is, that it rises, that a number that there is stays. Plain lemmas over the model's floats; no condition but those said. -/
import Derived.Test.YtpmckbpplkkgaaaFl
set_option linter.unusedVariables false
set_option linter.unusedSimpArgs false
namespace Go.Proofs.Ytpmckbpplkkgaaa.Fl
open Ieee
theorem U_at (q k : Nat) (h : (q = 0 ∧ k ≤ 2 * B) ∨ (B ≤ k ∧ k ≤ 2 * B)) : U (q * B + k) = k * 2 ^ q := by
  have hB0 : 0 < B := by decide
  unfold U
  by_cases c : k < B
  · have hq : q = 0 := by omega
    subst hq
    rw [if_pos (by omega)]
    omega
  · by_cases c2 : k < 2 * B
    · have e1 : (q * B + k) / B = q + 1 := by
        rw [show q * B + k = (k - B) + B * (q + 1) by rw [Nat.mul_add, Nat.mul_comm B q]; omega, Nat.add_mul_div_left _ _ hB0, Nat.div_eq_of_lt (by omega)]
        omega
      have e2 : (q * B + k) % B = k - B := by
        rw [show q * B + k = (k - B) + B * (q + 1) by rw [Nat.mul_add, Nat.mul_comm B q]; omega, Nat.add_mul_mod_self_left, Nat.mod_eq_of_lt (by omega)]
      rw [if_neg (by have := Nat.zero_le (q * B); omega), e1, e2, show B + (k - B) = k by omega, show q + 1 - 1 = q by omega]
    · have hk : k = 2 * B := by omega
      subst hk
      have e0 : q * B + 2 * B = B * (q + 2) := by rw [Nat.mul_add, Nat.mul_comm B q]; omega
      have e1 : B * (q + 2) / B = q + 2 := Nat.mul_div_cancel_left _ hB0
      have e2 : B * (q + 2) % B = 0 := Nat.mul_mod_right _ _
      rw [if_neg (by have := Nat.zero_le (q * B); omega), e0, e1, e2, show q + 2 - 1 = q + 1 by omega, Nat.pow_succ, Nat.add_zero, ← Nat.mul_assoc, Nat.mul_right_comm, Nat.mul_comm B 2]
/-- Rounding to a whole number: between the two halves, and even where it is one of them. -/
theorem cut_spec (s : Bool) (n d : Nat) : let k := Toward.even.cut s n d
    (0 < k → (2 * k - 1) * 2 ^ d ≤ 2 * n ∧ ((2 * k - 1) * 2 ^ d = 2 * n → k % 2 = 0)) ∧ 2 * n ≤ (2 * k + 1) * 2 ^ d ∧ (2 * n = (2 * k + 1) * 2 ^ d → k % 2 = 0) := by
  have core : ∀ g low rest : Nat, 0 < g → n = g * low + rest → rest < g → let k := low + ((decide (g < 2 * rest) || (g == 2 * rest && low % 2 == 1)).toNat)
      (0 < k → (2 * k - 1) * g ≤ 2 * n ∧ ((2 * k - 1) * g = 2 * n → k % 2 = 0)) ∧ 2 * n ≤ (2 * k + 1) * g ∧ (2 * n = (2 * k + 1) * g → k % 2 = 0) := by
    intro g low rest hg hn hr
    have m1 : ∀ x, (2 * x + 1) * g = 2 * (g * x) + g := fun x => by rw [Nat.add_mul, Nat.one_mul, Nat.mul_assoc, Nat.mul_comm x g]
    have m2 : ∀ x, (2 * (x + 1) - 1) * g = 2 * (g * x) + g := fun x => by rw [show 2 * (x + 1) - 1 = 2 * x + 1 by omega, m1]
    by_cases c1 : g < 2 * rest
    · have hk : low + ((decide (g < 2 * rest) || (g == 2 * rest && low % 2 == 1)).toNat) = low + 1 := by simp [c1]
      simp only [hk]
      rw [m2, m1, Nat.mul_add, Nat.mul_one]
      exact ⟨fun _ => ⟨by omega, by omega⟩, by omega, by omega⟩
    · by_cases c2 : g = 2 * rest ∧ low % 2 = 1
      · have hk : low + ((decide (g < 2 * rest) || (g == 2 * rest && low % 2 == 1)).toNat) = low + 1 := by simp [c2.1, c2.2]
        simp only [hk]
        rw [m2, m1, Nat.mul_add, Nat.mul_one]
        exact ⟨fun _ => ⟨by omega, fun _ => by omega⟩, by omega, by omega⟩
      · have hk : low + ((decide (g < 2 * rest) || (g == 2 * rest && low % 2 == 1)).toNat) = low := by
          have h2 : (g == 2 * rest && low % 2 == 1) = false := by
            by_cases h3 : g = 2 * rest
            · have h4 : ¬ low % 2 = 1 := fun h => c2 ⟨h3, h⟩
              simp [h4]
            · simp [h3]
          rw [h2]
          simp [c1]
        simp only [hk]
        rw [m1]
        refine ⟨fun h0 => ?_, by omega, fun h => ?_⟩
        · obtain ⟨y, rfl⟩ : ∃ y, low = y + 1 := ⟨low - 1, by omega⟩
          rw [m2]
          rw [Nat.mul_add, Nat.mul_one] at hn
          exact ⟨by omega, by omega⟩
        · have h3 : g = 2 * rest := by omega
          have h4 : ¬ low % 2 = 1 := fun h => c2 ⟨h3, h⟩
          omega
  unfold Toward.cut
  simp only [Nat.one_shiftLeft]
  by_cases hd : d ≤ n.log2 + 2
  · rw [show min d (n.log2 + 2) = d by omega]
    exact core (2 ^ d) (n / 2 ^ d) (n % 2 ^ d) (Nat.two_pow_pos _) (Nat.div_add_mod n (2 ^ d)).symm (Nat.mod_lt _ (Nat.two_pow_pos _))
  · rw [show min d (n.log2 + 2) = n.log2 + 2 by omega]
    have hlt : n < 2 ^ (n.log2 + 1) := Nat.lt_log2_self
    have h4 : 4 * 2 ^ n.log2 = 2 ^ (n.log2 + 2) := by rw [Nat.pow_succ, Nat.pow_succ]; omega
    have h2 : 2 ^ (n.log2 + 1) = 2 * 2 ^ n.log2 := by rw [Nat.pow_succ]; omega
    have hbig : 2 ^ (n.log2 + 2) ≤ 2 ^ d := Nat.pow_le_pow_right (by decide) (by omega)
    have hq : n / 2 ^ (n.log2 + 2) = 0 := Nat.div_eq_of_lt (by omega)
    have hr : n % 2 ^ (n.log2 + 2) = n := Nat.mod_eq_of_lt (by omega)
    rw [hq, hr]
    have hk : (0 + (decide (2 ^ (n.log2 + 2) < 2 * n) || (2 ^ (n.log2 + 2) == 2 * n && 0 % 2 == 1)).toNat) = 0 := by
      have : ¬ 2 ^ (n.log2 + 2) < 2 * n := by omega
      simp [this]
    rw [hk]
    refine ⟨fun h => absurd h (by omega), by omega, fun _ => rfl⟩
/-- The rung of the nearest word. -/
def lastP (mag : Nat) (place : Int) : Int := max (place + mag.log2 - 52) (-1074)
def kept (s : Bool) (mag : Nat) (place : Int) : Nat := Toward.even.cut s (mag <<< (place - lastP mag place).toNat) (lastP mag place - place).toNat
def rk (s : Bool) (mag : Nat) (place : Int) : Nat := min ((lastP mag place + 1074).toNat * B + kept s mag place) INF
theorem nearest_eq (s : Bool) (mag : Nat) (place : Int) (h : mag ≠ 0) : double.nearest s mag place = double.word s (rk s mag place) := by
  unfold Format.nearest rk kept lastP
  rw [if_neg h, hB, hINF, hL]
  rfl
theorem nearest_zero (s : Bool) (place : Int) : double.nearest s 0 place = double.word s 0 := by
  unfold Format.nearest
  rw [if_pos rfl]
/-- Between what halves a number lies by its rung. -/
def Spec (r X E : Nat) : Prop :=
  r ≤ INF ∧ (0 < r → (U (r - 1) + U r) * E ≤ 2 * X ∧ ((U (r - 1) + U r) * E = 2 * X → r % 2 = 0)) ∧ (r < INF → 2 * X ≤ (U r + U (r + 1)) * E ∧ (2 * X = (U r + U (r + 1)) * E → r % 2 = 0))
theorem spec_of (q k X E : Nat) (hE : 0 < E) (hr : (q = 0 ∧ k ≤ 2 * B) ∨ (B ≤ k ∧ k ≤ 2 * B ∧ B * 2 ^ q * E ≤ X))
    (h1 : 0 < k → (2 * k - 1) * 2 ^ q * E ≤ 2 * X ∧ ((2 * k - 1) * 2 ^ q * E = 2 * X → k % 2 = 0)) (h2 : 2 * X ≤ (2 * k + 1) * 2 ^ q * E ∧ (2 * X = (2 * k + 1) * 2 ^ q * E → k % 2 = 0)) :
    Spec (min (q * B + k) INF) X E := by
  have hu : U (q * B + k) = k * 2 ^ q := U_at q k (by omega)
  have hpar : (q * B + k) % 2 = k % 2 := by
    have e : q * B = 2 * (q * 2251799813685248) := by show q * 4503599627370496 = _; omega
    rw [e, Nat.mul_add_mod]
  -- above
  have hup : (k + 1) * 2 ^ q ≤ U (q * B + k + 1) := by
    by_cases c : k < 2 * B
    · rw [Nat.add_assoc, U_at q (k + 1) (by omega)]
      exact Nat.le_refl _
    · have hk : k = 2 * B := by omega
      subst hk
      have e : q * B + 2 * B + 1 = (q + 1) * B + (B + 1) := by rw [Nat.add_mul]; omega
      rw [e, U_at (q + 1) (B + 1) (.inr ⟨by omega, by decide⟩), Nat.pow_succ, Nat.mul_comm (2 ^ q) 2, ← Nat.mul_assoc]
      exact Nat.mul_le_mul_right _ (by decide)
  have hA : 2 * X ≤ (U (q * B + k) + U (q * B + k + 1)) * E ∧ (2 * X = (U (q * B + k) + U (q * B + k + 1)) * E → (q * B + k) % 2 = 0) := by
    have h3 : (2 * k + 1) * 2 ^ q * E ≤ (U (q * B + k) + U (q * B + k + 1)) * E := by
      refine Nat.mul_le_mul_right _ ?_
      rw [hu]
      have : (2 * k + 1) * 2 ^ q = k * 2 ^ q + (k + 1) * 2 ^ q := by rw [← Nat.add_mul]; congr 1; omega
      omega
    exact ⟨Nat.le_trans h2.1 h3, fun h => by rw [hpar]; exact h2.2 (by omega)⟩
  have hDn : 0 < q * B + k → (U (q * B + k - 1) + U (q * B + k)) * E ≤ 2 * X ∧ ((U (q * B + k - 1) + U (q * B + k)) * E = 2 * X → (q * B + k) % 2 = 0) := by
    intro h0
    by_cases c : (q = 0 ∧ k ≤ 2 * B) ∨ (B < k ∧ k ≤ 2 * B)
    · have hk : 0 < k := by
        rcases c with ⟨rfl, _⟩ | c
        · omega
        · omega
      have e : U (q * B + k - 1) = (k - 1) * 2 ^ q := by
        rw [show q * B + k - 1 = q * B + (k - 1) by omega]
        exact U_at q (k - 1) (by omega)
      have e2 : U (q * B + k - 1) + U (q * B + k) = (2 * k - 1) * 2 ^ q := by rw [e, hu, ← Nat.add_mul]; congr 1; omega
      rw [e2, hpar]
      exact h1 hk
    · have hk : k = B := by omega
      have hX : B * 2 ^ q * E ≤ X := by
        rcases hr with hr | hr
        · omega
        · exact hr.2.2
      have h3 : U (q * B + k - 1) < U (q * B + k) := U_lt _ _ (by omega)
      have h4 : (U (q * B + k - 1) + U (q * B + k)) * E < (B * 2 ^ q + B * 2 ^ q) * E := Nat.mul_lt_mul_of_pos_right (by rw [hu, hk] at h3 ⊢; omega) hE
      have h5 : (B * 2 ^ q + B * 2 ^ q) * E = 2 * (B * 2 ^ q * E) := by rw [Nat.add_mul]; omega
      exact ⟨by omega, fun h => by omega⟩
  refine ⟨Nat.min_le_right _ _, ?_, ?_⟩
  · intro h0
    by_cases c : q * B + k ≤ INF
    · rw [Nat.min_eq_left c] at h0 ⊢
      exact hDn h0
    · rw [Nat.min_eq_right (by omega)] at h0 ⊢
      have h3 := (hDn (by omega)).1
      have h4 : U (INF - 1) < U (q * B + k - 1) := U_lt _ _ (by omega)
      have h5 : U INF < U (q * B + k) := U_lt _ _ (by omega)
      have h6 : (U (INF - 1) + U INF) * E < (U (q * B + k - 1) + U (q * B + k)) * E := Nat.mul_lt_mul_of_pos_right (by omega) hE
      exact ⟨by omega, fun h => by omega⟩
  · intro h0
    by_cases c : q * B + k ≤ INF
    · rw [Nat.min_eq_left c] at h0 ⊢
      exact hA
    · rw [Nat.min_eq_right (by omega)] at h0
      omega
theorem near_spec (s : Bool) (mag : Nat) (place : Int) (e : Nat) (hm : mag ≠ 0) (he : 0 ≤ place + 1074 + e) : Spec (rk s mag place) (mag * 2 ^ (place + 1074 + e).toNat) (2 ^ e) := by
  have hl1 : 2 ^ mag.log2 ≤ mag := Nat.log2_self_le hm
  have hl2 : mag < 2 ^ (mag.log2 + 1) := Nat.lt_log2_self
  have hc := cut_spec s (mag <<< (place - lastP mag place).toNat) (lastP mag place - place).toNat
  simp only at hc
  have hB52 : B = 2 ^ 52 := by decide
  unfold rk
  have hlast : lastP mag place = max (place + mag.log2 - 52) (-1074) := rfl
  have hk : kept s mag place = Toward.even.cut s (mag <<< (place - lastP mag place).toNat) (lastP mag place - place).toNat := rfl
  rw [← hk, Nat.shiftLeft_eq] at hc
  generalize kept s mag place = k at *
  generalize hL : lastP mag place = last at *
  generalize hlg : mag.log2 = lg at *
  generalize hd : (last - place).toNat = d at *
  generalize hsft : (place - last).toNat = sh at *
  generalize hq : (last + 1074).toNat = q at *
  obtain ⟨c1, c2, c3⟩ := hc
  -- the scale
  obtain ⟨T, hT0, hT1, hT2⟩ : ∃ T : Nat, 0 < T ∧ mag * 2 ^ sh * T = mag * 2 ^ (place + 1074 + e).toNat ∧ 2 ^ d * T = 2 ^ q * 2 ^ e := by
    by_cases c : last ≤ place
    · refine ⟨2 ^ (q + e), Nat.two_pow_pos _, ?_, ?_⟩
      · rw [Nat.mul_assoc, ← Nat.pow_add]
        congr 2
        omega
      · rw [show d = 0 by omega, Nat.pow_zero, Nat.one_mul, Nat.pow_add]
    · refine ⟨2 ^ (place + 1074 + e).toNat, Nat.two_pow_pos _, ?_, ?_⟩
      · rw [show sh = 0 by omega, Nat.pow_zero, Nat.mul_one]
      · rw [← Nat.pow_add, ← Nat.pow_add]
        congr 1
        omega
  have hup : mag * 2 ^ sh < 2 * B * 2 ^ d := by
    have h1 : mag * 2 ^ sh < 2 ^ (lg + 1) * 2 ^ sh := Nat.mul_lt_mul_of_pos_right hl2 (Nat.two_pow_pos _)
    have h2 : 2 ^ (lg + 1) * 2 ^ sh ≤ 2 * B * 2 ^ d := by
      rw [hB52, ← Nat.pow_add, show 2 * 2 ^ 52 = 2 ^ 53 from by decide, ← Nat.pow_add]
      exact Nat.pow_le_pow_right (by decide) (by omega)
    omega
  have hlow : 0 < q → B * 2 ^ d ≤ mag * 2 ^ sh := by
    intro h0
    have h1 : 2 ^ lg * 2 ^ sh ≤ mag * 2 ^ sh := Nat.mul_le_mul_right _ hl1
    have h2 : B * 2 ^ d ≤ 2 ^ lg * 2 ^ sh := by
      rw [hB52, ← Nat.pow_add, ← Nat.pow_add]
      exact Nat.pow_le_pow_right (by decide) (by omega)
    omega
  have hD : 0 < 2 ^ d := Nat.two_pow_pos _
  have hk2 : k ≤ 2 * B := by
    rcases Nat.lt_or_ge (2 * B) k with h | h
    · have h1 := (c1 (by omega)).1
      have h2 : (2 * (2 * B) + 1) * 2 ^ d ≤ (2 * k - 1) * 2 ^ d := Nat.mul_le_mul_right _ (by omega)
      have h3 : (2 * (2 * B) + 1) * 2 ^ d = 2 * (2 * B * 2 ^ d) + 2 ^ d := by rw [Nat.add_mul, Nat.one_mul, Nat.mul_assoc]
      omega
    · exact h
  have hkB : 0 < q → B ≤ k := by
    intro h0
    rcases Nat.lt_or_ge k B with h | h
    · have h1 := hlow h0
      have h2 : (2 * k + 1) * 2 ^ d ≤ (2 * B - 1) * 2 ^ d := Nat.mul_le_mul_right _ (by omega)
      have h3 : (2 * B - 1) * 2 ^ d = 2 * (B * 2 ^ d) - 2 ^ d := by rw [Nat.sub_mul, Nat.one_mul, Nat.mul_assoc]
      have h4 : 2 ^ d ≤ B * 2 ^ d := Nat.le_mul_of_pos_left _ (by decide)
      omega
    · exact h
  rw [← hT1]
  generalize hN : mag * 2 ^ sh = N at *
  have mulT : ∀ x y : Nat, x * 2 ^ d ≤ 2 * y → x * 2 ^ q * 2 ^ e ≤ 2 * (y * T) := by
    intro x y h
    rw [Nat.mul_assoc, ← hT2, ← Nat.mul_assoc, ← Nat.mul_assoc]
    exact Nat.mul_le_mul_right _ h
  have mulT2 : ∀ x y : Nat, 2 * y ≤ x * 2 ^ d → 2 * (y * T) ≤ x * 2 ^ q * 2 ^ e := by
    intro x y h
    rw [Nat.mul_assoc x, ← hT2, ← Nat.mul_assoc, ← Nat.mul_assoc]
    exact Nat.mul_le_mul_right _ h
  have mulE : ∀ x y : Nat, x * 2 ^ q * 2 ^ e = 2 * (y * T) → x * 2 ^ d = 2 * y := by
    intro x y h
    rw [Nat.mul_assoc, ← hT2, ← Nat.mul_assoc, ← Nat.mul_assoc] at h
    exact Nat.eq_of_mul_eq_mul_right hT0 h
  refine spec_of q k (N * T) (2 ^ e) (Nat.two_pow_pos _) ?_ (fun h0 => ⟨mulT _ _ (c1 h0).1, fun h => (c1 h0).2 (mulE _ _ h)⟩) ⟨mulT2 _ _ c2, fun h => c3 (mulE _ _ h.symm).symm⟩
  rcases Nat.eq_zero_or_pos q with h | h
  · exact .inl ⟨h, hk2⟩
  · refine .inr ⟨hkB h, hk2, ?_⟩
    rw [Nat.mul_assoc, ← hT2, ← Nat.mul_assoc]
    exact Nat.mul_le_mul_right _ (hlow h)
/-- A greater number has no lesser rung. -/
theorem spec_mono (r1 r2 X1 X2 E : Nat) (hE : 0 < E) (h1 : Spec r1 X1 E) (h2 : Spec r2 X2 E) (hx : X1 ≤ X2) : r1 ≤ r2 := by
  rcases Nat.lt_or_ge r2 r1 with h | h
  · exfalso
    obtain ⟨a1, a2, _⟩ := h1
    obtain ⟨b1, _, b3⟩ := h2
    obtain ⟨a3, a4⟩ := a2 (by omega)
    obtain ⟨b4, b5⟩ := b3 (by omega)
    have u1 : U r2 ≤ U (r1 - 1) := U_le _ _ (by omega)
    have u2 : U (r2 + 1) ≤ U r1 := U_le _ _ (by omega)
    have u3 : (U r2 + U (r2 + 1)) * E ≤ (U (r1 - 1) + U r1) * E := Nat.mul_le_mul_right _ (by omega)
    have p1 := a4 (by omega)
    have p2 := b5 (by omega)
    have u4 : (U r2 + U (r2 + 1)) * E = (U (r1 - 1) + U r1) * E := by omega
    have u5 := Nat.eq_of_mul_eq_mul_right hE u4
    by_cases c : r2 + 1 = r1
    · omega
    · have u6 := U_lt (r2 + 1) r1 (by omega)
      omega
  · exact h
/-- A number that the format has stays what it is. -/
theorem spec_exact (r s X E : Nat) (hE : 0 < E) (h : Spec r X E) (hs : s ≤ INF) (hx : X = U s * E) : r = s := by
  obtain ⟨a1, a2, a3⟩ := h
  have e2 : 2 * X = (U s + U s) * E := by rw [hx, Nat.add_mul]; omega
  have hle : r ≤ s := by
    rcases Nat.lt_or_ge s r with h | h
    · exfalso
      have h1 := (a2 (by omega)).1
      rw [e2] at h1
      have h2 := Nat.le_of_mul_le_mul_right h1 hE
      have h3 := U_le s (r - 1) (by omega)
      have h4 := U_lt s r h
      omega
    · exact h
  rcases Nat.lt_or_ge r s with h | h
  · exfalso
    have h1 := (a3 (by omega)).1
    rw [e2] at h1
    have h2 := Nat.le_of_mul_le_mul_right h1 hE
    have h3 := U_le (r + 1) s (by omega)
    have h4 := U_lt r s h
    omega
  · omega
end Go.Proofs.Ytpmckbpplkkgaaa.Fl
