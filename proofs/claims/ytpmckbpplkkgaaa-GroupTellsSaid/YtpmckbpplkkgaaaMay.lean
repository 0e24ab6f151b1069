/- Classes of weights as the document has them, and whether weights may be. Conditions: as each contract says. -/
import Derived.Test.YtpmckbpplkkgaaaBase
set_option linter.unusedVariables false
set_option linter.unusedSimpArgs false
namespace Go.Proofs.Ytpmckbpplkkgaaa.Base
open Go Go.RowKit Go.Proofs.Ytpmckbpplkkgaaa.Mem Go.Proofs.YtpmckbpplkkgaaaW.PrintWords Go.Proofs.Ytpmckbpplkkgaaa.Fl
theorem parts (n : Nat) (hn : n < 18446744073709551616) : (n % 9223372036854775808 = 0 ↔ n / 4503599627370496 % 2048 = 0 ∧ n % 4503599627370496 = 0) ∧ (9218868437227405312 < n % 9223372036854775808 ↔ n / 4503599627370496 % 2048 = 2047 ∧ n % 4503599627370496 ≠ 0) ∧
    (n % 9223372036854775808 = 9218868437227405312 ↔ n / 4503599627370496 % 2048 = 2047 ∧ n % 4503599627370496 = 0) ∧ (n % 9223372036854775808 < 4503599627370496 ↔ n / 4503599627370496 % 2048 = 0) := by
  refine ⟨?_, ?_, ?_, ?_⟩ <;> omega
set_option maxHeartbeats 3200000 in
theorem refclass_any (n : Nat) (hn : n < 18446744073709551616) (w : World) : Calls Try.prog 41 #[.int .u64 (n : Int)] w fun e w' => e = .returned (.int .u8 (cls n)) ∧ w = w' := by
  have hw : ∀ x : Int, IntKind.u64.wrap x = x % 18446744073709551616 := fun x => by simp [IntKind.wrap, IntKind.signed, IntKind.bits]
  have d1 : (n : Int).tdiv 4503599627370496 = ((n / 4503599627370496 : Nat) : Int) := rfl
  have d2 : (n : Int) / 4503599627370496 = ((n / 4503599627370496 : Nat) : Int) := rfl
  have d3 : IntKind.u64.wrap ((n / 4503599627370496 : Nat) : Int) = ((n / 4503599627370496 : Nat) : Int) := by rw [hw]; omega
  have d4 : ((n / 4503599627370496 : Nat) : Int).tmod 2048 = ((n / 4503599627370496 % 2048 : Nat) : Int) := rfl
  have d5 : ((n / 4503599627370496 : Nat) : Int) % 2048 = ((n / 4503599627370496 % 2048 : Nat) : Int) := rfl
  have d6 : (n : Int).tmod 4503599627370496 = ((n % 4503599627370496 : Nat) : Int) := rfl
  have d7 : (n : Int) % 4503599627370496 = ((n % 4503599627370496 : Nat) : Int) := rfl
  have e3 : decide ((9223372036854775808 : Int) ≤ (n : Int)) = decide (9223372036854775808 ≤ n) := decide_eq_decide.2 ⟨fun h => by omega, fun h => by omega⟩
  obtain ⟨p1, p2, p3, p4⟩ := parts n hn
  have hc : cls n = if 9218868437227405312 < n % 9223372036854775808 then 7 else if n % 9223372036854775808 = 0 then (if 9223372036854775808 ≤ n then 2 else 1) else if 9223372036854775808 ≤ n then 6 else if n % 9223372036854775808 = 9218868437227405312 then 5 else if n % 9223372036854775808 < 4503599627370496 then 3 else 4 := rfl
  clear hw
  generalize n / 4503599627370496 % 2048 = e at *
  generalize n / 4503599627370496 = a0 at *
  generalize n % 4503599627370496 = f at *
  generalize n % 9223372036854775808 = r at *
  generalize cls n = c at *
  have tt : ∀ x y : Nat, x = y → ((x : Int) == (y : Int)) = true ∧ ((x : Int) != (y : Int)) = false := fun x y h => by rw [h]; simp
  have ff : ∀ x y : Nat, x ≠ y → ((x : Int) == (y : Int)) = false ∧ ((x : Int) != (y : Int)) = true := fun x y h => by
    have h2 : ¬ (x : Int) = (y : Int) := by omega
    simp [h2]
  have hcase : (e = 2047 ∧ f ≠ 0 ∧ c = 7) ∨ (e = 0 ∧ f = 0 ∧ 9223372036854775808 ≤ n ∧ c = 2) ∨ (e = 0 ∧ f = 0 ∧ ¬ 9223372036854775808 ≤ n ∧ c = 1) ∨ (e = 0 ∧ f ≠ 0 ∧ 9223372036854775808 ≤ n ∧ c = 6) ∨ (e = 0 ∧ f ≠ 0 ∧ ¬ 9223372036854775808 ≤ n ∧ c = 3) ∨
      (e = 2047 ∧ f = 0 ∧ 9223372036854775808 ≤ n ∧ c = 6) ∨ (e = 2047 ∧ f = 0 ∧ ¬ 9223372036854775808 ≤ n ∧ c = 5) ∨ (e ≠ 2047 ∧ e ≠ 0 ∧ 9223372036854775808 ≤ n ∧ c = 6) ∨ (e ≠ 2047 ∧ e ≠ 0 ∧ ¬ 9223372036854775808 ≤ n ∧ c = 4) := by
    by_cases c1 : e = 2047
    · by_cases c2 : f = 0
      · by_cases c3 : 9223372036854775808 ≤ n <;> simp_all
      · simp_all
    · by_cases c4 : e = 0
      · by_cases c2 : f = 0
        · by_cases c3 : 9223372036854775808 ≤ n <;> simp_all
        · by_cases c3 : 9223372036854775808 ≤ n <;> simp_all
      · have h1 : ¬ r = 0 := fun h => c4 (p1.1 h).1
        have h2 : ¬ 9218868437227405312 < r := fun h => c1 (p2.1 h).1
        have h3 : ¬ r = 9218868437227405312 := fun h => c1 (p3.1 h).1
        have h4 : ¬ r < 4503599627370496 := fun h => c4 (p4.1 h)
        rw [if_neg h2, if_neg h1] at hc
        by_cases c3 : 9223372036854775808 ≤ n
        · rw [if_pos c3] at hc; simp_all
        · rw [if_neg c3, if_neg h3, if_neg h4] at hc; simp_all
  clear p1 p2 p3 p4 hc
  rcases hcase with ⟨a, b, rfl⟩ | ⟨a, b, d, rfl⟩ | ⟨a, b, d, rfl⟩ | ⟨a, b, d, rfl⟩ | ⟨a, b, d, rfl⟩ | ⟨a, b, d, rfl⟩ | ⟨a, b, d, rfl⟩ | ⟨a, b, d, rfl⟩ | ⟨a, b, d, rfl⟩
  · subst a
    have x2 : ((f : Int) != 0) = true := (ff f 0 b).2
    clear tt ff b
    go_enter Try.func41, Try.ntmps41
    go_wp2_with fail
    go_ret
    exact ⟨rfl, rfl⟩
  · subst a b
    skip
    rw [decide_eq_true d] at e3
    clear tt ff d
    go_enter Try.func41, Try.ntmps41
    go_wp2_with fail
    go_ret
    exact ⟨rfl, rfl⟩
  · subst a b
    skip
    rw [decide_eq_false d] at e3
    clear tt ff d
    go_enter Try.func41, Try.ntmps41
    go_wp2_with fail
    go_ret
    exact ⟨rfl, rfl⟩
  · subst a
    have x2 : ((f : Int) == 0) = false := (ff f 0 b).1
    rw [decide_eq_true d] at e3
    clear tt ff b d
    go_enter Try.func41, Try.ntmps41
    go_wp2_with fail
    go_ret
    exact ⟨rfl, rfl⟩
  · subst a
    have x2 : ((f : Int) == 0) = false := (ff f 0 b).1
    rw [decide_eq_false d] at e3
    clear tt ff b d
    go_enter Try.func41, Try.ntmps41
    go_wp2_with fail
    go_ret
    exact ⟨rfl, rfl⟩
  · subst a b
    skip
    rw [decide_eq_true d] at e3
    clear tt ff d
    go_enter Try.func41, Try.ntmps41
    go_wp2_with fail
    go_ret
    exact ⟨rfl, rfl⟩
  · subst a b
    skip
    rw [decide_eq_false d] at e3
    clear tt ff d
    go_enter Try.func41, Try.ntmps41
    go_wp2_with fail
    go_ret
    exact ⟨rfl, rfl⟩
  · have x1 : ((e : Int) == 2047) = false := (ff e 2047 a).1
    have x2 : ((e : Int) == 0) = false := (ff e 0 b).1
    rw [decide_eq_true d] at e3
    clear tt ff a b d
    go_enter Try.func41, Try.ntmps41
    go_wp2_with fail
    go_ret
    exact ⟨rfl, rfl⟩
  · have x1 : ((e : Int) == 2047) = false := (ff e 2047 a).1
    have x2 : ((e : Int) == 0) = false := (ff e 0 b).1
    rw [decide_eq_false d] at e3
    clear tt ff a b d
    go_enter Try.func41, Try.ntmps41
    go_wp2_with fail
    go_ret
    exact ⟨rfl, rfl⟩
/-- May bits be a weight? -/
def may (n : Nat) : Bool := decide (cls n = 1 ∨ cls n = 2 ∨ cls n = 3 ∨ (cls n = 4 ∧ n ≤ 4697254411347427328))
theorem cls_cases (n : Nat) : cls n = 1 ∨ cls n = 2 ∨ cls n = 3 ∨ cls n = 4 ∨ cls n = 5 ∨ cls n = 6 ∨ cls n = 7 := by
  unfold cls
  repeat' split
  all_goals simp
/-- Bits of the classes that may be: nought of either sign, or a number above it. -/
theorem cls_good (n : Nat) (hn : n < 18446744073709551616) (h : cls n = 1 ∨ cls n = 2 ∨ cls n = 3 ∨ cls n = 4) : (cls n = 2 ∧ n = 9223372036854775808) ∨ (cls n = 1 ∧ n = 0) ∨ (cls n = 3 ∧ 0 < n ∧ n < 4503599627370496) ∨ (cls n = 4 ∧ 4503599627370496 ≤ n ∧ n < 9218868437227405312) := by
  have hc : cls n = if 9218868437227405312 < n % 9223372036854775808 then 7 else if n % 9223372036854775808 = 0 then (if 9223372036854775808 ≤ n then 2 else 1) else if 9223372036854775808 ≤ n then 6 else if n % 9223372036854775808 = 9218868437227405312 then 5 else if n % 9223372036854775808 < 4503599627370496 then 3 else 4 := rfl
  rw [hc] at h ⊢
  clear hc
  by_cases c1 : 9218868437227405312 < n % 9223372036854775808
  · rw [if_pos c1] at h; omega
  · rw [if_neg c1] at h ⊢
    by_cases c2 : n % 9223372036854775808 = 0
    · rw [if_pos c2] at h ⊢
      by_cases c3 : 9223372036854775808 ≤ n
      · rw [if_pos c3]; exact .inl ⟨rfl, by omega⟩
      · rw [if_neg c3]; exact .inr (.inl ⟨rfl, by omega⟩)
    · rw [if_neg c2] at h ⊢
      by_cases c3 : 9223372036854775808 ≤ n
      · rw [if_pos c3] at h; omega
      · rw [if_neg c3] at h ⊢
        by_cases c4 : n % 9223372036854775808 = 9218868437227405312
        · rw [if_pos c4] at h; omega
        · rw [if_neg c4] at h ⊢
          by_cases c5 : n % 9223372036854775808 < 4503599627370496
          · rw [if_pos c5]; exact .inr (.inr (.inl ⟨rfl, by omega, by omega⟩))
          · rw [if_neg c5]; exact .inr (.inr (.inr ⟨rfl, by omega, by omega⟩))
theorem may_ord (n : Nat) (hn : n < 18446744073709551616) (h : cls n = 1 ∨ cls n = 2 ∨ cls n = 3 ∨ cls n = 4) :
    (FloatKind.f64.format.order n 4697254411347427328 == some .lt || FloatKind.f64.format.order n 4697254411347427328 == some .eq) = may n := by
  have hg := cls_good n hn h
  have hr : n % SW ≤ INF := by
    show n % 9223372036854775808 ≤ 9218868437227405312
    omega
  have hk : K 4697254411347427328 = 4697254411347427328 := by decide
  have e : (FloatKind.f64.format.order n 4697254411347427328 == some .lt || FloatKind.f64.format.order n 4697254411347427328 == some .eq) = decide (K n ≤ 4697254411347427328) := by
    rw [ord_key n _ hr (by decide), cmp_lt, cmp_eq, hk, ← Bool.decide_or]
    exact decide_eq_decide.2 ⟨fun h => by omega, fun h => by omega⟩
  rw [e]
  unfold may
  refine decide_eq_decide.2 ?_
  have hK : (9223372036854775808 ≤ n → K n = -((n % 9223372036854775808 : Nat) : Int)) ∧ (¬ 9223372036854775808 ≤ n → K n = ((n % 9223372036854775808 : Nat) : Int)) := by
    have := K_eq n hn
    refine ⟨fun h => ?_, fun h => ?_⟩
    · rw [this]; exact if_pos h
    · rw [this]; exact if_neg h
  rcases hg with ⟨g1, g2⟩ | ⟨g1, g2⟩ | ⟨g1, g2, g3⟩ | ⟨g1, g2, g3⟩
  · have := hK.1 (by omega); exact ⟨fun _ => .inr (.inl g1), fun _ => by omega⟩
  · have := hK.2 (by omega); exact ⟨fun _ => .inl g1, fun _ => by omega⟩
  · have := hK.2 (by omega); exact ⟨fun _ => .inr (.inr (.inl g1)), fun _ => by omega⟩
  · have := hK.2 (by omega)
    exact ⟨fun h => .inr (.inr (.inr ⟨g1, by omega⟩)), fun h => by omega⟩
theorem may_123 (n : Nat) (h : cls n = 1 ∨ cls n = 2 ∨ cls n = 3) : may n = true := decide_eq_true (by omega)
theorem may_no (n : Nat) (h : ¬ (cls n = 1 ∨ cls n = 2 ∨ cls n = 3 ∨ cls n = 4)) : may n = false := decide_eq_false (by omega)
set_option maxHeartbeats 1600000 in
theorem may_any (n : Nat) (hn : n < 18446744073709551616) (w : World) : Calls Try.prog 21 #[.int .u64 (n : Int)] w fun e w' => e = .returned (.bool (may n)) ∧ w = w' := by
  have HC := Lib.hid (class_any n hn)
  have hx := frombits (n : Int)
  rw [Int.toNat_natCast] at hx
  by_cases hg : cls n = 1 ∨ cls n = 2 ∨ cls n = 3 ∨ cls n = 4
  · have ho := may_ord n hn hg
    have HG := Lib.hid hg
    clear hg
    go_enter Try.func21, Try.ntmps21
    go_wp2_with fail
    refine (HC.out _).mono ?_
    rintro e _ ⟨rfl, rfl⟩
    rcases HG.out with h | h | h | h
    all_goals
      rw [h]
      clear h
      go_wp2_with fail
      go_ret
      exact ⟨by rfl, rfl⟩
  · have HM := Lib.hid (may_no n hg)
    have h5 := cls_cases n
    have h6 : cls n = 5 ∨ cls n = 6 ∨ cls n = 7 := by omega
    clear h5 hg
    have HG := Lib.hid h6
    clear h6
    go_enter Try.func21, Try.ntmps21
    go_wp2_with fail
    refine (HC.out _).mono ?_
    rintro e _ ⟨rfl, rfl⟩
    rcases HG.out with h | h | h
    all_goals
      rw [h]
      clear h
      go_wp2_with fail
      go_ret
      exact ⟨by rw [HM.out]; rfl, rfl⟩
set_option maxHeartbeats 1600000 in
theorem refmay_any (n : Nat) (hn : n < 18446744073709551616) (w : World) : Calls Try.prog 31 #[.int .u64 (n : Int)] w fun e w' => e = .returned (.bool (may n)) ∧ w = w' := by
  have HC := Lib.hid (refclass_any n hn)
  have hx := frombits (n : Int)
  rw [Int.toNat_natCast] at hx
  have HH := Lib.hid (cls_cases n)
  have HO := Lib.hid (fun h => may_ord n hn h)
  have HM := Lib.hid (may_123 n)
  have HN := Lib.hid (may_no n)
  go_enter Try.func31, Try.ntmps31
  go_wp2_with fail
  refine (HC.out _).mono ?_
  rintro e _ ⟨rfl, rfl⟩
  rcases HH.out with h | h | h | h | h | h | h
  · have hm := Lib.hid (HM.out (.inl h))
    rw [h]
    clear h
    go_wp2_with fail
    go_ret
    exact ⟨by rw [hm.out]; rfl, rfl⟩
  · have hm := Lib.hid (HM.out (.inr (.inl h)))
    rw [h]
    clear h
    go_wp2_with fail
    go_ret
    exact ⟨by rw [hm.out]; rfl, rfl⟩
  · have hm := Lib.hid (HM.out (.inr (.inr h)))
    rw [h]
    clear h
    go_wp2_with fail
    go_ret
    exact ⟨by rw [hm.out]; rfl, rfl⟩
  · have ho := HO.out (.inr (.inr (.inr h)))
    rw [h]
    clear h
    go_wp2_with fail
    go_ret
    exact ⟨by rfl, rfl⟩
  all_goals
    have hno := Lib.hid (HN.out (by omega))
    rw [h]
    clear h
    go_wp2_with fail
    go_ret
    exact ⟨by rw [hno.out]; rfl, rfl⟩
end Go.Proofs.Ytpmckbpplkkgaaa.Base
