/- The law of what may be a weight. Conditions: none. -/
import Derived.Test.YtengoedkpogegaaClasses
set_option linter.unusedVariables false
set_option linter.unusedSimpArgs false
namespace Go.Proofs.Ytengoedkpogegaa.Base
open Go Go.RowKit Go.Proofs.Ytengoedkpogegaa.Mem Go.Proofs.YtengoedkpogegaaW.PrintWords Go.Proofs.Ytengoedkpogegaa.Fl
theorem cls_rest (n : Nat) (hn : n < 18446744073709551616) : (cls n = 5 → n = 9218868437227405312) ∧ (cls n = 6 → 9223372036854775808 ≤ n ∧ n % 9223372036854775808 ≠ 0 ∧ ¬ 9218868437227405312 < n % 9223372036854775808) ∧ (cls n = 7 → 9218868437227405312 < n % 9223372036854775808) := by
  have hc : cls n = if 9218868437227405312 < n % 9223372036854775808 then 7 else if n % 9223372036854775808 = 0 then (if 9223372036854775808 ≤ n then 2 else 1) else if 9223372036854775808 ≤ n then 6 else if n % 9223372036854775808 = 9218868437227405312 then 5 else if n % 9223372036854775808 < 4503599627370496 then 3 else 4 := rfl
  rw [hc]
  clear hc
  by_cases c1 : 9218868437227405312 < n % 9223372036854775808
  · rw [if_pos c1]; exact ⟨fun h => by omega, fun h => by omega, fun _ => c1⟩
  · rw [if_neg c1]
    by_cases c2 : n % 9223372036854775808 = 0
    · rw [if_pos c2]
      by_cases c3 : 9223372036854775808 ≤ n
      · rw [if_pos c3]; exact ⟨fun h => by omega, fun h => by omega, fun h => by omega⟩
      · rw [if_neg c3]; exact ⟨fun h => by omega, fun h => by omega, fun h => by omega⟩
    · rw [if_neg c2]
      by_cases c3 : 9223372036854775808 ≤ n
      · rw [if_pos c3]; exact ⟨fun h => by omega, fun h => ⟨c3, c2, c1⟩, fun h => by omega⟩
      · rw [if_neg c3]
        by_cases c4 : n % 9223372036854775808 = 9218868437227405312
        · rw [if_pos c4]; exact ⟨fun _ => by omega, fun h => by omega, fun h => by omega⟩
        · rw [if_neg c4]
          by_cases c5 : n % 9223372036854775808 < 4503599627370496
          · rw [if_pos c5]; exact ⟨fun h => by omega, fun h => by omega, fun h => by omega⟩
          · rw [if_neg c5]; exact ⟨fun h => by omega, fun h => by omega, fun h => by omega⟩
theorem lt_pos (a b : Nat) (ha : a ≤ INF) (hb : b ≤ INF) : (FloatKind.f64.format.order a b == some .lt) = decide (a < b) := by
  obtain ⟨a1, a2⟩ := K_pos a ha
  obtain ⟨b1, b2⟩ := K_pos b hb
  rw [ord_key a b (by rw [a2]; exact ha) (by rw [b2]; exact hb), cmp_lt, a1, b1]
  exact decide_eq_decide.2 ⟨fun h => by omega, fun h => by omega⟩
theorem le_pos (a b : Nat) (ha : a ≤ INF) (hb : b ≤ INF) : (FloatKind.f64.format.order a b == some .lt || FloatKind.f64.format.order a b == some .eq) = decide (a ≤ b) := by
  obtain ⟨a1, a2⟩ := K_pos a ha
  obtain ⟨b1, b2⟩ := K_pos b hb
  rw [ord_key a b (by rw [a2]; exact ha) (by rw [b2]; exact hb), cmp_lt, cmp_eq, a1, b1, ← Bool.decide_or]
  exact decide_eq_decide.2 ⟨fun h => by omega, fun h => by omega⟩
theorem ge_pos (a b : Nat) (ha : a ≤ INF) (hb : b ≤ INF) : (FloatKind.f64.format.order a b == some .gt || FloatKind.f64.format.order a b == some .eq) = decide (b ≤ a) := by
  obtain ⟨a1, a2⟩ := K_pos a ha
  obtain ⟨b1, b2⟩ := K_pos b hb
  rw [ord_key a b (by rw [a2]; exact ha) (by rw [b2]; exact hb), cmp_gt, cmp_eq, a1, b1, ← Bool.decide_or]
  exact decide_eq_decide.2 ⟨fun h => by omega, fun h => by omega⟩
set_option maxHeartbeats 6400000 in
theorem maylaw_any (n : Nat) (hn : n < 18446744073709551616) (w : World) : Calls Try.prog 9 #[.int .u64 (n : Int)] w fun e w' => e = .returned (.bool true) ∧ Below w.heap.size w w' := by
  have HC := Lib.hid (class_any n hn)
  have HM := Lib.hid (may_any n hn)
  have hx := frombits (n : Int)
  rw [Int.toNat_natCast] at hx
  have hy := frombits 4503599627370496
  obtain ⟨r5, r6, r7⟩ := cls_rest n hn
  have hg := cls_good n hn
  rcases cls_cases n with h | h | h | h | h | h | h
  · have hm := may_123 n (.inl h)
    have hn0 : n = 0 := by have := hg (.inl h); omega
    rw [h] at HC
    rw [hm] at HM
    have o1 : (FloatKind.f64.format.order n 0 != some .eq) = false := by rw [hn0]; decide +kernel
    have o2 : ((n : Int) == 0) = true := by rw [hn0]; rfl
    clear hn0
    clear hg r5 r6 r7 h hm
    go_enter Try.func9, Try.ntmps9
    go_wp2_with fail
    refine (HM.out _).mono ?_
    rintro e _ ⟨rfl, rfl⟩
    go_wp2_with fail
    refine (HC.out _).mono ?_
    rintro e _ ⟨rfl, rfl⟩
    go_wp2_with fail
    refine (HC.out _).mono ?_
    rintro e _ ⟨rfl, rfl⟩
    go_wp2_with fail
    refine (awake_any _).mono ?_
    rintro e w1 ⟨rfl, hb1⟩
    go_wp2_with fail
    go_ret
    exact ⟨rfl, hb1⟩
  · have hm := may_123 n (.inr (.inl h))
    have hn0 : n = 9223372036854775808 := by have := hg (.inr (.inl h)); omega
    rw [h] at HC
    rw [hm] at HM
    have o1 : (FloatKind.f64.format.order n 0 != some .eq) = false := by rw [hn0]; decide +kernel
    have o2 : ((n : Int) == 0) = false := by rw [hn0]; rfl
    clear hn0
    clear hg r5 r6 r7 h hm
    go_enter Try.func9, Try.ntmps9
    go_wp2_with fail
    refine (HM.out _).mono ?_
    rintro e _ ⟨rfl, rfl⟩
    go_wp2_with fail
    refine (HC.out _).mono ?_
    rintro e _ ⟨rfl, rfl⟩
    go_wp2_with fail
    refine (HC.out _).mono ?_
    rintro e _ ⟨rfl, rfl⟩
    go_wp2_with fail
    refine (awake_any _).mono ?_
    rintro e w1 ⟨rfl, hb1⟩
    go_wp2_with fail
    go_ret
    exact ⟨rfl, hb1⟩
  · have hm := may_123 n (.inr (.inr h))
    have hr : 0 < n ∧ n < 4503599627370496 := by have := hg (.inr (.inr (.inl h))); omega
    have hi : n ≤ INF := Nat.le_trans (Nat.le_of_lt hr.2) (by decide)
    rw [h] at HC
    rw [hm] at HM
    have o1 := gt_pos n 0 hi (by decide)
    have o2 := lt_pos n 4503599627370496 hi (by decide)
    rw [decide_eq_true hr.1] at o1
    rw [decide_eq_true hr.2] at o2
    clear hg r5 r6 r7 h hm hr hi
    go_enter Try.func9, Try.ntmps9
    go_wp2_with fail
    refine (HM.out _).mono ?_
    rintro e _ ⟨rfl, rfl⟩
    go_wp2_with fail
    refine (HC.out _).mono ?_
    rintro e _ ⟨rfl, rfl⟩
    go_wp2_with fail
    refine (awake_any _).mono ?_
    rintro e w1 ⟨rfl, hb1⟩
    go_wp2_with fail
    go_ret
    exact ⟨rfl, hb1⟩
  · have hm := may_ord n hn (.inr (.inr (.inr h)))
    have hr : 4503599627370496 ≤ n ∧ n ≤ 9218868437227405311 := by have := hg (.inr (.inr (.inr h))); omega
    have hi : n ≤ INF := Nat.le_trans hr.2 (by decide)
    rw [h] at HC
    have o1 := ge_pos n 4503599627370496 hi (by decide)
    have o2 := le_pos n 9218868437227405311 hi (by decide)
    rw [decide_eq_true hr.1] at o1
    rw [decide_eq_true hr.2] at o2
    clear hg r5 r6 r7 h hr hi
    generalize may n = b at *
    go_enter Try.func9, Try.ntmps9
    go_wp2_with fail
    refine (HM.out _).mono ?_
    rintro e _ ⟨rfl, rfl⟩
    go_wp2_with fail
    refine (HC.out _).mono ?_
    rintro e _ ⟨rfl, rfl⟩
    go_wp2_with fail
    refine (awake_any _).mono ?_
    rintro e w1 ⟨rfl, hb1⟩
    go_wp2_with fail
    go_ret
    exact ⟨rfl, hb1⟩
  · have hm := may_no n (by omega)
    have hn0 := r5 h
    rw [h] at HC
    rw [hm] at HM
    have o1 : (FloatKind.f64.format.order n 9218868437227405311 == some .gt) = true := by rw [hn0]; decide +kernel
    clear hn0
    clear hg r6 r7 r5 h hm
    go_enter Try.func9, Try.ntmps9
    go_wp2_with fail
    refine (HM.out _).mono ?_
    rintro e _ ⟨rfl, rfl⟩
    go_wp2_with fail
    refine (HC.out _).mono ?_
    rintro e _ ⟨rfl, rfl⟩
    go_wp2_with fail
    refine (awake_any _).mono ?_
    rintro e w1 ⟨rfl, hb1⟩
    go_wp2_with fail
    go_ret
    exact ⟨rfl, hb1⟩
  · have hm := may_no n (by omega)
    have hr := r6 h
    rw [h] at HC
    rw [hm] at HM
    have o1 := (ord_facts n hn hr.2.2).2.1
    rw [decide_eq_true ⟨hr.1, hr.2.1⟩] at o1
    clear hg r5 r6 r7 h hm hr
    go_enter Try.func9, Try.ntmps9
    go_wp2_with fail
    refine (HM.out _).mono ?_
    rintro e _ ⟨rfl, rfl⟩
    go_wp2_with fail
    refine (HC.out _).mono ?_
    rintro e _ ⟨rfl, rfl⟩
    go_wp2_with fail
    refine (awake_any _).mono ?_
    rintro e w1 ⟨rfl, hb1⟩
    go_wp2_with fail
    go_ret
    exact ⟨rfl, hb1⟩
  · have hm := may_no n (by omega)
    have hr := r7 h
    rw [h] at HC
    rw [hm] at HM
    have o1 : (FloatKind.f64.format.order n n == some .eq) = false := by rw [ord_nan n n (.inl hr)]; rfl
    clear hg r5 r6 r7 h hm hr
    go_enter Try.func9, Try.ntmps9
    go_wp2_with fail
    refine (HM.out _).mono ?_
    rintro e _ ⟨rfl, rfl⟩
    go_wp2_with fail
    refine (HC.out _).mono ?_
    rintro e _ ⟨rfl, rfl⟩
    go_wp2_with fail
    refine (awake_any _).mono ?_
    rintro e w1 ⟨rfl, hb1⟩
    go_wp2_with fail
    go_ret
    exact ⟨rfl, hb1⟩
end Go.Proofs.Ytengoedkpogegaa.Base
namespace Go.Proofs.Ytengoedkpogegaa.MayLaw
open Go Go.RowKit
theorem core (n : Int) (w : World) (h : (Lit.int .u64 n).wf = true) : Calls Try.prog 9 #[.int .u64 n] w fun e w' => e = .returned (.bool true) ∧ Below w.heap.size w w' := by
  obtain ⟨h0, h1⟩ := Base.wf_u64 h
  obtain ⟨k, rfl⟩ : ∃ k : Nat, n = (k : Int) := ⟨n.toNat, by omega⟩
  exact Base.maylaw_any k (by omega) w
end Go.Proofs.Ytengoedkpogegaa.MayLaw
