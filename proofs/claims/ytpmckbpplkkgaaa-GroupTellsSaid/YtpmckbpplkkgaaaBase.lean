/- Classes of weights: what the inner functions tell. Conditions: as each contract says. -/
import Derived.Test.YtpmckbpplkkgaaaProg
import Derived.Test.YtpmckbpplkkgaaaMem
import Derived.Test.YtpmckbpplkkgaaaNear
import Derived.Lib.Hide
import Derived.WalkLawsBesides
import Derived.Laws.Externs
import Derived.BigQuiet
import Derived.IntWalk
import Derived.Deep.DeepMust
set_option linter.unusedVariables false
set_option linter.unusedSimpArgs false
namespace Go.Proofs.Ytpmckbpplkkgaaa.Base
open Go Go.RowKit Go.Proofs.Ytpmckbpplkkgaaa.Mem Go.Proofs.YtpmckbpplkkgaaaW.PrintWords Go.Proofs.Ytpmckbpplkkgaaa.Fl
theorem frombits (n : Int) (w : World) : (callFunc 32 #[.int .u64 n]).run Try.prog w = .ok (.value (.float .f64 n.toNat)) w := by
  rw [run_callFunc_extern (P := Try.prog) (f := 32) (fn := Try.f32) (e := Extern.MathFloatBits.float64frombits) (by kernel_rfl) (by kernel_rfl) (by kernel_rfl) (by kernel_rfl) (by kernel_rfl)]
  rfl
theorem tobits (b : Nat) (w : World) : (callFunc 42 #[.float .f64 b]).run Try.prog w = .ok (.value (.int .u64 (b : Int))) w := by
  rw [run_callFunc_extern (P := Try.prog) (f := 42) (fn := Try.f42) (e := Extern.MathFloatBits.float64bits) (by kernel_rfl) (by kernel_rfl) (by kernel_rfl) (by kernel_rfl) (by kernel_rfl)]
  rfl
abbrev fo : FloatKind → Ieee.Format := FloatKind.format
theorem ord_key (a b : Nat) (ha : a % SW ≤ INF) (hb : b % SW ≤ INF) : FloatKind.f64.format.order a b = some (compare (K a) (K b)) := order_key a b ha hb
theorem ord_nan (a b : Nat) (h : INF < a % SW ∨ INF < b % SW) : FloatKind.f64.format.order a b = none := order_nan a b h
theorem cmp_eq (x y : Int) : (some (compare x y) == some Ordering.eq) = decide (x = y) := by
  simp only [compare, compareOfLessAndEq]
  by_cases h : x < y
  · rw [if_pos h]
    have : ¬ x = y := by omega
    simp [this]
  · rw [if_neg h]
    by_cases h2 : x = y
    · rw [if_pos h2]; simp [h2]
    · rw [if_neg h2]; simp [h2]
theorem cmp_lt (x y : Int) : (some (compare x y) == some Ordering.lt) = decide (x < y) := by
  simp only [compare, compareOfLessAndEq]
  by_cases h : x < y
  · rw [if_pos h]; simp [h]
  · rw [if_neg h]
    by_cases h2 : x = y
    · rw [if_pos h2]; simp [h]
    · rw [if_neg h2]; simp [h]
theorem cmp_gt (x y : Int) : (some (compare x y) == some Ordering.gt) = decide (y < x) := by
  simp only [compare, compareOfLessAndEq]
  by_cases h : x < y
  · rw [if_pos h]
    have : ¬ y < x := by omega
    simp [this]
  · rw [if_neg h]
    by_cases h2 : x = y
    · rw [if_pos h2]
      have : ¬ y < x := by omega
      simp [this]
    · rw [if_neg h2]
      have : y < x := by omega
      simp [this]
theorem isnan_any (b : Nat) (w : World) : Calls Try.prog 33 #[.float .f64 b] w fun e w' => e = .returned (.bool (decide (INF < b % SW))) ∧ w = w' := by
  have h : (FloatKind.f64.format.order b b != some .eq) = decide (INF < b % SW) := by
    by_cases c : INF < b % SW
    · rw [ord_nan b b (.inl c)]; simp [c]
    · rw [ord_key b b (by omega) (by omega), bne, cmp_eq]; simp [c]
  go_enter Try.func33, Try.ntmps33
  go_wp2_with fail
  go_ret
  exact ⟨by rfl, rfl⟩
theorem signbit_any (b : Nat) (hb : b < 18446744073709551616) (w : World) : Calls Try.prog 34 #[.float .f64 b] w fun e w' => e = .returned (.bool (decide (SW ≤ b))) ∧ w = w' := by
  have h : decide (wrap64 (b : Int) < 0) = decide (SW ≤ b) := by
    unfold wrap64
    show decide (_ < 0) = decide (9223372036854775808 ≤ b)
    by_cases c : 9223372036854775808 ≤ b
    · rw [decide_eq_true c, decide_eq_true (by omega)]
    · rw [decide_eq_false c, decide_eq_false (by omega)]
  have hx := tobits b
  go_enter Try.func34, Try.ntmps34
  go_wp2_with fail
  go_ret
  exact ⟨by rfl, rfl⟩
theorem isinf_any (b : Nat) (hb : b % SW ≤ INF) (w : World) : Calls Try.prog 35 #[.float .f64 b, .int .i64 1] w fun e w' => e = .returned (.bool (decide (K b = 9218868437227405312))) ∧ w = w' := by
  have h : (FloatKind.f64.format.order b 9218868437227405311 == some .gt) = decide (K b = 9218868437227405312) := by
    have hk : K 9218868437227405311 = 9218868437227405311 := by decide
    rw [ord_key b _ hb (by decide), cmp_gt, hk]
    have hb' : b % SW ≤ 9218868437227405312 := hb
    have hle : K b ≤ 9218868437227405312 := by unfold K; split <;> omega
    exact decide_eq_decide.2 ⟨fun h => by omega, fun h => by omega⟩
  go_enter Try.func35, Try.ntmps35
  go_wp2_with fail
  go_ret
  exact ⟨by rfl, rfl⟩
/-- The class of bits. -/
def cls (n : Nat) : Int := if INF < n % SW then 7 else if n % SW = 0 then (if SW ≤ n then 2 else 1) else if SW ≤ n then 6 else if n % SW = INF then 5 else if n % SW < B then 3 else 4
theorem neg_eq (n : Nat) (h : n < 18446744073709551616) : neg n = decide (SW ≤ n) := by
  unfold neg
  show (n / 9223372036854775808 % 2 == 1) = decide (9223372036854775808 ≤ n)
  by_cases c : 9223372036854775808 ≤ n
  · rw [decide_eq_true c, show n / 9223372036854775808 = 1 by omega]; rfl
  · rw [decide_eq_false c, show n / 9223372036854775808 = 0 by omega]; rfl
theorem K_eq (n : Nat) (h : n < 18446744073709551616) : K n = if SW ≤ n then -((n % SW : Nat) : Int) else ((n % SW : Nat) : Int) := by
  unfold K
  rw [neg_eq n h]
  by_cases c : SW ≤ n
  · rw [decide_eq_true c, if_pos rfl, if_pos c]
  · rw [decide_eq_false c, if_neg (by simp), if_neg c]
/-- How bits stand to 0 and to the least number. -/
theorem ord_facts (n : Nat) (h : n < 18446744073709551616) (hn : ¬ INF < n % SW) : (FloatKind.f64.format.order n 0 == some .eq) = decide (n % SW = 0) ∧ (FloatKind.f64.format.order n 0 == some .lt) = decide (SW ≤ n ∧ n % SW ≠ 0) ∧
    (FloatKind.f64.format.order n 0 == some .gt) = decide (¬ SW ≤ n ∧ n % SW ≠ 0) ∧ (FloatKind.f64.format.order n 4503599627370496 == some .lt) = decide (SW ≤ n ∨ n % SW < B) := by
  have h0 : K 0 = 0 := by decide
  have h1 : K 4503599627370496 = 4503599627370496 := by decide
  have e : FloatKind.f64.format.order n 0 = some (compare (K n) (K 0)) := ord_key n 0 (by omega) (by decide)
  have e2 : FloatKind.f64.format.order n 4503599627370496 = some (compare (K n) (K 4503599627370496)) := ord_key n _ (by omega) (by decide)
  rw [e, e2, cmp_eq, cmp_lt, cmp_gt, cmp_lt, h0, h1, K_eq n h]
  generalize n % SW = r at *
  by_cases c : SW ≤ n
  · rw [if_pos c]
    refine ⟨?_, ?_, ?_, ?_⟩ <;> refine decide_eq_decide.2 ?_
    · omega
    · exact ⟨fun h => ⟨c, by omega⟩, fun h => by omega⟩
    · exact ⟨fun h => by omega, fun h => absurd c h.1⟩
    · exact ⟨fun h => .inl c, fun h => by omega⟩
  · rw [if_neg c]
    refine ⟨?_, ?_, ?_, ?_⟩ <;> refine decide_eq_decide.2 ?_
    · omega
    · exact ⟨fun h => by omega, fun h => absurd h.1 c⟩
    · exact ⟨fun h => ⟨c, by omega⟩, fun h => by omega⟩
    · exact ⟨fun h => .inr (by show r < 4503599627370496; omega), fun h => by
        rcases h with h | h
        · exact absurd h c
        · have : r < 4503599627370496 := h
          omega⟩
set_option maxHeartbeats 1600000 in
theorem class_any (n : Nat) (hn : n < 18446744073709551616) (w : World) : Calls Try.prog 19 #[.int .u64 (n : Int)] w fun e w' => e = .returned (.int .u8 (cls n)) ∧ w = w' := by
  have HN := Lib.hid (isnan_any n)
  have HS := Lib.hid (signbit_any n hn)
  have hx := frombits (n : Int)
  rw [Int.toNat_natCast] at hx
  by_cases c1 : INF < n % SW
  · have HE := Lib.hid (show cls n = 7 by unfold cls; rw [if_pos c1])
    have q1 : decide (INF < n % SW) = true := decide_eq_true c1
    clear c1
    go_enter Try.func19, Try.ntmps19
    go_wp2_with fail
    refine (HN.out _).mono ?_
    rintro e _ ⟨rfl, rfl⟩
    rw [q1]
    go_wp2_with fail
    go_ret
    exact ⟨by rw [HE.out]; rfl, rfl⟩
  · obtain ⟨o1, o2, o3, o4⟩ := ord_facts n hn c1
    have q1 : decide (INF < n % SW) = false := decide_eq_false c1
    have HI := Lib.hid (isinf_any n (by omega))
    have hc : (n % SW = 0 ∧ SW ≤ n) ∨ (n % SW = 0 ∧ ¬ SW ≤ n) ∨ (n % SW ≠ 0 ∧ SW ≤ n) ∨ (n % SW ≠ 0 ∧ ¬ SW ≤ n ∧ n % SW = INF) ∨ (n % SW ≠ 0 ∧ ¬ SW ≤ n ∧ n % SW ≠ INF ∧ n % SW < B) ∨ (n % SW ≠ 0 ∧ ¬ SW ≤ n ∧ n % SW ≠ INF ∧ ¬ n % SW < B) := by omega
    rcases hc with ⟨a, b⟩ | ⟨a, b⟩ | ⟨a, b⟩ | ⟨a, b, c⟩ | ⟨a, b, c, d⟩ | ⟨a, b, c, d⟩
    · rw [decide_eq_true a] at o1
      have q2 : decide (SW ≤ n) = true := decide_eq_true b
      have HE := Lib.hid (show cls n = 2 by unfold cls; rw [if_neg c1, if_pos a, if_pos b])
      clear c1 a b o2 o3 o4
      go_enter Try.func19, Try.ntmps19
      go_wp2_with fail
      refine (HN.out _).mono ?_
      rintro e _ ⟨rfl, rfl⟩
      rw [q1]
      go_wp2_with fail
      refine (HS.out _).mono ?_
      rintro e _ ⟨rfl, rfl⟩
      rw [q2]
      go_wp2_with fail
      go_ret
      exact ⟨by rw [HE.out]; rfl, rfl⟩
    · rw [decide_eq_true a] at o1
      have q2 : decide (SW ≤ n) = false := decide_eq_false b
      have HE := Lib.hid (show cls n = 1 by unfold cls; rw [if_neg c1, if_pos a, if_neg b])
      clear c1 a b o2 o3 o4
      go_enter Try.func19, Try.ntmps19
      go_wp2_with fail
      refine (HN.out _).mono ?_
      rintro e _ ⟨rfl, rfl⟩
      rw [q1]
      go_wp2_with fail
      refine (HS.out _).mono ?_
      rintro e _ ⟨rfl, rfl⟩
      rw [q2]
      go_wp2_with fail
      go_ret
      exact ⟨by rw [HE.out]; rfl, rfl⟩
    · rw [decide_eq_false a] at o1
      rw [decide_eq_true ⟨b, a⟩] at o2
      have HE := Lib.hid (show cls n = 6 by unfold cls; rw [if_neg c1, if_neg a, if_pos b])
      clear c1 a b o3 o4
      go_enter Try.func19, Try.ntmps19
      go_wp2_with fail
      refine (HN.out _).mono ?_
      rintro e _ ⟨rfl, rfl⟩
      rw [q1]
      go_wp2_with fail
      go_ret
      exact ⟨by rw [HE.out]; rfl, rfl⟩
    · rw [decide_eq_false a] at o1
      rw [decide_eq_false (fun h => b h.1)] at o2
      have q3 : decide (K n = 9218868437227405312) = true := decide_eq_true (by rw [K_eq n hn, if_neg b, c]; rfl)
      have HE := Lib.hid (show cls n = 5 by unfold cls; rw [if_neg c1, if_neg a, if_neg b, if_pos c])
      clear c1 a b c o3 o4
      go_enter Try.func19, Try.ntmps19
      go_wp2_with fail
      refine (HN.out _).mono ?_
      rintro e _ ⟨rfl, rfl⟩
      rw [q1]
      go_wp2_with fail
      refine (HI.out _).mono ?_
      rintro e _ ⟨rfl, rfl⟩
      rw [q3]
      go_wp2_with fail
      go_ret
      exact ⟨by rw [HE.out]; rfl, rfl⟩
    · rw [decide_eq_false a] at o1
      rw [decide_eq_false (fun h => b h.1)] at o2
      rw [decide_eq_true (.inr d)] at o4
      have q3 : decide (K n = 9218868437227405312) = false := decide_eq_false (fun h => c (by rw [K_eq n hn, if_neg b] at h; show n % SW = 9218868437227405312; omega))
      have HE := Lib.hid (show cls n = 3 by unfold cls; rw [if_neg c1, if_neg a, if_neg b, if_neg c, if_pos d])
      clear c1 a b c d o3
      go_enter Try.func19, Try.ntmps19
      go_wp2_with fail
      refine (HN.out _).mono ?_
      rintro e _ ⟨rfl, rfl⟩
      rw [q1]
      go_wp2_with fail
      refine (HI.out _).mono ?_
      rintro e _ ⟨rfl, rfl⟩
      rw [q3]
      go_wp2_with fail
      go_ret
      exact ⟨by rw [HE.out]; rfl, rfl⟩
    · rw [decide_eq_false a] at o1
      rw [decide_eq_false (fun h => b h.1)] at o2
      rw [decide_eq_false (fun h => by rcases h with h | h
                                       · exact b h
                                       · exact d h)] at o4
      have q3 : decide (K n = 9218868437227405312) = false := decide_eq_false (fun h => c (by rw [K_eq n hn, if_neg b] at h; show n % SW = 9218868437227405312; omega))
      have HE := Lib.hid (show cls n = 4 by unfold cls; rw [if_neg c1, if_neg a, if_neg b, if_neg c, if_neg d])
      clear c1 a b c d o3
      go_enter Try.func19, Try.ntmps19
      go_wp2_with fail
      refine (HN.out _).mono ?_
      rintro e _ ⟨rfl, rfl⟩
      rw [q1]
      go_wp2_with fail
      refine (HI.out _).mono ?_
      rintro e _ ⟨rfl, rfl⟩
      rw [q3]
      go_wp2_with fail
      go_ret
      exact ⟨by rw [HE.out]; rfl, rfl⟩
end Go.Proofs.Ytpmckbpplkkgaaa.Base
