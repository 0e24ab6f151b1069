/- What the meter's functions do: contracts, each function once. Conditions: a level from 0 to Burst, a definition that may be, as each contract says. -/
import Derived.Test.YtohinfbahjepoaaProg
import Derived.Test.YtohinfbahjepoaaMem
import Derived.Lib.Hide
import Derived.BigQuiet
import Derived.Deep.QuietTactic
import Derived.Deep.RegionHeld3
import Derived.StillTailTactics
set_option linter.unusedVariables false
set_option linter.unusedSimpArgs false
namespace Go.Proofs.Ytohinfbahjepoaa.Base
open Go Go.RowKit Go.Proofs.Ytohinfbahjepoaa.Mem Go.Proofs.YtohinfbahjepoaaW.PrintWords
/-- Whether a definition may be. -/
def mayB (i r u : Int) : Bool := decide (0 ≤ r ∧ r ≤ 1099511627776 ∧ 0 ≤ u ∧ u ≤ 1099511627776 ∧ 1 ≤ i ∧ i ≤ 65534)
theorem ret_bool {a b : Bool} (h : a = b) : Ending.returned (.bool a) = .returned (.bool b) := by rw [h]
set_option maxHeartbeats 1000000 in
theorem may_any (i r u : Int) (w : World) : Calls Try.prog 11 #[.agg #[.int .i64 i, .int .i64 r, .int .i64 u]] w fun e w' => e = .returned (.bool (mayB i r u)) ∧ Below w.heap.size w w' := by
  have i0 : ∀ w, (Instr.index 56 (.agg #[.int .i64 r, .int .i64 u]) (.int .i64 0)).run Try.prog w = .ok (.int .i64 r) w := fun _ => by rfl
  have i1 : ∀ w, (Instr.index 56 (.agg #[.int .i64 r, .int .i64 u]) (.int .i64 1)).run Try.prog w = .ok (.int .i64 u) w := fun _ => by rfl
  go_enter Try.func11, Try.ntmps11
  go_wp2
  go_loop [10] (fun t => (t = .int .i64 0) ∨ (t = .int .i64 1 ∧ (0 ≤ r ∧ r ≤ 1099511627776)) ∨ (t = .int .i64 2 ∧ (0 ≤ r ∧ r ≤ 1099511627776) ∧ (0 ≤ u ∧ u ≤ 1099511627776))) (fun t => 2 - (intOf t).toNat)
  case atStart => exact .inl rfl
  case round =>
    rcases hrel with rfl | ⟨rfl, h1⟩ | ⟨rfl, h1, h2⟩
    · by_cases h : 0 ≤ r ∧ r ≤ 1099511627776
      · obtain ⟨ha, hb⟩ := h
        go_wp2
        go_round
        case rel => exact .inr (.inl ⟨rfl, ha, hb⟩)
        case measure => simp [intOf]
      · have hm : mayB i r u = false := by unfold mayB; simp; omega
        by_cases hr : 0 ≤ r
        · have hr2 : 1099511627776 < r := by omega
          clear h
          go_wp2
          go_ret
          exact ⟨rfl, (Below.refl _ _).alloc (Nat.le_refl _) _⟩
        · clear h
          go_wp2
          go_ret
          exact ⟨rfl, (Below.refl _ _).alloc (Nat.le_refl _) _⟩
    · by_cases h : 0 ≤ u ∧ u ≤ 1099511627776
      · obtain ⟨ha, hb⟩ := h
        have h1' := Lib.hid h1
        clear h1
        go_wp2
        go_round
        case rel => exact .inr (.inr ⟨rfl, h1'.out, ha, hb⟩)
        case measure => simp [intOf]
      · have hm : mayB i r u = false := by unfold mayB; simp; omega
        clear h1
        by_cases hr : 0 ≤ u
        · have hr2 : 1099511627776 < u := by omega
          clear h
          go_wp2
          go_ret
          exact ⟨rfl, (Below.refl _ _).alloc (Nat.le_refl _) _⟩
        · clear h
          go_wp2
          go_ret
          exact ⟨rfl, (Below.refl _ _).alloc (Nat.le_refl _) _⟩
    · have hm : mayB i r u = decide (1 ≤ i ∧ i ≤ 65534) := by unfold mayB; simp [h1, h2]
      clear h1 h2
      by_cases h : 1 ≤ i
      · by_cases h' : i ≤ 65534
        · have hm2 : mayB i r u = true := by rw [hm]; simp [h, h']
          clear hm
          go_wp2
          go_ret
          exact ⟨rfl, (Below.refl _ _).alloc (Nat.le_refl _) _⟩
        · have hm2 : mayB i r u = false := by rw [hm]; simp [h']
          clear hm
          go_wp2
          go_ret
          exact ⟨rfl, (Below.refl _ _).alloc (Nat.le_refl _) _⟩
      · have hm2 : mayB i r u = false := by rw [hm]; simp [h]
        clear hm
        go_wp2
        go_ret
        exact ⟨rfl, (Below.refl _ _).alloc (Nat.le_refl _) _⟩
/-- A bucket: its definition, and its level. -/
abbrev Bu (w : World) (b : Nat) (i r u l : Int) : Prop := Blk w b 55 #[.int .i64 i, .int .i64 r, .int .i64 u, .int .i64 l]
theorem bu_set {w : World} {b : Nat} {i r u l : Int} (h : Bu w b i r u l) (l' : Int) : Bu (w.setCell ⟨b, 3, none⟩ (.int .i64 l')) b i r u l' := h.set_ 3 _
section
variable {w : World} {b : Nat} {i r u l : Int}
theorem bu0 (h : Bu w b i r u l) : w.cell? ⟨b, 0, none⟩ = some (.int .i64 i) := h.cell 0
theorem bu1 (h : Bu w b i r u l) : w.cell? ⟨b, 1, none⟩ = some (.int .i64 r) := h.cell 1
theorem bu2 (h : Bu w b i r u l) : w.cell? ⟨b, 2, none⟩ = some (.int .i64 u) := h.cell 2
theorem bu3 (h : Bu w b i r u l) : w.cell? ⟨b, 3, none⟩ = some (.int .i64 l) := h.cell 3
end
/-- What New tells. -/
def NewYes (w : World) (i r u : Int) (e : Ending) (w' : World) : Prop := ∃ b, e = .returned (.tuple #[.pointer (some ⟨b, 0, none⟩), .int .i64 0]) ∧ w.heap.size ≤ b ∧ Bu w' b i r u u ∧ w.grownBy w' none
theorem new_yes (i r u : Int) (w : World) (h : mayB i r u = true) : Calls Try.prog 10 #[.agg #[.int .i64 i, .int .i64 r, .int .i64 u]] w (NewYes w i r u) := by
  go_enter Try.func10, Try.ntmps10
  go_wp2_with fail
  refine (may_any i r u _).mono ?_
  rintro e w1 ⟨rfl, hb⟩
  have hk := (Blk.new w 23 #[.int .i64 i, .int .i64 r, .int .i64 u]).go hb
  have k0 : w1.cell? ⟨w.heap.size, 0, none⟩ = some (.int .i64 i) := hk.cell 0
  have k1 : w1.cell? ⟨w.heap.size, 1, none⟩ = some (.int .i64 r) := hk.cell 1
  have k2 : w1.cell? ⟨w.heap.size, 2, none⟩ = some (.int .i64 u) := hk.cell 2
  have hg : w.grownBy w1 none := gb_trans (World.grownBy_alloc _ _ _) (gb_below hb _)
  have hs := hg.size
  clear hk hb
  go_wp2
  go_ret2
  exact ⟨_, rfl, hs, Blk.new _ _ _, gb_alloc _ _ hg⟩
theorem new_no (i r u : Int) (w : World) (h : mayB i r u = false) : Calls Try.prog 10 #[.agg #[.int .i64 i, .int .i64 r, .int .i64 u]] w fun e w' => e = .returned (.tuple #[.pointer none, .int .i64 3]) ∧ w.grownBy w' none := by
  go_enter Try.func10, Try.ntmps10
  go_wp2_with (go_at_call 11; refine (may_any i r u _).mono ?_; rintro e w1 ⟨rfl, hb⟩)
  go_ret2
  exact ⟨rfl, gb_trans (World.grownBy_alloc _ _ _) (gb_below hb _)⟩
theorem take_yes (b : Nat) (i r u l n : Int) (w : World) (hB : Bu w b i r u l) (h0 : 0 ≤ n) (h1 : n ≤ l) (h2 : l ≤ 1099511627776) : Calls Try.prog 12 #[.pointer (some ⟨b, 0, none⟩), .int .u64 n] w fun e w' => e = .returned (.bool true) ∧ Bu w' b i r u (l - n) ∧ w.grownBy w' (some b) := by
  have c3 := bu3 hB
  have f3 := hB.frozen 3
  go_enter Try.func12, Try.ntmps12
  go_wp2
  go_ret
  exact ⟨rfl, bu_set hB _, gb_set _ (World.grownBy.refl _ _)⟩
theorem take_no (b : Nat) (i r u l n : Int) (w : World) (hB : Bu w b i r u l) (h0 : 0 ≤ l) (h1 : l < n) (h2 : n < 18446744073709551616) : Calls Try.prog 12 #[.pointer (some ⟨b, 0, none⟩), .int .u64 n] w fun e w' => e = .returned (.bool false) ∧ w' = w := by
  have c3 := bu3 hB
  go_enter Try.func12, Try.ntmps12
  go_wp2
  go_ret
  exact ⟨rfl, rfl⟩
theorem take_nil (n : Int) (w : World) : Calls Try.prog 12 #[.pointer none, .int .u64 n] w fun e w' => e = .returned (.bool false) ∧ w' = w := by
  go_enter Try.func12, Try.ntmps12
  go_wp2
  go_ret
  exact ⟨rfl, rfl⟩
theorem level_any (b : Nat) (i r u l : Int) (w : World) (hB : Bu w b i r u l) : Calls Try.prog 13 #[.pointer (some ⟨b, 0, none⟩)] w fun e w' => e = .returned (.int .i64 l) ∧ w' = w := by
  have c3 := bu3 hB
  go_enter Try.func13, Try.ntmps13
  go_wp2
  go_ret
  exact ⟨rfl, rfl⟩
theorem level_nil (w : World) : Calls Try.prog 13 #[.pointer none] w fun e w' => e = .returned (.int .i64 0) ∧ w' = w := by
  go_enter Try.func13, Try.ntmps13
  go_wp2
  go_ret
  exact ⟨rfl, rfl⟩
theorem until_any (b : Nat) (i r u l x : Int) (w : World) (hB : Bu w b i r u l) (hr : 1 ≤ r) (hr2 : r ≤ 1099511627776) (hx : 0 ≤ x) (hx2 : x ≤ 1099511627776) : Calls Try.prog 25 #[.pointer (some ⟨b, 0, none⟩), .int .i64 x] w fun e w' => e = .returned (.int .i64 ((x + r - 1) / r)) ∧ ∃ n, w' = w.drewN n := by
  have c1 := bu1 hB
  have hr0 : (r == 0) = false := beq_eq_false_iff_ne.mpr (by omega)
  have hr3 : ¬ r = 0 := by omega
  go_enter Try.func25, Try.ntmps25
  go_wp2
  go_quiet (fail)
  go_wp2
  go_ret
  exact ⟨rfl, _, rfl⟩
theorem tick_nil (n : Int) (w : World) : Calls Try.prog 14 #[.pointer none, .int .i64 n] w fun e w' => e = .returned (.int .i64 2) ∧ w' = w := by
  go_enter Try.func14, Try.ntmps14
  go_wp2
  go_ret
  exact ⟨rfl, rfl⟩
theorem tick_neg (b : Nat) (i r u l n : Int) (w : World) (hn : n < 0) : Calls Try.prog 14 #[.pointer (some ⟨b, 0, none⟩), .int .i64 n] w fun e w' => e = .returned (.int .i64 1) ∧ w' = w := by
  go_enter Try.func14, Try.ntmps14
  go_wp2
  go_ret
  exact ⟨rfl, rfl⟩
theorem tick_zero (b : Nat) (i u l n : Int) (w : World) (hB : Bu w b i 0 u l) (hn : 0 ≤ n) : Calls Try.prog 14 #[.pointer (some ⟨b, 0, none⟩), .int .i64 n] w fun e w' => e = .returned (.int .i64 0) ∧ w' = w := by
  have c1 := bu1 hB
  go_enter Try.func14, Try.ntmps14
  go_wp2
  go_ret
  exact ⟨rfl, rfl⟩
/-- The level behind ticks. -/
def tickL (r u l n : Int) : Int := if l + n * r ≤ u then l + n * r else u
theorem tick_plain (r u l n m : Int) (hr : 1 ≤ r) (hr2 : r ≤ 1099511627776) (hl : 0 ≤ l) (hlu : l ≤ u) (hu : u ≤ 1099511627776) (hn : 0 ≤ n) (hm : m = if (u - l + r - 1) / r < n then (u - l + r - 1) / r else n) :
    0 ≤ m ∧ 0 ≤ m * r ∧ m * r ≤ 2199023255552 ∧ tickL r u l n = if u < l + m * r then u else l + m * r := by
  have q1 : (u - l + r - 1) / r * r ≤ u - l + r - 1 := Int.ediv_mul_le _ (by omega)
  have q2 : u - l + r - 1 < ((u - l + r - 1) / r + 1) * r := Int.lt_ediv_add_one_mul_self _ (by omega)
  have q0 : 0 ≤ (u - l + r - 1) / r := Int.ediv_nonneg (by omega) (by omega)
  rw [Int.add_mul, Int.one_mul] at q2
  generalize (u - l + r - 1) / r = q at *
  unfold tickL
  by_cases h : q < n
  · rw [if_pos h] at hm
    subst hm
    have h1 : m * r ≤ n * r := Int.mul_le_mul_of_nonneg_right (by omega) (by omega)
    have h2 : 0 ≤ m * r := Int.mul_nonneg q0 (by omega)
    refine ⟨q0, h2, by omega, ?_⟩
    by_cases h3 : l + n * r ≤ u
    · have h4 : (m + 1) * r ≤ n * r := Int.mul_le_mul_of_nonneg_right (by omega) (by omega)
      rw [Int.add_mul, Int.one_mul] at h4
      rw [if_pos h3]; split <;> omega
    · rw [if_neg h3]; split <;> omega
  · rw [if_neg h] at hm
    subst hm
    have h1 : m * r ≤ q * r := Int.mul_le_mul_of_nonneg_right (by omega) (by omega)
    have h2 : 0 ≤ m * r := Int.mul_nonneg hn (by omega)
    refine ⟨hn, h2, by omega, ?_⟩
    split <;> split <;> omega
end Go.Proofs.Ytohinfbahjepoaa.Base
