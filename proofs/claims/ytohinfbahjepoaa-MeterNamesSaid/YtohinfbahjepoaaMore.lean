/- What Wait, Copy and Meter do, and what a bucket is behind acts. Conditions: as each contract says. -/
import Derived.Test.YtohinfbahjepoaaTick
import Derived.IntWalk
set_option linter.unusedVariables false
set_option linter.unusedSimpArgs false
namespace Go.Proofs.Ytohinfbahjepoaa.Base
open Go Go.RowKit Go.Proofs.Ytohinfbahjepoaa.Mem Go.Proofs.YtohinfbahjepoaaW.PrintWords
theorem wait_nil (n : Int) (w : World) : Calls Try.prog 16 #[.pointer none, .int .u64 n] w fun e w' => e = .returned (.tuple #[.int .i64 0, .bool false]) ∧ w' = w := by
  go_enter Try.func16, Try.ntmps16
  go_wp2
  go_ret2
  exact ⟨rfl, rfl⟩
theorem wait_now (b : Nat) (i r u l n : Int) (w : World) (hB : Bu w b i r u l) (h0 : 0 ≤ n) (h1 : n ≤ l) (h2 : l ≤ 1099511627776) : Calls Try.prog 16 #[.pointer (some ⟨b, 0, none⟩), .int .u64 n] w fun e w' => e = .returned (.tuple #[.int .i64 0, .bool true]) ∧ w' = w := by
  have c3 := bu3 hB
  go_enter Try.func16, Try.ntmps16
  go_wp2
  go_ret2
  exact ⟨rfl, rfl⟩
theorem wait_much (b : Nat) (i r u l n : Int) (w : World) (hB : Bu w b i r u l) (h0 : 0 ≤ l) (h1 : l ≤ u) (h2 : u ≤ 1099511627776) (h3 : u < n) (h4 : n < 18446744073709551616) : Calls Try.prog 16 #[.pointer (some ⟨b, 0, none⟩), .int .u64 n] w fun e w' => e = .returned (.tuple #[.int .i64 0, .bool false]) ∧ w' = w := by
  have c2 := bu2 hB
  have c3 := bu3 hB
  have hl : l < n := by omega
  go_enter Try.func16, Try.ntmps16
  go_wp2
  go_ret2
  exact ⟨rfl, rfl⟩
theorem wait_zero (b : Nat) (i u l n : Int) (w : World) (hB : Bu w b i 0 u l) (h0 : 0 ≤ l) (h1 : l < n) (h2 : u ≤ 1099511627776) (h3 : n ≤ u) : Calls Try.prog 16 #[.pointer (some ⟨b, 0, none⟩), .int .u64 n] w fun e w' => e = .returned (.tuple #[.int .i64 0, .bool false]) ∧ w' = w := by
  have c1 := bu1 hB
  have c2 := bu2 hB
  have c3 := bu3 hB
  go_enter Try.func16, Try.ntmps16
  go_wp2
  go_ret2
  exact ⟨rfl, rfl⟩
theorem wait_ticks (b : Nat) (i r u l n : Int) (w : World) (hB : Bu w b i r u l) (h0 : 0 ≤ l) (h1 : l < n) (h2 : u ≤ 1099511627776) (h3 : n ≤ u) (hr : 1 ≤ r) (hr2 : r ≤ 1099511627776) : Calls Try.prog 16 #[.pointer (some ⟨b, 0, none⟩), .int .u64 n] w fun e w' => e = .returned (.tuple #[.int .i64 ((n - l + r - 1) / r), .bool true]) ∧ ∃ k, w' = w.drewN k := by
  have c1 := bu1 hB
  have c2 := bu2 hB
  have c3 := bu3 hB
  have hr3 : (r == 0) = false := beq_eq_false_iff_ne.mpr (by omega)
  have hr4 : ¬ r = 0 := by omega
  go_enter Try.func16, Try.ntmps16
  go_wp2_with fail
  refine (until_any b i r u l (n - l) _ hB hr hr2 (by omega) (by omega)).mono ?_
  rintro e w1 ⟨rfl, k, rfl⟩
  go_wp2_with fail
  go_ret2
  exact ⟨rfl, _, rfl⟩
/-- A copy: a block of its own. -/
def CopyYes (w : World) (i r u l : Int) (e : Ending) (w' : World) : Prop := ∃ b, e = .returned (.pointer (some ⟨b, 0, none⟩)) ∧ w.heap.size ≤ b ∧ Bu w' b i r u l ∧ w.grownBy w' none
theorem copy_yes (b : Nat) (i r u l : Int) (w : World) (hB : Bu w b i r u l) : Calls Try.prog 17 #[.pointer (some ⟨b, 0, none⟩)] w (CopyYes w i r u l) := by
  have c0 := bu0 hB
  have c1 := bu1 hB
  have c2 := bu2 hB
  have c3 := bu3 hB
  go_enter Try.func17, Try.ntmps17
  go_wp2
  go_ret
  exact ⟨_, rfl, Nat.le_refl _, Blk.new _ _ _, gb_alloc _ _ (World.grownBy.refl _ _)⟩
theorem copy_nil (w : World) : Calls Try.prog 17 #[.pointer none] w fun e w' => e = .returned (.pointer none) ∧ w' = w := by
  go_enter Try.func17, Try.ntmps17
  go_wp2
  go_ret
  exact ⟨rfl, rfl⟩
theorem meter_any (b : Nat) (i r u l : Int) (w : World) (hB : Bu w b i r u l) : Calls Try.prog 24 #[.pointer (some ⟨b, 0, none⟩)] w fun e w' => e = .returned (.agg #[.int .i64 i, .int .i64 r, .int .i64 u]) ∧ w.grownBy w' none := by
  have c0 := bu0 hB
  have c1 := bu1 hB
  have c2 := bu2 hB
  have c3 := bu3 hB
  have hA := hB.alloc (.cells #[.int .i64 0, .int .i64 0, .int .i64 0] 23)
  have d0 := bu0 hA
  have d1 := bu1 hA
  have d2 := bu2 hA
  clear c0 c1 c2 c3 hA
  go_enter Try.func24, Try.ntmps24
  go_wp2
  exact bodyPost_ret (v := .agg #[.int .i64 i, .int .i64 r, .int .i64 u]) (by simp [results, Try.results24, go_sem]) rfl ⟨rfl, gb_alloc _ _ (World.grownBy.refl _ _)⟩
theorem meter_nil (w : World) : Calls Try.prog 24 #[.pointer none] w fun e w' => e = .returned (.agg #[.int .i64 0, .int .i64 0, .int .i64 0]) ∧ w.grownBy w' none := by
  go_enter Try.func24, Try.ntmps24
  go_wp2
  exact bodyPost_ret (v := .agg #[.int .i64 0, .int .i64 0, .int .i64 0]) (by simp [results, Try.results24, go_sem]) rfl ⟨rfl, gb_alloc _ _ (World.grownBy.refl _ _)⟩
set_option maxHeartbeats 4000000 in
theorem awake_any (w : World) : Calls Try.prog 9 #[] w fun e w' => e = .returned (.bool true) ∧ Below w.heap.size w w' := by
  have HK := Kp.refl w
  go_enter Try.func9, Try.ntmps9
  go_wp2_with fail
  refine (new_yes 1 3 10 _ (by decide)).mono ?_
  rintro e w1 ⟨b, rfl, hb, hB, hg⟩
  have hb0 : w.heap.size ≤ b := by first | exact hb | (simp at hb; omega)
  replace HK := HK.none_ hg
  clear hg hb
  go_wp2_with fail
  refine (take_yes b 1 3 10 10 10 _ hB (by omega) (by omega) (by omega)).mono ?_
  clear hB
  rintro e w2 ⟨rfl, hB, hg⟩
  replace HK := HK.some_ hg hb0
  clear hg
  replace hB : Bu w2 b 1 3 10 0 := hB
  go_wp2_with fail
  refine (take_no b 1 3 10 0 1 _ hB (by omega) (by omega) (by omega)).mono ?_
  rintro e w3 ⟨rfl, rfl⟩
  go_wp2_with fail
  refine (tick_go b 1 3 10 0 2 _ hB (by omega) (by omega) (by omega) (by omega) (by omega) (by omega) (by omega)).mono ?_
  clear hB
  rintro e w3 ⟨rfl, hB, hg⟩
  replace hB : Bu w3 b 1 3 10 6 := hB
  replace HK := HK.some_ hg hb0
  clear hg
  go_wp2_with fail
  refine (level_any b 1 3 10 6 _ hB).mono ?_
  rintro e w4 ⟨rfl, rfl⟩
  go_wp2_with fail
  refine (wait_ticks b 1 3 10 6 7 _ hB (by omega) (by omega) (by omega) (by omega) (by omega) (by omega)).mono ?_
  rintro e w4 ⟨rfl, k, rfl⟩
  rw [show ((7 : Int) - 6 + 3 - 1) / 3 = 1 from by decide]
  replace hB := hB.drewN k
  replace HK := HK.drewN k
  generalize World.drewN _ k = w4 at *
  go_wp2_with fail
  refine (wait_much b 1 3 10 6 11 _ hB (by omega) (by omega) (by omega) (by omega) (by omega)).mono ?_
  rintro e w5 ⟨rfl, rfl⟩
  go_wp2_with fail
  refine (new_yes 1 0 1 _ (by decide)).mono ?_
  rintro e w5 ⟨b', rfl, hb', hB', hg⟩
  have hlt := hB.lt
  have hne : b ≠ b' := by omega
  have hb1 : w.heap.size ≤ b' := by omega
  replace hB := hB.grown hg (by simp)
  replace HK := HK.none_ hg
  clear hg hb' hlt
  go_wp2_with fail
  refine (take_yes b' 1 0 1 1 1 _ hB' (by omega) (by omega) (by omega)).mono ?_
  clear hB'
  rintro e w6 ⟨rfl, hB', hg⟩
  replace hB := hB.grown hg (by simpa using hne)
  replace HK := HK.some_ hg hb1
  clear hg
  replace hB' : Bu w6 b' 1 0 1 0 := hB'
  go_wp2_with fail
  refine (wait_zero b' 1 1 0 1 _ hB' (by omega) (by omega) (by omega) (by omega)).mono ?_
  rintro e w7 ⟨rfl, rfl⟩
  go_wp2_with fail
  refine (tick_go b 1 3 10 6 9 _ hB (by omega) (by omega) (by omega) (by omega) (by omega) (by omega) (by omega)).mono ?_
  clear hB
  rintro e w7 ⟨rfl, hB, hg⟩
  replace hB : Bu w7 b 1 3 10 10 := hB
  replace HK := HK.some_ hg hb0
  clear hg
  go_wp2_with fail
  refine (level_any b 1 3 10 10 _ hB).mono ?_
  rintro e w8 ⟨rfl, rfl⟩
  go_wp2_with fail
  go_ret
  exact ⟨rfl, HK.below⟩
end Go.Proofs.Ytohinfbahjepoaa.Base
