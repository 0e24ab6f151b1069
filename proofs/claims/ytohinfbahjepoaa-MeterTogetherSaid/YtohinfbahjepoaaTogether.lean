/- Ticks one behind the other are as all of them at once. Conditions: none beyond the row's own. -/
import Derived.Test.YtohinfbahjepoaaOpen
set_option linter.unusedVariables false
set_option linter.unusedSimpArgs false
namespace Go.Proofs.Ytohinfbahjepoaa.Together
open Go Go.RowKit Go.Proofs.Ytohinfbahjepoaa.Mem Go.Proofs.YtohinfbahjepoaaW.PrintWords Go.Proofs.Ytohinfbahjepoaa.Base
theorem tick_two {r u l s t : Int} (h : Fit r u l) (hs : 0 ≤ s) (ht : 0 ≤ t) : tickN r u (tickN r u l s) t = tickN r u l (s + t) := by
  have := h.l0; have := h.lu
  have h1 : 0 ≤ s * r := Int.mul_nonneg hs h.r0
  have h2 : 0 ≤ t * r := Int.mul_nonneg ht h.r0
  have e : (s + t) * r = s * r + t * r := Int.add_mul ..
  unfold tickN tickL
  rw [if_neg (show ¬ s < 0 by omega), if_neg (show ¬ t < 0 by omega), if_neg (show ¬ s + t < 0 by omega), e]
  generalize s * r = x at *
  generalize t * r = y at *
  by_cases a : l + x ≤ u
  · rw [if_pos a, Int.add_assoc]
  · rw [if_neg a]
    by_cases b : u + y ≤ u
    · rw [if_pos b, if_neg (by omega)]; omega
    · rw [if_neg b, if_neg (by omega)]
set_option maxHeartbeats 4000000 in
theorem main (i r u s t : Int) (A : Option Addr) (c : Nat) (l : List Base.Act) (w : World) (hA : Acts w A l) (hm : l.length ≤ 140737488351232) (hs : -9223372036854775808 ≤ s ∧ s < 9223372036854775808) (ht : -9223372036854775808 ≤ t ∧ t < 9223372036854775808) :
    Calls Try.prog 6 #[.agg #[.int .i64 i, .int .i64 r, .int .i64 u], .slice A l.length c, .int .i64 s, .int .i64 t] w fun e w' => e = .returned (.bool true) ∧ Below w.heap.size w w' := by
  by_cases hl : l.length ≤ 1000
  · go_enter Try.func6, Try.ntmps6
    go_wp2_with fail
    refine (awake_any _).mono ?_
    rintro e w1 ⟨rfl, hb⟩
    have hk := (Blk.new w 23 #[.int .i64 i, .int .i64 r, .int .i64 u]).go hb
    have k0 : w1.cell? ⟨w.heap.size, 0, none⟩ = some (.int .i64 i) := hk.cell 0
    have k1 : w1.cell? ⟨w.heap.size, 1, none⟩ = some (.int .i64 r) := hk.cell 1
    have k2 : w1.cell? ⟨w.heap.size, 2, none⟩ = some (.int .i64 u) := hk.cell 2
    have HK : Kp w.heap.size w w1 := ((Kp.refl w).alloc _).go hb
    clear hk hb
    go_wp2_with fail
    by_cases hmay : mayB i r u = true
    · have hF := fit_lev (mayB_fit hmay) hA.ok
      refine (played_yes i r u A c l _ hmay (hA.kp HK) hm).mono ?_
      rintro e w2 ⟨b, rfl, hb, hB, hg⟩
      have hb0 : w.heap.size ≤ b := Nat.le_trans HK.size hb
      replace HK := HK.none_ hg
      clear hg hb k0 k1 k2 hA
      generalize lev r u l = v at *
      by_cases hst : 0 ≤ s ∧ 0 ≤ t ∧ s ≤ 4611686018427387904 ∧ t ≤ 2305843009213693952
      · obtain ⟨s0, t0, s1, t1⟩ := hst
        go_wp2_with fail
        refine (copy_yes b i r u v _ hB).mono ?_
        rintro e w3 ⟨b', rfl, hb', hB', hg⟩
        have hne : b ≠ b' := by have := hB.lt; omega
        have hb1 : w.heap.size ≤ b' := Nat.le_trans HK.size hb'
        replace hB := hB.grown hg (by simp)
        replace HK := HK.none_ hg
        clear hg hb'
        have E1 : tickE s = 0 := if_neg (by omega)
        have E2 : tickE t = 0 := if_neg (by omega)
        have E3 : tickE (s + t) = 0 := if_neg (by omega)
        have T := tick_two hF s0 t0
        go_wp2_with fail
        refine (tick_any b i r u v s _ hB hF (by omega) (by omega)).mono ?_
        clear hB
        rintro e w4 ⟨rfl, hB, hg⟩
        rw [E1]
        replace hB' := hB'.grown hg (by simpa using hne.symm)
        replace HK := HK.some_ hg hb0
        clear hg
        go_wp2_with fail
        refine (tick_any b i r u _ t _ hB (fit_tick hF) (by omega) (by omega)).mono ?_
        clear hB
        rintro e w5 ⟨rfl, hB, hg⟩
        rw [E2]
        replace hB' := hB'.grown hg (by simpa using hne.symm)
        replace HK := HK.some_ hg hb0
        clear hg
        rw [T] at hB
        clear T E1 E2
        have E3' := Lib.hid E3
        clear E3
        go_wp2_with fail
        refine (tick_any b' i r u v (s + t) _ hB' hF (by omega) (by omega)).mono ?_
        clear hB'
        rintro e w6 ⟨rfl, hB', hg⟩
        rw [E3'.out]
        replace hB := hB.grown hg (by simpa using hne)
        replace HK := HK.some_ hg hb1
        clear hg
        generalize tickN r u v (s + t) = z at *
        go_wp2_with fail
        refine (level_any b i r u z _ hB).mono ?_
        rintro e w7 ⟨rfl, rfl⟩
        go_wp2_with fail
        refine (level_any b' i r u z _ hB').mono ?_
        rintro e w8 ⟨rfl, rfl⟩
        go_wp2_with fail
        go_ret
        exact ⟨by simp, HK.below⟩
      · have hc : s < 0 ∨ (0 ≤ s ∧ t < 0) ∨ (0 ≤ s ∧ 0 ≤ t ∧ 4611686018427387904 < s) ∨ (0 ≤ s ∧ 0 ≤ t ∧ s ≤ 4611686018427387904 ∧ 2305843009213693952 < t) := by omega
        clear hst
        rcases hc with h1 | ⟨h1, h2⟩ | ⟨h1, h2, h3⟩ | ⟨h1, h2, h3, h4⟩
        all_goals
          go_wp2_with fail
          go_ret
          exact ⟨rfl, HK.below⟩
    · refine (played_no i r u _ _ (by simpa using hmay)).mono ?_
      rintro e w2 ⟨rfl, hg⟩
      replace HK := HK.none_ hg
      go_wp2_with fail
      go_ret
      exact ⟨rfl, HK.below⟩
  · go_enter Try.func6, Try.ntmps6
    go_wp2_with fail
    refine (awake_any _).mono ?_
    rintro e w1 ⟨rfl, hb⟩
    have HK : Kp w.heap.size w w1 := ((Kp.refl w).alloc _).go hb
    go_wp2_with fail
    go_ret
    exact ⟨rfl, HK.below⟩
theorem core (i r u : Int) (A : Option Addr) (c : Nat) (l : List Base.Act) (s t : Int) (w : World) (_ : (Lit.int .i64 i).wf = true) (_ : l.length ≤ c) (hm : l.length * 24 ≤ 140737488351232) (_ : ∀ x ∈ l, ActOk x) (hA : Acts w A l)
    (hs : (Lit.int .i64 s).wf = true) (ht : (Lit.int .i64 t).wf = true) :
    Calls Try.prog 6 #[.agg #[.int .i64 i, .int .i64 r, .int .i64 u], .slice A l.length c, .int .i64 s, .int .i64 t] w fun e w' => e = .returned (.bool true) ∧ Below w.heap.size w w' :=
  main i r u s t A c l w hA (by omega) (Arg.bd_i64 hs) (Arg.bd_i64 ht)
end Go.Proofs.Ytohinfbahjepoaa.Together
