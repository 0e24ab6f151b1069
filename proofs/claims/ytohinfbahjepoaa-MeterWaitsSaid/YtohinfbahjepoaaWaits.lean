/- Behind Wait's ticks as many are taken, one tick ahead they are not; without a Rate one waits for ever, or not at all. Conditions: none beyond the row's own. -/
import Derived.Test.YtohinfbahjepoaaOpen
import Derived.Outline
set_option linter.unusedVariables false
set_option linter.unusedSimpArgs false
namespace Go.Proofs.Ytohinfbahjepoaa.Waits
open Go Go.RowKit Go.Proofs.Ytohinfbahjepoaa.Mem Go.Proofs.YtohinfbahjepoaaW.PrintWords Go.Proofs.Ytohinfbahjepoaa.Base
/-- Far ticks fill a bucket with a rate. -/
theorem tick_far {r u l : Int} (h : Fit r u l) : tickN r u l 4611686018427387904 = if r = 0 then l else u := by
  have := h.l0; have := h.lu; have := h.r0; have := h.u1
  unfold tickN tickL
  rw [if_neg (by decide)]
  by_cases hr : r = 0
  · subst hr; rw [if_pos rfl]; split <;> omega
  · rw [if_neg hr]; split <;> omega
/-- The ticks that one waits. -/
theorem wait_plain {r u l n : Int} (h : Fit r u l) (hr : 1 ≤ r) (h1 : l < n) (h2 : n ≤ u) : ∃ q, (n - l + r - 1) / r = q ∧ 1 ≤ q ∧ q ≤ 1099511627776 ∧ n ≤ tickN r u l q ∧ tickN r u l (q - 1) < n := by
  have := h.l0; have := h.lu; have := h.u1
  refine ⟨_, rfl, ?_⟩
  have q1 : (n - l + r - 1) / r * r ≤ n - l + r - 1 := Int.ediv_mul_le _ (by omega)
  have q2 : n - l + r - 1 < ((n - l + r - 1) / r + 1) * r := Int.lt_ediv_add_one_mul_self _ (by omega)
  have q0 : 1 ≤ (n - l + r - 1) / r := by
    have : r / r ≤ (n - l + r - 1) / r := Int.ediv_le_ediv (by omega) (by omega)
    rwa [Int.ediv_self (by omega)] at this
  have q3 : (n - l + r - 1) / r ≤ 1099511627776 := by
    have h3 : (n - l + r - 1) / r ≤ (n - l) := by
      have : (n - l + r - 1) / r < (n - l) + 1 := Int.ediv_lt_of_lt_mul (by omega) (by
        have : (n - l) * 1 ≤ (n - l) * r := Int.mul_le_mul_of_nonneg_left hr (by omega)
        have h5 : (n - l + 1) * r = (n - l) * r + r := by rw [Int.add_mul, Int.one_mul]
        omega)
      omega
    omega
  generalize (n - l + r - 1) / r = q at *
  rw [Int.add_mul, Int.one_mul] at q2
  have e : (q - 1) * r = q * r - r := by rw [Int.sub_mul, Int.one_mul]
  refine ⟨q0, q3, ?_, ?_⟩
  · unfold tickN tickL
    rw [if_neg (show ¬ q < 0 by omega)]
    split <;> omega
  · unfold tickN tickL
    rw [if_neg (show ¬ q - 1 < 0 by omega), e]
    split <;> omega
theorem tick_no {r u l : Int} (h : Fit r u l) : tickN r u l 0 = l := by
  have := h.lu
  unfold tickN tickL
  rw [if_neg (by decide), Int.zero_mul, Int.add_zero, if_pos this]
set_option maxHeartbeats 4000000 in
theorem main (i r u n : Int) (A : Option Addr) (c : Nat) (l : List Base.Act) (w : World) (hA : Acts w A l) (hm : l.length ≤ 140737488351232) (hn : 0 ≤ n ∧ n < 18446744073709551616) :
    Calls Try.prog 5 #[.agg #[.int .i64 i, .int .i64 r, .int .i64 u], .slice A l.length c, .int .u64 n] w fun e w' => e = .returned (.bool true) ∧ Below w.heap.size w w' := by
  obtain ⟨n0, n1⟩ := hn
  by_cases hl : l.length ≤ 1000
  · go_enter Try.func5, Try.ntmps5
    go_wp2_with fail
    refine (awake_any _).mono ?_
    rintro e w1 ⟨rfl, hb⟩
    have hk := (Blk.new w 23 #[.int .i64 i, .int .i64 r, .int .i64 u]).go hb
    have k0 : w1.cell? ⟨w.heap.size, 0, none⟩ = some (.int .i64 i) := hk.cell 0
    have k1 : w1.cell? ⟨w.heap.size, 1, none⟩ = some (.int .i64 r) := hk.cell 1
    have k2 : w1.cell? ⟨w.heap.size, 2, none⟩ = some (.int .i64 u) := hk.cell 2
    have HK : Kp w.heap.size w w1 := ((Kp.refl w).alloc _).go hb
    clear hb
    go_wp2_with fail
    clear k0 k1 k2
    by_cases hmay : mayB i r u = true
    · have hF := fit_lev (mayB_fit hmay) hA.ok
      refine (played_yes i r u A c l _ hmay (hA.kp HK) hm).mono ?_
      rintro e w2 ⟨b, rfl, hb, hB, hg⟩
      have hb0 : w.heap.size ≤ b := Nat.le_trans HK.size hb
      have hbk : w.heap.size ≠ b := by have := hk.lt; omega
      replace HK := HK.none_ hg
      replace hk := hk.grown hg (by simp)
      clear hg hb hA
      generalize lev r u l = v at *
      have f0 := hF.l0; have f1 := hF.lu; have f2 := hF.u1; have f3 := hF.r0; have f4 := hF.r1
      go_wp2_with fail
      by_cases c1 : n ≤ v
      · refine (wait_now b i r u v n _ hB n0 c1 (by omega)).mono ?_
        rintro e w3 ⟨rfl, rfl⟩
        go_wp2_with fail
        refine (tick_any b i r u v 0 _ hB hF (by omega) (by omega)).mono ?_
        clear hB
        rintro e w3 ⟨rfl, hB, hg⟩
        rw [tick_no hF] at hB
        replace HK := HK.some_ hg hb0
        clear hg
        rw [show tickE 0 = 0 from rfl]
        go_wp2_with fail
        refine (take_yes b i r u v n _ hB n0 c1 (by omega)).mono ?_
        rintro e w4 ⟨rfl, hB, hg⟩
        replace HK := HK.some_ hg hb0
        go_wp2_with fail
        go_ret
        exact ⟨rfl, HK.below⟩
      · by_cases c2 : u < n
        · refine (wait_much b i r u v n _ hB (by omega) (by omega) (by omega) c2 n1).mono ?_
          rintro e w3 ⟨rfl, rfl⟩
          go_wp2_with fail
          refine (copy_yes b i r u v _ hB).mono ?_
          clear hB
          rintro e w3 ⟨b', rfl, hb', hB, hg⟩
          have hb1 : w.heap.size ≤ b' := Nat.le_trans HK.size hb'
          have hbk' : w.heap.size ≠ b' := by have := hk.lt; omega
          replace HK := HK.none_ hg
          replace hk := hk.grown hg (by simp)
          clear hg hb'
          go_wp2_with fail
          refine (tick_any b' i r u v 4611686018427387904 _ hB hF (by omega) (by omega)).mono ?_
          clear hB
          rintro e w4 ⟨rfl, hB, hg⟩
          replace HK := HK.some_ hg hb1
          replace hk := hk.grown hg (by simpa using hbk')
          have hF2 := fit_tick (n := 4611686018427387904) hF
          generalize tickN r u v 4611686018427387904 = z at *
          clear hg
          rw [show tickE 4611686018427387904 = 0 from rfl]
          have z1 := hF2.lu
          have z0 := hF2.l0
          go_wp2_with fail
          refine (take_no b' i r u z n _ hB z0 (by omega) n1).mono ?_
          rintro e w5 ⟨rfl, rfl⟩
          have k1 : w5.cell? ⟨w.heap.size, 1, none⟩ = some (.int .i64 r) := hk.cell 1
          have k2 : w5.cell? ⟨w.heap.size, 2, none⟩ = some (.int .i64 u) := hk.cell 2
          clear hB hk
          go_wp2_with fail
          all_goals
            go_ret
            exact ⟨by first | rfl | simp, HK.below⟩
        · by_cases c3 : r = 0
          · subst c3
            refine (wait_zero b i u v n _ hB (by omega) (by omega) (by omega) (by omega)).mono ?_
            rintro e w3 ⟨rfl, rfl⟩
            go_wp2_with fail
            refine (copy_yes b i 0 u v _ hB).mono ?_
            clear hB
            rintro e w3 ⟨b', rfl, hb', hB, hg⟩
            have hb1 : w.heap.size ≤ b' := Nat.le_trans HK.size hb'
            have hbk' : w.heap.size ≠ b' := by have := hk.lt; omega
            replace HK := HK.none_ hg
            replace hk := hk.grown hg (by simp)
            clear hg hb'
            go_wp2_with fail
            refine (tick_any b' i 0 u v 4611686018427387904 _ hB hF (by omega) (by omega)).mono ?_
            clear hB
            rintro e w4 ⟨rfl, hB, hg⟩
            replace HK := HK.some_ hg hb1
            replace hk := hk.grown hg (by simpa using hbk')
            have hz := tick_far hF
            rw [if_pos rfl] at hz
            rw [hz] at hB
            clear hg hz
            rw [show tickE 4611686018427387904 = 0 from rfl]
            go_wp2_with fail
            refine (take_no b' i 0 u v n _ hB (by omega) (by omega) n1).mono ?_
            rintro e w5 ⟨rfl, rfl⟩
            have k1 : w5.cell? ⟨w.heap.size, 1, none⟩ = some (.int .i64 0) := hk.cell 1
            have k2 : w5.cell? ⟨w.heap.size, 2, none⟩ = some (.int .i64 u) := hk.cell 2
            clear hB hk
            go_wp2_with fail
            all_goals
              go_ret
              exact ⟨by first | rfl | simp, HK.below⟩
          · obtain ⟨q, hq, q0, q3, qy, qn⟩ := wait_plain hF (show 1 ≤ r by omega) (show v < n by omega) (show n ≤ u by omega)
            have hr3 : (r == 0) = false := beq_eq_false_iff_ne.mpr c3
            refine (wait_ticks b i r u v n _ hB (by omega) (by omega) (by omega) (by omega) (by omega) (by omega)).mono ?_
            rintro e w3 ⟨rfl, k, rfl⟩
            rw [hq]
            clear hq
            replace hB := hB.drewN k
            replace hk := hk.drewN k
            replace HK := HK.drewN k
            generalize World.drewN _ k = w3 at *
            have k1 : w3.cell? ⟨w.heap.size, 1, none⟩ = some (.int .i64 r) := hk.cell 1
            have E1 : tickE (q - 1) = 0 := if_neg (by omega)
            have E2 : tickE q = 0 := if_neg (by omega)
            have QY := Lib.hid qy
            have QN := Lib.hid qn
            have E1' := Lib.hid E1
            have E2' := Lib.hid E2
            clear qy qn E1 E2
            go_wp2_with fail
            refine (copy_yes b i r u v _ hB).mono ?_
            rintro e w4 ⟨b', rfl, hb', hB', hg⟩
            have hne : b ≠ b' := by have := hB.lt; omega
            have hb1 : w.heap.size ≤ b' := Nat.le_trans HK.size hb'
            replace HK := HK.none_ hg
            replace hB := hB.grown hg (by simp)
            clear hg hb' k1 hk
            go_wp2_with fail
            refine (tick_any b' i r u v (q - 1) _ hB' hF (by omega) (by omega)).mono ?_
            clear hB'
            rintro e w5 ⟨rfl, hB', hg⟩
            rw [E1'.out]
            replace HK := HK.some_ hg hb1
            replace hB := hB.grown hg (by simpa using hne)
            have hF2 := fit_tick (n := q - 1) hF
            have z0 := hF2.l0
            generalize tickN r u v (q - 1) = z at *
            clear hg
            go_wp2_with fail
            refine (take_no b' i r u z n _ hB' z0 QN.out n1).mono ?_
            rintro e w6 ⟨rfl, rfl⟩
            clear hB' hF2 z0 QN
            go_wp2_with fail
            refine (tick_any b i r u v q _ hB hF (by omega) (by omega)).mono ?_
            clear hB
            rintro e w6 ⟨rfl, hB, hg⟩
            rw [E2'.out]
            replace HK := HK.some_ hg hb0
            have hF2 := fit_tick (n := q) hF
            have z1 := hF2.lu
            generalize tickN r u v q = z at *
            clear hg
            go_wp2_with fail
            refine (take_yes b i r u z n _ hB n0 QY.out (by omega)).mono ?_
            rintro e w7 ⟨rfl, hB, hg⟩
            replace HK := HK.some_ hg hb0
            go_wp2_with fail
            go_ret
            exact ⟨rfl, HK.below⟩
    · refine (played_no i r u _ _ (by simpa using hmay)).mono ?_
      rintro e w2 ⟨rfl, hg⟩
      replace HK := HK.none_ hg
      go_wp2_with fail
      go_ret
      exact ⟨rfl, HK.below⟩
  · go_enter Try.func5, Try.ntmps5
    go_wp2_with fail
    refine (awake_any _).mono ?_
    rintro e w1 ⟨rfl, hb⟩
    have HK : Kp w.heap.size w w1 := ((Kp.refl w).alloc _).go hb
    go_wp2_with fail
    go_ret
    exact ⟨rfl, HK.below⟩
theorem core (i r u : Int) (A : Option Addr) (c : Nat) (l : List Base.Act) (n : Int) (w : World) (_ : (Lit.int .i64 i).wf = true) (_ : l.length ≤ c) (hm : l.length * 24 ≤ 140737488351232) (_ : ∀ x ∈ l, ActOk x) (hA : Acts w A l)
    (hn : (Lit.int .u64 n).wf = true) :
    Calls Try.prog 5 #[.agg #[.int .i64 i, .int .i64 r, .int .i64 u], .slice A l.length c, .int .u64 n] w fun e w' => e = .returned (.bool true) ∧ Below w.heap.size w w' :=
  main i r u n A c l w hA (by omega) (Arg.bd_u64 hn)
end Go.Proofs.Ytohinfbahjepoaa.Waits
