/- What the reference's bucket does: contracts, each function once. Conditions: as each contract says. -/
import Derived.Test.YtohinfbahjepoaaPlay
import Derived.IntWalk
set_option linter.unusedVariables false
set_option linter.unusedSimpArgs false
namespace Go.Proofs.Ytohinfbahjepoaa.Ref
open Go Go.RowKit Go.Proofs.Ytohinfbahjepoaa.Mem Go.Proofs.YtohinfbahjepoaaW.PrintWords Go.Proofs.Ytohinfbahjepoaa.Base
theorem may_no {i r u : Int} (h : ¬ (0 ≤ r ∧ r ≤ 1099511627776 ∧ 0 ≤ u ∧ u ≤ 1099511627776 ∧ 1 ≤ i ∧ i ≤ 65534)) : mayB i r u = false := decide_eq_false h
theorem may_yes {i r u : Int} (h : 0 ≤ r ∧ r ≤ 1099511627776 ∧ 0 ≤ u ∧ u ≤ 1099511627776 ∧ 1 ≤ i ∧ i ≤ 65534) : mayB i r u = true := decide_eq_true h
set_option maxHeartbeats 1000000 in
theorem may_any (i r u : Int) (w : World) : Calls Try.prog 19 #[.agg #[.int .i64 i, .int .i64 r, .int .i64 u]] w fun e w' => e = .returned (.bool (mayB i r u)) ∧ Below w.heap.size w w' := by
  have hc : (i < 1 ∧ mayB i r u = false) ∨ (1 ≤ i ∧ 65534 < i ∧ mayB i r u = false) ∨ (1 ≤ i ∧ i ≤ 65534 ∧ r < 0 ∧ mayB i r u = false) ∨ (1 ≤ i ∧ i ≤ 65534 ∧ 0 ≤ r ∧ 1099511627776 < r ∧ mayB i r u = false) ∨ (1 ≤ i ∧ i ≤ 65534 ∧ 0 ≤ r ∧ r ≤ 1099511627776 ∧ u < 0 ∧ mayB i r u = false) ∨ (1 ≤ i ∧ i ≤ 65534 ∧ 0 ≤ r ∧ r ≤ 1099511627776 ∧ 0 ≤ u ∧ 1099511627776 < u ∧ mayB i r u = false) ∨ (1 ≤ i ∧ i ≤ 65534 ∧ 0 ≤ r ∧ r ≤ 1099511627776 ∧ 0 ≤ u ∧ u ≤ 1099511627776 ∧ mayB i r u = true) := by
    by_cases h : (0 ≤ r ∧ r ≤ 1099511627776 ∧ 0 ≤ u ∧ u ≤ 1099511627776 ∧ 1 ≤ i ∧ i ≤ 65534)
    · have hy := may_yes h
      refine .inr (.inr (.inr (.inr (.inr (.inr ⟨?_, ?_, ?_, ?_, ?_, ?_, hy⟩))))) <;> omega
    · have := may_no h
      simp only [this, and_true]
      omega
  rcases hc with ⟨h1, hm⟩ | ⟨h1, h2, hm⟩ | ⟨h1, h2, h3, hm⟩ | ⟨h1, h2, h3, h4, hm⟩ | ⟨h1, h2, h3, h4, h5, hm⟩ | ⟨h1, h2, h3, h4, h5, h6, hm⟩ | ⟨h1, h2, h3, h4, h5, h6, hm⟩
  all_goals
    rw [hm]
    clear hm
    go_enter Try.func19, Try.ntmps19
    go_wp2
    go_ret
    exact ⟨by first | rfl | simp [*], (Below.refl _ _).alloc (Nat.le_refl _) _⟩
abbrev Bu' (w : World) (b : Nat) (i r u l : Int) : Prop := Blk w b 50 #[.int .i64 i, .int .i64 r, .int .i64 u, .int .i64 l]
def NewYes' (w : World) (i r u : Int) (e : Ending) (w' : World) : Prop := ∃ b, e = .returned (.tuple #[.pointer (some ⟨b, 0, none⟩), .int .i64 0]) ∧ w.heap.size ≤ b ∧ Bu' w' b i r u u ∧ w.grownBy w' none
theorem new_yes (i r u : Int) (w : World) (h : mayB i r u = true) : Calls Try.prog 18 #[.agg #[.int .i64 i, .int .i64 r, .int .i64 u]] w (NewYes' w i r u) := by
  go_enter Try.func18, Try.ntmps18
  go_wp2_with fail
  refine (may_any i r u _).mono ?_
  rintro e w1 ⟨rfl, hb⟩
  have hk := (Blk.new w 23 #[.int .i64 i, .int .i64 r, .int .i64 u]).go hb
  have k0 : w1.cell? ⟨w.heap.size, 0, none⟩ = some (.int .i64 i) := hk.cell 0
  have k1 : w1.cell? ⟨w.heap.size, 1, none⟩ = some (.int .i64 r) := hk.cell 1
  have k2 : w1.cell? ⟨w.heap.size, 2, none⟩ = some (.int .i64 u) := hk.cell 2
  have hg : w.grownBy w1 none := gb_trans (World.grownBy_alloc _ _ _) (gb_below hb _)
  have hs := hg.size
  clear hk hb
  go_wp2
  go_ret2
  exact ⟨_, rfl, hs, Blk.new _ _ _, gb_alloc _ _ hg⟩
theorem new_no (i r u : Int) (w : World) (h : mayB i r u = false) : Calls Try.prog 18 #[.agg #[.int .i64 i, .int .i64 r, .int .i64 u]] w fun e w' => e = .returned (.tuple #[.pointer none, .int .i64 3]) ∧ w.grownBy w' none := by
  go_enter Try.func18, Try.ntmps18
  go_wp2_with (go_at_call 19; refine (may_any i r u _).mono ?_; rintro e w1 ⟨rfl, hb⟩)
  go_ret2
  exact ⟨rfl, gb_trans (World.grownBy_alloc _ _ _) (gb_below hb _)⟩
section
variable {w : World} {b : Nat} {i r u l : Int}
theorem bu0' (h : Bu' w b i r u l) : w.cell? ⟨b, 0, none⟩ = some (.int .i64 i) := h.cell 0
theorem bu1' (h : Bu' w b i r u l) : w.cell? ⟨b, 1, none⟩ = some (.int .i64 r) := h.cell 1
theorem bu2' (h : Bu' w b i r u l) : w.cell? ⟨b, 2, none⟩ = some (.int .i64 u) := h.cell 2
theorem bu3' (h : Bu' w b i r u l) : w.cell? ⟨b, 3, none⟩ = some (.int .i64 l) := h.cell 3
theorem bu_set' (h : Bu' w b i r u l) (l' : Int) : Bu' (w.setCell ⟨b, 3, none⟩ (.int .i64 l')) b i r u l' := h.set_ 3 _
end
theorem take_any (b : Nat) (i r u l n : Int) (w : World) (hB : Bu' w b i r u l) (hF : Fit r u l) (h0 : 0 ≤ n) (h1 : n < 18446744073709551616) : Calls Try.prog 20 #[.pointer (some ⟨b, 0, none⟩), .int .u64 n] w fun e w' => e = .returned (.bool (takeB n l)) ∧ Bu' w' b i r u (takeL n l) ∧ w.grownBy w' (some b) := by
  have q0 := hF.l0; have q1 := hF.lu; have q2 := hF.u1
  have c3 := bu3' hB
  have f3 := hB.frozen 3
  by_cases h : n ≤ l
  · rw [takeB_true.mpr h, show takeL n l = l - n from if_pos h]
    go_enter Try.func20, Try.ntmps20
    go_wp2
    go_ret
    exact ⟨rfl, bu_set' hB _, gb_set _ (World.grownBy.refl _ _)⟩
  · rw [takeB_false.mpr (by omega), show takeL n l = l from if_neg h]
    go_enter Try.func20, Try.ntmps20
    go_wp2
    go_ret
    exact ⟨rfl, hB, World.grownBy.refl _ _⟩
def CopyYes' (w : World) (i r u l : Int) (e : Ending) (w' : World) : Prop := ∃ b, e = .returned (.pointer (some ⟨b, 0, none⟩)) ∧ w.heap.size ≤ b ∧ Bu' w' b i r u l ∧ w.grownBy w' none
theorem copy_yes (b : Nat) (i r u l : Int) (w : World) (hB : Bu' w b i r u l) : Calls Try.prog 22 #[.pointer (some ⟨b, 0, none⟩)] w (CopyYes' w i r u l) := by
  have c0 := bu0' hB
  have c1 := bu1' hB
  have c2 := bu2' hB
  have c3 := bu3' hB
  have n0 := World.new_ne w _ c0
  have n1 := World.new_ne w _ c1
  have n2 := World.new_ne w _ c2
  have n3 := World.new_ne w _ c3
  go_enter Try.func22, Try.ntmps22
  go_wp2
  go_region_held3 (fun w' => w'.cell? ⟨b, 0, none⟩ = some (.int .i64 i) ∧ w'.cell? ⟨b, 1, none⟩ = some (.int .i64 r) ∧ w'.cell? ⟨b, 2, none⟩ = some (.int .i64 u) ∧ w'.cell? ⟨b, 3, none⟩ = some (.int .i64 l)) (go_keep) (fail)
  go_wp2
  go_ret
  exact ⟨_, rfl, Nat.le_refl _, Blk.new _ _ _, gb_alloc _ _ (gb_drew _ (World.grownBy.refl _ _))⟩
theorem tick_any (b : Nat) (i r u l n : Int) (w : World) (hB : Bu' w b i r u l) (hF : Fit r u l) (h0 : -9223372036854775808 ≤ n) (h1 : n < 9223372036854775808) : Calls Try.prog 21 #[.pointer (some ⟨b, 0, none⟩), .int .i64 n] w fun e w' => e = .returned (.int .i64 (tickE n)) ∧ Bu' w' b i r u (tickN r u l n) ∧ w.grownBy w' (some b) := by
  have q0 := hF.l0; have q1 := hF.lu; have q2 := hF.u1; have q3 := hF.r0; have q4 := hF.r1
  have c1 := bu1' hB
  have c2 := bu2' hB
  have c3 := bu3' hB
  have f3 := hB.frozen 3
  by_cases hn : n < 0
  · rw [show tickE n = 1 from if_pos hn, show tickN r u l n = l from if_pos hn]
    go_enter Try.func21, Try.ntmps21
    go_wp2
    go_ret
    exact ⟨rfl, hB, World.grownBy.refl _ _⟩
  · rw [show tickE n = 0 from if_neg hn, show tickN r u l n = tickL r u l n from if_neg hn]
    by_cases hr : r = 0
    · subst hr
      have e : tickL 0 u l n = l := by unfold tickL; rw [Int.mul_zero, Int.add_zero, if_pos q1]
      rw [e]
      clear e
      go_enter Try.func21, Try.ntmps21
      go_wp2
      go_quiet (fail)
      have hB2 : Bu' (w.drewN nq) b i 0 u l := hB.drewN _
      have hg2 : w.grownBy (w.drewN nq) (some b) := gb_drewN _ _ (World.grownBy.refl _ _)
      clear c1 c2 c3 f3 hB
      generalize w.drewN nq = w2 at *
      have c1 := bu1' hB2
      go_wp2
      go_ret
      exact ⟨rfl, hB2, hg2⟩
    · have hr1 : 1 ≤ r := by omega
      have hr3 : (r == 0) = false := beq_eq_false_iff_ne.mpr hr
      have e1 : (u - l) / r * r ≤ u - l := Int.ediv_mul_le _ hr
      have e2 : u - l < ((u - l) / r + 1) * r := Int.lt_ediv_add_one_mul_self _ (by omega)
      have t0 : decide (0 < r) = true := decide_eq_true (by omega)
      have w1 : IntKind.i64.wrap (u - l) = u - l := IntWalk.i64_in _ (by omega)
      have e5 : 0 ≤ (u - l) / r := Int.ediv_nonneg (by omega) (by omega)
      have e6 : (u - l) / r ≤ u - l := Int.ediv_le_self _ (by omega)
      have wq : wrap64 ((u - l) / r) = (u - l) / r := by unfold wrap64; omega
      have wq' : IntKind.i64.wrap ((u - l) / r) = (u - l) / r := IntWalk.i64_in _ (by omega)
      clear e5 e6
      by_cases hq : (u - l) / r < n
      · have e : tickL r u l n = u := by
          have : ((u - l) / r + 1) * r ≤ n * r := Int.mul_le_mul_of_nonneg_right (by omega) (by omega)
          unfold tickL
          split <;> omega
        have E := Lib.hid e
        have td : (u - l).tdiv r = (u - l) / r := Int.tdiv_eq_ediv_of_nonneg (by omega)
        have t1 : decide ((u - l) / r < n) = true := decide_eq_true hq
        clear e e1 e2 hq
        go_enter Try.func21, Try.ntmps21
        go_wp2
        go_quiet (fail)
        have hB2 : Bu' (w.drewN nq) b i r u l := hB.drewN _
        have hg2 : w.grownBy (w.drewN nq) (some b) := gb_drewN _ _ (World.grownBy.refl _ _)
        clear c1 c2 c3 f3 hB t0 t1 td w1 wq wq'
        generalize w.drewN nq = w2 at *
        have c2 := bu2' hB2
        have c3 := bu3' hB2
        have f3 := hB2.frozen 3
        go_wp2
        go_ret
        exact ⟨rfl, by rw [E.out]; exact bu_set' hB2 _, gb_set _ hg2⟩
      · have hnr : n * r ≤ (u - l) / r * r := Int.mul_le_mul_of_nonneg_right (by omega) (by omega)
        have hn0 : 0 ≤ n * r := Int.mul_nonneg (by omega) (by omega)
        have e : tickL r u l n = l + n * r := if_pos (by omega)
        have E := Lib.hid e
        have hn2 : n * r ≤ u - l := by omega
        have td : (u - l).tdiv r = (u - l) / r := Int.tdiv_eq_ediv_of_nonneg (by omega)
        have t1 : decide ((u - l) / r < n) = false := decide_eq_false hq
        have N0 := Lib.hid hn0
        have N2 := Lib.hid hn2
        have QQ := Lib.hid hq
        clear e e1 e2 hq hnr hn0 hn2
        go_enter Try.func21, Try.ntmps21
        go_wp2
        go_quiet (fail)
        have hB2 : Bu' (w.drewN nq) b i r u l := hB.drewN _
        have hg2 : w.grownBy (w.drewN nq) (some b) := gb_drewN _ _ (World.grownBy.refl _ _)
        clear c1 c2 c3 f3 hB t0 t1 td w1 wq wq'
        generalize w.drewN nq = w2 at *
        have c1 := bu1' hB2
        have c2 := bu2' hB2
        have c3 := bu3' hB2
        have f3 := hB2.frozen 3
        have hn0 := N0.out
        have hn2 := N2.out
        have wm : IntKind.i64.wrap (n * r) = n * r := IntWalk.i64_in _ (by omega)
        have wl : IntKind.i64.wrap (l + n * r) = l + n * r := IntWalk.i64_in _ (by omega)
        clear hn0 hn2
        go_wp2
        go_still_tail 15, (by kernel_rfl)
        change wpList _ _ _ _ _ w2.drew
        have hB3 : Bu' w2.drew b i r u l := hB2
        have hg3 : w.grownBy w2.drew (some b) := gb_drew _ hg2
        clear c1 c2 c3 f3 hB2 hg2 wm wl
        generalize w2.drew = w3 at *
        have c3 := bu3' hB3
        have f3 := hB3.frozen 3
        go_wp2
        go_ret
        exact ⟨rfl, by rw [E.out]; exact bu_set' hB3 _, gb_set _ hg3⟩
theorem ceil_two (m r : Int) (hm : 1 ≤ m) (hr : 1 ≤ r) : (m / r * r < m → m / r + 1 = (m + r - 1) / r) ∧ (¬ m / r * r < m → m / r = (m + r - 1) / r) := by
  have e1 : m / r * r ≤ m := Int.ediv_mul_le _ (by omega)
  have e2 : m < (m / r + 1) * r := Int.lt_ediv_add_one_mul_self _ (by omega)
  rw [Int.add_mul, Int.one_mul] at e2
  constructor
  · intro h
    have h1 : (m / r + 1) * r ≤ m + r - 1 := by rw [Int.add_mul, Int.one_mul]; omega
    have h2 : m + r - 1 < (m / r + 1 + 1) * r := by rw [Int.add_mul, Int.one_mul, Int.add_mul, Int.one_mul]; omega
    have a1 := (Int.le_ediv_iff_mul_le (by omega)).mpr h1
    have a2 := (Int.ediv_lt_iff_lt_mul (by omega)).mpr h2
    omega
  · intro h
    have h1 : (m / r) * r ≤ m + r - 1 := by omega
    have h2 : m + r - 1 < (m / r + 1) * r := by rw [Int.add_mul, Int.one_mul]; omega
    have a1 := (Int.le_ediv_iff_mul_le (by omega)).mpr h1
    have a2 := (Int.ediv_lt_iff_lt_mul (by omega)).mpr h2
    omega
/-- What Wait answers. -/
def waitT (r u l n : Int) : Int := if n ≤ l then 0 else if u < n then 0 else if r = 0 then 0 else (n - l + r - 1) / r
def waitB (r u l n : Int) : Bool := if n ≤ l then true else if u < n then false else if r = 0 then false else true
theorem wait_any (b : Nat) (i r u l n : Int) (w : World) (hB : Bu' w b i r u l) (hF : Fit r u l) (h0 : 0 ≤ n) (h1 : n < 18446744073709551616) : Calls Try.prog 23 #[.pointer (some ⟨b, 0, none⟩), .int .u64 n] w fun e w' => e = .returned (.tuple #[.int .i64 (waitT r u l n), .bool (waitB r u l n)]) ∧ ∃ k, w' = w.drewN k := by
  have q0 := hF.l0; have q1 := hF.lu; have q2 := hF.u1; have q3 := hF.r0; have q4 := hF.r1
  have c1 := bu1' hB
  have c2 := bu2' hB
  have c3 := bu3' hB
  by_cases a : n ≤ l
  · rw [show waitT r u l n = 0 from if_pos a, show waitB r u l n = true from if_pos a]
    go_enter Try.func23, Try.ntmps23
    go_wp2
    go_ret2
    exact ⟨rfl, 0, rfl⟩
  · by_cases c : u < n
    · rw [show waitT r u l n = 0 from (if_neg a).trans (if_pos c), show waitB r u l n = false from (if_neg a).trans (if_pos c)]
      go_enter Try.func23, Try.ntmps23
      go_wp2
      go_ret2
      exact ⟨rfl, 0, rfl⟩
    · by_cases hr : r = 0
      · subst hr
        rw [show waitT 0 u l n = 0 from (if_neg a).trans ((if_neg c).trans (if_pos rfl)), show waitB 0 u l n = false from (if_neg a).trans ((if_neg c).trans (if_pos rfl))]
        go_enter Try.func23, Try.ntmps23
        go_wp2
        go_ret2
        exact ⟨rfl, 0, rfl⟩
      · rw [show waitT r u l n = (n - l + r - 1) / r from (if_neg a).trans ((if_neg c).trans (if_neg hr)), show waitB r u l n = true from (if_neg a).trans ((if_neg c).trans (if_neg hr))]
        have hr3 : (r == 0) = false := beq_eq_false_iff_ne.mpr hr
        have z := ceil_two (n - l) r (by omega) (by omega)
        have e1 : (n - l) / r * r ≤ n - l := Int.ediv_mul_le _ hr
        have e3 : 0 ≤ (n - l) / r * r := Int.mul_nonneg (Int.ediv_nonneg (by omega) (by omega)) (by omega)
        have e4 : (n - l) / r ≤ n - l := Int.ediv_le_self _ (by omega)
        have e5 : 0 ≤ (n - l) / r := Int.ediv_nonneg (by omega) (by omega)
        by_cases hlt : (n - l) / r * r < n - l
        · have wq : wrap64 ((n - l) / r + 1) = (n - l + r - 1) / r := by rw [← z.1 hlt]; unfold wrap64; omega
          clear z e4 e5
          go_enter Try.func23, Try.ntmps23
          go_wp2_with fail
          go_ret2
          exact ⟨rfl, 0, rfl⟩
        · rw [← z.2 hlt]
          clear z e4 e5
          go_enter Try.func23, Try.ntmps23
          go_wp2_with fail
          go_ret2
          exact ⟨rfl, 0, rfl⟩
/-- What the program's Wait answers. -/
theorem wait_all (b : Nat) (i r u l n : Int) (w : World) (hB : Bu w b i r u l) (hF : Fit r u l) (h0 : 0 ≤ n) (h1 : n < 18446744073709551616) : Calls Try.prog 16 #[.pointer (some ⟨b, 0, none⟩), .int .u64 n] w fun e w' => e = .returned (.tuple #[.int .i64 (waitT r u l n), .bool (waitB r u l n)]) ∧ ∃ k, w' = w.drewN k := by
  have q0 := hF.l0; have q1 := hF.lu; have q2 := hF.u1; have q3 := hF.r0; have q4 := hF.r1
  by_cases a : n ≤ l
  · rw [show waitT r u l n = 0 from if_pos a, show waitB r u l n = true from if_pos a]
    exact (wait_now b i r u l n w hB h0 a (by omega)).mono fun _ _ ⟨h, k⟩ => ⟨h, 0, k⟩
  · by_cases c : u < n
    · rw [show waitT r u l n = 0 from (if_neg a).trans (if_pos c), show waitB r u l n = false from (if_neg a).trans (if_pos c)]
      exact (wait_much b i r u l n w hB q0 q1 q2 c h1).mono fun _ _ ⟨h, k⟩ => ⟨h, 0, k⟩
    · by_cases hr : r = 0
      · subst hr
        rw [show waitT 0 u l n = 0 from (if_neg a).trans ((if_neg c).trans (if_pos rfl)), show waitB 0 u l n = false from (if_neg a).trans ((if_neg c).trans (if_pos rfl))]
        exact (wait_zero b i u l n w hB q0 (by omega) q2 (by omega)).mono fun _ _ ⟨h, k⟩ => ⟨h, 0, k⟩
      · rw [show waitT r u l n = (n - l + r - 1) / r from (if_neg a).trans ((if_neg c).trans (if_neg hr)), show waitB r u l n = true from (if_neg a).trans ((if_neg c).trans (if_neg hr))]
        exact wait_ticks b i r u l n w hB q0 (by omega) q2 (by omega) (by omega) q4
end Go.Proofs.Ytohinfbahjepoaa.Ref
