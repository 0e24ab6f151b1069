/- What a Tick does. Conditions: a definition that may be, a level from 0 to Burst, ticks from 0 on. -/
import Derived.Test.YtohinfbahjepoaaBase
import Derived.IntWalk
set_option linter.unusedVariables false
set_option linter.unusedSimpArgs false
namespace Go.Proofs.Ytohinfbahjepoaa.Base
open Go Go.RowKit Go.Proofs.Ytohinfbahjepoaa.Mem Go.Proofs.YtohinfbahjepoaaW.PrintWords
set_option maxHeartbeats 4000000 in
theorem tick_go (b : Nat) (i r u l n : Int) (w : World) (hB : Bu w b i r u l) (hr : 1 ≤ r) (hr2 : r ≤ 1099511627776) (hl : 0 ≤ l) (hlu : l ≤ u) (hu : u ≤ 1099511627776) (hn : 0 ≤ n) (hn2 : n < 9223372036854775808) :
    Calls Try.prog 14 #[.pointer (some ⟨b, 0, none⟩), .int .i64 n] w fun e w' => e = .returned (.int .i64 0) ∧ Bu w' b i r u (tickL r u l n) ∧ w.grownBy w' (some b) := by
  obtain ⟨m, hm⟩ : ∃ m, m = if (u - l + r - 1) / r < n then (u - l + r - 1) / r else n := ⟨_, rfl⟩
  obtain ⟨m0, p0, p1, pt⟩ := tick_plain r u l n m hr hr2 hl hlu hu hn hm
  have c1 := bu1 hB
  have c2 := bu2 hB
  have c3 := bu3 hB
  have f3 := hB.frozen 3
  have hr3 : (r == 0) = false := beq_eq_false_iff_ne.mpr (by omega)
  have hr4 : ¬ r = 0 := by omega
  have HM := Lib.hid hm
  have PT := Lib.hid pt
  clear hm pt
  go_enter Try.func14, Try.ntmps14
  go_wp2
  have P0 := Lib.hid p0
  have P1 := Lib.hid p1
  have w1 : IntKind.i64.wrap (u - l) = u - l := IntWalk.i64_in _ (by omega)
  clear p0 p1
  go_quiet ((go_at_call 25; exact Calls.quiet_of (until_any b i r u l (u - l) _ (hB.drewN _) hr hr2 (by omega) (by omega))))
  rw [← HM.out]
  have p0 := P0.out
  have p1 := P1.out
  clear w1 HM P0 P1
  have hB2 : Bu (w.drewN nq) b i r u l := hB.drewN _
  have hg2 : w.grownBy (w.drewN nq) (some b) := gb_drewN _ _ (World.grownBy.refl _ _)
  clear c1 c2 c3 f3 hB
  generalize w.drewN nq = w2 at *
  have c1 := bu1 hB2
  have c2 := bu2 hB2
  have c3 := bu3 hB2
  have f3 := hB2.frozen 3
  have wm : IntKind.i64.wrap (m * r) = m * r := IntWalk.i64_in _ (by omega)
  have wl : IntKind.i64.wrap (l + m * r) = l + m * r := IntWalk.i64_in _ (by omega)
  have P0 := Lib.hid p0
  have P1 := Lib.hid p1
  clear p0 p1
  go_wp2
  go_still_tail 21, (by kernel_rfl)
  change wpList _ _ _ _ _ w2.drew
  have hB3 : Bu w2.drew b i r u l := hB2
  have hg3 : w.grownBy w2.drew (some b) := gb_drew _ hg2
  clear c1 c2 c3 f3 hB2 hg2 wm wl
  generalize w2.drew = w3 at *
  have c3 := bu3 hB3
  have f3 := hB3.frozen 3
  have hv : tickL r u l n = if l + m * r < u then l + m * r else u := by
    rw [PT.out]
    split <;> split <;> omega
  clear PT
  by_cases h : l + m * r < u
  · rw [if_pos h] at hv
    have PT2 := Lib.hid hv
    clear hv
    rw [if_pos h]
    go_wp2
    go_ret
    exact ⟨rfl, by rw [PT2.out]; exact bu_set hB3 _, gb_set _ hg3⟩
  · rw [if_neg h] at hv
    have PT2 := Lib.hid hv
    clear hv
    rw [if_neg h]
    go_wp2
    go_ret
    exact ⟨rfl, by rw [PT2.out]; exact bu_set hB3 _, gb_set _ hg3⟩
end Go.Proofs.Ytohinfbahjepoaa.Base
