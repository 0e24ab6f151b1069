/- Buckets of one weight, a power of 2: plain lemmas. Conditions: as each lemma says. -/
import Derived.Test.YtpmckbpplkkgaaaTwicePure
import Derived.Test.YtpmckbpplkkgaaaBuckets
set_option linter.unusedVariables false
set_option linter.unusedSimpArgs false
namespace Go.Proofs.Ytpmckbpplkkgaaa.Base
open Go Go.RowKit Go.Proofs.Ytpmckbpplkkgaaa.Fl
open Go.Proofs.Ytpmckbpplkkgaaa.PGroupTells (S34 z34 k34 k34_open k34_mk)
def pwN (j : Nat) : Nat := (1003 + j) * 4503599627370496
theorem B_eq : B = 4503599627370496 := by decide
theorem may_pw : ∀ j, j < 41 → may (pwN j) = true := by decide +kernel
theorem tw_pw (j : Nat) (hj : j < 41) : tw (pwN j) = pwN (j + 1) := by
  rw [tw_pos]
  · rw [B_eq]
    unfold pwN
    omega
  · unfold pwN
    omega
  · have : SW = 9223372036854775808 := by decide
    rw [this]
    unfold pwN
    omega
theorem mid_pw (n j : Nat) (hj : j < 40) : midL (List.replicate n ((pwN j : Nat) : Int)) := by
  intro y hy
  rw [(List.mem_replicate.1 hy).2]
  rw [Int.toNat_natCast]
  refine ⟨by omega, .inr (.inr ?_), may_pw j (by omega), ?_⟩
  · rw [B_eq]
    unfold pwN
    omega
  · rw [tw_pw j (by omega)]
    exact may_pw (j + 1) (by omega)
theorem tw_rep (n j : Nat) (hj : j < 40) : twL (List.replicate n ((pwN j : Nat) : Int)) = List.replicate n ((pwN (j + 1) : Nat) : Int) := by
  unfold twL
  rw [List.map_replicate, Int.toNat_natCast, tw_pw j (by omega)]
theorem choose_step (n h : Nat) (hn : n ≤ 16) (hh : h < 4294967296) : ∀ j, j < 41 → choose (List.replicate n ((pwN j : Nat) : Int)) h = choose (List.replicate n ((pwN 0 : Nat) : Int)) h := by
  intro j
  induction j with
  | zero => intro _; rfl
  | succ j ih =>
    intro hj
    rw [← tw_rep n j (by omega), choose_tw _ h (mid_pw n j (by omega)) (by rw [List.length_replicate]; omega) hh]
    exact ih (by omega)
theorem choose_even (n h j : Nat) (hn0 : 0 < n) (hn : n ≤ 16) (hh : h < 4294967296) (hj : j < 41) : choose (List.replicate n ((pwN j : Nat) : Int)) h = (h * n / 4294967296, true) := by
  rw [choose_step n h hn hh j hj, ← choose_step n h hn hh 20 (by omega)]
  have := choose_ones n h [] (fun y hy => by cases hy) hn0 (by omega) hh
  rw [List.append_nil] at this
  exact this
theorem goes_even (n h j : Nat) (hn0 : 0 < n) (hn : n ≤ 16) (hh : h < 4294967296) (hj : j < 41) : goesB 3 2 4 (List.replicate n ⟨((pwN j : Nat) : Int), 9⟩) h [((h * n / 4294967296 : Nat) : Int)] = true := by
  have hm : gmay 3 2 4 (List.replicate n ⟨((pwN j : Nat) : Int), 9⟩) = true := by
    unfold gmay
    rw [if_neg (by decide), if_pos (by decide)]
    unfold mayIn
    have h1 : (List.replicate n (⟨((pwN j : Nat) : Int), 9⟩ : S34)).any (fun x => !(okB false x)) = false := by
      rw [List.any_eq_false]
      intro x hx
      rw [(List.mem_replicate.1 hx).2]
      have : okB false ⟨((pwN j : Nat) : Int), 9⟩ = true := by
        unfold okB wOk
        rw [if_neg (by decide), Int.toNat_natCast, may_pw j hj]
        show (idB 9 && true) = true
        decide
      rw [this]
      decide
    rw [h1, List.length_replicate, decide_eq_true (show 1 ≤ n by omega), decide_eq_true hn]
    decide
  unfold goesB gch
  rw [hm, if_pos rfl, if_neg (by decide), List.map_replicate, choose_even n h j hn0 hn hh hj]
  simp
theorem inb_even (n j : Nat) (hj : j < 41) : inB (List.replicate n ⟨((pwN j : Nat) : Int), 9⟩) := by
  intro x hx
  rw [(List.mem_replicate.1 hx).2]
  show 0 ≤ ((pwN j : Nat) : Int) ∧ ((pwN j : Nat) : Int) < 18446744073709551616
  unfold pwN
  omega
end Go.Proofs.Ytpmckbpplkkgaaa.Base
