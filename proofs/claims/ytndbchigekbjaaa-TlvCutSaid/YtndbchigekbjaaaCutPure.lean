/- What is told of attributes' bytes that are cut short: plain lemmas. No condition. -/
import Derived.Test.YtndbchigekbjaaaAttrPure
set_option linter.unusedVariables false
set_option linter.unusedSimpArgs false
namespace Go.Proofs.Ytndbchigekbjaaa.Base
open Go Go.RowKit Go.Proofs.YtndbchigekbjaaaW.PrintWords Go.Proofs.Ytndbchigekbjaaa.PTlvCodes
theorem tot_succ (x : S38) (r : List S38) (i : Nat) : tot38 ((x :: r).take (i + 1)) = 3 + x.f1.size + tot38 (r.take i) := by rw [List.take_succ_cons, tot38]
theorem dec_cut : ∀ (a : List S38) (last : Nat), inB a → okA (last : Int) a → ∀ k, k ≤ (abB a).length →
    (∃ i, i ≤ a.length ∧ k = tot38 (a.take i) ∧ dec last ((abB a).take k) = (a.take i, 0)) ∨ ((∀ i, i ≤ a.length → k ≠ tot38 (a.take i)) ∧ (dec last ((abB a).take k)).2 = 4)
  | [], last, _, _, k, hk => by
    obtain rfl : k = 0 := by simpa [abB] using hk
    exact .inl ⟨0, Nat.le_refl _, rfl, by simp [abB, dec]⟩
  | x :: r, last, hb, h, k, hk => by
    obtain ⟨h1, h2, h3, h4⟩ := h
    obtain ⟨b0, b1⟩ := hb x (List.mem_cons_self ..)
    have hx := one_back x.f0 b0 b1
    have hl := size_list x.f1
    have hpos : ∀ i, i ≤ (x :: r).length → tot38 ((x :: r).take i) = 0 ∨ 3 + x.f1.size ≤ tot38 ((x :: r).take i) := by
      intro i _
      cases i with
      | zero => exact .inl rfl
      | succ i => rw [tot_succ]; exact .inr (by omega)
    rcases k with _ | _ | _ | k
    · exact .inl ⟨0, Nat.zero_le _, rfl, by simp [dec]⟩
    · refine .inr ⟨fun i hi => by have := hpos i hi; omega, ?_⟩
      simp [abB, dec]
    · refine .inr ⟨fun i hi => by have := hpos i hi; omega, ?_⟩
      simp [abB, dec]
    · have e : (abB (x :: r)).take (k + 1 + 1 + 1) = UInt8.ofNat x.f0.toNat :: UInt8.ofNat (x.f1.size / 256) :: UInt8.ofNat (x.f1.size % 256) :: (x.f1.data.toList ++ abB r).take k := rfl
      have hk2 : k ≤ x.f1.size + (abB r).length := by
        rw [abB] at hk
        simp only [List.length_cons, List.length_append, ← hl] at hk
        omega
      rw [e, dec_cons, zz_val _ h3, if_neg (by omega)]
      by_cases c : k < x.f1.size
      · rw [if_pos (by rw [List.length_take]; omega)]
        exact .inr ⟨fun i hi => by have := hpos i hi; omega, rfl⟩
      · rw [if_neg (by rw [List.length_take, List.length_append, ← hl]; omega)]
        obtain ⟨j, rfl⟩ : ∃ j, k = x.f1.size + j := ⟨k - x.f1.size, by omega⟩
        have et : (x.f1.data.toList ++ abB r).take (x.f1.size + j) = x.f1.data.toList ++ (abB r).take j := by
          rw [hl, List.take_length_add_append]
        rw [et, hl, List.take_left, List.drop_left, ← hl]
        have ih := dec_cut r (UInt8.ofNat x.f0.toNat).toNat (inB_tail hb) (by rw [hx]; exact h4) j (by omega)
        rw [hx]
        rcases ih with ⟨i, i1, i2, i3⟩ | ⟨i1, i2⟩
        · refine .inl ⟨i + 1, by simp only [List.length_cons]; omega, by rw [tot_succ]; omega, ?_⟩
          rw [i3]
          rfl
        · refine .inr ⟨fun i hi => ?_, i2⟩
          cases i with
          | zero => show _ ≠ 0; omega
          | succ i =>
            rw [tot_succ]
            simp only [List.length_cons] at hi
            have := i1 i (by omega)
            omega
end Go.Proofs.Ytndbchigekbjaaa.Base
