/- What is large, and that lists are the same. Conditions: as each contract says. -/
import Derived.Test.YtndbchigekbjaaaSolePure
import Derived.Test.YtndbchigekbjaaaPxT
set_option linter.unusedVariables false
set_option linter.unusedSimpArgs false
namespace Go.Proofs.Ytndbchigekbjaaa.Base
open Go Go.RowKit Go.Proofs.Ytndbchigekbjaaa.Mem Go.Proofs.YtndbchigekbjaaaW.PrintWords
theorem large_l (l : List ByteArray) (hl : l.length < 1000000000000000) : ∀ (j i n k : Nat), l.length = i + j → n ≤ 200010 → j < k →
    ∃ r, PTlvLists.turnoutlaw06_large.l0 k l (n : Int) (i : Int) = some r ∧ (r = false → n + tot (l.drop i) + 8 * (l.drop i).length < 100000) := by
  intro j
  induction j with
  | zero =>
    intro i n k h1 h2 h3
    obtain ⟨k, rfl⟩ : ∃ k', k = k' + 1 := ⟨k - 1, by omega⟩
    have hd : l.drop i = [] := List.drop_eq_nil_of_le (by omega)
    have c1 : ¬ (i : Int) < (l.length : Int) := by omega
    rw [PTlvLists.turnoutlaw06_large.l0, if_neg c1, hd]
    by_cases c : (n : Int) ≥ 100000
    · first | rw [if_pos c] | skip
      exact ⟨_, rfl, fun h => by simp at h <;> omega⟩
    · first | rw [if_neg c] | skip
      exact ⟨_, rfl, fun _ => by simp only [tot, List.length_nil]; omega⟩
  | succ j ih =>
    intro i n k h1 h2 h3
    obtain ⟨k, rfl⟩ : ∃ k', k = k' + 1 := ⟨k - 1, by omega⟩
    have hi : i < l.length := by omega
    have hd : l.drop i = l[i] :: l.drop (i + 1) := List.drop_eq_getElem_cons hi
    have c1 : (i : Int) < (l.length : Int) := by omega
    have c2 : (0 : Int) ≤ (i : Int) := by omega
    have hw : wrap64 ((i : Int) + 1) = ((i + 1 : Nat) : Int) := by unfold wrap64; omega
    have er : rdOf ByteArray.empty l (i : Int) = l[i] := by simp [rdOf, List.getD_eq_getElem?_getD, hi]
    rw [PTlvLists.turnoutlaw06_large.l0, if_pos c1, hd]
    by_cases c : (n : Int) < 100000
    · have hm : ∃ m : Nat, mn 100000 (l[i].size : Int) = (m : Int) ∧ m ≤ 100000 ∧ (m < 100000 → m = l[i].size) := by
        unfold mn
        by_cases h : (l[i].size : Int) < 100000
        · exact ⟨l[i].size, by simp only [h, if_true], by omega, fun _ => rfl⟩
        · exact ⟨100000, by simp only [h, if_false]; rfl, by omega, fun h => by omega⟩
      obtain ⟨m, e1, e2, e3⟩ := hm
      have hw2 : wrap64 (wrap64 ((n : Int) + 10) + (m : Int)) = ((n + 10 + m : Nat) : Int) := by unfold wrap64; omega
      rw [if_pos c, if_pos c2, er, e1, hw2, hw]
      obtain ⟨r, h4, h5⟩ := ih (i + 1) (n + 10 + m) k (by omega) (by omega) (by omega)
      refine ⟨r, h4, fun h => ?_⟩
      have := h5 h
      have hm := e3 (by omega)
      simp only [tot, List.length_cons]
      omega
    · rw [if_neg c]
      by_cases c' : (n : Int) ≥ 100000
      · first | rw [if_pos c'] | skip
        exact ⟨_, rfl, fun h => by simp at h <;> omega⟩
      · omega
theorem str_list (a b : ByteArray) : a.toList = b.toList ↔ a = b := by
  constructor
  · intro h; exact str_ext (by simpa [ByteArray.toList_eq] using h)
  · intro h; rw [h]
theorem wrap_nat (k : Nat) (h : k < 9223372036854775807) : wrap64 ((k : Int) + 1) = ((k + 1 : Nat) : Int) := by unfold wrap64; omega
theorem same_l0 (l m : List ByteArray) (hlm : l.length = m.length) (hl : l.length < 9223372036854775807) : ∀ (d k j : Nat), l.length - j = d → d < k → j ≤ l.length → l.take j = m.take j → PTlvLists.turnoutref06_Texts.l0 k l m (j : Int) = some (decide (l = m)) := by
  intro d
  induction d with
  | zero =>
    intro k j hd hk hj he
    obtain ⟨k, rfl⟩ : ∃ q, k = q + 1 := ⟨k - 1, by omega⟩
    have hjl : j = l.length := by omega
    subst hjl
    rw [List.take_length, hlm, List.take_length] at he
    simp only [PTlvLists.turnoutref06_Texts.l0]
    rw [if_neg (by omega), he]
    simp
  | succ d ih =>
    intro k j hd hk hj he
    obtain ⟨k, rfl⟩ : ∃ q, k = q + 1 := ⟨k - 1, by omega⟩
    have hjl : j < l.length := by omega
    have hjm : j < m.length := by omega
    simp only [PTlvLists.turnoutref06_Texts.l0]
    rw [if_pos (by omega), if_pos (by omega), if_pos (by omega)]
    have e1 : rdOf ByteArray.empty l (j : Int) = l[j] := by simp [rdOf, List.getD_eq_getElem?_getD, hjl]
    have e2 : rdOf ByteArray.empty m (j : Int) = m[j] := by simp [rdOf, List.getD_eq_getElem?_getD, hjm]
    rw [e1, e2]
    by_cases hq : l[j] = m[j]
    · rw [if_pos ((str_list _ _).2 hq), wrap_nat j (by omega)]
      exact ih k (j + 1) (by omega) (by omega) (by omega) (by rw [List.take_succ_eq_append_getElem hjl, List.take_succ_eq_append_getElem hjm, he, hq])
    · rw [if_neg (fun h => hq ((str_list _ _).1 h))]
      have : l ≠ m := fun h => hq (by subst h; rfl)
      simp [this]
theorem same_f (l m : List ByteArray) (hl : l.length < 9223372036854775807) : ∃ k, PTlvLists.turnoutref06_Texts.f k l m = some (decide (l = m)) := by
  by_cases hlm : l.length = m.length
  · refine ⟨l.length + 1, ?_⟩
    unfold PTlvLists.turnoutref06_Texts.f
    rw [if_pos (by omega)]
    exact same_l0 l m hlm hl l.length (l.length + 1) 0 (by omega) (by omega) (by omega) (by simp)
  · refine ⟨0, ?_⟩
    unfold PTlvLists.turnoutref06_Texts.f
    rw [if_neg (by omega)]
    have : l ≠ m := fun h => hlm (by rw [h])
    simp [this]
theorem same_any (A0 : Option Addr) (c0 : Nat) (l : List ByteArray) (A1 : Option Addr) (c1 : Nat) (m : List ByteArray) (w : World) (h0 : Kd.C Kd.string w A0 l.length l) (hc0 : l.length ≤ c0) (h1 : Kd.C Kd.string w A1 m.length m) (hc1 : m.length ≤ c1) (hb : l.length < 9223372036854775807) :
    Calls Try.prog 28 #[.slice A0 l.length c0, .slice A1 m.length c1] w fun e w' => e = .returned (.bool (decide (l = m))) ∧ ∃ n, w' = w.drewN n := by
  obtain ⟨k, hk⟩ := same_f l m hb
  exact (PTlvLists.turnoutref06_Texts.calls k A0 c0 l A1 c1 m _ w h0 hc0 h1 hc1 hk).mono fun e w' h => ⟨h.1, h.2.out⟩
theorem same_b (A0 : Option Addr) (c0 : Nat) (l : List ByteArray) (A1 : Option Addr) (c1 : Nat) (m : List ByteArray) (w : World) (h0 : Kd.C Kd.string w A0 l.length l) (hc0 : l.length ≤ c0) (h1 : Kd.C Kd.string w A1 m.length m) (hc1 : m.length ≤ c1) (hb : l.length < 9223372036854775807) :
    Calls Try.prog 28 #[.slice A0 l.length c0, .slice A1 m.length c1] w fun e w' => e = .returned (.bool (decide (l = m))) ∧ Below w.heap.size w w' :=
  (same_any A0 c0 l A1 c1 m w h0 hc0 h1 hc1 hb).mono fun e w' ⟨he, n, hw⟩ => ⟨he, by rw [hw]; exact pw_below_drewN (Below.refl _ _) n⟩
theorem large_any (A0 : Option Addr) (c0 : Nat) (l : List ByteArray) (w : World) (h0 : Kd.C Kd.string w A0 l.length l) (hc0 : l.length ≤ c0) (hl : l.length < 1000000000000000) :
    ∃ r : Bool, (r = false → tot l + 8 * l.length < 100000) ∧ Calls Try.prog 25 #[.slice A0 l.length c0] w fun e w' => e = .returned (.bool r) ∧ Below w.heap.size w w' := by
  obtain ⟨r, h1, h2⟩ := large_l l hl l.length 0 0 (l.length + 1) (by omega) (by omega) (by omega)
  refine ⟨r, fun h => by have := h2 h; rw [List.drop_zero] at this; omega, ?_⟩
  exact PTlvLists.turnoutlaw06_large.calls (l.length + 1) A0 c0 l r w h0 hc0 h1
end Go.Proofs.Ytndbchigekbjaaa.Base
