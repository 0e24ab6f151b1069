/- Which attributes are more than a statement goes over. Conditions: as the contract says. -/
import Derived.Test.YtndbchigekbjaaaConv
import Derived.Test.YtndbchigekbjaaaPxA
set_option linter.unusedVariables false
set_option linter.unusedSimpArgs false
namespace Go.Proofs.Ytndbchigekbjaaa.Base
open Go Go.RowKit Go.Proofs.Ytndbchigekbjaaa.Mem Go.Proofs.YtndbchigekbjaaaW.PrintWords Go.Proofs.Ytndbchigekbjaaa.PTlvCodes
theorem long_l (l : List S48) (hl : l.length < 1000000000000000) : ∀ (j i n k : Nat), l.length = i + j → n ≤ 200010 → j < k →
    ∃ r, PTlvCodes.turnoutlaw06_long.l0 k l (n : Int) (i : Int) = some r ∧ (r = false → n + tot38 ((l.drop i).map to38) < 100000 ∧ l.length ≤ 300) := by
  intro j
  have fin : ∀ n : Nat, ∃ r, (if (n : Int) ≥ 100000 then (some true) else (some (decide ((l.length : Int) > 300)))) = some r ∧ (r = false → n < 100000 ∧ l.length ≤ 300) := by
    intro n
    by_cases c : (n : Int) ≥ 100000
    · exact ⟨true, if_pos c, fun h => by cases h⟩
    · exact ⟨_, if_neg c, fun h => by have := of_decide_eq_false h; omega⟩
  induction j with
  | zero =>
    intro i n k h1 h2 h3
    obtain ⟨k, rfl⟩ : ∃ k', k = k' + 1 := ⟨k - 1, by omega⟩
    have hd : l.drop i = [] := List.drop_eq_nil_of_le (by omega)
    have c1 : ¬ (i : Int) < (l.length : Int) := by omega
    rw [PTlvCodes.turnoutlaw06_long.l0, if_neg c1, hd]
    obtain ⟨r, e1, e2⟩ := fin n
    exact ⟨r, e1, fun h => by have := e2 h; simp only [List.map_nil, tot38]; omega⟩
  | succ j ih =>
    intro i n k h1 h2 h3
    obtain ⟨k, rfl⟩ : ∃ k', k = k' + 1 := ⟨k - 1, by omega⟩
    have hi : i < l.length := by omega
    have hd : l.drop i = l[i] :: l.drop (i + 1) := List.drop_eq_getElem_cons hi
    have c1 : (i : Int) < (l.length : Int) := by omega
    have c2 : (0 : Int) ≤ (i : Int) := by omega
    have hw : wrap64 ((i : Int) + 1) = ((i + 1 : Nat) : Int) := by unfold wrap64; omega
    have er : rd_T48 l (i : Int) = l[i] := by simp [rd_T48, List.getD_eq_getElem?_getD, hi]
    rw [PTlvCodes.turnoutlaw06_long.l0, if_pos c1, hd]
    by_cases c : (n : Int) < 100000
    · have hm : ∃ m : Nat, mn 100000 (l[i].f1.size : Int) = (m : Int) ∧ m ≤ 100000 ∧ (m < 100000 → m = l[i].f1.size) := by
        unfold mn
        by_cases h : (l[i].f1.size : Int) < 100000
        · exact ⟨l[i].f1.size, by simp only [h, if_true], by omega, fun _ => rfl⟩
        · exact ⟨100000, by simp only [h, if_false]; rfl, by omega, fun h => by omega⟩
      obtain ⟨m, e1, e2, e3⟩ := hm
      have hw2 : wrap64 (wrap64 ((n : Int) + 10) + (m : Int)) = ((n + 10 + m : Nat) : Int) := by unfold wrap64; omega
      rw [if_pos c, if_pos c2, er, e1, hw2, hw]
      obtain ⟨r, h4, h5⟩ := ih (i + 1) (n + 10 + m) k (by omega) (by omega) (by omega)
      refine ⟨r, h4, fun h => ?_⟩
      have := h5 h
      have hm := e3 (by omega)
      simp only [List.map_cons, tot38]
      show n + (3 + l[i].f1.size + _) < 100000 ∧ _
      omega
    · rw [if_neg c]
      obtain ⟨r, e1, e2⟩ := fin n
      exact ⟨r, e1, fun h => by have := e2 h; omega⟩
theorem long_any (A0 : Option Addr) (c0 : Nat) (l : List S48) (w : World) (h0 : Kd.C k48 w A0 l.length l) (hc0 : l.length ≤ c0) (hl : l.length < 1000000000000000) :
    ∃ r : Bool, (r = false → tot38 (l.map to38) < 100000 ∧ l.length ≤ 300) ∧ Calls Try.prog 12 #[.slice A0 l.length c0] w fun e w' => e = .returned (.bool r) ∧ Below w.heap.size w w' := by
  obtain ⟨r, h1, h2⟩ := long_l l hl l.length 0 0 (l.length + 1) (by omega) (by omega) (by omega)
  refine ⟨r, fun h => by have := h2 h; rw [List.drop_zero] at this; omega, ?_⟩
  exact PTlvCodes.turnoutlaw06_long.calls (l.length + 1) A0 c0 l r w h0 hc0 h1
end Go.Proofs.Ytndbchigekbjaaa.Base
