/- Several stores at once, none of whose blocks is another's. Plain lemmas. Conditions: as each says. -/
import Derived.Test.YtdobpieiobikpaaSame
set_option linter.unusedVariables false
set_option linter.unusedSimpArgs false
namespace Go.Proofs.Ytdobpieiobikpaa.Base
open Go Go.RowKit Go.Proofs.Ytdobpieiobikpaa.Mem Go.Proofs.YtdobpieiobikpaaW.PrintWords Go.Proofs.YtdobpieiobikpaaW.PrintLast
/-- Stores that were made since the world w, none of whose blocks is another's. -/
def Ms (w w1 : World) (L : List (Nat × St)) : Prop := Below w.heap.size w w1 ∧ ∃ O : Nat → Nat → Prop, (∀ i j, i ≠ j → ∀ k, O i k → ¬ O j k) ∧ (∀ i k, O i k → w.heap.size ≤ k ∧ k < w1.heap.size) ∧ ∀ i p, L[i]? = some p → Sto w1 p.1 (O i) p.2
section
variable {w w1 w2 : World} {L : List (Nat × St)}
theorem Ms.none (w : World) : Ms w w [] := ⟨Below.refl _ _, fun _ _ => False, fun _ _ _ _ h => h.elim, fun _ _ h => h.elim, fun i p h => by simp at h⟩
theorem Ms.below (h : Ms w w1 L) : Below w.heap.size w w1 := h.1
theorem Ms.go (h : Ms w w1 L) (hb : Below w1.heap.size w1 w2) : Ms w w2 L := by
  obtain ⟨h1, O, h2, h3, h4⟩ := h
  exact ⟨below_step h1 hb, O, h2, fun i k hk => ⟨(h3 i k hk).1, Nat.lt_of_lt_of_le (h3 i k hk).2 hb.size⟩, fun i p hp => (h4 i p hp).go hb⟩
theorem Ms.read (h : Ms w w1 L) (i : Nat) {a : Nat} {S : St} (hi : L[i]? = some (a, S)) : ∃ O, Sto w1 a O S := by
  obtain ⟨_, O, _, _, h4⟩ := h
  exact ⟨O i, h4 i _ hi⟩
theorem Ms.more (h : Ms w w1 L) {x : Nat} {S : St} (hs : Sto w2 x (New w1 w2) S) (hb : Below w1.heap.size w1 w2) : Ms w w2 (L ++ [(x, S)]) := by
  obtain ⟨h1, O, h2, h3, h4⟩ := h
  refine ⟨below_step h1 hb, fun i k => if i = L.length then New w1 w2 k else O i k ∧ i < L.length, fun i j hij k hk => ?_, fun i k hk => ?_, fun i p hp => ?_⟩
  · dsimp only at hk ⊢
    split at hk
    · next e =>
      rw [if_neg (fun e2 => hij (e.trans e2.symm))]
      intro hj
      have := (h3 j k hj.1).2
      have := hk.1
      omega
    · split
      · intro hj
        have := (h3 i k hk.1).2
        have := hj.1
        omega
      · intro hj
        exact h2 i j hij k hk.1 hj.1
  · dsimp only at hk
    split at hk
    · exact ⟨Nat.le_trans h1.size hk.1, hk.2⟩
    · exact ⟨(h3 i k hk.1).1, Nat.lt_of_lt_of_le (h3 i k hk.1).2 hb.size⟩
  · rcases Nat.lt_trichotomy i L.length with hl | hl | hl
    · rw [List.getElem?_append_left hl] at hp
      have e : (fun k => if i = L.length then New w1 w2 k else O i k ∧ i < L.length) = O i := by
        funext k
        rw [if_neg (by omega)]
        simp [hl]
      show Sto w2 p.1 (fun k => if i = L.length then New w1 w2 k else O i k ∧ i < L.length) p.2
      rw [e]
      exact (h4 i p hp).go hb
    · subst hl
      simp at hp
      subst hp
      simpa using hs
    · rw [List.getElem?_eq_none (by simp; omega)] at hp
      cases hp
/-- A store is turned; the others stand. -/
theorem Ms.act (h : Ms w w1 L) (i : Nat) {a : Nat} {S : St} (hi : L[i]? = some (a, S)) : ∃ O, Sto w1 a O S ∧ ∀ q e w2, Did w1 a O q e w2 → e = .returned (.int .i64 q.1) ∧ Ms w w2 (L.set i (a, q.2)) := by
  obtain ⟨h1, O, h2, h3, h4⟩ := h
  refine ⟨O i, h4 i _ hi, fun q e w2 ⟨d1, d2, d3⟩ => ⟨d1, ?_, fun j k => if j = i then Grow (O i) w1 w2 k else O j k, fun x j hij k hk => ?_, fun j k hk => ?_, fun j p hp => ?_⟩⟩
  · exact ⟨d3.os.trans h1.os, d3.tape.trans h1.tape, d3.output.trans h1.output, Nat.le_trans h1.size d3.size, fun k hk => (d3.block k (Nat.lt_of_lt_of_le hk h1.size) (fun e => by have := (h3 i k e).1; omega)).trans (h1.block k hk)⟩
  · dsimp only at hk ⊢
    split at hk
    · next e =>
      rw [if_neg (fun e2 => hij (e.trans e2.symm))]
      intro hj
      rcases hk with hk | hk
      · exact h2 i j (fun e2 => hij (e.trans e2)) k hk hj
      · have := (h3 j k hj).2; omega
    · split
      · rintro (hj | hj)
        · next e => exact h2 x i (by assumption) k hk hj
        · have := (h3 x k hk).2; omega
      · exact h2 x j hij k hk
  · dsimp only at hk
    split at hk
    · rcases hk with hk | hk
      · exact ⟨(h3 i k hk).1, Nat.lt_of_lt_of_le (h3 i k hk).2 d3.size⟩
      · exact ⟨Nat.le_trans h1.size hk.1, hk.2⟩
    · exact ⟨(h3 j k hk).1, Nat.lt_of_lt_of_le (h3 j k hk).2 d3.size⟩
  · have hl : i < L.length := (List.getElem?_eq_some_iff.1 hi).1
    by_cases hj : j = i
    · subst hj
      rw [List.getElem?_set_self hl] at hp
      injection hp with hp
      subst hp
      simpa using d2
    · rw [List.getElem?_set_ne (fun e => hj e.symm)] at hp
      have e : (fun k => if j = i then Grow (O i) w1 w2 k else O j k) = O j := by
        funext k
        rw [if_neg hj]
      show Sto w2 p.1 (fun k => if j = i then Grow (O i) w1 w2 k else O j k) p.2
      rw [e]
      exact (h4 j p hp).fp d3 (fun k hk => h2 j i hj k hk)
end
end Go.Proofs.Ytdobpieiobikpaa.Base
