/- The blocks of a group, rising, each once: plain lemmas. Conditions: as each lemma says. -/
import Derived.Test.YtpmckbpplkkgaaaGBlocks
set_option linter.unusedVariables false
set_option linter.unusedSimpArgs false
namespace Go.Proofs.Ytpmckbpplkkgaaa.Base
open Go Go.RowKit Go.Lib
theorem compact_inv (d : Array Int) (hs : ∀ i j, i ≤ j → j < d.size → d[i]! ≤ d[j]!) : ∀ m, m ≤ d.size → (compactUpTo d m).Pairwise (· < ·) ∧ ∀ x, x ∈ compactUpTo d m ↔ ∃ j, j < m ∧ d[j]! = x := by
  intro m
  induction m with
  | zero => intro _; exact ⟨by simp [compactUpTo], by simp [compactUpTo]⟩
  | succ m ih =>
    intro hm
    obtain ⟨h1, h2⟩ := ih (by omega)
    rw [compactUpTo_succ]
    cases hk : keeps d m
    · have h0 : ¬ (m = 0 ∨ d[m]! ≠ d[m - 1]!) := of_decide_eq_false hk
      have h3 : m ≠ 0 := fun e => h0 (.inl e)
      have h4 : d[m]! = d[m - 1]! := by
        by_cases e : d[m]! = d[m - 1]!
        · exact e
        · exact absurd (.inr e) h0
      rw [if_neg (by decide), List.append_nil]
      refine ⟨h1, fun x => ?_⟩
      rw [h2]
      constructor
      · rintro ⟨j, hj, e⟩
        exact ⟨j, by omega, e⟩
      · rintro ⟨j, hj, e⟩
        rcases Nat.lt_or_ge j m with h | h
        · exact ⟨j, h, e⟩
        · obtain rfl : j = m := by omega
          exact ⟨j - 1, by omega, by rw [← h4]; exact e⟩
    · have h0 : m = 0 ∨ d[m]! ≠ d[m - 1]! := of_decide_eq_true hk
      rw [if_pos rfl]
      refine ⟨?_, fun x => ?_⟩
      · rw [List.pairwise_append]
        refine ⟨h1, by simp, fun a ha b hb => ?_⟩
        simp at hb
        subst hb
        obtain ⟨j, hj, rfl⟩ := (h2 a).1 ha
        have h3 := hs j (m - 1) (by omega) (by omega)
        have h4 := hs (m - 1) m (by omega) (by omega)
        rcases h0 with h0 | h0
        · omega
        · omega
      · rw [List.mem_append, h2]
        constructor
        · rintro (⟨j, hj, e⟩ | h)
          · exact ⟨j, by omega, e⟩
          · simp at h
            exact ⟨m, by omega, h.symm⟩
        · rintro ⟨j, hj, e⟩
          rcases Nat.lt_or_ge j m with h | h
          · exact .inl ⟨j, h, e⟩
          · obtain rfl : j = m := by omega
            exact .inr (by simp [e])
theorem srt_sorted (xs : List Int) : (srt xs).Pairwise (· ≤ ·) := by
  have := List.pairwise_mergeSort (le := fun x y : Int => decide (x ≤ y)) (by intro a b c; simp; omega) (by intro a b; simp; omega) xs
  unfold srt
  exact this.imp (fun h => by simpa using h)
theorem srt_get (xs : List Int) (i j : Nat) (hij : i ≤ j) (hj : j < (srt xs).toArray.size) : (srt xs).toArray[i]! ≤ (srt xs).toArray[j]! := by
  have hj' : j < (srt xs).length := by simpa using hj
  have hi' : i < (srt xs).length := by omega
  rcases Nat.lt_or_ge i j with h | h
  · have := List.pairwise_iff_getElem.1 (srt_sorted xs) i j hi' hj' h
    simpa [hi', hj'] using this
  · obtain rfl : i = j := by omega
    exact Int.le_refl _
/-- They rise, each once; they are just the numbers that came. -/
theorem blkOf_law (xs : List Int) : (blkOf xs).Pairwise (· < ·) ∧ ∀ x, x ∈ blkOf xs ↔ x ∈ xs := by
  obtain ⟨h1, h2⟩ := compact_inv (srt xs).toArray (srt_get xs) _ (Nat.le_refl _)
  refine ⟨h1, fun x => ?_⟩
  have h3 := h2 x
  have h4 : x ∈ srt xs ↔ x ∈ xs := (List.mergeSort_perm xs _).mem_iff
  show x ∈ compactUpTo (srt xs).toArray (srt xs).toArray.size ↔ _
  rw [h3, ← h4, List.mem_iff_getElem]
  constructor
  · rintro ⟨j, hj, e⟩
    have hj' : j < (srt xs).length := by simpa using hj
    exact ⟨j, hj', by simpa [hj'] using e⟩
  · rintro ⟨j, hj, e⟩
    exact ⟨j, by simpa using hj, by simpa [hj] using e⟩
theorem rising_eq : ∀ {l m : List Int}, l.Pairwise (· < ·) → m.Pairwise (· < ·) → (∀ x, x ∈ l ↔ x ∈ m) → l = m
  | [], [], _, _, _ => rfl
  | [], b :: s, _, _, h => by have := (h b).2 (by simp); simp at this
  | a :: r, [], _, _, h => by have := (h a).1 (by simp); simp at this
  | a :: r, b :: s, h1, h2, h => by
    obtain ⟨a1, a2⟩ := List.pairwise_cons.1 h1
    obtain ⟨b1, b2⟩ := List.pairwise_cons.1 h2
    have hab : a = b := by
      rcases List.mem_cons.1 ((h a).1 (by simp)) with e | ha
      · exact e
      · rcases List.mem_cons.1 ((h b).2 (by simp)) with e | hb
        · exact e.symm
        · have := b1 a ha
          have := a1 b hb
          omega
    subst hab
    rw [rising_eq a2 b2 (fun p => ⟨fun hp => by
      rcases List.mem_cons.1 ((h p).1 (by simp [hp])) with e | hp'
      · have := a1 p hp; omega
      · exact hp', fun hp => by
      rcases List.mem_cons.1 ((h p).2 (by simp [hp])) with e | hp'
      · have := b1 p hp; omega
      · exact hp'⟩)]
/-- The same numbers in another row. -/
theorem blkOf_same (xs ys : List Int) (h : ∀ x, x ∈ xs ↔ x ∈ ys) : blkOf xs = blkOf ys :=
  rising_eq (blkOf_law xs).1 (blkOf_law ys).1 fun x => by rw [(blkOf_law xs).2, (blkOf_law ys).2, h]
end Go.Proofs.Ytpmckbpplkkgaaa.Base
