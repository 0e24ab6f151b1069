/- Stores of both kinds at once, and blocks of one's own, none of which is another's. Plain lemmas. Conditions: as each says. -/
import Derived.Test.YtdobpieiobikpaaRefCopy
import Derived.Test.YtdobpieiobikpaaMany
set_option linter.unusedVariables false
set_option linter.unusedSimpArgs false
namespace Go.Proofs.Ytdobpieiobikpaa.Base
open Go Go.RowKit Go.Proofs.Ytdobpieiobikpaa.Mem Go.Proofs.YtdobpieiobikpaaW.PrintWords Go.Proofs.YtdobpieiobikpaaW.PrintLast
/-- A store of the program (false), or of the document (true). -/
def Ob (w : World) (r : Bool) (a : Nat) (O : Nat → Prop) (S : St) : Prop := match r with
  | false => Sto w a O S
  | true => Rto w a O S
theorem Ob.fp {w w1 : World} {r : Bool} {a : Nat} {O T : Nat → Prop} {S : St} (h : Ob w r a O S) (hf : Fp T w w1) (hd : ∀ k, O k → ¬ T k) : Ob w1 r a O S := by
  cases r
  · exact Sto.fp h hf hd
  · exact Rto.fp h hf hd
theorem Ob.go {w w1 : World} {r : Bool} {a : Nat} {O : Nat → Prop} {S : St} (h : Ob w r a O S) (hb : Below w.heap.size w w1) : Ob w1 r a O S := h.fp (Fp.of_below hb (fun _ => False)) (fun _ _ e => e)
def Mx (w w1 : World) (L : List (Bool × Nat × St)) (T : Nat → Prop) : Prop := Below w.heap.size w w1 ∧ (∀ k, T k → w.heap.size ≤ k ∧ k < w1.heap.size) ∧ ∃ O : Nat → Nat → Prop, (∀ i j, i ≠ j → ∀ k, O i k → ¬ O j k) ∧ (∀ i k, O i k → w.heap.size ≤ k ∧ k < w1.heap.size) ∧ (∀ i k, O i k → ¬ T k) ∧ ∀ i p, L[i]? = some p → Ob w1 p.1 p.2.1 (O i) p.2.2
section
variable {w w1 w2 : World} {L : List (Bool × Nat × St)} {T : Nat → Prop}
theorem Mx.none (w : World) : Mx w w [] (fun _ => False) := ⟨Below.refl _ _, fun _ e => e.elim, fun _ _ => False, fun _ _ _ _ h => h.elim, fun _ _ h => h.elim, fun _ _ h => h.elim, fun i p h => by simp at h⟩
theorem Mx.below (h : Mx w w1 L T) : Below w.heap.size w w1 := h.1
theorem Mx.go (h : Mx w w1 L T) (hb : Below w1.heap.size w1 w2) : Mx w w2 L T := by
  obtain ⟨h1, hT, O, h2, h3, h5, h4⟩ := h
  exact ⟨below_step h1 hb, fun k hk => ⟨(hT k hk).1, Nat.lt_of_lt_of_le (hT k hk).2 hb.size⟩, O, h2, fun i k hk => ⟨(h3 i k hk).1, Nat.lt_of_lt_of_le (h3 i k hk).2 hb.size⟩, h5, fun i p hp => (h4 i p hp).go hb⟩
theorem Mx.read (h : Mx w w1 L T) (i : Nat) {r : Bool} {a : Nat} {S : St} (hi : L[i]? = some (r, a, S)) : ∃ O, Ob w1 r a O S := by
  obtain ⟨_, _, O, _, _, _, h4⟩ := h
  exact ⟨O i, h4 i _ hi⟩
/-- Fewer blocks of one's own are told. -/
theorem Mx.forget {T' : Nat → Prop} (h : Mx w w1 L T) (hT' : ∀ k, T' k → T k) : Mx w w1 L T' := by
  obtain ⟨h1, hT, O, h2, h3, h5, h4⟩ := h
  exact ⟨h1, fun k hk => hT k (hT' k hk), O, h2, h3, fun i k hk e => h5 i k hk (hT' k e), h4⟩
/-- A block more of one's own. -/
theorem Mx.alloc (h : Mx w w1 L T) (o : Obj) : Mx w (w1.alloc o) L (fun k => T k ∨ k = w1.heap.size) := by
  have hb := (Below.refl w1.heap.size w1).alloc (Nat.le_refl _) o
  have hs : (w1.alloc o).heap.size = w1.heap.size + 1 := by simp
  have h0 := h.go hb
  obtain ⟨h1, hT, O, h2, h3, h5, h4⟩ := h
  obtain ⟨g1, gT, -⟩ := h0
  refine ⟨g1, fun k hk => ?_, O, h2, fun i k hk => ⟨(h3 i k hk).1, by rw [hs]; have := (h3 i k hk).2; omega⟩, fun i k hk e => ?_, fun i p hp => (h4 i p hp).go hb⟩
  · rcases hk with hk | hk
    · exact gT k hk
    · subst hk; exact ⟨h1.size, by rw [hs]; omega⟩
  · rcases e with e | e
    · exact h5 i k hk e
    · have := (h3 i k hk).2; omega
/-- A write to blocks of one's own. -/
theorem Mx.write (h : Mx w w1 L T) (hf : Fp T w1 w2) : Mx w w2 L T := by
  obtain ⟨h1, hT, O, h2, h3, h5, h4⟩ := h
  exact ⟨⟨hf.os.trans h1.os, hf.tape.trans h1.tape, hf.output.trans h1.output, Nat.le_trans h1.size hf.size, fun k hk => (hf.block k (Nat.lt_of_lt_of_le hk h1.size) (fun e => by have := (hT k e).1; omega)).trans (h1.block k hk)⟩,
    fun k hk => ⟨(hT k hk).1, Nat.lt_of_lt_of_le (hT k hk).2 hf.size⟩, O, h2, fun i k hk => ⟨(h3 i k hk).1, Nat.lt_of_lt_of_le (h3 i k hk).2 hf.size⟩, h5, fun i p hp => (h4 i p hp).fp hf (h5 i)⟩
/-- A store more, which was made now. -/
theorem Mx.more (h : Mx w w1 L T) {r : Bool} {x : Nat} {S : St} (hs : Ob w2 r x (New w1 w2) S) (hb : Below w1.heap.size w1 w2) : Mx w w2 (L ++ [(r, x, S)]) T := by
  have h0 := h.go hb
  obtain ⟨h1, hT, O, h2, h3, h5, h4⟩ := h
  obtain ⟨g1, gT, -⟩ := h0
  refine ⟨g1, gT, fun i k => if i = L.length then New w1 w2 k else O i k ∧ i < L.length, fun i j hij k hk => ?_, fun i k hk => ?_, fun i k hk e => ?_, fun i p hp => ?_⟩
  · dsimp only at hk ⊢
    split at hk
    · next e =>
      rw [if_neg (fun e2 => hij (e.trans e2.symm))]
      intro hj
      have := (h3 j k hj.1).2
      have := hk.1
      omega
    · split
      · intro hj
        have := (h3 i k hk.1).2
        have := hj.1
        omega
      · intro hj
        exact h2 i j hij k hk.1 hj.1
  · dsimp only at hk
    split at hk
    · exact ⟨Nat.le_trans h1.size hk.1, hk.2⟩
    · exact ⟨(h3 i k hk.1).1, Nat.lt_of_lt_of_le (h3 i k hk.1).2 hb.size⟩
  · dsimp only at hk
    split at hk
    · have := (hT k e).2
      have := hk.1
      omega
    · exact h5 i k hk.1 e
  · rcases Nat.lt_trichotomy i L.length with hl | hl | hl
    · rw [List.getElem?_append_left hl] at hp
      have e : (fun k => if i = L.length then New w1 w2 k else O i k ∧ i < L.length) = O i := by
        funext k
        rw [if_neg (by omega)]
        simp [hl]
      show Ob w2 p.1 p.2.1 (fun k => if i = L.length then New w1 w2 k else O i k ∧ i < L.length) p.2.2
      rw [e]
      exact (h4 i p hp).go hb
    · subst hl
      simp at hp
      subst hp
      simpa using hs
    · rw [List.getElem?_eq_none (by simp; omega)] at hp
      cases hp
/-- A store is turned; the others stand, and so do the blocks of one's own. -/
theorem Mx.act (h : Mx w w1 L T) (i : Nat) {r : Bool} {a : Nat} {S : St} (hi : L[i]? = some (r, a, S)) : ∃ O, Ob w1 r a O S ∧ ∀ (q : Int × St) (e : Ending) w2, (e = .returned (.int .i64 q.1) ∧ Ob w2 r a (Grow O w1 w2) q.2 ∧ Fp O w1 w2) → e = .returned (.int .i64 q.1) ∧ Mx w w2 (L.set i (r, a, q.2)) T ∧ ∀ g t cs, T g → Blk w1 g t cs → Blk w2 g t cs := by
  obtain ⟨h1, hT, O, h2, h3, h5, h4⟩ := h
  refine ⟨O i, h4 i _ hi, fun q e w2 ⟨d1, d2, d3⟩ => ⟨d1, ⟨?_, fun k hk => ⟨(hT k hk).1, Nat.lt_of_lt_of_le (hT k hk).2 d3.size⟩, fun j k => if j = i then Grow (O i) w1 w2 k else O j k, fun x j hij k hk => ?_, fun j k hk => ?_, fun j k hk => ?_, fun j p hp => ?_⟩, fun g t cs hg hb => hb.fp d3 (fun e => h5 i g e hg)⟩⟩
  · exact ⟨d3.os.trans h1.os, d3.tape.trans h1.tape, d3.output.trans h1.output, Nat.le_trans h1.size d3.size, fun k hk => (d3.block k (Nat.lt_of_lt_of_le hk h1.size) (fun e => by have := (h3 i k e).1; omega)).trans (h1.block k hk)⟩
  · dsimp only at hk ⊢
    split at hk
    · next e =>
      rw [if_neg (fun e2 => hij (e.trans e2.symm))]
      intro hj
      rcases hk with hk | hk
      · exact h2 i j (fun e2 => hij (e.trans e2)) k hk hj
      · have := (h3 j k hj).2; omega
    · split
      · rintro (hj | hj)
        · next e => exact h2 x i (by assumption) k hk hj
        · have := (h3 x k hk).2; omega
      · exact h2 x j hij k hk
  · dsimp only at hk
    split at hk
    · rcases hk with hk | hk
      · exact ⟨(h3 i k hk).1, Nat.lt_of_lt_of_le (h3 i k hk).2 d3.size⟩
      · exact ⟨Nat.le_trans h1.size hk.1, hk.2⟩
    · exact ⟨(h3 j k hk).1, Nat.lt_of_lt_of_le (h3 j k hk).2 d3.size⟩
  · dsimp only at hk
    intro ht
    split at hk
    · rcases hk with hk | hk
      · exact h5 i k hk ht
      · have := (hT k ht).2; omega
    · exact h5 j k hk ht
  · have hl : i < L.length := (List.getElem?_eq_some_iff.1 hi).1
    by_cases hj : j = i
    · subst hj
      rw [List.getElem?_set_self hl] at hp
      injection hp with hp
      subst hp
      simpa using d2
    · rw [List.getElem?_set_ne (fun e => hj e.symm)] at hp
      have e : (fun k => if j = i then Grow (O i) w1 w2 k else O j k) = O j := by
        funext k
        rw [if_neg hj]
      show Ob w2 p.1 p.2.1 (fun k => if j = i then Grow (O i) w1 w2 k else O j k) p.2.2
      rw [e]
      exact (h4 j p hp).fp d3 (fun k hk => h2 j i hj k hk)
/-- Two of them alone. -/
theorem Mx.two (h : Mx w w1 L T) (i j : Nat) (hij : i ≠ j) {p q : Bool × Nat × St} (hi : L[i]? = some p) (hj : L[j]? = some q) : Mx w w1 [p, q] T := by
  obtain ⟨h1, hT, O, h2, h3, h5, h4⟩ := h
  refine ⟨h1, hT, fun n k => (n = 0 ∧ O i k) ∨ (n = 1 ∧ O j k), ?_, ?_, ?_, ?_⟩
  · rintro x y hxy k (⟨rfl, hk⟩ | ⟨rfl, hk⟩) (⟨rfl, hk'⟩ | ⟨rfl, hk'⟩)
    · exact hxy rfl
    · exact h2 i j hij k hk hk'
    · exact h2 i j hij k hk' hk
    · exact hxy rfl
  · rintro x k (⟨_, hk⟩ | ⟨_, hk⟩)
    · exact h3 i k hk
    · exact h3 j k hk
  · rintro x k (⟨_, hk⟩ | ⟨_, hk⟩)
    · exact h5 i k hk
    · exact h5 j k hk
  · intro n s hn
    match n, hn with
    | 0, hn =>
      simp at hn
      subst hn
      have e : (fun k => ((0 : Nat) = 0 ∧ O i k) ∨ ((0 : Nat) = 1 ∧ O j k)) = O i := by funext k; simp
      show Ob w1 p.1 p.2.1 (fun k => ((0 : Nat) = 0 ∧ O i k) ∨ ((0 : Nat) = 1 ∧ O j k)) p.2.2
      rw [e]
      exact h4 i _ hi
    | 1, hn =>
      simp at hn
      subst hn
      have e : (fun k => ((1 : Nat) = 0 ∧ O i k) ∨ ((1 : Nat) = 1 ∧ O j k)) = O j := by funext k; simp
      show Ob w1 q.1 q.2.1 (fun k => ((1 : Nat) = 0 ∧ O i k) ∨ ((1 : Nat) = 1 ∧ O j k)) q.2.2
      rw [e]
      exact h4 j _ hj
    | n + 2, hn => simp at hn
end
end Go.Proofs.Ytdobpieiobikpaa.Base
