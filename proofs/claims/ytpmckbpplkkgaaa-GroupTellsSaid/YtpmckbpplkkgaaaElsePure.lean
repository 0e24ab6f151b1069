/- Groups that may not be: plain lemmas. Conditions: as each lemma says. -/
import Derived.Test.YtpmckbpplkkgaaaGoesPure
set_option linter.unusedVariables false
set_option linter.unusedSimpArgs false
namespace Go.Proofs.Ytpmckbpplkkgaaa.Base
open Go Go.RowKit Go.Proofs.Ytpmckbpplkkgaaa.Fl
open Go.Proofs.Ytpmckbpplkkgaaa.PGroupTells (S34 z34 k34 k34_open k34_mk)
/-- A group that may be: its kind, and what the kind asks. -/
theorem gmay_parts {id kind field : Int} {l : List S34} (h : gmay id kind field l = true) : ∃ b : Bool, kind = (if b then 1 else 2) ∧ fieldOk b field = true ∧ idB id = true ∧ 1 ≤ l.length ∧ l.length ≤ 16 ∧ ∀ x ∈ l, okB b x = true := by
  have core : ∀ b, mayIn b id field l = true → fieldOk b field = true ∧ idB id = true ∧ 1 ≤ l.length ∧ l.length ≤ 16 ∧ ∀ x ∈ l, okB b x = true := by
    intro b hb
    unfold mayIn at hb
    simp only [Bool.and_eq_true, Bool.not_eq_true', decide_eq_true_eq] at hb
    refine ⟨hb.1, hb.2.1, hb.2.2.1, hb.2.2.2.1, fun x hx => ?_⟩
    have := List.any_eq_false.1 hb.2.2.2.2 x hx
    cases hq : okB b x
    · rw [hq] at this; exact absurd rfl this
    · rfl
  unfold gmay at h
  split at h
  · next hk => exact ⟨true, eq_of_beq hk, core true h⟩
  · split at h
    · next hk => exact ⟨false, eq_of_beq hk, core false h⟩
    · cases h
theorem gmay_mk {id field : Int} {l : List S34} (b : Bool) (h1 : fieldOk b field = true) (h2 : idB id = true) (h3 : 1 ≤ l.length) (h4 : l.length ≤ 16) (h5 : ∀ x ∈ l, okB b x = true) : gmay id (if b then 1 else 2) field l = true := by
  have hany : l.any (fun x => !(okB b x)) = false := List.any_eq_false.2 fun x hx => by rw [h5 x hx]; decide
  have : mayIn b id field l = true := by
    unfold mayIn
    rw [h1, h2, decide_eq_true h3, decide_eq_true h4, hany]
    rfl
  cases b
  · exact this
  · exact this
theorem gmay_kind {id kind field : Int} {l : List S34} (h : gmay id kind field l = true) : gmay id (3 - kind) field l = false := by
  obtain ⟨b, rfl, h1, _⟩ := gmay_parts h
  have : mayIn (!b) id field l = false := by
    unfold mayIn
    have : fieldOk (!b) field = false := by
      unfold fieldOk at h1 ⊢
      cases b
      · have h2 : idB field = true := h1
        show (field == 0) = false
        unfold idB at h2
        simp only [Bool.and_eq_true, decide_eq_true_eq] at h2
        exact beq_eq_false_iff_ne.2 (by omega)
      · have h2 : (field == 0) = true := h1
        rw [eq_of_beq h2]
        decide
    rw [this]
    rfl
  cases b
  · exact this
  · exact this
theorem gmay_long {id kind field : Int} {l : List S34} (h : 16 < l.length) : gmay id kind field l = false := by
  cases hq : gmay id kind field l
  · rfl
  · obtain ⟨_, _, _, _, _, h4, _⟩ := gmay_parts hq
    omega
theorem gmay_nil (id kind field : Int) : gmay id kind field [] = false := by
  cases hq : gmay id kind field []
  · rfl
  · obtain ⟨_, _, _, _, h3, _⟩ := gmay_parts hq
    exact absurd h3 (by decide)
theorem gmay_block0 {id kind field : Int} {l : List S34} (k : Nat) (hk : k < l.length) (x : Int) : gmay id kind field (l.set k ⟨x, 0⟩) = false := by
  cases hq : gmay id kind field (l.set k ⟨x, 0⟩)
  · rfl
  · obtain ⟨b, _, _, _, _, _, h5⟩ := gmay_parts hq
    have := h5 ⟨x, 0⟩ (List.mem_iff_getElem.2 ⟨k, by rw [List.length_set]; exact hk, by rw [List.getElem_set_self]⟩)
    unfold okB at this
    have h0 : (idB 0 && wOk b x) = true := this
    rw [show idB 0 = false from by decide] at h0
    cases h0
theorem ok_seven {b : Bool} {x : S34} (h : okB b x = true) : okB b ⟨x.f0, 7⟩ = true := by
  unfold okB at h ⊢
  simp only [Bool.and_eq_true] at h
  show (idB 7 && wOk b x.f0) = true
  rw [h.2]
  decide
theorem ok_new (b : Bool) : okB b ⟨0, 7⟩ = true := by cases b <;> decide +kernel
theorem gmay_block7 {id kind field : Int} {l : List S34} (h : gmay id kind field l = true) (k : Nat) (hk : k < l.length) (m n : Nat) (hn : n = 16 ∨ n = l.length) (hm : n ≤ l.length + m) : gmay id kind field ((l.set k ⟨l[k].f0, 7⟩ ++ List.replicate m (⟨0, 7⟩ : S34)).take n) = true := by
  obtain ⟨b, rfl, h1, h2, h3, h4, h5⟩ := gmay_parts h
  have hlen : ((l.set k ⟨l[k].f0, 7⟩ ++ List.replicate m (⟨0, 7⟩ : S34)).take n).length = n := by
    rw [List.length_take, List.length_append, List.length_set, List.length_replicate]
    omega
  refine gmay_mk b h1 h2 (by rw [hlen]; omega) (by rw [hlen]; omega) fun x hx => ?_
  rcases List.mem_append.1 (List.mem_of_mem_take hx) with hx | hx
  · rcases List.mem_or_eq_of_mem_set hx with hx | rfl
    · exact h5 x hx
    · exact ok_seven (h5 _ (List.getElem_mem hk))
  · rw [(List.mem_replicate.1 hx).2]
    exact ok_new b
end Go.Proofs.Ytpmckbpplkkgaaa.Base
