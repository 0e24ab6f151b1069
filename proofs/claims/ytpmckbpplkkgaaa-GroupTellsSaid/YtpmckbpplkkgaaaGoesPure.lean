/- Which buckets are gone: plain lemmas. Conditions: as each lemma says. -/
import Derived.Test.YtpmckbpplkkgaaaOne
import Derived.Test.YtpmckbpplkkgaaaAwake
set_option linter.unusedVariables false
set_option linter.unusedSimpArgs false
namespace Go.Proofs.Ytpmckbpplkkgaaa.Base
open Go Go.RowKit Go.Proofs.Ytpmckbpplkkgaaa.Fl
open Go.Proofs.Ytpmckbpplkkgaaa.PGroupTells (S34 z34 k34 k34_open k34_mk)
/-- Has a bucket a weight above 0, by its class? -/
def big (x : S34) : Bool := decide (2 < cls x.f0.toNat)
theorem cls_pos (n : Nat) (hn : n < 18446744073709551616) (h : may n = true) : decide (2 < cls n) = pos n := by
  have h1 := of_decide_eq_true h
  unfold pos
  apply decide_eq_decide.2
  rcases cls_good n hn (by omega) with ⟨g1, g2⟩ | ⟨g1, g2⟩ | ⟨g1, g2, g3⟩ | ⟨g1, g2, g3⟩
  all_goals
    show 2 < cls n ↔ n ≠ 0 ∧ n ≠ 9223372036854775808
    rw [g1]
    clear h h1
    omega
theorem all_may {id kind field : Int} {l : List S34} (h : gmay id kind field l = true) (h1 : (kind == 1) = false) : ∀ x ∈ l, may x.f0.toNat = true := by
  unfold gmay at h
  rw [h1, if_neg (by decide)] at h
  split at h
  · unfold mayIn at h
    simp only [Bool.and_eq_true, Bool.not_eq_true'] at h
    intro x hx
    have := List.any_eq_false.1 h.2.2.2.2 x hx
    have h2 : okB false x = true := by
      cases hq : okB false x
      · rw [hq] at this; exact absurd rfl this
      · rfl
    unfold okB at h2
    simp only [Bool.and_eq_true] at h2
    have h3 := h2.2
    unfold wOk at h3
    rwa [if_neg (by decide)] at h3
  · cases h
theorem gch_sel {id kind field : Int} {l : List S34} (h : Nat) (hb : inB l) (hl : l.length ≤ 2000) (hm : gmay id kind field l = true) (h1 : (kind == 1) = false) :
    (gch id kind field l h).isSome = l.any big ∧ (gch id kind field l h = none ∨ ∃ (i : Nat) (hi : i < l.length), gch id kind field l h = some [i] ∧ big l[i] = true) := by
  have ha := all_may hm h1
  have hbig : ∀ x ∈ l, big x = pos x.f0.toNat := fun x hx => cls_pos _ (by have := hb x hx; omega) (ha x hx)
  have hU : inU (l.map (·.f0)) := fun y hy => by obtain ⟨x, hx, rfl⟩ := List.mem_map.1 hy; exact hb x hx
  obtain ⟨q1, q2, q3⟩ := choose_one (l.map (·.f0)) h hU (by rw [List.length_map]; exact hl)
  have hall : (l.map (·.f0)).all (fun y => may y.toNat) = true := by
    rw [List.all_eq_true]
    intro y hy
    obtain ⟨x, hx, rfl⟩ := List.mem_map.1 hy
    exact ha x hx
  have hany : (l.map (·.f0)).any (fun y => pos y.toNat) = l.any big := by
    rw [List.any_map]
    apply Bool.eq_iff_iff.2
    rw [List.any_eq_true, List.any_eq_true]
    constructor
    · rintro ⟨x, hx, h⟩
      exact ⟨x, hx, by rw [hbig x hx]; exact h⟩
    · rintro ⟨x, hx, h⟩
      exact ⟨x, hx, by rw [hbig x hx] at h; exact h⟩
  rw [hall, hany, Bool.true_and] at q1
  unfold gch
  rw [hm, if_pos rfl, h1, if_neg (by decide)]
  cases hc : (choose (l.map (·.f0)) h).2
  · rw [hc] at q1
    rw [if_neg (by decide)]
    exact ⟨q1, .inl rfl⟩
  · rw [hc] at q1
    rw [if_pos rfl]
    obtain ⟨b, hb1, hb2, _⟩ := q3 hc
    rw [List.getElem?_map] at hb1
    obtain ⟨x, hx, rfl⟩ := Option.map_eq_some_iff.1 hb1
    obtain ⟨hi, he⟩ := List.getElem?_eq_some_iff.1 hx
    refine ⟨q1, .inr ⟨_, hi, rfl, ?_⟩⟩
    rw [hbig _ (List.getElem_mem hi), he]
    exact hb2
end Go.Proofs.Ytpmckbpplkkgaaa.Base
