/- How the arguments of a law are read: slices of elements of one cell, or of several. Plain lemmas over any program; no condition. -/
import Derived.ProofKit
import Derived.OpenShut
import Derived.SizedLaws
import Derived.Deep.Slices
import Derived.Deep.Strs
import Derived.Lib.SmallJoins
import Derived.Test.YtfpnedooipfpoaaWWords
namespace Go.Proofs.Ytfpnedooipfpoaa.Arg
open Go Go.RowKit Go.ChangeShapes Go.WideShapes Go.Proofs.YtfpnedooipfpoaaW.PrintWords
section
variable {H : Type} {enc : TypeId × Value → H} {P : Program} {w : World} {base : Nat} {spare : Nat → Bool} {held : Bool}

theorem weights_all {e : TypeId} : ∀ {l : List (DataW H)} {d : DataW H}, d ∈ l → ∀ m ∈ d.weights P e, m ∈ DataW.weightsAll P e l
  | [], d, h, _, _ => by simp at h
  | x :: r, d, h, m, hm => by
    simp only [DataW.weightsAll, List.mem_append]
    rcases List.mem_cons.1 h with rfl | h
    · exact .inl hm
    · exact .inr (weights_all h m hm)
theorem weights_at {ts : List TypeId} {ds : List (DataW H)} (h : (DataW.weightsEach P ts ds).all (· ≤ reachBytes) = true) {j : Nat} {t : TypeId} {d : DataW H} (ht : ts[j]? = some t) (hd : ds[j]? = some d) : ∀ m ∈ d.weights P t, m ≤ reachBytes := fun m hm => by
  have := List.all_eq_true.1 h _ (DataW.weights_mem_each ht hd m hm)
  simpa using this

/-- A slice's elements, decoded one by one. -/
theorem open_list {α : Type} [Inhabited α] {e t : TypeId} {sz : Nat} (K : α → List Value → Prop) (Bd : α → Prop)
    (hdec : ∀ n cs y, DataW.trod enc P w base spare held n e cs = some y → (∀ m ∈ y.1.weights P e, m ≤ reachBytes) → ∃ x, K x cs ∧ cs.length = sz ∧ Bd x)
    {A : Option Addr} {len cap : Nat} {d : DataW H} {ps : List MemPlace} (ht : P.underlying t = some (.slice e)) (hc : P.cellsOf e = sz)
    (h : DataW.Trod enc P w base spare held t (.slice A len cap) d ps) (hw : ∀ m ∈ d.weights P t, m ≤ reachBytes) :
    ∃ xs : List α, xs.length = len ∧ len ≤ cap ∧ len ≤ 9223372036854775807 ∧ len * P.bytesOf e ≤ 140737488351232 ∧ (∀ x ∈ xs, Bd x) ∧ ReadsRow K sz w A len xs := by
  obtain ⟨fuel, hf⟩ := h
  rcases Go.Deep.open_slice ht hf with ⟨hcs, hx⟩ | ⟨a, l, c, m, n, D, Pl, hcs, hb, hl, hm, hmm, hx, hel⟩
  · simp [Value.cells] at hcs
    obtain ⟨rfl, rfl, rfl⟩ := hcs
    exact ⟨[], rfl, by omega, by omega, by simp, by simp, rfl, by omega, fun h => absurd h (by omega)⟩
  · simp [Value.cells] at hcs
    obtain ⟨rfl, rfl, rfl⟩ := hcs
    simp only [Prod.mk.injEq] at hx
    obtain ⟨rfl, rfl⟩ := hx
    have hlm : len ≤ m := by rw [hmm]; split <;> omega
    simp only [DataW.weights, ht] at hw
    have hw1 := hw _ (List.mem_cons_self ..)
    simp only [List.length_map, List.length_range] at hw1
    have each : ∀ i, i < len → ∃ x : α, ∃ cs', w.cells? base (a.add (i * P.cellsOf e)) (P.cellsOf e) = some cs' ∧ K x cs' ∧ cs'.length = sz ∧ Bd x := fun i hi => by
      obtain ⟨cs', h1, h2⟩ := hel i (by omega)
      obtain ⟨x, k1, k2, k3⟩ := hdec n cs' _ h2 (fun q hq => hw q (List.mem_cons_of_mem _ (List.mem_append_left _ (weights_all (List.mem_map.2 ⟨i, List.mem_range.2 hi, rfl⟩) q hq))))
      exact ⟨x, cs', h1, k1, k2, k3⟩
    obtain ⟨f, hf⟩ := Go.Deep.choose_lt each
    have hmax : len ≤ 9223372036854775807 := by unfold maxLen at hm; omega
    refine ⟨(List.range len).map f, by simp, hl, hmax, ?_, ?_, by simp, hmax, fun _ => ⟨a, rfl, fun j p hp => ?_⟩⟩
    · have : len * P.bytesOf e ≤ (len + (m - len)) * P.bytesOf e := Nat.mul_le_mul_right _ (by omega)
      have hr : reachBytes = 140737488351232 := rfl
      omega
    · intro x hx
      obtain ⟨i, hi, rfl⟩ := List.mem_map.1 hx
      obtain ⟨_, _, _, _, h⟩ := hf i (List.mem_range.1 hi)
      exact h
    · have hj : j < len := by
        have := (List.getElem?_eq_some_iff.1 hp).1
        simpa using this
      obtain ⟨cs', h1, h2, h3, _⟩ := hf j hj
      rw [List.getElem?_map, List.getElem?_range hj] at hp
      simp only [Option.map_some, Option.some.injEq] at hp
      subst hp
      refine ⟨cs', h3, h2, fun i u hu => ?_⟩
      have hi : i < sz := by rw [← h3]; exact (List.getElem?_eq_some_iff.1 hu).1
      have := (World.cells?_some h1).2.2 i (by omega)
      rw [Go.Deep.add_add, hc, hu] at this
      exact this

/-- A slice of strings. -/
theorem open_strs {e t : TypeId} {A : Option Addr} {len cap : Nat} {d : DataW H} {ps : List MemPlace} (ht : P.underlying t = some (.slice e)) (he : P.underlying e = some .string) (hc : P.cellsOf e = 1) (hby : P.bytesOf e = 16)
    (h : DataW.Trod enc P w base spare held t (.slice A len cap) d ps) (hw : ∀ m ∈ d.weights P t, m ≤ reachBytes) :
    ∃ xs : List ByteArray, xs.length = len ∧ len ≤ cap ∧ len * 16 ≤ 140737488351232 ∧ (∀ x ∈ xs, x.size ≤ 140737488351232) ∧ Kd.string.C w A xs.length xs := by
  obtain ⟨xs, h1, h2, _, h4, h5, h6⟩ := open_list (α := ByteArray) (sz := 1) (fun x cs => cs = [.string x]) (fun x => x.size ≤ 140737488351232) (fun n cs y hy hq => by
    obtain ⟨s, rfl, rfl, _⟩ := DataW.trod_string he hy
    refine ⟨s, rfl, rfl, ?_⟩
    have := hq s.data.toList.length (by simp [DataW.weights])
    simpa [reachBytes] using this) ht hc h hw
  exact ⟨xs, h1, h2, by rwa [hby] at h4, h5, by rw [h1]; exact h6⟩
end
end Go.Proofs.Ytfpnedooipfpoaa.Arg
