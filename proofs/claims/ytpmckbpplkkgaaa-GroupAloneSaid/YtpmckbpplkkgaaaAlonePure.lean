/- Which bucket is gone hangs on the weights alone: plain lemmas. Conditions: as each lemma says. -/
import Derived.Test.YtpmckbpplkkgaaaElsePure
set_option linter.unusedVariables false
set_option linter.unusedSimpArgs false
namespace Go.Proofs.Ytpmckbpplkkgaaa.Base
open Go Go.RowKit Go.Proofs.Ytpmckbpplkkgaaa.Fl
open Go.Proofs.Ytpmckbpplkkgaaa.PGroupTells (S34 z34 k34 k34_open k34_mk)
theorem add_none (s : Nat) (hs : s < INF) : addW s 0 = s := add_zero s 0 hs (.inl (by decide)) (by decide)
theorem cho_more (x : Nat) : ∀ (l : List Int) (s i last : Nat), inU l → (∀ y ∈ l, may y.toNat = true) → s < INF → U s ≤ i * QQ → i + l.length < 4000000000000000 → ¬ x < s → cho x s i last (l ++ [0]) = cho x s i last l
  | [], s, i, last, _, _, hs, _, _, hx => by
    rw [List.nil_append, show cho x s i last [0] = if x < addW s 0 then i else (if pos 0 then i else last) from rfl, add_none s hs, if_neg hx, show pos 0 = false from by decide]
    rfl
  | b :: r, s, i, last, hb, hm, hs, hu, hi, hx => by
    obtain ⟨x0, x1⟩ := hb b (List.mem_cons_self ..)
    obtain ⟨g1, g2⟩ := may_good b.toNat (by omega) (hm b (List.mem_cons_self ..))
    simp only [List.length_cons] at hi
    obtain ⟨b1, b2⟩ := sum_bound s b.toNat i hs hu g1 g2 (by omega)
    rw [List.cons_append, cho, cho]
    by_cases c : x < addW s b.toNat
    · rw [if_pos c, if_pos c]
    · rw [if_neg c, if_neg c]
      exact cho_more x r _ _ _ (fun y hy => hb y (List.mem_cons_of_mem _ hy)) (fun y hy => hm y (List.mem_cons_of_mem _ hy)) b1 b2 (by omega) c
theorem may_none : may 0 = true := by decide +kernel
theorem tot_more : ∀ (l : List Int) (s i : Nat), inU l → s < INF → U s ≤ i * QQ → i + l.length < 4000000000000000 → tot s (l ++ [0]) = tot s l
  | [], s, i, _, hs, _, _ => by
    rw [List.nil_append, show tot s [0] = if may 0 then some (addW s 0) else none from rfl, add_none s hs, may_none, if_pos rfl]
    rfl
  | b :: r, s, i, hb, hs, hu, hi => by
    rw [List.cons_append, tot, tot]
    obtain ⟨x0, x1⟩ := hb b (List.mem_cons_self ..)
    cases hm : may b.toNat
    · rfl
    · rw [if_pos rfl, if_pos rfl]
      obtain ⟨g1, g2⟩ := may_good b.toNat (by omega) hm
      simp only [List.length_cons] at hi
      obtain ⟨b1, b2⟩ := sum_bound s b.toNat i hs hu g1 g2 (by omega)
      exact tot_more r _ _ (fun y hy => hb y (List.mem_cons_of_mem _ hy)) b1 b2 (by omega)
theorem choose_more (l : List Int) (h : Nat) (hb : inU l) (hl : l.length < 1000000) : choose (l ++ [0]) h = choose l h := by
  have h0 : U 0 ≤ 0 * QQ := by rw [show U 0 = 0 from by decide]; exact Nat.zero_le _
  unfold choose
  rw [tot_more l 0 0 hb (by decide) h0 (by omega)]
  cases ht : tot 0 l with
  | none => rfl
  | some t =>
    show (if t = 0 then (0, false) else (cho (xof h t) 0 0 0 (l ++ [0]), true)) = (if t = 0 then (0, false) else (cho (xof h t) 0 0 0 l, true))
    obtain ⟨_, _, hm⟩ := tot_bound l 0 0 hb (by decide) h0 (by omega) t ht
    rw [cho_more (xof h t) l 0 0 0 hb hm (by decide) h0 (by omega) (Nat.not_lt_zero _)]
theorem gch_alone {id kind field id' field' : Int} {l l' : List S34} (h : Nat) (hm : gmay id kind field l = true) (hm' : gmay id' kind field' l' = true) (hw : l'.map (·.f0) = l.map (·.f0)) : gch id' kind field' l' h = gch id kind field l h := by
  have hl : l'.length = l.length := by have := congrArg List.length hw; simpa using this
  unfold gch
  rw [hm, hm', hw, hl]
theorem inU_of (l : List S34) (hb : inB l) : inU (l.map (·.f0)) := fun y hy => by obtain ⟨x, hx, rfl⟩ := List.mem_map.1 hy; exact hb x hx
theorem inB_of {l l' : List S34} (hb : inB l) (hw : l'.map (·.f0) = l.map (·.f0)) : inB l' := fun x hx => by
  have : x.f0 ∈ l'.map (·.f0) := List.mem_map.2 ⟨x, hx, rfl⟩
  rw [hw] at this
  obtain ⟨y, hy, e⟩ := List.mem_map.1 this
  rw [← e]
  exact hb y hy
/-- The other group may be, too. -/
theorem gmay_alone {id field id' field' : Int} {b : Bool} {l l' : List S34} (hm : gmay id (if b then 1 else 2) field l = true) (hw : l'.map (·.f0) = l.map (·.f0)) (h1 : 1 ≤ id' ∧ id' ≤ 65534) (h2 : if b then field' = field else 1 ≤ field' ∧ field' ≤ 65534) (h3 : ∀ x ∈ l', 1 ≤ x.f1 ∧ x.f1 ≤ 65534) : gmay id' (if b then 1 else 2) field' l' = true := by
  obtain ⟨b', hk, k1, k2, k3, k4, k5⟩ := gmay_parts hm
  obtain rfl : b = b' := by cases b <;> cases b' <;> simp_all
  have hl : l'.length = l.length := by have := congrArg List.length hw; simpa using this
  have hid : ∀ n : Int, 1 ≤ n → n ≤ 65534 → idB n = true := fun n a c => by
    unfold idB
    rw [decide_eq_true a, decide_eq_true (by omega)]
    rfl
  refine gmay_mk b ?_ (hid _ h1.1 h1.2) (by omega) (by omega) fun x hx => ?_
  · cases b
    · exact hid _ h2.1 h2.2
    · rw [show field' = field from h2]; exact k1
  · have : x.f0 ∈ l'.map (·.f0) := List.mem_map.2 ⟨x, hx, rfl⟩
    rw [hw] at this
    obtain ⟨y, hy, e⟩ := List.mem_map.1 this
    have hy2 := k5 y hy
    unfold okB at hy2 ⊢
    simp only [Bool.and_eq_true] at hy2 ⊢
    rw [← e]
    exact ⟨hid _ (h3 x hx).1 (h3 x hx).2, hy2.2⟩
/-- A bucket without weight behind: the same is gone. -/
theorem gch_more {id field : Int} {l : List S34} (h : Nat) (hb : inB l) (hm : gmay id 2 field l = true) (hl : l.length < 16) : gch id 2 field (l ++ [⟨0, 8⟩]) h = gch id 2 field l h := by
  have hm2 : gmay id 2 field (l ++ [⟨0, 8⟩]) = true := by
    obtain ⟨b', hk, k1, k2, k3, k4, k5⟩ := gmay_parts hm
    obtain rfl : b' = false := by
      cases b'
      · rfl
      · exact absurd hk (by decide)
    refine gmay_mk false k1 k2 (by simp) (by simp; omega) fun x hx => ?_
    rcases List.mem_append.1 hx with hx | hx
    · exact k5 x hx
    · simp at hx
      subst hx
      decide +kernel
  unfold gch
  rw [hm, hm2, List.map_append]
  show (if true = true then (if (2 : Int) == 1 then _ else if (choose (l.map (·.f0) ++ [0]) h).2 then some [(choose (l.map (·.f0) ++ [0]) h).1] else none) else none) = _
  rw [choose_more _ h (inU_of l hb) (by rw [List.length_map]; omega)]
  rfl
end Go.Proofs.Ytpmckbpplkkgaaa.Base
