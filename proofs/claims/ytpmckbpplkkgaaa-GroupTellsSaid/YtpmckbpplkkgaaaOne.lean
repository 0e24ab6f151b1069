/- The law that what is chosen has a weight above nought. Conditions: none. -/
import Derived.Test.YtpmckbpplkkgaaaRises
import Derived.Test.YtpmckbpplkkgaaaMayLaw
set_option linter.unusedVariables false
set_option linter.unusedSimpArgs false
namespace Go.Proofs.Ytpmckbpplkkgaaa.Base
open Go Go.RowKit Go.Proofs.Ytpmckbpplkkgaaa.Mem Go.Proofs.YtpmckbpplkkgaaaW.PrintWords Go.Proofs.Ytpmckbpplkkgaaa.Fl
theorem cho_in (x : Nat) (L : List Int) : ∀ (l : List Int) (s i last : Nat), (∀ j, l[j]? = L[i + j]?) → inU l → (∀ y ∈ l, may y.toNat = true) → s < INF → U s ≤ i * QQ → i + l.length < 4000000000000000 → s ≤ x →
    (∃ b, L[cho x s i last l]? = some b ∧ pos b.toNat = true) ∨ (cho x s i last l = last ∧ ∀ y ∈ l, pos y.toNat = false)
  | [], s, i, last, _, _, _, _, _, _, _ => .inr ⟨rfl, fun y hy => by simp at hy⟩
  | b :: r, s, i, last, hL, hb, hm, hs, hu, hi, hsx => by
    obtain ⟨b0, b1⟩ := hb b (List.mem_cons_self ..)
    obtain ⟨g1, g2⟩ := may_good b.toNat (by omega) (hm b (List.mem_cons_self ..))
    simp only [List.length_cons] at hi
    obtain ⟨c1, c2⟩ := sum_bound s b.toNat i hs hu g1 g2 (by omega)
    have hLi : L[i]? = some b := by have := hL 0; simpa using this.symm
    rw [cho]
    by_cases c : x < addW s b.toNat
    · rw [if_pos c]
      cases hp : pos b.toNat
      · rw [add_zero s b.toNat hs g1 (pos_no _ hp)] at c
        omega
      · exact .inl ⟨b, hLi, hp⟩
    · rw [if_neg c]
      have ih := fun last' => cho_in x L r (addW s b.toNat) (i + 1) last' (fun j => by have := hL (j + 1); rw [List.getElem?_cons_succ] at this; rw [this]; congr 1; omega) (fun y hy => hb y (List.mem_cons_of_mem _ hy)) (fun y hy => hm y (List.mem_cons_of_mem _ hy)) c1 c2 (by omega) (by omega)
      cases hp : pos b.toNat
      · rcases ih last with h | ⟨h1, h2⟩
        · exact .inl h
        · refine .inr ⟨h1, fun y hy => ?_⟩
          rcases List.mem_cons.1 hy with rfl | hy
          · exact hp
          · exact h2 y hy
      · rcases ih i with h | ⟨h1, h2⟩
        · exact .inl h
        · exact .inl ⟨b, by show L[cho x (addW s b.toNat) (i + 1) i r]? = some b; rw [h1]; exact hLi, hp⟩
theorem tot_may : ∀ (l : List Int) (s : Nat), (tot s l).isSome = l.all (fun y => may y.toNat)
  | [], s => rfl
  | x :: r, s => by
    rw [tot, List.all_cons]
    cases hm : may x.toNat
    · rfl
    · exact tot_may r _
/-- The sum is above nought, just if a weight is. -/
theorem tot_zero : ∀ (l : List Int) (s i t : Nat), inU l → s < INF → U s ≤ i * QQ → i + l.length < 4000000000000000 → tot s l = some t → s ≤ t ∧ ((∃ y ∈ l, pos y.toNat = true) → 0 < t) ∧ ((∀ y ∈ l, pos y.toNat = false) → t = s)
  | [], s, i, t, _, _, _, _, ht => by
    injection ht with ht
    subst ht
    exact ⟨Nat.le_refl _, fun ⟨y, hy, _⟩ => by simp at hy, fun _ => rfl⟩
  | x :: r, s, i, t, hb, hs, hu, hi, ht => by
    obtain ⟨x0, x1⟩ := hb x (List.mem_cons_self ..)
    rw [tot] at ht
    cases hm : may x.toNat
    · rw [hm] at ht; cases ht
    · rw [hm, if_pos rfl] at ht
      obtain ⟨g1, g2⟩ := may_good x.toNat (by omega) hm
      simp only [List.length_cons] at hi
      obtain ⟨b1, b2⟩ := sum_bound s x.toNat i hs hu g1 g2 (by omega)
      obtain ⟨c1, c2, c3⟩ := tot_zero r (addW s x.toNat) (i + 1) t (fun y hy => hb y (List.mem_cons_of_mem _ hy)) b1 b2 (by omega) ht
      have hge := add_ge s x.toNat hs g1
      refine ⟨by omega, fun ⟨y, hy, hp⟩ => ?_, fun h => ?_⟩
      · rcases List.mem_cons.1 hy with rfl | hy
        · have hne := of_decide_eq_true hp
          have hlt : y.toNat < INF := by
            rcases g1 with g1 | g1
            · exact g1
            · exact absurd g1 hne.2
          have := add_ge2 s y.toNat hs hlt
          omega
        · exact c2 ⟨y, hy, hp⟩
      · rw [c3 (fun y hy => h y (List.mem_cons_of_mem _ hy)), add_zero s x.toNat hs g1 (pos_no _ (h x (List.mem_cons_self ..)))]
theorem choose_one (l : List Int) (h : Nat) (hb : inU l) (hl : l.length ≤ 2000) :
    (choose l h).2 = (l.all (fun y => may y.toNat) && l.any (fun y => pos y.toNat)) ∧ ((choose l h).2 = false → (choose l h).1 = 0) ∧ ((choose l h).2 = true → ∃ b, l[(choose l h).1]? = some b ∧ pos b.toNat = true ∧ may b.toNat = true) := by
  have hu0 : U 0 ≤ 0 * QQ := by rw [show U 0 = 0 from by decide]; exact Nat.zero_le _
  have hz := fun t ht => tot_zero l 0 0 t hb (by decide) hu0 (by omega) ht
  have htb := fun t ht => tot_bound l 0 0 hb (by decide) hu0 (by omega) t ht
  have hm := tot_may l 0
  unfold choose
  cases ht : tot 0 l with
  | none =>
    rw [ht] at hm
    exact ⟨by rw [← hm]; rfl, fun _ => rfl, fun h => by cases h⟩
  | some all =>
    rw [ht] at hm
    obtain ⟨z1, z2, z3⟩ := hz all ht
    obtain ⟨_, _, hmay⟩ := htb all ht
    simp only
    by_cases hp : ∃ y ∈ l, pos y.toNat = true
    · have hne := z2 hp
      have hany : l.any (fun y => pos y.toNat) = true := List.any_eq_true.2 hp
      rw [if_neg (by omega), ← hm, hany]
      refine ⟨rfl, (fun h => by cases h), fun _ => ?_⟩
      rcases cho_in (xof h all) l l 0 0 0 (fun j => by rw [Nat.zero_add]) hb hmay (by decide) hu0 (by omega) (Nat.zero_le _) with ⟨b, h1, h2⟩ | ⟨_, h2⟩
      · exact ⟨b, h1, h2, hmay b (List.mem_of_getElem? h1)⟩
      · obtain ⟨y, hy, hpy⟩ := hp
        rw [h2 y hy] at hpy
        cases hpy
    · have hno : ∀ y ∈ l, pos y.toNat = false := fun y hy => by
        cases h : pos y.toNat
        · rfl
        · exact absurd ⟨y, hy, h⟩ hp
      have hany : l.any (fun y => pos y.toNat) = false := List.any_eq_false.2 (fun y hy => by rw [hno y hy]; simp)
      rw [if_pos (z3 hno), hany, Bool.and_false]
      exact ⟨rfl, fun _ => rfl, fun h => by cases h⟩
/-- How bits that may not be stand to 0 and to the greatest weight. -/
theorem not_may (n : Nat) (hn : n < 18446744073709551616) (h : may n = false) : (FloatKind.f64.format.order n 0 == some .gt || FloatKind.f64.format.order n 0 == some .eq) = false ∨
    ((FloatKind.f64.format.order n 0 == some .gt || FloatKind.f64.format.order n 0 == some .eq) = true ∧ (FloatKind.f64.format.order n 4697254411347427328 == some .lt || FloatKind.f64.format.order n 4697254411347427328 == some .eq) = false) := by
  obtain ⟨r5, r6, r7⟩ := cls_rest n hn
  have hno := of_decide_eq_false h
  rcases cls_cases n with c | c | c | c | c | c | c
  · exact absurd (.inl c) hno
  · exact absurd (.inr (.inl c)) hno
  · exact absurd (.inr (.inr (.inl c))) hno
  · have hg := cls_good n hn (.inr (.inr (.inr c)))
    have hi : n ≤ INF := Nat.le_trans (show n ≤ 9218868437227405311 by omega) (by decide)
    refine .inr ⟨?_, ?_⟩
    · rw [ge_pos n 0 hi (by decide)]; exact decide_eq_true (Nat.zero_le _)
    · rw [may_ord n hn (.inr (.inr (.inr c))), h]
  · rw [r5 c]; exact .inr (by decide +kernel)
  · obtain ⟨a, b, d⟩ := r6 c
    obtain ⟨o1, o2, o3, o4⟩ := ord_facts n hn d
    rw [o1, o3, decide_eq_false b, decide_eq_false (fun h => h.1 a)]
    exact .inl rfl
  · rw [ord_nan n 0 (.inl (r7 c))]; exact .inl rfl
theorem yes_may (n : Nat) (hn : n < 18446744073709551616) (h : may n = true) : (FloatKind.f64.format.order n 0 == some .gt || FloatKind.f64.format.order n 0 == some .eq) = true ∧ (FloatKind.f64.format.order n 4697254411347427328 == some .lt || FloatKind.f64.format.order n 4697254411347427328 == some .eq) = true := by
  have h1 := of_decide_eq_true h
  have hc : cls n = 1 ∨ cls n = 2 ∨ cls n = 3 ∨ cls n = 4 := by omega
  refine ⟨?_, by rw [may_ord n hn hc, h]⟩
  rcases (may_good n hn h).1 with hg | hg
  · rw [ge_pos n 0 (Nat.le_of_lt hg) (by decide)]; exact decide_eq_true (Nat.zero_le _)
  · rw [hg]; decide +kernel
theorem eq_pos (y : Nat) (hy : good y) : (FloatKind.f64.format.order y 0 == some .eq) = !(pos y) := by
  rcases hy with h | h
  · rw [eq_zero y (Nat.le_of_lt h)]
    unfold pos
    have hne : y ≠ SW := fun h3 => by rw [h3] at h; exact absurd h (by decide)
    by_cases c : y = 0
    · simp [c]
    · simp [c, hne]
  · subst h; decide +kernel
def PR (l : List Int) (w : World) (t3 t4 : Value) (wr : World) : Prop :=
  ∃ (i : Nat) (b : Bool), t3 = .bool b ∧ t4 = .int .i64 (i : Int) ∧ i ≤ l.length ∧ ((l.drop i).all (fun y => may y.toNat) = l.all (fun y => may y.toNat)) ∧ (l.any (fun y => pos y.toNat) = (b || (l.drop i).any (fun y => pos y.toNat))) ∧ wr = w
end Go.Proofs.Ytpmckbpplkkgaaa.Base
namespace Go.Proofs.Ytpmckbpplkkgaaa.One
open Go Go.RowKit Go.Proofs.YtpmckbpplkkgaaaW.PrintWords
end Go.Proofs.Ytpmckbpplkkgaaa.One
