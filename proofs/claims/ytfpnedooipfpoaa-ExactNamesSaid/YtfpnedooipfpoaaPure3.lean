/- Open addressing with a backward shift: what is put, told and taken out; how far a key is looked for. Plain lemmas over any function of keys; no condition. -/
import Derived.Test.YtfpnedooipfpoaaPure2
set_option linter.unusedVariables false
set_option linter.unusedSimpArgs false
namespace Go.Proofs.Ytfpnedooipfpoaa.Ex
section
variable {H : Key → Nat}
structure Good (H : Key → Nat) (T : Tb) : Prop where
  ok : Ok H T.L
  pow : ∃ e, T.L.length = 2 ^ e ∧ 3 ≤ e
  cnt : cnt T.L = T.n
  half : 2 * T.n ≤ T.L.length
theorem Good.pos {T : Tb} (h : Good H T) : 8 ≤ T.L.length := by
  obtain ⟨e, h1, h2⟩ := h.pow
  rw [h1]
  exact Nat.le_trans (by decide : 8 ≤ 2 ^ 3) (Nat.pow_le_pow_right (by decide : 0 < 2) h2)
theorem Good.free {T : Tb} (h : Good H T) : ∃ x, x < T.L.length ∧ gt T.L x = none := cnt_free (by have := h.cnt; have := h.half; have := h.pos; omega)
theorem good_new : Good H new8 := ⟨⟨fun i j e e' hi _ _ => (by unfold new8 at hi; rw [gt_rep] at hi; cases hi), fun i e hi => (by unfold new8 at hi; rw [gt_rep] at hi; cases hi)⟩, ⟨3, by unfold new8; simp, by decide⟩, cnt_rep 8, by decide⟩
theorem new_none (k : Key) (v : Int) : ¬ has new8.L k v := fun ⟨i, hi⟩ => by unfold new8 at hi; rw [gt_rep] at hi; cases hi
/-- What Put does. -/
theorem put_spec (hH : Lim H) {T : Tb} (h : Good H T) (k : Key) (v : Int) :
    (∃ v0 T', has T.L k v0 ∧ put H T k v = ((v0, true), T') ∧ Good H T' ∧ T'.n = T.n ∧ T'.L.length = T.L.length ∧ ∀ k2 v2, has T'.L k2 v2 ↔ (k2 = k ∧ v2 = v) ∨ (k2 ≠ k ∧ has T.L k2 v2)) ∨
    (∃ T', (∀ v0, ¬ has T.L k v0) ∧ put H T k v = ((0, false), T') ∧ Good H T' ∧ T'.n = T.n + 1 ∧ T'.L.length = (if T.L.length < 2 * (T.n + 1) then 2 * T.L.length else T.L.length) ∧ (∀ k2 v2, has T'.L k2 v2 ↔ (k2 = k ∧ v2 = v) ∨ (k2 ≠ k ∧ has T.L k2 v2)) ∧ (¬ T.L.length < 2 * (T.n + 1) → T' = ⟨T.L.set (find H T.L k) (some (k, v)), T.n + 1⟩)) := by
  have hp := h.pos
  have hf := h.free
  rcases has_dec hH h.ok hf k with ⟨v0, hv⟩ | ⟨hfree, hno⟩
  · left
    obtain ⟨h1, h2⟩ := ok_replace h.ok hv v
    have hfl := find_lt hH hf k
    refine ⟨v0, ⟨T.L.set (find H T.L k) (some (k, v)), T.n⟩, ⟨_, hv⟩, by unfold put; rw [hv], ⟨h1, ?_, ?_, ?_⟩, rfl, List.length_set .., h2⟩
    · show ∃ e, (T.L.set (find H T.L k) (some (k, v))).length = 2 ^ e ∧ 3 ≤ e
      rw [List.length_set]; exact h.pow
    · have := cnt_set T.L (find H T.L k) (some (k, v)) hfl
      rw [hv] at this
      simp at this
      show Ex.cnt (T.L.set (find H T.L k) (some (k, v))) = T.n
      rw [this]; exact h.cnt
    · show 2 * T.n ≤ (T.L.set (find H T.L k) (some (k, v))).length
      rw [List.length_set]; exact h.half
  · right
    have hold : ∀ k2 v2, ((k2 = k ∧ v2 = v) ∨ has T.L k2 v2) ↔ ((k2 = k ∧ v2 = v) ∨ (k2 ≠ k ∧ has T.L k2 v2)) := fun k2 v2 => by
      constructor
      · rintro (h1 | h1)
        · exact .inl h1
        · exact .inr ⟨fun e => hno v2 (e ▸ h1), h1⟩
      · rintro (h1 | h1)
        · exact .inl h1
        · exact .inr h1.2
    by_cases hd : T.L.length < 2 * (T.n + 1)
    · obtain ⟨d1, d2, d3, d4⟩ := ok_dbl hH h.ok (by omega)
      have hf2 : ∃ x, x < (dbl H T.L).length ∧ gt (dbl H T.L) x = none := cnt_free (by rw [d3, d2, h.cnt]; have := h.half; omega)
      obtain ⟨g1, g2, g3⟩ := ok_insert hH d1 (fun v1 hv => hno v1 ((d4 k v1).1 hv)) hf2 v
      refine ⟨⟨(dbl H T.L).set (find H (dbl H T.L) k) (some (k, v)), T.n + 1⟩, hno, by unfold put; rw [hfree]; exact if_pos hd, ⟨g1, ?_, ?_, ?_⟩, rfl, ?_, fun k2 v2 => ?_, fun hn => absurd hd hn⟩
      · obtain ⟨e, e1, e2⟩ := h.pow
        refine ⟨e + 1, ?_, by omega⟩
        show ((dbl H T.L).set (find H (dbl H T.L) k) (some (k, v))).length = _
        rw [List.length_set, d2, e1, Nat.pow_succ]
        omega
      · show Ex.cnt ((dbl H T.L).set (find H (dbl H T.L) k) (some (k, v))) = T.n + 1
        rw [g2, d3, h.cnt]
      · show 2 * (T.n + 1) ≤ ((dbl H T.L).set (find H (dbl H T.L) k) (some (k, v))).length
        rw [List.length_set, d2]
        have := h.half
        omega
      · show ((dbl H T.L).set (find H (dbl H T.L) k) (some (k, v))).length = _
        rw [List.length_set, d2, if_pos hd]
      · show has ((dbl H T.L).set (find H (dbl H T.L) k) (some (k, v))) k2 v2 ↔ _
        rw [g3, ← hold, d4]
    · obtain ⟨g1, g2, g3⟩ := ok_insert hH h.ok hno hf v
      refine ⟨⟨T.L.set (find H T.L k) (some (k, v)), T.n + 1⟩, hno, by unfold put; rw [hfree]; exact if_neg hd, ⟨g1, ?_, ?_, ?_⟩, rfl, ?_, fun k2 v2 => ?_, fun _ => rfl⟩
      · show ∃ e, (T.L.set (find H T.L k) (some (k, v))).length = 2 ^ e ∧ 3 ≤ e
        rw [List.length_set]; exact h.pow
      · show Ex.cnt (T.L.set (find H T.L k) (some (k, v))) = T.n + 1
        rw [g2, h.cnt]
      · show 2 * (T.n + 1) ≤ (T.L.set (find H T.L k) (some (k, v))).length
        rw [List.length_set]; omega
      · show (T.L.set (find H T.L k) (some (k, v))).length = _
        rw [List.length_set, if_neg hd]
      · show has (T.L.set (find H T.L k) (some (k, v))) k2 v2 ↔ _
        rw [g3, ← hold]
theorem get_has (hH : Lim H) {T : Tb} (h : Good H T) {k : Key} {v : Int} (hv : has T.L k v) : get H T k = (v, true) := by
  obtain ⟨i, hi⟩ := hv
  unfold get
  rw [find_hit hH h.ok hi h.free, hi]
theorem get_no (hH : Lim H) {T : Tb} (h : Good H T) {k : Key} (hv : ∀ v, ¬ has T.L k v) : get H T k = (0, false) := by
  unfold get
  rw [find_miss hH hv h.free]
theorem has_or (hH : Lim H) {T : Tb} (h : Good H T) (k : Key) : (∃ v, has T.L k v) ∨ ∀ v, ¬ has T.L k v := by
  rcases has_dec hH h.ok h.free k with ⟨v0, hv⟩ | ⟨_, hno⟩
  · exact .inl ⟨v0, _, hv⟩
  · exact .inr hno
/-- What Del does. -/
theorem del_spec (hH : Lim H) {T : Tb} (h : Good H T) (k : Key) :
    (∃ v0 T', has T.L k v0 ∧ del H T k = (true, T') ∧ Good H T' ∧ T'.n + 1 = T.n ∧ T'.L.length = T.L.length ∧ ∀ k2 v2, has T'.L k2 v2 ↔ has T.L k2 v2 ∧ k2 ≠ k) ∨
    ((∀ v0, ¬ has T.L k v0) ∧ del H T k = (false, T)) := by
  have hf := h.free
  rcases has_dec hH h.ok hf k with ⟨v0, hv⟩ | ⟨hfree, hno⟩
  · left
    obtain ⟨h1, h2, h3, h4⟩ := delGo_all hH h.ok hv hf
    have hn1 : 1 ≤ T.n := by have := h.cnt; omega
    refine ⟨v0, ⟨_, T.n - 1⟩, ⟨_, hv⟩, by unfold del; rw [hv], ⟨h1, ?_, ?_, ?_⟩, by show T.n - 1 + 1 = T.n; omega, h2, h4⟩
    · show ∃ e, (delGo H T.L T.L.length (find H T.L k) ((find H T.L k + 1) % T.L.length)).length = 2 ^ e ∧ 3 ≤ e
      rw [h2]; exact h.pow
    · show Ex.cnt (delGo H T.L T.L.length (find H T.L k) ((find H T.L k + 1) % T.L.length)) = T.n - 1
      have := h.cnt
      omega
    · show 2 * (T.n - 1) ≤ (delGo H T.L T.L.length (find H T.L k) ((find H T.L k + 1) % T.L.length)).length
      rw [h2]
      have := h.half
      omega
  · exact .inr ⟨hno, by unfold del; rw [hfree]⟩
/-- A key that is taken out again leaves all as it was. -/
theorem delGo_back (hH : Lim H) {L : Slots} (h : Ok H L) {k : Key} {v : Int} {f : Nat} (hfl : f < L.length) (hff : gt L f = none) (hfree : ∃ x, x < L.length ∧ x ≠ f ∧ gt L x = none) :
    ∀ (m a : Nat), a < L.length → aw L.length f a ≠ 0 → (∃ t, t < m ∧ gt L ((a + t) % L.length) = none ∧ aw L.length f a + t < L.length) → delGo H (L.set f (some (k, v))) m f a = L
  | 0, a, _, _, ⟨t, h, _⟩ => by omega
  | m + 1, a, hal, haf, ⟨t, ht, ht2, ht3⟩ => by
    have hn : 0 < L.length := by omega
    have hlen : (L.set f (some (k, v))).length = L.length := List.length_set ..
    have hane : a ≠ f := fun e => haf (by rw [e]; exact aw_self hfl)
    have hback : (L.set f (some (k, v))).set f none = L := by
      rw [List.set_set]
      have : L[f] = none := by rw [← gt_getElem hfl]; exact hff
      rw [← this]
      exact List.set_getElem_self hfl
    unfold delGo
    have hga : gt (L.set f (some (k, v))) a = gt L a := by rw [gt_set _ _ _ _ hfl, if_neg hane]
    rw [hga]
    cases hg : gt L a with
    | none => exact hback
    | some e =>
      have hp := plc_lt hH hn e.1
      dsimp only
      rw [hlen, if_neg]
      · have ht0 : t ≠ 0 := fun e2 => by subst e2; rw [Nat.add_zero, Nat.mod_eq_of_lt hal, hg] at ht2; cases ht2
        have e1 : aw L.length f ((a + 1) % L.length) = aw L.length f a + 1 := by
          have e2 : (a + 1) % L.length = (f + (aw L.length f a + 1)) % L.length := by
            rw [← Nat.add_assoc, ← Nat.mod_add_mod (f + aw L.length f a), aw_at hfl hal]
          rw [e2]
          exact aw_add hfl (by omega)
        refine delGo_back hH h hfl hff hfree m _ (Nat.mod_lt _ hn) (by omega) ⟨t - 1, by omega, ?_, by omega⟩
        rw [Nat.mod_add_mod, show a + 1 + (t - 1) = a + t by omega]
        exact ht2
      · intro hs
        exact h.reach a e hg f hfl hs hff
theorem put_del (hH : Lim H) {T : Tb} (h : Good H T) {k : Key} (hno : ∀ v0, ¬ has T.L k v0) (v : Int) (hd : ¬ T.L.length < 2 * (T.n + 1)) : del H (put H T k v).2 k = (true, T) := by
  have hp := h.pos
  have hf := h.free
  have hfree := find_miss hH hno hf
  have hfl := find_lt hH hf k
  obtain ⟨g1, g2, g3⟩ := ok_insert hH h.ok hno hf v
  have hput : (put H T k v).2 = ⟨T.L.set (find H T.L k) (some (k, v)), T.n + 1⟩ := by unfold put; rw [hfree]; dsimp only; rw [if_neg hd]
  rw [hput]
  have hgf : gt (T.L.set (find H T.L k) (some (k, v))) (find H T.L k) = some (k, v) := by rw [gt_set _ _ _ _ hfl, if_pos rfl]
  have hlen : (T.L.set (find H T.L k) (some (k, v))).length = T.L.length := List.length_set ..
  have hf2 : ∃ x, x < (T.L.set (find H T.L k) (some (k, v))).length ∧ gt (T.L.set (find H T.L k) (some (k, v))) x = none := cnt_free (by rw [g2, hlen, h.cnt]; omega)
  have hfind : find H (T.L.set (find H T.L k) (some (k, v))) k = find H T.L k := find_hit hH g1 hgf hf2
  obtain ⟨x, hx, hx2⟩ := hf2
  rw [hlen] at hx
  have hxf : x ≠ find H T.L k := fun e => by rw [e, hgf] at hx2; cases hx2
  have hxL : gt T.L x = none := by rw [gt_set _ _ _ _ hfl, if_neg hxf] at hx2; exact hx2
  unfold del
  dsimp only
  rw [hfind, hgf]
  dsimp only
  have haw : aw T.L.length (find H T.L k) x ≠ 0 := fun e => hxf (by have := aw_at hfl hx; rw [e, Nat.add_zero, Nat.mod_eq_of_lt hfl] at this; exact this.symm)
  have hawl : aw T.L.length (find H T.L k) x < T.L.length := aw_lt (by omega)
  have h1 : aw T.L.length (find H T.L k) ((find H T.L k + 1) % T.L.length) = 1 := aw_add hfl (by omega)
  have := delGo_back hH h.ok (k := k) (v := v) hfl hfree ⟨x, hx, hxf, hxL⟩ T.L.length ((find H T.L k + 1) % T.L.length) (Nat.mod_lt _ (by omega)) (by omega) ⟨aw T.L.length (find H T.L k) x - 1, by omega, by
    rw [Nat.mod_add_mod, show find H T.L k + 1 + (aw T.L.length (find H T.L k) x - 1) = find H T.L k + aw T.L.length (find H T.L k) x by omega, aw_at hfl hx]
    exact hxL, by omega⟩
  rw [hlen, this]
  rfl
end
end Go.Proofs.Ytfpnedooipfpoaa.Ex
