/- Open addressing with a backward shift: a key is taken out. Plain lemmas over any function of keys; no condition. -/
import Derived.Test.YtfpnedooipfpoaaPure
set_option linter.unusedVariables false
set_option linter.unusedSimpArgs false
namespace Go.Proofs.Ytfpnedooipfpoaa.Ex
theorem aw_split {n p f i : Nat} (hp : p < n) (hf : f < n) (hi : i < n) (h : aw n p f ≤ aw n p i) : aw n f i = aw n p i - aw n p f := by
  have h1 : aw n p i < n := aw_lt (by omega)
  have h2 := aw_at hp hf
  have h3 := aw_at hp hi
  have e : (f + (aw n p i - aw n p f)) % n = i := by
    have e1 : (p + aw n p f) % n + (aw n p i - aw n p f) = f + (aw n p i - aw n p f) := by rw [h2]
    rw [← e1, Nat.mod_add_mod, show p + aw n p f + (aw n p i - aw n p f) = p + aw n p i by omega, h3]
  have := aw_add hf (show aw n p i - aw n p f < n by omega)
  rw [e] at this
  exact this
section
variable {H : Key → Nat}
/-- In the midst of a key's taking out: L, of which slot f is held to be free, and slots behind f up to a that are settled. -/
structure Mid (H : Key → Nat) (L0 : Slots) (k : Key) (L : Slots) (f a : Nat) : Prop where
  len : L.length = L0.length
  fl : f < L.length
  al : a < L.length
  af : aw L.length f a ≠ 0
  cnt : cnt (L.set f none) + 1 = cnt L0
  inj : ∀ i j e e', gt (L.set f none) i = some e → gt (L.set f none) j = some e' → e.1 = e'.1 → i = j
  reach : ∀ i e, gt (L.set f none) i = some e → ∀ x, x < L.length → aw L.length (plc H L.length e.1) x < aw L.length (plc H L.length e.1) i → x = f ∨ gt (L.set f none) x ≠ none
  settled : ∀ x, x < L.length → 0 < aw L.length f x → aw L.length f x < aw L.length f a → ∃ e, gt L x = some e ∧ ¬ (aw L.length (plc H L.length e.1) f < aw L.length (plc H L.length e.1) x)
  same : ∀ k2 v2, has (L.set f none) k2 v2 ↔ has L0 k2 v2 ∧ k2 ≠ k
theorem mid_start (hH : Lim H) {L : Slots} (h : Ok H L) {k : Key} {v : Int} {f : Nat} (hf : gt L f = some (k, v)) (hn : 1 < L.length) : Mid H L k L f ((f + 1) % L.length) := by
  have hfl := (gt_some hf).1
  have e1 : aw L.length f ((f + 1) % L.length) = 1 := aw_add hfl hn
  have old : ∀ j e, gt (L.set f none) j = some e → j ≠ f ∧ gt L j = some e := fun j e hj => by
    rw [gt_set _ _ _ _ hfl] at hj
    split at hj
    · cases hj
    · next hne => exact ⟨hne, hj⟩
  refine ⟨rfl, hfl, Nat.mod_lt _ (by omega), by rw [e1]; decide, ?_, fun i j e e' hi hj hk => h.inj i j e e' (old i e hi).2 (old j e' hj).2 hk, fun i e hi x hx hlt => ?_, fun x hx h0 h1 => by rw [e1] at h1; omega, fun k2 v2 => ⟨?_, ?_⟩⟩
  · have := cnt_set L f none hfl
    rw [hf] at this
    simpa using this
  · by_cases hxf : x = f
    · exact .inl hxf
    · right
      rw [gt_set _ _ _ _ hfl, if_neg hxf]
      exact h.reach i e (old i e hi).2 x hx hlt
  · rintro ⟨j, hj⟩
    obtain ⟨h1, h2⟩ := old j _ hj
    exact ⟨⟨j, h2⟩, fun e => h1 (h.inj j f _ _ h2 hf e)⟩
  · rintro ⟨⟨j, hj⟩, hne⟩
    refine ⟨j, ?_⟩
    rw [gt_set _ _ _ _ hfl, if_neg]
    · exact hj
    · intro e
      subst e
      rw [hf] at hj
      injection hj with hj
      injection hj with h1 h2
      exact hne h1.symm
/-- The next slot is free: all is well. -/
theorem mid_end (hH : Lim H) {L0 L : Slots} {k : Key} {f a : Nat} (h : Mid H L0 k L f a) (ha : gt L a = none) : Ok H (L.set f none) := by
  have hn : 0 < L.length := by have := h.fl; omega
  have hlen : (L.set f none).length = L.length := List.length_set ..
  have hane : a ≠ f := fun e => h.af (by rw [e]; exact aw_self h.fl)
  have haF : gt (L.set f none) a = none := by rw [gt_set _ _ _ _ h.fl, if_neg hane]; exact ha
  have hff : gt (L.set f none) f = none := by rw [gt_set _ _ _ _ h.fl, if_pos rfl]
  refine ⟨h.inj, fun i e hi x hx hlt => ?_⟩
  rw [hlen] at hx hlt
  rcases h.reach i e hi x hx hlt with hxf | hok
  · exfalso
    rw [hxf] at hlt
    have hp := plc_lt hH hn e.1
    have hil : i < L.length := by rw [← hlen]; exact (gt_some hi).1
    have hif : i ≠ f := fun e2 => by rw [e2, hff] at hi; cases hi
    have hgi : gt L i = some e := by rw [gt_set _ _ _ _ h.fl, if_neg hif] at hi; exact hi
    have hsp := aw_split hp h.fl hil (Nat.le_of_lt hlt)
    rcases Nat.lt_trichotomy (aw L.length f i) (aw L.length f a) with hl | hl | hl
    · obtain ⟨e2, h1, h2⟩ := h.settled i hil (by omega) hl
      rw [hgi] at h1
      injection h1 with h1
      rw [← h1] at h2
      exact h2 hlt
    · have := aw_inj h.fl hil h.al hl
      rw [this, ha] at hgi
      cases hgi
    · have hpa : aw L.length (plc H L.length e.1) a = aw L.length (plc H L.length e.1) f + aw L.length f a := by
        have hi2 : aw L.length (plc H L.length e.1) i < L.length := aw_lt hn
        have e3 : (plc H L.length e.1 + (aw L.length (plc H L.length e.1) f + aw L.length f a)) % L.length = a := by
          rw [← Nat.add_assoc, ← Nat.mod_add_mod, aw_at hp h.fl, aw_at h.fl h.al]
        have := aw_add hp (show aw L.length (plc H L.length e.1) f + aw L.length f a < L.length by omega)
        rw [e3] at this
        exact this
      rcases h.reach i e hi a h.al (by omega) with h1 | h1
      · exact hane h1
      · exact h1 haF
  · exact hok
/-- The slot's key stays. -/
theorem mid_stay (hH : Lim H) {L0 L : Slots} {k : Key} {f a : Nat} (h : Mid H L0 k L f a) {e : Ent} (ha : gt L a = some e) (hs : ¬ (aw L.length (plc H L.length e.1) f < aw L.length (plc H L.length e.1) a)) (hmore : aw L.length f a + 1 < L.length) : Mid H L0 k L f ((a + 1) % L.length) := by
  have hn : 0 < L.length := by have := h.fl; omega
  have e1 : aw L.length f ((a + 1) % L.length) = aw L.length f a + 1 := by
    have e2 : (a + 1) % L.length = (f + (aw L.length f a + 1)) % L.length := by
      rw [← Nat.add_assoc, ← Nat.mod_add_mod (f + aw L.length f a), aw_at h.fl h.al]
    rw [e2]
    exact aw_add h.fl hmore
  refine ⟨h.len, h.fl, Nat.mod_lt _ hn, by omega, h.cnt, h.inj, h.reach, fun x hx h0 h1 => ?_, h.same⟩
  rw [e1] at h1
  by_cases hxa : aw L.length f x = aw L.length f a
  · have := aw_inj h.fl hx h.al hxa
    subst this
    exact ⟨e, ha, hs⟩
  · exact h.settled x hx h0 (by omega)
/-- The slot's key moves. -/
theorem mid_move (hH : Lim H) {L0 L : Slots} {k : Key} {f a : Nat} (h : Mid H L0 k L f a) {e : Ent} (ha : gt L a = some e) (hs : aw L.length (plc H L.length e.1) f < aw L.length (plc H L.length e.1) a) (hmore : 1 < L.length) : Mid H L0 k (L.set f (some e)) a ((a + 1) % L.length) := by
  have hn : 0 < L.length := by have := h.fl; omega
  have hane : a ≠ f := fun e => h.af (by rw [e]; exact aw_self h.fl)
  have hlen : (L.set f (some e)).length = L.length := List.length_set ..
  have e1 : aw L.length a ((a + 1) % L.length) = 1 := aw_add h.al hmore
  have hp := plc_lt hH hn e.1
  have hal : a < (L.set f (some e)).length := by rw [hlen]; exact h.al
  have haF : gt (L.set f none) a = some e := by rw [gt_set _ _ _ _ h.fl, if_neg hane]; exact ha
  -- a slot behind the move
  have g : ∀ j, gt ((L.set f (some e)).set a none) j = if j = a then none else if j = f then some e else gt (L.set f none) j := fun j => by
    rw [gt_set _ _ _ _ hal]
    split
    · rfl
    · rw [gt_set _ _ _ _ h.fl]
      split
      · rfl
      · next hjf => rw [gt_set _ _ _ _ h.fl, if_neg hjf]
  have old : ∀ j e2, gt ((L.set f (some e)).set a none) j = some e2 → (j = f ∧ e2 = e) ∨ (j ≠ f ∧ j ≠ a ∧ gt (L.set f none) j = some e2) := fun j e2 hj => by
    rw [g] at hj
    split at hj
    · cases hj
    · next hja =>
      split at hj
      · next hjf => injection hj with hj; exact .inl ⟨hjf, hj.symm⟩
      · next hjf => exact .inr ⟨hjf, hja, hj⟩
  refine ⟨by rw [hlen]; exact h.len, hal, by rw [hlen]; exact Nat.mod_lt _ hn, by rw [hlen, e1]; decide, ?_, fun i j d d' hi hj hk => ?_, fun i d hi x hx hlt => ?_, fun x hx h0 h1 => by rw [hlen] at h0 h1; rw [e1] at h1; omega, fun k2 v2 => ⟨?_, ?_⟩⟩
  · have c1 := cnt_set L f (some e) h.fl
    have c2 := cnt_set (L.set f (some e)) a none hal
    have c3 := cnt_set L f none h.fl
    rw [gt_set _ _ _ _ h.fl, if_neg hane, ha] at c2
    have := h.cnt
    simp at c1 c2 c3
    omega
  · rcases old i d hi with ⟨h1, h2⟩ | ⟨h1, h2, h3⟩
    · rcases old j d' hj with ⟨h4, h5⟩ | ⟨h4, h5, h6⟩
      · rw [h1, h4]
      · exact absurd (h.inj j a d' e h6 haF (by rw [← hk, h2])) h5
    · rcases old j d' hj with ⟨h4, h5⟩ | ⟨h4, h5, h6⟩
      · exact absurd (h.inj i a d e h3 haF (by rw [hk, h5])) h2
      · exact h.inj i j d d' h3 h6 hk
  · rw [hlen] at hx hlt
    by_cases hxa : x = a
    · exact .inl hxa
    · right
      rw [g, if_neg hxa]
      by_cases hxf : x = f
      · rw [if_pos hxf]; simp
      · rw [if_neg hxf]
        rcases old i d hi with ⟨h1, h2⟩ | ⟨h1, h2, h3⟩
        · subst h1 h2
          rcases h.reach a d haF x hx (by omega) with h4 | h4
          · exact absurd h4 hxf
          · exact h4
        · rcases h.reach i d h3 x hx hlt with h4 | h4
          · exact absurd h4 hxf
          · exact h4
  · rintro ⟨j, hj⟩
    rw [← h.same]
    rcases old j _ hj with ⟨h1, h2⟩ | ⟨h1, h2, h3⟩
    · exact ⟨a, by rw [haF, h2]⟩
    · exact ⟨j, h3⟩
  · intro hh
    rw [← h.same] at hh
    obtain ⟨j, hj⟩ := hh
    by_cases hja : j = a
    · subst hja
      refine ⟨f, ?_⟩
      rw [g, if_neg (fun e2 => hane e2.symm), if_pos rfl]
      rw [haF] at hj
      exact hj
    · refine ⟨j, ?_⟩
      rw [g, if_neg hja]
      split
      · next hjf =>
        exfalso
        rw [hjf, gt_set _ _ _ _ h.fl, if_pos rfl] at hj
        cases hj
      · exact hj
/-- Which slots are taken does not turn. -/
theorem taken_set {L : Slots} {f a : Nat} {e d : Ent} (hf : gt L f = some d) (x : Nat) : (gt (L.set f (some e)) x).isSome = (gt L x).isSome := by
  rw [gt_set _ _ _ _ (gt_some hf).1]
  split
  · next h => rw [h, hf]; rfl
  · rfl
/-- What is left: taken slots up to a free one, which f is not among. -/
theorem delGo_ok (hH : Lim H) {L0 : Slots} {k : Key} : ∀ (m : Nat) (L : Slots) (f a : Nat), Mid H L0 k L f a → (∃ d, gt L f = some d) → (∃ t, t < m ∧ gt L ((a + t) % L.length) = none ∧ aw L.length f a + t < L.length) →
    Ok H (delGo H L m f a) ∧ (delGo H L m f a).length = L0.length ∧ cnt (delGo H L m f a) + 1 = cnt L0 ∧ ∀ k2 v2, has (delGo H L m f a) k2 v2 ↔ has L0 k2 v2 ∧ k2 ≠ k
  | 0, L, f, a, _, _, ⟨t, h, _⟩ => by omega
  | m + 1, L, f, a, h, ⟨d, hd⟩, ⟨t, ht, ht2, ht3⟩ => by
    have hn : 0 < L.length := by have := h.fl; omega
    have hal := h.al
    unfold delGo
    cases hg : gt L a with
    | none => exact ⟨mid_end hH h hg, by rw [List.length_set]; exact h.len, h.cnt, h.same⟩
    | some e =>
      have ht0 : t ≠ 0 := fun e2 => by subst e2; rw [Nat.add_zero, Nat.mod_eq_of_lt hal, hg] at ht2; cases ht2
      have hnext : ((a + 1) % L.length + (t - 1)) % L.length = (a + t) % L.length := by rw [Nat.mod_add_mod]; congr 1; omega
      have h2 : 1 < L.length := by omega
      dsimp only
      split
      · next hs =>
        have hlen : (L.set f (some e)).length = L.length := List.length_set ..
        have hmid := mid_move hH h hg hs h2
        rw [← hlen] at hmid
        have hane : a ≠ f := fun e => h.af (by rw [e]; exact aw_self h.fl)
        have q1 : gt (L.set f (some e)) a = some e := by rw [gt_set _ _ _ _ h.fl, if_neg hane]; exact hg
        have q2 : gt (L.set f (some e)) ((a + t) % L.length) = none := by
          have := taken_set (a := a) (e := e) hd ((a + t) % L.length)
          rw [ht2] at this
          cases hh : gt (L.set f (some e)) ((a + t) % L.length) with
          | none => rfl
          | some z => rw [hh] at this; cases this
        have q3 : gt (L.set f (some e)) (((a + 1) % (L.set f (some e)).length + (t - 1)) % (L.set f (some e)).length) = none := by rw [hlen, hnext]; exact q2
        have q4 : aw (L.set f (some e)).length a ((a + 1) % (L.set f (some e)).length) + (t - 1) < (L.set f (some e)).length := by
          rw [hlen, aw_add hal h2]
          have := h.af
          omega
        have := delGo_ok hH m (L.set f (some e)) a ((a + 1) % (L.set f (some e)).length) hmid ⟨e, q1⟩ ⟨t - 1, by omega, q3, q4⟩
        rw [hlen] at this
        exact this
      · next hs =>
        have hmid := mid_stay hH h hg hs (by omega)
        have e1 : aw L.length f ((a + 1) % L.length) = aw L.length f a + 1 := by
          have e2 : (a + 1) % L.length = (f + (aw L.length f a + 1)) % L.length := by
            rw [← Nat.add_assoc, ← Nat.mod_add_mod (f + aw L.length f a), aw_at h.fl h.al]
          rw [e2]
          exact aw_add h.fl (by omega)
        exact delGo_ok hH m L f ((a + 1) % L.length) hmid ⟨d, hd⟩ ⟨t - 1, by omega, by rw [hnext]; exact ht2, by rw [e1]; omega⟩
theorem delGo_all (hH : Lim H) {L : Slots} (h : Ok H L) {k : Key} {v : Int} {f : Nat} (hf : gt L f = some (k, v)) (hfree : ∃ x, x < L.length ∧ gt L x = none) :
    Ok H (delGo H L L.length f ((f + 1) % L.length)) ∧ (delGo H L L.length f ((f + 1) % L.length)).length = L.length ∧ cnt (delGo H L L.length f ((f + 1) % L.length)) + 1 = cnt L ∧ ∀ k2 v2, has (delGo H L L.length f ((f + 1) % L.length)) k2 v2 ↔ has L k2 v2 ∧ k2 ≠ k := by
  have hfl := (gt_some hf).1
  obtain ⟨x, hx, hx2⟩ := hfree
  have hne : x ≠ f := fun e => by rw [e, hf] at hx2; cases hx2
  have haw : aw L.length f x ≠ 0 := fun e => hne (by have := aw_at hfl hx; rw [e, Nat.add_zero, Nat.mod_eq_of_lt hfl] at this; exact this.symm)
  have hawl : aw L.length f x < L.length := aw_lt (by omega)
  have h2 : 1 < L.length := by omega
  refine delGo_ok hH L.length L f _ (mid_start hH h hf h2) ⟨_, hf⟩ ⟨aw L.length f x - 1, by omega, ?_, by rw [aw_add hfl h2]; omega⟩
  rw [Nat.mod_add_mod, show f + 1 + (aw L.length f x - 1) = f + aw L.length f x by omega, aw_at hfl hx]
  exact hx2
end
end Go.Proofs.Ytfpnedooipfpoaa.Ex
