/- Open addressing: how far a key is looked for. Plain lemmas over any function of keys; no condition. -/
import Derived.Test.YtfpnedooipfpoaaPure3
set_option linter.unusedVariables false
set_option linter.unusedSimpArgs false
namespace Go.Proofs.Ytfpnedooipfpoaa.Ex
section
variable {H : Key → Nat}
/-- Taken slots among the first m from slot f on. -/
def rank (L : Slots) (f : Nat) : Nat → Nat
  | 0 => 0
  | m + 1 => rank L f m + if (gt L ((f + m) % L.length)).isSome then 1 else 0
theorem rank_mono (L : Slots) (f : Nat) {a b : Nat} (h : a ≤ b) : rank L f a ≤ rank L f b := by
  induction b with
  | zero => rw [show a = 0 by omega]; exact Nat.le_refl _
  | succ b ih =>
    rcases Nat.lt_or_ge a (b + 1) with h1 | h1
    · have := ih (by omega)
      show _ ≤ rank L f b + _
      omega
    · rw [show a = b + 1 by omega]; exact Nat.le_refl _
/-- A run of taken slots. -/
theorem rank_run (L : Slots) (f : Nat) : ∀ (t a : Nat), (∀ j, a ≤ j → j < a + t → gt L ((f + j) % L.length) ≠ none) → rank L f a + t ≤ rank L f (a + t)
  | 0, a, _ => Nat.le_refl _
  | t + 1, a, h => by
    have ih := rank_run L f t a (fun j h1 h2 => h j h1 (by omega))
    have h1 := h (a + t) (by omega) (by omega)
    show _ ≤ rank L f (a + t) + (if (gt L ((f + (a + t)) % L.length)).isSome then 1 else 0)
    have : (gt L ((f + (a + t)) % L.length)).isSome = true := by
      cases hg : gt L ((f + (a + t)) % L.length) with
      | none => exact absurd hg h1
      | some e => rfl
    rw [this]
    simp
    omega
/-- All slots, from f on: as many as are taken. -/
def rot (L : Slots) (f : Nat) : Slots := (List.range L.length).map fun j => gt L ((f + j) % L.length)
theorem range_rot (n f : Nat) (hf : f < n) : (List.range n).map (fun j => (f + j) % n) = (List.range' f (n - f)) ++ List.range f := by
  have e : n = (n - f) + f := by omega
  refine List.ext_getElem (by simp; omega) fun i h1 h2 => ?_
  simp only [List.length_map, List.length_range] at h1
  rw [List.getElem_map, List.getElem_range]
  rcases Nat.lt_or_ge i (n - f) with hi | hi
  · rw [List.getElem_append_left (by simp; exact hi), List.getElem_range', Nat.mod_eq_of_lt (by omega)]
    omega
  · rw [List.getElem_append_right (by simp; omega), List.getElem_range]
    simp only [List.length_range']
    rw [show f + i = (f + i - n) + n by omega, Nat.add_mod_right, Nat.mod_eq_of_lt (by omega)]
    omega
theorem rot_perm (L : Slots) (f : Nat) (hf : f < L.length) : (rot L f).Perm L := by
  have h0 : L = (List.range L.length).map (gt L) := by
    refine List.ext_getElem (by simp) fun i h1 h2 => ?_
    rw [List.getElem_map, List.getElem_range, gt_getElem h1]
  have h1 : rot L f = ((List.range L.length).map fun j => (f + j) % L.length).map (gt L) := by unfold rot; rw [List.map_map]; rfl
  have h2 : (List.range L.length) = List.range f ++ List.range' f (L.length - f) := by
    refine List.ext_getElem (by simp; omega) fun i h1 h2 => ?_
    rw [List.getElem_range]
    rcases Nat.lt_or_ge i f with hi | hi
    · rw [List.getElem_append_left (by simp; exact hi), List.getElem_range]
    · rw [List.getElem_append_right (by simp; exact hi), List.getElem_range']
      simp
      omega
  rw [h1, range_rot _ _ hf]
  conv => rhs; rw [h0, h2]
  rw [List.map_append, List.map_append]
  exact List.perm_append_comm
theorem rot_at (L : Slots) (f m : Nat) (hl : m < (rot L f).length) : (rot L f)[m] = gt L ((f + m) % L.length) := by
  simp only [rot, List.getElem_map, List.getElem_range]
theorem rank_count (L : Slots) (f : Nat) : ∀ m, m ≤ L.length → rank L f m = ((rot L f).take m).countP Option.isSome
  | 0, _ => by simp [rank]
  | m + 1, h => by
    have hl : m < (rot L f).length := by unfold rot; rw [List.length_map, List.length_range]; omega
    rw [List.take_succ_eq_append_getElem hl, List.countP_append, ← rank_count L f m (by omega)]
    have e : (rot L f)[m] = gt L ((f + m) % L.length) := rot_at L f m hl
    rw [e]
    show rank L f m + _ = _
    simp [List.countP_cons]
theorem rank_all (L : Slots) (f : Nat) (hf : f < L.length) : rank L f L.length = cnt L := by
  rw [rank_count L f L.length (Nat.le_refl _), List.take_of_length_le (by unfold rot; rw [List.length_map, List.length_range]; exact Nat.le_refl _)]
  exact (rot_perm L f hf).countP_eq _
/-- A key that is there: its looks are at most its rank, from a free slot on. -/
theorem looks_rank (hH : Lim H) {L : Slots} (h : Ok H L) {f i : Nat} {e : Ent} (hfl : f < L.length) (hff : gt L f = none) (hi : gt L i = some e) : aw L.length (plc H L.length e.1) i + 1 ≤ rank L f (aw L.length f i + 1) := by
  have hn : 0 < L.length := by omega
  have hp := plc_lt hH hn e.1
  have hil := (gt_some hi).1
  have h1 : aw L.length (plc H L.length e.1) i < aw L.length (plc H L.length e.1) f := by
    rcases Nat.lt_trichotomy (aw L.length (plc H L.length e.1) f) (aw L.length (plc H L.length e.1) i) with hl | hl | hl
    · exact absurd hff (h.reach i e hi f hfl hl)
    · have := aw_inj hp hfl hil hl
      rw [this, hi] at hff
      cases hff
    · exact hl
  -- the way from f to i is the way from f to the place, and from there on
  have h2 : aw L.length i f = aw L.length (plc H L.length e.1) f - aw L.length (plc H L.length e.1) i := aw_split hp hil hfl (Nat.le_of_lt h1)
  have hpf : aw L.length (plc H L.length e.1) f < L.length := aw_lt hn
  have h3 : aw L.length f i = L.length - aw L.length i f := by
    have h4 : 0 < aw L.length i f := by omega
    have e3 : (f + (L.length - aw L.length i f)) % L.length = i := by
      have := aw_at hil hfl
      have h5 : ((i + aw L.length i f) % L.length + (L.length - aw L.length i f)) % L.length = (f + (L.length - aw L.length i f)) % L.length := by rw [this]
      rw [← h5, Nat.mod_add_mod, show i + aw L.length i f + (L.length - aw L.length i f) = i + L.length by omega, Nat.add_mod_right, Nat.mod_eq_of_lt hil]
    have := aw_add hfl (show L.length - aw L.length i f < L.length by omega)
    rw [e3] at this
    exact this
  generalize ha : aw L.length (plc H L.length e.1) i = a at *
  have hrun := rank_run L f (a + 1) (aw L.length f i - a) (fun j hj1 hj2 => by
    have hx : (f + j) % L.length = (plc H L.length e.1 + (j - (aw L.length f i - a))) % L.length := by
      have e4 := aw_at hfl hp
      have h6 : aw L.length f (plc H L.length e.1) = aw L.length f i - a := by
        have e5 : (f + (aw L.length f i - a)) % L.length = plc H L.length e.1 := by
          have e6 : (f + (aw L.length f i - a) + a) % L.length = i := by
            rw [show f + (aw L.length f i - a) + a = f + aw L.length f i by omega]
            exact aw_at hfl hil
          have e7 : ((f + (aw L.length f i - a)) % L.length + a) % L.length = (plc H L.length e.1 + a) % L.length := by
            rw [Nat.mod_add_mod, e6, ← ha, aw_at hp hil]
          have hlt : (f + (aw L.length f i - a)) % L.length < L.length := Nat.mod_lt _ hn
          have e8 : (a + (f + (aw L.length f i - a)) % L.length) % L.length = (a + plc H L.length e.1) % L.length := by rw [Nat.add_comm a, e7, Nat.add_comm a]
          exact cyc_inj hlt hp e8
        have := aw_add hfl (show aw L.length f i - a < L.length by omega)
        rw [e5] at this
        exact this
      rw [show f + j = f + (aw L.length f i - a) + (j - (aw L.length f i - a)) by omega, ← Nat.mod_add_mod, ← h6, e4]
    rw [hx]
    have hjl : j - (aw L.length f i - a) < L.length := by omega
    by_cases hja : j - (aw L.length f i - a) = a
    · rw [hja, ← ha, aw_at hp hil, hi]; simp
    · exact h.reach i e hi _ (Nat.mod_lt _ hn) (by rw [aw_add hp hjl, ha]; omega))
  have hm : aw L.length f i - a + (a + 1) = aw L.length f i + 1 := by omega
  rw [hm] at hrun
  omega
/-- Looks of a key that is there: at most so many as there are keys. -/
theorem looks_le (hH : Lim H) {T : Tb} (h : Good H T) {k : Key} {v : Int} (hv : has T.L k v) : 1 ≤ looks H T k ∧ looks H T k ≤ T.n := by
  obtain ⟨i, hi⟩ := hv
  obtain ⟨x, hx, hx2⟩ := h.free
  have hr := looks_rank hH h.ok hx hx2 hi
  unfold looks
  rw [find_hit hH h.ok hi h.free]
  refine ⟨by omega, Nat.le_trans hr ?_⟩
  rw [← h.cnt, ← rank_all T.L x hx]
  exact rank_mono _ _ (by have := aw_lt (a := x) (b := i) (show 0 < T.L.length by omega); omega)
/-- Looks of one that is not: one more at most. -/
theorem looks_le1 (hH : Lim H) {T : Tb} (h : Good H T) (k : Key) : 1 ≤ looks H T k ∧ looks H T k ≤ T.n + 1 := by
  rcases has_or hH h k with ⟨v, hv⟩ | hno
  · have := looks_le hH h hv
    omega
  · obtain ⟨t, t1, t2, t3, t4⟩ := find_spec hH h.free k
    have hn : 0 < T.L.length := by omega
    have hp := plc_lt hH hn k
    unfold looks
    rw [t2, aw_add hp t1]
    refine ⟨by omega, ?_⟩
    have hrun := rank_run T.L (plc H T.L.length k) t 0 (fun j _ hj hh => by
      have := t4 j (by omega)
      rw [hh] at this
      cases this)
    have h2 := rank_mono T.L (plc H T.L.length k) (show 0 + t ≤ T.L.length by omega)
    rw [rank_all T.L _ hp, h.cnt] at h2
    have : rank T.L (plc H T.L.length k) 0 = 0 := rfl
    omega
/-- All keys, in the row of their slots; what they are looked for, in sum. -/
def keysL (L : Slots) : List Key := L.filterMap fun o => o.map (·.1)
theorem mem_keysL {L : Slots} {k : Key} : k ∈ keysL L ↔ ∃ v, has L k v := by
  unfold keysL
  rw [List.mem_filterMap]
  constructor
  · rintro ⟨o, ho, h⟩
    cases o with
    | none => cases h
    | some e =>
      simp at h
      subst h
      exact ⟨e.2, mem_has.1 ho⟩
  · rintro ⟨v, hv⟩
    exact ⟨some (k, v), mem_has.2 hv, rfl⟩
theorem keysL_len (L : Slots) : (keysL L).length = cnt L := by
  unfold keysL cnt
  induction L with
  | nil => rfl
  | cons p r ih =>
    cases p with
    | none => simpa using ih
    | some e => simpa using ih
theorem keysL_nodup {L : Slots} (h : Ok H L) : (keysL L).Nodup := by
  unfold keysL
  have hp := pairwise_of h
  clear h
  induction L with
  | nil => simp
  | cons p r ih =>
    obtain ⟨h1, h2⟩ := List.pairwise_cons.1 hp
    cases p with
    | none => simpa using ih h2
    | some e =>
      rw [List.filterMap_cons]
      show (e.1 :: List.filterMap _ r).Nodup
      rw [List.nodup_cons]
      refine ⟨fun hm => ?_, ih h2⟩
      obtain ⟨o, ho, hk⟩ := List.mem_filterMap.1 hm
      cases o with
      | none => cases hk
      | some d =>
        simp at hk
        exact h1 (some d) ho e d rfl rfl hk.symm
/-- Numbers that are each at most their rank. -/
theorem sum_rank (L : Slots) (f : Nat) (g : Ent → Nat) (hg : ∀ j e, j < L.length → gt L ((f + j) % L.length) = some e → g e ≤ rank L f (j + 1)) : ∀ m, m ≤ L.length →
    ((((rot L f).take m).filterMap id).map g).sum ≤ rank L f m * (rank L f m + 1) / 2
  | 0, _ => by simp [rank]
  | m + 1, h => by
    have ih := sum_rank L f g hg m (by omega)
    have hl : m < (rot L f).length := by unfold rot; rw [List.length_map, List.length_range]; omega
    have e : (rot L f)[m] = gt L ((f + m) % L.length) := rot_at L f m hl
    rw [List.take_succ_eq_append_getElem hl, List.filterMap_append, List.map_append, List.sum_append, e]
    cases hgm : gt L ((f + m) % L.length) with
    | none =>
      have : rank L f (m + 1) = rank L f m := by show rank L f m + _ = _; rw [hgm]; rfl
      rw [this]
      simpa using ih
    | some d =>
      have hr : rank L f (m + 1) = rank L f m + 1 := by show rank L f m + _ = _; rw [hgm]; rfl
      have h1 := hg m d (by omega) hgm
      rw [hr] at h1 ⊢
      have h2 : ([some d].filterMap id).map g = [g d] := rfl
      rw [h2]
      have h3 : (rank L f m + 1) * (rank L f m + 1 + 1) / 2 = rank L f m * (rank L f m + 1) / 2 + (rank L f m + 1) := by
        generalize rank L f m = r
        have : (r + 1) * (r + 1 + 1) = r * (r + 1) + 2 * (r + 1) := by rw [show r + 1 + 1 = r + 2 by omega, Nat.mul_add, Nat.mul_comm (r + 1) r]; omega
        rw [this]
        omega
      rw [h3]
      simp
      omega
theorem looks_sum (hH : Lim H) {T : Tb} (h : Good H T) : ((keysL T.L).map (looks H T)).sum ≤ T.n * (T.n + 1) / 2 := by
  obtain ⟨x, hx, hx2⟩ := h.free
  have hn : 0 < T.L.length := by omega
  have h1 := sum_rank T.L x (fun e => looks H T e.1) (fun j e hj he => by
    have hr := looks_rank hH h.ok hx hx2 he
    rw [aw_add hx hj] at hr
    show looks H T e.1 ≤ _
    unfold looks
    rw [find_hit hH h.ok (k := e.1) (v := e.2) he h.free]
    exact hr) T.L.length (Nat.le_refl _)
  rw [List.take_of_length_le (by unfold rot; rw [List.length_map, List.length_range]; exact Nat.le_refl _), rank_all T.L x hx, h.cnt] at h1
  have h2 : ((keysL T.L).map (looks H T)) = (T.L.filterMap id).map (fun e => looks H T e.1) := by
    unfold keysL
    rw [List.map_filterMap, List.map_filterMap]
    congr 1
    funext o
    cases o <;> rfl
  rw [h2]
  have hp : (((rot T.L x).filterMap id).map (fun e => looks H T e.1)).Perm ((T.L.filterMap id).map (fun e => looks H T e.1)) := ((rot_perm T.L x hx).filterMap id).map _
  rw [← hp.sum_nat]
  exact h1
end
end Go.Proofs.Ytfpnedooipfpoaa.Ex
