/- Open addressing with a backward shift: the plain theory. Plain lemmas over any function of keys; no condition. -/
import Derived.Test.YtfpnedooipfpoaaWWords
set_option linter.unusedVariables false
set_option linter.unusedSimpArgs false
namespace Go.Proofs.Ytfpnedooipfpoaa.Ex
abbrev Key := ByteArray
abbrev Ent := ByteArray × Int
abbrev Slots := List (Option Ent)
def gt (L : Slots) (i : Nat) : Option Ent := L.getD i none
/-- A key's place; the way from one slot to another one. -/
def plc (H : Key → Nat) (n : Nat) (k : Key) : Nat := H k * n / 4294967296
def aw (n a b : Nat) : Nat := (b + n - a) % n
def stopB (k : Key) : Option Ent → Bool
  | none => true
  | some e => decide (e.1 = k)
def findGo (k : Key) (L : Slots) : Nat → Nat → Nat
  | 0, a => a
  | f + 1, a => if stopB k (gt L a) then a else findGo k L f ((a + 1) % L.length)
section
variable (H : Key → Nat)
def find (L : Slots) (k : Key) : Nat := findGo k L L.length (plc H L.length k)
def rehash (L : Slots) : Slots → Slots
  | [] => L
  | none :: r => rehash L r
  | some e :: r => rehash (L.set (find H L e.1) (some e)) r
def dbl (L : Slots) : Slots := rehash H (List.replicate (2 * L.length) none) L
structure Tb where
  L : Slots
  n : Nat
def put (T : Tb) (k : Key) (v : Int) : (Int × Bool) × Tb := match gt T.L (find H T.L k) with
  | some e => ((e.2, true), ⟨T.L.set (find H T.L k) (some (k, v)), T.n⟩)
  | none => if T.L.length < 2 * (T.n + 1) then ((0, false), ⟨(dbl H T.L).set (find H (dbl H T.L) k) (some (k, v)), T.n + 1⟩) else ((0, false), ⟨T.L.set (find H T.L k) (some (k, v)), T.n + 1⟩)
def get (T : Tb) (k : Key) : Int × Bool := match gt T.L (find H T.L k) with
  | some e => (e.2, true)
  | none => (0, false)
def delGo (L : Slots) : Nat → Nat → Nat → Slots
  | 0, f, _ => L.set f none
  | m + 1, f, a => match gt L a with
    | none => L.set f none
    | some e => if aw L.length (plc H L.length e.1) f < aw L.length (plc H L.length e.1) a then delGo (L.set f (some e)) m a ((a + 1) % L.length) else delGo L m f ((a + 1) % L.length)
def del (T : Tb) (k : Key) : Bool × Tb := match gt T.L (find H T.L k) with
  | some _ => (true, ⟨delGo H T.L T.L.length (find H T.L k) ((find H T.L k + 1) % T.L.length), T.n - 1⟩)
  | none => (false, T)
def looks (T : Tb) (k : Key) : Nat := aw T.L.length (plc H T.L.length k) (find H T.L k) + 1
def new8 : Tb := ⟨List.replicate 8 none, 0⟩
end
/-! ### slots -/
section
variable {L : Slots} {n : Nat}
theorem gt_set (L : Slots) (i j : Nat) (o : Option Ent) (hi : i < L.length) : gt (L.set i o) j = if j = i then o else gt L j := by
  unfold gt
  rw [List.getD_eq_getElem?_getD, List.getD_eq_getElem?_getD]
  by_cases h : j = i
  · subst h
    rw [if_pos rfl, List.getElem?_set_self hi]
    rfl
  · rw [if_neg h, List.getElem?_set_ne (fun e => h e.symm)]
theorem gt_some {i : Nat} {e : Ent} (h : gt L i = some e) : i < L.length ∧ L[i]? = some (some e) := by
  unfold gt at h
  rw [List.getD_eq_getElem?_getD] at h
  rcases Nat.lt_or_ge i L.length with hl | hl
  · rw [List.getElem?_eq_getElem hl] at h ⊢
    exact ⟨hl, by rw [show L[i] = some e from h]⟩
  · rw [List.getElem?_eq_none hl] at h
    cases h
theorem gt_getElem {i : Nat} (h : i < L.length) : gt L i = L[i] := by
  unfold gt
  rw [List.getD_eq_getElem?_getD, List.getElem?_eq_getElem h]
  rfl
theorem gt_rep (m i : Nat) : gt (List.replicate m none) i = none := by
  unfold gt
  rw [List.getD_eq_getElem?_getD, List.getElem?_replicate]
  split <;> rfl
/-! ### the way from one slot to another one -/
theorem aw_lt {a b : Nat} (hn : 0 < n) : aw n a b < n := Nat.mod_lt _ hn
theorem aw_at {a b : Nat} (ha : a < n) (hb : b < n) : (a + aw n a b) % n = b := by
  unfold aw
  rcases Nat.lt_or_ge b a with h | h
  · rw [Nat.mod_eq_of_lt (show b + n - a < n by omega), show a + (b + n - a) = b + n by omega, Nat.add_mod_right, Nat.mod_eq_of_lt hb]
  · rw [show b + n - a = (b - a) + n by omega, Nat.add_mod_right, Nat.mod_eq_of_lt (show b - a < n by omega), show a + (b - a) = b by omega, Nat.mod_eq_of_lt hb]
theorem aw_add {a t : Nat} (ha : a < n) (ht : t < n) : aw n a ((a + t) % n) = t := by
  unfold aw
  rcases Nat.lt_or_ge (a + t) n with h | h
  · rw [Nat.mod_eq_of_lt h, show a + t + n - a = t + n by omega, Nat.add_mod_right, Nat.mod_eq_of_lt ht]
  · have e : (a + t) % n = a + t - n := by rw [show a + t = (a + t - n) + n by omega, Nat.add_mod_right, Nat.mod_eq_of_lt (by omega)]; omega
    rw [e, show a + t - n + n - a = t by omega, Nat.mod_eq_of_lt ht]
theorem aw_self {a : Nat} (ha : a < n) : aw n a a = 0 := by
  have := aw_add ha (show 0 < n by omega)
  rwa [Nat.add_zero, Nat.mod_eq_of_lt ha] at this
theorem aw_inj {a b c : Nat} (ha : a < n) (hb : b < n) (hc : c < n) (h : aw n a b = aw n a c) : b = c := by
  rw [← aw_at ha hb, h, aw_at ha hc]
theorem step_add (a i : Nat) : ((a + i) % n + 1) % n = (a + (i + 1)) % n := by rw [Nat.mod_add_mod, Nat.add_assoc]
theorem cyc_inj {a s t : Nat} (hs : s < n) (ht : t < n) (h : (a + s) % n = (a + t) % n) : s = t := by
  have h2 : ((a % n) + s) % n = ((a % n) + t) % n := by rw [Nat.mod_add_mod, Nat.mod_add_mod]; exact h
  have ha : a % n < n := Nat.mod_lt _ (by omega)
  have := congrArg (aw n (a % n)) h2
  rwa [aw_add ha hs, aw_add ha ht] at this
/-! ### find -/
theorem findGo_spec (k : Key) (L : Slots) : ∀ (f a : Nat), (∃ t, t < f ∧ stopB k (gt L ((a + t) % L.length)) = true) → a < L.length →
    ∃ t, t < f ∧ findGo k L f a = (a + t) % L.length ∧ stopB k (gt L ((a + t) % L.length)) = true ∧ ∀ j, j < t → stopB k (gt L ((a + j) % L.length)) = false
  | 0, a, ⟨t, h, _⟩, _ => by omega
  | f + 1, a, ⟨t, h, hs⟩, ha => by
    unfold findGo
    by_cases h0 : stopB k (gt L a) = true
    · refine ⟨0, by omega, ?_, ?_, fun j hj => by omega⟩
      · rw [if_pos h0, Nat.add_zero, Nat.mod_eq_of_lt ha]
      · rw [Nat.add_zero, Nat.mod_eq_of_lt ha]; exact h0
    · rw [if_neg h0]
      have ht0 : t ≠ 0 := fun e => by subst e; rw [Nat.add_zero, Nat.mod_eq_of_lt ha] at hs; exact h0 hs
      have e : ∀ j, ((a + 1) % L.length + j) % L.length = (a + (j + 1)) % L.length := fun j => by rw [Nat.mod_add_mod]; congr 1; omega
      obtain ⟨s, s1, s2, s3, s4⟩ := findGo_spec k L f ((a + 1) % L.length) ⟨t - 1, by omega, by rw [e, show t - 1 + 1 = t by omega]; exact hs⟩ (Nat.mod_lt _ (by omega))
      refine ⟨s + 1, by omega, by rw [s2, e], by rw [← e]; exact s3, fun j hj => ?_⟩
      cases j with
      | zero => rw [Nat.add_zero, Nat.mod_eq_of_lt ha]; simpa using h0
      | succ j => rw [← e]; exact s4 j (by omega)
/-! ### how many are taken -/
def cnt (L : Slots) : Nat := L.countP Option.isSome
theorem cnt_set (L : Slots) (i : Nat) (o : Option Ent) (hi : i < L.length) : cnt (L.set i o) + (if (gt L i).isSome then 1 else 0) = cnt L + (if o.isSome then 1 else 0) := by
  unfold cnt
  induction L generalizing i with
  | nil => simp at hi
  | cons p r ih =>
    cases i with
    | zero =>
      rw [List.set_cons_zero, List.countP_cons, List.countP_cons]
      show _ + (if p.isSome then 1 else 0) = _
      omega
    | succ i =>
      have hg : gt (p :: r) (i + 1) = gt r i := by unfold gt; simp
      rw [List.set_cons_succ, List.countP_cons, List.countP_cons, hg]
      have := ih i (by simpa using hi)
      omega
theorem cnt_free {L : Slots} (h : cnt L < L.length) : ∃ x, x < L.length ∧ gt L x = none := by
  induction L with
  | nil => simp [cnt] at h
  | cons p r ih =>
    cases p with
    | none => exact ⟨0, by simp, rfl⟩
    | some e =>
      have : cnt r < r.length := by
        unfold cnt at h ⊢
        rw [List.countP_cons] at h
        simp at h
        omega
      obtain ⟨x, h1, h2⟩ := ih this
      exact ⟨x + 1, by simpa using h1, by unfold gt at h2 ⊢; simpa using h2⟩
theorem cnt_rep (m : Nat) : cnt (List.replicate m none) = 0 := by
  unfold cnt
  rw [List.countP_eq_zero]
  intro a ha
  rw [(List.mem_replicate.1 ha).2]
  decide
theorem cnt_le (L : Slots) : cnt L ≤ L.length := List.countP_le_length
end
/-! ### a good table -/
section
variable (H : Key → Nat)
/-- A key is in the table, with a number. -/
def has (L : Slots) (k : Key) (v : Int) : Prop := ∃ i, gt L i = some (k, v)
structure Ok (L : Slots) : Prop where
  inj : ∀ i j e e', gt L i = some e → gt L j = some e' → e.1 = e'.1 → i = j
  reach : ∀ i e, gt L i = some e → ∀ x, x < L.length → aw L.length (plc H L.length e.1) x < aw L.length (plc H L.length e.1) i → gt L x ≠ none
def Lim : Prop := ∀ k, H k < 4294967296
variable {H}
theorem plc_lt (hH : Lim H) {n : Nat} (hn : 0 < n) (k : Key) : plc H n k < n := by
  unfold plc
  rw [Nat.div_lt_iff_lt_mul (by decide)]
  rw [Nat.mul_comm n]
  exact Nat.mul_lt_mul_of_pos_right (hH k) hn
variable {L : Slots}
theorem find_spec (hH : Lim H) (hf : ∃ x, x < L.length ∧ gt L x = none) (k : Key) :
    ∃ t, t < L.length ∧ find H L k = (plc H L.length k + t) % L.length ∧ stopB k (gt L (find H L k)) = true ∧ ∀ j, j < t → stopB k (gt L ((plc H L.length k + j) % L.length)) = false := by
  obtain ⟨x, hx, hx2⟩ := hf
  have hn : 0 < L.length := by omega
  have hp := plc_lt hH hn k
  obtain ⟨t, t1, t2, t3, t4⟩ := findGo_spec k L L.length (plc H L.length k) ⟨aw L.length (plc H L.length k) x, aw_lt hn, by rw [aw_at hp hx, hx2]; rfl⟩ hp
  exact ⟨t, t1, t2, by unfold find; rw [t2]; exact t3, t4⟩
theorem find_lt (hH : Lim H) (hf : ∃ x, x < L.length ∧ gt L x = none) (k : Key) : find H L k < L.length := by
  obtain ⟨t, h1, h2, _⟩ := find_spec hH hf k
  rw [h2]
  exact Nat.mod_lt _ (by omega)
theorem find_hit (hH : Lim H) (h : Ok H L) {i : Nat} {k : Key} {v : Int} (hi : gt L i = some (k, v)) (hf : ∃ x, x < L.length ∧ gt L x = none) : find H L k = i := by
  obtain ⟨t, t1, t2, t3, t4⟩ := find_spec hH hf k
  have hil := (gt_some hi).1
  have hn : 0 < L.length := by omega
  have hp := plc_lt hH hn k
  rcases Nat.lt_trichotomy t (aw L.length (plc H L.length k) i) with hlt | heq | hgt
  · have hx : find H L k < L.length := by rw [t2]; exact Nat.mod_lt _ hn
    have hr := h.reach i _ hi (find H L k) hx (by rw [t2, aw_add hp t1]; exact hlt)
    cases hg : gt L (find H L k) with
    | none => exact absurd hg hr
    | some e =>
      rw [hg] at t3
      have hk : e.1 = k := of_decide_eq_true t3
      exact h.inj _ _ e (k, v) hg hi hk
  · rw [t2, heq, aw_at hp hil]
  · have := t4 _ hgt
    rw [aw_at hp hil, hi] at this
    simp [stopB] at this
theorem find_miss (hH : Lim H) {k : Key} (hk : ∀ v, ¬ has L k v) (hf : ∃ x, x < L.length ∧ gt L x = none) : gt L (find H L k) = none := by
  obtain ⟨t, t1, t2, t3, t4⟩ := find_spec hH hf k
  cases hg : gt L (find H L k) with
  | none => rfl
  | some e =>
    rw [hg] at t3
    have h1 : e.1 = k := of_decide_eq_true t3
    exact absurd ⟨_, by rw [hg, ← h1]⟩ (hk e.2)
theorem has_uniq (h : Ok H L) {k : Key} {v v' : Int} (h1 : has L k v) (h2 : has L k v') : v = v' := by
  obtain ⟨i, hi⟩ := h1
  obtain ⟨j, hj⟩ := h2
  have := h.inj i j _ _ hi hj rfl
  subst this
  rw [hi] at hj
  injection hj with hj
  injection hj
theorem has_dec (hH : Lim H) (h : Ok H L) (hf : ∃ x, x < L.length ∧ gt L x = none) (k : Key) : (∃ v, gt L (find H L k) = some (k, v)) ∨ (gt L (find H L k) = none ∧ ∀ v, ¬ has L k v) := by
  by_cases hk : ∃ v, has L k v
  · obtain ⟨v, i, hi⟩ := hk
    left
    refine ⟨v, ?_⟩
    rw [find_hit hH h hi hf]
    exact hi
  · right
    have hk' : ∀ v, ¬ has L k v := fun v hv => hk ⟨v, hv⟩
    exact ⟨find_miss hH hk' hf, hk'⟩
/-- A key's number is replaced. -/
theorem ok_replace (h : Ok H L) {i : Nat} {k : Key} {v : Int} (hi : gt L i = some (k, v)) (v' : Int) :
    Ok H (L.set i (some (k, v'))) ∧ (∀ k2 v2, has (L.set i (some (k, v'))) k2 v2 ↔ (k2 = k ∧ v2 = v') ∨ (k2 ≠ k ∧ has L k2 v2)) := by
  have hil := (gt_some hi).1
  have hlen : (L.set i (some (k, v'))).length = L.length := List.length_set ..
  have old : ∀ j e, gt (L.set i (some (k, v'))) j = some e → ∃ e0, gt L j = some e0 ∧ e0.1 = e.1 := fun j e hj => by
    rw [gt_set _ _ _ _ hil] at hj
    split at hj
    · next hh => injection hj with hj; exact ⟨(k, v), hh ▸ hi, by rw [← hj]⟩
    · exact ⟨e, hj, rfl⟩
  refine ⟨⟨fun a b e e' ha hb hk => ?_, fun a e ha x hx hlt => ?_⟩, fun k2 v2 => ⟨?_, ?_⟩⟩
  · obtain ⟨f, hf, hf2⟩ := old a e ha
    obtain ⟨g, hg, hg2⟩ := old b e' hb
    exact h.inj a b f g hf hg (by rw [hf2, hg2, hk])
  · obtain ⟨f, hf, hf2⟩ := old a e ha
    rw [hlen] at hx hlt
    rw [← hf2] at hlt
    have := h.reach a f hf x hx hlt
    rw [gt_set _ _ _ _ hil]
    split
    · simp
    · exact this
  · rintro ⟨j, hj⟩
    rw [gt_set _ _ _ _ hil] at hj
    split at hj
    · injection hj with hj
      injection hj with h1 h2
      exact .inl ⟨h1.symm, h2.symm⟩
    · next hne =>
      refine .inr ⟨fun e => hne ?_, j, hj⟩
      exact h.inj j i _ _ hj hi e
  · rintro (⟨rfl, rfl⟩ | ⟨hne, j, hj⟩)
    · exact ⟨i, by rw [gt_set _ _ _ _ hil, if_pos rfl]⟩
    · refine ⟨j, ?_⟩
      rw [gt_set _ _ _ _ hil, if_neg]
      · exact hj
      · intro e
        subst e
        rw [hi] at hj
        injection hj with hj
        injection hj with h1 h2
        exact hne h1.symm
/-- A key that is not there is put into the first free slot from its place on. -/
theorem ok_insert (hH : Lim H) (h : Ok H L) {k : Key} (hk : ∀ v, ¬ has L k v) (hf : ∃ x, x < L.length ∧ gt L x = none) (v : Int) :
    Ok H (L.set (find H L k) (some (k, v))) ∧ cnt (L.set (find H L k) (some (k, v))) = cnt L + 1 ∧ (∀ k2 v2, has (L.set (find H L k) (some (k, v))) k2 v2 ↔ (k2 = k ∧ v2 = v) ∨ has L k2 v2) := by
  obtain ⟨t, t1, t2, t3, t4⟩ := find_spec hH hf k
  have hfree := find_miss hH hk hf
  have hfl := find_lt hH hf k
  have hn : 0 < L.length := by omega
  have hp := plc_lt hH hn k
  have hlen : (L.set (find H L k) (some (k, v))).length = L.length := List.length_set ..
  generalize find H L k = f at *
  refine ⟨⟨fun a b e e' ha hb hkk => ?_, fun a e ha x hx hlt => ?_⟩, ?_, fun k2 v2 => ⟨?_, ?_⟩⟩
  · rw [gt_set _ _ _ _ hfl] at ha hb
    split at ha
    · next h1 =>
      split at hb
      · next h2 => rw [h1, h2]
      · exfalso
        injection ha with ha
        exact hk e'.2 ⟨b, by rw [hb, ← show e'.1 = k by rw [← hkk, ← ha]]⟩
    · next h1 =>
      split at hb
      · exfalso
        injection hb with hb
        exact hk e.2 ⟨a, by rw [ha, ← show e.1 = k by rw [hkk, ← hb]]⟩
      · exact h.inj a b e e' ha hb hkk
  · rw [hlen] at hx hlt
    rw [gt_set _ _ _ _ hfl] at ha ⊢
    split
    · simp
    · next hxf =>
      split at ha
      · next h1 =>
        injection ha with ha
        subst h1
        rw [← show k = e.1 by rw [← ha], t2, aw_add hp t1] at hlt
        have := t4 _ hlt
        rw [aw_at hp hx] at this
        intro hh
        rw [hh] at this
        cases this
      · exact h.reach a e ha x hx hlt
  · have := cnt_set L f (some (k, v)) hfl
    rw [hfree] at this
    simpa using this
  · rintro ⟨j, hj⟩
    rw [gt_set _ _ _ _ hfl] at hj
    split at hj
    · injection hj with hj
      injection hj with h1 h2
      exact .inl ⟨h1.symm, h2.symm⟩
    · exact .inr ⟨j, hj⟩
  · rintro (⟨rfl, rfl⟩ | ⟨j, hj⟩)
    · exact ⟨f, by rw [gt_set _ _ _ _ hfl, if_pos rfl]⟩
    · refine ⟨j, ?_⟩
      rw [gt_set _ _ _ _ hfl, if_neg]
      · exact hj
      · intro e
        subst e
        rw [hfree] at hj
        cases hj
/-- All keys of some slots are put into others. -/
theorem ok_rehash (hH : Lim H) : ∀ (R L : Slots), Ok H L → (R.Pairwise fun a b => ∀ e e', a = some e → b = some e' → e.1 ≠ e'.1) → (∀ e, some e ∈ R → ∀ v, ¬ has L e.1 v) → cnt L + cnt R < L.length →
    Ok H (rehash H L R) ∧ (rehash H L R).length = L.length ∧ cnt (rehash H L R) = cnt L + cnt R ∧ ∀ k v, has (rehash H L R) k v ↔ has L k v ∨ some (k, v) ∈ R
  | [], L, h, _, _, _ => ⟨h, rfl, by simp [rehash, cnt], fun k v => by simp [rehash]⟩
  | none :: r, L, h, hp, ha, hc => by
    have hcr : cnt (none :: r) = cnt r := by unfold cnt; rw [List.countP_cons]; simp
    rw [hcr] at hc
    obtain ⟨h1, h2, h3, h4⟩ := ok_rehash hH r L h (List.pairwise_cons.1 hp).2 (fun e he => ha e (List.mem_cons_of_mem _ he)) hc
    refine ⟨h1, h2, by rw [hcr]; exact h3, fun k v => ?_⟩
    show has (rehash H L r) k v ↔ _
    rw [h4 k v]
    simp
  | some e :: r, L, h, hp, ha, hc => by
    have hcr : cnt (some e :: r) = cnt r + 1 := by unfold cnt; rw [List.countP_cons]; simp
    rw [hcr] at hc
    have hf := cnt_free (L := L) (by omega)
    obtain ⟨g1, g2, g3⟩ := ok_insert hH h (ha e (List.mem_cons_self ..)) hf e.2
    have hpc := List.pairwise_cons.1 hp
    obtain ⟨h1, h2, h3, h4⟩ := ok_rehash hH r (L.set (find H L e.1) (some (e.1, e.2))) g1 hpc.2 (fun e' he' v hv => by
      rcases (g3 _ _).1 hv with ⟨h5, _⟩ | h5
      · exact hpc.1 (some e') he' e e' rfl rfl h5.symm
      · exact ha e' (List.mem_cons_of_mem _ he') v h5) (by rw [g2, List.length_set]; omega)
    refine ⟨h1, by rw [← List.length_set (as := L) (i := find H L e.1) (a := some (e.1, e.2))]; exact h2, by rw [hcr]; have h6 : cnt (rehash H L (some e :: r)) = _ := h3; rw [h6, g2]; omega, fun k v => ?_⟩
    have h5 : has (rehash H L (some e :: r)) k v ↔ _ := h4 k v
    rw [h5, g3 k v, List.mem_cons]
    constructor
    · rintro ((⟨h6, h7⟩ | h6) | h6)
      · exact .inr (.inl (by rw [h6, h7]))
      · exact .inl h6
      · exact .inr (.inr h6)
    · rintro (h6 | h6 | h6)
      · exact .inl (.inr h6)
      · injection h6 with h6
        exact .inl (.inl ⟨by rw [← h6], by rw [← h6]⟩)
      · exact .inr h6
theorem pairwise_of (h : Ok H L) : L.Pairwise fun a b => ∀ e e', a = some e → b = some e' → e.1 ≠ e'.1 := by
  rw [List.pairwise_iff_getElem]
  intro i j hi hj hij e e' he he' hk
  have := h.inj i j e e' (by rw [gt_getElem hi, he]) (by rw [gt_getElem hj, he']) hk
  omega
theorem mem_has {e : Ent} : some e ∈ L ↔ has L e.1 e.2 := by
  constructor
  · intro h
    obtain ⟨i, hi, he⟩ := List.getElem_of_mem h
    exact ⟨i, by rw [gt_getElem hi, he]⟩
  · rintro ⟨i, hi⟩
    have := (gt_some hi).2
    exact List.mem_of_getElem? this
/-- Twice as many slots. -/
theorem ok_dbl (hH : Lim H) (h : Ok H L) (hc : 0 < L.length) : Ok H (dbl H L) ∧ (dbl H L).length = 2 * L.length ∧ cnt (dbl H L) = cnt L ∧ ∀ k v, has (dbl H L) k v ↔ has L k v := by
  have hl : (List.replicate (2 * L.length) (none : Option Ent)).length = 2 * L.length := List.length_replicate
  have h0 : Ok H (List.replicate (2 * L.length) none) := ⟨fun i j e e' hi _ _ => (by rw [gt_rep] at hi; cases hi), fun i e hi => (by rw [gt_rep] at hi; cases hi)⟩
  have hn : ∀ k v, ¬ has (List.replicate (2 * L.length) none) k v := fun k v ⟨i, hi⟩ => by rw [gt_rep] at hi; cases hi
  obtain ⟨h1, h2, h3, h4⟩ := ok_rehash hH L _ h0 (pairwise_of h) (fun e _ v => hn e.1 v) (by rw [cnt_rep, hl]; have := cnt_le L; omega)
  refine ⟨h1, by rw [← hl]; exact h2, by have h5 : cnt (dbl H L) = _ := h3; rw [h5, cnt_rep]; omega, fun k v => ?_⟩
  have h5 : has (dbl H L) k v ↔ _ := h4 k v
  rw [h5]
  exact ⟨fun h6 => by
    rcases h6 with h6 | h6
    · exact absurd h6 (hn k v)
    · exact mem_has.1 h6, fun h6 => .inr (mem_has.2 h6)⟩
end
end Go.Proofs.Ytfpnedooipfpoaa.Ex
