/- Words for 'for k, v := range m' over maps keyed by int, entry by entry; a round may set the value of a key that is there. Plain lemmas over any program; no condition. -/
import Derived.Test.YtdobpieiobikpaaMapL
import Derived.Maps.RangeRun
namespace Go.Proofs.Ytdobpieiobikpaa.Mem
open Go Go.RowKit Go.Proofs.YtdobpieiobikpaaW.PrintWords Go.MapKept Go.ChangeMaps
open Go.Maps (Keyed)
set_option linter.unusedVariables false
/-- How many entries of block b the iterator in block r has still to hand out. -/
def leftB (w : World) (b r : Nat) : Nat := match w.heap[b]?, w.heap[r]? with
  | some (.map es _), some (.mapIter _ _ s _) => ((es.toList.map (·.born)).filter (fun n => !s.contains n)).length
  | _, _ => 0
theorem leftB_eq {w : World} {b r : Nat} {es : Array MapEntry} {clock : Nat} {m : Option Nat} {a c : Nat} {s : Array Nat} (hb : w.heap[b]? = some (.map es clock)) (hr : w.heap[r]? = some (.mapIter m a s c)) : leftB w b r = (leftOf es s).size := by
  unfold leftB leftOf
  rw [hb, hr]
  simp only
  rw [List.filter_map, List.length_map, ← Array.length_toList, Array.toList_filter]
  rfl
/-- Block r is an iterator over the map in block b, whose entries are l; the keys in D have been handed out. -/
def RG (w : World) (b r : Nat) (l : List (Int × Value)) (D : List Int) : Prop :=
  ∃ es clock since seen c0, w.heap[b]? = some (.map es clock) ∧ w.heap[r]? = some (.mapIter (some b) since seen c0) ∧ Stamped es clock ∧ kvs es = kvl l ∧ (∀ p ∈ l, (Lit.int .i64 p.1).wf = true) ∧
    (∀ x ∈ es.toList, x.born < since) ∧ since ≤ c0 ∧ since ≤ clock ∧ ∀ e ∈ es.toList, ∀ k, e.key = .int .i64 k → (seen.contains e.born = true ↔ k ∈ D)
section
variable {P : Program} {w w1 : World} {b r : Nat} {l : List (Int × Value)} {D : List Int} {t e kt : TypeId}
theorem RG.ml (h : RG w b r l D) : ML w b l := by
  obtain ⟨es, cl, _, _, _, h1, _, h3, h4, h5, _⟩ := h
  exact ⟨es, cl, h1, h3, h4, h5⟩
theorem RG.lt (h : RG w b r l D) : r < w.heap.size := by obtain ⟨_, _, _, _, _, _, h2, _⟩ := h; exact (Array.getElem?_eq_some_iff.1 h2).1
theorem RG.fp {S : Nat → Prop} (h : RG w b r l D) (hf : Fp S w w1) (hb : ¬ S b) (hr : ¬ S r) : RG w1 b r l D ∧ leftB w1 b r = leftB w b r := by
  have l1 := h.ml.lt
  have l2 := h.lt
  obtain ⟨es, cl, si, se, c0, h1, h2, h3⟩ := h
  have e1 := (hf.block b l1 hb).trans h1
  have e2 := (hf.block r l2 hr).trans h2
  exact ⟨⟨es, cl, si, se, c0, e1, e2, h3⟩, by rw [leftB_eq e1 e2, leftB_eq h1 h2]⟩
/-- 'range m'. -/
theorem RG.start (h : ML w b l) (ht : P.underlying t = some (.map kt e)) :
    ∃ w', (Instr.range t (.map (some b))).run P w = .ok (.pointer (some ⟨w.heap.size, 0, none⟩)) w' ∧ RG w' b w.heap.size l [] ∧ Below w.heap.size w w' := by
  have hl := h.lt
  obtain ⟨es, cl, h1, h2, h3, h4⟩ := h
  refine ⟨_, run_range_map w t kt e b es cl ht h1, ⟨es, cl, cl, #[], cl, (heap_alloc_old w _ hl).trans h1, heap_alloc_new w _, h2, h3, h4, ((stamped_iff es cl).1 h2).1, Nat.le_refl _, Nat.le_refl _, fun x _ k _ => by simp⟩, (Below.refl _ _).alloc (Nat.le_refl _) _⟩
theorem fp_setIter {m : Option Nat} {s c : Nat} {seen : Array Nat} (hr : w.heap[r]? = some (.mapIter m s seen c)) (o : Obj) : Fp (fun j => j = r) w (setBlock w r o) ∧ (setBlock w r o).heap[r]? = some o := by
  have hl := (Array.getElem?_eq_some_iff.1 hr).1
  refine ⟨⟨rfl, rfl, rfl, by simp [setBlock], fun k _ hk => ?_⟩, ?_⟩
  · simp only [setBlock]
    rw [Array.getElem?_setIfInBounds_ne (fun e => hk e.symm)]
  · simp [setBlock, hl]
theorem pw_ne {es : List MapEntry} (h : es.Pairwise (fun x y => x.key ≠ y.key)) {x y : MapEntry} (hx : x ∈ es) (hy : y ∈ es) (hn : x ≠ y) : x.key ≠ y.key := by
  induction es with
  | nil => cases hx
  | cons a r ih =>
    obtain ⟨h1, h2⟩ := List.pairwise_cons.1 h
    rcases List.mem_cons.1 hx with rfl | hx1
    · rcases List.mem_cons.1 hy with rfl | hy
      · exact absurd rfl hn
      · exact h1 y hy
    · rcases List.mem_cons.1 hy with rfl | hy1
      · exact (h1 x hx1).symm
      · exact ih h2 hx1 hy1
/-- The step. -/
theorem RG.next (h : RG w b r l D) (ty : TypeId) :
    ((∀ k ∈ keys l, k ∈ D) ∧ (Instr.next (.pointer (some ⟨r, 0, none⟩)) false ty).run P w = .ok (.tuple #[.bool false]) w) ∨
    ∃ k v w', lookE l k = some v ∧ k ∉ D ∧ (Lit.int .i64 k).wf = true ∧ (Instr.next (.pointer (some ⟨r, 0, none⟩)) false ty).run P w = .ok (.tuple #[.bool true, .int .i64 k, v]) w' ∧ RG w' b r l (k :: D) ∧ Fp (fun j => j = r) w w' ∧ leftB w' b r < leftB w b r ∧
      (Instr.entry (.pointer (some ⟨r, 0, none⟩))).run P w' = .ok (.tuple #[.int .i64 k, v]) w' := by
  have hnod := h.ml.nodup
  obtain ⟨es, cl, si, se, c0, h1, h2, h3, h4, h5, h6, h7, h8, h9⟩ := h
  have hkey : ∀ x ∈ es.toList, ∃ k, x.key = .int .i64 k ∧ (k, x.val) ∈ l := by
    intro x hx
    have : (x.key, x.val) ∈ kvl l := by rw [← h4]; exact List.mem_map.2 ⟨x, hx, rfl⟩
    obtain ⟨p, hp, e1⟩ := List.mem_map.1 this
    injection e1 with e1 e2
    exact ⟨p.1, e1.symm, by rw [← e2]; exact hp⟩
  rcases run_next_at (P := P) w ty r b si c0 se es cl h2 h1 h6 h7 with ⟨h0, hrun⟩ | ⟨x, hx, w0, hw0, hrun⟩
  · refine .inl ⟨fun k hk => ?_, hrun⟩
    obtain ⟨p, hp, rfl⟩ := List.mem_map.1 hk
    have : (Value.int .i64 p.1, p.2) ∈ kvs es := by rw [h4]; exact List.mem_map.2 ⟨p, hp, rfl⟩
    obtain ⟨y, hy, e2⟩ := List.mem_map.1 this
    injection e2 with e2 e3
    exact (h9 y hy p.1 e2).1 (all_seen es se h0 y hy)
  · obtain ⟨hm, hs⟩ := mem_left hx
    obtain ⟨k, hk, hkl⟩ := hkey x hm
    have hr0 : w0.heap[r]? = some (.mapIter (some b) si se c0) := by rcases hw0 with rfl | rfl <;> exact h2
    have hb0 : w0.heap[b]? = some (.map es cl) := by rcases hw0 with rfl | rfl <;> exact h1
    have hf0 : Fp (fun j => j = r) w w0 := by rcases hw0 with rfl | rfl; exact Fp.refl _ _; exact (Fp.refl _ _).drew
    obtain ⟨hf, hr1⟩ := fp_setIter hr0 (.mapIter (some b) si (se.push x.born) cl)
    have hne : b ≠ r := by intro e; subst e; rw [h1] at h2; cases h2
    have hb1 := (hf.block b (Array.getElem?_eq_some_iff.1 hb0).1 hne).trans hb0
    have hst := (stamped_iff es cl).1 h3
    refine .inr ⟨k, x.val, _, lookE_of_mem hnod hkl, fun hd => ?_, h5 _ hkl, by rw [hrun, hk], ⟨es, cl, si, se.push x.born, cl, hb1, hr1, h3, h4, h5, h6, h8, h8, fun y hy j hj => ?_⟩, hf0.trans hf, ?_, ?_⟩
    · have := (h9 x hm k hk).2 hd
      rw [hs] at this
      cases this
    · rw [List.mem_cons, ← h9 y hy j hj, Array.contains_push]
      constructor
      · intro hc
        rcases Bool.or_eq_true_iff.1 hc with hc | hc
        · exact .inr hc
        · left
          have hyx : y.born = x.born := by simpa using hc
          have : y = x := by
            have := find_born y es.toList hst.2.1 hy
            have h2 := find_born x es.toList hst.2.1 hm
            rw [hyx] at this
            exact Option.some.inj (this.symm.trans h2)
          rw [this, hk] at hj
          injection hj with _ hj
          exact hj.symm
      · rintro (rfl | hc)
        · have hyx : y = x := by
            have hp := hst.2.2
            rcases Classical.em (y = x) with e | e
            · exact e
            · exact absurd (hj.trans hk.symm) (pw_ne hp hy hm e)
          rw [hyx]
          simp
        · rw [hc]; simp
    · rw [leftB_eq hb1 hr1, leftB_eq h1 h2]
      exact left_shrinks es se x hx
    · rw [← hk]
      exact run_entry_at _ r b si se es cl x hr1 hb1 hm hst.2.1
/-- 'm[k] = v' where k is there. -/
theorem RG.update (h : RG w b r l D) (K : Keyed P kt) (hk : P.underlying kt = some (.int .i64)) (ht : P.underlying t = some (.map kt e)) {k : Int} {u : Value} (hl : lookE l k = some u) (v : Value) :
    ∃ w', (Instr.mapUpdate t (.map (some b)) (.int .i64 k) v).run P w = .ok () w' ∧ RG w' b r (putE l k v) D ∧ Fp (fun j => j = b) w w' ∧ leftB w' b r = leftB w b r := by
  have hn := h.ml.nodup
  have hkw := h.ml.wf _ (lookE_mem hl)
  obtain ⟨es, cl, si, se, c0, hb, hr, hs, hkv, hw, h6, h7, h8, h9⟩ := h
  have hwf : ∀ p ∈ putE l k v, (Lit.int .i64 p.1).wf = true := by
    intro p hp
    have : p.1 ∈ keys (putE l k v) := List.mem_map.2 ⟨p, hp, rfl⟩
    rw [keys_putE, if_neg (by rw [hl]; exact fun e => by cases e)] at this
    obtain ⟨q, hq, e⟩ := List.mem_map.1 this; rw [← e]; exact hw q hq
  have hne : r ≠ b := by intro e; subst e; rw [hr] at hb; cases hb
  rcases ML.find (es := es) K hk hkv hw hn hkw w with ⟨h1, h2, h3⟩ | ⟨i, u, e0, hi, h1, h2, h3, h4, h5⟩
  · rw [hl] at h1; cases h1
  · have hil : i < es.size := by have := (List.getElem?_eq_some_iff.1 h3).1; simpa using this
    have hie : es[i]? = some e0 := by rw [← Array.getElem?_toList]; exact h3
    have hbn : ((es.modify i fun e => { e with key := .int .i64 k, val := v }).toList).map (·.born) = es.toList.map (·.born) := by
      rw [Array.toList_modify, modify_eq_set _ _ _ _ h3, List.map_set]
      apply List.ext_getElem?
      intro j
      rw [List.getElem?_set]
      split
      · next e =>
        subst e
        simp only [List.getElem?_map, h3, Option.map_some, List.length_map, Array.length_toList, hil, if_true]
      · rfl
    have hmem : ∀ x ∈ (es.modify i fun e => { e with key := .int .i64 k, val := v }).toList, ∃ y ∈ es.toList, x.born = y.born ∧ x.key = y.key := by
      intro x hx
      rw [Array.toList_modify, modify_eq_set _ _ _ _ h3] at hx
      rcases List.mem_or_eq_of_mem_set hx with hx | rfl
      · exact ⟨x, hx, rfl, rfl⟩
      · exact ⟨e0, List.mem_of_getElem? h3, rfl, h4.symm⟩
    have hf := fp_setBlock hb (.map (es.modify i fun e => { e with key := .int .i64 k, val := v }) cl)
    have hb1 := heap_setBlock_same hb (.map (es.modify i fun e => { e with key := .int .i64 k, val := v }) cl)
    have hr1 := (hf.block r (Array.getElem?_eq_some_iff.1 hr).1 hne).trans hr
    refine ⟨_, ?_, ⟨_, _, si, se, c0, hb1, hr1, stamped_modify hs i _ (fun e _ => rfl) (fun e _ he => ?_), ?_, hwf, fun x hx => ?_, h7, h8, fun x hx j hj => ?_⟩, hf, ?_⟩
    · have hst := K.stays w (Maps.keyOf_int_mk hk hkw)
      simp [Instr.mapUpdate, run_underlying ht, MapKept.run_getObj_map hb, K.check w _ (Maps.keyOf_int_mk hk hkw), h2, hie, h4, hst, MapKept.run_setObj_map _ hb, Result.andThen, setBlock]
    · rw [hie] at he
      injection he with he
      rw [← he, h4]
    · rw [putE_idx hn hi]
      unfold kvs kvl at *
      rw [Array.toList_modify, modify_eq_set _ _ _ _ h3, List.map_set, List.map_set, hkv]
    · obtain ⟨y, hy, e1, e2⟩ := hmem x hx
      rw [e1]; exact h6 y hy
    · obtain ⟨y, hy, e1, e2⟩ := hmem x hx
      rw [e1]; exact h9 y hy j (e2 ▸ hj)
    · unfold leftB
      rw [hb1, hr1, hb, hr]
      simp only [hbn]
end
end Go.Proofs.Ytdobpieiobikpaa.Mem
