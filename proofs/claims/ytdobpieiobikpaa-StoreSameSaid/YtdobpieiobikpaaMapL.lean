/- Words for maps keyed by int, entry by entry: a map in memory as a list of keys and values, in the row in which they were put. Plain lemmas over any program; no condition. -/
import Derived.Test.YtdobpieiobikpaaFoot
import Derived.Maps.Keyed
import Derived.ChangeMaps5
import Derived.MapKept
import Derived.Carry
namespace Go.Proofs.Ytdobpieiobikpaa.Mem
open Go Go.RowKit Go.Proofs.YtdobpieiobikpaaW.PrintWords Go.MapKept Go.ChangeMaps
open Go.Maps (Keyed)
set_option linter.unusedVariables false
section
variable {α β : Type}
/-- The value at a key. -/
def lookE : List (Int × α) → Int → Option α
  | [], _ => none
  | p :: r, k => if p.1 = k then some p.2 else lookE r k
/-- A key's value is set; a new key comes last. -/
def putE : List (Int × α) → Int → α → List (Int × α)
  | [], k, v => [(k, v)]
  | p :: r, k, v => if p.1 = k then (k, v) :: r else p :: putE r k v
/-- A key is taken away. -/
def delE : List (Int × α) → Int → List (Int × α)
  | [], _ => []
  | p :: r, k => if p.1 = k then r else p :: delE r k
def keys (l : List (Int × α)) : List Int := l.map (·.1)
theorem lookE_none {l : List (Int × α)} {k : Int} : lookE l k = none ↔ k ∉ keys l := by
  induction l with
  | nil => simp [lookE, keys]
  | cons p r ih =>
    simp only [lookE, keys, List.map_cons, List.mem_cons]
    split
    · next h => simp [h]
    · next h => rw [ih]; unfold keys; simp; exact fun _ e => h e.symm
theorem lookE_idx {l : List (Int × α)} {k : Int} {v : α} (h : lookE l k = some v) : ∃ i : Nat, l[i]? = some (k, v) := by
  induction l with
  | nil => cases h
  | cons p r ih =>
    simp only [lookE] at h
    split at h
    · next e => injection h with h; exact ⟨0, by simp [← e, ← h]⟩
    · obtain ⟨i, hi⟩ := ih h; exact ⟨i + 1, by simpa using hi⟩
theorem lookE_mem {l : List (Int × α)} {k : Int} {v : α} (h : lookE l k = some v) : (k, v) ∈ l := by
  obtain ⟨i, hi⟩ := lookE_idx h
  exact List.mem_of_getElem? hi
theorem lookE_of_mem {l : List (Int × α)} (hn : (keys l).Nodup) {k : Int} {v : α} (h : (k, v) ∈ l) : lookE l k = some v := by
  induction l with
  | nil => cases h
  | cons p r ih =>
    simp only [keys, List.map_cons, List.nodup_cons] at hn
    simp only [lookE]
    rcases List.mem_cons.1 h with rfl | h
    · rw [if_pos rfl]
    · rw [if_neg, ih hn.2 h]
      intro e
      exact hn.1 (e ▸ List.mem_map.2 ⟨_, h, rfl⟩)
theorem putE_new {l : List (Int × α)} {k : Int} {v : α} (h : lookE l k = none) : putE l k v = l ++ [(k, v)] := by
  induction l with
  | nil => rfl
  | cons p r ih =>
    simp only [lookE] at h
    split at h
    · cases h
    · next e => simp only [putE, if_neg e, ih h, List.cons_append]
theorem delE_none {l : List (Int × α)} {k : Int} (h : lookE l k = none) : delE l k = l := by
  induction l with
  | nil => rfl
  | cons p r ih =>
    simp only [lookE] at h
    split at h
    · cases h
    · next e => simp only [delE, if_neg e, ih h]
theorem putE_idx {l : List (Int × α)} (hn : (keys l).Nodup) {k : Int} {v u : α} {i : Nat} (h : l[i]? = some (k, u)) : putE l k v = l.set i (k, v) := by
  induction l generalizing i with
  | nil => cases h
  | cons p r ih =>
    simp only [keys, List.map_cons, List.nodup_cons] at hn
    simp only [putE]
    cases i with
    | zero => simp at h; subst h; simp
    | succ i =>
      rw [List.getElem?_cons_succ] at h
      rw [if_neg, ih hn.2 h, List.set_cons_succ]
      intro e
      exact hn.1 (e ▸ List.mem_map.2 ⟨_, List.mem_of_getElem? h, rfl⟩)
theorem delE_idx {l : List (Int × α)} (hn : (keys l).Nodup) {k : Int} {u : α} {i : Nat} (h : l[i]? = some (k, u)) : delE l k = l.eraseIdx i := by
  induction l generalizing i with
  | nil => cases h
  | cons p r ih =>
    simp only [keys, List.map_cons, List.nodup_cons] at hn
    simp only [delE]
    cases i with
    | zero => simp at h; subst h; simp
    | succ i =>
      rw [List.getElem?_cons_succ] at h
      rw [if_neg, ih hn.2 h, List.eraseIdx_cons_succ]
      intro e
      exact hn.1 (e ▸ List.mem_map.2 ⟨_, List.mem_of_getElem? h, rfl⟩)
theorem keys_putE (l : List (Int × α)) (k : Int) (v : α) : keys (putE l k v) = if lookE l k = none then keys l ++ [k] else keys l := by
  induction l with
  | nil => rfl
  | cons p r ih =>
    simp only [putE, lookE]
    split
    · next h => simp [keys, h]
    · next h =>
      simp only [keys, List.map_cons] at ih ⊢
      rw [ih]
      split <;> rfl
theorem keys_delE (l : List (Int × α)) (k : Int) : keys (delE l k) = (keys l).erase k := by
  induction l with
  | nil => rfl
  | cons p r ih =>
    simp only [delE]
    split
    · next h => simp [keys, h]
    · next h =>
      simp only [keys, List.map_cons] at ih ⊢
      rw [ih, List.erase_cons_tail (by simpa using h)]
theorem nodup_putE {l : List (Int × α)} (h : (keys l).Nodup) (k : Int) (v : α) : (keys (putE l k v)).Nodup := by
  rw [keys_putE]
  split
  · next hl =>
    rw [List.nodup_append]
    refine ⟨h, by simp, fun a ha b hb => ?_⟩
    simp at hb
    subst hb
    intro e
    subst e
    exact lookE_none.1 hl ha
  · exact h
theorem nodup_delE {l : List (Int × α)} (h : (keys l).Nodup) (k : Int) : (keys (delE l k)).Nodup := by rw [keys_delE]; exact h.erase _
theorem lookE_put (l : List (Int × α)) (k : Int) (v : α) (j : Int) : lookE (putE l k v) j = if j = k then some v else lookE l j := by
  induction l with
  | nil =>
    simp only [putE, lookE]
    by_cases h : k = j
    · subst h; simp
    · rw [if_neg h, if_neg (fun e => h e.symm)]
  | cons p r ih =>
    simp only [putE]
    split
    · next h =>
      simp only [lookE]
      by_cases e : k = j
      · subst e; simp
      · rw [if_neg e, if_neg (fun e2 => e e2.symm), if_neg (fun e2 => e (h.symm.trans e2))]
    · next h =>
      simp only [lookE]
      by_cases e : p.1 = j
      · rw [if_pos e, if_pos e, if_neg (fun e2 => h (e.trans e2))]
      · rw [if_neg e, if_neg e, ih]
theorem lookE_del {l : List (Int × α)} (hn : (keys l).Nodup) (k j : Int) : lookE (delE l k) j = if j = k then none else lookE l j := by
  induction l with
  | nil => simp [delE, lookE]
  | cons p r ih =>
    simp only [keys, List.map_cons, List.nodup_cons] at hn
    simp only [delE]
    split
    · next h =>
      by_cases e : j = k
      · subst e
        rw [if_pos rfl]
        exact lookE_none.2 (h ▸ hn.1)
      · rw [if_neg e]
        simp only [lookE]
        rw [if_neg (fun e2 => e (e2.symm.trans h))]
    · next h =>
      simp only [lookE]
      by_cases e : p.1 = j
      · rw [if_pos e, if_pos e, if_neg (fun e2 => h (e.trans e2))]
      · rw [if_neg e, if_neg e, ih hn.2]
theorem lookE_map (f : α → β) (l : List (Int × α)) (k : Int) : lookE (l.map fun p => (p.1, f p.2)) k = (lookE l k).map f := by
  induction l with
  | nil => rfl
  | cons p r ih =>
    simp only [List.map_cons, lookE]
    split
    · rfl
    · exact ih
theorem putE_map (f : α → β) (l : List (Int × α)) (k : Int) (v : α) : putE (l.map fun p => (p.1, f p.2)) k (f v) = (putE l k v).map fun p => (p.1, f p.2) := by
  induction l with
  | nil => rfl
  | cons p r ih =>
    simp only [List.map_cons, putE]
    split
    · rfl
    · simp [ih]
theorem delE_map (f : α → β) (l : List (Int × α)) (k : Int) : delE (l.map fun p => (p.1, f p.2)) k = (delE l k).map fun p => (p.1, f p.2) := by
  induction l with
  | nil => rfl
  | cons p r ih =>
    simp only [List.map_cons, delE]
    split
    · rfl
    · simp [ih]
theorem keys_map (f : α → β) (l : List (Int × α)) : keys (l.map fun p => (p.1, f p.2)) = keys l := by
  unfold keys; rw [List.map_map]; rfl
end
/-! ### in memory -/
def kvs (es : Array MapEntry) : List (Value × Value) := es.toList.map fun e => (e.key, e.val)
def kvl (l : List (Int × Value)) : List (Value × Value) := l.map fun p => (Value.int .i64 p.1, p.2)
/-- Block b is a map with just these entries, in this row. -/
def ML (w : World) (b : Nat) (l : List (Int × Value)) : Prop :=
  ∃ es clock, w.heap[b]? = some (.map es clock) ∧ Stamped es clock ∧ kvs es = kvl l ∧ ∀ p ∈ l, (Lit.int .i64 p.1).wf = true
section
variable {P : Program} {w w1 : World} {b : Nat} {l : List (Int × Value)} {t e kt : TypeId}
theorem ML.lt (h : ML w b l) : b < w.heap.size := by obtain ⟨es, c, hb, _⟩ := h; exact (Array.getElem?_eq_some_iff.1 hb).1
theorem ML.made (w : World) : ML (w.alloc (.map #[] 0)) w.heap.size [] := ⟨#[], 0, heap_alloc_new w _, stamped_empty 0, rfl, by simp⟩
theorem ML.fp {S : Nat → Prop} (h : ML w b l) (hf : Fp S w w1) (hb : ¬ S b) : ML w1 b l := by
  have hl := h.lt
  obtain ⟨es, c, h1, h2⟩ := h
  exact ⟨es, c, (hf.block b hl hb).trans h1, h2⟩
theorem ML.go (h : ML w b l) (hb : Below w.heap.size w w1) : ML w1 b l := h.fp (Fp.of_below hb (fun _ => False)) (fun e => e)
theorem ML.nodup (h : ML w b l) : (keys l).Nodup := by
  obtain ⟨es, c, _, hs, hk, _⟩ := h
  have h3 := ((stamped_iff es c).1 hs).2.2
  have e1 : es.toList.map (·.key) = (keys l).map (Value.int .i64) := by
    have := congrArg (List.map Prod.fst) hk
    simpa [kvs, kvl, keys, List.map_map, Function.comp_def] using this
  have h4 : (es.toList.map (·.key)).Pairwise (· ≠ ·) := List.pairwise_map.2 h3
  rw [e1, List.pairwise_map] at h4
  exact h4.imp (fun h e => h (by rw [e]))
theorem ML.wf (h : ML w b l) : ∀ p ∈ l, (Lit.int .i64 p.1).wf = true := by obtain ⟨_, _, _, _, _, h⟩ := h; exact h
theorem kv_at {es : Array MapEntry} (h : kvs es = kvl l) (i : Nat) : (es.toList[i]?).map (fun e => (e.key, e.val)) = (l[i]?).map (fun p => (Value.int .i64 p.1, p.2)) := by
  have := congrArg (fun x => x[i]?) h
  simpa [kvs, kvl] using this
theorem ML.find (K : Keyed P kt) (hk : P.underlying kt = some (.int .i64)) {es : Array MapEntry} (hkv : kvs es = kvl l) (hw : ∀ p ∈ l, (Lit.int .i64 p.1).wf = true) (hn : (keys l).Nodup) {k : Int} (hkw : (Lit.int .i64 k).wf = true) (W : World) :
    (lookE l k = none ∧ (Instr.findKey kt (.int .i64 k) es.toList).run P W = .ok none W ∧ ∀ e ∈ es.toList, e.key ≠ .int .i64 k) ∨
    ∃ (i : Nat) (v : Value) (e : MapEntry), l[i]? = some (k, v) ∧ lookE l k = some v ∧ (Instr.findKey kt (.int .i64 k) es.toList).run P W = .ok (some (i, v)) W ∧ es.toList[i]? = some e ∧ e.key = .int .i64 k ∧ e.val = v := by
  have hkey := Maps.keyOf_int_mk hk hkw
  have hall : ∀ e ∈ es.toList, ∃ l', keyOf P kt e.key = some l' := by
    intro e he
    have : (e.key, e.val) ∈ kvl l := by rw [← hkv]; exact List.mem_map.2 ⟨e, he, rfl⟩
    obtain ⟨p, hp, e1⟩ := List.mem_map.1 this
    injection e1 with e1 e2
    rw [← e1]
    exact ⟨_, Maps.keyOf_int_mk hk (hw p hp)⟩
  rcases K.find W hkey es.toList hall with ⟨h1, h2⟩ | ⟨i, e, h1, h2, h3⟩
  · refine .inl ⟨lookE_none.2 fun hm => ?_, h1, h2⟩
    obtain ⟨p, hp, e1⟩ := List.mem_map.1 hm
    have : (Value.int .i64 p.1, p.2) ∈ kvs es := by rw [hkv]; exact List.mem_map.2 ⟨p, hp, rfl⟩
    obtain ⟨e, he, e2⟩ := List.mem_map.1 this
    injection e2 with e2 e3
    exact h2 e he (by rw [e2, e1])
  · have ha := kv_at hkv i
    rw [h2, Option.map_some] at ha
    cases hl : l[i]? with
    | none => rw [hl] at ha; cases ha
    | some p =>
      rw [hl, Option.map_some] at ha
      injection ha with ha
      injection ha with ha1 ha2
      rw [h3] at ha1
      injection ha1 with _ ha1
      obtain ⟨pk, pv⟩ := p
      simp only at ha1 ha2
      subst ha1
      refine .inr ⟨i, pv, e, hl, lookE_of_mem hn (List.mem_of_getElem? hl), by rw [← ha2]; exact h1, h2, h3, ha2⟩
/-- 'm[k]', with or without 'ok'. -/
theorem ML.lookup (h : ML w b l) (K : Keyed P kt) (hk : P.underlying kt = some (.int .i64)) (ht : P.underlying t = some (.map kt e)) {z : Value} (hz : (zeroValue e).run P w = .ok z w) (c : Bool) {k : Int} (hkw : (Lit.int .i64 k).wf = true) :
    (Instr.lookup t (.map (some b)) (.int .i64 k) c).run P w = .ok (if c then .tuple #[(lookE l k).getD z, .bool (lookE l k).isSome] else (lookE l k).getD z) w := by
  have hn := h.nodup
  obtain ⟨es, clock, hb, hs, hkv, hw⟩ := h
  rcases ML.find (es := es) K hk hkv hw hn hkw w with ⟨h1, h2, _⟩ | ⟨i, v, e0, _, h1, h2, _⟩
  · rw [h1]
    simp [Instr.lookup, run_underlying ht, MapKept.run_getObj_map hb, K.check w _ (Maps.keyOf_int_mk hk hkw), h2, hz, Result.andThen]
  · rw [h1]
    simp [Instr.lookup, run_underlying ht, MapKept.run_getObj_map hb, K.check w _ (Maps.keyOf_int_mk hk hkw), h2, Result.andThen]
theorem fp_setBlock {es : Array MapEntry} {clock : Nat} (hb : w.heap[b]? = some (.map es clock)) (o : Obj) : Fp (fun j => j = b) w (setBlock w b o) :=
  ⟨rfl, rfl, rfl, by simp [setBlock], fun k _ hk => heap_setBlock_other hb o hk⟩
/-- 'm[k] = v'. -/
theorem ML.update (h : ML w b l) (K : Keyed P kt) (hk : P.underlying kt = some (.int .i64)) (ht : P.underlying t = some (.map kt e)) {k : Int} (hkw : (Lit.int .i64 k).wf = true) (v : Value) :
    ∃ w', (Instr.mapUpdate t (.map (some b)) (.int .i64 k) v).run P w = .ok () w' ∧ ML w' b (putE l k v) ∧ Fp (fun j => j = b) w w' := by
  have hn := h.nodup
  obtain ⟨es, clock, hb, hs, hkv, hw⟩ := h
  have hwf : ∀ p ∈ putE l k v, (Lit.int .i64 p.1).wf = true := by
    intro p hp
    have : p.1 ∈ keys (putE l k v) := List.mem_map.2 ⟨p, hp, rfl⟩
    rw [keys_putE] at this
    split at this
    · rcases List.mem_append.1 this with h | h
      · obtain ⟨q, hq, e⟩ := List.mem_map.1 h; rw [← e]; exact hw q hq
      · simp at h; rw [h]; exact hkw
    · obtain ⟨q, hq, e⟩ := List.mem_map.1 this; rw [← e]; exact hw q hq
  rcases ML.find (es := es) K hk hkv hw hn hkw w with ⟨h1, h2, h3⟩ | ⟨i, u, e0, hi, h1, h2, h3, h4, h5⟩
  · refine ⟨setBlock w b (.map (es.push ⟨.int .i64 k, v, clock⟩) (clock + 1)), ?_, ⟨_, _, heap_setBlock_same hb _, stamped_push hs h3, ?_, hwf⟩, fp_setBlock hb _⟩
    · simp [Instr.mapUpdate, run_underlying ht, MapKept.run_getObj_map hb, K.check w _ (Maps.keyOf_int_mk hk hkw), h2, MapKept.run_setObj_map _ hb, Result.andThen, setBlock]
    · rw [putE_new h1]
      unfold kvs kvl at *
      rw [Array.toList_push, List.map_append, hkv, List.map_append]
      rfl
  · have hil : i < es.size := by have := (List.getElem?_eq_some_iff.1 h3).1; simpa using this
    have hie : es[i]? = some e0 := by rw [← Array.getElem?_toList]; exact h3
    refine ⟨setBlock w b (.map (es.modify i fun e => { e with key := .int .i64 k, val := v }) clock), ?_, ⟨_, _, heap_setBlock_same hb _, stamped_modify hs i _ (fun e _ => rfl) (fun e _ he => ?_), ?_, hwf⟩, fp_setBlock hb _⟩
    · have hst := K.stays w (Maps.keyOf_int_mk hk hkw)
      simp [Instr.mapUpdate, run_underlying ht, MapKept.run_getObj_map hb, K.check w _ (Maps.keyOf_int_mk hk hkw), h2, hie, h4, hst, MapKept.run_setObj_map _ hb, Result.andThen, setBlock]
    · rw [hie] at he
      injection he with he
      rw [← he, h4]
    · rw [putE_idx hn hi]
      unfold kvs kvl at *
      rw [Array.toList_modify, modify_eq_set _ _ _ _ h3, List.map_set, List.map_set, hkv]
/-- 'delete(m, k)'. -/
theorem ML.delete (h : ML w b l) (K : Keyed P kt) (hk : P.underlying kt = some (.int .i64)) (ht : P.underlying t = some (.map kt e)) {k : Int} (hkw : (Lit.int .i64 k).wf = true) (ty : TypeId) :
    ∃ w', (Builtin.delete_ #[t, kt] ty #[.map (some b), .int .i64 k]).run P w = .ok (.tuple #[]) w' ∧ ML w' b (delE l k) ∧ Fp (fun j => j = b) w w' := by
  have hn := h.nodup
  obtain ⟨es, clock, hb, hs, hkv, hw⟩ := h
  rcases ML.find (es := es) K hk hkv hw hn hkw w with ⟨h1, h2, h3⟩ | ⟨i, u, e0, hi, h1, h2, h3, h4, h5⟩
  · refine ⟨setBlock w b (.map es clock), ?_, ⟨_, _, heap_setBlock_same hb _, hs, by rw [delE_none h1]; exact hkv, by rw [delE_none h1]; exact hw⟩, fp_setBlock hb _⟩
    simp [Builtin.delete_, run_underlying ht, MapKept.run_getObj_map hb, K.check w _ (Maps.keyOf_int_mk hk hkw), h2, MapKept.run_setObj_map _ hb, Result.andThen, setBlock]
  · have hil : i < es.size := by have := (List.getElem?_eq_some_iff.1 h3).1; simpa using this
    have hsub : (es.eraseIdxIfInBounds i).toList = es.toList.eraseIdx i := by
      unfold Array.eraseIdxIfInBounds
      rw [dif_pos hil]
      simp
    refine ⟨setBlock w b (.map (es.eraseIdxIfInBounds i) clock), ?_, ⟨_, _, heap_setBlock_same hb _, stamped_erase hs i, ?_, ?_⟩, fp_setBlock hb _⟩
    · simp [Builtin.delete_, run_underlying ht, MapKept.run_getObj_map hb, K.check w _ (Maps.keyOf_int_mk hk hkw), h2, MapKept.run_setObj_map _ hb, Result.andThen, setBlock]
    · rw [delE_idx hn hi]
      unfold kvs kvl at *
      rw [hsub, map_eraseIdx, map_eraseIdx, hkv]
    · rw [delE_idx hn hi]
      exact fun p hp => hw p ((List.eraseIdx_sublist l i).subset hp)
end
end Go.Proofs.Ytdobpieiobikpaa.Mem
