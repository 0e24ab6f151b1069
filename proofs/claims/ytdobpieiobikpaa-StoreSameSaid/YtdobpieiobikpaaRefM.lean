/- The document's store in memory. Plain lemmas. Conditions: as each lemma says. -/
import Derived.Test.YtdobpieiobikpaaAts
import Derived.Test.YtdobpieiobikpaaNums
set_option linter.unusedVariables false
set_option linter.unusedSimpArgs false
namespace Go.Proofs.Ytdobpieiobikpaa.Base
open Go Go.RowKit Go.Proofs.Ytdobpieiobikpaa.Mem Go.Proofs.YtdobpieiobikpaaW.PrintWords Go.Proofs.YtdobpieiobikpaaW.PrintLast
/-! ### rows of elements of several cells -/
section
variable {α : Type} {f : α → List Value} {s : Nat}
theorem flat_len (hf : ∀ x, (f x).length = s) (l : List α) : (l.flatMap f).length = l.length * s := by
  induction l with
  | nil => simp
  | cons p r ih => rw [List.flatMap_cons, List.length_append, ih, hf, List.length_cons, Nat.succ_mul, Nat.add_comm]
theorem flat_at (hf : ∀ x, (f x).length = s) (l : List α) (i : Nat) {x : α} (h : l[i]? = some x) (j : Nat) (hj : j < s) : (l.flatMap f)[i * s + j]? = (f x)[j]? := by
  induction l generalizing i with
  | nil => cases h
  | cons p r ih =>
    rw [List.flatMap_cons]
    cases i with
    | zero =>
      simp at h
      subst h
      rw [Nat.zero_mul, Nat.zero_add, List.getElem?_append_left (by rw [hf]; exact hj)]
    | succ i =>
      rw [List.getElem?_cons_succ] at h
      rw [List.getElem?_append_right (by rw [hf, Nat.succ_mul]; omega), hf, show (i + 1) * s + j - s = i * s + j by rw [Nat.succ_mul]; omega]
      exact ih i h
theorem flat_take (hf : ∀ x, (f x).length = s) (l : List α) (i : Nat) : (l.take i).flatMap f = (l.flatMap f).take (i * s) := by
  induction l generalizing i with
  | nil => simp
  | cons p r ih =>
    cases i with
    | zero => simp
    | succ i => rw [List.take_succ_cons, List.flatMap_cons, List.flatMap_cons, ih, List.take_append, hf, List.take_of_length_le (l := f p) (by rw [hf, Nat.succ_mul]; omega), show (i + 1) * s - s = i * s by rw [Nat.succ_mul]; omega]
theorem flat_drop (hf : ∀ x, (f x).length = s) (l : List α) (i : Nat) : (l.drop i).flatMap f = (l.flatMap f).drop (i * s) := by
  induction l generalizing i with
  | nil => simp
  | cons p r ih =>
    cases i with
    | zero => simp
    | succ i => rw [List.drop_succ_cons, List.flatMap_cons, ih, List.drop_append, hf, List.drop_of_length_le (l := f p) (by rw [hf, Nat.succ_mul]; omega), show (i + 1) * s - s = i * s by rw [Nat.succ_mul]; omega, List.nil_append]
theorem flat_set (hf : ∀ x, (f x).length = s) (l : List α) (i : Nat) {x y : α} (h : l[i]? = some x) (j : Nat) (hj : j < s) (u : Value) (hy : f y = (f x).set j u) : (l.set i y).flatMap f = (l.flatMap f).set (i * s + j) u := by
  induction l generalizing i with
  | nil => cases h
  | cons p r ih =>
    cases i with
    | zero =>
      simp at h
      subst h
      rw [List.set_cons_zero, List.flatMap_cons, List.flatMap_cons, hy, List.set_append_left _ _ (by rw [hf]; omega), Nat.zero_mul, Nat.zero_add]
    | succ i =>
      rw [List.getElem?_cons_succ] at h
      rw [List.set_cons_succ, List.flatMap_cons, List.flatMap_cons, ih i h, List.set_append_right _ _ (by rw [hf, Nat.succ_mul]; omega), hf, show (i + 1) * s + j - s = i * s + j by rw [Nat.succ_mul]; omega]
end
def cCells (p : Int × (Int × Int)) : List Value := [.int .i64 p.1, .int .u64 p.2.1, .int .u64 p.2.2]
def rCells (p : Int × RowE) : List Value := [.int .i64 p.1, rVal p.2]
def cc (c : List (Int × (Int × Int))) : List Value := c.flatMap cCells
def rc (r : List (Int × RowE)) : List Value := r.flatMap rCells
theorem cc_f (x : Int × (Int × Int)) : (cCells x).length = 3 := rfl
theorem rc_f (x : Int × RowE) : (rCells x).length = 2 := rfl
theorem cc_one (c : List (Int × (Int × Int))) : ∀ u ∈ cc c, u.oneCell' = true := fun u hu => by
  obtain ⟨p, _, h⟩ := List.mem_flatMap.1 hu
  simp [cCells] at h
  rcases h with rfl | rfl | rfl <;> rfl
theorem rc_one (r : List (Int × RowE)) : ∀ u ∈ rc r, u.oneCell' = true := fun u hu => by
  obtain ⟨p, _, h⟩ := List.mem_flatMap.1 hu
  simp [rCells] at h
  rcases h with rfl | rfl <;> rfl
/-! ### the store -/
structure RM (w : World) (a : Nat) (vC vR : Value) (S : St) (rr : List (Int × RowE)) : Prop where
  box : Blk w a 48 #[vC, vR]
  cm : w.ownsRow 0 82 3 vC S.c.length (cc S.c)
  rm : w.ownsRow 0 80 2 vR rr.length (rc rr)
  rows : ∀ p ∈ rr, w.ownsRow 0 22 1 (rVal p.2) p.2.xs.length (p.2.xs.map (Value.int .u64))
  nd : (rr.map (·.2.g)).Nodup
  abs : S.r = absR rr
  ok : S.ok
def ROwn (a : Nat) (vC vR : Value) (rr : List (Int × RowE)) (k : Nat) : Prop := k = a ∨ vC.ownBlock = some k ∨ vR.ownBlock = some k ∨ k ∈ rr.map (·.2.g)
def Rto (w : World) (a : Nat) (O : Nat → Prop) (S : St) : Prop := (∀ k, O k → k < w.heap.size) ∧ ∃ vC vR rr, RM w a vC vR S rr ∧ ∀ k, ROwn a vC vR rr k → O k
section
variable {w w1 : World} {a : Nat} {vC vR : Value} {S : St} {rr : List (Int × RowE)} {O T : Nat → Prop}
theorem RM.fp (h : RM w a vC vR S rr) (hf : Fp T w w1) (hd : ∀ k, ROwn a vC vR rr k → ¬ T k) : RM w1 a vC vR S rr :=
  ⟨h.box.fp hf (hd a (.inl rfl)), own_fp h.cm hf (fun k e => hd k (.inr (.inl e))), own_fp h.rm hf (fun k e => hd k (.inr (.inr (.inl e)))),
    fun p hp => own_fp (h.rows p hp) hf (fun k e => hd k (.inr (.inr (.inr (by injection e with e; rw [← e]; exact List.mem_map.2 ⟨p, hp, rfl⟩))))), h.nd, h.abs, h.ok⟩
theorem RM.go (h : RM w a vC vR S rr) (hb : Below w.heap.size w w1) : RM w1 a vC vR S rr := h.fp (Fp.of_below hb (fun _ => False)) (fun _ _ e => e)
theorem Rto.fp (h : Rto w a O S) (hf : Fp T w w1) (hd : ∀ k, O k → ¬ T k) : Rto w1 a O S := by
  obtain ⟨h1, vC, vR, rr, h2, h3⟩ := h
  exact ⟨fun k hk => Nat.lt_of_lt_of_le (h1 k hk) hf.size, vC, vR, rr, h2.fp hf (fun k hk => hd k (h3 k hk)), h3⟩
theorem Rto.go (h : Rto w a O S) (hb : Below w.heap.size w w1) : Rto w1 a O S := h.fp (Fp.of_below hb (fun _ => False)) (fun _ _ e => e)
theorem Rto.weak (h : Rto w a O S) (hO : ∀ k, O k → T k) (hT : ∀ k, T k → k < w.heap.size) : Rto w a T S := by
  obtain ⟨h1, vC, vR, rr, h2, h3⟩ := h
  exact ⟨hT, vC, vR, rr, h2, fun k hk => hO k (h3 k hk)⟩
theorem Rto.ok (h : Rto w a O S) : S.ok := by obtain ⟨_, _, _, _, h, _⟩ := h; exact h.ok
theorem ROwn.lt (h : RM w a vC vR S rr) {k : Nat} (hk : ROwn a vC vR rr k) : k < w.heap.size := by
  rcases hk with rfl | hk | hk | hk
  · exact h.box.lt
  · exact own_lt h.cm hk
  · exact own_lt h.rm hk
  · obtain ⟨p, hp, rfl⟩ := List.mem_map.1 hk
    exact ((h.rows p hp).lt p.2.g rfl).2
/-- What is owned is a store again, if all of it was owned, or is new. -/
theorem RM.rto (h : RM w1 a vC vR S rr) (hO : ∀ k, O k → k < w.heap.size) (hs : w.heap.size ≤ w1.heap.size) (hk : ∀ k, ROwn a vC vR rr k → O k ∨ w.heap.size ≤ k) : Rto w1 a (Grow O w w1) S := by
  refine ⟨fun k hk' => ?_, vC, vR, rr, h, fun k hk' => ?_⟩
  · rcases hk' with h1 | h1
    · exact Nat.lt_of_lt_of_le (hO k h1) hs
    · exact h1.2
  · rcases hk k hk' with h1 | h1
    · exact .inl h1
    · exact .inr ⟨h1, ROwn.lt h hk'⟩
theorem Rto.same (h : Rto w a O S) (hb : Below w.heap.size w w1) : Rto w1 a (Grow O w w1) S :=
  (h.go hb).weak (fun k hk => .inl hk) (fun k hk => by
    rcases hk with hk | hk
    · exact Nat.lt_of_lt_of_le (h.1 k hk) hb.size
    · exact hk.2)
theorem RM.keysR (h : RM w a vC vR S rr) : (keys rr).Nodup := by rw [← keys_absR, ← h.abs]; exact h.ok.rk
/-- The slice of counters is another one, which was made since. -/
theorem RM.newC {vC' : Value} {c' : List (Int × (Int × Int))} (h : RM w a vC vR S rr) (hb : Below w.heap.size w w1) (hc : w1.ownsRow 0 82 3 vC' c'.length (cc c')) (hok : St.ok { S with c := c' }) :
    RM (w1.setCell ⟨a, 0, none⟩ vC') a vC' vR { S with c := c' } rr ∧ Fp (fun j => j = a) w (w1.setCell ⟨a, 0, none⟩ vC') := by
  have hf1 : Fp (fun j => j = a) w1 (w1.setCell ⟨a, 0, none⟩ vC') := (Fp.refl _ _).set_ _ (fun _ => rfl)
  have h1 := h.go hb
  refine ⟨⟨h1.box.set_ 0 _, own_fp hc hf1 (fun k e e2 => own_type hc h1.box (by decide) (e2 ▸ e)), own_fp h1.rm hf1 (fun k e e2 => own_type h1.rm h1.box (by decide) (e2 ▸ e)), fun p hp => own_fp (h1.rows p hp) hf1 (fun k e e2 => own_type (h1.rows p hp) h1.box (by decide) (e2 ▸ e)), h.nd, h.abs, hok⟩, (Fp.of_below hb _).trans hf1⟩
/-- The slice of rows is another one, which was made since. -/
theorem RM.newR {vR' : Value} {rr' : List (Int × RowE)} (h : RM w a vC vR S rr) (hb : Below w.heap.size w w1) (hc : w1.ownsRow 0 80 2 vR' rr'.length (rc rr')) (hrows : ∀ p ∈ rr', w1.ownsRow 0 22 1 (rVal p.2) p.2.xs.length (p.2.xs.map (Value.int .u64))) (hnd : (rr'.map (·.2.g)).Nodup) (hok : St.ok { S with r := absR rr' }) :
    RM (w1.setCell ⟨a, 1, none⟩ vR') a vC vR' { S with r := absR rr' } rr' ∧ Fp (fun j => j = a) w (w1.setCell ⟨a, 1, none⟩ vR') := by
  have hf1 : Fp (fun j => j = a) w1 (w1.setCell ⟨a, 1, none⟩ vR') := (Fp.refl _ _).set_ _ (fun _ => rfl)
  have h1 := h.go hb
  refine ⟨⟨h1.box.set_ 1 _, own_fp h1.cm hf1 (fun k e e2 => own_type h1.cm h1.box (by decide) (e2 ▸ e)), own_fp hc hf1 (fun k e e2 => own_type hc h1.box (by decide) (e2 ▸ e)), fun p hp => own_fp (hrows p hp) hf1 (fun k e e2 => own_type (hrows p hp) h1.box (by decide) (e2 ▸ e)), hnd, rfl, hok⟩, (Fp.of_below hb _).trans hf1⟩
/-- A counter, where it lies. -/
theorem RM.cAt (h : RM w a vC vR S rr) (i : Nat) {p : Int × (Int × Int)} (hi : S.c[i]? = some p) :
    ∃ g cap, vC = .slice (some ⟨g, 0, none⟩) S.c.length cap ∧ w.cell? ⟨g, i * 3, none⟩ = some (.int .i64 p.1) ∧ w.cell? ⟨g, i * 3 + 1, none⟩ = some (.int .u64 p.2.1) ∧ w.cell? ⟨g, i * 3 + 2, none⟩ = some (.int .u64 p.2.2) ∧ (∀ j, w.frozen? ⟨g, j, none⟩ = false) := by
  have hl : i < S.c.length := (List.getElem?_eq_some_iff.1 hi).1
  have hc := h.cm
  obtain ⟨g, cap, rfl, _, _⟩ := hc.form (by omega)
  refine ⟨g, cap, rfl, ?_, ?_, ?_, fun j => hc.frozenAt j⟩
  · rw [hc.cellAt (i * 3) (by omega)]
    exact flat_at cc_f S.c i hi 0 (by decide)
  · rw [hc.cellAt (i * 3 + 1) (by omega)]
    exact flat_at cc_f S.c i hi 1 (by decide)
  · rw [hc.cellAt (i * 3 + 2) (by omega)]
    exact flat_at cc_f S.c i hi 2 (by decide)
/-- A row, where it lies. -/
theorem RM.rAt (h : RM w a vC vR S rr) (i : Nat) {p : Int × RowE} (hi : rr[i]? = some p) :
    ∃ g cap, vR = .slice (some ⟨g, 0, none⟩) rr.length cap ∧ w.cell? ⟨g, i * 2, none⟩ = some (.int .i64 p.1) ∧ w.cell? ⟨g, i * 2 + 1, none⟩ = some (.slice (some ⟨p.2.g, 0, none⟩) p.2.xs.length p.2.cap) := by
  have hl : i < rr.length := (List.getElem?_eq_some_iff.1 hi).1
  have hc := h.rm
  obtain ⟨g, cap, rfl, _, _⟩ := hc.form (by omega)
  refine ⟨g, cap, rfl, ?_, ?_⟩
  · rw [hc.cellAt (i * 2) (by omega)]
    exact flat_at rc_f rr i hi 0 (by decide)
  · rw [hc.cellAt (i * 2 + 1) (by omega)]
    exact flat_at rc_f rr i hi 1 (by decide)
/-- A register of a row. -/
theorem RM.xAt (h : RM w a vC vR S rr) {p : Int × RowE} (hp : p ∈ rr) (j : Nat) (hj : j < p.2.xs.length) : w.cell? ⟨p.2.g, j, none⟩ = some (.int .u64 p.2.xs[j]) ∧ w.frozen? ⟨p.2.g, j, none⟩ = false := by
  have hro := h.rows _ hp
  refine ⟨?_, World.ownsRow.frozenAt hro j⟩
  rw [World.ownsRow.cellAt hro j (by show j < p.2.xs.length * 1; omega)]
  simp [hj]
/-- A number of a counter is written: number j of its cells. -/
theorem RM.setC (h : RM w a vC vR S rr) (i : Nat) {p q : Int × (Int × Int)} (hi : S.c[i]? = some p) (j : Nat) (hj : j < 3) (u : Value) (hq : cCells q = (cCells p).set j u) (hok : St.ok { S with c := S.c.set i q }) {g cap : Nat} (hv : vC = .slice (some ⟨g, 0, none⟩) S.c.length cap) :
    RM (w.setCell ⟨g, i * 3 + j, none⟩ u) a vC vR { S with c := S.c.set i q } rr ∧ Fp (fun k => k = g) w (w.setCell ⟨g, i * 3 + j, none⟩ u) := by
  subst hv
  have hf : Fp (fun k => k = g) w (w.setCell ⟨g, i * 3 + j, none⟩ u) := (Fp.refl _ _).set_ _ (fun _ => rfl)
  have hc := h.cm
  have hgb : (Value.slice (some ⟨g, 0, none⟩) S.c.length cap).ownBlock = some g := rfl
  have h1 := (hc.stored (i * 3 + j) u).1
  refine ⟨⟨h.box.fp hf (fun e => own_type hc h.box (by decide) (by rw [show a = g from e]; rfl)), ?_, own_fp h.rm hf (fun k e e2 => own_types h.rm hc (by decide) hgb (by rw [show k = g from e2] at e; exact e)), fun p hp => own_fp (h.rows p hp) hf (fun k e e2 => own_types (h.rows p hp) hc (by decide) hgb (by rw [show k = g from e2] at e; exact e)), h.nd, h.abs, hok⟩, hf⟩
  show (w.setCell ⟨g, i * 3 + j, none⟩ u).ownsRow 0 82 3 (.slice (some ⟨g, 0, none⟩) S.c.length cap) (S.c.set i q).length (cc (S.c.set i q))
  rw [List.length_set]
  have e : cc (S.c.set i q) = (cc S.c).set (i * 3 + j) u := flat_set cc_f S.c i hi j hj u hq
  rw [e]
  exact h1
/-- A register is written. -/
theorem RM.setX (h : RM w a vC vR S rr) {id : Int} {v : RowE} (hl : lookE rr id = some v) (i : Nat) (x : Int) (hx : u64ok x) :
    RM (w.setCell ⟨v.g, i, none⟩ (.int .u64 x)) a vC vR { S with r := absR (putE rr id { v with xs := v.xs.set i x }) } (putE rr id { v with xs := v.xs.set i x }) ∧ Fp (fun k => k = v.g) w (w.setCell ⟨v.g, i, none⟩ (.int .u64 x)) := by
  have hmem := lookE_mem hl
  have hf : Fp (fun j => j = v.g) w (w.setCell ⟨v.g, i, none⟩ (.int .u64 x)) := (Fp.refl _ _).set_ _ (fun _ => rfl)
  have hro := h.rows _ hmem
  have hgb : (rVal v).ownBlock = some v.g := rfl
  have hlen : (v.xs.set i x).length = v.xs.length := List.length_set ..
  refine ⟨⟨h.box.fp hf (fun e => own_type hro h.box (by decide) (by show some v.g = some a; rw [show a = v.g from e])), own_fp h.cm hf (fun k e e2 => own_types h.cm hro (by decide) hgb (by rw [show k = v.g from e2] at e; exact e)), ?_, fun p hp => ?_, ?_, rfl, ?_⟩, hf⟩
  · have hr := own_fp h.rm hf (fun k e e2 => own_types h.rm hro (by decide) hgb (by rw [show k = v.g from e2] at e; exact e))
    obtain ⟨m, hm⟩ := lookE_idx hl
    have e1 : putE rr id { v with xs := v.xs.set i x } = rr.set m (id, { v with xs := v.xs.set i x }) := putE_idx h.keysR hm
    have e2 : rc (putE rr id { v with xs := v.xs.set i x }) = rc rr := by
      rw [e1]
      unfold rc
      rw [flat_set rc_f rr m hm 1 (by decide) (rVal v) (by unfold rCells rVal; simp [hlen])]
      refine List.ext_getElem? fun n => ?_
      by_cases hn : n = m * 2 + 1
      · subst hn
        have hlt : m < rr.length := (List.getElem?_eq_some_iff.1 hm).1
        rw [List.getElem?_set_self (by rw [flat_len rc_f]; omega), flat_at rc_f rr m hm 1 (by decide)]
        rfl
      · rw [List.getElem?_set_ne (fun e => hn e.symm)]
    rw [e2, e1, List.length_set]
    exact hr
  · rcases mem_putE' h.keysR hp with ⟨hp1, hp2⟩ | rfl
    · exact own_fp (h.rows p hp1) hf (fun k e e2 => hp2 (by
        have : p.2.g = v.g := by
          injection e with e
          exact e.trans e2
        rw [gs_inj h.nd hp1 hmem this]))
    · have := (hro.stored i (.int .u64 x)).1
      rw [← List.map_set] at this
      show (w.setCell ⟨v.g, i, none⟩ (.int .u64 x)).ownsRow 0 22 1 (.slice (some ⟨v.g, 0, none⟩) (v.xs.set i x).length v.cap) (v.xs.set i x).length ((v.xs.set i x).map (Value.int .u64))
      rw [hlen]
      exact this
  · have e := putE_gs' (v' := { v with xs := v.xs.set i x }) hl rfl
    rw [e]
    exact h.nd
  · have hok := h.ok
    have hv := hok.rw_ (id, v.xs) (by rw [show S.r = absR rr from h.abs]; exact List.mem_map.2 ⟨_, hmem, rfl⟩)
    rw [← absR_put, ← show S.r = absR rr from h.abs]
    refine hok.putR id _ ⟨by rw [hlen]; exact hv.1, by rw [hlen]; exact hv.2.1, fun y hy => ?_⟩
    rcases List.mem_or_eq_of_mem_set hy with hy | rfl
    · exact hv.2.2 y hy
    · exact hx
end
def RDid (w : World) (a : Nat) (O : Nat → Prop) (q : Int × St) (e : Ending) (w' : World) : Prop := e = .returned (.int .i64 q.1) ∧ Rto w' a (Grow O w w') q.2 ∧ Fp O w w'
/-! ### append, onto a row of one's own -/
theorem run_app {P : Program} (w : World) (N : Nat) (t ty : TypeId) (e : TypeId) (i : TypeInfo) (z : Value) (size bytes : Nat) (ht : P.underlying t = some (.slice e)) (hi : P.info? e = some i) (hz : i.zero = some z)
    (hsize : i.size = size) (hby : i.bytes = bytes) (hzs : z.cells.size = size) (hsz : 0 < size)
    (v : Value) (n : Nat) (xs : List Value) (hown : w.ownsRow N e size v n xs) (A : Option Addr) (m c : Nat) (news : List Value) (hl : news.length = m * size) (hA : A = none → m = 0) (hnews : ∀ ad, A = some ad → ∀ j u, news[j]? = some u → w.cell? (ad.add j) = some u) (h1 : ∀ u ∈ news, u.oneCell' = true)
    (h63 : n + m ≤ maxLen) (hbytes : (n + m) * bytes ≤ 140737488355328) (hbase : N ≤ w.heap.size) :
    ∃ v' w', (Builtin.append_ #[t, t] ty #[v, .slice A m c]).run P w = .ok v' w' ∧ w'.ownsRow N e size v' (n + m) (xs ++ news) ∧ w.grownBy w' v.ownBlock ∧ (v'.ownBlock = v.ownBlock ∨ v'.ownBlock = some w.heap.size) ∧ (v ≠ .slice none 0 0 ∨ 0 < m → v' ≠ .slice none 0 0) := by
  cases A with
  | some ad =>
    obtain ⟨v', w', hr, h2, h3, h4, h5⟩ := run_append_own_at (P := P) w N t ty e i z size bytes ht hi hz hsize hby hzs hsz v n xs hown ad m c news hl (hnews ad rfl) h1 h63 hbytes hbase
    refine ⟨v', w', hr, h2, h3, h5, fun hv e => ?_⟩
    obtain ⟨hv1, hm⟩ := h4.1 e
    rcases hv with hv | hv
    · exact hv hv1
    · omega
  | none =>
    have hm := hA rfl
    subst hm
    have hn0 : news = [] := List.length_eq_zero_iff.1 (by rw [hl]; omega)
    subst hn0
    refine ⟨v, w, ?_, by rw [List.append_nil]; exact hown, ⟨rfl, rfl, rfl, Nat.le_refl _, fun _ _ _ => rfl⟩, .inl rfl, fun hv e => by
      rcases hv with hv | hv
      · exact hv e
      · omega⟩
    rcases hown.2 with ⟨rfl, h0⟩ | ⟨g, cap, cur, rfl, hb, hh, hc, _⟩
    · subst h0
      simp [Builtin.append_, run_underlying ht, sizeOf, typeInfo, hi, Builtin.lenOf, Builtin.firstCells, storeCells]
    · simp [Builtin.append_, run_underlying ht, sizeOf, typeInfo, hi, Builtin.lenOf, Builtin.firstCells, storeCells, Nat.not_lt.2 hc]
theorem wpList_app {P : Program} {w : World} {ops : Array Oper} {rest : List Oper} {o : Oper} {a : Act} {Q : Exit → Act → World → Prop} (hgd : o.guard = none) (s x : Operand) (t : TypeId)
    (ho : o.op = .call { callee := .builtin .append, args := #[s, x], argTypes := #[t, t] })
    (N : Nat) (e : TypeId) (i : TypeInfo) (z : Value) (size bytes : Nat) (ht : P.underlying t = some (.slice e)) (hi : P.info? e = some i) (hz : i.zero = some z)
    (hsize : i.size = size) (hby : i.bytes = bytes) (hzs : z.cells.size = size) (hsz : 0 < size)
    (v : Value) (n : Nat) (xs : List Value) (hs : a.eval s = v) (hown : w.ownsRow N e size v n xs) (A : Option Addr) (m c : Nat) (news : List Value) (hx : a.eval x = .slice A m c) (hl : news.length = m * size) (hA : A = none → m = 0) (hnews : ∀ ad, A = some ad → ∀ j u, news[j]? = some u → w.cell? (ad.add j) = some u) (h1 : ∀ u ∈ news, u.oneCell' = true)
    (h63 : n + m ≤ maxLen) (hbytes : (n + m) * bytes ≤ 140737488355328) (hbase : N ≤ w.heap.size)
    (h : ∀ v' w', w'.ownsRow N e size v' (n + m) (xs ++ news) → w.grownBy w' v.ownBlock → (v'.ownBlock = v.ownBlock ∨ v'.ownBlock = some w.heap.size) → (v ≠ .slice none 0 0 ∨ 0 < m → v' ≠ .slice none 0 0) → wpList P ops Q rest (a.put o.dst v') w') : wpList P ops Q (o :: rest) a w := by
  refine wpList_plain hgd fun K hK => ?_
  obtain ⟨v', w', hr, h2, h3, h4, h5⟩ := run_app (P := P) w N t o.type e i z size bytes ht hi hz hsize hby hzs hsz v n xs hown A m c news hl hA hnews h1 h63 hbytes hbase
  unfold Oper.wp execOp
  simp only [ho, resolve, invoke, builtin, Sem.run_bind, Sem.run_pure, Result.andThen_ok, List.map_toArray, List.map_cons, List.map_nil, hs, hx, hr]
  exact hK _ _ (h v' w' h2 h3 h4 h5)
/-- Cells of a row of one's own, from element i on. -/
theorem own_news {w : World} {N e s n : Nat} {g cap : Nat} {xs : List Value} (h : w.ownsRow N e s (.slice (some ⟨g, 0, none⟩) n cap) n xs) (i m : Nat) (hi : i + m ≤ n * s) :
    ((xs.drop i).take m).length = m ∧ ∀ j u, ((xs.drop i).take m)[j]? = some u → w.cell? ((⟨g, i, none⟩ : Addr).add j) = some u := by
  have hl : xs.length = n * s := h.1
  refine ⟨by rw [List.length_take, List.length_drop]; omega, fun j u hu => ?_⟩
  have hj : j < m := by
    have := (List.getElem?_eq_some_iff.1 hu).1
    rw [List.length_take] at this
    omega
  rw [List.getElem?_take_of_lt hj, List.getElem?_drop] at hu
  rw [Mem.add_at, h.cellAt (i + j) (by omega)]
  exact hu
end Go.Proofs.Ytdobpieiobikpaa.Base
