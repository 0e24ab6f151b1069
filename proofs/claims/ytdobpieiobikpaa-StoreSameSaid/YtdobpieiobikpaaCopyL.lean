/- Copy's parts: maps.Clone at the store's maps; the laws of its loop. Plain lemmas and contracts. Conditions: as each says. -/
import Derived.Test.YtdobpieiobikpaaNums
import Derived.Test.YtdobpieiobikpaaMapR
import Derived.Shelf.SlMaps.Clone
import Derived.Ground.SlmcProg
set_option linter.unusedVariables false
set_option linter.unusedSimpArgs false
namespace Go.Proofs.Ytdobpieiobikpaa.Base
open Go Go.RowKit Go.Proofs.Ytdobpieiobikpaa.Mem Go.Proofs.YtdobpieiobikpaaW.PrintWords Go.Proofs.YtdobpieiobikpaaW.PrintLast
open Go.Shelf in
shelf_lay_g SlLaysW.n5 Slmc 5 at Try 36 as Try.mcloneC
open Go.Shelf in
shelf_lay_g SlLaysW.n5 Slmc 5 at Try 37 as Try.mcloneR
/-- A map's copy. -/
def Copied (w : World) (p : Option Nat) (l : List (Int × Value)) (e : Ending) (w' : World) : Prop :=
  ∃ p', e = .returned (.map p') ∧ MM w' p' l ∧ (∀ b, p' = some b → w.heap.size ≤ b) ∧ (p = none → p' = none) ∧ (p' = none → p = none) ∧ Below w.heap.size w w'
theorem copied_new {w : World} {b : Nat} {l : List (Int × Value)} (h : ML w b l) {es : Array MapEntry} {cl : Nat} (hb : w.heap[b]? = some (.map es cl)) : Copied w (some b) l (.returned (.map (some w.heap.size))) (w.alloc (.map es cl)) := by
  obtain ⟨es', cl', h1, h2⟩ := h
  rw [hb] at h1
  injection h1 with h1
  injection h1 with h1 h3
  subst h1 h3
  exact ⟨_, rfl, ⟨es, cl, heap_alloc_new w _, h2⟩, (fun j e => by injection e with e; omega), (fun e => by cases e), (fun e => by cases e), (Below.refl _ _).alloc (Nat.le_refl _) _⟩
theorem mcloneC (p : Option Nat) (l : List (Int × Value)) (w : World) (h : MM w p l) : Calls Try.prog 36 #[.map p] w (Copied w p l) := by
  cases p with
  | none => exact (AnyW.maps_Clone_nil Try.mcloneC w).mono fun e w' ⟨h1, h2⟩ => by subst h1 h2; exact ⟨none, rfl, h, (fun j e => by cases e), fun _ => rfl, fun _ => rfl, Below.refl _ _⟩
  | some b =>
    obtain ⟨es, cl, h1, h2⟩ := id h
    exact (AnyW.maps_Clone Try.mcloneC b es cl w h1).mono fun e w' ⟨e1, e2⟩ => by subst e1 e2; exact copied_new h h1
theorem mcloneR (p : Option Nat) (l : List (Int × Value)) (w : World) (h : MM w p l) : Calls Try.prog 37 #[.map p] w (Copied w p l) := by
  cases p with
  | none => exact (AnyW.maps_Clone_nil Try.mcloneR w).mono fun e w' ⟨h1, h2⟩ => by subst h1 h2; exact ⟨none, rfl, h, (fun j e => by cases e), fun _ => rfl, fun _ => rfl, Below.refl _ _⟩
  | some b =>
    obtain ⟨es, cl, h1, h2⟩ := id h
    exact (AnyW.maps_Clone Try.mcloneR b es cl w h1).mono fun e w' ⟨e1, e2⟩ => by subst e1 e2; exact copied_new h h1
/-! ### the loop over a map -/
theorem wpList_rangeM {ops : Array Oper} {rest : List Oper} {o : Oper} {ac : Act} {Q : Exit → Act → World → Prop} {w : World} (hg : o.guard = none) (m : Operand) (t : TypeId) (hop : o.op = Op.range t m)
    (e : TypeId) (ht : Try.prog.underlying t = some (.map 3 e)) (b : Nat) (l : List (Int × Value)) (hm : ac.eval m = .map (some b)) (h : ML w b l)
    (hK : ∀ w', RG w' b w.heap.size l [] → Below w.heap.size w w' → wpList Try.prog ops Q rest (ac.put o.dst (.pointer (some ⟨w.heap.size, 0, none⟩))) w') : wpList Try.prog ops Q (o :: rest) ac w := by
  refine wpList_plain hg fun K' hK' => ?_
  obtain ⟨w', hrun, r1, r2⟩ := RG.start (P := Try.prog) (t := t) h ht
  unfold Oper.wp
  simp [execOp, hop, hm, hrun, Result.andThen]
  exact hK' _ _ (hK w' r1 r2)
theorem wpList_nextM {ops : Array Oper} {rest : List Oper} {o : Oper} {ac : Act} {Q : Exit → Act → World → Prop} {w : World} (hg : o.guard = none) (it : Operand) (hop : o.op = Op.next it false)
    (b r : Nat) (l : List (Int × Value)) (D : List Int) (hit : ac.eval it = .pointer (some ⟨r, 0, none⟩)) (h : RG w b r l D)
    (hDone : (∀ k ∈ keys l, k ∈ D) → wpList Try.prog ops Q rest (ac.put o.dst (.tuple #[.bool false])) w)
    (hMore : ∀ k v w', lookE l k = some v → k ∉ D → (Lit.int .i64 k).wf = true → RG w' b r l (k :: D) → Fp (fun j => j = r) w w' → leftB w' b r < leftB w b r →
      (Instr.entry (.pointer (some ⟨r, 0, none⟩))).run Try.prog w' = .ok (.tuple #[.int .i64 k, v]) w' → wpList Try.prog ops Q rest (ac.put o.dst (.tuple #[.bool true, .int .i64 k, v])) w') : wpList Try.prog ops Q (o :: rest) ac w := by
  refine wpList_plain hg fun K' hK' => ?_
  unfold Oper.wp
  rcases h.next (P := Try.prog) o.type with ⟨h1, hrun⟩ | ⟨k, v, w', h1, h2, h3, hrun, h4, h5, h6, h7⟩
  · simp [execOp, hop, hit, hrun, Result.andThen]
    exact hK' _ _ (hDone h1)
  · simp [execOp, hop, hit, hrun, Result.andThen]
    exact hK' _ _ (hMore k v w' h1 h2 h3 h4 h5 h6 h7)
theorem putE_same {α : Type} {l : List (Int × α)} (hn : (keys l).Nodup) {k : Int} {v : α} (h : lookE l k = some v) : putE l k v = l := by
  obtain ⟨i, hi⟩ := lookE_idx h
  rw [putE_idx hn hi]
  apply List.ext_getElem?
  intro j
  rw [List.getElem?_set]
  split
  · next e =>
    subst e
    have := (List.getElem?_eq_some_iff.1 hi).1
    simp only [this, if_true, hi]
  · rfl
theorem putE_nd {rn : List (Int × RowE)} (hn : (keys rn).Nodup) (h : (rn.map (·.2.g)).Nodup) (k : Int) (v : RowE) (hv : ∀ p ∈ rn, p.2.g ≠ v.g) : ((putE rn k v).map (·.2.g)).Nodup := by
  induction rn with
  | nil => simp [putE]
  | cons p r ih =>
    simp only [keys, List.map_cons, List.nodup_cons] at hn h
    simp only [putE]
    split
    · simp only [List.map_cons, List.nodup_cons]
      refine ⟨fun hm => ?_, h.2⟩
      obtain ⟨q, hq, e⟩ := List.mem_map.1 hm
      exact hv q (List.mem_cons_of_mem _ hq) e
    · simp only [List.map_cons, List.nodup_cons]
      refine ⟨fun hm => ?_, ih hn.2 h.2 (fun q hq => hv q (List.mem_cons_of_mem _ hq))⟩
      obtain ⟨q, hq, e⟩ := List.mem_map.1 hm
      rcases mem_putE hq with hq | rfl
      · exact h.1 (e ▸ List.mem_map.2 ⟨q, hq, rfl⟩)
      · exact hv p (List.mem_cons_self ..) e.symm
/-- What holds at each round of Copy's loop: the copy is a store already; what has been handed out is its own. -/
structure CI (w : World) (x : Nat) (pc : Option Nat) (b r : Nat) (S : St) (wr : World) (rn : List (Int × RowE)) (D N : List Int) : Prop where
  sm : SM wr x pc (some b) S rn
  rg : RG wr b r (rRow rn) D
  hx : w.heap.size ≤ x
  hc : ∀ j, pc = some j → w.heap.size ≤ j
  hb : w.heap.size ≤ b
  hr : w.heap.size ≤ r
  new : ∀ p ∈ rn, p.1 ∈ N → w.heap.size ≤ p.2.g
  bel : Below w.heap.size w wr
section
variable {w wr w1 w2 w3 : World} {x b r : Nat} {pc : Option Nat} {S : St} {rn : List (Int × RowE)} {D N : List Int} {k : Int}
theorem CI.handed (h : CI w x pc b r S wr rn D N) (hf : Fp (fun j => j = r) wr w1) (hg : RG w1 b r (rRow rn) (k :: D)) : CI w x pc b r S w1 rn (k :: D) N := by
  obtain ⟨es, cl, si, se, c0, g1, g2, _⟩ := h.rg
  refine ⟨h.sm.fp hf (fun j hj e => ?_), hg, h.hx, h.hc, h.hb, h.hr, h.new, h.bel.trans (hf.below (fun i e => by have := h.hr; omega) h.bel.size)⟩
  · rw [show j = r from e] at hj
    rcases hj with e1 | e1 | e1 | e1
    · have := h.sm.box; unfold Blk at this; rw [← e1, g2] at this; cases this
    · have := h.sm.cm; rw [e1] at this; obtain ⟨_, _, h1, _⟩ := (show ML wr r _ from this); rw [g2] at h1; cases h1
    · injection e1 with e1; rw [e1, g2] at g1; cases g1
    · obtain ⟨p, hp, e2⟩ := List.mem_map.1 e1
      obtain ⟨_, h2⟩ := h.sm.rows p hp
      rcases h2 with ⟨hv, _⟩ | ⟨g, cap, cur, hv, _, hh, _⟩
      · cases hv
      · unfold rVal at hv
        injection hv with hv
        injection hv with hv
        injection hv with hv
        rw [← hv, e2, g2] at hh
        cases hh
theorem CI.go (h : CI w x pc b r S wr rn D N) (hb : Below wr.heap.size wr w1) : CI w x pc b r S w1 rn D N ∧ leftB w1 b r = leftB wr b r :=
  ⟨⟨h.sm.fp (Fp.of_below hb (fun _ => False)) (fun _ _ e => e), (h.rg.fp (Fp.of_below hb (fun _ => False)) (fun e => e) (fun e => e)).1, h.hx, h.hc, h.hb, h.hr, h.new, h.bel.trans (hb.mono h.bel.size)⟩, (h.rg.fp (Fp.of_below hb (fun _ => False)) (fun e => e) (fun e => e)).2⟩
/-- A row of its own is laid in. -/
theorem CI.put (h : CI w x pc b r S w1 rn (k :: D) D) {q : RowE} (hl : lookE rn k = some q) {g cap B : Nat} (hg : B ≤ g) (hwB : w.heap.size ≤ B) (hlt : ∀ p ∈ rn, p.2.g < B)
    (ho : w1.ownsRow 0 22 1 (rVal ⟨g, cap, q.xs⟩) q.xs.length (q.xs.map (Value.int .u64))) (hm : RG w2 b r (rRow (putE rn k ⟨g, cap, q.xs⟩)) (k :: D)) (hf : Fp (fun j => j = b) w1 w2) :
    CI w x pc b r S w2 (putE rn k ⟨g, cap, q.xs⟩) (k :: D) (k :: D) := by
  have hnk : (keys rn).Nodup := by have := h.sm.ok.rk; rw [h.sm.abs] at this; rw [← keys_absR]; exact this
  have habs : absR (putE rn k ⟨g, cap, q.xs⟩) = S.r := by
    rw [show S.r = absR rn from h.sm.abs, ← absR_put rn k ⟨g, cap, q.xs⟩]
    have h1 : lookE (absR rn) k = some q.xs := by rw [absR_look, hl]; rfl
    exact putE_same (by rw [keys_absR]; exact hnk) h1
  have hnd : ((putE rn k ⟨g, cap, q.xs⟩).map (·.2.g)).Nodup := putE_nd hnk h.sm.nd k _ (fun p hp => by have := hlt p hp; show p.2.g ≠ g; omega)
  have hS : { S with r := absR (putE rn k ⟨g, cap, q.xs⟩) } = S := by rw [habs]
  have h2 := h.sm.turnR (rr' := putE rn k ⟨g, cap, q.xs⟩) hm.ml hf (fun p hp => by
    rcases mem_putE hp with hp | rfl
    · exact h.sm.rows p hp
    · exact ho) hnd (by rw [hS]; exact h.sm.ok)
  rw [hS] at h2
  refine ⟨h2, hm, h.hx, h.hc, h.hb, h.hr, fun p hp hd => ?_, h.bel.trans (hf.below (fun i e => by have := h.hb; omega) h.bel.size)⟩
  rcases mem_putE' hnk hp with ⟨hp, hne⟩ | rfl
  · rcases List.mem_cons.1 hd with hd | hd
    · exact absurd hd hne
    · exact h.new p hp hd
  · show w.heap.size ≤ g
    omega
end
end Go.Proofs.Ytdobpieiobikpaa.Base
