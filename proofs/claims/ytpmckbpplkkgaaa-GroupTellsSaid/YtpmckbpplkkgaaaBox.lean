/- A group's own copy in memory: its box, and the row of its buckets. Plain lemmas. Conditions: as each lemma says. -/
import Derived.Test.YtpmckbpplkkgaaaElseMem
set_option linter.unusedVariables false
set_option linter.unusedSimpArgs false
namespace Go.Proofs.Ytpmckbpplkkgaaa.Base
open Go Go.RowKit Go.Proofs.Ytpmckbpplkkgaaa.Mem Go.Proofs.YtpmckbpplkkgaaaW.PrintWords Go.Proofs.YtpmckbpplkkgaaaW.PrintLast Go.Proofs.Ytpmckbpplkkgaaa.Fl
open Go.Proofs.Ytpmckbpplkkgaaa.PGroupTells (S34 z34 k34 k34_open k34_mk)
theorem rem_fact (cut : Int) (n : Nat) (h0 : 0 < n) (hn : n < 1000000000) : ∃ k : Nat, k < n ∧ IntKind.u64.wrap (n : Int) = (n : Int) ∧ (IntKind.u64.wrap cut).tmod (n : Int) = (k : Int) ∧ wrap64 (k : Int) = (k : Int) := by
  have hw : ∀ x, IntKind.u64.wrap x = x % 18446744073709551616 := fun x => by simp [IntKind.wrap, IntKind.signed, IntKind.bits]
  have h1 : IntKind.u64.wrap (n : Int) = (n : Int) := by rw [hw]; omega
  obtain ⟨u, hu⟩ : ∃ u : Nat, IntKind.u64.wrap cut = (u : Int) := ⟨(cut % 18446744073709551616).toNat, by rw [hw]; omega⟩
  have hlt := Nat.mod_lt u h0
  refine ⟨u % n, hlt, h1, by rw [hu]; rfl, ?_⟩
  unfold wrap64
  omega
/-- The group as it came lies in block gx (cells GX); the copy in block bx, its buckets L, n of them, from cell 0 of block g1 on. -/
structure ES (w W : World) (gx bx g1 cap : Nat) (GX : Array Value) (i k f : Int) (n : Nat) (L : List S34) : Prop where
  len : L.length = n
  kp : Below w.heap.size w W
  hg : Blk W gx 27 GX
  hx : Blk W bx 27 #[.int .i64 i, .int .u8 k, .int .i64 f, .slice (some ⟨g1, 0, none⟩) n cap]
  own : W.ownsRow w.heap.size 34 2 (.slice (some ⟨g1, 0, none⟩) n cap) n (sv L)
  ne : gx ≠ bx
  le : w.heap.size ≤ bx
theorem sv_set (L : List S34) (j : Nat) (hj : j < L.length) (v : Int) : sv (L.set j ⟨L[j].f0, v⟩) = (sv L).set (j * 2 + 1) (.int .i64 v) := by
  induction L generalizing j with
  | nil => simp at hj
  | cons a r ih =>
    cases j with
    | zero => simp [sv]
    | succ j =>
      have := ih j (by simpa using hj)
      unfold sv at this ⊢
      rw [List.set_cons_succ, List.flatMap_cons, List.flatMap_cons]
      simp only [List.getElem_cons_succ]
      rw [this]
      rw [show (j + 1) * 2 + 1 = (j * 2 + 1) + 2 by omega]
      rfl
theorem sv_app (L : List S34) (x : S34) : sv (L ++ [x]) = sv L ++ [.int .u64 x.f0, .int .i64 x.f1] := by
  unfold sv
  rw [List.flatMap_append]
  rfl
section
variable {w W W1 : World} {gx bx g1 cap : Nat} {GX : Array Value} {i k f : Int} {n : Nat} {L : List S34}
theorem ES.go (h : ES w W gx bx g1 cap GX i k f n L) (hb : Below W.heap.size W W1) : ES w W1 gx bx g1 cap GX i k f n L :=
  ⟨h.len, h.kp.trans (hb.mono h.kp.size), h.hg.go hb, h.hx.go hb, own_go h.own hb, h.ne, h.le⟩
theorem ES.drew (h : ES w W gx bx g1 cap GX i k f n L) : ES w W.drew gx bx g1 cap GX i k f n L := h.go (below_drew1 (Below.refl _ _))
theorem ES.far (h : ES w W gx bx g1 cap GX i k f n L) : g1 ≠ bx ∧ g1 ≠ gx ∧ w.heap.size ≤ g1 ∧ n ≤ cap := by
  refine ⟨fun e => own_type h.own h.hx (by decide) (by rw [e]; rfl), fun e => own_type h.own h.hg (by decide) (by rw [e]; rfl), (h.own.lt g1 rfl).1, ?_⟩
  obtain ⟨A, c, e, hc⟩ := own_form h.own
  injection e with e1 e2 e3
  omega
/-- A bucket's block is written. -/
theorem ES.put (h : ES w W gx bx g1 cap GX i k f n L) (j : Nat) (hj : j < L.length) (v : Int) : ES w (W.setCell ⟨g1, j * 2 + 1, none⟩ (.int .i64 v)) gx bx g1 cap GX i k f n (L.set j ⟨L[j].f0, v⟩) := by
  obtain ⟨f1, f2, f3, _⟩ := h.far
  have ho := (h.own.stored (j * 2 + 1) (.int .i64 v)).1
  rw [← sv_set L j hj v] at ho
  exact ⟨by rw [List.length_set]; exact h.len, h.kp.setCell f3 _, h.hg.far (p := ⟨g1, j * 2 + 1, none⟩) (fun e => f2 e.symm) _, h.hx.far (p := ⟨g1, j * 2 + 1, none⟩) (fun e => f1 e.symm) _, ho, h.ne, h.le⟩
/-- A number of the copy is written. -/
theorem ES.setI (h : ES w W gx bx g1 cap GX i k f n L) (v : Int) : ES w (W.setCell ⟨bx, 0, none⟩ (.int .i64 v)) gx bx g1 cap GX v k f n L := by
  obtain ⟨f1, f2, f3, _⟩ := h.far
  exact ⟨h.len, h.kp.setCell h.le _, h.hg.far (p := ⟨bx, 0, none⟩) h.ne _, h.hx.set_ 0 _, own_fp h.own ((Fp.refl (fun j => j = bx) W).set_ _ (fun _ => rfl)) (fun j e e2 => f1 (by injection e with e; exact e.trans e2)), h.ne, h.le⟩
theorem ES.setF (h : ES w W gx bx g1 cap GX i k f n L) (v : Int) : ES w (W.setCell ⟨bx, 2, none⟩ (.int .i64 v)) gx bx g1 cap GX i k v n L := by
  obtain ⟨f1, f2, f3, _⟩ := h.far
  exact ⟨h.len, h.kp.setCell h.le _, h.hg.far (p := ⟨bx, 2, none⟩) h.ne _, h.hx.set_ 2 _, own_fp h.own ((Fp.refl (fun j => j = bx) W).set_ _ (fun _ => rfl)) (fun j e e2 => f1 (by injection e with e; exact e.trans e2)), h.ne, h.le⟩
/-- The copy as it is read. -/
theorem ES.C (h : ES w W gx bx g1 cap GX i k f n L) (hl : L.length < 1000000000) : Kd.C k34 W (some ⟨g1, 0, none⟩) L.length L := by
  have ho := h.own
  rw [← h.len] at ho
  obtain ⟨A, c, e, hc, hC⟩ := own_34 ho hl
  injection e with e1 e2 e3
  subst e1
  exact hC
theorem ES.cell (h : ES w W gx bx g1 cap GX i k f n L) (j : Nat) (hj : j < L.length) : W.cell? ⟨g1, j * 2 + 1, none⟩ = some (.int .i64 L[j].f1) ∧ W.cell? ⟨g1, j * 2, none⟩ = some (.int .u64 L[j].f0) ∧ W.frozen? ⟨g1, j * 2 + 1, none⟩ = false := by
  have hn := h.len
  refine ⟨?_, ?_, h.own.frozenAt _⟩
  · rw [h.own.cellAt (j * 2 + 1) (by omega)]
    exact sv_get L j 1 L[j] _ (List.getElem?_eq_getElem hj) rfl
  · rw [h.own.cellAt (j * 2) (by omega)]
    exact sv_get L j 0 L[j] _ (List.getElem?_eq_getElem hj) rfl
/-- A bucket more behind them: the row (wa: the world in which the new bucket lies), and then the copy's field. -/
theorem ES.app {wa w2 : World} {g2 cap2 : Nat} {x : S34} (h : ES w W gx bx g1 cap GX i k f n L) (ha : Below W.heap.size W wa) (ho : w2.ownsRow w.heap.size 34 2 (.slice (some ⟨g2, 0, none⟩) (n + 1) cap2) (n + 1) (sv L ++ [.int .u64 x.f0, .int .i64 x.f1])) (hg : wa.grownBy w2 (some g1)) :
    ES w (w2.setCell ⟨bx, 3, none⟩ (.slice (some ⟨g2, 0, none⟩) (n + 1) cap2)) gx bx g2 cap2 GX i k f (n + 1) (L ++ [x]) ∧ Blk w2 bx 27 #[.int .i64 i, .int .u8 k, .int .i64 f, .slice (some ⟨g1, 0, none⟩) n cap] := by
  obtain ⟨f1, f2, f3, _⟩ := h.far
  have h1 := h.go ha
  have hx2 := h1.hx.grown hg (fun e => f1 (Option.some.inj e).symm)
  have hg2 := h1.hg.grown hg (fun e => f2 (Option.some.inj e).symm)
  have hk2 := h1.kp.grown hg h1.kp.size (fun j e => by cases e; exact f3)
  have hgx : some g2 ≠ some bx := fun e => own_type ho hx2 (by decide) e
  refine ⟨⟨by simp [h.len], hk2.setCell h.le _, hg2.far (p := ⟨bx, 3, none⟩) h.ne _, hx2.set_ 3 _, ?_, h.ne, h.le⟩, hx2⟩
  rw [sv_app]
  refine own_fp ho ((Fp.refl (fun j => j = bx) w2).set_ _ (fun _ => rfl)) (fun j e e2 => hgx ?_)
  subst e2
  exact e
/-- What the inner functions tell of the copy. -/
theorem ES.may (h : ES w W gx bx g1 cap GX i k f n L) (hb : inB L) (hl : L.length < 1000000) : Calls Try.prog 12 #[gV i k f (some ⟨g1, 0, none⟩) n cap] W fun e w' => e = .returned (.bool (gmay i k f L)) ∧ Below W.heap.size W w' := by
  have := gmay_any i k f (some ⟨g1, 0, none⟩) cap L W (h.C (by omega)) hb hl
  rw [h.len] at this
  exact this
end
theorem inB_set (L : List S34) (hb : inB L) (j : Nat) (hj : j < L.length) (v : Int) : inB (L.set j ⟨L[j].f0, v⟩) := by
  intro x hx
  rcases List.mem_or_eq_of_mem_set hx with hx | rfl
  · exact hb x hx
  · exact (hb L[j] (List.getElem_mem hj) :)
theorem inB_app (L : List S34) (hb : inB L) (v : Int) : inB (L ++ [⟨0, v⟩]) := by
  intro x hx
  rcases List.mem_append.1 hx with hx | hx
  · exact hb x hx
  · simp at hx
    subst hx
    exact ⟨by show (0 : Int) ≤ 0; decide, by show (0 : Int) < _; decide⟩
/-- How long a copy's row is. -/
def lenAt (W : World) (b : Nat) : Nat := match W.cell? ⟨b, 3, none⟩ with | some (.slice _ n _) => n | _ => 0
theorem ES.lenAt {w W : World} {gx bx g1 cap : Nat} {GX : Array Value} {i k f : Int} {n : Nat} {L : List S34} (h : ES w W gx bx g1 cap GX i k f n L) : lenAt W bx = n := by
  unfold Base.lenAt
  rw [h.hx.cell 3]
  rfl
theorem C_take {w : World} {A : Option Addr} {l : List S34} (h : Kd.C k34 w A l.length l) (i : Nat) (hi : i ≤ l.length) : Kd.C k34 w A i (l.take i) := by
  obtain ⟨h1, h2, h3⟩ := h
  refine ⟨by rw [List.length_take]; omega, by omega, fun hp => ?_⟩
  obtain ⟨ad, e, hc⟩ := h3 (by omega)
  refine ⟨ad, e, fun j p hj => hc j p ?_⟩
  rw [List.getElem?_take] at hj
  split at hj
  · exact hj
  · cases hj
end Go.Proofs.Ytpmckbpplkkgaaa.Base
