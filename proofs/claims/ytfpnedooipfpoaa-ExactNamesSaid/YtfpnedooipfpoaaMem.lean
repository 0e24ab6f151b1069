/- Words for memory: what stood when a call began, a block that is known whole, a world that differs in one block alone. Plain lemmas over any program; no condition. -/
import Derived.WalkKit
import Derived.Below
import Derived.Laws.OwnMore
import Derived.Laws.Rows
import Derived.Deep.Draws
import Derived.Test.YtfpnedooipfpoaaWWords
namespace Go.Proofs.Ytfpnedooipfpoaa.Mem
open Go Go.RowKit Go.Proofs.YtfpnedooipfpoaaW.PrintWords
set_option linter.unusedVariables false
/-- What was there when the call began stands. -/
structure Kp (B : Nat) (w0 w : World) : Prop where
  below : Below B w0 w
  size : B ≤ w.heap.size
section
variable {B : Nat} {w0 w w1 w2 : World}
theorem Kp.refl (w : World) : Kp w.heap.size w w := ⟨Below.refl _ _, Nat.le_refl _⟩
theorem Kp.alloc (h : Kp B w0 w) (o : Obj) : Kp B w0 (w.alloc o) := ⟨h.below.alloc h.size o, by have := h.size; simp; omega⟩
theorem Kp.drew (h : Kp B w0 w) : Kp B w0 w.drew := ⟨below_drew h.below, h.size⟩
theorem Kp.drewN (h : Kp B w0 w) (n : Nat) : Kp B w0 (w.drewN n) := ⟨pw_below_drewN h.below n, h.size⟩
theorem Kp.go (h : Kp B w0 w) (k : Below w.heap.size w w1) : Kp B w0 w1 := ⟨below_then h.below h.size k, Nat.le_trans h.size k.size⟩
theorem Kp.setCell (h : Kp B w0 w) {a : Addr} (ha : B ≤ a.block) (v : Value) : Kp B w0 (w.setCell a v) := ⟨h.below.setCell ha v, by have := h.size; simpa [World.setCell] using this⟩
theorem Kp.grown {row : Option Nat} (h : Kp B w0 w) (hg : w.grownBy w1 row) (hr : ∀ k, row = some k → B ≤ k) : Kp B w0 w1 := ⟨h.below.grown hg h.size hr, Nat.le_trans h.size hg.size⟩
theorem Kp.some_ {b : Nat} (h : Kp B w0 w) (hg : w.grownBy w1 (some b)) (hb : B ≤ b) : Kp B w0 w1 := h.grown hg (fun k e => by injection e with e; omega)
theorem Kp.none_ (h : Kp B w0 w) (hg : w.grownBy w1 none) : Kp B w0 w1 := h.grown hg (fun k e => by cases e)

/-! ### one block may differ -/
theorem gb_trans {r : Option Nat} (h : w.grownBy w1 r) (k : w1.grownBy w2 r) : w.grownBy w2 r :=
  ⟨k.os.trans h.os, k.tape.trans h.tape, k.output.trans h.output, Nat.le_trans h.size k.size, fun i hi hn => (k.block i (Nat.lt_of_lt_of_le hi h.size) hn).trans (h.block i hi hn)⟩
theorem gb_weak {r : Option Nat} (h : w.grownBy w1 none) : w.grownBy w1 r := ⟨h.os, h.tape, h.output, h.size, fun i hi _ => h.block i hi (by simp)⟩
theorem gb_below (h : Below w.heap.size w w1) (r : Option Nat) : w.grownBy w1 r := ⟨h.os, h.tape, h.output, h.size, fun i hi _ => h.block i hi⟩
theorem gb_to_below (h : w.grownBy w1 none) : Below w.heap.size w w1 := ⟨h.os, h.tape, h.output, h.size, fun i hi => h.block i hi (by simp)⟩
theorem gb_drew (r : Option Nat) (h : w.grownBy w1 r) : w.grownBy w1.drew r := ⟨h.os, h.tape, h.output, h.size, h.block⟩
theorem gb_drewN (r : Option Nat) (n : Nat) (h : w.grownBy w1 r) : w.grownBy (w1.drewN n) r := gb_trans h (gb_below (pw_below_drewN (Below.refl _ _) n) r)
theorem gb_alloc (r : Option Nat) (o : Obj) (h : w.grownBy w1 r) : w.grownBy (w1.alloc o) r := gb_trans h (World.grownBy_alloc _ _ _)
theorem gb_set {b i : Nat} (v : Value) (h : w.grownBy w1 (some b)) : w.grownBy (w1.setCell ⟨b, i, none⟩ v) (some b) :=
  gb_trans h ⟨rfl, rfl, rfl, by simp [World.setCell], fun k hk hn => Below.heap_setCell _ _ _ _ (fun e => hn (by rw [e]))⟩
/-- A block that was made behind may be written, too. -/
theorem gb_set_new {b i : Nat} {r : Option Nat} (v : Value) (h : w.grownBy w1 r) (hb : w.heap.size ≤ b) : w.grownBy (w1.setCell ⟨b, i, none⟩ v) r :=
  ⟨h.os, h.tape, h.output, by have := h.size; simpa [World.setCell] using this, fun k hk hn => (Below.heap_setCell _ _ _ _ (fun e => by simp at e; omega)).trans (h.block k hk hn)⟩
theorem gb_new {r : Option Nat} {b : Nat} (h : w.grownBy w1 r) (k : w1.grownBy w2 (some b)) (hb : w.heap.size ≤ b) : w.grownBy w2 r :=
  ⟨k.os.trans h.os, k.tape.trans h.tape, k.output.trans h.output, Nat.le_trans h.size k.size, fun i hi hn => (k.block i (Nat.lt_of_lt_of_le hi h.size) (fun e => by injection e with e; omega)).trans (h.block i hi hn)⟩

/-! ### a block that is known whole -/
def Blk (w : World) (g : Nat) (t : TypeId) (cs : Array Value) : Prop := w.heap[g]? = some (.cells cs t (0, 0))
variable {g : Nat} {t : TypeId} {cs : Array Value}
theorem Blk.lt (h : Blk w g t cs) : g < w.heap.size := by
  rcases Nat.lt_or_ge g w.heap.size with hlt | hge
  · exact hlt
  · unfold Blk at h; rw [Array.getElem?_eq_none hge] at h; cases h
theorem Blk.cell (h : Blk w g t cs) (i : Nat) : w.cell? ⟨g, i, none⟩ = cs[i]? := cell_of_row w g i cs t (0, 0) h
theorem Blk.frozen (h : Blk w g t cs) (i : Nat) : w.frozen? ⟨g, i, none⟩ = false := by
  unfold Blk at h
  simp [World.frozen?, h]
theorem Blk.new (w : World) (t : TypeId) (cs : Array Value) : Blk (w.alloc (.cells cs t)) w.heap.size t cs := heap_alloc_new w _
theorem Blk.drew (h : Blk w g t cs) : Blk w.drew g t cs := h
theorem Blk.drewN (h : Blk w g t cs) (n : Nat) : Blk (w.drewN n) g t cs := h
theorem Blk.alloc (h : Blk w g t cs) (o : Obj) : Blk (w.alloc o) g t cs := (Below.heap_alloc w o g h.lt).trans h
theorem Blk.set_ (h : Blk w g t cs) (i : Nat) (u : Value) : Blk (w.setCell ⟨g, i, none⟩ u) g t (cs.setIfInBounds i u) := by
  unfold Blk at h ⊢
  simp [World.setCell, Array.getElem?_modify, h]
theorem Blk.far (h : Blk w g t cs) {p : Addr} (hp : g ≠ p.block) (u : Value) : Blk (w.setCell p u) g t cs := (Below.heap_setCell w p u g hp).trans h
theorem Blk.grown {row : Option Nat} (h : Blk w g t cs) (hb : w.grownBy w1 row) (hg : some g ≠ row) : Blk w1 g t cs := (hb.block g h.lt hg).trans h
theorem Blk.go (h : Blk w g t cs) (hb : Below w.heap.size w w1) : Blk w1 g t cs := (hb.block g h.lt).trans h
end
/-! ### addresses -/
theorem spot_none {w : World} {a : Addr} {v : Value} (h : w.cell? a = some v) : a = ⟨a.block, a.off, none⟩ := by
  obtain ⟨g, o, s⟩ := a
  cases s with
  | none => rfl
  | some x => exfalso; revert h; simp only [World.cell?]; split <;> simp
theorem add_at (g o n : Nat) : (⟨g, o, none⟩ : Addr).add n = ⟨g, o + n, none⟩ := by unfold Addr.add; split <;> simp_all
/-- A row that is read: its address has no spot. -/
theorem row_at {α : Type} {K : α → List Value → Prop} {sz : Nat} {w : World} {A : Option Addr} {l : List α} (h : ReadsRow K sz w A l.length l) (hsz : 0 < sz) {k : Nat} (hk : k < l.length) :
    ∃ g o c, A = some ⟨g, o, none⟩ ∧ K l[k] c ∧ c.length = sz ∧ ∀ i u, c[i]? = some u → w.cell? ⟨g, o + k * sz + i, none⟩ = some u := by
  obtain ⟨ad, e, hc⟩ := h.2.2 (by omega)
  obtain ⟨c0, hl0, _, hcell0⟩ := hc 0 _ (List.getElem?_eq_getElem (by omega))
  obtain ⟨c, hl, hp, hcell⟩ := hc k _ (List.getElem?_eq_getElem hk)
  have h0 := hcell0 0 c0[0] (List.getElem?_eq_getElem (by omega))
  have hs := spot_none (a := ad) (by simpa [Addr.add] using h0)
  rw [hs] at e hcell
  refine ⟨_, _, c, e, hp, hl, fun i u hu => ?_⟩
  have := hcell i u hu
  rw [add_at] at this
  rwa [Nat.add_assoc]
end Go.Proofs.Ytfpnedooipfpoaa.Mem
