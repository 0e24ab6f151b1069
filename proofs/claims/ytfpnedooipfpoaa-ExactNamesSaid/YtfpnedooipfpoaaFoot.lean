/- Words for footprints: a world that differs from an elder one only in blocks of a set, or in new ones. Plain lemmas over any program; no condition. -/
import Derived.Test.YtfpnedooipfpoaaMem
namespace Go.Proofs.Ytfpnedooipfpoaa.Mem
open Go Go.RowKit Go.Proofs.YtfpnedooipfpoaaW.PrintWords
set_option linter.unusedVariables false
/-- Of what stood, only blocks of S may differ. -/
structure Fp (S : Nat → Prop) (w w' : World) : Prop where
  os : w'.os = w.os
  tape : w'.tape = w.tape
  output : w'.output = w.output
  size : w.heap.size ≤ w'.heap.size
  block : ∀ k, k < w.heap.size → ¬ S k → w'.heap[k]? = w.heap[k]?
section
variable {S T : Nat → Prop} {w w1 w2 : World}
theorem Fp.refl (S : Nat → Prop) (w : World) : Fp S w w := ⟨rfl, rfl, rfl, Nat.le_refl _, fun _ _ _ => rfl⟩
/-- A step more: what it may turn is in S, or new. -/
theorem Fp.next (h : Fp S w w1) (k : Fp T w1 w2) (hT : ∀ i, T i → i < w.heap.size → S i) : Fp S w w2 :=
  ⟨k.os.trans h.os, k.tape.trans h.tape, k.output.trans h.output, Nat.le_trans h.size k.size, fun i hi hc =>
    (k.block i (Nat.lt_of_lt_of_le hi h.size) (fun e => hc (hT i e hi))).trans (h.block i hi hc)⟩
theorem Fp.trans (h : Fp S w w1) (k : Fp S w1 w2) : Fp S w w2 := h.next k (fun _ e _ => e)
theorem Fp.weak (h : Fp S w w1) (hT : ∀ i, S i → i < w.heap.size → T i) : Fp T w w1 := (Fp.refl T w).next h hT
theorem Fp.of_below (h : Below w.heap.size w w1) (S : Nat → Prop) : Fp S w w1 := ⟨h.os, h.tape, h.output, h.size, fun k hk _ => h.block k hk⟩
theorem Fp.of_grown {r : Option Nat} (h : w.grownBy w1 r) : Fp (fun k => r = some k) w w1 := ⟨h.os, h.tape, h.output, h.size, fun k hk hn => h.block k hk (fun e => hn e.symm)⟩
theorem Fp.go (h : Fp S w w1) (k : Below w1.heap.size w1 w2) : Fp S w w2 := h.next (Fp.of_below k S) (fun _ e _ => e)
theorem Fp.grown {r : Option Nat} (h : Fp S w w1) (hg : w1.grownBy w2 r) (hr : ∀ k, r = some k → k < w.heap.size → S k) : Fp S w w2 := h.next (Fp.of_grown hg) hr
theorem Fp.alloc (h : Fp S w w1) (o : Obj) : Fp S w (w1.alloc o) := h.grown (r := none) (World.grownBy_alloc _ _ _) (fun _ e => by cases e)
theorem Fp.drew (h : Fp S w w1) : Fp S w w1.drew := ⟨h.os, h.tape, h.output, h.size, h.block⟩
theorem Fp.drewN (h : Fp S w w1) (n : Nat) : Fp S w (w1.drewN n) := h.go (pw_below_drewN (Below.refl _ _) n)
theorem Fp.set_ {b i : Nat} (h : Fp S w w1) (v : Value) (hb : b < w.heap.size → S b) : Fp S w (w1.setCell ⟨b, i, none⟩ v) :=
  h.grown (gb_set (i := i) v (gb_below (Below.refl _ _) (some b))) (fun k e hk => by injection e with e; subst e; exact hb hk)
theorem Fp.below {B : Nat} (h : Fp S w w1) (hS : ∀ i, S i → B ≤ i) (hB : B ≤ w.heap.size) : Below B w w1 := ⟨h.os, h.tape, h.output, h.size, fun i hi => h.block i (by omega) (fun e => by have := hS i e; omega)⟩
theorem Fp.to_below (h : Fp S w w1) (hS : ∀ i, S i → w.heap.size ≤ i) : Below w.heap.size w w1 := h.below hS (Nat.le_refl _)
theorem Blk.fp {g : Nat} {t : TypeId} {cs : Array Value} (h : Blk w g t cs) (hf : Fp S w w1) (hg : ¬ S g) : Blk w1 g t cs := (hf.block g h.lt hg).trans h
theorem own_fp {N e s n : Nat} {v : Value} {xs : List Value} (h : w.ownsRow N e s v n xs) (hf : Fp S w w1) (hd : ∀ k, v.ownBlock = some k → ¬ S k) : w1.ownsRow N e s v n xs := by
  refine ⟨h.1, ?_⟩
  rcases h.2 with hn | ⟨g, cap, cur, rfl, hb, hh, rest⟩
  · exact .inl hn
  · exact .inr ⟨g, cap, cur, rfl, hb, (Blk.fp (show Blk w g e cur from hh) hf (hd g rfl)), rest⟩
theorem own_go {N e s n : Nat} {v : Value} {xs : List Value} (h : w.ownsRow N e s v n xs) (hb : Below w.heap.size w w1) : w1.ownsRow N e s v n xs := own_fp h (Fp.of_below hb (fun _ => False)) (fun _ _ e => e)
theorem own_lt {N e s n k : Nat} {v : Value} {xs : List Value} (h : w.ownsRow N e s v n xs) (hk : v.ownBlock = some k) : k < w.heap.size := (h.lt k hk).2
/-- A row is of its own type: no block of another one. -/
theorem own_type {N e s n k : Nat} {t : TypeId} {v : Value} {xs : List Value} {cs : Array Value} (ho : w.ownsRow N e s v n xs) (h : Blk w k t cs) (ht : t ≠ e) : v.ownBlock ≠ some k := by
  rcases ho.2 with ⟨rfl, _⟩ | ⟨g', cap, cur, rfl, hb, hh, _⟩
  · simp [Value.ownBlock]
  · intro e
    simp [Value.ownBlock] at e
    subst e
    unfold Blk at h
    rw [hh] at h
    injection h with h; injection h with _ h; exact ht h.symm
theorem own_types {N e s n N' e' s' n' k : Nat} {v v' : Value} {xs xs' : List Value} (ho : w.ownsRow N e s v n xs) (ho' : w.ownsRow N' e' s' v' n' xs') (ht : e' ≠ e) (hk : v'.ownBlock = some k) : v.ownBlock ≠ some k := by
  rcases ho'.2 with ⟨rfl, _⟩ | ⟨g', cap, cur, rfl, hb, hh, _⟩
  · simp [Value.ownBlock] at hk
  · simp [Value.ownBlock] at hk
    subst hk
    exact own_type ho (show Blk w g' e' cur from hh) ht
theorem own_mono {N N' e s n : Nat} {v : Value} {xs : List Value} (h : w.ownsRow N e s v n xs) (hb : N' ≤ N) : w.ownsRow N' e s v n xs := by
  obtain ⟨h1, h2⟩ := h
  refine ⟨h1, ?_⟩
  rcases h2 with h2 | ⟨g, cap, cur, e1, hg, r⟩
  · exact .inl h2
  · exact .inr ⟨g, cap, cur, e1, by omega, r⟩
theorem own_form {N e s n : Nat} {v : Value} {xs : List Value} (h : w.ownsRow N e s v n xs) : ∃ A c, v = .slice A n c ∧ n ≤ c := by
  rcases h.2 with ⟨rfl, rfl⟩ | ⟨g, cap, cur, rfl, hb, hh, hc, _⟩
  · exact ⟨_, _, rfl, Nat.le_refl _⟩
  · exact ⟨_, _, rfl, hc⟩
end
end Go.Proofs.Ytfpnedooipfpoaa.Mem
