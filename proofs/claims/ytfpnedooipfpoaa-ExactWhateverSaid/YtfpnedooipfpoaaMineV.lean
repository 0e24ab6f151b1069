/- A table that was made since, and blocks that are none of its. Conditions: as each contract says. -/
import Derived.Test.YtfpnedooipfpoaaMine
set_option linter.unusedVariables false
set_option linter.unusedSimpArgs false
namespace Go.Proofs.Ytfpnedooipfpoaa.Base
open Go Go.RowKit Go.Proofs.Ytfpnedooipfpoaa Go.Proofs.Ytfpnedooipfpoaa.Ex Go.Proofs.Ytfpnedooipfpoaa.Mem Go.Proofs.Ytfpnedooipfpoaa.Math Go.Proofs.YtfpnedooipfpoaaW.PrintWords Go.Proofs.YtfpnedooipfpoaaW.PrintLast Go.Proofs.Ytfpnedooipfpoaa.PExactHalf
/-- As Mine; V: blocks that stand and are none of the table's. -/
def MineV (V : Nat → Prop) (w0 w : World) (a : Nat) (T : Tb) : Prop := Below w0.heap.size w0 w ∧ (∀ k, V k → k < w.heap.size) ∧ ∃ O : Nat → Prop, (∀ k, O k → w0.heap.size ≤ k ∧ ¬ V k) ∧ Tto w a O T
section
variable {w0 w w1 : World} {a : Nat} {T : Tb} {V : Nat → Prop}
theorem MineV.mine (h : MineV V w0 w a T) : Mine w0 w a T := by
  obtain ⟨h1, -, O, h2, h3⟩ := h
  exact ⟨h1, O, fun k hk => (h2 k hk).1, h3⟩
theorem Mine.veil (h : Mine w0 w a T) (hb : Below w.heap.size w w1) (hV : ∀ k, V k → w.heap.size ≤ k ∧ k < w1.heap.size) : MineV V w0 w1 a T := by
  obtain ⟨h1, O, h2, h3⟩ := h
  exact ⟨below_step h1 hb, fun k hk => (hV k hk).2, O, fun k hk => ⟨h2 k hk, fun hv => by have := (hV k hv).1; have := h3.1 k hk; omega⟩, h3.go hb⟩
theorem MineV.go (h : MineV V w0 w a T) (hb : Below w.heap.size w w1) : MineV V w0 w1 a T := by
  obtain ⟨h1, h4, O, h2, h3⟩ := h
  exact ⟨below_step h1 hb, fun k hk => Nat.lt_of_lt_of_le (h4 k hk) hb.size, O, h2, h3.go hb⟩
theorem MineV.put (h : MineV V w0 w a T) (k : Key) (v : Int) (hk : k.size ≤ 140737488351232) (hp : Pw (2 * T.L.length)) : Calls Try.prog 10 #[ptr a, .string k, .int .i64 v] w fun e w' => e = .returned (.tuple #[.int .i64 (put HH T k v).1.1, .bool (put HH T k v).1.2]) ∧ MineV V w0 w' a (put HH T k v).2 ∧ Fp (fun k => ¬ V k) w w' := by
  obtain ⟨h1, h6, O, h2, h3⟩ := h
  refine (put_any a O T k v w h3 hk hp).mono ?_
  rintro e w' ⟨rfl, h4, h5⟩
  refine ⟨rfl, ⟨(Mine.wrote h1 (fun k hk => (h2 k hk).1) h4 h5).1, fun k hk => Nat.lt_of_lt_of_le (h6 k hk) h5.size, _, fun k hk => ?_, h4⟩, h5.weak (fun i hi _ => (h2 i hi).2)⟩
  rcases hk with hk | hk
  · exact h2 k hk
  · exact ⟨Nat.le_trans h1.size hk.1, fun hv => by have := h6 k hv; have := hk.1; omega⟩
end
end Go.Proofs.Ytfpnedooipfpoaa.Base
