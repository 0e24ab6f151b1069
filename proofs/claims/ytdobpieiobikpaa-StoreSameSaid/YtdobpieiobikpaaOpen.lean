/- How acts come in as an argument. Plain lemmas; no condition. -/
import Derived.Test.YtdobpieiobikpaaStep
import Derived.Test.YtdobpieiobikpaaRows
set_option linter.unusedVariables false
namespace Go.Proofs.Ytdobpieiobikpaa.Arg
open Go Go.RowKit Go.ChangeShapes Go.WideShapes Go.Joins Go.Proofs.YtdobpieiobikpaaW.PrintWords Go.Proofs.Ytdobpieiobikpaa.Base
section
variable {H : Type} {enc : TypeId × Value → H} {w : World} {base : Nat} {spare : Nat → Bool} {held : Bool}
theorem bd {k : IntKind} {a : Int} (h : (Lit.int k a).wf = true) : k.min ≤ a ∧ a ≤ k.max := by
  simpa [Lit.wf] using h
theorem bd_u8 {a : Int} (h : (Lit.int .u8 a).wf = true) : 0 ≤ a ∧ a < 256 := by have := bd h; simp [IntKind.min, IntKind.max, IntKind.signed, IntKind.bits] at this; omega
theorem bd_u64 {a : Int} (h : (Lit.int .u64 a).wf = true) : 0 ≤ a ∧ a < 18446744073709551616 := by have := bd h; simp [IntKind.min, IntKind.max, IntKind.signed, IntKind.bits] at this; omega
theorem trod_five {P : Program} {t : TypeId} {f0 f1 f2 f3 f4 : Field} {fuel : Nat} {cs : List Value} {x : DataW H × List MemPlace} (ht : P.underlying t = some (.struct #[f0, f1, f2, f3, f4])) (h : DataW.trod enc P w base spare held fuel t cs = some x) :
    ∃ y0 y1 y2 y3 y4 n, x = (.agg [y0.1, y1.1, y2.1, y3.1, y4.1], y0.2 ++ (y1.2 ++ (y2.2 ++ (y3.2 ++ y4.2)))) ∧ cs.length = P.cellsOf t ∧ DataW.trod enc P w base spare held n f0.type ((cs.drop f0.offset).take (P.cellsOf f0.type)) = some y0 ∧
      DataW.trod enc P w base spare held n f1.type ((cs.drop f1.offset).take (P.cellsOf f1.type)) = some y1 ∧ DataW.trod enc P w base spare held n f2.type ((cs.drop f2.offset).take (P.cellsOf f2.type)) = some y2 ∧
      DataW.trod enc P w base spare held n f3.type ((cs.drop f3.offset).take (P.cellsOf f3.type)) = some y3 ∧ DataW.trod enc P w base spare held n f4.type ((cs.drop f4.offset).take (P.cellsOf f4.type)) = some y4 := by
  obtain ⟨xs, n, _, rfl, hl, hlen, hf⟩ := DataW.trod_struct ht h
  match xs, hlen with
  | [y0, y1, y2, y3, y4], _ => exact ⟨y0, y1, y2, y3, y4, n, by simp, hl, by simpa using hf 0 f0 rfl, by simpa using hf 1 f1 rfl, by simpa using hf 2 f2 rfl, by simpa using hf 3 f3 rfl, by simpa using hf 4 f4 rfl⟩
theorem act_rows {A : Option Addr} {len cap : Nat} {d : DataW H} {ps : List MemPlace} (h : DataW.Trod enc Try.prog w base spare held 38 (.slice A len cap) d ps) (hw : ∀ m ∈ d.weights Try.prog 38, m ≤ reachBytes) :
    ∃ l : List Base.Act, l.length = len ∧ len ≤ cap ∧ len * 40 ≤ 140737488351232 ∧ (∀ x ∈ l, ActOk x) ∧ Acts w A l := by
  obtain ⟨xs, h1, h2, _, h4, h5, h6⟩ := open_list (α := Base.Act) (sz := 5) ActK ActOk (fun n cs y hy hq => by
    obtain ⟨y0, y1, y2, y3, y4, m, rfl, hl, k0, k1, k2, k3, k4⟩ := trod_five Try.underlying42 hy
    have hl5 : cs.length = 5 := hl.trans (by kernel_rfl)
    match cs, hl5 with
    | [c0, c1, c2, c3, c4], _ =>
      obtain ⟨a0, e0, _, g0⟩ := DataW.trod_int Try.underlying5 k0
      obtain ⟨a1, e1, _, g1⟩ := DataW.trod_int Try.underlying3 k1
      obtain ⟨a2, e2, _, g2⟩ := DataW.trod_int Try.underlying3 k2
      obtain ⟨a3, e3, _, g3⟩ := DataW.trod_int Try.underlying22 k3
      obtain ⟨a4, e4, _, g4⟩ := DataW.trod_int Try.underlying22 k4
      have z5 : Try.prog.cellsOf 5 = 1 := by kernel_rfl
      have z3 : Try.prog.cellsOf 3 = 1 := by kernel_rfl
      have z22 : Try.prog.cellsOf 22 = 1 := by kernel_rfl
      simp [z5, z3, z22] at e0 e1 e2 e3 e4
      subst e0 e1 e2 e3 e4
      exact ⟨⟨a0, a1, a2, a3, a4⟩, rfl, rfl, ⟨bd_u8 g0, g1, g2, bd_u64 g3, bd_u64 g4⟩⟩) Try.underlying38 (by kernel_rfl) h hw
  refine ⟨xs, h1, h2, ?_, h5, ⟨by rw [h1]; exact h6, h5⟩⟩
  rwa [show Try.prog.bytesOf 42 = 40 from by kernel_rfl] at h4
end
end Go.Proofs.Ytdobpieiobikpaa.Arg
