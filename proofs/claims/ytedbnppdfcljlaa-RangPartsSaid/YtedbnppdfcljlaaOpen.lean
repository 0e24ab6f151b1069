/- How acts come in as arguments. Plain lemmas; no condition. -/
import Derived.Test.YtedbnppdfcljlaaArg
import Derived.Test.YtedbnppdfcljlaaPRangMorex0
import Derived.Test.YtedbnppdfcljlaaRows
set_option linter.unusedVariables false
namespace Go.Proofs.Ytedbnppdfcljlaa.Arg
open Go Go.RowKit Go.ChangeShapes Go.WideShapes Go.Joins Go.Proofs.YtedbnppdfcljlaaW.PrintWords Go.Proofs.Ytedbnppdfcljlaa.PRangMore
section
variable {H : Type} {enc : TypeId × Value → H} {w : World} {base : Nat} {spare : Nat → Bool} {held : Bool}
instance : Inhabited S51 := ⟨z51⟩
theorem bd {k : IntKind} {a : Int} (h : (Lit.int k a).wf = true) : k.min ≤ a ∧ a ≤ k.max := by
  simpa [Lit.wf] using h
theorem bd_u8 {a : Int} (h : (Lit.int .u8 a).wf = true) : 0 ≤ a ∧ a < 256 := by have := bd h; simp [IntKind.min, IntKind.max, IntKind.signed, IntKind.bits] at this; omega
theorem trod_struct5 {P : Program} {t : TypeId} {f0 f1 f2 f3 f4 : Field} {fuel : Nat} {cs : List Value} {x : DataW H × List MemPlace} (ht : P.underlying t = some (.struct #[f0, f1, f2, f3, f4])) (h : DataW.trod enc P w base spare held fuel t cs = some x) :
    ∃ y0 y1 y2 y3 y4 n, x = (.agg [y0.1, y1.1, y2.1, y3.1, y4.1], y0.2 ++ (y1.2 ++ (y2.2 ++ (y3.2 ++ y4.2)))) ∧ cs.length = P.cellsOf t ∧ DataW.trod enc P w base spare held n f0.type ((cs.drop f0.offset).take (P.cellsOf f0.type)) = some y0 ∧
      DataW.trod enc P w base spare held n f1.type ((cs.drop f1.offset).take (P.cellsOf f1.type)) = some y1 ∧ DataW.trod enc P w base spare held n f2.type ((cs.drop f2.offset).take (P.cellsOf f2.type)) = some y2 ∧
      DataW.trod enc P w base spare held n f3.type ((cs.drop f3.offset).take (P.cellsOf f3.type)) = some y3 ∧ DataW.trod enc P w base spare held n f4.type ((cs.drop f4.offset).take (P.cellsOf f4.type)) = some y4 := by
  obtain ⟨xs, n, _, rfl, hl, hlen, hf⟩ := DataW.trod_struct ht h
  match xs, hlen with
  | [y0, y1, y2, y3, y4], _ => exact ⟨y0, y1, y2, y3, y4, n, by simp, hl, by simpa using hf 0 f0 rfl, by simpa using hf 1 f1 rfl, by simpa using hf 2 f2 rfl, by simpa using hf 3 f3 rfl, by simpa using hf 4 f4 rfl⟩
theorem act_rows {A : Option Addr} {len cap : Nat} {d : DataW H} {ps : List MemPlace} (h : DataW.Trod enc Try.prog w base spare held 34 (.slice A len cap) d ps) (hw : ∀ m ∈ d.weights Try.prog 34, m ≤ reachBytes) :
    ∃ l : List S51, l.length = len ∧ len ≤ cap ∧ len * 56 ≤ 140737488351232 ∧ (∀ x ∈ l, 0 ≤ x.f0 ∧ x.f0 < 256) ∧ Kd.C k51 w A l.length l := by
  obtain ⟨xs, h1, h2, _, h4, h5, h6⟩ := open_list (α := S51) (sz := 5) (k51.K w) (fun x => 0 ≤ x.f0 ∧ x.f0 < 256) (fun n cs y hy hq => by
    obtain ⟨y0, y1, y2, y3, y4, m, rfl, hl, k0, k1, k2, k3, k4⟩ := trod_struct5 Try.underlying51 hy
    have hl2 : cs.length = 5 := hl.trans (by kernel_rfl)
    match cs, hl2 with
    | [c0, c1, c2, c3, c4], _ =>
      obtain ⟨a0, e0, _, g0⟩ := DataW.trod_int Try.underlying5 k0
      obtain ⟨a1, e1, _, g1⟩ := DataW.trod_string Try.underlying9 k1
      obtain ⟨a2, e2, _, g2⟩ := DataW.trod_string Try.underlying9 k2
      obtain ⟨a3, e3, _, g3⟩ := DataW.trod_int Try.underlying3 k3
      obtain ⟨a4, e4, _, g4⟩ := DataW.trod_int Try.underlying3 k4
      have z5 : Try.prog.cellsOf 5 = 1 := by kernel_rfl
      have z9 : Try.prog.cellsOf 9 = 1 := by kernel_rfl
      have z3 : Try.prog.cellsOf 3 = 1 := by kernel_rfl
      simp [z5, z9, z3] at e0 e1 e2 e3 e4
      subst e0 e1 e2 e3 e4
      exact ⟨⟨a0, a1, a2, a3, a4⟩, k51_mk w _, rfl, bd_u8 g0⟩) Try.underlying34 (by kernel_rfl) h hw
  refine ⟨xs, h1, h2, ?_, h5, ?_⟩
  · rwa [show Try.prog.bytesOf 51 = 56 from by kernel_rfl] at h4
  · rw [h1]; exact h6
end
end Go.Proofs.Ytedbnppdfcljlaa.Arg
