/- How acts come in as an argument. Plain lemmas; no condition. -/
import Derived.Test.YtfpnedooipfpoaaArg
import Derived.Test.YtfpnedooipfpoaaPExactHalfx0
import Derived.Test.YtfpnedooipfpoaaRows
set_option linter.unusedVariables false
namespace Go.Proofs.Ytfpnedooipfpoaa.Arg
open Go Go.RowKit Go.ChangeShapes Go.WideShapes Go.Joins Go.Proofs.YtfpnedooipfpoaaW.PrintWords Go.Proofs.Ytfpnedooipfpoaa.PExactHalf
section
variable {H : Type} {enc : TypeId × Value → H} {w : World} {base : Nat} {spare : Nat → Bool} {held : Bool}
instance : Inhabited S28 := ⟨z28⟩
theorem act_rows {A : Option Addr} {len cap : Nat} {d : DataW H} {ps : List MemPlace} (h : DataW.Trod enc Try.prog w base spare held 22 (.slice A len cap) d ps) (hw : ∀ m ∈ d.weights Try.prog 22, m ≤ reachBytes) :
    ∃ l : List S28, l.length = len ∧ len ≤ cap ∧ len * 32 ≤ 140737488351232 ∧ (∀ x ∈ l, True) ∧ Kd.C k28 w A l.length l := by
  obtain ⟨xs, h1, h2, _, h4, h5, h6⟩ := open_list (α := S28) (sz := 3) (k28.K w) (fun _ => True) (fun n cs y hy hq => by
    obtain ⟨y0, y1, y2, m, rfl, hl, k0, k1, k2⟩ := Go.Deep.trod_struct3 Try.underlying28 hy
    have hl3 : cs.length = 3 := hl.trans (by kernel_rfl)
    match cs, hl3 with
    | [c0, c1, c2], _ =>
      obtain ⟨a0, e0, _, g0⟩ := DataW.trod_int Try.underlying5 k0
      obtain ⟨a1, e1, _, g1⟩ := DataW.trod_string Try.underlying9 k1
      obtain ⟨a2, e2, _, g2⟩ := DataW.trod_int Try.underlying3 k2
      have z5 : Try.prog.cellsOf 5 = 1 := by kernel_rfl
      have z9 : Try.prog.cellsOf 9 = 1 := by kernel_rfl
      have z3 : Try.prog.cellsOf 3 = 1 := by kernel_rfl
      simp [z5, z9, z3] at e0 e1 e2
      subst e0 e1 e2
      exact ⟨⟨a0, a1, a2⟩, k28_mk w ⟨a0, a1, a2⟩, rfl, trivial⟩) Try.underlying22 (by kernel_rfl) h hw
  refine ⟨xs, h1, h2, ?_, h5, by rw [h1]; exact h6⟩
  rwa [show Try.prog.bytesOf 28 = 32 from by kernel_rfl] at h4
end
end Go.Proofs.Ytfpnedooipfpoaa.Arg
