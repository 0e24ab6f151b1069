/- How rows of bits come in as arguments. Plain lemmas; no condition. -/
import Derived.Test.YtengoedkpogegaaArg
import Derived.Test.YtengoedkpogegaaClasses
import Derived.Test.YtengoedkpogegaaRows
set_option linter.unusedVariables false
namespace Go.Proofs.Ytengoedkpogegaa.Arg
open Go Go.RowKit Go.ChangeShapes Go.WideShapes Go.Joins Go.Proofs.YtengoedkpogegaaW.PrintWords
section
variable {H : Type} {enc : TypeId × Value → H} {w : World} {base : Nat} {spare : Nat → Bool} {held : Bool}
theorem u64_rows {A : Option Addr} {len cap : Nat} {d : DataW H} {ps : List MemPlace} (h : DataW.Trod enc Try.prog w base spare held 26 (.slice A len cap) d ps) (hw : ∀ m ∈ d.weights Try.prog 26, m ≤ reachBytes) :
    ∃ l : List Int, l.length = len ∧ len ≤ cap ∧ len * 8 ≤ 140737488351232 ∧ (∀ x ∈ l, 0 ≤ x ∧ x < 18446744073709551616) ∧ Kd.C (Kd.int .u64) w A l.length l := by
  obtain ⟨xs, h1, h2, _, h4, h5, h6⟩ := open_list (α := Int) (sz := 1) ((Kd.int .u64).K w) (fun x => 0 ≤ x ∧ x < 18446744073709551616) (fun n cs y hy hq => by
    obtain ⟨a0, rfl, _, g0⟩ := DataW.trod_int Try.underlying22 hy
    exact ⟨a0, rfl, rfl, Base.wf_u64 g0⟩) Try.underlying26 (by kernel_rfl) h hw
  refine ⟨xs, h1, h2, ?_, h5, ?_⟩
  · rwa [show Try.prog.bytesOf 22 = 8 from by kernel_rfl] at h4
  · rw [h1]; exact h6
end
end Go.Proofs.Ytengoedkpogegaa.Arg
