/- How a definition and acts come in as arguments. Plain lemmas; no condition. -/
import Derived.Test.YtohinfbahjepoaaArg
import Derived.Test.YtohinfbahjepoaaPlay
import Derived.Test.YtohinfbahjepoaaRows
set_option linter.unusedVariables false
namespace Go.Proofs.Ytohinfbahjepoaa.Arg
open Go Go.RowKit Go.ChangeShapes Go.WideShapes Go.Joins Go.Proofs.YtohinfbahjepoaaW.PrintWords Go.Proofs.Ytohinfbahjepoaa.Base
section
variable {H : Type} {enc : TypeId × Value → H} {w : World} {base : Nat} {spare : Nat → Bool} {held : Bool}
theorem bd {k : IntKind} {a : Int} (h : (Lit.int k a).wf = true) : k.min ≤ a ∧ a ≤ k.max := by
  simpa [Lit.wf] using h
theorem bd_u8 {a : Int} (h : (Lit.int .u8 a).wf = true) : 0 ≤ a ∧ a < 256 := by have := bd h; simp [IntKind.min, IntKind.max, IntKind.signed, IntKind.bits] at this; omega
theorem bd_u64 {a : Int} (h : (Lit.int .u64 a).wf = true) : 0 ≤ a ∧ a < 18446744073709551616 := by have := bd h; simp [IntKind.min, IntKind.max, IntKind.signed, IntKind.bits] at this; omega
theorem bd_i64 {a : Int} (h : (Lit.int .i64 a).wf = true) : -9223372036854775808 ≤ a ∧ a < 9223372036854775808 := by have := bd h; simp [IntKind.min, IntKind.max, IntKind.signed, IntKind.bits] at this; omega
theorem meter_val {r : Reach} {b0 : Nat} {v : Value} {d : DataW H} {p : List MemPlace} (hv : Value.okWide Try.prog w r b0 23 v) (h : DataW.Trod enc Try.prog w base spare held 23 v d p) (_ : ∀ m ∈ d.weights Try.prog 23, m ≤ reachBytes) :
    ∃ i r u : Int, v = .agg #[.int .i64 i, .int .i64 r, .int .i64 u] ∧ (Lit.int .i64 i).wf = true := by
  obtain ⟨v0, v1, v2, y0, y1, y2, n, rfl, rfl, rfl, h0, h1, h2⟩ := open_agg3 Try.underlying23 (by kernel_rfl) (by kernel_rfl) hv h
  obtain ⟨a0, e0, _, k0⟩ := DataW.trod_int Try.underlying3 h0
  obtain ⟨a1, e1, _, k1⟩ := DataW.trod_int Try.underlying2 h1
  obtain ⟨a2, e2, _, k2⟩ := DataW.trod_int Try.underlying2 h2
  simp at e0 e1 e2
  subst e0 e1 e2
  exact ⟨a0, a1, a2, rfl, k0⟩
theorem act_rows {A : Option Addr} {len cap : Nat} {d : DataW H} {ps : List MemPlace} (h : DataW.Trod enc Try.prog w base spare held 24 (.slice A len cap) d ps) (hw : ∀ m ∈ d.weights Try.prog 24, m ≤ reachBytes) :
    ∃ l : List Base.Act, l.length = len ∧ len ≤ cap ∧ len * 24 ≤ 140737488351232 ∧ (∀ x ∈ l, ActOk x) ∧ Acts w A l := by
  obtain ⟨xs, h1, h2, _, h4, h5, h6⟩ := open_list (α := Base.Act) (sz := 3) ActK ActOk (fun n cs y hy hq => by
    obtain ⟨y0, y1, y2, m, rfl, hl, k0, k1, k2⟩ := Go.Deep.trod_struct3 Try.underlying33 hy
    have hl3 : cs.length = 3 := hl.trans (by kernel_rfl)
    match cs, hl3 with
    | [c0, c1, c2], _ =>
      obtain ⟨a0, e0, _, g0⟩ := DataW.trod_int Try.underlying5 k0
      obtain ⟨a1, e1, _, g1⟩ := DataW.trod_int Try.underlying31 k1
      obtain ⟨a2, e2, _, g2⟩ := DataW.trod_int Try.underlying2 k2
      have z5 : Try.prog.cellsOf 5 = 1 := by kernel_rfl
      have z31 : Try.prog.cellsOf 31 = 1 := by kernel_rfl
      have z2 : Try.prog.cellsOf 2 = 1 := by kernel_rfl
      simp [z5, z31, z2] at e0 e1 e2
      subst e0 e1 e2
      exact ⟨(a0, a1, a2), rfl, rfl, bd_u8 g0, bd_u64 g1, bd_i64 g2⟩) Try.underlying24 (by kernel_rfl) h hw
  refine ⟨xs, h1, h2, ?_, h5, ⟨by rw [h1]; exact h6, h5⟩⟩
  rwa [show Try.prog.bytesOf 33 = 24 from by kernel_rfl] at h4
end
end Go.Proofs.Ytohinfbahjepoaa.Arg
