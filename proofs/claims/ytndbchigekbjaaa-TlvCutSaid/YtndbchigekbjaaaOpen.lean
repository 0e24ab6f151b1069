/- How attributes come in as arguments. Plain lemmas; no condition. -/
import Derived.Test.YtndbchigekbjaaaArg
import Derived.Test.YtndbchigekbjaaaPTlvCodesx0
import Derived.Test.YtndbchigekbjaaaRows
set_option linter.unusedVariables false
namespace Go.Proofs.Ytndbchigekbjaaa.Arg
open Go Go.RowKit Go.ChangeShapes Go.WideShapes Go.Joins Go.Proofs.YtndbchigekbjaaaW.PrintWords Go.Proofs.Ytndbchigekbjaaa.PTlvCodes
section
variable {H : Type} {enc : TypeId × Value → H} {w : World} {base : Nat} {spare : Nat → Bool} {held : Bool}
instance : Inhabited S48 := ⟨z48⟩
theorem bd {k : IntKind} {a : Int} (h : (Lit.int k a).wf = true) : k.min ≤ a ∧ a ≤ k.max := by
  simpa [Lit.wf] using h
theorem bd_u8 {a : Int} (h : (Lit.int .u8 a).wf = true) : 0 ≤ a ∧ a < 256 := by have := bd h; simp [IntKind.min, IntKind.max, IntKind.signed, IntKind.bits] at this; omega
theorem attr_rows {A : Option Addr} {len cap : Nat} {d : DataW H} {ps : List MemPlace} (h : DataW.Trod enc Try.prog w base spare held 22 (.slice A len cap) d ps) (hw : ∀ m ∈ d.weights Try.prog 22, m ≤ reachBytes) :
    ∃ l : List S48, l.length = len ∧ len ≤ cap ∧ len * 24 ≤ 140737488351232 ∧ (∀ x ∈ l, 0 ≤ x.f0 ∧ x.f0 < 256) ∧ Kd.C k48 w A l.length l := by
  obtain ⟨xs, h1, h2, _, h4, h5, h6⟩ := open_list (α := S48) (sz := 2) (k48.K w) (fun x => 0 ≤ x.f0 ∧ x.f0 < 256) (fun n cs y hy hq => by
    obtain ⟨y0, y1, m, rfl, hl, k0, k1⟩ := trod_struct2 Try.underlying48 hy
    have hl2 : cs.length = 2 := hl.trans (by kernel_rfl)
    match cs, hl2 with
    | [c0, c1], _ =>
      obtain ⟨a0, e0, _, g0⟩ := DataW.trod_int Try.underlying5 k0
      obtain ⟨a1, e1, _, g1⟩ := DataW.trod_string Try.underlying9 k1
      have z5 : Try.prog.cellsOf 5 = 1 := by kernel_rfl
      have z9 : Try.prog.cellsOf 9 = 1 := by kernel_rfl
      simp [z5, z9] at e0 e1
      subst e0 e1
      exact ⟨⟨a0, a1⟩, k48_mk w _, rfl, bd_u8 g0⟩) Try.underlying22 (by kernel_rfl) h hw
  refine ⟨xs, h1, h2, ?_, h5, ?_⟩
  · rwa [show Try.prog.bytesOf 48 = 24 from by kernel_rfl] at h4
  · rw [h1]; exact h6
end
end Go.Proofs.Ytndbchigekbjaaa.Arg
