/- How a group comes in as an argument. Plain lemmas; no condition. -/
import Derived.Test.YtpmckbpplkkgaaaArg
import Derived.Test.YtpmckbpplkkgaaaGMay
import Derived.Test.YtpmckbpplkkgaaaRows
set_option linter.unusedVariables false
namespace Go.Proofs.Ytpmckbpplkkgaaa.Arg
open Go Go.RowKit Go.ChangeShapes Go.WideShapes Go.Joins Go.Proofs.YtpmckbpplkkgaaaW.PrintWords Go.Proofs.Ytpmckbpplkkgaaa.PGroupTells
section
variable {H : Type} {enc : TypeId × Value → H} {w : World} {base : Nat} {spare : Nat → Bool} {held : Bool}
instance : Inhabited S34 := ⟨z34⟩
theorem bd {k : IntKind} {a : Int} (h : (Lit.int k a).wf = true) : k.min ≤ a ∧ a ≤ k.max := by
  simpa [Lit.wf] using h
theorem bd_u8 {a : Int} (h : (Lit.int .u8 a).wf = true) : 0 ≤ a ∧ a < 256 := by have := bd h; simp [IntKind.min, IntKind.max, IntKind.signed, IntKind.bits] at this; omega
theorem bd_u64 {a : Int} (h : (Lit.int .u64 a).wf = true) : 0 ≤ a ∧ a < 18446744073709551616 := by have := bd h; simp [IntKind.min, IntKind.max, IntKind.signed, IntKind.bits] at this; omega
theorem trod_two {P : Program} {t : TypeId} {f0 f1 : Field} {fuel : Nat} {cs : List Value} {x : DataW H × List MemPlace} (ht : P.underlying t = some (.struct #[f0, f1])) (h : DataW.trod enc P w base spare held fuel t cs = some x) :
    ∃ y0 y1 n, x = (.agg [y0.1, y1.1], y0.2 ++ y1.2) ∧ cs.length = P.cellsOf t ∧ DataW.trod enc P w base spare held n f0.type ((cs.drop f0.offset).take (P.cellsOf f0.type)) = some y0 ∧
      DataW.trod enc P w base spare held n f1.type ((cs.drop f1.offset).take (P.cellsOf f1.type)) = some y1 := by
  obtain ⟨xs, n, _, rfl, hl, hlen, hf⟩ := DataW.trod_struct ht h
  match xs, hlen with
  | [y0, y1], _ => exact ⟨y0, y1, n, by simp, hl, by simpa using hf 0 f0 rfl, by simpa using hf 1 f1 rfl⟩
theorem bucket_rows {A : Option Addr} {len cap : Nat} {d : DataW H} {ps : List MemPlace} (h : DataW.Trod enc Try.prog w base spare held 23 (.slice A len cap) d ps) (hw : ∀ m ∈ d.weights Try.prog 23, m ≤ reachBytes) :
    ∃ l : List S34, l.length = len ∧ len ≤ cap ∧ len * 16 ≤ 140737488351232 ∧ (∀ x ∈ l, 0 ≤ x.f0 ∧ x.f0 < 18446744073709551616) ∧ Kd.C k34 w A l.length l := by
  obtain ⟨xs, h1, h2, _, h4, h5, h6⟩ := open_list (α := S34) (sz := 2) (k34.K w) (fun x => 0 ≤ x.f0 ∧ x.f0 < 18446744073709551616) (fun n cs y hy hq => by
    obtain ⟨y0, y1, m, rfl, hl, k0, k1⟩ := trod_two Try.underlying34 hy
    have hl2 : cs.length = 2 := hl.trans (by kernel_rfl)
    match cs, hl2 with
    | [c0, c1], _ =>
      obtain ⟨a0, e0, _, g0⟩ := DataW.trod_int Try.underlying25 k0
      obtain ⟨a1, e1, _, g1⟩ := DataW.trod_int Try.underlying3 k1
      have z25 : Try.prog.cellsOf 25 = 1 := by kernel_rfl
      have z3 : Try.prog.cellsOf 3 = 1 := by kernel_rfl
      simp [z25, z3] at e0 e1
      subst e0 e1
      exact ⟨⟨a0, a1⟩, k34_mk w _, rfl, bd_u64 g0⟩) Try.underlying23 (by kernel_rfl) h hw
  refine ⟨xs, h1, h2, ?_, h5, ?_⟩
  · rwa [show Try.prog.bytesOf 34 = 16 from by kernel_rfl] at h4
  · rw [h1]; exact h6
theorem group_val {r : Reach} {b0 : Nat} {v : Value} {d : DataW H} {p : List MemPlace} (hv : Value.okWide Try.prog w r b0 27 v) (h : DataW.Trod enc Try.prog w base spare held 27 v d p) (hw : ∀ m ∈ d.weights Try.prog 27, m ≤ reachBytes) :
    ∃ (i k f : Int) (A : Option Addr) (c : Nat) (l : List S34), v = .agg #[.int .i64 i, .int .u8 k, .int .i64 f, .slice A l.length c] ∧ (0 ≤ k ∧ k < 256) ∧ l.length ≤ c ∧ l.length * 16 ≤ 140737488351232 ∧ Base.inB l ∧ Kd.C k34 w A l.length l := by
  obtain ⟨v0, v1, v2, v3, y0, y1, y2, y3, n, rfl, rfl, rfl, h0, h1, h2, h3⟩ := open_agg4 Try.underlying27 (by kernel_rfl) (by kernel_rfl) hv h
  obtain ⟨a0, e0, _, k0⟩ := DataW.trod_int Try.underlying3 h0
  obtain ⟨a1, e1, _, k1⟩ := DataW.trod_int Try.underlying5 h1
  obtain ⟨a2, e2, _, k2⟩ := DataW.trod_int Try.underlying3 h2
  simp at e0 e1 e2
  subst e0 e1 e2
  have hw3 : ∀ m ∈ y3.1.weights Try.prog 23, m ≤ reachBytes := fun m hm => hw m (by
    simp only [DataW.weights, Try.underlying27]
    exact DataW.weights_mem_each (j := 3) rfl rfl m hm)
  have hs : ∃ A l c, v3 = .slice A l c := by
    rcases Go.Deep.open_slice Try.underlying23 h3 with ⟨hcs, hx⟩ | ⟨a, l, c, m, n, D, Pl, hcs, _⟩
    · exact ⟨_, _, _, by simpa using hcs⟩
    · exact ⟨_, _, _, by simpa using hcs⟩
  obtain ⟨A, len, c, rfl⟩ := hs
  obtain ⟨l, rfl, q1, q2, q3, q4⟩ := bucket_rows (d := y3.1) (ps := y3.2) ⟨n, h3⟩ hw3
  exact ⟨a0, a1, a2, A, c, l, rfl, bd_u8 k1, q1, q2, q3, q4⟩
end
end Go.Proofs.Ytpmckbpplkkgaaa.Arg
