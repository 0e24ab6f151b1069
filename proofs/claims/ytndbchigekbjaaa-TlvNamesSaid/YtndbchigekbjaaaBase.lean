/- What is thrown, and caught; a reader takes bytes. Conditions: as each contract says. -/
import Derived.Test.YtndbchigekbjaaaProg
import Derived.Test.YtndbchigekbjaaaMem
import Derived.Lib.Hide
import Derived.Recover
import Derived.Defers
import Derived.Deep.QuietTactic
import Derived.BigQuiet
import Derived.IntWalk
import Derived.Deep.DeepMust
import Derived.Laws.IdiomStrings
set_option linter.unusedVariables false
set_option linter.unusedSimpArgs false
namespace Go.Proofs.Ytndbchigekbjaaa.Base
open Go Go.RowKit Go.Proofs.Ytndbchigekbjaaa.Mem Go.Proofs.YtndbchigekbjaaaW.PrintWords
abbrev ptr (p : Nat) : Value := .pointer (some ⟨p, 0, none⟩)
abbrev errV (e : Int) : Value := .iface 27 (.int .i64 e)
abbrev thrown (e : Int) : List PanicEntry := [{ v := errV e, recovered := false }]
theorem str_ext {a b : ByteArray} (h : a.data.toList = b.data.toList) : a = b := by
  cases a; cases b; simp at h; rw [h]
theorem must_yes (w : World) : Calls Try.prog 40 #[.bool true] w fun e w' => e = .returned (.tuple #[]) ∧ w = w' := by
  go_enter Try.func40, Try.ntmps40
  go_wp2_with fail
  go_end0
  exact ⟨rfl, rfl⟩
theorem panics (e : Int) (w : World) : (Instr.panic (errV e)).run Try.prog w = .halt (.panic (errV e)) w := by rfl
theorem must_no (w : World) : Calls Try.prog 40 #[.bool false] w fun e w' => e = .panicked (thrown 3) ∧ w = w' := by
  have q := panics 3 w
  go_enter Try.func40, Try.ntmps40
  go_wp2_with fail
  exact ⟨rfl, rfl, rfl⟩
theorem take_short (p : Nat) (s : ByteArray) (n : Int) (w : World) (h : Blk w p 66 #[.string s]) (hn : (s.size : Int) < n) :
    Calls Try.prog 38 #[ptr p, .int .i64 n] w fun e w' => e = .panicked (thrown 4) ∧ w = w' := by
  have c0 := h.cell 0
  have q := panics 4 w
  go_enter Try.func38, Try.ntmps38
  go_wp2_with fail
  exact ⟨rfl, rfl, rfl⟩
theorem take_ok (p : Nat) (s : ByteArray) (n : Nat) (w : World) (h : Blk w p 66 #[.string s]) (hn : n ≤ s.size) :
    Calls Try.prog 38 #[ptr p, .int .i64 (n : Int)] w fun e w' => e = .returned (.string ⟨(s.data.toList.take n).toArray⟩) ∧ w' = w.setCell ⟨p, 0, none⟩ (.string ⟨(s.data.toList.drop n).toArray⟩) := by
  have c0 := h.cell 0
  have z0 := h.frozen 0
  have h0 : (0 : Int) ≤ (n : Int) := by omega
  have h1 : (n : Int) ≤ (s.size : Int) := by omega
  go_enter Try.func38, Try.ntmps38
  go_wp2_with fail
  go_ret
  have e1 : s.extract 0 n = ⟨(s.data.toList.take n).toArray⟩ := str_ext (by simp)
  have e2 : s.extract n s.size = ⟨(s.data.toList.drop n).toArray⟩ := by
    refine str_ext ?_
    have : (s.extract n s.size).data.toList = (s.data.toList.drop n).take (s.size - n) := by simp [List.take_drop, show n + (s.size - n) = s.size by omega]
    rw [this, List.take_of_length_le (by simp)]
  rw [e2]
  exact ⟨congrArg (fun x => Ending.returned (.string x)) e1, rfl⟩
theorem asserts (e : Int) (w : World) : (Instr.typeAssert (errV e) 20 27 true).run Try.prog w = .ok (.tuple #[.int .i64 e, .bool true]) w := by rfl
theorem caught_panics (p : Nat) (x e : Int) (older : List PanicEntry) (w : World) (h : Blk w p 27 #[.int .i64 x]) :
    CallsD Try.prog 37 #[ptr p] (.panicking ({ v := errV e, recovered := false } :: older)) w fun r u' w' =>
      r = .returned (.tuple #[]) ∧ u' = .panicking ({ v := errV e, recovered := true } :: older) ∧ w' = w.setCell ⟨p, 0, none⟩ (.int .i64 e) := by
  have c0 : w.cell? ⟨p, 0, none⟩ = some (.int .i64 x) := h.cell 0
  have z0 := h.frozen 0
  have q : (binOp BinOp.eql 20 (errV e) .nilIface).run Try.prog w = .ok (.bool false) w := by rfl
  have q2 := asserts e w
  refine callsD_of_wpS Try.func37 rfl fun c₀ cs hu => ?_
  simp only [Try.ntmps37, List.size_toArray, List.length_cons, List.length_nil, Nat.reduceAdd, Nat.reduceSub, Array.replicate_succ, Array.replicate_zero, List.push_toArray, List.append_toArray, List.nil_append, List.cons_append]
  apply wpS_seq
  apply wpS_region
  simp [wpOpsS, go_sem, recoverD, hu, Exit.thenS]
  refine wpS_of_wp ?_
  go_wp2_with fail
  trace_state
  simp [bodyPostS, results, Try.results37]
theorem caught_idle (p : Nat) (w : World) :
    CallsD Try.prog 37 #[ptr p] .returning w fun r u' w' => r = .returned (.tuple #[]) ∧ u' = .returning ∧ w' = w := by
  have q : (binOp BinOp.eql 20 .nilIface .nilIface).run Try.prog w = .ok (.bool true) w := by rfl
  refine callsD_of_wpS Try.func37 rfl fun c₀ cs hu => ?_
  simp only [Try.ntmps37, List.size_toArray, List.length_cons, List.length_nil, Nat.reduceAdd, Nat.reduceSub, Array.replicate_succ, Array.replicate_zero, List.push_toArray, List.append_toArray, List.nil_append, List.cons_append]
  apply wpS_seq
  apply wpS_region
  simp [wpOpsS, go_sem, recoverD, hu, Exit.thenS]
  refine wpS_of_wp ?_
  go_wp2_with fail
  cases c₀
  simp_all [bodyPostS, results, Try.results37]
end Go.Proofs.Ytndbchigekbjaaa.Base
