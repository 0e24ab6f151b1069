/- The law of numbers. Conditions: none. -/
import Derived.Test.YtndbchigekbjaaaAwake
import Derived.Test.YtndbchigekbjaaaArg
set_option linter.unusedVariables false
set_option linter.unusedSimpArgs false
namespace Go.Proofs.Ytndbchigekbjaaa.Base
open Go Go.RowKit Go.Proofs.Ytndbchigekbjaaa.Mem Go.Proofs.YtndbchigekbjaaaW.PrintWords
theorem numbers_any (n : Nat) (hn : n < 18446744073709551616) (s : ByteArray) (most : Int) (w : World) :
    Calls Try.prog 4 #[.int .u64 (n : Int), .string s, .int .u64 most] w fun e w' => e = .returned (.bool true) ∧ Below w.heap.size w w' := by
  by_cases hs : (20000 : Int) < (s.size : Int)
  · have hd := decide_eq_true hs
    go_enter Try.func4, Try.ntmps4
    go_wp2_with fail
    refine (awake_any w).mono ?_
    rintro e w1 ⟨rfl, hb⟩
    go_wp2_with fail
    go_ret
    exact ⟨rfl, hb⟩
  · have hd := decide_eq_false hs
    have hf := readnum_f s most
    obtain ⟨r1, r2, hr⟩ : ∃ r1 r2, rnum s most = (r1, r2) := ⟨_, _, rfl⟩
    rw [hr] at hf
    have HF := Lib.hid hf
    clear hf hr
    go_enter Try.func4, Try.ntmps4
    go_wp2_with fail
    refine (PTlvNumbers.tlv_ReadNum.calls 20 s most r1 r2 w HF.out.1).mono ?_
    rintro e w1 ⟨rfl, hb1⟩
    obtain ⟨n1, e1⟩ := hb1.out
    have HB1 : Below w.heap.size w w1 := by rw [e1]; exact pw_below_drewN (Below.refl _ w) n1
    clear e1
    go_wp2_with fail
    refine (PTlvNumbers.turnoutref06_ReadNum.calls 20 s most r1 r2 w1 HF.out.2).mono ?_
    rintro e w2 ⟨rfl, hb2⟩
    obtain ⟨n2, e2⟩ := hb2.out
    have HB2 : Below w.heap.size w w2 := by rw [e2]; exact pw_below_drewN HB1 n2
    clear e2
    go_wp2_with fail
    refine (num_any n hn w2).mono ?_
    rintro e w3 ⟨rfl, hb3⟩
    have HB3 : Below w.heap.size w w3 := below_step HB2 hb3
    go_wp2_with fail
    refine (PTlvNumbers.turnoutref06_Num.calls 9 (n : Int) (strOfNums (num n)) w3 (num_f 8 n hn hn)).mono ?_
    rintro e w4 ⟨rfl, hb4⟩
    have HB4 : Below w.heap.size w w4 := below_step HB3 hb4
    go_wp2_with fail
    refine (awake_any w4).mono ?_
    rintro e w5 ⟨rfl, hb5⟩
    have HB5 : Below w.heap.size w w5 := below_step HB4 hb5
    go_wp2_with fail
    go_ret
    exact ⟨rfl, HB5⟩
end Go.Proofs.Ytndbchigekbjaaa.Base
namespace Go.Proofs.Ytndbchigekbjaaa.Numbers
open Go Go.RowKit
theorem core (n : Int) (s : ByteArray) (most : Int) (w : World) (hn : (Lit.int .u64 n).wf = true) (hs : s.size ≤ 140737488351232) (hm : (Lit.int .u64 most).wf = true) :
    Calls Try.prog 4 #[.int .u64 n, .string s, .int .u64 most] w fun e w' => e = .returned (.bool true) ∧ Below w.heap.size w w' := by
  obtain ⟨h0, h1⟩ : 0 ≤ n ∧ n < 18446744073709551616 := by
    simp [Lit.wf, IntKind.min, IntKind.max, IntKind.signed, IntKind.bits] at hn
    omega
  obtain ⟨k, rfl⟩ : ∃ k : Nat, n = (k : Int) := ⟨n.toNat, by omega⟩
  exact Base.numbers_any k (by omega) s most w
end Go.Proofs.Ytndbchigekbjaaa.Numbers
