/- Of n buckets of one weight, a power of 2, the number's place is gone: the law's walk. Conditions: as each contract says. -/
import Derived.Test.YtpmckbpplkkgaaaEvenPure
set_option linter.unusedVariables false
set_option linter.unusedSimpArgs false
namespace Go.Proofs.Ytpmckbpplkkgaaa.Base
open Go Go.RowKit Go.Proofs.Ytpmckbpplkkgaaa.Mem Go.Proofs.YtpmckbpplkkgaaaW.PrintWords Go.Proofs.YtpmckbpplkkgaaaW.PrintLast Go.Proofs.Ytpmckbpplkkgaaa.Fl
open Go.Proofs.Ytpmckbpplkkgaaa.PGroupTells (S34 z34 k34 k34_open k34_mk)
theorem rem_n (n : Int) (c : Nat) (hc : 0 < c) : ∃ k : Nat, k < c ∧ (IntKind.u64.wrap n).tmod (c : Int) = (k : Int) := by
  have hw : ∀ x : Int, IntKind.u64.wrap x = x % 18446744073709551616 := fun x => by simp [IntKind.wrap, IntKind.signed, IntKind.bits]
  obtain ⟨u, hu⟩ : ∃ u : Nat, IntKind.u64.wrap n = (u : Int) := ⟨(n % 18446744073709551616).toNat, by rw [hw]; omega⟩
  exact ⟨u % c, Nat.mod_lt _ hc, by rw [hu]; rfl⟩
theorem even_num (h k : Nat) (hh : h < 4294967296) (hk : k < 16) : wrap64 (IntKind.u64.wrap ((h : Int) * (1 + (k : Int))) / 4294967296) = ((h * (k + 1) / 4294967296 : Nat) : Int) := by
  have hw : ∀ x : Int, IntKind.u64.wrap x = x % 18446744073709551616 := fun x => by simp [IntKind.wrap, IntKind.signed, IntKind.bits]
  have e : (h : Int) * (1 + (k : Int)) = ((h * (k + 1) : Nat) : Int) := by
    rw [show (1 + (k : Int)) = ((k + 1 : Nat) : Int) by omega]
    exact (Int.natCast_mul ..).symm
  have hb : h * (k + 1) < 4294967296 * 17 := Nat.lt_of_le_of_lt (Nat.mul_le_mul_left h (show k + 1 ≤ 16 by omega)) (by omega)
  rw [e]
  generalize h * (k + 1) = x at *
  rw [hw]
  unfold wrap64
  omega
set_option maxHeartbeats 1600000 in
theorem even_any (h : Nat) (n power : Int) (hh : h < 4294967296) (w : World) : Calls Try.prog 7 #[.int .u32 (h : Int), .int .i64 n, .int .i64 power] w fun e w' => e = .returned (.bool true) ∧ Below w.heap.size w w' := by
  obtain ⟨k, hk, d1⟩ := rem_n n 16 (by decide)
  obtain ⟨j, hj, f1⟩ := rem_n power 41 (by decide)
  have d1' : (IntKind.u64.wrap n).tmod 16 = (k : Int) := d1
  have f1' : (IntKind.u64.wrap power).tmod 41 = (j : Int) := f1
  clear d1 f1
  go_enter Try.func7, Try.ntmps7
  go_wp2_with fail
  refine (awake_any _).mono ?_
  rintro e w1 ⟨rfl, hb1⟩
  go_wp2_with fail
  have e2 : ((1003 + (j : Int)) * 4503599627370496) = ((pwN j : Nat) : Int) := by unfold pwN; omega
  have e1 : (1 + (k : Int)) = ((k + 1 : Nat) : Int) := by omega
  rw [even_num h k hh hk, e2, e1]
  have hGE := goes_even (k + 1) h j (by omega) (by omega) hh hj
  have hIB := inb_even (k + 1) j hj
  have HBK := Lib.hid (buckets_any (k + 1) ((pwN j : Nat) : Int) w1 (by omega))
  generalize h * (k + 1) / 4294967296 = q at *
  have hlen : (List.replicate (k + 1) (⟨((pwN j : Nat) : Int), 9⟩ : S34)).length = k + 1 := List.length_replicate ..
  generalize hL : List.replicate (k + 1) (⟨((pwN j : Nat) : Int), 9⟩ : S34) = L at *
  generalize pwN j = pj at *
  clear e1 e2 d1' f1'
  generalize hK : k + 1 = K at *
  have HB1 := Lib.hid hb1
  have HGE := Lib.hid hGE
  have HIB := Lib.hid hIB
  have HLEN := Lib.hid hlen
  have hK16 : K ≤ 16 := by omega
  clear hb1 hGE hIB hL hlen hK hk
  refine HBK.out.mono ?_
  rintro e w2 ⟨A, c, rfl, hc, hC, hb2⟩
  have HG := goes_lit 3 2 4 A c L h [(q : Int)] w2 (by rw [HLEN.out]; exact hC) HIB.out (by rw [HLEN.out]; omega) hh (by show 1 ≤ 1000; decide)
  rw [HLEN.out, HGE.out] at HG
  have HG := Lib.hid HG
  have HB2 := Lib.hid (HB1.out.trans (hb2.mono HB1.out.size))
  clear hC hb2 HBK HB1 HGE HIB HLEN
  go_wp2_with fail
  refine HG.out.mono ?_
  rintro e w3 ⟨rfl, hb3⟩
  have HB3 := Lib.hid (HB2.out.trans (hb3.mono HB2.out.size))
  clear hb3 HB2 HG
  go_wp2_with fail
  go_ret
  exact ⟨rfl, HB3.out⟩
end Go.Proofs.Ytpmckbpplkkgaaa.Base
namespace Go.Proofs.Ytpmckbpplkkgaaa.Even
open Go Go.RowKit
theorem core (h n m : Int) (w : World) (hh : (Lit.int .u32 h).wf = true) (hn : (Lit.int .i64 n).wf = true) (hm : (Lit.int .i64 m).wf = true) :
    Calls Try.prog 7 #[.int .u32 h, .int .i64 n, .int .i64 m] w fun e w' => e = .returned (.bool true) ∧ Below w.heap.size w w' := by
  have h2 : 0 ≤ h ∧ h < 4294967296 := by
    have : IntKind.u32.min ≤ h ∧ h ≤ IntKind.u32.max := by simpa [Lit.wf] using hh
    simp [IntKind.min, IntKind.max, IntKind.signed, IntKind.bits] at this
    omega
  obtain ⟨h2, h3⟩ := h2
  obtain ⟨j, rfl⟩ : ∃ k : Nat, h = (k : Int) := ⟨h.toNat, by omega⟩
  exact Base.even_any j n m (by omega) w
end Go.Proofs.Ytpmckbpplkkgaaa.Even
