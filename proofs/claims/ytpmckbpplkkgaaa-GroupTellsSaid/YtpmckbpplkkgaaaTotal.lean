/- The total of weights. Conditions: as each contract says. -/
import Derived.Test.YtpmckbpplkkgaaaSum
import Derived.Test.YtpmckbpplkkgaaaMay
set_option linter.unusedVariables false
set_option linter.unusedSimpArgs false
namespace Go.Proofs.Ytpmckbpplkkgaaa.Base
open Go Go.RowKit Go.Proofs.Ytpmckbpplkkgaaa.Mem Go.Proofs.YtpmckbpplkkgaaaW.PrintWords Go.Proofs.Ytpmckbpplkkgaaa.Fl
/-- The greatest weight's magnitude. -/
def PP : Nat := 1094
def QQ : Nat := 2 ^ PP
theorem U_M : U 4697254411347427328 = QQ := by decide +kernel
theorem may_good (n : Nat) (hn : n < 18446744073709551616) (h : may n = true) : good n ∧ V n ≤ QQ := by
  have h1 := of_decide_eq_true h
  have hg := cls_good n hn (by omega)
  rcases hg with ⟨g1, g2⟩ | ⟨g1, g2⟩ | ⟨g1, g2, g3⟩ | ⟨g1, g2, g3⟩
  · subst g2
    exact ⟨.inr rfl, by rw [V_SW]; exact Nat.zero_le _⟩
  all_goals
    have hlt : n ≤ 4697254411347427328 := by omega
    have hi : n < INF := Nat.lt_of_le_of_lt hlt (by decide)
    refine ⟨.inl hi, ?_⟩
    rw [V_pos n hi, ← U_M]
    exact U_le _ _ hlt
/-- A sum of so many weights stays in its bounds. -/
theorem sum_bound (s y i : Nat) (hs : s < INF) (hu : U s ≤ i * QQ) (hy : good y) (hv : V y ≤ QQ) (hi : i < 4000000000000000) : addW s y < INF ∧ U (addW s y) ≤ (i + 1) * QQ := by
  have hB : i + 1 < 2 * B := Nat.lt_of_lt_of_le (show i + 1 < 4503599627370496 by omega) (by decide)
  obtain ⟨r, r1, r2⟩ := repr (i + 1) PP (by omega) hB (by decide)
  replace r1 : U r = (i + 1) * QQ := r1
  have hr : r < INF := Nat.lt_of_le_of_lt r2 (by decide)
  have h := spec_up _ _ r 1 (by decide) (add_spec s y hs hy).2 (Nat.le_of_lt hr) (by rw [r1, Nat.add_mul, Nat.mul_one]; omega)
  exact ⟨Nat.lt_of_le_of_lt h hr, by rw [← r1]; exact U_le _ _ h⟩
/-- The total: none, where one may not be. -/
def tot (s : Nat) : List Int → Option Nat
  | [] => some s
  | x :: r => if may x.toNat then tot (addW s x.toNat) r else none
def inU (l : List Int) : Prop := ∀ x ∈ l, 0 ≤ x ∧ x < 18446744073709551616
def TR (l : List Int) (w : World) (t4 t9 : Value) (wr : World) : Prop :=
  ∃ (s i : Nat), t4 = .float .f64 s ∧ t9 = .int .i64 (i : Int) ∧ i ≤ l.length ∧ s < INF ∧ U s ≤ i * QQ ∧ tot 0 l = tot s (l.drop i) ∧ wr = w
theorem add_run (s y : Nat) (hs : s < INF) (hy : good y) (W : World) : (binOp .add 55 (.float .f64 s) (.float .f64 y)).run Try.prog W = .ok (.float .f64 (addW s y)) W :=
  run_float_arith W .add 55 .f64 s y (addW s y) (add_spec s y hs hy).1
set_option maxHeartbeats 1600000 in
theorem total_any (A0 : Option Addr) (c0 : Nat) (l : List Int) (w : World) (h0 : Kd.C (Kd.int .u64) w A0 l.length l) (hc0 : l.length ≤ c0) (hb : inU l) (hl : l.length < 1000000000000000) :
    Calls Try.prog 39 #[.slice A0 l.length c0] w fun e w' => e = .returned (.tuple #[.float .f64 ((tot 0 l).getD 0), .bool (tot 0 l).isSome]) ∧ w = w' := by
  have hR : TR l w (.float .f64 0) (.int .i64 0) w := ⟨0, 0, rfl, rfl, Nat.zero_le _, by decide, by rw [show U 0 = 0 from by decide]; exact Nat.zero_le _, rfl, rfl⟩
  have HB := Lib.hid hb
  have H0 := Lib.hid h0
  clear hb h0
  go_enter Try.func39, Try.ntmps39
  go_wp2_with fail
  go_loopw [4, 9] (fun t4 t9 wr => TR l w t4 t9 wr) (fun _ t9 _ => l.length - (intOf t9).toNat)
  case atStart => exact hR
  case round =>
    clear hR
    obtain ⟨s, i, rfl, rfl, hi, hs, hu, ht, rfl⟩ := hrel
    have HT := Lib.hid ht
    have HS := Lib.hid hs
    have HU := Lib.hid hu
    clear ht hs hu
    by_cases hgo : i < l.length
    · have hd : l.drop i = l[i] :: l.drop (i + 1) := List.drop_eq_getElem_cons hgo
      have k0 : (0 : Int) ≤ (i : Int) := by omega
      have k1 : (i : Int) < (l.length : Int) := by omega
      obtain ⟨ad, c, rfl, hcl, hK, hcc⟩ := ReadsRow.get_ H0.out 0 (i : Int) k0 k1
      have e0 : wr.cell? (ad.add (i * 1)) = some (.int .u64 l[i]) := by
        have hg : l.getD (i : Int).toNat 0 = l[i] := by rw [Int.toNat_natCast, List.getD_eq_getElem?_getD, List.getElem?_eq_getElem hgo]; rfl
        rw [hg] at hK
        have := hcc 0 (.int .u64 l[i]) (by rw [show c = [.int .u64 l[i]] from hK]; rfl)
        rw [Int.toNat_natCast] at this
        exact this
      obtain ⟨x0, x1⟩ := HB.out l[i] (List.getElem_mem _)
      have hstep : tot s (l.drop i) = if may l[i].toNat then tot (addW s l[i].toNat) (l.drop (i + 1)) else none := by rw [hd]; rfl
      have HST := Lib.hid hstep
      obtain ⟨n, hn⟩ : ∃ n : Nat, l[i] = (n : Int) := ⟨l[i].toNat, by omega⟩
      rw [hn] at e0 HST
      rw [Int.toNat_natCast] at HST
      have hn2 : n < 18446744073709551616 := by omega
      clear hd hstep hcl hK hcc x0 x1
      generalize l[i] = x at *
      clear hn
      have HMA := Lib.hid (may_any n hn2)
      have hx := frombits (n : Int)
      rw [Int.toNat_natCast] at hx
      rw [Nat.mul_one] at e0
      cases hm : may n
      · rw [hm] at HMA HST
        go_wp2_with fail
        refine (HMA.out _).mono ?_
        rintro e _ ⟨rfl, rfl⟩
        go_wp2_with fail
        go_ret2
        refine ⟨?_, rfl⟩
        rw [HT.out, HST.out]
        rfl
      · rw [hm] at HMA HST
        obtain ⟨g1, g2⟩ := may_good n hn2 hm
        obtain ⟨b1, b2⟩ := sum_bound s n i HS.out HU.out g1 g2 (by omega)
        have hadd := add_run s n HS.out g1
        have B1 := Lib.hid b1
        have B2 := Lib.hid b2
        clear b1 b2 g1 g2 hm
        go_wp2_with fail
        refine (HMA.out _).mono ?_
        rintro e _ ⟨rfl, rfl⟩
        go_wp2_with fail
        go_roundw
        case rel => exact ⟨_, i + 1, rfl, by go_num, hgo, B1.out, B2.out, by rw [HT.out, HST.out]; rfl, rfl⟩
        case measure => simp [intOf]; omega
    · have hd : l.drop i = [] := List.drop_eq_nil_of_le (by omega)
      have k1 : ¬ (i : Int) < (l.length : Int) := by omega
      go_wp2_with fail
      go_ret2
      refine ⟨?_, rfl⟩
      rw [HT.out, hd]
      rfl
end Go.Proofs.Ytpmckbpplkkgaaa.Base
