/- The sums, as the document has them. Conditions: as each contract says. -/
import Derived.Test.YtpmckbpplkkgaaaOne
set_option linter.unusedVariables false
set_option linter.unusedSimpArgs false
namespace Go.Proofs.Ytpmckbpplkkgaaa.Base
open Go Go.RowKit Go.Proofs.Ytpmckbpplkkgaaa.Mem Go.Proofs.YtpmckbpplkkgaaaW.PrintWords Go.Proofs.Ytpmckbpplkkgaaa.Fl
def kf : Kd Nat := Kd.scalar (Value.float .f64) (fun _ => rfl)
theorem info38 : (Try.prog.info? 55).map (fun i => (i.zero, i.size, i.bytes)) = some (some (.float .f64 0), 1, 8) := by kernel_rfl
theorem kf_M (W : World) (N : Nat) (x : Nat) : kf.M W N (fun _ => False) x [.float .f64 x] := rfl
def sms (s : Nat) : List Int → List Nat
  | [] => []
  | x :: r => addW s x.toNat :: sms (addW s x.toNat) r
theorem sms_len : ∀ (l : List Int) (s : Nat), (sms s l).length = l.length
  | [], _ => rfl
  | x :: r, s => by rw [sms, List.length_cons, List.length_cons, sms_len r]
def okS (l : List Int) : Bool := l.all (fun y => may y.toNat)
def outS (l : List Int) : List Nat := if okS l then sms 0 l else []
def SR (l : List Int) (w : World) (t4 t5 t6 : Value) (wr : World) : Prop :=
  ∃ (s i : Nat) (out : List Nat), t5 = .float .f64 s ∧ t6 = .int .i64 (i : Int) ∧ i ≤ l.length ∧ s < INF ∧ U s ≤ i * QQ ∧ Kd.R kf 55 wr w.heap.size (fun _ => True) t4 out ∧ Below w.heap.size w wr ∧
    sms 0 l = out ++ sms s (l.drop i) ∧ ((l.drop i).all (fun y => may y.toNat) = l.all (fun y => may y.toNat)) ∧ out.length = i
set_option maxHeartbeats 3200000 in
theorem refsums_any (A0 : Option Addr) (c0 : Nat) (l : List Int) (w : World) (h0 : Kd.C (Kd.int .u64) w A0 l.length l) (hc0 : l.length ≤ c0) (hb : inU l) (hl : l.length < 1000000000) :
    Calls Try.prog 40 #[.slice A0 l.length c0] w fun e w' => ∃ v, e = .returned (.tuple #[v, .bool (okS l)]) ∧ Kd.R kf 55 w' w.heap.size (fun _ => True) v (outS l) ∧ Below w.heap.size w w' := by
  have hR : SR l w (.slice none 0 0) (.float .f64 0) (.int .i64 0) w := ⟨0, 0, [], rfl, rfl, Nat.zero_le _, by decide, by rw [show U 0 = 0 from by decide]; exact Nat.zero_le _, Kd.R_nil _ _ _ _ _, Below.refl _ _, rfl, rfl, rfl⟩
  have HB := Lib.hid hb
  have H0 := Lib.hid h0
  clear hb h0
  go_enter Try.func40, Try.ntmps40
  go_wp2_with fail
  go_loopw [4, 5, 6] (fun t4 t5 t6 wr => SR l w t4 t5 t6 wr) (fun _ _ t6 _ => l.length - (intOf t6).toNat)
  case atStart => exact hR
  case round =>
    clear hR
    obtain ⟨s, i, out, rfl, rfl, hi, hs, hu, hRow, HBW, hsm, ha, hol⟩ := hrel
    have HA := Lib.hid ha
    have HS := Lib.hid hs
    have HU := Lib.hid hu
    have HSM := Lib.hid hsm
    have HOL := Lib.hid hol
    clear ha hs hu hsm hol
    obtain ⟨A4, c4, rfl, m4, _⟩ := Kd.R_reads hRow
    generalize hu4 : Value.slice A4 out.length c4 = u4 at *
    have HU4 := Lib.hid hu4
    clear hu4
    by_cases hgo : i < l.length
    · have hd : l.drop i = l[i] :: l.drop (i + 1) := List.drop_eq_getElem_cons hgo
      have k0 : (0 : Int) ≤ (i : Int) := by omega
      have k1 : (i : Int) < (l.length : Int) := by omega
      obtain ⟨ad, c, rfl, hcl, hK, hcc⟩ := ReadsRow.get_ (Kd.C_below H0.out HBW) 0 (i : Int) k0 k1
      have e0 : wr.cell? (ad.add (i * 1)) = some (.int .u64 l[i]) := by
        have hg : l.getD (i : Int).toNat 0 = l[i] := by rw [Int.toNat_natCast, List.getD_eq_getElem?_getD, List.getElem?_eq_getElem hgo]; rfl
        rw [hg] at hK
        have := hcc 0 (.int .u64 l[i]) (by rw [show c = [.int .u64 l[i]] from hK]; rfl)
        rw [Int.toNat_natCast] at this
        exact this
      obtain ⟨x0, x1⟩ := HB.out l[i] (List.getElem_mem _)
      have hA1 : (l.drop i).all (fun y => may y.toNat) = (may l[i].toNat && (l.drop (i + 1)).all (fun y => may y.toNat)) := by rw [hd, List.all_cons]
      have hS1 : sms s (l.drop i) = addW s l[i].toNat :: sms (addW s l[i].toNat) (l.drop (i + 1)) := by rw [hd]; rfl
      have HA1 := Lib.hid hA1
      have HS1 := Lib.hid hS1
      obtain ⟨n, hn⟩ : ∃ n : Nat, l[i] = (n : Int) := ⟨l[i].toNat, by omega⟩
      rw [hn] at e0 HA1 HS1
      rw [Int.toNat_natCast] at HA1 HS1
      have hn2 : n < 18446744073709551616 := by omega
      clear hd hA1 hS1 hcl hK hcc x0 x1
      generalize l[i] = y at *
      clear hn
      have hx := frombits (n : Int)
      rw [Int.toNat_natCast] at hx
      rw [Nat.mul_one] at e0
      have HMA := Lib.hid (refmay_any n hn2)
      have HCL := Lib.hid (refclass_any n hn2)
      cases hm : may n
      · rw [hm] at HA1 HMA
        have HF := Lib.hid (show l.all (fun y => may y.toNat) = false by rw [← HA.out, HA1.out]; rfl)
        clear hm
        go_wp2_with fail
        refine (HMA.out _).mono ?_
        rintro e _ ⟨rfl, rfl⟩
        go_wp2_with fail
        go_ret2
        have f1 : okS l = false := HF.out
        have f2 : outS l = [] := by unfold outS; rw [f1]; rfl
        rw [f1, f2]
        refine ⟨.slice none 0 0, ?_, Kd.R_nil _ _ _ _ _, HBW⟩
        rfl
      · obtain ⟨g1, g2⟩ := may_good n hn2 hm
        obtain ⟨b1, b2⟩ := sum_bound s n i HS.out HU.out g1 g2 (by omega)
        have hadd := add_run s n HS.out g1
        have hcg := cls_good n hn2 (by have := of_decide_eq_true hm; omega)
        have hlen : out.length < 1000000000 := by rw [HOL.out]; omega
        have B1 := Lib.hid b1
        have B2 := Lib.hid b2
        rw [hm] at HA1 HMA
        have hz : (cls n = 2 ∧ addW s n = s) ∨ cls n ≠ 2 := by
          by_cases h2 : cls n = 2
          · have hn0 : n = 9223372036854775808 := by omega
            exact .inl ⟨h2, add_zero s n HS.out g1 (by rw [hn0]; decide)⟩
          · exact .inr h2
        clear b1 b2 g1 g2 hm hcg
        rcases hz with ⟨hz, hza⟩ | hz
        · have HZ := Lib.hid hz
          have HZA := Lib.hid hza
          clear hz hza hadd
          go_wp2_with fail
          refine (HMA.out _).mono ?_
          rintro e _ ⟨rfl, rfl⟩
          go_wp2_with fail
          refine (HCL.out _).mono ?_
          rintro e _ ⟨rfl, rfl⟩
          rw [HZ.out]
          go_wp2_with (at_builtin; go_must (refine Kd.R_append kf (w0 := w) w.heap.size rfl _ _ 64 55 (.float .f64 0) 8 rfl Try.underlying64 info38 rfl (by decide) (by decide) u4 out (s) [.float .f64 (s)] (fun _ => True) (fun _ => False) (by rfl) (by rfl) (kf_M _ _ _) (fun _ hk => hk.elim) (fun _ _ => trivial) hRow HBW HBW.size (by omega) ?_; intro v5 w5 ho5 hb5 hg5 hat5))
          refine ⟨⟨s, i + 1, out ++ [s], rfl, rfl, hgo, HS.out, by have := B2.out; rw [HZA.out] at this; exact this, ho5, hb5, by rw [HSM.out, HS1.out, HZA.out, List.append_assoc]; rfl, by rw [← HA.out, HA1.out]; rfl, by rw [List.length_append, HOL.out]; rfl⟩, ?_⟩
          simp [intOf]
          omega
        · have hc2 : (cls n != 2) = true := bne_iff_ne.2 hz
          generalize cls n = cn at *
          clear hz
          go_wp2_with fail
          refine (HMA.out _).mono ?_
          rintro e _ ⟨rfl, rfl⟩
          go_wp2_with fail
          refine (HCL.out _).mono ?_
          rintro e _ ⟨rfl, rfl⟩
          generalize hsn : addW s n = sn at *
          have HSN := Lib.hid hsn
          clear hsn
          go_wp2_with (at_builtin; go_must (refine Kd.R_append kf (w0 := w) w.heap.size rfl _ _ 64 55 (.float .f64 0) 8 rfl Try.underlying64 info38 rfl (by decide) (by decide) u4 out (sn) [.float .f64 (sn)] (fun _ => True) (fun _ => False) (by rfl) (by rfl) (kf_M _ _ _) (fun _ hk => hk.elim) (fun _ _ => trivial) hRow HBW HBW.size (by omega) ?_; intro v5 w5 ho5 hb5 hg5 hat5))
          refine ⟨⟨sn, i + 1, out ++ [sn], rfl, rfl, hgo, B1.out, B2.out, ho5, hb5, by rw [HSM.out, HS1.out, List.append_assoc]; rfl, by rw [← HA.out, HA1.out]; rfl, by rw [List.length_append, HOL.out]; rfl⟩, ?_⟩
          simp [intOf]
          omega
    · have hd : l.drop i = [] := List.drop_eq_nil_of_le (by omega)
      have k1 : ¬ (i : Int) < (l.length : Int) := by omega
      have HF := Lib.hid (show l.all (fun y => may y.toNat) = true by rw [← HA.out, hd]; rfl)
      have HSM2 := Lib.hid (show sms 0 l = out by rw [HSM.out, hd, sms, List.append_nil])
      go_wp2_with fail
      go_ret2
      have f1 : okS l = true := HF.out
      have f2 : outS l = out := by unfold outS; rw [f1, if_pos rfl]; exact HSM2.out
      rw [f1, f2]
      refine ⟨u4, ?_, hRow, HBW⟩
      rfl
end Go.Proofs.Ytpmckbpplkkgaaa.Base
