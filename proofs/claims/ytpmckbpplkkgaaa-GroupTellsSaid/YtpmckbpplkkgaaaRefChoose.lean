/- The total and the one that is chosen, as the document has them. Conditions: as each contract says. -/
import Derived.Test.YtpmckbpplkkgaaaRefSums
set_option linter.unusedVariables false
set_option linter.unusedSimpArgs false
namespace Go.Proofs.Ytpmckbpplkkgaaa.Base
open Go Go.RowKit Go.Proofs.Ytpmckbpplkkgaaa.Mem Go.Proofs.YtpmckbpplkkgaaaW.PrintWords Go.Proofs.Ytpmckbpplkkgaaa.Fl
theorem tot_sms : ∀ (l : List Int) (s : Nat), okS l = true → tot s l = some ((sms s l).getLastD s)
  | [], s, _ => rfl
  | x :: r, s, h => by
    have h1 : may x.toNat = true ∧ okS r = true := by
      unfold okS at h ⊢
      rw [List.all_cons, Bool.and_eq_true] at h
      exact h
    rw [tot, h1.1, if_pos rfl, tot_sms r _ h1.2, sms]
    cases sms (addW s x.toNat) r <;> rfl
theorem tot_no (l : List Int) (s : Nat) (h : okS l = false) : tot s l = none := by
  have := tot_may l s
  cases ht : tot s l with
  | none => rfl
  | some t => rw [ht] at this; unfold okS at h; rw [h] at this; cases this
/-- A cell of a row of floats that is read. -/
theorem kf_at {w : World} {A : Option Addr} {m : List Nat} (h : Kd.C kf w A m.length m) (j : Nat) (y : Nat) (hj : m[j]? = some y) : ∃ ad, A = some ad ∧ w.cell? (ad.add j) = some (.float .f64 y) := by
  have hlt := (List.getElem?_eq_some_iff.1 hj).1
  obtain ⟨ad, hA, hcell⟩ := h.2.2 (by omega)
  obtain ⟨c, _, hK, hcc⟩ := hcell j y hj
  have := hcc 0 (.float .f64 y) (by rw [show c = [.float .f64 y] from hK]; rfl)
  rw [show j * kf.sz + 0 = j from by show j * 1 + 0 = j; omega] at this
  exact ⟨ad, hA, this⟩
theorem last_get (m : List Nat) (s n : Nat) (h : m.length = n + 1) : m[n]? = some (m.getLastD s) := by
  rw [List.getLastD_eq_getLast?, List.getLast?_eq_getElem?, show m.length - 1 = n by omega, List.getElem?_eq_getElem (show n < m.length by omega)]
  rfl
theorem sub_factR (n k : Nat) (h : n = k + 1) (hn : n < 1000000000) : wrap64 ((n : Int) - 1) = (k : Int) ∧ (0 : Int) ≤ (k : Int) ∧ (k : Int) < (n : Int) ∧ ((n : Int) == 0) = false ∧ (n == 0) = false := by
  refine ⟨by unfold wrap64; omega, by omega, by omega, beq_eq_false_iff_ne.2 (by omega), beq_eq_false_iff_ne.2 (by omega)⟩
theorem cls_posR (n : Nat) (hn : n < 18446744073709551616) (h : may n = true) : decide ((2 : Int) < cls n) = pos n := by
  have h1 := of_decide_eq_true h
  have hg := cls_good n hn (by omega)
  unfold pos
  refine decide_eq_decide.2 ?_
  show _ ↔ n ≠ 0 ∧ n ≠ 9223372036854775808
  omega
def QR (x : Nat) (l : List Int) (w : World) (t10 t11 : Value) (wr : World) : Prop :=
  ∃ (s i last : Nat), t10 = .int .i64 (last : Int) ∧ t11 = .int .i64 (i : Int) ∧ i ≤ l.length ∧ s < INF ∧ U s ≤ i * QQ ∧ cho x 0 0 0 l = cho x s i last (l.drop i) ∧ (∀ j, (sms 0 l)[i + j]? = (sms s (l.drop i))[j]?) ∧ wr = w
set_option maxHeartbeats 3200000 in
theorem refChoose_any (A0 : Option Addr) (c0 : Nat) (l : List Int) (h : Nat) (w : World) (h0 : Kd.C (Kd.int .u64) w A0 l.length l) (hc0 : l.length ≤ c0) (hb : inU l) (hl : l.length < 1000000000) (hh : h < 4294967296) :
    Calls Try.prog 29 #[.slice A0 l.length c0, .int .u32 (h : Int)] w fun e w' => e = .returned (.tuple #[.int .i64 ((choose l h).1 : Int), .bool (choose l h).2]) ∧ Below w.heap.size w w' := by
  have HS := Lib.hid (refsums_any A0 c0 l w h0 hc0 hb hl)
  have hu0 : U 0 ≤ 0 * QQ := by rw [show U 0 = 0 from by decide]; exact Nat.zero_le _
  have htb := tot_bound l 0 0 hb (by decide) hu0 (by omega)
  have hch : choose l h = match tot 0 l with | none => (0, false) | some all => if all = 0 then (0, false) else (cho (xof h all) 0 0 0 l, true) := rfl
  have H0 := Lib.hid h0
  have HB := Lib.hid hb
  clear h0 hb
  cases hok : okS l
  · have ht := tot_no l 0 hok
    rw [ht] at hch
    rw [hok] at HS
    have HC := Lib.hid hch
    clear ht hok hch htb hu0
    go_enter Try.func29, Try.ntmps29
    go_wp2_with fail
    refine HS.out.mono ?_
    rintro e w1 ⟨v, rfl, hr, hb1⟩
    obtain ⟨A1, c1, rfl, m1, _⟩ := Kd.R_reads hr
    clear hr
    go_wp2_with fail
    go_ret2
    refine ⟨?_, hb1⟩
    rw [HC.out]
    rfl
  · have ht := tot_sms l 0 hok
    have ho : outS l = sms 0 l := by unfold outS; rw [hok, if_pos rfl]
    have hm := sms_len l 0
    rw [ho, hok] at HS
    obtain ⟨ta, tu, tm⟩ := htb _ ht
    rw [ht] at hch
    rw [Nat.zero_add] at tu
    simp only at hch
    obtain ⟨m, hms⟩ : ∃ m, m = sms 0 l := ⟨_, rfl⟩
    rw [← hms] at HS hm hch ta tu
    have HMS := Lib.hid hms
    clear ht ho hok htb hms
    rcases Nat.eq_zero_or_pos m.length with hz | hz
    · obtain rfl := List.eq_nil_of_length_eq_zero hz
      have HC := Lib.hid (hch.trans (if_pos rfl))
      clear hz hm hch ta tu HMS hu0
      go_enter Try.func29, Try.ntmps29
      go_wp2_with fail
      refine HS.out.mono ?_
      rintro e w1 ⟨v, rfl, hr, hb1⟩
      obtain ⟨A1, c1, rfl, m1, _⟩ := Kd.R_reads hr
      clear hr
      go_wp2_with fail
      go_ret2
      refine ⟨?_, hb1⟩
      rw [HC.out]
      rfl
    · obtain ⟨n, hn⟩ : ∃ n, m.length = n + 1 := ⟨m.length - 1, by omega⟩
      have hlast := last_get m 0 n hn
      obtain ⟨f1, f2, f3, f4, f5⟩ := sub_factR m.length n hn (by omega)
      generalize m.getLastD 0 = all at *
      have hez := eq_zero all (Nat.le_of_lt ta)
      have HL := Lib.hid hlast
      have HML := Lib.hid hm
      clear hz hn hlast hm
      by_cases hall : all = 0
      · rw [decide_eq_true hall] at hez
        have HC := Lib.hid (hch.trans (if_pos hall))
        clear hch hall ta tu hu0
        go_enter Try.func29, Try.ntmps29
        go_wp2_with fail
        refine HS.out.mono ?_
        rintro e w1 ⟨v, rfl, hr, hb1⟩
        obtain ⟨A1, c1, rfl, m1, hC⟩ := Kd.R_reads hr
        obtain ⟨ad, rfl, e0⟩ := kf_at hC n all HL.out
        clear hr hC
        go_wp2_with fail
        go_ret2
        refine ⟨?_, hb1⟩
        rw [HC.out]
        rfl
      · rw [decide_eq_false hall] at hez
        have HC := Lib.hid (hch.trans (if_neg hall))
        obtain ⟨i1, i2⟩ := int_lt h hh
        have m1 := mul_lt (intW h) all i1 ta i2 (Nat.le_trans tu (Nat.mul_le_mul_right _ (by omega)))
        have d1 : divW (mulW (intW h) all) ≤ INF := Nat.le_trans (div_lt _ m1) (Nat.le_of_lt m1)
        have r1 := conv_run h
        have r2 := mul_run (intW h) all i1 ta
        have r3 := div_run (mulW (intW h) all) m1
        have HX := Lib.hid d1
        have HM := Lib.hid tm
        have hxo : xof h all = divW (mulW (intW h) all) := rfl
        rw [hxo] at HC
        generalize divW (mulW (intW h) all) = x at *
        clear hch hall ta tu i1 i2 m1 d1 hxo tm
        go_enter Try.func29, Try.ntmps29
        go_wp2_with fail
        refine HS.out.mono ?_
        rintro e w1 ⟨v, rfl, hr, hb1⟩
        obtain ⟨A1, c1, rfl, m1, hC⟩ := Kd.R_reads hr
        obtain ⟨ad, rfl, e0⟩ := kf_at hC n all HL.out
        have HCC := Lib.hid hC
        have HB1 := Lib.hid hb1
        have hR : QR x l w1 (.int .i64 0) (.int .i64 0) w1 := ⟨0, 0, 0, rfl, rfl, Nat.zero_le _, by decide, hu0, rfl, (fun j => by rw [Nat.zero_add]; rfl), rfl⟩
        clear hr hC hu0 hb1
        go_wp2_with fail
        simp only [f1]
        go_loopw [10, 11] (fun t10 t11 wr => QR x l w1 t10 t11 wr) (fun _ t11 _ => l.length - (intOf t11).toNat)
        case atStart => exact hR
        case round =>
          clear hR e0
          obtain ⟨s, i, last, rfl, rfl, hi, hs, hu, hch, hsm, rfl⟩ := hrel
          have HCH := Lib.hid hch
          have HSS := Lib.hid hs
          have HU := Lib.hid hu
          have HSM := Lib.hid hsm
          clear hch hs hu hsm
          by_cases hgo : i < l.length
          · have hd : l.drop i = l[i] :: l.drop (i + 1) := List.drop_eq_getElem_cons hgo
            have k0 : (0 : Int) ≤ (i : Int) := by omega
            have k1 : (i : Int) < (l.length : Int) := by omega
            obtain ⟨ld, c, rfl, hcl, hK, hcc⟩ := ReadsRow.get_ (Kd.C_below H0.out HB1.out) 0 (i : Int) k0 k1
            have e0 : wr.cell? (ld.add (i * 1)) = some (.int .u64 l[i]) := by
              have hg : l.getD (i : Int).toNat 0 = l[i] := by rw [Int.toNat_natCast, List.getD_eq_getElem?_getD, List.getElem?_eq_getElem hgo]; rfl
              rw [hg] at hK
              have := hcc 0 (.int .u64 l[i]) (by rw [show c = [.int .u64 l[i]] from hK]; rfl)
              rw [Int.toNat_natCast] at this
              exact this
            obtain ⟨x0, x1⟩ := HB.out l[i] (List.getElem_mem _)
            have hstep : cho x s i last (l.drop i) = if x < addW s l[i].toNat then i else cho x (addW s l[i].toNat) (i + 1) (if pos l[i].toNat then i else last) (l.drop (i + 1)) := by rw [hd]; rfl
            have hS1 : sms s (l.drop i) = addW s l[i].toNat :: sms (addW s l[i].toNat) (l.drop (i + 1)) := by rw [hd]; rfl
            have HST := Lib.hid hstep
            have HS1 := Lib.hid hS1
            have hmay := HM.out l[i] (List.getElem_mem _)
            obtain ⟨q, hq⟩ : ∃ n : Nat, l[i] = (n : Int) := ⟨l[i].toNat, by omega⟩
            rw [hq] at e0 HST HS1 hmay
            rw [Int.toNat_natCast] at HST HS1 hmay
            have hn2 : q < 18446744073709551616 := by omega
            clear hd hstep hS1 hcl hK hcc x0 x1
            generalize l[i] = y at *
            clear hq
            rw [Nat.mul_one] at e0
            obtain ⟨g1, g2⟩ := may_good q hn2 hmay
            obtain ⟨b1, b2⟩ := sum_bound s q i HSS.out HU.out g1 g2 (by omega)
            have hgt := gt_pos (addW s q) x (Nat.le_of_lt b1) HX.out
            have hcp := cls_posR q hn2 hmay
            have hmi : m[i]? = some (addW s q) := by
              have := HSM.out 0
              rw [Nat.add_zero, HS1.out, ← HMS.out] at this
              exact this
            obtain ⟨ad', hA, e1⟩ := kf_at HCC.out i (addW s q) hmi
            injection hA with hA
            subst hA
            have hml : (i : Int) < (m.length : Int) := by have := (List.getElem?_eq_some_iff.1 hmi).1; omega
            have B1 := Lib.hid b1
            have B2 := Lib.hid b2
            have HCL := Lib.hid (refclass_any q hn2)
            clear b1 b2 g1 g2 hmay hmi
            by_cases hgtx : x < addW s q
            · rw [decide_eq_true hgtx] at hgt
              have HE := Lib.hid (HST.out.trans (if_pos hgtx))
              clear hgtx HST
              go_wp2_with fail
              go_ret2
              refine ⟨?_, HB1.out⟩
              rw [HC.out, HCH.out, HE.out]
              rfl
            · rw [decide_eq_false hgtx] at hgt
              have HE := Lib.hid (HST.out.trans (if_neg hgtx))
              clear hgtx HST
              generalize cls q = cq at *
              have hnext : ∀ j, (sms 0 l)[i + 1 + j]? = (sms (addW s q) (l.drop (i + 1)))[j]? := fun j => by
                have := HSM.out (j + 1)
                rw [HS1.out, List.getElem?_cons_succ] at this
                rw [← this]
                congr 1
                omega
              have HNX := Lib.hid hnext
              clear hnext
              cases hp : pos q
              · rw [hp] at hcp HE
                clear hp
                go_wp2_with fail
                refine (HCL.out _).mono ?_
                rintro e _ ⟨rfl, rfl⟩
                go_wp2_with fail
                go_roundw
                case rel => exact ⟨addW s q, i + 1, last, rfl, by go_num, hgo, B1.out, B2.out, by rw [HCH.out, HE.out]; rfl, HNX.out, rfl⟩
                case measure => simp [intOf]; omega
              · rw [hp] at hcp HE
                clear hp
                go_wp2_with fail
                refine (HCL.out _).mono ?_
                rintro e _ ⟨rfl, rfl⟩
                go_wp2_with fail
                go_roundw
                case rel => exact ⟨addW s q, i + 1, i, rfl, by go_num, hgo, B1.out, B2.out, by rw [HCH.out, HE.out]; rfl, HNX.out, rfl⟩
                case measure => simp [intOf]; omega
          · have hd : l.drop i = [] := List.drop_eq_nil_of_le (by omega)
            have k1 : ¬ (i : Int) < (l.length : Int) := by omega
            go_wp2_with fail
            go_ret2
            refine ⟨?_, HB1.out⟩
            rw [HC.out, HCH.out, hd]
            rfl
end Go.Proofs.Ytpmckbpplkkgaaa.Base
