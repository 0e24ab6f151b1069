/- The law that with one range more Find tells it just if it is the best one. Conditions: none. -/
import Derived.Test.YtedbnppdfcljlaaMore0
set_option linter.unusedVariables false
set_option linter.unusedSimpArgs false
namespace Go.Proofs.Ytedbnppdfcljlaa.Base
open Go Go.RowKit Go.Proofs.Ytedbnppdfcljlaa.Mem Go.Proofs.YtedbnppdfcljlaaW.PrintWords Go.Proofs.YtedbnppdfcljlaaW.PrintLast
open Go.Proofs.Ytedbnppdfcljlaa.PRangMore (S42 S51 z42 z51 k42 k51 k42_open k51_open eqA42 rd_T42 rd_T51)
open Go.Proofs.Ytedbnppdfcljlaa
theorem best_app (p : S42 → Bool) (b : List S42) : ∀ (a : List S42) (o : Option S42), best p o (a ++ b) = best p (best p o a) b
  | [], o => by cases o <;> rfl
  | x :: r, none => by rw [List.cons_append, best, best, best_app p b r]
  | x :: r, some y => by rw [List.cons_append, best, best, best_app p b r]
/-- What Find tells with one range more. -/
theorem find_more (L : List S42) (x : S42) (key : ByteArray) :
    find E21 (L ++ [x]) key = if wthn x key && (match bst L key 0 none L with | none => true | some k => decide ((L.getD k z42).f2 < x.f2)) then (x.f3, true) else find E21 L key := by
  have hE : lastE E21 = 3 := rfl
  unfold find
  rw [hE]
  by_cases hk : key.size = 3
  · rw [show (key.size == 3) = true from beq_iff_eq.2 hk, if_pos rfl, if_pos rfl, best_app]
    have hb := bst_best L key hk L 0 none rfl
    rw [Option.map_none] at hb
    rw [← hb]
    have hw : wthn x key = win E21 key x := by simp [wthn, hk]
    rw [hw]
    cases bst L key 0 none L with
    | none =>
      simp only [Option.map_none, best, Bool.and_true]
      cases win E21 key x <;> rfl
    | some k =>
      simp only [Option.map_some, best]
      cases win E21 key x
      · rfl
      · cases decide ((L.getD k z42).f2 < x.f2) <;> rfl
  · have hw : wthn x key = false := by simp [wthn, hk]
    rw [show (key.size == 3) = false from beq_eq_false_iff_ne.2 hk, hw]
    rfl
theorem del_del (low high : ByteArray) (prio : Int) (l : List S42) : del low high prio (del low high prio l) = del low high prio l := by
  unfold del
  rw [List.filter_filter]
  simp
theorem put_del (low high : ByteArray) (prio v : Int) (l : List S42) (h : putOK E21 low high = true) : put E21 low high prio v (del low high prio l) = del low high prio l ++ [⟨low, high, prio, v⟩] := by
  rw [put, if_pos h, del_del]
theorem putOK_sizes {low high : ByteArray} (h : putOK E21 low high = true) : low.size = 3 ∧ high.size = 3 := by
  unfold putOK at h
  simp only [Bool.and_eq_true, beq_iff_eq] at h
  exact ⟨h.1, h.2.1⟩
theorem row_apart {w w1 : World} {g : Nat} {ev v va : Value} {ends : List Nat} {l : List S42} {n : Nat} {xs : List Value} (hS : SetAt w g ev v ends l) (hr : w1.ownsRow w.heap.size 42 4 va n xs) : ∀ k, va.ownBlock = some k → ¬ Own g v k := by
  intro k e ho
  have h1 := (hr.lt k e).1
  rcases ho with rfl | ho
  · have := hS.lt; omega
  · have := own_lt hS.rows ho; omega
theorem acts_le (l : List S51) (h : l.length ≤ 300) : (acts l).length ≤ 300 := by
  have := acts_len l []
  simp only [List.length_nil] at this
  unfold acts
  omega
theorem e21 : okW [2, 1] = true := by decide
theorem neq_e (x : S42) (w : World) : True := trivial
attribute [local go_sem high] eqA42
set_option maxHeartbeats 1600000 in
set_option maxRecDepth 100000 in
theorem more_any (A : Option Addr) (c : Nat) (l : List S51) (low high : ByteArray) (prio : Int) (key : ByteArray) (w : World) (h : Kd.C k51 w A l.length l) (hc : l.length ≤ c) (hu : ∀ a ∈ l, 0 ≤ a.f0 ∧ a.f0 < 256) (hl : l.length < 1000000000000000)
    (s1 : low.size ≤ 140737488351232) (s2 : high.size ≤ 140737488351232) (s3 : key.size ≤ 140737488351232) :
    Calls Try.prog 4 #[.slice A l.length c, .string low, .string high, .int .i64 prio, .string key] w fun e w' => e = .returned (.bool true) ∧ Below w.heap.size w w' := by
  obtain ⟨r, hr, hL⟩ := long_any A c l w h hc hl
  have HL := Lib.hid hL
  have z1 : wrap64 ((low.size : Int) + (high.size : Int)) = ((low.size + high.size : Nat) : Int) := by rw [show ((low.size : Int) + (high.size : Int)) = ((low.size + high.size : Nat) : Int) from by omega, w64 _ (by omega)]
  cases r
  · have hl3 := hr rfl
    by_cases hz : 1000 < low.size + high.size + key.size
    · clear h hL hr
      go_enter Try.func4, Try.ntmps4
      go_wp2_with fail
      refine HL.out.mono ?_
      rintro e w1 ⟨rfl, hb1⟩
      go_wp2_with fail
      refine (awake_any _).mono ?_
      rintro e w2 ⟨rfl, hb2⟩
      go_wp2_with fail
      go_ret
      exact ⟨rfl, hb1.trans (hb2.mono hb1.size)⟩
    · have hC := Lib.hid (fun w' (hb : Below w.heap.size w w') => Kd.C_below h hb)
      have HU := Lib.hid hu
      clear h hL hr hu
      go_enter Try.func4, Try.ntmps4
      go_wp2_with fail
      refine HL.out.mono ?_
      rintro e w1 ⟨rfl, hb1⟩
      go_wp2_with fail
      refine (awake_any _).mono ?_
      rintro e w2 ⟨rfl, hb2⟩
      have hB2 := hb1.trans (hb2.mono hb1.size)
      have HG := Lib.hid (grown_any A c l w2 (hC.out _ hB2) hc HU.out (by omega))
      clear hb1 hb2 HL
      go_wp2_with fail
      refine HG.out.mono ?_
      rintro e w3 ⟨g, ev, v, rfl, hS, -⟩
      clear HG
      have hlen := acts_le l hl3
      generalize acts l = L0 at *
      have HD := Lib.hid (ses_del hS low high prio (by omega))
      clear hS
      go_wp2_with fail
      refine HD.out.mono ?_
      rintro e w4 ⟨v4, rfl, hS, -, -⟩
      have HPD := Lib.hid (fun hp => put_del low high prio (-7) L0 hp)
      have HFM := Lib.hid (find_more (del low high prio L0) ⟨low, high, prio, -7⟩ key)
      have HBL := Lib.hid (bst_lt (del low high prio L0) key (del low high prio L0) 0 none (by simp) (fun k e => by cases e))
      have hl1 := del_len low high prio L0
      clear HD
      generalize del low high prio L0 = L1 at *
      have HA := Lib.hid (all_any _ _ _ _ _ _ hS.set (by omega))
      go_wp2_with fail
      refine HA.out.mono ?_
      rintro e w5 ⟨va, rfl, hva, hb5⟩
      have hap := Lib.hid (row_apart hS.set hva)
      replace hS := hS.go hb5
      clear HA hb5
      have HF := Lib.hid (ses_find hS key (by omega))
      obtain ⟨fp, hfp⟩ : ∃ fp, find E21 L1 key = fp := ⟨_, rfl⟩
      rw [hfp] at HF HFM
      have HFP := Lib.hid hfp
      clear hfp
      go_wp2_with fail
      refine HF.out.mono ?_
      rintro e w6 ⟨rfl, hb6⟩
      have HS6 := Lib.hid (hS.go hb6)
      have HVA := Lib.hid (own_go hva hb6)
      clear hva hb6 hS HF
      cases hp : putOK E21 low high
      · have HP := Lib.hid (ses_no HS6.out low high prio (-7) (by omega) hp)
        clear hp
        go_wp2_with fail
        refine HP.out.mono ?_
        rintro e w7 ⟨rfl, hS, hb7⟩
        have HVA7 := Lib.hid (own_go HVA.out hb7)
        have HF := Lib.hid (ses_find hS key (by omega))
        rw [HFP.out] at HF
        clear HP hb7
        go_wp2_with fail
        refine HF.out.mono ?_
        rintro e w8 ⟨rfl, hb8⟩
        have HVA8 := Lib.hid (own_go HVA7.out hb8)
        replace hS := hS.go hb8
        clear HF hb8 HVA7
        have HA := Lib.hid (all_any _ _ _ _ _ _ hS.set (by omega))
        go_wp2_with fail
        refine HA.out.mono ?_
        rintro e w9 ⟨vb, rfl, hvb, hb9⟩
        have HVA9 := own_go HVA8.out hb9
        replace hS := hS.go hb9
        clear HA hb9
        obtain ⟨Aa, ca, rfl, hca⟩ := own_form HVA9
        obtain ⟨Ab, cb, rfl, hcb⟩ := own_form hvb
        have HQ := Lib.hid (same_self Ab Aa cb ca L1 w9 (Rd.of_own hvb) (Rd.of_own HVA9) (by omega))
        have HS := Lib.hid hS
        clear HVA9 hvb hS
        go_wp2_with fail
        refine HQ.out.mono ?_
        rintro e w10 ⟨rfl, n, rfl⟩
        go_wp2_with fail
        go_ret
        exact ⟨by first | rfl | simp, hB2.trans ((pw_below_drewN HS.out.bel n).mono hB2.size)⟩
      · have hps := putOK_sizes hp
        have HP := Lib.hid (ses_yes HS6.out low high prio (-7) (by omega) hp)
        have HPE := Lib.hid (HPD.out hp)
        have g1 : ((low.size : Int) != 3) = false := by rw [hps.1]; rfl
        have g2 : ((high.size : Int) != 3) = false := by rw [hps.2]; rfl
        have HSZ := Lib.hid hps
        clear hp hps
        go_wp2_with fail
        refine HP.out.mono ?_
        rintro e w7 ⟨v7, rfl, hS, -, hF7⟩
        rw [HPE.out] at hS
        have HVA7 := own_fp HVA.out hF7 (fun k e => (hap.out k e))
        clear HP hF7
        have hal : Below w7.heap.size w7 (w7.alloc (.cells (c42 ⟨low, high, prio, -7⟩).toArray 42)) := (Below.refl _ _).alloc (Nat.le_refl _) _
        have hX := Blk.new w7 42 (c42 ⟨low, high, prio, -7⟩).toArray
        replace hS := hS.go hal
        replace HVA7 := own_go HVA7 hal
        clear hal
        have HA := Lib.hid (all_any _ _ _ _ _ _ hS.set (by simp; omega))
        have hxl := hX.lt
        have hcx : c42 ⟨low, high, prio, -7⟩ = [.string low, .string high, .int .i64 prio, .int .i64 (-7)] := rfl
        rw [hcx] at hX HA hS HVA7 hxl
        clear hcx
        go_wp2_with fail
        refine HA.out.mono ?_
        rintro e w9 ⟨vb, rfl, hvb, hb9⟩
        have HVA9 := own_go HVA7 hb9
        replace hS := hS.go hb9
        replace hX := hX.go hb9
        clear HA hb9 HVA7 hxl
        obtain ⟨Aa, ca, rfl, hca⟩ := own_form HVA9
        obtain ⟨Ab, cb, rfl, hcb⟩ := own_form hvb
        have hll : (L1 ++ [(⟨low, high, prio, -7⟩ : S42)]).length = L1.length + 1 := by simp
        obtain ⟨gm, rfl, -, -, m0, m1, m2, m3⟩ := own42s hvb L1.length (by rw [hll]; omega)
        have hlast : (L1 ++ [(⟨low, high, prio, -7⟩ : S42)])[L1.length]'(by rw [hll]; omega) = ⟨low, high, prio, -7⟩ := by simp
        rw [hlast] at m0 m1 m2 m3
        rw [hll] at hcb
        have HQ := Lib.hid (fun n => same_self (some ⟨gm, 0, none⟩) Aa cb ca L1 (w9.drewN n) ((Rd.of_own hvb).pre.go (pw_below_drewN (Below.refl _ _) n)) ((Rd.of_own HVA9).go (pw_below_drewN (Below.refl _ _) n)) (by omega))
        have HS := Lib.hid hS
        have HV9 := Lib.hid HVA9
        have HXB := Lib.hid hX
        have x0 : w9.cell? ⟨w7.heap.size, 0, none⟩ = some (.string low) := hX.cell 0
        have x1 : w9.cell? ⟨w7.heap.size, 1, none⟩ = some (.string high) := hX.cell 1
        have x2 : w9.cell? ⟨w7.heap.size, 2, none⟩ = some (.int .i64 prio) := hX.cell 2
        have x3 : w9.cell? ⟨w7.heap.size, 3, none⟩ = some (.int .i64 (-7)) := hX.cell 3
        have y0 : (0 : Int) ≤ (L1.length : Int) := by omega
        have y1 : (L1.length : Int) < (L1.length : Int) + 1 := by omega
        have y2 : (L1.length : Int) ≤ (cb : Int) := by omega
        clear HVA9 hvb hS hX hlast hll
        go_wp2_with fail
        go_quiet ((go_at_call 18; exact Calls.quiet_of (HQ.out _)))
        have hbd : Below w9.heap.size w9 (w9.drewN nq) := pw_below_drewN (Below.refl _ _) nq
        have hS := HS.out.go hbd
        have hV := own_go HV9.out hbd
        have hX := HXB.out.go hbd
        clear hbd HS HV9 HXB HQ x0 x1 x2 x3 m0 m1 m2 m3
        generalize w9.drewN nq = w10 at *
        have HF := Lib.hid (fun w' hs => ses_find (w := w') (B := w2.heap.size) (w0 := w2) (g := g) (ev := ev) (v := v7) (ends := E21) (l := L1 ++ [⟨low, high, prio, -7⟩]) hs key (by simp; omega))
        have hsz3 : ∀ x ∈ L1, x.f0.size = 3 ∧ x.f1.size = 3 := fun x hx => HS6.out.sized x hx
        have HBT := Lib.hid (fun w' hv => bst_any 0 (.slice Aa L1.length ca) L1 key w' hv hsz3 (by omega))
        have HWN := Lib.hid (fun w' => within_any ⟨low, high, prio, -7⟩ key w' HSZ.out.1 HSZ.out.2)
        have hcx : c42 ⟨low, high, prio, -7⟩ = [.string low, .string high, .int .i64 prio, .int .i64 (-7)] := rfl
        rw [hcx] at HWN
        have HX := Lib.hid hX
        have HS := Lib.hid hS
        have HV := Lib.hid hV
        clear hcx HFP hsz3 hX hS hV
        obtain ⟨wn, hwn⟩ : ∃ b, wthn ⟨low, high, prio, -7⟩ key = b := ⟨_, rfl⟩
        obtain ⟨o, ho⟩ : ∃ o, bst L1 key 0 none L1 = o := ⟨_, rfl⟩
        have HOK := Lib.hid (fun k (e : o = some k) => HBL.out k (ho.trans e))
        rw [hwn] at HWN HFM
        rw [ho] at HBT HFM
        clear hwn ho HBL
        -- what Find tells now
        have hcase : (wn = false ∧ find E21 (L1 ++ [(⟨low, high, prio, -7⟩ : S42)]) key = fp) ∨ (wn = true ∧ o = none ∧ find E21 (L1 ++ [(⟨low, high, prio, -7⟩ : S42)]) key = (-7, true)) ∨
            (wn = true ∧ ∃ k, o = some k ∧ decide ((L1.getD k z42).f2 < prio) = true ∧ find E21 (L1 ++ [(⟨low, high, prio, -7⟩ : S42)]) key = (-7, true)) ∨ (wn = true ∧ ∃ k, o = some k ∧ decide ((L1.getD k z42).f2 < prio) = false ∧ find E21 (L1 ++ [(⟨low, high, prio, -7⟩ : S42)]) key = fp) := by
          have hm := HFM.out
          cases wn
          · exact .inl ⟨rfl, hm⟩
          · cases o with
            | none => exact .inr (.inl ⟨rfl, rfl, hm⟩)
            | some k =>
              cases q : decide ((L1.getD k z42).f2 < prio)
              · exact .inr (.inr (.inr ⟨rfl, k, rfl, q, by simp only [q] at hm; exact hm⟩))
              · exact .inr (.inr (.inl ⟨rfl, k, rfl, q, by simp only [q] at hm; exact hm⟩))
        clear HFM
        obtain ⟨fx, fb⟩ := fp
        rcases hcase with ⟨rfl, hf⟩ | ⟨rfl, rfl, hf⟩ | ⟨rfl, k, rfl, q, hf⟩ | ⟨rfl, k, rfl, q, hf⟩
        · rw [hf] at HF
          clear hf
          go_wp2_with fail
          refine (HF.out _ HS.out).mono ?_
          rintro e w11 ⟨rfl, hb⟩
          have hS := HS.out.go hb
          have hV := own_go HV.out hb
          have hX := HX.out.go hb
          clear hb HF HS HV HX
          go_wp2_with fail
          refine (HBT.out _ (own_mono hV (Nat.zero_le _))).mono ?_
          rintro e w12 ⟨rfl, hb⟩
          replace hS := hS.go hb
          replace hX := hX.go hb
          clear hb HBT hV
          have x0 : w12.cell? ⟨w7.heap.size, 0, none⟩ = some (.string low) := hX.cell 0
          have x1 : w12.cell? ⟨w7.heap.size, 1, none⟩ = some (.string high) := hX.cell 1
          have x2 : w12.cell? ⟨w7.heap.size, 2, none⟩ = some (.int .i64 prio) := hX.cell 2
          have x3 : w12.cell? ⟨w7.heap.size, 3, none⟩ = some (.int .i64 (-7)) := hX.cell 3
          go_wp2_with fail
          refine (HWN.out _).mono ?_
          rintro e w13 ⟨rfl, hb⟩
          replace hS := hS.go hb
          have HEND := Lib.hid (hB2.trans (hS.bel.mono hB2.size))
          clear hb HWN hX x0 x1 x2 x3 hS
          go_wp2_with fail
          go_ret
          exact ⟨by first | rfl | simp, HEND.out⟩
        · rw [hf] at HF
          have hoi : oi none = -1 := rfl
          rw [hoi] at HBT
          clear hoi
          clear hf
          go_wp2_with fail
          refine (HF.out _ HS.out).mono ?_
          rintro e w11 ⟨rfl, hb⟩
          have hS := HS.out.go hb
          have hV := own_go HV.out hb
          have hX := HX.out.go hb
          clear hb HF HS HV HX
          go_wp2_with fail
          refine (HBT.out _ (own_mono hV (Nat.zero_le _))).mono ?_
          rintro e w12 ⟨rfl, hb⟩
          replace hS := hS.go hb
          replace hX := hX.go hb
          replace hV := own_go hV hb
          clear hb HBT
          have x0 : w12.cell? ⟨w7.heap.size, 0, none⟩ = some (.string low) := hX.cell 0
          have x1 : w12.cell? ⟨w7.heap.size, 1, none⟩ = some (.string high) := hX.cell 1
          have x2 : w12.cell? ⟨w7.heap.size, 2, none⟩ = some (.int .i64 prio) := hX.cell 2
          have x3 : w12.cell? ⟨w7.heap.size, 3, none⟩ = some (.int .i64 (-7)) := hX.cell 3
          go_wp2_with fail
          refine (HWN.out _).mono ?_
          rintro e w13 ⟨rfl, hb⟩
          replace hS := hS.go hb
          replace hV := own_go hV hb
          have HEND := Lib.hid (hB2.trans (hS.bel.mono hB2.size))
          clear hb HWN hX x0 x1 x2 x3 hS hV
          go_wp2_with fail
          go_ret
          exact ⟨by first | rfl | simp, HEND.out⟩
        · rw [hf] at HF
          have hoi : oi (some k) = (k : Int) := rfl
          rw [hoi] at HBT
          have hk := HOK.out k rfl
          have hgk : L1.getD k z42 = L1[k] := by rw [List.getD_eq_getElem?_getD, List.getElem?_eq_getElem hk]; rfl
          rw [hgk] at q
          clear hoi hgk
          have k0 : (0 : Int) ≤ (k : Int) := by omega
          have k1 : (k : Int) < (L1.length : Int) := by omega
          have k2 : decide ((k : Int) < 0) = false := decide_eq_false (by omega)
          clear hf
          go_wp2_with fail
          refine (HF.out _ HS.out).mono ?_
          rintro e w11 ⟨rfl, hb⟩
          have hS := HS.out.go hb
          have hV := own_go HV.out hb
          have hX := HX.out.go hb
          clear hb HF HS HV HX
          go_wp2_with fail
          refine (HBT.out _ (own_mono hV (Nat.zero_le _))).mono ?_
          rintro e w12 ⟨rfl, hb⟩
          replace hS := hS.go hb
          replace hX := hX.go hb
          replace hV := own_go hV hb
          clear hb HBT
          have x0 : w12.cell? ⟨w7.heap.size, 0, none⟩ = some (.string low) := hX.cell 0
          have x1 : w12.cell? ⟨w7.heap.size, 1, none⟩ = some (.string high) := hX.cell 1
          have x2 : w12.cell? ⟨w7.heap.size, 2, none⟩ = some (.int .i64 prio) := hX.cell 2
          have x3 : w12.cell? ⟨w7.heap.size, 3, none⟩ = some (.int .i64 (-7)) := hX.cell 3
          go_wp2_with fail
          refine (HWN.out _).mono ?_
          rintro e w13 ⟨rfl, hb⟩
          replace hS := hS.go hb
          replace hV := own_go hV hb
          have HEND := Lib.hid (hB2.trans (hS.bel.mono hB2.size))
          obtain ⟨ga, rfl, -, -, -, -, a2, -⟩ := own42s hV k hk
          generalize L1[k].f2 = yk at *
          clear hb HWN hX x0 x1 x2 x3 hS hV
          go_wp2_with fail
          go_ret
          exact ⟨by first | rfl | simp, HEND.out⟩
        · rw [hf] at HF
          have hoi : oi (some k) = (k : Int) := rfl
          rw [hoi] at HBT
          have hk := HOK.out k rfl
          have hgk : L1.getD k z42 = L1[k] := by rw [List.getD_eq_getElem?_getD, List.getElem?_eq_getElem hk]; rfl
          rw [hgk] at q
          clear hoi hgk
          have k0 : (0 : Int) ≤ (k : Int) := by omega
          have k1 : (k : Int) < (L1.length : Int) := by omega
          have k2 : decide ((k : Int) < 0) = false := decide_eq_false (by omega)
          clear hf
          go_wp2_with fail
          refine (HF.out _ HS.out).mono ?_
          rintro e w11 ⟨rfl, hb⟩
          have hS := HS.out.go hb
          have hV := own_go HV.out hb
          have hX := HX.out.go hb
          clear hb HF HS HV HX
          go_wp2_with fail
          refine (HBT.out _ (own_mono hV (Nat.zero_le _))).mono ?_
          rintro e w12 ⟨rfl, hb⟩
          replace hS := hS.go hb
          replace hX := hX.go hb
          replace hV := own_go hV hb
          clear hb HBT
          have x0 : w12.cell? ⟨w7.heap.size, 0, none⟩ = some (.string low) := hX.cell 0
          have x1 : w12.cell? ⟨w7.heap.size, 1, none⟩ = some (.string high) := hX.cell 1
          have x2 : w12.cell? ⟨w7.heap.size, 2, none⟩ = some (.int .i64 prio) := hX.cell 2
          have x3 : w12.cell? ⟨w7.heap.size, 3, none⟩ = some (.int .i64 (-7)) := hX.cell 3
          go_wp2_with fail
          refine (HWN.out _).mono ?_
          rintro e w13 ⟨rfl, hb⟩
          replace hS := hS.go hb
          replace hV := own_go hV hb
          have HEND := Lib.hid (hB2.trans (hS.bel.mono hB2.size))
          obtain ⟨ga, rfl, -, -, -, -, a2, -⟩ := own42s hV k hk
          generalize L1[k].f2 = yk at *
          clear hb HWN hX x0 x1 x2 x3 hS hV
          go_wp2_with fail
          go_ret
          exact ⟨by first | rfl | simp, HEND.out⟩
  · clear h hr hL
    go_enter Try.func4, Try.ntmps4
    go_wp2_with fail
    refine HL.out.mono ?_
    rintro e w1 ⟨rfl, hb1⟩
    go_wp2_with fail
    refine (awake_any _).mono ?_
    rintro e w2 ⟨rfl, hb2⟩
    go_wp2_with fail
    go_ret
    exact ⟨rfl, hb1.trans (hb2.mono hb1.size)⟩
end Go.Proofs.Ytedbnppdfcljlaa.Base
namespace Go.Proofs.Ytedbnppdfcljlaa.More
open Go Go.RowKit Go.Proofs.YtedbnppdfcljlaaW.PrintWords Go.Proofs.Ytedbnppdfcljlaa.PRangMore
theorem core (A : Option Addr) (c : Nat) (l : List S51) (low high : ByteArray) (prio : Int) (key : ByteArray) (w : World) (hc : l.length ≤ c) (hm : l.length * 56 ≤ 140737488351232) (hz : ∀ x ∈ l, 0 ≤ x.f0 ∧ x.f0 < 256) (hl : Kd.C k51 w A l.length l)
    (s1 : low.size ≤ 140737488351232) (s2 : high.size ≤ 140737488351232) (hp : (Lit.int .i64 prio).wf = true) (s3 : key.size ≤ 140737488351232) :
    Calls Try.prog 4 #[.slice A l.length c, .string low, .string high, .int .i64 prio, .string key] w fun e w' => e = .returned (.bool true) ∧ Below w.heap.size w w' :=
  Base.more_any A c l low high prio key w hl hc hz (by omega) s1 s2 s3
end Go.Proofs.Ytedbnppdfcljlaa.More
