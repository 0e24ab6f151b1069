/- It matters not in which row: ExactWhatever (6). Conditions: as the contract says. -/
import Derived.Test.YtfpnedooipfpoaaWhatPure
import Derived.Test.YtfpnedooipfpoaaMineV
set_option linter.unusedVariables false
set_option linter.unusedSimpArgs false
namespace Go.Proofs.Ytfpnedooipfpoaa.Base
open Go Go.RowKit Go.Proofs.Ytfpnedooipfpoaa Go.Proofs.Ytfpnedooipfpoaa.Ex Go.Proofs.Ytfpnedooipfpoaa.Mem Go.Proofs.Ytfpnedooipfpoaa.Math Go.Proofs.YtfpnedooipfpoaaW.PrintWords Go.Proofs.YtfpnedooipfpoaaW.PrintLast Go.Proofs.Ytfpnedooipfpoaa.PExactHalf
def Wh2 (wx : World) (ks : List Key) (t : Value) (wr : World) : Prop := ∃ i : Nat, t = .int .i64 (i : Int) ∧ i ≤ ks.length ∧ Below wx.heap.size wx wr
def WhR (V : Nat → Prop) (w3 wk : World) (an : Nat) (T : Tb) (v : Value) (ks : List Key) (t8 : Value) (wr : World) : Prop := ∃ (i : Nat) (Tn : Tb), t8 = .int .i64 ((i : Int) - 1) ∧ i ≤ ks.length ∧ WhN T Tn ks i ∧ Few (ks.length - i) Tn ∧ MineV V w3 wr an Tn ∧ wr.ownsRow wk.heap.size 9 1 v ks.length (ks.map Value.string)
set_option maxHeartbeats 3200000 in
set_option maxRecDepth 100000 in
theorem what_law (A : Option Addr) (c : Nat) (l : List S28) (key : Key) (w : World) (hc : l.length ≤ c) (hl : l.length ≤ 140737488351232) (hA : Kd.C k28 w A l.length l) (hk : key.size ≤ 140737488351232) :
    Calls Try.prog 6 #[.slice A l.length c, .string key] w fun e w' => e = .returned (.bool true) ∧ Below w.heap.size w w' := by
  have HA := Lib.hid hA
  have HLG := Lib.hid (long_any A c l w hA hc hl)
  have HK := Lib.hid hk
  clear hc hl hA hk
  obtain ⟨m, hm⟩ : ∃ m, l.length = m := ⟨_, rfl⟩
  have HMM := Lib.hid hm
  rw [hm] at HLG ⊢
  clear hm
  obtain ⟨ksz, hksz⟩ : ∃ ksz, key.size = ksz := ⟨_, rfl⟩
  have HKS := Lib.hid hksz
  clear hksz
  go_enter Try.func6, Try.ntmps6
  go_wp2_with fail
  refine HLG.out.mono ?_
  rintro e w1 ⟨r, rfl, hr, hb⟩
  have HB1 := Lib.hid hb
  have HSH := Lib.hid hr
  clear hr hb HLG
  cases r with
  | true =>
    go_wp2_with fail
    refine (awake_any w1).mono ?_
    rintro e w2 ⟨rfl, hb⟩
    have HB2 := Lib.hid (below_step HB1.out hb)
    clear hb
    go_wp2_with fail
    go_ret
    exact ⟨rfl, HB2.out⟩
  | false =>
    have HS := Lib.hid (HSH.out rfl)
    clear HSH
    by_cases h3 : (3000 : Int) < (key.size : Int)
    · go_wp2_with fail
      refine (awake_any w1).mono ?_
      rintro e w2 ⟨rfl, hb⟩
      have HB2 := Lib.hid (below_step HB1.out hb)
      clear hb
      go_wp2_with fail
      go_ret
      exact ⟨rfl, HB2.out⟩
    · go_wp2_with fail
      refine (awake_any w1).mono ?_
      rintro e w2 ⟨rfl, hb⟩
      have HB2 := Lib.hid (below_step HB1.out hb)
      clear hb
      go_wp2_with fail
      have hmd := made_any A c l w2 HS.out (C_go HA.out HB2.out)
      rw [HMM.out] at hmd
      refine hmd.mono ?_
      clear hmd
      rintro e w3 ⟨a, T, rfl, hf, hm⟩
      have HF := Lib.hid hf
      have HM3 := Lib.hid (hm.back HB2.out)
      clear hf hm
      have HMK := Lib.hid (fun W (hW : Below w3.heap.size w3 W) => (HM3.out.go hW : Mine w W a T))
      have HG := Lib.hid HM3.out.good
      have HSM := Lib.hid HM3.out.sm
      go_wp2_with fail
      refine (Mine.new w3).mono ?_
      rintro e w4 ⟨an, rfl, hn4⟩
      have HN4 := Lib.hid hn4
      clear hn4
      go_wp2_with fail
      refine (HMK.out w4 HN4.out.below).keys.mono ?_
      rintro e w5 ⟨v, rfl, hro, hb⟩
      obtain ⟨ks, hks⟩ : ∃ ks, srtB (keysL T.L) = ks := ⟨_, rfl⟩
      have HKSE := Lib.hid hks
      rw [hks] at hro
      have hqn : ks.length ≤ 500 := by
        have h1 := (srtB_perm (keysL T.L)).length_eq
        rw [hks, keysL_len, HG.out.cnt] at h1
        have h2 := HF.out.1
        have h3 := HS.out.1
        have h4 := HMM.out
        omega
      clear hks
      have HX := Lib.hid (show WhR (fun k => v.ownBlock = some k) w3 w4 an T v ks (.int .i64 ((ks.length : Int) - 1)) w5 from ⟨ks.length, new8, rfl, Nat.le_refl _, wh_new T ks, by rw [Nat.sub_self]; exact few_new, HN4.out.veil hb (fun k hk => hro.lt k hk), hro⟩)
      obtain ⟨B, cp, rfl, -⟩ := own_form hro
      have HRO := Lib.hid hro
      clear hro hb
      obtain ⟨q, hq⟩ : ∃ q, ks.length = q := ⟨_, rfl⟩
      have HQ := Lib.hid hq
      rw [hq] at hqn
      have kq : (q : Int) ≤ 500 := by omega
      rw [hq]
      clear hq
      go_wp2_with fail
      go_loopw [8] (fun t8 wr => WhR (fun k => (Value.slice B ks.length cp).ownBlock = some k) w3 w4 an T (.slice B ks.length cp) ks t8 wr) (fun t8 _ => (intOf t8 + 1).toNat)
      case atStart => rw [← HQ.out]; exact HX.out
      case round =>
        clear HX
        obtain ⟨i, Tn, rfl, hi, hwn, hfn, hmv, hro⟩ := hrel
        have HWN := Lib.hid hwn
        have HFN := Lib.hid hfn
        have HMV := Lib.hid hmv
        have HR := Lib.hid hro
        clear hwn hfn hmv hro
        cases i with
        | zero =>
          rw [show (((0 : Nat) : Int) - 1) = -1 from rfl]
          have hnl := HMV.out.mine.len
          have htl := (HMK.out wr HMV.out.mine.below).len
          have hn1 : Tn.n = q := by rw [HWN.out.n, HQ.out]; rfl
          have hn2 : T.n = q := by
            have h1 := (srtB_perm (keysL T.L)).length_eq
            rw [HKSE.out, keysL_len, HG.out.cnt, HQ.out] at h1
            exact h1.symm
          rw [hn1] at hnl
          rw [hn2] at htl
          have HNL := Lib.hid hnl
          have HTL := Lib.hid htl
          have HN2 := Lib.hid hn2
          clear hnl htl hn1 hn2
          have HMn := Lib.hid (fun W (hW : Below wr.heap.size wr W) => (HMV.out.mine.go hW : Mine w3 W an Tn))
          have HMa := Lib.hid (fun W (hW : Below wr.heap.size wr W) => (HMK.out W (HMn.out W hW).below : Mine w W a T))
          have HRx := Lib.hid (fun W (hW : Below wr.heap.size wr W) => own_go HR.out hW)
          have HGn := Lib.hid HMV.out.mine.good
          clear HMV HR HFN
          go_wp2_with fail
          refine HNL.out.mono ?_
          rintro e w7 ⟨rfl, hww⟩; replace hww := hww.symm; subst hww
          go_wp2_with fail
          refine HTL.out.mono ?_
          rintro e w7 ⟨rfl, hww⟩; replace hww := hww.symm; subst hww
          have HX2 := Lib.hid (show Wh2 wr ks (.int .i64 0) wr from ⟨0, rfl, Nat.zero_le _, Below.refl _ _⟩)
          clear HNL HTL
          go_wp2_with fail
          generalize hwx : wr = wx at *
          clear hwx
          go_loopw [11] (fun t wr => Wh2 wx ks t wr) (fun t _ => q - (intOf t).toNat)
          case atStart => exact HX2.out
          case round =>
            clear HX2
            obtain ⟨i, rfl, hi, hB⟩ := hrel
            have HB := Lib.hid hB
            clear hB
            rw [HQ.out] at hi
            by_cases him : i < q
            · have hil : i < ks.length := by rw [HQ.out]; exact him
              have hmem : ks[i] ∈ keysL T.L := by
                have h1 : ks[i] ∈ ks := List.getElem_mem hil
                have h2 : ks[i] ∈ srtB (keysL T.L) := by rw [HKSE.out]; exact h1
                exact (srtB_perm (keysL T.L)).mem_iff.1 h2
              obtain ⟨kv, hkv⟩ := mem_keysL.1 hmem
              have hksm := HSM.out _ _ hkv
              have hgk := get_has hlim HG.out hkv
              have hgn := wh_get HG.out HGn.out HWN.out (List.getElem_mem hil) hkv
              have HIL := Lib.hid hil
              obtain ⟨g, cap, hv, hcell⟩ := key_at (HRx.out wr HB.out) i hil
              injection hv with hB2 _ hcp
              subst hB2 hcp
              clear hmem hkv
              generalize ks[i] = k at *
              have HGT := Lib.hid ((HMa.out wr HB.out).get k hksm)
              rw [hgk] at HGT
              have j0 : (i : Int) < (q : Int) := by omega
              have j1 : (0 : Int) ≤ (i : Int) := by omega
              have hmeas : q - (i + 1) < q - i := by omega
              have HKZ := Lib.hid hksm
              have HGK := Lib.hid hgn
              clear hgk hgn hksm hil
              go_wp2_with fail
              refine HGT.out.mono ?_
              rintro e w8 ⟨rfl, -, hb⟩
              have HB8 := Lib.hid (below_step HB.out hb)
              have c8 : w8.cell? ⟨g, i, none⟩ = some (.string k) := (hb.cell (World.block_lt_of_cell? _ _ hcell)).trans hcell
              have HGT2 := Lib.hid ((HMn.out w8 HB8.out).get k HKZ.out)
              rw [HGK.out] at HGT2
              clear hb HGT hcell HB
              go_wp2_with fail
              refine HGT2.out.mono ?_
              rintro e w9 ⟨rfl, -, hb⟩
              have HB9 := Lib.hid (below_step HB8.out hb)
              clear hb HGT2 c8
              go_wp2_with fail
              go_roundw
              case rel => exact ⟨i + 1, by rw [Int.natCast_add] <;> rfl, HIL.out, HB9.out⟩
              case measure =>
                rw [show ((i : Int) + 1) = ((i + 1 : Nat) : Int) by omega]
                simp only [intOf, Int.toNat_natCast]
                exact hmeas
            · have j0 : ¬ (i : Int) < (q : Int) := by omega
              have hcp := (HMa.out wr HB.out).copy
              have HCP := Lib.hid hcp
              clear hcp
              go_wp2_with fail
              refine HCP.out.mono ?_
              rintro e w7 ⟨ac, rfl, hmc⟩
              have HB7 := Lib.hid (below_step HB.out hmc.below)
              have HMC := Lib.hid hmc
              clear hmc HCP
              go_wp2_with fail
              have hpw : Pw (2 * T.L.length) := (HMa.out wr HB.out).pw.dbl (by have h1 := HF.out.2; have h2 := HS.out.1; have h3 := HMM.out; omega)
              have HPT := Lib.hid (HMC.out.put key 1 HK.out hpw)
              clear hpw
              rcases put_spec hlim HG.out key 1 with ⟨v0, T2, -, e, -⟩ | ⟨T1, hno, e, g1, n1, l1, -, s1⟩
              · rw [e] at HPT
                refine HPT.out.mono ?_
                rintro e w9 ⟨rfl, hm9⟩
                have HM9 := Lib.hid hm9
                clear hm9 HPT e
                go_wp2_with fail
                go_ret
                exact ⟨rfl, (HMa.out _ (below_step HB.out HM9.out.below)).below⟩
              · rw [e] at HPT
                have HE := Lib.hid e
                have HNO := Lib.hid hno
                clear hno e
                refine HPT.out.mono ?_
                rintro e w9 ⟨rfl, hm9⟩
                have HM9 := Lib.hid hm9
                have HMA9 := Lib.hid (HMa.out _ (below_step HB.out HM9.out.below))
                clear hm9 HPT
                have HS9 := Lib.hid HM9.out.slots
                have HS8 := Lib.hid HMA9.out.slots
                have hp8 := HG.out.pos
                by_cases hdb : T.L.length < 2 * (T.n + 1)
                · rw [if_pos hdb] at l1
                  have j1 : ((T1.L.length : Int) == (T.L.length : Int)) = false := beq_eq_false_iff_ne.2 (by omega)
                  clear l1 n1 s1 hdb hp8
                  go_wp2_with fail
                  refine HS9.out.mono ?_
                  rintro e w10 ⟨rfl, hww⟩; replace hww := hww.symm; subst hww
                  go_wp2_with fail
                  refine HS8.out.mono ?_
                  rintro e w10 ⟨rfl, hww⟩; replace hww := hww.symm; subst hww
                  go_wp2_with fail
                  go_ret
                  exact ⟨rfl, HMA9.out.below⟩
                · rw [if_neg hdb] at l1
                  have hpd := put_del hlim HG.out HNO.out 1 hdb
                  rw [HE.out] at hpd
                  have HPD := Lib.hid hpd
                  rw [l1] at HS9
                  clear l1 n1 s1 hdb hp8 hpd
                  go_wp2_with fail
                  refine HS9.out.mono ?_
                  rintro e w10 ⟨rfl, hww⟩; replace hww := hww.symm; subst hww
                  go_wp2_with fail
                  refine HS8.out.mono ?_
                  rintro e w10 ⟨rfl, hww⟩; replace hww := hww.symm; subst hww
                  have HDL := Lib.hid (HM9.out.del key HK.out)
                  rw [HPD.out] at HDL
                  go_wp2_with fail
                  refine HDL.out.mono ?_
                  rintro e w10 ⟨rfl, hm10⟩
                  have HM10 := Lib.hid hm10
                  clear hm10 HDL HM9 HMA9 HS9 HS8
                  obtain ⟨lk, hlk⟩ : ∃ lk, looks HH T key = lk := ⟨_, rfl⟩
                  have HL1 := Lib.hid (HM10.out.looks key HK.out)
                  rw [hlk] at HL1
                  go_wp2_with fail
                  refine HL1.out.mono ?_
                  rintro e w11 ⟨rfl, hm11, -⟩
                  have HM11 := Lib.hid hm11
                  have HMA11 := Lib.hid (HMa.out _ (below_step HB.out HM11.out.below))
                  have HL2 := Lib.hid (HMA11.out.looks key HK.out)
                  rw [hlk] at HL2
                  clear hm11 HL1 HM10 hlk
                  go_wp2_with fail
                  refine HL2.out.mono ?_
                  rintro e w12 ⟨rfl, -, hb12⟩
                  have HM12 := Lib.hid (HM11.out.go hb12)
                  have HB12 := Lib.hid (below_step HB.out HM12.out.below)
                  have HX3 := Lib.hid (show Wh2 w12 ks (.int .i64 0) w12 from ⟨0, rfl, Nat.zero_le _, Below.refl _ _⟩)
                  clear hb12 HL2 HM11 HMA11
                  go_wp2_with fail
                  generalize hwy : w12 = wy at *
                  clear hwy
                  go_loopw [19] (fun t wr => Wh2 wy ks t wr) (fun t _ => q - (intOf t).toNat)
                  case atStart => exact HX3.out
                  case round =>
                    clear HX3
                    obtain ⟨i, rfl, hi, hB⟩ := hrel
                    have HB3 := Lib.hid hB
                    clear hB
                    rw [HQ.out] at hi
                    have HMy := Lib.hid (fun W (hW : Below wr.heap.size wr W) => (HM12.out.go (below_step HB3.out hW)))
                    have HMx := Lib.hid (fun W (hW : Below wr.heap.size wr W) => (HMa.out W (below_step HB12.out (below_step HB3.out hW))))
                    by_cases him : i < q
                    · have hil : i < ks.length := by rw [HQ.out]; exact him
                      have hmem : ks[i] ∈ keysL T.L := by
                        have h1 : ks[i] ∈ ks := List.getElem_mem hil
                        have h2 : ks[i] ∈ srtB (keysL T.L) := by rw [HKSE.out]; exact h1
                        exact (srtB_perm (keysL T.L)).mem_iff.1 h2
                      obtain ⟨kv, hkv⟩ := mem_keysL.1 hmem
                      have HKZ := Lib.hid (HSM.out _ _ hkv)
                      have HIL := Lib.hid hil
                      obtain ⟨g, cap, hv, c0⟩ := key_at (HRx.out wr (below_step HB12.out HB3.out)) i hil
                      injection hv with hB2 _ hcp
                      subst hB2 hcp
                      clear hmem hkv
                      generalize ks[i] = k at *
                      obtain ⟨lk, hlk⟩ : ∃ lk, looks HH T k = lk := ⟨_, rfl⟩
                      have HLA := Lib.hid (fun W (hW : Below wr.heap.size wr W) => (HMy.out W hW).looks k HKZ.out)
                      have HLB := Lib.hid (fun W (hW : Below wr.heap.size wr W) => (HMx.out W hW).looks k HKZ.out)
                      rw [hlk] at HLA HLB
                      have j0 : (i : Int) < (q : Int) := by omega
                      have j1 : (0 : Int) ≤ (i : Int) := by omega
                      have hmeas : q - (i + 1) < q - i := by omega
                      clear hil hlk
                      go_upto_region 29 with (fail)
                      refine start_ (n := 13) (S := (fun W => W.cell? ⟨g, i, none⟩ = some (.string k))) (ds := []) #[false, false, false, false, false, false, false, false, false, false, false, false, false] (by kernel_rfl) rfl rfl c0 (fun hHeld => ?_)
                      refine pure_ (i := 0) (N := (some 132)) (v := ?_) (a' := ?_) #[true, false, false, false, false, false, false, false, false, false, false, false, false] rfl rfl (by kernel_rfl) (fun _ _ _ h => h) (Or.inl ⟨by rfl, ?_⟩) ?_ ?_
                      rotate_left
                      · intro w'
                        go_simp
                        (try with_reducible rfl)
                      rotate_left
                      · simp only [Act.put, List.setIfInBounds_toArray, List.set_cons_zero, List.set_cons_succ, i64_w, i32_w]
                        rfl
                      refine pure_ (i := 1) (N := (some 133)) (v := ?_) (a' := ?_) #[true, true, false, false, false, false, false, false, false, false, false, false, false] rfl rfl (by kernel_rfl) (fun _ _ _ h => h) (Or.inl ⟨by rfl, ?_⟩) ?_ ?_
                      rotate_left
                      · intro w'
                        go_simp
                        (try with_reducible rfl)
                      rotate_left
                      · simp only [Act.put, List.setIfInBounds_toArray, List.set_cons_zero, List.set_cons_succ, i64_w, i32_w]
                        rfl
                      refine pure_ (i := 2) (N := (some 134)) (v := ?_) (a' := ?_) #[true, true, true, false, false, false, false, false, false, false, false, false, false] rfl rfl (by kernel_rfl) (fun _ _ _ h => h) (Or.inl ⟨by rfl, ?_⟩) ?_ ?_
                      rotate_left
                      · intro w'
                        go_simp
                        (try with_reducible rfl)
                      rotate_left
                      · simp only [Act.put, List.setIfInBounds_toArray, List.set_cons_zero, List.set_cons_succ, i64_w, i32_w]
                        rfl
                      refine pure_ (i := 3) (N := (some 135)) (v := ?_) (a' := ?_) #[true, true, true, true, false, false, false, false, false, false, false, false, false] rfl rfl (by kernel_rfl) (fun _ _ _ h => h) (Or.inl ⟨by rfl, ?_⟩) ?_ ?_
                      rotate_left
                      · intro w'
                        go_simp
                        (try with_reducible rfl)
                      rotate_left
                      · simp only [Act.put, List.setIfInBounds_toArray, List.set_cons_zero, List.set_cons_succ, i64_w, i32_w]
                        rfl
                      refine take_ (i := 4) (N := (some 136)) (v := ?_) (a' := ?_) #[true, true, true, true, true, false, false, false, false, false, false, false, false] rfl rfl (by kernel_rfl) (fun _ _ _ h => h) (Or.inl ⟨by rfl, ?_⟩) hHeld ?_ ?_
                      rotate_left
                      · rintro w' s0
                        go_simp
                        (try with_reducible rfl)
                      rotate_left
                      · simp only [Act.put, List.setIfInBounds_toArray, List.set_cons_zero, List.set_cons_succ, i64_w, i32_w]
                        rfl
                      refine pure_ (i := 6) (N := (some 138)) (v := ?_) (a' := ?_) #[true, true, true, true, true, false, true, false, false, false, false, false, false] rfl rfl (by kernel_rfl) (fun _ _ _ h => h) (Or.inl ⟨by rfl, ?_⟩) ?_ ?_
                      rotate_left
                      · intro w'
                        go_simp
                        (try with_reducible rfl)
                      rotate_left
                      · simp only [Act.put, List.setIfInBounds_toArray, List.set_cons_zero, List.set_cons_succ, i64_w, i32_w]
                        rfl
                      refine pure_ (i := 7) (N := (some 139)) (v := ?_) (a' := ?_) #[true, true, true, true, true, false, true, true, false, false, false, false, false] rfl rfl (by kernel_rfl) (fun _ _ _ h => h) (Or.inl ⟨by rfl, ?_⟩) ?_ ?_
                      rotate_left
                      · intro w'
                        go_simp
                        (try with_reducible rfl)
                      rotate_left
                      · simp only [Act.put, List.setIfInBounds_toArray, List.set_cons_zero, List.set_cons_succ, i64_w, i32_w]
                        rfl
                      refine pure_ (i := 8) (N := (some 140)) (v := ?_) (a' := ?_) #[true, true, true, true, true, false, true, true, true, false, false, false, false] rfl rfl (by kernel_rfl) (fun _ _ _ h => h) (Or.inl ⟨by rfl, ?_⟩) ?_ ?_
                      rotate_left
                      · intro w'
                        go_simp
                        (try with_reducible rfl)
                      rotate_left
                      · simp only [Act.put, List.setIfInBounds_toArray, List.set_cons_zero, List.set_cons_succ, i64_w, i32_w]
                        rfl
                      refine pure_ (i := 9) (N := (some 141)) (v := ?_) (a' := ?_) #[true, true, true, true, true, false, true, true, true, true, false, false, false] rfl rfl (by kernel_rfl) (fun _ _ _ h => h) (Or.inl ⟨by rfl, ?_⟩) ?_ ?_
                      rotate_left
                      · intro w'
                        go_simp
                        (try with_reducible rfl)
                      rotate_left
                      · simp only [Act.put, List.setIfInBounds_toArray, List.set_cons_zero, List.set_cons_succ, i64_w, i32_w]
                        rfl
                      refine take_ (i := 10) (N := (some 142)) (v := ?_) (a' := ?_) #[true, true, true, true, true, false, true, true, true, true, true, false, false] rfl rfl (by kernel_rfl) (fun _ _ _ h => h) (Or.inl ⟨by rfl, ?_⟩) hHeld ?_ ?_
                      rotate_left
                      · rintro w' s0
                        go_simp
                        (try with_reducible rfl)
                      rotate_left
                      · simp only [Act.put, List.setIfInBounds_toArray, List.set_cons_zero, List.set_cons_succ, i64_w, i32_w]
                        rfl
                      refine one_ (i := 5) (N := (some 137)) #[true, true, true, true, true, true, true, true, true, true, true, false, false] rfl rfl (by kernel_rfl) (by decide) (fun K hK => ?_)
                      refine goes_ Try.func16 (by kernel_rfl) rfl #[ptr ac, .string k] (by rfl) rfl rfl (by simp [Act.eval]) ?_
                      refine (HLA.out _ (below_drew1 (Below.refl wr.heap.size wr))).mono ?_
                      rintro e v1 ⟨rfl, -, hb⟩
                      have HW1 := Lib.hid (below_step (below_drew1 (Below.refl wr.heap.size wr)) hb)
                      have F0 := (hb.cell (World.block_lt_of_cell? _ _ hHeld)).trans hHeld
                      refine ⟨_, rfl, hK.out _ _ F0 (fun hHeld => ?_)⟩
                      clear hK K hb F0
                      refine norm_ (a' := ?_) ?_ ?_
                      rotate_left
                      · show Act.put _ (some 137) _ = _
                        simp only [Act.put, List.setIfInBounds_toArray, List.set_cons_zero, List.set_cons_succ, i64_w, i32_w]
                        rfl

                      refine one_ (i := 11) (N := (some 143)) #[true, true, true, true, true, true, true, true, true, true, true, true, false] rfl rfl (by kernel_rfl) (by decide) (fun K hK => ?_)
                      refine goes_ Try.func16 (by kernel_rfl) rfl #[ptr a, .string k] (by rfl) rfl rfl (by simp [Act.eval]) ?_
                      refine (HLB.out _ HW1.out).mono ?_
                      rintro e v2 ⟨rfl, -, hb⟩
                      have HW2 := Lib.hid (below_step HW1.out hb)
                      have F0 := (hb.cell (World.block_lt_of_cell? _ _ hHeld)).trans hHeld
                      refine ⟨_, rfl, hK.out _ _ F0 (fun hHeld => ?_)⟩
                      clear hK K hb F0
                      refine norm_ (a' := ?_) ?_ ?_
                      rotate_left
                      · show Act.put _ (some 143) _ = _
                        simp only [Act.put, List.setIfInBounds_toArray, List.set_cons_zero, List.set_cons_succ, i64_w, i32_w]
                        rfl

                      refine pure_ (i := 12) (N := (some 144)) (v := ?_) (a' := ?_) #[true, true, true, true, true, true, true, true, true, true, true, true, true] rfl rfl (by kernel_rfl) (fun _ _ _ h => h) (Or.inl ⟨by rfl, ?_⟩) ?_ ?_
                      rotate_left
                      · intro w'
                        go_simp
                        (try with_reducible rfl)
                      rotate_left
                      · simp only [Act.put, List.setIfInBounds_toArray, List.set_cons_zero, List.set_cons_succ, i64_w, i32_w]
                        rfl
                      refine done_ (by kernel_rfl) ?_
                      clear hHeld
                      go_wp2_with fail
                      go_roundw
                      case rel => exact ⟨i + 1, by rw [Int.natCast_add] <;> rfl, HIL.out, below_step HB3.out HW2.out⟩
                      case measure =>
                        rw [show ((i : Int) + 1) = ((i + 1 : Nat) : Int) by omega]
                        simp only [intOf, Int.toNat_natCast]
                        exact hmeas
                    · have j0 : ¬ (i : Int) < (q : Int) := by omega
                      have HE2 := Lib.hid (HMx.out wr (Below.refl _ _)).below
                      go_wp2_with fail
                      go_ret
                      exact ⟨rfl, HE2.out⟩
        | succ j =>
          have hjl : j < ks.length := hi
          rw [show (((j + 1 : Nat) : Int) - 1) = (j : Int) by omega]
          have hjq : j < q := by rw [← HQ.out]; exact hjl
          have j0 : (0 : Int) ≤ (j : Int) := by omega
          have j1 : (j : Int) < (q : Int) := by omega
          have hmem : ks[j] ∈ keysL T.L := by
            have h1 : ks[j] ∈ ks := List.getElem_mem hjl
            have h2 : ks[j] ∈ srtB (keysL T.L) := by rw [HKSE.out]; exact h1
            exact (srtB_perm (keysL T.L)).mem_iff.1 h2
          obtain ⟨kv, hkv⟩ := mem_keysL.1 hmem
          have hksm := HSM.out _ _ hkv
          have hnd : ks.Nodup := by
            have := (srtB_perm (keysL T.L)).nodup_iff.2 (keysL_nodup HG.out.ok)
            rwa [HKSE.out] at this
          have HNX := Lib.hid (wh_next HG.out HMV.out.mine.good hnd HWN.out hjl hkv)
          have hgk := get_has hlim HG.out hkv
          obtain ⟨g, cap, hv, hcell⟩ := key_at HR.out j hjl
          injection hv with hB _ hcp
          subst hB hcp
          clear hmem hnd
          generalize ks[j] = k at *
          have HGT := Lib.hid ((HMK.out wr HMV.out.mine.below).get k hksm)
          rw [hgk] at HGT
          have HPW := Lib.hid (show Pw (2 * Tn.L.length) from HMV.out.mine.pw.dbl (by have h1 := HFN.out.2; have h2 := HQ.out; omega))
          have HKZ := Lib.hid hksm
          have HJQ := Lib.hid hjq
          clear hgk hksm hkv
          go_wp2_with fail
          refine HGT.out.mono ?_
          rintro e w8 ⟨rfl, -, hb⟩
          have HM8 := Lib.hid (HMV.out.go hb)
          have HR8 := Lib.hid (own_go HR.out hb)
          have c8 : w8.cell? ⟨g, j, none⟩ = some (.string k) := (hb.cell (World.block_lt_of_cell? _ _ hcell)).trans hcell
          clear hb HGT HMV HR hcell
          go_wp2_with fail
          refine (HM8.out.put k kv HKZ.out HPW.out).mono ?_
          rintro e w9 ⟨rfl, hm9, hf9⟩
          have HM9 := Lib.hid hm9
          have HR9 := Lib.hid (own_fp HR8.out hf9 (fun x e hn => hn e))
          have HF9 := Lib.hid (HFN.out.step (put_step HM8.out.mine.good k kv))
          clear hm9 hf9 HM8 HR8 c8
          go_wp2_with fail
          go_roundw
          case rel => exact ⟨j, _, rfl, by omega, HNX.out, by rw [show ks.length - j = ks.length - (j + 1) + 1 by omega]; exact HF9.out, HM9.out, HR9.out⟩
          case measure =>
            simp only [intOf]
            omega
end Go.Proofs.Ytfpnedooipfpoaa.Base
namespace Go.Proofs.Ytfpnedooipfpoaa.What
open Go Go.RowKit Go.Proofs.YtfpnedooipfpoaaW.PrintWords Go.Proofs.Ytfpnedooipfpoaa.PExactHalf
theorem core (A : Option Addr) (c : Nat) (l : List S28) (key : ByteArray) (w : World) (hc : l.length ≤ c) (hm : l.length * 32 ≤ 140737488351232) (_ : ∀ x ∈ l, True) (hA : Kd.C k28 w A l.length l) (hk : key.size ≤ 140737488351232) :
    Calls Try.prog 6 #[.slice A l.length c, .string key] w fun e w' => e = .returned (.bool true) ∧ Below w.heap.size w w' := Base.what_law A c l key w hc (by omega) hA hk
end Go.Proofs.Ytfpnedooipfpoaa.What
