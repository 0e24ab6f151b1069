/- How far a key is looked for: ExactReach (4). Conditions: as the contract says. -/
import Derived.Test.YtfpnedooipfpoaaMade
set_option linter.unusedVariables false
set_option linter.unusedSimpArgs false
namespace Go.Proofs.Ytfpnedooipfpoaa.Base
open Go Go.RowKit Go.Proofs.Ytfpnedooipfpoaa Go.Proofs.Ytfpnedooipfpoaa.Ex Go.Proofs.Ytfpnedooipfpoaa.Mem Go.Proofs.Ytfpnedooipfpoaa.Math Go.Proofs.YtfpnedooipfpoaaW.PrintWords Go.Proofs.YtfpnedooipfpoaaW.PrintLast Go.Proofs.Ytfpnedooipfpoaa.PExactHalf
def lsum (T : Tb) (ks : List Key) (i : Nat) : Nat := ((ks.take i).map (looks HH T)).sum
theorem lsum_next (T : Tb) (ks : List Key) (i : Nat) (hi : i < ks.length) : lsum T ks (i + 1) = lsum T ks i + looks HH T ks[i] := by
  unfold lsum
  rw [List.take_succ_eq_append_getElem hi, List.map_append, List.sum_append]
  simp
theorem lsum_all {T : Tb} (h : Ex.Good HH T) : lsum T (srtB (keysL T.L)) (srtB (keysL T.L)).length ≤ T.n * (T.n + 1) / 2 := by
  unfold lsum
  rw [List.take_length, ((srtB_perm (keysL T.L)).map (looks HH T)).sum_nat]
  exact looks_sum hlim h
/-- A key at its place in the row of keys. -/
theorem key_at {w : World} {N : Nat} {v : Value} {ks : List Key} (h : w.ownsRow N 9 1 v ks.length (ks.map Value.string)) (i : Nat) (hi : i < ks.length) : ∃ g cap, v = .slice (some ⟨g, 0, none⟩) ks.length cap ∧ w.cell? ⟨g, i, none⟩ = some (.string ks[i]) := by
  rcases h.2 with ⟨rfl, h1⟩ | ⟨g, cap, cur, rfl, -⟩
  · omega
  · refine ⟨g, cap, rfl, ?_⟩
    rw [h.cellAt i (by omega), List.getElem?_map, List.getElem?_eq_getElem hi]
    rfl
def RcR (w wk : World) (a : Nat) (T : Tb) (v : Value) (ks : List Key) (t10 t11 : Value) (wr : World) : Prop := ∃ i : Nat, t11 = .int .i64 (i : Int) ∧ t10 = .int .i64 (lsum T ks i : Int) ∧ i ≤ ks.length ∧ lsum T ks i ≤ 500 * i ∧ Mine w wr a T ∧ wr.ownsRow wk.heap.size 9 1 v ks.length (ks.map Value.string)
set_option maxHeartbeats 3200000 in
set_option maxRecDepth 100000 in
theorem reach_law (A : Option Addr) (c : Nat) (l : List S28) (key : Key) (w : World) (hc : l.length ≤ c) (hl : l.length ≤ 140737488351232) (hA : Kd.C k28 w A l.length l) (hk : key.size ≤ 140737488351232) :
    Calls Try.prog 4 #[.slice A l.length c, .string key] w fun e w' => e = .returned (.bool true) ∧ Below w.heap.size w w' := by
  have HA := Lib.hid hA
  have HLG := Lib.hid (long_any A c l w hA hc hl)
  have HK := Lib.hid hk
  clear hc hl hA hk
  obtain ⟨m, hm⟩ : ∃ m, l.length = m := ⟨_, rfl⟩
  have HMM := Lib.hid hm
  rw [hm] at HLG ⊢
  clear hm
  obtain ⟨ksz, hksz⟩ : ∃ ksz, key.size = ksz := ⟨_, rfl⟩
  have HKS := Lib.hid hksz
  clear hksz
  go_enter Try.func4, Try.ntmps4
  go_wp2_with fail
  refine HLG.out.mono ?_
  rintro e w1 ⟨r, rfl, hr, hb⟩
  have HB1 := Lib.hid hb
  have HSH := Lib.hid hr
  clear hr hb HLG
  cases r with
  | true =>
    go_wp2_with fail
    refine (awake_any w1).mono ?_
    rintro e w2 ⟨rfl, hb⟩
    have HB2 := Lib.hid (below_step HB1.out hb)
    clear hb
    go_wp2_with fail
    go_ret
    exact ⟨rfl, HB2.out⟩
  | false =>
    have HS := Lib.hid (HSH.out rfl)
    clear HSH
    by_cases h3 : (3000 : Int) < (key.size : Int)
    · go_wp2_with fail
      refine (awake_any w1).mono ?_
      rintro e w2 ⟨rfl, hb⟩
      have HB2 := Lib.hid (below_step HB1.out hb)
      clear hb
      go_wp2_with fail
      go_ret
      exact ⟨rfl, HB2.out⟩
    · go_wp2_with fail
      refine (awake_any w1).mono ?_
      rintro e w2 ⟨rfl, hb⟩
      have HB2 := Lib.hid (below_step HB1.out hb)
      clear hb
      go_wp2_with fail
      have hmd := made_any A c l w2 HS.out (C_go HA.out HB2.out)
      rw [HMM.out] at hmd
      refine hmd.mono ?_
      clear hmd
      rintro e w3 ⟨a, T, rfl, hf, hm⟩
      have HF := Lib.hid hf
      have HM3 := Lib.hid (hm.back HB2.out)
      clear hf hm
      go_wp2_with fail
      have hg := HM3.out.get key HK.out
      obtain ⟨gv, hgv⟩ : ∃ gv, Ex.get HH T key = gv := ⟨_, rfl⟩
      have HGV := Lib.hid hgv
      rw [hgv] at hg
      clear hgv
      obtain ⟨gn, gb⟩ := gv
      refine hg.mono ?_
      clear hg
      rintro e w4 ⟨rfl, hm, -⟩
      have HM4 := Lib.hid hm
      clear hm
      go_wp2_with fail
      have hlk := HM4.out.looks key HK.out
      have hl1 := looks_le1 hlim HM4.out.good key
      have hl2 : gb = true → looks HH T key ≤ T.n := fun hgb => by
        rcases has_or hlim HM4.out.good key with ⟨v, hv⟩ | hno
        · exact (looks_le hlim HM4.out.good hv).2
        · have := get_no hlim HM4.out.good hno
          rw [HGV.out] at this
          obtain ⟨-, h⟩ := Prod.mk.inj this
          rw [hgb] at h
          cases h
      have hlen := HM4.out.len
      have hfn := HF.out.1
      have hsm : m < 500 := by have := HS.out.1; rw [HMM.out] at this; exact this
      obtain ⟨n, hn⟩ : ∃ n, T.n = n := ⟨_, rfl⟩
      have HN := Lib.hid hn
      obtain ⟨lk, hlk0⟩ : ∃ lk, looks HH T key = lk := ⟨_, rfl⟩
      rw [hn, hlk0] at hl1 hl2
      rw [hn] at hlen hfn
      rw [hlk0] at hlk
      clear hn hlk0
      have HLEN := Lib.hid (fun (W : World) (hM : Mine w W a T) => (show Calls Try.prog 13 #[ptr a] W fun e w' => e = .returned (.int .i64 (n : Int)) ∧ w' = W by rw [← HN.out]; exact hM.len))
      have kn : (n : Int) ≤ 500 := by omega
      have k1 : ¬ (lk : Int) < 1 := by omega
      have k2 : ¬ (n : Int) + 1 < (lk : Int) := by omega
      have k3 : (lk : Int) ≤ 501 := by omega
      refine hlk.mono ?_
      clear hlk hlen
      rintro e w5 ⟨rfl, hm, -⟩
      have HM5 := Lib.hid hm
      clear hm HM3 HM4
      have HL2 := Lib.hid hl2
      clear hl2 hl1 hfn hsm
      go_wp2_with fail
      refine (HLEN.out _ HM5.out).mono ?_
      rintro e w7 ⟨rfl, hww⟩; replace hww := hww.symm; subst hww
      cases gb with
      | true =>
        have k4 : ¬ (n : Int) < (lk : Int) := by have := HL2.out rfl; omega
        go_wp2_with fail
        refine (HLEN.out _ HM5.out).mono ?_
        rintro e w7 ⟨rfl, hww⟩; replace hww := hww.symm; subst hww
        clear HL2 k2 k3
        go_wp2_with fail
        refine HM5.out.keys.mono ?_
        rintro e w6 ⟨v, rfl, hro, hb⟩
        have HG := Lib.hid HM5.out.good
        have HSM := Lib.hid HM5.out.sm
        have hX : RcR w w5 a T v (srtB (keysL T.L)) (.int .i64 0) (.int .i64 0) w6 := ⟨0, rfl, rfl, Nat.zero_le _, Nat.le_refl _, HM5.out.go hb, hro⟩
        have HX := Lib.hid hX
        have HRO := Lib.hid hro
        clear hX hro hb HM5
        obtain ⟨ks, hks⟩ : ∃ ks, srtB (keysL T.L) = ks := ⟨_, rfl⟩
        have HKSE := Lib.hid hks
        rw [hks] at HX HRO
        clear hks
        obtain ⟨q, hq⟩ : ∃ q, ks.length = q := ⟨_, rfl⟩
        have HQ := Lib.hid hq
        have hqn : q ≤ 500 := by
          have h1 := (srtB_perm (keysL T.L)).length_eq
          rw [HKSE.out, keysL_len, HG.out.cnt, HN.out, hq] at h1
          omega
        clear hq
        have kq : (q : Int) ≤ 500 := by omega
        obtain ⟨B, cp, rfl, -⟩ := own_form HRO.out
        rw [HQ.out]
        go_wp2_with fail
        go_loopw [10, 11] (fun t10 t11 wr => RcR w w5 a T (.slice B ks.length cp) ks t10 t11 wr) (fun _ t11 _ => q - (intOf t11).toNat)
        case atStart => exact HX.out
        case round =>
          clear HX
          obtain ⟨i, rfl, rfl, hi, hsb, hm, hro⟩ := hrel
          have HM := Lib.hid hm
          have HR := Lib.hid hro
          rw [HQ.out] at hi
          clear hm hro
          by_cases him : i < q
          · have hil : i < ks.length := by rw [HQ.out]; exact him
            have hmem : ks[i] ∈ keysL T.L := by
              have h1 : ks[i] ∈ ks := List.getElem_mem hil
              have h2 : ks[i] ∈ srtB (keysL T.L) := by rw [HKSE.out]; exact h1
              exact (srtB_perm (keysL T.L)).mem_iff.1 h2
            obtain ⟨kv, hkv⟩ := mem_keysL.1 hmem
            have hlb := looks_le hlim HG.out hkv
            have hksm := HSM.out _ _ hkv
            have hnx := lsum_next T ks i hil
            obtain ⟨g, cap, hv, hcell⟩ := key_at HR.out i hil
            injection hv with hB _ hcp
            subst hB hcp
            clear hkv hmem
            generalize ks[i] = k at *
            rw [HN.out] at hlb
            have HLK := Lib.hid (HM.out.looks k hksm)
            obtain ⟨lk2, hlk2⟩ : ∃ lk2, looks HH T k = lk2 := ⟨_, rfl⟩
            rw [hlk2] at hlb hnx HLK
            clear hlk2 hksm
            have HNX := Lib.hid hnx
            obtain ⟨s, hs⟩ : ∃ s, lsum T ks i = s := ⟨_, rfl⟩
            have HSS := Lib.hid hs
            rw [hs] at hsb ⊢
            clear hs hnx
            have j0 : (i : Int) < (q : Int) := by omega
            have j1 : (0 : Int) ≤ (i : Int) := by omega
            have j2 : (s : Int) ≤ 250000 := by omega
            have j3 : (0 : Int) ≤ (s : Int) := by omega
            have j4 : ¬ (lk2 : Int) < 1 := by omega
            have j5 : ¬ (n : Int) < (lk2 : Int) := by omega
            have j6 : (lk2 : Int) ≤ 500 := by omega
            have HBD := Lib.hid (show s + lk2 ≤ 500 * (i + 1) ∧ i + 1 ≤ ks.length ∧ q - (i + 1) < q - i from ⟨by omega, hil, by omega⟩)
            clear hil hlb hsb
            go_wp2_with fail
            refine HLK.out.mono ?_
            rintro e w8 ⟨rfl, hm, hb⟩
            have HM8 := Lib.hid hm
            have HR8 := Lib.hid (own_go HR.out hb)
            clear hm hb HM HR HLK hcell
            go_wp2_with fail
            refine (HLEN.out _ HM8.out).mono ?_
            rintro e w7 ⟨rfl, hww⟩; replace hww := hww.symm; subst hww
            go_wp2_with fail
            go_roundw
            case rel => exact ⟨i + 1, by rw [Int.natCast_add] <;> rfl, by rw [HNX.out, HSS.out, Int.natCast_add] <;> rfl, HBD.out.2.1, by rw [HNX.out, HSS.out]; exact HBD.out.1, HM8.out, HR8.out⟩
            case measure =>
              rw [show ((i : Int) + 1) = ((i + 1 : Nat) : Int) by omega]
              simp only [intOf, Int.toNat_natCast]
              exact HBD.out.2.2
          · have j0 : ¬ (i : Int) < (q : Int) := by omega
            have hall := lsum_all HG.out
            have hie : i = ks.length := by have := HQ.out; omega
            rw [HKSE.out, HN.out, ← hie] at hall
            obtain ⟨s, hs⟩ : ∃ s, lsum T ks i = s := ⟨_, rfl⟩
            rw [hs] at hall ⊢
            obtain ⟨P, hP⟩ : ∃ P, n * (n + 1) = P := ⟨_, rfl⟩
            have hPb : P ≤ 500 * 501 := by rw [← hP]; exact Nat.mul_le_mul (by omega) (by omega)
            rw [hP] at hall
            have hPI : (n : Int) * ((n : Int) + 1) = (P : Int) := by rw [← hP, Int.natCast_mul, Int.natCast_add]; rfl
            have hq2 : (P : Int).tdiv 2 = ((P / 2 : Nat) : Int) := by rw [Int.tdiv_eq_ediv_of_nonneg (by omega)]; omega
            have j1 : (P : Int) ≤ 250500 := by omega
            have j2 : (s : Int) ≤ ((P / 2 : Nat) : Int) := by omega
            have j3 : (0 : Int) ≤ (P : Int) := by omega
            obtain ⟨P2, hP2⟩ : ∃ P2, P / 2 = P2 := ⟨_, rfl⟩
            rw [hP2] at hq2 j2
            have j4 : (P2 : Int) ≤ 250500 := by omega
            clear hP hPb hall hs hsb hi hie hP2
            go_wp2_with fail
            refine (HLEN.out _ HM.out).mono ?_
            rintro e w7 ⟨rfl, hww⟩; replace hww := hww.symm; subst hww
            go_wp2_with fail
            refine (HLEN.out _ HM.out).mono ?_
            rintro e w7 ⟨rfl, hww⟩; replace hww := hww.symm; subst hww
            go_wp2_with fail
            go_ret
            exact ⟨rfl, HM.out.below⟩
      | false =>
        clear HL2
        go_wp2_with fail
        refine HM5.out.keys.mono ?_
        rintro e w6 ⟨v, rfl, hro, hb⟩
        have HG := Lib.hid HM5.out.good
        have HSM := Lib.hid HM5.out.sm
        have hX : RcR w w5 a T v (srtB (keysL T.L)) (.int .i64 0) (.int .i64 0) w6 := ⟨0, rfl, rfl, Nat.zero_le _, Nat.le_refl _, HM5.out.go hb, hro⟩
        have HX := Lib.hid hX
        have HRO := Lib.hid hro
        clear hX hro hb HM5
        obtain ⟨ks, hks⟩ : ∃ ks, srtB (keysL T.L) = ks := ⟨_, rfl⟩
        have HKSE := Lib.hid hks
        rw [hks] at HX HRO
        clear hks
        obtain ⟨q, hq⟩ : ∃ q, ks.length = q := ⟨_, rfl⟩
        have HQ := Lib.hid hq
        have hqn : q ≤ 500 := by
          have h1 := (srtB_perm (keysL T.L)).length_eq
          rw [HKSE.out, keysL_len, HG.out.cnt, HN.out, hq] at h1
          omega
        clear hq
        have kq : (q : Int) ≤ 500 := by omega
        obtain ⟨B, cp, rfl, -⟩ := own_form HRO.out
        rw [HQ.out]
        go_wp2_with fail
        go_loopw [10, 11] (fun t10 t11 wr => RcR w w5 a T (.slice B ks.length cp) ks t10 t11 wr) (fun _ t11 _ => q - (intOf t11).toNat)
        case atStart => exact HX.out
        case round =>
          clear HX
          obtain ⟨i, rfl, rfl, hi, hsb, hm, hro⟩ := hrel
          have HM := Lib.hid hm
          have HR := Lib.hid hro
          rw [HQ.out] at hi
          clear hm hro
          by_cases him : i < q
          · have hil : i < ks.length := by rw [HQ.out]; exact him
            have hmem : ks[i] ∈ keysL T.L := by
              have h1 : ks[i] ∈ ks := List.getElem_mem hil
              have h2 : ks[i] ∈ srtB (keysL T.L) := by rw [HKSE.out]; exact h1
              exact (srtB_perm (keysL T.L)).mem_iff.1 h2
            obtain ⟨kv, hkv⟩ := mem_keysL.1 hmem
            have hlb := looks_le hlim HG.out hkv
            have hksm := HSM.out _ _ hkv
            have hnx := lsum_next T ks i hil
            obtain ⟨g, cap, hv, hcell⟩ := key_at HR.out i hil
            injection hv with hB _ hcp
            subst hB hcp
            clear hkv hmem
            generalize ks[i] = k at *
            rw [HN.out] at hlb
            have HLK := Lib.hid (HM.out.looks k hksm)
            obtain ⟨lk2, hlk2⟩ : ∃ lk2, looks HH T k = lk2 := ⟨_, rfl⟩
            rw [hlk2] at hlb hnx HLK
            clear hlk2 hksm
            have HNX := Lib.hid hnx
            obtain ⟨s, hs⟩ : ∃ s, lsum T ks i = s := ⟨_, rfl⟩
            have HSS := Lib.hid hs
            rw [hs] at hsb ⊢
            clear hs hnx
            have j0 : (i : Int) < (q : Int) := by omega
            have j1 : (0 : Int) ≤ (i : Int) := by omega
            have j2 : (s : Int) ≤ 250000 := by omega
            have j3 : (0 : Int) ≤ (s : Int) := by omega
            have j4 : ¬ (lk2 : Int) < 1 := by omega
            have j5 : ¬ (n : Int) < (lk2 : Int) := by omega
            have j6 : (lk2 : Int) ≤ 500 := by omega
            have HBD := Lib.hid (show s + lk2 ≤ 500 * (i + 1) ∧ i + 1 ≤ ks.length ∧ q - (i + 1) < q - i from ⟨by omega, hil, by omega⟩)
            clear hil hlb hsb
            go_wp2_with fail
            refine HLK.out.mono ?_
            rintro e w8 ⟨rfl, hm, hb⟩
            have HM8 := Lib.hid hm
            have HR8 := Lib.hid (own_go HR.out hb)
            clear hm hb HM HR HLK hcell
            go_wp2_with fail
            refine (HLEN.out _ HM8.out).mono ?_
            rintro e w7 ⟨rfl, hww⟩; replace hww := hww.symm; subst hww
            go_wp2_with fail
            go_roundw
            case rel => exact ⟨i + 1, by rw [Int.natCast_add] <;> rfl, by rw [HNX.out, HSS.out, Int.natCast_add] <;> rfl, HBD.out.2.1, by rw [HNX.out, HSS.out]; exact HBD.out.1, HM8.out, HR8.out⟩
            case measure =>
              rw [show ((i : Int) + 1) = ((i + 1 : Nat) : Int) by omega]
              simp only [intOf, Int.toNat_natCast]
              exact HBD.out.2.2
          · have j0 : ¬ (i : Int) < (q : Int) := by omega
            have hall := lsum_all HG.out
            have hie : i = ks.length := by have := HQ.out; omega
            rw [HKSE.out, HN.out, ← hie] at hall
            obtain ⟨s, hs⟩ : ∃ s, lsum T ks i = s := ⟨_, rfl⟩
            rw [hs] at hall ⊢
            obtain ⟨P, hP⟩ : ∃ P, n * (n + 1) = P := ⟨_, rfl⟩
            have hPb : P ≤ 500 * 501 := by rw [← hP]; exact Nat.mul_le_mul (by omega) (by omega)
            rw [hP] at hall
            have hPI : (n : Int) * ((n : Int) + 1) = (P : Int) := by rw [← hP, Int.natCast_mul, Int.natCast_add]; rfl
            have hq2 : (P : Int).tdiv 2 = ((P / 2 : Nat) : Int) := by rw [Int.tdiv_eq_ediv_of_nonneg (by omega)]; omega
            have j1 : (P : Int) ≤ 250500 := by omega
            have j2 : (s : Int) ≤ ((P / 2 : Nat) : Int) := by omega
            have j3 : (0 : Int) ≤ (P : Int) := by omega
            obtain ⟨P2, hP2⟩ : ∃ P2, P / 2 = P2 := ⟨_, rfl⟩
            rw [hP2] at hq2 j2
            have j4 : (P2 : Int) ≤ 250500 := by omega
            clear hP hPb hall hs hsb hi hie hP2
            go_wp2_with fail
            refine (HLEN.out _ HM.out).mono ?_
            rintro e w7 ⟨rfl, hww⟩; replace hww := hww.symm; subst hww
            go_wp2_with fail
            refine (HLEN.out _ HM.out).mono ?_
            rintro e w7 ⟨rfl, hww⟩; replace hww := hww.symm; subst hww
            go_wp2_with fail
            go_ret
            exact ⟨rfl, HM.out.below⟩
end Go.Proofs.Ytfpnedooipfpoaa.Base
namespace Go.Proofs.Ytfpnedooipfpoaa.Reach
open Go Go.RowKit Go.Proofs.YtfpnedooipfpoaaW.PrintWords Go.Proofs.Ytfpnedooipfpoaa.PExactHalf
theorem core (A : Option Addr) (c : Nat) (l : List S28) (key : ByteArray) (w : World) (hc : l.length ≤ c) (hm : l.length * 32 ≤ 140737488351232) (_ : ∀ x ∈ l, True) (hA : Kd.C k28 w A l.length l) (hk : key.size ≤ 140737488351232) :
    Calls Try.prog 4 #[.slice A l.length c, .string key] w fun e w' => e = .returned (.bool true) ∧ Below w.heap.size w w' := Base.reach_law A c l key w hc (by omega) hA hk
end Go.Proofs.Ytfpnedooipfpoaa.Reach
