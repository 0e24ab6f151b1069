/- How many slots there are: ExactHalf (3). Conditions: as the contract says. -/
import Derived.Test.YtfpnedooipfpoaaAwake
set_option linter.unusedVariables false
set_option linter.unusedSimpArgs false
namespace Go.Proofs.Ytfpnedooipfpoaa.Base
open Go Go.RowKit Go.Proofs.Ytfpnedooipfpoaa Go.Proofs.Ytfpnedooipfpoaa.Ex Go.Proofs.Ytfpnedooipfpoaa.Mem Go.Proofs.Ytfpnedooipfpoaa.Math Go.Proofs.YtfpnedooipfpoaaW.PrintWords Go.Proofs.YtfpnedooipfpoaaW.PrintLast Go.Proofs.Ytfpnedooipfpoaa.PExactHalf
theorem C_go {w w1 : World} {A : Option Addr} {n : Nat} {l : List S28} (h : Kd.C k28 w A n l) (hb : Below w.heap.size w w1) : Kd.C k28 w1 A n l :=
  ReadsRow.imp_ h hb (fun p c hp => by rw [k28_open hp]; exact k28_mk w1 p)
theorem acts_at {w : World} {A : Option Addr} {n : Nat} {l : List S28} (h : Kd.C k28 w A n l) (hn : l.length = n) (i : Nat) (hi : i < l.length) : ∃ g o, A = some ⟨g, o, none⟩ ∧ w.cell? ⟨g, o + i * 3, none⟩ = some (.int .u8 l[i].f0) ∧ w.cell? ⟨g, o + i * 3 + 1, none⟩ = some (.string l[i].f1) ∧ w.cell? ⟨g, o + i * 3 + 2, none⟩ = some (.int .i64 l[i].f2) := by
  subst hn
  have h2 : ReadsRow (k28.K w) 3 w A l.length l := h
  obtain ⟨g, o, cs, e, hK, -, hc⟩ := row_at h2 (by decide) hi
  obtain rfl := k28_open hK
  exact ⟨g, o, e, by simpa using hc 0 _ rfl, hc 1 _ rfl, hc 2 _ rfl⟩
theorem Pw.dbl {n : Nat} (h : Pw n) (hn : n ≤ 536870912) : Pw (2 * n) := by
  obtain ⟨e, rfl, he⟩ := h
  have : e ≤ 29 := by
    rcases Nat.lt_or_ge e 30 with h | h
    · omega
    · have := Nat.pow_le_pow_right (show 0 < 2 by decide) h
      have h2 : (2 : Nat) ^ 30 = 1073741824 := by decide
      omega
  exact ⟨e + 1, by rw [Nat.pow_succ]; omega, by omega⟩
/-- What an act does to the slots. -/
def Step2 (T T' : Tb) : Prop := T'.n ≤ T.n + 1 ∧ (T'.L.length = T.L.length ∨ (T'.L.length = 2 * T.L.length ∧ T.L.length < 2 * T'.n))
theorem put_step {T : Tb} (h : Ex.Good HH T) (k : Key) (v : Int) : Step2 T (put HH T k v).2 := by
  rcases put_spec hlim h k v with ⟨v0, T2, -, e, h1, h2, h3, h4⟩ | ⟨T2, -, e, h1, h2, h3, h4, -⟩
  · rw [e]
    exact ⟨by show T2.n ≤ _; omega, .inl h3⟩
  · rw [e]
    refine ⟨by show T2.n ≤ _; omega, ?_⟩
    show T2.L.length = _ ∨ (T2.L.length = _ ∧ _)
    rw [h3]
    by_cases hc : T.L.length < 2 * (T.n + 1)
    · exact .inr ⟨if_pos hc, by show _ < 2 * T2.n; omega⟩
    · exact .inl (if_neg hc)
theorem del_step {T : Tb} (h : Ex.Good HH T) (k : Key) : Step2 T (del HH T k).2 := by
  rcases del_spec hlim h k with ⟨v0, T2, -, e, h1, h2, h3, h4⟩ | ⟨-, e⟩
  · rw [e]
    exact ⟨by show T2.n ≤ _; omega, .inl h3⟩
  · rw [e]
    exact ⟨by show T.n ≤ _; omega, .inl rfl⟩
theorem slots_and {n : Nat} (h : Pw n) : Go.bits .and .i64 (n : Int) ((n : Int) - 1) = 0 := by
  obtain ⟨e, rfl, he⟩ := h
  rw [i64_and_pow e (by omega)]
  exact Int.emod_self
/-- A table after so many acts. -/
def Few (i : Nat) (T : Tb) : Prop := T.n ≤ i ∧ T.L.length ≤ 8 + 4 * i
theorem Few.step {i : Nat} {T T' : Tb} (h : Few i T) (hs : Step2 T T') : Few (i + 1) T' := by
  obtain ⟨h1, h2⟩ := h
  obtain ⟨h3, h4⟩ := hs
  refine ⟨by omega, ?_⟩
  rcases h4 with h4 | ⟨h4, h5⟩ <;> omega
theorem few_new : Few 0 new8 := ⟨Nat.le_refl _, by rw [new8_len]; decide⟩
def HfR (w : World) (a : Nat) (l : List S28) (t4 t5 : Value) (wr : World) : Prop := ∃ (i : Nat) (T : Tb), t5 = .int .i64 (i : Int) ∧ t4 = .int .i64 (T.L.length : Int) ∧ i ≤ l.length ∧ Few i T ∧ Mine w wr a T
set_option maxHeartbeats 3200000 in
set_option maxRecDepth 100000 in
theorem half_law (A : Option Addr) (c : Nat) (l : List S28) (w : World) (hc : l.length ≤ c) (hl : l.length ≤ 140737488351232) (hA : Kd.C k28 w A l.length l) :
    Calls Try.prog 3 #[.slice A l.length c] w fun e w' => e = .returned (.bool true) ∧ Below w.heap.size w w' := by
  have HA := Lib.hid hA
  have HLG := Lib.hid (long_any A c l w hA hc hl)
  have HLL := Lib.hid hl
  clear hc hl hA
  obtain ⟨m, hm⟩ : ∃ m, l.length = m := ⟨_, rfl⟩
  have HMM := Lib.hid hm
  rw [hm] at HLG HA ⊢
  clear hm
  go_enter Try.func3, Try.ntmps3
  go_wp2_with fail
  refine HLG.out.mono ?_
  rintro e w1 ⟨r, rfl, hr, hb⟩
  have HB1 := Lib.hid hb
  have HSH := Lib.hid hr
  clear hr hb HLG
  cases r with
  | true =>
    go_wp2_with fail
    refine (awake_any w1).mono ?_
    rintro e w2 ⟨rfl, hb⟩
    have HB2 := Lib.hid (below_step HB1.out hb)
    clear hb
    go_wp2_with fail
    go_ret
    exact ⟨rfl, HB2.out⟩
  | false =>
    have HS := Lib.hid (HSH.out rfl)
    clear HSH
    go_wp2_with fail
    refine (awake_any w1).mono ?_
    rintro e w2 ⟨rfl, hb⟩
    have HB2 := Lib.hid (below_step HB1.out hb)
    clear hb
    go_wp2_with fail
    refine (Mine.new w2).mono ?_
    rintro e w3 ⟨a, rfl, hm⟩
    have HX := Lib.hid (show HfR w a l (.int .i64 8) (.int .i64 0) w3 from ⟨0, new8, rfl, by rw [new8_len]; rfl, Nat.zero_le _, few_new, hm.back HB2.out⟩)
    clear hm
    go_wp2_with fail
    go_loopw [4, 5] (fun t4 t5 wr => HfR w a l t4 t5 wr) (fun _ t5 _ => m - (intOf t5).toNat)
    case atStart => exact HX.out
    case round =>
      clear HX
      obtain ⟨i, T, rfl, rfl, hi, hf, hm⟩ := hrel
      have HF := Lib.hid hf
      have HM := Lib.hid hm
      rw [HMM.out] at hi
      clear hf hm
      by_cases him : i < m
      · have k0 : (i : Int) < (m : Int) := by omega
        have k1 : (0 : Int) ≤ (i : Int) := by omega
        have hil : i < l.length := by rw [HMM.out]; exact him
        obtain ⟨g, o, rfl, f0, f1, f2⟩ := acts_at (C_go HA.out HM.out.below) HMM.out i hil
        have hks := HS.out.2 _ (List.getElem_mem hil)
        have HI := Lib.hid hil
        generalize l[i] = p at *
        obtain ⟨what, key, v⟩ := p
        have HP := Lib.hid (show key.size ≤ 140737488351232 by have h0 : key.size < 5000 := hks; omega)
        have HI5 := Lib.hid (show i < 500 by have := HS.out.1; omega)
        clear hks hil
        have HCE := Lib.hid (fun W (hW : Below wr.heap.size wr W) => (show W.cell? ⟨g, o + i * 3 + 1, none⟩ = some (.string key) ∧ W.cell? ⟨g, o + i * 3 + 2, none⟩ = some (.int .i64 v) from ⟨(hW.cell (World.block_lt_of_cell? _ _ f1)).trans f1, (hW.cell (World.block_lt_of_cell? _ _ f2)).trans f2⟩))
        have HPP := Lib.hid (HM.out.pw.dbl (by have h1 := HF.out.2; have h2 := HI5.out; omega))
        by_cases hw : what = 0
        · subst hw
          go_upto_region 9 with (fail)
          go_still_tail 11, (by kernel_rfl)
          have HMD := Lib.hid (HM.out.go (below_drew1 (Below.refl wr.heap.size wr)))
          obtain ⟨f1, f2⟩ := HCE.out wr.drew (below_drew1 (Below.refl wr.heap.size wr))
          change wpList _ _ _ _ _ wr.drew
          clear HCE
          generalize wr.drew = w5 at *
          go_wp2_with fail
          refine (HMD.out.put key v HP.out HPP.out).mono ?_
          rintro e w6 ⟨rfl, hm⟩
          have HM6 := Lib.hid hm
          have HST := Lib.hid (put_step HM.out.good key v)
          clear hm HMD f0 f1 f2
          go_wp2_with fail
          obtain ⟨T', hT'⟩ : ∃ T', (put HH T key v).2 = T' := ⟨_, rfl⟩
          rw [hT'] at HM6 HST
          clear hT'
          have HF6 := Lib.hid (HF.out.step HST.out)
          have hs6 := HM6.out.slots
          have hn6 := HM6.out.len
          have hh6 := HM6.out.good.half
          have hand := slots_and HM6.out.pw
          have hp6 := HM6.out.pw.pos
          have hf6 := HF6.out.2
          have hi5 := HI5.out
          obtain ⟨N, hN⟩ : ∃ N, T'.n = N := ⟨_, rfl⟩
          rw [hN] at hn6 hh6
          obtain ⟨S', hS'⟩ : ∃ S', T'.L.length = S' := ⟨_, rfl⟩
          have HS6 := Lib.hid hS'
          rw [hS'] at hs6 hh6 hand hp6 hf6
          have hst := HST.out.2
          rw [hS', hN] at hst
          obtain ⟨S, hS⟩ : ∃ S, T.L.length = S := ⟨_, rfl⟩
          rw [hS] at hst
          have hb1 : (S' : Int) ≤ 5000 := by omega
          have hb2 : (1 : Int) ≤ (S' : Int) := by omega
          have hb3 : (N : Int) ≤ 5000 := by omega
          have hb4 : (0 : Int) ≤ (N : Int) := by omega
          have hb5 : ¬ (S' : Int) < 2 * (N : Int) := by omega
          have HSN := Lib.hid hs6
          have HNN := Lib.hid hn6
          have HI9 := Lib.hid HI.out
          have hmeas : m - (i + 1) < m - i := by omega
          have hki : (i : Int) ≤ 1000 := by omega
          clear hs6 hn6 hh6 hf6 hi5 hp6 hN hS'
          refine HSN.out.mono ?_
          rintro e w7 ⟨rfl, hww⟩; replace hww := hww.symm; subst hww
          try rw [hS]
          rcases hst with hst | ⟨hst, hst2⟩
          · subst hst
            go_wp2_with fail
            refine HNN.out.mono ?_
            rintro e w7 ⟨rfl, hww⟩; replace hww := hww.symm; subst hww
            go_wp2_with fail
            go_roundw
            case rel => exact ⟨i + 1, T', by rw [Int.natCast_add] <;> rfl, by rw [HS6.out], HI9.out, HF6.out, HM6.out⟩
            case measure =>
              rw [show ((i : Int) + 1) = ((i + 1 : Nat) : Int) by omega]
              simp only [intOf, Int.toNat_natCast]
              exact hmeas
          · subst hst
            rw [show ((2 * S : Nat) : Int) = 2 * (S : Int) by omega] at hand hb1 hb2 hb5 ⊢
            have hc1 : (S : Int) < 2 * (S : Int) := by omega
            have hc3 : ¬ 2 * (N : Int) ≤ (S : Int) := by omega
            have hc4 : ¬ 2 * (S : Int) < (S : Int) := by omega
            have hc5 : (0 : Int) < (S : Int) := by omega
            have hc6 : (S : Int) ≤ 2500 := by omega
            have hc8 : ¬ (S : Int) < (N : Int) := by omega
            clear hst2
            go_wp2_with fail
            refine HNN.out.mono ?_
            rintro e w7 ⟨rfl, hww⟩; replace hww := hww.symm; subst hww
            go_wp2_with fail
            refine HNN.out.mono ?_
            rintro e w7 ⟨rfl, hww⟩; replace hww := hww.symm; subst hww
            go_wp2_with fail
            go_roundw
            case rel => exact ⟨i + 1, T', by rw [Int.natCast_add] <;> rfl, by rw [HS6.out, Int.natCast_mul] <;> rfl, HI9.out, HF6.out, HM6.out⟩
            case measure =>
              rw [show ((i : Int) + 1) = ((i + 1 : Nat) : Int) by omega]
              simp only [intOf, Int.toNat_natCast]
              exact hmeas
        · have hwb : (what == 0) = false := beq_eq_false_iff_ne.2 hw
          go_wp2_with fail
          refine (HM.out.del key HP.out).mono ?_
          rintro e w6 ⟨rfl, hm⟩
          have HM6 := Lib.hid hm
          have HST := Lib.hid (del_step HM.out.good key)
          clear hm HCE f0 f1 f2
          go_wp2_with fail
          obtain ⟨T', hT'⟩ : ∃ T', (del HH T key).2 = T' := ⟨_, rfl⟩
          rw [hT'] at HM6 HST
          clear hT'
          have HF6 := Lib.hid (HF.out.step HST.out)
          have hs6 := HM6.out.slots
          have hn6 := HM6.out.len
          have hh6 := HM6.out.good.half
          have hand := slots_and HM6.out.pw
          have hp6 := HM6.out.pw.pos
          have hf6 := HF6.out.2
          have hi5 := HI5.out
          obtain ⟨N, hN⟩ : ∃ N, T'.n = N := ⟨_, rfl⟩
          rw [hN] at hn6 hh6
          obtain ⟨S', hS'⟩ : ∃ S', T'.L.length = S' := ⟨_, rfl⟩
          have HS6 := Lib.hid hS'
          rw [hS'] at hs6 hh6 hand hp6 hf6
          have hst := HST.out.2
          rw [hS', hN] at hst
          obtain ⟨S, hS⟩ : ∃ S, T.L.length = S := ⟨_, rfl⟩
          rw [hS] at hst
          have hb1 : (S' : Int) ≤ 5000 := by omega
          have hb2 : (1 : Int) ≤ (S' : Int) := by omega
          have hb3 : (N : Int) ≤ 5000 := by omega
          have hb4 : (0 : Int) ≤ (N : Int) := by omega
          have hb5 : ¬ (S' : Int) < 2 * (N : Int) := by omega
          have HSN := Lib.hid hs6
          have HNN := Lib.hid hn6
          have HI9 := Lib.hid HI.out
          have hmeas : m - (i + 1) < m - i := by omega
          have hki : (i : Int) ≤ 1000 := by omega
          clear hs6 hn6 hh6 hf6 hi5 hp6 hN hS'
          refine HSN.out.mono ?_
          rintro e w7 ⟨rfl, hww⟩; replace hww := hww.symm; subst hww
          try rw [hS]
          rcases hst with hst | ⟨hst, hst2⟩
          · subst hst
            go_wp2_with fail
            refine HNN.out.mono ?_
            rintro e w7 ⟨rfl, hww⟩; replace hww := hww.symm; subst hww
            go_wp2_with fail
            go_roundw
            case rel => exact ⟨i + 1, T', by rw [Int.natCast_add] <;> rfl, by rw [HS6.out], HI9.out, HF6.out, HM6.out⟩
            case measure =>
              rw [show ((i : Int) + 1) = ((i + 1 : Nat) : Int) by omega]
              simp only [intOf, Int.toNat_natCast]
              exact hmeas
          · subst hst
            rw [show ((2 * S : Nat) : Int) = 2 * (S : Int) by omega] at hand hb1 hb2 hb5 ⊢
            have hc1 : (S : Int) < 2 * (S : Int) := by omega
            have hc3 : ¬ 2 * (N : Int) ≤ (S : Int) := by omega
            have hc4 : ¬ 2 * (S : Int) < (S : Int) := by omega
            have hc5 : (0 : Int) < (S : Int) := by omega
            have hc6 : (S : Int) ≤ 2500 := by omega
            have hc8 : ¬ (S : Int) < (N : Int) := by omega
            clear hst2
            go_wp2_with fail
            refine HNN.out.mono ?_
            rintro e w7 ⟨rfl, hww⟩; replace hww := hww.symm; subst hww
            go_wp2_with fail
            refine HNN.out.mono ?_
            rintro e w7 ⟨rfl, hww⟩; replace hww := hww.symm; subst hww
            go_wp2_with fail
            go_roundw
            case rel => exact ⟨i + 1, T', by rw [Int.natCast_add] <;> rfl, by rw [HS6.out, Int.natCast_mul] <;> rfl, HI9.out, HF6.out, HM6.out⟩
            case measure =>
              rw [show ((i : Int) + 1) = ((i + 1 : Nat) : Int) by omega]
              simp only [intOf, Int.toNat_natCast]
              exact hmeas
      · have k0 : ¬ (i : Int) < (m : Int) := by omega
        go_wp2_with fail
        go_ret
        exact ⟨rfl, HM.out.below⟩
end Go.Proofs.Ytfpnedooipfpoaa.Base
namespace Go.Proofs.Ytfpnedooipfpoaa.Half
open Go Go.RowKit Go.Proofs.YtfpnedooipfpoaaW.PrintWords Go.Proofs.Ytfpnedooipfpoaa.PExactHalf
theorem core (A : Option Addr) (c : Nat) (l : List S28) (w : World) (hc : l.length ≤ c) (hm : l.length * 32 ≤ 140737488351232) (_ : ∀ x ∈ l, True) (hA : Kd.C k28 w A l.length l) :
    Calls Try.prog 3 #[.slice A l.length c] w fun e w' => e = .returned (.bool true) ∧ Below w.heap.size w w' := Base.half_law A c l w hc (by omega) hA
end Go.Proofs.Ytfpnedooipfpoaa.Half
