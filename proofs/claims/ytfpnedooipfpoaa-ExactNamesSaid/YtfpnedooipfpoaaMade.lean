/- A map behind acts: made (14). Conditions: as the contract says. -/
import Derived.Test.YtfpnedooipfpoaaHalf
set_option linter.unusedVariables false
set_option linter.unusedSimpArgs false
namespace Go.Proofs.Ytfpnedooipfpoaa.Base
open Go Go.RowKit Go.Proofs.Ytfpnedooipfpoaa Go.Proofs.Ytfpnedooipfpoaa.Ex Go.Proofs.Ytfpnedooipfpoaa.Mem Go.Proofs.Ytfpnedooipfpoaa.Math Go.Proofs.YtfpnedooipfpoaaW.PrintWords Go.Proofs.YtfpnedooipfpoaaW.PrintLast Go.Proofs.Ytfpnedooipfpoaa.PExactHalf
def MdR (w : World) (a : Nat) (l : List S28) (t4 : Value) (wr : World) : Prop := ∃ (i : Nat) (T : Tb), t4 = .int .i64 (i : Int) ∧ i ≤ l.length ∧ Few i T ∧ Mine w wr a T
theorem Few.more {i : Nat} {T : Tb} (h : Few i T) : Few (i + 1) T := ⟨by have := h.1; omega, by have := h.2; omega⟩
set_option maxHeartbeats 3200000 in
set_option maxRecDepth 100000 in
theorem made_any (A : Option Addr) (c : Nat) (l : List S28) (w : World) (hs : Short l) (hA : Kd.C k28 w A l.length l) :
    Calls Try.prog 14 #[.slice A l.length c] w fun e w' => ∃ a T, e = .returned (ptr a) ∧ Few l.length T ∧ Mine w w' a T := by
  have HA := Lib.hid hA
  have HS := Lib.hid hs
  clear hA hs
  obtain ⟨m, hm⟩ : ∃ m, l.length = m := ⟨_, rfl⟩
  have HMM := Lib.hid hm
  rw [hm] at HA ⊢
  clear hm
  go_enter Try.func14, Try.ntmps14
  go_wp2_with fail
  refine (Mine.new w).mono ?_
  rintro e w3 ⟨a, rfl, hm⟩
  have HX := Lib.hid (show MdR w a l (.int .i64 0) w3 from ⟨0, new8, rfl, Nat.zero_le _, few_new, hm⟩)
  clear hm
  go_wp2_with fail
  go_loopw [4] (fun t4 wr => MdR w a l t4 wr) (fun t4 _ => m - (intOf t4).toNat)
  case atStart => exact HX.out
  case round =>
    clear HX
    obtain ⟨i, T, rfl, hi, hf, hm⟩ := hrel
    have HF := Lib.hid hf
    have HM := Lib.hid hm
    rw [HMM.out] at hi
    clear hf hm
    by_cases him : i < m
    · have k0 : (i : Int) < (m : Int) := by omega
      have k1 : (0 : Int) ≤ (i : Int) := by omega
      have hil : i < l.length := by rw [HMM.out]; exact him
      obtain ⟨g, o, rfl, f0, f1, f2⟩ := acts_at (C_go HA.out HM.out.below) HMM.out i hil
      have hks := HS.out.2 _ (List.getElem_mem hil)
      have HI := Lib.hid hil
      generalize l[i] = p at *
      obtain ⟨what, key, v⟩ := p
      have HP := Lib.hid (show key.size ≤ 140737488351232 by have h0 : key.size < 5000 := hks; omega)
      have HI5 := Lib.hid (show i < 500 by have := HS.out.1; have := HMM.out; omega)
      have hki : (i : Int) ≤ 1000 := by have := HI5.out; omega
      have hmeas : m - (i + 1) < m - i := by omega
      clear hks hil
      have HCE := Lib.hid (fun W (hW : Below wr.heap.size wr W) => (show W.cell? ⟨g, o + i * 3 + 1, none⟩ = some (.string key) ∧ W.cell? ⟨g, o + i * 3 + 2, none⟩ = some (.int .i64 v) from ⟨(hW.cell (World.block_lt_of_cell? _ _ f1)).trans f1, (hW.cell (World.block_lt_of_cell? _ _ f2)).trans f2⟩))
      have HPP := Lib.hid (HM.out.pw.dbl (by have h1 := HF.out.2; have h2 := HI5.out; omega))
      by_cases hw : what = 0
      · subst hw
        go_upto_region 7 with (fail)
        go_still_tail 11, (by kernel_rfl)
        have HMD := Lib.hid (HM.out.go (below_drew1 (Below.refl wr.heap.size wr)))
        change wpList _ _ _ _ _ wr.drew
        clear HCE
        generalize wr.drew = w5 at *
        go_wp2_with fail
        refine (HMD.out.put key v HP.out HPP.out).mono ?_
        rintro e w6 ⟨rfl, hm⟩
        have HM6 := Lib.hid hm
        have HST := Lib.hid (HF.out.step (put_step HM.out.good key v))
        clear hm HMD f0 f1 f2
        go_wp2_with fail
        go_roundw
        case rel => exact ⟨i + 1, _, by rw [Int.natCast_add] <;> rfl, HI.out, HST.out, HM6.out⟩
        case measure =>
          rw [show ((i : Int) + 1) = ((i + 1 : Nat) : Int) by omega]
          simp only [intOf, Int.toNat_natCast]
          exact hmeas
      · have hwb : (what == 0) = false := beq_eq_false_iff_ne.2 hw
        by_cases hw1 : what = 1
        · subst hw1
          clear hw hwb
          go_wp2_with fail
          refine (HM.out.del key HP.out).mono ?_
          rintro e w6 ⟨rfl, hm⟩
          have HM6 := Lib.hid hm
          have HST := Lib.hid (HF.out.step (del_step HM.out.good key))
          clear hm HCE f0 f1 f2
          go_wp2_with fail
          go_roundw
          case rel => exact ⟨i + 1, _, by rw [Int.natCast_add] <;> rfl, HI.out, HST.out, HM6.out⟩
          case measure =>
            rw [show ((i : Int) + 1) = ((i + 1 : Nat) : Int) by omega]
            simp only [intOf, Int.toNat_natCast]
            exact hmeas
        · have hwb1 : (what == 1) = false := beq_eq_false_iff_ne.2 hw1
          go_wp2_with fail
          go_roundw
          case rel => exact ⟨i + 1, _, by rw [Int.natCast_add] <;> rfl, HI.out, HF.out.more, HM.out⟩
          case measure =>
            rw [show ((i : Int) + 1) = ((i + 1 : Nat) : Int) by omega]
            simp only [intOf, Int.toNat_natCast]
            exact hmeas
    · have k0 : ¬ (i : Int) < (m : Int) := by omega
      have HIE := Lib.hid (show i = l.length by have := HMM.out; omega)
      go_wp2_with fail
      go_ret
      exact ⟨a, rfl, T, by rw [← HMM.out, ← HIE.out]; exact HF.out, HM.out⟩
end Go.Proofs.Ytfpnedooipfpoaa.Base
