/- All goes each bucket, Select one: the law's walk. Conditions: as each contract says. -/
import Derived.Test.YtpmckbpplkkgaaaGoesPure
set_option linter.unusedVariables false
set_option linter.unusedSimpArgs false
namespace Go.Proofs.Ytpmckbpplkkgaaa.Base
open Go Go.RowKit Go.Proofs.Ytpmckbpplkkgaaa.Mem Go.Proofs.YtpmckbpplkkgaaaW.PrintWords Go.Proofs.YtpmckbpplkkgaaaW.PrintLast Go.Proofs.Ytpmckbpplkkgaaa.Fl
open Go.Proofs.Ytpmckbpplkkgaaa.PGroupTells (S34 z34 k34 k34_open k34_mk)
def GoR (n : Nat) (w : World) (t7 : Value) (wr : World) : Prop := ∃ k : Nat, t7 = .int .i64 (k : Int) ∧ k ≤ n ∧ wr = w
def AnyR (l : List S34) (w : World) (t8 t9 : Value) (wr : World) : Prop := ∃ k : Nat, t8 = .bool ((l.take k).any big) ∧ t9 = .int .i64 (k : Int) ∧ k ≤ l.length ∧ wr = w
theorem any_next (l : List S34) (k : Nat) (h : k < l.length) : (l.take (k + 1)).any big = ((l.take k).any big || big l[k]) := by
  rw [List.take_succ_eq_append_getElem h, List.any_append]
  simp
set_option maxHeartbeats 16000000 in
theorem goes_law (id kind field : Int) (A : Option Addr) (cp : Nat) (l : List S34) (h : Nat) (w : World) (hr : Kd.C k34 w A l.length l) (hb : inB l) (hc : l.length ≤ cp) (hh : h < 4294967296) :
    Calls Try.prog 5 #[gV id kind field A l.length cp, .int .u32 (h : Int)] w fun e w' => e = .returned (.bool true) ∧ Below w.heap.size w w' := by
  have kA := (Below.refl w.heap.size w).alloc (Nat.le_refl _) (.cells #[.int .i64 id, .int .u8 kind, .int .i64 field, .slice A l.length cp] 27)
  have hG := Blk.new w 27 #[.int .i64 id, .int .u8 kind, .int .i64 field, .slice A l.length cp]
  have c3 := hG.cell 3
  by_cases hlen : 100 < l.length
  · have hl1 : (100 : Int) < (l.length : Int) := by omega
    clear hr hb hG
    go_enter Try.func5, Try.ntmps5
    go_wp2_with fail
    refine (awake_any _).mono ?_
    rintro e w1 ⟨rfl, hb1⟩
    go_wp2_with fail
    go_ret
    exact ⟨rfl, kA.trans (hb1.mono kA.size)⟩
  · have hl1 : ¬ (100 : Int) < (l.length : Int) := by omega
    have HR := Lib.hid hr
    have HG := Lib.hid hG
    have KA := Lib.hid kA
    clear hr hG kA
    go_enter Try.func5, Try.ntmps5
    go_wp2_with fail
    generalize w.alloc (.cells #[.int .i64 id, .int .u8 kind, .int .i64 field, .slice A l.length cp] 27) = wA at *
    refine (awake_any _).mono ?_
    rintro e w1 ⟨rfl, hb1⟩
    have HG1 := Lib.hid (HG.out.go hb1)
    have KA1 := Lib.hid (KA.out.trans (hb1.mono KA.out.size))
    clear hb1 c3 HG KA
    have c0 := HG1.out.cell 0
    have c1 := HG1.out.cell 1
    have c2 := HG1.out.cell 2
    have c3 := HG1.out.cell 3
    go_wp2_with fail
    refine (gchoose_any id kind field A cp l h w1 (Kd.C_below HR.out KA1.out) hb (by omega) hh).mono ?_
    rintro e w2 ⟨v, rfl, ho, hb2⟩
    have HG2 := Lib.hid (HG1.out.go hb2)
    have KA2 := Lib.hid (KA1.out.trans (hb2.mono KA1.out.size))
    have hlo := gch_len id kind field l h
    obtain ⟨A2, cp2, rfl, hcp2, hC2⟩ := ch_C ho (by omega)
    have HC2 := Lib.hid hC2
    clear hb2 c0 c1 c2 c3 HG1 KA1 ho hlo hC2
    have c0 := HG2.out.cell 0
    have c1 := HG2.out.cell 1
    have c2 := HG2.out.cell 2
    have c3 := HG2.out.cell 3
    go_wp2_with fail
    refine (gmay_any id kind field A cp l w2 (Kd.C_below HR.out KA2.out) hb (by omega)).mono ?_
    rintro e w3 ⟨rfl, hb3⟩
    have HG3 := Lib.hid (HG2.out.go hb3)
    have KA3 := Lib.hid (KA2.out.trans (hb3.mono KA2.out.size))
    have HC3 := Lib.hid (Kd.C_below HC2.out hb3)
    clear hb3 c0 c1 c2 c3 HG2 KA2 HC2
    cases hm : gmay id kind field l
    · have ho : gch id kind field l h = none := by unfold gch; rw [hm]; rfl
      rw [ho] at HC3 hcp2 ⊢
      have e0 : (none : Option (List Nat)).isSome = false := rfl
      have e1 : ((none : Option (List Nat)).getD []).length = 0 := rfl
      rw [e0, e1]
      clear ho e0 e1 hm
      go_wp2_with fail
      go_ret
      exact ⟨rfl, KA3.out⟩
    · have c1 := HG3.out.cell 1
      have c3 := HG3.out.cell 3
      cases hk : kind == 1
      · have HSEL := Lib.hid (gch_sel h hb (by omega) hm hk)
        have HB := Lib.hid hb
        have hl9 : (gch id kind field l h).getD [] = (gch id kind field l h).getD [] := rfl
        clear hl9 hb
        have HROW := Lib.hid (Kd.C_below HR.out KA3.out)
        have HR0 := Lib.hid (show AnyR l w3 (.bool false) (.int .i64 0) w3 from ⟨0, rfl, rfl, Nat.zero_le _, rfl⟩)
        generalize gch id kind field l h = o at *
        clear hm
        go_wp2_with fail
        go_loopw [8, 9] (fun t8 t9 wr => AnyR l w3 t8 t9 wr) (fun _ t9 _ => l.length - (intOf t9).toNat)
        case atStart => exact HR0.out
        case round =>
          obtain ⟨k, rfl, rfl, hk2, rfl⟩ := hrel
          by_cases hlt : k < l.length
          · have k0 : (0 : Int) ≤ (k : Int) := by omega
            have k1 : (k : Int) < (l.length : Int) := by omega
            obtain ⟨gA, o', cs, rfl, hK, -, hcell⟩ := row_at HROW.out (by decide : 0 < k34.sz) hlt
            obtain rfl := k34_open hK
            have hsz : k34.sz = 2 := rfl
            rw [hsz] at hcell
            have e0 := hcell 0 _ rfl
            rw [Nat.add_zero] at e0
            have HN := Lib.hid (any_next l k hlt)
            have hbb := HB.out _ (List.getElem_mem hlt)
            obtain ⟨m, hm⟩ : ∃ m : Nat, l[k].f0 = (m : Int) := ⟨l[k].f0.toNat, by omega⟩
            have HCL := Lib.hid (class_any m (by omega) wr)
            have HBG := Lib.hid (show big l[k] = decide (2 < cls m) by unfold big; rw [hm, Int.toNat_natCast])
            rw [hm] at e0
            generalize big l[k] = bb at *
            generalize (l.take k).any big = ba at *
            clear hK hcell hsz hbb hm
            cases ba
            · rw [Bool.false_or] at HN
              generalize cls m = cm at *
              cases hd : decide (2 < cm)
              all_goals
                rw [hd] at HBG
                rw [HBG.out] at HN
                go_wp2_with fail
                refine HCL.out.mono ?_
                rintro e _ ⟨rfl, rfl⟩
                go_wp2_with fail
                go_roundw
                case rel => exact ⟨k + 1, by rw [HN.out], by go_num, by omega, rfl⟩
                case measure => simp [intOf]; omega
            · rw [Bool.true_or] at HN
              go_wp2_with fail
              go_roundw
              case rel => exact ⟨k + 1, by rw [HN.out], by go_num, by omega, rfl⟩
              case measure => simp [intOf]; omega
          · obtain rfl : k = l.length := by omega
            have k1 : ¬ (l.length : Int) < (l.length : Int) := by omega
            rw [List.take_length]
            obtain ⟨s1, s2⟩ := HSEL.out
            rw [← s1]
            clear s1 HSEL HR0
            rcases s2 with rfl | ⟨i, hi, rfl, hbig⟩
            · have e0 : (none : Option (List Nat)).isSome = false := rfl
              have e1 : ((none : Option (List Nat)).getD []).length = 0 := rfl
              rw [e0, e1]
              clear e0 e1
              go_wp2_with fail
              go_ret
              exact ⟨rfl, KA3.out⟩
            · have e0 : (some [i] : Option (List Nat)).isSome = true := rfl
              have e1 : ((some [i] : Option (List Nat)).getD []).length = 1 := rfl
              rw [e0, e1]
              clear e0 e1
              obtain ⟨ad, rfl, y0⟩ := i64_at (l := [(i : Int)]) HC3.out 0 Nat.zero_lt_one
              have y1 : wr.cell? ad = some (.int .i64 (i : Int)) := by
                have hz : ad.add 0 = ad := by unfold Addr.add; simp
                rw [hz] at y0
                exact y0
              have k0 : (0 : Int) ≤ (i : Int) := by omega
              have k2 : (i : Int) < (l.length : Int) := by omega
              obtain ⟨gA, o', cs, rfl, hK, -, hcell⟩ := row_at HROW.out (by decide : 0 < k34.sz) hi
              obtain rfl := k34_open hK
              have hsz : k34.sz = 2 := rfl
              rw [hsz] at hcell
              have x0 := hcell 0 _ rfl
              rw [Nat.add_zero] at x0
              have hbb := HB.out _ (List.getElem_mem hi)
              obtain ⟨m, hm⟩ : ∃ m : Nat, l[i].f0 = (m : Int) := ⟨l[i].f0.toNat, by omega⟩
              have HCL := Lib.hid (fun n => class_any m (by omega) (wr.drewN n))
              have hcm : decide (2 < cls m) = true := by unfold big at hbig; rw [hm, Int.toNat_natCast] at hbig; exact hbig
              rw [hm] at x0
              generalize cls m = cm at *
              clear hK hcell hsz hbb hm hbig y0
              go_wp2_with fail
              go_quiet ((go_at_call 19; exact Calls.quiet_of_same ((HCL.out _).mono fun e w' hq => ⟨hq.1, hq.2.symm⟩)))
              go_wp2_with fail
              go_ret
              exact ⟨rfl, pw_below_drewN KA3.out _⟩
      · have hk1 : kind = 1 := eq_of_beq hk
        subst hk1
        have ho : gch id 1 field l h = some (List.range l.length) := by unfold gch; rw [hm]; rfl
        rw [ho] at HC3 hcp2 ⊢
        have e0 : (some (List.range l.length)).isSome = true := rfl
        have e1 : ((some (List.range l.length)).getD []).length = l.length := List.length_range
        rw [e1] at hcp2
        rw [e0, e1]
        clear ho e0 e1 hm hk
        have HR0 := Lib.hid (show GoR l.length w3 (.int .i64 0) w3 from ⟨0, rfl, Nat.zero_le _, rfl⟩)
        have HX := Lib.hid (show ∀ k, k < l.length → ∃ ad, A2 = some ad ∧ w3.cell? (ad.add k) = some (.int .i64 (k : Int)) from fun k hk => by
          have hM : ((List.range l.length).map (fun (n : Nat) => (n : Int))).length = l.length := by rw [List.length_map, List.length_range]
          obtain ⟨ad, h1, h2⟩ := i64_at (l := (List.range l.length).map (fun (n : Nat) => (n : Int))) HC3.out k (by rw [hM]; exact hk)
          exact ⟨ad, h1, by simpa using h2⟩)
        go_wp2_with fail
        go_loopw [7] (fun t7 wr => GoR l.length w3 t7 wr) (fun t7 _ => l.length - (intOf t7).toNat)
        case atStart => exact HR0.out
        case round =>
          obtain ⟨k, rfl, hk, rfl⟩ := hrel
          by_cases hlt : k < l.length
          · have k0 : (0 : Int) ≤ (k : Int) := by omega
            have k1 : (k : Int) < (l.length : Int) := by omega
            obtain ⟨ad, rfl, e0⟩ := HX.out k hlt
            go_wp2_with fail
            go_roundw
            case rel => exact ⟨k + 1, by go_num, by omega, rfl⟩
            case measure => simp [intOf]; omega
          · obtain rfl : k = l.length := by omega
            have k1 : ¬ (l.length : Int) < (l.length : Int) := by omega
            go_wp2_with fail
            go_ret
            exact ⟨rfl, KA3.out⟩
end Go.Proofs.Ytpmckbpplkkgaaa.Base
namespace Go.Proofs.Ytpmckbpplkkgaaa.Goes
open Go.Proofs.YtpmckbpplkkgaaaW.PrintWords Go.Proofs.Ytpmckbpplkkgaaa.Mem
open Go Go.RowKit
theorem core (i k f : Int) (A : Option Addr) (c : Nat) (l : List PGroupTells.S34) (h : Int) (w : World) (hk : 0 ≤ k ∧ k < 256) (hc : l.length ≤ c) (hm : l.length * 16 ≤ 140737488351232) (hb : Base.inB l) (hr : Kd.C PGroupTells.k34 w A l.length l) (hh : (Lit.int .u32 h).wf = true) :
    Calls Try.prog 5 #[.agg #[.int .i64 i, .int .u8 k, .int .i64 f, .slice A l.length c], .int .u32 h] w fun e w' => e = .returned (.bool true) ∧ Below w.heap.size w w' := by
  have h2 : 0 ≤ h ∧ h < 4294967296 := by
    have : IntKind.u32.min ≤ h ∧ h ≤ IntKind.u32.max := by simpa [Lit.wf] using hh
    simp [IntKind.min, IntKind.max, IntKind.signed, IntKind.bits] at this
    omega
  obtain ⟨h2, h3⟩ := h2
  obtain ⟨j, rfl⟩ : ∃ k : Nat, h = (k : Int) := ⟨h.toNat, by omega⟩
  exact Base.goes_law i k f A c l j w hr hb hc (by omega)
end Go.Proofs.Ytpmckbpplkkgaaa.Goes
