/- Behind a length that may not be nothing is told, whatever comes; a length that is cut short closes nothing. Conditions: none beyond the row's own. -/
import Derived.Test.YtedkfhgpahjleaaBack
set_option linter.unusedVariables false
set_option linter.unusedSimpArgs false
namespace Go.Proofs.Ytedkfhgpahjleaa.Shuts
open Go Go.RowKit Go.Proofs.Ytedkfhgpahjleaa.Mem Go.Proofs.YtedkfhgpahjleaaW.PrintWords Go.Proofs.Ytedkfhgpahjleaa.Base Go.Proofs.Ytedkfhgpahjleaa.Back
theorem u8_of {a : Int} (h : (Lit.int .u8 a).wf = true) : ∃ x : UInt8, a = (x.toNat : Int) := by
  simp [Lit.wf, IntKind.min, IntKind.max, IntKind.signed, IntKind.bits] at h
  refine ⟨UInt8.ofNat a.toNat, ?_⟩
  rw [UInt8.toNat_ofNat']
  omega
def LR (B p : Nat) (l : List ByteArray) (w0 : World) (t17 t18 : Value) (wr : World) : Prop := ∃ k n : Nat, t18 = .int .i64 (k : Int) ∧ t17 = .int .i64 (n : Int) ∧ n ≤ k ∧ k ≤ l.length ∧ St wr B p (some []) ∧ Kp B w0 wr
def MR (B p : Nat) (l : List ByteArray) (w0 : World) (t28 : Value) (wr : World) : Prop := ∃ k : Nat, t28 = .int .i64 (k : Int) ∧ k ≤ l.length ∧ St wr B p none ∧ Kp B w0 wr
theorem quart (a : Int) : ∃ q : Nat, wrap64 ((IntKind.u64.wrap a) % 4) = (q : Int) ∧ q < 4 := by
  have h0 : 0 ≤ IntKind.u64.wrap a := by
    have : IntKind.u64.wrap a = a % 18446744073709551616 := by simp [IntKind.wrap, IntKind.bits, IntKind.signed]
    omega
  generalize IntKind.u64.wrap a = x at *
  have h1 := Int.emod_nonneg x (b := 4) (by omega)
  have h2 := Int.emod_lt_of_pos x (b := 4) (by omega)
  refine ⟨(x % 4).toNat, ?_, by omega⟩
  generalize x % 4 = y at *
  unfold wrap64
  omega
theorem quart' (a : Int) : ∃ q : Nat, wrap64 ((IntKind.u64.wrap a).tmod 4) = (q : Int) ∧ q < 4 := by
  have h0 : 0 ≤ IntKind.u64.wrap a := by
    have : IntKind.u64.wrap a = a % 18446744073709551616 := by simp [IntKind.wrap, IntKind.bits, IntKind.signed]
    omega
  rw [Int.tmod_eq_emod_of_nonneg h0]
  exact quart a
theorem awake_end {n : Nat} {P : Program} : True := trivial
set_option maxHeartbeats 3200000 in
set_option maxRecDepth 100000 in
theorem core (A : Option Addr) (cp : Nat) (l : List ByteArray) (a b c d cut : Int) (M : Option Addr) (cm : Nat) (more : List ByteArray) (w : World)
    (hc : l.length ≤ cp) (hm : l.length * 16 ≤ 140737488351232) (hz : ∀ x ∈ l, x.size ≤ 140737488351232) (hl : Kd.string.C w A l.length l)
    (ha : (Lit.int .u8 a).wf = true) (hb : (Lit.int .u8 b).wf = true) (hcc : (Lit.int .u8 c).wf = true) (hd : (Lit.int .u8 d).wf = true) (hcut : (Lit.int .i64 cut).wf = true)
    (hc' : more.length ≤ cm) (hm' : more.length * 16 ≤ 140737488351232) (hz' : ∀ x ∈ more, x.size ≤ 140737488351232) (hl' : Kd.string.C w M more.length more) :
    Calls Try.prog 9 #[.slice A l.length cp, .int .u8 a, .int .u8 b, .int .u8 c, .int .u8 d, .int .i64 cut, .slice M more.length cm] w fun e w' => e = .returned (.bool true) ∧ Below w.heap.size w w' := by
  obtain ⟨x, rfl⟩ := u8_of ha
  obtain ⟨y, rfl⟩ := u8_of hb
  obtain ⟨z, rfl⟩ := u8_of hcc
  obtain ⟨v, rfl⟩ := u8_of hd
  clear ha hb hcc hd hz hz'
  obtain ⟨b1, hb1, hcall⟩ := long_any A cp l w hl hc (by omega)
  cases b1 with
  | true =>
    go_enter Try.func9, Try.ntmps9
    go_wp2_with fail
    refine hcall.mono ?_
    rintro e w1 ⟨rfl, hb1⟩
    have HK := (Kp.refl w).go hb1
    clear hb1
    go_wp2_with fail
    refine (awake_any _).mono ?_
    rintro e w3 ⟨rfl, hb⟩
    replace HK := HK.go hb
    go_wp2_with fail
    go_ret
    exact ⟨rfl, HK.below⟩
  | false =>
    have ht := hb1 rfl
    clear hb1
    have htl := tot_len l
    have HL := Lib.hid hl
    have HM := Lib.hid hl'
    clear hl hl'
    go_enter Try.func9, Try.ntmps9
    go_wp2_with fail
    refine hcall.mono ?_
    clear hcall
    rintro e w1 ⟨rfl, hb1⟩
    have HK := (Kp.refl w).go hb1
    clear hb1
    go_wp2_with fail
    obtain ⟨b2, hb2, hcall⟩ := long_any M cm more w1 (Kd.C_below HM.out HK.below) hc' (by omega)
    refine hcall.mono ?_
    clear hcall
    rintro e w2 ⟨rfl, hb⟩
    replace HK := HK.go hb
    clear hb
    cases b2 with
    | true =>
      go_wp2_with fail
      refine (awake_any _).mono ?_
      rintro e w3 ⟨rfl, hb⟩
      replace HK := HK.go hb
      go_wp2_with fail
      go_ret
      exact ⟨rfl, HK.below⟩
    | false =>
      have ht2 := hb2 rfl
      clear hb2
      have htl2 := tot_len more
      go_wp2_with fail
      refine (awake_any _).mono ?_
      rintro e w3 ⟨rfl, hb⟩
      replace HK := HK.go hb
      clear hb
      have hcv := fun W : World => run_convert_bytes_back (P := Try.prog) (W.alloc (.cells #[.int .u8 x.toNat, .int .u8 y.toNat, .int .u8 z.toNat, .int .u8 v.toNat] 5)) 37 9 5 ⟨W.heap.size, 0, none⟩ 4 [x, y, z, v] Try.underlying37 Try.underlying5 Try.underlying9 (fun j hj => by
        rw [Mem.add_at, Nat.zero_add, (Blk.new W 5 _).cell j]
        match j, hj with
        | 0, _ => rfl
        | 1, _ => rfl
        | 2, _ => rfl
        | 3, _ => rfl)
      simp only [List.length_cons, List.length_nil, Nat.zero_add, Nat.reduceAdd] at hcv
      go_wp2_with fail
      replace HK := HK.alloc (.cells #[.int .u8 x.toNat, .int .u8 y.toNat, .int .u8 z.toNat, .int .u8 v.toNat] 5)
      refine (may_any _ x y z v [] rfl _).mono ?_
      rintro e w4 ⟨rfl, n4, hw4⟩
      replace HK := HK.drewN n4
      rw [← hw4] at HK
      clear hw4 hcv
      cases hmb : mayB x y z v with
      | true =>
        clear hmb
        go_wp2_with fail
        go_ret
        exact ⟨rfl, HK.below⟩
      | false =>
        have hbad : be x y z v < 5 ∨ 16384 < be x y z v := by
          have h2 := may_be x y z v
          by_cases h : be x y z v < 5 ∨ 16384 < be x y z v
          · exact h
          · have := h2.2 h; rw [hmb] at this; cases this
        have HB := Lib.hid hbad
        clear hmb hbad
        go_wp2_with fail
        refine (new_st w.heap.size _).mono ?_
        rintro e w5 ⟨p, rfl, bp, sp, hb⟩
        have Bp := Nat.le_trans HK.size bp
        replace HK := HK.go hb
        clear hb bp
        go_wp2_with fail
        have hR : LR w.heap.size p l w (.int .i64 0) (.int .i64 0) w5 := ⟨0, 0, rfl, rfl, by omega, by omega, sp, HK⟩
        clear sp HK
        go_loopw [17, 18] (fun t17 t18 wr => LR w.heap.size p l w t17 t18 wr) (fun _ t18 _ => l.length - (intOf t18).toNat)
        case atStart => exact hR
        case round =>
          clear hR
          obtain ⟨k, n, rfl, rfl, hnk, hk, sp, HK⟩ := hrel
          by_cases hlt : k < l.length
          · have k0 : (0 : Int) ≤ (k : Int) := by omega
            have k1 : (k : Int) < (l.length : Int) := by omega
            obtain ⟨ad, rfl, e0⟩ := Kd.at_string (Kd.C_below HL.out HK.below) (k : Int) k0 k1
            have hr0 : rdOf ByteArray.empty l (k : Int) = l[k] := by simp [rdOf, List.getD_eq_getElem?_getD, hlt]
            have hat2 : ∀ wx, Kp w.heap.size w wx → wx.cell? (ad.add k) = some (.string l[k]) := by
              intro wx hwx
              obtain ⟨ad', h1, h2⟩ := Kd.at_string (Kd.C_below HL.out hwx.below) (k : Int) k0 k1
              injection h1 with h1
              subst h1
              rw [hr0, Int.toNat_natCast] at h2
              exact h2
            have HAT := Lib.hid hat2
            rw [hr0, Int.toNat_natCast] at e0
            clear hr0 hat2
            generalize l[k] = q at *
            go_wp2_with fail
            refine (frame_any q _).mono ?_
            rintro e w6 ⟨rfl, hb⟩
            replace sp := sp.go hb
            replace HK := HK.go hb
            clear hb e0
            by_cases hok : 5 ≤ q.size ∧ q.size ≤ 16384
            · have he : frE q = 0 := by unfold frE; rw [if_neg (by omega), if_neg (by omega)]
              have hss : frS q = ⟨(fr q.data.toList).toArray⟩ := by unfold frS; rw [if_neg (by omega), if_neg (by omega)]
              have hql : q.data.toList.length = q.size := by simp
              have hpq : parse ([] ++ (⟨(fr q.data.toList).toArray⟩ : ByteArray).data.toList) = ([q.data.toList], some []) := by
                have := parse_fr q.data.toList [] (by omega) (by omega)
                rw [List.append_nil, show parse [] = ([], some []) from parse_inv (.inl (by simp))] at this
                exact this
              have hsx : (⟨(fr q.data.toList).toArray⟩ : ByteArray).size ≤ 100000 := by
                show (fr q.data.toList).toArray.size ≤ _
                simp only [List.size_toArray, fr_len]
                omega
              rw [he, hss]
              clear he hss hql
              have HPQ := Lib.hid hpq
              clear hpq
              go_wp2_with fail
              refine (feed_st w.heap.size p (some []) _ _ Bp sp (by omega)).mono ?_
              rintro e w7 ⟨u, rfl, ru, sn, hf⟩
              unfold outF at ru
              unfold nextF at sn
              unfold errF
              simp only at ru sn ⊢
              rw [HPQ.out] at ru sn ⊢
              simp only [Option.isNone_some, Bool.false_eq_true, if_false] at ru sn ⊢
              replace HK := HK.fr hf Bp
              obtain ⟨g, cap, rfl, hg1, hg2⟩ := ru.form (by simp)
              have c0 : w7.cell? ⟨g, 0, none⟩ = some (.string q) := (ru.cellAt 0 (by simp)).trans rfl
              have e7 := HAT.out w7 HK
              simp only [List.length_cons, List.length_nil, Nat.zero_add] at ru ⊢
              clear ru hf sp
              go_wp2_with fail
              go_quiet (fail)
              replace sn := sn.drewN nq
              replace HK := HK.drewN nq
              clear c0 e7
              generalize w7.drewN nq = w8 at *
              go_wp2_with fail
              go_roundw
              case rel => exact ⟨k + 1, n + 1, by go_num, by go_num, by omega, by omega, sn, HK⟩
              case measure => simp [intOf]; omega
            · have hb2 : (frE q == 0) = false ∧ (frE q != 0) = true := by
                unfold frE
                by_cases h1 : q.size < 5
                · rw [if_pos h1]; decide
                · rw [if_neg h1, if_pos (by omega)]; decide
              obtain ⟨g1, g2⟩ := hb2
              generalize frE q = E at *
              clear hok
              go_wp2_with fail
              go_roundw
              case rel => exact ⟨k + 1, n, by go_num, by go_num, by omega, by omega, sp, HK⟩
              case measure => simp [intOf]; omega
          · have hkk : ¬ (k : Int) < (l.length : Int) := by omega
            obtain ⟨q, hq, hq4⟩ := quart' cut
            have s1 : ∀ W, (Instr.slice 9 (.string ⟨#[x, y, z, v]⟩) none (some (.int .i64 (q : Int))) none).run Try.prog W = .ok (.string ⟨([x, y, z, v].take q).toArray⟩) W := sl_to ⟨#[x, y, z, v]⟩ q (by show q ≤ 4; omega)
            have s2 : ∀ W, (Instr.slice 9 (.string ⟨#[x, y, z, v]⟩) (some (.int .i64 (q : Int))) none none).run Try.prog W = .ok (.string ⟨([x, y, z, v].drop q).toArray⟩) W := sl_from ⟨#[x, y, z, v]⟩ q (by show q ≤ 4; omega)
            have S2 := Lib.hid s2
            have hp1 : parse ([] ++ (⟨([x, y, z, v].take q).toArray⟩ : ByteArray).data.toList) = ([], some ([x, y, z, v].take q)) := parse_inv (.inl (by simp; omega))
            have hp2 : ∀ D : ByteArray, D.data.toList = [x, y, z, v].drop q ++ [0, 0, 0, 5, 104, 101, 108, 108, 111] → parse ([x, y, z, v].take q ++ D.data.toList) = ([], none) := by
              intro D hD
              rw [hD, ← List.append_assoc, List.take_append_drop]
              exact parse_bad (t := [x, y, z, v]) _ (by simp) HB.out
            have HP1 := Lib.hid hp1
            have HP2 := Lib.hid hp2
            clear s2 hp1 hp2
            go_wp2_with fail
            refine (feed_st w.heap.size p (some []) _ _ Bp sp (by show ([x, y, z, v].take q).toArray.size ≤ _; simp; omega)).mono ?_
            rintro e w6 ⟨u, rfl, ru, sn, hf⟩
            unfold outF at ru
            unfold nextF at sn
            unfold errF
            simp only at ru sn ⊢
            rw [HP1.out] at ru sn ⊢
            simp only [Option.isNone_some, Bool.false_eq_true, if_false] at ru sn ⊢
            replace HK := HK.fr hf Bp
            obtain ⟨A1, c1, rfl, _, _⟩ := own_reads ru
            clear ru hf sp s1
            have hsv := sn.sv
            have hwq : ∀ W, Sv W p (some ([x, y, z, v].take q)) → Calls Try.prog 17 #[ptr p] W fun e w' => e = .returned (.int .i64 (q : Int)) ∧ W = w' := by
              intro W h
              have := waits_st p _ W h
              rw [show ((some ([x, y, z, v].take q)).getD []).length = q by simp; omega] at this
              exact this
            have HWQ := Lib.hid hwq
            have HQ := Lib.hid hq
            clear hwq hq
            have s2 := S2.out
            have hcl : ∀ W, Sv W p (some ([x, y, z, v].take q)) → Calls Try.prog 18 #[ptr p] W fun e w' => e = .returned (.bool false) ∧ W = w' := fun W h => closed_st p _ W h
            have HCL := Lib.hid hcl
            clear hcl
            go_wp2_with (first | (go_at_call 18; ((with_reducible refine (HCL.out _ (by assumption)).mono ?_); rintro e _ ⟨rfl, rfl⟩)) | (go_at_call 17; ((with_reducible refine (HWQ.out _ (by assumption)).mono ?_); rintro e _ ⟨rfl, rfl⟩)))
            clear hsv HCL HWQ s2
            have hDD : ((⟨([x, y, z, v].drop q).toArray⟩ : ByteArray) ++ (⟨#[0, 0, 0, 5, 104, 101, 108, 108, 111]⟩ : ByteArray)).data.toList = [x, y, z, v].drop q ++ [0, 0, 0, 5, 104, 101, 108, 108, 111] := by simp
            have hDs : ((⟨([x, y, z, v].drop q).toArray⟩ : ByteArray) ++ (⟨#[0, 0, 0, 5, 104, 101, 108, 108, 111]⟩ : ByteArray)).size ≤ 100 := by
              have := congrArg List.length hDD
              simp only [Array.length_toList, List.length_append, List.length_drop, List.length_cons, List.length_nil] at this
              show ((⟨([x, y, z, v].drop q).toArray⟩ : ByteArray) ++ (⟨#[0, 0, 0, 5, 104, 101, 108, 108, 111]⟩ : ByteArray)).data.size ≤ 100
              omega
            refine (feed_st w.heap.size p _ _ _ Bp sn (by omega)).mono ?_
            rintro e w7 ⟨u, rfl, ru, sc, hf⟩
            unfold outF at ru
            unfold nextF at sc
            unfold errF
            simp only at ru sc ⊢
            rw [HP2.out _ hDD] at ru sc ⊢
            simp only [Option.isNone_none, if_true] at ru sc ⊢
            replace HK := HK.fr hf Bp
            obtain ⟨A2, c2, rfl, _, _⟩ := own_reads ru
            clear ru hf sn hDD hDs HP1 HP2
            have hsv := sc.sv
            have hcl : ∀ W, Sv W p none → Calls Try.prog 18 #[ptr p] W fun e w' => e = .returned (.bool true) ∧ W = w' := fun W h => closed_st p _ W h
            have hwq : ∀ W, Sv W p none → Calls Try.prog 17 #[ptr p] W fun e w' => e = .returned (.int .i64 0) ∧ W = w' := fun W h => waits_st p _ W h
            have HCL := Lib.hid hcl
            have HWQ := Lib.hid hwq
            clear hcl hwq
            go_wp2_with (first | (go_at_call 18; ((with_reducible refine (HCL.out _ (by assumption)).mono ?_); rintro e _ ⟨rfl, rfl⟩)) | (go_at_call 17; ((with_reducible refine (HWQ.out _ (by assumption)).mono ?_); rintro e _ ⟨rfl, rfl⟩)))
            have hM : MR w.heap.size p more w (.int .i64 0) w7 := ⟨0, rfl, by omega, sc, HK⟩
            clear hsv sc HK
            go_loopw [28] (fun t28 wr => MR w.heap.size p more w t28 wr) (fun t28 _ => more.length - (intOf t28).toNat)
            case atStart => exact hM
            case round =>
              clear hM
              obtain ⟨j, rfl, hj, sc, HK⟩ := hrel
              by_cases hjt : j < more.length
              · have j0 : (0 : Int) ≤ (j : Int) := by omega
                have j1 : (j : Int) < (more.length : Int) := by omega
                obtain ⟨ad, rfl, e0⟩ := Kd.at_string (Kd.C_below HM.out HK.below) (j : Int) j0 j1
                have hr0 : rdOf ByteArray.empty more (j : Int) = more[j] := by simp [rdOf, List.getD_eq_getElem?_getD, hjt]
                have hsz := tot_mem (List.getElem_mem hjt)
                rw [hr0, Int.toNat_natCast] at e0
                generalize more[j] = r at *
                clear hr0
                go_wp2_with fail
                refine (feed_st w.heap.size p none _ _ Bp sc (by omega)).mono ?_
                rintro e w8 ⟨u, rfl, ru, sc2, hf⟩
                rw [show errF none r.data.toList = 14 from rfl]
                rw [show outF none r.data.toList = [] from rfl] at ru
                rw [show nextF none r.data.toList = none from rfl] at sc2
                replace HK := HK.fr hf Bp
                obtain ⟨A3, c3, rfl, _, _⟩ := own_reads ru
                have hsv := sc2.sv
                clear ru hf sc e0
                go_wp2_with (first | (go_at_call 18; ((with_reducible refine (HCL.out _ (by assumption)).mono ?_); rintro e _ ⟨rfl, rfl⟩)) | (go_at_call 17; ((with_reducible refine (HWQ.out _ (by assumption)).mono ?_); rintro e _ ⟨rfl, rfl⟩)))
                go_roundw
                case rel => exact ⟨j + 1, by go_num, by omega, sc2, HK⟩
                case measure => simp [intOf]; omega
              · have hjj : ¬ (j : Int) < (more.length : Int) := by omega
                have hnl : (n : Int) ≤ (l.length : Int) := by omega
                go_wp2_with fail
                go_ret
                exact ⟨rfl, HK.below⟩
end Go.Proofs.Ytedkfhgpahjleaa.Shuts
