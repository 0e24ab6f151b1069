/- However bytes are cut into chunks, the bodies told, one behind the other, are the same, and so is whether it is closed, and how many bytes wait. Conditions: none beyond the row's own. -/
import Derived.Test.YtedkfhgpahjleaaMore
set_option linter.unusedVariables false
set_option linter.unusedSimpArgs false
namespace Go.Proofs.Ytedkfhgpahjleaa.Ways
open Go Go.RowKit Go.Proofs.Ytedkfhgpahjleaa.Mem Go.Proofs.YtedkfhgpahjleaaW.PrintWords Go.Proofs.Ytedkfhgpahjleaa.Base
def AllR (l : List ByteArray) (w1 : World) (t3 t4 : Value) (wr : World) : Prop := ∃ k : Nat, t4 = .int .i64 (k : Int) ∧ k ≤ l.length ∧ t3 = .string (strF l k) ∧ w1 = wr
def OneR (N : Nat) (d : List UInt8) (wl : World) (t12 t13 : Value) (wr : World) : Prop := ∃ k : Nat, t13 = .int .i64 (k : Int) ∧ k ≤ d.length ∧ (4000 < d.length → k = 0) ∧ wr.ownsRow N 9 1 t12 k ((ones (d.take k)).map strV) ∧ Kp N wl wr
set_option maxHeartbeats 3200000 in
set_option maxRecDepth 100000 in
theorem core (A : Option Addr) (c : Nat) (l : List ByteArray) (w : World) (hc : l.length ≤ c) (hm : l.length * 16 ≤ 140737488351232) (hz : ∀ x ∈ l, x.size ≤ 140737488351232) (hl : Kd.string.C w A l.length l) :
    Calls Try.prog 6 #[.slice A l.length c] w fun e w' => e = .returned (.bool true) ∧ Below w.heap.size w w' := by
  obtain ⟨b, hb, hcall⟩ := long_any A c l w hl hc (by omega)
  cases b with
  | true =>
    go_enter Try.func6, Try.ntmps6
    go_wp2_with fail
    refine hcall.mono ?_
    rintro e w1 ⟨rfl, hb1⟩
    have HK := (Kp.refl w).go hb1
    clear hb1
    go_wp2_with fail
    refine (awake_any _).mono ?_
    rintro e w3 ⟨rfl, hb⟩
    replace HK := HK.go hb
    go_wp2_with fail
    go_ret
    exact ⟨rfl, HK.below⟩
  | false =>
    have ht := hb rfl
    clear hb
    have htl := tot_len l
    have hfl := flat_tot l
    have HL := Lib.hid hl
    have HA := Lib.hid (C_lt hl)
    have HZ := Lib.hid hz
    have hz' : ∀ x ∈ l, x.size ≤ 1000000 := fun x hx => by have := tot_mem hx; omega
    have HZ := Lib.hid hz'
    clear hl hz hz'
    go_enter Try.func6, Try.ntmps6
    go_wp2_with fail
    refine hcall.mono ?_
    clear hcall
    rintro e w1 ⟨rfl, hb1⟩
    have HK := (Kp.refl w).go hb1
    clear hb1
    go_wp2_with fail
    refine (awake_any _).mono ?_
    rintro e w2 ⟨rfl, hb⟩
    replace HK := HK.go hb
    clear hb
    go_wp2_with fail
    have hR : AllR l w2 (.string ⟨#[]⟩) (.int .i64 0) w2 := ⟨0, rfl, by omega, rfl, rfl⟩
    have HK2 := Lib.hid HK
    clear HK
    go_loopw [3, 4] (fun t3 t4 wr => AllR l w2 t3 t4 wr) (fun _ t4 _ => l.length - (intOf t4).toNat)
    case atStart => exact hR
    case round =>
      clear hR
      obtain ⟨k, rfl, hk, rfl, rfl⟩ := hrel
      by_cases hlt : k < l.length
      · have k0 : (0 : Int) ≤ (k : Int) := by omega
        have k1 : (k : Int) < (l.length : Int) := by omega
        obtain ⟨ad, rfl, e0⟩ := Kd.at_string (Kd.C_below HL.out HK2.out.below) (k : Int) k0 k1
        have hr0 : rdOf ByteArray.empty l (k : Int) = l[k] := by simp [rdOf, List.getD_eq_getElem?_getD, hlt]
        rw [hr0, Int.toNat_natCast] at e0
        have hs1 := strF_size l k
        have hs2 := flat_len l k
        have hs3 := HZ.out l[k] (List.getElem_mem hlt)
        have hss := strF_succ l k hlt
        have HS := Lib.hid hss
        clear hss hr0
        go_wp2_with fail
        go_roundw
        case rel => exact ⟨k + 1, by go_num, by omega, by rw [HS.out], rfl⟩
        case measure => simp [intOf]; omega
      · have hkk : ¬ (k : Int) < (l.length : Int) := by omega
        have hke : k = l.length := by omega
        have hD : (strF l k).data.toList = flat l := by rw [hke]; simp [strF]
        have HD := Lib.hid hD
        have hDs : (strF l k).size = (flat l).length := by rw [strF_size, hke, List.take_length]
        have HDs := Lib.hid hDs
        have hDle : (strF l k).size ≤ 60000 := by omega
        clear hD hke hDs
        generalize strF l k = D at *
        have HK := HK2.out
        clear HK2
        go_wp2_with fail
        refine (new_fresh _).mono ?_
        rintro e w3 ⟨pa, rfl, ba, fa, hb⟩
        have Ba := Nat.le_trans HK.size ba
        replace HK := HK.go hb
        have la := fa.lt
        clear hb ba
        go_wp2_with fail
        refine (new_fresh _).mono ?_
        rintro e w4 ⟨pb, rfl, bb, fb, hb⟩
        have Bb := Nat.le_trans HK.size bb
        replace HK := HK.go hb
        replace fa := fa.go hb
        have lb := fb.lt
        have nab : pa ≠ pb := by omega
        clear hb
        go_wp2_with fail
        refine (new_fresh _).mono ?_
        rintro e w5 ⟨pc, rfl, bc, fc, hb⟩
        have Bc := Nat.le_trans HK.size bc
        replace HK := HK.go hb
        replace fa := fa.go hb
        replace fb := fb.go hb
        have nac : pa ≠ pc := by omega
        have nbc : pb ≠ pc := by omega
        clear hb bb bc la lb
        go_wp2_with fail
        -- the chunks
        refine (fed_any w.heap.size pa [] A c l w5 Ba (.inl (by simp)) (fa.st _) (Kd.C_below HL.out HK.below) (fun ad e h0 => .inl (HA.out ad e h0)) hc (by simp; omega) HZ.out (by omega)).mono ?_
        rintro e w6 ⟨vx, rfl, rx, sa, hf⟩
        rw [List.nil_append] at rx sa ⊢
        replace sa := sa.sv
        replace fb := fb.fr hf nab.symm
        replace fc := fc.fr hf nac.symm
        replace HK := HK.fr hf Ba
        clear hf fa
        go_wp2_with fail
        -- all of them at once
        refine (feed_st w.heap.size pb (some []) D _ Bb (fb.st _) (by omega)).mono ?_
        rintro e w7 ⟨vy, rfl, ry, sb, hf⟩
        rw [HD.out] at ry sb ⊢
        rw [show errF (some []) (flat l) = errP (flat l) from rfl]
        rw [show outF (some []) (flat l) = (parse (flat l)).1 from rfl] at ry
        rw [show nextF (some []) (flat l) = (parse (flat l)).2 from rfl] at sb
        replace sb := sb.sv
        replace sa := sa.fr hf nab
        replace rx := own_fr rx (by decide) (by decide) fb hf
        replace fc := fc.fr hf nbc.symm
        replace HK := HK.fr hf Bb
        clear hf fb
        obtain ⟨o, r, hor⟩ : ∃ o r, parse (flat l) = (o, r) := ⟨_, _, rfl⟩
        have hol : o.length ≤ 60000 := by have := parse_fst_len (flat l); rw [hor] at this; simp at this; omega
        have HOR := Lib.hid hor
        rw [hor] at rx ry sa sb
        clear hor
        try dsimp only at rx ry sa sb
        generalize hE : errP (flat l) = E at *
        have HE := Lib.hid hE
        clear hE
        go_wp2_with fail
        have hO : OneR w7.heap.size (flat l) w7 (.slice none 0 0) (.int .i64 0) w7 := ⟨0, rfl, by omega, fun _ => rfl, World.ownsRow_nil _ _ _ _, Kp.refl _⟩
        have RX := Lib.hid rx
        have RY := Lib.hid ry
        have SA := Lib.hid sa
        have SB := Lib.hid sb
        have FC := Lib.hid fc
        have HKK := Lib.hid HK
        clear rx ry sa sb fc HK
        go_loopw [12, 13] (fun t12 t13 wr => OneR w7.heap.size (flat l) w7 t12 t13 wr) (fun _ t13 _ => D.size - (intOf t13).toNat)
        case atStart => exact hO
        case round =>
          clear hO
          obtain ⟨k2, rfl, hk2, hk4, ho, hO⟩ := hrel
          have hDs := HDs.out
          by_cases hgo : D.size ≤ 4000 ∧ k2 < D.size
          · obtain ⟨g1, g2⟩ := hgo
            have i0 : (0 : Int) ≤ (k2 : Int) := by omega
            have i1 : (k2 : Int) < (D.size : Int) := by omega
            have i2 : (k2 : Int) + 1 ≤ (D.size : Int) := by omega
            have i3 : (D.size : Int) ≤ 4000 := by omega
            have hon := Lib.hid (ones_snoc (flat l) k2 (by omega))
            have hex := str_one D k2 g2
            have hbb : D.data.toList[k2]'(by simpa using g2) = (flat l)[k2]'(by omega) := by congr 1
            rw [hbb] at hex
            generalize (flat l)[k2]'(by omega) = b at *
            have hsz : w7.heap.size ≤ wr.heap.size := hO.size
            have hsl : ∀ W : World, (Instr.slice 9 (.string D) (some (.int .i64 (k2 : Int))) (some (.int .i64 ((k2 : Int) + 1))) none).run Try.prog W = .ok (.string ⟨#[b]⟩) W := by
              intro W
              have := run_slice_string (P := Try.prog) W 9 D .i64 .i64 (k2 : Int) ((k2 : Int) + 1) Try.underlying9 i0 (by omega) i2
              rw [Int.toNat_natCast, show ((k2 : Int) + 1).toNat = k2 + 1 by omega, hex] at this
              exact this
            have hk3 : k2 + 1 ≤ (flat l).length ∧ (flat l).length ≤ 4000 := by omega
            clear hbb hDs hk4 hex
            go_wp2_with (at_builtin; go_must (refine app_row (ys := [[b]]) rfl _ _ rfl (by rfl) (by rfl) (ho.alloc (.cells #[.string ⟨#[b]⟩] 9)) (World.ownsRow_lit (base := wr.heap.size) wr #[.string ⟨#[b]⟩] 1 (Nat.le_refl _) (by unfold maxLen; omega) rfl) (by omega) (by simp; omega) ?_; intro v5 w5 ho5 hg5; have hO5 := (hO.alloc (.cells #[.string ⟨#[b]⟩] 9)).grown hg5 (fun j hj => (ho.lt j hj).1)))
            go_roundw
            case rel => exact ⟨k2 + 1, by go_num, by omega, fun h => by omega, by rw [hon.out, List.map_append]; exact ho5, hO5⟩
            case measure => simp [intOf]; omega
          · have hex : (D.size ≤ 4000 ∧ k2 = D.size) ∨ (4000 < D.size ∧ k2 = 0) := by omega
            have hsz : w7.heap.size ≤ wr.heap.size := hO.size
            have rx := ownsRow_go RX.out hO.below
            have ry := ownsRow_go RY.out hO.below
            have sa := SA.out.go hO.below
            have sb := SB.out.go hO.below
            have fc := FC.out.go hO.below
            have HK := HKK.out.go hO.below
            clear RX RY SA SB FC HKK hO hgo
            obtain ⟨A1, c1, rfl, m1, q1⟩ := own_reads rx
            obtain ⟨A2, c2, rfl, m2, q2⟩ := own_reads ry
            clear rx q2
            have hEr : E = 0 ∧ r.isNone = false ∨ E = 5 ∧ r.isNone = true := by
              cases r with
              | none => exact .inr ⟨HE.out.symm.trans (errP_none HOR.out), rfl⟩
              | some t => exact .inl ⟨HE.out.symm.trans (errP_some HOR.out), rfl⟩
            have ih : ∀ n : Nat, (r.getD []).length = n → True := fun _ _ => trivial
            clear ih
            rcases hex with ⟨h4, hkD⟩ | ⟨h4, rfl⟩
            · have hkk : ¬ (k2 : Int) < (D.size : Int) := by omega
              have h4' : (D.size : Int) ≤ 4000 := by omega
              have hkf : (flat l).take k2 = flat l := List.take_of_length_le (by omega)
              rw [hkf] at ho
              have hlen : k2 = (ones (flat l)).length := by simp [ones]; omega
              rw [hlen] at ho
              clear hkf hkD hlen hDs hk4 h4
              rcases hEr with ⟨rfl, hri⟩ | ⟨rfl, hri⟩
              all_goals
                go_wp2_with fail
                refine (same_os o A1 c1 A2 c2 _ q1 m1 (own_C ry).1 m2 (by omega)).mono ?_
                rintro e w8 ⟨rfl, hb⟩
                replace sa := sa.go hb
                replace sb := sb.go hb
                replace fc := fc.go hb
                replace ho := ownsRow_go ho hb
                replace HK := HK.go hb
                replace ry := ownsRow_go ry hb
                clear hb q1
                have hs1 := closed_st _ _ _ sa
                have hs2 := closed_st _ _ _ sb
                rw [hri] at hs1 hs2
                have hs3 := Lib.hid hs1
                have hs4 := Lib.hid hs2
                clear hs1 hs2
                go_wp2_with (first | (go_at_call 18; first | ((with_reducible refine hs3.out.mono ?_); rintro e _ ⟨rfl, rfl⟩) | ((with_reducible refine hs4.out.mono ?_); rintro e _ ⟨rfl, rfl⟩)) | (go_at_call 17; ((with_reducible refine (waits_st _ _ _ (by assumption)).mono ?_); rintro e _ ⟨rfl, rfl⟩)) | (go_at_call 21; fail))
                clear hs3 hs4 sa
                refine (fed_os w.heap.size pc u12 (ones (flat l)) _ w8 Bc (fc.st _) ho (by rw [ones_flat]; omega) (fun x hx => by obtain ⟨y, _, rfl⟩ := List.mem_map.1 hx; simp) (by simp only [ones, List.length_map]; omega)).mono ?_
                rintro e w9 ⟨vz, rfl, rz, sc, hf⟩
                rw [ones_flat] at rz sc ⊢
                replace ry := own_fr ry (by decide) (by decide) fc hf
                replace sc := sc.sv
                replace sb := sb.fr hf nbc
                replace HK := HK.fr hf Bc
                rw [HOR.out] at rz sc
                try dsimp only at rz sc
                obtain ⟨A3, c3, rfl, m3, q3⟩ := own_reads rz
                clear hf fc ho rz
                rw [HE.out]
                go_wp2_with fail
                refine (same_os o A3 c3 A2 c2 _ q3 m3 (own_C ry).1 m2 (by omega)).mono ?_
                rintro e w10 ⟨rfl, hb⟩
                replace sc := sc.go hb
                replace sb := sb.go hb
                replace HK := HK.go hb
                clear hb q3 ry
                have hs1 := closed_st _ _ _ sc
                have hs2 := closed_st _ _ _ sb
                rw [hri] at hs1 hs2
                have hs3 := Lib.hid hs1
                have hs4 := Lib.hid hs2
                clear hs1 hs2
                go_wp2_with (first | (go_at_call 18; first | ((with_reducible refine hs3.out.mono ?_); rintro e _ ⟨rfl, rfl⟩) | ((with_reducible refine hs4.out.mono ?_); rintro e _ ⟨rfl, rfl⟩)) | (go_at_call 17; ((with_reducible refine (waits_st _ _ _ (by assumption)).mono ?_); rintro e _ ⟨rfl, rfl⟩)))
                go_ret
                exact ⟨rfl, HK.below⟩
            · have h4' : (4000 : Int) < (D.size : Int) := by omega
              have hD0 : (0 : Int) < (D.size : Int) := by omega
              clear hDs hk4 h4 ho fc
              rcases hEr with ⟨rfl, hri⟩ | ⟨rfl, hri⟩
              all_goals
                go_wp2_with fail
                refine (same_os o A1 c1 A2 c2 _ q1 m1 (own_C ry).1 m2 (by omega)).mono ?_
                rintro e w8 ⟨rfl, hb⟩
                replace sa := sa.go hb
                replace sb := sb.go hb
                replace HK := HK.go hb
                clear hb q1 ry
                have hs1 := closed_st _ _ _ sa
                have hs2 := closed_st _ _ _ sb
                rw [hri] at hs1 hs2
                have hs3 := Lib.hid hs1
                have hs4 := Lib.hid hs2
                clear hs1 hs2
                go_wp2_with (first | (go_at_call 18; first | ((with_reducible refine hs3.out.mono ?_); rintro e _ ⟨rfl, rfl⟩) | ((with_reducible refine hs4.out.mono ?_); rintro e _ ⟨rfl, rfl⟩)) | (go_at_call 17; ((with_reducible refine (waits_st _ _ _ (by assumption)).mono ?_); rintro e _ ⟨rfl, rfl⟩)))
                go_ret
                exact ⟨rfl, HK.below⟩
end Go.Proofs.Ytedkfhgpahjleaa.Ways
