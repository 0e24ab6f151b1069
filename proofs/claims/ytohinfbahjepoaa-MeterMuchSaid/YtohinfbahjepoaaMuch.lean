/- In however many ticks no more is taken than Burst, and Rate times these; the level is what was put in, less what was taken, and what was lost. Conditions: none beyond the row's own. -/
import Derived.Test.YtohinfbahjepoaaOpen
import Derived.Test.YtohinfbahjepoaaFuller
import Derived.IntWalk
set_option linter.unusedVariables false
set_option linter.unusedSimpArgs false
namespace Go.Proofs.Ytohinfbahjepoaa.Much
open Go Go.RowKit Go.Proofs.Ytohinfbahjepoaa.Mem Go.Proofs.YtohinfbahjepoaaW.PrintWords Go.Proofs.Ytohinfbahjepoaa.Base Go.Proofs.Ytohinfbahjepoaa.Fuller
def MRel (b : Nat) (i r u : Int) (l : List Base.Act) (w : World) (t7 t8 t : Value) (wr : World) : Prop :=
  ∃ (k : Nat) (tk tc v : Int), k ≤ l.length ∧ t = .int .i64 k ∧ t7 = .int .i64 tk ∧ t8 = .int .i64 tc ∧ Bu wr b i r u v ∧ Fit r u v ∧ 0 ≤ tk ∧ 0 ≤ tc ∧ tc ≤ 1000 * k ∧ tk + v ≤ u + tc * r ∧ Kp w.heap.size w wr ∧ Blk wr w.heap.size 23 #[.int .i64 i, .int .i64 r, .int .i64 u]
set_option maxHeartbeats 16000000 in
set_option maxRecDepth 100000 in
theorem main (i r u : Int) (A : Option Addr) (c : Nat) (l : List Base.Act) (w : World) (hA : Acts w A l) (hm : l.length ≤ 140737488351232) :
    Calls Try.prog 3 #[.agg #[.int .i64 i, .int .i64 r, .int .i64 u], .slice A l.length c] w fun e w' => e = .returned (.bool true) ∧ Below w.heap.size w w' := by
  by_cases hl : l.length ≤ 1000
  · go_enter Try.func3, Try.ntmps3
    go_wp2_with fail
    refine (awake_any _).mono ?_
    rintro e w1 ⟨rfl, hb⟩
    have hk := (Blk.new w 23 #[.int .i64 i, .int .i64 r, .int .i64 u]).go hb
    have k0 : w1.cell? ⟨w.heap.size, 0, none⟩ = some (.int .i64 i) := hk.cell 0
    have k1 : w1.cell? ⟨w.heap.size, 1, none⟩ = some (.int .i64 r) := hk.cell 1
    have k2 : w1.cell? ⟨w.heap.size, 2, none⟩ = some (.int .i64 u) := hk.cell 2
    have HK : Kp w.heap.size w w1 := ((Kp.refl w).alloc _).go hb
    clear hb
    go_wp2_with fail
    by_cases hmay : mayB i r u = true
    · have hF := mayB_fit hmay
      refine (new_yes i r u _ hmay).mono ?_
      rintro e w2 ⟨b, rfl, hb, hB, hg⟩
      have hb0 : w.heap.size ≤ b := Nat.le_trans HK.size hb
      have hbk : w.heap.size ≠ b := by have := hk.lt; omega
      replace HK := HK.none_ hg
      replace hk := hk.grown hg (by simp)
      clear hg hb k0 k1 k2
      have f2 := hF.u1; have f3 := hF.r0; have f4 := hF.r1
      have hR : MRel b i r u l w (.int .i64 0) (.int .i64 0) (.int .i64 0) w2 := ⟨0, 0, 0, u, Nat.zero_le _, rfl, rfl, rfl, hB, hF, by omega, by omega, by omega, by omega, HK, hk⟩
      clear HK hk hB hF
      go_wp2_with fail
      go_loopw [7, 8, 9] (fun t7 t8 t wr => MRel b i r u l w t7 t8 t wr) (fun _ _ t _ => l.length - (intOf t).toNat)
      case atStart => exact hR
      case round =>
        clear hR
        obtain ⟨k, tk, tc, v, hkl, rfl, rfl, rfl, hB, hF, htk, hc, hc9, hinv, HK, hk⟩ := hrel
        have f0 := hF.l0; have f1 := hF.lu
        by_cases hlt : k < l.length
        · obtain ⟨g, o, rfl, -, -, -⟩ := (hA.kp HK).at_ hlt
          have hok := hA.ok _ (List.getElem_mem hlt)
          obtain ⟨⟨x0, x1, x2⟩, hx⟩ : ∃ x, l[k] = x := ⟨_, rfl⟩
          rw [hx] at hok
          have HX := Lib.hid hx
          clear hx
          obtain ⟨o0, o1, o2⟩ := hok
          simp only [] at o0 o1 o2
          obtain ⟨d0, d1, d2⟩ := cells_of (hA.kp HK) hlt HX.out
          have tq : tc * r ≤ 1000000 * 1099511627776 := Int.mul_le_mul (by omega) f4 f3 (by omega)
          by_cases q0 : x0 = 0
          · subst q0
            by_cases hp : x1 ≤ v
            · have hb1 : x1 ≤ 1099511627776 := by omega
              go_wp2_with fail
              refine (take_yes b i r u v x1 _ hB o1.1 hp (by omega)).mono ?_
              clear hB
              rintro e w6 ⟨rfl, hB, hg⟩
              replace HK := HK.some_ hg hb0
              replace hk := hk.grown hg (by simpa using hbk)
              clear hg d0 d1 d2
              obtain ⟨d0, d1, d2⟩ := cells_of (hA.kp HK) hlt HX.out
              obtain ⟨tk2, hk2⟩ : ∃ z, tk + x1 = z := ⟨_, rfl⟩
              obtain ⟨v2, hv2⟩ : ∃ z, v - x1 = z := ⟨_, rfl⟩
              have hF2 : Fit r u v2 := ⟨f3, f4, by omega, by omega, f2⟩
              have hB2 : Bu w6 b i r u v2 := by rw [← hv2]; exact hB
              obtain ⟨tc2, htc⟩ : ∃ z, z = tc := ⟨_, rfl⟩
              subst htc
              have hc2 := hc
              have hinv2 : tk2 + v2 ≤ u + tc2 * r := by omega
              have hkk : 0 ≤ tk2 := by omega
              have W7 : IntKind.i64.wrap (tk + x1) = tk2 := by rw [hk2]; exact IntWalk.i64_in _ (by omega)
              clear hB hv2
              go_wp2_with fail
              have q0 : 0 ≤ tc2 * r := Int.mul_nonneg hc2 f3
              have q1 : tc2 * r ≤ 1000000 * 1099511627776 := Int.mul_le_mul (by omega) f4 f3 (by omega)
              obtain ⟨q, hq⟩ : ∃ q, tc2 * r = q := ⟨_, rfl⟩
              rw [hq] at q0 q1 hinv2
              have g0 := hF2.l0; have g1 := hF2.lu
              have w1 : IntKind.i64.wrap (tk2 + v2) = tk2 + v2 := IntWalk.i64_in _ (by omega)
              have w2 : IntKind.i64.wrap q = q := IntWalk.i64_in _ (by omega)
              have w3 : IntKind.i64.wrap (u + q) = u + q := IntWalk.i64_in _ (by omega)
              have t1 : decide (u + q < tk2 + v2) = false := decide_eq_false (by omega)
              have t2 : decide (v2 < 0) = false := decide_eq_false (by omega)
              have t3 : decide (u < v2) = false := decide_eq_false (by omega)
              have k1 := hk.cell 1
              have k2 := hk.cell 2
              simp only [List.size_toArray, List.length_cons, List.length_nil, List.getElem?_toArray, List.getElem?_cons_succ, List.getElem?_cons_zero] at k1 k2
              go_region_held3 (fun w' => w'.cell? ⟨w.heap.size, 1, none⟩ = some (.int .i64 r) ∧ w'.cell? ⟨w.heap.size, 2, none⟩ = some (.int .i64 u)) (go_keep) (first
                | (go_at_call 13; (with_reducible refine (level_any b i r u v2 _ (by first | exact hB2 | exact hB2.drew)).mono ?_); rintro e w9 ⟨rfl, rfl⟩))
              clear w1 w2 w3 k1 k2 t1 t2 t3
              go_wp2_with fail
              go_roundw
              case rel => exact ⟨k + 1, tk2, tc2, v2, by omega, by go_num, rfl, rfl, by first | exact hB2 | exact hB2.drew, hF2, by omega, hc2, by omega, by rw [hq]; exact hinv2, by first | exact HK | exact HK.drew, by first | exact hk | exact hk.drew⟩
              case measure => simp [intOf]; omega
            · go_wp2_with fail
              refine (take_no b i r u v x1 _ hB f0 (by omega) o1.2).mono ?_
              rintro e w6 ⟨rfl, rfl⟩
              obtain ⟨tk2, hk2⟩ : ∃ z, z = tk := ⟨_, rfl⟩
              obtain ⟨v2, hv2⟩ : ∃ z, z = v := ⟨_, rfl⟩
              obtain ⟨tc2, htc⟩ : ∃ z, z = tc := ⟨_, rfl⟩
              subst hk2 hv2 htc
              have hF2 := hF
              have hB2 := hB
              have hc2 := hc
              have hinv2 := hinv
              have hkk := htk
              go_wp2_with fail
              have q0 : 0 ≤ tc2 * r := Int.mul_nonneg hc2 f3
              have q1 : tc2 * r ≤ 1000000 * 1099511627776 := Int.mul_le_mul (by omega) f4 f3 (by omega)
              obtain ⟨q, hq⟩ : ∃ q, tc2 * r = q := ⟨_, rfl⟩
              rw [hq] at q0 q1 hinv2
              have g0 := hF2.l0; have g1 := hF2.lu
              have w1 : IntKind.i64.wrap (tk2 + v2) = tk2 + v2 := IntWalk.i64_in _ (by omega)
              have w2 : IntKind.i64.wrap q = q := IntWalk.i64_in _ (by omega)
              have w3 : IntKind.i64.wrap (u + q) = u + q := IntWalk.i64_in _ (by omega)
              have t1 : decide (u + q < tk2 + v2) = false := decide_eq_false (by omega)
              have t2 : decide (v2 < 0) = false := decide_eq_false (by omega)
              have t3 : decide (u < v2) = false := decide_eq_false (by omega)
              have k1 := hk.cell 1
              have k2 := hk.cell 2
              simp only [List.size_toArray, List.length_cons, List.length_nil, List.getElem?_toArray, List.getElem?_cons_succ, List.getElem?_cons_zero] at k1 k2
              go_region_held3 (fun w' => w'.cell? ⟨w.heap.size, 1, none⟩ = some (.int .i64 r) ∧ w'.cell? ⟨w.heap.size, 2, none⟩ = some (.int .i64 u)) (go_keep) (first
                | (go_at_call 13; (with_reducible refine (level_any b i r u v2 _ (by first | exact hB2 | exact hB2.drew)).mono ?_); rintro e w9 ⟨rfl, rfl⟩))
              clear w1 w2 w3 k1 k2 t1 t2 t3
              go_wp2_with fail
              go_roundw
              case rel => exact ⟨k + 1, tk2, tc2, v2, by omega, by go_num, rfl, rfl, by first | exact hB2 | exact hB2.drew, hF2, by omega, hc2, by omega, by rw [hq]; exact hinv2, by first | exact HK | exact HK.drew, by first | exact hk | exact hk.drew⟩
              case measure => simp [intOf]; omega
          · have e0 : (x0 == 0) = false := beq_eq_false_iff_ne.mpr q0
            by_cases hx : 0 ≤ x2 ∧ x2 ≤ 1000
            · have p0 : 0 ≤ x2 * r := Int.mul_nonneg hx.1 f3
              have p1 : x2 * r ≤ 1000 * 1099511627776 := Int.mul_le_mul hx.2 f4 f3 (by omega)
              obtain ⟨p, hp⟩ : ∃ p, x2 * r = p := ⟨_, rfl⟩
              have hz : tickN r u v x2 = if v + p < u then v + p else u := by
                unfold tickN tickL
                rw [if_neg (show ¬ x2 < 0 by omega), hp]
                rw [hp] at p0
                split <;> split <;> omega
              rw [hp] at p0 p1
              have tcr : (tc + x2) * r = tc * r + p := by rw [Int.add_mul, hp]
              obtain ⟨xa, xb⟩ := hx
              go_wp2_with fail
              refine (level_any b i r u v _ hB).mono ?_
              rintro e w6 ⟨rfl, rfl⟩
              go_wp2_with fail
              have E1 := Lib.hid (show tickE x2 = 0 from if_neg (by omega))
              obtain ⟨v2, hv2⟩ : ∃ z, z = tickN r u v x2 := ⟨_, rfl⟩
              have HV := Lib.hid hv2
              have hF2 : Fit r u v2 := by rw [hv2]; exact fit_tick hF
              rw [← hv2] at hz
              have wl : IntKind.i64.wrap (v + p) = v + p := IntWalk.i64_in _ (by omega)
              have wp : IntKind.i64.wrap p = p := IntWalk.i64_in _ (by omega)
              have z1 : v ≤ v2 := by rw [hz]; split <;> omega
              have z2 : v2 ≤ v + p := by rw [hz]; split <;> omega
              have z3 : (if v + p < u then v + p else u) = v2 := hz.symm
              have z4 : decide (v2 < v) = false := decide_eq_false (by omega)
              have z5 : decide (v + p < v2) = false := decide_eq_false (by omega)
              have hc2 : 0 ≤ tc + x2 := by omega
              have hinv2 : tk + v2 ≤ u + (tc + x2) * r := by rw [tcr]; omega
              clear hv2 hz tcr
              have k1 := hk.cell 1
              have k2 := hk.cell 2
              simp only [List.size_toArray, List.length_cons, List.length_nil, List.getElem?_toArray, List.getElem?_cons_succ, List.getElem?_cons_zero] at k1 k2
              have i0 : (0 : Int) ≤ (k : Int) := by omega
              have i1 : (k : Int) < (l.length : Int) := by omega
              go_region_held3 (fun w' => w'.cell? ⟨g, o + k * 3 + 2, none⟩ = some (.int .i64 x2) ∧ w'.cell? ⟨w.heap.size, 1, none⟩ = some (.int .i64 r) ∧ w'.cell? ⟨w.heap.size, 2, none⟩ = some (.int .i64 u)) (go_keep) (first
                | (go_at_call 14; (with_reducible refine (tick_any b i r u v x2 _ (by first | exact hB | exact hB.drew) hF (by omega) (by omega)).mono ?_); rintro e w8 ⟨rfl, hB2, hg⟩; rw [E1.out]; rw [← HV.out] at hB2; have HK := (by first | exact HK.some_ hg hb0 | exact HK.drew.some_ hg hb0 : Kp w.heap.size w w8); have hk := (by first | exact hk.grown hg (by simpa using hbk) | exact hk.drew.grown hg (by simpa using hbk) : Blk w8 w.heap.size 23 #[.int .i64 i, .int .i64 r, .int .i64 u]); have k1 : w8.cell? ⟨w.heap.size, 1, none⟩ = some (.int .i64 r) := hk.cell 1; have k2 : w8.cell? ⟨w.heap.size, 2, none⟩ = some (.int .i64 u) := hk.cell 2; have d2 : w8.cell? ⟨g, o + k * 3 + 2, none⟩ = some (.int .i64 x2) := (cells_of (hA.kp HK) hlt HX.out).2.2; clear hB hg)
                | (go_at_call 13; (with_reducible refine (level_any b i r u v2 _ hB2).mono ?_); rintro e w9 ⟨rfl, rfl⟩))
              all_goals
                obtain ⟨tc2, htc⟩ : ∃ z, tc + x2 = z := ⟨_, rfl⟩
                rw [htc] at hc2 hinv2
                have W8 : IntKind.i64.wrap (tc + x2) = tc2 := by rw [htc]; exact IntWalk.i64_in _ (by omega)
                obtain ⟨tk2, hk2⟩ : ∃ z, z = tk := ⟨_, rfl⟩
                subst hk2
                have hkk := htk
                go_wp2_with fail
                have q0 : 0 ≤ tc2 * r := Int.mul_nonneg hc2 f3
                have q1 : tc2 * r ≤ 1000000 * 1099511627776 := Int.mul_le_mul (by omega) f4 f3 (by omega)
                obtain ⟨q, hq⟩ : ∃ q, tc2 * r = q := ⟨_, rfl⟩
                rw [hq] at q0 q1 hinv2
                have g0 := hF2.l0; have g1 := hF2.lu
                have w1 : IntKind.i64.wrap (tk2 + v2) = tk2 + v2 := IntWalk.i64_in _ (by omega)
                have w2 : IntKind.i64.wrap q = q := IntWalk.i64_in _ (by omega)
                have w3 : IntKind.i64.wrap (u + q) = u + q := IntWalk.i64_in _ (by omega)
                have t1 : decide (u + q < tk2 + v2) = false := decide_eq_false (by omega)
                have t2 : decide (v2 < 0) = false := decide_eq_false (by omega)
                have t3 : decide (u < v2) = false := decide_eq_false (by omega)
                have k1 := hk.cell 1
                have k2 := hk.cell 2
                simp only [List.size_toArray, List.length_cons, List.length_nil, List.getElem?_toArray, List.getElem?_cons_succ, List.getElem?_cons_zero] at k1 k2
                go_region_held3 (fun w' => w'.cell? ⟨w.heap.size, 1, none⟩ = some (.int .i64 r) ∧ w'.cell? ⟨w.heap.size, 2, none⟩ = some (.int .i64 u)) (go_keep) (first
                  | (go_at_call 13; (with_reducible refine (level_any b i r u v2 _ (by first | exact hB2 | exact hB2.drew)).mono ?_); rintro e w9 ⟨rfl, rfl⟩))
                clear w1 w2 w3 k1 k2 t1 t2 t3
                go_wp2_with fail
                go_roundw
                case rel => exact ⟨k + 1, tk2, tc2, v2, by omega, by go_num, rfl, rfl, by first | exact hB2 | exact hB2.drew, hF2, by omega, hc2, by omega, by rw [hq]; exact hinv2, by first | exact HK | exact HK.drew, by first | exact hk | exact hk.drew⟩
                case measure => simp [intOf]; omega
            · have hx' : x2 < 0 ∨ (0 ≤ x2 ∧ 1000 < x2) := by omega
              clear hx
              rcases hx' with hx | ⟨hx, hx'⟩
              · obtain ⟨tk2, hk2⟩ : ∃ z, z = tk := ⟨_, rfl⟩
                obtain ⟨v2, hv2⟩ : ∃ z, z = v := ⟨_, rfl⟩
                obtain ⟨tc2, htc⟩ : ∃ z, z = tc := ⟨_, rfl⟩
                subst hk2 hv2 htc
                have hF2 := hF
                have hB2 := hB
                have hc2 := hc
                have hinv2 := hinv
                have hkk := htk
                go_wp2_with fail
                have q0 : 0 ≤ tc2 * r := Int.mul_nonneg hc2 f3
                have q1 : tc2 * r ≤ 1000000 * 1099511627776 := Int.mul_le_mul (by omega) f4 f3 (by omega)
                obtain ⟨q, hq⟩ : ∃ q, tc2 * r = q := ⟨_, rfl⟩
                rw [hq] at q0 q1 hinv2
                have g0 := hF2.l0; have g1 := hF2.lu
                have w1 : IntKind.i64.wrap (tk2 + v2) = tk2 + v2 := IntWalk.i64_in _ (by omega)
                have w2 : IntKind.i64.wrap q = q := IntWalk.i64_in _ (by omega)
                have w3 : IntKind.i64.wrap (u + q) = u + q := IntWalk.i64_in _ (by omega)
                have t1 : decide (u + q < tk2 + v2) = false := decide_eq_false (by omega)
                have t2 : decide (v2 < 0) = false := decide_eq_false (by omega)
                have t3 : decide (u < v2) = false := decide_eq_false (by omega)
                have k1 := hk.cell 1
                have k2 := hk.cell 2
                simp only [List.size_toArray, List.length_cons, List.length_nil, List.getElem?_toArray, List.getElem?_cons_succ, List.getElem?_cons_zero] at k1 k2
                go_region_held3 (fun w' => w'.cell? ⟨w.heap.size, 1, none⟩ = some (.int .i64 r) ∧ w'.cell? ⟨w.heap.size, 2, none⟩ = some (.int .i64 u)) (go_keep) (first
                  | (go_at_call 13; (with_reducible refine (level_any b i r u v2 _ (by first | exact hB2 | exact hB2.drew)).mono ?_); rintro e w9 ⟨rfl, rfl⟩))
                clear w1 w2 w3 k1 k2 t1 t2 t3
                go_wp2_with fail
                go_roundw
                case rel => exact ⟨k + 1, tk2, tc2, v2, by omega, by go_num, rfl, rfl, by first | exact hB2 | exact hB2.drew, hF2, by omega, hc2, by omega, by rw [hq]; exact hinv2, by first | exact HK | exact HK.drew, by first | exact hk | exact hk.drew⟩
                case measure => simp [intOf]; omega
              · obtain ⟨tk2, hk2⟩ : ∃ z, z = tk := ⟨_, rfl⟩
                obtain ⟨v2, hv2⟩ : ∃ z, z = v := ⟨_, rfl⟩
                obtain ⟨tc2, htc⟩ : ∃ z, z = tc := ⟨_, rfl⟩
                subst hk2 hv2 htc
                have hF2 := hF
                have hB2 := hB
                have hc2 := hc
                have hinv2 := hinv
                have hkk := htk
                go_wp2_with fail
                have q0 : 0 ≤ tc2 * r := Int.mul_nonneg hc2 f3
                have q1 : tc2 * r ≤ 1000000 * 1099511627776 := Int.mul_le_mul (by omega) f4 f3 (by omega)
                obtain ⟨q, hq⟩ : ∃ q, tc2 * r = q := ⟨_, rfl⟩
                rw [hq] at q0 q1 hinv2
                have g0 := hF2.l0; have g1 := hF2.lu
                have w1 : IntKind.i64.wrap (tk2 + v2) = tk2 + v2 := IntWalk.i64_in _ (by omega)
                have w2 : IntKind.i64.wrap q = q := IntWalk.i64_in _ (by omega)
                have w3 : IntKind.i64.wrap (u + q) = u + q := IntWalk.i64_in _ (by omega)
                have t1 : decide (u + q < tk2 + v2) = false := decide_eq_false (by omega)
                have t2 : decide (v2 < 0) = false := decide_eq_false (by omega)
                have t3 : decide (u < v2) = false := decide_eq_false (by omega)
                have k1 := hk.cell 1
                have k2 := hk.cell 2
                simp only [List.size_toArray, List.length_cons, List.length_nil, List.getElem?_toArray, List.getElem?_cons_succ, List.getElem?_cons_zero] at k1 k2
                go_region_held3 (fun w' => w'.cell? ⟨w.heap.size, 1, none⟩ = some (.int .i64 r) ∧ w'.cell? ⟨w.heap.size, 2, none⟩ = some (.int .i64 u)) (go_keep) (first
                  | (go_at_call 13; (with_reducible refine (level_any b i r u v2 _ (by first | exact hB2 | exact hB2.drew)).mono ?_); rintro e w9 ⟨rfl, rfl⟩))
                clear w1 w2 w3 k1 k2 t1 t2 t3
                go_wp2_with fail
                go_roundw
                case rel => exact ⟨k + 1, tk2, tc2, v2, by omega, by go_num, rfl, rfl, by first | exact hB2 | exact hB2.drew, hF2, by omega, hc2, by omega, by rw [hq]; exact hinv2, by first | exact HK | exact HK.drew, by first | exact hk | exact hk.drew⟩
                case measure => simp [intOf]; omega
        · obtain rfl : k = l.length := by omega
          go_wp2_with fail
          go_ret
          exact ⟨rfl, HK.below⟩
    · have hmay' : mayB i r u = false := by simpa using hmay
      refine (new_no i r u _ hmay').mono ?_
      rintro e w2 ⟨rfl, hg⟩
      replace HK := HK.none_ hg
      replace hk := hk.grown hg (by simp)
      have k0 : w2.cell? ⟨w.heap.size, 0, none⟩ = some (.int .i64 i) := hk.cell 0
      have k1 : w2.cell? ⟨w.heap.size, 1, none⟩ = some (.int .i64 r) := hk.cell 1
      have k2 : w2.cell? ⟨w.heap.size, 2, none⟩ = some (.int .i64 u) := hk.cell 2
      clear hmay hk
      have HM := Lib.hid hmay'
      clear hmay'
      go_wp2_with fail
      refine (may_any i r u _).mono ?_
      rintro e w3 ⟨rfl, hb⟩
      rw [HM.out]
      replace HK := HK.go hb
      go_wp2_with fail
      go_ret
      exact ⟨rfl, HK.below⟩
  · go_enter Try.func3, Try.ntmps3
    go_wp2_with fail
    refine (awake_any _).mono ?_
    rintro e w1 ⟨rfl, hb⟩
    have HK : Kp w.heap.size w w1 := ((Kp.refl w).alloc _).go hb
    go_wp2_with fail
    go_ret
    exact ⟨rfl, HK.below⟩
theorem core (i r u : Int) (A : Option Addr) (c : Nat) (l : List Base.Act) (w : World) (_ : (Lit.int .i64 i).wf = true) (_ : l.length ≤ c) (hm : l.length * 24 ≤ 140737488351232) (_ : ∀ x ∈ l, ActOk x) (hA : Acts w A l) :
    Calls Try.prog 3 #[.agg #[.int .i64 i, .int .i64 r, .int .i64 u], .slice A l.length c] w fun e w' => e = .returned (.bool true) ∧ Below w.heap.size w w' :=
  main i r u A c l w hA (by omega)
end Go.Proofs.Ytohinfbahjepoaa.Much
