/- slices.Equal at numbers, maps.EqualFunc at the rows. Conditions: as each contract says. -/
import Derived.Test.YtdobpieiobikpaaEqM
set_option linter.unusedVariables false
set_option linter.unusedSimpArgs false
namespace Go.Proofs.Ytdobpieiobikpaa.Base
open Go Go.RowKit Go.Proofs.Ytdobpieiobikpaa.Mem Go.Proofs.YtdobpieiobikpaaW.PrintWords Go.Proofs.YtdobpieiobikpaaW.PrintLast
set_option maxHeartbeats 1600000 in
theorem eqS_same (n : Nat) (A0 : Option Addr) (c0 : Nat) (l : List Int) (A1 : Option Addr) (c1 : Nat) (m : List Int) (w : World) (hn : Hid (l.length = n)) (hm : Hid (m.length = n)) (h0 : Kd.C (Kd.int .u64) w A0 l.length l) (hc0 : n ≤ c0) (h1 : Kd.C (Kd.int .u64) w A1 m.length m) (hc1 : n ≤ c1) (hl : n < 1000000000) :
    Calls Try.prog 50 #[.slice A0 n c0, .slice A1 n c1] w fun e w' => e = .returned (.bool (l == m)) ∧ ∃ q, w' = w.drewN q := by
  have hR : IR n l m w (.int .i64 0) w := ⟨0, rfl, by omega, rfl, 0, rfl⟩
  have HL := Lib.hid h0
  have HM := Lib.hid h1
  clear h0 h1
  go_enter Try.func50, Try.ntmps50
  go_wp2_with fail
  go_loopw [5, 13] (fun _ t wr => IR n l m w t wr) (fun _ t _ => n - (intOf t).toNat)
  case atStart => exact hR
  case round =>
    clear hR
    obtain ⟨i, rfl, hi, ht, q, rfl⟩ := hrel
    by_cases hgo : i < n
    · have hgo1 : i < l.length := by rw [hn.out]; exact hgo
      have hgo2 : i < m.length := by rw [hm.out]; exact hgo
      have k0 : (0 : Int) ≤ (i : Int) := by omega
      have k1 : (i : Int) < (n : Int) := by omega
      obtain ⟨ad, rfl, e0⟩ := u64_at HL.out i hgo1
      obtain ⟨ad', rfl, f0⟩ := u64_at HM.out i hgo2
      have HT := Lib.hid (show l[i] = m[i] → l.take (i + 1) = m.take (i + 1) from fun he => by rw [List.take_succ_eq_append_getElem hgo1, List.take_succ_eq_append_getElem hgo2, ht, he])
      have HN := Lib.hid (show ¬ l[i] = m[i] → (l == m) = false from fun he => by
        cases hb : l == m
        · rfl
        · have := eq_of_beq hb
          subst this
          exact absurd rfl he)
      clear ht
      generalize l[i] = x at *
      generalize m[i] = y at *
      clear hgo1 hgo2
      by_cases hxy : x = y
      · subst hxy
        go_wp2_with fail
        go_quiet (fail)
        go_wp2_with fail
        go_roundw
        case rel => exact ⟨i + 1, by go_num, by omega, HT.out trivial, _, rfl⟩
        case measure => simp [intOf]; omega
      · go_wp2_with fail
        go_quiet (fail)
        go_wp2_with fail
        go_ret
        rw [HN.out hxy]
        exact ⟨rfl, _, World.drewN_drewN ..⟩
    · obtain rfl : i = n := by omega
      have k1 : ¬ (i : Int) < (i : Int) := by omega
      have HT := Lib.hid (show (l == m) = true by
        rw [List.take_of_length_le (Nat.le_of_eq hn.out), List.take_of_length_le (Nat.le_of_eq hm.out)] at ht
        rw [ht]
        exact beq_self_eq_true _)
      clear ht
      go_wp2_with fail
      go_ret
      rw [HT.out]
      exact ⟨rfl, q, rfl⟩
theorem eqS_any (A0 : Option Addr) (c0 : Nat) (l : List Int) (A1 : Option Addr) (c1 : Nat) (m : List Int) (w : World) (h0 : Kd.C (Kd.int .u64) w A0 l.length l) (hc0 : l.length ≤ c0) (h1 : Kd.C (Kd.int .u64) w A1 m.length m) (hc1 : m.length ≤ c1) (hl : l.length < 1000000000) :
    Calls Try.prog 50 #[.slice A0 l.length c0, .slice A1 m.length c1] w fun e w' => e = .returned (.bool (l == m)) ∧ ∃ q, w' = w.drewN q := by
  by_cases hlm : m.length = l.length
  · have h := eqS_same l.length A0 c0 l A1 c1 m w (Lib.hid rfl) (Lib.hid hlm) h0 hc0 h1 (by omega) hl
    rw [hlm]
    exact h
  · have hx : (l == m) = false := by
      cases hb : l == m
      · rfl
      · exact absurd (congrArg List.length (eq_of_beq hb)).symm hlm
    have hlm2 : ¬ (l.length : Int) = (m.length : Int) := by omega
    have HX := Lib.hid hx
    clear hx hlm
    go_enter Try.func50, Try.ntmps50
    go_wp2_with fail
    go_ret
    rw [HX.out]
    exact ⟨rfl, 0, rfl⟩
/-- What holds at each round. -/
structure EqJ (w : World) (p : Option Nat) (r : Nat) (c d : List (Int × RowE)) (D : List Int) (wr : World) : Prop where
  rg : RO wr p r (rRow c) D
  bel : Below w.heap.size w wr
  eq : ∀ k ∈ D, lookE (absR d) k = lookE (absR c) k
def Rows (w : World) (rr : List (Int × RowE)) : Prop := ∀ p ∈ rr, p.2.xs.length < 1000000000 ∧ w.ownsRow 0 22 1 (rVal p.2) p.2.xs.length (p.2.xs.map (Value.int .u64))
theorem Rows.at_ {w w1 : World} {rr : List (Int × RowE)} (h : Rows w rr) (hb : Below w.heap.size w w1) {k : Int} {q : RowE} (hq : lookE rr k = some q) : q.xs.length < 1000000000 ∧ ∃ A c, rVal q = .slice A q.xs.length c ∧ q.xs.length ≤ c ∧ Kd.C (Kd.int .u64) w1 A q.xs.length q.xs := by
  obtain ⟨h1, h2⟩ := h _ (lookE_mem hq)
  exact ⟨h1, own_C (own_go h2 hb) h1⟩
set_option maxHeartbeats 3200000 in
set_option maxRecDepth 100000 in
theorem eqR_any (p1 p2 : Option Nat) (c d : List (Int × RowE)) (w : World) (h1 : MM w p1 (rRow c)) (h2 : MM w p2 (rRow d)) (r1 : Rows w c) (r2 : Rows w d) :
    Calls Try.prog 49 #[.map p1, .map p2, .func (.func 50) #[] #[]] w fun e w' => e = .returned (.bool (sameL (absR c) (absR d))) ∧ Below w.heap.size w w' := by
  have L1 := h1.len Try.underlying60 3
  have L2 := h2.len Try.underlying60 3
  have e1 : (rRow c).length = c.length := by simp [rRow]
  have e2 : (rRow d).length = d.length := by simp [rRow]
  rw [e1] at L1
  rw [e2] at L2
  clear e1 e2
  obtain ⟨n, hn⟩ : ∃ n, c.length = n := ⟨_, rfl⟩
  obtain ⟨m, hm⟩ : ∃ m, d.length = m := ⟨_, rfl⟩
  rw [hn] at L1
  rw [hm] at L2
  have HN := Lib.hid (show (absR c).length = n by unfold absR; rw [List.length_map]; exact hn)
  have HM := Lib.hid (show (absR d).length = m by unfold absR; rw [List.length_map]; exact hm)
  have H1 := Lib.hid h1
  have H2 := Lib.hid h2
  have R1 := Lib.hid r1
  have R2 := Lib.hid r2
  clear hn hm h1 h2 r1 r2
  by_cases hnm : n = m
  · subst hnm
    go_enter Try.func49, Try.ntmps49
    go_wp2_with (at_range; go_must (refine wpList_rangeO rfl _ 60 rfl 30 Try.underlying60 p1 (rRow c) (by rfl) H1.out ?_); intro w1 hg1 hb1)
    go_frame
    have HR := Lib.hid (show EqJ w p1 w.heap.size c d [] w1 from ⟨hg1, hb1, fun k hk => by cases hk⟩)
    clear hg1 hb1 L1 L2
    generalize hr : w.heap.size = r at HR ⊢
    go_loopw [7, 8, 9, 10] (fun _ _ _ _ wr => ∃ D, EqJ w p1 r c d D wr) (fun _ _ _ _ wr => leftO wr p1 r)
    case atStart => exact ⟨_, HR.out⟩
    case round =>
      clear HR
      obtain ⟨D, he⟩ := hrel
      have HE := Lib.hid he
      clear he
      go_wp2_with (at_next; go_must (refine wpList_nextO rfl _ rfl p1 r (rRow c) D (by rfl) HE.out.rg ?_ ?_))
      focus
        intro hd
        have HT := Lib.hid (show sameL (absR c) (absR d) = true by
          unfold sameL
          rw [HN.out, HM.out]
          refine decide_eq_true ⟨rfl, fun k hk => HE.out.eq k (hd k ?_)⟩
          rw [keys_absR] at hk
          unfold rRow
          rw [keys_map]
          exact hk)
        clear hd
        go_wp2_with fail
        go_ret
        rw [HT.out]
        exact ⟨rfl, HE.out.bel⟩
      intro k v w5 hl hnd hkw hg hf hleft hen
      obtain ⟨q, hq, hv⟩ : ∃ q, lookE c k = some q ∧ rVal q = v := by
        rw [rRow, lookE_map] at hl
        exact Option.map_eq_some_iff.1 hl
      have HG := Lib.hid hg
      have hB5 : Below w.heap.size w w5 := HE.out.bel.trans (hf.below (fun i e => by omega) HE.out.bel.size)
      have HB5 := Lib.hid hB5
      have HQ := Lib.hid (show lookE (absR c) k = some q.xs by rw [absR_look, hq]; rfl)
      have HL := Lib.hid hleft
      have HKW := Lib.hid hkw
      obtain ⟨hql, A, cA, hqv, hqc, hqC⟩ := R1.out.at_ hB5 hq
      rw [hqv] at hv
      subst hv
      have HP := Lib.hid (H2.out.fp (Fp.of_below hB5 (fun _ => False)) (fun _ _ e => e) : MM w5 p2 (rRow d))
      have HZ := Lib.hid (zero30 w5)
      generalize q.xs = xs at *
      have HXC := Lib.hid hqC
      have HXL := Lib.hid hql
      have HXc := Lib.hid hqc
      clear hl hnd hkw hg hf hleft hq hB5 hql hqc hqC hqv
      cases hd : lookE d k with
      | none =>
        have HV := Lib.hid (show (if true then .tuple #[(lookE (rRow d) k).getD (.slice none 0 0), .bool (lookE (rRow d) k).isSome] else (lookE (rRow d) k).getD (.slice none 0 0)) = .tuple #[.slice none 0 0, .bool false] by
          rw [if_pos rfl, rRow, lookE_map, hd]; rfl)
        have HT := Lib.hid (show sameL (absR c) (absR d) = false by
          unfold sameL
          refine decide_eq_false (fun e => ?_)
          have := e.2 k (List.mem_map.2 ⟨_, lookE_mem HQ.out, rfl⟩)
          rw [absR_look, hd, HQ.out] at this
          cases this)
        clear hd
        generalize xs.length = nx at *
        go_wp2_with (at_lookup; go_must (refine wpList_look rfl _ _ 60 true rfl 30 Try.underlying60 _ HZ.out p2 (rRow d) (by rfl) HP.out k HKW.out (by rfl) _ HV.out ?_))
        go_ret
        rw [HT.out]
        exact ⟨rfl, hr ▸ HB5.out⟩
      | some z =>
        obtain ⟨hzl, B, cB, hzv, hzc, hzC⟩ := R2.out.at_ HB5.out hd
        have HV := Lib.hid (show (if true then .tuple #[(lookE (rRow d) k).getD (.slice none 0 0), .bool (lookE (rRow d) k).isSome] else (lookE (rRow d) k).getD (.slice none 0 0)) = .tuple #[.slice B z.xs.length cB, .bool true] by
          rw [if_pos rfl, rRow, lookE_map, hd]; show Value.tuple #[rVal z, .bool true] = _; rw [hzv])
        have HD := Lib.hid (show lookE (absR d) k = some z.xs by rw [absR_look, hd]; rfl)
        have HS := Lib.hid (eqS_any A cA xs B cB z.xs w5 HXC.out HXc.out hzC hzc HXL.out)
        clear hd hzl hzv hzc hzC HXC HXL HXc
        generalize z.xs = zs at *
        generalize hX : xs.length = nx at *
        generalize hY : zs.length = ny at *
        have HX := Lib.hid hX
        have HY := Lib.hid hY
        clear hX hY
        by_cases hxz : xs = zs
        · rw [show (xs == zs) = true from beq_iff_eq.2 hxz] at HS
          go_wp2_with (at_lookup; go_must (refine wpList_look rfl _ _ 60 true rfl 30 Try.underlying60 _ HZ.out p2 (rRow d) (by rfl) HP.out k HKW.out (by rfl) _ HV.out ?_))
          have HXZ := Lib.hid hxz
          clear hxz
          refine HS.out.mono ?_
          rintro e w6 ⟨rfl, u, hw6⟩
          have HB6 := Lib.hid (show Below w5.heap.size w5 w6 by rw [hw6]; exact pw_below_drewN (Below.refl _ _) u)
          clear hw6
          go_wp2_with fail
          refine ⟨⟨k :: D, (HG.out.go HB6.out).1, below_step HB5.out HB6.out, fun j hj => ?_⟩, ?_⟩
          · rcases List.mem_cons.1 hj with rfl | hj
            · rw [HD.out, HQ.out, HXZ.out]
            · exact HE.out.eq j hj
          · rw [(HG.out.go HB6.out).2]
            exact HL.out
        · rw [show (xs == zs) = false from by
            cases hb : xs == zs
            · rfl
            · exact absurd (eq_of_beq hb) hxz] at HS
          have HT := Lib.hid (show sameL (absR c) (absR d) = false by
            unfold sameL
            refine decide_eq_false (fun e => ?_)
            have := e.2 k (List.mem_map.2 ⟨_, lookE_mem HQ.out, rfl⟩)
            rw [HD.out, HQ.out] at this
            injection this with this
            exact hxz this.symm)
          clear hxz
          go_wp2_with (at_lookup; go_must (refine wpList_look rfl _ _ 60 true rfl 30 Try.underlying60 _ HZ.out p2 (rRow d) (by rfl) HP.out k HKW.out (by rfl) _ HV.out ?_))
          refine HS.out.mono ?_
          rintro e w6 ⟨rfl, u, hw6⟩
          have HB6 := Lib.hid (show Below w5.heap.size w5 w6 by rw [hw6]; exact pw_below_drewN (Below.refl _ _) u)
          clear hw6
          go_wp2_with fail
          go_ret
          rw [HT.out]
          exact ⟨rfl, hr ▸ below_step HB5.out HB6.out⟩
  · have hnm2 : ¬ (n : Int) = (m : Int) := by omega
    have HF := Lib.hid (show sameL (absR c) (absR d) = false by
      unfold sameL
      rw [HN.out, HM.out]
      exact decide_eq_false (fun e => hnm e.1))
    clear hnm
    go_enter Try.func49, Try.ntmps49
    go_wp2_with fail
    go_ret
    rw [HF.out]
    exact ⟨rfl, Below.refl _ _⟩
end Go.Proofs.Ytdobpieiobikpaa.Base
