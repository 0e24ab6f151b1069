/- The document's stores: are two the same. Conditions: as the contract says. -/
import Derived.Test.YtdobpieiobikpaaRefG
import Derived.Test.YtdobpieiobikpaaSame
import Derived.Laws.StructEq
set_option linter.unusedVariables false
set_option linter.unusedSimpArgs false
namespace Go.Proofs.Ytdobpieiobikpaa.Base
open Go Go.RowKit Go.Proofs.Ytdobpieiobikpaa.Mem Go.Proofs.YtdobpieiobikpaaW.PrintWords Go.Proofs.YtdobpieiobikpaaW.PrintLast
theorem sameL_yes {β : Type} [DecidableEq β] {c d : List (Int × β)} (hn : (keys c).Nodup) (hl : c.length = d.length) (h : ∀ p ∈ c, lookE d p.1 = some p.2) : sameL c d = true := by
  refine decide_eq_true ⟨hl, fun k hk => ?_⟩
  obtain ⟨p, hp, rfl⟩ := List.mem_map.1 hk
  rw [h p hp, lookE_of_mem hn hp]
theorem sameL_len {β : Type} [DecidableEq β] {c d : List (Int × β)} (h : c.length ≠ d.length) : sameL c d = false := decide_eq_false (fun e => h e.1)
theorem sameL_no {β : Type} [DecidableEq β] {c d : List (Int × β)} (hn : (keys c).Nodup) {p : Int × β} (hp : p ∈ c) (h : lookE d p.1 ≠ some p.2) : sameL c d = false :=
  decide_eq_false (fun e => h ((e.2 p.1 (List.mem_map.2 ⟨p, hp, rfl⟩)).trans (lookE_of_mem hn hp)))
theorem sameS_c0 {S T : St} (h : sameL S.c T.c = false) : sameS S T = false := by unfold sameS; rw [h]; rfl
theorem sameS_r0 {S T : St} (h : sameL S.r T.r = false) : sameS S T = false := by unfold sameS; rw [h, Bool.and_false]
/-- Of so many entries each is there, and the same. -/
def EqR {β : Type} (c d : List (Int × β)) (w : World) (t : Value) (wr : World) : Prop := ∃ i : Nat, t = .int .i64 (i : Int) ∧ i ≤ c.length ∧ (∀ p ∈ c.take i, lookE d p.1 = some p.2) ∧ ∃ q, wr = w.drewN q
theorem eqR_more {β : Type} {c d : List (Int × β)} {i : Nat} (h : ∀ p ∈ c.take i, lookE d p.1 = some p.2) {k : Int} {v : β} (hi : c[i]? = some (k, v)) (hk : lookE d k = some v) : ∀ p ∈ c.take (i + 1), lookE d p.1 = some p.2 := by
  obtain ⟨hl, e⟩ := List.getElem?_eq_some_iff.1 hi
  intro p hp
  rw [List.take_succ_eq_append_getElem hl] at hp
  rcases List.mem_append.1 hp with hp | hp
  · exact h p hp
  · simp at hp
    rw [hp, e]
    exact hk
theorem rnums {w : World} {xs ys : List Int} {ga ca gb cb : Nat} (h : Hid (∀ Q : Nat, ∃ A c, rVal ⟨ga, ca, xs⟩ = .slice A xs.length c ∧ xs.length ≤ c ∧ Kd.C (Kd.int .u64) (w.drewN Q) A xs.length xs)) (h' : Hid (∀ Q : Nat, ∃ A c, rVal ⟨gb, cb, ys⟩ = .slice A ys.length c ∧ ys.length ≤ c ∧ Kd.C (Kd.int .u64) (w.drewN Q) A ys.length ys)) (Q : Nat) (hl : xs.length ≤ 1024) :
    Calls Try.prog 31 #[.slice (some ⟨ga, 0, none⟩) xs.length ca, .slice (some ⟨gb, 0, none⟩) ys.length cb] (w.drewN Q) fun e w' => e = .returned (.bool (xs == ys)) ∧ ∃ q, w' = (w.drewN Q).drewN q := by
  obtain ⟨A, c, e, hc, hC⟩ := h.out Q
  obtain ⟨A', c', e', hc', hC'⟩ := h'.out Q
  unfold rVal at e e'
  injection e with e1 _ e3
  injection e' with e1' _ e3'
  subst e1 e3 e1' e3'
  exact nums_any _ _ xs _ _ ys _ hC hc hC' hc' (by omega)
set_option maxHeartbeats 32000000 in
set_option maxRecDepth 100000 in
theorem rsame_SM (a b : Nat) (vC vR vC' vR' : Value) (S T : St) (rr rr' : List (Int × RowE)) (w : World) (h : RM w a vC vR S rr) (h' : RM w b vC' vR' T rr') :
    Calls Try.prog 30 #[ptr a, ptr b] w fun e w' => e = .returned (.bool (sameS S T)) ∧ Below w.heap.size w w' := by
  have HM := Lib.hid (fun q => h.go (pw_below_drewN (Below.refl w.heap.size w) q))
  have HM' := Lib.hid (fun q => h'.go (pw_below_drewN (Below.refl w.heap.size w) q))
  have HOKS := Lib.hid h.ok
  have HOKT := Lib.hid h'.ok
  have HAB := Lib.hid h.abs
  have HAB' := Lib.hid h'.abs
  obtain ⟨A1, p1, hv1, hl1, hm1⟩ := own_form2 h.cm
  obtain ⟨A2, p2, hv2, hl2, hm2⟩ := own_form2 h.rm
  obtain ⟨A3, p3, hv3, hl3, hm3⟩ := own_form2 h'.cm
  obtain ⟨A4, p4, hv4, hl4, hm4⟩ := own_form2 h'.rm
  have HV1 := Lib.hid hv1
  have HV2 := Lib.hid hv2
  have HV3 := Lib.hid hv3
  have HV4 := Lib.hid hv4
  have c0 := h.box.cell 0
  have c1 := h.box.cell 1
  have d0 := h'.box.cell 0
  have d1 := h'.box.cell 1
  rw [show #[vC, vR][0]? = some vC from rfl, hv1] at c0
  rw [show #[vC, vR][1]? = some vR from rfl, hv2] at c1
  rw [show #[vC', vR'][0]? = some vC' from rfl, hv3] at d0
  rw [show #[vC', vR'][1]? = some vR' from rfl, hv4] at d1
  obtain ⟨n1, hn1⟩ : ∃ n, S.c.length = n := ⟨_, rfl⟩
  obtain ⟨n2, hn2⟩ : ∃ n, rr.length = n := ⟨_, rfl⟩
  obtain ⟨n3, hn3⟩ : ∃ n, T.c.length = n := ⟨_, rfl⟩
  obtain ⟨n4, hn4⟩ : ∃ n, rr'.length = n := ⟨_, rfl⟩
  have HN1 := Lib.hid hn1
  have HN2 := Lib.hid hn2
  have HN3 := Lib.hid hn3
  have HN4 := Lib.hid hn4
  rw [hn1] at c0 hl1 hm1
  rw [hn2] at c1 hl2 hm2
  rw [hn3] at d0 hl3 hm3
  rw [hn4] at d1 hl4 hm4
  have HLR : Hid (S.r.length = n2 ∧ T.r.length = n4) := Lib.hid ⟨by rw [HAB.out]; unfold absR; rw [List.length_map]; exact hn2, by rw [HAB'.out]; unfold absR; rw [List.length_map]; exact hn4⟩
  clear h h' hv1 hv2 hv3 hv4 hn1 hn2 hn3 hn4 hl1 hl2 hl3 hl4
  by_cases e1 : n1 = n3
  · by_cases e2 : n2 = n4
    · subst e1 e2
      have g1 : ((n1 : Int) == (n1 : Int)) = true := beq_self_eq_true _
      have HR0 := Lib.hid (fun q => (show EqR S.c T.c w (.int .i64 0) (w.drewN q) from ⟨0, rfl, Nat.zero_le _, (fun p hp => by simp at hp), q, rfl⟩))
      go_enter Try.func30, Try.ntmps30
      go_upto_region 1 with (fail)
      go_quiet (fail)
      have HR1 := Lib.hid (HR0.out nq)
      have cc0 := HV1
      clear HR0 cc0 c0 c1 d0 d1 g1
      generalize w.drewN nq = w1 at *
      go_wp2_with fail
      go_loopw [5] (fun t wr => EqR S.c T.c w t wr) (fun t _ => n1 - (intOf t).toNat)
      case atStart => exact HR1.out
      case round =>
        clear HR1
        obtain ⟨i, rfl, hi, hall, q, rfl⟩ := hrel
        have HALL := Lib.hid hall
        have hm := HM.out q
        have hm' := HM'.out q
        obtain ⟨wq, hwq⟩ : ∃ wq, w.drewN q = wq := ⟨_, rfl⟩
        rw [hwq] at hm hm' ⊢
        have HQ := Lib.hid hwq
        have HBQ := Lib.hid (show Below w.heap.size w wq by rw [← hwq]; exact pw_below_drewN (Below.refl _ _) _)
        clear hwq
        have c0 := hm.box.cell 0
        rw [show #[vC, vR][0]? = some vC from rfl, HV1.out, HN1.out] at c0
        by_cases hlt : i < n1
        · have k1 : (i : Int) < (n1 : Int) := by omega
          have k0 : (0 : Int) ≤ (i : Int) := by omega
          have hll : i < S.c.length := by rw [HN1.out]; exact hlt
          have hg := List.getElem?_eq_getElem hll
          obtain ⟨g, cap, hq, d0, d1, d2, -⟩ := hm.cAt i hg
          have hA : A1 = some ⟨g, 0, none⟩ := by have := HV1.out.symm.trans hq; injection this
          subst hA
          obtain ⟨⟨id, x, y⟩, hp⟩ : ∃ p, S.c[i] = p := ⟨_, rfl⟩
          rw [hp] at hg d0 d1 d2
          have HG := Lib.hid hg
          have HLL := Lib.hid hll
          have HI := Lib.hid (fun W (hW : RM W b vC' vR' T rr') => idxC_any b vC' vR' T rr' id W hW)
          rcases hm'.findC id with ⟨h1, h2⟩ | ⟨j, ⟨x', y'⟩, h1, h2, h3, h4, -, -⟩
          · rw [h1] at HI
            have HF := Lib.hid (sameS_c0 (S := S) (T := T) (sameL_no HOKS.out.ck (List.mem_of_getElem? hg) (by rw [h2]; intro e; cases e)))
            clear h1 h2 hg hq hll hp hall hm
            go_wp2_with fail
            refine (HI.out _ hm').mono ?_
            rintro e _ ⟨rfl, rfl⟩
            go_wp2_with fail
            go_quiet (fail)
            go_wp2_with fail
            go_ret
            rw [HF.out]
            exact ⟨rfl, by first | exact HBQ.out | exact pw_below_drewN HBQ.out _⟩
          · rw [h3] at HI
            obtain ⟨g2, cap2, hq2, f0, f1, f2, -⟩ := hm'.cAt j h1
            have b0 := hm'.box.cell 0
            rw [show #[vC', vR'][0]? = some vC' from rfl, hq2, HN3.out] at b0
            rw [HN3.out] at h4
            have j0 : (0 : Int) ≤ (j : Int) := by omega
            have j2 : ¬ (j : Int) < 0 := by omega
            have gi : (id == id) = true := beq_self_eq_true _
            by_cases hx : x = x'
            · by_cases hy : y = y'
              · subst hx hy
                have HT := Lib.hid (eqR_more hall hg h2)
                clear h1 h2 h3 hg hq hq2 hll hp hall hm
                go_wp2_with fail
                refine (HI.out _ hm').mono ?_
                rintro e _ ⟨rfl, rfl⟩
                clear hm'
                go_wp2_with fail
                go_quiet (fail)
                go_wp2_with fail
                go_roundw
                case rel => exact ⟨i + 1, by go_num, HLL.out, HT.out, by rw [← HQ.out]; exact ⟨_, World.drewN_drewN ..⟩⟩
                case measure => simp [intOf]; omega
              · have gx : (x == x') = true := beq_iff_eq.2 hx
                have gy : (y == y') = false := beq_eq_false_iff_ne.2 hy
                have HF := Lib.hid (sameS_c0 (S := S) (T := T) (sameL_no HOKS.out.ck (List.mem_of_getElem? hg) (by rw [h2]; intro e; injection e with e; injection e with _ e; exact hy e.symm)))
                clear h1 h2 h3 hg hq hq2 hll hp hall hm hx hy
                go_wp2_with fail
                refine (HI.out _ hm').mono ?_
                rintro e _ ⟨rfl, rfl⟩
                clear hm'
                go_wp2_with fail
                go_quiet (fail)
                go_wp2_with fail
                go_ret
                rw [HF.out]
                exact ⟨rfl, by first | exact HBQ.out | exact pw_below_drewN HBQ.out _⟩
            · have gx : (x == x') = false := beq_eq_false_iff_ne.2 hx
              have HF := Lib.hid (sameS_c0 (S := S) (T := T) (sameL_no HOKS.out.ck (List.mem_of_getElem? hg) (by rw [h2]; intro e; injection e with e; injection e with e _; exact hx e.symm)))
              clear h1 h2 h3 hg hq hq2 hll hp hall hm hx
              go_wp2_with fail
              refine (HI.out _ hm').mono ?_
              rintro e _ ⟨rfl, rfl⟩
              clear hm'
              go_wp2_with fail
              go_quiet (fail)
              go_wp2_with fail
              go_ret
              rw [HF.out]
              exact ⟨rfl, by first | exact HBQ.out | exact pw_below_drewN HBQ.out _⟩
        · obtain rfl : i = n1 := by rw [HN1.out] at hi; omega
          have k1 : ¬ (i : Int) < (i : Int) := by omega
          have HCC := Lib.hid (sameL_yes HOKS.out.ck (HN1.out.trans HN3.out.symm) (by have := HALL.out; rwa [← HN1.out, List.take_length] at this))
          have HR2 := Lib.hid (show EqR S.r T.r w (.int .i64 0) wq from ⟨0, rfl, Nat.zero_le _, (fun p hp => by simp at hp), q, HQ.out.symm⟩)
          clear hall HALL hm hm' hi hlt
          go_wp2_with fail
          clear c0
          clear HQ HBQ
          generalize wq = w2 at HR2 ⊢
          go_loopw [7] (fun t wr => EqR S.r T.r w t wr) (fun t _ => n2 - (intOf t).toNat)
          case atStart => exact HR2.out
          case round =>
            clear HR2
            obtain ⟨m, rfl, hi, hall, q, rfl⟩ := hrel
            rw [HLR.out.1] at hi
            have HALL := Lib.hid hall
            have hm := HM.out q
            have hm' := HM'.out q
            obtain ⟨wq, hwq⟩ : ∃ wq, w.drewN q = wq := ⟨_, rfl⟩
            rw [hwq] at hm hm' ⊢
            have HQ := Lib.hid hwq
            have HBQ := Lib.hid (show Below w.heap.size w wq by rw [← hwq]; exact pw_below_drewN (Below.refl _ _) _)
            clear hwq
            have c1 := hm.box.cell 1
            rw [show #[vC, vR][1]? = some vR from rfl, HV2.out, HN2.out] at c1
            by_cases hlt : m < n2
            · have k1 : (m : Int) < (n2 : Int) := by omega
              have k0 : (0 : Int) ≤ (m : Int) := by omega
              have hll : m < rr.length := by rw [HN2.out]; exact hlt
              have hg := List.getElem?_eq_getElem hll
              obtain ⟨g, cap, hq, d0, d1⟩ := hm.rAt m hg
              have hA : A2 = some ⟨g, 0, none⟩ := by have := HV2.out.symm.trans hq; injection this
              subst hA
              obtain ⟨⟨id, ga, ca, xs⟩, hp⟩ : ∃ p, rr[m] = p := ⟨_, rfl⟩
              rw [hp] at hg d0 d1
              have hgr : S.r[m]? = some (id, xs) := by rw [HAB.out]; unfold absR; rw [List.getElem?_map, hg]; rfl
              have hxl : xs.length ≤ 1024 := (HOKS.out.rw_ (id, xs) (List.mem_of_getElem? hgr)).2.1
              have HROW := Lib.hid (fun Q => own_C (xs := xs) ((hm.go (pw_below_drewN (Below.refl _ _) Q)).rows (id, ⟨ga, ca, xs⟩) (List.mem_of_getElem? hg)) (by omega))
              have HI := Lib.hid (fun W (hW : RM W b vC' vR' T rr') => idxR_any b vC' vR' T rr' id W hW)
              rcases hm'.findR id with ⟨h1, h2⟩ | ⟨j, ⟨gb, cb, ys⟩, h1, h2, h3, h4, h5, h6, h7⟩
              · rw [h1] at HI
                have HF := Lib.hid (sameS_r0 (S := S) (T := T) (sameL_no HOKS.out.rk (List.mem_of_getElem? hgr) (by rw [h2]; intro e; cases e)))
                clear h1 h2 hg hgr hq hll hp hall hm HROW
                go_wp2_with fail
                refine (HI.out _ hm').mono ?_
                rintro e _ ⟨rfl, rfl⟩
                go_wp2_with fail
                go_quiet (fail)
                go_wp2_with fail
                go_ret
                rw [HF.out]
                exact ⟨rfl, by first | exact HBQ.out | exact pw_below_drewN HBQ.out _⟩
              · rw [h4] at HI
                have HROW' := Lib.hid (fun Q => own_C (xs := ys) ((hm'.go (pw_below_drewN (Below.refl _ _) Q)).rows (id, ⟨gb, cb, ys⟩) (List.mem_of_getElem? h1)) (by have h6 : ys.length ≤ 1024 := h6; omega))
                obtain ⟨g2, cap2, hq2, f0, f1⟩ := hm'.rAt j h1
                have b1 := hm'.box.cell 1
                rw [show #[vC', vR'][1]? = some vR' from rfl, hq2, HN4.out] at b1
                rw [HN4.out] at h5
                have j0 : (0 : Int) ≤ (j : Int) := by omega
                have j2 : ¬ (j : Int) < 0 := by omega
                have HNU := Lib.hid (fun Q => rnums HROW HROW' Q hxl)
                rw [show ((id, (⟨ga, ca, xs⟩ : RowE)) : Int × RowE).2 = ⟨ga, ca, xs⟩ from rfl] at d1
                rw [show ((id, (⟨gb, cb, ys⟩ : RowE)) : Int × RowE).2 = ⟨gb, cb, ys⟩ from rfl] at f1
                replace d1 : wq.cell? ⟨g, m * 2 + 1, none⟩ = some (.slice (some ⟨ga, 0, none⟩) xs.length ca) := d1
                replace f1 : wq.cell? ⟨g2, j * 2 + 1, none⟩ = some (.slice (some ⟨gb, 0, none⟩) ys.length cb) := f1
                have HT := Lib.hid (fun e : xs = ys => eqR_more hall hgr (by rw [h3, e]))
                have HF := Lib.hid (fun e : xs ≠ ys => sameS_r0 (S := S) (T := T) (sameL_no HOKS.out.rk (List.mem_of_getElem? hgr) (by rw [h3]; intro e2; injection e2 with e2; exact e e2.symm)))
                have HLT := Lib.hid (show m + 1 ≤ S.r.length by rw [HLR.out.1]; omega)
                obtain ⟨u, hu⟩ : ∃ u, xs.length = u := ⟨_, rfl⟩
                obtain ⟨u', hu'⟩ : ∃ u, ys.length = u := ⟨_, rfl⟩
                rw [hu] at d1 HNU
                rw [hu'] at f1 HNU
                by_cases hxy : xs = ys
                · have HT2 := Lib.hid (HT.out hxy)
                  have hbb : (xs == ys) = true := beq_iff_eq.2 hxy
                  rw [hbb] at HNU
                  clear h1 h2 h3 h4 h6 h7 hg hgr hq hq2 hll hp hall hm hxl HT HF hxy hbb hu hu'
                  go_wp2_with fail
                  refine (HI.out _ hm').mono ?_
                  rintro e _ ⟨rfl, rfl⟩
                  clear hm'
                  go_wp2_with fail
                  go_quiet ((first | (go_at_call 31; exact Calls.quiet_of (HNU.out _))))
                  go_wp2_with fail
                  go_roundw
                  case rel => exact ⟨m + 1, by go_num, HLT.out, HT2.out, by rw [← HQ.out]; exact ⟨_, World.drewN_drewN ..⟩⟩
                  case measure => simp [intOf]; omega
                · have HF2 := Lib.hid (HF.out hxy)
                  have hbb : (xs == ys) = false := beq_eq_false_iff_ne.2 hxy
                  rw [hbb] at HNU
                  clear h1 h2 h3 h4 h6 h7 hg hgr hq hq2 hll hp hall hm hxl HT HF hxy hbb hu hu'
                  go_wp2_with fail
                  refine (HI.out _ hm').mono ?_
                  rintro e _ ⟨rfl, rfl⟩
                  clear hm'
                  go_wp2_with fail
                  go_quiet ((first | (go_at_call 31; exact Calls.quiet_of (HNU.out _))))
                  go_wp2_with fail
                  go_ret
                  rw [HF2.out]
                  exact ⟨rfl, by first | exact HBQ.out | exact pw_below_drewN HBQ.out _⟩
            · obtain rfl : m = n2 := by omega
              have k1 : ¬ (m : Int) < (m : Int) := by omega
              have HRR := Lib.hid (show sameS S T = true by
                have h1 := sameL_yes HOKS.out.rk (HLR.out.1.trans HLR.out.2.symm) (by have := HALL.out; rwa [← HLR.out.1, List.take_length] at this)
                unfold sameS
                rw [HCC.out, h1]
                rfl)
              clear hall HALL hm hm' hi hlt
              go_wp2_with fail
              go_ret
              rw [HRR.out]
              exact ⟨rfl, by first | exact HBQ.out | exact pw_below_drewN HBQ.out _⟩
    · subst e1
      have g1 : ((n1 : Int) == (n1 : Int)) = true := beq_self_eq_true _
      have g2 : ((n2 : Int) == (n4 : Int)) = false := beq_eq_false_iff_ne.2 (by omega)
      have g3 : ((n2 : Int) != (n4 : Int)) = true := by rw [bne, g2]; rfl
      have HF := Lib.hid (sameS_r0 (S := S) (T := T) (sameL_len (by rw [HLR.out.1, HLR.out.2]; exact e2)))
      go_enter Try.func30, Try.ntmps30
      go_upto_region 1 with (fail)
      go_quiet (fail)
      go_wp2_with fail
      go_ret
      rw [HF.out]
      exact ⟨rfl, pw_below_drewN (Below.refl _ _) _⟩
  · have g1 : ((n1 : Int) == (n3 : Int)) = false := beq_eq_false_iff_ne.2 (by omega)
    have g3 : ((n1 : Int) != (n3 : Int)) = true := by rw [bne, g1]; rfl
    have HF := Lib.hid (sameS_c0 (S := S) (T := T) (sameL_len (by rw [HN1.out, HN3.out]; exact e1)))
    go_enter Try.func30, Try.ntmps30
    go_upto_region 1 with (fail)
    go_quiet (fail)
    go_wp2_with fail
    go_ret
    rw [HF.out]
    exact ⟨rfl, pw_below_drewN (Below.refl _ _) _⟩
theorem rsame_any (a b : Nat) (O O' : Nat → Prop) (S T : St) (w : World) (h : Rto w a O S) (h' : Rto w b O' T) : Calls Try.prog 30 #[ptr a, ptr b] w fun e w' => e = .returned (.bool (sameS S T)) ∧ Below w.heap.size w w' := by
  obtain ⟨_, vC, vR, rr, h, _⟩ := h
  obtain ⟨_, vC', vR', rr', h', _⟩ := h'
  exact rsame_SM a b vC vR vC' vR' S T rr rr' w h h'
end Go.Proofs.Ytdobpieiobikpaa.Base
