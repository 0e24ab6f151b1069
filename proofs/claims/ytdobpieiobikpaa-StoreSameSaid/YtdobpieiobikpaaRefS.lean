/- The document's store: a register is set, or added to. Conditions: as each contract says. -/
import Derived.Test.YtdobpieiobikpaaRefDelC
set_option linter.unusedVariables false
set_option linter.unusedSimpArgs false
namespace Go.Proofs.Ytdobpieiobikpaa.Base
open Go Go.RowKit Go.Proofs.Ytdobpieiobikpaa.Mem Go.Proofs.YtdobpieiobikpaaW.PrintWords Go.Proofs.YtdobpieiobikpaaW.PrintLast
theorem rto_set {w w1 : World} {a : Nat} {O : Nat → Prop} {S : St} {vC vR : Value} {rr : List (Int × RowE)} (hO : ∀ k, O k → k < w.heap.size) (hown : ∀ k, ROwn a vC vR rr k → O k) (hb : Below w.heap.size w w1) (h : RM w1 a vC vR S rr) {id : Int} {v : RowE} (hl : lookE rr id = some v) (n : Nat) (x : Int) (hx : u64ok x) :
    RDid w a O (0, setR S id (n : Int) x) (.returned (.int .i64 0)) (w1.setCell ⟨v.g, n, none⟩ (.int .u64 x)) := by
  obtain ⟨h1, h2⟩ := h.setX hl n x hx
  have e : setR S id (n : Int) x = { S with r := absR (putE rr id { v with xs := v.xs.set n x }) } := by
    unfold setR
    rw [show lookE S.r id = some v.xs by rw [h.abs, absR_look, hl]; rfl]
    show ({ S with r := putE S.r id (v.xs.set (Int.toNat (n : Int)) x) } : St) = _
    rw [Int.toNat_natCast, ← absR_put, ← h.abs]
  have hvg : O v.g := hown _ (.inr (.inr (.inr (List.mem_map.2 ⟨_, lookE_mem hl, rfl⟩))))
  have hf : Fp O w (w1.setCell ⟨v.g, n, none⟩ (.int .u64 x)) := (Fp.of_below hb O).next h2 (fun i hi _ => by rw [show i = v.g from hi]; exact hvg)
  rw [e]
  refine ⟨rfl, h1.rto hO hf.size (fun k hk => .inl ?_), hf⟩
  rcases hk with hk | hk | hk | hk
  · exact hown k (.inl hk)
  · exact hown k (.inr (.inl hk))
  · exact hown k (.inr (.inr (.inl hk)))
  · rw [putE_gs' (v' := { v with xs := v.xs.set n x }) hl rfl] at hk
    exact hown k (.inr (.inr (.inr hk)))
theorem RM.xAt2 {w : World} {a : Nat} {vC vR : Value} {S : St} {rr : List (Int × RowE)} (h : RM w a vC vR S rr) {id : Int} {v : RowE} (hl : lookE rr id = some v) (j : Nat) (hj : j < v.xs.length) {y : Int} (hy : v.xs[j] = y) : w.cell? ⟨v.g, j, none⟩ = some (.int .u64 y) ∧ w.frozen? ⟨v.g, j, none⟩ = false := by
  subst hy
  exact h.xAt (lookE_mem hl) j hj
set_option maxHeartbeats 16000000 in
set_option maxRecDepth 100000 in
theorem rsave_any (a : Nat) (O : Nat → Prop) (S : St) (id : Int) (k : Nat) (x : Int) (w : World) (h : Rto w a O S) (hk : k < 18446744073709551616) (hx : u64ok x) :
    Calls Try.prog 43 #[ptr a, .int .i64 id, .int .u64 (k : Int), .int .u64 x] w (RDid w a O (save S id (k : Int) x)) := by
  have HSTO := Lib.hid h
  obtain ⟨hO, vC, vR, rr, hm, hown⟩ := h
  have HW := Lib.hid (wrong_any a vC vR S rr id k w hm hk)
  have HM := Lib.hid hm
  have HOW := Lib.hid hown
  have HO := Lib.hid hO
  have HXX := Lib.hid hx
  clear hown hO hx
  by_cases hat : atR S id (k : Int) = 0
  · rw [hat] at HW
    rcases hm.findR id with ⟨h1, h2⟩ | ⟨i, v, h1, h2, h3, h4, h5, h6, h7⟩
    · unfold atR at hat
      rw [h2] at hat
      cases hat
    · have hkl : k < v.xs.length := by
        unfold atR at hat
        rw [h3] at hat
        by_cases hc : (k : Int) < v.xs.length
        · omega
        · simp [hc] at hat
      have hg : getR S id (k : Int) = v.xs[k] := by
        unfold getR
        rw [h3]
        simp [hkl]
      have HI := Lib.hid (fun W (hW : RM W a vC vR S rr) => by have := idxR_any a vC vR S rr id W hW; rw [h4] at this; exact this)
      have HL2 := Lib.hid h2
      have HR1 := Lib.hid h1
      have HKL := Lib.hid hkl
      have HP := Lib.hid (show save S id (k : Int) x = (0, setR S id (k : Int) x) by unfold save; rw [if_pos hat])
      have HXX2 := Lib.hid (show u64ok x from HXX.out)
      generalize hx : v.xs[k] = y at *
      clear h4 h1 h2 h3 hat hg hm
      have HYY := Lib.hid hx
      clear hx
      have k0 : (0 : Int) ≤ (i : Int) := by omega
      have k3 : (k : Int) < (v.xs.length : Int) := by omega
      go_enter Try.func43, Try.ntmps43
      go_wp2_with fail
      refine HW.out.mono ?_
      rintro e w1 ⟨rfl, hb⟩
      have HM1 := Lib.hid (HM.out.go hb)
      have HB := Lib.hid hb
      obtain ⟨g, cap, hv, d0, d1⟩ := HM1.out.rAt i HR1.out
      have HV := Lib.hid hv
      have c1 := HM1.out.box.cell 1
      rw [show #[vC, vR][1]? = some vR from rfl, hv] at c1
      obtain ⟨e0, z0⟩ := HM1.out.xAt2 HL2.out k HKL.out HYY.out
      rw [show ((id, v) : Int × RowE).2 = v from rfl] at d1
      obtain ⟨m, hm⟩ : ∃ m, v.xs.length = m := ⟨_, rfl⟩
      obtain ⟨n, hn⟩ : ∃ n, rr.length = n := ⟨_, rfl⟩
      have HNN := Lib.hid hn
      have HMM := Lib.hid hm
      rw [hm] at d1 k3
      rw [hn] at c1 h5
      clear hb hv hm hn h6 h7 hkl d0 hk
      go_upto_region 3 with (fail)
      refine start_ (n := 14) (S := (fun W => W.cell? ⟨a, 1, none⟩ = some (.slice (some ⟨g, 0, none⟩) n cap) ∧ W.cell? ⟨g, i * 2 + 1, none⟩ = some (.slice (some ⟨v.g, 0, none⟩) m v.cap))) (ds := [13]) #[false, false, false, false, false, false, false, false, false, false, false, false, false, false] (by kernel_rfl) rfl rfl ⟨c1, d1⟩ (fun hHeld => ?_)
      refine pure_ (i := 0) (N := (some 16)) (v := ?_) (a' := ?_) #[true, false, false, false, false, false, false, false, false, false, false, false, false, false] rfl rfl (by kernel_rfl) (fun _ _ _ h => h) (Or.inl ⟨by rfl, ?_⟩) ?_ ?_
      rotate_left
      · intro w'
        go_simp
        (try with_reducible rfl)
      rotate_left
      · simp only [Act.put, List.setIfInBounds_toArray, List.set_cons_zero, List.set_cons_succ, i64_w, i32_w]
        rfl
      refine pure_ (i := 1) (N := (some 17)) (v := ?_) (a' := ?_) #[true, true, false, false, false, false, false, false, false, false, false, false, false, false] rfl rfl (by kernel_rfl) (fun _ _ _ h => h) (Or.inl ⟨by rfl, ?_⟩) ?_ ?_
      rotate_left
      · intro w'
        go_simp
        (try with_reducible rfl)
      rotate_left
      · simp only [Act.put, List.setIfInBounds_toArray, List.set_cons_zero, List.set_cons_succ, i64_w, i32_w]
        rfl
      refine pure_ (i := 2) (N := (some 18)) (v := ?_) (a' := ?_) #[true, true, true, false, false, false, false, false, false, false, false, false, false, false] rfl rfl (by kernel_rfl) (fun _ _ _ h => h) (Or.inl ⟨by rfl, ?_⟩) ?_ ?_
      rotate_left
      · intro w'
        go_simp
        (try with_reducible rfl)
      rotate_left
      · simp only [Act.put, List.setIfInBounds_toArray, List.set_cons_zero, List.set_cons_succ, i64_w, i32_w]
        rfl
      refine take_ (i := 3) (N := (some 19)) (v := ?_) (a' := ?_) #[true, true, true, true, false, false, false, false, false, false, false, false, false, false] rfl rfl (by kernel_rfl) (fun _ _ _ h => h) (Or.inl ⟨by rfl, ?_⟩) hHeld ?_ ?_
      rotate_left
      · rintro w' ⟨s0, s1⟩
        go_simp
        (try with_reducible rfl)
      rotate_left
      · simp only [Act.put, List.setIfInBounds_toArray, List.set_cons_zero, List.set_cons_succ, i64_w, i32_w]
        rfl
      refine pure_ (i := 4) (N := (some 20)) (v := ?_) (a' := ?_) #[true, true, true, true, true, false, false, false, false, false, false, false, false, false] rfl rfl (by kernel_rfl) (fun _ _ _ h => h) (Or.inl ⟨by rfl, ?_⟩) ?_ ?_
      rotate_left
      · intro w'
        go_simp
        (try with_reducible rfl)
      rotate_left
      · simp only [Act.put, List.setIfInBounds_toArray, List.set_cons_zero, List.set_cons_succ, i64_w, i32_w]
        rfl
      refine pure_ (i := 5) (N := (some 21)) (v := ?_) (a' := ?_) #[true, true, true, true, true, true, false, false, false, false, false, false, false, false] rfl rfl (by kernel_rfl) (fun _ _ _ h => h) (Or.inl ⟨by rfl, ?_⟩) ?_ ?_
      rotate_left
      · intro w'
        go_simp
        (try with_reducible rfl)
      rotate_left
      · simp only [Act.put, List.setIfInBounds_toArray, List.set_cons_zero, List.set_cons_succ, i64_w, i32_w]
        rfl
      refine pure_ (i := 10) (N := (some 26)) (v := ?_) (a' := ?_) #[true, true, true, true, true, true, false, false, false, false, true, false, false, false] rfl rfl (by kernel_rfl) (fun _ _ _ h => h) (Or.inl ⟨by rfl, ?_⟩) ?_ ?_
      rotate_left
      · intro w'
        go_simp
        (try with_reducible rfl)
      rotate_left
      · simp only [Act.put, List.setIfInBounds_toArray, List.set_cons_zero, List.set_cons_succ, i64_w, i32_w]
        rfl
      refine pure_ (i := 11) (N := (some 27)) (v := ?_) (a' := ?_) #[true, true, true, true, true, true, false, false, false, false, true, true, false, false] rfl rfl (by kernel_rfl) (fun _ _ _ h => h) (Or.inl ⟨by rfl, ?_⟩) ?_ ?_
      rotate_left
      · intro w'
        go_simp
        (try with_reducible rfl)
      rotate_left
      · simp only [Act.put, List.setIfInBounds_toArray, List.set_cons_zero, List.set_cons_succ, i64_w, i32_w]
        rfl
      refine one_ (i := 6) (N := (some 22)) #[true, true, true, true, true, true, true, false, false, false, true, true, false, false] rfl rfl (by kernel_rfl) (by decide) (fun K hK => ?_)
      refine goes_ Try.func52 (by kernel_rfl) rfl #[ptr a, .int .i64 id] (by rfl) rfl rfl (by simp [Act.eval]) ?_
      refine (HI.out _ (HM1.out.go (below_drew1 (Below.refl _ _)))).mono ?_
      rintro e w2 ⟨rfl, rfl⟩
      refine ⟨_, rfl, hK.out _ _ hHeld (fun hHeld => ?_)⟩
      clear hK K
      refine norm_ (a' := ?_) ?_ ?_
      rotate_left
      · show Act.put _ (some 22) _ = _
        simp only [Act.put, List.setIfInBounds_toArray, List.set_cons_zero, List.set_cons_succ, i64_w, i32_w]
        rfl
      refine pure_ (i := 7) (N := (some 23)) (v := ?_) (a' := ?_) #[true, true, true, true, true, true, true, true, false, false, true, true, false, false] rfl rfl (by kernel_rfl) (fun _ _ _ h => h) (Or.inl ⟨by rfl, ?_⟩) ?_ ?_
      rotate_left
      · intro w'
        go_simp
        (try with_reducible rfl)
      rotate_left
      · simp only [Act.put, List.setIfInBounds_toArray, List.set_cons_zero, List.set_cons_succ, i64_w, i32_w]
        rfl
      refine pure_ (i := 8) (N := (some 24)) (v := ?_) (a' := ?_) #[true, true, true, true, true, true, true, true, true, false, true, true, false, false] rfl rfl (by kernel_rfl) (fun _ _ _ h => h) (Or.inl ⟨by rfl, ?_⟩) ?_ ?_
      rotate_left
      · intro w'
        go_simp
        (try with_reducible rfl)
      rotate_left
      · simp only [Act.put, List.setIfInBounds_toArray, List.set_cons_zero, List.set_cons_succ, i64_w, i32_w]
        rfl
      refine take_ (i := 9) (N := (some 25)) (v := ?_) (a' := ?_) #[true, true, true, true, true, true, true, true, true, true, true, true, false, false] rfl rfl (by kernel_rfl) (fun _ _ _ h => h) (Or.inl ⟨by rfl, ?_⟩) hHeld ?_ ?_
      rotate_left
      · rintro w' ⟨s0, s1⟩
        go_simp
        (try with_reducible rfl)
      rotate_left
      · simp only [Act.put, List.setIfInBounds_toArray, List.set_cons_zero, List.set_cons_succ, i64_w, i32_w]
        rfl
      refine pure_ (i := 12) (N := (some 28)) (v := ?_) (a' := ?_) #[true, true, true, true, true, true, true, true, true, true, true, true, true, false] rfl rfl (by kernel_rfl) (fun _ _ _ h => h) (Or.inl ⟨by rfl, ?_⟩) ?_ ?_
      rotate_left
      · intro w'
        go_simp
        (try with_reducible rfl)
      rotate_left
      · simp only [Act.put, List.setIfInBounds_toArray, List.set_cons_zero, List.set_cons_succ, i64_w, i32_w]
        rfl
      refine last_ (i := 13) (N := none) #[true, true, true, true, true, true, true, true, true, true, true, true, true, true] rfl rfl (by kernel_rfl) (by decide) (fun K hK => ?_)
      have HMD := Lib.hid (HM1.out.go (below_drew1 (Below.refl _ _)))
      have HBD := Lib.hid (below_drew1 HB.out)
      clear c1 d1 e0 z0
      generalize w1.drew = w2 at *
      obtain ⟨e0, z0⟩ := HMD.out.xAt2 HL2.out k HKL.out HYY.out
      refine skip_ (w1 := w2.setCell ⟨v.g, k, none⟩ (.int .u64 x)) (by rfl) rfl (by go_simp) ?_
      refine hK.out _ _ ?_
      refine done_ (by kernel_rfl) ?_
      clear hHeld hK K
      go_wp2_with fail
      go_ret
      rw [HP.out]
      exact rto_set HO.out HOW.out HBD.out HMD.out HL2.out k x HXX.out
  · have hne2 : (atR S id (k : Int) == 0) = false := beq_eq_false_iff_ne.2 hat
    have HP := Lib.hid (show save S id (k : Int) x = (atR S id (k : Int), S) by unfold save; rw [if_neg hat])
    clear hm
    generalize atR S id (k : Int) = q at *
    go_enter Try.func43, Try.ntmps43
    go_wp2_with fail
    refine HW.out.mono ?_
    rintro e w1 ⟨rfl, hb⟩
    go_wp2_with fail
    go_ret
    rw [HP.out]
    exact ⟨rfl, HSTO.out.same hb, Fp.of_below hb _⟩
set_option maxHeartbeats 16000000 in
set_option maxRecDepth 100000 in
theorem rbump_any (a : Nat) (O : Nat → Prop) (S : St) (id : Int) (k : Nat) (x : Int) (w : World) (h : Rto w a O S) (hk : k < 18446744073709551616) (hx : u64ok x) :
    Calls Try.prog 44 #[ptr a, .int .i64 id, .int .u64 (k : Int), .int .u64 x] w (RDid w a O (bump S id (k : Int) x)) := by
  have HSTO := Lib.hid h
  obtain ⟨hO, vC, vR, rr, hm, hown⟩ := h
  have HW := Lib.hid (wrong_any a vC vR S rr id k w hm hk)
  have HM := Lib.hid hm
  have HOW := Lib.hid hown
  have HO := Lib.hid hO
  have HXX := Lib.hid hx
  clear hown hO hx
  by_cases hat : atR S id (k : Int) = 0
  · rw [hat] at HW
    rcases hm.findR id with ⟨h1, h2⟩ | ⟨i, v, h1, h2, h3, h4, h5, h6, h7⟩
    · unfold atR at hat
      rw [h2] at hat
      cases hat
    · have hkl : k < v.xs.length := by
        unfold atR at hat
        rw [h3] at hat
        by_cases hc : (k : Int) < v.xs.length
        · omega
        · simp [hc] at hat
      have hg : getR S id (k : Int) = v.xs[k] := by
        unfold getR
        rw [h3]
        simp [hkl]
      have HI := Lib.hid (fun W (hW : RM W a vC vR S rr) => by have := idxR_any a vC vR S rr id W hW; rw [h4] at this; exact this)
      have HL2 := Lib.hid h2
      have HR1 := Lib.hid h1
      have HKL := Lib.hid hkl
      have HP := Lib.hid (show bump S id (k : Int) x = (0, setR S id (k : Int) (u64w (v.xs[k] + x))) by unfold bump; rw [if_pos hat, hg] <;> rfl)
      have HXX2 := Lib.hid (show u64ok (u64w (v.xs[k] + x)) from u64w_ok _)
      have hsum := u64_wrap (v.xs[k] + x)
      generalize u64w (v.xs[k] + x) = z at *
      generalize hx : v.xs[k] = y at *
      clear h4 h1 h2 h3 hat hg hm
      have HYY := Lib.hid hx
      clear hx
      have k0 : (0 : Int) ≤ (i : Int) := by omega
      have k3 : (k : Int) < (v.xs.length : Int) := by omega
      go_enter Try.func44, Try.ntmps44
      go_wp2_with fail
      refine HW.out.mono ?_
      rintro e w1 ⟨rfl, hb⟩
      have HM1 := Lib.hid (HM.out.go hb)
      have HB := Lib.hid hb
      obtain ⟨g, cap, hv, d0, d1⟩ := HM1.out.rAt i HR1.out
      have HV := Lib.hid hv
      have c1 := HM1.out.box.cell 1
      rw [show #[vC, vR][1]? = some vR from rfl, hv] at c1
      obtain ⟨e0, z0⟩ := HM1.out.xAt2 HL2.out k HKL.out HYY.out
      rw [show ((id, v) : Int × RowE).2 = v from rfl] at d1
      obtain ⟨m, hm⟩ : ∃ m, v.xs.length = m := ⟨_, rfl⟩
      obtain ⟨n, hn⟩ : ∃ n, rr.length = n := ⟨_, rfl⟩
      have HNN := Lib.hid hn
      have HMM := Lib.hid hm
      rw [hm] at d1 k3
      rw [hn] at c1 h5
      clear hb hv hm hn h6 h7 hkl d0 hk
      go_wp2_with fail
      refine (HI.out _ HM1.out).mono ?_
      rintro e w2 ⟨rfl, rfl⟩
      go_upto_region 4 with (fail)
      go_still_tail 22, (by kernel_rfl)
      change wpList _ _ _ _ _ w2.drew
      have HMD := Lib.hid (HM1.out.go (below_drew1 (Below.refl _ _)))
      have HBD := Lib.hid (below_drew1 HB.out)
      clear c1 d1 e0 z0
      generalize w2.drew = w3 at *
      obtain ⟨e0, z0⟩ := HMD.out.xAt2 HL2.out k HKL.out HYY.out
      go_wp2_with fail
      go_ret
      rw [HP.out]
      exact rto_set HO.out HOW.out HBD.out HMD.out HL2.out k z HXX2.out
  · have hne2 : (atR S id (k : Int) == 0) = false := beq_eq_false_iff_ne.2 hat
    have HP := Lib.hid (show bump S id (k : Int) x = (atR S id (k : Int), S) by unfold bump; rw [if_neg hat])
    clear hm
    generalize atR S id (k : Int) = q at *
    go_enter Try.func44, Try.ntmps44
    go_wp2_with fail
    refine HW.out.mono ?_
    rintro e w1 ⟨rfl, hb⟩
    go_wp2_with fail
    go_ret
    rw [HP.out]
    exact ⟨rfl, HSTO.out.same hb, Fp.of_below hb _⟩
end Go.Proofs.Ytdobpieiobikpaa.Base
