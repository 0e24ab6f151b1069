/- Same: are two stores the same. Conditions: as each contract says. -/
import Derived.Test.YtdobpieiobikpaaEqR
set_option linter.unusedVariables false
set_option linter.unusedSimpArgs false
namespace Go.Proofs.Ytdobpieiobikpaa.Base
open Go Go.RowKit Go.Proofs.Ytdobpieiobikpaa.Mem Go.Proofs.YtdobpieiobikpaaW.PrintWords Go.Proofs.YtdobpieiobikpaaW.PrintLast
def sameS (S T : St) : Bool := sameL S.c T.c && sameL S.r T.r
theorem SM.rows_ {w : World} {a : Nat} {pc pr : Option Nat} {S : St} {rr : List (Int × RowE)} (h : SM w a pc pr S rr) : Rows w rr := fun p hp => by
  refine ⟨?_, h.rows p hp⟩
  have h1 : (p.1, p.2.xs) ∈ S.r := by rw [h.abs]; exact List.mem_map.2 ⟨p, hp, rfl⟩
  have := (h.ok.rw_ _ h1).2.1
  show p.2.xs.length < 1000000000
  have h2 : p.2.xs.length ≤ 1024 := this
  omega
theorem Rows.go {w w1 : World} {rr : List (Int × RowE)} (h : Rows w rr) (hb : Below w.heap.size w w1) : Rows w1 rr := fun p hp => ⟨(h p hp).1, own_go (h p hp).2 hb⟩
set_option maxHeartbeats 3200000 in
set_option maxRecDepth 100000 in
theorem same_SM (a a' : Nat) (pc pr pc' pr' : Option Nat) (S T : St) (rr rr' : List (Int × RowE)) (w : World) (h : SM w a pc pr S rr) (h' : SM w a' pc' pr' T rr') :
    Calls Try.prog 27 #[ptr a, ptr a'] w fun e w' => e = .returned (.bool (sameS S T)) ∧ Below w.heap.size w w' := by
  have c0 := h.box.cell 0
  have c1 := h.box.cell 1
  have d0 := h'.box.cell 0
  have d1 := h'.box.cell 1
  have X := Lib.hid h.box
  have X' := Lib.hid h'.box
  have HB := Lib.hid (Below.refl w.heap.size w)
  have H48 := Lib.hid (fun (W : World) (hb : Below w.heap.size w W) => eqC_any pc pc' S.c T.c W (h.cm.fp (Fp.of_below hb (fun _ => False)) (fun _ _ e => e)) (h'.cm.fp (Fp.of_below hb (fun _ => False)) (fun _ _ e => e)))
  have H49 := Lib.hid (fun (W : World) (hb : Below w.heap.size w W) => eqR_any pr pr' rr rr' W (h.rm.fp (Fp.of_below hb (fun _ => False)) (fun _ _ e => e)) (h'.rm.fp (Fp.of_below hb (fun _ => False)) (fun _ _ e => e)) (h.rows_.go hb) (h'.rows_.go hb))
  have hS : S.r = absR rr := h.abs
  have hT : T.r = absR rr' := h'.abs
  rw [← hS, ← hT] at H49
  have HV := Lib.hid (show sameS S T = (sameL S.c T.c && sameL S.r T.r) from rfl)
  clear h h' hS hT
  generalize sameL S.c T.c = x at *
  generalize sameL S.r T.r = y at *
  cases x
  · go_enter Try.func27, Try.ntmps27
    go_upto_region 3 with (fail)
    refine start_ (n := 21) (S := (fun W => W.cell? ⟨a, 0, none⟩ = some (.map pc) ∧ W.cell? ⟨a, 1, none⟩ = some (.map pr) ∧ W.cell? ⟨a', 0, none⟩ = some (.map pc') ∧ W.cell? ⟨a', 1, none⟩ = some (.map pr'))) (ds := []) #[false, false, false, false, false, false, false, false, false, false, false, false, false, false, false, false, false, false, false, false, false] (by kernel_rfl) rfl rfl ⟨c0, c1, d0, d1⟩ (fun hHeld => ?_)
    refine pure_ (i := 0) (N := (some 14)) (v := ?_) (a' := ?_) #[true, false, false, false, false, false, false, false, false, false, false, false, false, false, false, false, false, false, false, false, false] rfl rfl (by kernel_rfl) (fun _ _ _ h => h) (Or.inl ⟨by rfl, ?_⟩) ?_ ?_
    rotate_left
    · intro w'
      go_simp
      (try with_reducible rfl)
    rotate_left
    · simp only [Act.put, List.setIfInBounds_toArray, List.set_cons_zero, List.set_cons_succ, i64_w, i32_w]
      rfl
    refine pure_ (i := 1) (N := (some 15)) (v := ?_) (a' := ?_) #[true, true, false, false, false, false, false, false, false, false, false, false, false, false, false, false, false, false, false, false, false] rfl rfl (by kernel_rfl) (fun _ _ _ h => h) (Or.inl ⟨by rfl, ?_⟩) ?_ ?_
    rotate_left
    · intro w'
      go_simp
      (try with_reducible rfl)
    rotate_left
    · simp only [Act.put, List.setIfInBounds_toArray, List.set_cons_zero, List.set_cons_succ, i64_w, i32_w]
      rfl
    refine pure_ (i := 2) (N := (some 16)) (v := ?_) (a' := ?_) #[true, true, true, false, false, false, false, false, false, false, false, false, false, false, false, false, false, false, false, false, false] rfl rfl (by kernel_rfl) (fun _ _ _ h => h) (Or.inl ⟨by rfl, ?_⟩) ?_ ?_
    rotate_left
    · intro w'
      go_simp
      (try with_reducible rfl)
    rotate_left
    · simp only [Act.put, List.setIfInBounds_toArray, List.set_cons_zero, List.set_cons_succ, i64_w, i32_w]
      rfl
    refine take_ (i := 3) (N := (some 17)) (v := ?_) (a' := ?_) #[true, true, true, true, false, false, false, false, false, false, false, false, false, false, false, false, false, false, false, false, false] rfl rfl (by kernel_rfl) (fun _ _ _ h => h) (Or.inl ⟨by rfl, ?_⟩) hHeld ?_ ?_
    rotate_left
    · rintro w' ⟨s0, s1, s2, s3⟩
      go_simp
      (try with_reducible rfl)
    rotate_left
    · simp only [Act.put, List.setIfInBounds_toArray, List.set_cons_zero, List.set_cons_succ, i64_w, i32_w]
      rfl
    refine pure_ (i := 4) (N := (some 18)) (v := ?_) (a' := ?_) #[true, true, true, true, true, false, false, false, false, false, false, false, false, false, false, false, false, false, false, false, false] rfl rfl (by kernel_rfl) (fun _ _ _ h => h) (Or.inl ⟨by rfl, ?_⟩) ?_ ?_
    rotate_left
    · intro w'
      go_simp
      (try with_reducible rfl)
    rotate_left
    · simp only [Act.put, List.setIfInBounds_toArray, List.set_cons_zero, List.set_cons_succ, i64_w, i32_w]
      rfl
    refine pure_ (i := 5) (N := (some 19)) (v := ?_) (a' := ?_) #[true, true, true, true, true, true, false, false, false, false, false, false, false, false, false, false, false, false, false, false, false] rfl rfl (by kernel_rfl) (fun _ _ _ h => h) (Or.inl ⟨by rfl, ?_⟩) ?_ ?_
    rotate_left
    · intro w'
      go_simp
      (try with_reducible rfl)
    rotate_left
    · simp only [Act.put, List.setIfInBounds_toArray, List.set_cons_zero, List.set_cons_succ, i64_w, i32_w]
      rfl
    refine pure_ (i := 6) (N := (some 20)) (v := ?_) (a' := ?_) #[true, true, true, true, true, true, true, false, false, false, false, false, false, false, false, false, false, false, false, false, false] rfl rfl (by kernel_rfl) (fun _ _ _ h => h) (Or.inl ⟨by rfl, ?_⟩) ?_ ?_
    rotate_left
    · intro w'
      go_simp
      (try with_reducible rfl)
    rotate_left
    · simp only [Act.put, List.setIfInBounds_toArray, List.set_cons_zero, List.set_cons_succ, i64_w, i32_w]
      rfl
    refine take_ (i := 7) (N := (some 21)) (v := ?_) (a' := ?_) #[true, true, true, true, true, true, true, true, false, false, false, false, false, false, false, false, false, false, false, false, false] rfl rfl (by kernel_rfl) (fun _ _ _ h => h) (Or.inl ⟨by rfl, ?_⟩) hHeld ?_ ?_
    rotate_left
    · rintro w' ⟨s0, s1, s2, s3⟩
      go_simp
      (try with_reducible rfl)
    rotate_left
    · simp only [Act.put, List.setIfInBounds_toArray, List.set_cons_zero, List.set_cons_succ, i64_w, i32_w]
      rfl
    refine one_ (i := 8) (N := (some 22)) #[true, true, true, true, true, true, true, true, true, false, false, false, false, false, false, false, false, false, false, false, false] rfl rfl (by kernel_rfl) (by decide) (fun K hK => ?_)
    refine goes_ Try.func48 (by kernel_rfl) rfl #[.map pc, .map pc'] (by rfl) rfl rfl (by simp [Act.eval]) ?_
    refine (H48.out _ (below_drew1 HB.out)).mono ?_
    rintro e w1 ⟨rfl, b1⟩
    have HB1 := Lib.hid (below_step (below_drew1 HB.out) b1)
    have E1 := X.out.go HB1.out
    have E2 := X'.out.go HB1.out
    have f0 := E1.cell 0
    have f1 := E1.cell 1
    have g0 := E2.cell 0
    have g1 := E2.cell 1
    refine ⟨_, rfl, hK.out _ _ ⟨f0, f1, g0, g1⟩ (fun hHeld => ?_)⟩
    clear hK K b1 E1 E2
    refine norm_ (a' := ?_) ?_ ?_
    rotate_left
    · show Act.put _ (some 22) _ = _
      simp only [Act.put, List.setIfInBounds_toArray, List.set_cons_zero, List.set_cons_succ, i64_w, i32_w]
      rfl
    refine pure_ (i := 9) (N := (some 23)) (v := ?_) (a' := ?_) #[true, true, true, true, true, true, true, true, true, true, false, false, false, false, false, false, false, false, false, false, false] rfl rfl (by kernel_rfl) (fun _ _ _ h => h) (Or.inl ⟨by rfl, ?_⟩) ?_ ?_
    rotate_left
    · intro w'
      go_simp
      (try with_reducible rfl)
    rotate_left
    · simp only [Act.put, List.setIfInBounds_toArray, List.set_cons_zero, List.set_cons_succ, i64_w, i32_w]
      rfl
    refine pure_ (i := 10) (N := (some 24)) (v := undef) (a' := ?_) #[true, true, true, true, true, true, true, true, true, true, true, false, false, false, false, false, false, false, false, false, false] rfl rfl (by kernel_rfl) (fun _ _ _ h => h) (Or.inr ⟨by rfl, rfl⟩) ?_ ?_
    rotate_left
    · simp only [Act.put, List.setIfInBounds_toArray, List.set_cons_zero, List.set_cons_succ, i64_w, i32_w]
      rfl
    refine pure_ (i := 11) (N := (some 25)) (v := undef) (a' := ?_) #[true, true, true, true, true, true, true, true, true, true, true, true, false, false, false, false, false, false, false, false, false] rfl rfl (by kernel_rfl) (fun _ _ _ h => h) (Or.inr ⟨by rfl, rfl⟩) ?_ ?_
    rotate_left
    · simp only [Act.put, List.setIfInBounds_toArray, List.set_cons_zero, List.set_cons_succ, i64_w, i32_w]
      rfl
    refine pure_ (i := 12) (N := (some 26)) (v := undef) (a' := ?_) #[true, true, true, true, true, true, true, true, true, true, true, true, true, false, false, false, false, false, false, false, false] rfl rfl (by kernel_rfl) (fun _ _ _ h => h) (Or.inr ⟨by rfl, rfl⟩) ?_ ?_
    rotate_left
    · simp only [Act.put, List.setIfInBounds_toArray, List.set_cons_zero, List.set_cons_succ, i64_w, i32_w]
      rfl
    refine pure_ (i := 13) (N := (some 27)) (v := undef) (a' := ?_) #[true, true, true, true, true, true, true, true, true, true, true, true, true, true, false, false, false, false, false, false, false] rfl rfl (by kernel_rfl) (fun _ _ _ h => h) (Or.inr ⟨by rfl, rfl⟩) ?_ ?_
    rotate_left
    · simp only [Act.put, List.setIfInBounds_toArray, List.set_cons_zero, List.set_cons_succ, i64_w, i32_w]
      rfl
    refine pure_ (i := 14) (N := (some 28)) (v := undef) (a' := ?_) #[true, true, true, true, true, true, true, true, true, true, true, true, true, true, true, false, false, false, false, false, false] rfl rfl (by kernel_rfl) (fun _ _ _ h => h) (Or.inr ⟨by rfl, rfl⟩) ?_ ?_
    rotate_left
    · simp only [Act.put, List.setIfInBounds_toArray, List.set_cons_zero, List.set_cons_succ, i64_w, i32_w]
      rfl
    refine pure_ (i := 15) (N := (some 29)) (v := undef) (a' := ?_) #[true, true, true, true, true, true, true, true, true, true, true, true, true, true, true, true, false, false, false, false, false] rfl rfl (by kernel_rfl) (fun _ _ _ h => h) (Or.inr ⟨by rfl, rfl⟩) ?_ ?_
    rotate_left
    · simp only [Act.put, List.setIfInBounds_toArray, List.set_cons_zero, List.set_cons_succ, i64_w, i32_w]
      rfl
    refine pure_ (i := 16) (N := (some 30)) (v := undef) (a' := ?_) #[true, true, true, true, true, true, true, true, true, true, true, true, true, true, true, true, true, false, false, false, false] rfl rfl (by kernel_rfl) (fun _ _ _ h => h) (Or.inr ⟨by rfl, rfl⟩) ?_ ?_
    rotate_left
    · simp only [Act.put, List.setIfInBounds_toArray, List.set_cons_zero, List.set_cons_succ, i64_w, i32_w]
      rfl
    refine pure_ (i := 17) (N := (some 31)) (v := undef) (a' := ?_) #[true, true, true, true, true, true, true, true, true, true, true, true, true, true, true, true, true, true, false, false, false] rfl rfl (by kernel_rfl) (fun _ _ _ h => h) (Or.inr ⟨by rfl, rfl⟩) ?_ ?_
    rotate_left
    · simp only [Act.put, List.setIfInBounds_toArray, List.set_cons_zero, List.set_cons_succ, i64_w, i32_w]
      rfl
    refine one_ (i := 18) (N := (some 32)) #[true, true, true, true, true, true, true, true, true, true, true, true, true, true, true, true, true, true, true, false, false] rfl rfl (by kernel_rfl) (by decide) (fun K hK => ?_)
    refine off_ (by rfl) (hK.out _ _ hHeld (fun hHeld => ?_))
    clear hK K
    refine norm_ (a' := ?_) ?_ ?_
    rotate_left
    · show Act.put _ (some 32) _ = _
      simp only [Act.put, List.setIfInBounds_toArray, List.set_cons_zero, List.set_cons_succ, i64_w, i32_w]
      rfl
    refine pure_ (i := 19) (N := (some 33)) (v := ?_) (a' := ?_) #[true, true, true, true, true, true, true, true, true, true, true, true, true, true, true, true, true, true, true, true, false] rfl rfl (by kernel_rfl) (fun _ _ _ h => h) (Or.inl ⟨by rfl, ?_⟩) ?_ ?_
    rotate_left
    · intro w'
      go_simp
      (try with_reducible rfl)
    rotate_left
    · simp only [Act.put, List.setIfInBounds_toArray, List.set_cons_zero, List.set_cons_succ, i64_w, i32_w]
      rfl
    refine pure_ (i := 20) (N := (some 4)) (v := ?_) (a' := ?_) #[true, true, true, true, true, true, true, true, true, true, true, true, true, true, true, true, true, true, true, true, true] rfl rfl (by kernel_rfl) (fun _ _ _ h => h) (Or.inl ⟨by rfl, ?_⟩) ?_ ?_
    rotate_left
    · intro w'
      go_simp
      (try with_reducible rfl)
    rotate_left
    · simp only [Act.put, List.setIfInBounds_toArray, List.set_cons_zero, List.set_cons_succ, i64_w, i32_w]
      rfl
    refine done_ (by kernel_rfl) ?_
    clear hHeld
    go_wp2_with fail
    go_ret
    rw [HV.out]
    exact ⟨rfl, HB1.out⟩
  · go_enter Try.func27, Try.ntmps27
    go_upto_region 3 with (fail)
    go_region_held3 (fun W => (W.cell? ⟨a, 0, none⟩ = some (.map pc) ∧ W.cell? ⟨a, 1, none⟩ = some (.map pr)) ∧ (W.cell? ⟨a', 0, none⟩ = some (.map pc') ∧ W.cell? ⟨a', 1, none⟩ = some (.map pr'))) (go_keep) (first
      | ((go_simp; go_at_call 48; (with_reducible refine (H48.out _ (by first | exact HB.out | exact below_drew1 HB.out)).mono ?_); rintro e w1 ⟨rfl, b1⟩; have HB1 := (by first | exact Lib.hid (below_step HB.out b1) | exact Lib.hid (below_step (below_drew1 HB.out) b1) : Hid (Below w.heap.size w w1)); have E1 := X.out.go HB1.out; have E2 := X'.out.go HB1.out; have c0 := E1.cell 0; have c1 := E1.cell 1; have d0 := E2.cell 0; have d1 := E2.cell 1; clear E1 E2 b1))
      | ((go_at_call 49; (with_reducible refine (H49.out _ (by first | exact HB1.out | exact below_drew1 HB1.out)).mono ?_); rintro e w2 ⟨rfl, b1⟩; have HB2 := (by first | exact Lib.hid (below_step HB1.out b1) | exact Lib.hid (below_step (below_drew1 HB1.out) b1) : Hid (Below w.heap.size w w2)); have E1 := X.out.go HB2.out; have E2 := X'.out.go HB2.out; have c0 := E1.cell 0; have c1 := E1.cell 1; have d0 := E2.cell 0; have d1 := E2.cell 1; clear E1 E2 b1)))
    go_wp2_with fail
    go_ret
    rw [HV.out]
    exact ⟨rfl, HB2.out⟩
theorem same_any (a a' : Nat) (O O' : Nat → Prop) (S T : St) (w : World) (h : Sto w a O S) (h' : Sto w a' O' T) : Calls Try.prog 27 #[ptr a, ptr a'] w fun e w' => e = .returned (.bool (sameS S T)) ∧ Below w.heap.size w w' := by
  obtain ⟨_, pc, pr, rr, h, _⟩ := h
  obtain ⟨_, pc', pr', rr', h', _⟩ := h'
  exact same_SM a a' pc pr pc' pr' S T rr rr' w h h'
end Go.Proofs.Ytdobpieiobikpaa.Base
