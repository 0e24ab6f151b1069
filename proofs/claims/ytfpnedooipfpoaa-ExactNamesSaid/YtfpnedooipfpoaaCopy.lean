/- A copy: Copy (18). Conditions: as the contract says. -/
import Derived.Test.YtfpnedooipfpoaaKeys
set_option linter.unusedVariables false
set_option linter.unusedSimpArgs false
namespace Go.Proofs.Ytfpnedooipfpoaa.Base
open Go Go.RowKit Go.Proofs.Ytfpnedooipfpoaa Go.Proofs.Ytfpnedooipfpoaa.Ex Go.Proofs.Ytfpnedooipfpoaa.Mem Go.Proofs.Ytfpnedooipfpoaa.Math Go.Proofs.YtfpnedooipfpoaaW.PrintWords Go.Proofs.YtfpnedooipfpoaaW.PrintLast Go.Proofs.Ytfpnedooipfpoaa.PExactHalf
set_option maxHeartbeats 3200000 in
theorem copy_any (a : Nat) (O : Nat → Prop) (T : Tb) (w : World) (h : Tto w a O T) : Calls Try.prog 18 #[ptr a] w fun e w' => ∃ a', e = .returned (ptr a') ∧ Tto w' a' (New w w') T ∧ Below w.heap.size w w' := by
  obtain ⟨h1, g, cap, h2, h3, h4, h5, h6, h7⟩ := h
  have HG := Lib.hid h3
  have HP := Lib.hid h4
  have HS := Lib.hid h5
  have hpos := h4.pos
  have c0 := h2.box.cell 0
  rw [show #[Value.slice (some ⟨g, 0, none⟩) T.L.length cap, .int .i64 (T.n : Int)][0]? = some (.slice (some ⟨g, 0, none⟩) T.L.length cap) from rfl] at c0
  have c1 := h2.box.cell 1
  rw [show #[Value.slice (some ⟨g, 0, none⟩) T.L.length cap, .int .i64 (T.n : Int)][1]? = some (.int .i64 (T.n : Int)) from rfl] at c1
  have HCL := Lib.hid (fun W (hW : Below w.heap.size w W) => clone_any g cap 0 T.L W hpos.1 hpos.2 (h2.go hW).row)
  obtain ⟨m, hm⟩ : ∃ m, T.L.length = m := ⟨_, rfl⟩
  have HMM := Lib.hid hm
  rw [hm] at c0 HCL
  clear hm h1 h2 h3 h4 h5 h6 h7 hpos
  have HKEEP := Lib.hid (fun W (hW : Below w.heap.size w W) => (show W.cell? ⟨a, 0, none⟩ = some (.slice (some ⟨g, 0, none⟩) m cap) ∧ W.cell? ⟨a, 1, none⟩ = some (.int .i64 (T.n : Int)) from
    ⟨(hW.cell (World.block_lt_of_cell? _ _ c0)).trans c0, (hW.cell (World.block_lt_of_cell? _ _ c1)).trans c1⟩))
  go_enter Try.func18, Try.ntmps18
  go_upto_region 3 with (fail)
  refine start_ (n := 12) (S := (fun W => W.cell? ⟨a, 0, none⟩ = some (.slice (some ⟨g, 0, none⟩) m cap) ∧ W.cell? ⟨a, 1, none⟩ = some (.int .i64 (T.n : Int)))) (ds := []) #[false, false, false, false, false, false, false, false, false, false, false, false] (by kernel_rfl) rfl rfl ⟨c0, c1⟩ (fun hHeld => ?_)
  refine pure_ (i := 0) (N := (some 5)) (v := ?_) (a' := ?_) #[true, false, false, false, false, false, false, false, false, false, false, false] rfl rfl (by kernel_rfl) (fun _ _ _ h => h) (Or.inl ⟨by rfl, ?_⟩) ?_ ?_
  rotate_left
  · intro w'
    go_simp
    (try with_reducible rfl)
  rotate_left
  · simp only [Act.put, List.setIfInBounds_toArray, List.set_cons_zero, List.set_cons_succ, i64_w, i32_w]
    rfl
  refine pure_ (i := 1) (N := (some 6)) (v := ?_) (a' := ?_) #[true, true, false, false, false, false, false, false, false, false, false, false] rfl rfl (by kernel_rfl) (fun _ _ _ h => h) (Or.inl ⟨by rfl, ?_⟩) ?_ ?_
  rotate_left
  · intro w'
    go_simp
    (try with_reducible rfl)
  rotate_left
  · simp only [Act.put, List.setIfInBounds_toArray, List.set_cons_zero, List.set_cons_succ, i64_w, i32_w]
    rfl
  refine pure_ (i := 2) (N := (some 7)) (v := ?_) (a' := ?_) #[true, true, true, false, false, false, false, false, false, false, false, false] rfl rfl (by kernel_rfl) (fun _ _ _ h => h) (Or.inl ⟨by rfl, ?_⟩) ?_ ?_
  rotate_left
  · intro w'
    go_simp
    (try with_reducible rfl)
  rotate_left
  · simp only [Act.put, List.setIfInBounds_toArray, List.set_cons_zero, List.set_cons_succ, i64_w, i32_w]
    rfl
  refine take_ (i := 3) (N := (some 8)) (v := ?_) (a' := ?_) #[true, true, true, true, false, false, false, false, false, false, false, false] rfl rfl (by kernel_rfl) (fun _ _ _ h => h) (Or.inl ⟨by rfl, ?_⟩) hHeld ?_ ?_
  rotate_left
  · rintro w' ⟨s0, s1⟩
    go_simp
    (try with_reducible rfl)
  rotate_left
  · simp only [Act.put, List.setIfInBounds_toArray, List.set_cons_zero, List.set_cons_succ, i64_w, i32_w]
    rfl
  refine pure_ (i := 5) (N := (some 10)) (v := ?_) (a' := ?_) #[true, true, true, true, false, true, false, false, false, false, false, false] rfl rfl (by kernel_rfl) (fun _ _ _ h => h) (Or.inl ⟨by rfl, ?_⟩) ?_ ?_
  rotate_left
  · intro w'
    go_simp
    (try with_reducible rfl)
  rotate_left
  · simp only [Act.put, List.setIfInBounds_toArray, List.set_cons_zero, List.set_cons_succ, i64_w, i32_w]
    rfl
  refine pure_ (i := 6) (N := (some 11)) (v := ?_) (a' := ?_) #[true, true, true, true, false, true, true, false, false, false, false, false] rfl rfl (by kernel_rfl) (fun _ _ _ h => h) (Or.inl ⟨by rfl, ?_⟩) ?_ ?_
  rotate_left
  · intro w'
    go_simp
    (try with_reducible rfl)
  rotate_left
  · simp only [Act.put, List.setIfInBounds_toArray, List.set_cons_zero, List.set_cons_succ, i64_w, i32_w]
    rfl
  refine pure_ (i := 7) (N := (some 12)) (v := ?_) (a' := ?_) #[true, true, true, true, false, true, true, true, false, false, false, false] rfl rfl (by kernel_rfl) (fun _ _ _ h => h) (Or.inl ⟨by rfl, ?_⟩) ?_ ?_
  rotate_left
  · intro w'
    go_simp
    (try with_reducible rfl)
  rotate_left
  · simp only [Act.put, List.setIfInBounds_toArray, List.set_cons_zero, List.set_cons_succ, i64_w, i32_w]
    rfl
  refine take_ (i := 8) (N := (some 13)) (v := ?_) (a' := ?_) #[true, true, true, true, false, true, true, true, true, false, false, false] rfl rfl (by kernel_rfl) (fun _ _ _ h => h) (Or.inl ⟨by rfl, ?_⟩) hHeld ?_ ?_
  rotate_left
  · rintro w' ⟨s0, s1⟩
    go_simp
    (try with_reducible rfl)
  rotate_left
  · simp only [Act.put, List.setIfInBounds_toArray, List.set_cons_zero, List.set_cons_succ, i64_w, i32_w]
    rfl
  refine one_ (i := 4) (N := (some 9)) #[true, true, true, true, true, true, true, true, true, false, false, false] rfl rfl (by kernel_rfl) (by decide) (fun K hK => ?_)
  refine goes_ Try.func25 (by kernel_rfl) rfl #[.slice (some ⟨g, 0, none⟩) m cap] (by rfl) rfl rfl (by simp [Act.eval]) ?_
  refine (HCL.out _ (below_drew1 (Below.refl _ _))).mono ?_
  rintro e w1 ⟨g', c', rfl, ho, hb⟩
  have HB1 := Lib.hid (below_step (below_drew1 (Below.refl w.heap.size w)) hb)
  have HR1 := Lib.hid (own_mono ho (show w.heap.size ≤ w.drew.heap.size from Nat.le_refl _))
  have F0 := HKEEP.out _ HB1.out
  refine ⟨_, rfl, hK.out _ _ F0 (fun hHeld => ?_)⟩
  clear hK K hb ho F0
  refine norm_ (a' := ?_) ?_ ?_
  rotate_left
  · show Act.put _ (some 9) _ = _
    simp only [Act.put, List.setIfInBounds_toArray, List.set_cons_zero, List.set_cons_succ, i64_w, i32_w]
    rfl

  refine pure_ (i := 9) (N := (some 14)) (v := ?_) (a' := ?_) #[true, true, true, true, true, true, true, true, true, true, false, false] rfl rfl (by kernel_rfl) (fun _ _ _ h => h) (Or.inl ⟨by rfl, ?_⟩) ?_ ?_
  rotate_left
  · intro w'
    go_simp
    (try with_reducible rfl)
  rotate_left
  · simp only [Act.put, List.setIfInBounds_toArray, List.set_cons_zero, List.set_cons_succ, i64_w, i32_w]
    rfl
  refine one_ (i := 10) (N := (some 15)) #[true, true, true, true, true, true, true, true, true, true, true, false] rfl rfl (by kernel_rfl) (by decide) (fun K hK => ?_)
  refine value_ (w1 := w1.alloc (.cells #[.slice (some ⟨g', 0, none⟩) m c', .int .i64 (T.n : Int)] 42)) (v := .pointer (some ⟨w1.heap.size, 0, none⟩)) (by rfl) rfl (by go_simp) ?_
  have HB2 := Lib.hid (below_alloc HB1.out (.cells #[.slice (some ⟨g', 0, none⟩) m c', .int .i64 (T.n : Int)] 42))
  have F0 := HKEEP.out _ HB2.out
  refine hK.out _ _ F0 (fun hHeld => ?_)
  clear hK K F0
  refine norm_ (a' := ?_) ?_ ?_
  rotate_left
  · show Act.put _ (some 15) _ = _
    simp only [Act.put, List.setIfInBounds_toArray, List.set_cons_zero, List.set_cons_succ, i64_w, i32_w]
    rfl
  refine pure_ (i := 11) (N := (some 2)) (v := ?_) (a' := ?_) #[true, true, true, true, true, true, true, true, true, true, true, true] rfl rfl (by kernel_rfl) (fun _ _ _ h => h) (Or.inl ⟨by rfl, ?_⟩) ?_ ?_
  rotate_left
  · intro w'
    go_simp
    (try with_reducible rfl)
  rotate_left
  · simp only [Act.put, List.setIfInBounds_toArray, List.set_cons_zero, List.set_cons_succ, i64_w, i32_w]
    rfl
  refine done_ (by kernel_rfl) ?_
  clear hHeld
  go_wp2_with fail
  go_ret
  have hrow := HR1.out.alloc (.cells #[.slice (some ⟨g', 0, none⟩) m c', .int .i64 (T.n : Int)] 42)
  have hg' := HR1.out.lt g' rfl
  have hsz : (w1.alloc (.cells #[.slice (some ⟨g', 0, none⟩) m c', .int .i64 (T.n : Int)] 42)).heap.size = w1.heap.size + 1 := by simp
  have hb1 := HB1.out.size
  refine ⟨w1.heap.size, rfl, ⟨fun k hk => hk.2, g', c', ⟨?_, ?_⟩, HG.out, HP.out, HS.out, ⟨hb1, by omega⟩, ⟨hg'.1, by omega⟩⟩, HB2.out⟩
  · rw [HMM.out]
    exact Blk.new w1 42 _
  · rw [HMM.out]
    exact own_mono hrow (Nat.zero_le _)
end Go.Proofs.Ytfpnedooipfpoaa.Base
