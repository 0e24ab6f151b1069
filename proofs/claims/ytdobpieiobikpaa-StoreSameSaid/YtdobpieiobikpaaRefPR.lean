/- The document's store: a row more. Conditions: as the contract says. -/
import Derived.Test.YtdobpieiobikpaaRefDelR
import Derived.Test.YtdobpieiobikpaaRefS
set_option linter.unusedVariables false
set_option linter.unusedSimpArgs false
namespace Go.Proofs.Ytdobpieiobikpaa.Base
open Go Go.RowKit Go.Proofs.Ytdobpieiobikpaa.Mem Go.Proofs.YtdobpieiobikpaaW.PrintWords Go.Proofs.YtdobpieiobikpaaW.PrintLast
structure PS where
  v0 : Value
  v1 : Value
  vr : Value
  vl : Value
/-- What the two chains have made so far. -/
structure PF (N : Nat) (wd : World) (a b : Nat) (rr : List (Int × RowE)) (n : Nat) (id : Int) (s : PS) (w : World) : Prop where
  below : Below N wd w
  a1 : a = 1 → w.ownsRow N 80 2 s.v0 0 []
  a2 : a = 2 → w.ownsRow N 80 2 s.v1 rr.length (rc rr)
  b1 : 1 ≤ b → ∃ gr, s.vr = .slice (some ⟨gr, 0, none⟩) n n ∧ w.ownsRow N 22 1 s.vr n ((List.replicate n (0 : Int)).map (Value.int .u64))
  b2 : b = 2 → ∃ gl, s.vl = .slice (some ⟨gl, 0, none⟩) 1 1 ∧ w.ownsRow N 80 2 s.vl 1 [.int .i64 id, s.vr]
  d1 : a = 1 → b = 2 → s.v0.ownBlock ≠ s.vl.ownBlock
section
variable {N a b n : Nat} {wd w : World} {rr : List (Int × RowE)} {id : Int} {s : PS}
theorem PF.start (wd : World) (rr : List (Int × RowE)) (n : Nat) (id : Int) : PF wd.heap.size wd 0 0 rr n id ⟨undef, undef, undef, undef⟩ wd :=
  ⟨Below.refl _ _, by omega, by omega, by omega, by omega, by omega⟩
theorem PF.A1 (h : PF N wd 0 b rr n id s w) (hN : N ≤ w.heap.size) : PF N wd 1 b rr n id { s with v0 := .slice (some ⟨w.heap.size, 0, none⟩) 0 0 } (w.alloc (.cells #[] 80)) :=
  ⟨h.below.alloc hN _, fun _ => by simpa using World.ownsRow_lit (size := 2) (base := N) w (e := 80) #[] 0 hN (by decide) rfl, by omega,
    fun hb => by obtain ⟨g, e, ho⟩ := h.b1 hb; exact ⟨g, e, ho.alloc _⟩, fun hb => by obtain ⟨g, e, ho⟩ := h.b2 hb; exact ⟨g, e, ho.alloc _⟩,
    fun _ hb => by
      obtain ⟨g, e, ho⟩ := h.b2 hb
      have := (ho.lt g (by rw [e]; rfl)).2
      show some w.heap.size ≠ s.vl.ownBlock
      rw [e]
      show some w.heap.size ≠ some g
      intro hh
      injection hh with hh
      omega⟩
theorem PF.A2 {v1 : Value} {w2 : World} (h : PF N wd 1 b rr n id s w) (hN : N ≤ w.heap.size) (ho : w2.ownsRow N 80 2 v1 rr.length (rc rr)) (hg : w.grownBy w2 s.v0.ownBlock) : PF N wd 2 b rr n id { s with v1 := v1 } w2 :=
  ⟨h.below.grown hg hN (fun j e => ((h.a1 rfl).lt j e).1), by omega, fun _ => ho,
    fun hb => by obtain ⟨g, e, ho'⟩ := h.b1 hb; exact ⟨g, e, own_fp ho' (Fp.of_grown hg) (fun k e1 e2 => own_types ho' (h.a1 rfl) (by decide) e2 e1)⟩,
    fun hb => by obtain ⟨g, e, ho'⟩ := h.b2 hb; exact ⟨g, e, own_fp ho' (Fp.of_grown hg) (fun k e1 e2 => h.d1 rfl hb (e2.trans e1.symm))⟩, by omega⟩
theorem PF.B1 (h : PF N wd a 0 rr n id s w) (hN : N ≤ w.heap.size) (hn : n ≤ 1024) : PF N wd a 1 rr n id { s with vr := .slice (some ⟨w.heap.size, 0, none⟩) n n } (w.alloc (.cells (madeCells #[.int .u64 0] n) 22)) :=
  ⟨h.below.alloc hN _, fun ha => (h.a1 ha).alloc _, fun ha => (h.a2 ha).alloc _, fun _ => ⟨_, rfl, by
    have hown := World.ownsRow_lit (base := N) (e := 22) (size := 1) w (madeCells #[.int .u64 0] n) n hN (by unfold maxLen; omega) (by rw [size_madeCells, Nat.mul_one])
    rw [toList_madeCells_one] at hown
    rw [List.map_replicate]
    exact hown⟩, by omega, by omega⟩
theorem PF.B2 (h : PF N wd a 1 rr n id s w) (hN : N ≤ w.heap.size) : PF N wd a 2 rr n id { s with vl := .slice (some ⟨w.heap.size, 0, none⟩) 1 1 } (w.alloc (.cells #[.int .i64 id, s.vr] 80)) :=
  ⟨h.below.alloc hN _, fun ha => (h.a1 ha).alloc _, fun ha => (h.a2 ha).alloc _, fun hb => by obtain ⟨g, e, ho⟩ := h.b1 (Nat.le_refl _); exact ⟨g, e, ho.alloc _⟩,
    fun _ => ⟨_, rfl, by simpa using World.ownsRow_lit (size := 2) (base := N) w (e := 80) #[.int .i64 id, s.vr] 1 hN (by decide) rfl⟩,
    fun ha _ => by
      intro hh
      have := ((h.a1 ha).lt w.heap.size (by rw [hh]; rfl)).2
      omega⟩
end
set_option maxHeartbeats 32000000 in
set_option maxRecDepth 100000 in
theorem rputR_any (a : Nat) (O : Nat → Prop) (S : St) (id size : Int) (w : World) (h : Rto w a O S) (hl : S.r.length < 1000000) :
    Calls Try.prog 41 #[ptr a, .agg #[.int .i64 id, .int .i64 size]] w (RDid w a O (putR S id size)) := by
  have hbA : Below w.heap.size w (w.alloc (.cells #[.int .i64 id, .int .i64 size] 65)) := (Below.refl _ _).alloc (Nat.le_refl _) _
  have hX := Blk.new w 65 #[.int .i64 id, .int .i64 size]
  have HSTO := Lib.hid h
  obtain ⟨hO, vC, vR, rr, hm, hown⟩ := h
  have HMA := Lib.hid (hm.go hbA)
  have HM := Lib.hid hm
  have HC := Lib.hid (idxR_any a vC vR S rr id _ HMA.out)
  have HOW := Lib.hid hown
  have HO := Lib.hid hO
  have HBA := Lib.hid hbA
  have HX := Lib.hid hX
  have q0 := hX.cell 0
  have q1 := hX.cell 1
  clear hown hO hbA hX
  rcases hm.findR id with ⟨h1, h2⟩ | ⟨i, v, h1, h2, h3, h4, h5, -, -⟩
  · rw [h1] at HC
    by_cases hsz : size < 1 ∨ 1024 < size
    · have HP := Lib.hid (show putR S id size = (1, S) by unfold putR; rw [h2]; exact if_pos hsz)
      have hcase : (size < 1) ∨ (¬ size < 1 ∧ 1024 < size) := by omega
      clear hsz h1 h2 hm
      rcases hcase with h1 | ⟨h1, h2⟩
      all_goals
        go_enter Try.func41, Try.ntmps41
        go_wp2_with fail
        refine HC.out.mono ?_
        rintro e w1 ⟨rfl, rfl⟩
        go_wp2_with fail
        go_ret
        rw [HP.out]
        exact ⟨rfl, HSTO.out.same HBA.out, Fp.of_below HBA.out _⟩
    · obtain ⟨n, hn⟩ : ∃ n : Nat, size = (n : Int) := ⟨size.toNat, by omega⟩
      subst hn
      have hn1 : 1 ≤ n := by omega
      have hn1024 : n ≤ 1024 := by omega
      have hae : absR (rr ++ [(id, (⟨0, n, List.replicate n 0⟩ : RowE))]) = putE S.r id (List.replicate n 0) := by
        rw [putE_new h2, hm.abs]
        unfold absR
        rw [List.map_append]
        rfl
      have HP := Lib.hid (show ∀ g, putR S id (n : Int) = (0, { S with r := absR (rr ++ [(id, ⟨g, n, List.replicate n 0⟩)]) }) from fun g => by
        unfold putR; rw [h2]
        show (if (n : Int) < 1 ∨ 1024 < (n : Int) then _ else _) = _
        rw [if_neg hsz, Int.toNat_natCast, ← hae]
        unfold absR
        rw [List.map_append, List.map_append]
        rfl)
      have HOK := Lib.hid (show ∀ g, St.ok { S with r := absR (rr ++ [(id, ⟨g, n, List.replicate n 0⟩)]) } from fun g => by
        have := hm.ok.putR id (List.replicate n 0) ⟨by rw [List.length_replicate]; exact hn1, by rw [List.length_replicate]; exact hn1024, fun x hx => by rw [(List.mem_replicate.1 hx).2]; unfold u64ok; decide⟩
        rw [← hae] at this
        unfold absR at this ⊢
        rw [List.map_append] at this ⊢
        exact this)
      have hs1 : ¬ (n : Int) < 1 := by omega
      have hs2 : ¬ 1024 < (n : Int) := by omega
      have hrl : rr.length < 1000000 := by
        have e := congrArg List.length hm.abs
        unfold absR at e
        rw [List.length_map] at e
        omega
      obtain ⟨A0, cp, hv, hle, hmx⟩ := own_form2 hm.rm
      obtain ⟨nn, hnn⟩ : ∃ nn, rr.length = nn := ⟨_, rfl⟩
      have HB1 := Lib.hid (show 0 + nn ≤ maxLen ∧ (0 + nn) * 32 ≤ 140737488355328 ∧ nn + 1 ≤ maxLen ∧ (nn + 1) * 32 ≤ 140737488355328 by unfold maxLen; omega)
      have HNN := Lib.hid hnn
      rw [hnn] at hv hle hmx
      have HV := Lib.hid hv
      have HN24 := Lib.hid hn1024
      have hMK : Hid (∀ W : World, (Instr.makeSlice 30 (.int .i64 (n : Int)) (.int .i64 (n : Int))).run Try.prog W = .ok (.slice (some ⟨W.heap.size, 0, none⟩) n n) (W.alloc (.cells (madeCells #[.int .u64 0] n) 22))) := Lib.hid (fun W => make30 n hn1024 W)
      have c1 := HMA.out.box.cell 1
      rw [show #[vC, vR][1]? = some vR from rfl, hv] at c1
      obtain ⟨iE, hiE, hz0, hz1, hz2⟩ := info_parts info80
      have HQW := Lib.hid (show w.heap.size ≤ w.heap.size from Nat.le_refl _)
      clear h1 h2 hm hsz hae hv hle hmx hnn hrl hl hn1024
      go_enter Try.func41, Try.ntmps41
      go_wp2_with fail
      refine HC.out.mono ?_
      rintro e w1 ⟨rfl, rfl⟩
      go_upto_region 5 with (fail)
      have HMD := Lib.hid (HMA.out.go (below_drew1 (Below.refl _ _)))
      have HXD := Lib.hid (HX.out.go (below_drew1 (Below.refl _ _)))
      have HBD := Lib.hid (below_drew1 HBA.out)
      generalize hqq : w.heap.size = q at HX HXD q0 q1 ⊢
      generalize w.alloc (.cells #[.int .i64 id, .int .i64 (n : Int)] 65) = w1 at *
      refine start_ (n := 18) (S := (fun W => W.cell? ⟨a, 1, none⟩ = some (.slice A0 nn cp) ∧ W.cell? ⟨q, 0, none⟩ = some (.int .i64 id) ∧ W.cell? ⟨q, 1, none⟩ = some (.int .i64 (n : Int)))) (ds := [17]) #[false, false, false, false, false, false, false, false, false, false, false, false, false, false, false, false, false, false] (by kernel_rfl) rfl rfl ⟨c1, q0, q1⟩ (fun hHeld => ?_)
      refine pure_ (i := 0) (N := (some 18)) (v := ?_) (a' := ?_) #[true, false, false, false, false, false, false, false, false, false, false, false, false, false, false, false, false, false] rfl rfl (by kernel_rfl) (fun _ _ _ h => h) (Or.inl ⟨by rfl, ?_⟩) ?_ ?_
      rotate_left
      · intro w'
        go_simp
        (try with_reducible rfl)
      rotate_left
      · simp only [Act.put, List.setIfInBounds_toArray, List.set_cons_zero, List.set_cons_succ, i64_w, i32_w]
        rfl
      refine pure_ (i := 2) (N := (some 20)) (v := ?_) (a' := ?_) #[true, false, true, false, false, false, false, false, false, false, false, false, false, false, false, false, false, false] rfl rfl (by kernel_rfl) (fun _ _ _ h => h) (Or.inl ⟨by rfl, ?_⟩) ?_ ?_
      rotate_left
      · intro w'
        go_simp
        (try with_reducible rfl)
      rotate_left
      · simp only [Act.put, List.setIfInBounds_toArray, List.set_cons_zero, List.set_cons_succ, i64_w, i32_w]
        rfl
      refine pure_ (i := 3) (N := (some 21)) (v := ?_) (a' := ?_) #[true, false, true, true, false, false, false, false, false, false, false, false, false, false, false, false, false, false] rfl rfl (by kernel_rfl) (fun _ _ _ h => h) (Or.inl ⟨by rfl, ?_⟩) ?_ ?_
      rotate_left
      · intro w'
        go_simp
        (try with_reducible rfl)
      rotate_left
      · simp only [Act.put, List.setIfInBounds_toArray, List.set_cons_zero, List.set_cons_succ, i64_w, i32_w]
        rfl
      refine pure_ (i := 4) (N := (some 22)) (v := ?_) (a' := ?_) #[true, false, true, true, true, false, false, false, false, false, false, false, false, false, false, false, false, false] rfl rfl (by kernel_rfl) (fun _ _ _ h => h) (Or.inl ⟨by rfl, ?_⟩) ?_ ?_
      rotate_left
      · intro w'
        go_simp
        (try with_reducible rfl)
      rotate_left
      · simp only [Act.put, List.setIfInBounds_toArray, List.set_cons_zero, List.set_cons_succ, i64_w, i32_w]
        rfl
      refine take_ (i := 5) (N := (some 23)) (v := ?_) (a' := ?_) #[true, false, true, true, true, true, false, false, false, false, false, false, false, false, false, false, false, false] rfl rfl (by kernel_rfl) (fun _ _ _ h => h) (Or.inl ⟨by rfl, ?_⟩) hHeld ?_ ?_
      rotate_left
      · rintro w' ⟨s0, s1, s2⟩
        go_simp
        (try with_reducible rfl)
      rotate_left
      · simp only [Act.put, List.setIfInBounds_toArray, List.set_cons_zero, List.set_cons_succ, i64_w, i32_w]
        rfl
      refine pure_ (i := 7) (N := (some 25)) (v := ?_) (a' := ?_) #[true, false, true, true, true, true, false, true, false, false, false, false, false, false, false, false, false, false] rfl rfl (by kernel_rfl) (fun _ _ _ h => h) (Or.inl ⟨by rfl, ?_⟩) ?_ ?_
      rotate_left
      · intro w'
        go_simp
        (try with_reducible rfl)
      rotate_left
      · simp only [Act.put, List.setIfInBounds_toArray, List.set_cons_zero, List.set_cons_succ, i64_w, i32_w]
        rfl
      refine take_ (i := 8) (N := (some 26)) (v := ?_) (a' := ?_) #[true, false, true, true, true, true, false, true, true, false, false, false, false, false, false, false, false, false] rfl rfl (by kernel_rfl) (fun _ _ _ h => h) (Or.inl ⟨by rfl, ?_⟩) hHeld ?_ ?_
      rotate_left
      · rintro w' ⟨s0, s1, s2⟩
        go_simp
        (try with_reducible rfl)
      rotate_left
      · simp only [Act.put, List.setIfInBounds_toArray, List.set_cons_zero, List.set_cons_succ, i64_w, i32_w]
        rfl
      refine pure_ (i := 9) (N := (some 27)) (v := ?_) (a' := ?_) #[true, false, true, true, true, true, false, true, true, true, false, false, false, false, false, false, false, false] rfl rfl (by kernel_rfl) (fun _ _ _ h => h) (Or.inl ⟨by rfl, ?_⟩) ?_ ?_
      rotate_left
      · intro w'
        go_simp
        (try with_reducible rfl)
      rotate_left
      · simp only [Act.put, List.setIfInBounds_toArray, List.set_cons_zero, List.set_cons_succ, i64_w, i32_w]
        rfl
      refine take_ (i := 10) (N := (some 28)) (v := ?_) (a' := ?_) #[true, false, true, true, true, true, false, true, true, true, true, false, false, false, false, false, false, false] rfl rfl (by kernel_rfl) (fun _ _ _ h => h) (Or.inl ⟨by rfl, ?_⟩) hHeld ?_ ?_
      rotate_left
      · rintro w' ⟨s0, s1, s2⟩
        go_simp
        (try with_reducible rfl)
      rotate_left
      · simp only [Act.put, List.setIfInBounds_toArray, List.set_cons_zero, List.set_cons_succ, i64_w, i32_w]
        rfl
      generalize w1.drew = wd at *
      have HVR := Lib.hid (fun W (hW : Below wd.heap.size wd W) => (show W.ownsRow 0 80 2 (.slice A0 nn cp) nn (rc rr) from by have := (HMD.out.go hW).rm; rw [HV.out, HNN.out] at this; exact this))
      have hS := Lib.hid (fun W (hW : Below wd.heap.size wd W) => (show W.cell? ⟨a, 1, none⟩ = some (.slice A0 nn cp) ∧ W.cell? ⟨q, 0, none⟩ = some (.int .i64 id) ∧ W.cell? ⟨q, 1, none⟩ = some (.int .i64 (n : Int)) from ⟨by have := (HMD.out.go hW).box.cell 1; rw [show #[vC, vR][1]? = some vR from rfl, HV.out] at this; exact this, (HXD.out.go hW).cell 0, (HXD.out.go hW).cell 1⟩))
      clear c1 q0 q1 hHeld
      refine join_ 4 #[true, true, true, true, true, true, true, true, true, true, true, true, true, true, false, false, false, false] (fun s : PS => [(19, s.v0), (24, s.v1), (29, s.vr), (30, .agg #[.int .i64 id, s.vr]), (31, s.vl)]) (fun s W => PF wd.heap.size wd 2 2 rr n id s W) ?_ (fun H22 => ?_)
      · rintro ⟨v0, v1, vr, vl⟩ W F
        have hNW : wd.heap.size ≤ W.heap.size := F.below.size
        have hHeld := hS.out W F.below
        refine norm_ (a' := ?_) ?_ ?_
        rotate_left
        · simp only [putAll, Act.put, List.setIfInBounds_toArray, List.set_cons_zero, List.set_cons_succ]
          rfl
        refine one_ (i := 14) (N := (some 32)) #[true, true, true, true, true, true, true, true, true, true, true, true, true, true, true, false, false, false] rfl rfl (by kernel_rfl) (by decide) (fun K hK => ?_)
        obtain ⟨gr, hvr, hor⟩ := F.b1 (by decide)
        obtain ⟨gl, hvl, hol⟩ := F.b2 rfl
        have hvr : vr = .slice (some ⟨gr, 0, none⟩) n n := hvr
        have hvl : vl = .slice (some ⟨gl, 0, none⟩) 1 1 := hvl
        subst hvr hvl
        obtain ⟨n0, n1, n2⟩ := own_all hol
        have HO1 := F.a2 rfl
        obtain ⟨v2, w4, hr, O2, G2, -, -⟩ := run_app (P := Try.prog) W wd.heap.size 46 46 80 iE _ 2 32 Try.underlying46 hiE hz0 hz1 hz2 rfl (by decide) v1 rr.length (rc rr) (F.a2 rfl) (some ⟨gl, 0, none⟩) 1 1 _ n0 n1 n2 (fun u hu => rc_one [(id, (⟨gr, n, List.replicate n 0⟩ : RowE))] u (by simpa [rc, rCells, rVal] using hu)) (by rw [HNN.out]; exact HB1.out.2.2.1) (by rw [HNN.out]; exact HB1.out.2.2.2) hNW
        obtain ⟨A2, c2, rfl, -⟩ := own_form O2
        refine value_ (w1 := w4) (v := _) (by rfl) rfl (exec_app (.tmp 24) (.tmp 31) 46 rfl (by rfl) (by rfl) hr) ?_
        have B4 : Below wd.heap.size wd w4 := F.below.grown G2 hNW (fun j e => (HO1.lt j e).1)
        refine hK.out _ _ (hS.out _ B4) (fun hHeld => ?_)
        clear hK K
        refine norm_ (a' := ?_) ?_ ?_
        rotate_left
        · show Act.put _ (some 32) _ = _
          simp only [Act.put, List.setIfInBounds_toArray, List.set_cons_zero, List.set_cons_succ, i64_w, i32_w]
          rfl
        refine pure_ (i := 15) (N := (some 33)) (v := ?_) (a' := ?_) #[true, true, true, true, true, true, true, true, true, true, true, true, true, true, true, true, false, false] rfl rfl (by kernel_rfl) (fun _ _ _ h => h) (Or.inl ⟨by rfl, ?_⟩) ?_ ?_
        rotate_left
        · intro w'
          go_simp
          (try with_reducible rfl)
        rotate_left
        · simp only [Act.put, List.setIfInBounds_toArray, List.set_cons_zero, List.set_cons_succ, i64_w, i32_w]
          rfl
        refine pure_ (i := 16) (N := (some 34)) (v := ?_) (a' := ?_) #[true, true, true, true, true, true, true, true, true, true, true, true, true, true, true, true, true, false] rfl rfl (by kernel_rfl) (fun _ _ _ h => h) (Or.inl ⟨by rfl, ?_⟩) ?_ ?_
        rotate_left
        · intro w'
          go_simp
          (try with_reducible rfl)
        rotate_left
        · simp only [Act.put, List.setIfInBounds_toArray, List.set_cons_zero, List.set_cons_succ, i64_w, i32_w]
          rfl
        refine last_ (i := 17) (N := none) #[true, true, true, true, true, true, true, true, true, true, true, true, true, true, true, true, true, true] rfl rfl (by kernel_rfl) (by decide) (fun K hK => ?_)
        have z4 := (HMD.out.go B4).box.frozen 1
        refine skip_ (w1 := w4.setCell ⟨a, 1, none⟩ (.slice A2 (rr.length + 1) c2)) (by rfl) rfl (by go_simp) ?_
        refine hK.out _ _ ?_
        refine done_ (by kernel_rfl) ?_
        clear hHeld hK K
        have HO2 := Lib.hid O2
        have HB4 := Lib.hid B4
        have HOR := Lib.hid (own_fp hor (Fp.of_grown G2) (fun k e1 e2 => own_types hor HO1 (by decide) e2 e1))
        have HGR := Lib.hid (hor.lt gr rfl)
        clear O2 B4 hor G2 F HO1 hol n0 n1 n2 hr
        go_wp2_with fail
        go_ret
        rw [HP.out gr]
        have hlr : (List.replicate n (0 : Int)).length = n := List.length_replicate
        have hcc : rc (rr ++ [(id, ⟨gr, n, List.replicate n 0⟩)]) = rc rr ++ [.int .i64 id, .slice (some ⟨gr, 0, none⟩) n n] := by
          unfold rc
          rw [List.flatMap_append]
          simp [rCells, rVal, hlr]
        have ho : w4.ownsRow 0 80 2 (.slice A2 (rr.length + 1) c2) (rr ++ [(id, (⟨gr, n, List.replicate n 0⟩ : RowE))]).length (rc (rr ++ [(id, (⟨gr, n, List.replicate n 0⟩ : RowE))])) := by
          rw [hcc, List.length_append]
          exact own_mono HO2.out (Nat.zero_le _)
        have hrows : ∀ p ∈ rr ++ [(id, ⟨gr, n, List.replicate n 0⟩)], w4.ownsRow 0 22 1 (rVal p.2) p.2.xs.length (p.2.xs.map (Value.int .u64)) := by
          intro p hp
          rcases List.mem_append.1 hp with hp | hp
          · exact (HMD.out.go HB4.out).rows p hp
          · simp at hp
            subst hp
            show w4.ownsRow 0 22 1 (.slice (some ⟨gr, 0, none⟩) (List.replicate n (0 : Int)).length n) (List.replicate n (0 : Int)).length ((List.replicate n (0 : Int)).map (Value.int .u64))
            rw [hlr]
            exact own_mono HOR.out (Nat.zero_le _)
        have hnd : ((rr ++ [(id, (⟨gr, n, List.replicate n 0⟩ : RowE))]).map (·.2.g)).Nodup := by
          rw [List.map_append, List.nodup_append]
          refine ⟨HMD.out.nd, by simp, fun x hx y hy => ?_⟩
          obtain ⟨p, hp, rfl⟩ := List.mem_map.1 hx
          simp at hy
          subst hy
          have h1 := ((HMD.out.rows p hp).lt p.2.g rfl).2
          have h2 := HGR.out.1
          omega
        have HBX := HBD.out.trans (HB4.out.mono HBD.out.size)
        obtain ⟨h5, h6⟩ := HM.out.newR HBX ho hrows hnd (HOK.out gr)
        refine rto_did HO.out HOW.out h5 h6 (fun k hk => ?_) 0
        rcases hk with hk | hk | hk | hk
        · exact .inl (.inl hk)
        · exact .inl (.inr (.inl hk))
        · exact .inr (Nat.le_trans HBD.out.size (HO2.out.lt k hk).1)
        · rw [List.map_append] at hk
          rcases List.mem_append.1 hk with hk | hk
          · exact .inl (.inr (.inr (.inr hk)))
          · simp at hk
            subst hk
            exact .inr (Nat.le_trans HBD.out.size HGR.out.1)
      refine join_ 5 #[true, true, true, true, true, true, false, true, true, true, true, true, true, true, false, false, false, false] (fun s : PS => [(19, s.v0), (29, s.vr), (30, .agg #[.int .i64 id, s.vr]), (31, s.vl)]) (fun s W => PF wd.heap.size wd 1 2 rr n id s W) ?_ (fun H12 => ?_)
      · rintro ⟨v0, v1, vr, vl⟩ W F
        have hNW : wd.heap.size ≤ W.heap.size := F.below.size
        have hHeld := hS.out W F.below
        refine norm_ (a' := ?_) ?_ ?_
        rotate_left
        · simp only [putAll, Act.put, List.setIfInBounds_toArray, List.set_cons_zero, List.set_cons_succ]
          rfl
        refine one_ (i := 6) (N := (some 24)) #[true, true, true, true, true, true, true, true, true, true, true, true, true, true, false, false, false, false] rfl rfl (by kernel_rfl) (by decide) (fun K hK => ?_)
        obtain ⟨n0, n1, n2⟩ := own_all (HVR.out W F.below)
        obtain ⟨x1, w2, hr, O1, G1, -, -⟩ := run_app (P := Try.prog) W wd.heap.size 46 46 80 iE _ 2 32 Try.underlying46 hiE hz0 hz1 hz2 rfl (by decide) _ 0 [] (F.a1 rfl) A0 nn cp (rc rr) n0 n1 n2 (rc_one rr) HB1.out.1 HB1.out.2.1 hNW
        rw [Nat.zero_add, List.nil_append, ← HNN.out] at O1
        refine value_ (w1 := w2) (v := x1) (by rfl) rfl (exec_app (.tmp 19) (.tmp 23) 46 rfl (by rfl) (by rfl) hr) ?_
        have F2 := F.A2 hNW O1 G1
        refine hK.out _ _ (hS.out _ F2.below) (fun _ => ?_)
        exact norm_ (by rfl) (H22 _ _ F2)
      refine join_ 5 #[true, true, true, true, true, true, true, true, true, true, true, true, true, false, false, false, false, false] (fun s : PS => [(19, s.v0), (24, s.v1), (29, s.vr), (30, .agg #[.int .i64 id, s.vr])]) (fun s W => PF wd.heap.size wd 2 1 rr n id s W) ?_ (fun H21 => ?_)
      · rintro ⟨v0, v1, vr, vl⟩ W F
        have hNW : wd.heap.size ≤ W.heap.size := F.below.size
        have hHeld := hS.out W F.below
        refine norm_ (a' := ?_) ?_ ?_
        rotate_left
        · simp only [putAll, Act.put, List.setIfInBounds_toArray, List.set_cons_zero, List.set_cons_succ]
          rfl
        refine one_ (i := 13) (N := (some 31)) #[true, true, true, true, true, true, true, true, true, true, true, true, true, true, false, false, false, false] rfl rfl (by kernel_rfl) (by decide) (fun K hK => ?_)
        obtain ⟨gr, hvr, -⟩ := F.b1 (by decide)
        have hvr : vr = .slice (some ⟨gr, 0, none⟩) n n := hvr
        subst hvr
        refine value_ (w1 := W.alloc (.cells #[.int .i64 id, .slice (some ⟨gr, 0, none⟩) n n] 80)) (v := .slice (some ⟨W.heap.size, 0, none⟩) 1 1) (by rfl) rfl (by go_simp) ?_
        refine hK.out _ _ (hS.out _ (F.B2 hNW).below) (fun _ => ?_)
        exact norm_ (by rfl) (H22 _ _ (F.B2 hNW))
      refine join_ 6 #[true, false, true, true, true, true, false, true, true, true, true, true, true, true, false, false, false, false] (fun s : PS => [(29, s.vr), (30, .agg #[.int .i64 id, s.vr]), (31, s.vl)]) (fun s W => PF wd.heap.size wd 0 2 rr n id s W) ?_ (fun H02 => ?_)
      · rintro ⟨v0, v1, vr, vl⟩ W F
        have hNW : wd.heap.size ≤ W.heap.size := F.below.size
        have hHeld := hS.out W F.below
        refine norm_ (a' := ?_) ?_ ?_
        rotate_left
        · simp only [putAll, Act.put, List.setIfInBounds_toArray, List.set_cons_zero, List.set_cons_succ]
          rfl
        refine one_ (i := 1) (N := (some 19)) #[true, true, true, true, true, true, false, true, true, true, true, true, true, true, false, false, false, false] rfl rfl (by kernel_rfl) (by decide) (fun K hK => ?_)
        refine value_ (w1 := W.alloc (.cells #[] 80)) (v := .slice (some ⟨W.heap.size, 0, none⟩) 0 0) (by rfl) rfl (by go_simp) ?_
        refine hK.out _ _ (hS.out _ (F.A1 hNW).below) (fun _ => ?_)
        exact norm_ (by rfl) (H12 _ _ (F.A1 hNW))
      refine join_ 6 #[true, true, true, true, true, true, false, true, true, true, true, true, true, false, false, false, false, false] (fun s : PS => [(19, s.v0), (29, s.vr), (30, .agg #[.int .i64 id, s.vr])]) (fun s W => PF wd.heap.size wd 1 1 rr n id s W) ?_ (fun H11 => ?_)
      · rintro ⟨v0, v1, vr, vl⟩ W F
        have hNW : wd.heap.size ≤ W.heap.size := F.below.size
        have hHeld := hS.out W F.below
        refine norm_ (a' := ?_) ?_ ?_
        rotate_left
        · simp only [putAll, Act.put, List.setIfInBounds_toArray, List.set_cons_zero, List.set_cons_succ]
          rfl
        refine two_ (i := 6) (j := 13) (Ni := (some 24)) (Nj := (some 31)) #[true, true, true, true, true, true, true, true, true, true, true, true, true, false, false, false, false, false] #[true, true, true, true, true, true, false, true, true, true, true, true, true, true, false, false, false, false] rfl rfl rfl rfl (by kernel_rfl) (by decide) (by decide) (fun K hK => ?_) (fun K hK => ?_)
        · obtain ⟨n0, n1, n2⟩ := own_all (HVR.out W F.below)
          obtain ⟨x1, w2, hr, O1, G1, -, -⟩ := run_app (P := Try.prog) W wd.heap.size 46 46 80 iE _ 2 32 Try.underlying46 hiE hz0 hz1 hz2 rfl (by decide) _ 0 [] (F.a1 rfl) A0 nn cp (rc rr) n0 n1 n2 (rc_one rr) HB1.out.1 HB1.out.2.1 hNW
          rw [Nat.zero_add, List.nil_append, ← HNN.out] at O1
          refine value_ (w1 := w2) (v := x1) (by rfl) rfl (exec_app (.tmp 19) (.tmp 23) 46 rfl (by rfl) (by rfl) hr) ?_
          have F2 := F.A2 hNW O1 G1
          refine hK.out _ _ (hS.out _ F2.below) (fun _ => ?_)
          exact norm_ (by rfl) (H21 _ _ F2)
        · obtain ⟨gr, hvr, -⟩ := F.b1 (by decide)
          have hvr : vr = .slice (some ⟨gr, 0, none⟩) n n := hvr
          subst hvr
          refine value_ (w1 := W.alloc (.cells #[.int .i64 id, .slice (some ⟨gr, 0, none⟩) n n] 80)) (v := .slice (some ⟨W.heap.size, 0, none⟩) 1 1) (by rfl) rfl (by go_simp) ?_
          refine hK.out _ _ (hS.out _ (F.B2 hNW).below) (fun _ => ?_)
          exact norm_ (by rfl) (H12 _ _ (F.B2 hNW))
      refine join_ 7 #[true, true, true, true, true, true, true, true, true, true, true, false, false, false, false, false, false, false] (fun s : PS => [(19, s.v0), (24, s.v1)]) (fun s W => PF wd.heap.size wd 2 0 rr n id s W) ?_ (fun H20 => ?_)
      · rintro ⟨v0, v1, vr, vl⟩ W F
        have hNW : wd.heap.size ≤ W.heap.size := F.below.size
        have hHeld := hS.out W F.below
        refine norm_ (a' := ?_) ?_ ?_
        rotate_left
        · simp only [putAll, Act.put, List.setIfInBounds_toArray, List.set_cons_zero, List.set_cons_succ]
          rfl
        refine one_ (i := 11) (N := (some 29)) #[true, true, true, true, true, true, true, true, true, true, true, true, false, false, false, false, false, false] rfl rfl (by kernel_rfl) (by decide) (fun K hK => ?_)
        have hmk := hMK.out W
        refine value_ (w1 := W.alloc (.cells (madeCells #[.int .u64 0] n) 22)) (v := .slice (some ⟨W.heap.size, 0, none⟩) n n) (by rfl) rfl (by go_simp) ?_
        refine hK.out _ _ (hS.out _ (F.B1 hNW HN24.out).below) (fun _ => ?_)
        clear hmk
        refine norm_ (a' := ?_) ?_ ?_
        rotate_left
        · show Act.put _ (some 29) _ = _
          simp only [Act.put, List.setIfInBounds_toArray, List.set_cons_zero, List.set_cons_succ, i64_w, i32_w]
          rfl
        refine pure_ (i := 12) (N := (some 30)) (v := ?_) (a' := ?_) #[true, true, true, true, true, true, true, true, true, true, true, true, true, false, false, false, false, false] rfl rfl (by kernel_rfl) (fun _ _ _ h => h) (Or.inl ⟨by rfl, ?_⟩) ?_ ?_
        rotate_left
        · intro w'
          go_simp
          (try with_reducible rfl)
        rotate_left
        · simp only [Act.put, List.setIfInBounds_toArray, List.set_cons_zero, List.set_cons_succ, i64_w, i32_w]
          rfl
        exact norm_ (by rfl) (H21 _ _ (F.B1 hNW HN24.out))
      refine join_ 7 #[true, false, true, true, true, true, false, true, true, true, true, true, true, false, false, false, false, false] (fun s : PS => [(29, s.vr), (30, .agg #[.int .i64 id, s.vr])]) (fun s W => PF wd.heap.size wd 0 1 rr n id s W) ?_ (fun H01 => ?_)
      · rintro ⟨v0, v1, vr, vl⟩ W F
        have hNW : wd.heap.size ≤ W.heap.size := F.below.size
        have hHeld := hS.out W F.below
        refine norm_ (a' := ?_) ?_ ?_
        rotate_left
        · simp only [putAll, Act.put, List.setIfInBounds_toArray, List.set_cons_zero, List.set_cons_succ]
          rfl
        refine two_ (i := 1) (j := 13) (Ni := (some 19)) (Nj := (some 31)) #[true, true, true, true, true, true, false, true, true, true, true, true, true, false, false, false, false, false] #[true, false, true, true, true, true, false, true, true, true, true, true, true, true, false, false, false, false] rfl rfl rfl rfl (by kernel_rfl) (by decide) (by decide) (fun K hK => ?_) (fun K hK => ?_)
        · refine value_ (w1 := W.alloc (.cells #[] 80)) (v := .slice (some ⟨W.heap.size, 0, none⟩) 0 0) (by rfl) rfl (by go_simp) ?_
          refine hK.out _ _ (hS.out _ (F.A1 hNW).below) (fun _ => ?_)
          exact norm_ (by rfl) (H11 _ _ (F.A1 hNW))
        · obtain ⟨gr, hvr, -⟩ := F.b1 (by decide)
          have hvr : vr = .slice (some ⟨gr, 0, none⟩) n n := hvr
          subst hvr
          refine value_ (w1 := W.alloc (.cells #[.int .i64 id, .slice (some ⟨gr, 0, none⟩) n n] 80)) (v := .slice (some ⟨W.heap.size, 0, none⟩) 1 1) (by rfl) rfl (by go_simp) ?_
          refine hK.out _ _ (hS.out _ (F.B2 hNW).below) (fun _ => ?_)
          exact norm_ (by rfl) (H02 _ _ (F.B2 hNW))
      refine join_ 8 #[true, true, true, true, true, true, false, true, true, true, true, false, false, false, false, false, false, false] (fun s : PS => [(19, s.v0)]) (fun s W => PF wd.heap.size wd 1 0 rr n id s W) ?_ (fun H10 => ?_)
      · rintro ⟨v0, v1, vr, vl⟩ W F
        have hNW : wd.heap.size ≤ W.heap.size := F.below.size
        have hHeld := hS.out W F.below
        refine norm_ (a' := ?_) ?_ ?_
        rotate_left
        · simp only [putAll, Act.put, List.setIfInBounds_toArray, List.set_cons_zero, List.set_cons_succ]
          rfl
        refine two_ (i := 6) (j := 11) (Ni := (some 24)) (Nj := (some 29)) #[true, true, true, true, true, true, true, true, true, true, true, false, false, false, false, false, false, false] #[true, true, true, true, true, true, false, true, true, true, true, true, false, false, false, false, false, false] rfl rfl rfl rfl (by kernel_rfl) (by decide) (by decide) (fun K hK => ?_) (fun K hK => ?_)
        · obtain ⟨n0, n1, n2⟩ := own_all (HVR.out W F.below)
          obtain ⟨x1, w2, hr, O1, G1, -, -⟩ := run_app (P := Try.prog) W wd.heap.size 46 46 80 iE _ 2 32 Try.underlying46 hiE hz0 hz1 hz2 rfl (by decide) _ 0 [] (F.a1 rfl) A0 nn cp (rc rr) n0 n1 n2 (rc_one rr) HB1.out.1 HB1.out.2.1 hNW
          rw [Nat.zero_add, List.nil_append, ← HNN.out] at O1
          refine value_ (w1 := w2) (v := x1) (by rfl) rfl (exec_app (.tmp 19) (.tmp 23) 46 rfl (by rfl) (by rfl) hr) ?_
          have F2 := F.A2 hNW O1 G1
          refine hK.out _ _ (hS.out _ F2.below) (fun _ => ?_)
          exact norm_ (by rfl) (H20 _ _ F2)
        · have hmk := hMK.out W
          refine value_ (w1 := W.alloc (.cells (madeCells #[.int .u64 0] n) 22)) (v := .slice (some ⟨W.heap.size, 0, none⟩) n n) (by rfl) rfl (by go_simp) ?_
          refine hK.out _ _ (hS.out _ (F.B1 hNW HN24.out).below) (fun _ => ?_)
          clear hmk
          refine norm_ (a' := ?_) ?_ ?_
          rotate_left
          · show Act.put _ (some 29) _ = _
            simp only [Act.put, List.setIfInBounds_toArray, List.set_cons_zero, List.set_cons_succ, i64_w, i32_w]
            rfl
          refine pure_ (i := 12) (N := (some 30)) (v := ?_) (a' := ?_) #[true, true, true, true, true, true, false, true, true, true, true, true, true, false, false, false, false, false] rfl rfl (by kernel_rfl) (fun _ _ _ h => h) (Or.inl ⟨by rfl, ?_⟩) ?_ ?_
          rotate_left
          · intro w'
            go_simp
            (try with_reducible rfl)
          rotate_left
          · simp only [Act.put, List.setIfInBounds_toArray, List.set_cons_zero, List.set_cons_succ, i64_w, i32_w]
            rfl
          exact norm_ (by rfl) (H11 _ _ (F.B1 hNW HN24.out))
      have F := PF.start wd rr n id
      have hNW : wd.heap.size ≤ wd.heap.size := Nat.le_refl _
      refine two_ (i := 1) (j := 11) (Ni := (some 19)) (Nj := (some 29)) #[true, true, true, true, true, true, false, true, true, true, true, false, false, false, false, false, false, false] #[true, false, true, true, true, true, false, true, true, true, true, true, false, false, false, false, false, false] rfl rfl rfl rfl (by kernel_rfl) (by decide) (by decide) (fun K hK => ?_) (fun K hK => ?_)
      · refine value_ (w1 := wd.alloc (.cells #[] 80)) (v := .slice (some ⟨wd.heap.size, 0, none⟩) 0 0) (by rfl) rfl (by go_simp) ?_
        refine hK.out _ _ (hS.out _ (F.A1 hNW).below) (fun _ => ?_)
        exact norm_ (by rfl) (H10 _ _ (F.A1 hNW))
      · have hmk := hMK.out wd
        refine value_ (w1 := wd.alloc (.cells (madeCells #[.int .u64 0] n) 22)) (v := .slice (some ⟨wd.heap.size, 0, none⟩) n n) (by rfl) rfl (by go_simp) ?_
        refine hK.out _ _ (hS.out _ (F.B1 hNW HN24.out).below) (fun _ => ?_)
        clear hmk
        refine norm_ (a' := ?_) ?_ ?_
        rotate_left
        · show Act.put _ (some 29) _ = _
          simp only [Act.put, List.setIfInBounds_toArray, List.set_cons_zero, List.set_cons_succ, i64_w, i32_w]
          rfl
        refine pure_ (i := 12) (N := (some 30)) (v := ?_) (a' := ?_) #[true, false, true, true, true, true, false, true, true, true, true, true, true, false, false, false, false, false] rfl rfl (by kernel_rfl) (fun _ _ _ h => h) (Or.inl ⟨by rfl, ?_⟩) ?_ ?_
        rotate_left
        · intro w'
          go_simp
          (try with_reducible rfl)
        rotate_left
        · simp only [Act.put, List.setIfInBounds_toArray, List.set_cons_zero, List.set_cons_succ, i64_w, i32_w]
          rfl
        exact norm_ (by rfl) (H01 _ _ (F.B1 hNW HN24.out))
  · rw [h4] at HC
    have HP := Lib.hid (show putR S id size = (7, S) by unfold putR; rw [h3])
    have k0 : (0 : Int) ≤ (i : Int) := by omega
    clear h1 h2 h3 h4 h5 hm
    go_enter Try.func41, Try.ntmps41
    go_wp2_with fail
    refine HC.out.mono ?_
    rintro e w1 ⟨rfl, rfl⟩
    go_wp2_with fail
    go_ret
    rw [HP.out]
    exact ⟨rfl, HSTO.out.same HBA.out, Fp.of_below HBA.out _⟩
end Go.Proofs.Ytdobpieiobikpaa.Base
