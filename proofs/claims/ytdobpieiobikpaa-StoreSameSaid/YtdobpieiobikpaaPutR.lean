/- PutRegs: a row more. Conditions: as the contract says. -/
import Derived.Test.YtdobpieiobikpaaRws
set_option linter.unusedVariables false
set_option linter.unusedSimpArgs false
namespace Go.Proofs.Ytdobpieiobikpaa.Base
open Go Go.RowKit Go.Proofs.Ytdobpieiobikpaa.Mem Go.Proofs.YtdobpieiobikpaaW.PrintWords Go.Proofs.YtdobpieiobikpaaW.PrintLast
theorem info22 : (Try.prog.info? 22).map (fun i => (i.zero, i.size, i.bytes)) = some (some (.int .u64 0), 1, 8) := by kernel_rfl
theorem make30 (n : Nat) (hn : n ≤ 1024) (W : World) : (Instr.makeSlice 30 (.int .i64 (n : Int)) (.int .i64 (n : Int))).run Try.prog W = .ok (.slice (some ⟨W.heap.size, 0, none⟩) n n) (W.alloc (.cells (madeCells #[.int .u64 0] n) 22)) := by
  obtain ⟨i22, hi22, hz0, hz1, hz2⟩ := info_parts info22
  have h := run_make (P := Try.prog) W 30 22 i22 (.int .u64 0) Try.underlying30 hi22 hz0 .i64 .i64 (n : Int) (n : Int) (by omega) (Int.le_refl _) (by rw [hz2]; omega) (by omega)
  rw [hz1, Int.toNat_natCast, Nat.mul_one] at h
  exact h
theorem SM.apart {w : World} {a b q : Nat} {pc : Option Nat} {S : St} {rr : List (Int × RowE)} {t : TypeId} {cs : Array Value} (h : SM w a pc (some b) S rr) (hq : Blk w q t cs) : q ≠ b := by
  intro e
  obtain ⟨es, cl, hh, _⟩ := (show ML w b (rRow rr) from h.rm)
  unfold Blk at hq
  rw [e, hh] at hq
  cases hq
set_option maxHeartbeats 16000000 in
set_option maxRecDepth 100000 in
theorem putR_any (a : Nat) (O : Nat → Prop) (S : St) (id size : Int) (w : World) (h : Sto w a O S) (hid : (Lit.int .i64 id).wf = true) :
    Calls Try.prog 29 #[ptr a, .agg #[.int .i64 id, .int .i64 size]] w (Did w a O (putR S id size)) := by
  have hbA : Below w.heap.size w (w.alloc (.cells #[.int .i64 id, .int .i64 size] 65)) := (Below.refl _ _).alloc (Nat.le_refl _) _
  have hX := Blk.new w 65 #[.int .i64 id, .int .i64 size]
  have HSTO := Lib.hid h
  obtain ⟨hO, pc, pr, rr, hm, hown⟩ := h
  have HMA := Lib.hid (hm.fp (Fp.of_below hbA (fun _ => False)) (fun _ _ e => e))
  have HC := Lib.hid (row_any a pc pr S rr id _ HMA.out hid)
  have HOW := Lib.hid hown
  have HO := Lib.hid hO
  have HBA := Lib.hid hbA
  have HX := Lib.hid hX
  have hab : S.r = absR rr := hm.abs
  have q0 := hX.cell 0
  have q1 := hX.cell 1
  clear hm hown hO hbA hX
  cases hl : lookE S.r id with
  | some v =>
    have hq : hasR S id = 0 := by unfold hasR; rw [hl]; rfl
    have HP := Lib.hid (show putR S id size = (7, S) by unfold putR; rw [hl])
    rw [hq] at HC
    clear hq hl hab
    go_enter Try.func29, Try.ntmps29
    go_wp2_with fail
    refine HC.out.mono ?_
    rintro e w1 ⟨rfl, hb⟩
    have HB := Lib.hid (below_step HBA.out hb)
    clear hb
    go_wp2_with fail
    go_ret
    rw [HP.out]
    exact ⟨rfl, HSTO.out.same HB.out, Fp.of_below HB.out _⟩
  | none =>
    have hq : hasR S id = 6 := by unfold hasR; rw [hl]; rfl
    have HLN := Lib.hid (show lookE rr id = none by
      rw [hab, absR_look] at hl
      cases h : lookE rr id with
      | none => rfl
      | some v => rw [h] at hl; cases hl)
    rw [hq] at HC
    by_cases hsz : size < 1 ∨ 1024 < size
    · have HP := Lib.hid (show putR S id size = (1, S) by unfold putR; rw [hl]; exact if_pos hsz)
      clear hq hl hab
      have hcase : (size < 1) ∨ (¬ size < 1 ∧ 1024 < size) := by omega
      clear hsz
      rcases hcase with h1 | ⟨h1, h2⟩
      all_goals
        go_enter Try.func29, Try.ntmps29
        go_wp2_with fail
        refine HC.out.mono ?_
        rintro e w1 ⟨rfl, hb⟩
        have HB := Lib.hid (below_step HBA.out hb)
        have q1 := (HX.out.go hb).cell 1
        clear hb
        go_wp2_with fail
        go_ret
        rw [HP.out]
        exact ⟨rfl, HSTO.out.same HB.out, Fp.of_below HB.out _⟩
    · obtain ⟨n, hn⟩ : ∃ n : Nat, size = (n : Int) := ⟨size.toNat, by omega⟩
      subst hn
      have hn1 : 1 ≤ n := by omega
      have hn1024 : n ≤ 1024 := by omega
      have HP := Lib.hid (show putR S id (n : Int) = (0, { S with r := absR (putE rr id ⟨0, 0, List.replicate n 0⟩) }) by
        unfold putR; rw [hl]
        show (if (n : Int) < 1 ∨ 1024 < (n : Int) then _ else _) = _
        rw [if_neg hsz, Int.toNat_natCast, hab, ← absR_put])
      have HOKP := Lib.hid (HMA.out.ok.putR id (List.replicate n 0) ⟨by rw [List.length_replicate]; exact hn1, by rw [List.length_replicate]; exact hn1024, fun x hx => by rw [(List.mem_replicate.1 hx).2]; unfold u64ok; decide⟩)
      have HAB := Lib.hid hab
      have hs1 : ¬ (n : Int) < 1 := by omega
      have hs2 : ¬ 1024 < (n : Int) := by omega
      clear hq hl hsz hab
      go_enter Try.func29, Try.ntmps29
      go_wp2_with fail
      refine HC.out.mono ?_
      rintro e w1 ⟨rfl, hb⟩
      have HB := Lib.hid (below_step HBA.out hb)
      have HM1 := Lib.hid (HMA.out.fp (Fp.of_below hb (fun _ => False)) (fun _ _ e => e))
      have HX1 := Lib.hid (HX.out.go hb)
      clear hb HC q0 q1
      have q1 := HX1.out.cell 1
      have c1 := HM1.out.box.cell 1
      have hq1 := eql_nil 60 3 30 pr Try.underlying60 w1
      have HQW := Lib.hid (show w.heap.size ≤ w.heap.size from Nat.le_refl _)
      have HR : ∃ R : World → Nat → Prop, R = fun w2 b => SM w2 a pc (some b) S rr ∧ Fp O w w2 ∧ (∀ k, Own a pc (some b) rr k → O k ∨ w.heap.size ≤ k) ∧ (∀ i, i = b → i < w.heap.size → O i) ∧ Blk w2 w.heap.size 65 #[.int .i64 id, .int .i64 (n : Int)] := ⟨_, rfl⟩
      obtain ⟨R, hR⟩ := HR
      have HRR := Lib.hid hR
      clear hR
      cases pr
      focus
        obtain ⟨h2, hf2⟩ := HM1.out.makeR
        have c1' := (HM1.out.box.alloc (.map #[] 0)).cell 1
        have z1' := (HM1.out.box.alloc (.map #[] 0)).frozen 1
        have hmk := run_makeMap (P := Try.prog) 60 w1
        have hne : w.heap.size ≠ a := fun e => by
          have h1 := HM1.out.box
          have h3 := HX1.out
          rw [e] at h3
          unfold Blk at h1 h3
          rw [h1] at h3
          injection h3 with h3
          injection h3 with _ h3
          cases h3
        have E8 : R ((w1.alloc (.map #[] 0)).setCell ⟨a, 1, none⟩ (.map (some w1.heap.size))) w1.heap.size := by
          rw [HRR.out]
          refine ⟨h2, (Fp.of_below HB.out O).next hf2 (fun i hi _ => HOW.out i (.inl hi)), fun k hk => ?_, fun i hi hlt => absurd hlt (by have := HB.out.size; omega), HX1.out.fp hf2 hne⟩
          rcases hk with hk | hk | hk | hk
          · exact .inl (HOW.out k (.inl hk))
          · exact .inl (HOW.out k (.inr (.inl hk)))
          · injection hk with hk
            exact .inr (by rw [← hk]; exact HB.out.size)
          · exact .inl (HOW.out k (.inr (.inr (.inr hk))))
        clear h2 hf2 hne
        go_upto_region 10 with (fail)
        clear c1' z1' hmk
        generalize (w1.alloc (.map #[] 0)).setCell ⟨a, 1, none⟩ (.map (some w1.heap.size)) = w2 at *
        generalize w1.heap.size = b at *
      rotate_left
      focus
        rename_i b
        have E8 : R w1 b := by
          rw [HRR.out]
          exact ⟨HM1.out, Fp.of_below HB.out O, fun k hk => .inl (HOW.out k hk), fun i hi _ => HOW.out i (.inr (.inr (.inl (congrArg some hi.symm)))), HX1.out⟩
        go_upto_region 10 with (fail)
        obtain ⟨w2, hw2⟩ : ∃ w2, w1 = w2 := ⟨_, rfl⟩
        rw [hw2] at E8 ⊢
        clear hw2
      all_goals
        rw [HRR.out] at E8
        obtain ⟨e1, e2, e3, e4, e5⟩ := E8
        have HM2 := Lib.hid e1
        have HFD := Lib.hid e2
        have HOW2 := Lib.hid e3
        have HOB := Lib.hid e4
        have HBX := Lib.hid e5
        have HAB2 := Lib.hid (e1.apart e1.box)
        have HQB := Lib.hid (e1.apart e5)
        clear e1 e2 e3 e4 e5 c1 q1 hq1 HM1 HX1 HB HX HBA HMA HSTO HOW
        have HMd0 := Lib.hid (HM2.out.fp (Fp.of_below (below_drew1 (Below.refl w2.heap.size w2)) (fun _ => False)) (fun _ _ e => e))
        have HFDd := Lib.hid (HFD.out.drew)
        have HGW := Lib.hid (HFDd.out.size)
        have hMK : Hid (∀ W : World, (Instr.makeSlice 30 (.int .i64 (n : Int)) (.int .i64 (n : Int))).run Try.prog W = .ok (.slice (some ⟨W.heap.size, 0, none⟩) n n) (W.alloc (.cells (madeCells #[.int .u64 0] n) 22))) := Lib.hid (fun W => make30 n hn1024 W)
        have c1 := HM2.out.box.cell 1
        have q0 := HBX.out.cell 0
        have q1 := HBX.out.cell 1
        generalize hqq : w.heap.size = q at HBX HQB q0 q1 ⊢
        refine start_ (n := 10) (S := (fun w' => w'.cell? ⟨a, 1, none⟩ = some (.map (some b)) ∧ w'.cell? ⟨q, 0, none⟩ = some (.int .i64 id) ∧ w'.cell? ⟨q, 1, none⟩ = some (.int .i64 (n : Int)))) (ds := []) #[false, false, false, false, false, false, false, false, false, false] (by kernel_rfl) rfl rfl ⟨c1, q0, q1⟩ (fun hHeld => ?_)
        refine pure_ (i := 0) (N := (some 30)) (v := ?_) (a' := ?_) #[true, false, false, false, false, false, false, false, false, false] rfl rfl (by kernel_rfl) (fun _ _ _ h => h) (Or.inl ⟨by rfl, ?_⟩) ?_ ?_
        rotate_left
        · intro w'
          go_simp
          (try with_reducible rfl)
        rotate_left
        · simp only [Act.put, List.setIfInBounds_toArray, List.set_cons_zero, List.set_cons_succ, i64_w, i32_w]
          rfl
        refine pure_ (i := 1) (N := (some 31)) (v := ?_) (a' := ?_) #[true, true, false, false, false, false, false, false, false, false] rfl rfl (by kernel_rfl) (fun _ _ _ h => h) (Or.inl ⟨by rfl, ?_⟩) ?_ ?_
        rotate_left
        · intro w'
          go_simp
          (try with_reducible rfl)
        rotate_left
        · simp only [Act.put, List.setIfInBounds_toArray, List.set_cons_zero, List.set_cons_succ, i64_w, i32_w]
          rfl
        refine pure_ (i := 2) (N := (some 32)) (v := ?_) (a' := ?_) #[true, true, true, false, false, false, false, false, false, false] rfl rfl (by kernel_rfl) (fun _ _ _ h => h) (Or.inl ⟨by rfl, ?_⟩) ?_ ?_
        rotate_left
        · intro w'
          go_simp
          (try with_reducible rfl)
        rotate_left
        · simp only [Act.put, List.setIfInBounds_toArray, List.set_cons_zero, List.set_cons_succ, i64_w, i32_w]
          rfl
        refine take_ (i := 3) (N := (some 33)) (v := ?_) (a' := ?_) #[true, true, true, true, false, false, false, false, false, false] rfl rfl (by kernel_rfl) (fun _ _ _ h => h) (Or.inl ⟨by rfl, ?_⟩) hHeld ?_ ?_
        rotate_left
        · rintro w' ⟨s0, s1, s2⟩
          go_simp
          (try with_reducible rfl)
        rotate_left
        · simp only [Act.put, List.setIfInBounds_toArray, List.set_cons_zero, List.set_cons_succ, i64_w, i32_w]
          rfl
        refine pure_ (i := 4) (N := (some 34)) (v := ?_) (a' := ?_) #[true, true, true, true, true, false, false, false, false, false] rfl rfl (by kernel_rfl) (fun _ _ _ h => h) (Or.inl ⟨by rfl, ?_⟩) ?_ ?_
        rotate_left
        · intro w'
          go_simp
          (try with_reducible rfl)
        rotate_left
        · simp only [Act.put, List.setIfInBounds_toArray, List.set_cons_zero, List.set_cons_succ, i64_w, i32_w]
          rfl
        refine take_ (i := 5) (N := (some 35)) (v := ?_) (a' := ?_) #[true, true, true, true, true, true, false, false, false, false] rfl rfl (by kernel_rfl) (fun _ _ _ h => h) (Or.inl ⟨by rfl, ?_⟩) hHeld ?_ ?_
        rotate_left
        · rintro w' ⟨s0, s1, s2⟩
          go_simp
          (try with_reducible rfl)
        rotate_left
        · simp only [Act.put, List.setIfInBounds_toArray, List.set_cons_zero, List.set_cons_succ, i64_w, i32_w]
          rfl
        refine pure_ (i := 6) (N := (some 36)) (v := ?_) (a' := ?_) #[true, true, true, true, true, true, true, false, false, false] rfl rfl (by kernel_rfl) (fun _ _ _ h => h) (Or.inl ⟨by rfl, ?_⟩) ?_ ?_
        rotate_left
        · intro w'
          go_simp
          (try with_reducible rfl)
        rotate_left
        · simp only [Act.put, List.setIfInBounds_toArray, List.set_cons_zero, List.set_cons_succ, i64_w, i32_w]
          rfl
        refine take_ (i := 7) (N := (some 37)) (v := ?_) (a' := ?_) #[true, true, true, true, true, true, true, true, false, false] rfl rfl (by kernel_rfl) (fun _ _ _ h => h) (Or.inl ⟨by rfl, ?_⟩) hHeld ?_ ?_
        rotate_left
        · rintro w' ⟨s0, s1, s2⟩
          go_simp
          (try with_reducible rfl)
        rotate_left
        · simp only [Act.put, List.setIfInBounds_toArray, List.set_cons_zero, List.set_cons_succ, i64_w, i32_w]
          rfl
        refine one_ (i := 8) (N := (some 38)) #[true, true, true, true, true, true, true, true, true, false] rfl rfl (by kernel_rfl) (by decide) (fun K hK => ?_)
        generalize w2.drew = wd at *
        have hmk := hMK.out wd
        refine value_ (w1 := wd.alloc (.cells (madeCells #[.int .u64 0] n) 22)) (v := .slice (some ⟨wd.heap.size, 0, none⟩) n n) (by rfl) rfl (by go_simp) ?_
        have hba := (Below.refl wd.heap.size wd).alloc (Nat.le_refl _) (.cells (madeCells #[.int .u64 0] n) 22)
        have F0 := (hba.cell (World.block_lt_of_cell? _ _ hHeld.1)).trans hHeld.1
        have F1 := (hba.cell (World.block_lt_of_cell? _ _ hHeld.2.1)).trans hHeld.2.1
        have F2 := (hba.cell (World.block_lt_of_cell? _ _ hHeld.2.2)).trans hHeld.2.2
        refine hK.out _ _ ⟨F0, F1, F2⟩ (fun hHeld => ?_)
        clear hK K
        refine norm_ (a' := ?_) ?_ ?_
        rotate_left
        · show Act.put _ (some 38) _ = _
          simp only [Act.put, List.setIfInBounds_toArray, List.set_cons_zero, List.set_cons_succ, i64_w, i32_w]
          rfl
        refine one_ (i := 9) (N := none) #[true, true, true, true, true, true, true, true, true, true] rfl rfl (by kernel_rfl) (by decide) (fun K hK => ?_)
        have HMd := Lib.hid (HMd0.out.fp (Fp.of_below hba (fun _ => False)) (fun _ _ e => e))
        have hown := World.ownsRow_lit (base := 0) (e := 22) (size := 1) wd (madeCells #[.int .u64 0] n) n (Nat.zero_le _) (by unfold maxLen; omega) (by rw [size_madeCells, Nat.mul_one])
        rw [toList_madeCells_one] at hown
        have HOWN := Lib.hid hown
        have HGD := Lib.hid (show ∀ p ∈ rr, p.2.g ≠ wd.heap.size from fun p hp => Nat.ne_of_lt ((HMd0.out.rows p hp).lt p.2.g rfl).2)
        have HFE := Lib.hid (HFDd.out.go hba)
        generalize wd.heap.size = gd at *
        generalize wd.alloc (.cells (madeCells #[.int .u64 0] n) 22) = we at *
        have hml : ML we b (rRow rr) := HMd.out.rm
        obtain ⟨w3, hrun, M3, F3⟩ := hml.update K3 Try.underlying3 Try.underlying60 hid (.slice (some ⟨gd, 0, none⟩) n n)
        refine skip_ (w1 := w3) (by rfl) rfl (by go_simp) ?_
        have G0 : w3.cell? ⟨a, 1, none⟩ = some (.map (some b)) := (World.cell?_of_block (F3.block a HMd.out.box.lt (HAB2.out))).trans hHeld.1
        have G1 : w3.cell? ⟨q, 0, none⟩ = some (.int .i64 id) := (World.cell?_of_block (F3.block q (World.block_lt_of_cell? _ _ hHeld.2.1) HQB.out)).trans hHeld.2.1
        have G2 : w3.cell? ⟨q, 1, none⟩ = some (.int .i64 (n : Int)) := (World.cell?_of_block (F3.block q (World.block_lt_of_cell? _ _ hHeld.2.1) HQB.out)).trans hHeld.2.2
        refine hK.out _ _ ⟨G0, G1, G2⟩ (fun hHeld => ?_)
        clear hK K hrun
        refine done_ (by kernel_rfl) ?_
        clear hHeld
        clear hHeld G0 G1 G2 F0 F1 F2
        go_wp2_with fail
        go_ret
        rw [HP.out]
        have hlen : (List.replicate n (0 : Int)).length = n := List.length_replicate
        have hM3 : ML w3 b (rRow (putE rr id ⟨gd, n, List.replicate n 0⟩)) := by
          have e := rRow_put rr id ⟨gd, n, List.replicate n 0⟩
          simp only [hlen] at e
          rw [← e]
          exact M3
        have hrows : ∀ p ∈ putE rr id ⟨gd, n, List.replicate n 0⟩, we.ownsRow 0 22 1 (rVal p.2) p.2.xs.length (p.2.xs.map (Value.int .u64)) := by
          intro p hp
          rcases mem_putE hp with hp | rfl
          · exact HMd.out.rows p hp
          · show we.ownsRow 0 22 1 (.slice (some ⟨gd, 0, none⟩) (List.replicate n (0 : Int)).length n) (List.replicate n (0 : Int)).length ((List.replicate n (0 : Int)).map (Value.int .u64))
            rw [hlen, List.map_replicate]
            exact HOWN.out
        have hnd : ((putE rr id ⟨gd, n, List.replicate n 0⟩).map (·.2.g)).Nodup := by
          rw [putE_gs HLN.out, List.nodup_append]
          refine ⟨HMd.out.nd, by simp, fun x hx y hy => ?_⟩
          obtain ⟨p, hp, rfl⟩ := List.mem_map.1 hx
          simp at hy
          subst hy
          exact HGD.out p hp
        have hok : St.ok { S with r := absR (putE rr id ⟨gd, n, List.replicate n 0⟩) } := by
          have h := HOKP.out
          rw [HAB.out, absR_put rr id ⟨gd, n, List.replicate n 0⟩] at h
          exact h
        have h3 := HMd.out.turnR hM3 F3 hrows hnd hok
        rw [show absR (putE rr id ⟨gd, n, List.replicate n 0⟩) = absR (putE rr id ⟨0, 0, List.replicate n 0⟩) from by rw [← absR_put, ← absR_put]] at h3
        have hfe := HFE.out
        refine ⟨rfl, h3.sto HO.out (Nat.le_trans hfe.size F3.size) (fun k hk => ?_), hfe.next F3 (fun i hi hlt => HOB.out i hi hlt)⟩
        rcases hk with hk | hk | hk | hk
        · exact HOW2.out k (.inl hk)
        · exact HOW2.out k (.inr (.inl hk))
        · exact HOW2.out k (.inr (.inr (.inl hk)))
        · rw [putE_gs HLN.out] at hk
          rcases List.mem_append.1 hk with hk | hk
          · exact HOW2.out k (.inr (.inr (.inr hk)))
          · simp at hk
            subst hk
            exact .inr HGW.out
end Go.Proofs.Ytdobpieiobikpaa.Base
