/- The document's store: a counter is taken away. Conditions: as the contract says. -/
import Derived.Test.YtdobpieiobikpaaRefP
set_option linter.unusedVariables false
set_option linter.unusedSimpArgs false
namespace Go.Proofs.Ytdobpieiobikpaa.Base
open Go Go.RowKit Go.Proofs.Ytdobpieiobikpaa.Mem Go.Proofs.YtdobpieiobikpaaW.PrintWords Go.Proofs.YtdobpieiobikpaaW.PrintLast
theorem exec_app {P : Program} {a : Act} {oi : Oper} {w w' : World} {v v' : Value} {A : Option Addr} {m c : Nat} (s x : Operand) (t : TypeId) (ho : oi.op = .call { callee := .builtin .append, args := #[s, x], argTypes := #[t, t] })
    (hs : a.eval s = v) (hx : a.eval x = .slice A m c) (hr : (Builtin.append_ #[t, t] oi.type #[v, .slice A m c]).run P w = .ok v' w') : (execOp a.eval oi).run P w = .ok (.value v') w' := by
  unfold execOp
  simp only [ho, resolve, invoke, builtin, Sem.run_bind, Sem.run_pure, Result.andThen_ok, List.map_toArray, List.map_cons, List.map_nil, hs, hx, hr]
set_option maxHeartbeats 16000000 in
set_option maxRecDepth 100000 in
theorem rdelC_any (a : Nat) (O : Nat → Prop) (S : St) (id : Int) (w : World) (h : Rto w a O S) (hl : S.c.length < 1000000) :
    Calls Try.prog 39 #[ptr a, .int .i64 id] w (RDid w a O (delC S id)) := by
  have HSTO := Lib.hid h
  obtain ⟨hO, vC, vR, rr, hm, hown⟩ := h
  have HC := Lib.hid (idxC_any a vC vR S rr id w hm)
  have HM := Lib.hid hm
  have HOW := Lib.hid hown
  have HO := Lib.hid hO
  clear hown hO
  rcases hm.findC id with ⟨h1, h2⟩ | ⟨i, p, h1, h2, h3, h4, -, -⟩
  · have HP := Lib.hid (show delC S id = (6, S) by unfold delC; rw [h2])
    rw [h1] at HC
    clear h1 h2 hm
    go_enter Try.func39, Try.ntmps39
    go_wp2_with fail
    refine HC.out.mono ?_
    rintro e w' ⟨rfl, rfl⟩
    go_wp2_with fail
    go_ret
    rw [HP.out]
    exact ⟨rfl, HSTO.out.same (Below.refl _ _), Fp.refl _ _⟩
  · rw [h3] at HC
    have k0 : (0 : Int) ≤ (i : Int) := by omega
    have k2 : ¬ (i : Int) < 0 := by omega
    have HP := Lib.hid (show delC S id = (0, { S with c := S.c.take i ++ S.c.drop (i + 1) }) by unfold delC; rw [h2, ← List.eraseIdx_eq_take_drop_succ, delE_idx hm.ok.ck h1])
    have HOK := Lib.hid (show St.ok { S with c := S.c.take i ++ S.c.drop (i + 1) } by
      have := hm.ok.delC id
      rw [delE_idx hm.ok.ck h1, List.eraseIdx_eq_take_drop_succ] at this
      exact this)
    obtain ⟨g, cp, hv, -⟩ := hm.cAt i h1
    obtain ⟨A0, cp0, hv0, hle0, hmx⟩ := own_form2 hm.cm
    have hle : S.c.length ≤ cp := by
      have e := hv0.symm.trans hv
      injection e with _ _ e
      omega
    have c0 := hm.box.cell 0
    rw [show #[vC, vR][0]? = some vC from rfl, hv] at c0
    obtain ⟨n, hn⟩ : ∃ n, S.c.length = n := ⟨_, rfl⟩
    have hi : i < n := by omega
    have HLT := Lib.hid (show 0 + i * 3 ≤ n * 3 by omega)
    have HLT2 := Lib.hid (show (i + 1) * 3 + (n - (i + 1)) * 3 ≤ n * 3 by omega)
    have HB1 := Lib.hid (show 0 + i ≤ maxLen ∧ (0 + i) * 24 ≤ 140737488355328 ∧ i + (n - (i + 1)) ≤ maxLen ∧ (i + (n - (i + 1))) * 24 ≤ 140737488355328 by unfold maxLen; omega)
    have HNN := Lib.hid hn
    have HI := Lib.hid hi
    rw [hn] at c0 hv hle h4
    have k3 : (i : Int) ≤ (cp : Int) := by omega
    obtain ⟨k, hk⟩ : ∃ k, i + 1 = k := ⟨_, rfl⟩
    have k4 : (0 : Int) ≤ (k : Int) := by omega
    have k5 : (k : Int) ≤ (n : Int) := by omega
    have k7 : (i : Int) ≤ (k : Int) := by omega
    have hw : wrap64 ((i : Int) + 1) = (k : Int) := by rw [← hk, ← i64_w, Int.natCast_add]; rw [hn] at hmx; simp [IntKind.wrap, IntKind.signed, IntKind.bits]; omega
    rw [hk] at HP HOK HLT2 HB1
    have HK := Lib.hid hk
    have k6 : (n : Int) ≤ (cp : Int) := by omega
    obtain ⟨iE, hiE, hz0, hz1, hz2⟩ := info_parts info82
    clear hk h1 h2 h3 hv0 hle0 hn hm hl
    by_cases hci : cp = k
    · subst hci
      go_enter  Try.func39, Try.ntmps39
      go_wp2_with fail
      refine HC.out.mono ?_
      rintro e w' ⟨rfl, rfl⟩
      have HMD := Lib.hid (HM.out.go (below_drew1 (Below.refl _ _)))
      have HBD := Lib.hid (below_drew1 (Below.refl w'.heap.size w'))
      go_upto_region 4 with (fail)
      refine start_ (n := 20) (S := (fun W => W.cell? ⟨a, 0, none⟩ = some (.slice (some ⟨g, 0, none⟩) n cp))) (ds := [19]) #[false, false, false, false, false, false, false, false, false, false, false, false, false, false, false, false, false, false, false, false] (by kernel_rfl) rfl rfl c0 (fun hHeld => ?_)
      refine pure_ (i := 0) (N := (some 11)) (v := ?_) (a' := ?_) #[true, false, false, false, false, false, false, false, false, false, false, false, false, false, false, false, false, false, false, false] rfl rfl (by kernel_rfl) (fun _ _ _ h => h) (Or.inl ⟨by rfl, ?_⟩) ?_ ?_
      rotate_left
      · intro w'
        go_simp
        (try with_reducible rfl)
      rotate_left
      · simp only [Act.put, List.setIfInBounds_toArray, List.set_cons_zero, List.set_cons_succ, i64_w, i32_w]
        rfl
      refine pure_ (i := 2) (N := (some 13)) (v := ?_) (a' := ?_) #[true, false, true, false, false, false, false, false, false, false, false, false, false, false, false, false, false, false, false, false] rfl rfl (by kernel_rfl) (fun _ _ _ h => h) (Or.inl ⟨by rfl, ?_⟩) ?_ ?_
      rotate_left
      · intro w'
        go_simp
        (try with_reducible rfl)
      rotate_left
      · simp only [Act.put, List.setIfInBounds_toArray, List.set_cons_zero, List.set_cons_succ, i64_w, i32_w]
        rfl
      refine pure_ (i := 3) (N := (some 14)) (v := ?_) (a' := ?_) #[true, false, true, true, false, false, false, false, false, false, false, false, false, false, false, false, false, false, false, false] rfl rfl (by kernel_rfl) (fun _ _ _ h => h) (Or.inl ⟨by rfl, ?_⟩) ?_ ?_
      rotate_left
      · intro w'
        go_simp
        (try with_reducible rfl)
      rotate_left
      · simp only [Act.put, List.setIfInBounds_toArray, List.set_cons_zero, List.set_cons_succ, i64_w, i32_w]
        rfl
      refine pure_ (i := 4) (N := (some 15)) (v := ?_) (a' := ?_) #[true, false, true, true, true, false, false, false, false, false, false, false, false, false, false, false, false, false, false, false] rfl rfl (by kernel_rfl) (fun _ _ _ h => h) (Or.inl ⟨by rfl, ?_⟩) ?_ ?_
      rotate_left
      · intro w'
        go_simp
        (try with_reducible rfl)
      rotate_left
      · simp only [Act.put, List.setIfInBounds_toArray, List.set_cons_zero, List.set_cons_succ, i64_w, i32_w]
        rfl
      refine take_ (i := 5) (N := (some 16)) (v := ?_) (a' := ?_) #[true, false, true, true, true, true, false, false, false, false, false, false, false, false, false, false, false, false, false, false] rfl rfl (by kernel_rfl) (fun _ _ _ h => h) (Or.inl ⟨by rfl, ?_⟩) hHeld ?_ ?_
      rotate_left
      · rintro w' s0
        go_simp
        (try with_reducible rfl)
      rotate_left
      · simp only [Act.put, List.setIfInBounds_toArray, List.set_cons_zero, List.set_cons_succ, i64_w, i32_w]
        rfl
      refine pure_ (i := 6) (N := (some 17)) (v := ?_) (a' := ?_) #[true, false, true, true, true, true, true, false, false, false, false, false, false, false, false, false, false, false, false, false] rfl rfl (by kernel_rfl) (fun _ _ _ h => h) (Or.inl ⟨by rfl, ?_⟩) ?_ ?_
      rotate_left
      · intro w'
        go_simp
        (try with_reducible rfl)
      rotate_left
      · simp only [Act.put, List.setIfInBounds_toArray, List.set_cons_zero, List.set_cons_succ, i64_w, i32_w]
        rfl
      refine pure_ (i := 7) (N := (some 18)) (v := ?_) (a' := ?_) #[true, false, true, true, true, true, true, true, false, false, false, false, false, false, false, false, false, false, false, false] rfl rfl (by kernel_rfl) (fun _ _ _ h => h) (Or.inl ⟨by rfl, ?_⟩) ?_ ?_
      rotate_left
      · intro w'
        go_simp
        (try with_reducible rfl)
      rotate_left
      · simp only [Act.put, List.setIfInBounds_toArray, List.set_cons_zero, List.set_cons_succ, i64_w, i32_w]
        rfl
      refine pure_ (i := 9) (N := (some 20)) (v := ?_) (a' := ?_) #[true, false, true, true, true, true, true, true, false, true, false, false, false, false, false, false, false, false, false, false] rfl rfl (by kernel_rfl) (fun _ _ _ h => h) (Or.inl ⟨by rfl, ?_⟩) ?_ ?_
      rotate_left
      · intro w'
        go_simp
        (try with_reducible rfl)
      rotate_left
      · simp only [Act.put, List.setIfInBounds_toArray, List.set_cons_zero, List.set_cons_succ, i64_w, i32_w]
        rfl
      refine pure_ (i := 10) (N := (some 21)) (v := ?_) (a' := ?_) #[true, false, true, true, true, true, true, true, false, true, true, false, false, false, false, false, false, false, false, false] rfl rfl (by kernel_rfl) (fun _ _ _ h => h) (Or.inl ⟨by rfl, ?_⟩) ?_ ?_
      rotate_left
      · intro w'
        go_simp
        (try with_reducible rfl)
      rotate_left
      · simp only [Act.put, List.setIfInBounds_toArray, List.set_cons_zero, List.set_cons_succ, i64_w, i32_w]
        rfl
      refine pure_ (i := 11) (N := (some 22)) (v := ?_) (a' := ?_) #[true, false, true, true, true, true, true, true, false, true, true, true, false, false, false, false, false, false, false, false] rfl rfl (by kernel_rfl) (fun _ _ _ h => h) (Or.inl ⟨by rfl, ?_⟩) ?_ ?_
      rotate_left
      · intro w'
        go_simp
        (try with_reducible rfl)
      rotate_left
      · simp only [Act.put, List.setIfInBounds_toArray, List.set_cons_zero, List.set_cons_succ, i64_w, i32_w]
        rfl
      refine take_ (i := 12) (N := (some 23)) (v := ?_) (a' := ?_) #[true, false, true, true, true, true, true, true, false, true, true, true, true, false, false, false, false, false, false, false] rfl rfl (by kernel_rfl) (fun _ _ _ h => h) (Or.inl ⟨by rfl, ?_⟩) hHeld ?_ ?_
      rotate_left
      · rintro w' s0
        go_simp
        (try with_reducible rfl)
      rotate_left
      · simp only [Act.put, List.setIfInBounds_toArray, List.set_cons_zero, List.set_cons_succ, i64_w, i32_w]
        rfl
      refine pure_ (i := 13) (N := (some 24)) (v := ?_) (a' := ?_) #[true, false, true, true, true, true, true, true, false, true, true, true, true, true, false, false, false, false, false, false] rfl rfl (by kernel_rfl) (fun _ _ _ h => h) (Or.inl ⟨by rfl, ?_⟩) ?_ ?_
      rotate_left
      · intro w'
        go_simp
        (try with_reducible rfl)
      rotate_left
      · simp only [Act.put, List.setIfInBounds_toArray, List.set_cons_zero, List.set_cons_succ, i64_w, i32_w]
        rfl
      refine pure_ (i := 14) (N := (some 25)) (v := ?_) (a' := ?_) #[true, false, true, true, true, true, true, true, false, true, true, true, true, true, true, false, false, false, false, false] rfl rfl (by kernel_rfl) (fun _ _ _ h => h) (Or.inl ⟨by rfl, ?_⟩) ?_ ?_
      rotate_left
      · intro w'
        go_simp
        (try with_reducible rfl)
      rotate_left
      · simp only [Act.put, List.setIfInBounds_toArray, List.set_cons_zero, List.set_cons_succ, i64_w, i32_w]
        rfl
      refine pure_ (i := 15) (N := (some 26)) (v := ?_) (a' := ?_) #[true, false, true, true, true, true, true, true, false, true, true, true, true, true, true, true, false, false, false, false] rfl rfl (by kernel_rfl) (fun _ _ _ h => h) (Or.inl ⟨by rfl, ?_⟩) ?_ ?_
      rotate_left
      · intro w'
        go_simp
        (try with_reducible rfl)
      rotate_left
      · simp only [Act.put, List.setIfInBounds_toArray, List.set_cons_zero, List.set_cons_succ, i64_w, i32_w]
        rfl
      generalize w'.drew = wd at *
      refine one_ (i := 1) (N := (some 12)) #[true, true, true, true, true, true, true, true, false, true, true, true, true, true, true, true, false, false, false, false] rfl rfl (by kernel_rfl) (by decide) (fun K hK => ?_)
      refine value_ (w1 := wd.alloc (.cells #[] 82)) (v := .slice (some ⟨wd.heap.size, 0, none⟩) 0 0) (by rfl) rfl (by go_simp) ?_
      have hba := (Below.refl wd.heap.size wd).alloc (Nat.le_refl _) (.cells #[] 82)
      have F0 := (hba.cell (World.block_lt_of_cell? _ _ hHeld)).trans hHeld
      refine hK.out _ _ F0 (fun hHeld => ?_)
      clear hK K F0
      refine norm_ (a' := ?_) ?_ ?_
      rotate_left
      · show Act.put _ (some 12) _ = _
        simp only [Act.put, List.setIfInBounds_toArray, List.set_cons_zero, List.set_cons_succ, i64_w, i32_w]
        rfl
      refine one_ (i := 8) (N := (some 19)) #[true, true, true, true, true, true, true, true, true, true, true, true, true, true, true, true, false, false, false, false] rfl rfl (by kernel_rfl) (by decide) (fun K hK => ?_)
      have B1 := Lib.hid (below_step HBD.out hba)
      have HO0 := HMD.out.cm
      rw [hv, HNN.out] at HO0
      have HOA := HO0.alloc (.cells #[] 82)
      obtain ⟨n1, n2⟩ := own_news HOA 0 (i * 3) HLT.out
      have HE0 : (wd.alloc (.cells #[] 82)).ownsRow wd.heap.size 82 3 (.slice (some ⟨wd.heap.size, 0, none⟩) 0 0) 0 [] := by simpa using World.ownsRow_lit (size := 3) (base := wd.heap.size) wd (e := 82) #[] 0 (Nat.le_refl _) (by decide) rfl
      obtain ⟨v1, w2, hr, O1, G1, -, -⟩ := run_app (P := Try.prog) _ wd.heap.size 45 45 82 iE _ 3 24 Try.underlying45 hiE hz0 hz1 hz2 rfl (by decide) _ 0 [] HE0 (some ⟨g, 0, none⟩) i cp _ n1 (fun e => by cases e) (fun ad e j u hu => by cases e; exact n2 j u hu) (fun u hu => cc_one S.c u (List.mem_of_mem_drop (List.mem_of_mem_take hu))) HB1.out.1 HB1.out.2.1 (by simp)
      rw [Nat.zero_add, List.nil_append] at O1
      have B2 := Lib.hid (B1.out.grown G1 (Nat.le_trans HBD.out.size (by simp)) (fun j e => by injection e with e; rw [← e]; exact HBD.out.size))
      refine value_ (w1 := w2) (v := v1) (by rfl) rfl (exec_app (.tmp 12) (.tmp 18) 45 rfl (by rfl) (by rfl) hr) ?_
      have F0 : w2.cell? ⟨a, 0, none⟩ = some (.slice (some ⟨g, 0, none⟩) n cp) := by
        have := (HM.out.go B2.out).box.cell 0
        rw [show #[vC, vR][0]? = some vC from rfl, hv] at this
        exact this
      have HO1 := Lib.hid O1
      have HSZ2 := Lib.hid (Nat.le_trans (show wd.heap.size ≤ (wd.alloc (.cells #[] 82)).heap.size by simp) G1.size)
      clear HO0 HOA n1 n2 HE0 hr O1 G1 hba
      refine hK.out _ _ F0 (fun hHeld => ?_)
      clear hK K F0
      refine norm_ (a' := ?_) ?_ ?_
      rotate_left
      · show Act.put _ (some 19) _ = _
        simp only [Act.put, List.setIfInBounds_toArray, List.set_cons_zero, List.set_cons_succ, i64_w, i32_w]
        rfl
      refine one_ (i := 16) (N := (some 27)) #[true, true, true, true, true, true, true, true, true, true, true, true, true, true, true, true, true, false, false, false] rfl rfl (by kernel_rfl) (by decide) (fun K hK => ?_)
      have HO0 := (HM.out.go B2.out).cm
      rw [hv, HNN.out] at HO0
      have n1 : (((cc S.c).drop (cp * 3)).take ((n - cp) * 3)).length = (n - cp) * 3 := by rw [List.length_take, List.length_drop]; have := HO0.1; have := HLT2.out; omega
      have n2 : ∀ j u, (((cc S.c).drop (cp * 3)).take ((n - cp) * 3))[j]? = some u → w2.cell? ((⟨g, 0, none⟩ : Addr).add j) = some u := fun j u hu => by
        have e : n - cp = 0 := by
          have := Int.ofNat_le.1 k6
          omega
        rw [e] at hu
        simp at hu
      obtain ⟨v2, w4, hr, O2, G2, -, -⟩ := run_app (P := Try.prog) _ wd.heap.size 45 45 82 iE _ 3 24 Try.underlying45 hiE hz0 hz1 hz2 rfl (by decide) v1 i _ HO1.out (some ⟨g, 0, none⟩) (n - cp) 0 _ n1 (fun e => by cases e) (fun ad e j u hu => by cases e; exact n2 j u hu) (fun u hu => cc_one S.c u (List.mem_of_mem_drop (List.mem_of_mem_take hu))) HB1.out.2.2.1 HB1.out.2.2.2 HSZ2.out
      obtain ⟨A2, c2, rfl, -⟩ := own_form O2
      have B4 := Lib.hid (B2.out.grown G2 B2.out.size (fun j e => Nat.le_trans HBD.out.size (HO1.out.lt j e).1))
      refine value_ (w1 := w4) (v := _) (by rfl) rfl (exec_app (.tmp 19) (.tmp 26) 45 rfl (by rfl) (by show Value.slice (some ⟨g, 0, none⟩) 0 0 = _; rw [show n - cp = 0 from by have := Int.ofNat_le.1 k6; omega]) hr) ?_
      have F0 : w4.cell? ⟨a, 0, none⟩ = some (.slice (some ⟨g, 0, none⟩) n cp) := by
        have := (HM.out.go B4.out).box.cell 0
        rw [show #[vC, vR][0]? = some vC from rfl, hv] at this
        exact this
      have HO2 := Lib.hid O2
      clear HO0 n1 n2 hr O2 G2
      refine hK.out _ _ F0 (fun hHeld => ?_)
      clear hK K F0
      refine norm_ (a' := ?_) ?_ ?_
      rotate_left
      · show Act.put _ (some 27) _ = _
        simp only [Act.put, List.setIfInBounds_toArray, List.set_cons_zero, List.set_cons_succ, i64_w, i32_w]
        rfl
      refine pure_ (i := 17) (N := (some 28)) (v := ?_) (a' := ?_) #[true, true, true, true, true, true, true, true, true, true, true, true, true, true, true, true, true, true, false, false] rfl rfl (by kernel_rfl) (fun _ _ _ h => h) (Or.inl ⟨by rfl, ?_⟩) ?_ ?_
      rotate_left
      · intro w'
        go_simp
        (try with_reducible rfl)
      rotate_left
      · simp only [Act.put, List.setIfInBounds_toArray, List.set_cons_zero, List.set_cons_succ, i64_w, i32_w]
        rfl
      refine pure_ (i := 18) (N := (some 29)) (v := ?_) (a' := ?_) #[true, true, true, true, true, true, true, true, true, true, true, true, true, true, true, true, true, true, true, false] rfl rfl (by kernel_rfl) (fun _ _ _ h => h) (Or.inl ⟨by rfl, ?_⟩) ?_ ?_
      rotate_left
      · intro w'
        go_simp
        (try with_reducible rfl)
      rotate_left
      · simp only [Act.put, List.setIfInBounds_toArray, List.set_cons_zero, List.set_cons_succ, i64_w, i32_w]
        rfl
      refine last_ (i := 19) (N := none) #[true, true, true, true, true, true, true, true, true, true, true, true, true, true, true, true, true, true, true, true] rfl rfl (by kernel_rfl) (by decide) (fun K hK => ?_)
      have z4 := (HM.out.go B4.out).box.frozen 0
      refine skip_ (w1 := w4.setCell ⟨a, 0, none⟩ (.slice A2 (i + (n - cp)) c2)) (by rfl) rfl (by go_simp) ?_
      refine hK.out _ _ ?_
      refine done_ (by kernel_rfl) ?_
      clear hHeld hK K
      go_wp2_with fail
      go_ret
      rw [HP.out]
      have hc1 : cc (S.c.take i ++ S.c.drop cp) = ((cc S.c).drop 0).take (i * 3) ++ ((cc S.c).drop (cp * 3)).take ((n - cp) * 3) := by
        unfold cc
        rw [List.flatMap_append, flat_take cc_f, flat_drop cc_f, List.drop_zero, List.take_of_length_le (l := (List.flatMap _ _).drop _) (by rw [List.length_drop, flat_len cc_f]; have := HNN.out; omega)]
      have hl1 : (S.c.take i ++ S.c.drop cp).length = i + (n - cp) := by rw [List.length_append, List.length_take, List.length_drop, HNN.out]; have := HI.out; omega
      have ho : w4.ownsRow 0 82 3 (.slice A2 (i + (n - cp)) c2) (S.c.take i ++ S.c.drop cp).length (cc (S.c.take i ++ S.c.drop cp)) := by
        rw [hc1, hl1]
        exact own_mono HO2.out (Nat.zero_le _)
      obtain ⟨h5, h6⟩ := HM.out.newC B4.out ho HOK.out
      refine rto_did HO.out HOW.out h5 h6 (fun k hk => ?_) 0
      rcases hk with hk | hk | hk | hk
      · exact .inl (.inl hk)
      · exact .inr (Nat.le_trans HBD.out.size (HO2.out.lt k hk).1)
      · exact .inl (.inr (.inr (.inl hk)))
      · exact .inl (.inr (.inr (.inr hk)))
    · go_enter  Try.func39, Try.ntmps39
      go_wp2_with fail
      refine HC.out.mono ?_
      rintro e w' ⟨rfl, rfl⟩
      have HMD := Lib.hid (HM.out.go (below_drew1 (Below.refl _ _)))
      have HBD := Lib.hid (below_drew1 (Below.refl w'.heap.size w'))
      go_upto_region 4 with (fail)
      refine start_ (n := 20) (S := (fun W => W.cell? ⟨a, 0, none⟩ = some (.slice (some ⟨g, 0, none⟩) n cp))) (ds := [19]) #[false, false, false, false, false, false, false, false, false, false, false, false, false, false, false, false, false, false, false, false] (by kernel_rfl) rfl rfl c0 (fun hHeld => ?_)
      refine pure_ (i := 0) (N := (some 11)) (v := ?_) (a' := ?_) #[true, false, false, false, false, false, false, false, false, false, false, false, false, false, false, false, false, false, false, false] rfl rfl (by kernel_rfl) (fun _ _ _ h => h) (Or.inl ⟨by rfl, ?_⟩) ?_ ?_
      rotate_left
      · intro w'
        go_simp
        (try with_reducible rfl)
      rotate_left
      · simp only [Act.put, List.setIfInBounds_toArray, List.set_cons_zero, List.set_cons_succ, i64_w, i32_w]
        rfl
      refine pure_ (i := 2) (N := (some 13)) (v := ?_) (a' := ?_) #[true, false, true, false, false, false, false, false, false, false, false, false, false, false, false, false, false, false, false, false] rfl rfl (by kernel_rfl) (fun _ _ _ h => h) (Or.inl ⟨by rfl, ?_⟩) ?_ ?_
      rotate_left
      · intro w'
        go_simp
        (try with_reducible rfl)
      rotate_left
      · simp only [Act.put, List.setIfInBounds_toArray, List.set_cons_zero, List.set_cons_succ, i64_w, i32_w]
        rfl
      refine pure_ (i := 3) (N := (some 14)) (v := ?_) (a' := ?_) #[true, false, true, true, false, false, false, false, false, false, false, false, false, false, false, false, false, false, false, false] rfl rfl (by kernel_rfl) (fun _ _ _ h => h) (Or.inl ⟨by rfl, ?_⟩) ?_ ?_
      rotate_left
      · intro w'
        go_simp
        (try with_reducible rfl)
      rotate_left
      · simp only [Act.put, List.setIfInBounds_toArray, List.set_cons_zero, List.set_cons_succ, i64_w, i32_w]
        rfl
      refine pure_ (i := 4) (N := (some 15)) (v := ?_) (a' := ?_) #[true, false, true, true, true, false, false, false, false, false, false, false, false, false, false, false, false, false, false, false] rfl rfl (by kernel_rfl) (fun _ _ _ h => h) (Or.inl ⟨by rfl, ?_⟩) ?_ ?_
      rotate_left
      · intro w'
        go_simp
        (try with_reducible rfl)
      rotate_left
      · simp only [Act.put, List.setIfInBounds_toArray, List.set_cons_zero, List.set_cons_succ, i64_w, i32_w]
        rfl
      refine take_ (i := 5) (N := (some 16)) (v := ?_) (a' := ?_) #[true, false, true, true, true, true, false, false, false, false, false, false, false, false, false, false, false, false, false, false] rfl rfl (by kernel_rfl) (fun _ _ _ h => h) (Or.inl ⟨by rfl, ?_⟩) hHeld ?_ ?_
      rotate_left
      · rintro w' s0
        go_simp
        (try with_reducible rfl)
      rotate_left
      · simp only [Act.put, List.setIfInBounds_toArray, List.set_cons_zero, List.set_cons_succ, i64_w, i32_w]
        rfl
      refine pure_ (i := 6) (N := (some 17)) (v := ?_) (a' := ?_) #[true, false, true, true, true, true, true, false, false, false, false, false, false, false, false, false, false, false, false, false] rfl rfl (by kernel_rfl) (fun _ _ _ h => h) (Or.inl ⟨by rfl, ?_⟩) ?_ ?_
      rotate_left
      · intro w'
        go_simp
        (try with_reducible rfl)
      rotate_left
      · simp only [Act.put, List.setIfInBounds_toArray, List.set_cons_zero, List.set_cons_succ, i64_w, i32_w]
        rfl
      refine pure_ (i := 7) (N := (some 18)) (v := ?_) (a' := ?_) #[true, false, true, true, true, true, true, true, false, false, false, false, false, false, false, false, false, false, false, false] rfl rfl (by kernel_rfl) (fun _ _ _ h => h) (Or.inl ⟨by rfl, ?_⟩) ?_ ?_
      rotate_left
      · intro w'
        go_simp
        (try with_reducible rfl)
      rotate_left
      · simp only [Act.put, List.setIfInBounds_toArray, List.set_cons_zero, List.set_cons_succ, i64_w, i32_w]
        rfl
      refine pure_ (i := 9) (N := (some 20)) (v := ?_) (a' := ?_) #[true, false, true, true, true, true, true, true, false, true, false, false, false, false, false, false, false, false, false, false] rfl rfl (by kernel_rfl) (fun _ _ _ h => h) (Or.inl ⟨by rfl, ?_⟩) ?_ ?_
      rotate_left
      · intro w'
        go_simp
        (try with_reducible rfl)
      rotate_left
      · simp only [Act.put, List.setIfInBounds_toArray, List.set_cons_zero, List.set_cons_succ, i64_w, i32_w]
        rfl
      refine pure_ (i := 10) (N := (some 21)) (v := ?_) (a' := ?_) #[true, false, true, true, true, true, true, true, false, true, true, false, false, false, false, false, false, false, false, false] rfl rfl (by kernel_rfl) (fun _ _ _ h => h) (Or.inl ⟨by rfl, ?_⟩) ?_ ?_
      rotate_left
      · intro w'
        go_simp
        (try with_reducible rfl)
      rotate_left
      · simp only [Act.put, List.setIfInBounds_toArray, List.set_cons_zero, List.set_cons_succ, i64_w, i32_w]
        rfl
      refine pure_ (i := 11) (N := (some 22)) (v := ?_) (a' := ?_) #[true, false, true, true, true, true, true, true, false, true, true, true, false, false, false, false, false, false, false, false] rfl rfl (by kernel_rfl) (fun _ _ _ h => h) (Or.inl ⟨by rfl, ?_⟩) ?_ ?_
      rotate_left
      · intro w'
        go_simp
        (try with_reducible rfl)
      rotate_left
      · simp only [Act.put, List.setIfInBounds_toArray, List.set_cons_zero, List.set_cons_succ, i64_w, i32_w]
        rfl
      refine take_ (i := 12) (N := (some 23)) (v := ?_) (a' := ?_) #[true, false, true, true, true, true, true, true, false, true, true, true, true, false, false, false, false, false, false, false] rfl rfl (by kernel_rfl) (fun _ _ _ h => h) (Or.inl ⟨by rfl, ?_⟩) hHeld ?_ ?_
      rotate_left
      · rintro w' s0
        go_simp
        (try with_reducible rfl)
      rotate_left
      · simp only [Act.put, List.setIfInBounds_toArray, List.set_cons_zero, List.set_cons_succ, i64_w, i32_w]
        rfl
      refine pure_ (i := 13) (N := (some 24)) (v := ?_) (a' := ?_) #[true, false, true, true, true, true, true, true, false, true, true, true, true, true, false, false, false, false, false, false] rfl rfl (by kernel_rfl) (fun _ _ _ h => h) (Or.inl ⟨by rfl, ?_⟩) ?_ ?_
      rotate_left
      · intro w'
        go_simp
        (try with_reducible rfl)
      rotate_left
      · simp only [Act.put, List.setIfInBounds_toArray, List.set_cons_zero, List.set_cons_succ, i64_w, i32_w]
        rfl
      refine pure_ (i := 14) (N := (some 25)) (v := ?_) (a' := ?_) #[true, false, true, true, true, true, true, true, false, true, true, true, true, true, true, false, false, false, false, false] rfl rfl (by kernel_rfl) (fun _ _ _ h => h) (Or.inl ⟨by rfl, ?_⟩) ?_ ?_
      rotate_left
      · intro w'
        go_simp
        (try with_reducible rfl)
      rotate_left
      · simp only [Act.put, List.setIfInBounds_toArray, List.set_cons_zero, List.set_cons_succ, i64_w, i32_w]
        rfl
      refine pure_ (i := 15) (N := (some 26)) (v := ?_) (a' := ?_) #[true, false, true, true, true, true, true, true, false, true, true, true, true, true, true, true, false, false, false, false] rfl rfl (by kernel_rfl) (fun _ _ _ h => h) (Or.inl ⟨by rfl, ?_⟩) ?_ ?_
      rotate_left
      · intro w'
        go_simp
        (try with_reducible rfl)
      rotate_left
      · simp only [Act.put, List.setIfInBounds_toArray, List.set_cons_zero, List.set_cons_succ, i64_w, i32_w]
        rfl
      generalize w'.drew = wd at *
      refine one_ (i := 1) (N := (some 12)) #[true, true, true, true, true, true, true, true, false, true, true, true, true, true, true, true, false, false, false, false] rfl rfl (by kernel_rfl) (by decide) (fun K hK => ?_)
      refine value_ (w1 := wd.alloc (.cells #[] 82)) (v := .slice (some ⟨wd.heap.size, 0, none⟩) 0 0) (by rfl) rfl (by go_simp) ?_
      have hba := (Below.refl wd.heap.size wd).alloc (Nat.le_refl _) (.cells #[] 82)
      have F0 := (hba.cell (World.block_lt_of_cell? _ _ hHeld)).trans hHeld
      refine hK.out _ _ F0 (fun hHeld => ?_)
      clear hK K F0
      refine norm_ (a' := ?_) ?_ ?_
      rotate_left
      · show Act.put _ (some 12) _ = _
        simp only [Act.put, List.setIfInBounds_toArray, List.set_cons_zero, List.set_cons_succ, i64_w, i32_w]
        rfl
      refine one_ (i := 8) (N := (some 19)) #[true, true, true, true, true, true, true, true, true, true, true, true, true, true, true, true, false, false, false, false] rfl rfl (by kernel_rfl) (by decide) (fun K hK => ?_)
      have B1 := Lib.hid (below_step HBD.out hba)
      have HO0 := HMD.out.cm
      rw [hv, HNN.out] at HO0
      have HOA := HO0.alloc (.cells #[] 82)
      obtain ⟨n1, n2⟩ := own_news HOA 0 (i * 3) HLT.out
      have HE0 : (wd.alloc (.cells #[] 82)).ownsRow wd.heap.size 82 3 (.slice (some ⟨wd.heap.size, 0, none⟩) 0 0) 0 [] := by simpa using World.ownsRow_lit (size := 3) (base := wd.heap.size) wd (e := 82) #[] 0 (Nat.le_refl _) (by decide) rfl
      obtain ⟨v1, w2, hr, O1, G1, -, -⟩ := run_app (P := Try.prog) _ wd.heap.size 45 45 82 iE _ 3 24 Try.underlying45 hiE hz0 hz1 hz2 rfl (by decide) _ 0 [] HE0 (some ⟨g, 0, none⟩) i cp _ n1 (fun e => by cases e) (fun ad e j u hu => by cases e; exact n2 j u hu) (fun u hu => cc_one S.c u (List.mem_of_mem_drop (List.mem_of_mem_take hu))) HB1.out.1 HB1.out.2.1 (by simp)
      rw [Nat.zero_add, List.nil_append] at O1
      have B2 := Lib.hid (B1.out.grown G1 (Nat.le_trans HBD.out.size (by simp)) (fun j e => by injection e with e; rw [← e]; exact HBD.out.size))
      refine value_ (w1 := w2) (v := v1) (by rfl) rfl (exec_app (.tmp 12) (.tmp 18) 45 rfl (by rfl) (by rfl) hr) ?_
      have F0 : w2.cell? ⟨a, 0, none⟩ = some (.slice (some ⟨g, 0, none⟩) n cp) := by
        have := (HM.out.go B2.out).box.cell 0
        rw [show #[vC, vR][0]? = some vC from rfl, hv] at this
        exact this
      have HO1 := Lib.hid O1
      have HSZ2 := Lib.hid (Nat.le_trans (show wd.heap.size ≤ (wd.alloc (.cells #[] 82)).heap.size by simp) G1.size)
      clear HO0 HOA n1 n2 HE0 hr O1 G1 hba
      refine hK.out _ _ F0 (fun hHeld => ?_)
      clear hK K F0
      refine norm_ (a' := ?_) ?_ ?_
      rotate_left
      · show Act.put _ (some 19) _ = _
        simp only [Act.put, List.setIfInBounds_toArray, List.set_cons_zero, List.set_cons_succ, i64_w, i32_w]
        rfl
      refine one_ (i := 16) (N := (some 27)) #[true, true, true, true, true, true, true, true, true, true, true, true, true, true, true, true, true, false, false, false] rfl rfl (by kernel_rfl) (by decide) (fun K hK => ?_)
      have HO0 := (HM.out.go B2.out).cm
      rw [hv, HNN.out] at HO0
      obtain ⟨n1, n2⟩ := own_news HO0 (k * 3) ((n - k) * 3) HLT2.out
      obtain ⟨v2, w4, hr, O2, G2, -, -⟩ := run_app (P := Try.prog) _ wd.heap.size 45 45 82 iE _ 3 24 Try.underlying45 hiE hz0 hz1 hz2 rfl (by decide) v1 i _ HO1.out (some ⟨g, k * 3, none⟩) (n - k) (cp - k) _ n1 (fun e => by cases e) (fun ad e j u hu => by cases e; exact n2 j u hu) (fun u hu => cc_one S.c u (List.mem_of_mem_drop (List.mem_of_mem_take hu))) HB1.out.2.2.1 HB1.out.2.2.2 HSZ2.out
      obtain ⟨A2, c2, rfl, -⟩ := own_form O2
      have B4 := Lib.hid (B2.out.grown G2 B2.out.size (fun j e => Nat.le_trans HBD.out.size (HO1.out.lt j e).1))
      refine value_ (w1 := w4) (v := _) (by rfl) rfl (exec_app (.tmp 19) (.tmp 26) 45 rfl (by rfl) (by rfl) hr) ?_
      have F0 : w4.cell? ⟨a, 0, none⟩ = some (.slice (some ⟨g, 0, none⟩) n cp) := by
        have := (HM.out.go B4.out).box.cell 0
        rw [show #[vC, vR][0]? = some vC from rfl, hv] at this
        exact this
      have HO2 := Lib.hid O2
      clear HO0 n1 n2 hr O2 G2
      refine hK.out _ _ F0 (fun hHeld => ?_)
      clear hK K F0
      refine norm_ (a' := ?_) ?_ ?_
      rotate_left
      · show Act.put _ (some 27) _ = _
        simp only [Act.put, List.setIfInBounds_toArray, List.set_cons_zero, List.set_cons_succ, i64_w, i32_w]
        rfl
      refine pure_ (i := 17) (N := (some 28)) (v := ?_) (a' := ?_) #[true, true, true, true, true, true, true, true, true, true, true, true, true, true, true, true, true, true, false, false] rfl rfl (by kernel_rfl) (fun _ _ _ h => h) (Or.inl ⟨by rfl, ?_⟩) ?_ ?_
      rotate_left
      · intro w'
        go_simp
        (try with_reducible rfl)
      rotate_left
      · simp only [Act.put, List.setIfInBounds_toArray, List.set_cons_zero, List.set_cons_succ, i64_w, i32_w]
        rfl
      refine pure_ (i := 18) (N := (some 29)) (v := ?_) (a' := ?_) #[true, true, true, true, true, true, true, true, true, true, true, true, true, true, true, true, true, true, true, false] rfl rfl (by kernel_rfl) (fun _ _ _ h => h) (Or.inl ⟨by rfl, ?_⟩) ?_ ?_
      rotate_left
      · intro w'
        go_simp
        (try with_reducible rfl)
      rotate_left
      · simp only [Act.put, List.setIfInBounds_toArray, List.set_cons_zero, List.set_cons_succ, i64_w, i32_w]
        rfl
      refine last_ (i := 19) (N := none) #[true, true, true, true, true, true, true, true, true, true, true, true, true, true, true, true, true, true, true, true] rfl rfl (by kernel_rfl) (by decide) (fun K hK => ?_)
      have z4 := (HM.out.go B4.out).box.frozen 0
      refine skip_ (w1 := w4.setCell ⟨a, 0, none⟩ (.slice A2 (i + (n - k)) c2)) (by rfl) rfl (by go_simp) ?_
      refine hK.out _ _ ?_
      refine done_ (by kernel_rfl) ?_
      clear hHeld hK K
      go_wp2_with fail
      go_ret
      rw [HP.out]
      have hc1 : cc (S.c.take i ++ S.c.drop k) = ((cc S.c).drop 0).take (i * 3) ++ ((cc S.c).drop (k * 3)).take ((n - k) * 3) := by
        unfold cc
        rw [List.flatMap_append, flat_take cc_f, flat_drop cc_f, List.drop_zero, List.take_of_length_le (l := (List.flatMap _ _).drop _) (by rw [List.length_drop, flat_len cc_f]; have := HNN.out; omega)]
      have hl1 : (S.c.take i ++ S.c.drop k).length = i + (n - k) := by rw [List.length_append, List.length_take, List.length_drop, HNN.out]; have := HI.out; omega
      have ho : w4.ownsRow 0 82 3 (.slice A2 (i + (n - k)) c2) (S.c.take i ++ S.c.drop k).length (cc (S.c.take i ++ S.c.drop k)) := by
        rw [hc1, hl1]
        exact own_mono HO2.out (Nat.zero_le _)
      obtain ⟨h5, h6⟩ := HM.out.newC B4.out ho HOK.out
      refine rto_did HO.out HOW.out h5 h6 (fun k hk => ?_) 0
      rcases hk with hk | hk | hk | hk
      · exact .inl (.inl hk)
      · exact .inr (Nat.le_trans HBD.out.size (HO2.out.lt k hk).1)
      · exact .inl (.inr (.inr (.inl hk)))
      · exact .inl (.inr (.inr (.inr hk)))
end Go.Proofs.Ytdobpieiobikpaa.Base
