/- The document's store: counters put, deleted, counted. Conditions: as each contract says. -/
import Derived.Test.YtdobpieiobikpaaRefG
import Derived.StillTailTactics
set_option linter.unusedVariables false
set_option linter.unusedSimpArgs false
namespace Go.Proofs.Ytdobpieiobikpaa.Base
open Go Go.RowKit Go.Proofs.Ytdobpieiobikpaa.Mem Go.Proofs.YtdobpieiobikpaaW.PrintWords Go.Proofs.YtdobpieiobikpaaW.PrintLast
theorem i64_bd' {a : Int} (h : (Lit.int .i64 a).wf = true) : -9223372036854775808 ≤ a ∧ a ≤ 9223372036854775807 := by
  have : IntKind.i64.min ≤ a ∧ a ≤ IntKind.i64.max := by simpa [Lit.wf] using h
  simp [IntKind.min, IntKind.max, IntKind.signed, IntKind.bits] at this
  omega
theorem info82 : (Try.prog.info? 82).map (fun i => (i.zero, i.size, i.bytes)) = some (some (.agg #[.int .i64 0, .int .u64 0, .int .u64 0]), 3, 24) := by kernel_rfl
/-- A row's cells, as an append reads them. -/
theorem own_all {w : World} {N e s n : Nat} {A : Option Addr} {cap : Nat} {xs : List Value} (h : w.ownsRow N e s (.slice A n cap) n xs) :
    xs.length = n * s ∧ (A = none → n = 0) ∧ ∀ ad, A = some ad → ∀ j u, xs[j]? = some u → w.cell? (ad.add j) = some u := by
  refine ⟨h.1, fun e0 => ?_, fun ad e0 j u hu => ?_⟩
  · subst e0
    rcases h.2 with ⟨hv, h0⟩ | ⟨g, c, cur, hv, _⟩
    · exact h0
    · cases hv
  · subst e0
    rcases h.2 with ⟨hv, h0⟩ | ⟨g, c, cur, hv, _⟩
    · cases hv
    · injection hv with hv
      injection hv with hv
      subst hv
      have hj := (List.getElem?_eq_some_iff.1 hu).1
      have hl := h.1
      rw [Mem.add_at, Nat.zero_add, h.cellAt j (by omega)]
      exact hu
theorem rto_did {w w1 : World} {a : Nat} {O : Nat → Prop} {S' : St} {vC vR vC' vR' : Value} {rr rr' : List (Int × RowE)} (hO : ∀ k, O k → k < w.heap.size) (hown : ∀ k, ROwn a vC vR rr k → O k) (h' : RM w1 a vC' vR' S' rr') (hf : Fp (fun j => j = a) w w1) (hk : ∀ k, ROwn a vC' vR' rr' k → ROwn a vC vR rr k ∨ w.heap.size ≤ k) (q : Int) : RDid w a O (q, S') (.returned (.int .i64 q)) w1 := by
  refine ⟨rfl, h'.rto hO hf.size (fun k hk' => ?_), hf.weak (fun i hi _ => ?_)⟩
  · rcases hk k hk' with h1 | h1
    · exact .inl (hown k h1)
    · exact .inr h1
  · exact hown i (.inl hi)
set_option maxHeartbeats 6400000 in
set_option maxRecDepth 100000 in
theorem rputC_any (a : Nat) (O : Nat → Prop) (S : St) (id : Int) (w : World) (h : Rto w a O S) (hl : S.c.length < 1000000) :
    Calls Try.prog 38 #[ptr a, .int .i64 id] w (RDid w a O (putC S id)) := by
  have HSTO := Lib.hid h
  obtain ⟨hO, vC, vR, rr, hm, hown⟩ := h
  have HC := Lib.hid (idxC_any a vC vR S rr id w hm)
  have HM := Lib.hid hm
  have HOW := Lib.hid hown
  have HO := Lib.hid hO
  clear hown hO
  rcases hm.findC id with ⟨h1, h2⟩ | ⟨i, p, h1, h2, h3, h4, -, -⟩
  · have HP := Lib.hid (show putC S id = (0, { S with c := S.c ++ [(id, (0, 0))] }) by unfold putC; rw [h2, putE_new h2])
    have HOK := Lib.hid (show St.ok { S with c := S.c ++ [(id, (0, 0))] } by
      have := HM.out.ok.putC id (0, 0) ⟨by unfold u64ok; decide, by unfold u64ok; decide⟩
      rw [putE_new h2] at this
      exact this)
    rw [h1] at HC
    obtain ⟨A, cp, hv, hle, hmx⟩ := own_form2 hm.cm
    have hb1 : Below w.heap.size w (w.alloc (.cells #[] 82)) := (Below.refl _ _).alloc (Nat.le_refl _) _
    have HB1 := Lib.hid hb1
    have hma := hm.go hb1
    have c0 := hma.box.cell 0
    rw [show #[vC, vR][0]? = some vC from rfl, hv] at c0
    have hcm := hma.cm
    rw [hv] at hcm
    have HNW := Lib.hid (own_all hcm)
    have HE0 := Lib.hid (show (w.alloc (.cells #[] 82)).ownsRow w.heap.size 82 3 (.slice (some ⟨w.heap.size, 0, none⟩) 0 0) 0 [] from by simpa using World.ownsRow_lit (size := 3) (base := w.heap.size) w (e := 82) #[] 0 (Nat.le_refl _) (by decide) rfl)
    obtain ⟨i82, hi82, hz0, hz1, hz2⟩ := info_parts info82
    have HSZ := Lib.hid (show w.heap.size ≤ (w.alloc (.cells #[] 82)).heap.size by simp)
    have HL1 := Lib.hid (show 0 + S.c.length ≤ maxLen ∧ (0 + S.c.length) * 24 ≤ 140737488355328 ∧ S.c.length + 1 ≤ maxLen ∧ (S.c.length + 1) * 24 ≤ 140737488355328 by unfold maxLen; omega)
    clear h1 h2 hma hcm hb1 hm hl
    go_enter Try.func38, Try.ntmps38
    go_wp2_with fail
    refine HC.out.mono ?_
    rintro e w' ⟨rfl, rfl⟩
    go_wp2_with (at_builtin; first
      | (refine wpList_app rfl (.tmp 10) (.tmp 14) 45 rfl w'.heap.size 82 i82 _ 3 24 Try.underlying45 hi82 hz0 hz1 hz2 rfl (by decide) (.slice (some ⟨w'.heap.size, 0, none⟩) 0 0) 0 [] (by rfl) HE0.out A S.c.length cp (cc S.c) (by rfl) HNW.out.1 HNW.out.2.1 HNW.out.2.2 (cc_one S.c) HL1.out.1 HL1.out.2.1 HSZ.out ?_; intro v1 w2 O1 G1 P1 N1; rw [Nat.zero_add, List.nil_append] at O1; have B2 := Lib.hid (HB1.out.grown G1 HSZ.out (fun j e => by injection e with e; exact Nat.le_of_eq e)); have O2 := Lib.hid (O1.alloc (.cells #[.int .i64 id, .int .u64 0, .int .u64 0] 82)); have O1H := Lib.hid O1; clear O1 G1 P1 N1)
      | (go_must (refine wpList_app rfl (.tmp 15) (.tmp 18) 45 rfl w'.heap.size 82 i82 _ 3 24 Try.underlying45 hi82 hz0 hz1 hz2 rfl (by decide) v1 S.c.length (cc S.c) (by rfl) O2.out (some ⟨w2.heap.size, 0, none⟩) 1 1 (cCells (id, (0, 0))) (by rfl) rfl (fun e => by cases e) (fun ad e j u hu => by cases e; rw [Mem.add_at, Nat.zero_add, (Blk.new w2 82 _).cell, ← Array.getElem?_toList]; exact hu) (fun u hu => cc_one [(id, (0, 0))] u (by simpa [cc] using hu)) HL1.out.2.2.1 HL1.out.2.2.2 (Nat.le_trans B2.out.size (by simp)) ?_; intro v2 w4 O4 G4 P4 N4; obtain ⟨A2, c2, rfl, -⟩ := own_form O4; have B4 := Lib.hid ((B2.out.alloc B2.out.size _).grown G4 (Nat.le_trans B2.out.size (by simp)) (fun j e => (O1H.out.lt j e).1)); have HO4 := Lib.hid O4; have c4 := (HM.out.go B4.out).box.cell 0; have z4 := (HM.out.go B4.out).box.frozen 0; rw [show #[vC, vR][0]? = some vC from rfl, hv] at c4; clear O4 G4 P4 N4)))
    go_ret
    rw [HP.out]
    have hcc : cc (S.c ++ [(id, (0, 0))]) = cc S.c ++ cCells (id, (0, 0)) := by unfold cc; simp
    have ho : w4.ownsRow 0 82 3 (.slice A2 (S.c.length + 1) c2) (S.c ++ [(id, (0, 0))]).length (cc (S.c ++ [(id, (0, 0))])) := by
      rw [hcc, List.length_append]
      exact own_mono HO4.out (Nat.zero_le _)
    obtain ⟨h5, h6⟩ := HM.out.newC B4.out ho HOK.out
    refine rto_did HO.out HOW.out h5 h6 (fun k hk => ?_) 0
    rcases hk with hk | hk | hk | hk
    · exact .inl (.inl hk)
    · exact .inr (HO4.out.lt k hk).1
    · exact .inl (.inr (.inr (.inl hk)))
    · exact .inl (.inr (.inr (.inr hk)))
  · have HP := Lib.hid (show putC S id = (7, S) by unfold putC; rw [h2])
    rw [h3] at HC
    have k0 : (0 : Int) ≤ (i : Int) := by omega
    clear h1 h2 h3 h4 hm
    go_enter Try.func38, Try.ntmps38
    go_wp2_with fail
    refine HC.out.mono ?_
    rintro e w' ⟨rfl, rfl⟩
    go_wp2_with fail
    go_ret
    rw [HP.out]
    exact ⟨rfl, HSTO.out.same (Below.refl _ _), Fp.refl _ _⟩
set_option maxHeartbeats 6400000 in
set_option maxRecDepth 100000 in
theorem rcnt_any (a : Nat) (O : Nat → Prop) (S : St) (id n : Int) (w : World) (h : Rto w a O S) (hn : (Lit.int .i64 n).wf = true) :
    Calls Try.prog 40 #[ptr a, .int .i64 id, .int .i64 n] w (RDid w a O (cnt S id n)) := by
  have HSTO := Lib.hid h
  obtain ⟨hO, vC, vR, rr, hm, hown⟩ := h
  have HC := Lib.hid (idxC_any a vC vR S rr id w hm)
  have HM := Lib.hid hm
  have HOW := Lib.hid hown
  have HO := Lib.hid hO
  clear hown hO
  rcases hm.findC id with ⟨h1, h2⟩ | ⟨i, p, h1, h2, h3, h4, h5, h6⟩
  · have HP := Lib.hid (show cnt S id n = (6, S) by unfold cnt; rw [h2])
    rw [h1] at HC
    clear h1 h2 hm
    go_enter Try.func40, Try.ntmps40
    go_wp2_with fail
    refine HC.out.mono ?_
    rintro e w' ⟨rfl, rfl⟩
    go_wp2_with fail
    go_ret
    rw [HP.out]
    exact ⟨rfl, HSTO.out.same (Below.refl _ _), Fp.refl _ _⟩
  · rw [h3] at HC
    have k0 : (0 : Int) ≤ (i : Int) := by omega
    have k2 : ¬ (i : Int) < 0 := by omega
    by_cases hneg : n < 0
    · have HP := Lib.hid (show cnt S id n = (1, S) by unfold cnt; rw [h2]; exact if_pos hneg)
      clear h1 h2 h3 h4 hm
      go_enter Try.func40, Try.ntmps40
      go_wp2_with fail
      refine HC.out.mono ?_
      rintro e w' ⟨rfl, rfl⟩
      go_wp2_with fail
      go_ret
      rw [HP.out]
      exact ⟨rfl, HSTO.out.same (Below.refl _ _), Fp.refl _ _⟩
    · obtain ⟨x, y⟩ := p
      have hnw : IntKind.u64.wrap n = n := by rw [u64_wrap]; unfold u64w; have := (i64_bd' hn).2; omega
      have hs1 := u64_wrap (x + 1)
      have hs2 := u64_wrap (y + n)
      have hok1 := hm.ok.putC id (u64w (x + 1), y) ⟨u64w_ok _, h6⟩
      have hok2 := hm.ok.putC id (u64w (x + 1), u64w (y + n)) ⟨u64w_ok _, u64w_ok _⟩
      have hpc : cnt S id n = (0, { S with c := putE S.c id (u64w (x + 1), u64w (y + n)) }) := by unfold cnt; rw [h2]; exact if_neg hneg
      have e1 : ∀ z, putE S.c id z = S.c.set i (id, z) := fun z => putE_idx hm.ok.ck h1
      rw [e1] at hok1 hok2 hpc
      generalize u64w (x + 1) = x' at *
      generalize u64w (y + n) = y' at *
      obtain ⟨g, cap, hv, d0, d1, d2, z0⟩ := hm.cAt i h1
      have c0 := hm.box.cell 0
      rw [show #[vC, vR][0]? = some vC from rfl, hv] at c0
      have hset1 : (S.c.set i (id, (x', y)))[i]? = some (id, (x', y)) := List.getElem?_set_self (List.getElem?_eq_some_iff.1 h1).1
      have hset2 : (S.c.set i (id, (x', y))).set i (id, (x', y')) = S.c.set i (id, (x', y')) := List.set_set ..
      have HH1 := Lib.hid h1
      have HOK1 := Lib.hid hok1
      have HOK2 := Lib.hid hok2
      have HPC := Lib.hid hpc
      have HV := Lib.hid hv
      have HS1 := Lib.hid hset1
      have HS2 := Lib.hid hset2
      have HLEN := Lib.hid (show (S.c.set i (id, (x', y))).length = S.c.length from List.length_set ..)
      have HL := Lib.hid h4
      obtain ⟨nn, hnn⟩ : ∃ nn, S.c.length = nn := ⟨_, rfl⟩
      have HNN := Lib.hid hnn
      rw [hnn] at c0 h4
      clear h1 h2 h3 h5 h6 hm hok1 hok2 hpc e1 hv hset1 hset2 z0 hnn
      go_enter Try.func40, Try.ntmps40
      go_wp2_with fail
      refine HC.out.mono ?_
      rintro e w' ⟨rfl, rfl⟩
      go_upto_region 6 with (fail)
      go_still_tail 14, (by kernel_rfl)
      change wpList _ _ _ _ _ w'.drew
      have HMD := Lib.hid (HM.out.go (below_drew1 (Below.refl _ _)))
      have HBD := Lib.hid (below_drew1 (Below.refl w'.heap.size w'))
      clear c0 d0 d1 d2
      generalize w'.drew = w1 at *
      obtain ⟨g', cap', hv', d0, d1, d2, z0⟩ := HMD.out.cAt i HH1.out
      have hgg := HV.out.symm.trans hv'
      injection hgg with hgg1 _ hgg3
      injection hgg1 with hgg1
      injection hgg1 with hgg1
      subst hgg1 hgg3
      have c0 := HMD.out.box.cell 0
      rw [show #[vC, vR][0]? = some vC from rfl, HV.out, HNN.out] at c0
      obtain ⟨m1, f1⟩ := HMD.out.setC (q := (id, (x', y))) i HH1.out 1 (by decide) (.int .u64 x') rfl HOK1.out HV.out
      have z1 := z0 (i * 3 + 1)
      have HM2 := Lib.hid m1
      have HF2 := Lib.hid f1
      clear hv' m1 f1 z0
      go_upto_region 7 with (fail)
      clear c0 d0 d1 d2 z1
      generalize w1.setCell ⟨g, i * 3 + 1, none⟩ (.int .u64 x') = w2 at *
      have HV2 := Lib.hid (show vC = .slice (some ⟨g, 0, none⟩) (S.c.set i (id, (x', y))).length cap by rw [HLEN.out]; exact HV.out)
      obtain ⟨g', cap', hv', d0, d1, d2, z0⟩ := HM2.out.cAt i HS1.out
      have hgg := HV2.out.symm.trans hv'
      injection hgg with hgg1 _ hgg3
      injection hgg1 with hgg1
      injection hgg1 with hgg1
      subst hgg1 hgg3
      have c0 := HM2.out.box.cell 0
      rw [show #[vC, vR][0]? = some vC from rfl, HV.out, HNN.out] at c0
      clear hv' z0
      go_still_tail 16, (by kernel_rfl)
      change wpList _ _ _ _ _ w2.drew
      have HM3 := Lib.hid (HM2.out.go (below_drew1 (Below.refl _ _)))
      have HB3 := Lib.hid (below_drew1 (Below.refl w2.heap.size w2))
      clear c0 d0 d1 d2
      generalize w2.drew = w3 at *
      obtain ⟨g', cap', hv', d0, d1, d2, z0⟩ := HM3.out.cAt i HS1.out
      have hgg := HV2.out.symm.trans hv'
      injection hgg with hgg1 _ hgg3
      injection hgg1 with hgg1
      injection hgg1 with hgg1
      subst hgg1 hgg3
      have c0 := HM3.out.box.cell 0
      rw [show #[vC, vR][0]? = some vC from rfl, HV.out, HNN.out] at c0
      have z2 := z0 (i * 3 + 2)
      have HOK3 := HOK2.out
      rw [← HS2.out] at HOK3
      obtain ⟨m4, f4⟩ := HM3.out.setC (q := (id, (x', y'))) i HS1.out 2 (by decide) (.int .u64 y') rfl HOK3 HV2.out
      have HM4 := Lib.hid m4
      have HF4 := Lib.hid f4
      clear hv' m4 f4 z0 HOK3
      go_wp2_with fail
      go_ret
      rw [HPC.out]
      have hm5 := HM4.out
      simp only [HS2.out] at hm5
      have hg : ∀ j, j = g → j < w'.heap.size → O j := fun j hj _ => HOW.out j (.inr (.inl (by rw [HV.out, hj]; rfl)))
      have hf := (((Fp.of_below HBD.out O).next HF2.out hg).trans (Fp.of_below HB3.out O)).next HF4.out hg
      exact ⟨rfl, hm5.rto HO.out hf.size (fun k hk => .inl (HOW.out k hk)), hf⟩
end Go.Proofs.Ytdobpieiobikpaa.Base
