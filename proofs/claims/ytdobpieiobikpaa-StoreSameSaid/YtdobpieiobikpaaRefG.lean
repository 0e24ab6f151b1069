/- The document's store: what is told. Conditions: as each contract says. -/
import Derived.Test.YtdobpieiobikpaaRefI
import Derived.BigQuiet
set_option linter.unusedVariables false
set_option linter.unusedSimpArgs false
namespace Go.Proofs.Ytdobpieiobikpaa.Base
open Go Go.RowKit Go.Proofs.Ytdobpieiobikpaa.Mem Go.Proofs.YtdobpieiobikpaaW.PrintWords Go.Proofs.YtdobpieiobikpaaW.PrintLast
theorem RM.findC {w : World} {a : Nat} {vC vR : Value} {S : St} {rr : List (Int × RowE)} (h : RM w a vC vR S rr) (id : Int) :
    (idxE S.c id = -1 ∧ lookE S.c id = none) ∨ ∃ (i : Nat) (p : Int × Int), S.c[i]? = some (id, p) ∧ lookE S.c id = some p ∧ idxE S.c id = (i : Int) ∧ (i : Int) < (S.c.length : Int) ∧ u64ok p.1 ∧ u64ok p.2 := by
  rcases idx_cases S.c id with h1 | ⟨i, v, h1, h2, h3, h4⟩
  · exact .inl h1
  · have := h.ok.cw _ (lookE_mem h2)
    exact .inr ⟨i, v, h1, h2, h3, by omega, this.1, this.2⟩
theorem RM.findR {w : World} {a : Nat} {vC vR : Value} {S : St} {rr : List (Int × RowE)} (h : RM w a vC vR S rr) (id : Int) :
    (idxE rr id = -1 ∧ lookE S.r id = none) ∨ ∃ (i : Nat) (v : RowE), rr[i]? = some (id, v) ∧ lookE rr id = some v ∧ lookE S.r id = some v.xs ∧ idxE rr id = (i : Int) ∧ (i : Int) < (rr.length : Int) ∧ v.xs.length ≤ 1024 ∧ v.xs.length ≤ v.cap := by
  rcases idx_cases rr id with ⟨h1, h2⟩ | ⟨i, v, h1, h2, h3, h4⟩
  · exact .inl ⟨h1, by rw [h.abs, absR_look, h2]; rfl⟩
  · refine .inr ⟨i, v, h1, h2, by rw [h.abs, absR_look, h2]; rfl, h3, by omega, (h.ok.rw_ (id, v.xs) (by rw [h.abs]; exact List.mem_map.2 ⟨_, lookE_mem h2, rfl⟩)).2.1, ?_⟩
    rcases (h.rows _ (lookE_mem h2)).2 with ⟨hv, _⟩ | ⟨g, cap, cur, hv, _, _, hc, _⟩
    · cases hv
    · unfold rVal at hv
      injection hv with _ _ e
      rw [e]; exact hc
set_option maxHeartbeats 3200000 in
theorem rgetC_SM (a : Nat) (vC vR : Value) (S : St) (rr : List (Int × RowE)) (id : Int) (w : World) (h : RM w a vC vR S rr) : Calls Try.prog 47 #[ptr a, .int .i64 id] w (Got w (getC S id)) := by
  have HC := Lib.hid (idxC_any a vC vR S rr id w h)
  have HM := Lib.hid h
  rcases h.findC id with ⟨h1, h2⟩ | ⟨i, p, h1, h2, h3, h4, -, -⟩
  · have HP := Lib.hid (show getC S id = (0, 0, 6) by unfold getC; rw [h2])
    rw [h1] at HC
    clear h h1 h2
    go_enter Try.func47, Try.ntmps47
    go_wp2_with fail
    refine HC.out.mono ?_
    rintro e _ ⟨rfl, rfl⟩
    go_wp2_with fail
    refine bodyPost_ret (v := .tuple #[.int .u64 0, .int .u64 0, .int .i64 6]) (by simp [results, Try.results47, go_sem]) rfl ?_
    rw [HP.out]
    exact ⟨rfl, Below.refl _ _⟩
  · obtain ⟨x, y⟩ := p
    have HP := Lib.hid (show getC S id = (x, y, 0) by unfold getC; rw [h2])
    obtain ⟨g, cap, hv, d0, d1, d2, -⟩ := h.cAt i h1
    have c0 := h.box.cell 0
    rw [show #[vC, vR][0]? = some vC from rfl, hv] at c0
    rw [h3] at HC
    have k0 : (0 : Int) ≤ (i : Int) := by omega
    have k2 : ¬ (i : Int) < 0 := by omega
    generalize S.c.length = n at *
    clear h h1 h2 h3 hv
    go_enter Try.func47, Try.ntmps47
    go_wp2_with fail
    refine HC.out.mono ?_
    rintro e _ ⟨rfl, rfl⟩
    go_wp2_with fail
    go_quiet (fail)
    go_wp2_with fail
    refine bodyPost_ret (v := .tuple #[.int .u64 x, .int .u64 y, .int .i64 0]) (by simp [results, Try.results47, go_sem]) rfl ?_
    rw [HP.out]
    exact ⟨rfl, pw_below_drewN (Below.refl _ _) _⟩
theorem quiet_left {P : Program} {f : FuncId} {args : Array Value} {w : World} {n : Nat} {v : Value}
    (h : Calls P f args (w.drewN n) fun e w' => e = .returned v ∧ w' = w.drewN n) : Calls P f args (w.drewN n) fun e w'' => e = .returned v ∧ ∃ m, w'' = w.drewN m :=
  h.mono fun _ _ ⟨he, hm⟩ => ⟨he, n, hm⟩
set_option maxHeartbeats 3200000 in
theorem rload_SM (a : Nat) (vC vR : Value) (S : St) (rr : List (Int × RowE)) (id : Int) (k : Nat) (w : World) (h : RM w a vC vR S rr) (hk : k < 18446744073709551616) :
    Calls Try.prog 45 #[ptr a, .int .i64 id, .int .u64 (k : Int)] w (Lod w (load S id (k : Int))) := by
  have HW := Lib.hid (wrong_any a vC vR S rr id k w h hk)
  have HM := Lib.hid h
  by_cases hat : atR S id (k : Int) = 0
  · have HP := Lib.hid (show load S id (k : Int) = (getR S id (k : Int), 0) by unfold load; rw [if_pos hat])
    rw [hat] at HW
    rcases h.findR id with ⟨h1, h2⟩ | ⟨i, v, h1, h2, h3, h4, h5, h6, h7⟩
    · unfold atR at hat
      rw [h2] at hat
      cases hat
    · have hkl : k < v.xs.length := by
        unfold atR at hat
        rw [h3] at hat
        by_cases hc : (k : Int) < v.xs.length
        · omega
        · simp [hc] at hat
      have hg : getR S id (k : Int) = v.xs[k] := by
        unfold getR
        rw [h3]
        simp [hkl]
      rw [hg] at HP
      clear h hat h3 hg
      have HI := Lib.hid (fun W (hW : RM W a vC vR S rr) => by have := idxR_any a vC vR S rr id W hW; rw [h4] at this; exact this)
      have HL2 := Lib.hid h2
      have HR1 := Lib.hid h1
      have HKL := Lib.hid hkl
      clear h4 h1 h2
      generalize hx : v.xs[k] = x at HP
      have HXX := Lib.hid hx
      clear hx
      have k0 : (0 : Int) ≤ (i : Int) := by omega
      have k3 : (k : Int) < (v.xs.length : Int) := by omega
      go_enter Try.func45, Try.ntmps45
      go_wp2_with fail
      refine HW.out.mono ?_
      rintro e w1 ⟨rfl, hb⟩
      have HM1 := Lib.hid (HM.out.go hb)
      have HB := Lib.hid hb
      obtain ⟨g, cap, hv, d0, d1⟩ := HM1.out.rAt i HR1.out
      have c1 := HM1.out.box.cell 1
      rw [show #[vC, vR][1]? = some vR from rfl, hv] at c1
      obtain ⟨e0, -⟩ := HM1.out.xAt (lookE_mem HL2.out) k HKL.out
      have HXE := HXX.out
      rw [show ((id, v) : Int × RowE).2 = v from rfl] at d1
      rw [show (((id, v) : Int × RowE).2.xs[k]'HKL.out) = x from HXX.out] at e0
      rw [show ((id, v) : Int × RowE).2 = v from rfl] at e0
      obtain ⟨m, hm⟩ : ∃ m, v.xs.length = m := ⟨_, rfl⟩
      obtain ⟨n, hn⟩ : ∃ n, rr.length = n := ⟨_, rfl⟩
      rw [hm] at d1 k3
      rw [hn] at c1 h5
      clear hb hv hm hn HXE h6 h7 hkl
      go_wp2_with fail
      go_quiet ((first | (go_at_call 52; exact quiet_left (HI.out _ (HM1.out.go (pw_below_drewN (Below.refl _ _) _))))))
      go_wp2_with fail
      go_ret2
      rw [HP.out]
      exact ⟨rfl, pw_below_drewN HB.out _⟩
  · have hne2 : (atR S id (k : Int) == 0) = false := beq_eq_false_iff_ne.2 hat
    have HP := Lib.hid (show load S id (k : Int) = (0, atR S id (k : Int)) by unfold load; rw [if_neg hat])
    clear h
    generalize atR S id (k : Int) = q at *
    go_enter Try.func45, Try.ntmps45
    go_wp2_with fail
    refine HW.out.mono ?_
    rintro e w1 ⟨rfl, hb⟩
    go_wp2_with fail
    go_ret2
    rw [HP.out]
    exact ⟨rfl, hb⟩
end Go.Proofs.Ytdobpieiobikpaa.Base
