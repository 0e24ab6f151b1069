/- A key goes: Del (11). Conditions: as the contract says. -/
import Derived.Test.YtfpnedooipfpoaaPut
set_option linter.unusedVariables false
set_option linter.unusedSimpArgs false
namespace Go.Proofs.Ytfpnedooipfpoaa.Base
open Go Go.RowKit Go.Proofs.Ytfpnedooipfpoaa Go.Proofs.Ytfpnedooipfpoaa.Ex Go.Proofs.Ytfpnedooipfpoaa.Mem Go.Proofs.Ytfpnedooipfpoaa.Math Go.Proofs.YtfpnedooipfpoaaW.PrintWords Go.Proofs.YtfpnedooipfpoaaW.PrintLast Go.Proofs.Ytfpnedooipfpoaa.PExactHalf
theorem free_next {L : Slots} {t m at_ : Nat} {e : Ent} (hat : gt L at_ = some e) (hlt : at_ < L.length) (ht : t < m) (hg : gt L ((at_ + t) % L.length) = none) : ∃ m', m = m' + 1 ∧ ∃ t', t' < m' ∧ gt L (((at_ + 1) % L.length + t') % L.length) = none := by
  have h0 : t ≠ 0 := fun h => by subst h; rw [Nat.add_zero, Nat.mod_eq_of_lt hlt, hat] at hg; cases hg
  obtain ⟨t, rfl⟩ : ∃ s, t = s + 1 := ⟨t - 1, by omega⟩
  obtain ⟨m, rfl⟩ : ∃ s, m = s + 1 := ⟨m - 1, by omega⟩
  refine ⟨m, rfl, t, by omega, ?_⟩
  rw [Nat.mod_add_mod, Nat.add_assoc, Nat.add_comm 1 t]
  exact hg
theorem delGo_end {L : Slots} {m f at_ : Nat} (h : gt L at_ = none) : delGo HH L m f at_ = L.set f none := by
  cases m with
  | zero => rfl
  | succ m => unfold delGo; rw [h]
theorem delGo_move {L : Slots} {m f at_ : Nat} {e : Ent} (h : gt L at_ = some e) (hl : aw L.length (plc HH L.length e.1) f < aw L.length (plc HH L.length e.1) at_) : delGo HH L (m + 1) f at_ = delGo HH (L.set f (some e)) m at_ ((at_ + 1) % L.length) := by
  rw [delGo, h]
  exact if_pos hl
theorem delGo_stay {L : Slots} {m f at_ : Nat} {e : Ent} (h : gt L at_ = some e) (hl : ¬ aw L.length (plc HH L.length e.1) f < aw L.length (plc HH L.length e.1) at_) : delGo HH L (m + 1) f at_ = delGo HH L m f ((at_ + 1) % L.length) := by
  rw [delGo, h]
  exact if_neg hl
structure DlS (w : World) (a g cap : Nat) (N at0 : Nat) (c : Int) (O : Nat → Prop) (R : Slots) (m f at_ : Nat) (L : Slots) (wr : World) : Prop where
  len : L.length = N
  fl : f < N
  al : at_ < N
  go : delGo HH L m f at_ = R
  tm : TM wr a g cap L c
  fp : Fp O w wr
  sm : Sm L
  taken : ∃ e, gt L f = some e
  free : ∃ t, t < m ∧ gt L ((at_ + t) % L.length) = none
  ms : ∃ s, at_ = (at0 + s) % N ∧ s + m = N
def DlR (w : World) (a g cap N at0 : Nat) (c : Int) (O : Nat → Prop) (R : Slots) (t5 t6 : Value) (wr : World) : Prop := ∃ (m f at_ : Nat) (L : Slots), t5 = .int .i64 (f : Int) ∧ t6 = .int .i64 (at_ : Int) ∧ DlS w a g cap N at0 c O R m f at_ L wr
theorem del_measure {N at0 p nx s m' : Nat} (h1 : p = (at0 + s) % N) (h2 : nx = (at0 + (s + 1)) % N) (h3 : s + 1 + m' = N) (h4 : 0 < m') (h5 : at0 < N) : N - aw N at0 (intOf (.int .i64 (nx : Int))).toNat < N - aw N at0 (intOf (.int .i64 (p : Int))).toNat := by
  have e1 : aw N at0 p = s := by rw [h1]; exact aw_add h5 (by omega)
  have e2 : aw N at0 nx = s + 1 := by rw [h2]; exact aw_add h5 (by omega)
  simp only [intOf, Int.toNat_natCast]
  rw [e1, e2]
  omega
def DelEnd (w : World) (a : Nat) (O : Nat → Prop) (q : Bool × Tb) (e : Ending) (w' : World) : Prop := e = .returned (.bool q.1) ∧ Tto w' a (Grow O w w') q.2 ∧ Fp O w w'
theorem del_fine {w w' : World} {a g cap : Nat} {O : Nat → Prop} {T T' : Tb} {k : Key} (ho : ∀ i, O i → i < w.heap.size) (ha : O a) (hg : O g) (hq : del HH T k = (true, T')) (hG : Ex.Good HH T) (hp : Pw T.L.length) (hs : Sm T.L) (hm : TM w' a g cap T'.L (T'.n : Int)) (hf : Fp O w w') : Tto w' a (Grow O w w') T' := by
  refine ⟨fun i hi => ?_, g, cap, hm, ?_⟩
  · rcases hi with hi | hi
    · exact Nat.lt_of_lt_of_le (ho i hi) hf.size
    · exact hi.2
  · rcases del_spec hlim hG k with ⟨v0, T2, -, e, h1, h2, h3, h4⟩ | ⟨-, e⟩
    · rw [hq] at e
      obtain ⟨-, rfl⟩ := Prod.mk.inj e
      exact ⟨h1, by rw [h3]; exact hp, fun k2 v2 h => hs k2 v2 ((h4 k2 v2).1 h).1, .inl ha, .inl hg⟩
    · rw [hq] at e
      obtain ⟨e, -⟩ := Prod.mk.inj e
      cases e
set_option maxHeartbeats 3200000 in
set_option maxRecDepth 100000 in
theorem del_any (a : Nat) (O : Nat → Prop) (T : Tb) (k : Key) (w : World) (h : Tto w a O T) (hk : k.size ≤ 140737488351232) : Calls Try.prog 11 #[ptr a, .string k] w (DelEnd w a O (del HH T k)) := by
  have HT := Lib.hid h
  obtain ⟨ho, g, cap, hm, hG, hp, hs, hOa, hOg⟩ := h
  have HO := Lib.hid ho
  have HM := Lib.hid hm
  have HG := Lib.hid hG
  have HP := Lib.hid hp
  have HS := Lib.hid hs
  have HOA := Lib.hid hOa
  have HOG := Lib.hid hOg
  have HFIND := Lib.hid (find_any a g cap T.L (T.n : Int) k w hm hp hG.free hk)
  have HFL := Lib.hid (find_lt hlim hG.free k)
  have hpos := hp.pos
  have HPOS := Lib.hid hpos
  have HHALF := Lib.hid hG.half
  clear ho hm hG hp hs hOa hOg hk hpos
  go_enter Try.func11, Try.ntmps11
  go_wp2_with fail
  refine HFIND.out.mono ?_
  rintro e w1 ⟨rfl, hb⟩
  have HB1 := Lib.hid hb
  have HM1 := Lib.hid (HM.out.go hb)
  obtain ⟨f, hf⟩ : ∃ f, find HH T.L k = f := ⟨_, rfl⟩
  have HF := Lib.hid hf
  rw [hf] at HFL ⊢
  clear hb hf HFIND
  obtain ⟨N, hN⟩ : ∃ N, T.L.length = N := ⟨_, rfl⟩
  have HN := Lib.hid hN
  clear hN
  obtain ⟨b, kk, v0, d0, d1, d2, dz, hgt, hz⟩ := HM1.out.at_ f HFL.out
  have HGT := Lib.hid hgt
  have c0 := HM1.out.box.cell 0
  rw [show #[Value.slice (some ⟨g, 0, none⟩) T.L.length cap, .int .i64 (T.n : Int)][0]? = some (.slice (some ⟨g, 0, none⟩) T.L.length cap) from rfl, HN.out] at c0
  have k0 : (0 : Int) ≤ (f : Int) := by omega
  have k1 : (f : Int) < (N : Int) := by have := HFL.out; rw [HN.out] at this; omega
  have k2 : (N : Int) ≤ 1073741824 := by have := HPOS.out; rw [HN.out] at this; omega
  clear dz hgt hz
  cases b with
  | false =>
    have HQ := Lib.hid (show del HH T k = (false, T) by unfold del; rw [HF.out]; rw [show gt T.L f = none from HGT.out])
    go_wp2_with fail
    go_ret
    rw [HQ.out]
    exact ⟨rfl, HT.out.same HB1.out, Fp.of_below HB1.out O⟩
  | true =>
    have HGT2 := Lib.hid (show gt T.L f = some (kk, v0) from HGT.out)
    have HQ := Lib.hid (show del HH T k = (true, ⟨delGo HH T.L T.L.length f ((f + 1) % T.L.length), T.n - 1⟩) by unfold del; rw [HF.out]; rw [show gt T.L f = some (kk, v0) from HGT.out])
    have hn1 : 1 ≤ T.n := by
      rcases del_spec hlim HG.out k with ⟨v1, T2, -, -, -, h2, -, -⟩ | ⟨-, e⟩
      · omega
      · rw [HQ.out] at e
        obtain ⟨e, -⟩ := Prod.mk.inj e
        cases e
    have hn2 : (T.n : Int) ≤ 1073741824 := by have := HHALF.out; rw [HN.out] at this; omega
    have c1 := HM1.out.box.cell 1
    have y1 := HM1.out.box.frozen 1
    obtain ⟨c, hc⟩ : ∃ c : Int, (T.n : Int) - 1 = c := ⟨_, rfl⟩
    have HC := Lib.hid (show ((T.n - 1 : Nat) : Int) = c by omega)
    have hn3 : (1 : Int) ≤ (T.n : Int) := by omega
    have HNM := Lib.hid (HM1.out.num c)
    rw [← hc] at HNM
    go_wp2_with fail
    rw [hc] at HNM
    clear c0 c1 y1 d0 d1 d2 hn1 hn2 hn3 hc
    have HF2 := Lib.hid ((Fp.of_below HB1.out O).next HNM.out.2 (fun i (e : i = a) _ => e ▸ HOA.out))
    replace HNM := Lib.hid HNM.out.1
    generalize w1.setCell ⟨a, 1, none⟩ (.int .i64 c) = w2 at *
    refine (next_any a g cap T.L c f w2 HNM.out HP.out HFL.out).mono ?_
    rintro e wz ⟨rfl, hww⟩; replace hww := hww.symm; subst hww
    obtain ⟨at0, hat0⟩ : ∃ x, (f + 1) % T.L.length = x := ⟨_, rfl⟩
    have HAT0 := Lib.hid hat0
    rw [hat0]
    obtain ⟨R, hR⟩ : ∃ R, delGo HH T.L T.L.length f ((f + 1) % T.L.length) = R := ⟨_, rfl⟩
    rw [hR] at HQ
    have hfree : ∃ t, t < T.L.length ∧ gt T.L ((at0 + t) % T.L.length) = none := by
      obtain ⟨x, x1, x2⟩ := HG.out.free
      have hl : at0 < T.L.length := by rw [← hat0]; exact Nat.mod_lt _ (by omega)
      exact ⟨aw T.L.length at0 x, aw_lt (by omega), by rw [aw_at hl x1]; exact x2⟩
    have HX := Lib.hid (show DlR w a g cap N at0 c O R (.int .i64 (f : Int)) (.int .i64 (at0 : Int)) w2 from ⟨T.L.length, f, at0, T.L, rfl, rfl, ⟨HN.out, by rw [← HN.out]; exact HFL.out, by rw [← HN.out, ← hat0]; exact Nat.mod_lt _ (by have := HFL.out; omega), by rw [← hat0]; exact hR, HNM.out, HF2.out, HS.out, ⟨_, HGT2.out⟩, hfree, 0, by rw [Nat.add_zero, Nat.mod_eq_of_lt (by rw [← HN.out, ← hat0]; exact Nat.mod_lt _ (by have := HFL.out; omega))], by rw [Nat.zero_add]; exact HN.out⟩⟩)
    have HAT0L := Lib.hid (show at0 < N by rw [← HN.out, ← hat0]; exact Nat.mod_lt _ (by have := HFL.out; omega))
    clear hat0 hR hfree HNM HF2
    go_wp2_with fail
    go_loopw [5, 6] (fun t5 t6 wr => DlR w a g cap N at0 c O R t5 t6 wr) (fun _ t6 _ => N - aw N at0 (intOf t6).toNat)
    case atStart => exact HX.out
    case round =>
      clear HX HF HFL HGT2 HGT HM1 HB1 HAT0 k0 k1
      obtain ⟨m, f, p, L, rfl, rfl, hS⟩ := hrel
      clear w2
      have HLEN := Lib.hid hS.len
      have HFLT := Lib.hid hS.fl
      have HPL := Lib.hid hS.al
      have HTM := Lib.hid hS.tm
      have HSS := Lib.hid hS
      clear hS
      have k0 : (0 : Int) ≤ (f : Int) := by omega
      have k1 : (f : Int) < (N : Int) := by have := HFLT.out; omega
      have l0 : (0 : Int) ≤ (p : Int) := by omega
      have l1 : (p : Int) < (N : Int) := by have := HPL.out; omega
      have c0 := HTM.out.box.cell 0
      rw [show #[Value.slice (some ⟨g, 0, none⟩) L.length cap, .int .i64 c][0]? = some (.slice (some ⟨g, 0, none⟩) L.length cap) from rfl, HLEN.out] at c0
      obtain ⟨b, kk, v, d0, d1, d2, -, hgt, -⟩ := HTM.out.at_ p (by rw [HLEN.out]; exact HPL.out)
      have HGT := Lib.hid hgt
      clear hgt
      cases b with
      | false =>
        have HEND := Lib.hid (show L.set f none = R by rw [← HSS.out.go, delGo_end HGT.out])
        obtain ⟨ob, ok, ov, x0, x1, x2, y0, -, -⟩ := HTM.out.at_ f (by rw [HLEN.out]; exact HFLT.out)
        have z0 := y0 (f * 3)
        have z1 := y0 (f * 3 + 1)
        have z2 := y0 (f * 3 + 2)
        have HV := Lib.hid (HTM.out.set3 f (by rw [HLEN.out]; exact HFLT.out) none (b := .bool false) (k := .string ⟨#[]⟩) (v := .int .i64 0) rfl)
        clear y0
        go_wp2_with fail
        go_ret
        have hf6 := HSS.out.fp.next HV.out.2 (fun i (e : i = g) _ => e ▸ HOG.out)
        have hmm := HV.out.1
        rw [HEND.out] at hmm
        rw [HQ.out]
        exact ⟨rfl, del_fine HO.out HOA.out HOG.out HQ.out HG.out HP.out HS.out (by rw [← HC.out] at hmm; exact hmm) hf6, hf6⟩
      | true =>
        have HGT2 := Lib.hid (show gt L p = some (kk, v) from HGT.out)
        have hkz : kk.size ≤ 140737488351232 := HSS.out.sm kk v ⟨p, HGT2.out⟩
        have hpw : Pw L.length := by rw [HLEN.out, ← HN.out]; exact HP.out
        have HPW := Lib.hid hpw
        obtain ⟨t, ht, hfr⟩ := HSS.out.free
        obtain ⟨m', rfl, t', ht', hfr'⟩ := free_next HGT2.out (by rw [HLEN.out]; exact HPL.out) ht hfr
        obtain ⟨s, hs1, hs2⟩ := HSS.out.ms
        have hnx : (p + 1) % L.length = (at0 + (s + 1)) % N := by rw [HLEN.out, hs1]; exact step_add _ _
        have HMS := Lib.hid (show p = (at0 + s) % N ∧ s + 1 + m' = N ∧ 0 < m' ∧ (p + 1) % L.length = (at0 + (s + 1)) % N from ⟨hs1, by omega, by omega, hnx⟩)
        have HFRE := Lib.hid (show ∃ t', t' < m' ∧ gt L ((((p + 1) % L.length) + t') % L.length) = none from ⟨t', ht', hfr'⟩)
        clear hs1 hs2 hnx ht hfr ht' hfr'
        have HPLL := Lib.hid (plc_lt hlim (show 0 < L.length by rw [HLEN.out]; have := HPL.out; omega) kk)
        have HPC := Lib.hid (place_any a g cap L c kk wr HTM.out hpw hkz)
        have HPOS2 := Lib.hid (show 0 < N by have := HPL.out; omega)
        clear hpw hkz
        go_wp2_with fail
        refine HPC.out.mono ?_
        rintro e w4 ⟨rfl, hb⟩
        have HTM4 := Lib.hid (HTM.out.go hb)
        have HFP4 := Lib.hid (HSS.out.fp.go hb)
        clear hb HPC c0 d0 d1 d2
        obtain ⟨pl, hpl⟩ : ∃ pl, plc HH L.length kk = pl := ⟨_, rfl⟩
        have HPLE := Lib.hid hpl
        rw [hpl] at HPLL ⊢
        clear hpl
        go_wp2_with fail
        refine (away_any a g cap L c pl f w4 HTM4.out HPW.out HPLL.out (by rw [HLEN.out]; exact HFLT.out)).mono ?_
        rintro e wz ⟨rfl, hww⟩; replace hww := hww.symm; subst hww
        go_wp2_with fail
        refine (away_any a g cap L c pl p w4 HTM4.out HPW.out HPLL.out (by rw [HLEN.out]; exact HPL.out)).mono ?_
        rintro e wz ⟨rfl, hww⟩; replace hww := hww.symm; subst hww
        obtain ⟨x, hx⟩ : ∃ x, aw L.length pl f = x := ⟨_, rfl⟩
        obtain ⟨y, hy⟩ : ∃ y, aw L.length pl p = y := ⟨_, rfl⟩
        have HXY := Lib.hid (show aw L.length (plc HH L.length kk) f = x ∧ aw L.length (plc HH L.length kk) p = y by rw [HPLE.out]; exact ⟨hx, hy⟩)
        rw [hx, hy]
        clear hx hy
        have c0 := HTM4.out.box.cell 0
        rw [show #[Value.slice (some ⟨g, 0, none⟩) L.length cap, .int .i64 c][0]? = some (.slice (some ⟨g, 0, none⟩) L.length cap) from rfl, HLEN.out] at c0
        by_cases hxy : x < y
        · have hne : f ≠ p := fun e => by have h1 := HXY.out.1; have h2 := HXY.out.2; rw [e] at h1; omega
          have HNE := Lib.hid hne
          clear hne
          have HGO := Lib.hid (show delGo HH (L.set f (some (kk, v))) m' p ((p + 1) % L.length) = R by rw [← HSS.out.go, delGo_move HGT2.out (by show aw L.length (plc HH L.length kk) f < aw L.length (plc HH L.length kk) p; rw [HXY.out.1, HXY.out.2]; exact hxy)])
          obtain ⟨b, kk2, v2, d0, d1, d2, -, hgt, -⟩ := HTM4.out.at_ p (by rw [HLEN.out]; exact HPL.out)
          have hbb : b = true ∧ kk2 = kk ∧ v2 = v := by
            rw [HGT2.out] at hgt
            cases b with
            | false => cases hgt
            | true =>
              obtain ⟨h1, h2⟩ := Prod.mk.inj (Option.some.inj hgt)
              exact ⟨rfl, h1.symm, h2.symm⟩
          obtain ⟨rfl, rfl, rfl⟩ := hbb
          clear hgt
          have hi : (x : Int) < (y : Int) := by omega
          go_upto_region 12 with (fail)
          have HKEEP := Lib.hid (fun W (hW : TM W a g cap (L.set f (some (kk2, v2))) c) => (show W.cell? ⟨a, 0, none⟩ = some (.slice (some ⟨g, 0, none⟩) N cap) ∧ W.cell? ⟨g, p * 3, none⟩ = some (.bool true) ∧ W.cell? ⟨g, p * 3 + 1, none⟩ = some (.string kk2) ∧ W.cell? ⟨g, p * 3 + 2, none⟩ = some (.int .i64 v2) from by
            have h1 := hW.box.cell 0
            rw [show #[Value.slice (some ⟨g, 0, none⟩) (L.set f (some (kk2, v2))).length cap, .int .i64 c][0]? = some (.slice (some ⟨g, 0, none⟩) (L.set f (some (kk2, v2))).length cap) from rfl, List.length_set, HLEN.out] at h1
            obtain ⟨b, k3, v3, e0, e1, e2, -, hgt, -⟩ := hW.at_ p (by rw [List.length_set, HLEN.out]; exact HPL.out)
            rw [gt_set _ _ _ _ (by rw [HLEN.out]; exact HFLT.out), if_neg (fun e => HNE.out e.symm), HGT2.out] at hgt
            cases b with
            | false => cases hgt
            | true =>
              obtain ⟨q1, q2⟩ := Prod.mk.inj (Option.some.inj hgt)
              exact ⟨h1, e0, by rw [e1, ← q1], by rw [e2, ← q2]⟩))
          refine start_ (n := 14) (S := (fun W => W.cell? ⟨a, 0, none⟩ = some (.slice (some ⟨g, 0, none⟩) N cap) ∧ W.cell? ⟨g, p * 3, none⟩ = some (.bool true) ∧ W.cell? ⟨g, p * 3 + 1, none⟩ = some (.string kk2) ∧ W.cell? ⟨g, p * 3 + 2, none⟩ = some (.int .i64 v2))) (ds := []) #[false, false, false, false, false, false, false, false, false, false, false, false, false, false] (by kernel_rfl) rfl rfl ⟨c0, d0, d1, d2⟩ (fun hHeld => ?_)
          refine pure_ (i := 0) (N := (some 62)) (v := ?_) (a' := ?_) #[true, false, false, false, false, false, false, false, false, false, false, false, false, false] rfl rfl (by kernel_rfl) (fun _ _ _ h => h) (Or.inl ⟨by rfl, ?_⟩) ?_ ?_
          rotate_left
          · intro w'
            go_simp
            (try with_reducible rfl)
          rotate_left
          · simp only [Act.put, List.setIfInBounds_toArray, List.set_cons_zero, List.set_cons_succ, i64_w, i32_w]
            rfl
          refine pure_ (i := 1) (N := (some 63)) (v := ?_) (a' := ?_) #[true, true, false, false, false, false, false, false, false, false, false, false, false, false] rfl rfl (by kernel_rfl) (fun _ _ _ h => h) (Or.inl ⟨by rfl, ?_⟩) ?_ ?_
          rotate_left
          · intro w'
            go_simp
            (try with_reducible rfl)
          rotate_left
          · simp only [Act.put, List.setIfInBounds_toArray, List.set_cons_zero, List.set_cons_succ, i64_w, i32_w]
            rfl
          refine pure_ (i := 2) (N := (some 64)) (v := ?_) (a' := ?_) #[true, true, true, false, false, false, false, false, false, false, false, false, false, false] rfl rfl (by kernel_rfl) (fun _ _ _ h => h) (Or.inl ⟨by rfl, ?_⟩) ?_ ?_
          rotate_left
          · intro w'
            go_simp
            (try with_reducible rfl)
          rotate_left
          · simp only [Act.put, List.setIfInBounds_toArray, List.set_cons_zero, List.set_cons_succ, i64_w, i32_w]
            rfl
          refine take_ (i := 3) (N := (some 65)) (v := ?_) (a' := ?_) #[true, true, true, true, false, false, false, false, false, false, false, false, false, false] rfl rfl (by kernel_rfl) (fun _ _ _ h => h) (Or.inl ⟨by rfl, ?_⟩) hHeld ?_ ?_
          rotate_left
          · rintro w' ⟨s0, s1, s2, s3⟩
            go_simp
            (try with_reducible rfl)
          rotate_left
          · simp only [Act.put, List.setIfInBounds_toArray, List.set_cons_zero, List.set_cons_succ, i64_w, i32_w]
            rfl
          refine pure_ (i := 4) (N := (some 66)) (v := ?_) (a' := ?_) #[true, true, true, true, true, false, false, false, false, false, false, false, false, false] rfl rfl (by kernel_rfl) (fun _ _ _ h => h) (Or.inl ⟨by rfl, ?_⟩) ?_ ?_
          rotate_left
          · intro w'
            go_simp
            (try with_reducible rfl)
          rotate_left
          · simp only [Act.put, List.setIfInBounds_toArray, List.set_cons_zero, List.set_cons_succ, i64_w, i32_w]
            rfl
          refine pure_ (i := 5) (N := (some 67)) (v := ?_) (a' := ?_) #[true, true, true, true, true, true, false, false, false, false, false, false, false, false] rfl rfl (by kernel_rfl) (fun _ _ _ h => h) (Or.inl ⟨by rfl, ?_⟩) ?_ ?_
          rotate_left
          · intro w'
            go_simp
            (try with_reducible rfl)
          rotate_left
          · simp only [Act.put, List.setIfInBounds_toArray, List.set_cons_zero, List.set_cons_succ, i64_w, i32_w]
            rfl
          refine pure_ (i := 6) (N := (some 68)) (v := ?_) (a' := ?_) #[true, true, true, true, true, true, true, false, false, false, false, false, false, false] rfl rfl (by kernel_rfl) (fun _ _ _ h => h) (Or.inl ⟨by rfl, ?_⟩) ?_ ?_
          rotate_left
          · intro w'
            go_simp
            (try with_reducible rfl)
          rotate_left
          · simp only [Act.put, List.setIfInBounds_toArray, List.set_cons_zero, List.set_cons_succ, i64_w, i32_w]
            rfl
          refine pure_ (i := 7) (N := (some 69)) (v := ?_) (a' := ?_) #[true, true, true, true, true, true, true, true, false, false, false, false, false, false] rfl rfl (by kernel_rfl) (fun _ _ _ h => h) (Or.inl ⟨by rfl, ?_⟩) ?_ ?_
          rotate_left
          · intro w'
            go_simp
            (try with_reducible rfl)
          rotate_left
          · simp only [Act.put, List.setIfInBounds_toArray, List.set_cons_zero, List.set_cons_succ, i64_w, i32_w]
            rfl
          refine take_ (i := 8) (N := (some 70)) (v := ?_) (a' := ?_) #[true, true, true, true, true, true, true, true, true, false, false, false, false, false] rfl rfl (by kernel_rfl) (fun _ _ _ h => h) (Or.inl ⟨by rfl, ?_⟩) hHeld ?_ ?_
          rotate_left
          · rintro w' ⟨s0, s1, s2, s3⟩
            go_simp
            (try with_reducible rfl)
          rotate_left
          · simp only [Act.put, List.setIfInBounds_toArray, List.set_cons_zero, List.set_cons_succ, i64_w, i32_w]
            rfl
          refine pure_ (i := 9) (N := (some 71)) (v := ?_) (a' := ?_) #[true, true, true, true, true, true, true, true, true, true, false, false, false, false] rfl rfl (by kernel_rfl) (fun _ _ _ h => h) (Or.inl ⟨by rfl, ?_⟩) ?_ ?_
          rotate_left
          · intro w'
            go_simp
            (try with_reducible rfl)
          rotate_left
          · simp only [Act.put, List.setIfInBounds_toArray, List.set_cons_zero, List.set_cons_succ, i64_w, i32_w]
            rfl
          refine pure_ (i := 10) (N := (some 72)) (v := ?_) (a' := ?_) #[true, true, true, true, true, true, true, true, true, true, true, false, false, false] rfl rfl (by kernel_rfl) (fun _ _ _ h => h) (Or.inl ⟨by rfl, ?_⟩) ?_ ?_
          rotate_left
          · intro w'
            go_simp
            (try with_reducible rfl)
          rotate_left
          · simp only [Act.put, List.setIfInBounds_toArray, List.set_cons_zero, List.set_cons_succ, i64_w, i32_w]
            rfl
          refine take_ (i := 11) (N := (some 73)) (v := ?_) (a' := ?_) #[true, true, true, true, true, true, true, true, true, true, true, true, false, false] rfl rfl (by kernel_rfl) (fun _ _ _ h => h) (Or.inl ⟨by rfl, ?_⟩) hHeld ?_ ?_
          rotate_left
          · rintro w' ⟨s0, s1, s2, s3⟩
            go_simp
            (try with_reducible rfl)
          rotate_left
          · simp only [Act.put, List.setIfInBounds_toArray, List.set_cons_zero, List.set_cons_succ, i64_w, i32_w]
            rfl
          refine pure_ (i := 12) (N := (some 74)) (v := ?_) (a' := ?_) #[true, true, true, true, true, true, true, true, true, true, true, true, true, false] rfl rfl (by kernel_rfl) (fun _ _ _ h => h) (Or.inl ⟨by rfl, ?_⟩) ?_ ?_
          rotate_left
          · intro w'
            go_simp
            (try with_reducible rfl)
          rotate_left
          · simp only [Act.put, List.setIfInBounds_toArray, List.set_cons_zero, List.set_cons_succ, i64_w, i32_w]
            rfl
          refine one_ (i := 13) (N := none) #[true, true, true, true, true, true, true, true, true, true, true, true, true, true] rfl rfl (by kernel_rfl) (by decide) (fun K hK => ?_)
          have HW5 := Lib.hid (HTM4.out.go (below_drew1 (Below.refl w4.heap.size w4)))
          obtain ⟨ob, ok, ov, x0, x1, x2, y0, -, -⟩ := HW5.out.at_ f (by rw [HLEN.out]; exact HFLT.out)
          have z0 := y0 (f * 3)
          have z1 := y0 (f * 3 + 1)
          have z2 := y0 (f * 3 + 2)
          clear y0
          have HFP5 := Lib.hid (HFP4.out.go (below_drew1 (Below.refl w4.heap.size w4)))
          generalize w4.drew = w5 at *
          refine skip_ (w1 := ((w5.setCell ⟨g, f * 3, none⟩ (.bool true)).setCell ⟨g, f * 3 + 1, none⟩ (.string kk2)).setCell ⟨g, f * 3 + 2, none⟩ (.int .i64 v2)) (by rfl) rfl (by go_simp) ?_
          have HS5 := Lib.hid (HW5.out.set3 f (by rw [HLEN.out]; exact HFLT.out) (some (kk2, v2)) (b := .bool true) (k := .string kk2) (v := .int .i64 v2) rfl)
          have F1 := HKEEP.out _ HS5.out.1
          refine hK.out _ _ F1 (fun hHeld => ?_)
          clear hK K F1 x0 x1 x2 z0 z1 z2

          refine done_ (by kernel_rfl) ?_
          clear hHeld
          have HF5 := Lib.hid (HFP5.out.next HS5.out.2 (fun i (e : i = g) _ => e ▸ HOG.out))
          have HM5 := Lib.hid HS5.out.1
          clear HS5 HKEEP c0 d0 d1 d2
          generalize ((w5.setCell ⟨g, f * 3, none⟩ (.bool true)).setCell ⟨g, f * 3 + 1, none⟩ (.string kk2)).setCell ⟨g, f * 3 + 2, none⟩ (.int .i64 v2) = w6 at *
          have HLS := Lib.hid (show (L.set f (some (kk2, v2))).length = L.length from List.length_set)
          have HSM6 := Lib.hid (show Sm (L.set f (some (kk2, v2))) from fun k3 v3 ⟨i, hi⟩ => by
            rw [gt_set _ _ _ _ (by rw [HLEN.out]; exact HFLT.out)] at hi
            split at hi
            · obtain ⟨q1, q2⟩ := Prod.mk.inj (Option.some.inj hi)
              rw [← q1]
              exact HSS.out.sm kk2 v2 ⟨p, HGT2.out⟩
            · exact HSS.out.sm k3 v3 ⟨i, hi⟩)
          have HTK6 := Lib.hid (show ∃ e, gt (L.set f (some (kk2, v2))) p = some e from ⟨(kk2, v2), by rw [gt_set _ _ _ _ (by rw [HLEN.out]; exact HFLT.out), if_neg (fun e => HNE.out e.symm)]; exact HGT2.out⟩)
          have HFR6 := Lib.hid (show ∃ t', t' < m' ∧ gt (L.set f (some (kk2, v2))) ((((p + 1) % L.length) + t') % (L.set f (some (kk2, v2))).length) = none from by
            obtain ⟨t', h1, h2⟩ := HFRE.out
            refine ⟨t', h1, ?_⟩
            rw [HLS.out, gt_set _ _ _ _ (by rw [HLEN.out]; exact HFLT.out), if_neg ?_]
            · exact h2
            · intro e
              obtain ⟨q, hq⟩ := HSS.out.taken
              rw [e, hq] at h2
              cases h2)
          go_wp2_with fail
          have hnx := next_any a g cap _ c p w6 HM5.out (by rw [HLS.out]; exact HPW.out) (by rw [HLS.out, HLEN.out]; exact HPL.out)
          rw [HLS.out] at hnx
          refine hnx.mono ?_
          clear hnx
          rintro e wz ⟨rfl, hww⟩; replace hww := hww.symm; subst hww
          obtain ⟨nx, hx⟩ : ∃ nx, (p + 1) % L.length = nx := ⟨_, rfl⟩
          have HNX := Lib.hid hx
          rw [hx] at HMS HFR6 HGO ⊢
          clear hx
          go_wp2_with fail
          go_roundw
          case rel => exact ⟨m', p, nx, _, rfl, rfl, ⟨by rw [HLS.out]; exact HLEN.out, HPL.out, by rw [HMS.out.2.2.2]; exact Nat.mod_lt _ HPOS2.out, HGO.out, HM5.out, HF5.out, HSM6.out, HTK6.out, HFR6.out, _, HMS.out.2.2.2, HMS.out.2.1⟩⟩
          case measure => exact del_measure HMS.out.1 HMS.out.2.2.2 HMS.out.2.1 HMS.out.2.2.1 HAT0L.out
        · have hi : ¬ (x : Int) < (y : Int) := by omega
          have HGO := Lib.hid (show delGo HH L m' f ((p + 1) % L.length) = R by rw [← HSS.out.go, delGo_stay HGT2.out (by show ¬ aw L.length (plc HH L.length kk) f < aw L.length (plc HH L.length kk) p; rw [HXY.out.1, HXY.out.2]; exact hxy)])
          go_wp2_with fail
          refine (next_any a g cap L c p w4 HTM4.out HPW.out (by rw [HLEN.out]; exact HPL.out)).mono ?_
          rintro e wz ⟨rfl, hww⟩; replace hww := hww.symm; subst hww
          obtain ⟨nx, hx⟩ : ∃ nx, (p + 1) % L.length = nx := ⟨_, rfl⟩
          have HNX := Lib.hid hx
          rw [hx] at HMS HFRE HGO ⊢
          clear hx c0
          go_wp2_with fail
          go_roundw
          case rel => exact ⟨m', f, nx, L, rfl, rfl, ⟨HLEN.out, HFLT.out, by rw [HMS.out.2.2.2]; exact Nat.mod_lt _ HPOS2.out, HGO.out, HTM4.out, HFP4.out, HSS.out.sm, HSS.out.taken, HFRE.out, _, HMS.out.2.2.2, HMS.out.2.1⟩⟩
          case measure => exact del_measure HMS.out.1 HMS.out.2.2.2 HMS.out.2.1 HMS.out.2.2.1 HAT0L.out
end Go.Proofs.Ytfpnedooipfpoaa.Base
