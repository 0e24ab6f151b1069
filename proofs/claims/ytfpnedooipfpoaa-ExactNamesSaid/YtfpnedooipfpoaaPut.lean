/- A key gets a value: Put (10). Conditions: as the contract says. -/
import Derived.Test.YtfpnedooipfpoaaDouble
set_option linter.unusedVariables false
set_option linter.unusedSimpArgs false
namespace Go.Proofs.Ytfpnedooipfpoaa.Base
open Go Go.RowKit Go.Proofs.Ytfpnedooipfpoaa Go.Proofs.Ytfpnedooipfpoaa.Ex Go.Proofs.Ytfpnedooipfpoaa.Mem Go.Proofs.Ytfpnedooipfpoaa.Math Go.Proofs.YtfpnedooipfpoaaW.PrintWords Go.Proofs.YtfpnedooipfpoaaW.PrintLast Go.Proofs.Ytfpnedooipfpoaa.PExactHalf
theorem find_key {L : Slots} (hf : ∃ x, x < L.length ∧ gt L x = none) (k : Key) {e : Ent} (he : gt L (find HH L k) = some e) : e.1 = k := by
  obtain ⟨t, t1, t2, t3, -⟩ := find_spec hlim hf k
  rw [he] at t3
  exact of_decide_eq_true t3
section
variable {w w1 : World} {a g cap : Nat} {L : Slots} {n : Int}
theorem TM.val (h : TM w a g cap L n) {f : Nat} {k : Key} {v0 : Int} (hf : gt L f = some (k, v0)) (v : Int) :
    TM (w.setCell ⟨g, f * 3 + 2, none⟩ (.int .i64 v)) a g cap (L.set f (some (k, v))) n ∧ Fp (fun x => x = g) w (w.setCell ⟨g, f * 3 + 2, none⟩ (.int .i64 v)) := by
  have f1 := (Fp.refl (fun x => x = g) w).set_ (i := f * 3 + 2) (.int .i64 v) (fun _ => rfl)
  have r1 := (h.row.stored (f * 3 + 2) (.int .i64 v)).1
  have e : sc (L.set f (some (k, v))) = (sc L).set (f * 3 + 2) (.int .i64 v) := flat_set sc_f L f (gt_some hf).2 2 (by decide) _ rfl
  rw [← e] at r1
  refine ⟨⟨?_, ?_⟩, f1⟩
  · rw [List.length_set]
    exact h.box.fp f1 (fun e => h.ne e.symm)
  · rw [List.length_set]
    exact r1
end
def PutEnd (w : World) (a : Nat) (O : Nat → Prop) (q : (Int × Bool) × Tb) (e : Ending) (w' : World) : Prop := e = .returned (.tuple #[.int .i64 q.1.1, .bool q.1.2]) ∧ Tto w' a (Grow O w w') q.2 ∧ Fp O w w'
theorem sm_of {L L' : Slots} (hs : Sm L) {k : Key} {v : Int} (hk : k.size ≤ 140737488351232) (h : ∀ k2 v2, has L' k2 v2 ↔ (k2 = k ∧ v2 = v) ∨ (k2 ≠ k ∧ has L k2 v2)) : Sm L' := fun k2 v2 h2 => by
  rcases (h k2 v2).1 h2 with ⟨rfl, _⟩ | ⟨_, h3⟩
  · exact hk
  · exact hs _ _ h3
/-- What a caller of Put has afterwards. -/
theorem put_fine {w w' : World} {a g cap : Nat} {O : Nat → Prop} {T T' : Tb} {k : Key} {v : Int} {r : Int × Bool} (ho : ∀ i, O i → i < w.heap.size) (ha : O a) (hg : O g ∨ (w.heap.size ≤ g ∧ g < w'.heap.size)) (hq : put HH T k v = (r, T')) (hG : Ex.Good HH T) (hp : Pw T.L.length) (hp2 : Pw (2 * T.L.length)) (hs : Sm T.L) (hk : k.size ≤ 140737488351232) (hm : TM w' a g cap T'.L (T'.n : Int)) (hf : Fp O w w') : Tto w' a (Grow O w w') T' := by
  refine ⟨fun i hi => ?_, g, cap, hm, ?_⟩
  · rcases hi with hi | hi
    · exact Nat.lt_of_lt_of_le (ho i hi) hf.size
    · exact hi.2
  · rcases put_spec hlim hG k v with ⟨v0, T2, -, e, h1, h2, h3, h4⟩ | ⟨T2, -, e, h1, h2, h3, h4, -⟩
    · rw [hq] at e
      obtain ⟨-, rfl⟩ := Prod.mk.inj e
      exact ⟨h1, by rw [h3]; exact hp, sm_of hs hk h4, .inl ha, hg⟩
    · rw [hq] at e
      obtain ⟨-, rfl⟩ := Prod.mk.inj e
      exact ⟨h1, by rw [h3]; split <;> assumption, sm_of hs hk h4, .inl ha, hg⟩
set_option maxHeartbeats 3200000 in
set_option maxRecDepth 100000 in
theorem put_any (a : Nat) (O : Nat → Prop) (T : Tb) (k : Key) (v : Int) (w : World) (h : Tto w a O T) (hk : k.size ≤ 140737488351232) (hp2 : Pw (2 * T.L.length)) : Calls Try.prog 10 #[ptr a, .string k, .int .i64 v] w (PutEnd w a O (put HH T k v)) := by
  obtain ⟨ho, g, cap, hm, hG, hp, hs, hOa, hOg⟩ := h
  have HO := Lib.hid ho
  have HM := Lib.hid hm
  have HG := Lib.hid hG
  have HP := Lib.hid hp
  have HP2 := Lib.hid hp2
  have HS := Lib.hid hs
  have HOA := Lib.hid hOa
  have HOG := Lib.hid hOg
  have HK := Lib.hid hk
  have HFIND := Lib.hid (find_any a g cap T.L (T.n : Int) k w hm hp hG.free hk)
  have HFL := Lib.hid (find_lt hlim hG.free k)
  have hpos := hp.pos
  have HPOS := Lib.hid hpos
  have HHALF := Lib.hid hG.half
  clear ho hm hG hp hp2 hs hOa hOg hk hpos
  go_enter Try.func10, Try.ntmps10
  go_wp2_with fail
  refine HFIND.out.mono ?_
  rintro e w1 ⟨rfl, hb⟩
  have HB1 := Lib.hid hb
  have HM1 := Lib.hid (HM.out.go hb)
  obtain ⟨f, hf⟩ : ∃ f, find HH T.L k = f := ⟨_, rfl⟩
  have HF := Lib.hid hf
  rw [hf] at HFL ⊢
  clear hb hf HFIND
  obtain ⟨b, kk, v0, d0, d1, d2, dz, hgt, hz⟩ := HM1.out.at_ f HFL.out
  have HGT := Lib.hid hgt
  have HZ := Lib.hid hz
  have c0 := HM1.out.box.cell 0
  rw [show #[Value.slice (some ⟨g, 0, none⟩) T.L.length cap, .int .i64 (T.n : Int)][0]? = some (.slice (some ⟨g, 0, none⟩) T.L.length cap) from rfl] at c0
  have z0 := dz (f * 3)
  have z1 := dz (f * 3 + 1)
  have z2 := dz (f * 3 + 2)
  have k0 : (0 : Int) ≤ (f : Int) := by omega
  have k1 : (f : Int) < (T.L.length : Int) := by have := HFL.out; omega
  clear dz hgt hz
  cases b with
  | true =>
    have hgt : gt T.L f = some (kk, v0) := HGT.out
    have hkk : kk = k := find_key HG.out.free k (e := (kk, v0)) (by rw [HF.out]; exact hgt)
    subst hkk
    have HV := Lib.hid (HM1.out.val hgt v)
    have HQ := Lib.hid (show put HH T kk v = ((v0, true), ⟨T.L.set f (some (kk, v)), T.n⟩) by unfold put; rw [HF.out, hgt])
    clear hgt
    go_wp2_with fail
    go_ret2
    have hf2 : Fp O w (w1.setCell ⟨g, f * 3 + 2, none⟩ (.int .i64 v)) := (Fp.of_below HB1.out O).next HV.out.2 (fun i (e : i = g) _ => e ▸ HOG.out)
    rw [HQ.out]
    exact ⟨rfl, put_fine HO.out HOA.out (.inl HOG.out) HQ.out HG.out HP.out HP2.out HS.out HK.out HV.out.1 hf2, hf2⟩
  | false =>
    have hgt : gt T.L f = none := HGT.out
    have c1 := HM1.out.box.cell 1
    have y1 := HM1.out.box.frozen 1
    have HN := Lib.hid (HM1.out.num ((T.n : Int) + 1))
    have kn : (T.n : Int) ≤ 2000000000 := by have := HPOS.out; have := HHALF.out; omega
    have kn0 : (0 : Int) ≤ (T.n : Int) := by omega
    go_upto_region 9 with (fail)
    have HF2 := Lib.hid ((Fp.of_below HB1.out O).next HN.out.2 (fun i (e : i = a) _ => e ▸ HOA.out))
    replace HN := Lib.hid HN.out.1
    clear d0 d1 d2 z0 z1 z2 c0 c1 y1
    generalize w1.setCell ⟨a, 1, none⟩ (.int .i64 ((T.n : Int) + 1)) = w2 at *
    have c0 := HN.out.box.cell 0
    rw [show #[Value.slice (some ⟨g, 0, none⟩) T.L.length cap, .int .i64 ((T.n : Int) + 1)][0]? = some (.slice (some ⟨g, 0, none⟩) T.L.length cap) from rfl] at c0
    have c1 := HN.out.box.cell 1
    rw [show #[Value.slice (some ⟨g, 0, none⟩) T.L.length cap, .int .i64 ((T.n : Int) + 1)][1]? = some (.int .i64 ((T.n : Int) + 1)) from rfl] at c1
    obtain ⟨nn, hnn⟩ : ∃ nn : Nat, T.n + 1 = nn := ⟨_, rfl⟩
    have HNN := Lib.hid hnn
    rw [show (T.n : Int) + 1 = (nn : Int) by omega] at HN c1
    have kn2 : (nn : Int) ≤ 2000000001 := by omega
    have kn3 : (0 : Int) ≤ (nn : Int) := by omega
    have HKF := Lib.hid (show (0 : Int) ≤ (f : Int) ∧ (f : Int) < (T.L.length : Int) from ⟨k0, k1⟩)
    clear k0 k1 kn kn0 hnn
    obtain ⟨m, hm⟩ : ∃ m, T.L.length = m := ⟨_, rfl⟩
    have HMM := Lib.hid hm
    rw [hm] at c0
    have km : (m : Int) ≤ 1073741824 := by have := HPOS.out; omega
    clear hm
    by_cases hdb : (m : Int) < 2 * (nn : Int)
    · have HQ := Lib.hid (show put HH T k v = ((0, false), ⟨(dbl HH T.L).set (find HH (dbl HH T.L) k) (some (k, v)), T.n + 1⟩) by
        unfold put
        rw [HF.out, hgt]
        show (if T.L.length < 2 * (T.n + 1) then _ else _) = _
        rw [if_pos (by have := HMM.out; have := HNN.out; omega)])
      clear hgt
      go_quiet (fail)
      have HN3 := Lib.hid (HN.out.go (pw_below_drewN (Below.refl _ _) nq))
      have HF3 := Lib.hid (HF2.out.drewN nq)
      clear c0 c1
      generalize w2.drewN nq = w3 at *
      go_wp2_with fail
      refine (double_any a g cap T.L (nn : Int) w3 HN3.out HG.out.ok (by have := HPOS.out; omega) HP2.out HS.out).mono ?_
      rintro e w4 ⟨rfl, g2, cap2, hg2, hm4, hf4⟩
      have HG2 := Lib.hid hg2
      have HM4 := Lib.hid hm4
      have HF4 := Lib.hid (HF3.out.next hf4 (fun i (e : i = a) _ => e ▸ HOA.out))
      have HW3 := Lib.hid (show w.heap.size ≤ w3.heap.size from HF3.out.size)
      clear hg2 hm4 hf4
      obtain ⟨hD1, hD2, hD3, hD4⟩ := ok_dbl hlim HG.out.ok (by have := HPOS.out; omega)
      have HD2 := Lib.hid hD2
      have hfree : ∃ x, x < (dbl HH T.L).length ∧ gt (dbl HH T.L) x = none := cnt_free (by rw [hD2, hD3, HG.out.cnt]; have := HG.out.half; have := HPOS.out; omega)
      have HFR := Lib.hid hfree
      have HFL2 := Lib.hid (find_lt hlim hfree k)
      clear hD1 hD2 hD3 hD4 hfree
      go_wp2_with fail
      refine (find_any a g2 cap2 (dbl HH T.L) (nn : Int) k w4 HM4.out (by rw [HD2.out]; exact HP2.out) HFR.out HK.out).mono ?_
      rintro e w5 ⟨rfl, hb5⟩
      have HM5 := Lib.hid (HM4.out.go hb5)
      have HF5 := Lib.hid (HF4.out.go hb5)
      clear hb5
      obtain ⟨f2, hf2⟩ : ∃ f2, find HH (dbl HH T.L) k = f2 := ⟨_, rfl⟩
      rw [hf2] at HFL2 HQ ⊢
      clear hf2
      obtain ⟨b, kk, v0, d0, d1, d2, dz, -, -⟩ := HM5.out.at_ f2 HFL2.out
      have c0 := HM5.out.box.cell 0
      rw [show #[Value.slice (some ⟨g2, 0, none⟩) (dbl HH T.L).length cap2, .int .i64 (nn : Int)][0]? = some (.slice (some ⟨g2, 0, none⟩) (dbl HH T.L).length cap2) from rfl, HD2.out, HMM.out] at c0
      obtain ⟨m2, hm2⟩ : ∃ m2, 2 * m = m2 := ⟨_, rfl⟩
      rw [hm2] at c0
      have z0 := dz (f2 * 3)
      have z1 := dz (f2 * 3 + 1)
      have z2 := dz (f2 * 3 + 2)
      have k0 : (0 : Int) ≤ (f2 : Int) := by omega
      have k1 : (f2 : Int) < (m2 : Int) := by have := HFL2.out; rw [HD2.out, HMM.out] at this; omega
      have HV := Lib.hid (HM5.out.set3 f2 HFL2.out (some (k, v)) (b := .bool true) (k := .string k) (v := .int .i64 v) rfl)
      clear dz hm2 hdb
      go_wp2_with fail
      go_ret2
      have hgw : w.heap.size ≤ g2 := Nat.le_trans HW3.out HG2.out
      have hf6 := HF5.out.next HV.out.2 (T := fun x => x = g2) (fun i (e : i = g2) hi => by omega)
      rw [HQ.out]
      exact ⟨rfl, put_fine HO.out HOA.out (.inr ⟨hgw, HV.out.1.glt⟩) HQ.out HG.out HP.out HP2.out HS.out HK.out (by have := HV.out.1; rw [show ((T.n + 1 : Nat) : Int) = (nn : Int) by rw [HNN.out]]; exact this) hf6, hf6⟩
    · have HQ := Lib.hid (show put HH T k v = ((0, false), ⟨T.L.set f (some (k, v)), T.n + 1⟩) by
        unfold put
        rw [HF.out, hgt]
        show (if T.L.length < 2 * (T.n + 1) then _ else _) = _
        rw [if_neg (by have := HMM.out; have := HNN.out; omega)])
      clear hgt
      go_quiet (fail)
      have HN3 := Lib.hid (HN.out.go (pw_below_drewN (Below.refl _ _) nq))
      have HF3 := Lib.hid (HF2.out.drewN nq)
      clear c0 c1
      generalize w2.drewN nq = w3 at *
      obtain ⟨b, kk, v0, d0, d1, d2, dz, -, -⟩ := HN3.out.at_ f HFL.out
      have c0 := HN3.out.box.cell 0
      rw [show #[Value.slice (some ⟨g, 0, none⟩) T.L.length cap, .int .i64 (nn : Int)][0]? = some (.slice (some ⟨g, 0, none⟩) T.L.length cap) from rfl, HMM.out] at c0
      have z0 := dz (f * 3)
      have z1 := dz (f * 3 + 1)
      have z2 := dz (f * 3 + 2)
      have k0 := HKF.out.1
      have k1 := HKF.out.2
      rw [HMM.out] at k1
      have HV := Lib.hid (HN3.out.set3 f HFL.out (some (k, v)) (b := .bool true) (k := .string k) (v := .int .i64 v) rfl)
      clear dz
      go_wp2_with fail
      go_ret2
      have hf6 := HF3.out.next HV.out.2 (fun i (e : i = g) _ => e ▸ HOG.out)
      rw [HQ.out]
      exact ⟨rfl, put_fine HO.out HOA.out (.inl HOG.out) HQ.out HG.out HP.out HP2.out HS.out HK.out (by have := HV.out.1; rw [show ((T.n + 1 : Nat) : Int) = (nn : Int) by rw [HNN.out]]; exact this) hf6, hf6⟩
end Go.Proofs.Ytfpnedooipfpoaa.Base
