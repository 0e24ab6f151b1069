/- The document's store: some of a row's registers. Conditions: as each contract says. -/
import Derived.Test.YtdobpieiobikpaaRefG
set_option linter.unusedVariables false
set_option linter.unusedSimpArgs false
namespace Go.Proofs.Ytdobpieiobikpaa.Base
open Go Go.RowKit Go.Proofs.Ytdobpieiobikpaa.Mem Go.Proofs.YtdobpieiobikpaaW.PrintWords Go.Proofs.YtdobpieiobikpaaW.PrintLast
set_option maxHeartbeats 3200000 in
set_option maxRecDepth 100000 in
theorem rrow_SM (a : Nat) (vC vR : Value) (S : St) (rr : List (Int × RowE)) (id f n : Int) (w : World) (h : RM w a vC vR S rr) :
    Calls Try.prog 46 #[ptr a, .int .i64 id, .int .i64 f, .int .i64 n] w (RowEnd w (rowR S id f n)) := by
  have HC := Lib.hid (idxR_any a vC vR S rr id w h)
  have HM := Lib.hid h
  rcases h.findR id with ⟨h1, h2⟩ | ⟨j, v, h1, h2, h3, h4, h5, hlen, hcap⟩
  · have HP := Lib.hid (show rowR S id f n = ([], 6) by unfold rowR; rw [h2])
    rw [h1] at HC
    clear h h1 h2
    go_enter Try.func46, Try.ntmps46
    go_wp2_with fail
    refine HC.out.mono ?_
    rintro e _ ⟨rfl, rfl⟩
    go_wp2_with fail
    go_ret2
    rw [HP.out]
    exact ⟨_, rfl, World.ownsRow_nil _ _ _ _, Below.refl _ _⟩
  · have hP : rowR S id f n = if f < 0 ∨ n < 0 ∨ (v.xs.length : Int) < f ∨ (v.xs.length : Int) - f < n then ([], 1) else ((v.xs.drop f.toNat).take n.toNat, 0) := by unfold rowR; rw [h3]
    rw [h4] at HC
    obtain ⟨g, cap, hv, d0, d1⟩ := h.rAt j h1
    have c1 := h.box.cell 1
    rw [show #[vC, vR][1]? = some vR from rfl, hv] at c1
    rw [show ((id, v) : Int × RowE).2 = v from rfl] at d1
    have hbA : Below w.heap.size w (w.alloc (.cells #[] 22)) := (Below.refl _ _).alloc (Nat.le_refl _) _
    have HBA := Lib.hid hbA
    have HMA := h.go hbA
    obtain ⟨g', cap', hv', -, d1'⟩ := HMA.rAt j h1
    have hgg := hv.symm.trans hv'
    injection hgg with hgg1 hgg2 hgg3
    injection hgg1 with hgg1
    injection hgg1 with hgg1
    subst hgg1 hgg3
    have c1' := HMA.box.cell 1
    rw [show #[vC, vR][1]? = some vR from rfl, hv] at c1'
    rw [show ((id, v) : Int × RowE).2 = v from rfl] at d1'
    have HROA := Lib.hid (show (w.alloc (.cells #[] 22)).ownsRow 0 22 1 (.slice (some ⟨v.g, 0, none⟩) v.xs.length v.cap) v.xs.length (v.xs.map (Value.int .u64)) from HMA.rows _ (lookE_mem h2))
    have HE0 := Lib.hid (show (w.alloc (.cells #[] 22)).ownsRow w.heap.size 22 1 (.slice (some ⟨w.heap.size, 0, none⟩) 0 0) 0 [] from by simpa using World.ownsRow_lit (size := 1) (base := w.heap.size) w (e := 22) #[] 0 (Nat.le_refl _) (by decide) rfl)
    clear hv' HMA hbA
    have HRO := Lib.hid (show w.ownsRow 0 22 1 (.slice (some ⟨v.g, 0, none⟩) v.xs.length v.cap) v.xs.length (v.xs.map (Value.int .u64)) from h.rows _ (lookE_mem h2))
    obtain ⟨m, hmm⟩ : ∃ m, v.xs.length = m := ⟨_, rfl⟩
    obtain ⟨nn, hnn⟩ : ∃ nn, rr.length = nn := ⟨_, rfl⟩
    have HMM := Lib.hid hmm
    rw [hmm] at hP hlen hcap d1 d1' HRO HROA
    rw [hnn] at c1 c1' h5
    have k0 : (0 : Int) ≤ (j : Int) := by omega
    have k2 : ¬ (j : Int) < 0 := by omega
    clear h h1 h2 h3 h4 hv hmm hnn
    by_cases hbad : f < 0 ∨ n < 0 ∨ (m : Int) < f ∨ (m : Int) - f < n
    · have HP := Lib.hid (hP.trans (if_pos hbad))
      have hb4 := (badB m f n).1 hbad
      clear hP hbad
      rcases hb4 with h1 | ⟨h1, h2⟩ | ⟨h1, h2, h3⟩ | ⟨h1, h2, h3, h4⟩
      all_goals
        go_enter Try.func46, Try.ntmps46
        go_wp2_with fail
        refine HC.out.mono ?_
        rintro e _ ⟨rfl, rfl⟩
        go_wp2_with fail
        go_ret2
        rw [HP.out]
        exact ⟨_, rfl, World.ownsRow_nil _ _ _ _, Below.refl _ _⟩
    · have HP := Lib.hid (hP.trans (if_neg hbad))
      obtain ⟨i, hi⟩ : ∃ i : Nat, f = (i : Int) := ⟨f.toNat, by omega⟩
      obtain ⟨k, hk⟩ : ∃ k : Nat, n = (k : Int) := ⟨n.toNat, by omega⟩
      subst hi hk
      have h1 : ¬ (i : Int) < 0 := by omega
      have h2 : ¬ (k : Int) < 0 := by omega
      have h3 : ¬ (m : Int) < (i : Int) := by omega
      have h4 : ¬ (m : Int) - (i : Int) < (k : Int) := by omega
      have h6 : (0 : Int) ≤ (i : Int) := by omega
      have h7 : (0 : Int) ≤ (k : Int) := by omega
      have h8 : (i : Int) + (k : Int) ≤ (v.cap : Int) := by omega
      have h9 : (i : Int) ≤ (i : Int) + (k : Int) := by omega
      rw [Int.toNat_natCast, Int.toNat_natCast] at HP
      have hik : i + k ≤ m := by omega
      have HIK := Lib.hid hik
      have HLEN := Lib.hid hlen
      clear hP hbad
      obtain ⟨i22, hi22, hz0, hz1, hz2⟩ := info_parts info22
      have HNW := Lib.hid (own_news HROA.out i k (by omega))
      rw [← List.map_drop, ← List.map_take] at HNW
      have HN1 := Lib.hid (show ∀ u ∈ ((v.xs.drop i).take k).map (Value.int .u64), u.oneCell' = true from fun u hu => by obtain ⟨y, _, rfl⟩ := List.mem_map.1 hu; rfl)
      have HSZ := Lib.hid (show w.heap.size ≤ (w.alloc (.cells #[] 22)).heap.size by simp)
      have hb1 : 0 + k ≤ maxLen := by unfold maxLen; omega
      have hb2 : (0 + k) * 8 ≤ 140737488355328 := by omega
      have HB1 := Lib.hid hb1
      have HB2 := Lib.hid hb2
      have hxl : ((v.xs.drop i).take k).length = k := by rw [List.length_take, List.length_drop]; have := HMM.out; omega
      have HXL := Lib.hid hxl
      have hx0 := HBA.out
      clear hx0 hb1 hb2 hxl
      by_cases hci : v.cap = i
      · have hk0 : k = 0 := by omega
        go_enter Try.func46, Try.ntmps46
        go_wp2_with fail
        refine HC.out.mono ?_
        rintro e w' ⟨rfl, rfl⟩
        have HCI := Lib.hid hci
        have HK0 := Lib.hid hk0
        clear hk0
        go_wp2_with (at_builtin; go_must (refine wpList_app rfl _ _ 30 rfl w'.heap.size 22 i22 (.int .u64 0) 1 8 Try.underlying30 hi22 hz0 hz1 hz2 rfl (by decide) (.slice (some ⟨w'.heap.size, 0, none⟩) 0 0) 0 [] (by rfl) HE0.out (some ⟨v.g, 0, none⟩) k 0 (((v.xs.drop i).take k).map (Value.int .u64)) (by show Value.slice (some ⟨v.g, 0, none⟩) 0 0 = _; rw [HK0.out]) (by rw [HNW.out.1, Nat.mul_one]) (fun e => by cases e) (fun ad e j u hu => by rw [HK0.out] at hu; simp at hu) HN1.out HB1.out HB2.out HSZ.out ?_; intro u w2 HO2 HG2 HL2 HN2))
        rw [Nat.zero_add, List.nil_append] at HO2
        have HO := Lib.hid HO2
        have HBW := Lib.hid (HBA.out.grown HG2 HSZ.out (fun j e => by injection e with e; exact Nat.le_of_eq e))
        clear HO2 HG2 HL2 HN2
        go_wp2_with fail
        go_ret2
        rw [HP.out]
        refine ⟨u, rfl, ?_, HBW.out⟩
        show w2.ownsRow w'.heap.size 22 1 u ((v.xs.drop i).take k).length _
        rw [HXL.out]
        exact HO.out
      · go_enter Try.func46, Try.ntmps46
        go_wp2_with fail
        refine HC.out.mono ?_
        rintro e w' ⟨rfl, rfl⟩
        have HCI := Lib.hid hci
        go_wp2_with (at_builtin; go_must (refine wpList_app rfl _ _ 30 rfl w'.heap.size 22 i22 (.int .u64 0) 1 8 Try.underlying30 hi22 hz0 hz1 hz2 rfl (by decide) (.slice (some ⟨w'.heap.size, 0, none⟩) 0 0) 0 [] (by rfl) HE0.out (some ⟨v.g, i, none⟩) k (v.cap - i) (((v.xs.drop i).take k).map (Value.int .u64)) (by show Value.slice (some ⟨v.g, i, none⟩) (i + k - i) (v.cap - i) = _; rw [Nat.add_sub_cancel_left]) (by rw [HNW.out.1, Nat.mul_one]) (fun e => by cases e) (fun ad e j u hu => by cases e; exact HNW.out.2 j u hu) HN1.out HB1.out HB2.out HSZ.out ?_; intro u w2 HO2 HG2 HL2 HN2))
        rw [Nat.zero_add, List.nil_append] at HO2
        have HO := Lib.hid HO2
        have HBW := Lib.hid (HBA.out.grown HG2 HSZ.out (fun j e => by injection e with e; exact Nat.le_of_eq e))
        clear HO2 HG2 HL2 HN2
        go_wp2_with fail
        go_ret2
        rw [HP.out]
        refine ⟨u, rfl, ?_, HBW.out⟩
        show w2.ownsRow w'.heap.size 22 1 u ((v.xs.drop i).take k).length _
        rw [HXL.out]
        exact HO.out
end Go.Proofs.Ytdobpieiobikpaa.Base
