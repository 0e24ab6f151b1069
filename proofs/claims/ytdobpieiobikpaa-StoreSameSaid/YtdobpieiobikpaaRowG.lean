/- New, and Row: what each does. Conditions: as each contract says. -/
import Derived.Test.YtdobpieiobikpaaAts
import Derived.Shelf.SlicesE.Clone
import Derived.Shelf.SlGeneric
import Derived.Ground.SlgnProg
set_option linter.unusedVariables false
set_option linter.unusedSimpArgs false
namespace Go.Proofs.Ytdobpieiobikpaa.Base
open Go Go.RowKit Go.Proofs.Ytdobpieiobikpaa.Mem Go.Proofs.YtdobpieiobikpaaW.PrintWords Go.Proofs.YtdobpieiobikpaaW.PrintLast
open Go.Shelf in
shelf_lay_g SlLaysE0.n41 Slgn 41 at Try 35 as Try.cloneA
theorem sizeOf22 (w : World) : (Go.sizeOf 22).run Try.prog w = .ok 1 w := by
  obtain ⟨i22, hi22, hz0, hz1, hz2⟩ := info_parts info22
  simp [sizeOf, typeInfo, hi22, hz1]
theorem clone_any (b off c : Nat) (xs : List Int) (w : World) (hn : xs.length ≤ 1024) (h : ∀ j (hj : j < xs.length), w.cell? ⟨b, off + j, none⟩ = some (.int .u64 xs[j])) :
    Calls Try.prog 35 #[.slice (some ⟨b, off, none⟩) xs.length c] w fun e w' => ∃ v, e = .returned v ∧ w'.ownsRow w.heap.size 22 1 v xs.length (xs.map (Value.int .u64)) ∧ v ≠ .slice none 0 0 ∧ Below w.heap.size w w' := by
  obtain ⟨i22, hi22, hz0, hz1, hz2⟩ := info_parts info22
  exact AnyE.slices_Clone Try.cloneA i22 (.int .u64 0) 1 8 hi22 hz0 hz1 hz2 rfl (by decide) sizeOf22 b off xs.length c (xs.map (Value.int .u64)) w (by rw [List.length_map, Nat.mul_one]) (by unfold maxLen; omega) (by omega)
    (fun j u hu => by
      rw [List.getElem?_map] at hu
      obtain ⟨y, hy, rfl⟩ := Option.map_eq_some_iff.1 hu
      obtain ⟨hj, e⟩ := List.getElem?_eq_some_iff.1 hy
      rw [h j hj, e]) (fun u hu => by obtain ⟨y, _, rfl⟩ := List.mem_map.1 hu; rfl)
theorem SM.fresh (w : World) : SM (w.alloc (.cells #[.map none, .map none] 62)) w.heap.size none none St.nil [] :=
  ⟨Blk.new w 62 _, rfl, rfl, (fun b e => by cases e), (fun p hp => by simp at hp), by simp, rfl, ⟨by simp [keys, St.nil], by simp [keys, St.nil], (fun p hp => by simp [St.nil] at hp), (fun p hp => by simp [St.nil] at hp)⟩⟩
/-- What is new since. -/
def New (w w' : World) (k : Nat) : Prop := w.heap.size ≤ k ∧ k < w'.heap.size
theorem new_any (w : World) : Calls Try.prog 19 #[] w fun e w' => e = .returned (ptr w.heap.size) ∧ Sto w' w.heap.size (New w w') St.nil ∧ Below w.heap.size w w' := by
  have hb : Below w.heap.size w (w.alloc (.cells #[.map none, .map none] 62)) := (Below.refl _ _).alloc (Nat.le_refl _) _
  have hs : Sto (w.alloc (.cells #[.map none, .map none] 62)) w.heap.size (New w (w.alloc (.cells #[.map none, .map none] 62))) St.nil := by
    refine ⟨fun k hk => hk.2, none, none, [], SM.fresh w, fun k hk => ?_⟩
    have := Own.lt (SM.fresh w) hk
    rcases hk with rfl | hk | hk | hk
    · exact ⟨Nat.le_refl _, this⟩
    · cases hk
    · cases hk
    · simp at hk
  go_enter Try.func19, Try.ntmps19
  go_wp2_with fail
  go_ret
  exact ⟨rfl, hs, hb⟩
/-- Row's answer: memory of the call's own. -/
def RowEnd (w : World) (q : List Int × Int) (e : Ending) (w' : World) : Prop := ∃ v, e = .returned (.tuple #[v, .int .i64 q.2]) ∧ w'.ownsRow w.heap.size 22 1 v q.1.length (q.1.map (Value.int .u64)) ∧ Below w.heap.size w w'
theorem badB (m : Nat) (f n : Int) : (f < 0 ∨ n < 0 ∨ (m : Int) < f ∨ (m : Int) - f < n) ↔ ((f < 0) ∨ (¬ f < 0 ∧ n < 0) ∨ (¬ f < 0 ∧ ¬ n < 0 ∧ (m : Int) < f) ∨ (¬ f < 0 ∧ ¬ n < 0 ∧ ¬ (m : Int) < f ∧ (m : Int) - f < n)) := by omega
set_option maxHeartbeats 3200000 in
set_option maxRecDepth 100000 in
theorem rowR_any (a : Nat) (O : Nat → Prop) (S : St) (id f n : Int) (w : World) (h : Sto w a O S) (hid : (Lit.int .i64 id).wf = true) :
    Calls Try.prog 16 #[ptr a, .int .i64 id, .int .i64 f, .int .i64 n] w (RowEnd w (rowR S id f n)) := by
  obtain ⟨hO, pc, pr, rr, hm, hown⟩ := h
  have HC := Lib.hid (row_any a pc pr S rr id w hm hid)
  have HM := Lib.hid hm
  have hab : S.r = absR rr := hm.abs
  clear hm hown hO
  cases hl : lookE rr id with
  | none =>
    have hs : lookE S.r id = none := by rw [hab, absR_look, hl]; rfl
    have hq : hasR S id = 6 := by unfold hasR; rw [hs]; rfl
    have HP := Lib.hid (show rowR S id f n = ([], 6) by unfold rowR; rw [hs])
    rw [hq] at HC
    clear hq hl hab hs
    go_enter Try.func16, Try.ntmps16
    go_wp2_with fail
    refine HC.out.mono ?_
    rintro e w1 ⟨rfl, hb⟩
    go_wp2_with fail
    go_ret2
    rw [HP.out]
    exact ⟨_, rfl, World.ownsRow_nil _ _ _ _, hb⟩
  | some v =>
    have hs : lookE S.r id = some v.xs := by rw [hab, absR_look, hl]; rfl
    have hq : hasR S id = 0 := by unfold hasR; rw [hs]; rfl
    have hlen : v.xs.length ≤ 1024 := (HM.out.ok.rw_ (id, v.xs) (lookE_mem hs)).2.1
    rw [hq] at HC
    have HL := Lib.hid hl
    have HVL := Lib.hid (show (if false then .tuple #[(lookE (rRow rr) id).getD (.slice none 0 0), .bool (lookE (rRow rr) id).isSome] else (lookE (rRow rr) id).getD (.slice none 0 0)) = .slice (some ⟨v.g, 0, none⟩) v.xs.length v.cap by
      rw [if_neg (by decide), rRow, lookE_map, hl]; rfl)
    have hP : rowR S id f n = if f < 0 ∨ n < 0 ∨ (v.xs.length : Int) < f ∨ (v.xs.length : Int) - f < n then ([], 1) else ((v.xs.drop f.toNat).take n.toNat, 0) := by unfold rowR; rw [hs]
    have hro := HM.out.rows _ (lookE_mem hl)
    have hcap : v.xs.length ≤ v.cap := by
      rcases hro.2 with ⟨hv, _⟩ | ⟨g, cap, cur, hv, _, _, hc, _⟩
      · cases hv
      · unfold rVal at hv
        injection hv with _ _ e
        rw [e]; exact hc
    obtain ⟨m, hmm⟩ : ∃ m, v.xs.length = m := ⟨_, rfl⟩
    have HMM := Lib.hid hmm
    rw [hmm] at HVL hP hlen hcap
    clear hq hs hl hab hmm hro
    by_cases hbad : f < 0 ∨ n < 0 ∨ (m : Int) < f ∨ (m : Int) - f < n
    · have HP := Lib.hid (hP.trans (if_pos hbad))
      have hb4 := (badB m f n).1 hbad
      clear hP hbad
      rcases hb4 with h1 | ⟨h1, h2⟩ | ⟨h1, h2, h3⟩ | ⟨h1, h2, h3, h4⟩
      all_goals
        go_enter Try.func16, Try.ntmps16
        go_wp2_with fail
        refine HC.out.mono ?_
        rintro e w1 ⟨rfl, hb⟩
        have HM1 := Lib.hid (HM.out.fp (Fp.of_below hb (fun _ => False)) (fun _ _ e => e))
        have HB := Lib.hid hb
        have c1 := HM1.out.box.cell 1
        have HZ := Lib.hid (zero30 w1)
        clear hb
        go_wp2_with (at_lookup; go_must (refine wpList_look rfl _ _ 60 false rfl 30 Try.underlying60 _ HZ.out pr (rRow rr) (by rfl) HM1.out.rm id hid (by rfl) (.slice (some ⟨v.g, 0, none⟩) m v.cap) HVL.out ?_))
        go_ret2
        rw [HP.out]
        exact ⟨_, rfl, World.ownsRow_nil _ _ _ _, HB.out⟩
    · have HP := Lib.hid (hP.trans (if_neg hbad))
      obtain ⟨i, hi⟩ : ∃ i : Nat, f = (i : Int) := ⟨f.toNat, by omega⟩
      obtain ⟨k, hk⟩ : ∃ k : Nat, n = (k : Int) := ⟨n.toNat, by omega⟩
      subst hi hk
      have h1 : ¬ (i : Int) < 0 := by omega
      have h2 : ¬ (k : Int) < 0 := by omega
      have h3 : ¬ (m : Int) < (i : Int) := by omega
      have h4 : ¬ (m : Int) - (i : Int) < (k : Int) := by omega
      have h5 : (0 : Int) ≤ (i : Int) := by omega
      have h6 : (0 : Int) ≤ (k : Int) := by omega
      have h7 : (i : Int) + (k : Int) ≤ (v.cap : Int) := by omega
      have h8 : (i : Int) ≤ (i : Int) + (k : Int) := by omega
      rw [Int.toNat_natCast, Int.toNat_natCast] at HP
      have hik : i + k ≤ m := by omega
      have hxl : ((v.xs.drop i).take k).length = k := by rw [List.length_take, List.length_drop]; have := HMM.out; omega
      have HXL := Lib.hid hxl
      have HIK := Lib.hid hik
      clear hP hbad hxl
      by_cases hci : v.cap = i
      all_goals
        go_enter Try.func16, Try.ntmps16
        go_wp2_with fail
        refine HC.out.mono ?_
        rintro e w1 ⟨rfl, hb⟩
        have HM1 := Lib.hid (HM.out.fp (Fp.of_below hb (fun _ => False)) (fun _ _ e => e))
        have HB := Lib.hid hb
        have c1 := HM1.out.box.cell 1
        have HZ := Lib.hid (zero30 w1)
        have HCI := Lib.hid hci
        have HCL := Lib.hid (fun (off : Nat) (c : Nat) (hoff : off = i ∨ k = 0) => clone_any v.g off c ((v.xs.drop i).take k) w1 (by rw [HXL.out]; omega) (fun j hj => by
          rw [HXL.out] at hj
          have ho : off = i := by omega
          subst ho
          have := (row_cell HM1.out HL.out (off + j) (by rw [HMM.out]; omega)).1
          rw [this]
          unfold getR
          rw [show S.r = absR rr from HM1.out.abs, absR_look, HL.out]
          have hlt : off + j < v.xs.length := by rw [HMM.out]; omega
          have he : (((off + j : Nat) : Int)).toNat = off + j := Int.toNat_natCast _
          show some (Value.int .u64 (v.xs.getD (((off + j : Nat) : Int)).toNat 0)) = _
          rw [he]
          simp [hlt]))
        rw [HXL.out] at HCL
        clear hb HC
        go_wp2_with (at_lookup; go_must (refine wpList_look rfl _ _ 60 false rfl 30 Try.underlying60 _ HZ.out pr (rRow rr) (by rfl) HM1.out.rm id hid (by rfl) (.slice (some ⟨v.g, 0, none⟩) m v.cap) HVL.out ?_))
        refine (HCL.out _ _ (by have := HCI.out; omega)).mono ?_
        rintro e w2 ⟨u, rfl, ho, -, hb2⟩
        have HB2 := Lib.hid (below_step HB.out hb2)
        have HO2 := Lib.hid ho
        have hsz := Lib.hid HB.out.size
        clear ho hb2
        go_wp2_with fail
        go_ret2
        rw [HP.out]
        refine ⟨u, rfl, ?_, HB2.out⟩
        show w2.ownsRow w.heap.size 22 1 u ((v.xs.drop i).take k).length _
        rw [HXL.out]
        exact own_mono HO2.out hsz.out
end Go.Proofs.Ytdobpieiobikpaa.Base
