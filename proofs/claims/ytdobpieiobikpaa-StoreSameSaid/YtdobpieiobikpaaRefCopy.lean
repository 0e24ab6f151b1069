/- The document's store: a copy. Conditions: as the contract says. -/
import Derived.Test.YtdobpieiobikpaaRefPR
set_option linter.unusedVariables false
set_option linter.unusedSimpArgs false
namespace Go.Proofs.Ytdobpieiobikpaa.Base
open Go Go.RowKit Go.Proofs.Ytdobpieiobikpaa.Mem Go.Proofs.YtdobpieiobikpaaW.PrintWords Go.Proofs.YtdobpieiobikpaaW.PrintLast
/-- The slice of rows is appended to. -/
theorem RM.appR {w w1 : World} {a : Nat} {vC vR vR' : Value} {S : St} {rr rr' : List (Int × RowE)} (h : RM w a vC vR S rr) (hf0 : Fp (fun k => vR.ownBlock = some k) w w1) (hc : w1.ownsRow 0 80 2 vR' rr'.length (rc rr')) (hrows : ∀ p ∈ rr', w1.ownsRow 0 22 1 (rVal p.2) p.2.xs.length (p.2.xs.map (Value.int .u64))) (hnd : (rr'.map (·.2.g)).Nodup) (hok : St.ok { S with r := absR rr' }) :
    RM (w1.setCell ⟨a, 1, none⟩ vR') a vC vR' { S with r := absR rr' } rr' := by
  have hf1 : Fp (fun j => j = a) w1 (w1.setCell ⟨a, 1, none⟩ vR') := (Fp.refl _ _).set_ _ (fun _ => rfl)
  have hb1 : Blk w1 a 48 #[vC, vR] := h.box.fp hf0 (fun e => own_type h.rm h.box (by decide) e)
  have hcm1 : w1.ownsRow 0 82 3 vC S.c.length (cc S.c) := own_fp h.cm hf0 (fun k e e2 => own_types h.cm h.rm (by decide) e2 e)
  exact ⟨hb1.set_ 1 _, own_fp hcm1 hf1 (fun k e e2 => own_type hcm1 hb1 (by decide) (e2 ▸ e)), own_fp hc hf1 (fun k e e2 => own_type hc hb1 (by decide) (e2 ▸ e)), fun p hp => own_fp (hrows p hp) hf1 (fun k e e2 => own_type (hrows p hp) hb1 (by decide) (e2 ▸ e)), hnd, rfl, hok⟩
theorem ok_take {S : St} (h : S.ok) {rr : List (Int × RowE)} (e : S.r = absR rr) (i : Nat) : St.ok ⟨S.c, absR (rr.take i)⟩ := by
  have e2 : absR (rr.take i) = S.r.take i := by rw [e]; unfold absR; rw [List.map_take]
  refine ⟨h.ck, ?_, h.cw, fun p hp => ?_⟩
  · show (keys (absR (rr.take i))).Nodup
    rw [e2]
    unfold keys
    rw [List.map_take]
    exact List.Nodup.sublist (List.take_sublist _ _) h.rk
  · have hp : p ∈ absR (rr.take i) := hp
    rw [e2] at hp
    exact h.rw_ p (List.mem_of_mem_take hp)
def RCopyEnd (w : World) (S : St) (e : Ending) (w' : World) : Prop := ∃ x, e = .returned (ptr x) ∧ Rto w' x (New w w') S ∧ Below w.heap.size w w'
/-- So many rows are copied. -/
def RCI (w : World) (a : Nat) (vC vR : Value) (S : St) (rr : List (Int × RowE)) (x : Nat) (t : Value) (wr : World) : Prop :=
  ∃ (i : Nat) (vC' vR' : Value) (rr' : List (Int × RowE)), t = .int .i64 (i : Int) ∧ i ≤ rr.length ∧ Below w.heap.size w wr ∧ absR rr' = absR (rr.take i) ∧ RM wr x vC' vR' ⟨S.c, absR (rr.take i)⟩ rr' ∧ ∀ k, ROwn x vC' vR' rr' k → w.heap.size ≤ k
set_option maxHeartbeats 32000000 in
set_option maxRecDepth 100000 in
theorem rcopy_SM (a : Nat) (vC vR : Value) (S : St) (rr : List (Int × RowE)) (w : World) (h : RM w a vC vR S rr) (hlc : S.c.length < 1000000) (hlr : S.r.length < 1000000) : Calls Try.prog 24 #[ptr a] w (RCopyEnd w S) := by
  have HM := Lib.hid h
  have hrl : rr.length < 1000000 := by
    have e := congrArg List.length h.abs
    unfold absR at e
    rw [List.length_map] at e
    omega
  obtain ⟨i82, hi82, hy0, hy1, hy2⟩ := info_parts info82
  obtain ⟨iE, hiE, hz0, hz1, hz2⟩ := info_parts info80
  obtain ⟨iX, hiX, hx0, hx1, hx2⟩ := info_parts info22
  obtain ⟨A, cp, hv, hle, hmx⟩ := own_form2 h.cm
  have hb1 : Below w.heap.size w (w.alloc (.cells #[] 82)) := (Below.refl _ _).alloc (Nat.le_refl _) _
  have HB1 := Lib.hid hb1
  have hma := h.go hb1
  have c0 := hma.box.cell 0
  rw [show #[vC, vR][0]? = some vC from rfl, hv] at c0
  have hcm := hma.cm
  rw [hv] at hcm
  have HNW := Lib.hid (own_all hcm)
  have HE0 := Lib.hid (show (w.alloc (.cells #[] 82)).ownsRow w.heap.size 82 3 (.slice (some ⟨w.heap.size, 0, none⟩) 0 0) 0 [] from by simpa using World.ownsRow_lit (size := 3) (base := w.heap.size) w (e := 82) #[] 0 (Nat.le_refl _) (by decide) rfl)
  have HSZ := Lib.hid (show w.heap.size ≤ (w.alloc (.cells #[] 82)).heap.size by simp)
  have HL1 := Lib.hid (show 0 + S.c.length ≤ maxLen ∧ (0 + S.c.length) * 24 ≤ 140737488355328 by unfold maxLen; omega)
  clear hma hcm hb1 hlc hlr h
  go_enter Try.func24, Try.ntmps24
  go_wp2_with (at_builtin; go_must (refine wpList_app rfl (.tmp 5) (.tmp 9) 45 rfl w.heap.size 82 i82 _ 3 24 Try.underlying45 hi82 hy0 hy1 hy2 rfl (by decide) (.slice (some ⟨w.heap.size, 0, none⟩) 0 0) 0 [] (by rfl) HE0.out A S.c.length cp (cc S.c) (by rfl) HNW.out.1 HNW.out.2.1 HNW.out.2.2 (cc_one S.c) HL1.out.1 HL1.out.2 HSZ.out ?_; intro v1 w2 O1 G1 P1 N1; rw [Nat.zero_add, List.nil_append] at O1; obtain ⟨A9, c9, rfl, -⟩ := own_form O1; have B2 := Lib.hid (HB1.out.grown G1 HSZ.out (fun j e => by injection e with e; exact Nat.le_of_eq e)); have HO1 := Lib.hid O1; clear O1 G1 P1 N1))
  have hW5 : RM (w2.alloc (.cells #[.slice A9 S.c.length c9, .slice none 0 0] 48)) w2.heap.size (.slice A9 S.c.length c9) (.slice none 0 0) ⟨S.c, absR (rr.take 0)⟩ [] :=
    ⟨Blk.new w2 48 _, own_mono (HO1.out.alloc _) (Nat.zero_le _), World.ownsRow_nil _ _ _ _, (fun p hp => by simp at hp), by simp, rfl, ok_take HM.out.ok HM.out.abs 0⟩
  have hB5 := B2.out.alloc B2.out.size (.cells #[.slice A9 S.c.length c9, .slice none 0 0] 48)
  have hR0 : RCI w a vC vR S rr w2.heap.size (.int .i64 0) (w2.alloc (.cells #[.slice A9 S.c.length c9, .slice none 0 0] 48)) :=
    ⟨0, _, _, [], rfl, Nat.zero_le _, hB5, rfl, hW5, fun k hk => by
      rcases hk with hk | hk | hk | hk
      · rw [hk]; exact B2.out.size
      · exact (HO1.out.lt k hk).1
      · cases hk
      · simp at hk⟩
  have HR0 := Lib.hid hR0
  have HRL := Lib.hid hrl
  clear hW5 hB5 hR0 HO1 B2 HB1 c0 HNW HE0 HSZ HL1 hrl hmx hle hv
  generalize w2.alloc (.cells #[.slice A9 S.c.length c9, .slice none 0 0] 48) = w5 at *
  generalize w2.heap.size = x at *
  go_loopw [4] (fun t wr => RCI w a vC vR S rr x t wr) (fun t _ => rr.length - (intOf t).toNat)
  case atStart => exact HR0.out
  case round =>
    clear HR0
    obtain ⟨i, vC', vR', rr', rfl, hi, hB, heq, hR, hown⟩ := hrel
    have hmm := HM.out.go hB
    have c1 := hmm.box.cell 1
    rw [show #[vC, vR][1]? = some vR from rfl] at c1
    by_cases hlt : i < rr.length
    · have hg := List.getElem?_eq_getElem hlt
      obtain ⟨⟨id, v⟩, hp⟩ : ∃ p, rr[i] = p := ⟨_, rfl⟩
      rw [hp] at hg
      obtain ⟨gl, cl, xs⟩ := v
      obtain ⟨g, cap, hv, d0, d1⟩ := hmm.rAt i hg
      obtain ⟨A1, c1', hv1, hle1, -⟩ := own_form2 hR.rm
      have hlen : rr'.length = i := by
        have e := congrArg List.length heq
        unfold absR at e
        rw [List.length_map, List.length_map, List.length_take] at e
        omega
      rw [hlen] at hv1 hle1
      obtain ⟨m, hm⟩ : ∃ m, xs.length = m := ⟨_, rfl⟩
      have hxl := (HM.out.ok.rw_ (id, xs) (by rw [HM.out.abs]; exact List.mem_map.2 ⟨_, List.mem_of_getElem? hg, rfl⟩)).2.1
      have hxl : xs.length ≤ 1024 := hxl
      rw [hm] at hxl
      have hrow0 : ∀ W, Below wr.heap.size wr W → W.ownsRow 0 22 1 (.slice (some ⟨gl, 0, none⟩) m cl) m (xs.map (Value.int .u64)) := fun W hW => by
        have := (hmm.go hW).rows _ (List.mem_of_getElem? hg)
        rw [show (((id, (⟨gl, cl, xs⟩ : RowE)) : Int × RowE).2.xs).length = m from hm] at this
        exact (show W.ownsRow 0 22 1 (.slice (some ⟨gl, 0, none⟩) xs.length cl) m _ from this) |> fun h => by rw [hm] at h; exact h
      have HROW := Lib.hid hrow0
      have hSB : ∀ W, Below w.heap.size w W → W.cell? ⟨x, 1, none⟩ = some (.slice A1 i c1') → W.cell? ⟨x, 1, none⟩ = some (.slice A1 i c1') ∧ W.cell? ⟨a, 1, none⟩ = some (.slice (some ⟨g, 0, none⟩) rr.length cap) ∧ W.cell? ⟨g, i * 2, none⟩ = some (.int .i64 id) ∧ W.cell? ⟨g, i * 2 + 1, none⟩ = some (.slice (some ⟨gl, 0, none⟩) m cl) := fun W hW hx => by
        have h1 := HM.out.go hW
        obtain ⟨g', cap', hv', e0, e1⟩ := h1.rAt i hg
        have e2 := h1.box.cell 1
        rw [show #[vC, vR][1]? = some vR from rfl, hv] at e2
        have hgg := hv.symm.trans hv'
        injection hgg with hgg1 _ hgg3
        injection hgg1 with hgg1
        injection hgg1 with hgg1
        subst hgg1 hgg3
        rw [show (((id, (⟨gl, cl, xs⟩ : RowE)) : Int × RowE).2.xs).length = m from hm] at e1
        exact ⟨hx, e2, e0, e1⟩
      have hxc : ∀ W, Below wr.heap.size wr W → W.cell? ⟨x, 1, none⟩ = some (.slice A1 i c1') := fun W hW => by
        have := (hR.go hW).box.cell 1
        rw [show #[vC', vR'][1]? = some vR' from rfl, hv1] at this
        exact this
      have hS := Lib.hid (fun W (hW : Below wr.heap.size wr W) => hSB W (below_step hB hW) (hxc W hW))
      have hvb : ∀ j, (Value.slice A1 i c1').ownBlock = some j → w.heap.size ≤ j := fun j hj => hown j (.inr (.inr (.inl (by rw [hv1]; exact hj))))
      have HVB := Lib.hid hvb
      have HSW := Lib.hid (fun W3 W4 (hW : Below wr.heap.size wr W3) (hG : W3.grownBy W4 (Value.slice A1 i c1').ownBlock) => hSB W4 ((below_step hB hW).grown hG (Nat.le_trans hB.size hW.size) (fun j e => hvb j e)) (by
        have h3 := (hR.go hW).box
        have h4 := h3.fp (Fp.of_grown hG) (fun e => own_type (hR.go hW).rm h3 (by decide) (by rw [hv1]; exact e))
        have := h4.cell 1
        rw [show #[vC', vR'][1]? = some vR' from rfl, hv1] at this
        exact this))
      have happ := hR.rm
      rw [hlen, hv1] at happ
      have HAPP := Lib.hid happ
      have HR := Lib.hid hR
      have HVR := Lib.hid hv1
      have HG := Lib.hid hg
      have HEQ := Lib.hid heq
      have HB := Lib.hid hB
      have HOWN := Lib.hid hown
      have HLEN := Lib.hid hlen
      have HMM := Lib.hid hm
      have HLT := Lib.hid hlt
      have HV := Lib.hid hv
      have HB1 := Lib.hid (show 0 + m ≤ maxLen ∧ (0 + m) * 8 ≤ 140737488355328 ∧ i + 1 ≤ maxLen ∧ (i + 1) * 32 ≤ 140737488355328 by have := HRL.out; unfold maxLen; omega)
      rw [hv] at c1
      have k1 : (i : Int) < (rr.length : Int) := by omega
      have k0 : (0 : Int) ≤ (i : Int) := by omega
      obtain ⟨nn, hnn⟩ : ∃ nn, rr.length = nn := ⟨_, rfl⟩
      have HNN := Lib.hid hnn
      rw [hnn] at hS HSW c1 k1
      clear hmm hR happ hown hB heq hv hv1 hg hp hm hxl hrow0 hSB hxc hvb hlen hle1 d0 d1 hlt hi hnn
      go_upto_region 5 with (fail)
      clear c1
      refine start_ (n := 29) (S := (fun W => W.cell? ⟨x, 1, none⟩ = some (.slice A1 i c1') ∧ W.cell? ⟨a, 1, none⟩ = some (.slice (some ⟨g, 0, none⟩) nn cap) ∧ W.cell? ⟨g, i * 2, none⟩ = some (.int .i64 id) ∧ W.cell? ⟨g, i * 2 + 1, none⟩ = some (.slice (some ⟨gl, 0, none⟩) m cl))) (ds := [28]) #[false, false, false, false, false, false, false, false, false, false, false, false, false, false, false, false, false, false, false, false, false, false, false, false, false, false, false, false, false] (by kernel_rfl) rfl rfl (hS.out _ (below_drew1 (Below.refl _ _))) (fun hHeld => ?_)
      refine pure_ (i := 0) (N := (some 22)) (v := ?_) (a' := ?_) #[true, false, false, false, false, false, false, false, false, false, false, false, false, false, false, false, false, false, false, false, false, false, false, false, false, false, false, false, false] rfl rfl (by kernel_rfl) (fun _ _ _ h => h) (Or.inl ⟨by rfl, ?_⟩) ?_ ?_
      rotate_left
      · intro w'
        go_simp
        (try with_reducible rfl)
      rotate_left
      · simp only [Act.put, List.setIfInBounds_toArray, List.set_cons_zero, List.set_cons_succ, i64_w, i32_w]
        rfl
      refine pure_ (i := 1) (N := (some 23)) (v := ?_) (a' := ?_) #[true, true, false, false, false, false, false, false, false, false, false, false, false, false, false, false, false, false, false, false, false, false, false, false, false, false, false, false, false] rfl rfl (by kernel_rfl) (fun _ _ _ h => h) (Or.inl ⟨by rfl, ?_⟩) ?_ ?_
      rotate_left
      · intro w'
        go_simp
        (try with_reducible rfl)
      rotate_left
      · simp only [Act.put, List.setIfInBounds_toArray, List.set_cons_zero, List.set_cons_succ, i64_w, i32_w]
        rfl
      refine pure_ (i := 2) (N := (some 24)) (v := ?_) (a' := ?_) #[true, true, true, false, false, false, false, false, false, false, false, false, false, false, false, false, false, false, false, false, false, false, false, false, false, false, false, false, false] rfl rfl (by kernel_rfl) (fun _ _ _ h => h) (Or.inl ⟨by rfl, ?_⟩) ?_ ?_
      rotate_left
      · intro w'
        go_simp
        (try with_reducible rfl)
      rotate_left
      · simp only [Act.put, List.setIfInBounds_toArray, List.set_cons_zero, List.set_cons_succ, i64_w, i32_w]
        rfl
      refine pure_ (i := 3) (N := (some 25)) (v := ?_) (a' := ?_) #[true, true, true, true, false, false, false, false, false, false, false, false, false, false, false, false, false, false, false, false, false, false, false, false, false, false, false, false, false] rfl rfl (by kernel_rfl) (fun _ _ _ h => h) (Or.inl ⟨by rfl, ?_⟩) ?_ ?_
      rotate_left
      · intro w'
        go_simp
        (try with_reducible rfl)
      rotate_left
      · simp only [Act.put, List.setIfInBounds_toArray, List.set_cons_zero, List.set_cons_succ, i64_w, i32_w]
        rfl
      refine take_ (i := 4) (N := (some 26)) (v := ?_) (a' := ?_) #[true, true, true, true, true, false, false, false, false, false, false, false, false, false, false, false, false, false, false, false, false, false, false, false, false, false, false, false, false] rfl rfl (by kernel_rfl) (fun _ _ _ h => h) (Or.inl ⟨by rfl, ?_⟩) hHeld ?_ ?_
      rotate_left
      · rintro w' ⟨s0, s1, s2, s3⟩
        go_simp
        (try with_reducible rfl)
      rotate_left
      · simp only [Act.put, List.setIfInBounds_toArray, List.set_cons_zero, List.set_cons_succ, i64_w, i32_w]
        rfl
      refine pure_ (i := 5) (N := (some 27)) (v := ?_) (a' := ?_) #[true, true, true, true, true, true, false, false, false, false, false, false, false, false, false, false, false, false, false, false, false, false, false, false, false, false, false, false, false] rfl rfl (by kernel_rfl) (fun _ _ _ h => h) (Or.inl ⟨by rfl, ?_⟩) ?_ ?_
      rotate_left
      · intro w'
        go_simp
        (try with_reducible rfl)
      rotate_left
      · simp only [Act.put, List.setIfInBounds_toArray, List.set_cons_zero, List.set_cons_succ, i64_w, i32_w]
        rfl
      refine pure_ (i := 6) (N := (some 28)) (v := ?_) (a' := ?_) #[true, true, true, true, true, true, true, false, false, false, false, false, false, false, false, false, false, false, false, false, false, false, false, false, false, false, false, false, false] rfl rfl (by kernel_rfl) (fun _ _ _ h => h) (Or.inl ⟨by rfl, ?_⟩) ?_ ?_
      rotate_left
      · intro w'
        go_simp
        (try with_reducible rfl)
      rotate_left
      · simp only [Act.put, List.setIfInBounds_toArray, List.set_cons_zero, List.set_cons_succ, i64_w, i32_w]
        rfl
      refine pure_ (i := 7) (N := (some 29)) (v := ?_) (a' := ?_) #[true, true, true, true, true, true, true, true, false, false, false, false, false, false, false, false, false, false, false, false, false, false, false, false, false, false, false, false, false] rfl rfl (by kernel_rfl) (fun _ _ _ h => h) (Or.inl ⟨by rfl, ?_⟩) ?_ ?_
      rotate_left
      · intro w'
        go_simp
        (try with_reducible rfl)
      rotate_left
      · simp only [Act.put, List.setIfInBounds_toArray, List.set_cons_zero, List.set_cons_succ, i64_w, i32_w]
        rfl
      refine take_ (i := 8) (N := (some 30)) (v := ?_) (a' := ?_) #[true, true, true, true, true, true, true, true, true, false, false, false, false, false, false, false, false, false, false, false, false, false, false, false, false, false, false, false, false] rfl rfl (by kernel_rfl) (fun _ _ _ h => h) (Or.inl ⟨by rfl, ?_⟩) hHeld ?_ ?_
      rotate_left
      · rintro w' ⟨s0, s1, s2, s3⟩
        go_simp
        (try with_reducible rfl)
      rotate_left
      · simp only [Act.put, List.setIfInBounds_toArray, List.set_cons_zero, List.set_cons_succ, i64_w, i32_w]
        rfl
      refine pure_ (i := 9) (N := (some 31)) (v := ?_) (a' := ?_) #[true, true, true, true, true, true, true, true, true, true, false, false, false, false, false, false, false, false, false, false, false, false, false, false, false, false, false, false, false] rfl rfl (by kernel_rfl) (fun _ _ _ h => h) (Or.inl ⟨by rfl, ?_⟩) ?_ ?_
      rotate_left
      · intro w'
        go_simp
        (try with_reducible rfl)
      rotate_left
      · simp only [Act.put, List.setIfInBounds_toArray, List.set_cons_zero, List.set_cons_succ, i64_w, i32_w]
        rfl
      refine pure_ (i := 10) (N := (some 32)) (v := ?_) (a' := ?_) #[true, true, true, true, true, true, true, true, true, true, true, false, false, false, false, false, false, false, false, false, false, false, false, false, false, false, false, false, false] rfl rfl (by kernel_rfl) (fun _ _ _ h => h) (Or.inl ⟨by rfl, ?_⟩) ?_ ?_
      rotate_left
      · intro w'
        go_simp
        (try with_reducible rfl)
      rotate_left
      · simp only [Act.put, List.setIfInBounds_toArray, List.set_cons_zero, List.set_cons_succ, i64_w, i32_w]
        rfl
      refine pure_ (i := 11) (N := (some 33)) (v := ?_) (a' := ?_) #[true, true, true, true, true, true, true, true, true, true, true, true, false, false, false, false, false, false, false, false, false, false, false, false, false, false, false, false, false] rfl rfl (by kernel_rfl) (fun _ _ _ h => h) (Or.inl ⟨by rfl, ?_⟩) ?_ ?_
      rotate_left
      · intro w'
        go_simp
        (try with_reducible rfl)
      rotate_left
      · simp only [Act.put, List.setIfInBounds_toArray, List.set_cons_zero, List.set_cons_succ, i64_w, i32_w]
        rfl
      refine take_ (i := 12) (N := (some 34)) (v := ?_) (a' := ?_) #[true, true, true, true, true, true, true, true, true, true, true, true, true, false, false, false, false, false, false, false, false, false, false, false, false, false, false, false, false] rfl rfl (by kernel_rfl) (fun _ _ _ h => h) (Or.inl ⟨by rfl, ?_⟩) hHeld ?_ ?_
      rotate_left
      · rintro w' ⟨s0, s1, s2, s3⟩
        go_simp
        (try with_reducible rfl)
      rotate_left
      · simp only [Act.put, List.setIfInBounds_toArray, List.set_cons_zero, List.set_cons_succ, i64_w, i32_w]
        rfl
      refine pure_ (i := 14) (N := (some 36)) (v := ?_) (a' := ?_) #[true, true, true, true, true, true, true, true, true, true, true, true, true, false, true, false, false, false, false, false, false, false, false, false, false, false, false, false, false] rfl rfl (by kernel_rfl) (fun _ _ _ h => h) (Or.inl ⟨by rfl, ?_⟩) ?_ ?_
      rotate_left
      · intro w'
        go_simp
        (try with_reducible rfl)
      rotate_left
      · simp only [Act.put, List.setIfInBounds_toArray, List.set_cons_zero, List.set_cons_succ, i64_w, i32_w]
        rfl
      refine pure_ (i := 15) (N := (some 37)) (v := ?_) (a' := ?_) #[true, true, true, true, true, true, true, true, true, true, true, true, true, false, true, true, false, false, false, false, false, false, false, false, false, false, false, false, false] rfl rfl (by kernel_rfl) (fun _ _ _ h => h) (Or.inl ⟨by rfl, ?_⟩) ?_ ?_
      rotate_left
      · intro w'
        go_simp
        (try with_reducible rfl)
      rotate_left
      · simp only [Act.put, List.setIfInBounds_toArray, List.set_cons_zero, List.set_cons_succ, i64_w, i32_w]
        rfl
      refine pure_ (i := 16) (N := (some 38)) (v := ?_) (a' := ?_) #[true, true, true, true, true, true, true, true, true, true, true, true, true, false, true, true, true, false, false, false, false, false, false, false, false, false, false, false, false] rfl rfl (by kernel_rfl) (fun _ _ _ h => h) (Or.inl ⟨by rfl, ?_⟩) ?_ ?_
      rotate_left
      · intro w'
        go_simp
        (try with_reducible rfl)
      rotate_left
      · simp only [Act.put, List.setIfInBounds_toArray, List.set_cons_zero, List.set_cons_succ, i64_w, i32_w]
        rfl
      refine take_ (i := 17) (N := (some 39)) (v := ?_) (a' := ?_) #[true, true, true, true, true, true, true, true, true, true, true, true, true, false, true, true, true, true, false, false, false, false, false, false, false, false, false, false, false] rfl rfl (by kernel_rfl) (fun _ _ _ h => h) (Or.inl ⟨by rfl, ?_⟩) hHeld ?_ ?_
      rotate_left
      · rintro w' ⟨s0, s1, s2, s3⟩
        go_simp
        (try with_reducible rfl)
      rotate_left
      · simp only [Act.put, List.setIfInBounds_toArray, List.set_cons_zero, List.set_cons_succ, i64_w, i32_w]
        rfl
      refine pure_ (i := 18) (N := (some 40)) (v := ?_) (a' := ?_) #[true, true, true, true, true, true, true, true, true, true, true, true, true, false, true, true, true, true, true, false, false, false, false, false, false, false, false, false, false] rfl rfl (by kernel_rfl) (fun _ _ _ h => h) (Or.inl ⟨by rfl, ?_⟩) ?_ ?_
      rotate_left
      · intro w'
        go_simp
        (try with_reducible rfl)
      rotate_left
      · simp only [Act.put, List.setIfInBounds_toArray, List.set_cons_zero, List.set_cons_succ, i64_w, i32_w]
        rfl
      refine pure_ (i := 19) (N := (some 41)) (v := ?_) (a' := ?_) #[true, true, true, true, true, true, true, true, true, true, true, true, true, false, true, true, true, true, true, true, false, false, false, false, false, false, false, false, false] rfl rfl (by kernel_rfl) (fun _ _ _ h => h) (Or.inl ⟨by rfl, ?_⟩) ?_ ?_
      rotate_left
      · intro w'
        go_simp
        (try with_reducible rfl)
      rotate_left
      · simp only [Act.put, List.setIfInBounds_toArray, List.set_cons_zero, List.set_cons_succ, i64_w, i32_w]
        rfl
      refine pure_ (i := 20) (N := (some 42)) (v := ?_) (a' := ?_) #[true, true, true, true, true, true, true, true, true, true, true, true, true, false, true, true, true, true, true, true, true, false, false, false, false, false, false, false, false] rfl rfl (by kernel_rfl) (fun _ _ _ h => h) (Or.inl ⟨by rfl, ?_⟩) ?_ ?_
      rotate_left
      · intro w'
        go_simp
        (try with_reducible rfl)
      rotate_left
      · simp only [Act.put, List.setIfInBounds_toArray, List.set_cons_zero, List.set_cons_succ, i64_w, i32_w]
        rfl
      refine take_ (i := 21) (N := (some 43)) (v := ?_) (a' := ?_) #[true, true, true, true, true, true, true, true, true, true, true, true, true, false, true, true, true, true, true, true, true, true, false, false, false, false, false, false, false] rfl rfl (by kernel_rfl) (fun _ _ _ h => h) (Or.inl ⟨by rfl, ?_⟩) hHeld ?_ ?_
      rotate_left
      · rintro w' ⟨s0, s1, s2, s3⟩
        go_simp
        (try with_reducible rfl)
      rotate_left
      · simp only [Act.put, List.setIfInBounds_toArray, List.set_cons_zero, List.set_cons_succ, i64_w, i32_w]
        rfl
      have HBD := Lib.hid (below_drew1 (Below.refl wr.heap.size wr))
      have hSD := Lib.hid (fun W (hW : Below wr.drew.heap.size wr.drew W) => hS.out W (below_step HBD.out hW))
      have HRD := Lib.hid (HR.out.go HBD.out)
      have HROWD := Lib.hid (fun W (hW : Below wr.drew.heap.size wr.drew W) => HROW.out W (below_step HBD.out hW))
      have HAPPD := Lib.hid (own_go HAPP.out HBD.out)
      generalize wr.drew = wd at *
      refine one_ (i := 13) (N := (some 35)) #[true, true, true, true, true, true, true, true, true, true, true, true, true, true, true, true, true, true, true, true, true, true, false, false, false, false, false, false, false] rfl rfl (by kernel_rfl) (by decide) (fun K hK => ?_)
      refine value_ (w1 := wd.alloc (.cells #[] 22)) (v := .slice (some ⟨wd.heap.size, 0, none⟩) 0 0) (by rfl) rfl (by go_simp) ?_
      have hba := (Below.refl wd.heap.size wd).alloc (Nat.le_refl _) (.cells #[] 22)
      refine hK.out _ _ (hSD.out _ hba) (fun hHeld => ?_)
      clear hK K
      refine norm_ (a' := ?_) ?_ ?_
      rotate_left
      · show Act.put _ (some 35) _ = _
        simp only [Act.put, List.setIfInBounds_toArray, List.set_cons_zero, List.set_cons_succ, i64_w, i32_w]
        rfl
      refine one_ (i := 22) (N := (some 44)) #[true, true, true, true, true, true, true, true, true, true, true, true, true, true, true, true, true, true, true, true, true, true, true, false, false, false, false, false, false] rfl rfl (by kernel_rfl) (by decide) (fun K hK => ?_)
      have HE0 : (wd.alloc (.cells #[] 22)).ownsRow wd.heap.size 22 1 (.slice (some ⟨wd.heap.size, 0, none⟩) 0 0) 0 [] := by simpa using World.ownsRow_lit (size := 1) (base := wd.heap.size) wd (e := 22) #[] 0 (Nat.le_refl _) (by decide) rfl
      obtain ⟨n0, n1, n2⟩ := own_all (HROWD.out _ hba)
      obtain ⟨v1, w2, hr, O1, G1, P1, N1⟩ := run_app (P := Try.prog) _ wd.heap.size 30 30 22 iX _ 1 8 Try.underlying30 hiX hx0 hx1 hx2 rfl (by decide) _ 0 [] HE0 (some ⟨gl, 0, none⟩) m cl _ n0 n1 n2 (fun u hu => by obtain ⟨y, _, rfl⟩ := List.mem_map.1 hu; rfl) HB1.out.1 HB1.out.2.1 (by simp)
      rw [Nat.zero_add, List.nil_append] at O1
      have B2 : Below wd.heap.size wd w2 := hba.grown G1 (by simp) (fun j e => by injection e with e; exact Nat.le_of_eq e)
      obtain ⟨g1, cp1, rfl⟩ : ∃ g1 cp1, v1 = .slice (some ⟨g1, 0, none⟩) m cp1 := by
        rcases O1.2 with ⟨h1, _⟩ | ⟨g1, cp1, _, h1, _⟩
        · exact absurd h1 (N1 (.inl (by intro h; cases h)))
        · exact ⟨g1, cp1, h1⟩
      refine value_ (w1 := w2) (v := .slice (some ⟨g1, 0, none⟩) m cp1) (by rfl) rfl (exec_app (.tmp 35) (.tmp 43) 30 rfl (by rfl) (by rfl) hr) ?_
      have HO1 := Lib.hid O1
      have HB2 := Lib.hid B2
      clear O1 G1 P1 N1 n0 n1 n2 hr HE0 hba B2
      refine hK.out _ _ (hSD.out _ HB2.out) (fun hHeld => ?_)
      clear hK K
      refine norm_ (a' := ?_) ?_ ?_
      rotate_left
      · show Act.put _ (some 44) _ = _
        simp only [Act.put, List.setIfInBounds_toArray, List.set_cons_zero, List.set_cons_succ, i64_w, i32_w]
        rfl
      refine pure_ (i := 23) (N := (some 45)) (v := ?_) (a' := ?_) #[true, true, true, true, true, true, true, true, true, true, true, true, true, true, true, true, true, true, true, true, true, true, true, true, false, false, false, false, false] rfl rfl (by kernel_rfl) (fun _ _ _ h => h) (Or.inl ⟨by rfl, ?_⟩) ?_ ?_
      rotate_left
      · intro w'
        go_simp
        (try with_reducible rfl)
      rotate_left
      · simp only [Act.put, List.setIfInBounds_toArray, List.set_cons_zero, List.set_cons_succ, i64_w, i32_w]
        rfl
      refine one_ (i := 24) (N := (some 46)) #[true, true, true, true, true, true, true, true, true, true, true, true, true, true, true, true, true, true, true, true, true, true, true, true, true, false, false, false, false] rfl rfl (by kernel_rfl) (by decide) (fun K hK => ?_)
      refine value_ (w1 := w2.alloc (.cells #[.int .i64 id, .slice (some ⟨g1, 0, none⟩) m cp1] 80)) (v := .slice (some ⟨w2.heap.size, 0, none⟩) 1 1) (by rfl) rfl (by go_simp) ?_
      have HB3 := Lib.hid (HB2.out.alloc HB2.out.size (.cells #[.int .i64 id, .slice (some ⟨g1, 0, none⟩) m cp1] 80))
      refine hK.out _ _ (hSD.out _ HB3.out) (fun hHeld => ?_)
      clear hK K
      refine norm_ (a' := ?_) ?_ ?_
      rotate_left
      · show Act.put _ (some 46) _ = _
        simp only [Act.put, List.setIfInBounds_toArray, List.set_cons_zero, List.set_cons_succ, i64_w, i32_w]
        rfl
      refine one_ (i := 25) (N := (some 47)) #[true, true, true, true, true, true, true, true, true, true, true, true, true, true, true, true, true, true, true, true, true, true, true, true, true, true, false, false, false] rfl rfl (by kernel_rfl) (by decide) (fun K hK => ?_)
      have HL : (w2.alloc (.cells #[.int .i64 id, .slice (some ⟨g1, 0, none⟩) m cp1] 80)).ownsRow wd.heap.size 80 2 (.slice (some ⟨w2.heap.size, 0, none⟩) 1 1) 1 [.int .i64 id, .slice (some ⟨g1, 0, none⟩) m cp1] := by simpa using World.ownsRow_lit (size := 2) (base := wd.heap.size) w2 (e := 80) #[.int .i64 id, .slice (some ⟨g1, 0, none⟩) m cp1] 1 HB2.out.size (by decide) rfl
      obtain ⟨n0, n1, n2⟩ := own_all HL
      have hap := own_go HAPPD.out HB3.out
      obtain ⟨v2, w4, hr, O2, G2, P2, -⟩ := run_app (P := Try.prog) _ 0 46 46 80 iE _ 2 32 Try.underlying46 hiE hz0 hz1 hz2 rfl (by decide) (.slice A1 i c1') i (rc rr') hap (some ⟨w2.heap.size, 0, none⟩) 1 1 _ n0 n1 n2 (fun u hu => by simp at hu; rcases hu with rfl | rfl <;> rfl) HB1.out.2.2.1 HB1.out.2.2.2 (Nat.zero_le _)
      obtain ⟨A2, c2, rfl, -⟩ := own_form O2
      refine value_ (w1 := w4) (v := _) (by rfl) rfl (exec_app (.tmp 26) (.tmp 46) 46 rfl (by rfl) (by rfl) hr) ?_
      have HF4 := Lib.hid ((Fp.of_below HB3.out (fun k => (Value.slice A1 i c1').ownBlock = some k)).trans (Fp.of_grown G2))
      have hSw : (fun W => W.cell? ⟨x, 1, none⟩ = some (.slice A1 i c1') ∧ W.cell? ⟨a, 1, none⟩ = some (.slice (some ⟨g, 0, none⟩) nn cap) ∧ W.cell? ⟨g, i * 2, none⟩ = some (.int .i64 id) ∧ W.cell? ⟨g, i * 2 + 1, none⟩ = some (.slice (some ⟨gl, 0, none⟩) m cl)) w4 := HSW.out _ w4 (below_step HBD.out HB3.out) G2
      have HO2 := Lib.hid O2
      have HO1b := Lib.hid (own_fp (own_go HO1.out ((Below.refl w2.heap.size w2).alloc (Nat.le_refl _) (.cells #[.int .i64 id, .slice (some ⟨g1, 0, none⟩) m cp1] 80))) (Fp.of_grown G2) (fun k e1 e2 => own_types (own_go HO1.out ((Below.refl w2.heap.size w2).alloc (Nat.le_refl _) (.cells #[.int .i64 id, .slice (some ⟨g1, 0, none⟩) m cp1] 80))) hap (by decide) e2 e1))
      have HP2 := Lib.hid P2
      have HG2 := Lib.hid G2
      clear O2 P2 n0 n1 n2 hr HL hap G2
      refine hK.out _ _ hSw (fun hHeld => ?_)
      clear hK K hSw
      refine norm_ (a' := ?_) ?_ ?_
      rotate_left
      · show Act.put _ (some 47) _ = _
        simp only [Act.put, List.setIfInBounds_toArray, List.set_cons_zero, List.set_cons_succ, i64_w, i32_w]
        rfl
      refine pure_ (i := 26) (N := (some 48)) (v := ?_) (a' := ?_) #[true, true, true, true, true, true, true, true, true, true, true, true, true, true, true, true, true, true, true, true, true, true, true, true, true, true, true, false, false] rfl rfl (by kernel_rfl) (fun _ _ _ h => h) (Or.inl ⟨by rfl, ?_⟩) ?_ ?_
      rotate_left
      · intro w'
        go_simp
        (try with_reducible rfl)
      rotate_left
      · simp only [Act.put, List.setIfInBounds_toArray, List.set_cons_zero, List.set_cons_succ, i64_w, i32_w]
        rfl
      refine pure_ (i := 27) (N := (some 49)) (v := ?_) (a' := ?_) #[true, true, true, true, true, true, true, true, true, true, true, true, true, true, true, true, true, true, true, true, true, true, true, true, true, true, true, true, false] rfl rfl (by kernel_rfl) (fun _ _ _ h => h) (Or.inl ⟨by rfl, ?_⟩) ?_ ?_
      rotate_left
      · intro w'
        go_simp
        (try with_reducible rfl)
      rotate_left
      · simp only [Act.put, List.setIfInBounds_toArray, List.set_cons_zero, List.set_cons_succ, i64_w, i32_w]
        rfl
      refine last_ (i := 28) (N := none) #[true, true, true, true, true, true, true, true, true, true, true, true, true, true, true, true, true, true, true, true, true, true, true, true, true, true, true, true, true] rfl rfl (by kernel_rfl) (by decide) (fun K hK => ?_)
      have z4 : w4.frozen? ⟨x, 1, none⟩ = false := (HRD.out.box.fp HF4.out (fun e => own_type HRD.out.rm HRD.out.box (by decide) (by rw [HVR.out]; exact e))).frozen 1
      refine skip_ (w1 := w4.setCell ⟨x, 1, none⟩ (.slice A2 (i + 1) c2)) (by rfl) rfl (by go_simp) ?_
      refine hK.out _ _ ?_
      refine done_ (by kernel_rfl) ?_
      clear hHeld hK K
      have hroww : ∀ p ∈ rr', w4.ownsRow 0 22 1 (rVal p.2) p.2.xs.length (p.2.xs.map (Value.int .u64)) := fun p hp => own_fp (HRD.out.rows p hp) HF4.out (fun k e1 e2 => own_types (HRD.out.rows p hp) HAPPD.out (by decide) e2 e1)
      have heq2 : absR (rr' ++ [(id, (⟨g1, cp1, xs⟩ : RowE))]) = absR (rr.take (i + 1)) := by
        rw [List.take_succ_eq_append_getElem HLT.out]
        have e : rr[i]'HLT.out = (id, ⟨gl, cl, xs⟩) := by
          have := HG.out
          rw [List.getElem?_eq_getElem HLT.out] at this
          injection this
        rw [e]
        have e2 := HEQ.out
        unfold absR at e2 ⊢
        rw [List.map_append, List.map_append, e2]
        rfl
      have hc : w4.ownsRow 0 80 2 (.slice A2 (i + 1) c2) (rr' ++ [(id, (⟨g1, cp1, xs⟩ : RowE))]).length (rc (rr' ++ [(id, (⟨g1, cp1, xs⟩ : RowE))])) := by
        have hcc : rc (rr' ++ [(id, (⟨g1, cp1, xs⟩ : RowE))]) = rc rr' ++ [.int .i64 id, .slice (some ⟨g1, 0, none⟩) m cp1] := by
          unfold rc
          rw [List.flatMap_append]
          simp [rCells, rVal, HMM.out]
        rw [hcc, List.length_append, HLEN.out]
        exact HO2.out
      have hrows : ∀ p ∈ rr' ++ [(id, (⟨g1, cp1, xs⟩ : RowE))], w4.ownsRow 0 22 1 (rVal p.2) p.2.xs.length (p.2.xs.map (Value.int .u64)) := by
        intro p hp
        rcases List.mem_append.1 hp with hp | hp
        · exact hroww p hp
        · simp at hp
          subst hp
          show w4.ownsRow 0 22 1 (.slice (some ⟨g1, 0, none⟩) xs.length cp1) xs.length (xs.map (Value.int .u64))
          rw [HMM.out]
          exact own_mono HO1b.out (Nat.zero_le _)
      have hnd : ((rr' ++ [(id, (⟨g1, cp1, xs⟩ : RowE))]).map (·.2.g)).Nodup := by
        rw [List.map_append, List.nodup_append]
        refine ⟨HRD.out.nd, by simp, fun y hy z hz => ?_⟩
        obtain ⟨p, hp, rfl⟩ := List.mem_map.1 hy
        simp at hz
        have h1 := ((HRD.out.rows p hp).lt p.2.g rfl).2
        have h2 := (HO1b.out.lt g1 rfl).1
        intro e
        rw [hz] at e
        omega
      have hok : St.ok ⟨S.c, absR (rr' ++ [(id, (⟨g1, cp1, xs⟩ : RowE))])⟩ := by rw [heq2]; exact ok_take HM.out.ok HM.out.abs (i + 1)
      have hnew := HRD.out.appR (vR' := .slice A2 (i + 1) c2) (rr' := rr' ++ [(id, (⟨g1, cp1, xs⟩ : RowE))]) (by rw [HVR.out]; exact HF4.out) hc hrows hnd hok
      have hxb : w.heap.size ≤ x := HOWN.out x (.inl rfl)
      have hB3 : Below w.heap.size w (w2.alloc (.cells #[.int .i64 id, .slice (some ⟨g1, 0, none⟩) m cp1] 80)) := below_step HB.out (below_step HBD.out HB3.out)
      have hB4 : Below w.heap.size w w4 := hB3.grown HG2.out hB3.size (fun j e => HVB.out j e)
      have hB5 : Below w.heap.size w (w4.setCell ⟨x, 1, none⟩ (.slice A2 (i + 1) c2)) := hB4.setCell hxb _
      have hown5 : ∀ k, ROwn x vC' (.slice A2 (i + 1) c2) (rr' ++ [(id, (⟨g1, cp1, xs⟩ : RowE))]) k → w.heap.size ≤ k := fun k hk => by
        rcases hk with hk | hk | hk | hk
        · exact HOWN.out k (.inl hk)
        · exact HOWN.out k (.inr (.inl hk))
        · rcases HP2.out with h | h
          · exact HVB.out k (h ▸ hk)
          · have : k = _ := Option.some.inj (hk.symm.trans h)
            rw [this]
            exact hB3.size
        · rw [List.map_append] at hk
          rcases List.mem_append.1 hk with hk | hk
          · exact HOWN.out k (.inr (.inr (.inr hk)))
          · simp at hk
            subst hk
            exact Nat.le_trans (Nat.le_trans HB.out.size HBD.out.size) (HO1b.out.lt _ rfl).1
      have hnew2 : RM (w4.setCell ⟨x, 1, none⟩ (.slice A2 (i + 1) c2)) x vC' (.slice A2 (i + 1) c2) ⟨S.c, absR (rr.take (i + 1))⟩ (rr' ++ [(id, (⟨g1, cp1, xs⟩ : RowE))]) := by rw [← heq2]; exact hnew
      have HFIN := Lib.hid (show RCI w a vC vR S rr x (.int .i64 ((i : Int) + 1)) (w4.setCell ⟨x, 1, none⟩ (.slice A2 (i + 1) c2)) from ⟨i + 1, vC', _, _, by rw [Int.natCast_add]; rfl, HLT.out, hB5, heq2, hnew2, hown5⟩)
      clear hroww heq2 hc hrows hnd hok hnew hxb hB3 hB4 hB5 hown5 hnew2
      have hnl : (i : Int) + 1 ≤ 1000000 := by have := HRL.out; have := HLT.out; omega
      go_wp2_with fail
      go_roundw
      case rel => exact HFIN.out
      case measure => have := HLT.out; simp [intOf]; omega
    · obtain rfl : i = rr.length := by omega
      obtain ⟨A1, c1', hv1, hle1, -⟩ := own_form2 HM.out.rm
      rw [hv1] at c1
      have k1 : ¬ (rr.length : Int) < (rr.length : Int) := by omega
      have HR := Lib.hid hR
      have HB := Lib.hid hB
      have HOWN := Lib.hid hown
      have HEQ := Lib.hid heq
      clear hR hB hown heq hmm hi hlt
      go_wp2_with fail
      go_ret
      refine ⟨x, rfl, ?_, HB.out⟩
      have e : (⟨S.c, absR (rr.take rr.length)⟩ : St) = S := by rw [List.take_length, ← HM.out.abs]
      have h9 := HR.out
      rw [e] at h9
      exact ⟨fun k hk => hk.2, vC', vR', rr', h9, fun k hk => ⟨HOWN.out k hk, ROwn.lt h9 hk⟩⟩
theorem rcopy_any (a : Nat) (O : Nat → Prop) (S : St) (w : World) (h : Rto w a O S) (hlc : S.c.length < 1000000) (hlr : S.r.length < 1000000) : Calls Try.prog 24 #[ptr a] w (RCopyEnd w S) := by
  obtain ⟨_, vC, vR, rr, hm, _⟩ := h
  exact rcopy_SM a vC vR S rr w hm hlc hlr
end Go.Proofs.Ytdobpieiobikpaa.Base
