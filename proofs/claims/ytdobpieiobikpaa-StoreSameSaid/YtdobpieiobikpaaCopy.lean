/- Copy: what it does. Conditions: as each contract says. -/
import Derived.Test.YtdobpieiobikpaaCopyL
import Derived.Maps.RangeWalk
set_option linter.unusedVariables false
set_option linter.unusedSimpArgs false
namespace Go.Proofs.Ytdobpieiobikpaa.Base
open Go Go.RowKit Go.Proofs.Ytdobpieiobikpaa.Mem Go.Proofs.YtdobpieiobikpaaW.PrintWords Go.Proofs.YtdobpieiobikpaaW.PrintLast
def CopyEnd (w : World) (S : St) (e : Ending) (w' : World) : Prop := ∃ x, e = .returned (ptr x) ∧ Sto w' x (New w w') S ∧ Below w.heap.size w w'
theorem copied_SM {w w1 w2 : World} {a : Nat} {pc pr p1 p2 : Option Nat} {S : St} {rr : List (Int × RowE)} (h : SM w a pc pr S rr) (B2 : Below w.heap.size w w2) (m0 : MM w1 p1 (cRow S.c)) (m1 : MM w2 p1 (cRow S.c)) (m2 : MM w2 p2 (rRow rr)) (n2 : ∀ b, p2 = some b → w1.heap.size ≤ b) :
    SM (w2.alloc (.cells #[.map p1, .map p2] 62)) w2.heap.size p1 p2 S rr := by
  have hb : Below w2.heap.size w2 (w2.alloc (.cells #[.map p1, .map p2] 62)) := (Below.refl _ _).alloc (Nat.le_refl _) _
  have hF := Fp.of_below hb (fun _ => False)
  refine ⟨Blk.new w2 62 _, m1.fp hF (fun _ _ e => e), m2.fp hF (fun _ _ e => e), fun j e e2 => ?_, fun p hp => own_fp (own_go (h.rows p hp) B2) hF (fun _ _ e => e), h.nd, h.abs, h.ok⟩
  have h1 := n2 j e2
  rw [e] at m0
  have h2 : j < w1.heap.size := ML.lt m0
  omega
theorem CI.start {w w3 w4 : World} {p1 : Option Nat} {x b : Nat} {S : St} {rr : List (Int × RowE)} (h : SM w3 x p1 (some b) S rr) (hx : w.heap.size ≤ x) (hc : ∀ j, p1 = some j → w.heap.size ≤ j) (hb : w.heap.size ≤ b) (hB : Below w.heap.size w w3) (hg : RG w4 b w3.heap.size (rRow rr) []) (hB4 : Below w3.heap.size w3 w4) : CI w x p1 b w3.heap.size S w4 rr [] [] :=
  ⟨h.fp (Fp.of_below hB4 (fun _ => False)) (fun _ _ e => e), hg, hx, hc, hb, hB.size, (fun p hp hd => by cases hd), hB.trans (hB4.mono hB.size)⟩
theorem CI.done {w wr : World} {p1 : Option Nat} {x b r : Nat} {S : St} {rn : List (Int × RowE)} {D : List Int} (h : CI w x p1 b r S wr rn D D) (hd : ∀ k ∈ keys (rRow rn), k ∈ D) : Sto wr x (New w wr) S := by
  refine ⟨fun k hk => hk.2, p1, some b, rn, h.sm, fun k hk => ⟨?_, Own.lt h.sm hk⟩⟩
  rcases hk with rfl | hk | hk | hk
  · exact h.hx
  · exact h.hc k hk
  · injection hk with hk; rw [← hk]; exact h.hb
  · obtain ⟨p, hp, rfl⟩ := List.mem_map.1 hk
    refine h.new p hp (hd p.1 ?_)
    unfold rRow
    rw [keys_map]
    exact List.mem_map.2 ⟨p, hp, rfl⟩
/-- A row's copy. -/
theorem clone_row {x : Nat} {pc pr : Option Nat} {S : St} {rn : List (Int × RowE)} {k : Int} {q : RowE} (W : World) (h : SM W x pc pr S rn) (hl : lookE rn k = some q) (m : Nat) (hm : q.xs.length = m) :
    Calls Try.prog 35 #[.slice (some ⟨q.g, 0, none⟩) m q.cap] W fun e w' => ∃ g cap, e = .returned (.slice (some ⟨g, 0, none⟩) m cap) ∧ W.heap.size ≤ g ∧ w'.ownsRow 0 22 1 (rVal ⟨g, cap, q.xs⟩) q.xs.length (q.xs.map (Value.int .u64)) ∧ Below W.heap.size W w' := by
  have hs : lookE S.r k = some q.xs := by rw [h.abs, lookE_map (fun p : RowE => p.xs), hl]; rfl
  have hlen : q.xs.length ≤ 1024 := (h.ok.rw_ (k, q.xs) (lookE_mem hs)).2.1
  subst hm
  refine (clone_any q.g 0 q.cap q.xs W hlen (fun j hj => ?_)).mono ?_
  · rw [Nat.zero_add, (row_cell h hl j hj).1]
    unfold getR
    rw [hs]
    show some (Value.int .u64 (q.xs.getD (((j : Nat) : Int)).toNat 0)) = _
    rw [Int.toNat_natCast]
    simp [hj]
  · rintro e w' ⟨v, rfl, ho, hn, hb⟩
    have ho2 := ho
    rcases ho.2 with ⟨rfl, _⟩ | ⟨g, cap, cur, rfl, hg, _⟩
    · exact absurd rfl hn
    · exact ⟨g, cap, rfl, hg, own_mono ho2 (Nat.zero_le _), hb⟩
set_option maxHeartbeats 3200000 in
set_option maxRecDepth 100000 in
theorem copy_some (a : Nat) (pc : Option Nat) (b0 : Nat) (S : St) (rr : List (Int × RowE)) (w : World) (h : SM w a pc (some b0) S rr) : Calls Try.prog 21 #[ptr a] w (CopyEnd w S) := by
  have c0 := h.box.cell 0
  have c1 := h.box.cell 1
  have HM := Lib.hid h
  have H36 := Lib.hid (fun (W : World) (hb : Below w.heap.size w W) => mcloneC pc (cRow S.c) W (h.cm.fp (Fp.of_below hb (fun _ => False)) (fun _ _ e => e)))
  have H37 := Lib.hid (fun (W : World) (hb : Below w.heap.size w W) => mcloneR (some b0) (rRow rr) W (h.rm.fp (Fp.of_below hb (fun _ => False)) (fun _ _ e => e)))
  have HB := Lib.hid (Below.refl w.heap.size w)
  clear h
  go_enter Try.func21, Try.ntmps21
  go_upto_region 3 with (fail)
  go_region_held3 (fun W => W.cell? ⟨a, 0, none⟩ = some (.map pc) ∧ W.cell? ⟨a, 1, none⟩ = some (.map (some b0))) (go_keep) (first
    | ((go_at_call 36; (with_reducible refine (H36.out _ (by first | exact HB.out | exact below_drew1 HB.out)).mono ?_); rintro e w1 ⟨p1, rfl, m1, n1, -, -, b1⟩; have HB1 := (by first | exact Lib.hid (below_step HB.out b1) | exact Lib.hid (below_step (below_drew1 HB.out) b1) : Hid (Below w.heap.size w w1)); have HN1 := Lib.hid n1; have HM1 := Lib.hid m1; have EE := HM.out.box.go HB1.out; have c0 := EE.cell 0; have c1 := EE.cell 1; clear EE b1 n1 m1))
    | ((go_at_call 37; (with_reducible refine (H37.out _ (by first | exact HB1.out | exact below_drew1 HB1.out)).mono ?_); rintro e w2 ⟨p2, rfl, m2, n2, -, z2, b2⟩; have HB2 := (by first | exact Lib.hid (below_step HB1.out b2) | exact Lib.hid (below_step (below_drew1 HB1.out) b2) : Hid (Below w.heap.size w w2)); have HN2 := (Lib.hid n2 : Hid (∀ b, p2 = some b → w1.heap.size ≤ b)); have HZ2 := Lib.hid z2; have HM12 := (by first | exact Lib.hid (HM1.out.fp (Fp.of_below b2 (fun _ => False)) (fun _ _ e => e)) | exact Lib.hid (HM1.out.fp ((Fp.refl (fun _ => False) w1).drew.go b2) (fun _ _ e => e)) : Hid (MM w2 p1 (cRow S.c))); have HM2 := Lib.hid m2; have EE := HM.out.box.go HB2.out; have c0 := EE.cell 0; have c1 := EE.cell 1; clear EE b2 n2 m2 z2)))
  cases p2 with
  | none => exact absurd (HZ2.out rfl) (by simp)
  | some b =>
    have hS := copied_SM HM.out HB2.out HM1.out HM12.out HM2.out HN2.out
    have HB3 := Lib.hid (HB2.out.alloc HB2.out.size (.cells #[.map p1, .map (some b)] 62))
    have HX := Lib.hid HB2.out.size
    have HNB := Lib.hid (Nat.le_trans HB1.out.size (HN2.out b rfl))
    have HSM := Lib.hid hS
    have d1 := hS.box.cell 1
    clear hS c0 c1 HB2 HM12 HM2 HN2 HZ2 HM1 HB1 HB H36 H37
    generalize w2.alloc (.cells #[.map p1, .map (some b)] 62) = w3 at *
    generalize w2.heap.size = x at *
    go_wp2_with (at_range; go_must (refine wpList_rangeM rfl _ 60 rfl 30 Try.underlying60 b (rRow rr) (by rfl) HSM.out.rm ?_); intro w4 hg4 hb4)
    go_frame
    have HCI := Lib.hid (CI.start HSM.out HX.out HN1.out HNB.out HB3.out hg4 hb4)
    clear hg4 hb4 d1 HSM HB3
    generalize w3.heap.size = r at *
    go_loopw [4, 5] (fun _ _ wr => ∃ rn D, CI w x p1 b r S wr rn D D) (fun _ _ wr => leftB wr b r)
    case atStart => exact ⟨_, _, HCI.out⟩
    case round =>
      clear HCI
      obtain ⟨rn, D, hc⟩ := hrel
      have HC := Lib.hid hc
      clear hc
      go_wp2_with (at_next; go_must (refine wpList_nextM rfl _ rfl b r (rRow rn) D (by rfl) HC.out.rg ?_ ?_))
      focus
        intro hd
        have HD := Lib.hid hd
        clear hd
        go_wp2_with fail
        go_ret
        exact ⟨x, rfl, HC.out.done HD.out, HC.out.bel⟩
      intro k v w5 hl hnd hkw hg hf hleft hen
      have HL5 := Lib.hid hleft
      have HC1 := Lib.hid (HC.out.handed hf hg)
      obtain ⟨q, hq, hv⟩ : ∃ q, lookE rn k = some q ∧ rVal q = v := by
        rw [rRow, lookE_map] at hl
        exact Option.map_eq_some_iff.1 hl
      obtain ⟨m, hm⟩ : ∃ m, q.xs.length = m := ⟨_, rfl⟩
      have hv2 : v = .slice (some ⟨q.g, 0, none⟩) m q.cap := by rw [← hv, ← hm]; rfl
      subst hv2
      have HQ := Lib.hid hq
      have HMM := Lib.hid hm
      have HCL := Lib.hid (fun (W : World) (hb : Below w5.heap.size w5 W) => clone_row W (HC1.out.go hb).1.sm hq m hm)
      have HKW := Lib.hid hkw
      have d1 := HC1.out.sm.box.cell 1
      have HB5 := Lib.hid (Below.refl w5.heap.size w5)
      clear hl hnd hkw hg hf hleft hq hv hm
      go_upto_region 7 with (fail)
      go_region_held3 (fun W => W.cell? ⟨x, 1, none⟩ = some (.map (some b))) (go_keep) (first
        | ((go_at_call 35; (with_reducible refine (HCL.out _ (by first | exact HB5.out | exact below_drew1 HB5.out)).mono ?_); rintro e w6 ⟨g, cap, rfl, hg, ho, hb6⟩; have HB6 := (by first | exact Lib.hid (below_step HB5.out hb6) | exact Lib.hid (below_step (below_drew1 HB5.out) hb6) : Hid (Below w5.heap.size w5 w6)); have HC6 := Lib.hid (HC1.out.go HB6.out); have d1 := HC6.out.1.sm.box.cell 1; have HG := Lib.hid (show w5.heap.size ≤ g from hg); have HO := Lib.hid ho; obtain ⟨w7, hrun, g7, f7, l7⟩ := HC6.out.1.rg.update K3 Try.underlying3 Try.underlying60 (by rw [rRow, lookE_map, HQ.out]; rfl : lookE (rRow rn) k = some (rVal q)) (.slice (some ⟨g, 0, none⟩) m cap); have G7 := Lib.hid g7; have F7 := Lib.hid f7; have L7 := Lib.hid (l7.trans HC6.out.2); have HC7 := Lib.hid (HC6.out.1.put HQ.out HG.out HC1.out.bel.size (fun p hp => ((HC1.out.sm.rows p hp).lt p.2.g rfl).2) HO.out (by have e := rRow_put rn k ⟨g, cap, q.xs⟩; simp only [HMM.out] at e; rw [← e]; exact g7) f7); have d7 := HC7.out.sm.box.cell 1; clear hb6 hg ho g7 f7 l7)))
      clear hrun
      go_wp2_with fail
      go_roundw
      case rel => exact ⟨_, _, HC7.out⟩
      case measure =>
        have h1 := L7.out
        have h2 := HL5.out
        show leftB w7 b r < leftB wr b r
        omega
theorem wpList_rangeN {ops : Array Oper} {rest : List Oper} {o : Oper} {ac : Act} {Q : Exit → Act → World → Prop} {w : World} (hg : o.guard = none) (m : Operand) (t : TypeId) (hop : o.op = Op.range t m)
    (e : TypeId) (ht : Try.prog.underlying t = some (.map 3 e)) (hm : ac.eval m = .map none)
    (hK : ∀ w', w'.heap[w.heap.size]? = some (.mapIter none 0 #[] 0) → Below w.heap.size w w' → wpList Try.prog ops Q rest (ac.put o.dst (.pointer (some ⟨w.heap.size, 0, none⟩))) w') : wpList Try.prog ops Q (o :: rest) ac w := by
  refine wpList_plain hg fun K' hK' => ?_
  have hrun := run_range_nilMap (P := Try.prog) w t 3 e ht
  unfold Oper.wp
  simp [execOp, hop, hm, hrun, Result.andThen]
  exact hK' _ _ (hK _ (heap_alloc_new w _) ((Below.refl _ _).alloc (Nat.le_refl _) _))
theorem wpList_nextN {ops : Array Oper} {rest : List Oper} {o : Oper} {ac : Act} {Q : Exit → Act → World → Prop} {w : World} (hg : o.guard = none) (it : Operand) (hop : o.op = Op.next it false)
    (r : Nat) (hit : ac.eval it = .pointer (some ⟨r, 0, none⟩)) (h : w.heap[r]? = some (.mapIter none 0 #[] 0))
    (hDone : wpList Try.prog ops Q rest (ac.put o.dst (.tuple #[.bool false])) w) : wpList Try.prog ops Q (o :: rest) ac w := by
  refine wpList_plain hg fun K' hK' => ?_
  have hrun : (Instr.next (.pointer (some ⟨r, 0, none⟩)) false o.type).run Try.prog w = .ok (.tuple #[.bool false]) w := by
    simp only [Instr.next, getObj, Sem.run_bind, Sem.run, h, Result.andThen]
    rfl
  unfold Oper.wp
  simp [execOp, hop, hit, hrun, Result.andThen]
  exact hK' _ _ hDone
set_option maxHeartbeats 3200000 in
set_option maxRecDepth 100000 in
theorem copy_none (a : Nat) (pc : Option Nat) (S : St) (rr : List (Int × RowE)) (w : World) (h : SM w a pc none S rr) : Calls Try.prog 21 #[ptr a] w (CopyEnd w S) := by
  have c0 := h.box.cell 0
  have c1 := h.box.cell 1
  have HM := Lib.hid h
  have H36 := Lib.hid (fun (W : World) (hb : Below w.heap.size w W) => mcloneC pc (cRow S.c) W (h.cm.fp (Fp.of_below hb (fun _ => False)) (fun _ _ e => e)))
  have H37 := Lib.hid (fun (W : World) (hb : Below w.heap.size w W) => mcloneR none (rRow rr) W (h.rm.fp (Fp.of_below hb (fun _ => False)) (fun _ _ e => e)))
  have HB := Lib.hid (Below.refl w.heap.size w)
  clear h
  go_enter Try.func21, Try.ntmps21
  go_upto_region 3 with (fail)
  go_region_held3 (fun W => W.cell? ⟨a, 0, none⟩ = some (.map pc) ∧ W.cell? ⟨a, 1, none⟩ = some (.map none)) (go_keep) (first
    | ((go_at_call 36; (with_reducible refine (H36.out _ (by first | exact HB.out | exact below_drew1 HB.out)).mono ?_); rintro e w1 ⟨p1, rfl, m1, n1, -, -, b1⟩; have HB1 := (by first | exact Lib.hid (below_step HB.out b1) | exact Lib.hid (below_step (below_drew1 HB.out) b1) : Hid (Below w.heap.size w w1)); have HN1 := Lib.hid n1; have HM1 := Lib.hid m1; have EE := HM.out.box.go HB1.out; have c0 := EE.cell 0; have c1 := EE.cell 1; clear EE b1 n1 m1))
    | ((go_at_call 37; (with_reducible refine (H37.out _ (by first | exact HB1.out | exact below_drew1 HB1.out)).mono ?_); rintro e w2 ⟨p2, rfl, m2, -, z3, z2, b2⟩; have HB2 := (by first | exact Lib.hid (below_step HB1.out b2) | exact Lib.hid (below_step (below_drew1 HB1.out) b2) : Hid (Below w.heap.size w w2)); have HM12 := (by first | exact Lib.hid (HM1.out.fp (Fp.of_below b2 (fun _ => False)) (fun _ _ e => e)) | exact Lib.hid (HM1.out.fp ((Fp.refl (fun _ => False) w1).drew.go b2) (fun _ _ e => e)) : Hid (MM w2 p1 (cRow S.c))); have HZ2 := Lib.hid (z3 rfl); have HM2 := Lib.hid m2; have EE := HM.out.box.go HB2.out; have c0 := EE.cell 0; have c1 := EE.cell 1; clear EE b2 m2 z2 z3)))
  obtain rfl := HZ2.out
  have hS := copied_SM HM.out HB2.out HM1.out HM12.out HM2.out (fun b e => by cases e)
  have HB3 := Lib.hid (HB2.out.alloc HB2.out.size (.cells #[.map p1, .map none] 62))
  have HX := Lib.hid HB2.out.size
  have HSM := Lib.hid hS
  have d1 := hS.box.cell 1
  have HR0 := Lib.hid (show rr = [] by
    have := HM.out.rm
    have h2 : rRow rr = [] := this
    unfold rRow at h2
    exact List.map_eq_nil_iff.1 h2)
  clear hS c0 c1 HB2 HM12 HM2 HZ2 HM1 HB1 HB H36 H37
  generalize w2.alloc (.cells #[.map p1, .map none] 62) = w3 at *
  generalize w2.heap.size = x at *
  go_wp2_with (at_range; go_must (refine wpList_rangeN rfl _ 60 rfl 30 Try.underlying60 (by rfl) ?_); intro w4 hg4 hb4)
  go_frame
  have HCI := Lib.hid (HSM.out.fp (Fp.of_below hb4 (fun _ => False)) (fun _ _ e => e))
  have HG4 := Lib.hid hg4
  have HB4 := Lib.hid (below_step HB3.out hb4)
  clear hg4 hb4 d1 HSM HB3
  generalize w3.heap.size = r at *
  go_loopw [] (fun wr => wr = w4) (fun wr => 0)
  case atStart => rfl
  case round =>
    subst hrel
    go_wp2_with (at_next; go_must (refine wpList_nextN rfl _ rfl r (by rfl) HG4.out ?_))
    go_ret
    refine ⟨x, rfl, ⟨fun k hk => hk.2, p1, none, rr, HCI.out, fun k hk => ⟨?_, Own.lt HCI.out hk⟩⟩, HB4.out⟩
    rcases hk with rfl | hk | hk | hk
    · exact HX.out
    · exact HN1.out k hk
    · cases hk
    · rw [HR0.out] at hk
      simp at hk
theorem copy_any (a : Nat) (O : Nat → Prop) (S : St) (w : World) (h : Sto w a O S) : Calls Try.prog 21 #[ptr a] w (CopyEnd w S) := by
  obtain ⟨_, pc, pr, rr, h, _⟩ := h
  cases pr with
  | none => exact copy_none a pc S rr w h
  | some b => exact copy_some a pc b S rr w h
end Go.Proofs.Ytdobpieiobikpaa.Base
