/- The rows of a store: what each method does. Conditions: as each contract says. -/
import Derived.Test.YtdobpieiobikpaaCnt
import Derived.Laws.MakeOwn
set_option linter.unusedVariables false
set_option linter.unusedSimpArgs false
namespace Go.Proofs.Ytdobpieiobikpaa.Base
open Go Go.RowKit Go.Proofs.Ytdobpieiobikpaa.Mem Go.Proofs.YtdobpieiobikpaaW.PrintWords Go.Proofs.YtdobpieiobikpaaW.PrintLast
def absR (rr : List (Int × RowE)) : List (Int × List Int) := rr.map fun p => (p.1, p.2.xs)
theorem rRow_put (rr : List (Int × RowE)) (k : Int) (v : RowE) : putE (rRow rr) k (.slice (some ⟨v.g, 0, none⟩) v.xs.length v.cap) = rRow (putE rr k v) := putE_map rVal rr k v
theorem rRow_del (rr : List (Int × RowE)) (k : Int) : delE (rRow rr) k = rRow (delE rr k) := delE_map rVal rr k
theorem absR_put (rr : List (Int × RowE)) (k : Int) (v : RowE) : putE (absR rr) k v.xs = absR (putE rr k v) := putE_map (fun p : RowE => p.xs) rr k v
theorem absR_del (rr : List (Int × RowE)) (k : Int) : delE (absR rr) k = absR (delE rr k) := delE_map (fun p : RowE => p.xs) rr k
theorem absR_look (rr : List (Int × RowE)) (k : Int) : lookE (absR rr) k = (lookE rr k).map (·.xs) := lookE_map (fun p : RowE => p.xs) rr k
theorem keys_absR (rr : List (Int × RowE)) : keys (absR rr) = keys rr := keys_map (fun p : RowE => p.xs) rr
theorem St.ok.putR {S : St} (h : S.ok) (id : Int) (v : List Int) (hv : 1 ≤ v.length ∧ v.length ≤ 1024 ∧ ∀ x ∈ v, u64ok x) : St.ok { S with r := putE S.r id v } :=
  ⟨h.ck, nodup_putE h.rk _ _, h.cw, fun p hp => by rcases mem_putE hp with hp | rfl; exact h.rw_ p hp; exact hv⟩
theorem St.ok.delR {S : St} (h : S.ok) (id : Int) : St.ok { S with r := delE S.r id } := ⟨h.ck, nodup_delE h.rk _, h.cw, fun p hp => h.rw_ p (mem_delE hp)⟩
section
variable {w w1 : World} {a b : Nat} {pc pr : Option Nat} {S : St} {rr rr' : List (Int × RowE)} {O : Nat → Prop}
/-- The rows' map has been turned. -/
theorem SM.turnR (h : SM w a pc (some b) S rr) (hm : ML w1 b (rRow rr')) (hf : Fp (fun j => j = b) w w1) (hrows : ∀ p ∈ rr', w.ownsRow 0 22 1 (rVal p.2) p.2.xs.length (p.2.xs.map (Value.int .u64))) (hnd : (rr'.map (·.2.g)).Nodup) (hok : St.ok { S with r := absR rr' }) :
    SM w1 a pc (some b) { S with r := absR rr' } rr' := by
  have hb : ML w b (rRow rr) := h.rm
  obtain ⟨es, cl, hbh, _⟩ := hb
  refine ⟨h.box.fp hf (fun e => ?_), h.cm.fp hf (fun j e e2 => h.ne j e (by rw [show j = b from e2])), hm, h.ne, fun p hp => own_fp (hrows p hp) hf (fun k e e2 => ?_), hnd, rfl, hok⟩
  · have h1 := h.box
    unfold Blk at h1
    rw [show a = b from e, hbh] at h1
    cases h1
  · obtain ⟨_, h2⟩ := hrows p hp
    rcases h2 with ⟨hv, _⟩ | ⟨g, cap, cur, hv, _, hh, _⟩
    · cases hv
    · rw [hv] at e
      injection e with e
      rw [show g = k from e, show k = b from e2, hbh] at hh
      cases hh
/-- A map of rows is made. -/
theorem SM.makeR (h : SM w a pc none S rr) : SM ((w.alloc (.map #[] 0)).setCell ⟨a, 1, none⟩ (.map (some w.heap.size))) a pc (some w.heap.size) S rr ∧ Fp (fun j => j = a) w ((w.alloc (.map #[] 0)).setCell ⟨a, 1, none⟩ (.map (some w.heap.size))) := by
  have hc0 : rRow rr = [] := h.rm
  have hb : Below w.heap.size w (w.alloc (.map #[] 0)) := (Below.refl _ _).alloc (Nat.le_refl _) _
  have hla := h.box.lt
  have hf1 : Fp (fun j => j = a) (w.alloc (.map #[] 0)) ((w.alloc (.map #[] 0)).setCell ⟨a, 1, none⟩ (.map (some w.heap.size))) := (Fp.refl _ _).set_ _ (fun _ => rfl)
  have h1 := h.fp (Fp.of_below hb (fun _ => False)) (fun _ _ e => e)
  have hne : w.heap.size ≠ a := by omega
  refine ⟨⟨h1.box.set_ 1 _, h1.cm.fp hf1 (fun b e e2 => ?_), ?_, ?_, fun p hp => own_fp (h1.rows p hp) hf1 (fun k e e2 => ?_), h.nd, h.abs, h.ok⟩, (Fp.of_below hb _).trans hf1⟩
  · have h2 := h1.cm
    rw [e, e2] at h2
    obtain ⟨es, cl, hh, _⟩ := (h2 : ML _ _ _)
    have h3 := h1.box
    unfold Blk at h3
    rw [hh] at h3
    cases h3
  · rw [hc0]
    exact ML.fp (ML.made w) hf1 hne
  · intro b e e2
    injection e2 with e2
    have h2 := h.cm
    rw [e] at h2
    have := ML.lt h2
    omega
  · exact own_type (h1.rows p hp) h1.box (by decide) (e2 ▸ e)
end
theorem putE_gs {rr : List (Int × RowE)} {k : Int} {v : RowE} (h : lookE rr k = none) : (putE rr k v).map (·.2.g) = rr.map (·.2.g) ++ [v.g] := by rw [putE_new h]; simp
theorem delE_gs {rr : List (Int × RowE)} (k : Int) (h : (rr.map (·.2.g)).Nodup) : ((delE rr k).map (·.2.g)).Nodup := by
  induction rr with
  | nil => exact h
  | cons p r ih =>
    simp only [List.map_cons, List.nodup_cons] at h
    simp only [delE]
    split
    · exact h.2
    · simp only [List.map_cons, List.nodup_cons]
      refine ⟨fun hm => h.1 ?_, ih h.2⟩
      obtain ⟨q, hq, e⟩ := List.mem_map.1 hm
      exact e ▸ List.mem_map.2 ⟨q, mem_delE hq, rfl⟩
set_option maxHeartbeats 3200000 in
theorem delR_any (a : Nat) (O : Nat → Prop) (S : St) (id : Int) (w : World) (h : Sto w a O S) (hid : (Lit.int .i64 id).wf = true) :
    Calls Try.prog 23 #[ptr a, .int .i64 id] w (Did w a O (delR S id)) := by
  obtain ⟨hO, pc, pr, rr, hm, hown⟩ := h
  have HC := Lib.hid (row_any a pc pr S rr id w hm hid)
  have HSTO := Lib.hid (show Sto w a O S from ⟨hO, pc, pr, rr, hm, hown⟩)
  have HM := Lib.hid hm
  have HOW := Lib.hid hown
  have HO := Lib.hid hO
  have hab : S.r = absR rr := hm.abs
  clear hm hown hO
  cases hl : lookE S.r id with
  | none =>
    have hq : hasR S id = 6 := by unfold hasR; rw [hl]; rfl
    have HP := Lib.hid (show delR S id = (6, S) by unfold delR; rw [hl])
    rw [hq] at HC
    clear hq hl hab
    go_enter Try.func23, Try.ntmps23
    go_wp2_with fail
    refine HC.out.mono ?_
    rintro e w1 ⟨rfl, hb⟩
    have HB := Lib.hid hb
    clear hb
    go_wp2_with fail
    go_ret
    rw [HP.out]
    exact ⟨rfl, HSTO.out.same HB.out, Fp.of_below HB.out _⟩
  | some v =>
    have hq : hasR S id = 0 := by unfold hasR; rw [hl]; rfl
    have HP := Lib.hid (show delR S id = (0, { S with r := absR (delE rr id) }) by unfold delR; rw [hl]; simp only; rw [hab, absR_del])
    have HOK := Lib.hid (show St.ok { S with r := absR (delE rr id) } by have := HM.out.ok.delR id; rw [hab, absR_del] at this; exact this)
    rw [hq] at HC
    cases pr with
    | none =>
      have h0 := HM.out.rm
      have : rr = [] := by
        have h1 : rRow rr = [] := h0
        exact List.map_eq_nil_iff.1 h1
      rw [hab, this] at hl
      cases hl
    | some b =>
      clear hq hl hab
      go_enter Try.func23, Try.ntmps23
      go_wp2_with fail
      refine HC.out.mono ?_
      rintro e w1 ⟨rfl, hb⟩
      have HB := Lib.hid hb
      have HM1 := Lib.hid (HM.out.fp (Fp.of_below hb (fun _ => False)) (fun _ _ e => e))
      have c0 := HM1.out.box.cell 1
      have HML := Lib.hid (show ML w1 b (rRow rr) from HM1.out.rm)
      clear hb HC
      go_wp2_with (at_delete; go_must (refine wpList_del rfl _ _ 60 rfl 30 Try.underlying60 b (rRow rr) (by rfl) HML.out id hid (by rfl) ?_; intro w3 M3 F3))
      go_ret
      rw [HP.out]
      rw [rRow_del rr id] at M3
      have h3 := HM1.out.turnR M3 F3 (fun p hp => HM1.out.rows p (mem_delE hp)) (delE_gs id HM1.out.nd) HOK.out
      refine ⟨rfl, h3.sto HO.out (Nat.le_trans HB.out.size F3.size) (fun k hk => .inl (HOW.out k ?_)), (Fp.of_below HB.out O).next F3 (fun i hi _ => HOW.out i (.inr (.inr (.inl (congrArg some (show i = b from hi).symm)))))⟩
      rcases hk with hk | hk | hk | hk
      · exact .inl hk
      · exact .inr (.inl hk)
      · exact .inr (.inr (.inl hk))
      · obtain ⟨q, hq, e⟩ := List.mem_map.1 hk
        exact .inr (.inr (.inr (e ▸ List.mem_map.2 ⟨q, mem_delE hq, rfl⟩)))
end Go.Proofs.Ytdobpieiobikpaa.Base
