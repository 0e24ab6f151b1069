/- The counters of a store: what each method does. Conditions: as each contract says. -/
import Derived.Test.YtdobpieiobikpaaBase
import Derived.Maps.OwnSet
import Derived.Maps.OwnOps
import Derived.Deep.DeepMust
import Derived.StillTailTactics
set_option linter.unusedVariables false
set_option linter.unusedSimpArgs false
namespace Go.Proofs.Ytdobpieiobikpaa.Base
open Go Go.RowKit Go.Proofs.Ytdobpieiobikpaa.Mem Go.Proofs.YtdobpieiobikpaaW.PrintWords Go.Proofs.YtdobpieiobikpaaW.PrintLast
theorem none55 (bx a : Nat) (pc pr : Option Nat) (rr : List (Int × RowE)) (id : Int) (w : World) (h : Blk w bx 25 #[ptr a]) (hb : Blk w a 62 #[.map pc, .map pr]) (hc : MM w pr (rRow rr)) (hid : (Lit.int .i64 id).wf = true) :
    Calls Try.prog 55 #[ptr a, .func (.func 56) #[] #[ptr bx], .int .i64 id] w fun e w' => e = .returned (.int .i64 (if (lookE rr id).isSome then 0 else 6)) ∧ Below w.heap.size w w' := by
  have HC := Lib.hid (clo56 bx a pc pr w h hb)
  have hl := hc.lookup Try.underlying60 (zero30 w) true hid
  rw [if_pos rfl, rRow, lookE_map] at hl
  have hs : ((lookE rr id).map rVal).isSome = (lookE rr id).isSome := by cases lookE rr id <;> rfl
  rw [hs] at hl
  have hz : ∃ A n c, ((lookE rr id).map rVal).getD (.slice none 0 0) = .slice A n c := by
    cases lookE rr id with
    | none => exact ⟨_, _, _, rfl⟩
    | some q => exact ⟨_, _, _, rfl⟩
  obtain ⟨A, n, c, hq⟩ := hz
  rw [hq] at hl
  have kA := Below.refl w.heap.size w
  clear hq hs h hb hc
  generalize (lookE rr id).isSome = b at *
  cases b
  all_goals
    go_enter Try.func55, Try.ntmps55
    go_wp2_with fail
    refine HC.out.mono ?_
    rintro e _ ⟨rfl, rfl⟩
    go_wp2_with fail
    go_ret
    exact ⟨rfl, kA⟩
theorem counter_any (a : Nat) (pc pr : Option Nat) (S : St) (rr : List (Int × RowE)) (id : Int) (w : World) (h : SM w a pc pr S rr) (hid : (Lit.int .i64 id).wf = true) :
    Calls Try.prog 33 #[ptr a, .int .i64 id] w fun e w' => e = .returned (.int .i64 (hasC S id)) ∧ Below w.heap.size w w' := by
  have kA := (Below.refl w.heap.size w).alloc (Nat.le_refl _) (.cells #[ptr a] 25)
  have hB := Blk.new w 25 #[ptr a]
  have HN := Lib.hid (none53 w.heap.size a pc pr S.c id _ hB (h.box.go kA) (h.cm.fp (Fp.of_below kA (fun _ => False)) (fun _ _ e => e)) hid)
  have c0 := hB.cell 0
  have HH := (show hasC S id = if (lookE S.c id).isSome then 0 else 6 from rfl)
  rw [← HH] at HN
  clear hB h HH
  generalize hasC S id = q at *
  go_enter Try.func33, Try.ntmps33
  go_wp2_with fail
  refine HN.out.mono ?_
  rintro e w1 ⟨rfl, hb⟩
  go_wp2_with fail
  go_ret
  exact ⟨rfl, kA.trans (hb.mono kA.size)⟩
theorem row_any (a : Nat) (pc pr : Option Nat) (S : St) (rr : List (Int × RowE)) (id : Int) (w : World) (h : SM w a pc pr S rr) (hid : (Lit.int .i64 id).wf = true) :
    Calls Try.prog 34 #[ptr a, .int .i64 id] w fun e w' => e = .returned (.int .i64 (hasR S id)) ∧ Below w.heap.size w w' := by
  have kA := (Below.refl w.heap.size w).alloc (Nat.le_refl _) (.cells #[ptr a] 25)
  have hB := Blk.new w 25 #[ptr a]
  have HN := Lib.hid (none55 w.heap.size a pc pr rr id _ hB (h.box.go kA) (h.rm.fp (Fp.of_below kA (fun _ => False)) (fun _ _ e => e)) hid)
  have c0 := hB.cell 0
  have HH := (show hasR S id = if (lookE rr id).isSome then 0 else 6 by
    unfold hasR
    rw [h.abs, lookE_map (fun p : RowE => p.xs)]
    cases lookE rr id <;> rfl)
  rw [← HH] at HN
  clear hB h HH
  generalize hasR S id = q at *
  go_enter Try.func34, Try.ntmps34
  go_wp2_with fail
  refine HN.out.mono ?_
  rintro e w1 ⟨rfl, hb⟩
  go_wp2_with fail
  go_ret
  exact ⟨rfl, kA.trans (hb.mono kA.size)⟩
/-! ### laws at the operation -/
theorem equalIn_nil (d : Nat) (t k e : TypeId) (p : Option Nat) (h : Try.prog.underlying t = some (.map k e)) (w : World) : (Op.equalIn (d + 1) t (.map p) (.map none)).run Try.prog w = .ok p.isNone w := by
  cases p <;> simp [Op.equalIn, run_underlying h]
theorem eql_nil (t k e : TypeId) (p : Option Nat) (h : Try.prog.underlying t = some (.map k e)) (w : World) : (binOp .eql t (.map p) (.map none)).run Try.prog w = .ok (.bool p.isNone) w := by
  simp only [binOp]
  simp [show Op.equal t (.map p) (.map none) = Op.equalIn (9999 + 1) t (.map p) (.map none) from rfl, equalIn_nil 9999 t k e p h w]
theorem wpList_put {ops : Array Oper} {rest : List Oper} {o : Oper} {ac : Act} {Q : Exit → Act → World → Prop} {w : World} (hg : o.guard = none) (m x v : Operand) (t : TypeId) (hop : o.op = Op.mapUpdate t m x v)
    (e : TypeId) (ht : Try.prog.underlying t = some (.map 3 e)) (b : Nat) (l : List (Int × Value)) (hm : ac.eval m = .map (some b)) (h : ML w b l) (k : Int) (hkw : (Lit.int .i64 k).wf = true) (hx : ac.eval x = .int .i64 k) (val : Value) (hv : ac.eval v = val)
    (hK : ∀ w', ML w' b (putE l k val) → Fp (fun j => j = b) w w' → wpList Try.prog ops Q rest (ac.put o.dst undef) w') : wpList Try.prog ops Q (o :: rest) ac w := by
  refine wpList_plain hg fun K' hK' => ?_
  obtain ⟨w', hrun, r1, r2⟩ := h.update K3 Try.underlying3 ht hkw val
  unfold Oper.wp
  simp [execOp, hop, hm, hx, hv, hrun, Result.andThen]
  exact hK' _ _ (hK w' r1 r2)
theorem wpList_del {ops : Array Oper} {rest : List Oper} {o : Oper} {ac : Act} {Q : Exit → Act → World → Prop} {w : World} (hg : o.guard = none) (m x : Operand) (t : TypeId) (hop : o.op = Op.call { callee := Callee.builtin Builtin.delete, args := #[m, x], argTypes := #[t, 3] })
    (e : TypeId) (ht : Try.prog.underlying t = some (.map 3 e)) (b : Nat) (l : List (Int × Value)) (hm : ac.eval m = .map (some b)) (h : ML w b l) (k : Int) (hkw : (Lit.int .i64 k).wf = true) (hx : ac.eval x = .int .i64 k)
    (hK : ∀ w', ML w' b (delE l k) → Fp (fun j => j = b) w w' → wpList Try.prog ops Q rest (ac.put o.dst (.tuple #[])) w') : wpList Try.prog ops Q (o :: rest) ac w := by
  refine wpList_plain hg fun K' hK' => ?_
  obtain ⟨w', hrun, r1, r2⟩ := h.delete K3 Try.underlying3 ht hkw o.type
  unfold Oper.wp
  simp [execOp, hop, resolve, invoke, builtin, hm, hx, hrun, Result.andThen]
  exact hK' _ _ (hK w' r1 r2)
theorem wpList_look {ops : Array Oper} {rest : List Oper} {o : Oper} {ac : Act} {Q : Exit → Act → World → Prop} {w : World} (hg : o.guard = none) (m x : Operand) (t : TypeId) (c : Bool) (hop : o.op = Op.lookup t m x c)
    (e : TypeId) (ht : Try.prog.underlying t = some (.map 3 e)) (z : Value) (hz : (zeroValue e).run Try.prog w = .ok z w) (p : Option Nat) (l : List (Int × Value)) (hm : ac.eval m = .map p) (h : MM w p l) (k : Int) (hkw : (Lit.int .i64 k).wf = true) (hx : ac.eval x = .int .i64 k)
    (val : Value) (hv : (if c then .tuple #[(lookE l k).getD z, .bool (lookE l k).isSome] else (lookE l k).getD z) = val)
    (hK : wpList Try.prog ops Q rest (ac.put o.dst val) w) : wpList Try.prog ops Q (o :: rest) ac w := by
  refine wpList_plain hg fun K' hK' => ?_
  have hrun := h.lookup ht hz c hkw
  rw [hv] at hrun
  unfold Oper.wp
  simp [execOp, hop, hm, hx, hrun, Result.andThen]
  exact hK' _ _ hK
/-! ### counters anew -/
theorem u64w_ok (x : Int) : u64ok (u64w x) := by unfold u64ok u64w; omega
theorem mem_putE {α : Type} {l : List (Int × α)} {k : Int} {v : α} {p : Int × α} (h : p ∈ putE l k v) : p ∈ l ∨ p = (k, v) := by
  induction l with
  | nil => simp [putE] at h; exact .inr h
  | cons q r ih =>
    simp only [putE] at h
    split at h
    · rcases List.mem_cons.1 h with h | h
      · exact .inr h
      · exact .inl (List.mem_cons_of_mem _ h)
    · rcases List.mem_cons.1 h with h | h
      · exact .inl (h ▸ List.mem_cons_self ..)
      · rcases ih h with h | h
        · exact .inl (List.mem_cons_of_mem _ h)
        · exact .inr h
theorem mem_delE {α : Type} {l : List (Int × α)} {k : Int} {p : Int × α} (h : p ∈ delE l k) : p ∈ l := by
  induction l with
  | nil => exact h
  | cons q r ih =>
    simp only [delE] at h
    split at h
    · exact List.mem_cons_of_mem _ h
    · rcases List.mem_cons.1 h with h | h
      · exact h ▸ List.mem_cons_self ..
      · exact List.mem_cons_of_mem _ (ih h)
theorem St.ok.putC {S : St} (h : S.ok) (id : Int) (v : Int × Int) (hv : u64ok v.1 ∧ u64ok v.2) : St.ok { S with c := putE S.c id v } :=
  ⟨nodup_putE h.ck _ _, h.rk, fun p hp => by rcases mem_putE hp with hp | rfl; exact h.cw p hp; exact hv, h.rw_⟩
theorem St.ok.delC {S : St} (h : S.ok) (id : Int) : St.ok { S with c := delE S.c id } := ⟨nodup_delE h.ck _, h.rk, fun p hp => h.cw p (mem_delE hp), h.rw_⟩
section
variable {w w1 : World} {a b : Nat} {pc pr : Option Nat} {S : St} {rr : List (Int × RowE)} {O : Nat → Prop} {c' : List (Int × (Int × Int))}
/-- The counters' map has been turned. -/
theorem SM.turnC (h : SM w a (some b) pr S rr) (hm : ML w1 b (cRow c')) (hf : Fp (fun j => j = b) w w1) (hok : St.ok { S with c := c' }) : SM w1 a (some b) pr { S with c := c' } rr := by
  have hb : ML w b (cRow S.c) := h.cm
  obtain ⟨es, cl, hbh, _⟩ := hb
  refine ⟨h.box.fp hf (fun e => ?_), hm, h.rm.fp hf (fun j e e2 => h.ne b rfl (e2 ▸ e)), h.ne, fun p hp => own_fp (h.rows p hp) hf (fun k e e2 => ?_), h.nd, h.abs, hok⟩
  · have h1 := h.box
    unfold Blk at h1
    rw [show a = b from e, hbh] at h1
    cases h1
  · obtain ⟨_, h2⟩ := h.rows p hp
    rcases h2 with ⟨hv, _⟩ | ⟨g, cap, cur, hv, _, hh, _⟩
    · cases hv
    · rw [hv] at e
      injection e with e
      rw [show g = k from e, show k = b from e2, hbh] at hh
      cases hh
/-- A map of counters is made. -/
theorem SM.makeC (h : SM w a none pr S rr) : SM ((w.alloc (.map #[] 0)).setCell ⟨a, 0, none⟩ (.map (some w.heap.size))) a (some w.heap.size) pr S rr ∧ Fp (fun j => j = a) w ((w.alloc (.map #[] 0)).setCell ⟨a, 0, none⟩ (.map (some w.heap.size))) := by
  have hc0 : cRow S.c = [] := h.cm
  have hb : Below w.heap.size w (w.alloc (.map #[] 0)) := (Below.refl _ _).alloc (Nat.le_refl _) _
  have hla := h.box.lt
  have hf1 : Fp (fun j => j = a) (w.alloc (.map #[] 0)) ((w.alloc (.map #[] 0)).setCell ⟨a, 0, none⟩ (.map (some w.heap.size))) := (Fp.refl _ _).set_ _ (fun _ => rfl)
  have h1 := h.fp (Fp.of_below hb (fun _ => False)) (fun _ _ e => e)
  have hne : w.heap.size ≠ a := by omega
  refine ⟨⟨h1.box.set_ 0 _, ?_, h1.rm.fp hf1 (fun b e e2 => ?_), ?_, fun p hp => own_fp (h1.rows p hp) hf1 (fun k e e2 => ?_), h.nd, h.abs, h.ok⟩, (Fp.of_below hb _).trans hf1⟩
  · rw [hc0]
    exact ML.fp (ML.made w) hf1 hne
  · have h2 := h1.rm
    rw [e, e2] at h2
    obtain ⟨es, cl, hh, _⟩ := (h2 : ML _ _ _)
    have h3 := h1.box
    unfold Blk at h3
    rw [hh] at h3
    cases h3
  · intro b e e2
    injection e with e
    have h2 := h.rm
    rw [e2] at h2
    have := ML.lt h2
    omega
  · exact own_type (h1.rows p hp) h1.box (by decide) (e2 ▸ e)
end
/-! ### the methods -/
theorem Grow.self {O : Nat → Prop} {w w' : World} {k : Nat} (h : O k) : Grow O w w' k := .inl h
section
variable {w w1 w2 : World} {a : Nat} {S S' : St} {O : Nat → Prop}
/-- A call that has only made memory. -/
theorem Sto.same (h : Sto w a O S) (hb : Below w.heap.size w w1) : Sto w1 a (Grow O w w1) S := by
  refine (h.go hb).weak (fun k hk => .inl hk) (fun k hk => ?_)
  rcases hk with hk | hk
  · exact Nat.lt_of_lt_of_le (h.1 k hk) hb.size
  · exact hk.2
/-- What SM says, as Sto. -/
theorem SM.sto {pc pr : Option Nat} {rr : List (Int × RowE)} (h : SM w1 a pc pr S' rr) (hO : ∀ k, O k → k < w.heap.size) (hs : w.heap.size ≤ w1.heap.size) (hk : ∀ k, Own a pc pr rr k → O k ∨ w.heap.size ≤ k) : Sto w1 a (Grow O w w1) S' := by
  refine ⟨fun k hk => ?_, pc, pr, rr, h, fun k hk' => ?_⟩
  · rcases hk with hk | hk
    · exact Nat.lt_of_lt_of_le (hO k hk) hs
    · exact hk.2
  · rcases hk k hk' with h1 | h1
    · exact .inl h1
    · exact .inr ⟨h1, Own.lt h hk'⟩
end
def Did (w : World) (a : Nat) (O : Nat → Prop) (q : Int × St) (e : Ending) (w' : World) : Prop := e = .returned (.int .i64 q.1) ∧ Sto w' a (Grow O w w') q.2 ∧ Fp O w w'
theorem cRow_put (c : List (Int × (Int × Int))) (k : Int) (v : Int × Int) : putE (cRow c) k (.agg #[.int .u64 v.1, .int .u64 v.2]) = cRow (putE c k v) := putE_map cVal c k v
theorem cRow_del (c : List (Int × (Int × Int))) (k : Int) : delE (cRow c) k = cRow (delE c k) := delE_map cVal c k
set_option maxHeartbeats 3200000 in
theorem putC_any (a : Nat) (O : Nat → Prop) (S : St) (id : Int) (w : World) (h : Sto w a O S) (hid : (Lit.int .i64 id).wf = true) :
    Calls Try.prog 22 #[ptr a, .int .i64 id] w (Did w a O (putC S id)) := by
  obtain ⟨hO, pc, pr, rr, hm, hown⟩ := h
  have HC := Lib.hid (counter_any a pc pr S rr id w hm hid)
  have HSTO := Lib.hid (show Sto w a O S from ⟨hO, pc, pr, rr, hm, hown⟩)
  have HM := Lib.hid hm
  have HOW := Lib.hid hown
  have HO := Lib.hid hO
  clear hm hown hO
  cases hl : lookE S.c id with
  | some v =>
    have hq : hasC S id = 0 := by unfold hasC; rw [hl]; rfl
    have HP := Lib.hid (show putC S id = (7, S) by unfold putC; rw [hl])
    rw [hq] at HC
    clear hq hl
    go_enter Try.func22, Try.ntmps22
    go_wp2_with fail
    refine HC.out.mono ?_
    rintro e w1 ⟨rfl, hb⟩
    have HB := Lib.hid hb
    clear hb
    go_wp2_with fail
    go_ret
    rw [HP.out]
    exact ⟨rfl, HSTO.out.same HB.out, Fp.of_below HB.out _⟩
  | none =>
    have hq : hasC S id = 6 := by unfold hasC; rw [hl]; rfl
    have HP := Lib.hid (show putC S id = (0, { S with c := putE S.c id (0, 0) }) by unfold putC; rw [hl])
    have HQ := Lib.hid (fun W => eql_nil 59 3 75 pc Try.underlying59 W)
    have HOK := Lib.hid (HM.out.ok.putC id (0, 0) ⟨by unfold u64ok; decide, by unfold u64ok; decide⟩)
    rw [hq] at HC
    clear hq hl
    go_enter Try.func22, Try.ntmps22
    go_wp2_with fail
    refine HC.out.mono ?_
    rintro e w1 ⟨rfl, hb⟩
    have HB := Lib.hid hb
    have HM1 := Lib.hid (HM.out.fp (Fp.of_below hb (fun _ => False)) (fun _ _ e => e))
    have c0 := HM1.out.box.cell 0
    have hq1 := HQ.out w1
    clear hb HC
    cases pc with
    | none =>
      obtain ⟨h2, hf2⟩ := HM1.out.makeC
      have HM2 := Lib.hid h2
      have HF2 := Lib.hid hf2
      have c0' := (HM1.out.box.alloc (.map #[] 0)).cell 0
      have z0' := (HM1.out.box.alloc (.map #[] 0)).frozen 0
      have d0 := h2.box.cell 0
      have hmk := run_makeMap (P := Try.prog) 59 w1
      have hml : ML _ w1.heap.size (cRow S.c) := h2.cm
      have HML := Lib.hid hml
      clear h2 hf2 hml
      go_wp2_with (at_mapUpdate; go_must (refine wpList_put rfl _ _ _ 59 rfl 75 Try.underlying59 w1.heap.size (cRow S.c) (by rfl) HML.out id hid (by rfl) (.agg #[.int .u64 0, .int .u64 0]) (by rfl) ?_; intro w3 M3 F3))
      go_ret
      rw [HP.out]
      rw [cRow_put S.c id (0, 0)] at M3
      have h3 := HM2.out.turnC M3 F3 HOK.out
      refine ⟨rfl, h3.sto HO.out (Nat.le_trans HB.out.size (Nat.le_trans HF2.out.size F3.size)) (fun k hk => ?_), ((Fp.of_below HB.out O).next HF2.out (fun i hi _ => HOW.out i (.inl hi))).next F3 (fun i hi hlt => absurd hlt (by have := HB.out.size; rw [show i = w1.heap.size from hi]; omega))⟩
      rcases hk with hk | hk | hk
      · exact .inl (HOW.out k (.inl hk))
      · injection hk with hk
        exact .inr (by rw [← hk]; exact HB.out.size)
      · exact .inl (HOW.out k (.inr (.inr hk)))
    | some b =>
      have HML := Lib.hid (show ML w1 b (cRow S.c) from HM1.out.cm)
      go_wp2_with (at_mapUpdate; go_must (refine wpList_put rfl _ _ _ 59 rfl 75 Try.underlying59 b (cRow S.c) (by rfl) HML.out id hid (by rfl) (.agg #[.int .u64 0, .int .u64 0]) (by rfl) ?_; intro w3 M3 F3))
      go_ret
      rw [HP.out]
      rw [cRow_put S.c id (0, 0)] at M3
      have h3 := HM1.out.turnC M3 F3 HOK.out
      exact ⟨rfl, h3.sto HO.out (Nat.le_trans HB.out.size F3.size) (fun k hk => .inl (HOW.out k hk)), (Fp.of_below HB.out O).next F3 (fun i hi _ => HOW.out i (.inr (.inl (congrArg some (show i = b from hi).symm))))⟩
set_option maxHeartbeats 3200000 in
theorem delC_any (a : Nat) (O : Nat → Prop) (S : St) (id : Int) (w : World) (h : Sto w a O S) (hid : (Lit.int .i64 id).wf = true) :
    Calls Try.prog 28 #[ptr a, .int .i64 id] w (Did w a O (delC S id)) := by
  obtain ⟨hO, pc, pr, rr, hm, hown⟩ := h
  have HC := Lib.hid (counter_any a pc pr S rr id w hm hid)
  have HSTO := Lib.hid (show Sto w a O S from ⟨hO, pc, pr, rr, hm, hown⟩)
  have HM := Lib.hid hm
  have HOW := Lib.hid hown
  have HO := Lib.hid hO
  clear hm hown hO
  cases hl : lookE S.c id with
  | none =>
    have hq : hasC S id = 6 := by unfold hasC; rw [hl]; rfl
    have HP := Lib.hid (show delC S id = (6, S) by unfold delC; rw [hl])
    rw [hq] at HC
    clear hq hl
    go_enter Try.func28, Try.ntmps28
    go_wp2_with fail
    refine HC.out.mono ?_
    rintro e w1 ⟨rfl, hb⟩
    have HB := Lib.hid hb
    clear hb
    go_wp2_with fail
    go_ret
    rw [HP.out]
    exact ⟨rfl, HSTO.out.same HB.out, Fp.of_below HB.out _⟩
  | some v =>
    have hq : hasC S id = 0 := by unfold hasC; rw [hl]; rfl
    have HP := Lib.hid (show delC S id = (0, { S with c := delE S.c id }) by unfold delC; rw [hl])
    have HOK := Lib.hid (HM.out.ok.delC id)
    rw [hq] at HC
    cases pc with
    | none =>
      have h0 := HM.out.cm
      have : S.c = [] := by
        have h1 : cRow S.c = [] := h0
        exact List.map_eq_nil_iff.1 h1
      rw [this] at hl
      cases hl
    | some b =>
      clear hq hl
      go_enter Try.func28, Try.ntmps28
      go_wp2_with fail
      refine HC.out.mono ?_
      rintro e w1 ⟨rfl, hb⟩
      have HB := Lib.hid hb
      have HM1 := Lib.hid (HM.out.fp (Fp.of_below hb (fun _ => False)) (fun _ _ e => e))
      have c0 := HM1.out.box.cell 0
      have HML := Lib.hid (show ML w1 b (cRow S.c) from HM1.out.cm)
      clear hb HC
      go_wp2_with (at_delete; go_must (refine wpList_del rfl _ _ 59 rfl 75 Try.underlying59 b (cRow S.c) (by rfl) HML.out id hid (by rfl) ?_; intro w3 M3 F3))
      go_ret
      rw [HP.out]
      rw [cRow_del S.c id] at M3
      have h3 := HM1.out.turnC M3 F3 HOK.out
      exact ⟨rfl, h3.sto HO.out (Nat.le_trans HB.out.size F3.size) (fun k hk => .inl (HOW.out k hk)), (Fp.of_below HB.out O).next F3 (fun i hi _ => HOW.out i (.inr (.inl (congrArg some (show i = b from hi).symm))))⟩
theorem u64_wrap (x : Int) : IntKind.u64.wrap x = u64w x := by simp [IntKind.wrap, IntKind.signed, IntKind.bits, u64w]
set_option maxHeartbeats 3200000 in
theorem cnt_any (a : Nat) (O : Nat → Prop) (S : St) (id n : Int) (w : World) (h : Sto w a O S) (hid : (Lit.int .i64 id).wf = true) (hn : (Lit.int .i64 n).wf = true) :
    Calls Try.prog 15 #[ptr a, .int .i64 id, .int .i64 n] w (Did w a O (cnt S id n)) := by
  obtain ⟨hO, pc, pr, rr, hm, hown⟩ := h
  have HC := Lib.hid (counter_any a pc pr S rr id w hm hid)
  have HSTO := Lib.hid (show Sto w a O S from ⟨hO, pc, pr, rr, hm, hown⟩)
  have HM := Lib.hid hm
  have HOW := Lib.hid hown
  have HO := Lib.hid hO
  clear hm hown hO
  cases hl : lookE S.c id with
  | none =>
    have hq : hasC S id = 6 := by unfold hasC; rw [hl]; rfl
    have HP := Lib.hid (show cnt S id n = (6, S) by unfold cnt; rw [hl])
    rw [hq] at HC
    clear hq hl
    go_enter Try.func15, Try.ntmps15
    go_wp2_with fail
    refine HC.out.mono ?_
    rintro e w1 ⟨rfl, hb⟩
    have HB := Lib.hid hb
    clear hb
    go_wp2_with fail
    go_ret
    rw [HP.out]
    exact ⟨rfl, HSTO.out.same HB.out, Fp.of_below HB.out _⟩
  | some v =>
    have hq : hasC S id = 0 := by unfold hasC; rw [hl]; rfl
    rw [hq] at HC
    by_cases hneg : n < 0
    · have HP := Lib.hid (show cnt S id n = (1, S) by unfold cnt; rw [hl]; exact if_pos hneg)
      clear hq hl
      go_enter Try.func15, Try.ntmps15
      go_wp2_with fail
      refine HC.out.mono ?_
      rintro e w1 ⟨rfl, hb⟩
      have HB := Lib.hid hb
      clear hb
      go_wp2_with fail
      go_ret
      rw [HP.out]
      exact ⟨rfl, HSTO.out.same HB.out, Fp.of_below HB.out _⟩
    · have HP := Lib.hid (show cnt S id n = (0, { S with c := putE S.c id (u64w (v.1 + 1), u64w (v.2 + n)) }) by unfold cnt; rw [hl]; exact if_neg hneg)
      have HOK := Lib.hid (HM.out.ok.putC id (u64w (v.1 + 1), u64w (v.2 + n)) ⟨u64w_ok _, u64w_ok _⟩)
      cases pc with
      | none =>
        have h0 := HM.out.cm
        have : S.c = [] := by
          have h1 : cRow S.c = [] := h0
          exact List.map_eq_nil_iff.1 h1
        rw [this] at hl
        cases hl
      | some b =>
        obtain ⟨p1, p2⟩ := v
        have HL := Lib.hid hl
        have hw1 := u64_wrap (p1 + 1)
        have hw2 := u64_wrap (p2 + n)
        have hn0 : 0 ≤ n := by omega
        have hn1 : n ≤ 9223372036854775807 := by
          have : IntKind.i64.min ≤ n ∧ n ≤ IntKind.i64.max := by simpa [Lit.wf] using hn
          simp [IntKind.min, IntKind.max, IntKind.signed, IntKind.bits] at this
          omega
        have hwn : IntKind.u64.wrap n = n := by rw [u64_wrap]; unfold u64w; omega
        clear hn1
        simp only at HP HOK
        generalize u64w (p1 + 1) = q1 at *
        generalize u64w (p2 + n) = q2 at *
        clear hq hl hneg
        go_enter Try.func15, Try.ntmps15
        go_wp2_with fail
        refine HC.out.mono ?_
        rintro e w1 ⟨rfl, hb⟩
        have HB := Lib.hid hb
        have HM1 := Lib.hid (HM.out.fp (Fp.of_below hb (fun _ => False)) (fun _ _ e => e))
        have c0 := HM1.out.box.cell 0
        have HMM := Lib.hid (show MM w1 (some b) (cRow S.c) from HM1.out.cm)
        have HVL := Lib.hid (show (if false then .tuple #[(lookE (cRow S.c) id).getD (.agg #[.int .u64 0, .int .u64 0]), .bool (lookE (cRow S.c) id).isSome] else (lookE (cRow S.c) id).getD (.agg #[.int .u64 0, .int .u64 0])) = .agg #[.int .u64 p1, .int .u64 p2] by
          rw [if_neg (by decide), cRow, lookE_map, HL.out]; rfl)
        have HZ := Lib.hid (zero75 w1)
        clear hb HC
        have X := Blk.new w1 75 #[.int .u64 p1, .int .u64 p2]
        have x0 := X.cell 0
        have x1 := X.cell 1
        have z0 := X.frozen 0
        have z1 := X.frozen 1
        go_upto_region 9 with (at_lookup; go_must (refine wpList_look rfl _ _ 59 false rfl 75 Try.underlying59 _ HZ.out (some b) (cRow S.c) (by rfl) HMM.out id hid (by rfl) (.agg #[.int .u64 p1, .int .u64 p2]) HVL.out ?_))
        clear c0 X x0 x1 z0 z1
        have hba : Below w1.heap.size w1 (w1.alloc (.cells #[.int .u64 q1, .int .u64 q2] 75)) := (Below.refl _ _).alloc (Nat.le_refl _) _
        have HB2 := Lib.hid (below_step HB.out hba)
        have HM2 := Lib.hid (HM1.out.fp (Fp.of_below hba (fun _ => False)) (fun _ _ e => e))
        have X := Blk.new w1 75 #[.int .u64 q1, .int .u64 q2]
        clear hba
        generalize w1.alloc (.cells #[.int .u64 q1, .int .u64 q2] 75) = w2 at *
        have x0 := X.cell 0
        have x1 := X.cell 1
        have c0 := HM2.out.box.cell 0
        go_still_tail 6, (by kernel_rfl)
        change wpList _ _ _ _ _ w2.drew
        have HML := Lib.hid (show ML w2.drew b (cRow S.c) from ML.go HM2.out.cm (below_drew1 (Below.refl _ _)))
        go_wp2_with (at_mapUpdate; go_must (refine wpList_put rfl _ _ _ 59 rfl 75 Try.underlying59 b (cRow S.c) (by rfl) HML.out id hid (by rfl) (.agg #[.int .u64 q1, .int .u64 q2]) (by rfl) ?_; intro w3 M3 F3))
        go_ret
        rw [HP.out]
        rw [cRow_put S.c id (q1, q2)] at M3
        have h3 := (HM2.out.fp (Fp.of_below (below_drew1 (Below.refl _ _)) (fun _ => False)) (fun _ _ e => e)).turnC M3 F3 HOK.out
        exact ⟨rfl, h3.sto HO.out (Nat.le_trans HB2.out.size F3.size) (fun k hk => .inl (HOW.out k hk)), ((Fp.of_below HB2.out O).drew).next F3 (fun i hi _ => HOW.out i (.inr (.inl (congrArg some (show i = b from hi).symm))))⟩
/-- Counter's answer. -/
def Got (w : World) (q : Int × Int × Int) (e : Ending) (w' : World) : Prop := e = .returned (.tuple #[.int .u64 q.1, .int .u64 q.2.1, .int .i64 q.2.2]) ∧ Below w.heap.size w w'
set_option maxHeartbeats 3200000 in
theorem getC_any (a : Nat) (O : Nat → Prop) (S : St) (id : Int) (w : World) (h : Sto w a O S) (hid : (Lit.int .i64 id).wf = true) :
    Calls Try.prog 17 #[ptr a, .int .i64 id] w (Got w (getC S id)) := by
  obtain ⟨hO, pc, pr, rr, hm, hown⟩ := h
  have HC := Lib.hid (counter_any a pc pr S rr id w hm hid)
  have HM := Lib.hid hm
  clear hm hown hO
  cases hl : lookE S.c id with
  | none =>
    have hq : hasC S id = 6 := by unfold hasC; rw [hl]; rfl
    have HP := Lib.hid (show getC S id = (0, 0, 6) by unfold getC; rw [hl])
    rw [hq] at HC
    clear hq hl
    go_enter Try.func17, Try.ntmps17
    go_wp2_with fail
    refine HC.out.mono ?_
    rintro e w1 ⟨rfl, hb⟩
    go_wp2_with fail
    refine bodyPost_ret (v := .tuple #[.int .u64 0, .int .u64 0, .int .i64 6]) (by simp [results, Try.results17, go_sem]) rfl ?_
    rw [HP.out]
    exact ⟨rfl, hb⟩
  | some v =>
    have hq : hasC S id = 0 := by unfold hasC; rw [hl]; rfl
    have HP := Lib.hid (show getC S id = (v.1, v.2, 0) by unfold getC; rw [hl])
    rw [hq] at HC
    obtain ⟨p1, p2⟩ := v
    have HL := Lib.hid hl
    clear hq hl
    go_enter Try.func17, Try.ntmps17
    go_wp2_with fail
    refine HC.out.mono ?_
    rintro e w1 ⟨rfl, hb⟩
    have HB := Lib.hid hb
    have HM1 := Lib.hid (HM.out.fp (Fp.of_below hb (fun _ => False)) (fun _ _ e => e))
    have c0 := HM1.out.box.cell 0
    have HMM := Lib.hid (show MM w1 pc (cRow S.c) from HM1.out.cm)
    have HVL := Lib.hid (show (if false then .tuple #[(lookE (cRow S.c) id).getD (.agg #[.int .u64 0, .int .u64 0]), .bool (lookE (cRow S.c) id).isSome] else (lookE (cRow S.c) id).getD (.agg #[.int .u64 0, .int .u64 0])) = .agg #[.int .u64 p1, .int .u64 p2] by
      rw [if_neg (by decide), cRow, lookE_map, HL.out]; rfl)
    have HZ := Lib.hid (zero75 w1)
    clear hb HC
    have X := Blk.new w1 75 #[.int .u64 p1, .int .u64 p2]
    have x0 := X.cell 0
    have x1 := X.cell 1
    have hba : Below w1.heap.size w1 (w1.alloc (.cells #[.int .u64 p1, .int .u64 p2] 75)) := (Below.refl _ _).alloc (Nat.le_refl _) _
    have HB2 := Lib.hid (below_step HB.out hba)
    clear hba
    go_wp2_with (at_lookup; go_must (refine wpList_look rfl _ _ 59 false rfl 75 Try.underlying59 _ HZ.out pc (cRow S.c) (by rfl) HMM.out id hid (by rfl) (.agg #[.int .u64 p1, .int .u64 p2]) HVL.out ?_))
    go_quiet (fail)
    go_wp2_with fail
    refine bodyPost_ret (v := .tuple #[.int .u64 p1, .int .u64 p2, .int .i64 0]) (by simp [results, Try.results17, go_sem]) rfl ?_
    rw [HP.out]
    exact ⟨rfl, pw_below_drewN HB2.out _⟩
end Go.Proofs.Ytdobpieiobikpaa.Base
