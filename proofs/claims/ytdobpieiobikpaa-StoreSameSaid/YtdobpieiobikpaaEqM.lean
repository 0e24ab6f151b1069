/- Are two maps the same: maps.Equal at the counters, maps.EqualFunc at the rows, slices.Equal at numbers. Conditions: as each contract says. -/
import Derived.Test.YtdobpieiobikpaaCopy
set_option linter.unusedVariables false
set_option linter.unusedSimpArgs false
namespace Go.Proofs.Ytdobpieiobikpaa.Base
open Go Go.RowKit Go.Proofs.Ytdobpieiobikpaa.Mem Go.Proofs.YtdobpieiobikpaaW.PrintWords Go.Proofs.YtdobpieiobikpaaW.PrintLast
/-- An iterator over a map, or over nil. -/
def RO (w : World) (p : Option Nat) (r : Nat) (l : List (Int × Value)) (D : List Int) : Prop := match p with
  | none => l = [] ∧ w.heap[r]? = some (.mapIter none 0 #[] 0)
  | some b => RG w b r l D
def leftO (w : World) (p : Option Nat) (r : Nat) : Nat := match p with
  | none => 0
  | some b => leftB w b r
theorem RO.go {w w1 : World} {p : Option Nat} {r : Nat} {l : List (Int × Value)} {D : List Int} (h : RO w p r l D) (hb : Below w.heap.size w w1) : RO w1 p r l D ∧ leftO w1 p r = leftO w p r := by
  cases p with
  | none =>
    refine ⟨⟨h.1, ?_⟩, rfl⟩
    rw [hb.block r (Array.getElem?_eq_some_iff.1 h.2).1]
    exact h.2
  | some b => exact RG.fp h (Fp.of_below hb (fun _ => False)) (fun e => e) (fun e => e)
theorem wpList_rangeO {ops : Array Oper} {rest : List Oper} {o : Oper} {ac : Act} {Q : Exit → Act → World → Prop} {w : World} (hg : o.guard = none) (m : Operand) (t : TypeId) (hop : o.op = Op.range t m)
    (e : TypeId) (ht : Try.prog.underlying t = some (.map 3 e)) (p : Option Nat) (l : List (Int × Value)) (hm : ac.eval m = .map p) (h : MM w p l)
    (hK : ∀ w', RO w' p w.heap.size l [] → Below w.heap.size w w' → wpList Try.prog ops Q rest (ac.put o.dst (.pointer (some ⟨w.heap.size, 0, none⟩))) w') : wpList Try.prog ops Q (o :: rest) ac w := by
  cases p with
  | none => exact wpList_rangeN hg m t hop e ht hm (fun w' h1 h2 => hK w' ⟨h, h1⟩ h2)
  | some b => exact wpList_rangeM hg m t hop e ht b l hm h hK
theorem wpList_nextO {ops : Array Oper} {rest : List Oper} {o : Oper} {ac : Act} {Q : Exit → Act → World → Prop} {w : World} (hg : o.guard = none) (it : Operand) (hop : o.op = Op.next it false)
    (p : Option Nat) (r : Nat) (l : List (Int × Value)) (D : List Int) (hit : ac.eval it = .pointer (some ⟨r, 0, none⟩)) (h : RO w p r l D)
    (hDone : (∀ k ∈ keys l, k ∈ D) → wpList Try.prog ops Q rest (ac.put o.dst (.tuple #[.bool false])) w)
    (hMore : ∀ k v w', lookE l k = some v → k ∉ D → (Lit.int .i64 k).wf = true → RO w' p r l (k :: D) → Fp (fun j => j = r) w w' → leftO w' p r < leftO w p r →
      (Instr.entry (.pointer (some ⟨r, 0, none⟩))).run Try.prog w' = .ok (.tuple #[.int .i64 k, v]) w' → wpList Try.prog ops Q rest (ac.put o.dst (.tuple #[.bool true, .int .i64 k, v])) w') : wpList Try.prog ops Q (o :: rest) ac w := by
  cases p with
  | none =>
    obtain ⟨h1, h2⟩ := h
    subst h1
    exact wpList_nextN hg it hop r hit h2 (hDone (fun k hk => by simp [keys] at hk))
  | some b => exact wpList_nextM hg it hop b r l D hit h hDone hMore
/-- 'len(m)'. -/
theorem MM.len {w : World} {p : Option Nat} {l : List (Int × Value)} (h : MM w p l) {t e : TypeId} (ht : Try.prog.underlying t = some (.map 3 e)) (ty : TypeId) : (Builtin.len_ #[t] ty #[.map p]).run Try.prog w = .ok (.int .i64 (l.length : Int)) w := by
  cases p with
  | none =>
    have : l = [] := h
    subst this
    simp [Builtin.len_, run_underlying ht]
    rfl
  | some b =>
    obtain ⟨es, cl, h1, _, h3, _⟩ := h
    have hl : es.size = l.length := by
      have := congrArg List.length h3
      simpa [kvs, kvl] using this
    simp [Builtin.len_, run_underlying ht, MapKept.run_getObj_map h1, hl]
    rfl
/-- Are two maps the same? -/
def sameL {β : Type} [DecidableEq β] (c d : List (Int × β)) : Bool := decide (c.length = d.length ∧ ∀ k ∈ keys c, lookE d k = lookE c k)
/-- What holds at each round. -/
structure EqI (w : World) (p : Option Nat) (r : Nat) (c d : List (Int × (Int × Int))) (D : List Int) (wr : World) : Prop where
  rg : RO wr p r (cRow c) D
  bel : Below w.heap.size w wr
  eq : ∀ k ∈ D, lookE d k = lookE c k
set_option maxHeartbeats 3200000 in
set_option maxRecDepth 100000 in
theorem eqC_any (p1 p2 : Option Nat) (c d : List (Int × (Int × Int))) (w : World) (h1 : MM w p1 (cRow c)) (h2 : MM w p2 (cRow d)) :
    Calls Try.prog 48 #[.map p1, .map p2] w fun e w' => e = .returned (.bool (sameL c d)) ∧ Below w.heap.size w w' := by
  have L1 := h1.len Try.underlying59 3
  have L2 := h2.len Try.underlying59 3
  have e1 : (cRow c).length = c.length := by simp [cRow]
  have e2 : (cRow d).length = d.length := by simp [cRow]
  rw [e1] at L1
  rw [e2] at L2
  clear e1 e2
  obtain ⟨n, hn⟩ : ∃ n, c.length = n := ⟨_, rfl⟩
  obtain ⟨m, hm⟩ : ∃ m, d.length = m := ⟨_, rfl⟩
  rw [hn] at L1
  rw [hm] at L2
  have HN := Lib.hid hn
  have HM := Lib.hid hm
  have H1 := Lib.hid h1
  have H2 := Lib.hid h2
  clear hn hm h1 h2
  by_cases hnm : n = m
  · subst hnm
    go_enter Try.func48, Try.ntmps48
    go_wp2_with (at_range; go_must (refine wpList_rangeO rfl _ 59 rfl 75 Try.underlying59 p1 (cRow c) (by rfl) H1.out ?_); intro w1 hg1 hb1)
    go_frame
    have HR := Lib.hid (show EqI w p1 w.heap.size c d [] w1 from ⟨hg1, hb1, fun k hk => by cases hk⟩)
    clear hg1 hb1 L1 L2
    generalize hr : w.heap.size = r at HR ⊢
    go_loopw [5, 6, 7, 8] (fun _ _ _ _ wr => ∃ D, EqI w p1 r c d D wr) (fun _ _ _ _ wr => leftO wr p1 r)
    case atStart => exact ⟨_, HR.out⟩
    case round =>
      clear HR
      obtain ⟨D, he⟩ := hrel
      have HE := Lib.hid he
      clear he
      go_wp2_with (at_next; go_must (refine wpList_nextO rfl _ rfl p1 r (cRow c) D (by rfl) HE.out.rg ?_ ?_))
      focus
        intro hd
        have HT := Lib.hid (show sameL c d = true by
          unfold sameL
          rw [HN.out, HM.out]
          refine decide_eq_true ⟨rfl, fun k hk => HE.out.eq k (hd k ?_)⟩
          unfold cRow
          rw [keys_map]
          exact hk)
        clear hd
        go_wp2_with fail
        go_ret
        rw [HT.out]
        exact ⟨rfl, HE.out.bel⟩
      intro k v w5 hl hnd hkw hg hf hleft hen
      obtain ⟨q, hq, hv⟩ : ∃ q, lookE c k = some q ∧ cVal q = v := by
        rw [cRow, lookE_map] at hl
        exact Option.map_eq_some_iff.1 hl
      obtain ⟨q1, q2⟩ := q
      have hv2 : v = .agg #[.int .u64 q1, .int .u64 q2] := hv.symm
      subst hv2
      have HG := Lib.hid hg
      have HB5 := Lib.hid (show Below w.heap.size w w5 from HE.out.bel.trans (hf.below (fun i e => by omega) HE.out.bel.size))
      have HQ := Lib.hid hq
      have HL := Lib.hid hleft
      have HKW := Lib.hid hkw
      clear hl hnd hkw hg hf hleft hq hv
      have HP := Lib.hid (fun W (hW : Below w5.heap.size w5 W) => (H2.out.fp (Fp.of_below (below_step HB5.out hW) (fun _ => False)) (fun _ _ e => e) : MM W p2 (cRow d)))
      have HZ := Lib.hid (fun W => zero75 W)
      have hb6 := (Below.refl w5.heap.size w5).alloc (Nat.le_refl _) (.cells #[.int .u64 q1, .int .u64 q2] 75)
      have HB6 := Lib.hid hb6
      cases hd : lookE d k with
      | none =>
        have HV := Lib.hid (show (if true then .tuple #[(lookE (cRow d) k).getD (.agg #[.int .u64 0, .int .u64 0]), .bool (lookE (cRow d) k).isSome] else (lookE (cRow d) k).getD (.agg #[.int .u64 0, .int .u64 0])) = .tuple #[.agg #[.int .u64 0, .int .u64 0], .bool false] by
          rw [if_pos rfl, cRow, lookE_map, hd]; rfl)
        have HT := Lib.hid (show sameL c d = false by
          unfold sameL
          refine decide_eq_false (fun e => ?_)
          have := e.2 k (List.mem_map.2 ⟨_, lookE_mem HQ.out, rfl⟩)
          rw [hd, HQ.out] at this
          cases this)
        clear hd hb6
        have HBF := Lib.hid (HB6.out.alloc HB6.out.size (.cells #[.int .u64 0, .int .u64 0] 75))
        go_wp2_with (at_lookup; go_must (refine wpList_look rfl _ _ 59 true rfl 75 Try.underlying59 _ (HZ.out _) p2 (cRow d) (by rfl) (HP.out _ HB6.out) k HKW.out (by rfl) _ HV.out ?_))
        go_ret
        rw [HT.out]
        exact ⟨rfl, hr ▸ below_step HB5.out HBF.out⟩
      | some z =>
        obtain ⟨z1, z2⟩ := z
        have HV := Lib.hid (show (if true then .tuple #[(lookE (cRow d) k).getD (.agg #[.int .u64 0, .int .u64 0]), .bool (lookE (cRow d) k).isSome] else (lookE (cRow d) k).getD (.agg #[.int .u64 0, .int .u64 0])) = .tuple #[.agg #[.int .u64 z1, .int .u64 z2], .bool true] by
          rw [if_pos rfl, cRow, lookE_map, hd]; rfl)
        have HD := Lib.hid hd
        clear hd hb6
        have HBF := Lib.hid (HB6.out.alloc HB6.out.size (.cells #[.int .u64 z1, .int .u64 z2] 75))
        by_cases hz1 : q1 = z1
        · subst hz1
          by_cases hz2 : q2 = z2
          · subst hz2
            go_wp2_with (at_lookup; go_must (refine wpList_look rfl _ _ 59 true rfl 75 Try.underlying59 _ (HZ.out _) p2 (cRow d) (by rfl) (HP.out _ HB6.out) k HKW.out (by rfl) _ HV.out ?_))
            refine ⟨⟨k :: D, (HG.out.go HBF.out).1, below_step HB5.out HBF.out, fun j hj => ?_⟩, ?_⟩
            · rcases List.mem_cons.1 hj with rfl | hj
              · rw [HD.out, HQ.out]
              · exact HE.out.eq j hj
            · rw [(HG.out.go HBF.out).2]
              exact HL.out
          · have HT := Lib.hid (show sameL c d = false by
              unfold sameL
              refine decide_eq_false (fun e => ?_)
              have := e.2 k (List.mem_map.2 ⟨_, lookE_mem HQ.out, rfl⟩)
              rw [HD.out, HQ.out] at this
              injection this with this
              injection this with this this2
              exact hz2 this2.symm)
            go_wp2_with (at_lookup; go_must (refine wpList_look rfl _ _ 59 true rfl 75 Try.underlying59 _ (HZ.out _) p2 (cRow d) (by rfl) (HP.out _ HB6.out) k HKW.out (by rfl) _ HV.out ?_))
            go_ret
            rw [HT.out]
            exact ⟨rfl, hr ▸ below_step HB5.out HBF.out⟩
        · have HT := Lib.hid (show sameL c d = false by
            unfold sameL
            refine decide_eq_false (fun e => ?_)
            have := e.2 k (List.mem_map.2 ⟨_, lookE_mem HQ.out, rfl⟩)
            rw [HD.out, HQ.out] at this
            injection this with this
            injection this with this this2
            exact hz1 this.symm)
          go_wp2_with (at_lookup; go_must (refine wpList_look rfl _ _ 59 true rfl 75 Try.underlying59 _ (HZ.out _) p2 (cRow d) (by rfl) (HP.out _ HB6.out) k HKW.out (by rfl) _ HV.out ?_))
          go_ret
          rw [HT.out]
          exact ⟨rfl, hr ▸ below_step HB5.out HBF.out⟩
  · have hnm2 : ¬ (n : Int) = (m : Int) := by omega
    have HF := Lib.hid (show sameL c d = false by
      unfold sameL
      rw [HN.out, HM.out]
      exact decide_eq_false (fun e => hnm e.1))
    clear hnm
    go_enter Try.func48, Try.ntmps48
    go_wp2_with fail
    go_ret
    rw [HF.out]
    exact ⟨rfl, Below.refl _ _⟩
end Go.Proofs.Ytdobpieiobikpaa.Base
