/- What a stream tells of chunks, one behind the other. Conditions: as the contract says. -/
import Derived.Test.YtedkfhgpahjleaaAwake
import Derived.Laws.AppendOwnNone
set_option linter.unusedVariables false
set_option linter.unusedSimpArgs false
namespace Go.Proofs.Ytedkfhgpahjleaa.Base
open Go Go.RowKit Go.Proofs.Ytedkfhgpahjleaa.Mem Go.Proofs.YtedkfhgpahjleaaW.PrintWords
theorem own_low {w : World} {b b' : Nat} {e : TypeId} {s n : Nat} {v : Value} {xs : List Value} (h : w.ownsRow b e s v n xs) (hb : b' ≤ b) : w.ownsRow b' e s v n xs := by
  obtain ⟨h1, h2⟩ := h
  refine ⟨h1, ?_⟩
  rcases h2 with h2 | ⟨g, cap, cur, e1, hg, r⟩
  · exact .inl h2
  · exact .inr ⟨g, cap, cur, e1, by omega, r⟩
/-- append of a row of texts to another one. -/
theorem app_row {ops : Array Oper} {rest : List Oper} {o : Oper} {a : Act} {Q : Exit → Act → World → Prop} {w : World} (hgd : o.guard = none) (s x : Operand)
    (ho : o.op = .call { callee := .builtin .append, args := #[s, x], argTypes := #[30, 30] }) {v u : Value} {n m N M : Nat} {xs : List Value} {ys : List (List UInt8)} (hs : a.eval s = v) (hu : a.eval x = u)
    (hv : w.ownsRow N 9 1 v n xs) (hy : w.ownsRow M 9 1 u m (ys.map strV)) (hnm : n + m ≤ 1000000) (hN : N ≤ w.heap.size)
    (h : ∀ v' w', w'.ownsRow N 9 1 v' (n + m) (xs ++ ys.map strV) → w.grownBy w' v.ownBlock → wpList Try.prog ops Q rest (a.put o.dst v') w') : wpList Try.prog ops Q (o :: rest) a w := by
  obtain ⟨i0, hi0, hz0, hz1, hz2⟩ := info_parts info9
  have h1 := hy.1
  rcases hy.2 with ⟨rfl, rfl⟩ | ⟨g, cap, cur, rfl, hb, hh, hc, hm, _⟩
  · have : ys = [] := by simpa using h1
    subst this
    refine wpList_append_own_none hgd s x 30 ho N 9 i0 1 Try.underlying30 hi0 v n xs hs hv hu ?_
    have := h v w
    simp only [List.map_nil, List.append_nil, Nat.add_zero] at this
    exact this hv (World.grownBy.refl _ _)
  · refine wpList_append_own w hgd s x 30 ho N 9 i0 _ 1 16 Try.underlying30 hi0 hz0 hz1 hz2 rfl (by omega) v n xs hs hv ⟨g, 0, none⟩ m cap (ys.map strV) hu h1 (fun j y hj => ?_) ?_ (by unfold maxLen; omega) (by omega) hN (fun v' w' k1 k2 _ => h v' w' k1 k2)
    · have hjm : j < m * 1 := by have := (List.getElem?_eq_some_iff.1 hj).1; omega
      rw [Mem.add_at, Nat.zero_add, hy.cellAt j hjm]
      exact hj
    · intro y hy'
      obtain ⟨_, _, rfl⟩ := List.mem_map.1 hy'
      rfl
/-- A row of texts, written or made anew: the stream stands. -/
theorem St.own9 {w w1 : World} {B p N n : Nat} {v : Value} {xs : List Value} {st : Option (List UInt8)} (h : St w B p st) (hg : w.grownBy w1 v.ownBlock) (ho : w.ownsRow N 9 1 v n xs) : St w1 B p st := by
  rcases ho.2 with ⟨rfl, _⟩ | ⟨g, cap, cur, rfl, _, hh, _⟩
  · exact h.go (gb_to_below hg)
  · exact h.grown (t := 9) hg hh (by decide)
/-- All the bytes of texts. -/
def flat (l : List ByteArray) : List UInt8 := (l.map fun x => x.data.toList).flatten
theorem flat_take (l : List ByteArray) (k : Nat) (h : k < l.length) : flat (l.take (k + 1)) = flat (l.take k) ++ l[k].data.toList := by
  unfold flat
  rw [List.take_succ_eq_append_getElem h, List.map_append, List.flatten_append]
  simp
theorem flat_len (l : List ByteArray) (k : Nat) : (flat (l.take k)).length ≤ (flat l).length := by
  have : flat l = flat (l.take k) ++ flat (l.drop k) := by
    unfold flat
    rw [← List.flatten_append, ← List.map_append, List.take_append_drop]
  rw [this, List.length_append]
  omega
theorem flat_tot (l : List ByteArray) : (flat l).length ≤ tot l := by
  induction l with
  | nil => simp [flat, tot]
  | cons x r ih =>
    simp only [flat, tot, List.map_cons, List.sum_cons, List.flatten_cons, List.length_append] at ih ⊢
    have : x.data.toList.length = x.size := by simp
    omega
theorem parse_fst_len (s : List UInt8) : (parse s).1.length ≤ s.length := by
  induction s using parse.induct with
  | case1 s h => rw [parse, if_pos h]; simp
  | case2 s h h2 => rw [parse, if_neg h, if_pos h2]; simp
  | case3 s h h2 h3 => rw [parse, if_neg h, if_neg h2, if_pos h3]; simp
  | case4 s h h2 h3 ih =>
    rw [parse, if_neg h, if_neg h2, if_neg h3]
    simp only [List.length_drop, List.length_cons] at ih ⊢
    omega
def errP (s : List UInt8) : Int := if (parse s).2.isNone then 5 else 0
theorem step_out (s d : List UInt8) : (parse (s ++ d)).1 = (parse s).1 ++ outF (parse s).2 d ∧ (parse (s ++ d)).2 = nextF (parse s).2 d ∧
    (errP s = 0 → errF (parse s).2 d = errP (s ++ d)) ∧ (errP s ≠ 0 → errP (s ++ d) = errP s) := by
  rw [errP, errP, parse_app]
  cases h : (parse s).2 with
  | none => simp [outF, nextF]
  | some t => simp [outF, nextF, errF]
def FedR (B p N : Nat) (bs : List UInt8) (l : List ByteArray) (w0 : World) (t6 t7 t8 : Value) (wr : World) : Prop :=
  ∃ k : Nat, t8 = .int .i64 (k : Int) ∧ k ≤ l.length ∧ t7 = .int .i64 (errP (bs ++ flat (l.take k))) ∧ wr.ownsRow N 9 1 t6 (parse (bs ++ flat (l.take k))).1.length ((parse (bs ++ flat (l.take k))).1.map strV) ∧
    St wr B p (parse (bs ++ flat (l.take k))).2 ∧ Fr B p w0 wr
theorem errP_dec (s : List UInt8) : errP s = 0 ∨ errP s = 5 := by unfold errP; split <;> simp
theorem errF_dec (st : Option (List UInt8)) (d : List UInt8) : errF st d = 0 ∨ errF st d = 5 ∨ errF st d = 14 := by
  cases st with
  | none => simp [errF]
  | some bs => unfold errF; simp only; split <;> simp
set_option maxHeartbeats 1600000 in
theorem fed_any (B p : Nat) (bs : List UInt8) (A : Option Addr) (c : Nat) (l : List ByteArray) (w : World) (hB : B ≤ p) (hI : Inv bs) (hs : St w B p (some bs)) (hl : Kd.string.C w A l.length l) (hla : ∀ ad, A = some ad → 0 < l.length → ad.block < B ∨ (∃ cs, Blk w ad.block 9 cs)) (hc : l.length ≤ c) (hn : bs.length + (flat l).length ≤ 100000) (hz : ∀ x ∈ l, x.size ≤ 1000000) (hm : l.length ≤ 1000000) :
    Calls Try.prog 21 #[ptr p, .slice A l.length c] w fun e w' => ∃ v, e = .returned (.tuple #[v, .int .i64 (errP (bs ++ flat l))]) ∧
      w'.ownsRow w.heap.size 9 1 v (parse (bs ++ flat l)).1.length ((parse (bs ++ flat l)).1.map strV) ∧ St w' B p (parse (bs ++ flat l)).2 ∧ Fr B p w w' := by
  have hpi := parse_inv hI
  have hBw : B ≤ w.heap.size := by obtain ⟨_, _, _, hb⟩ := hs.sv; have := hb.lt; omega
  have hR : FedR B p w.heap.size bs l w (.slice none 0 0) (.int .i64 0) (.int .i64 0) w := by
    refine ⟨0, rfl, by omega, ?_, ?_, ?_, Fr.refl _ _ _⟩
    · simp [flat, errP, hpi]
    · simp only [flat, List.take_zero, List.map_nil, List.flatten_nil, List.append_nil, hpi, List.length_nil]
      exact World.ownsRow_nil _ _ _ _
    · simpa [flat, hpi] using hs
  obtain ⟨_, _, _, hblk⟩ := hs.sv
  have hpB : p ≠ p → False := fun h => h rfl
  have HL : ∀ wx, Fr B p w wx → Kd.string.C wx A l.length l := by
    intro wx hf
    refine ⟨hl.1, hl.2.1, fun h0 => ?_⟩
    obtain ⟨ad, rfl, hcell⟩ := hl.2.2 h0
    refine ⟨ad, rfl, fun j q hj => ?_⟩
    obtain ⟨cc, e1, e2, e3⟩ := hcell j q hj
    refine ⟨cc, e1, e2, fun i u hu => ?_⟩
    have h1 := e3 i u hu
    have hadb : (ad.add (j * Kd.string.sz + i)).block = ad.block := by unfold Addr.add; split <;> rfl
    have hsame : wx.heap[ad.block]? = w.heap[ad.block]? := by
      rcases hla ad rfl h0 with h2 | ⟨cs, h2⟩
      · exact hf.block _ (by omega) (.inl h2)
      · exact hf.block _ h2.lt (.inr ⟨blk_ne h2 hblk (by decide), fun cs' e => by unfold Blk at h2; rw [h2] at e; injection e with e; injection e with _ e; cases e⟩)
    unfold World.cell? at h1 ⊢
    rw [hadb] at h1 ⊢
    rw [hsame]
    exact h1
  have HL := Lib.hid HL
  have HZ := Lib.hid hz
  clear hl hla hz hpB hblk hs hpi
  go_enter Try.func21, Try.ntmps21
  go_wp2_with fail
  go_loopw [6, 7, 8] (fun t6 t7 t8 wr => FedR B p w.heap.size bs l w t6 t7 t8 wr) (fun _ _ t8 _ => l.length - (intOf t8).toNat)
  case atStart => exact hR
  case round =>
    clear hR
    obtain ⟨k, rfl, hk, rfl, ho, hs, hF⟩ := hrel
    by_cases hlt : k < l.length
    · have k0 : (0 : Int) ≤ (k : Int) := by omega
      have k1 : (k : Int) < (l.length : Int) := by omega
      obtain ⟨ad, rfl, e0⟩ := Kd.at_string (HL.out wr hF) (k : Int) k0 k1
      have hr0 : rdOf ByteArray.empty l (k : Int) = l[k] := by simp [rdOf, List.getD_eq_getElem?_getD, hlt]
      rw [hr0, Int.toNat_natCast] at e0
      have hz := HZ.out l[k] (List.getElem_mem hlt)
      have hstep := Lib.hid (step_out (bs ++ flat (l.take k)) l[k].data.toList)
      have hft := Lib.hid (flat_take l k hlt)
      have hfl := flat_len l (k + 1)
      have hpl := parse_fst_len (bs ++ flat (l.take (k + 1)))
      have hpl2 := parse_fst_len (bs ++ flat (l.take k))
      have hbl : (bs ++ flat (l.take (k + 1))).length ≤ 100000 := by rw [List.length_append]; omega
      have hlen : (parse (bs ++ flat (l.take k))).1.length + (outF (parse (bs ++ flat (l.take k))).2 l[k].data.toList).length ≤ 100000 := by
        have h1 := hstep.out.1
        rw [List.append_assoc, ← hft.out] at h1
        have := congrArg List.length h1
        rw [List.length_append] at this
        omega
      have hE1 := errP_dec (bs ++ flat (l.take k))
      have hE2 := errF_dec (parse (bs ++ flat (l.take k))).2 l[k].data.toList
      clear hpl hpl2 hfl hbl hr0
      go_wp2_with fail
      refine (feed_st B p _ _ wr hB hs hz).mono ?_
      rintro e w4 ⟨v, rfl, hv, hs4, hf⟩
      obtain ⟨_, _, _, hblk⟩ := hs.sv
      have ho4 := own_fr ho (by decide) (by decide) hblk hf
      have hF4 := hF.trans hf
      have hsz : w.heap.size ≤ w4.heap.size := hF4.size
      clear hs hf hblk ho e0
      have hft2 := hft.out
      have hst2 := hstep.out
      rw [List.append_assoc, ← hft2] at hst2
      obtain ⟨a1, a2, a3, a4⟩ := hst2
      have hnew : ∃ X : Int, errP (bs ++ flat (l.take (k + 1))) = X ∧ (errP (bs ++ flat (l.take k)) = 0 → errF (parse (bs ++ flat (l.take k))).2 l[k].data.toList = X) ∧ (errP (bs ++ flat (l.take k)) ≠ 0 → X = errP (bs ++ flat (l.take k))) := ⟨_, rfl, a3, a4⟩
      obtain ⟨X, hX, x1, x2⟩ := hnew
      have Hout := Lib.hid a1
      have Hnext := Lib.hid a2
      have HX := Lib.hid hX
      clear a1 a2 a3 a4 hX hft2 hft hstep
      generalize errP (bs ++ flat (l.take k)) = L at *
      generalize errF (parse (bs ++ flat (l.take k))).2 l[k].data.toList = E at *
      generalize outF (parse (bs ++ flat (l.take k))).2 l[k].data.toList = os at *
      generalize nextF (parse (bs ++ flat (l.take k))).2 l[k].data.toList = nst at *
      generalize (parse (bs ++ flat (l.take k))).1 = os0 at *
      have hcase : (L = 0 ∧ E = 0 ∧ X = 0) ∨ (L = 0 ∧ E = 5 ∧ X = 5) ∨ (L = 0 ∧ E = 14 ∧ X = 14) ∨ (L = 5 ∧ E = 0 ∧ X = 5) ∨ (L = 5 ∧ E = 5 ∧ X = 5) ∨ (L = 5 ∧ E = 14 ∧ X = 5) := by
        rcases hE1 with rfl | rfl <;> rcases hE2 with rfl | rfl | rfl <;> simp at x1 x2 <;> omega
      clear hE1 hE2 x1 x2
      rcases hcase with ⟨rfl, rfl, rfl⟩ | ⟨rfl, rfl, rfl⟩ | ⟨rfl, rfl, rfl⟩ | ⟨rfl, rfl, rfl⟩ | ⟨rfl, rfl, rfl⟩ | ⟨rfl, rfl, rfl⟩
      all_goals
        go_wp2_with (at_builtin; go_must (refine app_row rfl _ _ rfl (by rfl) (by rfl) ho4 hv (by omega) (by omega) ?_; intro v5 w5 ho5 hg5; have hs5 := hs4.own9 hg5 ho4; have hF5 := hF4.rowN hg5 ho4 hBw))
        go_roundw
        case rel => exact ⟨k + 1, by go_num, by omega, by rw [HX.out], by rw [Hout.out, List.length_append, List.map_append]; exact ho5, by rw [Hnext.out]; exact hs5, hF5⟩
        case measure => simp [intOf]; omega
    · have hkk : ¬ (k : Int) < (l.length : Int) := by omega
      have hke : k = l.length := by omega
      have hke2 : l.take k = l := by rw [hke]; exact List.take_length
      rw [hke2] at ho hs
      have HE : Hid (errP (bs ++ flat (l.take k)) = errP (bs ++ flat l)) := by rw [hke2]; rfl
      clear hke hke2
      go_wp2_with fail
      go_ret2
      exact ⟨_, by rw [HE.out]; rfl, ho, hs, hF⟩
end Go.Proofs.Ytedkfhgpahjleaa.Base
