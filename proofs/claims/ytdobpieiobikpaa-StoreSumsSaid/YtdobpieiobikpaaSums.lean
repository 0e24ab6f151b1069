/- A counter has as many packets as it was counted, and the sum of the bytes; in whatever row: the law. Conditions: as each contract says. -/
import Derived.Test.YtdobpieiobikpaaSumsPure
import Derived.Test.YtdobpieiobikpaaAwake
import Derived.Test.YtdobpieiobikpaaOpen
set_option linter.unusedVariables false
set_option linter.unusedSimpArgs false
namespace Go.Proofs.Ytdobpieiobikpaa.Base
open Go Go.RowKit Go.Proofs.Ytdobpieiobikpaa.Mem Go.Proofs.YtdobpieiobikpaaW.PrintWords Go.Proofs.YtdobpieiobikpaaW.PrintLast
theorem kd_at {α : Type} {K : Kd α} {w : World} {A : Option Addr} {l : List α} (v : α → Value) (hs : K.sz = 1) (hK : ∀ w x cs, K.K w x cs → cs = [v x]) (h : K.C w A l.length l) (i : Nat) (hi : i < l.length) : ∃ g o, A = some ⟨g, o, none⟩ ∧ w.cell? ⟨g, o + i, none⟩ = some (v l[i]) := by
  obtain ⟨g, o, cs, rfl, hk, -, hc⟩ := row_at h (by omega) hi
  have e := hK _ _ _ hk
  subst e
  have := hc 0 _ rfl
  rw [hs, Nat.mul_one, Nat.add_zero] at this
  exact ⟨g, o, rfl, this⟩
/-- Stores, and other blocks of one's own. -/
def MsT (w w1 : World) (L : List (Nat × St)) (T : Nat → Prop) : Prop := Below w.heap.size w w1 ∧ (∀ k, T k → w.heap.size ≤ k ∧ k < w1.heap.size) ∧ ∃ O : Nat → Nat → Prop, (∀ i j, i ≠ j → ∀ k, O i k → ¬ O j k) ∧ (∀ i k, O i k → w.heap.size ≤ k ∧ k < w1.heap.size) ∧ (∀ i k, O i k → ¬ T k) ∧ ∀ i p, L[i]? = some p → Sto w1 p.1 (O i) p.2
section
variable {w w1 w2 : World} {L : List (Nat × St)} {T : Nat → Prop}
theorem MsT.below (h : MsT w w1 L T) : Below w.heap.size w w1 := h.1
theorem MsT.ms (h : MsT w w1 L T) : Ms w w1 L := by
  obtain ⟨h1, _, O, h2, h3, _, h4⟩ := h
  exact ⟨h1, O, h2, h3, h4⟩
theorem MsT.of (h : Ms w w1 L) : MsT w w1 L (fun _ => False) := by
  obtain ⟨h1, O, h2, h3, h4⟩ := h
  exact ⟨h1, fun _ e => e.elim, O, h2, h3, fun _ _ _ e => e, h4⟩
theorem MsT.read (h : MsT w w1 L T) (i : Nat) {a : Nat} {S : St} (hi : L[i]? = some (a, S)) : ∃ O, Sto w1 a O S := h.ms.read i hi
theorem MsT.go (h : MsT w w1 L T) (hb : Below w1.heap.size w1 w2) : MsT w w2 L T := by
  obtain ⟨h1, hT, O, h2, h3, h5, h4⟩ := h
  exact ⟨below_step h1 hb, fun k hk => ⟨(hT k hk).1, Nat.lt_of_lt_of_le (hT k hk).2 hb.size⟩, O, h2, fun i k hk => ⟨(h3 i k hk).1, Nat.lt_of_lt_of_le (h3 i k hk).2 hb.size⟩, h5, fun i p hp => (h4 i p hp).go hb⟩
/-- A block more of one's own. -/
theorem MsT.alloc (h : MsT w w1 L T) (o : Obj) : MsT w (w1.alloc o) L (fun k => T k ∨ k = w1.heap.size) := by
  have hb := (Below.refl w1.heap.size w1).alloc (Nat.le_refl _) o
  have hs : (w1.alloc o).heap.size = w1.heap.size + 1 := by simp
  have h0 := h.go hb
  obtain ⟨h1, hT, O, h2, h3, h5, h4⟩ := h
  obtain ⟨g1, gT, -⟩ := h0
  refine ⟨g1, fun k hk => ?_, O, h2, fun i k hk => ⟨(h3 i k hk).1, by rw [hs]; have := (h3 i k hk).2; omega⟩, fun i k hk e => ?_, fun i p hp => (h4 i p hp).go hb⟩
  · rcases hk with hk | hk
    · exact gT k hk
    · subst hk; exact ⟨h1.size, by rw [hs]; omega⟩
  · rcases e with e | e
    · exact h5 i k hk e
    · have := (h3 i k hk).2; omega
/-- A write to blocks of one's own. -/
theorem MsT.write (h : MsT w w1 L T) (hf : Fp T w1 w2) : MsT w w2 L T := by
  obtain ⟨h1, hT, O, h2, h3, h5, h4⟩ := h
  exact ⟨⟨hf.os.trans h1.os, hf.tape.trans h1.tape, hf.output.trans h1.output, Nat.le_trans h1.size hf.size, fun k hk => (hf.block k (Nat.lt_of_lt_of_le hk h1.size) (fun e => by have := (hT k e).1; omega)).trans (h1.block k hk)⟩,
    fun k hk => ⟨(hT k hk).1, Nat.lt_of_lt_of_le (hT k hk).2 hf.size⟩, O, h2, fun i k hk => ⟨(h3 i k hk).1, Nat.lt_of_lt_of_le (h3 i k hk).2 hf.size⟩, h5, fun i p hp => (h4 i p hp).fp hf (h5 i)⟩
/-- A store is turned; the others stand, and so do the blocks of one's own. -/
theorem MsT.act (h : MsT w w1 L T) (i : Nat) {a : Nat} {S : St} (hi : L[i]? = some (a, S)) : ∃ O, Sto w1 a O S ∧ ∀ q e w2, Did w1 a O q e w2 → e = .returned (.int .i64 q.1) ∧ MsT w w2 (L.set i (a, q.2)) T ∧ ∀ g t cs, T g → Blk w1 g t cs → Blk w2 g t cs := by
  obtain ⟨h1, hT, O, h2, h3, h5, h4⟩ := h
  refine ⟨O i, h4 i _ hi, fun q e w2 ⟨d1, d2, d3⟩ => ⟨d1, ⟨?_, fun k hk => ⟨(hT k hk).1, Nat.lt_of_lt_of_le (hT k hk).2 d3.size⟩, fun j k => if j = i then Grow (O i) w1 w2 k else O j k, fun x j hij k hk => ?_, fun j k hk => ?_, fun j k hk => ?_, fun j p hp => ?_⟩, fun g t cs hg hb => hb.fp d3 (fun e => h5 i g e hg)⟩⟩
  · exact ⟨d3.os.trans h1.os, d3.tape.trans h1.tape, d3.output.trans h1.output, Nat.le_trans h1.size d3.size, fun k hk => (d3.block k (Nat.lt_of_lt_of_le hk h1.size) (fun e => by have := (h3 i k e).1; omega)).trans (h1.block k hk)⟩
  · dsimp only at hk ⊢
    split at hk
    · next e =>
      rw [if_neg (fun e2 => hij (e.trans e2.symm))]
      intro hj
      rcases hk with hk | hk
      · exact h2 i j (fun e2 => hij (e.trans e2)) k hk hj
      · have := (h3 j k hj).2; omega
    · split
      · rintro (hj | hj)
        · next e => exact h2 x i (by assumption) k hk hj
        · have := (h3 x k hk).2; omega
      · exact h2 x j hij k hk
  · dsimp only at hk
    split at hk
    · rcases hk with hk | hk
      · exact ⟨(h3 i k hk).1, Nat.lt_of_lt_of_le (h3 i k hk).2 d3.size⟩
      · exact ⟨Nat.le_trans h1.size hk.1, hk.2⟩
    · exact ⟨(h3 j k hk).1, Nat.lt_of_lt_of_le (h3 j k hk).2 d3.size⟩
  · dsimp only at hk
    intro ht
    split at hk
    · rcases hk with hk | hk
      · exact h5 i k hk ht
      · have := (hT k ht).2; omega
    · exact h5 j k hk ht
  · have hl : i < L.length := (List.getElem?_eq_some_iff.1 hi).1
    by_cases hj : j = i
    · subst hj
      rw [List.getElem?_set_self hl] at hp
      injection hp with hp
      subst hp
      simpa using d2
    · rw [List.getElem?_set_ne (fun e => hj e.symm)] at hp
      have e : (fun k => if j = i then Grow (O i) w1 w2 k else O j k) = O j := by
        funext k
        rw [if_neg hj]
      show Sto w2 p.1 (fun k => if j = i then Grow (O i) w1 w2 k else O j k) p.2
      rw [e]
      exact (h4 j p hp).fp d3 (fun k hk => h2 j i hj k hk)
end
/-- What there is: two stores, two rows of three. -/
structure SumW (w w1 : World) (p b g1 g2 : Nat) (S T : St) (X Y : Array Value) : Prop where
  ms : MsT w w1 [(p, S), (b, T)] (fun k => k = g1 ∨ k = g2)
  x : Blk w1 g1 56 X
  y : Blk w1 g2 56 Y
  ne : g1 ≠ g2
section
variable {w w1 w2 : World} {p b g1 g2 : Nat} {S T : St} {X Y : Array Value}
theorem SumW.go (h : SumW w w1 p b g1 g2 S T X Y) (hb : Below w1.heap.size w1 w2) : SumW w w2 p b g1 g2 S T X Y := ⟨h.ms.go hb, h.x.go hb, h.y.go hb, h.ne⟩
theorem SumW.act0 (h : SumW w w1 p b g1 g2 S T X Y) : ∃ O, Sto w1 p O S ∧ ∀ q e w2, Did w1 p O q e w2 → e = .returned (.int .i64 q.1) ∧ SumW w w2 p b g1 g2 q.2 T X Y := by
  obtain ⟨O, h1, h2⟩ := h.ms.act 0 rfl
  exact ⟨O, h1, fun q e w2 hd => ⟨(h2 q e w2 hd).1, (h2 q e w2 hd).2.1, (h2 q e w2 hd).2.2 _ _ _ (.inl rfl) h.x, (h2 q e w2 hd).2.2 _ _ _ (.inr rfl) h.y, h.ne⟩⟩
theorem SumW.act1 (h : SumW w w1 p b g1 g2 S T X Y) : ∃ O, Sto w1 b O T ∧ ∀ q e w2, Did w1 b O q e w2 → e = .returned (.int .i64 q.1) ∧ SumW w w2 p b g1 g2 S q.2 X Y := by
  obtain ⟨O, h1, h2⟩ := h.ms.act 1 rfl
  exact ⟨O, h1, fun q e w2 hd => ⟨(h2 q e w2 hd).1, (h2 q e w2 hd).2.1, (h2 q e w2 hd).2.2 _ _ _ (.inl rfl) h.x, (h2 q e w2 hd).2.2 _ _ _ (.inr rfl) h.y, h.ne⟩⟩
theorem SumW.setX (h : SumW w w1 p b g1 g2 S T X Y) (i : Nat) (v : Value) : SumW w (w1.setCell ⟨g1, i, none⟩ v) p b g1 g2 S T (X.setIfInBounds i v) Y :=
  ⟨h.ms.write ((Fp.refl _ _).set_ _ (fun _ => .inl rfl)), h.x.set_ i v, h.y.far (p := ⟨g1, i, none⟩) (fun e => h.ne e.symm) v, h.ne⟩
theorem SumW.setY (h : SumW w w1 p b g1 g2 S T X Y) (i : Nat) (v : Value) : SumW w (w1.setCell ⟨g2, i, none⟩ v) p b g1 g2 S T X (Y.setIfInBounds i v) :=
  ⟨h.ms.write ((Fp.refl _ _).set_ _ (fun _ => .inr rfl)), h.x.far (p := ⟨g2, i, none⟩) h.ne v, h.y.set_ i v, h.ne⟩
end
def SumR (l : List Int) (t : List Bool) (w : World) (p b g1 g2 : Nat) (v : Value) (wr : World) : Prop := ∃ i : Nat, v = .int .i64 (i : Int) ∧ i ≤ l.length ∧ SumW w wr p b g1 g2 (sumS ((pairs l t).take i)) (sumS []) (arrP ((pairs l t).take i)) (arrB ((pairs l t).take i))
def BackR (l : List Int) (t : List Bool) (w : World) (p b g1 g2 : Nat) (v : Value) (wr : World) : Prop := ∃ i : Nat, v = .int .i64 ((i : Int) - 1) ∧ i ≤ l.length ∧ SumW w wr p b g1 g2 (sumS (pairs l t)) (sumS ((pairs l t).drop i)) (arrP (pairs l t)) (arrB (pairs l t))
def EndR (w : World) (p b g1 g2 : Nat) (q : List (Int × Int)) (v : Value) (wr : World) : Prop := ∃ i : Nat, v = .int .i64 (i : Int) ∧ 1 ≤ i ∧ i ≤ 3 ∧ SumW w wr p b g1 g2 (sumS q) (sumS q) (arrP q) (arrB q)
theorem sum_start {w1 w3 : World} {p b : Nat} (h : Ms w1 w3 [(p, sumS []), (b, sumS [])]) : SumW w1 ((w3.alloc (.cells #[.int .u64 0, .int .u64 0, .int .u64 0] 56)).alloc (.cells #[.int .u64 0, .int .u64 0, .int .u64 0] 56)) p b w3.heap.size (w3.heap.size + 1) (sumS []) (sumS []) (arrP []) (arrB []) := by
  have h1 := ((MsT.of h).alloc (.cells #[.int .u64 0, .int .u64 0, .int .u64 0] 56)).alloc (.cells #[.int .u64 0, .int .u64 0, .int .u64 0] 56)
  have hs : (w3.alloc (.cells #[.int .u64 0, .int .u64 0, .int .u64 0] 56)).heap.size = w3.heap.size + 1 := by simp
  refine ⟨?_, (Blk.new w3 56 _).alloc _, ?_, by omega⟩
  · have e : (fun k => (False ∨ k = w3.heap.size) ∨ k = (w3.alloc (.cells #[.int .u64 0, .int .u64 0, .int .u64 0] 56)).heap.size) = fun k => k = w3.heap.size ∨ k = w3.heap.size + 1 := by
      funext k
      rw [hs]
      simp
    rw [e] at h1
    exact h1
  · have := Blk.new (w3.alloc (.cells #[.int .u64 0, .int .u64 0, .int .u64 0] 56)) 56 #[.int .u64 0, .int .u64 0, .int .u64 0]
    rw [hs] at this
    exact this
theorem sum_same1 {w w1 : World} {p b g1 g2 : Nat} {S : St} {X Y : Array Value} (h : SumW w w1 p b g1 g2 S S X Y) : Calls Try.prog 27 #[ptr p, ptr b] w1 fun e w' => e = .returned (.bool true) ∧ Below w1.heap.size w1 w' := by
  obtain ⟨O, hs⟩ := h.ms.read 0 rfl
  obtain ⟨O', hs'⟩ := h.ms.read 1 rfl
  have hg := same_any p b O O' S S w1 hs hs'
  rw [sameS_self] at hg
  exact hg
theorem sum_same2 {w w1 W1 W2 W3 : World} {p b g1 g2 a : Nat} {S T : St} {X Y : Array Value} (h : SumW w w1 p b g1 g2 S T X Y) (hW : Below w1.heap.size w1 W1) (hm : Mine W1 W2 a (madeS 1 1)) (hb : Below W2.heap.size W2 W3) : Calls Try.prog 27 #[ptr p, ptr a] W3 fun e w' => e = .returned (.bool (sameS S (sumS []))) ∧ Below W3.heap.size W3 w' := by
  obtain ⟨O, hs⟩ := ((h.go hW).go (hm.below)).ms.read 0 rfl
  rw [made_sum] at hm
  exact same_any p a O _ S (sumS []) W3 (hs.go hb) (hm.sto.go hb)
set_option maxHeartbeats 16000000 in
set_option maxRecDepth 100000 in
theorem sums_law (A : Option Addr) (cp : Nat) (l : List Int) (B : Option Addr) (cq : Nat) (t : List Bool) (w : World) (hA : Kd.C (Kd.int .i64) w A l.length l) (hl0 : ∀ x ∈ l, (Lit.int .i64 x).wf = true) (hB : Kd.C Kd.bool w B t.length t) :
    Calls Try.prog 6 #[.slice A l.length cp, .slice B t.length cq] w fun e w' => e = .returned (.bool true) ∧ Below w.heap.size w w' := by
  have HA := Lib.hid hA
  have HB := Lib.hid hB
  have HWF := Lib.hid hl0
  clear hA hB hl0
  by_cases hlen : 300 < l.length
  · have hl1 : (300 : Int) < (l.length : Int) := by omega
    go_enter Try.func6, Try.ntmps6
    go_wp2_with fail
    refine (awake_any _).mono ?_
    rintro e w1 ⟨rfl, hb1⟩
    go_wp2_with fail
    go_ret
    exact ⟨rfl, hb1⟩
  · have hl1 : ¬ (300 : Int) < (l.length : Int) := by omega
    have HLEN := Lib.hid (show l.length ≤ 300 by omega)
    clear hlen
    go_enter Try.func6, Try.ntmps6
    go_wp2_with fail
    refine (awake_any _).mono ?_
    rintro e w1 ⟨rfl, hb1⟩
    have HB1 := Lib.hid hb1
    clear hb1
    go_wp2_with fail
    refine (made_any 1 1 w1).mono ?_
    rintro e w2 ⟨p, rfl, hM⟩
    rw [made_sum] at hM
    have HM2 := Lib.hid (show Ms w1 w2 [(p, sumS [])] from (Ms.none w1).more hM.sto hM.below)
    clear hM
    go_wp2_with fail
    refine (made_any 1 1 w2).mono ?_
    rintro e w3 ⟨b, rfl, hM⟩
    rw [made_sum] at hM
    have HM3 := Lib.hid (show Ms w1 w3 [(p, sumS []), (b, sumS [])] from HM2.out.more hM.sto hM.below)
    clear hM HM2
    go_wp2_with fail
    have HM4 := Lib.hid (show SumW w1 ((w3.alloc (.cells #[.int .u64 0, .int .u64 0, .int .u64 0] 56)).alloc (.cells #[.int .u64 0, .int .u64 0, .int .u64 0] 56)) p b w3.heap.size (w3.heap.size + 1) (sumS []) (sumS []) (arrP []) (arrB []) from sum_start HM3.out)
    clear HM3
    have HBW := Lib.hid HM4.out.ms.below
    generalize (w3.alloc (.cells #[.int .u64 0, .int .u64 0, .int .u64 0] 56)).alloc (.cells #[.int .u64 0, .int .u64 0, .int .u64 0] 56) = w4 at *
    generalize w3.heap.size + 1 = g2 at *
    generalize w3.heap.size = g1 at *
    have HR0 := Lib.hid (show SumR l t w1 p b g1 g2 (.int .i64 0) w4 from ⟨0, rfl, Nat.zero_le _, HM4.out⟩)
    clear HM4
    go_loopw [9] (fun v wr => SumR l t w1 p b g1 g2 v wr) (fun v _ => l.length - (intOf v).toNat)
    case atStart => exact HR0.out
    case round =>
      clear HR0
      obtain ⟨i, rfl, hi, hM⟩ := hrel
      have HM := Lib.hid hM
      clear hM
      by_cases hlt : i < l.length
      · have k1 : (i : Int) < (l.length : Int) := by omega
        have k0 : (0 : Int) ≤ (i : Int) := by omega
        obtain ⟨g, o, rfl, c0⟩ := kd_at (.int .i64) rfl (fun _ _ _ h => h) (Kd.C_below HA.out (below_step HB1.out HM.out.ms.below)) i hlt
        have HN := Lib.hid (pairs_take l t i hlt)
        have hw := HWF.out _ (List.getElem_mem hlt)
        have HC := Lib.hid (fun W (hW : Below w.heap.size w W) => kd_at (.int .i64) rfl (fun _ _ _ h => h) (Kd.C_below HA.out hW) i hlt)
        generalize hn : l[i] = n at *
        clear hn
        by_cases ht : i < t.length
        · have k2 : (i : Int) < (t.length : Int) := by omega
          obtain ⟨g', o', rfl, d0⟩ := kd_at .bool rfl (fun _ _ _ h => h) (Kd.C_below HB.out (below_step HB1.out HM.out.ms.below)) i ht
          have htg : t.getD i false = t[i] := by rw [List.getD_eq_getElem?_getD, List.getElem?_eq_getElem ht]; rfl
          cases hti : t[i]
          · rw [hti] at d0 htg
            have HG := Lib.hid (show toId (t.getD i false) = 1 from by rw [htg]; rfl)
            have HNN := HN.out
            rw [HG.out] at HNN
            have HN2 := Lib.hid HNN
            clear HNN HN HG
            go_wp2_with fail
            obtain ⟨O, hs, hd⟩ := HM.out.act0
            have hg := cnt_any p O _ 1 n wr hs (by decide) hw
            rw [sum_cnt _ 1 n (by decide), ← sumS_swap] at hg
            refine hg.mono ?_
            intro e w5 h
            obtain ⟨rfl, hM⟩ := hd _ _ _ h
            have HM5 := Lib.hid hM
            clear hs hd hg h hM c0 HM
            obtain ⟨g3, o3, hgo, c0⟩ := HC.out w5 (below_step HB1.out HM5.out.ms.below)
            cases hgo
            by_cases hn : n < 0
            · have HP := Lib.hid (arrP_neg ((pairs l t).take i) 1 n hn)
              have HQ := Lib.hid (arrB_neg ((pairs l t).take i) 1 n hn)
              rw [show ((if n < 0 then (1 : Int) else 0, sumS ((pairs l t).take i ++ [(1, n)])) : Int × St).1 = 1 from if_pos hn]
              go_wp2_with fail
              go_roundw
              case rel => exact ⟨i + 1, by go_num, hlt, by rw [HN2.out, HP.out, HQ.out]; exact HM5.out⟩
              case measure => simp [intOf]; omega
            · have hn0 : 0 ≤ n := by omega
              rw [show ((if n < 0 then (1 : Int) else 0, sumS ((pairs l t).take i ++ [(1, n)])) : Int × St).1 = 0 from if_neg hn]
              have HP := Lib.hid (arrP_1 ((pairs l t).take i) n hn0)
              have HQ := Lib.hid (arrB_1 ((pairs l t).take i) n hn0)
              have x0 := HM5.out.x.cell 1
              have x1 := HM5.out.x.frozen 1
              have hx0 : (arrP ((pairs l t).take i))[1]? = some (.int .u64 (u64w (cP 1 ((pairs l t).take i)))) := rfl
              have hy0 : (arrB ((pairs l t).take i))[1]? = some (.int .u64 (u64w (cB 1 ((pairs l t).take i)))) := rfl
              rw [hx0] at x0
              have HM5X := Lib.hid (HM5.out.setX 1 (.int .u64 (u64w (u64w (cP 1 ((pairs l t).take i)) + 1))))
              have hs1 := u64_wrap (u64w (cP 1 ((pairs l t).take i)) + 1)
              have hs2 := u64_wrap (u64w (cB 1 ((pairs l t).take i)) + n)
              generalize u64w (cP 1 ((pairs l t).take i)) = x at *
              generalize u64w (cB 1 ((pairs l t).take i)) = y at *
              generalize u64w (x + 1) = x' at *
              generalize u64w (y + n) = y' at *
              have hnw : IntKind.u64.wrap n = n := by rw [u64_wrap]; unfold u64w; have := (i64_bd hw).2; omega
              clear hx0
              go_wp2_with fail
              have y0 := HM5X.out.y.cell 1
              have y1 := HM5X.out.y.frozen 1
              rw [hy0] at y0
              have hy0 := Lib.hid hy0
              obtain ⟨g4, o4, hgo, d0⟩ := HC.out _ (below_step HB1.out HM5X.out.ms.below)
              cases hgo
              clear c0 x0 x1 hs1 HM5
              generalize w5.setCell ⟨g1, 1, none⟩ (.int .u64 x') = w6 at *
              go_upto_region 16 with (fail)
              go_still_tail 10, (by kernel_rfl)
              change wpList _ _ _ _ _ w6.drew
              have HM6D := HM5X.out.go (below_drew1 (Below.refl _ _))
              have y1 := HM6D.y.frozen 1
              have HM6 := Lib.hid (HM6D.setY 1 (.int .u64 y'))
              replace y0 := HM6D.y.cell 1
              rw [hy0.out] at y0
              clear HM5X d0 HM6D hy0
              generalize w6.drew = w7 at *
              go_wp2_with fail
              go_roundw
              case rel => exact ⟨i + 1, by go_num, hlt, by rw [HN2.out, HP.out, HQ.out]; exact HM6.out⟩
              case measure => simp [intOf]; omega
          · rw [hti] at d0 htg
            have HG := Lib.hid (show toId (t.getD i false) = 2 from by rw [htg]; rfl)
            have HNN := HN.out
            rw [HG.out] at HNN
            have HN2 := Lib.hid HNN
            clear HNN HN HG
            go_wp2_with fail
            obtain ⟨O, hs, hd⟩ := HM.out.act0
            have hg := cnt_any p O _ 2 n wr hs (by decide) hw
            rw [sum_cnt _ 2 n (by decide), ← sumS_swap] at hg
            refine hg.mono ?_
            intro e w5 h
            obtain ⟨rfl, hM⟩ := hd _ _ _ h
            have HM5 := Lib.hid hM
            clear hs hd hg h hM c0 HM
            obtain ⟨g3, o3, hgo, c0⟩ := HC.out w5 (below_step HB1.out HM5.out.ms.below)
            cases hgo
            by_cases hn : n < 0
            · have HP := Lib.hid (arrP_neg ((pairs l t).take i) 2 n hn)
              have HQ := Lib.hid (arrB_neg ((pairs l t).take i) 2 n hn)
              rw [show ((if n < 0 then (1 : Int) else 0, sumS ((pairs l t).take i ++ [(2, n)])) : Int × St).1 = 1 from if_pos hn]
              go_wp2_with fail
              go_roundw
              case rel => exact ⟨i + 1, by go_num, hlt, by rw [HN2.out, HP.out, HQ.out]; exact HM5.out⟩
              case measure => simp [intOf]; omega
            · have hn0 : 0 ≤ n := by omega
              rw [show ((if n < 0 then (1 : Int) else 0, sumS ((pairs l t).take i ++ [(2, n)])) : Int × St).1 = 0 from if_neg hn]
              have HP := Lib.hid (arrP_2 ((pairs l t).take i) n hn0)
              have HQ := Lib.hid (arrB_2 ((pairs l t).take i) n hn0)
              have x0 := HM5.out.x.cell 2
              have x1 := HM5.out.x.frozen 2
              have hx0 : (arrP ((pairs l t).take i))[2]? = some (.int .u64 (u64w (cP 2 ((pairs l t).take i)))) := rfl
              have hy0 : (arrB ((pairs l t).take i))[2]? = some (.int .u64 (u64w (cB 2 ((pairs l t).take i)))) := rfl
              rw [hx0] at x0
              have HM5X := Lib.hid (HM5.out.setX 2 (.int .u64 (u64w (u64w (cP 2 ((pairs l t).take i)) + 1))))
              have hs1 := u64_wrap (u64w (cP 2 ((pairs l t).take i)) + 1)
              have hs2 := u64_wrap (u64w (cB 2 ((pairs l t).take i)) + n)
              generalize u64w (cP 2 ((pairs l t).take i)) = x at *
              generalize u64w (cB 2 ((pairs l t).take i)) = y at *
              generalize u64w (x + 1) = x' at *
              generalize u64w (y + n) = y' at *
              have hnw : IntKind.u64.wrap n = n := by rw [u64_wrap]; unfold u64w; have := (i64_bd hw).2; omega
              clear hx0
              go_wp2_with fail
              have y0 := HM5X.out.y.cell 2
              have y1 := HM5X.out.y.frozen 2
              rw [hy0] at y0
              have hy0 := Lib.hid hy0
              obtain ⟨g4, o4, hgo, d0⟩ := HC.out _ (below_step HB1.out HM5X.out.ms.below)
              cases hgo
              clear c0 x0 x1 hs1 HM5
              generalize w5.setCell ⟨g1, 2, none⟩ (.int .u64 x') = w6 at *
              go_upto_region 16 with (fail)
              go_still_tail 10, (by kernel_rfl)
              change wpList _ _ _ _ _ w6.drew
              have HM6D := HM5X.out.go (below_drew1 (Below.refl _ _))
              have y1 := HM6D.y.frozen 2
              have HM6 := Lib.hid (HM6D.setY 2 (.int .u64 y'))
              replace y0 := HM6D.y.cell 2
              rw [hy0.out] at y0
              clear HM5X d0 HM6D hy0
              generalize w6.drew = w7 at *
              go_wp2_with fail
              go_roundw
              case rel => exact ⟨i + 1, by go_num, hlt, by rw [HN2.out, HP.out, HQ.out]; exact HM6.out⟩
              case measure => simp [intOf]; omega
        · have k2 : ¬ (i : Int) < (t.length : Int) := by omega
          have HG := Lib.hid (show toId (t.getD i false) = 1 from by rw [List.getD_eq_getElem?_getD, List.getElem?_eq_none (by omega)]; rfl)
          have HNN := HN.out
          rw [HG.out] at HNN
          have HN2 := Lib.hid HNN
          clear HNN HN HG
          go_wp2_with fail
          obtain ⟨O, hs, hd⟩ := HM.out.act0
          have hg := cnt_any p O _ 1 n wr hs (by decide) hw
          rw [sum_cnt _ 1 n (by decide), ← sumS_swap] at hg
          refine hg.mono ?_
          intro e w5 h
          obtain ⟨rfl, hM⟩ := hd _ _ _ h
          have HM5 := Lib.hid hM
          clear hs hd hg h hM c0 HM
          obtain ⟨g3, o3, hgo, c0⟩ := HC.out w5 (below_step HB1.out HM5.out.ms.below)
          cases hgo
          by_cases hn : n < 0
          · have HP := Lib.hid (arrP_neg ((pairs l t).take i) 1 n hn)
            have HQ := Lib.hid (arrB_neg ((pairs l t).take i) 1 n hn)
            rw [show ((if n < 0 then (1 : Int) else 0, sumS ((pairs l t).take i ++ [(1, n)])) : Int × St).1 = 1 from if_pos hn]
            go_wp2_with fail
            go_roundw
            case rel => exact ⟨i + 1, by go_num, hlt, by rw [HN2.out, HP.out, HQ.out]; exact HM5.out⟩
            case measure => simp [intOf]; omega
          · have hn0 : 0 ≤ n := by omega
            rw [show ((if n < 0 then (1 : Int) else 0, sumS ((pairs l t).take i ++ [(1, n)])) : Int × St).1 = 0 from if_neg hn]
            have HP := Lib.hid (arrP_1 ((pairs l t).take i) n hn0)
            have HQ := Lib.hid (arrB_1 ((pairs l t).take i) n hn0)
            have x0 := HM5.out.x.cell 1
            have x1 := HM5.out.x.frozen 1
            have hx0 : (arrP ((pairs l t).take i))[1]? = some (.int .u64 (u64w (cP 1 ((pairs l t).take i)))) := rfl
            have hy0 : (arrB ((pairs l t).take i))[1]? = some (.int .u64 (u64w (cB 1 ((pairs l t).take i)))) := rfl
            rw [hx0] at x0
            have HM5X := Lib.hid (HM5.out.setX 1 (.int .u64 (u64w (u64w (cP 1 ((pairs l t).take i)) + 1))))
            have hs1 := u64_wrap (u64w (cP 1 ((pairs l t).take i)) + 1)
            have hs2 := u64_wrap (u64w (cB 1 ((pairs l t).take i)) + n)
            generalize u64w (cP 1 ((pairs l t).take i)) = x at *
            generalize u64w (cB 1 ((pairs l t).take i)) = y at *
            generalize u64w (x + 1) = x' at *
            generalize u64w (y + n) = y' at *
            have hnw : IntKind.u64.wrap n = n := by rw [u64_wrap]; unfold u64w; have := (i64_bd hw).2; omega
            clear hx0
            go_wp2_with fail
            have y0 := HM5X.out.y.cell 1
            have y1 := HM5X.out.y.frozen 1
            rw [hy0] at y0
            have hy0 := Lib.hid hy0
            obtain ⟨g4, o4, hgo, d0⟩ := HC.out _ (below_step HB1.out HM5X.out.ms.below)
            cases hgo
            clear c0 x0 x1 hs1 HM5
            generalize w5.setCell ⟨g1, 1, none⟩ (.int .u64 x') = w6 at *
            go_upto_region 16 with (fail)
            go_still_tail 10, (by kernel_rfl)
            change wpList _ _ _ _ _ w6.drew
            have HM6D := HM5X.out.go (below_drew1 (Below.refl _ _))
            have y1 := HM6D.y.frozen 1
            have HM6 := Lib.hid (HM6D.setY 1 (.int .u64 y'))
            replace y0 := HM6D.y.cell 1
            rw [hy0.out] at y0
            clear HM5X d0 HM6D hy0
            generalize w6.drew = w7 at *
            go_wp2_with fail
            go_roundw
            case rel => exact ⟨i + 1, by go_num, hlt, by rw [HN2.out, HP.out, HQ.out]; exact HM6.out⟩
            case measure => simp [intOf]; omega
      · obtain rfl : i = l.length := by omega
        have k1 : ¬ (l.length : Int) < (l.length : Int) := by omega
        rw [List.take_of_length_le (Nat.le_of_eq (pairs_len l t))] at HM
        obtain ⟨w5, hw5⟩ : ∃ w5, wr = w5 := ⟨_, rfl⟩
        rw [hw5] at HM ⊢
        clear hw5 hi
        have HR1 := Lib.hid (show BackR l t w1 p b g1 g2 (.int .i64 ((l.length : Int) - 1)) w5 from ⟨l.length, rfl, Nat.le_refl _, by rw [List.drop_of_length_le (Nat.le_of_eq (pairs_len l t))]; exact HM.out⟩)
        clear HM
        have hsub : IntKind.i64.wrap ((l.length : Int) - 1) = (l.length : Int) - 1 := by have := HLEN.out; simp [IntKind.wrap, IntKind.signed, IntKind.bits]; omega
        go_wp2_with fail
        go_loopw [12] (fun v wr => BackR l t w1 p b g1 g2 v wr) (fun v _ => (intOf v + 1).toNat)
        case atStart => exact HR1.out
        case round =>
          clear HR1 hsub
          obtain ⟨i, rfl, hi, hM⟩ := hrel
          have HM := Lib.hid hM
          clear hM
          by_cases hlt : 0 < i
          · obtain ⟨k, rfl⟩ : ∃ k, i = k + 1 := ⟨i - 1, by omega⟩
            rw [show ((k + 1 : Nat) : Int) - 1 = (k : Int) by omega]
            have hlt2 : k < l.length := by omega
            clear hlt
            have k1 : (k : Int) < (l.length : Int) := by omega
            have k0 : (0 : Int) ≤ (k : Int) := by omega
            obtain ⟨g, o, rfl, c0⟩ := kd_at (.int .i64) rfl (fun _ _ _ h => h) (Kd.C_below HA.out (below_step HB1.out HM.out.ms.below)) k hlt2
            have HN := Lib.hid (pairs_drop l t k hlt2)
            have hw := HWF.out _ (List.getElem_mem hlt2)
            generalize hn : l[k] = n at *
            clear hn
            have hsub : IntKind.i64.wrap ((k : Int) - 1) = (k : Int) - 1 := by have := HLEN.out; simp [IntKind.wrap, IntKind.signed, IntKind.bits]; omega
            by_cases ht : k < t.length
            · have k2 : (k : Int) < (t.length : Int) := by omega
              obtain ⟨g', o', rfl, d0⟩ := kd_at .bool rfl (fun _ _ _ h => h) (Kd.C_below HB.out (below_step HB1.out HM.out.ms.below)) k ht
              have htg : t.getD k false = t[k] := by rw [List.getD_eq_getElem?_getD, List.getElem?_eq_getElem ht]; rfl
              cases hti : t[k]
              · rw [hti] at d0 htg
                have HG := Lib.hid (show toId (t.getD k false) = 1 from by rw [htg]; rfl)
                have HNN := HN.out
                rw [HG.out] at HNN
                have HN2 := Lib.hid HNN
                clear HNN HN HG
                go_wp2_with fail
                obtain ⟨O, hs, hd⟩ := HM.out.act1
                have hg := cnt_any b O _ 1 n wr hs (by decide) hw
                rw [sum_cnt _ 1 n (by decide)] at hg
                refine hg.mono ?_
                intro e w5 h
                obtain ⟨rfl, hM⟩ := hd _ _ _ h
                have HM5 := Lib.hid hM
                clear hs hd hg h hM c0 HM
                go_wp2_with fail
                go_roundw
                case rel => exact ⟨k, by go_num, by omega, by rw [HN2.out]; exact HM5.out⟩
                case measure => simp [intOf]
              · rw [hti] at d0 htg
                have HG := Lib.hid (show toId (t.getD k false) = 2 from by rw [htg]; rfl)
                have HNN := HN.out
                rw [HG.out] at HNN
                have HN2 := Lib.hid HNN
                clear HNN HN HG
                go_wp2_with fail
                obtain ⟨O, hs, hd⟩ := HM.out.act1
                have hg := cnt_any b O _ 2 n wr hs (by decide) hw
                rw [sum_cnt _ 2 n (by decide)] at hg
                refine hg.mono ?_
                intro e w5 h
                obtain ⟨rfl, hM⟩ := hd _ _ _ h
                have HM5 := Lib.hid hM
                clear hs hd hg h hM c0 HM
                go_wp2_with fail
                go_roundw
                case rel => exact ⟨k, by go_num, by omega, by rw [HN2.out]; exact HM5.out⟩
                case measure => simp [intOf]
            · have k2 : ¬ (k : Int) < (t.length : Int) := by omega
              have HG := Lib.hid (show toId (t.getD k false) = 1 from by rw [List.getD_eq_getElem?_getD, List.getElem?_eq_none (by omega)]; rfl)
              have HNN := HN.out
              rw [HG.out] at HNN
              have HN2 := Lib.hid HNN
              clear HNN HN HG
              go_wp2_with fail
              obtain ⟨O, hs, hd⟩ := HM.out.act1
              have hg := cnt_any b O _ 1 n wr hs (by decide) hw
              rw [sum_cnt _ 1 n (by decide)] at hg
              refine hg.mono ?_
              intro e w5 h
              obtain ⟨rfl, hM⟩ := hd _ _ _ h
              have HM5 := Lib.hid hM
              clear hs hd hg h hM c0 HM
              go_wp2_with fail
              go_roundw
              case rel => exact ⟨k, by go_num, by omega, by rw [HN2.out]; exact HM5.out⟩
              case measure => simp [intOf]
          · obtain rfl : i = 0 := by omega
            rw [show ((0 : Nat) : Int) - 1 = -1 from rfl]
            rw [List.drop_zero] at HM
            obtain ⟨w6, hw6⟩ : ∃ w6, wr = w6 := ⟨_, rfl⟩
            rw [hw6] at HM ⊢
            clear hw6 hi hlt
            have HEND := Lib.hid (sum_end (pairs l t) (by rw [pairs_len]; exact HLEN.out))
            obtain ⟨q, hq⟩ : ∃ q, pairs l t = q := ⟨_, rfl⟩
            rw [hq] at HM HEND
            clear hq
            have HR2 := Lib.hid (show EndR w1 p b g1 g2 q (.int .i64 1) w6 from ⟨1, rfl, by omega, by omega, HM.out⟩)
            clear HM
            go_wp2_with fail
            go_loopw [14] (fun v wr => EndR w1 p b g1 g2 q v wr) (fun v _ => 3 - (intOf v).toNat)
            case atStart => exact HR2.out
            case round =>
              clear HR2
              obtain ⟨i, rfl, hi1, hi3, hM⟩ := hrel
              have HM := Lib.hid hM
              clear hM
              have hc : i = 1 ∨ i = 2 ∨ i = 3 := by omega
              clear hi1 hi3
              rcases hc with rfl | rfl | rfl
              · skip
                go_wp2_with fail
                obtain ⟨O, hs⟩ := HM.out.ms.read 0 rfl
                have hg := getC_any p O _ 1 wr hs (by decide)
                rw [sum_get q 1 (by decide)] at hg
                refine hg.mono ?_
                rintro e w7 ⟨rfl, hb⟩
                have HM7 := Lib.hid (HM.out.go hb)
                clear hs hg hb HM
                have x0 := HM7.out.x.cell 1
                have y0 := HM7.out.y.cell 1
                rw [show (arrP q)[1]? = some (.int .u64 (u64w (cP 1 q))) from rfl] at x0
                rw [show (arrB q)[1]? = some (.int .u64 (u64w (cB 1 q))) from rfl] at y0
                generalize u64w (cP 1 q) = x at *
                generalize u64w (cB 1 q) = y at *
                go_wp2_with fail
                go_roundw
                case rel => exact ⟨1 + 1, by go_num, by omega, by omega, HM7.out⟩
                case measure => simp [intOf]
              · skip
                go_wp2_with fail
                obtain ⟨O, hs⟩ := HM.out.ms.read 0 rfl
                have hg := getC_any p O _ 2 wr hs (by decide)
                rw [sum_get q 2 (by decide)] at hg
                refine hg.mono ?_
                rintro e w7 ⟨rfl, hb⟩
                have HM7 := Lib.hid (HM.out.go hb)
                clear hs hg hb HM
                have x0 := HM7.out.x.cell 2
                have y0 := HM7.out.y.cell 2
                rw [show (arrP q)[2]? = some (.int .u64 (u64w (cP 2 q))) from rfl] at x0
                rw [show (arrB q)[2]? = some (.int .u64 (u64w (cB 2 q))) from rfl] at y0
                generalize u64w (cP 2 q) = x at *
                generalize u64w (cB 2 q) = y at *
                go_wp2_with fail
                go_roundw
                case rel => exact ⟨2 + 1, by go_num, by omega, by omega, HM7.out⟩
                case measure => simp [intOf]
              · skip
                obtain ⟨w7, hw7⟩ : ∃ w7, wr = w7 := ⟨_, rfl⟩
                rw [hw7] at HM ⊢
                clear hw7
                have x1 := HM.out.x.cell 1
                have x2 := HM.out.x.cell 2
                rw [show (arrP q)[1]? = some (.int .u64 (u64w (cP 1 q))) from rfl] at x1
                rw [show (arrP q)[2]? = some (.int .u64 (u64w (cP 2 q))) from rfl] at x2
                have hs := u64_wrap (u64w (cP 1 q) + u64w (cP 2 q))
                have H1 := Lib.hid (fun W (hW : Below w7.heap.size w7 W) => sum_same1 (HM.out.go hW))
                have H2 := Lib.hid (fun W1 W2 W3 a (hW : Below w7.heap.size w7 W1) (hm : Mine W1 W2 a (madeS 1 1)) (hb : Below W2.heap.size W2 W3) => sum_same2 HM.out hW hm hb)
                rw [HEND.out] at H2
                have HX := Lib.hid (fun W (hW : Below w7.heap.size w7 W) => (show W.cell? ⟨g1, 1, none⟩ = some (.int .u64 (u64w (cP 1 q))) ∧ W.cell? ⟨g1, 2, none⟩ = some (.int .u64 (u64w (cP 2 q))) from ⟨(HM.out.x.go hW).cell 1, (HM.out.x.go hW).cell 2⟩))
                have HB7 := Lib.hid (below_step HB1.out HM.out.ms.below)
                have HB70 := Lib.hid (Below.refl w7.heap.size w7)
                clear HM HEND
                generalize u64w (cP 1 q) = x at *
                generalize u64w (cP 2 q) = y at *
                generalize u64w (x + y) = z at *
                have hzz : ∃ c, (z == 0) = c := ⟨_, rfl⟩
                obtain ⟨c, hc⟩ := hzz
                rw [hc] at H2
                cases c
                · skip
                  go_upto_region 30 with (fail)
                  go_region_held3 (fun W => W.cell? ⟨g1, 1, none⟩ = some (.int .u64 x) ∧ W.cell? ⟨g1, 2, none⟩ = some (.int .u64 y)) (go_keep) (first
                    | ((go_simp; go_at_call 27; (with_reducible refine (H1.out _ (by first | exact HB70.out | exact below_drew1 HB70.out)).mono ?_); rintro e w8 ⟨rfl, b8⟩; have HB8 := (by first | exact Lib.hid (below_step HB70.out b8) | exact Lib.hid (below_step (below_drew1 HB70.out) b8) : Hid (Below w7.heap.size w7 w8)); obtain ⟨x1, x2⟩ := HX.out _ HB8.out; clear b8))
                    | ((go_at_call 12; (with_reducible refine (made_any 1 1 _).mono ?_); rintro e w9 ⟨a, rfl, m9⟩; have HM9 := Lib.hid m9; have HB9 := (by first | exact Lib.hid (below_step HB8.out m9.below) | exact Lib.hid (below_step (below_drew1 HB8.out) m9.below) : Hid (Below w7.heap.size w7 w9)); obtain ⟨x1, x2⟩ := HX.out _ HB9.out; clear m9))
                    | ((go_at_call 27; (with_reducible refine (H2.out _ _ _ _ (by first | exact HB8.out | exact below_drew1 HB8.out) HM9.out (by first | exact Below.refl _ _ | exact below_drew1 (Below.refl _ _))).mono ?_); rintro e w10 ⟨rfl, b10⟩; have HB10 := (by first | exact Lib.hid (below_step HB9.out b10) | exact Lib.hid (below_step (below_drew1 HB9.out) b10) : Hid (Below w7.heap.size w7 w10)); obtain ⟨x1, x2⟩ := HX.out _ HB10.out; clear b10)))
                  go_wp2_with fail
                  go_ret
                  exact ⟨rfl, below_step HB7.out HB10.out⟩
                · skip
                  go_upto_region 30 with (fail)
                  go_region_held3 (fun W => W.cell? ⟨g1, 1, none⟩ = some (.int .u64 x) ∧ W.cell? ⟨g1, 2, none⟩ = some (.int .u64 y)) (go_keep) (first
                    | ((go_simp; go_at_call 27; (with_reducible refine (H1.out _ (by first | exact HB70.out | exact below_drew1 HB70.out)).mono ?_); rintro e w8 ⟨rfl, b8⟩; have HB8 := (by first | exact Lib.hid (below_step HB70.out b8) | exact Lib.hid (below_step (below_drew1 HB70.out) b8) : Hid (Below w7.heap.size w7 w8)); obtain ⟨x1, x2⟩ := HX.out _ HB8.out; clear b8))
                    | ((go_at_call 12; (with_reducible refine (made_any 1 1 _).mono ?_); rintro e w9 ⟨a, rfl, m9⟩; have HM9 := Lib.hid m9; have HB9 := (by first | exact Lib.hid (below_step HB8.out m9.below) | exact Lib.hid (below_step (below_drew1 HB8.out) m9.below) : Hid (Below w7.heap.size w7 w9)); obtain ⟨x1, x2⟩ := HX.out _ HB9.out; clear m9))
                    | ((go_at_call 27; (with_reducible refine (H2.out _ _ _ _ (by first | exact HB8.out | exact below_drew1 HB8.out) HM9.out (by first | exact Below.refl _ _ | exact below_drew1 (Below.refl _ _))).mono ?_); rintro e w10 ⟨rfl, b10⟩; have HB10 := (by first | exact Lib.hid (below_step HB9.out b10) | exact Lib.hid (below_step (below_drew1 HB9.out) b10) : Hid (Below w7.heap.size w7 w10)); obtain ⟨x1, x2⟩ := HX.out _ HB10.out; clear b10)))
                  go_wp2_with fail
                  go_ret
                  exact ⟨rfl, below_step HB7.out HB10.out⟩
end Go.Proofs.Ytdobpieiobikpaa.Base
namespace Go.Proofs.Ytdobpieiobikpaa.Arg
open Go Go.RowKit Go.ChangeShapes Go.WideShapes Go.Joins Go.Proofs.YtdobpieiobikpaaW.PrintWords
section
variable {H : Type} {enc : TypeId × Value → H} {w : World} {base : Nat} {spare : Nat → Bool} {held : Bool}
theorem int_rows {A : Option Addr} {len cap : Nat} {d : DataW H} {ps : List MemPlace} (h : DataW.Trod enc Try.prog w base spare held 54 (.slice A len cap) d ps) (hw : ∀ m ∈ d.weights Try.prog 54, m ≤ reachBytes) :
    ∃ l : List Int, l.length = len ∧ len ≤ cap ∧ len * 8 ≤ 140737488351232 ∧ (∀ x ∈ l, (Lit.int .i64 x).wf = true) ∧ (Kd.int .i64).C w A l.length l := by
  obtain ⟨xs, h1, h2, _, h4, h5, h6⟩ := open_list (α := Int) (sz := 1) (fun x cs => cs = [.int .i64 x]) (fun x => (Lit.int .i64 x).wf = true) (fun n cs y hy hq => by
    obtain ⟨a0, e0, _, g0⟩ := DataW.trod_int Try.underlying3 hy
    subst e0
    exact ⟨a0, rfl, rfl, g0⟩) Try.underlying54 (by kernel_rfl) h hw
  exact ⟨xs, h1, h2, by rwa [show Try.prog.bytesOf 3 = 8 from by kernel_rfl] at h4, h5, by rw [h1]; exact h6⟩
theorem bool_rows {A : Option Addr} {len cap : Nat} {d : DataW H} {ps : List MemPlace} (h : DataW.Trod enc Try.prog w base spare held 55 (.slice A len cap) d ps) (hw : ∀ m ∈ d.weights Try.prog 55, m ≤ reachBytes) :
    ∃ l : List Bool, l.length = len ∧ len ≤ cap ∧ len * 1 ≤ 140737488351232 ∧ (∀ x ∈ l, True) ∧ Kd.bool.C w A l.length l := by
  obtain ⟨xs, h1, h2, _, h4, h5, h6⟩ := open_list (α := Bool) (sz := 1) (fun x cs => cs = [.bool x]) (fun _ => True) (fun n cs y hy hq => by
    obtain ⟨a0, e0, _⟩ := DataW.trod_bool Try.underlying4 hy
    subst e0
    exact ⟨a0, rfl, rfl, trivial⟩) Try.underlying55 (by kernel_rfl) h hw
  exact ⟨xs, h1, h2, by rwa [show Try.prog.bytesOf 4 = 1 from by kernel_rfl] at h4, h5, by rw [h1]; exact h6⟩
end
end Go.Proofs.Ytdobpieiobikpaa.Arg
namespace Go.Proofs.Ytdobpieiobikpaa.Sums
open Go Go.RowKit Go.Proofs.Ytdobpieiobikpaa.Mem Go.Proofs.YtdobpieiobikpaaW.PrintWords
theorem core (A : Option Addr) (c : Nat) (l : List Int) (B : Option Addr) (d : Nat) (m : List Bool) (w : World) (_ : l.length ≤ c) (_ : l.length * 8 ≤ 140737488351232) (hl : ∀ x ∈ l, (Lit.int .i64 x).wf = true) (hA : (Kd.int .i64).C w A l.length l) (_ : m.length ≤ d) (_ : m.length * 1 ≤ 140737488351232) (_ : ∀ x ∈ m, True) (hB : Kd.bool.C w B m.length m) :
    Calls Try.prog 6 #[.slice A l.length c, .slice B m.length d] w fun e w' => e = .returned (.bool true) ∧ Below w.heap.size w w' := Base.sums_law A c l B d m w hA hl hB
end Go.Proofs.Ytdobpieiobikpaa.Sums
