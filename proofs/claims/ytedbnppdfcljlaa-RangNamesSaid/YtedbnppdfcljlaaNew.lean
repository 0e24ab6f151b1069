/- What Len, All, Copy and New do. Conditions: as each contract says. -/
import Derived.Test.YtedbnppdfcljlaaFind
import Derived.Laws.AppendOwnNone
set_option linter.unusedVariables false
set_option linter.unusedSimpArgs false
namespace Go.Proofs.Ytedbnppdfcljlaa.Base
open Go Go.RowKit Go.Proofs.Ytedbnppdfcljlaa.Mem Go.Proofs.YtedbnppdfcljlaaW.PrintWords
open Go.Proofs.Ytedbnppdfcljlaa.PRangMore (S42 S51 z42 z51 k42 k51 k42_open k51_open eqA42)
theorem len_any (g : Nat) (ev v : Value) (ends : List Nat) (l : List S42) (w : World) (h : SetAt w g ev v ends l) :
    Calls Try.prog 11 #[ptr g] w fun e w' => e = .returned (.int .i64 (l.length : Int)) ∧ w = w' := by
  obtain ⟨A, c, rfl, _⟩ := own_form h.rows
  have e1 := h.blk.cell 1
  clear h
  go_enter Try.func11, Try.ntmps11
  go_wp2_with fail
  go_ret
  exact ⟨rfl, rfl⟩
theorem put_any (g : Nat) (ev v : Value) (ends : List Nat) (l : List S42) (low high : ByteArray) (prio x : Int) (w : World) (h : SetAt w g ev v ends l) (hE : EndsOk ends) (hl : l.length < 900000) :
    Calls Try.prog 10 #[ptr g, .string low, .string high, .int .i64 prio, .int .i64 x] w fun e w' => ∃ v', e = .returned (.int .i64 (if putOK ends low high then 0 else 3)) ∧ SetAt w' g ev v' ends (put ends low high prio x l) ∧ Vok w v v' ∧ Fp (Own g v) w w' := by
  unfold put
  cases hb : putOK ends low high
  · refine (put_bad g ev v ends l low high prio x w h hE hb).mono ?_
    rintro e w' ⟨rfl, n, rfl⟩
    exact ⟨v, rfl, h.drewN n, .inl rfl, (Fp.refl _ w).drewN n⟩
  · exact put_good g ev v ends l low high prio x w h hE hb hl
theorem put_len (ends : List Nat) (low high : ByteArray) (prio x : Int) (l : List S42) : (put ends low high prio x l).length ≤ l.length + 1 := by
  unfold put
  have := del_len low high prio l
  split
  · simp; exact this
  · omega
theorem del_sized {ends : List Nat} {l : List S42} (low high : ByteArray) (prio : Int) (h : Sized ends l) : Sized ends (del low high prio l) := fun x hx => h x (List.mem_filter.1 hx).1
theorem put_sized {ends : List Nat} {l : List S42} (low high : ByteArray) (prio v : Int) (h : Sized ends l) : Sized ends (put ends low high prio v l) := by
  unfold put
  cases hb : putOK ends low high
  · exact h
  · intro x hx
    rw [if_pos rfl, List.mem_append] at hx
    rcases hx with hx | hx
    · exact del_sized low high prio h x hx
    · simp at hx
      subst hx
      unfold putOK at hb
      simp only [Bool.and_eq_true, beq_iff_eq] at hb
      exact ⟨hb.1, hb.2.1⟩
theorem cs42_one (l : List S42) : ∀ u ∈ cs42 l, u.oneCell' = true := by
  intro u hu
  simp only [cs42, List.mem_flatMap] at hu
  obtain ⟨x, _, hx⟩ := hu
  simp only [c42, List.mem_cons, List.not_mem_nil, or_false] at hx
  rcases hx with rfl | rfl | rfl | rfl <;> rfl
theorem clone_any (v : Value) (l : List S42) (w : World) (h : w.ownsRow 0 42 4 v l.length (cs42 l)) (hl : l.length < 1000000) :
    Calls Try.prog 29 #[v] w fun e w' => ∃ v', e = .returned v' ∧ w'.ownsRow w.heap.size 42 4 v' l.length (cs42 l) ∧ Below w.heap.size w w' := by
  obtain ⟨i0, hi0, hz0, hz1, hz2⟩ := info_parts info42
  rcases h.2 with ⟨rfl, h0⟩ | ⟨g, cap, cur, rfl, hb, hg, hnc, hcm, hcs, htake⟩
  · have : l = [] := List.length_eq_zero_iff.1 h0
    subst this
    clear h
    have q : ∀ (w : World), (binOp .eql 38 (.slice none 0 0) (.slice none 0 0)).run Try.prog w = .ok (.bool true) w := fun w => Lib.run_eql_slice_nil w _ _ _ _ _ _ _ Try.underlying38
    go_enter Try.func29, Try.ntmps29
    go_wp2_with fail
    go_ret
    exact ⟨_, rfl, World.ownsRow_nil _ _ _ _, Below.refl _ _⟩
  · have hcell : ∀ j u, (cs42 l)[j]? = some u → (w.alloc (.cells #[] 42)).cell? ((⟨g, 0, none⟩ : Addr).add j) = some u := (h.alloc _).cells rfl
    have H := Lib.hid h
    have HC := Lib.hid hcell
    have q : ∀ (w : World), (binOp .eql 38 (.slice (some ⟨g, 0, none⟩) l.length cap) (.slice none 0 0)).run Try.prog w = .ok (.bool false) w := fun w => Lib.run_eql_slice_nil w _ _ _ _ _ _ _ Try.underlying38
    clear hg htake hcs hcm hb h hcell
    go_enter Try.func29, Try.ntmps29
    go_wp2_with (at_builtin; go_must (refine wpList_append_own _ rfl _ _ 38 rfl w.heap.size 42 i0 _ 4 48 Try.underlying38 hi0 hz0 hz1 hz2 rfl (by omega) _ _ _ rfl (World.ownsRow_made w #[] 0 (Nat.le_refl _) (Nat.zero_le _) (by simp)) ⟨g, 0, none⟩ l.length cap (cs42 l) rfl (cs42_len l) HC.out (cs42_one l) (by simp [maxLen]; omega) (by omega) (by simp) ?_; intro v2 w2 hown2 hgrow2 hn2))
    go_ret
    have hown3 := hown2
    rw [Nat.zero_add, List.nil_append] at hown3
    refine ⟨_, rfl, hown3, ((Below.refl _ w).alloc (Nat.le_refl _) _).grown hgrow2 (by simp) (fun k e => Nat.le_of_eq (Option.some.inj e))⟩
theorem all_any (g : Nat) (ev v : Value) (ends : List Nat) (l : List S42) (w : World) (h : SetAt w g ev v ends l) (hl : l.length < 1000000) :
    Calls Try.prog 17 #[ptr g] w fun e w' => ∃ v', e = .returned v' ∧ w'.ownsRow w.heap.size 42 4 v' l.length (cs42 l) ∧ Below w.heap.size w w' := by
  have e1 := h.blk.cell 1
  have hC := Lib.hid (clone_any v l w h.rows hl)
  obtain ⟨A, c, rfl, _⟩ := own_form h.rows
  clear h
  go_enter Try.func17, Try.ntmps17
  go_wp2_with fail
  refine hC.out.mono ?_
  rintro e w1 ⟨v', rfl, ho, hb⟩
  go_wp2_with fail
  go_ret
  exact ⟨_, rfl, ho, hb⟩
theorem copy_any (g : Nat) (ev v : Value) (ends : List Nat) (l : List S42) (w : World) (h : SetAt w g ev v ends l) (hl : l.length < 1000000) :
    Calls Try.prog 21 #[ptr g] w fun e w' => ∃ g' v', e = .returned (ptr g') ∧ SetAt w' g' ev v' ends l ∧ w.heap.size ≤ g' ∧ (∀ k, v'.ownBlock = some k → w.heap.size ≤ k) ∧ Below w.heap.size w w' := by
  have e0 := h.blk.cell 0
  have e1 := h.blk.cell 1
  obtain ⟨A, c, rfl, _⟩ := own_form h.rows
  obtain ⟨B, d, rfl, _⟩ := own_form h.ends
  have HS := Lib.hid (fun w1 hb => (h.drewN 1).go (w1 := w1) hb)
  have hC := Lib.hid (clone_any (.slice A l.length c) l w.drew h.rows hl)
  clear h
  go_enter Try.func21, Try.ntmps21
  go_wp2_with fail
  go_region_held3 (fun w' => w'.cell? ⟨g, 0, none⟩ = some (.slice B ends.length d) ∧ w'.cell? ⟨g, 1, none⟩ = some (.slice A l.length c)) (go_keep)
    (first
      | (go_at_call 29; ((with_reducible refine hC.out.mono ?_); rintro e w1 ⟨v', rfl, ho, hb⟩; have hx := HS.out _ hb; have d0 := hx.blk.cell 0; have d1 := hx.blk.cell 1; obtain ⟨A2, c2, rfl, _⟩ := own_form ho)))
  have hs2 := Lib.hid (HS.out _ hb)
  have hlt := hb.size
  have hF := Lib.hid (show Below w.heap.size w w1 from ⟨hb.os, hb.tape, hb.output, hb.size, hb.block⟩)
  have ho' := Lib.hid (show w1.ownsRow w.heap.size 42 4 (.slice A2 l.length c2) l.length (cs42 l) from ho)
  clear ho hx d0 d1 hb
  have hlt2 : w.heap.size ≤ w1.heap.size := hlt
  go_wp2_with fail
  go_ret
  exact ⟨_, _, rfl, ⟨Blk.new w1 54 _, (hs2.out.ends).alloc _, own_mono (ho'.out.alloc _) (Nat.zero_le _)⟩, hlt2, fun k e => (ho'.out.lt k e).1, hF.out.alloc hlt2 _⟩
/-! ### New -/
/-- Where parts of these widths end. -/
def endsOf : Nat → List Int → List Nat
  | _, [] => []
  | s, x :: r => (s + x.toNat) :: endsOf (s + x.toNat) r
def okX (x : Int) : Bool := decide (1 ≤ x) && decide (x ≤ 16)
def okW (ws : List Int) : Bool := decide (1 ≤ ws.length) && decide (ws.length ≤ 4) && ws.all okX
theorem endsOf_len : ∀ (s : Nat) (ws : List Int), (endsOf s ws).length = ws.length
  | _, [] => rfl
  | s, x :: r => by simp [endsOf, endsOf_len]
theorem endsOf_low : ∀ (s : Nat) (ws : List Int), (∀ x ∈ ws, okX x = true) → ∀ e ∈ endsOf s ws, s ≤ e ∧ e ≤ s + 16 * ws.length ∧ e ≤ (endsOf s ws).getLastD 0
  | _, [], _, e, he => by simp [endsOf] at he
  | s, x :: r, hx, e, he => by
    have h1 := hx x (List.mem_cons_self ..)
    simp only [okX, Bool.and_eq_true, decide_eq_true_eq] at h1
    have ih := endsOf_low (s + x.toNat) r (fun y hy => hx y (List.mem_cons_of_mem _ hy))
    simp only [endsOf, List.mem_cons] at he
    simp only [endsOf, List.length_cons]
    cases r with
    | nil =>
      rcases he with rfl | he
      · exact ⟨by omega, by simp; omega, by simp [endsOf]⟩
      · simp [endsOf] at he
    | cons y r' =>
      have hlast : ((s + x.toNat) :: endsOf (s + x.toNat) (y :: r')).getLastD 0 = (endsOf (s + x.toNat) (y :: r')).getLastD 0 := by simp [endsOf, List.getLastD]
      rw [hlast]
      have hm : (s + x.toNat + y.toNat) ∈ endsOf (s + x.toNat) (y :: r') := by simp [endsOf]
      rcases he with rfl | he
      · have := ih _ hm
        exact ⟨by omega, by omega, by omega⟩
      · have := ih _ he
        exact ⟨by omega, by omega, by omega⟩
theorem endsOf_rise : ∀ (s : Nat) (ws : List Int), Rise s (endsOf s ws)
  | _, [] => trivial
  | s, x :: r => ⟨by omega, endsOf_rise _ r⟩
theorem endsOf_ok {ws : List Int} (h : okW ws = true) : EndsOk (endsOf 0 ws) := by
  simp only [okW, Bool.and_eq_true, decide_eq_true_eq, List.all_eq_true] at h
  have hl := endsOf_len 0 ws
  have hlow := endsOf_low 0 ws h.2
  exact ⟨by omega, by omega, endsOf_rise 0 ws, fun e he => by have := hlow e he; omega, fun e he => (hlow e he).2.2⟩
theorem info3 : (Try.prog.info? 3).map (fun i => (i.zero, i.size, i.bytes)) = some (some (.int .i64 0), 1, 8) := by kernel_rfl
/-- How New ends. -/
def NewEnd (w : World) (ws : List Int) (e : Ending) (w' : World) : Prop :=
  (if okW ws then ∃ g ev, e = .returned (.tuple #[ptr g, .int .i64 0]) ∧ SetAt w' g ev (.slice none 0 0) (endsOf 0 ws) [] ∧ w.heap.size ≤ g ∧ (∀ k, ev.ownBlock = some k → w.heap.size ≤ k) else e = .returned (.tuple #[.pointer none, .int .i64 1])) ∧ Below w.heap.size w w'
def NewR (w : World) (ws : List Int) (t5 t20 : Value) (wr : World) : Prop :=
  ∃ (k e : Nat) (es : List Nat) (A : Option Addr) (c : Nat), t20 = .int .i64 (k : Int) ∧ t5 = .int .i64 (e : Int) ∧ k ≤ ws.length ∧ ws.all okX = (ws.drop k).all okX ∧ e ≤ 16 * k ∧ es.length = k ∧ endsOf 0 ws = es ++ endsOf e (ws.drop k) ∧
    Blk wr w.heap.size 54 #[.slice A k c, .slice none 0 0] ∧ wr.ownsRow w.heap.size 3 1 (.slice A k c) k (iv es) ∧ Below w.heap.size w wr
theorem new_any (A : Option Addr) (c : Nat) (ws : List Int) (w : World) (h : Kd.C (Kd.int .i64) w A ws.length ws) (hl : ws.length < 1000000) :
    Calls Try.prog 9 #[.slice A ws.length c] w (NewEnd w ws) := by
  obtain ⟨i0, hi0, hz0, hz1, hz2⟩ := info_parts info3
  by_cases h1 : ws.length < 1
  · have q1 : decide ((ws.length : Int) < 1) = true := decide_eq_true (by omega)
    have hno : okW ws = false := by simp only [okW, show decide (1 ≤ ws.length) = false from decide_eq_false (by omega), Bool.false_and]
    have HN := Lib.hid hno
    clear h hno
    go_enter Try.func9, Try.ntmps9
    go_wp2_with fail
    go_ret2
    exact ⟨by rw [HN.out]; rfl, Below.refl _ _⟩
  · have q1 : decide ((ws.length : Int) < 1) = false := decide_eq_false (by omega)
    by_cases h4 : 4 < ws.length
    · have q2 : decide ((4 : Int) < (ws.length : Int)) = true := decide_eq_true (by omega)
      have hno : okW ws = false := by simp only [okW, show decide (ws.length ≤ 4) = false from decide_eq_false (by omega), Bool.and_false, Bool.false_and]
      have HN := Lib.hid hno
      clear h hno
      go_enter Try.func9, Try.ntmps9
      go_wp2_with fail
      go_ret2
      exact ⟨by rw [HN.out]; rfl, Below.refl _ _⟩
    · have q2 : decide ((4 : Int) < (ws.length : Int)) = false := decide_eq_false (by omega)
      have hok : okW ws = ws.all okX := by simp only [okW, show decide (1 ≤ ws.length) = true from decide_eq_true (by omega), show decide (ws.length ≤ 4) = true from decide_eq_true (by omega), Bool.true_and]
      have HOK := Lib.hid hok
      have H := Lib.hid h
      have hR : NewR w ws (.int .i64 0) (.int .i64 0) (w.alloc (.cells #[.slice none 0 0, .slice none 0 0] 54)) :=
        ⟨0, 0, [], none, 0, rfl, rfl, Nat.zero_le _, rfl, Nat.zero_le _, rfl, rfl, Blk.new w 54 _, World.ownsRow_nil _ _ _ _, (Below.refl _ w).alloc (Nat.le_refl _) _⟩
      have HR := Lib.hid hR
      clear h hok hR
      go_enter Try.func9, Try.ntmps9
      go_wp2_with fail
      go_loopw [5, 20] (fun t5 t20 wr => NewR w ws t5 t20 wr) (fun _ t20 _ => ws.length - (intOf t20).toNat)
      case atStart => exact HR.out
      case round =>
        clear HR
        obtain ⟨k, e, es, A1, c1, rfl, rfl, hk, hall, he, hes, hend, hblk, hown, hB⟩ := hrel
        have HAL := Lib.hid hall
        have HEND := Lib.hid hend
        have HES := Lib.hid hes
        clear hall hend hes
        by_cases hlt : k < ws.length
        · have k0 : (0 : Int) ≤ (k : Int) := by omega
          have k1 : (k : Int) < (ws.length : Int) := by omega
          obtain ⟨ad, rfl, e0⟩ := Kd.at_int (Kd.C_below H.out hB) (k : Int) k0 k1
          have hd : ws.drop k = ws[k] :: ws.drop (k + 1) := List.drop_eq_getElem_cons hlt
          rw [hd] at HAL HEND
          have hr : rd ws (k : Int) = ws[k] := by simp [rd, rdOf, List.getD_eq_getElem?_getD, hlt]
          rw [hr, Int.toNat_natCast] at e0
          clear hd hr
          generalize ws[k] = x at *
          by_cases hx1 : x < 1
          · have HN : Hid (okW ws = false) := HOK.out.trans (HAL.out.trans (by rw [List.all_cons, okX, decide_eq_false (by omega : ¬ 1 ≤ x)]; rfl))
            go_wp2_with fail
            go_ret2
            exact ⟨by rw [HN.out]; rfl, hB⟩
          · by_cases hx2 : 16 < x
            · have HN : Hid (okW ws = false) := HOK.out.trans (HAL.out.trans (by rw [List.all_cons, okX, decide_eq_false (by omega : ¬ x ≤ 16)]; simp))
              go_wp2_with fail
              go_ret2
              exact ⟨by rw [HN.out]; rfl, hB⟩
            · obtain ⟨n, rfl⟩ : ∃ n : Nat, x = (n : Int) := ⟨x.toNat, by omega⟩
              have hsum : wrap64 ((e : Int) + (n : Int)) = ((e + n : Nat) : Int) := by unfold wrap64; omega
              have hs : (wr.alloc (.cells #[.int .i64 ((e + n : Nat) : Int)] 3)).ownsRow w.heap.size 3 1 (.slice A1 k c1) k (iv es) := hown.alloc _
              have hsz := hB.size
              have c0 := hblk.cell 0
              have hblt := hblk.lt
              have hbA := hblk.alloc (.cells #[.int .i64 ((e + n : Nat) : Int)] 3)
              have hne := own_type hs hbA (by decide)
              have hFA := hB.alloc hsz (.cells #[.int .i64 ((e + n : Nat) : Int)] 3)
              go_wp2_with (at_builtin; go_must (refine wpList_append_lies _ rfl _ _ _ rfl w.heap.size 3 i0 _ 1 8 Try.underlying27 hi0 hz0 hz1 hz2 rfl (by omega) (.slice A1 k c1) k (iv es) rfl hs ⟨wr.heap.size, 0, none⟩ 1 1 [.int .i64 ((e + n : Nat) : Int)] (by rfl) (by rfl) (World.news_of_block (cs := #[.int .i64 ((e + n : Nat) : Int)]) (t := 3) (fr := (0, 0)) (heap_alloc_new wr _)) (by simp [Value.oneCell']) (by omega) (by simp [maxLen]; omega) (by omega) (by simp; omega) (wr.heap.size + 1) (by simp) ?_; intro g2 cap2 w2 hown2 hgrow2 hat2 hlt2; have hb2 := hbA.grown hgrow2 hne.symm; have y1 := hb2.cell 0; have y2 := hb2.frozen 0))
              have hgr := fun k' (hk' : (Value.slice A1 k c1).ownBlock = some k') => (hs.lt k' hk').1
              have hF2 : Below w.heap.size w w2 := hFA.grown hgrow2 (by simp; omega) hgr
              have hng : (some g2 : Option Nat) ≠ some w.heap.size := own_type hown2 hb2 (by decide)
              have hb3 := hb2.set_ 0 (.slice (some ⟨g2, 0, none⟩) (k + 1) cap2)
              have ho3 : (w2.setCell ⟨w.heap.size, 0, none⟩ (.slice (some ⟨g2, 0, none⟩) (k + 1) cap2)).ownsRow w.heap.size 3 1 (.slice (some ⟨g2, 0, none⟩) (k + 1) cap2) (k + 1) (iv (es ++ [e + n])) := by
                have hi : iv (es ++ [e + n]) = iv es ++ [.int .i64 ((e + n : Nat) : Int)] := by simp [iv]
                rw [hi]
                exact hown2.kept (row := some w.heap.size) (gb_set _ (gb_below (Below.refl _ _) _)) (.inr hng)
              have hF3 := hF2.setCell (p := ⟨w.heap.size, 0, none⟩) (Nat.le_refl _) (.slice (some ⟨g2, 0, none⟩) (k + 1) cap2)
              refine ⟨⟨k + 1, e + n, es ++ [e + n], _, _, by go_num, by go_num, hlt, HAL.out.trans (by rw [List.all_cons, okX, decide_eq_true (by omega), decide_eq_true (by omega)]; rfl), by omega, by simp [HES.out], HEND.out.trans (by simp [endsOf]), hb3, ho3, hF3⟩, ?_⟩
              simp [intOf]
              omega
        · have hke : k = ws.length := by omega
          have hd : ws.drop k = [] := List.drop_eq_nil_of_le (by omega)
          rw [hd] at HAL HEND
          have HN : Hid (okW ws = true) := HOK.out.trans HAL.out
          have HE2 : Hid (endsOf 0 ws = es) := HEND.out.trans (by simp [endsOf])
          have k1 : ¬ (k : Int) < (ws.length : Int) := by omega
          clear hd hke
          go_wp2_with fail
          go_ret2
          refine ⟨?_, hB⟩
          rw [HN.out, if_pos rfl, HE2.out]
          exact ⟨_, _, rfl, ⟨hblk, by rw [HES.out]; exact own_mono hown (Nat.zero_le _), World.ownsRow_nil _ _ _ _⟩, Nat.le_refl _, fun k' e' => (hown.lt k' e').1⟩
end Go.Proofs.Ytedbnppdfcljlaa.Base
