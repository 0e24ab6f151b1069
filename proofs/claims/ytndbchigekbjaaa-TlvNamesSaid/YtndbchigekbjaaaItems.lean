/- What the items of bytes are, and that ReadList tells them. Conditions: as each contract says. -/
import Derived.Test.YtndbchigekbjaaaAttrs
set_option linter.unusedVariables false
set_option linter.unusedSimpArgs false
namespace Go.Proofs.Ytndbchigekbjaaa.Base
open Go Go.RowKit Go.Proofs.Ytndbchigekbjaaa.Mem Go.Proofs.YtndbchigekbjaaaW.PrintWords Go.Proofs.YtndbchigekbjaaaW.PrintMore
/-- The items of bytes, behind so many; and the error. -/
def dl (top : Int) (cnt : Nat) (s : List UInt8) : List ByteArray × Int := match s with
  | [] => ([], 0)
  | y :: z :: r =>
    if top ≤ (cnt : Int) then ([], 3)
    else if r.length < y.toNat * 256 + z.toNat then ([], 4)
    else (⟨(r.take (y.toNat * 256 + z.toNat)).toArray⟩ :: (dl top (cnt + 1) (r.drop (y.toNat * 256 + z.toNat))).1, (dl top (cnt + 1) (r.drop (y.toNat * 256 + z.toNat))).2)
  | _ => ([], 4)
termination_by s.length
decreasing_by all_goals (simp only [List.length_drop, List.length_cons]; omega)
theorem dl_cons (top : Int) (cnt : Nat) (y z : UInt8) (r : List UInt8) : dl top cnt (y :: z :: r) =
    if top ≤ (cnt : Int) then ([], 3)
    else if r.length < y.toNat * 256 + z.toNat then ([], 4)
    else (⟨(r.take (y.toNat * 256 + z.toNat)).toArray⟩ :: (dl top (cnt + 1) (r.drop (y.toNat * 256 + z.toNat))).1, (dl top (cnt + 1) (r.drop (y.toNat * 256 + z.toNat))).2) := by rw [dl]
theorem res36 (tmps : Array Value) (u : Value) (q : Nat) (e : Int) (W : World) (h2 : tmps.getD 4 undef = u) (h3 : tmps.getD 5 undef = ptr q) (hc : W.cell? ⟨q, 0, none⟩ = some (.int .i64 e)) :
    (results Try.f36 tmps).run Try.prog W = .ok (.tuple #[u, .int .i64 e]) W := by
  rw [Array.getD_eq_getD_getElem?] at h2 h3
  simp [results, Try.results36, go_sem, h2, h3, hc]
theorem info9 : (Try.prog.info? 9).map (fun i => (i.zero, i.size, i.bytes)) = some (some (.string ⟨#[]⟩), 1, 16) := by kernel_rfl
theorem str_M (W : World) (N : Nat) (x : ByteArray) : Kd.string.M W N (fun _ => False) x [.string x] := rfl
def IR (top : Int) (p q N : Nat) (s0 : List UInt8) (w0 : World) (t4 : Value) (wr : World) : Prop :=
  ∃ (s : List UInt8) (l : List ByteArray), Kd.R Kd.string 9 wr N (fun _ => True) t4 l ∧ Blk wr p 66 #[.string ⟨s.toArray⟩] ∧ Blk wr q 27 #[.int .i64 0] ∧ Kp N w0 wr ∧
    (dl top 0 s0).2 = (dl top l.length s).2 ∧ ((dl top l.length s).2 = 0 → (dl top 0 s0).1 = l ++ (dl top l.length s).1) ∧ l.length + s.length ≤ s0.length
set_option maxHeartbeats 1600000 in
theorem items_any (p : Nat) (top : Int) (s : List UInt8) (N : Nat) (w0 w : World) (hb : Blk w p 66 #[.string ⟨s.toArray⟩]) (hp : N ≤ p) (HK : Kp N w0 w) (hs : s.length ≤ 10000000) :
    Calls Try.prog 36 #[ptr p, .int .i64 top] w fun e w' => ∃ v, e = .returned (.tuple #[v, .int .i64 (dl top 0 s).2]) ∧ ((dl top 0 s).2 = 0 → Kd.R Kd.string 9 w' N (fun _ => True) v (dl top 0 s).1) ∧ Kp N w0 w' := by
  have hR : IR top p w.heap.size N s w0 (.slice none 0 0) (w.alloc (.cells #[.int .i64 0] 27)) :=
    ⟨s, [], Kd.R_nil _ _ _ _ _, hb.alloc _, Blk.new _ _ _, HK.alloc _, rfl, fun _ => rfl, by simp⟩
  have hq : N ≤ w.heap.size := HK.size
  have hpq : p ≠ w.heap.size := by have := hb.lt; omega
  clear hb HK
  go_enter_defers Try.func36, Try.ntmps36
  go_wp2_with fail
  go_loopw [4] (fun t4 wr => IR top p w.heap.size N s w0 t4 wr) (fun _ wr => rsz p wr)
  case atStart => exact hR
  case round =>
    clear hR
    obtain ⟨s1, l, hRow, hb, hc, HK, g1, g2, g3⟩ := hrel
    have c0 : wr.cell? ⟨p, 0, none⟩ = some (.string ⟨s1.toArray⟩) := hb.cell 0
    have G1 := Lib.hid g1
    have G2 := Lib.hid g2
    clear g1 g2
    rcases s1 with _ | ⟨y, _ | ⟨z, r⟩⟩
    · have z0 := hc.frozen 0
      have z1 := hc.cell 0
      go_wp2_with fail
      have hc2 := hc.set_ 0 (.int .i64 0)
      have e1 : (dl top 0 s).2 = 0 := by rw [G1.out]; simp [dl]
      have e2 : (dl top 0 s).1 = l := by have := G2.out (by simp [dl]); simpa [dl] using this
      refine leaves_cons (f := 37) (args := #[ptr w.heap.size]) (by simp) (by simp [go_sem]) ?_
      refine (caught_idle w.heap.size _).mono ?_
      rintro e u' w'' ⟨rfl, rfl, rfl⟩
      have hcc := hc2.cell 0
      refine ⟨.tuple #[u4, .int .i64 0], res36 _ u4 _ 0 _ rfl rfl hcc, ?_⟩
      refine ⟨u4, by rw [e1], fun _ => ?_, HK.setCell (a := ⟨w.heap.size, 0, none⟩) hq _⟩
      rw [e2]
      exact Kd.R_set hRow hc (by decide) 0 _
    · go_wp2_with fail
      refine (take_short p _ _ _ hb (by show ((1 : Nat) : Int) < 2; omega)).mono ?_
      rintro e _ ⟨rfl, rfl⟩
      go_wp2_with fail
      have e1 : (dl top 0 s).2 = 4 := by rw [G1.out]; simp [dl]
      have hc2 := hc
      have HK2 := HK
      refine leaves_cons (f := 37) (args := #[ptr w.heap.size]) (by simp) (by simp [go_sem]) ?_
      refine (caught_panics w.heap.size 0 4 [] _ hc2).mono ?_
      rintro e u' w'' ⟨rfl, rfl, rfl⟩
      have hcc := (hc2.set_ 0 (.int .i64 4)).cell 0
      exact ⟨.tuple #[u4, .int .i64 4], res36 _ u4 _ 4 _ rfl rfl hcc, u4, by rw [e1], (fun h => by rw [e1] at h; cases h), HK2.setCell (a := ⟨w.heap.size, 0, none⟩) hq _⟩
    · have hrs : (⟨(y :: z :: r).toArray⟩ : ByteArray).size = r.length + 2 := by show (y :: z :: r).toArray.size = _; simp
      have hsz := rsz_blk hb
      rw [hrs] at hsz
      have HE := Lib.hid (dl_cons top l.length y z r)
      obtain ⟨A4, c4, rfl, m4, _⟩ := Kd.R_reads hRow
      generalize hu4 : Value.slice A4 l.length c4 = u4 at *
      go_wp2_with fail
      refine (take_ok p _ 2 _ hb (by omega)).mono ?_
      rintro e w1 ⟨rfl, rfl⟩
      have hb1 := hb.set_ 0 (.string ⟨r.toArray⟩)
      have hc1 : Blk (wr.setCell ⟨p, 0, none⟩ (.string ⟨r.toArray⟩)) w.heap.size 27 #[.int .i64 0] := hc.far (p := ⟨p, 0, none⟩) hpq.symm _
      have hR1 : Kd.R Kd.string 9 (wr.setCell ⟨p, 0, none⟩ (.string ⟨r.toArray⟩)) N (fun _ => True) u4 l := Kd.R_set hRow hb (by decide) 0 _
      have HK1 := HK.setCell (a := ⟨p, 0, none⟩) hp (.string ⟨r.toArray⟩)
      rw [show (⟨((⟨(y :: z :: r).toArray⟩ : ByteArray).data.toList.take 2).toArray⟩ : ByteArray) = ⟨#[y, z]⟩ from rfl, show (⟨((⟨(y :: z :: r).toArray⟩ : ByteArray).data.toList.drop 2).toArray⟩ : ByteArray) = ⟨r.toArray⟩ from rfl]
      clear hb hc hRow HK c0
      generalize wr.setCell ⟨p, 0, none⟩ (.string ⟨r.toArray⟩) = w1 at *
      go_wp2_with fail
      refine (length_any ⟨#[y, z]⟩ y z [] rfl _).mono ?_
      rintro e w2 ⟨rfl, n2, hw2⟩
      have hb2 := hb1.drewN n2
      have hc2 := hc1.drewN n2
      have hR2 := Kd.R_drewN hR1 n2
      have HK2 := HK1.drewN n2
      rw [← hw2] at hb2 hc2 hR2 HK2
      clear hw2 hb1 hc1 hR1 HK1
      generalize hn : y.toNat * 256 + z.toNat = n at *
      subst hu4
      by_cases hgo : (l.length : Int) < top
      · go_wp2_with fail
        refine (must_yes _).mono ?_
        rintro e _ ⟨rfl, rfl⟩
        go_wp2_with fail
        have hrl : (⟨r.toArray⟩ : ByteArray).size = r.length := by show r.toArray.size = _; simp
        generalize hu4 : Value.slice A4 l.length c4 = u4 at *
        by_cases hln : r.length < n
        · have e1 : (dl top 0 s).2 = 4 := by rw [G1.out, HE.out, if_neg (by omega), if_pos hln]
          refine (take_short p _ _ _ hb2 (by omega)).mono ?_
          rintro e _ ⟨rfl, rfl⟩
          go_wp2_with fail
          refine leaves_cons (f := 37) (args := #[ptr w.heap.size]) (by simp) (by simp [go_sem]) ?_
          refine (caught_panics w.heap.size 0 4 [] _ hc2).mono ?_
          rintro e u' w'' ⟨rfl, rfl, rfl⟩
          have hcc := (hc2.set_ 0 (.int .i64 4)).cell 0
          exact ⟨.tuple #[u4, .int .i64 4], res36 _ u4 _ 4 _ rfl rfl hcc, u4, by rw [e1], (fun h => by rw [e1] at h; cases h), HK2.setCell (a := ⟨w.heap.size, 0, none⟩) hq _⟩
        · have e1 : (dl top 0 s).2 = (dl top (l.length + 1) (r.drop n)).2 := by rw [G1.out, HE.out, if_neg (by omega), if_neg hln]
          have e2 : (dl top (l.length + 1) (r.drop n)).2 = 0 → (dl top 0 s).1 = (l ++ [⟨(r.take n).toArray⟩]) ++ (dl top (l.length + 1) (r.drop n)).1 := by
            intro h
            have h1 := G2.out (by rw [HE.out, if_neg (by omega), if_neg hln]; exact h)
            rw [h1, HE.out, if_neg (by omega), if_neg hln, List.append_assoc]
            rfl
          have E1 := Lib.hid e1
          have E2 := Lib.hid e2
          have g4 : l.length + 1 + (r.drop n).length ≤ s.length := by simp only [List.length_cons, List.length_drop] at g3 ⊢; omega
          clear e1 e2
          refine (take_ok p _ n _ hb2 (by omega)).mono ?_
          rintro e w3 ⟨rfl, rfl⟩
          have hb3 := hb2.set_ 0 (.string ⟨(r.drop n).toArray⟩)
          have hc3 : Blk (w2.setCell ⟨p, 0, none⟩ (.string ⟨(r.drop n).toArray⟩)) w.heap.size 27 #[.int .i64 0] := hc2.far (p := ⟨p, 0, none⟩) hpq.symm _
          have hR3 : Kd.R Kd.string 9 (w2.setCell ⟨p, 0, none⟩ (.string ⟨(r.drop n).toArray⟩)) N (fun _ => True) u4 l := Kd.R_set hR2 hb2 (by decide) 0 _
          have HK3 := HK2.setCell (a := ⟨p, 0, none⟩) hp (.string ⟨(r.drop n).toArray⟩)
          clear hb2 hc2 hR2 HK2
          rw [show (⟨r.toArray⟩ : ByteArray).data.toList = r from rfl]
          generalize w2.setCell ⟨p, 0, none⟩ (.string ⟨(r.drop n).toArray⟩) = w3 at *
          have hb3' : Blk w3 p 66 #[.string ⟨(r.drop n).toArray⟩] := hb3
          have HU := Lib.hid hu4
          clear hu4
          go_wp2_with (at_builtin; go_must (refine Kd.R_append Kd.string (w0 := w0) N rfl _ _ 46 9 (.string ⟨#[]⟩) 16 rfl Try.underlying46 info9 rfl (by decide) (by omega) u4 l (⟨(r.take n).toArray⟩ : ByteArray) [.string ⟨(r.take n).toArray⟩] (fun _ => True) (fun _ => False) (by rfl) (by rfl) (str_M _ _ _) (fun _ hk => hk.elim) (fun _ _ => trivial) hR3 HK3.below HK3.size (by omega) ?_; intro v5 w5 ho5 hb5 hg5 hat5))
          have hb6 := hb3.grown hg5 (Kd.R_ne hR3 hb3 (by decide))
          have hc6 := hc3.grown hg5 (Kd.R_ne hR3 hc3 (by decide))
          have hz6 := rsz_blk hb6
          rw [show (⟨(r.drop n).toArray⟩ : ByteArray).size = r.length - n by show (r.drop n).toArray.size = _; simp] at hz6
          refine ⟨⟨r.drop n, _, ho5, hb6, hc6, ⟨hb5, Nat.le_trans HK3.size hg5.size⟩, by simpa using E1.out, by simpa using E2.out, by simpa using g4⟩, ?_⟩
          rw [hz6, hsz]
          omega
      · have hbad : top ≤ (l.length : Int) := by omega
        have e1 : (dl top 0 s).2 = 3 := by rw [G1.out, HE.out, if_pos hbad]
        have GB := Lib.hid (decide_eq_false hgo)
        clear hgo
        go_wp2_with fail
        rw [GB.out]
        refine (must_no _).mono ?_
        rintro e _ ⟨rfl, rfl⟩
        go_wp2_with fail
        generalize hu4 : Value.slice A4 l.length c4 = u4 at *
        refine leaves_cons (f := 37) (args := #[ptr w.heap.size]) (by simp) (by simp [go_sem]) ?_
        refine (caught_panics w.heap.size 0 3 [] _ hc2).mono ?_
        rintro e u' w'' ⟨rfl, rfl, rfl⟩
        have hcc := (hc2.set_ 0 (.int .i64 3)).cell 0
        exact ⟨.tuple #[u4, .int .i64 3], res36 _ u4 _ 3 _ rfl rfl hcc, u4, by rw [e1], (fun h => by rw [e1] at h; cases h), HK2.setCell (a := ⟨w.heap.size, 0, none⟩) hq _⟩
theorem readlist_any (s : ByteArray) (top : Int) (w : World) (hs : s.size ≤ 10000000) :
    Calls Try.prog 29 #[.string s, .int .i64 top] w fun e w' => ∃ v, e = .returned (.tuple #[v, .int .i64 (dl top 0 s.data.toList).2]) ∧
      Kd.R Kd.string 9 w' w.heap.size (fun _ => True) v (if (dl top 0 s.data.toList).2 = 0 then (dl top 0 s.data.toList).1 else []) ∧ Below w.heap.size w w' := by
  have hl : s.data.toList.length = s.size := by simp
  obtain ⟨l, E, hD⟩ : ∃ l E, dl top 0 s.data.toList = (l, E) := ⟨_, _, rfl⟩
  have HD := Lib.hid hD
  rw [hD]
  clear hD
  dsimp only
  by_cases h0 : E = 0
  · subst h0
    rw [if_pos rfl]
    go_enter Try.func29, Try.ntmps29
    go_wp2_with fail
    have hss : (⟨s.data.toList.toArray⟩ : ByteArray) = s := str_ext (by simp)
    have hb : Blk (w.alloc (.cells #[.string s] 66)) w.heap.size 66 #[.string ⟨s.data.toList.toArray⟩] := by rw [hss]; exact Blk.new _ _ _
    refine (items_any w.heap.size top s.data.toList w.heap.size w _ hb (Nat.le_refl _) ((Kp.refl w).alloc _) (by omega)).mono ?_
    rintro e w1 ⟨v, rfl, hR, HK⟩
    rw [HD.out] at hR ⊢
    have hR' := Lib.hid (hR rfl)
    clear hR hb hss
    go_wp2_with fail
    go_ret2
    exact ⟨_, rfl, hR'.out, HK.below⟩
  · rw [if_neg h0]
    have h1 : (E == 0) = false := by simpa using h0
    have h2 : (E != 0) = true := by simpa using h0
    clear h0
    go_enter Try.func29, Try.ntmps29
    go_wp2_with fail
    have hss : (⟨s.data.toList.toArray⟩ : ByteArray) = s := str_ext (by simp)
    have hb : Blk (w.alloc (.cells #[.string s] 66)) w.heap.size 66 #[.string ⟨s.data.toList.toArray⟩] := by rw [hss]; exact Blk.new _ _ _
    refine (items_any w.heap.size top s.data.toList w.heap.size w _ hb (Nat.le_refl _) ((Kp.refl w).alloc _) (by omega)).mono ?_
    rintro e w1 ⟨v, rfl, hR, HK⟩
    rw [HD.out]
    clear hR hb hss
    go_wp2_with fail
    go_ret2
    exact ⟨_, rfl, Kd.R_nil _ _ _ _ _, HK.below⟩
end Go.Proofs.Ytndbchigekbjaaa.Base
