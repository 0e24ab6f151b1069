/- What the attributes of bytes are, and that Decode tells them. Conditions: as each contract says. -/
import Derived.Test.YtndbchigekbjaaaBase
import Derived.Test.YtndbchigekbjaaaPTlvNumbersx1
import Derived.Test.YtndbchigekbjaaaPTlvCodesx1
set_option linter.unusedVariables false
set_option linter.unusedSimpArgs false
namespace Go.Proofs.Ytndbchigekbjaaa.Base
open Go Go.RowKit Go.Proofs.Ytndbchigekbjaaa.Mem Go.Proofs.YtndbchigekbjaaaW.PrintWords Go.Proofs.YtndbchigekbjaaaW.PrintMore Go.Proofs.Ytndbchigekbjaaa.PTlvCodes
/-- The attributes of bytes, behind a type; and the error. -/
def dec (last : Nat) (s : List UInt8) : List S38 × Int := match s with
  | [] => ([], 0)
  | x :: y :: z :: r =>
    if x.toNat ≤ last ∨ y.toNat * 256 + z.toNat = 0 then ([], 3)
    else if r.length < y.toNat * 256 + z.toNat then ([], 4)
    else (⟨(x.toNat : Int), ⟨(r.take (y.toNat * 256 + z.toNat)).toArray⟩⟩ :: (dec x.toNat (r.drop (y.toNat * 256 + z.toNat))).1, (dec x.toNat (r.drop (y.toNat * 256 + z.toNat))).2)
  | _ => ([], 4)
termination_by s.length
decreasing_by all_goals (simp only [List.length_drop, List.length_cons]; omega)
theorem bt_get (s : ByteArray) (i : Nat) (b : UInt8) (h : s.data.toList[i]? = some b) : bt s (i : Int) = (b.toNat : Int) := by
  obtain ⟨hi, hb⟩ := List.getElem?_eq_some_iff.1 h
  have hi' : i < s.size := by simpa using hi
  unfold bt
  rw [dif_pos (by simpa using hi')]
  subst hb
  simp
  rfl
theorem i64_or_nat (a b : Nat) (ha : a < 65536) (hb : b < 65536) : Go.bits .or .i64 (a : Int) (b : Int) = ((a ||| b : Nat) : Int) := by
  have hx : a ||| b < 2 ^ 16 := Nat.or_lt_two_pow (by omega) (by omega)
  show IntKind.i64.wrap ((BitVec.ofInt 64 (a : Int) ||| BitVec.ofInt 64 (b : Int)).toNat : Int) = _
  rw [BitVec.toNat_or, ofInt_u64 a (by omega), ofInt_u64 b (by omega), IntKind.wrap_i64]
  omega
theorem or_two (a b : Nat) (ha : a < 256) (hb : b < 256) : Go.bits .or .i64 (wrap64 (wrap64 (a : Int) * 256)) (wrap64 (b : Int)) = ((a * 256 + b : Nat) : Int) := by
  have e1 : wrap64 (a : Int) = (a : Int) := by unfold wrap64; omega
  have e2 : wrap64 (b : Int) = (b : Int) := by unfold wrap64; omega
  have e3 : wrap64 ((a : Int) * 256) = ((a * 256 : Nat) : Int) := by unfold wrap64; omega
  rw [e1, e2, e3]
  have h := i64_or_nat (a * 256) b (by omega) (by omega)
  rw [h]
  congr 1
  have hs := Nat.shiftLeft_add_eq_or_of_lt (show b < 2 ^ 8 by omega) a
  rw [Nat.shiftLeft_eq] at hs
  exact hs.symm
theorem length_any (s : ByteArray) (y z : UInt8) (r : List UInt8) (hs : s.data.toList = y :: z :: r) (w : World) :
    Calls Try.prog 39 #[.string s] w fun e w' => e = .returned (.int .i64 ((y.toNat * 256 + z.toNat : Nat) : Int)) ∧ ∃ n, w' = w.drewN n := by
  have hz : 2 ≤ s.size := by have := congrArg List.length hs; simp at this; omega
  have b0 : bt s 0 = (y.toNat : Int) := bt_get s 0 y (by rw [hs]; rfl)
  have b1 : bt s 1 = (z.toNat : Int) := bt_get s 1 z (by rw [hs]; rfl)
  refine (PTlvNumbers.tlv_length.calls s _ w ?_).mono fun e w' h => ⟨h.1, h.2.out⟩
  unfold PTlvNumbers.tlv_length.f
  rw [if_pos (by omega), if_pos (by omega), b0, b1, or_two _ _ y.toNat_lt z.toNat_lt]
theorem idx (R : ByteArray) (i : Nat) (b : UInt8) (h : R.data.toList[i]? = some b) (W : World) : (Instr.index 9 (.string R) (.int .i64 (i : Int))).run Try.prog W = .ok (.int .u8 (b.toNat : Int)) W := by
  rw [run_index_string (P := Try.prog) W 9 R .i64 (i : Int) Try.underlying9]
  obtain ⟨hi, hb⟩ := List.getElem?_eq_some_iff.1 h
  have hi' : i < R.size := by simpa using hi
  rw [dif_pos ⟨by omega, by omega⟩]
  congr 3
  subst hb
  simp only [Int.toNat_natCast]
  rfl
theorem sl_from (D : ByteArray) (q : Nat) (hq : q ≤ D.size) (W : World) : (Instr.slice 9 (.string D) (some (.int .i64 (q : Int))) none none).run Try.prog W = .ok (.string ⟨(D.data.toList.drop q).toArray⟩) W := by
  have := run_slice_string_l (P := Try.prog) W 9 (s := D) Try.underlying9 .i64 (q : Int) (by omega) (by omega)
  rw [this, Int.toNat_natCast]
  congr 2
  refine str_ext ?_
  have : (D.extract q D.size).data.toList = (D.data.toList.drop q).take (D.size - q) := by simp [List.take_drop, show q + (D.size - q) = D.size by omega]
  rw [this, List.take_of_length_le (by simp)]
/-- How many bytes a reader has. -/
def rsz (p : Nat) (w : World) : Nat := match w.heap[p]? with
  | some (Obj.cells cs _ _) => match cs[0]? with
    | some (Value.string s) => s.size
    | _ => 0
  | _ => 0
theorem rsz_blk {p : Nat} {w : World} {s : ByteArray} (h : Blk w p 66 #[.string s]) : rsz p w = s.size := by
  unfold Blk at h
  simp [rsz, h]
theorem res34 (tmps : Array Value) (u : Value) (q : Nat) (e : Int) (W : World) (h2 : tmps.getD 2 undef = u) (h3 : tmps.getD 3 undef = ptr q) (hc : W.cell? ⟨q, 0, none⟩ = some (.int .i64 e)) :
    (results Try.f34 tmps).run Try.prog W = .ok (.tuple #[u, .int .i64 e]) W := by
  rw [Array.getD_eq_getD_getElem?] at h2 h3
  simp [results, Try.results34, go_sem, h2, h3, hc]
theorem dec_cons (last : Nat) (x y z : UInt8) (r : List UInt8) : dec last (x :: y :: z :: r) =
    if x.toNat ≤ last ∨ y.toNat * 256 + z.toNat = 0 then ([], 3)
    else if r.length < y.toNat * 256 + z.toNat then ([], 4)
    else (⟨(x.toNat : Int), ⟨(r.take (y.toNat * 256 + z.toNat)).toArray⟩⟩ :: (dec x.toNat (r.drop (y.toNat * 256 + z.toNat))).1, (dec x.toNat (r.drop (y.toNat * 256 + z.toNat))).2) := by rw [dec]
/-- At the head of the loop. -/
def AR (p q N : Nat) (s0 : List UInt8) (w0 : World) (t2 t4 : Value) (wr : World) : Prop :=
  ∃ (last : Nat) (s : List UInt8) (l : List S38), t4 = .int .u8 (last : Int) ∧ last < 256 ∧ Kd.R k38 38 wr N (fun _ => True) t2 l ∧ Blk wr p 66 #[.string ⟨s.toArray⟩] ∧ Blk wr q 27 #[.int .i64 0] ∧ Kp N w0 wr ∧
    (dec 0 s0).2 = (dec last s).2 ∧ ((dec last s).2 = 0 → (dec 0 s0).1 = l ++ (dec last s).1) ∧ l.length + s.length ≤ s0.length
set_option maxHeartbeats 1600000 in
theorem attrs_any (p : Nat) (s : List UInt8) (N : Nat) (w0 w : World) (hb : Blk w p 66 #[.string ⟨s.toArray⟩]) (hp : N ≤ p) (HK : Kp N w0 w) (hs : s.length ≤ 10000000) :
    Calls Try.prog 34 #[ptr p] w fun e w' => ∃ v, e = .returned (.tuple #[v, .int .i64 (dec 0 s).2]) ∧ ((dec 0 s).2 = 0 → Kd.R k38 38 w' N (fun _ => True) v (dec 0 s).1) ∧ Kp N w0 w' := by
  have hR : AR p w.heap.size N s w0 (.slice none 0 0) (.int .u8 0) (w.alloc (.cells #[.int .i64 0] 27)) :=
    ⟨0, s, [], rfl, by omega, Kd.R_nil _ _ _ _ _, hb.alloc _, Blk.new _ _ _, HK.alloc _, rfl, fun _ => rfl, by simp⟩
  have hq : N ≤ w.heap.size := HK.size
  have hpq : p ≠ w.heap.size := by have := hb.lt; omega
  clear hb HK
  go_enter_defers Try.func34, Try.ntmps34
  go_wp2_with fail
  go_loopw [2, 4] (fun t2 t4 wr => AR p w.heap.size N s w0 t2 t4 wr) (fun _ _ wr => rsz p wr)
  case atStart => exact hR
  case round =>
    clear hR
    obtain ⟨last, s1, l, rfl, hlast, hRow, hb, hc, HK, g1, g2, g3⟩ := hrel
    have c0 : wr.cell? ⟨p, 0, none⟩ = some (.string ⟨s1.toArray⟩) := hb.cell 0
    have G1 := Lib.hid g1
    have G2 := Lib.hid g2
    clear g1 g2
    rcases s1 with _ | ⟨x, _ | ⟨y, _ | ⟨z, r⟩⟩⟩
    · have z0 := hc.frozen 0
      have z1 := hc.cell 0
      go_wp2_with fail
      have hc2 := hc.set_ 0 (.int .i64 0)
      have e1 : (dec 0 s).2 = 0 := by rw [G1.out]; simp [dec]
      have e2 : (dec 0 s).1 = l := by have := G2.out (by simp [dec]); simpa [dec] using this
      refine leaves_cons (f := 37) (args := #[ptr w.heap.size]) (by simp) (by simp [go_sem]) ?_
      refine (caught_idle w.heap.size _).mono ?_
      rintro e u' w'' ⟨rfl, rfl, rfl⟩
      have hcc := hc2.cell 0
      refine ⟨.tuple #[u2, .int .i64 0], res34 _ u2 _ 0 _ rfl rfl hcc, ?_⟩
      · refine ⟨u2, by rw [e1], fun _ => ?_, HK.setCell (a := ⟨w.heap.size, 0, none⟩) hq _⟩
        rw [e2]
        exact Kd.R_set hRow hc (by decide) 0 _
    · go_wp2_with fail
      refine (take_short p _ _ _ hb (by show ((1 : Nat) : Int) < 3; omega)).mono ?_
      rintro e _ ⟨rfl, rfl⟩
      go_wp2_with fail
      have e1 : (dec 0 s).2 = 4 := by rw [G1.out]; simp [dec]
      refine leaves_cons (f := 37) (args := #[ptr w.heap.size]) (by simp) (by simp [go_sem]) ?_
      refine (caught_panics w.heap.size 0 4 [] _ hc).mono ?_
      rintro e u' w'' ⟨rfl, rfl, rfl⟩
      have hcc := (hc.set_ 0 (.int .i64 4)).cell 0
      exact ⟨.tuple #[u2, .int .i64 4], res34 _ u2 _ 4 _ rfl rfl hcc, u2, by rw [e1], (fun h => by rw [e1] at h; cases h), HK.setCell (a := ⟨w.heap.size, 0, none⟩) hq _⟩
    · go_wp2_with fail
      refine (take_short p _ _ _ hb (by show ((2 : Nat) : Int) < 3; omega)).mono ?_
      rintro e _ ⟨rfl, rfl⟩
      go_wp2_with fail
      have e1 : (dec 0 s).2 = 4 := by rw [G1.out]; simp [dec]
      refine leaves_cons (f := 37) (args := #[ptr w.heap.size]) (by simp) (by simp [go_sem]) ?_
      refine (caught_panics w.heap.size 0 4 [] _ hc).mono ?_
      rintro e u' w'' ⟨rfl, rfl, rfl⟩
      have hcc := (hc.set_ 0 (.int .i64 4)).cell 0
      exact ⟨.tuple #[u2, .int .i64 4], res34 _ u2 _ 4 _ rfl rfl hcc, u2, by rw [e1], (fun h => by rw [e1] at h; cases h), HK.setCell (a := ⟨w.heap.size, 0, none⟩) hq _⟩
    · have i0 : ∀ W, (Instr.index 9 (.string ⟨#[x, y, z]⟩) (.int .i64 0)).run Try.prog W = .ok (.int .u8 (x.toNat : Int)) W := idx ⟨#[x, y, z]⟩ 0 x rfl
      have i1 : ∀ W, (Instr.slice 9 (.string ⟨#[x, y, z]⟩) (some (.int .i64 1)) none none).run Try.prog W = .ok (.string ⟨#[y, z]⟩) W := sl_from ⟨#[x, y, z]⟩ 1 (by show 1 ≤ 3; omega)
      have I0 := Lib.hid i0
      have I1 := Lib.hid i1
      clear i0 i1
      have hrs : (⟨(x :: y :: z :: r).toArray⟩ : ByteArray).size = r.length + 3 := by show (x :: y :: z :: r).toArray.size = _; simp
      have hsz := rsz_blk hb
      rw [hrs] at hsz
      have hx := x.toNat_lt
      have HE := Lib.hid (dec_cons last x y z r)
      go_wp2_with fail
      refine (take_ok p _ 3 _ hb (by omega)).mono ?_
      rintro e w1 ⟨rfl, rfl⟩
      have hb1 := hb.set_ 0 (.string ⟨r.toArray⟩)
      have hc1 : Blk (wr.setCell ⟨p, 0, none⟩ (.string ⟨r.toArray⟩)) w.heap.size 27 #[.int .i64 0] := hc.far (p := ⟨p, 0, none⟩) hpq.symm _
      have hR1 : Kd.R k38 38 (wr.setCell ⟨p, 0, none⟩ (.string ⟨r.toArray⟩)) N (fun _ => True) u2 l := Kd.R_set hRow hb (by decide) 0 _
      have HK1 := HK.setCell (a := ⟨p, 0, none⟩) hp (.string ⟨r.toArray⟩)
      rw [show (⟨((⟨(x :: y :: z :: r).toArray⟩ : ByteArray).data.toList.take 3).toArray⟩ : ByteArray) = ⟨#[x, y, z]⟩ from rfl, show (⟨((⟨(x :: y :: z :: r).toArray⟩ : ByteArray).data.toList.drop 3).toArray⟩ : ByteArray) = ⟨r.toArray⟩ from rfl]
      clear hb hc hRow HK c0
      generalize wr.setCell ⟨p, 0, none⟩ (.string ⟨r.toArray⟩) = w1 at *
      have i1 := I1.out
      go_wp2_with fail
      refine (length_any ⟨#[y, z]⟩ y z [] rfl _).mono ?_
      rintro e w2 ⟨rfl, n2, hw2⟩
      have hb2 := hb1.drewN n2
      have hc2 := hc1.drewN n2
      have hR2 := Kd.R_drewN hR1 n2
      have HK2 := HK1.drewN n2
      rw [← hw2] at hb2 hc2 hR2 HK2
      clear hw2 hb1 hc1 hR1 HK1 i1
      generalize hn : y.toNat * 256 + z.toNat = n at *
      have i0 := I0.out
      by_cases hgo : last < x.toNat ∧ 0 < n
      · obtain ⟨ga, gb⟩ := hgo
        have ga' : (last : Int) < (x.toNat : Int) := by omega
        have gb' : (0 : Int) < (n : Int) := by omega
        go_wp2_with fail
        refine (must_yes _).mono ?_
        rintro e _ ⟨rfl, rfl⟩
        go_wp2_with fail
        have hrl : (⟨r.toArray⟩ : ByteArray).size = r.length := by show r.toArray.size = _; simp
        by_cases hln : r.length < n
        · have e1 : (dec 0 s).2 = 4 := by rw [G1.out, HE.out, if_neg (by omega), if_pos hln]
          refine (take_short p _ _ _ hb2 (by omega)).mono ?_
          rintro e _ ⟨rfl, rfl⟩
          go_wp2_with fail
          refine leaves_cons (f := 37) (args := #[ptr w.heap.size]) (by simp) (by simp [go_sem]) ?_
          refine (caught_panics w.heap.size 0 4 [] _ hc2).mono ?_
          rintro e u' w'' ⟨rfl, rfl, rfl⟩
          have hcc := (hc2.set_ 0 (.int .i64 4)).cell 0
          exact ⟨.tuple #[u2, .int .i64 4], res34 _ u2 _ 4 _ rfl rfl hcc, u2, by rw [e1], (fun h => by rw [e1] at h; cases h), HK2.setCell (a := ⟨w.heap.size, 0, none⟩) hq _⟩
        · have e1 : (dec 0 s).2 = (dec x.toNat (r.drop n)).2 := by rw [G1.out, HE.out, if_neg (by omega), if_neg hln]
          have e2 : (dec x.toNat (r.drop n)).2 = 0 → (dec 0 s).1 = (l ++ [⟨(x.toNat : Int), ⟨(r.take n).toArray⟩⟩]) ++ (dec x.toNat (r.drop n)).1 := by
            intro h
            have h1 := G2.out (by rw [HE.out, if_neg (by omega), if_neg hln]; exact h)
            rw [h1, HE.out, if_neg (by omega), if_neg hln, List.append_assoc]
            rfl
          have E1 := Lib.hid e1
          have E2 := Lib.hid e2
          have g4 : l.length + 1 + (r.drop n).length ≤ s.length := by simp only [List.length_cons, List.length_drop] at g3 ⊢; omega
          clear e1 e2
          refine (take_ok p _ n _ hb2 (by omega)).mono ?_
          rintro e w3 ⟨rfl, rfl⟩
          have hb3 := hb2.set_ 0 (.string ⟨(r.drop n).toArray⟩)
          have hc3 : Blk (w2.setCell ⟨p, 0, none⟩ (.string ⟨(r.drop n).toArray⟩)) w.heap.size 27 #[.int .i64 0] := hc2.far (p := ⟨p, 0, none⟩) hpq.symm _
          have hR3 : Kd.R k38 38 (w2.setCell ⟨p, 0, none⟩ (.string ⟨(r.drop n).toArray⟩)) N (fun _ => True) u2 l := Kd.R_set hR2 hb2 (by decide) 0 _
          have HK3 := HK2.setCell (a := ⟨p, 0, none⟩) hp (.string ⟨(r.drop n).toArray⟩)
          clear hb2 hc2 hR2 HK2
          rw [show (⟨r.toArray⟩ : ByteArray).data.toList = r from rfl]
          generalize w2.setCell ⟨p, 0, none⟩ (.string ⟨(r.drop n).toArray⟩) = w3 at *
          have hb3' : Blk w3 p 66 #[.string ⟨(r.drop n).toArray⟩] := hb3
          go_wp2_with (at_builtin; go_must (refine Kd.R_append k38 (w0 := w0) N rfl _ _ 25 38 (.agg #[(.int .u8 0), (.string ⟨#[]⟩)]) 24 rfl Try.underlying25 info38 rfl (by decide) (by omega) u2 l (⟨(x.toNat : Int), ⟨(r.take n).toArray⟩⟩ : S38) [.int .u8 (x.toNat : Int), .string ⟨(r.take n).toArray⟩] (fun _ => True) (fun _ => False) (by rfl) (by rfl) (k38_mkM _ _ _ (⟨(x.toNat : Int), ⟨(r.take n).toArray⟩⟩ : S38)) (fun _ hk => hk.elim) (fun _ _ => trivial) hR3 HK3.below HK3.size (by omega) ?_; intro v5 w5 ho5 hb5 hg5 hat5))
          have hb6 := hb3.grown hg5 (Kd.R_ne hR3 hb3 (by decide))
          have hc6 := hc3.grown hg5 (Kd.R_ne hR3 hc3 (by decide))
          have hz6 := rsz_blk hb6
          rw [show (⟨(r.drop n).toArray⟩ : ByteArray).size = r.length - n by show (r.drop n).toArray.size = _; simp] at hz6
          refine ⟨⟨x.toNat, r.drop n, _, rfl, hx, ho5, hb6, hc6, ⟨hb5, Nat.le_trans HK3.size hg5.size⟩, E1.out, E2.out, by simpa using g4⟩, ?_⟩
          rw [hz6, hsz]
          omega
      · have hbad : x.toNat ≤ last ∨ n = 0 := by omega
        have e1 : (dec 0 s).2 = 3 := by rw [G1.out, HE.out, if_pos hbad]
        clear hgo
        by_cases hxl : last < x.toNat
        · have ga' : (last : Int) < (x.toNat : Int) := by omega
          have gb' : decide (0 < n) = false := decide_eq_false (by omega)
          have GB := Lib.hid gb'
          clear hbad gb'
          go_wp2_with fail
          rw [GB.out]
          refine (must_no _).mono ?_
          rintro e _ ⟨rfl, rfl⟩
          go_wp2_with fail
          refine leaves_cons (f := 37) (args := #[ptr w.heap.size]) (by simp) (by simp [go_sem]) ?_
          refine (caught_panics w.heap.size 0 3 [] _ hc2).mono ?_
          rintro e u' w'' ⟨rfl, rfl, rfl⟩
          have hcc := (hc2.set_ 0 (.int .i64 3)).cell 0
          exact ⟨.tuple #[u2, .int .i64 3], res34 _ u2 _ 3 _ rfl rfl hcc, u2, by rw [e1], (fun h => by rw [e1] at h; cases h), HK2.setCell (a := ⟨w.heap.size, 0, none⟩) hq _⟩
        · have ga' : (x.toNat : Int) ≤ (last : Int) := by omega
          clear hbad
          go_wp2_with fail
          refine (must_no _).mono ?_
          rintro e _ ⟨rfl, rfl⟩
          go_wp2_with fail
          refine leaves_cons (f := 37) (args := #[ptr w.heap.size]) (by simp) (by simp [go_sem]) ?_
          refine (caught_panics w.heap.size 0 3 [] _ hc2).mono ?_
          rintro e u' w'' ⟨rfl, rfl, rfl⟩
          have hcc := (hc2.set_ 0 (.int .i64 3)).cell 0
          exact ⟨.tuple #[u2, .int .i64 3], res34 _ u2 _ 3 _ rfl rfl hcc, u2, by rw [e1], (fun h => by rw [e1] at h; cases h), HK2.setCell (a := ⟨w.heap.size, 0, none⟩) hq _⟩
theorem decode_any (s : ByteArray) (w : World) (hs : s.size ≤ 10000000) :
    Calls Try.prog 19 #[.string s] w fun e w' => ∃ v, e = .returned (.tuple #[v, .int .i64 (dec 0 s.data.toList).2]) ∧
      Kd.R k38 38 w' w.heap.size (fun _ => True) v (if (dec 0 s.data.toList).2 = 0 then (dec 0 s.data.toList).1 else []) ∧ Below w.heap.size w w' := by
  have hl : s.data.toList.length = s.size := by simp
  obtain ⟨l, E, hD⟩ : ∃ l E, dec 0 s.data.toList = (l, E) := ⟨_, _, rfl⟩
  have HD := Lib.hid hD
  rw [hD]
  clear hD
  dsimp only
  by_cases h0 : E = 0
  · subst h0
    rw [if_pos rfl]
    go_enter Try.func19, Try.ntmps19
    go_wp2_with fail
    have hss : (⟨s.data.toList.toArray⟩ : ByteArray) = s := str_ext (by simp)
    have hb : Blk (w.alloc (.cells #[.string s] 66)) w.heap.size 66 #[.string ⟨s.data.toList.toArray⟩] := by rw [hss]; exact Blk.new _ _ _
    refine (attrs_any w.heap.size s.data.toList w.heap.size w _ hb (Nat.le_refl _) ((Kp.refl w).alloc _) (by omega)).mono ?_
    rintro e w1 ⟨v, rfl, hR, HK⟩
    rw [HD.out] at hR ⊢
    have hR' := Lib.hid (hR rfl)
    clear hR hb hss
    go_wp2_with fail
    go_ret2
    exact ⟨_, rfl, hR'.out, HK.below⟩
  · rw [if_neg h0]
    have h1 : (E == 0) = false := by simpa using h0
    have h2 : (E != 0) = true := by simpa using h0
    clear h0
    go_enter Try.func19, Try.ntmps19
    go_wp2_with fail
    have hss : (⟨s.data.toList.toArray⟩ : ByteArray) = s := str_ext (by simp)
    have hb : Blk (w.alloc (.cells #[.string s] 66)) w.heap.size 66 #[.string ⟨s.data.toList.toArray⟩] := by rw [hss]; exact Blk.new _ _ _
    refine (attrs_any w.heap.size s.data.toList w.heap.size w _ hb (Nat.le_refl _) ((Kp.refl w).alloc _) (by omega)).mono ?_
    rintro e w1 ⟨v, rfl, hR, HK⟩
    rw [HD.out]
    clear hR hb hss
    go_wp2_with fail
    go_ret2
    exact ⟨_, rfl, Kd.R_nil _ _ _ _ _, HK.below⟩
end Go.Proofs.Ytndbchigekbjaaa.Base
