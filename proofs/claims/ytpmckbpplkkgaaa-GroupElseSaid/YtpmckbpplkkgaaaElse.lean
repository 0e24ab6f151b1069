/- A group that may be, as the other kind, may not be: the law's walk. Conditions: as each contract says. -/
import Derived.Test.YtpmckbpplkkgaaaBox
import Derived.Test.YtpmckbpplkkgaaaBuckets
set_option linter.unusedVariables false
set_option linter.unusedSimpArgs false
namespace Go.Proofs.Ytpmckbpplkkgaaa.Base
open Go Go.RowKit Go.Proofs.Ytpmckbpplkkgaaa.Mem Go.Proofs.YtpmckbpplkkgaaaW.PrintWords Go.Proofs.YtpmckbpplkkgaaaW.PrintLast Go.Proofs.Ytpmckbpplkkgaaa.Fl
open Go.Proofs.Ytpmckbpplkkgaaa.PGroupTells (S34 z34 k34 k34_open k34_mk)
/-- How long a copy's row is. -/
def lenAt (W : World) (b : Nat) : Nat := match W.cell? ⟨b, 3, none⟩ with | some (.slice _ n _) => n | _ => 0
theorem ES.lenAt {w W : World} {bx g1 cap : Nat} {GX : Array Value} {i k f : Int} {n : Nat} {L : List S34} (h : ES w W bx g1 cap GX i k f n L) : lenAt W bx = n := by
  unfold Base.lenAt
  rw [h.hx.cell 3]
  rfl
/-- The loop's row: one block turned, and so many buckets behind. -/
def L7 (l : List S34) (k : Nat) (hk : k < l.length) (j : Nat) : List S34 := l.set k ⟨l[k].f0, 7⟩ ++ List.replicate j (⟨0, 7⟩ : S34)
theorem set_twice (l : List S34) (k : Nat) (hk : k < l.length) (u v : Int) (h : k < (l.set k ⟨l[k].f0, u⟩).length) : (l.set k ⟨l[k].f0, u⟩).set k ⟨(l.set k ⟨l[k].f0, u⟩)[k].f0, v⟩ = l.set k ⟨l[k].f0, v⟩ := by
  rw [List.getElem_set_self, List.set_set]
theorem L7_zero (l : List S34) (k : Nat) (hk : k < l.length) : L7 l k hk 0 = l.set k ⟨l[k].f0, 7⟩ := by unfold L7; simp
theorem L7_len (l : List S34) (k : Nat) (hk : k < l.length) (j : Nat) : (L7 l k hk j).length = l.length + j := by unfold L7; simp
theorem L7_next (l : List S34) (k : Nat) (hk : k < l.length) (j : Nat) : L7 l k hk j ++ [⟨0, 7⟩] = L7 l k hk (j + 1) := by unfold L7; rw [List.replicate_succ', List.append_assoc]
theorem L7_inB (l : List S34) (k : Nat) (hk : k < l.length) (j : Nat) (hb : inB l) : inB (L7 l k hk j) := by
  intro x hx
  rcases List.mem_append.1 hx with hx | hx
  · exact inB_set l hb k hk 7 x hx
  · rw [(List.mem_replicate.1 hx).2]
    exact ⟨by show (0 : Int) ≤ 0; decide, by show (0 : Int) < _; decide⟩
def ElR (w : World) (bx : Nat) (GX : Array Value) (i kd f : Int) (l : List S34) (k : Nat) (hk : k < l.length) (wr : World) : Prop :=
  ∃ (j n g cap : Nat), Hid (n = l.length + j) ∧ n ≤ 17 ∧ ES w wr bx g cap GX i kd f n (L7 l k hk j)
theorem C_take {w : World} {A : Option Addr} {l : List S34} (h : Kd.C k34 w A l.length l) (i : Nat) (hi : i ≤ l.length) : Kd.C k34 w A i (l.take i) := by
  obtain ⟨h1, h2, h3⟩ := h
  refine ⟨by rw [List.length_take]; omega, by omega, fun hp => ?_⟩
  obtain ⟨ad, e, hc⟩ := h3 (by omega)
  refine ⟨ad, e, fun j p hj => hc j p ?_⟩
  rw [List.getElem?_take] at hj
  split at hj
  · exact hj
  · cases hj
theorem may16 (id kind field : Int) (A : Option Addr) (cp : Nat) (L : List S34) (w : World) (hr : Kd.C k34 w A L.length L) (hb : inB L) (hl : 16 ≤ L.length) :
    Calls Try.prog 12 #[gV id kind field A 16 cp] w fun e w' => e = .returned (.bool (gmay id kind field (L.take 16))) ∧ Below w.heap.size w w' := by
  have h16 : (L.take 16).length = 16 := by rw [List.length_take]; omega
  have h1 := C_take hr 16 hl
  rw [← h16] at h1
  have := gmay_any id kind field A cp (L.take 16) w (by rw [h16] at h1 ⊢; exact h1) (fun x hx => hb x (List.mem_of_mem_take hx)) (by omega)
  rw [h16] at this
  exact this
theorem may0 (id kind field : Int) (cp : Nat) (w : World) : Calls Try.prog 12 #[gV id kind field none 0 cp] w fun e w' => e = .returned (.bool false) ∧ Below w.heap.size w w' := by
  have := gmay_any id kind field none cp [] w (Kd.C_nil _ _) (fun x hx => by simp at hx) (by simp)
  rw [gmay_nil] at this
  exact this
set_option maxHeartbeats 16000000 in
theorem else_law (id kind field : Int) (A : Option Addr) (cp : Nat) (l : List S34) (which : Int) (w : World) (hr : Kd.C k34 w A l.length l) (hb : inB l) (hc : l.length ≤ cp) :
    Calls Try.prog 8 #[gV id kind field A l.length cp, .int .i64 which] w fun e w' => e = .returned (.bool true) ∧ Below w.heap.size w w' := by
  have kA := (Below.refl w.heap.size w).alloc (Nat.le_refl _) (.cells #[.int .i64 id, .int .u8 kind, .int .i64 field, .slice A l.length cp] 27)
  have hG := Blk.new w 27 #[.int .i64 id, .int .u8 kind, .int .i64 field, .slice A l.length cp]
  have c0 := hG.cell 0
  have c1 := hG.cell 1
  have c2 := hG.cell 2
  have c3 := hG.cell 3
  by_cases hlen : 100 < l.length
  · have hl1 : (100 : Int) < (l.length : Int) := by omega
    clear hr hb hG
    go_enter Try.func8, Try.ntmps8
    go_wp2_with fail
    refine (awake_any _).mono ?_
    rintro e w1 ⟨rfl, hb1⟩
    go_wp2_with fail
    go_ret
    exact ⟨rfl, kA.trans (hb1.mono kA.size)⟩
  · have hl1 : ¬ (100 : Int) < (l.length : Int) := by omega
    have HR := Lib.hid hr
    have HG := Lib.hid hG
    have KA := Lib.hid kA
    clear hr hG kA
    go_enter Try.func8, Try.ntmps8
    go_wp2_with fail
    generalize w.alloc (.cells #[.int .i64 id, .int .u8 kind, .int .i64 field, .slice A l.length cp] 27) = wA at *
    refine (gmay_any id kind field A cp l wA (Kd.C_below HR.out KA.out) hb (by omega)).mono ?_
    rintro e w1 ⟨rfl, hb1⟩
    have HG1 := Lib.hid (HG.out.go hb1)
    have KA1 := Lib.hid (KA.out.trans (hb1.mono KA.out.size))
    clear hb1 c0 c1 c2 c3 HG KA
    have c0 := HG1.out.cell 0
    have c1 := HG1.out.cell 1
    have c2 := HG1.out.cell 2
    have c3 := HG1.out.cell 3
    cases hm : gmay id kind field l
    · go_wp2_with fail
      refine (awake_any _).mono ?_
      rintro e w2 ⟨rfl, hb2⟩
      go_wp2_with fail
      go_ret
      exact ⟨rfl, KA1.out.trans (hb2.mono KA1.out.size)⟩
    · have HM := Lib.hid hm
      clear hm
      go_wp2_with fail
      refine (awake_any _).mono ?_
      rintro e w2 ⟨rfl, hb2⟩
      have HG2 := Lib.hid (HG1.out.go hb2)
      have KA2 := Lib.hid (KA1.out.trans (hb2.mono KA1.out.size))
      clear hb2 c0 c1 c2 c3 HG1 KA1
      have c0 := HG2.out.cell 0
      have c1 := HG2.out.cell 1
      have c2 := HG2.out.cell 2
      have c3 := HG2.out.cell 3
      have X := Blk.new w2 27 #[.int .i64 id, .int .u8 kind, .int .i64 field, .slice A l.length cp]
      have HD := HG2.out.alloc (.cells #[.int .i64 id, .int .u8 kind, .int .i64 field, .slice A l.length cp] 27)
      have d1 := HD.cell 1
      have x0 := X.cell 0
      have x1 := X.cell 1
      have x2 := X.cell 2
      have x3 := X.cell 3
      have z1 := X.frozen 1
      have X1 := X.set_ 1 (.int .u8 (3 - kind))
      have y0 := X1.cell 0
      have y1 := X1.cell 1
      have y2 := X1.cell 2
      have y3 := X1.cell 3
      have hkind : kind = 1 ∨ kind = 2 := by
        obtain ⟨b, e, _⟩ := gmay_parts HM.out
        cases b
        · exact .inr e
        · exact .inl e
      have hw : IntKind.u8.wrap (3 - kind) = 3 - kind := by rcases hkind with rfl | rfl <;> decide
      have HKD := Lib.hid hkind
      clear hkind
      go_wp2_with fail
      have K3 := Lib.hid (KA2.out.alloc KA2.out.size (.cells #[.int .i64 id, .int .u8 (3 - kind), .int .i64 field, .slice A l.length cp] 27))
      refine (gmay_any id (3 - kind) field A cp l _ (Kd.C_below HR.out K3.out) hb (by omega)).mono ?_
      rw [gmay_kind HM.out]
      rintro e w4 ⟨rfl, hb4⟩
      have HGa := Lib.hid ((HG2.out.alloc (.cells #[.int .i64 id, .int .u8 (3 - kind), .int .i64 field, .slice A l.length cp] 27)).go hb4)
      have HXa := Lib.hid ((Blk.new w2 27 #[.int .i64 id, .int .u8 (3 - kind), .int .i64 field, .slice A l.length cp]).go hb4)
      have K4 := Lib.hid (K3.out.trans (hb4.mono K3.out.size))
      have HBX := Lib.hid (show w.heap.size ≤ w2.heap.size from KA2.out.size)
      have HNE := Lib.hid (show w.heap.size ≠ w2.heap.size by have h1 := HG2.out.lt; omega)
      clear hb4 c0 c1 c2 c3 X HD d1 x0 x1 x2 x3 z1 X1 y0 y1 y2 y3 HG2 KA2 K3 hw
      generalize w2.heap.size = bx at *
      have c0 := HGa.out.cell 0
      have c1 := HGa.out.cell 1
      have c2 := HGa.out.cell 2
      have c3 := HGa.out.cell 3
      have z0 := HXa.out.frozen 0
      have z1 := HXa.out.frozen 1
      have z2 := HXa.out.frozen 2
      have z3 := HXa.out.frozen 3
      have y0 := HXa.out.cell 0
      have y1 := HXa.out.cell 1
      have y2 := HXa.out.cell 2
      have y3 := HXa.out.cell 3
      have hbx := HBX.out
      go_upto_region 8 with (fail)
      have B5 : Blk _ bx 27 #[.int .i64 id, .int .u8 kind, .int .i64 field, .slice A l.length cp] := (((HXa.out.set_ 0 (.int .i64 id)).set_ 1 (.int .u8 kind)).set_ 2 (.int .i64 field)).set_ 3 (.slice A l.length cp)
      have G5 := (((HGa.out.far (p := ⟨bx, 0, none⟩) HNE.out (.int .i64 id)).far (p := ⟨bx, 1, none⟩) HNE.out (.int .u8 kind)).far (p := ⟨bx, 2, none⟩) HNE.out (.int .i64 field)).far (p := ⟨bx, 3, none⟩) HNE.out (.slice A l.length cp)
      have K5 := (((K4.out.setCell (p := ⟨bx, 0, none⟩) hbx (.int .i64 id)).setCell (p := ⟨bx, 1, none⟩) hbx (.int .u8 kind)).setCell (p := ⟨bx, 2, none⟩) hbx (.int .i64 field)).setCell (p := ⟨bx, 3, none⟩) hbx (.slice A l.length cp)
      clear c0 c1 c2 c3 y0 y1 y2 y3 z0 z1 z2 z3 HGa HXa K4
      generalize ((((w4.setCell { block := bx, off := 0 } (Value.int IntKind.i64 id)).setCell { block := bx, off := 1 } (Value.int IntKind.u8 kind)).setCell { block := bx, off := 2 } (Value.int IntKind.i64 field)).setCell { block := bx, off := 3 } (Value.slice A l.length cp)) = W5 at *
      have hn1 : 1 ≤ l.length := by obtain ⟨_, _, _, _, h, _, _⟩ := gmay_parts HM.out; exact h
      have hn16 : l.length ≤ 16 := by obtain ⟨_, _, _, _, _, h, _⟩ := gmay_parts HM.out; exact h
      have G6 := G5.alloc (.cells #[] 34)
      have B6 := B5.alloc (.cells #[] 34)
      have K6 := K5.alloc K5.size (.cells #[] 34)
      have c3 := G6.cell 3
      have O0 : (W5.alloc (.cells #[] 34)).ownsRow W5.heap.size 34 2 (.slice (some ⟨W5.heap.size, 0, none⟩) 0 0) 0 [] := ⟨by simp, .inr ⟨W5.heap.size, 0, #[], rfl, Nat.le_refl _, heap_alloc_new W5 _, Nat.le_refl _, Nat.zero_le _, by simp, by simp⟩⟩
      obtain ⟨ad, rfl, hnews⟩ := news_34 (Kd.C_below HR.out K6) hn1
      obtain ⟨i34, hi34, hz0, hz1, hz2⟩ := info_parts info34
      have h1c : ∀ u ∈ sv l, u.oneCell' = true := by
        intro u hu
        obtain ⟨x, _, hx⟩ := List.mem_flatMap.1 hu
        simp at hx
        rcases hx with rfl | rfl <;> rfl
      have HNW := Lib.hid hnews
      have H1C := Lib.hid h1c
      have y3 := B6.frozen 3
      have hsvl := sv_len l
      have HSV := Lib.hid hsvl
      have hm1 : 0 + l.length ≤ maxLen := by unfold maxLen; omega
      have hm2 : (0 + l.length) * 16 ≤ 140737488355328 := by omega
      have hszz : W5.heap.size ≤ (W5.alloc (.cells #[] 34)).heap.size := by simp
      have HGN := Lib.hid (show some bx ≠ (Value.slice (some ⟨W5.heap.size, 0, none⟩) 0 0).ownBlock from fun h => absurd (Option.some.inj h) (Nat.ne_of_lt B5.lt))
      have HGN2 := Lib.hid (show some w.heap.size ≠ (Value.slice (some ⟨W5.heap.size, 0, none⟩) 0 0).ownBlock from fun h => absurd (Option.some.inj h) (Nat.ne_of_lt G5.lt))
      clear hnews h1c hsvl
      have HRM := Lib.hid (rem_fact which l.length hn1 (by omega))
      have HN1 := Lib.hid hn1
      have HN16 := Lib.hid hn16
      clear hn1 hn16
      go_upto_region 9 with (at_builtin; go_must (refine wpList_append_lies _ rfl _ _ _ rfl W5.heap.size 34 i34 _ 2 16 Try.underlying23 hi34 hz0 hz1 hz2 rfl (by decide) (.slice (some ⟨W5.heap.size, 0, none⟩) 0 0) 0 [] rfl O0 ad l.length cp (sv l) (by rfl) HSV.out HNW.out H1C.out HN1.out hm1 hm2 hszz _ rfl ?_; intro g1 cap1 w6 P1 G1 _ _; rw [Nat.zero_add, List.nil_append] at P1; have B7 := B6.grown G1 HGN.out; have G7 := G6.grown G1 HGN2.out; have K7 := K6.grown G1 K6.size (fun j e => by cases e; exact K5.size); have y7 := B7.frozen 3; have x7 := B7.cell 3))
      have hne1 : g1 ≠ bx := fun e => own_type P1 B7 (by decide) (by rw [e]; rfl)
      have E8 : ES w (w6.setCell ⟨bx, 3, none⟩ (.slice (some ⟨g1, 0, none⟩) l.length cap1)) bx g1 cap1 #[.int .i64 id, .int .u8 kind, .int .i64 field, .slice (some ad) l.length cp] id kind field l.length l :=
        ⟨rfl, K7.setCell HBX.out _, G7.far (p := ⟨bx, 3, none⟩) HNE.out _, B7.set_ 3 _, own_mono (own_fp P1 ((Fp.refl (fun j => j = bx) w6).set_ _ (fun _ => rfl)) (fun j e e2 => hne1 (by injection e with e; exact e.trans e2))) K5.size, HNE.out, HBX.out⟩
      generalize w6.setCell ⟨bx, 3, none⟩ (.slice (some ⟨g1, 0, none⟩) l.length cap1) = W8 at *
      have HE8 := Lib.hid E8
      clear B5 G5 G6 B6 c3 y3 G1 B7 G7 K7 y7 x7 E8 P1 hne1 O0 K5 K6 hszz HGN HGN2 HSV HNW H1C hm1 hm2
      obtain ⟨k, hk, r1, r2, r3⟩ := HRM.out
      have R3 := Lib.hid r3
      have u1 : (l.length : Int) ≠ 0 := Int.natCast_ne_zero.2 (Nat.ne_of_gt HN1.out)
      have u2 : ((l.length : Int) == 0) = false := beq_eq_false_iff_ne.2 u1
      have y3 := HE8.out.hx.cell 3
      have k0 : (0 : Int) ≤ (k : Int) := Int.natCast_nonneg k
      have k1 : (k : Int) < (l.length : Int) := Int.ofNat_lt.2 hk
      obtain ⟨p1, p0, p2⟩ := HE8.out.cell k hk
      clear r3 HRM
      go_upto_region 11 with (fail)
      have HE9 := Lib.hid (HE8.out.put k hk 0)
      clear y3 p1 p0 p2 r1 r2 u1 u2 HE8
      generalize W8.setCell ⟨g1, k * 2 + 1, none⟩ (.int .i64 0) = W9 at *
      have y0 := HE9.out.hx.cell 0
      have y1 := HE9.out.hx.cell 1
      have y2 := HE9.out.hx.cell 2
      have y3 := HE9.out.hx.cell 3
      have HM9 := Lib.hid (HE9.out.may (inB_set l hb k hk 0) (by rw [List.length_set]; omega))
      rw [gmay_block0 k hk] at HM9
      go_wp2_with fail
      refine HM9.out.mono ?_
      rintro e w10 ⟨rfl, hb10⟩
      have HE10 := Lib.hid (HE9.out.go hb10)
      clear y0 y1 y2 y3 HM9 HE9 hb10
      have hk9 : k < (l.set k ⟨l[k].f0, 0⟩).length := by rw [List.length_set]; exact hk
      obtain ⟨p1, p0, p2⟩ := HE10.out.cell k hk9
      have y3 := HE10.out.hx.cell 3
      go_upto_region 14 with (fail)
      have HE11 := Lib.hid (HE10.out.put k hk9 7)
      rw [set_twice l k hk 0 7 hk9] at HE11
      clear y3 p1 p0 p2 HE10
      generalize w10.setCell ⟨g1, k * 2 + 1, none⟩ (.int .i64 7) = W11 at *
      have y0 := HE11.out.hx.cell 0
      have y1 := HE11.out.hx.cell 1
      have y2 := HE11.out.hx.cell 2
      have y3 := HE11.out.hx.cell 3
      have HM11 := Lib.hid (HE11.out.may (inB_set l hb k hk 7) (by rw [List.length_set]; omega))
      have h7 := gmay_block7 HM.out k hk 0 l.length (.inr rfl) (by omega)
      rw [List.replicate_zero, List.append_nil, List.take_of_length_le (by rw [List.length_set]; exact Nat.le_refl _)] at h7
      rw [h7] at HM11
      clear h7
      go_wp2_with fail
      refine HM11.out.mono ?_
      rintro e w12 ⟨rfl, hb12⟩
      have HE12 := Lib.hid (HE11.out.go hb12)
      clear y0 y1 y2 y3 HM11 HE11 hb12
      have HR0 := Lib.hid (show ElR w bx #[.int .i64 id, .int .u8 kind, .int .i64 field, .slice (some ad) l.length cp] id kind field l k hk w12 from ⟨0, l.length, g1, cap1, Lib.hid rfl, by have := HN16.out; omega, by rw [L7_zero]; exact HE12.out⟩)
      clear HE12
      go_wp2_with fail
      go_loopw [] (fun wr => ElR w bx #[.int .i64 id, .int .u8 kind, .int .i64 field, .slice (some ad) l.length cp] id kind field l k hk wr) (fun wr => 17 - lenAt wr bx)
      case atStart => exact HR0.out
      case round =>
        obtain ⟨j, n, g, cap, hn, hj, HE⟩ := hrel
        have HL := Lib.hid HE.lenAt
        have y3 := HE.hx.cell 3
        have HEE := Lib.hid HE
        clear HE HR0
        by_cases hlt : n ≤ 16
        · have hlt1 : (n : Int) ≤ 16 := by omega
          have O_a := HEE.out.own.alloc (.cells #[.int .u64 0, .int .i64 7] 34)
          have hba : Below wr.heap.size wr (wr.alloc (.cells #[.int .u64 0, .int .i64 7] 34)) := (Below.refl _ _).alloc (Nat.le_refl _) _
          have hsz0 := (HEE.out.go hba).kp.size
          have hm1 : n + 1 ≤ maxLen := by unfold maxLen; omega
          have hm2 : (n + 1) * 16 ≤ 140737488355328 := by omega
          have Y3 := Lib.hid y3
          go_wp2_with (at_builtin; go_must (refine wpList_append_lies _ rfl _ _ _ rfl w.heap.size 34 i34 _ 2 16 Try.underlying23 hi34 hz0 hz1 hz2 rfl (by decide) (.slice (some ⟨g, 0, none⟩) n cap) n (sv (L7 l k hk j)) rfl O_a ⟨wr.heap.size, 0, none⟩ 1 1 [.int .u64 0, .int .i64 7] (by rfl) (by rfl) (World.news_of_block (cs := #[.int .u64 0, .int .i64 7]) (t := 34) (fr := (0, 0)) (heap_alloc_new wr _)) (by simp [Value.oneCell']) (by decide) hm1 hm2 hsz0 _ rfl ?_; intro g2 cap2 w2 P2 G2 _ _; obtain ⟨EN, XB⟩ := HEE.out.app (x := ⟨0, 7⟩) hba P2 G2; have x7 := XB.cell 3; have z7 := XB.frozen 3))
          refine ⟨⟨j + 1, n + 1, g2, cap2, Lib.hid (by rw [hn.out]; rfl), by omega, by rw [← L7_next]; exact EN⟩, ?_⟩
          rw [HL.out, EN.lenAt]
          omega
        · obtain rfl : n = 17 := by omega
          have hlt1 : ¬ ((17 : Nat) : Int) ≤ 16 := by decide
          have hfar := HEE.out.far.2.2.2
          have hc16 : 16 ≤ cap := by omega
          have hc17 : (16 : Int) ≤ (cap : Int) := by omega
          have hc18 : ¬ (cap : Int) < (16 : Int) := by omega
          have hc19 : ¬ cap < 16 := by omega
          have hll := HEE.out.len
          have HM17 := Lib.hid (fun (W : World) (hb2 : Below wr.heap.size wr W) => (HEE.out.go hb2).may (L7_inB l k hk j hb) (by rw [hll]; decide))
          rw [gmay_long (by rw [hll]; decide)] at HM17
          have HM16 := Lib.hid (fun (W : World) (hb2 : Below wr.heap.size wr W) => may16 id kind field (some ⟨g, 0, none⟩) cap (L7 l k hk j) W ((HEE.out.go hb2).C (by rw [hll]; decide)) (L7_inB l k hk j hb) (by rw [hll]; decide))
          rw [show gmay id kind field ((L7 l k hk j).take 16) = true from gmay_block7 HM.out k hk j 16 (.inl rfl) (by have := hn.out; omega)] at HM16
          have HB0 := Lib.hid (Below.refl wr.heap.size wr)
          have x0 := HEE.out.hx.cell 0
          have x1 := HEE.out.hx.cell 1
          have x2 := HEE.out.hx.cell 2
          have x3 := HEE.out.hx.cell 3
          have c0 := HEE.out.hg.cell 0
          have c1 := HEE.out.hg.cell 1
          have c2 := HEE.out.hg.cell 2
          clear hll hfar HL
          go_wp2_with fail
          go_region_held3 (fun W => (W.cell? ⟨bx, 0, none⟩ = some (.int .i64 id) ∧ W.cell? ⟨bx, 1, none⟩ = some (.int .u8 kind) ∧ W.cell? ⟨bx, 2, none⟩ = some (.int .i64 field) ∧ W.cell? ⟨bx, 3, none⟩ = some (.slice (some ⟨g, 0, none⟩) 17 cap)) ∧ (W.cell? ⟨w.heap.size, 0, none⟩ = some (.int .i64 id) ∧ W.cell? ⟨w.heap.size, 1, none⟩ = some (.int .u8 kind) ∧ W.cell? ⟨w.heap.size, 2, none⟩ = some (.int .i64 field))) (go_keep) (first
            | ((go_at_call 12; (with_reducible refine (HM17.out _ (by first | exact HB0.out | exact below_drew1 HB0.out)).mono ?_); rintro e w8 ⟨rfl, hb8⟩; have HB1 : Hid (Below wr.heap.size wr w8) := (by first | exact Lib.hid (HB0.out.trans (hb8.mono HB0.out.size)) | exact Lib.hid ((below_drew1 HB0.out).trans (hb8.mono (below_drew1 HB0.out).size))); have EE1 := HEE.out.go HB1.out; have x0 := EE1.hx.cell 0; have x1 := EE1.hx.cell 1; have x2 := EE1.hx.cell 2; have x3 := EE1.hx.cell 3; have c0 := EE1.hg.cell 0; have c1 := EE1.hg.cell 1; have c2 := EE1.hg.cell 2; clear EE1 hb8))
            | ((go_at_call 12; (with_reducible refine (HM16.out _ (by first | exact HB1.out | exact below_drew1 HB1.out)).mono ?_); rintro e w9 ⟨rfl, hb9⟩; have HB2 : Hid (Below wr.heap.size wr w9) := (by first | exact Lib.hid (HB1.out.trans (hb9.mono HB1.out.size)) | exact Lib.hid ((below_drew1 HB1.out).trans (hb9.mono (below_drew1 HB1.out).size))); have EE2 := HEE.out.go HB2.out; have x0 := EE2.hx.cell 0; have x1 := EE2.hx.cell 1; have x2 := EE2.hx.cell 2; have x3 := EE2.hx.cell 3; have z3 := EE2.hx.frozen 3; have c0 := EE2.hg.cell 0; have c1 := EE2.hg.cell 1; have c2 := EE2.hg.cell 2; clear EE2 hb9)))
          go_wp2_with fail
          refine (may0 id kind field 0 _).mono ?_
          rintro e w10 ⟨rfl, hb10⟩
          have HF := Lib.hid (below_step ((below_step HEE.out.kp HB2.out).setCell (p := ⟨bx, 3, none⟩) HEE.out.le _) hb10)
          go_wp2_with fail
          go_ret
          exact ⟨rfl, HF.out⟩
end Go.Proofs.Ytpmckbpplkkgaaa.Base
namespace Go.Proofs.Ytpmckbpplkkgaaa.Else
open Go.Proofs.YtpmckbpplkkgaaaW.PrintWords Go.Proofs.Ytpmckbpplkkgaaa.Mem
open Go Go.RowKit
theorem core (i k f : Int) (A : Option Addr) (c : Nat) (l : List PGroupTells.S34) (which : Int) (w : World) (hk : 0 ≤ k ∧ k < 256) (hc : l.length ≤ c) (hm : l.length * 16 ≤ 140737488351232) (hb : Base.inB l) (hr : Kd.C PGroupTells.k34 w A l.length l) (hh : (Lit.int .i64 which).wf = true) :
    Calls Try.prog 8 #[.agg #[.int .i64 i, .int .u8 k, .int .i64 f, .slice A l.length c], .int .i64 which] w fun e w' => e = .returned (.bool true) ∧ Below w.heap.size w w' :=
  Base.else_law i k f A c l which w hr hb hc
end Go.Proofs.Ytpmckbpplkkgaaa.Else
