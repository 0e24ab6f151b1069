/- Whether any group may be, which buckets it goes, and its blocks, are the reference's: the law's walk. Conditions: as each contract says. -/
import Derived.Test.YtpmckbpplkkgaaaBox
import Derived.Test.YtpmckbpplkkgaaaRefCh
set_option linter.unusedVariables false
set_option linter.unusedSimpArgs false
namespace Go.Proofs.Ytpmckbpplkkgaaa.Base
open Go Go.RowKit Go.Proofs.Ytpmckbpplkkgaaa.Mem Go.Proofs.YtpmckbpplkkgaaaW.PrintWords Go.Proofs.YtpmckbpplkkgaaaW.PrintLast Go.Proofs.Ytpmckbpplkkgaaa.Fl
open Go.Proofs.Ytpmckbpplkkgaaa.PGroupTells (S34 z34 k34 k34_open k34_mk)
def TeR (w : World) (t : Value) (wr : World) : Prop := ∃ r : Nat, t = .int .i64 (r : Int) ∧ r ≤ 2 ∧ Below w.heap.size w wr
def KeR (n : Nat) (w : World) (t : Value) (wr : World) : Prop := ∃ r : Nat, t = .int .i64 (r : Int) ∧ r ≤ n ∧ Below w.heap.size w wr
def SpR (w : World) (v : Value) (n : Nat) (t : Value) (wr : World) : Prop := ∃ (i : Nat) (xs : List Value), t = .int .i64 (i : Int) ∧ i ≤ n ∧ wr.ownsRow w.heap.size 3 1 v n xs ∧ Below w.heap.size w wr
theorem ints_below (A0 : Option Addr) (c0 : Nat) (A1 : Option Addr) (c1 : Nat) (m : List Int) (w : World) (h0 : Kd.C (Kd.int .i64) w A0 m.length m) (hc0 : m.length ≤ c0) (h1 : Kd.C (Kd.int .i64) w A1 m.length m) (hc1 : m.length ≤ c1) (hl : m.length < 1000000000) :
    Calls Try.prog 13 #[.slice A0 m.length c0, .slice A1 m.length c1] w fun e w' => e = .returned (.bool true) ∧ Below w.heap.size w w' := by
  refine (ints_any A0 c0 m A1 c1 m w h0 hc0 h1 hc1 hl).mono ?_
  rintro e w' ⟨rfl, q, rfl⟩
  rw [beq_self_eq_true]
  exact ⟨rfl, pw_below_drewN (Below.refl _ _) q⟩
theorem wpList_append_zero {P : Program} {w : World} {ops : Array Oper} {rest : List Oper} {o : Oper} {a : Act} {Q : Exit → Act → World → Prop} (hgd : o.guard = none) (s x : Operand) (t : TypeId)
    (ho : o.op = .call { callee := .builtin .append, args := #[s, x], argTypes := #[t, t] }) (e : TypeId) (i : TypeInfo) (ht : P.underlying t = some (.slice e)) (hi : P.info? e = some i)
    (g cap m : Nat) (A : Option Addr) (cp : Nat) (hs : a.eval s = .slice (some ⟨g, 0, none⟩) 0 cap) (hx : a.eval x = .slice A m cp) (hm : m = 0)
    (h : wpList P ops Q rest (a.put o.dst (.slice (some ⟨g, 0, none⟩) 0 cap)) w) : wpList P ops Q (o :: rest) a w := by
  refine wpList_plain hgd fun K hK => ?_
  have hrun : (Builtin.append_ #[t, t] o.type #[.slice (some ⟨g, 0, none⟩) 0 cap, .slice A m cp]).run P w = .ok (.slice (some ⟨g, 0, none⟩) 0 cap) w := by
    subst hm
    rcases A with _ | A
    · simp [Builtin.append_, run_underlying ht, sizeOf, typeInfo, hi, Builtin.lenOf, Builtin.firstCells, storeCells]
    · simp [Builtin.append_, run_underlying ht, sizeOf, typeInfo, hi, Builtin.lenOf, Builtin.firstCells, storeCells, loadCells, loadCellsFrom]
  unfold Oper.wp
  simp [execOp, ho, resolve, invoke, builtin, hs, hx, hrun, Result.andThen]
  exact hK _ _ h
set_option maxHeartbeats 16000000 in
set_option maxRecDepth 100000 in
theorem tells_law (id kind field : Int) (A : Option Addr) (cp : Nat) (l : List S34) (h : Nat) (w : World) (hr : Kd.C k34 w A l.length l) (hb : inB l) (hc : l.length ≤ cp) (hh : h < 4294967296) :
    Calls Try.prog 4 #[gV id kind field A l.length cp, .int .u32 (h : Int)] w fun e w' => e = .returned (.bool true) ∧ Below w.heap.size w w' := by
  have kA := (Below.refl w.heap.size w).alloc (Nat.le_refl _) (.cells #[.int .i64 id, .int .u8 kind, .int .i64 field, .slice A l.length cp] 27)
  have hG := Blk.new w 27 #[.int .i64 id, .int .u8 kind, .int .i64 field, .slice A l.length cp]
  have c0 := hG.cell 0
  have c1 := hG.cell 1
  have c2 := hG.cell 2
  have c3 := hG.cell 3
  by_cases hlen : 100 < l.length
  · have hl1 : (100 : Int) < (l.length : Int) := by omega
    clear hr hb hG
    go_enter Try.func4, Try.ntmps4
    go_wp2_with fail
    refine (awake_any _).mono ?_
    rintro e w1 ⟨rfl, hb1⟩
    go_wp2_with fail
    go_ret
    exact ⟨rfl, kA.trans (hb1.mono kA.size)⟩
  · have hl1 : ¬ (100 : Int) < (l.length : Int) := by omega
    have HR := Lib.hid hr
    have HG := Lib.hid hG
    have KA := Lib.hid kA
    clear hr hG kA
    have hx : Blk ((w.alloc (.cells #[.int .i64 id, .int .u8 kind, .int .i64 field, .slice A l.length cp] 27)).alloc (.cells #[.int .i64 id, .int .u8 kind, .int .i64 field, .slice A l.length cp] 27)) (w.heap.size + 1) 27 #[.int .i64 id, .int .u8 kind, .int .i64 field, .slice A l.length cp] := by
      have := Blk.new (w.alloc (.cells #[.int .i64 id, .int .u8 kind, .int .i64 field, .slice A l.length cp] 27)) 27 #[.int .i64 id, .int .u8 kind, .int .i64 field, .slice A l.length cp]
      simpa using this
    go_enter Try.func4, Try.ntmps4
    go_upto_region 4 with (fail)
    have hszA : (w.alloc (.cells #[.int .i64 id, .int .u8 kind, .int .i64 field, .slice A l.length cp] 27)).heap.size = w.heap.size + 1 := by simp
    generalize w.alloc (.cells #[.int .i64 id, .int .u8 kind, .int .i64 field, .slice A l.length cp] 27) = wA at *
    have K5 := (Below.refl wA.heap.size wA).alloc (Nat.le_refl _) (.cells #[.int .i64 id, .int .u8 kind, .int .i64 field, .slice A l.length cp] 27)
    have G5 := HG.out.alloc (.cells #[.int .i64 id, .int .u8 kind, .int .i64 field, .slice A l.length cp] 27)
    generalize wA.alloc (.cells #[.int .i64 id, .int .u8 kind, .int .i64 field, .slice A l.length cp] 27) = W5 at *
    have HSZ := Lib.hid hszA
    have hne0 : w.heap.size ≠ w.heap.size + 1 := by omega
    have G6 := G5.alloc (.cells #[] 34)
    have B6 := hx.alloc (.cells #[] 34)
    have K6 := K5.alloc K5.size (.cells #[] 34)
    have c3' := G6.cell 3
    have O0 : (W5.alloc (.cells #[] 34)).ownsRow W5.heap.size 34 2 (.slice (some ⟨W5.heap.size, 0, none⟩) 0 0) 0 [] := ⟨by simp, .inr ⟨W5.heap.size, 0, #[], rfl, Nat.le_refl _, heap_alloc_new W5 _, Nat.le_refl _, Nat.zero_le _, by simp, by simp⟩⟩
    obtain ⟨i34, hi34, hz0, hz1, hz2⟩ := info_parts info34
    have y3 := B6.frozen 3
    have x3 := B6.cell 3
    have HX : ∃ EX : World → Prop, EX = fun W => ∃ g1 cap1, ES wA W w.heap.size (w.heap.size + 1) g1 cap1 #[.int .i64 id, .int .u8 kind, .int .i64 field, .slice A l.length cp] id kind field l.length l := ⟨_, rfl⟩
    obtain ⟨EX, hEX⟩ := HX
    have HEX := Lib.hid hEX
    clear hEX
    have hlb : w.heap.size + 1 ≤ w.heap.size + 1 := Nat.le_refl _
    clear c0 c1 c2 c3 hszA
    by_cases hn0 : l.length = 0
    rotate_left
    focus
      obtain ⟨n, hn⟩ : ∃ n, l.length = n := ⟨_, rfl⟩
      have hn1 : 0 < n := by omega
      obtain ⟨ad, hA, hnews⟩ := news_34 (Kd.C_below HR.out (KA.out.trans ((K5.alloc K5.size (.cells #[] 34)).mono KA.out.size))) (by omega)
      have h1c : ∀ u ∈ sv l, u.oneCell' = true := by
        intro u hu
        obtain ⟨x, _, hx⟩ := List.mem_flatMap.1 hu
        simp at hx
        rcases hx with rfl | rfl <;> rfl
      have HNW := Lib.hid hnews
      have H1C := Lib.hid h1c
      have HSV := Lib.hid (show (sv l).length = l.length * 2 from sv_len l)
      have hm1 : 0 + l.length ≤ maxLen := by unfold maxLen; omega
      have hm2 : (0 + l.length) * 16 ≤ 140737488355328 := by omega
      have hszz : W5.heap.size ≤ (W5.alloc (.cells #[] 34)).heap.size := by simp
      have HGN := Lib.hid (show some (w.heap.size + 1) ≠ (Value.slice (some ⟨W5.heap.size, 0, none⟩) 0 0).ownBlock from fun h => absurd (Option.some.inj h) (Nat.ne_of_lt hx.lt))
      have HGN2 := Lib.hid (show some w.heap.size ≠ (Value.slice (some ⟨W5.heap.size, 0, none⟩) 0 0).ownBlock from fun h => absurd (Option.some.inj h) (Nat.ne_of_lt G5.lt))
      have HN1 := Lib.hid (show 0 < l.length by omega)
      have HAD := Lib.hid hA
      clear hnews h1c hn hn1 hn0 hA
      go_upto_region 5 with (at_builtin; go_must (refine wpList_append_lies _ rfl _ _ _ rfl W5.heap.size 34 i34 _ 2 16 Try.underlying23 hi34 hz0 hz1 hz2 rfl (by decide) (.slice (some ⟨W5.heap.size, 0, none⟩) 0 0) 0 [] rfl O0 ad l.length cp (sv l) (by show Value.slice A l.length cp = _; rw [HAD.out]) HSV.out HNW.out H1C.out HN1.out hm1 hm2 hszz _ rfl ?_; intro g1 cap1 w6 P1 G1 _ _; rw [Nat.zero_add, List.nil_append] at P1; have B7 := B6.grown G1 HGN.out; have G7 := G6.grown G1 HGN2.out; have K7 := K6.grown G1 K6.size (fun j e => by cases e; exact K5.size); have y7 := B7.frozen 3; have x7 := B7.cell 3))
      have hne1 : g1 ≠ w.heap.size + 1 := fun e => own_type P1 B7 (by decide) (by rw [e]; rfl)
      have E8 : EX (w6.setCell ⟨w.heap.size + 1, 3, none⟩ (.slice (some ⟨g1, 0, none⟩) l.length cap1)) := by
        rw [HEX.out]
        exact ⟨g1, cap1, rfl, K7.setCell (Nat.le_of_eq HSZ.out) _, G7.far (p := ⟨w.heap.size + 1, 3, none⟩) hne0 _, B7.set_ 3 _, own_mono (own_fp P1 ((Fp.refl (fun j => j = w.heap.size + 1) w6).set_ _ (fun _ => rfl)) (fun j e e2 => hne1 (by injection e with e; exact e.trans e2))) K5.size, hne0, Nat.le_of_eq HSZ.out⟩
      clear HGN HGN2 HSV HNW H1C hm1 hm2 hszz P1 G1 B7 G7 K7 y7 x7 hne1 HN1
      generalize w6.setCell ⟨w.heap.size + 1, 3, none⟩ (.slice (some ⟨g1, 0, none⟩) l.length cap1) = W8 at *
    rotate_left
    focus
      have HN0 := Lib.hid hn0
      have hl0 : l = [] := List.length_eq_zero_iff.1 hn0
      have E8 : EX ((W5.alloc (.cells #[] 34)).setCell ⟨w.heap.size + 1, 3, none⟩ (.slice (some ⟨W5.heap.size, 0, none⟩) 0 0)) := by
        rw [HEX.out]
        refine ⟨W5.heap.size, 0, ⟨rfl, K6.setCell (Nat.le_of_eq HSZ.out) _, G6.far (p := ⟨w.heap.size + 1, 3, none⟩) hne0 _, ?_, ?_, hne0, Nat.le_of_eq HSZ.out⟩⟩
        · rw [hn0]
          exact B6.set_ 3 _
        · rw [hn0, hl0]
          exact own_mono (own_fp O0 ((Fp.refl (fun j => j = w.heap.size + 1) _).set_ _ (fun _ => rfl)) (fun j e e2 => absurd (by injection e with e; exact e.trans e2 : W5.heap.size = w.heap.size + 1) (Nat.ne_of_gt hx.lt))) K5.size
      clear hn0 hl0
      go_upto_region 5 with (at_builtin; go_must (refine wpList_append_zero rfl _ _ 23 rfl 34 i34 Try.underlying23 hi34 W5.heap.size 0 l.length A cp (by rfl) (by rfl) HN0.out ?_))
      clear HN0
      generalize (W5.alloc (.cells #[] 34)).setCell ⟨w.heap.size + 1, 3, none⟩ (.slice (some ⟨W5.heap.size, 0, none⟩) 0 0) = W8 at *
    all_goals
      rw [HEX.out] at E8
      obtain ⟨g1, cap1, HE8⟩ := E8
      have HE8 := Lib.hid HE8
      clear HEX O0 B6 G6 K6 c3' y3 x3 hx G5 K5 hi34 hz0 hz1 hz2
      generalize w.heap.size + 1 = bx at *
      have c0 := HE8.out.hg.cell 0
      have c1 := HE8.out.hg.cell 1
      have c2 := HE8.out.hg.cell 2
      have c3 := HE8.out.hg.cell 3
      go_wp2_with fail
      refine (refgch_any id kind field _ cp l h W8 (Kd.C_below HR.out (KA.out.trans (HE8.out.kp.mono KA.out.size))) hb (by omega) hh).mono ?_
      rintro e w9 ⟨v1, rfl, ho1, hb9⟩
      have hlo := gch_len id kind field l h
      obtain ⟨A1, cp1, rfl, hcp1, hC1⟩ := ch_C ho1 (by omega)
      have HE9 := Lib.hid (HE8.out.go hb9)
      have HC1 := Lib.hid hC1
      have HCP1 := Lib.hid hcp1
      obtain ⟨o, ho'⟩ : ∃ o, gch id kind field l h = o := ⟨_, rfl⟩
      have HO := Lib.hid ho'
      rw [ho'] at HC1 HCP1 hlo ⊢
      have HLO := Lib.hid hlo
      obtain ⟨bs, hbs⟩ : ∃ bs, o.isSome = bs := ⟨_, rfl⟩
      obtain ⟨ol, hol⟩ : ∃ ol, (o.getD []).length = ol := ⟨_, rfl⟩
      rw [hbs, hol]
      have HBS := Lib.hid hbs
      have HOLE := Lib.hid hol
      have hol9 : ol ≤ 101 := by omega
      clear ho' c0 c1 c2 c3 ho1 hb9 HE8 hC1 hcp1 hlo hbs hol
      have HR0 := Lib.hid (show TeR w9 (.int .i64 0) w9 from ⟨0, rfl, by decide, Below.refl _ _⟩)
      go_wp2_with fail
      go_loopw [8] (fun t8 wr => TeR w9 t8 wr) (fun t8 _ => 2 - (intOf t8).toNat)
      case atStart => exact HR0.out
      case round =>
        clear HR0
        obtain ⟨r, rfl, hr2, hB⟩ := hrel
        by_cases hlt : r < 2
        · have k1 : (r : Int) < 2 := by omega
          have HEr := Lib.hid (HE9.out.go hB)
          have HCr := Lib.hid (Kd.C_below HC1.out hB)
          have HBr := Lib.hid hB
          obtain ⟨wa, hwa⟩ : ∃ wa, wr = wa := ⟨_, rfl⟩
          rw [hwa] at HEr HCr HBr ⊢
          clear hwa hB
          have x0 := HEr.out.hx.cell 0
          have x1 := HEr.out.hx.cell 1
          have x2 := HEr.out.hx.cell 2
          have x3 := HEr.out.hx.cell 3
          have hll9 := HEr.out.len
          have HCH := Lib.hid (gchoose_any id kind field (some ⟨g1, 0, none⟩) cap1 l h wa (HEr.out.C (by omega)) hb (by omega) hh)
          rw [HO.out] at HCH
          clear hll9
          go_wp2_with fail
          refine HCH.out.mono ?_
          rintro e wb ⟨v2, rfl, ho2, hb2⟩
          have hlo := HLO.out
          obtain ⟨A2, cp2, rfl, hcp2, hC2⟩ := ch_C ho2 (by omega)
          have hll : ((o.getD []).map (fun (n : Nat) => (n : Int))).length = (o.getD []).length := List.length_map ..
          have HQ := Lib.hid (ints_any A2 cp2 ((o.getD []).map (fun (n : Nat) => (n : Int))) A1 cp1 ((o.getD []).map (fun (n : Nat) => (n : Int))) wb hC2 (by rw [hll]; exact hcp2) (Kd.C_below HCr.out hb2) (by rw [hll]; exact HCP1.out) (by rw [hll]; omega))
          rw [hll, beq_self_eq_true] at HQ
          have HO2 := Lib.hid ho2
          have HB2 := Lib.hid hb2
          rw [HOLE.out] at HQ HO2
          rw [HBS.out, HOLE.out]
          clear hlo hll hC2 hcp2 ho2 hb2 x0 x1 x2 x3 HCH
          go_wp2_with fail
          refine HQ.out.mono ?_
          rintro e wc ⟨rfl, q, rfl⟩
          have HS0 := Lib.hid (show SpR wa (.slice A2 ol cp2) ol (.int .i64 0) (wb.drewN q) from ⟨0, _, rfl, Nat.zero_le _, own_go HO2.out (pw_below_drewN (Below.refl _ _) q), pw_below_drewN HB2.out q⟩)
          clear HQ HO2 HB2
          generalize wb.drewN q = wc at *
          go_wp2_with fail
          go_loopw [11] (fun t11 wr => SpR wa (.slice A2 ol cp2) ol t11 wr) (fun t11 _ => ol - (intOf t11).toNat)
          case atStart => exact HS0.out
          case round =>
            clear HS0
            obtain ⟨i, xs, rfl, hi, ho, hB⟩ := hrel
            by_cases hil : i < ol
            · have i1 : (i : Int) < (ol : Int) := by omega
              have i0 : (0 : Int) ≤ (i : Int) := by omega
              rcases ho.2 with ⟨hv, h0⟩ | ⟨g, cap, cur, hv, _⟩
              · exact absurd h0 (by omega)
              · injection hv with e1 e2 e3
                subst e1
                have hxl : xs.length = ol * 1 := ho.1
                obtain ⟨y, hy⟩ : ∃ y, xs[i]? = some y := ⟨_, List.getElem?_eq_getElem (by omega)⟩
                have e5 := (ho.cellAt i (by omega)).trans hy
                have z5 := ho.frozenAt i
                have hge := (ho.lt g rfl).1
                have HO := Lib.hid ho
                have HB := Lib.hid hB
                clear hxl hy ho hB
                go_wp2_with fail
                go_roundw
                case rel => exact ⟨i + 1, _, by go_num, by omega, (HO.out.stored i _).1, HB.out.setCell (p := ⟨g, i, none⟩) hge _⟩
                case measure => simp [intOf]; omega
            · obtain rfl : i = ol := by omega
              have i1 : ¬ (i : Int) < (i : Int) := by omega
              have HB := Lib.hid (below_step HBr.out hB)
              clear hB ho
              go_wp2_with fail
              refine ⟨⟨r + 1, by go_num, by omega, HB.out⟩, ?_⟩
              simp [intOf]
              omega
        · obtain rfl : r = 2 := by omega
          have k1 : ¬ ((2 : Nat) : Int) < 2 := by decide
          have HK0 := Lib.hid (show KeR l.length wr (.int .i64 0) wr from ⟨0, rfl, Nat.zero_le _, Below.refl _ _⟩)
          have HEs := Lib.hid (HE9.out.go hB)
          obtain ⟨ws, hws⟩ : ∃ ws, wr = ws := ⟨_, rfl⟩
          rw [hws] at HK0 HEs ⊢
          clear hws hB hr2 hlt
          go_wp2_with fail
          go_loopw [12] (fun t12 wr => KeR l.length ws t12 wr) (fun t12 _ => l.length - (intOf t12).toNat)
          case atStart => exact HK0.out
          case round =>
            clear HK0
            obtain ⟨k, rfl, hk, hB⟩ := hrel
            have HEk := Lib.hid (HEs.out.go hB)
            have HB := Lib.hid hB
            have c3 := HEk.out.hg.cell 3
            have x3 := HEk.out.hx.cell 3
            by_cases hlt : k < l.length
            · have k0 : (0 : Int) ≤ (k : Int) := Int.natCast_nonneg k
              have k1 : (k : Int) < (l.length : Int) := Int.ofNat_lt.2 hlt
              obtain ⟨p1, p0, -⟩ := HEk.out.cell k hlt
              obtain ⟨gA, o', cs, hA, hK, -, hcell⟩ := row_at (Kd.C_below HR.out (KA.out.trans (HEk.out.kp.mono KA.out.size))) (by decide : 0 < k34.sz) hlt
              obtain rfl := k34_open hK
              have hsz : k34.sz = 2 := rfl
              rw [hsz] at hcell
              have e0 := hcell 0 _ rfl
              rw [Nat.add_zero] at e0
              have e1 := hcell 1 _ rfl
              subst hA
              clear hK hcell hsz hB
              generalize l[k] = x at *
              go_wp2_with fail
              go_quiet (fail)
              go_wp2_with fail
              go_roundw
              case rel => exact ⟨k + 1, by go_num, hlt, pw_below_drewN HB.out _⟩
              case measure => simp [intOf]; omega
            · obtain rfl : k = l.length := by omega
              have k1 : ¬ (l.length : Int) < (l.length : Int) := Int.lt_irrefl _
              have hll9 := HEk.out.len
              have hgl : (gblk blkOf id kind field l).length ≤ 101 := by
                unfold gblk
                split
                · have := blkOf_len (l.map (·.f1)); rw [List.length_map] at this; omega
                · exact Nat.zero_le _
              have HKW := Lib.hid (below_step KA.out HEk.out.kp)
              have HB := Lib.hid (Below.refl wr.heap.size wr)
              have HM1 := Lib.hid (fun (W : World) (hb2 : Below wr.heap.size wr W) => (HEk.out.go hb2).may hb (by omega))
              have HM2 := Lib.hid (fun (W : World) (hb2 : Below wr.heap.size wr W) => refgmay_any id kind field _ cp l W (Kd.C_below HR.out (KA.out.trans ((HEk.out.go hb2).kp.mono KA.out.size))) hb (by omega))
              have HM3 := Lib.hid (fun (W : World) (hb2 : Below wr.heap.size wr W) => gblocks_any id kind field (some ⟨g1, 0, none⟩) cap1 l W ((HEk.out.go hb2).C (by omega)) hb (by omega))
              have HM4 := Lib.hid (fun (W : World) (hb2 : Below wr.heap.size wr W) => refblk_any id kind field _ cp l W (Kd.C_below HR.out (KA.out.trans ((HEk.out.go hb2).kp.mono KA.out.size))) hb (by omega))
              obtain ⟨m, hm⟩ : ∃ m, gblk blkOf id kind field l = m := ⟨_, rfl⟩
              rw [hm] at HM3 HM4 hgl
              have hms := Lib.hid (show m.length < 1000000000 by omega)
              have HQI := Lib.hid (fun (A5 : Option Addr) (c5 : Nat) (A6 : Option Addr) (c6 : Nat) (W : World) (h1 : Kd.C (Kd.int .i64) W A5 m.length m) (h2 : m.length ≤ c5) (h3 : Kd.C (Kd.int .i64) W A6 m.length m) (h4 : m.length ≤ c6) => ints_below A5 c5 A6 c6 m W h1 h2 h3 h4 hms.out)
              have x0 := HEk.out.hx.cell 0
              have x1 := HEk.out.hx.cell 1
              have x2 := HEk.out.hx.cell 2
              have c0 := HEk.out.hg.cell 0
              have c1 := HEk.out.hg.cell 1
              have c2 := HEk.out.hg.cell 2
              generalize gmay id kind field l = gm at *
              clear hm hgl hll9 hB
              go_wp2_with fail
              go_region_held3 (fun W => (W.cell? ⟨bx, 0, none⟩ = some (.int .i64 id) ∧ W.cell? ⟨bx, 1, none⟩ = some (.int .u8 kind) ∧ W.cell? ⟨bx, 2, none⟩ = some (.int .i64 field) ∧ W.cell? ⟨bx, 3, none⟩ = some (.slice (some ⟨g1, 0, none⟩) l.length cap1)) ∧ (W.cell? ⟨w.heap.size, 0, none⟩ = some (.int .i64 id) ∧ W.cell? ⟨w.heap.size, 1, none⟩ = some (.int .u8 kind) ∧ W.cell? ⟨w.heap.size, 2, none⟩ = some (.int .i64 field) ∧ W.cell? ⟨w.heap.size, 3, none⟩ = some (.slice A l.length cp))) (go_keep) (first
                | ((go_at_call 12; (with_reducible refine (HM1.out _ (by first | exact HB.out | exact below_drew1 HB.out)).mono ?_); rintro e wq ⟨rfl, hbq⟩; have HB := (by first | exact Lib.hid (below_step HB.out hbq) | exact Lib.hid (below_step (below_drew1 HB.out) hbq) : Hid (Below wr.heap.size wr wq)); have EE := HEk.out.go HB.out; have x0 := EE.hx.cell 0; have x1 := EE.hx.cell 1; have x2 := EE.hx.cell 2; have x3 := EE.hx.cell 3; have c0 := EE.hg.cell 0; have c1 := EE.hg.cell 1; have c2 := EE.hg.cell 2; have c3 := EE.hg.cell 3; clear EE; clear hbq))
                | ((go_at_call 17; (with_reducible refine (HM2.out _ (by first | exact HB.out | exact below_drew1 HB.out)).mono ?_); rintro e wq ⟨rfl, hbq⟩; have HB := (by first | exact Lib.hid (below_step HB.out hbq) | exact Lib.hid (below_step (below_drew1 HB.out) hbq) : Hid (Below wr.heap.size wr wq)); have EE := HEk.out.go HB.out; have x0 := EE.hx.cell 0; have x1 := EE.hx.cell 1; have x2 := EE.hx.cell 2; have x3 := EE.hx.cell 3; have c0 := EE.hg.cell 0; have c1 := EE.hg.cell 1; have c2 := EE.hg.cell 2; have c3 := EE.hg.cell 3; clear EE; clear hbq))
                | ((go_at_call 14; (with_reducible refine (HM3.out _ (by first | exact HB.out | exact below_drew1 HB.out)).mono ?_); rintro e wq ⟨A5, c5, rfl, hc5, hC5, hbq⟩; have HB := (by first | exact Lib.hid (below_step HB.out hbq) | exact Lib.hid (below_step (below_drew1 HB.out) hbq) : Hid (Below wr.heap.size wr wq)); have HC5 := Lib.hid hC5; have HCC5 := Lib.hid hc5; have EE := HEk.out.go HB.out; have x0 := EE.hx.cell 0; have x1 := EE.hx.cell 1; have x2 := EE.hx.cell 2; have x3 := EE.hx.cell 3; have c0 := EE.hg.cell 0; have c1 := EE.hg.cell 1; have c2 := EE.hg.cell 2; have c3 := EE.hg.cell 3; clear EE; clear hbq hC5 hc5))
                | ((go_at_call 18; (with_reducible refine (HM4.out _ (by first | exact HB.out | exact below_drew1 HB.out)).mono ?_); rintro e wq ⟨A6, c6, rfl, hc6, hC6, hbq⟩; have HB := (by first | exact Lib.hid (below_step HB.out hbq) | exact Lib.hid (below_step (below_drew1 HB.out) hbq) : Hid (Below wr.heap.size wr wq)); have HC5 := (by first | exact Lib.hid (Kd.C_below HC5.out hbq) | exact Lib.hid (Kd.C_below (Kd.C_drewN HC5.out 1) hbq) : Hid (Kd.C (Kd.int .i64) wq A5 m.length m)); have HC6 := Lib.hid hC6; have HCC6 := Lib.hid hc6; have EE := HEk.out.go HB.out; have x0 := EE.hx.cell 0; have x1 := EE.hx.cell 1; have x2 := EE.hx.cell 2; have x3 := EE.hx.cell 3; have c0 := EE.hg.cell 0; have c1 := EE.hg.cell 1; have c2 := EE.hg.cell 2; have c3 := EE.hg.cell 3; clear EE; clear hbq hC6 hc6))
                | ((go_at_call 13; (with_reducible refine (HQI.out A5 c5 A6 c6 _ (by first | exact HC5.out | exact Kd.C_drewN HC5.out 1) HCC5.out (by first | exact HC6.out | exact Kd.C_drewN HC6.out 1) HCC6.out).mono ?_); rintro e wq ⟨rfl, hbq⟩; have HB := (by first | exact Lib.hid (below_step HB.out hbq) | exact Lib.hid (below_step (below_drew1 HB.out) hbq) : Hid (Below wr.heap.size wr wq)); have EE := HEk.out.go HB.out; have x0 := EE.hx.cell 0; have x1 := EE.hx.cell 1; have x2 := EE.hx.cell 2; have x3 := EE.hx.cell 3; have c0 := EE.hg.cell 0; have c1 := EE.hg.cell 1; have c2 := EE.hg.cell 2; have c3 := EE.hg.cell 3; clear EE; clear hbq))
                | ((go_at_call 10; (with_reducible refine (awake_any _).mono ?_); rintro e wq ⟨rfl, hbq⟩; have HB := (by first | exact Lib.hid (below_step HB.out hbq) | exact Lib.hid (below_step (below_drew1 HB.out) hbq) : Hid (Below wr.heap.size wr wq)); have EE := HEk.out.go HB.out; have x0 := EE.hx.cell 0; have x1 := EE.hx.cell 1; have x2 := EE.hx.cell 2; have x3 := EE.hx.cell 3; have c0 := EE.hg.cell 0; have c1 := EE.hg.cell 1; have c2 := EE.hg.cell 2; have c3 := EE.hg.cell 3; clear EE; clear hbq)))
              go_wp2_with fail
              go_ret
              exact ⟨rfl, below_step HKW.out HB.out⟩
end Go.Proofs.Ytpmckbpplkkgaaa.Base
namespace Go.Proofs.Ytpmckbpplkkgaaa.Tells
open Go.Proofs.YtpmckbpplkkgaaaW.PrintWords Go.Proofs.Ytpmckbpplkkgaaa.Mem
open Go Go.RowKit
theorem core (i k f : Int) (A : Option Addr) (c : Nat) (l : List PGroupTells.S34) (h : Int) (w : World) (hk : 0 ≤ k ∧ k < 256) (hc : l.length ≤ c) (hm : l.length * 16 ≤ 140737488351232) (hb : Base.inB l) (hr : Kd.C PGroupTells.k34 w A l.length l) (hh : (Lit.int .u32 h).wf = true) :
    Calls Try.prog 4 #[.agg #[.int .i64 i, .int .u8 k, .int .i64 f, .slice A l.length c], .int .u32 h] w fun e w' => e = .returned (.bool true) ∧ Below w.heap.size w w' := by
  have h2 : 0 ≤ h ∧ h < 4294967296 := by
    have : IntKind.u32.min ≤ h ∧ h ≤ IntKind.u32.max := by simpa [Lit.wf] using hh
    simp [IntKind.min, IntKind.max, IntKind.signed, IntKind.bits] at this
    omega
  obtain ⟨h2, h3⟩ := h2
  obtain ⟨j, rfl⟩ : ∃ k : Nat, h = (k : Int) := ⟨h.toNat, by omega⟩
  exact Base.tells_law i k f A c l j w hr hb hc (by omega)
end Go.Proofs.Ytpmckbpplkkgaaa.Tells
