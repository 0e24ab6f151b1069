/- Which one is gone hangs on weights and number alone: the law's walk. Conditions: as each contract says. -/
import Derived.Test.YtpmckbpplkkgaaaBox
import Derived.Test.YtpmckbpplkkgaaaAlonePure
set_option linter.unusedVariables false
set_option linter.unusedSimpArgs false
namespace Go.Proofs.Ytpmckbpplkkgaaa.Base
open Go Go.RowKit Go.Proofs.Ytpmckbpplkkgaaa.Mem Go.Proofs.YtpmckbpplkkgaaaW.PrintWords Go.Proofs.YtpmckbpplkkgaaaW.PrintLast Go.Proofs.Ytpmckbpplkkgaaa.Fl
open Go.Proofs.Ytpmckbpplkkgaaa.PGroupTells (S34 z34 k34 k34_open k34_mk)
def AlR (w : World) (gx bx : Nat) (GX : Array Value) (i k f : Int) (ws : List Int) (n : Nat) (t : Value) (wr : World) : Prop :=
  ∃ (j : Nat) (L : List S34) (g cap : Nat), t = .int .i64 (j : Int) ∧ j ≤ n ∧ ES w wr gx bx g cap GX i k f n L ∧ Hid (L.map (·.f0) = ws) ∧ Hid (∀ x ∈ L.take j, 1 ≤ x.f1 ∧ x.f1 ≤ 65534)
theorem set_ws (L : List S34) (j : Nat) (hj : j < L.length) (v : Int) : (L.set j ⟨L[j].f0, v⟩).map (·.f0) = L.map (·.f0) := by
  rw [List.map_set]
  apply List.ext_getElem?
  intro i
  rw [List.getElem?_set]
  split
  · next h =>
    subst h
    split
    · rw [List.getElem?_map, List.getElem?_eq_getElem hj]; rfl
    · next h2 => rw [List.length_map] at h2; exact absurd hj h2
  · rfl
theorem set_ok (L : List S34) (j : Nat) (hj : j < L.length) (v : Int) (h1 : 1 ≤ v ∧ v ≤ 65534) (h : ∀ x ∈ L.take j, 1 ≤ x.f1 ∧ x.f1 ≤ 65534) : ∀ x ∈ (L.set j ⟨L[j].f0, v⟩).take (j + 1), 1 ≤ x.f1 ∧ x.f1 ≤ 65534 := by
  intro x hx
  rw [List.take_succ_eq_append_getElem (by rw [List.length_set]; exact hj)] at hx
  rcases List.mem_append.1 hx with hx | hx
  · rw [List.take_set_of_le (Nat.le_refl j)] at hx
    exact h x hx
  · rw [List.getElem_set_self] at hx
    simp at hx
    subst hx
    exact h1
theorem id_fact (a : Int) (h0 : 0 ≤ a) (h1 : a < 65536) : 1 ≤ 1 + a % 65534 ∧ 1 + a % 65534 ≤ 65534 := by omega
theorem blk_fact (c : Int) (j : Nat) (h0 : 0 ≤ c) (h1 : c < 65536) (hj : j < 1000) : 1 ≤ 1 + (c + (j : Int) * 7) % 65534 ∧ 1 + (c + (j : Int) * 7) % 65534 ≤ 65534 := by omega
set_option maxHeartbeats 16000000 in
set_option maxRecDepth 100000 in
theorem alone_law (id kind field : Int) (A : Option Addr) (cp : Nat) (l : List S34) (h : Nat) (a b c : Int) (w : World) (hr : Kd.C k34 w A l.length l) (hb : inB l) (hc : l.length ≤ cp) (hh : h < 4294967296) (ha0 : 0 ≤ a) (ha1 : a < 65536) (hb0 : 0 ≤ b) (hb1 : b < 65536) (hc0 : 0 ≤ c) (hc1 : c < 65536) :
    Calls Try.prog 6 #[gV id kind field A l.length cp, .int .u32 (h : Int), .int .u16 a, .int .u16 b, .int .u16 c] w fun e w' => e = .returned (.bool true) ∧ Below w.heap.size w w' := by
  have kA := (Below.refl w.heap.size w).alloc (Nat.le_refl _) (.cells #[.int .i64 id, .int .u8 kind, .int .i64 field, .slice A l.length cp] 27)
  have hG := Blk.new w 27 #[.int .i64 id, .int .u8 kind, .int .i64 field, .slice A l.length cp]
  have c0 := hG.cell 0
  have c1 := hG.cell 1
  have c2 := hG.cell 2
  have c3 := hG.cell 3
  by_cases hlen : 100 < l.length
  · have hl1 : (100 : Int) < (l.length : Int) := by omega
    clear hr hb hG
    go_enter Try.func6, Try.ntmps6
    go_wp2_with fail
    refine (awake_any _).mono ?_
    rintro e w1 ⟨rfl, hb1⟩
    go_wp2_with fail
    go_ret
    exact ⟨rfl, kA.trans (hb1.mono kA.size)⟩
  · have hl1 : ¬ (100 : Int) < (l.length : Int) := by omega
    have HR := Lib.hid hr
    have HG := Lib.hid hG
    have KA := Lib.hid kA
    clear hr hG kA
    go_enter Try.func6, Try.ntmps6
    go_wp2_with fail
    generalize w.alloc (.cells #[.int .i64 id, .int .u8 kind, .int .i64 field, .slice A l.length cp] 27) = wA at *
    refine (gmay_any id kind field A cp l wA (Kd.C_below HR.out KA.out) hb (by omega)).mono ?_
    rintro e w1 ⟨rfl, hbw⟩
    have HG1 := Lib.hid (HG.out.go hbw)
    have KA1 := Lib.hid (KA.out.trans (hbw.mono KA.out.size))
    clear hbw c0 c1 c2 c3 HG KA
    have c0 := HG1.out.cell 0
    have c1 := HG1.out.cell 1
    have c2 := HG1.out.cell 2
    have c3 := HG1.out.cell 3
    cases hm : gmay id kind field l
    · go_wp2_with fail
      refine (awake_any _).mono ?_
      rintro e w2 ⟨rfl, hb2⟩
      go_wp2_with fail
      go_ret
      exact ⟨rfl, KA1.out.trans (hb2.mono KA1.out.size)⟩
    · have HM := Lib.hid hm
      clear hm
      go_wp2_with fail
      refine (awake_any _).mono ?_
      rintro e w2 ⟨rfl, hb2⟩
      have HG2 := Lib.hid (HG1.out.go hb2)
      have KA2 := Lib.hid (KA1.out.trans (hb2.mono KA1.out.size))
      clear hb2 c0 c1 c2 c3 HG1 KA1
      have c0 := HG2.out.cell 0
      have c1 := HG2.out.cell 1
      have c2 := HG2.out.cell 2
      have c3 := HG2.out.cell 3
      go_wp2_with fail
      refine (gchoose_any id kind field A cp l h w2 (Kd.C_below HR.out KA2.out) hb (by omega) hh).mono ?_
      rintro e w3 ⟨v, rfl, ho, hb3⟩
      have HG3 := Lib.hid (HG2.out.go hb3)
      have KA3 := Lib.hid (KA2.out.trans (hb3.mono KA2.out.size))
      have hlo := gch_len id kind field l h
      obtain ⟨A2, cp2, rfl, hcp2, hC2⟩ := ch_C ho (by omega)
      have HC2 := Lib.hid hC2
      obtain ⟨o, ho'⟩ : ∃ o, gch id kind field l h = o := ⟨_, rfl⟩
      have HO := Lib.hid ho'
      rw [ho'] at HC2 hcp2 hlo ⊢
      clear ho'
      clear hb3 c0 c1 c2 c3 HG2 KA2 ho hC2
      have hx : Blk (w3.alloc (.cells #[.int .i64 id, .int .u8 kind, .int .i64 field, .slice A l.length cp] 27)) w3.heap.size 27 #[.int .i64 id, .int .u8 kind, .int .i64 field, .slice A l.length cp] := Blk.new w3 27 _
      have c0 := HG3.out.cell 0
      have c1 := HG3.out.cell 1
      have c2 := HG3.out.cell 2
      have c3 := HG3.out.cell 3
      have e1 := (HG3.out.alloc (.cells #[.int .i64 (1 + a % 65534), .int .u8 kind, .int .i64 field, .slice A l.length cp] 27)).cell 1
      have x0 := hx.cell 0
      have x2 := hx.cell 2
      have z0 := hx.frozen 0
      have z2 := hx.frozen 2
      obtain ⟨q2, hq2⟩ : ∃ q, (kind == 2) = q := ⟨_, rfl⟩
      have HF : ∃ f1 : Int, Hid (if kind = 1 then f1 = field else 1 ≤ f1 ∧ f1 ≤ 65534) ∧ f1 = (if q2 then 1 + b % 65534 else field) := by
        refine ⟨_, Lib.hid ?_, rfl⟩
        obtain ⟨bb, hk, -⟩ := gmay_parts HM.out
        cases bb
        · have hk2 : kind = 2 := hk
          subst hk2
          rw [if_neg (by decide), ← hq2, show ((2 : Int) == 2) = true from rfl, if_pos rfl]
          omega
        · have hk2 : kind = 1 := hk
          subst hk2
          rw [if_pos rfl, ← hq2, show ((1 : Int) == 2) = false from rfl, if_neg (by decide)]
      obtain ⟨f1, HF1, hf1⟩ := HF
      have HFE := Lib.hid hf1
      clear hf1
      cases q2
      all_goals
        go_upto_region 8 with (fail)
        replace HFE := HFE.out
        simp only [Bool.false_eq_true, if_false, if_true] at HFE
        try rw [← HFE]
        clear c0 c1 c2 c3 e1 x0 x2 z0 z2 hx HFE
        have K5 := (Below.refl w3.heap.size w3).alloc (Nat.le_refl _) (.cells #[.int .i64 (1 + a % 65534), .int .u8 kind, .int .i64 f1, .slice A l.length cp] 27)
        have B5 := Blk.new w3 27 #[.int .i64 (1 + a % 65534), .int .u8 kind, .int .i64 f1, .slice A l.length cp]
        have G5 := HG3.out.alloc (.cells #[.int .i64 (1 + a % 65534), .int .u8 kind, .int .i64 f1, .slice A l.length cp] 27)
        have hne0 : w.heap.size ≠ w3.heap.size := Nat.ne_of_lt HG3.out.lt
        have HNE := Lib.hid hne0
        have hrow := Lib.hid (Kd.C_below HR.out (KA3.out.alloc KA3.out.size (.cells #[.int .i64 (1 + a % 65534), .int .u8 kind, .int .i64 f1, .slice A l.length cp] 27)))
        generalize w3.alloc (.cells #[.int .i64 (1 + a % 65534), .int .u8 kind, .int .i64 f1, .slice A l.length cp] 27) = W5 at *
        obtain ⟨n, hn⟩ : ∃ n, l.length = n := ⟨_, rfl⟩
        obtain ⟨hn1, hn16⟩ : 1 ≤ n ∧ n ≤ 16 := by obtain ⟨_, _, _, _, h, h2, _⟩ := gmay_parts HM.out; omega
        have G6 := G5.alloc (.cells #[] 34)
        have B6 := B5.alloc (.cells #[] 34)
        have K6 := K5.alloc K5.size (.cells #[] 34)
        have c3 := G6.cell 3
        have O0 : (W5.alloc (.cells #[] 34)).ownsRow W5.heap.size 34 2 (.slice (some ⟨W5.heap.size, 0, none⟩) 0 0) 0 [] := ⟨by simp, .inr ⟨W5.heap.size, 0, #[], rfl, Nat.le_refl _, heap_alloc_new W5 _, Nat.le_refl _, Nat.zero_le _, by simp, by simp⟩⟩
        obtain ⟨ad, rfl, hnews⟩ := news_34 (Kd.C_below hrow.out ((Below.refl _ _).alloc (Nat.le_refl _) (.cells #[] 34))) (by omega)
        obtain ⟨i34, hi34, hz0, hz1, hz2⟩ := info_parts info34
        have h1c : ∀ u ∈ sv l, u.oneCell' = true := by
          intro u hu
          obtain ⟨x, _, hx⟩ := List.mem_flatMap.1 hu
          simp at hx
          rcases hx with rfl | rfl <;> rfl
        have HNW := Lib.hid hnews
        have H1C := Lib.hid h1c
        have y3 := B6.frozen 3
        have HSV := Lib.hid (show (sv l).length = n * 2 from by rw [sv_len, hn])
        have hm1 : 0 + n ≤ maxLen := by unfold maxLen; omega
        have hm2 : (0 + n) * 16 ≤ 140737488355328 := by omega
        have hszz : W5.heap.size ≤ (W5.alloc (.cells #[] 34)).heap.size := by simp
        have HGN := Lib.hid (show some w3.heap.size ≠ (Value.slice (some ⟨W5.heap.size, 0, none⟩) 0 0).ownBlock from fun h => absurd (Option.some.inj h) (Nat.ne_of_lt B5.lt))
        have HGN2 := Lib.hid (show some w.heap.size ≠ (Value.slice (some ⟨W5.heap.size, 0, none⟩) 0 0).ownBlock from fun h => absurd (Option.some.inj h) (Nat.ne_of_lt G5.lt))
        have HN1 := Lib.hid hn1
        have HN := Lib.hid hn
        rw [hn] at c3 B6 G6 ⊢
        clear hnews h1c hn hn1
        go_upto_region 9 with (at_builtin; go_must (refine wpList_append_lies _ rfl _ _ _ rfl W5.heap.size 34 i34 _ 2 16 Try.underlying23 hi34 hz0 hz1 hz2 rfl (by decide) (.slice (some ⟨W5.heap.size, 0, none⟩) 0 0) 0 [] rfl O0 ad n cp (sv l) (by rfl) HSV.out HNW.out H1C.out HN1.out hm1 hm2 hszz _ rfl ?_; intro g1 cap1 w6 P1 G1 _ _; rw [Nat.zero_add, List.nil_append] at P1; have B7 := B6.grown G1 HGN.out; have G7 := G6.grown G1 HGN2.out; have K7 := K6.grown G1 K6.size (fun j e => by cases e; exact K5.size); have y7 := B7.frozen 3; have x7 := B7.cell 3))
        have hne1 : g1 ≠ w3.heap.size := fun e => own_type P1 B7 (by decide) (by rw [e]; rfl)
        have E8 : ES w3 (w6.setCell ⟨w3.heap.size, 3, none⟩ (.slice (some ⟨g1, 0, none⟩) n cap1)) w.heap.size w3.heap.size g1 cap1 #[.int .i64 id, .int .u8 kind, .int .i64 field, .slice (some ad) n cp] (1 + a % 65534) kind f1 n l :=
          ⟨HN.out, K7.setCell (Nat.le_refl _) _, G7.far (p := ⟨w3.heap.size, 3, none⟩) HNE.out _, B7.set_ 3 _, own_mono (own_fp P1 ((Fp.refl (fun j => j = w3.heap.size) w6).set_ _ (fun _ => rfl)) (fun j e e2 => hne1 (by injection e with e; exact e.trans e2))) K5.size, HNE.out, Nat.le_refl _⟩
        have HR0 := Lib.hid (show AlR w3 w.heap.size w3.heap.size #[.int .i64 id, .int .u8 kind, .int .i64 field, .slice (some ad) n cp] (1 + a % 65534) kind f1 (l.map (·.f0)) n (.int .i64 0) (w6.setCell ⟨w3.heap.size, 3, none⟩ (.slice (some ⟨g1, 0, none⟩) n cap1)) from ⟨0, l, g1, cap1, rfl, Nat.zero_le _, E8, Lib.hid rfl, Lib.hid (fun x hx => by simp at hx)⟩)
        clear B5 G5 G6 B6 c3 y3 G1 B7 G7 K7 y7 x7 E8 P1 hne1 O0 K5 K6 hszz HGN HGN2 HSV HNW H1C hm1 hm2 hrow hi34 hz0 hz1 hz2
        generalize w6.setCell ⟨w3.heap.size, 3, none⟩ (.slice (some ⟨g1, 0, none⟩) n cap1) = W8 at *
        go_wp2_with fail
        go_loopw [14] (fun t14 wr => AlR w3 w.heap.size w3.heap.size #[.int .i64 id, .int .u8 kind, .int .i64 field, .slice (some ad) n cp] (1 + a % 65534) kind f1 (l.map (·.f0)) n t14 wr) (fun t14 _ => n - (intOf t14).toNat)
        case atStart => exact HR0.out
        case round =>
          obtain ⟨j, L, g, cap, rfl, hj, HE, hws, hok⟩ := hrel
          have y3 := HE.hx.cell 3
          have HEE := Lib.hid HE
          clear HE HR0
          by_cases hlt : j < n
          · have hlt1 : (j : Int) < (n : Int) := by omega
            have j0 : (0 : Int) ≤ (j : Int) := by omega
            have hjL : j < L.length := by rw [HEE.out.len]; exact hlt
            have HJL := Lib.hid hjL
            obtain ⟨p1, p0, p2⟩ := HEE.out.cell j hjL
            have HBF := Lib.hid (blk_fact c j hc0 hc1 (by omega))
            go_wp2_with fail
            go_roundw
            case rel => exact ⟨j + 1, _, _, _, by go_num, hlt, HEE.out.put j HJL.out _, Lib.hid ((set_ws L j HJL.out _).trans hws.out), Lib.hid (set_ok L j HJL.out _ HBF.out hok.out)⟩
            case measure => simp [intOf]; omega
          · obtain rfl : j = n := by omega
            have hlt1 : ¬ (j : Int) < (j : Int) := by omega
            have hok1 := hok.out
            rw [List.take_of_length_le (Nat.le_of_eq HEE.out.len)] at hok1
            have hbL := inB_of hb hws.out
            have hmL : gmay (1 + a % 65534) kind f1 L = true := by
              obtain ⟨bb, hk, -⟩ := gmay_parts HM.out
              have hm1 := HM.out
              have hf1 := HF1.out
              subst hk
              refine gmay_alone hm1 hws.out (id_fact a ha0 ha1) ?_ hok1
              cases bb
              · rw [if_neg (by decide)] at hf1; exact hf1
              · rw [if_pos (by decide)] at hf1; exact hf1
            have hgL := (gch_alone h HM.out hmL hws.out).trans HO.out
            have HGL := Lib.hid hgL
            have HML := Lib.hid hmL
            have HBL := Lib.hid hbL
            have hlen := HEE.out.len
            have HCH := Lib.hid (gchoose_any (1 + a % 65534) kind f1 (some ⟨g, 0, none⟩) cap L h wr (HEE.out.C (by omega)) hbL (by omega) hh)
            rw [hgL, hlen] at HCH
            have HKP := Lib.hid HEE.out.kp
            have x0 := HEE.out.hx.cell 0
            have x1 := HEE.out.hx.cell 1
            have x2 := HEE.out.hx.cell 2
            clear hok1 hbL hmL hgL hlen hok HF1
            go_wp2_with fail
            refine HCH.out.mono ?_
            rintro e w4 ⟨v4, rfl, ho4, hb4⟩
            have HEE4 := Lib.hid (HEE.out.go hb4)
            obtain ⟨A4, cp4, rfl, hcp4, hC4⟩ := ch_C ho4 (by omega)
            clear ho4 x0 x1 x2 y3 HCH
            have hll : ((o.getD []).map (fun (n : Nat) => (n : Int))).length = (o.getD []).length := List.length_map ..
            have HQ := Lib.hid (ints_any A2 cp2 ((o.getD []).map (fun (n : Nat) => (n : Int))) A4 cp4 ((o.getD []).map (fun (n : Nat) => (n : Int))) w4 (Kd.C_below HC2.out HEE4.out.kp) (by rw [hll]; exact hcp2) hC4 (by rw [hll]; exact hcp4) (by rw [hll]; omega))
            rw [hll, beq_self_eq_true] at HQ
            have HCP2 := Lib.hid hcp2
            clear hll hC4 hcp2 hcp4
            obtain ⟨bs, hbs⟩ : ∃ bs, o.isSome = bs := ⟨_, rfl⟩
            obtain ⟨ol, hol⟩ : ∃ ol, (o.getD []).length = ol := ⟨_, rfl⟩
            rw [hol] at HQ
            rw [hbs, hol]
            have HBS := Lib.hid hbs
            have HOL := Lib.hid hol
            clear hbs hol
            go_wp2_with fail
            refine HQ.out.mono ?_
            rintro e w5 ⟨rfl, q, rfl⟩
            have HE5 := Lib.hid (HEE4.out.go (pw_below_drewN (Below.refl _ _) q))
            clear HQ
            generalize w4.drewN q = w5 at *
            have y3 := HE5.out.hx.cell 3
            have O_a := HE5.out.own.alloc (.cells #[.int .u64 0, .int .i64 8] 34)
            have hba : Below w5.heap.size w5 (w5.alloc (.cells #[.int .u64 0, .int .i64 8] 34)) := (Below.refl _ _).alloc (Nat.le_refl _) _
            have hsz0 := (HE5.out.go hba).kp.size
            have hm1 : j + 1 ≤ maxLen := by unfold maxLen; omega
            have hm2 : (j + 1) * 16 ≤ 140737488355328 := by omega
            obtain ⟨i34, hi34, hz0, hz1, hz2⟩ := info_parts info34
            go_upto_region 17 with (at_builtin; go_must (refine wpList_append_lies _ rfl _ _ _ rfl w3.heap.size 34 i34 _ 2 16 Try.underlying23 hi34 hz0 hz1 hz2 rfl (by decide) (.slice (some ⟨g, 0, none⟩) j cap) j (sv L) rfl O_a ⟨w5.heap.size, 0, none⟩ 1 1 [.int .u64 0, .int .i64 8] (by rfl) (by rfl) (World.news_of_block (cs := #[.int .u64 0, .int .i64 8]) (t := 34) (fr := (0, 0)) (heap_alloc_new w5 _)) (by simp [Value.oneCell']) (by decide) hm1 hm2 hsz0 _ rfl ?_; intro g2 cap2 w6 P2 G2 _ _; obtain ⟨EN, XB⟩ := HE5.out.app (x := ⟨0, 8⟩) hba P2 G2; have x7 := XB.cell 3; have z7 := XB.frozen 3))
            have HEN := Lib.hid EN
            have HKE := Lib.hid (below_step KA3.out EN.kp)
            have c1 := EN.hg.cell 1
            have y3 := EN.hx.cell 3
            clear x7 z7 XB P2 G2 O_a hba hsz0 hm1 hm2 EN
            generalize w6.setCell ⟨w3.heap.size, 3, none⟩ (.slice (some ⟨g2, 0, none⟩) (j + 1) cap2) = W6 at *
            obtain ⟨q1, hq1⟩ : ∃ q, (kind == 1) = q := ⟨_, rfl⟩
            cases q1
            · by_cases h16 : 16 < j + 1
              · have h17 : ((16 : Int) < ((j + 1 : Nat) : Int)) := by omega
                go_wp2_with fail
                go_ret
                exact ⟨rfl, HKE.out⟩
              · have h17 : ¬ ((16 : Int) < ((j + 1 : Nat) : Int)) := by omega
                have hml := HML.out
                have hk2 : kind = 2 := by
                  obtain ⟨bb, hk, -⟩ := gmay_parts HM.out
                  cases bb
                  · exact hk
                  · subst hk; exact absurd hq1 (by decide)
                have hg2 : gch (1 + a % 65534) kind f1 (L ++ [⟨0, 8⟩]) h = o := by
                  have h1 := HGL.out
                  subst hk2
                  rw [gch_more h HBL.out hml (by rw [HEE.out.len]; omega)]
                  exact h1
                have hlen2 := HEN.out.len
                have HCH := Lib.hid (gchoose_any (1 + a % 65534) kind f1 (some ⟨g2, 0, none⟩) cap2 (L ++ [⟨0, 8⟩]) h W6 (HEN.out.C (by omega)) (inB_app L HBL.out 8) (by omega) hh)
                rw [hg2, hlen2] at HCH
                have x0 := HEN.out.hx.cell 0
                have x1 := HEN.out.hx.cell 1
                have x2 := HEN.out.hx.cell 2
                clear hml hk2 hg2 hlen2
                go_wp2_with fail
                refine HCH.out.mono ?_
                rintro e w7 ⟨v7, rfl, ho7, hb7⟩
                have HE7 := Lib.hid (HEN.out.go hb7)
                have HKF := Lib.hid (below_step HKE.out hb7)
                obtain ⟨A7, cp7, rfl, hcp7, hC7⟩ := ch_C ho7 (by omega)
                have hll : ((o.getD []).map (fun (n : Nat) => (n : Int))).length = (o.getD []).length := List.length_map ..
                have HQ := Lib.hid (ints_any A2 cp2 ((o.getD []).map (fun (n : Nat) => (n : Int))) A7 cp7 ((o.getD []).map (fun (n : Nat) => (n : Int))) w7 (Kd.C_below HC2.out HE7.out.kp) (by rw [hll]; exact HCP2.out) hC7 (by rw [hll]; exact hcp7) (by rw [hll]; omega))
                rw [hll, beq_self_eq_true, HOL.out] at HQ
                rw [HOL.out, HBS.out]
                clear hll hC7 hcp7 ho7 HCH x0 x1 x2 y3 c1 hb7
                go_wp2_with fail
                refine HQ.out.mono ?_
                rintro e w8 ⟨rfl, q, rfl⟩
                go_wp2_with fail
                go_ret
                exact ⟨rfl, pw_below_drewN HKF.out _⟩
            · go_wp2_with fail
              go_ret
              exact ⟨rfl, HKE.out⟩
end Go.Proofs.Ytpmckbpplkkgaaa.Base
namespace Go.Proofs.Ytpmckbpplkkgaaa.Alone
open Go.Proofs.YtpmckbpplkkgaaaW.PrintWords Go.Proofs.Ytpmckbpplkkgaaa.Mem
open Go Go.RowKit
theorem bd_u16 {a : Int} (h : (Lit.int .u16 a).wf = true) : 0 ≤ a ∧ a < 65536 := by
  have : IntKind.u16.min ≤ a ∧ a ≤ IntKind.u16.max := by simpa [Lit.wf] using h
  simp [IntKind.min, IntKind.max, IntKind.signed, IntKind.bits] at this
  omega
theorem core (i k f : Int) (A : Option Addr) (c : Nat) (l : List PGroupTells.S34) (h a b d : Int) (w : World) (hk : 0 ≤ k ∧ k < 256) (hc : l.length ≤ c) (hm : l.length * 16 ≤ 140737488351232) (hb : Base.inB l) (hr : Kd.C PGroupTells.k34 w A l.length l) (hh : (Lit.int .u32 h).wf = true) (ha : (Lit.int .u16 a).wf = true) (hb2 : (Lit.int .u16 b).wf = true) (hd : (Lit.int .u16 d).wf = true) :
    Calls Try.prog 6 #[.agg #[.int .i64 i, .int .u8 k, .int .i64 f, .slice A l.length c], .int .u32 h, .int .u16 a, .int .u16 b, .int .u16 d] w fun e w' => e = .returned (.bool true) ∧ Below w.heap.size w w' := by
  have h2 : 0 ≤ h ∧ h < 4294967296 := by
    have : IntKind.u32.min ≤ h ∧ h ≤ IntKind.u32.max := by simpa [Lit.wf] using hh
    simp [IntKind.min, IntKind.max, IntKind.signed, IntKind.bits] at this
    omega
  obtain ⟨h2, h3⟩ := h2
  obtain ⟨j, rfl⟩ : ∃ k : Nat, h = (k : Int) := ⟨h.toNat, by omega⟩
  obtain ⟨a0, a1⟩ := bd_u16 ha
  obtain ⟨b0, b1⟩ := bd_u16 hb2
  obtain ⟨d0, d1⟩ := bd_u16 hd
  exact Base.alone_law i k f A c l j a b d w hr hb hc (by omega) a0 a1 b0 b1 d0 d1
end Go.Proofs.Ytpmckbpplkkgaaa.Alone
