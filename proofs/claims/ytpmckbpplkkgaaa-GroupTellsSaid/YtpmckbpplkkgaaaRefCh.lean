/- Which buckets a group goes, and its blocks, by the reference. Conditions: as each contract says. -/
import Derived.Test.YtpmckbpplkkgaaaRefMay
import Derived.Test.YtpmckbpplkkgaaaRefChoose
import Derived.Test.YtpmckbpplkkgaaaBlocksPure
import Derived.Test.YtpmckbpplkkgaaaElsePure
set_option linter.unusedVariables false
set_option linter.unusedSimpArgs false
namespace Go.Proofs.Ytpmckbpplkkgaaa.Base
open Go Go.RowKit Go.Proofs.Ytpmckbpplkkgaaa.Mem Go.Proofs.YtpmckbpplkkgaaaW.PrintWords Go.Proofs.YtpmckbpplkkgaaaW.PrintLast Go.Proofs.Ytpmckbpplkkgaaa.Fl
open Go.Proofs.Ytpmckbpplkkgaaa.PGroupTells (S34 z34 k34 k34_open k34_mk)
set_option maxHeartbeats 16000000 in
theorem refgch_any (id kind field : Int) (A : Option Addr) (cp : Nat) (l : List S34) (h : Nat) (w : World) (hr : Kd.C k34 w A l.length l) (hb : inB l) (hl : l.length < 1000000) (hh : h < 4294967296) :
    Calls Try.prog 16 #[gV id kind field A l.length cp, .int .u32 (h : Int)] w (ChEnd w (gch id kind field l h)) := by
  have kA := (Below.refl w.heap.size w).alloc (Nat.le_refl _) (.cells #[.int .i64 id, .int .u8 kind, .int .i64 field, .slice A l.length cp] 27)
  have hG := Blk.new w 27 #[.int .i64 id, .int .u8 kind, .int .i64 field, .slice A l.length cp]
  have HM := Lib.hid (refgmay_any id kind field A cp l _ (Kd.C_below hr kA) hb hl)
  have HC := Lib.hid (fun w' (hb : Below w.heap.size w w') => Kd.C_below hr hb)
  obtain ⟨i3, hi3, hz3_0, hz3_1, hz3_2⟩ := info_parts info3
  obtain ⟨i25, hi25, hz25_0, hz25_1, hz25_2⟩ := info_parts info25
  cases hm : gmay id kind field l
  · have HE := Lib.hid (show gch id kind field l h = none by unfold gch; rw [hm]; rfl)
    rw [hm] at HM
    have c0 := hG.cell 0
    have c1 := hG.cell 1
    have c2 := hG.cell 2
    have c3 := hG.cell 3
    clear hr hb hG
    go_enter Try.func16, Try.ntmps16
    go_wp2_with fail
    refine HM.out.mono ?_
    rintro e w1 ⟨rfl, hb1⟩
    go_wp2_with fail
    go_ret2
    rw [HE.out]
    exact ⟨_, rfl, World.ownsRow_nil _ _ _ _, kA.trans (hb1.mono kA.size)⟩
  · rw [hm] at HM
    have HBU := Lib.hid hb
    have HMM := Lib.hid hm
    clear hr hb hm
    have c0 := hG.cell 0
    have c1 := hG.cell 1
    have c2 := hG.cell 2
    have c3 := hG.cell 3
    go_enter Try.func16, Try.ntmps16
    go_wp2_with fail
    generalize w.alloc (.cells #[.int .i64 id, .int .u8 kind, .int .i64 field, .slice A l.length cp] 27) = wA at *
    refine HM.out.mono ?_
    rintro e w1 ⟨rfl, hb1⟩
    have HGB := Lib.hid (show ∀ wx, Below wA.heap.size wA wx → Blk wx w.heap.size 27 #[.int .i64 id, .int .u8 kind, .int .i64 field, .slice A l.length cp] from fun wx hx => hG.go hx)
    have hR : ChR wA l (.slice none 0 0) (.slice none 0 0) (.int .i64 0) w1 := ⟨0, _, _, rfl, rfl, rfl, Nat.zero_le _, World.ownsRow_nil _ _ _ _, World.ownsRow_nil _ _ _ _, hb1⟩
    have HR := Lib.hid hR
    have KA := Lib.hid kA
    clear HM hb1 hG hR kA c0 c1 c2 c3
    go_wp2_with fail
    go_loopw [6, 7, 8] (fun t6 t7 t8 wr => ChR wA l t6 t7 t8 wr) (fun _ _ t8 _ => l.length - (intOf t8).toNat)
    case atStart => exact HR.out
    case round =>
      clear HR
      obtain ⟨k, u6, u7, rfl, rfl, rfl, hk, O1, O2, hB⟩ := hrel
      have c3 := (HGB.out _ hB).cell 3
      by_cases hlt : k < l.length
      · have k0 : (0 : Int) ≤ (k : Int) := by omega
        have k1 : (k : Int) < (l.length : Int) := by omega
        have HXR := Lib.hid (fun W (h : Below wA.heap.size wA W) => row_at (HC.out W (KA.out.trans (h.mono KA.out.size))) (by decide : 0 < k34.sz) hlt)
        have HTK := Lib.hid (show uv (l.take (k + 1)) = uv (l.take k) ++ [.int .u64 l[k].f0] from uv_next l k hlt)
        have hba : Below wr.heap.size wr (wr.alloc (.cells #[.int .i64 (k : Int)] 3)) := (Below.refl _ _).alloc (Nat.le_refl _) _
        have O1_a := O1.alloc (.cells #[.int .i64 (k : Int)] 3)
        have O2_a := O2.alloc (.cells #[.int .i64 (k : Int)] 3)
        have HB_a := hB.alloc hB.size (.cells #[.int .i64 (k : Int)] 3)
        have hm1 : k + 1 ≤ maxLen := by unfold maxLen; omega
        have hm2 : (k + 1) * 8 ≤ 140737488355328 := by omega
        have hsz0 := HB_a.size
        have hnew := World.news_of_block (cs := #[.int .i64 (k : Int)]) (t := 3) (fr := (0, 0)) (heap_alloc_new wr _)
        have HNW := Lib.hid hnew
        clear hnew
        go_upto_region 9 with (at_builtin; go_must (refine wpList_append_lies _ rfl _ _ _ rfl wA.heap.size 3 i3 _ 1 8 Try.underlying31 hi3 hz3_0 hz3_1 hz3_2 rfl (by decide) u6 k (iv (List.range k)) rfl O1_a ⟨wr.heap.size, 0, none⟩ 1 1 [.int .i64 (k : Int)] (by rfl) (by rfl) HNW.out (by simp [Value.oneCell']) (by decide) hm1 hm2 hsz0 _ rfl ?_; intro g1 cap1 w2 P1 G1 _ _))
        have P2 := own_other O1_a O2_a (by decide) G1
        have HB2 := HB_a.grown G1 hsz0 (fun j e => (O1_a.lt j e).1)
        obtain ⟨gA, o, cs, rfl, hK, -, hcell⟩ := HXR.out _ HB2
        obtain rfl := k34_open hK
        have hsz : k34.sz = 2 := rfl
        rw [hsz] at hcell
        have e0 := hcell 0 _ rfl
        rw [Nat.add_zero] at e0
        have c3 := (HGB.out _ HB2).cell 3
        clear hK hcell hsz O1 O2 hB O1_a O2_a HB_a hsz0 HNW hba HXR
        generalize l[k] = x at *
        have Q1_a := P1.alloc (.cells #[.int .u64 x.f0] 25)
        have Q2_a := P2.alloc (.cells #[.int .u64 x.f0] 25)
        have HB_b := HB2.alloc HB2.size (.cells #[.int .u64 x.f0] 25)
        have hsz1 := HB_b.size
        have HNX := Lib.hid (World.news_of_block (cs := #[.int .u64 x.f0]) (t := 25) (fr := (0, 0)) (heap_alloc_new w2 _))
        clear G1
        go_wp2_with (at_builtin; go_must (refine wpList_append_lies _ rfl _ _ _ rfl wA.heap.size 25 i25 _ 1 8 Try.underlying52 hi25 hz25_0 hz25_1 hz25_2 rfl (by decide) u7 k (uv (l.take k)) rfl Q2_a ⟨w2.heap.size, 0, none⟩ 1 1 [.int .u64 x.f0] (by rfl) (by rfl) HNX.out (by simp [Value.oneCell']) (by decide) hm1 hm2 hsz1 _ rfl ?_; intro g3 cap3 w3 P3 G3 _ _; have P4 := own_other Q2_a Q1_a (by decide) G3; have HB3 := HB_b.grown G3 hsz1 (fun j e => (Q2_a.lt j e).1)))
        refine ⟨⟨k + 1, _, _, by go_num, rfl, rfl, hlt, by rw [range_next]; exact P4, by rw [HTK.out]; exact P3, HB3⟩, ?_⟩
        simp [intOf]
        omega
      · obtain rfl : k = l.length := by omega
        have hkk : ¬ (l.length : Int) < (l.length : Int) := by omega
        rw [List.take_length] at O2
        have e1' := (HGB.out wr hB).cell 1
        have HE := Lib.hid (show gch id kind field l h = if kind == 1 then some (List.range l.length) else if (choose (l.map (·.f0)) h).2 then some [(choose (l.map (·.f0)) h).1] else none by unfold gch; rw [HMM.out, if_pos rfl])
        have HO1 := Lib.hid O1
        have HBE := Lib.hid (KA.out.trans (hB.mono KA.out.size))
        have hsz := KA.out.size
        cases hk : kind == 1
        · rw [hk] at HE
          rw [uv_map] at O2
          have hll : (l.map (·.f0)).length = l.length := List.length_map ..
          obtain ⟨A2, c2, rfl, hc2, hC2⟩ := own_C (xs := l.map (·.f0)) (by rw [hll]; exact O2) (by rw [hll]; omega)
          have HCH := Lib.hid (refChoose_any A2 c2 (l.map (·.f0)) h wr hC2 hc2 (fun y hy => by obtain ⟨x, hx, rfl⟩ := List.mem_map.1 hy; exact HBU.out x hx) (by rw [hll]; omega) hh)
          rw [hll] at HCH
          generalize choose (l.map (·.f0)) h = p at *
          obtain ⟨i, b⟩ := p
          simp only at HCH HE
          have hl2 : (List.map (fun x : S34 => x.f0) l).length = l.length := hll
          rw [hl2]
          clear hll hl2 hC2 O2 hc2
          go_wp2_with fail
          refine HCH.out.mono ?_
          rintro e w9 ⟨rfl, hb9⟩
          have HB9 := Lib.hid (below_step HBE.out hb9)
          clear hb9
          cases b
          · go_wp2_with fail
            go_ret2
            rw [HE.out]
            exact ⟨_, rfl, World.ownsRow_nil _ _ _ _, HB9.out⟩
          · go_wp2_with fail
            go_ret2
            rw [HE.out]
            exact ⟨_, rfl, World.ownsRow_lit w9 #[.int .i64 (i : Int)] 1 HB9.out.size (by decide) rfl, HB9.out.alloc HB9.out.size _⟩
        · rw [hk] at HE
          go_wp2_with fail
          go_ret2
          rw [HE.out]
          exact ⟨_, rfl, by show wr.ownsRow w.heap.size 3 1 _ (List.range l.length).length _; rw [List.length_range]; exact own_mono HO1.out hsz, HBE.out⟩
/-! ### the blocks -/
/-- Of the numbers 1 .. n those that are a bucket's block, rising. -/
def scan (l : List S34) (n : Nat) : List Int := ((List.range n).map (fun (i : Nat) => ((i + 1 : Nat) : Int))).filter (fun y => l.any (fun x => x.f1 == y))
theorem scan_next (l : List S34) (n : Nat) : scan l (n + 1) = scan l n ++ (if l.any (fun x => x.f1 == ((n + 1 : Nat) : Int)) then [((n + 1 : Nat) : Int)] else []) := by
  unfold scan
  rw [List.range_succ, List.map_append, List.filter_append]
  congr 1
  simp only [List.map_cons, List.map_nil, List.filter_cons, List.filter_nil]
theorem scan_len (l : List S34) (n : Nat) : (scan l n).length ≤ n := by
  unfold scan
  exact Nat.le_trans (List.length_filter_le ..) (by simp)
theorem scan_blk {id kind field : Int} {l : List S34} (h : gmay id kind field l = true) : scan l 65534 = gblk blkOf id kind field l := by
  unfold gblk
  rw [h, if_pos rfl]
  refine rising_eq ?_ (blkOf_law _).1 fun x => ?_
  · unfold scan
    refine List.Pairwise.filter _ ?_
    rw [List.pairwise_map]
    exact List.pairwise_lt_range.imp (fun h => by omega)
  · rw [(blkOf_law _).2]
    unfold scan
    rw [List.mem_filter, List.mem_map, List.mem_map]
    constructor
    · rintro ⟨_, h2⟩
      obtain ⟨y, hy, e⟩ := List.any_eq_true.1 h2
      exact ⟨y, hy, eq_of_beq e⟩
    · rintro ⟨y, hy, e⟩
      obtain ⟨b, _, _, _, _, _, h5⟩ := gmay_parts h
      have h6 := h5 y hy
      unfold okB idB at h6
      simp only [Bool.and_eq_true, decide_eq_true_eq] at h6
      refine ⟨⟨(y.f1 - 1).toNat, List.mem_range.2 (by omega), by omega⟩, List.any_eq_true.2 ⟨y, hy, by rw [e]; exact beq_self_eq_true _⟩⟩
theorem any_take (l : List S34) (y : Int) (j : Nat) (h : j < l.length) (h0 : (l.take j).any (fun x => x.f1 == y) = false) : (l.take (j + 1)).any (fun x => x.f1 == y) = (l[j].f1 == y) := by
  rw [List.take_succ_eq_append_getElem h, List.any_append, h0]
  simp
theorem any_found (l : List S34) (y : Int) (j : Nat) (h : j < l.length) (he : (l[j].f1 == y) = true) : l.any (fun x => x.f1 == y) = true := List.any_eq_true.2 ⟨_, List.getElem_mem h, he⟩
theorem none_gblkR {i k f : Int} {l : List S34} (hm : gmay i k f l = false) : gblk blkOf i k f l = [] := by unfold gblk; rw [hm]; rfl
def SbR (q : Bool) (w : World) (l : List S34) (t3 t4 : Value) (wr : World) : Prop :=
  ∃ (n : Nat) (u : Value), t4 = .int .i64 ((n + 1 : Nat) : Int) ∧ t3 = u ∧ n ≤ 65534 ∧ Hid (q = true ∨ n = 0) ∧ wr.ownsRow w.heap.size 3 1 u (scan l n).length ((scan l n).map (Value.int .i64)) ∧ Below w.heap.size w wr
def SiR (u : Value) (l : List S34) (y : Int) (w : World) (t3 t5 : Value) (wr : World) : Prop := ∃ j : Nat, t3 = u ∧ t5 = .int .i64 (j : Int) ∧ j ≤ l.length ∧ Hid ((l.take j).any (fun x => x.f1 == y) = false) ∧ wr = w
set_option maxHeartbeats 16000000 in
theorem refblk_any (id kind field : Int) (A : Option Addr) (cp : Nat) (l : List S34) (w : World) (hr : Kd.C k34 w A l.length l) (hb : inB l) (hl : l.length < 1000000) :
    Calls Try.prog 18 #[gV id kind field A l.length cp] w (BlEnd w (gblk blkOf id kind field l)) := by
  have kA := (Below.refl w.heap.size w).alloc (Nat.le_refl _) (.cells #[.int .i64 id, .int .u8 kind, .int .i64 field, .slice A l.length cp] 27)
  have hG := Blk.new w 27 #[.int .i64 id, .int .u8 kind, .int .i64 field, .slice A l.length cp]
  have HM := Lib.hid (fun W (h : Below w.heap.size w W) => refgmay_any id kind field A cp l W (Kd.C_below hr h) hb hl)
  have HC := Lib.hid (fun w' (hb : Below w.heap.size w w') => Kd.C_below hr hb)
  obtain ⟨i3, hi3, hz3_0, hz3_1, hz3_2⟩ := info_parts info3
  have KA := Lib.hid kA
  have HG := Lib.hid hG
  clear hr hb kA hG
  have HMM := Lib.hid (show ∃ q, gmay id kind field l = q from ⟨_, rfl⟩)
  go_enter Try.func18, Try.ntmps18
  go_wp2_with fail
  generalize w.alloc (.cells #[.int .i64 id, .int .u8 kind, .int .i64 field, .slice A l.length cp] 27) = wA at *
  obtain ⟨q, hq⟩ := HMM.out
  have HQ := Lib.hid hq
  rw [hq] at HM
  clear hq HMM
  have HR0 := Lib.hid (show SbR q wA l (.slice none 0 0) (.int .i64 1) wA from ⟨0, _, rfl, rfl, Nat.zero_le _, Lib.hid (.inr rfl), World.ownsRow_nil _ _ _ _, Below.refl _ _⟩)
  go_loopw [3, 4] (fun t3 t4 wr => SbR q wA l t3 t4 wr) (fun _ t4 _ => 65535 - (intOf t4).toNat)
  case atStart => exact HR0.out
  case round =>
    clear HR0
    obtain ⟨n, u3, rfl, rfl, hn, hq0, O1, hB⟩ := hrel
    have HO := Lib.hid O1
    have HB := Lib.hid hB
    clear O1 hB
    obtain ⟨m, hm⟩ : ∃ m, n + 1 = m := ⟨_, rfl⟩
    have hm1 : n < m := by omega
    rw [hm]
    by_cases hlt : m ≤ 65534
    · have k1 : (m : Int) ≤ 65534 := by omega
      have k0 : (0 : Int) ≤ (m : Int) := by omega
      have hd : decide ((m : Int) ≤ 65534) = true := decide_eq_true k1
      have c0 := (HG.out.go HB.out).cell 0
      have c1 := (HG.out.go HB.out).cell 1
      have c2 := (HG.out.go HB.out).cell 2
      have c3 := (HG.out.go HB.out).cell 3
      go_wp2_with fail
      refine (HM.out _ (below_step KA.out HB.out)).mono ?_
      rintro e w2 ⟨rfl, hb2⟩
      have HO2 := Lib.hid (own_go HO.out hb2)
      have HB2 := Lib.hid (below_step HB.out hb2)
      clear c0 c1 c2 c3 HO HB hb2
      cases q
      · go_wp2_with fail
        go_ret
        have h0 : n = 0 := by
          rcases hq0.out with h | h
          · cases h
          · exact h
        subst h0
        obtain ⟨A2, c2, rfl, hc2, hC2⟩ := own_C (xs := scan l 0) HO2.out (by have := scan_len l 0; omega)
        rw [none_gblkR HQ.out]
        exact ⟨A2, c2, rfl, hc2, hC2, below_step KA.out HB2.out⟩
      · have HI0 := Lib.hid (show SiR u3 l (m : Int) w2 u3 (.int .i64 0) w2 from ⟨0, rfl, rfl, Nat.zero_le _, Lib.hid rfl, rfl⟩)
        have c3 := (HG.out.go HB2.out).cell 3
        have HSC := Lib.hid (scan_next l n)
        rw [hm] at HSC
        have hsl := scan_len l n
        clear hq0
        go_wp2_with fail
        go_loopw [3, 5] (fun t3 t5 wr => SiR u3 l (m : Int) w2 t3 t5 wr) (fun _ t5 _ => l.length - (intOf t5).toNat)
        case atStart => exact HI0.out
        case round =>
          clear HI0
          obtain ⟨j, rfl, rfl, hj, hno, rfl⟩ := hrel
          by_cases hjl : j < l.length
          · have j1 : (j : Int) < (l.length : Int) := by omega
            have j0 : (0 : Int) ≤ (j : Int) := by omega
            obtain ⟨gA, o, cs, rfl, hK, -, hcell⟩ := row_at (HC.out wr (below_step KA.out HB2.out)) (by decide : 0 < k34.sz) hjl
            obtain rfl := k34_open hK
            have hsz : k34.sz = 2 := rfl
            rw [hsz] at hcell
            have e1 := hcell 1 _ rfl
            have HT := Lib.hid (any_take l (m : Int) j hjl hno.out)
            have HF := Lib.hid (any_found l (m : Int) j hjl)
            clear hK hcell hsz
            generalize l[j] = x at *
            cases hz : x.f1 == (m : Int)
            · rw [hz] at HT
              go_wp2_with fail
              go_roundw
              case rel => exact ⟨j + 1, rfl, by go_num, hjl, HT, rfl⟩
              case measure => simp [intOf]; omega
            · have hf := HF.out hz
              rw [hf, if_pos rfl] at HSC
              have O1_a := HO2.out.alloc (.cells #[.int .i64 (m : Int)] 3)
              have HB_a := HB2.out.alloc HB2.out.size (.cells #[.int .i64 (m : Int)] 3)
              have hm2 : (scan l n).length + 1 ≤ maxLen := by unfold maxLen; omega
              have hm3 : ((scan l n).length + 1) * 8 ≤ 140737488355328 := by omega
              have hsz0 := HB_a.size
              have HNW := Lib.hid (World.news_of_block (cs := #[.int .i64 (m : Int)]) (t := 3) (fr := (0, 0)) (heap_alloc_new wr _))
              clear hf HT HF
              go_wp2_with (at_builtin; go_must (refine wpList_append_lies _ rfl _ _ _ rfl wA.heap.size 3 i3 _ 1 8 Try.underlying31 hi3 hz3_0 hz3_1 hz3_2 rfl (by decide) u3 (scan l n).length ((scan l n).map (Value.int .i64)) rfl O1_a ⟨wr.heap.size, 0, none⟩ 1 1 [.int .i64 (m : Int)] (by rfl) (by rfl) HNW.out (by simp [Value.oneCell']) (by decide) hm2 hm3 hsz0 _ rfl ?_; intro g1 cap1 w3 P1 G1 _ _; have HB3 := HB_a.grown G1 hsz0 (fun j e => (O1_a.lt j e).1)))
              refine ⟨⟨m, _, by go_num, rfl, by omega, Lib.hid (.inl rfl), ?_, HB3⟩, ?_⟩
              · rw [HSC.out, List.length_append, List.map_append]
                exact P1
              · simp [intOf]
                omega
          · have j1 : ¬ (j : Int) < (l.length : Int) := by omega
            obtain rfl : j = l.length := by omega
            have hf := hno.out
            rw [List.take_length] at hf
            rw [hf, if_neg Bool.false_ne_true, List.append_nil] at HSC
            clear hf
            go_wp2_with fail
            refine ⟨⟨m, u3, by go_num, rfl, by omega, Lib.hid (.inl rfl), by rw [HSC.out]; exact HO2.out, HB2.out⟩, ?_⟩
            simp [intOf]
            omega
    · have k1 : ¬ (m : Int) ≤ 65534 := by omega
      have hd : decide ((m : Int) ≤ 65534) = false := decide_eq_false k1
      go_wp2_with fail
      go_ret
      obtain rfl : n = 65534 := by omega
      have hsl := scan_len l 65534
      obtain ⟨A2, c2, rfl, hc2, hC2⟩ := own_C (xs := scan l 65534) HO.out (by omega)
      have hqt : q = true := by
        rcases hq0.out with h | h
        · exact h
        · exact absurd h (by decide)
      subst hqt
      rw [← scan_blk HQ.out]
      exact ⟨A2, c2, rfl, hc2, hC2, below_step KA.out HB.out⟩
end Go.Proofs.Ytpmckbpplkkgaaa.Base
