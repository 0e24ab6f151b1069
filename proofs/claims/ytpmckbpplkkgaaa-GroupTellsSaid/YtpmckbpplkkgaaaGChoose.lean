/- Which buckets a group goes: what the inner function tells. Conditions: as each contract says. -/
import Derived.Test.YtpmckbpplkkgaaaGMay
import Derived.Test.YtpmckbpplkkgaaaFoot
import Derived.Test.YtpmckbpplkkgaaaChoose
import Derived.Test.YtpmckbpplkkgaaaWLast
import Derived.Deep.AppendLies
set_option linter.unusedVariables false
set_option linter.unusedSimpArgs false
namespace Go.Proofs.Ytpmckbpplkkgaaa.Base
open Go Go.RowKit Go.Proofs.Ytpmckbpplkkgaaa.Mem Go.Proofs.YtpmckbpplkkgaaaW.PrintWords Go.Proofs.YtpmckbpplkkgaaaW.PrintLast Go.Proofs.Ytpmckbpplkkgaaa.Fl
open Go.Proofs.Ytpmckbpplkkgaaa.PGroupTells (S34 z34 k34 k34_open k34_mk)
def iv (l : List Nat) : List Value := l.map fun (n : Nat) => Value.int .i64 (n : Int)
def uv (l : List S34) : List Value := l.map fun x => Value.int .u64 x.f0
theorem info3 : (Try.prog.info? 3).map (fun i => (i.zero, i.size, i.bytes)) = some (some (.int .i64 0), 1, 8) := by kernel_rfl
theorem info25 : (Try.prog.info? 25).map (fun i => (i.zero, i.size, i.bytes)) = some (some (.int .u64 0), 1, 8) := by kernel_rfl
theorem own_other {w w1 : World} {N e s n N' e' s' n' : Nat} {v v' : Value} {xs xs' : List Value} (ho : w.ownsRow N e s v n xs) (ho' : w.ownsRow N' e' s' v' n' xs') (ht : e' ≠ e) (hg : w.grownBy w1 v.ownBlock) : w1.ownsRow N' e' s' v' n' xs' := by
  refine ho'.kept hg ?_
  rcases ho'.2 with ⟨rfl, _⟩ | ⟨g', cap, cur, rfl, hb, hh, _⟩
  · exact .inl rfl
  · exact .inr (fun h => own_type ho (show Blk w g' e' cur from hh) ht h.symm)
theorem uv_next (l : List S34) (k : Nat) (h : k < l.length) : uv (l.take (k + 1)) = uv (l.take k) ++ [.int .u64 l[k].f0] := by
  rw [List.take_succ_eq_append_getElem h]
  unfold uv
  rw [List.map_append]
  rfl
theorem range_next (k : Nat) : iv (List.range (k + 1)) = iv (List.range k) ++ [.int .i64 (k : Int)] := by simp [iv, List.range_succ]
/-- A row of whole numbers, as it is read. -/
theorem own_C {w : World} {N : Nat} {e : TypeId} {k : IntKind} {v : Value} {xs : List Int} (h : w.ownsRow N e 1 v xs.length (xs.map (Value.int k))) (hl : xs.length < 1000000000) : ∃ A c, v = .slice A xs.length c ∧ xs.length ≤ c ∧ Kd.C (Kd.int k) w A xs.length xs := by
  rcases h.2 with ⟨rfl, h0⟩ | ⟨g, cap, cur, rfl, hb, hh, hc, hm, _⟩
  · have : xs = [] := List.length_eq_zero_iff.1 h0
    subst this
    exact ⟨_, _, rfl, Nat.le_refl _, Kd.C_nil _ _⟩
  · refine ⟨_, _, rfl, hc, rfl, by omega, fun _ => ⟨_, rfl, fun j p hj => ⟨[.int k p], rfl, rfl, fun i u hu => ?_⟩⟩⟩
    have hi : i = 0 := by
      have := (List.getElem?_eq_some_iff.1 hu).1
      simp at this
      omega
    subst hi
    simp at hu
    subst hu
    have hj' : j < xs.length := (List.getElem?_eq_some_iff.1 hj).1
    show w.cell? (Addr.add ⟨g, 0, none⟩ (j * 1 + 0)) = _
    rw [Mem.add_at, Nat.zero_add, h.cellAt (j * 1 + 0) (by omega)]
    simp only [Nat.mul_one, Nat.add_zero, List.getElem?_map, hj]
    rfl
theorem uv_map (l : List S34) : uv l = (l.map (·.f0)).map (Value.int .u64) := by simp [uv]
def ChR (w : World) (l : List S34) (t6 t7 t18 : Value) (wr : World) : Prop :=
  ∃ (k : Nat) (u6 u7 : Value), t18 = .int .i64 (k : Int) ∧ t6 = u6 ∧ t7 = u7 ∧ k ≤ l.length ∧ wr.ownsRow w.heap.size 3 1 u6 k (iv (List.range k)) ∧ wr.ownsRow w.heap.size 25 1 u7 k (uv (l.take k)) ∧ Below w.heap.size w wr
/-- Which buckets a group goes. -/
def gch (id kind field : Int) (l : List S34) (h : Nat) : Option (List Nat) :=
  if gmay id kind field l then (if kind == 1 then some (List.range l.length) else if (choose (l.map (·.f0)) h).2 then some [(choose (l.map (·.f0)) h).1] else none) else none
/-- How Choose ends. -/
def ChEnd (w : World) (o : Option (List Nat)) (e : Ending) (w' : World) : Prop :=
  ∃ v, e = .returned (.tuple #[v, .bool o.isSome]) ∧ w'.ownsRow w.heap.size 3 1 v (o.getD []).length (iv (o.getD [])) ∧ Below w.heap.size w w'
set_option maxHeartbeats 16000000 in
theorem gchoose_any (id kind field : Int) (A : Option Addr) (cp : Nat) (l : List S34) (h : Nat) (w : World) (hr : Kd.C k34 w A l.length l) (hb : inB l) (hl : l.length < 1000000) (hh : h < 4294967296) :
    Calls Try.prog 15 #[gV id kind field A l.length cp, .int .u32 (h : Int)] w (ChEnd w (gch id kind field l h)) := by
  have kA := (Below.refl w.heap.size w).alloc (Nat.le_refl _) (.cells #[.int .i64 id, .int .u8 kind, .int .i64 field, .slice A l.length cp] 27)
  have hG := Blk.new w 27 #[.int .i64 id, .int .u8 kind, .int .i64 field, .slice A l.length cp]
  have HM := Lib.hid (gmay_any id kind field A cp l _ (Kd.C_below hr kA) hb hl)
  have HC := Lib.hid (fun w' (hb : Below w.heap.size w w') => Kd.C_below hr hb)
  have HB := Lib.hid hb
  obtain ⟨i3, hi3, hz3_0, hz3_1, hz3_2⟩ := info_parts info3
  obtain ⟨i25, hi25, hz25_0, hz25_1, hz25_2⟩ := info_parts info25
  cases hm : gmay id kind field l
  · have HE := Lib.hid (show gch id kind field l h = none by unfold gch; rw [hm]; rfl)
    rw [hm] at HM
    clear hr hb hG
    go_enter Try.func15, Try.ntmps15
    go_wp2_with fail
    refine HM.out.mono ?_
    rintro e w1 ⟨rfl, hb1⟩
    go_wp2_with fail
    go_ret2
    rw [HE.out]
    exact ⟨_, rfl, World.ownsRow_nil _ _ _ _, kA.trans (hb1.mono kA.size)⟩
  · rw [hm] at HM
    have HBU := Lib.hid hb
    clear hr hb
    have c0 := hG.cell 0
    have c1 := hG.cell 1
    have c2 := hG.cell 2
    have c3 := hG.cell 3
    go_enter Try.func15, Try.ntmps15
    go_wp2_with fail
    generalize w.alloc (.cells #[.int .i64 id, .int .u8 kind, .int .i64 field, .slice A l.length cp] 27) = wA at *
    refine HM.out.mono ?_
    rintro e w1 ⟨rfl, hb1⟩
    have hG1 := hG.go hb1
    have e3 := hG1.cell 3
    have HGB := Lib.hid (show ∀ wx, Below wA.heap.size wA wx → Blk wx w.heap.size 27 #[.int .i64 id, .int .u8 kind, .int .i64 field, .slice A l.length cp] from fun wx hx => hG.go hx)
    have hR : ChR wA l (.slice none 0 0) (.slice none 0 0) (.int .i64 0) w1 := ⟨0, _, _, rfl, rfl, rfl, Nat.zero_le _, World.ownsRow_nil _ _ _ _, World.ownsRow_nil _ _ _ _, hb1⟩
    have HR := Lib.hid hR
    have KA := Lib.hid kA
    clear HM hb1 hG hR kA hG1 c0 c1 c2 c3
    go_wp2_with fail
    go_loopw [6, 7, 18] (fun t6 t7 t18 wr => ChR wA l t6 t7 t18 wr) (fun _ _ t18 _ => l.length - (intOf t18).toNat)
    case atStart => exact HR.out
    case round =>
      clear HR
      obtain ⟨k, u6, u7, rfl, rfl, rfl, hk, O1, O2, hB⟩ := hrel
      by_cases hlt : k < l.length
      · have k0 : (0 : Int) ≤ (k : Int) := by omega
        have k1 : (k : Int) < (l.length : Int) := by omega
        obtain ⟨gA, o, cs, rfl, hK, -, hcell⟩ := row_at (HC.out wr (KA.out.trans (hB.mono KA.out.size))) (by decide : 0 < k34.sz) hlt
        obtain rfl := k34_open hK
        have hsz : k34.sz = 2 := rfl
        rw [hsz] at hcell
        have e0 := hcell 0 _ rfl
        rw [Nat.add_zero] at e0
        have e1 := hcell 1 _ rfl
        have HTK := Lib.hid (show uv (l.take (k + 1)) = uv (l.take k) ++ [.int .u64 l[k].f0] from uv_next l k hlt)
        clear hK hcell hsz
        generalize l[k] = x at *
        have F_a := Blk.new wr 34 #[.int .u64 x.f0, .int .i64 x.f1]
        have O1_a := O1.alloc (.cells #[.int .u64 x.f0, .int .i64 x.f1] 34)
        have O2_a := O2.alloc (.cells #[.int .u64 x.f0, .int .i64 x.f1] 34)
        have HB_a := hB.alloc hB.size (.cells #[.int .u64 x.f0, .int .i64 x.f1] 34)
        have hm1 : k + 1 ≤ maxLen := by unfold maxLen; omega
        have hm2 : (k + 1) * 8 ≤ 140737488355328 := by omega
        go_upto_region 8 with (fail)
        clear e0 e1 O1 O2 hB
        generalize wr.heap.size = q at *
        generalize wr.alloc (.cells #[.int .u64 x.f0, .int .i64 x.f1] 34) = wa at *
        refine start_ (n := 11) (S := (fun w' => w'.cell? ⟨q, 0, none⟩ = some (.int .u64 x.f0))) (ds := []) #[false, false, false, false, false, false, false, false, false, false, false] (by kernel_rfl) rfl rfl (F_a.cell 0) (fun hHeld => ?_)
        refine pure_ (i := 0) (N := some 23) (v := ?_) (a' := ?_) #[true, false, false, false, false, false, false, false, false, false, false] rfl rfl (by kernel_rfl) (fun _ _ _ h => h) (Or.inl ⟨by rfl, ?_⟩) ?_ ?_
        rotate_left
        · intro w'
          go_simp
          (try with_reducible rfl)
        rotate_left
        · simp only [Act.put, List.setIfInBounds_toArray, List.set_cons_zero, List.set_cons_succ, i64_w, i32_w]
          rfl
        refine pure_ (i := 1) (N := some 24) (v := ?_) (a' := ?_) #[true, true, false, false, false, false, false, false, false, false, false] rfl rfl (by kernel_rfl) (fun _ _ _ h => h) (Or.inl ⟨by rfl, ?_⟩) ?_ ?_
        rotate_left
        · intro w'
          go_simp
          (try with_reducible rfl)
        rotate_left
        · simp only [Act.put, List.setIfInBounds_toArray, List.set_cons_zero, List.set_cons_succ, i64_w, i32_w]
          rfl
        refine pure_ (i := 4) (N := some 27) (v := ?_) (a' := ?_) #[true, true, false, false, true, false, false, false, false, false, false] rfl rfl (by kernel_rfl) (fun _ _ _ h => h) (Or.inl ⟨by rfl, ?_⟩) ?_ ?_
        rotate_left
        · intro w'
          go_simp
          (try with_reducible rfl)
        rotate_left
        · simp only [Act.put, List.setIfInBounds_toArray, List.set_cons_zero, List.set_cons_succ, i64_w, i32_w]
          rfl
        refine pure_ (i := 5) (N := some 28) (v := ?_) (a' := ?_) #[true, true, false, false, true, true, false, false, false, false, false] rfl rfl (by kernel_rfl) (fun _ _ _ h => h) (Or.inl ⟨by rfl, ?_⟩) ?_ ?_
        rotate_left
        · intro w'
          go_simp
          (try with_reducible rfl)
        rotate_left
        · simp only [Act.put, List.setIfInBounds_toArray, List.set_cons_zero, List.set_cons_succ, i64_w, i32_w]
          rfl
        refine take_ (i := 6) (N := some 29) (v := ?_) (a' := ?_) #[true, true, false, false, true, true, true, false, false, false, false] rfl rfl (by kernel_rfl) (fun _ _ _ h => h) (Or.inl ⟨by rfl, ?_⟩) hHeld ?_ ?_
        rotate_left
        · rintro w' s0
          go_simp
          (try with_reducible rfl)
        rotate_left
        · simp only [Act.put, List.setIfInBounds_toArray, List.set_cons_zero, List.set_cons_succ, i64_w, i32_w]
          rfl
        have F_s := F_a.drew
        have O1_s := O1_a.drew
        have O2_s := O2_a.drew
        have HB_s := below_drew1 HB_a
        generalize wa.drew = ws at *
        refine two_ (i := 2) (j := 7) (Ni := some 25) (Nj := some 30) #[true, true, true, false, true, true, true, false, false, false, false] #[true, true, false, false, true, true, true, true, false, false, false] rfl rfl rfl rfl (by kernel_rfl) (by decide) (by decide) (fun K hK => ?_) (fun K hK => ?_)
        · refine value_ (w1 := ws.alloc (.cells #[.int .i64 (k : Int)] 3)) (v := .slice (some ⟨ws.heap.size, 0, none⟩) 1 1) (by rfl) rfl (by go_simp) ?_
          have L1_0 := Blk.new ws 3 #[.int .i64 (k : Int)]
          have O1_0 := O1_s.alloc (.cells #[.int .i64 (k : Int)] 3)
          have O2_0 := O2_s.alloc (.cells #[.int .i64 (k : Int)] 3)
          have F_0 := F_s.alloc (.cells #[.int .i64 (k : Int)] 3)
          have HB_0 := HB_s.alloc HB_s.size (.cells #[.int .i64 (k : Int)] 3)
          refine hK.out _ _ (F_0.cell 0) (fun hHeld => ?_)
          clear hK K
          refine norm_ (a' := ?_) ?_ ?_
          rotate_left
          · show Act.put _ (some 25) _ = _
            simp only [Act.put, List.setIfInBounds_toArray, List.set_cons_zero, List.set_cons_succ, i64_w, i32_w]
            rfl
          generalize ws.heap.size = q0 at *
          generalize ws.alloc (.cells #[.int .i64 (k : Int)] 3) = w_0 at *
          refine two_ (i := 3) (j := 7) (Ni := some 26) (Nj := some 30) #[true, true, true, true, true, true, true, false, false, false, false] #[true, true, true, false, true, true, true, true, false, false, false] rfl rfl rfl rfl (by kernel_rfl) (by decide) (by decide) (fun K hK => ?_) (fun K hK => ?_)
          · refine step_append_lies _ rfl (.tmp 23) (.tmp 25) 31 (by rfl) wA.heap.size 3 i3 _ 1 8 Try.underlying31 hi3 hz3_0 hz3_1 hz3_2 rfl (by decide) u6 k (iv (List.range k)) (by rfl) O1_0 ⟨q0, 0, none⟩ 1 1 [.int .i64 (k : Int)] (by rfl) (by rfl) (World.news_of_block (cs := #[.int .i64 (k : Int)]) (t := 3) (fr := (0, 0)) L1_0) (by simp [Value.oneCell']) (by decide) hm1 hm2 HB_0.size _ rfl ?_
            intro g1 cap1 w_1 O_1 G_1 _ _
            have F_1 := F_0.grown G_1 (own_type O1_0 F_0 (by decide)).symm
            have O2_1 := own_other O1_0 O2_0 (by decide) G_1
            have HB_1 := HB_0.grown G_1 HB_0.size (fun j e => (O1_0.lt j e).1)
            have O1_1 := O_1
            refine hK.out _ _ (F_1.cell 0) (fun hHeld => ?_)
            clear hK K
            refine norm_ (a' := ?_) ?_ ?_
            rotate_left
            · show Act.put _ (some 26) _ = _
              simp only [Act.put, List.setIfInBounds_toArray, List.set_cons_zero, List.set_cons_succ, i64_w, i32_w]
              rfl
            refine one_ (i := 7) (N := some 30) #[true, true, true, true, true, true, true, true, false, false, false] rfl rfl (by kernel_rfl) (by decide) (fun K hK => ?_)
            refine value_ (w1 := w_1.alloc (.cells #[.int .u64 x.f0] 25)) (v := .slice (some ⟨w_1.heap.size, 0, none⟩) 1 1) (by rfl) rfl (by go_simp) ?_
            have L2_2 := Blk.new w_1 25 #[.int .u64 x.f0]
            have O1_2 := O1_1.alloc (.cells #[.int .u64 x.f0] 25)
            have O2_2 := O2_1.alloc (.cells #[.int .u64 x.f0] 25)
            have F_2 := F_1.alloc (.cells #[.int .u64 x.f0] 25)
            have HB_2 := HB_1.alloc HB_1.size (.cells #[.int .u64 x.f0] 25)
            refine hK.out _ _ (F_2.cell 0) (fun hHeld => ?_)
            clear hK K
            refine norm_ (a' := ?_) ?_ ?_
            rotate_left
            · show Act.put _ (some 30) _ = _
              simp only [Act.put, List.setIfInBounds_toArray, List.set_cons_zero, List.set_cons_succ, i64_w, i32_w]
              rfl
            generalize w_1.heap.size = q2 at *
            generalize w_1.alloc (.cells #[.int .u64 x.f0] 25) = w_2 at *
            refine one_ (i := 8) (N := some 31) #[true, true, true, true, true, true, true, true, true, false, false] rfl rfl (by kernel_rfl) (by decide) (fun K hK => ?_)
            refine step_append_lies _ rfl (.tmp 27) (.tmp 30) 52 (by rfl) wA.heap.size 25 i25 _ 1 8 Try.underlying52 hi25 hz25_0 hz25_1 hz25_2 rfl (by decide) u7 k (uv (l.take k)) (by rfl) O2_2 ⟨q2, 0, none⟩ 1 1 [.int .u64 x.f0] (by rfl) (by rfl) (World.news_of_block (cs := #[.int .u64 x.f0]) (t := 25) (fr := (0, 0)) L2_2) (by simp [Value.oneCell']) (by decide) hm1 hm2 HB_2.size _ rfl ?_
            intro g3 cap3 w_3 O_3 G_3 _ _
            have F_3 := F_2.grown G_3 (own_type O2_2 F_2 (by decide)).symm
            have O1_3 := own_other O2_2 O1_2 (by decide) G_3
            have HB_3 := HB_2.grown G_3 HB_2.size (fun j e => (O2_2.lt j e).1)
            have O2_3 := O_3
            refine hK.out _ _ (F_3.cell 0) (fun hHeld => ?_)
            clear hK K
            refine norm_ (a' := ?_) ?_ ?_
            rotate_left
            · show Act.put _ (some 31) _ = _
              simp only [Act.put, List.setIfInBounds_toArray, List.set_cons_zero, List.set_cons_succ, i64_w, i32_w]
              rfl
            refine pure_ (i := 9) (N := some 6) (v := ?_) (a' := ?_) #[true, true, true, true, true, true, true, true, true, true, false] rfl rfl (by kernel_rfl) (fun _ _ _ h => h) (Or.inl ⟨by rfl, ?_⟩) ?_ ?_
            rotate_left
            · intro w'
              go_simp
              (try with_reducible rfl)
            rotate_left
            · simp only [Act.put, List.setIfInBounds_toArray, List.set_cons_zero, List.set_cons_succ, i64_w, i32_w]
              rfl
            refine pure_ (i := 10) (N := some 7) (v := ?_) (a' := ?_) #[true, true, true, true, true, true, true, true, true, true, true] rfl rfl (by kernel_rfl) (fun _ _ _ h => h) (Or.inl ⟨by rfl, ?_⟩) ?_ ?_
            rotate_left
            · intro w'
              go_simp
              (try with_reducible rfl)
            rotate_left
            · simp only [Act.put, List.setIfInBounds_toArray, List.set_cons_zero, List.set_cons_succ, i64_w, i32_w]
              rfl
            refine done_ (by kernel_rfl) ?_
            clear hHeld
            have E1 := O1_3
            have E2 := O2_3
            have E3 := HB_3
            clear F_3
            go_wp2_with fail
            refine ⟨⟨k + 1, _, _, by go_num, rfl, rfl, hlt, by rw [range_next]; exact E1, by rw [HTK.out]; exact E2, E3⟩, ?_⟩
            simp [intOf]
            omega
          · refine value_ (w1 := w_0.alloc (.cells #[.int .u64 x.f0] 25)) (v := .slice (some ⟨w_0.heap.size, 0, none⟩) 1 1) (by rfl) rfl (by go_simp) ?_
            have L2_4 := Blk.new w_0 25 #[.int .u64 x.f0]
            have O1_4 := O1_0.alloc (.cells #[.int .u64 x.f0] 25)
            have O2_4 := O2_0.alloc (.cells #[.int .u64 x.f0] 25)
            have F_4 := F_0.alloc (.cells #[.int .u64 x.f0] 25)
            have HB_4 := HB_0.alloc HB_0.size (.cells #[.int .u64 x.f0] 25)
            have L1_4 := L1_0.alloc (.cells #[.int .u64 x.f0] 25)
            refine hK.out _ _ (F_4.cell 0) (fun hHeld => ?_)
            clear hK K
            refine norm_ (a' := ?_) ?_ ?_
            rotate_left
            · show Act.put _ (some 30) _ = _
              simp only [Act.put, List.setIfInBounds_toArray, List.set_cons_zero, List.set_cons_succ, i64_w, i32_w]
              rfl
            generalize w_0.heap.size = q4 at *
            generalize w_0.alloc (.cells #[.int .u64 x.f0] 25) = w_4 at *
            refine one_ (i := 3) (N := some 26) #[true, true, true, true, true, true, true, true, false, false, false] rfl rfl (by kernel_rfl) (by decide) (fun K hK => ?_)
            refine step_append_lies _ rfl (.tmp 23) (.tmp 25) 31 (by rfl) wA.heap.size 3 i3 _ 1 8 Try.underlying31 hi3 hz3_0 hz3_1 hz3_2 rfl (by decide) u6 k (iv (List.range k)) (by rfl) O1_4 ⟨q0, 0, none⟩ 1 1 [.int .i64 (k : Int)] (by rfl) (by rfl) (World.news_of_block (cs := #[.int .i64 (k : Int)]) (t := 3) (fr := (0, 0)) L1_4) (by simp [Value.oneCell']) (by decide) hm1 hm2 HB_4.size _ rfl ?_
            intro g5 cap5 w_5 O_5 G_5 _ _
            have F_5 := F_4.grown G_5 (own_type O1_4 F_4 (by decide)).symm
            have O2_5 := own_other O1_4 O2_4 (by decide) G_5
            have HB_5 := HB_4.grown G_5 HB_4.size (fun j e => (O1_4.lt j e).1)
            have L2_5 := L2_4.grown G_5 (own_type O1_4 L2_4 (by decide)).symm
            have O1_5 := O_5
            refine hK.out _ _ (F_5.cell 0) (fun hHeld => ?_)
            clear hK K
            refine norm_ (a' := ?_) ?_ ?_
            rotate_left
            · show Act.put _ (some 26) _ = _
              simp only [Act.put, List.setIfInBounds_toArray, List.set_cons_zero, List.set_cons_succ, i64_w, i32_w]
              rfl
            refine one_ (i := 8) (N := some 31) #[true, true, true, true, true, true, true, true, true, false, false] rfl rfl (by kernel_rfl) (by decide) (fun K hK => ?_)
            refine step_append_lies _ rfl (.tmp 27) (.tmp 30) 52 (by rfl) wA.heap.size 25 i25 _ 1 8 Try.underlying52 hi25 hz25_0 hz25_1 hz25_2 rfl (by decide) u7 k (uv (l.take k)) (by rfl) O2_5 ⟨q4, 0, none⟩ 1 1 [.int .u64 x.f0] (by rfl) (by rfl) (World.news_of_block (cs := #[.int .u64 x.f0]) (t := 25) (fr := (0, 0)) L2_5) (by simp [Value.oneCell']) (by decide) hm1 hm2 HB_5.size _ rfl ?_
            intro g6 cap6 w_6 O_6 G_6 _ _
            have F_6 := F_5.grown G_6 (own_type O2_5 F_5 (by decide)).symm
            have O1_6 := own_other O2_5 O1_5 (by decide) G_6
            have HB_6 := HB_5.grown G_6 HB_5.size (fun j e => (O2_5.lt j e).1)
            have O2_6 := O_6
            refine hK.out _ _ (F_6.cell 0) (fun hHeld => ?_)
            clear hK K
            refine norm_ (a' := ?_) ?_ ?_
            rotate_left
            · show Act.put _ (some 31) _ = _
              simp only [Act.put, List.setIfInBounds_toArray, List.set_cons_zero, List.set_cons_succ, i64_w, i32_w]
              rfl
            refine pure_ (i := 9) (N := some 6) (v := ?_) (a' := ?_) #[true, true, true, true, true, true, true, true, true, true, false] rfl rfl (by kernel_rfl) (fun _ _ _ h => h) (Or.inl ⟨by rfl, ?_⟩) ?_ ?_
            rotate_left
            · intro w'
              go_simp
              (try with_reducible rfl)
            rotate_left
            · simp only [Act.put, List.setIfInBounds_toArray, List.set_cons_zero, List.set_cons_succ, i64_w, i32_w]
              rfl
            refine pure_ (i := 10) (N := some 7) (v := ?_) (a' := ?_) #[true, true, true, true, true, true, true, true, true, true, true] rfl rfl (by kernel_rfl) (fun _ _ _ h => h) (Or.inl ⟨by rfl, ?_⟩) ?_ ?_
            rotate_left
            · intro w'
              go_simp
              (try with_reducible rfl)
            rotate_left
            · simp only [Act.put, List.setIfInBounds_toArray, List.set_cons_zero, List.set_cons_succ, i64_w, i32_w]
              rfl
            refine done_ (by kernel_rfl) ?_
            clear hHeld
            have E1 := O1_6
            have E2 := O2_6
            have E3 := HB_6
            clear F_6
            go_wp2_with fail
            refine ⟨⟨k + 1, _, _, by go_num, rfl, rfl, hlt, by rw [range_next]; exact E1, by rw [HTK.out]; exact E2, E3⟩, ?_⟩
            simp [intOf]
            omega
        · refine value_ (w1 := ws.alloc (.cells #[.int .u64 x.f0] 25)) (v := .slice (some ⟨ws.heap.size, 0, none⟩) 1 1) (by rfl) rfl (by go_simp) ?_
          have L2_7 := Blk.new ws 25 #[.int .u64 x.f0]
          have O1_7 := O1_s.alloc (.cells #[.int .u64 x.f0] 25)
          have O2_7 := O2_s.alloc (.cells #[.int .u64 x.f0] 25)
          have F_7 := F_s.alloc (.cells #[.int .u64 x.f0] 25)
          have HB_7 := HB_s.alloc HB_s.size (.cells #[.int .u64 x.f0] 25)
          refine hK.out _ _ (F_7.cell 0) (fun hHeld => ?_)
          clear hK K
          refine norm_ (a' := ?_) ?_ ?_
          rotate_left
          · show Act.put _ (some 30) _ = _
            simp only [Act.put, List.setIfInBounds_toArray, List.set_cons_zero, List.set_cons_succ, i64_w, i32_w]
            rfl
          generalize ws.heap.size = q7 at *
          generalize ws.alloc (.cells #[.int .u64 x.f0] 25) = w_7 at *
          refine one_ (i := 2) (N := some 25) #[true, true, true, false, true, true, true, true, false, false, false] rfl rfl (by kernel_rfl) (by decide) (fun K hK => ?_)
          refine value_ (w1 := w_7.alloc (.cells #[.int .i64 (k : Int)] 3)) (v := .slice (some ⟨w_7.heap.size, 0, none⟩) 1 1) (by rfl) rfl (by go_simp) ?_
          have L1_8 := Blk.new w_7 3 #[.int .i64 (k : Int)]
          have O1_8 := O1_7.alloc (.cells #[.int .i64 (k : Int)] 3)
          have O2_8 := O2_7.alloc (.cells #[.int .i64 (k : Int)] 3)
          have F_8 := F_7.alloc (.cells #[.int .i64 (k : Int)] 3)
          have HB_8 := HB_7.alloc HB_7.size (.cells #[.int .i64 (k : Int)] 3)
          have L2_8 := L2_7.alloc (.cells #[.int .i64 (k : Int)] 3)
          refine hK.out _ _ (F_8.cell 0) (fun hHeld => ?_)
          clear hK K
          refine norm_ (a' := ?_) ?_ ?_
          rotate_left
          · show Act.put _ (some 25) _ = _
            simp only [Act.put, List.setIfInBounds_toArray, List.set_cons_zero, List.set_cons_succ, i64_w, i32_w]
            rfl
          generalize w_7.heap.size = q8 at *
          generalize w_7.alloc (.cells #[.int .i64 (k : Int)] 3) = w_8 at *
          refine one_ (i := 3) (N := some 26) #[true, true, true, true, true, true, true, true, false, false, false] rfl rfl (by kernel_rfl) (by decide) (fun K hK => ?_)
          refine step_append_lies _ rfl (.tmp 23) (.tmp 25) 31 (by rfl) wA.heap.size 3 i3 _ 1 8 Try.underlying31 hi3 hz3_0 hz3_1 hz3_2 rfl (by decide) u6 k (iv (List.range k)) (by rfl) O1_8 ⟨q8, 0, none⟩ 1 1 [.int .i64 (k : Int)] (by rfl) (by rfl) (World.news_of_block (cs := #[.int .i64 (k : Int)]) (t := 3) (fr := (0, 0)) L1_8) (by simp [Value.oneCell']) (by decide) hm1 hm2 HB_8.size _ rfl ?_
          intro g9 cap9 w_9 O_9 G_9 _ _
          have F_9 := F_8.grown G_9 (own_type O1_8 F_8 (by decide)).symm
          have O2_9 := own_other O1_8 O2_8 (by decide) G_9
          have HB_9 := HB_8.grown G_9 HB_8.size (fun j e => (O1_8.lt j e).1)
          have L2_9 := L2_8.grown G_9 (own_type O1_8 L2_8 (by decide)).symm
          have O1_9 := O_9
          refine hK.out _ _ (F_9.cell 0) (fun hHeld => ?_)
          clear hK K
          refine norm_ (a' := ?_) ?_ ?_
          rotate_left
          · show Act.put _ (some 26) _ = _
            simp only [Act.put, List.setIfInBounds_toArray, List.set_cons_zero, List.set_cons_succ, i64_w, i32_w]
            rfl
          refine one_ (i := 8) (N := some 31) #[true, true, true, true, true, true, true, true, true, false, false] rfl rfl (by kernel_rfl) (by decide) (fun K hK => ?_)
          refine step_append_lies _ rfl (.tmp 27) (.tmp 30) 52 (by rfl) wA.heap.size 25 i25 _ 1 8 Try.underlying52 hi25 hz25_0 hz25_1 hz25_2 rfl (by decide) u7 k (uv (l.take k)) (by rfl) O2_9 ⟨q7, 0, none⟩ 1 1 [.int .u64 x.f0] (by rfl) (by rfl) (World.news_of_block (cs := #[.int .u64 x.f0]) (t := 25) (fr := (0, 0)) L2_9) (by simp [Value.oneCell']) (by decide) hm1 hm2 HB_9.size _ rfl ?_
          intro g10 cap10 w_10 O_10 G_10 _ _
          have F_10 := F_9.grown G_10 (own_type O2_9 F_9 (by decide)).symm
          have O1_10 := own_other O2_9 O1_9 (by decide) G_10
          have HB_10 := HB_9.grown G_10 HB_9.size (fun j e => (O2_9.lt j e).1)
          have O2_10 := O_10
          refine hK.out _ _ (F_10.cell 0) (fun hHeld => ?_)
          clear hK K
          refine norm_ (a' := ?_) ?_ ?_
          rotate_left
          · show Act.put _ (some 31) _ = _
            simp only [Act.put, List.setIfInBounds_toArray, List.set_cons_zero, List.set_cons_succ, i64_w, i32_w]
            rfl
          refine pure_ (i := 9) (N := some 6) (v := ?_) (a' := ?_) #[true, true, true, true, true, true, true, true, true, true, false] rfl rfl (by kernel_rfl) (fun _ _ _ h => h) (Or.inl ⟨by rfl, ?_⟩) ?_ ?_
          rotate_left
          · intro w'
            go_simp
            (try with_reducible rfl)
          rotate_left
          · simp only [Act.put, List.setIfInBounds_toArray, List.set_cons_zero, List.set_cons_succ, i64_w, i32_w]
            rfl
          refine pure_ (i := 10) (N := some 7) (v := ?_) (a' := ?_) #[true, true, true, true, true, true, true, true, true, true, true] rfl rfl (by kernel_rfl) (fun _ _ _ h => h) (Or.inl ⟨by rfl, ?_⟩) ?_ ?_
          rotate_left
          · intro w'
            go_simp
            (try with_reducible rfl)
          rotate_left
          · simp only [Act.put, List.setIfInBounds_toArray, List.set_cons_zero, List.set_cons_succ, i64_w, i32_w]
            rfl
          refine done_ (by kernel_rfl) ?_
          clear hHeld
          have E1 := O1_10
          have E2 := O2_10
          have E3 := HB_10
          clear F_10
          go_wp2_with fail
          refine ⟨⟨k + 1, _, _, by go_num, rfl, rfl, hlt, by rw [range_next]; exact E1, by rw [HTK.out]; exact E2, E3⟩, ?_⟩
          simp [intOf]
          omega
      · obtain rfl : k = l.length := by omega
        have hkk : ¬ (l.length : Int) < (l.length : Int) := by omega
        rw [List.take_length] at O2
        have e1' := (HGB.out wr hB).cell 1
        have HE := Lib.hid (show gch id kind field l h = if kind == 1 then some (List.range l.length) else if (choose (l.map (·.f0)) h).2 then some [(choose (l.map (·.f0)) h).1] else none by unfold gch; rw [hm, if_pos rfl])
        have HO1 := Lib.hid O1
        have HBE := Lib.hid (KA.out.trans (hB.mono KA.out.size))
        have hsz := KA.out.size
        cases hk : kind == 1
        · rw [hk] at HE
          rw [uv_map] at O2
          have hll : (l.map (·.f0)).length = l.length := List.length_map ..
          obtain ⟨A2, c2, rfl, hc2, hC2⟩ := own_C (xs := l.map (·.f0)) (by rw [hll]; exact O2) (by rw [hll]; omega)
          have HCH := Lib.hid (choose_any A2 c2 (l.map (·.f0)) h wr hC2 hc2 (fun y hy => by obtain ⟨x, hx, rfl⟩ := List.mem_map.1 hy; exact HBU.out x hx) (by rw [hll]; omega) hh)
          rw [hll] at HCH
          generalize choose (l.map (·.f0)) h = p at *
          obtain ⟨i, b⟩ := p
          simp only at HCH HE
          have hl2 : (List.map (fun x : S34 => x.f0) l).length = l.length := hll
          rw [hl2]
          clear hll hl2 hC2 O2 hc2
          go_wp2_with fail
          refine HCH.out.mono ?_
          rintro e _ ⟨rfl, rfl⟩
          cases b
          · go_wp2_with fail
            go_ret2
            rw [HE.out]
            exact ⟨_, rfl, World.ownsRow_nil _ _ _ _, HBE.out⟩
          · go_wp2_with fail
            go_ret2
            rw [HE.out]
            exact ⟨_, rfl, World.ownsRow_lit wr #[.int .i64 (i : Int)] 1 HBE.out.size (by decide) rfl, HBE.out.alloc HBE.out.size _⟩
        · rw [hk] at HE
          go_wp2_with fail
          go_ret2
          rw [HE.out]
          exact ⟨_, rfl, by show wr.ownsRow w.heap.size 3 1 _ (List.range l.length).length _; rw [List.length_range]; exact own_mono HO1.out hsz, HBE.out⟩
end Go.Proofs.Ytpmckbpplkkgaaa.Base
