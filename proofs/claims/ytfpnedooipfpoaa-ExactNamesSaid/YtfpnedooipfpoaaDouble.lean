/- Twice as many slots: double (20). Conditions: as the contract says. -/
import Derived.Test.YtfpnedooipfpoaaDbl
set_option linter.unusedVariables false
set_option linter.unusedSimpArgs false
namespace Go.Proofs.Ytfpnedooipfpoaa.Base
open Go Go.RowKit Go.Proofs.Ytfpnedooipfpoaa Go.Proofs.Ytfpnedooipfpoaa.Ex Go.Proofs.Ytfpnedooipfpoaa.Mem Go.Proofs.Ytfpnedooipfpoaa.Math Go.Proofs.YtfpnedooipfpoaaW.PrintWords Go.Proofs.YtfpnedooipfpoaaW.PrintLast Go.Proofs.Ytfpnedooipfpoaa.PExactHalf
theorem rehash_append (H : Key → Nat) : ∀ (R S L : Slots), rehash H L (R ++ S) = rehash H (rehash H L R) S
  | [], S, L => rfl
  | none :: r, S, L => rehash_append H r S L
  | some e :: r, S, L => rehash_append H r S _
def part (L : Slots) (i : Nat) : Slots := rehash HH (List.replicate (2 * L.length) none) (L.take i)
theorem part_zero (L : Slots) : part L 0 = List.replicate (2 * L.length) none := rfl
theorem part_all (L : Slots) : part L L.length = dbl HH L := by unfold part dbl; rw [List.take_length]
theorem part_next (L : Slots) (i : Nat) (hi : i < L.length) : part L (i + 1) = (match gt L i with | none => part L i | some e => (part L i).set (find HH (part L i) e.1) (some e)) := by
  have h1 : L.take (i + 1) = L.take i ++ [gt L i] := by rw [gt_getElem hi, List.take_succ_eq_append_getElem hi]
  unfold part
  rw [h1, rehash_append]
  cases gt L i <;> rfl
theorem part_ok {L : Slots} (h : Ok HH L) (hl : 0 < L.length) (i : Nat) : (part L i).length = 2 * L.length ∧ ∃ x, x < (part L i).length ∧ gt (part L i) x = none := by
  have hl2 : (List.replicate (2 * L.length) (none : Option Ent)).length = 2 * L.length := List.length_replicate
  have h0 : Ok HH (List.replicate (2 * L.length) none) := ⟨fun i j e e' hi _ _ => (by rw [gt_rep] at hi; cases hi), fun i e hi => (by rw [gt_rep] at hi; cases hi)⟩
  have hn : ∀ k v, ¬ has (List.replicate (2 * L.length) none) k v := fun k v ⟨i, hi⟩ => by rw [gt_rep] at hi; cases hi
  have hc : cnt (List.replicate (2 * L.length) none) + cnt (L.take i) < (List.replicate (2 * L.length) (none : Option Ent)).length := by
    rw [cnt_rep, hl2]
    have h1 := cnt_le (L.take i)
    have h2 : (L.take i).length ≤ L.length := by rw [List.length_take]; omega
    omega
  obtain ⟨h1, h2, h3, -⟩ := ok_rehash hlim (L.take i) _ h0 ((pairwise_of h).sublist (List.take_sublist i L)) (fun e _ v => hn e.1 v) hc
  refine ⟨by rw [← hl2]; exact h2, cnt_free ?_⟩
  show cnt (part L i) < (part L i).length
  have h4 : cnt (part L i) = _ := h3
  have h5 : (part L i).length = _ := h2
  rw [h4, h5]
  exact hc
theorem row_at3 {w : World} {B g cap : Nat} {L : Slots} (h : w.ownsRow B 45 3 (.slice (some ⟨g, 0, none⟩) L.length cap) L.length (sc L)) (i : Nat) (hi : i < L.length) : ∃ (b : Bool) (k : Key) (v : Int), w.cell? ⟨g, i * 3, none⟩ = some (.bool b) ∧ w.cell? ⟨g, i * 3 + 1, none⟩ = some (.string k) ∧ w.cell? ⟨g, i * 3 + 2, none⟩ = some (.int .i64 v) ∧ gt L i = (if b then some (k, v) else none) := by
  have hg := List.getElem?_eq_getElem hi
  have h1 : ∀ j, j < 3 → w.cell? ⟨g, i * 3 + j, none⟩ = (sCells L[i])[j]? := fun j hj => by
    rw [h.cellAt (i * 3 + j) (by omega)]
    exact flat_at sc_f L i hg j hj
  have h2 := h1 0 (by decide)
  have h3 := h1 1 (by decide)
  have h4 := h1 2 (by decide)
  rw [Nat.add_zero] at h2
  rw [gt_getElem hi]
  generalize L[i] = o at *
  cases o with
  | none => exact ⟨false, _, _, h2, h3, h4, rfl⟩
  | some e => exact ⟨true, e.1, e.2, h2, h3, h4, rfl⟩
def DbR (w : World) (a g1 g2 m2 : Nat) (L : Slots) (n : Int) (t : Value) (wr : World) : Prop := ∃ i : Nat, t = .int .i64 (i : Int) ∧ i ≤ L.length ∧ TM wr a g2 m2 (part L i) n ∧ wr.ownsRow w.heap.size 45 3 (.slice (some ⟨g1, 0, none⟩) L.length L.length) L.length (sc L) ∧ Fp (fun x => x = a) w wr
def DbEnd (w : World) (a : Nat) (L : Slots) (n : Int) (e : Ending) (w' : World) : Prop := e = .returned (.tuple #[]) ∧ ∃ g' cap', w.heap.size ≤ g' ∧ TM w' a g' cap' (dbl HH L) n ∧ Fp (fun x => x = a) w w'
set_option maxHeartbeats 3200000 in
set_option maxRecDepth 100000 in
theorem double_any (a g cap : Nat) (L : Slots) (n : Int) (w : World) (h : TM w a g cap L n) (hok : Ok HH L) (hl : 0 < L.length) (hp : Pw (2 * L.length)) (hsm : Sm L) :
    Calls Try.prog 20 #[ptr a] w (DbEnd w a L n) := by
  have HM := Lib.hid h
  have HP := Lib.hid hp
  have HOK := Lib.hid hok
  have HL := Lib.hid hl
  have HSM := Lib.hid hsm
  have hpos := hp.pos
  have HPOS := Lib.hid hpos
  have c0 := h.box.cell 0
  rw [show #[Value.slice (some ⟨g, 0, none⟩) L.length cap, .int .i64 n][0]? = some (.slice (some ⟨g, 0, none⟩) L.length cap) from rfl] at c0
  have HMK1 := Lib.hid (fun W => make40 L.length (by omega) W)
  have HMK2 := Lib.hid (fun W => make40 (2 * L.length) (by omega) W)
  have hmk1 := HMK1.out w
  have HR1 := Lib.hid (row_new w L.length (by omega))
  have HB1 := Lib.hid ((Below.refl w.heap.size w).alloc (Nat.le_refl _) (.cells (madeCells #[.bool false, .string ByteArray.empty, .int .i64 0] (L.length * 3)) 45))
  clear h hp hok hl hsm
  obtain ⟨m, hm⟩ : ∃ m, L.length = m := ⟨_, rfl⟩
  have HMM := Lib.hid hm
  rw [hm] at c0 hmk1 HR1 HB1 hpos
  clear hm
  obtain ⟨w1, hw1⟩ : ∃ w1, w.alloc (.cells (madeCells #[.bool false, .string ByteArray.empty, .int .i64 0] (m * 3)) 45) = w1 := ⟨_, rfl⟩
  have HS1 := Lib.hid (show w1.heap.size = w.heap.size + 1 by rw [← hw1]; simp)
  rw [hw1] at hmk1 HR1 HB1
  clear hw1
  obtain ⟨g1, hg1⟩ : ∃ g1, w.heap.size = g1 := ⟨_, rfl⟩
  have HG1 := Lib.hid hg1
  rw [hg1] at hmk1 HR1
  clear hg1
  have c1 := (HM.out.go HB1.out).box.cell 0
  rw [show #[Value.slice (some ⟨g, 0, none⟩) L.length cap, .int .i64 n][0]? = some (.slice (some ⟨g, 0, none⟩) L.length cap) from rfl, HMM.out] at c1
  have hm1 : (m : Int) ≤ 1000000000 := by omega
  obtain ⟨w2, hrun, hR2, hB2, hS2⟩ := run_copy_slots w1 w.heap.size w HB1.out L m 3 g1 g m cap HMM.out (Nat.le_of_eq HG1.out) (own_mono HR1.out (Nat.le_of_eq HG1.out)) (by have := (HM.out.go HB1.out).row; rw [HMM.out] at this; exact this)
  have HR2 := Lib.hid hR2
  have HB2 := Lib.hid hB2
  have HS2 := Lib.hid (hS2.trans HS1.out)
  clear hR2 hB2 hS2 HR1
  have c2 := (HM.out.go HB2.out).box.cell 0
  rw [show #[Value.slice (some ⟨g, 0, none⟩) L.length cap, .int .i64 n][0]? = some (.slice (some ⟨g, 0, none⟩) L.length cap) from rfl, HMM.out] at c2
  have hmk2 := HMK2.out w2
  obtain ⟨m2, hm2⟩ : ∃ m2, 2 * m = m2 := ⟨_, rfl⟩
  have hmm2 : 2 * (m : Int) = (m2 : Int) := by omega
  have HMM2 := Lib.hid hm2
  have HRN := Lib.hid (row_new w2 m2 (by omega))
  have HBN := Lib.hid (HB2.out.alloc (HB2.out.size) (.cells (madeCells #[.bool false, .string ByteArray.empty, .int .i64 0] (m2 * 3)) 45))
  rw [HMM.out, hm2] at hmk2
  clear hm2
  obtain ⟨w3, hw3⟩ : ∃ w3, w2.alloc (.cells (madeCells #[.bool false, .string ByteArray.empty, .int .i64 0] (m2 * 3)) 45) = w3 := ⟨_, rfl⟩
  have HS3 := Lib.hid (show w3.heap.size = w.heap.size + 2 by rw [← hw3]; simp; have := HS2.out; omega)
  have HR3 := Lib.hid (show w3.ownsRow w.heap.size 45 3 (.slice (some ⟨g1, 0, none⟩) m m) m (sc L) by rw [← hw3]; exact HR2.out.alloc _)
  rw [hw3] at hmk2 HRN HBN
  clear hw3
  obtain ⟨g2, hg2⟩ : ∃ g2, w2.heap.size = g2 := ⟨_, rfl⟩
  have HG2 := Lib.hid (show w.heap.size + 1 = g2 by rw [← hg2]; exact HS2.out.symm)
  rw [hg2] at hmk2 HRN
  clear hg2
  have c3 := (HM.out.go HBN.out).box.cell 0
  rw [show #[Value.slice (some ⟨g, 0, none⟩) L.length cap, .int .i64 n][0]? = some (.slice (some ⟨g, 0, none⟩) L.length cap) from rfl, HMM.out] at c3
  have d3 := (HM.out.go HBN.out).box.frozen 0
  go_enter Try.func20, Try.ntmps20
  go_wp2_with (fail)
  have hf4 := (Fp.of_below HBN.out (fun x => x = a)).set_ (i := 0) (.slice (some ⟨g2, 0, none⟩) m2 m2) (fun _ => rfl)
  have ha0 := HM.out.box.lt
  have htm4 : TM (w3.setCell ⟨a, 0, none⟩ (.slice (some ⟨g2, 0, none⟩) m2 m2)) a g2 m2 (part L 0) n := by
    have hl0 : (part L 0).length = m2 := by rw [part_zero, List.length_replicate, HMM.out, HMM2.out]
    refine ⟨?_, ?_⟩
    · rw [hl0]
      exact (HM.out.go HBN.out).box.set_ 0 _
    · rw [hl0, part_zero, HMM.out, HMM2.out]
      exact own_mono (own_fp HRN.out ((Fp.refl (fun x => x = a) w3).set_ (i := 0) _ (fun _ => rfl)) (fun k e (hk : k = a) => by have e : g2 = k := Option.some.inj e; have := HG2.out; omega)) (Nat.zero_le _)
  have hro4 : (w3.setCell ⟨a, 0, none⟩ (.slice (some ⟨g2, 0, none⟩) m2 m2)).ownsRow w.heap.size 45 3 (.slice (some ⟨g1, 0, none⟩) L.length L.length) L.length (sc L) := by
    rw [HMM.out]
    exact own_fp HR3.out ((Fp.refl (fun x => x = a) w3).set_ (i := 0) _ (fun _ => rfl)) (fun k e (hk : k = a) => by have e : g1 = k := Option.some.inj e; have := HG1.out; omega)
  have HX4 := Lib.hid (show DbR w a g1 g2 m2 L n (.int .i64 0) (w3.setCell ⟨a, 0, none⟩ (.slice (some ⟨g2, 0, none⟩) m2 m2)) from ⟨0, rfl, Nat.zero_le _, htm4, hro4, hf4⟩)
  clear hf4 htm4 hro4 c0 c1 c2 c3 d3 HBN HR3 HRN hmk1 hmk2 hrun HMK1 HMK2 HR2 HB1 HB2 HS1 HS2 HS3
  generalize w3.setCell ⟨a, 0, none⟩ (.slice (some ⟨g2, 0, none⟩) m2 m2) = w4 at *
  clear w3 w2 w1
  go_loopw [26] (fun t wr => DbR w a g1 g2 m2 L n t wr) (fun t _ => L.length - (intOf t).toNat)
  case atStart => exact HX4.out
  case round =>
    clear HX4 w4
    obtain ⟨i, rfl, hi, hm, hro, hf⟩ := hrel
    have HM4 := Lib.hid hm
    have HRO := Lib.hid hro
    have HFP := Lib.hid hf
    have HI := Lib.hid hi
    rw [HMM.out] at hi
    clear hm hro hf
    by_cases him : i < m
    · have k0 : (i : Int) < (m : Int) := by omega
      have k1 : (0 : Int) ≤ (i : Int) := by omega
      have HIL := Lib.hid (show i < L.length by rw [HMM.out]; exact him)
      obtain ⟨b, k, v, d0, d1, d2, hgt⟩ := row_at3 HRO.out i HIL.out
      have HGT := Lib.hid hgt
      clear hgt
      cases b with
      | false =>
        go_wp2_with fail
        go_roundw
        case rel =>
          refine ⟨i + 1, by rw [Int.natCast_add] <;> rfl, HIL.out, ?_, HRO.out.alloc _, HFP.out.alloc _⟩
          rw [part_next L i HIL.out, HGT.out]
          exact HM4.out.go ((Below.refl _ _).alloc (Nat.le_refl _) _)
        case measure =>
          have := HIL.out
          rw [show ((i : Int) + 1) = ((i + 1 : Nat) : Int) by omega]
          simp only [intOf, Int.toNat_natCast]
          omega
      | true =>
        go_upto_region 7 with (fail)
        have HX := Lib.hid (Blk.new wr 45 #[.bool true, .string k, .int .i64 v])
        have hba := (Below.refl wr.heap.size wr).alloc (Nat.le_refl _) (.cells #[.bool true, .string k, .int .i64 v] 45)
        have HMQ := Lib.hid (HM4.out.go hba)
        have HROQ := Lib.hid (HRO.out.alloc (.cells #[.bool true, .string k, .int .i64 v] 45))
        have HFQ := Lib.hid (HFP.out.alloc (.cells #[.bool true, .string k, .int .i64 v] 45))
        have HQ := Lib.hid (show g2 < wr.heap.size from HM4.out.glt)
        have HQ1 := Lib.hid (show g1 < wr.heap.size from own_lt HRO.out rfl)
        clear hba d0 d1 d2 HM4 HRO HFP
        generalize wr.alloc (.cells #[.bool true, .string k, .int .i64 v] 45) = w3 at *
        generalize wr.heap.size = q at *
        have HHAS := Lib.hid (HSM.out k v ⟨i, HGT.out⟩)
        obtain ⟨hpl, hfree⟩ := part_ok HOK.out HL.out i
        have HPL := Lib.hid (show (part L i).length = m2 by rw [hpl, HMM.out, HMM2.out])
        have HFL := Lib.hid (find_lt hlim hfree k)
        have HFIND := Lib.hid (fun W (hW : Below w3.heap.size w3 W) => find_any a g2 m2 (part L i) n k W (HMQ.out.go hW) (by rw [HPL.out, ← HMM2.out, ← HMM.out]; exact HP.out) hfree HHAS.out)
        clear hpl hfree
        have c0 := HMQ.out.box.cell 0
        rw [show #[Value.slice (some ⟨g2, 0, none⟩) (part L i).length m2, .int .i64 n][0]? = some (.slice (some ⟨g2, 0, none⟩) (part L i).length m2) from rfl, HPL.out] at c0
        have e0 := HX.out.cell 0
        have e1 := HX.out.cell 1
        have e2 := HX.out.cell 2
        have HKEEP := Lib.hid (fun W (hW : Below w3.heap.size w3 W) => (show W.cell? ⟨a, 0, none⟩ = some (.slice (some ⟨g2, 0, none⟩) m2 m2) ∧ W.cell? ⟨q, 0, none⟩ = some (.bool true) ∧ W.cell? ⟨q, 1, none⟩ = some (.string k) ∧ W.cell? ⟨q, 2, none⟩ = some (.int .i64 v) from
          ⟨(hW.cell (World.block_lt_of_cell? _ _ c0)).trans c0, (HX.out.go hW).cell 0, (HX.out.go hW).cell 1, (HX.out.go hW).cell 2⟩))
        have HKEEP2 := Lib.hid (fun W W' (hW : Below w3.heap.size w3 W) (hf : Fp (fun x => x = g2) W W') => (show W'.cell? ⟨a, 0, none⟩ = some (.slice (some ⟨g2, 0, none⟩) m2 m2) ∧ W'.cell? ⟨q, 0, none⟩ = some (.bool true) ∧ W'.cell? ⟨q, 1, none⟩ = some (.string k) ∧ W'.cell? ⟨q, 2, none⟩ = some (.int .i64 v) from by
          have h1 := ((HMQ.out.go hW).box.fp hf (fun e => HMQ.out.ne e.symm)).cell 0
          rw [show #[Value.slice (some ⟨g2, 0, none⟩) (part L i).length m2, .int .i64 n][0]? = some (.slice (some ⟨g2, 0, none⟩) (part L i).length m2) from rfl, HPL.out] at h1
          have h2 := (HX.out.go hW).fp hf (fun e => by have := HQ.out; omega)
          exact ⟨h1, h2.cell 0, h2.cell 1, h2.cell 2⟩))
        have HPN := Lib.hid (show part L (i + 1) = (part L i).set (find HH (part L i) k) (some (k, v)) by rw [part_next L i HIL.out, HGT.out]; rfl)
        obtain ⟨f, hf⟩ : ∃ f, find HH (part L i) k = f := ⟨_, rfl⟩
        rw [hf] at HFL HFIND HPN
        clear hf
        have y1 : (f : Int) < (m2 : Int) := by have := HFL.out; rw [HPL.out] at this; omega
        have y0 : (0 : Int) ≤ (f : Int) := by omega
        refine start_ (n := 11) (S := (fun W => W.cell? ⟨a, 0, none⟩ = some (.slice (some ⟨g2, 0, none⟩) m2 m2) ∧ W.cell? ⟨q, 0, none⟩ = some (.bool true) ∧ W.cell? ⟨q, 1, none⟩ = some (.string k) ∧ W.cell? ⟨q, 2, none⟩ = some (.int .i64 v))) (ds := []) #[false, false, false, false, false, false, false, false, false, false, false] (by kernel_rfl) rfl rfl ⟨c0, e0, e1, e2⟩ (fun hHeld => ?_)
        refine pure_ (i := 0) (N := (some 32)) (v := ?_) (a' := ?_) #[true, false, false, false, false, false, false, false, false, false, false] rfl rfl (by kernel_rfl) (fun _ _ _ h => h) (Or.inl ⟨by rfl, ?_⟩) ?_ ?_
        rotate_left
        · intro w'
          go_simp
          (try with_reducible rfl)
        rotate_left
        · simp only [Act.put, List.setIfInBounds_toArray, List.set_cons_zero, List.set_cons_succ, i64_w, i32_w]
          rfl
        refine pure_ (i := 1) (N := (some 33)) (v := ?_) (a' := ?_) #[true, true, false, false, false, false, false, false, false, false, false] rfl rfl (by kernel_rfl) (fun _ _ _ h => h) (Or.inl ⟨by rfl, ?_⟩) ?_ ?_
        rotate_left
        · intro w'
          go_simp
          (try with_reducible rfl)
        rotate_left
        · simp only [Act.put, List.setIfInBounds_toArray, List.set_cons_zero, List.set_cons_succ, i64_w, i32_w]
          rfl
        refine pure_ (i := 2) (N := (some 34)) (v := ?_) (a' := ?_) #[true, true, true, false, false, false, false, false, false, false, false] rfl rfl (by kernel_rfl) (fun _ _ _ h => h) (Or.inl ⟨by rfl, ?_⟩) ?_ ?_
        rotate_left
        · intro w'
          go_simp
          (try with_reducible rfl)
        rotate_left
        · simp only [Act.put, List.setIfInBounds_toArray, List.set_cons_zero, List.set_cons_succ, i64_w, i32_w]
          rfl
        refine take_ (i := 3) (N := (some 35)) (v := ?_) (a' := ?_) #[true, true, true, true, false, false, false, false, false, false, false] rfl rfl (by kernel_rfl) (fun _ _ _ h => h) (Or.inl ⟨by rfl, ?_⟩) hHeld ?_ ?_
        rotate_left
        · rintro w' ⟨s0, s1, s2, s3⟩
          go_simp
          (try with_reducible rfl)
        rotate_left
        · simp only [Act.put, List.setIfInBounds_toArray, List.set_cons_zero, List.set_cons_succ, i64_w, i32_w]
          rfl
        refine pure_ (i := 4) (N := (some 36)) (v := ?_) (a' := ?_) #[true, true, true, true, true, false, false, false, false, false, false] rfl rfl (by kernel_rfl) (fun _ _ _ h => h) (Or.inl ⟨by rfl, ?_⟩) ?_ ?_
        rotate_left
        · intro w'
          go_simp
          (try with_reducible rfl)
        rotate_left
        · simp only [Act.put, List.setIfInBounds_toArray, List.set_cons_zero, List.set_cons_succ, i64_w, i32_w]
          rfl
        refine pure_ (i := 5) (N := (some 37)) (v := ?_) (a' := ?_) #[true, true, true, true, true, true, false, false, false, false, false] rfl rfl (by kernel_rfl) (fun _ _ _ h => h) (Or.inl ⟨by rfl, ?_⟩) ?_ ?_
        rotate_left
        · intro w'
          go_simp
          (try with_reducible rfl)
        rotate_left
        · simp only [Act.put, List.setIfInBounds_toArray, List.set_cons_zero, List.set_cons_succ, i64_w, i32_w]
          rfl
        refine take_ (i := 6) (N := (some 38)) (v := ?_) (a' := ?_) #[true, true, true, true, true, true, true, false, false, false, false] rfl rfl (by kernel_rfl) (fun _ _ _ h => h) (Or.inl ⟨by rfl, ?_⟩) hHeld ?_ ?_
        rotate_left
        · rintro w' ⟨s0, s1, s2, s3⟩
          go_simp
          (try with_reducible rfl)
        rotate_left
        · simp only [Act.put, List.setIfInBounds_toArray, List.set_cons_zero, List.set_cons_succ, i64_w, i32_w]
          rfl
        refine take_ (i := 8) (N := (some 40)) (v := ?_) (a' := ?_) #[true, true, true, true, true, true, true, false, true, false, false] rfl rfl (by kernel_rfl) (fun _ _ _ h => h) (Or.inl ⟨by rfl, ?_⟩) hHeld ?_ ?_
        rotate_left
        · rintro w' ⟨s0, s1, s2, s3⟩
          go_simp
          (try with_reducible rfl)
        rotate_left
        · simp only [Act.put, List.setIfInBounds_toArray, List.set_cons_zero, List.set_cons_succ, i64_w, i32_w]
          rfl
        refine one_ (i := 7) (N := (some 39)) #[true, true, true, true, true, true, true, true, true, false, false] rfl rfl (by kernel_rfl) (by decide) (fun K hK => ?_)
        refine goes_ Try.func19 (by kernel_rfl) rfl #[ptr a, .string k] (by rfl) rfl rfl (by simp [Act.eval]) ?_
        refine (HFIND.out _ (below_drew1 (Below.refl _ _))).mono ?_
        rintro e w4 ⟨rfl, hb⟩
        have HB4 := Lib.hid (below_step (below_drew1 (Below.refl w3.heap.size w3)) hb)
        have F0 := HKEEP.out _ HB4.out
        refine ⟨_, rfl, hK.out _ _ F0 (fun hHeld => ?_)⟩
        clear hK K hb
        refine norm_ (a' := ?_) ?_ ?_
        rotate_left
        · show Act.put _ (some 39) _ = _
          simp only [Act.put, List.setIfInBounds_toArray, List.set_cons_zero, List.set_cons_succ, i64_w, i32_w]
          rfl

        refine pure_ (i := 9) (N := (some 41)) (v := ?_) (a' := ?_) #[true, true, true, true, true, true, true, true, true, true, false] rfl rfl (by kernel_rfl) (fun _ _ _ h => h) (Or.inl ⟨by rfl, ?_⟩) ?_ ?_
        rotate_left
        · intro w'
          go_simp
          (try with_reducible rfl)
        rotate_left
        · simp only [Act.put, List.setIfInBounds_toArray, List.set_cons_zero, List.set_cons_succ, i64_w, i32_w]
          rfl
        refine one_ (i := 10) (N := none) #[true, true, true, true, true, true, true, true, true, true, true] rfl rfl (by kernel_rfl) (by decide) (fun K hK => ?_)
        have HM4 := Lib.hid (HMQ.out.go HB4.out)
        obtain ⟨ob, ok, ov, x0, x1, x2, y0, -, -⟩ := HM4.out.at_ f HFL.out
        have z0 := y0 (f * 3)
        have z1 := y0 (f * 3 + 1)
        have z2 := y0 (f * 3 + 2)
        clear y0
        refine skip_ (w1 := ((w4.setCell ⟨g2, f * 3, none⟩ (.bool true)).setCell ⟨g2, f * 3 + 1, none⟩ (.string k)).setCell ⟨g2, f * 3 + 2, none⟩ (.int .i64 v)) (by rfl) rfl (by go_simp) ?_
        have HS5 := Lib.hid (HM4.out.set3 f HFL.out (some (k, v)) (b := .bool true) (k := .string k) (v := .int .i64 v) rfl)
        have F1 := HKEEP2.out _ _ HB4.out HS5.out.2
        refine hK.out _ _ F1 (fun hHeld => ?_)
        clear hK K

        refine done_ (by kernel_rfl) ?_
        clear hHeld
        have HF5 := Lib.hid ((HFQ.out.go HB4.out).next HS5.out.2 (fun k (e : k = g2) hk => (by have := HG2.out; omega : k = a)))
        have HM5 := Lib.hid (show TM _ a g2 m2 (part L (i + 1)) n from by rw [HPN.out]; exact HS5.out.1)
        have HR5 := Lib.hid (own_fp (own_go HROQ.out HB4.out) HS5.out.2 (fun k e (hk : k = g2) => by have e : g1 = k := Option.some.inj e; have := HG1.out; have := HG2.out; omega))
        clear HS5 F1 F0 x0 x1 x2 z0 z1 z2 HKEEP HKEEP2 HFIND c0 e0 e1 e2
        generalize ((w4.setCell ⟨g2, f * 3, none⟩ (.bool true)).setCell ⟨g2, f * 3 + 1, none⟩ (.string k)).setCell ⟨g2, f * 3 + 2, none⟩ (.int .i64 v) = w5 at *
        go_wp2_with fail
        go_roundw
        case rel => exact ⟨i + 1, by rw [Int.natCast_add] <;> rfl, HIL.out, HM5.out, HR5.out, HF5.out⟩
        case measure =>
          have := HIL.out
          rw [show ((i : Int) + 1) = ((i + 1 : Nat) : Int) by omega]
          simp only [intOf, Int.toNat_natCast]
          omega
    · have k0 : ¬ (i : Int) < (m : Int) := by omega
      have hie : i = L.length := by have := HMM.out; omega
      have HIE := Lib.hid hie
      clear hie
      go_wp2_with fail
      refine bodyPost_ret (v := .tuple #[]) (by simp [results, Try.results20, go_sem]) rfl ?_
      refine ⟨rfl, g2, m2, by have := HG2.out; omega, ?_, HFP.out⟩
      have := HM4.out
      rw [HIE.out, part_all] at this
      exact this
end Go.Proofs.Ytfpnedooipfpoaa.Base
