/- What is deleted, and put again, is 0: the law. Conditions: as each contract says. -/
import Derived.Test.YtdobpieiobikpaaAnewPure
import Derived.Test.YtdobpieiobikpaaAlone
set_option linter.unusedVariables false
set_option linter.unusedSimpArgs false
namespace Go.Proofs.Ytdobpieiobikpaa.Base
open Go Go.RowKit Go.Proofs.Ytdobpieiobikpaa.Mem Go.Proofs.YtdobpieiobikpaaW.PrintWords Go.Proofs.YtdobpieiobikpaaW.PrintLast
theorem Mine.ms {w w1 : World} {a : Nat} {S : St} (h : Mine w w1 a S) : Ms w w1 [(a, S)] := (Ms.none w).more h.sto h.below
theorem i64_30 (k : Nat) (h : k < 60) : IntKind.i64.wrap (k : Int) = (k : Int) := by
  simp [IntKind.wrap, IntKind.signed, IntKind.bits]
  omega
theorem madeK (w : World) (k : Nat) (hk : k ≤ 9223372036854775807) : Kd.C (Kd.int .u64) (w.alloc (.cells (madeCells #[.int .u64 0] k) 22)) (some ⟨w.heap.size, 0, none⟩) (List.replicate k (0 : Int)).length (List.replicate k 0) := by
  refine blk_readsU (t := 22) ?_ (by rw [List.length_replicate]; exact hk)
  have e : ((List.replicate k (0 : Int)).map (Value.int .u64)).toArray = madeCells #[.int .u64 0] k := by
    apply Array.toList_inj.1
    rw [toList_madeCells_one, List.map_replicate]
  rw [e]
  exact Blk.new w 22 _
theorem numsK (A0 : Option Addr) (c0 : Nat) (A1 : Option Addr) (c1 k : Nat) (w : World) (h0 : Kd.C (Kd.int .u64) w A0 (List.replicate k (0 : Int)).length (List.replicate k 0)) (hc0 : (List.replicate k (0 : Int)).length ≤ c0) (h1 : Kd.C (Kd.int .u64) w A1 (List.replicate k (0 : Int)).length (List.replicate k 0)) (hc1 : k ≤ c1) (hl : k < 1000000000) :
    Calls Try.prog 31 #[.slice A0 k c0, .slice A1 k c1] w fun e w' => e = .returned (.bool true) ∧ Below w.heap.size w w' := by
  have hlr : (List.replicate k (0 : Int)).length = k := List.length_replicate
  have h := nums_any A0 c0 (List.replicate k 0) A1 c1 (List.replicate k 0) w h0 hc0 h1 (by rw [hlr]; exact hc1) (by rw [hlr]; exact hl)
  rw [hlr] at h
  refine h.mono ?_
  rintro e w' ⟨rfl, q, rfl⟩
  exact ⟨by rw [beq_self_eq_true], pw_below_drewN (Below.refl _ _) q⟩
set_option maxHeartbeats 16000000 in
set_option maxRecDepth 100000 in
theorem anew_law (A : Option Addr) (cp : Nat) (l : List Act) (id size : Int) (w : World) (hA : Acts w A l) (hid : (Lit.int .i64 id).wf = true) :
    Calls Try.prog 9 #[.slice A l.length cp, .int .i64 id, .int .i64 size] w fun e w' => e = .returned (.bool true) ∧ Below w.heap.size w w' := by
  obtain ⟨i1, hi1, hrem⟩ := mod60 size
  have HI1 := Lib.hid hi1
  have HREM := Lib.hid hrem
  clear hi1 hrem
  by_cases hlen : 100 < l.length
  · have hl1 : (100 : Int) < (l.length : Int) := by omega
    clear hA
    go_enter Try.func9, Try.ntmps9
    go_wp2_with fail
    refine (awake_any _).mono ?_
    rintro e w1 ⟨rfl, hb1⟩
    go_wp2_with fail
    go_ret
    exact ⟨rfl, hb1⟩
  · have hl1 : ¬ (100 : Int) < (l.length : Int) := by omega
    have HA := Lib.hid hA
    clear hA
    go_enter Try.func9, Try.ntmps9
    go_wp2_with fail
    refine (awake_any _).mono ?_
    rintro e w1 ⟨rfl, hb1⟩
    have HB1 := Lib.hid hb1
    clear hb1
    go_wp2_with fail
    refine (new_any w1).mono ?_
    rintro e w2 ⟨rfl, hs, hb⟩
    have HR0 := Lib.hid (show RunR l w1.heap.size w1 (.int .i64 0) w2 from ⟨0, rfl, Nat.zero_le _, ⟨hs, hb⟩⟩)
    obtain ⟨p, hp⟩ : ∃ p, w1.heap.size = p := ⟨_, rfl⟩
    rw [hp] at HR0 ⊢
    clear hs hb hp
    go_wp2_with fail
    go_loopw [8] (fun t wr => RunR l p w1 t wr) (fun t _ => l.length - (intOf t).toNat)
    case atStart => exact HR0.out
    case round =>
      clear HR0
      obtain ⟨i, rfl, hi, hM⟩ := hrel
      have HM := Lib.hid hM
      by_cases hlt : i < l.length
      · have k1 : (i : Int) < (l.length : Int) := by omega
        have k0 : (0 : Int) ≤ (i : Int) := by omega
        obtain ⟨g, o, rfl, c0, c1, c2, c3, c4⟩ := (HA.out.go (below_step HB1.out hM.below)).at_ i hlt
        have HX := Lib.hid (HA.out.ok _ (List.getElem_mem hlt))
        have HN := Lib.hid (runS_next l i hlt)
        generalize l[i] = x at *
        clear hM
        go_wp2_with fail
        refine (step_any p _ _ x wr HM.out.sto HX.out).mono ?_
        intro e w3 hd
        obtain ⟨rfl, h⟩ := HM.out.step hd
        have HM3 := Lib.hid h
        clear hd h c0 c1 c2 c3 c4
        go_wp2_with fail
        go_roundw
        case rel => exact ⟨i + 1, by go_num, hlt, by rw [HN.out]; exact HM3.out⟩
        case measure => simp [intOf]; omega
      · obtain rfl : i = l.length := by omega
        have k1 : ¬ (l.length : Int) < (l.length : Int) := by omega
        rw [List.take_length] at HM
        obtain ⟨S, hS⟩ : ∃ S, runS l = S := ⟨_, rfl⟩
        rw [hS] at HM
        clear hM hS
        obtain ⟨w3, hw3⟩ : ∃ w3, wr = w3 := ⟨_, rfl⟩
        rw [hw3] at HM ⊢
        clear hw3
        have HMs := Lib.hid HM.out.ms
        have HSok := Lib.hid HM.out.sto.ok
        clear HM
        have hrem := HREM.out
        have b0 : (0 : Int) ≤ (i1 : Int) := Int.natCast_nonneg _
        have b1 : (i1 : Int) < 60 := Int.ofNat_lt.2 HI1.out
        go_wp2_with fail
        clear hrem b0 b1
        obtain ⟨k, hk⟩ : ∃ k : Nat, 1 + (i1 : Int) = (k : Int) := ⟨i1 + 1, by omega⟩
        have HK := Lib.hid (show 1 ≤ k ∧ k ≤ 60 by have := HI1.out; omega)
        rw [hk]
        clear hk
        obtain ⟨O, hs, hd⟩ := HMs.out.act 0 rfl
        refine (delC_any p O S id w3 hs hid).mono ?_
        intro e w4 h
        obtain ⟨rfl, hM⟩ := hd _ _ _ h
        obtain ⟨S1, hS1⟩ : ∃ S1, (delC S id).2 = S1 := ⟨_, rfl⟩
        have HL1 := Lib.hid (show lookE S1.c id = none by rw [← hS1]; exact delC_look S HSok.out id)
        rw [hS1] at hM
        have HM4 := Lib.hid (show Ms w1 w4 [(p, S1)] from hM)
        clear h hM hd hs hS1 HMs
        generalize (delC S id).1 = e1
        go_wp2_with fail
        obtain ⟨O1, hs, hd⟩ := HM4.out.act 0 rfl
        have HS1ok := Lib.hid hs.ok
        refine (delR_any p O1 S1 id w4 hs hid).mono ?_
        intro e w5 h
        obtain ⟨rfl, hM⟩ := hd _ _ _ h
        obtain ⟨S2, hS2⟩ : ∃ S2, (delR S1 id).2 = S2 := ⟨_, rfl⟩
        have HL2 := Lib.hid (show lookE S2.r id = none by rw [← hS2]; exact delR_look S1 HS1ok.out id)
        have HL3 := Lib.hid (show lookE S2.c id = none by rw [← hS2, delR_c]; exact HL1.out)
        rw [hS2] at hM
        have HM5 := Lib.hid (show Ms w1 w5 [(p, S2)] from hM)
        clear h hM hd hs hS2 HM4
        generalize (delR S1 id).1 = e2
        obtain ⟨q1, q2, S3, S4, S5, q3, q4, q5, q6, q7, q8, q9⟩ := anew_pure HL3.out HL2.out k HK.out
        have HQ1 := Lib.hid q1
        have HQ2 := Lib.hid q2
        have HQ3 := Lib.hid q3
        have HQ4 := Lib.hid q4
        have HQ5 := Lib.hid q5
        have HQ6 := Lib.hid q6
        have HQ7 := Lib.hid q7
        have HQ8 := Lib.hid q8
        have HQ9 := Lib.hid q9
        clear q1 q2 q3 q4 q5 q6 q7 q8 q9
        go_wp2_with fail
        obtain ⟨O2, hs⟩ := HM5.out.read 0 rfl
        refine (copy_any p O2 S2 w5 hs).mono ?_
        rintro e w6 ⟨x, rfl, hx, hb⟩
        have HM6 := Lib.hid (show Ms w1 w6 [(p, S2), (x, S2)] from HM5.out.more hx hb)
        clear hs hx hb HM5
        go_wp2_with fail
        obtain ⟨O3, hs⟩ := HM6.out.read 0 rfl
        have hg := getC_any p O3 S2 id w6 hs hid
        rw [HQ1.out] at hg
        refine hg.mono ?_
        rintro e w7 ⟨rfl, hb⟩
        have HM7 := Lib.hid (HM6.out.go hb)
        clear hs hb hg HM6
        go_wp2_with fail
        obtain ⟨O4, hs, hd⟩ := HM7.out.act 0 rfl
        have hg := delR_any p O4 S2 id w7 hs hid
        rw [HQ2.out] at hg
        refine hg.mono ?_
        intro e w8 h
        obtain ⟨rfl, hM⟩ := hd _ _ _ h
        have HM8 := Lib.hid (show Ms w1 w8 [(p, S2), (x, S2)] from hM)
        clear h hM hd hs hg HM7
        go_wp2_with fail
        obtain ⟨O5, hs, hd⟩ := HM8.out.act 0 rfl
        have hg := putC_any p O5 S2 id w8 hs hid
        rw [HQ3.out] at hg
        refine hg.mono ?_
        intro e w9 h
        obtain ⟨rfl, hM⟩ := hd _ _ _ h
        have HM9 := Lib.hid (show Ms w1 w9 [(p, S3), (x, S2)] from hM)
        clear h hM hd hs hg HM8
        go_wp2_with fail
        obtain ⟨O6, hs, hd⟩ := HM9.out.act 0 rfl
        have hg := putR_any p O6 S3 id (k : Int) w9 hs hid
        rw [HQ4.out] at hg
        refine hg.mono ?_
        intro e w10 h
        obtain ⟨rfl, hM⟩ := hd _ _ _ h
        have HM10 := Lib.hid (show Ms w1 w10 [(p, S4), (x, S2)] from hM)
        clear h hM hd hs hg HM9
        go_wp2_with fail
        obtain ⟨O7, hs⟩ := HM10.out.read 0 rfl
        have hg := getC_any p O7 S4 id w10 hs hid
        rw [HQ5.out] at hg
        refine hg.mono ?_
        rintro e w11 ⟨rfl, hb⟩
        have HM11 := Lib.hid (HM10.out.go hb)
        clear hs hb hg HM10
        go_wp2_with fail
        obtain ⟨O8, hs⟩ := HM11.out.read 0 rfl
        have hg := rowR_any p O8 S4 id 0 (k : Int) w11 hs hid
        rw [HQ6.out] at hg
        refine hg.mono ?_
        rintro e w12 ⟨v, rfl, ho, hb⟩
        have HM12 := Lib.hid (HM11.out.go hb)
        have hk60 := HK.out
        obtain ⟨A5, c5, rfl, hc5, hC5⟩ := own_C (xs := List.replicate k (0 : Int)) ho (by rw [List.length_replicate]; omega)
        have hlr : (List.replicate k (0 : Int)).length = k := List.length_replicate
        have HC5 := Lib.hid hC5
        have HCc := Lib.hid hc5
        rw [show (((List.replicate k (0 : Int)), (0 : Int)).1).length = k from hlr]
        clear hs hb hg HM11 ho hC5 hc5 hk60
        have hmk : ∀ W : World, (Instr.makeSlice 30 (.int .i64 (k : Int)) (.int .i64 (k : Int))).run Try.prog W = .ok (.slice (some ⟨W.heap.size, 0, none⟩) k k) (W.alloc (.cells (madeCells #[.int .u64 0] k) 22)) := fun W => make30 k (by have := HK.out; omega) W
        clear hlr
        go_wp2_with fail
        have hb13 := (Below.refl w12.heap.size w12).alloc (Nat.le_refl _) (.cells (madeCells #[.int .u64 0] k) 22)
        have HM13 := Lib.hid (HM12.out.go hb13)
        have hg := numsK A5 c5 (some ⟨w12.heap.size, 0, none⟩) k k _ (Kd.C_below HC5.out hb13) HCc.out (madeK w12 k (by have := HK.out; omega)) (Nat.le_refl _) (by have := HK.out; omega)
        clear hmk hb13 HM12
        generalize w12.alloc (.cells (madeCells #[.int .u64 0] k) 22) = w13 at *
        refine hg.mono ?_
        rintro e w14 ⟨rfl, hb⟩
        have HM14 := Lib.hid (HM13.out.go hb)
        clear hg hb HM13
        go_wp2_with fail
        obtain ⟨O9, hs⟩ := HM14.out.read 0 rfl
        obtain ⟨P9, hs'⟩ := HM14.out.read 1 rfl
        have hg := same_any p x O9 P9 S4 S2 w14 hs hs'
        rw [HQ7.out] at hg
        refine hg.mono ?_
        rintro e w15 ⟨rfl, hb⟩
        have HM15 := Lib.hid (HM14.out.go hb)
        clear hs hs' hb hg HM14
        go_wp2_with fail
        obtain ⟨O10, hs, hd⟩ := HM15.out.act 0 rfl
        have hg := delC_any p O10 S4 id w15 hs hid
        rw [HQ8.out] at hg
        refine hg.mono ?_
        intro e w16 h
        obtain ⟨rfl, hM⟩ := hd _ _ _ h
        have HM16 := Lib.hid (show Ms w1 w16 [(p, S5), (x, S2)] from hM)
        clear h hM hd hs hg HM15
        go_wp2_with fail
        obtain ⟨O11, hs, hd⟩ := HM16.out.act 0 rfl
        have hg := delR_any p O11 S5 id w16 hs hid
        rw [HQ9.out] at hg
        refine hg.mono ?_
        intro e w17 h
        obtain ⟨rfl, hM⟩ := hd _ _ _ h
        have HM17 := Lib.hid (show Ms w1 w17 [(p, S2), (x, S2)] from hM)
        clear h hM hd hs hg HM16
        go_wp2_with fail
        obtain ⟨O12, hs⟩ := HM17.out.read 0 rfl
        obtain ⟨P12, hs'⟩ := HM17.out.read 1 rfl
        have hg := same_any p x O12 P12 S2 S2 w17 hs hs'
        rw [sameS_self] at hg
        refine hg.mono ?_
        rintro e w18 ⟨rfl, hb⟩
        have HM18 := Lib.hid (HM17.out.go hb)
        clear hs hs' hb hg HM17
        go_wp2_with fail
        go_ret
        exact ⟨rfl, below_step HB1.out HM18.out.below⟩
end Go.Proofs.Ytdobpieiobikpaa.Base
namespace Go.Proofs.Ytdobpieiobikpaa.Anew
open Go Go.RowKit Go.Proofs.Ytdobpieiobikpaa.Mem Go.Proofs.YtdobpieiobikpaaW.PrintWords
theorem core (A : Option Addr) (c : Nat) (l : List Base.Act) (id size : Int) (w : World) (_ : l.length ≤ c) (hm : l.length * 40 ≤ 140737488351232) (_ : ∀ x ∈ l, Base.ActOk x) (hA : Base.Acts w A l) (hid : (Lit.int .i64 id).wf = true) (_ : (Lit.int .i64 size).wf = true) :
    Calls Try.prog 9 #[.slice A l.length c, .int .i64 id, .int .i64 size] w fun e w' => e = .returned (.bool true) ∧ Below w.heap.size w w' := Base.anew_law A c l id size w hA hid
end Go.Proofs.Ytdobpieiobikpaa.Anew
