/- What is done with a copy changes nothing of the store; Same tells what is unlike: the law. Conditions: as each contract says. -/
import Derived.Test.YtdobpieiobikpaaApartPure
import Derived.Test.YtdobpieiobikpaaAwake
set_option linter.unusedVariables false
set_option linter.unusedSimpArgs false
namespace Go.Proofs.Ytdobpieiobikpaa.Base
open Go Go.RowKit Go.Proofs.Ytdobpieiobikpaa.Mem Go.Proofs.YtdobpieiobikpaaW.PrintWords Go.Proofs.YtdobpieiobikpaaW.PrintLast
def runF (S : St) (l : List Act) : St := l.foldl stepS S
theorem runF_next (S : St) (l : List Act) (i : Nat) (h : i < l.length) : runF S (l.take (i + 1)) = stepS (runF S (l.take i)) l[i] := by
  unfold runF
  rw [List.take_succ_eq_append_getElem h, List.foldl_append]
  rfl
/-- An act on one store of several. -/
theorem Ms.step {w w1 : World} {L : List (Nat × St)} (h : Ms w w1 L) (i : Nat) {a : Nat} {S : St} (hi : L[i]? = some (a, S)) : ∃ O, Sto w1 a O S ∧ ∀ S' e w2, StepEnd w1 a O S' e w2 → e = .returned (.tuple #[]) ∧ Ms w w2 (L.set i (a, S')) := by
  obtain ⟨O, h1, h2⟩ := h.act i hi
  refine ⟨O, h1, fun S' e w2 hd => ?_⟩
  obtain ⟨d1, d2, d3⟩ := hd
  exact ⟨d1, (h2 (0, S') (.returned (.int .i64 0)) w2 ⟨rfl, d2, d3⟩).2⟩
theorem sameS_c {S T : St} (h : sameL S.c T.c = false) : sameS S T = false := by unfold sameS; rw [h]; rfl
theorem apart_end {T : St} (h : T.ok) (id : Int) : ∃ e1 e2 T1 T2, cnt T id 0 = (e1, T1) ∧ bump T1 id 0 1 = (e2, T2) ∧ ((e1 = 0 ∧ sameS T T2 = false ∧ (e2 = 0 ∨ e2 = 6)) ∨ (e1 = 6 ∧ e2 = 0 ∧ sameS T T2 = false) ∨ (e1 = 6 ∧ e2 = 6 ∧ sameS T T2 = true)) := by
  refine ⟨(cnt T id 0).1, (bump (cnt T id 0).2 id 0 1).1, (cnt T id 0).2, (bump (cnt T id 0).2 id 0 1).2, rfl, rfl, ?_⟩
  rcases apart_cnt h id with ⟨h1, h2, h3⟩ | ⟨h1, h2⟩
  · have hl : (bump (cnt T id 0).2 id 0 1).2.c = (cnt T id 0).2.c ∧ ((bump (cnt T id 0).2 id 0 1).1 = 0 ∨ (bump (cnt T id 0).2 id 0 1).1 = 6) := by
      unfold bump
      split
      · refine ⟨?_, .inl rfl⟩
        unfold setR
        split <;> rfl
      · next hn =>
        refine ⟨rfl, .inr ?_⟩
        have h4 : atR (cnt T id 0).2 id 0 = atR T id 0 := by unfold atR; rw [h3]
        rw [h4] at hn
        show atR (cnt T id 0).2 id 0 = 6
        rw [h4]
        unfold atR at hn ⊢
        cases hq : lookE T.r id with
        | none => rfl
        | some xs =>
          have := (h.rw_ _ (lookE_mem hq)).1
          simp only [hq] at hn
          exact absurd (if_pos (by have h5 : 1 ≤ xs.length := this; omega)) hn
    exact .inl ⟨h1, sameS_c (by rw [hl.1]; exact h2), hl.2⟩
  · rw [h2]
    rcases apart_bump h id with ⟨g1, g2, g3⟩ | ⟨g1, g2⟩
    · refine .inr (.inl ⟨h1, g1, ?_⟩)
      unfold sameS
      rw [g2, Bool.and_false]
    · exact .inr (.inr ⟨h1, g1, by rw [g2]; exact sameS_self T⟩)
/-- A loop's index, and the stores behind so many rounds. -/
def MsR (n : Nat) (F : Nat → List (Nat × St)) (w : World) (t : Value) (wr : World) : Prop := ∃ i : Nat, t = .int .i64 (i : Int) ∧ i ≤ n ∧ Ms w wr (F i)
set_option maxHeartbeats 16000000 in
set_option maxRecDepth 100000 in
theorem apart_law (A : Option Addr) (cp : Nat) (l : List Act) (B : Option Addr) (cq : Nat) (m : List Act) (id : Int) (w : World) (hA : Acts w A l) (hB : Acts w B m) (hid : (Lit.int .i64 id).wf = true) :
    Calls Try.prog 10 #[.slice A l.length cp, .slice B m.length cq, .int .i64 id] w fun e w' => e = .returned (.bool true) ∧ Below w.heap.size w w' := by
  have HA := Lib.hid hA
  have HB := Lib.hid hB
  clear hA hB
  by_cases hlen : 100 < l.length
  · have hl1 : (100 : Int) < (l.length : Int) := by omega
    go_enter Try.func10, Try.ntmps10
    go_wp2_with fail
    refine (awake_any _).mono ?_
    rintro e w1 ⟨rfl, hb1⟩
    go_wp2_with fail
    go_ret
    exact ⟨rfl, hb1⟩
  · by_cases hlen2 : 100 < m.length
    · have hl1 : ¬ (100 : Int) < (l.length : Int) := by omega
      have hl2 : (100 : Int) < (m.length : Int) := by omega
      go_enter Try.func10, Try.ntmps10
      go_wp2_with fail
      refine (awake_any _).mono ?_
      rintro e w1 ⟨rfl, hb1⟩
      go_wp2_with fail
      go_ret
      exact ⟨rfl, hb1⟩
    · have hl1 : ¬ (100 : Int) < (l.length : Int) := by omega
      have hl2 : ¬ (100 : Int) < (m.length : Int) := by omega
      go_enter Try.func10, Try.ntmps10
      go_wp2_with fail
      refine (awake_any _).mono ?_
      rintro e w1 ⟨rfl, hb1⟩
      have HB1 := Lib.hid hb1
      clear hb1
      go_wp2_with fail
      refine (new_any w1).mono ?_
      rintro e w2 ⟨rfl, hs, hb⟩
      have HM2 := Lib.hid (show Ms w1 w2 [(w1.heap.size, St.nil)] from (Ms.none w1).more hs hb)
      clear hs hb
      generalize w1.heap.size = p at *
      go_wp2_with fail
      refine (new_any w2).mono ?_
      rintro e w3 ⟨rfl, hs, hb⟩
      have HM3 := Lib.hid (show Ms w1 w3 [(p, St.nil), (w2.heap.size, St.nil)] from HM2.out.more hs hb)
      clear hs hb HM2
      generalize w2.heap.size = q at *
      have HR0 := Lib.hid (show MsR l.length (fun i => [(p, runF St.nil (l.take i)), (q, runF St.nil (l.take i))]) w1 (.int .i64 0) w3 from ⟨0, rfl, Nat.zero_le _, HM3.out⟩)
      clear HM3
      go_wp2_with fail
      go_loopw [9] (fun t wr => MsR l.length (fun i => [(p, runF St.nil (l.take i)), (q, runF St.nil (l.take i))]) w1 t wr) (fun t _ => l.length - (intOf t).toNat)
      case atStart => exact HR0.out
      case round =>
        clear HR0
        obtain ⟨i, rfl, hi, hM⟩ := hrel
        have HM := Lib.hid (show Ms w1 wr [(p, runF St.nil (l.take i)), (q, runF St.nil (l.take i))] from hM)
        by_cases hlt : i < l.length
        · have k1 : (i : Int) < (l.length : Int) := by omega
          have k0 : (0 : Int) ≤ (i : Int) := by omega
          have HAT := Lib.hid (fun W (hW : Below w1.heap.size w1 W) => (HA.out.go (below_step HB1.out hW)).at_ i hlt)
          obtain ⟨g, o, rfl, c0, c1, c2, c3, c4⟩ := HAT.out wr hM.below
          have HX := Lib.hid (HA.out.ok _ (List.getElem_mem hlt))
          have HN := Lib.hid (runF_next St.nil l i hlt)
          generalize l[i] = x at *
          clear hM
          go_wp2_with fail
          obtain ⟨O, hs, hd⟩ := HM.out.step 0 rfl
          refine (step_any p _ _ x wr hs HX.out).mono ?_
          intro e w4 h
          obtain ⟨rfl, hM⟩ := hd _ _ _ h
          have HM4 := Lib.hid (show Ms w1 w4 [(p, stepS (runF St.nil (l.take i)) x), (q, runF St.nil (l.take i))] from hM)
          clear hs hd h hM c0 c1 c2 c3 c4
          obtain ⟨g', o', hgo, c0, c1, c2, c3, c4⟩ := HAT.out w4 HM4.out.below
          cases hgo
          go_wp2_with fail
          obtain ⟨O, hs, hd⟩ := HM4.out.step 1 rfl
          refine (step_any q _ _ x w4 hs HX.out).mono ?_
          intro e w5 h
          obtain ⟨rfl, hM⟩ := hd _ _ _ h
          have HM5 := Lib.hid (show Ms w1 w5 [(p, stepS (runF St.nil (l.take i)) x), (q, stepS (runF St.nil (l.take i)) x)] from hM)
          clear hs hd h hM c0 c1 c2 c3 c4
          go_wp2_with fail
          go_roundw
          case rel => exact ⟨i + 1, by go_num, hlt, by show Ms w1 w5 [(p, runF St.nil (l.take (i + 1))), (q, runF St.nil (l.take (i + 1)))]; rw [HN.out]; exact HM5.out⟩
          case measure => simp [intOf]; omega
        · obtain rfl : i = l.length := by omega
          have k1 : ¬ (l.length : Int) < (l.length : Int) := by omega
          rw [List.take_length] at HM
          obtain ⟨S, hS⟩ : ∃ S, runF St.nil l = S := ⟨_, rfl⟩
          rw [hS] at HM
          clear hM hS
          obtain ⟨w4, hw4⟩ : ∃ w4, wr = w4 := ⟨_, rfl⟩
          rw [hw4] at HM ⊢
          clear hw4
          go_wp2_with fail
          obtain ⟨O, hs⟩ := HM.out.read 0 rfl
          refine (copy_any p O S w4 hs).mono ?_
          rintro e w5 ⟨x, rfl, hx, hb⟩
          have HM5 := Lib.hid (show Ms w1 w5 [(p, S), (q, S), (x, S)] from HM.out.more hx hb)
          clear hs hx hb HM
          have HR1 := Lib.hid (show MsR m.length (fun i => [(p, S), (q, S), (x, runF S (m.take i))]) w1 (.int .i64 0) w5 from ⟨0, rfl, Nat.zero_le _, HM5.out⟩)
          clear HM5
          go_wp2_with fail
          go_loopw [11] (fun t wr => MsR m.length (fun i => [(p, S), (q, S), (x, runF S (m.take i))]) w1 t wr) (fun t _ => m.length - (intOf t).toNat)
          case atStart => exact HR1.out
          case round =>
            clear HR1
            obtain ⟨i, rfl, hi, hM⟩ := hrel
            have HM := Lib.hid (show Ms w1 wr [(p, S), (q, S), (x, runF S (m.take i))] from hM)
            clear hM
            by_cases hlt : i < m.length
            · have k1 : (i : Int) < (m.length : Int) := by omega
              have k0 : (0 : Int) ≤ (i : Int) := by omega
              obtain ⟨g, o, rfl, c0, c1, c2, c3, c4⟩ := (HB.out.go (below_step HB1.out HM.out.below)).at_ i hlt
              have HX := Lib.hid (HB.out.ok _ (List.getElem_mem hlt))
              have HN := Lib.hid (runF_next S m i hlt)
              generalize m[i] = y at *
              go_wp2_with fail
              obtain ⟨O, hs, hd⟩ := HM.out.step 2 rfl
              refine (step_any x _ _ y wr hs HX.out).mono ?_
              intro e w6 h
              obtain ⟨rfl, hM⟩ := hd _ _ _ h
              have HM6 := Lib.hid (show Ms w1 w6 [(p, S), (q, S), (x, stepS (runF S (m.take i)) y)] from hM)
              clear hs hd h hM c0 c1 c2 c3 c4
              go_wp2_with fail
              go_roundw
              case rel => exact ⟨i + 1, by go_num, hlt, by show Ms w1 w6 [(p, S), (q, S), (x, runF S (m.take (i + 1)))]; rw [HN.out]; exact HM6.out⟩
              case measure => simp [intOf]; omega
            · obtain rfl : i = m.length := by omega
              have k1 : ¬ (m.length : Int) < (m.length : Int) := by omega
              rw [List.take_length] at HM
              obtain ⟨T, hT⟩ : ∃ T, runF S m = T := ⟨_, rfl⟩
              have HT := Lib.hid hT
              rw [hT] at HM
              clear hT
              obtain ⟨w6, hw6⟩ : ∃ w6, wr = w6 := ⟨_, rfl⟩
              rw [hw6] at HM ⊢
              clear hw6
              go_wp2_with fail
              obtain ⟨O, hs⟩ := HM.out.read 0 rfl
              obtain ⟨O', hs'⟩ := HM.out.read 1 rfl
              have hg := same_any p q O O' S S w6 hs hs'
              rw [sameS_self] at hg
              refine hg.mono ?_
              rintro e w7 ⟨rfl, hb⟩
              have HM7 := Lib.hid (HM.out.go hb)
              clear hs hs' hb hg HM
              go_wp2_with fail
              obtain ⟨O, hs⟩ := HM7.out.read 2 rfl
              refine (copy_any x O T w7 hs).mono ?_
              rintro e w8 ⟨z, rfl, hx, hb⟩
              have HM8 := Lib.hid (show Ms w1 w8 [(p, S), (q, S), (x, T), (z, T)] from HM7.out.more hx hb)
              clear hs hx hb HM7
              have HR2 := Lib.hid (show MsR m.length (fun i => [(p, runF S (m.take i)), (q, S), (x, T), (z, T)]) w1 (.int .i64 0) w8 from ⟨0, rfl, Nat.zero_le _, HM8.out⟩)
              clear HM8
              go_wp2_with fail
              go_loopw [13] (fun t wr => MsR m.length (fun i => [(p, runF S (m.take i)), (q, S), (x, T), (z, T)]) w1 t wr) (fun t _ => m.length - (intOf t).toNat)
              case atStart => exact HR2.out
              case round =>
                clear HR2
                obtain ⟨i, rfl, hi, hM⟩ := hrel
                have HM := Lib.hid (show Ms w1 wr [(p, runF S (m.take i)), (q, S), (x, T), (z, T)] from hM)
                clear hM
                by_cases hlt : i < m.length
                · have k1 : (i : Int) < (m.length : Int) := by omega
                  have k0 : (0 : Int) ≤ (i : Int) := by omega
                  obtain ⟨g, o, rfl, c0, c1, c2, c3, c4⟩ := (HB.out.go (below_step HB1.out HM.out.below)).at_ i hlt
                  have HX := Lib.hid (HB.out.ok _ (List.getElem_mem hlt))
                  have HN := Lib.hid (runF_next S m i hlt)
                  generalize m[i] = y at *
                  go_wp2_with fail
                  obtain ⟨O, hs, hd⟩ := HM.out.step 0 rfl
                  refine (step_any p _ _ y wr hs HX.out).mono ?_
                  intro e w9 h
                  obtain ⟨rfl, hM⟩ := hd _ _ _ h
                  have HM9 := Lib.hid (show Ms w1 w9 [(p, stepS (runF S (m.take i)) y), (q, S), (x, T), (z, T)] from hM)
                  clear hs hd h hM c0 c1 c2 c3 c4
                  go_wp2_with fail
                  go_roundw
                  case rel => exact ⟨i + 1, by go_num, hlt, by show Ms w1 w9 [(p, runF S (m.take (i + 1))), (q, S), (x, T), (z, T)]; rw [HN.out]; exact HM9.out⟩
                  case measure => simp [intOf]; omega
                · obtain rfl : i = m.length := by omega
                  have k1 : ¬ (m.length : Int) < (m.length : Int) := by omega
                  rw [List.take_length, HT.out] at HM
                  obtain ⟨w9, hw9⟩ : ∃ w9, wr = w9 := ⟨_, rfl⟩
                  rw [hw9] at HM ⊢
                  clear hw9
                  go_wp2_with fail
                  obtain ⟨O, hs⟩ := HM.out.read 2 rfl
                  obtain ⟨O', hs'⟩ := HM.out.read 3 rfl
                  have HTok := Lib.hid hs.ok
                  have hg := same_any x z O O' T T w9 hs hs'
                  rw [sameS_self] at hg
                  refine hg.mono ?_
                  rintro e w10 ⟨rfl, hb⟩
                  have HM10 := Lib.hid (HM.out.go hb)
                  clear hs hs' hb hg HM
                  go_wp2_with fail
                  obtain ⟨O, hs⟩ := HM10.out.read 0 rfl
                  obtain ⟨O', hs'⟩ := HM10.out.read 2 rfl
                  have hg := same_any p x O O' T T w10 hs hs'
                  rw [sameS_self] at hg
                  refine hg.mono ?_
                  rintro e w11 ⟨rfl, hb⟩
                  have HM11 := Lib.hid (HM10.out.go hb)
                  clear hs hs' hb hg HM10
                  obtain ⟨e1, e2, T1, T2, q1, q2, q3⟩ := apart_end HTok.out id
                  go_wp2_with fail
                  obtain ⟨O, hs, hd⟩ := HM11.out.act 2 rfl
                  have hg := cnt_any x O T id 0 w11 hs hid (by decide)
                  rw [q1] at hg
                  refine hg.mono ?_
                  intro e w12 h
                  obtain ⟨rfl, hM⟩ := hd _ _ _ h
                  have HM12 := Lib.hid (show Ms w1 w12 [(p, T), (q, S), (x, T1), (z, T)] from hM)
                  clear h hM hd hs hg HM11
                  go_wp2_with fail
                  obtain ⟨O, hs, hd⟩ := HM12.out.act 2 rfl
                  have hu : u64ok (1 : Int) := by unfold u64ok; omega
                  have hg := bump_any x O T1 id 0 1 w12 hs hid (by decide) hu
                  rw [show ((0 : Nat) : Int) = 0 from rfl] at hg
                  rw [q2] at hg
                  refine hg.mono ?_
                  intro e w13 h
                  obtain ⟨rfl, hM⟩ := hd _ _ _ h
                  have HM13 := Lib.hid (show Ms w1 w13 [(p, T), (q, S), (x, T2), (z, T)] from hM)
                  have HE := Lib.hid q3
                  clear h hM hd hs hg hu HM12 q1 q2 q3
                  go_wp2_with fail
                  obtain ⟨O, hs⟩ := HM13.out.read 0 rfl
                  obtain ⟨O', hs'⟩ := HM13.out.read 2 rfl
                  have hg := same_any p x O O' T T2 w13 hs hs'
                  refine hg.mono ?_
                  rintro e w14 ⟨rfl, hb⟩
                  have HM14 := Lib.hid (HM13.out.go hb)
                  clear hs hs' hb hg HM13
                  rcases HE.out with ⟨g1, g2, g3⟩ | ⟨g1, g2, g3⟩ | ⟨g1, g2, g3⟩
                  · subst g1
                    rw [g2]
                    clear g2 HE
                    go_wp2_with fail
                    go_ret
                    exact ⟨rfl, below_step HB1.out HM14.out.below⟩
                  · subst g1 g2
                    rw [g3]
                    clear g3 HE
                    go_wp2_with fail
                    go_ret
                    exact ⟨rfl, below_step HB1.out HM14.out.below⟩
                  · subst g1 g2
                    rw [g3]
                    clear g3 HE
                    go_wp2_with fail
                    go_ret
                    exact ⟨rfl, below_step HB1.out HM14.out.below⟩
end Go.Proofs.Ytdobpieiobikpaa.Base
namespace Go.Proofs.Ytdobpieiobikpaa.Apart
open Go Go.RowKit Go.Proofs.Ytdobpieiobikpaa.Mem Go.Proofs.YtdobpieiobikpaaW.PrintWords
theorem core (A : Option Addr) (c : Nat) (l : List Base.Act) (B : Option Addr) (d : Nat) (m : List Base.Act) (id : Int) (w : World) (_ : l.length ≤ c) (hm : l.length * 40 ≤ 140737488351232) (_ : ∀ x ∈ l, Base.ActOk x) (hA : Base.Acts w A l) (_ : m.length ≤ d) (_ : m.length * 40 ≤ 140737488351232) (_ : ∀ x ∈ m, Base.ActOk x) (hB : Base.Acts w B m) (hid : (Lit.int .i64 id).wf = true) :
    Calls Try.prog 10 #[.slice A l.length c, .slice B m.length d, .int .i64 id] w fun e w' => e = .returned (.bool true) ∧ Below w.heap.size w w' := Base.apart_law A c l B d m id w hA hB hid
end Go.Proofs.Ytdobpieiobikpaa.Apart
