/- The examples; the limits; each error; stores of nil: the law. Conditions: as each contract says. -/
import Derived.Test.YtdobpieiobikpaaNil
import Derived.Test.YtdobpieiobikpaaAwake
import Derived.Test.YtdobpieiobikpaaAnewPure
set_option linter.unusedVariables false
set_option linter.unusedSimpArgs false
namespace Go.Proofs.Ytdobpieiobikpaa.Base
open Go Go.RowKit Go.Proofs.Ytdobpieiobikpaa.Mem Go.Proofs.YtdobpieiobikpaaW.PrintWords Go.Proofs.YtdobpieiobikpaaW.PrintLast
def nX : List Int := List.replicate 1024 0
def nY : List Int := nX.set 1023 5
theorem nX_len : nX.length = 1024 := List.length_replicate
theorem nY_len : nY.length = 1024 := by unfold nY; rw [List.length_set, nX_len]
theorem nX_lenI : (nX.length : Int) = 1024 := by rw [nX_len]; rfl
theorem nY_lenI : (nY.length : Int) = 1024 := by rw [nY_len]; rfl
theorem nY_at : (nY.drop 1023).take 1 = [5] := by decide +kernel
theorem nX_def : List.replicate 1024 (0 : Int) = nX := rfl
theorem nX_set : nX.set 1023 5 = nY := rfl
theorem sto_fresh (w : World) : Sto (w.alloc (.cells #[.map none, .map none] 62)) w.heap.size (New w (w.alloc (.cells #[.map none, .map none] 62))) St.nil ∧ Below w.heap.size w (w.alloc (.cells #[.map none, .map none] 62)) := by
  refine ⟨⟨fun k hk => hk.2, none, none, [], SM.fresh w, fun k hk => ?_⟩, (Below.refl _ _).alloc (Nat.le_refl _) _⟩
  have := Own.lt (SM.fresh w) hk
  rcases hk with rfl | hk | hk | hk
  · exact ⟨Nat.le_refl _, this⟩
  · cases hk
  · cases hk
  · simp at hk
theorem nq0 : cnt St.nil 1 1 = (6, St.nil) := by
  simp [cnt,  lookE, putE, delE, St.nil, u64w, nX_lenI, nY_lenI, nX_len, nY_len, nY_at, nX_def, nX_set]
theorem nq1 : delC St.nil 1 = (6, St.nil) := by
  simp [delC,  lookE, putE, delE, St.nil, u64w, nX_lenI, nY_lenI, nX_len, nY_len, nY_at, nX_def, nX_set]
theorem nq2 : delR St.nil 1 = (6, St.nil) := by
  simp [delR,  lookE, putE, delE, St.nil, u64w, nX_lenI, nY_lenI, nX_len, nY_len, nY_at, nX_def, nX_set]
theorem nq3 : save St.nil 1 ((0 : Nat) : Int) 1 = (6, St.nil) := by
  simp [save, atR, setR, getR, lookE, putE, delE, St.nil, u64w, nX_lenI, nY_lenI, nX_len, nY_len, nY_at, nX_def, nX_set]
theorem nq4 : bump St.nil 1 ((0 : Nat) : Int) 1 = (6, St.nil) := by
  simp [bump, atR, setR, getR, lookE, putE, delE, St.nil, u64w, nX_lenI, nY_lenI, nX_len, nY_len, nY_at, nX_def, nX_set]
theorem nq5 : putC St.nil (-5) = (0, (⟨[(-5, (0, 0))], []⟩ : St)) := by
  simp [putC,  lookE, putE, delE, St.nil, u64w, nX_lenI, nY_lenI, nX_len, nY_len, nY_at, nX_def, nX_set]
theorem nq6 : putC (⟨[(-5, (0, 0))], []⟩ : St) 0 = (0, (⟨[(-5, (0, 0)), (0, (0, 0))], []⟩ : St)) := by
  simp [putC,  lookE, putE, delE, St.nil, u64w, nX_lenI, nY_lenI, nX_len, nY_len, nY_at, nX_def, nX_set]
theorem nq7 : cnt (⟨[(-5, (0, 0)), (0, (0, 0))], []⟩ : St) (-5) (-1) = (1, (⟨[(-5, (0, 0)), (0, (0, 0))], []⟩ : St)) := by
  simp [cnt,  lookE, putE, delE, St.nil, u64w, nX_lenI, nY_lenI, nX_len, nY_len, nY_at, nX_def, nX_set]
theorem nq8 : cnt (⟨[(-5, (0, 0)), (0, (0, 0))], []⟩ : St) (-5) 9223372036854775807 = (0, (⟨[(-5, (1, 9223372036854775807)), (0, (0, 0))], []⟩ : St)) := by
  simp [cnt,  lookE, putE, delE, St.nil, u64w, nX_lenI, nY_lenI, nX_len, nY_len, nY_at, nX_def, nX_set]
theorem nq9 : cnt (⟨[(-5, (1, 9223372036854775807)), (0, (0, 0))], []⟩ : St) (-5) 9223372036854775807 = (0, (⟨[(-5, (2, 18446744073709551614)), (0, (0, 0))], []⟩ : St)) := by
  simp [cnt,  lookE, putE, delE, St.nil, u64w, nX_lenI, nY_lenI, nX_len, nY_len, nY_at, nX_def, nX_set]
theorem nq10 : cnt (⟨[(-5, (2, 18446744073709551614)), (0, (0, 0))], []⟩ : St) (-5) 3 = (0, (⟨[(-5, (3, 1)), (0, (0, 0))], []⟩ : St)) := by
  simp [cnt,  lookE, putE, delE, St.nil, u64w, nX_lenI, nY_lenI, nX_len, nY_len, nY_at, nX_def, nX_set]
theorem nq11 : getC (⟨[(-5, (3, 1)), (0, (0, 0))], []⟩ : St) (-5) = (3, 1, 0) := by
  simp [getC,  lookE, putE, delE, St.nil, u64w, nX_lenI, nY_lenI, nX_len, nY_len, nY_at, nX_def, nX_set]
theorem nq12 : putR (⟨[(-5, (3, 1)), (0, (0, 0))], []⟩ : St) 0 0 = (1, (⟨[(-5, (3, 1)), (0, (0, 0))], []⟩ : St)) := by
  simp [putR,  lookE, putE, delE, St.nil, u64w, nX_lenI, nY_lenI, nX_len, nY_len, nY_at, nX_def, nX_set]
theorem nq13 : putR (⟨[(-5, (3, 1)), (0, (0, 0))], []⟩ : St) 0 (-1) = (1, (⟨[(-5, (3, 1)), (0, (0, 0))], []⟩ : St)) := by
  simp [putR,  lookE, putE, delE, St.nil, u64w, nX_lenI, nY_lenI, nX_len, nY_len, nY_at, nX_def, nX_set]
theorem nq14 : putR (⟨[(-5, (3, 1)), (0, (0, 0))], []⟩ : St) 0 1025 = (1, (⟨[(-5, (3, 1)), (0, (0, 0))], []⟩ : St)) := by
  simp [putR,  lookE, putE, delE, St.nil, u64w, nX_lenI, nY_lenI, nX_len, nY_len, nY_at, nX_def, nX_set]
theorem nq15 : putR (⟨[(-5, (3, 1)), (0, (0, 0))], []⟩ : St) 0 1024 = (0, (⟨[(-5, (3, 1)), (0, (0, 0))], [(0, nX)]⟩ : St)) := by
  simp [putR,  lookE, putE, delE, St.nil, u64w, nX_lenI, nY_lenI, nX_len, nY_len, nY_at, nX_def, nX_set]
theorem nq16 : putR (⟨[(-5, (3, 1)), (0, (0, 0))], [(0, nX)]⟩ : St) 0 0 = (7, (⟨[(-5, (3, 1)), (0, (0, 0))], [(0, nX)]⟩ : St)) := by
  simp [putR,  lookE, putE, delE, St.nil, u64w, nX_lenI, nY_lenI, nX_len, nY_len, nY_at, nX_def, nX_set]
theorem nq17 : putR (⟨[(-5, (3, 1)), (0, (0, 0))], [(0, nX)]⟩ : St) 7 1 = (0, (⟨[(-5, (3, 1)), (0, (0, 0))], [(0, nX), (7, [0])]⟩ : St)) := by
  simp [putR,  lookE, putE, delE, St.nil, u64w, nX_lenI, nY_lenI, nX_len, nY_len, nY_at, nX_def, nX_set]
theorem nq18 : save (⟨[(-5, (3, 1)), (0, (0, 0))], [(0, nX), (7, [0])]⟩ : St) 0 ((1023 : Nat) : Int) 5 = (0, (⟨[(-5, (3, 1)), (0, (0, 0))], [(0, nY), (7, [0])]⟩ : St)) := by
  simp [save, atR, setR, getR, lookE, putE, delE, St.nil, u64w, nX_lenI, nY_lenI, nX_len, nY_len, nY_at, nX_def, nX_set]
theorem nq19 : save (⟨[(-5, (3, 1)), (0, (0, 0))], [(0, nY), (7, [0])]⟩ : St) 0 ((1024 : Nat) : Int) 5 = (1, (⟨[(-5, (3, 1)), (0, (0, 0))], [(0, nY), (7, [0])]⟩ : St)) := by
  simp [save, atR, setR, getR, lookE, putE, delE, St.nil, u64w, nX_lenI, nY_lenI, nX_len, nY_len, nY_at, nX_def, nX_set]
theorem nq20 : bump (⟨[(-5, (3, 1)), (0, (0, 0))], [(0, nY), (7, [0])]⟩ : St) 0 ((18446744073709551615 : Nat) : Int) 5 = (1, (⟨[(-5, (3, 1)), (0, (0, 0))], [(0, nY), (7, [0])]⟩ : St)) := by
  simp [bump, atR, setR, getR, lookE, putE, delE, St.nil, u64w, nX_lenI, nY_lenI, nX_len, nY_len, nY_at, nX_def, nX_set]
theorem nq21 : save (⟨[(-5, (3, 1)), (0, (0, 0))], [(0, nY), (7, [0])]⟩ : St) 7 ((0 : Nat) : Int) 18446744073709551615 = (0, (⟨[(-5, (3, 1)), (0, (0, 0))], [(0, nY), (7, [18446744073709551615])]⟩ : St)) := by
  simp [save, atR, setR, getR, lookE, putE, delE, St.nil, u64w, nX_lenI, nY_lenI, nX_len, nY_len, nY_at, nX_def, nX_set]
theorem nq22 : bump (⟨[(-5, (3, 1)), (0, (0, 0))], [(0, nY), (7, [18446744073709551615])]⟩ : St) 7 ((0 : Nat) : Int) 3 = (0, (⟨[(-5, (3, 1)), (0, (0, 0))], [(0, nY), (7, [2])]⟩ : St)) := by
  simp [bump, atR, setR, getR, lookE, putE, delE, St.nil, u64w, nX_lenI, nY_lenI, nX_len, nY_len, nY_at, nX_def, nX_set]
theorem nq23 : load (⟨[(-5, (3, 1)), (0, (0, 0))], [(0, nY), (7, [2])]⟩ : St) 7 ((0 : Nat) : Int) = (2, 0) := by
  simp [load, atR, getR, lookE, putE, delE, St.nil, u64w, nX_lenI, nY_lenI, nX_len, nY_len, nY_at, nX_def, nX_set]
theorem nq24 : rowR (⟨[(-5, (3, 1)), (0, (0, 0))], [(0, nY), (7, [2])]⟩ : St) 0 1023 1 = ([5], 0) := by
  simp [rowR,  lookE, putE, delE, St.nil, u64w, nX_lenI, nY_lenI, nX_len, nY_len, nY_at, nX_def, nX_set]
theorem nq25 : rowR (⟨[(-5, (3, 1)), (0, (0, 0))], [(0, nY), (7, [2])]⟩ : St) 0 1023 2 = ([], 1) := by
  simp [rowR,  lookE, putE, delE, St.nil, u64w, nX_lenI, nY_lenI, nX_len, nY_len, nY_at, nX_def, nX_set]
theorem nq26 : rowR (⟨[(-5, (3, 1)), (0, (0, 0))], [(0, nY), (7, [2])]⟩ : St) 0 (-1) 1 = ([], 1) := by
  simp [rowR,  lookE, putE, delE, St.nil, u64w, nX_lenI, nY_lenI, nX_len, nY_len, nY_at, nX_def, nX_set]
theorem nq27 : rowR (⟨[(-5, (3, 1)), (0, (0, 0))], [(0, nY), (7, [2])]⟩ : St) 0 0 (-1) = ([], 1) := by
  simp [rowR,  lookE, putE, delE, St.nil, u64w, nX_lenI, nY_lenI, nX_len, nY_len, nY_at, nX_def, nX_set]
theorem nq28 : rowR (⟨[(-5, (3, 1)), (0, (0, 0))], [(0, nY), (7, [2])]⟩ : St) 0 1025 0 = ([], 1) := by
  simp [rowR,  lookE, putE, delE, St.nil, u64w, nX_lenI, nY_lenI, nX_len, nY_len, nY_at, nX_def, nX_set]
theorem nq29 : rowR (⟨[(-5, (3, 1)), (0, (0, 0))], [(0, nY), (7, [2])]⟩ : St) 0 5 9223372036854775807 = ([], 1) := by
  simp [rowR,  lookE, putE, delE, St.nil, u64w, nX_lenI, nY_lenI, nX_len, nY_len, nY_at, nX_def, nX_set]
theorem nq30 : rowR (⟨[(-5, (3, 1)), (0, (0, 0))], [(0, nY), (7, [2])]⟩ : St) 0 1024 0 = ([], 0) := by
  simp [rowR,  lookE, putE, delE, St.nil, u64w, nX_lenI, nY_lenI, nX_len, nY_len, nY_at, nX_def, nX_set]
theorem names_pure : ∃ S1 S2 S3 S4 S5 S6 S7 S8 S9 S10 : St, cnt St.nil 1 1 = (6, St.nil) ∧ delC St.nil 1 = (6, St.nil) ∧ delR St.nil 1 = (6, St.nil) ∧ save St.nil 1 ((0 : Nat) : Int) 1 = (6, St.nil) ∧ bump St.nil 1 ((0 : Nat) : Int) 1 = (6, St.nil) ∧ putC St.nil (-5) = (0, S1) ∧ putC S1 0 = (0, S2) ∧ cnt S2 (-5) (-1) = (1, S2) ∧ cnt S2 (-5) 9223372036854775807 = (0, S3) ∧ cnt S3 (-5) 9223372036854775807 = (0, S4) ∧ cnt S4 (-5) 3 = (0, S5) ∧ getC S5 (-5) = (3, 1, 0) ∧ putR S5 0 0 = (1, S5) ∧ putR S5 0 (-1) = (1, S5) ∧ putR S5 0 1025 = (1, S5) ∧ putR S5 0 1024 = (0, S6) ∧ putR S6 0 0 = (7, S6) ∧ putR S6 7 1 = (0, S7) ∧ save S7 0 ((1023 : Nat) : Int) 5 = (0, S8) ∧ save S8 0 ((1024 : Nat) : Int) 5 = (1, S8) ∧ bump S8 0 ((18446744073709551615 : Nat) : Int) 5 = (1, S8) ∧ save S8 7 ((0 : Nat) : Int) 18446744073709551615 = (0, S9) ∧ bump S9 7 ((0 : Nat) : Int) 3 = (0, S10) ∧ load S10 7 ((0 : Nat) : Int) = (2, 0) ∧ rowR S10 0 1023 1 = ([5], 0) ∧ rowR S10 0 1023 2 = ([], 1) ∧ rowR S10 0 (-1) 1 = ([], 1) ∧ rowR S10 0 0 (-1) = ([], 1) ∧ rowR S10 0 1025 0 = ([], 1) ∧ rowR S10 0 5 9223372036854775807 = ([], 1) ∧ rowR S10 0 1024 0 = ([], 0) ∧ sameS S10 St.nil = false := by
  exact ⟨⟨[(-5, (0, 0))], []⟩, ⟨[(-5, (0, 0)), (0, (0, 0))], []⟩, ⟨[(-5, (1, 9223372036854775807)), (0, (0, 0))], []⟩, ⟨[(-5, (2, 18446744073709551614)), (0, (0, 0))], []⟩, ⟨[(-5, (3, 1)), (0, (0, 0))], []⟩, ⟨[(-5, (3, 1)), (0, (0, 0))], [(0, nX)]⟩, ⟨[(-5, (3, 1)), (0, (0, 0))], [(0, nX), (7, [0])]⟩, ⟨[(-5, (3, 1)), (0, (0, 0))], [(0, nY), (7, [0])]⟩, ⟨[(-5, (3, 1)), (0, (0, 0))], [(0, nY), (7, [18446744073709551615])]⟩, ⟨[(-5, (3, 1)), (0, (0, 0))], [(0, nY), (7, [2])]⟩, nq0, nq1, nq2, nq3, nq4, nq5, nq6, nq7, nq8, nq9, nq10, nq11, nq12, nq13, nq14, nq15, nq16, nq17, nq18, nq19, nq20, nq21, nq22, nq23, nq24, nq25, nq26, nq27, nq28, nq29, nq30, by decide +kernel⟩
set_option maxHeartbeats 64000000 in
set_option maxRecDepth 100000 in
theorem names_law (w : World) : Calls Try.prog 7 #[] w fun e w' => e = .returned (.bool true) ∧ Below w.heap.size w w' := by
  go_enter Try.func7, Try.ntmps7
  go_wp2_with fail
  refine (awake_any _).mono ?_
  rintro e w1 ⟨rfl, hb1⟩
  have HB1 := Lib.hid hb1
  clear hb1
  go_wp2_with fail
  obtain ⟨hs, hb⟩ := sto_fresh w1
  have HM2 := Lib.hid (show Ms w1 _ [(w1.heap.size, St.nil)] from (Ms.none w1).more hs hb)
  clear hs hb
  generalize w1.alloc (.cells #[.map none, .map none] 62) = w2 at *
  generalize w1.heap.size = p at *
  obtain ⟨S1, S2, S3, S4, S5, S6, S7, S8, S9, S10, q0, q1, q2, q3, q4, q5, q6, q7, q8, q9, q10, q11, q12, q13, q14, q15, q16, q17, q18, q19, q20, q21, q22, q23, q24, q25, q26, q27, q28, q29, q30, qs⟩ := names_pure
  have Q0 := Lib.hid q0
  have Q1 := Lib.hid q1
  have Q2 := Lib.hid q2
  have Q3 := Lib.hid q3
  have Q4 := Lib.hid q4
  have Q5 := Lib.hid q5
  have Q6 := Lib.hid q6
  have Q7 := Lib.hid q7
  have Q8 := Lib.hid q8
  have Q9 := Lib.hid q9
  have Q10 := Lib.hid q10
  have Q11 := Lib.hid q11
  have Q12 := Lib.hid q12
  have Q13 := Lib.hid q13
  have Q14 := Lib.hid q14
  have Q15 := Lib.hid q15
  have Q16 := Lib.hid q16
  have Q17 := Lib.hid q17
  have Q18 := Lib.hid q18
  have Q19 := Lib.hid q19
  have Q20 := Lib.hid q20
  have Q21 := Lib.hid q21
  have Q22 := Lib.hid q22
  have Q23 := Lib.hid q23
  have Q24 := Lib.hid q24
  have Q25 := Lib.hid q25
  have Q26 := Lib.hid q26
  have Q27 := Lib.hid q27
  have Q28 := Lib.hid q28
  have Q29 := Lib.hid q29
  have Q30 := Lib.hid q30
  have QS := Lib.hid qs
  clear qs q0 q1 q2 q3 q4 q5 q6 q7 q8 q9 q10 q11 q12 q13 q14 q15 q16 q17 q18 q19 q20 q21 q22 q23 q24 q25 q26 q27 q28 q29 q30
  go_wp2_with fail
  obtain ⟨O, hs, hd⟩ := HM2.out.act 0 rfl
  have hg := cnt_any p O St.nil 1 1 w2 hs (by decide) (by decide)
  rw [Q0.out] at hg
  refine hg.mono ?_
  intro e w3 h
  obtain ⟨rfl, hM⟩ := hd _ _ _ h
  have HM3 := Lib.hid (show Ms w1 w3 [(p, St.nil)] from hM)
  clear h hM hd hs hg HM2 Q0
  go_wp2_with fail
  obtain ⟨O, hs, hd⟩ := HM3.out.act 0 rfl
  have hg := delC_any p O St.nil 1 w3 hs (by decide)
  rw [Q1.out] at hg
  refine hg.mono ?_
  intro e w4 h
  obtain ⟨rfl, hM⟩ := hd _ _ _ h
  have HM4 := Lib.hid (show Ms w1 w4 [(p, St.nil)] from hM)
  clear h hM hd hs hg HM3 Q1
  go_wp2_with fail
  obtain ⟨O, hs, hd⟩ := HM4.out.act 0 rfl
  have hg := delR_any p O St.nil 1 w4 hs (by decide)
  rw [Q2.out] at hg
  refine hg.mono ?_
  intro e w5 h
  obtain ⟨rfl, hM⟩ := hd _ _ _ h
  have HM5 := Lib.hid (show Ms w1 w5 [(p, St.nil)] from hM)
  clear h hM hd hs hg HM4 Q2
  go_wp2_with fail
  obtain ⟨O, hs, hd⟩ := HM5.out.act 0 rfl
  have hg := save_any p O St.nil 1 0 1 w5 hs (by decide) (by decide) (by unfold u64ok; omega)
  rw [Q3.out] at hg
  refine hg.mono ?_
  intro e w6 h
  obtain ⟨rfl, hM⟩ := hd _ _ _ h
  have HM6 := Lib.hid (show Ms w1 w6 [(p, St.nil)] from hM)
  clear h hM hd hs hg HM5 Q3
  go_wp2_with fail
  obtain ⟨O, hs, hd⟩ := HM6.out.act 0 rfl
  have hg := bump_any p O St.nil 1 0 1 w6 hs (by decide) (by decide) (by unfold u64ok; omega)
  rw [Q4.out] at hg
  refine hg.mono ?_
  intro e w7 h
  obtain ⟨rfl, hM⟩ := hd _ _ _ h
  have HM7 := Lib.hid (show Ms w1 w7 [(p, St.nil)] from hM)
  clear h hM hd hs hg HM6 Q4
  go_wp2_with fail
  obtain ⟨O, hs, hd⟩ := HM7.out.act 0 rfl
  have hg := putC_any p O St.nil (-5) w7 hs (by decide)
  rw [Q5.out] at hg
  refine hg.mono ?_
  intro e w8 h
  obtain ⟨rfl, hM⟩ := hd _ _ _ h
  have HM8 := Lib.hid (show Ms w1 w8 [(p, S1)] from hM)
  clear h hM hd hs hg HM7 Q5
  go_wp2_with fail
  obtain ⟨O, hs, hd⟩ := HM8.out.act 0 rfl
  have hg := putC_any p O S1 0 w8 hs (by decide)
  rw [Q6.out] at hg
  refine hg.mono ?_
  intro e w9 h
  obtain ⟨rfl, hM⟩ := hd _ _ _ h
  have HM9 := Lib.hid (show Ms w1 w9 [(p, S2)] from hM)
  clear h hM hd hs hg HM8 Q6
  go_wp2_with fail
  obtain ⟨O, hs, hd⟩ := HM9.out.act 0 rfl
  have hg := cnt_any p O S2 (-5) (-1) w9 hs (by decide) (by decide)
  rw [Q7.out] at hg
  refine hg.mono ?_
  intro e w10 h
  obtain ⟨rfl, hM⟩ := hd _ _ _ h
  have HM10 := Lib.hid (show Ms w1 w10 [(p, S2)] from hM)
  clear h hM hd hs hg HM9 Q7
  go_wp2_with fail
  obtain ⟨O, hs, hd⟩ := HM10.out.act 0 rfl
  have hg := cnt_any p O S2 (-5) 9223372036854775807 w10 hs (by decide) (by decide)
  rw [Q8.out] at hg
  refine hg.mono ?_
  intro e w11 h
  obtain ⟨rfl, hM⟩ := hd _ _ _ h
  have HM11 := Lib.hid (show Ms w1 w11 [(p, S3)] from hM)
  clear h hM hd hs hg HM10 Q8
  go_wp2_with fail
  obtain ⟨O, hs, hd⟩ := HM11.out.act 0 rfl
  have hg := cnt_any p O S3 (-5) 9223372036854775807 w11 hs (by decide) (by decide)
  rw [Q9.out] at hg
  refine hg.mono ?_
  intro e w12 h
  obtain ⟨rfl, hM⟩ := hd _ _ _ h
  have HM12 := Lib.hid (show Ms w1 w12 [(p, S4)] from hM)
  clear h hM hd hs hg HM11 Q9
  go_wp2_with fail
  obtain ⟨O, hs, hd⟩ := HM12.out.act 0 rfl
  have hg := cnt_any p O S4 (-5) 3 w12 hs (by decide) (by decide)
  rw [Q10.out] at hg
  refine hg.mono ?_
  intro e w13 h
  obtain ⟨rfl, hM⟩ := hd _ _ _ h
  have HM13 := Lib.hid (show Ms w1 w13 [(p, S5)] from hM)
  clear h hM hd hs hg HM12 Q10
  go_wp2_with fail
  obtain ⟨O, hs⟩ := HM13.out.read 0 rfl
  have hg := getC_any p O S5 (-5) w13 hs (by decide)
  rw [Q11.out] at hg
  refine hg.mono ?_
  rintro e w14 ⟨rfl, hb⟩
  have HM14 := Lib.hid (HM13.out.go hb)
  clear hs hb hg HM13 Q11
  go_wp2_with fail
  obtain ⟨O, hs, hd⟩ := HM14.out.act 0 rfl
  have hg := putR_any p O S5 0 0 w14 hs (by decide)
  rw [Q12.out] at hg
  refine hg.mono ?_
  intro e w15 h
  obtain ⟨rfl, hM⟩ := hd _ _ _ h
  have HM15 := Lib.hid (show Ms w1 w15 [(p, S5)] from hM)
  clear h hM hd hs hg HM14 Q12
  go_wp2_with fail
  obtain ⟨O, hs, hd⟩ := HM15.out.act 0 rfl
  have hg := putR_any p O S5 0 (-1) w15 hs (by decide)
  rw [Q13.out] at hg
  refine hg.mono ?_
  intro e w16 h
  obtain ⟨rfl, hM⟩ := hd _ _ _ h
  have HM16 := Lib.hid (show Ms w1 w16 [(p, S5)] from hM)
  clear h hM hd hs hg HM15 Q13
  go_wp2_with fail
  obtain ⟨O, hs, hd⟩ := HM16.out.act 0 rfl
  have hg := putR_any p O S5 0 1025 w16 hs (by decide)
  rw [Q14.out] at hg
  refine hg.mono ?_
  intro e w17 h
  obtain ⟨rfl, hM⟩ := hd _ _ _ h
  have HM17 := Lib.hid (show Ms w1 w17 [(p, S5)] from hM)
  clear h hM hd hs hg HM16 Q14
  go_wp2_with fail
  obtain ⟨O, hs, hd⟩ := HM17.out.act 0 rfl
  have hg := putR_any p O S5 0 1024 w17 hs (by decide)
  rw [Q15.out] at hg
  refine hg.mono ?_
  intro e w18 h
  obtain ⟨rfl, hM⟩ := hd _ _ _ h
  have HM18 := Lib.hid (show Ms w1 w18 [(p, S6)] from hM)
  clear h hM hd hs hg HM17 Q15
  go_wp2_with fail
  obtain ⟨O, hs, hd⟩ := HM18.out.act 0 rfl
  have hg := putR_any p O S6 0 0 w18 hs (by decide)
  rw [Q16.out] at hg
  refine hg.mono ?_
  intro e w19 h
  obtain ⟨rfl, hM⟩ := hd _ _ _ h
  have HM19 := Lib.hid (show Ms w1 w19 [(p, S6)] from hM)
  clear h hM hd hs hg HM18 Q16
  go_wp2_with fail
  obtain ⟨O, hs, hd⟩ := HM19.out.act 0 rfl
  have hg := putR_any p O S6 7 1 w19 hs (by decide)
  rw [Q17.out] at hg
  refine hg.mono ?_
  intro e w20 h
  obtain ⟨rfl, hM⟩ := hd _ _ _ h
  have HM20 := Lib.hid (show Ms w1 w20 [(p, S7)] from hM)
  clear h hM hd hs hg HM19 Q17
  go_wp2_with fail
  obtain ⟨O, hs, hd⟩ := HM20.out.act 0 rfl
  have hg := save_any p O S7 0 1023 5 w20 hs (by decide) (by decide) (by unfold u64ok; omega)
  rw [Q18.out] at hg
  refine hg.mono ?_
  intro e w21 h
  obtain ⟨rfl, hM⟩ := hd _ _ _ h
  have HM21 := Lib.hid (show Ms w1 w21 [(p, S8)] from hM)
  clear h hM hd hs hg HM20 Q18
  go_wp2_with fail
  obtain ⟨O, hs, hd⟩ := HM21.out.act 0 rfl
  have hg := save_any p O S8 0 1024 5 w21 hs (by decide) (by decide) (by unfold u64ok; omega)
  rw [Q19.out] at hg
  refine hg.mono ?_
  intro e w22 h
  obtain ⟨rfl, hM⟩ := hd _ _ _ h
  have HM22 := Lib.hid (show Ms w1 w22 [(p, S8)] from hM)
  clear h hM hd hs hg HM21 Q19
  go_wp2_with fail
  obtain ⟨O, hs, hd⟩ := HM22.out.act 0 rfl
  have hg := bump_any p O S8 0 18446744073709551615 5 w22 hs (by decide) (by decide) (by unfold u64ok; omega)
  rw [Q20.out] at hg
  refine hg.mono ?_
  intro e w23 h
  obtain ⟨rfl, hM⟩ := hd _ _ _ h
  have HM23 := Lib.hid (show Ms w1 w23 [(p, S8)] from hM)
  clear h hM hd hs hg HM22 Q20
  go_wp2_with fail
  obtain ⟨O, hs, hd⟩ := HM23.out.act 0 rfl
  have hg := save_any p O S8 7 0 18446744073709551615 w23 hs (by decide) (by decide) (by unfold u64ok; omega)
  rw [Q21.out] at hg
  refine hg.mono ?_
  intro e w24 h
  obtain ⟨rfl, hM⟩ := hd _ _ _ h
  have HM24 := Lib.hid (show Ms w1 w24 [(p, S9)] from hM)
  clear h hM hd hs hg HM23 Q21
  go_wp2_with fail
  obtain ⟨O, hs, hd⟩ := HM24.out.act 0 rfl
  have hg := bump_any p O S9 7 0 3 w24 hs (by decide) (by decide) (by unfold u64ok; omega)
  rw [Q22.out] at hg
  refine hg.mono ?_
  intro e w25 h
  obtain ⟨rfl, hM⟩ := hd _ _ _ h
  have HM25 := Lib.hid (show Ms w1 w25 [(p, S10)] from hM)
  clear h hM hd hs hg HM24 Q22
  go_wp2_with fail
  obtain ⟨O, hs⟩ := HM25.out.read 0 rfl
  have hg := load_any p O S10 7 0 w25 hs (by decide) (by decide)
  rw [Q23.out] at hg
  refine hg.mono ?_
  rintro e w26 ⟨rfl, hb⟩
  have HM26 := Lib.hid (HM25.out.go hb)
  clear hs hb hg HM25 Q23
  go_wp2_with fail
  obtain ⟨O, hs⟩ := HM26.out.read 0 rfl
  have hg := rowR_any p O S10 0 1023 1 w26 hs (by decide)
  rw [Q24.out] at hg
  refine hg.mono ?_
  rintro e w27 ⟨v, rfl, ho, hb⟩
  obtain ⟨A24, c24, rfl, hc, hC⟩ := own_C (xs := [5]) ho (by decide)
  have HC27 := Lib.hid (show Kd.C (Kd.int .u64) w27 A24 ([5] : List Int).length [5] from hC)
  have HM27 := Lib.hid (HM26.out.go hb)
  clear hs ho hb hg hc hC HM26 Q24
  go_wp2_with fail
  obtain ⟨O, hs⟩ := HM27.out.read 0 rfl
  have hg := rowR_any p O S10 0 1023 2 w27 hs (by decide)
  rw [Q25.out] at hg
  refine hg.mono ?_
  rintro e w28 ⟨v, rfl, ho, hb⟩
  obtain ⟨A25, c25, rfl, hc, hC⟩ := own_C (xs := []) ho (by decide)
  have HM28 := Lib.hid (HM27.out.go hb)
  have HC28 := Lib.hid (Kd.C_below HC27.out hb)
  clear HC27
  clear hs ho hb hg hc hC HM27 Q25
  go_wp2_with fail
  obtain ⟨O, hs⟩ := HM28.out.read 0 rfl
  have hg := rowR_any p O S10 0 (-1) 1 w28 hs (by decide)
  rw [Q26.out] at hg
  refine hg.mono ?_
  rintro e w29 ⟨v, rfl, ho, hb⟩
  obtain ⟨A26, c26, rfl, hc, hC⟩ := own_C (xs := []) ho (by decide)
  have HM29 := Lib.hid (HM28.out.go hb)
  have HC29 := Lib.hid (Kd.C_below HC28.out hb)
  clear HC28
  clear hs ho hb hg hc hC HM28 Q26
  go_wp2_with fail
  obtain ⟨O, hs⟩ := HM29.out.read 0 rfl
  have hg := rowR_any p O S10 0 0 (-1) w29 hs (by decide)
  rw [Q27.out] at hg
  refine hg.mono ?_
  rintro e w30 ⟨v, rfl, ho, hb⟩
  obtain ⟨A27, c27, rfl, hc, hC⟩ := own_C (xs := []) ho (by decide)
  have HM30 := Lib.hid (HM29.out.go hb)
  have HC30 := Lib.hid (Kd.C_below HC29.out hb)
  clear HC29
  clear hs ho hb hg hc hC HM29 Q27
  go_wp2_with fail
  obtain ⟨O, hs⟩ := HM30.out.read 0 rfl
  have hg := rowR_any p O S10 0 1025 0 w30 hs (by decide)
  rw [Q28.out] at hg
  refine hg.mono ?_
  rintro e w31 ⟨v, rfl, ho, hb⟩
  obtain ⟨A28, c28, rfl, hc, hC⟩ := own_C (xs := []) ho (by decide)
  have HM31 := Lib.hid (HM30.out.go hb)
  have HC31 := Lib.hid (Kd.C_below HC30.out hb)
  clear HC30
  clear hs ho hb hg hc hC HM30 Q28
  go_wp2_with fail
  obtain ⟨O, hs⟩ := HM31.out.read 0 rfl
  have hg := rowR_any p O S10 0 5 9223372036854775807 w31 hs (by decide)
  rw [Q29.out] at hg
  refine hg.mono ?_
  rintro e w32 ⟨v, rfl, ho, hb⟩
  obtain ⟨A29, c29, rfl, hc, hC⟩ := own_C (xs := []) ho (by decide)
  have HM32 := Lib.hid (HM31.out.go hb)
  have HC32 := Lib.hid (Kd.C_below HC31.out hb)
  clear HC31
  clear hs ho hb hg hc hC HM31 Q29
  go_wp2_with fail
  obtain ⟨O, hs⟩ := HM32.out.read 0 rfl
  have hg := rowR_any p O S10 0 1024 0 w32 hs (by decide)
  rw [Q30.out] at hg
  refine hg.mono ?_
  rintro e w33 ⟨v, rfl, ho, hb⟩
  obtain ⟨A30, c30, rfl, hc, hC⟩ := own_C (xs := []) ho (by decide)
  have HM33 := Lib.hid (HM32.out.go hb)
  have HC33 := Lib.hid (Kd.C_below HC32.out hb)
  clear HC32
  clear hs ho hb hg hc hC HM32 Q30
  obtain ⟨g, o, cs, rfl, hK, -, hc⟩ := row_at HC33.out (by decide) (k := 0) (by decide)
  obtain rfl : cs = [.int .u64 5] := hK
  have d0 := hc 0 _ rfl
  rw [show o + 0 * (Kd.int .u64).sz + 0 = o from by show o + 0 * 1 + 0 = o; omega] at d0
  clear hc HC33
  go_wp2_with fail
  refine (nil17 1 _).mono ?_
  rintro e w34 ⟨rfl, hb⟩
  have HM34 := Lib.hid (HM33.out.go hb)
  clear hb HM33
  go_wp2_with fail
  refine (nil18 1 0 _).mono ?_
  rintro e w35 ⟨rfl, hb⟩
  have HM35 := Lib.hid (HM34.out.go hb)
  clear hb HM34
  go_wp2_with fail
  refine (nil16 1 0 0 _).mono ?_
  rintro e w36 ⟨rfl, hb⟩
  have HM36 := Lib.hid (HM35.out.go hb)
  clear hb HM35
  go_wp2_with fail
  refine (nil22 1 _).mono ?_
  rintro e w37 ⟨rfl, hb⟩
  have HM37 := Lib.hid (HM36.out.go hb)
  clear hb HM36
  go_wp2_with fail
  refine (nil28 1 _).mono ?_
  rintro e w38 ⟨rfl, hb⟩
  have HM38 := Lib.hid (HM37.out.go hb)
  clear hb HM37
  go_wp2_with fail
  refine (nil15 1 1 _).mono ?_
  rintro e w39 ⟨rfl, hb⟩
  have HM39 := Lib.hid (HM38.out.go hb)
  clear hb HM38
  go_wp2_with fail
  refine (nil29 0 0 _).mono ?_
  rintro e w40 ⟨rfl, hb⟩
  have HM40 := Lib.hid (HM39.out.go hb)
  clear hb HM39
  go_wp2_with fail
  refine (nil23 1 _).mono ?_
  rintro e w41 ⟨rfl, hb⟩
  have HM41 := Lib.hid (HM40.out.go hb)
  clear hb HM40
  go_wp2_with fail
  refine (nil13 1 0 1 _).mono ?_
  rintro e w42 ⟨rfl, hb⟩
  have HM42 := Lib.hid (HM41.out.go hb)
  clear hb HM41
  go_wp2_with fail
  refine (nil14 1 0 1 _).mono ?_
  rintro e w43 ⟨rfl, hb⟩
  have HM43 := Lib.hid (HM42.out.go hb)
  clear hb HM42
  go_wp2_with fail
  refine (nil21 _).mono ?_
  rintro e w44 ⟨rfl, hb⟩
  have HM44 := Lib.hid (HM43.out.go hb)
  clear hb HM43
  go_wp2_with fail
  refine (nil27 _).mono ?_
  rintro e w45 ⟨rfl, hb⟩
  have HM45 := Lib.hid (HM44.out.go hb)
  clear hb HM44
  go_wp2_with fail
  refine (nil27l p _).mono ?_
  rintro e w46 ⟨rfl, hb⟩
  have HM46 := Lib.hid (HM45.out.go hb)
  clear hb HM45
  go_wp2_with fail
  refine (nil27r p _).mono ?_
  rintro e w47 ⟨rfl, hb⟩
  have HM47 := Lib.hid (HM46.out.go hb)
  clear hb HM46
  go_wp2_with fail
  refine (new_any w47).mono ?_
  rintro e w48 ⟨rfl, hs, hb⟩
  have HM48 := Lib.hid (show Ms w1 w48 [(p, S10), (w47.heap.size, St.nil)] from HM47.out.more hs hb)
  clear hs hb HM47
  generalize w47.heap.size = p1 at *
  go_wp2_with fail
  obtain ⟨O, hs⟩ := HM48.out.read 0 rfl
  obtain ⟨O', hs'⟩ := HM48.out.read 1 rfl
  have hg := same_any p p1 O O' S10 St.nil w48 hs hs'
  rw [QS.out] at hg
  refine hg.mono ?_
  rintro e w49 ⟨rfl, hb⟩
  have HM49 := Lib.hid (HM48.out.go hb)
  clear hs hs' hb hg HM48
  go_wp2_with fail
  refine (new_any w49).mono ?_
  rintro e w50 ⟨rfl, hs, hb⟩
  have HM50 := Lib.hid (show Ms w1 w50 [(p, S10), (p1, St.nil), (w49.heap.size, St.nil)] from HM49.out.more hs hb)
  clear hs hb HM49
  generalize w49.heap.size = p2 at *
  go_wp2_with fail
  obtain ⟨hs, hb⟩ := sto_fresh w50
  have HM51 := Lib.hid (show Ms w1 _ [(p, S10), (p1, St.nil), (p2, St.nil), (w50.heap.size, St.nil)] from HM50.out.more hs hb)
  clear hs hb HM50
  generalize w50.alloc (.cells #[.map none, .map none] 62) = w51 at *
  generalize w50.heap.size = p3 at *
  obtain ⟨O, hs⟩ := HM51.out.read 2 rfl
  obtain ⟨O', hs'⟩ := HM51.out.read 3 rfl
  have hg := same_any p2 p3 O O' St.nil St.nil w51 hs hs'
  rw [sameS_self] at hg
  refine hg.mono ?_
  rintro e w52 ⟨rfl, hb⟩
  have HM52 := Lib.hid (HM51.out.go hb)
  clear hs hs' hb hg HM51
  go_wp2_with fail
  go_ret
  exact ⟨rfl, below_step HB1.out HM52.out.below⟩
end Go.Proofs.Ytdobpieiobikpaa.Base
namespace Go.Proofs.Ytdobpieiobikpaa.Names
open Go Go.RowKit Go.Proofs.Ytdobpieiobikpaa.Mem Go.Proofs.YtdobpieiobikpaaW.PrintWords
theorem core (w : World) : Calls Try.prog 7 #[] w fun e w' => e = .returned (.bool true) ∧ Below w.heap.size w w' := Base.names_law w
end Go.Proofs.Ytdobpieiobikpaa.Names
