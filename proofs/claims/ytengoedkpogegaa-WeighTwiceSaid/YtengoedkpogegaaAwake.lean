/- The examples are as they are told. Conditions: as each contract says. -/
import Derived.Test.YtengoedkpogegaaChoose
set_option linter.unusedVariables false
set_option linter.unusedSimpArgs false
namespace Go.Proofs.Ytengoedkpogegaa.Base
open Go Go.RowKit Go.Proofs.Ytengoedkpogegaa.Mem Go.Proofs.YtengoedkpogegaaW.PrintWords Go.Proofs.Ytengoedkpogegaa.Fl
theorem Total_any (A0 : Option Addr) (c0 : Nat) (l : List Int) (w : World) (h0 : Kd.C (Kd.int .u64) w A0 l.length l) (hc0 : l.length ≤ c0) (hb : inU l) (hl : l.length < 1000000000000000) :
    Calls Try.prog 16 #[.slice A0 l.length c0] w fun e w' => e = .returned (.tuple #[.int .u64 (((tot 0 l).getD 0 : Nat) : Int), .bool (tot 0 l).isSome]) ∧ w = w' := by
  have HT := Lib.hid (total_any A0 c0 l w h0 hc0 hb hl)
  have hx := tobits ((tot 0 l).getD 0)
  clear h0
  generalize (tot 0 l).getD 0 = t at *
  generalize (tot 0 l).isSome = b at *
  go_enter Try.func16, Try.ntmps16
  go_wp2_with fail
  refine HT.out.mono ?_
  rintro e _ ⟨rfl, rfl⟩
  go_wp2_with fail
  go_ret2
  exact ⟨rfl, rfl⟩
theorem chosen_yes (A0 : Option Addr) (c0 : Nat) (l : List Int) (h k : Nat) (w : World) (h0 : Kd.C (Kd.int .u64) w A0 l.length l) (hc0 : l.length ≤ c0) (hb : inU l) (hl : l.length < 1000000000000000) (hh : h < 4294967296) (hc : choose l h = (k, true)) :
    Calls Try.prog 20 #[.slice A0 l.length c0, .int .u32 (h : Int), .int .i64 (k : Int)] w fun e w' => e = .returned (.bool true) ∧ w = w' := by
  have HT := choose_any A0 c0 l h w h0 hc0 hb hl hh
  rw [hc] at HT
  have HT := Lib.hid HT
  clear h0 hc
  go_enter Try.func20, Try.ntmps20
  go_wp2_with fail
  refine HT.out.mono ?_
  rintro e _ ⟨rfl, rfl⟩
  go_wp2_with fail
  go_ret
  exact ⟨rfl, rfl⟩
theorem blk_readsU {w : World} {g t : Nat} {l : List Int} (h : Blk w g t (l.map (Value.int .u64)).toArray) (hl : l.length ≤ 9223372036854775807) : Kd.C (Kd.int .u64) w (some ⟨g, 0, none⟩) l.length l := by
  refine ⟨rfl, hl, fun _ => ⟨_, rfl, fun j p hj => ⟨[.int .u64 p], rfl, rfl, fun i u hu => ?_⟩⟩⟩
  have hi : i = 0 := by
    have := (List.getElem?_eq_some_iff.1 hu).1
    simp at this
    omega
  subst hi
  simp at hu
  subst hu
  show w.cell? (Addr.add ⟨g, 0, none⟩ (j * 1 + 0)) = _
  rw [Mem.add_at, Nat.zero_add, h.cell (j * 1 + 0)]
  simp [hj]
theorem ch1 : choose [4607182418800017408, 0, 4613937818241073152] 0 = (0, true) := by decide +kernel
theorem ch2 : choose [4607182418800017408, 0, 4613937818241073152] 1073741823 = (0, true) := by decide +kernel
theorem ch3 : choose [4607182418800017408, 0, 4613937818241073152] 1073741824 = (2, true) := by decide +kernel
theorem ch4 : choose [4607182418800017408, 0, 4613937818241073152] 4294967295 = (2, true) := by decide +kernel
theorem to1 : tot 0 [4607182418800017408, 4613937818241073152] = some 4616189618054758400 := by decide +kernel
set_option maxHeartbeats 3200000 in
theorem awake_any (w : World) : Calls Try.prog 15 #[] w fun e w' => e = .returned (.bool true) ∧ Below w.heap.size w w' := by
  have C0 := Lib.hid (show ∀ W, Calls Try.prog 11 #[.int .u64 0] W fun e w' => e = .returned (.int .u8 1) ∧ W = w' from fun W => by have h := class_any 0 (by decide) W; rw [show cls 0 = 1 from by decide +kernel] at h; exact h)
  have C1 := Lib.hid (show ∀ W, Calls Try.prog 11 #[.int .u64 9223372036854775808] W fun e w' => e = .returned (.int .u8 2) ∧ W = w' from fun W => by have h := class_any 9223372036854775808 (by decide) W; rw [show cls 9223372036854775808 = 2 from by decide +kernel] at h; exact h)
  have C2 := Lib.hid (show ∀ W, Calls Try.prog 11 #[.int .u64 1] W fun e w' => e = .returned (.int .u8 3) ∧ W = w' from fun W => by have h := class_any 1 (by decide) W; rw [show cls 1 = 3 from by decide +kernel] at h; exact h)
  have C3 := Lib.hid (show ∀ W, Calls Try.prog 11 #[.int .u64 4607182418800017408] W fun e w' => e = .returned (.int .u8 4) ∧ W = w' from fun W => by have h := class_any 4607182418800017408 (by decide) W; rw [show cls 4607182418800017408 = 4 from by decide +kernel] at h; exact h)
  have C4 := Lib.hid (show ∀ W, Calls Try.prog 11 #[.int .u64 9218868437227405312] W fun e w' => e = .returned (.int .u8 5) ∧ W = w' from fun W => by have h := class_any 9218868437227405312 (by decide) W; rw [show cls 9218868437227405312 = 5 from by decide +kernel] at h; exact h)
  have C5 := Lib.hid (show ∀ W, Calls Try.prog 11 #[.int .u64 18442240474082181120] W fun e w' => e = .returned (.int .u8 6) ∧ W = w' from fun W => by have h := class_any 18442240474082181120 (by decide) W; rw [show cls 18442240474082181120 = 6 from by decide +kernel] at h; exact h)
  have C6 := Lib.hid (show ∀ W, Calls Try.prog 11 #[.int .u64 9218868437227405313] W fun e w' => e = .returned (.int .u8 7) ∧ W = w' from fun W => by have h := class_any 9218868437227405313 (by decide) W; rw [show cls 9218868437227405313 = 7 from by decide +kernel] at h; exact h)
  have B1 : Blk (w.alloc (.cells #[.int .u64 4607182418800017408, .int .u64 0, .int .u64 4613937818241073152] 22)) w.heap.size 22 #[.int .u64 4607182418800017408, .int .u64 0, .int .u64 4613937818241073152] := Blk.new _ _ _
  have H1 := B1.alloc (.cells #[.int .u64 4607182418800017408, .int .u64 4613937818241073152] 22)
  have H2 : Blk ((w.alloc (.cells #[.int .u64 4607182418800017408, .int .u64 0, .int .u64 4613937818241073152] 22)).alloc (.cells #[.int .u64 4607182418800017408, .int .u64 4613937818241073152] 22)) (w.heap.size + 1) 22 #[.int .u64 4607182418800017408, .int .u64 4613937818241073152] := by
    have := Blk.new (w.alloc (.cells #[.int .u64 4607182418800017408, .int .u64 0, .int .u64 4613937818241073152] 22)) 22 #[.int .u64 4607182418800017408, .int .u64 4613937818241073152]
    simpa using this
  have hK := (((Kp.refl w).alloc (.cells #[.int .u64 4607182418800017408, .int .u64 0, .int .u64 4613937818241073152] 22)).alloc (.cells #[.int .u64 4607182418800017408, .int .u64 4613937818241073152] 22)).below
  clear B1
  go_enter Try.func15, Try.ntmps15
  go_wp2_with fail
  generalize (w.alloc (.cells #[.int .u64 4607182418800017408, .int .u64 0, .int .u64 4613937818241073152] 22)).alloc (.cells #[.int .u64 4607182418800017408, .int .u64 4613937818241073152] 22) = w2 at *
  have R1 := Lib.hid (blk_readsU (l := [4607182418800017408, 0, 4613937818241073152]) H1 (by decide))
  have R2 := Lib.hid (blk_readsU (l := [4607182418800017408, 4613937818241073152]) H2 (by decide))
  clear H1 H2
  refine (Total_any (some ⟨w.heap.size + 1, 0, none⟩) 2 [4607182418800017408, 4613937818241073152] w2 R2.out (by decide) (by unfold inU; decide) (by decide)).mono ?_
  rintro e _ ⟨rfl, rfl⟩
  rw [to1]
  go_wp2_with fail
  refine (C0.out _).mono ?_
  rintro e _ ⟨rfl, rfl⟩
  go_wp2_with fail
  refine (C1.out _).mono ?_
  rintro e _ ⟨rfl, rfl⟩
  go_wp2_with fail
  refine (C2.out _).mono ?_
  rintro e _ ⟨rfl, rfl⟩
  go_wp2_with fail
  refine (C3.out _).mono ?_
  rintro e _ ⟨rfl, rfl⟩
  go_wp2_with fail
  refine (C4.out _).mono ?_
  rintro e _ ⟨rfl, rfl⟩
  go_wp2_with fail
  refine (C5.out _).mono ?_
  rintro e _ ⟨rfl, rfl⟩
  go_wp2_with fail
  refine (C6.out _).mono ?_
  rintro e _ ⟨rfl, rfl⟩
  go_wp2_with fail
  refine (chosen_yes (some ⟨w.heap.size, 0, none⟩) 3 [4607182418800017408, 0, 4613937818241073152] 0 0 _ R1.out (by decide) (by unfold inU; decide) (by decide) (by decide) ch1).mono ?_
  rintro e _ ⟨rfl, rfl⟩
  go_wp2_with fail
  refine (chosen_yes (some ⟨w.heap.size, 0, none⟩) 3 [4607182418800017408, 0, 4613937818241073152] 1073741823 0 _ R1.out (by decide) (by unfold inU; decide) (by decide) (by decide) ch2).mono ?_
  rintro e _ ⟨rfl, rfl⟩
  go_wp2_with fail
  refine (chosen_yes (some ⟨w.heap.size, 0, none⟩) 3 [4607182418800017408, 0, 4613937818241073152] 1073741824 2 _ R1.out (by decide) (by unfold inU; decide) (by decide) (by decide) ch3).mono ?_
  rintro e _ ⟨rfl, rfl⟩
  go_wp2_with fail
  refine (chosen_yes (some ⟨w.heap.size, 0, none⟩) 3 [4607182418800017408, 0, 4613937818241073152] 4294967295 2 _ R1.out (by decide) (by unfold inU; decide) (by decide) (by decide) ch4).mono ?_
  rintro e _ ⟨rfl, rfl⟩
  go_wp2_with fail
  go_ret
  exact ⟨rfl, hK⟩
end Go.Proofs.Ytengoedkpogegaa.Base
