/- Stores of nil: what each method tells. Conditions: none. -/
import Derived.Test.YtdobpieiobikpaaMany
set_option linter.unusedVariables false
set_option linter.unusedSimpArgs false
namespace Go.Proofs.Ytdobpieiobikpaa.Base
open Go Go.RowKit Go.Proofs.Ytdobpieiobikpaa.Mem Go.Proofs.YtdobpieiobikpaaW.PrintWords Go.Proofs.YtdobpieiobikpaaW.PrintLast
theorem nil53 (f : Value) (id : Int) (w : World) : Calls Try.prog 53 #[.pointer none, f, .int .i64 id] w fun e w' => e = .returned (.int .i64 2) ∧ Below w.heap.size w w' := by
  have kA := Below.refl w.heap.size w
  go_enter Try.func53, Try.ntmps53
  go_wp2_with fail
  go_ret
  exact ⟨rfl, kA⟩
theorem nil55 (f : Value) (id : Int) (w : World) : Calls Try.prog 55 #[.pointer none, f, .int .i64 id] w fun e w' => e = .returned (.int .i64 2) ∧ Below w.heap.size w w' := by
  have kA := Below.refl w.heap.size w
  go_enter Try.func55, Try.ntmps55
  go_wp2_with fail
  go_ret
  exact ⟨rfl, kA⟩
theorem nil33 (id : Int) (w : World) : Calls Try.prog 33 #[.pointer none, .int .i64 id] w fun e w' => e = .returned (.int .i64 2) ∧ Below w.heap.size w w' := by
  have kA := (Below.refl w.heap.size w).alloc (Nat.le_refl _) (.cells #[.pointer none] 25)
  have hB := Blk.new w 25 #[.pointer none]
  have c0 := hB.cell 0
  go_enter Try.func33, Try.ntmps33
  go_wp2_with fail
  refine (nil53 _ _ _).mono ?_
  rintro e w1 ⟨rfl, hb⟩
  go_wp2_with fail
  go_ret
  exact ⟨rfl, kA.trans (hb.mono kA.size)⟩
theorem nil34 (id : Int) (w : World) : Calls Try.prog 34 #[.pointer none, .int .i64 id] w fun e w' => e = .returned (.int .i64 2) ∧ Below w.heap.size w w' := by
  have kA := (Below.refl w.heap.size w).alloc (Nat.le_refl _) (.cells #[.pointer none] 25)
  have hB := Blk.new w 25 #[.pointer none]
  have c0 := hB.cell 0
  go_enter Try.func34, Try.ntmps34
  go_wp2_with fail
  refine (nil55 _ _ _).mono ?_
  rintro e w1 ⟨rfl, hb⟩
  go_wp2_with fail
  go_ret
  exact ⟨rfl, kA.trans (hb.mono kA.size)⟩
theorem nil22 (id : Int) (w : World) : Calls Try.prog 22 #[.pointer none, .int .i64 id] w fun e w' => e = .returned (.int .i64 2) ∧ Below w.heap.size w w' := by
  go_enter Try.func22, Try.ntmps22
  go_wp2_with fail
  refine (nil33 _ _).mono ?_
  rintro e w1 ⟨rfl, hb⟩
  go_wp2_with fail
  go_ret
  exact ⟨rfl, hb⟩
theorem nil28 (id : Int) (w : World) : Calls Try.prog 28 #[.pointer none, .int .i64 id] w fun e w' => e = .returned (.int .i64 2) ∧ Below w.heap.size w w' := by
  go_enter Try.func28, Try.ntmps28
  go_wp2_with fail
  refine (nil33 _ _).mono ?_
  rintro e w1 ⟨rfl, hb⟩
  go_wp2_with fail
  go_ret
  exact ⟨rfl, hb⟩
theorem nil15 (id n : Int) (w : World) : Calls Try.prog 15 #[.pointer none, .int .i64 id, .int .i64 n] w fun e w' => e = .returned (.int .i64 2) ∧ Below w.heap.size w w' := by
  go_enter Try.func15, Try.ntmps15
  go_wp2_with fail
  refine (nil33 _ _).mono ?_
  rintro e w1 ⟨rfl, hb⟩
  go_wp2_with fail
  go_ret
  exact ⟨rfl, hb⟩
theorem nil17 (id : Int) (w : World) : Calls Try.prog 17 #[.pointer none, .int .i64 id] w fun e w' => e = .returned (.tuple #[.int .u64 0, .int .u64 0, .int .i64 2]) ∧ Below w.heap.size w w' := by
  go_enter Try.func17, Try.ntmps17
  go_wp2_with fail
  refine (nil33 _ _).mono ?_
  rintro e w1 ⟨rfl, hb⟩
  go_wp2_with fail
  refine bodyPost_ret (v := .tuple #[.int .u64 0, .int .u64 0, .int .i64 2]) (by simp [results, Try.results17, go_sem]) rfl ?_
  exact ⟨rfl, hb⟩
theorem nil23 (id : Int) (w : World) : Calls Try.prog 23 #[.pointer none, .int .i64 id] w fun e w' => e = .returned (.int .i64 2) ∧ Below w.heap.size w w' := by
  go_enter Try.func23, Try.ntmps23
  go_wp2_with fail
  refine (nil34 _ _).mono ?_
  rintro e w1 ⟨rfl, hb⟩
  go_wp2_with fail
  go_ret
  exact ⟨rfl, hb⟩
theorem nil29 (id n : Int) (w : World) : Calls Try.prog 29 #[.pointer none, .agg #[.int .i64 id, .int .i64 n]] w fun e w' => e = .returned (.int .i64 2) ∧ Below w.heap.size w w' := by
  have kA := (Below.refl w.heap.size w).alloc (Nat.le_refl _) (.cells #[.int .i64 id, .int .i64 n] 65)
  have X := Blk.new w 65 #[.int .i64 id, .int .i64 n]
  have x0 := X.cell 0
  have x1 := X.cell 1
  go_enter Try.func29, Try.ntmps29
  go_wp2_with fail
  refine (nil34 _ _).mono ?_
  rintro e w1 ⟨rfl, hb⟩
  go_wp2_with fail
  go_ret
  exact ⟨rfl, below_step kA hb⟩
theorem nil32 (id k : Int) (w : World) : Calls Try.prog 32 #[.pointer none, .int .i64 id, .int .u64 k] w fun e w' => e = .returned (.tuple #[.pointer none, .int .i64 2]) ∧ Below w.heap.size w w' := by
  go_enter Try.func32, Try.ntmps32
  go_wp2_with fail
  refine (nil34 _ _).mono ?_
  rintro e w1 ⟨rfl, hb⟩
  go_wp2_with fail
  go_ret2
  exact ⟨rfl, hb⟩
theorem nil18 (id k : Int) (w : World) : Calls Try.prog 18 #[.pointer none, .int .i64 id, .int .u64 k] w fun e w' => e = .returned (.tuple #[.int .u64 0, .int .i64 2]) ∧ Below w.heap.size w w' := by
  go_enter Try.func18, Try.ntmps18
  go_wp2_with fail
  refine (nil32 _ _ _).mono ?_
  rintro e w1 ⟨rfl, hb⟩
  go_wp2_with fail
  go_ret2
  exact ⟨rfl, hb⟩
theorem nil13 (id k v : Int) (w : World) : Calls Try.prog 13 #[.pointer none, .int .i64 id, .int .u64 k, .int .u64 v] w fun e w' => e = .returned (.int .i64 2) ∧ Below w.heap.size w w' := by
  go_enter Try.func13, Try.ntmps13
  go_wp2_with fail
  refine (nil32 _ _ _).mono ?_
  rintro e w1 ⟨rfl, hb⟩
  go_wp2_with fail
  go_ret
  exact ⟨rfl, hb⟩
theorem nil14 (id k v : Int) (w : World) : Calls Try.prog 14 #[.pointer none, .int .i64 id, .int .u64 k, .int .u64 v] w fun e w' => e = .returned (.int .i64 2) ∧ Below w.heap.size w w' := by
  go_enter Try.func14, Try.ntmps14
  go_wp2_with fail
  refine (nil32 _ _ _).mono ?_
  rintro e w1 ⟨rfl, hb⟩
  go_wp2_with fail
  go_ret
  exact ⟨rfl, hb⟩
theorem nil16 (id f n : Int) (w : World) : Calls Try.prog 16 #[.pointer none, .int .i64 id, .int .i64 f, .int .i64 n] w fun e w' => e = .returned (.tuple #[.slice none 0 0, .int .i64 2]) ∧ Below w.heap.size w w' := by
  go_enter Try.func16, Try.ntmps16
  go_wp2_with fail
  refine (nil34 _ _).mono ?_
  rintro e w1 ⟨rfl, hb⟩
  go_wp2_with fail
  go_ret2
  exact ⟨rfl, hb⟩
theorem nil21  (w : World) : Calls Try.prog 21 #[.pointer none] w fun e w' => e = .returned (.pointer none) ∧ Below w.heap.size w w' := by
  have kA := Below.refl w.heap.size w
  go_enter Try.func21, Try.ntmps21
  go_wp2_with fail
  go_ret
  exact ⟨rfl, kA⟩
theorem nil27  (w : World) : Calls Try.prog 27 #[.pointer none, .pointer none] w fun e w' => e = .returned (.bool true) ∧ Below w.heap.size w w' := by
  have kA := Below.refl w.heap.size w
  go_enter Try.func27, Try.ntmps27
  go_wp2_with fail
  go_ret
  exact ⟨rfl, kA⟩
theorem eqIn25 (d a : Nat) (w : World) : (Op.equalIn (d + 1) 25 (.pointer none) (ptr a)).run Try.prog w = .ok false w := by
  simp [Op.equalIn, run_underlying Try.underlying25]
theorem eq25 (a : Nat) (w : World) : (binOp .eql 25 (.pointer none) (ptr a)).run Try.prog w = .ok (.bool false) w := by
  simp only [binOp]
  simp [show Op.equal 25 (.pointer none) (ptr a) = Op.equalIn (9999 + 1) 25 (.pointer none) (ptr a) from rfl, eqIn25 9999 a w]
theorem nil27l (a : Nat) (w : World) : Calls Try.prog 27 #[.pointer none, ptr a] w fun e w' => e = .returned (.bool false) ∧ Below w.heap.size w w' := by
  have kA := Below.refl w.heap.size w
  have he := eq25 a w
  go_enter Try.func27, Try.ntmps27
  go_wp2_with fail
  go_ret
  exact ⟨rfl, kA⟩
theorem nil27r (a : Nat) (w : World) : Calls Try.prog 27 #[ptr a, .pointer none] w fun e w' => e = .returned (.bool false) ∧ Below w.heap.size w w' := by
  have kA := Below.refl w.heap.size w
  go_enter Try.func27, Try.ntmps27
  go_wp2_with fail
  go_ret
  exact ⟨rfl, kA⟩
end Go.Proofs.Ytdobpieiobikpaa.Base
