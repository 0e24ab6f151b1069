/- What the bytes of a number are, and that Num makes them. Conditions: as each contract says. -/
import Derived.Test.YtndbchigekbjaaaList
set_option linter.unusedVariables false
set_option linter.unusedSimpArgs false
namespace Go.Proofs.Ytndbchigekbjaaa.Base
open Go Go.RowKit Go.Proofs.Ytndbchigekbjaaa.Mem Go.Proofs.YtndbchigekbjaaaW.PrintWords
/-- The bytes of a number. -/
def num (n : Nat) : List Int := if n = 0 then [] else num (n / 256) ++ [((n % 256 : Nat) : Int)]
termination_by n
decreasing_by omega
theorem sl8 (q a : Nat) (ha : a ≤ 8) (W : World) : (Instr.sliceAt 69 (.pointer (some ⟨q, 0, none⟩)) (some (.int .i64 (a : Int))) none none).run Try.prog W = .ok (.slice (some (if 8 = a then ⟨q, 0, none⟩ else ⟨q, a, none⟩)) (8 - a) (8 - a)) W := by
  have h : a = 0 ∨ a = 1 ∨ a = 2 ∨ a = 3 ∨ a = 4 ∨ a = 5 ∨ a = 6 ∨ a = 7 ∨ a = 8 := by omega
  rcases h with rfl | rfl | rfl | rfl | rfl | rfl | rfl | rfl | rfl <;> rfl
theorem reads8 {wr : World} {q a : Nat} {d : List Int} (h3 : d.length + a = 8) (hb : Blk wr q 69 (nums .u8 (List.replicate a 0 ++ d)).toArray) :
    ReadsInt wr .u8 (some (if 8 = a then ⟨q, 0, none⟩ else ⟨q, a, none⟩)) (8 - a) d := by
  refine ⟨by omega, by omega, fun h => ⟨_, rfl, fun j hj => ?_⟩⟩
  rw [if_neg (by omega)]
  have := hb.cell (a + j)
  rw [show (⟨q, a, none⟩ : Addr).add j = ⟨q, a + j, none⟩ from by unfold Addr.add; split <;> simp_all, this]
  have hj2 : j < d.length := by omega
  simp [nums, List.getElem?_append_right, List.getD_eq_getElem?_getD, hj2]
theorem set8 (k : Nat) (d : List Int) (x : Int) : (nums .u8 (List.replicate (k + 1) 0 ++ d)).toArray.setIfInBounds k (.int .u8 x) = (nums .u8 (List.replicate k 0 ++ x :: d)).toArray := by
  rw [List.replicate_succ', List.append_assoc, nums_append, nums_append, nums_append]
  have hk : (nums .u8 (List.replicate k 0)).length = k := by simp [nums]
  simp only [List.setIfInBounds_toArray]
  rw [List.set_append, if_neg (by omega), hk, Nat.sub_self]
  rfl
def NR (n0 q : Nat) (w : World) (t0 t4 : Value) (wr : World) : Prop :=
  ∃ (n a : Nat) (d : List Int), t0 = .int .u64 (n : Int) ∧ t4 = .int .i64 (a : Int) ∧ n < 256 ^ a ∧ num n0 = num n ++ d ∧ d.length + a = 8 ∧ Blk wr q 69 (nums .u8 (List.replicate a 0 ++ d)).toArray ∧ Below w.heap.size w wr
set_option maxHeartbeats 1600000 in
theorem num_any (n : Nat) (hn : n < 18446744073709551616) (w : World) :
    Calls Try.prog 23 #[.int .u64 (n : Int)] w fun e w' => e = .returned (.string (strOfNums (num n))) ∧ Below w.heap.size w w' := by
  have hR : NR n w.heap.size w (.int .u64 (n : Int)) (.int .i64 8) (w.alloc (.cells #[.int .u8 0, .int .u8 0, .int .u8 0, .int .u8 0, .int .u8 0, .int .u8 0, .int .u8 0, .int .u8 0] 69)) :=
    ⟨n, 8, [], rfl, rfl, hn, by simp, rfl, Blk.new _ _ _, (Below.refl _ _).alloc (Nat.le_refl _) _⟩
  go_enter Try.func23, Try.ntmps23
  go_wp2_with fail
  go_loopw [0, 4] (fun t0 t4 wr => NR n w.heap.size w t0 t4 wr) (fun t0 t4 _ => match t4 with | .int _ i => i.toNat | _ => 0)
  case atStart => exact hR
  case round =>
    clear hR
    obtain ⟨m, a, d, rfl, rfl, h1, h2, h3, hb, HB⟩ := hrel
    by_cases hm : m = 0
    · subst hm
      have ha8 : a ≤ 8 := by omega
      have q1 := sl8 w.heap.size a ha8
      have q2 := string_of_reads (P := Try.prog) (c := 8 - a) Try.underlying57 Try.underlying5 Try.underlying9 (reads8 h3 hb)
      generalize (if 8 = a then (⟨w.heap.size, 0, none⟩ : Addr) else ⟨w.heap.size, a, none⟩) = A at *
      generalize 8 - a = k at *
      go_wp2_with fail
      go_ret
      refine ⟨?_, HB⟩
      rw [h2]
      simp [num]
    · have ha : a ≠ 0 := by rintro rfl; omega
      have g0 : (0 : Int) < (m : Int) := by omega
      have ga : (0 : Int) ≤ (a : Int) - 1 := by omega
      have ga2 : (a : Int) - 1 < 8 := by omega
      have hz := hb.frozen (a - 1)
      have hc : wr.cell? ⟨w.heap.size, a - 1, none⟩ = some (.int .u8 0) := by
        rw [hb.cell (a - 1), nums]
        have : a - 1 < a := by omega
        simp [List.getElem?_append_left, this, List.getElem?_replicate]
      go_wp2_with fail
      obtain ⟨k, rfl⟩ : ∃ k, a = k + 1 := ⟨a - 1, by omega⟩
      refine ⟨⟨m / 256, k, ((m % 256 : Nat) : Int) :: d, ?_, ?_, ?_, ?_, ?_, ?_, ?_⟩, ?_⟩
      · rw [Int.natCast_ediv]; rfl
      · rw [show ((k + 1 : Nat) : Int) - 1 = (k : Int) by omega]
      · rw [Nat.pow_succ] at h1; omega
      · rw [h2, num, if_neg hm, List.append_assoc]; rfl
      · simp only [List.length_cons]; omega
      · have := hb.set_ k (.int .u8 ((m : Int) % 256))
        rw [set8] at this
        exact this
      · exact HB.setCell (p := ⟨w.heap.size, k, none⟩) (Nat.le_refl _) _
      · show (((k + 1 : Nat) : Int) - 1).toNat < ((k + 1 : Nat) : Int).toNat; omega
end Go.Proofs.Ytndbchigekbjaaa.Base
