/- Back of Mix, and Mix of Back, is the number; no two numbers are mixed to one. Conditions: none beyond the row's own. -/
import Derived.Test.YtjkjlkmhaebpcaaPHashBackx1
import Derived.Test.YtjkjlkmhaebpcaaMath
namespace Go.Proofs.Ytjkjlkmhaebpcaa.Pure
open Go.RowKit Go.Proofs.Ytjkjlkmhaebpcaa.PHashBack Go.Proofs.YtjkjlkmhaebpcaaW.PrintWords Go.Proofs.YtjkjlkmhaebpcaaW.PrintLast Go.Proofs.YtjkjlkmhaebpcaaW.PrintMore Go.Proofs.Ytjkjlkmhaebpcaa.Math
namespace HHashBack
theorem awake_some (k : Nat) (h : 20 ≤ k) : turnoutlaw04_awake.f k = some true := at_rounds turnoutlaw04_awake.mono h (by decide +kernel)
theorem mix_eq (a : Int) : hash_Mix.f a = some (Go.bits .xor .u32 (((Go.bits .xor .u32 (((Go.bits .xor .u32 a (a / 65536)) * 2246822507) % 4294967296) ((((Go.bits .xor .u32 a (a / 65536)) * 2246822507) % 4294967296) / 8192)) * 3266489909) % 4294967296) ((((Go.bits .xor .u32 (((Go.bits .xor .u32 a (a / 65536)) * 2246822507) % 4294967296) ((((Go.bits .xor .u32 a (a / 65536)) * 2246822507) % 4294967296) / 8192)) * 3266489909) % 4294967296) / 65536)) := rfl
theorem mix_nat (n : Nat) (h : n < 4294967296) : hash_Mix.f (n : Int) = some ((mixN n : Nat) : Int) := by
  rw [mix_eq, mix_int n h]
theorem mix_some (a : Int) (h : 0 ≤ a) (h' : a < 4294967296) : hash_Mix.f a = some ((mixN a.toNat : Nat) : Int) := by
  obtain ⟨n, rfl⟩ := Int.eq_ofNat_of_zero_le h
  rw [Int.toNat_natCast, mix_nat n (by omega)]
theorem back_eq (a : Int) : hash_Back.f a = some (Go.bits .xor .u32 (((Go.bits .xor .u32 (((Go.bits .xor .u32 a (a / 65536)) * 2127672349) % 4294967296) (Go.bits .xor .u32 ((((Go.bits .xor .u32 a (a / 65536)) * 2127672349) % 4294967296) / 8192) ((((Go.bits .xor .u32 a (a / 65536)) * 2127672349) % 4294967296) / 67108864))) * 2781581891) % 4294967296) ((((Go.bits .xor .u32 (((Go.bits .xor .u32 a (a / 65536)) * 2127672349) % 4294967296) (Go.bits .xor .u32 ((((Go.bits .xor .u32 a (a / 65536)) * 2127672349) % 4294967296) / 8192) ((((Go.bits .xor .u32 a (a / 65536)) * 2127672349) % 4294967296) / 67108864))) * 2781581891) % 4294967296) / 65536)) := rfl
theorem back_nat (n : Nat) (h : n < 4294967296) : hash_Back.f (n : Int) = some ((backN n : Nat) : Int) := by
  rw [back_eq, back_int n h]
theorem back_some (a : Int) (h : 0 ≤ a) (h' : a < 4294967296) : hash_Back.f a = some ((backN a.toNat : Nat) : Int) := by
  obtain ⟨n, rfl⟩ := Int.eq_ofNat_of_zero_le h
  rw [Int.toNat_natCast, back_nat n (by omega)]
end HHashBack
theorem HashBack : turnoutlaw04_HashBack.Pure := by
  intro a b ha hb
  have ba := wf_u32 ha
  have bb := wf_u32 hb
  refine ⟨20, ?_⟩
  unfold turnoutlaw04_HashBack.f
  obtain ⟨n, rfl⟩ := Int.eq_ofNat_of_zero_le ba.1
  obtain ⟨m, rfl⟩ := Int.eq_ofNat_of_zero_le bb.1
  have ln : n < 4294967296 := by omega
  have lm : m < 4294967296 := by omega
  have e1 := back_mix n ln
  have e2 := mix_back n ln
  have e3 : mixN n = mixN m → n = m := fun h => by rw [← back_mix n ln, ← back_mix m lm, h]
  have l1 := mixN_lt n
  have l2 := backN_lt n
  have f1 := HHashBack.mix_nat n ln
  have f2 := HHashBack.mix_nat m lm
  have f3 := HHashBack.back_nat n ln
  have f4 := HHashBack.back_nat _ l1
  have f5 := HHashBack.mix_nat _ l2
  rw [e1] at f4
  rw [e2] at f5
  clear e1 e2
  generalize mixN n = x at *
  generalize mixN m = y at *
  generalize backN n = z at *
  have A := HHashBack.awake_some 20 (by omega)
  rw [f1, Option.bind_some, f4, Option.bind_some, if_pos rfl, f3, Option.bind_some, f5, Option.bind_some, if_pos rfl, Option.bind_some, f2, Option.bind_some, A, Option.bind_some, if_pos]
  by_cases e : n = m
  · subst e
    obtain rfl : x = y := Int.ofNat.inj (Option.some.inj (f1.symm.trans f2))
    rw [beq_self_eq_true, beq_self_eq_true]; rfl
  · have : ¬ x = y := fun h => e (e3 h)
    rw [beq_eq_false_iff_ne.mpr (by omega : ¬ (x : Int) = (y : Int)), beq_eq_false_iff_ne.mpr (by omega : ¬ (n : Int) = (m : Int))]; rfl
end Go.Proofs.Ytjkjlkmhaebpcaa.Pure
