/- What the plain ReadList tells: the same. No condition but those that each lemma says. -/
import Derived.Test.YtndbchigekbjaaaItems
import Derived.Test.YtndbchigekbjaaaPTlvListsx2
set_option linter.unusedVariables false
set_option linter.unusedSimpArgs false
namespace Go.Proofs.Ytndbchigekbjaaa.Base
open Go Go.RowKit Go.Proofs.YtndbchigekbjaaaW.PrintWords
theorem ext_drop (s : ByteArray) (n : Nat) (h : n ≤ s.size) : (s.extract n s.size).data.toList = s.data.toList.drop n := by
  have : (s.extract n s.size).data.toList = (s.data.toList.drop n).take (s.size - n) := by simp [List.take_drop, show n + (s.size - n) = s.size by omega]
  rw [this, List.take_of_length_le (by simp)]
theorem ext_take (s : ByteArray) (n : Nat) : (s.extract 2 (2 + n)).data.toList = (s.data.toList.drop 2).take n := by
  simp [List.take_drop]
theorem number_f (s : ByteArray) (y z : UInt8) (r : List UInt8) (hs : s.data.toList = y :: z :: r) : PTlvLists.turnoutref06_number.f s = some ((y.toNat * 256 + z.toNat : Nat) : Int) := by
  have hsz : s.size = s.data.toList.length := by rw [Array.length_toList]; rfl
  rw [hs] at hsz
  simp only [List.length_cons] at hsz
  have b0 : bt s 0 = (y.toNat : Int) := bt_get s 0 y (by rw [hs]; rfl)
  have b1 : bt s 1 = (z.toNat : Int) := bt_get s 1 z (by rw [hs]; rfl)
  have hy := y.toNat_lt
  have hz := z.toNat_lt
  unfold PTlvLists.turnoutref06_number.f
  rw [if_pos (show (0 : Int) < (s.size : Int) by omega), if_pos (show (1 : Int) < (s.size : Int) by omega), b0, b1]
  congr 1
  unfold wrap64
  omega
theorem refread_l (top : Int) : ∀ (K : Nat) (s : ByteArray) (out : List ByteArray) (k : Nat), s.size ≤ K → out.length + s.size ≤ 10000000 → K < k →
    PTlvLists.turnoutref06_ReadList.l0 k s top out = some (if (dl top out.length s.data.toList).2 = 0 then (out ++ (dl top out.length s.data.toList).1, 0) else ([], (dl top out.length s.data.toList).2)) := by
  intro K
  induction K with
  | zero =>
    intro s out k h1 h2 h3
    obtain ⟨k, rfl⟩ : ∃ k', k = k' + 1 := ⟨k - 1, by omega⟩
    have hd : s.data.toList = [] := List.eq_nil_of_length_eq_zero (by rw [Array.length_toList]; show s.size = 0; omega)
    rw [PTlvLists.turnoutref06_ReadList.l0, Go.ByteArray.toList_eq, if_pos hd, hd, dl]
    simp
  | succ K ih =>
    intro s out k h1 h2 h3
    obtain ⟨k, rfl⟩ : ∃ k', k = k' + 1 := ⟨k - 1, by omega⟩
    have hsz : s.size = s.data.toList.length := by rw [Array.length_toList]; rfl
    rw [PTlvLists.turnoutref06_ReadList.l0, Go.ByteArray.toList_eq]
    rcases hL : s.data.toList with _ | ⟨y, _ | ⟨z, r⟩⟩
    · rw [if_pos rfl, dl]; simp
    · rw [hL] at hsz
      rw [if_neg (by simp), if_pos (show (s.size : Int) < 2 by rw [hsz]; show ((1 : Nat) : Int) < 2; omega)]
      simp [dl]
    · rw [hL] at hsz
      simp only [List.length_cons] at hsz
      have hy := y.toNat_lt
      have hz := z.toNat_lt
      rw [if_neg (by simp), if_neg (show ¬ (s.size : Int) < 2 by omega), dl_cons]
      by_cases c1 : top ≤ (out.length : Int)
      · rw [if_pos (show (out.length : Int) ≥ top from c1), if_pos c1]; simp
      · rw [if_neg (show ¬ (out.length : Int) ≥ top from c1), if_neg c1, number_f s y z r hL, Option.bind_some]
        generalize hn : y.toNat * 256 + z.toNat = n
        have hw : wrap64 (2 + (n : Int)) = ((2 + n : Nat) : Int) := by unfold wrap64; omega
        rw [hw]
        by_cases c2 : r.length < n
        · rw [if_pos (show (s.size : Int) < ((2 + n : Nat) : Int) by omega), if_pos c2]; simp
        · have i1 : ¬ (s.size : Int) < ((2 + n : Nat) : Int) := by omega
          have i2 : (2 : Int) ≤ ((2 + n : Nat) : Int) := by omega
          have i3 : ((2 + n : Nat) : Int) ≤ (s.size : Int) := by omega
          have i4 : out.length < 8796093022208 := by omega
          have i5 : (0 : Int) ≤ ((2 + n : Nat) : Int) := by omega
          rw [if_neg i1, if_pos i2, if_pos i3, if_pos i4, if_pos i5, if_neg c2, Int.toNat_natCast]
          have e1 : s.extract 2 (2 + n) = ⟨(r.take n).toArray⟩ := str_ext (by rw [ext_take, hL]; simp)
          have e2 : (s.extract (2 + n) s.size).data.toList = r.drop n := by
            rw [ext_drop s (2 + n) (by omega), hL, Nat.add_comm 2 n]
            simp
          have e3 : (s.extract (2 + n) s.size).size = r.length - n := by
            have : (s.extract (2 + n) s.size).size = (s.extract (2 + n) s.size).data.toList.length := by rw [Array.length_toList]; rfl
            rw [this, e2, List.length_drop]
          have := ih (s.extract (2 + n) s.size) (out ++ [s.extract 2 (2 + n)]) k (by omega) (by rw [List.length_append, e3]; simp only [List.length_cons, List.length_nil]; omega) (by omega)
          rw [this, e1, e2, List.length_append]
          simp only [List.length_cons, List.length_nil, Nat.zero_add, List.append_assoc, List.cons_append, List.nil_append]
theorem refread_any (s : ByteArray) (top : Int) (w : World) (hs : s.size ≤ 10000000) :
    Calls Try.prog 30 #[.string s, .int .i64 top] w fun e w' => ∃ v, e = .returned (.tuple #[v, .int .i64 (dl top 0 s.data.toList).2]) ∧
      Kd.R Kd.string 9 w' w.heap.size (fun _ => True) v (if (dl top 0 s.data.toList).2 = 0 then (dl top 0 s.data.toList).1 else []) ∧ Below w.heap.size w w' := by
  have h := refread_l top s.size s [] (s.size + 1) (Nat.le_refl _) (by simpa using hs) (by omega)
  simp only [List.length_nil, List.nil_append] at h
  refine PTlvLists.turnoutref06_ReadList.calls (s.size + 1) s top _ _ w ?_
  unfold PTlvLists.turnoutref06_ReadList.f
  rw [h]
  by_cases c : (dl top 0 s.data.toList).2 = 0
  · rw [if_pos c, if_pos c, c]
  · rw [if_neg c, if_neg c]
end Go.Proofs.Ytndbchigekbjaaa.Base
