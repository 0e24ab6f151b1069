/- What ReadNum and its plain twin tell: the same; and the plain Num's bytes. Conditions: as each contract says. -/
import Derived.Test.YtndbchigekbjaaaNum
import Derived.Test.YtndbchigekbjaaaAttrs
set_option linter.unusedVariables false
set_option linter.unusedSimpArgs false
namespace Go.Proofs.Ytndbchigekbjaaa.Base
open Go Go.RowKit Go.Proofs.Ytndbchigekbjaaa.Mem Go.Proofs.YtndbchigekbjaaaW.PrintWords
/-- The number of bytes, behind a number. -/
def val (n : Nat) (s : List UInt8) : Nat := s.foldl (fun a b => a * 256 + b.toNat) n
/-- What is told of a number. -/
def fin (top : Int) (v : Nat) : Int × Int := if (v : Int) > top then (0, 3) else ((v : Int), 0)
theorem u64_or (m b : Nat) (hm : m * 256 < 18446744073709551616) (hb : b < 256) : Go.bits .or .u64 (IntKind.u64.wrap ((m : Int) * 256)) (IntKind.u64.wrap (b : Int)) = ((m * 256 + b : Nat) : Int) := by
  have e2 : IntKind.u64.wrap (b : Int) = (b : Int) := by show (b : Int) % 18446744073709551616 = _; omega
  have e3 : IntKind.u64.wrap ((m : Int) * 256) = ((m * 256 : Nat) : Int) := by show ((m : Int) * 256) % 18446744073709551616 = _; omega
  rw [e2, e3]
  have hlt : m * 256 ||| b < 2 ^ 64 := Nat.or_lt_two_pow hm (by omega)
  have hs := Nat.shiftLeft_add_eq_or_of_lt (show b < 2 ^ 8 by omega) m
  rw [Nat.shiftLeft_eq] at hs
  show IntKind.u64.wrap ((BitVec.ofInt 64 ((m * 256 : Nat) : Int) ||| BitVec.ofInt 64 (b : Int)).toNat : Int) = _
  rw [BitVec.toNat_or, ofInt_u64 (m * 256) (by omega), ofInt_u64 b (by omega)]
  show (_ : Int) % 18446744073709551616 = _
  rw [Int.emod_eq_of_lt (by omega) (by exact Int.ofNat_lt.2 hlt)]
  congr 1
  exact hs.symm
theorem u64_add (m b : Nat) (hm : m * 256 + b < 18446744073709551616) (hb : b < 256) : IntKind.u64.wrap ((IntKind.u64.wrap ((m : Int) * 256)) + (IntKind.u64.wrap (b : Int))) = ((m * 256 + b : Nat) : Int) := by
  have e2 : IntKind.u64.wrap (b : Int) = (b : Int) := by show (b : Int) % 18446744073709551616 = _; omega
  have e3 : IntKind.u64.wrap ((m : Int) * 256) = ((m * 256 : Nat) : Int) := by show ((m : Int) * 256) % 18446744073709551616 = _; omega
  rw [e2, e3]
  show _ % 18446744073709551616 = _
  omega
theorem loops (s : ByteArray) (top : Int) (h8 : s.size ≤ 8) : ∀ (j i n k : Nat), s.size = i + j → n < 256 ^ i → j < k →
    PTlvNumbers.tlv_ReadNum.l0 k s top (n : Int) (s.size : Int) (i : Int) = some (fin top (val n (s.data.toList.drop i))) ∧
    PTlvNumbers.turnoutref06_ReadNum.l0 k s top (n : Int) (i : Int) = some (fin top (val n (s.data.toList.drop i))) := by
  intro j
  induction j with
  | zero =>
    intro i n k h1 h2 h3
    obtain ⟨k, rfl⟩ : ∃ k', k = k' + 1 := ⟨k - 1, by omega⟩
    have hd : s.data.toList.drop i = [] := List.drop_eq_nil_of_le (by rw [Array.length_toList]; show s.size ≤ i; omega)
    rw [hd]
    refine ⟨?_, ?_⟩
    · rw [PTlvNumbers.tlv_ReadNum.l0, if_neg (show ¬ (i : Int) < (s.size : Int) by omega)]
      exact (apply_ite some _ _ _).symm
    · rw [PTlvNumbers.turnoutref06_ReadNum.l0, if_neg (show ¬ (i : Int) < (s.size : Int) by omega)]
      exact (apply_ite some _ _ _).symm
  | succ j ih =>
    intro i n k h1 h2 h3
    obtain ⟨k, rfl⟩ : ∃ k', k = k' + 1 := ⟨k - 1, by omega⟩
    have hi : i < s.data.toList.length := by rw [Array.length_toList]; show i < s.size; omega
    have hd : s.data.toList.drop i = s.data.toList[i] :: s.data.toList.drop (i + 1) := List.drop_eq_getElem_cons hi
    have hb : bt s (i : Int) = ((s.data.toList[i]).toNat : Int) := bt_get s i _ (List.getElem?_eq_getElem hi)
    generalize s.data.toList[i] = b at *
    have hb2 := b.toNat_lt
    have hp : (256 : Nat) ^ (i + 1) ≤ 18446744073709551616 := Nat.le_trans (Nat.pow_le_pow_right (by decide) (show i + 1 ≤ 8 by omega)) (by decide)
    have hn : n * 256 + b.toNat < 256 ^ (i + 1) := by rw [Nat.pow_succ]; omega
    have hlt : n * 256 + b.toNat < 18446744073709551616 := Nat.lt_of_lt_of_le hn hp
    have hw : wrap64 ((i : Int) + 1) = ((i + 1 : Nat) : Int) := by unfold wrap64; omega
    have c1 : (i : Int) < (s.size : Int) := by omega
    have c2 : (0 : Int) ≤ (i : Int) := by omega
    have o1 := u64_or n b.toNat (Nat.lt_of_le_of_lt (Nat.le_add_right _ _) hlt) hb2
    have o2 := u64_add n b.toNat hlt hb2
    rw [PTlvNumbers.tlv_ReadNum.l0, PTlvNumbers.turnoutref06_ReadNum.l0, if_pos c1, if_pos c2, if_pos c1, if_pos c1, if_pos c2, hb, o1, o2, hw, hd]
    exact ih (i + 1) (n * 256 + b.toNat) k (by clear hp hn hlt h2; omega) hn (by clear hp hn hlt h2; omega)
/-- What ReadNum tells. -/
def rnum (s : ByteArray) (top : Int) : Int × Int := if 8 < s.size then (0, 3) else match s.data.toList with
  | [] => fin top 0
  | b :: r => if b = 0 then (0, 3) else fin top (val 0 (b :: r))
theorem readnum_f (s : ByteArray) (top : Int) : PTlvNumbers.tlv_ReadNum.f 20 s top = some (rnum s top) ∧ PTlvNumbers.turnoutref06_ReadNum.f 20 s top = some (rnum s top) := by
  unfold PTlvNumbers.tlv_ReadNum.f PTlvNumbers.turnoutref06_ReadNum.f rnum
  by_cases h8 : 8 < s.size
  · rw [if_pos (show (s.size : Int) > 8 by omega), if_pos (show (s.size : Int) > 8 by omega), if_pos h8]
    exact ⟨rfl, rfl⟩
  · rw [if_neg (show ¬ (s.size : Int) > 8 by omega), if_neg (show ¬ (s.size : Int) > 8 by omega), if_neg h8]
    have hl := loops s top (by omega) s.size 0 0 19 (by omega) (by decide) (by omega)
    rw [Go.ByteArray.toList_eq]
    rw [List.drop_zero] at hl
    have hb0 := fun b r (h : s.data.toList = b :: r) => bt_get s 0 b (by rw [h]; rfl)
    have hsz : s.size = s.data.toList.length := by rw [Array.length_toList]; rfl
    generalize hL : s.data.toList = L at *
    cases L with
    | nil =>
      rw [if_pos rfl, if_pos rfl]
      exact hl
    | cons b r =>
      have hb := hb0 b r rfl
      have n1 : ¬ (b :: r = ([] : List UInt8)) := by simp
      have n2 : (0 : Int) < (s.size : Int) := by rw [hsz]; simp only [List.length_cons]; omega
      rw [if_neg n1, if_pos n2, if_neg n1, if_pos n2]
      by_cases hz : b = 0
      · subst hz
        have hb' : (bt s 0 == 0) = true := by rw [show bt s 0 = bt s ((0 : Nat) : Int) from rfl, hb]; rfl
        rw [hb']
        exact ⟨rfl, rfl⟩
      · have hb' : (bt s 0 == 0) = false := by
          rw [show bt s 0 = bt s ((0 : Nat) : Int) from rfl, hb]
          refine beq_eq_false_iff_ne.2 (fun h => hz ?_)
          have : b.toNat = 0 := by omega
          exact UInt8.toNat_inj.1 this
        rw [hb']
        simp only [if_neg hz]
        exact hl
theorem str_app (a b : List Int) : strOfNums (a ++ b) = strOfNums a ++ strOfNums b := by
  refine str_ext ?_
  have h : (strOfNums a ++ strOfNums b).data.toList = (strOfNums a).data.toList ++ (strOfNums b).data.toList := by simp
  rw [h, strOfNums_data, strOfNums_data, strOfNums_data, List.map_append]
theorem num_pos (n : Nat) (h : ¬ n = 0) : num n = num (n / 256) ++ [((n % 256 : Nat) : Int)] := by
  rw [num, if_neg h]
theorem num_len (n : Nat) : (num n).length ≤ n := by
  induction n using Nat.strongRecOn with
  | _ n ih =>
    rw [num]
    split
    · simp
    · have := ih (n / 256) (by omega)
      rw [List.length_append]
      simp only [List.length_cons, List.length_nil]
      omega
theorem num_f : ∀ (k n : Nat), n < 256 ^ k → n < 18446744073709551616 → PTlvNumbers.turnoutref06_Num.f (k + 1) (n : Int) = some (strOfNums (num n)) := by
  intro k
  induction k with
  | zero =>
    intro n h _
    obtain rfl : n = 0 := by omega
    rw [PTlvNumbers.turnoutref06_Num.f, if_pos (show ((0 : Nat) : Int) = 0 from rfl), num, if_pos rfl]
    rfl
  | succ k ih =>
    intro n h h2
    by_cases hz : n = 0
    · subst hz
      rw [PTlvNumbers.turnoutref06_Num.f, if_pos (show ((0 : Nat) : Int) = 0 from rfl), num, if_pos rfl]
      rfl
    · have e1 : IntKind.u64.wrap (Int.tdiv (n : Int) 256) = ((n / 256 : Nat) : Int) := by
        have : Int.tdiv (n : Int) 256 = ((n / 256 : Nat) : Int) := rfl
        rw [this]
        show (_ : Int) % 18446744073709551616 = _
        omega
      have e2 : Int.tmod (n : Int) 256 % 256 = ((n % 256 : Nat) : Int) := by
        have : Int.tmod (n : Int) 256 = ((n % 256 : Nat) : Int) := rfl
        rw [this]
        omega
      have hk : n / 256 < 256 ^ k := by rw [Nat.pow_succ] at h; omega
      have hi := ih (n / 256) hk (by omega)
      have hl := num_len (n / 256)
      rw [PTlvNumbers.turnoutref06_Num.f, if_neg (show ¬ (n : Int) = 0 by omega), e1, hi, e2, Option.bind_some, Option.bind_some, if_pos (by rw [strOfNums_size, strOfNums_size]; show _ + 1 ≤ 9223372036854775807; omega), num_pos n hz, str_app]
end Go.Proofs.Ytndbchigekbjaaa.Base
