/- The order of numbers' bytes: plain lemmas. No condition. -/
import Derived.Test.YtndbchigekbjaaaRead
set_option linter.unusedVariables false
set_option linter.unusedSimpArgs false
namespace Go.Proofs.Ytndbchigekbjaaa.Base
open Go Go.RowKit Go.Proofs.YtndbchigekbjaaaW.PrintWords
/-- The bytes of a number, as bytes. -/
def nb (n : Nat) : List UInt8 := (num n).map fun x => UInt8.ofNat x.toNat
theorem nb_data (n : Nat) : (strOfNums (num n)).data.toList = nb n := rfl
theorem nb_toList (n : Nat) : (strOfNums (num n)).toList = nb n := by rw [Go.ByteArray.toList_eq]; rfl
theorem nb_size (n : Nat) : (strOfNums (num n)).size = (nb n).length := by rw [strOfNums_size, nb, List.length_map]
theorem nb_0 : nb 0 = [] := by rw [nb, num, if_pos rfl]; rfl
theorem nb_pos (n : Nat) (h : ¬ n = 0) : nb n = nb (n / 256) ++ [UInt8.ofNat (n % 256)] := by
  rw [nb, num_pos n h, List.map_append]
  rfl
theorem val_app (n : Nat) (s t : List UInt8) : val n (s ++ t) = val (val n s) t := List.foldl_append
theorem val_one (n : Nat) (b : UInt8) : val n [b] = n * 256 + b.toNat := rfl
theorem val_nb (n : Nat) : val 0 (nb n) = n := by
  induction n using Nat.strongRecOn with
  | _ n ih =>
    by_cases h : n = 0
    · subst h; rw [nb_0]; rfl
    · rw [nb_pos n h, val_app, ih (n / 256) (by omega), val_one, UInt8.toNat_ofNat_of_lt' (show n % 256 < 256 by omega)]
      omega
theorem nb_len (k : Nat) : ∀ n, n < 256 ^ k → (nb n).length ≤ k := by
  induction k with
  | zero => intro n h; obtain rfl : n = 0 := by omega
            rw [nb_0]; exact Nat.le_refl _
  | succ k ih =>
    intro n h
    by_cases hz : n = 0
    · subst hz; rw [nb_0]; exact Nat.zero_le _
    · have := ih (n / 256) (by rw [Nat.pow_succ] at h; omega)
      rw [nb_pos n hz, List.length_append]
      simp only [List.length_cons, List.length_nil]
      omega
theorem nb_head (n : Nat) (h : ¬ n = 0) : ∃ b r, nb n = b :: r ∧ b ≠ 0 := by
  induction n using Nat.strongRecOn with
  | _ n ih =>
    rw [nb_pos n h]
    by_cases hz : n / 256 = 0
    · rw [hz, nb_0]
      refine ⟨_, [], rfl, fun hb => ?_⟩
      have : (UInt8.ofNat (n % 256)).toNat = 0 := by rw [hb]; rfl
      rw [UInt8.toNat_ofNat_of_lt' (show n % 256 < 256 by omega)] at this
      omega
    · obtain ⟨b, r, e, hb⟩ := ih (n / 256) (by omega) hz
      rw [e]
      exact ⟨b, _, rfl, hb⟩
theorem val_mul : ∀ (s : List UInt8) (n : Nat), val n s = n * 256 ^ s.length + val 0 s
  | [], n => by simp [val]
  | b :: r, n => by
    have h1 := val_mul r (n * 256 + b.toNat)
    have h2 := val_mul r b.toNat
    show val (n * 256 + b.toNat) r = n * 256 ^ (r.length + 1) + val (0 * 256 + b.toNat) r
    rw [h1, Nat.zero_mul, Nat.zero_add, h2, Nat.pow_succ, Nat.add_mul, Nat.mul_assoc, Nat.mul_comm 256, Nat.add_assoc]
theorem val_lt : ∀ (s : List UInt8), val 0 s < 256 ^ s.length
  | [] => by simp [val]
  | b :: r => by
    have h2 := val_mul r b.toNat
    have h3 := val_lt r
    have hb := b.toNat_lt
    show val (0 * 256 + b.toNat) r < 256 ^ (r.length + 1)
    rw [Nat.zero_mul, Nat.zero_add, h2, Nat.pow_succ]
    have : b.toNat * 256 ^ r.length ≤ 255 * 256 ^ r.length := Nat.mul_le_mul_right _ (by omega)
    omega
theorem val_cons (b : UInt8) (r : List UInt8) : val 0 (b :: r) = b.toNat * 256 ^ r.length + val 0 r := by
  show val (0 * 256 + b.toNat) r = _
  rw [Nat.zero_mul, Nat.zero_add, val_mul]
theorem less_val : ∀ (x y : List UInt8), x.length = y.length → (Op.bytesLess x y = true ↔ val 0 x < val 0 y)
  | [], [], _ => by simp [Op.bytesLess]
  | a :: x, b :: y, h => by
    have hl : x.length = y.length := by simpa using h
    have ih := less_val x y hl
    rw [val_cons, val_cons, hl, Op.bytesLess]
    have hx := val_lt x
    have hy := val_lt y
    rw [hl] at hx
    simp only [Bool.or_eq_true, Bool.and_eq_true, decide_eq_true_eq, beq_iff_eq, ih]
    generalize 256 ^ y.length = P at *
    constructor
    · rintro (h | ⟨rfl, h⟩)
      · have : a.toNat + 1 ≤ b.toNat := h
        have h2 := Nat.mul_le_mul_right P this
        rw [Nat.add_mul] at h2
        omega
      · omega
    · intro h
      rcases Nat.lt_trichotomy a.toNat b.toNat with h1 | h1 | h1
      · exact .inl h1
      · have : a = b := UInt8.toNat_inj.1 h1
        subst this
        exact .inr ⟨rfl, by omega⟩
      · exfalso
        have h2 := Nat.mul_le_mul_right P (show b.toNat + 1 ≤ a.toNat from h1)
        rw [Nat.add_mul] at h2
        omega
  | [], _ :: _, h => by simp at h
  | _ :: _, [], h => by simp at h
theorem nb_longer (a b : Nat) (h : (nb a).length < (nb b).length) : a < b := by
  have hb : ¬ b = 0 := by rintro rfl; rw [nb_0] at h; simp at h
  obtain ⟨y, r, e, hy⟩ := nb_head b hb
  have h1 := val_lt (nb a)
  rw [val_nb] at h1
  have h2 := val_cons y r
  rw [← e, val_nb] at h2
  have hy1 : 1 ≤ y.toNat := by
    rcases Nat.eq_zero_or_pos y.toNat with h0 | h0
    · exact absurd (UInt8.toNat_inj.1 h0) hy
    · exact h0
  have h3 := Nat.mul_le_mul_right (256 ^ r.length) hy1
  have h4 : (nb a).length ≤ r.length := by rw [e] at h; simp only [List.length_cons] at h; omega
  have h5 : (256 : Nat) ^ (nb a).length ≤ 256 ^ r.length := Nat.pow_le_pow_right (by decide) h4
  generalize (256 : Nat) ^ r.length = P at *
  omega
theorem nb_inj {a b : Nat} (h : nb a = nb b) : a = b := by rw [← val_nb a, h, val_nb]
theorem nb_less (a b : Nat) (h : (nb a).length = (nb b).length) : Op.bytesLess (nb a) (nb b) = decide (a < b) := by
  have := less_val (nb a) (nb b) h
  rw [val_nb, val_nb] at this
  by_cases hab : a < b
  · rw [this.2 hab, decide_eq_true hab]
  · rw [decide_eq_false hab]
    exact Bool.eq_false_iff.2 (fun h => hab (this.1 h))
/-- ReadNum of Num. -/
theorem rnum_nb (a : Nat) (ha : a < 18446744073709551616) (top : Int) : rnum (strOfNums (num a)) top = fin top a := by
  have hl := nb_len 8 a ha
  rw [rnum, if_neg (by rw [nb_size]; omega), nb_data]
  by_cases h : a = 0
  · subst h
    rw [nb_0]
  · obtain ⟨b, r, e, hb⟩ := nb_head a h
    have hv := val_nb a
    rw [e] at hv ⊢
    simp only [if_neg hb]
    rw [hv]
end Go.Proofs.Ytndbchigekbjaaa.Base
