/- The hash of any texts, of more behind any, any number mixed, and mixed back, are the reference's: the plain law over the printed functions. Conditions: sizes within the row's reach. -/
import Derived.Test.YtjkjlkmhaebpcaaPHashTellsx2
import Derived.Test.YtjkjlkmhaebpcaaMath
namespace Go.Proofs.Ytjkjlkmhaebpcaa.Tells
open Go Go.RowKit Go.Proofs.Ytjkjlkmhaebpcaa.PHashTells Go.Proofs.YtjkjlkmhaebpcaaW.PrintWords Go.Proofs.YtjkjlkmhaebpcaaW.PrintLast Go.Proofs.YtjkjlkmhaebpcaaW.PrintMore Go.Proofs.Ytjkjlkmhaebpcaa.Math
set_option linter.unusedVariables false
theorem awake_some (k : Nat) (h : 20 ≤ k) : turnoutlaw04_awake.f k = some true := at_rounds turnoutlaw04_awake.mono h (by decide +kernel)
theorem more_l (s : ByteArray) (hs : s.size ≤ 140737488351232) (d : Nat) : ∀ (k i : Nat) (x : Int), i + d = s.size → d < k →
    hash_More.l0 k x s (s.size : Int) (i : Int) = some (fnv x (s.data.toList.drop i)) := by
  induction d with
  | zero =>
    intro k i x hi hk
    obtain ⟨k, rfl⟩ : ∃ m, k = m + 1 := ⟨k - 1, by omega⟩
    simp only [hash_More.l0]
    rw [if_neg (by omega), List.drop_eq_nil_of_le (by simp; omega)]
    rfl
  | succ d ih =>
    intro k i x hi hk
    obtain ⟨k, rfl⟩ : ∃ m, k = m + 1 := ⟨k - 1, by omega⟩
    simp only [hash_More.l0]
    rw [if_pos (by omega), if_pos (by omega), if_pos (by omega), wrap_next (n := s.size) (by omega), fnv_drop s i x (by omega)]
    exact ih k (i + 1) _ (by omega) (by omega)
theorem more_some (s : ByteArray) (hs : s.size ≤ 140737488351232) (k : Nat) (x : Int) (hk : s.size < k) : hash_More.f k x s = some (fnv x s.data.toList) := by
  unfold hash_More.f
  rw [show ((0 : Int)) = ((0 : Nat) : Int) from rfl, more_l s hs s.size k 0 x (by omega) hk, List.drop_zero]
theorem of_l (l : List ByteArray) (M : Nat) (hM : M ≤ 140737488351232) (hs : ∀ s ∈ l, s.size ≤ M) (hl : l.length ≤ 140737488351232) (d : Nat) : ∀ (k i : Nat) (x : Int), i + d = l.length → d + M + 1 < k →
    hash_Of.l0 k x l (l.length : Int) (i : Int) = some (fnvs x (l.drop i)) := by
  induction d with
  | zero =>
    intro k i x hi hk
    obtain ⟨k, rfl⟩ : ∃ m, k = m + 1 := ⟨k - 1, by omega⟩
    simp only [hash_Of.l0]
    rw [if_neg (by omega), List.drop_eq_nil_of_le (by omega)]
    rfl
  | succ d ih =>
    intro k i x hi hk
    obtain ⟨k, rfl⟩ : ∃ m, k = m + 1 := ⟨k - 1, by omega⟩
    have hi' : i < l.length := by omega
    have hm : l[i] ∈ l := List.getElem_mem hi'
    have := hs _ hm
    simp only [hash_Of.l0]
    rw [if_pos (by omega), if_pos (by omega), if_pos (by omega), wrap_next (n := l.length) (by omega), rdOf_at l i hi', more_some _ (by omega) k x (by omega), Option.bind_some, fnvs_drop l i x hi']
    exact ih k (i + 1) _ (by omega) (by omega)
theorem of_some (l : List ByteArray) (M : Nat) (hM : M ≤ 140737488351232) (hs : ∀ s ∈ l, s.size ≤ M) (hl : l.length ≤ 140737488351232) (k : Nat) (hk : l.length + M + 1 < k) : hash_Of.f k l = some (fnvs 2166136261 l) := by
  unfold hash_Of.f
  rw [show ((0 : Int)) = ((0 : Nat) : Int) from rfl, of_l l M hM hs hl l.length k 0 _ (by omega) hk, List.drop_zero]
theorem refmore_l (s : ByteArray) (hs : s.size ≤ 140737488351232) (d : Nat) : ∀ (k i : Nat) (x : Int), i + d = s.size → d < k →
    turnoutref04_More.l0 k x s (i : Int) = some (fnv x (s.data.toList.drop i)) := by
  induction d with
  | zero =>
    intro k i x hi hk
    obtain ⟨k, rfl⟩ : ∃ m, k = m + 1 := ⟨k - 1, by omega⟩
    simp only [turnoutref04_More.l0]
    rw [if_neg (by omega), List.drop_eq_nil_of_le (by simp; omega)]
    rfl
  | succ d ih =>
    intro k i x hi hk
    obtain ⟨k, rfl⟩ : ∃ m, k = m + 1 := ⟨k - 1, by omega⟩
    simp only [turnoutref04_More.l0]
    rw [if_pos (by omega), if_pos (by omega), wrap_next (n := s.size) (by omega), fnv_drop s i x (by omega)]
    exact ih k (i + 1) _ (by omega) (by omega)
theorem refmore_some (s : ByteArray) (hs : s.size ≤ 140737488351232) (k : Nat) (x : Int) (hk : s.size < k) : turnoutref04_More.f k x s = some (fnv x s.data.toList) := by
  unfold turnoutref04_More.f
  rw [show ((0 : Int)) = ((0 : Nat) : Int) from rfl, refmore_l s hs s.size k 0 x (by omega) hk, List.drop_zero]
theorem refof_l (l : List ByteArray) (M : Nat) (hM : M ≤ 140737488351232) (hs : ∀ s ∈ l, s.size ≤ M) (hl : l.length ≤ 140737488351232) (d : Nat) : ∀ (k i : Nat) (x : Int), i + d = l.length → d + M + 1 < k →
    turnoutref04_Of.l0 k l x (i : Int) = some (fnvs x (l.drop i)) := by
  induction d with
  | zero =>
    intro k i x hi hk
    obtain ⟨k, rfl⟩ : ∃ m, k = m + 1 := ⟨k - 1, by omega⟩
    simp only [turnoutref04_Of.l0]
    rw [if_neg (by omega), List.drop_eq_nil_of_le (by omega)]
    rfl
  | succ d ih =>
    intro k i x hi hk
    obtain ⟨k, rfl⟩ : ∃ m, k = m + 1 := ⟨k - 1, by omega⟩
    have hi' : i < l.length := by omega
    have hm : l[i] ∈ l := List.getElem_mem hi'
    have := hs _ hm
    simp only [turnoutref04_Of.l0]
    rw [if_pos (by omega), if_pos (by omega), wrap_next (n := l.length) (by omega), rdOf_at l i hi', refmore_some _ (by omega) k x (by omega), Option.bind_some, fnvs_drop l i x hi']
    exact ih k (i + 1) _ (by omega) (by omega)
theorem refof_some (l : List ByteArray) (M : Nat) (hM : M ≤ 140737488351232) (hs : ∀ s ∈ l, s.size ≤ M) (hl : l.length ≤ 140737488351232) (k : Nat) (hk : l.length + M + 1 < k) : turnoutref04_Of.f k l = some (fnvs 2166136261 l) := by
  unfold turnoutref04_Of.f
  rw [show ((0 : Int)) = ((0 : Nat) : Int) from rfl, refof_l l M hM hs hl l.length k 0 _ (by omega) hk, List.drop_zero]
theorem large_l (l : List ByteArray) (hl : l.length ≤ 140737488351232) (d : Nat) : ∀ (k i : Nat) (n : Int), i + d = l.length → d < k → ∃ r, turnoutlaw04_large.l0 k l n (i : Int) = some r := by
  induction d with
  | zero =>
    intro k i n hi hk
    obtain ⟨k, rfl⟩ : ∃ m, k = m + 1 := ⟨k - 1, by omega⟩
    simp only [turnoutlaw04_large.l0]
    rw [if_neg (by omega)]
    exact ⟨_, rfl⟩
  | succ d ih =>
    intro k i n hi hk
    obtain ⟨k, rfl⟩ : ∃ m, k = m + 1 := ⟨k - 1, by omega⟩
    simp only [turnoutlaw04_large.l0]
    rw [if_pos (by omega)]
    by_cases hn : n < 5000
    · rw [if_pos hn, if_pos (by omega), wrap_next (n := l.length) (by omega)]
      exact ih k (i + 1) _ (by omega) (by omega)
    · rw [if_neg hn]
      exact ⟨_, rfl⟩
theorem large_some (l : List ByteArray) (hl : l.length ≤ 140737488351232) (k : Nat) (hk : l.length < k) : ∃ r, turnoutlaw04_large.f k l = some r := by
  unfold turnoutlaw04_large.f
  rw [show turnoutlaw04_large.l0 k l 0 0 = turnoutlaw04_large.l0 k l 0 ((0 : Nat) : Int) from rfl]
  exact large_l l hl l.length k 0 0 (by omega) hk
theorem tdiv_n (n : Nat) (h : n < 4294967296) : Int.tdiv (n : Int) 65536 % 4294967296 = (n : Int) / 65536 := by
  rw [Int.tdiv_eq_ediv_of_nonneg (by omega)]
  omega
theorem refmix_same (n : Nat) (h : n < 4294967296) : turnoutref04_Mix.f (n : Int) = hash_Mix.f (n : Int) := by
  unfold turnoutref04_Mix.f hash_Mix.f
  rw [tdiv_n n h]
theorem inv_a (k : Nat) (h : 40 ≤ k) : turnoutref04_inverse.f k 3266489909 = some 2127672349 := at_rounds (turnoutref04_inverse.mono _) h (by decide +kernel)
theorem inv_b (k : Nat) (h : 40 ≤ k) : turnoutref04_inverse.f k 2246822507 = some 2781581891 := at_rounds (turnoutref04_inverse.mono _) h (by decide +kernel)
theorem back_eq (a : Int) : hash_Back.f a = some (Go.bits .xor .u32 (((Go.bits .xor .u32 (((Go.bits .xor .u32 a (a / 65536)) * 2127672349) % 4294967296) (Go.bits .xor .u32 ((((Go.bits .xor .u32 a (a / 65536)) * 2127672349) % 4294967296) / 8192) ((((Go.bits .xor .u32 a (a / 65536)) * 2127672349) % 4294967296) / 67108864))) * 2781581891) % 4294967296) ((((Go.bits .xor .u32 (((Go.bits .xor .u32 a (a / 65536)) * 2127672349) % 4294967296) (Go.bits .xor .u32 ((((Go.bits .xor .u32 a (a / 65536)) * 2127672349) % 4294967296) / 8192) ((((Go.bits .xor .u32 a (a / 65536)) * 2127672349) % 4294967296) / 67108864))) * 2781581891) % 4294967296) / 65536)) := rfl
theorem xor3 (a : Int) (h : 0 ≤ a) (h' : a < 4294967296) : Go.bits .xor .u32 (Go.bits .xor .u32 a (a / 8192)) (a / 67108864) = Go.bits .xor .u32 a (Go.bits .xor .u32 (a / 8192) (a / 67108864)) := by
  obtain ⟨n, rfl⟩ := Int.eq_ofNat_of_zero_le h
  have c3 : (n : Int) / 8192 = ((n / 8192 : Nat) : Int) := by omega
  have c3' : (n : Int) / 67108864 = ((n / 67108864 : Nat) : Int) := by omega
  rw [c3, c3', u32x n (n / 8192) (by omega) (by omega), u32x (n / 8192) (n / 67108864) (by omega) (by omega), u32x (n ^^^ n / 8192) (n / 67108864) (xlt _ _ (by omega) (by omega)) (by omega), u32x n (n / 8192 ^^^ n / 67108864) (by omega) (xlt _ _ (by omega) (by omega)), Nat.xor_assoc]
theorem refback_same (k : Nat) (hk : 40 ≤ k) (n : Nat) (h : n < 4294967296) : turnoutref04_Back.f k (n : Int) = hash_Back.f (n : Int) := by
  unfold turnoutref04_Back.f
  rw [inv_a k hk, Option.bind_some, inv_b k hk, Option.bind_some, tdiv_n n h, back_eq, xor3 _ (by omega) (by omega)]
theorem loop_some (l : List ByteArray) (h : Int) (M : Nat) (hM : M ≤ 140737488351232) (hs : ∀ s ∈ l, s.size ≤ M) (hl : l.length ≤ 140737488351232) (d : Nat) : ∀ (k i : Nat), i + d = l.length → d + M + 40 < k →
    turnoutlaw04_HashTells.l0 k l h (i : Int) = some true := by
  induction d with
  | zero =>
    intro k i hi hk
    obtain ⟨k, rfl⟩ : ∃ m, k = m + 1 := ⟨k - 1, by omega⟩
    simp only [turnoutlaw04_HashTells.l0]
    rw [if_neg (by omega), awake_some k (by omega)]
    rfl
  | succ d ih =>
    intro k i hi hk
    obtain ⟨k, rfl⟩ : ∃ m, k = m + 1 := ⟨k - 1, by omega⟩
    have hi' : i < l.length := by omega
    have := hs _ (List.getElem_mem hi')
    simp only [turnoutlaw04_HashTells.l0]
    rw [if_pos (by omega), if_pos (by omega), wrap_next (n := l.length) (by omega), rdOf_at l i hi', more_some _ (by omega) k h (by omega), Option.bind_some, refmore_some _ (by omega) k h (by omega), Option.bind_some, if_pos rfl]
    exact ih k (i + 1) (by omega) (by omega)
theorem tells (l : List ByteArray) (h : Int) (hl : l.length ≤ 140737488351232) (hs : ∀ s ∈ l, s.size ≤ 140737488351232) (h0 : 0 ≤ h) (h1 : h < 4294967296) : ∃ k, turnoutlaw04_HashTells.f k l h = some true := by
  obtain ⟨n, rfl⟩ := Int.eq_ofNat_of_zero_le h0
  obtain ⟨K, hK⟩ : ∃ K, l.length + 140737488351232 + 60 < K := ⟨_, Nat.lt_succ_self _⟩
  refine ⟨K + 1, ?_⟩
  unfold turnoutlaw04_HashTells.f
  obtain ⟨r, hr⟩ := large_some l hl (K + 1) (by omega)
  rw [hr, Option.bind_some]
  cases r with
  | true => rw [if_pos rfl, awake_some _ (by omega)]; rfl
  | false =>
    rw [if_neg (by decide), of_some l 140737488351232 (by omega) hs hl _ (by omega), Option.bind_some, refof_some l 140737488351232 (by omega) hs hl _ (by omega), Option.bind_some, if_pos rfl, refmix_same n (by omega), refback_same _ (by omega) n (by omega)]
    obtain ⟨x, hx⟩ : ∃ x, hash_Mix.f (n : Int) = some x := ⟨_, rfl⟩
    obtain ⟨y, hy⟩ : ∃ x, hash_Back.f (n : Int) = some x := ⟨_, rfl⟩
    rw [hx, hy, Option.bind_some, Option.bind_some, if_pos rfl, Option.bind_some, Option.bind_some, bne_self_eq_false]
    simp only [turnoutlaw04_HashTells.j0]
    rw [if_neg (by decide)]
    exact loop_some l n 140737488351232 (by omega) hs hl l.length _ 0 (by omega) (by omega)
theorem core (A : Option Addr) (c : Nat) (l : List ByteArray) (h : Int) (w : World) (hc : l.length ≤ c) (hm : l.length * 16 ≤ 140737488351232) (hs : ∀ s ∈ l, s.size ≤ 140737488351232) (hr : Kd.string.C w A l.length l) (hh : (Lit.int .u32 h).wf = true) :
    Calls Try.prog 7 #[.slice A l.length c, .int .u32 h] w fun e w' => e = .returned (.bool true) ∧ Below w.heap.size w w' := by
  obtain ⟨k, hk⟩ := tells l h (by omega) hs (wf_u32 hh).1 (wf_u32 hh).2
  exact turnoutlaw04_HashTells.calls k A c l h true w hr hc hk
end Go.Proofs.Ytjkjlkmhaebpcaa.Tells
