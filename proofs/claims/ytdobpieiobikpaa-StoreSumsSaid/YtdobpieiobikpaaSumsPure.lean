/- A counter has as many packets as it was counted, and the sum of the bytes: the plain law. Plain lemmas; no condition. -/
import Derived.Test.YtdobpieiobikpaaAnewPure
set_option linter.unusedVariables false
set_option linter.unusedSimpArgs false
namespace Go.Proofs.Ytdobpieiobikpaa.Base
open Go Go.RowKit Go.Proofs.Ytdobpieiobikpaa.Mem Go.Proofs.YtdobpieiobikpaaW.PrintWords Go.Proofs.YtdobpieiobikpaaW.PrintLast
/-- Packets, and bytes, of what is counted: pairs of an ID and a number of bytes. -/
def cP (k : Int) : List (Int × Int) → Int
  | [] => 0
  | p :: r => (if p.1 = k ∧ 0 ≤ p.2 then 1 else 0) + cP k r
def cB (k : Int) : List (Int × Int) → Int
  | [] => 0
  | p :: r => (if p.1 = k ∧ 0 ≤ p.2 then p.2 else 0) + cB k r
theorem cP_app (k : Int) (a b : List (Int × Int)) : cP k (a ++ b) = cP k a + cP k b := by
  induction a with
  | nil => simp [cP]
  | cons p r ih => simp only [List.cons_append, cP, ih]; omega
theorem cB_app (k : Int) (a b : List (Int × Int)) : cB k (a ++ b) = cB k a + cB k b := by
  induction a with
  | nil => simp [cB]
  | cons p r ih => simp only [List.cons_append, cB, ih]; omega
theorem cP_swap (k : Int) (q : List (Int × Int)) (p : Int × Int) : cP k (q ++ [p]) = cP k (p :: q) := by
  rw [cP_app]; simp only [cP]; omega
theorem cB_swap (k : Int) (q : List (Int × Int)) (p : Int × Int) : cB k (q ++ [p]) = cB k (p :: q) := by
  rw [cB_app]; simp only [cB]; omega
/-- The store that has counted these. -/
def sumS (q : List (Int × Int)) : St := ⟨[(1, (u64w (cP 1 q), u64w (cB 1 q))), (2, (u64w (cP 2 q), u64w (cB 2 q)))], [(1, [0]), (2, [0])]⟩
theorem made_sum : madeS 1 1 = sumS [] := by
  unfold madeS sumS
  simp [putC, putR, St.nil, lookE, putE, cP, cB, u64w]
theorem sumS_swap (q : List (Int × Int)) (p : Int × Int) : sumS (q ++ [p]) = sumS (p :: q) := by
  unfold sumS
  rw [cP_swap, cP_swap, cB_swap, cB_swap]
theorem u64w_sum (a b : Int) : u64w (u64w a + b) = u64w (b + a) := by unfold u64w; omega
theorem u64w_sum1 (a : Int) : u64w (u64w a + 1) = u64w (1 + a) := u64w_sum a 1
theorem sum_cnt (q : List (Int × Int)) (k n : Int) (h : k = 1 ∨ k = 2) : cnt (sumS q) k n = (if n < 0 then 1 else 0, sumS ((k, n) :: q)) := by
  rcases h with rfl | rfl
  · unfold cnt sumS
    by_cases hn : n < 0
    · have h0 : ¬ 0 ≤ n := by omega
      simp [lookE, hn, cP, cB, h0]
    · have h0 : 0 ≤ n := by omega
      simp [lookE, putE, hn, cP, cB, h0, u64w_sum]
  · unfold cnt sumS
    by_cases hn : n < 0
    · have h0 : ¬ 0 ≤ n := by omega
      simp [lookE, hn, cP, cB, h0]
    · have h0 : 0 ≤ n := by omega
      simp [lookE, putE, hn, cP, cB, h0, u64w_sum]
theorem sum_get (q : List (Int × Int)) (k : Int) (h : k = 1 ∨ k = 2) : getC (sumS q) k = (u64w (cP k q), u64w (cB k q), 0) := by
  rcases h with rfl | rfl <;> simp [getC, sumS, lookE]
theorem cP_pos (k : Int) (q : List (Int × Int)) : 0 ≤ cP k q ∧ cP k q ≤ q.length := by
  induction q with
  | nil => simp [cP]
  | cons p r ih => simp only [cP, List.length_cons]; split <;> omega
theorem cB_none (k : Int) (q : List (Int × Int)) (h : cP k q = 0) : cB k q = 0 := by
  induction q with
  | nil => rfl
  | cons p r ih =>
    have := (cP_pos k r).1
    simp only [cP] at h
    simp only [cB]
    split at h
    · omega
    · next hc => rw [if_neg hc, ih (by omega)]; rfl
theorem sum_end (q : List (Int × Int)) (h : q.length ≤ 300) : sameS (sumS q) (sumS []) = (u64w (u64w (cP 1 q) + u64w (cP 2 q)) == 0) := by
  have h1 := cP_pos 1 q
  have h2 := cP_pos 2 q
  by_cases hz : u64w (u64w (cP 1 q) + u64w (cP 2 q)) = 0
  · have z1 : cP 1 q = 0 := by unfold u64w at hz; omega
    have z2 : cP 2 q = 0 := by unfold u64w at hz; omega
    have e : sumS q = sumS [] := by
      unfold sumS
      rw [z1, z2, cB_none 1 q z1, cB_none 2 q z2]
      rfl
    rw [e, sameS_self, beq_iff_eq.2 hz]
  · rw [beq_eq_false_iff_ne.2 hz]
    unfold sameS
    have : sameL (sumS q).c (sumS []).c = false := by
      unfold sameL
      refine decide_eq_false (fun e => hz ?_)
      have g1 := e.2 1 (by simp [sumS, keys])
      have g2 := e.2 2 (by simp [sumS, keys])
      simp [sumS, lookE, cP, cB] at g1 g2
      rw [← g1.1, ← g2.1]
      decide
    rw [this]
    rfl
/-- What is counted in round i. -/
def toId (b : Bool) : Int := if b then 2 else 1
def pairs (l : List Int) (t : List Bool) : List (Int × Int) := l.mapIdx fun i n => (toId (t.getD i false), n)
theorem pairs_len (l : List Int) (t : List Bool) : (pairs l t).length = l.length := by unfold pairs; simp
theorem pairs_at (l : List Int) (t : List Bool) (i : Nat) (h : i < l.length) : (pairs l t)[i]'(by rw [pairs_len]; exact h) = (toId (t.getD i false), l[i]) := by unfold pairs; simp
theorem pairs_take (l : List Int) (t : List Bool) (i : Nat) (h : i < l.length) : (pairs l t).take (i + 1) = (pairs l t).take i ++ [(toId (t.getD i false), l[i])] := by
  rw [List.take_succ_eq_append_getElem (by rw [pairs_len]; exact h), pairs_at l t i h]
theorem pairs_drop (l : List Int) (t : List Bool) (i : Nat) (h : i < l.length) : (pairs l t).drop i = (toId (t.getD i false), l[i]) :: (pairs l t).drop (i + 1) := by
  rw [← pairs_at l t i h]
  exact List.drop_eq_getElem_cons (by rw [pairs_len]; exact h)
/-- The statement's own two rows. -/
def arrP (q : List (Int × Int)) : Array Value := #[.int .u64 0, .int .u64 (u64w (cP 1 q)), .int .u64 (u64w (cP 2 q))]
def arrB (q : List (Int × Int)) : Array Value := #[.int .u64 0, .int .u64 (u64w (cB 1 q)), .int .u64 (u64w (cB 2 q))]
theorem arrP_neg (q : List (Int × Int)) (k n : Int) (h : n < 0) : arrP (q ++ [(k, n)]) = arrP q := by
  have h0 : ¬ 0 ≤ n := by omega
  unfold arrP
  rw [cP_swap, cP_swap]
  simp [cP, h0]
theorem arrB_neg (q : List (Int × Int)) (k n : Int) (h : n < 0) : arrB (q ++ [(k, n)]) = arrB q := by
  have h0 : ¬ 0 ≤ n := by omega
  unfold arrB
  rw [cB_swap, cB_swap]
  simp [cB, h0]
theorem arrP_1 (q : List (Int × Int)) (n : Int) (h : 0 ≤ n) : arrP (q ++ [(1, n)]) = (arrP q).setIfInBounds 1 (.int .u64 (u64w (u64w (cP 1 q) + 1))) := by
  unfold arrP
  rw [cP_swap, cP_swap]
  simp [cP, h, u64w_sum1]
theorem arrP_2 (q : List (Int × Int)) (n : Int) (h : 0 ≤ n) : arrP (q ++ [(2, n)]) = (arrP q).setIfInBounds 2 (.int .u64 (u64w (u64w (cP 2 q) + 1))) := by
  unfold arrP
  rw [cP_swap, cP_swap]
  simp [cP, h, u64w_sum1]
theorem arrB_1 (q : List (Int × Int)) (n : Int) (h : 0 ≤ n) : arrB (q ++ [(1, n)]) = (arrB q).setIfInBounds 1 (.int .u64 (u64w (u64w (cB 1 q) + n))) := by
  unfold arrB
  rw [cB_swap, cB_swap]
  simp [cB, h, u64w_sum]
theorem arrB_2 (q : List (Int × Int)) (n : Int) (h : 0 ≤ n) : arrB (q ++ [(2, n)]) = (arrB q).setIfInBounds 2 (.int .u64 (u64w (u64w (cB 2 q) + n))) := by
  unfold arrB
  rw [cB_swap, cB_swap]
  simp [cB, h, u64w_sum]
theorem arr_id (b : Bool) (q : List (Int × Int)) (n : Int) (h : 0 ≤ n) : ∃ (j : Nat) (x y : Int), toId b = (j : Int) ∧ j < 3 ∧ (arrP q)[j]? = some (.int .u64 x) ∧ (arrB q)[j]? = some (.int .u64 y) ∧
    arrP (q ++ [(toId b, n)]) = (arrP q).setIfInBounds j (.int .u64 (u64w (x + 1))) ∧ arrB (q ++ [(toId b, n)]) = (arrB q).setIfInBounds j (.int .u64 (u64w (y + n))) := by
  cases b with
  | false => exact ⟨1, _, _, rfl, by decide, rfl, rfl, arrP_1 q n h, arrB_1 q n h⟩
  | true => exact ⟨2, _, _, rfl, by decide, rfl, rfl, arrP_2 q n h, arrB_2 q n h⟩
end Go.Proofs.Ytdobpieiobikpaa.Base
