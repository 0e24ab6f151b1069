/- What a statement over sets asks besides: long acts, rows alike, the best one by its place. Conditions: as each contract says. -/
import Derived.Test.YtedbnppdfcljlaaGrown
set_option linter.unusedVariables false
set_option linter.unusedSimpArgs false
namespace Go.Proofs.Ytedbnppdfcljlaa.Base
open Go Go.RowKit Go.Proofs.Ytedbnppdfcljlaa.Mem Go.Proofs.YtedbnppdfcljlaaW.PrintWords Go.Proofs.YtedbnppdfcljlaaW.PrintLast
open Go.Proofs.Ytedbnppdfcljlaa.PRangMore (S42 S51 z42 z51 k42 k51 k42_open k51_open eqA42 rd_T42 rd_T51)
open Go.Proofs.Ytedbnppdfcljlaa
theorem mn_nat (s : Nat) : ∃ m : Nat, mn 6000 (s : Int) = (m : Int) ∧ m ≤ 6000 := by
  by_cases h : (s : Int) < 6000
  · refine ⟨s, ?_, by omega⟩
    simp [mn, h]
  · refine ⟨6000, ?_, by omega⟩
    simp [mn, h]
theorem w64 (x : Nat) (h : x < 4000000000000000000) : wrap64 (x : Int) = (x : Int) := by unfold wrap64; omega
theorem w64s (n a b : Nat) (h : n ≤ 30000) (ha : a ≤ 6000) (hb : b ≤ 6000) : wrap64 (wrap64 (wrap64 ((n : Int) + 20) + (a : Int)) + (b : Int)) = ((n + 20 + a + b : Nat) : Int) := by
  rw [show ((n : Int) + 20) = ((n + 20 : Nat) : Int) from by omega, w64 _ (by omega), show (((n + 20 : Nat) : Int) + (a : Int)) = ((n + 20 + a : Nat) : Int) from by omega, w64 _ (by omega), show (((n + 20 + a : Nat) : Int) + (b : Int)) = ((n + 20 + a + b : Nat) : Int) from by omega, w64 _ (by omega)]
theorem long_l (l : List S51) (hl : l.length < 1000000000000000) : ∀ (j i n k : Nat), l.length = i + j → n ≤ 30000 → j < k → 20 * i ≤ n →
    ∃ r, PRangMore.turnoutlaw13_long.l0 k l (n : Int) (i : Int) = some r ∧ (r = false → l.length ≤ 300) := by
  intro j
  induction j with
  | zero =>
    intro i n k h1 h2 h3 h4
    obtain ⟨k, rfl⟩ : ∃ k', k = k' + 1 := ⟨k - 1, by omega⟩
    have c1 : ¬ (i : Int) < (l.length : Int) := by omega
    rw [PRangMore.turnoutlaw13_long.l0, if_neg c1]
    exact ⟨_, rfl, fun h => by have := of_decide_eq_false h; omega⟩
  | succ j ih =>
    intro i n k h1 h2 h3 h4
    obtain ⟨k, rfl⟩ : ∃ k', k = k' + 1 := ⟨k - 1, by omega⟩
    have hi : i < l.length := by omega
    have c1 : (i : Int) < (l.length : Int) := by omega
    have c2 : (0 : Int) ≤ (i : Int) := by omega
    have hw : wrap64 ((i : Int) + 1) = ((i + 1 : Nat) : Int) := by unfold wrap64; omega
    rw [PRangMore.turnoutlaw13_long.l0, if_pos c1]
    by_cases c : (n : Int) < 6000
    · obtain ⟨m1, e1, e2⟩ := mn_nat (rd_T51 l (i : Int)).f1.size
      obtain ⟨m2, e3, e4⟩ := mn_nat (rd_T51 l (i : Int)).f2.size
      have hw2 := w64s n m1 m2 h2 e2 e4
      rw [if_pos c, if_pos c2, e1, e3, hw2, hw]
      clear e1 e3 hw2 hw
      exact ih (i + 1) (n + 20 + m1 + m2) k (by omega) (by omega) (by omega) (by omega)
    · rw [if_neg c]
      clear hw
      exact ⟨_, rfl, fun h => by have := of_decide_eq_false h; omega⟩
theorem long_any (A0 : Option Addr) (c0 : Nat) (l : List S51) (w : World) (h0 : Kd.C k51 w A0 l.length l) (hc0 : l.length ≤ c0) (hl : l.length < 1000000000000000) :
    ∃ r : Bool, (r = false → l.length ≤ 300) ∧ Calls Try.prog 14 #[.slice A0 l.length c0] w fun e w' => e = .returned (.bool r) ∧ Below w.heap.size w w' := by
  obtain ⟨r, h1, h2⟩ := long_l l hl l.length 0 0 (l.length + 1) (by omega) (by omega) (by omega) (by omega)
  exact ⟨r, h2, PRangMore.turnoutlaw13_long.calls (l.length + 1) A0 c0 l r w h0 hc0 h1⟩
/-! ### same, of one row and itself -/
attribute [local go_sem high] eqA42
def SameR (w : World) (l : List S42) (t5 : Value) (wr : World) : Prop := ∃ k : Nat, t5 = .int .i64 (k : Int) ∧ k ≤ l.length ∧ ∃ n, wr = w.drewN n
/-- A row that may lie within a longer one. -/
structure Rd (w : World) (A : Option Addr) (l : List S42) : Prop where
  at_ : ∀ k (h : k < l.length), ∃ g, A = some ⟨g, 0, none⟩ ∧ w.cell? ⟨g, k * 4, none⟩ = some (.string l[k].f0) ∧ w.cell? ⟨g, k * 4 + 1, none⟩ = some (.string l[k].f1) ∧ w.cell? ⟨g, k * 4 + 2, none⟩ = some (.int .i64 l[k].f2) ∧ w.cell? ⟨g, k * 4 + 3, none⟩ = some (.int .i64 l[k].f3)
theorem Rd.of_own {w : World} {N n c : Nat} {A : Option Addr} {l : List S42} (h : w.ownsRow N 42 4 (.slice A n c) l.length (cs42 l)) : Rd w A l := ⟨fun k hk => by
  obtain ⟨g, h1, _, _, h2⟩ := own42s h k hk
  exact ⟨g, h1, h2⟩⟩
theorem Rd.pre {w : World} {A : Option Addr} {l r : List S42} (h : Rd w A (l ++ r)) : Rd w A l := ⟨fun k hk => by
  obtain ⟨g, h1, h2⟩ := h.at_ k (by simp; omega)
  rw [List.getElem_append_left hk] at h2
  exact ⟨g, h1, h2⟩⟩
theorem Rd.go {w w1 : World} {A : Option Addr} {l : List S42} (h : Rd w A l) (hb : Below w.heap.size w w1) : Rd w1 A l := ⟨fun k hk => by
  obtain ⟨g, h1, e0, e1, e2, e3⟩ := h.at_ k hk
  exact ⟨g, h1, (hb.cell (World.block_lt_of_cell? _ _ e0)).trans e0, (hb.cell (World.block_lt_of_cell? _ _ e1)).trans e1, (hb.cell (World.block_lt_of_cell? _ _ e2)).trans e2, (hb.cell (World.block_lt_of_cell? _ _ e3)).trans e3⟩⟩
theorem same_self (A B : Option Addr) (c d : Nat) (l : List S42) (w : World) (hA : Rd w A l) (hB : Rd w B l) (hl : l.length < 1000000) :
    Calls Try.prog 18 #[.slice A l.length c, .slice B l.length d] w fun e w' => e = .returned (.bool true) ∧ ∃ n, w' = w.drewN n := by
  have hR : SameR w l (.int .i64 0) w := ⟨0, rfl, Nat.zero_le _, 0, rfl⟩
  have HA := Lib.hid hA
  have HB := Lib.hid hB
  clear hA hB
  go_enter Try.func18, Try.ntmps18
  go_wp2
  go_loopw [5] (fun t5 wr => SameR w l t5 wr) (fun t5 _ => l.length - (intOf t5).toNat)
  case atStart => exact hR
  case round =>
    clear hR
    obtain ⟨k, rfl, hk, n, rfl⟩ := hrel
    by_cases hlt : k < l.length
    · have k0 : (0 : Int) ≤ (k : Int) := by omega
      have k1 : (k : Int) < (l.length : Int) := by omega
      obtain ⟨g, rfl, e0, e1, e2, e3⟩ := HA.out.at_ k hlt
      obtain ⟨g', rfl, f0, f1, f2, f3⟩ := HB.out.at_ k hlt
      generalize l[k] = x at *
      go_wp2
      go_quiet (fail)
      go_wp2
      go_roundw
      case rel => exact ⟨k + 1, by go_num, hlt, _, rfl⟩
      case measure => simp [intOf]; omega
    · have k1 : ¬ (k : Int) < (l.length : Int) := by omega
      go_wp2
      go_ret
      exact ⟨rfl, _, rfl⟩
/-! ### the best one by its place -/
theorem bst_best (L : List S42) (key : ByteArray) (hk : key.size = 3) : ∀ (r : List S42) (i : Nat) (o : Option Nat), L.drop i = r →
    (bst L key i o r).map (fun k => L.getD k z42) = best (win E21 key) (o.map (fun k => L.getD k z42)) r
  | [], i, o, _ => rfl
  | x :: r, i, o, h => by
    have hx : L.getD i z42 = x := by
      have : L[i]? = some x := by
        have h1 := congrArg (fun q => q[0]?) h
        simpa using h1
      rw [List.getD_eq_getElem?_getD, this]
      rfl
    have hd : L.drop (i + 1) = r := by
      have := congrArg (List.drop 1) h
      rw [List.drop_drop] at this
      simpa using this
    have hw : ∀ y, wthn y key = win E21 key y := fun y => by simp [wthn, hk]
    cases o with
    | none =>
      rw [bst, Option.map_none, best, bst_best L key hk r (i + 1) _ hd, hw]
      congr 1
      split <;> simp [← List.getD_eq_getElem?_getD, hx]
    | some k =>
      rw [bst, Option.map_some, best, bst_best L key hk r (i + 1) _ hd, hw]
      congr 1
      split <;> simp [← List.getD_eq_getElem?_getD, hx]
theorem bst_none (L : List S42) (key : ByteArray) (hk : key.size ≠ 3) : ∀ (r : List S42) (i : Nat), bst L key i none r = none
  | [], _ => rfl
  | x :: r, i => by
    have hw : wthn x key = false := by simp [wthn, hk]
    rw [bst, hw]
    exact bst_none L key hk r (i + 1)
/-- What Find tells, by the place of the best one. -/
theorem find_bst (L : List S42) (key : ByteArray) : find E21 L key = (match bst L key 0 none L with | none => (0, false) | some k => ((L.getD k z42).f3, true)) := by
  have hE : lastE E21 = 3 := rfl
  unfold find
  rw [hE]
  by_cases hk : key.size = 3
  · rw [show (key.size == 3) = true from beq_iff_eq.2 hk, if_pos rfl]
    have := bst_best L key hk L 0 none rfl
    rw [Option.map_none] at this
    rw [← this]
    cases bst L key 0 none L <;> rfl
  · rw [show (key.size == 3) = false from beq_eq_false_iff_ne.2 hk, bst_none L key hk]
    rfl
theorem bst_lt (L : List S42) (key : ByteArray) : ∀ (r : List S42) (i : Nat) (o : Option Nat), i + r.length ≤ L.length → (∀ k, o = some k → k < L.length) → ∀ k, bst L key i o r = some k → k < L.length
  | [], i, o, _, ho, k, h => ho k h
  | x :: r, i, none, hi, ho, k, h => by
    simp only [List.length_cons] at hi
    rw [bst] at h
    refine bst_lt L key r (i + 1) _ (by omega) (fun j hj => ?_) k h
    split at hj
    · injection hj with hj; omega
    · cases hj
  | x :: r, i, some q, hi, ho, k, h => by
    simp only [List.length_cons] at hi
    rw [bst] at h
    refine bst_lt L key r (i + 1) _ (by omega) (fun j hj => ?_) k h
    split at hj
    · injection hj with hj; omega
    · exact ho j hj
end Go.Proofs.Ytedbnppdfcljlaa.Base
