/- A table that was made since. Conditions: as each contract says. -/
import Derived.Test.YtfpnedooipfpoaaCopy
set_option linter.unusedVariables false
set_option linter.unusedSimpArgs false
namespace Go.Proofs.Ytfpnedooipfpoaa.Base
open Go Go.RowKit Go.Proofs.Ytfpnedooipfpoaa Go.Proofs.Ytfpnedooipfpoaa.Ex Go.Proofs.Ytfpnedooipfpoaa.Mem Go.Proofs.Ytfpnedooipfpoaa.Math Go.Proofs.YtfpnedooipfpoaaW.PrintWords Go.Proofs.YtfpnedooipfpoaaW.PrintLast Go.Proofs.Ytfpnedooipfpoaa.PExactHalf
/-- A table made since the world w0, none of whose blocks stood there. -/
def Mine (w0 w : World) (a : Nat) (T : Tb) : Prop := Below w0.heap.size w0 w ∧ ∃ O : Nat → Prop, (∀ k, O k → w0.heap.size ≤ k) ∧ Tto w a O T
section
variable {w0 w w1 : World} {a : Nat} {T : Tb}
theorem Mine.below (h : Mine w0 w a T) : Below w0.heap.size w0 w := h.1
theorem Mine.good (h : Mine w0 w a T) : Ex.Good HH T := by obtain ⟨_, _, _, h⟩ := h; exact h.good
theorem Mine.pw (h : Mine w0 w a T) : Pw T.L.length := by obtain ⟨_, _, _, h⟩ := h; exact h.pw
theorem Mine.sm (h : Mine w0 w a T) : Sm T.L := by obtain ⟨_, _, _, h⟩ := h; exact h.sm
theorem Mine.go (h : Mine w0 w a T) (hb : Below w.heap.size w w1) : Mine w0 w1 a T := by
  obtain ⟨h1, O, h2, h3⟩ := h
  exact ⟨below_step h1 hb, O, h2, h3.go hb⟩
theorem Mine.back {w2 : World} (h : Mine w1 w2 a T) (hb : Below w0.heap.size w0 w1) : Mine w0 w2 a T := by
  obtain ⟨h1, O, h2, h3⟩ := h
  exact ⟨below_step hb h1, O, fun k hk => Nat.le_trans hb.size (h2 k hk), h3⟩
theorem Mine.wrote {O : Nat → Prop} {T' : Tb} (h1 : Below w0.heap.size w0 w) (h2 : ∀ k, O k → w0.heap.size ≤ k) (h4 : Tto w1 a (Grow O w w1) T') (h5 : Fp O w w1) : Mine w0 w1 a T' := by
  refine ⟨?_, _, fun k hk => ?_, h4⟩
  · have : Below w0.heap.size w w1 := h5.below h2 h1.size
    exact ⟨this.os.trans h1.os, this.tape.trans h1.tape, this.output.trans h1.output, Nat.le_trans h1.size this.size, fun k hk => (this.block k hk).trans (h1.block k hk)⟩
  · rcases hk with hk | hk
    · exact h2 k hk
    · exact Nat.le_trans h1.size hk.1
theorem Mine.new (w : World) : Calls Try.prog 9 #[] w fun e w' => ∃ a, e = .returned (ptr a) ∧ Mine w w' a new8 := by
  refine (new_any w).mono ?_
  rintro e w' ⟨a, rfl, h1, h2⟩
  exact ⟨a, rfl, h2, _, fun k hk => hk.1, h1⟩
theorem Mine.put (h : Mine w0 w a T) (k : Key) (v : Int) (hk : k.size ≤ 140737488351232) (hp : Pw (2 * T.L.length)) : Calls Try.prog 10 #[ptr a, .string k, .int .i64 v] w fun e w' => e = .returned (.tuple #[.int .i64 (put HH T k v).1.1, .bool (put HH T k v).1.2]) ∧ Mine w0 w' a (put HH T k v).2 := by
  obtain ⟨h1, O, h2, h3⟩ := h
  refine (put_any a O T k v w h3 hk hp).mono ?_
  rintro e w' ⟨rfl, h4, h5⟩
  exact ⟨rfl, Mine.wrote h1 h2 h4 h5⟩
theorem Mine.del (h : Mine w0 w a T) (k : Key) (hk : k.size ≤ 140737488351232) : Calls Try.prog 11 #[ptr a, .string k] w fun e w' => e = .returned (.bool (del HH T k).1) ∧ Mine w0 w' a (del HH T k).2 := by
  obtain ⟨h1, O, h2, h3⟩ := h
  refine (del_any a O T k w h3 hk).mono ?_
  rintro e w' ⟨rfl, h4, h5⟩
  exact ⟨rfl, Mine.wrote h1 h2 h4 h5⟩
theorem Mine.get (h : Mine w0 w a T) (k : Key) (hk : k.size ≤ 140737488351232) : Calls Try.prog 15 #[ptr a, .string k] w fun e w' => e = .returned (.tuple #[.int .i64 (Ex.get HH T k).1, .bool (Ex.get HH T k).2]) ∧ Mine w0 w' a T ∧ Below w.heap.size w w' := by
  have h0 := h
  obtain ⟨h1, O, h2, h3⟩ := h
  refine (get_any a O T k w h3 hk).mono ?_
  rintro e w' ⟨rfl, h4⟩
  exact ⟨rfl, h0.go h4, h4⟩
theorem Mine.looks (h : Mine w0 w a T) (k : Key) (hk : k.size ≤ 140737488351232) : Calls Try.prog 16 #[ptr a, .string k] w fun e w' => e = .returned (.int .i64 ((looks HH T k : Nat) : Int)) ∧ Mine w0 w' a T ∧ Below w.heap.size w w' := by
  have h0 := h
  obtain ⟨h1, O, h2, h3⟩ := h
  refine (looks_any a O T k w h3 hk).mono ?_
  rintro e w' ⟨rfl, h4⟩
  exact ⟨rfl, h0.go h4, h4⟩
theorem Mine.len (h : Mine w0 w a T) : Calls Try.prog 13 #[ptr a] w fun e w' => e = .returned (.int .i64 (T.n : Int)) ∧ w' = w := by
  obtain ⟨h1, O, h2, h3⟩ := h
  exact len_any a O T w h3
theorem Mine.slots (h : Mine w0 w a T) : Calls Try.prog 12 #[ptr a] w fun e w' => e = .returned (.int .i64 (T.L.length : Int)) ∧ w' = w := by
  obtain ⟨h1, O, h2, h3⟩ := h
  exact slots_any a O T w h3
theorem Mine.keys (h : Mine w0 w a T) : Calls Try.prog 17 #[ptr a] w (KeysEnd w (srtB (keysL T.L))) := by
  obtain ⟨h1, O, h2, h3⟩ := h
  exact keys_any a O T w h3
theorem Mine.copy (h : Mine w0 w a T) : Calls Try.prog 18 #[ptr a] w fun e w' => ∃ a', e = .returned (ptr a') ∧ Mine w w' a' T := by
  obtain ⟨h1, O, h2, h3⟩ := h
  refine (copy_any a O T w h3).mono ?_
  rintro e w' ⟨a', rfl, h4, h5⟩
  exact ⟨a', rfl, h5, _, fun k hk => hk.1, h4⟩
end
/-! ### acts that are not long -/
theorem long_l (l : List S28) : ∀ (d k i : Nat) (x : Int), l.length - i = d → d < k → 0 ≤ x → x ≤ 20000 → l.length ≤ 140737488351232 → ∃ r, turnoutlaw10_long.l0 k l x (i : Int) = some r ∧ (r = false → x + 10 * ((l.length - i : Nat) : Int) < 5000 ∧ ∀ p ∈ l.drop i, (p.f1.size : Int) < 5000) := by
  intro d
  induction d with
  | zero =>
    intro k i x hd hk h0 h1 hl
    obtain ⟨k, rfl⟩ : ∃ m, k = m + 1 := ⟨k - 1, by omega⟩
    simp only [turnoutlaw10_long.l0]
    rw [if_neg (by omega)]
    refine ⟨_, rfl, fun h => ⟨?_, fun p hp => ?_⟩⟩
    · have := of_decide_eq_false h
      omega
    · rw [List.drop_of_length_le (by omega)] at hp
      cases hp
  | succ d ih =>
    intro k i x hd hk h0 h1 hl
    obtain ⟨k, rfl⟩ : ∃ m, k = m + 1 := ⟨k - 1, by omega⟩
    have hi : i < l.length := by omega
    simp only [turnoutlaw10_long.l0]
    rw [if_pos (by omega)]
    by_cases hx : x < 5000
    · rw [if_pos hx, if_pos (by omega), wrap_next (n := l.length) (by omega)]
      have hr : rd_T28 l (i : Int) = l[i] := by
        unfold rd_T28
        rw [Int.toNat_natCast, List.getD_eq_getElem?_getD, List.getElem?_eq_getElem hi]
        rfl
      rw [hr]
      obtain ⟨s, hs⟩ : ∃ s : Nat, l[i].f1.size = s := ⟨_, rfl⟩
      rw [hs]
      have hmn : 0 ≤ mn 5000 (s : Int) ∧ mn 5000 (s : Int) ≤ 5000 ∧ (mn 5000 (s : Int) < 5000 → (s : Int) < 5000) := by
        unfold mn
        split <;> omega
      obtain ⟨y, hy⟩ : ∃ y, mn 5000 (s : Int) = y := ⟨_, rfl⟩
      rw [hy] at hmn ⊢
      have hw : wrap64 (wrap64 (x + 10) + y) = x + 10 + y := by unfold wrap64; omega
      rw [hw]
      obtain ⟨r, h2, h3⟩ := ih k (i + 1) (x + 10 + y) (by omega) (by omega) (by omega) (by omega) hl
      refine ⟨r, h2, fun h => ?_⟩
      obtain ⟨h4, h5⟩ := h3 h
      refine ⟨by omega, fun p hp => ?_⟩
      rw [List.drop_eq_getElem_cons hi] at hp
      rcases List.mem_cons.1 hp with rfl | hp
      · rw [hs]
        exact hmn.2.2 (by omega)
      · exact h5 p hp
    · rw [if_neg hx]
      exact ⟨_, rfl, fun h => by have := of_decide_eq_false h; omega⟩
/-- How many acts, how long keys. -/
def Short (l : List S28) : Prop := l.length < 500 ∧ ∀ p ∈ l, p.f1.size < 5000
theorem long_any (A : Option Addr) (c : Nat) (l : List S28) (w : World) (hr : Kd.C k28 w A l.length l) (hc : l.length ≤ c) (hl : l.length ≤ 140737488351232) : Calls Try.prog 7 #[.slice A l.length c] w fun e w' => ∃ r, e = .returned (.bool r) ∧ (r = false → Short l) ∧ Below w.heap.size w w' := by
  obtain ⟨r, h1, h2⟩ := long_l l l.length (l.length + 1) 0 0 (by omega) (by omega) (by omega) (by omega) hl
  refine (turnoutlaw10_long.calls (l.length + 1) A c l r w hr hc h1).mono ?_
  rintro e w' ⟨rfl, hb⟩
  refine ⟨r, rfl, fun h => ?_, hb⟩
  obtain ⟨h3, h4⟩ := h2 h
  exact ⟨by omega, fun p hp => by have := h4 p (by rw [List.drop_zero]; exact hp); omega⟩
end Go.Proofs.Ytfpnedooipfpoaa.Base
