/- The document's store: where a counter, a row stands; what is wrong with a register. Conditions: as each contract says. -/
import Derived.Test.YtdobpieiobikpaaRefM
set_option linter.unusedVariables false
set_option linter.unusedSimpArgs false
namespace Go.Proofs.Ytdobpieiobikpaa.Base
open Go Go.RowKit Go.Proofs.Ytdobpieiobikpaa.Mem Go.Proofs.YtdobpieiobikpaaW.PrintWords Go.Proofs.YtdobpieiobikpaaW.PrintLast
def idxN {β : Type} : List (Int × β) → Int → Option Nat
  | [], _ => none
  | p :: r, k => if p.1 = k then some 0 else (idxN r k).map (· + 1)
def idxE {β : Type} (l : List (Int × β)) (k : Int) : Int := match idxN l k with
  | some i => (i : Int)
  | none => -1
theorem idxN_hit {β : Type} {l : List (Int × β)} {k : Int} {v : β} {i : Nat} (h : ∀ p ∈ l.take i, p.1 ≠ k) (hi : l[i]? = some (k, v)) : idxN l k = some i ∧ lookE l k = some v := by
  induction l generalizing i with
  | nil => cases hi
  | cons p r ih =>
    cases i with
    | zero =>
      simp at hi
      subst hi
      exact ⟨if_pos rfl, if_pos rfl⟩
    | succ i =>
      rw [List.getElem?_cons_succ] at hi
      rw [List.take_succ_cons] at h
      have hp := h p (List.mem_cons_self ..)
      obtain ⟨h1, h2⟩ := ih (fun q hq => h q (List.mem_cons_of_mem _ hq)) hi
      refine ⟨?_, ?_⟩
      · simp only [idxN]
        rw [if_neg hp, h1]
        rfl
      · simp only [lookE]
        rw [if_neg hp]
        exact h2
theorem idxN_none {β : Type} {l : List (Int × β)} {k : Int} (h : ∀ p ∈ l, p.1 ≠ k) : idxN l k = none ∧ lookE l k = none := by
  induction l with
  | nil => exact ⟨rfl, rfl⟩
  | cons p r ih =>
    have hp := h p (List.mem_cons_self ..)
    obtain ⟨h1, h2⟩ := ih (fun q hq => h q (List.mem_cons_of_mem _ hq))
    refine ⟨?_, ?_⟩
    · simp only [idxN]
      rw [if_neg hp, h1]
      rfl
    · simp only [lookE]
      rw [if_neg hp]
      exact h2
theorem idxN_cases {β : Type} (l : List (Int × β)) (k : Int) : (idxN l k = none ∧ lookE l k = none) ∨ ∃ (i : Nat) (v : β), l[i]? = some (k, v) ∧ lookE l k = some v ∧ idxN l k = some i := by
  induction l with
  | nil => exact .inl ⟨rfl, rfl⟩
  | cons p r ih =>
    by_cases hp : p.1 = k
    · refine .inr ⟨0, p.2, by subst hp; rfl, by simp only [lookE]; rw [if_pos hp], by simp only [idxN]; rw [if_pos hp]⟩
    · rcases ih with ⟨h1, h2⟩ | ⟨i, v, h1, h2, h3⟩
      · exact .inl ⟨by simp only [idxN]; rw [if_neg hp, h1]; rfl, by simp only [lookE]; rw [if_neg hp, h2]⟩
      · exact .inr ⟨i + 1, v, by rw [List.getElem?_cons_succ]; exact h1, by simp only [lookE]; rw [if_neg hp]; exact h2, by simp only [idxN]; rw [if_neg hp, h3]; rfl⟩
theorem idx_hit {β : Type} {l : List (Int × β)} {k : Int} {v : β} {i : Nat} (h : ∀ p ∈ l.take i, p.1 ≠ k) (hi : l[i]? = some (k, v)) : idxE l k = (i : Int) := by unfold idxE; rw [(idxN_hit h hi).1]
theorem idx_none {β : Type} {l : List (Int × β)} {k : Int} (h : ∀ p ∈ l, p.1 ≠ k) : idxE l k = -1 := by unfold idxE; rw [(idxN_none h).1]
theorem idx_cases {β : Type} (l : List (Int × β)) (k : Int) : (idxE l k = -1 ∧ lookE l k = none) ∨ ∃ (i : Nat) (v : β), l[i]? = some (k, v) ∧ lookE l k = some v ∧ idxE l k = (i : Int) ∧ i < l.length := by
  rcases idxN_cases l k with ⟨h1, h2⟩ | ⟨i, v, h1, h2, h3⟩
  · exact .inl ⟨by unfold idxE; rw [h1], h2⟩
  · exact .inr ⟨i, v, h1, h2, by unfold idxE; rw [h3], (List.getElem?_eq_some_iff.1 h1).1⟩
theorem idxN_map {β γ : Type} (f : β → γ) (l : List (Int × β)) (k : Int) : idxN (l.map fun p => (p.1, f p.2)) k = idxN l k := by
  induction l with
  | nil => rfl
  | cons p r ih =>
    simp only [List.map_cons, idxN]
    rw [ih]
theorem idx_absR (rr : List (Int × RowE)) (k : Int) : idxE (absR rr) k = idxE rr k := by unfold idxE absR; rw [idxN_map (fun p : RowE => p.xs)]
theorem own_form2 {w : World} {N e s n : Nat} {v : Value} {xs : List Value} (h : w.ownsRow N e s v n xs) : ∃ A c, v = .slice A n c ∧ n ≤ c ∧ (n : Int) ≤ 9223372036854775807 := by
  rcases h.2 with ⟨rfl, rfl⟩ | ⟨g, cap, cur, rfl, hb, hh, hc, hm, _⟩
  · exact ⟨_, _, rfl, Nat.le_refl _, by decide⟩
  · exact ⟨_, _, rfl, hc, by unfold maxLen at hm; omega⟩
def IxR {β : Type} (l : List (Int × β)) (k : Int) (w : World) (t : Value) (wr : World) : Prop := ∃ i : Nat, t = .int .i64 (i : Int) ∧ i ≤ l.length ∧ (∀ p ∈ l.take i, p.1 ≠ k) ∧ wr = w
theorem take_more {β : Type} {l : List (Int × β)} {k : Int} {i : Nat} (h : ∀ p ∈ l.take i, p.1 ≠ k) {q : Int × β} (hi : l[i]? = some q) (hq : ¬ q.1 = k) : ∀ p ∈ l.take (i + 1), p.1 ≠ k := by
  obtain ⟨hl, e⟩ := List.getElem?_eq_some_iff.1 hi
  intro p hp
  rw [List.take_succ_eq_append_getElem hl] at hp
  rcases List.mem_append.1 hp with hp | hp
  · exact h p hp
  · simp at hp
    rw [hp, e]
    exact hq
set_option maxHeartbeats 3200000 in
theorem idxC_any (a : Nat) (vC vR : Value) (S : St) (rr : List (Int × RowE)) (id : Int) (w : World) (h : RM w a vC vR S rr) :
    Calls Try.prog 51 #[ptr a, .int .i64 id] w fun e w' => e = .returned (.int .i64 (idxE S.c id)) ∧ w' = w := by
  have c0 := h.box.cell 0
  obtain ⟨A, cp, hv, hle, hmx⟩ := own_form2 h.cm
  have hv2 := hv
  have HM := Lib.hid h
  have HV := Lib.hid hv
  rw [show #[vC, vR][0]? = some vC from rfl, hv2] at c0
  clear h hv hv2
  obtain ⟨n, hn⟩ : ∃ n, S.c.length = n := ⟨_, rfl⟩
  have HN := Lib.hid hn
  rw [hn] at c0 hle HV hmx
  clear hn
  have HR0 := Lib.hid (show IxR S.c id w (.int .i64 0) w from ⟨0, rfl, Nat.zero_le _, (fun p hp => by simp at hp), rfl⟩)
  go_enter Try.func51, Try.ntmps51
  go_wp2_with fail
  go_loopw [5] (fun t wr => IxR S.c id w t wr) (fun t _ => n - (intOf t).toNat)
  case atStart => exact HR0.out
  case round =>
    clear HR0
    obtain ⟨i, rfl, hi, hne, rfl⟩ := hrel
    have HNE := Lib.hid hne
    have HI := Lib.hid hi
    clear hne hi
    by_cases hlt : i < n
    · have k1 : (i : Int) < (n : Int) := by omega
      have k0 : (0 : Int) ≤ (i : Int) := by omega
      have hll : i < S.c.length := by rw [HN.out]; exact hlt
      have hg := List.getElem?_eq_getElem hll
      obtain ⟨g, cap, hq, d0, -⟩ := HM.out.cAt i hg
      have hA : A = some ⟨g, 0, none⟩ := by have := HV.out.symm.trans hq; injection this
      subst hA
      have HG := Lib.hid hg
      have HLL := Lib.hid hll
      generalize S.c[i] = p at *
      clear hg hq hll
      by_cases hp : p.1 = id
      · have hpe : (p.1 == id) = true := beq_iff_eq.2 hp
        go_wp2_with fail
        go_ret
        exact ⟨by rw [idx_hit HNE.out (v := p.2) (by rw [HG.out, ← hp])] <;> rfl, rfl⟩
      · have hpe : (p.1 == id) = false := beq_eq_false_iff_ne.2 hp
        go_wp2_with fail
        go_roundw
        case rel => exact ⟨i + 1, by go_num, HLL.out, take_more HNE.out HG.out hp, rfl⟩
        case measure => simp [intOf]; omega
    · obtain rfl : i = n := by have := HI.out; rw [HN.out] at this; omega
      have k1 : ¬ (i : Int) < (i : Int) := by omega
      go_wp2_with fail
      go_ret
      exact ⟨by rw [idx_none (l := S.c) (k := id) (by have := HNE.out; rwa [← HN.out, List.take_length] at this)] <;> rfl, rfl⟩
set_option maxHeartbeats 3200000 in
theorem idxR_any (a : Nat) (vC vR : Value) (S : St) (rr : List (Int × RowE)) (id : Int) (w : World) (h : RM w a vC vR S rr) :
    Calls Try.prog 52 #[ptr a, .int .i64 id] w fun e w' => e = .returned (.int .i64 (idxE rr id)) ∧ w' = w := by
  have c0 := h.box.cell 1
  obtain ⟨A, cp, hv, hle, hmx⟩ := own_form2 h.rm
  have hv2 := hv
  have HM := Lib.hid h
  have HV := Lib.hid hv
  rw [show #[vC, vR][1]? = some vR from rfl, hv2] at c0
  clear h hv hv2
  obtain ⟨n, hn⟩ : ∃ n, rr.length = n := ⟨_, rfl⟩
  have HN := Lib.hid hn
  rw [hn] at c0 hle HV hmx
  clear hn
  have HR0 := Lib.hid (show IxR rr id w (.int .i64 0) w from ⟨0, rfl, Nat.zero_le _, (fun p hp => by simp at hp), rfl⟩)
  go_enter Try.func52, Try.ntmps52
  go_wp2_with fail
  go_loopw [5] (fun t wr => IxR rr id w t wr) (fun t _ => n - (intOf t).toNat)
  case atStart => exact HR0.out
  case round =>
    clear HR0
    obtain ⟨i, rfl, hi, hne, rfl⟩ := hrel
    have HNE := Lib.hid hne
    have HI := Lib.hid hi
    clear hne hi
    by_cases hlt : i < n
    · have k1 : (i : Int) < (n : Int) := by omega
      have k0 : (0 : Int) ≤ (i : Int) := by omega
      have hll : i < rr.length := by rw [HN.out]; exact hlt
      have hg := List.getElem?_eq_getElem hll
      obtain ⟨g, cap, hq, d0, -⟩ := HM.out.rAt i hg
      have hA : A = some ⟨g, 0, none⟩ := by have := HV.out.symm.trans hq; injection this
      subst hA
      have HG := Lib.hid hg
      have HLL := Lib.hid hll
      generalize rr[i] = p at *
      clear hg hq hll
      by_cases hp : p.1 = id
      · have hpe : (p.1 == id) = true := beq_iff_eq.2 hp
        go_wp2_with fail
        go_ret
        exact ⟨by rw [idx_hit HNE.out (v := p.2) (by rw [HG.out, ← hp])] <;> rfl, rfl⟩
      · have hpe : (p.1 == id) = false := beq_eq_false_iff_ne.2 hp
        go_wp2_with fail
        go_roundw
        case rel => exact ⟨i + 1, by go_num, HLL.out, take_more HNE.out HG.out hp, rfl⟩
        case measure => simp [intOf]; omega
    · obtain rfl : i = n := by have := HI.out; rw [HN.out] at this; omega
      have k1 : ¬ (i : Int) < (i : Int) := by omega
      go_wp2_with fail
      go_ret
      exact ⟨by rw [idx_none (l := rr) (k := id) (by have := HNE.out; rwa [← HN.out, List.take_length] at this)] <;> rfl, rfl⟩
def wrongR (S : St) (id at_ : Int) : Int := atR S id at_
set_option maxHeartbeats 3200000 in
theorem wrong_any (a : Nat) (vC vR : Value) (S : St) (rr : List (Int × RowE)) (id : Int) (k : Nat) (w : World) (h : RM w a vC vR S rr) (hk : k < 18446744073709551616) :
    Calls Try.prog 58 #[ptr a, .int .i64 id, .int .u64 (k : Int)] w fun e w' => e = .returned (.int .i64 (atR S id (k : Int))) ∧ Below w.heap.size w w' := by
  have HC := Lib.hid (idxR_any a vC vR S rr id w h)
  have HM := Lib.hid h
  have hab := h.abs
  clear h
  rcases idx_cases rr id with ⟨h1, h2⟩ | ⟨i, v, h1, h2, h3, h4⟩
  · have HA := Lib.hid (show atR S id (k : Int) = 6 by unfold atR; rw [hab, absR_look, h2]; rfl)
    rw [h1] at HC
    clear h1 h2 hab
    go_enter Try.func58, Try.ntmps58
    go_wp2_with fail
    refine HC.out.mono ?_
    rintro e _ ⟨rfl, rfl⟩
    go_wp2_with fail
    go_ret
    exact ⟨by rw [HA.out] <;> rfl, Below.refl _ _⟩
  · have HA := Lib.hid (show atR S id (k : Int) = if (k : Int) < v.xs.length then 0 else 1 by unfold atR; rw [hab, absR_look, h2]; rfl)
    rw [h3] at HC
    obtain ⟨g, cap, hq, d0, d1⟩ := HM.out.rAt i h1
    have c0 := HM.out.box.cell 1
    rw [show #[vC, vR][1]? = some vR from rfl, hq] at c0
    have k1 : (i : Int) < (rr.length : Int) := by omega
    have k0 : (0 : Int) ≤ (i : Int) := by omega
    have k2 : ¬ (i : Int) < 0 := by omega
    have hvl : v.xs.length ≤ 1024 := (HM.out.ok.rw_ (id, v.xs) (by rw [hab]; exact List.mem_map.2 ⟨_, lookE_mem h2, rfl⟩)).2.1
    obtain ⟨m, hm⟩ : ∃ m, v.xs.length = m := ⟨_, rfl⟩
    rw [hm] at HA d1 hvl
    have hwm : IntKind.u64.wrap (m : Int) = (m : Int) := by rw [u64_wrap]; unfold u64w; omega
    obtain ⟨n, hn⟩ : ∃ n, rr.length = n := ⟨_, rfl⟩
    rw [hn] at c0 k1
    clear h1 h2 h3 h4 hab hq hm hn hvl hk
    by_cases hlt : k < m
    · have HA2 := Lib.hid (HA.out.trans (if_pos (by omega)))
      have k3 : ¬ (m : Int) ≤ (k : Int) := by omega
      clear HA hlt
      go_enter Try.func58, Try.ntmps58
      go_wp2_with fail
      refine HC.out.mono ?_
      rintro e _ ⟨rfl, rfl⟩
      go_wp2_with fail
      go_ret
      exact ⟨by rw [HA2.out] <;> rfl, Below.refl _ _⟩
    · have HA2 := Lib.hid (HA.out.trans (if_neg (by omega)))
      have k3 : (m : Int) ≤ (k : Int) := by omega
      clear HA hlt
      go_enter Try.func58, Try.ntmps58
      go_wp2_with fail
      refine HC.out.mono ?_
      rintro e _ ⟨rfl, rfl⟩
      go_wp2_with fail
      go_ret
      exact ⟨by rw [HA2.out] <;> rfl, Below.refl _ _⟩
end Go.Proofs.Ytdobpieiobikpaa.Base
