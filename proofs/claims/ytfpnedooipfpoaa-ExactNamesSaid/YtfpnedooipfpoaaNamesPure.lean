/- Keys of two bytes, put and taken out one by one. Plain lemmas; no condition. -/
import Derived.Test.YtfpnedooipfpoaaAwake
set_option linter.unusedVariables false
set_option linter.unusedSimpArgs false
namespace Go.Proofs.Ytfpnedooipfpoaa.Base
open Go Go.RowKit Go.Proofs.Ytfpnedooipfpoaa Go.Proofs.Ytfpnedooipfpoaa.Ex Go.Proofs.Ytfpnedooipfpoaa.Mem Go.Proofs.Ytfpnedooipfpoaa.Math Go.Proofs.YtfpnedooipfpoaaW.PrintWords Go.Proofs.YtfpnedooipfpoaaW.PrintLast Go.Proofs.Ytfpnedooipfpoaa.PExactHalf
abbrev KE : Key := ⟨#[]⟩
def K2 (i : Nat) : Key := ⟨#[(i / 256).toUInt8, (i % 256).toUInt8]⟩
theorem K2_inj {i j : Nat} (hi : i < 65536) (hj : j < 65536) (h : K2 i = K2 j) : i = j := by
  have h0 : #[(i / 256).toUInt8, (i % 256).toUInt8] = #[(j / 256).toUInt8, (j % 256).toUInt8] := congrArg (fun k : ByteArray => k.data) h
  have h0 := congrArg Array.toList h0
  injection h0 with e1 e2
  injection e2 with e2 e3
  have h1 := congrArg UInt8.toNat e1
  have h2 := congrArg UInt8.toNat e2
  rw [Nat.toUInt8_eq, Nat.toUInt8_eq, UInt8.toNat_ofNat', UInt8.toNat_ofNat'] at h1 h2
  omega
theorem K2_ne (i : Nat) : K2 i ≠ KE := fun h => by
  have := congrArg (fun k : ByteArray => k.data.size) h
  cases this
theorem K2_size (i : Nat) : (K2 i).size = 2 := rfl
/-- The keys ahead of i are put. -/
structure N1 (i : Nat) (T : Tb) : Prop where
  lo : 2 ≤ i
  hi : i ≤ 301
  n : T.n + 1 = i
  len : T.L.length = 8 ∨ T.L.length < 4 * T.n
  hs : ∀ k v, has T.L k v ↔ (k = KE ∧ v = -3) ∨ ∃ j : Nat, 2 ≤ j ∧ j < i ∧ k = K2 j ∧ v = (j : Int)
theorem n1_start : ∃ T, put HH new8 KE (-3) = ((0, false), T) ∧ N1 2 T ∧ Ex.Good HH T ∧ T.L.length = 8 := by
  rcases put_spec hlim good_new KE (-3) with ⟨v0, T2, hv, -⟩ | ⟨T2, -, e, h1, h2, h3, h4, -⟩
  · exact absurd hv (new_none _ _)
  · have hl : T2.L.length = 8 := h3
    have hn : T2.n = 1 := h2
    refine ⟨T2, e, ⟨Nat.le_refl _, by decide, by rw [hn], .inl hl, fun k v => ?_⟩, h1, hl⟩
    rw [h4 k v]
    constructor
    · rintro (h | ⟨-, h⟩)
      · exact .inl h
      · exact absurd h (new_none _ _)
    · rintro (h | ⟨j, h5, h6, -⟩)
      · exact .inl h
      · omega
theorem n1_looks {T : Tb} (hg : Ex.Good HH T) (h : N1 2 T) : looks HH T KE = 1 := by
  have h1 := looks_le hlim hg ((h.hs _ _).2 (.inl ⟨rfl, rfl⟩))
  have := h.n
  omega
theorem N1.next {i : Nat} {T : Tb} (h : N1 i T) (hg : Ex.Good HH T) (hi : i ≤ 300) : ∃ T', put HH T (K2 i) (i : Int) = ((0, false), T') ∧ N1 (i + 1) T' ∧ T'.n = i ∧ ((T.L.length < 2 * i ∧ T'.L.length = 2 * T.L.length) ∨ (¬ T.L.length < 2 * i ∧ T'.L.length = T.L.length)) := by
  have hn := h.n
  have hlo := h.lo
  have hlen := h.len
  rcases put_spec hlim hg (K2 i) (i : Int) with ⟨v0, T2, hv, -⟩ | ⟨T2, -, e, h1, h2, h3, h4, -⟩
  · rcases (h.hs _ _).1 hv with ⟨e, -⟩ | ⟨j, -, h6, e, -⟩
    · exact absurd e (K2_ne i)
    · have := K2_inj (by omega) (by omega) e
      omega
  · rw [show T.n + 1 = i from hn] at h3
    have h5 : (T.L.length < 2 * i ∧ T2.L.length = 2 * T.L.length) ∨ (¬ T.L.length < 2 * i ∧ T2.L.length = T.L.length) := by
      by_cases hc : T.L.length < 2 * i
      · exact .inl ⟨hc, by rw [h3, if_pos hc]⟩
      · exact .inr ⟨hc, by rw [h3, if_neg hc]⟩
    refine ⟨T2, e, ⟨by omega, by omega, by omega, by omega, fun k v => ?_⟩, by omega, h5⟩
    rw [h4 k v]
    constructor
    · rintro (⟨rfl, rfl⟩ | ⟨-, h6⟩)
      · exact .inr ⟨i, by omega, by omega, rfl, rfl⟩
      · rcases (h.hs _ _).1 h6 with h7 | ⟨j, a, b, c, d⟩
        · exact .inl h7
        · exact .inr ⟨j, a, by omega, c, d⟩
    · rintro (⟨rfl, rfl⟩ | ⟨j, a, b, rfl, rfl⟩)
      · exact .inr ⟨fun e => K2_ne i e.symm, (h.hs _ _).2 (.inl ⟨rfl, rfl⟩)⟩
      · by_cases hj : j = i
        · subst hj
          exact .inl ⟨rfl, rfl⟩
        · exact .inr ⟨fun e => hj (K2_inj (by omega) (by omega) e), (h.hs _ _).2 (.inr ⟨j, a, by omega, rfl, rfl⟩)⟩
/-- The keys from i on are there. -/
structure N2 (i : Nat) (T : Tb) : Prop where
  lo : 2 ≤ i
  hi : i ≤ 301
  len : T.L.length = 1024
  hs : ∀ k v, has T.L k v ↔ (k = KE ∧ v = -3) ∨ ∃ j : Nat, i ≤ j ∧ j ≤ 300 ∧ k = K2 j ∧ v = (j : Int)
theorem N1.turn {T : Tb} (h : N1 301 T) (hg : Ex.Good HH T) : N2 2 T := by
  have hn := h.n
  have hh := hg.half
  have hl : T.L.length = 1024 := by
    obtain ⟨e, h1, h2⟩ := hg.pow
    have h3 := h.len
    rw [h1] at h3 hh ⊢
    have he : e < 11 := by
      refine Nat.lt_of_not_le fun h4 => ?_
      have := Nat.pow_le_pow_right (show 0 < 2 by decide) h4
      have h5 : (2 : Nat) ^ 11 = 2048 := by decide
      omega
    have he2 : 9 < e := by
      refine Nat.lt_of_not_le fun h4 => ?_
      have := Nat.pow_le_pow_right (show 0 < 2 by decide) h4
      have h5 : (2 : Nat) ^ 9 = 512 := by decide
      omega
    rw [show e = 10 by omega]
  refine ⟨Nat.le_refl _, by decide, hl, fun k v => (h.hs k v).trans ?_⟩
  constructor
  · rintro (h | ⟨j, a, b, c⟩)
    · exact .inl h
    · exact .inr ⟨j, a, by omega, c⟩
  · rintro (h | ⟨j, a, b, c⟩)
    · exact .inl h
    · exact .inr ⟨j, a, by omega, c⟩
theorem N2.get {i : Nat} {T : Tb} (h : N2 i T) (hg : Ex.Good HH T) (hi : i ≤ 300) : Ex.get HH T (K2 i) = ((i : Int), true) :=
  get_has hlim hg ((h.hs _ _).2 (.inr ⟨i, Nat.le_refl _, hi, rfl, rfl⟩))
theorem N2.next {i : Nat} {T : Tb} (h : N2 i T) (hg : Ex.Good HH T) (hi : i ≤ 300) : ∃ T', del HH T (K2 i) = (true, T') ∧ N2 (i + 1) T' := by
  have hlo := h.lo
  rcases del_spec hlim hg (K2 i) with ⟨v0, T2, hv, e, h1, h2, h3, h4⟩ | ⟨hno, -⟩
  · refine ⟨T2, e, ⟨by omega, by omega, h3.trans h.len, fun k v => ?_⟩⟩
    rw [h4 k v, h.hs k v]
    constructor
    · rintro ⟨h5 | ⟨j, a, b, rfl, d⟩, h6⟩
      · exact .inl h5
      · refine .inr ⟨j, ?_, b, rfl, d⟩
        rcases Nat.lt_or_ge i j with h7 | h7
        · exact h7
        · exact absurd (by rw [show j = i by omega]) h6
    · rintro (⟨rfl, rfl⟩ | ⟨j, a, b, rfl, rfl⟩)
      · exact ⟨.inl ⟨rfl, rfl⟩, fun e => K2_ne i e.symm⟩
      · exact ⟨.inr ⟨j, by omega, b, rfl, rfl⟩, fun e => by have := K2_inj (by omega) (by omega) e; omega⟩
  · exact absurd ((h.hs _ _).2 (.inr ⟨i, Nat.le_refl _, hi, rfl, rfl⟩)) (hno _)
theorem N2.keys {T : Tb} (h : N2 301 T) (hg : Ex.Good HH T) : srtB (keysL T.L) = [KE] := by
  have hnd : (srtB (keysL T.L)).Nodup := (srtB_perm _).nodup_iff.2 (keysL_nodup hg.ok)
  have hm : ∀ k, k ∈ srtB (keysL T.L) ↔ k = KE := fun k => by
    rw [(srtB_perm _).mem_iff, mem_keysL]
    constructor
    · rintro ⟨v, hv⟩
      rcases (h.hs _ _).1 hv with ⟨e, -⟩ | ⟨j, a, b, -⟩
      · exact e
      · omega
    · rintro rfl
      exact ⟨-3, (h.hs _ _).2 (.inl ⟨rfl, rfl⟩)⟩
  generalize srtB (keysL T.L) = l at hnd hm
  match l, hnd, hm with
  | [], _, hm => exact absurd ((hm KE).2 rfl) (by simp)
  | [a], _, hm => rw [(hm a).1 (by simp)]
  | a :: b :: r, hnd, hm =>
    have h1 := (hm a).1 (by simp)
    have h2 := (hm b).1 (by simp)
    rw [List.nodup_cons] at hnd
    exact absurd (by rw [h1, h2]; simp) hnd.1
end Go.Proofs.Ytfpnedooipfpoaa.Base
