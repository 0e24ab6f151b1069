/- What the printed callees tell: a frame, whether texts are the same, whether they are long. Conditions: as each contract says. -/
import Derived.Test.YtedkfhgpahjleaaPChunkShutsx1
import Derived.Test.YtedkfhgpahjleaaEval
set_option linter.unusedVariables false
set_option linter.unusedSimpArgs false
namespace Go.Proofs.Ytedkfhgpahjleaa.Base
open Go Go.RowKit Go.Proofs.Ytedkfhgpahjleaa.Mem Go.Proofs.YtedkfhgpahjleaaW.PrintWords Go.Proofs.YtedkfhgpahjleaaW.PrintMore Go.Proofs.Ytedkfhgpahjleaa.PChunkShuts
theorem str_ext {a b : ByteArray} (h : a.data.toList = b.data.toList) : a = b := by
  cases a; cases b; simp at h; rw [h]
theorem str_list (a b : ByteArray) : a.toList = b.toList ↔ a = b := by
  constructor
  · intro h; exact str_ext (by simpa [ByteArray.toList_eq] using h)
  · intro h; rw [h]
theorem wrap_nat (k : Nat) (h : k < 9223372036854775807) : wrap64 ((k : Int) + 1) = ((k + 1 : Nat) : Int) := by unfold wrap64; omega
theorem same_l0 (l m : List ByteArray) (hlm : l.length = m.length) (hl : l.length < 9223372036854775807) : ∀ (d k j : Nat), l.length - j = d → d < k → j ≤ l.length → l.take j = m.take j → turnoutref07_Same.l0 k l m (j : Int) = some (decide (l = m)) := by
  intro d
  induction d with
  | zero =>
    intro k j hd hk hj he
    obtain ⟨k, rfl⟩ : ∃ q, k = q + 1 := ⟨k - 1, by omega⟩
    have hjl : j = l.length := by omega
    subst hjl
    rw [List.take_length, hlm, List.take_length] at he
    simp only [turnoutref07_Same.l0]
    rw [if_neg (by omega), he]
    simp
  | succ d ih =>
    intro k j hd hk hj he
    obtain ⟨k, rfl⟩ : ∃ q, k = q + 1 := ⟨k - 1, by omega⟩
    have hjl : j < l.length := by omega
    have hjm : j < m.length := by omega
    simp only [turnoutref07_Same.l0]
    rw [if_pos (by omega), if_pos (by omega), if_pos (by omega)]
    have e1 : rdOf ByteArray.empty l (j : Int) = l[j] := by simp [rdOf, List.getD_eq_getElem?_getD, hjl]
    have e2 : rdOf ByteArray.empty m (j : Int) = m[j] := by simp [rdOf, List.getD_eq_getElem?_getD, hjm]
    rw [e1, e2]
    by_cases hq : l[j] = m[j]
    · rw [if_pos ((str_list _ _).2 hq), wrap_nat j (by omega)]
      exact ih k (j + 1) (by omega) (by omega) (by omega) (by rw [List.take_succ_eq_append_getElem hjl, List.take_succ_eq_append_getElem hjm, he, hq])
    · rw [if_neg (fun h => hq ((str_list _ _).1 h))]
      have : l ≠ m := fun h => hq (by subst h; rfl)
      simp [this]
theorem same_f (l m : List ByteArray) (hl : l.length < 9223372036854775807) : ∃ k, turnoutref07_Same.f k l m = some (decide (l = m)) := by
  by_cases hlm : l.length = m.length
  · refine ⟨l.length + 1, ?_⟩
    unfold turnoutref07_Same.f
    rw [if_pos (by omega)]
    exact same_l0 l m hlm hl l.length (l.length + 1) 0 (by omega) (by omega) (by omega) (by simp)
  · refine ⟨0, ?_⟩
    unfold turnoutref07_Same.f
    rw [if_neg (by omega)]
    have : l ≠ m := fun h => hlm (by rw [h])
    simp [this]
theorem same_any (A0 : Option Addr) (c0 : Nat) (l : List ByteArray) (A1 : Option Addr) (c1 : Nat) (m : List ByteArray) (w : World) (h0 : Kd.C Kd.string w A0 l.length l) (hc0 : l.length ≤ c0) (h1 : Kd.C Kd.string w A1 m.length m) (hc1 : m.length ≤ c1) (hb : l.length < 9223372036854775807) :
    Calls Try.prog 16 #[.slice A0 l.length c0, .slice A1 m.length c1] w fun e w' => e = .returned (.bool (decide (l = m))) ∧ ∃ n, w' = w.drewN n := by
  obtain ⟨k, hk⟩ := same_f l m hb
  exact (turnoutref07_Same.calls k A0 c0 l A1 c1 m _ w h0 hc0 h1 hc1 hk).mono fun e w' h => ⟨h.1, h.2.out⟩
theorem same_b (A0 : Option Addr) (c0 : Nat) (l : List ByteArray) (A1 : Option Addr) (c1 : Nat) (m : List ByteArray) (w : World) (h0 : Kd.C Kd.string w A0 l.length l) (hc0 : l.length ≤ c0) (h1 : Kd.C Kd.string w A1 m.length m) (hc1 : m.length ≤ c1) (hb : l.length < 9223372036854775807) :
    Calls Try.prog 16 #[.slice A0 l.length c0, .slice A1 m.length c1] w fun e w' => e = .returned (.bool (decide (l = m))) ∧ Below w.heap.size w w' :=
  (same_any A0 c0 l A1 c1 m w h0 hc0 h1 hc1 hb).mono fun e w' ⟨he, n, hw⟩ => ⟨he, by rw [hw]; exact pw_below_drewN (Below.refl _ _) n⟩
/-! ### frames -/
/-- A body's frame. -/
def fr (s : List UInt8) : List UInt8 := [0, 0, UInt8.ofNat (s.length / 256), UInt8.ofNat s.length] ++ s
theorem fr_len (s : List UInt8) : (fr s).length = s.length + 4 := by simp [fr]
theorem ln_fr (s r : List UInt8) (h : s.length ≤ 16384) : ln (fr s ++ r) = s.length := by
  simp only [fr, List.cons_append, ln, be]
  simp
  omega
theorem parse_fr (s r : List UInt8) (h5 : 5 ≤ s.length) (h6 : s.length ≤ 16384) : parse (fr s ++ r) = (s :: (parse r).1, (parse r).2) := by
  have e := ln_fr s [] h6
  rw [List.append_nil] at e
  rw [parse_done (t := fr s) r (by omega) (by omega) (by rw [fr_len, e, Nat.add_comm])]
  rfl
def frE (b : ByteArray) : Int := if b.size < 5 then 4 else if 16384 < b.size then 5 else 0
def frS (b : ByteArray) : ByteArray := if b.size < 5 then ⟨#[]⟩ else if 16384 < b.size then ⟨#[]⟩ else ⟨(fr b.data.toList).toArray⟩
theorem frame_any (b : ByteArray) (w : World) : Calls Try.prog 11 #[.string b] w fun e w' => e = .returned (.tuple #[.string (frS b), .int .i64 (frE b)]) ∧ Below w.heap.size w w' := by
  refine chunk_Frame.calls b _ _ w ?_
  unfold chunk_Frame.f frS frE
  by_cases h1 : b.size < 5
  · rw [if_pos (by omega), if_pos h1, if_pos h1]
  · rw [if_neg (by omega), if_neg h1, if_neg h1]
    by_cases h2 : 16384 < b.size
    · rw [if_pos (by omega), if_pos h2, if_pos h2]
    · rw [if_neg (by omega), if_neg h2, if_neg h2]
      simp only [Option.bind_some]
      rw [if_pos ?_]
      · congr 2
        refine str_ext ?_
        simp only [ByteArray.data_append, Array.toList_append, strOfNums_data, fr, List.map_cons, List.map_nil]
        have e1 : ((b.size : Int) / 16777216 % 256).toNat = 0 := by omega
        have e2 : ((b.size : Int) / 65536 % 256).toNat = 0 := by omega
        have e3 : ((b.size : Int) / 256 % 256).toNat = b.size / 256 := by omega
        have e4 : ((b.size : Int) % 256).toNat = b.size % 256 := by omega
        have e5 : UInt8.ofNat (b.size % 256) = UInt8.ofNat b.size := by
          apply UInt8.toNat_inj.1
          simp
        rw [e1, e2, e3, e4, e5]
        have : b.data.toList.length = b.size := by simp
        rw [this]
        rfl
      · have : (strOfNums [(b.size : Int) / 16777216 % 256, (b.size : Int) / 65536 % 256, (b.size : Int) / 256 % 256, (b.size : Int) % 256]).size = 4 := rfl
        omega
/-! ### long -/
def tot (l : List ByteArray) : Nat := (l.map fun x => 100 + x.size).sum
theorem long_l0 (l : List ByteArray) : ∀ (d k j n : Nat), l.length - j = d → d < k → j ≤ l.length → n < 200000 → l.length < 9223372036854775807 →
    ∃ b, turnoutlaw07_long.l0 k l (n : Int) (j : Int) = some b ∧ (b = false → n + tot (l.drop j) < 60000) := by
  intro d
  induction d with
  | zero =>
    intro k j n hd hk hj hn hl
    obtain ⟨k, rfl⟩ : ∃ q, k = q + 1 := ⟨k - 1, by omega⟩
    simp only [turnoutlaw07_long.l0]
    rw [if_neg (by omega)]
    refine ⟨_, rfl, fun h => ?_⟩
    rw [show j = l.length by omega, List.drop_length]
    simp only [decide_eq_false_iff_not] at h
    simp [tot]
    omega
  | succ d ih =>
    intro k j n hd hk hj hn hl
    obtain ⟨k, rfl⟩ : ∃ q, k = q + 1 := ⟨k - 1, by omega⟩
    have hjl : j < l.length := by omega
    simp only [turnoutlaw07_long.l0]
    rw [if_pos (by omega)]
    by_cases hn6 : n < 60000
    · rw [if_pos (by omega), if_pos (by omega)]
      have e1 : rdOf ByteArray.empty l (j : Int) = l[j] := by simp [rdOf, List.getD_eq_getElem?_getD, hjl]
      rw [e1, wrap_nat j (by omega)]
      have e2 : wrap64 ((wrap64 ((n : Int) + 100)) + mn 60000 (l[j].size : Int)) = ((n + 100 + min 60000 l[j].size : Nat) : Int) := by
        have : mn 60000 (l[j].size : Int) = ((min 60000 l[j].size : Nat) : Int) := by
          unfold mn
          split <;> omega
        rw [this]
        unfold wrap64
        omega
      rw [e2]
      obtain ⟨b, h1, h2⟩ := ih k (j + 1) (n + 100 + min 60000 l[j].size) (by omega) (by omega) (by omega) (by omega) hl
      refine ⟨b, h1, fun h => ?_⟩
      have := h2 h
      rw [List.drop_eq_getElem_cons hjl]
      simp only [tot, List.map_cons, List.sum_cons] at this ⊢
      omega
    · rw [if_neg (by omega)]
      exact ⟨_, rfl, fun h => by simp only [decide_eq_false_iff_not] at h; omega⟩
theorem long_any (A0 : Option Addr) (c0 : Nat) (l : List ByteArray) (w : World) (h0 : Kd.C Kd.string w A0 l.length l) (hc0 : l.length ≤ c0) (hl : l.length < 9223372036854775807) :
    ∃ b, (b = false → tot l < 60000) ∧ Calls Try.prog 19 #[.slice A0 l.length c0] w fun e w' => e = .returned (.bool b) ∧ Below w.heap.size w w' := by
  obtain ⟨b, h1, h2⟩ := long_l0 l l.length (l.length + 1) 0 0 (by omega) (by omega) (by omega) (by omega) hl
  exact ⟨b, fun h => by simpa using h2 h, turnoutlaw07_long.calls (l.length + 1) A0 c0 l b w h0 hc0 h1⟩
theorem tot_mem {l : List ByteArray} {x : ByteArray} (h : x ∈ l) : 100 + x.size ≤ tot l := by
  induction l with
  | nil => cases h
  | cons y r ih =>
    simp only [tot, List.map_cons, List.sum_cons] at ih ⊢
    rcases List.mem_cons.1 h with rfl | h
    · omega
    · have := ih h; omega
theorem tot_len (l : List ByteArray) : 100 * l.length ≤ tot l := by
  induction l with
  | nil => simp [tot]
  | cons y r ih => simp only [tot, List.map_cons, List.sum_cons, List.length_cons] at ih ⊢; omega
/-! ### may a length be -/
def mayB (x y z b : UInt8) : Bool := decide (x.toNat = 0) && (decide (y.toNat = 0) && (decide (5 ≤ z.toNat * 256 + b.toNat) && decide (z.toNat * 256 + b.toNat ≤ 16384)))
theorem two_nat (a b : Nat) (ha : a < 256) (hb : b < 256) : wrap64 (wrap64 (wrap64 (a : Int) * 256) + wrap64 (b : Int)) = ((a * 256 + b : Nat) : Int) := by
  have e1 : wrap64 (a : Int) = (a : Int) := by unfold wrap64; omega
  have e2 : wrap64 (b : Int) = (b : Int) := by unfold wrap64; omega
  have e3 : wrap64 ((a : Int) * 256) = (a : Int) * 256 := by unfold wrap64; omega
  rw [e1, e2, e3]
  unfold wrap64
  omega
theorem bt_get (s : ByteArray) (i : Nat) (b : UInt8) (h : s.data.toList[i]? = some b) : bt s (i : Int) = (b.toNat : Int) := by
  obtain ⟨hi, hb⟩ := List.getElem?_eq_some_iff.1 h
  have hi' : i < s.size := by simpa using hi
  unfold bt
  rw [dif_pos (by simpa using hi')]
  subst hb
  simp
  rfl
theorem may_any (s : ByteArray) (x y z b : UInt8) (r : List UInt8) (hs : s.data.toList = x :: y :: z :: b :: r) (w : World) :
    Calls Try.prog 22 #[.string s] w fun e w' => e = .returned (.bool (mayB x y z b)) ∧ ∃ n, w' = w.drewN n := by
  have hz : 4 ≤ s.size := by have := congrArg List.length hs; simp at this; omega
  have b0 : bt s 0 = (x.toNat : Int) := bt_get s 0 x (by rw [hs]; rfl)
  have b1 : bt s 1 = (y.toNat : Int) := bt_get s 1 y (by rw [hs]; rfl)
  have b2 : bt s 2 = (z.toNat : Int) := bt_get s 2 z (by rw [hs]; rfl)
  have b3 : bt s 3 = (b.toNat : Int) := bt_get s 3 b (by rw [hs]; rfl)
  refine (turnoutlaw07_may.calls s _ w ?_).mono fun e w' h => ⟨h.1, h.2.out⟩
  unfold turnoutlaw07_may.f
  rw [if_pos (by omega), if_pos (by omega), if_pos (by omega), b0, b1, b2, b3, two_nat _ _ z.toNat_lt b.toNat_lt]
  unfold mayB
  generalize x.toNat = X
  generalize y.toNat = Y
  generalize z.toNat * 256 + b.toNat = V
  by_cases h1 : X = 0
  · rw [if_pos (by omega), if_pos (by omega)]
    by_cases h2 : Y = 0
    · rw [if_pos (by omega)]
      by_cases h3 : 5 ≤ V
      · rw [if_pos (by omega), decide_eq_true h1, decide_eq_true h2, decide_eq_true h3]
        simp only [Bool.true_and]
        congr 1
        exact decide_eq_decide.2 (by omega)
      · rw [if_neg (by omega), decide_eq_false h3]
        simp
    · rw [if_neg (by omega), decide_eq_false h2]
      simp
  · rw [if_neg (by omega), decide_eq_false h1]
    simp
theorem may_be (x y z b : UInt8) : mayB x y z b = true ↔ ¬ (be x y z b < 5 ∨ 16384 < be x y z b) := by
  have hzz := z.toNat_lt; have hb := b.toNat_lt
  simp only [mayB, Bool.and_eq_true, decide_eq_true_eq, be]
  generalize x.toNat = X
  generalize y.toNat = Y
  generalize z.toNat = Z at *
  generalize b.toNat = W at *
  omega
end Go.Proofs.Ytedkfhgpahjleaa.Base
