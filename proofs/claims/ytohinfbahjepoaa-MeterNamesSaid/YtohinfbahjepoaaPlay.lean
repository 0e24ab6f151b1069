/- What a bucket is behind acts. Conditions: acts that read as a slice does. -/
import Derived.Test.YtohinfbahjepoaaMore
set_option linter.unusedVariables false
set_option linter.unusedSimpArgs false
namespace Go.Proofs.Ytohinfbahjepoaa.Base
open Go Go.RowKit Go.Proofs.Ytohinfbahjepoaa.Mem Go.Proofs.YtohinfbahjepoaaW.PrintWords
/-- An act: what, how many, how many ticks. -/
abbrev Act := Int × Int × Int
def ActK (x : Act) (cs : List Value) : Prop := cs = [.int .u8 x.1, .int .u64 x.2.1, .int .i64 x.2.2]
def ActOk (x : Act) : Prop := (0 ≤ x.1 ∧ x.1 < 256) ∧ (0 ≤ x.2.1 ∧ x.2.1 < 18446744073709551616) ∧ (-9223372036854775808 ≤ x.2.2 ∧ x.2.2 < 9223372036854775808)
structure Acts (w : World) (A : Option Addr) (l : List Act) : Prop where
  row : ReadsRow ActK 3 w A l.length l
  ok : ∀ x ∈ l, ActOk x
theorem Acts.go {w w1 : World} {A : Option Addr} {l : List Act} (h : Acts w A l) (hb : Below w.heap.size w w1) : Acts w1 A l := ⟨h.row.imp_ hb (fun _ _ hp => hp), h.ok⟩
theorem Acts.kp {w w1 : World} {A : Option Addr} {l : List Act} (h : Acts w A l) (hb : Kp w.heap.size w w1) : Acts w1 A l := h.go hb.below
theorem Acts.at_ {w : World} {A : Option Addr} {l : List Act} (h : Acts w A l) {k : Nat} (hk : k < l.length) :
    ∃ g o, A = some ⟨g, o, none⟩ ∧ w.cell? ⟨g, o + k * 3, none⟩ = some (.int .u8 l[k].1) ∧ w.cell? ⟨g, o + k * 3 + 1, none⟩ = some (.int .u64 l[k].2.1) ∧ w.cell? ⟨g, o + k * 3 + 2, none⟩ = some (.int .i64 l[k].2.2) := by
  obtain ⟨g, o, c, e, hp, hl, hcell⟩ := row_at h.row (by omega) hk
  unfold ActK at hp
  subst hp
  exact ⟨g, o, e, hcell 0 _ rfl, hcell 1 _ rfl, hcell 2 _ rfl⟩
/-- A level that may be, and a definition. -/
structure Fit (r u l : Int) : Prop where
  r0 : 0 ≤ r
  r1 : r ≤ 1099511627776
  l0 : 0 ≤ l
  lu : l ≤ u
  u1 : u ≤ 1099511627776
def takeB (n l : Int) : Bool := decide (n ≤ l)
def takeL (n l : Int) : Int := if n ≤ l then l - n else l
def tickE (n : Int) : Int := if n < 0 then 1 else 0
def tickN (r u l n : Int) : Int := if n < 0 then l else tickL r u l n
theorem takeB_true {n l : Int} : takeB n l = true ↔ n ≤ l := by unfold takeB; simp
theorem takeB_false {n l : Int} : takeB n l = false ↔ l < n := by unfold takeB; simp
theorem fit_take {r u l n : Int} (h : Fit r u l) (hn : 0 ≤ n) : Fit r u (takeL n l) := by
  have := h.l0; have := h.lu
  unfold takeL
  split
  · exact ⟨h.r0, h.r1, by omega, by omega, h.u1⟩
  · exact h
theorem fit_tick {r u l n : Int} (h : Fit r u l) : Fit r u (tickN r u l n) := by
  have := h.l0; have := h.lu
  unfold tickN tickL
  split
  · exact h
  · have hm : 0 ≤ n * r := Int.mul_nonneg (by omega) h.r0
    split
    · exact ⟨h.r0, h.r1, by omega, by omega, h.u1⟩
    · exact ⟨h.r0, h.r1, by omega, by omega, h.u1⟩
theorem take_any (b : Nat) (i r u l n : Int) (w : World) (hB : Bu w b i r u l) (hF : Fit r u l) (h0 : 0 ≤ n) (h1 : n < 18446744073709551616) : Calls Try.prog 12 #[.pointer (some ⟨b, 0, none⟩), .int .u64 n] w fun e w' => e = .returned (.bool (takeB n l)) ∧ Bu w' b i r u (takeL n l) ∧ w.grownBy w' (some b) := by
  have := hF.l0; have := hF.lu; have := hF.u1
  by_cases h : n ≤ l
  · rw [takeB_true.mpr h, show takeL n l = l - n from if_pos h]
    exact take_yes b i r u l n w hB h0 h (by omega)
  · rw [takeB_false.mpr (by omega), show takeL n l = l from if_neg h]
    exact (take_no b i r u l n w hB (by omega) (by omega) h1).mono fun _ _ ⟨he, hw⟩ => ⟨he, by rw [hw]; exact hB, by rw [hw]; exact World.grownBy.refl _ _⟩
theorem tick_any (b : Nat) (i r u l n : Int) (w : World) (hB : Bu w b i r u l) (hF : Fit r u l) (h0 : -9223372036854775808 ≤ n) (h1 : n < 9223372036854775808) : Calls Try.prog 14 #[.pointer (some ⟨b, 0, none⟩), .int .i64 n] w fun e w' => e = .returned (.int .i64 (tickE n)) ∧ Bu w' b i r u (tickN r u l n) ∧ w.grownBy w' (some b) := by
  have hl := hF.lu
  by_cases h : n < 0
  · rw [show tickE n = 1 from if_pos h, show tickN r u l n = l from if_pos h]
    exact (tick_neg b i r u l n w h).mono fun _ _ ⟨he, hw⟩ => ⟨he, by rw [hw]; exact hB, by rw [hw]; exact World.grownBy.refl _ _⟩
  · rw [show tickE n = 0 from if_neg h, show tickN r u l n = tickL r u l n from if_neg h]
    by_cases hr : r = 0
    · subst hr
      have e : tickL 0 u l n = l := by unfold tickL; rw [Int.mul_zero, Int.add_zero, if_pos hl]
      rw [e]
      exact (tick_zero b i u l n w hB (by omega)).mono fun _ _ ⟨he, hw⟩ => ⟨he, by rw [hw]; exact hB, by rw [hw]; exact World.grownBy.refl _ _⟩
    · have := hF.r0
      exact tick_go b i r u l n w hB (by omega) hF.r1 hF.l0 hF.lu hF.u1 (by omega) h1
/-- One act, as 'played' does it. -/
def stepL (r u l : Int) (x : Act) : Int := if x.1 = 0 then takeL x.2.1 l else if x.1 = 1 then tickN r u l x.2.2 else l
def lev (r u : Int) (l : List Act) : Int := l.foldl (stepL r u) u
theorem lev_snoc (r u : Int) (l : List Act) (k : Nat) (hk : k < l.length) : lev r u (l.take (k + 1)) = stepL r u (lev r u (l.take k)) l[k] := by
  unfold lev
  rw [List.take_succ_eq_append_getElem hk, List.foldl_append]
  rfl
theorem fit_step {r u l : Int} {x : Act} (h : Fit r u l) (hx : ActOk x) : Fit r u (stepL r u l x) := by
  unfold stepL
  split
  · exact fit_take h hx.2.1.1
  · split
    · exact fit_tick h
    · exact h
theorem fit_lev {r u : Int} {l : List Act} (h : Fit r u u) (hl : ∀ x ∈ l, ActOk x) : Fit r u (lev r u l) := by
  unfold lev
  suffices ∀ (l : List Act) (v : Int), (∀ x ∈ l, ActOk x) → Fit r u v → Fit r u (l.foldl (stepL r u) v) from this l u hl h
  intro l
  induction l with
  | nil => intro v _ h; exact h
  | cons x l ih => intro v hx h; exact ih _ (fun y hy => hx y (List.mem_cons_of_mem _ hy)) (fit_step h (hx x (List.mem_cons_self ..)))
theorem fit_take_lev {r u : Int} {l : List Act} (h : Fit r u u) (hl : ∀ x ∈ l, ActOk x) (k : Nat) : Fit r u (lev r u (l.take k)) := fit_lev h (fun x hx => hl x (List.mem_of_mem_take hx))
theorem mayB_fit {i r u : Int} (h : mayB i r u = true) : Fit r u u := by
  unfold mayB at h
  simp at h
  exact ⟨by omega, by omega, by omega, by omega, by omega⟩
def PlayRel (b : Nat) (i r u : Int) (l : List Act) (w : World) (t : Value) (wr : World) : Prop :=
  ∃ k : Nat, k ≤ l.length ∧ t = .int .i64 k ∧ Bu wr b i r u (lev r u (l.take k)) ∧ Kp w.heap.size w wr
def PlayYes (w : World) (i r u : Int) (l : List Act) (e : Ending) (w' : World) : Prop := ∃ b, e = .returned (.pointer (some ⟨b, 0, none⟩)) ∧ w.heap.size ≤ b ∧ Bu w' b i r u (lev r u l) ∧ w.grownBy w' none
set_option maxHeartbeats 4000000 in
theorem played_yes (i r u : Int) (A : Option Addr) (c : Nat) (l : List Act) (w : World) (h : mayB i r u = true) (hA : Acts w A l) (hm : l.length ≤ 140737488351232) :
    Calls Try.prog 15 #[.agg #[.int .i64 i, .int .i64 r, .int .i64 u], .slice A l.length c] w (PlayYes w i r u l) := by
  have hF := mayB_fit h
  go_enter Try.func15, Try.ntmps15
  go_wp2_with fail
  refine (new_yes i r u _ h).mono ?_
  rintro e w1 ⟨b, rfl, hb, hB, hg⟩
  have hb0 : w.heap.size ≤ b := by simp at hb; omega
  have HK : Kp w.heap.size w w1 := ((Kp.refl w).alloc _).none_ hg
  clear hg hb
  go_wp2_with fail
  go_loopw [7] (fun t wr => PlayRel b i r u l w t wr) (fun t _ => l.length - (intOf t).toNat)
  case atStart => exact ⟨0, Nat.zero_le _, rfl, hB, HK⟩
  case round =>
    obtain ⟨k, hk, rfl, hB1, HK1⟩ := hrel
    have hF1 := fit_take_lev hF hA.ok k
    by_cases hlt : k < l.length
    · obtain ⟨g, o, rfl, c0, c1, c2⟩ := (hA.kp HK1).at_ hlt
      have hok := hA.ok _ (List.getElem_mem hlt)
      have hs := lev_snoc r u l k hlt
      obtain ⟨⟨x0, x1, x2⟩, hx⟩ : ∃ x, l[k] = x := ⟨_, rfl⟩
      rw [hx] at c0 c1 c2 hok hs
      clear hx
      obtain ⟨o0, o1, o2⟩ := hok
      simp only [] at o0 o1 o2 c0 c1 c2
      generalize hv : lev r u (l.take k) = v at *
      clear hv
      by_cases q0 : x0 = 0
      · have hs' : lev r u (l.take (k + 1)) = takeL x1 v := hs.trans (if_pos q0)
        have HS := Lib.hid hs'
        subst q0
        clear hs hs'
        go_wp2_with fail
        refine (take_any b i r u v x1 _ hB1 hF1 o1.1 o1.2).mono ?_
        clear hB1
        rintro e w2 ⟨rfl, hB1, hg⟩
        replace HK1 := HK1.some_ hg hb0
        clear hg
        go_wp2_with fail
        go_roundw
        case rel => exact ⟨k + 1, by omega, by go_num, by rw [HS.out]; exact hB1, HK1⟩
        case measure => simp [intOf]; omega
      · by_cases q1 : x0 = 1
        · have hs' : lev r u (l.take (k + 1)) = tickN r u v x2 := hs.trans ((if_neg q0).trans (if_pos q1))
          have HS := Lib.hid hs'
          subst q1
          clear hs hs' q0
          go_wp2_with fail
          refine (tick_any b i r u v x2 _ hB1 hF1 o2.1 o2.2).mono ?_
          clear hB1
          rintro e w2 ⟨rfl, hB1, hg⟩
          replace HK1 := HK1.some_ hg hb0
          clear hg
          go_wp2_with fail
          go_roundw
          case rel => exact ⟨k + 1, by omega, by go_num, by rw [HS.out]; exact hB1, HK1⟩
          case measure => simp [intOf]; omega
        · have hs' : lev r u (l.take (k + 1)) = v := hs.trans ((if_neg q0).trans (if_neg q1))
          have HS := Lib.hid hs'
          have e0 : (x0 == 0) = false := beq_eq_false_iff_ne.mpr q0
          have e1 : (x0 == 1) = false := beq_eq_false_iff_ne.mpr q1
          clear hs hs'
          go_wp2_with fail
          go_roundw
          case rel => exact ⟨k + 1, by omega, by go_num, by rw [HS.out]; exact hB1, HK1⟩
          case measure => simp [intOf]; omega
    · obtain rfl : k = l.length := by omega
      rw [List.take_length] at hB1
      go_wp2_with fail
      go_ret
      exact ⟨b, rfl, hb0, hB1, ⟨HK1.below.os, HK1.below.tape, HK1.below.output, HK1.below.size, fun q hq _ => HK1.below.block q hq⟩⟩
theorem played_no (i r u : Int) (V : Value) (w : World) (h : mayB i r u = false) :
    Calls Try.prog 15 #[.agg #[.int .i64 i, .int .i64 r, .int .i64 u], V] w fun e w' => e = .returned (.pointer none) ∧ w.grownBy w' none := by
  go_enter Try.func15, Try.ntmps15
  go_wp2_with fail
  refine (new_no i r u _ h).mono ?_
  rintro e w1 ⟨rfl, hg⟩
  go_wp2_with fail
  go_ret
  exact ⟨rfl, gb_trans (World.grownBy_alloc _ _ _) hg⟩
end Go.Proofs.Ytohinfbahjepoaa.Base
