/- The examples: awake (8). Conditions: as the contract says. -/
import Derived.Test.YtfpnedooipfpoaaMine
set_option linter.unusedVariables false
set_option linter.unusedSimpArgs false
namespace Go.Proofs.Ytfpnedooipfpoaa.Base
open Go Go.RowKit Go.Proofs.Ytfpnedooipfpoaa Go.Proofs.Ytfpnedooipfpoaa.Ex Go.Proofs.Ytfpnedooipfpoaa.Mem Go.Proofs.Ytfpnedooipfpoaa.Math Go.Proofs.YtfpnedooipfpoaaW.PrintWords Go.Proofs.YtfpnedooipfpoaaW.PrintLast Go.Proofs.Ytfpnedooipfpoaa.PExactHalf
theorem findGo_stop (k : Key) (L : Slots) (n a : Nat) (hn : 0 < n) (h : stopB k (gt L a) = true) : findGo k L n a = a := by
  obtain ⟨n, rfl⟩ : ∃ m, n = m + 1 := ⟨n - 1, by omega⟩
  rw [findGo, if_pos h]
theorem new8_len : new8.L.length = 8 := List.length_replicate
theorem find_new (k : Key) : find HH new8.L k = plc HH new8.L.length k := by
  unfold find
  refine findGo_stop k _ _ _ (by rw [new8_len]; decide) ?_
  generalize plc HH new8.L.length k = a
  rw [show gt new8.L a = none from gt_rep 8 a]
  rfl
theorem looks_new (k : Key) : looks HH new8 k = 1 := by
  unfold looks
  rw [find_new, aw_self (plc_lt hlim (by rw [new8_len]; decide) k)]
abbrev KA : Key := ⟨#[97]⟩
def K1 (i : Nat) : Key := ⟨#[i.toUInt8]⟩
theorem K1_inj {i j : Nat} (hi : i < 256) (hj : j < 256) (h : K1 i = K1 j) : i = j := by
  have h1 : i.toUInt8 = j.toUInt8 := by
    have := congrArg (fun k : ByteArray => k.data) h
    simpa [K1] using this
  have h2 := congrArg UInt8.toNat h1
  rw [Nat.toUInt8_eq, Nat.toUInt8_eq, UInt8.toNat_ofNat', UInt8.toNat_ofNat'] at h2
  omega
theorem K1_a : K1 97 = KA := rfl
theorem one_C {g : Nat} {w : World} {x : Int} (hb : Blk w g 5 #[.int .u8 x]) : (Kd.int .u8).C w (some ⟨g, 0, none⟩) 1 [x] := by
  refine ⟨rfl, by simp, fun _ => ⟨_, rfl, fun j p hj => ⟨[.int .u8 p], rfl, rfl, fun i u hu => ?_⟩⟩⟩
  have hi : i = 0 := by
    have := (List.getElem?_eq_some_iff.1 hu).1
    simp at this
    exact this
  subst hi
  simp at hu
  subst hu
  have hj0 : j = 0 := by
    have := (List.getElem?_eq_some_iff.1 hj).1
    simp at this
    exact this
  subst hj0
  simp at hj
  subst hj
  show w.cell? (Addr.add ⟨g, 0, none⟩ (0 * 1 + 0)) = _
  rw [Mem.add_at, hb.cell]
  rfl
theorem conv_one (i : Nat) (w : World) : (convert 39 9 (.slice (some ⟨w.heap.size, 0, none⟩) 1 1)).run Try.prog (w.alloc (.cells #[.int .u8 (i : Int)] 5)) = .ok (.string (K1 i)) (w.alloc (.cells #[.int .u8 (i : Int)] 5)) := by
  have h := Kd.C_string (P := Try.prog) (c := 1) Try.underlying39 Try.underlying5 Try.underlying9 (one_C (Blk.new w 5 #[.int .u8 (i : Int)]))
  rw [h]
  rfl
structure AwS (i : Nat) (T : Tb) : Prop where
  lo : 98 ≤ i
  hi : i ≤ 102
  n : T.n = i - 97
  len : T.L.length = if i = 102 then 16 else 8
  a : has T.L KA 7
  no : ∀ j, i ≤ j → j < 256 → ∀ v, ¬ has T.L (K1 j) v
theorem AwS.next {i : Nat} {T : Tb} (h : AwS i T) (hg : Ex.Good HH T) (hi : i < 102) : AwS (i + 1) (put HH T (K1 i) 1).2 := by
  have hl := h.len
  rw [if_neg (by omega)] at hl
  have hn := h.n
  have h0 := h.lo
  rcases put_spec hlim hg (K1 i) 1 with ⟨v0, T2, hv, -⟩ | ⟨T2, -, e, h1, h2, h3, h4, -⟩
  · exact absurd hv (h.no i (Nat.le_refl _) (by omega) v0)
  · rw [e]
    refine ⟨by omega, by omega, by show T2.n = _; omega, ?_, ?_, fun j hj hj2 v hv => ?_⟩
    · show T2.L.length = _
      rw [h3, hl]
      have hc : 8 < 2 * (T.n + 1) ↔ i + 1 = 102 := by omega
      by_cases hq : i + 1 = 102
      · rw [if_pos hq, if_pos (hc.2 hq)]
      · rw [if_neg hq, if_neg (fun x => hq (hc.1 x))]
    · refine (h4 _ _).2 (.inr ⟨fun e => ?_, h.a⟩)
      have := K1_inj (by decide) (by omega) (K1_a.trans e)
      omega
    · rcases (h4 _ _).1 hv with ⟨e, -⟩ | ⟨-, h5⟩
      · have := K1_inj (by omega) (by omega) e
        omega
      · exact h.no j (by omega) hj2 v h5
def AwR (w : World) (a : Nat) (t8 : Value) (wr : World) : Prop := ∃ (i : Nat) (T : Tb), t8 = .int .u8 (i : Int) ∧ AwS i T ∧ Mine w wr a T
theorem aw_one : ∃ T, put HH new8 KA 5 = ((0, false), T) ∧ T.n = 1 ∧ T.L.length = 8 ∧ Ex.Good HH T ∧ ∀ k v, has T.L k v ↔ k = KA ∧ v = 5 := by
  rcases put_spec hlim good_new KA 5 with ⟨v0, T2, hv, -⟩ | ⟨T2, -, e, h1, h2, h3, h4, -⟩
  · exact absurd hv (new_none _ _)
  · exact ⟨T2, e, h2, h3, h1, fun k v => ⟨fun h => by
      rcases (h4 k v).1 h with h | ⟨-, h⟩
      · exact h
      · exact absurd h (new_none _ _), fun h => (h4 k v).2 (.inl h)⟩⟩
theorem aw_two {T : Tb} (hg : Ex.Good HH T) (hn : T.n = 1) (hl : T.L.length = 8) (hh : ∀ k v, has T.L k v ↔ k = KA ∧ v = 5) : ∃ T', put HH T KA 7 = ((5, true), T') ∧ AwS 98 T' ∧ Ex.Good HH T' := by
  rcases put_spec hlim hg KA 7 with ⟨v0, T2, hv, e, h1, h2, h3, h4⟩ | ⟨T2, hno, -⟩
  · obtain ⟨-, rfl⟩ := (hh _ _).1 hv
    refine ⟨T2, e, ⟨Nat.le_refl _, by decide, by rw [h2, hn], by rw [h3, hl]; rfl, (h4 _ _).2 (.inl ⟨rfl, rfl⟩), fun j hj hj2 v h => ?_⟩, h1⟩
    have hk : K1 j = KA := by
      rcases (h4 _ _).1 h with ⟨e, -⟩ | ⟨-, h⟩
      · exact e
      · exact ((hh _ _).1 h).1
    have := K1_inj (by omega) (by decide) (hk.trans K1_a.symm)
    omega
  · exact absurd ((hh _ _).2 ⟨rfl, rfl⟩) (hno 5)
set_option maxHeartbeats 3200000 in
set_option maxRecDepth 100000 in
theorem awake_any (w : World) : Calls Try.prog 8 #[] w fun e w' => e = .returned (.bool true) ∧ Below w.heap.size w w' := by
  have HL := Lib.hid (looks_new ⟨#[97, 110, 121]⟩)
  obtain ⟨T1, q1, n1, l1, g1, hh1⟩ := aw_one
  obtain ⟨T2, q2, s2, g2⟩ := aw_two g1 n1 l1 hh1
  have Q1 := Lib.hid q1
  have Q2 := Lib.hid q2
  have S2 := Lib.hid s2
  have L1 := Lib.hid l1
  have G2 := Lib.hid (get_has hlim g2 s2.a)
  clear q1 n1 l1 g1 hh1 q2 s2 g2
  go_enter Try.func8, Try.ntmps8
  go_wp2_with fail
  refine (Mine.new w).mono ?_
  rintro e w1 ⟨a, rfl, hm⟩
  have HM1 := Lib.hid hm
  clear hm
  go_wp2_with fail
  have hlk := HM1.out.looks ⟨#[97, 110, 121]⟩ (by decide)
  rw [HL.out] at hlk
  refine hlk.mono ?_
  clear hlk
  rintro e w2 ⟨rfl, hm, -⟩
  have HM2 := Lib.hid hm
  clear hm
  go_wp2_with fail
  have hsl := HM2.out.slots
  rw [show ((new8.L.length : Nat) : Int) = 8 by rw [new8_len]; rfl] at hsl
  refine hsl.mono ?_
  clear hsl
  rintro e w3 ⟨rfl, hww⟩; replace hww := hww.symm; subst hww
  go_wp2_with fail
  have hp := HM2.out.put KA 5 (by decide) (by rw [new8_len]; exact ⟨4, by decide, by decide⟩)
  rw [Q1.out] at hp
  refine hp.mono ?_
  clear hp
  rintro e w3 ⟨rfl, hm⟩
  have HM3 := Lib.hid hm
  clear hm HM1 HM2
  go_wp2_with fail
  have hp := HM3.out.put KA 7 (by decide) (by rw [L1.out]; exact ⟨4, by decide, by decide⟩)
  rw [Q2.out] at hp
  refine hp.mono ?_
  clear hp
  rintro e w4 ⟨rfl, hm⟩
  have HM4 := Lib.hid hm
  clear hm HM3
  go_wp2_with fail
  have hp := HM4.out.get KA (by decide)
  rw [G2.out] at hp
  refine hp.mono ?_
  clear hp
  rintro e w5 ⟨rfl, hm, -⟩
  have HX := Lib.hid (show AwR w a (.int .u8 98) w5 from ⟨98, T2, rfl, S2.out, hm⟩)
  clear hm HM4
  go_wp2_with fail
  go_loopw [8] (fun t wr => AwR w a t wr) (fun t _ => 102 - (intOf t).toNat)
  case atStart => exact HX.out
  case round =>
    clear HX HL Q1 Q2 S2 L1 G2
    obtain ⟨i, T, rfl, hs, hm⟩ := hrel
    have HS := Lib.hid hs
    have HM := Lib.hid hm
    have hlo := hs.lo
    have hhi := hs.hi
    clear hs hm
    by_cases hi : i < 102
    · have k0 : (i : Int) < 102 := by omega
      have k1 : (98 : Int) ≤ (i : Int) := by omega
      have hcv := conv_one i wr
      have HMA := Lib.hid (HM.out.go ((Below.refl _ _).alloc (Nat.le_refl _) (.cells #[.int .u8 (i : Int)] 5)))
      have hl := HS.out.len
      rw [if_neg (by omega)] at hl
      have HN := Lib.hid (HS.out.next HM.out.good hi)
      have HP := Lib.hid (HMA.out.put (K1 i) 1 (show (1 : Nat) ≤ _ by decide) (by rw [hl]; exact ⟨4, by decide, by decide⟩))
      clear hl hi
      go_wp2_with fail
      refine HP.out.mono ?_
      rintro e w6 ⟨rfl, hm⟩
      have HM6 := Lib.hid hm
      clear hm hcv HP HMA
      go_wp2_with fail
      go_roundw
      case rel => exact ⟨i + 1, _, by rw [Int.natCast_add] <;> rfl, HN.out, HM6.out⟩
      case measure =>
        rw [show ((i : Int) + 1) = ((i + 1 : Nat) : Int) by omega]
        simp only [intOf, Int.toNat_natCast]
        omega
    · have hie : i = 102 := by omega
      subst hie
      have k0 : ¬ (102 : Int) < 102 := by omega
      have hn := HS.out.n
      have hl := HS.out.len
      rw [if_pos rfl] at hl
      have hl2 : ((T.L.length : Nat) : Int) = 16 := by omega
      have hn2 : ((T.n : Nat) : Int) = 5 := by omega
      obtain ⟨T3, q3, g3, n3, no3⟩ : ∃ T3, del HH T KA = (true, T3) ∧ Ex.Good HH T3 ∧ T3.n = 4 ∧ ∀ v, ¬ has T3.L KA v := by
        rcases del_spec hlim HM.out.good KA with ⟨v0, T2, hv, e, h1, h2, h3, h4⟩ | ⟨hno, -⟩
        · exact ⟨T2, e, h1, by omega, fun v hv => ((h4 _ _).1 hv).2 rfl⟩
        · exact absurd HS.out.a (hno 7)
      have q4 : del HH T3 KA = (false, T3) := by
        rcases del_spec hlim g3 KA with ⟨v0, T4, hv, -⟩ | ⟨-, e⟩
        · exact absurd hv (no3 v0)
        · exact e
      have q5 := get_no hlim g3 no3
      have n4 : ((T3.n : Nat) : Int) = 4 := by omega
      have Q3 := Lib.hid q3
      have Q4 := Lib.hid q4
      have Q5 := Lib.hid q5
      have N4 := Lib.hid n4
      have HLL := Lib.hid hl2
      have HNN := Lib.hid hn2
      clear q3 q4 q5 n3 n4 no3 g3 hl2 hn2 hn hl hi hlo hhi
      go_wp2_with fail
      have h1 := HM.out.len
      rw [HNN.out] at h1
      refine h1.mono ?_
      clear h1
      rintro e w3 ⟨rfl, hww⟩; replace hww := hww.symm; subst hww
      go_wp2_with fail
      have h1 := HM.out.slots
      rw [HLL.out] at h1
      refine h1.mono ?_
      clear h1
      rintro e w3 ⟨rfl, hww⟩; replace hww := hww.symm; subst hww
      go_wp2_with fail
      have h1 := HM.out.del KA (by decide)
      rw [Q3.out] at h1
      refine h1.mono ?_
      clear h1
      rintro e w3 ⟨rfl, hm⟩
      have HM3 := Lib.hid hm
      clear hm HM
      go_wp2_with fail
      have h1 := HM3.out.get KA (by decide)
      rw [Q5.out] at h1
      refine h1.mono ?_
      clear h1
      rintro e w4 ⟨rfl, hm, -⟩
      have HM4 := Lib.hid hm
      clear hm HM3
      go_wp2_with fail
      have h1 := HM4.out.del KA (by decide)
      rw [Q4.out] at h1
      refine h1.mono ?_
      clear h1
      rintro e w5 ⟨rfl, hm⟩
      have HM5 := Lib.hid hm
      clear hm HM4
      go_wp2_with fail
      have h1 := HM5.out.len
      rw [N4.out] at h1
      refine h1.mono ?_
      clear h1
      rintro e w3 ⟨rfl, hww⟩; replace hww := hww.symm; subst hww
      go_wp2_with fail
      go_ret
      exact ⟨rfl, HM5.out.below⟩
end Go.Proofs.Ytfpnedooipfpoaa.Base
