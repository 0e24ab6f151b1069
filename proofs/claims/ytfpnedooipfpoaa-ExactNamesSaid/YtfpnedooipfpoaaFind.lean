/- Where a key is, or would be: find; how many slots, how many keys. Conditions: as each contract says. -/
import Derived.Test.YtfpnedooipfpoaaBase
set_option linter.unusedVariables false
set_option linter.unusedSimpArgs false
namespace Go.Proofs.Ytfpnedooipfpoaa.Base
open Go Go.RowKit Go.Proofs.Ytfpnedooipfpoaa Go.Proofs.Ytfpnedooipfpoaa.Ex Go.Proofs.Ytfpnedooipfpoaa.Mem Go.Proofs.Ytfpnedooipfpoaa.Math Go.Proofs.YtfpnedooipfpoaaW.PrintWords Go.Proofs.YtfpnedooipfpoaaW.PrintLast Go.Proofs.Ytfpnedooipfpoaa.PExactHalf
theorem bytes_inj {a b : ByteArray} (h : a.toList = b.toList) : a = b := by
  rw [ByteArray.toList_eq, ByteArray.toList_eq] at h
  exact ByteArray.ext (Array.toList_inj.mp h)
/-- So many slots are gone over. -/
def FdR (L : Slots) (k : Key) (w : World) (t : Value) (wr : World) : Prop := ∃ i : Nat, t = .int .i64 (((plc HH L.length k + i) % L.length : Nat) : Int) ∧ i < L.length ∧ (∀ j, j < i → stopB k (gt L ((plc HH L.length k + j) % L.length)) = false) ∧ Below w.heap.size w wr
theorem find_is {L : Slots} {k : Key} (hf : ∃ x, x < L.length ∧ gt L x = none) {i : Nat} (hi : i < L.length) (hlo : ∀ j, j < i → stopB k (gt L ((plc HH L.length k + j) % L.length)) = false) (hs : stopB k (gt L ((plc HH L.length k + i) % L.length)) = true) : (plc HH L.length k + i) % L.length = find HH L k := by
  obtain ⟨t, t1, t2, t3, t4⟩ := find_spec hlim hf k
  rcases Nat.lt_trichotomy t i with h | h | h
  · have := hlo t h
    rw [← t2, t3] at this
    cases this
  · rw [t2, h]
  · have := t4 i h
    rw [hs] at this
    cases this
theorem go_on {L : Slots} {k : Key} (hf : ∃ x, x < L.length ∧ gt L x = none) {i : Nat} (hi : i < L.length) (hlo : ∀ j, j < i → stopB k (gt L ((plc HH L.length k + j) % L.length)) = false) (hs : stopB k (gt L ((plc HH L.length k + i) % L.length)) = false) : i + 1 < L.length ∧ ∀ j, j < i + 1 → stopB k (gt L ((plc HH L.length k + j) % L.length)) = false := by
  have hall : ∀ j, j < i + 1 → stopB k (gt L ((plc HH L.length k + j) % L.length)) = false := fun j hj => by
    rcases Nat.lt_or_ge j i with h | h
    · exact hlo j h
    · rw [show j = i by omega]; exact hs
  obtain ⟨t, t1, t2, t3, t4⟩ := find_spec hlim hf k
  refine ⟨?_, hall⟩
  rcases Nat.lt_or_ge (i + 1) L.length with h | h
  · exact h
  · have := hall t (by omega)
    rw [← t2, t3] at this
    cases this
set_option maxHeartbeats 3200000 in
theorem find_any (a g cap : Nat) (L : Slots) (n : Int) (k : Key) (w : World) (h : TM w a g cap L n) (hp : Pw L.length) (hf : ∃ x, x < L.length ∧ gt L x = none) (hk : k.size ≤ 140737488351232) :
    Calls Try.prog 19 #[ptr a, .string k] w fun e w' => e = .returned (.int .i64 ((find HH L k : Nat) : Int)) ∧ Below w.heap.size w w' := by
  have HM := Lib.hid h
  have HP := Lib.hid hp
  have HF := Lib.hid hf
  have hpos := hp.pos
  have hpl := plc_lt hlim (show 0 < L.length by omega) k
  have HPL := Lib.hid hpl
  have HLE := Lib.hid hpos
  have HKK := Lib.hid hk
  clear h hp hf hk hpl hpos
  go_enter Try.func19, Try.ntmps19
  go_wp2_with fail
  refine (place_any a g cap L n k w HM.out HP.out HKK.out).mono ?_
  rintro e w1 ⟨rfl, hb⟩
  have HR0 := Lib.hid (show FdR L k w (.int .i64 ((plc HH L.length k : Nat) : Int)) w1 from ⟨0, by rw [Nat.add_zero, Nat.mod_eq_of_lt HPL.out], by have := HLE.out; omega, (fun j hj => by omega), hb⟩)
  clear hb
  go_wp2_with fail
  go_loopw [5] (fun t wr => FdR L k w t wr) (fun t _ => L.length - aw L.length (plc HH L.length k) (intOf t).toNat)
  case atStart => exact HR0.out
  case round =>
    clear HR0
    obtain ⟨i, rfl, hi, hlo, hB⟩ := hrel
    have hm := HM.out.go hB
    have hat : (plc HH L.length k + i) % L.length < L.length := Nat.mod_lt _ (by omega)
    have haw := aw_add HPL.out hi
    obtain ⟨at_, he⟩ : ∃ at_, (plc HH L.length k + i) % L.length = at_ := ⟨_, rfl⟩
    have HAT := Lib.hid he
    rw [he] at hat haw ⊢
    have HI := Lib.hid hi
    have HLO := Lib.hid hlo
    have HB := Lib.hid hB
    have c0 := hm.box.cell 0
    rw [show #[Value.slice (some ⟨g, 0, none⟩) L.length cap, .int .i64 n][0]? = some (.slice (some ⟨g, 0, none⟩) L.length cap) from rfl] at c0
    obtain ⟨b, kk, v, d0, d1, d2, -, hgt, -⟩ := hm.at_ at_ hat
    have HMR := Lib.hid hm
    have HGT := Lib.hid hgt
    have HATL := Lib.hid hat
    have HAW := Lib.hid haw
    have HSTEP := Lib.hid (show ((at_ + 1) % L.length) = (plc HH L.length k + (i + 1)) % L.length by rw [← he]; exact step_add _ _)
    have k1 : (at_ : Int) < (L.length : Int) := by omega
    have k0 : (0 : Int) ≤ (at_ : Int) := by omega
    clear hi hlo hB hm he hgt hat haw
    cases b with
    | false =>
      have HFI := Lib.hid (show at_ = find HH L k by rw [← HAT.out]; exact find_is HF.out HI.out HLO.out (by rw [HAT.out, HGT.out]; rfl))
      go_wp2_with fail
      go_ret
      exact ⟨by rw [← HFI.out] <;> rfl, HB.out⟩
    | true =>
      by_cases hkk : kk = k
      · have hke : (kk.toList == k.toList) = true := by rw [hkk]; exact beq_self_eq_true _
        have HFI := Lib.hid (show at_ = find HH L k by rw [← HAT.out]; exact find_is HF.out HI.out HLO.out (by rw [HAT.out, HGT.out]; exact decide_eq_true hkk))
        clear hkk
        go_wp2_with fail
        go_ret
        exact ⟨by rw [← HFI.out] <;> rfl, HB.out⟩
      · have hke : (kk.toList == k.toList) = false := beq_eq_false_iff_ne.2 (fun e => hkk (bytes_inj e))
        have HGO := Lib.hid (go_on HF.out HI.out HLO.out (by rw [HAT.out, HGT.out]; exact decide_eq_false hkk))
        clear hkk
        go_wp2_with fail
        have hnx := next_any a g cap L n at_ wr HMR.out HP.out HATL.out
        rw [HSTEP.out] at hnx
        obtain ⟨nx, hx⟩ : ∃ nx, (plc HH L.length k + (i + 1)) % L.length = nx := ⟨_, rfl⟩
        have HNX := Lib.hid hx
        rw [hx] at hnx
        clear hx
        refine hnx.mono ?_
        rintro e _ ⟨rfl, rfl⟩
        clear hnx
        go_wp2_with fail
        go_roundw
        case rel => exact ⟨i + 1, by rw [HNX.out], HGO.out.1, HGO.out.2, HB.out⟩
        case measure =>
          have h1 := HAW.out
          have h2 : aw L.length (plc HH L.length k) nx = i + 1 := by rw [← HNX.out]; exact aw_add HPL.out HGO.out.1
          have h3 := HGO.out.1
          simp only [intOf, Int.toNat_natCast]
          rw [h1, h2]
          omega
end Go.Proofs.Ytfpnedooipfpoaa.Base
