/- Are two rows of numbers the same, and what goes: the statements' own functions. Conditions: as each contract says. -/
import Derived.Test.YtpmckbpplkkgaaaGChoose
import Derived.BigQuiet
set_option linter.unusedVariables false
set_option linter.unusedSimpArgs false
namespace Go.Proofs.Ytpmckbpplkkgaaa.Base
open Go Go.RowKit Go.Proofs.Ytpmckbpplkkgaaa.Mem Go.Proofs.YtpmckbpplkkgaaaW.PrintWords Go.Proofs.YtpmckbpplkkgaaaW.PrintLast Go.Proofs.Ytpmckbpplkkgaaa.Fl
open Go.Proofs.Ytpmckbpplkkgaaa.PGroupTells (S34 z34 k34 k34_open k34_mk)
theorem i64_at {w : World} {A : Option Addr} {l : List Int} (h : Kd.C (Kd.int .i64) w A l.length l) (i : Nat) (hi : i < l.length) : ∃ ad, A = some ad ∧ w.cell? (ad.add i) = some (.int .i64 l[i]) := by
  obtain ⟨g, o, cs, rfl, hK, -, hc⟩ := row_at h (by decide : 0 < (Kd.int .i64).sz) hi
  obtain rfl : cs = [.int .i64 l[i]] := hK
  have := hc 0 _ rfl
  rw [show o + i * (Kd.int .i64).sz + 0 = o + i from by show o + i * 1 + 0 = o + i; omega] at this
  exact ⟨_, rfl, by rw [Mem.add_at]; exact this⟩
def IR (n : Nat) (l m : List Int) (w : World) (t : Value) (wr : World) : Prop := ∃ i : Nat, t = .int .i64 (i : Int) ∧ i ≤ n ∧ l.take i = m.take i ∧ ∃ q, wr = w.drewN q
set_option maxHeartbeats 1600000 in
theorem ints_same (n : Nat) (A0 : Option Addr) (c0 : Nat) (l : List Int) (A1 : Option Addr) (c1 : Nat) (m : List Int) (w : World) (hn : Hid (l.length = n)) (hm : Hid (m.length = n)) (h0 : Kd.C (Kd.int .i64) w A0 l.length l) (hc0 : n ≤ c0) (h1 : Kd.C (Kd.int .i64) w A1 m.length m) (hc1 : n ≤ c1) (hl : n < 1000000000) :
    Calls Try.prog 13 #[.slice A0 n c0, .slice A1 n c1] w fun e w' => e = .returned (.bool (l == m)) ∧ ∃ q, w' = w.drewN q := by
  have hR : IR n l m w (.int .i64 0) w := ⟨0, rfl, by omega, rfl, 0, rfl⟩
  have HL := Lib.hid h0
  have HM := Lib.hid h1
  clear h0 h1
  go_enter Try.func13, Try.ntmps13
  go_wp2_with fail
  go_loopw [5] (fun t wr => IR n l m w t wr) (fun t _ => n - (intOf t).toNat)
  case atStart => exact hR
  case round =>
    clear hR
    obtain ⟨i, rfl, hi, ht, q, rfl⟩ := hrel
    by_cases hgo : i < n
    · have hgo1 : i < l.length := by rw [hn.out]; exact hgo
      have hgo2 : i < m.length := by rw [hm.out]; exact hgo
      have k0 : (0 : Int) ≤ (i : Int) := by omega
      have k1 : (i : Int) < (n : Int) := by omega
      obtain ⟨ad, rfl, e0⟩ := i64_at HL.out i hgo1
      obtain ⟨ad', rfl, f0⟩ := i64_at HM.out i hgo2
      have HT := Lib.hid (show l[i] = m[i] → l.take (i + 1) = m.take (i + 1) from fun he => by rw [List.take_succ_eq_append_getElem hgo1, List.take_succ_eq_append_getElem hgo2, ht, he])
      have HN := Lib.hid (show ¬ l[i] = m[i] → (l == m) = false from fun he => by
        cases hb : l == m
        · rfl
        · have := eq_of_beq hb
          subst this
          exact absurd rfl he)
      clear ht
      generalize l[i] = x at *
      generalize m[i] = y at *
      clear hgo1 hgo2
      by_cases hxy : x = y
      · subst hxy
        go_wp2_with fail
        go_quiet (fail)
        go_wp2_with fail
        go_roundw
        case rel => exact ⟨i + 1, by go_num, by omega, HT.out trivial, _, rfl⟩
        case measure => simp [intOf]; omega
      · go_wp2_with fail
        go_quiet (fail)
        go_wp2_with fail
        go_ret
        rw [HN.out hxy]
        exact ⟨rfl, _, World.drewN_drewN ..⟩
    · obtain rfl : i = n := by omega
      have k1 : ¬ (i : Int) < (i : Int) := by omega
      have HT := Lib.hid (show (l == m) = true by
        rw [List.take_of_length_le (Nat.le_of_eq hn.out), List.take_of_length_le (Nat.le_of_eq hm.out)] at ht
        rw [ht]
        exact beq_self_eq_true _)
      clear ht
      go_wp2_with fail
      go_ret
      rw [HT.out]
      exact ⟨rfl, q, rfl⟩
theorem ints_any (A0 : Option Addr) (c0 : Nat) (l : List Int) (A1 : Option Addr) (c1 : Nat) (m : List Int) (w : World) (h0 : Kd.C (Kd.int .i64) w A0 l.length l) (hc0 : l.length ≤ c0) (h1 : Kd.C (Kd.int .i64) w A1 m.length m) (hc1 : m.length ≤ c1) (hl : l.length < 1000000000) :
    Calls Try.prog 13 #[.slice A0 l.length c0, .slice A1 m.length c1] w fun e w' => e = .returned (.bool (l == m)) ∧ ∃ q, w' = w.drewN q := by
  by_cases hlm : m.length = l.length
  · have h := ints_same l.length A0 c0 l A1 c1 m w (Lib.hid rfl) (Lib.hid hlm) h0 hc0 h1 (by omega) hl
    rw [hlm]
    exact h
  · have hx : (l == m) = false := by
      cases hb : l == m
      · rfl
      · exact absurd (congrArg List.length (eq_of_beq hb)).symm hlm
    have hlm2 : ¬ (l.length : Int) = (m.length : Int) := by omega
    have HX := Lib.hid hx
    clear hx hlm
    go_enter Try.func13, Try.ntmps13
    go_wp2_with fail
    go_ret
    rw [HX.out]
    exact ⟨rfl, 0, rfl⟩
/-- Does a group go just these? -/
def goesB (id kind field : Int) (l : List S34) (h : Nat) (want : List Int) : Bool :=
  ((gch id kind field l h).isSome == decide (0 < want.length)) && (((gch id kind field l h).getD []).map (fun (n : Nat) => (n : Int)) == want)
theorem iv_int (l : List Nat) : iv l = (l.map (fun (n : Nat) => (n : Int))).map (Value.int .i64) := by simp [iv]
theorem ch_C {w w1 : World} {v : Value} {l : List Nat} (h : w1.ownsRow w.heap.size 3 1 v l.length (iv l)) (hl : l.length < 1000000000) : ∃ A c, v = .slice A l.length c ∧ l.length ≤ c ∧ Kd.C (Kd.int .i64) w1 A (l.map (fun (n : Nat) => (n : Int))).length (l.map (fun (n : Nat) => (n : Int))) := by
  have hll : (l.map (fun (n : Nat) => (n : Int))).length = l.length := List.length_map ..
  rw [iv_int, ← hll] at h
  obtain ⟨A, c, e, hc, hC⟩ := own_C h (by rw [hll]; exact hl)
  rw [hll] at e hc
  exact ⟨A, c, e, hc, hC⟩
theorem gch_len (id kind field : Int) (l : List S34) (h : Nat) : ((gch id kind field l h).getD []).length ≤ l.length + 1 := by
  unfold gch
  split
  · split
    · simp
    · split <;> simp
  · simp
set_option maxHeartbeats 1600000 in
theorem goes_any (id kind field : Int) (A : Option Addr) (cp : Nat) (l : List S34) (h : Nat) (A1 : Option Addr) (c1 : Nat) (m : List Int) (n : Nat) (w : World) (hn : Hid (m.length = n)) (hr : Kd.C k34 w A l.length l) (hb : inB l) (hl : l.length < 1000000) (hh : h < 4294967296) (h1 : Kd.C (Kd.int .i64) w A1 m.length m) (hc1 : n ≤ c1) :
    Calls Try.prog 20 #[gV id kind field A l.length cp, .int .u32 (h : Int), .slice A1 n c1] w fun e w' => e = .returned (.bool (goesB id kind field l h m)) ∧ Below w.heap.size w w' := by
  have kA := (Below.refl w.heap.size w).alloc (Nat.le_refl _) (.cells #[.int .i64 id, .int .u8 kind, .int .i64 field, .slice A l.length cp] 27)
  have hG := Blk.new w 27 #[.int .i64 id, .int .u8 kind, .int .i64 field, .slice A l.length cp]
  have HC := Lib.hid (gchoose_any id kind field A cp l h _ (Kd.C_below hr kA) hb hl hh)
  have c0 := hG.cell 0
  have c1' := hG.cell 1
  have c2 := hG.cell 2
  have c3 := hG.cell 3
  have HG := Lib.hid (show goesB id kind field l h m = (((gch id kind field l h).isSome == decide (0 < n)) && (((gch id kind field l h).getD []).map (fun (n : Nat) => (n : Int)) == m)) from by rw [← hn.out]; rfl)
  have HLN := Lib.hid (gch_len id kind field l h)
  have H1 := Lib.hid h1
  have KA := Lib.hid kA
  generalize gch id kind field l h = o at *
  clear hr hb hG h1 kA
  have em : decide (0 < n) = decide ((0 : Int) < (n : Int)) := decide_eq_decide.2 (by omega)
  have EM := Lib.hid em
  clear em
  go_enter Try.func20, Try.ntmps20
  go_wp2_with fail
  generalize w.alloc (.cells #[.int .i64 id, .int .u8 kind, .int .i64 field, .slice A l.length cp] 27) = wA at *
  refine HC.out.mono ?_
  rintro e w1 ⟨v, rfl, ho, hb1⟩
  have hlo := HLN.out
  obtain ⟨A2, c2', rfl, hc2, hC2⟩ := ch_C ho (by omega)
  have hll : ((o.getD []).map (fun (n : Nat) => (n : Int))).length = (o.getD []).length := List.length_map ..
  have HQ := Lib.hid (ints_any A2 c2' ((o.getD []).map (fun (n : Nat) => (n : Int))) A1 c1 m w1 hC2 (by rw [hll]; exact hc2) (Kd.C_below H1.out (KA.out.trans (hb1.mono KA.out.size))) (by rw [hn.out]; exact hc1) (by rw [hll]; omega))
  rw [hll, hn.out] at HQ
  have HB := Lib.hid (KA.out.trans (hb1.mono KA.out.size))
  rw [EM.out] at HG
  clear hll hC2 hc2 ho hb1 hlo c0 c1' c2 c3
  generalize o.isSome = b1 at *
  clear hn HLN
  by_cases hq : (0 : Int) < (n : Int)
  · rw [decide_eq_true hq] at HG
    cases b1
    · go_wp2_with fail
      go_ret
      exact ⟨by rw [HG.out]; rfl, HB.out⟩
    · go_wp2_with fail
      refine HQ.out.mono ?_
      rintro e w2 ⟨rfl, q, rfl⟩
      go_wp2_with fail
      go_ret
      exact ⟨by rw [HG.out]; rfl, pw_below_drewN HB.out _⟩
  · obtain rfl : n = 0 := by omega
    rw [decide_eq_false hq] at HG
    clear hq
    cases b1
    · go_wp2_with fail
      refine HQ.out.mono ?_
      rintro e w2 ⟨rfl, q, rfl⟩
      go_wp2_with fail
      go_ret
      exact ⟨by rw [HG.out]; rfl, pw_below_drewN HB.out _⟩
    · go_wp2_with fail
      go_ret
      exact ⟨by rw [HG.out]; rfl, HB.out⟩
end Go.Proofs.Ytpmckbpplkkgaaa.Base
