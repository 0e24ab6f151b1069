/- Are two rows of numbers the same; the store of the statements: what the statements' own functions do. Conditions: as each contract says. -/
import Derived.Test.YtdobpieiobikpaaRowG
set_option linter.unusedVariables false
set_option linter.unusedSimpArgs false
namespace Go.Proofs.Ytdobpieiobikpaa.Base
open Go Go.RowKit Go.Proofs.Ytdobpieiobikpaa.Mem Go.Proofs.YtdobpieiobikpaaW.PrintWords Go.Proofs.YtdobpieiobikpaaW.PrintLast
/-- A row of whole numbers, as it is read. -/
theorem own_C {w : World} {N : Nat} {e : TypeId} {k : IntKind} {v : Value} {xs : List Int} (h : w.ownsRow N e 1 v xs.length (xs.map (Value.int k))) (hl : xs.length < 1000000000) : ∃ A c, v = .slice A xs.length c ∧ xs.length ≤ c ∧ Kd.C (Kd.int k) w A xs.length xs := by
  rcases h.2 with ⟨rfl, h0⟩ | ⟨g, cap, cur, rfl, hb, hh, hc, hm, _⟩
  · have : xs = [] := List.length_eq_zero_iff.1 h0
    subst this
    exact ⟨_, _, rfl, Nat.le_refl _, Kd.C_nil _ _⟩
  · refine ⟨_, _, rfl, hc, rfl, by omega, fun _ => ⟨_, rfl, fun j p hj => ⟨[.int k p], rfl, rfl, fun i u hu => ?_⟩⟩⟩
    have hi : i = 0 := by
      have := (List.getElem?_eq_some_iff.1 hu).1
      simp at this
      omega
    subst hi
    simp at hu
    subst hu
    have hj' : j < xs.length := (List.getElem?_eq_some_iff.1 hj).1
    show w.cell? (Addr.add ⟨g, 0, none⟩ (j * 1 + 0)) = _
    rw [Mem.add_at, Nat.zero_add, h.cellAt (j * 1 + 0) (by omega)]
    simp only [Nat.mul_one, Nat.add_zero, List.getElem?_map, hj]
    rfl
theorem u64_at {w : World} {A : Option Addr} {l : List Int} (h : Kd.C (Kd.int .u64) w A l.length l) (i : Nat) (hi : i < l.length) : ∃ ad, A = some ad ∧ w.cell? (ad.add i) = some (.int .u64 l[i]) := by
  obtain ⟨g, o, cs, rfl, hK, -, hc⟩ := row_at h (by decide : 0 < (Kd.int .u64).sz) hi
  obtain rfl : cs = [.int .u64 l[i]] := hK
  have := hc 0 _ rfl
  rw [show o + i * (Kd.int .u64).sz + 0 = o + i from by show o + i * 1 + 0 = o + i; omega] at this
  exact ⟨_, rfl, by rw [Mem.add_at]; exact this⟩
def IR (n : Nat) (l m : List Int) (w : World) (t : Value) (wr : World) : Prop := ∃ i : Nat, t = .int .i64 (i : Int) ∧ i ≤ n ∧ l.take i = m.take i ∧ ∃ q, wr = w.drewN q
set_option maxHeartbeats 1600000 in
theorem nums_same (n : Nat) (A0 : Option Addr) (c0 : Nat) (l : List Int) (A1 : Option Addr) (c1 : Nat) (m : List Int) (w : World) (hn : Hid (l.length = n)) (hm : Hid (m.length = n)) (h0 : Kd.C (Kd.int .u64) w A0 l.length l) (hc0 : n ≤ c0) (h1 : Kd.C (Kd.int .u64) w A1 m.length m) (hc1 : n ≤ c1) (hl : n < 1000000000) :
    Calls Try.prog 31 #[.slice A0 n c0, .slice A1 n c1] w fun e w' => e = .returned (.bool (l == m)) ∧ ∃ q, w' = w.drewN q := by
  have hR : IR n l m w (.int .i64 0) w := ⟨0, rfl, by omega, rfl, 0, rfl⟩
  have HL := Lib.hid h0
  have HM := Lib.hid h1
  clear h0 h1
  go_enter Try.func31, Try.ntmps31
  go_wp2_with fail
  go_loopw [5] (fun t wr => IR n l m w t wr) (fun t _ => n - (intOf t).toNat)
  case atStart => exact hR
  case round =>
    clear hR
    obtain ⟨i, rfl, hi, ht, q, rfl⟩ := hrel
    by_cases hgo : i < n
    · have hgo1 : i < l.length := by rw [hn.out]; exact hgo
      have hgo2 : i < m.length := by rw [hm.out]; exact hgo
      have k0 : (0 : Int) ≤ (i : Int) := by omega
      have k1 : (i : Int) < (n : Int) := by omega
      obtain ⟨ad, rfl, e0⟩ := u64_at HL.out i hgo1
      obtain ⟨ad', rfl, f0⟩ := u64_at HM.out i hgo2
      have HT := Lib.hid (show l[i] = m[i] → l.take (i + 1) = m.take (i + 1) from fun he => by rw [List.take_succ_eq_append_getElem hgo1, List.take_succ_eq_append_getElem hgo2, ht, he])
      have HN := Lib.hid (show ¬ l[i] = m[i] → (l == m) = false from fun he => by
        cases hb : l == m
        · rfl
        · have := eq_of_beq hb
          subst this
          exact absurd rfl he)
      clear ht
      generalize l[i] = x at *
      generalize m[i] = y at *
      clear hgo1 hgo2
      by_cases hxy : x = y
      · subst hxy
        go_wp2_with fail
        go_quiet (fail)
        go_wp2_with fail
        go_roundw
        case rel => exact ⟨i + 1, by go_num, by omega, HT.out trivial, _, rfl⟩
        case measure => simp [intOf]; omega
      · go_wp2_with fail
        go_quiet (fail)
        go_wp2_with fail
        go_ret
        rw [HN.out hxy]
        exact ⟨rfl, _, World.drewN_drewN ..⟩
    · obtain rfl : i = n := by omega
      have k1 : ¬ (i : Int) < (i : Int) := by omega
      have HT := Lib.hid (show (l == m) = true by
        rw [List.take_of_length_le (Nat.le_of_eq hn.out), List.take_of_length_le (Nat.le_of_eq hm.out)] at ht
        rw [ht]
        exact beq_self_eq_true _)
      clear ht
      go_wp2_with fail
      go_ret
      rw [HT.out]
      exact ⟨rfl, q, rfl⟩
theorem nums_any (A0 : Option Addr) (c0 : Nat) (l : List Int) (A1 : Option Addr) (c1 : Nat) (m : List Int) (w : World) (h0 : Kd.C (Kd.int .u64) w A0 l.length l) (hc0 : l.length ≤ c0) (h1 : Kd.C (Kd.int .u64) w A1 m.length m) (hc1 : m.length ≤ c1) (hl : l.length < 1000000000) :
    Calls Try.prog 31 #[.slice A0 l.length c0, .slice A1 m.length c1] w fun e w' => e = .returned (.bool (l == m)) ∧ ∃ q, w' = w.drewN q := by
  by_cases hlm : m.length = l.length
  · have h := nums_same l.length A0 c0 l A1 c1 m w (Lib.hid rfl) (Lib.hid hlm) h0 hc0 h1 (by omega) hl
    rw [hlm]
    exact h
  · have hx : (l == m) = false := by
      cases hb : l == m
      · rfl
      · exact absurd (congrArg List.length (eq_of_beq hb)).symm hlm
    have hlm2 : ¬ (l.length : Int) = (m.length : Int) := by omega
    have HX := Lib.hid hx
    clear hx hlm
    go_enter Try.func31, Try.ntmps31
    go_wp2_with fail
    go_ret
    rw [HX.out]
    exact ⟨rfl, 0, rfl⟩
theorem blk_readsU {w : World} {g t : Nat} {l : List Int} (h : Blk w g t (l.map (Value.int .u64)).toArray) (hl : l.length ≤ 9223372036854775807) : Kd.C (Kd.int .u64) w (some ⟨g, 0, none⟩) l.length l := by
  refine ⟨rfl, hl, fun _ => ⟨_, rfl, fun j p hj => ⟨[.int .u64 p], rfl, rfl, fun i u hu => ?_⟩⟩⟩
  have hi : i = 0 := by
    have := (List.getElem?_eq_some_iff.1 hu).1
    simp at this
    omega
  subst hi
  simp at hu
  subst hu
  show w.cell? (Addr.add ⟨g, 0, none⟩ (j * 1 + 0)) = _
  rw [Mem.add_at, Nat.zero_add, h.cell (j * 1 + 0)]
  simp [hj]
/-! ### made -/
/-- Of a call that does a thing to a store: what is kept. -/
theorem Did.chain {w w1 w2 : World} {a : Nat} {O : Nat → Prop} {q : Int × St} {e : Ending} (hf : Fp O w w1) (h : Did w1 a (Grow O w w1) q e w2) : e = .returned (.int .i64 q.1) ∧ Sto w2 a (Grow O w w2) q.2 ∧ Fp O w w2 := by
  obtain ⟨h1, h2, h3⟩ := h
  have hf2 : Fp O w w2 := hf.next h3 (fun i hi hlt => by
    rcases hi with hi | hi
    · exact hi
    · exact absurd hlt (by omega))
  refine ⟨h1, h2.weak (fun k hk => ?_) (fun k hk => ?_), hf2⟩
  · rcases hk with (hk | hk) | hk
    · exact .inl hk
    · exact .inr ⟨hk.1, Nat.lt_of_lt_of_le hk.2 h3.size⟩
    · exact .inr ⟨Nat.le_trans hf.size hk.1, hk.2⟩
  · rcases hk with hk | hk
    · have := h2.1 k (.inl (.inl hk))
      exact this
    · exact hk.2
/-- A store that was made since the world w; nothing else has turned. -/
structure Mine (w w1 : World) (a : Nat) (S : St) : Prop where
  sto : Sto w1 a (New w w1) S
  below : Below w.heap.size w w1
theorem Mine.did {w w1 w2 : World} {a : Nat} {S : St} {q : Int × St} {e : Ending} (h : Mine w w1 a S) (hd : Did w1 a (New w w1) q e w2) : e = .returned (.int .i64 q.1) ∧ Mine w w2 a q.2 := by
  obtain ⟨h1, h2, h3⟩ := hd
  have hb : Below w.heap.size w w2 := ⟨h3.os.trans h.below.os, h3.tape.trans h.below.tape, h3.output.trans h.below.output, Nat.le_trans h.below.size h3.size, fun i hi => (h3.block i (Nat.lt_of_lt_of_le hi h.below.size) (fun hk => by have := hk.1; omega)).trans (h.below.block i hi)⟩
  refine ⟨h1, h2.weak (fun k hk => ?_) (fun k hk => hk.2), hb⟩
  rcases hk with hk | hk
  · exact ⟨hk.1, Nat.lt_of_lt_of_le hk.2 h3.size⟩
  · exact ⟨Nat.le_trans h.below.size hk.1, hk.2⟩
theorem Mine.go {w w1 w2 : World} {a : Nat} {S : St} (h : Mine w w1 a S) (hb : Below w1.heap.size w1 w2) : Mine w w2 a S :=
  ⟨(h.sto.go hb).weak (fun k hk => ⟨hk.1, Nat.lt_of_lt_of_le hk.2 hb.size⟩) (fun k hk => hk.2), below_step h.below hb⟩
/-- Two counters, and two rows of those sizes. -/
def madeS (x y : Int) : St := (putR (putR (putC (putC St.nil 1).2 2).2 1 x).2 2 y).2
set_option maxHeartbeats 3200000 in
theorem made_any (x y : Int) (w : World) : Calls Try.prog 12 #[.int .i64 x, .int .i64 y] w fun e w' => ∃ a, e = .returned (ptr a) ∧ Mine w w' a (madeS x y) := by
  have HM := Lib.hid (show (putR (putR (putC (putC St.nil 1).2 2).2 1 x).2 2 y).2 = madeS x y from rfl)
  go_enter Try.func12, Try.ntmps12
  go_wp2_with fail
  refine (new_any w).mono ?_
  rintro e w1 ⟨rfl, hs, hb⟩
  have H1 : Mine w w1 w.heap.size St.nil := ⟨hs, hb⟩
  have HH1 := Lib.hid H1
  clear hs hb H1
  generalize w.heap.size = a at *
  go_wp2_with fail
  refine (putC_any a _ St.nil 1 w1 HH1.out.sto (by decide)).mono ?_
  intro e w2 hd
  obtain ⟨rfl, h2⟩ := HH1.out.did hd
  have HH2 := Lib.hid h2
  clear hd h2
  go_wp2_with fail
  refine (putC_any a _ _ 2 w2 HH2.out.sto (by decide)).mono ?_
  intro e w3 hd
  obtain ⟨rfl, h3⟩ := HH2.out.did hd
  have HH3 := Lib.hid h3
  clear hd h3
  go_wp2_with fail
  refine (putR_any a _ _ 1 x w3 HH3.out.sto (by decide)).mono ?_
  intro e w4 hd
  obtain ⟨rfl, h4⟩ := HH3.out.did hd
  have HH4 := Lib.hid h4
  clear hd h4
  go_wp2_with fail
  refine (putR_any a _ _ 2 y w4 HH4.out.sto (by decide)).mono ?_
  intro e w5 hd
  obtain ⟨rfl, h5⟩ := HH4.out.did hd
  have HH5 := Lib.hid h5
  rw [HM.out] at HH5
  clear hd h5
  go_wp2_with fail
  go_ret
  exact ⟨a, rfl, HH5.out⟩
end Go.Proofs.Ytdobpieiobikpaa.Base
