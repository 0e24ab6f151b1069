/- The one that is chosen. Conditions: as each contract says. -/
import Derived.Test.YtpmckbpplkkgaaaTotal
import Derived.Test.YtpmckbpplkkgaaaMul
set_option linter.unusedVariables false
set_option linter.unusedSimpArgs false
namespace Go.Proofs.Ytpmckbpplkkgaaa.Base
open Go Go.RowKit Go.Proofs.Ytpmckbpplkkgaaa.Mem Go.Proofs.YtpmckbpplkkgaaaW.PrintWords Go.Proofs.Ytpmckbpplkkgaaa.Fl
theorem K_pos (n : Nat) (h : n ≤ INF) : K n = (n : Int) ∧ n % SW = n := by
  have h2 : n < SW := Nat.lt_of_le_of_lt h (by decide)
  have hm : n % SW = n := Nat.mod_eq_of_lt h2
  have h3 := K_eq n (Nat.lt_trans h2 (by decide))
  rw [if_neg (by omega), hm] at h3
  exact ⟨h3, hm⟩
theorem gt_pos (a b : Nat) (ha : a ≤ INF) (hb : b ≤ INF) : (FloatKind.f64.format.order a b == some .gt) = decide (b < a) := by
  obtain ⟨a1, a2⟩ := K_pos a ha
  obtain ⟨b1, b2⟩ := K_pos b hb
  rw [ord_key a b (by rw [a2]; exact ha) (by rw [b2]; exact hb), cmp_gt, a1, b1]
  exact decide_eq_decide.2 ⟨fun h => by omega, fun h => by omega⟩
theorem eq_zero (a : Nat) (ha : a ≤ INF) : (FloatKind.f64.format.order a 0 == some .eq) = decide (a = 0) := by
  obtain ⟨a1, a2⟩ := K_pos a ha
  rw [ord_key a 0 (by rw [a2]; exact ha) (by decide), cmp_eq, a1, show K 0 = 0 from by decide]
  exact decide_eq_decide.2 ⟨fun h => by omega, fun h => by omega⟩
/-- Is a weight's word above nought? -/
def pos (y : Nat) : Bool := decide (y ≠ 0 ∧ y ≠ SW)
theorem gt_zero (y : Nat) (hy : good y) : (FloatKind.f64.format.order y 0 == some .gt) = pos y := by
  rcases hy with h | h
  · rw [gt_pos y 0 (Nat.le_of_lt h) (by decide)]
    exact decide_eq_decide.2 ⟨fun h2 => ⟨by omega, fun h3 => by rw [h3] at h; exact absurd h (by decide)⟩, fun h2 => by omega⟩
  · subst h; decide +kernel
/-- What a number is held against. -/
def xof (h all : Nat) : Nat := divW (mulW (intW h) all)
/-- The place, behind sums. -/
def cho (x : Nat) : Nat → Nat → Nat → List Int → Nat
  | s, i, last, [] => last
  | s, i, last, b :: r => if x < addW s b.toNat then i else cho x (addW s b.toNat) (i + 1) (if pos b.toNat then i else last) r
def choose (l : List Int) (h : Nat) : Nat × Bool := match tot 0 l with
  | none => (0, false)
  | some all => if all = 0 then (0, false) else (cho (xof h all) 0 0 0 l, true)
theorem tot_bound : ∀ (l : List Int) (s i : Nat), inU l → s < INF → U s ≤ i * QQ → i + l.length < 4000000000000000 → ∀ t, tot s l = some t → t < INF ∧ U t ≤ (i + l.length) * QQ ∧ (∀ x ∈ l, may x.toNat = true)
  | [], s, i, _, hs, hu, _, t, ht => by
    injection ht with ht
    subst ht
    exact ⟨hs, hu, fun x hx => by simp at hx⟩
  | x :: r, s, i, hb, hs, hu, hi, t, ht => by
    obtain ⟨x0, x1⟩ := hb x (List.mem_cons_self ..)
    rw [tot] at ht
    cases hm : may x.toNat
    · rw [hm] at ht; cases ht
    · rw [hm, if_pos rfl] at ht
      obtain ⟨g1, g2⟩ := may_good x.toNat (by omega) hm
      simp only [List.length_cons] at hi
      obtain ⟨b1, b2⟩ := sum_bound s x.toNat i hs hu g1 g2 (by omega)
      obtain ⟨c1, c2, c3⟩ := tot_bound r (addW s x.toNat) (i + 1) (fun y hy => hb y (List.mem_cons_of_mem _ hy)) b1 b2 (by omega) t ht
      refine ⟨c1, ?_, fun y hy => ?_⟩
      · rw [List.length_cons, show i + (r.length + 1) = i + 1 + r.length by omega]; exact c2
      · rcases List.mem_cons.1 hy with rfl | hy
        · exact hm
        · exact c3 y hy
theorem int_le (h k : Nat) (hh : h ≤ k) (hk0 : 0 < k) (hk : k < 2 * B) : intW h < INF ∧ U (intW h) ≤ k * E74 := by
  obtain ⟨r, r1, r2⟩ := repr k L74 hk0 hk (by decide)
  replace r1 : U r = k * E74 := r1
  have hr : r < INF := Nat.lt_of_le_of_lt r2 (by decide)
  have hm : h * E74 ≤ U r * 1 := by rw [r1, Nat.mul_one]; exact Nat.mul_le_mul_right _ hh
  have h1 := spec_up _ _ r 1 (by decide) (int_spec h) (Nat.le_of_lt hr) hm
  have hu := U_le _ _ h1
  rw [r1] at hu
  exact ⟨Nat.lt_of_le_of_lt h1 hr, hu⟩
theorem int_lt (h : Nat) (hh : h < 4294967296) : intW h < INF ∧ U (intW h) ≤ 4294967296 * E74 := int_le h 4294967296 (Nat.le_of_lt hh) (by decide) (by decide)
theorem big_word : ∃ r C, r < INF ∧ 4294967296 * 1000000000000000 ≤ C ∧ U r = C * QQ := by
  obtain ⟨r, r1, r2⟩ := repr 1 (PP + 82) (by decide) (by decide) (by decide)
  refine ⟨r, 2 ^ 82, Nat.lt_of_le_of_lt r2 (by decide), by decide, ?_⟩
  rw [r1, Nat.one_mul, Nat.pow_add, Nat.mul_comm]
  unfold QQ
  with_reducible rfl
theorem mul_le (x y a b : Nat) (hx : x < INF) (hy : y < INF) (ux : U x ≤ a * E74) (uy : U y ≤ b * QQ) (r C : Nat) (hr : r < INF) (hC : a * b ≤ C) (hU : U r = C * QQ) : mulW x y < INF := by
  have hm : U x * U y ≤ U r * E74 := by
    have h2 : U x * U y ≤ (a * E74) * (b * QQ) := Nat.mul_le_mul ux uy
    have h3 : (a * E74) * (b * QQ) = (a * b) * (QQ * E74) := by
      rw [Nat.mul_assoc a E74, Nat.mul_left_comm E74, Nat.mul_comm E74 QQ, ← Nat.mul_assoc a]
    have h4 : (a * b) * (QQ * E74) ≤ C * (QQ * E74) := Nat.mul_le_mul_right _ hC
    rw [hU, Nat.mul_assoc]
    exact Nat.le_trans h2 (by rw [h3]; exact h4)
  exact Nat.lt_of_le_of_lt (spec_up _ _ r E74 E74_pos (mul_spec x y hx hy).2 (Nat.le_of_lt hr) hm) hr
theorem mul_lt (x y : Nat) (hx : x < INF) (hy : y < INF) (ux : U x ≤ 4294967296 * E74) (uy : U y ≤ 1000000000000000 * QQ) : mulW x y < INF := by
  obtain ⟨r, C, h1, h2, h3⟩ := big_word
  exact mul_le x y _ _ hx hy ux uy r C h1 h2 h3
theorem div_lt (x : Nat) (hx : x < INF) : divW x ≤ x := spec_up _ _ x (2 ^ 32) (by decide) (div_spec x hx).2 (Nat.le_of_lt hx) (Nat.le_mul_of_pos_right _ (by decide))
def CR (x : Nat) (l : List Int) (w : World) (t9 t10 t32 : Value) (wr : World) : Prop :=
  ∃ (s i last : Nat), t9 = .float .f64 s ∧ t10 = .int .i64 (last : Int) ∧ t32 = .int .i64 (i : Int) ∧ i ≤ l.length ∧ s < INF ∧ U s ≤ i * QQ ∧ cho x 0 0 0 l = cho x s i last (l.drop i) ∧ wr = w
theorem conv_run (h : Nat) (W : World) : (convert 37 55 (.int .u32 (h : Int))).run Try.prog W = .ok (.float .f64 (intW h)) W := by
  have e : floatOfInt .f64 (h : Int) = intW h := by
    show Ieee.Format.nearest _ (decide ((h : Int) < 0)) (h : Int).natAbs 0 = _
    rw [decide_eq_false (by omega)]
    rfl
  rw [← e]
  exact run_convert_int_float W 37 55 .u32 .f64 (h : Int) (by rw [Try.underlying37]; rfl) Try.underlying55
theorem mul_run (x y : Nat) (hx : x < INF) (hy : y < INF) (W : World) : (binOp .mul 55 (.float .f64 x) (.float .f64 y)).run Try.prog W = .ok (.float .f64 (mulW x y)) W :=
  run_float_arith W .mul 55 .f64 x y (mulW x y) (mul_spec x y hx hy).1
theorem div_run (x : Nat) (hx : x < INF) (W : World) : (binOp .quo 55 (.float .f64 x) (.float .f64 4751297606875873280)).run Try.prog W = .ok (.float .f64 (divW x)) W :=
  run_float_arith W .quo 55 .f64 x _ (divW x) (div_spec x hx).1
set_option maxHeartbeats 3200000 in
theorem choose_any (A0 : Option Addr) (c0 : Nat) (l : List Int) (h : Nat) (w : World) (h0 : Kd.C (Kd.int .u64) w A0 l.length l) (hc0 : l.length ≤ c0) (hb : inU l) (hl : l.length < 1000000000000000) (hh : h < 4294967296) :
    Calls Try.prog 28 #[.slice A0 l.length c0, .int .u32 (h : Int)] w fun e w' => e = .returned (.tuple #[.int .i64 ((choose l h).1 : Int), .bool (choose l h).2]) ∧ w = w' := by
  have HT := Lib.hid (total_any A0 c0 l w h0 hc0 hb hl)
  have htb := tot_bound l 0 0 hb (by decide) (by rw [show U 0 = 0 from by decide]; exact Nat.zero_le _) (by omega)
  have HB := Lib.hid hb
  have H0 := Lib.hid h0
  have hch : choose l h = match tot 0 l with | none => (0, false) | some all => if all = 0 then (0, false) else (cho (xof h all) 0 0 0 l, true) := rfl
  clear hb h0
  cases ht : tot 0 l with
  | none =>
    rw [ht] at hch HT
    have HC := Lib.hid hch
    clear hch htb ht
    go_enter Try.func28, Try.ntmps28
    go_wp2_with fail
    refine HT.out.mono ?_
    rintro e _ ⟨rfl, rfl⟩
    go_wp2_with fail
    go_ret2
    refine ⟨?_, rfl⟩
    rw [HC.out]
    rfl
  | some all =>
    rw [ht] at hch HT
    obtain ⟨ta, tu, tm⟩ := htb all ht
    rw [Nat.zero_add] at tu
    simp only at hch
    have hz := eq_zero all (Nat.le_of_lt ta)
    by_cases hall : all = 0
    · rw [if_pos hall] at hch
      have HC := Lib.hid hch
      rw [decide_eq_true hall] at hz
      clear hch htb ht hall
      go_enter Try.func28, Try.ntmps28
      go_wp2_with fail
      refine HT.out.mono ?_
      rintro e _ ⟨rfl, rfl⟩
      go_wp2_with fail
      go_ret2
      refine ⟨?_, rfl⟩
      rw [HC.out]
      rfl
    · rw [if_neg hall] at hch
      have HC := Lib.hid hch
      rw [decide_eq_false hall] at hz
      obtain ⟨i1, i2⟩ := int_lt h hh
      have m1 := mul_lt (intW h) all i1 ta i2 (Nat.le_trans tu (Nat.mul_le_mul_right _ (by omega)))
      have d1 : divW (mulW (intW h) all) ≤ INF := Nat.le_trans (div_lt _ m1) (Nat.le_of_lt m1)
      have r1 := conv_run h
      have r2 := mul_run (intW h) all i1 ta
      have r3 := div_run (mulW (intW h) all) m1
      have HX := Lib.hid d1
      have HM := Lib.hid tm
      have hxo : xof h all = divW (mulW (intW h) all) := rfl
      rw [hxo] at HC
      generalize divW (mulW (intW h) all) = x at *
      have hR : CR x l w (.float .f64 0) (.int .i64 0) (.int .i64 0) w := ⟨0, 0, 0, rfl, rfl, rfl, Nat.zero_le _, by decide, by rw [show U 0 = 0 from by decide]; exact Nat.zero_le _, rfl, rfl⟩
      clear hch htb ht hall i1 i2 m1 d1 hxo tm tu ta
      go_enter Try.func28, Try.ntmps28
      go_wp2_with fail
      refine HT.out.mono ?_
      rintro e _ ⟨rfl, rfl⟩
      go_wp2_with fail
      go_loopw [9, 10, 32] (fun t9 t10 t32 wr => CR x l w t9 t10 t32 wr) (fun _ _ t32 _ => l.length - (intOf t32).toNat)
      case atStart => exact hR
      case round =>
        clear hR
        obtain ⟨s, i, last, rfl, rfl, rfl, hi, hs, hu, hch, rfl⟩ := hrel
        have HCH := Lib.hid hch
        have HS := Lib.hid hs
        have HU := Lib.hid hu
        clear hch hs hu
        by_cases hgo : i < l.length
        · have hd : l.drop i = l[i] :: l.drop (i + 1) := List.drop_eq_getElem_cons hgo
          have k0 : (0 : Int) ≤ (i : Int) := by omega
          have k1 : (i : Int) < (l.length : Int) := by omega
          obtain ⟨ad, c, rfl, hcl, hK, hcc⟩ := ReadsRow.get_ H0.out 0 (i : Int) k0 k1
          have e0 : wr.cell? (ad.add (i * 1)) = some (.int .u64 l[i]) := by
            have hg : l.getD (i : Int).toNat 0 = l[i] := by rw [Int.toNat_natCast, List.getD_eq_getElem?_getD, List.getElem?_eq_getElem hgo]; rfl
            rw [hg] at hK
            have := hcc 0 (.int .u64 l[i]) (by rw [show c = [.int .u64 l[i]] from hK]; rfl)
            rw [Int.toNat_natCast] at this
            exact this
          obtain ⟨x0, x1⟩ := HB.out l[i] (List.getElem_mem _)
          have hstep : cho x s i last (l.drop i) = if x < addW s l[i].toNat then i else cho x (addW s l[i].toNat) (i + 1) (if pos l[i].toNat then i else last) (l.drop (i + 1)) := by rw [hd]; rfl
          have HST := Lib.hid hstep
          have hmay := HM.out l[i] (List.getElem_mem _)
          obtain ⟨n, hn⟩ : ∃ n : Nat, l[i] = (n : Int) := ⟨l[i].toNat, by omega⟩
          rw [hn] at e0 HST hmay
          rw [Int.toNat_natCast] at HST hmay
          have hn2 : n < 18446744073709551616 := by omega
          clear hd hstep hcl hK hcc x0 x1
          generalize l[i] = y at *
          clear hn
          have hx := frombits (n : Int)
          rw [Int.toNat_natCast] at hx
          rw [Nat.mul_one] at e0
          obtain ⟨g1, g2⟩ := may_good n hn2 hmay
          obtain ⟨b1, b2⟩ := sum_bound s n i HS.out HU.out g1 g2 (by omega)
          have hadd := add_run s n HS.out g1
          have hgt := gt_pos (addW s n) x (Nat.le_of_lt b1) HX.out
          have hgz := gt_zero n g1
          have B1 := Lib.hid b1
          have B2 := Lib.hid b2
          clear b1 b2 g1 g2 hmay
          by_cases hgtx : x < addW s n
          · rw [decide_eq_true hgtx] at hgt
            have HE := Lib.hid (HST.out.trans (if_pos hgtx))
            clear hgtx HST
            go_wp2_with fail
            go_ret2
            refine ⟨?_, rfl⟩
            rw [HC.out, HCH.out, HE.out]
            rfl
          · rw [decide_eq_false hgtx] at hgt
            have HE := Lib.hid (HST.out.trans (if_neg hgtx))
            clear hgtx HST
            cases hp : pos n
            · rw [hp] at hgz HE
              clear hp
              go_wp2_with fail
              go_roundw
              case rel => exact ⟨_, i + 1, last, rfl, rfl, by go_num, hgo, B1.out, B2.out, by rw [HCH.out, HE.out]; rfl, rfl⟩
              case measure => simp [intOf]; omega
            · rw [hp] at hgz HE
              clear hp
              go_wp2_with fail
              go_roundw
              case rel => exact ⟨_, i + 1, i, rfl, rfl, by go_num, hgo, B1.out, B2.out, by rw [HCH.out, HE.out]; rfl, rfl⟩
              case measure => simp [intOf]; omega
        · have hd : l.drop i = [] := List.drop_eq_nil_of_le (by omega)
          have k1 : ¬ (i : Int) < (l.length : Int) := by omega
          go_wp2_with fail
          go_ret2
          refine ⟨?_, rfl⟩
          rw [HC.out, HCH.out, hd]
          rfl
end Go.Proofs.Ytpmckbpplkkgaaa.Base
