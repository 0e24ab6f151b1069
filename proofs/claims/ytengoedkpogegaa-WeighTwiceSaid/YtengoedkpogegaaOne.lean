/- The law that what is chosen has a weight above nought. Conditions: none. -/
import Derived.Test.YtengoedkpogegaaRises
import Derived.Test.YtengoedkpogegaaMayLaw
set_option linter.unusedVariables false
set_option linter.unusedSimpArgs false
namespace Go.Proofs.Ytengoedkpogegaa.Base
open Go Go.RowKit Go.Proofs.Ytengoedkpogegaa.Mem Go.Proofs.YtengoedkpogegaaW.PrintWords Go.Proofs.Ytengoedkpogegaa.Fl
theorem cho_in (x : Nat) (L : List Int) : ∀ (l : List Int) (s i last : Nat), (∀ j, l[j]? = L[i + j]?) → inU l → (∀ y ∈ l, may y.toNat = true) → s < INF → U s ≤ i * QQ → i + l.length < 4000000000000000 → s ≤ x →
    (∃ b, L[cho x s i last l]? = some b ∧ pos b.toNat = true) ∨ (cho x s i last l = last ∧ ∀ y ∈ l, pos y.toNat = false)
  | [], s, i, last, _, _, _, _, _, _, _ => .inr ⟨rfl, fun y hy => by simp at hy⟩
  | b :: r, s, i, last, hL, hb, hm, hs, hu, hi, hsx => by
    obtain ⟨b0, b1⟩ := hb b (List.mem_cons_self ..)
    obtain ⟨g1, g2⟩ := may_good b.toNat (by omega) (hm b (List.mem_cons_self ..))
    simp only [List.length_cons] at hi
    obtain ⟨c1, c2⟩ := sum_bound s b.toNat i hs hu g1 g2 (by omega)
    have hLi : L[i]? = some b := by have := hL 0; simpa using this.symm
    rw [cho]
    by_cases c : x < addW s b.toNat
    · rw [if_pos c]
      cases hp : pos b.toNat
      · rw [add_zero s b.toNat hs g1 (pos_no _ hp)] at c
        omega
      · exact .inl ⟨b, hLi, hp⟩
    · rw [if_neg c]
      have ih := fun last' => cho_in x L r (addW s b.toNat) (i + 1) last' (fun j => by have := hL (j + 1); rw [List.getElem?_cons_succ] at this; rw [this]; congr 1; omega) (fun y hy => hb y (List.mem_cons_of_mem _ hy)) (fun y hy => hm y (List.mem_cons_of_mem _ hy)) c1 c2 (by omega) (by omega)
      cases hp : pos b.toNat
      · rcases ih last with h | ⟨h1, h2⟩
        · exact .inl h
        · refine .inr ⟨h1, fun y hy => ?_⟩
          rcases List.mem_cons.1 hy with rfl | hy
          · exact hp
          · exact h2 y hy
      · rcases ih i with h | ⟨h1, h2⟩
        · exact .inl h
        · exact .inl ⟨b, by show L[cho x (addW s b.toNat) (i + 1) i r]? = some b; rw [h1]; exact hLi, hp⟩
theorem tot_may : ∀ (l : List Int) (s : Nat), (tot s l).isSome = l.all (fun y => may y.toNat)
  | [], s => rfl
  | x :: r, s => by
    rw [tot, List.all_cons]
    cases hm : may x.toNat
    · rfl
    · exact tot_may r _
/-- The sum is above nought, just if a weight is. -/
theorem tot_zero : ∀ (l : List Int) (s i t : Nat), inU l → s < INF → U s ≤ i * QQ → i + l.length < 4000000000000000 → tot s l = some t → s ≤ t ∧ ((∃ y ∈ l, pos y.toNat = true) → 0 < t) ∧ ((∀ y ∈ l, pos y.toNat = false) → t = s)
  | [], s, i, t, _, _, _, _, ht => by
    injection ht with ht
    subst ht
    exact ⟨Nat.le_refl _, fun ⟨y, hy, _⟩ => by simp at hy, fun _ => rfl⟩
  | x :: r, s, i, t, hb, hs, hu, hi, ht => by
    obtain ⟨x0, x1⟩ := hb x (List.mem_cons_self ..)
    rw [tot] at ht
    cases hm : may x.toNat
    · rw [hm] at ht; cases ht
    · rw [hm, if_pos rfl] at ht
      obtain ⟨g1, g2⟩ := may_good x.toNat (by omega) hm
      simp only [List.length_cons] at hi
      obtain ⟨b1, b2⟩ := sum_bound s x.toNat i hs hu g1 g2 (by omega)
      obtain ⟨c1, c2, c3⟩ := tot_zero r (addW s x.toNat) (i + 1) t (fun y hy => hb y (List.mem_cons_of_mem _ hy)) b1 b2 (by omega) ht
      have hge := add_ge s x.toNat hs g1
      refine ⟨by omega, fun ⟨y, hy, hp⟩ => ?_, fun h => ?_⟩
      · rcases List.mem_cons.1 hy with rfl | hy
        · have hne := of_decide_eq_true hp
          have hlt : y.toNat < INF := by
            rcases g1 with g1 | g1
            · exact g1
            · exact absurd g1 hne.2
          have := add_ge2 s y.toNat hs hlt
          omega
        · exact c2 ⟨y, hy, hp⟩
      · rw [c3 (fun y hy => h y (List.mem_cons_of_mem _ hy)), add_zero s x.toNat hs g1 (pos_no _ (h x (List.mem_cons_self ..)))]
theorem choose_one (l : List Int) (h : Nat) (hb : inU l) (hl : l.length ≤ 2000) :
    (choose l h).2 = (l.all (fun y => may y.toNat) && l.any (fun y => pos y.toNat)) ∧ ((choose l h).2 = false → (choose l h).1 = 0) ∧ ((choose l h).2 = true → ∃ b, l[(choose l h).1]? = some b ∧ pos b.toNat = true ∧ may b.toNat = true) := by
  have hu0 : U 0 ≤ 0 * QQ := by rw [show U 0 = 0 from by decide]; exact Nat.zero_le _
  have hz := fun t ht => tot_zero l 0 0 t hb (by decide) hu0 (by omega) ht
  have htb := fun t ht => tot_bound l 0 0 hb (by decide) hu0 (by omega) t ht
  have hm := tot_may l 0
  unfold choose
  cases ht : tot 0 l with
  | none =>
    rw [ht] at hm
    exact ⟨by rw [← hm]; rfl, fun _ => rfl, fun h => by cases h⟩
  | some all =>
    rw [ht] at hm
    obtain ⟨z1, z2, z3⟩ := hz all ht
    obtain ⟨_, _, hmay⟩ := htb all ht
    simp only
    by_cases hp : ∃ y ∈ l, pos y.toNat = true
    · have hne := z2 hp
      have hany : l.any (fun y => pos y.toNat) = true := List.any_eq_true.2 hp
      rw [if_neg (by omega), ← hm, hany]
      refine ⟨rfl, (fun h => by cases h), fun _ => ?_⟩
      rcases cho_in (xof h all) l l 0 0 0 (fun j => by rw [Nat.zero_add]) hb hmay (by decide) hu0 (by omega) (Nat.zero_le _) with ⟨b, h1, h2⟩ | ⟨_, h2⟩
      · exact ⟨b, h1, h2, hmay b (List.mem_of_getElem? h1)⟩
      · obtain ⟨y, hy, hpy⟩ := hp
        rw [h2 y hy] at hpy
        cases hpy
    · have hno : ∀ y ∈ l, pos y.toNat = false := fun y hy => by
        cases h : pos y.toNat
        · rfl
        · exact absurd ⟨y, hy, h⟩ hp
      have hany : l.any (fun y => pos y.toNat) = false := List.any_eq_false.2 (fun y hy => by rw [hno y hy]; simp)
      rw [if_pos (z3 hno), hany, Bool.and_false]
      exact ⟨rfl, fun _ => rfl, fun h => by cases h⟩
/-- How bits that may not be stand to 0 and to the greatest weight. -/
theorem not_may (n : Nat) (hn : n < 18446744073709551616) (h : may n = false) : (FloatKind.f64.format.order n 0 == some .gt || FloatKind.f64.format.order n 0 == some .eq) = false ∨
    ((FloatKind.f64.format.order n 0 == some .gt || FloatKind.f64.format.order n 0 == some .eq) = true ∧ (FloatKind.f64.format.order n 4697254411347427328 == some .lt || FloatKind.f64.format.order n 4697254411347427328 == some .eq) = false) := by
  obtain ⟨r5, r6, r7⟩ := cls_rest n hn
  have hno := of_decide_eq_false h
  rcases cls_cases n with c | c | c | c | c | c | c
  · exact absurd (.inl c) hno
  · exact absurd (.inr (.inl c)) hno
  · exact absurd (.inr (.inr (.inl c))) hno
  · have hg := cls_good n hn (.inr (.inr (.inr c)))
    have hi : n ≤ INF := Nat.le_trans (show n ≤ 9218868437227405311 by omega) (by decide)
    refine .inr ⟨?_, ?_⟩
    · rw [ge_pos n 0 hi (by decide)]; exact decide_eq_true (Nat.zero_le _)
    · rw [may_ord n hn (.inr (.inr (.inr c))), h]
  · rw [r5 c]; exact .inr (by decide +kernel)
  · obtain ⟨a, b, d⟩ := r6 c
    obtain ⟨o1, o2, o3, o4⟩ := ord_facts n hn d
    rw [o1, o3, decide_eq_false b, decide_eq_false (fun h => h.1 a)]
    exact .inl rfl
  · rw [ord_nan n 0 (.inl (r7 c))]; exact .inl rfl
theorem yes_may (n : Nat) (hn : n < 18446744073709551616) (h : may n = true) : (FloatKind.f64.format.order n 0 == some .gt || FloatKind.f64.format.order n 0 == some .eq) = true ∧ (FloatKind.f64.format.order n 4697254411347427328 == some .lt || FloatKind.f64.format.order n 4697254411347427328 == some .eq) = true := by
  have h1 := of_decide_eq_true h
  have hc : cls n = 1 ∨ cls n = 2 ∨ cls n = 3 ∨ cls n = 4 := by omega
  refine ⟨?_, by rw [may_ord n hn hc, h]⟩
  rcases (may_good n hn h).1 with hg | hg
  · rw [ge_pos n 0 (Nat.le_of_lt hg) (by decide)]; exact decide_eq_true (Nat.zero_le _)
  · rw [hg]; decide +kernel
theorem eq_pos (y : Nat) (hy : good y) : (FloatKind.f64.format.order y 0 == some .eq) = !(pos y) := by
  rcases hy with h | h
  · rw [eq_zero y (Nat.le_of_lt h)]
    unfold pos
    have hne : y ≠ SW := fun h3 => by rw [h3] at h; exact absurd h (by decide)
    by_cases c : y = 0
    · simp [c]
    · simp [c, hne]
  · subst h; decide +kernel
def PR (l : List Int) (w : World) (t3 t4 : Value) (wr : World) : Prop :=
  ∃ (i : Nat) (b : Bool), t3 = .bool b ∧ t4 = .int .i64 (i : Int) ∧ i ≤ l.length ∧ ((l.drop i).all (fun y => may y.toNat) = l.all (fun y => may y.toNat)) ∧ (l.any (fun y => pos y.toNat) = (b || (l.drop i).any (fun y => pos y.toNat))) ∧ wr = w
set_option maxHeartbeats 1600000 in
theorem plain_any (A0 : Option Addr) (c0 : Nat) (l : List Int) (w : World) (h0 : Kd.C (Kd.int .u64) w A0 l.length l) (hc0 : l.length ≤ c0) (hb : inU l) (hl : l.length < 1000000000000000) :
    Calls Try.prog 21 #[.slice A0 l.length c0] w fun e w' => e = .returned (.tuple #[.bool (l.all (fun y => may y.toNat)), .bool (l.all (fun y => may y.toNat) && l.any (fun y => pos y.toNat))]) ∧ w = w' := by
  have hR : PR l w (.bool false) (.int .i64 0) w := ⟨0, false, rfl, rfl, Nat.zero_le _, rfl, rfl, rfl⟩
  have HB := Lib.hid hb
  have H0 := Lib.hid h0
  clear hb h0
  go_enter Try.func21, Try.ntmps21
  go_wp2_with fail
  go_loopw [3, 4] (fun t3 t4 wr => PR l w t3 t4 wr) (fun _ t4 _ => l.length - (intOf t4).toNat)
  case atStart => exact hR
  case round =>
    clear hR
    obtain ⟨i, b, rfl, rfl, hi, ha, hp, rfl⟩ := hrel
    have HA := Lib.hid ha
    have HP := Lib.hid hp
    clear ha hp
    by_cases hgo : i < l.length
    · have hd : l.drop i = l[i] :: l.drop (i + 1) := List.drop_eq_getElem_cons hgo
      have k0 : (0 : Int) ≤ (i : Int) := by omega
      have k1 : (i : Int) < (l.length : Int) := by omega
      obtain ⟨ad, c, rfl, hcl, hK, hcc⟩ := ReadsRow.get_ H0.out 0 (i : Int) k0 k1
      have e0 : wr.cell? (ad.add (i * 1)) = some (.int .u64 l[i]) := by
        have hg : l.getD (i : Int).toNat 0 = l[i] := by rw [Int.toNat_natCast, List.getD_eq_getElem?_getD, List.getElem?_eq_getElem hgo]; rfl
        rw [hg] at hK
        have := hcc 0 (.int .u64 l[i]) (by rw [show c = [.int .u64 l[i]] from hK]; rfl)
        rw [Int.toNat_natCast] at this
        exact this
      obtain ⟨x0, x1⟩ := HB.out l[i] (List.getElem_mem _)
      have hA1 : (l.drop i).all (fun y => may y.toNat) = (may l[i].toNat && (l.drop (i + 1)).all (fun y => may y.toNat)) := by rw [hd, List.all_cons]
      have hP1 : (l.drop i).any (fun y => pos y.toNat) = (pos l[i].toNat || (l.drop (i + 1)).any (fun y => pos y.toNat)) := by rw [hd, List.any_cons]
      have HA1 := Lib.hid hA1
      have HP1 := Lib.hid hP1
      obtain ⟨n, hn⟩ : ∃ n : Nat, l[i] = (n : Int) := ⟨l[i].toNat, by omega⟩
      rw [hn] at e0 HA1 HP1
      rw [Int.toNat_natCast] at HA1 HP1
      have hn2 : n < 18446744073709551616 := by omega
      clear hd hA1 hP1 hcl hK hcc x0 x1
      generalize l[i] = y at *
      clear hn
      have hx := frombits (n : Int)
      rw [Int.toNat_natCast] at hx
      rw [Nat.mul_one] at e0
      cases hm : may n
      · have hor := not_may n hn2 hm
        rw [hm] at HA1
        have HF := Lib.hid (show l.all (fun y => may y.toNat) = false by rw [← HA.out, HA1.out]; rfl)
        clear hm
        rcases hor with o1 | ⟨o1, o2⟩
        · go_wp2_with fail
          go_ret2
          refine ⟨?_, rfl⟩
          rw [HF.out]
          rfl
        · go_wp2_with fail
          go_ret2
          refine ⟨?_, rfl⟩
          rw [HF.out]
          rfl
      · obtain ⟨o1, o2⟩ := yes_may n hn2 hm
        have hgz := gt_zero n (may_good n hn2 hm).1
        have hez := eq_pos n (may_good n hn2 hm).1
        rw [hm] at HA1
        clear o1
        clear hm
        cases hpn : pos n
        all_goals
          rw [hpn] at hgz hez HP1
          clear hpn
          cases b
          all_goals
            go_wp2_with fail
            first
              | go_roundw
                case rel => exact ⟨i + 1, _, rfl, by go_num, hgo, by rw [← HA.out, HA1.out]; rfl, by rw [HP.out, HP1.out]; rfl, rfl⟩
                case measure => simp [intOf]; omega
              | (refine ⟨⟨i + 1, _, rfl, rfl, hgo, by rw [← HA.out, HA1.out]; rfl, by rw [HP.out, HP1.out]; rfl, rfl⟩, ?_⟩
                 simp [intOf]
                 omega)
    · have hd : l.drop i = [] := List.drop_eq_nil_of_le (by omega)
      have k1 : ¬ (i : Int) < (l.length : Int) := by omega
      go_wp2_with fail
      go_ret2
      refine ⟨?_, rfl⟩
      rw [← HA.out, HP.out, hd]
      simp
set_option maxHeartbeats 1600000 in
theorem one_any (A0 : Option Addr) (c0 : Nat) (l : List Int) (h : Nat) (w : World) (h0 : Kd.C (Kd.int .u64) w A0 l.length l) (hc0 : l.length ≤ c0) (hb : inU l) (hl : l.length < 1000000000000000) (hh : h < 4294967296) :
    Calls Try.prog 6 #[.slice A0 l.length c0, .int .u32 (h : Int)] w fun e w' => e = .returned (.bool true) ∧ Below w.heap.size w w' := by
  by_cases hlen : 2000 < l.length
  · have q1 : decide ((2000 : Int) < (l.length : Int)) = true := decide_eq_true (by omega)
    clear h0
    go_enter Try.func6, Try.ntmps6
    go_wp2_with fail
    refine (awake_any _).mono ?_
    rintro e w1 ⟨rfl, hb1⟩
    go_wp2_with fail
    go_ret
    exact ⟨rfl, hb1⟩
  · have q1 : decide ((2000 : Int) < (l.length : Int)) = false := decide_eq_false (by omega)
    obtain ⟨e1, e2, e3⟩ := choose_one l h hb (by omega)
    have H0 := Lib.hid h0
    have HP := Lib.hid (fun w h0 => plain_any A0 c0 l w h0 hc0 hb hl)
    have HC := Lib.hid (fun w h0 => choose_any A0 c0 l h w h0 hc0 hb hl hh)
    have HB := Lib.hid hb
    clear h0 hb
    generalize choose l h = p at *
    obtain ⟨k, b⟩ := p
    simp only at e1 e2 e3 HC
    have HE1 := Lib.hid e1
    rw [← e1] at HP
    generalize (l.all fun y => may y.toNat) = m at *
    clear e1
    cases b
    · have hk := e2 rfl
      subst hk
      clear e2 e3
      go_enter Try.func6, Try.ntmps6
      go_wp2_with fail
      refine (awake_any _).mono ?_
      rintro e w1 ⟨rfl, hb1⟩
      go_wp2_with fail
      refine (HP.out _ (Kd.C_below H0.out hb1)).mono ?_
      rintro e _ ⟨rfl, rfl⟩
      go_wp2_with fail
      refine (HC.out _ (Kd.C_below H0.out hb1)).mono ?_
      rintro e _ ⟨rfl, rfl⟩
      cases m
      all_goals
        go_wp2_with fail
        go_ret
        exact ⟨rfl, hb1⟩
    · obtain ⟨y, h1, h2, h3⟩ := e3 rfl
      have hm : m = true := by
        have := HE1.out
        cases m
        · cases this
        · rfl
      subst hm
      have hlt : k < l.length := (List.getElem?_eq_some_iff.1 h1).1
      have k0 : (0 : Int) ≤ (k : Int) := by omega
      have k1 : (k : Int) < (l.length : Int) := by omega
      have d0 : decide ((0 : Int) ≤ (k : Int)) = true := decide_eq_true k0
      have d1 : decide ((k : Int) < (l.length : Int)) = true := decide_eq_true k1
      obtain ⟨y0, y1⟩ := HB.out y (List.mem_of_getElem? h1)
      obtain ⟨n, hn⟩ : ∃ n : Nat, y = (n : Int) := ⟨y.toNat, by omega⟩
      subst hn
      rw [Int.toNat_natCast] at h2 h3
      have hgz := gt_zero n (may_good n (by omega) h3).1
      rw [h2] at hgz
      have hx := frombits (n : Int)
      rw [Int.toNat_natCast] at hx
      obtain ⟨ad, hA, hcell⟩ := H0.out.2.2 (by omega)
      subst hA
      have HH1 := Lib.hid h1
      clear e2 e3 h1 h2 h3 hcell y0 y1
      go_enter Try.func6, Try.ntmps6
      go_wp2_with fail
      refine (awake_any _).mono ?_
      rintro e w1 ⟨rfl, hb1⟩
      have e0 : w1.cell? (ad.add k) = some (.int .u64 (n : Int)) := by
        obtain ⟨ad', hA, hcell⟩ := (Kd.C_below H0.out hb1).2.2 (by omega)
        injection hA with hA
        subst hA
        obtain ⟨c, _, hK, hcc⟩ := hcell k (n : Int) HH1.out
        have := hcc 0 (.int .u64 (n : Int)) (by rw [show c = [.int .u64 (n : Int)] from hK]; rfl)
        rw [show k * (Kd.int .u64).sz + 0 = k from by show k * 1 + 0 = k; omega] at this
        exact this
      go_wp2_with fail
      refine (HP.out _ (Kd.C_below H0.out hb1)).mono ?_
      rintro e _ ⟨rfl, rfl⟩
      go_wp2_with fail
      refine (HC.out _ (Kd.C_below H0.out hb1)).mono ?_
      rintro e _ ⟨rfl, rfl⟩
      go_wp2_with fail
      go_ret
      exact ⟨rfl, hb1⟩
end Go.Proofs.Ytengoedkpogegaa.Base
namespace Go.Proofs.Ytengoedkpogegaa.One
open Go Go.RowKit Go.Proofs.YtengoedkpogegaaW.PrintWords
theorem core (A : Option Addr) (c : Nat) (l : List Int) (h : Int) (w : World) (hc : l.length ≤ c) (hm : l.length * 8 ≤ 140737488351232) (hz : ∀ x ∈ l, 0 ≤ x ∧ x < 18446744073709551616) (hl : Kd.C (Kd.int .u64) w A l.length l)
    (hh : (Lit.int .u32 h).wf = true) : Calls Try.prog 6 #[.slice A l.length c, .int .u32 h] w fun e w' => e = .returned (.bool true) ∧ Below w.heap.size w w' := by
  obtain ⟨h2, h3⟩ := Base.wf_u32 hh
  obtain ⟨j, rfl⟩ : ∃ k : Nat, h = (k : Int) := ⟨h.toNat, by omega⟩
  exact Base.one_any A c l j w hl hc hz (by omega) (by omega)
end Go.Proofs.Ytengoedkpogegaa.One
