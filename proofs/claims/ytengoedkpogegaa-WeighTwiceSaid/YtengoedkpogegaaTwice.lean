/- The law that twice each of the weights chooses the same. Conditions: none. -/
import Derived.Test.YtengoedkpogegaaTwicePure
import Derived.Test.YtengoedkpogegaaChooses
set_option linter.unusedVariables false
set_option linter.unusedSimpArgs false
namespace Go.Proofs.Ytengoedkpogegaa.Base
open Go Go.RowKit Go.Proofs.Ytengoedkpogegaa.Mem Go.Proofs.YtengoedkpogegaaW.PrintWords Go.Proofs.Ytengoedkpogegaa.Fl
theorem may_mid (n : Nat) (h1 : 4503599627370496 ≤ n) (h2 : n ≤ 4697254411347427328) : may n = true := by
  have hc : cls n = if 9218868437227405312 < n % 9223372036854775808 then 7 else if n % 9223372036854775808 = 0 then (if 9223372036854775808 ≤ n then 2 else 1) else if 9223372036854775808 ≤ n then 6 else if n % 9223372036854775808 = 9218868437227405312 then 5 else if n % 9223372036854775808 < 4503599627370496 then 3 else 4 := rfl
  rw [if_neg (by omega), if_neg (by omega), if_neg (by omega), if_neg (by omega), if_neg (by omega)] at hc
  exact decide_eq_true (.inr (.inr (.inr ⟨hc, h2⟩)))
theorem is_mid (n : Nat) (h1 : 553942754166571008 ≤ n) (h2 : n ≤ 4692750811720056832) : (FloatKind.f64.format.order n 553942754166571008 == some .gt || FloatKind.f64.format.order n 553942754166571008 == some .eq) = true ∧ (FloatKind.f64.format.order n 4692750811720056832 == some .lt || FloatKind.f64.format.order n 4692750811720056832 == some .eq) = true := by
  have hi : n ≤ INF := Nat.le_trans h2 (by decide)
  exact ⟨by rw [ge_pos n _ hi (by decide)]; exact decide_eq_true h1, by rw [le_pos n _ hi (by decide)]; exact decide_eq_true h2⟩
theorem not_mid (n : Nat) (hn : n < 18446744073709551616) (h : ¬ (553942754166571008 ≤ n ∧ n ≤ 4692750811720056832)) : (FloatKind.f64.format.order n 553942754166571008 == some .gt || FloatKind.f64.format.order n 553942754166571008 == some .eq) = false ∨
    ((FloatKind.f64.format.order n 553942754166571008 == some .gt || FloatKind.f64.format.order n 553942754166571008 == some .eq) = true ∧ (FloatKind.f64.format.order n 4692750811720056832 == some .lt || FloatKind.f64.format.order n 4692750811720056832 == some .eq) = false) := by
  by_cases c1 : n ≤ 9218868437227405312
  · have hi : n ≤ INF := c1
    rw [ge_pos n _ hi (by decide), le_pos n _ hi (by decide)]
    by_cases c2 : 553942754166571008 ≤ n
    · exact .inr ⟨decide_eq_true c2, decide_eq_false (fun h3 => h ⟨c2, h3⟩)⟩
    · exact .inl (decide_eq_false c2)
  · by_cases c2 : INF < n % SW
    · rw [ord_nan n _ (.inl c2)]; exact .inl rfl
    · have hk : K 553942754166571008 = 553942754166571008 := by decide
      have c3 : SW ≤ n := by
        have c2' : ¬ 9218868437227405312 < n % 9223372036854775808 := c2
        show 9223372036854775808 ≤ n
        omega
      have hK := K_eq n hn
      rw [if_pos c3] at hK
      rw [ord_key n _ (by omega) (by decide), cmp_gt, cmp_eq, hk, hK, decide_eq_false (by omega), decide_eq_false (by omega)]
      exact .inl rfl
def W2 (l : List Int) (w : World) (t5 t6 : Value) (wr : World) : Prop :=
  ∃ i : Nat, t6 = .int .i64 (i : Int) ∧ i ≤ l.length ∧ Kd.R (Kd.int .u64) 22 wr w.heap.size (fun _ => True) t5 (twL (l.take i)) ∧ midL (l.take i) ∧ Kp w.heap.size w wr
theorem u64_wrap (n : Nat) (h : n ≤ 4692750811720056832) : IntKind.u64.wrap ((n : Int) + 4503599627370496) = ((n + 4503599627370496 : Nat) : Int) := by
  simp [IntKind.wrap, IntKind.signed, IntKind.bits]
  omega
set_option maxHeartbeats 3200000 in
theorem twice_any (A0 : Option Addr) (c0 : Nat) (l : List Int) (h : Nat) (w : World) (h0 : Kd.C (Kd.int .u64) w A0 l.length l) (hc0 : l.length ≤ c0) (hb : inU l) (hl : l.length < 1000000000000000) (hh : h < 4294967296) :
    Calls Try.prog 8 #[.slice A0 l.length c0, .int .u32 (h : Int)] w fun e w' => e = .returned (.bool true) ∧ Below w.heap.size w w' := by
  by_cases hlen : 1000 < l.length
  · have q1 : decide ((1000 : Int) < (l.length : Int)) = true := decide_eq_true (by omega)
    clear h0
    go_enter Try.func8, Try.ntmps8
    go_wp2_with fail
    refine (awake_any _).mono ?_
    rintro e w1 ⟨rfl, hb1⟩
    go_wp2_with fail
    go_ret
    exact ⟨rfl, hb1⟩
  · have q1 : decide ((1000 : Int) < (l.length : Int)) = false := decide_eq_false (by omega)
    have H0 := Lib.hid h0
    have HB := Lib.hid hb
    have hy := frombits 553942754166571008
    clear h0 hb
    go_enter Try.func8, Try.ntmps8
    go_wp2_with fail
    refine (awake_any _).mono ?_
    rintro e w1 ⟨rfl, hb1⟩
    go_wp2_with fail
    have hR : W2 l w (.slice none 0 0) (.int .i64 0) w1 := ⟨0, rfl, Nat.zero_le _, Kd.R_nil _ _ _ _ _, (fun y hy => by simp at hy), (Kp.refl w).go hb1⟩
    clear hb1
    go_loopw [5, 6] (fun t5 t6 wr => W2 l w t5 t6 wr) (fun _ t6 _ => l.length - (intOf t6).toNat)
    case atStart => exact hR
    case round =>
      clear hR
      obtain ⟨i, rfl, hi, hRow, hmid, HK⟩ := hrel
      have HMID := Lib.hid hmid
      clear hmid
      have htl : (twL (l.take i)).length = i := by unfold twL; rw [List.length_map, List.length_take]; omega
      obtain ⟨A5, c5, rfl, m5, hC5⟩ := Kd.R_reads hRow
      by_cases hgo : i < l.length
      · obtain ⟨ad, rfl, e0⟩ := u64_at (Kd.C_below H0.out HK.below) i hgo
        obtain ⟨x0, x1⟩ := HB.out l[i] (List.getElem_mem _)
        obtain ⟨n, hn⟩ : ∃ n : Nat, l[i] = (n : Int) := ⟨l[i].toNat, by omega⟩
        have hn2 : n < 18446744073709551616 := by omega
        have hT : ∀ v : Nat, tw n = v → twL (l.take i) ++ [(v : Int)] = twL (l.take (i + 1)) := fun v hv => by
          unfold twL
          rw [List.take_succ_eq_append_getElem hgo, List.map_append, hn]
          simp [hv]
        have hM : mid n → may n = true → may (tw n) = true → midL (l.take (i + 1)) := fun a b c => by
          rw [List.take_succ_eq_append_getElem hgo]
          intro y hy
          rcases List.mem_append.1 hy with h1 | h1
          · exact HMID.out y h1
          · rw [List.mem_singleton.1 h1, hn, Int.toNat_natCast]
            exact ⟨by omega, a, b, c⟩
        have HT := Lib.hid hT
        have HM := Lib.hid hM
        rw [hn] at e0
        have hx := frombits (n : Int)
        rw [Int.toNat_natCast] at hx
        have k0 : (0 : Int) ≤ (i : Int) := by omega
        have k1 : (i : Int) < (l.length : Int) := by omega
        have hlen5 : (twL (l.take i)).length < 100000 := by omega
        clear hT hM x0 x1 hn hC5 htl
        generalize hL5 : twL (l.take i) = L at *
        have HL5 := Lib.hid hL5
        clear hL5
        generalize hu5 : Value.slice A5 L.length c5 = u5 at *
        have HU5 := Lib.hid hu5
        clear hu5
        by_cases z0 : n = 0
        · have p1 : ((n : Int) == 0) = true := by rw [z0]; rfl
          have HZ := Lib.hid z0
          clear z0
          go_wp2_with (at_builtin; go_must (refine Kd.R_append (Kd.int .u64) (w0 := w) w.heap.size rfl _ _ 26 22 (.int .u64 0) 8 rfl Try.underlying26 info22 rfl (by decide) (by decide) u5 L ((n : Nat) : Int) [.int .u64 ((n : Nat) : Int)] (fun _ => True) (fun _ => False) (by rfl) (by rfl) rfl (fun _ hk => hk.elim) (fun _ _ => trivial) hRow HK.below HK.size (by omega) ?_; intro v6 w6 ho6 hb6 hg6 hat6))
          rw [HT.out n (by rw [HZ.out]; rfl)] at ho6
          have HK6 : Kp w.heap.size w w6 := ⟨hb6, Nat.le_trans HK.size hg6.size⟩
          go_wp2_with fail
          go_roundw
          case rel => exact ⟨i + 1, by go_num, hgo, ho6, HM.out (.inl HZ.out) (by rw [HZ.out]; decide +kernel) (by rw [HZ.out]; decide +kernel), HK6⟩
          case measure => simp [intOf]; omega
        · have p1 : ((n : Int) == 0) = false := beq_eq_false_iff_ne.2 (by omega)
          by_cases z1 : n = 9223372036854775808
          · have p2 : ((n : Int) == 9223372036854775808) = true := by rw [z1]; rfl
            have HZ := Lib.hid z1
            clear z0 z1
            go_wp2_with (at_builtin; go_must (refine Kd.R_append (Kd.int .u64) (w0 := w) w.heap.size rfl _ _ 26 22 (.int .u64 0) 8 rfl Try.underlying26 info22 rfl (by decide) (by decide) u5 L ((n : Nat) : Int) [.int .u64 ((n : Nat) : Int)] (fun _ => True) (fun _ => False) (by rfl) (by rfl) rfl (fun _ hk => hk.elim) (fun _ _ => trivial) hRow HK.below HK.size (by omega) ?_; intro v6 w6 ho6 hb6 hg6 hat6))
            rw [HT.out n (by rw [HZ.out]; rfl)] at ho6
            have HK6 : Kp w.heap.size w w6 := ⟨hb6, Nat.le_trans HK.size hg6.size⟩
            go_wp2_with fail
            go_roundw
            case rel => exact ⟨i + 1, by go_num, hgo, ho6, HM.out (.inr (.inl HZ.out)) (by rw [HZ.out]; decide +kernel) (by rw [HZ.out]; decide +kernel), HK6⟩
            case measure => simp [intOf]; omega
          · have p2 : ((n : Int) == 9223372036854775808) = false := beq_eq_false_iff_ne.2 (by omega)
            by_cases zm : 553942754166571008 ≤ n ∧ n ≤ 4692750811720056832
            · obtain ⟨o1, o2⟩ := is_mid n zm.1 zm.2
              have hw := u64_wrap n zm.2
              have ht : tw n = n + 4503599627370496 := tw_pos n z0 z1
              have HME := Lib.hid (HM.out (.inr (.inr ⟨Nat.le_trans (by decide) zm.1, Nat.le_trans zm.2 (by decide)⟩)) (may_mid n (by omega) (by omega)) (by rw [ht]; exact may_mid _ (by omega) (by omega)))
              have HTE := Lib.hid (HT.out _ ht)
              clear z0 z1 zm ht
              generalize n + 4503599627370496 = n' at *
              go_wp2_with (at_builtin; go_must (refine Kd.R_append (Kd.int .u64) (w0 := w) w.heap.size rfl _ _ 26 22 (.int .u64 0) 8 rfl Try.underlying26 info22 rfl (by decide) (by decide) u5 L ((n' : Nat) : Int) [.int .u64 ((n' : Nat) : Int)] (fun _ => True) (fun _ => False) (by rfl) (by rfl) rfl (fun _ hk => hk.elim) (fun _ _ => trivial) hRow HK.below HK.size (by omega) ?_; intro v6 w6 ho6 hb6 hg6 hat6))
              rw [HTE.out] at ho6
              have HK6 : Kp w.heap.size w w6 := ⟨hb6, Nat.le_trans HK.size hg6.size⟩
              go_wp2_with fail
              go_roundw
              case rel => exact ⟨i + 1, by go_num, hgo, ho6, HME.out, HK6⟩
              case measure => simp [intOf]; omega
            · have hor := not_mid n hn2 zm
              clear z0 z1 zm
              rcases hor with o1 | ⟨o1, o2⟩
              · go_wp2_with fail
                go_ret
                exact ⟨rfl, HK.below⟩
              · go_wp2_with fail
                go_ret
                exact ⟨rfl, HK.below⟩
      · have hi2 : i = l.length := by omega
        have k1 : ¬ (i : Int) < (l.length : Int) := by omega
        have hml : midL l := by have := HMID.out; rw [hi2, List.take_length] at this; exact this
        rw [hi2, List.take_length] at hC5 m5 htl ⊢
        have hch := choose_tw l h hml (by omega) hh
        have hin : inU (twL l) := by
          intro y hy
          obtain ⟨z, hz, rfl⟩ := List.mem_map.1 hy
          have h2 := (mid_good _ (hml z hz).2.1).2
          refine ⟨by omega, ?_⟩
          rcases h2 with h3 | h3
          · have : tw z.toNat < 9218868437227405312 := h3
            omega
          · rw [h3]; decide
        have HC1 := Lib.hid (choose_any A0 c0 l h wr (Kd.C_below H0.out HK.below) hc0 HB.out hl hh)
        have HC2 := Lib.hid (choose_any A5 c5 (twL l) h wr hC5 m5 hin (by rw [htl]; omega) hh)
        rw [hch, htl] at HC2
        generalize choose l h = p at *
        generalize twL l = L at *
        clear hRow hC5 hch hin hml hi2
        go_wp2_with fail
        refine HC1.out.mono ?_
        rintro e _ ⟨rfl, rfl⟩
        go_wp2_with fail
        refine HC2.out.mono ?_
        rintro e _ ⟨rfl, rfl⟩
        go_wp2_with fail
        go_ret
        exact ⟨rfl, HK.below⟩
end Go.Proofs.Ytengoedkpogegaa.Base
namespace Go.Proofs.Ytengoedkpogegaa.Twice
open Go Go.RowKit Go.Proofs.YtengoedkpogegaaW.PrintWords
theorem core (A : Option Addr) (c : Nat) (l : List Int) (h : Int) (w : World) (hc : l.length ≤ c) (hm : l.length * 8 ≤ 140737488351232) (hz : ∀ x ∈ l, 0 ≤ x ∧ x < 18446744073709551616) (hl : Kd.C (Kd.int .u64) w A l.length l)
    (hh : (Lit.int .u32 h).wf = true) : Calls Try.prog 8 #[.slice A l.length c, .int .u32 h] w fun e w' => e = .returned (.bool true) ∧ Below w.heap.size w w' := by
  obtain ⟨h2, h3⟩ := Base.wf_u32 hh
  obtain ⟨j, rfl⟩ : ∃ k : Nat, h = (k : Int) := ⟨h.toNat, by omega⟩
  exact Base.twice_any A c l j w hl hc hz (by omega) (by omega)
end Go.Proofs.Ytengoedkpogegaa.Twice
