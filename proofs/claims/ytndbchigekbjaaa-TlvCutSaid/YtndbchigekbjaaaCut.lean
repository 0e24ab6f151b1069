/- The law of bytes that are cut short. Conditions: none. -/
import Derived.Test.YtndbchigekbjaaaLong
import Derived.Test.YtndbchigekbjaaaCutPure
import Derived.Test.YtndbchigekbjaaaSame
import Derived.Test.YtndbchigekbjaaaAwake
import Derived.Test.YtndbchigekbjaaaOpen
import Derived.Deep.RegionHeld3
set_option linter.unusedVariables false
set_option linter.unusedSimpArgs false
namespace Go.Proofs.Ytndbchigekbjaaa.Base
open Go Go.RowKit Go.Proofs.Ytndbchigekbjaaa.Mem Go.Proofs.YtndbchigekbjaaaW.PrintWords Go.Proofs.YtndbchigekbjaaaW.PrintLast Go.Proofs.Ytndbchigekbjaaa.PTlvCodes
theorem C_take {w : World} {A : Option Addr} {l : List S48} (h : Kd.C k48 w A l.length l) (i : Nat) (hi : i ≤ l.length) : Kd.C k48 w A i (l.take i) := by
  obtain ⟨h1, h2, h3⟩ := h
  refine ⟨by rw [List.length_take]; omega, by omega, fun hp => ?_⟩
  obtain ⟨ad, e, hc⟩ := h3 (by omega)
  refine ⟨ad, e, fun j p hj => hc j p ?_⟩
  rw [List.getElem?_take] at hj
  split at hj
  · exact hj
  · cases hj
def CRA (w7 : World) (t10 t11 : Value) (wr : World) : Prop := t10 = .int .i64 0 ∧ t11 = .int .i64 0 ∧ wr = w7
def CRC (q : List S38) (w7 : World) (t10 t11 : Value) (wr : World) : Prop := ∃ i : Nat, t11 = .int .i64 (i : Int) ∧ t10 = .int .i64 ((tot38 (q.take i) : Nat) : Int) ∧ i ≤ q.length ∧ wr = w7
def CRB (q : List S38) (n : Nat) (w7 : World) (t10 t11 : Value) (wr : World) : Prop := ∃ i : Nat, t11 = .int .i64 (i : Int) ∧ t10 = .int .i64 ((tot38 (q.take i) : Nat) : Int) ∧ i < n ∧ wr = w7
theorem tot_app : ∀ (x y : List S38), tot38 (x ++ y) = tot38 x + tot38 y
  | [], y => by simp [tot38]
  | z :: r, y => by rw [List.cons_append, tot38, tot38, tot_app r y]; omega
theorem tot_next (q : List S38) (i : Nat) (hi : i < q.length) : tot38 (q.take (i + 1)) = tot38 (q.take i) + 3 + q[i].f1.size := by
  rw [List.take_succ_eq_append_getElem hi, tot_app, tot38, tot38]
  omega
theorem tot_mono (q : List S38) (i : Nat) : ∀ j, i < j → j ≤ q.length → tot38 (q.take i) < tot38 (q.take j) := by
  intro j
  induction j with
  | zero => intro h; omega
  | succ j ih =>
    intro h1 h2
    have := tot_next q j (by omega)
    rcases Nat.lt_or_ge i j with h | h
    · have := ih h (by omega); omega
    · obtain rfl : i = j := by omega
      omega
theorem add_fact (a z b : Nat) (h : b = a + 3 + z) (hb : b < 1000000) : wrap64 ((a : Int) + 3) = (a : Int) + 3 ∧ wrap64 ((a : Int) + 3 + (z : Int)) = (b : Int) := by
  unfold wrap64
  omega
theorem eq_fact (a b : Nat) (h : a ≠ b) : ((a : Int) == (b : Int)) = false ∧ (a == b) = false := ⟨beq_eq_false_iff_ne.2 (by omega), beq_eq_false_iff_ne.2 h⟩
theorem wrap_nat' (k : Nat) (h : k < 1000000000) : wrap64 ((k : Int) + 1) = ((k + 1 : Nat) : Int) := by unfold wrap64; omega
theorem same48_take (A0 : Option Addr) (c0 : Nat) (l : List S48) (A1 : Option Addr) (c1 n : Nat) (w : World) (hn : l.length = n) (h0 : Kd.C k48 w A0 l.length l) (hc0 : l.length ≤ c0) (h1 : Kd.C k48 w A1 l.length l) (hc1 : n ≤ c1) (hl : l.length < 1000000000) :
    Calls Try.prog 17 #[.slice A0 l.length c0, .slice A1 n c1] w fun e w' => e = .returned (.bool true) ∧ Below w.heap.size w w' := by
  subst hn
  exact same48_any A0 c0 l A1 c1 w h0 hc0 h1 hc1 hl
theorem idx_fact (i c0 n : Nat) (h : i < n) (hn : n ≤ 300) (hc : n ≤ c0) : wrap64 ((i : Int) + 1) = (i : Int) + 1 ∧ IntKind.i64.wrap ((i : Int) + 1) = (i : Int) + 1 ∧ (0 : Int) ≤ (i : Int) + 1 ∧ (i : Int) + 1 ≤ (c0 : Int) := by
  rw [i64_w]
  unfold wrap64
  omega
theorem take_fact (i n : Nat) (l p : List S48) (mm q : List S38) (hq : q = l.map to38) (hmm : mm = q.take (i + 1)) (hp : p = l.take (i + 1)) (h : i < l.length) (hl : l.length ≤ 300) :
    mm.map to48 = p ∧ p.length = i + 1 ∧ mm.length < 1000000000 ∧ p.length < 1000000000 := by
  subst hq hmm hp
  refine ⟨by rw [← List.map_take, to48_to38], by rw [List.length_take]; omega, by rw [List.length_take, List.length_map]; omega, by rw [List.length_take]; omega⟩
theorem rem_fact (cut : Int) (n : Nat) (hn : n < 1000000000) : ∃ k : Nat, k ≤ n ∧ IntKind.u64.wrap ((n : Int) + 1) = (n : Int) + 1 ∧ (IntKind.u64.wrap cut).tmod ((n : Int) + 1) = (k : Int) ∧ wrap64 (k : Int) = (k : Int) := by
  have hw : ∀ x, IntKind.u64.wrap x = x % 18446744073709551616 := fun x => by simp [IntKind.wrap, IntKind.signed, IntKind.bits]
  have h1 : IntKind.u64.wrap ((n : Int) + 1) = (n : Int) + 1 := by rw [hw]; omega
  obtain ⟨u, hu⟩ : ∃ u : Nat, IntKind.u64.wrap cut = (u : Int) := ⟨(cut % 18446744073709551616).toNat, by rw [hw]; omega⟩
  refine ⟨u % (n + 1), by have := Nat.mod_lt u (show 0 < n + 1 by omega); omega, h1, ?_, ?_⟩
  · rw [hu]; rfl
  · have := Nat.mod_lt u (show 0 < n + 1 by omega)
    unfold wrap64
    omega
set_option maxHeartbeats 1600000 in
theorem cut_any (A0 : Option Addr) (c0 : Nat) (l : List S48) (cut : Int) (w : World) (h0 : Kd.C k48 w A0 l.length l) (hc0 : l.length ≤ c0) (hl : l.length < 1000000000000000) (hb : ∀ x ∈ l, 0 ≤ x.f0 ∧ x.f0 < 256) (hcut : (Lit.int .i64 cut).wf = true) :
    Calls Try.prog 8 #[.slice A0 l.length c0, .int .i64 cut] w fun e w' => e = .returned (.bool true) ∧ Below w.heap.size w w' := by
  have HL := Lib.hid h0
  clear h0
  obtain ⟨r, hr, hlarge⟩ := long_any A0 c0 l w HL.out hc0 hl
  have HR := Lib.hid hr
  have HLA := Lib.hid hlarge
  have HP := Lib.hid hb
  have HCUT := Lib.hid hcut
  clear hr hlarge hb hcut
  cases r
  · have ht := HR.out rfl
    have HT := Lib.hid ht.1
    have hll := ht.2
    clear ht
    go_enter Try.func8, Try.ntmps8
    go_wp2_with fail
    refine HLA.out.mono ?_
    rintro e w1 ⟨rfl, hb1⟩
    have HK := (Kp.refl w).go hb1
    clear hb1 HLA HR
    go_wp2_with fail
    refine (awake_any w1).mono ?_
    rintro e w2 ⟨rfl, hb2⟩
    have HK2 := HK.go hb2
    clear hb2 HK
    go_wp2_with fail
    refine (attrs_conv A0 c0 l w2 (Kd.C_below HL.out HK2.below) hc0 (by omega)).mono ?_
    rintro e w5 ⟨v5, rfl, ho5, hb5⟩
    obtain ⟨A4, c4, rfl, m4, hC4⟩ := Kd.R_reads ho5
    have HK5 : Kp w.heap.size w w5 := HK2.go hb5
    have HIN := Lib.hid hC4
    clear ho5 hb5 hC4 HK2
    obtain ⟨q, hq⟩ : ∃ q, q = l.map to38 := ⟨_, rfl⟩
    have hql : q.length = l.length := by rw [hq, List.length_map]
    have hqb : inB q := by
      rw [hq]
      intro y hy
      obtain ⟨x, hx, rfl⟩ := List.mem_map.1 hy
      exact HP.out x hx
    rw [← hq] at HIN m4 HT ⊢
    have HQ := Lib.hid hq
    have HQL := Lib.hid hql
    have HED : ((enc [] 0 q).2 = 0 ∧ okA 0 q ∧ (enc [] 0 q).1.data.toList = abB q) ∨ ((enc [] 0 q).1 = ⟨#[]⟩ ∧ ((enc [] 0 q).2 = 3 ∨ (enc [] 0 q).2 = 5)) := by
      by_cases h : okA 0 q
      · exact .inl ⟨(enc_bytes q h).1, h, (enc_bytes q h).2⟩
      · exact .inr (enc_bad q 0 [] h)
    clear hq hql
    obtain ⟨t, er, hT⟩ : ∃ t er, enc [] 0 q = (t, er) := ⟨_, _, rfl⟩
    rw [hT] at HED
    simp only at HED
    go_wp2_with fail
    have hlist := enc_any A4 c4 q w5 HIN.out m4 (by have := HQL.out; omega) (by have := HT.out; omega)
    rw [hT] at hlist
    refine hlist.mono ?_
    clear hlist hT
    rintro e w6 ⟨rfl, hb6⟩
    have HK6 := HK5.go hb6
    clear hb6 HK5 HIN
    rcases HED with ⟨rfl, hok, ht⟩ | ⟨rfl, hbad⟩
    · have hts : t.size = tot38 q := by rw [size_list, ht, abB_len]
      have HTS := Lib.hid hts
      have HTB := Lib.hid ht
      have HOK := Lib.hid hok
      have HQB := Lib.hid hqb
      have ht1 : wrap64 ((t.size : Int) + 1) = (t.size : Int) + 1 := by have := HT.out; unfold wrap64; omega
      clear hts ht hok hqb
      obtain ⟨k, hk, u1, u2, u3⟩ := rem_fact cut t.size (by have := HTS.out; have := HT.out; omega)
      have u4 : ((t.size : Int) + 1 == 0) = false := beq_eq_false_iff_ne.2 (by omega)
      have u5 : (t.size : Int) + 1 ≠ 0 := by omega
      have k0 : (0 : Int) ≤ (k : Int) := by omega
      have k1 : (k : Int) ≤ (t.size : Int) := by omega
      go_wp2_with fail
      simp only [u3]
      have hx : (t.extract 0 k).data.toList = (abB q).take k := by rw [← HTB.out]; simp
      refine (decode_any (t.extract 0 k) w6 (by have := HTS.out; have := HT.out; rw [size_list, hx, List.length_take, abB_len]; omega)).mono ?_
      rintro e w7 ⟨v, rfl, hr7, hb7⟩
      have HK7 := HK6.go hb7
      rw [hx] at hr7 ⊢
      have hD := dec_cut q 0 HQB.out HOK.out k (by rw [abB_len]; have := HTS.out; omega)
      clear hx hb7 HK6 u1 u2 u4 u5
      rcases hD with ⟨i0, hi0, hk0, hd0⟩ | ⟨hno, hd0⟩
      · rw [hd0] at hr7 ⊢
        simp only [if_true] at hr7
        obtain ⟨mm, hmm⟩ : ∃ x, x = q.take i0 := ⟨_, rfl⟩
        rw [← hmm] at hr7
        have HMM := Lib.hid hmm
        obtain ⟨A7, c7, rfl, m7, hC7⟩ := Kd.R_reads hr7
        have HC7 := Lib.hid hC7
        clear hr7 hC7 hd0 hmm
        rcases i0 with _ | i0
        · obtain rfl : k = 0 := hk0
          have hm0 : mm.length = 0 := by rw [HMM.out]; rfl
          go_wp2_with fail
          have hR0 : CRA w7 (.int .i64 0) (.int .i64 0) w7 := ⟨rfl, rfl, rfl⟩
          go_loopw [10, 11] (fun t10 t11 wr => CRA w7 t10 t11 wr) (fun _ _ _ => 0)
          case atStart => exact hR0
          case round =>
            clear hR0
            obtain ⟨rfl, rfl, rfl⟩ := hrel
            by_cases hlen : l.length = 0
            · have hl1 : decide ((0 : Int) < (l.length : Int)) = false := decide_eq_false (by omega)
              go_wp2_with fail
              go_ret
              exact ⟨rfl, HK7.below⟩
            · have hl1 : decide ((0 : Int) < (l.length : Int)) = true := decide_eq_true (by omega)
              go_wp2_with fail
              go_ret
              exact ⟨rfl, HK7.below⟩
        · have hkp : (0 : Int) < (k : Int) := by
            have h1 := tot_mono q 0 (i0 + 1) (by omega) hi0
            have h0 : tot38 (q.take 0) = 0 := rfl
            omega
          have HK0 := Lib.hid hk0
          clear hk0
          go_wp2_with fail
          have hR0 : CRB q (i0 + 1) w7 (.int .i64 0) (.int .i64 0) w7 := ⟨0, rfl, rfl, by omega, rfl⟩
          go_loopw [10, 11] (fun t10 t11 wr => CRB q (i0 + 1) w7 t10 t11 wr) (fun _ t11 _ => q.length - (intOf t11).toNat)
          case atStart => exact hR0
          case round =>
            clear hR0
            obtain ⟨i, rfl, rfl, hi, rfl⟩ := hrel
            have hq2 : i < q.length := by omega
            have hlt : i < l.length := by rw [← HQL.out]; exact hq2
            have hl1 : decide ((i : Int) < (l.length : Int)) = true := decide_eq_true (by omega)
            have hak : tot38 (q.take i) < k := by rw [HK0.out]; exact tot_mono q i (i0 + 1) hi hi0
            have hl2 : decide (((tot38 (q.take i) : Nat) : Int) < (k : Int)) = true := decide_eq_true (by omega)
            have hl2' : decide (tot38 (q.take i) < k) = true := decide_eq_true hak
            have hnext := tot_next q i hq2
            have hend : (i = i0 ∧ tot38 (q.take (i + 1)) = k) ∨ (i < i0 ∧ tot38 (q.take (i + 1)) ≠ k) := by
              rcases Nat.lt_or_ge i i0 with h | h
              · have := tot_mono q (i + 1) (i0 + 1) (by omega) hi0
                have := HK0.out
                exact .inr ⟨h, by omega⟩
              · obtain rfl : i = i0 := by omega
                exact .inl ⟨rfl, HK0.out.symm⟩
            have k2 : (0 : Int) ≤ (i : Int) := by omega
            have k3 : (i : Int) < (l.length : Int) := by omega
            obtain ⟨ad, rfl, x0, x1⟩ := at_T48 (Kd.C_below HL.out HK7.below) (i : Int) k2 k3
            have er : (rd_T48 l (i : Int)).f1 = q[i].f1 := by
              have e1 : rd_T48 l (i : Int) = l[i] := by simp [rd_T48, List.getD_eq_getElem?_getD, hlt]
              have e2 : q[i]? = some (to38 l[i]) := by rw [HQ.out, List.getElem?_map, List.getElem?_eq_getElem hlt]; rfl
              rw [List.getElem?_eq_getElem hq2] at e2
              injection e2 with e2
              rw [e1, e2]
              rfl
            rw [er, Int.toNat_natCast] at x1
            have hb9 : tot38 (q.take (i + 1)) < 1000000 := by
              have h1 := tot_app (q.take (i + 1)) (q.drop (i + 1))
              rw [List.take_append_drop] at h1
              have := HT.out
              omega
            clear x0 er
            obtain ⟨w1, w2⟩ := add_fact _ _ _ hnext hb9
            generalize q[i].f1 = z at *
            have G1 : ∃ y, y = tot38 (q.take i) := ⟨_, rfl⟩
            have G2 : ∃ y, y = tot38 (q.take (i + 1)) := ⟨_, rfl⟩
            obtain ⟨a, ha1⟩ := G1
            obtain ⟨b, ha2⟩ := G2
            have HA2 := Lib.hid ha2
            rw [← ha1] at w1 w2 hl2 hl2' ⊢
            rw [← ha2] at w2 hend
            clear ha1 ha2 hnext hak hb9
            rcases hend with ⟨rfl, rfl⟩ | ⟨hlt2, hne2⟩
            · obtain ⟨k4, k5, k6, k7⟩ := idx_fact i c0 l.length hlt hll hc0
              obtain ⟨p, hp⟩ : ∃ p, p = l.take (i + 1) := ⟨_, rfl⟩
              obtain ⟨hmp, hpl, hmlt, hplt⟩ := take_fact i 0 l p mm q HQ.out HMM.out hp hlt hll
              have HMP := Lib.hid hmp
              have HPL := Lib.hid hpl
              have HPP := Lib.hid hp
              have hC0 : Kd.C k48 wr.drew (some ad) p.length p := by rw [hpl, hp]; exact Kd.C_drewN (C_take (Kd.C_below HL.out HK7.below) (i + 1) hlt) 1
              have HC0 := Lib.hid hC0
              have hm7 : Kd.C k38 wr.drew A7 mm.length mm := Kd.C_drewN HC7.out 1
              have HM7 := Lib.hid hm7
              have hHB : Below w.heap.size w wr.drew := below_drew1 HK7.below
              have hic : i + 1 ≤ c0 := Nat.le_trans hlt hc0
              clear hmp hpl hp hC0 hm7
              go_wp2_with fail
              go_region_held3 (fun _ => True) (exact trivial) (first
                | ((go_at_call 18; (with_reducible refine (plain_conv A7 c7 mm _ HM7.out m7 hmlt).mono ?_); rintro e w8 ⟨v8, rfl, ho8, hb8⟩; rw [HMP.out] at ho8; obtain ⟨A8, c8, rfl, m8, hC8⟩ := Kd.R_reads ho8; have HB8 : Below w.heap.size w w8 := below_step hHB hb8; have hC08 : Kd.C k48 w8 (some ad) p.length p := Kd.C_below HC0.out hb8))
                | ((go_at_call 17; (with_reducible refine (same48_take A8 c8 p (some ad) c0 _ _ HPL.out hC8 m8 hC08 hic hplt).mono ?_); rintro e w9 ⟨rfl, hb9⟩; have HB9 : Below w.heap.size w w9 := below_step HB8 hb9)))
              go_wp2_with fail
              go_ret
              exact ⟨rfl, HB9⟩
            · obtain ⟨w3, w4⟩ := eq_fact _ _ hne2
              clear hne2
              go_wp2_with fail
              refine ⟨⟨i + 1, rfl, by rw [w2, HA2.out], by omega, rfl⟩, ?_⟩
              simp [intOf]
              omega
      · rw [hd0, if_neg (by decide)] at hr7
        rw [hd0]
        obtain ⟨mm, hmm⟩ : ∃ x : List S38, x = [] := ⟨_, rfl⟩
        rw [← hmm] at hr7
        obtain ⟨A7, c7, rfl, m7, hC7⟩ := Kd.R_reads hr7
        have hm0 : mm.length = 0 := by rw [hmm]; rfl
        have hkp : (0 : Int) < (k : Int) := by
          have := hno 0 (Nat.zero_le _)
          have h0 : tot38 (q.take 0) = 0 := rfl
          omega
        have hkd : ((k : Int) == 0) = false := beq_eq_false_iff_ne.2 (by omega)
        have hkd' : (k == 0) = false := beq_eq_false_iff_ne.2 (by omega)
        have HNO := Lib.hid hno
        clear hr7 hd0 hC7 hno hmm
        go_wp2_with fail
        have hR0 : CRC q w7 (.int .i64 0) (.int .i64 0) w7 := ⟨0, rfl, rfl, Nat.zero_le _, rfl⟩
        go_loopw [10, 11] (fun t10 t11 wr => CRC q w7 t10 t11 wr) (fun _ t11 _ => q.length - (intOf t11).toNat)
        case atStart => exact hR0
        case round =>
          clear hR0
          obtain ⟨i, rfl, rfl, hi, rfl⟩ := hrel
          by_cases hlt : i < l.length
          · have hl1 : decide ((i : Int) < (l.length : Int)) = true := decide_eq_true (by omega)
            by_cases hak : tot38 (q.take i) < k
            · have hl2 : decide (((tot38 (q.take i) : Nat) : Int) < (k : Int)) = true := decide_eq_true (by omega)
              have hl2' : decide (tot38 (q.take i) < k) = true := decide_eq_true hak
              have hq2 : i < q.length := by rw [HQL.out]; exact hlt
              have hnext := tot_next q i hq2
              have hne2 := HNO.out (i + 1) hq2
              have k2 : (0 : Int) ≤ (i : Int) := by omega
              have k3 : (i : Int) < (l.length : Int) := by omega
              obtain ⟨ad, rfl, x0, x1⟩ := at_T48 (Kd.C_below HL.out HK7.below) (i : Int) k2 k3
              have er : (rd_T48 l (i : Int)).f1 = q[i].f1 := by
                have e1 : rd_T48 l (i : Int) = l[i] := by simp [rd_T48, List.getD_eq_getElem?_getD, hlt]
                have e2 : q[i]? = some (to38 l[i]) := by rw [HQ.out, List.getElem?_map, List.getElem?_eq_getElem hlt]; rfl
                rw [List.getElem?_eq_getElem hq2] at e2
                injection e2 with e2
                rw [e1, e2]
                rfl
              rw [er, Int.toNat_natCast] at x1
              have hb9 : tot38 (q.take (i + 1)) < 1000000 := by
                have h1 := tot_app (q.take (i + 1)) (q.drop (i + 1))
                rw [List.take_append_drop] at h1
                have := HT.out
                omega
              clear x0 er
              obtain ⟨w1, w2⟩ := add_fact _ _ _ hnext hb9
              obtain ⟨w3, w4⟩ := eq_fact _ _ (Ne.symm hne2)
              generalize q[i].f1 = z at *
              have G1 : ∃ y, y = tot38 (q.take i) := ⟨_, rfl⟩
              have G2 : ∃ y, y = tot38 (q.take (i + 1)) := ⟨_, rfl⟩
              obtain ⟨a, ha1⟩ := G1
              obtain ⟨b, ha2⟩ := G2
              have HA2 := Lib.hid ha2
              rw [← ha1] at w1 w2 hl2 hl2' ⊢
              rw [← ha2] at w2 w3 w4
              clear ha1 ha2 hnext hne2 hak hb9
              go_wp2_with fail
              refine ⟨⟨i + 1, rfl, by rw [w2, HA2.out], hq2, rfl⟩, ?_⟩
              simp [intOf]
              omega
            · have hl2 : decide (((tot38 (q.take i) : Nat) : Int) < (k : Int)) = false := decide_eq_false (by omega)
              have hl2' : decide (tot38 (q.take i) < k) = false := decide_eq_false hak
              generalize tot38 (q.take i) = a at *
              clear hak
              go_wp2_with fail
              go_ret
              exact ⟨rfl, HK7.below⟩
          · have hl1 : decide ((i : Int) < (l.length : Int)) = false := decide_eq_false (by omega)
            go_wp2_with fail
            go_ret
            exact ⟨rfl, HK7.below⟩
    · have he : (er != 0) = true := by rcases hbad with rfl | rfl <;> rfl
      have he2 : (er == 0) = false := by rcases hbad with rfl | rfl <;> rfl
      clear hbad
      go_wp2_with fail
      go_ret
      exact ⟨rfl, HK6.below⟩
  · go_enter Try.func8, Try.ntmps8
    go_wp2_with fail
    refine HLA.out.mono ?_
    rintro e w1 ⟨rfl, hb1⟩
    go_wp2_with fail
    refine (awake_any w1).mono ?_
    rintro e w2 ⟨rfl, hb2⟩
    have HB2 := below_step hb1 hb2
    go_wp2_with fail
    go_ret
    exact ⟨rfl, HB2⟩
end Go.Proofs.Ytndbchigekbjaaa.Base
namespace Go.Proofs.Ytndbchigekbjaaa.Cut
open Go Go.RowKit Go.Proofs.YtndbchigekbjaaaW.PrintWords Go.Proofs.Ytndbchigekbjaaa.PTlvCodes
theorem core (A : Option Addr) (c : Nat) (l : List S48) (cut : Int) (w : World)
    (hc : l.length ≤ c) (hm : l.length * 24 ≤ 140737488351232) (hz : ∀ x ∈ l, 0 ≤ x.f0 ∧ x.f0 < 256) (hl : Kd.C k48 w A l.length l) (hs : (Lit.int .i64 cut).wf = true) :
    Calls Try.prog 8 #[.slice A l.length c, .int .i64 cut] w fun e w' => e = .returned (.bool true) ∧ Below w.heap.size w w' :=
  Base.cut_any A c l cut w hl hc (by omega) hz hs
end Go.Proofs.Ytndbchigekbjaaa.Cut
