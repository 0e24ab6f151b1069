/- The law that attributes have one way as bytes. Conditions: none. -/
import Derived.Test.YtndbchigekbjaaaLong
import Derived.Test.YtndbchigekbjaaaSame
import Derived.Test.YtndbchigekbjaaaAwake
import Derived.Test.YtndbchigekbjaaaAttrPure
import Derived.Test.YtndbchigekbjaaaOpen
set_option linter.unusedVariables false
set_option linter.unusedSimpArgs false
namespace Go.Proofs.Ytndbchigekbjaaa.Base
open Go Go.RowKit Go.Proofs.Ytndbchigekbjaaa.Mem Go.Proofs.YtndbchigekbjaaaW.PrintWords Go.Proofs.Ytndbchigekbjaaa.PTlvCodes
theorem inB_map (l : List S48) (h : ∀ x ∈ l, 0 ≤ x.f0 ∧ x.f0 < 256) : inB (l.map to38) := by
  intro y hy
  obtain ⟨x, hx, rfl⟩ := List.mem_map.1 hy
  exact h x hx
set_option maxHeartbeats 1600000 in
theorem one_any (A0 : Option Addr) (c0 : Nat) (l : List S48) (s : ByteArray) (w : World) (h0 : Kd.C k48 w A0 l.length l) (hc0 : l.length ≤ c0) (hl : l.length < 1000000000000000) (hb : ∀ x ∈ l, 0 ≤ x.f0 ∧ x.f0 < 256) :
    Calls Try.prog 5 #[.slice A0 l.length c0, .string s] w fun e w' => e = .returned (.bool true) ∧ Below w.heap.size w w' := by
  have HL := Lib.hid h0
  clear h0
  obtain ⟨r, hr, hlarge⟩ := long_any A0 c0 l w HL.out hc0 hl
  have HR := Lib.hid hr
  have HLA := Lib.hid hlarge
  have HP := Lib.hid hb
  clear hr hlarge hb
  by_cases hs : (20000 : Int) < (s.size : Int)
  · have hd := decide_eq_true hs
    go_enter Try.func5, Try.ntmps5
    go_wp2_with fail
    refine HLA.out.mono ?_
    rintro e w1 ⟨rfl, hb1⟩
    cases r
    all_goals
      go_wp2_with fail
      refine (awake_any w1).mono ?_
      rintro e w2 ⟨rfl, hb2⟩
      have HB2 := below_step hb1 hb2
      go_wp2_with fail
      go_ret
      exact ⟨rfl, HB2⟩
  · have hd := decide_eq_false hs
    have hs9 : s.size ≤ 10000000 := by omega
    cases r
    · have ht := HR.out rfl
      have HT := Lib.hid ht.1
      have hll := ht.2
      clear ht
      go_enter Try.func5, Try.ntmps5
      go_wp2_with fail
      refine HLA.out.mono ?_
      rintro e w1 ⟨rfl, hb1⟩
      have HK := (Kp.refl w).go hb1
      clear hb1 HLA HR
      go_wp2_with fail
      refine (awake_any w1).mono ?_
      rintro e w2 ⟨rfl, hb2⟩
      have HK2 := HK.go hb2
      clear hb2 HK
      go_wp2_with fail
      refine (attrs_conv A0 c0 l w2 (Kd.C_below HL.out HK2.below) hc0 (by omega)).mono ?_
      rintro e w5 ⟨v5, rfl, ho5, hb5⟩
      obtain ⟨A4, c4, rfl, m4, hC4⟩ := Kd.R_reads ho5
      have HK5 : Kp w.heap.size w w5 := HK2.go hb5
      have HIN := Lib.hid hC4
      clear ho5 hb5 hC4 HK2
      obtain ⟨q, hq⟩ : ∃ q, q = l.map to38 := ⟨_, rfl⟩
      have hql : q.length = l.length := by rw [hq, List.length_map]
      have hqb : inB q := by rw [hq]; exact inB_map l HP.out
      rw [← hq] at HIN m4 HT ⊢
      have HQ := Lib.hid hq
      have HQL := Lib.hid hql
      have HED := enc_dec q hqb
      clear hq hql hqb
      obtain ⟨t, er, hT⟩ : ∃ t er, enc [] 0 q = (t, er) := ⟨_, _, rfl⟩
      rw [hT] at HED
      simp only at HED
      go_wp2_with fail
      have hlist := enc_any A4 c4 q w5 HIN.out m4 (by have := HQL.out; omega) (by have := HT.out; omega)
      rw [hT] at hlist
      refine hlist.mono ?_
      clear hlist hT
      rintro e w6 ⟨rfl, hb6⟩
      have HK6 := HK5.go hb6
      clear hb6 HK5 HIN
      have FIN : ∀ wr : World, Kp w.heap.size w wr → True := fun _ _ => trivial
      clear FIN
      rcases HED with ⟨rfl, a2, a3⟩ | ⟨rfl, hbad⟩
      case' inl =>
        have A2 := Lib.hid a2
        have ht7 : t.size ≤ 10000000 := by rw [Array.length_toList] at a3; have h1 : t.size = tot38 q := a3; have := HT.out; omega
        clear a2 a3
        go_wp2_with fail
        refine (decode_any t w6 ht7).mono ?_
        rintro e w7 ⟨v, rfl, hr7, hb7⟩
        rw [A2.out] at hr7 ⊢
        simp only [if_true] at hr7
        have HK7 := HK6.go hb7
        obtain ⟨A5, c5, rfl, m5, hC5⟩ := Kd.R_reads hr7
        have HC5 := Lib.hid hC5
        clear hr7 hb7 HK6 hC5
        go_wp2_with fail
        refine (plain_conv A5 c5 q w7 HC5.out m5 (by have := HQL.out; omega)).mono ?_
        rintro e wp ⟨vp, rfl, hop, hbp⟩
        have HKp := HK7.go hbp
        rw [HQ.out, to48_to38] at hop
        obtain ⟨A6, c6, rfl, m6, hC6⟩ := Kd.R_reads hop
        have HCp := Lib.hid hC6
        clear hop hC6 hbp HK7 HC5
        go_wp2_with fail
        refine (same48_any A6 c6 l A0 c0 wp HCp.out m6 (Kd.C_below HL.out HKp.below) hc0 (by omega)).mono ?_
        rintro e w8 ⟨rfl, hb8⟩
        have HK6 := HKp.go hb8
        clear hb8 HKp HCp A2
        go_wp2_with fail
      case' inr =>
        have he : (er == 0) = false := by rcases hbad with rfl | rfl <;> rfl
        clear hbad
        go_wp2_with fail
      all_goals
        refine (decode_any s _ hs9).mono ?_
        rintro e w10 ⟨v, rfl, hr10, hb10⟩
        have HK10 := HK6.go hb10
        clear hb10 HK6
        have hRL := Lib.hid (dec_enc s)
        have hDL := dec_len s.data.toList 0
        have hsl := size_list s
        obtain ⟨m, g, hD⟩ : ∃ m g, dec 0 s.data.toList = (m, g) := ⟨_, _, rfl⟩
        rw [hD] at hRL hr10 hDL ⊢
        simp only at hr10 hDL
        have hm9 : m.length ≤ 20000 := by omega
        clear hD hDL hsl
        by_cases hg : g = 0
        · subst hg
          have hq := hRL.out rfl
          simp only [if_true] at hr10 hq
          have HQQ := Lib.hid hq.1
          have hq2 := hq.2
          clear hq hRL
          obtain ⟨A9, c9, rfl, m9, hC9⟩ := Kd.R_reads hr10
          clear hr10
          go_wp2_with fail
          refine (enc_any A9 c9 m w10 hC9 m9 (by omega) (by omega)).mono ?_
          rintro e w11 ⟨rfl, hb11⟩
          rw [HQQ.out]
          have HK11 := HK10.go hb11
          go_wp2_with fail
          go_ret
          exact ⟨rfl, HK11.below⟩
        · simp only [if_neg hg] at hr10
          obtain ⟨A9, c9, rfl, m9, hC9⟩ := Kd.R_reads hr10
          have hgd : (g == 0) = false := beq_eq_false_iff_ne.2 hg
          clear hr10 hC9 hRL
          go_wp2_with fail
          go_ret
          exact ⟨rfl, HK10.below⟩
    · go_enter Try.func5, Try.ntmps5
      go_wp2_with fail
      refine HLA.out.mono ?_
      rintro e w1 ⟨rfl, hb1⟩
      go_wp2_with fail
      refine (awake_any w1).mono ?_
      rintro e w2 ⟨rfl, hb2⟩
      have HB2 := below_step hb1 hb2
      go_wp2_with fail
      go_ret
      exact ⟨rfl, HB2⟩
end Go.Proofs.Ytndbchigekbjaaa.Base
namespace Go.Proofs.Ytndbchigekbjaaa.One
open Go Go.RowKit Go.Proofs.YtndbchigekbjaaaW.PrintWords Go.Proofs.Ytndbchigekbjaaa.PTlvCodes
theorem core (A : Option Addr) (c : Nat) (l : List S48) (s : ByteArray) (w : World)
    (hc : l.length ≤ c) (hm : l.length * 24 ≤ 140737488351232) (hz : ∀ x ∈ l, 0 ≤ x.f0 ∧ x.f0 < 256) (hl : Kd.C k48 w A l.length l) (hs : s.size ≤ 140737488351232) :
    Calls Try.prog 5 #[.slice A l.length c, .string s] w fun e w' => e = .returned (.bool true) ∧ Below w.heap.size w w' :=
  Base.one_any A c l s w hl hc (by omega) hz
end Go.Proofs.Ytndbchigekbjaaa.One
