/- The law of codes. Conditions: none. -/
import Derived.Test.YtndbchigekbjaaaLong
import Derived.Test.YtndbchigekbjaaaLists
import Derived.Test.YtndbchigekbjaaaOpen
set_option linter.unusedVariables false
set_option linter.unusedSimpArgs false
namespace Go.Proofs.Ytndbchigekbjaaa.Base
open Go Go.RowKit Go.Proofs.Ytndbchigekbjaaa.Mem Go.Proofs.YtndbchigekbjaaaW.PrintWords Go.Proofs.Ytndbchigekbjaaa.PTlvCodes
def Ow2 (B n : Nat) (v : Value) (w0 : World) (t : Value) (wr : World) : Prop := ∃ (j : Nat) (xs : List Value), t = .int .i64 (j : Int) ∧ j ≤ n ∧ wr.ownsRow B 38 2 v n xs ∧ Kp B w0 wr
theorem to48_to38 (l : List S48) : (l.map to38).map to48 = l := by
  rw [List.map_map]
  exact List.map_id' l
theorem dec_len (s : List UInt8) (last : Nat) : (dec last s).1.length ≤ s.length := by
  fun_induction dec last s
  · simp
  · simp
  · simp
  · next ih =>
    simp only [List.length_cons, List.length_drop] at ih ⊢
    omega
  · simp
set_option maxHeartbeats 1600000 in
theorem codes_any (A0 : Option Addr) (c0 : Nat) (l : List S48) (s : ByteArray) (w : World) (h0 : Kd.C k48 w A0 l.length l) (hc0 : l.length ≤ c0) (hl : l.length < 1000000000000000) (hb : ∀ x ∈ l, 0 ≤ x.f0) :
    Calls Try.prog 3 #[.slice A0 l.length c0, .string s] w fun e w' => e = .returned (.bool true) ∧ Below w.heap.size w w' := by
  have HL := Lib.hid h0
  clear h0
  obtain ⟨r, hr, hlarge⟩ := long_any A0 c0 l w HL.out hc0 hl
  have HR := Lib.hid hr
  have HLA := Lib.hid hlarge
  have HP := Lib.hid hb
  clear hr hlarge hb
  by_cases hs : (20000 : Int) < (s.size : Int)
  · have hd := decide_eq_true hs
    go_enter Try.func3, Try.ntmps3
    go_wp2_with fail
    refine HLA.out.mono ?_
    rintro e w1 ⟨rfl, hb1⟩
    cases r
    all_goals
      go_wp2_with fail
      refine (awake_any w1).mono ?_
      rintro e w2 ⟨rfl, hb2⟩
      have HB2 := below_step hb1 hb2
      go_wp2_with fail
      go_ret
      exact ⟨rfl, HB2⟩
  · have hd := decide_eq_false hs
    have hs9 : s.size ≤ 10000000 := by omega
    cases r
    · have ht := HR.out rfl
      have HT := Lib.hid ht.1
      have hll := ht.2
      clear ht
      go_enter Try.func3, Try.ntmps3
      go_wp2_with fail
      refine HLA.out.mono ?_
      rintro e w1 ⟨rfl, hb1⟩
      have HK := (Kp.refl w).go hb1
      clear hb1 HLA HR
      go_wp2_with fail
      refine (attrs_conv A0 c0 l w1 (Kd.C_below HL.out HK.below) hc0 (by omega)).mono ?_
      rintro e w5 ⟨v5, rfl, ho5, hb5⟩
      obtain ⟨A4, c4, rfl, m4, hC4⟩ := Kd.R_reads ho5
      have HK5 : Kp w.heap.size w w5 := HK.go hb5
      have HIN := Lib.hid hC4
      clear ho5 hb5 hC4 HK
      obtain ⟨q, hq⟩ : ∃ q, q = l.map to38 := ⟨_, rfl⟩
      have hql : q.length = l.length := by rw [hq, List.length_map]
      rw [← hq] at HIN m4 HT ⊢
      have HQ := Lib.hid hq
      have HQL := Lib.hid hql
      clear hq hql
      obtain ⟨t, er, hT⟩ : ∃ t er, enc [] 0 q = (t, er) := ⟨_, _, rfl⟩
      go_wp2_with fail
      have hlist := enc_any A4 c4 q w5 HIN.out m4 (by have := HQL.out; omega) (by have := HT.out; omega)
      rw [hT] at hlist
      refine hlist.mono ?_
      clear hlist
      rintro e w6 ⟨rfl, hb6⟩
      have HK6 := HK5.go hb6
      have HIN6 := Lib.hid (Kd.C_below HIN.out hb6)
      clear hb6 HK5 HIN
      go_wp2_with fail
      have hlist := refenc_any A0 c0 l w6 (Kd.C_below HL.out HK6.below) hc0 (by omega) (by rw [← HQ.out]; have := HT.out; omega) HP.out
      rw [← HQ.out, hT] at hlist
      refine hlist.mono ?_
      clear hlist
      rintro e w7 ⟨rfl, hb7⟩
      have HK7 := HK6.go hb7
      have HIN7 := Lib.hid (Kd.C_below HIN6.out hb7)
      clear hb7 HK6 HIN6 hT
      go_wp2_with fail
      refine (plain_conv A4 c4 q w7 HIN7.out m4 (by have := HQL.out; omega)).mono ?_
      rintro e wp ⟨vp, rfl, hop, hbp⟩
      have HKp := HK7.go hbp
      rw [HQ.out, to48_to38] at hop
      obtain ⟨A5, c5, rfl, m5, hC5⟩ := Kd.R_reads hop
      have HCp := Lib.hid hC5
      clear hop hC5 hbp HK7 HIN7
      go_wp2_with fail
      refine (same48_any A5 c5 l A0 c0 wp HCp.out m5 (Kd.C_below HL.out HKp.below) hc0 (by omega)).mono ?_
      rintro e w8 ⟨rfl, hb8⟩
      have HK8 := HKp.go hb8
      clear hb8 HKp HCp
      go_wp2_with fail
      have hR0 : Rd w.heap.size w (.int .i64 0) w8 := ⟨0, rfl, by omega, HK8⟩
      clear HK8
      go_loopw [10] (fun t wr => Rd w.heap.size w t wr) (fun t _ => 2 - (intOf t).toNat)
      case atStart => exact hR0
      case round =>
        clear hR0
        obtain ⟨i, rfl, hi, HK⟩ := hrel
        by_cases hlt : i < 2
        · have k1 : (i : Int) < 2 := by omega
          go_wp2_with fail
          refine (decode_any s wr hs9).mono ?_
          rintro e w10 ⟨v, rfl, hr10, hb10⟩
          have HK10 := HK.go hb10
          go_wp2_with fail
          refine (refdec_any s w10 hs9).mono ?_
          rintro e w11 ⟨v2, rfl, hr11, hb11⟩
          have HK11 := HK10.go hb11
          have hr10 := Kd.R_below hr10 hb11
          have hm9 : (if (dec 0 s.data.toList).2 = 0 then (dec 0 s.data.toList).1 else []).length ≤ s.size := by
            split
            · have := dec_len s.data.toList 0
              have h2 := size_list s
              omega
            · simp
          have hmm : (if (dec 0 s.data.toList).2 = 0 then (dec 0 s.data.toList).1.map to48 else []) = (if (dec 0 s.data.toList).2 = 0 then (dec 0 s.data.toList).1 else []).map to48 := by
            split <;> rfl
          rw [hmm] at hr11
          clear hmm
          generalize (dec 0 s.data.toList).2 = er2 at *
          generalize (if er2 = 0 then (dec 0 s.data.toList).1 else []) = m at *
          obtain ⟨inner, ho⟩ := Kd.R_own hr10
          replace ho := own_low ho HK.size
          obtain ⟨A10, c10, rfl, m10, hC10⟩ := Kd.R_reads hr10
          obtain ⟨A11, c11, rfl, m11, hC11⟩ := Kd.R_reads hr11
          have hC10 := Lib.hid hC10
          have hC11 := Lib.hid hC11
          clear hr10 hr11 hb10 hb11 HK HK10
          have hlm := Lib.hid (show (m.map to48).length = m.length from List.length_map ..)
          obtain ⟨p, hp⟩ : ∃ p, p = m.map to48 := ⟨_, rfl⟩
          rw [← hp] at hC11 m11 hlm ⊢
          have HPP := Lib.hid hp
          clear hp
          go_wp2_with fail
          refine (plain_conv A10 c10 m w11 hC10.out m10 (by omega)).mono ?_
          rintro e w12 ⟨v12, rfl, ho12, hb12⟩
          rw [← HPP.out] at ho12
          have HK12 := HK11.go hb12
          replace ho : w12.ownsRow w.heap.size 38 2 (.slice A10 m.length c10) m.length inner := own_move ho (fun k hk => by
            obtain ⟨cells, hc⟩ := own_typed ho k hk
            exact hb12.block k (Blk.lt hc))
          obtain ⟨A12, c12, rfl, m12, hC12⟩ := Kd.R_reads ho12
          have hC11 := Lib.hid (Kd.C_below hC11.out hb12)
          have hC12 := Lib.hid hC12
          clear ho12 hb12 HK11 hC10
          go_wp2_with fail
          refine (same48_any A12 c12 p A11 c11 w12 hC12.out m12 hC11.out m11 (by have := hlm.out; omega)).mono ?_
          rintro e w13 ⟨rfl, hb13⟩
          have HK13 := HK12.go hb13
          replace ho : w13.ownsRow w.heap.size 38 2 (.slice A10 m.length c10) m.length inner := own_move ho (fun k hk => by
            obtain ⟨cells, hc⟩ := own_typed ho k hk
            exact hb13.block k (Blk.lt hc))
          have hO : Ow2 w.heap.size m.length (.slice A10 m.length c10) w (.int .i64 0) w13 := ⟨0, _, rfl, by omega, ho, HK13⟩
          clear ho HK13 hb13 HK12 hC11 hC12
          go_wp2_with fail
          obtain ⟨wo, rfl⟩ : ∃ wo : World, wo = wr := ⟨_, rfl⟩
          go_loopw [15] (fun t wq => Ow2 w.heap.size m.length (.slice A10 m.length c10) w t wq) (fun t _ => m.length - (intOf t).toNat)
          case atStart => exact hO
          case round =>
            clear hO
            obtain ⟨j, xs, rfl, hj, ho, HK⟩ := hrel
            by_cases hjt : j < m.length
            · obtain ⟨gb, cap, e1, hg1, hg2⟩ := ho.form (by omega)
              injection e1 with e1 e2 e3
              subst e1
              subst e3
              have hl1 : xs.length = m.length * 2 := by have := ho.1; omega
              have c0 : wr.cell? ⟨gb, j * 2, none⟩ = some (xs[j * 2]'(by omega)) := by rw [ho.cellAt (j * 2) (by omega)]; exact List.getElem?_eq_getElem _
              have c1 : wr.cell? ⟨gb, j * 2 + 1, none⟩ = some (xs[j * 2 + 1]'(by omega)) := by rw [ho.cellAt (j * 2 + 1) (by omega)]; exact List.getElem?_eq_getElem _
              have f0 := ho.frozenAt (j * 2)
              have f1 := ho.frozenAt (j * 2 + 1)
              have hjj : (j : Int) < (m.length : Int) := by omega
              have hj0 : (0 : Int) ≤ (j : Int) := by omega
              obtain ⟨s1, s2⟩ := ho.stored (j * 2) (.int .u8 0)
              obtain ⟨s3, s4⟩ := s1.stored (j * 2 + 1) (.string ⟨#[115, 112, 111, 105, 108, 116]⟩)
              have HK2 := (HK.setCell (a := ⟨gb, j * 2, none⟩) hg1 (.int .u8 0)).setCell (a := ⟨gb, j * 2 + 1, none⟩) hg1 (.string ⟨#[115, 112, 111, 105, 108, 116]⟩)
              clear ho HK s1 s2 s4
              go_wp2_with fail
              go_roundw
              case rel => exact ⟨j + 1, _, by go_num, by omega, s3, HK2⟩
              case measure => simp [intOf]; omega
            · have hjj : ¬ (j : Int) < (m.length : Int) := by omega
              go_wp2_with fail
              go_roundw
              case rel => exact ⟨i + 1, by go_num, by omega, HK⟩
              case measure => simp [intOf]; omega
        · have k1 : ¬ (i : Int) < 2 := by omega
          go_wp2_with fail
          refine (awake_any _).mono ?_
          rintro e w9 ⟨rfl, hb9⟩
          replace HK := HK.go hb9
          go_wp2_with fail
          go_ret
          exact ⟨rfl, HK.below⟩
    · go_enter Try.func3, Try.ntmps3
      go_wp2_with fail
      refine HLA.out.mono ?_
      rintro e w1 ⟨rfl, hb1⟩
      go_wp2_with fail
      refine (awake_any w1).mono ?_
      rintro e w2 ⟨rfl, hb2⟩
      have HB2 := below_step hb1 hb2
      go_wp2_with fail
      go_ret
      exact ⟨rfl, HB2⟩
end Go.Proofs.Ytndbchigekbjaaa.Base
namespace Go.Proofs.Ytndbchigekbjaaa.Codes
open Go Go.RowKit Go.Proofs.YtndbchigekbjaaaW.PrintWords Go.Proofs.Ytndbchigekbjaaa.PTlvCodes
theorem core (A : Option Addr) (c : Nat) (l : List S48) (s : ByteArray) (w : World)
    (hc : l.length ≤ c) (hm : l.length * 24 ≤ 140737488351232) (hz : ∀ x ∈ l, 0 ≤ x.f0 ∧ x.f0 < 256) (hl : Kd.C k48 w A l.length l) (hs : s.size ≤ 140737488351232) :
    Calls Try.prog 3 #[.slice A l.length c, .string s] w fun e w' => e = .returned (.bool true) ∧ Below w.heap.size w w' :=
  Base.codes_any A c l s w hl hc (by omega) (fun x hx => (hz x hx).1)
end Go.Proofs.Ytndbchigekbjaaa.Codes
