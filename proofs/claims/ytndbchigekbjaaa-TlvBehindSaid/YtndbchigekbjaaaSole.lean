/- The law that what is put is read, and what is read is put. Conditions: none. -/
import Derived.Test.YtndbchigekbjaaaLarge
import Derived.Test.YtndbchigekbjaaaAwake
import Derived.Test.YtndbchigekbjaaaArg
set_option linter.unusedVariables false
set_option linter.unusedSimpArgs false
namespace Go.Proofs.Ytndbchigekbjaaa.Base
open Go Go.RowKit Go.Proofs.Ytndbchigekbjaaa.Mem Go.Proofs.YtndbchigekbjaaaW.PrintWords
theorem tot_le : ∀ (l : List ByteArray), (∀ x ∈ l, x.size ≤ tot l) ∧ l.length ≤ tot l
  | [] => ⟨fun x hx => by simp at hx, Nat.le_refl _⟩
  | s :: r => by
    have := tot_le r
    refine ⟨fun x hx => ?_, by simp only [tot, List.length_cons]; omega⟩
    rcases List.mem_cons.1 hx with rfl | hx
    · simp only [tot]; omega
    · have := this.1 x hx; simp only [tot]; omega
theorem lbB_len : ∀ (l : List ByteArray), (lbB l).length = tot l
  | [] => rfl
  | s :: r => by
    have := lbB_len r
    have hl : s.data.toList.length = s.size := by rw [Array.length_toList]; rfl
    rw [lbB, List.length_append, List.length_append, this, hl, tot]
    show 2 + _ = _
    omega
/-- What List and ReadList tell of a list. -/
theorem list_read (l : List ByteArray) : ((lst [] l).2 = 0 ∧ dl (l.length : Int) 0 (lst [] l).1.data.toList = (l, 0) ∧ (lst [] l).1.data.toList.length = tot l) ∨ (lst [] l).2 = 5 := by
  by_cases h : ∀ x ∈ l, x.size ≤ 65535
  · have := lst_ok l h []
    refine .inl ⟨this.1, ?_, ?_⟩
    · rw [this.2]; exact dl_lbB _ l 0 h (by omega)
    · rw [this.2]; exact lbB_len l
  · exact .inr (by rw [lst_bad l h []])
theorem read_list (s : ByteArray) (top : Int) (h : (dl top 0 s.data.toList).2 = 0) : lst [] (dl top 0 s.data.toList).1 = (s, 0) ∧ tot (dl top 0 s.data.toList).1 = s.size := by
  obtain ⟨h1, h2⟩ := lbB_dl top _ s.data.toList 0 (Nat.le_refl _) h
  have h3 := lst_ok _ h2 []
  refine ⟨Prod.ext (str_ext ?_) h3.1, ?_⟩
  · rw [h3.2, h1]; rfl
  · rw [← lbB_len, h1, Array.length_toList]; rfl
set_option maxHeartbeats 16000000 in
theorem sole_any (n : Nat) (hn : n < 18446744073709551616) (A0 : Option Addr) (c0 : Nat) (l : List ByteArray) (s : ByteArray) (w : World) (h0 : Kd.C Kd.string w A0 l.length l) (hc0 : l.length ≤ c0) (hl : l.length < 1000000000000000) :
    Calls Try.prog 11 #[.int .u64 (n : Int), .slice A0 l.length c0, .string s] w fun e w' => e = .returned (.bool true) ∧ Below w.heap.size w w' := by
  have HL := Lib.hid h0
  clear h0
  obtain ⟨r, hr, hlarge⟩ := large_any A0 c0 l w HL.out hc0 hl
  have HR := Lib.hid hr
  have HLA := Lib.hid hlarge
  have HF := Lib.hid ((readnum_f (strOfNums (num n)) (n : Int)).1.trans (congrArg some ((rnum_nb n hn n).trans (if_neg (show ¬ (n : Int) > (n : Int) by omega)))))
  clear hr hlarge
  by_cases hs : (20000 : Int) < (s.size : Int)
  · have hd := decide_eq_true hs
    go_enter Try.func11, Try.ntmps11
    go_wp2_with fail
    refine HLA.out.mono ?_
    rintro e w1 ⟨rfl, hb1⟩
    cases r
    all_goals
      go_wp2_with fail
      refine (awake_any w1).mono ?_
      rintro e w2 ⟨rfl, hb2⟩
      have HB2 := below_step hb1 hb2
      go_wp2_with fail
      go_ret
      exact ⟨rfl, HB2⟩
  · have hd := decide_eq_false hs
    have hs9 : s.size ≤ 10000000 := by omega
    cases r
    · have ht := HR.out rfl
      go_enter Try.func11, Try.ntmps11
      go_wp2_with fail
      refine HLA.out.mono ?_
      rintro e w1 ⟨rfl, hb1⟩
      go_wp2_with fail
      refine (awake_any w1).mono ?_
      rintro e w2 ⟨rfl, hb2⟩
      have HB2 := below_step hb1 hb2
      clear hb1 hb2
      go_wp2_with fail
      refine (num_any n hn w2).mono ?_
      rintro e w3 ⟨rfl, hb3⟩
      have HB3 := below_step HB2 hb3
      clear HB2 hb3
      go_wp2_with fail
      refine (PTlvNumbers.tlv_ReadNum.calls 20 _ _ _ _ w3 HF.out).mono ?_
      rintro e w4 ⟨rfl, hb4⟩
      obtain ⟨n4, e4⟩ := hb4.out
      have HB4 : Below w.heap.size w w4 := by rw [e4]; exact pw_below_drewN HB3 n4
      clear e4 HB3
      go_wp2_with fail
      refine (list_any A0 c0 l w4 (Kd.C_below HL.out HB4) hc0 (by omega) (by omega)).mono ?_
      rintro e w5 ⟨rfl, hb5⟩
      have HB5 := below_step HB4 hb5
      clear HB4 hb5
      have hLR := list_read l
      have hRL := Lib.hid (read_list s (s.size : Int))
      obtain ⟨t, er, hT⟩ : ∃ t er, lst [] l = (t, er) := ⟨_, _, rfl⟩
      rw [hT] at hLR ⊢
      clear hT
      have hPUT := rnum_put s 18446744073709551615
      have hRF := (readnum_f s 18446744073709551615).1
      obtain ⟨v1, v2, hV⟩ : ∃ v1 v2, rnum s 18446744073709551615 = (v1, v2) := ⟨_, _, rfl⟩
      rw [hV] at hPUT hRF
      clear hV
      have HRF := Lib.hid hRF
      clear hRF
      obtain ⟨m, g, hD⟩ : ∃ m g, dl (s.size : Int) 0 s.data.toList = (m, g) := ⟨_, _, rfl⟩
      have hRead := readlist_any s (s.size : Int)
      rw [hD] at hRL hRead
      clear hD
      have HRead := Lib.hid hRead
      clear hRead
      simp only at hLR hPUT
      rcases hLR with ⟨rfl, a2, a3⟩ | rfl
      case' inl =>
        have A2 := Lib.hid a2
        clear a2
        have ht7 : t.size ≤ 10000000 := by rw [Array.length_toList] at a3; have : t.size = tot l := a3; omega
        go_wp2_with fail
        refine (readlist_any t (l.length : Int) w5 ht7).mono ?_
        rintro e w6 ⟨v, rfl, hr6, hb6⟩
        rw [A2.out] at hr6 ⊢
        simp only [if_true] at hr6
        have HB6 := below_step HB5 hb6
        obtain ⟨A4, c4, rfl, m4, hC4⟩ := Kd.R_reads hr6
        clear hr6 HB5 hb6
        have hC0 := Lib.hid (Kd.C_below HL.out HB6)
        go_wp2_with fail
        refine (same_b A4 c4 l A0 c0 l w6 hC4 m4 hC0.out hc0 (by omega)).mono ?_
        rintro e w7 ⟨rfl, hb7⟩
        rw [decide_eq_true rfl]
        have HB5 := below_step HB6 hb7
        clear HB6 hb7 hC4 hC0 A2
        go_wp2_with fail
      case' inr => go_wp2_with fail
      all_goals
        refine (PTlvNumbers.tlv_ReadNum.calls 20 _ _ _ _ _ HRF.out).mono ?_
        rintro e w8 ⟨rfl, hb8⟩
        obtain ⟨n8, e8⟩ := hb8.out
        have HB8 : Below w.heap.size w w8 := by rw [e8]; exact pw_below_drewN HB5 n8
        clear e8 HB5
        rcases hPUT with ⟨rfl, k, rfl, hk, hks⟩ | hbad
        case' inl =>
          have HKS := Lib.hid hks
          clear hks
          go_wp2_with fail
          refine (num_any k hk w8).mono ?_
          rintro e w9 ⟨rfl, hb9⟩
          rw [HKS.out]
          have HB9 := below_step HB8 hb9
          clear HB8 hb9
          go_wp2_with fail
        case' inr =>
          obtain ⟨rfl, rfl⟩ := Prod.mk.inj hbad
          have HB9 := HB8
          clear HB8
          go_wp2_with fail
        all_goals
          refine (HRead.out _ hs9).mono ?_
          rintro e w10 ⟨v, rfl, hr10, hb10⟩
          have HB10 := below_step HB9 hb10
          clear HB9 hb10
          by_cases hg : g = 0
          · subst hg
            have hq := hRL.out rfl
            simp only [if_true] at hr10 hq
            have HQ := Lib.hid hq.1
            have hq2 := hq.2
            clear hq
            have hq3 := (tot_le m).2
            obtain ⟨A4, c4, rfl, m4, hC4⟩ := Kd.R_reads hr10
            clear hr10
            go_wp2_with fail
            refine (list_any A4 c4 m w10 hC4 m4 (by omega) (by omega)).mono ?_
            rintro e w11 ⟨rfl, hb11⟩
            rw [HQ.out]
            have HB11 := below_step HB10 hb11
            go_wp2_with fail
            go_ret
            exact ⟨rfl, HB11⟩
          · simp only [if_neg hg] at hr10
            obtain ⟨A4, c4, rfl, m4, hC4⟩ := Kd.R_reads hr10
            clear hr10 hC4
            have hgd : (g == 0) = false := beq_eq_false_iff_ne.2 hg
            go_wp2_with fail
            go_ret
            exact ⟨rfl, HB10⟩
    · go_enter Try.func11, Try.ntmps11
      go_wp2_with fail
      refine HLA.out.mono ?_
      rintro e w1 ⟨rfl, hb1⟩
      go_wp2_with fail
      refine (awake_any w1).mono ?_
      rintro e w2 ⟨rfl, hb2⟩
      have HB2 := below_step hb1 hb2
      go_wp2_with fail
      go_ret
      exact ⟨rfl, HB2⟩
end Go.Proofs.Ytndbchigekbjaaa.Base
namespace Go.Proofs.Ytndbchigekbjaaa.Sole
open Go Go.RowKit Go.Proofs.YtndbchigekbjaaaW.PrintWords
theorem core (n : Int) (A : Option Addr) (c : Nat) (l : List ByteArray) (s : ByteArray) (w : World) (hn : (Lit.int .u64 n).wf = true)
    (hc : l.length ≤ c) (hm : l.length * 16 ≤ 140737488351232) (hz : ∀ x ∈ l, x.size ≤ 140737488351232) (hl : Kd.string.C w A l.length l) (hs : s.size ≤ 140737488351232) :
    Calls Try.prog 11 #[.int .u64 n, .slice A l.length c, .string s] w fun e w' => e = .returned (.bool true) ∧ Below w.heap.size w w' := by
  obtain ⟨h0, h1⟩ : 0 ≤ n ∧ n < 18446744073709551616 := by
    simp [Lit.wf, IntKind.min, IntKind.max, IntKind.signed, IntKind.bits] at hn
    omega
  obtain ⟨k, rfl⟩ : ∃ k : Nat, n = (k : Int) := ⟨n.toNat, by omega⟩
  exact Base.sole_any k (by omega) A c l s w hl hc (by omega)
end Go.Proofs.Ytndbchigekbjaaa.Sole
