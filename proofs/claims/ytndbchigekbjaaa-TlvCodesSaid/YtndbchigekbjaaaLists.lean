/- The law of lists. Conditions: none. -/
import Derived.Test.YtndbchigekbjaaaSole
import Derived.Test.YtndbchigekbjaaaRefList
import Derived.Test.YtndbchigekbjaaaRefRead
import Derived.Test.YtndbchigekbjaaaArg
set_option linter.unusedVariables false
set_option linter.unusedSimpArgs false
namespace Go.Proofs.Ytndbchigekbjaaa.Base
open Go Go.RowKit Go.Proofs.Ytndbchigekbjaaa.Mem Go.Proofs.YtndbchigekbjaaaW.PrintWords
theorem own_low {w : World} {b b' : Nat} {e : TypeId} {s n : Nat} {v : Value} {xs : List Value} (h : w.ownsRow b e s v n xs) (hb : b' ≤ b) : w.ownsRow b' e s v n xs := by
  obtain ⟨h1, h2⟩ := h
  refine ⟨h1, ?_⟩
  rcases h2 with h2 | ⟨g, cap, cur, e1, hg, r⟩
  · exact .inl h2
  · exact .inr ⟨g, cap, cur, e1, by omega, r⟩
def Ow (B n : Nat) (v : Value) (w0 : World) (t : Value) (wr : World) : Prop := ∃ (j : Nat) (xs : List Value), t = .int .i64 (j : Int) ∧ j ≤ n ∧ wr.ownsRow B 9 1 v n xs ∧ Kp B w0 wr
def Rd (B : Nat) (w0 : World) (t : Value) (wr : World) : Prop := ∃ i : Nat, t = .int .i64 (i : Int) ∧ i ≤ 2 ∧ Kp B w0 wr
theorem R_empty (w : World) (B : Nat) (hB : B ≤ w.heap.size) : Kd.R Kd.string 9 (w.alloc (.cells #[] 9)) B (fun _ => True) (.slice (some ⟨w.heap.size, 0, none⟩) 0 0) [] :=
  ⟨fun _ _ => trivial, [], ⟨rfl, .inr ⟨w.heap.size, 0, #[], rfl, hB, heap_alloc_new w _, Nat.le_refl _, by decide, rfl, rfl⟩⟩, Reps.none _ _⟩
set_option maxHeartbeats 1600000 in
theorem lists_any (A0 : Option Addr) (c0 : Nat) (l : List ByteArray) (s : ByteArray) (most : Int) (w : World) (h0 : Kd.C Kd.string w A0 l.length l) (hc0 : l.length ≤ c0) (hl : l.length < 1000000000000000) :
    Calls Try.prog 9 #[.slice A0 l.length c0, .string s, .int .i64 most] w fun e w' => e = .returned (.bool true) ∧ Below w.heap.size w w' := by
  have HL := Lib.hid h0
  clear h0
  obtain ⟨r, hr, hlarge⟩ := large_any A0 c0 l w HL.out hc0 hl
  have HR := Lib.hid hr
  have HLA := Lib.hid hlarge
  clear hr hlarge
  by_cases hs : (20000 : Int) < (s.size : Int)
  · have hd := decide_eq_true hs
    go_enter Try.func9, Try.ntmps9
    go_wp2_with fail
    refine HLA.out.mono ?_
    rintro e w1 ⟨rfl, hb1⟩
    cases r
    all_goals
      go_wp2_with fail
      refine (awake_any w1).mono ?_
      rintro e w2 ⟨rfl, hb2⟩
      have HB2 := below_step hb1 hb2
      go_wp2_with fail
      go_ret
      exact ⟨rfl, HB2⟩
  · have hd := decide_eq_false hs
    have hs9 : s.size ≤ 10000000 := by omega
    cases r
    · have ht := HR.out rfl
      have HT := Lib.hid ht
      go_enter Try.func9, Try.ntmps9
      go_wp2_with fail
      refine HLA.out.mono ?_
      rintro e w1 ⟨rfl, hb1⟩
      have HK := (Kp.refl w).go hb1
      clear hb1 HLA HR
      have hE := R_empty w1 w1.heap.size (Nat.le_refl _)
      have hC : Kd.C Kd.string (w1.alloc (.cells #[] 9)) A0 l.length l := Kd.C_below HL.out (HK.alloc _).below
      have hbb : Below w1.heap.size w1 (w1.alloc (.cells #[] 9)) := below_alloc (Below.refl _ _) _
      have hbs : w1.heap.size ≤ (w1.alloc (.cells #[] 9)).heap.size := hbb.size
      clear ht
      have htl := (tot_le l).2
      have hll := HT.out
      go_wp2_with (at_builtin; go_must (refine Kd.R_append_rows Kd.string (w0 := w1) w1.heap.size rfl _ _ 46 9 (.string ⟨#[]⟩) 16 rfl Try.underlying46 info9 rfl (by decide) (by decide) (.slice (some ⟨w1.heap.size, 0, none⟩) 0 0) [] l A0 l.length c0 (fun _ => True) (fun _ => False) (by rfl) (by rfl) hE hC (fun _ _ h => h) (fun _ hk => hk.elim) (fun _ _ => trivial) hbb hbs (by simp only [List.length_nil]; omega) ?_; intro v5 w5 ho5 hb5 hg5 hat5))
      rw [List.nil_append] at ho5
      obtain ⟨A4, c4, rfl, m4, hC4⟩ := Kd.R_reads ho5
      have HK5 : Kp w.heap.size w w5 := HK.go hb5
      have HIN := Lib.hid hC4
      clear ho5 hb5 hg5 hat5 hC4 hE hC hbb hbs HK
      generalize hT : lst [] l = T at *
      obtain ⟨t, er⟩ := T
      go_wp2_with fail
      have hlist := list_any A4 c4 l w5 HIN.out m4 (by omega) (by omega)
      rw [hT] at hlist
      refine hlist.mono ?_
      clear hlist
      rintro e w6 ⟨rfl, hb6⟩
      have HK6 := HK5.go hb6
      have HIN6 := Lib.hid (Kd.C_below HIN.out hb6)
      clear hb6 HK5 HIN
      go_wp2_with fail
      have hlist := reflist_any A0 c0 l w6 (Kd.C_below HL.out HK6.below) hc0 (by omega) (by omega)
      rw [hT] at hlist
      refine hlist.mono ?_
      clear hlist
      rintro e w7 ⟨rfl, hb7⟩
      have HK7 := HK6.go hb7
      have HIN7 := Lib.hid (Kd.C_below HIN6.out hb7)
      clear hb7 HK6 HIN6 hT
      go_wp2_with fail
      refine (same_b A4 c4 l A0 c0 l w7 HIN7.out m4 (Kd.C_below HL.out HK7.below) hc0 (by omega)).mono ?_
      rintro e w8 ⟨rfl, hb8⟩
      rw [decide_eq_true rfl]
      have HK8 := HK7.go hb8
      clear hb8 HK7 HIN7
      go_wp2_with fail
      have hR0 : Rd w.heap.size w (.int .i64 0) w8 := ⟨0, rfl, by omega, HK8⟩
      clear HK8
      go_loopw [12] (fun t wr => Rd w.heap.size w t wr) (fun t _ => 2 - (intOf t).toNat)
      case atStart => exact hR0
      case round =>
        clear hR0
        obtain ⟨i, rfl, hi, HK⟩ := hrel
        by_cases hlt : i < 2
        · have k1 : (i : Int) < 2 := by omega
          go_wp2_with fail
          refine (readlist_any s most wr hs9).mono ?_
          rintro e w10 ⟨v, rfl, hr10, hb10⟩
          have HK10 := HK.go hb10
          go_wp2_with fail
          refine (refread_any s most w10 hs9).mono ?_
          rintro e w11 ⟨v2, rfl, hr11, hb11⟩
          have HK11 := HK10.go hb11
          have hr10 := Kd.R_below hr10 hb11
          have hm9 : (if (dl most 0 s.data.toList).2 = 0 then (dl most 0 s.data.toList).1 else []).length ≤ s.size := by
            split
            · next h =>
              have h1 := (read_list s most h).2
              have h2 := (tot_le (dl most 0 s.data.toList).1).2
              omega
            · simp
          generalize (dl most 0 s.data.toList).2 = er2 at *
          generalize (if er2 = 0 then (dl most 0 s.data.toList).1 else []) = m at *
          obtain ⟨inner, ho⟩ := Kd.R_own hr10
          replace ho := own_low ho HK.size
          obtain ⟨A10, c10, rfl, m10, hC10⟩ := Kd.R_reads hr10
          obtain ⟨A11, c11, rfl, m11, hC11⟩ := Kd.R_reads hr11
          have hC10 := Lib.hid hC10
          have hC11 := Lib.hid hC11
          clear hr10 hr11 hb10 hb11 HK HK10
          go_wp2_with fail
          refine (same_b A10 c10 m A11 c11 m w11 hC10.out m10 hC11.out m11 (by omega)).mono ?_
          rintro e w12 ⟨rfl, hb12⟩
          rw [decide_eq_true rfl]
          have HK12 := HK11.go hb12
          replace ho : w12.ownsRow w.heap.size 9 1 (.slice A10 m.length c10) m.length inner := own_move ho (fun k hk => by
            obtain ⟨cells, hc⟩ := own_typed ho k hk
            exact hb12.block k (Blk.lt hc))
          have hO : Ow w.heap.size m.length (.slice A10 m.length c10) w (.int .i64 0) w12 := ⟨0, _, rfl, by omega, ho, HK12⟩
          clear ho HK12 hb12 HK11 hC10 hC11
          go_wp2_with fail
          obtain ⟨wo, rfl⟩ : ∃ wo : World, wo = wr := ⟨_, rfl⟩
          go_loopw [17] (fun t wq => Ow w.heap.size m.length (.slice A10 m.length c10) w t wq) (fun t _ => m.length - (intOf t).toNat)
          case atStart => exact hO
          case round =>
            clear hO
            obtain ⟨j, xs, rfl, hj, ho, HK⟩ := hrel
            by_cases hjt : j < m.length
            · obtain ⟨gb, cap, e1, hg1, hg2⟩ := ho.form (by omega)
              injection e1 with e1 e2 e3
              subst e1
              subst e3
              have hl1 : xs.length = m.length := by have := ho.1; omega
              have c0 : wr.cell? ⟨gb, j, none⟩ = some (xs[j]'(by omega)) := by rw [ho.cellAt j (by omega)]; exact List.getElem?_eq_getElem _
              have c1 := ho.frozenAt j
              obtain ⟨s1, s2⟩ := ho.stored j (.string ⟨#[115, 112, 111, 105, 108, 116]⟩)
              have hjj : (j : Int) < (m.length : Int) := by omega
              have hj0 : (0 : Int) ≤ (j : Int) := by omega
              have HK2 := HK.setCell (a := ⟨gb, j, none⟩) hg1 (.string ⟨#[115, 112, 111, 105, 108, 116]⟩)
              clear ho HK s2
              go_wp2_with fail
              go_roundw
              case rel => exact ⟨j + 1, _, by go_num, by omega, s1, HK2⟩
              case measure => simp [intOf]; omega
            · have hjj : ¬ (j : Int) < (m.length : Int) := by omega
              go_wp2_with fail
              go_roundw
              case rel => exact ⟨i + 1, by go_num, by omega, HK⟩
              case measure => simp [intOf]; omega
        · have k1 : ¬ (i : Int) < 2 := by omega
          go_wp2_with fail
          refine (awake_any _).mono ?_
          rintro e w9 ⟨rfl, hb9⟩
          replace HK := HK.go hb9
          go_wp2_with fail
          go_ret
          exact ⟨rfl, HK.below⟩
    · go_enter Try.func9, Try.ntmps9
      go_wp2_with fail
      refine HLA.out.mono ?_
      rintro e w1 ⟨rfl, hb1⟩
      go_wp2_with fail
      refine (awake_any w1).mono ?_
      rintro e w2 ⟨rfl, hb2⟩
      have HB2 := below_step hb1 hb2
      go_wp2_with fail
      go_ret
      exact ⟨rfl, HB2⟩
end Go.Proofs.Ytndbchigekbjaaa.Base
namespace Go.Proofs.Ytndbchigekbjaaa.Lists
open Go Go.RowKit Go.Proofs.YtndbchigekbjaaaW.PrintWords
theorem core (A : Option Addr) (c : Nat) (l : List ByteArray) (s : ByteArray) (most : Int) (w : World)
    (hc : l.length ≤ c) (hm : l.length * 16 ≤ 140737488351232) (hz : ∀ x ∈ l, x.size ≤ 140737488351232) (hl : Kd.string.C w A l.length l) (hs : s.size ≤ 140737488351232) (hn : (Lit.int .i64 most).wf = true) :
    Calls Try.prog 9 #[.slice A l.length c, .string s, .int .i64 most] w fun e w' => e = .returned (.bool true) ∧ Below w.heap.size w w' :=
  Base.lists_any A c l s most w hl hc (by omega)
end Go.Proofs.Ytndbchigekbjaaa.Lists
