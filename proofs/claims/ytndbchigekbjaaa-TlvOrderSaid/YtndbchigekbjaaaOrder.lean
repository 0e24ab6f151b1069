/- The law of numbers' order. Conditions: none. -/
import Derived.Test.YtndbchigekbjaaaAwake
import Derived.Test.YtndbchigekbjaaaOrd
import Derived.Test.YtndbchigekbjaaaArg
set_option linter.unusedVariables false
set_option linter.unusedSimpArgs false
namespace Go.Proofs.Ytndbchigekbjaaa.Base
open Go Go.RowKit Go.Proofs.Ytndbchigekbjaaa.Mem Go.Proofs.YtndbchigekbjaaaW.PrintWords
/-- What is known of two numbers' bytes. -/
structure Two (a b : Nat) (s t : ByteArray) : Prop where
  more : decide ((t.size : Int) < (s.size : Int)) = true → b < a
  less : Op.bytesLess s.toList t.toList = true → s.size = t.size → a < b
  notless : Op.bytesLess s.toList t.toList = false → s.size = t.size → b ≤ a
  fewer : s.size < t.size → a < b
  inj : s = t ↔ a = b
theorem two_nb (a b : Nat) : Two a b (strOfNums (num a)) (strOfNums (num b)) := by
  refine ⟨fun h => ?_, fun h he => ?_, fun h he => ?_, fun h => ?_, fun h => ?_, fun h => by rw [h]⟩
  · have := of_decide_eq_true h
    rw [nb_size, nb_size] at this
    exact nb_longer b a (by omega)
  · rw [nb_toList, nb_toList, nb_less a b (by rw [← nb_size, ← nb_size, he])] at h
    exact of_decide_eq_true h
  · rw [nb_toList, nb_toList, nb_less a b (by rw [← nb_size, ← nb_size, he])] at h
    have := of_decide_eq_false h
    omega
  · rw [nb_size, nb_size] at h
    exact nb_longer a b h
  · exact nb_inj (by rw [← nb_data, ← nb_data, h])
set_option maxHeartbeats 16000000 in
theorem order_any (a b : Nat) (ha : a < 18446744073709551616) (hb : b < 18446744073709551616) (w : World) :
    Calls Try.prog 6 #[.int .u64 (a : Int), .int .u64 (b : Int)] w fun e w' => e = .returned (.bool true) ∧ Below w.heap.size w w' := by
  have hT := two_nb a b
  have hF := Lib.hid ((readnum_f (strOfNums (num a)) (b : Int)).1.trans (congrArg some (rnum_nb a ha b)))
  have hA := num_any a ha
  have hB := num_any b hb
  generalize strOfNums (num a) = s at *
  generalize strOfNums (num b) = t at *
  have HA := Lib.hid hA
  have HB := Lib.hid hB
  clear hA hB
  obtain ⟨r1, r2, hr, hr2⟩ : ∃ r1 r2, fin (b : Int) a = (r1, r2) ∧ r2 = if (b : Int) < (a : Int) then 3 else 0 := by
    unfold fin
    by_cases h : (b : Int) < (a : Int)
    · exact ⟨0, 3, if_pos h, by rw [if_pos h]⟩
    · exact ⟨a, 0, if_neg h, by rw [if_neg h]⟩
  have H := Lib.hid (hF.out.trans (congrArg some hr))
  clear hF hr
  have key : (∀ (p q r e : Bool), decide ((t.size : Int) < (s.size : Int)) = p → decide ((s.size : Int) = (t.size : Int)) = q → Op.bytesLess s.toList t.toList = r → (s.toList == t.toList) = e →
      (((p = true ∨ (p = false ∧ q = true ∧ r = false ∧ e = false)) ∧ b < a ∧ e = false) ∨ ((p = false ∧ q = true ∧ e = true) ∧ a = b) ∨ ((p = false ∧ (q = false ∨ (q = true ∧ r = true))) ∧ a < b ∧ e = false))) := by
    intro p q r e hp hq hr he
    have hee : e = true ↔ a = b := by
      rw [← he, beq_iff_eq, ← hT.inj, Go.ByteArray.toList_eq, Go.ByteArray.toList_eq]
      exact ⟨str_ext, fun h => by rw [h]⟩
    have hqe : q = true → s.size = t.size := fun h => by have := of_decide_eq_true (hq.trans h); omega
    have hqn : p = false → q = false → s.size < t.size := fun h1 h2 => by
      have := of_decide_eq_false (hp.trans h1); have := of_decide_eq_false (hq.trans h2); omega
    have h1 : p = true → b < a := fun h => hT.more (hp.trans h)
    have h2 : q = true → r = true → a < b := fun h h' => hT.less (hr.trans h') (hqe h)
    have h3 : q = true → r = false → b ≤ a := fun h h' => hT.notless (hr.trans h') (hqe h)
    have h4 : p = false → q = false → a < b := fun h h' => hT.fewer (hqn h h')
    cases p <;> cases q <;> cases r <;> cases e <;> simp_all <;> omega
  obtain ⟨p, hp⟩ : ∃ p, decide ((t.size : Int) < (s.size : Int)) = p := ⟨_, rfl⟩
  obtain ⟨q, hq⟩ : ∃ q, decide ((s.size : Int) = (t.size : Int)) = q := ⟨_, rfl⟩
  obtain ⟨r, hr⟩ : ∃ r, Op.bytesLess s.toList t.toList = r := ⟨_, rfl⟩
  obtain ⟨e0, he⟩ : ∃ e, (s.toList == t.toList) = e := ⟨_, rfl⟩
  have HPN := Lib.hid (show decide (t.size < s.size) = p from (decide_eq_decide.2 (by omega)).trans hp)
  have K := key p q r e0 hp hq hr he
  have hg : ∀ W, (binOp BinOp.gtr 9 (.string s) (.string t)).run Try.prog W = .ok (.bool (!(r || e0))) W := by
    intro W
    rw [← hr, ← he]
    simp [binOp, Op.stringOp]
  clear key hT
  obtain ⟨l1, l2, l3, hl1, hl2, hl3, hr3, hK⟩ : ∃ l1 l2 l3 : Bool, decide ((b : Int) < (a : Int)) = l1 ∧ decide ((a : Int) = (b : Int)) = l2 ∧ decide ((a : Int) ≤ (b : Int)) = l3 ∧ r2 = (if l1 = true then 3 else 0) ∧
      ((l1 = true ∧ l2 = false ∧ l3 = false ∧ e0 = false ∧ ((p = true ∧ q = false) ∨ (p = false ∧ q = true ∧ r = false))) ∨ (l1 = false ∧ l2 = true ∧ l3 = true ∧ e0 = true ∧ p = false ∧ q = true) ∨ (l1 = false ∧ l2 = false ∧ l3 = true ∧ e0 = false ∧ p = false ∧ (q = false ∨ (q = true ∧ r = true)))) := by
    refine ⟨_, _, _, rfl, rfl, rfl, by rw [hr2]; simp only [decide_eq_true_eq], ?_⟩
    rcases K with ⟨hk, hab, he0⟩ | ⟨⟨k1, k2, k3⟩, hab⟩ | ⟨⟨k1, k2⟩, hab, he0⟩
    · exact .inl ⟨decide_eq_true (by omega), decide_eq_false (by omega), decide_eq_false (by omega), he0, hk.imp (fun h => ⟨h, by rw [← hq]; have := of_decide_eq_true (hp.trans h); exact decide_eq_false (by omega)⟩) (fun h => ⟨h.1, h.2.1, h.2.2.1⟩)⟩
    · exact .inr (.inl ⟨decide_eq_false (by omega), decide_eq_true (by omega), decide_eq_true (by omega), k3, k1, k2⟩)
    · exact .inr (.inr ⟨decide_eq_false (by omega), decide_eq_false (by omega), decide_eq_true (by omega), he0, k1, k2⟩)
  clear K hr2
  rcases hK with ⟨rfl, rfl, rfl, rfl, (⟨rfl, rfl⟩ | ⟨rfl, rfl, rfl⟩)⟩ | ⟨rfl, rfl, rfl, rfl, rfl, rfl⟩ | ⟨rfl, rfl, rfl, rfl, rfl, (rfl | ⟨rfl, rfl⟩)⟩
  all_goals
    first | rw [if_pos rfl] at hr3 | rw [if_neg (by decide)] at hr3
    subst hr3
    have hp2 := HPN.out
    have hq2 := hq
    rw [← Bool.beq_eq_decide_eq] at hq2
    clear hp hq
    have he2 := hl2
    rw [← Bool.beq_eq_decide_eq] at he2
    generalize (a : Int) = x at *
    generalize (b : Int) = y at *
    try simp only [Bool.true_or, Bool.or_true, Bool.false_or, Bool.or_false, Bool.not_true, Bool.not_false] at hg
    go_enter Try.func6, Try.ntmps6
    go_wp2_with fail
    refine (HA.out w).mono ?_
    rintro e w1 ⟨rfl, hb1⟩
    go_wp2_with fail
    refine (HB.out w1).mono ?_
    rintro e w2 ⟨rfl, hb2⟩
    have HB2 : Below w.heap.size w w2 := below_step hb1 hb2
    clear hb1 hb2
    go_wp2_with fail
    refine (PTlvNumbers.tlv_ReadNum.calls 20 s _ _ _ w2 H.out).mono ?_
    rintro e w3 ⟨rfl, hb3⟩
    obtain ⟨n3, e3⟩ := hb3.out
    have HB3 : Below w.heap.size w w3 := by rw [e3]; exact pw_below_drewN HB2 n3
    clear e3 HB2
    go_wp2_with fail
    refine (awake_any w3).mono ?_
    rintro e w4 ⟨rfl, hb4⟩
    have HB4 : Below w.heap.size w w4 := below_step HB3 hb4
    clear hb4 HB3
    go_wp2_with fail
    go_ret
    refine ⟨?_, HB4⟩
    first | rfl | simp [HPN.out]
end Go.Proofs.Ytndbchigekbjaaa.Base
namespace Go.Proofs.Ytndbchigekbjaaa.Order
open Go Go.RowKit
theorem core (a b : Int) (w : World) (ha : (Lit.int .u64 a).wf = true) (hb : (Lit.int .u64 b).wf = true) :
    Calls Try.prog 6 #[.int .u64 a, .int .u64 b] w fun e w' => e = .returned (.bool true) ∧ Below w.heap.size w w' := by
  obtain ⟨h0, h1⟩ : 0 ≤ a ∧ a < 18446744073709551616 := by
    simp [Lit.wf, IntKind.min, IntKind.max, IntKind.signed, IntKind.bits] at ha
    omega
  obtain ⟨g0, g1⟩ : 0 ≤ b ∧ b < 18446744073709551616 := by
    simp [Lit.wf, IntKind.min, IntKind.max, IntKind.signed, IntKind.bits] at hb
    omega
  obtain ⟨k, rfl⟩ : ∃ k : Nat, a = (k : Int) := ⟨a.toNat, by omega⟩
  obtain ⟨j, rfl⟩ : ∃ j : Nat, b = (j : Int) := ⟨b.toNat, by omega⟩
  exact Base.order_any k j (by omega) (by omega) w
end Go.Proofs.Ytndbchigekbjaaa.Order
