/- The law of bytes one behind the other. Conditions: none. -/
import Derived.Test.YtndbchigekbjaaaLong
import Derived.Test.YtndbchigekbjaaaSole
import Derived.Test.YtndbchigekbjaaaAttrPure
import Derived.Test.YtndbchigekbjaaaOpen
set_option linter.unusedVariables false
set_option linter.unusedSimpArgs false
namespace Go.Proofs.Ytndbchigekbjaaa.Base
open Go Go.RowKit Go.Proofs.Ytndbchigekbjaaa.Mem Go.Proofs.YtndbchigekbjaaaW.PrintWords Go.Proofs.Ytndbchigekbjaaa.PTlvCodes
theorem long_all (l : List S48) (hl : l.length < 1000000000000000) : ∃ r : Bool, (r = false → tot38 (l.map to38) < 100000 ∧ l.length ≤ 300) ∧
    ∀ (A0 : Option Addr) (c0 : Nat) (w : World), Kd.C k48 w A0 l.length l → l.length ≤ c0 → Calls Try.prog 12 #[.slice A0 l.length c0] w fun e w' => e = .returned (.bool r) ∧ Below w.heap.size w w' := by
  obtain ⟨r, h1, h2⟩ := long_l l hl l.length 0 0 (l.length + 1) (by omega) (by omega) (by omega)
  refine ⟨r, fun h => by have := h2 h; rw [List.drop_zero] at this; omega, fun A0 c0 w h0 hc0 => ?_⟩
  exact PTlvCodes.turnoutlaw06_long.calls (l.length + 1) A0 c0 l r w h0 hc0 h1
theorem large_all (l : List ByteArray) (hl : l.length < 1000000000000000) : ∃ r : Bool, (r = false → tot l + 8 * l.length < 100000) ∧
    ∀ (A0 : Option Addr) (c0 : Nat) (w : World), Kd.C Kd.string w A0 l.length l → l.length ≤ c0 → Calls Try.prog 25 #[.slice A0 l.length c0] w fun e w' => e = .returned (.bool r) ∧ Below w.heap.size w w' := by
  obtain ⟨r, h1, h2⟩ := large_l l hl l.length 0 0 (l.length + 1) (by omega) (by omega) (by omega)
  refine ⟨r, fun h => by have := h2 h; rw [List.drop_zero] at this; omega, fun A0 c0 w h0 hc0 => ?_⟩
  exact PTlvLists.turnoutlaw06_large.calls (l.length + 1) A0 c0 l r w h0 hc0 h1
theorem R_empty48 (w : World) (B : Nat) (hB : B ≤ w.heap.size) : Kd.R k48 48 (w.alloc (.cells #[] 48)) B (fun _ => True) (.slice (some ⟨w.heap.size, 0, none⟩) 0 0) [] :=
  ⟨fun _ _ => trivial, [], ⟨rfl, .inr ⟨w.heap.size, 0, #[], rfl, hB, heap_alloc_new w _, Nat.le_refl _, by decide, rfl, rfl⟩⟩, Reps.none _ _⟩
theorem R_empty9 (w : World) (B : Nat) (hB : B ≤ w.heap.size) : Kd.R Kd.string 9 (w.alloc (.cells #[] 9)) B (fun _ => True) (.slice (some ⟨w.heap.size, 0, none⟩) 0 0) [] :=
  ⟨fun _ _ => trivial, [], ⟨rfl, .inr ⟨w.heap.size, 0, #[], rfl, hB, heap_alloc_new w _, Nat.le_refl _, by decide, rfl, rfl⟩⟩, Reps.none _ _⟩
theorem str_cat (a b : List Int) : strOfNums (a ++ b) = strOfNums a ++ strOfNums b := str_app a b
/-- Do the types rise from one row to the other? -/
def rise (a b : List S38) : Bool := match b with
  | [] => true
  | y :: _ => match a with
    | [] => true
    | _ :: _ => decide (lastT 0 a < y.f0)
theorem okA_lift : ∀ (b : List S38) (last : Int), okA 0 b → (∀ y r, b = y :: r → last < y.f0) → okA last b
  | [], _, _, _ => trivial
  | y :: r, last, h, hl => ⟨hl y r rfl, h.2⟩
theorem behind_attr (a b : List S38) (ha : okA 0 a) (hb : okA 0 b) :
    (rise a b = true → enc [] 0 (a ++ b) = ((enc [] 0 a).1 ++ (enc [] 0 b).1, 0)) ∧ (rise a b = false → (enc [] 0 (a ++ b)).2 = 3) := by
  rw [enc_app a b 0 [] ha, enc_ok a 0 [] ha, enc_ok b 0 [] hb]
  constructor
  · intro h
    have : okA (lastT 0 a) b := by
      refine okA_lift b _ hb (fun y r e => ?_)
      subst e
      cases a with
      | nil => exact hb.1
      | cons x q => exact of_decide_eq_true h
    rw [enc_ok b _ _ this]
    simp only [List.nil_append, str_cat]
  · intro h
    cases b with
    | nil => cases h
    | cons y r =>
      cases a with
      | nil => cases h
      | cons x q =>
        have : ¬ lastT 0 (x :: q) < y.f0 := of_decide_eq_false h
        rw [enc, if_pos (.inl (by omega))]
theorem lst_app (l m : List ByteArray) : ((lst [] l).2 = 0 ∧ (lst [] m).2 = 0 ∧ lst [] (l ++ m) = ((lst [] l).1 ++ (lst [] m).1, 0)) ∨ (lst [] (l ++ m) = (⟨#[]⟩, 5) ∧ ((lst [] l).2 = 5 ∨ ((lst [] l).2 = 0 ∧ (lst [] m).2 = 5))) := by
  by_cases hl : ∀ x ∈ l, x.size ≤ 65535
  · have h1 := lst_ok l hl []
    by_cases hm : ∀ x ∈ m, x.size ≤ 65535
    · have h2 := lst_ok m hm []
      have h3 := lst_ok (l ++ m) (fun x hx => by
        rcases List.mem_append.1 hx with h | h
        · exact hl x h
        · exact hm x h) []
      refine .inl ⟨h1.1, h2.1, Prod.ext (str_ext ?_) h3.1⟩
      have e : ∀ (l m : List ByteArray), lbB (l ++ m) = lbB l ++ lbB m := by
        intro l m
        induction l with
        | nil => rfl
        | cons x r ih => rw [List.cons_append, lbB, lbB, ih]; simp only [List.append_assoc]
      rw [h3.2, e]
      show _ = ((lst [] l).1 ++ (lst [] m).1).data.toList
      rw [ByteArray.data_append, Array.toList_append, h1.2, h2.2]
      rfl
    · refine .inr ⟨lst_bad (l ++ m) (fun h => hm (fun x hx => h x (List.mem_append_right _ hx))) [], .inr ⟨h1.1, ?_⟩⟩
      rw [lst_bad m hm []]
  · refine .inr ⟨lst_bad (l ++ m) (fun h => hl (fun x hx => h x (List.mem_append_left _ hx))) [], .inl ?_⟩
    rw [lst_bad l hl []]
theorem lastT_rd : ∀ (a : List S48) (last : Int) (j : Nat), a.length = j + 1 → lastT last (a.map to38) = (rd_T48 a (j : Int)).f0
  | [], _, _, h => by simp at h
  | [x], last, j, h => by
    simp only [List.length_cons, List.length_nil] at h
    obtain rfl : j = 0 := by omega
    rfl
  | x :: y :: r, last, j, h => by
    simp only [List.length_cons] at h
    obtain ⟨j, rfl⟩ : ∃ k, j = k + 1 := ⟨j - 1, by omega⟩
    have ih := lastT_rd (y :: r) x.f0 j (by simp only [List.length_cons]; omega)
    show lastT x.f0 ((y :: r).map to38) = _
    rw [ih]
    simp [rd_T48, Int.toNat_natCast, show ((j : Int) + 1).toNat = j + 1 by omega]
theorem rise_a (a b : List S48) (h : a.length = 0) : rise (a.map to38) (b.map to38) = true := by
  obtain rfl := List.eq_nil_of_length_eq_zero h
  cases b <;> rfl
theorem rise_b (a b : List S48) (h : b.length = 0) : rise (a.map to38) (b.map to38) = true := by
  obtain rfl := List.eq_nil_of_length_eq_zero h
  rfl
theorem rise_ab (a b : List S48) (j : Nat) (ha : a.length = j + 1) (hb : b.length ≠ 0) : rise (a.map to38) (b.map to38) = decide ((rd_T48 a (j : Int)).f0 < (rd_T48 b 0).f0) := by
  have := lastT_rd a 0 j ha
  cases b with
  | nil => exact absurd rfl hb
  | cons y r =>
    cases a with
    | nil => simp at ha
    | cons x q =>
      show decide (lastT 0 ((x :: q).map to38) < y.f0) = _
      rw [this]
      rfl
set_option maxRecDepth 100000 in
set_option maxHeartbeats 16000000 in
theorem behind_any (A0 : Option Addr) (c0 : Nat) (a : List S48) (A1 : Option Addr) (c1 : Nat) (b : List S48) (A2 : Option Addr) (c2 : Nat) (l : List ByteArray) (A3 : Option Addr) (c3 : Nat) (m : List ByteArray) (w : World)
    (h0 : Kd.C k48 w A0 a.length a) (hc0 : a.length ≤ c0) (ha : a.length < 1000000000000000) (h1 : Kd.C k48 w A1 b.length b) (hc1 : b.length ≤ c1) (hb : b.length < 1000000000000000)
    (h2 : Kd.C Kd.string w A2 l.length l) (hc2 : l.length ≤ c2) (hl : l.length < 1000000000000000) (h3 : Kd.C Kd.string w A3 m.length m) (hc3 : m.length ≤ c3) (hm : m.length < 1000000000000000) :
    Calls Try.prog 7 #[.slice A0 a.length c0, .slice A1 b.length c1, .slice A2 l.length c2, .slice A3 m.length c3] w fun e w' => e = .returned (.bool true) ∧ Below w.heap.size w w' := by
  have H0 := Lib.hid h0
  have H1 := Lib.hid h1
  have H2 := Lib.hid h2
  have H3 := Lib.hid h3
  clear h0 h1 h2 h3
  obtain ⟨r0, hr0, hx0⟩ := long_all a ha
  obtain ⟨r1, hr1, hx1⟩ := long_all b hb
  obtain ⟨r2, hr2, hx2⟩ := large_all l hl
  obtain ⟨r3, hr3, hx3⟩ := large_all m hm
  have X0 := Lib.hid hx0
  have X1 := Lib.hid hx1
  have X2 := Lib.hid hx2
  have X3 := Lib.hid hx3
  have R0 := Lib.hid hr0
  have R1 := Lib.hid hr1
  have R2 := Lib.hid hr2
  have R3 := Lib.hid hr3
  clear hx0 hx1 hx2 hx3 hr0 hr1 hr2 hr3
  go_enter Try.func7, Try.ntmps7
  go_wp2_with fail
  refine (X0.out _ _ w H0.out hc0).mono ?_
  rintro e w1 ⟨rfl, hb1⟩
  have HK := (Kp.refl w).go hb1
  clear hb1
  cases r0
  case true =>
    go_wp2_with fail
    refine (awake_any _).mono ?_
    rintro e wz ⟨rfl, hbz⟩
    have HKz := HK.go hbz
    go_wp2_with fail
    go_ret
    exact ⟨rfl, HKz.below⟩
  have T0 := Lib.hid (R0.out rfl)
  clear R0
  go_wp2_with fail
  refine (X1.out _ _ w1 (Kd.C_below H1.out HK.below) hc1).mono ?_
  rintro e w2 ⟨rfl, hb2⟩
  replace HK := HK.go hb2
  clear hb2
  cases r1
  case true =>
    go_wp2_with fail
    refine (awake_any _).mono ?_
    rintro e wz ⟨rfl, hbz⟩
    have HKz := HK.go hbz
    go_wp2_with fail
    go_ret
    exact ⟨rfl, HKz.below⟩
  have T1 := Lib.hid (R1.out rfl)
  clear R1
  go_wp2_with fail
  refine (X2.out _ _ w2 (Kd.C_below H2.out HK.below) hc2).mono ?_
  rintro e w3 ⟨rfl, hb3⟩
  replace HK := HK.go hb3
  clear hb3
  cases r2
  case true =>
    go_wp2_with fail
    refine (awake_any _).mono ?_
    rintro e wz ⟨rfl, hbz⟩
    have HKz := HK.go hbz
    go_wp2_with fail
    go_ret
    exact ⟨rfl, HKz.below⟩
  have T2 := Lib.hid (R2.out rfl)
  clear R2
  go_wp2_with fail
  refine (X3.out _ _ w3 (Kd.C_below H3.out HK.below) hc3).mono ?_
  rintro e w4 ⟨rfl, hb4⟩
  replace HK := HK.go hb4
  clear hb4
  cases r3
  case true =>
    go_wp2_with fail
    refine (awake_any _).mono ?_
    rintro e wz ⟨rfl, hbz⟩
    have HKz := HK.go hbz
    go_wp2_with fail
    go_ret
    exact ⟨rfl, HKz.below⟩
  have T3 := Lib.hid (R3.out rfl)
  clear R3
  clear X0 X1 X2 X3
  clear ha hb hl hm
  go_wp2_with fail
  refine (awake_any _).mono ?_
  rintro e w5 ⟨rfl, hb5⟩
  replace HK := HK.go hb5
  clear hb5
  go_wp2_with fail
  refine (attrs_conv A0 c0 a w5 (Kd.C_below H0.out HK.below) hc0 (by have := T0.out; omega)).mono ?_
  rintro e w6 ⟨v6, rfl, ho6, hb6⟩
  replace HK := HK.go hb6
  obtain ⟨A6, c6, rfl, m6, hC6⟩ := Kd.R_reads ho6
  have hC6 := Lib.hid hC6
  clear ho6 hb6
  obtain ⟨qa, hqa⟩ : ∃ q, q = a.map to38 := ⟨_, rfl⟩
  have HLa := Lib.hid (show qa.length = a.length by rw [hqa, List.length_map])
  rw [← hqa] at hC6 m6 T0 ⊢
  have HQa := Lib.hid hqa
  clear hqa
  go_wp2_with fail
  refine (enc_any A6 c6 qa w6 hC6.out m6 (by have := HLa.out; have := T0.out; omega) (by have := T0.out; omega)).mono ?_
  rintro e w7 ⟨rfl, hb7⟩
  replace HK := HK.go hb7
  clear hb7 hC6
  obtain ⟨s1, e1, hE1⟩ : ∃ t er, enc [] 0 qa = (t, er) := ⟨_, _, rfl⟩
  rw [hE1]
  have HE1 := Lib.hid hE1
  clear hE1
  go_wp2_with fail
  refine (attrs_conv A1 c1 b w7 (Kd.C_below H1.out HK.below) hc1 (by have := T1.out; omega)).mono ?_
  rintro e w8 ⟨v8, rfl, ho8, hb8⟩
  replace HK := HK.go hb8
  obtain ⟨A8, c8, rfl, m8, hC8⟩ := Kd.R_reads ho8
  have hC8 := Lib.hid hC8
  clear ho8 hb8
  obtain ⟨qb, hqb⟩ : ∃ q, q = b.map to38 := ⟨_, rfl⟩
  have HLb := Lib.hid (show qb.length = b.length by rw [hqb, List.length_map])
  rw [← hqb] at hC8 m8 T1 ⊢
  have HQb := Lib.hid hqb
  clear hqb
  go_wp2_with fail
  refine (enc_any A8 c8 qb w8 hC8.out m8 (by have := HLb.out; have := T1.out; omega) (by have := T1.out; omega)).mono ?_
  rintro e w9 ⟨rfl, hb9⟩
  replace HK := HK.go hb9
  clear hb9 hC8
  obtain ⟨s2, e2, hE2⟩ : ∃ t er, enc [] 0 qb = (t, er) := ⟨_, _, rfl⟩
  rw [hE2]
  have HE2 := Lib.hid hE2
  clear hE2
  have hE := R_empty48 w9 w9.heap.size (Nat.le_refl _)
  have hC : Kd.C k48 (w9.alloc (.cells #[] 48)) A0 a.length a := Kd.C_below H0.out (HK.alloc _).below
  have hbb : Below w9.heap.size w9 (w9.alloc (.cells #[] 48)) := below_alloc (Below.refl _ _) _
  have hbs : w9.heap.size ≤ (w9.alloc (.cells #[] 48)).heap.size := hbb.size
  have ha3 := T0.out.2
  have hb3 := T1.out.2
  go_wp2_with (at_builtin; go_must (first
    | (refine Kd.R_append_rows k48 (w0 := w9) w9.heap.size rfl _ _ 22 48 (.agg #[(.int .u8 0), (.string ⟨#[]⟩)]) 24 rfl Try.underlying22 info48 rfl (by decide) (by decide) (.slice (some ⟨w9.heap.size, 0, none⟩) 0 0) [] a A0 a.length c0 (fun _ => True) (fun _ => False) (by rfl) (by rfl) hE hC (fun x cs hk => by rw [k48_open hk]; exact k48_mkM _ _ _ _) (fun _ hk => hk.elim) (fun _ _ => trivial) hbb hbs (by simp only [List.length_nil]; omega) ?_; intro v10 w10 ho10 hb10 hg10 hat10; have HK10 : Kp w.heap.size w w10 := HK.go hb10; have hC10 : Kd.C k48 w10 A1 b.length b := Kd.C_below H1.out HK10.below; have hbs10 : w9.heap.size ≤ w10.heap.size := hb10.size; rw [List.nil_append] at ho10)
    | (refine Kd.R_append_rows k48 (w0 := w9) w9.heap.size rfl _ _ 22 48 (.agg #[(.int .u8 0), (.string ⟨#[]⟩)]) 24 rfl Try.underlying22 info48 rfl (by decide) (by decide) v10 a b A1 b.length c1 (fun _ => True) (fun _ => False) (by rfl) (by rfl) ho10 hC10 (fun x cs hk => by rw [k48_open hk]; exact k48_mkM _ _ _ _) (fun _ hk => hk.elim) (fun _ _ => trivial) hb10 hbs10 (by omega) ?_; intro v11 w11 ho11 hb11 hg11 hat11)))
  clear ho10 hC10 hb10 hbs10 hE hC hbb hbs hg10 hat10 hg11 hat11 HK10
  replace HK := HK.go hb11
  clear hb11
  obtain ⟨ab, hab⟩ : ∃ ab, ab = a ++ b := ⟨_, rfl⟩
  rw [← hab] at ho11
  have HLab := Lib.hid (show ab.length = a.length + b.length by rw [hab, List.length_append])
  have HAB := Lib.hid hab
  clear hab
  obtain ⟨A11, c11, rfl, m11, hC11⟩ := Kd.R_reads ho11
  have hC11 := Lib.hid hC11
  clear ho11
  refine (attrs_conv A11 c11 ab w11 hC11.out m11 (by have := HLab.out; omega)).mono ?_
  rintro e w12 ⟨v12, rfl, ho12, hb12⟩
  replace HK := HK.go hb12
  obtain ⟨A12, c12, rfl, m12, hC12⟩ := Kd.R_reads ho12
  have hC12 := Lib.hid hC12
  clear ho12 hb12 hC11
  obtain ⟨qab, hqab⟩ : ∃ q, q = ab.map to38 := ⟨_, rfl⟩
  have HLq := Lib.hid (show qab.length = ab.length by rw [hqab, List.length_map])
  have HQab := Lib.hid (show qab = qa ++ qb by rw [hqab, HAB.out, HQa.out, HQb.out, List.map_append])
  rw [← hqab] at hC12 m12 ⊢
  clear hqab
  have Ttot : tot38 qab < 200000 := by
    have e : ∀ (x y : List S38), tot38 (x ++ y) = tot38 x + tot38 y := by
      intro x y
      induction x with
      | nil => simp [tot38]
      | cons z r ih => rw [List.cons_append, tot38, tot38, ih]; omega
    rw [HQab.out, e]
    have := T0.out
    have := T1.out
    omega
  go_wp2_with fail
  refine (enc_any A12 c12 qab w12 hC12.out m12 (by have := HLq.out; have := HLab.out; omega) (by omega)).mono ?_
  rintro e w13 ⟨rfl, hb13⟩
  replace HK := HK.go hb13
  clear hb13 hC12 Ttot
  obtain ⟨s3, e3, hE3⟩ : ∃ t er, enc [] 0 qab = (t, er) := ⟨_, _, rfl⟩
  rw [hE3]
  have HE3 := Lib.hid hE3
  clear hE3
  have hSZ : e1 = 0 → s1.size < 100000 := by
    intro h
    have h1 := enc_bytes qa (enc_zero qa 0 [] (by rw [HE1.out]; exact h))
    rw [HE1.out] at h1
    rw [size_list, h1.2, abB_len]
    have := T0.out
    omega
  have hSZ2 : e2 = 0 → s2.size < 100000 := by
    intro h
    have h1 := enc_bytes qb (enc_zero qb 0 [] (by rw [HE2.out]; exact h))
    rw [HE2.out] at h1
    rw [size_list, h1.2, abB_len]
    have := T1.out
    omega
  have hsplit : (e1 ≠ 0 ∨ e2 ≠ 0) ∨ (e1 = 0 ∧ e2 = 0 ∧ (rise qa qb = true → (s3, e3) = (s1 ++ s2, 0)) ∧ (rise qa qb = false → e3 = 3) ∧ s1.size + s2.size ≤ 9223372036854775807) := by
    by_cases z1 : e1 = 0
    · by_cases z2 : e2 = 0
      · have hB := behind_attr qa qb (enc_zero qa 0 [] (by rw [HE1.out]; exact z1)) (enc_zero qb 0 [] (by rw [HE2.out]; exact z2))
        rw [← HQab.out, HE1.out, HE2.out, HE3.out] at hB
        have h1 := hSZ z1
        have h2 := hSZ2 z2
        exact .inr ⟨z1, z2, hB.1, hB.2, by omega⟩
      · exact .inl (.inr z2)
    · exact .inl (.inl z1)
  rw [HQa.out, HQb.out] at hsplit
  clear hSZ hSZ2 HE1 HE2 HE3 HQab HLab HAB HLq HQa HQb HLa HLb
  have HK13 := HK
  clear HK
  have hls : (lst [] l).2 = 0 → (lst [] l).1.size < 100000 := by
    intro h
    rcases list_read l with ⟨_, _, h3⟩ | h3
    · rw [size_list, h3]; have := T2.out; omega
    · rw [h3] at h; cases h
  have hms : (lst [] m).2 = 0 → (lst [] m).1.size < 100000 := by
    intro h
    rcases list_read m with ⟨_, _, h3⟩ | h3
    · rw [size_list, h3]; have := T3.out; omega
    · rw [h3] at h; cases h
  have hlm := lst_app l m
  obtain ⟨p1, g1, hP1⟩ : ∃ x y, lst [] l = (x, y) := ⟨_, _, rfl⟩
  obtain ⟨p2, g2, hP2⟩ : ∃ x y, lst [] m = (x, y) := ⟨_, _, rfl⟩
  obtain ⟨lm, hlm9⟩ : ∃ x, x = l ++ m := ⟨_, rfl⟩
  rw [← hlm9] at hlm
  obtain ⟨p3, g3, hP3⟩ : ∃ x y, lst [] lm = (x, y) := ⟨_, _, rfl⟩
  rw [hP1, hP2, hP3] at hlm
  rw [hP1] at hls
  rw [hP2] at hms
  have HP1 := Lib.hid hP1
  have HP2 := Lib.hid hP2
  have HP3 := Lib.hid hP3
  have HLM := Lib.hid hlm
  have HLS := Lib.hid hls
  have HMS := Lib.hid hms
  have HLM9 := Lib.hid hlm9
  have HLMl := Lib.hid (show lm.length = l.length + m.length by rw [hlm9, List.length_append])
  have HLMt := Lib.hid (show tot lm ≤ 200000 by
    have e : ∀ (x y : List ByteArray), tot (x ++ y) = tot x + tot y := by
      intro x y
      induction x with
      | nil => simp [tot]
      | cons z r ih => rw [List.cons_append, tot, tot, ih]; omega
    rw [hlm9, e]
    have := T2.out
    have := T3.out
    omega)
  clear hP1 hP2 hP3 hlm hls hms hlm9
  rcases hsplit with hne | ⟨rfl, rfl, hB1, hB2, hS12⟩
  case' inl =>
    by_cases z1 : e1 = 0
    case' pos =>
      subst z1
      have z2 : (e2 == 0) = false := beq_eq_false_iff_ne.2 (by omega)
      clear hne
      go_wp2_with fail
      have HK14 := HK13
      obtain ⟨w14, rfl⟩ : ∃ x, x = w13 := ⟨_, rfl⟩
    case' neg =>
      have z2 : (e1 == 0) = false := beq_eq_false_iff_ne.2 z1
      clear hne z1
      go_wp2_with fail
      have HK14 := HK13
      obtain ⟨w14, rfl⟩ : ∃ x, x = w13 := ⟨_, rfl⟩
  case' inr =>
    by_cases ea : a.length = 0
    case' pos =>
      obtain ⟨rfl, rfl⟩ := Prod.mk.inj (hB1 (rise_a a b ea))
      have q1 : ((a.length : Int) == 0) = true := beq_iff_eq.2 (by omega)
      clear hB1 hB2
      go_wp2_with fail
      go_quiet (fail)
      go_wp2_with fail
      have HK14 := HK13.drewN nq
      generalize w13.drewN nq = w14 at *
    case' neg =>
      have q1 : ((a.length : Int) == 0) = false := beq_eq_false_iff_ne.2 (by omega)
      have q1' : (a.length == 0) = false := beq_eq_false_iff_ne.2 ea
      by_cases eb : b.length = 0
      case' pos =>
        obtain ⟨rfl, rfl⟩ := Prod.mk.inj (hB1 (rise_b a b eb))
        have q2 : ((b.length : Int) == 0) = true := beq_iff_eq.2 (by omega)
        clear hB1 hB2 ea
        go_wp2_with fail
        go_quiet (fail)
        go_wp2_with fail
        have HK14 := HK13.drewN nq
        generalize w13.drewN nq = w14 at *
      case' neg =>
        have q2 : ((b.length : Int) == 0) = false := beq_eq_false_iff_ne.2 (by omega)
        have q2' : (b.length == 0) = false := beq_eq_false_iff_ne.2 eb
        obtain ⟨n, hn⟩ : ∃ n, a.length = n + 1 := ⟨a.length - 1, by omega⟩
        have hB := rise_ab a b n hn eb
        obtain ⟨j, hj⟩ : ∃ j : Int, j = (n : Int) := ⟨_, rfl⟩
        rw [← hj] at hB
        have w1 : wrap64 ((a.length : Int) - 1) = j := by unfold wrap64; omega
        have w2 : IntKind.i64.wrap ((a.length : Int) - 1) = j := by rw [IntKind.wrap_i64]; omega
        have j0 : (0 : Int) ≤ j := by omega
        have j1 : j < (a.length : Int) := by omega
        have b0 : (0 : Int) < (b.length : Int) := by omega
        obtain ⟨ad, rfl, x0, x1⟩ := at_T48 (Kd.C_below H0.out HK13.below) j j0 j1
        obtain ⟨bd, rfl, y0, y1⟩ := at_T48 (Kd.C_below H1.out HK13.below) 0 (Int.le_refl 0) b0
        have y2 : w13.cell? bd = some (.int .u8 (rd_T48 b 0).f0) := by
          rw [show (0 : Int).toNat * 2 = 0 from rfl, Addr.add_zero'] at y0
          exact y0
        clear x1 y1 y0 hn hj ea eb
        generalize (rd_T48 a j).f0 = x at *
        generalize (rd_T48 b 0).f0 = y at *
        rw [hB] at hB1 hB2
        clear hB
        cases hxy : decide (x < y)
        case' true =>
          obtain ⟨rfl, rfl⟩ := Prod.mk.inj (hB1 hxy)
          clear hB1 hB2
          go_wp2_with fail
          go_quiet (fail)
          go_wp2_with fail
          have HK14 := HK13.drewN nq
          generalize w13.drewN nq = w14 at *
        case' false =>
          obtain rfl := hB2 hxy
          clear hB1 hB2
          go_wp2_with fail
          go_quiet (fail)
          go_wp2_with fail
          have HK14 := HK13.drewN nq
          generalize w13.drewN nq = w14 at *
  all_goals
    have hh := list_any A2 c2 l w14 (Kd.C_below H2.out HK14.below) hc2 (by have := T2.out; omega) (by have := T2.out; omega)
    rw [HP1.out] at hh
    refine hh.mono ?_
    clear hh
    rintro e w15 ⟨rfl, hb15⟩
    have HK15 := HK14.go hb15
    clear hb15 HK14 HK13
    go_wp2_with fail
    have hh := list_any A3 c3 m w15 (Kd.C_below H3.out HK15.below) hc3 (by have := T3.out; omega) (by have := T3.out; omega)
    rw [HP2.out] at hh
    refine hh.mono ?_
    clear hh
    rintro e w16 ⟨rfl, hb16⟩
    have HK16 := HK15.go hb16
    clear hb16 HK15
    have hE := R_empty9 w16 w16.heap.size (Nat.le_refl _)
    have hC : Kd.C Kd.string (w16.alloc (.cells #[] 9)) A2 l.length l := Kd.C_below H2.out (HK16.alloc _).below
    have hbb : Below w16.heap.size w16 (w16.alloc (.cells #[] 9)) := below_alloc (Below.refl _ _) _
    have hbs : w16.heap.size ≤ (w16.alloc (.cells #[] 9)).heap.size := hbb.size
    have hl9 : l.length < 100000 := by have := T2.out; omega
    have hm9 : m.length < 100000 := by have := T3.out; omega
    go_wp2_with (at_builtin; go_must (first
      | (refine Kd.R_append_rows Kd.string (w0 := w16) w16.heap.size rfl _ _ 46 9 (.string ⟨#[]⟩) 16 rfl Try.underlying46 info9 rfl (by decide) (by decide) (.slice (some ⟨w16.heap.size, 0, none⟩) 0 0) [] l A2 l.length c2 (fun _ => True) (fun _ => False) (by rfl) (by rfl) hE hC (fun _ _ h => h) (fun _ hk => hk.elim) (fun _ _ => trivial) hbb hbs (by simp only [List.length_nil]; omega) ?_; intro v17 w17 ho17 hb17 hg17 hat17; have HK17 : Kp w.heap.size w w17 := HK16.go hb17; have hC17 : Kd.C Kd.string w17 A3 m.length m := Kd.C_below H3.out HK17.below; have hbs17 : w16.heap.size ≤ w17.heap.size := hb17.size; rw [List.nil_append] at ho17)
      | (refine Kd.R_append_rows Kd.string (w0 := w16) w16.heap.size rfl _ _ 46 9 (.string ⟨#[]⟩) 16 rfl Try.underlying46 info9 rfl (by decide) (by decide) v17 l m A3 m.length c3 (fun _ => True) (fun _ => False) (by rfl) (by rfl) ho17 hC17 (fun _ _ h => h) (fun _ hk => hk.elim) (fun _ _ => trivial) hb17 hbs17 (by omega) ?_; intro v18 w18 ho18 hb18 hg18 hat18)))
    clear ho17 hC17 hb17 hbs17 hE hC hbb hbs hg17 hat17 hg18 hat18 HK17
    have HK18 := HK16.go hb18
    clear hb18 HK16
    rw [← HLM9.out] at ho18
    obtain ⟨A18, c18, rfl, m18, hC18⟩ := Kd.R_reads ho18
    have hC18 := Lib.hid hC18
    clear ho18
    have hh := list_any A18 c18 lm w18 hC18.out m18 (by have := HLMl.out; omega) (by have := HLMt.out; omega)
    rw [HP3.out] at hh
    refine hh.mono ?_
    clear hh
    rintro e w19 ⟨rfl, hb19⟩
    have HK19 := HK18.go hb19
    clear hb19 HK18 hC18
    rcases HLM.out with ⟨z1, z2, z3⟩ | ⟨z3, z1⟩
    · try simp only at z1 z2
      subst z1 z2
      obtain ⟨rfl, rfl⟩ := Prod.mk.inj z3
      have hz : p1.size + p2.size ≤ 9223372036854775807 := by
        have h1 := HLS.out rfl
        have h2 := HMS.out rfl
        try simp only at h1 h2
        omega
      clear z3
      go_wp2_with fail
      go_ret
      exact ⟨rfl, HK19.below⟩
    · obtain ⟨rfl, rfl⟩ := Prod.mk.inj z3
      try simp only at z1
      rcases z1 with rfl | ⟨rfl, rfl⟩
      · go_wp2_with fail
        go_ret
        exact ⟨rfl, HK19.below⟩
      · go_wp2_with fail
        go_ret
        exact ⟨rfl, HK19.below⟩
end Go.Proofs.Ytndbchigekbjaaa.Base
namespace Go.Proofs.Ytndbchigekbjaaa.Behind
open Go Go.RowKit Go.Proofs.YtndbchigekbjaaaW.PrintWords Go.Proofs.Ytndbchigekbjaaa.PTlvCodes
theorem core (A0 : Option Addr) (c0 : Nat) (a : List S48) (A1 : Option Addr) (c1 : Nat) (b : List S48) (A2 : Option Addr) (c2 : Nat) (l : List ByteArray) (A3 : Option Addr) (c3 : Nat) (m : List ByteArray) (w : World)
    (hc0 : a.length ≤ c0) (hm0 : a.length * 24 ≤ 140737488351232) (hz0 : ∀ x ∈ a, 0 ≤ x.f0 ∧ x.f0 < 256) (hl0 : Kd.C k48 w A0 a.length a)
    (hc1 : b.length ≤ c1) (hm1 : b.length * 24 ≤ 140737488351232) (hz1 : ∀ x ∈ b, 0 ≤ x.f0 ∧ x.f0 < 256) (hl1 : Kd.C k48 w A1 b.length b)
    (hc2 : l.length ≤ c2) (hm2 : l.length * 16 ≤ 140737488351232) (hz2 : ∀ x ∈ l, x.size ≤ 140737488351232) (hl2 : Kd.string.C w A2 l.length l)
    (hc3 : m.length ≤ c3) (hm3 : m.length * 16 ≤ 140737488351232) (hz3 : ∀ x ∈ m, x.size ≤ 140737488351232) (hl3 : Kd.string.C w A3 m.length m) :
    Calls Try.prog 7 #[.slice A0 a.length c0, .slice A1 b.length c1, .slice A2 l.length c2, .slice A3 m.length c3] w fun e w' => e = .returned (.bool true) ∧ Below w.heap.size w w' :=
  Base.behind_any A0 c0 a A1 c1 b A2 c2 l A3 c3 m w hl0 hc0 (by omega) hl1 hc1 (by omega) hl2 hc2 (by omega) hl3 hc3 (by omega)
end Go.Proofs.Ytndbchigekbjaaa.Behind
