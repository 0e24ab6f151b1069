/- The law that a key is within a range just if it is by each part alone. Conditions: none. -/
import Derived.Test.YtedbnppdfcljlaaLaw
set_option linter.unusedVariables false
set_option linter.unusedSimpArgs false
namespace Go.Proofs.Ytedbnppdfcljlaa.Base
open Go Go.RowKit Go.Proofs.Ytedbnppdfcljlaa.Mem Go.Proofs.YtedbnppdfcljlaaW.PrintWords Go.Proofs.YtedbnppdfcljlaaW.PrintLast
open Go.Proofs.Ytedbnppdfcljlaa.PRangMore (S42 S51 z42 z51 k42 k51 k42_open k51_open eqA42 rd_T42 rd_T51)
open Go.Proofs.Ytedbnppdfcljlaa
abbrev E2 : List Nat := endsOf 0 [2]
abbrev E1 : List Nat := endsOf 0 [1]
theorem three (s : ByteArray) (h : s.size = 3) : ∃ a b c, s = ⟨#[a, b, c]⟩ := by
  obtain ⟨d⟩ := s
  obtain ⟨l⟩ := d
  match l, h with
  | [a, b, c], _ => exact ⟨a, b, c, rfl⟩
  | [], h => simp [ByteArray.size] at h
  | [_], h => simp [ByteArray.size] at h
  | [_, _], h => simp [ByteArray.size] at h
  | _ :: _ :: _ :: _ :: _, h => simp [ByteArray.size] at h
theorem blt_irr (a : ByteArray) : blt a a = false := by
  cases h : blt a a
  · rfl
  · exact absurd ((blt_iff a a).1 h) (List.lt_irrefl _)
theorem btw_parts (a b c d e f k l m : UInt8) : btw ⟨#[a, b, c]⟩ ⟨#[k, l, m]⟩ ⟨#[d, e, f]⟩ 0 E21 = (btw ⟨#[a, b]⟩ ⟨#[k, l]⟩ ⟨#[d, e]⟩ 0 E2 && btw ⟨#[c]⟩ ⟨#[m]⟩ ⟨#[f]⟩ 0 E1) := by
  show (if blt ⟨#[k, l]⟩ ⟨#[a, b]⟩ || blt ⟨#[d, e]⟩ ⟨#[k, l]⟩ then false else if blt ⟨#[m]⟩ ⟨#[c]⟩ || blt ⟨#[f]⟩ ⟨#[m]⟩ then false else true) = ((if blt ⟨#[k, l]⟩ ⟨#[a, b]⟩ || blt ⟨#[d, e]⟩ ⟨#[k, l]⟩ then false else true) && (if blt ⟨#[m]⟩ ⟨#[c]⟩ || blt ⟨#[f]⟩ ⟨#[m]⟩ then false else true))
  cases blt ⟨#[k, l]⟩ ⟨#[a, b]⟩ || blt ⟨#[d, e]⟩ ⟨#[k, l]⟩ <;> cases blt ⟨#[m]⟩ ⟨#[c]⟩ || blt ⟨#[f]⟩ ⟨#[m]⟩ <;> rfl
/-- What the statement asks of texts of three bytes. -/
structure PartsOk (low high key l2 h2 k2 l1 h1 k1 : ByteArray) : Prop where
  hput : putOK E21 low high = (putOK E2 l2 h2 && putOK E1 l1 h1)
  hwin : win E21 key ⟨low, high, 0, 1⟩ = (win E2 k2 ⟨l2, h2, 0, 1⟩ && win E1 k1 ⟨l1, h1, 0, 1⟩)
  lo : putOK E21 low high = true → win E21 low ⟨low, high, 0, 1⟩ = true
  hi : putOK E21 low high = true → win E21 high ⟨low, high, 0, 1⟩ = true
theorem parts_ok (low high key : ByteArray) (h1 : low.size = 3) (h2 : high.size = 3) (h3 : key.size = 3) : PartsOk low high key (low.extract 0 2) (high.extract 0 2) (key.extract 0 2) (low.extract 2 3) (high.extract 2 3) (key.extract 2 3) := by
  obtain ⟨a, b, c, rfl⟩ := three low h1
  obtain ⟨d, e, f, rfl⟩ := three high h2
  obtain ⟨k, l, m, rfl⟩ := three key h3
  have e2 : ∀ x y z : UInt8, (⟨#[x, y, z]⟩ : ByteArray).extract 0 2 = ⟨#[x, y]⟩ := fun _ _ _ => rfl
  have e1 : ∀ x y z : UInt8, (⟨#[x, y, z]⟩ : ByteArray).extract 2 3 = ⟨#[z]⟩ := fun _ _ _ => rfl
  have hp : putOK E21 ⟨#[a, b, c]⟩ ⟨#[d, e, f]⟩ = btw ⟨#[a, b, c]⟩ ⟨#[a, b, c]⟩ ⟨#[d, e, f]⟩ 0 E21 := rfl
  have hp2 : putOK E2 ⟨#[a, b]⟩ ⟨#[d, e]⟩ = btw ⟨#[a, b]⟩ ⟨#[a, b]⟩ ⟨#[d, e]⟩ 0 E2 := rfl
  have hp1 : putOK E1 ⟨#[c]⟩ ⟨#[f]⟩ = btw ⟨#[c]⟩ ⟨#[c]⟩ ⟨#[f]⟩ 0 E1 := rfl
  refine ⟨?_, ?_, fun h => ?_, fun h => ?_⟩
  · rw [e2, e2, e1, e1, hp, hp2, hp1, btw_parts]
  · rw [e2, e2, e2, e1, e1, e1]
    exact btw_parts a b c d e f k l m
  · rw [hp] at h; exact h
  · rw [hp] at h
    show btw ⟨#[a, b, c]⟩ ⟨#[d, e, f]⟩ ⟨#[d, e, f]⟩ 0 E21 = true
    have h' : (if blt ⟨#[a, b]⟩ ⟨#[a, b]⟩ || blt ⟨#[d, e]⟩ ⟨#[a, b]⟩ then false else if blt ⟨#[c]⟩ ⟨#[c]⟩ || blt ⟨#[f]⟩ ⟨#[c]⟩ then false else true) = true := h
    show (if blt ⟨#[d, e]⟩ ⟨#[a, b]⟩ || blt ⟨#[d, e]⟩ ⟨#[d, e]⟩ then false else if blt ⟨#[f]⟩ ⟨#[c]⟩ || blt ⟨#[f]⟩ ⟨#[f]⟩ then false else true) = true
    rw [blt_irr, blt_irr] at h' ⊢
    rw [Bool.false_or, Bool.false_or] at h'
    rw [Bool.or_false, Bool.or_false]
    exact h'
theorem find_one (ends : List Nat) (x : S42) (key : ByteArray) (hk : key.size = lastE ends) : (find ends [x] key).2 = win ends key x ∧ ((find ends [x] key).2 = true → (find ends [x] key).1 = x.f3) := by
  unfold find
  rw [show (key.size == lastE ends) = true from beq_iff_eq.2 hk, if_pos rfl]
  simp only [best]
  cases win ends key x
  · exact ⟨rfl, fun h => by cases h⟩
  · exact ⟨rfl, fun _ => rfl⟩
theorem finds_one (ends : List Nat) (x : S42) (key : ByteArray) (hk : key.size = lastE ends) (hw : win ends key x = true) : finds ends [x] key x.f3 = true := by
  obtain ⟨h1, h2⟩ := find_one ends x key hk
  unfold finds
  rw [h1, hw, h2 (h1.trans hw)]
  simp
theorem put_one (ends : List Nat) (low high : ByteArray) (h : putOK ends low high = true) : put ends low high 0 1 [] = [⟨low, high, 0, 1⟩] := by
  rw [put, if_pos h]; rfl
theorem put_none (ends : List Nat) (low high : ByteArray) (h : putOK ends low high = false) : put ends low high 0 1 [] = [] := by
  rw [put, if_neg (by rw [h]; simp)]
/-- Another set, without ranges, is written. -/
theorem Ses.other {B : Nat} {w0 w w1 : World} {g g' : Nat} {ev v ev' : Value} {ends ends' : List Nat} {l l' : List S42} (h : Ses B w0 w g ev v ends l) (h' : SetAt w g' ev' (.slice none 0 0) ends' l') (hne : g ≠ g') (hg : B ≤ g')
    (hf : Fp (Own g' (.slice none 0 0)) w w1) : Ses B w0 w1 g ev v ends l := by
  have hS : ∀ k, Own g' (.slice none 0 0) k → k = g' := fun k e => by
    rcases e with e | e
    · exact e
    · cases e
  refine ⟨h.set.fp hf (fun e => hne (hS _ e)) (fun k e ho => ?_) (fun k e ho => ?_), h.hg, h.hv, ?_, h.hB, h.ok, h.sized⟩
  · exact own_type h.set.ends h'.blk (by decide) (hS _ ho ▸ e)
  · exact own_type h.set.rows h'.blk (by decide) (hS _ ho ▸ e)
  · exact h.bel.trans (hf.below (fun i e => by rw [hS _ e]; exact hg) (Nat.le_trans h.hB h.bel.size))
theorem sz_ext (low : ByteArray) (h : low.size = 3) : (low.extract 0 2).size = 2 ∧ (low.extract 2 3).size = 1 := by
  rw [ByteArray.size_extract, ByteArray.size_extract, h]
  exact ⟨rfl, rfl⟩
set_option maxHeartbeats 16000000 in
set_option maxRecDepth 100000 in
theorem parts_any (low high key : ByteArray) (w : World) : Calls Try.prog 3 #[.string low, .string high, .string key] w fun e w' => e = .returned (.bool true) ∧ Below w.heap.size w w' := by
  by_cases h3 : low.size = 3 ∧ high.size = 3 ∧ key.size = 3
  · obtain ⟨h1, h2, h3⟩ := h3
    have HP := Lib.hid (parts_ok low high key h1 h2 h3)
    obtain ⟨z1, z2⟩ := sz_ext low h1
    obtain ⟨z3, z4⟩ := sz_ext high h2
    obtain ⟨z5, z6⟩ := sz_ext key h3
    have g1 : ((low.size : Int) != 3) = false := by rw [h1]; rfl
    have g2 : ((high.size : Int) != 3) = false := by rw [h2]; rfl
    have g3 : ((key.size : Int) != 3) = false := by rw [h3]; rfl
    have a1 : (2 : Int) ≤ (low.size : Int) := by omega
    have a2 : (2 : Int) ≤ (high.size : Int) := by omega
    have a3 : (2 : Int) ≤ (key.size : Int) := by omega
    have H1 := Lib.hid h1
    have H2 := Lib.hid h2
    have H3 := Lib.hid h3
    have HZ := Lib.hid (And.intro z1 (And.intro z2 (And.intro z3 (And.intro z4 (And.intro z5 z6)))))
    clear h1 h2 h3 z1 z2 z3 z4 z5 z6
    go_enter Try.func3, Try.ntmps3
    go_wp2_with fail
    refine (awake_any _).mono ?_
    rintro e w1 ⟨rfl, hb1⟩
    have HB1 := Lib.hid hb1
    have hb0 := hb1.alloc hb1.size (.cells #[.int .i64 2, .int .i64 1] 3)
    have HN := Lib.hid (ses_new (B := w.heap.size) (w0 := w) _ 2 [2, 1] (lit_row w1 [2, 1] (by decide)) (by decide) hb0 (Nat.le_refl _))
    clear hb1 hb0
    go_wp2_with fail
    refine HN.out.mono ?_
    rintro e w2 ⟨ga, eva, rfl, hSa, -, -, -⟩
    have hb0 := hSa.bel.alloc hSa.bel.size (.cells #[.int .i64 2] 3)
    have hal : Below w2.heap.size w2 (w2.alloc (.cells #[.int .i64 2] 3)) := (Below.refl _ _).alloc (Nat.le_refl _) _
    have HN2 := Lib.hid (ses_new (B := w.heap.size) (w0 := w) _ 1 [2] (lit_row w2 [2] (by decide)) (by decide) hb0 (Nat.le_refl _))
    have HSa := Lib.hid (hSa.go hal)
    clear hb0 HN hSa hal
    go_wp2_with fail
    refine HN2.out.mono ?_
    rintro e w3 ⟨gb, evb, rfl, hSb, hgb, -, hb⟩
    have hSa := HSa.out.go hb
    have hab : ga ≠ gb := fun e => by have := HSa.out.set.lt; rw [e] at this; exact absurd (Nat.lt_of_lt_of_le this hgb) (Nat.lt_irrefl _)
    have hb0 := hSb.bel.alloc hSb.bel.size (.cells #[.int .i64 1] 3)
    have hal : Below w3.heap.size w3 (w3.alloc (.cells #[.int .i64 1] 3)) := (Below.refl _ _).alloc (Nat.le_refl _) _
    have HN3 := Lib.hid (ses_new (B := w.heap.size) (w0 := w) _ 1 [1] (lit_row w3 [1] (by decide)) (by decide) hb0 (Nat.le_refl _))
    have HSa2 := Lib.hid (hSa.go hal)
    have HSb := Lib.hid (hSb.go hal)
    have HAB := Lib.hid hab
    clear hb0 HN2 hSa hSb hal HSa hb hgb hab
    go_wp2_with fail
    refine HN3.out.mono ?_
    rintro e w4 ⟨gc, evc, rfl, hSc, hgc, -, hb⟩
    have hSa := HSa2.out.go hb
    have hSb := HSb.out.go hb
    have hac : ga ≠ gc := fun e => by have := HSa2.out.set.lt; rw [e] at this; exact absurd (Nat.lt_of_lt_of_le this hgc) (Nat.lt_irrefl _)
    have hbc : gb ≠ gc := fun e => by have := HSb.out.set.lt; rw [e] at this; exact absurd (Nat.lt_of_lt_of_le this hgc) (Nat.lt_irrefl _)
    have HAC := Lib.hid hac
    have HBC := Lib.hid hbc
    clear hac hbc HN3 HSa2 HSb hb hgc
    have HPa := Lib.hid (ses_put hSa low high 0 1 (by decide))
    have HSb := Lib.hid hSb
    have HSc := Lib.hid hSc
    have HSa := Lib.hid hSa
    clear hSa hSb hSc
    cases p2 : putOK E2 (low.extract 0 2) (high.extract 0 2) <;> cases p1 : putOK E1 (low.extract 2 3) (high.extract 2 3)
    all_goals
      have hpa := HP.out.hput
      rw [p1, p2] at hpa
      rw [hpa] at HPa
      simp only [Bool.and_true, Bool.and_false, Bool.false_and, Bool.true_and] at HPa hpa
      have HPA := Lib.hid hpa
      have HP1 := Lib.hid p1
      have HP2 := Lib.hid p2
      clear hpa p1 p2
      go_wp2_with fail
      refine HPa.out.mono ?_
      rintro e w5 ⟨va, rfl, hSa, -, hF⟩
      have hSb := HSb.out.other HSa.out.set HAB.out.symm HSa.out.hg hF
      have hSc := HSc.out.other HSa.out.set HAC.out.symm HSa.out.hg hF
      have hSa2 : Ses w.heap.size w w5.drew ga eva va _ _ := hSa.go (pw_below_drewN (Below.refl _ _) 1)
      have hSb2 : Ses w.heap.size w w5.drew gb evb _ _ _ := hSb.go (pw_below_drewN (Below.refl _ _) 1)
      have hSc2 : Ses w.heap.size w w5.drew gc evc _ _ _ := hSc.go (pw_below_drewN (Below.refl _ _) 1)
      clear HPa hF hSa hSb hSc
      go_upto_region 9 with (fail)
      go_still_tail 5, (by kernel_rfl)
      change wpList _ _ _ _ _ w5.drew
      have HPb := Lib.hid (ses_put hSb2 (low.extract 0 2) (high.extract 0 2) 0 1 (by decide))
      rw [HP2.out] at HPb
      have HSa3 := Lib.hid hSa2
      have HSb3 := Lib.hid hSb2
      have HSc3 := Lib.hid hSc2
      clear hSa2 hSb2 hSc2
      generalize w5.drew = w6 at *
      go_wp2_with fail
      refine HPb.out.mono ?_
      rintro e w7 ⟨vb, rfl, hSb, -, hF⟩
      have hSa := HSa3.out.other HSb3.out.set HAB.out HSb3.out.hg hF
      have hSc := HSc3.out.other HSb3.out.set HBC.out.symm HSb3.out.hg hF
      have hSa2 : Ses w.heap.size w w7.drew ga eva va _ _ := hSa.go (pw_below_drewN (Below.refl _ _) 1)
      have hSb2 : Ses w.heap.size w w7.drew gb evb vb _ _ := hSb.go (pw_below_drewN (Below.refl _ _) 1)
      have hSc2 : Ses w.heap.size w w7.drew gc evc _ _ _ := hSc.go (pw_below_drewN (Below.refl _ _) 1)
      clear HPb hF hSa hSb hSc
      go_upto_region 10 with (fail)
      go_still_tail 5, (by kernel_rfl)
      change wpList _ _ _ _ _ w7.drew
      have HPc := Lib.hid (ses_put hSc2 (low.extract 2 3) (high.extract 2 3) 0 1 (by decide))
      rw [HP1.out] at HPc
      have HSa5 := Lib.hid hSa2
      have HSb5 := Lib.hid hSb2
      have HSc5 := Lib.hid hSc2
      clear hSa2 hSb2 hSc2 HSa3 HSb3 HSc3
      have H1' := H1.out
      have H2' := H2.out
      generalize w7.drew = w8 at *
      go_wp2_with fail
      refine HPc.out.mono ?_
      rintro e w9 ⟨vc, rfl, hSc, -, hF⟩
      have HSa9 := Lib.hid (HSa5.out.other HSc5.out.set HAC.out HSc5.out.hg hF)
      have HSb9 := Lib.hid (HSb5.out.other HSc5.out.set HBC.out HSc5.out.hg hF)
      have HSc9 := Lib.hid hSc
      clear HPc hF hSc HSa5 HSb5 HSc5 H1' H2'
    · rw [put_none E21 low high HPA.out] at HSa9
      have HLn := Lib.hid (len_any _ _ _ _ _ _ HSa9.out.set)
      have HEND := Lib.hid HSa9.out.bel
      clear HSa9 HSb9 HSc9
      go_wp2_with fail
      refine HLn.out.mono ?_
      rintro e _ ⟨rfl, rfl⟩
      go_wp2_with fail
      go_ret
      exact ⟨by first | rfl | simp, HEND.out⟩
    · rw [put_none E21 low high HPA.out] at HSa9
      have HLn := Lib.hid (len_any _ _ _ _ _ _ HSa9.out.set)
      have HEND := Lib.hid HSa9.out.bel
      clear HSa9 HSb9 HSc9
      go_wp2_with fail
      refine HLn.out.mono ?_
      rintro e _ ⟨rfl, rfl⟩
      go_wp2_with fail
      go_ret
      exact ⟨by first | rfl | simp, HEND.out⟩
    · rw [put_none E21 low high HPA.out] at HSa9
      have HLn := Lib.hid (len_any _ _ _ _ _ _ HSa9.out.set)
      have HEND := Lib.hid HSa9.out.bel
      clear HSa9 HSb9 HSc9
      go_wp2_with fail
      refine HLn.out.mono ?_
      rintro e _ ⟨rfl, rfl⟩
      go_wp2_with fail
      go_ret
      exact ⟨by first | rfl | simp, HEND.out⟩
    · rw [put_one E21 low high HPA.out] at HSa9
      rw [put_one E2 _ _ HP2.out] at HSb9
      rw [put_one E1 _ _ HP1.out] at HSc9
      have HFa := Lib.hid (ses_find HSa9.out key (by simp))
      have HFl := Lib.hid (finds_one E21 ⟨low, high, 0, 1⟩ low H1.out (HP.out.lo HPA.out))
      have HFh := Lib.hid (finds_one E21 ⟨low, high, 0, 1⟩ high H2.out (HP.out.hi HPA.out))
      have hfa := (find_one E21 ⟨low, high, 0, 1⟩ key H3.out).1
      have hfb := (find_one E2 ⟨low.extract 0 2, high.extract 0 2, 0, 1⟩ (key.extract 0 2) HZ.out.2.2.2.2.1).1
      have hfc := (find_one E1 ⟨low.extract 2 3, high.extract 2 3, 0, 1⟩ (key.extract 2 3) HZ.out.2.2.2.2.2).1
      have hw := HP.out.hwin
      rw [← hfa, ← hfb, ← hfc] at hw
      have HW := Lib.hid hw
      have HFb := Lib.hid (fun w' hs => ses_find (w := w') (B := w.heap.size) (w0 := w) (g := gb) (ev := evb) (v := vb) (ends := E2) (l := [⟨low.extract 0 2, high.extract 0 2, 0, 1⟩]) hs (key.extract 0 2) (by simp))
      have HFc := Lib.hid (fun w' hs => ses_find (w := w') (B := w.heap.size) (w0 := w) (g := gc) (ev := evc) (v := vc) (ends := E1) (l := [⟨low.extract 2 3, high.extract 2 3, 0, 1⟩]) hs (key.extract 2 3) (by simp))
      clear hfa hfb hfc hw
      generalize find E21 [⟨low, high, 0, 1⟩] key = fa at *
      generalize find E2 [⟨low.extract 0 2, high.extract 0 2, 0, 1⟩] (key.extract 0 2) = fb at *
      generalize find E1 [⟨low.extract 2 3, high.extract 2 3, 0, 1⟩] (key.extract 2 3) = fc at *
      obtain ⟨xa, ba⟩ := fa
      obtain ⟨xb, bb⟩ := fb
      obtain ⟨xc, bc⟩ := fc
      simp only at HW HFa HFb HFc
      have hba := HW.out
      subst hba
      go_wp2_with fail
      refine HFa.out.mono ?_
      rintro e w10 ⟨rfl, hb⟩
      have HSa10 := Lib.hid (HSa9.out.go hb)
      have HSb10 := Lib.hid (HSb9.out.go hb)
      have HSc10 := Lib.hid (HSc9.out.go hb)
      clear hb HFa HSa9 HSb9 HSc9
      have H3' := H3.out
      go_wp2_with fail
      refine (HFb.out _ HSb10.out).mono ?_
      rintro e w11 ⟨rfl, hb⟩
      have HSa11 := Lib.hid (HSa10.out.go hb)
      have HSc11 := Lib.hid (HSc10.out.go hb)
      clear hb HFb HSa10 HSb10 HSc10
      go_wp2_with fail
      refine (HFc.out _ HSc11.out).mono ?_
      rintro e w12 ⟨rfl, hb⟩
      have HSa12 := Lib.hid (HSa11.out.go hb)
      clear hb HFc HSa11 HSc11
      have HQ := Lib.hid (ses_finds HSa12.out low 1 (by simp))
      have hl := HFl.out
      have hh := HFh.out
      rw [hl] at HQ
      clear hl hh
      cases bb <;> cases bc
      all_goals
        go_wp2_with fail
        refine HQ.out.mono ?_
        rintro e w13 ⟨rfl, hb⟩
        have HSa13 := Lib.hid (HSa12.out.go hb)
        have HQ2 := Lib.hid (ses_finds HSa13.out high 1 (by simp))
        rw [HFh.out] at HQ2
        have HEND := HSa13.out.bel
        clear hb HQ
        go_wp2_with fail
        refine HQ2.out.mono ?_
        rintro e w14 ⟨rfl, hb⟩
        have HEND := Lib.hid (HSa13.out.go hb).bel
        clear hb
        go_wp2_with fail
        go_ret
        exact ⟨by first | rfl | simp, HEND.out⟩
  · by_cases h1 : low.size = 3
    · by_cases h2 : high.size = 3
      · have h3' : key.size ≠ 3 := fun h => h3 ⟨h1, h2, h⟩
        have g1 : ((low.size : Int) != 3) = false := by rw [h1]; rfl
        have g2 : ((high.size : Int) != 3) = false := by rw [h2]; rfl
        have g3 : ((key.size : Int) != 3) = true := bne_iff_ne.2 (by omega)
        clear h1 h2 h3 h3'
        go_enter Try.func3, Try.ntmps3
        go_wp2_with fail
        refine (awake_any _).mono ?_
        rintro e w1 ⟨rfl, hb1⟩
        go_wp2_with fail
        go_ret
        exact ⟨rfl, hb1⟩
      · have g1 : ((low.size : Int) != 3) = false := by rw [h1]; rfl
        have g2 : ((high.size : Int) != 3) = true := bne_iff_ne.2 (by omega)
        clear h1 h2 h3
        go_enter Try.func3, Try.ntmps3
        go_wp2_with fail
        refine (awake_any _).mono ?_
        rintro e w1 ⟨rfl, hb1⟩
        go_wp2_with fail
        go_ret
        exact ⟨rfl, hb1⟩
    · have g1 : ((low.size : Int) != 3) = true := bne_iff_ne.2 (by omega)
      clear h1 h3
      go_enter Try.func3, Try.ntmps3
      go_wp2_with fail
      refine (awake_any _).mono ?_
      rintro e w1 ⟨rfl, hb1⟩
      go_wp2_with fail
      go_ret
      exact ⟨rfl, hb1⟩
end Go.Proofs.Ytedbnppdfcljlaa.Base
namespace Go.Proofs.Ytedbnppdfcljlaa.Parts
open Go Go.RowKit Go.Proofs.YtedbnppdfcljlaaW.PrintWords
theorem core (low high key : ByteArray) (w : World) (s1 : low.size ≤ 140737488351232) (s2 : high.size ≤ 140737488351232) (s3 : key.size ≤ 140737488351232) :
    Calls Try.prog 3 #[.string low, .string high, .string key] w fun e w' => e = .returned (.bool true) ∧ Below w.heap.size w w' :=
  Base.parts_any low high key w
end Go.Proofs.Ytedbnppdfcljlaa.Parts
