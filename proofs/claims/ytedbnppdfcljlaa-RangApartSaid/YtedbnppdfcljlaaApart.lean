/- The law that what is done with a copy changes nothing of the set, and the other way about. Conditions: none. -/
import Derived.Test.YtedbnppdfcljlaaLessPure
set_option linter.unusedVariables false
set_option linter.unusedSimpArgs false
namespace Go.Proofs.Ytedbnppdfcljlaa.Base
open Go Go.RowKit Go.Proofs.Ytedbnppdfcljlaa.Mem Go.Proofs.YtedbnppdfcljlaaW.PrintWords Go.Proofs.YtedbnppdfcljlaaW.PrintLast
open Go.Proofs.Ytedbnppdfcljlaa.PRangMore (S42 S51 z42 z51 k42 k51 k42_open k51_open eqA42 rd_T42 rd_T51)
open Go.Proofs.Ytedbnppdfcljlaa
theorem ses_copy {B : Nat} {w0 w : World} {g : Nat} {ev v : Value} {ends : List Nat} {l : List S42} (h : Ses B w0 w g ev v ends l) (hl : l.length < 1000000) :
    Calls Try.prog 21 #[ptr g] w fun e w' => ∃ g' v', e = .returned (ptr g') ∧ Ses w.heap.size w w' g' ev v' ends l ∧ Below w.heap.size w w' := by
  refine (copy_any g ev v ends l w h.set hl).mono ?_
  rintro e w' ⟨g', v', rfl, hs, hg, hv, hb⟩
  exact ⟨g', v', rfl, ⟨hs, hg, hv, hb, Nat.le_refl _, h.ok, h.sized⟩, hb⟩
theorem drop_del {L : List S42} (h : Uniq L) (i : Nat) (hi : i < L.length) : del L[i].f0 L[i].f1 L[i].f2 (L.drop i) = L.drop (i + 1) := by
  have hu : Uniq (L.drop i) := h.sublist (List.drop_sublist i L)
  have hd := List.drop_eq_getElem_cons hi
  have := del_at hu 0 (by rw [List.length_drop]; omega)
  rw [List.take_zero, List.nil_append, List.drop_drop] at this
  have h0 : (L.drop i)[0]'(by rw [List.length_drop]; omega) = L[i] := by simp
  rw [h0] at this
  rw [this]
def ApR (w5 : World) (gc : Nat) (ev : Value) (m : List S51) (t8 : Value) (wr : World) : Prop :=
  ∃ (k : Nat) (vc : Value) (Lc : List S42), t8 = .int .i64 (k : Int) ∧ k ≤ m.length ∧ Ses w5.heap.size w5 wr gc ev vc E21 Lc ∧ Lc.length ≤ 300 + k
def ApQ (w10 : World) (g : Nat) (ev vs : Value) (L : List S42) (t10 : Value) (wr : World) : Prop :=
  ∃ (i : Nat) (v : Value), t10 = .int .i64 (i : Int) ∧ i ≤ L.length ∧ v.ownBlock = vs.ownBlock ∧ SetAt wr g ev v E21 (L.drop i) ∧ Fp (Own g vs) w10 wr
theorem act_at {w : World} {B : Option Addr} {m : List S51} {k : Nat} (h : Kd.C k51 w B m.length m) (hk : k < m.length) : ∃ g o, B = some ⟨g, o, none⟩ := by
  obtain ⟨gB, o, cs, rfl, _⟩ := row_at h (by decide : 0 < k51.sz) hk
  exact ⟨gB, o, rfl⟩
theorem act_cells {w : World} {g o : Nat} {m : List S51} {k : Nat} {a : S51} (h : Kd.C k51 w (some ⟨g, o, none⟩) m.length m) (hk : k < m.length) (ha : m[k] = a) :
    w.cell? ⟨g, o + k * 5 + 1, none⟩ = some (.string a.f1) ∧ w.cell? ⟨g, o + k * 5 + 2, none⟩ = some (.string a.f2) ∧ w.cell? ⟨g, o + k * 5 + 3, none⟩ = some (.int .i64 a.f3) ∧ w.cell? ⟨g, o + k * 5 + 4, none⟩ = some (.int .i64 a.f4) := by
  obtain ⟨gB, o', cs, e, hK, -, hcell⟩ := row_at h (by decide : 0 < k51.sz) hk
  injection e with e
  injection e with e1 e2
  subst e1 e2
  obtain rfl := k51_open hK
  subst ha
  exact ⟨hcell 1 _ rfl, hcell 2 _ rfl, hcell 3 _ rfl, hcell 4 _ rfl⟩
theorem len_drop (L : List S42) (i : Nat) (hi : i < L.length) : decide ((L.drop (i + 1)).length < (L.drop i).length) = true := by
  rw [List.length_drop, List.length_drop]; exact decide_eq_true (by omega)
set_option maxHeartbeats 16000000 in
set_option maxRecDepth 100000 in
theorem apart_any (A : Option Addr) (c : Nat) (l : List S51) (B : Option Addr) (d : Nat) (m : List S51) (w : World) (h : Kd.C k51 w A l.length l) (hc : l.length ≤ c) (hu : ∀ a ∈ l, 0 ≤ a.f0 ∧ a.f0 < 256) (hl : l.length < 1000000000000000)
    (h' : Kd.C k51 w B m.length m) (hd : m.length ≤ d) (hm : m.length < 1000000000000000) :
    Calls Try.prog 7 #[.slice A l.length c, .slice B m.length d] w fun e w' => e = .returned (.bool true) ∧ Below w.heap.size w w' := by
  obtain ⟨r, hr, hL⟩ := long_any A c l w h hc hl
  have HL := Lib.hid hL
  have HM := Lib.hid (fun w' (hb : Below w.heap.size w w') => Kd.C_below h' hb)
  cases r
  · have hl3 := hr rfl
    have HC := Lib.hid (fun w' (hb : Below w.heap.size w w') => Kd.C_below h hb)
    have HU := Lib.hid hu
    clear h hL hr hu h'
    go_enter Try.func7, Try.ntmps7
    go_wp2_with fail
    refine HL.out.mono ?_
    rintro e w1 ⟨rfl, hb1⟩
    obtain ⟨r2, hr2, hL2⟩ := long_any B d m w1 (HM.out _ hb1) hd hm
    have HL2 := Lib.hid hL2
    clear hL2 HL
    cases r2
    · have hm3 := hr2 rfl
      clear hr2
      go_wp2_with fail
      refine HL2.out.mono ?_
      rintro e w2 ⟨rfl, hb2⟩
      have hB2 := hb1.trans (hb2.mono hb1.size)
      clear HL2 hb1 hb2
      go_wp2_with fail
      refine (awake_any _).mono ?_
      rintro e w3 ⟨rfl, hb3⟩
      have hB3 := hB2.trans (hb3.mono hB2.size)
      have HG := Lib.hid (grown_any A c l w3 (HC.out _ hB3) hc HU.out (by omega))
      clear hB2 hb3
      go_wp2_with fail
      refine HG.out.mono ?_
      rintro e w4 ⟨g, ev, v, rfl, hS, -⟩
      clear HG
      have hlen := acts_le l hl3
      have HUQ := Lib.hid (acts_uniq l [] List.Pairwise.nil)
      have hacts : l.foldl act [] = acts l := rfl
      rw [hacts] at HUQ
      generalize acts l = L at *
      have hL7 : L.length < 1000000 := by omega
      have HA := Lib.hid (all_any _ _ _ _ _ _ hS.set hL7)
      go_wp2_with fail
      refine HA.out.mono ?_
      rintro e w5 ⟨va, rfl, hva, hb5⟩
      have HAP := Lib.hid (row_apart hS.set hva)
      have hS5 := hS.go hb5
      clear HA hb5 hS
      have HCP := Lib.hid (ses_copy hS5 hL7)
      go_wp2_with fail
      refine HCP.out.mono ?_
      rintro e w6 ⟨gc, vc, rfl, hSc, -⟩
      have HS5 := Lib.hid hS5
      have HVA := Lib.hid hva
      have hB5 := hB3.trans (hS5.bel.mono hB3.size)
      have HR : ApR w5 gc ev m (.int .i64 0) w6 := ⟨0, vc, L, rfl, Nat.zero_le _, hSc, by omega⟩
      have HR := Lib.hid HR
      clear HCP hSc hS5 hva
      go_wp2_with fail
      go_loopw [8] (fun t8 wr => ApR w5 gc ev m t8 wr) (fun t8 _ => m.length - (intOf t8).toNat)
      case atStart => exact HR.out
      case round =>
        clear HR
        obtain ⟨k, vc', Lc, rfl, hk, hS, hlc⟩ := hrel
        by_cases hlt : k < m.length
        · have k0 : (0 : Int) ≤ (k : Int) := by omega
          have k1 : (k : Int) < (m.length : Int) := by omega
          have HE := Lib.hid (fun wx (hb : Below w5.heap.size w5 wx) => HM.out _ (hB5.trans (hb.mono hB5.size)))
          obtain ⟨gB, o, rfl⟩ := act_at (HE.out _ hS.bel) hlt
          obtain ⟨a, ha⟩ : ∃ a, m[k] = a := ⟨_, rfl⟩
          have HAA := Lib.hid ha
          clear ha
          have hS2 : Ses w5.heap.size w5 wr.drew gc ev vc' E21 Lc := hS.go (pw_below_drewN (Below.refl _ _) 1)
          obtain ⟨e1, e2, e3, e4⟩ := act_cells (HE.out _ hS2.bel) hlt HAA.out
          have n1 : Lc.length < 900000 := by omega
          clear hS
          go_upto_region 11 with (fail)
          go_still_tail 21, (by kernel_rfl)
          change wpList _ _ _ _ _ wr.drew
          have HP := Lib.hid (ses_put hS2 a.f1 a.f2 a.f3 a.f4 n1)
          have hpl := put_len E21 a.f1 a.f2 a.f3 a.f4 Lc
          generalize wr.drew = w7 at *
          clear hS2 n1
          go_wp2_with fail
          refine HP.out.mono ?_
          rintro e w8 ⟨v8, rfl, hS8, -, -⟩
          generalize (if putOK E21 a.f1 a.f2 = true then (0 : Int) else 3) = rr
          clear HP e1 e2 e3 e4
          generalize put E21 a.f1 a.f2 a.f3 a.f4 Lc = Lc2 at *
          have hS9 : Ses w5.heap.size w5 w8.drew gc ev v8 E21 Lc2 := hS8.go (pw_below_drewN (Below.refl _ _) 1)
          obtain ⟨e1, e2, e3, e4⟩ := act_cells (HE.out _ hS9.bel) hlt HAA.out
          have n1 : Lc2.length < 900000 := by omega
          clear hS8
          go_upto_region 12 with (fail)
          go_still_tail 16, (by kernel_rfl)
          change wpList _ _ _ _ _ w8.drew
          have HD := Lib.hid (ses_del hS9 a.f2 a.f2 a.f3 n1)
          have hdl := del_len a.f2 a.f2 a.f3 Lc2
          generalize w8.drew = w9 at *
          clear hS9 n1
          go_wp2_with fail
          refine HD.out.mono ?_
          rintro e w10 ⟨v10, rfl, hS10, -, -⟩
          clear HD e1 e2 e3 e4
          go_wp2_with fail
          refine ⟨⟨k + 1, v10, _, by go_num, hlt, hS10, by omega⟩, ?_⟩
          simp [intOf]
          omega
        · have k1 : ¬ (k : Int) < (m.length : Int) := by omega
          have n1 : Lc.length < 1000000 := by omega
          have HV0 := Lib.hid (own_go HVA.out hS.bel)
          have hs0 := (HS5.out.set).go hS.bel
          have HB6 := Lib.hid (hB5.trans (hS.bel.mono hB5.size))
          have HA := Lib.hid (all_any _ _ _ _ _ _ hS.set n1)
          go_wp2_with fail
          refine HA.out.mono ?_
          rintro e w7 ⟨vk, rfl, hvk, hb7⟩
          have HVK := Lib.hid (row_apart (v := v) (ev := ev) ((HS5.out.set).go hS.bel) hvk)
          replace hs0 := hs0.go hb7
          replace hS := hS.go hb7
          have HV1 := Lib.hid (own_go HV0.out hb7)
          clear HA HV0 HB6
          have HA := Lib.hid (all_any _ _ _ _ _ _ hs0 hL7)
          go_wp2_with fail
          refine HA.out.mono ?_
          rintro e w8 ⟨vb, rfl, hvb, hb8⟩
          replace hs0 := hs0.go hb8
          replace hS := hS.go hb8
          replace hvk := own_go hvk hb8
          have hva := own_go HV1.out hb8
          clear HA HV1 hb7
          obtain ⟨Aa, ca, rfl, hca⟩ := own_form hva
          obtain ⟨Ab, cb, rfl, hcb⟩ := own_form hvb
          have HQ := Lib.hid (same_self Ab Aa cb ca L w8 (Rd.of_own hvb) (Rd.of_own hva) hL7)
          have X0 := Lib.hid hs0
          have X1 := Lib.hid hS
          have X2 := Lib.hid hvk
          have X3 := Lib.hid hva
          clear hs0 hS hvk hva hvb hb8
          go_wp2_with fail
          refine HQ.out.mono ?_
          rintro e w9 ⟨rfl, n, rfl⟩
          have hbd : Below w8.heap.size w8 (w8.drewN n) := pw_below_drewN (Below.refl _ _) n
          have hs0 := X0.out.go hbd
          have hS := X1.out.go hbd
          have hvk := own_go X2.out hbd
          have hva := own_go X3.out hbd
          clear hbd X0 X1 X2 X3 HQ
          generalize w8.drewN n = w9 at *
          have hGC := Lib.hid (fun w' (hf : Fp (Own g v) w9 w') => hS.set.fp hf (fun ho => by
              rcases ho with ho | ho
              · have := hS.hg; have := HS5.out.set.lt; omega
              · have := own_lt HS5.out.set.rows ho; have := hS.hg; omega) (fun k' e ho => by
              rcases ho with ho | ho
              · exact own_type hs0.ends hs0.blk (by decide) (ho ▸ e)
              · exact own_types hs0.ends hs0.rows (by decide) ho e) (fun k' e ho => by
              have := hS.hv k' e
              rcases ho with ho | ho
              · have := HS5.out.set.lt; omega
              · have := own_lt HS5.out.set.rows ho; omega))
          have hKP := Lib.hid (fun w' (hf : Fp (Own g v) w9 w') => own_fp hvk hf HVK.out)
          have hWA := Lib.hid (fun w' (hf : Fp (Own g v) w9 w') => own_fp hva hf HAP.out)
          have HEND := Lib.hid (fun w' (hf : Fp (Own g v) w9 w') => (hB5.trans (hS.bel.mono hB5.size)).trans (hf.below (B := w.heap.size) (fun i e => by
              have hs := hB3.size
              rcases e with e | e
              · have := HS5.out.hg; omega
              · have := HS5.out.hv i e; omega) (by have := hB5.size; have := hS.bel.size; omega)))
          have HQ : ApQ w9 g ev v L (.int .i64 0) w9 := ⟨0, v, rfl, Nat.zero_le _, rfl, by simpa using hs0, Fp.refl _ _⟩
          have HQ := Lib.hid HQ
          have hlcl : Lc.length < 1000000 := n1
          clear hs0 hS hvk hva n1 hlc k1 hk hlt
          go_wp2_with fail
          go_loopw [10] (fun t10 wr => ApQ w9 g ev v L t10 wr) (fun t10 _ => L.length - (intOf t10).toNat)
          case atStart => exact HQ.out
          case round =>
            clear HQ
            obtain ⟨i, v1, rfl, hi, hv1, hs1, hf1⟩ := hrel
            by_cases hlt : i < L.length
            · have k0 : (0 : Int) ≤ (i : Int) := by omega
              have k1 : (i : Int) < (L.length : Int) := by omega
              have hs2 : SetAt wr.drew g ev v1 E21 (L.drop i) := hs1.drewN 1
              have hf2 : Fp (Own g v) w9 wr.drew := hf1.drew
              obtain ⟨ga, hga, -, -, -, -, -, -⟩ := own42s (hWA.out _ hf2) i hlt
              subst hga
              obtain ⟨x, hx⟩ : ∃ x, L[i] = x := ⟨_, rfl⟩
              obtain ⟨a0, a1, a2, -⟩ := own42g (hWA.out _ hf2) i rfl hlt
              have hdd := drop_del HUQ.out i hlt
              have hdl := len_drop L i hlt
              rw [hx] at a0 a1 a2 hdd
              have HD := Lib.hid (del_any g ev v1 E21 (L.drop i) x.f0 x.f1 x.f2 wr.drew hs2 (by rw [List.length_drop]; omega))
              rw [hdd, hdl] at HD
              have HV1 := Lib.hid hv1
              clear hx hdd hdl hs1 hs2 hf1 hv1
              go_upto_region 19 with (fail)
              go_still_tail 16, (by kernel_rfl)
              change wpList _ _ _ _ _ wr.drew
              generalize wr.drew = w7 at *
              go_wp2_with fail
              refine HD.out.mono ?_
              rintro e w8 ⟨v8, rfl, hv8, hs8, hf8⟩
              clear HD a0 a1 a2
              go_wp2_with fail
              refine ⟨⟨i + 1, v8, by go_num, hlt, hv8.trans HV1.out, hs8, hf2.next hf8 (fun k' e _ => by
                rcases e with e | e
                · exact .inl e
                · exact .inr (HV1.out ▸ e))⟩, ?_⟩
              simp [intOf]
              omega
            · have k1 : ¬ (i : Int) < (L.length : Int) := by omega
              have hnil : L.drop i = [] := List.drop_eq_nil_of_le (by omega)
              rw [hnil] at hs1
              have HLn := Lib.hid (len_any _ _ _ _ _ _ hs1)
              have HAc := Lib.hid (all_any _ _ _ _ _ _ (hGC.out _ hf1) hlcl)
              have HK := Lib.hid (hKP.out _ hf1)
              have HE := Lib.hid (HEND.out _ hf1)
              clear hnil hs1 hf1 hv1
              go_wp2_with fail
              refine HLn.out.mono ?_
              rintro e _ ⟨rfl, rfl⟩
              go_wp2_with fail
              refine HAc.out.mono ?_
              rintro e w7 ⟨vc9, rfl, hvc9, hb9⟩
              have hk9 := own_go HK.out hb9
              have HE9 := Lib.hid (HE.out.trans (hb9.mono HE.out.size))
              obtain ⟨Ac, cc, rfl, hcc⟩ := own_form hvc9
              obtain ⟨Ak, ck, rfl, hck⟩ := own_form hk9
              have HS2 := Lib.hid (same_self Ac Ak cc ck Lc w7 (Rd.of_own hvc9) (Rd.of_own hk9) hlcl)
              clear hvc9 hk9 hb9 HAc HLn HK HE
              go_wp2_with fail
              refine HS2.out.mono ?_
              rintro e w8 ⟨rfl, n, rfl⟩
              go_wp2_with fail
              go_ret
              exact ⟨by first | rfl | simp, pw_below_drewN HE9.out n⟩
    · clear hr2
      go_wp2_with fail
      refine HL2.out.mono ?_
      rintro e w2 ⟨rfl, hb2⟩
      have hB2 := hb1.trans (hb2.mono hb1.size)
      clear HL2 hb1 hb2
      go_wp2_with fail
      refine (awake_any _).mono ?_
      rintro e w3 ⟨rfl, hb3⟩
      go_wp2_with fail
      go_ret
      exact ⟨rfl, hB2.trans (hb3.mono hB2.size)⟩
  · clear h hr hL h'
    go_enter Try.func7, Try.ntmps7
    go_wp2_with fail
    refine HL.out.mono ?_
    rintro e w1 ⟨rfl, hb1⟩
    go_wp2_with fail
    refine (awake_any _).mono ?_
    rintro e w2 ⟨rfl, hb2⟩
    go_wp2_with fail
    go_ret
    exact ⟨rfl, hb1.trans (hb2.mono hb1.size)⟩
end Go.Proofs.Ytedbnppdfcljlaa.Base
namespace Go.Proofs.Ytedbnppdfcljlaa.Apart
open Go Go.RowKit Go.Proofs.YtedbnppdfcljlaaW.PrintWords Go.Proofs.Ytedbnppdfcljlaa.PRangMore
theorem core (A : Option Addr) (c : Nat) (l : List S51) (B : Option Addr) (d : Nat) (m : List S51) (w : World) (hc : l.length ≤ c) (hm : l.length * 56 ≤ 140737488351232) (hz : ∀ x ∈ l, 0 ≤ x.f0 ∧ x.f0 < 256) (hl : Kd.C k51 w A l.length l)
    (hc' : m.length ≤ d) (hm' : m.length * 56 ≤ 140737488351232) (hz' : ∀ x ∈ m, 0 ≤ x.f0 ∧ x.f0 < 256) (hl' : Kd.C k51 w B m.length m) :
    Calls Try.prog 7 #[.slice A l.length c, .slice B m.length d] w fun e w' => e = .returned (.bool true) ∧ Below w.heap.size w w' :=
  Base.apart_any A c l B d m w hl hc hz (by omega) hl' hc' (by omega)
end Go.Proofs.Ytedbnppdfcljlaa.Apart
