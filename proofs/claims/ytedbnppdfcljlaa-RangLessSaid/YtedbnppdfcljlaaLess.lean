/- The law that a range put and deleted again leaves all as it was, and one that is not the best one, taken away, what is found. Conditions: none. -/
import Derived.Test.YtedbnppdfcljlaaLessPure
set_option linter.unusedVariables false
set_option linter.unusedSimpArgs false
namespace Go.Proofs.Ytedbnppdfcljlaa.Base
open Go Go.RowKit Go.Proofs.Ytedbnppdfcljlaa.Mem Go.Proofs.YtedbnppdfcljlaaW.PrintWords Go.Proofs.YtedbnppdfcljlaaW.PrintLast
open Go.Proofs.Ytedbnppdfcljlaa.PRangMore (S42 S51 z42 z51 k42 k51 k42_open k51_open eqA42 rd_T42 rd_T51)
open Go.Proofs.Ytedbnppdfcljlaa
theorem rem_fact (cut : Int) (n : Nat) (h0 : 0 < n) (hn : n < 1000000000) : ∃ k : Nat, k < n ∧ IntKind.u64.wrap (n : Int) = (n : Int) ∧ (IntKind.u64.wrap cut).tmod (n : Int) = (k : Int) ∧ wrap64 (k : Int) = (k : Int) := by
  have hw : ∀ x, IntKind.u64.wrap x = x % 18446744073709551616 := fun x => by simp [IntKind.wrap, IntKind.signed, IntKind.bits]
  have h1 : IntKind.u64.wrap (n : Int) = (n : Int) := by rw [hw]; omega
  obtain ⟨u, hu⟩ : ∃ u : Nat, IntKind.u64.wrap cut = (u : Int) := ⟨(cut % 18446744073709551616).toNat, by rw [hw]; omega⟩
  have hlt := Nat.mod_lt u h0
  refine ⟨u % n, hlt, h1, by rw [hu]; rfl, ?_⟩
  unfold wrap64
  omega
/-- What a set's own memory is apart from stays apart from it. -/
theorem apart_next {w : World} {N n g : Nat} {v v' va : Value} {xs : List Value} (hva : w.ownsRow N 42 4 va n xs) (h : ∀ k, va.ownBlock = some k → ¬ Own g v k) (hv : Vok w v v') : ∀ k, va.ownBlock = some k → ¬ Own g v' k := by
  intro k e ho
  rcases ho with ho | ho
  · exact h k e (.inl ho)
  · rcases hv with hv | hv
    · exact h k e (.inr (hv ▸ ho))
    · have := hv k ho
      have := own_lt hva e
      omega
theorem cut_len (L : List S42) (k : Nat) (h : k < L.length) (hl : L.length < 1000000) : (L.take k ++ L.drop (k + 1)).length < 900000 + 100000 ∧ decide ((L.take k ++ L.drop (k + 1)).length < L.length) = true ∧ IntKind.i64.wrap ((L.length : Int) - 1) = (((L.take k ++ L.drop (k + 1)).length : Nat) : Int) := by
  have e : (L.take k ++ L.drop (k + 1)).length = L.length - 1 := by rw [List.length_append, List.length_take, List.length_drop]; omega
  refine ⟨by omega, decide_eq_true (by omega), ?_⟩
  rw [e, i64_w]
  unfold wrap64
  omega
theorem cut_len2 (L : List S42) (k : Nat) (hl : L.length < 900000) : (L.take k ++ L.drop (k + 1)).length < 900000 := by
  rw [List.length_append, List.length_take, List.length_drop]; omega
theorem oi_ne (k : Nat) (o : Option Nat) (h : o ≠ some k) : ((k : Int) == oi o) = false := by
  cases o with
  | none => exact beq_eq_false_iff_ne.2 (by show (k : Int) ≠ -1; omega)
  | some j => exact beq_eq_false_iff_ne.2 (by show (k : Int) ≠ (j : Int); intro e; exact h (by rw [Int.ofNat.inj e]))
theorem del_new (low high : ByteArray) (prio v : Int) (L : List S42) (h : del low high prio L = L) : del low high prio (L ++ [⟨low, high, prio, v⟩]) = L := by
  unfold del at h ⊢
  rw [List.filter_append, h]
  simp [isx]
set_option maxHeartbeats 16000000 in
set_option maxRecDepth 100000 in
theorem less_any (A : Option Addr) (c : Nat) (l : List S51) (low high : ByteArray) (prio which : Int) (key : ByteArray) (w : World) (h : Kd.C k51 w A l.length l) (hc : l.length ≤ c) (hu : ∀ a ∈ l, 0 ≤ a.f0 ∧ a.f0 < 256) (hl : l.length < 1000000000000000)
    (s1 : low.size ≤ 140737488351232) (s2 : high.size ≤ 140737488351232) (s3 : key.size ≤ 140737488351232) :
    Calls Try.prog 5 #[.slice A l.length c, .string low, .string high, .int .i64 prio, .int .i64 which, .string key] w fun e w' => e = .returned (.bool true) ∧ Below w.heap.size w w' := by
  obtain ⟨r, hr, hL⟩ := long_any A c l w h hc hl
  have HL := Lib.hid hL
  have z1 : wrap64 ((low.size : Int) + (high.size : Int)) = ((low.size + high.size : Nat) : Int) := by rw [show ((low.size : Int) + (high.size : Int)) = ((low.size + high.size : Nat) : Int) from by omega, w64 _ (by omega)]
  cases r
  · have hl3 := hr rfl
    by_cases hz : 1000 < low.size + high.size + key.size
    · clear h hL hr
      go_enter Try.func5, Try.ntmps5
      go_wp2_with fail
      refine HL.out.mono ?_
      rintro e w1 ⟨rfl, hb1⟩
      go_wp2_with fail
      refine (awake_any _).mono ?_
      rintro e w2 ⟨rfl, hb2⟩
      go_wp2_with fail
      go_ret
      exact ⟨rfl, hb1.trans (hb2.mono hb1.size)⟩
    · have hC := Lib.hid (fun w' (hb : Below w.heap.size w w') => Kd.C_below h hb)
      have HU := Lib.hid hu
      clear h hL hr hu
      go_enter Try.func5, Try.ntmps5
      go_wp2_with fail
      refine HL.out.mono ?_
      rintro e w1 ⟨rfl, hb1⟩
      go_wp2_with fail
      refine (awake_any _).mono ?_
      rintro e w2 ⟨rfl, hb2⟩
      have hB2 := hb1.trans (hb2.mono hb1.size)
      have HG := Lib.hid (grown_any A c l w2 (hC.out _ hB2) hc HU.out (by omega))
      clear hb1 hb2 HL
      go_wp2_with fail
      refine HG.out.mono ?_
      rintro e w3 ⟨g, ev, v, rfl, hS, -⟩
      clear HG
      have hlen := acts_le l hl3
      have HUQ := Lib.hid (del_uniq low high prio (acts_uniq l [] List.Pairwise.nil))
      have hacts : l.foldl act [] = acts l := rfl
      rw [hacts] at HUQ
      generalize acts l = L0 at *
      have HD := Lib.hid (ses_del hS low high prio (by omega))
      clear hS
      go_wp2_with fail
      refine HD.out.mono ?_
      rintro e w4 ⟨v4, rfl, hS, -, -⟩
      have HPD := Lib.hid (fun hp => put_del low high prio 5 L0 hp)
      have HDD := Lib.hid (del_del low high prio L0)
      have hl1 := del_len low high prio L0
      clear HD
      generalize del low high prio L0 = L1 at *
      have hL9 : L1.length < 900000 := by omega
      have hL8 : (L1 ++ [(⟨low, high, prio, 5⟩ : S42)]).length < 900000 := by simp; omega
      have hL7 : L1.length < 1000000 := by omega
      have hL6 : L1.length < 1000000000 := by omega
      have HBL := Lib.hid (bst_lt L1 key L1 0 none (by simp) (fun k e => by cases e))
      have HA := Lib.hid (all_any _ _ _ _ _ _ hS.set hL7)
      go_wp2_with fail
      refine HA.out.mono ?_
      rintro e w5 ⟨va, rfl, hva, hb5⟩
      have hap := Lib.hid (row_apart hS.set hva)
      have HS5 := Lib.hid (hS.go hb5)
      clear HA hb5 hS
      cases hp : putOK E21 low high
      case' false =>
        have HP := Lib.hid (ses_no HS5.out low high prio 5 hL9 hp)
        clear hp
        go_wp2_with fail
        refine HP.out.mono ?_
        rintro e w7 ⟨rfl, hS, hb7⟩
        have hV := own_go hva hb7
        have HAP := Lib.hid hap.out
        clear HP hb7 hva
      case' true =>
        have HP := Lib.hid (ses_yes HS5.out low high prio 5 hL9 hp)
        have HPE := Lib.hid (HPD.out hp)
        clear hp
        go_wp2_with fail
        refine HP.out.mono ?_
        rintro e w6 ⟨v6, rfl, hS6, hvk, hF6⟩
        rw [HPE.out] at hS6
        have hV6 := own_fp hva hF6 (fun k e => (hap.out k e))
        have hap6 := Lib.hid (apart_next hva hap.out hvk)
        have HD := Lib.hid (ses_del hS6 low high prio hL8)
        rw [del_new low high prio 5 L1 HDD.out] at HD
        have hdl : decide (L1.length < (L1 ++ [(⟨low, high, prio, 5⟩ : S42)]).length) = true := by simp
        rw [hdl] at HD
        clear HP hF6 hvk hS6 hdl hva
        go_wp2_with fail
        refine HD.out.mono ?_
        rintro e w7 ⟨v7, rfl, hS, hvk7, hF7⟩
        have hV := own_fp hV6 hF7 (fun k e => (hap6.out k e))
        have HAP := Lib.hid (apart_next hV6 hap6.out (.inl hvk7))
        clear HD hF7 hV6 hap6 hvk7
      all_goals
        have HA := Lib.hid (all_any _ _ _ _ _ _ hS.set hL7)
        go_wp2_with fail
        refine HA.out.mono ?_
        rintro e w9 ⟨vb, rfl, hvb, hb9⟩
        replace hV := own_go hV hb9
        replace hS := hS.go hb9
        clear HA hb9
        obtain ⟨Aa, ca, rfl, hca⟩ := own_form hV
        obtain ⟨Ab, cb, rfl, hcb⟩ := own_form hvb
        have HQ := Lib.hid (same_self Ab Aa cb ca L1 w9 (Rd.of_own hvb) (Rd.of_own hV) hL7)
        have HS := Lib.hid hS
        have HV := Lib.hid hV
        clear hV hvb hS
        go_wp2_with fail
        refine HQ.out.mono ?_
        rintro e w10 ⟨rfl, n, rfl⟩
        have hbd : Below w9.heap.size w9 (w9.drewN n) := pw_below_drewN (Below.refl _ _) n
        have hS := HS.out.go hbd
        have hV := own_go HV.out hbd
        clear hbd HS HV HQ
        generalize w9.drewN n = w10 at *
        by_cases hn : L1.length = 0
        · have HEND := Lib.hid (hB2.trans (hS.bel.mono hB2.size))
          have g1 : ((L1.length : Int) == 0) = true := by rw [hn]; rfl
          clear hn hS hV
          go_wp2_with fail
          go_ret
          exact ⟨rfl, HEND.out⟩
        · have g1 : ((L1.length : Int) == 0) = false := beq_eq_false_iff_ne.2 (fun e => hn (Int.ofNat.inj e))
          obtain ⟨k, hk, r1, r2, r3⟩ := rem_fact which L1.length (Nat.pos_of_ne_zero hn) hL6
          have HF := Lib.hid (ses_find hS key hL9)
          obtain ⟨fp, hfp⟩ : ∃ fp, find E21 L1 key = fp := ⟨_, rfl⟩
          rw [hfp] at HF
          have HFP := Lib.hid hfp
          clear hfp
          go_wp2_with fail
          refine HF.out.mono ?_
          rintro e w11 ⟨rfl, hb⟩
          replace hS := hS.go hb
          replace hV := own_go hV hb
          clear HF hb
          have u5 : (L1.length : Int) ≠ 0 := fun e => hn (Int.ofNat.inj e)
          have k0 : (0 : Int) ≤ (k : Int) := Int.natCast_nonneg k
          have k1 : (k : Int) < (L1.length : Int) := Int.ofNat_lt.2 hk
          have HN := Lib.hid hn
          have HR3 := Lib.hid r3
          have hkl := Lib.hid hk
          have hS1 : Ses w2.heap.size w2 w11.drew g ev _ E21 L1 := hS.go (pw_below_drewN (Below.refl _ _) 1)
          have hV1 := hV.drew
          obtain ⟨ga, rfl, -, -, a0, a1, a2, -⟩ := own42s hV k hk
          have hda := del_at HUQ.out k hk
          obtain ⟨x, hx⟩ : ∃ x, L1[k]'hk = x := ⟨_, rfl⟩
          rw [hx] at a0 a1 a2 hda
          have HDX := Lib.hid (ses_del hS1 x.f0 x.f1 x.f2 hL9)
          rw [hda] at HDX
          have HSX := Lib.hid (show ∀ w' : World, w'.ownsRow w4.heap.size 42 4 (.slice (some ⟨ga, 0, none⟩) L1.length ca) L1.length (cs42 L1) → w'.cell? ⟨ga, k * 4, none⟩ = some (.string x.f0) ∧ w'.cell? ⟨ga, k * 4 + 1, none⟩ = some (.string x.f1) ∧ w'.cell? ⟨ga, k * 4 + 2, none⟩ = some (.int .i64 x.f2) from fun w' hv => by
            obtain ⟨b0, b1, b2, -⟩ := own42g hv k rfl hk
            rw [hx] at b0 b1 b2
            exact ⟨b0, b1, b2⟩)
          clear hx hda
          obtain ⟨-, dl, dw⟩ := cut_len L1 k hk hL7
          have hc2 := Lib.hid (cut_len2 L1 k hL9)
          have HFL := Lib.hid (fun hne => find_less L1 key k hk hne)
          rw [dl] at HDX
          have hV1 := Lib.hid hV1
          have HBT := Lib.hid (fun w' hv => bst_any 0 (.slice (some ⟨ga, 0, none⟩) L1.length ca) L1 key w' hv (fun x hx => HS5.out.sized x hx) hL7)
          have HFP2 := HFP
          generalize L1.take k ++ L1.drop (k + 1) = L2 at *
          clear hn r3 hL9 hL8 hL7 hL6 hl1 hlen hl3 hS1 dl hk hS
          go_wp2_with fail
          simp only [HR3.out]
          clear r1 r2
          go_region_held3 (fun w' => w'.cell? ⟨ga, k * 4, none⟩ = some (.string x.f0) ∧ w'.cell? ⟨ga, k * 4 + 1, none⟩ = some (.string x.f1) ∧ w'.cell? ⟨ga, k * 4 + 2, none⟩ = some (.int .i64 x.f2)) (go_keep)
            (first
              | (go_at_call 16; ((with_reducible refine HDX.out.mono ?_); rintro e w12 ⟨v12, rfl, hS12, -, hF12⟩; have hV12 := own_fp hV1.out hF12 (fun k e => (HAP.out k e)); obtain ⟨b0, b1, b2⟩ := HSX.out _ hV12))
              | (go_at_call 11; ((with_reducible refine (len_any _ _ _ _ _ _ hS12.set).mono ?_); rintro e _ ⟨rfl, rfl⟩)))
          all_goals
            have HV12 := Lib.hid (own_mono hV12 (Nat.zero_le _))
            have HS12 := Lib.hid hS12
            have HF2 := Lib.hid (ses_find hS12 key hc2.out)
            clear hV12 hS12 b0 b1 b2 a0 a1 a2 dw hF12
            by_cases ho : bst L1 key 0 none L1 = some k
            · rw [ho] at HBT
              have hoi : oi (some k) = (k : Int) := rfl
              rw [hoi] at HBT
              clear ho hoi HFL
              go_wp2_with fail
              refine HF2.out.mono ?_
              rintro e w13 ⟨rfl, hb⟩
              have HS := Lib.hid (HS12.out.go hb)
              have HB2 := Lib.hid (HBT.out _ (own_go HV12.out hb))
              clear hb HF2 HBT
              go_wp2_with fail
              refine HB2.out.mono ?_
              rintro e w14 ⟨rfl, hb⟩
              have HEND := Lib.hid (hB2.trans ((HS.out.go hb).bel.mono hB2.size))
              clear hb
              go_wp2_with fail
              go_ret
              exact ⟨by first | rfl | simp, HEND.out⟩
            · rw [HFL.out ho, HFP.out] at HF2
              have hoi := oi_ne k _ ho
              generalize oi (bst L1 key 0 none L1) = q at *
              clear ho HFL
              go_wp2_with fail
              refine HF2.out.mono ?_
              rintro e w13 ⟨rfl, hb⟩
              have HS := Lib.hid (HS12.out.go hb)
              have HB2 := Lib.hid (HBT.out _ (own_go HV12.out hb))
              clear hb HF2 HBT
              go_wp2_with fail
              refine HB2.out.mono ?_
              rintro e w14 ⟨rfl, hb⟩
              have HEND := Lib.hid (hB2.trans ((HS.out.go hb).bel.mono hB2.size))
              clear hb
              go_wp2_with fail
              go_ret
              exact ⟨by first | rfl | simp, HEND.out⟩
  · clear h hr hL
    go_enter Try.func5, Try.ntmps5
    go_wp2_with fail
    refine HL.out.mono ?_
    rintro e w1 ⟨rfl, hb1⟩
    go_wp2_with fail
    refine (awake_any _).mono ?_
    rintro e w2 ⟨rfl, hb2⟩
    go_wp2_with fail
    go_ret
    exact ⟨rfl, hb1.trans (hb2.mono hb1.size)⟩
end Go.Proofs.Ytedbnppdfcljlaa.Base
namespace Go.Proofs.Ytedbnppdfcljlaa.Less
open Go Go.RowKit Go.Proofs.YtedbnppdfcljlaaW.PrintWords Go.Proofs.Ytedbnppdfcljlaa.PRangMore
theorem core (A : Option Addr) (c : Nat) (l : List S51) (low high : ByteArray) (prio which : Int) (key : ByteArray) (w : World) (hc : l.length ≤ c) (hm : l.length * 56 ≤ 140737488351232) (hz : ∀ x ∈ l, 0 ≤ x.f0 ∧ x.f0 < 256) (hl : Kd.C k51 w A l.length l)
    (s1 : low.size ≤ 140737488351232) (s2 : high.size ≤ 140737488351232) (hp : (Lit.int .i64 prio).wf = true) (hq : (Lit.int .i64 which).wf = true) (s3 : key.size ≤ 140737488351232) :
    Calls Try.prog 5 #[.slice A l.length c, .string low, .string high, .int .i64 prio, .int .i64 which, .string key] w fun e w' => e = .returned (.bool true) ∧ Below w.heap.size w w' :=
  Base.less_any A c l low high prio which key w hl hc hz (by omega) s1 s2 s3
end Go.Proofs.Ytedbnppdfcljlaa.Less
