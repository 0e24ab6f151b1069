/- Save and Bump change one register, Count one counter: the law. Conditions: as each lemma and contract says. -/
import Derived.Test.YtdobpieiobikpaaAwake
set_option linter.unusedVariables false
set_option linter.unusedSimpArgs false
namespace Go.Proofs.Ytdobpieiobikpaa.Base
open Go Go.RowKit Go.Proofs.Ytdobpieiobikpaa.Mem Go.Proofs.YtdobpieiobikpaaW.PrintWords Go.Proofs.YtdobpieiobikpaaW.PrintLast
/-- Two rows, two counters of nought. -/
structure TwoS (S : St) (id oth : Int) (n m : Nat) : Prop where
  ne : oth ≠ id
  r : lookE S.r id = some (List.replicate n 0)
  s : lookE S.r oth = some (List.replicate m 0)
  c : lookE S.c id = some (0, 0)
  d : lookE S.c oth = some (0, 0)
theorem made_two (x y : Nat) (hx : 1 ≤ x ∧ x ≤ 60) (hy : 1 ≤ y ∧ y ≤ 60) : TwoS (madeS (x : Int) (y : Int)) 1 2 x y ∧ TwoS (madeS (x : Int) (y : Int)) 2 1 y x := by
  have e : madeS (x : Int) (y : Int) = ⟨[(1, (0, 0)), (2, (0, 0))], [(1, List.replicate x 0), (2, List.replicate y 0)]⟩ := by
    have h1 : ¬ ((x : Int) < 1 ∨ 1024 < (x : Int)) := by omega
    have h2 : ¬ ((y : Int) < 1 ∨ 1024 < (y : Int)) := by omega
    unfold madeS
    rw [show (putC (putC St.nil 1).2 2).2 = ⟨[(1, (0, 0)), (2, (0, 0))], []⟩ from rfl]
    have e1 : putR ⟨[(1, (0, 0)), (2, (0, 0))], []⟩ 1 (x : Int) = (0, ⟨[(1, (0, 0)), (2, (0, 0))], [(1, List.replicate x 0)]⟩) := by
      show (if (x : Int) < 1 ∨ 1024 < (x : Int) then _ else _) = _
      rw [if_neg h1]
      rfl
    rw [e1]
    have e2 : putR ⟨[(1, (0, 0)), (2, (0, 0))], [(1, List.replicate x 0)]⟩ 2 (y : Int) = (0, ⟨[(1, (0, 0)), (2, (0, 0))], [(1, List.replicate x 0), (2, List.replicate y 0)]⟩) := by
      show (if (y : Int) < 1 ∨ 1024 < (y : Int) then _ else _) = _
      rw [if_neg h2]
      rfl
    rw [e2]
  rw [e]
  exact ⟨⟨by decide, rfl, rfl, rfl, rfl⟩, ⟨by decide, rfl, rfl, rfl, rfl⟩⟩
def aloneL (n k : Nat) (z : Int) : List Int := (List.replicate n 0).set k z
theorem aloneL_at (n k : Nat) (z : Int) (i : Nat) (hi : i < (aloneL n k z).length) : (aloneL n k z)[i] = if i = k then z else 0 := by
  have hi2 : i < ((List.replicate n (0 : Int)).set k z).length := hi
  show ((List.replicate n (0 : Int)).set k z)[i]'hi2 = _
  rw [List.getElem_set]
  by_cases h : k = i
  · rw [if_pos h, if_pos h.symm]
  · rw [if_neg h, if_neg (fun e => h e.symm), List.getElem_replicate]
theorem aloneL_len (n k : Nat) (z : Int) : (aloneL n k z).length = n := by simp [aloneL]
/-- What is done to them. -/
theorem alone_pure {S : St} {id oth : Int} {n m k : Nat} {v x : Int} (h : TwoS S id oth n m) (hk : k < n) :
    ∃ S1 S2 S3, save S id (k : Int) v = (0, S1) ∧ bump S1 id (k : Int) x = (0, S2) ∧ cnt S2 id 5 = (0, S3) ∧ save S3 id ((k + n : Nat) : Int) v = (1, S3) ∧
      rowR S3 id 0 (n : Int) = (aloneL n k (u64w (v + x)), 0) ∧ rowR S3 oth 0 (m : Int) = (List.replicate m 0, 0) ∧ getC S3 oth = (0, 0, 0) ∧ load S3 id (k : Int) = (u64w (v + x), 0) := by
  have hlen : ((List.replicate n (0 : Int)).set k v).length = n := by simp
  have hset : ((List.replicate n (0 : Int)).set k v).set k (u64w (v + x)) = aloneL n k (u64w (v + x)) := by unfold aloneL; rw [List.set_set]
  have hkI : (k : Int) < (n : Int) := by omega
  let S1 : St := { S with r := putE S.r id ((List.replicate n 0).set k v) }
  have a0 : atR S id (k : Int) = 0 := by unfold atR; rw [h.r]; simp only [List.length_replicate]; exact if_pos hkI
  have e1 : save S id (k : Int) v = (0, S1) := by
    unfold save
    rw [if_pos a0]
    unfold setR
    rw [h.r]
    simp only [Int.toNat_natCast]
    rfl
  have l1 : lookE S1.r id = some ((List.replicate n 0).set k v) := by show lookE (putE _ _ _) _ = _; rw [lookE_put, if_pos rfl]
  have g1 : getR S1 id (k : Int) = v := by
    unfold getR
    rw [l1]
    simp only [Int.toNat_natCast]
    rw [List.getD_eq_getElem?_getD, List.getElem?_set_self (by rw [List.length_replicate]; exact hk)]
    rfl
  let S2 : St := { S1 with r := putE S1.r id (((List.replicate n 0).set k v).set k (u64w (v + x))) }
  have a1 : atR S1 id (k : Int) = 0 := by unfold atR; rw [l1]; simp only [hlen]; exact if_pos hkI
  have e2 : bump S1 id (k : Int) x = (0, S2) := by
    unfold bump
    rw [if_pos a1, g1]
    unfold setR
    rw [l1]
    simp only [Int.toNat_natCast]
    rfl
  have l2 : lookE S2.r id = some (aloneL n k (u64w (v + x))) := by show lookE (putE _ _ _) _ = _; rw [lookE_put, if_pos rfl, hset]
  have m2 : lookE S2.r oth = some (List.replicate m 0) := by
    show lookE (putE (putE S.r _ _) _ _) _ = _
    rw [lookE_put, if_neg h.ne, lookE_put, if_neg h.ne]
    exact h.s
  let S3 : St := { S2 with c := putE S.c id (u64w (0 + 1), u64w (0 + 5)) }
  have e3 : cnt S2 id 5 = (0, S3) := by
    unfold cnt
    rw [show lookE S2.c id = some (0, 0) from h.c]
    show (if (5 : Int) < 0 then _ else _) = _
    rw [if_neg (by decide)]
  have c3 : lookE S3.c oth = some (0, 0) := by show lookE (putE _ _ _) _ = _; rw [lookE_put, if_neg h.ne]; exact h.d
  have l3 : lookE S3.r id = some (aloneL n k (u64w (v + x))) := l2
  have m3 : lookE S3.r oth = some (List.replicate m 0) := m2
  have a3 : atR S3 id ((k + n : Nat) : Int) = 1 := by
    unfold atR
    rw [l3]
    simp only [aloneL_len]
    exact if_neg (by omega)
  have a4 : atR S3 id (k : Int) = 0 := by unfold atR; rw [l3]; simp only [aloneL_len]; exact if_pos hkI
  refine ⟨S1, S2, S3, e1, e2, e3, ?_, ?_, ?_, ?_, ?_⟩
  · unfold save
    rw [if_neg (by rw [a3]; decide), a3]
  · unfold rowR
    rw [l3]
    simp only [aloneL_len]
    rw [if_neg (by omega), Int.toNat_natCast]
    show ((aloneL n k (u64w (v + x))).take n, (0 : Int)) = _
    rw [List.take_of_length_le (by rw [aloneL_len]; exact Nat.le_refl _)]
  · unfold rowR
    rw [m3]
    simp only [List.length_replicate]
    rw [if_neg (by omega), Int.toNat_natCast]
    show ((List.replicate m (0 : Int)).take m, (0 : Int)) = _
    rw [List.take_of_length_le (by rw [List.length_replicate]; exact Nat.le_refl _)]
  · unfold getC
    rw [c3]
  · unfold load
    rw [if_pos a4]
    unfold getR
    rw [l3]
    simp only [Int.toNat_natCast]
    rw [List.getD_eq_getElem?_getD, List.getElem?_eq_getElem (by rw [aloneL_len]; exact hk), aloneL_at]
    simp
theorem mod60 (a : Int) : ∃ k : Nat, k < 60 ∧ (IntKind.u64.wrap a).tmod 60 = (k : Int) := by
  obtain ⟨u, hu⟩ : ∃ u : Nat, IntKind.u64.wrap a = (u : Int) := ⟨(u64w a).toNat, by rw [u64_wrap]; unfold u64w; omega⟩
  exact ⟨u % 60, Nat.mod_lt _ (by decide), by rw [hu]; rfl⟩
def ALR (n : Nat) (w : World) (t : Value) (wr : World) : Prop := ∃ i : Nat, t = .int .i64 (i : Int) ∧ i ≤ n ∧ wr = w
set_option maxHeartbeats 16000000 in
set_option maxRecDepth 100000 in
theorem alone_law (a b : Int) (row : Bool) (at_ : Nat) (v x : Int) (w : World) (hv : u64ok v) (hx : u64ok x) (hat : at_ < 18446744073709551616) :
    Calls Try.prog 3 #[.int .i64 a, .int .i64 b, .bool row, .int .u64 (at_ : Int), .int .u64 v, .int .u64 x] w fun e w' => e = .returned (.bool true) ∧ Below w.heap.size w w' := by
  obtain ⟨i1, hi1, r1⟩ := mod60 a
  obtain ⟨i2, hi2, r2⟩ := mod60 b
  have k1 : (0 : Int) ≤ (i1 : Int) := Int.natCast_nonneg _
  have k2 : (0 : Int) ≤ (i2 : Int) := Int.natCast_nonneg _
  have k3 : (i1 : Int) < 60 := by omega
  have k4 : (i2 : Int) < 60 := by omega
  have HV := Lib.hid hv
  have HX := Lib.hid hx
  have HAT := Lib.hid hat
  clear hv hx hat
  go_enter Try.func3, Try.ntmps3
  go_wp2_with fail
  refine (awake_any _).mono ?_
  rintro e w1 ⟨rfl, hb1⟩
  have HB1 := Lib.hid hb1
  clear hb1
  go_wp2_with fail
  obtain ⟨X, hX⟩ : ∃ X, 1 + i1 = X := ⟨_, rfl⟩
  obtain ⟨Y, hY⟩ : ∃ Y, 1 + i2 = Y := ⟨_, rfl⟩
  have hX2 : 1 ≤ X ∧ X ≤ 60 := by omega
  have hY2 : 1 ≤ Y ∧ Y ≤ 60 := by omega
  have eX : (1 : Int) + (i1 : Int) = (X : Int) := by omega
  have eY : (1 : Int) + (i2 : Int) = (Y : Int) := by omega
  rw [eX, eY]
  clear eX eY hX hY hi1 hi2 r1 r2 k1 k2 k3 k4
  obtain ⟨hT1, hT2⟩ := made_two X Y hX2 hY2
  have HT1 := Lib.hid hT1
  have HT2 := Lib.hid hT2
  have HMA := Lib.hid (made_any (X : Int) (Y : Int) w1)
  generalize madeS (X : Int) (Y : Int) = S0 at *
  clear hT1 hT2
  refine HMA.out.mono ?_
  rintro e w2 ⟨p, rfl, hM⟩
  have HH := Lib.hid hM
  clear hM HMA
  obtain ⟨x1, x2⟩ := hX2
  obtain ⟨y1, y2⟩ := hY2
  have HZ := Lib.hid (u64w_ok (v + x))
  have hzw := u64_wrap (v + x)
  cases row
  · have hmod : at_ % X < X := Nat.mod_lt _ x1
    obtain ⟨k, hk⟩ : ∃ k, at_ % X = k := ⟨_, rfl⟩
    rw [hk] at hmod
    have q1 : IntKind.u64.wrap (X : Int) = (X : Int) := by rw [u64_wrap]; unfold u64w; omega
    have q2 : (at_ : Int).tmod (X : Int) = (k : Int) := by rw [← hk]; rfl
    have q3 : ¬ X = 0 := by omega
    have q4 : (0 : Int) ≤ (at_ : Int) := Int.natCast_nonneg _
    have q5 : (at_ : Int) % (X : Int) = (k : Int) := by rw [← hk]; rfl
    obtain ⟨S1, S2, S3, e1, e2, e3, e4, e5, e6, e7, e8⟩ := alone_pure (v := v) (x := x) HT1.out hmod
    have E1 := Lib.hid e1
    have E2 := Lib.hid e2
    have E3 := Lib.hid e3
    have E4 := Lib.hid e4
    have E5 := Lib.hid e5
    have E6 := Lib.hid e6
    have E7 := Lib.hid e7
    have E8 := Lib.hid e8
    have HKN := Lib.hid (show k < 18446744073709551616 by omega)
    have HKN2 := Lib.hid (show k + X < 18446744073709551616 by omega)
    have HMOD := Lib.hid hmod
    have HK := Lib.hid hk
    clear e1 e2 e3 e4 e5 e6 e7 e8 hk
    go_upto_region 10 with (fail)
    clear q2 q3 q4 q5
    go_wp2_with fail
    refine (save_any p _ S0 _ k v w2 HH.out.sto (by decide) HKN.out HV.out).mono ?_
    intro e w3 hd
    rw [E1.out] at hd
    obtain ⟨rfl, h⟩ := HH.out.did hd
    replace HH := Lib.hid h
    clear hd h
    go_wp2_with fail
    refine (bump_any p _ S1 _ k x w3 HH.out.sto (by decide) HKN.out HX.out).mono ?_
    intro e w4 hd
    rw [E2.out] at hd
    obtain ⟨rfl, h⟩ := HH.out.did hd
    replace HH := Lib.hid h
    clear hd h
    go_wp2_with fail
    refine (cnt_any p _ S2 _ 5 w4 HH.out.sto (by decide) (by decide)).mono ?_
    intro e w5 hd
    rw [E3.out] at hd
    obtain ⟨rfl, h⟩ := HH.out.did hd
    replace HH := Lib.hid h
    clear hd h
    have hadd : IntKind.u64.wrap ((k : Int) + (X : Int)) = (k : Int) + (X : Int) := by rw [u64_wrap]; unfold u64w; omega
    have HS4 := Lib.hid (save_any p _ S3 1 (k + X) v w5 HH.out.sto (by decide) HKN2.out HV.out)
    rw [E4.out, Int.natCast_add] at HS4
    go_wp2_with fail
    refine HS4.out.mono ?_
    intro e w6 hd
    obtain ⟨rfl, h⟩ := HH.out.did hd
    replace HH := Lib.hid h
    clear hd h hadd HS4
    go_wp2_with fail
    refine (rowR_any p _ S3 _ 0 _ w6 HH.out.sto (by decide)).mono ?_
    rw [E5.out]
    rintro e w7 ⟨v1, rfl, ho1, hb⟩
    replace HH := Lib.hid (HH.out.go hb)
    have hl1 := aloneL_len X k (u64w (v + x))
    obtain ⟨A1, c1, rfl, hc1, hC1⟩ := own_C (xs := aloneL X k (u64w (v + x))) ho1 (by rw [hl1]; omega)
    have HC1 := Lib.hid hC1
    rw [hl1] at hc1 ⊢
    clear ho1 hb hC1 hl1
    go_wp2_with fail
    refine (rowR_any p _ S3 _ 0 _ w7 HH.out.sto (by decide)).mono ?_
    rw [E6.out]
    rintro e w8 ⟨v2, rfl, ho2, hb⟩
    replace HH := Lib.hid (HH.out.go hb)
    replace HC1 := Lib.hid (Kd.C_below HC1.out hb)
    have hl2 : (List.replicate Y (0 : Int)).length = Y := List.length_replicate
    obtain ⟨A2, c2, rfl, hc2, hC2⟩ := own_C (xs := List.replicate Y (0 : Int)) ho2 (by rw [hl2]; omega)
    have HC2 := Lib.hid hC2
    rw [hl2] at hc2 ⊢
    clear ho2 hb hC2 hl2
    go_wp2_with fail
    refine (getC_any p _ S3 _ w8 HH.out.sto (by decide)).mono ?_
    rw [E7.out]
    rintro e w9 ⟨rfl, hb⟩
    replace HH := Lib.hid (HH.out.go hb)
    replace HC1 := Lib.hid (Kd.C_below HC1.out hb)
    replace HC2 := Lib.hid (Kd.C_below HC2.out hb)
    clear hb
    generalize u64w (v + x) = z at *
    have HR0 := Lib.hid (show ALR X w9 (.int .i64 0) w9 from ⟨0, rfl, Nat.zero_le _, rfl⟩)
    have HLL := Lib.hid (aloneL_len X k z)
    have HLA := Lib.hid (aloneL_at X k z)
    generalize aloneL X k z = L at *
    go_wp2_with fail
    go_loopw [28] (fun t wr => ALR X w9 t wr) (fun t _ => X - (intOf t).toNat)
    case atStart => exact HR0.out
    case round =>
      clear HR0
      obtain ⟨i, rfl, hi, rfl⟩ := hrel
      by_cases hlt : i < X
      · have k1 : (i : Int) < (X : Int) := by omega
        have k0 : (0 : Int) ≤ (i : Int) := by omega
        have hiL : i < L.length := by rw [HLL.out]; exact hlt
        obtain ⟨ad, rfl, d0⟩ := u64_at HC1.out i hiL
        rw [HLA.out i hiL] at d0
        have qi : IntKind.u64.wrap (i : Int) = (i : Int) := by rw [u64_wrap]; unfold u64w; omega
        by_cases hik : i = k
        · rw [if_pos hik] at d0
          have hb1 : ((i : Int) == (k : Int)) = true := by rw [hik]; exact beq_self_eq_true _
          clear hiL hik
          go_wp2_with fail
          go_roundw
          case rel => exact ⟨i + 1, by go_num, by omega, rfl⟩
          case measure => simp [intOf]; omega
        · rw [if_neg hik] at d0
          have hb1 : ((i : Int) == (k : Int)) = false := beq_eq_false_iff_ne.2 (by omega)
          clear hiL hik
          go_wp2_with fail
          go_roundw
          case rel => exact ⟨i + 1, by go_num, by omega, rfl⟩
          case measure => simp [intOf]; omega
      · obtain rfl : i = X := by omega
        have k1 : ¬ (i : Int) < (i : Int) := by omega
        have HR1 := Lib.hid (show ALR Y wr (.int .i64 0) wr from ⟨0, rfl, Nat.zero_le _, rfl⟩)
        go_wp2_with fail
        go_loopw [30] (fun t w0 => ALR Y wr t w0) (fun t _ => Y - (intOf t).toNat)
        case atStart => exact HR1.out
        case round =>
          clear HR1
          obtain ⟨j, rfl, hj, rfl⟩ := hrel
          by_cases hlt : j < Y
          · have j1 : (j : Int) < (Y : Int) := by omega
            have j0 : (0 : Int) ≤ (j : Int) := by omega
            have hjL : j < (List.replicate Y (0 : Int)).length := by rw [List.length_replicate]; exact hlt
            obtain ⟨ad, rfl, d0⟩ := u64_at HC2.out j hjL
            rw [List.getElem_replicate] at d0
            clear hjL
            go_wp2_with fail
            go_roundw
            case rel => exact ⟨j + 1, by go_num, by omega, rfl⟩
            case measure => simp [intOf]; omega
          · obtain rfl : j = Y := by omega
            have j1 : ¬ (j : Int) < (j : Int) := by omega
            go_wp2_with fail
            refine (load_any p _ S3 _ k _ HH.out.sto (by decide) HKN.out).mono ?_
            rw [E8.out]
            rintro e w10 ⟨rfl, hb⟩
            have HF := Lib.hid (below_step HB1.out (HH.out.go hb).below)
            clear hb
            go_wp2_with fail
            go_ret
            exact ⟨rfl, HF.out⟩
  · have hmod : at_ % Y < Y := Nat.mod_lt _ y1
    obtain ⟨k, hk⟩ : ∃ k, at_ % Y = k := ⟨_, rfl⟩
    rw [hk] at hmod
    have q1 : IntKind.u64.wrap (Y : Int) = (Y : Int) := by rw [u64_wrap]; unfold u64w; omega
    have q2 : (at_ : Int).tmod (Y : Int) = (k : Int) := by rw [← hk]; rfl
    have q3 : ¬ Y = 0 := by omega
    have q4 : (0 : Int) ≤ (at_ : Int) := Int.natCast_nonneg _
    have q5 : (at_ : Int) % (Y : Int) = (k : Int) := by rw [← hk]; rfl
    obtain ⟨S1, S2, S3, e1, e2, e3, e4, e5, e6, e7, e8⟩ := alone_pure (v := v) (x := x) HT2.out hmod
    have E1 := Lib.hid e1
    have E2 := Lib.hid e2
    have E3 := Lib.hid e3
    have E4 := Lib.hid e4
    have E5 := Lib.hid e5
    have E6 := Lib.hid e6
    have E7 := Lib.hid e7
    have E8 := Lib.hid e8
    have HKN := Lib.hid (show k < 18446744073709551616 by omega)
    have HKN2 := Lib.hid (show k + Y < 18446744073709551616 by omega)
    have HMOD := Lib.hid hmod
    have HK := Lib.hid hk
    clear e1 e2 e3 e4 e5 e6 e7 e8 hk
    go_upto_region 10 with (fail)
    clear q2 q3 q4 q5
    go_wp2_with fail
    refine (save_any p _ S0 _ k v w2 HH.out.sto (by decide) HKN.out HV.out).mono ?_
    intro e w3 hd
    rw [E1.out] at hd
    obtain ⟨rfl, h⟩ := HH.out.did hd
    replace HH := Lib.hid h
    clear hd h
    go_wp2_with fail
    refine (bump_any p _ S1 _ k x w3 HH.out.sto (by decide) HKN.out HX.out).mono ?_
    intro e w4 hd
    rw [E2.out] at hd
    obtain ⟨rfl, h⟩ := HH.out.did hd
    replace HH := Lib.hid h
    clear hd h
    go_wp2_with fail
    refine (cnt_any p _ S2 _ 5 w4 HH.out.sto (by decide) (by decide)).mono ?_
    intro e w5 hd
    rw [E3.out] at hd
    obtain ⟨rfl, h⟩ := HH.out.did hd
    replace HH := Lib.hid h
    clear hd h
    have hadd : IntKind.u64.wrap ((k : Int) + (Y : Int)) = (k : Int) + (Y : Int) := by rw [u64_wrap]; unfold u64w; omega
    have HS4 := Lib.hid (save_any p _ S3 2 (k + Y) v w5 HH.out.sto (by decide) HKN2.out HV.out)
    rw [E4.out, Int.natCast_add] at HS4
    go_wp2_with fail
    refine HS4.out.mono ?_
    intro e w6 hd
    obtain ⟨rfl, h⟩ := HH.out.did hd
    replace HH := Lib.hid h
    clear hd h hadd HS4
    go_wp2_with fail
    refine (rowR_any p _ S3 _ 0 _ w6 HH.out.sto (by decide)).mono ?_
    rw [E5.out]
    rintro e w7 ⟨v1, rfl, ho1, hb⟩
    replace HH := Lib.hid (HH.out.go hb)
    have hl1 := aloneL_len Y k (u64w (v + x))
    obtain ⟨A1, c1, rfl, hc1, hC1⟩ := own_C (xs := aloneL Y k (u64w (v + x))) ho1 (by rw [hl1]; omega)
    have HC1 := Lib.hid hC1
    rw [hl1] at hc1 ⊢
    clear ho1 hb hC1 hl1
    go_wp2_with fail
    refine (rowR_any p _ S3 _ 0 _ w7 HH.out.sto (by decide)).mono ?_
    rw [E6.out]
    rintro e w8 ⟨v2, rfl, ho2, hb⟩
    replace HH := Lib.hid (HH.out.go hb)
    replace HC1 := Lib.hid (Kd.C_below HC1.out hb)
    have hl2 : (List.replicate X (0 : Int)).length = X := List.length_replicate
    obtain ⟨A2, c2, rfl, hc2, hC2⟩ := own_C (xs := List.replicate X (0 : Int)) ho2 (by rw [hl2]; omega)
    have HC2 := Lib.hid hC2
    rw [hl2] at hc2 ⊢
    clear ho2 hb hC2 hl2
    go_wp2_with fail
    refine (getC_any p _ S3 _ w8 HH.out.sto (by decide)).mono ?_
    rw [E7.out]
    rintro e w9 ⟨rfl, hb⟩
    replace HH := Lib.hid (HH.out.go hb)
    replace HC1 := Lib.hid (Kd.C_below HC1.out hb)
    replace HC2 := Lib.hid (Kd.C_below HC2.out hb)
    clear hb
    generalize u64w (v + x) = z at *
    have HR0 := Lib.hid (show ALR Y w9 (.int .i64 0) w9 from ⟨0, rfl, Nat.zero_le _, rfl⟩)
    have HLL := Lib.hid (aloneL_len Y k z)
    have HLA := Lib.hid (aloneL_at Y k z)
    generalize aloneL Y k z = L at *
    go_wp2_with fail
    go_loopw [28] (fun t wr => ALR Y w9 t wr) (fun t _ => Y - (intOf t).toNat)
    case atStart => exact HR0.out
    case round =>
      clear HR0
      obtain ⟨i, rfl, hi, rfl⟩ := hrel
      by_cases hlt : i < Y
      · have k1 : (i : Int) < (Y : Int) := by omega
        have k0 : (0 : Int) ≤ (i : Int) := by omega
        have hiL : i < L.length := by rw [HLL.out]; exact hlt
        obtain ⟨ad, rfl, d0⟩ := u64_at HC1.out i hiL
        rw [HLA.out i hiL] at d0
        have qi : IntKind.u64.wrap (i : Int) = (i : Int) := by rw [u64_wrap]; unfold u64w; omega
        by_cases hik : i = k
        · rw [if_pos hik] at d0
          have hb1 : ((i : Int) == (k : Int)) = true := by rw [hik]; exact beq_self_eq_true _
          clear hiL hik
          go_wp2_with fail
          go_roundw
          case rel => exact ⟨i + 1, by go_num, by omega, rfl⟩
          case measure => simp [intOf]; omega
        · rw [if_neg hik] at d0
          have hb1 : ((i : Int) == (k : Int)) = false := beq_eq_false_iff_ne.2 (by omega)
          clear hiL hik
          go_wp2_with fail
          go_roundw
          case rel => exact ⟨i + 1, by go_num, by omega, rfl⟩
          case measure => simp [intOf]; omega
      · obtain rfl : i = Y := by omega
        have k1 : ¬ (i : Int) < (i : Int) := by omega
        have HR1 := Lib.hid (show ALR X wr (.int .i64 0) wr from ⟨0, rfl, Nat.zero_le _, rfl⟩)
        go_wp2_with fail
        go_loopw [30] (fun t w0 => ALR X wr t w0) (fun t _ => X - (intOf t).toNat)
        case atStart => exact HR1.out
        case round =>
          clear HR1
          obtain ⟨j, rfl, hj, rfl⟩ := hrel
          by_cases hlt : j < X
          · have j1 : (j : Int) < (X : Int) := by omega
            have j0 : (0 : Int) ≤ (j : Int) := by omega
            have hjL : j < (List.replicate X (0 : Int)).length := by rw [List.length_replicate]; exact hlt
            obtain ⟨ad, rfl, d0⟩ := u64_at HC2.out j hjL
            rw [List.getElem_replicate] at d0
            clear hjL
            go_wp2_with fail
            go_roundw
            case rel => exact ⟨j + 1, by go_num, by omega, rfl⟩
            case measure => simp [intOf]; omega
          · obtain rfl : j = X := by omega
            have j1 : ¬ (j : Int) < (j : Int) := by omega
            go_wp2_with fail
            refine (load_any p _ S3 _ k _ HH.out.sto (by decide) HKN.out).mono ?_
            rw [E8.out]
            rintro e w10 ⟨rfl, hb⟩
            have HF := Lib.hid (below_step HB1.out (HH.out.go hb).below)
            clear hb
            go_wp2_with fail
            go_ret
            exact ⟨rfl, HF.out⟩
end Go.Proofs.Ytdobpieiobikpaa.Base
namespace Go.Proofs.Ytdobpieiobikpaa.Alone
open Go Go.RowKit Go.Proofs.Ytdobpieiobikpaa.Mem Go.Proofs.YtdobpieiobikpaaW.PrintWords
theorem bd_u64 {a : Int} (h : (Lit.int .u64 a).wf = true) : 0 ≤ a ∧ a < 18446744073709551616 := by
  have : IntKind.u64.min ≤ a ∧ a ≤ IntKind.u64.max := by simpa [Lit.wf] using h
  simp [IntKind.min, IntKind.max, IntKind.signed, IntKind.bits] at this
  omega
theorem core (a b : Int) (row : Bool) (at_ v x : Int) (w : World) (ha : (Lit.int .i64 a).wf = true) (hb : (Lit.int .i64 b).wf = true) (hat : (Lit.int .u64 at_).wf = true) (hv : (Lit.int .u64 v).wf = true) (hx : (Lit.int .u64 x).wf = true) :
    Calls Try.prog 3 #[.int .i64 a, .int .i64 b, .bool row, .int .u64 at_, .int .u64 v, .int .u64 x] w fun e w' => e = .returned (.bool true) ∧ Below w.heap.size w w' := by
  obtain ⟨h1, h2⟩ := bd_u64 hat
  obtain ⟨j, rfl⟩ : ∃ k : Nat, at_ = (k : Int) := ⟨at_.toNat, by omega⟩
  exact Base.alone_law a b row j v x w (bd_u64 hv) (bd_u64 hx) (by omega)
end Go.Proofs.Ytdobpieiobikpaa.Alone
