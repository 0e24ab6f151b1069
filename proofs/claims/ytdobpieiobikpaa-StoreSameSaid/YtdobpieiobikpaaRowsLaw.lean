/- Row is what Load tells, one by one: the law. Conditions: as each lemma and contract says. -/
import Derived.Test.YtdobpieiobikpaaStep
set_option linter.unusedVariables false
set_option linter.unusedSimpArgs false
namespace Go.Proofs.Ytdobpieiobikpaa.Base
open Go Go.RowKit Go.Proofs.Ytdobpieiobikpaa.Mem Go.Proofs.YtdobpieiobikpaaW.PrintWords Go.Proofs.YtdobpieiobikpaaW.PrintLast
def runS (l : List Act) : St := l.foldl stepS St.nil
theorem runS_next (l : List Act) (i : Nat) (h : i < l.length) : runS (l.take (i + 1)) = stepS (runS (l.take i)) l[i] := by
  unfold runS
  rw [List.take_succ_eq_append_getElem h, List.foldl_append]
  rfl
theorem Mine.step {w w1 w2 : World} {a : Nat} {S S' : St} {e : Ending} (h : Mine w w1 a S) (hd : StepEnd w1 a (New w w1) S' e w2) : e = .returned (.tuple #[]) ∧ Mine w w2 a S' := by
  obtain ⟨h1, h2, h3⟩ := hd
  have := h.did (q := (0, S')) (e := .returned (.int .i64 0)) ⟨rfl, h2, h3⟩
  exact ⟨h1, this.2⟩
def RunR (l : List Act) (a : Nat) (w : World) (t : Value) (wr : World) : Prop := ∃ i : Nat, t = .int .i64 (i : Int) ∧ i ≤ l.length ∧ Mine w wr a (runS (l.take i))
def RlR (n : Int) (w : World) (t : Value) (wr : World) : Prop := ∃ i : Nat, t = .int .i64 (i : Int) ∧ (i : Int) ≤ n ∧ Below w.heap.size w wr
/-- The statement, of what a store tells. -/
theorem rows_none {S : St} {id : Int} (h : lookE S.r id = none) (f n : Int) : rowR S id f n = ([], 6) ∧ load S id ((0 : Nat) : Int) = (0, 6) := by
  have ha : atR S id ((0 : Nat) : Int) = 6 := by unfold atR; rw [h]
  exact ⟨by unfold rowR; rw [h], by unfold load; rw [if_neg (by rw [ha]; decide), ha]⟩
theorem rows_zero {S : St} {id : Int} {xs : List Int} (h : lookE S.r id = some xs) : rowR S id 0 0 = ([], 0) := by
  unfold rowR
  rw [h]
  show (if _ then _ else _) = _
  rw [if_neg (by omega)]
  rfl
theorem rows_bad {S : St} {id : Int} {xs : List Int} (h : lookE S.r id = some xs) (f n : Int) (hb : f < 0 ∨ n < 0 ∨ (xs.length : Int) < f ∨ (xs.length : Int) - f < n) : rowR S id f n = ([], 1) := by
  unfold rowR
  rw [h]
  show (if _ then _ else _) = _
  rw [if_pos hb]
theorem rows_good {S : St} {id : Int} {xs : List Int} (h : lookE S.r id = some xs) (f n : Int) (hb : ¬ (f < 0 ∨ n < 0 ∨ (xs.length : Int) < f ∨ (xs.length : Int) - f < n)) : rowR S id f n = ((xs.drop f.toNat).take n.toNat, 0) := by
  unfold rowR
  rw [h]
  show (if _ then _ else _) = _
  rw [if_neg hb]
theorem load_out {S : St} {id : Int} {xs : List Int} (h : lookE S.r id = some xs) (k : Nat) (hk : xs.length ≤ k) : load S id (k : Int) = (0, 1) := by
  have ha : atR S id (k : Int) = 1 := by unfold atR; rw [h]; exact if_neg (by omega)
  unfold load
  rw [if_neg (by rw [ha]; decide), ha]
theorem load_in {S : St} {id : Int} {xs : List Int} (h : lookE S.r id = some xs) (k : Nat) (hk : k < xs.length) : load S id (k : Int) = (xs[k], 0) := by
  have ha : atR S id (k : Int) = 0 := by unfold atR; rw [h]; exact if_pos (by omega)
  unfold load
  rw [if_pos ha]
  unfold getR
  rw [h]
  simp [hk]
theorem i64_bd {a : Int} (h : (Lit.int .i64 a).wf = true) : -9223372036854775808 ≤ a ∧ a ≤ 9223372036854775807 := by
  have : IntKind.i64.min ≤ a ∧ a ≤ IntKind.i64.max := by simpa [Lit.wf] using h
  simp [IntKind.min, IntKind.max, IntKind.signed, IntKind.bits] at this
  omega
theorem last_fact (f n : Int) (m : Nat) (hf : (Lit.int .i64 f).wf = true) (hn : (Lit.int .i64 n).wf = true) (h1 : ¬ f < 0) (h2 : ¬ n < 0) (hb : f < 0 ∨ n < 0 ∨ (m : Int) < f ∨ (m : Int) - f < n) :
    IntKind.u64.wrap f = f ∧ IntKind.u64.wrap n = n ∧ IntKind.u64.wrap (f + n) = f + n ∧ ∃ k : Nat, IntKind.u64.wrap (f + n - 1) = (k : Int) ∧ m ≤ k ∧ k < 18446744073709551616 := by
  obtain ⟨_, f1⟩ := i64_bd hf
  obtain ⟨_, n1⟩ := i64_bd hn
  simp only [u64_wrap]
  unfold u64w
  exact ⟨by omega, by omega, by omega, (f + n - 1).toNat, by omega, by omega, by omega⟩
set_option maxHeartbeats 16000000 in
set_option maxRecDepth 100000 in
theorem rows_law (A : Option Addr) (cp : Nat) (l : List Act) (id f n : Int) (w : World) (hA : Acts w A l) (hid : (Lit.int .i64 id).wf = true) (hf : (Lit.int .i64 f).wf = true) (hn : (Lit.int .i64 n).wf = true) :
    Calls Try.prog 4 #[.slice A l.length cp, .int .i64 id, .int .i64 f, .int .i64 n] w fun e w' => e = .returned (.bool true) ∧ Below w.heap.size w w' := by
  by_cases hlen : 100 < l.length
  · have hl1 : (100 : Int) < (l.length : Int) := by omega
    clear hA
    go_enter Try.func4, Try.ntmps4
    go_wp2_with fail
    refine (awake_any _).mono ?_
    rintro e w1 ⟨rfl, hb1⟩
    go_wp2_with fail
    go_ret
    exact ⟨rfl, hb1⟩
  · have hl1 : ¬ (100 : Int) < (l.length : Int) := by omega
    have HA := Lib.hid hA
    clear hA
    go_enter Try.func4, Try.ntmps4
    go_wp2_with fail
    refine (awake_any _).mono ?_
    rintro e w1 ⟨rfl, hb1⟩
    have HB1 := Lib.hid hb1
    clear hb1
    go_wp2_with fail
    refine (new_any w1).mono ?_
    rintro e w2 ⟨rfl, hs, hb⟩
    have HR0 := Lib.hid (show RunR l w1.heap.size w1 (.int .i64 0) w2 from ⟨0, rfl, Nat.zero_le _, ⟨hs, hb⟩⟩)
    obtain ⟨p, hp⟩ : ∃ p, w1.heap.size = p := ⟨_, rfl⟩
    rw [hp] at HR0 ⊢
    clear hs hb hp
    go_wp2_with fail
    go_loopw [10] (fun t wr => RunR l p w1 t wr) (fun t _ => l.length - (intOf t).toNat)
    case atStart => exact HR0.out
    case round =>
      clear HR0
      obtain ⟨i, rfl, hi, hM⟩ := hrel
      have HM := Lib.hid hM
      by_cases hlt : i < l.length
      · have k1 : (i : Int) < (l.length : Int) := by omega
        have k0 : (0 : Int) ≤ (i : Int) := by omega
        obtain ⟨g, o, rfl, c0, c1, c2, c3, c4⟩ := (HA.out.go (below_step HB1.out hM.below)).at_ i hlt
        have HX := Lib.hid (HA.out.ok _ (List.getElem_mem hlt))
        have HN := Lib.hid (runS_next l i hlt)
        generalize l[i] = x at *
        clear hM
        go_wp2_with fail
        refine (step_any p _ _ x wr HM.out.sto HX.out).mono ?_
        intro e w3 hd
        obtain ⟨rfl, h⟩ := HM.out.step hd
        have HM3 := Lib.hid h
        clear hd h c0 c1 c2 c3 c4
        go_wp2_with fail
        go_roundw
        case rel => exact ⟨i + 1, by go_num, hlt, by rw [HN.out]; exact HM3.out⟩
        case measure => simp [intOf]; omega
      · obtain rfl : i = l.length := by omega
        have k1 : ¬ (l.length : Int) < (l.length : Int) := by omega
        rw [List.take_length] at HM
        obtain ⟨S, hS⟩ : ∃ S, runS l = S := ⟨_, rfl⟩
        rw [hS] at HM
        clear hM hS
        obtain ⟨w3, hw3⟩ : ∃ w3, wr = w3 := ⟨_, rfl⟩
        rw [hw3] at HM ⊢
        clear hw3
        have HR1 := Lib.hid (rowR_any p _ S id 0 0 w3 HM.out.sto hid)
        cases hl : lookE S.r id with
        | none =>
          obtain ⟨r1, -⟩ := rows_none hl 0 0
          obtain ⟨r2, r3⟩ := rows_none hl f n
          rw [r1] at HR1
          have HR2 := Lib.hid r2
          have HR3 := Lib.hid r3
          clear r1 r2 r3 hl
          go_wp2_with fail
          refine HR1.out.mono ?_
          rintro e w4 ⟨v, rfl, ho, hb⟩
          obtain ⟨A4, c4, rfl, -, -⟩ := own_C (xs := []) ho (by decide)
          replace HM := Lib.hid (HM.out.go hb)
          clear ho hb HR1
          go_wp2_with fail
          refine (rowR_any p _ S id f n w4 HM.out.sto hid).mono ?_
          rw [HR2.out]
          rintro e w5 ⟨v, rfl, ho, hb⟩
          obtain ⟨A5, c5, rfl, -, -⟩ := own_C (xs := []) ho (by decide)
          replace HM := Lib.hid (HM.out.go hb)
          clear ho hb
          go_wp2_with fail
          refine (load_any p _ S id 0 w5 HM.out.sto hid (by decide)).mono ?_
          rw [HR3.out]
          rintro e w6 ⟨rfl, hb⟩
          replace HM := Lib.hid (HM.out.go hb)
          clear hb
          go_wp2_with fail
          go_ret
          exact ⟨rfl, below_step HB1.out HM.out.below⟩
        | some xs =>
          rw [rows_zero hl] at HR1
          have hxl : xs.length ≤ 1024 := (HM.out.sto.ok.rw_ (id, xs) (lookE_mem hl)).2.1
          have HL := Lib.hid hl
          clear hl
          go_wp2_with fail
          refine HR1.out.mono ?_
          rintro e w4 ⟨v, rfl, ho, hb⟩
          obtain ⟨A4, c4, rfl, -, -⟩ := own_C (xs := []) ho (by decide)
          replace HM := Lib.hid (HM.out.go hb)
          clear ho hb HR1
          go_wp2_with fail
          have HR2 := Lib.hid (rowR_any p _ S id f n w4 HM.out.sto hid)
          by_cases hbad : f < 0 ∨ n < 0 ∨ (xs.length : Int) < f ∨ (xs.length : Int) - f < n
          · rw [rows_bad HL.out f n hbad] at HR2
            refine HR2.out.mono ?_
            rintro e w5 ⟨v, rfl, ho, hb⟩
            obtain ⟨A5, c5, rfl, -, -⟩ := own_C (xs := []) ho (by decide)
            replace HM := Lib.hid (HM.out.go hb)
            clear ho hb HR2
            by_cases hf0 : f < 0
            · clear hbad
              go_wp2_with fail
              go_ret
              exact ⟨rfl, below_step HB1.out HM.out.below⟩
            · by_cases hn0 : n < 0
              · clear hbad
                go_wp2_with fail
                go_ret
                exact ⟨rfl, below_step HB1.out HM.out.below⟩
              · obtain ⟨q1, q2, q3, q4⟩ := last_fact f n xs.length hf hn hf0 hn0 hbad
                obtain ⟨k, hk, hkl, hk2⟩ := q4
                have HK := Lib.hid (load_out HL.out k hkl)
                have hk2' := hk2
                clear hbad hkl hk2
                have HLD := Lib.hid (load_any p _ S id k w5 HM.out.sto hid hk2')
                rw [HK.out] at HLD
                clear hk2'
                go_wp2_with fail
                refine HLD.out.mono ?_
                rintro e w6 ⟨rfl, hb⟩
                replace HM := Lib.hid (HM.out.go hb)
                clear hb HLD
                go_wp2_with fail
                go_ret
                exact ⟨rfl, below_step HB1.out HM.out.below⟩
          · rw [rows_good HL.out f n hbad] at HR2
            have hf0 : ¬ f < 0 := by omega
            have hn0 : ¬ n < 0 := by omega
            obtain ⟨a, ha⟩ : ∃ a : Nat, f = (a : Int) := ⟨f.toNat, by omega⟩
            obtain ⟨b, hb'⟩ : ∃ b : Nat, n = (b : Int) := ⟨n.toNat, by omega⟩
            subst ha hb'
            rw [Int.toNat_natCast, Int.toNat_natCast] at HR2
            have hab : a + b ≤ xs.length := by omega
            have hll : ((xs.drop a).take b).length = b := by rw [List.length_take, List.length_drop]; omega
            refine HR2.out.mono ?_
            rintro e w5 ⟨v, rfl, ho, hb⟩
            obtain ⟨A5, c5, rfl, hc5, hC5⟩ := own_C (xs := (xs.drop a).take b) ho (by rw [hll]; omega)
            replace HM := Lib.hid (HM.out.go hb)
            have HC5 := Lib.hid hC5
            have HLL := Lib.hid hll
            have HAB := Lib.hid hab
            rw [show ((((xs.drop a).take b), (0 : Int)).1).length = b from hll]
            have HR0 := Lib.hid (show RlR (b : Int) w5 (.int .i64 0) w5 from ⟨0, rfl, by omega, Below.refl _ _⟩)
            have hxl2 := hxl
            clear ho hb hC5 hll hab HR2 hbad hxl hn hf
            go_wp2_with fail
            go_loopw [20] (fun t wr => RlR (b : Int) w5 t wr) (fun t _ => b - (intOf t).toNat)
            case atStart => exact HR0.out
            case round =>
              clear HR0
              obtain ⟨i, rfl, hi, hB⟩ := hrel
              have HMi := Lib.hid (HM.out.go hB)
              have HCi := Lib.hid (Kd.C_below HC5.out hB)
              have HBi := Lib.hid hB
              clear hB
              by_cases hlt : i < b
              · have k1 : (i : Int) < (b : Int) := by omega
                have k0 : (0 : Int) ≤ (i : Int) := by omega
                have hai : a + i < xs.length := by have := HAB.out; omega
                have hw : IntKind.u64.wrap ((a : Int) + (i : Int)) = (a : Int) + (i : Int) := by rw [u64_wrap]; unfold u64w; omega
                have hs1 : (a : Int) + (i : Int) ≤ 2000 := by omega
                have hs0 : (0 : Int) ≤ (a : Int) + (i : Int) := by omega
                have HLD := Lib.hid (load_any p _ S id (a + i) wr HMi.out.sto hid (by omega))
                rw [load_in HL.out (a + i) hai, Int.natCast_add] at HLD
                have hiL : i < ((xs.drop a).take b).length := by rw [HLL.out]; exact hlt
                have hxe : ((xs.drop a).take b)[i] = xs[a + i] := by simp
                have HXE := Lib.hid (fun W (hW : Below wr.heap.size wr W) => u64_at (Kd.C_below HCi.out hW) i hiL)
                rw [hxe] at HXE
                generalize xs[a + i] = y at *
                clear hxe hiL hai
                go_wp2_with fail
                refine HLD.out.mono ?_
                rintro e w6 ⟨rfl, hb⟩
                obtain ⟨ad, rfl, d0⟩ := HXE.out w6 hb
                have HB6 := Lib.hid (below_step HBi.out hb)
                clear hb HLD
                go_wp2_with fail
                go_roundw
                case rel => exact ⟨i + 1, by go_num, by omega, HB6.out⟩
                case measure => simp [intOf]; omega
              · have k1 : ¬ (i : Int) < (b : Int) := by omega
                go_wp2_with fail
                go_ret
                exact ⟨rfl, below_step HB1.out HMi.out.below⟩
end Go.Proofs.Ytdobpieiobikpaa.Base
namespace Go.Proofs.Ytdobpieiobikpaa.RowsLaw
open Go Go.RowKit Go.Proofs.Ytdobpieiobikpaa.Mem Go.Proofs.YtdobpieiobikpaaW.PrintWords
theorem core (A : Option Addr) (c : Nat) (l : List Base.Act) (id f n : Int) (w : World) (_ : l.length ≤ c) (hm : l.length * 40 ≤ 140737488351232) (_ : ∀ x ∈ l, Base.ActOk x) (hA : Base.Acts w A l) (hid : (Lit.int .i64 id).wf = true) (hf : (Lit.int .i64 f).wf = true) (hn : (Lit.int .i64 n).wf = true) :
    Calls Try.prog 4 #[.slice A l.length c, .int .i64 id, .int .i64 f, .int .i64 n] w fun e w' => e = .returned (.bool true) ∧ Below w.heap.size w w' := Base.rows_law A c l id f n w hA hid hf hn
end Go.Proofs.Ytdobpieiobikpaa.RowsLaw
