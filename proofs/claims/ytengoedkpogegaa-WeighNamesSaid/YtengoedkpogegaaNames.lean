/- The law of the examples, and of classes at their ends. Conditions: none. -/
import Derived.Test.YtengoedkpogegaaMayLaw
set_option linter.unusedVariables false
set_option linter.unusedSimpArgs false
namespace Go.Proofs.Ytengoedkpogegaa.Base
open Go Go.RowKit Go.Proofs.Ytengoedkpogegaa.Mem Go.Proofs.YtengoedkpogegaaW.PrintWords Go.Proofs.Ytengoedkpogegaa.Fl
theorem quiet_left {P : Program} {f : FuncId} {args : Array Value} {w : World} {n : Nat} {v : Value}
    (h : Calls P f args (w.drewN n) fun e w' => e = .returned v ∧ w.drewN n = w') : Calls P f args (w.drewN n) fun e w'' => e = .returned v ∧ ∃ m, w'' = w.drewN m :=
  h.mono fun _ _ ⟨he, hm⟩ => ⟨he, n, hm.symm⟩
def tb : Array Value := #[.int .u64 4503599627370495, .int .u8 3, .bool true, .int .u64 4503599627370496, .int .u8 4, .bool true, .int .u64 9218868437227405311, .int .u8 4, .bool false, .int .u64 4697254411347427328, .int .u8 4, .bool true, .int .u64 4697254411347427329, .int .u8 4, .bool false, .int .u64 18444492273895866368, .int .u8 7, .bool false, .int .u64 9223372036854775809, .int .u8 6, .bool false, .int .u64 13830554455654793216, .int .u8 6, .bool false, .int .u64 18446744073709551615, .int .u8 7, .bool false, .int .u64 9223372036854775808, .int .u8 2, .bool true]
theorem tb_at (k : Nat) (hk : k < 10) : ∃ (m : Nat) (c : Int) (b : Bool), tb[k * 3]? = some (.int .u64 (m : Int)) ∧ tb[k * 3 + 1]? = some (.int .u8 c) ∧ tb[k * 3 + 2]? = some (.bool b) ∧ m < 18446744073709551616 ∧ cls m = c ∧ may m = b := by
  match k, hk with
  | 0, _ => exact ⟨4503599627370495, 3, true, rfl, rfl, rfl, by decide, by decide +kernel, by decide +kernel⟩
  | 1, _ => exact ⟨4503599627370496, 4, true, rfl, rfl, rfl, by decide, by decide +kernel, by decide +kernel⟩
  | 2, _ => exact ⟨9218868437227405311, 4, false, rfl, rfl, rfl, by decide, by decide +kernel, by decide +kernel⟩
  | 3, _ => exact ⟨4697254411347427328, 4, true, rfl, rfl, rfl, by decide, by decide +kernel, by decide +kernel⟩
  | 4, _ => exact ⟨4697254411347427329, 4, false, rfl, rfl, rfl, by decide, by decide +kernel, by decide +kernel⟩
  | 5, _ => exact ⟨18444492273895866368, 7, false, rfl, rfl, rfl, by decide, by decide +kernel, by decide +kernel⟩
  | 6, _ => exact ⟨9223372036854775809, 6, false, rfl, rfl, rfl, by decide, by decide +kernel, by decide +kernel⟩
  | 7, _ => exact ⟨13830554455654793216, 6, false, rfl, rfl, rfl, by decide, by decide +kernel, by decide +kernel⟩
  | 8, _ => exact ⟨18446744073709551615, 7, false, rfl, rfl, rfl, by decide, by decide +kernel, by decide +kernel⟩
  | 9, _ => exact ⟨9223372036854775808, 2, true, rfl, rfl, rfl, by decide, by decide +kernel, by decide +kernel⟩
def TB (g : Nat) (w0 : World) (t : Value) (wr : World) : Prop := ∃ k : Nat, t = .int .i64 (k : Int) ∧ k ≤ 10 ∧ Blk wr g 33 tb ∧ Kp w0.heap.size w0 wr
theorem C_nil (w : World) : Kd.C (Kd.int .u64) w none ([] : List Int).length [] := ⟨rfl, by decide, fun h => absurd h (by decide)⟩
theorem in_nil : inU [] := fun x hx => by simp at hx
set_option maxRecDepth 100000 in
set_option maxHeartbeats 16000000 in
theorem names_any (w : World) : Calls Try.prog 5 #[] w fun e w' => e = .returned (.bool true) ∧ Below w.heap.size w w' := by
  go_enter Try.func5, Try.ntmps5
  go_wp2_with fail
  refine (awake_any w).mono ?_
  rintro e w1 ⟨rfl, hb1⟩
  have HK1 := (Kp.refl w).go hb1
  clear hb1
  go_wp2_with fail
  have hR : TB w1.heap.size w (.int .i64 0) (w1.alloc (.cells tb 33)) := ⟨0, rfl, by omega, Blk.new _ _ _, HK1.alloc _⟩
  change Code.wp _ _ _ _ (w1.alloc (.cells tb 33))
  generalize w1.alloc _ = w2 at *
  generalize hgn : w1.heap.size = q at *
  clear hgn HK1
  go_loopw [33] (fun t wr => TB q w t wr) (fun t _ => 10 - (intOf t).toNat)
  case atStart => exact hR
  case round =>
    clear hR
    obtain ⟨k, rfl, hk, hg, HK⟩ := hrel
    by_cases hlt : k < 10
    · obtain ⟨m, c, b, a0, a1, a2, hm, hc, hb⟩ := tb_at k hlt
      have c0 : wr.cell? ⟨q, k * 3, none⟩ = some (.int .u64 (m : Int)) := (hg.cell _).trans a0
      have c1 : wr.cell? ⟨q, k * 3 + 1, none⟩ = some (.int .u8 c) := (hg.cell _).trans a1
      have c2 : wr.cell? ⟨q, k * 3 + 2, none⟩ = some (.bool b) := (hg.cell _).trans a2
      have k0 : (0 : Int) ≤ (k : Int) := by omega
      have k1 : (k : Int) < 10 := by omega
      have hu33 := Try.underlying33
      have HC := Lib.hid (fun W => class_any m hm W)
      have HM := Lib.hid (fun W => may_any m hm W)
      rw [hc] at HC
      rw [hb] at HM
      clear a0 a1 a2 hc hb
      go_wp2_with fail
      have hx : Blk (wr.alloc (.cells #[.int .u64 (m : Int), .int .u8 c, .bool b] 33)) wr.heap.size 33 #[.int .u64 (m : Int), .int .u8 c, .bool b] := Blk.new _ _ _
      replace hg := hg.alloc (.cells #[.int .u64 (m : Int), .int .u8 c, .bool b] 33)
      replace HK := HK.alloc (.cells #[.int .u64 (m : Int), .int .u8 c, .bool b] 33)
      clear c0 c1 c2 hu33
      generalize wr.alloc (.cells #[.int .u64 (m : Int), .int .u8 c, .bool b] 33) = w3 at *
      have d0 : w3.cell? ⟨wr.heap.size, 0, none⟩ = some (.int .u64 (m : Int)) := hx.cell 0
      have d1 : w3.cell? ⟨wr.heap.size, 1, none⟩ = some (.int .u8 c) := hx.cell 1
      have d2 : w3.cell? ⟨wr.heap.size, 2, none⟩ = some (.bool b) := hx.cell 2
      go_quiet ((first
        | (go_at_call 11; exact quiet_left (HC.out _))
        | (go_at_call 13; exact quiet_left (HM.out _))))
      replace hg := hg.drewN nq
      replace HK := HK.drewN nq
      go_wp2_with fail
      go_roundw
      case rel => exact ⟨k + 1, by go_num, by omega, hg, HK⟩
      case measure => simp [intOf]; omega
    · obtain rfl : k = 10 := by omega
      clear hg
      go_wp2_with fail
      refine (choose_any none 0 [] 5 wr (C_nil wr) (by decide) in_nil (by decide) (by decide)).mono ?_
      rintro e _ ⟨rfl, rfl⟩
      rw [show choose [] 5 = (0, false) from by decide +kernel]
      go_wp2_with fail
      refine (choose_any (some ⟨wr.heap.size, 0, none⟩) 3 [0, 9223372036854775808, 0] 5 _ (blk_readsU (l := [0, 9223372036854775808, 0]) (Blk.new wr 22 #[.int .u64 0, .int .u64 9223372036854775808, .int .u64 0]) (by decide)) (by decide) (by unfold inU; decide) (by decide) (by decide)).mono ?_
      rintro e _ ⟨rfl, rfl⟩
      rw [show choose [0, 9223372036854775808, 0] 5 = (0, false) from by decide +kernel]
      have HKwrx := HK.alloc (.cells #[.int .u64 0, .int .u64 9223372036854775808, .int .u64 0] 22)
      clear HK
      generalize wr.alloc (.cells #[.int .u64 0, .int .u64 9223372036854775808, .int .u64 0] 22) = wrx at *
      go_wp2_with fail
      refine (choose_any (some ⟨wrx.heap.size, 0, none⟩) 2 [4607182418800017408, 9218868437227405312] 5 _ (blk_readsU (l := [4607182418800017408, 9218868437227405312]) (Blk.new wrx 22 #[.int .u64 4607182418800017408, .int .u64 9218868437227405312]) (by decide)) (by decide) (by unfold inU; decide) (by decide) (by decide)).mono ?_
      rintro e _ ⟨rfl, rfl⟩
      rw [show choose [4607182418800017408, 9218868437227405312] 5 = (0, false) from by decide +kernel]
      have HKwrxx := HKwrx.alloc (.cells #[.int .u64 4607182418800017408, .int .u64 9218868437227405312] 22)
      clear HKwrx
      generalize wrx.alloc (.cells #[.int .u64 4607182418800017408, .int .u64 9218868437227405312] 22) = wrxx at *
      go_wp2_with fail
      refine (Total_any none 0 [] wrxx (C_nil wrxx) (by decide) in_nil (by decide)).mono ?_
      rintro e _ ⟨rfl, rfl⟩
      rw [show tot 0 [] = some 0 from by decide +kernel]
      go_wp2_with fail
      refine (Total_any (some ⟨wrxx.heap.size, 0, none⟩) 1 [9223372036854775808] _ (blk_readsU (l := [9223372036854775808]) (Blk.new wrxx 22 #[.int .u64 9223372036854775808]) (by decide)) (by decide) (by unfold inU; decide) (by decide)).mono ?_
      rintro e _ ⟨rfl, rfl⟩
      rw [show tot 0 [9223372036854775808] = some 0 from by decide +kernel]
      have HKwrxxx := HKwrxx.alloc (.cells #[.int .u64 9223372036854775808] 22)
      clear HKwrxx
      generalize wrxx.alloc (.cells #[.int .u64 9223372036854775808] 22) = wrxxx at *
      go_wp2_with fail
      refine (Total_any (some ⟨wrxxx.heap.size, 0, none⟩) 2 [4607182418800017408, 9223372036854775809] _ (blk_readsU (l := [4607182418800017408, 9223372036854775809]) (Blk.new wrxxx 22 #[.int .u64 4607182418800017408, .int .u64 9223372036854775809]) (by decide)) (by decide) (by unfold inU; decide) (by decide)).mono ?_
      rintro e _ ⟨rfl, rfl⟩
      rw [show tot 0 [4607182418800017408, 9223372036854775809] = none from by decide +kernel]
      have HKwrxxxx := HKwrxxx.alloc (.cells #[.int .u64 4607182418800017408, .int .u64 9223372036854775809] 22)
      clear HKwrxxx
      generalize wrxxx.alloc (.cells #[.int .u64 4607182418800017408, .int .u64 9223372036854775809] 22) = wrxxxx at *
      go_wp2_with fail
      refine (chosen_yes (some ⟨wrxxxx.heap.size, 0, none⟩) 2 [1, 9223372036854775808] 4294967295 0 _ (blk_readsU (l := [1, 9223372036854775808]) (Blk.new wrxxxx 22 #[.int .u64 1, .int .u64 9223372036854775808]) (by decide)) (by decide) (by unfold inU; decide) (by decide) (by decide) (show choose [1, 9223372036854775808] 4294967295 = (0, true) from by decide +kernel)).mono ?_
      rintro e _ ⟨rfl, rfl⟩
      have HKwrxxxxx := HKwrxxxx.alloc (.cells #[.int .u64 1, .int .u64 9223372036854775808] 22)
      clear HKwrxxxx
      generalize wrxxxx.alloc (.cells #[.int .u64 1, .int .u64 9223372036854775808] 22) = wrxxxxx at *
      go_wp2_with fail
      refine (chosen_yes (some ⟨wrxxxxx.heap.size, 0, none⟩) 3 [0, 1, 0] 0 1 _ (blk_readsU (l := [0, 1, 0]) (Blk.new wrxxxxx 22 #[.int .u64 0, .int .u64 1, .int .u64 0]) (by decide)) (by decide) (by unfold inU; decide) (by decide) (by decide) (show choose [0, 1, 0] 0 = (1, true) from by decide +kernel)).mono ?_
      rintro e _ ⟨rfl, rfl⟩
      have HKwrxxxxxx := HKwrxxxxx.alloc (.cells #[.int .u64 0, .int .u64 1, .int .u64 0] 22)
      clear HKwrxxxxx
      generalize wrxxxxx.alloc (.cells #[.int .u64 0, .int .u64 1, .int .u64 0] 22) = wrxxxxxx at *
      go_wp2_with fail
      refine (chosen_yes (some ⟨wrxxxxxx.heap.size, 0, none⟩) 3 [0, 1, 0] 4294967295 1 _ (blk_readsU (l := [0, 1, 0]) (Blk.new wrxxxxxx 22 #[.int .u64 0, .int .u64 1, .int .u64 0]) (by decide)) (by decide) (by unfold inU; decide) (by decide) (by decide) (show choose [0, 1, 0] 4294967295 = (1, true) from by decide +kernel)).mono ?_
      rintro e _ ⟨rfl, rfl⟩
      have HKwrxxxxxxx := HKwrxxxxxx.alloc (.cells #[.int .u64 0, .int .u64 1, .int .u64 0] 22)
      clear HKwrxxxxxx
      generalize wrxxxxxx.alloc (.cells #[.int .u64 0, .int .u64 1, .int .u64 0] 22) = wrxxxxxxx at *
      go_wp2_with fail
      go_ret
      exact ⟨rfl, HKwrxxxxxxx.below⟩
end Go.Proofs.Ytengoedkpogegaa.Base
namespace Go.Proofs.Ytengoedkpogegaa.Names
open Go Go.RowKit
theorem core (w : World) : Calls Try.prog 5 #[] w fun e w' => e = .returned (.bool true) ∧ Below w.heap.size w w' := Base.names_any w
end Go.Proofs.Ytengoedkpogegaa.Names
