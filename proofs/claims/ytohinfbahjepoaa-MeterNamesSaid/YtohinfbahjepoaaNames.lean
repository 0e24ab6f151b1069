/- The examples of the meter; definitions at their ends; ticks at their ends; nobody's bucket. Conditions: none. -/
import Derived.Test.YtohinfbahjepoaaOpen
import Derived.Test.YtohinfbahjepoaaWLast
set_option linter.unusedVariables false
set_option linter.unusedSimpArgs false
namespace Go.Proofs.Ytohinfbahjepoaa.Names
open Go Go.RowKit Go.Proofs.Ytohinfbahjepoaa.Mem Go.Proofs.YtohinfbahjepoaaW.PrintWords Go.Proofs.YtohinfbahjepoaaW.PrintLast Go.Proofs.Ytohinfbahjepoaa.Base
abbrev table : Array Value := #[.int .i64 1, .int .i64 0, .int .i64 0, .bool true, .int .i64 65534, .int .i64 1099511627776, .int .i64 1099511627776, .bool true, .int .i64 0, .int .i64 0, .int .i64 0, .bool false, .int .i64 65535, .int .i64 0, .int .i64 0, .bool false,
  .int .i64 1, .int .i64 (-1), .int .i64 0, .bool false, .int .i64 1, .int .i64 1099511627777, .int .i64 0, .bool false, .int .i64 1, .int .i64 0, .int .i64 (-1), .bool false, .int .i64 1, .int .i64 0, .int .i64 1099511627777, .bool false]
theorem table_at (k : Nat) (h : k < 8) : ∃ (i r u : Int) (ok : Bool), table[k * 4]? = some (.int .i64 i) ∧ table[k * 4 + 1]? = some (.int .i64 r) ∧ table[k * 4 + 2]? = some (.int .i64 u) ∧ table[k * 4 + 3]? = some (.bool ok) ∧ mayB i r u = ok := by
  match k, h with
  | 0, _ => exact ⟨_, _, _, _, rfl, rfl, rfl, rfl, by decide⟩
  | 1, _ => exact ⟨_, _, _, _, rfl, rfl, rfl, rfl, by decide⟩
  | 2, _ => exact ⟨_, _, _, _, rfl, rfl, rfl, rfl, by decide⟩
  | 3, _ => exact ⟨_, _, _, _, rfl, rfl, rfl, rfl, by decide⟩
  | 4, _ => exact ⟨_, _, _, _, rfl, rfl, rfl, rfl, by decide⟩
  | 5, _ => exact ⟨_, _, _, _, rfl, rfl, rfl, rfl, by decide⟩
  | 6, _ => exact ⟨_, _, _, _, rfl, rfl, rfl, rfl, by decide⟩
  | 7, _ => exact ⟨_, _, _, _, rfl, rfl, rfl, rfl, by decide⟩
def NRel (g : Nat) (w : World) (t : Value) (wr : World) : Prop := ∃ k : Nat, k ≤ 8 ∧ t = .int .i64 k ∧ Blk wr g 52 table ∧ Kp w.heap.size w wr
set_option maxHeartbeats 8000000 in
set_option maxRecDepth 100000 in
theorem names_any (w : World) : Calls Try.prog 8 #[] w fun e w' => e = .returned (.bool true) ∧ Below w.heap.size w w' := by
  go_enter Try.func8, Try.ntmps8
  go_wp2_with fail
  refine (awake_any _).mono ?_
  rintro e w1 ⟨rfl, hb⟩
  have HK := (Kp.refl w).go hb
  clear hb
  go_wp2_with fail
  have hg : Blk (w1.alloc (.cells table 52)) w1.heap.size 52 table := Blk.new _ _ _
  have hR : NRel w1.heap.size w (.int .i64 0) (w1.alloc (.cells table 52)) := ⟨0, by omega, rfl, hg, HK.alloc _⟩
  go_loopw [44] (fun t wr => NRel w1.heap.size w t wr) (fun t _ => 8 - (intOf t).toNat)
  case atStart => exact hR
  case round =>
    clear hR hg HK
    obtain ⟨k, hk, rfl, hg, HK⟩ := hrel
    by_cases hlt : k < 8
    · obtain ⟨i, r, u, ok, t0, t1, t2, t3, hmay⟩ := table_at k hlt
      have c0 := (hg.cell (k * 4)).trans t0
      have c1 := (hg.cell (k * 4 + 1)).trans t1
      have c2 := (hg.cell (k * 4 + 2)).trans t2
      have c3 := (hg.cell (k * 4 + 3)).trans t3
      have HM := Lib.hid hmay
      have hs := HK.size
      clear t0 t1 t2 t3 hmay
      cases ok
      · have hx := Blk.new wr 52 #[.int .i64 i, .int .i64 r, .int .i64 u, .bool false]
        replace hg := hg.alloc (.cells #[.int .i64 i, .int .i64 r, .int .i64 u, .bool false] 52)
        replace HK := HK.alloc (.cells #[.int .i64 i, .int .i64 r, .int .i64 u, .bool false] 52)
        go_wp2_with fail
        clear c0 c1 c2 c3
        generalize wr.alloc _ = w2 at *
        generalize wr.heap.size = x at *
        refine (new_no i r u _ HM.out).mono ?_
        rintro e w3 ⟨rfl, hn⟩
        replace hx := hx.grown hn (by simp)
        replace hg := hg.grown hn (by simp)
        replace HK := HK.none_ hn
        clear hn
        have k0 : w3.cell? ⟨x, 0, none⟩ = some (.int .i64 i) := hx.cell 0
        have k1 : w3.cell? ⟨x, 1, none⟩ = some (.int .i64 r) := hx.cell 1
        have k2 : w3.cell? ⟨x, 2, none⟩ = some (.int .i64 u) := hx.cell 2
        have k3 : w3.cell? ⟨x, 3, none⟩ = some (.bool false) := hx.cell 3
        go_wp2_with fail
        go_region_held3 (fun w' => w'.cell? ⟨x, 0, none⟩ = some (.int .i64 i) ∧ w'.cell? ⟨x, 1, none⟩ = some (.int .i64 r) ∧ w'.cell? ⟨x, 2, none⟩ = some (.int .i64 u) ∧ w'.cell? ⟨x, 3, none⟩ = some (.bool false)) (go_keep) (first
          | (go_at_call 11; (with_reducible refine (may_any i r u _).mono ?_); rintro e w4 ⟨rfl, hb⟩; rw [HM.out]; have hx := (by first | exact hx.go hb | exact hx.drew.go hb : Blk w4 x 52 #[.int .i64 i, .int .i64 r, .int .i64 u, .bool false]); have hg := (by first | exact hg.go hb | exact hg.drew.go hb : Blk w4 w1.heap.size 52 table); have HK := (by first | exact HK.go hb | exact HK.drew.go hb : Kp w.heap.size w w4); have k0 : w4.cell? ⟨x, 0, none⟩ = some (.int .i64 i) := hx.cell 0; have k1 : w4.cell? ⟨x, 1, none⟩ = some (.int .i64 r) := hx.cell 1; have k2 : w4.cell? ⟨x, 2, none⟩ = some (.int .i64 u) := hx.cell 2; have k3 : w4.cell? ⟨x, 3, none⟩ = some (.bool false) := hx.cell 3))
        all_goals
          clear k0 k1 k2 k3
          go_wp2_with fail
          go_roundw
          case rel => exact ⟨k + 1, by omega, by go_num, hg, HK⟩
          case measure => simp [intOf]; omega
      · have hx := Blk.new wr 52 #[.int .i64 i, .int .i64 r, .int .i64 u, .bool true]
        replace hg := hg.alloc (.cells #[.int .i64 i, .int .i64 r, .int .i64 u, .bool true] 52)
        replace HK := HK.alloc (.cells #[.int .i64 i, .int .i64 r, .int .i64 u, .bool true] 52)
        go_wp2_with fail
        clear c0 c1 c2 c3
        generalize wr.alloc _ = w2 at *
        generalize wr.heap.size = x at *
        refine (new_yes i r u _ HM.out).mono ?_
        rintro e w3 ⟨b, rfl, hb0, hB, hn⟩
        clear hb0 hB
        replace hx := hx.grown hn (by simp)
        replace hg := hg.grown hn (by simp)
        replace HK := HK.none_ hn
        clear hn
        have k0 : w3.cell? ⟨x, 0, none⟩ = some (.int .i64 i) := hx.cell 0
        have k1 : w3.cell? ⟨x, 1, none⟩ = some (.int .i64 r) := hx.cell 1
        have k2 : w3.cell? ⟨x, 2, none⟩ = some (.int .i64 u) := hx.cell 2
        have k3 : w3.cell? ⟨x, 3, none⟩ = some (.bool true) := hx.cell 3
        go_wp2_with fail
        refine start_ (n := 29) (S := (fun w' => w'.cell? ⟨x, 0, none⟩ = some (.int .i64 i) ∧ w'.cell? ⟨x, 1, none⟩ = some (.int .i64 r) ∧ w'.cell? ⟨x, 2, none⟩ = some (.int .i64 u) ∧ w'.cell? ⟨x, 3, none⟩ = some (.bool true))) (ds := []) #[false, false, false, false, false, false, false, false, false, false, false, false, false, false, false, false, false, false, false, false, false, false, false, false, false, false, false, false, false] (by kernel_rfl) rfl rfl ⟨k0, k1, k2, k3⟩ (fun hHeld => ?_)
        replace hx := hx.drew
        replace hg := hg.drew
        replace HK := HK.drew
        clear k0 k1 k2 k3
        generalize w3.drew = w9 at *
        refine pure_ (i := 0) (N := some 54) (v := ?_) (a' := ?_) #[true, false, false, false, false, false, false, false, false, false, false, false, false, false, false, false, false, false, false, false, false, false, false, false, false, false, false, false, false] rfl rfl (by kernel_rfl) (fun _ _ _ h => h) (Or.inl ⟨by rfl, ?_⟩) ?_ ?_
        rotate_left
        · intro w'
          go_simp
          with_reducible rfl
        rotate_left
        · simp only [Act.put, List.setIfInBounds_toArray, List.set_cons_zero, List.set_cons_succ, i64_w, i32_w]
          rfl
        refine take_ (i := 1) (N := some 55) (v := ?_) (a' := ?_) #[true, true, false, false, false, false, false, false, false, false, false, false, false, false, false, false, false, false, false, false, false, false, false, false, false, false, false, false, false] rfl rfl (by kernel_rfl) (fun _ _ _ h => h) (Or.inl ⟨by rfl, ?_⟩) hHeld ?_ ?_
        rotate_left
        · rintro w' ⟨s0, s1, s2, s3⟩
          go_simp
          with_reducible rfl
        rotate_left
        · simp only [Act.put, List.setIfInBounds_toArray, List.set_cons_zero, List.set_cons_succ, i64_w, i32_w]
          rfl
        refine pure_ (i := 3) (N := some 57) (v := ?_) (a' := ?_) #[true, true, false, true, false, false, false, false, false, false, false, false, false, false, false, false, false, false, false, false, false, false, false, false, false, false, false, false, false] rfl rfl (by kernel_rfl) (fun _ _ _ h => h) (Or.inl ⟨by rfl, ?_⟩) ?_ ?_
        rotate_left
        · intro w'
          go_simp
          with_reducible rfl
        rotate_left
        · simp only [Act.put, List.setIfInBounds_toArray, List.set_cons_zero, List.set_cons_succ, i64_w, i32_w]
          rfl
        refine take_ (i := 4) (N := some 58) (v := ?_) (a' := ?_) #[true, true, false, true, true, false, false, false, false, false, false, false, false, false, false, false, false, false, false, false, false, false, false, false, false, false, false, false, false] rfl rfl (by kernel_rfl) (fun _ _ _ h => h) (Or.inl ⟨by rfl, ?_⟩) hHeld ?_ ?_
        rotate_left
        · rintro w' ⟨s0, s1, s2, s3⟩
          go_simp
          with_reducible rfl
        rotate_left
        · simp only [Act.put, List.setIfInBounds_toArray, List.set_cons_zero, List.set_cons_succ, i64_w, i32_w]
          rfl
        refine one_ (i := 2) (N := some 56) #[true, true, true, true, true, false, false, false, false, false, false, false, false, false, false, false, false, false, false, false, false, false, false, false, false, false, false, false, false] rfl rfl (by kernel_rfl) (by decide) (fun K hK => ?_)
        refine goes_ Try.func11 (by kernel_rfl) rfl #[.agg #[.int .i64 i, .int .i64 r, .int .i64 u]] (by rfl) rfl rfl (by (try simp only [List.map_toArray, List.map_cons, List.map_nil]); first | done | rfl | (simp only [List.length_drop, List.length_take]; rfl)) ?_
        with_reducible refine (may_any i r u _).mono ?_
        rintro e w4 ⟨rfl, hb⟩
        rw [HM.out]
        replace hx := hx.go hb
        replace hg := hg.go hb
        replace HK := HK.go hb
        clear hb
        refine ⟨_, rfl, ?_⟩
        refine hK.out _ _ ⟨hx.cell 0, hx.cell 1, hx.cell 2, hx.cell 3⟩ (fun hHeld => ?_)
        clear hK K
        refine norm_ (a' := ?_) ?_ ?_
        rotate_left
        · show Act.put _ (some 56) _ = _
          simp only [Act.put, List.setIfInBounds_toArray, List.set_cons_zero, List.set_cons_succ, i64_w, i32_w]
          rfl
        refine pure_ (i := 5) (N := some 59) (v := ?_) (a' := ?_) #[true, true, true, true, true, true, false, false, false, false, false, false, false, false, false, false, false, false, false, false, false, false, false, false, false, false, false, false, false] rfl rfl (by kernel_rfl) (fun _ _ _ h => h) (Or.inl ⟨by rfl, ?_⟩) ?_ ?_
        rotate_left
        · intro w'
          go_simp
          with_reducible rfl
        rotate_left
        · simp only [Act.put, List.setIfInBounds_toArray, List.set_cons_zero, List.set_cons_succ, i64_w, i32_w]
          rfl
        refine pure_ (i := 6) (N := some 60) (v := ?_) (a' := ?_) #[true, true, true, true, true, true, true, false, false, false, false, false, false, false, false, false, false, false, false, false, false, false, false, false, false, false, false, false, false] rfl rfl (by kernel_rfl) (fun _ _ _ h => h) (Or.inl ⟨by rfl, ?_⟩) ?_ ?_
        rotate_left
        · intro w'
          go_simp
          with_reducible rfl
        rotate_left
        · simp only [Act.put, List.setIfInBounds_toArray, List.set_cons_zero, List.set_cons_succ, i64_w, i32_w]
          rfl
        refine pure_ (i := 7) (N := some 61) (v := ?_) (a' := ?_) #[true, true, true, true, true, true, true, true, false, false, false, false, false, false, false, false, false, false, false, false, false, false, false, false, false, false, false, false, false] rfl rfl (by kernel_rfl) (fun _ _ _ h => h) (Or.inl ⟨by rfl, ?_⟩) ?_ ?_
        rotate_left
        · intro w'
          go_simp
          with_reducible rfl
        rotate_left
        · simp only [Act.put, List.setIfInBounds_toArray, List.set_cons_zero, List.set_cons_succ, i64_w, i32_w]
          rfl
        refine pure_ (i := 8) (N := some 62) (v := ?_) (a' := ?_) #[true, true, true, true, true, true, true, true, true, false, false, false, false, false, false, false, false, false, false, false, false, false, false, false, false, false, false, false, false] rfl rfl (by kernel_rfl) (fun _ _ _ h => h) (Or.inl ⟨by rfl, ?_⟩) ?_ ?_
        rotate_left
        · intro w'
          go_simp
          with_reducible rfl
        rotate_left
        · simp only [Act.put, List.setIfInBounds_toArray, List.set_cons_zero, List.set_cons_succ, i64_w, i32_w]
          rfl
        refine pure_ (i := 9) (N := some 63) (v := ?_) (a' := ?_) #[true, true, true, true, true, true, true, true, true, true, false, false, false, false, false, false, false, false, false, false, false, false, false, false, false, false, false, false, false] rfl rfl (by kernel_rfl) (fun _ _ _ h => h) (Or.inl ⟨by rfl, ?_⟩) ?_ ?_
        rotate_left
        · intro w'
          go_simp
          with_reducible rfl
        rotate_left
        · simp only [Act.put, List.setIfInBounds_toArray, List.set_cons_zero, List.set_cons_succ, i64_w, i32_w]
          rfl
        refine take_ (i := 10) (N := some 64) (v := ?_) (a' := ?_) #[true, true, true, true, true, true, true, true, true, true, true, false, false, false, false, false, false, false, false, false, false, false, false, false, false, false, false, false, false] rfl rfl (by kernel_rfl) (fun _ _ _ h => h) (Or.inl ⟨by rfl, ?_⟩) hHeld ?_ ?_
        rotate_left
        · rintro w' ⟨s0, s1, s2, s3⟩
          go_simp
          with_reducible rfl
        rotate_left
        · simp only [Act.put, List.setIfInBounds_toArray, List.set_cons_zero, List.set_cons_succ, i64_w, i32_w]
          rfl
        refine pure_ (i := 11) (N := some 65) (v := ?_) (a' := ?_) #[true, true, true, true, true, true, true, true, true, true, true, true, false, false, false, false, false, false, false, false, false, false, false, false, false, false, false, false, false] rfl rfl (by kernel_rfl) (fun _ _ _ h => h) (Or.inl ⟨by rfl, ?_⟩) ?_ ?_
        rotate_left
        · intro w'
          go_simp
          with_reducible rfl
        rotate_left
        · simp only [Act.put, List.setIfInBounds_toArray, List.set_cons_zero, List.set_cons_succ, i64_w, i32_w]
          rfl
        refine pure_ (i := 12) (N := some 66) (v := ?_) (a' := ?_) #[true, true, true, true, true, true, true, true, true, true, true, true, true, false, false, false, false, false, false, false, false, false, false, false, false, false, false, false, false] rfl rfl (by kernel_rfl) (fun _ _ _ h => h) (Or.inl ⟨by rfl, ?_⟩) ?_ ?_
        rotate_left
        · intro w'
          go_simp
          with_reducible rfl
        rotate_left
        · simp only [Act.put, List.setIfInBounds_toArray, List.set_cons_zero, List.set_cons_succ, i64_w, i32_w]
          rfl
        refine pure_ (i := 13) (N := some 67) (v := ?_) (a' := ?_) #[true, true, true, true, true, true, true, true, true, true, true, true, true, true, false, false, false, false, false, false, false, false, false, false, false, false, false, false, false] rfl rfl (by kernel_rfl) (fun _ _ _ h => h) (Or.inl ⟨by rfl, ?_⟩) ?_ ?_
        rotate_left
        · intro w'
          go_simp
          with_reducible rfl
        rotate_left
        · simp only [Act.put, List.setIfInBounds_toArray, List.set_cons_zero, List.set_cons_succ, i64_w, i32_w]
          rfl
        refine pure_ (i := 14) (N := some 68) (v := ?_) (a' := ?_) #[true, true, true, true, true, true, true, true, true, true, true, true, true, true, true, false, false, false, false, false, false, false, false, false, false, false, false, false, false] rfl rfl (by kernel_rfl) (fun _ _ _ h => h) (Or.inl ⟨by rfl, ?_⟩) ?_ ?_
        rotate_left
        · intro w'
          go_simp
          with_reducible rfl
        rotate_left
        · simp only [Act.put, List.setIfInBounds_toArray, List.set_cons_zero, List.set_cons_succ, i64_w, i32_w]
          rfl
        refine pure_ (i := 15) (N := some 69) (v := ?_) (a' := ?_) #[true, true, true, true, true, true, true, true, true, true, true, true, true, true, true, true, false, false, false, false, false, false, false, false, false, false, false, false, false] rfl rfl (by kernel_rfl) (fun _ _ _ h => h) (Or.inl ⟨by rfl, ?_⟩) ?_ ?_
        rotate_left
        · intro w'
          go_simp
          with_reducible rfl
        rotate_left
        · simp only [Act.put, List.setIfInBounds_toArray, List.set_cons_zero, List.set_cons_succ, i64_w, i32_w]
          rfl
        refine pure_ (i := 16) (N := some 70) (v := ?_) (a' := ?_) #[true, true, true, true, true, true, true, true, true, true, true, true, true, true, true, true, true, false, false, false, false, false, false, false, false, false, false, false, false] rfl rfl (by kernel_rfl) (fun _ _ _ h => h) (Or.inl ⟨by rfl, ?_⟩) ?_ ?_
        rotate_left
        · intro w'
          go_simp
          with_reducible rfl
        rotate_left
        · simp only [Act.put, List.setIfInBounds_toArray, List.set_cons_zero, List.set_cons_succ, i64_w, i32_w]
          rfl
        refine take_ (i := 17) (N := some 71) (v := ?_) (a' := ?_) #[true, true, true, true, true, true, true, true, true, true, true, true, true, true, true, true, true, true, false, false, false, false, false, false, false, false, false, false, false] rfl rfl (by kernel_rfl) (fun _ _ _ h => h) (Or.inl ⟨by rfl, ?_⟩) hHeld ?_ ?_
        rotate_left
        · rintro w' ⟨s0, s1, s2, s3⟩
          go_simp
          with_reducible rfl
        rotate_left
        · simp only [Act.put, List.setIfInBounds_toArray, List.set_cons_zero, List.set_cons_succ, i64_w, i32_w]
          rfl
        refine pure_ (i := 18) (N := some 72) (v := ?_) (a' := ?_) #[true, true, true, true, true, true, true, true, true, true, true, true, true, true, true, true, true, true, true, false, false, false, false, false, false, false, false, false, false] rfl rfl (by kernel_rfl) (fun _ _ _ h => h) (Or.inl ⟨by rfl, ?_⟩) ?_ ?_
        rotate_left
        · intro w'
          go_simp
          with_reducible rfl
        rotate_left
        · simp only [Act.put, List.setIfInBounds_toArray, List.set_cons_zero, List.set_cons_succ, i64_w, i32_w]
          rfl
        refine pure_ (i := 19) (N := some 73) (v := ?_) (a' := ?_) #[true, true, true, true, true, true, true, true, true, true, true, true, true, true, true, true, true, true, true, true, false, false, false, false, false, false, false, false, false] rfl rfl (by kernel_rfl) (fun _ _ _ h => h) (Or.inl ⟨by rfl, ?_⟩) ?_ ?_
        rotate_left
        · intro w'
          go_simp
          with_reducible rfl
        rotate_left
        · simp only [Act.put, List.setIfInBounds_toArray, List.set_cons_zero, List.set_cons_succ, i64_w, i32_w]
          rfl
        refine pure_ (i := 20) (N := some 74) (v := ?_) (a' := ?_) #[true, true, true, true, true, true, true, true, true, true, true, true, true, true, true, true, true, true, true, true, true, false, false, false, false, false, false, false, false] rfl rfl (by kernel_rfl) (fun _ _ _ h => h) (Or.inl ⟨by rfl, ?_⟩) ?_ ?_
        rotate_left
        · intro w'
          go_simp
          with_reducible rfl
        rotate_left
        · simp only [Act.put, List.setIfInBounds_toArray, List.set_cons_zero, List.set_cons_succ, i64_w, i32_w]
          rfl
        refine pure_ (i := 21) (N := some 75) (v := ?_) (a' := ?_) #[true, true, true, true, true, true, true, true, true, true, true, true, true, true, true, true, true, true, true, true, true, true, false, false, false, false, false, false, false] rfl rfl (by kernel_rfl) (fun _ _ _ h => h) (Or.inl ⟨by rfl, ?_⟩) ?_ ?_
        rotate_left
        · intro w'
          go_simp
          with_reducible rfl
        rotate_left
        · simp only [Act.put, List.setIfInBounds_toArray, List.set_cons_zero, List.set_cons_succ, i64_w, i32_w]
          rfl
        refine take_ (i := 22) (N := some 76) (v := ?_) (a' := ?_) #[true, true, true, true, true, true, true, true, true, true, true, true, true, true, true, true, true, true, true, true, true, true, true, false, false, false, false, false, false] rfl rfl (by kernel_rfl) (fun _ _ _ h => h) (Or.inl ⟨by rfl, ?_⟩) hHeld ?_ ?_
        rotate_left
        · rintro w' ⟨s0, s1, s2, s3⟩
          go_simp
          with_reducible rfl
        rotate_left
        · simp only [Act.put, List.setIfInBounds_toArray, List.set_cons_zero, List.set_cons_succ, i64_w, i32_w]
          rfl
        refine pure_ (i := 23) (N := some 77) (v := ?_) (a' := ?_) #[true, true, true, true, true, true, true, true, true, true, true, true, true, true, true, true, true, true, true, true, true, true, true, true, false, false, false, false, false] rfl rfl (by kernel_rfl) (fun _ _ _ h => h) (Or.inl ⟨by rfl, ?_⟩) ?_ ?_
        rotate_left
        · intro w'
          go_simp
          with_reducible rfl
        rotate_left
        · simp only [Act.put, List.setIfInBounds_toArray, List.set_cons_zero, List.set_cons_succ, i64_w, i32_w]
          rfl
        refine pure_ (i := 24) (N := some 78) (v := ?_) (a' := ?_) #[true, true, true, true, true, true, true, true, true, true, true, true, true, true, true, true, true, true, true, true, true, true, true, true, true, false, false, false, false] rfl rfl (by kernel_rfl) (fun _ _ _ h => h) (Or.inl ⟨by rfl, ?_⟩) ?_ ?_
        rotate_left
        · intro w'
          go_simp
          with_reducible rfl
        rotate_left
        · simp only [Act.put, List.setIfInBounds_toArray, List.set_cons_zero, List.set_cons_succ, i64_w, i32_w]
          rfl
        refine pure_ (i := 25) (N := some 79) (v := undef) (a' := ?_) #[true, true, true, true, true, true, true, true, true, true, true, true, true, true, true, true, true, true, true, true, true, true, true, true, true, true, false, false, false] rfl rfl (by kernel_rfl) (fun _ _ _ h => h) (Or.inr ⟨by rfl, rfl⟩) ?_ ?_
        rotate_left
        · simp only [Act.put, List.setIfInBounds_toArray, List.set_cons_zero, List.set_cons_succ, i64_w, i32_w]
          rfl
        refine pure_ (i := 26) (N := some 80) (v := undef) (a' := ?_) #[true, true, true, true, true, true, true, true, true, true, true, true, true, true, true, true, true, true, true, true, true, true, true, true, true, true, true, false, false] rfl rfl (by kernel_rfl) (fun _ _ _ h => h) (Or.inr ⟨by rfl, rfl⟩) ?_ ?_
        rotate_left
        · simp only [Act.put, List.setIfInBounds_toArray, List.set_cons_zero, List.set_cons_succ, i64_w, i32_w]
          rfl
        refine pure_ (i := 27) (N := some 81) (v := ?_) (a' := ?_) #[true, true, true, true, true, true, true, true, true, true, true, true, true, true, true, true, true, true, true, true, true, true, true, true, true, true, true, true, false] rfl rfl (by kernel_rfl) (fun _ _ _ h => h) (Or.inl ⟨by rfl, ?_⟩) ?_ ?_
        rotate_left
        · intro w'
          go_simp
          with_reducible rfl
        rotate_left
        · simp only [Act.put, List.setIfInBounds_toArray, List.set_cons_zero, List.set_cons_succ, i64_w, i32_w]
          rfl
        refine pure_ (i := 28) (N := some 82) (v := ?_) (a' := ?_) #[true, true, true, true, true, true, true, true, true, true, true, true, true, true, true, true, true, true, true, true, true, true, true, true, true, true, true, true, true] rfl rfl (by kernel_rfl) (fun _ _ _ h => h) (Or.inl ⟨by rfl, ?_⟩) ?_ ?_
        rotate_left
        · intro w'
          go_simp
          with_reducible rfl
        rotate_left
        · simp only [Act.put, List.setIfInBounds_toArray, List.set_cons_zero, List.set_cons_succ, i64_w, i32_w]
          rfl
        refine done_ (by kernel_rfl) ?_
        clear hHeld
        go_wp2_with fail
        go_roundw
        case rel => exact ⟨k + 1, by omega, by go_num, hg, HK⟩
        case measure => simp [intOf]; omega
    · obtain rfl : k = 8 := by omega
      clear hg
      have B0 : ∀ {b : Nat}, wr.heap.size ≤ b → w.heap.size ≤ b := fun h => Nat.le_trans HK.size h
      go_wp2_with fail
      refine (new_yes 1 1099511627776 1099511627776 _ (by decide)).mono ?_
      rintro e w2 ⟨b, rfl, hb, hB, hg⟩
      have hb0 := B0 hb
      replace HK := HK.none_ hg
      clear hg hb B0
      go_wp2_with fail
      refine (take_yes b 1 1099511627776 1099511627776 1099511627776 1099511627776 _ hB (by omega) (by omega) (by omega)).mono ?_
      clear hB
      rintro e w3 ⟨rfl, hB, hg⟩
      replace HK := HK.some_ hg hb0
      replace hB : Bu w3 b 1 1099511627776 1099511627776 0 := hB
      clear hg
      go_wp2_with fail
      refine (take_no b 1 1099511627776 1099511627776 0 1 _ hB (by omega) (by omega) (by omega)).mono ?_
      rintro e w4 ⟨rfl, rfl⟩
      go_wp2_with fail
      refine (take_yes b 1 1099511627776 1099511627776 0 0 _ hB (by omega) (by omega) (by omega)).mono ?_
      clear hB
      rintro e w5 ⟨rfl, hB, hg⟩
      replace HK := HK.some_ hg hb0
      replace hB : Bu w5 b 1 1099511627776 1099511627776 0 := hB
      clear hg
      go_wp2_with fail
      refine (take_no b 1 1099511627776 1099511627776 0 18446744073709551615 _ hB (by omega) (by omega) (by omega)).mono ?_
      rintro e w6 ⟨rfl, rfl⟩
      go_wp2_with fail
      refine (tick_neg b 1 1099511627776 1099511627776 0 (-1) _ (by omega)).mono ?_
      rintro e w7 ⟨rfl, rfl⟩
      go_wp2_with fail
      refine (level_any b 1 1099511627776 1099511627776 0 _ hB).mono ?_
      rintro e w8 ⟨rfl, rfl⟩
      go_wp2_with fail
      refine (tick_go b 1 1099511627776 1099511627776 0 0 _ hB (by omega) (by omega) (by omega) (by omega) (by omega) (by omega) (by omega)).mono ?_
      clear hB
      rintro e w9 ⟨rfl, hB, hg⟩
      replace HK := HK.some_ hg hb0
      replace hB : Bu w9 b 1 1099511627776 1099511627776 0 := hB
      clear hg
      go_wp2_with fail
      refine (level_any b 1 1099511627776 1099511627776 0 _ hB).mono ?_
      rintro e w10 ⟨rfl, rfl⟩
      go_wp2_with fail
      refine (tick_go b 1 1099511627776 1099511627776 0 9223372036854775807 _ hB (by omega) (by omega) (by omega) (by omega) (by omega) (by omega) (by omega)).mono ?_
      clear hB
      rintro e w11 ⟨rfl, hB, hg⟩
      replace HK := HK.some_ hg hb0
      replace hB : Bu w11 b 1 1099511627776 1099511627776 1099511627776 := hB
      clear hg
      go_wp2_with fail
      refine (level_any b 1 1099511627776 1099511627776 1099511627776 _ hB).mono ?_
      rintro e w12 ⟨rfl, rfl⟩
      clear hB
      go_wp2_with fail
      have B0 : ∀ {b : Nat}, w12.heap.size ≤ b → w.heap.size ≤ b := fun h => Nat.le_trans HK.size h
      refine (new_yes 1 0 5 _ (by decide)).mono ?_
      rintro e w13 ⟨c, rfl, hb, hC, hg⟩
      have hc0 := B0 hb
      replace HK := HK.none_ hg
      clear hg hb B0
      go_wp2_with fail
      have B0 : ∀ {b : Nat}, w13.heap.size ≤ b → w.heap.size ≤ b := fun h => Nat.le_trans HK.size h
      refine (new_yes 1 5 0 _ (by decide)).mono ?_
      rintro e w14 ⟨d, rfl, hb, hD, hg⟩
      have hd0 := B0 hb
      have hcd : c ≠ d := by have := hC.lt; omega
      replace HK := HK.none_ hg
      replace hC := hC.grown hg (by simp)
      clear hg hb B0
      go_wp2_with fail
      refine (take_yes c 1 0 5 5 5 _ hC (by omega) (by omega) (by omega)).mono ?_
      clear hC
      rintro e w15 ⟨rfl, hC, hg⟩
      replace HK := HK.some_ hg hc0
      replace hD := hD.grown hg (by simpa using hcd.symm)
      replace hC : Bu w15 c 1 0 5 0 := hC
      clear hg
      go_wp2_with fail
      refine (tick_zero c 1 5 0 9223372036854775807 _ hC (by omega)).mono ?_
      rintro e w16 ⟨rfl, rfl⟩
      go_wp2_with fail
      refine (level_any c 1 0 5 0 _ hC).mono ?_
      rintro e w17 ⟨rfl, rfl⟩
      go_wp2_with fail
      refine (take_yes d 1 5 0 0 0 _ hD (by omega) (by omega) (by omega)).mono ?_
      clear hD
      rintro e w18 ⟨rfl, hD, hg⟩
      replace HK := HK.some_ hg hd0
      replace hC := hC.grown hg (by simpa using hcd)
      replace hD : Bu w18 d 1 5 0 0 := hD
      clear hg
      go_wp2_with fail
      refine (take_no d 1 5 0 0 1 _ hD (by omega) (by omega) (by omega)).mono ?_
      rintro e w19 ⟨rfl, rfl⟩
      go_wp2_with fail
      refine (wait_now c 1 0 5 0 0 _ hC (by omega) (by omega) (by omega)).mono ?_
      rintro e w20 ⟨rfl, rfl⟩
      clear hC hD
      go_wp2_with fail
      refine (wait_nil 0 _).mono ?_
      rintro e w21 ⟨rfl, rfl⟩
      go_wp2_with fail
      refine (take_nil 0 _).mono ?_
      rintro e w22 ⟨rfl, rfl⟩
      go_wp2_with fail
      refine (tick_nil 1 _).mono ?_
      rintro e w23 ⟨rfl, rfl⟩
      go_wp2_with fail
      refine (level_nil _).mono ?_
      rintro e w24 ⟨rfl, rfl⟩
      go_wp2_with fail
      refine (meter_nil _).mono ?_
      rintro e w25 ⟨rfl, hg⟩
      replace HK := HK.none_ hg
      clear hg
      go_wp2_with fail
      refine (copy_nil _).mono ?_
      rintro e w26 ⟨rfl, rfl⟩
      go_wp2_with fail
      go_ret
      exact ⟨rfl, HK.below⟩
theorem core (w : World) : Calls Try.prog 8 #[] w fun e w' => e = .returned (.bool true) ∧ Below w.heap.size w w' := names_any w
end Go.Proofs.Ytohinfbahjepoaa.Names
