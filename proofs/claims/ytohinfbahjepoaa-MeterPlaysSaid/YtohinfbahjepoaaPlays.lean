/- Whatever is done to a bucket of any definition: each answer, and the level, are the reference's, or the definition may not be; a copy goes its own way. Conditions: none beyond the row's own. -/
import Derived.Test.YtohinfbahjepoaaOpen
import Derived.Test.YtohinfbahjepoaaRef
import Derived.Test.YtohinfbahjepoaaFuller
import Derived.IntWalk
import Derived.Laws.StructEq
set_option linter.unusedVariables false
set_option linter.unusedSimpArgs false
namespace Go.Proofs.Ytohinfbahjepoaa.Plays
open Go Go.RowKit Go.Proofs.Ytohinfbahjepoaa.Mem Go.Proofs.YtohinfbahjepoaaW.PrintWords Go.Proofs.Ytohinfbahjepoaa.Base Go.Proofs.Ytohinfbahjepoaa.Fuller
theorem blk_ne {w : World} {g g' : Nat} {t t' : TypeId} {cs cs' : Array Value} (h : Blk w g t cs) (h' : Blk w g' t' cs') (hne : t ≠ t') : g ≠ g' := by
  rintro rfl
  unfold Blk at h h'
  rw [h] at h'
  injection h' with h'
  injection h' with _ ht
  exact hne ht
def PRel (i r u : Int) (l : List Base.Act) (w : World) (t5 t7 t : Value) (wr : World) : Prop :=
  ∃ (k pb px : Nat) (v : Int), k ≤ l.length ∧ t5 = .pointer (some ⟨pb, 0, none⟩) ∧ t7 = .pointer (some ⟨px, 0, none⟩) ∧ t = .int .i64 k ∧ Bu wr pb i r u v ∧ Ref.Bu' wr px i r u v ∧ Fit r u v ∧ w.heap.size ≤ pb ∧ w.heap.size ≤ px ∧ Blk wr w.heap.size 23 #[.int .i64 i, .int .i64 r, .int .i64 u] ∧ Kp w.heap.size w wr
set_option maxHeartbeats 16000000 in
set_option maxRecDepth 100000 in
theorem main (i r u : Int) (A : Option Addr) (c : Nat) (l : List Base.Act) (w : World) (hA : Acts w A l) (hm : l.length ≤ 140737488351232) (hl : l.length ≤ 2000) (hmay : mayB i r u = true) :
    Calls Try.prog 7 #[.agg #[.int .i64 i, .int .i64 r, .int .i64 u], .slice A l.length c] w fun e w' => e = .returned (.bool true) ∧ Below w.heap.size w w' := by
  have hF := mayB_fit hmay
  go_enter Try.func7, Try.ntmps7
  go_wp2_with fail
  have HK := (Kp.refl w).alloc (.cells #[.int .i64 i, .int .i64 r, .int .i64 u] 23)
  have hk := Blk.new w 23 #[.int .i64 i, .int .i64 r, .int .i64 u]
  refine (new_yes i r u _ hmay).mono ?_
  rintro e w1 ⟨pb, rfl, hb, hB, hg⟩
  have hpb : w.heap.size ≤ pb := Nat.le_trans HK.size hb
  replace HK := HK.none_ hg
  replace hk := hk.grown hg (by simp)
  clear hg hb
  have k0 : w1.cell? ⟨w.heap.size, 0, none⟩ = some (.int .i64 i) := hk.cell 0
  have k1 : w1.cell? ⟨w.heap.size, 1, none⟩ = some (.int .i64 r) := hk.cell 1
  have k2 : w1.cell? ⟨w.heap.size, 2, none⟩ = some (.int .i64 u) := hk.cell 2
  go_wp2_with fail
  refine (Ref.new_yes i r u _ hmay).mono ?_
  rintro e w2 ⟨px, rfl, hb, hX, hg⟩
  have hpx : w.heap.size ≤ px := Nat.le_trans HK.size hb
  replace HK := HK.none_ hg
  replace hk := hk.grown hg (by simp)
  replace hB := hB.grown hg (by simp)
  clear hg hb k0 k1 k2
  have k0 : w2.cell? ⟨w.heap.size, 0, none⟩ = some (.int .i64 i) := hk.cell 0
  have k1 : w2.cell? ⟨w.heap.size, 1, none⟩ = some (.int .i64 r) := hk.cell 1
  have k2 : w2.cell? ⟨w.heap.size, 2, none⟩ = some (.int .i64 u) := hk.cell 2
  go_wp2_with fail
  go_region_held3 (fun w' => w'.cell? ⟨w.heap.size, 0, none⟩ = some (.int .i64 i) ∧ w'.cell? ⟨w.heap.size, 1, none⟩ = some (.int .i64 r) ∧ w'.cell? ⟨w.heap.size, 2, none⟩ = some (.int .i64 u)) (go_keep) (first
    | (go_at_call 11; (with_reducible refine (may_any i r u _).mono ?_); rintro e w3 ⟨rfl, hb⟩; have hk := (by first | exact hk.go hb | exact hk.drew.go hb : Blk w3 w.heap.size 23 #[.int .i64 i, .int .i64 r, .int .i64 u]); have hB := (by first | exact hB.go hb | exact hB.drew.go hb : Bu w3 pb i r u u); have hX := (by first | exact hX.go hb | exact hX.drew.go hb : Ref.Bu' w3 px i r u u); have HK := (by first | exact HK.go hb | exact HK.drew.go hb : Kp w.heap.size w w3); have k0 : w3.cell? ⟨w.heap.size, 0, none⟩ = some (.int .i64 i) := hk.cell 0; have k1 : w3.cell? ⟨w.heap.size, 1, none⟩ = some (.int .i64 r) := hk.cell 1; have k2 : w3.cell? ⟨w.heap.size, 2, none⟩ = some (.int .i64 u) := hk.cell 2)
    | (go_at_call 19; (with_reducible refine (Ref.may_any i r u _).mono ?_); rintro e w4 ⟨rfl, hb⟩; have hk := (hk.go hb : Blk w4 w.heap.size 23 #[.int .i64 i, .int .i64 r, .int .i64 u]); have hB := (hB.go hb : Bu w4 pb i r u u); have hX := (hX.go hb : Ref.Bu' w4 px i r u u); have HK := (HK.go hb : Kp w.heap.size w w4); have k0 : w4.cell? ⟨w.heap.size, 0, none⟩ = some (.int .i64 i) := hk.cell 0; have k1 : w4.cell? ⟨w.heap.size, 1, none⟩ = some (.int .i64 r) := hk.cell 1; have k2 : w4.cell? ⟨w.heap.size, 2, none⟩ = some (.int .i64 u) := hk.cell 2))
  all_goals
    have hR : PRel i r u l w (.pointer (some ⟨pb, 0, none⟩)) (.pointer (some ⟨px, 0, none⟩)) (.int .i64 0) w4 := ⟨0, pb, px, u, Nat.zero_le _, rfl, rfl, rfl, hB, hX, hF, hpb, hpx, hk, HK⟩
    clear k0 k1 k2 hk hB hX HK
    go_wp2_with fail
    go_loopw [5, 7, 9] (fun t5 t7 t wr => PRel i r u l w t5 t7 t wr) (fun _ _ t _ => l.length - (intOf t).toNat)
    case atStart => exact hR
    case round =>
      clear hR hF hpb hpx
      obtain ⟨k, pb, px, v, hkl, rfl, rfl, rfl, hB, hX, hF, hpb, hpx, hk, HK⟩ := hrel
      have hne : pb ≠ px := blk_ne hB hX (by decide)
      have hkb : w.heap.size ≠ pb := blk_ne hk hB (by decide)
      have hkx : w.heap.size ≠ px := blk_ne hk hX (by decide)
      by_cases hlt : k < l.length
      · obtain ⟨g, o, rfl, -, -, -⟩ := (hA.kp HK).at_ hlt
        have hok := hA.ok _ (List.getElem_mem hlt)
        obtain ⟨⟨x0, x1, x2⟩, hx⟩ : ∃ x, l[k] = x := ⟨_, rfl⟩
        rw [hx] at hok
        have HX := Lib.hid hx
        clear hx
        obtain ⟨o0, o1, o2⟩ := hok
        simp only [] at o0 o1 o2
        obtain ⟨d0, d1, d2⟩ := cells_of (hA.kp HK) hlt HX.out
        have hs := HK.size
        go_upto_region 13 with (fail)
        have ha := Blk.new wr 33 #[.int .u8 x0, .int .u64 x1, .int .i64 x2]
        replace hB := hB.alloc (.cells #[.int .u8 x0, .int .u64 x1, .int .i64 x2] 33)
        replace hX := hX.alloc (.cells #[.int .u8 x0, .int .u64 x1, .int .i64 x2] 33)
        replace hk := hk.alloc (.cells #[.int .u8 x0, .int .u64 x1, .int .i64 x2] 33)
        replace HK := HK.alloc (.cells #[.int .u8 x0, .int .u64 x1, .int .i64 x2] 33)
        clear d0 d1 d2 hs
        generalize wr.alloc _ = w3 at *
        generalize wr.heap.size = ga at *
        have hab : ga ≠ pb := blk_ne ha hB (by decide)
        have hax : ga ≠ px := blk_ne ha hX (by decide)
        have d0 : w3.cell? ⟨ga, 0, none⟩ = some (.int .u8 x0) := ha.cell 0
        have d1 : w3.cell? ⟨ga, 1, none⟩ = some (.int .u64 x1) := ha.cell 1
        have d2 : w3.cell? ⟨ga, 2, none⟩ = some (.int .i64 x2) := ha.cell 2
        by_cases q0 : x0 = 0
        · subst q0
          go_wp2_with fail
          go_region_held3 (fun w' => w'.cell? ⟨ga, 1, none⟩ = some (.int .u64 x1)) (go_keep) (first
            | (go_at_call 12; (with_reducible refine (take_any pb i r u v x1 _ (by first | exact hB | exact hB.drew) hF o1.1 o1.2).mono ?_); rintro e w6 ⟨rfl, hB, hg⟩; have hX := (by first | exact hX.grown hg (by simpa using hne.symm) | exact hX.drew.grown hg (by simpa using hne.symm) : Ref.Bu' w6 px i r u v); have hk := (by first | exact hk.grown hg (by simpa using hkb) | exact hk.drew.grown hg (by simpa using hkb) : Blk w6 w.heap.size 23 #[.int .i64 i, .int .i64 r, .int .i64 u]); have ha := (by first | exact ha.grown hg (by simpa using hab) | exact ha.drew.grown hg (by simpa using hab) : Blk w6 ga 33 #[.int .u8 0, .int .u64 x1, .int .i64 x2]); have HK := (by first | exact HK.some_ hg hpb | exact HK.drew.some_ hg hpb : Kp w.heap.size w w6); have dd : w6.cell? ⟨ga, 1, none⟩ = some (.int .u64 x1) := ha.cell 1)
            | (go_at_call 20; (with_reducible refine (Ref.take_any px i r u v x1 _ hX hF o1.1 o1.2).mono ?_); rintro e w7 ⟨rfl, hX, hg⟩; have hB := (by exact hB.grown hg (by simpa using hne) : Bu w7 pb i r u (takeL x1 v)); have hk := (by exact hk.grown hg (by simpa using hkx) : Blk w7 w.heap.size 23 #[.int .i64 i, .int .i64 r, .int .i64 u]); have ha := (by exact ha.grown hg (by simpa using hax) : Blk w7 ga 33 #[.int .u8 0, .int .u64 x1, .int .i64 x2]); have HK := (by exact HK.some_ hg hpx : Kp w.heap.size w w7); have dd : w7.cell? ⟨ga, 1, none⟩ = some (.int .u64 x1) := ha.cell 1))
          all_goals
            replace hF := fit_take (n := x1) hF o1.1
            clear d0 d1 d2
            generalize takeL x1 v = v at *
            generalize takeB x1 _ = tB at *
            have hal := ha.cell 1
            simp only [List.size_toArray, List.length_cons, List.length_nil, List.getElem?_toArray, List.getElem?_cons_succ, List.getElem?_cons_zero] at hal
            go_wp2_with fail
            refine (Ref.wait_all pb i r u v x1 _ hB hF o1.1 o1.2).mono ?_
            rintro e w8 ⟨rfl, j1, rfl⟩
            replace hB := hB.drewN j1
            replace hX := hX.drewN j1
            replace hk := hk.drewN j1
            replace ha := ha.drewN j1
            replace HK := HK.drewN j1
            clear hal
            generalize World.drewN _ j1 = w8 at *
            have hal := ha.cell 1
            simp only [List.size_toArray, List.length_cons, List.length_nil, List.getElem?_toArray, List.getElem?_cons_succ, List.getElem?_cons_zero] at hal
            go_wp2_with fail
            refine (Ref.wait_any px i r u v x1 _ hX hF o1.1 o1.2).mono ?_
            rintro e w9 ⟨rfl, j2, rfl⟩
            replace hB := hB.drewN j2
            replace hX := hX.drewN j2
            replace hk := hk.drewN j2
            replace HK := HK.drewN j2
            clear hal ha
            generalize World.drewN _ j2 = w9 at *
            generalize Ref.waitT r u v x1 = tt at *
            generalize Ref.waitB r u v x1 = tb at *
            go_wp2_with fail
            have k0 : w9.cell? ⟨w.heap.size, 0, none⟩ = some (.int .i64 i) := hk.cell 0
            have k1 : w9.cell? ⟨w.heap.size, 1, none⟩ = some (.int .i64 r) := hk.cell 1
            have k2 : w9.cell? ⟨w.heap.size, 2, none⟩ = some (.int .i64 u) := hk.cell 2
            have x3 := Ref.bu3' hX
            go_region_held3 (fun w' => w'.cell? ⟨px, 3, none⟩ = some (.int .i64 v) ∧ w'.cell? ⟨w.heap.size, 0, none⟩ = some (.int .i64 i) ∧ w'.cell? ⟨w.heap.size, 1, none⟩ = some (.int .i64 r) ∧ w'.cell? ⟨w.heap.size, 2, none⟩ = some (.int .i64 u)) (go_keep) (first
              | (go_at_call 13; (with_reducible refine (level_any pb i r u v _ (by first | exact hB | exact hB.drew)).mono ?_); rintro e w10 ⟨rfl, rfl⟩)
              | (go_at_call 24; (with_reducible refine (meter_any pb i r u v _ (by first | exact hB | exact hB.drew)).mono ?_); rintro e w10 ⟨rfl, hg⟩; have hk := (by first | exact hk.grown hg (by simp) | exact hk.drew.grown hg (by simp) : Blk w10 w.heap.size 23 #[.int .i64 i, .int .i64 r, .int .i64 u]); have hX := (by first | exact hX.grown hg (by simp) | exact hX.drew.grown hg (by simp) : Ref.Bu' w10 px i r u v); have hB := (by first | exact hB.grown hg (by simp) | exact hB.drew.grown hg (by simp) : Bu w10 pb i r u v); have HK := (by first | exact HK.none_ hg | exact HK.drew.none_ hg : Kp w.heap.size w w10); have k0 : w10.cell? ⟨w.heap.size, 0, none⟩ = some (.int .i64 i) := hk.cell 0; have k1 : w10.cell? ⟨w.heap.size, 1, none⟩ = some (.int .i64 r) := hk.cell 1; have k2 : w10.cell? ⟨w.heap.size, 2, none⟩ = some (.int .i64 u) := hk.cell 2; have x3 := Ref.bu3' hX))
            all_goals
              clear k0 k1 k2 x3
              go_wp2_with fail
              go_roundw
              case rel => exact ⟨k + 1, pb, px, v, by omega, rfl, rfl, by go_num, hB, hX, hF, hpb, hpx, hk, HK⟩
              case measure => simp [intOf]; omega
        · by_cases q1 : x0 = 1
          · subst q1
            have e0 : ((1 : Int) == 0) = false := rfl
            go_wp2_with fail
            go_region_held3 (fun w' => w'.cell? ⟨ga, 2, none⟩ = some (.int .i64 x2)) (go_keep) (first
              | (go_at_call 14; (with_reducible refine (tick_any pb i r u v x2 _ (by first | exact hB | exact hB.drew) hF o2.1 o2.2).mono ?_); rintro e w6 ⟨rfl, hB, hg⟩; have hX := (by first | exact hX.grown hg (by simpa using hne.symm) | exact hX.drew.grown hg (by simpa using hne.symm) : Ref.Bu' w6 px i r u v); have hk := (by first | exact hk.grown hg (by simpa using hkb) | exact hk.drew.grown hg (by simpa using hkb) : Blk w6 w.heap.size 23 #[.int .i64 i, .int .i64 r, .int .i64 u]); have ha := (by first | exact ha.grown hg (by simpa using hab) | exact ha.drew.grown hg (by simpa using hab) : Blk w6 ga 33 #[.int .u8 1, .int .u64 x1, .int .i64 x2]); have HK := (by first | exact HK.some_ hg hpb | exact HK.drew.some_ hg hpb : Kp w.heap.size w w6); have dd : w6.cell? ⟨ga, 2, none⟩ = some (.int .i64 x2) := ha.cell 2)
              | (go_at_call 21; (with_reducible refine (Ref.tick_any px i r u v x2 _ hX hF o2.1 o2.2).mono ?_); rintro e w7 ⟨rfl, hX, hg⟩; have hB := (by exact hB.grown hg (by simpa using hne) : Bu w7 pb i r u (tickN r u v x2)); have hk := (by exact hk.grown hg (by simpa using hkx) : Blk w7 w.heap.size 23 #[.int .i64 i, .int .i64 r, .int .i64 u]); have ha := (by exact ha.grown hg (by simpa using hax) : Blk w7 ga 33 #[.int .u8 1, .int .u64 x1, .int .i64 x2]); have HK := (by exact HK.some_ hg hpx : Kp w.heap.size w w7); have dd : w7.cell? ⟨ga, 2, none⟩ = some (.int .i64 x2) := ha.cell 2))
            all_goals
              replace hF := fit_tick (n := x2) hF
              clear d0 d1 d2
              generalize tickN r u v x2 = v at *
              generalize tickE x2 = tE at *
              have hal := ha.cell 1
              simp only [List.size_toArray, List.length_cons, List.length_nil, List.getElem?_toArray, List.getElem?_cons_succ, List.getElem?_cons_zero] at hal
              go_wp2_with fail
              refine (Ref.wait_all pb i r u v x1 _ hB hF o1.1 o1.2).mono ?_
              rintro e w8 ⟨rfl, j1, rfl⟩
              replace hB := hB.drewN j1
              replace hX := hX.drewN j1
              replace hk := hk.drewN j1
              replace ha := ha.drewN j1
              replace HK := HK.drewN j1
              clear hal
              generalize World.drewN _ j1 = w8 at *
              have hal := ha.cell 1
              simp only [List.size_toArray, List.length_cons, List.length_nil, List.getElem?_toArray, List.getElem?_cons_succ, List.getElem?_cons_zero] at hal
              go_wp2_with fail
              refine (Ref.wait_any px i r u v x1 _ hX hF o1.1 o1.2).mono ?_
              rintro e w9 ⟨rfl, j2, rfl⟩
              replace hB := hB.drewN j2
              replace hX := hX.drewN j2
              replace hk := hk.drewN j2
              replace HK := HK.drewN j2
              clear hal ha
              generalize World.drewN _ j2 = w9 at *
              generalize Ref.waitT r u v x1 = tt at *
              generalize Ref.waitB r u v x1 = tb at *
              go_wp2_with fail
              have k0 : w9.cell? ⟨w.heap.size, 0, none⟩ = some (.int .i64 i) := hk.cell 0
              have k1 : w9.cell? ⟨w.heap.size, 1, none⟩ = some (.int .i64 r) := hk.cell 1
              have k2 : w9.cell? ⟨w.heap.size, 2, none⟩ = some (.int .i64 u) := hk.cell 2
              have x3 := Ref.bu3' hX
              go_region_held3 (fun w' => w'.cell? ⟨px, 3, none⟩ = some (.int .i64 v) ∧ w'.cell? ⟨w.heap.size, 0, none⟩ = some (.int .i64 i) ∧ w'.cell? ⟨w.heap.size, 1, none⟩ = some (.int .i64 r) ∧ w'.cell? ⟨w.heap.size, 2, none⟩ = some (.int .i64 u)) (go_keep) (first
                | (go_at_call 13; (with_reducible refine (level_any pb i r u v _ (by first | exact hB | exact hB.drew)).mono ?_); rintro e w10 ⟨rfl, rfl⟩)
                | (go_at_call 24; (with_reducible refine (meter_any pb i r u v _ (by first | exact hB | exact hB.drew)).mono ?_); rintro e w10 ⟨rfl, hg⟩; have hk := (by first | exact hk.grown hg (by simp) | exact hk.drew.grown hg (by simp) : Blk w10 w.heap.size 23 #[.int .i64 i, .int .i64 r, .int .i64 u]); have hX := (by first | exact hX.grown hg (by simp) | exact hX.drew.grown hg (by simp) : Ref.Bu' w10 px i r u v); have hB := (by first | exact hB.grown hg (by simp) | exact hB.drew.grown hg (by simp) : Bu w10 pb i r u v); have HK := (by first | exact HK.none_ hg | exact HK.drew.none_ hg : Kp w.heap.size w w10); have k0 : w10.cell? ⟨w.heap.size, 0, none⟩ = some (.int .i64 i) := hk.cell 0; have k1 : w10.cell? ⟨w.heap.size, 1, none⟩ = some (.int .i64 r) := hk.cell 1; have k2 : w10.cell? ⟨w.heap.size, 2, none⟩ = some (.int .i64 u) := hk.cell 2; have x3 := Ref.bu3' hX))
              all_goals
                clear k0 k1 k2 x3
                go_wp2_with fail
                go_roundw
                case rel => exact ⟨k + 1, pb, px, v, by omega, rfl, rfl, by go_num, hB, hX, hF, hpb, hpx, hk, HK⟩
                case measure => simp [intOf]; omega
          · by_cases q2 : x0 = 2
            · subst q2
              go_wp2_with fail
              refine (copy_yes pb i r u v _ hB).mono ?_
              rintro e w5 ⟨pc, rfl, hc, hC, hg⟩
              have hpc : w.heap.size ≤ pc := Nat.le_trans HK.size hc
              have n1 : pb ≠ pc := by have := hB.lt; omega
              have n2 : px ≠ pc := by have := hX.lt; omega
              have n3 : ga ≠ pc := by have := ha.lt; omega
              replace hB := hB.grown hg (by simp)
              replace hX := hX.grown hg (by simp)
              replace hk := hk.grown hg (by simp)
              replace ha := ha.grown hg (by simp)
              replace HK := HK.none_ hg
              clear hg hc
              clear d0 d1 d2
              have d0 : w5.cell? ⟨ga, 0, none⟩ = some (.int .u8 2) := ha.cell 0
              have d1 : w5.cell? ⟨ga, 1, none⟩ = some (.int .u64 x1) := ha.cell 1
              have d2 : w5.cell? ⟨ga, 2, none⟩ = some (.int .i64 x2) := ha.cell 2
              go_wp2_with fail
              refine (Ref.copy_yes px i r u v _ hX).mono ?_
              rintro e w6 ⟨py, rfl, hc, hY, hg⟩
              have hpy : w.heap.size ≤ py := Nat.le_trans HK.size hc
              have n4 : pb ≠ py := by have := hB.lt; omega
              have n5 : pc ≠ py := by have := hC.lt; omega
              replace hB := hB.grown hg (by simp)
              replace hC := hC.grown hg (by simp)
              replace hk := hk.grown hg (by simp)
              replace ha := ha.grown hg (by simp)
              replace HK := HK.none_ hg
              clear hg hc
              clear d0 d1 d2
              have d0 : w6.cell? ⟨ga, 0, none⟩ = some (.int .u8 2) := ha.cell 0
              have d1 : w6.cell? ⟨ga, 1, none⟩ = some (.int .u64 x1) := ha.cell 1
              have d2 : w6.cell? ⟨ga, 2, none⟩ = some (.int .i64 x2) := ha.cell 2
              go_wp2_with fail
              refine (take_any pb i r u v x1 _ hB hF o1.1 o1.2).mono ?_
              clear hB
              rintro e w7 ⟨rfl, hB, hg⟩
              replace hC := hC.grown hg (by simpa using n1.symm)
              replace hY := hY.grown hg (by simpa using n4.symm)
              replace hk := hk.grown hg (by simpa using hkb)
              replace ha := ha.grown hg (by simpa using hab)
              replace HK := HK.some_ hg hpb
              clear hg
              clear d0 d1 d2
              have d0 : w7.cell? ⟨ga, 0, none⟩ = some (.int .u8 2) := ha.cell 0
              have d1 : w7.cell? ⟨ga, 1, none⟩ = some (.int .u64 x1) := ha.cell 1
              have d2 : w7.cell? ⟨ga, 2, none⟩ = some (.int .i64 x2) := ha.cell 2
              go_wp2_with fail
              refine (tick_any pb i r u (takeL x1 v) x2 _ hB (fit_take hF o1.1) o2.1 o2.2).mono ?_
              clear hB
              rintro e w8 ⟨rfl, hB, hg⟩
              replace hC := hC.grown hg (by simpa using n1.symm)
              replace hY := hY.grown hg (by simpa using n4.symm)
              replace hk := hk.grown hg (by simpa using hkb)
              replace ha := ha.grown hg (by simpa using hab)
              replace HK := HK.some_ hg hpb
              clear hg hB hX d0 d1 d2 hpb hpx
              have hB := hC
              have hX := hY
              clear hC hY n1 n2 n3 n4 hkb hab hne hkx hax
              have hpb := hpc
              have hpx := hpy
              generalize pc = pb at *
              generalize py = px at *
              have hal := ha.cell 1
              simp only [List.size_toArray, List.length_cons, List.length_nil, List.getElem?_toArray, List.getElem?_cons_succ, List.getElem?_cons_zero] at hal
              go_wp2_with fail
              refine (Ref.wait_all pb i r u v x1 _ hB hF o1.1 o1.2).mono ?_
              rintro e w8 ⟨rfl, j1, rfl⟩
              replace hB := hB.drewN j1
              replace hX := hX.drewN j1
              replace hk := hk.drewN j1
              replace ha := ha.drewN j1
              replace HK := HK.drewN j1
              clear hal
              generalize World.drewN _ j1 = w8 at *
              have hal := ha.cell 1
              simp only [List.size_toArray, List.length_cons, List.length_nil, List.getElem?_toArray, List.getElem?_cons_succ, List.getElem?_cons_zero] at hal
              go_wp2_with fail
              refine (Ref.wait_any px i r u v x1 _ hX hF o1.1 o1.2).mono ?_
              rintro e w9 ⟨rfl, j2, rfl⟩
              replace hB := hB.drewN j2
              replace hX := hX.drewN j2
              replace hk := hk.drewN j2
              replace HK := HK.drewN j2
              clear hal ha
              generalize World.drewN _ j2 = w9 at *
              generalize Ref.waitT r u v x1 = tt at *
              generalize Ref.waitB r u v x1 = tb at *
              go_wp2_with fail
              have k0 : w9.cell? ⟨w.heap.size, 0, none⟩ = some (.int .i64 i) := hk.cell 0
              have k1 : w9.cell? ⟨w.heap.size, 1, none⟩ = some (.int .i64 r) := hk.cell 1
              have k2 : w9.cell? ⟨w.heap.size, 2, none⟩ = some (.int .i64 u) := hk.cell 2
              have x3 := Ref.bu3' hX
              go_region_held3 (fun w' => w'.cell? ⟨px, 3, none⟩ = some (.int .i64 v) ∧ w'.cell? ⟨w.heap.size, 0, none⟩ = some (.int .i64 i) ∧ w'.cell? ⟨w.heap.size, 1, none⟩ = some (.int .i64 r) ∧ w'.cell? ⟨w.heap.size, 2, none⟩ = some (.int .i64 u)) (go_keep) (first
                | (go_at_call 13; (with_reducible refine (level_any pb i r u v _ (by first | exact hB | exact hB.drew)).mono ?_); rintro e w10 ⟨rfl, rfl⟩)
                | (go_at_call 24; (with_reducible refine (meter_any pb i r u v _ (by first | exact hB | exact hB.drew)).mono ?_); rintro e w10 ⟨rfl, hg⟩; have hk := (by first | exact hk.grown hg (by simp) | exact hk.drew.grown hg (by simp) : Blk w10 w.heap.size 23 #[.int .i64 i, .int .i64 r, .int .i64 u]); have hX := (by first | exact hX.grown hg (by simp) | exact hX.drew.grown hg (by simp) : Ref.Bu' w10 px i r u v); have hB := (by first | exact hB.grown hg (by simp) | exact hB.drew.grown hg (by simp) : Bu w10 pb i r u v); have HK := (by first | exact HK.none_ hg | exact HK.drew.none_ hg : Kp w.heap.size w w10); have k0 : w10.cell? ⟨w.heap.size, 0, none⟩ = some (.int .i64 i) := hk.cell 0; have k1 : w10.cell? ⟨w.heap.size, 1, none⟩ = some (.int .i64 r) := hk.cell 1; have k2 : w10.cell? ⟨w.heap.size, 2, none⟩ = some (.int .i64 u) := hk.cell 2; have x3 := Ref.bu3' hX))
              all_goals
                clear k0 k1 k2 x3
                go_wp2_with fail
                go_roundw
                case rel => exact ⟨k + 1, pb, px, v, by omega, rfl, rfl, by go_num, hB, hX, hF, hpb, hpx, hk, HK⟩
                case measure => simp [intOf]; omega
            · have e0 : (x0 == 0) = false := beq_eq_false_iff_ne.mpr q0
              have e1 : (x0 == 1) = false := beq_eq_false_iff_ne.mpr q1
              have e2 : (x0 == 2) = false := beq_eq_false_iff_ne.mpr q2
              have hal := ha.cell 1
              simp only [List.size_toArray, List.length_cons, List.length_nil, List.getElem?_toArray, List.getElem?_cons_succ, List.getElem?_cons_zero] at hal
              go_wp2_with fail
              refine (Ref.wait_all pb i r u v x1 _ hB hF o1.1 o1.2).mono ?_
              rintro e w8 ⟨rfl, j1, rfl⟩
              replace hB := hB.drewN j1
              replace hX := hX.drewN j1
              replace hk := hk.drewN j1
              replace ha := ha.drewN j1
              replace HK := HK.drewN j1
              clear hal
              generalize World.drewN _ j1 = w8 at *
              have hal := ha.cell 1
              simp only [List.size_toArray, List.length_cons, List.length_nil, List.getElem?_toArray, List.getElem?_cons_succ, List.getElem?_cons_zero] at hal
              go_wp2_with fail
              refine (Ref.wait_any px i r u v x1 _ hX hF o1.1 o1.2).mono ?_
              rintro e w9 ⟨rfl, j2, rfl⟩
              replace hB := hB.drewN j2
              replace hX := hX.drewN j2
              replace hk := hk.drewN j2
              replace HK := HK.drewN j2
              clear hal ha
              generalize World.drewN _ j2 = w9 at *
              generalize Ref.waitT r u v x1 = tt at *
              generalize Ref.waitB r u v x1 = tb at *
              go_wp2_with fail
              have k0 : w9.cell? ⟨w.heap.size, 0, none⟩ = some (.int .i64 i) := hk.cell 0
              have k1 : w9.cell? ⟨w.heap.size, 1, none⟩ = some (.int .i64 r) := hk.cell 1
              have k2 : w9.cell? ⟨w.heap.size, 2, none⟩ = some (.int .i64 u) := hk.cell 2
              have x3 := Ref.bu3' hX
              go_region_held3 (fun w' => w'.cell? ⟨px, 3, none⟩ = some (.int .i64 v) ∧ w'.cell? ⟨w.heap.size, 0, none⟩ = some (.int .i64 i) ∧ w'.cell? ⟨w.heap.size, 1, none⟩ = some (.int .i64 r) ∧ w'.cell? ⟨w.heap.size, 2, none⟩ = some (.int .i64 u)) (go_keep) (first
                | (go_at_call 13; (with_reducible refine (level_any pb i r u v _ (by first | exact hB | exact hB.drew)).mono ?_); rintro e w10 ⟨rfl, rfl⟩)
                | (go_at_call 24; (with_reducible refine (meter_any pb i r u v _ (by first | exact hB | exact hB.drew)).mono ?_); rintro e w10 ⟨rfl, hg⟩; have hk := (by first | exact hk.grown hg (by simp) | exact hk.drew.grown hg (by simp) : Blk w10 w.heap.size 23 #[.int .i64 i, .int .i64 r, .int .i64 u]); have hX := (by first | exact hX.grown hg (by simp) | exact hX.drew.grown hg (by simp) : Ref.Bu' w10 px i r u v); have hB := (by first | exact hB.grown hg (by simp) | exact hB.drew.grown hg (by simp) : Bu w10 pb i r u v); have HK := (by first | exact HK.none_ hg | exact HK.drew.none_ hg : Kp w.heap.size w w10); have k0 : w10.cell? ⟨w.heap.size, 0, none⟩ = some (.int .i64 i) := hk.cell 0; have k1 : w10.cell? ⟨w.heap.size, 1, none⟩ = some (.int .i64 r) := hk.cell 1; have k2 : w10.cell? ⟨w.heap.size, 2, none⟩ = some (.int .i64 u) := hk.cell 2; have x3 := Ref.bu3' hX))
              all_goals
                clear k0 k1 k2 x3
                go_wp2_with fail
                go_roundw
                case rel => exact ⟨k + 1, pb, px, v, by omega, rfl, rfl, by go_num, hB, hX, hF, hpb, hpx, hk, HK⟩
                case measure => simp [intOf]; omega
      · obtain rfl : k = l.length := by omega
        go_wp2_with fail
        refine (awake_any _).mono ?_
        rintro e w5 ⟨rfl, hb⟩
        replace HK := HK.go hb
        go_wp2_with fail
        go_ret
        exact ⟨rfl, HK.below⟩
set_option maxHeartbeats 4000000 in
set_option maxRecDepth 100000 in
theorem none_ (i r u : Int) (A : Option Addr) (c : Nat) (l : List Base.Act) (w : World) (hm : l.length ≤ 140737488351232) (hl : l.length ≤ 2000) (hmay : mayB i r u = false) :
    Calls Try.prog 7 #[.agg #[.int .i64 i, .int .i64 r, .int .i64 u], .slice A l.length c] w fun e w' => e = .returned (.bool true) ∧ Below w.heap.size w w' := by
  have HM := Lib.hid hmay
  clear hmay
  go_enter Try.func7, Try.ntmps7
  go_wp2_with fail
  have HK := (Kp.refl w).alloc (.cells #[.int .i64 i, .int .i64 r, .int .i64 u] 23)
  have hk := Blk.new w 23 #[.int .i64 i, .int .i64 r, .int .i64 u]
  refine (new_no i r u _ HM.out).mono ?_
  rintro e w1 ⟨rfl, hg⟩
  replace HK := HK.none_ hg
  replace hk := hk.grown hg (by simp)
  clear hg
  have k0 : w1.cell? ⟨w.heap.size, 0, none⟩ = some (.int .i64 i) := hk.cell 0
  have k1 : w1.cell? ⟨w.heap.size, 1, none⟩ = some (.int .i64 r) := hk.cell 1
  have k2 : w1.cell? ⟨w.heap.size, 2, none⟩ = some (.int .i64 u) := hk.cell 2
  go_wp2_with fail
  refine (Ref.new_no i r u _ HM.out).mono ?_
  rintro e w2 ⟨rfl, hg⟩
  replace HK := HK.none_ hg
  replace hk := hk.grown hg (by simp)
  clear hg k0 k1 k2
  have k0 : w2.cell? ⟨w.heap.size, 0, none⟩ = some (.int .i64 i) := hk.cell 0
  have k1 : w2.cell? ⟨w.heap.size, 1, none⟩ = some (.int .i64 r) := hk.cell 1
  have k2 : w2.cell? ⟨w.heap.size, 2, none⟩ = some (.int .i64 u) := hk.cell 2
  go_wp2_with fail
  go_region_held3 (fun w' => w'.cell? ⟨w.heap.size, 0, none⟩ = some (.int .i64 i) ∧ w'.cell? ⟨w.heap.size, 1, none⟩ = some (.int .i64 r) ∧ w'.cell? ⟨w.heap.size, 2, none⟩ = some (.int .i64 u)) (go_keep) (first
    | (go_at_call 11; (with_reducible refine (may_any i r u _).mono ?_); rintro e w3 ⟨rfl, hb⟩; rw [HM.out]; have hk := (by first | exact hk.go hb | exact hk.drew.go hb : Blk w3 w.heap.size 23 #[.int .i64 i, .int .i64 r, .int .i64 u]); have HK := (by first | exact HK.go hb | exact HK.drew.go hb : Kp w.heap.size w w3); have k0 : w3.cell? ⟨w.heap.size, 0, none⟩ = some (.int .i64 i) := hk.cell 0; have k1 : w3.cell? ⟨w.heap.size, 1, none⟩ = some (.int .i64 r) := hk.cell 1; have k2 : w3.cell? ⟨w.heap.size, 2, none⟩ = some (.int .i64 u) := hk.cell 2)
    | (go_at_call 19; (with_reducible refine (Ref.may_any i r u _).mono ?_); rintro e w4 ⟨rfl, hb⟩; rw [HM.out]; have hk := (by first | exact hk.go hb | exact hk.drew.go hb : Blk w4 w.heap.size 23 #[.int .i64 i, .int .i64 r, .int .i64 u]); have HK := (by first | exact HK.go hb | exact HK.drew.go hb : Kp w.heap.size w w4); have k0 : w4.cell? ⟨w.heap.size, 0, none⟩ = some (.int .i64 i) := hk.cell 0; have k1 : w4.cell? ⟨w.heap.size, 1, none⟩ = some (.int .i64 r) := hk.cell 1; have k2 : w4.cell? ⟨w.heap.size, 2, none⟩ = some (.int .i64 u) := hk.cell 2))
  all_goals
    go_wp2_with fail
    refine (awake_any _).mono ?_
    rintro e w5 ⟨rfl, hb⟩
    replace HK := HK.go hb
    go_wp2_with fail
    go_ret
    exact ⟨rfl, HK.below⟩
theorem core (i r u : Int) (A : Option Addr) (c : Nat) (l : List Base.Act) (w : World) (_ : (Lit.int .i64 i).wf = true) (_ : l.length ≤ c) (hm : l.length * 24 ≤ 140737488351232) (_ : ∀ x ∈ l, ActOk x) (hA : Acts w A l) :
    Calls Try.prog 7 #[.agg #[.int .i64 i, .int .i64 r, .int .i64 u], .slice A l.length c] w fun e w' => e = .returned (.bool true) ∧ Below w.heap.size w w' := by
  have hm' : l.length ≤ 140737488351232 := by omega
  by_cases hl : l.length ≤ 2000
  · cases h : mayB i r u with
    | true => exact main i r u A c l w hA hm' hl h
    | false => exact none_ i r u A c l w hm' hl h
  · go_enter Try.func7, Try.ntmps7
    go_wp2_with fail
    have HK := (Kp.refl w).alloc (.cells #[.int .i64 i, .int .i64 r, .int .i64 u] 23)
    refine (awake_any _).mono ?_
    rintro e w5 ⟨rfl, hb⟩
    replace HK := HK.go hb
    go_wp2_with fail
    go_ret
    exact ⟨rfl, HK.below⟩
end Go.Proofs.Ytohinfbahjepoaa.Plays
