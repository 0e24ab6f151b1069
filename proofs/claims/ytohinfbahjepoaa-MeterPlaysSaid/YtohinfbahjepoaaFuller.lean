/- What is refused takes nothing; the fuller one of two buckets gives all that the other one gives, and stays at least as full. Conditions: none beyond the row's own. -/
import Derived.Test.YtohinfbahjepoaaOpen
set_option linter.unusedVariables false
set_option linter.unusedSimpArgs false
namespace Go.Proofs.Ytohinfbahjepoaa.Fuller
open Go Go.RowKit Go.Proofs.Ytohinfbahjepoaa.Mem Go.Proofs.YtohinfbahjepoaaW.PrintWords Go.Proofs.Ytohinfbahjepoaa.Base
theorem tick_mono {r u a b n : Int} (h : b ≤ a) (ha : a ≤ u) (hb : b ≤ u) : tickN r u b n ≤ tickN r u a n := by
  unfold tickN tickL
  split
  · exact h
  · split <;> split <;> omega
theorem take_mono {n a b : Int} (h : b ≤ a) (hb : n ≤ b) : takeL n b ≤ takeL n a := by
  unfold takeL
  rw [if_pos hb, if_pos (by omega)]
  omega
theorem cells_of {w : World} {g o : Nat} {l : List Base.Act} (h : Acts w (some ⟨g, o, none⟩) l) {k : Nat} (hk : k < l.length) {x0 x1 x2 : Int} (hx : l[k] = (x0, x1, x2)) :
    w.cell? ⟨g, o + k * 3, none⟩ = some (.int .u8 x0) ∧ w.cell? ⟨g, o + k * 3 + 1, none⟩ = some (.int .u64 x1) ∧ w.cell? ⟨g, o + k * 3 + 2, none⟩ = some (.int .i64 x2) := by
  obtain ⟨g', o', e, h0, h1, h2⟩ := h.at_ hk
  rw [hx] at h0 h1 h2
  simp only [Option.some.injEq, Addr.mk.injEq] at e
  obtain ⟨rfl, rfl, _⟩ := e
  exact ⟨h0, h1, h2⟩
def FRel (pa pb : Nat) (i r u : Int) (l : List Base.Act) (w : World) (t : Value) (wr : World) : Prop :=
  ∃ (k : Nat) (la lb : Int), k ≤ l.length ∧ t = .int .i64 k ∧ Bu wr pa i r u la ∧ Bu wr pb i r u lb ∧ Fit r u la ∧ Fit r u lb ∧ lb ≤ la ∧ Kp w.heap.size w wr
set_option maxHeartbeats 8000000 in
set_option maxRecDepth 100000 in
theorem main (i r u : Int) (A1 A2 A3 : Option Addr) (c1 c2 c3 : Nat) (l1 l2 l3 : List Base.Act) (w : World) (hA1 : Acts w A1 l1) (hm1 : l1.length ≤ 140737488351232) (hA2 : Acts w A2 l2) (hm2 : l2.length ≤ 140737488351232) (hA3 : Acts w A3 l3) (hm3 : l3.length ≤ 140737488351232)
    (hl1 : l1.length ≤ 500) (hl2 : l2.length ≤ 500) (hl3 : l3.length ≤ 500) :
    Calls Try.prog 4 #[.agg #[.int .i64 i, .int .i64 r, .int .i64 u], .slice A1 l1.length c1, .slice A2 l2.length c2, .slice A3 l3.length c3] w fun e w' => e = .returned (.bool true) ∧ Below w.heap.size w w' := by
  go_enter Try.func4, Try.ntmps4
  go_wp2_with fail
  refine (awake_any _).mono ?_
  rintro e w1 ⟨rfl, hb⟩
  have hk := (Blk.new w 23 #[.int .i64 i, .int .i64 r, .int .i64 u]).go hb
  have k0 : w1.cell? ⟨w.heap.size, 0, none⟩ = some (.int .i64 i) := hk.cell 0
  have k1 : w1.cell? ⟨w.heap.size, 1, none⟩ = some (.int .i64 r) := hk.cell 1
  have k2 : w1.cell? ⟨w.heap.size, 2, none⟩ = some (.int .i64 u) := hk.cell 2
  have HK : Kp w.heap.size w w1 := ((Kp.refl w).alloc _).go hb
  clear hb
  go_wp2_with fail
  by_cases hmay : mayB i r u = true
  · have hF1 := fit_lev (mayB_fit hmay) hA1.ok
    have hF2 := fit_lev (mayB_fit hmay) hA2.ok
    go_region_held3 (fun w' => w'.cell? ⟨w.heap.size, 0, none⟩ = some (.int .i64 i) ∧ w'.cell? ⟨w.heap.size, 1, none⟩ = some (.int .i64 r) ∧ w'.cell? ⟨w.heap.size, 2, none⟩ = some (.int .i64 u)) (go_keep) (first
      | (go_at_call 15; (with_reducible refine (played_yes i r u A1 c1 l1 _ hmay ?_ hm1).mono ?_); (first | exact hA1.kp HK | exact hA1.kp HK.drew); rintro e w2 ⟨ba, rfl, hb, hBa, hg⟩; have hk := (by first | exact hk.grown hg (by simp) | exact hk.drew.grown hg (by simp) : Blk w2 w.heap.size 23 #[.int .i64 i, .int .i64 r, .int .i64 u]); have k0 : w2.cell? ⟨w.heap.size, 0, none⟩ = some (.int .i64 i) := hk.cell 0; have k1 : w2.cell? ⟨w.heap.size, 1, none⟩ = some (.int .i64 r) := hk.cell 1; have k2 : w2.cell? ⟨w.heap.size, 2, none⟩ = some (.int .i64 u) := hk.cell 2; have ba0 : w.heap.size ≤ ba := Nat.le_trans HK.size hb; have HK := (by first | exact HK.none_ hg | exact HK.drew.none_ hg : Kp w.heap.size w w2))
      | (go_at_call 15; (with_reducible refine (played_yes i r u A2 c2 l2 _ hmay ?_ hm2).mono ?_); (first | exact hA2.kp HK | exact hA2.kp HK.drew); rintro e w2 ⟨bb, rfl, hb, hBb, hg⟩; have hk := (by first | exact hk.grown hg (by simp) | exact hk.drew.grown hg (by simp) : Blk w2 w.heap.size 23 #[.int .i64 i, .int .i64 r, .int .i64 u]); have k0 : w2.cell? ⟨w.heap.size, 0, none⟩ = some (.int .i64 i) := hk.cell 0; have k1 : w2.cell? ⟨w.heap.size, 1, none⟩ = some (.int .i64 r) := hk.cell 1; have k2 : w2.cell? ⟨w.heap.size, 2, none⟩ = some (.int .i64 u) := hk.cell 2; have hne : ba ≠ bb := (by have := hBa.lt; omega); have hBa := (by first | exact hBa.grown hg (by simp) | exact hBa.drew.grown hg (by simp) : Bu w2 ba i r u (lev r u l1)); have bb0 : w.heap.size ≤ bb := Nat.le_trans HK.size hb; have HK := (by first | exact HK.none_ hg | exact HK.drew.none_ hg : Kp w.heap.size w w2)))
    clear hk k0 k1 k2
    clear hA1 hA2
    generalize lev r u l1 = va at *
    generalize lev r u l2 = vb at *
    go_wp2_with fail
    refine (level_any ba i r u va _ hBa).mono ?_
    rintro e w3 ⟨rfl, rfl⟩
    go_wp2_with fail
    refine (level_any bb i r u vb _ hBb).mono ?_
    rintro e w4 ⟨rfl, rfl⟩
    have hcase : ∃ pa pb la lb, ((va < vb ∧ pa = bb ∧ pb = ba ∧ la = vb ∧ lb = va) ∨ (¬ va < vb ∧ pa = ba ∧ pb = bb ∧ la = va ∧ lb = vb)) := by
      by_cases hv : va < vb
      · exact ⟨_, _, _, _, .inl ⟨hv, rfl, rfl, rfl, rfl⟩⟩
      · exact ⟨_, _, _, _, .inr ⟨hv, rfl, rfl, rfl, rfl⟩⟩
    obtain ⟨pa, pb, la, lb, ⟨hv, rfl, rfl, rfl, rfl⟩ | ⟨hv, rfl, rfl, rfl, rfl⟩⟩ := hcase
    · have hle : lb ≤ la := by omega
      have hR : FRel pa pb i r u l3 w (.int .i64 0) w4 := ⟨0, la, lb, Nat.zero_le _, rfl, hBb, hBa, hF2, hF1, hle, HK⟩
      have hpa : w.heap.size ≤ pa := bb0
      have hpb : w.heap.size ≤ pb := ba0
      have hpp : pa ≠ pb := hne.symm
      clear hle hBa hBb HK hF1 hF2 hne ba0 bb0
      go_wp2_with fail
      go_loopw [11] (fun t wr => FRel pa pb i r u l3 w t wr) (fun t _ => l3.length - (intOf t).toNat)
      case atStart => exact hR
      case round =>
        clear hR
        obtain ⟨k, la1, lb1, hk, rfl, hBa, hBb, hFa, hFb, hle, HK⟩ := hrel
        by_cases hlt : k < l3.length
        · obtain ⟨g, o, rfl, -, -, -⟩ := (hA3.kp HK).at_ hlt
          have hok := hA3.ok _ (List.getElem_mem hlt)
          obtain ⟨⟨x0, x1, x2⟩, hx⟩ : ∃ x, l3[k] = x := ⟨_, rfl⟩
          rw [hx] at hok
          have HX := Lib.hid hx
          clear hx
          obtain ⟨o0, o1, o2⟩ := hok
          simp only [] at o0 o1 o2
          obtain ⟨d0, d1, d2⟩ := cells_of (hA3.kp HK) hlt HX.out
          go_wp2_with fail
          refine (level_any pb i r u lb1 _ hBb).mono ?_
          rintro e w5 ⟨rfl, rfl⟩
          by_cases q0 : x0 = 0
          · subst q0
            by_cases hp : x1 ≤ lb1
            · have hp2 : x1 ≤ la1 := by omega
              have hle2 := take_mono hle hp
              go_wp2_with fail
              refine (take_any pb i r u lb1 x1 _ hBb hFb o1.1 o1.2).mono ?_
              clear hBb
              rintro e w6 ⟨rfl, hBb, hg⟩
              rw [takeB_true.mpr hp]
              replace hBa := hBa.grown hg (by simpa using hpp)
              replace HK := HK.some_ hg hpb
              clear hg d0 d1 d2
              obtain ⟨d0, d1, d2⟩ := cells_of (hA3.kp HK) hlt HX.out
              go_wp2_with fail
              refine (take_any pa i r u la1 x1 _ hBa hFa o1.1 o1.2).mono ?_
              clear hBa
              rintro e w7 ⟨rfl, hBa, hg⟩
              rw [takeB_true.mpr hp2]
              replace hBb := hBb.grown hg (by simpa using hpp.symm)
              replace HK := HK.some_ hg hpa
              clear hg d0 d1 d2
              replace hFa := fit_take (n := x1) hFa o1.1
              replace hFb := fit_take (n := x1) hFb o1.1
              generalize takeL x1 la1 = la2 at *
              generalize takeL x1 lb1 = lb2 at *
              go_wp2_with fail
              refine (level_any pa i r u la2 _ hBa).mono ?_
              rintro e w7 ⟨rfl, rfl⟩
              go_wp2_with fail
              refine (level_any pb i r u lb2 _ hBb).mono ?_
              rintro e w8 ⟨rfl, rfl⟩
              go_wp2_with fail
              go_roundw
              case rel => exact ⟨k + 1, la2, lb2, by omega, by go_num, hBa, hBb, hFa, hFb, hle2, HK⟩
              case measure => simp [intOf]; omega
            · go_wp2_with fail
              refine (take_any pb i r u lb1 x1 _ hBb hFb o1.1 o1.2).mono ?_
              clear hBb
              rintro e w6 ⟨rfl, hBb, hg⟩
              rw [takeB_false.mpr (by omega)]
              rw [show takeL x1 lb1 = lb1 from if_neg (by omega)] at hBb
              replace hBa := hBa.grown hg (by simpa using hpp)
              replace HK := HK.some_ hg hpb
              clear hg d0 d1 d2
              have hle2 := hle
              go_wp2_with fail
              refine (level_any pb i r u _ _ hBb).mono ?_
              rintro e w9 ⟨rfl, rfl⟩
              go_wp2_with fail
              refine (level_any pa i r u la1 _ hBa).mono ?_
              rintro e w7 ⟨rfl, rfl⟩
              go_wp2_with fail
              refine (level_any pb i r u lb1 _ hBb).mono ?_
              rintro e w8 ⟨rfl, rfl⟩
              go_wp2_with fail
              go_roundw
              case rel => exact ⟨k + 1, la1, lb1, by omega, by go_num, hBa, hBb, hFa, hFb, hle2, HK⟩
              case measure => simp [intOf]; omega
          · have e0 : (x0 == 0) = false := beq_eq_false_iff_ne.mpr q0
            have hle2 : tickN r u lb1 x2 ≤ tickN r u la1 x2 := tick_mono hle hFa.lu hFb.lu
            go_wp2_with fail
            refine (tick_any pa i r u la1 x2 _ hBa hFa o2.1 o2.2).mono ?_
            clear hBa
            rintro e w6 ⟨rfl, hBa, hg⟩
            replace hBb := hBb.grown hg (by simpa using hpp.symm)
            replace HK := HK.some_ hg hpa
            clear hg d0 d1 d2
            obtain ⟨d0, d1, d2⟩ := cells_of (hA3.kp HK) hlt HX.out
            go_wp2_with fail
            refine (tick_any pb i r u lb1 x2 _ hBb hFb o2.1 o2.2).mono ?_
            clear hBb
            rintro e w7 ⟨rfl, hBb, hg⟩
            replace hBa := hBa.grown hg (by simpa using hpp)
            replace HK := HK.some_ hg hpb
            clear hg d0 d1 d2
            replace hFa := fit_tick (n := x2) hFa
            replace hFb := fit_tick (n := x2) hFb
            generalize tickN r u la1 x2 = la2 at *
            generalize tickN r u lb1 x2 = lb2 at *
            go_wp2_with fail
            refine (level_any pa i r u la2 _ hBa).mono ?_
            rintro e w7 ⟨rfl, rfl⟩
            go_wp2_with fail
            refine (level_any pb i r u lb2 _ hBb).mono ?_
            rintro e w8 ⟨rfl, rfl⟩
            go_wp2_with fail
            go_roundw
            case rel => exact ⟨k + 1, la2, lb2, by omega, by go_num, hBa, hBb, hFa, hFb, hle2, HK⟩
            case measure => simp [intOf]; omega
        · obtain rfl : k = l3.length := by omega
          go_wp2_with fail
          go_ret
          exact ⟨rfl, HK.below⟩
    · have hle : lb ≤ la := by omega
      have hR : FRel pa pb i r u l3 w (.int .i64 0) w4 := ⟨0, la, lb, Nat.zero_le _, rfl, hBa, hBb, hF1, hF2, hle, HK⟩
      have hpa : w.heap.size ≤ pa := ba0
      have hpb : w.heap.size ≤ pb := bb0
      have hpp : pa ≠ pb := hne
      clear hle hBa hBb HK hF1 hF2 hne ba0 bb0
      go_wp2_with fail
      go_loopw [11] (fun t wr => FRel pa pb i r u l3 w t wr) (fun t _ => l3.length - (intOf t).toNat)
      case atStart => exact hR
      case round =>
        clear hR
        obtain ⟨k, la1, lb1, hk, rfl, hBa, hBb, hFa, hFb, hle, HK⟩ := hrel
        by_cases hlt : k < l3.length
        · obtain ⟨g, o, rfl, -, -, -⟩ := (hA3.kp HK).at_ hlt
          have hok := hA3.ok _ (List.getElem_mem hlt)
          obtain ⟨⟨x0, x1, x2⟩, hx⟩ : ∃ x, l3[k] = x := ⟨_, rfl⟩
          rw [hx] at hok
          have HX := Lib.hid hx
          clear hx
          obtain ⟨o0, o1, o2⟩ := hok
          simp only [] at o0 o1 o2
          obtain ⟨d0, d1, d2⟩ := cells_of (hA3.kp HK) hlt HX.out
          go_wp2_with fail
          refine (level_any pb i r u lb1 _ hBb).mono ?_
          rintro e w5 ⟨rfl, rfl⟩
          by_cases q0 : x0 = 0
          · subst q0
            by_cases hp : x1 ≤ lb1
            · have hp2 : x1 ≤ la1 := by omega
              have hle2 := take_mono hle hp
              go_wp2_with fail
              refine (take_any pb i r u lb1 x1 _ hBb hFb o1.1 o1.2).mono ?_
              clear hBb
              rintro e w6 ⟨rfl, hBb, hg⟩
              rw [takeB_true.mpr hp]
              replace hBa := hBa.grown hg (by simpa using hpp)
              replace HK := HK.some_ hg hpb
              clear hg d0 d1 d2
              obtain ⟨d0, d1, d2⟩ := cells_of (hA3.kp HK) hlt HX.out
              go_wp2_with fail
              refine (take_any pa i r u la1 x1 _ hBa hFa o1.1 o1.2).mono ?_
              clear hBa
              rintro e w7 ⟨rfl, hBa, hg⟩
              rw [takeB_true.mpr hp2]
              replace hBb := hBb.grown hg (by simpa using hpp.symm)
              replace HK := HK.some_ hg hpa
              clear hg d0 d1 d2
              replace hFa := fit_take (n := x1) hFa o1.1
              replace hFb := fit_take (n := x1) hFb o1.1
              generalize takeL x1 la1 = la2 at *
              generalize takeL x1 lb1 = lb2 at *
              go_wp2_with fail
              refine (level_any pa i r u la2 _ hBa).mono ?_
              rintro e w7 ⟨rfl, rfl⟩
              go_wp2_with fail
              refine (level_any pb i r u lb2 _ hBb).mono ?_
              rintro e w8 ⟨rfl, rfl⟩
              go_wp2_with fail
              go_roundw
              case rel => exact ⟨k + 1, la2, lb2, by omega, by go_num, hBa, hBb, hFa, hFb, hle2, HK⟩
              case measure => simp [intOf]; omega
            · go_wp2_with fail
              refine (take_any pb i r u lb1 x1 _ hBb hFb o1.1 o1.2).mono ?_
              clear hBb
              rintro e w6 ⟨rfl, hBb, hg⟩
              rw [takeB_false.mpr (by omega)]
              rw [show takeL x1 lb1 = lb1 from if_neg (by omega)] at hBb
              replace hBa := hBa.grown hg (by simpa using hpp)
              replace HK := HK.some_ hg hpb
              clear hg d0 d1 d2
              have hle2 := hle
              go_wp2_with fail
              refine (level_any pb i r u _ _ hBb).mono ?_
              rintro e w9 ⟨rfl, rfl⟩
              go_wp2_with fail
              refine (level_any pa i r u la1 _ hBa).mono ?_
              rintro e w7 ⟨rfl, rfl⟩
              go_wp2_with fail
              refine (level_any pb i r u lb1 _ hBb).mono ?_
              rintro e w8 ⟨rfl, rfl⟩
              go_wp2_with fail
              go_roundw
              case rel => exact ⟨k + 1, la1, lb1, by omega, by go_num, hBa, hBb, hFa, hFb, hle2, HK⟩
              case measure => simp [intOf]; omega
          · have e0 : (x0 == 0) = false := beq_eq_false_iff_ne.mpr q0
            have hle2 : tickN r u lb1 x2 ≤ tickN r u la1 x2 := tick_mono hle hFa.lu hFb.lu
            go_wp2_with fail
            refine (tick_any pa i r u la1 x2 _ hBa hFa o2.1 o2.2).mono ?_
            clear hBa
            rintro e w6 ⟨rfl, hBa, hg⟩
            replace hBb := hBb.grown hg (by simpa using hpp.symm)
            replace HK := HK.some_ hg hpa
            clear hg d0 d1 d2
            obtain ⟨d0, d1, d2⟩ := cells_of (hA3.kp HK) hlt HX.out
            go_wp2_with fail
            refine (tick_any pb i r u lb1 x2 _ hBb hFb o2.1 o2.2).mono ?_
            clear hBb
            rintro e w7 ⟨rfl, hBb, hg⟩
            replace hBa := hBa.grown hg (by simpa using hpp)
            replace HK := HK.some_ hg hpb
            clear hg d0 d1 d2
            replace hFa := fit_tick (n := x2) hFa
            replace hFb := fit_tick (n := x2) hFb
            generalize tickN r u la1 x2 = la2 at *
            generalize tickN r u lb1 x2 = lb2 at *
            go_wp2_with fail
            refine (level_any pa i r u la2 _ hBa).mono ?_
            rintro e w7 ⟨rfl, rfl⟩
            go_wp2_with fail
            refine (level_any pb i r u lb2 _ hBb).mono ?_
            rintro e w8 ⟨rfl, rfl⟩
            go_wp2_with fail
            go_roundw
            case rel => exact ⟨k + 1, la2, lb2, by omega, by go_num, hBa, hBb, hFa, hFb, hle2, HK⟩
            case measure => simp [intOf]; omega
        · obtain rfl : k = l3.length := by omega
          go_wp2_with fail
          go_ret
          exact ⟨rfl, HK.below⟩
  · go_region_held3 (fun w' => w'.cell? ⟨w.heap.size, 0, none⟩ = some (.int .i64 i) ∧ w'.cell? ⟨w.heap.size, 1, none⟩ = some (.int .i64 r) ∧ w'.cell? ⟨w.heap.size, 2, none⟩ = some (.int .i64 u)) (go_keep) (first
      | (go_at_call 15; (with_reducible refine (played_no i r u _ _ (by simpa using hmay)).mono ?_); rintro e w2 ⟨rfl, hg⟩; have hk := (by first | exact hk.grown hg (by simp) | exact hk.drew.grown hg (by simp) : Blk w2 w.heap.size 23 #[.int .i64 i, .int .i64 r, .int .i64 u]); have k0 : w2.cell? ⟨w.heap.size, 0, none⟩ = some (.int .i64 i) := hk.cell 0; have k1 : w2.cell? ⟨w.heap.size, 1, none⟩ = some (.int .i64 r) := hk.cell 1; have k2 : w2.cell? ⟨w.heap.size, 2, none⟩ = some (.int .i64 u) := hk.cell 2; have HK := (by first | exact HK.none_ hg | exact HK.drew.none_ hg : Kp w.heap.size w w2)))
    go_wp2_with fail
    go_ret
    exact ⟨rfl, HK.below⟩
theorem long (i r u : Int) (A1 A2 A3 : Option Addr) (c1 c2 c3 : Nat) (l1 l2 l3 : List Base.Act) (w : World) (hm1 : l1.length ≤ 140737488351232) (hm2 : l2.length ≤ 140737488351232) (hm3 : l3.length ≤ 140737488351232)
    (h : 500 < l1.length ∨ (l1.length ≤ 500 ∧ 500 < l2.length) ∨ (l1.length ≤ 500 ∧ l2.length ≤ 500 ∧ 500 < l3.length)) :
    Calls Try.prog 4 #[.agg #[.int .i64 i, .int .i64 r, .int .i64 u], .slice A1 l1.length c1, .slice A2 l2.length c2, .slice A3 l3.length c3] w fun e w' => e = .returned (.bool true) ∧ Below w.heap.size w w' := by
  rcases h with h | ⟨h1, h⟩ | ⟨h1, h2, h⟩
  all_goals
    go_enter Try.func4, Try.ntmps4
    go_wp2_with fail
    refine (awake_any _).mono ?_
    rintro e w1 ⟨rfl, hb⟩
    have HK : Kp w.heap.size w w1 := ((Kp.refl w).alloc _).go hb
    go_wp2_with fail
    go_ret
    exact ⟨rfl, HK.below⟩
theorem core (i r u : Int) (A1 : Option Addr) (c1 : Nat) (l1 : List Base.Act) (A2 : Option Addr) (c2 : Nat) (l2 : List Base.Act) (A3 : Option Addr) (c3 : Nat) (l3 : List Base.Act) (w : World) (_ : (Lit.int .i64 i).wf = true)
    (_ : l1.length ≤ c1) (hm1 : l1.length * 24 ≤ 140737488351232) (_ : ∀ x ∈ l1, ActOk x) (hA1 : Acts w A1 l1)
    (_ : l2.length ≤ c2) (hm2 : l2.length * 24 ≤ 140737488351232) (_ : ∀ x ∈ l2, ActOk x) (hA2 : Acts w A2 l2)
    (_ : l3.length ≤ c3) (hm3 : l3.length * 24 ≤ 140737488351232) (_ : ∀ x ∈ l3, ActOk x) (hA3 : Acts w A3 l3) :
    Calls Try.prog 4 #[.agg #[.int .i64 i, .int .i64 r, .int .i64 u], .slice A1 l1.length c1, .slice A2 l2.length c2, .slice A3 l3.length c3] w fun e w' => e = .returned (.bool true) ∧ Below w.heap.size w w' := by
  by_cases h : l1.length ≤ 500 ∧ l2.length ≤ 500 ∧ l3.length ≤ 500
  · exact main i r u A1 A2 A3 c1 c2 c3 l1 l2 l3 w hA1 (by omega) hA2 (by omega) hA3 (by omega) h.1 h.2.1 h.2.2
  · exact long i r u A1 A2 A3 c1 c2 c3 l1 l2 l3 w (by omega) (by omega) (by omega) (by omega)
end Go.Proofs.Ytohinfbahjepoaa.Fuller
