/- The examples, the empty key, how the slots are doubled, nobody's map: ExactNames (5). Conditions: none. -/
import Derived.Test.YtfpnedooipfpoaaNobody
import Derived.Test.YtfpnedooipfpoaaReach
set_option linter.unusedVariables false
set_option linter.unusedSimpArgs false
namespace Go.Proofs.Ytfpnedooipfpoaa.Base
open Go Go.RowKit Go.Proofs.Ytfpnedooipfpoaa Go.Proofs.Ytfpnedooipfpoaa.Ex Go.Proofs.Ytfpnedooipfpoaa.Mem Go.Proofs.Ytfpnedooipfpoaa.Math Go.Proofs.YtfpnedooipfpoaaW.PrintWords Go.Proofs.YtfpnedooipfpoaaW.PrintLast Go.Proofs.Ytfpnedooipfpoaa.PExactHalf
theorem two_C {g : Nat} {w : World} {x y : Int} (hb : Blk w g 5 #[.int .u8 x, .int .u8 y]) : (Kd.int .u8).C w (some ⟨g, 0, none⟩) 2 [x, y] := by
  refine ⟨rfl, by simp, fun _ => ⟨_, rfl, fun j p hj => ⟨[.int .u8 p], rfl, rfl, fun i u hu => ?_⟩⟩⟩
  have hi : i = 0 := by
    have := (List.getElem?_eq_some_iff.1 hu).1
    simp at this
    exact this
  subst hi
  simp at hu
  subst hu
  have hj0 : j = 0 ∨ j = 1 := by
    have := (List.getElem?_eq_some_iff.1 hj).1
    simp at this
    omega
  rcases hj0 with rfl | rfl
  · simp at hj
    subst hj
    show w.cell? (Addr.add ⟨g, 0, none⟩ (0 * 1 + 0)) = _
    rw [Mem.add_at, hb.cell]
    rfl
  · simp at hj
    subst hj
    show w.cell? (Addr.add ⟨g, 0, none⟩ (1 * 1 + 0)) = _
    rw [Mem.add_at, hb.cell]
    rfl
theorem conv_two (i : Nat) (w : World) : (convert 39 9 (.slice (some ⟨w.heap.size, 0, none⟩) 2 2)).run Try.prog (w.alloc (.cells #[.int .u8 ((i / 256 : Nat) : Int), .int .u8 ((i % 256 : Nat) : Int)] 5)) = .ok (.string (K2 i)) (w.alloc (.cells #[.int .u8 ((i / 256 : Nat) : Int), .int .u8 ((i % 256 : Nat) : Int)] 5)) := by
  have h := Kd.C_string (P := Try.prog) (c := 2) Try.underlying39 Try.underlying5 Try.underlying9 (two_C (Blk.new w 5 #[.int .u8 ((i / 256 : Nat) : Int), .int .u8 ((i % 256 : Nat) : Int)]))
  rw [h]
  rfl
theorem conv_twoI (i : Nat) (w : World) : (convert 39 9 (.slice (some ⟨w.heap.size, 0, none⟩) 2 2)).run Try.prog (w.alloc (.cells #[.int .u8 ((i : Int) / 256), .int .u8 ((i : Int) % 256)] 5)) = .ok (.string (K2 i)) (w.alloc (.cells #[.int .u8 ((i : Int) / 256), .int .u8 ((i : Int) % 256)] 5)) := conv_two i w
def NmR (w : World) (a : Nat) (t4 t5 : Value) (wr : World) : Prop := ∃ (i : Nat) (T : Tb), t5 = .int .i64 (i : Int) ∧ t4 = .int .i64 (T.L.length : Int) ∧ N1 i T ∧ Mine w wr a T
def NmQ (w : World) (a : Nat) (t6 : Value) (wr : World) : Prop := ∃ (i : Nat) (T : Tb), t6 = .int .i64 (i : Int) ∧ N2 i T ∧ Mine w wr a T
set_option maxHeartbeats 6400000 in
set_option maxRecDepth 100000 in
theorem names_law (w : World) : Calls Try.prog 5 #[] w fun e w' => e = .returned (.bool true) ∧ Below w.heap.size w w' := by
  obtain ⟨T1, q1, s1, g1, l1⟩ := n1_start
  have HL := Lib.hid (n1_looks g1 s1)
  have Q1 := Lib.hid q1
  have S1 := Lib.hid s1
  have L1 := Lib.hid l1
  have N1 := Lib.hid (show ((T1.n : Nat) : Int) = 1 by have := s1.n; omega)
  have G1 := Lib.hid (get_has hlim g1 ((s1.hs _ _).2 (.inl ⟨rfl, rfl⟩)))
  clear q1 s1 g1 l1
  go_enter Try.func5, Try.ntmps5
  go_wp2_with fail
  refine (awake_any w).mono ?_
  rintro e w1 ⟨rfl, hb⟩
  have HB1 := Lib.hid hb
  clear hb
  go_wp2_with fail
  refine (Mine.new w1).mono ?_
  rintro e w2 ⟨a, rfl, hm⟩
  have HM1 := Lib.hid (hm.back HB1.out)
  clear hm HB1
  go_wp2_with fail
  have hp := HM1.out.put KE (-3) (by decide) (by rw [new8_len]; exact ⟨4, by decide, by decide⟩)
  rw [Q1.out] at hp
  refine hp.mono ?_
  clear hp
  rintro e w3 ⟨rfl, hm⟩
  have HM3 := Lib.hid hm
  clear hm HM1
  go_wp2_with fail
  have hp := HM3.out.get KE (by decide)
  rw [G1.out] at hp
  refine hp.mono ?_
  clear hp
  rintro e w4 ⟨rfl, hm, -⟩
  have HM4 := Lib.hid hm
  clear hm HM3
  go_wp2_with fail
  have h1 := HM4.out.len
  rw [N1.out] at h1
  refine h1.mono ?_
  clear h1
  rintro e w5 ⟨rfl, hww⟩; replace hww := hww.symm; subst hww
  go_wp2_with fail
  have h1 := HM4.out.looks KE (by decide)
  rw [HL.out] at h1
  refine h1.mono ?_
  clear h1
  rintro e w6 ⟨rfl, hm, -⟩
  have HX := Lib.hid (show NmR w a (.int .i64 8) (.int .i64 2) w6 from ⟨2, T1, rfl, by rw [L1.out]; rfl, S1.out, hm⟩)
  clear hm HM4
  go_wp2_with fail
  go_loopw [4, 5] (fun t4 t5 wr => NmR w a t4 t5 wr) (fun _ t5 _ => 301 - (intOf t5).toNat)
  case atStart => exact HX.out
  case round =>
    clear HX HL Q1 S1 L1 N1 G1
    obtain ⟨i, T, rfl, rfl, hs, hm⟩ := hrel
    have HS := Lib.hid hs
    have HM := Lib.hid hm
    have hlo := hs.lo
    have hhi := hs.hi
    clear hs hm
    by_cases hi : i ≤ 300
    · have k0 : (i : Int) ≤ 300 := by omega
      have k1 : (2 : Int) ≤ (i : Int) := by omega
      have hcv := conv_twoI i wr
      have HMA := Lib.hid (HM.out.go ((Below.refl _ _).alloc (Nat.le_refl _) (.cells #[.int .u8 ((i : Int) / 256), .int .u8 ((i : Int) % 256)] 5)))
      have HPW := Lib.hid (show T.L.length ≤ 2000 by have h1 := HS.out.len; have h2 := HS.out.n; omega)
      obtain ⟨T', q', s', n', l'⟩ := HS.out.next HM.out.good hi
      have HS' := Lib.hid s'
      have HN' := Lib.hid (show ((T'.n : Nat) : Int) = (i : Int) by omega)
      have hp := HMA.out.put (K2 i) (i : Int) (show (2 : Nat) ≤ _ by decide) (HM.out.pw.dbl (by have := HPW.out; omega))
      rw [q'] at hp
      have HP := Lib.hid hp
      obtain ⟨S, hS⟩ : ∃ S, T.L.length = S := ⟨_, rfl⟩
      obtain ⟨S', hS'⟩ : ∃ S', T'.L.length = S' := ⟨_, rfl⟩
      rw [hS, hS'] at l'
      rw [hS] at HPW ⊢
      have HSS := Lib.hid hS'
      have hs1 : (0 : Int) ≤ (S : Int) := by omega
      have hs2 : (S : Int) ≤ 2000 := by have := HPW.out; omega
      clear hp q' s' n' hS hS' HMA
      go_wp2_with fail
      refine HP.out.mono ?_
      rintro e w7 ⟨rfl, hm⟩
      have HM7 := Lib.hid hm
      clear hm hcv HP
      rcases l' with ⟨h1, h2⟩ | ⟨h1, h2⟩
      · have k2 : (S : Int) < 2 * (i : Int) := by omega
        subst h2
        clear h1
        go_wp2_with fail
        have h1 := HM7.out.len
        rw [HN'.out] at h1
        refine h1.mono ?_
        clear h1
        rintro e w8 ⟨rfl, hww⟩; replace hww := hww.symm; subst hww
        go_wp2_with fail
        have h1 := HM7.out.slots
        rw [HSS.out, show ((2 * S : Nat) : Int) = 2 * (S : Int) by omega] at h1
        refine h1.mono ?_
        clear h1
        rintro e w8 ⟨rfl, hww⟩; replace hww := hww.symm; subst hww
        go_wp2_with fail
        go_roundw
        case rel => exact ⟨i + 1, T', by rw [Int.natCast_add] <;> rfl, by rw [HSS.out, Int.natCast_mul] <;> rfl, HS'.out, HM7.out⟩
        case measure =>
          rw [show ((i : Int) + 1) = ((i + 1 : Nat) : Int) by omega]
          simp only [intOf, Int.toNat_natCast]
          omega
      · have k2 : ¬ (S : Int) < 2 * (i : Int) := by omega
        subst h2
        clear h1
        go_wp2_with fail
        have h1 := HM7.out.len
        rw [HN'.out] at h1
        refine h1.mono ?_
        clear h1
        rintro e w8 ⟨rfl, hww⟩; replace hww := hww.symm; subst hww
        go_wp2_with fail
        have h1 := HM7.out.slots
        rw [HSS.out] at h1
        refine h1.mono ?_
        clear h1
        rintro e w8 ⟨rfl, hww⟩; replace hww := hww.symm; subst hww
        go_wp2_with fail
        go_roundw
        case rel => exact ⟨i + 1, T', by rw [Int.natCast_add] <;> rfl, by rw [HSS.out], HS'.out, HM7.out⟩
        case measure =>
          rw [show ((i : Int) + 1) = ((i + 1 : Nat) : Int) by omega]
          simp only [intOf, Int.toNat_natCast]
          omega
    · have hie : i = 301 := by omega
      subst hie
      have HT := Lib.hid (HS.out.turn HM.out.good)
      have HX := Lib.hid (show NmQ w a (.int .i64 2) wr from ⟨2, T, rfl, HT.out, HM.out⟩)
      clear hi hlo hhi HS HM HT
      have k0 : ¬ (301 : Int) ≤ 300 := by omega
      go_wp2_with fail
      go_loopw [6] (fun t wr => NmQ w a t wr) (fun t _ => 301 - (intOf t).toNat)
      case atStart => exact HX.out
      case round =>
        clear HX
        obtain ⟨i, T, rfl, hs, hm⟩ := hrel
        have HS := Lib.hid hs
        have HM := Lib.hid hm
        have hlo := hs.lo
        have hhi := hs.hi
        clear hs hm
        by_cases hi : i ≤ 300
        · have k0 : (i : Int) ≤ 300 := by omega
          have k1 : (2 : Int) ≤ (i : Int) := by omega
          have hcv := conv_twoI i wr
          have HMA := Lib.hid (HM.out.go ((Below.refl _ _).alloc (Nat.le_refl _) (.cells #[.int .u8 ((i : Int) / 256), .int .u8 ((i : Int) % 256)] 5)))
          have HG := Lib.hid (HS.out.get HM.out.good hi)
          obtain ⟨T', q', s'⟩ := HS.out.next HM.out.good hi
          have HS' := Lib.hid s'
          have HQ' := Lib.hid q'
          clear q' s'
          go_wp2_with fail
          have h1 := HMA.out.get (K2 i) (show (2 : Nat) ≤ _ by decide)
          rw [HG.out] at h1
          refine h1.mono ?_
          clear h1
          rintro e w8 ⟨rfl, hm, -⟩
          have HM8 := Lib.hid hm
          clear hm hcv HMA HM
          go_wp2_with fail
          have h1 := HM8.out.del (K2 i) (show (2 : Nat) ≤ _ by decide)
          rw [HQ'.out] at h1
          refine h1.mono ?_
          clear h1
          rintro e w9 ⟨rfl, hm⟩
          have HM9 := Lib.hid hm
          clear hm HM8
          go_wp2_with fail
          go_roundw
          case rel => exact ⟨i + 1, T', by rw [Int.natCast_add] <;> rfl, HS'.out, HM9.out⟩
          case measure =>
            rw [show ((i : Int) + 1) = ((i + 1 : Nat) : Int) by omega]
            simp only [intOf, Int.toNat_natCast]
            omega
        · have hie : i = 301 := by omega
          subst hie
          have HKS := Lib.hid (HS.out.keys HM.out.good)
          have HLN := Lib.hid (show ((T.L.length : Nat) : Int) = 1024 by rw [HS.out.len]; rfl)
          have k0 : ¬ (301 : Int) ≤ 300 := by omega
          clear hi hlo hhi HS
          go_wp2_with fail
          have h1 := HM.out.keys
          rw [HKS.out] at h1
          refine h1.mono ?_
          clear h1
          rintro e w8 ⟨v, rfl, hrow, hb⟩
          obtain ⟨g, cap, rfl, hcell⟩ := key_at hrow 0 (by decide)
          have hge : wr.heap.size ≤ g := hrow.lt g rfl |>.1
          have HM8 := Lib.hid (HM.out.go hb)
          have HC8 := Lib.hid (show w8.cell? ⟨g, 0, none⟩ = some (.string KE) from hcell)
          clear hcell hge hrow hb HM
          go_wp2_with fail
          refine (nil10 _ _ _).mono ?_
          rintro e w9 ⟨rfl, hb⟩
          have HM9 := Lib.hid (HM8.out.go hb)
          have HC9 := Lib.hid ((hb.cell (World.block_lt_of_cell? _ _ HC8.out)).trans HC8.out)
          clear hb HM8 HC8
          go_wp2_with fail
          refine (nil15 _ _).mono ?_
          rintro e w10 ⟨rfl, hb⟩
          have HM10 := Lib.hid (HM9.out.go hb)
          have hc10 := (hb.cell (World.block_lt_of_cell? _ _ HC9.out)).trans HC9.out
          clear hb HM9 HC9
          go_wp2_with fail
          have h1 := HM10.out.slots
          rw [HLN.out] at h1
          refine h1.mono ?_
          clear h1
          rintro e w11 ⟨rfl, hww⟩; replace hww := hww.symm; subst hww
          clear hc10
          go_wp2_with fail
          refine (nil11 _ _).mono ?_
          rintro e w11 ⟨rfl, hb⟩
          have HM11 := Lib.hid (HM10.out.go hb)
          clear hb HM10
          go_wp2_with fail
          refine (nil13 _).mono ?_
          rintro e w12 ⟨rfl, hb⟩
          have HM12 := Lib.hid (HM11.out.go hb)
          clear hb HM11
          go_wp2_with fail
          refine (nil12 _).mono ?_
          rintro e w13 ⟨rfl, hb⟩
          have HM13 := Lib.hid (HM12.out.go hb)
          clear hb HM12
          go_wp2_with fail
          refine (nil16 _ _).mono ?_
          rintro e w14 ⟨rfl, hb⟩
          have HM14 := Lib.hid (HM13.out.go hb)
          clear hb HM13
          go_wp2_with fail
          refine (nil17 _).mono ?_
          rintro e w15 ⟨rfl, hb⟩
          have HM15 := Lib.hid (HM14.out.go hb)
          clear hb HM14
          go_wp2_with fail
          refine (nil18 _).mono ?_
          rintro e w16 ⟨rfl, hb⟩
          have HM16 := Lib.hid (HM15.out.go hb)
          clear hb HM15
          go_wp2_with fail
          go_ret
          exact ⟨rfl, HM16.out.below⟩
end Go.Proofs.Ytfpnedooipfpoaa.Base
namespace Go.Proofs.Ytfpnedooipfpoaa.Names
open Go Go.RowKit
theorem core (w : World) :
    Calls Try.prog 5 #[] w fun e w' => e = .returned (.bool true) ∧ Below w.heap.size w w' := Base.names_law w
end Go.Proofs.Ytfpnedooipfpoaa.Names
