/- Whether a group may be, by the reference. Conditions: as each contract says. -/
import Derived.Test.YtpmckbpplkkgaaaGChoose
set_option linter.unusedVariables false
set_option linter.unusedSimpArgs false
namespace Go.Proofs.Ytpmckbpplkkgaaa.Base
open Go Go.RowKit Go.Proofs.Ytpmckbpplkkgaaa.Mem Go.Proofs.YtpmckbpplkkgaaaW.PrintWords Go.Proofs.Ytpmckbpplkkgaaa.Fl
open Go.Proofs.Ytpmckbpplkkgaaa.PGroupTells (S34 z34 k34 k34_open k34_mk)
def RmR (wA : World) (k1 : Bool) (l : List S34) (t3 : Value) (wr : World) : Prop := ∃ k : Nat, t3 = .int .i64 (k : Int) ∧ k ≤ l.length ∧ l.all (okB k1) = (l.drop k).all (okB k1) ∧ Below wA.heap.size wA wr
theorem all_any (k1 : Bool) (l : List S34) : (!(l.any (fun x => !(okB k1 x)))) = l.all (okB k1) := by
  induction l with
  | nil => rfl
  | cons x r ih => rw [List.any_cons, List.all_cons, ← ih]; cases okB k1 x <;> simp
set_option maxHeartbeats 1600000 in
theorem refgmay_true (id field : Int) (A : Option Addr) (cp : Nat) (l : List S34) (w : World) (h : Kd.C k34 w A l.length l) (hb : inB l) (hl : l.length < 1000000) :
    Calls Try.prog 17 #[gV id 1 field A l.length cp] w fun e w' => e = .returned (.bool (mayIn true id field l)) ∧ Below w.heap.size w w' := by
  have kA := (Below.refl w.heap.size w).alloc (Nat.le_refl _) (.cells #[.int .i64 id, .int .u8 1, .int .i64 field, .slice A l.length cp] 27)
  have hG := Blk.new w 27 #[.int .i64 id, .int .u8 1, .int .i64 field, .slice A l.length cp]
  have HM := Lib.hid (show mayIn true id field l = (fieldOk true field && (idB id && (decide (1 ≤ l.length) && (decide (l.length ≤ 16) && l.all (okB true))))) by rw [mayIn, all_any])
  have HI := Lib.hid (fun n W => refid_any n W)
  have HC := Lib.hid (fun w' (hb : Below w.heap.size w w') => Kd.C_below h hb)
  have HBU := Lib.hid hb
  have c0 := hG.cell 0
  have c1 := hG.cell 1
  have c2 := hG.cell 2
  have c3 := hG.cell 3
  have KA := Lib.hid kA
  have HF := Lib.hid (show fieldOk true field = (field == 0) from rfl)
  clear h hb kA
  cases qi : idB id
  · rw [qi] at HM
    go_enter Try.func17, Try.ntmps17
    go_wp2_with fail
    refine (HI.out _ _).mono ?_
    rintro e _ ⟨rfl, rfl⟩
    rw [qi]
    go_wp2_with fail
    go_ret
    exact ⟨by rw [HM.out]; simp, KA.out⟩
  · rw [qi] at HM
    by_cases g1 : 1 ≤ l.length
    · rw [decide_eq_true g1] at HM
      have z1 : decide ((l.length : Int) < 1) = false := decide_eq_false (by omega)
      by_cases g2 : l.length ≤ 16
      · rw [decide_eq_true g2] at HM
        have z2 : decide ((16 : Int) < (l.length : Int)) = false := decide_eq_false (by omega)
        cases qf : field == 0
        · rw [HF.out, qf] at HM
          have y1 : (field != 0) = true := by rw [bne, qf]; rfl
          go_enter Try.func17, Try.ntmps17
          go_wp2_with fail
          refine (HI.out _ _).mono ?_
          rintro e _ ⟨rfl, rfl⟩
          rw [qi]
          go_wp2_with fail
          go_ret
          exact ⟨by rw [HM.out]; simp, KA.out⟩
        · rw [HF.out, qf] at HM
          have y1 : (field != 0) = false := by rw [bne, qf]; rfl
          go_enter Try.func17, Try.ntmps17
          go_wp2_with fail
          refine (HI.out _ _).mono ?_
          rintro e _ ⟨rfl, rfl⟩
          rw [qi]
          have hR : RmR (w.alloc (.cells #[.int .i64 id, .int .u8 1, .int .i64 field, .slice A l.length cp] 27)) true l (.int .i64 0) (w.alloc (.cells #[.int .i64 id, .int .u8 1, .int .i64 field, .slice A l.length cp] 27)) := ⟨0, rfl, Nat.zero_le _, rfl, Below.refl _ _⟩
          have HR := Lib.hid hR
          clear hR
          go_wp2_with fail
          generalize w.alloc (.cells #[.int .i64 id, .int .u8 1, .int .i64 field, .slice A l.length cp] 27) = wA at *
          have HG := Lib.hid hG
          clear hG c0 c1 c2 c3 qi qf
          go_loopw [3] (fun t3 wr => RmR wA true l t3 wr) (fun t3 _ => l.length - (intOf t3).toNat)
          case atStart => exact HR.out
          case round =>
            clear HR
            obtain ⟨k, rfl, hk, hall, hB⟩ := hrel
            have HALL := Lib.hid hall
            clear hall
            have hG := HG.out.go hB
            have c1 := hG.cell 1
            have c3 := hG.cell 3
            have HE := Lib.hid (KA.out.trans (hB.mono KA.out.size))
            by_cases hlt : k < l.length
            · have k0 : (0 : Int) ≤ (k : Int) := by omega
              have k1 : (k : Int) < (l.length : Int) := by omega
              obtain ⟨gA, o, cs, rfl, hK, -, hcell⟩ := row_at (HC.out wr HE.out) (by decide : 0 < k34.sz) hlt
              obtain rfl := k34_open hK
              have hsz : k34.sz = 2 := rfl
              rw [hsz] at hcell
              have e0 := hcell 0 _ rfl
              rw [Nat.add_zero] at e0
              have e1 := hcell 1 _ rfl
              have hd : l.drop k = l[k] :: l.drop (k + 1) := List.drop_eq_getElem_cons hlt
              rw [hd, List.all_cons] at HALL
              obtain ⟨u0, u1⟩ := HBU.out _ (List.getElem_mem hlt)
              clear hK hcell hsz hd
              generalize l[k] = x at *
              obtain ⟨n, hn⟩ : ∃ n : Nat, x.f0 = (n : Int) := ⟨x.f0.toNat, by omega⟩
              have HO := Lib.hid (show okB true x = (idB x.f1 && wOk true (n : Int)) by rw [okB, hn])
              rw [hn] at e0 u1
              have hn2 : n < 18446744073709551616 := by omega
              generalize x.f1 = b at *
              clear hn u0 u1
              have hll := (Blk.new wr 34 #[.int .u64 (n : Int), .int .i64 b]).lt
              have F := (Blk.new wr 34 #[.int .u64 (n : Int), .int .i64 b])
              have cA1 := (hG.alloc (.cells #[.int .u64 (n : Int), .int .i64 b] 34)).cell 1
              have HB2 := Lib.hid (hB.alloc hB.size (.cells #[.int .u64 (n : Int), .int .i64 b] 34))
              have HE2 := Lib.hid (HE.out.alloc HE.out.size (.cells #[.int .u64 (n : Int), .int .i64 b] 34))
              have f0 := F.cell 0
              have f1 := F.cell 1
              clear hG hB HE F
              cases qb : idB b
              · have HN := Lib.hid (show mayIn true id field l = false by rw [HM.out, HALL.out, HO.out, qb]; simp)
                go_wp2_with fail
                refine (HI.out _ _).mono ?_
                rintro e _ ⟨rfl, rfl⟩
                rw [qb]
                go_wp2_with fail
                go_ret
                exact ⟨by rw [HN.out]; rfl, HE2.out⟩
              · cases qw : (n : Int) == 0
                · have HN := Lib.hid (show mayIn true id field l = false by rw [HM.out, HALL.out, HO.out, qb, show wOk true (n : Int) = ((n : Int) == 0) from rfl, qw]; simp)
                  have y2 : ((n : Int) != 0) = true := by rw [bne, qw]; rfl
                  go_wp2_with fail
                  refine (HI.out _ _).mono ?_
                  rintro e _ ⟨rfl, rfl⟩
                  rw [qb]
                  go_wp2_with fail
                  go_ret
                  exact ⟨by rw [HN.out]; rfl, HE2.out⟩
                · have HN := Lib.hid (show l.all (okB true) = (l.drop (k + 1)).all (okB true) by rw [HALL.out, HO.out, qb, show wOk true (n : Int) = ((n : Int) == 0) from rfl, qw]; simp)
                  have y2 : ((n : Int) != 0) = false := by rw [bne, qw]; rfl
                  go_wp2_with fail
                  refine (HI.out _ _).mono ?_
                  rintro e _ ⟨rfl, rfl⟩
                  rw [qb]
                  go_wp2_with fail
                  refine ⟨⟨k + 1, by go_num, hlt, HN.out, HB2.out⟩, ?_⟩
                  simp [intOf]
                  omega
            · have hd : l.drop k = [] := List.drop_eq_nil_of_le (by omega)
              have k1 : ¬ (k : Int) < (l.length : Int) := by omega
              rw [hd] at HALL
              have HN := Lib.hid (show mayIn true id field l = true by rw [HM.out, HALL.out]; rfl)
              clear hd
              go_wp2_with fail
              go_ret
              exact ⟨by rw [HN.out]; rfl, HE.out⟩
      · rw [decide_eq_false g2] at HM
        have z2 : decide ((16 : Int) < (l.length : Int)) = true := decide_eq_true (by omega)
        go_enter Try.func17, Try.ntmps17
        go_wp2_with fail
        refine (HI.out _ _).mono ?_
        rintro e _ ⟨rfl, rfl⟩
        rw [qi]
        go_wp2_with fail
        go_ret
        exact ⟨by rw [HM.out]; simp, KA.out⟩
    · rw [decide_eq_false g1] at HM
      have z1 : decide ((l.length : Int) < 1) = true := decide_eq_true (by omega)
      go_enter Try.func17, Try.ntmps17
      go_wp2_with fail
      refine (HI.out _ _).mono ?_
      rintro e _ ⟨rfl, rfl⟩
      rw [qi]
      go_wp2_with fail
      go_ret
      exact ⟨by rw [HM.out]; simp, KA.out⟩
set_option maxHeartbeats 1600000 in
theorem refgmay_false (id field : Int) (A : Option Addr) (cp : Nat) (l : List S34) (w : World) (h : Kd.C k34 w A l.length l) (hb : inB l) (hl : l.length < 1000000) :
    Calls Try.prog 17 #[gV id 2 field A l.length cp] w fun e w' => e = .returned (.bool (mayIn false id field l)) ∧ Below w.heap.size w w' := by
  have kA := (Below.refl w.heap.size w).alloc (Nat.le_refl _) (.cells #[.int .i64 id, .int .u8 2, .int .i64 field, .slice A l.length cp] 27)
  have hG := Blk.new w 27 #[.int .i64 id, .int .u8 2, .int .i64 field, .slice A l.length cp]
  have HM := Lib.hid (show mayIn false id field l = (fieldOk false field && (idB id && (decide (1 ≤ l.length) && (decide (l.length ≤ 16) && l.all (okB false))))) by rw [mayIn, all_any])
  have HI := Lib.hid (fun n W => refid_any n W)
  have HC := Lib.hid (fun w' (hb : Below w.heap.size w w') => Kd.C_below h hb)
  have HBU := Lib.hid hb
  have c0 := hG.cell 0
  have c1 := hG.cell 1
  have c2 := hG.cell 2
  have c3 := hG.cell 3
  have KA := Lib.hid kA
  have HF := Lib.hid (show fieldOk false field = idB field from rfl)
  clear h hb kA
  cases qi : idB id
  · rw [qi] at HM
    go_enter Try.func17, Try.ntmps17
    go_wp2_with fail
    refine (HI.out _ _).mono ?_
    rintro e _ ⟨rfl, rfl⟩
    rw [qi]
    go_wp2_with fail
    go_ret
    exact ⟨by rw [HM.out]; simp, KA.out⟩
  · rw [qi] at HM
    by_cases g1 : 1 ≤ l.length
    · rw [decide_eq_true g1] at HM
      have z1 : decide ((l.length : Int) < 1) = false := decide_eq_false (by omega)
      by_cases g2 : l.length ≤ 16
      · rw [decide_eq_true g2] at HM
        have z2 : decide ((16 : Int) < (l.length : Int)) = false := decide_eq_false (by omega)
        cases qf : idB field
        · rw [HF.out, qf] at HM
          go_enter Try.func17, Try.ntmps17
          go_wp2_with fail
          refine (HI.out _ _).mono ?_
          rintro e _ ⟨rfl, rfl⟩
          rw [qi]
          go_wp2_with fail
          refine (HI.out _ _).mono ?_
          rintro e _ ⟨rfl, rfl⟩
          rw [qf]
          go_wp2_with fail
          go_ret
          exact ⟨by rw [HM.out]; simp, KA.out⟩
        · rw [HF.out, qf] at HM
          go_enter Try.func17, Try.ntmps17
          go_wp2_with fail
          refine (HI.out _ _).mono ?_
          rintro e _ ⟨rfl, rfl⟩
          rw [qi]
          go_wp2_with fail
          refine (HI.out _ _).mono ?_
          rintro e _ ⟨rfl, rfl⟩
          rw [qf]
          have hR : RmR (w.alloc (.cells #[.int .i64 id, .int .u8 2, .int .i64 field, .slice A l.length cp] 27)) false l (.int .i64 0) (w.alloc (.cells #[.int .i64 id, .int .u8 2, .int .i64 field, .slice A l.length cp] 27)) := ⟨0, rfl, Nat.zero_le _, rfl, Below.refl _ _⟩
          have HR := Lib.hid hR
          clear hR
          go_wp2_with fail
          generalize w.alloc (.cells #[.int .i64 id, .int .u8 2, .int .i64 field, .slice A l.length cp] 27) = wA at *
          have HG := Lib.hid hG
          clear hG c0 c1 c2 c3 qi qf
          go_loopw [3] (fun t3 wr => RmR wA false l t3 wr) (fun t3 _ => l.length - (intOf t3).toNat)
          case atStart => exact HR.out
          case round =>
            clear HR
            obtain ⟨k, rfl, hk, hall, hB⟩ := hrel
            have HALL := Lib.hid hall
            clear hall
            have hG := HG.out.go hB
            have c1 := hG.cell 1
            have c3 := hG.cell 3
            have HE := Lib.hid (KA.out.trans (hB.mono KA.out.size))
            by_cases hlt : k < l.length
            · have k0 : (0 : Int) ≤ (k : Int) := by omega
              have k1 : (k : Int) < (l.length : Int) := by omega
              obtain ⟨gA, o, cs, rfl, hK, -, hcell⟩ := row_at (HC.out wr HE.out) (by decide : 0 < k34.sz) hlt
              obtain rfl := k34_open hK
              have hsz : k34.sz = 2 := rfl
              rw [hsz] at hcell
              have e0 := hcell 0 _ rfl
              rw [Nat.add_zero] at e0
              have e1 := hcell 1 _ rfl
              have hd : l.drop k = l[k] :: l.drop (k + 1) := List.drop_eq_getElem_cons hlt
              rw [hd, List.all_cons] at HALL
              obtain ⟨u0, u1⟩ := HBU.out _ (List.getElem_mem hlt)
              clear hK hcell hsz hd
              generalize l[k] = x at *
              obtain ⟨n, hn⟩ : ∃ n : Nat, x.f0 = (n : Int) := ⟨x.f0.toNat, by omega⟩
              have HO := Lib.hid (show okB false x = (idB x.f1 && wOk false (n : Int)) by rw [okB, hn])
              rw [hn] at e0 u1
              have hn2 : n < 18446744073709551616 := by omega
              generalize x.f1 = b at *
              clear hn u0 u1
              have hll := (Blk.new wr 34 #[.int .u64 (n : Int), .int .i64 b]).lt
              have F := (Blk.new wr 34 #[.int .u64 (n : Int), .int .i64 b])
              have cA1 := (hG.alloc (.cells #[.int .u64 (n : Int), .int .i64 b] 34)).cell 1
              have HB2 := Lib.hid (hB.alloc hB.size (.cells #[.int .u64 (n : Int), .int .i64 b] 34))
              have HE2 := Lib.hid (HE.out.alloc HE.out.size (.cells #[.int .u64 (n : Int), .int .i64 b] 34))
              have f0 := F.cell 0
              have f1 := F.cell 1
              clear hG hB HE F
              cases qb : idB b
              · have HN := Lib.hid (show mayIn false id field l = false by rw [HM.out, HALL.out, HO.out, qb]; simp)
                go_wp2_with fail
                refine (HI.out _ _).mono ?_
                rintro e _ ⟨rfl, rfl⟩
                rw [qb]
                go_wp2_with fail
                go_ret
                exact ⟨by rw [HN.out]; rfl, HE2.out⟩
              · have HWM := Lib.hid (fun W => refmay_any n hn2 W)
                cases qw : may n
                · have HN := Lib.hid (show mayIn false id field l = false by rw [HM.out, HALL.out, HO.out, qb, show wOk false (n : Int) = may n from rfl, qw]; simp)
                  rw [qw] at HWM
                  go_wp2_with fail
                  refine (HI.out _ _).mono ?_
                  rintro e _ ⟨rfl, rfl⟩
                  rw [qb]
                  go_wp2_with fail
                  refine (HWM.out _).mono ?_
                  rintro e _ ⟨rfl, rfl⟩
                  go_wp2_with fail
                  go_ret
                  exact ⟨by rw [HN.out]; rfl, HE2.out⟩
                · have HN := Lib.hid (show l.all (okB false) = (l.drop (k + 1)).all (okB false) by rw [HALL.out, HO.out, qb, show wOk false (n : Int) = may n from rfl, qw]; simp)
                  rw [qw] at HWM
                  go_wp2_with fail
                  refine (HI.out _ _).mono ?_
                  rintro e _ ⟨rfl, rfl⟩
                  rw [qb]
                  go_wp2_with fail
                  refine (HWM.out _).mono ?_
                  rintro e _ ⟨rfl, rfl⟩
                  go_wp2_with fail
                  refine ⟨⟨k + 1, by go_num, hlt, HN.out, HB2.out⟩, ?_⟩
                  simp [intOf]
                  omega
            · have hd : l.drop k = [] := List.drop_eq_nil_of_le (by omega)
              have k1 : ¬ (k : Int) < (l.length : Int) := by omega
              rw [hd] at HALL
              have HN := Lib.hid (show mayIn false id field l = true by rw [HM.out, HALL.out]; rfl)
              clear hd
              go_wp2_with fail
              go_ret
              exact ⟨by rw [HN.out]; rfl, HE.out⟩
      · rw [decide_eq_false g2] at HM
        have z2 : decide ((16 : Int) < (l.length : Int)) = true := decide_eq_true (by omega)
        go_enter Try.func17, Try.ntmps17
        go_wp2_with fail
        refine (HI.out _ _).mono ?_
        rintro e _ ⟨rfl, rfl⟩
        rw [qi]
        go_wp2_with fail
        go_ret
        exact ⟨by rw [HM.out]; simp, KA.out⟩
    · rw [decide_eq_false g1] at HM
      have z1 : decide ((l.length : Int) < 1) = true := decide_eq_true (by omega)
      go_enter Try.func17, Try.ntmps17
      go_wp2_with fail
      refine (HI.out _ _).mono ?_
      rintro e _ ⟨rfl, rfl⟩
      rw [qi]
      go_wp2_with fail
      go_ret
      exact ⟨by rw [HM.out]; simp, KA.out⟩
set_option maxHeartbeats 1600000 in
theorem refgmay_other (id kind field : Int) (A : Option Addr) (n cp : Nat) (w : World) (h1 : (kind == 1) = false) (h2 : (kind == 2) = false) :
    Calls Try.prog 17 #[gV id kind field A n cp] w fun e w' => e = .returned (.bool false) ∧ Below w.heap.size w w' := by
  have kA := (Below.refl w.heap.size w).alloc (Nat.le_refl _) (.cells #[.int .i64 id, .int .u8 kind, .int .i64 field, .slice A n cp] 27)
  have HI := Lib.hid (fun n W => refid_any n W)
  have y1 : (kind != 1) = true := by rw [bne, h1]; rfl
  have y2 : (kind != 2) = true := by rw [bne, h2]; rfl
  cases qi : idB id
  · go_enter Try.func17, Try.ntmps17
    go_wp2_with fail
    refine (HI.out _ _).mono ?_
    rintro e _ ⟨rfl, rfl⟩
    rw [qi]
    go_wp2_with fail
    go_ret
    exact ⟨rfl, kA⟩
  · by_cases g1 : 1 ≤ n
    · have z1 : decide ((n : Int) < 1) = false := decide_eq_false (by omega)
      by_cases g2 : n ≤ 16
      · have z2 : decide ((16 : Int) < (n : Int)) = false := decide_eq_false (by omega)
        go_enter Try.func17, Try.ntmps17
        go_wp2_with fail
        refine (HI.out _ _).mono ?_
        rintro e _ ⟨rfl, rfl⟩
        rw [qi]
        go_wp2_with fail
        go_ret
        exact ⟨rfl, kA⟩
      · have z2 : decide ((16 : Int) < (n : Int)) = true := decide_eq_true (by omega)
        go_enter Try.func17, Try.ntmps17
        go_wp2_with fail
        refine (HI.out _ _).mono ?_
        rintro e _ ⟨rfl, rfl⟩
        rw [qi]
        go_wp2_with fail
        go_ret
        exact ⟨rfl, kA⟩
    · have z1 : decide ((n : Int) < 1) = true := decide_eq_true (by omega)
      go_enter Try.func17, Try.ntmps17
      go_wp2_with fail
      refine (HI.out _ _).mono ?_
      rintro e _ ⟨rfl, rfl⟩
      rw [qi]
      go_wp2_with fail
      go_ret
      exact ⟨rfl, kA⟩
theorem refgmay_any (id kind field : Int) (A : Option Addr) (cp : Nat) (l : List S34) (w : World) (h : Kd.C k34 w A l.length l) (hb : inB l) (hl : l.length < 1000000) :
    Calls Try.prog 17 #[gV id kind field A l.length cp] w fun e w' => e = .returned (.bool (gmay id kind field l)) ∧ Below w.heap.size w w' := by
  unfold gmay
  by_cases h1 : kind = 1
  · subst h1; exact refgmay_true id field A cp l w h hb hl
  · by_cases h2 : kind = 2
    · subst h2; exact refgmay_false id field A cp l w h hb hl
    · have g1 : (kind == 1) = false := beq_eq_false_iff_ne.2 h1
      have g2 : (kind == 2) = false := beq_eq_false_iff_ne.2 h2
      rw [g1, g2]
      exact refgmay_other id kind field A l.length cp w g1 g2
end Go.Proofs.Ytpmckbpplkkgaaa.Base
