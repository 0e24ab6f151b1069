/- Whether a group may be: what the inner functions tell. Conditions: as each contract says. -/
import Derived.Test.YtpmckbpplkkgaaaMay
import Derived.Test.YtpmckbpplkkgaaaPGroupTellsx0
import Derived.Laws.EntriesVeiled
set_option linter.unusedVariables false
set_option linter.unusedSimpArgs false
namespace Go.Proofs.Ytpmckbpplkkgaaa.Base
open Go Go.RowKit Go.Proofs.Ytpmckbpplkkgaaa.Mem Go.Proofs.YtpmckbpplkkgaaaW.PrintWords Go.Proofs.Ytpmckbpplkkgaaa.Fl
open Go.Proofs.Ytpmckbpplkkgaaa.PGroupTells (S34 z34 k34 k34_open k34_mk)
abbrev ptr (p : Nat) : Value := .pointer (some ⟨p, 0, none⟩)
/-- Is a number an ID? -/
def idB (n : Int) : Bool := decide (1 ≤ n) && decide (n < 65535)
theorem id_any (n : Int) (w : World) : Calls Try.prog 22 #[.int .i64 n] w fun e w' => e = .returned (.bool (idB n)) ∧ w = w' := by
  have HI := Lib.hid (show idB n = (decide (1 ≤ n) && decide (n < 65535)) from rfl)
  cases q1 : decide (1 ≤ n)
  · rw [q1] at HI
    go_enter Try.func22, Try.ntmps22
    go_wp2_with fail
    go_ret
    exact ⟨by rw [HI.out]; rfl, rfl⟩
  · cases q2 : decide (n < 65535)
    all_goals
      rw [q1, q2] at HI
      go_enter Try.func22, Try.ntmps22
      go_wp2_with fail
      go_ret
      exact ⟨by rw [HI.out]; rfl, rfl⟩
theorem refid_any (n : Int) (w : World) : Calls Try.prog 30 #[.int .i64 n] w fun e w' => e = .returned (.bool (idB n)) ∧ w = w' := by
  have HI := Lib.hid (show idB n = (decide (1 ≤ n) && decide (n < 65535)) from rfl)
  have e2 : decide (n ≤ 65534) = decide (n < 65535) := decide_eq_decide.2 (by omega)
  cases q1 : decide (1 ≤ n)
  · rw [q1] at HI
    clear e2
    go_enter Try.func30, Try.ntmps30
    go_wp2_with fail
    go_ret
    exact ⟨by rw [HI.out]; rfl, rfl⟩
  · cases q2 : decide (n < 65535)
    all_goals
      rw [q1, q2] at HI
      rw [q2] at e2
      go_enter Try.func30, Try.ntmps30
      go_wp2_with fail
      go_ret
      exact ⟨by rw [HI.out]; rfl, rfl⟩
theorem nought_any (n : Int) (w : World) : Calls Try.prog 23 #[.int .u64 n] w fun e w' => e = .returned (.bool (n == 0)) ∧ w = w' := by
  go_enter Try.func23, Try.ntmps23
  go_wp2_with fail
  go_ret
  exact ⟨rfl, rfl⟩
/-- May that be a weight in a group of that kind? -/
def wOk (k1 : Bool) (n : Int) : Bool := if k1 then n == 0 else may n.toNat
def okB (k1 : Bool) (x : S34) : Bool := idB x.f1 && wOk k1 x.f0
/-- The function that weighs. -/
def wF (k1 : Bool) : Value := if k1 then .func (.func 23) #[] #[] else .func (.func 21) #[] #[]
theorem weighs_any (k1 : Bool) (n : Nat) (hn : n < 18446744073709551616) (w : World) : (k1 = true → Calls Try.prog 23 #[.int .u64 (n : Int)] w fun e w' => e = .returned (.bool (wOk k1 (n : Int))) ∧ w = w') ∧ (k1 = false → Calls Try.prog 21 #[.int .u64 (n : Int)] w fun e w' => e = .returned (.bool (wOk k1 (n : Int))) ∧ w = w') :=
  ⟨fun h => by subst h; exact nought_any _ w, fun h => by subst h; exact may_any n hn w⟩
theorem bad_any (k1 : Bool) (x : S34) (c : Nat) (w : World) (hc : Blk w c 46 #[wF k1]) (h0 : 0 ≤ x.f0) (h1 : x.f0 < 18446744073709551616) :
    Calls Try.prog 25 #[.agg #[.int .u64 x.f0, .int .i64 x.f1], ptr c] w fun e w' => e = .returned (.bool (!(okB k1 x))) ∧ Below w.heap.size w w' := by
  have k := (Below.refl w.heap.size w).alloc (Nat.le_refl _) (.cells #[.int .u64 x.f0, .int .i64 x.f1] 34)
  have hc1 := (hc.go k).cell 0
  obtain ⟨n, hn⟩ : ∃ n : Nat, x.f0 = (n : Int) := ⟨x.f0.toNat, by omega⟩
  have HO := Lib.hid (show okB k1 x = (idB x.f1 && wOk k1 (n : Int)) by rw [okB, hn])
  rw [hn] at k hc1 ⊢
  have hn2 : n < 18446744073709551616 := by omega
  generalize x.f1 = b at *
  clear hn h0 h1 hc
  cases q1 : idB b
  · rw [q1] at HO
    have HI := Lib.hid (fun W => id_any b W)
    rw [q1] at HI
    clear q1
    go_enter Try.func25, Try.ntmps25
    go_wp2_with fail
    refine (HI.out _).mono ?_
    rintro e _ ⟨rfl, rfl⟩
    go_wp2_with fail
    go_ret
    exact ⟨by rw [HO.out]; rfl, k⟩
  · rw [q1] at HO
    have HI := Lib.hid (fun W => id_any b W)
    rw [q1] at HI
    clear q1
    have HW := Lib.hid (fun W => weighs_any k1 n hn2 W)
    generalize wOk k1 (n : Int) = q at *
    cases k1
    · have hw : wF false = .func (.func 21) #[] #[] := rfl
      rw [hw] at hc1
      go_enter Try.func25, Try.ntmps25
      go_wp2_with fail
      refine (HI.out _).mono ?_
      rintro e _ ⟨rfl, rfl⟩
      go_wp2_with fail
      refine ((HW.out _).2 trivial).mono ?_
      rintro e _ ⟨rfl, rfl⟩
      cases q
      all_goals
        go_wp2_with fail
        go_ret
        exact ⟨by rw [HO.out]; rfl, k⟩
    · have hw : wF true = .func (.func 23) #[] #[] := rfl
      rw [hw] at hc1
      go_enter Try.func25, Try.ntmps25
      go_wp2_with fail
      refine (HI.out _).mono ?_
      rintro e _ ⟨rfl, rfl⟩
      go_wp2_with fail
      refine ((HW.out _).1 trivial).mono ?_
      rintro e _ ⟨rfl, rfl⟩
      cases q
      all_goals
        go_wp2_with fail
        go_ret
        exact ⟨by rw [HO.out]; rfl, k⟩
/-- The first bucket that may not be. -/
def idx (p : S34 → Bool) : Nat → List S34 → Int
  | _, [] => -1
  | i, x :: r => if p x then (i : Int) else idx p (i + 1) r
theorem idx_ge (p : S34 → Bool) : ∀ (l : List S34) (i : Nat), decide (0 ≤ idx p i l) = l.any p
  | [], i => rfl
  | x :: r, i => by
    rw [idx, List.any_cons]
    cases p x
    · rw [if_neg (by simp), Bool.false_or]; exact idx_ge p r (i + 1)
    · rw [if_pos rfl]; exact decide_eq_true (by omega)
def inB (l : List S34) : Prop := ∀ x ∈ l, 0 ≤ x.f0 ∧ x.f0 < 18446744073709551616
abbrev okF (c : Nat) : Value := .func (.func 25) #[] #[ptr c]
def IdxR (w : World) (p : S34 → Bool) (l : List S34) (t8 : Value) (wr : World) : Prop :=
  ∃ k : Nat, t8 = .int .i64 (k : Int) ∧ k ≤ l.length ∧ idx p k (l.drop k) = idx p 0 l ∧ Below w.heap.size w wr
theorem index_any (k1 : Bool) (c : Nat) (A : Option Addr) (cp : Nat) (l : List S34) (w : World) (h : Kd.C k34 w A l.length l) (hc : Blk w c 46 #[wF k1]) (hb : inB l) (hl : l.length < 1000000) :
    Calls Try.prog 36 #[.slice A l.length cp, okF c] w fun e w' => e = .returned (.int .i64 (idx (fun x => !(okB k1 x)) 0 l)) ∧ Below w.heap.size w w' := by
  have hR : IdxR w (fun x => !(okB k1 x)) l (.int .i64 0) w := ⟨0, rfl, Nat.zero_le _, rfl, Below.refl _ _⟩
  have H := Lib.hid h
  have HC := Lib.hid hc
  have HB := Lib.hid hb
  clear h hc hb
  go_enter Try.func36, Try.ntmps36
  go_wp2_with fail
  go_loopw [8] (fun t8 wr => IdxR w (fun x => !(okB k1 x)) l t8 wr) (fun t8 _ => l.length - (intOf t8).toNat)
  case atStart => exact hR
  case round =>
    clear hR
    obtain ⟨k, rfl, hk, hid, hB⟩ := hrel
    have HID := Lib.hid hid
    clear hid
    by_cases hlt : k < l.length
    · have k0 : (0 : Int) ≤ (k : Int) := by omega
      have k1' : (k : Int) < (l.length : Int) := by omega
      obtain ⟨gA, o, cs, rfl, hK, -, hcell⟩ := row_at (Kd.C_below H.out hB) (by decide : 0 < k34.sz) hlt
      obtain rfl := k34_open hK
      have hsz : k34.sz = 2 := rfl
      rw [hsz] at hcell
      have e0 := hcell 0 _ rfl
      rw [Nat.add_zero] at e0
      have e1 := hcell 1 _ rfl
      have hd : l.drop k = l[k] :: l.drop (k + 1) := List.drop_eq_getElem_cons hlt
      rw [hd] at HID
      obtain ⟨u0, u1⟩ := HB.out _ (List.getElem_mem hlt)
      clear hK hcell hsz hd
      generalize l[k] = x at *
      have HI := Lib.hid (bad_any k1 x c _ (HC.out.go hB) u0 u1)
      have hs := Lib.hid (show idx (fun x => !(okB k1 x)) k (x :: l.drop (k + 1)) = if (!(okB k1 x)) then (k : Int) else idx (fun x => !(okB k1 x)) (k + 1) (l.drop (k + 1)) from rfl)
      clear u0 u1
      go_wp2_with fail
      refine HI.out.mono ?_
      rintro e w1 ⟨rfl, hb⟩
      have hB1 := hB.trans (hb.mono hB.size)
      cases q : !(okB k1 x)
      · rw [q] at hs
        go_wp2_with fail
        go_roundw
        case rel => exact ⟨k + 1, by go_num, hlt, by rw [← HID.out, hs.out]; rfl, hB1⟩
        case measure => simp [intOf]; omega
      · rw [q] at hs
        go_wp2_with fail
        go_ret
        exact ⟨by rw [← HID.out, hs.out]; rfl, hB1⟩
    · have hd : l.drop k = [] := List.drop_eq_nil_of_le (by omega)
      have k1' : ¬ (k : Int) < (l.length : Int) := by omega
      rw [hd] at HID
      go_wp2_with fail
      go_ret
      exact ⟨by rw [← HID.out]; rfl, hB⟩
theorem contains_any (k1 : Bool) (c : Nat) (A : Option Addr) (cp : Nat) (l : List S34) (w : World) (h : Kd.C k34 w A l.length l) (hc : Blk w c 46 #[wF k1]) (hb : inB l) (hl : l.length < 1000000) :
    Calls Try.prog 24 #[.slice A l.length cp, okF c] w fun e w' => e = .returned (.bool (l.any (fun x => !(okB k1 x)))) ∧ Below w.heap.size w w' := by
  have HI := Lib.hid (index_any k1 c A cp l w h hc hb hl)
  have HG := Lib.hid (idx_ge (fun x => !(okB k1 x)) l 0)
  clear h hc hb
  generalize idx (fun x => !(okB k1 x)) 0 l = i at *
  go_enter Try.func24, Try.ntmps24
  go_wp2_with fail
  refine HI.out.mono ?_
  rintro e w1 ⟨rfl, hb⟩
  go_wp2_with fail
  go_ret
  exact ⟨by rw [← HG.out]; rfl, hb⟩
/-! ### group.May -/
def fieldOk (k1 : Bool) (field : Int) : Bool := if k1 then field == 0 else idB field
def mayIn (k1 : Bool) (id field : Int) (l : List S34) : Bool := fieldOk k1 field && (idB id && (decide (1 ≤ l.length) && (decide (l.length ≤ 16) && !(l.any (fun x => !(okB k1 x))))))
/-- May a group be? -/
def gmay (id kind field : Int) (l : List S34) : Bool := if kind == 1 then mayIn true id field l else if kind == 2 then mayIn false id field l else false
abbrev gV (id kind field : Int) (A : Option Addr) (n c : Nat) : Value := .agg #[.int .i64 id, .int .u8 kind, .int .i64 field, .slice A n c]
set_option maxHeartbeats 1600000 in
theorem gmay_true (id field : Int) (A : Option Addr) (cp : Nat) (l : List S34) (w : World) (h : Kd.C k34 w A l.length l) (hb : inB l) (hl : l.length < 1000000) :
    Calls Try.prog 12 #[gV id 1 field A l.length cp] w fun e w' => e = .returned (.bool (mayIn true id field l)) ∧ Below w.heap.size w w' := by
  have kA := (Below.refl w.heap.size w).alloc (Nat.le_refl _) (.cells #[.int .i64 id, .int .u8 1, .int .i64 field, .slice A l.length cp] 27)
  have kB := kA.alloc (by simp) (.cells #[.func (.func 23) #[] #[]] 46)
  have hG0 := (Blk.new w 27 #[.int .i64 id, .int .u8 1, .int .i64 field, .slice A l.length cp]).alloc (.cells #[.func (.func 23) #[] #[]] 46)
  have hC0 : Blk ((w.alloc (.cells #[.int .i64 id, .int .u8 1, .int .i64 field, .slice A l.length cp] 27)).alloc (.cells #[.func (.func 23) #[] #[]] 46)) (w.heap.size + 1) 46 #[.func (.func 23) #[] #[]] := by
    have := Blk.new (w.alloc (.cells #[.int .i64 id, .int .u8 1, .int .i64 field, .slice A l.length cp] 27)) 46 #[.func (.func 23) #[] #[]]
    simpa using this
  have HM := Lib.hid (show mayIn true id field l = (fieldOk true field && (idB id && (decide (1 ≤ l.length) && (decide (l.length ≤ 16) && !(l.any (fun x => !(okB true x))))))) from rfl)
  have kC := kB
  have hC1 : Blk _ (w.heap.size + 1) 46 #[wF true] := hC0
  have hG1 := hG0
  have HF := Lib.hid (show fieldOk true field = (field == 0) from rfl)
  have HI := Lib.hid (fun n W => id_any n W)
  have e0 := hG1.cell 0
  have e1 := hG1.cell 3
  have e2 := hG0.cell 1
  have e3 := hG0.cell 2
  have HCT := Lib.hid (contains_any true (w.heap.size + 1) A cp l _ (Kd.C_below h kC) hC1 hb hl)
  have KC := Lib.hid kC
  clear h hC1 hC0 hG1 hG0 kA kB kC hb
  cases qf : field == 0
  · rw [HF.out, qf] at HM
    go_enter Try.func12, Try.ntmps12
    go_wp2_with fail
    refine (HI.out _ _).mono ?_
    rintro e _ ⟨rfl, rfl⟩
    go_wp2_with fail
    go_ret
    exact ⟨by rw [HM.out]; rfl, KC.out⟩
  · rw [HF.out, qf] at HM
    cases qi : idB id
    · rw [qi] at HM
      go_enter Try.func12, Try.ntmps12
      go_wp2_with fail
      refine (HI.out _ _).mono ?_
      rintro e _ ⟨rfl, rfl⟩
      go_wp2_with fail
      refine (HI.out _ _).mono ?_
      rintro e _ ⟨rfl, rfl⟩
      rw [qi]
      go_wp2_with fail
      go_ret
      exact ⟨by rw [HM.out]; rfl, KC.out⟩
    · rw [qi] at HM
      by_cases g1 : 1 ≤ l.length
      · rw [decide_eq_true g1] at HM
        by_cases g2 : l.length ≤ 16
        · rw [decide_eq_true g2] at HM
          have z1 : decide ((1 : Int) ≤ (l.length : Int)) = true := decide_eq_true (by omega)
          have z2 : decide ((l.length : Int) ≤ 16) = true := decide_eq_true (by omega)
          generalize l.any (fun x => !(okB true x)) = q at *
          go_enter Try.func12, Try.ntmps12
          go_wp2_with fail
          refine (HI.out _ _).mono ?_
          rintro e _ ⟨rfl, rfl⟩
          go_wp2_with fail
          refine (HI.out _ _).mono ?_
          rintro e _ ⟨rfl, rfl⟩
          rw [qi]
          go_wp2_with fail
          refine HCT.out.mono ?_
          rintro e w1 ⟨rfl, hb1⟩
          have KD := Lib.hid (KC.out.trans (hb1.mono KC.out.size))
          clear hb1
          go_wp2_with fail
          go_ret
          exact ⟨by rw [HM.out]; first | rfl | simp, KD.out⟩
        · rw [decide_eq_false g2] at HM
          have z1 : decide ((1 : Int) ≤ (l.length : Int)) = true := decide_eq_true (by omega)
          have z2 : decide ((l.length : Int) ≤ 16) = false := decide_eq_false (by omega)
          go_enter Try.func12, Try.ntmps12
          go_wp2_with fail
          refine (HI.out _ _).mono ?_
          rintro e _ ⟨rfl, rfl⟩
          go_wp2_with fail
          refine (HI.out _ _).mono ?_
          rintro e _ ⟨rfl, rfl⟩
          rw [qi]
          go_wp2_with fail
          go_ret
          exact ⟨by rw [HM.out]; rfl, KC.out⟩
      · rw [decide_eq_false g1] at HM
        have z1 : decide ((1 : Int) ≤ (l.length : Int)) = false := decide_eq_false (by omega)
        go_enter Try.func12, Try.ntmps12
        go_wp2_with fail
        refine (HI.out _ _).mono ?_
        rintro e _ ⟨rfl, rfl⟩
        go_wp2_with fail
        refine (HI.out _ _).mono ?_
        rintro e _ ⟨rfl, rfl⟩
        rw [qi]
        go_wp2_with fail
        go_ret
        exact ⟨by rw [HM.out]; rfl, KC.out⟩
set_option maxHeartbeats 1600000 in
theorem gmay_false (id field : Int) (A : Option Addr) (cp : Nat) (l : List S34) (w : World) (h : Kd.C k34 w A l.length l) (hb : inB l) (hl : l.length < 1000000) :
    Calls Try.prog 12 #[gV id 2 field A l.length cp] w fun e w' => e = .returned (.bool (mayIn false id field l)) ∧ Below w.heap.size w w' := by
  have kA := (Below.refl w.heap.size w).alloc (Nat.le_refl _) (.cells #[.int .i64 id, .int .u8 2, .int .i64 field, .slice A l.length cp] 27)
  have kB := kA.alloc (by simp) (.cells #[.func (.func 21) #[] #[]] 46)
  have hG0 := (Blk.new w 27 #[.int .i64 id, .int .u8 2, .int .i64 field, .slice A l.length cp]).alloc (.cells #[.func (.func 21) #[] #[]] 46)
  have hC0 : Blk ((w.alloc (.cells #[.int .i64 id, .int .u8 2, .int .i64 field, .slice A l.length cp] 27)).alloc (.cells #[.func (.func 21) #[] #[]] 46)) (w.heap.size + 1) 46 #[.func (.func 21) #[] #[]] := by
    have := Blk.new (w.alloc (.cells #[.int .i64 id, .int .u8 2, .int .i64 field, .slice A l.length cp] 27)) 46 #[.func (.func 21) #[] #[]]
    simpa using this
  have HM := Lib.hid (show mayIn false id field l = (fieldOk false field && (idB id && (decide (1 ≤ l.length) && (decide (l.length ≤ 16) && !(l.any (fun x => !(okB false x))))))) from rfl)
  have kC := kB
  have hC1 : Blk _ (w.heap.size + 1) 46 #[wF false] := hC0
  have hG1 := hG0
  have HF := Lib.hid (show fieldOk false field = idB field from rfl)
  have HI := Lib.hid (fun n W => id_any n W)
  have e0 := hG1.cell 0
  have e1 := hG1.cell 3
  have e2 := hG0.cell 1
  have e3 := hG0.cell 2
  have HCT := Lib.hid (contains_any false (w.heap.size + 1) A cp l _ (Kd.C_below h kC) hC1 hb hl)
  have KC := Lib.hid kC
  clear h hC1 hC0 hG1 hG0 kA kB kC hb
  cases qf : idB field
  · rw [HF.out, qf] at HM
    go_enter Try.func12, Try.ntmps12
    go_wp2_with fail
    refine (HI.out _ _).mono ?_
    rintro e _ ⟨rfl, rfl⟩
    rw [qf]
    go_wp2_with fail
    go_ret
    exact ⟨by rw [HM.out]; rfl, KC.out⟩
  · rw [HF.out, qf] at HM
    cases qi : idB id
    · rw [qi] at HM
      go_enter Try.func12, Try.ntmps12
      go_wp2_with fail
      refine (HI.out _ _).mono ?_
      rintro e _ ⟨rfl, rfl⟩
      rw [qf]
      go_wp2_with fail
      refine (HI.out _ _).mono ?_
      rintro e _ ⟨rfl, rfl⟩
      rw [qi]
      go_wp2_with fail
      go_ret
      exact ⟨by rw [HM.out]; rfl, KC.out⟩
    · rw [qi] at HM
      by_cases g1 : 1 ≤ l.length
      · rw [decide_eq_true g1] at HM
        by_cases g2 : l.length ≤ 16
        · rw [decide_eq_true g2] at HM
          have z1 : decide ((1 : Int) ≤ (l.length : Int)) = true := decide_eq_true (by omega)
          have z2 : decide ((l.length : Int) ≤ 16) = true := decide_eq_true (by omega)
          generalize l.any (fun x => !(okB false x)) = q at *
          go_enter Try.func12, Try.ntmps12
          go_wp2_with fail
          refine (HI.out _ _).mono ?_
          rintro e _ ⟨rfl, rfl⟩
          rw [qf]
          go_wp2_with fail
          refine (HI.out _ _).mono ?_
          rintro e _ ⟨rfl, rfl⟩
          rw [qi]
          go_wp2_with fail
          refine HCT.out.mono ?_
          rintro e w1 ⟨rfl, hb1⟩
          have KD := Lib.hid (KC.out.trans (hb1.mono KC.out.size))
          clear hb1
          go_wp2_with fail
          go_ret
          exact ⟨by rw [HM.out]; first | rfl | simp, KD.out⟩
        · rw [decide_eq_false g2] at HM
          have z1 : decide ((1 : Int) ≤ (l.length : Int)) = true := decide_eq_true (by omega)
          have z2 : decide ((l.length : Int) ≤ 16) = false := decide_eq_false (by omega)
          go_enter Try.func12, Try.ntmps12
          go_wp2_with fail
          refine (HI.out _ _).mono ?_
          rintro e _ ⟨rfl, rfl⟩
          rw [qf]
          go_wp2_with fail
          refine (HI.out _ _).mono ?_
          rintro e _ ⟨rfl, rfl⟩
          rw [qi]
          go_wp2_with fail
          go_ret
          exact ⟨by rw [HM.out]; rfl, KC.out⟩
      · rw [decide_eq_false g1] at HM
        have z1 : decide ((1 : Int) ≤ (l.length : Int)) = false := decide_eq_false (by omega)
        go_enter Try.func12, Try.ntmps12
        go_wp2_with fail
        refine (HI.out _ _).mono ?_
        rintro e _ ⟨rfl, rfl⟩
        rw [qf]
        go_wp2_with fail
        refine (HI.out _ _).mono ?_
        rintro e _ ⟨rfl, rfl⟩
        rw [qi]
        go_wp2_with fail
        go_ret
        exact ⟨by rw [HM.out]; rfl, KC.out⟩
theorem gmay_other (id kind field : Int) (A : Option Addr) (n cp : Nat) (w : World) (h1 : (kind == 1) = false) (h2 : (kind == 2) = false) :
    Calls Try.prog 12 #[gV id kind field A n cp] w fun e w' => e = .returned (.bool false) ∧ Below w.heap.size w w' := by
  have kA := (Below.refl w.heap.size w).alloc (Nat.le_refl _) (.cells #[.int .i64 id, .int .u8 kind, .int .i64 field, .slice A n cp] 27)
  have kB := kA.alloc (by simp) (.cells #[.func (.func 21) #[] #[]] 46)
  go_enter Try.func12, Try.ntmps12
  go_wp2_with fail
  refine (id_any _ _).mono ?_
  rintro e _ ⟨rfl, rfl⟩
  go_wp2_with fail
  go_ret
  exact ⟨rfl, kB⟩
theorem gmay_any (id kind field : Int) (A : Option Addr) (cp : Nat) (l : List S34) (w : World) (h : Kd.C k34 w A l.length l) (hb : inB l) (hl : l.length < 1000000) :
    Calls Try.prog 12 #[gV id kind field A l.length cp] w fun e w' => e = .returned (.bool (gmay id kind field l)) ∧ Below w.heap.size w w' := by
  unfold gmay
  by_cases h1 : kind = 1
  · subst h1; exact gmay_true id field A cp l w h hb hl
  · by_cases h2 : kind = 2
    · subst h2; exact gmay_false id field A cp l w h hb hl
    · have g1 : (kind == 1) = false := beq_eq_false_iff_ne.2 h1
      have g2 : (kind == 2) = false := beq_eq_false_iff_ne.2 h2
      rw [g1, g2]
      exact gmay_other id kind field A l.length cp w g1 g2
end Go.Proofs.Ytpmckbpplkkgaaa.Base
