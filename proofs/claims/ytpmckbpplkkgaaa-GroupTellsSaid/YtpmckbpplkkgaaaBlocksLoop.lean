/- The blocks of a group: how the row of blocks is made. Conditions: as each contract says. -/
import Derived.Test.YtpmckbpplkkgaaaInts
set_option linter.unusedVariables false
set_option linter.unusedSimpArgs false
namespace Go.Proofs.Ytpmckbpplkkgaaa.Base
open Go Go.RowKit Go.Proofs.Ytpmckbpplkkgaaa.Mem Go.Proofs.YtpmckbpplkkgaaaW.PrintWords Go.Proofs.YtpmckbpplkkgaaaW.PrintLast Go.Proofs.Ytpmckbpplkkgaaa.Fl
open Go.Proofs.Ytpmckbpplkkgaaa.PGroupTells (S34 z34 k34 k34_open k34_mk)
def bv (l : List S34) : List Value := (l.map (·.f1)).map (Value.int .i64)
theorem bv_next (l : List S34) (k : Nat) (h : k < l.length) : bv (l.take (k + 1)) = bv (l.take k) ++ [.int .i64 l[k].f1] := by
  rw [List.take_succ_eq_append_getElem h]
  unfold bv
  rw [List.map_append, List.map_append]
  rfl
theorem gmay_len {id kind field : Int} {l : List S34} (h : gmay id kind field l = true) : 0 < l.length := by
  unfold gmay at h
  split at h
  · unfold mayIn at h
    simp at h
    omega
  · split at h
    · unfold mayIn at h
      simp at h
      omega
    · cases h
def BlR (w : World) (l : List S34) (t3 t12 : Value) (wr : World) : Prop :=
  ∃ (k : Nat) (u : Value), t12 = .int .i64 (k : Int) ∧ t3 = u ∧ k ≤ l.length ∧ wr.ownsRow w.heap.size 3 1 u k (bv (l.take k)) ∧ Below w.heap.size w wr
/-- Sort, and Compact, of an own row: what they tell. -/
def SortsTo (f : List Int → List Int) : Prop :=
  ∀ (N : Nat) (v : Value) (xs : List Int) (w w0 : World), w.ownsRow N 3 1 v xs.length (xs.map (Value.int .i64)) → Below N w0 w → N ≤ w.heap.size → 0 < xs.length → xs.length < 1000000000 →
    Calls Try.prog 26 #[v] w fun e w1 => e = .returned (.tuple #[]) ∧ Calls Try.prog 27 #[v] w1 fun e w2 => ∃ A c, e = .returned (.slice A (f xs).length c) ∧ (f xs).length ≤ c ∧ Kd.C (Kd.int .i64) w2 A (f xs).length (f xs) ∧ Below N w0 w2
def gblk (f : List Int → List Int) (id kind field : Int) (l : List S34) : List Int := if gmay id kind field l then f (l.map (·.f1)) else []
def BlEnd (w : World) (xs : List Int) (e : Ending) (w' : World) : Prop :=
  ∃ A c, e = .returned (.slice A xs.length c) ∧ xs.length ≤ c ∧ Kd.C (Kd.int .i64) w' A xs.length xs ∧ Below w.heap.size w w'
set_option maxHeartbeats 16000000 in
theorem gblocks_of (f : List Int → List Int) (hf : SortsTo f) (id kind field : Int) (A : Option Addr) (cp : Nat) (l : List S34) (w : World) (hr : Kd.C k34 w A l.length l) (hb : inB l) (hl : l.length < 1000000) :
    Calls Try.prog 14 #[gV id kind field A l.length cp] w (BlEnd w (gblk f id kind field l)) := by
  have kA := (Below.refl w.heap.size w).alloc (Nat.le_refl _) (.cells #[.int .i64 id, .int .u8 kind, .int .i64 field, .slice A l.length cp] 27)
  have hG := Blk.new w 27 #[.int .i64 id, .int .u8 kind, .int .i64 field, .slice A l.length cp]
  have HM := Lib.hid (gmay_any id kind field A cp l _ (Kd.C_below hr kA) hb hl)
  have HC := Lib.hid (fun w' (hb : Below w.heap.size w w') => Kd.C_below hr hb)
  have HF := Lib.hid hf
  obtain ⟨i3, hi3, hz3_0, hz3_1, hz3_2⟩ := info_parts info3
  cases hm : gmay id kind field l
  · have HE := Lib.hid (show gblk f id kind field l = [] by unfold gblk; rw [hm]; rfl)
    rw [hm] at HM
    clear hr hb hG
    go_enter Try.func14, Try.ntmps14
    go_wp2_with fail
    refine HM.out.mono ?_
    rintro e w1 ⟨rfl, hb1⟩
    go_wp2_with fail
    go_ret
    rw [HE.out]
    exact ⟨_, _, rfl, Nat.le_refl _, Kd.C_nil _ _, kA.trans (hb1.mono kA.size)⟩
  · rw [hm] at HM
    have HP := Lib.hid (gmay_len hm)
    have HE := Lib.hid (show gblk f id kind field l = f (l.map (·.f1)) by unfold gblk; rw [hm]; rfl)
    clear hr hb
    have c0 := hG.cell 0
    have c1 := hG.cell 1
    have c2 := hG.cell 2
    have c3 := hG.cell 3
    go_enter Try.func14, Try.ntmps14
    go_wp2_with fail
    generalize w.alloc (.cells #[.int .i64 id, .int .u8 kind, .int .i64 field, .slice A l.length cp] 27) = wA at *
    refine HM.out.mono ?_
    rintro e w1 ⟨rfl, hb1⟩
    have hG1 := hG.go hb1
    have e3 := hG1.cell 3
    have hR : BlR wA l (.slice none 0 0) (.int .i64 0) w1 := ⟨0, _, rfl, rfl, Nat.zero_le _, World.ownsRow_nil _ _ _ _, hb1⟩
    have HR := Lib.hid hR
    have KA := Lib.hid kA
    clear HM hb1 hG hR kA hG1 c0 c1 c2 c3 hf
    go_wp2_with fail
    go_loopw [3, 12] (fun t3 t12 wr => BlR wA l t3 t12 wr) (fun _ t12 _ => l.length - (intOf t12).toNat)
    case atStart => exact HR.out
    case round =>
      clear HR
      obtain ⟨k, u3, rfl, rfl, hk, O1, hB⟩ := hrel
      by_cases hlt : k < l.length
      · have k0 : (0 : Int) ≤ (k : Int) := by omega
        have k1 : (k : Int) < (l.length : Int) := by omega
        obtain ⟨gA, o, cs, rfl, hK, -, hcell⟩ := row_at (HC.out wr (KA.out.trans (hB.mono KA.out.size))) (by decide : 0 < k34.sz) hlt
        obtain rfl := k34_open hK
        have hsz : k34.sz = 2 := rfl
        rw [hsz] at hcell
        have e0 := hcell 0 _ rfl
        rw [Nat.add_zero] at e0
        have e1 := hcell 1 _ rfl
        have HTK := Lib.hid (show bv (l.take (k + 1)) = bv (l.take k) ++ [.int .i64 l[k].f1] from bv_next l k hlt)
        clear hK hcell hsz
        generalize l[k] = x at *
        have F_a := Blk.new wr 34 #[.int .u64 x.f0, .int .i64 x.f1]
        have O1_a := (O1.alloc (.cells #[.int .u64 x.f0, .int .i64 x.f1] 34)).alloc (.cells #[.int .i64 x.f1] 3)
        have HB_a := (hB.alloc hB.size (.cells #[.int .u64 x.f0, .int .i64 x.f1] 34))
        have HB_b := HB_a.alloc HB_a.size (.cells #[.int .i64 x.f1] 3)
        have hm1 : k + 1 ≤ maxLen := by unfold maxLen; omega
        have hm2 : (k + 1) * 8 ≤ 140737488355328 := by omega
        have f1 := F_a.cell 1
        have hsz0 := HB_b.size
        have HNW := Lib.hid (show ∀ j u, [Value.int .i64 x.f1][j]? = some u → ((wr.alloc (.cells #[.int .u64 x.f0, .int .i64 x.f1] 34)).alloc (.cells #[.int .i64 x.f1] 3)).cell? (Addr.add ⟨wr.heap.size + 1, 0, none⟩ j) = some u by have := World.news_of_block (cs := #[.int .i64 x.f1]) (t := 3) (fr := (0, 0)) (heap_alloc_new (wr.alloc (.cells #[.int .u64 x.f0, .int .i64 x.f1] 34)) (.cells #[.int .i64 x.f1] 3)); simpa using this)
        clear O1 hB HB_a F_a
        go_wp2_with (at_builtin; go_must (refine wpList_append_lies _ rfl _ _ _ rfl wA.heap.size 3 i3 _ 1 8 Try.underlying31 hi3 hz3_0 hz3_1 hz3_2 rfl (by decide) u3 k (bv (l.take k)) rfl O1_a ⟨wr.heap.size + 1, 0, none⟩ 1 1 [.int .i64 x.f1] (by rfl) (by rfl) HNW.out (by simp [Value.oneCell']) (by decide) hm1 hm2 hsz0 _ rfl ?_; intro g1 cap1 w2 P1 G1 _ _; have PB := HB_b.grown G1 hsz0 (fun j e => (O1_a.lt j e).1)))
        go_roundw
        case rel => exact ⟨k + 1, _, by go_num, rfl, by omega, by rw [HTK.out]; exact P1, PB⟩
        case measure => simp [intOf]; omega
      · obtain rfl : k = l.length := by omega
        have hkk : ¬ (l.length : Int) < (l.length : Int) := by omega
        rw [List.take_length] at O1
        have hll : (l.map (·.f1)).length = l.length := List.length_map ..
        have O2 := O1
        rw [← hll] at O2
        have HS := Lib.hid (HF.out wA.heap.size u3 (l.map (·.f1)) wr wA O2 hB hB.size (by rw [hll]; exact HP.out) (by rw [hll]; omega))
        have HBE := Lib.hid KA.out
        have hsz := KA.out.size
        clear O1 O2 hll hB
        go_wp2_with fail
        refine HS.out.mono ?_
        rintro e w2 ⟨rfl, h2⟩
        have H2 := Lib.hid h2
        clear h2 HS
        go_wp2_with fail
        refine H2.out.mono ?_
        rintro e w3 ⟨A2, c2, rfl, q1, q2, q3⟩
        go_wp2_with fail
        go_ret
        rw [HE.out]
        exact ⟨_, _, rfl, q1, q2, HBE.out.trans (q3.mono hsz)⟩
end Go.Proofs.Ytpmckbpplkkgaaa.Base
