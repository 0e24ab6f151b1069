/- Frames, one behind the other, are told as their bodies; nothing waits then. Conditions: none beyond the row's own. -/
import Derived.Test.YtedkfhgpahjleaaSplit
import Derived.Deep.RegionWith
set_option linter.unusedVariables false
set_option linter.unusedSimpArgs false
namespace Go.Proofs.Ytedkfhgpahjleaa.Back
open Go Go.RowKit Go.Proofs.Ytedkfhgpahjleaa.Mem Go.Proofs.YtedkfhgpahjleaaW.PrintWords Go.Proofs.Ytedkfhgpahjleaa.Base
def frB (l : List ByteArray) (k : Nat) : ByteArray := ⟨(frs (gd (l.take k))).toArray⟩
theorem frB_size (l : List ByteArray) (k : Nat) : (frB l k).size = (frs (gd (l.take k))).length := by
  show (frs (gd (l.take k))).toArray.size = _
  simp
theorem fresh_lit {w : World} {p : Nat} (h : Fresh w p) (cs : Array Value) (B : Nat) : St (w.drew.alloc (.cells cs 9)) B p (some []) := Fresh.st (Fresh.go h (below_alloc (below_drew (Below.refl _ _)) _)) B
theorem lit3 (w : World) (x y z : List UInt8) : (w.drew.alloc (.cells #[strV x, strV y, strV z] 9)).ownsRow w.heap.size 9 1 (.slice (some ⟨w.heap.size, 0, none⟩) 3 3) [x, y, z].length ([x, y, z].map strV) :=
  World.ownsRow_lit (base := w.heap.size) w.drew #[strV x, strV y, strV z] 3 (Nat.le_refl _) (by unfold maxLen; omega) rfl
theorem parse_gd (l : List ByteArray) : parse (frs (gd l)) = (gd l, some []) := by
  have := parse_frs (gd l) [] gd_ok
  rw [List.append_nil] at this
  rw [this, parse_inv (.inl (by simp))]
  simp
theorem place (a : Int) (n : Nat) (hn : n ≤ 60000) : ∃ q : Nat, wrap64 ((IntKind.u64.wrap a).tmod ((n : Int) + 1)) = (q : Int) ∧ q ≤ n := by
  have h0 : 0 ≤ IntKind.u64.wrap a := by
    have : IntKind.u64.wrap a = a % 18446744073709551616 := by simp [IntKind.wrap, IntKind.bits, IntKind.signed]
    omega
  generalize IntKind.u64.wrap a = x at *
  rw [Int.tmod_eq_emod_of_nonneg h0]
  have h1 := Int.emod_nonneg x (b := (n : Int) + 1) (by omega)
  have h2 := Int.emod_lt_of_pos x (b := (n : Int) + 1) (by omega)
  refine ⟨(x % ((n : Int) + 1)).toNat, ?_, by omega⟩
  generalize x % ((n : Int) + 1) = y at *
  unfold wrap64
  omega
theorem sl_to (D : ByteArray) (q : Nat) (hq : q ≤ D.size) (W : World) : (Instr.slice 9 (.string D) none (some (.int .i64 (q : Int))) none).run Try.prog W = .ok (.string ⟨(D.data.toList.take q).toArray⟩) W := by
  have := run_slice_string_h (P := Try.prog) W 9 (s := D) Try.underlying9 .i64 (q : Int) (by omega) (by omega)
  rw [this, Int.toNat_natCast]
  congr 2
  refine str_ext ?_
  simp
theorem sl_from (D : ByteArray) (q : Nat) (hq : q ≤ D.size) (W : World) : (Instr.slice 9 (.string D) (some (.int .i64 (q : Int))) none none).run Try.prog W = .ok (.string ⟨(D.data.toList.drop q).toArray⟩) W := by
  have := run_slice_string_l (P := Try.prog) W 9 (s := D) Try.underlying9 .i64 (q : Int) (by omega) (by omega)
  rw [this, Int.toNat_natCast]
  congr 2
  refine str_ext ?_
  have : (D.extract q D.size).data.toList = (D.data.toList.drop q).take (D.size - q) := by simp [List.take_drop, show q + (D.size - q) = D.size by omega]
  rw [this, List.take_of_length_le (by simp)]
def BackR (l : List ByteArray) (N : Nat) (w0 : World) (t5 t6 t7 : Value) (wr : World) : Prop := ∃ k : Nat, t7 = .int .i64 (k : Int) ∧ k ≤ l.length ∧ t5 = .string (frB l k) ∧
  wr.ownsRow N 9 1 t6 (gd (l.take k)).length ((gd (l.take k)).map strV) ∧ Kp N w0 wr
theorem frB_succ (l : List ByteArray) (k : Nat) (h : k < l.length) (h1 : 5 ≤ l[k].size) (h2 : l[k].size ≤ 16384) : frB l k ++ ⟨(fr l[k].data.toList).toArray⟩ = frB l (k + 1) := by
  refine str_ext ?_
  unfold frB
  rw [gd_take l k h, if_pos ⟨h1, h2⟩, frs_snoc]
  simp
set_option maxHeartbeats 3200000 in
set_option maxRecDepth 100000 in
theorem core (A : Option Addr) (c : Nat) (l : List ByteArray) (at_ : Int) (w : World) (hc : l.length ≤ c) (hm : l.length * 16 ≤ 140737488351232) (hz : ∀ x ∈ l, x.size ≤ 140737488351232) (hl : Kd.string.C w A l.length l) (hat : (Lit.int .i64 at_).wf = true) :
    Calls Try.prog 7 #[.slice A l.length c, .int .i64 at_] w fun e w' => e = .returned (.bool true) ∧ Below w.heap.size w w' := by
  obtain ⟨b, hb, hcall⟩ := long_any A c l w hl hc (by omega)
  cases b with
  | true =>
    go_enter Try.func7, Try.ntmps7
    go_wp2_with fail
    refine hcall.mono ?_
    rintro e w1 ⟨rfl, hb1⟩
    have HK := (Kp.refl w).go hb1
    clear hb1
    go_wp2_with fail
    refine (awake_any _).mono ?_
    rintro e w3 ⟨rfl, hb⟩
    replace HK := HK.go hb
    go_wp2_with fail
    go_ret
    exact ⟨rfl, HK.below⟩
  | false =>
    have ht := hb rfl
    clear hb
    have htl := tot_len l
    have HL := Lib.hid hl
    clear hl hz
    go_enter Try.func7, Try.ntmps7
    go_wp2_with fail
    refine hcall.mono ?_
    clear hcall
    rintro e w1 ⟨rfl, hb1⟩
    have HK := (Kp.refl w).go hb1
    clear hb1
    go_wp2_with fail
    refine (awake_any _).mono ?_
    rintro e w2 ⟨rfl, hb⟩
    replace HK := HK.go hb
    clear hb
    go_wp2_with fail
    have hR : BackR l w.heap.size w (.string ⟨#[]⟩) (.slice none 0 0) (.int .i64 0) w2 := ⟨0, rfl, by omega, rfl, World.ownsRow_nil _ _ _ _, HK⟩
    clear HK
    go_loopw [5, 6, 7] (fun t5 t6 t7 wr => BackR l w.heap.size w t5 t6 t7 wr) (fun _ _ t7 _ => l.length - (intOf t7).toNat)
    case atStart => exact hR
    case round =>
      clear hR
      obtain ⟨k, rfl, hk, rfl, ho, HK⟩ := hrel
      by_cases hlt : k < l.length
      · have k0 : (0 : Int) ≤ (k : Int) := by omega
        have k1 : (k : Int) < (l.length : Int) := by omega
        obtain ⟨ad, rfl, e0⟩ := Kd.at_string (Kd.C_below HL.out HK.below) (k : Int) k0 k1
        have hr0 : rdOf ByteArray.empty l (k : Int) = l[k] := by simp [rdOf, List.getD_eq_getElem?_getD, hlt]
        have hat2 : ∀ wx, Kp w.heap.size w wx → wx.cell? (ad.add k) = some (.string l[k]) := by
          intro wx hwx
          obtain ⟨ad', h1, h2⟩ := Kd.at_string (Kd.C_below HL.out hwx.below) (k : Int) k0 k1
          injection h1 with h1
          subst h1
          rw [hr0, Int.toNat_natCast] at h2
          exact h2
        have HAT := Lib.hid hat2
        rw [hr0, Int.toNat_natCast] at e0
        have hg := Lib.hid (gd_take l k hlt)
        have hs1 := frB_size l k
        have hs2 := frs_gd (l.take k)
        have hs3 : (l.take k).length = k := by simp; omega
        have hs4 : Base.tot (l.take k) ≤ Base.tot l := by
          have : Base.tot l = Base.tot (l.take k) + Base.tot (l.drop k) := by
            unfold Base.tot
            rw [← List.sum_append, ← List.map_append, List.take_append_drop]
          omega
        have hgl : (gd (l.take k)).length ≤ 60000 := by omega
        have hfl : (frB l k).size ≤ 60000 := by omega
        have hwr := HK.size
        clear hr0 hat2 hs1 hs2 hs3 hs4
        go_wp2_with fail
        refine (frame_any l[k] _).mono ?_
        rintro e w4 ⟨rfl, hb⟩
        replace ho := ownsRow_go ho hb
        have HK4 := HK.go hb
        have e4 := HAT.out w4 HK4
        have hw4 := HK4.size
        clear hb HK HAT e0
        have hbad : ¬ (5 ≤ l[k].size ∧ l[k].size ≤ 16384) → gd (l.take (k + 1)) = gd (l.take k) := fun h => by have := hg.out; rwa [if_neg h, List.append_nil] at this
        have HBAD := Lib.hid hbad
        clear hbad
        have hw2 : w.heap.size ≤ (w4.alloc (.cells #[.string l[k]] 9)).heap.size := by simp; omega
        by_cases hsm : l[k].size < 5
        · have he : frE l[k] = 4 := if_pos hsm
          have hsi : (l[k].size : Int) < 5 := by omega
          rw [he]
          clear hg
          go_wp2_with fail
          go_roundw
          case rel =>
            have hh := HBAD.out (by omega)
            exact ⟨k + 1, by go_num, by omega, by unfold frB; rw [hh], by rw [hh]; exact ho, HK4⟩
          case measure => simp [intOf]; omega
        · by_cases hlg : 16384 < l[k].size
          · have he : frE l[k] = 5 := by unfold frE; rw [if_neg hsm, if_pos hlg]
            have hsi : (16384 : Int) < (l[k].size : Int) := by omega
            rw [he]
            clear hg
            go_wp2_with fail
            go_roundw
            case rel =>
              have hh := HBAD.out (by omega)
              exact ⟨k + 1, by go_num, by omega, by unfold frB; rw [hh], by rw [hh]; exact ho, HK4⟩
            case measure => simp [intOf]; omega
          · have he : frE l[k] = 0 := by unfold frE; rw [if_neg hsm, if_neg hlg]
            have hss : frS l[k] = ⟨(fr l[k].data.toList).toArray⟩ := by unfold frS; rw [if_neg hsm, if_neg hlg]
            have hfb := Lib.hid (frB_succ l k hlt (by omega) (by omega))
            have hgg : gd (l.take (k + 1)) = gd (l.take k) ++ [l[k].data.toList] := by have := hg.out; rwa [if_pos (by omega)] at this
            have HG := Lib.hid hgg
            have hsx : (⟨(fr l[k].data.toList).toArray⟩ : ByteArray).size ≤ 100000 := by
              show (fr l[k].data.toList).toArray.size ≤ _
              simp only [List.size_toArray, fr_len, Array.length_toList]
              have : l[k].data.size = l[k].size := rfl
              omega
            have hsv : strV l[k].data.toList = .string l[k] := rfl
            rw [he, hss]
            clear hg hgg he hss HBAD
            go_wp2_with (at_builtin; go_must (refine app_row (ys := [l[k].data.toList]) rfl _ _ rfl (by rfl) (by rfl) (ho.alloc (.cells #[.string l[k]] 9)) (World.ownsRow_lit (base := w4.heap.size) w4 #[.string l[k]] 1 (Nat.le_refl _) (by unfold maxLen; omega) rfl) (by omega) hw2 ?_; intro v5 w5 ho5 hg5; have HK5 := (HK4.alloc (.cells #[.string l[k]] 9)).grown hg5 (fun j hj => (ho.lt j hj).1)))
            go_roundw
            case rel => exact ⟨k + 1, by go_num, by omega, by rw [← hfb.out], by rw [HG.out, List.length_append, List.map_append]; exact ho5, HK5⟩
            case measure => simp [intOf]; omega
      · have hkk : ¬ (k : Int) < (l.length : Int) := by omega
        have hkf : l.take k = l := List.take_of_length_le (by omega)
        have hs2 := frs_gd l
        have hsB : (frB l k).size ≤ 60000 ∧ (frB l k).data.toList = frs (gd l) := by
          rw [frB_size, hkf]
          refine ⟨by omega, ?_⟩
          unfold frB
          rw [hkf]
        rw [hkf] at ho
        obtain ⟨hB1, hB2⟩ := hsB
        have HB2 := Lib.hid hB2
        generalize frB l k = D at *
        clear hkf hB2
        go_wp2_with fail
        obtain ⟨q, hq, hqD⟩ := place at_ D.size hB1
        rw [hq]
        clear hq
        have hpg := parse_gd l
        have hfl : (frs (gd l)).length ≤ 60000 := by omega
        have hgl : (gd l).length ≤ 60000 := by omega
        have hq2 : q ≤ (frs (gd l)).length := by
          have h1 := congrArg List.length HB2.out
          have h2 : D.data.toList.length = D.size := by simp
          omega
        have s1 := sl_to D q hqD
        have s2 := sl_from D q hqD
        rw [HB2.out] at s1 s2
        have S1 := Lib.hid s1
        have S2 := Lib.hid s2
        have PG := Lib.hid hpg
        clear s1 s2 hpg HB2
        generalize frs (gd l) = F at *
        generalize gd l = G at *
        refine (new_fresh _).mono ?_
        rintro e w5 ⟨p, rfl, bp, fp, hb⟩
        have Bp := Nat.le_trans HK.size bp
        replace HK := HK.go hb
        replace ho := ownsRow_go ho hb
        clear hb bp
        go_wp2_with fail
        have HF := Lib.hid (show [F.take q, [], F.drop q].flatten = F by simp)
        have s1 := S1.out
        have s2 := S2.out
        go_region_with ((go_at_call 21; go_must (refine (fed_os w.heap.size p _ [F.take q, [], F.drop q] w5.heap.size _ Bp (fresh_lit fp _ _) (lit3 w5 _ _ _) (by simp; omega) (by intro x hx; simp at hx; rcases hx with rfl | rfl | rfl <;> simp <;> omega) (by simp)).mono ?_; rintro e w6 ⟨vx, rfl, rx, sx, hf⟩; rw [HF.out] at rx sx ⊢; rw [PG.out] at rx sx; rw [errP_some PG.out])))
        clear s1 s2
        replace ho := own_fr (ownsRow_go ho (below_alloc (below_drew (Below.refl _ _)) _)) (by decide) (by decide) (Blk.alloc (Blk.drew fp) _) hf
        replace HK := (HK.drew.alloc _).fr hf Bp
        replace sx := sx.sv
        obtain ⟨A1, c1, rfl, m1, q1⟩ := own_reads rx
        obtain ⟨A2, c2, rfl, m2, q2⟩ := own_reads ho
        clear rx ho hf fp
        go_wp2_with fail
        refine (same_os G A1 c1 A2 c2 _ q1 m1 q2 m2 (by omega)).mono ?_
        rintro e w7 ⟨rfl, hb⟩
        replace sx := sx.go hb
        replace HK := HK.go hb
        clear hb
        go_wp2_with (first | (go_at_call 18; ((with_reducible refine (closed_st _ _ _ (by assumption)).mono ?_); rintro e _ ⟨rfl, rfl⟩)) | (go_at_call 17; ((with_reducible refine (waits_st _ _ _ (by assumption)).mono ?_); rintro e _ ⟨rfl, rfl⟩)))
        go_ret
        exact ⟨rfl, HK.below⟩
end Go.Proofs.Ytedkfhgpahjleaa.Back
