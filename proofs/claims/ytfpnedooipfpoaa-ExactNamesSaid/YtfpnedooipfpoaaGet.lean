/- A new table; what a key has. Conditions: as each contract says. -/
import Derived.Test.YtfpnedooipfpoaaTab
import Derived.Laws.MakeOwn
set_option linter.unusedVariables false
set_option linter.unusedSimpArgs false
namespace Go.Proofs.Ytfpnedooipfpoaa.Base
open Go Go.RowKit Go.Proofs.Ytfpnedooipfpoaa Go.Proofs.Ytfpnedooipfpoaa.Ex Go.Proofs.Ytfpnedooipfpoaa.Mem Go.Proofs.Ytfpnedooipfpoaa.Math Go.Proofs.YtfpnedooipfpoaaW.PrintWords Go.Proofs.YtfpnedooipfpoaaW.PrintLast Go.Proofs.Ytfpnedooipfpoaa.PExactHalf
theorem make40 (n : Nat) (hn : n ≤ 4000000000) (W : World) : (Instr.makeSlice 40 (.int .i64 (n : Int)) (.int .i64 (n : Int))).run Try.prog W = .ok (.slice (some ⟨W.heap.size, 0, none⟩) n n) (W.alloc (.cells (madeCells #[.bool false, .string ByteArray.empty, .int .i64 0] (n * 3)) 45)) := by
  obtain ⟨i45, hi45, hz0, hz1, hz2⟩ := info_parts info45
  have h := run_make (P := Try.prog) W 40 45 i45 (.agg #[.bool false, .string ⟨#[]⟩, .int .i64 0]) Try.underlying40 hi45 hz0 .i64 .i64 (n : Int) (n : Int) (by omega) (Int.le_refl _) (by rw [hz2]; omega) (by omega)
  rw [hz1, Int.toNat_natCast] at h
  exact h
theorem sc_rep (n : Nat) : sc (List.replicate n none) = (madeCells #[.bool false, .string ByteArray.empty, .int .i64 0] (n * 3)).toList := by
  refine List.ext_getElem? fun i => ?_
  have hl : (sc (List.replicate n none)).length = n * 3 := by unfold sc; rw [flat_len sc_f, List.length_replicate]
  rcases Nat.lt_or_ge i (n * 3) with hi | hi
  · have hq : (List.replicate n (none : Option Ent))[i / 3]? = some none := by rw [List.getElem?_replicate, if_pos (by omega)]
    have h1 := flat_at sc_f (List.replicate n none) (i / 3) hq (i % 3) (by omega)
    rw [show i / 3 * 3 + i % 3 = i by omega] at h1
    have h2 : (madeCells #[.bool false, .string ByteArray.empty, .int .i64 0] (n * 3)).toList[i]? = some (#[Value.bool false, .string ByteArray.empty, .int .i64 0][i % 3]!) := by
      unfold madeCells
      simp [hi]
    unfold sc
    rw [h1, h2]
    have hr : i % 3 = 0 ∨ i % 3 = 1 ∨ i % 3 = 2 := by omega
    rcases hr with hr | hr | hr <;> rw [hr] <;> rfl
  · rw [List.getElem?_eq_none (by rw [hl]; exact hi), List.getElem?_eq_none (by rw [Array.length_toList, size_madeCells]; exact hi)]
/-- A row of free slots, which was made now. -/
theorem row_new (w : World) (n : Nat) (hn : n ≤ 4000000000) : (w.alloc (.cells (madeCells #[.bool false, .string ByteArray.empty, .int .i64 0] (n * 3)) 45)).ownsRow w.heap.size 45 3 (.slice (some ⟨w.heap.size, 0, none⟩) n n) n (sc (List.replicate n none)) := by
  rw [sc_rep]
  exact World.ownsRow_lit w _ n (Nat.le_refl _) (by unfold maxLen; omega) (by rw [size_madeCells])
set_option maxHeartbeats 3200000 in
theorem new_any (w : World) : Calls Try.prog 9 #[] w fun e w' => ∃ a, e = .returned (ptr a) ∧ Tto w' a (New w w') new8 ∧ Below w.heap.size w w' := by
  have hmk := make40 8 (by decide) w
  rw [show ((8 : Nat) : Int) = 8 from rfl] at hmk
  have hr := row_new w 8 (by decide)
  have hb1 : Below w.heap.size w (w.alloc (.cells (madeCells #[.bool false, .string ByteArray.empty, .int .i64 0] (8 * 3)) 45)) := (Below.refl _ _).alloc (Nat.le_refl _) _
  have hs : (w.alloc (.cells (madeCells #[.bool false, .string ByteArray.empty, .int .i64 0] (8 * 3)) 45)).heap.size = w.heap.size + 1 := by simp
  have HR := Lib.hid hr
  have HB1 := Lib.hid hb1
  have HSZ := Lib.hid hs
  clear hr hb1 hs
  go_enter Try.func9, Try.ntmps9
  go_wp2_with fail
  generalize w.alloc (.cells (madeCells #[.bool false, .string ByteArray.empty, .int .i64 0] (8 * 3)) 45) = w1 at *
  go_ret
  refine ⟨w1.heap.size, by rw [HSZ.out] <;> rfl, ⟨fun k hk => hk.2, w.heap.size, 8, ⟨Blk.new w1 42 _, own_mono (HR.out.alloc _) (Nat.zero_le _)⟩, good_new, ⟨3, rfl, by decide⟩, fun k v hv => absurd hv (new_none k v), ⟨HB1.out.size, by simp⟩, ⟨Nat.le_refl _, by have := HSZ.out; simp; omega⟩⟩, HB1.out.alloc HB1.out.size _⟩
def GetEnd (w : World) (q : Int × Bool) (e : Ending) (w' : World) : Prop := e = .returned (.tuple #[.int .i64 q.1, .bool q.2]) ∧ Below w.heap.size w w'
theorem get_eq (T : Tb) (k : Key) (b : Bool) (kk : Key) (v : Int) (hg : gt T.L (find HH T.L k) = (if b then some (kk, v) else none)) (hz : b = false → kk = ByteArray.empty ∧ v = 0) : Ex.get HH T k = (v, b) := by
  unfold Ex.get
  rw [hg]
  cases b with
  | true => rfl
  | false => rw [(hz rfl).2]; rfl
set_option maxHeartbeats 3200000 in
set_option maxRecDepth 100000 in
theorem get_any (a : Nat) (O : Nat → Prop) (T : Tb) (k : Key) (w : World) (h : Tto w a O T) (hk : k.size ≤ 140737488351232) : Calls Try.prog 15 #[ptr a, .string k] w (GetEnd w (Ex.get HH T k)) := by
  obtain ⟨h1, g, cap, h2, h3, h4, h5, h6, h7⟩ := h
  have hpos := h4.pos
  have hfl := find_lt hlim h3.free k
  obtain ⟨b, kk, v, d0, d1, d2, -, hgt, hz⟩ := h2.at_ _ hfl
  have HG := Lib.hid (get_eq T k b kk v hgt hz)
  have HF := Lib.hid (fun W (hW : Below w.heap.size w W) => find_any a g cap T.L _ k W (h2.go hW) h4 h3.free hk)
  have hS0 := fun W (hW : Below w.heap.size w W) => (show W.cell? ⟨a, 0, none⟩ = some (.slice (some ⟨g, 0, none⟩) T.L.length cap) ∧ W.cell? ⟨g, find HH T.L k * 3, none⟩ = some (.bool b) ∧ W.cell? ⟨g, find HH T.L k * 3 + 1, none⟩ = some (.string kk) ∧ W.cell? ⟨g, find HH T.L k * 3 + 2, none⟩ = some (.int .i64 v) from
    ⟨by have := (h2.go hW).box.cell 0; exact this, (hW.cell (World.block_lt_of_cell? _ _ d0)).trans d0, (hW.cell (World.block_lt_of_cell? _ _ d1)).trans d1, (hW.cell (World.block_lt_of_cell? _ _ d2)).trans d2⟩)
  have hS := Lib.hid hS0
  rw [HG.out]
  clear h1 h2 h3 h5 h6 h7 hgt hz hk HG h4 hS0 d0 d1 d2
  generalize T.L.length = m at *
  generalize find HH T.L k = f at *
  have k0 : (0 : Int) ≤ (f : Int) := by omega
  have k1 : (f : Int) < (m : Int) := by omega
  clear hfl hpos
  go_enter Try.func15, Try.ntmps15
  go_upto_region 3 with (fail)
  have HB0 := Lib.hid (Below.refl w.heap.size w)
  obtain ⟨c0, d0, d1, d2⟩ := hS.out w HB0.out
  have n1 := World.new_ne w _ c0
  have n2 := World.new_ne w _ d0
  go_region_held3 (fun W => (W.cell? ⟨a, 0, none⟩ = some (.slice (some ⟨g, 0, none⟩) m cap) ∧ W.cell? ⟨g, f * 3, none⟩ = some (.bool b)) ∧ (W.cell? ⟨g, f * 3 + 1, none⟩ = some (.string kk) ∧ W.cell? ⟨g, f * 3 + 2, none⟩ = some (.int .i64 v))) (go_keep) (first
    | (go_simp; go_at_call 19; (with_reducible refine (HF.out _ (by first | exact below_drew1 HB0.out | exact below_drew1 (below_alloc HB0.out _))).mono ?_); rintro e w1 ⟨rfl, hb⟩; have HB1 := (by first | exact Lib.hid (below_step (below_drew1 HB0.out) hb) | exact Lib.hid (below_step (below_drew1 (below_alloc HB0.out _)) hb) : Hid (Below w.heap.size w w1)); obtain ⟨c0, d0, d1, d2⟩ := hS.out _ HB1.out; have n3 := World.new_ne w1 _ c0; have n4 := World.new_ne w1 _ d0; (try (have X := Blk.go (Blk.drew (Blk.new w 45 #[.bool false, .string ⟨#[]⟩, .int .i64 0])) hb; have y0 := X.cell 0; have y1 := X.cell 1; have y2 := X.cell 2; have z0 := X.frozen 0; have z1 := X.frozen 1; have z2 := X.frozen 2))))
  focus
    have XB : Blk (w1.alloc (.cells #[.bool b, .string kk, .int .i64 v] 45)) w1.heap.size 45 #[.bool b, .string kk, .int .i64 v] := Blk.new w1 45 _
    have HB2 := Lib.hid (below_alloc HB1.out (.cells #[.bool b, .string kk, .int .i64 v] 45))
    generalize w1.alloc (.cells #[.bool b, .string kk, .int .i64 v] 45) = w2 at *
    generalize w1.heap.size = q at *
    have y0 := XB.cell 0
    have y2 := XB.cell 2
    clear c0 d0 d1 d2 n1 n2 n3 n4
    go_wp2_with fail
    go_quiet (fail)
    go_wp2_with fail
    go_ret2
    exact ⟨rfl, pw_below_drewN HB2.out _⟩
  focus
    have XB : Blk (((w1.setCell ⟨w.heap.size, 0, none⟩ (.bool b)).setCell ⟨w.heap.size, 1, none⟩ (.string kk)).setCell ⟨w.heap.size, 2, none⟩ (.int .i64 v)) w.heap.size 45 #[.bool b, .string kk, .int .i64 v] := ((X.set_ 0 (.bool b)).set_ 1 (.string kk)).set_ 2 (.int .i64 v)
    have HB2 := Lib.hid (((HB1.out.setCell (Nat.le_refl _) (.bool b)).setCell (Nat.le_refl _) (.string kk)).setCell (Nat.le_refl _) (.int .i64 v) : Below w.heap.size w (((w1.setCell ⟨w.heap.size, 0, none⟩ (.bool b)).setCell ⟨w.heap.size, 1, none⟩ (.string kk)).setCell ⟨w.heap.size, 2, none⟩ (.int .i64 v)))
    generalize ((w1.setCell ⟨w.heap.size, 0, none⟩ (.bool b)).setCell ⟨w.heap.size, 1, none⟩ (.string kk)).setCell ⟨w.heap.size, 2, none⟩ (.int .i64 v) = w2 at *
    replace y0 := XB.cell 0
    replace y2 := XB.cell 2
    clear c0 d0 d1 d2 n1 n2 n3 n4 y1 z0 z1 z2 X
    go_wp2_with fail
    go_quiet (fail)
    go_wp2_with fail
    go_ret2
    exact ⟨rfl, pw_below_drewN HB2.out _⟩
end Go.Proofs.Ytfpnedooipfpoaa.Base
