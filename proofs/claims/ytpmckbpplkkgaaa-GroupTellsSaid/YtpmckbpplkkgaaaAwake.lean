/- The examples are as they are told. Conditions: as each contract says. -/
import Derived.Test.YtpmckbpplkkgaaaGBlocks
set_option linter.unusedVariables false
set_option linter.unusedSimpArgs false
namespace Go.Proofs.Ytpmckbpplkkgaaa.Base
open Go Go.RowKit Go.Proofs.Ytpmckbpplkkgaaa.Mem Go.Proofs.YtpmckbpplkkgaaaW.PrintWords Go.Proofs.YtpmckbpplkkgaaaW.PrintLast Go.Proofs.Ytpmckbpplkkgaaa.Fl
open Go.Proofs.Ytpmckbpplkkgaaa.PGroupTells (S34 z34 k34 k34_open k34_mk)
def L1 : List S34 := [⟨0, 5⟩, ⟨0, 3⟩, ⟨0, 5⟩]
def L2 : List S34 := [⟨4607182418800017408, 5⟩, ⟨0, 6⟩, ⟨4613937818241073152, 7⟩]
def L3 : List S34 := [⟨0, 5⟩]
theorem g1 : goesB 1 1 0 L1 7 [0, 1, 2] = true := by decide +kernel
theorem g2 : goesB 1 2 2 L2 1073741824 [2] = true := by decide +kernel
theorem g3 : goesB 1 2 2 L2 1073741823 [0] = true := by decide +kernel
theorem g4 : goesB 1 2 2 L3 7 [] = true := by decide +kernel
theorem g5 : gmay 1 2 2 L3 = true := by decide +kernel
theorem g6 : gmay 1 1 1 L1 = false := by decide +kernel
theorem s1 : srt [5, 3, 5] = [3, 5, 5] := by simp [srt, List.mergeSort, List.MergeSort.Internal.splitInTwo]
theorem g7 : gblk blkOf 1 1 0 L1 = [3, 5] := by
  have : gmay 1 1 0 L1 = true := by decide +kernel
  unfold gblk
  rw [this]
  show blkOf [5, 3, 5] = _
  unfold blkOf
  rw [s1]
  decide +kernel
theorem inb_of (l : List S34) (h : l.all (fun x => decide (0 ≤ x.f0) && decide (x.f0 < 18446744073709551616)) = true) : inB l := by
  intro x hx
  have := List.all_eq_true.1 h x hx
  simpa using this
theorem blk_reads34 {w : World} {g t : Nat} {l : List S34} (h : Blk w g t (l.flatMap (fun x => [Value.int .u64 x.f0, Value.int .i64 x.f1])).toArray) (hl : l.length ≤ 9223372036854775807) : Kd.C k34 w (some ⟨g, 0, none⟩) l.length l := by
  refine ⟨rfl, hl, fun _ => ⟨_, rfl, fun j p hj => ⟨_, rfl, k34_mk _ p, fun i u hu => ?_⟩⟩⟩
  have hj' : j < l.length := (List.getElem?_eq_some_iff.1 hj).1
  show w.cell? (Addr.add ⟨g, 0, none⟩ (j * 2 + i)) = _
  rw [Mem.add_at, Nat.zero_add, h.cell (j * 2 + i)]
  have key : ∀ (l : List S34) (j i : Nat) (p : S34) (u : Value), l[j]? = some p → [Value.int .u64 p.f0, Value.int .i64 p.f1][i]? = some u → (l.flatMap (fun x => [Value.int .u64 x.f0, Value.int .i64 x.f1]))[j * 2 + i]? = some u := by
    intro l
    induction l with
    | nil => intro j i p u h; cases h
    | cons a r ih =>
      intro j i p u hj hu
      rw [List.flatMap_cons]
      cases j with
      | zero =>
        simp at hj
        subst hj
        have hi : i < 2 := (List.getElem?_eq_some_iff.1 hu).1
        rw [Nat.zero_mul, Nat.zero_add, List.getElem?_append_left (by exact hi)]
        exact hu
      | succ j =>
        rw [List.getElem?_cons_succ] at hj
        rw [List.getElem?_append_right (by simp only [List.length_cons, List.length_nil]; omega)]
        rw [show (j + 1) * 2 + i - [Value.int .u64 a.f0, Value.int .i64 a.f1].length = j * 2 + i from by simp only [List.length_cons, List.length_nil]; omega]
        exact ih j i p u hj hu
  simpa using key l j i p u hj hu
theorem blk_readsI {w : World} {g t : Nat} {l : List Int} (h : Blk w g t (l.map (Value.int .i64)).toArray) (hl : l.length ≤ 9223372036854775807) : Kd.C (Kd.int .i64) w (some ⟨g, 0, none⟩) l.length l := by
  refine ⟨rfl, hl, fun _ => ⟨_, rfl, fun j p hj => ⟨[.int .i64 p], rfl, rfl, fun i u hu => ?_⟩⟩⟩
  have hi : i = 0 := by
    have := (List.getElem?_eq_some_iff.1 hu).1
    simp at this
    omega
  subst hi
  simp at hu
  subst hu
  show w.cell? (Addr.add ⟨g, 0, none⟩ (j * 1 + 0)) = _
  rw [Mem.add_at, Nat.zero_add, h.cell (j * 1 + 0)]
  simp [hj]
/-- 'goes', of a literal row of wants. -/
theorem goes_lit (id kind field : Int) (A : Option Addr) (cp : Nat) (l : List S34) (h : Nat) (m : List Int) (w : World) (hr : Kd.C k34 w A l.length l) (hb : inB l) (hl : l.length < 1000000) (hh : h < 4294967296) (hm : m.length ≤ 1000) :
    Calls Try.prog 20 #[gV id kind field A l.length cp, .int .u32 (h : Int), .slice (some ⟨w.heap.size, 0, none⟩) m.length m.length] (w.alloc (.cells (m.map (Value.int .i64)).toArray 3)) fun e w' => e = .returned (.bool (goesB id kind field l h m)) ∧ Below w.heap.size w w' := by
  have k := (Below.refl w.heap.size w).alloc (Nat.le_refl _) (.cells (m.map (Value.int .i64)).toArray 3)
  refine (goes_any id kind field A cp l h (some ⟨w.heap.size, 0, none⟩) m.length m m.length _ (Lib.hid rfl) (Kd.C_below hr k) hb hl hh (blk_readsI (Blk.new w 3 _) (by omega)) (Nat.le_refl _)).mono ?_
  rintro e w1 ⟨rfl, hb1⟩
  exact ⟨rfl, k.trans (hb1.mono k.size)⟩
structure AwS (B : Nat) (W : World) : Prop where
  q1 : Blk W B 34 #[.int .u64 0, .int .i64 5, .int .u64 0, .int .i64 3, .int .u64 0, .int .i64 5]
  b1 : Blk W (B + 1) 27 #[.int .i64 1, .int .u8 1, .int .i64 0, .slice (some ⟨B, 0, none⟩) 3 3]
  q2 : Blk W (B + 1 + 1) 34 #[.int .u64 4607182418800017408, .int .i64 5, .int .u64 0, .int .i64 6, .int .u64 4613937818241073152, .int .i64 7]
  b2 : Blk W (B + 1 + 1 + 1) 27 #[.int .i64 1, .int .u8 2, .int .i64 2, .slice (some ⟨B + 1 + 1, 0, none⟩) 3 3]
  q3 : Blk W (B + 1 + 1 + 1 + 1) 34 #[.int .u64 0, .int .i64 5]
  b3 : Blk W (B + 1 + 1 + 1 + 1 + 1) 27 #[.int .i64 1, .int .u8 2, .int .i64 2, .slice (some ⟨B + 1 + 1 + 1 + 1, 0, none⟩) 1 1]
theorem AwS.go {B : Nat} {W W' : World} (h : AwS B W) (k : Below W.heap.size W W') : AwS B W' := ⟨h.q1.go k, h.b1.go k, h.q2.go k, h.b2.go k, h.q3.go k, h.b3.go k⟩
theorem AwS.r1 {B : Nat} {W : World} (h : AwS B W) : Kd.C k34 W (some ⟨B, 0, none⟩) L1.length L1 := blk_reads34 h.q1 (by decide)
theorem AwS.r2 {B : Nat} {W : World} (h : AwS B W) : Kd.C k34 W (some ⟨B + 1 + 1, 0, none⟩) L2.length L2 := blk_reads34 h.q2 (by decide)
theorem AwS.r3 {B : Nat} {W : World} (h : AwS B W) : Kd.C k34 W (some ⟨B + 1 + 1 + 1 + 1, 0, none⟩) L3.length L3 := blk_reads34 h.q3 (by decide)
theorem six (w : World) (t1 t2 t3 t4 t5 t6 : Nat) (c1 c2 c3 c4 c5 c6 : Array Value) :
    let W := (((((w.alloc (.cells c1 t1)).alloc (.cells c2 t2)).alloc (.cells c3 t3)).alloc (.cells c4 t4)).alloc (.cells c5 t5)).alloc (.cells c6 t6)
    Blk W w.heap.size t1 c1 ∧ Blk W (w.heap.size + 1) t2 c2 ∧ Blk W (w.heap.size + 1 + 1) t3 c3 ∧ Blk W (w.heap.size + 1 + 1 + 1) t4 c4 ∧ Blk W (w.heap.size + 1 + 1 + 1 + 1) t5 c5 ∧ Blk W (w.heap.size + 1 + 1 + 1 + 1 + 1) t6 c6 ∧ Below w.heap.size w W := by
  intro W
  have sz : ∀ (w : World) (o : Obj), (w.alloc o).heap.size = w.heap.size + 1 := fun w o => by simp
  have a1 := Blk.new w t1 c1
  have a2 := Blk.new (w.alloc (.cells c1 t1)) t2 c2
  have a3 := Blk.new ((w.alloc (.cells c1 t1)).alloc (.cells c2 t2)) t3 c3
  have a4 := Blk.new (((w.alloc (.cells c1 t1)).alloc (.cells c2 t2)).alloc (.cells c3 t3)) t4 c4
  have a5 := Blk.new ((((w.alloc (.cells c1 t1)).alloc (.cells c2 t2)).alloc (.cells c3 t3)).alloc (.cells c4 t4)) t5 c5
  have a6 := Blk.new (((((w.alloc (.cells c1 t1)).alloc (.cells c2 t2)).alloc (.cells c3 t3)).alloc (.cells c4 t4)).alloc (.cells c5 t5)) t6 c6
  simp only [sz] at a2 a3 a4 a5 a6
  have k1 := (Below.refl w.heap.size w).alloc (Nat.le_refl _) (.cells c1 t1)
  have k2 := k1.alloc k1.size (.cells c2 t2)
  have k3 := k2.alloc k2.size (.cells c3 t3)
  have k4 := k3.alloc k3.size (.cells c4 t4)
  have k5 := k4.alloc k4.size (.cells c5 t5)
  have k6 := k5.alloc k5.size (.cells c6 t6)
  exact ⟨((((a1.alloc _).alloc _).alloc _).alloc _).alloc _, (((a2.alloc _).alloc _).alloc _).alloc _, ((a3.alloc _).alloc _).alloc _, (a4.alloc _).alloc _, a5.alloc _, a6, k6⟩
theorem ib1 : inB L1 := inb_of _ (by decide)
theorem ib2 : inB L2 := inb_of _ (by decide)
theorem ib3 : inB L3 := inb_of _ (by decide)
set_option maxHeartbeats 16000000 in
theorem awake_any (w : World) : Calls Try.prog 10 #[] w fun e w' => e = .returned (.bool true) ∧ Below w.heap.size w w' := by
  obtain ⟨y1, y2, y3, y4, y5, y6, hk⟩ := six w 34 27 34 27 34 27 #[.int .u64 0, .int .i64 5, .int .u64 0, .int .i64 3, .int .u64 0, .int .i64 5] #[.int .i64 1, .int .u8 1, .int .i64 0, .slice (some ⟨w.heap.size, 0, none⟩) 3 3] #[.int .u64 4607182418800017408, .int .i64 5, .int .u64 0, .int .i64 6, .int .u64 4613937818241073152, .int .i64 7] #[.int .i64 1, .int .u8 2, .int .i64 2, .slice (some ⟨w.heap.size + 1 + 1, 0, none⟩) 3 3] #[.int .u64 0, .int .i64 5] #[.int .i64 1, .int .u8 2, .int .i64 2, .slice (some ⟨w.heap.size + 1 + 1 + 1 + 1, 0, none⟩) 1 1]
  have S0 := Lib.hid (AwS.mk y1 y2 y3 y4 y5 y6)
  have HK := Lib.hid hk
  clear y1 y2 y3 y4 y5 y6 hk
  go_enter Try.func10, Try.ntmps10
  go_upto_region 4 with (fail)
  generalize ((((((w.alloc (Obj.cells #[Value.int IntKind.u64 0, Value.int IntKind.i64 5, Value.int IntKind.u64 0, Value.int IntKind.i64 3, Value.int IntKind.u64 0, Value.int IntKind.i64 5] 34)).alloc (Obj.cells #[Value.int IntKind.i64 1, Value.int IntKind.u8 1, Value.int IntKind.i64 0, Value.slice (some { block := w.heap.size, off := 0 }) 3 3] 27)).alloc (Obj.cells #[Value.int IntKind.u64 4607182418800017408, Value.int IntKind.i64 5, Value.int IntKind.u64 0, Value.int IntKind.i64 6, Value.int IntKind.u64 4613937818241073152, Value.int IntKind.i64 7] 34)).alloc (Obj.cells #[Value.int IntKind.i64 1, Value.int IntKind.u8 2, Value.int IntKind.i64 2, Value.slice (some { block := w.heap.size + 1 + 1, off := 0 }) 3 3] 27)).alloc (Obj.cells #[Value.int IntKind.u64 0, Value.int IntKind.i64 5] 34)).alloc (Obj.cells #[Value.int IntKind.i64 1, Value.int IntKind.u8 2, Value.int IntKind.i64 2, Value.slice (some { block := w.heap.size + 1 + 1 + 1 + 1, off := 0 }) 1 1] 27)) = W at *
  have x0 := S0.out.b1.cell 0
  have x1 := S0.out.b1.cell 1
  have x2 := S0.out.b1.cell 2
  have x3 := S0.out.b1.cell 3
  go_wp2_with fail
  refine (goes_lit 1 1 0 _ 3 L1 7 [0, 1, 2] W S0.out.r1 ib1 (by decide) (by decide) (by decide)).mono ?_
  rintro e W1 ⟨rfl, hb1⟩
  rw [g1]
  have K1 := Lib.hid (HK.out.trans (hb1.mono HK.out.size))
  have S1 := Lib.hid (S0.out.go hb1)
  clear hb1 x0 x1 x2 x3 S0 HK
  have x0 := S1.out.b1.cell 0
  have x1 := S1.out.b1.cell 1
  have x2 := S1.out.b1.cell 2
  have x3 := S1.out.b1.cell 3
  go_wp2_with fail
  refine (gblocks_any 1 1 0 _ 3 L1 W1 S1.out.r1 ib1 (by decide)).mono ?_
  rw [g7]
  rintro e W2 ⟨A2, c2, rfl, hc2, hC2, hb1⟩
  have K2 := Lib.hid (K1.out.trans (hb1.mono K1.out.size))
  have S2 := Lib.hid (S1.out.go hb1)
  have HC2 := Lib.hid hC2
  clear hb1 x0 x1 x2 x3 S1 K1 hC2
  go_wp2_with fail
  have k3 := (Below.refl W2.heap.size W2).alloc (Nat.le_refl _) (.cells #[.int .i64 3, .int .i64 5] 3)
  refine (ints_any A2 c2 [3, 5] (some ⟨W2.heap.size, 0, none⟩) 2 [3, 5] _ (Kd.C_below HC2.out k3) hc2 (blk_readsI (l := [3, 5]) (Blk.new W2 3 _) (by decide)) (by decide) (by decide)).mono ?_
  rintro e _ ⟨rfl, q, rfl⟩
  have k4 := pw_below_drewN k3 q
  have K3 := Lib.hid (K2.out.trans (k4.mono K2.out.size))
  have S3 := Lib.hid (S2.out.go k4)
  generalize World.drewN _ q = W3 at *
  clear k3 k4 S2 K2 HC2
  rw [show (([3, 5] : List Int) == [3, 5]) = true from rfl]
  have x0 := S3.out.b2.cell 0
  have x1 := S3.out.b2.cell 1
  have x2 := S3.out.b2.cell 2
  have x3 := S3.out.b2.cell 3
  go_wp2_with fail
  refine (goes_lit 1 2 2 _ 3 L2 1073741824 [2] W3 S3.out.r2 ib2 (by decide) (by decide) (by decide)).mono ?_
  rintro e W4 ⟨rfl, hb1⟩
  rw [g2]
  have K4 := Lib.hid (K3.out.trans (hb1.mono K3.out.size))
  have S4 := Lib.hid (S3.out.go hb1)
  clear hb1 x0 x1 x2 x3 S3 K3
  have x0 := S4.out.b2.cell 0
  have x1 := S4.out.b2.cell 1
  have x2 := S4.out.b2.cell 2
  have x3 := S4.out.b2.cell 3
  go_wp2_with fail
  refine (goes_lit 1 2 2 _ 3 L2 1073741823 [0] W4 S4.out.r2 ib2 (by decide) (by decide) (by decide)).mono ?_
  rintro e W5 ⟨rfl, hb1⟩
  rw [g3]
  have K5 := Lib.hid (K4.out.trans (hb1.mono K4.out.size))
  have S5 := Lib.hid (S4.out.go hb1)
  clear hb1 x0 x1 x2 x3 S4 K4
  have x0 := S5.out.b3.cell 0
  have x1 := S5.out.b3.cell 1
  have x2 := S5.out.b3.cell 2
  have x3 := S5.out.b3.cell 3
  go_wp2_with fail
  refine (gmay_any 1 2 2 _ 1 L3 W5 S5.out.r3 ib3 (by decide)).mono ?_
  rw [g5]
  rintro e W6 ⟨rfl, hb1⟩
  have K6 := Lib.hid (K5.out.trans (hb1.mono K5.out.size))
  have S6 := Lib.hid (S5.out.go hb1)
  clear hb1 x0 x1 x2 x3 S5 K5
  have x0 := S6.out.b3.cell 0
  have x1 := S6.out.b3.cell 1
  have x2 := S6.out.b3.cell 2
  have x3 := S6.out.b3.cell 3
  go_wp2_with fail
  refine (goes_any 1 2 2 _ 1 L3 7 none 0 [] 0 W6 (Lib.hid rfl) S6.out.r3 ib3 (by decide) (by decide) (Kd.C_nil _ _) (by decide)).mono ?_
  rw [g4]
  rintro e W7 ⟨rfl, hb1⟩
  have K7 := Lib.hid (K6.out.trans (hb1.mono K6.out.size))
  have S7 := Lib.hid (S6.out.go hb1)
  clear hb1 x0 x1 x2 x3 S6 K6
  have x0 := S7.out.b1.cell 0
  have x1 := S7.out.b1.cell 1
  have x2 := S7.out.b1.cell 2
  have x3 := S7.out.b1.cell 3
  have z2 := S7.out.b1.frozen 2
  have B8 := S7.out.b1.set_ 2 (.int .i64 1)
  have y0 := B8.cell 0
  have y1 := B8.cell 1
  have y2 := B8.cell 2
  have y3 := B8.cell 3
  have R8 := Lib.hid (blk_reads34 (l := L1) (S7.out.q1.far (p := ⟨w.heap.size + 1, 2, none⟩) (by show w.heap.size ≠ w.heap.size + 1; omega) (.int .i64 1)) (by decide))
  have K8 := Lib.hid (K7.out.setCell (p := ⟨w.heap.size + 1, 2, none⟩) (by show w.heap.size ≤ w.heap.size + 1; omega) (.int .i64 1))
  clear B8
  go_wp2_with fail
  generalize W7.setCell ⟨w.heap.size + 1, 2, none⟩ (.int .i64 1) = W8 at *
  refine (gmay_any 1 1 1 _ 3 L1 W8 R8.out ib1 (by decide)).mono ?_
  rw [g6]
  rintro e W9 ⟨rfl, hb1⟩
  have K9 := Lib.hid (K8.out.trans (hb1.mono K8.out.size))
  clear hb1 x0 x1 x2 x3 S7 K7 K8 y0 y1 y2 y3
  go_wp2_with fail
  go_ret
  exact ⟨rfl, K9.out⟩
end Go.Proofs.Ytpmckbpplkkgaaa.Base
