/- The examples; the limits; what each kind asks: the law's walk. Conditions: as each contract says. -/
import Derived.Test.YtpmckbpplkkgaaaBox
import Derived.Test.YtpmckbpplkkgaaaBlocksPure
set_option linter.unusedVariables false
set_option linter.unusedSimpArgs false
namespace Go.Proofs.Ytpmckbpplkkgaaa.Base
open Go Go.RowKit Go.Proofs.Ytpmckbpplkkgaaa.Mem Go.Proofs.YtpmckbpplkkgaaaW.PrintWords Go.Proofs.YtpmckbpplkkgaaaW.PrintLast Go.Proofs.Ytpmckbpplkkgaaa.Fl
open Go.Proofs.Ytpmckbpplkkgaaa.PGroupTells (S34 z34 k34 k34_open k34_mk)
/-- A group of a literal row. -/
structure GRec where
  i : Int
  k : Int
  f : Int
  A : Option Addr
  c : Nat
  l : List S34
def GRec.cells (g : GRec) : List Value := [.int .i64 g.i, .int .u8 g.k, .int .i64 g.f, .slice g.A g.l.length g.c]
def GS (W : World) (gs : List GRec) : Prop := ∀ g ∈ gs, Kd.C k34 W g.A g.l.length g.l
theorem GS.nil (W : World) : GS W [] := fun g hg => by simp at hg
theorem GS.go {W W1 : World} {gs : List GRec} (h : GS W gs) (hb : Below W.heap.size W W1) : GS W1 gs := fun g hg => Kd.C_below (h g hg) hb
theorem GS.cons {W : World} {gs : List GRec} {g : GRec} (h : GS W gs) (hg : Kd.C k34 W g.A g.l.length g.l) : GS W (g :: gs) := fun x hx => by
  rcases List.mem_cons.1 hx with rfl | hx
  · exact hg
  · exact h x hx
theorem GS.rev {W : World} {gs : List GRec} (h : GS W gs) : GS W gs.reverse := fun x hx => h x (List.mem_reverse.1 hx)
theorem cells_get (gs : List GRec) (j i : Nat) (g : GRec) (u : Value) (hj : gs[j]? = some g) (hu : g.cells[i]? = some u) : (gs.flatMap GRec.cells)[j * 4 + i]? = some u := by
  induction gs generalizing j with
  | nil => cases hj
  | cons a r ih =>
    rw [List.flatMap_cons]
    have hi : i < 4 := (List.getElem?_eq_some_iff.1 hu).1
    have hl : a.cells.length = 4 := rfl
    cases j with
    | zero =>
      simp at hj
      subst hj
      rw [Nat.zero_mul, Nat.zero_add, List.getElem?_append_left (by exact hi)]
      exact hu
    | succ j =>
      rw [List.getElem?_cons_succ] at hj
      rw [List.getElem?_append_right (by omega), hl, show (j + 1) * 4 + i - 4 = j * 4 + i by omega]
      exact ih j hj
/-- A table of groups. -/
structure Tab (W : World) (T : Nat) (gs : List GRec) : Prop where
  blk : Blk W T 27 (gs.flatMap GRec.cells).toArray
  rows : GS W gs
theorem Tab.go {W W1 : World} {T : Nat} {gs : List GRec} (h : Tab W T gs) (hb : Below W.heap.size W W1) : Tab W1 T gs := ⟨h.blk.go hb, h.rows.go hb⟩
theorem Tab.at_ {W : World} {T : Nat} {gs : List GRec} (h : Tab W T gs) (j : Nat) (hj : j < gs.length) :
    W.cell? ⟨T, j * 4, none⟩ = some (.int .i64 gs[j].i) ∧ W.cell? ⟨T, j * 4 + 1, none⟩ = some (.int .u8 gs[j].k) ∧ W.cell? ⟨T, j * 4 + 2, none⟩ = some (.int .i64 gs[j].f) ∧ W.cell? ⟨T, j * 4 + 3, none⟩ = some (.slice gs[j].A gs[j].l.length gs[j].c) := by
  have key : ∀ i u, gs[j].cells[i]? = some u → W.cell? ⟨T, j * 4 + i, none⟩ = some u := fun i u hu => by
    rw [h.blk.cell]
    simpa using cells_get gs j i gs[j] u (List.getElem?_eq_getElem hj) hu
  exact ⟨by simpa using key 0 _ rfl, key 1 _ rfl, key 2 _ rfl, key 3 _ rfl⟩
theorem blk_nine (n : Nat) (wt : Int) (h : 0 < n) : blkOf ((List.replicate n (⟨wt, 9⟩ : S34)).map (·.f1)) = [9] := by
  refine rising_eq (blkOf_law _).1 (by simp) fun x => ?_
  rw [(blkOf_law _).2]
  simp
  intro _
  omega
def Ok1 (g : GRec) : Prop := gmay g.i g.k g.f g.l = true ∧ gblk blkOf g.i g.k g.f g.l = [9] ∧ inB g.l ∧ g.l.length < 1000
def Ok2 (g : GRec) : Prop := gmay g.i g.k g.f g.l = false ∧ inB g.l ∧ g.l.length < 1000
theorem ok1_mk (i k f : Int) (A : Option Addr) (c n : Nat) (wt : Int) (h : gmay i k f (List.replicate n ⟨wt, 9⟩) = true) (hn : 0 < n ∧ n < 1000) (hw : 0 ≤ wt ∧ wt < 18446744073709551616) : Ok1 ⟨i, k, f, A, c, List.replicate n ⟨wt, 9⟩⟩ := by
  refine ⟨h, ?_, fun x hx => ?_, ?_⟩
  · unfold gblk
    show (if gmay i k f (List.replicate n ⟨wt, 9⟩) = true then _ else _) = _
    rw [h, if_pos rfl]
    exact blk_nine n wt hn.1
  · rw [(List.mem_replicate.1 hx).2]
    exact hw
  · show (List.replicate n _).length < 1000
    rw [List.length_replicate]
    exact hn.2
theorem ok2_mk (i k f : Int) (A : Option Addr) (c : Nat) (l : List S34) (h : gmay i k f l = false) (hl : l.length < 1000) (hb : l.all (fun x => decide (0 ≤ x.f0) && decide (x.f0 < 18446744073709551616)) = true) : Ok2 ⟨i, k, f, A, c, l⟩ := ⟨h, inb_of _ hb, hl⟩
def tab1 (A0 : Option Addr) (c0 : Nat) (A1 : Option Addr) (c1 : Nat) (A2 : Option Addr) (c2 : Nat) (A3 : Option Addr) (c3 : Nat) (A4 : Option Addr) (c4 : Nat) : List GRec := [(⟨1, 1, 0, A0, c0, (List.replicate 1 (⟨0, 9⟩ : S34))⟩ : GRec), (⟨65534, 1, 0, A1, c1, (List.replicate 16 (⟨0, 9⟩ : S34))⟩ : GRec), (⟨1, 2, 65534, A2, c2, (List.replicate 16 (⟨4607182418800017408, 9⟩ : S34))⟩ : GRec), (⟨1, 2, 1, A3, c3, (List.replicate 1 (⟨9223372036854775808, 9⟩ : S34))⟩ : GRec), (⟨1, 2, 1, A4, c4, (List.replicate 1 (⟨4697254411347427328, 9⟩ : S34))⟩ : GRec)]
def tab2 (A1 : Option Addr) (c1 : Nat) (A2 : Option Addr) (c2 : Nat) (A3 : Option Addr) (c3 : Nat) (A4 : Option Addr) (c4 : Nat) (A5 : Option Addr) (c5 : Nat) (A7 : Option Addr) (c7 : Nat) (A8 : Option Addr) (c8 : Nat) (A9 : Option Addr) (c9 : Nat) (A10 : Option Addr) (c10 : Nat) (A11 : Option Addr) (c11 : Nat) (A12 : Option Addr) (c12 : Nat) (A13 : Option Addr) (c13 : Nat) (A15 : Option Addr) (c15 : Nat) (A16 : Option Addr) (c16 : Nat) (A17 : Option Addr) (c17 : Nat) (A18 : Option Addr) (c18 : Nat) (A19 : Option Addr) (c19 : Nat) (A20 : Option Addr) (c20 : Nat) (A21 : Option Addr) (c21 : Nat) (A22 : Option Addr) (c22 : Nat) : List GRec := [(⟨0, 0, 0, none, 0, ([] : List S34)⟩ : GRec), (⟨1, 0, 0, A1, c1, (List.replicate 1 (⟨0, 9⟩ : S34))⟩ : GRec), (⟨1, 3, 0, A2, c2, (List.replicate 1 (⟨0, 9⟩ : S34))⟩ : GRec), (⟨0, 1, 0, A3, c3, (List.replicate 1 (⟨0, 9⟩ : S34))⟩ : GRec), (⟨65535, 1, 0, A4, c4, (List.replicate 1 (⟨0, 9⟩ : S34))⟩ : GRec), (⟨(-1), 1, 0, A5, c5, (List.replicate 1 (⟨0, 9⟩ : S34))⟩ : GRec), (⟨1, 1, 0, none, 0, ([] : List S34)⟩ : GRec), (⟨1, 1, 0, A7, c7, (List.replicate 17 (⟨0, 9⟩ : S34))⟩ : GRec), (⟨1, 1, 1, A8, c8, (List.replicate 1 (⟨0, 9⟩ : S34))⟩ : GRec), (⟨1, 1, 0, A9, c9, (List.replicate 1 (⟨1, 9⟩ : S34))⟩ : GRec), (⟨1, 1, 0, A10, c10, (List.replicate 1 (⟨9223372036854775808, 9⟩ : S34))⟩ : GRec), (⟨1, 2, 0, A11, c11, (List.replicate 1 (⟨4607182418800017408, 9⟩ : S34))⟩ : GRec), (⟨1, 2, 65535, A12, c12, (List.replicate 1 (⟨4607182418800017408, 9⟩ : S34))⟩ : GRec), (⟨1, 2, (-1), A13, c13, (List.replicate 1 (⟨4607182418800017408, 9⟩ : S34))⟩ : GRec), (⟨1, 2, 1, none, 0, ([] : List S34)⟩ : GRec), (⟨1, 2, 1, A15, c15, (List.replicate 17 (⟨4607182418800017408, 9⟩ : S34))⟩ : GRec), (⟨1, 2, 1, A16, c16, (List.replicate 2 (⟨4697254411347427329, 9⟩ : S34))⟩ : GRec), (⟨1, 2, 1, A17, c17, (List.replicate 2 (⟨9218868437227405312, 9⟩ : S34))⟩ : GRec), (⟨1, 2, 1, A18, c18, (List.replicate 2 (⟨9221120237041090560, 9⟩ : S34))⟩ : GRec), (⟨1, 2, 1, A19, c19, (List.replicate 2 (⟨13830554455654793216, 9⟩ : S34))⟩ : GRec), (⟨1, 1, 0, A20, c20, [(⟨0, 1⟩ : S34), (⟨0, 0⟩ : S34)]⟩ : GRec), (⟨1, 1, 0, A21, c21, [(⟨0, 65535⟩ : S34)]⟩ : GRec), (⟨1, 2, 1, A22, c22, [(⟨4607182418800017408, (-1)⟩ : S34)]⟩ : GRec)]
theorem tab1_ok (A0 : Option Addr) (c0 : Nat) (A1 : Option Addr) (c1 : Nat) (A2 : Option Addr) (c2 : Nat) (A3 : Option Addr) (c3 : Nat) (A4 : Option Addr) (c4 : Nat) : ∀ g ∈ tab1 A0 c0 A1 c1 A2 c2 A3 c3 A4 c4, Ok1 g := by
  intro g hg
  unfold tab1 at hg
  simp only [List.mem_cons, List.not_mem_nil, or_false] at hg
  rcases hg with rfl | rfl | rfl | rfl | rfl
  all_goals exact ok1_mk _ _ _ _ _ _ _ (by decide +kernel) (by decide) (by decide)
theorem tab2_ok (A1 : Option Addr) (c1 : Nat) (A2 : Option Addr) (c2 : Nat) (A3 : Option Addr) (c3 : Nat) (A4 : Option Addr) (c4 : Nat) (A5 : Option Addr) (c5 : Nat) (A7 : Option Addr) (c7 : Nat) (A8 : Option Addr) (c8 : Nat) (A9 : Option Addr) (c9 : Nat) (A10 : Option Addr) (c10 : Nat) (A11 : Option Addr) (c11 : Nat) (A12 : Option Addr) (c12 : Nat) (A13 : Option Addr) (c13 : Nat) (A15 : Option Addr) (c15 : Nat) (A16 : Option Addr) (c16 : Nat) (A17 : Option Addr) (c17 : Nat) (A18 : Option Addr) (c18 : Nat) (A19 : Option Addr) (c19 : Nat) (A20 : Option Addr) (c20 : Nat) (A21 : Option Addr) (c21 : Nat) (A22 : Option Addr) (c22 : Nat) : ∀ g ∈ tab2 A1 c1 A2 c2 A3 c3 A4 c4 A5 c5 A7 c7 A8 c8 A9 c9 A10 c10 A11 c11 A12 c12 A13 c13 A15 c15 A16 c16 A17 c17 A18 c18 A19 c19 A20 c20 A21 c21 A22 c22, Ok2 g := by
  intro g hg
  unfold tab2 at hg
  simp only [List.mem_cons, List.not_mem_nil, or_false] at hg
  rcases hg with rfl | rfl | rfl | rfl | rfl | rfl | rfl | rfl | rfl | rfl | rfl | rfl | rfl | rfl | rfl | rfl | rfl | rfl | rfl | rfl | rfl | rfl | rfl
  all_goals exact ok2_mk _ _ _ _ _ _ (by decide +kernel) (by decide +kernel) (by decide +kernel)
theorem four (w : World) (t1 t2 t3 t4 : Nat) (c1 c2 c3 c4 : Array Value) :
    let W := (((w.alloc (.cells c1 t1)).alloc (.cells c2 t2)).alloc (.cells c3 t3)).alloc (.cells c4 t4)
    Blk W w.heap.size t1 c1 ∧ Blk W (w.heap.size + 1) t2 c2 ∧ Blk W (w.heap.size + 1 + 1) t3 c3 ∧ Blk W (w.heap.size + 1 + 1 + 1) t4 c4 ∧ Below w.heap.size w W := by
  intro W
  have sz : ∀ (w : World) (o : Obj), (w.alloc o).heap.size = w.heap.size + 1 := fun w o => by simp
  have a1 := Blk.new w t1 c1
  have a2 := Blk.new (w.alloc (.cells c1 t1)) t2 c2
  have a3 := Blk.new ((w.alloc (.cells c1 t1)).alloc (.cells c2 t2)) t3 c3
  have a4 := Blk.new (((w.alloc (.cells c1 t1)).alloc (.cells c2 t2)).alloc (.cells c3 t3)) t4 c4
  simp only [sz] at a2 a3 a4
  have k1 := (Below.refl w.heap.size w).alloc (Nat.le_refl _) (.cells c1 t1)
  have k2 := k1.alloc k1.size (.cells c2 t2)
  have k3 := k2.alloc k2.size (.cells c3 t3)
  have k4 := k3.alloc k3.size (.cells c4 t4)
  exact ⟨((a1.alloc _).alloc _).alloc _, (a2.alloc _).alloc _, a3.alloc _, a4, k4⟩
def NaR (T : Nat) (gs : List GRec) (w : World) (t : Value) (wr : World) : Prop := ∃ k : Nat, t = .int .i64 (k : Int) ∧ k ≤ gs.length ∧ Below w.heap.size w wr
theorem none_gch {i k f : Int} {l : List S34} (h : Nat) (hm : gmay i k f l = false) : gch i k f l h = none := by unfold gch; rw [hm]; rfl
theorem none_gblk {i k f : Int} {l : List S34} (hm : gmay i k f l = false) : gblk blkOf i k f l = [] := by unfold gblk; rw [hm]; rfl
set_option maxHeartbeats 16000000 in
set_option maxRecDepth 100000 in
theorem names_any (w : World) : Calls Try.prog 3 #[] w fun e w' => e = .returned (.bool true) ∧ Below w.heap.size w w' := by
  go_enter Try.func3, Try.ntmps3
  go_wp2_with fail
  refine (awake_any _).mono ?_
  rintro e wa ⟨rfl, hb1⟩
  have HK := Lib.hid hb1
  have HS := Lib.hid (GS.nil wa)
  clear hb1
  go_wp2_with fail
  refine (buckets_any 1 0 _ (by decide)).mono ?_
  rintro e wb0 ⟨Awb0, cwb0, rfl, hc, hC, hb⟩
  replace HK := Lib.hid (below_step HK.out hb)
  replace HS := Lib.hid ((HS.out.go hb).cons (g := (⟨1, 1, 0, Awb0, cwb0, (List.replicate 1 (⟨0, 9⟩ : S34))⟩ : GRec)) (by rw [List.length_replicate]; exact hC))
  clear hb hC hc
  go_wp2_with fail
  refine (buckets_any 16 0 _ (by decide)).mono ?_
  rintro e wb1 ⟨Awb1, cwb1, rfl, hc, hC, hb⟩
  replace HK := Lib.hid (below_step HK.out hb)
  replace HS := Lib.hid ((HS.out.go hb).cons (g := (⟨65534, 1, 0, Awb1, cwb1, (List.replicate 16 (⟨0, 9⟩ : S34))⟩ : GRec)) (by rw [List.length_replicate]; exact hC))
  clear hb hC hc
  go_wp2_with fail
  refine (buckets_any 16 4607182418800017408 _ (by decide)).mono ?_
  rintro e wb2 ⟨Awb2, cwb2, rfl, hc, hC, hb⟩
  replace HK := Lib.hid (below_step HK.out hb)
  replace HS := Lib.hid ((HS.out.go hb).cons (g := (⟨1, 2, 65534, Awb2, cwb2, (List.replicate 16 (⟨4607182418800017408, 9⟩ : S34))⟩ : GRec)) (by rw [List.length_replicate]; exact hC))
  clear hb hC hc
  go_wp2_with fail
  refine (buckets_any 1 9223372036854775808 _ (by decide)).mono ?_
  rintro e wb3 ⟨Awb3, cwb3, rfl, hc, hC, hb⟩
  replace HK := Lib.hid (below_step HK.out hb)
  replace HS := Lib.hid ((HS.out.go hb).cons (g := (⟨1, 2, 1, Awb3, cwb3, (List.replicate 1 (⟨9223372036854775808, 9⟩ : S34))⟩ : GRec)) (by rw [List.length_replicate]; exact hC))
  clear hb hC hc
  go_wp2_with fail
  refine (buckets_any 1 4697254411347427328 _ (by decide)).mono ?_
  rintro e wb4 ⟨Awb4, cwb4, rfl, hc, hC, hb⟩
  replace HK := Lib.hid (below_step HK.out hb)
  replace HS := Lib.hid ((HS.out.go hb).cons (g := (⟨1, 2, 1, Awb4, cwb4, (List.replicate 1 (⟨4697254411347427328, 9⟩ : S34))⟩ : GRec)) (by rw [List.length_replicate]; exact hC))
  clear hb hC hc
  go_upto_block 0 with (fail)
  have hb := (Below.refl wb4.heap.size wb4).alloc (Nat.le_refl _) (.cells #[.int .i64 1, .int .u8 1, .int .i64 0, .slice Awb0 1 cwb0, .int .i64 65534, .int .u8 1, .int .i64 0, .slice Awb1 16 cwb1, .int .i64 1, .int .u8 2, .int .i64 65534, .slice Awb2 16 cwb2, .int .i64 1, .int .u8 2, .int .i64 1, .slice Awb3 1 cwb3, .int .i64 1, .int .u8 2, .int .i64 1, .slice Awb4 1 cwb4] 27)
  have hT : Tab (wb4.alloc (.cells #[.int .i64 1, .int .u8 1, .int .i64 0, .slice Awb0 1 cwb0, .int .i64 65534, .int .u8 1, .int .i64 0, .slice Awb1 16 cwb1, .int .i64 1, .int .u8 2, .int .i64 65534, .slice Awb2 16 cwb2, .int .i64 1, .int .u8 2, .int .i64 1, .slice Awb3 1 cwb3, .int .i64 1, .int .u8 2, .int .i64 1, .slice Awb4 1 cwb4] 27)) wb4.heap.size (tab1 Awb0 cwb0 Awb1 cwb1 Awb2 cwb2 Awb3 cwb3 Awb4 cwb4) := ⟨Blk.new wb4 27 #[.int .i64 1, .int .u8 1, .int .i64 0, .slice Awb0 1 cwb0, .int .i64 65534, .int .u8 1, .int .i64 0, .slice Awb1 16 cwb1, .int .i64 1, .int .u8 2, .int .i64 65534, .slice Awb2 16 cwb2, .int .i64 1, .int .u8 2, .int .i64 1, .slice Awb3 1 cwb3, .int .i64 1, .int .u8 2, .int .i64 1, .slice Awb4 1 cwb4], (HS.out.go hb).rev⟩
  have hgs : ∃ gs, tab1 Awb0 cwb0 Awb1 cwb1 Awb2 cwb2 Awb3 cwb3 Awb4 cwb4 = gs := ⟨_, rfl⟩
  replace HK := Lib.hid (below_step HK.out hb)
  obtain ⟨gs, hgs⟩ := hgs
  have HOK := Lib.hid (show ∀ g ∈ gs, Ok1 g from by rw [← hgs]; exact tab1_ok Awb0 cwb0 Awb1 cwb1 Awb2 cwb2 Awb3 cwb3 Awb4 cwb4)
  have HL := Lib.hid (show gs.length = 5 from by rw [← hgs]; rfl)
  rw [hgs] at hT
  have HT := Lib.hid hT
  clear hgs hT hb HS
  generalize wb4.heap.size = T at *
  generalize wb4.alloc (.cells #[.int .i64 1, .int .u8 1, .int .i64 0, .slice Awb0 1 cwb0, .int .i64 65534, .int .u8 1, .int .i64 0, .slice Awb1 16 cwb1, .int .i64 1, .int .u8 2, .int .i64 65534, .slice Awb2 16 cwb2, .int .i64 1, .int .u8 2, .int .i64 1, .slice Awb3 1 cwb3, .int .i64 1, .int .u8 2, .int .i64 1, .slice Awb4 1 cwb4] 27) = wt1 at *
  have HR0 := Lib.hid (show NaR T gs wt1 (.int .i64 0) wt1 from ⟨0, rfl, Nat.zero_le _, Below.refl _ _⟩)
  go_wp2_with fail
  go_loopw [31] (fun t wr => NaR T gs wt1 t wr) (fun t _ => 5 - (intOf t).toNat)
  case atStart => exact HR0.out
  case round =>
    clear HR0
    obtain ⟨k, rfl, hk, hB⟩ := hrel
    have hl5 := HL.out
    replace hk : k ≤ 5 := by omega
    by_cases hlt : k < 5
    · have k1 : (k : Int) < 5 := by omega
      have k0 : (0 : Int) ≤ (k : Int) := by omega
      have hkg : k < gs.length := by omega
      have hTT := HT.out.go hB
      obtain ⟨e0, e1, e2, e3⟩ := hTT.at_ k hkg
      have hOK := HOK.out _ (List.getElem_mem hkg)
      have hrow := hTT.rows _ (List.getElem_mem hkg)
      obtain ⟨x, hx⟩ : ∃ x, gs[k] = x := ⟨_, rfl⟩
      rw [hx] at e0 e1 e2 e3 hOK hrow
      clear hTT hx
      obtain ⟨xi, xk, xf, xA, xc, xl⟩ := x
      have hb0 := (Below.refl wr.heap.size wr).alloc (Nat.le_refl _) (.cells #[.int .i64 xi, .int .u8 xk, .int .i64 xf, .slice xA xl.length xc] 27)
      have X := Blk.new wr 27 #[.int .i64 xi, .int .u8 xk, .int .i64 xf, .slice xA xl.length xc]
      have HROW := Lib.hid (Kd.C_below hrow hb0)
      have HB := Lib.hid (below_step hB hb0)
      have HX := Lib.hid X
      have x0 := X.cell 0
      have x1 := X.cell 1
      have x2 := X.cell 2
      have x3 := X.cell 3
      clear hB hb0 X hrow hkg
      obtain ⟨o1, o2, o3, o4⟩ := hOK
      have HO3 := Lib.hid o3
      have HG := Lib.hid (fun (W : World) (h : Kd.C k34 W xA xl.length xl) => gmay_any xi xk xf xA xc xl W h HO3.out (Nat.lt_trans (show xl.length < 1000 from o4) (by decide)))
      rw [show gmay xi xk xf xl = true from o1] at HG
      have HGB := Lib.hid (fun (W : World) (h : Kd.C k34 W xA xl.length xl) => gblocks_any xi xk xf xA xc xl W h HO3.out (Nat.lt_trans (show xl.length < 1000 from o4) (by decide)))
      rw [show gblk blkOf xi xk xf xl = [9] from o2] at HGB
      clear o1 o2 o3 o4 hl5
      go_wp2_with fail
      generalize wr.alloc (.cells #[.int .i64 xi, .int .u8 xk, .int .i64 xf, .slice xA xl.length xc] 27) = wx at *
      refine (HG.out _ HROW.out).mono ?_
      rintro e wy ⟨rfl, hb⟩
      replace HX := Lib.hid (HX.out.go hb)
      replace HROW := Lib.hid (Kd.C_below HROW.out hb)
      replace HB := Lib.hid (below_step HB.out hb)
      clear x0 x1 x2 x3 hb
      have x0 := HX.out.cell 0
      have x1 := HX.out.cell 1
      have x2 := HX.out.cell 2
      have x3 := HX.out.cell 3
      go_wp2_with fail
      refine (HGB.out _ HROW.out).mono ?_
      rintro e wz ⟨A9, c9, rfl, hc9, hC9, hb⟩
      replace HB := Lib.hid (below_step HB.out hb)
      clear x0 x1 x2 x3 HX HROW hb
      have hb := (Below.refl wz.heap.size wz).alloc (Nat.le_refl _) (.cells #[.int .i64 9] 3)
      have HQ := Lib.hid (ints_any A9 c9 [9] (some ⟨wz.heap.size, 0, none⟩) 1 [9] _ (Kd.C_below hC9 hb) hc9 (blk_readsI (l := [9]) (Blk.new wz 3 #[.int .i64 9]) (by decide)) (by decide) (by decide))
      rw [beq_self_eq_true] at HQ
      replace HB := Lib.hid (below_step HB.out hb)
      clear hC9 hc9 hb
      go_wp2_with fail
      refine HQ.out.mono ?_
      rintro e _ ⟨rfl, q, rfl⟩
      go_wp2_with fail
      go_roundw
      case rel => exact ⟨k + 1, by go_num, by have := HL.out; omega, pw_below_drewN HB.out _⟩
      case measure => simp [intOf]; omega

    · obtain rfl : k = 5 := by omega
      have k1 : ¬ ((5 : Nat) : Int) < 5 := by decide
      replace HK := Lib.hid (below_step HK.out hB)
      have HS := Lib.hid (GS.nil wr)
      clear hB hk hl5 HT HOK HL
      obtain ⟨wd, hwd⟩ : ∃ wd, wr = wd := ⟨_, rfl⟩
      rw [hwd] at HS HK ⊢
      clear hwd
      replace HS := Lib.hid (HS.out.cons (g := (⟨0, 0, 0, none, 0, ([] : List S34)⟩ : GRec)) (Kd.C_nil _ _))
      go_wp2_with fail
      refine (buckets_any 1 0 _ (by decide)).mono ?_
      rintro e we1 ⟨Awe1, cwe1, rfl, hc, hC, hb⟩
      replace HK := Lib.hid (below_step HK.out hb)
      replace HS := Lib.hid ((HS.out.go hb).cons (g := (⟨1, 0, 0, Awe1, cwe1, (List.replicate 1 (⟨0, 9⟩ : S34))⟩ : GRec)) (by rw [List.length_replicate]; exact hC))
      clear hb hC hc
      go_wp2_with fail
      refine (buckets_any 1 0 _ (by decide)).mono ?_
      rintro e we2 ⟨Awe2, cwe2, rfl, hc, hC, hb⟩
      replace HK := Lib.hid (below_step HK.out hb)
      replace HS := Lib.hid ((HS.out.go hb).cons (g := (⟨1, 3, 0, Awe2, cwe2, (List.replicate 1 (⟨0, 9⟩ : S34))⟩ : GRec)) (by rw [List.length_replicate]; exact hC))
      clear hb hC hc
      go_wp2_with fail
      refine (buckets_any 1 0 _ (by decide)).mono ?_
      rintro e we3 ⟨Awe3, cwe3, rfl, hc, hC, hb⟩
      replace HK := Lib.hid (below_step HK.out hb)
      replace HS := Lib.hid ((HS.out.go hb).cons (g := (⟨0, 1, 0, Awe3, cwe3, (List.replicate 1 (⟨0, 9⟩ : S34))⟩ : GRec)) (by rw [List.length_replicate]; exact hC))
      clear hb hC hc
      go_wp2_with fail
      refine (buckets_any 1 0 _ (by decide)).mono ?_
      rintro e we4 ⟨Awe4, cwe4, rfl, hc, hC, hb⟩
      replace HK := Lib.hid (below_step HK.out hb)
      replace HS := Lib.hid ((HS.out.go hb).cons (g := (⟨65535, 1, 0, Awe4, cwe4, (List.replicate 1 (⟨0, 9⟩ : S34))⟩ : GRec)) (by rw [List.length_replicate]; exact hC))
      clear hb hC hc
      go_wp2_with fail
      refine (buckets_any 1 0 _ (by decide)).mono ?_
      rintro e we5 ⟨Awe5, cwe5, rfl, hc, hC, hb⟩
      replace HK := Lib.hid (below_step HK.out hb)
      replace HS := Lib.hid ((HS.out.go hb).cons (g := (⟨(-1), 1, 0, Awe5, cwe5, (List.replicate 1 (⟨0, 9⟩ : S34))⟩ : GRec)) (by rw [List.length_replicate]; exact hC))
      clear hb hC hc
      replace HS := Lib.hid (HS.out.cons (g := (⟨1, 1, 0, none, 0, ([] : List S34)⟩ : GRec)) (Kd.C_nil _ _))
      go_wp2_with fail
      refine (buckets_any 17 0 _ (by decide)).mono ?_
      rintro e we7 ⟨Awe7, cwe7, rfl, hc, hC, hb⟩
      replace HK := Lib.hid (below_step HK.out hb)
      replace HS := Lib.hid ((HS.out.go hb).cons (g := (⟨1, 1, 0, Awe7, cwe7, (List.replicate 17 (⟨0, 9⟩ : S34))⟩ : GRec)) (by rw [List.length_replicate]; exact hC))
      clear hb hC hc
      go_wp2_with fail
      refine (buckets_any 1 0 _ (by decide)).mono ?_
      rintro e we8 ⟨Awe8, cwe8, rfl, hc, hC, hb⟩
      replace HK := Lib.hid (below_step HK.out hb)
      replace HS := Lib.hid ((HS.out.go hb).cons (g := (⟨1, 1, 1, Awe8, cwe8, (List.replicate 1 (⟨0, 9⟩ : S34))⟩ : GRec)) (by rw [List.length_replicate]; exact hC))
      clear hb hC hc
      go_wp2_with fail
      refine (buckets_any 1 1 _ (by decide)).mono ?_
      rintro e we9 ⟨Awe9, cwe9, rfl, hc, hC, hb⟩
      replace HK := Lib.hid (below_step HK.out hb)
      replace HS := Lib.hid ((HS.out.go hb).cons (g := (⟨1, 1, 0, Awe9, cwe9, (List.replicate 1 (⟨1, 9⟩ : S34))⟩ : GRec)) (by rw [List.length_replicate]; exact hC))
      clear hb hC hc
      go_wp2_with fail
      refine (buckets_any 1 9223372036854775808 _ (by decide)).mono ?_
      rintro e we10 ⟨Awe10, cwe10, rfl, hc, hC, hb⟩
      replace HK := Lib.hid (below_step HK.out hb)
      replace HS := Lib.hid ((HS.out.go hb).cons (g := (⟨1, 1, 0, Awe10, cwe10, (List.replicate 1 (⟨9223372036854775808, 9⟩ : S34))⟩ : GRec)) (by rw [List.length_replicate]; exact hC))
      clear hb hC hc
      go_wp2_with fail
      refine (buckets_any 1 4607182418800017408 _ (by decide)).mono ?_
      rintro e we11 ⟨Awe11, cwe11, rfl, hc, hC, hb⟩
      replace HK := Lib.hid (below_step HK.out hb)
      replace HS := Lib.hid ((HS.out.go hb).cons (g := (⟨1, 2, 0, Awe11, cwe11, (List.replicate 1 (⟨4607182418800017408, 9⟩ : S34))⟩ : GRec)) (by rw [List.length_replicate]; exact hC))
      clear hb hC hc
      go_wp2_with fail
      refine (buckets_any 1 4607182418800017408 _ (by decide)).mono ?_
      rintro e we12 ⟨Awe12, cwe12, rfl, hc, hC, hb⟩
      replace HK := Lib.hid (below_step HK.out hb)
      replace HS := Lib.hid ((HS.out.go hb).cons (g := (⟨1, 2, 65535, Awe12, cwe12, (List.replicate 1 (⟨4607182418800017408, 9⟩ : S34))⟩ : GRec)) (by rw [List.length_replicate]; exact hC))
      clear hb hC hc
      go_wp2_with fail
      refine (buckets_any 1 4607182418800017408 _ (by decide)).mono ?_
      rintro e we13 ⟨Awe13, cwe13, rfl, hc, hC, hb⟩
      replace HK := Lib.hid (below_step HK.out hb)
      replace HS := Lib.hid ((HS.out.go hb).cons (g := (⟨1, 2, (-1), Awe13, cwe13, (List.replicate 1 (⟨4607182418800017408, 9⟩ : S34))⟩ : GRec)) (by rw [List.length_replicate]; exact hC))
      clear hb hC hc
      replace HS := Lib.hid (HS.out.cons (g := (⟨1, 2, 1, none, 0, ([] : List S34)⟩ : GRec)) (Kd.C_nil _ _))
      go_wp2_with fail
      refine (buckets_any 17 4607182418800017408 _ (by decide)).mono ?_
      rintro e we15 ⟨Awe15, cwe15, rfl, hc, hC, hb⟩
      replace HK := Lib.hid (below_step HK.out hb)
      replace HS := Lib.hid ((HS.out.go hb).cons (g := (⟨1, 2, 1, Awe15, cwe15, (List.replicate 17 (⟨4607182418800017408, 9⟩ : S34))⟩ : GRec)) (by rw [List.length_replicate]; exact hC))
      clear hb hC hc
      go_wp2_with fail
      refine (buckets_any 2 4697254411347427329 _ (by decide)).mono ?_
      rintro e we16 ⟨Awe16, cwe16, rfl, hc, hC, hb⟩
      replace HK := Lib.hid (below_step HK.out hb)
      replace HS := Lib.hid ((HS.out.go hb).cons (g := (⟨1, 2, 1, Awe16, cwe16, (List.replicate 2 (⟨4697254411347427329, 9⟩ : S34))⟩ : GRec)) (by rw [List.length_replicate]; exact hC))
      clear hb hC hc
      go_wp2_with fail
      refine (buckets_any 2 9218868437227405312 _ (by decide)).mono ?_
      rintro e we17 ⟨Awe17, cwe17, rfl, hc, hC, hb⟩
      replace HK := Lib.hid (below_step HK.out hb)
      replace HS := Lib.hid ((HS.out.go hb).cons (g := (⟨1, 2, 1, Awe17, cwe17, (List.replicate 2 (⟨9218868437227405312, 9⟩ : S34))⟩ : GRec)) (by rw [List.length_replicate]; exact hC))
      clear hb hC hc
      go_wp2_with fail
      refine (buckets_any 2 9221120237041090560 _ (by decide)).mono ?_
      rintro e we18 ⟨Awe18, cwe18, rfl, hc, hC, hb⟩
      replace HK := Lib.hid (below_step HK.out hb)
      replace HS := Lib.hid ((HS.out.go hb).cons (g := (⟨1, 2, 1, Awe18, cwe18, (List.replicate 2 (⟨9221120237041090560, 9⟩ : S34))⟩ : GRec)) (by rw [List.length_replicate]; exact hC))
      clear hb hC hc
      go_wp2_with fail
      refine (buckets_any 2 13830554455654793216 _ (by decide)).mono ?_
      rintro e we19 ⟨Awe19, cwe19, rfl, hc, hC, hb⟩
      replace HK := Lib.hid (below_step HK.out hb)
      replace HS := Lib.hid ((HS.out.go hb).cons (g := (⟨1, 2, 1, Awe19, cwe19, (List.replicate 2 (⟨13830554455654793216, 9⟩ : S34))⟩ : GRec)) (by rw [List.length_replicate]; exact hC))
      clear hb hC hc
      obtain ⟨b1, b2, b3, b4, hb⟩ := four we19 34 34 34 27 #[.int .u64 0, .int .i64 1, .int .u64 0, .int .i64 0] #[.int .u64 0, .int .i64 65535] #[.int .u64 4607182418800017408, .int .i64 (-1)] #[.int .i64 0, .int .u8 0, .int .i64 0, .slice none 0 0, .int .i64 1, .int .u8 0, .int .i64 0, .slice Awe1 1 cwe1, .int .i64 1, .int .u8 3, .int .i64 0, .slice Awe2 1 cwe2, .int .i64 0, .int .u8 1, .int .i64 0, .slice Awe3 1 cwe3, .int .i64 65535, .int .u8 1, .int .i64 0, .slice Awe4 1 cwe4, .int .i64 (-1), .int .u8 1, .int .i64 0, .slice Awe5 1 cwe5, .int .i64 1, .int .u8 1, .int .i64 0, .slice none 0 0, .int .i64 1, .int .u8 1, .int .i64 0, .slice Awe7 17 cwe7, .int .i64 1, .int .u8 1, .int .i64 1, .slice Awe8 1 cwe8, .int .i64 1, .int .u8 1, .int .i64 0, .slice Awe9 1 cwe9, .int .i64 1, .int .u8 1, .int .i64 0, .slice Awe10 1 cwe10, .int .i64 1, .int .u8 2, .int .i64 0, .slice Awe11 1 cwe11, .int .i64 1, .int .u8 2, .int .i64 65535, .slice Awe12 1 cwe12, .int .i64 1, .int .u8 2, .int .i64 (-1), .slice Awe13 1 cwe13, .int .i64 1, .int .u8 2, .int .i64 1, .slice none 0 0, .int .i64 1, .int .u8 2, .int .i64 1, .slice Awe15 17 cwe15, .int .i64 1, .int .u8 2, .int .i64 1, .slice Awe16 2 cwe16, .int .i64 1, .int .u8 2, .int .i64 1, .slice Awe17 2 cwe17, .int .i64 1, .int .u8 2, .int .i64 1, .slice Awe18 2 cwe18, .int .i64 1, .int .u8 2, .int .i64 1, .slice Awe19 2 cwe19, .int .i64 1, .int .u8 1, .int .i64 0, .slice (some ⟨we19.heap.size, 0, none⟩) 2 2, .int .i64 1, .int .u8 1, .int .i64 0, .slice (some ⟨we19.heap.size + 1, 0, none⟩) 1 1, .int .i64 1, .int .u8 2, .int .i64 1, .slice (some ⟨we19.heap.size + 1 + 1, 0, none⟩) 1 1]
      have hs := HS.out.go hb
      replace hs := hs.cons (g := (⟨1, 1, 0, (some ⟨we19.heap.size, 0, none⟩), 2, [(⟨0, 1⟩ : S34), (⟨0, 0⟩ : S34)]⟩ : GRec)) (blk_reads34 (l := [(⟨0, 1⟩ : S34), (⟨0, 0⟩ : S34)]) b1 (by decide))
      replace hs := hs.cons (g := (⟨1, 1, 0, (some ⟨we19.heap.size + 1, 0, none⟩), 1, [(⟨0, 65535⟩ : S34)]⟩ : GRec)) (blk_reads34 (l := [(⟨0, 65535⟩ : S34)]) b2 (by decide))
      replace hs := hs.cons (g := (⟨1, 2, 1, (some ⟨we19.heap.size + 1 + 1, 0, none⟩), 1, [(⟨4607182418800017408, (-1)⟩ : S34)]⟩ : GRec)) (blk_reads34 (l := [(⟨4607182418800017408, (-1)⟩ : S34)]) b3 (by decide))
      have hT : Tab ((((we19.alloc (.cells #[.int .u64 0, .int .i64 1, .int .u64 0, .int .i64 0] 34)).alloc (.cells #[.int .u64 0, .int .i64 65535] 34)).alloc (.cells #[.int .u64 4607182418800017408, .int .i64 (-1)] 34)).alloc (.cells #[.int .i64 0, .int .u8 0, .int .i64 0, .slice none 0 0, .int .i64 1, .int .u8 0, .int .i64 0, .slice Awe1 1 cwe1, .int .i64 1, .int .u8 3, .int .i64 0, .slice Awe2 1 cwe2, .int .i64 0, .int .u8 1, .int .i64 0, .slice Awe3 1 cwe3, .int .i64 65535, .int .u8 1, .int .i64 0, .slice Awe4 1 cwe4, .int .i64 (-1), .int .u8 1, .int .i64 0, .slice Awe5 1 cwe5, .int .i64 1, .int .u8 1, .int .i64 0, .slice none 0 0, .int .i64 1, .int .u8 1, .int .i64 0, .slice Awe7 17 cwe7, .int .i64 1, .int .u8 1, .int .i64 1, .slice Awe8 1 cwe8, .int .i64 1, .int .u8 1, .int .i64 0, .slice Awe9 1 cwe9, .int .i64 1, .int .u8 1, .int .i64 0, .slice Awe10 1 cwe10, .int .i64 1, .int .u8 2, .int .i64 0, .slice Awe11 1 cwe11, .int .i64 1, .int .u8 2, .int .i64 65535, .slice Awe12 1 cwe12, .int .i64 1, .int .u8 2, .int .i64 (-1), .slice Awe13 1 cwe13, .int .i64 1, .int .u8 2, .int .i64 1, .slice none 0 0, .int .i64 1, .int .u8 2, .int .i64 1, .slice Awe15 17 cwe15, .int .i64 1, .int .u8 2, .int .i64 1, .slice Awe16 2 cwe16, .int .i64 1, .int .u8 2, .int .i64 1, .slice Awe17 2 cwe17, .int .i64 1, .int .u8 2, .int .i64 1, .slice Awe18 2 cwe18, .int .i64 1, .int .u8 2, .int .i64 1, .slice Awe19 2 cwe19, .int .i64 1, .int .u8 1, .int .i64 0, .slice (some ⟨we19.heap.size, 0, none⟩) 2 2, .int .i64 1, .int .u8 1, .int .i64 0, .slice (some ⟨we19.heap.size + 1, 0, none⟩) 1 1, .int .i64 1, .int .u8 2, .int .i64 1, .slice (some ⟨we19.heap.size + 1 + 1, 0, none⟩) 1 1] 27)) (we19.heap.size + 1 + 1 + 1) (tab2 Awe1 cwe1 Awe2 cwe2 Awe3 cwe3 Awe4 cwe4 Awe5 cwe5 Awe7 cwe7 Awe8 cwe8 Awe9 cwe9 Awe10 cwe10 Awe11 cwe11 Awe12 cwe12 Awe13 cwe13 Awe15 cwe15 Awe16 cwe16 Awe17 cwe17 Awe18 cwe18 Awe19 cwe19 (some ⟨we19.heap.size, 0, none⟩) 2 (some ⟨we19.heap.size + 1, 0, none⟩) 1 (some ⟨we19.heap.size + 1 + 1, 0, none⟩) 1) := ⟨b4, hs.rev⟩
      have hgs : ∃ gs, tab2 Awe1 cwe1 Awe2 cwe2 Awe3 cwe3 Awe4 cwe4 Awe5 cwe5 Awe7 cwe7 Awe8 cwe8 Awe9 cwe9 Awe10 cwe10 Awe11 cwe11 Awe12 cwe12 Awe13 cwe13 Awe15 cwe15 Awe16 cwe16 Awe17 cwe17 Awe18 cwe18 Awe19 cwe19 (some ⟨we19.heap.size, 0, none⟩) 2 (some ⟨we19.heap.size + 1, 0, none⟩) 1 (some ⟨we19.heap.size + 1 + 1, 0, none⟩) 1 = gs := ⟨_, rfl⟩
      replace HK := Lib.hid (below_step HK.out hb)
      obtain ⟨gs, hgs⟩ := hgs
      have HOK := Lib.hid (show ∀ g ∈ gs, Ok2 g from by rw [← hgs]; exact tab2_ok Awe1 cwe1 Awe2 cwe2 Awe3 cwe3 Awe4 cwe4 Awe5 cwe5 Awe7 cwe7 Awe8 cwe8 Awe9 cwe9 Awe10 cwe10 Awe11 cwe11 Awe12 cwe12 Awe13 cwe13 Awe15 cwe15 Awe16 cwe16 Awe17 cwe17 Awe18 cwe18 Awe19 cwe19 (some ⟨we19.heap.size, 0, none⟩) 2 (some ⟨we19.heap.size + 1, 0, none⟩) 1 (some ⟨we19.heap.size + 1 + 1, 0, none⟩) 1)
      have HL := Lib.hid (show gs.length = 23 from by rw [← hgs]; rfl)
      rw [hgs] at hT
      have HT := Lib.hid hT
      clear hgs hT hb HS hs b1 b2 b3 b4
      go_upto_block 3 with (fail)
      generalize we19.heap.size + 1 + 1 + 1 = T at *
      generalize ((((we19.alloc (.cells #[.int .u64 0, .int .i64 1, .int .u64 0, .int .i64 0] 34)).alloc (.cells #[.int .u64 0, .int .i64 65535] 34)).alloc (.cells #[.int .u64 4607182418800017408, .int .i64 (-1)] 34)).alloc (.cells #[.int .i64 0, .int .u8 0, .int .i64 0, .slice none 0 0, .int .i64 1, .int .u8 0, .int .i64 0, .slice Awe1 1 cwe1, .int .i64 1, .int .u8 3, .int .i64 0, .slice Awe2 1 cwe2, .int .i64 0, .int .u8 1, .int .i64 0, .slice Awe3 1 cwe3, .int .i64 65535, .int .u8 1, .int .i64 0, .slice Awe4 1 cwe4, .int .i64 (-1), .int .u8 1, .int .i64 0, .slice Awe5 1 cwe5, .int .i64 1, .int .u8 1, .int .i64 0, .slice none 0 0, .int .i64 1, .int .u8 1, .int .i64 0, .slice Awe7 17 cwe7, .int .i64 1, .int .u8 1, .int .i64 1, .slice Awe8 1 cwe8, .int .i64 1, .int .u8 1, .int .i64 0, .slice Awe9 1 cwe9, .int .i64 1, .int .u8 1, .int .i64 0, .slice Awe10 1 cwe10, .int .i64 1, .int .u8 2, .int .i64 0, .slice Awe11 1 cwe11, .int .i64 1, .int .u8 2, .int .i64 65535, .slice Awe12 1 cwe12, .int .i64 1, .int .u8 2, .int .i64 (-1), .slice Awe13 1 cwe13, .int .i64 1, .int .u8 2, .int .i64 1, .slice none 0 0, .int .i64 1, .int .u8 2, .int .i64 1, .slice Awe15 17 cwe15, .int .i64 1, .int .u8 2, .int .i64 1, .slice Awe16 2 cwe16, .int .i64 1, .int .u8 2, .int .i64 1, .slice Awe17 2 cwe17, .int .i64 1, .int .u8 2, .int .i64 1, .slice Awe18 2 cwe18, .int .i64 1, .int .u8 2, .int .i64 1, .slice Awe19 2 cwe19, .int .i64 1, .int .u8 1, .int .i64 0, .slice (some ⟨we19.heap.size, 0, none⟩) 2 2, .int .i64 1, .int .u8 1, .int .i64 0, .slice (some ⟨we19.heap.size + 1, 0, none⟩) 1 1, .int .i64 1, .int .u8 2, .int .i64 1, .slice (some ⟨we19.heap.size + 1 + 1, 0, none⟩) 1 1] 27)) = wt2 at *
      have HR0 := Lib.hid (show NaR T gs wt2 (.int .i64 0) wt2 from ⟨0, rfl, Nat.zero_le _, Below.refl _ _⟩)
      go_wp2_with fail
      go_loopw [95] (fun t wr => NaR T gs wt2 t wr) (fun t _ => 23 - (intOf t).toNat)
      case atStart => exact HR0.out
      case round =>
        clear HR0
        obtain ⟨k, rfl, hk, hB⟩ := hrel
        have hl5 := HL.out
        replace hk : k ≤ 23 := by omega
        by_cases hlt : k < 23
        · have k1 : (k : Int) < 23 := by omega
          have k0 : (0 : Int) ≤ (k : Int) := by omega
          have hkg : k < gs.length := by omega
          have hTT := HT.out.go hB
          obtain ⟨e0, e1, e2, e3⟩ := hTT.at_ k hkg
          have hOK := HOK.out _ (List.getElem_mem hkg)
          have hrow := hTT.rows _ (List.getElem_mem hkg)
          obtain ⟨x, hx⟩ : ∃ x, gs[k] = x := ⟨_, rfl⟩
          rw [hx] at e0 e1 e2 e3 hOK hrow
          clear hTT hx
          obtain ⟨xi, xk, xf, xA, xc, xl⟩ := x
          have hb0 := (Below.refl wr.heap.size wr).alloc (Nat.le_refl _) (.cells #[.int .i64 xi, .int .u8 xk, .int .i64 xf, .slice xA xl.length xc] 27)
          have X := Blk.new wr 27 #[.int .i64 xi, .int .u8 xk, .int .i64 xf, .slice xA xl.length xc]
          have HROW := Lib.hid (Kd.C_below hrow hb0)
          have HB := Lib.hid (below_step hB hb0)
          have HX := Lib.hid X
          have x0 := X.cell 0
          have x1 := X.cell 1
          have x2 := X.cell 2
          have x3 := X.cell 3
          clear hB hb0 X hrow hkg
          obtain ⟨o1, o3, o4⟩ := hOK
          have HO3 := Lib.hid o3
          have ol : xl.length < 1000000 := Nat.lt_trans (show xl.length < 1000 from o4) (by decide)
          have HG := Lib.hid (fun (W : World) (h : Kd.C k34 W xA xl.length xl) => gmay_any xi xk xf xA xc xl W h HO3.out ol)
          rw [show gmay xi xk xf xl = false from o1] at HG
          have HGB := Lib.hid (fun (W : World) (h : Kd.C k34 W xA xl.length xl) => gblocks_any xi xk xf xA xc xl W h HO3.out ol)
          rw [none_gblk (show gmay xi xk xf xl = false from o1)] at HGB
          have HGC := Lib.hid (fun (W : World) (h : Kd.C k34 W xA xl.length xl) => gchoose_any xi xk xf xA xc xl 5 W h HO3.out ol (by decide))
          rw [none_gch 5 (show gmay xi xk xf xl = false from o1)] at HGC
          clear o1 o3 o4 hl5 ol
          go_wp2_with fail
          generalize wr.alloc (.cells #[.int .i64 xi, .int .u8 xk, .int .i64 xf, .slice xA xl.length xc] 27) = wx at *
          refine (HGC.out _ HROW.out).mono ?_
          rintro e wy ⟨v, rfl, ho, hb⟩
          obtain ⟨A8, c8, rfl, hc8, hC8⟩ := ch_C ho (by decide)
          replace HX := Lib.hid (HX.out.go hb)
          replace HROW := Lib.hid (Kd.C_below HROW.out hb)
          replace HB := Lib.hid (below_step HB.out hb)
          clear x0 x1 x2 x3 hb ho hc8 hC8
          have x0 := HX.out.cell 0
          have x1 := HX.out.cell 1
          have x2 := HX.out.cell 2
          have x3 := HX.out.cell 3
          go_wp2_with fail
          refine (HG.out _ HROW.out).mono ?_
          rintro e wz ⟨rfl, hb⟩
          replace HX := Lib.hid (HX.out.go hb)
          replace HROW := Lib.hid (Kd.C_below HROW.out hb)
          replace HB := Lib.hid (below_step HB.out hb)
          clear x0 x1 x2 x3 hb
          have x0 := HX.out.cell 0
          have x1 := HX.out.cell 1
          have x2 := HX.out.cell 2
          have x3 := HX.out.cell 3
          go_wp2_with fail
          refine (HGB.out _ HROW.out).mono ?_
          rintro e wv ⟨A9, c9, rfl, hc9, hC9, hb⟩
          replace HB := Lib.hid (below_step HB.out hb)
          clear x0 x1 x2 x3 HX HROW hb hC9 hc9
          go_wp2_with fail
          go_roundw
          case rel => exact ⟨k + 1, by go_num, by have := HL.out; omega, HB.out⟩
          case measure => simp [intOf]; omega

        · obtain rfl : k = 23 := by omega
          have k1 : ¬ ((23 : Nat) : Int) < 23 := by decide
          replace HK := Lib.hid (below_step HK.out hB)
          clear hB hk hl5 HT HOK HL
          go_wp2_with fail
          refine (buckets_any 16 4607182418800017408 _ (by decide)).mono ?_
          rintro e wf ⟨Af, cf, rfl, hc, hC, hb⟩
          replace HK := Lib.hid (below_step HK.out hb)
          have hrl : (List.replicate 16 (⟨4607182418800017408, 9⟩ : S34)).length = 16 := rfl
          have HGC := Lib.hid (gchoose_any 1 2 1 Af cf (List.replicate 16 (⟨4607182418800017408, 9⟩ : S34)) 4294967295 wf (by rw [hrl]; exact hC) (inb_of _ (by decide +kernel)) (by decide) (by decide))
          rw [show gch 1 2 1 (List.replicate 16 (⟨4607182418800017408, 9⟩ : S34)) 4294967295 = some [15] from by decide +kernel, hrl] at HGC
          clear hC hc hb hrl
          go_wp2_with fail
          refine HGC.out.mono ?_
          rintro e wg ⟨v, rfl, ho, hb⟩
          obtain ⟨Ag, cg, rfl, hcg, hCg⟩ := ch_C ho (by decide)
          replace HK := Lib.hid (below_step HK.out hb)
          have HCG := Lib.hid hCg
          clear ho hb hCg HGC
          go_wp2_with fail
          refine (buckets_any 1 0 _ (by decide)).mono ?_
          rintro e wh ⟨Ah, ch, rfl, hc, hC, hb⟩
          replace HK := Lib.hid (below_step HK.out hb)
          replace HCG := Lib.hid (Kd.C_below HCG.out hb)
          have hrl : (List.replicate 1 (⟨0, 9⟩ : S34)).length = 1 := rfl
          have HGC := Lib.hid (gchoose_any 1 1 0 Ah ch (List.replicate 1 (⟨0, 9⟩ : S34)) 4294967295 wh (by rw [hrl]; exact hC) (inb_of _ (by decide +kernel)) (by decide) (by decide))
          rw [show gch 1 1 0 (List.replicate 1 (⟨0, 9⟩ : S34)) 4294967295 = some [0] from by decide +kernel, hrl] at HGC
          clear hC hc hb hrl
          go_wp2_with fail
          refine HGC.out.mono ?_
          rintro e wi ⟨v, rfl, ho, hb⟩
          obtain ⟨Ai, ci, rfl, hci, hCi⟩ := ch_C ho (by decide)
          replace HK := Lib.hid (below_step HK.out hb)
          replace HCG := Lib.hid (Kd.C_below HCG.out hb)
          have HCI := Lib.hid hCi
          clear ho hb hCi HGC
          have hb := (Below.refl wi.heap.size wi).alloc (Nat.le_refl _) (.cells #[.int .i64 15] 3)
          have HQ := Lib.hid (ints_any Ag cg [15] (some ⟨wi.heap.size, 0, none⟩) 1 [15] _ (Kd.C_below HCG.out hb) hcg (blk_readsI (l := [15]) (Blk.new wi 3 #[.int .i64 15]) (by decide)) (by decide) (by decide))
          rw [beq_self_eq_true] at HQ
          replace HK := Lib.hid (below_step HK.out hb)
          replace HCI := Lib.hid (Kd.C_below HCI.out hb)
          clear hb HCG hcg
          go_wp2_with fail
          refine HQ.out.mono ?_
          rintro e _ ⟨rfl, q, rfl⟩
          clear HQ
          replace HK := Lib.hid (pw_below_drewN HK.out q)
          replace HCI := Lib.hid (Kd.C_below HCI.out (pw_below_drewN (Below.refl _ _) q))
          generalize World.drewN _ q = wj at *
          have hb := (Below.refl wj.heap.size wj).alloc (Nat.le_refl _) (.cells #[.int .i64 0] 3)
          have HQ := Lib.hid (ints_any Ai ci [0] (some ⟨wj.heap.size, 0, none⟩) 1 [0] _ (Kd.C_below HCI.out hb) hci (blk_readsI (l := [0]) (Blk.new wj 3 #[.int .i64 0]) (by decide)) (by decide) (by decide))
          rw [beq_self_eq_true] at HQ
          replace HK := Lib.hid (below_step HK.out hb)
          clear hb HCI hci
          go_wp2_with fail
          refine HQ.out.mono ?_
          rintro e _ ⟨rfl, q, rfl⟩
          go_wp2_with fail
          go_ret
          exact ⟨rfl, pw_below_drewN HK.out _⟩
end Go.Proofs.Ytpmckbpplkkgaaa.Base
namespace Go.Proofs.Ytpmckbpplkkgaaa.Names
open Go Go.RowKit
theorem core (w : World) : Calls Try.prog 3 #[] w fun e w' => e = .returned (.bool true) ∧ Below w.heap.size w w' := Base.names_any w
end Go.Proofs.Ytpmckbpplkkgaaa.Names
