/- Blocks are the IDs of the buckets' blocks: the law's walk. Conditions: as each contract says. -/
import Derived.Test.YtpmckbpplkkgaaaBox
import Derived.Test.YtpmckbpplkkgaaaBlocksPure
import Derived.StillTailTactics
set_option linter.unusedVariables false
set_option linter.unusedSimpArgs false
namespace Go.Proofs.Ytpmckbpplkkgaaa.Base
open Go Go.RowKit Go.Proofs.Ytpmckbpplkkgaaa.Mem Go.Proofs.YtpmckbpplkkgaaaW.PrintWords Go.Proofs.YtpmckbpplkkgaaaW.PrintLast Go.Proofs.Ytpmckbpplkkgaaa.Fl
open Go.Proofs.Ytpmckbpplkkgaaa.PGroupTells (S34 z34 k34 k34_open k34_mk)
def RiR (m : Nat) (w : World) (t : Value) (wr : World) : Prop := ∃ i : Nat, t = .int .i64 (i : Int) ∧ 1 ≤ i ∧ Below w.heap.size w wr
theorem sub_fact (i : Nat) (h : 1 ≤ i) (h2 : i < 1000000000) : IntKind.i64.wrap ((i : Int) - 1) = ((i - 1 : Nat) : Int) := by
  rw [IntWalk.i64_in _ (by omega)]
  omega
/-- A group's own copy whose row may be nil. -/
structure EV (w W : World) (gx bx : Nat) (GX : Array Value) (i k f : Int) (n : Nat) (L : List S34) (u : Value) : Prop where
  len : L.length = n
  kp : Below w.heap.size w W
  hg : Blk W gx 27 GX
  hx : Blk W bx 27 #[.int .i64 i, .int .u8 k, .int .i64 f, u]
  own : W.ownsRow w.heap.size 34 2 u n (sv L)
  ne : gx ≠ bx
  le : w.heap.size ≤ bx
theorem EV.go {w W W1 : World} {gx bx : Nat} {GX : Array Value} {i k f : Int} {n : Nat} {L : List S34} {u : Value} (h : EV w W gx bx GX i k f n L u) (hb : Below W.heap.size W W1) : EV w W1 gx bx GX i k f n L u :=
  ⟨h.len, h.kp.trans (hb.mono h.kp.size), h.hg.go hb, h.hx.go hb, own_go h.own hb, h.ne, h.le⟩
theorem EV.app {w W wa w2 : World} {gx bx g2 cap2 : Nat} {GX : Array Value} {i k f : Int} {n : Nat} {L : List S34} {u : Value} {x : S34} (h : EV w W gx bx GX i k f n L u) (ha : Below W.heap.size W wa) (ho : w2.ownsRow w.heap.size 34 2 (.slice (some ⟨g2, 0, none⟩) (n + 1) cap2) (n + 1) (sv L ++ [.int .u64 x.f0, .int .i64 x.f1])) (hg : wa.grownBy w2 u.ownBlock) :
    EV w (w2.setCell ⟨bx, 3, none⟩ (.slice (some ⟨g2, 0, none⟩) (n + 1) cap2)) gx bx GX i k f (n + 1) (L ++ [x]) (.slice (some ⟨g2, 0, none⟩) (n + 1) cap2) ∧ Blk w2 bx 27 #[.int .i64 i, .int .u8 k, .int .i64 f, u] := by
  have h1 := h.go ha
  have f1 := own_type h1.own h1.hx (by decide)
  have f2 := own_type h1.own h1.hg (by decide)
  have hx2 := h1.hx.grown hg (fun e => f1 e.symm)
  have hg2 := h1.hg.grown hg (fun e => f2 e.symm)
  have hk2 := h1.kp.grown hg h1.kp.size (fun j e => (h1.own.lt j e).1)
  have hgx : some g2 ≠ some bx := fun e => own_type ho hx2 (by decide) e
  refine ⟨⟨by simp [h.len], hk2.setCell h.le _, hg2.far (p := ⟨bx, 3, none⟩) h.ne _, hx2.set_ 3 _, ?_, h.ne, h.le⟩, hx2⟩
  rw [sv_app]
  refine own_fp ho ((Fp.refl (fun j => j = bx) w2).set_ _ (fun _ => rfl)) (fun j e e2 => hgx ?_)
  subst e2
  exact e
/-- A row, turned. -/
def rotL (l : List S34) (r i : Nat) : List S34 := (List.range i).map fun t => l.getD ((t + r) % l.length) z34
theorem rotL_len (l : List S34) (r i : Nat) : (rotL l r i).length = i := by simp [rotL]
theorem rotL_next (l : List S34) (r i : Nat) : rotL l r (i + 1) = rotL l r i ++ [l.getD ((i + r) % l.length) z34] := by
  unfold rotL
  rw [List.range_succ, List.map_append]
  rfl
theorem rotL_mem (l : List S34) (r : Nat) (h0 : 0 < l.length) (x : S34) : x ∈ rotL l r l.length ↔ x ∈ l := by
  unfold rotL
  rw [List.mem_map]
  constructor
  · rintro ⟨t, _, rfl⟩
    have := Nat.mod_lt (t + r) h0
    rw [List.getD_eq_getElem?_getD, List.getElem?_eq_getElem this]
    exact List.getElem_mem _
  · intro hx
    obtain ⟨j, hj, rfl⟩ := List.mem_iff_getElem.1 hx
    refine ⟨(j + (l.length - r % l.length)) % l.length, List.mem_range.2 (Nat.mod_lt _ h0), ?_⟩
    have hr := Nat.mod_lt r h0
    have e : ((j + (l.length - r % l.length)) % l.length + r) % l.length = j := by
      rw [Nat.mod_add_mod]
      have h1 : j + (l.length - r % l.length) + r = j + l.length + (r - r % l.length) := by have := Nat.mod_le r l.length; omega
      have h2 : r - r % l.length = l.length * (r / l.length) := by have := Nat.div_add_mod r l.length; omega
      rw [h1, h2, Nat.add_mul_mod_self_left, Nat.add_mod_right, Nat.mod_eq_of_lt hj]
    rw [e, List.getD_eq_getElem?_getD, List.getElem?_eq_getElem hj]
    rfl
theorem mod_fact (i r n : Nat) (h0 : 0 < n) (hi : i < 1000) (hr : r < 1000) : IntKind.i64.wrap ((i : Int) + (r : Int)) = (i : Int) + (r : Int) ∧ ((i : Int) + (r : Int)).tmod (n : Int) = (((i + r) % n : Nat) : Int) := by
  refine ⟨IntWalk.i64_in _ (by omega), ?_⟩
  rw [← Int.natCast_add]
  rfl
theorem q_rem (x : Int) (N r : Nat) (h : ¬ N = 0) (hr : x.tmod (N : Int) = (r : Int)) (W : World) : (binOp .rem 42 (.int .u64 x) (.int .u64 (N : Int))).run Try.prog W = .ok (.int .u64 (r : Int)) W := by
  have h2 : ((N : Int) == 0) = false := beq_eq_false_iff_ne.2 (by omega)
  go_simp
theorem q_conv (r : Nat) (h : r < 1000) (W : World) : (convert 42 3 (.int .u64 (r : Int))).run Try.prog W = .ok (.int .i64 (r : Int)) W := by
  have h0 : (0 : Int) ≤ (r : Int) := by omega
  have h1 : (r : Int) < 1000 := by omega
  go_simp
  exact IntWalk.i64_in _ (by omega)
theorem q_add (j r : Nat) (h : r < 1000) (h2 : j < 1000) (W : World) : (binOp .add 3 (.int .i64 (j : Int)) (.int .i64 (r : Int))).run Try.prog W = .ok (.int .i64 ((j + r : Nat) : Int)) W := by
  have h0 : (0 : Int) ≤ (r : Int) := by omega
  have h1 : (r : Int) < 1000 := by omega
  have h0 : (0 : Int) ≤ (j : Int) := by omega
  have h1 : (j : Int) < 1000 := by omega
  go_simp
  exact IntWalk.i64_in _ (by omega)
theorem q_mod (s N m : Nat) (h : ¬ N = 0) (hr : s % N = m) (W : World) : (binOp .rem 3 (.int .i64 (s : Int)) (.int .i64 (N : Int))).run Try.prog W = .ok (.int .i64 (m : Int)) W := by
  subst hr
  have h2 : ((N : Int) == 0) = false := beq_eq_false_iff_ne.2 (by omega)
  go_simp
  exact Int.tmod_eq_emod_of_nonneg (by omega)
theorem gmay_mem {id kind field : Int} {l l' : List S34} (h : gmay id kind field l = true) (hl : l'.length = l.length) (hm : ∀ x ∈ l', x ∈ l) : gmay id kind field l' = true := by
  obtain ⟨b, rfl, h1, h2, h3, h4, h5⟩ := gmay_parts h
  exact gmay_mk b h1 h2 (by omega) (by omega) fun x hx => h5 x (hm x hx)
theorem anyI_next (m : List Int) (p : Int → Bool) (k : Nat) (h : k < m.length) : (m.take (k + 1)).any p = ((m.take k).any p || p m[k]) := by
  rw [List.take_succ_eq_append_getElem h, List.any_append]
  simp
theorem anyS_next (m : List S34) (p : S34 → Bool) (k : Nat) (h : k < m.length) : (m.take (k + 1)).any p = ((m.take k).any p || p m[k]) := by
  rw [List.take_succ_eq_append_getElem h, List.any_append]
  simp
def InR (m : List Int) (y : Int) (n : Nat) (w : World) (t10 t11 : Value) (wr : World) : Prop :=
  ∃ k : Nat, t10 = .bool ((m.take k).any (· == y)) ∧ t11 = .int .i64 (k : Int) ∧ k ≤ n ∧ Below w.heap.size w wr
def InS (l : List S34) (y : Int) (w : World) (t13 t14 : Value) (wr : World) : Prop :=
  ∃ k : Nat, t13 = .bool ((l.take k).any (fun x => x.f1 == y)) ∧ t14 = .int .i64 (k : Int) ∧ k ≤ l.length ∧ Below w.heap.size w wr
def KR (n : Nat) (w : World) (t12 : Value) (wr : World) : Prop := ∃ k : Nat, t12 = .int .i64 (k : Int) ∧ k ≤ n ∧ Below w.heap.size w wr
def RoR (w : World) (gx bx : Nat) (GX : Array Value) (i k f : Int) (l : List S34) (r : Nat) (t8 : Value) (wr : World) : Prop :=
  ∃ (j : Nat) (u : Value), t8 = .int .i64 (j : Int) ∧ j ≤ l.length ∧ EV w wr gx bx GX i k f j (rotL l r j) u
set_option maxHeartbeats 16000000 in
set_option maxRecDepth 100000 in
theorem blocks_law (id kind field : Int) (A : Option Addr) (cp : Nat) (l : List S34) (by_ : Int) (w : World) (hr : Kd.C k34 w A l.length l) (hb : inB l) (hc : l.length ≤ cp) :
    Calls Try.prog 9 #[gV id kind field A l.length cp, .int .i64 by_] w fun e w' => e = .returned (.bool true) ∧ Below w.heap.size w w' := by
  have kA := (Below.refl w.heap.size w).alloc (Nat.le_refl _) (.cells #[.int .i64 id, .int .u8 kind, .int .i64 field, .slice A l.length cp] 27)
  have hG := Blk.new w 27 #[.int .i64 id, .int .u8 kind, .int .i64 field, .slice A l.length cp]
  have c0 := hG.cell 0
  have c1 := hG.cell 1
  have c2 := hG.cell 2
  have c3 := hG.cell 3
  by_cases hlen : 100 < l.length
  · have hl1 : (100 : Int) < (l.length : Int) := by omega
    clear hr hb hG
    go_enter Try.func9, Try.ntmps9
    go_wp2_with fail
    refine (awake_any _).mono ?_
    rintro e w1 ⟨rfl, hb1⟩
    go_wp2_with fail
    go_ret
    exact ⟨rfl, kA.trans (hb1.mono kA.size)⟩
  · have hl1 : ¬ (100 : Int) < (l.length : Int) := by omega
    have HR := Lib.hid hr
    have HG := Lib.hid hG
    have KA := Lib.hid kA
    clear hr hG kA
    go_enter Try.func9, Try.ntmps9
    go_wp2_with fail
    generalize w.alloc (.cells #[.int .i64 id, .int .u8 kind, .int .i64 field, .slice A l.length cp] 27) = wA at *
    refine (gmay_any id kind field A cp l wA (Kd.C_below HR.out KA.out) hb (by omega)).mono ?_
    rintro e w1 ⟨rfl, hbw⟩
    have HG1 := Lib.hid (HG.out.go hbw)
    have KA1 := Lib.hid (KA.out.trans (hbw.mono KA.out.size))
    clear hbw c0 c1 c2 c3 HG KA
    have c0 := HG1.out.cell 0
    have c1 := HG1.out.cell 1
    have c2 := HG1.out.cell 2
    have c3 := HG1.out.cell 3
    cases hm : gmay id kind field l
    · go_wp2_with fail
      refine (awake_any _).mono ?_
      rintro e w2 ⟨rfl, hb2⟩
      go_wp2_with fail
      go_ret
      exact ⟨rfl, KA1.out.trans (hb2.mono KA1.out.size)⟩
    · have HM := Lib.hid hm
      clear hm
      go_wp2_with fail
      refine (awake_any _).mono ?_
      rintro e w2 ⟨rfl, hb2⟩
      have HG2 := Lib.hid (HG1.out.go hb2)
      have KA2 := Lib.hid (KA1.out.trans (hb2.mono KA1.out.size))
      clear hb2 c0 c1 c2 c3 HG1 KA1
      have c0 := HG2.out.cell 0
      have c1 := HG2.out.cell 1
      have c2 := HG2.out.cell 2
      have c3 := HG2.out.cell 3
      go_wp2_with fail
      refine (gblocks_any id kind field A cp l w2 (Kd.C_below HR.out KA2.out) hb (by omega)).mono ?_
      rintro e w3 ⟨A2, cp2, rfl, hcp2, hC2, hb3⟩
      have HG3 := Lib.hid (HG2.out.go hb3)
      have KA3 := Lib.hid (KA2.out.trans (hb3.mono KA2.out.size))
      have HC2 := Lib.hid hC2
      have hml : (gblk blkOf id kind field l).length ≤ 100 := by unfold gblk; rw [HM.out, if_pos rfl]; have := blkOf_len (l.map (·.f1)); rw [List.length_map] at this; omega
      obtain ⟨m, hm⟩ : ∃ m, (gblk blkOf id kind field l) = m := ⟨_, rfl⟩
      have HMB := Lib.hid (show m = blkOf (l.map (·.f1)) from by rw [← hm]; unfold gblk; rw [HM.out, if_pos rfl])
      rw [hm] at HC2 hcp2 hml ⊢
      obtain ⟨n, hn⟩ : ∃ n, m.length = n := ⟨_, rfl⟩
      have HN := Lib.hid hn
      rw [hn] at hcp2 hml ⊢
      have HRI := Lib.hid (show m.Pairwise (· < ·) from by rw [HMB.out]; exact (blkOf_law _).1)
      clear hb3 c0 c1 c2 c3 HG2 KA2 hC2 hm hn
      have HR0 := Lib.hid (show RiR n w3 (.int .i64 1) w3 from ⟨1, rfl, Nat.le_refl _, Below.refl _ _⟩)
      go_wp2_with fail
      go_loopw [6] (fun t6 wr => RiR n w3 t6 wr) (fun t6 _ => n - (intOf t6).toNat)
      case atStart => exact HR0.out
      case round =>
        clear HR0
        obtain ⟨i, rfl, hi1, hB⟩ := hrel
        by_cases hlt : i < n
        · have k1 : (i : Int) < (n : Int) := by omega
          have k0 : (0 : Int) ≤ (i : Int) := by omega
          have hi : i < m.length := by rw [HN.out]; exact hlt
          have hi' : i - 1 < m.length := by omega
          have s1 := sub_fact i hi1 (by omega)
          have j0 : (0 : Int) ≤ ((i - 1 : Nat) : Int) := by omega
          have j1 : ((i - 1 : Nat) : Int) < (n : Int) := by omega
          have hlt2 : ¬ m[i] ≤ m[i - 1] := by
            have := List.pairwise_iff_getElem.1 HRI.out (i - 1) i hi' hi (by omega)
            omega
          obtain ⟨ad, rfl, e0⟩ := i64_at (Kd.C_below HC2.out hB) i hi
          obtain ⟨ad', hadd, e1⟩ := i64_at (Kd.C_below HC2.out hB) (i - 1) hi'
          obtain rfl := Option.some.inj hadd
          have HB := Lib.hid hB
          generalize m[i] = x at *
          generalize m[i - 1] = y at *
          clear hadd hi hi' hB
          go_wp2_with fail
          go_quiet (fail)
          go_wp2_with fail
          go_roundw
          case rel => exact ⟨i + 1, by go_num, by omega, pw_below_drewN HB.out _⟩
          case measure => simp [intOf]; omega
        · have k1 : ¬ (i : Int) < (n : Int) := by omega
          have HB3 := Lib.hid hB
          have HG4 := Lib.hid (HG3.out.go hB)
          have KA4 := Lib.hid (below_step KA3.out hB)
          have HC4 := Lib.hid (Kd.C_below HC2.out hB)
          clear HB3 hB HG3 KA3 HC2
          have c0 := HG4.out.cell 0
          have c1 := HG4.out.cell 1
          have c2 := HG4.out.cell 2
          have c3 := HG4.out.cell 3
          have X := Blk.new wr 27 #[.int .i64 id, .int .u8 kind, .int .i64 field, .slice A l.length cp]
          have x3 := X.cell 3
          have z3 := X.frozen 3
          go_upto_region 12 with (fail)
          have hn1 : 0 < l.length := by obtain ⟨_, _, _, _, h, h2, _⟩ := gmay_parts HM.out; exact h
          obtain ⟨r, hr, r1, r2, r3⟩ := rem_fact by_ l.length hn1 (by omega)
          have hgt := HG4.out.lt
          have E0 : EV wr (wr.alloc (.cells #[.int .i64 id, .int .u8 kind, .int .i64 field, .slice none 0 0] 27)) w.heap.size wr.heap.size #[.int .i64 id, .int .u8 kind, .int .i64 field, .slice A l.length cp] id kind field 0 (rotL l r 0) (.slice none 0 0) :=
            ⟨rfl, (Below.refl _ _).alloc (Nat.le_refl _) _, HG4.out.alloc _, Blk.new wr 27 _, World.ownsRow_nil _ _ _ _, Nat.ne_of_lt hgt, Nat.le_refl _⟩
          have HR0 := Lib.hid (show RoR wr w.heap.size wr.heap.size #[.int .i64 id, .int .u8 kind, .int .i64 field, .slice A l.length cp] id kind field l r (.int .i64 0) (wr.alloc (.cells #[.int .i64 id, .int .u8 kind, .int .i64 field, .slice none 0 0] 27)) from ⟨0, _, rfl, Nat.zero_le _, E0⟩)
          obtain ⟨w4, hw4⟩ : ∃ w4, wr = w4 := ⟨_, rfl⟩
          rw [hw4] at HR0 KA4 HG4 HC4 ⊢
          generalize w4.alloc (.cells #[.int .i64 id, .int .u8 kind, .int .i64 field, .slice none 0 0] 27) = w5 at *
          clear c0 c1 c2 c3 X x3 z3 E0 hw4
          have R1 := Lib.hid r1
          have R2 := Lib.hid r2
          have R3 := Lib.hid r3
          have HL1 := Lib.hid hn1
          have HRL := Lib.hid hr
          clear r1 r2 r3 hn1 hr k1
          go_loopw [8] (fun t8 wr => RoR w4 w.heap.size w4.heap.size #[.int .i64 id, .int .u8 kind, .int .i64 field, .slice A l.length cp] id kind field l r t8 wr) (fun t8 _ => l.length - (intOf t8).toNat)
          case atStart => exact HR0.out
          case round =>
            obtain ⟨j, u, rfl, hj, HE⟩ := hrel
            have HEE := Lib.hid HE
            have c3 := HE.hg.cell 3
            clear HE HR0
            by_cases hlt : j < l.length
            · have k1 : (j : Int) < (l.length : Int) := Int.ofNat_lt.2 hlt
              have k0 : (0 : Int) ≤ (j : Int) := Int.natCast_nonneg j
              have hmm := Nat.mod_lt (j + r) HL1.out
              have HRN := Lib.hid (rotL_next l r j)
              obtain ⟨mm, hmmm⟩ : ∃ mm, (j + r) % l.length = mm := ⟨_, rfl⟩
              have HX := Lib.hid (Kd.C_below HR.out (below_step KA4.out HEE.out.kp))
              have HMX := Lib.hid hmmm
              rw [hmmm] at HRN
              rw [hmmm] at hmm
              clear hmmm
              have m0 : (0 : Int) ≤ (mm : Int) := Int.natCast_nonneg mm
              have m1 : (mm : Int) < (l.length : Int) := Int.ofNat_lt.2 hmm
              obtain ⟨gA, o, cs, rfl, hK, -, hcell⟩ := row_at HX.out (by decide : 0 < k34.sz) hmm
              obtain rfl := k34_open hK
              have hsz : k34.sz = 2 := rfl
              rw [hsz] at hcell
              have e0 := hcell 0 _ rfl
              rw [Nat.add_zero] at e0
              have e1 := hcell 1 _ rfl
              clear hK hcell hsz
              have HMEM := Lib.hid (List.getElem_mem hmm)
              obtain ⟨x, hx⟩ : ∃ x, l[mm] = x := ⟨_, rfl⟩
              rw [show l.getD mm z34 = l[mm] from by rw [List.getD_eq_getElem?_getD, List.getElem?_eq_getElem hmm]; rfl] at HRN
              rw [hx] at e0 e1 HMEM HRN
              clear hx
              have hr9 : r < 1000 := by have := HRL.out; omega
              have hj9 : j < 1000 := by omega
              clear hmm
              go_upto_region 14 with (fail)
              have c3' : wr.cell? ⟨w.heap.size, 3, none⟩ = some (.slice (some ⟨gA, o, none⟩) l.length cp) := c3
              clear c3
              obtain ⟨N, hN⟩ : ∃ N, l.length = N := ⟨_, rfl⟩
              have HNN := Lib.hid hN
              have u3 : ¬ N = 0 := by have := HL1.out; omega
              have hNj : j < N := by omega
              obtain ⟨s1, s2⟩ := mod_fact j r N (by omega) hj9 hr9
              have q2 : (IntKind.u64.wrap by_).tmod (N : Int) = (r : Int) := by rw [← hN]; exact R2.out
              have q3 : IntKind.i64.wrap (r : Int) = (r : Int) := IntWalk.i64_in _ ⟨Int.le_trans (by decide) (Int.natCast_nonneg r), Int.le_trans (Int.ofNat_le.2 (Nat.le_of_lt hr9)) (by decide)⟩
              rw [show (j + r) % N = mm from by rw [← hN]; exact HMX.out] at s2
              have r1' : IntKind.u64.wrap (N : Int) = (N : Int) := by rw [← hN]; exact R1.out
              rw [hN] at c3' m1 ⊢
              have HJ := Lib.hid hj
              have HLT := Lib.hid hlt
              have HML := Lib.hid hml
              have HLE := Lib.hid hlen
              have HCP := Lib.hid hcp2
              have HCC := Lib.hid hc
              clear hN hl1 hlen hc hi1 hml hcp2 hj hlt k0 k1 hr9 hj9 hNj
              go_region_held3 (fun W => W.cell? ⟨w.heap.size, 3, none⟩ = some (.slice (some ⟨gA, o, none⟩) N cp) ∧ W.cell? ⟨gA, o + mm * 2, none⟩ = some (.int .u64 x.f0) ∧ W.cell? ⟨gA, o + mm * 2 + 1, none⟩ = some (.int .i64 x.f1)) (go_keep) (fail)
              have hb6 : Below wr.heap.size wr (wr.alloc (.cells #[.int .u64 x.f0, .int .i64 x.f1] 34)).drew := below_drew1 ((Below.refl _ _).alloc (Nat.le_refl _) _)
              have HE6 := Lib.hid (HEE.out.go hb6)
              have BQ : Blk (wr.alloc (.cells #[.int .u64 x.f0, .int .i64 x.f1] 34)).drew wr.heap.size 34 #[.int .u64 x.f0, .int .i64 x.f1] := (Blk.new wr 34 #[.int .u64 x.f0, .int .i64 x.f1]).drew
              have hq1 := Lib.hid (show ∀ k, u.ownBlock = some k → k ≠ wr.heap.size from fun k e => Nat.ne_of_lt (HEE.out.own.lt k e).2)
              have hq2 : wr.heap.size ≠ w4.heap.size := Nat.ne_of_gt HEE.out.hx.lt
              have HQ2 := Lib.hid hq2
              clear hb6 hq2 HEE HX e0 e1 c3'
              generalize (wr.alloc (.cells #[.int .u64 x.f0, .int .i64 x.f1] 34)).drew = W6 at *
              generalize wr.heap.size = q at *
              have y3 := HE6.out.hx.cell 3
              have b0 := BQ.cell 0
              have b1 := BQ.cell 1
              have O_a := HE6.out.own.alloc (.cells #[.int .u64 x.f0, .int .i64 x.f1] 34)
              have hba : Below W6.heap.size W6 (W6.alloc (.cells #[.int .u64 x.f0, .int .i64 x.f1] 34)) := (Below.refl _ _).alloc (Nat.le_refl _) _
              have hsz0 := (HE6.out.go hba).kp.size
              have hj1 : j + 1 ≤ 101 := by have := HLE.out; have := HLT.out; omega
              have hm1 : j + 1 ≤ maxLen := by unfold maxLen; omega
              have hm2 : (j + 1) * 16 ≤ 140737488355328 := by omega
              obtain ⟨i34, hi34, hz0, hz1, hz2⟩ := info_parts info34
              clear q2 q3 s1 s2 r1' u3 m0 m1
              go_upto_region 18 with (at_builtin; go_must (refine wpList_append_lies _ rfl _ _ _ rfl w4.heap.size 34 i34 _ 2 16 Try.underlying23 hi34 hz0 hz1 hz2 rfl (by decide) u j (sv (rotL l r j)) rfl O_a ⟨W6.heap.size, 0, none⟩ 1 1 [.int .u64 x.f0, .int .i64 x.f1] (by rfl) (by rfl) (World.news_of_block (cs := #[.int .u64 x.f0, .int .i64 x.f1]) (t := 34) (fr := (0, 0)) (heap_alloc_new W6 _)) (by simp [Value.oneCell']) (by decide) hm1 hm2 hsz0 _ rfl ?_; intro g2 cap2 w7 P2 G2 _ _; obtain ⟨EN, XB⟩ := HE6.out.app (x := x) hba P2 G2; have x7 := XB.cell 3; have z7 := XB.frozen 3))
              have BQ7 : Blk (w7.setCell ⟨w4.heap.size, 3, none⟩ (.slice (some ⟨g2, 0, none⟩) (j + 1) cap2)) q 34 #[.int .u64 x.f0, .int .i64 x.f1] := ((BQ.alloc _).grown G2 (fun e => hq1.out q e.symm rfl)).far (p := ⟨w4.heap.size, 3, none⟩) HQ2.out _
              have HE7 := Lib.hid EN
              clear EN XB x7 z7 P2 G2 O_a hba hsz0 hm1 hm2 y3 b0 b1 BQ HE6 hq1 HQ2 hi34 hz0 hz1 hz2
              generalize w7.setCell ⟨w4.heap.size, 3, none⟩ (.slice (some ⟨g2, 0, none⟩) (j + 1) cap2) = W7 at *
              have HBQ := Lib.hid BQ7
              have HC7 := Lib.hid (Kd.C_below HC4.out HE7.out.kp)
              have HI0 := Lib.hid (show InR m x.f1 n W7 (.bool false) (.int .i64 0) W7 from ⟨0, rfl, rfl, Nat.zero_le _, Below.refl _ _⟩)
              have hn99 := HML.out
              clear BQ7
              go_loopw [10, 11] (fun t10 t11 wr => InR m x.f1 n W7 t10 t11 wr) (fun _ t11 _ => n - (intOf t11).toNat)
              case atStart => exact HI0.out
              case round =>
                clear HI0
                obtain ⟨k, rfl, rfl, hk, hB⟩ := hrel
                by_cases hkn : k < n
                · have k1 : (k : Int) < (n : Int) := Int.ofNat_lt.2 hkn
                  have k0 : (0 : Int) ≤ (k : Int) := Int.natCast_nonneg k
                  have hkm : k < m.length := by rw [HN.out]; exact hkn
                  obtain ⟨ad, rfl, e0⟩ := i64_at (Kd.C_below HC7.out hB) k hkm
                  have b1 := (HBQ.out.go hB).cell 1
                  have HNX := Lib.hid (anyI_next m (· == x.f1) k hkm)
                  have HB := Lib.hid hB
                  generalize m[k] = z at *
                  cases hq : (m.take k).any (· == x.f1)
                  · rw [hq, Bool.false_or] at HNX
                    cases hz : z == x.f1
                    all_goals
                      rw [hz] at HNX
                      clear hq hkm hB
                      go_wp2_with fail
                      go_quiet (fail)
                      go_wp2_with fail
                      go_roundw
                      case rel => exact ⟨k + 1, by rw [HNX.out], by go_num, hkn, pw_below_drewN HB.out _⟩
                      case measure => simp [intOf]; omega
                  · rw [hq, Bool.true_or] at HNX
                    clear hq hkm hB
                    go_wp2_with fail
                    go_quiet (fail)
                    go_wp2_with fail
                    go_roundw
                    case rel => exact ⟨k + 1, by rw [HNX.out], by go_num, hkn, pw_below_drewN HB.out _⟩
                    case measure => simp [intOf]; omega
                · obtain rfl : k = n := by omega
                  have k1 : ¬ (k : Int) < (k : Int) := Int.lt_irrefl _
                  have hall : (m.take k).any (· == x.f1) = true := by
                    rw [List.take_of_length_le (Nat.le_of_eq HN.out), List.any_eq_true]
                    refine ⟨x.f1, ?_, beq_self_eq_true _⟩
                    rw [HMB.out, (blkOf_law _).2]
                    exact List.mem_map.2 ⟨x, HMEM.out, rfl⟩
                  rw [hall]
                  have HE8 := Lib.hid (HE7.out.go hB)
                  clear hall hB
                  go_wp2_with fail
                  refine ⟨⟨_, _, ⟨j + 1, _, by go_num, HLT.out, by rw [HRN.out]; exact HE8.out⟩, HNN.out.symm, rfl, rfl, HNN.out.symm, by rw [HNN.out], HNN.out.symm⟩, ?_⟩
                  have hh := HLT.out
                  simp [intOf]
                  omega
            · obtain rfl : j = l.length := by omega
              have k1 : ¬ (l.length : Int) < (l.length : Int) := Int.lt_irrefl _
              have HK0 := Lib.hid (show KR n wr (.int .i64 0) wr from ⟨0, rfl, Nat.zero_le _, Below.refl _ _⟩)
              obtain ⟨w8, hw8⟩ : ∃ w8, wr = w8 := ⟨_, rfl⟩
              rw [hw8] at HK0 HEE c3 ⊢
              clear hw8 hj hlt
              have HC8 := Lib.hid (Kd.C_below HC4.out HEE.out.kp)
              have HR8 := Lib.hid (Kd.C_below HR.out (below_step KA4.out HEE.out.kp))
              go_wp2_with fail
              go_loopw [12] (fun t12 wr => KR n w8 t12 wr) (fun t12 _ => n - (intOf t12).toNat)
              case atStart => exact HK0.out
              case round =>
                clear HK0 c3
                obtain ⟨k, rfl, hk, hB⟩ := hrel
                by_cases hkn : k < n
                · have k1 : (k : Int) < (n : Int) := Int.ofNat_lt.2 hkn
                  have k0 : (0 : Int) ≤ (k : Int) := Int.natCast_nonneg k
                  have hkm : k < m.length := by rw [HN.out]; exact hkn
                  have HI0 := Lib.hid (show InS l m[k] wr (.bool false) (.int .i64 0) wr from ⟨0, rfl, rfl, Nat.zero_le _, Below.refl _ _⟩)
                  obtain ⟨w9, hw9⟩ : ∃ w9, wr = w9 := ⟨_, rfl⟩
                  rw [hw9] at HI0 hB ⊢
                  clear hw9
                  have HB9 := Lib.hid hB
                  have HC9 := Lib.hid (Kd.C_below HC8.out hB)
                  have HR9 := Lib.hid (Kd.C_below HR8.out hB)
                  have HE9 := Lib.hid (HEE.out.go hB)
                  have HMK := Lib.hid (List.getElem_mem hkm)
                  have HMZ := Lib.hid (show ∀ W, Below w9.heap.size w9 W → ∃ ad, A2 = some ad ∧ W.cell? (ad.add k) = some (.int .i64 m[k]) from fun W hW => i64_at (Kd.C_below HC9.out hW) k hkm)
                  generalize m[k] = z at *
                  clear hB hkm
                  go_wp2_with fail
                  go_loopw [13, 14] (fun t13 t14 wr => InS l z w9 t13 t14 wr) (fun _ t14 _ => l.length - (intOf t14).toNat)
                  case atStart => exact HI0.out
                  case round =>
                    clear HI0
                    obtain ⟨j, rfl, rfl, hj, hB⟩ := hrel
                    have c3 := (HE9.out.go hB).hg.cell 3
                    by_cases hjl : j < l.length
                    · have j1 : (j : Int) < (l.length : Int) := Int.ofNat_lt.2 hjl
                      have j0 : (0 : Int) ≤ (j : Int) := Int.natCast_nonneg j
                      obtain ⟨ad, rfl, d0⟩ := HMZ.out _ hB
                      obtain ⟨gA, o, cs, rfl, hK, -, hcell⟩ := row_at (Kd.C_below HR9.out hB) (by decide : 0 < k34.sz) hjl
                      obtain rfl := k34_open hK
                      have hsz : k34.sz = 2 := rfl
                      rw [hsz] at hcell
                      have e1 := hcell 1 _ rfl
                      clear hK hcell hsz
                      have HNX := Lib.hid (anyS_next l (fun x => x.f1 == z) j hjl)
                      have HB := Lib.hid hB
                      have HJ := Lib.hid hjl
                      generalize l[j] = x at *
                      obtain ⟨N, hN⟩ : ∃ N, l.length = N := ⟨_, rfl⟩
                      have HNN := Lib.hid hN
                      have c3' := c3
                      rw [hN] at c3' j1
                      clear c3
                      cases hq : (l.take j).any (fun x => x.f1 == z)
                      · rw [hq, Bool.false_or] at HNX
                        cases hz : x.f1 == z
                        all_goals
                          rw [hz] at HNX
                          clear hq hjl hB
                          rw [← hN] at c3' j1
                          clear hN HNN
                          go_wp2_with fail
                          go_quiet (fail)
                          go_wp2_with fail
                          go_roundw
                          case rel => exact ⟨j + 1, by rw [HNX.out], by go_num, HJ.out, pw_below_drewN HB.out _⟩
                          case measure => have := HJ.out; simp [intOf]; omega
                      · rw [hq, Bool.true_or] at HNX
                        clear hq hjl hB
                        rw [← hN] at c3' j1
                        clear hN HNN
                        go_wp2_with fail
                        go_quiet (fail)
                        go_wp2_with fail
                        go_roundw
                        case rel => exact ⟨j + 1, by rw [HNX.out], by go_num, HJ.out, pw_below_drewN HB.out _⟩
                        case measure => have := HJ.out; simp [intOf]; omega
                    · obtain rfl : j = l.length := by omega
                      have j1 : ¬ (l.length : Int) < (l.length : Int) := Int.lt_irrefl _
                      have hall : (l.take l.length).any (fun x => x.f1 == z) = true := by
                        rw [List.take_length, List.any_eq_true]
                        have h1 := HMK.out
                        rw [HMB.out, (blkOf_law _).2] at h1
                        obtain ⟨x, hx, e⟩ := List.mem_map.1 h1
                        exact ⟨x, hx, by rw [← e]; exact beq_self_eq_true _⟩
                      rw [hall]
                      have HBB := Lib.hid (below_step HB9.out hB)
                      clear hall hB
                      go_wp2_with fail
                      refine ⟨⟨k + 1, by go_num, hkn, HBB.out⟩, ?_⟩
                      simp [intOf]
                      omega
                · obtain rfl : k = n := by omega
                  have k1 : ¬ (k : Int) < (k : Int) := Int.lt_irrefl _
                  have HE9 := Lib.hid (HEE.out.go hB)
                  have HC9 := Lib.hid (Kd.C_below HC8.out hB)
                  have hn1 := HL1.out
                  have hsame : gblk blkOf id kind field (rotL l r l.length) = m := by
                    unfold gblk
                    rw [gmay_mem HM.out (rotL_len ..) (fun x hx => (rotL_mem l r hn1 x).1 hx), if_pos rfl, HMB.out]
                    refine blkOf_same _ _ fun y => ?_
                    rw [List.mem_map, List.mem_map]
                    constructor
                    · rintro ⟨x, hx, e⟩
                      exact ⟨x, (rotL_mem l r hn1 x).1 hx, e⟩
                    · rintro ⟨x, hx, e⟩
                      exact ⟨x, (rotL_mem l r hn1 x).2 hx, e⟩
                  have HKE := Lib.hid (below_step KA4.out HE9.out.kp)
                  obtain ⟨A9, c9, rfl, hc9⟩ := own_form HE9.out.own
                  have hrl := rotL_len l r l.length
                  have ho := HE9.out.own
                  rw [← hrl] at ho
                  obtain ⟨A9', c9', e9, hc9', hC9⟩ := own_34 (l := rotL l r l.length) (by rw [rotL_len] at ho ⊢; exact ho) (by rw [hrl]; omega)
                  injection e9 with e9a e9b e9c
                  subst e9a e9c
                  have HBL := Lib.hid (gblocks_any id kind field A9 c9 (rotL l r l.length) wr hC9 (fun x hx => hb x ((rotL_mem l r hn1 x).1 hx)) (by rw [hrl]; omega))
                  rw [hsame, hrl] at HBL
                  have x0 := HE9.out.hx.cell 0
                  have x1 := HE9.out.hx.cell 1
                  have x2 := HE9.out.hx.cell 2
                  have x3 := HE9.out.hx.cell 3
                  clear hsame hrl ho hC9 hc9' hc9 e9b hn1 hB
                  go_wp2_with fail
                  refine HBL.out.mono ?_
                  rintro e w10 ⟨A10, c10, rfl, hc10, hC10, hb10⟩
                  have HQ := Lib.hid (ints_any A10 c10 m A2 cp2 m w10 hC10 hc10 (Kd.C_below HC9.out hb10) (by rw [HN.out]; exact hcp2) (by rw [HN.out]; omega))
                  rw [beq_self_eq_true] at HQ
                  rw [HN.out] at HQ ⊢
                  have HKF := Lib.hid (below_step HKE.out hb10)
                  clear hc10 hC10 hb10 x0 x1 x2 x3
                  go_wp2_with fail
                  refine HQ.out.mono ?_
                  rintro e w11 ⟨rfl, q, rfl⟩
                  go_wp2_with fail
                  go_ret
                  exact ⟨rfl, pw_below_drewN HKF.out _⟩
end Go.Proofs.Ytpmckbpplkkgaaa.Base
namespace Go.Proofs.Ytpmckbpplkkgaaa.Blocks
open Go.Proofs.YtpmckbpplkkgaaaW.PrintWords Go.Proofs.Ytpmckbpplkkgaaa.Mem
open Go Go.RowKit
theorem core (i k f : Int) (A : Option Addr) (c : Nat) (l : List PGroupTells.S34) (b : Int) (w : World) (hk : 0 ≤ k ∧ k < 256) (hc : l.length ≤ c) (hm : l.length * 16 ≤ 140737488351232) (hb : Base.inB l) (hr : Kd.C PGroupTells.k34 w A l.length l) (hh : (Lit.int .i64 b).wf = true) :
    Calls Try.prog 9 #[.agg #[.int .i64 i, .int .u8 k, .int .i64 f, .slice A l.length c], .int .i64 b] w fun e w' => e = .returned (.bool true) ∧ Below w.heap.size w w' :=
  Base.blocks_law i k f A c l b w hr hb hc
end Go.Proofs.Ytpmckbpplkkgaaa.Blocks
