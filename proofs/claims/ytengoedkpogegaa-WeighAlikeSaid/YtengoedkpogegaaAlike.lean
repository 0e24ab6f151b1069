/- The law that of weights of 1 the one at the number's slot is chosen. Conditions: none. -/
import Derived.Test.YtengoedkpogegaaAlikePure
import Derived.Test.YtengoedkpogegaaSlot
import Derived.Test.YtengoedkpogegaaChooses
set_option linter.unusedVariables false
set_option linter.unusedSimpArgs false
namespace Go.Proofs.Ytengoedkpogegaa.Base
open Go Go.RowKit Go.Proofs.Ytengoedkpogegaa.Mem Go.Proofs.YtengoedkpogegaaW.PrintWords Go.Proofs.Ytengoedkpogegaa.Fl
theorem rem_n (n m : Int) (c : Nat) (hc : 0 < c) : ∃ k : Nat, k < c ∧ (IntKind.u64.wrap n).tmod (c : Int) = (k : Int) := by
  have hw : ∀ x : Int, IntKind.u64.wrap x = x % 18446744073709551616 := fun x => by simp [IntKind.wrap, IntKind.signed, IntKind.bits]
  obtain ⟨u, hu⟩ : ∃ u : Nat, IntKind.u64.wrap n = (u : Int) := ⟨(n % 18446744073709551616).toNat, by rw [hw]; omega⟩
  exact ⟨u % c, Nat.mod_lt _ hc, by rw [hu]; rfl⟩
theorem num_w (k : Nat) (h : k < 1000) : wrap64 (k : Int) = (k : Int) ∧ wrap64 (1 + (k : Int)) = ((k + 1 : Nat) : Int) ∧ wrap64 (((k + 1 : Nat) : Int) + 8) = ((k + 9 : Nat) : Int) := by
  unfold wrap64
  omega
theorem make_fact (k : Nat) (hk : k < 1000) (w : World) (B : Nat) (hB : B ≤ w.heap.size) : ∃ C : Array Value, (Instr.makeSlice 26 (.int .i64 (1 + (k : Int))) (.int .i64 (1 + (k : Int) + 8))).run Try.prog w = .ok (.slice (some ⟨w.heap.size, 0, none⟩) (k + 1) (k + 9)) (w.alloc (.cells C 22)) ∧
    (w.alloc (.cells C 22)).ownsRow B 22 1 (.slice (some ⟨w.heap.size, 0, none⟩) (k + 1) (k + 9)) (k + 1) (List.replicate (k + 1) (.int .u64 0)) := by
  obtain ⟨i0, hi, hzz⟩ := Option.map_eq_some_iff.1 info22
  simp only [Prod.mk.injEq] at hzz
  obtain ⟨hz0, hz1, hz2⟩ := hzz
  have h := run_make (P := Try.prog) w 26 22 i0 (.int .u64 0) Try.underlying26 hi hz0 .i64 .i64 (1 + (k : Int)) (1 + (k : Int) + 8) (by omega) (by omega) (by rw [hz2]; omega) (by omega)
  rw [hz1, show (1 + (k : Int)).toNat = k + 1 by omega, show (1 + (k : Int) + 8).toNat = k + 9 by omega, Nat.mul_one] at h
  refine ⟨_, h, by simp, .inr ⟨w.heap.size, k + 9, _, rfl, hB, heap_alloc_new w _, by omega, by simp [maxLen]; omega, by rw [size_madeCells, Nat.mul_one], ?_⟩⟩
  apply List.ext_getElem
  · simp [madeCells]
  · intro i h1 h2
    simp [madeCells, Value.cells, Nat.mod_one]
theorem set_rep (N i : Nat) (a b : Value) (h : i < N) : (List.replicate i a ++ List.replicate (N - i) b).set i a = List.replicate (i + 1) a ++ List.replicate (N - (i + 1)) b := by
  obtain ⟨d, hd⟩ : ∃ d, N - i = d + 1 := ⟨N - i - 1, by omega⟩
  rw [hd, show N - (i + 1) = d by omega, List.set_append_right _ _ (by simp), List.length_replicate, Nat.sub_self, List.replicate_succ, List.set_cons_zero, List.replicate_succ' (n := i), List.append_assoc]
  rfl
def A1 (N B : Nat) (v : Value) (w0 : World) (t : Value) (wr : World) : Prop := ∃ i : Nat, t = .int .i64 (i : Int) ∧ i ≤ N ∧ wr.ownsRow B 22 1 v N (List.replicate i (.int .u64 4607182418800017408) ++ List.replicate (N - i) (.int .u64 0)) ∧ Kp B w0 wr
def A2 (N B j : Nat) (w0 : World) (t7 t9 : Value) (wr : World) : Prop := ∃ (i : Nat) (zs : List Int), t9 = .int .i64 (i : Int) ∧ i ≤ j ∧ Kd.R (Kd.int .u64) 22 wr B (fun _ => True) t7 (List.replicate N (4607182418800017408 : Int) ++ zs) ∧ noughts zs ∧ zs.length = i ∧ Kp B w0 wr
set_option maxHeartbeats 3200000 in
theorem alike_any (h : Nat) (n more : Int) (hh : h < 4294967296) (w : World) : Calls Try.prog 10 #[.int .u32 (h : Int), .int .i64 n, .int .i64 more] w fun e w' => e = .returned (.bool true) ∧ Below w.heap.size w w' := by
  obtain ⟨k, hk, d1⟩ := rem_n n 0 1000 (by decide)
  obtain ⟨d2, d3, d4⟩ := num_w k hk
  obtain ⟨j, hj, f1⟩ := rem_n more 0 8 (by decide)
  have d1' : (IntKind.u64.wrap n).tmod 1000 = (k : Int) := d1
  have f1' : (IntKind.u64.wrap more).tmod 8 = (j : Int) := f1
  have f2 : wrap64 (j : Int) = (j : Int) := (num_w j (by omega)).1
  clear d1 f1 d4 d3
  obtain ⟨C, hmk, ho⟩ := make_fact k hk w w.heap.size (Nat.le_refl _)
  have hR : A1 (k + 1) w.heap.size (.slice (some ⟨w.heap.size, 0, none⟩) (k + 1) (k + 9)) w (.int .i64 0) (w.alloc (.cells C 22)) := ⟨0, rfl, Nat.zero_le _, ho, (Kp.refl w).alloc _⟩
  clear ho
  go_enter Try.func10, Try.ntmps10
  go_wp2_with fail
  clear hmk
  generalize w.alloc (.cells C 22) = w1 at *
  go_loopw [8] (fun t wr => A1 (k + 1) w.heap.size (.slice (some ⟨w.heap.size, 0, none⟩) (k + 1) (k + 9)) w t wr) (fun t _ => k + 1 - (intOf t).toNat)
  case atStart => exact hR
  case round =>
    clear hR
    obtain ⟨i, rfl, hi, ho, HK⟩ := hrel
    by_cases hlt : i < k + 1
    · have c0 : wr.cell? ⟨w.heap.size, i, none⟩ = some ((List.replicate i (Value.int .u64 4607182418800017408) ++ List.replicate (k + 1 - i) (.int .u64 0))[i]'(by simp; omega)) := by rw [ho.cellAt i (by omega)]; exact List.getElem?_eq_getElem _
      have c1 := ho.frozenAt i
      obtain ⟨s1, s2⟩ := ho.stored i (.int .u64 4607182418800017408)
      rw [set_rep _ _ _ _ hlt] at s1
      have k0 : (0 : Int) ≤ (i : Int) := by omega
      have k1 : (i : Int) < 1 + (k : Int) := by omega
      have k2 : (i : Int) < ((k + 1 : Nat) : Int) := by omega
      have HK2 := HK.setCell (a := ⟨w.heap.size, i, none⟩) (Nat.le_refl _) (.int .u64 4607182418800017408)
      clear ho HK s2
      generalize (List.replicate i (Value.int .u64 4607182418800017408) ++ List.replicate (k + 1 - i) (.int .u64 0))[i]'_ = old at c0
      have S1 := Lib.hid s1
      clear s1
      go_wp2_with fail
      go_roundw
      case rel => exact ⟨i + 1, by go_num, by omega, S1.out, HK2⟩
      case measure => simp [intOf]; omega
    · obtain rfl : i = k + 1 := by omega
      rw [Nat.sub_self, List.replicate_zero, List.append_nil] at ho
      have k1 : ¬ ((k : Int) + 1 < 1 + (k : Int)) := by omega
      have k2 : ¬ (((k + 1 : Nat) : Int) < 1 + (k : Int)) := by omega
      have hRow : Kd.R (Kd.int .u64) 22 wr w.heap.size (fun _ => True) (.slice (some ⟨w.heap.size, 0, none⟩) (k + 1) (k + 9)) (List.replicate (k + 1) (4607182418800017408 : Int) ++ []) := by
        rw [List.append_nil]
        refine ⟨fun _ _ => trivial, encs (Value.int .u64) (List.replicate (k + 1) (4607182418800017408 : Int)), ?_, Kd.reps_scalar _⟩
        rw [List.length_replicate, show encs (Value.int .u64) (List.replicate (k + 1) (4607182418800017408 : Int)) = List.replicate (k + 1) (Value.int .u64 4607182418800017408) from List.map_replicate]
        exact ho
      clear ho
      go_wp2_with fail
      have hR2 : A2 (k + 1) w.heap.size j w (.slice (some ⟨w.heap.size, 0, none⟩) (k + 1) (k + 9)) (.int .i64 0) wr := ⟨0, [], rfl, Nat.zero_le _, hRow, (fun y hy => by simp at hy), rfl, HK⟩
      clear hRow HK
      go_loopw [7, 9] (fun t7 t9 wr => A2 (k + 1) w.heap.size j w t7 t9 wr) (fun _ t9 _ => j - (intOf t9).toNat)
      case atStart => exact hR2
      case round =>
        clear hR2
        obtain ⟨i, zs, rfl, hi, hRow, hzs, hzl, HK⟩ := hrel
        obtain ⟨L, hL⟩ : ∃ L, L = List.replicate (k + 1) (4607182418800017408 : Int) ++ zs := ⟨_, rfl⟩
        have hLl : L.length = k + 1 + i := by rw [hL, List.length_append, List.length_replicate, hzl]
        rw [← hL] at hRow
        have HL := Lib.hid hL
        have HLL := Lib.hid hLl
        have HZ := Lib.hid hzs
        have HZL := Lib.hid hzl
        clear hL hLl hzs hzl
        obtain ⟨A4, c4, rfl, m4, hC⟩ := Kd.R_reads hRow
        by_cases hlt2 : i < j
        · generalize hu4 : Value.slice A4 L.length c4 = u4 at *
          have k3 : (i : Int) < (j : Int) := by omega
          have hlen : L.length < 100000 := by rw [HLL.out]; omega
          rcases Nat.mod_two_eq_zero_or_one i with hpar | hpar
          · have p1 : (i : Int).tmod 2 = 0 := by rw [show (i : Int).tmod 2 = ((i % 2 : Nat) : Int) from rfl, hpar]; rfl
            have p2 : (i : Int) % 2 = 0 := by omega
            have HU4 := Lib.hid hu4
            clear hu4 hC hpar
            go_wp2_with (at_builtin; go_must (refine Kd.R_append (Kd.int .u64) (w0 := w) w.heap.size rfl _ _ 26 22 (.int .u64 0) 8 rfl Try.underlying26 info22 rfl (by decide) (by decide) u4 L 0 [.int .u64 0] (fun _ => True) (fun _ => False) (by rfl) (by rfl) rfl (fun _ hk => hk.elim) (fun _ _ => trivial) hRow HK.below HK.size (by omega) ?_; intro v5 w5 ho5 hb5 hg5 hat5))
            have HK5 : Kp w.heap.size w w5 := ⟨hb5, Nat.le_trans HK.size hg5.size⟩
            rw [HL.out, List.append_assoc] at ho5
            have hz5 : noughts (zs ++ [0]) := fun y hy => by
              rcases List.mem_append.1 hy with h1 | h1
              · exact HZ.out y h1
              · rw [List.mem_singleton.1 h1]; exact .inl rfl
            go_wp2_with fail
            go_roundw
            case rel => exact ⟨i + 1, zs ++ [0], by go_num, by omega, ho5, hz5, by rw [List.length_append, HZL.out]; rfl, HK5⟩
            case measure => simp [intOf]; omega
          · have p1 : (i : Int).tmod 2 = 1 := by rw [show (i : Int).tmod 2 = ((i % 2 : Nat) : Int) from rfl, hpar]; rfl
            have p2 : (i : Int) % 2 = 1 := by omega
            have HU4 := Lib.hid hu4
            clear hu4 hC hpar
            go_wp2_with (at_builtin; go_must (refine Kd.R_append (Kd.int .u64) (w0 := w) w.heap.size rfl _ _ 26 22 (.int .u64 0) 8 rfl Try.underlying26 info22 rfl (by decide) (by decide) u4 L 9223372036854775808 [.int .u64 9223372036854775808] (fun _ => True) (fun _ => False) (by rfl) (by rfl) rfl (fun _ hk => hk.elim) (fun _ _ => trivial) hRow HK.below HK.size (by omega) ?_; intro v5 w5 ho5 hb5 hg5 hat5))
            have HK5 : Kp w.heap.size w w5 := ⟨hb5, Nat.le_trans HK.size hg5.size⟩
            rw [HL.out, List.append_assoc] at ho5
            have hz5 : noughts (zs ++ [9223372036854775808]) := fun y hy => by
              rcases List.mem_append.1 hy with h1 | h1
              · exact HZ.out y h1
              · rw [List.mem_singleton.1 h1]; exact .inr rfl
            go_wp2_with fail
            go_roundw
            case rel => exact ⟨i + 1, zs ++ [9223372036854775808], by go_num, by omega, ho5, hz5, by rw [List.length_append, HZL.out]; rfl, HK5⟩
            case measure => simp [intOf]; omega
        · have k3 : ¬ (i : Int) < (j : Int) := by omega
          have HC0 := Lib.hid hC
          clear hRow hC
          have hch := choose_ones (k + 1) h zs HZ.out (by omega) (by omega) hh
          rw [← HL.out] at hch
          have HCH := Lib.hid hch
          have hin : inU L := by
            rw [HL.out]
            intro y hy
            rcases List.mem_append.1 hy with h1 | h1
            · rw [(List.mem_replicate.1 h1).2]; decide
            · rcases HZ.out y h1 with rfl | rfl <;> decide
          have hLL := HLL.out
          have HSL := Lib.hid (show ∀ W, Calls Try.prog 23 #[.int .u32 (h : Int), .int .i64 (1 + (k : Int))] W fun e w' => e = .returned (.int .i64 ((h * (k + 1) / 4294967296 : Nat) : Int)) ∧ W = w' from fun W => by
            have := slot_any h (k + 1) hh (by omega) (by omega) W
            rw [show ((k + 1 : Nat) : Int) = 1 + (k : Int) by omega] at this
            exact this)
          have HCY := Lib.hid (chosen_yes A4 c4 L h (h * (k + 1) / 4294967296) wr HC0.out m4 hin (by omega) hh HCH.out)
          clear hch hin hLL
          generalize h * (k + 1) / 4294967296 = p at *
          go_wp2_with fail
          refine (HSL.out _).mono ?_
          rintro e _ ⟨rfl, rfl⟩
          go_wp2_with fail
          refine HCY.out.mono ?_
          rintro e _ ⟨rfl, rfl⟩
          go_wp2_with fail
          refine (awake_any _).mono ?_
          rintro e w9 ⟨rfl, hb9⟩
          have HK9 := HK.go hb9
          go_wp2_with fail
          go_ret
          exact ⟨rfl, HK9.below⟩
end Go.Proofs.Ytengoedkpogegaa.Base
namespace Go.Proofs.Ytengoedkpogegaa.Alike
open Go Go.RowKit
theorem core (h n m : Int) (w : World) (hh : (Lit.int .u32 h).wf = true) (hn : (Lit.int .i64 n).wf = true) (hm : (Lit.int .i64 m).wf = true) :
    Calls Try.prog 10 #[.int .u32 h, .int .i64 n, .int .i64 m] w fun e w' => e = .returned (.bool true) ∧ Below w.heap.size w w' := by
  obtain ⟨h2, h3⟩ := Base.wf_u32 hh
  obtain ⟨j, rfl⟩ : ∃ k : Nat, h = (k : Int) := ⟨h.toNat, by omega⟩
  exact Base.alike_any j n m (by omega) w
end Go.Proofs.Ytengoedkpogegaa.Alike
