/- So many buckets of one weight: the statements' own function. Conditions: as each contract says. -/
import Derived.Test.YtpmckbpplkkgaaaAwake
set_option linter.unusedVariables false
set_option linter.unusedSimpArgs false
namespace Go.Proofs.Ytpmckbpplkkgaaa.Base
open Go Go.RowKit Go.Proofs.Ytpmckbpplkkgaaa.Mem Go.Proofs.YtpmckbpplkkgaaaW.PrintWords Go.Proofs.YtpmckbpplkkgaaaW.PrintLast Go.Proofs.Ytpmckbpplkkgaaa.Fl
open Go.Proofs.Ytpmckbpplkkgaaa.PGroupTells (S34 z34 k34 k34_open k34_mk)
def sv (l : List S34) : List Value := l.flatMap (fun x => [Value.int .u64 x.f0, Value.int .i64 x.f1])
theorem sv_len (l : List S34) : (sv l).length = l.length * 2 := by
  induction l with
  | nil => rfl
  | cons a r ih => unfold sv at *; rw [List.flatMap_cons, List.length_append, ih]; simp; omega
theorem sv_get (l : List S34) (j i : Nat) (p : S34) (u : Value) (hj : l[j]? = some p) (hu : [Value.int .u64 p.f0, Value.int .i64 p.f1][i]? = some u) : (sv l)[j * 2 + i]? = some u := by
  induction l generalizing j i p u with
  | nil => cases hj
  | cons a r ih =>
    unfold sv
    rw [List.flatMap_cons]
    cases j with
    | zero =>
      simp at hj
      subst hj
      have hi : i < 2 := (List.getElem?_eq_some_iff.1 hu).1
      rw [Nat.zero_mul, Nat.zero_add, List.getElem?_append_left (by exact hi)]
      exact hu
    | succ j =>
      rw [List.getElem?_cons_succ] at hj
      rw [List.getElem?_append_right (by simp only [List.length_cons, List.length_nil]; omega)]
      rw [show (j + 1) * 2 + i - [Value.int .u64 a.f0, Value.int .i64 a.f1].length = j * 2 + i from by simp only [List.length_cons, List.length_nil]; omega]
      exact ih j i p u hj hu
theorem info34 : (Try.prog.info? 34).map (fun i => (i.zero, i.size, i.bytes)) = some (some (.agg #[.int .u64 0, .int .i64 0]), 2, 16) := by kernel_rfl
theorem own_34 {w : World} {N : Nat} {v : Value} {l : List S34} (h : w.ownsRow N 34 2 v l.length (sv l)) (hl : l.length < 1000000000) : ∃ A c, v = .slice A l.length c ∧ l.length ≤ c ∧ Kd.C k34 w A l.length l := by
  rcases h.2 with ⟨rfl, h0⟩ | ⟨g, cap, cur, rfl, hb, hh, hc, hm, _⟩
  · have : l = [] := List.length_eq_zero_iff.1 h0
    subst this
    exact ⟨_, _, rfl, Nat.le_refl _, Kd.C_nil _ _⟩
  · refine ⟨_, _, rfl, hc, rfl, by omega, fun _ => ⟨_, rfl, fun j p hj => ⟨_, rfl, k34_mk _ p, fun i u hu => ?_⟩⟩⟩
    have hj' : j < l.length := (List.getElem?_eq_some_iff.1 hj).1
    have hi : i < 2 := (List.getElem?_eq_some_iff.1 hu).1
    show w.cell? (Addr.add ⟨g, 0, none⟩ (j * 2 + i)) = _
    rw [Mem.add_at, Nat.zero_add, h.cellAt (j * 2 + i) (by omega)]
    exact sv_get l j i p u hj hu
theorem sv_next (wt : Int) (k : Nat) : sv (List.replicate (k + 1) ⟨wt, 9⟩) = sv (List.replicate k ⟨wt, 9⟩) ++ [.int .u64 wt, .int .i64 9] := by
  rw [List.replicate_succ']
  unfold sv
  rw [List.flatMap_append]
  rfl
def BuR (wt : Int) (n : Nat) (w : World) (t5 t6 : Value) (wr : World) : Prop :=
  ∃ (k : Nat) (u : Value), t6 = .int .i64 (k : Int) ∧ t5 = u ∧ k ≤ n ∧ wr.ownsRow w.heap.size 34 2 u k (sv (List.replicate k ⟨wt, 9⟩)) ∧ Below w.heap.size w wr
set_option maxHeartbeats 3200000 in
theorem buckets_any (n : Nat) (wt : Int) (w : World) (hn : n < 1000000) :
    Calls Try.prog 11 #[.int .i64 (n : Int), .int .u64 wt] w fun e w' => ∃ A c, e = .returned (.slice A n c) ∧ n ≤ c ∧ Kd.C k34 w' A n (List.replicate n ⟨wt, 9⟩) ∧ Below w.heap.size w w' := by
  obtain ⟨i34, hi34, hz0, hz1, hz2⟩ := info_parts info34
  have hR : BuR wt n w (.slice none 0 0) (.int .i64 0) w := ⟨0, _, rfl, rfl, Nat.zero_le _, World.ownsRow_nil _ _ _ _, Below.refl _ _⟩
  have HR := Lib.hid hR
  clear hR
  go_enter Try.func11, Try.ntmps11
  go_wp2_with fail
  go_loopw [5, 6] (fun t5 t6 wr => BuR wt n w t5 t6 wr) (fun _ t6 _ => n - (intOf t6).toNat)
  case atStart => exact HR.out
  case round =>
    clear HR
    obtain ⟨k, u5, rfl, rfl, hk, O1, hB⟩ := hrel
    by_cases hlt : k < n
    · have k1 : (k : Int) < (n : Int) := by omega
      have O1_a := O1.alloc (.cells #[.int .u64 wt, .int .i64 9] 34)
      have HB_a := hB.alloc hB.size (.cells #[.int .u64 wt, .int .i64 9] 34)
      have hsz0 := HB_a.size
      have hm1 : k + 1 ≤ maxLen := by unfold maxLen; omega
      have hm2 : (k + 1) * 16 ≤ 140737488355328 := by omega
      have HTK := Lib.hid (sv_next wt k)
      clear O1 hB
      go_wp2_with (at_builtin; go_must (refine wpList_append_lies _ rfl _ _ _ rfl w.heap.size 34 i34 _ 2 16 Try.underlying23 hi34 hz0 hz1 hz2 rfl (by decide) u5 k (sv (List.replicate k ⟨wt, 9⟩)) rfl O1_a ⟨wr.heap.size, 0, none⟩ 1 1 [.int .u64 wt, .int .i64 9] (by rfl) (by rfl) (World.news_of_block (cs := #[.int .u64 wt, .int .i64 9]) (t := 34) (fr := (0, 0)) (heap_alloc_new wr _)) (by simp [Value.oneCell']) (by decide) hm1 hm2 hsz0 _ rfl ?_; intro g1 cap1 w2 P1 G1 _ _; have PB := HB_a.grown G1 hsz0 (fun j e => (O1_a.lt j e).1)))
      go_roundw
      case rel => exact ⟨k + 1, _, by go_num, rfl, by omega, by rw [HTK.out]; exact P1, PB⟩
      case measure => simp [intOf]; omega
    · obtain rfl : k = n := by omega
      have hkk : ¬ (k : Int) < (k : Int) := by omega
      have HO := Lib.hid O1
      have HB := Lib.hid hB
      clear O1 hB
      go_wp2_with fail
      go_ret
      have h := HO.out
      have hlen : (List.replicate k (⟨wt, 9⟩ : S34)).length = k := List.length_replicate ..
      obtain ⟨A, c, rfl, hc, hC⟩ := own_34 (l := List.replicate k ⟨wt, 9⟩) (by rw [hlen]; exact h) (by rw [hlen]; omega)
      rw [hlen] at hC hc
      exact ⟨A, c, by rw [hlen]; rfl, hc, hC, HB.out⟩
end Go.Proofs.Ytpmckbpplkkgaaa.Base
