/- Slot lies within the row, rises with the number, and begins at its place times 2^32 over n, rounded up. Conditions: none beyond the row's own. -/
import Derived.Test.YtjkjlkmhaebpcaaPHashBackx1
import Derived.Test.YtjkjlkmhaebpcaaMath
import Derived.Lib.Hide
namespace Go.Proofs.Ytjkjlkmhaebpcaa.Within
open Go.RowKit Go.Proofs.Ytjkjlkmhaebpcaa.PHashBack Go.Proofs.YtjkjlkmhaebpcaaW.PrintWords Go.Proofs.YtjkjlkmhaebpcaaW.PrintLast Go.Proofs.YtjkjlkmhaebpcaaW.PrintMore Go.Proofs.Ytjkjlkmhaebpcaa.Math
theorem awake_any (B : Nat) (w0 w : World) (hb : Below B w0 w) (hs : B ≤ w.heap.size) : Calls Try.prog 12 #[] w fun e w' => e = .returned (.bool true) ∧ Below B w0 w' ∧ B ≤ w'.heap.size :=
  (turnoutlaw04_awake.calls 20 true w (by decide +kernel)).mono fun _ _ ⟨h, k⟩ => ⟨h, below_then hb hs k, Nat.le_trans hs k.size⟩
def slotv (a n : Int) : Int := a * n / 4294967296
theorem slot_any (B : Nat) (w0 : World) (a n : Int) (w : World) (h : 0 ≤ a) (h' : a < 4294967296) (hn : 1 ≤ n) (hn' : n ≤ 2147483647) (hb : Below B w0 w) (hs : B ≤ w.heap.size) : Calls Try.prog 10 #[.int .u32 a, .int .i64 n] w fun e w' => e = .returned (.int .i64 (slotv a n)) ∧ Below B w0 w' ∧ B ≤ w'.heap.size :=
  (hash_Slot.calls a n _ w (by unfold hash_Slot.f slotv; rw [slot_int a n h h' hn hn'])).mono fun _ _ ⟨h, k⟩ => ⟨h, below_then hb hs k, Nat.le_trans hs k.size⟩
theorem slot_is (B : Nat) (w0 : World) (a a' n x : Int) (w : World) (e : a' = a) (hx : slotv a n = x) (h : 0 ≤ a) (h' : a < 4294967296) (hn : 1 ≤ n) (hn' : n ≤ 2147483647) (hb : Below B w0 w) (hs : B ≤ w.heap.size) : Calls Try.prog 10 #[.int .u32 a', .int .i64 n] w fun e w' => e = .returned (.int .i64 x) ∧ Below B w0 w' ∧ B ≤ w'.heap.size := by
  subst e hx
  exact slot_any B w0 _ n w h h' hn hn' hb hs
set_option maxHeartbeats 8000000 in
set_option maxRecDepth 100000 in
theorem within_any (a b n : Int) (w : World) (ha : 0 ≤ a) (ha' : a < 4294967296) (hb : 0 ≤ b) (hb' : b < 4294967296) :
    Calls Try.prog 5 #[.int .u32 a, .int .u32 b, .int .i64 n] w fun e w' => e = .returned (.bool true) ∧ Below w.heap.size w w' := by
  have HB : Below w.heap.size w w := Below.refl _ _
  have HS : w.heap.size ≤ w.heap.size := Nat.le_refl _
  have hl := len_int n
  go_enter Try.func5, Try.ntmps5
  go_wp2_with fail
  generalize hm : wrap64 (1 + wrap64 ((IntKind.u64.wrap n).tmod 2147483647)) = m at hl ⊢
  clear hm
  obtain ⟨hl1, hl2⟩ := hl
  refine (slot_any _ _ _ _ _ ha ha' hl1 hl2 HB HS).mono ?_
  clear HB HS
  rintro e w1 ⟨rfl, HB, HS⟩
  go_wp2_with fail
  refine (slot_any _ _ _ _ _ hb hb' hl1 hl2 HB HS).mono ?_
  clear HB HS
  rintro e w2 ⟨rfl, HB, HS⟩
  have x0 : 0 ≤ slotv a m := slot_pos a m ha hl1
  have x1 : slotv a m < m := slot_lt a m ha ha' hl1
  have r1 : a ≤ b → slotv a m ≤ slotv b m := slot_mono a b m hl1
  have r2 : b ≤ a → slotv b m ≤ slotv a m := slot_mono b a m hl1
  obtain ⟨f, hf, f0, fa, fs, fp⟩ := first_int a m (slotv a m) ha ha' hl1 hl2 rfl
  subst hf
  change slotv _ m = slotv a m at fs
  change ¬ _ = 0 → slotv (_ - 1) m = slotv a m - 1 at fp
  generalize slotv a m = x at *
  generalize slotv b m = y at *
  have R1 := Lib.hid r1
  have R2 := Lib.hid r2
  have FS := Lib.hid fs
  have FP := Lib.hid fp
  have FA := Lib.hid fa
  have F0 := Lib.hid f0
  clear r1 r2 fs fp fa f0
  have hxy : (a ≤ b ∧ b ≤ a ∧ x ≤ y ∧ y ≤ x) ∨ (a ≤ b ∧ ¬ b ≤ a ∧ x ≤ y) ∨ (¬ a ≤ b ∧ b ≤ a ∧ y ≤ x) := by
    by_cases h1 : a ≤ b
    · by_cases h2 : b ≤ a
      · exact .inl ⟨h1, h2, R1.out h1, R2.out h2⟩
      · exact .inr (.inl ⟨h1, h2, R1.out h1⟩)
    · exact .inr (.inr ⟨h1, by omega, R2.out (by omega)⟩)
  clear R1 R2
  rcases hxy with ⟨h1, h2, h3, h4⟩ | ⟨h1, h2, h3⟩ | ⟨h1, h2, h3⟩
  all_goals
    go_wp2_with fail
    all_goals (first | (exfalso; have := FA.out; omega) | skip)
    generalize hF : (x * 4294967296 + m - 1) / m = f at *
    clear hF
    have f0 := F0.out
    have fa := FA.out
    refine (slot_is _ _ f _ _ x _ (Int.emod_eq_of_lt f0 (by omega)) FS.out f0 (by omega) hl1 hl2 HB HS).mono ?_
    clear HB HS
    rintro e w3 ⟨rfl, HB, HS⟩
    by_cases hz : f = 0
    · have hz0 := Lib.hid hz
      have hz1 : (f == 0) = true := beq_iff_eq.mpr hz
      clear hz
      go_wp2_with fail
      refine (awake_any _ _ _ HB HS).mono ?_
      rintro e w4 ⟨rfl, HB, HS⟩
      go_wp2_with fail
      go_ret
      exact ⟨rfl, HB⟩
    · have hz0 := FP.out hz
      have HZ := Lib.hid hz0
      have hz1 : (f == 0) = false := beq_eq_false_iff_ne.mpr hz
      clear hz0
      go_wp2_with fail
      refine (slot_is _ _ (f - 1) _ _ (x - 1) _ (by omega) HZ.out (by omega) (by omega) hl1 hl2 HB HS).mono ?_
      clear HB HS
      rintro e w4 ⟨rfl, HB, HS⟩
      go_wp2_with fail
      refine (awake_any _ _ _ HB HS).mono ?_
      rintro e w5 ⟨rfl, HB, HS⟩
      go_wp2_with fail
      go_ret
      exact ⟨rfl, HB⟩
theorem core (a b n : Int) (w : World) (ha : (Lit.int .u32 a).wf = true) (hb : (Lit.int .u32 b).wf = true) (_ : (Lit.int .i64 n).wf = true) :
    Calls Try.prog 5 #[.int .u32 a, .int .u32 b, .int .i64 n] w fun e w' => e = .returned (.bool true) ∧ Below w.heap.size w w' :=
  within_any a b n w (wf_u32 ha).1 (wf_u32 ha).2 (wf_u32 hb).1 (wf_u32 hb).2
end Go.Proofs.Ytjkjlkmhaebpcaa.Within
