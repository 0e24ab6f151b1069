/- However bytes are cut, the hash is the same. Conditions: none beyond the row's own. -/
import Derived.Test.YtjkjlkmhaebpcaaWithin
import Derived.Deep.RegionHeld3
namespace Go.Proofs.Ytjkjlkmhaebpcaa.Parts
open Go Go.RowKit Go.Proofs.Ytjkjlkmhaebpcaa.PHashBack Go.Proofs.YtjkjlkmhaebpcaaW.PrintWords Go.Proofs.YtjkjlkmhaebpcaaW.PrintLast Go.Proofs.YtjkjlkmhaebpcaaW.PrintMore Go.Proofs.Ytjkjlkmhaebpcaa.Math Go.Proofs.Ytjkjlkmhaebpcaa.Within
/-- What was there when the call began stands. -/
structure Kp (B : Nat) (w0 w : World) : Prop where
  below : Below B w0 w
  size : B ≤ w.heap.size
theorem Kp.alloc {B : Nat} {w0 w : World} (h : Kp B w0 w) (o : Obj) : Kp B w0 (w.alloc o) := ⟨h.below.alloc h.size o, by have := h.size; simp; omega⟩
theorem Kp.drew {B : Nat} {w0 w : World} (h : Kp B w0 w) : Kp B w0 w.drew := ⟨below_drew h.below, h.size⟩
theorem Kp.drewN {B : Nat} {w0 w : World} (h : Kp B w0 w) (n : Nat) : Kp B w0 (w.drewN n) := ⟨pw_below_drewN h.below n, h.size⟩
theorem Kp.go {B : Nat} {w0 w w1 : World} (h : Kp B w0 w) (k : Below w.heap.size w w1) : Kp B w0 w1 := ⟨below_then h.below h.size k, Nat.le_trans h.size k.size⟩
theorem kd1 {w : World} {b : Nat} {x0 : ByteArray} (h0 : w.cell? ⟨b, 0, none⟩ = some (.string x0)) : Kd.string.C w (some ⟨b, 0, none⟩) [x0].length [x0] := by
  refine ⟨rfl, by simp, fun _ => ⟨_, rfl, fun j p hp => ?_⟩⟩
  match j with
  | 0 => obtain rfl : x0 = p := by simpa using hp
         exact ⟨_, rfl, rfl, fun i u hu => by match i with | 0 => (obtain rfl : .string x0 = u := by simpa using hu); exact h0⟩
theorem kd2 {w : World} {b : Nat} {x0 x1 : ByteArray} (h0 : w.cell? ⟨b, 0, none⟩ = some (.string x0)) (h1 : w.cell? ⟨b, 1, none⟩ = some (.string x1)) : Kd.string.C w (some ⟨b, 0, none⟩) [x0, x1].length [x0, x1] := by
  refine ⟨rfl, by simp, fun _ => ⟨_, rfl, fun j p hp => ?_⟩⟩
  match j with
  | 0 => obtain rfl : x0 = p := by simpa using hp
         exact ⟨_, rfl, rfl, fun i u hu => by match i with | 0 => (obtain rfl : .string x0 = u := by simpa using hu); exact h0⟩
  | 1 => obtain rfl : x1 = p := by simpa using hp
         exact ⟨_, rfl, rfl, fun i u hu => by match i with | 0 => (obtain rfl : .string x1 = u := by simpa using hu); exact h1⟩
theorem kd3 {w : World} {b : Nat} {x0 x1 x2 : ByteArray} (h0 : w.cell? ⟨b, 0, none⟩ = some (.string x0)) (h1 : w.cell? ⟨b, 1, none⟩ = some (.string x1)) (h2 : w.cell? ⟨b, 2, none⟩ = some (.string x2)) : Kd.string.C w (some ⟨b, 0, none⟩) [x0, x1, x2].length [x0, x1, x2] := by
  refine ⟨rfl, by simp, fun _ => ⟨_, rfl, fun j p hp => ?_⟩⟩
  match j with
  | 0 => obtain rfl : x0 = p := by simpa using hp
         exact ⟨_, rfl, rfl, fun i u hu => by match i with | 0 => (obtain rfl : .string x0 = u := by simpa using hu); exact h0⟩
  | 1 => obtain rfl : x1 = p := by simpa using hp
         exact ⟨_, rfl, rfl, fun i u hu => by match i with | 0 => (obtain rfl : .string x1 = u := by simpa using hu); exact h1⟩
  | 2 => obtain rfl : x2 = p := by simpa using hp
         exact ⟨_, rfl, rfl, fun i u hu => by match i with | 0 => (obtain rfl : .string x2 = u := by simpa using hu); exact h2⟩
theorem more_l (s : ByteArray) (hs : s.size ≤ 140737488351232) (d : Nat) : ∀ (k i : Nat) (x : Int), i + d = s.size → d < k →
    hash_More.l0 k x s (s.size : Int) (i : Int) = some (fnv x (s.data.toList.drop i)) := by
  induction d with
  | zero =>
    intro k i x hi hk
    obtain ⟨k, rfl⟩ : ∃ m, k = m + 1 := ⟨k - 1, by omega⟩
    simp only [hash_More.l0]
    rw [if_neg (by omega), List.drop_eq_nil_of_le (by simp; omega)]
    rfl
  | succ d ih =>
    intro k i x hi hk
    obtain ⟨k, rfl⟩ : ∃ m, k = m + 1 := ⟨k - 1, by omega⟩
    simp only [hash_More.l0]
    rw [if_pos (by omega), if_pos (by omega), if_pos (by omega), wrap_next (n := s.size) (by omega), fnv_drop s i x (by omega)]
    exact ih k (i + 1) _ (by omega) (by omega)
theorem more_some (s : ByteArray) (hs : s.size ≤ 140737488351232) (k : Nat) (x : Int) (hk : s.size < k) : hash_More.f k x s = some (fnv x s.data.toList) := by
  unfold hash_More.f
  rw [show ((0 : Int)) = ((0 : Nat) : Int) from rfl, more_l s hs s.size k 0 x (by omega) hk, List.drop_zero]
theorem of_l (l : List ByteArray) (M : Nat) (hM : M ≤ 140737488351232) (hs : ∀ s ∈ l, s.size ≤ M) (hl : l.length ≤ 140737488351232) (d : Nat) : ∀ (k i : Nat) (x : Int), i + d = l.length → d + M + 1 < k →
    hash_Of.l0 k x l (l.length : Int) (i : Int) = some (fnvs x (l.drop i)) := by
  induction d with
  | zero =>
    intro k i x hi hk
    obtain ⟨k, rfl⟩ : ∃ m, k = m + 1 := ⟨k - 1, by omega⟩
    simp only [hash_Of.l0]
    rw [if_neg (by omega), List.drop_eq_nil_of_le (by omega)]
    rfl
  | succ d ih =>
    intro k i x hi hk
    obtain ⟨k, rfl⟩ : ∃ m, k = m + 1 := ⟨k - 1, by omega⟩
    have hi' : i < l.length := by omega
    have hm : l[i] ∈ l := List.getElem_mem hi'
    have := hs _ hm
    simp only [hash_Of.l0]
    rw [if_pos (by omega), if_pos (by omega), if_pos (by omega), wrap_next (n := l.length) (by omega), rdOf_at l i hi', more_some _ (by omega) k x (by omega), Option.bind_some, fnvs_drop l i x hi']
    exact ih k (i + 1) _ (by omega) (by omega)
theorem of_some (l : List ByteArray) (M : Nat) (hM : M ≤ 140737488351232) (hs : ∀ s ∈ l, s.size ≤ M) (hl : l.length ≤ 140737488351232) (k : Nat) (hk : l.length + M + 1 < k) : hash_Of.f k l = some (fnvs 2166136261 l) := by
  unfold hash_Of.f
  rw [show ((0 : Int)) = ((0 : Nat) : Int) from rfl, of_l l M hM hs hl l.length k 0 _ (by omega) hk, List.drop_zero]
theorem awake_is (B : Nat) (w0 w : World) (hb : Kp B w0 w) : Calls Try.prog 12 #[] w fun e w' => e = .returned (.bool true) ∧ Kp B w0 w' :=
  (awake_any B w0 w hb.below hb.size).mono fun _ _ ⟨h, k, l⟩ => ⟨h, k, l⟩
/-- The hash of a list, whatever it is known to be. -/
theorem of_is (B : Nat) (w0 : World) (A : Option Addr) (c : Nat) (l : List ByteArray) (x : Int) (w : World) (hr : Kd.string.C w A l.length l) (hc : l.length ≤ c) (hx : fnvs 2166136261 l = x) (hl : l.length ≤ 3) (hs : ∀ s ∈ l, s.size ≤ 140737488351232) (hb : Kp B w0 w) :
    Calls Try.prog 13 #[.slice A l.length c] w fun e w' => e = .returned (.int .u32 x) ∧ Kp B w0 w' :=
  (hash_Of.calls _ A c l x w hr hc (by rw [of_some l 140737488351232 (by omega) hs (by omega) 140737488351300 (by omega), hx])).mono fun _ _ ⟨h, k⟩ => ⟨h, hb.go k.below⟩
theorem more_is (B : Nat) (w0 : World) (h : Int) (s : ByteArray) (x : Int) (w : World) (hs : s.size ≤ 140737488351232) (hx : fnv h s.data.toList = x) (hb : Kp B w0 w) :
    Calls Try.prog 14 #[.int .u32 h, .string s] w fun e w' => e = .returned (.int .u32 x) ∧ Kp B w0 w' :=
  (hash_More.calls _ h s x w (by rw [more_some s hs (s.size + 1) h (by omega), hx])).mono fun _ _ ⟨h, k⟩ => ⟨h, hb.go k.below⟩
theorem at_rem (a : Int) (n : Int) (h0 : 0 ≤ n) (h : n ≤ 140737488351232) : ∃ i : Int, wrap64 ((IntKind.u64.wrap a).tmod (n + 1)) = i ∧ 0 ≤ i ∧ i ≤ n := by
  rw [wrap_u64, Int.tmod_eq_emod_of_nonneg (by omega)]
  have p := Int.emod_nonneg (a % 18446744073709551616) (b := n + 1) (by omega)
  have q := Int.emod_lt_of_pos (a % 18446744073709551616) (b := n + 1) (by omega)
  refine ⟨_, rfl, ?_⟩
  unfold wrap64
  omega
theorem of3 (B : Nat) (w0 : World) (b : Nat) (s0 s1 s2 : ByteArray) (x : Int) (w : World) (hx : fnvs 2166136261 [s0, s1, s2] = x) (z0 : s0.size ≤ 140737488351232) (z1 : s1.size ≤ 140737488351232) (z2 : s2.size ≤ 140737488351232)
    (h0 : w.cell? ⟨b, 0, none⟩ = some (.string s0)) (h1 : w.cell? ⟨b, 1, none⟩ = some (.string s1)) (h2 : w.cell? ⟨b, 2, none⟩ = some (.string s2)) (hb : Kp B w0 w) :
    Calls Try.prog 13 #[.slice (some ⟨b, 0, none⟩) 3 3] w fun e w' => e = .returned (.int .u32 x) ∧ Kp B w0 w' :=
  of_is B w0 _ 3 [s0, s1, s2] x w (kd3 h0 h1 h2) (by simp) hx (by simp) (by intro t ht; simp at ht; rcases ht with rfl | rfl | rfl <;> assumption) hb
theorem of2 (B : Nat) (w0 : World) (b : Nat) (s0 s1 : ByteArray) (x : Int) (w : World) (hx : fnvs 2166136261 [s0, s1] = x) (z0 : s0.size ≤ 140737488351232) (z1 : s1.size ≤ 140737488351232)
    (h0 : w.cell? ⟨b, 0, none⟩ = some (.string s0)) (h1 : w.cell? ⟨b, 1, none⟩ = some (.string s1)) (hb : Kp B w0 w) :
    Calls Try.prog 13 #[.slice (some ⟨b, 0, none⟩) 2 2] w fun e w' => e = .returned (.int .u32 x) ∧ Kp B w0 w' :=
  of_is B w0 _ 2 [s0, s1] x w (kd2 h0 h1) (by simp) hx (by simp) (by intro t ht; simp at ht; rcases ht with rfl | rfl <;> assumption) hb
theorem of0 (B : Nat) (w0 : World) (w : World) (hb : Kp B w0 w) :
    Calls Try.prog 13 #[.slice none 0 0] w fun e w' => e = .returned (.int .u32 2166136261) ∧ Kp B w0 w' :=
  of_is B w0 _ 0 [] 2166136261 w (Kd.C_nil _ _) (by simp) rfl (by simp) (by simp) hb
set_option maxHeartbeats 8000000 in
set_option maxRecDepth 100000 in
theorem parts_any (s : ByteArray) (a b : Int) (w : World) (hs : s.size ≤ 140737488351232) :
    Calls Try.prog 4 #[.string s, .int .i64 a, .int .i64 b] w fun e w' => e = .returned (.bool true) ∧ Below w.heap.size w w' := by
  have HK : Kp w.heap.size w w := ⟨Below.refl _ _, Nat.le_refl _⟩
  by_cases hl : s.size ≤ 5000
  · obtain ⟨i, hi, i0, i1⟩ := at_rem a s.size (by omega) (by omega)
    obtain ⟨j, hj, j0, j1⟩ := at_rem b (s.size - i) (by omega) (by omega)
    go_enter Try.func4, Try.ntmps4
    go_wp2_with fail
    refine (awake_is _ _ _ HK).mono ?_
    clear HK
    rintro e w1 ⟨rfl, HK⟩
    go_wp2_with fail
    refine (of_is _ _ _ _ [s] (fnv 2166136261 s.data.toList) _ (kd1 (by simp)) (by simp) rfl (by simp) (by simp; omega) (HK.alloc _)).mono ?_
    clear HK
    rintro e w2 ⟨rfl, HK⟩
    rw [hi]
    clear hi hj
    obtain ⟨k, hk⟩ : ∃ k, i + j = k := ⟨_, rfl⟩
    rw [hk]
    have k1 : i ≤ k := by omega
    have k2 : k ≤ s.size := by omega
    clear hk j0 j1
    obtain ⟨i, rfl⟩ := Int.eq_ofNat_of_zero_le i0
    obtain ⟨k, rfl⟩ := Int.eq_ofNat_of_zero_le (by omega : 0 ≤ k)
    have cut := cut_three s i k (by omega) (by omega)
    have z1 : (s.extract 0 i).size ≤ 140737488351232 := by simp [ByteArray.size_extract]; omega
    have z2 : (s.extract i k).size ≤ 140737488351232 := by simp [ByteArray.size_extract]; omega
    have z3 : (s.extract k s.size).size ≤ 140737488351232 := by simp [ByteArray.size_extract]; omega
    obtain ⟨x1, X1⟩ : ∃ x, Hid (fnv 2166136261 (s.extract 0 i).data.toList = x) := ⟨_, Lib.hid rfl⟩
    obtain ⟨x2, X2⟩ : ∃ x, Hid (fnv x1 (s.extract i k).data.toList = x) := ⟨_, Lib.hid rfl⟩
    have F3 := Lib.hid (show fnvs 2166136261 [s.extract 0 i, s.extract i k, s.extract k s.size] = fnv 2166136261 s.data.toList by rw [← cut, fnv_append, fnv_append]; rfl)
    have G3 := Lib.hid (show fnv x2 (s.extract k s.size).data.toList = fnv 2166136261 s.data.toList by rw [← X2.out, ← X1.out, ← cut, fnv_append, fnv_append])
    have F2 := Lib.hid (show fnvs 2166136261 [s.extract 0 i, s.extract i k] = x2 by rw [← X2.out, ← X1.out]; rfl)
    clear cut
    go_wp2_with fail
    go_region_held3 (fun _ => True) (exact trivial) (first
      | (go_at_call 13; (with_reducible refine (of3 w.heap.size w _ (s.extract 0 i) (s.extract i k) (s.extract k s.size) (fnv 2166136261 s.data.toList) _ F3.out z1 z2 z3 ?_ ?_ ?_ ?_).mono ?_); (simp); (simp); (simp); (repeat (first | exact HK | apply Kp.alloc | apply Kp.drew | apply Kp.drewN)); clear HK; rintro e w3 ⟨rfl, HK⟩)
      | (go_at_call 13; (with_reducible refine (of2 w.heap.size w _ (s.extract 0 i) (s.extract i k) x2 _ F2.out z1 z2 ?_ ?_ ?_).mono ?_); (simp); (simp); (repeat (first | exact HK | apply Kp.alloc | apply Kp.drew | apply Kp.drewN)); clear HK; rintro e w3 ⟨rfl, HK⟩)
      | (go_at_call 13; (with_reducible refine (of0 w.heap.size w _ ?_).mono ?_); (repeat (first | exact HK | apply Kp.alloc | apply Kp.drew | apply Kp.drewN)); clear HK; rintro e w3 ⟨rfl, HK⟩)
      | (go_at_call 14; (with_reducible refine (more_is w.heap.size w 2166136261 (s.extract 0 i) x1 _ z1 X1.out ?_).mono ?_); (repeat (first | exact HK | apply Kp.alloc | apply Kp.drew | apply Kp.drewN)); clear HK; rintro e w3 ⟨rfl, HK⟩)
      | (go_at_call 14; (with_reducible refine (more_is w.heap.size w x1 (s.extract i k) x2 _ z2 X2.out ?_).mono ?_); (repeat (first | exact HK | apply Kp.alloc | apply Kp.drew | apply Kp.drewN)); clear HK; rintro e w3 ⟨rfl, HK⟩)
      | (go_at_call 14; (with_reducible refine (more_is w.heap.size w x2 (s.extract k s.size) (fnv 2166136261 s.data.toList) _ z3 G3.out ?_).mono ?_); (repeat (first | exact HK | apply Kp.alloc | apply Kp.drew | apply Kp.drewN)); clear HK; rintro e w3 ⟨rfl, HK⟩))
    go_wp2_with fail
    go_ret
    exact ⟨rfl, HK.below⟩
  · go_enter Try.func4, Try.ntmps4
    go_wp2_with fail
    refine (awake_is _ _ _ HK).mono ?_
    clear HK
    rintro e w1 ⟨rfl, HK⟩
    go_wp2_with fail
    go_ret
    exact ⟨rfl, HK.below⟩
theorem core (s : ByteArray) (a b : Int) (w : World) (hs : s.size ≤ 140737488351232) (_ : (Lit.int .i64 a).wf = true) (_ : (Lit.int .i64 b).wf = true) :
    Calls Try.prog 4 #[.string s, .int .i64 a, .int .i64 b] w fun e w' => e = .returned (.bool true) ∧ Below w.heap.size w w' := parts_any s a b w hs
end Go.Proofs.Ytjkjlkmhaebpcaa.Parts
