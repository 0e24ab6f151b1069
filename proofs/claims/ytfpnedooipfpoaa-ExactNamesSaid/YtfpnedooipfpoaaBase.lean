/- A table in memory: its slots, and what reads them. Conditions: as each contract says. -/
import Derived.Test.YtfpnedooipfpoaaPure4
import Derived.Test.YtfpnedooipfpoaaMath
import Derived.Test.YtfpnedooipfpoaaFoot
import Derived.Test.YtfpnedooipfpoaaWLast
import Derived.Test.YtfpnedooipfpoaaPExactHalfx1
import Derived.Lib.Hide
import Derived.Laws.Rows
import Derived.Deep.AppendLies
import Derived.BigQuiet
import Derived.Laws.BitsLemmas
set_option linter.unusedVariables false
set_option linter.unusedSimpArgs false
namespace Go.Proofs.Ytfpnedooipfpoaa.Base
open Go Go.RowKit Go.Proofs.Ytfpnedooipfpoaa Go.Proofs.Ytfpnedooipfpoaa.Ex Go.Proofs.Ytfpnedooipfpoaa.Mem Go.Proofs.Ytfpnedooipfpoaa.Math Go.Proofs.YtfpnedooipfpoaaW.PrintWords Go.Proofs.YtfpnedooipfpoaaW.PrintLast Go.Proofs.Ytfpnedooipfpoaa.PExactHalf
abbrev ptr (b : Nat) : Value := .pointer (some ⟨b, 0, none⟩)
/-! ### the hash -/
def h32 (k : Key) : Nat := (fnv 2166136261 k.data.toList).toNat
def HH (k : Key) : Nat := mixN (h32 k)
theorem hlim : Lim HH := fun k => mixN_lt _
theorem fnv_range : ∀ (l : List UInt8) (h : Int), 0 ≤ h → h < 4294967296 → 0 ≤ fnv h l ∧ fnv h l < 4294967296
  | [], h, h0, h1 => ⟨h0, h1⟩
  | b :: r, h, h0, h1 => by
    have := step_range h (b.toNat : Int)
    exact fnv_range r _ this.1 this.2
theorem h32_eq (k : Key) : fnv 2166136261 k.data.toList = ((h32 k : Nat) : Int) ∧ h32 k < 4294967296 := by
  have := fnv_range k.data.toList 2166136261 (by decide) (by decide)
  unfold h32
  omega
theorem more_l (s : ByteArray) (hs : s.size ≤ 140737488351232) (d : Nat) : ∀ (k i : Nat) (x : Int), i + d = s.size → d < k →
    hash_More.l0 k x s (s.size : Int) (i : Int) = some (fnv x (s.data.toList.drop i)) := by
  induction d with
  | zero =>
    intro k i x hi hk
    obtain ⟨k, rfl⟩ : ∃ m, k = m + 1 := ⟨k - 1, by omega⟩
    simp only [hash_More.l0]
    rw [if_neg (by omega), List.drop_eq_nil_of_le (by simp; omega)]
    rfl
  | succ d ih =>
    intro k i x hi hk
    obtain ⟨k, rfl⟩ : ∃ m, k = m + 1 := ⟨k - 1, by omega⟩
    simp only [hash_More.l0]
    rw [if_pos (by omega), if_pos (by omega), if_pos (by omega), wrap_next (n := s.size) (by omega), fnv_drop s i x (by omega)]
    exact ih k (i + 1) _ (by omega) (by omega)
theorem more_some (s : ByteArray) (hs : s.size ≤ 140737488351232) (k : Nat) (x : Int) (hk : s.size < k) : hash_More.f k x s = some (fnv x s.data.toList) := by
  unfold hash_More.f
  rw [show ((0 : Int)) = ((0 : Nat) : Int) from rfl, more_l s hs s.size k 0 x (by omega) hk, List.drop_zero]
theorem of_l (l : List ByteArray) (M : Nat) (hM : M ≤ 140737488351232) (hs : ∀ s ∈ l, s.size ≤ M) (hl : l.length ≤ 140737488351232) (d : Nat) : ∀ (k i : Nat) (x : Int), i + d = l.length → d + M + 1 < k →
    hash_Of.l0 k x l (l.length : Int) (i : Int) = some (fnvs x (l.drop i)) := by
  induction d with
  | zero =>
    intro k i x hi hk
    obtain ⟨k, rfl⟩ : ∃ m, k = m + 1 := ⟨k - 1, by omega⟩
    simp only [hash_Of.l0]
    rw [if_neg (by omega), List.drop_eq_nil_of_le (by omega)]
    rfl
  | succ d ih =>
    intro k i x hi hk
    obtain ⟨k, rfl⟩ : ∃ m, k = m + 1 := ⟨k - 1, by omega⟩
    have hi' : i < l.length := by omega
    have hm : l[i] ∈ l := List.getElem_mem hi'
    have := hs _ hm
    simp only [hash_Of.l0]
    rw [if_pos (by omega), if_pos (by omega), if_pos (by omega), wrap_next (n := l.length) (by omega), rdOf_at l i hi', more_some _ (by omega) k x (by omega), Option.bind_some, fnvs_drop l i x hi']
    exact ih k (i + 1) _ (by omega) (by omega)
theorem of_some (l : List ByteArray) (M : Nat) (hM : M ≤ 140737488351232) (hs : ∀ s ∈ l, s.size ≤ M) (hl : l.length ≤ 140737488351232) (k : Nat) (hk : l.length + M + 1 < k) : hash_Of.f k l = some (fnvs 2166136261 l) := by
  unfold hash_Of.f
  rw [show ((0 : Int)) = ((0 : Nat) : Int) from rfl, of_l l M hM hs hl l.length k 0 _ (by omega) hk, List.drop_zero]
theorem of_one (k : Key) (g : Nat) (w : World) (hk : k.size ≤ 140737488351232) (hb : Blk w g 9 #[.string k]) : Calls Try.prog 28 #[.slice (some ⟨g, 0, none⟩) 1 1] w fun e w' => e = .returned (.int .u32 ((h32 k : Nat) : Int)) ∧ Below w.heap.size w w' := by
  have hr : Kd.string.C w (some ⟨g, 0, none⟩) [k].length [k] := by
    refine ⟨rfl, by simp, fun _ => ⟨_, rfl, fun j p hj => ?_⟩⟩
    have hj0 : j = 0 := by
      have := (List.getElem?_eq_some_iff.1 hj).1
      simp at this
      exact this
    subst hj0
    simp at hj
    subst hj
    refine ⟨[.string k], rfl, rfl, fun i u hu => ?_⟩
    have hi : i = 0 := by
      have := (List.getElem?_eq_some_iff.1 hu).1
      simp at this
      exact this
    subst hi
    simp at hu
    subst hu
    have e : (Addr.add ⟨g, 0, none⟩ (0 * Kd.string.sz + 0)) = (⟨g, 0, none⟩ : Addr) := by rw [Mem.add_at]; simp
    rw [e, hb.cell 0]
    rfl
  have h1 : hash_Of.f 140737488351300 [k] = some ((h32 k : Nat) : Int) := by
    rw [of_some [k] 140737488351232 (by omega) (by simpa using hk) (by simp) _ (by simp)]
    show some (fnv 2166136261 k.data.toList) = _
    rw [(h32_eq k).1]
  exact (hash_Of.calls _ (some ⟨g, 0, none⟩) 1 [k] _ w hr (by simp) h1).mono fun e w' ⟨he, hd⟩ => ⟨he, by obtain ⟨n, rfl⟩ := hd.out; exact pw_below_drewN (Below.refl _ _) _⟩
theorem mix_one (n : Nat) (w : World) (h : n < 4294967296) : Calls Try.prog 27 #[.int .u32 (n : Int)] w fun e w' => e = .returned (.int .u32 ((mixN n : Nat) : Int)) ∧ Below w.heap.size w w' :=
  (hash_Mix.calls (n : Int) _ w (by unfold hash_Mix.f; rw [mix_int n h])).mono fun e w' ⟨he, hd⟩ => ⟨he, by obtain ⟨n, rfl⟩ := hd.out; exact pw_below_drewN (Below.refl _ _) _⟩
theorem slot_one (h n : Nat) (w : World) (hh : h < 4294967296) (hn : 1 ≤ n) (hn' : n ≤ 2147483647) : Calls Try.prog 26 #[.int .u32 (h : Int), .int .i64 (n : Int)] w fun e w' => e = .returned (.int .i64 ((h * n / 4294967296 : Nat) : Int)) ∧ Below w.heap.size w w' :=
  hash_Slot.calls (h : Int) (n : Int) _ w (by unfold hash_Slot.f; rw [slot_int (h : Int) (n : Int) (by omega) (by omega) (by omega) (by omega)]; simp)
/-! ### '&' with a power of two less one -/
theorem i64_and_pow (e : Nat) (he : e ≤ 62) (x : Int) : Go.bits .and .i64 x (((2 ^ e : Nat) : Int) - 1) = x % ((2 ^ e : Nat) : Int) := by
  have hp : 0 < 2 ^ e := Nat.pow_pos (by decide)
  have hle : 2 ^ e ≤ 2 ^ 62 := Nat.pow_le_pow_right (by decide) he
  have h127 : (BitVec.ofInt 64 (((2 ^ e : Nat) : Int) - 1)).toNat = 2 ^ e - 1 := by
    rw [BitVec.toNat_ofInt]
    have : ((2 ^ e : Nat) : Int) - 1 = ((2 ^ e - 1 : Nat) : Int) := by omega
    rw [this, ← Int.natCast_emod, Int.toNat_natCast, Nat.mod_eq_of_lt (by omega)]
  have key : (BitVec.ofInt 64 x &&& BitVec.ofInt 64 (((2 ^ e : Nat) : Int) - 1)).toNat = (x % ((2 ^ 64 : Nat) : Int)).toNat % 2 ^ e := by
    rw [BitVec.toNat_and, BitVec.toNat_ofInt, h127, Nat.and_two_pow_sub_one_eq_mod]
  show IntKind.i64.wrap ((BitVec.ofInt 64 x &&& BitVec.ofInt 64 (((2 ^ e : Nat) : Int) - 1)).toNat : Nat) = x % ((2 ^ e : Nat) : Int)
  rw [key, IntKind.wrap_i64]
  have hdvd : ((2 ^ e : Nat) : Int) ∣ ((2 ^ 64 : Nat) : Int) := by
    refine ⟨((2 ^ (64 - e) : Nat) : Int), ?_⟩
    rw [← Int.natCast_mul, ← Nat.pow_add, show e + (64 - e) = 64 by omega]
  have h0 : 0 ≤ x % ((2 ^ 64 : Nat) : Int) := Int.emod_nonneg _ (by decide)
  have h1 : (((x % ((2 ^ 64 : Nat) : Int)).toNat % 2 ^ e : Nat) : Int) = x % ((2 ^ e : Nat) : Int) := by
    rw [Int.natCast_emod, Int.toNat_of_nonneg h0, Int.emod_emod_of_dvd _ hdvd]
  rw [h1]
  have h2 : 0 ≤ x % ((2 ^ e : Nat) : Int) := Int.emod_nonneg _ (by omega)
  have h3 : x % ((2 ^ e : Nat) : Int) < ((2 ^ e : Nat) : Int) := Int.emod_lt_of_pos _ (by omega)
  omega
/-- A number of slots: a power of two, no greater than 2^30. -/
def Pw (n : Nat) : Prop := ∃ e, n = 2 ^ e ∧ e ≤ 30
theorem Pw.pos {n : Nat} (h : Pw n) : 1 ≤ n ∧ n ≤ 1073741824 := by
  obtain ⟨e, rfl, he⟩ := h
  exact ⟨Nat.pow_pos (by decide), Nat.pow_le_pow_right (by decide : 0 < 2) he⟩
theorem next_and {n a : Nat} (h : Pw n) (ha : a < n) : Go.bits .and .i64 ((a : Int) + 1) ((n : Int) - 1) = (((a + 1) % n : Nat) : Int) := by
  obtain ⟨e, rfl, he⟩ := h
  rw [i64_and_pow e (by omega), Int.natCast_emod]
  rfl
theorem away_and {n a b : Nat} (h : Pw n) (ha : a < n) (hb : b < n) : Go.bits .and .i64 ((b : Int) - (a : Int)) ((n : Int) - 1) = ((aw n a b : Nat) : Int) := by
  obtain ⟨e, rfl, he⟩ := h
  rw [i64_and_pow e (by omega)]
  unfold aw
  rw [Int.natCast_emod, show ((b + 2 ^ e - a : Nat) : Int) = ((b : Int) - (a : Int)) + ((2 ^ e : Nat) : Int) by omega, Int.add_emod_right]
/-! ### rows of elements of several cells -/
section
variable {α : Type} {f : α → List Value} {s : Nat}
theorem flat_len (hf : ∀ x, (f x).length = s) (l : List α) : (l.flatMap f).length = l.length * s := by
  induction l with
  | nil => simp
  | cons p r ih => rw [List.flatMap_cons, List.length_append, ih, hf, List.length_cons, Nat.succ_mul, Nat.add_comm]
theorem flat_at (hf : ∀ x, (f x).length = s) (l : List α) (i : Nat) {x : α} (h : l[i]? = some x) (j : Nat) (hj : j < s) : (l.flatMap f)[i * s + j]? = (f x)[j]? := by
  induction l generalizing i with
  | nil => cases h
  | cons p r ih =>
    rw [List.flatMap_cons]
    cases i with
    | zero =>
      simp at h
      subst h
      rw [Nat.zero_mul, Nat.zero_add, List.getElem?_append_left (by rw [hf]; exact hj)]
    | succ i =>
      rw [List.getElem?_cons_succ] at h
      rw [List.getElem?_append_right (by rw [hf, Nat.succ_mul]; omega), hf, show (i + 1) * s + j - s = i * s + j by rw [Nat.succ_mul]; omega]
      exact ih i h
theorem flat_take (hf : ∀ x, (f x).length = s) (l : List α) (i : Nat) : (l.take i).flatMap f = (l.flatMap f).take (i * s) := by
  induction l generalizing i with
  | nil => simp
  | cons p r ih =>
    cases i with
    | zero => simp
    | succ i => rw [List.take_succ_cons, List.flatMap_cons, List.flatMap_cons, ih, List.take_append, hf, List.take_of_length_le (l := f p) (by rw [hf, Nat.succ_mul]; omega), show (i + 1) * s - s = i * s by rw [Nat.succ_mul]; omega]
theorem flat_drop (hf : ∀ x, (f x).length = s) (l : List α) (i : Nat) : (l.drop i).flatMap f = (l.flatMap f).drop (i * s) := by
  induction l generalizing i with
  | nil => simp
  | cons p r ih =>
    cases i with
    | zero => simp
    | succ i => rw [List.drop_succ_cons, List.flatMap_cons, ih, List.drop_append, hf, List.drop_of_length_le (l := f p) (by rw [hf, Nat.succ_mul]; omega), show (i + 1) * s - s = i * s by rw [Nat.succ_mul]; omega, List.nil_append]
theorem flat_set (hf : ∀ x, (f x).length = s) (l : List α) (i : Nat) {x y : α} (h : l[i]? = some x) (j : Nat) (hj : j < s) (u : Value) (hy : f y = (f x).set j u) : (l.set i y).flatMap f = (l.flatMap f).set (i * s + j) u := by
  induction l generalizing i with
  | nil => cases h
  | cons p r ih =>
    cases i with
    | zero =>
      simp at h
      subst h
      rw [List.set_cons_zero, List.flatMap_cons, List.flatMap_cons, hy, List.set_append_left _ _ (by rw [hf]; omega), Nat.zero_mul, Nat.zero_add]
    | succ i =>
      rw [List.getElem?_cons_succ] at h
      rw [List.set_cons_succ, List.flatMap_cons, List.flatMap_cons, ih i h, List.set_append_right _ _ (by rw [hf, Nat.succ_mul]; omega), hf, show (i + 1) * s + j - s = i * s + j by rw [Nat.succ_mul]; omega]
end
/-! ### slots in memory -/
def sCells : Option Ent → List Value
  | none => [.bool false, .string ByteArray.empty, .int .i64 0]
  | some e => [.bool true, .string e.1, .int .i64 e.2]
def sc (L : Slots) : List Value := L.flatMap sCells
theorem sc_f (o : Option Ent) : (sCells o).length = 3 := by cases o <;> rfl
/-- A table: its box, its row of slots. -/
structure TM (w : World) (a g cap : Nat) (L : Slots) (n : Int) : Prop where
  box : Blk w a 42 #[.slice (some ⟨g, 0, none⟩) L.length cap, .int .i64 n]
  row : w.ownsRow 0 45 3 (.slice (some ⟨g, 0, none⟩) L.length cap) L.length (sc L)
section
variable {w w1 : World} {a g cap : Nat} {L : Slots} {n : Int} {T : Nat → Prop}
theorem TM.fp (h : TM w a g cap L n) (hf : Fp T w w1) (ha : ¬ T a) (hg : ¬ T g) : TM w1 a g cap L n := ⟨h.box.fp hf ha, own_fp h.row hf (fun k e => by injection e with e; rw [← e]; exact hg)⟩
theorem TM.go (h : TM w a g cap L n) (hb : Below w.heap.size w w1) : TM w1 a g cap L n := h.fp (Fp.of_below hb (fun _ => False)) (fun e => e) (fun e => e)
theorem TM.ne (h : TM w a g cap L n) : g ≠ a := fun e => own_type h.row h.box (by decide) (by rw [e]; rfl)
theorem TM.glt (h : TM w a g cap L n) : g < w.heap.size := (h.row.lt g rfl).2
/-- A slot, where it lies. -/
theorem TM.at_ (h : TM w a g cap L n) (i : Nat) (hi : i < L.length) : ∃ (b : Bool) (k : Key) (v : Int), w.cell? ⟨g, i * 3, none⟩ = some (.bool b) ∧ w.cell? ⟨g, i * 3 + 1, none⟩ = some (.string k) ∧ w.cell? ⟨g, i * 3 + 2, none⟩ = some (.int .i64 v) ∧ (∀ j, w.frozen? ⟨g, j, none⟩ = false) ∧ gt L i = (if b then some (k, v) else none) ∧ (b = false → k = ByteArray.empty ∧ v = 0) := by
  have hg := List.getElem?_eq_getElem hi
  have h1 : ∀ j, j < 3 → w.cell? ⟨g, i * 3 + j, none⟩ = (sCells L[i])[j]? := fun j hj => by
    rw [h.row.cellAt (i * 3 + j) (by omega)]
    exact flat_at sc_f L i hg j hj
  have h2 := h1 0 (by decide)
  have h3 := h1 1 (by decide)
  have h4 := h1 2 (by decide)
  rw [Nat.add_zero] at h2
  have hgt : gt L i = L[i] := gt_getElem hi
  rw [hgt]
  generalize L[i] = o at *
  cases o with
  | none => exact ⟨false, _, _, h2, h3, h4, fun j => h.row.frozenAt j, rfl, fun _ => ⟨rfl, rfl⟩⟩
  | some e => exact ⟨true, e.1, e.2, h2, h3, h4, fun j => h.row.frozenAt j, rfl, fun e => by cases e⟩
end
set_option maxHeartbeats 3200000 in
theorem place_any (a g cap : Nat) (L : Slots) (n : Int) (k : Key) (w : World) (h : TM w a g cap L n) (hp : Pw L.length) (hk : k.size ≤ 140737488351232) :
    Calls Try.prog 22 #[ptr a, .string k] w fun e w' => e = .returned (.int .i64 ((plc HH L.length k : Nat) : Int)) ∧ Below w.heap.size w w' := by
  have HM := Lib.hid h
  have c0 := h.box.cell 0
  rw [show #[Value.slice (some ⟨g, 0, none⟩) L.length cap, .int .i64 n][0]? = some (.slice (some ⟨g, 0, none⟩) L.length cap) from rfl] at c0
  have HPW := Lib.hid (show 1 ≤ L.length ∧ L.length ≤ 2147483647 by have := hp.pos; omega)
  have hpl : plc HH L.length k = mixN (h32 k) * L.length / 4294967296 := rfl
  rw [hpl]
  clear hpl h hp
  generalize hm : L.length = m at c0 HPW ⊢
  have HMM := Lib.hid hm
  clear hm
  go_enter Try.func22, Try.ntmps22
  go_upto_region 1 with (fail)
  refine start_ (n := 11) (S := (fun W => W.cell? ⟨a, 0, none⟩ = some (.slice (some ⟨g, 0, none⟩) m cap))) (ds := []) #[false, false, false, false, false, false, false, false, false, false, false] (by kernel_rfl) rfl rfl c0 (fun hHeld => ?_)
  refine pure_ (i := 0) (N := (some 5)) (v := ?_) (a' := ?_) #[true, false, false, false, false, false, false, false, false, false, false] rfl rfl (by kernel_rfl) (fun _ _ _ h => h) (Or.inl ⟨by rfl, ?_⟩) ?_ ?_
  rotate_left
  · intro w'
    go_simp
    (try with_reducible rfl)
  rotate_left
  · simp only [Act.put, List.setIfInBounds_toArray, List.set_cons_zero, List.set_cons_succ, i64_w, i32_w]
    rfl
  refine pure_ (i := 4) (N := (some 9)) (v := ?_) (a' := ?_) #[true, false, false, false, true, false, false, false, false, false, false] rfl rfl (by kernel_rfl) (fun _ _ _ h => h) (Or.inl ⟨by rfl, ?_⟩) ?_ ?_
  rotate_left
  · intro w'
    go_simp
    (try with_reducible rfl)
  rotate_left
  · simp only [Act.put, List.setIfInBounds_toArray, List.set_cons_zero, List.set_cons_succ, i64_w, i32_w]
    rfl
  refine pure_ (i := 5) (N := (some 10)) (v := ?_) (a' := ?_) #[true, false, false, false, true, true, false, false, false, false, false] rfl rfl (by kernel_rfl) (fun _ _ _ h => h) (Or.inl ⟨by rfl, ?_⟩) ?_ ?_
  rotate_left
  · intro w'
    go_simp
    (try with_reducible rfl)
  rotate_left
  · simp only [Act.put, List.setIfInBounds_toArray, List.set_cons_zero, List.set_cons_succ, i64_w, i32_w]
    rfl
  refine pure_ (i := 6) (N := (some 11)) (v := ?_) (a' := ?_) #[true, false, false, false, true, true, true, false, false, false, false] rfl rfl (by kernel_rfl) (fun _ _ _ h => h) (Or.inl ⟨by rfl, ?_⟩) ?_ ?_
  rotate_left
  · intro w'
    go_simp
    (try with_reducible rfl)
  rotate_left
  · simp only [Act.put, List.setIfInBounds_toArray, List.set_cons_zero, List.set_cons_succ, i64_w, i32_w]
    rfl
  refine take_ (i := 7) (N := (some 12)) (v := ?_) (a' := ?_) #[true, false, false, false, true, true, true, true, false, false, false] rfl rfl (by kernel_rfl) (fun _ _ _ h => h) (Or.inl ⟨by rfl, ?_⟩) hHeld ?_ ?_
  rotate_left
  · rintro w' s0
    go_simp
    (try with_reducible rfl)
  rotate_left
  · simp only [Act.put, List.setIfInBounds_toArray, List.set_cons_zero, List.set_cons_succ, i64_w, i32_w]
    rfl
  refine pure_ (i := 8) (N := (some 13)) (v := ?_) (a' := ?_) #[true, false, false, false, true, true, true, true, true, false, false] rfl rfl (by kernel_rfl) (fun _ _ _ h => h) (Or.inl ⟨by rfl, ?_⟩) ?_ ?_
  rotate_left
  · intro w'
    go_simp
    (try with_reducible rfl)
  rotate_left
  · simp only [Act.put, List.setIfInBounds_toArray, List.set_cons_zero, List.set_cons_succ, i64_w, i32_w]
    rfl
  have HMD := Lib.hid (HM.out.go (below_drew1 (Below.refl w.heap.size w)))
  have HBD := Lib.hid (below_drew1 (Below.refl w.heap.size w))
  clear c0
  generalize w.drew = wd at *
  refine one_ (i := 1) (N := (some 6)) #[true, true, false, false, true, true, true, true, true, false, false] rfl rfl (by kernel_rfl) (by decide) (fun K hK => ?_)
  refine value_ (w1 := wd.alloc (.cells #[.string k] 9)) (v := .slice (some ⟨wd.heap.size, 0, none⟩) 1 1) (by rfl) rfl (by go_simp) ?_
  have hba := (Below.refl wd.heap.size wd).alloc (Nat.le_refl _) (.cells #[.string k] 9)
  have F0 := (hba.cell (World.block_lt_of_cell? _ _ hHeld)).trans hHeld
  have HB1 := Lib.hid (below_step HBD.out hba)
  have HX1 := Lib.hid (Blk.new wd 9 #[.string k])
  refine hK.out _ _ F0 (fun hHeld => ?_)
  clear hK K F0 hba
  generalize wd.alloc (.cells #[.string k] 9) = w1 at *
  refine norm_ (a' := ?_) ?_ ?_
  rotate_left
  · show Act.put _ (some 6) _ = _
    simp only [Act.put, List.setIfInBounds_toArray, List.set_cons_zero, List.set_cons_succ, i64_w, i32_w]
    rfl
  refine one_ (i := 2) (N := (some 7)) #[true, true, true, false, true, true, true, true, true, false, false] rfl rfl (by kernel_rfl) (by decide) (fun K hK => ?_)
  refine goes_ Try.func28 (by kernel_rfl) rfl #[.slice (some ⟨wd.heap.size, 0, none⟩) 1 1] (by rfl) rfl rfl (by simp [Act.eval]) ?_
  refine (of_one k _ w1 hk HX1.out).mono ?_
  rintro e w2 ⟨rfl, hb⟩
  have HB2 := Lib.hid (below_step HB1.out hb)
  have F0 := (hb.cell (World.block_lt_of_cell? _ _ hHeld)).trans hHeld
  refine ⟨_, rfl, hK.out _ _ F0 (fun hHeld => ?_)⟩
  clear hK K F0 hb
  refine norm_ (a' := ?_) ?_ ?_
  rotate_left
  · show Act.put _ (some 7) _ = _
    simp only [Act.put, List.setIfInBounds_toArray, List.set_cons_zero, List.set_cons_succ, i64_w, i32_w]
    rfl
  refine one_ (i := 3) (N := (some 8)) #[true, true, true, true, true, true, true, true, true, false, false] rfl rfl (by kernel_rfl) (by decide) (fun K hK => ?_)
  refine goes_ Try.func27 (by kernel_rfl) rfl #[.int .u32 ((h32 k : Nat) : Int)] (by rfl) rfl rfl (by simp [Act.eval]) ?_
  refine (mix_one (h32 k) w2 (h32_eq k).2).mono ?_
  rintro e w3 ⟨rfl, hb⟩
  have HB3 := Lib.hid (below_step HB2.out hb)
  have F0 := (hb.cell (World.block_lt_of_cell? _ _ hHeld)).trans hHeld
  refine ⟨_, rfl, hK.out _ _ F0 (fun hHeld => ?_)⟩
  clear hK K F0 hb
  refine norm_ (a' := ?_) ?_ ?_
  rotate_left
  · show Act.put _ (some 8) _ = _
    simp only [Act.put, List.setIfInBounds_toArray, List.set_cons_zero, List.set_cons_succ, i64_w, i32_w]
    rfl
  refine one_ (i := 9) (N := (some 14)) #[true, true, true, true, true, true, true, true, true, true, false] rfl rfl (by kernel_rfl) (by decide) (fun K hK => ?_)
  refine goes_ Try.func26 (by kernel_rfl) rfl #[.int .u32 ((mixN (h32 k) : Nat) : Int), .int .i64 (m : Int)] (by rfl) rfl rfl (by simp [Act.eval]) ?_
  refine (slot_one (mixN (h32 k)) m w3 (mixN_lt _) HPW.out.1 HPW.out.2).mono ?_
  rintro e w4 ⟨rfl, hb⟩
  have HB4 := Lib.hid (below_step HB3.out hb)
  have F0 := (hb.cell (World.block_lt_of_cell? _ _ hHeld)).trans hHeld
  refine ⟨_, rfl, hK.out _ _ F0 (fun hHeld => ?_)⟩
  clear hK K F0 hb
  refine norm_ (a' := ?_) ?_ ?_
  rotate_left
  · show Act.put _ (some 14) _ = _
    simp only [Act.put, List.setIfInBounds_toArray, List.set_cons_zero, List.set_cons_succ, i64_w, i32_w]
    rfl
  refine pure_ (i := 10) (N := (some 4)) (v := ?_) (a' := ?_) #[true, true, true, true, true, true, true, true, true, true, true] rfl rfl (by kernel_rfl) (fun _ _ _ h => h) (Or.inl ⟨by rfl, ?_⟩) ?_ ?_
  rotate_left
  · intro w'
    go_simp
    (try with_reducible rfl)
  rotate_left
  · simp only [Act.put, List.setIfInBounds_toArray, List.set_cons_zero, List.set_cons_succ, i64_w, i32_w]
    rfl
  refine done_ (by kernel_rfl) ?_
  clear hHeld
  go_wp2_with fail
  go_ret
  exact ⟨rfl, HB4.out⟩
set_option maxHeartbeats 3200000 in
theorem next_any (a g cap : Nat) (L : Slots) (n : Int) (i : Nat) (w : World) (h : TM w a g cap L n) (hp : Pw L.length) (hi : i < L.length) :
    Calls Try.prog 21 #[ptr a, .int .i64 (i : Int)] w fun e w' => e = .returned (.int .i64 (((i + 1) % L.length : Nat) : Int)) ∧ w' = w := by
  have c0 := h.box.cell 0
  rw [show #[Value.slice (some ⟨g, 0, none⟩) L.length cap, .int .i64 n][0]? = some (.slice (some ⟨g, 0, none⟩) L.length cap) from rfl] at c0
  have hps := hp.pos
  have ha := next_and hp hi
  generalize (i + 1) % L.length = r at *
  generalize L.length = m at *
  have h1 : (i : Int) + 1 ≤ 2000000000 := by omega
  have h2 : (m : Int) ≤ 1073741824 := by omega
  have h3 : (1 : Int) ≤ (m : Int) := by omega
  clear h hp hi hps
  go_enter Try.func21, Try.ntmps21
  go_wp2_with fail
  go_ret
  exact ⟨rfl, rfl⟩
set_option maxHeartbeats 3200000 in
theorem away_any (a g cap : Nat) (L : Slots) (n : Int) (i j : Nat) (w : World) (h : TM w a g cap L n) (hp : Pw L.length) (hi : i < L.length) (hj : j < L.length) :
    Calls Try.prog 23 #[ptr a, .int .i64 (i : Int), .int .i64 (j : Int)] w fun e w' => e = .returned (.int .i64 ((aw L.length i j : Nat) : Int)) ∧ w' = w := by
  have c0 := h.box.cell 0
  rw [show #[Value.slice (some ⟨g, 0, none⟩) L.length cap, .int .i64 n][0]? = some (.slice (some ⟨g, 0, none⟩) L.length cap) from rfl] at c0
  have hps := hp.pos
  have ha := away_and hp hi hj
  generalize aw L.length i j = r at *
  generalize L.length = m at *
  have h1 : (i : Int) ≤ 2000000000 := by omega
  have h1' : (j : Int) ≤ 2000000000 := by omega
  have h2 : (m : Int) ≤ 1073741824 := by omega
  have h3 : (1 : Int) ≤ (m : Int) := by omega
  clear h hp hi hj hps
  go_enter Try.func23, Try.ntmps23
  go_wp2_with fail
  go_ret
  exact ⟨rfl, rfl⟩
end Go.Proofs.Ytfpnedooipfpoaa.Base
