/- Of two texts that differ in one byte the hashes are unlike. Conditions: none beyond the row's own. -/
import Derived.Test.YtjkjlkmhaebpcaaParts
import Derived.Laws.IdiomStrings
import Derived.Laws.BytesArg
import Derived.Lib.Strings
namespace Go.Proofs.Ytjkjlkmhaebpcaa.Byte
open Go Go.RowKit Go.Proofs.Ytjkjlkmhaebpcaa.PHashBack Go.Proofs.YtjkjlkmhaebpcaaW.PrintWords Go.Proofs.YtjkjlkmhaebpcaaW.PrintLast Go.Proofs.YtjkjlkmhaebpcaaW.PrintMore Go.Proofs.Ytjkjlkmhaebpcaa.Math Go.Proofs.Ytjkjlkmhaebpcaa.Within Go.Proofs.Ytjkjlkmhaebpcaa.Parts
theorem inv_prime (x : Nat) (h : x < 4294967296) : x * 16777619 % 4294967296 * 899433627 % 4294967296 = x := by omega
theorem step_nat (h b : Nat) (hh : h < 4294967296) (hb : b < 256) : Math.step (h : Int) (b : Int) = (((h ^^^ b) * 16777619 % 4294967296 : Nat) : Int) := by
  unfold Math.step
  rw [Int.emod_eq_of_lt (a := (b : Int)) (by omega) (by omega), u32x h b hh (by omega)]
  omega
theorem step_inj (h k b c : Nat) (hh : h < 4294967296) (hk : k < 4294967296) (hb : b < 256) (hc : c < 256) (e : Math.step (h : Int) (b : Int) = Math.step (k : Int) (c : Int)) : h ^^^ b = k ^^^ c := by
  rw [step_nat h b hh hb, step_nat k c hk hc] at e
  have e' : (h ^^^ b) * 16777619 % 4294967296 = (k ^^^ c) * 16777619 % 4294967296 := by exact_mod_cast e
  rw [← inv_prime (h ^^^ b) (xlt _ _ hh (by omega)), ← inv_prime (k ^^^ c) (xlt _ _ hk (by omega)), e']
theorem step_form (h : Int) (b : Int) : ∃ n : Nat, Math.step h b = (n : Int) ∧ n < 4294967296 := by
  have := step_range h b
  exact ⟨(Math.step h b).toNat, by omega, by omega⟩
theorem fnv_inj (l : List UInt8) : ∀ (h k : Nat), h < 4294967296 → k < 4294967296 → fnv (h : Int) l = fnv (k : Int) l → h = k := by
  induction l with
  | nil => intro h k _ _ e; have e' : (h : Int) = (k : Int) := e; omega
  | cons b l ih =>
    intro h k hh hk e
    have hb : b.toNat < 256 := b.toNat_lt
    obtain ⟨n, hn, hn'⟩ := step_form (h : Int) (b.toNat : Int)
    obtain ⟨m, hm, hm'⟩ := step_form (k : Int) (b.toNat : Int)
    have e' : fnv (Math.step (h : Int) (b.toNat : Int)) l = fnv (Math.step (k : Int) (b.toNat : Int)) l := e
    rw [hn, hm] at e'
    obtain rfl := ih n m hn' hm' e'
    have := step_inj h k _ _ hh hk hb hb (hn.trans hm.symm)
    have h2 : (h ^^^ b.toNat) ^^^ b.toNat = (k ^^^ b.toNat) ^^^ b.toNat := by rw [this]
    rwa [Nat.xor_assoc, Nat.xor_self, Nat.xor_zero, Nat.xor_assoc, Nat.xor_self, Nat.xor_zero] at h2
theorem fnv_form (l : List UInt8) : ∀ (h : Nat), h < 4294967296 → ∃ n : Nat, fnv (h : Int) l = (n : Int) ∧ n < 4294967296 := by
  induction l with
  | nil => intro h hh; exact ⟨h, rfl, hh⟩
  | cons b l ih =>
    intro h hh
    obtain ⟨n, hn, hn'⟩ := step_form (h : Int) (b.toNat : Int)
    obtain ⟨m, hm, hm'⟩ := ih n hn'
    refine ⟨m, ?_, hm'⟩
    rw [← hm, ← hn]; rfl
theorem fnv_differs (A C : List UInt8) (b c : UInt8) (hbc : b ≠ c) (h : Nat) (hh : h < 4294967296) : fnv (h : Int) (A ++ b :: C) ≠ fnv (h : Int) (A ++ c :: C) := by
  intro e
  rw [fnv_append, fnv_append] at e
  obtain ⟨n, hn, hn'⟩ := fnv_form A h hh
  rw [hn] at e
  obtain ⟨x, hx, hx'⟩ := step_form (n : Int) (b.toNat : Int)
  obtain ⟨y, hy, hy'⟩ := step_form (n : Int) (c.toNat : Int)
  have e' : fnv (Math.step (n : Int) (b.toNat : Int)) C = fnv (Math.step (n : Int) (c.toNat : Int)) C := e
  rw [hx, hy] at e'
  obtain rfl := fnv_inj C x y hx' hy' e'
  have := step_inj n n _ _ hn' hn' b.toNat_lt c.toNat_lt (hx.trans hy.symm)
  have h2 : n ^^^ (n ^^^ b.toNat) = n ^^^ (n ^^^ c.toNat) := by rw [this]
  rw [← Nat.xor_assoc, ← Nat.xor_assoc, Nat.xor_self, Nat.zero_xor, Nat.zero_xor] at h2
  exact hbc (UInt8.toNat_inj.mp h2)
/-- The bytes with one of them turned. -/
def turned (s : ByteArray) (i : Nat) (v : Int) : List Int := (s.data.toList.map fun b => (b.toNat : Int)).set i v
theorem turned_hash (s : ByteArray) (i : Nat) (hi : i < s.size) (v m : Int) (hv : v = Go.bits .xor .u8 (((s.data.toList.getD i 0).toNat : Nat) : Int) m) (m0 : 0 < m) (m1 : m < 256) :
    fnvs 2166136261 [strOfNums (turned s i v)] ≠ fnvs 2166136261 [s] := by
  have hi' : i < s.data.toList.length := by simpa using hi
  have hg : s.data.toList.getD i 0 = s.data.toList[i] := by simp [List.getD_eq_getElem?_getD, List.getElem?_eq_getElem hi']
  obtain ⟨n, rfl⟩ := Int.eq_ofNat_of_zero_le (by omega : 0 ≤ m)
  rw [hg, u8_xor_nat _ _ (s.data.toList[i]).toNat_lt (by omega)] at hv
  have hn : (s.data.toList[i]).toNat ^^^ n < 256 := Nat.xor_lt_two_pow (n := 8) (s.data.toList[i]).toNat_lt (by omega)
  have hd : (strOfNums (turned s i v)).data.toList = s.data.toList.set i (UInt8.ofNat ((s.data.toList[i]).toNat ^^^ n)) := by
    rw [strOfNums_data, turned, List.map_set, List.map_map, hv]
    congr 1
    · conv => rhs; rw [← List.map_id s.data.toList]
      apply List.map_congr_left
      intro b _
      simp
  have h1 : s.data.toList = s.data.toList.take i ++ s.data.toList[i] :: s.data.toList.drop (i + 1) := by
    rw [← List.drop_eq_getElem_cons hi', List.take_append_drop]
  show fnv 2166136261 (strOfNums (turned s i v)).data.toList ≠ fnv 2166136261 s.data.toList
  rw [hd, List.set_eq_take_append_cons_drop, if_pos hi']
  conv => rhs; rw [h1]
  refine fnv_differs _ _ _ _ ?_ 2166136261 (by decide)
  intro e
  have e2 := congrArg UInt8.toNat e
  rw [show (UInt8.ofNat ((s.data.toList[i]).toNat ^^^ n)).toNat = (s.data.toList[i]).toNat ^^^ n from by rw [UInt8.toNat_ofNat', Nat.mod_eq_of_lt hn]] at e2
  have h2 : (s.data.toList[i]).toNat ^^^ ((s.data.toList[i]).toNat ^^^ n) = (s.data.toList[i]).toNat ^^^ (s.data.toList[i]).toNat := by rw [e2]
  rw [← Nat.xor_assoc, Nat.xor_self, Nat.zero_xor] at h2
  omega
theorem at_size (a : Int) (n : Int) (h0 : 0 < n) (h : n ≤ 140737488351232) : ∃ i : Nat, wrap64 ((IntKind.u64.wrap a).tmod n) = (i : Int) ∧ (i : Int) < n := by
  rw [wrap_u64, Int.tmod_eq_emod_of_nonneg (by omega)]
  have p := Int.emod_nonneg (a % 18446744073709551616) (b := n) (by omega)
  have q := Int.emod_lt_of_pos (a % 18446744073709551616) (b := n) (by omega)
  refine ⟨(a % 18446744073709551616 % n).toNat, ?_, by omega⟩
  unfold wrap64
  omega
/-- '[]byte(s)', by what is good for. -/
theorem bytes_run (B : Nat) (w0 w : World) (s : ByteArray) (hb : Kp B w0 w) : ∃ (c : Nat) (w' : World), (convert 9 32 (.string s)).run Try.prog w = .ok (.slice (some ⟨w.heap.size, 0, none⟩) s.size c) w' ∧
    Kp B w0 w' ∧ w.heap.size < w'.heap.size ∧ (∀ j, j < s.size → w'.cell? ⟨w.heap.size, j, none⟩ = some (.int .u8 ((s.data.toList.getD j 0).toNat : Nat))) ∧ (∀ j, j < s.size → w'.frozen? ⟨w.heap.size, j, none⟩ = false) := by
  refine ⟨_, _, run_bytes_of_string w 9 32 5 s Try.underlying9 Try.underlying32 Try.underlying5, hb.drew.alloc _, by simp, fun j hj => ?_, fun j hj => ?_⟩
  · simp [World.cell?, World.alloc, World.drew, bytesRow, Array.getElem?_append, List.getD, hj, -World.alloc_eq, -World.drew_eq]
  · have : s.size ≤ (bytesRow s (grownCap w s.size 0 5)).size := by simp [bytesRow]
    simp [World.frozen?, World.alloc, World.drew, -World.alloc_eq, -World.drew_eq]
    omega
theorem back_run (s : ByteArray) (i : Nat) (v : Int) (w2 : World) (b c : Nat) (hi : i < s.size) (hcell : ∀ j, j < s.size → w2.cell? ⟨b, j, none⟩ = some (.int .u8 ((s.data.toList.getD j 0).toNat : Nat))) :
    (convert 32 9 (.slice (some ⟨b, 0, none⟩) s.size c)).run Try.prog (w2.setCell ⟨b, i, none⟩ (.int .u8 v)) = .ok (.string (strOfNums (turned s i v))) (w2.setCell ⟨b, i, none⟩ (.int .u8 v)) := by
  refine run_convert_bytes_arg _ 32 5 Try.underlying32 Try.underlying5 b 0 s.size c (turned s i v) (by simp [turned]) (fun j hj => ?_) 9 Try.underlying9
  rw [Nat.zero_add]
  by_cases e : j = i
  · subst e
    rw [World.cell?_setCell_same _ _ _ (hcell j hj)]
    simp [turned, List.getD_eq_getElem?_getD, hj]
  · rw [World.cell?_setCell_other _ _ _ _ (fun h => e (by simpa using h.symm)), hcell j hj]
    have hne : ¬ i = j := fun h => e h.symm
    simp [turned, List.getD_eq_getElem?_getD, hne, hj]
theorem turned_size (s : ByteArray) (i : Nat) (v : Int) : (strOfNums (turned s i v)).size = s.size := by simp [strOfNums_size, turned]
theorem of1 (B : Nat) (w0 : World) (b : Nat) (s0 : ByteArray) (x : Int) (w : World) (hx : fnvs 2166136261 [s0] = x) (z0 : s0.size ≤ 140737488351232)
    (h0 : w.cell? ⟨b, 0, none⟩ = some (.string s0)) (hb : Kp B w0 w) :
    Calls Try.prog 13 #[.slice (some ⟨b, 0, none⟩) 1 1] w fun e w' => e = .returned (.int .u32 x) ∧ Kp B w0 w' :=
  of_is B w0 _ 1 [s0] x w (kd1 h0) (by simp) hx (by simp) (by intro t ht; simp at ht; subst ht; exact z0) hb
theorem kp_set {B : Nat} {w0 w : World} (h : Kp B w0 w) {a : Addr} (ha : B ≤ a.block) (v : Value) : Kp B w0 (w.setCell a v) := ⟨h.below.setCell ha v, by have := h.size; simpa [World.setCell] using this⟩
set_option maxHeartbeats 8000000 in
set_option maxRecDepth 100000 in
theorem byte_long (s : ByteArray) (a m : Int) (w : World) (hs : s.size ≤ 140737488351232) (h : 5000 < s.size ∨ s.size = 0 ∨ m = 0) :
    Calls Try.prog 6 #[.string s, .int .i64 a, .int .u8 m] w fun e w' => e = .returned (.bool true) ∧ Below w.heap.size w w' := by
  have HK : Kp w.heap.size w w := ⟨Below.refl _ _, Nat.le_refl _⟩
  have hlen : s.data.toList.length = s.size := by simp
  have he0 : s.size = 0 → s.toList.isEmpty = true := fun h => by rw [Lib.toList_data, List.eq_nil_of_length_eq_zero (hlen.trans h)]; rfl
  have he1 : s.size ≠ 0 → s.toList.isEmpty = false := fun h => by
    rw [Lib.toList_data]
    cases hh : s.data.toList with
    | nil => rw [hh] at hlen; exact absurd hlen.symm h
    | cons x l => rfl
  have hc : (5000 < s.size) ∨ (s.size ≤ 5000 ∧ s.toList.isEmpty = true) ∨ (s.size ≤ 5000 ∧ s.toList.isEmpty = false ∧ (m == 0) = true) := by
    by_cases h1 : 5000 < s.size
    · exact .inl h1
    · by_cases h2 : s.size = 0
      · exact .inr (.inl ⟨by omega, he0 h2⟩)
      · exact .inr (.inr ⟨by omega, he1 h2, beq_iff_eq.mpr (by omega)⟩)
  clear hlen he0 he1 h
  rcases hc with h1 | ⟨h1, h2⟩ | ⟨h1, h2, h3⟩
  all_goals
    go_enter Try.func6, Try.ntmps6
    go_wp2_with fail
    refine (awake_is _ _ _ HK).mono ?_
    clear HK
    rintro e w1 ⟨rfl, HK⟩
    go_wp2_with fail
    go_ret
    exact ⟨rfl, HK.below⟩
set_option maxHeartbeats 8000000 in
set_option maxRecDepth 100000 in
theorem byte_any (s : ByteArray) (a m : Int) (w : World) (h1 : s.size ≤ 5000) (h2 : 0 < s.size) (m0 : 0 < m) (m1 : m < 256) :
    Calls Try.prog 6 #[.string s, .int .i64 a, .int .u8 m] w fun e w' => e = .returned (.bool true) ∧ Below w.heap.size w w' := by
  have HK : Kp w.heap.size w w := ⟨Below.refl _ _, Nat.le_refl _⟩
  obtain ⟨i, hi, i1⟩ := at_size a s.size (by omega) (by omega)
  have he : s.toList.isEmpty = false := by
    rw [Lib.toList_data]
    have : s.data.toList.length = s.size := by simp
    cases hh : s.data.toList with
    | nil => rw [hh] at this; simp at this; omega
    | cons x l => rfl
  have hm : (m == 0) = false := beq_eq_false_iff_ne.mpr (by omega)
  have m1' := Lib.hid m1
  have m0' := Lib.hid m0
  clear m0 m1
  go_enter Try.func6, Try.ntmps6
  go_wp2_with fail
  refine (awake_is _ _ _ HK).mono ?_
  clear HK
  rintro e w1 ⟨rfl, HK⟩
  obtain ⟨c, w2, hrun, HK2, hs2, hcell, hfroz⟩ := bytes_run _ _ _ s HK
  have hB := HK.size
  clear HK
  have hc := hcell i (by omega)
  have hf := hfroz i (by omega)
  have HC := Lib.hid hcell
  clear hcell hfroz
  obtain ⟨v, hv⟩ : ∃ v, Go.bits .xor .u8 (((s.data.toList.getD i 0).toNat : Nat) : Int) m = v := ⟨_, rfl⟩
  have hne := Lib.hid (turned_hash s i (by omega) v m hv.symm m0'.out m1'.out)
  have hrun2 := back_run s i v w2 w1.heap.size c (by omega) HC.out
  have HV := Lib.hid hv
  obtain ⟨b, hb⟩ : ∃ b, (s.data.toList.getD i 0).toNat = b := ⟨_, rfl⟩
  rw [hb] at hc hv
  clear hb
  have zt : (strOfNums (turned s i v)).size ≤ 140737488351232 := by rw [turned_size]; omega
  generalize strOfNums (turned s i v) = tl at *
  go_wp2_with fail
  have X := hne.out
  generalize hx : fnvs 2166136261 [tl] = x at X
  generalize hy : fnvs 2166136261 [s] = y at X
  have HX := Lib.hid hx
  have HY := Lib.hid hy
  have hxy : (x != y) = true := bne_iff_ne.mpr X
  clear hx hy X hne
  refine (of1 w.heap.size w _ tl x _ HX.out zt (by go_simp) ((kp_set HK2 hB _).alloc _)).mono ?_
  clear HK2
  rintro e w3 ⟨rfl, HK⟩
  go_wp2_with fail
  refine (of1 w.heap.size w _ s y _ HY.out (by omega) (by simp) (HK.alloc _)).mono ?_
  clear HK
  rintro e w4 ⟨rfl, HK⟩
  go_wp2_with fail
  go_ret
  exact ⟨rfl, HK.below⟩
theorem core (s : ByteArray) (a m : Int) (w : World) (hs : s.size ≤ 140737488351232) (_ : (Lit.int .i64 a).wf = true) (hm : (Lit.int .u8 m).wf = true) :
    Calls Try.prog 6 #[.string s, .int .i64 a, .int .u8 m] w fun e w' => e = .returned (.bool true) ∧ Below w.heap.size w w' := by
  have bm : 0 ≤ m ∧ m < 256 := by
    simp [Lit.wf, IntKind.min, IntKind.max, IntKind.signed, IntKind.bits] at hm
    omega
  by_cases h : 5000 < s.size ∨ s.size = 0 ∨ m = 0
  · exact byte_long s a m w hs h
  · exact byte_any s a m w (by omega) (by omega) (by omega) bm.2
end Go.Proofs.Ytjkjlkmhaebpcaa.Byte
