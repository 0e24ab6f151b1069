/- Plain facts about 32-bit numbers and about the hash of bytes: no program stands here. -/
import Derived.Laws.BitsAllLaws
import Derived.Test.YtfpnedooipfpoaaWWords
import Derived.Test.YtfpnedooipfpoaaWMore
namespace Go.Proofs.Ytfpnedooipfpoaa.Math
set_option linter.unusedVariables false
open Go Go.RowKit Go.Proofs.YtfpnedooipfpoaaW.PrintWords Go.Proofs.YtfpnedooipfpoaaW.PrintMore

theorem wf_u32 {a : Int} (h : (Lit.int .u32 a).wf = true) : 0 ≤ a ∧ a < 4294967296 := by
  simp [Lit.wf, IntKind.min, IntKind.max, IntKind.signed, IntKind.bits] at h
  omega
theorem wf_i64 {a : Int} (h : (Lit.int .i64 a).wf = true) : -9223372036854775808 ≤ a ∧ a < 9223372036854775808 := by
  simp [Lit.wf, IntKind.min, IntKind.max, IntKind.signed, IntKind.bits] at h
  omega
theorem wrap_u64 (n : Int) : IntKind.u64.wrap n = n % 18446744073709551616 := by simp [IntKind.wrap, IntKind.bits, IntKind.signed]

/-- One step over a byte. -/
def step (h : Int) (b : Int) : Int := ((bits .xor .u32 h (b % 4294967296)) * 16777619) % 4294967296
/-- The hash of bytes behind a hash. -/
def fnv (h : Int) (l : List UInt8) : Int := l.foldl (fun a b => step a (b.toNat : Int)) h
theorem fnv_append (h : Int) (l m : List UInt8) : fnv h (l ++ m) = fnv (fnv h l) m := by unfold fnv; exact List.foldl_append
theorem step_range (h b : Int) : 0 ≤ step h b ∧ step h b < 4294967296 := by unfold step; omega

/-! ### mixing -/
theorem xs16 (a : Nat) (h : a < 4294967296) : (a ^^^ a / 65536) ^^^ (a ^^^ a / 65536) / 65536 = a := by
  have e (x : Nat) : x / 65536 = x >>> 16 := by rw [Nat.shiftRight_eq_div_pow]
  rw [e, e, Nat.shiftRight_xor_distrib, ← Nat.shiftRight_add]
  have z : a >>> (16 + 16) = 0 := by rw [Nat.shiftRight_eq_div_pow]; exact Nat.div_eq_of_lt h
  rw [z, Nat.xor_zero, Nat.xor_assoc, Nat.xor_self, Nat.xor_zero]
theorem xs13 (a : Nat) (h : a < 4294967296) : ((a ^^^ a / 8192) ^^^ (((a ^^^ a / 8192) / 8192) ^^^ ((a ^^^ a / 8192) / 67108864))) = a := by
  have e (x : Nat) : x / 8192 = x >>> 13 := by rw [Nat.shiftRight_eq_div_pow]
  have f (x : Nat) : x / 67108864 = x >>> 26 := by rw [Nat.shiftRight_eq_div_pow]
  rw [e, e, f, Nat.shiftRight_xor_distrib, Nat.shiftRight_xor_distrib, ← Nat.shiftRight_add, ← Nat.shiftRight_add]
  have z : a >>> (13 + 26) = 0 := by rw [Nat.shiftRight_eq_div_pow]; exact Nat.div_eq_of_lt (by omega)
  rw [z, Nat.xor_zero]
  generalize a >>> 13 = p
  show _ ^^^ ((p ^^^ a >>> 26) ^^^ a >>> 26) = a
  rw [Nat.xor_assoc p, Nat.xor_self, Nat.xor_zero, Nat.xor_assoc, Nat.xor_self, Nat.xor_zero]
theorem xs13' (a : Nat) (h : a < 4294967296) : (a ^^^ (a / 8192 ^^^ a / 67108864)) ^^^ (a ^^^ (a / 8192 ^^^ a / 67108864)) / 8192 = a := by
  have e (x : Nat) : x / 8192 = x >>> 13 := by rw [Nat.shiftRight_eq_div_pow]
  have f (x : Nat) : x / 67108864 = x >>> 26 := by rw [Nat.shiftRight_eq_div_pow]
  rw [e, e, f, Nat.shiftRight_xor_distrib, Nat.shiftRight_xor_distrib, ← Nat.shiftRight_add, ← Nat.shiftRight_add]
  have z : a >>> (26 + 13) = 0 := by rw [Nat.shiftRight_eq_div_pow]; exact Nat.div_eq_of_lt (by omega)
  rw [z, Nat.xor_zero]
  show (a ^^^ (a >>> 13 ^^^ a >>> 26)) ^^^ (a >>> 13 ^^^ a >>> 26) = a
  rw [Nat.xor_assoc, Nat.xor_self, Nat.xor_zero]
theorem xlt (a b : Nat) (h : a < 4294967296) (k : b < 4294967296) : a ^^^ b < 4294967296 := Nat.xor_lt_two_pow (n := 32) h k
def mixN (h : Nat) : Nat :=
  let a := (h ^^^ h / 65536) * 2246822507 % 4294967296
  let b := (a ^^^ a / 8192) * 3266489909 % 4294967296
  b ^^^ b / 65536
def backN (h : Nat) : Nat :=
  let a := (h ^^^ h / 65536) * 2127672349 % 4294967296
  let b := (a ^^^ (a / 8192 ^^^ a / 67108864)) * 2781581891 % 4294967296
  b ^^^ b / 65536
theorem inv1 (x : Nat) (h : x < 4294967296) : x * 2246822507 % 4294967296 * 2781581891 % 4294967296 = x := by omega
theorem inv1' (x : Nat) (h : x < 4294967296) : x * 2781581891 % 4294967296 * 2246822507 % 4294967296 = x := by omega
theorem inv2 (x : Nat) (h : x < 4294967296) : x * 3266489909 % 4294967296 * 2127672349 % 4294967296 = x := by omega
theorem inv2' (x : Nat) (h : x < 4294967296) : x * 2127672349 % 4294967296 * 3266489909 % 4294967296 = x := by omega
theorem mixN_lt (h : Nat) : mixN h < 4294967296 := xlt _ _ (Nat.mod_lt _ (by decide)) (by omega)
theorem backN_lt (h : Nat) : backN h < 4294967296 := xlt _ _ (Nat.mod_lt _ (by decide)) (by omega)
theorem back_mix (h : Nat) (k : h < 4294967296) : backN (mixN h) = h := by
  unfold backN mixN
  simp only []
  rw [xs16 _ (Nat.mod_lt _ (by decide)), inv2 _ (xlt _ _ (Nat.mod_lt _ (by decide)) (by omega)), xs13 _ (Nat.mod_lt _ (by decide)), inv1 _ (xlt _ _ k (by omega)), xs16 _ k]
theorem mix_back (h : Nat) (k : h < 4294967296) : mixN (backN h) = h := by
  unfold backN mixN
  simp only []
  rw [xs16 _ (Nat.mod_lt _ (by decide)), inv1' _ (xlt _ _ (Nat.mod_lt _ (by decide)) (xlt _ _ (by omega) (by omega))), xs13' _ (Nat.mod_lt _ (by decide)), inv2' _ (xlt _ _ k (by omega)), xs16 _ k]

/-! ### the program's own spellings -/
theorem u32x (a b : Nat) (h : a < 4294967296) (k : b < 4294967296) : bits .xor .u32 (a : Int) (b : Int) = ((a ^^^ b : Nat) : Int) := u32_xor_nat a b h k
theorem mix_int (n : Nat) (h : n < 4294967296) : Go.bits .xor .u32 (((Go.bits .xor .u32 (((Go.bits .xor .u32 (n : Int) ((n : Int) / 65536)) * 2246822507) % 4294967296) ((((Go.bits .xor .u32 (n : Int) ((n : Int) / 65536)) * 2246822507) % 4294967296) / 8192)) * 3266489909) % 4294967296) ((((Go.bits .xor .u32 (((Go.bits .xor .u32 (n : Int) ((n : Int) / 65536)) * 2246822507) % 4294967296) ((((Go.bits .xor .u32 (n : Int) ((n : Int) / 65536)) * 2246822507) % 4294967296) / 8192)) * 3266489909) % 4294967296) / 65536) = ((mixN n : Nat) : Int) := by
  have c1 : (n : Int) / 65536 = ((n / 65536 : Nat) : Int) := by omega
  rw [c1, u32x _ _ h (by omega)]
  have c2 : ((n ^^^ n / 65536 : Nat) : Int) * 2246822507 % 4294967296 = (((n ^^^ n / 65536) * 2246822507 % 4294967296 : Nat) : Int) := by omega
  rw [c2]
  generalize ha : (n ^^^ n / 65536) * 2246822507 % 4294967296 = a
  have la : a < 4294967296 := by omega
  have c3 : (a : Int) / 8192 = ((a / 8192 : Nat) : Int) := by omega
  rw [c3, u32x _ _ la (by omega)]
  have c4 : ((a ^^^ a / 8192 : Nat) : Int) * 3266489909 % 4294967296 = (((a ^^^ a / 8192) * 3266489909 % 4294967296 : Nat) : Int) := by omega
  rw [c4]
  generalize hb : (a ^^^ a / 8192) * 3266489909 % 4294967296 = b
  have lb : b < 4294967296 := by omega
  have c5 : (b : Int) / 65536 = ((b / 65536 : Nat) : Int) := by omega
  rw [c5, u32x _ _ lb (by omega)]
  simp only [mixN, ha, hb]
theorem back_int (n : Nat) (h : n < 4294967296) : Go.bits .xor .u32 (((Go.bits .xor .u32 (((Go.bits .xor .u32 (n : Int) ((n : Int) / 65536)) * 2127672349) % 4294967296) (Go.bits .xor .u32 ((((Go.bits .xor .u32 (n : Int) ((n : Int) / 65536)) * 2127672349) % 4294967296) / 8192) ((((Go.bits .xor .u32 (n : Int) ((n : Int) / 65536)) * 2127672349) % 4294967296) / 67108864))) * 2781581891) % 4294967296) ((((Go.bits .xor .u32 (((Go.bits .xor .u32 (n : Int) ((n : Int) / 65536)) * 2127672349) % 4294967296) (Go.bits .xor .u32 ((((Go.bits .xor .u32 (n : Int) ((n : Int) / 65536)) * 2127672349) % 4294967296) / 8192) ((((Go.bits .xor .u32 (n : Int) ((n : Int) / 65536)) * 2127672349) % 4294967296) / 67108864))) * 2781581891) % 4294967296) / 65536) = ((backN n : Nat) : Int) := by
  have c1 : (n : Int) / 65536 = ((n / 65536 : Nat) : Int) := by omega
  rw [c1, u32x _ _ h (by omega)]
  have c2 : ((n ^^^ n / 65536 : Nat) : Int) * 2127672349 % 4294967296 = (((n ^^^ n / 65536) * 2127672349 % 4294967296 : Nat) : Int) := by omega
  rw [c2]
  generalize ha : (n ^^^ n / 65536) * 2127672349 % 4294967296 = a
  have la : a < 4294967296 := by omega
  have c3 : (a : Int) / 8192 = ((a / 8192 : Nat) : Int) := by omega
  have c3' : (a : Int) / 67108864 = ((a / 67108864 : Nat) : Int) := by omega
  rw [c3, c3', u32x _ _ (by omega) (by omega), u32x _ _ la (xlt _ _ (by omega) (by omega))]
  have c4 : ((a ^^^ (a / 8192 ^^^ a / 67108864) : Nat) : Int) * 2781581891 % 4294967296 = (((a ^^^ (a / 8192 ^^^ a / 67108864)) * 2781581891 % 4294967296 : Nat) : Int) := by omega
  rw [c4]
  generalize hb : (a ^^^ (a / 8192 ^^^ a / 67108864)) * 2781581891 % 4294967296 = b
  have lb : b < 4294967296 := by omega
  have c5 : (b : Int) / 65536 = ((b / 65536 : Nat) : Int) := by omega
  rw [c5, u32x _ _ lb (by omega)]
  simp only [backN, ha, hb]

/-! ### rows -/
theorem mul_bound (a n : Int) (h : 0 ≤ a) (h' : a < 4294967296) (hn : 0 ≤ n) (hn' : n ≤ 2147483647) : 0 ≤ a * n ∧ a * n ≤ 4294967295 * 2147483647 :=
  ⟨Int.mul_nonneg h hn, Int.mul_le_mul (by omega) hn' hn (by omega)⟩
theorem slot_int (a n : Int) (h : 0 ≤ a) (h' : a < 4294967296) (hn : 1 ≤ n) (hn' : n ≤ 2147483647) : wrap64 ((IntKind.u64.wrap ((IntKind.u64.wrap a) * (mx 0 (mn n 2147483647)))) / 4294967296) = a * n / 4294967296 := by
  have b := mul_bound a n h h' (by omega) hn'
  have e1 : mn n 2147483647 = n := by unfold mn; rw [if_neg (by omega)]
  have e2 : mx 0 n = n := by unfold mx; rw [if_pos (by omega)]
  rw [e1, e2, wrap_u64, wrap_u64, Int.emod_eq_of_lt h (by omega)]
  generalize a * n = p at b ⊢
  unfold wrap64
  omega
theorem mn_le (n : Int) : mn n 2147483647 ≤ 2147483647 ∧ (1 ≤ n → 1 ≤ mn n 2147483647) := by unfold mn; split <;> omega
theorem slot_same (a n : Int) (h : 0 ≤ a) (h' : a < 4294967296) (hn : 1 ≤ n) : wrap64 ((IntKind.u64.wrap ((IntKind.u64.wrap a) * (mx 0 (mn n 2147483647)))) / 4294967296) = wrap64 (IntKind.u64.wrap (Int.tdiv (IntKind.u64.wrap ((IntKind.u64.wrap a) * (IntKind.u64.wrap (mn n 2147483647)))) 4294967296)) := by
  have m := mn_le n
  generalize mn n 2147483647 = q at m ⊢
  have e2 : mx 0 q = q := by unfold mx; rw [if_pos (by omega)]
  have b := mul_bound a q h h' (by omega) m.1
  rw [e2, wrap_u64, wrap_u64 (n := a), wrap_u64 (n := q), Int.emod_eq_of_lt h (by omega), Int.emod_eq_of_lt (a := q) (by omega) (by omega), wrap_u64, wrap_u64]
  generalize a * q = p at b ⊢
  rw [Int.tdiv_eq_ediv_of_nonneg (by omega)]
  congr 1
  omega
theorem slot_low (a n : Int) (h : 0 ≤ a) (h' : a < 4294967296) (hn : n < 1) : wrap64 ((IntKind.u64.wrap ((IntKind.u64.wrap a) * (mx 0 (mn n 2147483647)))) / 4294967296) = 0 := by
  have e1 : mn n 2147483647 = n := by unfold mn; rw [if_neg (by omega)]
  have e2 : mx 0 n = 0 := by unfold mx; split <;> omega
  rw [e1, e2, Int.mul_zero, wrap_u64]
  unfold wrap64
  omega
theorem len_int (n : Int) : 1 ≤ wrap64 (1 + wrap64 (Int.tmod (IntKind.u64.wrap n) 2147483647)) ∧ wrap64 (1 + wrap64 (Int.tmod (IntKind.u64.wrap n) 2147483647)) ≤ 2147483647 := by
  rw [wrap_u64, Int.tmod_eq_emod_of_nonneg (by omega)]
  unfold wrap64
  omega
theorem slot_pos (a n : Int) (h : 0 ≤ a) (hn : 1 ≤ n) : 0 ≤ a * n / 4294967296 := Int.ediv_nonneg (Int.mul_nonneg h (by omega)) (by decide)
theorem slot_lt (a n : Int) (h : 0 ≤ a) (h' : a < 4294967296) (hn : 1 ≤ n) : a * n / 4294967296 < n := by
  have : a * n ≤ 4294967295 * n := Int.mul_le_mul_of_nonneg_right (by omega) (by omega)
  omega
theorem slot_mono (a b n : Int) (hn : 1 ≤ n) (h : a ≤ b) : a * n / 4294967296 ≤ b * n / 4294967296 := by
  have : a * n ≤ b * n := Int.mul_le_mul_of_nonneg_right h (by omega)
  omega
theorem first_eq (m x : Int) (h : 0 ≤ x) (h' : x < m) (hm : 1 ≤ m) (hm' : m ≤ 2147483647) : IntKind.u64.wrap (Int.tdiv (IntKind.u64.wrap ((IntKind.u64.wrap ((IntKind.u64.wrap ((IntKind.u64.wrap x) * 4294967296)) + m)) - 1)) m) = (x * 4294967296 + m - 1) / m := by
  have e : IntKind.u64.wrap ((IntKind.u64.wrap ((IntKind.u64.wrap ((IntKind.u64.wrap x) * 4294967296)) + m)) - 1) = x * 4294967296 + m - 1 := by simp only [wrap_u64]; omega
  rw [e, Int.tdiv_eq_ediv_of_nonneg (by omega), wrap_u64]
  have l : (x * 4294967296 + m - 1) / m ≤ x * 4294967296 + m - 1 := Int.ediv_le_self _ (by omega)
  have p : 0 ≤ (x * 4294967296 + m - 1) / m := Int.ediv_nonneg (by omega) (by omega)
  exact Int.emod_eq_of_lt p (by omega)
theorem first_int (a m x : Int) (h : 0 ≤ a) (h' : a < 4294967296) (hm : 1 ≤ m) (hm' : m ≤ 2147483647) (hx : a * m / 4294967296 = x) :
    ∃ f, (x * 4294967296 + m - 1) / m = f ∧ 0 ≤ f ∧ f ≤ a ∧ f * m / 4294967296 = x ∧ (¬ f = 0 → (f - 1) * m / 4294967296 = x - 1) := by
  refine ⟨_, rfl, ?_⟩
  have x0 : 0 ≤ x := by rw [← hx]; exact slot_pos a m h hm
  have q1 : m * ((x * 4294967296 + m - 1) / m) ≤ x * 4294967296 + m - 1 := Int.mul_ediv_self_le (by omega)
  have q2 : x * 4294967296 + m - 1 < m * ((x * 4294967296 + m - 1) / m) + m := Int.lt_mul_ediv_self_add (by omega)
  have p : 0 ≤ (x * 4294967296 + m - 1) / m := Int.ediv_nonneg (by omega) (by omega)
  generalize (x * 4294967296 + m - 1) / m = f at q1 q2 p ⊢
  have c : f * m = m * f := Int.mul_comm _ _
  have c1 : (f - 1) * m = m * f - m := by rw [Int.sub_mul, c, Int.one_mul]
  refine ⟨p, ?_, ?_, fun _ => ?_⟩
  · by_cases g : f ≤ a
    · exact g
    · have : (a + 1) * m ≤ f * m := Int.mul_le_mul_of_nonneg_right (by omega) (by omega)
      rw [c, Int.add_mul, Int.one_mul] at this
      omega
  · rw [c]; omega
  · rw [c1]; omega

/-! ### texts -/
def fnvs (h : Int) (l : List ByteArray) : Int := l.foldl (fun a s => fnv a s.data.toList) h
theorem wrap_next {i n : Nat} (h : i < n ∧ n ≤ 140737488351232) : wrap64 ((i : Int) + 1) = ((i + 1 : Nat) : Int) := by unfold wrap64; omega
theorem fnv_drop (s : ByteArray) (i : Nat) (x : Int) (h : i < s.size) : fnv x (s.data.toList.drop i) = fnv (((Go.bits .xor .u32 x ((bt s (i : Int)) % 4294967296)) * 16777619) % 4294967296) (s.data.toList.drop (i + 1)) := by
  rw [List.drop_eq_getElem_cons (by simpa using h)]
  have e : bt s (i : Int) = ((s.data.toList[i]'(by simpa using h)).toNat : Int) := by
    unfold bt
    rw [dif_pos (by simpa using h)]
    rfl
  rw [e]
  rfl
theorem rdOf_at (l : List ByteArray) (i : Nat) (h : i < l.length) : rdOf ByteArray.empty l (i : Int) = l[i] := by
  unfold rdOf
  simp [List.getD_eq_getElem?_getD, List.getElem?_eq_getElem h]
theorem fnvs_drop (l : List ByteArray) (i : Nat) (x : Int) (h : i < l.length) : fnvs x (l.drop i) = fnvs (fnv x l[i].data.toList) (l.drop (i + 1)) := by
  rw [List.drop_eq_getElem_cons h]; rfl
theorem at_int (a : Int) (n : Nat) (h : n ≤ 140737488351232) : ∃ i : Nat, wrap64 (Int.tmod (IntKind.u64.wrap a) (IntKind.u64.wrap (wrap64 ((n : Int) + 1)))) = (i : Int) ∧ i ≤ n := by
  have w1 : wrap64 ((n : Int) + 1) = (n : Int) + 1 := by unfold wrap64; omega
  have w2 : IntKind.u64.wrap ((n : Int) + 1) = (n : Int) + 1 := by rw [wrap_u64]; omega
  rw [w1, w2, wrap_u64, Int.tmod_eq_emod_of_nonneg (by omega)]
  have p := Int.emod_nonneg (a % 18446744073709551616) (b := (n : Int) + 1) (by omega)
  have q := Int.emod_lt_of_pos (a % 18446744073709551616) (b := (n : Int) + 1) (by omega)
  refine ⟨(a % 18446744073709551616 % ((n : Int) + 1)).toNat, ?_, by omega⟩
  unfold wrap64
  omega
theorem cut_three (s : ByteArray) (i k : Nat) (h : i ≤ k) (h' : k ≤ s.size) : (s.extract 0 i).data.toList ++ (s.extract i k).data.toList ++ (s.extract k s.size).data.toList = s.data.toList := by
  have e (a b : Nat) : (s.extract a b).data.toList = (s.data.toList.drop a).take (b - a) := by
    rw [ByteArray.data_extract, Array.toList_extract, List.extract_eq_take_drop]
  have n : s.data.toList.length = s.size := by simp
  rw [e, e, e, List.take_of_length_le (l := s.data.toList.drop k) (by simp), List.append_assoc, List.drop_zero, Nat.sub_zero]
  have c : (s.data.toList.drop i).take (k - i) ++ s.data.toList.drop k = s.data.toList.drop i := by
    have := List.take_append_drop (k - i) (s.data.toList.drop i)
    rwa [List.drop_drop, show i + (k - i) = k by omega] at this
  rw [c, List.take_append_drop]
end Go.Proofs.Ytfpnedooipfpoaa.Math
