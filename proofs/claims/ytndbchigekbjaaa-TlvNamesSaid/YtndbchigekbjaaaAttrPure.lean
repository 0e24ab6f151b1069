/- What is read of attributes that are put, and what is put of attributes that are read: plain lemmas. No condition. -/
import Derived.Test.YtndbchigekbjaaaConv
import Derived.Test.YtndbchigekbjaaaSolePure
set_option linter.unusedVariables false
set_option linter.unusedSimpArgs false
namespace Go.Proofs.Ytndbchigekbjaaa.Base
open Go Go.RowKit Go.Proofs.YtndbchigekbjaaaW.PrintWords Go.Proofs.Ytndbchigekbjaaa.PTlvCodes
/-- Attributes that may be put behind a type. -/
def okA (last : Int) : List S38 → Prop
  | [] => True
  | x :: r => last < x.f0 ∧ x.f1.size ≠ 0 ∧ x.f1.size ≤ 65535 ∧ okA x.f0 r
def inB (l : List S38) : Prop := ∀ x ∈ l, 0 ≤ x.f0 ∧ x.f0 < 256
theorem inB_tail {x : S38} {r : List S38} (h : inB (x :: r)) : inB r := fun y hy => h y (List.mem_cons_of_mem _ hy)
/-- The bytes. -/
def abB : List S38 → List UInt8
  | [] => []
  | x :: r => UInt8.ofNat x.f0.toNat :: UInt8.ofNat (x.f1.size / 256) :: UInt8.ofNat (x.f1.size % 256) :: (x.f1.data.toList ++ abB r)
def abI : List S38 → List Int
  | [] => []
  | x :: r => x.f0 :: (sz x.f1.size ++ (bytesOf x.f1 ++ abI r))
def lastT (last : Int) : List S38 → Int
  | [] => last
  | x :: r => lastT x.f0 r
theorem enc_app : ∀ (a b : List S38) (last : Int) (acc : List Int), okA last a → enc acc last (a ++ b) = enc (acc ++ abI a) (lastT last a) b
  | [], b, last, acc, _ => by rw [abI, List.append_nil]; rfl
  | x :: r, b, last, acc, h => by
    obtain ⟨h1, h2, h3, h4⟩ := h
    have ih := enc_app r b x.f0 (((acc ++ [x.f0]) ++ sz x.f1.size) ++ bytesOf x.f1) h4
    rw [List.cons_append, enc, if_neg (by omega), if_neg (by omega), ih, lastT]
    congr 1
    rw [abI]
    simp only [List.append_assoc, List.cons_append, List.nil_append]
theorem enc_ok (a : List S38) (last : Int) (acc : List Int) (h : okA last a) : enc acc last a = (strOfNums (acc ++ abI a), 0) := by
  have := enc_app a [] last acc h
  rw [List.append_nil] at this
  rw [this, enc]
theorem enc_bad : ∀ (a : List S38) (last : Int) (acc : List Int), ¬ okA last a → (enc acc last a).1 = ⟨#[]⟩ ∧ ((enc acc last a).2 = 3 ∨ (enc acc last a).2 = 5)
  | [], last, acc, h => absurd trivial h
  | x :: r, last, acc, h => by
    rw [enc]
    by_cases c1 : x.f0 ≤ last ∨ x.f1.size = 0
    · rw [if_pos c1]; exact ⟨rfl, .inl rfl⟩
    · rw [if_neg c1]
      by_cases c2 : 65535 < x.f1.size
      · rw [if_pos c2]; exact ⟨rfl, .inr rfl⟩
      · rw [if_neg c2]
        exact enc_bad r x.f0 _ (fun h4 => h ⟨by omega, by omega, by omega, h4⟩)
theorem enc_zero (a : List S38) (last : Int) (acc : List Int) (h : (enc acc last a).2 = 0) : okA last a := by
  refine Classical.byContradiction (fun h' => ?_)
  obtain ⟨_, h1 | h1⟩ := enc_bad a last acc h' <;> rw [h1] at h <;> cases h
theorem abI_back : ∀ (a : List S38) (last : Int), okA last a → (abI a).map (fun n => UInt8.ofNat n.toNat) = abB a
  | [], last, _ => rfl
  | x :: r, last, h => by
    obtain ⟨h1, h2, h3, h4⟩ := h
    have ih := abI_back r x.f0 h4
    rw [abI, abB, List.map_cons, List.map_append, List.map_append, sz_back _ h3, bytes_back, ih]
    rfl
theorem enc_bytes (a : List S38) (h : okA 0 a) : (enc [] 0 a).2 = 0 ∧ (enc [] 0 a).1.data.toList = abB a := by
  rw [enc_ok a 0 [] h]
  refine ⟨rfl, ?_⟩
  show (strOfNums ([] ++ abI a)).data.toList = _
  rw [strOfNums_data, List.nil_append, abI_back a 0 h]
theorem abB_len : ∀ (a : List S38), (abB a).length = tot38 a
  | [] => rfl
  | x :: r => by
    have ih := abB_len r
    have := size_list x.f1
    rw [abB, tot38]
    simp only [List.length_cons, List.length_append, ih]
    omega
theorem one_back (n : Int) (h0 : 0 ≤ n) (h1 : n < 256) : (((UInt8.ofNat n.toNat).toNat : Nat) : Int) = n := by
  rw [UInt8.toNat_ofNat_of_lt' (show n.toNat < 256 by omega)]
  omega
theorem dec_app : ∀ (a : List S38) (last : Nat) (s : List UInt8), inB a → okA (last : Int) a → dec last (abB a ++ s) = (a ++ (dec (lastT (last : Int) a).toNat s).1, (dec (lastT (last : Int) a).toNat s).2)
  | [], last, s, _, _ => by rw [abB, lastT, Int.toNat_natCast]; rfl
  | x :: r, last, s, hb, h => by
    obtain ⟨h1, h2, h3, h4⟩ := h
    obtain ⟨b0, b1⟩ := hb x (List.mem_cons_self ..)
    have hx := one_back x.f0 b0 b1
    have ih := dec_app r (UInt8.ofNat x.f0.toNat).toNat s (inB_tail hb) (by rw [hx]; exact h4)
    have hl := size_list x.f1
    show dec last (UInt8.ofNat x.f0.toNat :: UInt8.ofNat (x.f1.size / 256) :: UInt8.ofNat (x.f1.size % 256) :: ((x.f1.data.toList ++ abB r) ++ s)) = _
    rw [dec_cons, zz_val _ h3, if_neg (by omega), if_neg (by rw [List.length_append, List.length_append, ← hl]; omega), List.append_assoc, hl, List.take_left, List.drop_left, ih, hx, lastT]
    rfl
theorem dec_abB (a : List S38) (hb : inB a) (h : okA 0 a) : dec 0 (abB a) = (a, 0) := by
  have := dec_app a 0 [] hb h
  rw [List.append_nil] at this
  rw [this, dec, List.append_nil]
theorem abB_dec : ∀ (k : Nat) (s : List UInt8) (last : Nat), s.length ≤ k → (dec last s).2 = 0 → abB (dec last s).1 = s ∧ okA (last : Int) (dec last s).1 ∧ inB (dec last s).1 := by
  intro k
  induction k with
  | zero =>
    intro s last h _
    obtain rfl := List.eq_nil_of_length_eq_zero (Nat.le_zero.1 h)
    rw [dec]
    exact ⟨rfl, trivial, fun x hx => by simp at hx⟩
  | succ k ih =>
    intro s last h h0
    rcases s with _ | ⟨x, _ | ⟨y, _ | ⟨z, r⟩⟩⟩
    · rw [dec]; exact ⟨rfl, trivial, fun x hx => by simp at hx⟩
    · simp [dec] at h0
    · simp [dec] at h0
    · rw [dec_cons] at h0 ⊢
      have hx := x.toNat_lt
      have hy := y.toNat_lt
      have hz := z.toNat_lt
      by_cases c1 : x.toNat ≤ last ∨ y.toNat * 256 + z.toNat = 0
      · rw [if_pos c1] at h0; cases h0
      · rw [if_neg c1] at h0 ⊢
        by_cases c2 : r.length < y.toNat * 256 + z.toNat
        · rw [if_pos c2] at h0; cases h0
        · rw [if_neg c2] at h0 ⊢
          simp only [List.length_cons] at h
          obtain ⟨i1, i2, i3⟩ := ih (r.drop (y.toNat * 256 + z.toNat)) x.toNat (by rw [List.length_drop]; omega) h0
          have hlen : (r.take (y.toNat * 256 + z.toNat)).length = y.toNat * 256 + z.toNat := by rw [List.length_take]; omega
          have hsz : (⟨(r.take (y.toNat * 256 + z.toNat)).toArray⟩ : ByteArray).size = y.toNat * 256 + z.toNat := by
            show (r.take (y.toNat * 256 + z.toNat)).toArray.size = _
            rw [List.size_toArray, hlen]
          refine ⟨?_, ⟨?_, ?_, ?_, i2⟩, fun q hq => ?_⟩
          · rw [abB, i1]
            show UInt8.ofNat ((x.toNat : Int)).toNat :: UInt8.ofNat ((⟨(r.take (y.toNat * 256 + z.toNat)).toArray⟩ : ByteArray).size / 256) :: UInt8.ofNat ((⟨(r.take (y.toNat * 256 + z.toNat)).toArray⟩ : ByteArray).size % 256) :: (r.take _ ++ r.drop _) = _
            rw [hsz, Int.toNat_natCast]
            have e0 : UInt8.ofNat x.toNat = x := UInt8.toNat_inj.1 (UInt8.toNat_ofNat_of_lt' hx)
            have e1 : UInt8.ofNat ((y.toNat * 256 + z.toNat) / 256) = y := by
              rw [show (y.toNat * 256 + z.toNat) / 256 = y.toNat by omega]
              exact UInt8.toNat_inj.1 (UInt8.toNat_ofNat_of_lt' hy)
            have e2 : UInt8.ofNat ((y.toNat * 256 + z.toNat) % 256) = z := by
              rw [show (y.toNat * 256 + z.toNat) % 256 = z.toNat by omega]
              exact UInt8.toNat_inj.1 (UInt8.toNat_ofNat_of_lt' hz)
            rw [e0, e1, e2, List.take_append_drop]
          · show (last : Int) < (x.toNat : Int); omega
          · show (⟨(r.take (y.toNat * 256 + z.toNat)).toArray⟩ : ByteArray).size ≠ 0; rw [hsz]; omega
          · show (⟨(r.take (y.toNat * 256 + z.toNat)).toArray⟩ : ByteArray).size ≤ 65535; rw [hsz]; omega
          · rcases List.mem_cons.1 hq with rfl | hq
            · show 0 ≤ (x.toNat : Int) ∧ (x.toNat : Int) < 256; omega
            · exact i3 q hq
/-- What Encode and Decode tell, one of the other. -/
theorem enc_dec (l : List S38) (hb : inB l) : ((enc [] 0 l).2 = 0 ∧ dec 0 (enc [] 0 l).1.data.toList = (l, 0) ∧ (enc [] 0 l).1.data.toList.length = tot38 l) ∨ ((enc [] 0 l).1 = ⟨#[]⟩ ∧ ((enc [] 0 l).2 = 3 ∨ (enc [] 0 l).2 = 5)) := by
  by_cases h : okA 0 l
  · have := enc_bytes l h
    exact .inl ⟨this.1, by rw [this.2]; exact dec_abB l hb h, by rw [this.2]; exact abB_len l⟩
  · exact .inr (enc_bad l 0 [] h)
theorem dec_enc (s : ByteArray) (h : (dec 0 s.data.toList).2 = 0) : enc [] 0 (dec 0 s.data.toList).1 = (s, 0) ∧ tot38 (dec 0 s.data.toList).1 = s.size := by
  obtain ⟨h1, h2, _⟩ := abB_dec _ s.data.toList 0 (Nat.le_refl _) h
  have h3 := enc_bytes _ h2
  refine ⟨Prod.ext (str_ext ?_) h3.1, ?_⟩
  · rw [h3.2, h1]
  · rw [← abB_len, h1, Array.length_toList]; rfl
end Go.Proofs.Ytndbchigekbjaaa.Base
