/- What is read of what is put, and what is put of what is read: plain lemmas. No condition. -/
import Derived.Test.YtndbchigekbjaaaOrd
import Derived.Test.YtndbchigekbjaaaItems
set_option linter.unusedVariables false
set_option linter.unusedSimpArgs false
namespace Go.Proofs.Ytndbchigekbjaaa.Base
open Go Go.RowKit Go.Proofs.YtndbchigekbjaaaW.PrintWords
theorem nb_val : ∀ (k : Nat) (s : List UInt8), s.length = k → (∀ b r, s = b :: r → b ≠ 0) → nb (val 0 s) = s := by
  intro k
  induction k with
  | zero => intro s h _; obtain rfl := List.eq_nil_of_length_eq_zero h; exact nb_0
  | succ k ih =>
    intro s h hz
    have hne : s ≠ [] := by rintro rfl; simp at h
    obtain ⟨t, b, rfl⟩ : ∃ t b, s = t ++ [b] := ⟨s.dropLast, s.getLast hne, (List.dropLast_concat_getLast hne).symm⟩
    have ht : t.length = k := by simpa using h
    have hb := b.toNat_lt
    have iht := ih t ht (fun c r e => hz c (r ++ [b]) (by rw [e]; rfl))
    have hv : val 0 (t ++ [b]) = val 0 t * 256 + b.toNat := by rw [val_app, val_one]
    have hpos : ¬ val 0 (t ++ [b]) = 0 := by
      rw [hv]
      intro h0
      have h1 : val 0 t = 0 := by omega
      rw [h1, nb_0] at iht
      subst iht
      exact hz b [] rfl (UInt8.toNat_inj.1 (by show b.toNat = 0; omega))
    rw [nb_pos _ hpos, hv, show (val 0 t * 256 + b.toNat) / 256 = val 0 t by omega, show (val 0 t * 256 + b.toNat) % 256 = b.toNat by omega, iht]
    congr 2
    exact UInt8.toNat_inj.1 (UInt8.toNat_ofNat_of_lt' hb)
/-- What is read is put as it was. -/
theorem rnum_put (s : ByteArray) (top : Int) : (rnum s top).2 = 0 ∧ (∃ n : Nat, (rnum s top).1 = (n : Int) ∧ n < 18446744073709551616 ∧ strOfNums (num n) = s) ∨ rnum s top = (0, 3) := by
  have hsz : s.size = s.data.toList.length := by rw [Array.length_toList]; rfl
  have put : ∀ L : List UInt8, s.data.toList = L → ¬ 8 < s.size → (∀ b r, L = b :: r → b ≠ 0) → ((fin top (val 0 L)).2 = 0 ∧ (∃ n : Nat, (fin top (val 0 L)).1 = (n : Int) ∧ n < 18446744073709551616 ∧ strOfNums (num n) = s)) ∨ fin top (val 0 L) = (0, 3) := by
    intro L hL h8 hz
    unfold fin
    by_cases hc : ((val 0 L : Nat) : Int) > top
    · rw [if_pos hc]; exact .inr rfl
    · rw [if_neg hc]
      refine .inl ⟨rfl, val 0 L, rfl, ?_, str_ext ?_⟩
      · have h1 := val_lt L
        have h2 : (256 : Nat) ^ L.length ≤ 256 ^ 8 := Nat.pow_le_pow_right (by decide) (by rw [← hL, ← hsz]; omega)
        exact Nat.lt_of_lt_of_le h1 (Nat.le_trans h2 (by decide))
      · rw [nb_data, nb_val _ L rfl hz, hL]
  unfold rnum
  by_cases h8 : 8 < s.size
  · rw [if_pos h8]; exact .inr rfl
  · rw [if_neg h8]
    generalize hL : s.data.toList = L at *
    cases L with
    | nil => exact put [] rfl h8 (fun b r h => by cases h)
    | cons b r =>
      by_cases hb : b = 0
      · exact .inr (if_pos hb)
      · simp only [if_neg hb]
        exact put (b :: r) rfl h8 (fun c r' h => by injection h with h _; rw [← h]; exact hb)
/-- A length's two bytes. -/
def zz (n : Nat) : List UInt8 := [UInt8.ofNat (n / 256), UInt8.ofNat (n % 256)]
def lbB : List ByteArray → List UInt8
  | [] => []
  | s :: r => zz s.size ++ (s.data.toList ++ lbB r)
theorem bytes_back (s : ByteArray) : (bytesOf s).map (fun n => UInt8.ofNat n.toNat) = s.data.toList := by
  unfold bytesOf
  rw [List.map_map]
  conv => rhs; rw [← List.map_id s.data.toList]
  refine List.map_congr_left (fun b _ => ?_)
  show UInt8.ofNat ((b.toNat : Int)).toNat = b
  rw [Int.toNat_natCast]
  exact UInt8.toNat_inj.1 (UInt8.toNat_ofNat_of_lt' b.toNat_lt)
theorem sz_back (n : Nat) (h : n ≤ 65535) : (sz n).map (fun n => UInt8.ofNat n.toNat) = zz n := by
  unfold sz zz
  have h1 : (((n : Int) / 256) % 256).toNat = n / 256 := by omega
  have h2 : ((n : Int) % 256).toNat = n % 256 := by omega
  simp only [List.map_cons, List.map_nil, h1, h2]
theorem lst_ok : ∀ (l : List ByteArray), (∀ x ∈ l, x.size ≤ 65535) → ∀ acc, (lst acc l).2 = 0 ∧ (lst acc l).1.data.toList = acc.map (fun n => UInt8.ofNat n.toNat) ++ lbB l
  | [], _, acc => by
    refine ⟨rfl, ?_⟩
    show (strOfNums acc).data.toList = _
    rw [strOfNums_data, lbB, List.append_nil]
  | s :: r, h, acc => by
    have hs := h s (List.mem_cons_self ..)
    have ih := lst_ok r (fun x hx => h x (List.mem_cons_of_mem _ hx)) ((acc ++ sz s.size) ++ bytesOf s)
    rw [lst, if_neg (by omega)]
    refine ⟨ih.1, ?_⟩
    rw [ih.2, List.map_append, List.map_append, sz_back _ hs, bytes_back, lbB]
    simp only [List.append_assoc]
theorem lst_bad : ∀ (l : List ByteArray), (¬ ∀ x ∈ l, x.size ≤ 65535) → ∀ acc, lst acc l = (⟨#[]⟩, 5)
  | [], h, acc => absurd (fun x hx => by simp at hx) h
  | s :: r, h, acc => by
    rw [lst]
    by_cases hs : 65535 < s.size
    · rw [if_pos hs]
    · rw [if_neg hs]
      exact lst_bad r (fun hr => h (fun x hx => by
        rcases List.mem_cons.1 hx with rfl | hx
        · omega
        · exact hr x hx)) _
theorem zz_val (n : Nat) (h : n ≤ 65535) : (UInt8.ofNat (n / 256)).toNat * 256 + (UInt8.ofNat (n % 256)).toNat = n := by
  rw [UInt8.toNat_ofNat_of_lt' (show n / 256 < 256 by omega), UInt8.toNat_ofNat_of_lt' (show n % 256 < 256 by omega)]
  omega
theorem dl_lbB (top : Int) : ∀ (l : List ByteArray) (cnt : Nat), (∀ x ∈ l, x.size ≤ 65535) → (cnt : Int) + l.length ≤ top → dl top cnt (lbB l) = (l, 0)
  | [], cnt, _, _ => by rw [lbB, dl]
  | s :: r, cnt, h, ht => by
    have hs := h s (List.mem_cons_self ..)
    simp only [List.length_cons] at ht
    have ih := dl_lbB top r (cnt + 1) (fun x hx => h x (List.mem_cons_of_mem _ hx)) (by omega)
    have hl : s.data.toList.length = s.size := by rw [Array.length_toList]; rfl
    show dl top cnt (UInt8.ofNat (s.size / 256) :: UInt8.ofNat (s.size % 256) :: (s.data.toList ++ lbB r)) = _
    rw [dl_cons, zz_val _ hs, if_neg (by omega), if_neg (by rw [List.length_append, hl]; omega)]
    rw [← hl, List.take_left, List.drop_left, ih]
theorem lbB_dl (top : Int) : ∀ (k : Nat) (s : List UInt8) (cnt : Nat), s.length ≤ k → (dl top cnt s).2 = 0 → lbB (dl top cnt s).1 = s ∧ (∀ x ∈ (dl top cnt s).1, x.size ≤ 65535) := by
  intro k
  induction k with
  | zero =>
    intro s cnt h _
    obtain rfl := List.eq_nil_of_length_eq_zero (Nat.le_zero.1 h)
    rw [dl]
    exact ⟨rfl, fun x hx => by simp at hx⟩
  | succ k ih =>
    intro s cnt h h0
    rcases s with _ | ⟨y, _ | ⟨z, r⟩⟩
    · rw [dl]; exact ⟨rfl, fun x hx => by simp at hx⟩
    · simp [dl] at h0
    · rw [dl_cons] at h0 ⊢
      have hy := y.toNat_lt
      have hz := z.toNat_lt
      by_cases c1 : top ≤ (cnt : Int)
      · rw [if_pos c1] at h0; simp at h0
      · rw [if_neg c1] at h0 ⊢
        by_cases c2 : r.length < y.toNat * 256 + z.toNat
        · rw [if_pos c2] at h0; simp at h0
        · rw [if_neg c2] at h0 ⊢
          simp only [List.length_cons] at h
          have := ih (r.drop (y.toNat * 256 + z.toNat)) (cnt + 1) (by rw [List.length_drop]; omega) h0
          have hlen : (r.take (y.toNat * 256 + z.toNat)).length = y.toNat * 256 + z.toNat := by rw [List.length_take]; omega
          have hsz : (⟨(r.take (y.toNat * 256 + z.toNat)).toArray⟩ : ByteArray).size = y.toNat * 256 + z.toNat := by
            show (r.take (y.toNat * 256 + z.toNat)).toArray.size = _
            rw [List.size_toArray, hlen]
          refine ⟨?_, fun x hx => ?_⟩
          · rw [lbB, this.1, hsz]
            have e1 : UInt8.ofNat ((y.toNat * 256 + z.toNat) / 256) = y := by
              rw [show (y.toNat * 256 + z.toNat) / 256 = y.toNat by omega]
              exact UInt8.toNat_inj.1 (UInt8.toNat_ofNat_of_lt' hy)
            have e2 : UInt8.ofNat ((y.toNat * 256 + z.toNat) % 256) = z := by
              rw [show (y.toNat * 256 + z.toNat) % 256 = z.toNat by omega]
              exact UInt8.toNat_inj.1 (UInt8.toNat_ofNat_of_lt' hz)
            show UInt8.ofNat _ :: UInt8.ofNat _ :: (r.take _ ++ r.drop _) = _
            rw [e1, e2, List.take_append_drop]
          · rcases List.mem_cons.1 hx with rfl | hx
            · rw [hsz]; omega
            · exact this.2 x hx
end Go.Proofs.Ytndbchigekbjaaa.Base
