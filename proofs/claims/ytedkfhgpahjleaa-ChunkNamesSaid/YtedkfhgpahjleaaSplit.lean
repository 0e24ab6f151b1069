/- Bytes are the frames of the bodies that are told, and those that wait. Plain Lean. -/
import Derived.Test.YtedkfhgpahjleaaMore
set_option linter.unusedVariables false
set_option linter.unusedSimpArgs false
namespace Go.Proofs.Ytedkfhgpahjleaa.Base
open Go
def frs (o : List (List UInt8)) : List UInt8 := (o.map fr).flatten
def Ok (x : List UInt8) : Prop := 5 ≤ x.length ∧ x.length ≤ 16384
theorem frs_cons (x : List UInt8) (o : List (List UInt8)) : frs (x :: o) = fr x ++ frs o := rfl
theorem frs_snoc (o : List (List UInt8)) (x : List UInt8) : frs (o ++ [x]) = frs o ++ fr x := by simp [frs]
theorem parse_frs (o : List (List UInt8)) (t : List UInt8) (h : ∀ x ∈ o, Ok x) : parse (frs o ++ t) = (o ++ (parse t).1, (parse t).2) := by
  induction o with
  | nil => simp [frs]
  | cons x r ih =>
    have hx := h x (List.mem_cons_self ..)
    rw [frs_cons, List.append_assoc, parse_fr _ _ hx.1 hx.2, ih (fun y hy => h y (List.mem_cons_of_mem _ hy))]
    rfl
theorem fr_back (x y z b : UInt8) (t : List UInt8) (h5 : 5 ≤ be x y z b) (h6 : be x y z b ≤ 16384) (hl : be x y z b ≤ t.length) : x :: y :: z :: b :: t = fr (t.take (be x y z b)) ++ t.drop (be x y z b) := by
  have hx := x.toNat_lt; have hy := y.toNat_lt; have hz := z.toNat_lt; have hb := b.toNat_lt
  have hlen : (t.take (be x y z b)).length = be x y z b := by simp; omega
  unfold fr
  rw [hlen]
  have hbe : be x y z b = x.toNat * 16777216 + y.toNat * 65536 + z.toNat * 256 + b.toNat := rfl
  have e1 : x = 0 := by
    apply UInt8.toNat_inj.1
    show x.toNat = 0
    generalize be x y z b = N at *
    generalize x.toNat = X at *
    generalize y.toNat = Y at *
    generalize z.toNat = Z at *
    generalize b.toNat = V at *
    omega
  have e2 : y = 0 := by
    apply UInt8.toNat_inj.1
    show y.toNat = 0
    generalize be x y z b = N at *
    generalize x.toNat = X at *
    generalize y.toNat = Y at *
    generalize z.toNat = Z at *
    generalize b.toNat = V at *
    omega
  have hbe2 : be x y z b = z.toNat * 256 + b.toNat := by rw [hbe, e1, e2]; simp
  have e3 : z = UInt8.ofNat (be x y z b / 256) := by
    apply UInt8.toNat_inj.1
    rw [UInt8.toNat_ofNat', hbe2]
    generalize z.toNat = Z at *
    generalize b.toNat = V at *
    omega
  have e4 : b = UInt8.ofNat (be x y z b) := by
    apply UInt8.toNat_inj.1
    rw [UInt8.toNat_ofNat', hbe2]
    generalize z.toNat = Z at *
    generalize b.toNat = V at *
    omega
  rw [← e3, ← e4, e1, e2, List.append_assoc, List.take_append_drop]
  rfl
def Left (s : List UInt8) (r : Option (List UInt8)) (t : List UInt8) : Prop := match r with
  | some x => x = t ∧ Inv t
  | none => 4 ≤ t.length ∧ (ln t < 5 ∨ 16384 < ln t)
theorem parse_split (s : List UInt8) : ∃ t, s = frs (parse s).1 ++ t ∧ (∀ x ∈ (parse s).1, Ok x) ∧ Left s (parse s).2 t := by
  induction s using parse.induct with
  | case1 s h => rw [parse, if_pos h]; exact ⟨s, rfl, (fun x hx => by simp at hx), rfl, .inl h⟩
  | case2 s h h2 => rw [parse, if_neg h, if_pos h2]; exact ⟨s, rfl, (fun x hx => by simp at hx), by omega, h2⟩
  | case3 s h h2 h3 => rw [parse, if_neg h, if_neg h2, if_pos h3]; exact ⟨s, rfl, (fun x hx => by simp at hx), rfl, .inr ⟨by omega, by omega, h3⟩⟩
  | case4 s h h2 h3 ih =>
    rw [parse, if_neg h, if_neg h2, if_neg h3]
    obtain ⟨t, e, hok, hl⟩ := ih
    refine ⟨t, ?_, ?_, hl⟩
    · simp only
      rw [frs_cons, List.append_assoc, ← e]
      obtain ⟨x, y, z, b, r, rfl⟩ : ∃ x y z b r, s = x :: y :: z :: b :: r := by
        match s, h with
        | x :: y :: z :: b :: r, _ => exact ⟨x, y, z, b, r, rfl⟩
        | [], h => simp at h
        | [_], h => simp at h
        | [_, _], h => simp at h
        | [_, _, _], h => simp at h
      simp only [ln, List.length_cons] at h2 h3 ⊢
      have := fr_back x y z b r (by omega) (by omega) (by omega)
      simp only [List.drop_succ_cons, List.drop_zero, Nat.add_comm 4]
      exact this
    · intro x hx
      simp only [List.mem_cons] at hx
      rcases hx with rfl | hx
      · unfold Ok
        simp only [List.length_take, List.length_drop]
        omega
      · exact hok x hx
/-- The bodies that may be. -/
def gd (l : List ByteArray) : List (List UInt8) := (l.map fun x => x.data.toList).filter fun x => decide (5 ≤ x.length ∧ x.length ≤ 16384)
theorem gd_ok {l : List ByteArray} : ∀ x ∈ gd l, Ok x := fun x hx => by
  have := (List.mem_filter.1 hx).2
  simpa [Ok] using this
theorem gd_take (l : List ByteArray) (k : Nat) (h : k < l.length) : gd (l.take (k + 1)) = gd (l.take k) ++ if 5 ≤ l[k].size ∧ l[k].size ≤ 16384 then [l[k].data.toList] else [] := by
  unfold gd
  rw [List.take_succ_eq_append_getElem h, List.map_append, List.filter_append]
  congr 1
  have hl : l[k].data.toList.length = l[k].size := by simp
  simp only [List.map_cons, List.map_nil, List.filter_cons, List.filter_nil, hl]
  by_cases hk : 5 ≤ l[k].size ∧ l[k].size ≤ 16384
  · simp [hk]
  · rw [if_neg hk, if_neg (by simpa using hk)]
theorem frs_gd (l : List ByteArray) : (frs (gd l)).length ≤ Base.tot l ∧ (gd l).length ≤ l.length := by
  induction l with
  | nil => simp [gd, frs, Base.tot]
  | cons x r ih =>
    have hl : x.data.toList.length = x.size := by simp
    have e : gd (x :: r) = (if 5 ≤ x.size ∧ x.size ≤ 16384 then [x.data.toList] else []) ++ gd r := by
      unfold gd
      simp only [List.map_cons, List.filter_cons, hl]
      by_cases hk : 5 ≤ x.size ∧ x.size ≤ 16384
      · simp [hk]
      · rw [if_neg hk, if_neg (by simpa using hk)]; rfl
    rw [e]
    have ht : Base.tot (x :: r) = 100 + x.size + Base.tot r := by simp [Base.tot]
    rw [ht]
    by_cases hk : 5 ≤ x.size ∧ x.size ≤ 16384
    · rw [if_pos hk, List.singleton_append, frs_cons, List.length_append, Base.fr_len, hl]
      simp only [List.length_cons]
      omega
    · rw [if_neg hk, List.nil_append]
      simp only [List.length_cons]
      omega
end Go.Proofs.Ytedkfhgpahjleaa.Base
