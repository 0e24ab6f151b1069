/- What the document's stream says of bytes: as 'parse'. Plain Lean over the printed function. -/
import Derived.Test.YtedkfhgpahjleaaPChunkFeedsx1
import Derived.Test.YtedkfhgpahjleaaCallee
set_option linter.unusedVariables false
set_option linter.unusedSimpArgs false
namespace Go.Proofs.Ytedkfhgpahjleaa.Base
open Go Go.RowKit Go.Proofs.Ytedkfhgpahjleaa.Mem Go.Proofs.YtedkfhgpahjleaaW.PrintWords Go.Proofs.YtedkfhgpahjleaaW.PrintMore Go.Proofs.Ytedkfhgpahjleaa.PChunkFeeds
theorem bt_at0 (s : ByteArray) (i : Nat) (b : UInt8) (h : s.data.toList[i]? = some b) : bt s (i : Int) = (b.toNat : Int) := bt_get s i b h
theorem len_round (n b : Nat) (hn : n < 16777216) (hb : b < 256) : wrap64 (wrap64 ((n : Int) * 256) + wrap64 (b : Int)) = ((n * 256 + b : Nat) : Int) := by
  have e2 : wrap64 (b : Int) = (b : Int) := by unfold wrap64; omega
  have e3 : wrap64 ((n : Int) * 256) = (n : Int) * 256 := by unfold wrap64; omega
  rw [e2, e3]
  unfold wrap64
  omega
theorem be_nat (x y z b : UInt8) : ((0 * 256 + x.toNat) * 256 + y.toNat) * 256 + z.toNat < 16777216 ∧ (((0 * 256 + x.toNat) * 256 + y.toNat) * 256 + z.toNat) * 256 + b.toNat = be x y z b ∧ (0 * 256 + x.toNat) < 16777216 ∧ (0 * 256 + x.toNat) * 256 + y.toNat < 16777216 := by
  have hx := x.toNat_lt; have hy := y.toNat_lt; have hz := z.toNat_lt; have hb := b.toNat_lt
  unfold be
  generalize x.toNat = X at *
  generalize y.toNat = Y at *
  generalize z.toNat = Z at *
  generalize b.toNat = V at *
  refine ⟨?_, ?_, ?_, ?_⟩ <;> omega
theorem length_f (s : ByteArray) (x y z b : UInt8) (r : List UInt8) (hs : s.data.toList = x :: y :: z :: b :: r) (k : Nat) : turnoutref07_length.f (k + 5) s = some ((be x y z b : Nat) : Int) := by
  have hz : 4 ≤ s.size := by have := congrArg List.length hs; simp at this; omega
  have b0 : bt s 0 = (x.toNat : Int) := bt_get s 0 x (by rw [hs]; rfl)
  have b1 : bt s 1 = (y.toNat : Int) := bt_get s 1 y (by rw [hs]; rfl)
  have b2 : bt s 2 = (z.toNat : Int) := bt_get s 2 z (by rw [hs]; rfl)
  have b3 : bt s 3 = (b.toNat : Int) := bt_get s 3 b (by rw [hs]; rfl)
  obtain ⟨h1, h2, h3, h4⟩ := be_nat x y z b
  have r0 := len_round 0 x.toNat (by omega) x.toNat_lt
  have r1 := len_round _ y.toNat h3 y.toNat_lt
  have r2 := len_round _ z.toNat h4 z.toNat_lt
  have r3 := len_round _ b.toNat h1 b.toNat_lt
  have w0 : wrap64 ((0 : Int) + 1) = 1 := by first | decide | (unfold wrap64; omega)
  have w1 : wrap64 ((1 : Int) + 1) = 2 := by first | decide | (unfold wrap64; omega)
  have w2 : wrap64 ((2 : Int) + 1) = 3 := by first | decide | (unfold wrap64; omega)
  have w3 : wrap64 ((3 : Int) + 1) = 4 := by first | decide | (unfold wrap64; omega)
  unfold turnoutref07_length.f
  rw [show k + 5 = (k + 4) + 1 from rfl, turnoutref07_length.l0, if_pos (by decide), if_pos (by decide), if_pos (by omega), b0, w0, show ((0 : Int)) = ((0 : Nat) : Int) from rfl, r0]
  rw [show k + 4 = (k + 3) + 1 from rfl, turnoutref07_length.l0, if_pos (by decide), if_pos (by decide), if_pos (by omega), b1, w1, r1]
  rw [show k + 3 = (k + 2) + 1 from rfl, turnoutref07_length.l0, if_pos (by decide), if_pos (by decide), if_pos (by omega), b2, w2, r2]
  rw [show k + 2 = (k + 1) + 1 from rfl, turnoutref07_length.l0, if_pos (by decide), if_pos (by decide), if_pos (by omega), b3, w3, r3]
  rw [turnoutref07_length.l0, if_neg (by decide), h2]
def stS (st : Option (List UInt8)) : ByteArray := ⟨(st.getD []).toArray⟩
theorem ext_take (s : ByteArray) (i j : Nat) (hij : i ≤ j) (hj : j ≤ s.size) : (s.extract i j).data.toList = (s.data.toList.drop i).take (j - i) := by
  simp [List.take_drop, show i + (j - i) = j by omega]
theorem feed_l0 : ∀ (n : Nat) (s : ByteArray) (xs : List ByteArray) (k : Nat), s.size ≤ n → 2 * n + 10 < k → xs.length + n < 1000000000 →
    turnoutref07_Stream_Feed.l0 k xs s false = some (xs ++ txt (parse s.data.toList).1, (if (parse s.data.toList).2.isNone then 5 else 0), stS (parse s.data.toList).2, (parse s.data.toList).2.isNone) := by
  intro n
  induction n using Nat.strongRecOn with
  | ind n ih =>
    intro s xs k hs hk hx
    obtain ⟨k, rfl⟩ : ∃ q, k = q + 1 := ⟨k - 1, by omega⟩
    have hl : s.data.toList.length = s.size := by simp
    rw [turnoutref07_Stream_Feed.l0]
    by_cases h4 : s.size < 4
    · rw [if_neg (by omega), parse_inv (.inl (by omega))]
      simp only [txt, List.map_nil, List.append_nil, Option.isNone_some, stS, Option.getD_some]
      rfl
    · rw [if_pos (by omega)]
      obtain ⟨x, y, z, b, r, hd⟩ : ∃ x y z b r, s.data.toList = x :: y :: z :: b :: r := by
        match hq : s.data.toList, hl with
        | x :: y :: z :: b :: r, _ => exact ⟨x, y, z, b, r, rfl⟩
        | [], h => simp at h; omega
        | [_], h => simp at h; omega
        | [_, _], h => simp at h; omega
        | [_, _, _], h => simp at h; omega
      obtain ⟨k, rfl⟩ : ∃ q, k = q + 5 := ⟨k - 5, by omega⟩
      rw [length_f s x y z b r hd k, Option.bind_some]
      have hln : ln s.data.toList = be x y z b := by rw [hd]; rfl
      have hb2 := be_lt x y z b
      rw [← hln] at hb2 ⊢
      generalize hN : ln s.data.toList = N at hb2 ⊢
      have hj : ∀ B : Bool, turnoutref07_Stream_Feed.j1 (k + 5) xs (N : Int) B s false = if B = true then some (xs, 5, (⟨#[]⟩ : ByteArray), true) else (if s.size < 4 + N then some (xs, 0, s, false) else turnoutref07_Stream_Feed.l0 (k + 4) (xs ++ [s.extract 4 (4 + N)]) (s.extract (4 + N) s.size) false) := by
        intro B
        have e : wrap64 (4 + (N : Int)) = ((4 + N : Nat) : Int) := by unfold wrap64; omega
        rw [show k + 5 = (k + 4) + 1 from rfl, turnoutref07_Stream_Feed.j1, e]
        split
        · rfl
        · by_cases h : s.size < 4 + N
          · rw [if_pos (by omega), if_pos h]
          · rw [if_neg (by omega), if_neg h, if_pos (by omega), if_pos (by omega), if_pos (by omega), if_pos (by omega)]
            rfl
      rw [hj, hj]
      by_cases h5 : N < 5
      · rw [if_pos (by omega), if_pos rfl]
        rw [show parse s.data.toList = ([], none) from by have := parse_bad (t := s.data.toList) [] (by omega) (.inl (by omega)); rwa [List.append_nil] at this]
        simp [txt, stS]
      · rw [if_neg (by omega)]
        by_cases h6 : 16384 < N
        · rw [if_pos (by simp; omega)]
          rw [show parse s.data.toList = ([], none) from by have := parse_bad (t := s.data.toList) [] (by omega) (.inr (by omega)); rwa [List.append_nil] at this]
          simp [txt, stS]
        · rw [if_neg (by simp; omega)]
          by_cases h7 : s.size < 4 + N
          · rw [if_pos h7, parse_inv (.inr ⟨by omega, by omega, by omega⟩)]
            simp only [txt, List.map_nil, List.append_nil, Option.isNone_some, stS, Option.getD_some]
            rfl
          · rw [if_neg h7]
            have hz : (s.extract (4 + N) s.size).size = s.size - (4 + N) := by simp
            rw [ih (s.size - (4 + N)) (by omega) (s.extract (4 + N) s.size) (xs ++ [s.extract 4 (4 + N)]) (k + 4) (by omega) (by omega) (by simp; omega)]
            have hp : parse s.data.toList = ((s.data.toList.drop 4).take N :: (parse (s.data.toList.drop (4 + N))).1, (parse (s.data.toList.drop (4 + N))).2) := by
              rw [parse, if_neg (by omega), if_neg (by omega), if_neg (by omega), hN]
            have hd2 : (s.extract (4 + N) s.size).data.toList = s.data.toList.drop (4 + N) := by
              rw [ext_take s (4 + N) s.size (by omega) (Nat.le_refl _), List.take_of_length_le (by simp)]
            have hd3 : s.extract 4 (4 + N) = (⟨((s.data.toList.drop 4).take N).toArray⟩ : ByteArray) := by
              refine str_ext ?_
              rw [ext_take s 4 (4 + N) (by omega) (by omega), show 4 + N - 4 = N by omega]
            rw [hd2, hp, hd3]
            simp [txt]
theorem feed_f (st : Option (List UInt8)) (d : ByteArray) (h : (st.getD []).length + d.size < 100000000) : ∃ k, turnoutref07_Stream_Feed.f k (stS st) st.isNone d = some (txt (outF st d.data.toList), errF st d.data.toList, stS (nextF st d.data.toList), (nextF st d.data.toList).isNone) := by
  cases st with
  | none => exact ⟨0, rfl⟩
  | some bs =>
    simp only [Option.getD_some] at h
    have hz : (stS (some bs) ++ d).size = bs.length + d.size := by simp [stS, ByteArray.size_append]; rfl
    refine ⟨2 * (bs.length + d.size) + 11, ?_⟩
    unfold turnoutref07_Stream_Feed.f
    rw [if_neg (by simp), if_pos (by rw [← ByteArray.size_append, hz]; omega)]
    have := feed_l0 (bs.length + d.size) (stS (some bs) ++ d) [] (2 * (bs.length + d.size) + 11) (by omega) (by omega) (by simp; omega)
    have hd : (stS (some bs) ++ d).data.toList = bs ++ d.data.toList := by simp [stS]
    rw [hd] at this
    exact this
end Go.Proofs.Ytedkfhgpahjleaa.Base
