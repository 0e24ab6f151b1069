/- What a stream's bytes say, in plain Lean: no program in sight. -/
import Derived.Test.YtedkfhgpahjleaaBase
set_option linter.unusedVariables false
set_option linter.unusedSimpArgs false
namespace Go.Proofs.Ytedkfhgpahjleaa.Base
open Go Go.RowKit
/-- What the first four bytes say. -/
def ln : List UInt8 → Nat
  | x :: y :: z :: b :: _ => be x y z b
  | _ => 0
theorem ln_app : ∀ (s t : List UInt8), 4 ≤ s.length → ln (s ++ t) = ln s
  | x :: y :: z :: b :: r, t, _ => rfl
  | [], t, h => by simp at h
  | [_], t, h => by simp at h
  | [_, _], t, h => by simp at h
  | [_, _, _], t, h => by simp at h
/-- The bodies that bytes hold, and what waits behind them: nothing stands for a length that may not be. -/
def parse (s : List UInt8) : List (List UInt8) × Option (List UInt8) :=
  if s.length < 4 then ([], some s)
  else if ln s < 5 ∨ 16384 < ln s then ([], none)
  else if s.length < 4 + ln s then ([], some s)
  else (((s.drop 4).take (ln s)) :: (parse (s.drop (4 + ln s))).1, (parse (s.drop (4 + ln s))).2)
termination_by s.length
decreasing_by all_goals (simp only [List.length_drop]; omega)
/-- Bytes that wait. -/
def Inv (s : List UInt8) : Prop := s.length < 4 ∨ (5 ≤ ln s ∧ ln s ≤ 16384 ∧ s.length < 4 + ln s)
theorem parse_inv {s : List UInt8} (h : Inv s) : parse s = ([], some s) := by
  rw [parse]
  rcases h with h | ⟨h1, h2, h3⟩
  · rw [if_pos h]
  · by_cases h4 : s.length < 4
    · rw [if_pos h4]
    · rw [if_neg h4, if_neg (by omega), if_pos h3]
theorem parse_bad {t : List UInt8} (r : List UInt8) (h4 : 4 ≤ t.length) (hb : ln t < 5 ∨ 16384 < ln t) : parse (t ++ r) = ([], none) := by
  rw [parse, if_neg (by simp; omega), ln_app t r h4, if_pos hb]
theorem parse_done {t : List UInt8} (r : List UInt8) (h5 : 5 ≤ ln t) (h6 : ln t ≤ 16384) (hl : t.length = 4 + ln t) : parse (t ++ r) = (t.drop 4 :: (parse r).1, (parse r).2) := by
  have e1 : (t ++ r).drop (4 + ln t) = r := by rw [← hl]; simp
  have e2 : ((t ++ r).drop 4).take (ln t) = t.drop 4 := by
    rw [List.drop_append_of_le_length (by omega), List.take_append_of_le_length (by simp; omega), List.take_of_length_le (by simp; omega)]
  rw [parse, if_neg (by simp; omega), ln_app t r (by omega), if_neg (by omega), if_neg (by simp; omega), e1, e2]
theorem parse_some {s : List UInt8} : ∀ {o t}, parse s = (o, some t) → Inv t := by
  induction s using parse.induct with
  | case1 s h => intro o t e; rw [parse, if_pos h] at e; injection e with _ e; injection e with e; subst e; exact .inl h
  | case2 s h h2 => intro o t e; rw [parse, if_neg h, if_pos h2] at e; injection e with _ e; cases e
  | case3 s h h2 h3 => intro o t e; rw [parse, if_neg h, if_neg h2, if_pos h3] at e; injection e with _ e; injection e with e; subst e; exact .inr ⟨by omega, by omega, h3⟩
  | case4 s h h2 h3 ih => intro o t e; rw [parse, if_neg h, if_neg h2, if_neg h3] at e; injection e with _ e; exact ih (Prod.ext rfl e)
/-- Bytes behind those that were looked at. -/
theorem parse_app (s r : List UInt8) : parse (s ++ r) = match (parse s).2 with
    | none => ((parse s).1, none)
    | some t => ((parse s).1 ++ (parse (t ++ r)).1, (parse (t ++ r)).2) := by
  induction s using parse.induct with
  | case1 s h => rw [show parse s = ([], some s) from parse_inv (.inl h)]; rfl
  | case2 s h h2 => rw [parse_bad r (by omega) h2]; have := parse_bad [] (by omega) h2; rw [List.append_nil] at this; rw [this]
  | case3 s h h2 h3 => rw [show parse s = ([], some s) from parse_inv (.inr ⟨by omega, by omega, h3⟩)]; rfl
  | case4 s h h2 h3 ih =>
    have e : (s ++ r).drop (4 + ln s) = s.drop (4 + ln s) ++ r := List.drop_append_of_le_length (by omega)
    have e2 : ((s ++ r).drop 4).take (ln s) = (s.drop 4).take (ln s) := by rw [List.drop_append_of_le_length (by omega), List.take_append_of_le_length (by simp; omega)]
    rw [parse, if_neg (by simp; omega), ln_app s r (by omega), if_neg h2, if_neg (by simp; omega), e, e2, ih]
    rw [show parse s = _ from by rw [parse, if_neg h, if_neg h2, if_neg h3]]
    simp only
    cases (parse (s.drop (4 + ln s))).2 <;> simp
end Go.Proofs.Ytedkfhgpahjleaa.Base
