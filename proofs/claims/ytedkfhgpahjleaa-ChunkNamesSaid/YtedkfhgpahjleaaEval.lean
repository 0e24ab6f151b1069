/- What a stream says of bytes that are known. Plain Lean. -/
import Derived.Test.YtedkfhgpahjleaaStream3
set_option linter.unusedVariables false
namespace Go.Proofs.Ytedkfhgpahjleaa.Base
def parseN : Nat → List UInt8 → List (List UInt8) × Option (List UInt8)
  | 0, s => ([], some s)
  | n + 1, s => if s.length < 4 then ([], some s)
    else if ln s < 5 ∨ 16384 < ln s then ([], none)
    else if s.length < 4 + ln s then ([], some s)
    else (((s.drop 4).take (ln s)) :: (parseN n (s.drop (4 + ln s))).1, (parseN n (s.drop (4 + ln s))).2)
theorem parse_N : ∀ (n : Nat) (s : List UInt8), s.length < n → parse s = parseN n s
  | 0, s, h => by omega
  | n + 1, s, h => by
    rw [parse, parseN]
    by_cases h1 : s.length < 4
    · rw [if_pos h1, if_pos h1]
    · rw [if_neg h1, if_neg h1]
      by_cases h2 : ln s < 5 ∨ 16384 < ln s
      · rw [if_pos h2, if_pos h2]
      · rw [if_neg h2, if_neg h2]
        by_cases h3 : s.length < 4 + ln s
        · rw [if_pos h3, if_pos h3]
        · rw [if_neg h3, if_neg h3, parse_N n _ (by simp; omega)]
theorem ev1 : parse [0, 0, 0, 5, 104, 101, 108, 108, 111] = ([[104, 101, 108, 108, 111]], some []) := (parse_N 10 _ (by decide)).trans (by decide +kernel)
theorem ev2 : parse [0, 0] = ([], some [0, 0]) := (parse_N 10 _ (by decide)).trans (by decide +kernel)
theorem ev3 : parse [0, 0, 0, 4] = ([], none) := (parse_N 10 _ (by decide)).trans (by decide +kernel)
theorem ev4 : parse [0, 0, 64] = ([], some [0, 0, 64]) := (parse_N 10 _ (by decide)).trans (by decide +kernel)
theorem ev5 : parse [0, 0, 64, 1] = ([], none) := (parse_N 10 _ (by decide)).trans (by decide +kernel)
end Go.Proofs.Ytedkfhgpahjleaa.Base
