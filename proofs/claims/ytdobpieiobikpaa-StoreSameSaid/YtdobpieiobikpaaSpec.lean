/- A store by its words: counters and rows as lists. Plain definitions and lemmas; no condition. -/
import Derived.Test.YtdobpieiobikpaaMapL
set_option linter.unusedVariables false
namespace Go.Proofs.Ytdobpieiobikpaa.Base
open Go Go.Proofs.Ytdobpieiobikpaa.Mem
/-- What a store has: counters, and rows. -/
structure St where
  c : List (Int × (Int × Int))
  r : List (Int × List Int)
def St.nil : St := ⟨[], []⟩
def u64w (x : Int) : Int := x % 18446744073709551616
/-- What each call answers, and what is there behind it. -/
def hasC (S : St) (id : Int) : Int := if (lookE S.c id).isSome then 0 else 6
def hasR (S : St) (id : Int) : Int := if (lookE S.r id).isSome then 0 else 6
def putC (S : St) (id : Int) : Int × St := match lookE S.c id with
  | some _ => (7, S)
  | none => (0, { S with c := putE S.c id (0, 0) })
def delC (S : St) (id : Int) : Int × St := match lookE S.c id with
  | some _ => (0, { S with c := delE S.c id })
  | none => (6, S)
def cnt (S : St) (id n : Int) : Int × St := match lookE S.c id with
  | none => (6, S)
  | some p => if n < 0 then (1, S) else (0, { S with c := putE S.c id (u64w (p.1 + 1), u64w (p.2 + n)) })
def getC (S : St) (id : Int) : Int × Int × Int := match lookE S.c id with
  | none => (0, 0, 6)
  | some p => (p.1, p.2, 0)
def putR (S : St) (id size : Int) : Int × St := match lookE S.r id with
  | some _ => (7, S)
  | none => if size < 1 ∨ 1024 < size then (1, S) else (0, { S with r := putE S.r id (List.replicate size.toNat 0) })
def delR (S : St) (id : Int) : Int × St := match lookE S.r id with
  | some _ => (0, { S with r := delE S.r id })
  | none => (6, S)
def atR (S : St) (id at_ : Int) : Int := match lookE S.r id with
  | none => 6
  | some xs => if at_ < xs.length then 0 else 1
def getR (S : St) (id at_ : Int) : Int := match lookE S.r id with
  | none => 0
  | some xs => xs.getD at_.toNat 0
def setR (S : St) (id at_ v : Int) : St := match lookE S.r id with
  | none => S
  | some xs => { S with r := putE S.r id (xs.set at_.toNat v) }
def save (S : St) (id at_ v : Int) : Int × St := if atR S id at_ = 0 then (0, setR S id at_ v) else (atR S id at_, S)
def bump (S : St) (id at_ v : Int) : Int × St := if atR S id at_ = 0 then (0, setR S id at_ (u64w (getR S id at_ + v))) else (atR S id at_, S)
def load (S : St) (id at_ : Int) : Int × Int := if atR S id at_ = 0 then (getR S id at_, 0) else (0, atR S id at_)
def rowR (S : St) (id from_ n : Int) : List Int × Int := match lookE S.r id with
  | none => ([], 6)
  | some xs => if from_ < 0 ∨ n < 0 ∨ (xs.length : Int) < from_ ∨ (xs.length : Int) - from_ < n then ([], 1) else ((xs.drop from_.toNat).take n.toNat, 0)
def u64ok (x : Int) : Prop := 0 ≤ x ∧ x < 18446744073709551616
/-- A store whose numbers are words, whose keys are ints, each once; whose rows are of 1 to 1024 numbers. -/
structure St.ok (S : St) : Prop where
  ck : (keys S.c).Nodup
  rk : (keys S.r).Nodup
  cw : ∀ p ∈ S.c, u64ok p.2.1 ∧ u64ok p.2.2
  rw_ : ∀ p ∈ S.r, 1 ≤ p.2.length ∧ p.2.length ≤ 1024 ∧ ∀ x ∈ p.2, u64ok x
end Go.Proofs.Ytdobpieiobikpaa.Base
