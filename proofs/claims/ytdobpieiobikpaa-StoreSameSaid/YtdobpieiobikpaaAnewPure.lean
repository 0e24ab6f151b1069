/- What is deleted, and put again, is 0: the plain law. Plain lemmas; no condition. -/
import Derived.Test.YtdobpieiobikpaaMany
import Derived.Test.YtdobpieiobikpaaRowsLaw
set_option linter.unusedVariables false
set_option linter.unusedSimpArgs false
namespace Go.Proofs.Ytdobpieiobikpaa.Base
open Go Go.RowKit Go.Proofs.Ytdobpieiobikpaa.Mem Go.Proofs.YtdobpieiobikpaaW.PrintWords Go.Proofs.YtdobpieiobikpaaW.PrintLast
theorem sameL_self {β : Type} [DecidableEq β] (c : List (Int × β)) : sameL c c = true := by
  unfold sameL
  exact decide_eq_true ⟨rfl, fun _ _ => rfl⟩
theorem sameS_self (S : St) : sameS S S = true := by unfold sameS; rw [sameL_self, sameL_self]; rfl
theorem delE_app {β : Type} {l : List (Int × β)} {k : Int} {v : β} (h : lookE l k = none) : delE (l ++ [(k, v)]) k = l := by
  induction l with
  | nil => simp [delE]
  | cons p r ih =>
    simp only [lookE] at h
    split at h
    · cases h
    · next e => simp only [List.cons_append, delE, if_neg e, ih h]
theorem delC_look (S : St) (h : S.ok) (id : Int) : lookE (delC S id).2.c id = none := by
  unfold delC
  cases hl : lookE S.c id with
  | none => exact hl
  | some v =>
    show lookE (delE S.c id) id = none
    rw [lookE_del h.ck, if_pos rfl]
theorem delR_look (S : St) (h : S.ok) (id : Int) : lookE (delR S id).2.r id = none := by
  unfold delR
  cases hl : lookE S.r id with
  | none => exact hl
  | some v =>
    show lookE (delE S.r id) id = none
    rw [lookE_del h.rk, if_pos rfl]
theorem delR_c (S : St) (id : Int) : (delR S id).2.c = S.c := by unfold delR; cases lookE S.r id <;> rfl
theorem delC_r (S : St) (id : Int) : (delC S id).2.r = S.r := by unfold delC; cases lookE S.c id <;> rfl
/-- A store that has neither a counter nor a row of that ID. -/
theorem anew_pure {S : St} {id : Int} (hc : lookE S.c id = none) (hr : lookE S.r id = none) (k : Nat) (hk : 1 ≤ k ∧ k ≤ 60) :
    getC S id = (0, 0, 6) ∧ delR S id = (6, S) ∧ ∃ S3 S4 S5, putC S id = (0, S3) ∧ putR S3 id (k : Int) = (0, S4) ∧ getC S4 id = (0, 0, 0) ∧ rowR S4 id 0 (k : Int) = (List.replicate k 0, 0) ∧ sameS S4 S = false ∧ delC S4 id = (0, S5) ∧ delR S5 id = (0, S) := by
  have p1 : putE S.c id (0, 0) = S.c ++ [(id, (0, 0))] := putE_new hc
  have p2 : putE S.r id (List.replicate k 0) = S.r ++ [(id, List.replicate k 0)] := putE_new hr
  have l1 : lookE (putE S.c id (0, 0)) id = some (0, 0) := by rw [lookE_put, if_pos rfl]
  have l2 : lookE (putE S.r id (List.replicate k (0 : Int))) id = some (List.replicate k 0) := by rw [lookE_put, if_pos rfl]
  refine ⟨by unfold getC; rw [hc], by unfold delR; rw [hr], ⟨putE S.c id (0, 0), S.r⟩, ⟨putE S.c id (0, 0), putE S.r id (List.replicate k 0)⟩, ⟨S.c, putE S.r id (List.replicate k 0)⟩, ?_, ?_, ?_, ?_, ?_, ?_, ?_⟩
  · unfold putC; rw [hc]
  · unfold putR
    simp only [hr]
    rw [if_neg (by omega), Int.toNat_natCast]
  · unfold getC
    simp only [l1]
  · unfold rowR
    simp only [l2, List.length_replicate]
    rw [if_neg (by omega)]
    simp
  · unfold sameS sameL
    rw [Bool.and_eq_false_iff]
    left
    refine decide_eq_false (fun e => ?_)
    have := e.1
    simp only [p1, List.length_append, List.length_singleton] at this
    omega
  · unfold delC
    simp only [l1]
    rw [p1, delE_app hc]
  · unfold delR
    simp only [l2]
    rw [p2, delE_app hr]
end Go.Proofs.Ytdobpieiobikpaa.Base
