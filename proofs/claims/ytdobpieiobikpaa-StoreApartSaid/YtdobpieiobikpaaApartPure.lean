/- Same tells what is unlike: the plain law. Plain lemmas; no condition. -/
import Derived.Test.YtdobpieiobikpaaAnewPure
set_option linter.unusedVariables false
set_option linter.unusedSimpArgs false
namespace Go.Proofs.Ytdobpieiobikpaa.Base
open Go Go.RowKit Go.Proofs.Ytdobpieiobikpaa.Mem Go.Proofs.YtdobpieiobikpaaW.PrintWords Go.Proofs.YtdobpieiobikpaaW.PrintLast
theorem sameL_put {β : Type} [DecidableEq β] {l : List (Int × β)} {k : Int} {u v : β} (h : lookE l k = some u) (hn : v ≠ u) : sameL l (putE l k v) = false := by
  unfold sameL
  refine decide_eq_false (fun e => ?_)
  have h1 := e.2 k (List.mem_map.2 ⟨_, lookE_mem h, rfl⟩)
  rw [lookE_put, if_pos rfl, h] at h1
  injection h1 with h1
  exact hn h1
theorem u64w_next {x : Int} (h : u64ok x) : u64w (x + 1) ≠ x := by
  unfold u64ok at h
  unfold u64w
  omega
theorem apart_cnt {T : St} (h : T.ok) (id : Int) : ((cnt T id 0).1 = 0 ∧ sameL T.c (cnt T id 0).2.c = false ∧ (cnt T id 0).2.r = T.r) ∨ ((cnt T id 0).1 = 6 ∧ (cnt T id 0).2 = T) := by
  unfold cnt
  cases hl : lookE T.c id with
  | none => exact .inr ⟨rfl, rfl⟩
  | some p =>
    left
    have hp := (h.cw _ (lookE_mem hl)).1
    show (if (0 : Int) < 0 then ((1 : Int), T) else (0, { T with c := putE T.c id (u64w (p.1 + 1), u64w (p.2 + 0)) })).1 = 0 ∧ _
    rw [if_neg (by decide)]
    exact ⟨rfl, sameL_put hl (fun e => u64w_next hp (congrArg Prod.fst e)), rfl⟩
theorem apart_bump {T : St} (h : T.ok) (id : Int) : ((bump T id 0 1).1 = 0 ∧ sameL T.r (bump T id 0 1).2.r = false ∧ (bump T id 0 1).2.c = T.c) ∨ ((bump T id 0 1).1 = 6 ∧ (bump T id 0 1).2 = T) := by
  unfold bump
  cases hl : lookE T.r id with
  | none =>
    have ha : atR T id 0 = 6 := by unfold atR; rw [hl]
    rw [if_neg (by rw [ha]; decide), ha]
    exact .inr ⟨rfl, rfl⟩
  | some xs =>
    left
    obtain ⟨h1, _, h3⟩ := h.rw_ _ (lookE_mem hl)
    have h1 : 1 ≤ xs.length := h1
    have ha : atR T id 0 = 0 := by unfold atR; rw [hl]; exact if_pos (by omega)
    rw [if_pos ha]
    refine ⟨rfl, ?_, ?_⟩
    · unfold setR getR
      simp only [hl]
      refine sameL_put hl (fun e => ?_)
      cases xs with
      | nil => simp at h1
      | cons y r =>
        have e0 := congrArg (fun z => z.getD 0 0) e
        simp at e0
        exact u64w_next (h3 y (List.mem_cons_self ..)) e0
    · unfold setR
      simp only [hl]
end Go.Proofs.Ytdobpieiobikpaa.Base
