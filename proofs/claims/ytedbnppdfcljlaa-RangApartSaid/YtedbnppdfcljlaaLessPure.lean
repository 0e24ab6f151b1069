/- What Find tells when a range is taken away. Plain lemmas; no condition. -/
import Derived.Test.YtedbnppdfcljlaaMore
set_option linter.unusedVariables false
set_option linter.unusedSimpArgs false
namespace Go.Proofs.Ytedbnppdfcljlaa.Base
open Go Go.RowKit Go.Proofs.Ytedbnppdfcljlaa.Mem Go.Proofs.YtedbnppdfcljlaaW.PrintWords
open Go.Proofs.Ytedbnppdfcljlaa.PRangMore (S42 S51 z42 z51 k42 k51 k42_open k51_open eqA42 rd_T42 rd_T51)
/-- No range is there twice. -/
def Uniq (L : List S42) : Prop := L.Pairwise fun x y => isx x.f0 x.f1 x.f2 y = false
theorem isx_symm (x y : S42) : isx x.f0 x.f1 x.f2 y = isx y.f0 y.f1 y.f2 x := by
  unfold isx
  rw [Bool.beq_comm, show (y.f1.toList == x.f1.toList) = (x.f1.toList == y.f1.toList) from Bool.beq_comm, show (y.f2 == x.f2) = (x.f2 == y.f2) from Bool.beq_comm]
theorem isx_self (x : S42) : isx x.f0 x.f1 x.f2 x = true := by simp [isx]
theorem del_uniq {L : List S42} (low high : ByteArray) (prio : Int) (h : Uniq L) : Uniq (del low high prio L) := h.filter _
theorem put_uniq {L : List S42} (low high : ByteArray) (prio v : Int) (h : Uniq L) : Uniq (put E21 low high prio v L) := by
  unfold put
  split
  · refine List.pairwise_append.2 ⟨del_uniq low high prio h, by simp, fun x hx y hy => ?_⟩
    simp at hy
    subst hy
    rw [isx_symm]
    have := (List.mem_filter.1 hx).2
    simpa using this
  · exact h
theorem acts_uniq : ∀ (l : List S51) (L : List S42), Uniq L → Uniq (l.foldl act L)
  | [], L, h => h
  | a :: r, L, h => acts_uniq r (act L a) (by
    unfold act
    split
    · exact del_uniq _ _ _ h
    · exact put_uniq _ _ _ _ h)
theorem del_at {L : List S42} (h : Uniq L) (k : Nat) (hk : k < L.length) : del L[k].f0 L[k].f1 L[k].f2 L = L.take k ++ L.drop (k + 1) := by
  have hL : L = L.take k ++ L[k] :: L.drop (k + 1) := by rw [← List.drop_eq_getElem_cons hk, List.take_append_drop]
  generalize L[k] = x at *
  generalize hA : L.take k = A at *
  generalize hB : L.drop (k + 1) = B at *
  clear hA hB
  subst hL
  obtain ⟨h1, h2, h3⟩ := List.pairwise_append.1 h
  obtain ⟨h4, h5⟩ := List.pairwise_cons.1 h2
  unfold del
  rw [List.filter_append, List.filter_cons, isx_self]
  rw [List.filter_eq_self.2 (fun y hy => by rw [isx_symm, h3 y hy x (List.mem_cons_self ..)]; rfl), List.filter_eq_self.2 (fun y hy => by rw [h4 y hy]; rfl)]
  rfl
theorem bst_app (L : List S42) (key : ByteArray) (b : List S42) : ∀ (a : List S42) (i : Nat) (o : Option Nat), bst L key i o (a ++ b) = bst L key (i + a.length) (bst L key i o a) b
  | [], i, o => by cases o <;> simp [bst]
  | x :: r, i, none => by
    rw [List.cons_append, bst, bst, bst_app L key b r, List.length_cons]
    congr 1; omega
  | x :: r, i, some k => by
    rw [List.cons_append, bst, bst, bst_app L key b r, List.length_cons]
    congr 1; omega
/-- A best one that is beaten later on might as well not have been. -/
theorem weak (L : List S42) (key : ByteArray) (hk : key.size = 3) (k : Nat) (x : S42) (hx : L.getD k z42 = x) : ∀ (r : List S42) (i : Nat) (o : Option S42), k < i → L.drop i = r → (∀ y, o = some y → y.f2 ≤ x.f2) →
    bst L key i (some k) r ≠ some k → best (win E21 key) (some x) r = best (win E21 key) o r
  | [], i, o, _, _, _, h => absurd rfl h
  | y :: r, i, o, hi, hd, ho, h => by
    have hw : wthn y key = win E21 key y := by simp [wthn, hk]
    have hd2 : L.drop (i + 1) = r := by
      have := congrArg (List.drop 1) hd
      rw [List.drop_drop] at this
      simpa using this
    rw [bst, hw, hx] at h
    rw [best]
    cases hp : win E21 key y
    · rw [hp, Bool.false_and, if_neg (by simp)] at h
      rw [Bool.false_and, if_neg (by simp)]
      have ih := weak L key hk k x hx r (i + 1) o (by omega) hd2 ho h
      cases o with
      | none => rw [best, hp, if_neg (by simp)]; exact ih
      | some z => rw [best, hp, Bool.false_and, if_neg (by simp)]; exact ih
    · rw [hp, Bool.true_and] at h
      rw [Bool.true_and]
      by_cases hlt : x.f2 < y.f2
      · rw [if_pos (decide_eq_true hlt)]
        cases o with
        | none => rw [best, hp, if_pos rfl]
        | some z =>
          have := ho z rfl
          rw [best, hp, Bool.true_and, if_pos (decide_eq_true (by omega))]
      · rw [if_neg (by simpa using hlt)] at h ⊢
        cases o with
        | none =>
          rw [best, hp, if_pos rfl]
          exact weak L key hk k x hx r (i + 1) (some y) (by omega) hd2 (fun z e => by injection e with e; subst e; omega) h
        | some z =>
          have hz := ho z rfl
          rw [best, hp, Bool.true_and]
          by_cases hzy : z.f2 < y.f2
          · rw [if_pos (decide_eq_true hzy)]
            exact weak L key hk k x hx r (i + 1) (some y) (by omega) hd2 (fun z e => by injection e with e; subst e; omega) h
          · rw [if_neg (by simpa using hzy)]
            exact weak L key hk k x hx r (i + 1) (some z) (by omega) hd2 (fun z' e => by injection e with e; subst e; omega) h
/-- One that is not the best one, taken away, leaves what is found. -/
theorem find_less (L : List S42) (key : ByteArray) (k : Nat) (hk : k < L.length) (hne : bst L key 0 none L ≠ some k) : find E21 (L.take k ++ L.drop (k + 1)) key = find E21 L key := by
  have hE : lastE E21 = 3 := rfl
  unfold find
  rw [hE]
  by_cases h3 : key.size = 3
  · rw [show (key.size == 3) = true from beq_iff_eq.2 h3, if_pos rfl, if_pos rfl]
    have key2 : best (win E21 key) none (L.take k ++ L.drop (k + 1)) = best (win E21 key) none L := by
      have hL : L = L.take k ++ L[k] :: L.drop (k + 1) := by rw [← List.drop_eq_getElem_cons hk, List.take_append_drop]
      have hgk : L.getD k z42 = L[k] := by rw [List.getD_eq_getElem?_getD, List.getElem?_eq_getElem hk]; rfl
      have hlt : (L.take k).length = k := by rw [List.length_take]; omega
      have e1 : best (win E21 key) none L = best (win E21 key) (best (win E21 key) none (L.take k)) (L[k] :: L.drop (k + 1)) := by
        conv => lhs; rw [hL]
        rw [best_app]
      have e2 : bst L key 0 none L = bst L key k (bst L key 0 none (L.take k)) (L[k] :: L.drop (k + 1)) := by
        have : bst L key 0 none L = bst L key 0 none (L.take k ++ L[k] :: L.drop (k + 1)) := by rw [← hL]
        rw [this, bst_app, hlt, Nat.zero_add]
      have hpre : ∀ (r rest : List S42) (i : Nat) (o : Option Nat), L.drop i = r ++ rest → (bst L key i o r).map (fun k => L.getD k z42) = best (win E21 key) (o.map (fun k => L.getD k z42)) r := by
        intro r
        induction r with
        | nil => intro rest i o _; cases o <;> rfl
        | cons x r ih =>
          intro rest i o h
          have hx : L.getD i z42 = x := by
            have : L[i]? = some x := by
              have h1 := congrArg (fun q => q[0]?) h
              simpa using h1
            rw [List.getD_eq_getElem?_getD, this]
            rfl
          have hd : L.drop (i + 1) = r ++ rest := by
            have := congrArg (List.drop 1) h
            rw [List.drop_drop] at this
            simpa using this
          have hw : ∀ y, wthn y key = win E21 key y := fun y => by simp [wthn, h3]
          cases o with
          | none =>
            rw [bst, Option.map_none, best, ih rest (i + 1) _ hd, hw]
            congr 1
            split <;> simp [← List.getD_eq_getElem?_getD, hx]
          | some k =>
            rw [bst, Option.map_some, best, ih rest (i + 1) _ hd, hw]
            congr 1
            split <;> simp [← List.getD_eq_getElem?_getD, hx]
      have hrel := hpre (L.take k) (L.drop k) 0 none (by rw [List.drop_zero, List.take_append_drop])
      rw [Option.map_none] at hrel
      have hbl := bst_lt L key (L.take k) 0 none (by rw [hlt]; omega) (fun k e => by cases e)
      rw [e2] at hne
      rw [best_app, e1, ← hrel]
      have hw : wthn L[k] key = win E21 key L[k] := by simp [wthn, h3]
      generalize bst L key 0 none (L.take k) = o at *
      cases o with
      | none =>
        rw [bst, hw] at hne
        rw [Option.map_none, best]
        cases hp : win E21 key L[k]
        · rfl
        · rw [hp, if_pos rfl] at hne
          rw [if_pos rfl]
          exact (weak L key h3 k L[k] hgk _ (k + 1) none (by omega) rfl (fun y e => by cases e) hne).symm
      | some j =>
        rw [bst, hw] at hne
        rw [Option.map_some, best]
        cases hp : (win E21 key L[k] && decide ((L.getD j z42).f2 < L[k].f2))
        · rfl
        · rw [hp, if_pos rfl] at hne
          rw [if_pos rfl]
          have hlt2 : (L.getD j z42).f2 < L[k].f2 := of_decide_eq_true (by rw [Bool.and_eq_true] at hp; exact hp.2)
          exact (weak L key h3 k L[k] hgk _ (k + 1) (some (L.getD j z42)) (by omega) rfl (fun y e => by injection e with e; subst e; omega) hne).symm
    rw [key2]
  · rw [show (key.size == 3) = false from beq_eq_false_iff_ne.2 h3]
    rfl
end Go.Proofs.Ytedbnppdfcljlaa.Base
