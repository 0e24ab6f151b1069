/- For the laws of both kinds of store: plain lemmas. Conditions: as each says. -/
import Derived.Test.YtdobpieiobikpaaDoes
import Derived.Test.YtdobpieiobikpaaAnewPure
set_option linter.unusedVariables false
set_option linter.unusedSimpArgs false
namespace Go.Proofs.Ytdobpieiobikpaa.Base
open Go Go.RowKit Go.Proofs.Ytdobpieiobikpaa.Mem Go.Proofs.YtdobpieiobikpaaW.PrintWords Go.Proofs.YtdobpieiobikpaaW.PrintLast
theorem putE_le {β : Type} (l : List (Int × β)) (k : Int) (v : β) : (putE l k v).length ≤ l.length + 1 := by
  induction l with
  | nil => simp [putE]
  | cons p r ih =>
    simp only [putE]
    split
    · simp
    · simp only [List.length_cons]; omega
theorem delE_le {β : Type} (l : List (Int × β)) (k : Int) : (delE l k).length ≤ l.length + 1 := by
  induction l with
  | nil => simp [delE]
  | cons p r ih =>
    simp only [delE]
    split
    · simp only [List.length_cons]; omega
    · simp only [List.length_cons]; omega
def StLe (n : Nat) (S : St) : Prop := S.c.length ≤ n ∧ S.r.length ≤ n
theorem StLe.mono {n m : Nat} {S : St} (h : StLe n S) (hm : n ≤ m) : StLe m S := ⟨Nat.le_trans h.1 hm, Nat.le_trans h.2 hm⟩
theorem StLe.c {n : Nat} {S : St} (h : StLe n S) (l : List (Int × (Int × Int))) (hl : l.length ≤ S.c.length + 1) : StLe (n + 1) { S with c := l } := ⟨by have := h.1; show l.length ≤ n + 1; omega, by have := h.2; show S.r.length ≤ n + 1; omega⟩
theorem StLe.r {n : Nat} {S : St} (h : StLe n S) (l : List (Int × List Int)) (hl : l.length ≤ S.r.length + 1) : StLe (n + 1) { S with r := l } := ⟨by have := h.1; show S.c.length ≤ n + 1; omega, by have := h.2; show l.length ≤ n + 1; omega⟩
theorem setR_le {n : Nat} {S : St} (h : StLe n S) (id a v : Int) : StLe (n + 1) (setR S id a v) := by
  unfold setR
  split
  · exact h.mono (by omega)
  · exact h.r _ (putE_le _ _ _)
theorem doesS_le {n : Nat} {S : St} (h : StLe n S) (y : Act) : StLe (n + 1) (doesS S y) := by
  have h1 := h.mono (Nat.le_succ n)
  unfold doesS
  split
  · unfold stepS
    split
    · unfold putC; split
      · exact h1
      · exact h.c _ (putE_le _ _ _)
    · split
      · unfold delC; split
        · exact h.c _ (delE_le _ _)
        · exact h1
      · split
        · unfold cnt; split
          · exact h1
          · split
            · exact h1
            · exact h.c _ (putE_le _ _ _)
        · split
          · unfold putR; split
            · exact h1
            · split
              · exact h1
              · exact h.r _ (putE_le _ _ _)
          · split
            · unfold delR; split
              · exact h.r _ (delE_le _ _)
              · exact h1
            · split
              · unfold save; split
                · exact setR_le h _ _ _
                · exact h1
              · unfold bump; split
                · exact setR_le h _ _ _
                · exact h1
  · exact h1
theorem rto_fresh (w : World) : Rto (w.alloc (.cells #[.slice none 0 0, .slice none 0 0] 48)) w.heap.size (New w (w.alloc (.cells #[.slice none 0 0, .slice none 0 0] 48))) St.nil ∧ Below w.heap.size w (w.alloc (.cells #[.slice none 0 0, .slice none 0 0] 48)) := by
  have hm : RM (w.alloc (.cells #[.slice none 0 0, .slice none 0 0] 48)) w.heap.size (.slice none 0 0) (.slice none 0 0) St.nil [] :=
    ⟨Blk.new w 48 _, World.ownsRow_nil _ _ _ _, World.ownsRow_nil _ _ _ _, (fun p hp => by simp at hp), by simp, rfl, ⟨by simp [keys, St.nil], by simp [keys, St.nil], (fun p hp => by simp [St.nil] at hp), (fun p hp => by simp [St.nil] at hp)⟩⟩
  refine ⟨⟨fun k hk => hk.2, _, _, [], hm, fun k hk => ?_⟩, (Below.refl _ _).alloc (Nat.le_refl _) _⟩
  have := ROwn.lt hm hk
  rcases hk with rfl | hk | hk | hk
  · exact ⟨Nat.le_refl _, this⟩
  · cases hk
  · cases hk
  · simp at hk
theorem Sto.wfC {w : World} {a : Nat} {O : Nat → Prop} {S : St} (h : Sto w a O S) : ∀ k ∈ keys S.c, (Lit.int .i64 k).wf = true := by
  obtain ⟨_, pc, pr, rr, h, _⟩ := h
  intro k hk
  obtain ⟨p, hp, rfl⟩ := List.mem_map.1 hk
  have hc := h.cm
  cases pc with
  | none =>
    have : S.c = [] := List.map_eq_nil_iff.1 (show cRow S.c = [] from hc)
    rw [this] at hp
    cases hp
  | some b => exact ML.wf hc (p.1, cVal p.2) (List.mem_map.2 ⟨p, hp, rfl⟩)
theorem Sto.wfR {w : World} {a : Nat} {O : Nat → Prop} {S : St} (h : Sto w a O S) : ∀ k ∈ keys S.r, (Lit.int .i64 k).wf = true := by
  obtain ⟨_, pc, pr, rr, h, _⟩ := h
  intro k hk
  rw [show S.r = absR rr from h.abs, keys_absR] at hk
  obtain ⟨p, hp, rfl⟩ := List.mem_map.1 hk
  have hc := h.rm
  cases pr with
  | none =>
    have : rr = [] := List.map_eq_nil_iff.1 (show rRow rr = [] from hc)
    rw [this] at hp
    cases hp
  | some b => exact ML.wf hc (p.1, rVal p.2) (List.mem_map.2 ⟨p, hp, rfl⟩)
/-- A row without a number twice, within another one that is no longer: all of that one. -/
theorem sub_all : ∀ {a b : List Int}, a.Nodup → a ⊆ b → b.length ≤ a.length → ∀ k ∈ b, k ∈ a
  | [], b, _, _, hl, k, hk => by
    have : b = [] := List.length_eq_zero_iff.1 (by simpa using hl)
    rw [this] at hk
    cases hk
  | x :: r, b, ha, hs, hl, k, hk => by
    have hxb : x ∈ b := hs (List.mem_cons_self ..)
    by_cases hkx : k = x
    · rw [hkx]; exact List.mem_cons_self ..
    · have h1 : r ⊆ b.erase x := fun y hy => by
        have hyx : y ≠ x := fun e => (List.nodup_cons.1 ha).1 (e ▸ hy)
        exact (List.mem_erase_of_ne hyx).2 (hs (List.mem_cons_of_mem _ hy))
      have h2 : (b.erase x).length ≤ r.length := by
        rw [List.length_erase_of_mem hxb]
        simp only [List.length_cons] at hl
        omega
      exact List.mem_cons_of_mem _ (sub_all (List.nodup_cons.1 ha).2 h1 h2 k ((List.mem_erase_of_ne hkx).2 hk))
theorem sameL_half {β : Type} [DecidableEq β] {c d : List (Int × β)} (hc : (keys c).Nodup) (h : sameL c d = true) : sameL d c = true := by
  have h1 := of_decide_eq_true h
  refine decide_eq_true ⟨h1.1.symm, fun k hk => ?_⟩
  have hsub : keys c ⊆ keys d := fun j hj => by
    have e := h1.2 j hj
    by_cases hn : j ∈ keys d
    · exact hn
    · rw [lookE_none.2 hn] at e
      exact absurd hj (lookE_none.1 e.symm)
  have hkc : k ∈ keys c := by
    have hl : (keys d).length ≤ (keys c).length := by unfold keys; rw [List.length_map, List.length_map, h1.1]; exact Nat.le_refl _
    exact sub_all hc hsub hl k hk
  exact (h1.2 k hkc).symm
theorem sameL_comm {β : Type} [DecidableEq β] {c d : List (Int × β)} (hc : (keys c).Nodup) (hd : (keys d).Nodup) : sameL c d = sameL d c := by
  cases h : sameL c d with
  | true => exact (sameL_half hc h).symm
  | false =>
    cases h2 : sameL d c with
    | false => rfl
    | true => rw [sameL_half hd h2] at h; cases h
theorem sameS_comm {S T : St} (hS : S.ok) (hT : T.ok) : sameS S T = sameS T S := by
  unfold sameS
  rw [sameL_comm hS.ck hT.ck, sameL_comm hS.rk hT.rk]
end Go.Proofs.Ytdobpieiobikpaa.Base
