/- A table that is made of another one's keys. Plain lemmas; no condition. -/
import Derived.Test.YtfpnedooipfpoaaReach
set_option linter.unusedVariables false
set_option linter.unusedSimpArgs false
namespace Go.Proofs.Ytfpnedooipfpoaa.Base
open Go Go.RowKit Go.Proofs.Ytfpnedooipfpoaa Go.Proofs.Ytfpnedooipfpoaa.Ex Go.Proofs.Ytfpnedooipfpoaa.Mem Go.Proofs.Ytfpnedooipfpoaa.Math Go.Proofs.YtfpnedooipfpoaaW.PrintWords Go.Proofs.YtfpnedooipfpoaaW.PrintLast Go.Proofs.Ytfpnedooipfpoaa.PExactHalf
structure WhN (T Tn : Tb) (ks : List Key) (i : Nat) : Prop where
  has : ∀ k v, has Tn.L k v ↔ k ∈ ks.drop i ∧ Ex.has T.L k v
  n : Tn.n = ks.length - i
theorem wh_new (T : Tb) (ks : List Key) : WhN T new8 ks ks.length := ⟨fun k v => ⟨fun h => absurd h (new_none k v), fun h => by rw [List.drop_length] at h; cases h.1⟩, by show 0 = _; omega⟩
theorem has_one {T : Tb} (h : Ex.Good HH T) {k : Key} {v v' : Int} (h1 : Ex.has T.L k v) (h2 : Ex.has T.L k v') : v = v' := by
  have e1 := get_has hlim h h1
  rw [get_has hlim h h2] at e1
  exact (Prod.mk.inj e1).1.symm
theorem wh_next {T Tn : Tb} {ks : List Key} {j : Nat} {v : Int} (hT : Ex.Good HH T) (hn : Ex.Good HH Tn) (hd : ks.Nodup) (h : WhN T Tn ks (j + 1)) (hj : j < ks.length) (hv : Ex.has T.L ks[j] v) : WhN T (put HH Tn ks[j] v).2 ks j := by
  have hdr : ks.drop j = ks[j] :: ks.drop (j + 1) := List.drop_eq_getElem_cons hj
  have hno : ks[j] ∉ ks.drop (j + 1) := by
    have h1 : (ks.drop j).Nodup := hd.sublist (List.drop_sublist j ks)
    rw [hdr] at h1
    exact (List.nodup_cons.1 h1).1
  rcases put_spec hlim hn ks[j] v with ⟨v0, T2, h0, -⟩ | ⟨T2, -, e, h1, h2, h3, h4, -⟩
  · exact absurd ((h.has _ _).1 h0).1 hno
  · rw [e]
    refine ⟨fun k v2 => ?_, ?_⟩
    · rw [hdr]
      constructor
      · intro h5
        rcases (h4 k v2).1 h5 with ⟨rfl, rfl⟩ | ⟨-, h6⟩
        · exact ⟨List.mem_cons_self, hv⟩
        · have := (h.has _ _).1 h6
          exact ⟨List.mem_cons_of_mem _ this.1, this.2⟩
      · rintro ⟨h5, h6⟩
        rcases List.mem_cons.1 h5 with rfl | h5
        · exact (h4 _ _).2 (.inl ⟨rfl, has_one hT h6 hv⟩)
        · refine (h4 _ _).2 (.inr ⟨fun e => ?_, (h.has _ _).2 ⟨h5, h6⟩⟩)
          rw [e] at h5
          exact hno h5
    · show T2.n = _
      have := h.n
      omega
/-- At its end it tells what the other one tells. -/
theorem wh_get {T Tn : Tb} {ks : List Key} (hT : Ex.Good HH T) (hn : Ex.Good HH Tn) (h : WhN T Tn ks 0) {k : Key} (hk : k ∈ ks) {v : Int} (hv : Ex.has T.L k v) : Ex.get HH Tn k = (v, true) :=
  get_has hlim hn ((h.has _ _).2 ⟨by rw [List.drop_zero]; exact hk, hv⟩)
end Go.Proofs.Ytfpnedooipfpoaa.Base
