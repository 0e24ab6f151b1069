/- A row of buckets as news for an append. Plain lemmas. Conditions: as each lemma says. -/
import Derived.Test.YtpmckbpplkkgaaaElsePure
import Derived.Test.YtpmckbpplkkgaaaBuckets
set_option linter.unusedVariables false
set_option linter.unusedSimpArgs false
namespace Go.Proofs.Ytpmckbpplkkgaaa.Base
open Go Go.RowKit Go.Proofs.Ytpmckbpplkkgaaa.Mem Go.Proofs.YtpmckbpplkkgaaaW.PrintWords Go.Proofs.YtpmckbpplkkgaaaW.PrintLast Go.Proofs.Ytpmckbpplkkgaaa.Fl
open Go.Proofs.Ytpmckbpplkkgaaa.PGroupTells (S34 z34 k34 k34_open k34_mk)
/-- The cells of a row of buckets, one by one. -/
theorem news_34 {w : World} {A : Option Addr} {l : List S34} (h : Kd.C k34 w A l.length l) (hl : 0 < l.length) : ∃ ad, A = some ad ∧ ∀ j u, (sv l)[j]? = some u → w.cell? (ad.add j) = some u := by
  obtain ⟨g0, o0, cs0, hA, -, -, -⟩ := row_at h (by decide : 0 < k34.sz) hl
  refine ⟨_, hA, fun j u hu => ?_⟩
  have hj : j < (sv l).length := (List.getElem?_eq_some_iff.1 hu).1
  rw [sv_len] at hj
  have hi : j / 2 < l.length := by omega
  obtain ⟨g, o, cs, hA2, hK, -, hcell⟩ := row_at h (by decide : 0 < k34.sz) hi
  obtain rfl := k34_open hK
  have hsz : k34.sz = 2 := rfl
  rw [hsz] at hcell
  rw [hA] at hA2
  obtain ⟨rfl, rfl⟩ : g0 = g ∧ o0 = o := by simpa using hA2
  have hlt : j % 2 < 2 := Nat.mod_lt _ (by decide)
  have hv : ∃ v, [Value.int .u64 l[j / 2].f0, Value.int .i64 l[j / 2].f1][j % 2]? = some v := ⟨_, List.getElem?_eq_getElem (by exact hlt)⟩
  obtain ⟨v, hv⟩ := hv
  have e1 := hcell (j % 2) v hv
  have e2 := sv_get l (j / 2) (j % 2) l[j / 2] v (List.getElem?_eq_getElem hi) hv
  have hd : j / 2 * 2 + j % 2 = j := by omega
  rw [hd, hu] at e2
  obtain rfl := Option.some.inj e2
  rw [Mem.add_at]
  rw [show o0 + j = o0 + j / 2 * 2 + j % 2 by omega]
  exact e1
end Go.Proofs.Ytpmckbpplkkgaaa.Base
