/- A slot is set; twice as many slots: double. Conditions: as each contract says. -/
import Derived.Test.YtfpnedooipfpoaaGet
import Derived.Laws.CopyOwn
set_option linter.unusedVariables false
set_option linter.unusedSimpArgs false
namespace Go.Proofs.Ytfpnedooipfpoaa.Base
open Go Go.RowKit Go.Proofs.Ytfpnedooipfpoaa Go.Proofs.Ytfpnedooipfpoaa.Ex Go.Proofs.Ytfpnedooipfpoaa.Mem Go.Proofs.Ytfpnedooipfpoaa.Math Go.Proofs.YtfpnedooipfpoaaW.PrintWords Go.Proofs.YtfpnedooipfpoaaW.PrintLast Go.Proofs.Ytfpnedooipfpoaa.PExactHalf
theorem sc_set (L : Slots) (i : Nat) (hi : i < L.length) (o : Option Ent) {b k v : Value} (ho : sCells o = [b, k, v]) : (((sc L).set (i * 3) b).set (i * 3 + 1) k).set (i * 3 + 2) v = sc (L.set i o) := by
  induction L generalizing i with
  | nil => simp at hi
  | cons p r ih =>
    obtain ⟨x, y, z, hp⟩ : ∃ x y z, sCells p = [x, y, z] := by cases p <;> exact ⟨_, _, _, rfl⟩
    have hc : sc (p :: r) = x :: y :: z :: sc r := by show sCells p ++ sc r = _; rw [hp]; rfl
    cases i with
    | zero =>
      rw [hc, List.set_cons_zero]
      show _ = sCells o ++ sc r
      rw [ho]
      rfl
    | succ i =>
      rw [hc, List.set_cons_succ]
      have hc2 : sc (p :: r.set i o) = x :: y :: z :: sc (r.set i o) := by show sCells p ++ sc (r.set i o) = _; rw [hp]; rfl
      rw [hc2, ← ih i (by simpa using hi), show (i + 1) * 3 = i * 3 + 3 by omega, show i * 3 + 3 + 1 = i * 3 + 1 + 3 by omega, show i * 3 + 3 + 2 = i * 3 + 2 + 3 by omega]
      rfl
section
variable {w w1 : World} {a g cap : Nat} {L : Slots} {n : Int}
theorem TM.set3 (h : TM w a g cap L n) (i : Nat) (hi : i < L.length) (o : Option Ent) {b k v : Value} (ho : sCells o = [b, k, v]) :
    TM (((w.setCell ⟨g, i * 3, none⟩ b).setCell ⟨g, i * 3 + 1, none⟩ k).setCell ⟨g, i * 3 + 2, none⟩ v) a g cap (L.set i o) n ∧ Fp (fun x => x = g) w (((w.setCell ⟨g, i * 3, none⟩ b).setCell ⟨g, i * 3 + 1, none⟩ k).setCell ⟨g, i * 3 + 2, none⟩ v) := by
  have f1 := (((Fp.refl (fun x => x = g) w).set_ (i := i * 3) b (fun _ => rfl)).set_ (i := i * 3 + 1) k (fun _ => rfl)).set_ (i := i * 3 + 2) v (fun _ => rfl)
  have r1 := (((h.row.stored (i * 3) b).1.stored (i * 3 + 1) k).1.stored (i * 3 + 2) v).1
  rw [sc_set L i hi o ho] at r1
  refine ⟨⟨?_, ?_⟩, f1⟩
  · rw [List.length_set]
    exact h.box.fp f1 (fun e => h.ne e.symm)
  · rw [List.length_set]
    exact r1
theorem TM.num (h : TM w a g cap L n) (m : Int) : TM (w.setCell ⟨a, 1, none⟩ (.int .i64 m)) a g cap L m ∧ Fp (fun x => x = a) w (w.setCell ⟨a, 1, none⟩ (.int .i64 m)) := by
  have f1 := (Fp.refl (fun x => x = a) w).set_ (i := 1) (.int .i64 m) (fun _ => rfl)
  exact ⟨⟨h.box.set_ 1 _, own_fp h.row f1 (fun k e => by injection e with e; rw [← e]; exact h.ne)⟩, f1⟩
end
/-! ### copy, elements of several cells -/
theorem run_copy_cellsN (P : Program) (w : World) (dT sT ty elem : TypeId) (s g dLen dCap : Nat) (a : Addr) (sLen sCap : Nat) (cur : Array Value) (t : TypeId) (cs : List Value)
    (hu : P.underlying dT = some (.slice elem)) (hs : (P.info? elem).map (·.size) = some s)
    (hg : w.heap[g]? = some (.cells cur t (0, 0))) (hn : cs.length = Nat.min sLen dLen * s)
    (hsrc : ∀ j v, cs[j]? = some v → w.cell? (a.add j) = some v) (hfit : cs.length = cur.size) (h1 : ∀ v ∈ cs, v.oneCell' = true) :
    (Builtin.copy_ #[dT, sT] ty #[.slice (some ⟨g, 0, none⟩) dLen dCap, .slice (some a) sLen sCap]).run P w =
      .ok (goInt (Nat.min sLen dLen)) (w.setRow g cs.toArray) := by
  have hl := run_loadCells_list (P := P) w a cs hsrc
  have hst := run_storeCells_at P g 0 t cs 0 cur w hg (by simpa using Nat.le_of_eq hfit) h1
  have e : (cur.toList.take (0 + 0) ++ cs ++ cur.toList.drop (0 + 0 + cs.length)).toArray = cs.toArray := by rw [hfit, Nat.add_zero, Nat.zero_add, List.take_zero, List.nil_append, List.drop_of_length_le (by simp), List.append_nil]
  rw [e] at hst
  cases hq : P.info? elem with
  | none => simp [hq] at hs
  | some i =>
    have hi : i.size = s := by simpa [hq] using hs
    simp [Builtin.copy_, run_underlying hu, Builtin.lenOf, Builtin.firstCells, sizeOf, typeInfo, hq, hi, ← hn, hl, hst]
theorem sc_one (L : Slots) : ∀ v ∈ sc L, v.oneCell' = true := by
  intro v hv
  obtain ⟨o, -, ho⟩ := List.mem_flatMap.1 hv
  cases o with
  | none =>
    simp only [sCells, List.mem_cons, List.not_mem_nil, or_false] at ho
    rcases ho with rfl | rfl | rfl <;> rfl
  | some e =>
    simp only [sCells, List.mem_cons, List.not_mem_nil, or_false] at ho
    rcases ho with rfl | rfl | rfl <;> rfl
theorem run_copy_slots (w : World) (B : Nat) (w0 : World) (hb : Below B w0 w) (L : Slots) (m ty g gs cap caps : Nat) (hm : L.length = m) (hBg : B ≤ g)
    (hr : w.ownsRow B 45 3 (.slice (some ⟨g, 0, none⟩) m m) m (sc (List.replicate m none))) (hsr : w.ownsRow 0 45 3 (.slice (some ⟨gs, 0, none⟩) m caps) m (sc L)) :
    ∃ w', (Builtin.copy_ #[40, 40] ty #[.slice (some ⟨g, 0, none⟩) m cap, .slice (some ⟨gs, 0, none⟩) m caps]).run Try.prog w = .ok (.int .i64 (m : Int)) w' ∧ w'.ownsRow B 45 3 (.slice (some ⟨g, 0, none⟩) m m) m (sc L) ∧ Below B w0 w' ∧ w'.heap.size = w.heap.size := by
  subst hm
  obtain ⟨i45, hi45, hz0, hz1, hz2⟩ := info_parts info45
  obtain ⟨h0, ⟨h', _⟩ | ⟨g', cap', cur, h', hBg', hg, hnc, hcm, hcs, htake⟩⟩ := hr
  · simp at h'
  simp only [Value.slice.injEq, Option.some.injEq, Addr.mk.injEq, and_true, true_and] at h'
  obtain ⟨rfl, rfl⟩ := h'
  have hlen : (sc L).length = L.length * 3 := flat_len sc_f L
  have hcur : (sc L).length = cur.size := by
    have : cur.size = L.length * 3 := by simpa using hcs
    omega
  have hrun := run_copy_cellsN Try.prog w 40 40 ty 45 3 g L.length cap ⟨gs, 0, none⟩ L.length caps cur 45 (sc L) Try.underlying40 (by rw [hi45]; exact congrArg some hz1) hg (by rw [hlen]; congr 1; exact (Nat.min_self _).symm)
    (fun j v hj => by rw [Mem.add_at, Nat.zero_add, hsr.cellAt j (by have := (List.getElem?_eq_some_iff.1 hj).1; rw [hlen] at this; exact this)]; exact hj) hcur (sc_one L)
  rw [show Nat.min L.length L.length = L.length from Nat.min_self _] at hrun
  exact ⟨_, hrun, ⟨by rw [hlen], .inr ⟨g, L.length, (sc L).toArray, rfl, hBg', setRow_heap w g cur (sc L).toArray 45 (0, 0) hg, Nat.le_refl _, hcm, by simpa using hlen, by rw [← hlen]; simp⟩⟩, below_setRow hb hBg _, by simp [World.setRow]⟩
end Go.Proofs.Ytfpnedooipfpoaa.Base
