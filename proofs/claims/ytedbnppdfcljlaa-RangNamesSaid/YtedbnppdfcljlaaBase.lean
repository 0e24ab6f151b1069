/- What a set of ranges is in memory, and what its small functions tell. Conditions: as each contract says. -/
import Derived.Test.YtedbnppdfcljlaaProg
import Derived.Test.YtedbnppdfcljlaaPRangMorex1
import Derived.Test.YtedbnppdfcljlaaFoot
import Derived.Lib.Hide
import Derived.Deep.QuietTactic
import Derived.BigQuiet
import Derived.IntWalk
import Derived.Deep.RegionHeld3
import Derived.Deep.RegionLaw
import Derived.Deep.AppendLies
import Derived.StillTailTactics
import Derived.Laws.EntriesVeiled
import Derived.Laws.Cover1
set_option linter.unusedVariables false
set_option linter.unusedSimpArgs false
namespace Go.Proofs.Ytedbnppdfcljlaa.Base
open Go Go.RowKit Go.Proofs.Ytedbnppdfcljlaa.Mem Go.Proofs.YtedbnppdfcljlaaW.PrintWords
open Go.Proofs.Ytedbnppdfcljlaa.PRangMore (S42 S51 z42 z51 k42 k51 k42_open k51_open eqA42)
abbrev ptr (p : Nat) : Value := .pointer (some ⟨p, 0, none⟩)
/-- A range's cells. -/
def c42 (x : S42) : List Value := [.string x.f0, .string x.f1, .int .i64 x.f2, .int .i64 x.f3]
def cs42 (l : List S42) : List Value := l.flatMap c42
theorem cs42_len (l : List S42) : (cs42 l).length = l.length * 4 := by
  induction l with
  | nil => rfl
  | cons x r ih => simp only [cs42, List.flatMap_cons, List.length_append, List.length_cons] at ih ⊢; rw [ih]; simp [c42]; omega
theorem cs42_app (a b : List S42) : cs42 (a ++ b) = cs42 a ++ cs42 b := by simp [cs42]
theorem cs42_at : ∀ (l : List S42) (i j : Nat) (h : i < l.length), j < 4 → (cs42 l)[i * 4 + j]? = (c42 l[i])[j]?
  | x :: r, 0, j, _, hj => by
    simp only [cs42, List.flatMap_cons, Nat.zero_mul, Nat.zero_add, List.getElem_cons_zero]
    exact List.getElem?_append_left (by simp [c42]; omega)
  | x :: r, i + 1, j, h, hj => by
    have := cs42_at r i j (by simpa using h) hj
    simp only [cs42, List.flatMap_cons] at this ⊢
    rw [List.getElem?_append_right (by simp [c42]; omega)]
    simp only [List.getElem_cons_succ]
    rw [← this]
    congr 1
    simp [c42]; omega
def iv (l : List Nat) : List Value := l.map fun (n : Nat) => Value.int .i64 (n : Int)
/-- A set: its block, where its parts end, its ranges. -/
structure SetAt (w : World) (g : Nat) (ev v : Value) (ends : List Nat) (l : List S42) : Prop where
  blk : Blk w g 54 #[ev, v]
  ends : w.ownsRow 0 3 1 ev ends.length (iv ends)
  rows : w.ownsRow 0 42 4 v l.length (cs42 l)
def Own (g : Nat) (v : Value) : Nat → Prop := fun k => k = g ∨ v.ownBlock = some k
section
variable {w w1 : World} {g : Nat} {ev v : Value} {ends : List Nat} {l : List S42}
theorem SetAt.fp {S : Nat → Prop} (h : SetAt w g ev v ends l) (hf : Fp S w w1) (h1 : ¬ S g) (h2 : ∀ k, ev.ownBlock = some k → ¬ S k) (h3 : ∀ k, v.ownBlock = some k → ¬ S k) : SetAt w1 g ev v ends l :=
  ⟨h.blk.fp hf h1, own_fp h.ends hf h2, own_fp h.rows hf h3⟩
theorem SetAt.go (h : SetAt w g ev v ends l) (hb : Below w.heap.size w w1) : SetAt w1 g ev v ends l := h.fp (Fp.of_below hb (fun _ => False)) (fun e => e) (fun _ _ e => e) (fun _ _ e => e)
theorem SetAt.lt (h : SetAt w g ev v ends l) : g < w.heap.size := h.blk.lt
end
/-- The value of one row's cell. -/
theorem own_at {w : World} {N e sz n : Nat} {v : Value} {xs : List Value} (h : w.ownsRow N e sz v n xs) (i : Nat) (hi : i < n * sz) : ∃ g c, v = .slice (some ⟨g, 0, none⟩) n c ∧ w.cell? ⟨g, i, none⟩ = xs[i]? ∧ n ≤ c := by
  rcases h.2 with ⟨rfl, rfl⟩ | ⟨g, cap, cur, rfl, hb, hh, hc, _⟩
  · simp at hi
  · exact ⟨g, cap, rfl, h.cellAt i hi, hc⟩

/-- Where the last part ends. -/
def lastE (ends : List Nat) : Nat := ends.getLastD 0
/-- size: where the last part ends. -/
theorem size_any (g : Nat) (ev v : Value) (ends : List Nat) (l : List S42) (w : World) (h : SetAt w g ev v ends l) (hne : 0 < ends.length) (hlen : ends.length < 1000) :
    Calls Try.prog 22 #[ptr g] w fun e w' => e = .returned (.int .i64 ((lastE ends : Nat) : Int)) ∧ ∃ n, w' = w.drewN n := by
  have c0 := h.blk.cell 0
  obtain ⟨b, c, rfl, hc, _⟩ := own_at h.ends (ends.length - 1) (by omega)
  have e0 : w.cell? ⟨b, ends.length - 1, none⟩ = some (.int .i64 ((lastE ends : Nat) : Int)) := by
    rw [hc, iv, List.getElem?_map, List.getElem?_eq_getElem (by omega)]
    simp only [Option.map_some]
    congr 2
    unfold lastE
    rw [List.getLastD_eq_getLast?, List.getLast?_eq_getElem?, List.getElem?_eq_getElem (by omega)]
    rfl
  generalize (lastE ends) = last at *
  clear hc h
  obtain ⟨m, hm⟩ : ∃ m, ends.length = m + 1 := ⟨ends.length - 1, by omega⟩
  rw [hm] at c0 e0 hlen
  rw [Nat.add_sub_cancel] at e0
  have e1 : wrap64 (m : Int) = (m : Int) := by unfold wrap64; omega
  have e2 : (0 : Int) ≤ (m : Int) := by omega
  have e3 : (m : Int) < (m : Int) + 1 := by omega
  go_enter Try.func22, Try.ntmps22
  go_wp2
  go_quiet (fail)
  go_wp2
  go_ret
  exact ⟨rfl, _, rfl⟩

/-! ### between -/
theorem bytesLess_eq : ∀ (x y : List UInt8), Op.bytesLess x y = decide (x < y)
  | [], [] => by simp [Op.bytesLess]
  | _ :: _, [] => by simp [Op.bytesLess]
  | [], _ :: _ => by simp [Op.bytesLess]
  | a :: x, b :: y => by
    rw [Op.bytesLess, bytesLess_eq x y]
    simp only [List.cons_lt_cons_iff]
    by_cases h1 : a < b <;> by_cases h2 : a = b <;> by_cases h3 : x < y <;> simp [h1, h2, h3]
/-- The order of texts. -/
def blt (a b : ByteArray) : Bool := Op.bytesLess a.toList b.toList
theorem blt_iff (a b : ByteArray) : blt a b = true ↔ a.toList < b.toList := by unfold blt; rw [bytesLess_eq]; simp
theorem blt_gt (a b : ByteArray) : blt b a = !(Op.bytesLess a.toList b.toList || a.toList == b.toList) := by
  unfold blt
  rw [bytesLess_eq, bytesLess_eq]
  by_cases h1 : a.toList < b.toList
  · have h2 : ¬ b.toList < a.toList := List.lt_asymm h1
    simp [h1, h2]
  · by_cases h2 : a.toList = b.toList
    · rw [h2]; simp [List.lt_irrefl]
    · have h3 : b.toList < a.toList := Decidable.byContradiction fun h3 => h2 (List.le_antisymm (List.not_lt.1 h3) (List.not_lt.1 h1))
      simp [h1, h2, h3]
/-- Is each part of a key from that of one to that of another? -/
def btw (low key high : ByteArray) : Nat → List Nat → Bool
  | _, [] => true
  | fr, e :: r => if blt (key.extract fr e) (low.extract fr e) || blt (high.extract fr e) (key.extract fr e) then false else btw low key high e r
/-- Ends rise, from a place on. -/
def Rise : Nat → List Nat → Prop
  | _, [] => True
  | fr, e :: r => fr ≤ e ∧ Rise e r
def BtwR (w : World) (low key high : ByteArray) (ends : List Nat) (t9 t18 : Value) (wr : World) : Prop :=
  ∃ k fr : Nat, t18 = .int .i64 (k : Int) ∧ t9 = .int .i64 (fr : Int) ∧ k ≤ ends.length ∧ Rise fr (ends.drop k) ∧ fr ≤ 64 ∧ btw low key high fr (ends.drop k) = btw low key high 0 ends ∧ (∃ n, wr = w.drewN n)
theorem between_any (g : Nat) (ev v : Value) (ends : List Nat) (l : List S42) (low key high : ByteArray) (w : World) (h : SetAt w g ev v ends l) (hlen : ends.length < 1000) (hr : Rise 0 ends) (hm : ∀ e ∈ ends, e ≤ 64)
    (h1 : ∀ e ∈ ends, e ≤ low.size) (h2 : ∀ e ∈ ends, e ≤ key.size) (h3 : ∀ e ∈ ends, e ≤ high.size) :
    Calls Try.prog 23 #[ptr g, .string low, .string key, .string high] w fun e w' => e = .returned (.bool (btw low key high 0 ends)) ∧ ∃ n, w' = w.drewN n := by
  have c0 := h.blk.cell 0
  have hR : BtwR w low key high ends (.int .i64 0) (.int .i64 0) w := ⟨0, 0, rfl, rfl, Nat.zero_le _, by simpa using hr, Nat.zero_le _, by simp, 0, rfl⟩
  have HE := Lib.hid h.ends
  have HM := Lib.hid hm
  have H1 := Lib.hid h1
  have H2 := Lib.hid h2
  have H3 := Lib.hid h3
  obtain ⟨A, c, rfl, hc⟩ := own_form h.ends
  clear h hr hm h1 h2 h3
  go_enter Try.func23, Try.ntmps23
  go_wp2
  go_loopw [9, 18] (fun t9 t18 wr => BtwR w low key high ends t9 t18 wr) (fun _ t18 _ => ends.length - (intOf t18).toNat)
  case atStart => exact hR
  case round =>
    clear hR
    obtain ⟨k, fr, rfl, rfl, hk, hri, hfr, hb, n, rfl⟩ := hrel
    by_cases hlt : k < ends.length
    · have hd : ends.drop k = ends[k] :: ends.drop (k + 1) := List.drop_eq_getElem_cons hlt
      rw [hd] at hri hb
      have hmem : ends[k] ∈ ends := List.getElem_mem _
      have m0 := HM.out _ hmem
      have m1 := H1.out _ hmem
      have m2 := H2.out _ hmem
      have m3 := H3.out _ hmem
      obtain ⟨b, c', e, e0, _⟩ := own_at HE.out k (by omega)
      injection e with eA e1 e2
      subst eA
      rw [iv, List.getElem?_map, List.getElem?_eq_getElem hlt] at e0
      simp only [Option.map_some] at e0
      generalize ends[k] = en at *
      have hri' := hri.1
      have hri2 := Lib.hid hri.2
      have HB := Lib.hid hb
      clear hd hb hri hmem e1 e2
      have k0 : (0 : Int) ≤ (k : Int) := by omega
      have k1 : (k : Int) < (ends.length : Int) := by omega
      have e1 : (w.drewN n).cell? ⟨b, k, none⟩ = some (.int .i64 (en : Int)) := e0
      have hgt := Lib.hid (blt_gt (key.extract fr en) (high.extract fr en))
      have hx : btw low key high fr (en :: List.drop (k + 1) ends) = if blt (key.extract fr en) (low.extract fr en) || blt (high.extract fr en) (key.extract fr en) then false else btw low key high en (List.drop (k + 1) ends) := rfl
      have HX := Lib.hid hx
      clear hx
      have hq : blt (key.extract fr en) (low.extract fr en) = Op.bytesLess (key.extract fr en).toList (low.extract fr en).toList := rfl
      have HQ := Lib.hid hq
      clear hq
      cases q1 : Op.bytesLess (key.extract fr en).toList (low.extract fr en).toList
      · rw [q1] at HQ
        cases q2 : Op.bytesLess (key.extract fr en).toList (high.extract fr en).toList <;> cases q3 : (key.extract fr en).toList == (high.extract fr en).toList
        all_goals
          rw [q2, q3] at hgt
          have HV : Hid (btw low key high 0 ends = _) := HB.out.symm.trans (HX.out.trans (by rw [hgt.out, HQ.out]))
          go_wp2
          first
            | (go_ret
               exact ⟨by rw [HV.out]; rfl, _, rfl⟩)
            | (go_roundw
               case rel => exact ⟨k + 1, en, by go_num, rfl, hlt, hri2.out, m0, by rw [HV.out]; rfl, _, rfl⟩
               case measure => simp [intOf]; omega)
      · have HV : btw low key high 0 ends = false := by rw [← HB.out, HX.out, HQ.out, q1]; rfl
        have HV := Lib.hid HV
        go_wp2
        go_ret
        exact ⟨by rw [HV.out]; rfl, _, rfl⟩
    · have hd : ends.drop k = [] := List.drop_eq_nil_of_le (by omega)
      have HV : btw low key high 0 ends = true := by rw [← hb, hd]; rfl
      have HV := Lib.hid HV
      have k1 : ¬ (k : Int) < (ends.length : Int) := by omega
      clear hb hd
      go_wp2
      go_ret
      exact ⟨by first | rfl | (rw [HV.out]; rfl), _, rfl⟩
end Go.Proofs.Ytedbnppdfcljlaa.Base
