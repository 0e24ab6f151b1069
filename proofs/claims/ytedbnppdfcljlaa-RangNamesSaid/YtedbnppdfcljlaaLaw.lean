/- The statements' own small functions. Conditions: as each contract says. -/
import Derived.Test.YtedbnppdfcljlaaAwake
import Derived.Test.YtedbnppdfcljlaaPxA
set_option linter.unusedVariables false
set_option linter.unusedSimpArgs false
namespace Go.Proofs.Ytedbnppdfcljlaa.Base
open Go Go.RowKit Go.Proofs.Ytedbnppdfcljlaa.Mem Go.Proofs.YtedbnppdfcljlaaW.PrintWords
open Go.Proofs.Ytedbnppdfcljlaa.PRangMore (S42 S51 z42 z51 k42 k51 k42_open k51_open eqA42 rd_T42 rd_T51)
/-- The parts of the statement's own 'within'. -/
def wp0 (x : S42) (key : ByteArray) : Bool := !(Op.bytesLess (key.extract 0 2).toList (x.f0.extract 0 2).toList)
def wp1 (x : S42) (key : ByteArray) : Bool := Op.bytesLess (key.extract 0 2).toList (x.f1.extract 0 2).toList || (key.extract 0 2).toList == (x.f1.extract 0 2).toList
theorem within_none (x : S42) (key : ByteArray) (w : World) (hk : ((key.size : Int) == 3) = false) :
    Calls Try.prog 20 #[.agg (c42 x).toArray, .string key] w fun e w' => e = .returned (.bool false) ∧ Below w.heap.size w w' := by
  have k := (Below.refl w.heap.size w).alloc (Nat.le_refl _) (.cells (c42 x).toArray 42)
  unfold c42 at k ⊢
  go_enter Try.func20, Try.ntmps20
  go_wp2
  go_quiet (fail)
  go_wp2
  go_ret
  exact ⟨rfl, pw_below_drewN k _⟩
/-- What the statement's own 'within' asks, for keys of three bytes. -/
def wq (x : S42) (key : ByteArray) (kb lb hb : UInt8) : Bool :=
  !(Op.bytesLess (key.extract 0 2).toList (x.f0.extract 0 2).toList) && ((Op.bytesLess (key.extract 0 2).toList (x.f1.extract 0 2).toList || (key.extract 0 2).toList == (x.f1.extract 0 2).toList) && (decide (lb.toNat ≤ kb.toNat) && decide (kb.toNat ≤ hb.toNat)))
theorem within_some (x : S42) (key : ByteArray) (w : World) (kb lb hb : UInt8) (i1 : 2 < key.size) (i2 : 2 < x.f0.size) (i3 : 2 < x.f1.size) (hk : key.size = 3) (hkb : key[2] = kb) (hlb : x.f0[2] = lb) (hhb : x.f1[2] = hb) :
    Calls Try.prog 20 #[.agg (c42 x).toArray, .string key] w fun e w' => e = .returned (.bool (wq x key kb lb hb)) ∧ Below w.heap.size w w' := by
  have k := (Below.refl w.heap.size w).alloc (Nat.le_refl _) (.cells (c42 x).toArray 42)
  unfold c42 at k ⊢
  have g0 : ((key.size : Int) == 3) = true := by rw [hk]; rfl
  have g1 : (2 : Int) ≤ (key.size : Int) := by omega
  have g2 : (2 : Int) ≤ (x.f0.size : Int) := by omega
  have g3 : (2 : Int) ≤ (x.f1.size : Int) := by omega
  have j1 : (2 : Int) < (key.size : Int) := by omega
  have j2 : (2 : Int) < (x.f0.size : Int) := by omega
  have j3 : (2 : Int) < (x.f1.size : Int) := by omega
  have HQ := Lib.hid (show wq x key kb lb hb = (!(Op.bytesLess (key.extract 0 2).toList (x.f0.extract 0 2).toList) && ((Op.bytesLess (key.extract 0 2).toList (x.f1.extract 0 2).toList || (key.extract 0 2).toList == (x.f1.extract 0 2).toList) && (decide (lb.toNat ≤ kb.toNat) && decide (kb.toNat ≤ hb.toNat)))) from rfl)
  clear hk
  cases q0 : Op.bytesLess (key.extract 0 2).toList (x.f0.extract 0 2).toList
  · cases q1 : (Op.bytesLess (key.extract 0 2).toList (x.f1.extract 0 2).toList || (key.extract 0 2).toList == (x.f1.extract 0 2).toList)
    · rw [q0, q1] at HQ
      go_enter Try.func20, Try.ntmps20
      go_wp2
      go_quiet (fail)
      go_wp2
      go_ret
      exact ⟨by rw [HQ.out]; rfl, pw_below_drewN k _⟩
    · cases q2 : decide (lb.toNat ≤ kb.toNat)
      · rw [q0, q1, q2] at HQ
        go_enter Try.func20, Try.ntmps20
        go_wp2
        go_quiet (fail)
        go_wp2
        go_ret
        exact ⟨by rw [HQ.out]; rfl, pw_below_drewN k _⟩
      · cases q3 : decide (kb.toNat ≤ hb.toNat)
        all_goals
          rw [q0, q1, q2, q3] at HQ
          go_enter Try.func20, Try.ntmps20
          go_wp2
          go_quiet (fail)
          go_wp2
          go_ret
          exact ⟨by rw [HQ.out]; rfl, pw_below_drewN k _⟩
  · rw [q0] at HQ
    go_enter Try.func20, Try.ntmps20
    go_wp2
    go_quiet (fail)
    go_wp2
    go_ret
    exact ⟨by rw [HQ.out]; rfl, pw_below_drewN k _⟩
abbrev E21 : List Nat := endsOf 0 [2, 1]
theorem ext_one (s : ByteArray) (h : 2 < s.size) (h3 : s.size = 3) : (s.extract 2 3).toList = [s[2]] := by
  rw [ByteArray.toList_eq]
  obtain ⟨d⟩ := s
  obtain ⟨l⟩ := d
  match l, h3 with
  | [a, b, c], _ => rfl
  | [], h => simp [ByteArray.size] at h
  | [_], h => simp [ByteArray.size] at h
  | [_, _], h => simp [ByteArray.size] at h
  | _ :: _ :: _ :: _ :: _, h => simp [ByteArray.size] at h
theorem blt_one (a b : UInt8) : Op.bytesLess [a] [b] = !(decide (b.toNat ≤ a.toNat)) := by
  rw [bytesLess_eq, Bool.eq_iff_iff]
  simp [List.cons_lt_cons_iff, UInt8.lt_iff_toNat_lt]
theorem wq_win (x : S42) (key : ByteArray) (i1 : 2 < key.size) (i2 : 2 < x.f0.size) (i3 : 2 < x.f1.size) (hk : key.size = 3) (h0 : x.f0.size = 3) (h1 : x.f1.size = 3) : wq x key key[2] x.f0[2] x.f1[2] = win E21 key x := by
  have e : win E21 key x = (if blt (key.extract 0 2) (x.f0.extract 0 2) || blt (x.f1.extract 0 2) (key.extract 0 2) then false else if blt (key.extract 2 3) (x.f0.extract 2 3) || blt (x.f1.extract 2 3) (key.extract 2 3) then false else true) := rfl
  have b1 : blt (key.extract 2 3) (x.f0.extract 2 3) = !(decide (x.f0[2].toNat ≤ key[2].toNat)) := by unfold blt; rw [ext_one key i1 hk, ext_one x.f0 i2 h0, blt_one]
  have b2 : blt (x.f1.extract 2 3) (key.extract 2 3) = !(decide (key[2].toNat ≤ x.f1[2].toNat)) := by unfold blt; rw [ext_one key i1 hk, ext_one x.f1 i3 h1, blt_one]
  rw [e, b1, b2, blt_gt (key.extract 0 2) (x.f1.extract 0 2)]
  unfold wq blt
  generalize Op.bytesLess (key.extract 0 2).toList (x.f0.extract 0 2).toList = a0
  generalize (Op.bytesLess (key.extract 0 2).toList (x.f1.extract 0 2).toList || (key.extract 0 2).toList == (x.f1.extract 0 2).toList) = a1
  generalize decide (x.f0[2].toNat ≤ key[2].toNat) = a2
  generalize decide (key[2].toNat ≤ x.f1[2].toNat) = a3
  cases a0 <;> cases a1 <;> cases a2 <;> cases a3 <;> rfl
/-- Is a key within a range, as the statement asks it? -/
def wthn (x : S42) (key : ByteArray) : Bool := key.size == 3 && win E21 key x
theorem within_any (x : S42) (key : ByteArray) (w : World) (h0 : x.f0.size = 3) (h1 : x.f1.size = 3) :
    Calls Try.prog 20 #[.agg (c42 x).toArray, .string key] w fun e w' => e = .returned (.bool (wthn x key)) ∧ Below w.heap.size w w' := by
  unfold wthn
  by_cases hk : key.size = 3
  · have := within_some x key w _ _ _ (by omega) (by omega) (by omega) hk rfl rfl rfl
    rw [wq_win x key (by omega) (by omega) (by omega) hk h0 h1] at this
    rw [hk]
    exact this
  · rw [show (key.size == 3) = false from beq_eq_false_iff_ne.2 hk]
    exact within_none x key w (beq_eq_false_iff_ne.2 (by omega))
end Go.Proofs.Ytedbnppdfcljlaa.Base
