/- Whether two stores are the same is what the document says: the law. Conditions: as each contract says. -/
import Derived.Test.YtdobpieiobikpaaPlaysPure
import Derived.Test.YtdobpieiobikpaaAwake
import Derived.Test.YtdobpieiobikpaaOpen
set_option linter.unusedVariables false
set_option linter.unusedSimpArgs false
namespace Go.Proofs.Ytdobpieiobikpaa.Base
open Go Go.RowKit Go.Proofs.Ytdobpieiobikpaa.Mem Go.Proofs.YtdobpieiobikpaaW.PrintWords Go.Proofs.YtdobpieiobikpaaW.PrintLast
def four (a b x y : Nat) (S T : St) : List (Bool × Nat × St) := [(false, a, S), (false, b, T), (true, x, S), (true, y, T)]
def SmR1 (l : List Act) (w : World) (a b x y : Nat) (t : Value) (wr : World) : Prop := ∃ (i : Nat) (S : St), t = .int .i64 (i : Int) ∧ i ≤ l.length ∧ StLe i S ∧ Mx w wr (four a b x y S St.nil) (fun _ => False)
def SmR2 (m : List Act) (w : World) (a b x y : Nat) (S : St) (t : Value) (wr : World) : Prop := ∃ (i : Nat) (T : St), t = .int .i64 (i : Int) ∧ i ≤ m.length ∧ StLe i T ∧ Mx w wr (four a b x y S T) (fun _ => False)
theorem Mx.ok {w w1 : World} {L : List (Bool × Nat × St)} {T : Nat → Prop} (h : Mx w w1 L T) (i : Nat) {r : Bool} {a : Nat} {S : St} (hi : L[i]? = some (r, a, S)) : S.ok := by
  obtain ⟨O, hs⟩ := h.read i hi
  cases r
  · exact Sto.ok hs
  · exact Rto.ok hs
set_option maxHeartbeats 32000000 in
set_option maxRecDepth 100000 in
theorem same_law (A : Option Addr) (cp : Nat) (l : List Act) (B : Option Addr) (cq : Nat) (m : List Act) (w : World) (hA : Acts w A l) (hB : Acts w B m) : Calls Try.prog 8 #[.slice A l.length cp, .slice B m.length cq] w fun e w' => e = .returned (.bool true) ∧ Below w.heap.size w w' := by
  have HA := Lib.hid hA
  have HB := Lib.hid hB
  clear hA hB
  by_cases hlen : 100 < l.length
  · have hl1 : (100 : Int) < (l.length : Int) := by omega
    go_enter Try.func8, Try.ntmps8
    go_wp2_with fail
    refine (awake_any _).mono ?_
    rintro e w1 ⟨rfl, hb1⟩
    go_wp2_with fail
    go_ret
    exact ⟨rfl, hb1⟩
  · have hl1 : ¬ (100 : Int) < (l.length : Int) := by omega
    by_cases hlen2 : 100 < m.length
    · have hl2 : (100 : Int) < (m.length : Int) := by omega
      go_enter Try.func8, Try.ntmps8
      go_wp2_with fail
      refine (awake_any _).mono ?_
      rintro e w1 ⟨rfl, hb1⟩
      go_wp2_with fail
      go_ret
      exact ⟨rfl, hb1⟩
    · have hl2 : ¬ (100 : Int) < (m.length : Int) := by omega
      have HLEN := Lib.hid (show l.length ≤ 100 by omega)
      have HLEN2 := Lib.hid (show m.length ≤ 100 by omega)
      clear hlen hlen2
      go_enter Try.func8, Try.ntmps8
      go_wp2_with fail
      refine (new_any w).mono ?_
      rintro e w1 ⟨rfl, hs, hb⟩
      have HM1 := Lib.hid (show Mx w w1 [(false, w.heap.size, St.nil)] (fun _ => False) from (Mx.none w).more (r := false) hs hb)
      clear hs hb
      generalize hs0 : w.heap.size = a at HM1 ⊢
      have HSA := Lib.hid hs0
      clear hs0
      go_wp2_with fail
      refine (new_any w1).mono ?_
      rintro e w2 ⟨rfl, hs, hb⟩
      have HM2 := Lib.hid (show Mx w w2 [(false, a, St.nil), (false, w1.heap.size, St.nil)] (fun _ => False) from HM1.out.more (r := false) hs hb)
      clear hs hb HM1
      generalize w1.heap.size = b at *
      go_wp2_with fail
      obtain ⟨hs, hb⟩ := rto_fresh w2
      have HM3 := Lib.hid (HM2.out.more (r := true) hs hb)
      clear hs hb HM2
      have hsz : (w2.alloc (.cells #[.slice none 0 0, .slice none 0 0] 48)).heap.size = w2.heap.size + 1 := by simp
      obtain ⟨hs, hb⟩ := rto_fresh (w2.alloc (.cells #[.slice none 0 0, .slice none 0 0] 48))
      have HM4 := Lib.hid (show Mx w _ (four a b w2.heap.size (w2.heap.size + 1) St.nil St.nil) (fun _ => False) from by have h9 := HM3.out.more (r := true) hs hb; rw [hsz] at h9; exact h9)
      clear hs hb HM3 hsz
      generalize (w2.alloc (.cells #[.slice none 0 0, .slice none 0 0] 48)).alloc (.cells #[.slice none 0 0, .slice none 0 0] 48) = w4 at *
      generalize w2.heap.size + 1 = y at *
      generalize w2.heap.size = x at *
      have HR0 := Lib.hid (show SmR1 l w a b x y (.int .i64 0) w4 from ⟨0, St.nil, rfl, Nat.zero_le _, ⟨Nat.zero_le _, Nat.zero_le _⟩, HM4.out⟩)
      clear HM4
      go_loopw [9] (fun t wr => SmR1 l w a b x y t wr) (fun t _ => l.length - (intOf t).toNat)
      case atStart => exact HR0.out
      case round =>
        clear HR0
        obtain ⟨i, S, rfl, hi, hle, hM⟩ := hrel
        have HM := Lib.hid hM
        have HLE := Lib.hid hle
        clear hM hle
        by_cases hlt : i < l.length
        · have k1 : (i : Int) < (l.length : Int) := by omega
          have k0 : (0 : Int) ≤ (i : Int) := by omega
          obtain ⟨g, o, rfl, c0, c1, c2, c3, c4⟩ := (HA.out.go HM.out.below).at_ i hlt
          have HX := Lib.hid (HA.out.ok _ (List.getElem_mem hlt))
          generalize l[i] = z at *
          go_wp2_with fail
          refine (does_any w _ _ 0 2 a x S z wr HM.out (by decide) rfl rfl HX.out (by have := HLE.out.1; have := HLEN.out; omega) (by have := HLE.out.2; have := HLEN.out; omega)).mono ?_
          rintro e w5 ⟨rfl, hM⟩
          have HM5 := Lib.hid (show Mx w w5 (four a b x y (doesS S z) St.nil) (fun _ => False) from hM)
          clear hM HM c0 c1 c2 c3 c4
          go_wp2_with fail
          go_roundw
          case rel => exact ⟨i + 1, _, by go_num, by omega, doesS_le HLE.out z, HM5.out⟩
          case measure => simp [intOf]; omega
        · obtain rfl : i = l.length := by omega
          have k1 : ¬ (l.length : Int) < (l.length : Int) := by omega
          obtain ⟨w5, hw5⟩ : ∃ w5, wr = w5 := ⟨_, rfl⟩
          rw [hw5] at HM ⊢
          clear hw5
          have HR1 := Lib.hid (show SmR2 m w a b x y S (.int .i64 0) w5 from ⟨0, St.nil, rfl, Nat.zero_le _, ⟨Nat.zero_le _, Nat.zero_le _⟩, HM.out⟩)
          clear HM
          go_wp2_with fail
          go_loopw [10] (fun t wr => SmR2 m w a b x y S t wr) (fun t _ => m.length - (intOf t).toNat)
          case atStart => exact HR1.out
          case round =>
            clear HR1
            obtain ⟨i, T, rfl, hi, hle, hM⟩ := hrel
            have HM := Lib.hid hM
            have HLT := Lib.hid hle
            clear hM hle
            by_cases hlt : i < m.length
            · have k1 : (i : Int) < (m.length : Int) := by omega
              have k0 : (0 : Int) ≤ (i : Int) := by omega
              obtain ⟨g, o, rfl, c0, c1, c2, c3, c4⟩ := (HB.out.go HM.out.below).at_ i hlt
              have HX := Lib.hid (HB.out.ok _ (List.getElem_mem hlt))
              generalize m[i] = z at *
              go_wp2_with fail
              refine (does_any w _ _ 1 3 b y T z wr HM.out (by decide) rfl rfl HX.out (by have := HLT.out.1; have := HLEN2.out; omega) (by have := HLT.out.2; have := HLEN2.out; omega)).mono ?_
              rintro e w5 ⟨rfl, hM⟩
              have HM5 := Lib.hid (show Mx w w5 (four a b x y S (doesS T z)) (fun _ => False) from hM)
              clear hM HM c0 c1 c2 c3 c4
              go_wp2_with fail
              go_roundw
              case rel => exact ⟨i + 1, _, by go_num, by omega, doesS_le HLT.out z, HM5.out⟩
              case measure => simp [intOf]; omega
            · obtain rfl : i = m.length := by omega
              have k1 : ¬ (m.length : Int) < (m.length : Int) := by omega
              obtain ⟨w6, hw6⟩ : ∃ w6, wr = w6 := ⟨_, rfl⟩
              rw [hw6] at HM ⊢
              clear hw6
              have HCM := Lib.hid (show sameS T S = sameS S T from sameS_comm (HM.out.ok 1 rfl) (HM.out.ok 0 rfl))
              go_wp2_with fail
              obtain ⟨O, hs⟩ := HM.out.read 0 rfl
              obtain ⟨O', hs'⟩ := HM.out.read 1 rfl
              refine (same_any a b O O' S T w6 hs hs').mono ?_
              rintro e w7 ⟨rfl, hb⟩
              have HM7 := Lib.hid (HM.out.go hb)
              clear hs hs' hb HM
              generalize hv : sameS S T = v at *
              have HVV := Lib.hid hv
              clear hv
              go_wp2_with fail
              obtain ⟨O, hs⟩ := HM7.out.read 2 rfl
              obtain ⟨O', hs'⟩ := HM7.out.read 3 rfl
              have hg := rsame_any x y O O' S T w7 hs hs'
              rw [HVV.out] at hg
              refine hg.mono ?_
              rintro e w8 ⟨rfl, hb⟩
              have HM8 := Lib.hid (HM7.out.go hb)
              clear hs hs' hb hg HM7
              go_wp2_with fail
              obtain ⟨O, hs⟩ := HM8.out.read 1 rfl
              obtain ⟨O', hs'⟩ := HM8.out.read 0 rfl
              have hg := same_any b a O O' T S w8 hs hs'
              rw [HCM.out] at hg
              refine hg.mono ?_
              rintro e w9 ⟨rfl, hb⟩
              have HM9 := Lib.hid (HM8.out.go hb)
              clear hs hs' hb hg HM8
              go_wp2_with fail
              obtain ⟨O, hs⟩ := HM9.out.read 0 rfl
              obtain ⟨O', hs'⟩ := HM9.out.read 1 rfl
              have hg := same_any a b O O' S T w9 hs hs'
              rw [HVV.out] at hg
              refine hg.mono ?_
              rintro e w10 ⟨rfl, hb⟩
              have HM10 := Lib.hid (HM9.out.go hb)
              clear hs hs' hb hg HM9
              go_wp2_with fail
              obtain ⟨O, hs⟩ := HM10.out.read 0 rfl
              refine (copy_any a O S w10 hs).mono ?_
              rintro e w11 ⟨cc, rfl, hx, hb⟩
              have HM11 := Lib.hid (HM10.out.more (r := false) hx hb)
              clear hs hx hb HM10
              go_wp2_with fail
              obtain ⟨O, hs⟩ := HM11.out.read 0 rfl
              obtain ⟨O', hs'⟩ := HM11.out.read 4 rfl
              have hg := same_any a cc O O' S S w11 hs hs'
              rw [sameS_self] at hg
              refine hg.mono ?_
              rintro e w12 ⟨rfl, hb⟩
              have HM12 := Lib.hid (HM11.out.go hb)
              clear hs hs' hb hg HM11
              go_wp2_with fail
              refine (awake_any _).mono ?_
              rintro e w13 ⟨rfl, hb⟩
              go_wp2_with fail
              go_ret
              exact ⟨rfl, below_step HM12.out.below hb⟩
end Go.Proofs.Ytdobpieiobikpaa.Base
namespace Go.Proofs.Ytdobpieiobikpaa.SameLaw
open Go Go.RowKit Go.Proofs.Ytdobpieiobikpaa.Mem Go.Proofs.YtdobpieiobikpaaW.PrintWords
theorem core (A : Option Addr) (c : Nat) (l : List Base.Act) (B : Option Addr) (d : Nat) (m : List Base.Act) (w : World) (_ : l.length ≤ c) (hm : l.length * 40 ≤ 140737488351232) (_ : ∀ x ∈ l, Base.ActOk x) (hA : Base.Acts w A l) (_ : m.length ≤ d) (_ : m.length * 40 ≤ 140737488351232) (_ : ∀ x ∈ m, Base.ActOk x) (hB : Base.Acts w B m) :
    Calls Try.prog 8 #[.slice A l.length c, .slice B m.length d] w fun e w' => e = .returned (.bool true) ∧ Below w.heap.size w w' := Base.same_law A c l B d m w hA hB
end Go.Proofs.Ytdobpieiobikpaa.SameLaw
