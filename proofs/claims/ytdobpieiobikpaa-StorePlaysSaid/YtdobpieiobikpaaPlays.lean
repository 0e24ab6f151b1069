/- Whatever is done to a store, each answer, and all that is there, are the document's: the law. Conditions: as each contract says. -/
import Derived.Test.YtdobpieiobikpaaPlaysPure
import Derived.Test.YtdobpieiobikpaaAlike
import Derived.Test.YtdobpieiobikpaaAwake
import Derived.Test.YtdobpieiobikpaaOpen
set_option linter.unusedVariables false
set_option linter.unusedSimpArgs false
namespace Go.Proofs.Ytdobpieiobikpaa.Base
open Go Go.RowKit Go.Proofs.Ytdobpieiobikpaa.Mem Go.Proofs.YtdobpieiobikpaaW.PrintWords Go.Proofs.YtdobpieiobikpaaW.PrintLast
def PlR (l : List Act) (w : World) (a b c : Value) (wr : World) : Prop := ∃ (i s x : Nat) (S : St), a = ptr s ∧ b = ptr x ∧ c = .int .i64 (i : Int) ∧ i ≤ l.length ∧ StLe i S ∧ Mx w wr [(false, s, S), (true, x, S)] (fun _ => False)
set_option maxHeartbeats 32000000 in
set_option maxRecDepth 100000 in
theorem plays_law (A : Option Addr) (cp : Nat) (l : List Act) (w : World) (hA : Acts w A l) : Calls Try.prog 5 #[.slice A l.length cp] w fun e w' => e = .returned (.bool true) ∧ Below w.heap.size w w' := by
  have HA := Lib.hid hA
  clear hA
  by_cases hlen : 100 < l.length
  · have hl1 : (100 : Int) < (l.length : Int) := by omega
    go_enter Try.func5, Try.ntmps5
    go_wp2_with fail
    refine (awake_any _).mono ?_
    rintro e w1 ⟨rfl, hb1⟩
    go_wp2_with fail
    go_ret
    exact ⟨rfl, hb1⟩
  · have hl1 : ¬ (100 : Int) < (l.length : Int) := by omega
    have HLEN := Lib.hid (show l.length ≤ 100 by omega)
    clear hlen
    go_enter Try.func5, Try.ntmps5
    go_wp2_with fail
    refine (new_any w).mono ?_
    rintro e w1 ⟨rfl, hs, hb⟩
    have HM1 := Lib.hid (show Mx w w1 [(false, w.heap.size, St.nil)] (fun _ => False) from (Mx.none w).more (r := false) hs hb)
    clear hs hb
    generalize hs0 : w.heap.size = s0 at HM1 ⊢
    clear hs0
    go_wp2_with fail
    obtain ⟨hs, hb⟩ := rto_fresh w1
    have HM2 := Lib.hid (show Mx w _ [(false, s0, St.nil), (true, w1.heap.size, St.nil)] (fun _ => False) from HM1.out.more (r := true) hs hb)
    clear hs hb HM1
    generalize w1.alloc (.cells #[.slice none 0 0, .slice none 0 0] 48) = w2 at *
    generalize w1.heap.size = x0 at *
    have HR0 := Lib.hid (show PlR l w (ptr s0) (ptr x0) (.int .i64 0) w2 from ⟨0, s0, x0, St.nil, rfl, rfl, rfl, Nat.zero_le _, ⟨Nat.zero_le _, Nat.zero_le _⟩, HM2.out⟩)
    clear HM2
    go_loopw [3, 4, 5] (fun a b c wr => PlR l w a b c wr) (fun a b c _ => l.length - (intOf c).toNat)
    case atStart => exact HR0.out
    case round =>
      clear HR0
      obtain ⟨i, s, x, S, rfl, rfl, rfl, hi, hle, hM⟩ := hrel
      have HM := Lib.hid hM
      have HLE := Lib.hid hle
      clear hM hle
      by_cases hlt : i < l.length
      · have k1 : (i : Int) < (l.length : Int) := by omega
        have k0 : (0 : Int) ≤ (i : Int) := by omega
        have HAT := Lib.hid (fun W (hW : Below w.heap.size w W) => (HA.out.go hW).at_ i hlt)
        obtain ⟨g, o, rfl, c0, c1, c2, c3, c4⟩ := HAT.out wr HM.out.below
        have HX := Lib.hid (HA.out.ok _ (List.getElem_mem hlt))
        generalize l[i] = y at *
        by_cases hk : 7 < y.k
        · go_wp2_with fail
          obtain ⟨O, hs⟩ := HM.out.read 0 rfl
          refine (copy_any s O S wr hs).mono ?_
          rintro e w5 ⟨cc, rfl, hx, hb⟩
          have HM5 := Lib.hid (show Mx w w5 [(false, s, S), (true, x, S), (false, cc, S)] (fun _ => False) from HM.out.more (r := false) hx hb)
          clear hs hx hb HM c0 c1 c2 c3 c4
          obtain ⟨g', o', hgo, c0, c1, c2, c3, c4⟩ := HAT.out w5 HM5.out.below
          cases hgo
          go_wp2_with fail
          obtain ⟨O, hs, hd⟩ := HM5.out.act 0 rfl
          refine (putC_any s O S y.id w5 hs HX.out.id).mono ?_
          intro e w6 h
          obtain ⟨rfl, hM, -⟩ := hd (putC S y.id) _ _ h
          have HM6 := Lib.hid (show Mx w w6 [(false, s, (putC S y.id).2), (true, x, S), (false, cc, S)] (fun _ => False) from hM)
          clear hs hd h hM c0 c1 c2 c3 c4 HM5
          generalize (putC S y.id).2 = S6 at *
          generalize (putC S y.id).1 = r6 at *
          obtain ⟨g', o', hgo, c0, c1, c2, c3, c4⟩ := HAT.out w6 HM6.out.below
          cases hgo
          go_wp2_with fail
          obtain ⟨O, hs, hd⟩ := HM6.out.act 0 rfl
          refine (cnt_any s O S6 y.id 9 w6 hs HX.out.id (by decide)).mono ?_
          intro e w7 h
          obtain ⟨rfl, hM, -⟩ := hd (cnt S6 y.id 9) _ _ h
          have HM7 := Lib.hid (show Mx w w7 [(false, s, (cnt S6 y.id 9).2), (true, x, S), (false, cc, S)] (fun _ => False) from hM)
          clear hs hd h hM c0 c1 c2 c3 c4 HM6
          generalize (cnt S6 y.id 9).2 = S7 at *
          generalize (cnt S6 y.id 9).1 = r7 at *
          obtain ⟨g', o', hgo, c0, c1, c2, c3, c4⟩ := HAT.out w7 HM7.out.below
          cases hgo
          go_wp2_with fail
          obtain ⟨O, hs, hd⟩ := HM7.out.act 0 rfl
          refine (bump_any s O S7 y.id 0 7 w7 hs HX.out.id (by decide) (by unfold u64ok; omega)).mono ?_
          intro e w8 h
          obtain ⟨rfl, hM, -⟩ := hd (bump S7 y.id ((0 : Nat) : Int) 7) _ _ h
          have HM8 := Lib.hid (show Mx w w8 [(false, s, (bump S7 y.id ((0 : Nat) : Int) 7).2), (true, x, S), (false, cc, S)] (fun _ => False) from hM)
          clear hs hd h hM c0 c1 c2 c3 c4 HM7
          generalize (bump S7 y.id ((0 : Nat) : Int) 7).2 = S8 at *
          generalize (bump S7 y.id ((0 : Nat) : Int) 7).1 = r8 at *
          obtain ⟨g', o', hgo, c0, c1, c2, c3, c4⟩ := HAT.out w8 HM8.out.below
          cases hgo
          go_wp2_with fail
          obtain ⟨O, hs, hd⟩ := HM8.out.act 0 rfl
          refine (delR_any s O S8 y.n w8 hs HX.out.n).mono ?_
          intro e w9 h
          obtain ⟨rfl, hM, -⟩ := hd (delR S8 y.n) _ _ h
          have HM9 := Lib.hid (show Mx w w9 [(false, s, (delR S8 y.n).2), (true, x, S), (false, cc, S)] (fun _ => False) from hM)
          clear hs hd h hM c0 c1 c2 c3 c4 HM8
          generalize (delR S8 y.n).2 = S9 at *
          generalize (delR S8 y.n).1 = r9 at *
          obtain ⟨g', o', hgo, c0, c1, c2, c3, c4⟩ := HAT.out w9 HM9.out.below
          cases hgo
          go_wp2_with fail
          obtain ⟨O, hs⟩ := HM9.out.read 1 rfl
          refine (rcopy_any x O S w9 hs (by have := HLE.out.1; have := HLEN.out; omega) (by have := HLE.out.2; have := HLEN.out; omega)).mono ?_
          rintro e w10 ⟨xx, rfl, hx, hb⟩
          have HM10 := Lib.hid (show Mx w w10 [(false, cc, S), (true, xx, S)] (fun _ => False) from (HM9.out.more (r := true) hx hb).two 2 3 (by decide) rfl rfl)
          clear hs hx hb HM9 c0 c1 c2 c3 c4
          go_wp2_with fail
          obtain ⟨O, hs⟩ := HM10.out.read 0 rfl
          obtain ⟨O', hs'⟩ := HM10.out.read 1 rfl
          have hs : Sto w10 cc O S := hs
          have hs' : Rto w10 xx O' S := hs'
          refine (alike_any cc xx O O' S w10 hs hs' hs.wfC hs.wfR).mono ?_
          rintro e w11 ⟨rfl, hb⟩
          have HM11 := Lib.hid (HM10.out.go hb)
          clear hs hs' hb HM10
          go_wp2_with fail
          go_roundw
          case rel => exact ⟨i + 1, _, _, _, rfl, rfl, by go_num, by omega, HLE.out.mono (Nat.le_succ _), HM11.out⟩
          case measure => simp [intOf]; omega
        · go_wp2_with fail
          refine (does_any w _ _ 0 1 s x S y wr HM.out (by decide) rfl rfl HX.out (by have := HLE.out.1; have := HLEN.out; omega) (by have := HLE.out.2; have := HLEN.out; omega)).mono ?_
          rintro e w5 ⟨rfl, hM⟩
          have HM5 := Lib.hid (show Mx w w5 [(false, s, doesS S y), (true, x, doesS S y)] (fun _ => False) from hM)
          clear hM HM c0 c1 c2 c3 c4
          go_wp2_with fail
          obtain ⟨O, hs⟩ := HM5.out.read 0 rfl
          obtain ⟨O', hs'⟩ := HM5.out.read 1 rfl
          have hs : Sto w5 s O (doesS S y) := hs
          have hs' : Rto w5 x O' (doesS S y) := hs'
          refine (alike_any s x O O' (doesS S y) w5 hs hs' hs.wfC hs.wfR).mono ?_
          rintro e w6 ⟨rfl, hb⟩
          have HM6 := Lib.hid (HM5.out.go hb)
          clear hs hs' hb HM5
          go_wp2_with fail
          go_roundw
          case rel => exact ⟨i + 1, _, _, _, rfl, rfl, by go_num, by omega, doesS_le HLE.out y, HM6.out⟩
          case measure => simp [intOf]; omega
      · obtain rfl : i = l.length := by omega
        have k1 : ¬ (l.length : Int) < (l.length : Int) := by omega
        go_wp2_with fail
        refine (awake_any _).mono ?_
        rintro e w9 ⟨rfl, hb⟩
        go_wp2_with fail
        go_ret
        exact ⟨rfl, below_step HM.out.below hb⟩
end Go.Proofs.Ytdobpieiobikpaa.Base
namespace Go.Proofs.Ytdobpieiobikpaa.Plays
open Go Go.RowKit Go.Proofs.Ytdobpieiobikpaa.Mem Go.Proofs.YtdobpieiobikpaaW.PrintWords
theorem core (A : Option Addr) (c : Nat) (l : List Base.Act) (w : World) (_ : l.length ≤ c) (hm : l.length * 40 ≤ 140737488351232) (_ : ∀ x ∈ l, Base.ActOk x) (hA : Base.Acts w A l) :
    Calls Try.prog 5 #[.slice A l.length c] w fun e w' => e = .returned (.bool true) ∧ Below w.heap.size w w' := Base.plays_law A c l w hA
end Go.Proofs.Ytdobpieiobikpaa.Plays
