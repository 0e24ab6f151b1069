/- What the plain List tells: the same. No condition but those that each lemma says. -/
import Derived.Test.YtndbchigekbjaaaLarge
import Derived.Test.YtndbchigekbjaaaPxU
import Derived.Deep.RegionHeld3
set_option linter.unusedVariables false
set_option linter.unusedSimpArgs false
namespace Go.Proofs.Ytndbchigekbjaaa.Base
open Go Go.RowKit Go.Proofs.YtndbchigekbjaaaW.PrintWords
theorem str_bytes (x : ByteArray) : strOfNums (bytesOf x) = x := str_ext (by rw [strOfNums_data]; exact bytes_back x)
theorem two_f (n : Nat) (h : n ≤ 65535) : PTlvLists.turnoutref06_two.f (n : Int) = some (strOfNums (sz n)) := by
  unfold PTlvLists.turnoutref06_two.f sz
  have e1 : wrap64 (Int.tdiv (n : Int) 256) % 256 = ((n : Int) / 256) % 256 := by
    have : Int.tdiv (n : Int) 256 = ((n / 256 : Nat) : Int) := rfl
    rw [this]
    unfold wrap64
    omega
  have e2 : Int.tmod (n : Int) 256 % 256 = (n : Int) % 256 := by
    have : Int.tmod (n : Int) 256 = ((n % 256 : Nat) : Int) := rfl
    rw [this]
    omega
  rw [e1, e2]
theorem two_any (n : Nat) (h : n ≤ 65535) (w : World) : Calls Try.prog 33 #[.int .i64 (n : Int)] w fun e w' => e = .returned (.string (strOfNums (sz n))) ∧ Below w.heap.size w w' :=
  PTlvLists.turnoutref06_two.calls (n : Int) _ w (two_f n h)
def RLR (l : List ByteArray) (w : World) (t4 t5 : Value) (wr : World) : Prop :=
  ∃ (acc : List Int) (i : Nat), t5 = .int .i64 (i : Int) ∧ t4 = .string (strOfNums acc) ∧ i ≤ l.length ∧ Below w.heap.size w wr ∧ lst [] l = lst acc (l.drop i) ∧ acc.length + tot (l.drop i) ≤ tot l
set_option maxHeartbeats 1600000 in
theorem reflist_any (A0 : Option Addr) (c0 : Nat) (l : List ByteArray) (w : World) (h0 : Kd.C Kd.string w A0 l.length l) (hc0 : l.length ≤ c0) (hl : l.length < 1000000000) (hs : tot l ≤ 1000000000) :
    Calls Try.prog 27 #[.slice A0 l.length c0] w fun e w' => e = .returned (.tuple #[.string (lst [] l).1, .int .i64 (lst [] l).2]) ∧ Below w.heap.size w w' := by
  have hR : RLR l w (.string ⟨#[]⟩) (.int .i64 0) w := ⟨[], 0, rfl, rfl, by omega, Below.refl _ _, rfl, by simp⟩
  have HL := Lib.hid h0
  clear h0
  go_enter Try.func27, Try.ntmps27
  go_wp2_with fail
  go_loopw [4, 5] (fun t4 t5 wr => RLR l w t4 t5 wr) (fun t4 t5 _ => match t5 with | .int _ i => l.length - i.toNat | _ => 0)
  case atStart => exact hR
  case round =>
    clear hR
    obtain ⟨acc, i, rfl, rfl, hi, HB, g1, g2⟩ := hrel
    have G1 := Lib.hid g1
    have G2 := Lib.hid g2
    clear g1 g2
    by_cases hgo : i < l.length
    · have hd : l.drop i = l[i] :: l.drop (i + 1) := List.drop_eq_getElem_cons hgo
      have k0 : (0 : Int) ≤ (i : Int) := by omega
      have k1 : (i : Int) < (l.length : Int) := by omega
      obtain ⟨ad, rfl, e0⟩ := Kd.at_string (Kd.C_below HL.out HB) (i : Int) k0 k1
      have e00 := Kd.C_below HL.out HB
      have er : rdOf ByteArray.empty l (i : Int) = l[i] := by simp [rdOf, List.getD_eq_getElem?_getD, hgo]
      rw [er, Int.toNat_natCast] at e0
      have hD := Lib.hid hd
      clear hd er
      generalize hx : l[i] = x at *
      clear hx
      have g3 : acc.length + (2 + x.size + tot (l.drop (i + 1))) ≤ tot l := by have := G2.out; rw [hD.out] at this; exact this
      by_cases hbig : 65535 < x.size
      · have hb1 : decide ((65535 : Int) < (x.size : Int)) = true := decide_eq_true (by omega)
        go_wp2_with fail
        go_ret2
        refine ⟨?_, HB⟩
        rw [G1.out, hD.out]
        simp [lst, hbig]
      · have hb1 : decide ((65535 : Int) < (x.size : Int)) = false := decide_eq_false (by omega)
        have hacc : strOfNums acc ++ strOfNums (sz x.size) ++ x = strOfNums ((acc ++ sz x.size) ++ bytesOf x) := by rw [str_app, str_app, str_bytes]
        have HA := Lib.hid hacc
        have hE : lst acc (x :: l.drop (i + 1)) = lst ((acc ++ sz x.size) ++ bytesOf x) (l.drop (i + 1)) := by rw [lst, if_neg hbig]
        have HE := Lib.hid hE
        have hz1 : (strOfNums acc).size = acc.length := strOfNums_size _
        have hz2 : (strOfNums (sz x.size)).size = 2 := strOfNums_size _
        have HT := Lib.hid (two_any x.size (by omega))
        clear hacc hE e00
        generalize hS : strOfNums acc = S at *
        have HS := Lib.hid hS
        clear hS
        generalize strOfNums (sz x.size) = T at *
        have f1 : S.size + T.size ≤ 9223372036854775807 := by omega
        have f2 : (S ++ T).size + x.size ≤ 9223372036854775807 := by rw [ByteArray.size_append]; omega
        have q1 : ∀ W, (binOp BinOp.add 9 (.string S) (.string T)).run Try.prog W = .ok (.string (S ++ T)) W := by intro W; simp [binOp, Op.stringOp, maxLen]; omega
        have q2 : ∀ W, (binOp BinOp.add 9 (.string (S ++ T)) (.string x)).run Try.prog W = .ok (.string (S ++ T ++ x)) W := by intro W; simp [binOp, Op.stringOp, maxLen]; omega
        go_wp2_with fail
        go_region_with ((go_at_call 33; (with_reducible refine (HT.out _).mono ?_); rintro e w3 ⟨rfl, hb3⟩; have HB3 : Below w.heap.size w w3 := below_step (below_drew1 HB) hb3; have e3 : w3.cell? (ad.add i) = some (.string x) := (hb3.cell (World.block_lt_of_cell? _ _ e0)).trans e0))
        all_goals
          go_wp2_with fail
          refine ⟨⟨(acc ++ sz x.size) ++ bytesOf x, i + 1, rfl, ?_, hgo, HB3, ?_, ?_⟩, ?_⟩
          · rw [← HA.out]
          · rw [G1.out, hD.out, HE.out]
          · rw [List.length_append, List.length_append, sz_len, bytesOf_length]; omega
          · show l.length - ((i : Int) + 1).toNat < l.length - (i : Int).toNat; omega
    · have hd : l.drop i = [] := List.drop_eq_nil_of_le (by omega)
      go_wp2_with fail
      go_ret2
      refine ⟨?_, HB⟩
      rw [G1.out, hd]
      rfl
end Go.Proofs.Ytndbchigekbjaaa.Base
