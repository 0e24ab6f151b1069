/- What the bytes of a list are, and that List makes them. Conditions: as each contract says. -/
import Derived.Test.YtndbchigekbjaaaBase
import Derived.Test.YtndbchigekbjaaaPTlvNumbersx1
set_option linter.unusedVariables false
set_option linter.unusedSimpArgs false
namespace Go.Proofs.Ytndbchigekbjaaa.Base
open Go Go.RowKit Go.Proofs.Ytndbchigekbjaaa.Mem Go.Proofs.YtndbchigekbjaaaW.PrintWords
/-- The two bytes of a length. -/
def sz (n : Nat) : List Int := [((n : Int) / 256) % 256, (n : Int) % 256]
theorem sz_len (n : Nat) : (sz n).length = 2 := rfl
/-- The bytes of a list, behind others; and the error. -/
def lst (acc : List Int) : List ByteArray → ByteArray × Int
  | [] => (strOfNums acc, 0)
  | s :: r => if 65535 < s.size then (⟨#[]⟩, 5) else lst ((acc ++ sz s.size) ++ bytesOf s) r
/-- How much that is, at most. -/
def tot : List ByteArray → Nat
  | [] => 0
  | s :: r => 2 + s.size + tot r
theorem size_any (n : Nat) (w : World) : Calls Try.prog 32 #[.int .i64 (n : Int)] w fun e w' =>
    ∃ A c, e = .returned (.slice A 2 c) ∧ ReadsInt w' .u8 A 2 (sz n) ∧ Below w.heap.size w w' := by
  refine (PTlvNumbers.tlv_size.calls (n : Int) (sz n) w rfl).mono ?_
  rintro e w' ⟨v, rfl, h, hb⟩
  obtain ⟨A, c, rfl, hr⟩ := own_reads (Kd.own_of_R h)
  exact ⟨A, c, rfl, hr, hb⟩
theorem info5 : (Try.prog.info? 5).map (fun i => (i.zero, i.size, i.bytes)) = some (some (.int .u8 0), 1, 1) := by kernel_rfl
def LR (l : List ByteArray) (w : World) (t4 t9 : Value) (wr : World) : Prop :=
  ∃ (acc : List Int) (i : Nat), t9 = .int .i64 (i : Int) ∧ i ≤ l.length ∧ wr.ownsRow w.heap.size 5 1 t4 acc.length (nums .u8 acc) ∧ Below w.heap.size w wr ∧ lst [] l = lst acc (l.drop i) ∧ acc.length + tot (l.drop i) ≤ tot l
set_option maxHeartbeats 1600000 in
theorem list_any (A0 : Option Addr) (c0 : Nat) (l : List ByteArray) (w : World) (h0 : Kd.C Kd.string w A0 l.length l) (hc0 : l.length ≤ c0) (hl : l.length < 1000000000) (hs : tot l ≤ 1000000000) :
    Calls Try.prog 26 #[.slice A0 l.length c0] w fun e w' => e = .returned (.tuple #[.string (lst [] l).1, .int .i64 (lst [] l).2]) ∧ Below w.heap.size w w' := by
  have hR : LR l w (.slice none 0 0) (.int .i64 0) w := ⟨[], 0, rfl, by omega, own_nil _ _ _ _, Below.refl _ _, rfl, by simp⟩
  have HL := Lib.hid h0
  clear h0
  go_enter Try.func26, Try.ntmps26
  go_wp2_with fail
  go_loopw [4, 9] (fun t4 t9 wr => LR l w t4 t9 wr) (fun t4 t9 _ => match t9 with | .int _ i => l.length - i.toNat | _ => 0)
  case atStart => exact hR
  case round =>
    clear hR
    obtain ⟨acc, i, rfl, hi, hO, HB, g1, g2⟩ := hrel
    have G1 := Lib.hid g1
    have G2 := Lib.hid g2
    clear g1 g2
    by_cases hgo : i < l.length
    · have hd : l.drop i = l[i] :: l.drop (i + 1) := List.drop_eq_getElem_cons hgo
      have k0 : (0 : Int) ≤ (i : Int) := by omega
      have k1 : (i : Int) < (l.length : Int) := by omega
      obtain ⟨ad, rfl, e0⟩ := Kd.at_string (Kd.C_below HL.out HB) (i : Int) k0 k1
      have er : rdOf ByteArray.empty l (i : Int) = l[i] := by simp [rdOf, List.getD_eq_getElem?_getD, hgo]
      rw [er, Int.toNat_natCast] at e0
      have hD := Lib.hid hd
      clear hd er
      generalize hx : l[i] = x at *
      clear hx
      have g3 : acc.length + (2 + x.size + tot (l.drop (i + 1))) ≤ tot l := by have := G2.out; rw [hD.out] at this; exact this
      have hbs : w.heap.size ≤ wr.heap.size := HB.size
      by_cases hbig : 65535 < x.size
      · go_wp2_with fail
        go_ret2
        refine ⟨?_, HB⟩
        rw [G1.out, hD.out]
        simp [lst, hbig]
      · obtain ⟨A4, c4, rfl⟩ := own_slice hO
        generalize hu4 : Value.slice A4 acc.length c4 = u4 at *
        have HU := Lib.hid hu4
        clear hu4
        go_wp2_with fail
        refine (size_any x.size wr).mono ?_
        rintro e w1 ⟨A, c, rfl, hr, hb⟩
        have hO1 : w1.ownsRow w.heap.size 5 1 u4 acc.length (nums .u8 acc) := own_move hO (fun k hk => hb.block k (own_lt hO k hk))
        have HB1 : Below w.heap.size w w1 := below_step HB hb
        have hbs1 : w.heap.size ≤ w1.heap.size := HB1.size
        clear hO HB hb
        have hsum : (acc ++ sz x.size).length = acc.length + 2 := by simp [sz]
        go_wp2_with (at_builtin; first | (refine print_append_row (w0 := w) w.heap.size rfl _ _ 57 5 .u8 1 rfl Try.underlying57 info5 (by decide) u4 acc (sz x.size) A 2 c (by rfl) (by rfl) hO1 hr HB1 hbs1 (by omega) ?_; intro v2 w2 hO2 HB2 hg2 _) | (go_must (refine print_append_str (w0 := w) w.heap.size rfl _ _ 57 9 5 rfl Try.underlying57 Try.underlying9 info5 v2 (acc ++ sz x.size) x (by rfl) (by rfl) hO2 HB2 HB2.size (by omega) ?_; intro v3 w3 hO3 HB3 hg3)))
        refine ⟨⟨(acc ++ sz x.size) ++ bytesOf x, i + 1, rfl, hgo, hO3, HB3, ?_, ?_⟩, ?_⟩
        · rw [G1.out, hD.out]; simp only [lst, if_neg hbig]
        · rw [List.length_append, hsum, bytesOf_length]; omega
        · show l.length - ((i : Int) + 1).toNat < l.length - (i : Int).toNat; omega
    · have hd : l.drop i = [] := List.drop_eq_nil_of_le (by omega)
      have hcv := own_string (P := Try.prog) Try.underlying57 Try.underlying5 Try.underlying9 hO
      obtain ⟨A4, c4, rfl⟩ := own_slice hO
      go_wp2_with fail
      go_ret2
      refine ⟨?_, HB⟩
      rw [G1.out, hd]
      rfl
end Go.Proofs.Ytndbchigekbjaaa.Base
