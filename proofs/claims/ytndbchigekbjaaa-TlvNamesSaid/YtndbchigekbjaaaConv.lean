/- Attributes, the program's of the document's, and the other way about. Conditions: as each contract says. -/
import Derived.Test.YtndbchigekbjaaaEnc
import Derived.Test.YtndbchigekbjaaaAttrs
set_option linter.unusedVariables false
set_option linter.unusedSimpArgs false
namespace Go.Proofs.Ytndbchigekbjaaa.Base
open Go Go.RowKit Go.Proofs.Ytndbchigekbjaaa.Mem Go.Proofs.YtndbchigekbjaaaW.PrintWords Go.Proofs.YtndbchigekbjaaaW.PrintMore Go.Proofs.Ytndbchigekbjaaa.PTlvCodes
theorem size_list (S : ByteArray) : S.size = S.data.toList.length := by rw [Array.length_toList]; rfl
def to38 (x : S48) : S38 := ⟨x.f0, x.f1⟩
def to48 (x : S38) : S48 := ⟨x.f0, x.f1⟩
def CR (l : List S48) (w : World) (t3 t4 : Value) (wr : World) : Prop :=
  ∃ i : Nat, t4 = .int .i64 (i : Int) ∧ i ≤ l.length ∧ Kd.R k38 38 wr w.heap.size (fun _ => True) t3 ((l.take i).map to38) ∧ Below w.heap.size w wr
set_option maxHeartbeats 1600000 in
theorem attrs_conv (A0 : Option Addr) (c0 : Nat) (l : List S48) (w : World) (h0 : Kd.C k48 w A0 l.length l) (hc0 : l.length ≤ c0) (hl : l.length < 1000000000) :
    Calls Try.prog 14 #[.slice A0 l.length c0] w fun e w' => ∃ v, e = .returned v ∧ Kd.R k38 38 w' w.heap.size (fun _ => True) v (l.map to38) ∧ Below w.heap.size w w' := by
  have hR : CR l w (.slice none 0 0) (.int .i64 0) w := ⟨0, rfl, by omega, Kd.R_nil _ _ _ _ _, Below.refl _ _⟩
  have HL := Lib.hid h0
  clear h0
  go_enter Try.func14, Try.ntmps14
  go_wp2_with fail
  go_loopw [3, 4] (fun t3 t4 wr => CR l w t3 t4 wr) (fun t3 t4 _ => match t4 with | .int _ i => l.length - i.toNat | _ => 0)
  case atStart => exact hR
  case round =>
    clear hR
    obtain ⟨i, rfl, hi, hRow, HB⟩ := hrel
    by_cases hgo : i < l.length
    · have k0 : (0 : Int) ≤ (i : Int) := by omega
      have k1 : (i : Int) < (l.length : Int) := by omega
      obtain ⟨ad, rfl, e0, e1⟩ := at_T48 (Kd.C_below HL.out HB) (i : Int) k0 k1
      have er : rd_T48 l (i : Int) = l[i] := by simp [rd_T48, List.getD_eq_getElem?_getD, hgo]
      rw [er, Int.toNat_natCast] at e0 e1
      have hT : (l.take (i + 1)).map to38 = (l.take i).map to38 ++ [to38 l[i]] := by rw [List.take_succ_eq_append_getElem hgo, List.map_append]; rfl
      have hlen : ((l.take i).map to38).length = i := by simp; omega
      have HT := Lib.hid hT
      clear hT er
      generalize l[i] = x at *
      obtain ⟨A4, c4, rfl, m4, _⟩ := Kd.R_reads hRow
      generalize hu3 : Value.slice A4 ((l.take i).map to38).length c4 = u3 at *
      have HU := Lib.hid hu3
      clear hu3
      generalize hacc : (l.take i).map to38 = acc at *
      clear hacc
      go_wp2_with (at_builtin; go_must (refine Kd.R_append k38 (w0 := w) w.heap.size rfl _ _ 25 38 (.agg #[(.int .u8 0), (.string ⟨#[]⟩)]) 24 rfl Try.underlying25 info38 rfl (by decide) (by decide) u3 acc (to38 x) [.int .u8 x.f0, .string x.f1] (fun _ => True) (fun _ => False) (by rfl) (by rfl) (k38_mkM _ _ _ (to38 x)) (fun _ hk => hk.elim) (fun _ _ => trivial) hRow HB HB.size (by omega) ?_; intro v5 w5 ho5 hb5 hg5 hat5))
      refine ⟨⟨i + 1, rfl, hgo, by rw [HT.out]; exact ho5, hb5⟩, ?_⟩
      show l.length - ((i : Int) + 1).toNat < l.length - (i : Int).toNat
      omega
    · obtain rfl : i = l.length := by omega
      rw [List.take_length] at hRow
      obtain ⟨A4, c4, rfl, m4, _⟩ := Kd.R_reads hRow
      go_wp2_with fail
      go_ret
      exact ⟨_, rfl, hRow, HB⟩
def PR (l : List S38) (w : World) (t3 t4 : Value) (wr : World) : Prop :=
  ∃ i : Nat, t4 = .int .i64 (i : Int) ∧ i ≤ l.length ∧ Kd.R k48 48 wr w.heap.size (fun _ => True) t3 ((l.take i).map to48) ∧ Below w.heap.size w wr
set_option maxHeartbeats 1600000 in
theorem plain_conv (A0 : Option Addr) (c0 : Nat) (l : List S38) (w : World) (h0 : Kd.C k38 w A0 l.length l) (hc0 : l.length ≤ c0) (hl : l.length < 1000000000) :
    Calls Try.prog 18 #[.slice A0 l.length c0] w fun e w' => ∃ v, e = .returned v ∧ Kd.R k48 48 w' w.heap.size (fun _ => True) v (l.map to48) ∧ Below w.heap.size w w' := by
  have hR : PR l w (.slice none 0 0) (.int .i64 0) w := ⟨0, rfl, by omega, Kd.R_nil _ _ _ _ _, Below.refl _ _⟩
  have HL := Lib.hid h0
  clear h0
  go_enter Try.func18, Try.ntmps18
  go_wp2_with fail
  go_loopw [3, 4] (fun t3 t4 wr => PR l w t3 t4 wr) (fun t3 t4 _ => match t4 with | .int _ i => l.length - i.toNat | _ => 0)
  case atStart => exact hR
  case round =>
    clear hR
    obtain ⟨i, rfl, hi, hRow, HB⟩ := hrel
    by_cases hgo : i < l.length
    · have k0 : (0 : Int) ≤ (i : Int) := by omega
      have k1 : (i : Int) < (l.length : Int) := by omega
      obtain ⟨ad, rfl, e0, e1⟩ := at_T38 (Kd.C_below HL.out HB) (i : Int) k0 k1
      have er : rd_T38 l (i : Int) = l[i] := by simp [rd_T38, List.getD_eq_getElem?_getD, hgo]
      rw [er, Int.toNat_natCast] at e0 e1
      have hT : (l.take (i + 1)).map to48 = (l.take i).map to48 ++ [to48 l[i]] := by rw [List.take_succ_eq_append_getElem hgo, List.map_append]; rfl
      have hlen : ((l.take i).map to48).length = i := by simp; omega
      have HT := Lib.hid hT
      clear hT er
      generalize l[i] = x at *
      obtain ⟨A4, c4, rfl, m4, _⟩ := Kd.R_reads hRow
      generalize hu3 : Value.slice A4 ((l.take i).map to48).length c4 = u3 at *
      have HU := Lib.hid hu3
      clear hu3
      generalize hacc : (l.take i).map to48 = acc at *
      clear hacc
      go_wp2_with (at_builtin; go_must (refine Kd.R_append k48 (w0 := w) w.heap.size rfl _ _ 22 48 (.agg #[(.int .u8 0), (.string ⟨#[]⟩)]) 24 rfl Try.underlying22 info48 rfl (by decide) (by decide) u3 acc (to48 x) [.int .u8 x.f0, .string x.f1] (fun _ => True) (fun _ => False) (by rfl) (by rfl) (k48_mkM _ _ _ (to48 x)) (fun _ hk => hk.elim) (fun _ _ => trivial) hRow HB HB.size (by omega) ?_; intro v5 w5 ho5 hb5 hg5 hat5))
      refine ⟨⟨i + 1, rfl, hgo, by rw [HT.out]; exact ho5, hb5⟩, ?_⟩
      show l.length - ((i : Int) + 1).toNat < l.length - (i : Int).toNat
      omega
    · obtain rfl : i = l.length := by omega
      rw [List.take_length] at hRow
      obtain ⟨A4, c4, rfl, m4, _⟩ := Kd.R_reads hRow
      go_wp2_with fail
      go_ret
      exact ⟨_, rfl, hRow, HB⟩
theorem to48_to38 (l : List S48) : (l.map to38).map to48 = l := by
  rw [List.map_map]
  exact List.map_id' l
theorem dec_len (s : List UInt8) (last : Nat) : (dec last s).1.length ≤ s.length := by
  fun_induction dec last s
  · simp
  · simp
  · simp
  · next ih =>
    simp only [List.length_cons, List.length_drop] at ih ⊢
    omega
  · simp
end Go.Proofs.Ytndbchigekbjaaa.Base
