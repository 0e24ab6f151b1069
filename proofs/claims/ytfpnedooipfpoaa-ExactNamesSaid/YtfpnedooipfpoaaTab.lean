/- A table, and what it owns; what is told of it. Conditions: as each contract says. -/
import Derived.Test.YtfpnedooipfpoaaFind
import Derived.StillTailTactics
set_option linter.unusedVariables false
set_option linter.unusedSimpArgs false
namespace Go.Proofs.Ytfpnedooipfpoaa.Base
open Go Go.RowKit Go.Proofs.Ytfpnedooipfpoaa Go.Proofs.Ytfpnedooipfpoaa.Ex Go.Proofs.Ytfpnedooipfpoaa.Mem Go.Proofs.Ytfpnedooipfpoaa.Math Go.Proofs.YtfpnedooipfpoaaW.PrintWords Go.Proofs.YtfpnedooipfpoaaW.PrintLast Go.Proofs.Ytfpnedooipfpoaa.PExactHalf
/-- No key is longer than memory bears. -/
def Sm (L : Slots) : Prop := ∀ k v, has L k v → k.size ≤ 140737488351232
def Tto (w : World) (a : Nat) (O : Nat → Prop) (T : Tb) : Prop := (∀ k, O k → k < w.heap.size) ∧ ∃ g cap, TM w a g cap T.L (T.n : Int) ∧ Ex.Good HH T ∧ Pw T.L.length ∧ Sm T.L ∧ O a ∧ O g
def Grow (O : Nat → Prop) (w w' : World) (k : Nat) : Prop := O k ∨ (w.heap.size ≤ k ∧ k < w'.heap.size)
def New (w w' : World) (k : Nat) : Prop := w.heap.size ≤ k ∧ k < w'.heap.size
section
variable {w w1 : World} {a : Nat} {O S : Nat → Prop} {T : Tb}
theorem Tto.fp (h : Tto w a O T) (hf : Fp S w w1) (hd : ∀ k, O k → ¬ S k) : Tto w1 a O T := by
  obtain ⟨h1, g, cap, h2, h3, h4, h5, h6, h7⟩ := h
  exact ⟨fun k hk => Nat.lt_of_lt_of_le (h1 k hk) hf.size, g, cap, h2.fp hf (hd a h6) (hd g h7), h3, h4, h5, h6, h7⟩
theorem Tto.go (h : Tto w a O T) (hb : Below w.heap.size w w1) : Tto w1 a O T := h.fp (Fp.of_below hb (fun _ => False)) (fun _ _ e => e)
theorem Tto.weak (h : Tto w a O T) (hO : ∀ k, O k → S k) (hT : ∀ k, S k → k < w.heap.size) : Tto w a S T := by
  obtain ⟨h1, g, cap, h2, h3, h4, h5, h6, h7⟩ := h
  exact ⟨hT, g, cap, h2, h3, h4, h5, hO _ h6, hO _ h7⟩
theorem Tto.same (h : Tto w a O T) (hb : Below w.heap.size w w1) : Tto w1 a (Grow O w w1) T :=
  (h.go hb).weak (fun k hk => .inl hk) (fun k hk => by
    rcases hk with hk | hk
    · exact Nat.lt_of_lt_of_le (h.1 k hk) hb.size
    · exact hk.2)
theorem Tto.good (h : Tto w a O T) : Ex.Good HH T := by obtain ⟨_, _, _, _, h, _⟩ := h; exact h
theorem Tto.pw (h : Tto w a O T) : Pw T.L.length := by obtain ⟨_, _, _, _, _, h, _⟩ := h; exact h
theorem Tto.sm (h : Tto w a O T) : Sm T.L := by obtain ⟨_, _, _, _, _, _, h, _⟩ := h; exact h
end
set_option maxHeartbeats 3200000 in
theorem len_any (a : Nat) (O : Nat → Prop) (T : Tb) (w : World) (h : Tto w a O T) : Calls Try.prog 13 #[ptr a] w fun e w' => e = .returned (.int .i64 (T.n : Int)) ∧ w' = w := by
  obtain ⟨h1, g, cap, h2, h3, h4, h5, h6, h7⟩ := h
  have c1 := h2.box.cell 1
  clear h1 h2 h3 h4 h5 h6 h7
  go_enter Try.func13, Try.ntmps13
  go_wp2_with fail
  go_ret
  exact ⟨rfl, rfl⟩
set_option maxHeartbeats 3200000 in
theorem slots_any (a : Nat) (O : Nat → Prop) (T : Tb) (w : World) (h : Tto w a O T) : Calls Try.prog 12 #[ptr a] w fun e w' => e = .returned (.int .i64 (T.L.length : Int)) ∧ w' = w := by
  obtain ⟨h1, g, cap, h2, h3, h4, h5, h6, h7⟩ := h
  have c0 := h2.box.cell 0
  rw [show #[Value.slice (some ⟨g, 0, none⟩) T.L.length cap, .int .i64 (T.n : Int)][0]? = some (.slice (some ⟨g, 0, none⟩) T.L.length cap) from rfl] at c0
  generalize T.L.length = m at *
  clear h1 h2 h3 h4 h5 h6 h7
  go_enter Try.func12, Try.ntmps12
  go_wp2_with fail
  go_ret
  exact ⟨rfl, rfl⟩
set_option maxHeartbeats 3200000 in
theorem looks_any (a : Nat) (O : Nat → Prop) (T : Tb) (k : Key) (w : World) (h : Tto w a O T) (hk : k.size ≤ 140737488351232) : Calls Try.prog 16 #[ptr a, .string k] w fun e w' => e = .returned (.int .i64 ((looks HH T k : Nat) : Int)) ∧ Below w.heap.size w w' := by
  obtain ⟨h1, g, cap, h2, h3, h4, h5, h6, h7⟩ := h
  have HM := Lib.hid h2
  have HP := Lib.hid h4
  have HF := Lib.hid h3.free
  have HK := Lib.hid hk
  have hpos := h4.pos
  have HPL := Lib.hid (plc_lt hlim (show 0 < T.L.length by omega) k)
  have HFL := Lib.hid (find_lt hlim h3.free k)
  have HLK := Lib.hid (show looks HH T k = aw T.L.length (plc HH T.L.length k) (find HH T.L k) + 1 from rfl)
  have HAW := Lib.hid (show aw T.L.length (plc HH T.L.length k) (find HH T.L k) < T.L.length from aw_lt (by omega))
  have HPS := Lib.hid hpos
  generalize looks HH T k = lk at *
  clear h1 h2 h3 h4 h5 h6 h7 hk hpos
  go_enter Try.func16, Try.ntmps16
  go_wp2_with fail
  refine (place_any a g cap T.L _ k w HM.out HP.out HK.out).mono ?_
  rintro e w1 ⟨rfl, hb⟩
  have HB1 := Lib.hid hb
  clear hb
  generalize plc HH T.L.length k = p at *
  go_wp2_with fail
  refine (find_any a g cap T.L _ k w1 (HM.out.go HB1.out) HP.out HF.out HK.out).mono ?_
  rintro e w2 ⟨rfl, hb⟩
  have HB2 := Lib.hid (below_step HB1.out hb)
  clear hb
  generalize find HH T.L k = f at *
  go_wp2_with fail
  refine (away_any a g cap T.L _ p f w2 (HM.out.go HB2.out) HP.out HPL.out HFL.out).mono ?_
  rintro e _ ⟨rfl, rfl⟩
  generalize aw T.L.length p f = aa at *
  have hb1 : (aa : Int) + 1 ≤ 2000000000 := by have := HAW.out; have := HPS.out; omega
  go_wp2_with fail
  go_ret
  exact ⟨by rw [HLK.out, Int.natCast_add] <;> rfl, HB2.out⟩
end Go.Proofs.Ytfpnedooipfpoaa.Base
