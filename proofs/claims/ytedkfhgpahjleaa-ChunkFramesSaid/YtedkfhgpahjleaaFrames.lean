/- Any body's frame is the document's, or it is refused. Conditions: none beyond the row's own. -/
import Derived.Test.YtedkfhgpahjleaaAwake
set_option linter.unusedVariables false
set_option linter.unusedSimpArgs false
namespace Go.Proofs.Ytedkfhgpahjleaa.Frames
open Go Go.RowKit Go.Proofs.Ytedkfhgpahjleaa.Mem Go.Proofs.YtedkfhgpahjleaaW.PrintWords Go.Proofs.Ytedkfhgpahjleaa.Base
theorem ref_frame (b : ByteArray) (w : World) : Calls Try.prog 12 #[.string b] w fun e w' => e = .returned (.tuple #[.string (frS b), .int .i64 (frE b)]) ∧ Below w.heap.size w w' := by
  unfold frS frE
  by_cases h1 : b.size < 5
  · rw [if_pos h1, if_pos h1]
    have h1' : (b.size : Int) < 5 := by omega
    go_enter Try.func12, Try.ntmps12
    go_wp2_with fail
    go_ret2
    exact ⟨rfl, Below.refl _ _⟩
  · rw [if_neg h1, if_neg h1]
    by_cases h2 : 16384 < b.size
    · rw [if_pos h2, if_pos h2]
      have h2' : (16384 : Int) < (b.size : Int) := by omega
      clear h1
      go_enter Try.func12, Try.ntmps12
      go_wp2_with fail
      go_ret2
      exact ⟨rfl, Below.refl _ _⟩
    · rw [if_neg h2, if_neg h2]
      have h1' : (5 : Int) ≤ (b.size : Int) := by omega
      have h2' : (b.size : Int) ≤ 16384 := by omega
      have hcv := run_convert_bytes_back (P := Try.prog) (w.alloc (.cells #[.int .u8 0, .int .u8 0, .int .u8 ((b.size : Int) / 256), .int .u8 ((b.size : Int) % 256)] 5)) 37 9 5 ⟨w.heap.size, 0, none⟩ 4 [0, 0, UInt8.ofNat (b.size / 256), UInt8.ofNat b.size] Try.underlying37 Try.underlying5 Try.underlying9 (fun j hj => by
        rw [Mem.add_at, Nat.zero_add, (Blk.new w 5 _).cell j]
        match j, hj with
        | 0, _ => rfl
        | 1, _ => rfl
        | 2, _ => simp only [List.getElem_cons_succ, List.getElem_cons_zero, UInt8.toNat_ofNat']; show some (Value.int .u8 _) = some (Value.int .u8 _); congr 2; omega
        | 3, _ => simp only [List.getElem_cons_succ, List.getElem_cons_zero, UInt8.toNat_ofNat']; show some (Value.int .u8 _) = some (Value.int .u8 _); congr 2)
      simp only [List.length_cons, List.length_nil, Nat.zero_add, Nat.reduceAdd] at hcv
      clear h1 h2
      go_enter Try.func12, Try.ntmps12
      go_wp2_with fail
      go_ret2
      exact ⟨rfl, (Below.refl _ _).alloc (Nat.le_refl _) _⟩
theorem core (b : ByteArray) (w : World) (_ : b.size ≤ 140737488351232) : Calls Try.prog 3 #[.string b] w fun e w' => e = .returned (.bool true) ∧ Below w.heap.size w w' := by
  by_cases hs : b.size ≤ 60000
  · go_enter Try.func3, Try.ntmps3
    go_wp2_with fail
    refine (frame_any b _).mono ?_
    rintro e w1 ⟨rfl, hb⟩
    have HK := (Kp.refl w).go hb
    clear hb
    go_wp2_with fail
    refine (ref_frame b _).mono ?_
    rintro e w2 ⟨rfl, hb⟩
    replace HK := HK.go hb
    clear hb
    go_wp2_with fail
    refine (awake_any _).mono ?_
    rintro e w3 ⟨rfl, hb⟩
    replace HK := HK.go hb
    go_wp2_with fail
    go_ret
    exact ⟨rfl, HK.below⟩
  · have hs' : 60000 < b.size := by omega
    clear hs
    go_enter Try.func3, Try.ntmps3
    go_wp2_with fail
    refine (awake_any _).mono ?_
    rintro e w3 ⟨rfl, hb⟩
    go_wp2_with fail
    go_ret
    exact ⟨rfl, hb⟩
end Go.Proofs.Ytedkfhgpahjleaa.Frames
