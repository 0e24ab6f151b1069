/- The examples are as they are told. Conditions: none. -/
import Derived.Test.YtndbchigekbjaaaRead
import Derived.Test.YtndbchigekbjaaaEnc
import Derived.Test.YtndbchigekbjaaaItems
set_option linter.unusedVariables false
set_option linter.unusedSimpArgs false
namespace Go.Proofs.Ytndbchigekbjaaa.Base
open Go Go.RowKit Go.Proofs.Ytndbchigekbjaaa.Mem Go.Proofs.YtndbchigekbjaaaW.PrintWords Go.Proofs.Ytndbchigekbjaaa.PTlvCodes
theorem blk_reads {w : World} {g : Nat} {l : List ByteArray} (h : Blk w g 9 (l.map Value.string).toArray) (hl : l.length ≤ 9223372036854775807) : Kd.string.C w (some ⟨g, 0, none⟩) l.length l := by
  refine ⟨rfl, hl, fun _ => ⟨_, rfl, fun j p hj => ⟨[.string p], rfl, rfl, fun i u hu => ?_⟩⟩⟩
  have hi : i = 0 := by
    have := (List.getElem?_eq_some_iff.1 hu).1
    simp at this
    omega
  subst hi
  simp at hu
  subst hu
  show w.cell? (Addr.add ⟨g, 0, none⟩ (j * 1 + 0)) = _
  rw [Mem.add_at, Nat.zero_add, h.cell (j * 1 + 0)]
  simp [hj]
/-- The cells of attributes. -/
def c38 : List S38 → List Value
  | [] => []
  | x :: r => .int .u8 x.f0 :: .string x.f1 :: c38 r
theorem c38_at : ∀ (l : List S38) (j : Nat) (p : S38), l[j]? = some p → ∀ (i : Nat) (u : Value), [Value.int .u8 p.f0, .string p.f1][i]? = some u → (c38 l)[j * 2 + i]? = some u
  | [], j, p, h, _, _, _ => by simp at h
  | x :: r, 0, p, h, i, u, hu => by
    simp at h
    subst h
    rcases i with _ | _ | i
    · simpa [c38] using hu
    · simpa [c38] using hu
    · simp at hu
  | x :: r, j + 1, p, h, i, u, hu => by
    have := c38_at r j p (by simpa using h) i u hu
    rw [show (j + 1) * 2 + i = (j * 2 + i) + 1 + 1 by omega]
    simpa [c38] using this
theorem blk_reads38 {w : World} {g : Nat} {l : List S38} (h : Blk w g 38 (c38 l).toArray) (hl : l.length ≤ 9223372036854775807) : k38.C w (some ⟨g, 0, none⟩) l.length l := by
  refine ⟨rfl, hl, fun _ => ⟨_, rfl, fun j p hj => ⟨[.int .u8 p.f0, .string p.f1], rfl, k38_mk w p, fun i u hu => ?_⟩⟩⟩
  show w.cell? (Addr.add ⟨g, 0, none⟩ (j * 2 + i)) = _
  rw [Mem.add_at, Nat.zero_add, h.cell (j * 2 + i)]
  simpa using c38_at l j p hj i u hu
theorem refused_yes (s : ByteArray) (er : Int) (w : World) (hs : s.size ≤ 10000000) (h1 : (dec 0 s.data.toList).2 = er) (h2 : er = 0 → (dec 0 s.data.toList).1 = []) :
    Calls Try.prog 31 #[.string s, .int .i64 er] w fun e w' => e = .returned (.bool true) ∧ Below w.heap.size w w' := by
  have hH := Lib.hid h2
  have h1' := Lib.hid h1
  clear h2 h1
  go_enter Try.func31, Try.ntmps31
  go_wp2_with fail
  refine (decode_any s w hs).mono ?_
  rintro e w1 ⟨v, rfl, hr, hb⟩
  rw [h1'.out] at hr ⊢
  have hl : (if er = 0 then (dec 0 s.data.toList).1 else []) = [] := by
    split
    · rename_i h; exact hH.out h
    · rfl
  rw [hl] at hr
  obtain ⟨A4, c4, rfl, m4, _⟩ := Kd.R_reads hr
  clear hr hl
  go_wp2_with fail
  go_ret
  exact ⟨rfl, hb⟩
theorem num_0 : num 0 = [] := by rw [num, if_pos rfl]
theorem num_256 : num 256 = [1, 0] := by
  rw [num_pos 256 (by decide), show 256 / 256 = 1 from rfl, num_pos 1 (by decide), show 1 / 256 = 0 from rfl, num_0]
  rfl
set_option maxHeartbeats 3200000 in
theorem awake_any (w : World) : Calls Try.prog 13 #[] w fun e w' => e = .returned (.bool true) ∧ Below w.heap.size w w' := by
  go_enter Try.func13, Try.ntmps13
  go_wp2_with fail
  refine (enc_any (some ⟨w.heap.size, 0, none⟩) 1 [⟨3, ⟨#[97, 98]⟩⟩] _ (blk_reads38 (Blk.new w 38 #[.int .u8 3, .string ⟨#[97, 98]⟩]) (by decide)) (by decide) (by decide) (by decide)).mono ?_
  rintro e w1 ⟨rfl, hb1⟩
  rw [show enc [] 0 [⟨3, ⟨#[97, 98]⟩⟩] = (⟨#[3, 0, 2, 97, 98]⟩, 0) from by rfl]
  have HB1 : Below w.heap.size w w1 := below_step ((Below.refl _ w).alloc (Nat.le_refl _) _) hb1
  clear hb1
  go_wp2_with fail
  refine (PTlvNumbers.tlv_ReadNum.calls 20 ⟨#[0]⟩ 9 0 3 w1 (by rw [(readnum_f ⟨#[0]⟩ 9).1]; rfl)).mono ?_
  rintro e w2 ⟨rfl, hb2⟩
  obtain ⟨n2, e2⟩ := hb2.out
  have HB2 : Below w.heap.size w w2 := by rw [e2]; exact pw_below_drewN HB1 n2
  clear e2
  clear hb2 HB1
  go_wp2_with fail
  refine (list_any (some ⟨w2.heap.size, 0, none⟩) 2 [⟨#[]⟩, ⟨#[97]⟩] _ (blk_reads (l := [⟨#[]⟩, ⟨#[97]⟩]) (Blk.new w2 9 #[.string ⟨#[]⟩, .string ⟨#[97]⟩]) (by decide)) (by decide) (by decide) (by decide)).mono ?_
  rintro e w3 ⟨rfl, hb3⟩
  rw [show lst [] [⟨#[]⟩, ⟨#[97]⟩] = (⟨#[0, 0, 0, 1, 97]⟩, 0) from by rfl]
  have HB3 : Below w.heap.size w w3 := below_step (HB2.alloc HB2.size _) hb3
  clear hb3 HB2
  go_wp2_with fail
  refine (num_any 0 (by decide) w3).mono ?_
  rintro e w4 ⟨rfl, hb4⟩
  rw [num_0, show strOfNums [] = ⟨#[]⟩ from rfl]
  have HB4 : Below w.heap.size w w4 := below_step HB3 hb4
  clear hb4 HB3
  go_wp2_with fail
  refine (num_any 256 (by decide) w4).mono ?_
  rintro e w5 ⟨rfl, hb5⟩
  rw [num_256, show strOfNums [1, 0] = ⟨#[1, 0]⟩ from rfl]
  have HB5 : Below w.heap.size w w5 := below_step HB4 hb5
  clear hb5 HB4
  go_wp2_with fail
  refine (refused_yes ⟨#[3, 0, 0]⟩ 3 w5 (by decide) (by simp [dec]) (by decide)).mono ?_
  rintro e w6 ⟨rfl, hb6⟩
  have HB6 : Below w.heap.size w w6 := below_step HB5 hb6
  clear hb6 HB5
  go_wp2_with fail
  refine (refused_yes ⟨#[3, 0]⟩ 4 w6 (by decide) (by simp [dec]) (by decide)).mono ?_
  rintro e w7 ⟨rfl, hb7⟩
  have HB7 : Below w.heap.size w w7 := below_step HB6 hb7
  clear hb7 HB6
  go_wp2_with fail
  refine (refused_yes ⟨#[3, 0, 2, 97]⟩ 4 w7 (by decide) (by simp [dec]) (by decide)).mono ?_
  rintro e w8 ⟨rfl, hb8⟩
  have HB8 : Below w.heap.size w w8 := below_step HB7 hb8
  clear hb8 HB7
  go_wp2_with fail
  go_ret
  exact ⟨rfl, HB8⟩
end Go.Proofs.Ytndbchigekbjaaa.Base
