/- The law of the examples, of widths at both ends, of each error, of sets of nil. Conditions: none. -/
import Derived.Test.YtedbnppdfcljlaaLaw
set_option linter.unusedVariables false
set_option linter.unusedSimpArgs false
namespace Go.Proofs.Ytedbnppdfcljlaa.Base
open Go Go.RowKit Go.Proofs.Ytedbnppdfcljlaa.Mem Go.Proofs.YtedbnppdfcljlaaW.PrintWords Go.Proofs.YtedbnppdfcljlaaW.PrintLast
open Go.Proofs.Ytedbnppdfcljlaa.PRangMore (S42 S51 z42 z51 k42 k51 k42_open k51_open eqA42 rd_T42 rd_T51)
open Go.Proofs.Ytedbnppdfcljlaa
theorem str_add (a b : List UInt8) (h : a.length + b.length < 1000000) (W : World) : (binOp .add 9 (.string ⟨a.toArray⟩) (.string ⟨b.toArray⟩)).run Try.prog W = .ok (.string ⟨(a ++ b).toArray⟩) W := by
  rw [binOp_string_add, run_string_add_sum]
  · congr 2
  · show a.toArray.size + b.toArray.size ≤ _
    simp
    omega
/-! ### sets of nil -/
theorem find_nil (key : ByteArray) (w : World) : Calls Try.prog 12 #[.pointer none, .string key] w fun e w' => e = .returned (.tuple #[.int .i64 0, .bool false]) ∧ Below w.heap.size w w' := by
  have k1 := (Below.refl w.heap.size w).alloc (Nat.le_refl _) (.cells #[.pointer none] 23)
  have k2 := k1.alloc (by simp) (.cells #[.string key] 9)
  go_enter Try.func12, Try.ntmps12
  go_wp2_with fail
  go_quiet (fail)
  go_wp2_with fail
  go_ret2
  exact ⟨rfl, pw_below_drewN k2 _⟩
theorem put_nil (a b : ByteArray) (x y : Int) (w : World) : Calls Try.prog 10 #[.pointer none, .string a, .string b, .int .i64 x, .int .i64 y] w fun e w' => e = .returned (.int .i64 2) ∧ w = w' := by
  go_enter Try.func10, Try.ntmps10
  go_wp2_with fail
  go_ret
  exact ⟨rfl, rfl⟩
theorem del_nil (a b : ByteArray) (x : Int) (w : World) : Calls Try.prog 16 #[.pointer none, .string a, .string b, .int .i64 x] w fun e w' => e = .returned (.bool false) ∧ w = w' := by
  go_enter Try.func16, Try.ntmps16
  go_wp2_with fail
  go_ret
  exact ⟨rfl, rfl⟩
theorem len_nil (w : World) : Calls Try.prog 11 #[.pointer none] w fun e w' => e = .returned (.int .i64 0) ∧ w = w' := by
  go_enter Try.func11, Try.ntmps11
  go_wp2_with fail
  go_ret
  exact ⟨rfl, rfl⟩
theorem all_nil (w : World) : Calls Try.prog 17 #[.pointer none] w fun e w' => e = .returned (.slice none 0 0) ∧ w = w' := by
  go_enter Try.func17, Try.ntmps17
  go_wp2_with fail
  go_ret
  exact ⟨rfl, rfl⟩
theorem copy_nil (w : World) : Calls Try.prog 21 #[.pointer none] w fun e w' => e = .returned (.pointer none) ∧ w = w' := by
  go_enter Try.func21, Try.ntmps21
  go_wp2_with fail
  go_ret
  exact ⟨rfl, rfl⟩
theorem new_no {w : World} (A : Option Addr) (c : Nat) (ws : List Int) (h : Kd.C (Kd.int .i64) w A ws.length ws) (hl : ws.length < 1000000) (hk : okW ws = false) :
    Calls Try.prog 9 #[.slice A ws.length c] w fun e w' => e = .returned (.tuple #[.pointer none, .int .i64 1]) ∧ Below w.heap.size w w' := by
  refine (new_any A c ws w h hl).mono ?_
  rintro e w' ⟨h1, h2⟩
  rw [hk] at h1
  exact ⟨h1, h2⟩
/-! ### the texts -/
theorem info5 : (Try.prog.info? 5).map (fun i => (i.zero, i.size, i.bytes)) = some (some (.int .u8 0), 1, 1) := by kernel_rfl
/-- A row of noughts, made, and read as a text. -/
theorem made_zeros (w : World) (n : Nat) (hn : n < 1000000) : ∃ w', (Instr.makeSlice 48 (.int .i64 (n : Int)) (.int .i64 (n : Int))).run Try.prog w = .ok (.slice (some ⟨w.heap.size, 0, none⟩) n n) w' ∧
    (convert 48 9 (.slice (some ⟨w.heap.size, 0, none⟩) n n)).run Try.prog w' = .ok (.string ⟨(List.replicate n (0 : UInt8)).toArray⟩) w' ∧ Below w.heap.size w w' := by
  obtain ⟨i0, hi0, hz0, hz1, hz2⟩ := info_parts info5
  obtain ⟨w', h1, h2, h3⟩ := run_make_full (P := Try.prog) w 0 48 5 i0 _ 1 Try.underlying48 hi0 hz0 hz1 .i64 .i64 n (by rw [hz2]; omega) (by simp [maxLen]; omega) (Nat.zero_le _)
  refine ⟨w', h1, ?_, gb_to_below h3⟩
  have hc : (Value.int IntKind.u8 0).cells = #[Value.int IntKind.u8 0] := by simp [Value.cells]
  rw [hc, toList_madeCells_one, Nat.mul_one] at h2
  have := run_convert_bytes_back (P := Try.prog) w' 48 9 5 ⟨w.heap.size, 0, none⟩ n (List.replicate n (0 : UInt8)) Try.underlying48 Try.underlying5 Try.underlying9 (fun j hj => by
    rw [List.length_replicate] at hj
    rw [Mem.add_at, Nat.zero_add, h2.cellAt j (by omega), List.getElem?_replicate, if_pos hj, List.getElem_replicate]
    rfl)
  rwa [List.length_replicate] at this
def lo : ByteArray := ⟨(List.replicate 64 0).toArray⟩
theorem made_lo (w : World) : ∃ w', (Instr.makeSlice 48 (.int .i64 64) (.int .i64 64)).run Try.prog w = .ok (.slice (some ⟨w.heap.size, 0, none⟩) 64 64) w' ∧
    (convert 48 9 (.slice (some ⟨w.heap.size, 0, none⟩) 64 64)).run Try.prog w' = .ok (.string lo) w' ∧ Below w.heap.size w w' := made_zeros w 64 (by decide)
def hiN (n : Nat) : ByteArray := ⟨(List.replicate n 255).toArray⟩
def hi : ByteArray := hiN 64
def lo1 : ByteArray := ⟨(List.replicate 63 0).toArray⟩
def hia : ByteArray := ⟨(List.replicate 64 (255 : UInt8) ++ [97]).toArray⟩
theorem hiN_next (k : Nat) (h : k < 64) (W : World) : (binOp .add 9 (.string (hiN k)) (.string ⟨#[255]⟩)).run Try.prog W = .ok (.string (hiN (k + 1))) W := by
  have := str_add (List.replicate k 255) [255] (by simp; omega) W
  rw [show List.replicate k (255 : UInt8) ++ [255] = List.replicate (k + 1) 255 from (List.replicate_succ' ..).symm] at this
  exact this
theorem hi_a (W : World) : (binOp .add 9 (.string hi) (.string ⟨#[97]⟩)).run Try.prog W = .ok (.string hia) W := str_add (List.replicate 64 255) [97] (by decide) W
theorem lo_cut : lo.extract 1 64 = lo1 := by decide +kernel
theorem lo_size : lo.size = 64 := by decide +kernel
def HiR (w0 : World) (t14 t15 : Value) (wr : World) : Prop := ∃ k : Nat, t15 = .int .i64 (k : Int) ∧ t14 = .string (hiN k) ∧ k ≤ 64 ∧ wr = w0
abbrev E4 : List Nat := endsOf 0 [16, 16, 16, 16]
def M1 : List S42 := put E4 lo hi (-5) 1 []
def M2 : List S42 := put E4 hi hi (-9223372036854775808) 2 M1
def M3 : List S42 := put E4 lo lo 9223372036854775807 (-3) M2
def M4 : List S42 := del lo hi 5 M3
def M5 : List S42 := del lo hi (-5) M4
def M6 : List S42 := del lo hi (-5) M5
theorem j1 : putOK E4 lo hi = true := by decide +kernel
theorem j2 : putOK E4 hi hi = true := by decide +kernel
theorem j3 : putOK E4 lo lo = true := by decide +kernel
theorem j4 : putOK E4 hi lo = false := by decide +kernel
theorem j5 : putOK E4 lo1 hi = false := by decide +kernel
theorem j6 : putOK E4 lo hia = false := by decide +kernel
theorem j7 : putOK E4 ⟨#[]⟩ ⟨#[]⟩ = false := by decide +kernel
theorem j8 : find E4 M3 hi = (1, true) := by decide +kernel
theorem j9 : find E4 M3 lo = (-3, true) := by decide +kernel
theorem j10 : find E4 M3 lo1 = (0, false) := by decide +kernel
theorem j11 : find E4 M3 ⟨#[]⟩ = (0, false) := by decide +kernel
theorem j12 : decide (M4.length < M3.length) = false := by decide +kernel
theorem j13 : decide (M5.length < M4.length) = true := by decide +kernel
theorem j14 : decide (M6.length < M5.length) = false := by decide +kernel
theorem j15 : M6.length = 2 := by decide +kernel
theorem j16 : find E4 M6 hi = (2, true) := by decide +kernel
theorem lens : M1.length < 900000 ∧ M2.length < 900000 ∧ M3.length < 900000 ∧ M4.length < 900000 ∧ M5.length < 900000 ∧ M6.length < 900000 := by decide +kernel
set_option maxHeartbeats 16000000 in
set_option maxRecDepth 100000 in
theorem names_any (w : World) : Calls Try.prog 6 #[] w fun e w' => e = .returned (.bool true) ∧ Below w.heap.size w w' := by
  go_enter Try.func6, Try.ntmps6
  go_wp2_with fail
  refine (awake_any _).mono ?_
  rintro e w1 ⟨rfl, hb1⟩
  go_wp2_with fail
  refine (new_no none 0 [] (Kd.C_nil _ _) (by decide) (by decide)).mono ?_
  rintro e w2 ⟨rfl, hb⟩
  have hb2 := hb1.trans (hb.mono hb1.size)
  clear hb1 hb
  have HN := Lib.hid (new_no _ 5 [1, 1, 1, 1, 1] (lit_row w2 [1, 1, 1, 1, 1] (by decide)) (by decide) (by decide))
  have hb2 := hb2.alloc hb2.size (.cells #[.int .i64 1, .int .i64 1, .int .i64 1, .int .i64 1, .int .i64 1] 3)
  go_wp2_with fail
  refine HN.out.mono ?_
  rintro e w3 ⟨rfl, hb⟩
  have hb3 := hb2.trans (hb.mono hb2.size)
  clear hb2 hb HN
  have HN := Lib.hid (new_no _ 2 [1, 0] (lit_row w3 [1, 0] (by decide)) (by decide) (by decide))
  have hb2 := hb3.alloc hb3.size (.cells #[.int .i64 1, .int .i64 0] 3)
  go_wp2_with fail
  refine HN.out.mono ?_
  rintro e w4 ⟨rfl, hb⟩
  have hb4 := hb2.trans (hb.mono hb2.size)
  clear hb2 hb HN hb3
  have HN := Lib.hid (new_no _ 1 [17] (lit_row w4 [17] (by decide)) (by decide) (by decide))
  have hb2 := hb4.alloc hb4.size (.cells #[.int .i64 17] 3)
  go_wp2_with fail
  refine HN.out.mono ?_
  rintro e w5 ⟨rfl, hb⟩
  have hb5 := hb2.trans (hb.mono hb2.size)
  clear hb2 hb HN hb4
  have HN := Lib.hid (new_no _ 2 [-1, 5] (lit_row w5 [-1, 5] (by decide)) (by decide) (by decide))
  have hb2 := hb5.alloc hb5.size (.cells #[.int .i64 (-1), .int .i64 5] 3)
  go_wp2_with fail
  refine HN.out.mono ?_
  rintro e w6 ⟨rfl, hb⟩
  have hb6 := hb2.trans (hb.mono hb2.size)
  clear hb2 hb HN hb5
  have hb2 := hb6.alloc hb6.size (.cells #[.int .i64 16, .int .i64 16, .int .i64 16, .int .i64 16] 3)
  have HN := Lib.hid (ses_new (B := w.heap.size) (w0 := w) _ 4 [16, 16, 16, 16] (lit_row w6 [16, 16, 16, 16] (by decide)) (by decide) hb2 (Nat.le_refl _))
  clear hb2 hb6
  go_wp2_with fail
  refine HN.out.mono ?_
  rintro e w7 ⟨g, ev, rfl, hS, -, -, -⟩
  obtain ⟨w8, mk, cv, hb⟩ := made_lo w7
  have hS8 := Lib.hid (hS.go hb)
  clear HN hb hS
  go_wp2_with fail
  go_loopw [14, 15] (fun t14 t15 wr => HiR w8 t14 t15 wr) (fun _ t15 _ => 64 - (intOf t15).toNat)
  case atStart => exact ⟨0, rfl, rfl, by omega, rfl⟩
  case round =>
    obtain ⟨k, rfl, rfl, hk, rfl⟩ := hrel
    clear mk cv
    by_cases hlt : k < 64
    · have k1 : (k : Int) < 64 := by omega
      have hsz : (hiN k).size = k := by show (List.replicate k (255 : UInt8)).toArray.size = k; simp
      have hz1 : (hiN k).size ≤ 9223372036854775806 := by omega
      have HAD := Lib.hid (show hiN k ++ ⟨#[255]⟩ = hiN (k + 1) from by
        have := hiN_next k hlt wr
        rw [binOp_string_add, run_string_add_sum _ _ _ (by show _ + 1 ≤ _; omega)] at this
        injection this with this
        injection this)
      clear hsz
      go_wp2_with fail
      rw [HAD.out]
      refine ⟨⟨k + 1, by go_num, rfl, hlt, rfl⟩, ?_⟩
      simp [intOf]
      omega
    · obtain rfl : k = 64 := by omega
      have hhi : hiN 64 = hi := rfl
      rw [hhi]
      clear hhi hlt hk
      have hS := hS8.out
      clear hS8
      have hcut := lo_cut
      have hz := lo_size
      have hsz : hi.size ≤ 9223372036854775806 := by show (List.replicate 64 (255 : UInt8)).toArray.size ≤ _; simp
      have hha : hi ++ ⟨#[97]⟩ = hia := by decide +kernel
      have hz1 : (1 : Int) ≤ (lo.size : Int) := by rw [lo_size]; decide
      have F := Lib.hid (ses_yes hS lo hi (-5) 1 (by decide) j1)
      go_wp2_with fail
      refine F.out.mono ?_
      rintro e wa ⟨va, rfl, hS, -, -⟩
      clear F
      have F := Lib.hid (ses_yes hS hi hi (-9223372036854775808) 2 lens.1 j2)
      go_wp2_with fail
      refine F.out.mono ?_
      rintro e wb ⟨vb, rfl, hS, -, -⟩
      clear F
      have F := Lib.hid (ses_yes hS lo lo 9223372036854775807 (-3) lens.2.1 j3)
      go_wp2_with fail
      refine F.out.mono ?_
      rintro e wc ⟨vc, rfl, hS, -, -⟩
      clear F
      have F := Lib.hid (ses_no hS hi lo 0 1 lens.2.2.1 j4)
      go_wp2_with fail
      refine F.out.mono ?_
      rintro e wd ⟨rfl, hS, -⟩
      clear F
      have F := Lib.hid (ses_no hS lo1 hi 0 1 lens.2.2.1 j5)
      go_wp2_with fail
      refine F.out.mono ?_
      rintro e we ⟨rfl, hS, -⟩
      clear F
      have F := Lib.hid (ses_no hS lo hia 0 1 lens.2.2.1 j6)
      go_wp2_with fail
      refine F.out.mono ?_
      rintro e wf ⟨rfl, hS, -⟩
      clear F
      have F := Lib.hid (ses_no hS ⟨#[]⟩ ⟨#[]⟩ 0 1 lens.2.2.1 j7)
      go_wp2_with fail
      refine F.out.mono ?_
      rintro e wg ⟨rfl, hS, -⟩
      clear F
      change Ses w.heap.size w _ g ev _ E4 M3 at hS
      have F := Lib.hid (ses_find hS hi lens.2.2.1)
      rw [j8] at F
      go_wp2_with fail
      refine F.out.mono ?_
      rintro e w9 ⟨rfl, hb⟩
      replace hS := hS.go hb
      clear F hb
      have F := Lib.hid (ses_find hS lo lens.2.2.1)
      rw [j9] at F
      go_wp2_with fail
      refine F.out.mono ?_
      rintro e w9 ⟨rfl, hb⟩
      replace hS := hS.go hb
      clear F hb
      have F := Lib.hid (ses_find hS lo1 lens.2.2.1)
      rw [j10] at F
      go_wp2_with fail
      refine F.out.mono ?_
      rintro e w9 ⟨rfl, hb⟩
      replace hS := hS.go hb
      clear F hb
      have F := Lib.hid (ses_find hS ⟨#[]⟩ lens.2.2.1)
      rw [j11] at F
      go_wp2_with fail
      refine F.out.mono ?_
      rintro e w9 ⟨rfl, hb⟩
      replace hS := hS.go hb
      clear F hb
      have F := Lib.hid (ses_del hS lo hi 5 lens.2.2.1)
      rw [show decide ((del lo hi 5 M3).length < M3.length) = false from j12] at F
      go_wp2_with fail
      refine F.out.mono ?_
      rintro e w9 ⟨v9, rfl, hS, -, -⟩
      clear F
      change Ses w.heap.size w _ g ev _ E4 M4 at hS
      have F := Lib.hid (ses_del hS lo hi (-5) lens.2.2.2.1)
      rw [show decide ((del lo hi (-5) M4).length < M4.length) = true from j13] at F
      go_wp2_with fail
      refine F.out.mono ?_
      rintro e w9 ⟨v9, rfl, hS, -, -⟩
      clear F
      change Ses w.heap.size w _ g ev _ E4 M5 at hS
      have F := Lib.hid (ses_del hS lo hi (-5) lens.2.2.2.2.1)
      rw [show decide ((del lo hi (-5) M5).length < M5.length) = false from j14] at F
      go_wp2_with fail
      refine F.out.mono ?_
      rintro e w9 ⟨v9, rfl, hS, -, -⟩
      clear F
      change Ses w.heap.size w _ g ev _ E4 M6 at hS
      have F := Lib.hid (len_any _ _ _ _ _ _ hS.set)
      rw [j15] at F
      go_wp2_with fail
      refine F.out.mono ?_
      rintro e _ ⟨rfl, rfl⟩
      clear F
      have F := Lib.hid (ses_find hS hi lens.2.2.2.2.2)
      rw [j16] at F
      go_wp2_with fail
      refine F.out.mono ?_
      rintro e w9 ⟨rfl, hb⟩
      replace hS := hS.go hb
      clear F hb
      go_wp2_with fail
      refine (find_nil _ _).mono ?_
      rintro e w9 ⟨rfl, hb⟩
      replace hS := hS.go hb
      have HEND := Lib.hid hS.bel
      clear hb hS
      go_wp2_with fail
      refine (put_nil _ _ _ _ _).mono ?_
      rintro e _ ⟨rfl, rfl⟩
      go_wp2_with fail
      refine (del_nil _ _ _ _).mono ?_
      rintro e _ ⟨rfl, rfl⟩
      go_wp2_with fail
      refine (len_nil _).mono ?_
      rintro e _ ⟨rfl, rfl⟩
      go_wp2_with fail
      refine (all_nil _).mono ?_
      rintro e _ ⟨rfl, rfl⟩
      go_wp2_with fail
      refine (copy_nil _).mono ?_
      rintro e _ ⟨rfl, rfl⟩
      go_wp2_with fail
      go_ret
      exact ⟨rfl, HEND.out⟩
end Go.Proofs.Ytedbnppdfcljlaa.Base
namespace Go.Proofs.Ytedbnppdfcljlaa.Names
open Go Go.RowKit
theorem core (w : World) : Calls Try.prog 6 #[] w fun e w' => e = .returned (.bool true) ∧ Below w.heap.size w w' := Base.names_any w
end Go.Proofs.Ytedbnppdfcljlaa.Names
