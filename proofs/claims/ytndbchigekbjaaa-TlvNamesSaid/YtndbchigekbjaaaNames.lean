/- The law of the examples, of lengths at their ends, and of each error. Conditions: none. -/
import Derived.Test.YtndbchigekbjaaaAttrPure
import Derived.Test.YtndbchigekbjaaaAwake
import Derived.Test.YtndbchigekbjaaaConv
import Derived.Test.YtndbchigekbjaaaPTlvCodesx1
set_option linter.unusedVariables false
set_option linter.unusedSimpArgs false
namespace Go.Proofs.Ytndbchigekbjaaa.Base
open Go Go.RowKit Go.Proofs.Ytndbchigekbjaaa.Mem Go.Proofs.YtndbchigekbjaaaW.PrintWords Go.Proofs.YtndbchigekbjaaaW.PrintMore Go.Proofs.Ytndbchigekbjaaa.PTlvCodes
theorem eqA38 (d : Nat) (w : World) (x0 y0 : Int) (x1 y1 : ByteArray) :
    (Op.equalIn (d + 2) 38 (.agg #[.int .u8 x0, .string x1]) (.agg #[.int .u8 y0, .string y1])).run Try.prog w = .ok (x0 == y0 && (x1.toList == y1.toList)) w := by
  refine eqA_of Try.underlying38 (by kernel_rfl) ?_
  refine eqf_cons (by rfl) (by go_simp; rfl) (by go_simp; rfl) (by go_simp) ?_
  exact eqf_last (by rfl) (by go_simp; rfl) (by go_simp; rfl) (by go_simp)
theorem full_of (n : Nat) (hn : (n : Int) = 65535) : ∃ (C : Array Value) (F : ByteArray), F.size = n ∧
    (∀ W, (Instr.makeSlice 57 (.int .i64 65535) (.int .i64 65535)).run Try.prog W = .ok (.slice (some ⟨W.heap.size, 0, none⟩) n n) (W.alloc (.cells C 5))) ∧
    (∀ W : World, (convert 57 9 (.slice (some ⟨W.heap.size, 0, none⟩) n n)).run Try.prog (W.alloc (.cells C 5)) = .ok (.string F) (W.alloc (.cells C 5))) := by
  obtain ⟨i0, hi, hzz⟩ := Option.map_eq_some_iff.1 info5
  simp only [Prod.mk.injEq] at hzz
  obtain ⟨hz0, hz1, hz2⟩ := hzz
  have hsz : (madeCells #[Value.int .u8 0] n).size = n := size_madeCells _ _
  refine ⟨madeCells #[.int .u8 0] n, strOfNums (List.replicate n 0), by rw [strOfNums_size, List.length_replicate], fun W => ?_, fun W => ?_⟩
  · have h := run_make (P := Try.prog) W 57 5 i0 (.int .u8 0) Try.underlying57 hi hz0 .i64 .i64 65535 65535 (by omega) (by omega) (by rw [hz2]; decide) (by decide)
    rw [← hn] at h ⊢
    rw [h, hz1, Int.toNat_natCast, Nat.mul_one]
    rfl
  · refine run_convert_bytes_arg _ 57 5 Try.underlying57 Try.underlying5 W.heap.size 0 n n (List.replicate n 0) (by rw [List.length_replicate]) (fun i hi => ?_) 9 Try.underlying9
    have hb := (Blk.new W 5 (madeCells #[Value.int .u8 0] n)).cell i
    rw [Nat.zero_add, hb]
    have hd : (List.replicate n (0 : Int)).getD i 0 = 0 := by
      rw [List.getD_eq_getElem?_getD, List.getElem?_replicate]
      simp [hi]
    rw [hd]
    simp [madeCells, hi, Nat.mod_one]
theorem e1_of (F : ByteArray) (h : (F.size : Int) = 65535) : ∃ S, enc [] 0 [⟨1, F⟩, ⟨255, ⟨#[120]⟩⟩] = (S, 0) ∧ (S.size : Int) = 65542 ∧ dec 0 S.data.toList = ([⟨1, F⟩, ⟨255, ⟨#[120]⟩⟩], 0) := by
  have h1 : (⟨#[120]⟩ : ByteArray).size = 1 := rfl
  have hok : okA 0 [(⟨1, F⟩ : S38), ⟨255, ⟨#[120]⟩⟩] := ⟨(show (0 : Int) < 1 by decide), (show F.size ≠ 0 by omega), (show F.size ≤ 65535 by omega), (show (1 : Int) < 255 by decide), by decide, by decide, trivial⟩
  have hin : inB [(⟨1, F⟩ : S38), ⟨255, ⟨#[120]⟩⟩] := by
    intro x hx
    simp only [List.mem_cons, List.mem_nil_iff, or_false] at hx
    rcases hx with rfl | rfl
    · exact ⟨(show (0 : Int) ≤ 1 by decide), (show (1 : Int) < 256 by decide)⟩
    · exact ⟨by decide, by decide⟩
  obtain ⟨h2, h3⟩ := enc_bytes _ hok
  refine ⟨(enc [] 0 [⟨1, F⟩, ⟨255, ⟨#[120]⟩⟩]).1, Prod.ext rfl h2, ?_, ?_⟩
  · rw [size_list, h3, abB_len]
    simp only [tot38, h1]
    omega
  · rw [h3]; exact dec_abB _ hin hok
theorem e2_of (G : ByteArray) (h : (G.size : Int) = 65536) : enc [] 0 [⟨1, G⟩, ⟨0, ⟨#[120]⟩⟩] = (⟨#[]⟩, 5) := by
  rw [enc, if_neg (by show ¬ ((1 : Int) ≤ 0 ∨ G.size = 0); omega), if_pos (by show 65535 < G.size; omega)]
theorem e3_of (G : ByteArray) : enc [] 0 [⟨0, G⟩] = (⟨#[]⟩, 3) := by
  rw [enc, if_pos (.inl (Int.le_refl 0))]
theorem e4_of : enc [] 0 [⟨2, ⟨#[120]⟩⟩, ⟨2, ⟨#[121]⟩⟩] = (⟨#[]⟩, 3) := rfl
theorem e5_of : enc [] 0 [⟨2, ⟨#[]⟩⟩] = (⟨#[]⟩, 3) := rfl
def tb : Array Value := #[.string ⟨#[]⟩, .int .u64 0, .int .u64 0, .int .i64 0, .string ⟨#[1]⟩, .int .u64 0, .int .u64 0, .int .i64 3, .string ⟨#[255]⟩, .int .u64 255, .int .u64 255, .int .i64 0, .string ⟨#[1, 0]⟩, .int .u64 255, .int .u64 0, .int .i64 3,
  .string ⟨#[255, 255, 255, 255, 255, 255, 255, 255]⟩, .int .u64 18446744073709551615, .int .u64 18446744073709551615, .int .i64 0, .string ⟨#[1, 255, 255, 255, 255, 255, 255, 255, 255]⟩, .int .u64 18446744073709551615, .int .u64 0, .int .i64 3,
  .string ⟨#[0, 1]⟩, .int .u64 9, .int .u64 0, .int .i64 3]
theorem tb_at (k : Nat) (hk : k < 7) : ∃ (s : ByteArray) (m n e : Int), tb[k * 4]? = some (.string s) ∧ tb[k * 4 + 1]? = some (.int .u64 m) ∧ tb[k * 4 + 2]? = some (.int .u64 n) ∧ tb[k * 4 + 3]? = some (.int .i64 e) ∧ rnum s m = (n, e) := by
  match k, hk with
  | 0, _ => exact ⟨_, _, _, _, rfl, rfl, rfl, rfl, by decide +kernel⟩
  | 1, _ => exact ⟨_, _, _, _, rfl, rfl, rfl, rfl, by decide +kernel⟩
  | 2, _ => exact ⟨_, _, _, _, rfl, rfl, rfl, rfl, by decide +kernel⟩
  | 3, _ => exact ⟨_, _, _, _, rfl, rfl, rfl, rfl, by decide +kernel⟩
  | 4, _ => exact ⟨_, _, _, _, rfl, rfl, rfl, rfl, by decide +kernel⟩
  | 5, _ => exact ⟨_, _, _, _, rfl, rfl, rfl, rfl, by decide +kernel⟩
  | 6, _ => exact ⟨_, _, _, _, rfl, rfl, rfl, rfl, by decide +kernel⟩
def TR (g : Nat) (w0 : World) (t : Value) (wr : World) : Prop := ∃ k : Nat, t = .int .i64 (k : Int) ∧ k ≤ 7 ∧ Blk wr g 59 tb ∧ Kp w0.heap.size w0 wr
attribute [local go_sem high] eqA38
set_option maxRecDepth 100000 in
set_option maxHeartbeats 16000000 in
theorem names_any (n : Nat) (hn : (n : Int) = 65535) (C : Array Value) (F : ByteArray) (hF : F.size = n)
    (hM : ∀ W, (Instr.makeSlice 57 (.int .i64 65535) (.int .i64 65535)).run Try.prog W = .ok (.slice (some ⟨W.heap.size, 0, none⟩) n n) (W.alloc (.cells C 5)))
    (hV : ∀ W : World, (convert 57 9 (.slice (some ⟨W.heap.size, 0, none⟩) n n)).run Try.prog (W.alloc (.cells C 5)) = .ok (.string F) (W.alloc (.cells C 5)))
    (w : World) : Calls Try.prog 10 #[] w fun e w' => e = .returned (.bool true) ∧ Below w.heap.size w w' := by
  have hFF : (F.size : Int) = 65535 := by rw [hF]; exact hn
  obtain ⟨S, hS1, hS2, hS3⟩ := e1_of F hFF
  obtain ⟨G, hG⟩ : ∃ G, G = F ++ ⟨#[120]⟩ := ⟨_, rfl⟩
  have hGs : (G.size : Int) = 65536 := by
    rw [hG, ByteArray.size_append]
    have : (⟨#[120]⟩ : ByteArray).size = 1 := rfl
    omega
  have HM := Lib.hid hM
  have HV := Lib.hid hV
  have HFF := Lib.hid hFF
  have HS1 := Lib.hid hS1
  have HS2 := Lib.hid hS2
  have HS3 := Lib.hid hS3
  have HG := Lib.hid hG
  have HGS := Lib.hid hGs
  clear hM hV hFF hS1 hS2 hS3 hG hGs hn hF
  go_enter Try.func10, Try.ntmps10
  go_wp2_with fail
  refine (awake_any w).mono ?_
  rintro e w2 ⟨rfl, hb2⟩
  have HK := (Kp.refl w).go hb2
  clear hb2
  have m1 := HM.out w2
  have m2 := HV.out w2
  go_wp2_with fail
  have hsz : w2.heap.size + 1 = (w2.alloc (.cells C 5)).heap.size := by simp
  have HK3 := HK.alloc (.cells C 5)
  rw [hsz]
  clear hsz m1 m2 HK HM HV
  generalize w2.alloc (.cells C 5) = w3 at *
  refine (enc_any (some ⟨w3.heap.size, 0, none⟩) 2 [⟨1, F⟩, ⟨255, ⟨#[120]⟩⟩] _ (blk_reads38 (Blk.new w3 38 #[.int .u8 1, .string F, .int .u8 255, .string ⟨#[120]⟩]) (by simp)) (by simp) (by simp) (by have := HFF.out; have h1 : (⟨#[120]⟩ : ByteArray).size = 1 := rfl; simp only [tot38, h1]; omega)).mono ?_
  rintro e w4 ⟨rfl, hb⟩
  rw [HS1.out]
  have HK4 := (HK3.alloc (.cells #[.int .u8 1, .string F, .int .u8 255, .string ⟨#[120]⟩] 38)).go hb
  clear hb HK3
  go_wp2_with fail
  refine (decode_any S w4 (by have := HS2.out; omega)).mono ?_
  rintro e w5 ⟨v5, rfl, hr, hb⟩
  rw [HS3.out] at hr ⊢
  simp only [if_true] at hr
  have HK5 := HK4.go hb
  obtain ⟨A5, c5, rfl, m5, hC⟩ := Kd.R_reads hr
  have HC5 := Lib.hid hC
  clear hr hC hb HK4
  have z1 : ¬ 9223372036854775807 < F.size + 1 := by have := HFF.out; omega
  have z2 : F.size + 1 ≤ 9223372036854775807 := by have := HFF.out; omega
  go_wp2_with fail
  rw [← HG.out]
  refine (enc_any (some ⟨w5.heap.size, 0, none⟩) 2 [⟨1, G⟩, ⟨0, ⟨#[120]⟩⟩] _ (blk_reads38 (Blk.new w5 38 #[.int .u8 1, .string G, .int .u8 0, .string ⟨#[120]⟩]) (by simp)) (by simp) (by simp) (by have := HGS.out; have h1 : (⟨#[120]⟩ : ByteArray).size = 1 := rfl; simp only [tot38, h1]; omega)).mono ?_
  rintro e w6 ⟨rfl, hb⟩
  rw [e2_of G HGS.out]
  have HK6 := (HK5.alloc (.cells #[.int .u8 1, .string G, .int .u8 0, .string ⟨#[120]⟩] 38)).go hb
  have HC6 := Lib.hid (Kd.C_below (Kd.C_below HC5.out (below_alloc (Below.refl _ _) _)) hb)
  clear hb HK5 HC5
  go_wp2_with fail
  rw [← HG.out]
  refine (enc_any (some ⟨w6.heap.size, 0, none⟩) 1 [⟨0, G⟩] _ (blk_reads38 (Blk.new w6 38 #[.int .u8 0, .string G]) (by simp)) (by simp) (by simp) (by have := HGS.out; simp only [tot38]; omega)).mono ?_
  rintro e w7 ⟨rfl, hb⟩
  rw [e3_of G]
  have HK7 := (HK6.alloc (.cells #[.int .u8 0, .string G] 38)).go hb
  have HC7 := Lib.hid (Kd.C_below (Kd.C_below HC6.out (below_alloc (Below.refl _ _) _)) hb)
  clear hb HK6 HC6
  go_wp2_with fail
  refine (enc_any (some ⟨w7.heap.size, 0, none⟩) 2 [⟨2, ⟨#[120]⟩⟩, ⟨2, ⟨#[121]⟩⟩] _ (blk_reads38 (Blk.new w7 38 #[.int .u8 2, .string ⟨#[120]⟩, .int .u8 2, .string ⟨#[121]⟩]) (by simp)) (by simp) (by simp) (by decide)).mono ?_
  rintro e w8 ⟨rfl, hb⟩
  rw [e4_of]
  have HK8 := (HK7.alloc (.cells #[.int .u8 2, .string ⟨#[120]⟩, .int .u8 2, .string ⟨#[121]⟩] 38)).go hb
  have HC8 := Lib.hid (Kd.C_below (Kd.C_below HC7.out (below_alloc (Below.refl _ _) _)) hb)
  clear hb HK7 HC7
  go_wp2_with fail
  refine (enc_any (some ⟨w8.heap.size, 0, none⟩) 1 [⟨2, ⟨#[]⟩⟩] _ (blk_reads38 (Blk.new w8 38 #[.int .u8 2, .string ⟨#[]⟩]) (by simp)) (by simp) (by simp) (by decide)).mono ?_
  rintro e w9 ⟨rfl, hb⟩
  rw [e5_of]
  have HK9 := (HK8.alloc (.cells #[.int .u8 2, .string ⟨#[]⟩] 38)).go hb
  have HC9 := Lib.hid (Kd.C_below (Kd.C_below HC8.out (below_alloc (Below.refl _ _) _)) hb)
  clear hb HK8 HC8
  obtain ⟨ad, rfl, x0, x1⟩ := at_T38 HC9.out 0 (by decide) (by simp)
  obtain ⟨ad', ea, y0, y1⟩ := at_T38 HC9.out 1 (by decide) (by simp)
  injection ea with ea
  subst ea
  have hs2 := HS2.out
  rw [show (0 : Int).toNat * 2 = 0 from rfl, Addr.add_zero'] at x0 x1
  obtain ⟨g, o, rfl⟩ : ∃ g o, ad = ⟨g, o, none⟩ := ⟨_, _, spot_none x0⟩
  have X0 : w9.cell? ⟨g, o, none⟩ = some (.int .u8 1) := x0
  have X1 : w9.cell? ⟨g, o + 1, none⟩ = some (.string F) := x1
  have Y0 : w9.cell? ⟨g, o + 2, none⟩ = some (.int .u8 255) := by
    rw [show (1 : Int).toNat * 2 = 2 from rfl, Mem.add_at] at y0
    exact y0
  have Y1 : w9.cell? ⟨g, o + 2 + 1, none⟩ = some (.string ⟨#[120]⟩) := by
    rw [show (1 : Int).toNat * 2 = 2 from rfl, Mem.add_at] at y1
    exact y1
  clear x0 x1 y0 y1 HC9 HS2 HS3 HS1
  have hu38 := Try.underlying38
  go_wp2_with fail
  clear X0 X1 Y0 Y1 hs2 hu38 z1 z2
  refine (refused_yes ⟨#[0, 0, 1, 97]⟩ 3 w9 (by decide) (by simp [dec]) (by decide)).mono ?_
  rintro e w10 ⟨rfl, hb⟩
  have HK10 := HK9.go hb
  clear hb HK9
  go_wp2_with fail
  refine (refused_yes ⟨#[0, 0, 9, 97]⟩ 3 w10 (by decide) (by simp [dec]) (by decide)).mono ?_
  rintro e w11 ⟨rfl, hb⟩
  have HK11 := HK10.go hb
  clear hb HK10
  go_wp2_with fail
  refine (refused_yes ⟨#[2, 0, 1, 97, 2, 0, 1, 98]⟩ 3 w11 (by decide) (by simp [dec]) (by decide)).mono ?_
  rintro e w12 ⟨rfl, hb⟩
  have HK12 := HK11.go hb
  clear hb HK11
  go_wp2_with fail
  refine (refused_yes ⟨#[2, 0, 1, 97, 1, 0, 1, 98]⟩ 3 w12 (by decide) (by simp [dec]) (by decide)).mono ?_
  rintro e w13 ⟨rfl, hb⟩
  have HK13 := HK12.go hb
  clear hb HK12
  go_wp2_with fail
  refine (refused_yes ⟨#[2, 0, 1, 97, 1]⟩ 4 w13 (by decide) (by simp [dec]) (by decide)).mono ?_
  rintro e w14 ⟨rfl, hb⟩
  have HK14 := HK13.go hb
  clear hb HK13
  go_wp2_with fail
  refine (refused_yes ⟨#[1]⟩ 4 w14 (by decide) (by simp [dec]) (by decide)).mono ?_
  rintro e w15 ⟨rfl, hb⟩
  have HK15 := HK14.go hb
  clear hb HK14
  go_wp2_with fail
  refine (refused_yes ⟨#[]⟩ 0 w15 (by decide) (by simp [dec]) (by intro _; simp [dec])).mono ?_
  rintro e w16 ⟨rfl, hb⟩
  have HK16 := HK15.go hb
  clear hb HK15
  go_wp2_with fail
  have hR : TR w16.heap.size w (.int .i64 0) (w16.alloc (.cells tb 59)) := ⟨0, rfl, by omega, Blk.new _ _ _, HK16.alloc _⟩
  change Code.wp _ _ _ _ (w16.alloc (.cells tb 59))
  generalize w16.alloc _ = w17 at *
  generalize hgn : w16.heap.size = q at *
  clear hgn HK16
  go_loopw [167] (fun t wr => TR q w t wr) (fun t _ => 7 - (intOf t).toNat)
  case atStart => exact hR
  case round =>
    clear hR
    obtain ⟨k, rfl, hk, hg, HK⟩ := hrel
    by_cases hlt : k < 7
    · obtain ⟨s, m, n1, e1, a0, a1, a2, a3, hr⟩ := tb_at k hlt
      have c0 : wr.cell? ⟨q, k * 4, none⟩ = some (.string s) := (hg.cell _).trans a0
      have c1 : wr.cell? ⟨q, k * 4 + 1, none⟩ = some (.int .u64 m) := (hg.cell _).trans a1
      have c2 : wr.cell? ⟨q, k * 4 + 2, none⟩ = some (.int .u64 n1) := (hg.cell _).trans a2
      have c3 : wr.cell? ⟨q, k * 4 + 3, none⟩ = some (.int .i64 e1) := (hg.cell _).trans a3
      have k0 : (0 : Int) ≤ (k : Int) := by omega
      have k1 : (k : Int) < 7 := by omega
      have hu59 := Try.underlying59
      have HRN := Lib.hid hr
      clear a0 a1 a2 a3 hr
      go_wp2_with fail
      have hx : Blk (wr.alloc (.cells #[.string s, .int .u64 m, .int .u64 n1, .int .i64 e1] 59)) wr.heap.size 59 #[.string s, .int .u64 m, .int .u64 n1, .int .i64 e1] := Blk.new _ _ _
      replace hg := hg.alloc (.cells #[.string s, .int .u64 m, .int .u64 n1, .int .i64 e1] 59)
      replace HK := HK.alloc (.cells #[.string s, .int .u64 m, .int .u64 n1, .int .i64 e1] 59)
      clear c0 c1 c2 c3 hu59
      generalize wr.alloc (.cells #[.string s, .int .u64 m, .int .u64 n1, .int .i64 e1] 59) = w18 at *
      refine (PTlvNumbers.tlv_ReadNum.calls 20 s m n1 e1 w18 (by rw [(readnum_f s m).1, HRN.out])).mono ?_
      rintro e w19 ⟨rfl, hb19⟩
      obtain ⟨n19, rfl⟩ := hb19.out
      replace hx := hx.drewN n19
      replace hg := hg.drewN n19
      replace HK := HK.drewN n19
      clear hb19
      generalize w18.drewN n19 = w19 at *
      have d2 : w19.cell? ⟨wr.heap.size, 2, none⟩ = some (.int .u64 n1) := hx.cell 2
      have d3 : w19.cell? ⟨wr.heap.size, 3, none⟩ = some (.int .i64 e1) := hx.cell 3
      go_wp2_with fail
      go_roundw
      case rel => exact ⟨k + 1, by go_num, by omega, hg, HK⟩
      case measure => simp [intOf]; omega
    · obtain rfl : k = 7 := by omega
      have z1 : ¬ 9223372036854775807 < F.size + 1 := by have := HFF.out; omega
      have z2 : F.size + 1 ≤ 9223372036854775807 := by have := HFF.out; omega
      clear hg
      go_wp2_with fail
      clear z1 z2
      rw [← HG.out]
      have hl5 : lst [] [F, G] = (⟨#[]⟩, 5) := lst_bad [F, G] (fun h => by have := h G (by simp); have := HGS.out; omega) []
      refine (list_any (some ⟨wr.heap.size, 0, none⟩) 2 [F, G] _ (blk_reads (l := [F, G]) (Blk.new wr 9 #[.string F, .string G]) (by simp)) (by simp) (by simp) (by have := HFF.out; have := HGS.out; simp only [tot]; omega)).mono ?_
      rintro e w20 ⟨rfl, hb⟩
      rw [hl5]
      have HK20 := (HK.alloc (.cells #[.string F, .string G] 9)).go hb
      clear hb hl5 HK
      go_wp2_with fail
      refine (readlist_any ⟨#[0, 0, 0, 0]⟩ 2 w20 (by decide)).mono ?_
      rintro e w21 ⟨v21, rfl, hr, hb⟩
      rw [show dl 2 0 (⟨#[0, 0, 0, 0]⟩ : ByteArray).data.toList = ([⟨#[]⟩, ⟨#[]⟩], 0) from by simp [dl]] at hr ⊢
      simp only [if_true] at hr
      have HK21 := HK20.go hb
      obtain ⟨A21, c21, rfl, m21, hC⟩ := Kd.R_reads hr
      have HC21 := Lib.hid hC
      clear hr hC hb HK20
      go_wp2_with fail
      refine (readlist_any ⟨#[0, 0, 0, 0]⟩ 1 w21 (by decide)).mono ?_
      rintro e w22 ⟨v22, rfl, hr, hb⟩
      rw [show (dl 1 0 (⟨#[0, 0, 0, 0]⟩ : ByteArray).data.toList).2 = 3 from by simp [dl]] at hr ⊢
      rw [if_neg (by decide)] at hr
      have HK22 := HK21.go hb
      have HC22 := Lib.hid (Kd.C_below HC21.out hb)
      obtain ⟨A22, c22, rfl, m22, _⟩ := Kd.R_reads hr
      clear hr hb HK21 HC21
      go_wp2_with fail
      refine (readlist_any ⟨#[0, 0, 0]⟩ (1) w22 (by decide)).mono ?_
      rintro e w23 ⟨v23, rfl, hr, hb⟩
      rw [show (dl (1) 0 (⟨#[0, 0, 0]⟩ : ByteArray).data.toList).2 = 4 from by simp [dl]] at hr ⊢
      rw [if_neg (by decide)] at hr
      have HK23 := HK22.go hb
      have HC23 := Lib.hid (Kd.C_below HC22.out hb)
      obtain ⟨A23, c23, rfl, m23, _⟩ := Kd.R_reads hr
      clear hr hb HK22 HC22
      go_wp2_with fail
      refine (readlist_any ⟨#[0, 1]⟩ (9) w23 (by decide)).mono ?_
      rintro e w24 ⟨v24, rfl, hr, hb⟩
      rw [show (dl (9) 0 (⟨#[0, 1]⟩ : ByteArray).data.toList).2 = 4 from by simp [dl]] at hr ⊢
      rw [if_neg (by decide)] at hr
      have HK24 := HK23.go hb
      have HC24 := Lib.hid (Kd.C_below HC23.out hb)
      obtain ⟨A24, c24, rfl, m24, _⟩ := Kd.R_reads hr
      clear hr hb HK23 HC23
      go_wp2_with fail
      refine (readlist_any ⟨#[0, 0]⟩ (-1) w24 (by decide)).mono ?_
      rintro e w25 ⟨v25, rfl, hr, hb⟩
      rw [show (dl (-1) 0 (⟨#[0, 0]⟩ : ByteArray).data.toList).2 = 3 from by simp [dl]] at hr ⊢
      rw [if_neg (by decide)] at hr
      have HK25 := HK24.go hb
      have HC25 := Lib.hid (Kd.C_below HC24.out hb)
      obtain ⟨A25, c25, rfl, m25, _⟩ := Kd.R_reads hr
      clear hr hb HK24 HC24
      go_wp2_with fail
      refine (readlist_any ⟨#[]⟩ (-1) w25 (by decide)).mono ?_
      rintro e w26 ⟨v26, rfl, hr, hb⟩
      rw [show dl (-1) 0 (⟨#[]⟩ : ByteArray).data.toList = ([], 0) from by simp [dl]] at hr ⊢
      simp only [ite_self] at hr
      have HK26 := HK25.go hb
      have HC26 := Lib.hid (Kd.C_below HC25.out hb)
      obtain ⟨A26, c26, rfl, m26, _⟩ := Kd.R_reads hr
      clear hr hb HK25 HC25
      obtain ⟨ad, rfl, x0⟩ := Kd.at_string HC26.out 0 (by decide) (by simp)
      have x1 : w26.cell? ad = some (.string ⟨#[]⟩) := by
        rw [show (0 : Int).toNat = 0 from rfl, Addr.add_zero'] at x0
        exact x0
      clear x0
      go_wp2_with fail
      go_ret
      exact ⟨rfl, HK26.below⟩
end Go.Proofs.Ytndbchigekbjaaa.Base
namespace Go.Proofs.Ytndbchigekbjaaa.Names
open Go Go.RowKit
theorem core (w : World) : Calls Try.prog 10 #[] w fun e w' => e = .returned (.bool true) ∧ Below w.heap.size w w' := by
  obtain ⟨n, hn⟩ : ∃ n : Nat, (n : Int) = 65535 := ⟨65535, rfl⟩
  obtain ⟨C, F, hF, hM, hV⟩ := Base.full_of n hn
  exact Base.names_any n hn C F hF hM hV w
end Go.Proofs.Ytndbchigekbjaaa.Names
