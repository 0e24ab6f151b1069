/- That the plain Decode tells the same attributes. Conditions: as each contract says. -/
import Derived.Test.YtndbchigekbjaaaConv
import Derived.Test.YtndbchigekbjaaaRefRead
import Derived.Deep.RegionHeld3
set_option linter.unusedVariables false
set_option linter.unusedSimpArgs false
namespace Go.Proofs.Ytndbchigekbjaaa.Base
open Go Go.RowKit Go.Proofs.Ytndbchigekbjaaa.Mem Go.Proofs.YtndbchigekbjaaaW.PrintWords Go.Proofs.YtndbchigekbjaaaW.PrintMore Go.Proofs.Ytndbchigekbjaaa.PTlvCodes
theorem size_list (S : ByteArray) : S.size = S.data.toList.length := by rw [Array.length_toList]; rfl
theorem ext_list (S : ByteArray) (i j : Nat) : (S.extract i j).data.toList = (S.data.toList.take j).drop i := by rw [ByteArray.data_extract]; simp [List.extract_eq_take_drop, List.drop_take]
theorem three_ge (n : Nat) : (0 : Int) ≤ 3 + (n : Int) ∧ (3 : Int) ≤ 3 + (n : Int) := by omega
theorem three_w (n : Nat) (h : n < 65536) : wrap64 (3 + (n : Int)) = 3 + (n : Int) ∧ IntKind.i64.wrap (3 + (n : Int)) = 3 + (n : Int) := by
  constructor
  · unfold wrap64; omega
  · rw [IntKind.wrap_i64]; omega
theorem three_lt (m n k : Nat) (h : m = k + 3) (hk : k < n) : decide ((m : Int) < 3 + (n : Int)) = true := decide_eq_true (by omega)
theorem three_le (m n k : Nat) (h : m = k + 3) (hk : ¬ k < n) : decide ((m : Int) < 3 + (n : Int)) = false ∧ 3 + (n : Int) ≤ (m : Int) := ⟨decide_eq_false (by omega), by omega⟩
def DR48 (s0 : List UInt8) (w0 : World) (t0 t4 t5 : Value) (wr : World) : Prop :=
  ∃ (last : Nat) (S : ByteArray) (l : List S48), t0 = .string S ∧ t5 = .int .u8 (last : Int) ∧ last < 256 ∧ Kd.R k48 48 wr w0.heap.size (fun _ => True) t4 l ∧ Below w0.heap.size w0 wr ∧
    (dec 0 s0).2 = (dec last S.data.toList).2 ∧ ((dec last S.data.toList).2 = 0 → (dec 0 s0).1.map to48 = l ++ (dec last S.data.toList).1.map to48) ∧ l.length + S.size ≤ s0.length
def dE (s : List UInt8) : Int := (dec 0 s).2
def dL (s : List UInt8) : List S48 := if (dec 0 s).2 = 0 then (dec 0 s).1.map to48 else []
set_option maxHeartbeats 4000000 in
theorem refdec_dE (s : ByteArray) (w : World) (hs : s.size ≤ 10000000) :
    Calls Try.prog 20 #[.string s] w fun e w' => ∃ v, e = .returned (.tuple #[v, .int .i64 (dE s.data.toList)]) ∧
      Kd.R k48 48 w' w.heap.size (fun _ => True) v (dL s.data.toList) ∧ Below w.heap.size w w' := by
  have hR : DR48 s.data.toList w (.string s) (.slice none 0 0) (.int .u8 0) w := ⟨0, s, [], rfl, rfl, by omega, Kd.R_nil _ _ _ _ _, Below.refl _ _, rfl, fun _ => rfl, by rw [size_list]; simp⟩
  have hs2 := size_list s
  generalize s.data.toList = s0 at *
  go_enter Try.func20, Try.ntmps20
  go_wp2_with fail
  go_loopw [0, 4, 5] (fun t0 t4 t5 wr => DR48 s0 w t0 t4 t5 wr) (fun t0 _ _ _ => match t0 with | .string s => s.size | _ => 0)
  case atStart => exact hR
  case round =>
    clear hR
    obtain ⟨last, S, l, rfl, rfl, hlast, hRow, HB, g1, g2, g3⟩ := hrel
    have G1 := Lib.hid g1
    have G2 := Lib.hid g2
    clear g1 g2
    have hsz := size_list S
    obtain ⟨A4, c4, rfl, m4, _⟩ := Kd.R_reads hRow
    generalize hu4 : Value.slice A4 l.length c4 = u4 at *
    rcases hL : S.data.toList with _ | ⟨x, r1⟩
    · rw [hL] at hsz
      obtain rfl : S = ⟨#[]⟩ := ByteArray.ext (Array.eq_empty_of_size_eq_zero hsz)
      have hL := Lib.hid hL
      clear hsz
      go_wp2_with fail
      go_ret2
      have e1 : (dec 0 s0).2 = 0 := by rw [G1.out]; simp [dec]
      have e2 : (dec 0 s0).1.map to48 = l := by have := G2.out (by simp [dec]); rw [this]; simp [dec]
      have e3 : dE s0 = 0 := e1
      have e4 : dL s0 = l := by unfold dL; rw [if_pos e1, e2]
      rw [e3, e4]
      exact ⟨_, rfl, hRow, HB⟩
    · have hne : S.toList.isEmpty = false := not_empty (by rw [hsz, hL]; simp)
      by_cases h3 : S.size < 3
      · have hd : decide ((S.size : Int) < 3) = true := decide_eq_true (by omega)
        have e1 : (dec 0 s0).2 = 4 := by
          rw [G1.out, hL]
          rw [hL] at hsz
          rcases r1 with _ | ⟨y, _ | ⟨z, r⟩⟩
          · simp [dec]
          · simp [dec]
          · simp only [List.length_cons] at hsz; omega
        have E1 := Lib.hid e1
        have HL := Lib.hid hL
        clear e1 hL hsz
        go_wp2_with fail
        go_ret2
        have e1 := E1.out
        have e3 : dE s0 = 4 := e1
        have e4 : dL s0 = [] := by unfold dL; rw [if_neg (by rw [e1]; decide)]
        rw [e3, e4]
        exact ⟨_, rfl, Kd.R_nil _ _ _ _ _, HB⟩
      · have hd : decide ((S.size : Int) < 3) = false := decide_eq_false (by omega)
        obtain ⟨y, z, r, rfl⟩ : ∃ y z r, r1 = y :: z :: r := by
          rw [hL] at hsz
          rcases r1 with _ | ⟨y, _ | ⟨z, r⟩⟩
          · simp only [List.length_cons, List.length_nil] at hsz; omega
          · simp only [List.length_cons, List.length_nil] at hsz; omega
          · exact ⟨y, z, r, rfl⟩
        have hsr : S.size = r.length + 3 := by rw [hsz, hL]; rfl
        have hnum := number_f (S.extract 1 3) y z [] (by rw [ext_list, hL]; rfl)
        have i0 : ∀ W, (Instr.index 9 (.string S) (.int .i64 0)).run Try.prog W = .ok (.int .u8 (x.toNat : Int)) W := idx S 0 x (by rw [hL]; rfl)
        have hx := x.toNat_lt
        have hn : y.toNat * 256 + z.toNat < 65536 := by have := y.toNat_lt; have := z.toNat_lt; omega
        have hdec := dec_cons last x y z r
        rw [← hL] at hdec
        generalize y.toNat * 256 + z.toNat = n at *
        generalize x.toNat = b at *
        have E0 := G1.out
        have E2 := G2.out
        rw [hdec] at E0 E2
        clear hdec G1 G2
        have hdrop : ∀ m, 3 ≤ m → (S.extract m S.size).data.toList = r.drop (m - 3) := by
          intro m hm
          rw [ext_list, hL, ← hL, size_list, List.take_length, hL]
          obtain ⟨q, rfl⟩ : ∃ q, m = q + 3 := ⟨m - 3, by omega⟩
          rfl
        have htake : (S.extract 3 (3 + n)).data.toList = r.take n := by rw [ext_list, hL, Nat.add_comm 3 n]; rfl
        have HDR := Lib.hid hdrop
        have HTK := Lib.hid htake
        have HNUM := Lib.hid hnum
        have HSR := Lib.hid hsr
        have s1 : (3 : Int) ≤ (S.size : Int) := by omega
        clear hL hsz hdrop htake hnum hsr h3
        go_wp2_with fail
        refine (PTlvLists.turnoutref06_number.calls _ _ wr HNUM.out).mono ?_
        rintro e w1 ⟨rfl, hb1⟩
        obtain ⟨n1, rfl⟩ := hb1.out
        replace HB := pw_below_drewN HB n1
        replace hRow := Kd.R_drewN hRow n1
        clear hb1
        generalize wr.drewN n1 = w1 at *
        by_cases hbad : b ≤ last ∨ n = 0
        · rw [if_pos hbad] at E0
          have E1 := Lib.hid E0
          clear E0 E2
          by_cases hle : b ≤ last
          · have q1 : decide ((b : Int) ≤ (last : Int)) = true := decide_eq_true (by omega)
            have q2 : decide (b ≤ last) = true := decide_eq_true hle
            clear hle hbad
            go_wp2_with fail
            go_ret2
            have e1 := E1.out
            have e3 : dE s0 = 3 := e1
            have e4 : dL s0 = [] := by unfold dL; rw [if_neg (by rw [e1]; decide)]
            rw [e3, e4]
            exact ⟨_, rfl, Kd.R_nil _ _ _ _ _, HB⟩
          · have q1 : decide ((b : Int) ≤ (last : Int)) = false := decide_eq_false (by omega)
            have q2 : decide (b ≤ last) = false := decide_eq_false hle
            obtain rfl : n = 0 := by omega
            clear hle hbad
            go_wp2_with fail
            go_ret2
            have e1 := E1.out
            have e3 : dE s0 = 3 := e1
            have e4 : dL s0 = [] := by unfold dL; rw [if_neg (by rw [e1]; decide)]
            rw [e3, e4]
            exact ⟨_, rfl, Kd.R_nil _ _ _ _ _, HB⟩
        · rw [if_neg hbad] at E0 E2
          have q1 : decide ((b : Int) ≤ (last : Int)) = false := decide_eq_false (by omega)
          have q2 : decide (b ≤ last) = false := decide_eq_false (by omega)
          have q3 : ((n : Int) == 0) = false := beq_eq_false_iff_ne.2 (by omega)
          have q4 : (n == 0) = false := beq_eq_false_iff_ne.2 (by omega)
          have q5 : wrap64 (3 + (n : Int)) = 3 + (n : Int) := (three_w n hn).1
          have q5' : IntKind.i64.wrap (3 + (n : Int)) = 3 + (n : Int) := (three_w n hn).2
          by_cases hln : r.length < n
          · rw [if_pos hln] at E0
            have E1 := Lib.hid E0
            clear E0 E2 hbad
            have q8 : decide ((S.size : Int) < 3 + (n : Int)) = true := three_lt _ _ _ HSR.out hln
            go_wp2_with fail
            go_ret2
            have e1 := E1.out
            have e3 : dE s0 = 4 := e1
            have e4 : dL s0 = [] := by unfold dL; rw [if_neg (by rw [e1]; decide)]
            rw [e3, e4]
            exact ⟨_, rfl, Kd.R_nil _ _ _ _ _, HB⟩
          · rw [if_neg hln] at E0 E2
            have q8 : decide ((S.size : Int) < 3 + (n : Int)) = false := (three_le _ _ _ HSR.out hln).1
            have E1 := Lib.hid E0
            have E3 := Lib.hid E2
            clear E0 E2 hbad
            have p1 : (0 : Int) ≤ 3 + (n : Int) := (three_ge n).1
            have p2 : (3 : Int) ≤ 3 + (n : Int) := (three_ge n).2
            have p3 : 3 + (n : Int) ≤ (S.size : Int) := (three_le _ _ _ HSR.out hln).2
            go_wp2_with fail
            have hRD : Kd.R k48 48 w1.drew w.heap.size (fun _ => True) u4 l := Kd.R_drewN hRow 1
            have HBD : Below w.heap.size w w1.drew := below_drew1 HB
            have hln2 : l.length ≤ 10000000 := by omega
            go_region_held3 (fun _ => True) (exact trivial) (first | ((refine Kd.R_append_step k48 (w0 := w) w.heap.size (by rfl) (.tmp 30) (.tmp 38) 22 48 (.agg #[(.int .u8 0), (.string ⟨#[]⟩)]) 24 (by rfl) Try.underlying22 info48 rfl (by decide) (by decide) u4 l (⟨(b : Int), S.extract 3 (3 + n)⟩ : S48) [.int .u8 (b : Int), .string (S.extract 3 (3 + n))] (fun _ => True) (fun _ => False) (by rfl) (by rfl) (k48_mkM _ _ _ _) (fun _ hk => hk.elim) (fun _ _ => trivial) hRD HBD HBD.size (by omega) ?_; intro v5 w5 ho5 hb5 hg5 hat5)))
            go_wp2_with fail
            have hsr := HSR.out
            have ed := HDR.out (3 + n) (by omega)
            rw [show 3 + n - 3 = n by omega] at ed
            have et : S.extract 3 (3 + n) = ⟨(r.take n).toArray⟩ := str_ext (by rw [HTK.out])
            have es : (S.extract (3 + n) S.size).size = r.length - n := by rw [size_list, ed, List.length_drop]
            rw [et] at ho5
            refine ⟨⟨b, S.extract (3 + n) S.size, _, rfl, rfl, hx, ho5, hb5, ?_, fun h => ?_, ?_⟩, ?_⟩
            · rw [ed]; exact E1.out
            · rw [ed] at h ⊢
              rw [E3.out h, List.map_cons, List.append_assoc]
              rfl
            · rw [List.length_append, es]; simp only [List.length_cons, List.length_nil]; omega
            · show (S.extract (3 + n) S.size).size < S.size
              rw [es]; omega
theorem refdec_any (s : ByteArray) (w : World) (hs : s.size ≤ 10000000) :
    Calls Try.prog 20 #[.string s] w fun e w' => ∃ v, e = .returned (.tuple #[v, .int .i64 (dec 0 s.data.toList).2]) ∧
      Kd.R k48 48 w' w.heap.size (fun _ => True) v (if (dec 0 s.data.toList).2 = 0 then (dec 0 s.data.toList).1.map to48 else []) ∧ Below w.heap.size w w' :=
  refdec_dE s w hs
end Go.Proofs.Ytndbchigekbjaaa.Base
