/- That the plain Encode makes the same bytes. Conditions: as each contract says. -/
import Derived.Test.YtndbchigekbjaaaConv
import Derived.Test.YtndbchigekbjaaaRefList
set_option linter.unusedVariables false
set_option linter.unusedSimpArgs false
namespace Go.Proofs.Ytndbchigekbjaaa.Base
open Go Go.RowKit Go.Proofs.Ytndbchigekbjaaa.Mem Go.Proofs.YtndbchigekbjaaaW.PrintWords Go.Proofs.YtndbchigekbjaaaW.PrintMore Go.Proofs.YtndbchigekbjaaaW.PrintLast Go.Proofs.Ytndbchigekbjaaa.PTlvCodes
theorem cv1 (b : Int) (W : World) (g : Nat) (h : W.cell? ⟨g, 0, none⟩ = some (.int .u8 b)) : (convert 57 9 (.slice (some ⟨g, 0, none⟩) 1 1)).run Try.prog W = .ok (.string (strOfNums [b])) W :=
  run_convert_bytes_arg W 57 5 Try.underlying57 Try.underlying5 g 0 1 1 [b] rfl (fun i hi => by
    obtain rfl : i = 0 := by omega
    exact h) 9 Try.underlying9
def ER48 (l : List S48) (w : World) (t4 t5 : Value) (wr : World) : Prop :=
  ∃ (acc : List Int) (last : Int) (i : Nat), t5 = .int .i64 (i : Int) ∧ t4 = .string (strOfNums acc) ∧ i ≤ l.length ∧ ((i = 0 ∧ last = 0) ∨ (0 < i ∧ last = (rd_T48 l ((i : Int) - 1)).f0)) ∧ Below w.heap.size w wr ∧
    enc [] 0 (l.map to38) = enc acc last ((l.drop i).map to38) ∧ acc.length + tot38 ((l.drop i).map to38) ≤ tot38 (l.map to38)
set_option maxHeartbeats 16000000 in
theorem refenc_any (A0 : Option Addr) (c0 : Nat) (l : List S48) (w : World) (h0 : Kd.C k48 w A0 l.length l) (hc0 : l.length ≤ c0) (hl : l.length < 1000000000) (hs : tot38 (l.map to38) ≤ 1000000000) (hb : ∀ x ∈ l, 0 ≤ x.f0) :
    Calls Try.prog 16 #[.slice A0 l.length c0] w fun e w' => e = .returned (.tuple #[.string (enc [] 0 (l.map to38)).1, .int .i64 (enc [] 0 (l.map to38)).2]) ∧ Below w.heap.size w w' := by
  have hR : ER48 l w (.string ⟨#[]⟩) (.int .i64 0) w := ⟨[], 0, 0, rfl, rfl, by omega, .inl ⟨rfl, rfl⟩, Below.refl _ _, rfl, by simp⟩
  have HL := Lib.hid h0
  have HP := Lib.hid hb
  clear h0 hb
  go_enter Try.func16, Try.ntmps16
  go_wp2_with fail
  go_loopw [4, 5] (fun t4 t5 wr => ER48 l w t4 t5 wr) (fun t4 t5 _ => match t5 with | .int _ i => l.length - i.toNat | _ => 0)
  case atStart => exact hR
  case round =>
    clear hR
    obtain ⟨acc, last, i, rfl, rfl, hi, hlast, HB, g1, g2⟩ := hrel
    have G1 := Lib.hid g1
    have G2 := Lib.hid g2
    clear g1 g2
    by_cases hgo : i < l.length
    · have hd : (l.drop i).map to38 = to38 l[i] :: (l.drop (i + 1)).map to38 := by rw [List.drop_eq_getElem_cons hgo]; rfl
      obtain ⟨k, hk⟩ : ∃ k : Int, k = (i : Int) := ⟨_, rfl⟩
      rw [← hk] at hlast ⊢
      have k0 : 0 ≤ k := by omega
      have k1 : k < (l.length : Int) := by omega
      obtain ⟨ad, rfl, e0, e1⟩ := at_T48 (Kd.C_below HL.out HB) k k0 k1
      have er : rd_T48 l k = l[i] := by rw [hk]; simp [rd_T48, List.getD_eq_getElem?_getD, hgo]
      rw [er] at e0 e1
      have hx0 : 0 ≤ l[i].f0 := HP.out _ (List.getElem_mem _)
      have hD := Lib.hid hd
      have ER := Lib.hid er
      clear hd er
      generalize hx : l[i] = x at *
      clear hx
      have g3 : acc.length + (3 + x.f1.size + tot38 ((l.drop (i + 1)).map to38)) ≤ tot38 (l.map to38) := by have := G2.out; rw [hD.out] at this; exact this
      obtain ⟨b, s⟩ := x
      simp only at e0 e1 g3 hx0
      have HI := Lib.hid hk
      clear hk
      have hbs : (enc acc last ((l.drop i).map to38)) = if b ≤ last ∨ s.size = 0 then (⟨#[]⟩, 3) else if 65535 < s.size then (⟨#[]⟩, 5) else enc (((acc ++ [b]) ++ sz s.size) ++ bytesOf s) b ((l.drop (i + 1)).map to38) := by rw [hD.out]; rfl
      have HE := Lib.hid hbs
      clear hbs
      have hcase : (b = 0 ∧ b ≤ last) ∨ (b ≠ 0 ∧ k = 0 ∧ (s.size = 0 ∨ ¬ b ≤ last ∧ s.size ≠ 0)) ∨ (b ≠ 0 ∧ 0 < k ∧ last = (rd_T48 l (k - 1)).f0 ∧ (b ≤ last ∨ (¬ b ≤ last ∧ s.size = 0) ∨ (¬ b ≤ last ∧ s.size ≠ 0))) := by
        have hl0 : 0 ≤ last := by
          rcases hlast with ⟨_, h⟩ | ⟨h1, h⟩
          · omega
          · have h2 : rd_T48 l (k - 1) ∈ l := by
              have : (k - 1).toNat < l.length := by omega
              simp only [rd_T48, List.getD_eq_getElem?_getD, List.getElem?_eq_getElem this, Option.getD_some]
              exact List.getElem_mem _
            have := HP.out _ h2
            omega
        have := HI.out
        rcases hlast with ⟨h1, h⟩ | ⟨h1, h⟩
        · by_cases h2 : b = 0
          · exact .inl ⟨h2, by omega⟩
          · exact .inr (.inl ⟨h2, by omega, by omega⟩)
        · by_cases h2 : b = 0
          · exact .inl ⟨h2, by omega⟩
          · exact .inr (.inr ⟨h2, by omega, h, by omega⟩)
      rcases hcase with ⟨hb, hle⟩ | ⟨hb, hk0, hz⟩ | ⟨hb, hk0, hla, hz⟩
      · have hb' : (b == 0) = true := beq_iff_eq.2 hb
        have hE := HE.out
        rw [if_pos (.inl hle)] at hE
        clear HE hlast
        go_wp2_with fail
        go_quiet (fail)
        go_wp2_with fail
        go_ret2
        refine ⟨?_, pw_below_drewN HB _⟩
        rw [G1.out, hE]
        rfl
      · have hb' : (b == 0) = false := beq_eq_false_iff_ne.2 hb
        have hk' : decide ((0 : Int) < k) = false := decide_eq_false (by omega)
        clear hk0
        rcases hz with hz | ⟨hle, hz⟩
        · obtain rfl : s = ⟨#[]⟩ := ByteArray.ext (Array.eq_empty_of_size_eq_zero hz)
          have hE := HE.out
          rw [if_pos (.inr rfl)] at hE
          clear HE hlast hz
          go_wp2_with fail
          go_quiet (fail)
          go_wp2_with fail
          go_ret2
          refine ⟨?_, pw_below_drewN HB _⟩
          rw [G1.out, hE]
          rfl
        · have hE := HE.out
          rw [if_neg (by simp only [not_or]; exact ⟨hle, hz⟩)] at hE
          have hne := not_empty hz
          clear HE hle hz
          go_wp2_with fail
          go_quiet (fail)
          replace HB := pw_below_drewN HB nq
          replace e0 : (wr.drewN nq).cell? (ad.add (k.toNat * 2)) = some (.int .u8 b) := e0
          replace e1 : (wr.drewN nq).cell? ⟨(ad.add (k.toNat * 2)).block, (ad.add (k.toNat * 2)).off + 1, none⟩ = some (.string s) := e1
          generalize wr.drewN nq = w2 at *
          by_cases hbig : 65535 < s.size
          · have hb1 : decide ((65535 : Int) < (s.size : Int)) = true := decide_eq_true (by omega)
            rw [if_pos hbig] at hE
            go_wp2_with fail
            go_ret2
            refine ⟨?_, HB⟩
            rw [G1.out, hE]
            rfl
          · have hb1 : decide ((65535 : Int) < (s.size : Int)) = false := decide_eq_false (by omega)
            rw [if_neg hbig] at hE
            have HE := Lib.hid hE
            clear hE hne
            go_wp2_with fail
            have HT := Lib.hid (two_any s.size (by omega))
            have hacc : strOfNums acc ++ strOfNums [b] ++ strOfNums (sz s.size) ++ s = strOfNums (((acc ++ [b]) ++ sz s.size) ++ bytesOf s) := by rw [str_app, str_app, str_app, str_bytes]
            have HA := Lib.hid hacc
            have hz1 : (strOfNums acc).size = acc.length := strOfNums_size _
            have hz2 : (strOfNums (sz s.size)).size = 2 := strOfNums_size _
            have hz3 : (strOfNums [b]).size = 1 := strOfNums_size _
            have CV := cv1 b
            clear hacc
            generalize hS : strOfNums acc = S at *
            have HS := Lib.hid hS
            clear hS
            generalize strOfNums (sz s.size) = T at *
            generalize strOfNums [b] = B at *
            have q1 : ∀ W, (binOp BinOp.add 9 (.string S) (.string B)).run Try.prog W = .ok (.string (S ++ B)) W := by intro W; simp [binOp, Op.stringOp, maxLen]; omega
            have q2 : ∀ W, (binOp BinOp.add 9 (.string (S ++ B)) (.string T)).run Try.prog W = .ok (.string (S ++ B ++ T)) W := by intro W; simp [binOp, Op.stringOp, maxLen, ByteArray.size_append]; omega
            have q3 : ∀ W, (binOp BinOp.add 9 (.string (S ++ B ++ T)) (.string s)).run Try.prog W = .ok (.string (S ++ B ++ T ++ s)) W := by intro W; simp [binOp, Op.stringOp, maxLen, ByteArray.size_append]; omega
            have hlt0 := World.block_lt_of_cell? _ _ e0
            have hlt1 := World.block_lt_of_cell? _ _ e1
            obtain ⟨g, o, hA⟩ : ∃ g o, ad.add (k.toNat * 2) = ⟨g, o, none⟩ := ⟨_, _, spot_none e0⟩
            rw [hA] at e0 e1
            have f0 : w2.cell? ⟨g, o, none⟩ = some (.int .u8 b) := e0
            have f1 : w2.cell? ⟨g, o + 1, none⟩ = some (.string s) := e1
            clear e0 e1 hlt0 hlt1
            have z1 : ¬ 9223372036854775807 < S.size + B.size := by omega
            have z2 : ¬ 9223372036854775807 < S.size + B.size + T.size := by omega
            have z3 : ¬ 9223372036854775807 < S.size + B.size + T.size + s.size := by omega
            have z9 := Lib.hid g3
            clear hz1 hz2 hz3 g3
            clear q1 q2 q3
            have hk9 : wrap64 (k + 1) = k + 1 := by unfold wrap64; omega
            have HEND : ∀ W, Below w.heap.size w W → ER48 l w (.string (S ++ B ++ T ++ s)) (.int .i64 (k + 1)) W := by
              intro W hW
              refine ⟨((acc ++ [b]) ++ sz s.size) ++ bytesOf s, b, i + 1, by rw [HI.out]; rfl, by rw [HA.out], hgo, .inr ⟨by omega, ?_⟩, hW, ?_, ?_⟩
              · rw [show (((i + 1 : Nat) : Int) - 1) = k by rw [HI.out]; omega, ER.out]
              · rw [G1.out, HE.out]
              · rw [List.length_append, List.length_append, List.length_append, sz_len, bytesOf_length]; simp only [List.length_cons, List.length_nil]; have := z9.out; omega
            refine start_ (n := 24) (S := (fun w' => w'.cell? ⟨g, o, none⟩ = some (.int .u8 b) ∧ w'.cell? ⟨g, o + 1, none⟩ = some (.string s))) (ds := []) #[false, false, false, false, false, false, false, false, false, false, false, false, false, false, false, false, false, false, false, false, false, false, false, false] (by kernel_rfl) rfl rfl ⟨f0, f1⟩ (fun hHeld => ?_)
            refine pure_ (i := 0) (N := some 51) (v := ?_) (a' := ?_) #[true, false, false, false, false, false, false, false, false, false, false, false, false, false, false, false, false, false, false, false, false, false, false, false] rfl rfl (by kernel_rfl) (fun _ _ _ h => h) (Or.inl ⟨by rfl, ?_⟩) ?_ ?_
            rotate_left
            · intro w'
              go_simp
              (try with_reducible rfl)
            rotate_left
            · simp only [Act.put, List.setIfInBounds_toArray, List.set_cons_zero, List.set_cons_succ, i64_w, i32_w]
              rfl
            refine pure_ (i := 1) (N := some 52) (v := ?_) (a' := ?_) #[true, true, false, false, false, false, false, false, false, false, false, false, false, false, false, false, false, false, false, false, false, false, false, false] rfl rfl (by kernel_rfl) (fun _ _ _ h => h) (Or.inl ⟨by rfl, ?_⟩) ?_ ?_
            rotate_left
            · intro w'
              go_simp
              (try with_reducible rfl)
            rotate_left
            · simp only [Act.put, List.setIfInBounds_toArray, List.set_cons_zero, List.set_cons_succ, i64_w, i32_w]
              rfl
            refine pure_ (i := 2) (N := some 53) (v := ?_) (a' := ?_) #[true, true, true, false, false, false, false, false, false, false, false, false, false, false, false, false, false, false, false, false, false, false, false, false] rfl rfl (by kernel_rfl) (fun _ _ _ h => h) (Or.inl ⟨by rfl, ?_⟩) ?_ ?_
            rotate_left
            · intro w'
              go_simp
              (try with_reducible rfl)
            rotate_left
            · simp only [Act.put, List.setIfInBounds_toArray, List.set_cons_zero, List.set_cons_succ, i64_w, i32_w]
              rfl
            refine pure_ (i := 3) (N := some 54) (v := ?_) (a' := ?_) #[true, true, true, true, false, false, false, false, false, false, false, false, false, false, false, false, false, false, false, false, false, false, false, false] rfl rfl (by kernel_rfl) (fun _ _ _ h => h) (Or.inl ⟨by rfl, ?_⟩) ?_ ?_
            rotate_left
            · intro w'
              go_simp
              (try with_reducible rfl)
            rotate_left
            · simp only [Act.put, List.setIfInBounds_toArray, List.set_cons_zero, List.set_cons_succ, i64_w, i32_w]
              rfl
            refine pure_ (i := 4) (N := some 55) (v := ?_) (a' := ?_) #[true, true, true, true, true, false, false, false, false, false, false, false, false, false, false, false, false, false, false, false, false, false, false, false] rfl rfl (by kernel_rfl) (fun _ _ _ h => h) (Or.inl ⟨by rfl, ?_⟩) ?_ ?_
            rotate_left
            · intro w'
              go_simp
              (try with_reducible rfl)
            rotate_left
            · simp only [Act.put, List.setIfInBounds_toArray, List.set_cons_zero, List.set_cons_succ, i64_w, i32_w]
              rfl
            refine take_ (i := 5) (N := some 56) (v := ?_) (a' := ?_) #[true, true, true, true, true, true, false, false, false, false, false, false, false, false, false, false, false, false, false, false, false, false, false, false] rfl rfl (by kernel_rfl) (fun _ _ _ h => h) (Or.inl ⟨by rfl, ?_⟩) hHeld ?_ ?_
            rotate_left
            · rintro w' ⟨s0, s1⟩
              go_simp
              (try with_reducible rfl)
            rotate_left
            · simp only [Act.put, List.setIfInBounds_toArray, List.set_cons_zero, List.set_cons_succ, i64_w, i32_w]
              rfl
            refine pure_ (i := 9) (N := some 60) (v := ?_) (a' := ?_) #[true, true, true, true, true, true, false, false, false, true, false, false, false, false, false, false, false, false, false, false, false, false, false, false] rfl rfl (by kernel_rfl) (fun _ _ _ h => h) (Or.inl ⟨by rfl, ?_⟩) ?_ ?_
            rotate_left
            · intro w'
              go_simp
              (try with_reducible rfl)
            rotate_left
            · simp only [Act.put, List.setIfInBounds_toArray, List.set_cons_zero, List.set_cons_succ, i64_w, i32_w]
              rfl
            refine pure_ (i := 10) (N := some 61) (v := ?_) (a' := ?_) #[true, true, true, true, true, true, false, false, false, true, true, false, false, false, false, false, false, false, false, false, false, false, false, false] rfl rfl (by kernel_rfl) (fun _ _ _ h => h) (Or.inl ⟨by rfl, ?_⟩) ?_ ?_
            rotate_left
            · intro w'
              go_simp
              (try with_reducible rfl)
            rotate_left
            · simp only [Act.put, List.setIfInBounds_toArray, List.set_cons_zero, List.set_cons_succ, i64_w, i32_w]
              rfl
            refine pure_ (i := 11) (N := some 62) (v := ?_) (a' := ?_) #[true, true, true, true, true, true, false, false, false, true, true, true, false, false, false, false, false, false, false, false, false, false, false, false] rfl rfl (by kernel_rfl) (fun _ _ _ h => h) (Or.inl ⟨by rfl, ?_⟩) ?_ ?_
            rotate_left
            · intro w'
              go_simp
              (try with_reducible rfl)
            rotate_left
            · simp only [Act.put, List.setIfInBounds_toArray, List.set_cons_zero, List.set_cons_succ, i64_w, i32_w]
              rfl
            refine pure_ (i := 12) (N := some 63) (v := ?_) (a' := ?_) #[true, true, true, true, true, true, false, false, false, true, true, true, true, false, false, false, false, false, false, false, false, false, false, false] rfl rfl (by kernel_rfl) (fun _ _ _ h => h) (Or.inl ⟨by rfl, ?_⟩) ?_ ?_
            rotate_left
            · intro w'
              go_simp
              (try with_reducible rfl)
            rotate_left
            · simp only [Act.put, List.setIfInBounds_toArray, List.set_cons_zero, List.set_cons_succ, i64_w, i32_w]
              rfl
            refine take_ (i := 13) (N := some 64) (v := ?_) (a' := ?_) #[true, true, true, true, true, true, false, false, false, true, true, true, true, true, false, false, false, false, false, false, false, false, false, false] rfl rfl (by kernel_rfl) (fun _ _ _ h => h) (Or.inl ⟨by rfl, ?_⟩) hHeld ?_ ?_
            rotate_left
            · rintro w' ⟨s0, s1⟩
              go_simp
              (try with_reducible rfl)
            rotate_left
            · simp only [Act.put, List.setIfInBounds_toArray, List.set_cons_zero, List.set_cons_succ, i64_w, i32_w]
              rfl
            refine pure_ (i := 14) (N := some 65) (v := ?_) (a' := ?_) #[true, true, true, true, true, true, false, false, false, true, true, true, true, true, true, false, false, false, false, false, false, false, false, false] rfl rfl (by kernel_rfl) (fun _ _ _ h => h) (Or.inl ⟨by rfl, ?_⟩) ?_ ?_
            rotate_left
            · intro w'
              go_simp
              (try with_reducible rfl)
            rotate_left
            · simp only [Act.put, List.setIfInBounds_toArray, List.set_cons_zero, List.set_cons_succ, i64_w, i32_w]
              rfl
            refine pure_ (i := 17) (N := some 68) (v := ?_) (a' := ?_) #[true, true, true, true, true, true, false, false, false, true, true, true, true, true, true, false, false, true, false, false, false, false, false, false] rfl rfl (by kernel_rfl) (fun _ _ _ h => h) (Or.inl ⟨by rfl, ?_⟩) ?_ ?_
            rotate_left
            · intro w'
              go_simp
              (try with_reducible rfl)
            rotate_left
            · simp only [Act.put, List.setIfInBounds_toArray, List.set_cons_zero, List.set_cons_succ, i64_w, i32_w]
              rfl
            refine pure_ (i := 18) (N := some 69) (v := ?_) (a' := ?_) #[true, true, true, true, true, true, false, false, false, true, true, true, true, true, true, false, false, true, true, false, false, false, false, false] rfl rfl (by kernel_rfl) (fun _ _ _ h => h) (Or.inl ⟨by rfl, ?_⟩) ?_ ?_
            rotate_left
            · intro w'
              go_simp
              (try with_reducible rfl)
            rotate_left
            · simp only [Act.put, List.setIfInBounds_toArray, List.set_cons_zero, List.set_cons_succ, i64_w, i32_w]
              rfl
            refine pure_ (i := 19) (N := some 70) (v := ?_) (a' := ?_) #[true, true, true, true, true, true, false, false, false, true, true, true, true, true, true, false, false, true, true, true, false, false, false, false] rfl rfl (by kernel_rfl) (fun _ _ _ h => h) (Or.inl ⟨by rfl, ?_⟩) ?_ ?_
            rotate_left
            · intro w'
              go_simp
              (try with_reducible rfl)
            rotate_left
            · simp only [Act.put, List.setIfInBounds_toArray, List.set_cons_zero, List.set_cons_succ, i64_w, i32_w]
              rfl
            refine pure_ (i := 20) (N := some 71) (v := ?_) (a' := ?_) #[true, true, true, true, true, true, false, false, false, true, true, true, true, true, true, false, false, true, true, true, true, false, false, false] rfl rfl (by kernel_rfl) (fun _ _ _ h => h) (Or.inl ⟨by rfl, ?_⟩) ?_ ?_
            rotate_left
            · intro w'
              go_simp
              (try with_reducible rfl)
            rotate_left
            · simp only [Act.put, List.setIfInBounds_toArray, List.set_cons_zero, List.set_cons_succ, i64_w, i32_w]
              rfl
            refine take_ (i := 21) (N := some 72) (v := ?_) (a' := ?_) #[true, true, true, true, true, true, false, false, false, true, true, true, true, true, true, false, false, true, true, true, true, true, false, false] rfl rfl (by kernel_rfl) (fun _ _ _ h => h) (Or.inl ⟨by rfl, ?_⟩) hHeld ?_ ?_
            rotate_left
            · rintro w' ⟨s0, s1⟩
              go_simp
              (try with_reducible rfl)
            rotate_left
            · simp only [Act.put, List.setIfInBounds_toArray, List.set_cons_zero, List.set_cons_succ, i64_w, i32_w]
              rfl
            have F0 := hHeld.1
            have F1 := hHeld.2
            replace HB := below_drew1 HB
            generalize w2.drew = w4 at *
            refine two_ (i := 6) (j := 15) (Ni := some 57) (Nj := some 66) #[true, true, true, true, true, true, true, false, false, true, true, true, true, true, true, false, false, true, true, true, true, true, false, false] #[true, true, true, true, true, true, false, false, false, true, true, true, true, true, true, true, false, true, true, true, true, true, false, false] rfl rfl rfl rfl (by kernel_rfl) (by decide) (by decide) (fun K hK => ?_) (fun K hK => ?_)
            · refine value_ (w1 := w4.alloc (.cells #[.int .u8 b] 5)) (v := .slice (some ⟨w4.heap.size, 0, none⟩) 1 1) (by rfl) rfl (by go_simp) ?_
              have FN := (Blk.new w4 5 #[.int .u8 b]).cell 0
              replace F0 := ((below_alloc (Below.refl w4.heap.size w4) (.cells #[.int .u8 b] 5)).cell (World.block_lt_of_cell? _ _ F0)).trans F0
              replace F1 := ((below_alloc (Below.refl w4.heap.size w4) (.cells #[.int .u8 b] 5)).cell (World.block_lt_of_cell? _ _ F1)).trans F1
              replace HB := HB.alloc HB.size (.cells #[.int .u8 b] 5)
              refine hK.out _ _ ⟨F0, F1⟩ (fun hHeld => ?_)
              clear hK K
              refine norm_ (a' := ?_) ?_ ?_
              rotate_left
              · show Act.put _ (some 57) _ = _
                simp only [Act.put, List.setIfInBounds_toArray, List.set_cons_zero, List.set_cons_succ, i64_w, i32_w]
                rfl
              generalize hg4 : w4.heap.size = q at *
              generalize w4.alloc (.cells #[.int .u8 b] 5) = w5 at *
              refine two_ (i := 7) (j := 15) (Ni := some 58) (Nj := some 66) #[true, true, true, true, true, true, true, true, false, true, true, true, true, true, true, false, false, true, true, true, true, true, false, false] #[true, true, true, true, true, true, true, false, false, true, true, true, true, true, true, true, false, true, true, true, true, true, false, false] rfl rfl rfl rfl (by kernel_rfl) (by decide) (by decide) (fun K hK => ?_) (fun K hK => ?_)
              · refine value_ (w1 := w5) (v := .string B) (by rfl) rfl (by have cvq := CV _ _ FN; go_simp) ?_
                refine hK.out _ _ ⟨F0, F1⟩ (fun hHeld => ?_)
                clear hK K
                refine norm_ (a' := ?_) ?_ ?_
                rotate_left
                · show Act.put _ (some 58) _ = _
                  simp only [Act.put, List.setIfInBounds_toArray, List.set_cons_zero, List.set_cons_succ, i64_w, i32_w]
                  rfl
                refine pure_ (i := 8) (N := some 59) (v := ?_) (a' := ?_) #[true, true, true, true, true, true, true, true, true, true, true, true, true, true, true, false, false, true, true, true, true, true, false, false] rfl rfl (by kernel_rfl) (fun _ _ _ h => h) (Or.inl ⟨by rfl, ?_⟩) ?_ ?_
                rotate_left
                · intro w'
                  go_simp
                  (try with_reducible rfl)
                rotate_left
                · simp only [Act.put, List.setIfInBounds_toArray, List.set_cons_zero, List.set_cons_succ, i64_w, i32_w]
                  rfl
                refine one_ (i := 15) (N := some 66) #[true, true, true, true, true, true, true, true, true, true, true, true, true, true, true, true, false, true, true, true, true, true, false, false] rfl rfl (by kernel_rfl) (by decide) (fun K hK => ?_)
                refine goes_ Try.func33 (by kernel_rfl) rfl #[.int .i64 (s.size : Int)] (by rfl) rfl rfl (by (try simp only [List.map_toArray, List.map_cons, List.map_nil]); first | done | rfl) ?_
                with_reducible refine (HT.out _).mono ?_
                rintro e w_6a ⟨rfl, hb_6a⟩
                replace F0 := (hb_6a.cell (World.block_lt_of_cell? _ _ F0)).trans F0
                replace F1 := (hb_6a.cell (World.block_lt_of_cell? _ _ F1)).trans F1
                replace HB := below_step HB hb_6a
                replace FN := (hb_6a.cell (World.block_lt_of_cell? _ _ FN)).trans FN
                refine ⟨_, rfl, ?_⟩
                refine hK.out _ _ ⟨F0, F1⟩ (fun hHeld => ?_)
                clear hK K hb_6a
                refine norm_ (a' := ?_) ?_ ?_
                rotate_left
                · show Act.put _ (some 66) _ = _
                  simp only [Act.put, List.setIfInBounds_toArray, List.set_cons_zero, List.set_cons_succ, i64_w, i32_w]
                  rfl
                refine pure_ (i := 16) (N := some 67) (v := ?_) (a' := ?_) #[true, true, true, true, true, true, true, true, true, true, true, true, true, true, true, true, true, true, true, true, true, true, false, false] rfl rfl (by kernel_rfl) (fun _ _ _ h => h) (Or.inl ⟨by rfl, ?_⟩) ?_ ?_
                rotate_left
                · intro w'
                  go_simp
                  (try with_reducible rfl)
                rotate_left
                · simp only [Act.put, List.setIfInBounds_toArray, List.set_cons_zero, List.set_cons_succ, i64_w, i32_w]
                  rfl
                refine pure_ (i := 22) (N := some 73) (v := ?_) (a' := ?_) #[true, true, true, true, true, true, true, true, true, true, true, true, true, true, true, true, true, true, true, true, true, true, true, false] rfl rfl (by kernel_rfl) (fun _ _ _ h => h) (Or.inl ⟨by rfl, ?_⟩) ?_ ?_
                rotate_left
                · intro w'
                  go_simp
                  (try with_reducible rfl)
                rotate_left
                · simp only [Act.put, List.setIfInBounds_toArray, List.set_cons_zero, List.set_cons_succ, i64_w, i32_w]
                  rfl
                refine pure_ (i := 23) (N := some 4) (v := ?_) (a' := ?_) #[true, true, true, true, true, true, true, true, true, true, true, true, true, true, true, true, true, true, true, true, true, true, true, true] rfl rfl (by kernel_rfl) (fun _ _ _ h => h) (Or.inl ⟨by rfl, ?_⟩) ?_ ?_
                rotate_left
                · intro w'
                  go_simp
                  (try with_reducible rfl)
                rotate_left
                · simp only [Act.put, List.setIfInBounds_toArray, List.set_cons_zero, List.set_cons_succ, i64_w, i32_w]
                  rfl
                refine done_ (by kernel_rfl) ?_
                clear hHeld
                go_wp2_with fail
                exact ⟨HEND _ HB, by show l.length - (k + 1).toNat < l.length - k.toNat; omega⟩
              · refine goes_ Try.func33 (by kernel_rfl) rfl #[.int .i64 (s.size : Int)] (by rfl) rfl rfl (by (try simp only [List.map_toArray, List.map_cons, List.map_nil]); first | done | rfl) ?_
                with_reducible refine (HT.out _).mono ?_
                rintro e w_6b ⟨rfl, hb_6b⟩
                replace F0 := (hb_6b.cell (World.block_lt_of_cell? _ _ F0)).trans F0
                replace F1 := (hb_6b.cell (World.block_lt_of_cell? _ _ F1)).trans F1
                replace HB := below_step HB hb_6b
                replace FN := (hb_6b.cell (World.block_lt_of_cell? _ _ FN)).trans FN
                refine ⟨_, rfl, ?_⟩
                refine hK.out _ _ ⟨F0, F1⟩ (fun hHeld => ?_)
                clear hK K hb_6b
                refine norm_ (a' := ?_) ?_ ?_
                rotate_left
                · show Act.put _ (some 66) _ = _
                  simp only [Act.put, List.setIfInBounds_toArray, List.set_cons_zero, List.set_cons_succ, i64_w, i32_w]
                  rfl
                refine one_ (i := 7) (N := some 58) #[true, true, true, true, true, true, true, true, false, true, true, true, true, true, true, true, false, true, true, true, true, true, false, false] rfl rfl (by kernel_rfl) (by decide) (fun K hK => ?_)
                refine value_ (w1 := w_6b) (v := .string B) (by rfl) rfl (by have cvq := CV _ _ FN; go_simp) ?_
                refine hK.out _ _ ⟨F0, F1⟩ (fun hHeld => ?_)
                clear hK K
                refine norm_ (a' := ?_) ?_ ?_
                rotate_left
                · show Act.put _ (some 58) _ = _
                  simp only [Act.put, List.setIfInBounds_toArray, List.set_cons_zero, List.set_cons_succ, i64_w, i32_w]
                  rfl
                refine pure_ (i := 8) (N := some 59) (v := ?_) (a' := ?_) #[true, true, true, true, true, true, true, true, true, true, true, true, true, true, true, true, false, true, true, true, true, true, false, false] rfl rfl (by kernel_rfl) (fun _ _ _ h => h) (Or.inl ⟨by rfl, ?_⟩) ?_ ?_
                rotate_left
                · intro w'
                  go_simp
                  (try with_reducible rfl)
                rotate_left
                · simp only [Act.put, List.setIfInBounds_toArray, List.set_cons_zero, List.set_cons_succ, i64_w, i32_w]
                  rfl
                refine pure_ (i := 16) (N := some 67) (v := ?_) (a' := ?_) #[true, true, true, true, true, true, true, true, true, true, true, true, true, true, true, true, true, true, true, true, true, true, false, false] rfl rfl (by kernel_rfl) (fun _ _ _ h => h) (Or.inl ⟨by rfl, ?_⟩) ?_ ?_
                rotate_left
                · intro w'
                  go_simp
                  (try with_reducible rfl)
                rotate_left
                · simp only [Act.put, List.setIfInBounds_toArray, List.set_cons_zero, List.set_cons_succ, i64_w, i32_w]
                  rfl
                refine pure_ (i := 22) (N := some 73) (v := ?_) (a' := ?_) #[true, true, true, true, true, true, true, true, true, true, true, true, true, true, true, true, true, true, true, true, true, true, true, false] rfl rfl (by kernel_rfl) (fun _ _ _ h => h) (Or.inl ⟨by rfl, ?_⟩) ?_ ?_
                rotate_left
                · intro w'
                  go_simp
                  (try with_reducible rfl)
                rotate_left
                · simp only [Act.put, List.setIfInBounds_toArray, List.set_cons_zero, List.set_cons_succ, i64_w, i32_w]
                  rfl
                refine pure_ (i := 23) (N := some 4) (v := ?_) (a' := ?_) #[true, true, true, true, true, true, true, true, true, true, true, true, true, true, true, true, true, true, true, true, true, true, true, true] rfl rfl (by kernel_rfl) (fun _ _ _ h => h) (Or.inl ⟨by rfl, ?_⟩) ?_ ?_
                rotate_left
                · intro w'
                  go_simp
                  (try with_reducible rfl)
                rotate_left
                · simp only [Act.put, List.setIfInBounds_toArray, List.set_cons_zero, List.set_cons_succ, i64_w, i32_w]
                  rfl
                refine done_ (by kernel_rfl) ?_
                clear hHeld
                go_wp2_with fail
                exact ⟨HEND _ HB, by show l.length - (k + 1).toNat < l.length - k.toNat; omega⟩
            · refine goes_ Try.func33 (by kernel_rfl) rfl #[.int .i64 (s.size : Int)] (by rfl) rfl rfl (by (try simp only [List.map_toArray, List.map_cons, List.map_nil]); first | done | rfl) ?_
              with_reducible refine (HT.out _).mono ?_
              rintro e w_c ⟨rfl, hb_c⟩
              replace F0 := (hb_c.cell (World.block_lt_of_cell? _ _ F0)).trans F0
              replace F1 := (hb_c.cell (World.block_lt_of_cell? _ _ F1)).trans F1
              replace HB := below_step HB hb_c
              refine ⟨_, rfl, ?_⟩
              refine hK.out _ _ ⟨F0, F1⟩ (fun hHeld => ?_)
              clear hK K hb_c
              refine norm_ (a' := ?_) ?_ ?_
              rotate_left
              · show Act.put _ (some 66) _ = _
                simp only [Act.put, List.setIfInBounds_toArray, List.set_cons_zero, List.set_cons_succ, i64_w, i32_w]
                rfl
              refine one_ (i := 6) (N := some 57) #[true, true, true, true, true, true, true, false, false, true, true, true, true, true, true, true, false, true, true, true, true, true, false, false] rfl rfl (by kernel_rfl) (by decide) (fun K hK => ?_)
              refine value_ (w1 := w_c.alloc (.cells #[.int .u8 b] 5)) (v := .slice (some ⟨w_c.heap.size, 0, none⟩) 1 1) (by rfl) rfl (by go_simp) ?_
              have FN := (Blk.new w_c 5 #[.int .u8 b]).cell 0
              replace F0 := ((below_alloc (Below.refl w_c.heap.size w_c) (.cells #[.int .u8 b] 5)).cell (World.block_lt_of_cell? _ _ F0)).trans F0
              replace F1 := ((below_alloc (Below.refl w_c.heap.size w_c) (.cells #[.int .u8 b] 5)).cell (World.block_lt_of_cell? _ _ F1)).trans F1
              replace HB := HB.alloc HB.size (.cells #[.int .u8 b] 5)
              refine hK.out _ _ ⟨F0, F1⟩ (fun hHeld => ?_)
              clear hK K
              refine norm_ (a' := ?_) ?_ ?_
              rotate_left
              · show Act.put _ (some 57) _ = _
                simp only [Act.put, List.setIfInBounds_toArray, List.set_cons_zero, List.set_cons_succ, i64_w, i32_w]
                rfl
              generalize hg4 : w_c.heap.size = q at *
              generalize w_c.alloc (.cells #[.int .u8 b] 5) = w5 at *
              refine one_ (i := 7) (N := some 58) #[true, true, true, true, true, true, true, true, false, true, true, true, true, true, true, true, false, true, true, true, true, true, false, false] rfl rfl (by kernel_rfl) (by decide) (fun K hK => ?_)
              refine value_ (w1 := w5) (v := .string B) (by rfl) rfl (by have cvq := CV _ _ FN; go_simp) ?_
              refine hK.out _ _ ⟨F0, F1⟩ (fun hHeld => ?_)
              clear hK K
              refine norm_ (a' := ?_) ?_ ?_
              rotate_left
              · show Act.put _ (some 58) _ = _
                simp only [Act.put, List.setIfInBounds_toArray, List.set_cons_zero, List.set_cons_succ, i64_w, i32_w]
                rfl
              refine pure_ (i := 8) (N := some 59) (v := ?_) (a' := ?_) #[true, true, true, true, true, true, true, true, true, true, true, true, true, true, true, true, false, true, true, true, true, true, false, false] rfl rfl (by kernel_rfl) (fun _ _ _ h => h) (Or.inl ⟨by rfl, ?_⟩) ?_ ?_
              rotate_left
              · intro w'
                go_simp
                (try with_reducible rfl)
              rotate_left
              · simp only [Act.put, List.setIfInBounds_toArray, List.set_cons_zero, List.set_cons_succ, i64_w, i32_w]
                rfl
              refine pure_ (i := 16) (N := some 67) (v := ?_) (a' := ?_) #[true, true, true, true, true, true, true, true, true, true, true, true, true, true, true, true, true, true, true, true, true, true, false, false] rfl rfl (by kernel_rfl) (fun _ _ _ h => h) (Or.inl ⟨by rfl, ?_⟩) ?_ ?_
              rotate_left
              · intro w'
                go_simp
                (try with_reducible rfl)
              rotate_left
              · simp only [Act.put, List.setIfInBounds_toArray, List.set_cons_zero, List.set_cons_succ, i64_w, i32_w]
                rfl
              refine pure_ (i := 22) (N := some 73) (v := ?_) (a' := ?_) #[true, true, true, true, true, true, true, true, true, true, true, true, true, true, true, true, true, true, true, true, true, true, true, false] rfl rfl (by kernel_rfl) (fun _ _ _ h => h) (Or.inl ⟨by rfl, ?_⟩) ?_ ?_
              rotate_left
              · intro w'
                go_simp
                (try with_reducible rfl)
              rotate_left
              · simp only [Act.put, List.setIfInBounds_toArray, List.set_cons_zero, List.set_cons_succ, i64_w, i32_w]
                rfl
              refine pure_ (i := 23) (N := some 4) (v := ?_) (a' := ?_) #[true, true, true, true, true, true, true, true, true, true, true, true, true, true, true, true, true, true, true, true, true, true, true, true] rfl rfl (by kernel_rfl) (fun _ _ _ h => h) (Or.inl ⟨by rfl, ?_⟩) ?_ ?_
              rotate_left
              · intro w'
                go_simp
                (try with_reducible rfl)
              rotate_left
              · simp only [Act.put, List.setIfInBounds_toArray, List.set_cons_zero, List.set_cons_succ, i64_w, i32_w]
                rfl
              refine done_ (by kernel_rfl) ?_
              clear hHeld
              go_wp2_with fail
              exact ⟨HEND _ HB, by show l.length - (k + 1).toNat < l.length - k.toNat; omega⟩
      · have hb' : (b == 0) = false := beq_eq_false_iff_ne.2 hb
        have hk' : decide ((0 : Int) < k) = true := decide_eq_true hk0
        obtain ⟨j, hj⟩ : ∃ j : Int, j = k - 1 := ⟨_, rfl⟩
        have hk2 : wrap64 (k - 1) = j := by unfold wrap64; omega
        have hk2' : IntKind.i64.wrap (k - 1) = j := by rw [IntKind.wrap_i64]; omega
        have hk3 : (0 : Int) ≤ j := by omega
        have hk4 : j < (l.length : Int) := by omega
        obtain ⟨ad', ea, f0, f1⟩ := at_T48 (Kd.C_below HL.out HB) j hk3 hk4
        injection ea with ea
        subst ea
        rw [← hj] at hla
        rw [← hla] at f0
        clear f1 hla hlast hj
        rcases hz with hz | ⟨hle, hz⟩ | ⟨hle, hz⟩
        · have hz' : decide (b ≤ last) = true := decide_eq_true hz
          have hE := HE.out
          rw [if_pos (.inl hz)] at hE
          clear HE hz
          go_wp2_with fail
          go_quiet (fail)
          go_wp2_with fail
          go_ret2
          refine ⟨?_, pw_below_drewN HB _⟩
          rw [G1.out, hE]
          rfl
        · obtain rfl : s = ⟨#[]⟩ := ByteArray.ext (Array.eq_empty_of_size_eq_zero hz)
          have hz' : decide (b ≤ last) = false := decide_eq_false hle
          have hE := HE.out
          rw [if_pos (.inr rfl)] at hE
          clear HE hz
          go_wp2_with fail
          go_quiet (fail)
          go_wp2_with fail
          go_ret2
          refine ⟨?_, pw_below_drewN HB _⟩
          rw [G1.out, hE]
          rfl
        · have hz' : decide (b ≤ last) = false := decide_eq_false hle
          have hE := HE.out
          rw [if_neg (by simp only [not_or]; exact ⟨hle, hz⟩)] at hE
          have hne := not_empty hz
          clear HE hle hz
          go_wp2_with fail
          go_quiet (fail)
          replace HB := pw_below_drewN HB nq
          replace e0 : (wr.drewN nq).cell? (ad.add (k.toNat * 2)) = some (.int .u8 b) := e0
          replace e1 : (wr.drewN nq).cell? ⟨(ad.add (k.toNat * 2)).block, (ad.add (k.toNat * 2)).off + 1, none⟩ = some (.string s) := e1
          generalize wr.drewN nq = w2 at *
          by_cases hbig : 65535 < s.size
          · have hb1 : decide ((65535 : Int) < (s.size : Int)) = true := decide_eq_true (by omega)
            rw [if_pos hbig] at hE
            go_wp2_with fail
            go_ret2
            refine ⟨?_, HB⟩
            rw [G1.out, hE]
            rfl
          · have hb1 : decide ((65535 : Int) < (s.size : Int)) = false := decide_eq_false (by omega)
            rw [if_neg hbig] at hE
            have HE := Lib.hid hE
            clear hE hne
            go_wp2_with fail
            have HT := Lib.hid (two_any s.size (by omega))
            have hacc : strOfNums acc ++ strOfNums [b] ++ strOfNums (sz s.size) ++ s = strOfNums (((acc ++ [b]) ++ sz s.size) ++ bytesOf s) := by rw [str_app, str_app, str_app, str_bytes]
            have HA := Lib.hid hacc
            have hz1 : (strOfNums acc).size = acc.length := strOfNums_size _
            have hz2 : (strOfNums (sz s.size)).size = 2 := strOfNums_size _
            have hz3 : (strOfNums [b]).size = 1 := strOfNums_size _
            have CV := cv1 b
            clear hacc
            generalize hS : strOfNums acc = S at *
            have HS := Lib.hid hS
            clear hS
            generalize strOfNums (sz s.size) = T at *
            generalize strOfNums [b] = B at *
            have q1 : ∀ W, (binOp BinOp.add 9 (.string S) (.string B)).run Try.prog W = .ok (.string (S ++ B)) W := by intro W; simp [binOp, Op.stringOp, maxLen]; omega
            have q2 : ∀ W, (binOp BinOp.add 9 (.string (S ++ B)) (.string T)).run Try.prog W = .ok (.string (S ++ B ++ T)) W := by intro W; simp [binOp, Op.stringOp, maxLen, ByteArray.size_append]; omega
            have q3 : ∀ W, (binOp BinOp.add 9 (.string (S ++ B ++ T)) (.string s)).run Try.prog W = .ok (.string (S ++ B ++ T ++ s)) W := by intro W; simp [binOp, Op.stringOp, maxLen, ByteArray.size_append]; omega
            have hlt0 := World.block_lt_of_cell? _ _ e0
            have hlt1 := World.block_lt_of_cell? _ _ e1
            obtain ⟨g, o, hA⟩ : ∃ g o, ad.add (k.toNat * 2) = ⟨g, o, none⟩ := ⟨_, _, spot_none e0⟩
            rw [hA] at e0 e1
            have f0 : w2.cell? ⟨g, o, none⟩ = some (.int .u8 b) := e0
            have f1 : w2.cell? ⟨g, o + 1, none⟩ = some (.string s) := e1
            clear e0 e1 hlt0 hlt1
            have z1 : ¬ 9223372036854775807 < S.size + B.size := by omega
            have z2 : ¬ 9223372036854775807 < S.size + B.size + T.size := by omega
            have z3 : ¬ 9223372036854775807 < S.size + B.size + T.size + s.size := by omega
            have z9 := Lib.hid g3
            clear hz1 hz2 hz3 g3
            clear q1 q2 q3
            have hk9 : wrap64 (k + 1) = k + 1 := by unfold wrap64; omega
            have HEND : ∀ W, Below w.heap.size w W → ER48 l w (.string (S ++ B ++ T ++ s)) (.int .i64 (k + 1)) W := by
              intro W hW
              refine ⟨((acc ++ [b]) ++ sz s.size) ++ bytesOf s, b, i + 1, by rw [HI.out]; rfl, by rw [HA.out], hgo, .inr ⟨by omega, ?_⟩, hW, ?_, ?_⟩
              · rw [show (((i + 1 : Nat) : Int) - 1) = k by rw [HI.out]; omega, ER.out]
              · rw [G1.out, HE.out]
              · rw [List.length_append, List.length_append, List.length_append, sz_len, bytesOf_length]; simp only [List.length_cons, List.length_nil]; have := z9.out; omega
            refine start_ (n := 24) (S := (fun w' => w'.cell? ⟨g, o, none⟩ = some (.int .u8 b) ∧ w'.cell? ⟨g, o + 1, none⟩ = some (.string s))) (ds := []) #[false, false, false, false, false, false, false, false, false, false, false, false, false, false, false, false, false, false, false, false, false, false, false, false] (by kernel_rfl) rfl rfl ⟨f0, f1⟩ (fun hHeld => ?_)
            refine pure_ (i := 0) (N := some 51) (v := ?_) (a' := ?_) #[true, false, false, false, false, false, false, false, false, false, false, false, false, false, false, false, false, false, false, false, false, false, false, false] rfl rfl (by kernel_rfl) (fun _ _ _ h => h) (Or.inl ⟨by rfl, ?_⟩) ?_ ?_
            rotate_left
            · intro w'
              go_simp
              (try with_reducible rfl)
            rotate_left
            · simp only [Act.put, List.setIfInBounds_toArray, List.set_cons_zero, List.set_cons_succ, i64_w, i32_w]
              rfl
            refine pure_ (i := 1) (N := some 52) (v := ?_) (a' := ?_) #[true, true, false, false, false, false, false, false, false, false, false, false, false, false, false, false, false, false, false, false, false, false, false, false] rfl rfl (by kernel_rfl) (fun _ _ _ h => h) (Or.inl ⟨by rfl, ?_⟩) ?_ ?_
            rotate_left
            · intro w'
              go_simp
              (try with_reducible rfl)
            rotate_left
            · simp only [Act.put, List.setIfInBounds_toArray, List.set_cons_zero, List.set_cons_succ, i64_w, i32_w]
              rfl
            refine pure_ (i := 2) (N := some 53) (v := ?_) (a' := ?_) #[true, true, true, false, false, false, false, false, false, false, false, false, false, false, false, false, false, false, false, false, false, false, false, false] rfl rfl (by kernel_rfl) (fun _ _ _ h => h) (Or.inl ⟨by rfl, ?_⟩) ?_ ?_
            rotate_left
            · intro w'
              go_simp
              (try with_reducible rfl)
            rotate_left
            · simp only [Act.put, List.setIfInBounds_toArray, List.set_cons_zero, List.set_cons_succ, i64_w, i32_w]
              rfl
            refine pure_ (i := 3) (N := some 54) (v := ?_) (a' := ?_) #[true, true, true, true, false, false, false, false, false, false, false, false, false, false, false, false, false, false, false, false, false, false, false, false] rfl rfl (by kernel_rfl) (fun _ _ _ h => h) (Or.inl ⟨by rfl, ?_⟩) ?_ ?_
            rotate_left
            · intro w'
              go_simp
              (try with_reducible rfl)
            rotate_left
            · simp only [Act.put, List.setIfInBounds_toArray, List.set_cons_zero, List.set_cons_succ, i64_w, i32_w]
              rfl
            refine pure_ (i := 4) (N := some 55) (v := ?_) (a' := ?_) #[true, true, true, true, true, false, false, false, false, false, false, false, false, false, false, false, false, false, false, false, false, false, false, false] rfl rfl (by kernel_rfl) (fun _ _ _ h => h) (Or.inl ⟨by rfl, ?_⟩) ?_ ?_
            rotate_left
            · intro w'
              go_simp
              (try with_reducible rfl)
            rotate_left
            · simp only [Act.put, List.setIfInBounds_toArray, List.set_cons_zero, List.set_cons_succ, i64_w, i32_w]
              rfl
            refine take_ (i := 5) (N := some 56) (v := ?_) (a' := ?_) #[true, true, true, true, true, true, false, false, false, false, false, false, false, false, false, false, false, false, false, false, false, false, false, false] rfl rfl (by kernel_rfl) (fun _ _ _ h => h) (Or.inl ⟨by rfl, ?_⟩) hHeld ?_ ?_
            rotate_left
            · rintro w' ⟨s0, s1⟩
              go_simp
              (try with_reducible rfl)
            rotate_left
            · simp only [Act.put, List.setIfInBounds_toArray, List.set_cons_zero, List.set_cons_succ, i64_w, i32_w]
              rfl
            refine pure_ (i := 9) (N := some 60) (v := ?_) (a' := ?_) #[true, true, true, true, true, true, false, false, false, true, false, false, false, false, false, false, false, false, false, false, false, false, false, false] rfl rfl (by kernel_rfl) (fun _ _ _ h => h) (Or.inl ⟨by rfl, ?_⟩) ?_ ?_
            rotate_left
            · intro w'
              go_simp
              (try with_reducible rfl)
            rotate_left
            · simp only [Act.put, List.setIfInBounds_toArray, List.set_cons_zero, List.set_cons_succ, i64_w, i32_w]
              rfl
            refine pure_ (i := 10) (N := some 61) (v := ?_) (a' := ?_) #[true, true, true, true, true, true, false, false, false, true, true, false, false, false, false, false, false, false, false, false, false, false, false, false] rfl rfl (by kernel_rfl) (fun _ _ _ h => h) (Or.inl ⟨by rfl, ?_⟩) ?_ ?_
            rotate_left
            · intro w'
              go_simp
              (try with_reducible rfl)
            rotate_left
            · simp only [Act.put, List.setIfInBounds_toArray, List.set_cons_zero, List.set_cons_succ, i64_w, i32_w]
              rfl
            refine pure_ (i := 11) (N := some 62) (v := ?_) (a' := ?_) #[true, true, true, true, true, true, false, false, false, true, true, true, false, false, false, false, false, false, false, false, false, false, false, false] rfl rfl (by kernel_rfl) (fun _ _ _ h => h) (Or.inl ⟨by rfl, ?_⟩) ?_ ?_
            rotate_left
            · intro w'
              go_simp
              (try with_reducible rfl)
            rotate_left
            · simp only [Act.put, List.setIfInBounds_toArray, List.set_cons_zero, List.set_cons_succ, i64_w, i32_w]
              rfl
            refine pure_ (i := 12) (N := some 63) (v := ?_) (a' := ?_) #[true, true, true, true, true, true, false, false, false, true, true, true, true, false, false, false, false, false, false, false, false, false, false, false] rfl rfl (by kernel_rfl) (fun _ _ _ h => h) (Or.inl ⟨by rfl, ?_⟩) ?_ ?_
            rotate_left
            · intro w'
              go_simp
              (try with_reducible rfl)
            rotate_left
            · simp only [Act.put, List.setIfInBounds_toArray, List.set_cons_zero, List.set_cons_succ, i64_w, i32_w]
              rfl
            refine take_ (i := 13) (N := some 64) (v := ?_) (a' := ?_) #[true, true, true, true, true, true, false, false, false, true, true, true, true, true, false, false, false, false, false, false, false, false, false, false] rfl rfl (by kernel_rfl) (fun _ _ _ h => h) (Or.inl ⟨by rfl, ?_⟩) hHeld ?_ ?_
            rotate_left
            · rintro w' ⟨s0, s1⟩
              go_simp
              (try with_reducible rfl)
            rotate_left
            · simp only [Act.put, List.setIfInBounds_toArray, List.set_cons_zero, List.set_cons_succ, i64_w, i32_w]
              rfl
            refine pure_ (i := 14) (N := some 65) (v := ?_) (a' := ?_) #[true, true, true, true, true, true, false, false, false, true, true, true, true, true, true, false, false, false, false, false, false, false, false, false] rfl rfl (by kernel_rfl) (fun _ _ _ h => h) (Or.inl ⟨by rfl, ?_⟩) ?_ ?_
            rotate_left
            · intro w'
              go_simp
              (try with_reducible rfl)
            rotate_left
            · simp only [Act.put, List.setIfInBounds_toArray, List.set_cons_zero, List.set_cons_succ, i64_w, i32_w]
              rfl
            refine pure_ (i := 17) (N := some 68) (v := ?_) (a' := ?_) #[true, true, true, true, true, true, false, false, false, true, true, true, true, true, true, false, false, true, false, false, false, false, false, false] rfl rfl (by kernel_rfl) (fun _ _ _ h => h) (Or.inl ⟨by rfl, ?_⟩) ?_ ?_
            rotate_left
            · intro w'
              go_simp
              (try with_reducible rfl)
            rotate_left
            · simp only [Act.put, List.setIfInBounds_toArray, List.set_cons_zero, List.set_cons_succ, i64_w, i32_w]
              rfl
            refine pure_ (i := 18) (N := some 69) (v := ?_) (a' := ?_) #[true, true, true, true, true, true, false, false, false, true, true, true, true, true, true, false, false, true, true, false, false, false, false, false] rfl rfl (by kernel_rfl) (fun _ _ _ h => h) (Or.inl ⟨by rfl, ?_⟩) ?_ ?_
            rotate_left
            · intro w'
              go_simp
              (try with_reducible rfl)
            rotate_left
            · simp only [Act.put, List.setIfInBounds_toArray, List.set_cons_zero, List.set_cons_succ, i64_w, i32_w]
              rfl
            refine pure_ (i := 19) (N := some 70) (v := ?_) (a' := ?_) #[true, true, true, true, true, true, false, false, false, true, true, true, true, true, true, false, false, true, true, true, false, false, false, false] rfl rfl (by kernel_rfl) (fun _ _ _ h => h) (Or.inl ⟨by rfl, ?_⟩) ?_ ?_
            rotate_left
            · intro w'
              go_simp
              (try with_reducible rfl)
            rotate_left
            · simp only [Act.put, List.setIfInBounds_toArray, List.set_cons_zero, List.set_cons_succ, i64_w, i32_w]
              rfl
            refine pure_ (i := 20) (N := some 71) (v := ?_) (a' := ?_) #[true, true, true, true, true, true, false, false, false, true, true, true, true, true, true, false, false, true, true, true, true, false, false, false] rfl rfl (by kernel_rfl) (fun _ _ _ h => h) (Or.inl ⟨by rfl, ?_⟩) ?_ ?_
            rotate_left
            · intro w'
              go_simp
              (try with_reducible rfl)
            rotate_left
            · simp only [Act.put, List.setIfInBounds_toArray, List.set_cons_zero, List.set_cons_succ, i64_w, i32_w]
              rfl
            refine take_ (i := 21) (N := some 72) (v := ?_) (a' := ?_) #[true, true, true, true, true, true, false, false, false, true, true, true, true, true, true, false, false, true, true, true, true, true, false, false] rfl rfl (by kernel_rfl) (fun _ _ _ h => h) (Or.inl ⟨by rfl, ?_⟩) hHeld ?_ ?_
            rotate_left
            · rintro w' ⟨s0, s1⟩
              go_simp
              (try with_reducible rfl)
            rotate_left
            · simp only [Act.put, List.setIfInBounds_toArray, List.set_cons_zero, List.set_cons_succ, i64_w, i32_w]
              rfl
            have F0 := hHeld.1
            have F1 := hHeld.2
            replace HB := below_drew1 HB
            generalize w2.drew = w4 at *
            refine two_ (i := 6) (j := 15) (Ni := some 57) (Nj := some 66) #[true, true, true, true, true, true, true, false, false, true, true, true, true, true, true, false, false, true, true, true, true, true, false, false] #[true, true, true, true, true, true, false, false, false, true, true, true, true, true, true, true, false, true, true, true, true, true, false, false] rfl rfl rfl rfl (by kernel_rfl) (by decide) (by decide) (fun K hK => ?_) (fun K hK => ?_)
            · refine value_ (w1 := w4.alloc (.cells #[.int .u8 b] 5)) (v := .slice (some ⟨w4.heap.size, 0, none⟩) 1 1) (by rfl) rfl (by go_simp) ?_
              have FN := (Blk.new w4 5 #[.int .u8 b]).cell 0
              replace F0 := ((below_alloc (Below.refl w4.heap.size w4) (.cells #[.int .u8 b] 5)).cell (World.block_lt_of_cell? _ _ F0)).trans F0
              replace F1 := ((below_alloc (Below.refl w4.heap.size w4) (.cells #[.int .u8 b] 5)).cell (World.block_lt_of_cell? _ _ F1)).trans F1
              replace HB := HB.alloc HB.size (.cells #[.int .u8 b] 5)
              refine hK.out _ _ ⟨F0, F1⟩ (fun hHeld => ?_)
              clear hK K
              refine norm_ (a' := ?_) ?_ ?_
              rotate_left
              · show Act.put _ (some 57) _ = _
                simp only [Act.put, List.setIfInBounds_toArray, List.set_cons_zero, List.set_cons_succ, i64_w, i32_w]
                rfl
              generalize hg4 : w4.heap.size = q at *
              generalize w4.alloc (.cells #[.int .u8 b] 5) = w5 at *
              refine two_ (i := 7) (j := 15) (Ni := some 58) (Nj := some 66) #[true, true, true, true, true, true, true, true, false, true, true, true, true, true, true, false, false, true, true, true, true, true, false, false] #[true, true, true, true, true, true, true, false, false, true, true, true, true, true, true, true, false, true, true, true, true, true, false, false] rfl rfl rfl rfl (by kernel_rfl) (by decide) (by decide) (fun K hK => ?_) (fun K hK => ?_)
              · refine value_ (w1 := w5) (v := .string B) (by rfl) rfl (by have cvq := CV _ _ FN; go_simp) ?_
                refine hK.out _ _ ⟨F0, F1⟩ (fun hHeld => ?_)
                clear hK K
                refine norm_ (a' := ?_) ?_ ?_
                rotate_left
                · show Act.put _ (some 58) _ = _
                  simp only [Act.put, List.setIfInBounds_toArray, List.set_cons_zero, List.set_cons_succ, i64_w, i32_w]
                  rfl
                refine pure_ (i := 8) (N := some 59) (v := ?_) (a' := ?_) #[true, true, true, true, true, true, true, true, true, true, true, true, true, true, true, false, false, true, true, true, true, true, false, false] rfl rfl (by kernel_rfl) (fun _ _ _ h => h) (Or.inl ⟨by rfl, ?_⟩) ?_ ?_
                rotate_left
                · intro w'
                  go_simp
                  (try with_reducible rfl)
                rotate_left
                · simp only [Act.put, List.setIfInBounds_toArray, List.set_cons_zero, List.set_cons_succ, i64_w, i32_w]
                  rfl
                refine one_ (i := 15) (N := some 66) #[true, true, true, true, true, true, true, true, true, true, true, true, true, true, true, true, false, true, true, true, true, true, false, false] rfl rfl (by kernel_rfl) (by decide) (fun K hK => ?_)
                refine goes_ Try.func33 (by kernel_rfl) rfl #[.int .i64 (s.size : Int)] (by rfl) rfl rfl (by (try simp only [List.map_toArray, List.map_cons, List.map_nil]); first | done | rfl) ?_
                with_reducible refine (HT.out _).mono ?_
                rintro e w_6a ⟨rfl, hb_6a⟩
                replace F0 := (hb_6a.cell (World.block_lt_of_cell? _ _ F0)).trans F0
                replace F1 := (hb_6a.cell (World.block_lt_of_cell? _ _ F1)).trans F1
                replace HB := below_step HB hb_6a
                replace FN := (hb_6a.cell (World.block_lt_of_cell? _ _ FN)).trans FN
                refine ⟨_, rfl, ?_⟩
                refine hK.out _ _ ⟨F0, F1⟩ (fun hHeld => ?_)
                clear hK K hb_6a
                refine norm_ (a' := ?_) ?_ ?_
                rotate_left
                · show Act.put _ (some 66) _ = _
                  simp only [Act.put, List.setIfInBounds_toArray, List.set_cons_zero, List.set_cons_succ, i64_w, i32_w]
                  rfl
                refine pure_ (i := 16) (N := some 67) (v := ?_) (a' := ?_) #[true, true, true, true, true, true, true, true, true, true, true, true, true, true, true, true, true, true, true, true, true, true, false, false] rfl rfl (by kernel_rfl) (fun _ _ _ h => h) (Or.inl ⟨by rfl, ?_⟩) ?_ ?_
                rotate_left
                · intro w'
                  go_simp
                  (try with_reducible rfl)
                rotate_left
                · simp only [Act.put, List.setIfInBounds_toArray, List.set_cons_zero, List.set_cons_succ, i64_w, i32_w]
                  rfl
                refine pure_ (i := 22) (N := some 73) (v := ?_) (a' := ?_) #[true, true, true, true, true, true, true, true, true, true, true, true, true, true, true, true, true, true, true, true, true, true, true, false] rfl rfl (by kernel_rfl) (fun _ _ _ h => h) (Or.inl ⟨by rfl, ?_⟩) ?_ ?_
                rotate_left
                · intro w'
                  go_simp
                  (try with_reducible rfl)
                rotate_left
                · simp only [Act.put, List.setIfInBounds_toArray, List.set_cons_zero, List.set_cons_succ, i64_w, i32_w]
                  rfl
                refine pure_ (i := 23) (N := some 4) (v := ?_) (a' := ?_) #[true, true, true, true, true, true, true, true, true, true, true, true, true, true, true, true, true, true, true, true, true, true, true, true] rfl rfl (by kernel_rfl) (fun _ _ _ h => h) (Or.inl ⟨by rfl, ?_⟩) ?_ ?_
                rotate_left
                · intro w'
                  go_simp
                  (try with_reducible rfl)
                rotate_left
                · simp only [Act.put, List.setIfInBounds_toArray, List.set_cons_zero, List.set_cons_succ, i64_w, i32_w]
                  rfl
                refine done_ (by kernel_rfl) ?_
                clear hHeld
                go_wp2_with fail
                exact ⟨HEND _ HB, by show l.length - (k + 1).toNat < l.length - k.toNat; omega⟩
              · refine goes_ Try.func33 (by kernel_rfl) rfl #[.int .i64 (s.size : Int)] (by rfl) rfl rfl (by (try simp only [List.map_toArray, List.map_cons, List.map_nil]); first | done | rfl) ?_
                with_reducible refine (HT.out _).mono ?_
                rintro e w_6b ⟨rfl, hb_6b⟩
                replace F0 := (hb_6b.cell (World.block_lt_of_cell? _ _ F0)).trans F0
                replace F1 := (hb_6b.cell (World.block_lt_of_cell? _ _ F1)).trans F1
                replace HB := below_step HB hb_6b
                replace FN := (hb_6b.cell (World.block_lt_of_cell? _ _ FN)).trans FN
                refine ⟨_, rfl, ?_⟩
                refine hK.out _ _ ⟨F0, F1⟩ (fun hHeld => ?_)
                clear hK K hb_6b
                refine norm_ (a' := ?_) ?_ ?_
                rotate_left
                · show Act.put _ (some 66) _ = _
                  simp only [Act.put, List.setIfInBounds_toArray, List.set_cons_zero, List.set_cons_succ, i64_w, i32_w]
                  rfl
                refine one_ (i := 7) (N := some 58) #[true, true, true, true, true, true, true, true, false, true, true, true, true, true, true, true, false, true, true, true, true, true, false, false] rfl rfl (by kernel_rfl) (by decide) (fun K hK => ?_)
                refine value_ (w1 := w_6b) (v := .string B) (by rfl) rfl (by have cvq := CV _ _ FN; go_simp) ?_
                refine hK.out _ _ ⟨F0, F1⟩ (fun hHeld => ?_)
                clear hK K
                refine norm_ (a' := ?_) ?_ ?_
                rotate_left
                · show Act.put _ (some 58) _ = _
                  simp only [Act.put, List.setIfInBounds_toArray, List.set_cons_zero, List.set_cons_succ, i64_w, i32_w]
                  rfl
                refine pure_ (i := 8) (N := some 59) (v := ?_) (a' := ?_) #[true, true, true, true, true, true, true, true, true, true, true, true, true, true, true, true, false, true, true, true, true, true, false, false] rfl rfl (by kernel_rfl) (fun _ _ _ h => h) (Or.inl ⟨by rfl, ?_⟩) ?_ ?_
                rotate_left
                · intro w'
                  go_simp
                  (try with_reducible rfl)
                rotate_left
                · simp only [Act.put, List.setIfInBounds_toArray, List.set_cons_zero, List.set_cons_succ, i64_w, i32_w]
                  rfl
                refine pure_ (i := 16) (N := some 67) (v := ?_) (a' := ?_) #[true, true, true, true, true, true, true, true, true, true, true, true, true, true, true, true, true, true, true, true, true, true, false, false] rfl rfl (by kernel_rfl) (fun _ _ _ h => h) (Or.inl ⟨by rfl, ?_⟩) ?_ ?_
                rotate_left
                · intro w'
                  go_simp
                  (try with_reducible rfl)
                rotate_left
                · simp only [Act.put, List.setIfInBounds_toArray, List.set_cons_zero, List.set_cons_succ, i64_w, i32_w]
                  rfl
                refine pure_ (i := 22) (N := some 73) (v := ?_) (a' := ?_) #[true, true, true, true, true, true, true, true, true, true, true, true, true, true, true, true, true, true, true, true, true, true, true, false] rfl rfl (by kernel_rfl) (fun _ _ _ h => h) (Or.inl ⟨by rfl, ?_⟩) ?_ ?_
                rotate_left
                · intro w'
                  go_simp
                  (try with_reducible rfl)
                rotate_left
                · simp only [Act.put, List.setIfInBounds_toArray, List.set_cons_zero, List.set_cons_succ, i64_w, i32_w]
                  rfl
                refine pure_ (i := 23) (N := some 4) (v := ?_) (a' := ?_) #[true, true, true, true, true, true, true, true, true, true, true, true, true, true, true, true, true, true, true, true, true, true, true, true] rfl rfl (by kernel_rfl) (fun _ _ _ h => h) (Or.inl ⟨by rfl, ?_⟩) ?_ ?_
                rotate_left
                · intro w'
                  go_simp
                  (try with_reducible rfl)
                rotate_left
                · simp only [Act.put, List.setIfInBounds_toArray, List.set_cons_zero, List.set_cons_succ, i64_w, i32_w]
                  rfl
                refine done_ (by kernel_rfl) ?_
                clear hHeld
                go_wp2_with fail
                exact ⟨HEND _ HB, by show l.length - (k + 1).toNat < l.length - k.toNat; omega⟩
            · refine goes_ Try.func33 (by kernel_rfl) rfl #[.int .i64 (s.size : Int)] (by rfl) rfl rfl (by (try simp only [List.map_toArray, List.map_cons, List.map_nil]); first | done | rfl) ?_
              with_reducible refine (HT.out _).mono ?_
              rintro e w_c ⟨rfl, hb_c⟩
              replace F0 := (hb_c.cell (World.block_lt_of_cell? _ _ F0)).trans F0
              replace F1 := (hb_c.cell (World.block_lt_of_cell? _ _ F1)).trans F1
              replace HB := below_step HB hb_c
              refine ⟨_, rfl, ?_⟩
              refine hK.out _ _ ⟨F0, F1⟩ (fun hHeld => ?_)
              clear hK K hb_c
              refine norm_ (a' := ?_) ?_ ?_
              rotate_left
              · show Act.put _ (some 66) _ = _
                simp only [Act.put, List.setIfInBounds_toArray, List.set_cons_zero, List.set_cons_succ, i64_w, i32_w]
                rfl
              refine one_ (i := 6) (N := some 57) #[true, true, true, true, true, true, true, false, false, true, true, true, true, true, true, true, false, true, true, true, true, true, false, false] rfl rfl (by kernel_rfl) (by decide) (fun K hK => ?_)
              refine value_ (w1 := w_c.alloc (.cells #[.int .u8 b] 5)) (v := .slice (some ⟨w_c.heap.size, 0, none⟩) 1 1) (by rfl) rfl (by go_simp) ?_
              have FN := (Blk.new w_c 5 #[.int .u8 b]).cell 0
              replace F0 := ((below_alloc (Below.refl w_c.heap.size w_c) (.cells #[.int .u8 b] 5)).cell (World.block_lt_of_cell? _ _ F0)).trans F0
              replace F1 := ((below_alloc (Below.refl w_c.heap.size w_c) (.cells #[.int .u8 b] 5)).cell (World.block_lt_of_cell? _ _ F1)).trans F1
              replace HB := HB.alloc HB.size (.cells #[.int .u8 b] 5)
              refine hK.out _ _ ⟨F0, F1⟩ (fun hHeld => ?_)
              clear hK K
              refine norm_ (a' := ?_) ?_ ?_
              rotate_left
              · show Act.put _ (some 57) _ = _
                simp only [Act.put, List.setIfInBounds_toArray, List.set_cons_zero, List.set_cons_succ, i64_w, i32_w]
                rfl
              generalize hg4 : w_c.heap.size = q at *
              generalize w_c.alloc (.cells #[.int .u8 b] 5) = w5 at *
              refine one_ (i := 7) (N := some 58) #[true, true, true, true, true, true, true, true, false, true, true, true, true, true, true, true, false, true, true, true, true, true, false, false] rfl rfl (by kernel_rfl) (by decide) (fun K hK => ?_)
              refine value_ (w1 := w5) (v := .string B) (by rfl) rfl (by have cvq := CV _ _ FN; go_simp) ?_
              refine hK.out _ _ ⟨F0, F1⟩ (fun hHeld => ?_)
              clear hK K
              refine norm_ (a' := ?_) ?_ ?_
              rotate_left
              · show Act.put _ (some 58) _ = _
                simp only [Act.put, List.setIfInBounds_toArray, List.set_cons_zero, List.set_cons_succ, i64_w, i32_w]
                rfl
              refine pure_ (i := 8) (N := some 59) (v := ?_) (a' := ?_) #[true, true, true, true, true, true, true, true, true, true, true, true, true, true, true, true, false, true, true, true, true, true, false, false] rfl rfl (by kernel_rfl) (fun _ _ _ h => h) (Or.inl ⟨by rfl, ?_⟩) ?_ ?_
              rotate_left
              · intro w'
                go_simp
                (try with_reducible rfl)
              rotate_left
              · simp only [Act.put, List.setIfInBounds_toArray, List.set_cons_zero, List.set_cons_succ, i64_w, i32_w]
                rfl
              refine pure_ (i := 16) (N := some 67) (v := ?_) (a' := ?_) #[true, true, true, true, true, true, true, true, true, true, true, true, true, true, true, true, true, true, true, true, true, true, false, false] rfl rfl (by kernel_rfl) (fun _ _ _ h => h) (Or.inl ⟨by rfl, ?_⟩) ?_ ?_
              rotate_left
              · intro w'
                go_simp
                (try with_reducible rfl)
              rotate_left
              · simp only [Act.put, List.setIfInBounds_toArray, List.set_cons_zero, List.set_cons_succ, i64_w, i32_w]
                rfl
              refine pure_ (i := 22) (N := some 73) (v := ?_) (a' := ?_) #[true, true, true, true, true, true, true, true, true, true, true, true, true, true, true, true, true, true, true, true, true, true, true, false] rfl rfl (by kernel_rfl) (fun _ _ _ h => h) (Or.inl ⟨by rfl, ?_⟩) ?_ ?_
              rotate_left
              · intro w'
                go_simp
                (try with_reducible rfl)
              rotate_left
              · simp only [Act.put, List.setIfInBounds_toArray, List.set_cons_zero, List.set_cons_succ, i64_w, i32_w]
                rfl
              refine pure_ (i := 23) (N := some 4) (v := ?_) (a' := ?_) #[true, true, true, true, true, true, true, true, true, true, true, true, true, true, true, true, true, true, true, true, true, true, true, true] rfl rfl (by kernel_rfl) (fun _ _ _ h => h) (Or.inl ⟨by rfl, ?_⟩) ?_ ?_
              rotate_left
              · intro w'
                go_simp
                (try with_reducible rfl)
              rotate_left
              · simp only [Act.put, List.setIfInBounds_toArray, List.set_cons_zero, List.set_cons_succ, i64_w, i32_w]
                rfl
              refine done_ (by kernel_rfl) ?_
              clear hHeld
              go_wp2_with fail
              exact ⟨HEND _ HB, by show l.length - (k + 1).toNat < l.length - k.toNat; omega⟩
    · have hd : l.drop i = [] := List.drop_eq_nil_of_le (by omega)
      go_wp2_with fail
      go_ret2
      refine ⟨?_, HB⟩
      rw [G1.out, hd]
      rfl
end Go.Proofs.Ytndbchigekbjaaa.Base
