/- Bytes that came are the frames of the bodies, and those that wait; these are no whole frame. Conditions: none beyond the row's own. -/
import Derived.Test.YtedkfhgpahjleaaBack
set_option linter.unusedVariables false
set_option linter.unusedSimpArgs false
namespace Go.Proofs.Ytedkfhgpahjleaa.Waits
open Go Go.RowKit Go.Proofs.Ytedkfhgpahjleaa.Mem Go.Proofs.YtedkfhgpahjleaaW.PrintWords Go.Proofs.Ytedkfhgpahjleaa.Base Go.Proofs.Ytedkfhgpahjleaa.Back
def aB (o : List (List UInt8)) (k : Nat) : ByteArray := ⟨(frs (o.take k)).toArray⟩
theorem aB_size (o : List (List UInt8)) (k : Nat) : (aB o k).size = (frs (o.take k)).length := by
  show (frs (o.take k)).toArray.size = _
  simp
theorem frs_take_le (o : List (List UInt8)) (k : Nat) : (frs (o.take k)).length ≤ (frs o).length := by
  have : frs o = frs (o.take k) ++ frs (o.drop k) := by
    unfold frs
    rw [← List.flatten_append, ← List.map_append, List.take_append_drop]
  rw [this, List.length_append]
  omega
theorem aB_succ (o : List (List UInt8)) (k : Nat) (h : k < o.length) : aB o k ++ ⟨(fr o[k]).toArray⟩ = aB o (k + 1) := by
  refine str_ext ?_
  unfold aB
  rw [List.take_succ_eq_append_getElem h, frs_snoc]
  simp
theorem frame_ok (x : List UInt8) (h : Ok x) (w : World) : Calls Try.prog 11 #[strV x] w fun e w' => e = .returned (.tuple #[.string ⟨(fr x).toArray⟩, .int .i64 0]) ∧ Below w.heap.size w w' := by
  refine (frame_any ⟨x.toArray⟩ w).mono ?_
  rintro e w' ⟨rfl, hb⟩
  have hs : (⟨x.toArray⟩ : ByteArray).size = x.length := by show x.toArray.size = _; simp
  obtain ⟨h1, h2⟩ := h
  refine ⟨?_, hb⟩
  unfold frS frE
  rw [hs, if_neg (by omega), if_neg (by omega), if_neg (by omega), if_neg (by omega)]
theorem idx (R : ByteArray) (i : Nat) (b : UInt8) (h : R.data.toList[i]? = some b) (W : World) : (Instr.index 9 (.string R) (.int .i64 (i : Int))).run Try.prog W = .ok (.int .u8 (b.toNat : Int)) W := by
  rw [run_index_string (P := Try.prog) W 9 R .i64 (i : Int) Try.underlying9]
  obtain ⟨hi, hb⟩ := List.getElem?_eq_some_iff.1 h
  have hi' : i < R.size := by simpa using hi
  rw [dif_pos ⟨by omega, by omega⟩]
  congr 3
  subst hb
  simp only [Int.toNat_natCast]
  rfl
theorem quiet_left {P : Program} {f : FuncId} {args : Array Value} {w : World} {n : Nat} {v : Value}
    (h : Calls P f args (w.drewN n) fun e w' => e = .returned v ∧ w.drewN n = w') : Calls P f args (w.drewN n) fun e w'' => e = .returned v ∧ ∃ m, w'' = w.drewN m :=
  h.mono fun _ _ ⟨he, hm⟩ => ⟨he, n, hm.symm⟩
theorem may_two (x y z b : UInt8) (h : mayB x y z b = true) : be x y z b = z.toNat * 256 + b.toNat := by
  simp only [mayB, Bool.and_eq_true, decide_eq_true_eq] at h
  unfold be
  rw [h.1, h.2.1]
  omega
theorem i64_small (x : Int) (h1 : -100000000 ≤ x) (h2 : x ≤ 100000000) : IntKind.i64.wrap x = x := by rw [IntKind.wrap_i64]; omega
theorem fin_lt (n a b : Nat) (ha : a < 256) (hb : b < 256) (hn : n ≤ 40000) (h : (n : Int) < 4 + ((a : Int) * 256 + (b : Int))) :
    (decide ((n : Int) < 4) || decide (IntKind.i64.wrap ((n : Int) - 4) < IntKind.i64.wrap (IntKind.i64.wrap (IntKind.i64.wrap (a : Int) * 256) + IntKind.i64.wrap (b : Int)))) = true := by
  rw [i64_small (a : Int) (by omega) (by omega), i64_small (b : Int) (by omega) (by omega), i64_small ((a : Int) * 256) (by omega) (by omega), i64_small ((a : Int) * 256 + (b : Int)) (by omega) (by omega), i64_small ((n : Int) - 4) (by omega) (by omega)]
  rw [decide_eq_true (show (n : Int) - 4 < (a : Int) * 256 + (b : Int) by omega), Bool.or_true]
def AhR (o : List (List UInt8)) (w1 : World) (N : Nat) (t6 t7 : Value) (wr : World) : Prop := ∃ k : Nat, t7 = .int .i64 (k : Int) ∧ k ≤ o.length ∧ t6 = .string (aB o k) ∧ N ≤ w1.heap.size ∧ Kp w1.heap.size w1 wr
set_option maxHeartbeats 1600000 in
set_option maxRecDepth 100000 in
theorem core (d : ByteArray) (w : World) (hd : d.size ≤ 140737488351232) :
    Calls Try.prog 8 #[.string d] w fun e w' => e = .returned (.bool true) ∧ Below w.heap.size w w' := by
  by_cases hs : d.size ≤ 40000
  · have hdl : d.data.toList.length = d.size := by simp
    obtain ⟨t, hsp, hok, hlf⟩ := parse_split d.data.toList
    obtain ⟨o, r, hor⟩ : ∃ o r, parse d.data.toList = (o, r) := ⟨_, _, rfl⟩
    rw [hor] at hsp hok hlf
    dsimp only at hsp hok hlf
    have hpl := parse_fst_len d.data.toList
    rw [hor] at hpl
    dsimp only at hpl
    have hol : o.length ≤ 40000 := by omega
    have hlen : (frs o).length + t.length = d.size := by rw [← hdl, hsp, List.length_append]
    have hfo : (aB o o.length).data.toList = frs o := by unfold aB; rw [List.take_length]
    have hsz : (aB o o.length).size = (frs o).length := by rw [aB_size, List.take_length]
    have s1 : ∀ W, (Instr.slice 9 (.string d) none (some (.int .i64 ((aB o o.length).size : Int))) none).run Try.prog W = .ok (.string (aB o o.length)) W := by
      intro W
      rw [sl_to d _ (by omega) W]
      congr 2
      refine str_ext ?_
      rw [hfo, hsz]
      simp only [List.toList_toArray]
      rw [hsp, List.take_left']
      rfl
    have s2 : ∀ W, (Instr.slice 9 (.string d) (some (.int .i64 ((aB o o.length).size : Int))) none none).run Try.prog W = .ok (.string ⟨t.toArray⟩) W := by
      intro W
      rw [sl_from d _ (by omega) W, hsz, hsp, List.drop_left']
      rfl
    have HP := Lib.hid hor
    have HS := Lib.hid (And.intro s1 s2)
    have HOK := Lib.hid hok
    have HLF := Lib.hid hlf
    have hsz2 : (aB o o.length).size ≤ d.size := by omega
    have hts : (⟨t.toArray⟩ : ByteArray).size = t.length := by show t.toArray.size = _; simp
    have HTS := Lib.hid hts
    clear hor s1 s2 hok hlf hpl hfo hsp hdl hts hsz
    have hs' : (d.size : Int) ≤ 40000 := by omega
    go_enter Try.func8, Try.ntmps8
    go_wp2_with fail
    refine (awake_any _).mono ?_
    rintro e w1 ⟨rfl, hb⟩
    have HK := (Kp.refl w).go hb
    clear hb
    go_wp2_with fail
    refine (new_fresh _).mono ?_
    rintro e w2 ⟨p, rfl, bp, fp, hb⟩
    have Bp := Nat.le_trans HK.size bp
    replace HK := HK.go hb
    clear hb bp
    go_wp2_with fail
    refine (feed_st w.heap.size p (some []) d _ Bp (fp.st _) (by omega)).mono ?_
    rintro e w3 ⟨v, rfl, rv, sp, hf⟩
    rw [show errF (some []) d.data.toList = errP d.data.toList from rfl]
    rw [show outF (some []) d.data.toList = (parse d.data.toList).1 from rfl, HP.out] at rv
    rw [show nextF (some []) d.data.toList = (parse d.data.toList).2 from rfl, HP.out] at sp
    try dsimp only at rv sp
    replace sp := sp.sv
    replace HK := HK.fr hf Bp
    clear hf fp
    obtain ⟨A1, c1, rfl, m1, q1⟩ := own_reads rv
    clear rv
    go_wp2_with fail
    have hR : AhR o w3 0 (.string ⟨#[]⟩) (.int .i64 0) w3 := ⟨0, rfl, by omega, rfl, by omega, Kp.refl _⟩
    have SP := Lib.hid sp
    have HKK := Lib.hid HK
    have Q1 := Lib.hid q1
    clear sp HK q1
    go_loopw [6, 7] (fun t6 t7 wr => AhR o w3 0 t6 t7 wr) (fun _ t7 _ => o.length - (intOf t7).toNat)
    case atStart => exact hR
    case round =>
      clear hR
      obtain ⟨k, rfl, hk, rfl, _, hO⟩ := hrel
      have hsk : (aB o k).size ≤ 40000 := by have h1 := aB_size o k; have h2 := frs_take_le o k; omega
      by_cases hlt : k < o.length
      · have k0 : (0 : Int) ≤ (k : Int) := by omega
        have k1 : (k : Int) < (o.length : Int) := by omega
        obtain ⟨ad, rfl, e0⟩ := Kd.at_string (Kd.C_below Q1.out hO.below) (k : Int) k0 (by rw [txt_len]; exact k1)
        have hr0 : rdOf ByteArray.empty (txt o) (k : Int) = ⟨o[k].toArray⟩ := by
          simp only [rdOf, List.getD_eq_getElem?_getD, txt, Int.toNat_natCast, List.getElem?_map, List.getElem?_eq_getElem hlt]
          rfl
        rw [hr0, Int.toNat_natCast] at e0
        have hxk := HOK.out o[k] (List.getElem_mem hlt)
        have hsx : (⟨(fr o[k]).toArray⟩ : ByteArray).size ≤ 100000 := by
          show (fr o[k]).toArray.size ≤ _
          simp only [List.size_toArray, fr_len]
          have := hxk.2
          omega
        have HXK := Lib.hid hxk
        have HAB := Lib.hid (aB_succ o k hlt)
        clear hr0 hxk
        go_wp2_with fail
        refine (frame_ok o[k] HXK.out _).mono ?_
        rintro e w4 ⟨rfl, hb⟩
        replace hO := hO.go hb
        clear hb e0
        go_wp2_with fail
        go_roundw
        case rel => exact ⟨k + 1, by go_num, by omega, by rw [HAB.out], by omega, hO⟩
        case measure => simp [intOf]; omega
      · have hkk : ¬ (k : Int) < (o.length : Int) := by omega
        obtain rfl : k = o.length := by omega
        have sp := SP.out.go hO.below
        have HK := HKK.out.go hO.below
        have s1 := HS.out.1
        have s2 := HS.out.2
        have hz0 : ((aB o o.length).size : Int) ≤ (d.size : Int) := by omega
        clear hO SP HKK Q1
        generalize aB o o.length = AH at *
        generalize hE : errP d.data.toList = E at *
        have HE := Lib.hid hE
        clear hE
        cases r with
        | none =>
          obtain rfl : E = 5 := HE.out.symm.trans (errP_none HP.out)
          obtain ⟨x, y, z, b, t', rfl⟩ : ∃ x y z b t', t = x :: y :: z :: b :: t' := by
            have h4 := HLF.out.1
            match t, h4 with
            | x :: y :: z :: b :: t', _ => exact ⟨x, y, z, b, t', rfl⟩
            | [], h => simp at h
            | [_], h => simp at h
            | [_, _], h => simp at h
            | [_, _, _], h => simp at h
          have hmay : mayB x y z b = false := by
            have h1 := HLF.out.2
            have h2 := may_be x y z b
            cases hm : mayB x y z b with
            | false => rfl
            | true => exact absurd h1 (h2.1 hm)
          have hma := fun W => may_any ⟨(x :: y :: z :: b :: t').toArray⟩ x y z b t' rfl W
          rw [hmay] at hma
          have HM := Lib.hid hma
          clear hma
          have hrs : (4 : Int) ≤ ((⟨(x :: y :: z :: b :: t').toArray⟩ : ByteArray).size : Int) := by rw [HTS.out]; simp; omega
          generalize (⟨(x :: y :: z :: b :: t').toArray⟩ : ByteArray) = R at *
          go_wp2_with (first | (go_at_call 18; ((with_reducible refine (closed_st _ _ _ (by assumption)).mono ?_); rintro e _ ⟨rfl, rfl⟩)) | (go_at_call 17; ((with_reducible refine (waits_st _ _ _ (by assumption)).mono ?_); rintro e _ ⟨rfl, rfl⟩)) | (go_at_call 22; ((with_reducible refine (HM.out _).mono ?_); rintro e w9 ⟨rfl, n9, hw9⟩; have hb9 : Below wr.heap.size wr w9 := (by rw [hw9]; exact pw_below_drewN (Below.refl _ _) n9); have HK9 := HK.go hb9; clear hw9 hb9)))
          go_ret
          exact ⟨rfl, HK9.below⟩
        | some t2 =>
          obtain ⟨rfl, hinv⟩ := HLF.out
          obtain rfl : E = 0 := HE.out.symm.trans (errP_some HP.out)
          have hw : ∀ W, Sv W p (some t2) → Calls Try.prog 17 #[ptr p] W fun e w' => e = .returned (.int .i64 ((⟨t2.toArray⟩ : ByteArray).size : Int)) ∧ W = w' := by
            intro W h
            rw [HTS.out]
            exact waits_st p _ W h
          have HW := Lib.hid hw
          clear hw
          by_cases h4 : t2.length < 4
          · have hrs : ((⟨t2.toArray⟩ : ByteArray).size : Int) < 4 := by rw [HTS.out]; omega
            generalize (⟨t2.toArray⟩ : ByteArray) = R at *
            go_wp2_with fail
            go_quiet ((first
              | (go_at_call 17; exact quiet_left (HW.out _ (sp.go (pw_below_drewN (Below.refl _ _) _))))
              | (go_at_call 18; exact quiet_left (closed_st p _ _ (sp.go (pw_below_drewN (Below.refl _ _) _))))))
            go_wp2_with fail
            go_ret
            exact ⟨rfl, (HK.drewN _).below⟩
          · obtain ⟨x, y, z, b, t', rfl⟩ : ∃ x y z b t', t2 = x :: y :: z :: b :: t' := by
              match t2, h4 with
              | x :: y :: z :: b :: t', _ => exact ⟨x, y, z, b, t', rfl⟩
              | [], h => simp at h
              | [_], h => simp at h
              | [_, _], h => simp at h
              | [_, _, _], h => simp at h
            have hi : 5 ≤ be x y z b ∧ be x y z b ≤ 16384 ∧ (x :: y :: z :: b :: t').length < 4 + be x y z b := by
              rcases hinv with h | h
              · omega
              · exact h
            have hmay : mayB x y z b = true := (may_be x y z b).2 (by omega)
            have hma := fun W => may_any ⟨(x :: y :: z :: b :: t').toArray⟩ x y z b t' rfl W
            rw [hmay] at hma
            have HM := Lib.hid hma
            have hbe := may_two x y z b hmay
            rw [hbe] at hi
            have j2 : ∀ W, (Instr.index 9 (.string ⟨(x :: y :: z :: b :: t').toArray⟩) (.int .i64 2)).run Try.prog W = .ok (.int .u8 (z.toNat : Int)) W := idx ⟨(x :: y :: z :: b :: t').toArray⟩ 2 z rfl
            have j3 : ∀ W, (Instr.index 9 (.string ⟨(x :: y :: z :: b :: t').toArray⟩) (.int .i64 3)).run Try.prog W = .ok (.int .u8 (b.toNat : Int)) W := idx ⟨(x :: y :: z :: b :: t').toArray⟩ 3 b rfl
            have hrs : ((⟨(x :: y :: z :: b :: t').toArray⟩ : ByteArray).size : Int) < 4 + ((z.toNat : Int) * 256 + (b.toNat : Int)) ∧ (4 : Int) ≤ ((⟨(x :: y :: z :: b :: t').toArray⟩ : ByteArray).size : Int) := by rw [HTS.out]; refine ⟨by omega, by simp; omega⟩
            have hz := z.toNat_lt
            have hb := b.toNat_lt
            obtain ⟨r1, r2⟩ := hrs
            have r3 : (⟨(x :: y :: z :: b :: t').toArray⟩ : ByteArray).size ≤ 40000 := by rw [HTS.out]; omega
            clear hma hmay hbe hinv hi
            generalize (⟨(x :: y :: z :: b :: t').toArray⟩ : ByteArray) = R at *
            go_wp2_with fail
            go_quiet ((first
              | (go_at_call 17; exact quiet_left (HW.out _ (sp.go (pw_below_drewN (Below.refl _ _) _))))
              | (go_at_call 18; exact quiet_left (closed_st p _ _ (sp.go (pw_below_drewN (Below.refl _ _) _))))
              | (go_at_call 22; exact Calls.quiet_of (HM.out _))))
            go_wp2_with fail
            go_ret
            exact ⟨congrArg (fun q => Ending.returned (.bool q)) (fin_lt R.size z.toNat b.toNat hz hb r3 r1), (HK.drewN _).below⟩
  · have hs' : (40000 : Int) < (d.size : Int) := by omega
    clear hs
    go_enter Try.func8, Try.ntmps8
    go_wp2_with fail
    refine (awake_any _).mono ?_
    rintro e w3 ⟨rfl, hb⟩
    go_wp2_with fail
    go_ret
    exact ⟨rfl, hb⟩
end Go.Proofs.Ytedkfhgpahjleaa.Waits
