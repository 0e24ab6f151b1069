/- An act, on a store of the program and on one of the document: both answer alike. Conditions: as the contract says. -/
import Derived.Test.YtdobpieiobikpaaMx
import Derived.Test.YtdobpieiobikpaaRefW
import Derived.Test.YtdobpieiobikpaaRefSame
import Derived.Test.YtdobpieiobikpaaStep
set_option linter.unusedVariables false
set_option linter.unusedSimpArgs false
namespace Go.Proofs.Ytdobpieiobikpaa.Base
open Go Go.RowKit Go.Proofs.Ytdobpieiobikpaa.Mem Go.Proofs.YtdobpieiobikpaaW.PrintWords Go.Proofs.YtdobpieiobikpaaW.PrintLast
/-- What an act leaves. -/
def doesS (S : St) (x : Act) : St := if x.k ≤ 6 then stepS S x else S
theorem set_same {α : Type} {l : List α} {i : Nat} {p : α} (h : l[i]? = some p) : l.set i p = l := by
  obtain ⟨hl, e⟩ := List.getElem?_eq_some_iff.1 h
  rw [← e]
  exact List.set_getElem_self hl
/-- How 'does' ends. -/
def DoesEnd (w0 : World) (L : List (Bool × Nat × St)) (T : Nat → Prop) (i j s x : Nat) (S' : St) (e : Ending) (w' : World) : Prop := e = .returned (.bool true) ∧ Mx w0 w' ((L.set i (false, s, S')).set j (true, x, S')) T
theorem rowR_len {S : St} (h : S.ok) (id f n : Int) : (rowR S id f n).1.length ≤ 1024 := by
  unfold rowR
  cases hl : lookE S.r id with
  | none => exact Nat.zero_le _
  | some xs =>
    have := (h.rw_ _ (lookE_mem hl)).2.1
    dsimp only
    split
    · exact Nat.zero_le _
    · have h2 : xs.length ≤ 1024 := this
      show ((xs.drop f.toNat).take n.toNat).length ≤ 1024
      rw [List.length_take, List.length_drop]
      omega
/-- A row that the call made, its numbers being overwritten. -/
def OvR (N m : Nat) (v : Value) (wB : World) (t : Value) (wr : World) : Prop := ∃ (k : Nat) (cs : List Value), t = .int .i64 (k : Int) ∧ k ≤ m ∧ wr.ownsRow N 22 1 v m cs ∧ Below N wB wr
set_option maxHeartbeats 64000000 in
set_option maxRecDepth 100000 in
theorem does_any (w0 : World) (L : List (Bool × Nat × St)) (T : Nat → Prop) (i j0 s x : Nat) (S : St) (y : Act) (w : World) (h : Mx w0 w L T) (hij : i ≠ j0) (hi : L[i]? = some (false, s, S)) (hj0 : L[j0]? = some (true, x, S)) (hy : ActOk y) (hlc : S.c.length < 1000000) (hlr : S.r.length < 1000000) :
    Calls Try.prog 25 #[ptr s, ptr x, aVal y] w (DoesEnd w0 L T i j0 s x (doesS S y)) := by
  obtain ⟨⟨k0, k1⟩, hid, hn, hat, hv⟩ := hy
  have HD := Lib.hid (show doesS S y = if y.k ≤ 6 then stepS S y else S from rfl)
  have HSS := Lib.hid (show stepS S y = if y.k = 0 then (putC S y.id).2 else if y.k = 1 then (delC S y.id).2 else if y.k = 2 then (cnt S y.id y.n).2 else if y.k = 3 then (putR S y.id y.n).2 else if y.k = 4 then (delR S y.id).2 else if y.k = 5 then (save S y.id y.at_ y.v).2 else (bump S y.id y.at_ y.v).2 from rfl)
  rw [HSS.out] at HD
  clear HSS
  generalize doesS S y = S' at *
  obtain ⟨k, id, n, at_, v⟩ := y
  obtain ⟨j, hj⟩ : ∃ j : Nat, at_ = (j : Int) := ⟨at_.toNat, by have h9 : 0 ≤ at_ := hat.1; omega⟩
  have hjl : j < 18446744073709551616 := by have h9 : at_ < _ := hat.2; omega
  simp only at *
  subst hj
  have HJ := Lib.hid hjl
  have HV := Lib.hid hv
  have HLC := Lib.hid hlc
  have HLR := Lib.hid hlr
  have HI := Lib.hid hi
  have HJ0 := Lib.hid (fun p => show (L.set i p)[j0]? = some (true, x, S) by rw [List.getElem?_set_ne hij]; exact hj0)
  have hmA := h.alloc (.cells #[.int .u8 k, .int .i64 id, .int .i64 n, .int .u64 (j : Int), .int .u64 v] 42)
  have hXA := Blk.new w 42 #[.int .u8 k, .int .i64 id, .int .i64 n, .int .u64 (j : Int), .int .u64 v]
  have x0 := hXA.cell 0
  have x1 := hXA.cell 1
  have x2 := hXA.cell 2
  have x3 := hXA.cell 3
  have x4 := hXA.cell 4
  have HMA := Lib.hid hmA
  have HXA := Lib.hid hXA
  have HH := Lib.hid h
  have HMD := Lib.hid (hmA.go (below_drew1 (Below.refl _ _)))
  have HXD := Lib.hid hXA.drew
  clear hat hv hjl hlc hlr hi hmA hXA h
  have hcase : k = 0 ∨ k = 1 ∨ k = 2 ∨ k = 3 ∨ k = 4 ∨ k = 5 ∨ k = 6 ∨ 7 ≤ k := by omega
  rcases hcase with rfl | rfl | rfl | rfl | rfl | rfl | rfl | h7
  · have HSS := Lib.hid (show S' = (putC S id).2 by rw [HD.out]; rw [if_pos (by decide), if_pos rfl])
    clear HD hj0
    go_enter Try.func25, Try.ntmps25
    go_upto_region 3 with (fail)
    generalize hqq : w.heap.size = q at HMA HXA HMD HXD x0 x1 x2 x3 x4 ⊢
    generalize w.alloc (.cells #[.int .u8 0, .int .i64 id, .int .i64 n, .int .u64 (j : Int), .int .u64 v] 42) = wA at *
    refine start_ (n := 10) (S := (fun W => W.cell? ⟨q, 0, none⟩ = some (.int .u8 0) ∧ W.cell? ⟨q, 1, none⟩ = some (.int .i64 id) ∧ W.cell? ⟨q, 2, none⟩ = some (.int .i64 n) ∧ W.cell? ⟨q, 3, none⟩ = some (.int .u64 (j : Int)) ∧ W.cell? ⟨q, 4, none⟩ = some (.int .u64 v))) (ds := []) #[false, false, false, false, false, false, false, false, false, false] (by kernel_rfl) rfl rfl ⟨x0, x1, x2, x3, x4⟩ (fun hHeld => ?_)
    refine pure_ (i := 0) (N := (some 27)) (v := ?_) (a' := ?_) #[true, false, false, false, false, false, false, false, false, false] rfl rfl (by kernel_rfl) (fun _ _ _ h => h) (Or.inl ⟨by rfl, ?_⟩) ?_ ?_
    rotate_left
    · intro w'
      go_simp
      (try with_reducible rfl)
    rotate_left
    · simp only [Act.put, List.setIfInBounds_toArray, List.set_cons_zero, List.set_cons_succ, i64_w, i32_w]
      rfl
    refine pure_ (i := 1) (N := (some 28)) (v := ?_) (a' := ?_) #[true, true, false, false, false, false, false, false, false, false] rfl rfl (by kernel_rfl) (fun _ _ _ h => h) (Or.inl ⟨by rfl, ?_⟩) ?_ ?_
    rotate_left
    · intro w'
      go_simp
      (try with_reducible rfl)
    rotate_left
    · simp only [Act.put, List.setIfInBounds_toArray, List.set_cons_zero, List.set_cons_succ, i64_w, i32_w]
      rfl
    refine take_ (i := 2) (N := (some 29)) (v := ?_) (a' := ?_) #[true, true, true, false, false, false, false, false, false, false] rfl rfl (by kernel_rfl) (fun _ _ _ h => h) (Or.inl ⟨by rfl, ?_⟩) hHeld ?_ ?_
    rotate_left
    · rintro w' ⟨s0, s1, s2, s3, s4⟩
      go_simp
      (try with_reducible rfl)
    rotate_left
    · simp only [Act.put, List.setIfInBounds_toArray, List.set_cons_zero, List.set_cons_succ, i64_w, i32_w]
      rfl
    refine pure_ (i := 4) (N := (some 31)) (v := ?_) (a' := ?_) #[true, true, true, false, true, false, false, false, false, false] rfl rfl (by kernel_rfl) (fun _ _ _ h => h) (Or.inl ⟨by rfl, ?_⟩) ?_ ?_
    rotate_left
    · intro w'
      go_simp
      (try with_reducible rfl)
    rotate_left
    · simp only [Act.put, List.setIfInBounds_toArray, List.set_cons_zero, List.set_cons_succ, i64_w, i32_w]
      rfl
    refine pure_ (i := 5) (N := (some 32)) (v := ?_) (a' := ?_) #[true, true, true, false, true, true, false, false, false, false] rfl rfl (by kernel_rfl) (fun _ _ _ h => h) (Or.inl ⟨by rfl, ?_⟩) ?_ ?_
    rotate_left
    · intro w'
      go_simp
      (try with_reducible rfl)
    rotate_left
    · simp only [Act.put, List.setIfInBounds_toArray, List.set_cons_zero, List.set_cons_succ, i64_w, i32_w]
      rfl
    refine take_ (i := 6) (N := (some 33)) (v := ?_) (a' := ?_) #[true, true, true, false, true, true, true, false, false, false] rfl rfl (by kernel_rfl) (fun _ _ _ h => h) (Or.inl ⟨by rfl, ?_⟩) hHeld ?_ ?_
    rotate_left
    · rintro w' ⟨s0, s1, s2, s3, s4⟩
      go_simp
      (try with_reducible rfl)
    rotate_left
    · simp only [Act.put, List.setIfInBounds_toArray, List.set_cons_zero, List.set_cons_succ, i64_w, i32_w]
      rfl
    clear x0 x1 x2 x3 x4
    generalize wA.drew = wd at *
    refine one_ (i := 3) (N := (some 30)) #[true, true, true, true, true, true, true, false, false, false] rfl rfl (by kernel_rfl) (by decide) (fun K hK => ?_)
    obtain ⟨O, hs, hd⟩ := HMD.out.act i HI.out
    refine goes_ Try.func22 (by kernel_rfl) rfl #[ptr s, .int .i64 id] (by rfl) rfl rfl (by simp [Act.eval]) ?_
    refine (putC_any s O S id wd hs hid).mono ?_
    intro e w1 h
    obtain ⟨rfl, hM, hbk⟩ := hd (putC S id) _ _ h
    have HXw1 := Lib.hid (hbk q 42 _ (.inr rfl) HXD.out)
    have HMw1 := Lib.hid hM
    have F0 := HXw1.out.cell 0
    have F1 := HXw1.out.cell 1
    have F2 := HXw1.out.cell 2
    have F3 := HXw1.out.cell 3
    have F4 := HXw1.out.cell 4
    refine ⟨_, rfl, hK.out _ _ ⟨F0, F1, F2, F3, F4⟩ (fun hHeld => ?_)⟩
    clear hK K h hM hbk hd hs F0 F1 F2 F3 F4
    refine norm_ (a' := ?_) ?_ ?_
    rotate_left
    · show Act.put _ (some 30) _ = _
      simp only [Act.put, List.setIfInBounds_toArray, List.set_cons_zero, List.set_cons_succ, i64_w, i32_w]
      rfl
    refine one_ (i := 7) (N := (some 34)) #[true, true, true, true, true, true, true, true, false, false] rfl rfl (by kernel_rfl) (by decide) (fun K hK => ?_)
    obtain ⟨O, hs, hd⟩ := HMw1.out.act j0 (HJ0.out _)
    refine goes_ Try.func38 (by kernel_rfl) rfl #[ptr x, .int .i64 id] (by rfl) rfl rfl (by simp [Act.eval]) ?_
    refine (rputC_any x O S id w1 hs HLC.out).mono ?_
    intro e w2 h
    obtain ⟨rfl, hM, hbk⟩ := hd (putC S id) _ _ h
    have HXw2 := Lib.hid (hbk q 42 _ (.inr rfl) HXw1.out)
    have HMw2 := Lib.hid hM
    have F0 := HXw2.out.cell 0
    have F1 := HXw2.out.cell 1
    have F2 := HXw2.out.cell 2
    have F3 := HXw2.out.cell 3
    have F4 := HXw2.out.cell 4
    refine ⟨_, rfl, hK.out _ _ ⟨F0, F1, F2, F3, F4⟩ (fun hHeld => ?_)⟩
    clear hK K h hM hbk hd hs F0 F1 F2 F3 F4
    refine norm_ (a' := ?_) ?_ ?_
    rotate_left
    · show Act.put _ (some 34) _ = _
      simp only [Act.put, List.setIfInBounds_toArray, List.set_cons_zero, List.set_cons_succ, i64_w, i32_w]
      rfl
    refine pure_ (i := 8) (N := (some 35)) (v := ?_) (a' := ?_) #[true, true, true, true, true, true, true, true, true, false] rfl rfl (by kernel_rfl) (fun _ _ _ h => h) (Or.inl ⟨by rfl, ?_⟩) ?_ ?_
    rotate_left
    · intro w'
      go_simp
      (try with_reducible rfl)
    rotate_left
    · simp only [Act.put, List.setIfInBounds_toArray, List.set_cons_zero, List.set_cons_succ, i64_w, i32_w]
      rfl
    refine pure_ (i := 9) (N := (some 6)) (v := ?_) (a' := ?_) #[true, true, true, true, true, true, true, true, true, true] rfl rfl (by kernel_rfl) (fun _ _ _ h => h) (Or.inl ⟨by rfl, ?_⟩) ?_ ?_
    rotate_left
    · intro w'
      go_simp
      (try with_reducible rfl)
    rotate_left
    · simp only [Act.put, List.setIfInBounds_toArray, List.set_cons_zero, List.set_cons_succ, i64_w, i32_w]
      rfl
    refine done_ (by kernel_rfl) ?_
    clear hHeld
    go_wp2_with fail
    go_ret
    rw [HSS.out]
    exact ⟨rfl, HMw2.out.forget (fun k hk => .inl hk)⟩
  · have HSS := Lib.hid (show S' = (delC S id).2 by rw [HD.out]; rw [if_pos (by decide), if_neg (by decide), if_pos rfl])
    clear HD hj0
    go_enter Try.func25, Try.ntmps25
    go_upto_region 5 with (fail)
    generalize hqq : w.heap.size = q at HMA HXA HMD HXD x0 x1 x2 x3 x4 ⊢
    generalize w.alloc (.cells #[.int .u8 1, .int .i64 id, .int .i64 n, .int .u64 (j : Int), .int .u64 v] 42) = wA at *
    refine start_ (n := 10) (S := (fun W => W.cell? ⟨q, 0, none⟩ = some (.int .u8 1) ∧ W.cell? ⟨q, 1, none⟩ = some (.int .i64 id) ∧ W.cell? ⟨q, 2, none⟩ = some (.int .i64 n) ∧ W.cell? ⟨q, 3, none⟩ = some (.int .u64 (j : Int)) ∧ W.cell? ⟨q, 4, none⟩ = some (.int .u64 v))) (ds := []) #[false, false, false, false, false, false, false, false, false, false] (by kernel_rfl) rfl rfl ⟨x0, x1, x2, x3, x4⟩ (fun hHeld => ?_)
    refine pure_ (i := 0) (N := (some 38)) (v := ?_) (a' := ?_) #[true, false, false, false, false, false, false, false, false, false] rfl rfl (by kernel_rfl) (fun _ _ _ h => h) (Or.inl ⟨by rfl, ?_⟩) ?_ ?_
    rotate_left
    · intro w'
      go_simp
      (try with_reducible rfl)
    rotate_left
    · simp only [Act.put, List.setIfInBounds_toArray, List.set_cons_zero, List.set_cons_succ, i64_w, i32_w]
      rfl
    refine pure_ (i := 1) (N := (some 39)) (v := ?_) (a' := ?_) #[true, true, false, false, false, false, false, false, false, false] rfl rfl (by kernel_rfl) (fun _ _ _ h => h) (Or.inl ⟨by rfl, ?_⟩) ?_ ?_
    rotate_left
    · intro w'
      go_simp
      (try with_reducible rfl)
    rotate_left
    · simp only [Act.put, List.setIfInBounds_toArray, List.set_cons_zero, List.set_cons_succ, i64_w, i32_w]
      rfl
    refine take_ (i := 2) (N := (some 40)) (v := ?_) (a' := ?_) #[true, true, true, false, false, false, false, false, false, false] rfl rfl (by kernel_rfl) (fun _ _ _ h => h) (Or.inl ⟨by rfl, ?_⟩) hHeld ?_ ?_
    rotate_left
    · rintro w' ⟨s0, s1, s2, s3, s4⟩
      go_simp
      (try with_reducible rfl)
    rotate_left
    · simp only [Act.put, List.setIfInBounds_toArray, List.set_cons_zero, List.set_cons_succ, i64_w, i32_w]
      rfl
    refine pure_ (i := 4) (N := (some 42)) (v := ?_) (a' := ?_) #[true, true, true, false, true, false, false, false, false, false] rfl rfl (by kernel_rfl) (fun _ _ _ h => h) (Or.inl ⟨by rfl, ?_⟩) ?_ ?_
    rotate_left
    · intro w'
      go_simp
      (try with_reducible rfl)
    rotate_left
    · simp only [Act.put, List.setIfInBounds_toArray, List.set_cons_zero, List.set_cons_succ, i64_w, i32_w]
      rfl
    refine pure_ (i := 5) (N := (some 43)) (v := ?_) (a' := ?_) #[true, true, true, false, true, true, false, false, false, false] rfl rfl (by kernel_rfl) (fun _ _ _ h => h) (Or.inl ⟨by rfl, ?_⟩) ?_ ?_
    rotate_left
    · intro w'
      go_simp
      (try with_reducible rfl)
    rotate_left
    · simp only [Act.put, List.setIfInBounds_toArray, List.set_cons_zero, List.set_cons_succ, i64_w, i32_w]
      rfl
    refine take_ (i := 6) (N := (some 44)) (v := ?_) (a' := ?_) #[true, true, true, false, true, true, true, false, false, false] rfl rfl (by kernel_rfl) (fun _ _ _ h => h) (Or.inl ⟨by rfl, ?_⟩) hHeld ?_ ?_
    rotate_left
    · rintro w' ⟨s0, s1, s2, s3, s4⟩
      go_simp
      (try with_reducible rfl)
    rotate_left
    · simp only [Act.put, List.setIfInBounds_toArray, List.set_cons_zero, List.set_cons_succ, i64_w, i32_w]
      rfl
    clear x0 x1 x2 x3 x4
    generalize wA.drew = wd at *
    refine one_ (i := 3) (N := (some 41)) #[true, true, true, true, true, true, true, false, false, false] rfl rfl (by kernel_rfl) (by decide) (fun K hK => ?_)
    obtain ⟨O, hs, hd⟩ := HMD.out.act i HI.out
    refine goes_ Try.func28 (by kernel_rfl) rfl #[ptr s, .int .i64 id] (by rfl) rfl rfl (by simp [Act.eval]) ?_
    refine (delC_any s O S id wd hs hid).mono ?_
    intro e w1 h
    obtain ⟨rfl, hM, hbk⟩ := hd (delC S id) _ _ h
    have HXw1 := Lib.hid (hbk q 42 _ (.inr rfl) HXD.out)
    have HMw1 := Lib.hid hM
    have F0 := HXw1.out.cell 0
    have F1 := HXw1.out.cell 1
    have F2 := HXw1.out.cell 2
    have F3 := HXw1.out.cell 3
    have F4 := HXw1.out.cell 4
    refine ⟨_, rfl, hK.out _ _ ⟨F0, F1, F2, F3, F4⟩ (fun hHeld => ?_)⟩
    clear hK K h hM hbk hd hs F0 F1 F2 F3 F4
    refine norm_ (a' := ?_) ?_ ?_
    rotate_left
    · show Act.put _ (some 41) _ = _
      simp only [Act.put, List.setIfInBounds_toArray, List.set_cons_zero, List.set_cons_succ, i64_w, i32_w]
      rfl
    refine one_ (i := 7) (N := (some 45)) #[true, true, true, true, true, true, true, true, false, false] rfl rfl (by kernel_rfl) (by decide) (fun K hK => ?_)
    obtain ⟨O, hs, hd⟩ := HMw1.out.act j0 (HJ0.out _)
    refine goes_ Try.func39 (by kernel_rfl) rfl #[ptr x, .int .i64 id] (by rfl) rfl rfl (by simp [Act.eval]) ?_
    refine (rdelC_any x O S id w1 hs HLC.out).mono ?_
    intro e w2 h
    obtain ⟨rfl, hM, hbk⟩ := hd (delC S id) _ _ h
    have HXw2 := Lib.hid (hbk q 42 _ (.inr rfl) HXw1.out)
    have HMw2 := Lib.hid hM
    have F0 := HXw2.out.cell 0
    have F1 := HXw2.out.cell 1
    have F2 := HXw2.out.cell 2
    have F3 := HXw2.out.cell 3
    have F4 := HXw2.out.cell 4
    refine ⟨_, rfl, hK.out _ _ ⟨F0, F1, F2, F3, F4⟩ (fun hHeld => ?_)⟩
    clear hK K h hM hbk hd hs F0 F1 F2 F3 F4
    refine norm_ (a' := ?_) ?_ ?_
    rotate_left
    · show Act.put _ (some 45) _ = _
      simp only [Act.put, List.setIfInBounds_toArray, List.set_cons_zero, List.set_cons_succ, i64_w, i32_w]
      rfl
    refine pure_ (i := 8) (N := (some 46)) (v := ?_) (a' := ?_) #[true, true, true, true, true, true, true, true, true, false] rfl rfl (by kernel_rfl) (fun _ _ _ h => h) (Or.inl ⟨by rfl, ?_⟩) ?_ ?_
    rotate_left
    · intro w'
      go_simp
      (try with_reducible rfl)
    rotate_left
    · simp only [Act.put, List.setIfInBounds_toArray, List.set_cons_zero, List.set_cons_succ, i64_w, i32_w]
      rfl
    refine pure_ (i := 9) (N := (some 6)) (v := ?_) (a' := ?_) #[true, true, true, true, true, true, true, true, true, true] rfl rfl (by kernel_rfl) (fun _ _ _ h => h) (Or.inl ⟨by rfl, ?_⟩) ?_ ?_
    rotate_left
    · intro w'
      go_simp
      (try with_reducible rfl)
    rotate_left
    · simp only [Act.put, List.setIfInBounds_toArray, List.set_cons_zero, List.set_cons_succ, i64_w, i32_w]
      rfl
    refine done_ (by kernel_rfl) ?_
    clear hHeld
    go_wp2_with fail
    go_ret
    rw [HSS.out]
    exact ⟨rfl, HMw2.out.forget (fun k hk => .inl hk)⟩
  · have HSS := Lib.hid (show S' = (cnt S id n).2 by rw [HD.out]; rw [if_pos (by decide), if_neg (by decide), if_neg (by decide), if_pos rfl])
    clear HD hj0
    go_enter Try.func25, Try.ntmps25
    go_upto_region 7 with (fail)
    generalize hqq : w.heap.size = q at HMA HXA HMD HXD x0 x1 x2 x3 x4 ⊢
    generalize w.alloc (.cells #[.int .u8 2, .int .i64 id, .int .i64 n, .int .u64 (j : Int), .int .u64 v] 42) = wA at *
    refine start_ (n := 14) (S := (fun W => W.cell? ⟨q, 0, none⟩ = some (.int .u8 2) ∧ W.cell? ⟨q, 1, none⟩ = some (.int .i64 id) ∧ W.cell? ⟨q, 2, none⟩ = some (.int .i64 n) ∧ W.cell? ⟨q, 3, none⟩ = some (.int .u64 (j : Int)) ∧ W.cell? ⟨q, 4, none⟩ = some (.int .u64 v))) (ds := []) #[false, false, false, false, false, false, false, false, false, false, false, false, false, false] (by kernel_rfl) rfl rfl ⟨x0, x1, x2, x3, x4⟩ (fun hHeld => ?_)
    refine pure_ (i := 0) (N := (some 49)) (v := ?_) (a' := ?_) #[true, false, false, false, false, false, false, false, false, false, false, false, false, false] rfl rfl (by kernel_rfl) (fun _ _ _ h => h) (Or.inl ⟨by rfl, ?_⟩) ?_ ?_
    rotate_left
    · intro w'
      go_simp
      (try with_reducible rfl)
    rotate_left
    · simp only [Act.put, List.setIfInBounds_toArray, List.set_cons_zero, List.set_cons_succ, i64_w, i32_w]
      rfl
    refine pure_ (i := 1) (N := (some 50)) (v := ?_) (a' := ?_) #[true, true, false, false, false, false, false, false, false, false, false, false, false, false] rfl rfl (by kernel_rfl) (fun _ _ _ h => h) (Or.inl ⟨by rfl, ?_⟩) ?_ ?_
    rotate_left
    · intro w'
      go_simp
      (try with_reducible rfl)
    rotate_left
    · simp only [Act.put, List.setIfInBounds_toArray, List.set_cons_zero, List.set_cons_succ, i64_w, i32_w]
      rfl
    refine take_ (i := 2) (N := (some 51)) (v := ?_) (a' := ?_) #[true, true, true, false, false, false, false, false, false, false, false, false, false, false] rfl rfl (by kernel_rfl) (fun _ _ _ h => h) (Or.inl ⟨by rfl, ?_⟩) hHeld ?_ ?_
    rotate_left
    · rintro w' ⟨s0, s1, s2, s3, s4⟩
      go_simp
      (try with_reducible rfl)
    rotate_left
    · simp only [Act.put, List.setIfInBounds_toArray, List.set_cons_zero, List.set_cons_succ, i64_w, i32_w]
      rfl
    refine pure_ (i := 3) (N := (some 52)) (v := ?_) (a' := ?_) #[true, true, true, true, false, false, false, false, false, false, false, false, false, false] rfl rfl (by kernel_rfl) (fun _ _ _ h => h) (Or.inl ⟨by rfl, ?_⟩) ?_ ?_
    rotate_left
    · intro w'
      go_simp
      (try with_reducible rfl)
    rotate_left
    · simp only [Act.put, List.setIfInBounds_toArray, List.set_cons_zero, List.set_cons_succ, i64_w, i32_w]
      rfl
    refine take_ (i := 4) (N := (some 53)) (v := ?_) (a' := ?_) #[true, true, true, true, true, false, false, false, false, false, false, false, false, false] rfl rfl (by kernel_rfl) (fun _ _ _ h => h) (Or.inl ⟨by rfl, ?_⟩) hHeld ?_ ?_
    rotate_left
    · rintro w' ⟨s0, s1, s2, s3, s4⟩
      go_simp
      (try with_reducible rfl)
    rotate_left
    · simp only [Act.put, List.setIfInBounds_toArray, List.set_cons_zero, List.set_cons_succ, i64_w, i32_w]
      rfl
    refine pure_ (i := 6) (N := (some 55)) (v := ?_) (a' := ?_) #[true, true, true, true, true, false, true, false, false, false, false, false, false, false] rfl rfl (by kernel_rfl) (fun _ _ _ h => h) (Or.inl ⟨by rfl, ?_⟩) ?_ ?_
    rotate_left
    · intro w'
      go_simp
      (try with_reducible rfl)
    rotate_left
    · simp only [Act.put, List.setIfInBounds_toArray, List.set_cons_zero, List.set_cons_succ, i64_w, i32_w]
      rfl
    refine pure_ (i := 7) (N := (some 56)) (v := ?_) (a' := ?_) #[true, true, true, true, true, false, true, true, false, false, false, false, false, false] rfl rfl (by kernel_rfl) (fun _ _ _ h => h) (Or.inl ⟨by rfl, ?_⟩) ?_ ?_
    rotate_left
    · intro w'
      go_simp
      (try with_reducible rfl)
    rotate_left
    · simp only [Act.put, List.setIfInBounds_toArray, List.set_cons_zero, List.set_cons_succ, i64_w, i32_w]
      rfl
    refine take_ (i := 8) (N := (some 57)) (v := ?_) (a' := ?_) #[true, true, true, true, true, false, true, true, true, false, false, false, false, false] rfl rfl (by kernel_rfl) (fun _ _ _ h => h) (Or.inl ⟨by rfl, ?_⟩) hHeld ?_ ?_
    rotate_left
    · rintro w' ⟨s0, s1, s2, s3, s4⟩
      go_simp
      (try with_reducible rfl)
    rotate_left
    · simp only [Act.put, List.setIfInBounds_toArray, List.set_cons_zero, List.set_cons_succ, i64_w, i32_w]
      rfl
    refine pure_ (i := 9) (N := (some 58)) (v := ?_) (a' := ?_) #[true, true, true, true, true, false, true, true, true, true, false, false, false, false] rfl rfl (by kernel_rfl) (fun _ _ _ h => h) (Or.inl ⟨by rfl, ?_⟩) ?_ ?_
    rotate_left
    · intro w'
      go_simp
      (try with_reducible rfl)
    rotate_left
    · simp only [Act.put, List.setIfInBounds_toArray, List.set_cons_zero, List.set_cons_succ, i64_w, i32_w]
      rfl
    refine take_ (i := 10) (N := (some 59)) (v := ?_) (a' := ?_) #[true, true, true, true, true, false, true, true, true, true, true, false, false, false] rfl rfl (by kernel_rfl) (fun _ _ _ h => h) (Or.inl ⟨by rfl, ?_⟩) hHeld ?_ ?_
    rotate_left
    · rintro w' ⟨s0, s1, s2, s3, s4⟩
      go_simp
      (try with_reducible rfl)
    rotate_left
    · simp only [Act.put, List.setIfInBounds_toArray, List.set_cons_zero, List.set_cons_succ, i64_w, i32_w]
      rfl
    clear x0 x1 x2 x3 x4
    generalize wA.drew = wd at *
    refine one_ (i := 5) (N := (some 54)) #[true, true, true, true, true, true, true, true, true, true, true, false, false, false] rfl rfl (by kernel_rfl) (by decide) (fun K hK => ?_)
    obtain ⟨O, hs, hd⟩ := HMD.out.act i HI.out
    refine goes_ Try.func15 (by kernel_rfl) rfl #[ptr s, .int .i64 id, .int .i64 n] (by rfl) rfl rfl (by simp [Act.eval]) ?_
    refine (cnt_any s O S id n wd hs hid hn).mono ?_
    intro e w1 h
    obtain ⟨rfl, hM, hbk⟩ := hd (cnt S id n) _ _ h
    have HXw1 := Lib.hid (hbk q 42 _ (.inr rfl) HXD.out)
    have HMw1 := Lib.hid hM
    have F0 := HXw1.out.cell 0
    have F1 := HXw1.out.cell 1
    have F2 := HXw1.out.cell 2
    have F3 := HXw1.out.cell 3
    have F4 := HXw1.out.cell 4
    refine ⟨_, rfl, hK.out _ _ ⟨F0, F1, F2, F3, F4⟩ (fun hHeld => ?_)⟩
    clear hK K h hM hbk hd hs F0 F1 F2 F3 F4
    refine norm_ (a' := ?_) ?_ ?_
    rotate_left
    · show Act.put _ (some 54) _ = _
      simp only [Act.put, List.setIfInBounds_toArray, List.set_cons_zero, List.set_cons_succ, i64_w, i32_w]
      rfl
    refine one_ (i := 11) (N := (some 60)) #[true, true, true, true, true, true, true, true, true, true, true, true, false, false] rfl rfl (by kernel_rfl) (by decide) (fun K hK => ?_)
    obtain ⟨O, hs, hd⟩ := HMw1.out.act j0 (HJ0.out _)
    refine goes_ Try.func40 (by kernel_rfl) rfl #[ptr x, .int .i64 id, .int .i64 n] (by rfl) rfl rfl (by simp [Act.eval]) ?_
    refine (rcnt_any x O S id n w1 hs hn).mono ?_
    intro e w2 h
    obtain ⟨rfl, hM, hbk⟩ := hd (cnt S id n) _ _ h
    have HXw2 := Lib.hid (hbk q 42 _ (.inr rfl) HXw1.out)
    have HMw2 := Lib.hid hM
    have F0 := HXw2.out.cell 0
    have F1 := HXw2.out.cell 1
    have F2 := HXw2.out.cell 2
    have F3 := HXw2.out.cell 3
    have F4 := HXw2.out.cell 4
    refine ⟨_, rfl, hK.out _ _ ⟨F0, F1, F2, F3, F4⟩ (fun hHeld => ?_)⟩
    clear hK K h hM hbk hd hs F0 F1 F2 F3 F4
    refine norm_ (a' := ?_) ?_ ?_
    rotate_left
    · show Act.put _ (some 60) _ = _
      simp only [Act.put, List.setIfInBounds_toArray, List.set_cons_zero, List.set_cons_succ, i64_w, i32_w]
      rfl
    refine pure_ (i := 12) (N := (some 61)) (v := ?_) (a' := ?_) #[true, true, true, true, true, true, true, true, true, true, true, true, true, false] rfl rfl (by kernel_rfl) (fun _ _ _ h => h) (Or.inl ⟨by rfl, ?_⟩) ?_ ?_
    rotate_left
    · intro w'
      go_simp
      (try with_reducible rfl)
    rotate_left
    · simp only [Act.put, List.setIfInBounds_toArray, List.set_cons_zero, List.set_cons_succ, i64_w, i32_w]
      rfl
    refine pure_ (i := 13) (N := (some 6)) (v := ?_) (a' := ?_) #[true, true, true, true, true, true, true, true, true, true, true, true, true, true] rfl rfl (by kernel_rfl) (fun _ _ _ h => h) (Or.inl ⟨by rfl, ?_⟩) ?_ ?_
    rotate_left
    · intro w'
      go_simp
      (try with_reducible rfl)
    rotate_left
    · simp only [Act.put, List.setIfInBounds_toArray, List.set_cons_zero, List.set_cons_succ, i64_w, i32_w]
      rfl
    refine done_ (by kernel_rfl) ?_
    clear hHeld
    go_wp2_with fail
    go_ret
    rw [HSS.out]
    exact ⟨rfl, HMw2.out.forget (fun k hk => .inl hk)⟩
  · have HSS := Lib.hid (show S' = (putR S id n).2 by rw [HD.out]; rw [if_pos (by decide), if_neg (by decide), if_neg (by decide), if_neg (by decide), if_pos rfl])
    clear HD hj0
    go_enter Try.func25, Try.ntmps25
    go_upto_region 9 with (fail)
    generalize hqq : w.heap.size = q at HMA HXA HMD HXD x0 x1 x2 x3 x4 ⊢
    generalize w.alloc (.cells #[.int .u8 3, .int .i64 id, .int .i64 n, .int .u64 (j : Int), .int .u64 v] 42) = wA at *
    refine start_ (n := 16) (S := (fun W => W.cell? ⟨q, 0, none⟩ = some (.int .u8 3) ∧ W.cell? ⟨q, 1, none⟩ = some (.int .i64 id) ∧ W.cell? ⟨q, 2, none⟩ = some (.int .i64 n) ∧ W.cell? ⟨q, 3, none⟩ = some (.int .u64 (j : Int)) ∧ W.cell? ⟨q, 4, none⟩ = some (.int .u64 v))) (ds := []) #[false, false, false, false, false, false, false, false, false, false, false, false, false, false, false, false] (by kernel_rfl) rfl rfl ⟨x0, x1, x2, x3, x4⟩ (fun hHeld => ?_)
    refine pure_ (i := 0) (N := (some 64)) (v := ?_) (a' := ?_) #[true, false, false, false, false, false, false, false, false, false, false, false, false, false, false, false] rfl rfl (by kernel_rfl) (fun _ _ _ h => h) (Or.inl ⟨by rfl, ?_⟩) ?_ ?_
    rotate_left
    · intro w'
      go_simp
      (try with_reducible rfl)
    rotate_left
    · simp only [Act.put, List.setIfInBounds_toArray, List.set_cons_zero, List.set_cons_succ, i64_w, i32_w]
      rfl
    refine pure_ (i := 1) (N := (some 65)) (v := ?_) (a' := ?_) #[true, true, false, false, false, false, false, false, false, false, false, false, false, false, false, false] rfl rfl (by kernel_rfl) (fun _ _ _ h => h) (Or.inl ⟨by rfl, ?_⟩) ?_ ?_
    rotate_left
    · intro w'
      go_simp
      (try with_reducible rfl)
    rotate_left
    · simp only [Act.put, List.setIfInBounds_toArray, List.set_cons_zero, List.set_cons_succ, i64_w, i32_w]
      rfl
    refine take_ (i := 2) (N := (some 66)) (v := ?_) (a' := ?_) #[true, true, true, false, false, false, false, false, false, false, false, false, false, false, false, false] rfl rfl (by kernel_rfl) (fun _ _ _ h => h) (Or.inl ⟨by rfl, ?_⟩) hHeld ?_ ?_
    rotate_left
    · rintro w' ⟨s0, s1, s2, s3, s4⟩
      go_simp
      (try with_reducible rfl)
    rotate_left
    · simp only [Act.put, List.setIfInBounds_toArray, List.set_cons_zero, List.set_cons_succ, i64_w, i32_w]
      rfl
    refine pure_ (i := 3) (N := (some 67)) (v := ?_) (a' := ?_) #[true, true, true, true, false, false, false, false, false, false, false, false, false, false, false, false] rfl rfl (by kernel_rfl) (fun _ _ _ h => h) (Or.inl ⟨by rfl, ?_⟩) ?_ ?_
    rotate_left
    · intro w'
      go_simp
      (try with_reducible rfl)
    rotate_left
    · simp only [Act.put, List.setIfInBounds_toArray, List.set_cons_zero, List.set_cons_succ, i64_w, i32_w]
      rfl
    refine take_ (i := 4) (N := (some 68)) (v := ?_) (a' := ?_) #[true, true, true, true, true, false, false, false, false, false, false, false, false, false, false, false] rfl rfl (by kernel_rfl) (fun _ _ _ h => h) (Or.inl ⟨by rfl, ?_⟩) hHeld ?_ ?_
    rotate_left
    · rintro w' ⟨s0, s1, s2, s3, s4⟩
      go_simp
      (try with_reducible rfl)
    rotate_left
    · simp only [Act.put, List.setIfInBounds_toArray, List.set_cons_zero, List.set_cons_succ, i64_w, i32_w]
      rfl
    refine pure_ (i := 5) (N := (some 69)) (v := ?_) (a' := ?_) #[true, true, true, true, true, true, false, false, false, false, false, false, false, false, false, false] rfl rfl (by kernel_rfl) (fun _ _ _ h => h) (Or.inl ⟨by rfl, ?_⟩) ?_ ?_
    rotate_left
    · intro w'
      go_simp
      (try with_reducible rfl)
    rotate_left
    · simp only [Act.put, List.setIfInBounds_toArray, List.set_cons_zero, List.set_cons_succ, i64_w, i32_w]
      rfl
    refine pure_ (i := 7) (N := (some 71)) (v := ?_) (a' := ?_) #[true, true, true, true, true, true, false, true, false, false, false, false, false, false, false, false] rfl rfl (by kernel_rfl) (fun _ _ _ h => h) (Or.inl ⟨by rfl, ?_⟩) ?_ ?_
    rotate_left
    · intro w'
      go_simp
      (try with_reducible rfl)
    rotate_left
    · simp only [Act.put, List.setIfInBounds_toArray, List.set_cons_zero, List.set_cons_succ, i64_w, i32_w]
      rfl
    refine pure_ (i := 8) (N := (some 72)) (v := ?_) (a' := ?_) #[true, true, true, true, true, true, false, true, true, false, false, false, false, false, false, false] rfl rfl (by kernel_rfl) (fun _ _ _ h => h) (Or.inl ⟨by rfl, ?_⟩) ?_ ?_
    rotate_left
    · intro w'
      go_simp
      (try with_reducible rfl)
    rotate_left
    · simp only [Act.put, List.setIfInBounds_toArray, List.set_cons_zero, List.set_cons_succ, i64_w, i32_w]
      rfl
    refine take_ (i := 9) (N := (some 73)) (v := ?_) (a' := ?_) #[true, true, true, true, true, true, false, true, true, true, false, false, false, false, false, false] rfl rfl (by kernel_rfl) (fun _ _ _ h => h) (Or.inl ⟨by rfl, ?_⟩) hHeld ?_ ?_
    rotate_left
    · rintro w' ⟨s0, s1, s2, s3, s4⟩
      go_simp
      (try with_reducible rfl)
    rotate_left
    · simp only [Act.put, List.setIfInBounds_toArray, List.set_cons_zero, List.set_cons_succ, i64_w, i32_w]
      rfl
    refine pure_ (i := 10) (N := (some 74)) (v := ?_) (a' := ?_) #[true, true, true, true, true, true, false, true, true, true, true, false, false, false, false, false] rfl rfl (by kernel_rfl) (fun _ _ _ h => h) (Or.inl ⟨by rfl, ?_⟩) ?_ ?_
    rotate_left
    · intro w'
      go_simp
      (try with_reducible rfl)
    rotate_left
    · simp only [Act.put, List.setIfInBounds_toArray, List.set_cons_zero, List.set_cons_succ, i64_w, i32_w]
      rfl
    refine take_ (i := 11) (N := (some 75)) (v := ?_) (a' := ?_) #[true, true, true, true, true, true, false, true, true, true, true, true, false, false, false, false] rfl rfl (by kernel_rfl) (fun _ _ _ h => h) (Or.inl ⟨by rfl, ?_⟩) hHeld ?_ ?_
    rotate_left
    · rintro w' ⟨s0, s1, s2, s3, s4⟩
      go_simp
      (try with_reducible rfl)
    rotate_left
    · simp only [Act.put, List.setIfInBounds_toArray, List.set_cons_zero, List.set_cons_succ, i64_w, i32_w]
      rfl
    refine pure_ (i := 12) (N := (some 76)) (v := ?_) (a' := ?_) #[true, true, true, true, true, true, false, true, true, true, true, true, true, false, false, false] rfl rfl (by kernel_rfl) (fun _ _ _ h => h) (Or.inl ⟨by rfl, ?_⟩) ?_ ?_
    rotate_left
    · intro w'
      go_simp
      (try with_reducible rfl)
    rotate_left
    · simp only [Act.put, List.setIfInBounds_toArray, List.set_cons_zero, List.set_cons_succ, i64_w, i32_w]
      rfl
    clear x0 x1 x2 x3 x4
    generalize wA.drew = wd at *
    refine one_ (i := 6) (N := (some 70)) #[true, true, true, true, true, true, true, true, true, true, true, true, true, false, false, false] rfl rfl (by kernel_rfl) (by decide) (fun K hK => ?_)
    obtain ⟨O, hs, hd⟩ := HMD.out.act i HI.out
    refine goes_ Try.func29 (by kernel_rfl) rfl #[ptr s, .agg #[.int .i64 id, .int .i64 n]] (by rfl) rfl rfl (by simp [Act.eval]) ?_
    refine (putR_any s O S id n wd hs hid).mono ?_
    intro e w1 h
    obtain ⟨rfl, hM, hbk⟩ := hd (putR S id n) _ _ h
    have HXw1 := Lib.hid (hbk q 42 _ (.inr rfl) HXD.out)
    have HMw1 := Lib.hid hM
    have F0 := HXw1.out.cell 0
    have F1 := HXw1.out.cell 1
    have F2 := HXw1.out.cell 2
    have F3 := HXw1.out.cell 3
    have F4 := HXw1.out.cell 4
    refine ⟨_, rfl, hK.out _ _ ⟨F0, F1, F2, F3, F4⟩ (fun hHeld => ?_)⟩
    clear hK K h hM hbk hd hs F0 F1 F2 F3 F4
    refine norm_ (a' := ?_) ?_ ?_
    rotate_left
    · show Act.put _ (some 70) _ = _
      simp only [Act.put, List.setIfInBounds_toArray, List.set_cons_zero, List.set_cons_succ, i64_w, i32_w]
      rfl
    refine one_ (i := 13) (N := (some 77)) #[true, true, true, true, true, true, true, true, true, true, true, true, true, true, false, false] rfl rfl (by kernel_rfl) (by decide) (fun K hK => ?_)
    obtain ⟨O, hs, hd⟩ := HMw1.out.act j0 (HJ0.out _)
    refine goes_ Try.func41 (by kernel_rfl) rfl #[ptr x, .agg #[.int .i64 id, .int .i64 n]] (by rfl) rfl rfl (by simp [Act.eval]) ?_
    refine (rputR_any x O S id n w1 hs HLR.out).mono ?_
    intro e w2 h
    obtain ⟨rfl, hM, hbk⟩ := hd (putR S id n) _ _ h
    have HXw2 := Lib.hid (hbk q 42 _ (.inr rfl) HXw1.out)
    have HMw2 := Lib.hid hM
    have F0 := HXw2.out.cell 0
    have F1 := HXw2.out.cell 1
    have F2 := HXw2.out.cell 2
    have F3 := HXw2.out.cell 3
    have F4 := HXw2.out.cell 4
    refine ⟨_, rfl, hK.out _ _ ⟨F0, F1, F2, F3, F4⟩ (fun hHeld => ?_)⟩
    clear hK K h hM hbk hd hs F0 F1 F2 F3 F4
    refine norm_ (a' := ?_) ?_ ?_
    rotate_left
    · show Act.put _ (some 77) _ = _
      simp only [Act.put, List.setIfInBounds_toArray, List.set_cons_zero, List.set_cons_succ, i64_w, i32_w]
      rfl
    refine pure_ (i := 14) (N := (some 78)) (v := ?_) (a' := ?_) #[true, true, true, true, true, true, true, true, true, true, true, true, true, true, true, false] rfl rfl (by kernel_rfl) (fun _ _ _ h => h) (Or.inl ⟨by rfl, ?_⟩) ?_ ?_
    rotate_left
    · intro w'
      go_simp
      (try with_reducible rfl)
    rotate_left
    · simp only [Act.put, List.setIfInBounds_toArray, List.set_cons_zero, List.set_cons_succ, i64_w, i32_w]
      rfl
    refine pure_ (i := 15) (N := (some 6)) (v := ?_) (a' := ?_) #[true, true, true, true, true, true, true, true, true, true, true, true, true, true, true, true] rfl rfl (by kernel_rfl) (fun _ _ _ h => h) (Or.inl ⟨by rfl, ?_⟩) ?_ ?_
    rotate_left
    · intro w'
      go_simp
      (try with_reducible rfl)
    rotate_left
    · simp only [Act.put, List.setIfInBounds_toArray, List.set_cons_zero, List.set_cons_succ, i64_w, i32_w]
      rfl
    refine done_ (by kernel_rfl) ?_
    clear hHeld
    go_wp2_with fail
    go_ret
    rw [HSS.out]
    exact ⟨rfl, HMw2.out.forget (fun k hk => .inl hk)⟩
  · have HSS := Lib.hid (show S' = (delR S id).2 by rw [HD.out]; rw [if_pos (by decide), if_neg (by decide), if_neg (by decide), if_neg (by decide), if_neg (by decide), if_pos rfl])
    clear HD hj0
    go_enter Try.func25, Try.ntmps25
    go_upto_region 11 with (fail)
    generalize hqq : w.heap.size = q at HMA HXA HMD HXD x0 x1 x2 x3 x4 ⊢
    generalize w.alloc (.cells #[.int .u8 4, .int .i64 id, .int .i64 n, .int .u64 (j : Int), .int .u64 v] 42) = wA at *
    refine start_ (n := 10) (S := (fun W => W.cell? ⟨q, 0, none⟩ = some (.int .u8 4) ∧ W.cell? ⟨q, 1, none⟩ = some (.int .i64 id) ∧ W.cell? ⟨q, 2, none⟩ = some (.int .i64 n) ∧ W.cell? ⟨q, 3, none⟩ = some (.int .u64 (j : Int)) ∧ W.cell? ⟨q, 4, none⟩ = some (.int .u64 v))) (ds := []) #[false, false, false, false, false, false, false, false, false, false] (by kernel_rfl) rfl rfl ⟨x0, x1, x2, x3, x4⟩ (fun hHeld => ?_)
    refine pure_ (i := 0) (N := (some 81)) (v := ?_) (a' := ?_) #[true, false, false, false, false, false, false, false, false, false] rfl rfl (by kernel_rfl) (fun _ _ _ h => h) (Or.inl ⟨by rfl, ?_⟩) ?_ ?_
    rotate_left
    · intro w'
      go_simp
      (try with_reducible rfl)
    rotate_left
    · simp only [Act.put, List.setIfInBounds_toArray, List.set_cons_zero, List.set_cons_succ, i64_w, i32_w]
      rfl
    refine pure_ (i := 1) (N := (some 82)) (v := ?_) (a' := ?_) #[true, true, false, false, false, false, false, false, false, false] rfl rfl (by kernel_rfl) (fun _ _ _ h => h) (Or.inl ⟨by rfl, ?_⟩) ?_ ?_
    rotate_left
    · intro w'
      go_simp
      (try with_reducible rfl)
    rotate_left
    · simp only [Act.put, List.setIfInBounds_toArray, List.set_cons_zero, List.set_cons_succ, i64_w, i32_w]
      rfl
    refine take_ (i := 2) (N := (some 83)) (v := ?_) (a' := ?_) #[true, true, true, false, false, false, false, false, false, false] rfl rfl (by kernel_rfl) (fun _ _ _ h => h) (Or.inl ⟨by rfl, ?_⟩) hHeld ?_ ?_
    rotate_left
    · rintro w' ⟨s0, s1, s2, s3, s4⟩
      go_simp
      (try with_reducible rfl)
    rotate_left
    · simp only [Act.put, List.setIfInBounds_toArray, List.set_cons_zero, List.set_cons_succ, i64_w, i32_w]
      rfl
    refine pure_ (i := 4) (N := (some 85)) (v := ?_) (a' := ?_) #[true, true, true, false, true, false, false, false, false, false] rfl rfl (by kernel_rfl) (fun _ _ _ h => h) (Or.inl ⟨by rfl, ?_⟩) ?_ ?_
    rotate_left
    · intro w'
      go_simp
      (try with_reducible rfl)
    rotate_left
    · simp only [Act.put, List.setIfInBounds_toArray, List.set_cons_zero, List.set_cons_succ, i64_w, i32_w]
      rfl
    refine pure_ (i := 5) (N := (some 86)) (v := ?_) (a' := ?_) #[true, true, true, false, true, true, false, false, false, false] rfl rfl (by kernel_rfl) (fun _ _ _ h => h) (Or.inl ⟨by rfl, ?_⟩) ?_ ?_
    rotate_left
    · intro w'
      go_simp
      (try with_reducible rfl)
    rotate_left
    · simp only [Act.put, List.setIfInBounds_toArray, List.set_cons_zero, List.set_cons_succ, i64_w, i32_w]
      rfl
    refine take_ (i := 6) (N := (some 87)) (v := ?_) (a' := ?_) #[true, true, true, false, true, true, true, false, false, false] rfl rfl (by kernel_rfl) (fun _ _ _ h => h) (Or.inl ⟨by rfl, ?_⟩) hHeld ?_ ?_
    rotate_left
    · rintro w' ⟨s0, s1, s2, s3, s4⟩
      go_simp
      (try with_reducible rfl)
    rotate_left
    · simp only [Act.put, List.setIfInBounds_toArray, List.set_cons_zero, List.set_cons_succ, i64_w, i32_w]
      rfl
    clear x0 x1 x2 x3 x4
    generalize wA.drew = wd at *
    refine one_ (i := 3) (N := (some 84)) #[true, true, true, true, true, true, true, false, false, false] rfl rfl (by kernel_rfl) (by decide) (fun K hK => ?_)
    obtain ⟨O, hs, hd⟩ := HMD.out.act i HI.out
    refine goes_ Try.func23 (by kernel_rfl) rfl #[ptr s, .int .i64 id] (by rfl) rfl rfl (by simp [Act.eval]) ?_
    refine (delR_any s O S id wd hs hid).mono ?_
    intro e w1 h
    obtain ⟨rfl, hM, hbk⟩ := hd (delR S id) _ _ h
    have HXw1 := Lib.hid (hbk q 42 _ (.inr rfl) HXD.out)
    have HMw1 := Lib.hid hM
    have F0 := HXw1.out.cell 0
    have F1 := HXw1.out.cell 1
    have F2 := HXw1.out.cell 2
    have F3 := HXw1.out.cell 3
    have F4 := HXw1.out.cell 4
    refine ⟨_, rfl, hK.out _ _ ⟨F0, F1, F2, F3, F4⟩ (fun hHeld => ?_)⟩
    clear hK K h hM hbk hd hs F0 F1 F2 F3 F4
    refine norm_ (a' := ?_) ?_ ?_
    rotate_left
    · show Act.put _ (some 84) _ = _
      simp only [Act.put, List.setIfInBounds_toArray, List.set_cons_zero, List.set_cons_succ, i64_w, i32_w]
      rfl
    refine one_ (i := 7) (N := (some 88)) #[true, true, true, true, true, true, true, true, false, false] rfl rfl (by kernel_rfl) (by decide) (fun K hK => ?_)
    obtain ⟨O, hs, hd⟩ := HMw1.out.act j0 (HJ0.out _)
    refine goes_ Try.func42 (by kernel_rfl) rfl #[ptr x, .int .i64 id] (by rfl) rfl rfl (by simp [Act.eval]) ?_
    refine (rdelR_any x O S id w1 hs HLR.out).mono ?_
    intro e w2 h
    obtain ⟨rfl, hM, hbk⟩ := hd (delR S id) _ _ h
    have HXw2 := Lib.hid (hbk q 42 _ (.inr rfl) HXw1.out)
    have HMw2 := Lib.hid hM
    have F0 := HXw2.out.cell 0
    have F1 := HXw2.out.cell 1
    have F2 := HXw2.out.cell 2
    have F3 := HXw2.out.cell 3
    have F4 := HXw2.out.cell 4
    refine ⟨_, rfl, hK.out _ _ ⟨F0, F1, F2, F3, F4⟩ (fun hHeld => ?_)⟩
    clear hK K h hM hbk hd hs F0 F1 F2 F3 F4
    refine norm_ (a' := ?_) ?_ ?_
    rotate_left
    · show Act.put _ (some 88) _ = _
      simp only [Act.put, List.setIfInBounds_toArray, List.set_cons_zero, List.set_cons_succ, i64_w, i32_w]
      rfl
    refine pure_ (i := 8) (N := (some 89)) (v := ?_) (a' := ?_) #[true, true, true, true, true, true, true, true, true, false] rfl rfl (by kernel_rfl) (fun _ _ _ h => h) (Or.inl ⟨by rfl, ?_⟩) ?_ ?_
    rotate_left
    · intro w'
      go_simp
      (try with_reducible rfl)
    rotate_left
    · simp only [Act.put, List.setIfInBounds_toArray, List.set_cons_zero, List.set_cons_succ, i64_w, i32_w]
      rfl
    refine pure_ (i := 9) (N := (some 6)) (v := ?_) (a' := ?_) #[true, true, true, true, true, true, true, true, true, true] rfl rfl (by kernel_rfl) (fun _ _ _ h => h) (Or.inl ⟨by rfl, ?_⟩) ?_ ?_
    rotate_left
    · intro w'
      go_simp
      (try with_reducible rfl)
    rotate_left
    · simp only [Act.put, List.setIfInBounds_toArray, List.set_cons_zero, List.set_cons_succ, i64_w, i32_w]
      rfl
    refine done_ (by kernel_rfl) ?_
    clear hHeld
    go_wp2_with fail
    go_ret
    rw [HSS.out]
    exact ⟨rfl, HMw2.out.forget (fun k hk => .inl hk)⟩
  · have HSS := Lib.hid (show S' = (save S id (j : Int) v).2 by rw [HD.out]; rw [if_pos (by decide), if_neg (by decide), if_neg (by decide), if_neg (by decide), if_neg (by decide), if_neg (by decide), if_pos rfl])
    clear HD hj0
    go_enter Try.func25, Try.ntmps25
    go_upto_region 13 with (fail)
    generalize hqq : w.heap.size = q at HMA HXA HMD HXD x0 x1 x2 x3 x4 ⊢
    generalize w.alloc (.cells #[.int .u8 5, .int .i64 id, .int .i64 n, .int .u64 (j : Int), .int .u64 v] 42) = wA at *
    refine start_ (n := 18) (S := (fun W => W.cell? ⟨q, 0, none⟩ = some (.int .u8 5) ∧ W.cell? ⟨q, 1, none⟩ = some (.int .i64 id) ∧ W.cell? ⟨q, 2, none⟩ = some (.int .i64 n) ∧ W.cell? ⟨q, 3, none⟩ = some (.int .u64 (j : Int)) ∧ W.cell? ⟨q, 4, none⟩ = some (.int .u64 v))) (ds := []) #[false, false, false, false, false, false, false, false, false, false, false, false, false, false, false, false, false, false] (by kernel_rfl) rfl rfl ⟨x0, x1, x2, x3, x4⟩ (fun hHeld => ?_)
    refine pure_ (i := 0) (N := (some 92)) (v := ?_) (a' := ?_) #[true, false, false, false, false, false, false, false, false, false, false, false, false, false, false, false, false, false] rfl rfl (by kernel_rfl) (fun _ _ _ h => h) (Or.inl ⟨by rfl, ?_⟩) ?_ ?_
    rotate_left
    · intro w'
      go_simp
      (try with_reducible rfl)
    rotate_left
    · simp only [Act.put, List.setIfInBounds_toArray, List.set_cons_zero, List.set_cons_succ, i64_w, i32_w]
      rfl
    refine pure_ (i := 1) (N := (some 93)) (v := ?_) (a' := ?_) #[true, true, false, false, false, false, false, false, false, false, false, false, false, false, false, false, false, false] rfl rfl (by kernel_rfl) (fun _ _ _ h => h) (Or.inl ⟨by rfl, ?_⟩) ?_ ?_
    rotate_left
    · intro w'
      go_simp
      (try with_reducible rfl)
    rotate_left
    · simp only [Act.put, List.setIfInBounds_toArray, List.set_cons_zero, List.set_cons_succ, i64_w, i32_w]
      rfl
    refine take_ (i := 2) (N := (some 94)) (v := ?_) (a' := ?_) #[true, true, true, false, false, false, false, false, false, false, false, false, false, false, false, false, false, false] rfl rfl (by kernel_rfl) (fun _ _ _ h => h) (Or.inl ⟨by rfl, ?_⟩) hHeld ?_ ?_
    rotate_left
    · rintro w' ⟨s0, s1, s2, s3, s4⟩
      go_simp
      (try with_reducible rfl)
    rotate_left
    · simp only [Act.put, List.setIfInBounds_toArray, List.set_cons_zero, List.set_cons_succ, i64_w, i32_w]
      rfl
    refine pure_ (i := 3) (N := (some 95)) (v := ?_) (a' := ?_) #[true, true, true, true, false, false, false, false, false, false, false, false, false, false, false, false, false, false] rfl rfl (by kernel_rfl) (fun _ _ _ h => h) (Or.inl ⟨by rfl, ?_⟩) ?_ ?_
    rotate_left
    · intro w'
      go_simp
      (try with_reducible rfl)
    rotate_left
    · simp only [Act.put, List.setIfInBounds_toArray, List.set_cons_zero, List.set_cons_succ, i64_w, i32_w]
      rfl
    refine take_ (i := 4) (N := (some 96)) (v := ?_) (a' := ?_) #[true, true, true, true, true, false, false, false, false, false, false, false, false, false, false, false, false, false] rfl rfl (by kernel_rfl) (fun _ _ _ h => h) (Or.inl ⟨by rfl, ?_⟩) hHeld ?_ ?_
    rotate_left
    · rintro w' ⟨s0, s1, s2, s3, s4⟩
      go_simp
      (try with_reducible rfl)
    rotate_left
    · simp only [Act.put, List.setIfInBounds_toArray, List.set_cons_zero, List.set_cons_succ, i64_w, i32_w]
      rfl
    refine pure_ (i := 5) (N := (some 97)) (v := ?_) (a' := ?_) #[true, true, true, true, true, true, false, false, false, false, false, false, false, false, false, false, false, false] rfl rfl (by kernel_rfl) (fun _ _ _ h => h) (Or.inl ⟨by rfl, ?_⟩) ?_ ?_
    rotate_left
    · intro w'
      go_simp
      (try with_reducible rfl)
    rotate_left
    · simp only [Act.put, List.setIfInBounds_toArray, List.set_cons_zero, List.set_cons_succ, i64_w, i32_w]
      rfl
    refine take_ (i := 6) (N := (some 98)) (v := ?_) (a' := ?_) #[true, true, true, true, true, true, true, false, false, false, false, false, false, false, false, false, false, false] rfl rfl (by kernel_rfl) (fun _ _ _ h => h) (Or.inl ⟨by rfl, ?_⟩) hHeld ?_ ?_
    rotate_left
    · rintro w' ⟨s0, s1, s2, s3, s4⟩
      go_simp
      (try with_reducible rfl)
    rotate_left
    · simp only [Act.put, List.setIfInBounds_toArray, List.set_cons_zero, List.set_cons_succ, i64_w, i32_w]
      rfl
    refine pure_ (i := 8) (N := (some 100)) (v := ?_) (a' := ?_) #[true, true, true, true, true, true, true, false, true, false, false, false, false, false, false, false, false, false] rfl rfl (by kernel_rfl) (fun _ _ _ h => h) (Or.inl ⟨by rfl, ?_⟩) ?_ ?_
    rotate_left
    · intro w'
      go_simp
      (try with_reducible rfl)
    rotate_left
    · simp only [Act.put, List.setIfInBounds_toArray, List.set_cons_zero, List.set_cons_succ, i64_w, i32_w]
      rfl
    refine pure_ (i := 9) (N := (some 101)) (v := ?_) (a' := ?_) #[true, true, true, true, true, true, true, false, true, true, false, false, false, false, false, false, false, false] rfl rfl (by kernel_rfl) (fun _ _ _ h => h) (Or.inl ⟨by rfl, ?_⟩) ?_ ?_
    rotate_left
    · intro w'
      go_simp
      (try with_reducible rfl)
    rotate_left
    · simp only [Act.put, List.setIfInBounds_toArray, List.set_cons_zero, List.set_cons_succ, i64_w, i32_w]
      rfl
    refine take_ (i := 10) (N := (some 102)) (v := ?_) (a' := ?_) #[true, true, true, true, true, true, true, false, true, true, true, false, false, false, false, false, false, false] rfl rfl (by kernel_rfl) (fun _ _ _ h => h) (Or.inl ⟨by rfl, ?_⟩) hHeld ?_ ?_
    rotate_left
    · rintro w' ⟨s0, s1, s2, s3, s4⟩
      go_simp
      (try with_reducible rfl)
    rotate_left
    · simp only [Act.put, List.setIfInBounds_toArray, List.set_cons_zero, List.set_cons_succ, i64_w, i32_w]
      rfl
    refine pure_ (i := 11) (N := (some 103)) (v := ?_) (a' := ?_) #[true, true, true, true, true, true, true, false, true, true, true, true, false, false, false, false, false, false] rfl rfl (by kernel_rfl) (fun _ _ _ h => h) (Or.inl ⟨by rfl, ?_⟩) ?_ ?_
    rotate_left
    · intro w'
      go_simp
      (try with_reducible rfl)
    rotate_left
    · simp only [Act.put, List.setIfInBounds_toArray, List.set_cons_zero, List.set_cons_succ, i64_w, i32_w]
      rfl
    refine take_ (i := 12) (N := (some 104)) (v := ?_) (a' := ?_) #[true, true, true, true, true, true, true, false, true, true, true, true, true, false, false, false, false, false] rfl rfl (by kernel_rfl) (fun _ _ _ h => h) (Or.inl ⟨by rfl, ?_⟩) hHeld ?_ ?_
    rotate_left
    · rintro w' ⟨s0, s1, s2, s3, s4⟩
      go_simp
      (try with_reducible rfl)
    rotate_left
    · simp only [Act.put, List.setIfInBounds_toArray, List.set_cons_zero, List.set_cons_succ, i64_w, i32_w]
      rfl
    refine pure_ (i := 13) (N := (some 105)) (v := ?_) (a' := ?_) #[true, true, true, true, true, true, true, false, true, true, true, true, true, true, false, false, false, false] rfl rfl (by kernel_rfl) (fun _ _ _ h => h) (Or.inl ⟨by rfl, ?_⟩) ?_ ?_
    rotate_left
    · intro w'
      go_simp
      (try with_reducible rfl)
    rotate_left
    · simp only [Act.put, List.setIfInBounds_toArray, List.set_cons_zero, List.set_cons_succ, i64_w, i32_w]
      rfl
    refine take_ (i := 14) (N := (some 106)) (v := ?_) (a' := ?_) #[true, true, true, true, true, true, true, false, true, true, true, true, true, true, true, false, false, false] rfl rfl (by kernel_rfl) (fun _ _ _ h => h) (Or.inl ⟨by rfl, ?_⟩) hHeld ?_ ?_
    rotate_left
    · rintro w' ⟨s0, s1, s2, s3, s4⟩
      go_simp
      (try with_reducible rfl)
    rotate_left
    · simp only [Act.put, List.setIfInBounds_toArray, List.set_cons_zero, List.set_cons_succ, i64_w, i32_w]
      rfl
    clear x0 x1 x2 x3 x4
    generalize wA.drew = wd at *
    refine one_ (i := 7) (N := (some 99)) #[true, true, true, true, true, true, true, true, true, true, true, true, true, true, true, false, false, false] rfl rfl (by kernel_rfl) (by decide) (fun K hK => ?_)
    obtain ⟨O, hs, hd⟩ := HMD.out.act i HI.out
    refine goes_ Try.func13 (by kernel_rfl) rfl #[ptr s, .int .i64 id, .int .u64 (j : Int), .int .u64 v] (by rfl) rfl rfl (by simp [Act.eval]) ?_
    refine (save_any s O S id j v wd hs hid HJ.out HV.out).mono ?_
    intro e w1 h
    obtain ⟨rfl, hM, hbk⟩ := hd (save S id (j : Int) v) _ _ h
    have HXw1 := Lib.hid (hbk q 42 _ (.inr rfl) HXD.out)
    have HMw1 := Lib.hid hM
    have F0 := HXw1.out.cell 0
    have F1 := HXw1.out.cell 1
    have F2 := HXw1.out.cell 2
    have F3 := HXw1.out.cell 3
    have F4 := HXw1.out.cell 4
    refine ⟨_, rfl, hK.out _ _ ⟨F0, F1, F2, F3, F4⟩ (fun hHeld => ?_)⟩
    clear hK K h hM hbk hd hs F0 F1 F2 F3 F4
    refine norm_ (a' := ?_) ?_ ?_
    rotate_left
    · show Act.put _ (some 99) _ = _
      simp only [Act.put, List.setIfInBounds_toArray, List.set_cons_zero, List.set_cons_succ, i64_w, i32_w]
      rfl
    refine one_ (i := 15) (N := (some 107)) #[true, true, true, true, true, true, true, true, true, true, true, true, true, true, true, true, false, false] rfl rfl (by kernel_rfl) (by decide) (fun K hK => ?_)
    obtain ⟨O, hs, hd⟩ := HMw1.out.act j0 (HJ0.out _)
    refine goes_ Try.func43 (by kernel_rfl) rfl #[ptr x, .int .i64 id, .int .u64 (j : Int), .int .u64 v] (by rfl) rfl rfl (by simp [Act.eval]) ?_
    refine (rsave_any x O S id j v w1 hs HJ.out HV.out).mono ?_
    intro e w2 h
    obtain ⟨rfl, hM, hbk⟩ := hd (save S id (j : Int) v) _ _ h
    have HXw2 := Lib.hid (hbk q 42 _ (.inr rfl) HXw1.out)
    have HMw2 := Lib.hid hM
    have F0 := HXw2.out.cell 0
    have F1 := HXw2.out.cell 1
    have F2 := HXw2.out.cell 2
    have F3 := HXw2.out.cell 3
    have F4 := HXw2.out.cell 4
    refine ⟨_, rfl, hK.out _ _ ⟨F0, F1, F2, F3, F4⟩ (fun hHeld => ?_)⟩
    clear hK K h hM hbk hd hs F0 F1 F2 F3 F4
    refine norm_ (a' := ?_) ?_ ?_
    rotate_left
    · show Act.put _ (some 107) _ = _
      simp only [Act.put, List.setIfInBounds_toArray, List.set_cons_zero, List.set_cons_succ, i64_w, i32_w]
      rfl
    refine pure_ (i := 16) (N := (some 108)) (v := ?_) (a' := ?_) #[true, true, true, true, true, true, true, true, true, true, true, true, true, true, true, true, true, false] rfl rfl (by kernel_rfl) (fun _ _ _ h => h) (Or.inl ⟨by rfl, ?_⟩) ?_ ?_
    rotate_left
    · intro w'
      go_simp
      (try with_reducible rfl)
    rotate_left
    · simp only [Act.put, List.setIfInBounds_toArray, List.set_cons_zero, List.set_cons_succ, i64_w, i32_w]
      rfl
    refine pure_ (i := 17) (N := (some 6)) (v := ?_) (a' := ?_) #[true, true, true, true, true, true, true, true, true, true, true, true, true, true, true, true, true, true] rfl rfl (by kernel_rfl) (fun _ _ _ h => h) (Or.inl ⟨by rfl, ?_⟩) ?_ ?_
    rotate_left
    · intro w'
      go_simp
      (try with_reducible rfl)
    rotate_left
    · simp only [Act.put, List.setIfInBounds_toArray, List.set_cons_zero, List.set_cons_succ, i64_w, i32_w]
      rfl
    refine done_ (by kernel_rfl) ?_
    clear hHeld
    go_wp2_with fail
    go_ret
    rw [HSS.out]
    exact ⟨rfl, HMw2.out.forget (fun k hk => .inl hk)⟩
  · have HSS := Lib.hid (show S' = (bump S id (j : Int) v).2 by rw [HD.out]; rw [if_pos (by decide), if_neg (by decide), if_neg (by decide), if_neg (by decide), if_neg (by decide), if_neg (by decide), if_neg (by decide)])
    clear HD hj0
    go_enter Try.func25, Try.ntmps25
    go_upto_region 15 with (fail)
    generalize hqq : w.heap.size = q at HMA HXA HMD HXD x0 x1 x2 x3 x4 ⊢
    generalize w.alloc (.cells #[.int .u8 6, .int .i64 id, .int .i64 n, .int .u64 (j : Int), .int .u64 v] 42) = wA at *
    refine start_ (n := 18) (S := (fun W => W.cell? ⟨q, 0, none⟩ = some (.int .u8 6) ∧ W.cell? ⟨q, 1, none⟩ = some (.int .i64 id) ∧ W.cell? ⟨q, 2, none⟩ = some (.int .i64 n) ∧ W.cell? ⟨q, 3, none⟩ = some (.int .u64 (j : Int)) ∧ W.cell? ⟨q, 4, none⟩ = some (.int .u64 v))) (ds := []) #[false, false, false, false, false, false, false, false, false, false, false, false, false, false, false, false, false, false] (by kernel_rfl) rfl rfl ⟨x0, x1, x2, x3, x4⟩ (fun hHeld => ?_)
    refine pure_ (i := 0) (N := (some 111)) (v := ?_) (a' := ?_) #[true, false, false, false, false, false, false, false, false, false, false, false, false, false, false, false, false, false] rfl rfl (by kernel_rfl) (fun _ _ _ h => h) (Or.inl ⟨by rfl, ?_⟩) ?_ ?_
    rotate_left
    · intro w'
      go_simp
      (try with_reducible rfl)
    rotate_left
    · simp only [Act.put, List.setIfInBounds_toArray, List.set_cons_zero, List.set_cons_succ, i64_w, i32_w]
      rfl
    refine pure_ (i := 1) (N := (some 112)) (v := ?_) (a' := ?_) #[true, true, false, false, false, false, false, false, false, false, false, false, false, false, false, false, false, false] rfl rfl (by kernel_rfl) (fun _ _ _ h => h) (Or.inl ⟨by rfl, ?_⟩) ?_ ?_
    rotate_left
    · intro w'
      go_simp
      (try with_reducible rfl)
    rotate_left
    · simp only [Act.put, List.setIfInBounds_toArray, List.set_cons_zero, List.set_cons_succ, i64_w, i32_w]
      rfl
    refine take_ (i := 2) (N := (some 113)) (v := ?_) (a' := ?_) #[true, true, true, false, false, false, false, false, false, false, false, false, false, false, false, false, false, false] rfl rfl (by kernel_rfl) (fun _ _ _ h => h) (Or.inl ⟨by rfl, ?_⟩) hHeld ?_ ?_
    rotate_left
    · rintro w' ⟨s0, s1, s2, s3, s4⟩
      go_simp
      (try with_reducible rfl)
    rotate_left
    · simp only [Act.put, List.setIfInBounds_toArray, List.set_cons_zero, List.set_cons_succ, i64_w, i32_w]
      rfl
    refine pure_ (i := 3) (N := (some 114)) (v := ?_) (a' := ?_) #[true, true, true, true, false, false, false, false, false, false, false, false, false, false, false, false, false, false] rfl rfl (by kernel_rfl) (fun _ _ _ h => h) (Or.inl ⟨by rfl, ?_⟩) ?_ ?_
    rotate_left
    · intro w'
      go_simp
      (try with_reducible rfl)
    rotate_left
    · simp only [Act.put, List.setIfInBounds_toArray, List.set_cons_zero, List.set_cons_succ, i64_w, i32_w]
      rfl
    refine take_ (i := 4) (N := (some 115)) (v := ?_) (a' := ?_) #[true, true, true, true, true, false, false, false, false, false, false, false, false, false, false, false, false, false] rfl rfl (by kernel_rfl) (fun _ _ _ h => h) (Or.inl ⟨by rfl, ?_⟩) hHeld ?_ ?_
    rotate_left
    · rintro w' ⟨s0, s1, s2, s3, s4⟩
      go_simp
      (try with_reducible rfl)
    rotate_left
    · simp only [Act.put, List.setIfInBounds_toArray, List.set_cons_zero, List.set_cons_succ, i64_w, i32_w]
      rfl
    refine pure_ (i := 5) (N := (some 116)) (v := ?_) (a' := ?_) #[true, true, true, true, true, true, false, false, false, false, false, false, false, false, false, false, false, false] rfl rfl (by kernel_rfl) (fun _ _ _ h => h) (Or.inl ⟨by rfl, ?_⟩) ?_ ?_
    rotate_left
    · intro w'
      go_simp
      (try with_reducible rfl)
    rotate_left
    · simp only [Act.put, List.setIfInBounds_toArray, List.set_cons_zero, List.set_cons_succ, i64_w, i32_w]
      rfl
    refine take_ (i := 6) (N := (some 117)) (v := ?_) (a' := ?_) #[true, true, true, true, true, true, true, false, false, false, false, false, false, false, false, false, false, false] rfl rfl (by kernel_rfl) (fun _ _ _ h => h) (Or.inl ⟨by rfl, ?_⟩) hHeld ?_ ?_
    rotate_left
    · rintro w' ⟨s0, s1, s2, s3, s4⟩
      go_simp
      (try with_reducible rfl)
    rotate_left
    · simp only [Act.put, List.setIfInBounds_toArray, List.set_cons_zero, List.set_cons_succ, i64_w, i32_w]
      rfl
    refine pure_ (i := 8) (N := (some 119)) (v := ?_) (a' := ?_) #[true, true, true, true, true, true, true, false, true, false, false, false, false, false, false, false, false, false] rfl rfl (by kernel_rfl) (fun _ _ _ h => h) (Or.inl ⟨by rfl, ?_⟩) ?_ ?_
    rotate_left
    · intro w'
      go_simp
      (try with_reducible rfl)
    rotate_left
    · simp only [Act.put, List.setIfInBounds_toArray, List.set_cons_zero, List.set_cons_succ, i64_w, i32_w]
      rfl
    refine pure_ (i := 9) (N := (some 120)) (v := ?_) (a' := ?_) #[true, true, true, true, true, true, true, false, true, true, false, false, false, false, false, false, false, false] rfl rfl (by kernel_rfl) (fun _ _ _ h => h) (Or.inl ⟨by rfl, ?_⟩) ?_ ?_
    rotate_left
    · intro w'
      go_simp
      (try with_reducible rfl)
    rotate_left
    · simp only [Act.put, List.setIfInBounds_toArray, List.set_cons_zero, List.set_cons_succ, i64_w, i32_w]
      rfl
    refine take_ (i := 10) (N := (some 121)) (v := ?_) (a' := ?_) #[true, true, true, true, true, true, true, false, true, true, true, false, false, false, false, false, false, false] rfl rfl (by kernel_rfl) (fun _ _ _ h => h) (Or.inl ⟨by rfl, ?_⟩) hHeld ?_ ?_
    rotate_left
    · rintro w' ⟨s0, s1, s2, s3, s4⟩
      go_simp
      (try with_reducible rfl)
    rotate_left
    · simp only [Act.put, List.setIfInBounds_toArray, List.set_cons_zero, List.set_cons_succ, i64_w, i32_w]
      rfl
    refine pure_ (i := 11) (N := (some 122)) (v := ?_) (a' := ?_) #[true, true, true, true, true, true, true, false, true, true, true, true, false, false, false, false, false, false] rfl rfl (by kernel_rfl) (fun _ _ _ h => h) (Or.inl ⟨by rfl, ?_⟩) ?_ ?_
    rotate_left
    · intro w'
      go_simp
      (try with_reducible rfl)
    rotate_left
    · simp only [Act.put, List.setIfInBounds_toArray, List.set_cons_zero, List.set_cons_succ, i64_w, i32_w]
      rfl
    refine take_ (i := 12) (N := (some 123)) (v := ?_) (a' := ?_) #[true, true, true, true, true, true, true, false, true, true, true, true, true, false, false, false, false, false] rfl rfl (by kernel_rfl) (fun _ _ _ h => h) (Or.inl ⟨by rfl, ?_⟩) hHeld ?_ ?_
    rotate_left
    · rintro w' ⟨s0, s1, s2, s3, s4⟩
      go_simp
      (try with_reducible rfl)
    rotate_left
    · simp only [Act.put, List.setIfInBounds_toArray, List.set_cons_zero, List.set_cons_succ, i64_w, i32_w]
      rfl
    refine pure_ (i := 13) (N := (some 124)) (v := ?_) (a' := ?_) #[true, true, true, true, true, true, true, false, true, true, true, true, true, true, false, false, false, false] rfl rfl (by kernel_rfl) (fun _ _ _ h => h) (Or.inl ⟨by rfl, ?_⟩) ?_ ?_
    rotate_left
    · intro w'
      go_simp
      (try with_reducible rfl)
    rotate_left
    · simp only [Act.put, List.setIfInBounds_toArray, List.set_cons_zero, List.set_cons_succ, i64_w, i32_w]
      rfl
    refine take_ (i := 14) (N := (some 125)) (v := ?_) (a' := ?_) #[true, true, true, true, true, true, true, false, true, true, true, true, true, true, true, false, false, false] rfl rfl (by kernel_rfl) (fun _ _ _ h => h) (Or.inl ⟨by rfl, ?_⟩) hHeld ?_ ?_
    rotate_left
    · rintro w' ⟨s0, s1, s2, s3, s4⟩
      go_simp
      (try with_reducible rfl)
    rotate_left
    · simp only [Act.put, List.setIfInBounds_toArray, List.set_cons_zero, List.set_cons_succ, i64_w, i32_w]
      rfl
    clear x0 x1 x2 x3 x4
    generalize wA.drew = wd at *
    refine one_ (i := 7) (N := (some 118)) #[true, true, true, true, true, true, true, true, true, true, true, true, true, true, true, false, false, false] rfl rfl (by kernel_rfl) (by decide) (fun K hK => ?_)
    obtain ⟨O, hs, hd⟩ := HMD.out.act i HI.out
    refine goes_ Try.func14 (by kernel_rfl) rfl #[ptr s, .int .i64 id, .int .u64 (j : Int), .int .u64 v] (by rfl) rfl rfl (by simp [Act.eval]) ?_
    refine (bump_any s O S id j v wd hs hid HJ.out HV.out).mono ?_
    intro e w1 h
    obtain ⟨rfl, hM, hbk⟩ := hd (bump S id (j : Int) v) _ _ h
    have HXw1 := Lib.hid (hbk q 42 _ (.inr rfl) HXD.out)
    have HMw1 := Lib.hid hM
    have F0 := HXw1.out.cell 0
    have F1 := HXw1.out.cell 1
    have F2 := HXw1.out.cell 2
    have F3 := HXw1.out.cell 3
    have F4 := HXw1.out.cell 4
    refine ⟨_, rfl, hK.out _ _ ⟨F0, F1, F2, F3, F4⟩ (fun hHeld => ?_)⟩
    clear hK K h hM hbk hd hs F0 F1 F2 F3 F4
    refine norm_ (a' := ?_) ?_ ?_
    rotate_left
    · show Act.put _ (some 118) _ = _
      simp only [Act.put, List.setIfInBounds_toArray, List.set_cons_zero, List.set_cons_succ, i64_w, i32_w]
      rfl
    refine one_ (i := 15) (N := (some 126)) #[true, true, true, true, true, true, true, true, true, true, true, true, true, true, true, true, false, false] rfl rfl (by kernel_rfl) (by decide) (fun K hK => ?_)
    obtain ⟨O, hs, hd⟩ := HMw1.out.act j0 (HJ0.out _)
    refine goes_ Try.func44 (by kernel_rfl) rfl #[ptr x, .int .i64 id, .int .u64 (j : Int), .int .u64 v] (by rfl) rfl rfl (by simp [Act.eval]) ?_
    refine (rbump_any x O S id j v w1 hs HJ.out HV.out).mono ?_
    intro e w2 h
    obtain ⟨rfl, hM, hbk⟩ := hd (bump S id (j : Int) v) _ _ h
    have HXw2 := Lib.hid (hbk q 42 _ (.inr rfl) HXw1.out)
    have HMw2 := Lib.hid hM
    have F0 := HXw2.out.cell 0
    have F1 := HXw2.out.cell 1
    have F2 := HXw2.out.cell 2
    have F3 := HXw2.out.cell 3
    have F4 := HXw2.out.cell 4
    refine ⟨_, rfl, hK.out _ _ ⟨F0, F1, F2, F3, F4⟩ (fun hHeld => ?_)⟩
    clear hK K h hM hbk hd hs F0 F1 F2 F3 F4
    refine norm_ (a' := ?_) ?_ ?_
    rotate_left
    · show Act.put _ (some 126) _ = _
      simp only [Act.put, List.setIfInBounds_toArray, List.set_cons_zero, List.set_cons_succ, i64_w, i32_w]
      rfl
    refine pure_ (i := 16) (N := (some 127)) (v := ?_) (a' := ?_) #[true, true, true, true, true, true, true, true, true, true, true, true, true, true, true, true, true, false] rfl rfl (by kernel_rfl) (fun _ _ _ h => h) (Or.inl ⟨by rfl, ?_⟩) ?_ ?_
    rotate_left
    · intro w'
      go_simp
      (try with_reducible rfl)
    rotate_left
    · simp only [Act.put, List.setIfInBounds_toArray, List.set_cons_zero, List.set_cons_succ, i64_w, i32_w]
      rfl
    refine pure_ (i := 17) (N := (some 6)) (v := ?_) (a' := ?_) #[true, true, true, true, true, true, true, true, true, true, true, true, true, true, true, true, true, true] rfl rfl (by kernel_rfl) (fun _ _ _ h => h) (Or.inl ⟨by rfl, ?_⟩) ?_ ?_
    rotate_left
    · intro w'
      go_simp
      (try with_reducible rfl)
    rotate_left
    · simp only [Act.put, List.setIfInBounds_toArray, List.set_cons_zero, List.set_cons_succ, i64_w, i32_w]
      rfl
    refine done_ (by kernel_rfl) ?_
    clear hHeld
    go_wp2_with fail
    go_ret
    rw [HSS.out]
    exact ⟨rfl, HMw2.out.forget (fun k hk => .inl hk)⟩
  · have HSS := Lib.hid (show S' = S by rw [HD.out]; exact if_neg (by omega))
    have e0 : (k == 0) = false := beq_eq_false_iff_ne.2 (by omega)
    have e1 : (k == 1) = false := beq_eq_false_iff_ne.2 (by omega)
    have e2 : (k == 2) = false := beq_eq_false_iff_ne.2 (by omega)
    have e3 : (k == 3) = false := beq_eq_false_iff_ne.2 (by omega)
    have e4 : (k == 4) = false := beq_eq_false_iff_ne.2 (by omega)
    have e5 : (k == 5) = false := beq_eq_false_iff_ne.2 (by omega)
    have e6 : (k == 6) = false := beq_eq_false_iff_ne.2 (by omega)
    have HJX := Lib.hid hj0
    clear HD hj0 h7
    go_enter Try.func25, Try.ntmps25
    go_upto_region 16 with (fail)
    clear e0 e1 e2 e3 e4 e5 e6 HMD HXD
    obtain ⟨f, hf⟩ : ∃ f, IntKind.i64.wrap (j : Int) = f := ⟨_, rfl⟩
    have hB0 : Below w.heap.size w (w.alloc (.cells #[.int .u8 k, .int .i64 id, .int .i64 n, .int .u64 (j : Int), .int .u64 v] 42)) := (Below.refl _ _).alloc (Nat.le_refl _) _
    have HB0 := Lib.hid hB0
    clear hB0
    generalize hqq : w.heap.size = q at HMA HXA x0 x1 x2 x3 x4 ⊢
    have HQQ := Lib.hid hqq
    clear hqq
    generalize w.alloc (.cells #[.int .u8 k, .int .i64 id, .int .i64 n, .int .u64 (j : Int), .int .u64 v] 42) = wA at *
    go_wp2_with fail
    obtain ⟨O, hs⟩ := HMA.out.read i HI.out
    refine (load_any s O S id j wA hs hid HJ.out).mono ?_
    rintro e w1 ⟨rfl, hb⟩
    obtain ⟨la, lb⟩ : ∃ q, load S id (j : Int) = q := ⟨_, rfl⟩
    have HM1 := Lib.hid (HMA.out.go hb)
    have HX1 := Lib.hid (HXA.out.go hb)
    have HL := Lib.hid lb
    rw [lb]
    clear hb hs lb x0 x1 x2 x3 x4 HMA HXA
    have x0 := HX1.out.cell 0
    have x1 := HX1.out.cell 1
    have x2 := HX1.out.cell 2
    have x3 := HX1.out.cell 3
    have x4 := HX1.out.cell 4
    obtain ⟨la1, la2⟩ := la
    go_wp2_with fail
    obtain ⟨O, hs⟩ := HM1.out.read j0 HJX.out
    obtain ⟨_, vC, vR, rr, hm, _⟩ := hs
    have hg := rload_SM x vC vR S rr id j w1 hm HJ.out
    rw [HL.out] at hg
    refine hg.mono ?_
    rintro e w2 ⟨rfl, hb⟩
    have HM2 := Lib.hid (HM1.out.go hb)
    have HX2 := Lib.hid (HX1.out.go hb)
    clear hb hm hg HM1 HX1 x0 x1 x2 x3 x4
    have x0 := HX2.out.cell 0
    have x1 := HX2.out.cell 1
    have x2 := HX2.out.cell 2
    have x3 := HX2.out.cell 3
    have x4 := HX2.out.cell 4
    go_wp2_with fail
    obtain ⟨O, hs⟩ := HM2.out.read i HI.out
    refine (rowR_any s O S id f n w2 hs hid).mono ?_
    rintro e w3 ⟨u, rfl, ho, hb⟩
    obtain ⟨q3, hq3⟩ : ∃ q, rowR S id f n = q := ⟨_, rfl⟩
    have HR := Lib.hid hq3
    have hql : q3.1.length ≤ 1024 := by
      rw [← hq3]
      exact rowR_len hs.ok id f n
    rw [hq3] at ho ⊢
    obtain ⟨xs, er⟩ := q3
    have HO3 := Lib.hid ho
    obtain ⟨A3, c3, rfl, hc3, hC3⟩ := own_C (xs := xs) ho (by have h : xs.length ≤ 1024 := hql; omega)
    have HC3 := Lib.hid hC3
    have HCC3 := Lib.hid hc3
    have HQL := Lib.hid (show xs.length ≤ 1024 from hql)
    have HM3 := Lib.hid (HM2.out.go hb)
    have HX3 := Lib.hid (HX2.out.go hb)
    have HB3 := Lib.hid hb
    clear hb hs hq3 ho hC3 hc3 hql x0 x1 x2 x3 x4 HX2
    have x0 := HX3.out.cell 0
    have x1 := HX3.out.cell 1
    have x2 := HX3.out.cell 2
    have x3 := HX3.out.cell 3
    have x4 := HX3.out.cell 4
    have hf' := hf
    go_wp2_with fail
    obtain ⟨O, hs⟩ := HM3.out.read j0 HJX.out
    obtain ⟨_, vC, vR, rr, hm, _⟩ := hs
    have hg := rrow_SM x vC vR S rr id f n w3 hm
    rw [HR.out] at hg
    refine hg.mono ?_
    rintro e w4 ⟨u, rfl, ho, hb⟩
    obtain ⟨A4, c4, rfl, hc4, hC4⟩ := own_C (xs := xs) ho (by have := HQL.out; omega)
    have HC4 := Lib.hid hC4
    have HCC4 := Lib.hid hc4
    have HM4 := Lib.hid (HM3.out.go hb)
    have HX4 := Lib.hid (HX3.out.go hb)
    have HB4 := Lib.hid (below_step HB3.out hb)
    have HC34 := Lib.hid (Kd.C_below HC3.out hb)
    have HO4 := Lib.hid (own_go HO3.out hb)
    clear hb hm hg ho hC4 hc4 x0 x1 x2 x3 x4 HM3 HX3 HB3 HC3 HO3
    have x0 := HX4.out.cell 0
    have x1 := HX4.out.cell 1
    have x2 := HX4.out.cell 2
    have x3 := HX4.out.cell 3
    have x4 := HX4.out.cell 4
    go_wp2_with fail
    obtain ⟨O, hs⟩ := HM4.out.read i HI.out
    refine (getC_any s O S id w4 hs hid).mono ?_
    rintro e w5 ⟨rfl, hb⟩
    obtain ⟨q5, hq5⟩ : ∃ q, getC S id = q := ⟨_, rfl⟩
    have HG := Lib.hid hq5
    rw [hq5]
    obtain ⟨ga, gb, gc⟩ := q5
    have HM5 := Lib.hid (HM4.out.go hb)
    have HX5 := Lib.hid (HX4.out.go hb)
    have HB5 := Lib.hid (below_step HB4.out hb)
    have HC35 := Lib.hid (Kd.C_below HC34.out hb)
    have HC45 := Lib.hid (Kd.C_below HC4.out hb)
    have HO5 := Lib.hid (own_go HO4.out hb)
    clear hb hs hq5 x0 x1 x2 x3 x4 HM4 HX4 HB4 HC34 HC4 HO4
    have x0 := HX5.out.cell 0
    have x1 := HX5.out.cell 1
    have x2 := HX5.out.cell 2
    have x3 := HX5.out.cell 3
    have x4 := HX5.out.cell 4
    go_wp2_with fail
    obtain ⟨O, hs⟩ := HM5.out.read j0 HJX.out
    obtain ⟨_, vC, vR, rr, hm, _⟩ := hs
    have hg := rgetC_SM x vC vR S rr id w5 hm
    rw [HG.out] at hg
    refine hg.mono ?_
    rintro e w6 ⟨rfl, hb⟩
    have HB6 := Lib.hid (below_step HB5.out hb)
    have HC36 := Lib.hid (Kd.C_below HC35.out hb)
    have HC46 := Lib.hid (Kd.C_below HC45.out hb)
    have HO6 := Lib.hid (own_go HO5.out hb)
    clear hb hm hg x0 x1 x2 x3 x4 HM5 HX5 HB5 HC35 HC45 HO5 hf hf'
    go_wp2_with fail
    have hg := nums_any A3 c3 xs A4 c4 xs w6 HC36.out HCC3.out HC46.out HCC4.out (by have := HQL.out; omega)
    rw [beq_self_eq_true] at hg
    refine hg.mono ?_
    rintro e w7 ⟨rfl, q7, hq7⟩
    have hb7 : Below w6.heap.size w6 w7 := by rw [hq7]; exact pw_below_drewN (Below.refl _ _) _
    have HB7 := Lib.hid (below_step HB6.out hb7)
    have HO7 := Lib.hid (own_go HO6.out hb7)
    clear hg hq7 hb7 HB6 HC36 HC46 HO6
    obtain ⟨m, hm⟩ : ∃ m, xs.length = m := ⟨_, rfl⟩
    have hQL := HQL.out
    rw [hm] at HO7 hQL ⊢
    have HR0 := Lib.hid (show OvR w2.heap.size m (.slice A3 m c3) w2 (.int .i64 0) w7 from ⟨0, _, rfl, Nat.zero_le _, HO7.out, HB7.out⟩)
    clear HO7 HB7 hm
    go_wp2_with fail
    go_loopw [22] (fun t wr => OvR w2.heap.size m (.slice A3 m c3) w2 t wr) (fun t _ => m - (intOf t).toNat)
    case atStart => exact HR0.out
    case round =>
      clear HR0
      obtain ⟨z, cs, rfl, hz, hO, hB⟩ := hrel
      by_cases hlt : z < m
      · have k1 : (z : Int) < (m : Int) := by omega
        have k0 : (0 : Int) ≤ (z : Int) := by omega
        obtain ⟨g, cp, hv3, hgb, -⟩ := hO.form (by omega)
        injection hv3 with hv3 _ hv4
        subst hv3 hv4
        have y0 := hO.cellAt z (by omega)
        have hcl : z < cs.length := by have := hO.1; omega
        rw [List.getElem?_eq_getElem hcl] at y0
        have y1 := hO.frozenAt z
        obtain ⟨hO2, -⟩ := hO.stored z (.int .u64 77)
        have HO2 := Lib.hid hO2
        have HB2 := Lib.hid (hB.setCell (show w2.heap.size ≤ (⟨g, z, none⟩ : Addr).block from hgb) (.int .u64 77))
        generalize cs[z] = old at *
        clear hO hB hO2 hcl
        go_wp2_with fail
        go_roundw
        case rel => exact ⟨z + 1, _, by go_num, by omega, HO2.out, HB2.out⟩
        case measure => simp [intOf]; omega
      · obtain rfl : z = m := by omega
        have k1 : ¬ (z : Int) < (z : Int) := by omega
        have HBz := Lib.hid hB
        clear hO hB
        go_wp2_with fail
        go_ret
        rw [HSS.out]
        have e1 : (L.set i (false, s, S)) = L := set_same HI.out
        have e2 : (L.set j0 (true, x, S)) = L := set_same HJX.out
        refine ⟨rfl, ?_⟩
        rw [e1, e2]
        exact (HM2.out.go HBz.out).forget (fun k hk => .inl hk)
end Go.Proofs.Ytdobpieiobikpaa.Base
