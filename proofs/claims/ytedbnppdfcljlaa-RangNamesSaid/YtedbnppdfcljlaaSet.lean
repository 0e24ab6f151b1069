/- What a set's methods do. Conditions: as each contract says. -/
import Derived.Test.YtedbnppdfcljlaaDel
set_option linter.unusedVariables false
set_option linter.unusedSimpArgs false
namespace Go.Proofs.Ytedbnppdfcljlaa.Base
open Go Go.RowKit Go.Proofs.Ytedbnppdfcljlaa.Mem Go.Proofs.YtedbnppdfcljlaaW.PrintWords
open Go.Proofs.Ytedbnppdfcljlaa.PRangMore (S42 S51 z42 z51 k42 k51 k42_open k51_open eqA42)
theorem del_any (g : Nat) (ev v : Value) (ends : List Nat) (l : List S42) (low high : ByteArray) (prio : Int) (w : World) (h : SetAt w g ev v ends l) (hl : l.length < 1000000) :
    Calls Try.prog 16 #[ptr g, .string low, .string high, .int .i64 prio] w fun e w' => ∃ v', e = .returned (.bool (decide ((del low high prio l).length < l.length))) ∧ v'.ownBlock = v.ownBlock ∧
      SetAt w' g ev v' ends (del low high prio l) ∧ Fp (Own g v) w w' := by
  obtain ⟨A, c, rfl, hc⟩ := own_form h.rows
  have c1 := h.blk.cell 1
  have hle := del_len low high prio l
  have HB := Lib.hid h.blk
  have HE := Lib.hid h.ends
  have HR := Lib.hid h.rows
  have hne := Lib.hid (own_type h.rows h.blk (by decide))
  clear h
  go_enter Try.func16, Try.ntmps16
  go_wp2_with fail
  go_region_law (first
      | (go_simp; go_at_call 28; ((with_reducible refine (is_any low high prio _).mono ?_); rintro e w1 ⟨a, b, c', rfl, hIs, _, _, _, hb1⟩; have d0 : w1.cell? ⟨g, 1, none⟩ = some (.slice A l.length c) := (((HB.out.drew).go hb1).cell 1)))
      | (go_simp; go_at_call 27; ((with_reducible refine (delete_any _ _ _ low high prio 0 (.slice A l.length c) l _ (own_go HR.out.drew hb1) hIs hl).mono ?_); rintro e w2 ⟨v', rfl, hv', ho2, hF2⟩; obtain ⟨A2, c2, rfl, _⟩ := own_form ho2; have d1 : w2.cell? ⟨g, 1, none⟩ = some (.slice A l.length c) := (((HB.out.drew).go hb1).fp hF2 hne.out).cell 1; have d2 := (((HB.out.drew).go hb1).fp hF2 hne.out).frozen 1)))
  all_goals
    have hB3 := (((HB.out.drew).go hb1).fp hF2 hne.out).set_ 1 (.slice A2 (del low high prio l).length c2)
    have ho3 : (w2.setCell ⟨g, 1, none⟩ (.slice A2 (del low high prio l).length c2)).ownsRow 0 42 4 (.slice A2 (del low high prio l).length c2) (del low high prio l).length (cs42 (del low high prio l)) :=
      ho2.kept (row := some g) (gb_set _ (gb_below (Below.refl _ _) _)) (.inr (by rw [hv']; exact hne.out))
    have hF3 : Fp (Own g (.slice A l.length c)) w (w2.setCell ⟨g, 1, none⟩ (.slice A2 (del low high prio l).length c2)) :=
      ((((Fp.refl _ w).drew).go hb1).next hF2 (fun k e _ => .inr e)).set_ _ (fun _ => .inl rfl)
    have hS3 : SetAt (w2.setCell ⟨g, 1, none⟩ (.slice A2 (del low high prio l).length c2)) g ev (.slice A2 (del low high prio l).length c2) ends (del low high prio l) :=
      ⟨hB3, own_fp HE.out hF3 (fun k e hk => by
        rcases hk with rfl | hk
        · exact own_type HE.out HB.out (by decide) e
        · exact own_types HE.out HR.out (by decide) hk e), ho3⟩
    have c3 := hB3.cell 1
    clear hle
    generalize w2.setCell ⟨g, 1, none⟩ (.slice A2 (del low high prio l).length c2) = w3 at *
    clear ho3 hB3
    have HS := Lib.hid hS3
    have HF := Lib.hid hF3
    have HV := Lib.hid hv'
    clear hS3 hF3 hv' d0 d1 d2 hF2 ho2 hIs hb1
    go_wp2_with fail
    go_ret
    refine ⟨_, ?_, HV.out, HS.out, HF.out⟩
    first | rfl | simp
/-! ### Put -/
/-- Ends as New makes them. -/
structure EndsOk (ends : List Nat) : Prop where
  pos : 0 < ends.length
  few : ends.length < 1000
  rise : Rise 0 ends
  low : ∀ e ∈ ends, e ≤ 64
  last : ∀ e ∈ ends, e ≤ lastE ends
def putOK (ends : List Nat) (low high : ByteArray) : Bool := low.size == lastE ends && (high.size == lastE ends && btw low low high 0 ends)
def put (ends : List Nat) (low high : ByteArray) (prio v : Int) (l : List S42) : List S42 := if putOK ends low high then del low high prio l ++ [⟨low, high, prio, v⟩] else l
/-- Where a set's rows lie behind a call: as they did, or in new memory. -/
def Vok (w : World) (v v' : Value) : Prop := v'.ownBlock = v.ownBlock ∨ ∀ k, v'.ownBlock = some k → w.heap.size ≤ k
theorem SetAt.drewN {w : World} {g : Nat} {ev v : Value} {ends : List Nat} {l : List S42} (h : SetAt w g ev v ends l) (n : Nat) : SetAt (w.drewN n) g ev v ends l := h.go (pw_below_drewN (Below.refl _ _) n)
theorem drewN_drewN (w : World) (a b : Nat) : (w.drewN a).drewN b = w.drewN (a + b) := by
  induction b with
  | zero => rfl
  | succ b ih => show ((w.drewN a).drewN b).drew = _; rw [ih]; rfl
theorem ByteArray.size_int (s : ByteArray) (n : Nat) : ((s.size : Int) == (n : Int)) = (s.size == n) := by
  rw [Bool.eq_iff_iff]
  simp only [beq_iff_eq]
  omega
theorem put_bad (g : Nat) (ev v : Value) (ends : List Nat) (l : List S42) (low high : ByteArray) (prio x : Int) (w : World) (h : SetAt w g ev v ends l) (hE : EndsOk ends) (hb : putOK ends low high = false) :
    Calls Try.prog 10 #[ptr g, .string low, .string high, .int .i64 prio, .int .i64 x] w fun e w' => e = .returned (.int .i64 3) ∧ ∃ n, w' = w.drewN n := by
  have hs := Lib.hid (fun n => size_any g ev v ends l (w.drewN n) (h.drewN n) hE.pos hE.few)
  cases q1 : low.size == lastE ends
  · have q1' : ((low.size : Int) != ((lastE ends : Nat) : Int)) = true := by rw [bne, ByteArray.size_int, q1]; rfl
    clear q1 hb h hE
    go_enter Try.func10, Try.ntmps10
    go_wp2_with fail
    refine (hs.out 0).mono ?_
    rintro e w1 ⟨rfl, n1, rfl⟩
    go_wp2_with fail
    go_ret
    exact ⟨rfl, _, rfl⟩
  · have q1' : ((low.size : Int) != ((lastE ends : Nat) : Int)) = false := by rw [bne, ByteArray.size_int, q1]; rfl
    cases q2 : high.size == lastE ends
    · have q2' : ((high.size : Int) != ((lastE ends : Nat) : Int)) = true := by rw [bne, ByteArray.size_int, q2]; rfl
      clear q1 q2 hb h hE
      go_enter Try.func10, Try.ntmps10
      go_wp2_with fail
      refine (hs.out 0).mono ?_
      rintro e w1 ⟨rfl, n1, rfl⟩
      go_wp2_with fail
      refine (hs.out n1).mono ?_
      rintro e w1 ⟨rfl, n2, rfl⟩
      go_wp2_with fail
      go_ret
      exact ⟨rfl, _, rfl⟩
    · have q2' : ((high.size : Int) != ((lastE ends : Nat) : Int)) = false := by rw [bne, ByteArray.size_int, q2]; rfl
      have z1 := eq_of_beq q1
      have z2 := eq_of_beq q2
      have hb' : btw low low high 0 ends = false := by
        unfold putOK at hb
        rw [q1, q2] at hb
        simpa using hb
      have hB := Lib.hid (fun n => between_any g ev v ends l low low high (w.drewN n) (h.drewN n) hE.few hE.rise hE.low (fun e he => by rw [z1]; exact hE.last e he) (fun e he => by rw [z1]; exact hE.last e he) (fun e he => by rw [z2]; exact hE.last e he))
      rw [hb'] at hB
      clear q1 q2 hb h hE z1 z2 hb'
      go_enter Try.func10, Try.ntmps10
      go_wp2_with fail
      refine (hs.out 0).mono ?_
      rintro e w1 ⟨rfl, n1, rfl⟩
      go_wp2_with fail
      refine (hs.out n1).mono ?_
      rintro e w1 ⟨rfl, n2, rfl⟩
      go_wp2_with fail
      refine (hB.out (n1 + n2)).mono ?_
      rintro e w1 ⟨rfl, n3, rfl⟩
      go_wp2_with fail
      go_ret
      exact ⟨rfl, _, rfl⟩
theorem info42 : (Try.prog.info? 42).map (fun i => (i.zero, i.size, i.bytes)) = some (some (.agg #[.string ⟨#[]⟩, .string ⟨#[]⟩, .int .i64 0, .int .i64 0]), 4, 48) := by kernel_rfl
theorem put_good (g : Nat) (ev v : Value) (ends : List Nat) (l : List S42) (low high : ByteArray) (prio x : Int) (w : World) (h : SetAt w g ev v ends l) (hE : EndsOk ends) (hb : putOK ends low high = true) (hl : l.length < 900000) :
    Calls Try.prog 10 #[ptr g, .string low, .string high, .int .i64 prio, .int .i64 x] w fun e w' => ∃ v', e = .returned (.int .i64 0) ∧ SetAt w' g ev v' ends (del low high prio l ++ [⟨low, high, prio, x⟩]) ∧ Vok w v v' ∧ Fp (Own g v) w w' := by
  have hs := Lib.hid (fun n => size_any g ev v ends l (w.drewN n) (h.drewN n) hE.pos hE.few)
  obtain ⟨i0, hi0, hz0, hz1, hz2⟩ := info_parts info42
  unfold putOK at hb
  rw [Bool.and_eq_true, Bool.and_eq_true] at hb
  obtain ⟨q1, q2, hb'⟩ := hb
  have q1' : ((low.size : Int) != ((lastE ends : Nat) : Int)) = false := by rw [bne, ByteArray.size_int, q1]; rfl
  have q2' : ((high.size : Int) != ((lastE ends : Nat) : Int)) = false := by rw [bne, ByteArray.size_int, q2]; rfl
  have z1 := eq_of_beq q1
  have z2 := eq_of_beq q2
  have hB := Lib.hid (fun n => between_any g ev v ends l low low high (w.drewN n) (h.drewN n) hE.few hE.rise hE.low (fun e he => by rw [z1]; exact hE.last e he) (fun e he => by rw [z1]; exact hE.last e he) (fun e he => by rw [z2]; exact hE.last e he))
  rw [hb'] at hB
  have hD := Lib.hid (fun n => del_any g ev v ends l low high prio (w.drewN n) (h.drewN n) (by omega))
  have hle := del_len low high prio l
  have HW := Lib.hid h
  clear q1 q2 h hE z1 z2 hb'
  go_enter Try.func10, Try.ntmps10
  go_wp2_with fail
  refine (hs.out 0).mono ?_
  rintro e w1 ⟨rfl, n1, rfl⟩
  go_wp2_with fail
  refine (hs.out n1).mono ?_
  rintro e w1 ⟨rfl, n2, rfl⟩
  go_wp2_with fail
  refine (hB.out (n1 + n2)).mono ?_
  rintro e w1 ⟨rfl, n3, rfl⟩
  go_wp2_with fail
  refine (hD.out (n1 + n2 + n3)).mono ?_
  rintro e w1 ⟨v1, rfl, hv1, hS1, hF1⟩
  have c1 := hS1.blk.cell 1
  have hS := hS1.go ((Below.refl w1.heap.size w1).alloc (Nat.le_refl _) (.cells #[.string low, .string high, .int .i64 prio, .int .i64 x] 42))
  have hF0 : Fp (Own g v) w w1 := (((Fp.refl _ w).drewN (n1 + n2 + n3)).next hF1 (fun k e _ => e))
  obtain ⟨l1, hl1⟩ : ∃ l1, del low high prio l = l1 := ⟨_, rfl⟩
  rw [hl1] at hS hS1 hle
  have HL1 := Lib.hid hl1
  clear hl1
  have hN := Lib.hid (own_type hS.rows hS.blk (by decide))
  go_wp2_with (at_builtin; go_must (refine wpList_append_lies _ rfl _ _ _ rfl 0 42 i0 _ 4 48 Try.underlying38 hi0 hz0 hz1 hz2 rfl (by omega) v1 l1.length (cs42 l1) rfl hS.rows ⟨w1.heap.size, 0, none⟩ 1 1 [.string low, .string high, .int .i64 prio, .int .i64 x] (by rfl) (by rfl) (World.news_of_block (cs := #[.string low, .string high, .int .i64 prio, .int .i64 x]) (t := 42) (fr := (0, 0)) (heap_alloc_new w1 _)) (by simp [Value.oneCell']) (by omega) (by simp [maxLen]; omega) (by omega) (by simp) (w1.heap.size + 1) (by simp) ?_; intro g2 cap2 w2 hown2 hgrow2 hat2 hlt2; have hb2 := hS.blk.grown hgrow2 hN.out.symm; have y1 := hb2.cell 1; have y2 := hb2.frozen 1))
  go_ret
  have hb3 := hb2.set_ 1 (.slice (some ⟨g2, 0, none⟩) (l1.length + 1) cap2)
  have hng : (some g2 : Option Nat) ≠ some g := own_type hown2 hb2 (by decide)
  have ho3 : (w2.setCell ⟨g, 1, none⟩ (.slice (some ⟨g2, 0, none⟩) (l1.length + 1) cap2)).ownsRow 0 42 4 (.slice (some ⟨g2, 0, none⟩) (l1.length + 1) cap2) (l1.length + 1) (cs42 (l1 ++ [⟨low, high, prio, x⟩])) := by
    rw [cs42_app]
    exact hown2.kept (row := some g) (gb_set _ (gb_below (Below.refl _ _) _)) (.inr hng)
  have hF2 : Fp (Own g v) w w2 := (hF0.alloc _).grown hgrow2 (fun k e hk => .inr (by rw [← hv1]; exact e))
  have hF3 : Fp (Own g v) w (w2.setCell ⟨g, 1, none⟩ (.slice (some ⟨g2, 0, none⟩) (l1.length + 1) cap2)) := hF2.set_ _ (fun _ => .inl rfl)
  have hW := HW.out
  refine ⟨_, rfl, ⟨hb3, own_fp hW.ends hF3 (fun k e hk => ?_), ?_⟩, ?_, hF3⟩
  · rcases hk with rfl | hk
    · exact own_type hW.ends hW.blk (by decide) e
    · exact own_types hW.ends hW.rows (by decide) hk e
  · rw [HL1.out, List.length_append]; exact ho3
  · rcases hat2 with h | h
    · left; show some g2 = _; rw [← h]; exact hv1
    · right; intro k hk; have hk' : g2 = k := by injection hk
      have := hF0.size
      omega
end Go.Proofs.Ytedbnppdfcljlaa.Base
