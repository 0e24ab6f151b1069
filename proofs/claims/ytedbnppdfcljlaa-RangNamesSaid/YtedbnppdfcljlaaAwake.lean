/- The examples are as they are told. Conditions: none. -/
import Derived.Test.YtedbnppdfcljlaaNew
set_option linter.unusedVariables false
set_option linter.unusedSimpArgs false
namespace Go.Proofs.Ytedbnppdfcljlaa.Base
open Go Go.RowKit Go.Proofs.Ytedbnppdfcljlaa.Mem Go.Proofs.YtedbnppdfcljlaaW.PrintWords
open Go.Proofs.Ytedbnppdfcljlaa.PRangMore (S42 S51 z42 z51 k42 k51 k42_open k51_open eqA42)
/-- A set that a call made, and what became of the rest. -/
structure Ses (B : Nat) (w0 w : World) (g : Nat) (ev v : Value) (ends : List Nat) (l : List S42) : Prop where
  set : SetAt w g ev v ends l
  hg : B ≤ g
  hv : ∀ k, v.ownBlock = some k → B ≤ k
  bel : Below B w0 w
  hB : B ≤ w0.heap.size
  ok : EndsOk ends
  sized : Sized ends l
section
variable {B : Nat} {w0 w w1 : World} {g : Nat} {ev v : Value} {ends : List Nat} {l : List S42}
theorem Ses.go (h : Ses B w0 w g ev v ends l) (hb : Below w.heap.size w w1) : Ses B w0 w1 g ev v ends l :=
  ⟨h.set.go hb, h.hg, h.hv, h.bel.trans (hb.mono (Nat.le_trans h.hB h.bel.size)), h.hB, h.ok, h.sized⟩
theorem Ses.own (h : Ses B w0 w g ev v ends l) (hf : Fp (Own g v) w w1) : Below B w0 w1 :=
  h.bel.trans (hf.below (fun i e => by rcases e with rfl | e; exact h.hg; exact h.hv i e) (Nat.le_trans h.hB h.bel.size))
theorem ses_put (h : Ses B w0 w g ev v ends l) (low high : ByteArray) (prio x : Int) (hl : l.length < 900000) :
    Calls Try.prog 10 #[ptr g, .string low, .string high, .int .i64 prio, .int .i64 x] w fun e w' => ∃ v', e = .returned (.int .i64 (if putOK ends low high then 0 else 3)) ∧ Ses B w0 w' g ev v' ends (put ends low high prio x l) ∧ Vok w v v' ∧ Fp (Own g v) w w' := by
  refine (put_any g ev v ends l low high prio x w h.set h.ok hl).mono ?_
  rintro e w' ⟨v', rfl, hs, hv, hf⟩
  refine ⟨v', rfl, ⟨hs, h.hg, ?_, h.own hf, h.hB, h.ok, put_sized _ _ _ _ h.sized⟩, hv, hf⟩
  rcases hv with hv | hv
  · rw [hv]; exact h.hv
  · intro k e; have := hv k e; have := h.bel.size; have := h.hB; omega
theorem ses_yes (h : Ses B w0 w g ev v ends l) (low high : ByteArray) (prio x : Int) (hl : l.length < 900000) (hp : putOK ends low high = true) :
    Calls Try.prog 10 #[ptr g, .string low, .string high, .int .i64 prio, .int .i64 x] w fun e w' => ∃ v', e = .returned (.int .i64 0) ∧ Ses B w0 w' g ev v' ends (put ends low high prio x l) ∧ Vok w v v' ∧ Fp (Own g v) w w' := by
  have := ses_put h low high prio x hl
  rw [hp] at this
  exact this
theorem ses_no (h : Ses B w0 w g ev v ends l) (low high : ByteArray) (prio x : Int) (hl : l.length < 900000) (hp : putOK ends low high = false) :
    Calls Try.prog 10 #[ptr g, .string low, .string high, .int .i64 prio, .int .i64 x] w fun e w' => e = .returned (.int .i64 3) ∧ Ses B w0 w' g ev v ends l ∧ Below w.heap.size w w' := by
  refine (put_bad g ev v ends l low high prio x w h.set h.ok hp).mono ?_
  rintro e w' ⟨rfl, n, rfl⟩
  exact ⟨rfl, h.go (pw_below_drewN (Below.refl _ _) n), pw_below_drewN (Below.refl _ _) n⟩
theorem ses_del (h : Ses B w0 w g ev v ends l) (low high : ByteArray) (prio : Int) (hl : l.length < 900000) :
    Calls Try.prog 16 #[ptr g, .string low, .string high, .int .i64 prio] w fun e w' => ∃ v', e = .returned (.bool (decide ((del low high prio l).length < l.length))) ∧ Ses B w0 w' g ev v' ends (del low high prio l) ∧ v'.ownBlock = v.ownBlock ∧ Fp (Own g v) w w' := by
  refine (del_any g ev v ends l low high prio w h.set (by omega)).mono ?_
  rintro e w' ⟨v', rfl, hv, hs, hf⟩
  exact ⟨v', rfl, ⟨hs, h.hg, by rw [hv]; exact h.hv, h.own hf, h.hB, h.ok, del_sized _ _ _ h.sized⟩, hv, hf⟩
theorem ses_find (h : Ses B w0 w g ev v ends l) (key : ByteArray) (hl : l.length < 900000) :
    Calls Try.prog 12 #[ptr g, .string key] w fun e w' => e = .returned (.tuple #[.int .i64 (find ends l key).1, .bool (find ends l key).2]) ∧ Below w.heap.size w w' :=
  find_any g ev v ends l key w h.set h.ok h.sized (by omega)
/-- Does it find just that? -/
def finds (ends : List Nat) (l : List S42) (key : ByteArray) (want : Int) : Bool := (find ends l key).2 && (find ends l key).1 == want
theorem ses_finds (h : Ses B w0 w g ev v ends l) (key : ByteArray) (want : Int) (hl : l.length < 900000) :
    Calls Try.prog 13 #[ptr g, .string key, .int .i64 want] w fun e w' => e = .returned (.bool (finds ends l key want)) ∧ Below w.heap.size w w' := by
  have hf := Lib.hid (ses_find h key hl)
  have HF := Lib.hid (show finds ends l key want = ((find ends l key).2 && (find ends l key).1 == want) from rfl)
  generalize find ends l key = o at *
  obtain ⟨x, b⟩ := o
  simp only at HF hf
  cases b
  · go_enter Try.func13, Try.ntmps13
    go_wp2_with fail
    refine hf.out.mono ?_
    rintro e w1 ⟨rfl, hb⟩
    go_wp2_with fail
    go_ret
    exact ⟨by rw [HF.out]; rfl, hb⟩
  · go_enter Try.func13, Try.ntmps13
    go_wp2_with fail
    refine hf.out.mono ?_
    rintro e w1 ⟨rfl, hb⟩
    go_wp2_with fail
    go_ret
    exact ⟨by rw [HF.out]; rfl, hb⟩
end
theorem ses_new {B : Nat} {w0 w : World} (A : Option Addr) (c : Nat) (ws : List Int) (h : Kd.C (Kd.int .i64) w A ws.length ws) (hk : okW ws = true) (hb : Below B w0 w) (hB : B ≤ w0.heap.size) :
    Calls Try.prog 9 #[.slice A ws.length c] w fun e w' => ∃ g ev, e = .returned (.tuple #[ptr g, .int .i64 0]) ∧ Ses B w0 w' g ev (.slice none 0 0) (endsOf 0 ws) [] ∧ w.heap.size ≤ g ∧ (∀ k, ev.ownBlock = some k → w.heap.size ≤ k) ∧ Below w.heap.size w w' := by
  refine (new_any A c ws w h (by simp only [okW, Bool.and_eq_true, decide_eq_true_eq] at hk; omega)).mono ?_
  rintro e w' ⟨h1, h2⟩
  rw [hk, if_pos rfl] at h1
  obtain ⟨g, ev, rfl, hs, hg, hev⟩ := h1
  have hBw := Nat.le_trans hB hb.size
  exact ⟨g, ev, rfl, ⟨hs, Nat.le_trans hBw hg, (fun k e => by cases e), hb.trans (h2.mono hBw), hB, endsOf_ok hk, (fun x hx => by simp at hx)⟩, hg, hev, h2⟩
/-- A literal row of whole numbers. -/
theorem lit_row (w : World) (ws : List Int) (hl : ws.length < 1000000) : Kd.C (Kd.int .i64) (w.alloc (.cells (ws.map (Value.int .i64)).toArray 3)) (some ⟨w.heap.size, 0, none⟩) ws.length ws := by
  refine ⟨rfl, by omega, fun _ => ⟨_, rfl, fun j p hj => ⟨[.int .i64 p], rfl, rfl, fun i u hu => ?_⟩⟩⟩
  have hi : i = 0 := by have := (List.getElem?_eq_some_iff.1 hu).1; simp at this; omega
  subst hi
  simp at hu
  subst hu
  have hb := Blk.new w 3 (ws.map (Value.int .i64)).toArray
  have := hb.cell (j * 1 + 0)
  rw [Mem.add_at, Nat.zero_add]
  rw [show j * (Kd.int .i64).sz + 0 = j * 1 + 0 from rfl, this]
  simp [hj]
/-! ### awake -/
abbrev E12 : List Nat := endsOf 0 [1, 2]
abbrev L1 : List S42 := put E12 ⟨#[5, 0, 0]⟩ ⟨#[7, 1, 0]⟩ 1 1 []
abbrev L2 : List S42 := put E12 ⟨#[0, 0, 0]⟩ ⟨#[255, 0, 16]⟩ 1 2 L1
abbrev L3 : List S42 := put E12 ⟨#[6, 0, 5]⟩ ⟨#[6, 0, 5]⟩ 2 3 L2
abbrev L4 : List S42 := put E12 ⟨#[5, 0, 0]⟩ ⟨#[7, 1, 0]⟩ 1 1 L3
theorem k1 : putOK E12 ⟨#[5, 0, 0]⟩ ⟨#[7, 1, 0]⟩ = true := by decide +kernel
theorem k2 : putOK E12 ⟨#[0, 0, 0]⟩ ⟨#[255, 0, 16]⟩ = true := by decide +kernel
theorem k3 : putOK E12 ⟨#[6, 0, 5]⟩ ⟨#[6, 0, 5]⟩ = true := by decide +kernel
theorem k4 : putOK E12 ⟨#[5, 0, 0]⟩ ⟨#[4, 255, 255]⟩ = false := by decide +kernel
theorem k5 : find E12 L3 ⟨#[6, 2, 0]⟩ = (0, false) := by decide +kernel
theorem k6 : find E12 L3 ⟨#[6, 2]⟩ = (0, false) := by decide +kernel
theorem k7 : finds E12 L3 ⟨#[6, 0, 5]⟩ 3 = true := by decide +kernel
theorem k8 : finds E12 L3 ⟨#[5, 0, 128]⟩ 1 = true := by decide +kernel
theorem k9 : finds E12 L3 ⟨#[6, 0, 4]⟩ 1 = true := by decide +kernel
theorem k10 : finds E12 L3 ⟨#[8, 0, 8]⟩ 2 = true := by decide +kernel
theorem k11 : finds E12 L4 ⟨#[6, 0, 4]⟩ 2 = true := by decide +kernel
theorem k12 : L4.length = 3 := by decide +kernel
theorem n1 : L1.length < 900000 := by decide +kernel
theorem n2 : L2.length < 900000 := by decide +kernel
theorem n3 : L3.length < 900000 := by decide +kernel
theorem n4 : L4.length < 900000 := by decide +kernel
/-- The statements' first and last question. -/
theorem awake_any (w : World) : Calls Try.prog 8 #[] w fun e w' => e = .returned (.bool true) ∧ Below w.heap.size w w' := by
  have hr := lit_row w [1, 2] (by decide)
  have hb0 := (Below.refl w.heap.size w).alloc (Nat.le_refl _) (.cells #[.int .i64 1, .int .i64 2] 3)
  have H := Lib.hid (ses_new (B := w.heap.size) (w0 := w) _ 2 [1, 2] hr (by decide) hb0 (Nat.le_refl _))
  clear hr hb0
  go_enter Try.func8, Try.ntmps8
  go_wp2_with fail
  refine H.out.mono ?_
  rintro e w1 ⟨g, ev, rfl, hS, -, -, -⟩
  go_wp2_with fail
  refine (ses_yes hS ⟨#[5, 0, 0]⟩ ⟨#[7, 1, 0]⟩ 1 1 (by decide) k1).mono ?_
  rintro e w2 ⟨v1, rfl, hS, -, -⟩
  go_wp2_with fail
  refine (ses_yes hS ⟨#[0, 0, 0]⟩ ⟨#[255, 0, 16]⟩ 1 2 n1 k2).mono ?_
  rintro e w3 ⟨v2, rfl, hS, -, -⟩
  go_wp2_with fail
  refine (ses_yes hS ⟨#[6, 0, 5]⟩ ⟨#[6, 0, 5]⟩ 2 3 n2 k3).mono ?_
  rintro e w4 ⟨v3, rfl, hS, -, -⟩
  have F := Lib.hid (ses_find hS ⟨#[6, 2, 0]⟩ n3)
  rw [k5] at F
  go_wp2_with fail
  refine F.out.mono ?_
  rintro e w5 ⟨rfl, hb⟩
  replace hS := hS.go hb
  have F := Lib.hid (ses_find hS ⟨#[6, 2]⟩ n3)
  rw [k6] at F
  clear hb
  go_wp2_with fail
  refine F.out.mono ?_
  rintro e w6 ⟨rfl, hb⟩
  replace hS := hS.go hb
  have F := Lib.hid (ses_finds hS ⟨#[6, 0, 5]⟩ 3 n3)
  rw [k7] at F
  clear hb
  go_wp2_with fail
  refine F.out.mono ?_
  rintro e w7 ⟨rfl, hb⟩
  replace hS := hS.go hb
  have F := Lib.hid (ses_finds hS ⟨#[5, 0, 128]⟩ 1 n3)
  rw [k8] at F
  clear hb
  go_wp2_with fail
  refine F.out.mono ?_
  rintro e w8 ⟨rfl, hb⟩
  replace hS := hS.go hb
  have F := Lib.hid (ses_finds hS ⟨#[6, 0, 4]⟩ 1 n3)
  rw [k9] at F
  clear hb
  go_wp2_with fail
  refine F.out.mono ?_
  rintro e w9 ⟨rfl, hb⟩
  replace hS := hS.go hb
  have F := Lib.hid (ses_finds hS ⟨#[8, 0, 8]⟩ 2 n3)
  rw [k10] at F
  clear hb
  go_wp2_with fail
  refine F.out.mono ?_
  rintro e w10 ⟨rfl, hb⟩
  replace hS := hS.go hb
  clear hb
  go_wp2_with fail
  refine (ses_no hS ⟨#[5, 0, 0]⟩ ⟨#[4, 255, 255]⟩ 1 4 n3 k4).mono ?_
  rintro e w11 ⟨rfl, hS, -⟩
  go_wp2_with fail
  refine (ses_yes hS ⟨#[5, 0, 0]⟩ ⟨#[7, 1, 0]⟩ 1 1 n3 k1).mono ?_
  rintro e w12 ⟨v4, rfl, hS, -, -⟩
  have F := Lib.hid (ses_finds hS ⟨#[6, 0, 4]⟩ 2 n4)
  rw [k11] at F
  go_wp2_with fail
  refine F.out.mono ?_
  rintro e w13 ⟨rfl, hb⟩
  replace hS := hS.go hb
  have F := Lib.hid (len_any _ _ _ _ _ _ hS.set)
  rw [k12] at F
  clear hb
  go_wp2_with fail
  refine F.out.mono ?_
  rintro e _ ⟨rfl, rfl⟩
  go_wp2_with fail
  go_ret
  exact ⟨rfl, hS.bel⟩
end Go.Proofs.Ytedbnppdfcljlaa.Base
