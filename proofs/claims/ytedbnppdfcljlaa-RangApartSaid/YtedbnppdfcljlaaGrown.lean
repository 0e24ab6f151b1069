/- What a set is behind acts. Conditions: as each contract says. -/
import Derived.Test.YtedbnppdfcljlaaLaw2
set_option linter.unusedVariables false
set_option linter.unusedSimpArgs false
namespace Go.Proofs.Ytedbnppdfcljlaa.Base
open Go Go.RowKit Go.Proofs.Ytedbnppdfcljlaa.Mem Go.Proofs.YtedbnppdfcljlaaW.PrintWords Go.Proofs.YtedbnppdfcljlaaW.PrintLast
open Go.Proofs.Ytedbnppdfcljlaa.PRangMore (S42 S51 z42 z51 k42 k51 k42_open k51_open eqA42 rd_T42 rd_T51)
/-- An act. -/
def act (L : List S42) (a : S51) : List S42 := if a.f0 % 4 == 1 then del a.f1 a.f2 a.f3 L else put E21 a.f1 a.f2 a.f3 a.f4 L
def acts (l : List S51) : List S42 := l.foldl act []
theorem act_len (L : List S42) (a : S51) : (act L a).length ≤ L.length + 1 := by
  unfold act
  have h1 := del_len a.f1 a.f2 a.f3 L
  have h2 := put_len E21 a.f1 a.f2 a.f3 a.f4 L
  split <;> omega
theorem acts_len : ∀ (l : List S51) (L : List S42), (l.foldl act L).length ≤ L.length + l.length
  | [], L => by simp
  | a :: r, L => by
    have h1 := acts_len r (act L a)
    have h2 := act_len L a
    simp only [List.foldl_cons, List.length_cons]
    omega
def GrR (w : World) (B g : Nat) (ev : Value) (l : List S51) (t5 : Value) (wr : World) : Prop :=
  ∃ (k : Nat) (v : Value), t5 = .int .i64 (k : Int) ∧ k ≤ l.length ∧ Ses B w wr g ev v E21 (acts (l.take k)) ∧ B ≤ w.heap.size
def GrownEnd (w : World) (l : List S51) (e : Ending) (w' : World) : Prop :=
  ∃ g ev v, e = .returned (ptr g) ∧ Ses w.heap.size w w' g ev v E21 (acts l) ∧ (∀ k, ev.ownBlock = some k → w.heap.size ≤ k)
theorem grown_any (A : Option Addr) (c : Nat) (l : List S51) (w : World) (h : Kd.C k51 w A l.length l) (hc : l.length ≤ c) (hu : ∀ a ∈ l, 0 ≤ a.f0 ∧ a.f0 < 256) (hl : l.length < 100000) :
    Calls Try.prog 15 #[.slice A l.length c] w (GrownEnd w l) := by
  have hr := lit_row w [2, 1] (by decide)
  have hb0 := (Below.refl w.heap.size w).alloc (Nat.le_refl _) (.cells #[.int .i64 2, .int .i64 1] 3)
  have HN := Lib.hid (ses_new (B := w.heap.size) (w0 := w) _ 2 [2, 1] hr (by decide) hb0 (Nat.le_refl _))
  have H := Lib.hid h
  have HU := Lib.hid hu
  clear hr hb0 h hu
  go_enter Try.func15, Try.ntmps15
  go_wp2_with fail
  refine HN.out.mono ?_
  rintro e w1 ⟨g, ev, rfl, hS, -, hev, -⟩
  have HEV := Lib.hid hev
  have hR : GrR w w.heap.size g ev l (.int .i64 0) w1 := ⟨0, _, rfl, Nat.zero_le _, hS, Nat.le_refl _⟩
  have HR := Lib.hid hR
  clear hS hR HN hev
  go_wp2_with fail
  go_loopw [5] (fun t5 wr => GrR w w.heap.size g ev l t5 wr) (fun t5 _ => l.length - (intOf t5).toNat)
  case atStart => exact HR.out
  case round =>
    clear HR
    obtain ⟨k, v, rfl, hk, hS, -⟩ := hrel
    by_cases hlt : k < l.length
    · have k0 : (0 : Int) ≤ (k : Int) := by omega
      have k1 : (k : Int) < (l.length : Int) := by omega
      obtain ⟨gA, o, cs, rfl, hK, -, hcell⟩ := row_at (Kd.C_below H.out hS.bel) (by decide : 0 < k51.sz) hlt
      obtain rfl := k51_open hK
      have hsz : k51.sz = 5 := rfl
      rw [hsz] at hcell
      have e0 := hcell 0 _ rfl
      rw [Nat.add_zero] at e0
      have e1 := hcell 1 _ rfl
      have e2 := hcell 2 _ rfl
      have e3 := hcell 3 _ rfl
      have e4 := hcell 4 _ rfl
      obtain ⟨u0, u1⟩ := HU.out _ (List.getElem_mem hlt)
      have hacts : acts (l.take (k + 1)) = act (acts (l.take k)) l[k] := by
        unfold acts
        rw [List.take_succ_eq_append_getElem hlt, List.foldl_append]
        rfl
      have HA := Lib.hid hacts
      have hlen : (acts (l.take k)).length < 900000 := by
        have := acts_len (l.take k) []
        simp only [List.length_nil, List.length_take] at this
        unfold acts
        omega
      clear hK hcell hacts hsz
      generalize l[k] = a at *
      have HX := Lib.hid (show act (acts (l.take k)) a = if a.f0 % 4 == 1 then del a.f1 a.f2 a.f3 (acts (l.take k)) else put E21 a.f1 a.f2 a.f3 a.f4 (acts (l.take k)) from rfl)
      generalize acts (l.take k) = L at *
      cases q : a.f0 % 4 == 1
      · rw [q] at HX
        go_wp2_with fail
        have hS2 : Ses w.heap.size w wr.drew g ev v E21 L := hS.go (pw_below_drewN (Below.refl _ _) 1)
        go_still_tail 21, (by kernel_rfl)
        change wpList _ _ _ _ _ wr.drew
        clear hS
        have e0 : wr.drew.cell? ⟨gA, o + k * 5, none⟩ = _ := e0
        have e1 : wr.drew.cell? ⟨gA, o + k * 5 + 1, none⟩ = _ := e1
        have e2 : wr.drew.cell? ⟨gA, o + k * 5 + 2, none⟩ = _ := e2
        have e3 : wr.drew.cell? ⟨gA, o + k * 5 + 3, none⟩ = _ := e3
        have e4 : wr.drew.cell? ⟨gA, o + k * 5 + 4, none⟩ = _ := e4
        generalize wr.drew = w2 at *
        have HP := Lib.hid (ses_put hS2 a.f1 a.f2 a.f3 a.f4 hlen)
        clear hlen
        go_wp2_with fail
        refine HP.out.mono ?_
        rintro e w3 ⟨v2, rfl, hS3, -, -⟩
        clear HP
        go_wp2_with fail
        refine ⟨⟨k + 1, v2, by go_num, hlt, by rw [HA.out, HX.out]; exact hS3, Nat.le_refl _⟩, ?_⟩
        simp [intOf]
        omega
      · rw [q] at HX
        go_wp2_with fail
        have hS2 : Ses w.heap.size w wr.drew g ev v E21 L := hS.go (pw_below_drewN (Below.refl _ _) 1)
        go_still_tail 16, (by kernel_rfl)
        change wpList _ _ _ _ _ wr.drew
        clear hS
        have e0 : wr.drew.cell? ⟨gA, o + k * 5, none⟩ = _ := e0
        have e1 : wr.drew.cell? ⟨gA, o + k * 5 + 1, none⟩ = _ := e1
        have e2 : wr.drew.cell? ⟨gA, o + k * 5 + 2, none⟩ = _ := e2
        have e3 : wr.drew.cell? ⟨gA, o + k * 5 + 3, none⟩ = _ := e3
        have e4 : wr.drew.cell? ⟨gA, o + k * 5 + 4, none⟩ = _ := e4
        generalize wr.drew = w2 at *
        have HP := Lib.hid (ses_del hS2 a.f1 a.f2 a.f3 hlen)
        clear hlen
        go_wp2_with fail
        refine HP.out.mono ?_
        rintro e w3 ⟨v2, rfl, hS3, -, -⟩
        clear HP
        go_wp2_with fail
        refine ⟨⟨k + 1, v2, by go_num, hlt, by rw [HA.out, HX.out]; exact hS3, Nat.le_refl _⟩, ?_⟩
        simp [intOf]
        omega
    · have hke : l.take k = l := List.take_of_length_le (by omega)
      have k1 : ¬ (k : Int) < (l.length : Int) := by omega
      rw [hke] at hS
      clear hke
      have HS := Lib.hid hS
      clear hS
      go_wp2_with fail
      go_ret
      exact ⟨g, ev, v, rfl, HS.out, fun k' e' => by have := HEV.out k' e'; simp at this; omega⟩
end Go.Proofs.Ytedbnppdfcljlaa.Base
