/- What Find tells. Conditions: as each contract says. -/
import Derived.Test.YtedbnppdfcljlaaSet
set_option linter.unusedVariables false
set_option linter.unusedSimpArgs false
namespace Go.Proofs.Ytedbnppdfcljlaa.Base
open Go Go.RowKit Go.Proofs.Ytedbnppdfcljlaa.Mem Go.Proofs.YtedbnppdfcljlaaW.PrintWords
open Go.Proofs.Ytedbnppdfcljlaa.PRangMore (S42 S51 z42 z51 k42 k51 k42_open k51_open eqA42)
/-- Is a key within a range? -/
def win (ends : List Nat) (key : ByteArray) (x : S42) : Bool := btw x.f0 key x.f1 0 ends
/-- What Find's closure holds. -/
structure FindAt (w : World) (b2 b3 g : Nat) (key : ByteArray) : Prop where
  s : Blk w b2 23 #[ptr g]
  k : Blk w b3 9 #[.string key]
theorem FindAt.go {w w1 : World} {b2 b3 g : Nat} {key : ByteArray} (h : FindAt w b2 b3 g key) (hb : Below w.heap.size w w1) : FindAt w1 b2 b3 g key := ⟨h.s.go hb, h.k.go hb⟩
theorem FindAt.fp {S : Nat → Prop} {w w1 : World} {b2 b3 g : Nat} {key : ByteArray} (h : FindAt w b2 b3 g key) (hf : Fp S w w1) (h1 : ¬ S b2) (h2 : ¬ S b3) : FindAt w1 b2 b3 g key := ⟨h.s.fp hf h1, h.k.fp hf h2⟩
theorem find1_any (g : Nat) (ev v : Value) (ends : List Nat) (l : List S42) (x : S42) (b2 b3 : Nat) (key : ByteArray) (w : World) (h : SetAt w g ev v ends l) (hE : EndsOk ends) (hf : FindAt w b2 b3 g key)
    (hk : key.size = lastE ends) (h0 : x.f0.size = lastE ends) (h1 : x.f1.size = lastE ends) :
    Calls Try.prog 25 #[.agg (c42 x).toArray, ptr b2, ptr b3] w fun e w' => e = .returned (.bool (win ends key x)) ∧ Below w.heap.size w w' := by
  have k := (Below.refl w.heap.size w).alloc (Nat.le_refl _) (.cells (c42 x).toArray 42)
  have hf1 := hf.go k
  have e1 := hf1.s.cell 0
  have e2 := hf1.k.cell 0
  have hB := Lib.hid (between_any g ev v ends l x.f0 key x.f1 _ (h.go k) hE.few hE.rise hE.low (fun e he => by rw [h0]; exact hE.last e he) (fun e he => by rw [hk]; exact hE.last e he) (fun e he => by rw [h1]; exact hE.last e he))
  unfold c42 at k e1 e2 hB ⊢
  clear hf1 hf h hE hk h0 h1
  go_enter Try.func25, Try.ntmps25
  go_wp2_with fail
  refine hB.out.mono ?_
  rintro e w1 ⟨rfl, n, rfl⟩
  go_wp2_with fail
  go_ret
  exact ⟨rfl, pw_below_drewN k n⟩
theorem find2_any (x y : S42) (w : World) :
    Calls Try.prog 26 #[.agg (c42 x).toArray, .agg (c42 y).toArray] w fun e w' => e = .returned (.bool (decide (y.f2 < x.f2))) ∧ Below w.heap.size w w' := by
  have k := ((Below.refl w.heap.size w).alloc (Nat.le_refl _) (.cells (c42 x).toArray 42)).alloc (by simp) (.cells (c42 y).toArray 42)
  unfold c42 at k ⊢
  go_enter Try.func26, Try.ntmps26
  go_wp2_with fail
  go_ret
  exact ⟨rfl, k⟩
/-- The best one so far. -/
def best (p : S42 → Bool) : Option S42 → List S42 → Option S42
  | o, [] => o
  | none, x :: r => best p (if p x then some x else none) r
  | some y, x :: r => best p (if p x && decide (y.f2 < x.f2) then some x else some y) r
def BestR (w : World) (g bo : Nat) (ev v : Value) (ends : List Nat) (l : List S42) (b2 b3 : Nat) (key : ByteArray) (t7 t15 : Value) (wr : World) : Prop :=
  ∃ (k : Nat) (o : Option S42), t15 = .int .i64 (k : Int) ∧ t7 = .bool o.isSome ∧ k ≤ l.length ∧ best (win ends key) o (l.drop k) = best (win ends key) none l ∧ Blk wr bo 42 (c42 (o.getD z42)).toArray ∧
    SetAt wr g ev v ends l ∧ FindAt wr b2 b3 g key ∧ Below w.heap.size w wr
theorem blk42_set {w : World} {b : Nat} {x y : S42} (h : Blk w b 42 (c42 x).toArray) :
    Blk ((((w.setCell ⟨b, 0, none⟩ (.string y.f0)).setCell ⟨b, 1, none⟩ (.string y.f1)).setCell ⟨b, 2, none⟩ (.int .i64 y.f2)).setCell ⟨b, 3, none⟩ (.int .i64 y.f3)) b 42 (c42 y).toArray := by
  have := (((h.set_ 0 (.string y.f0)).set_ 1 (.string y.f1)).set_ 2 (.int .i64 y.f2)).set_ 3 (.int .i64 y.f3)
  simpa [c42] using this
theorem best_any (g : Nat) (ev v : Value) (ends : List Nat) (l : List S42) (b2 b3 : Nat) (key : ByteArray) (w : World) (h : SetAt w g ev v ends l) (hE : EndsOk ends) (hf : FindAt w b2 b3 g key)
    (hk : key.size = lastE ends) (hx : ∀ x ∈ l, x.f0.size = lastE ends ∧ x.f1.size = lastE ends) (hl : l.length < 1000000) :
    Calls Try.prog 24 #[ptr g, .func (.func 25) #[] #[ptr b2, ptr b3], .func (.func 26) #[] #[]] w fun e w' =>
      e = .returned (.tuple #[.agg (c42 ((best (win ends key) none l).getD z42)).toArray, .bool (best (win ends key) none l).isSome]) ∧ Below w.heap.size w w' := by
  have h1 := h.go ((Below.refl w.heap.size w).alloc (Nat.le_refl _) (.cells (c42 z42).toArray 42))
  obtain ⟨A, c, rfl, hc⟩ := own_form h.rows
  have e1 := h1.blk.cell 1
  have hR : BestR w g w.heap.size ev (.slice A l.length c) ends l b2 b3 key (.bool false) (.int .i64 0) (w.alloc (.cells (c42 z42).toArray 42)) :=
    ⟨0, none, rfl, rfl, Nat.zero_le _, rfl, Blk.new w 42 (c42 z42).toArray, h1, hf.go ((Below.refl w.heap.size w).alloc (Nat.le_refl _) _), (Below.refl w.heap.size w).alloc (Nat.le_refl _) _⟩
  have HX := Lib.hid hx
  have hKeep : ∀ wa wb, SetAt wa g ev (.slice A l.length c) ends l → FindAt wa b2 b3 g key → Fp (fun k => k = w.heap.size) wa wb → SetAt wb g ev (.slice A l.length c) ends l ∧ FindAt wb b2 b3 g key := fun wa wb hs hfa hfp =>
    ⟨hs.fp hfp (by have := h.lt; omega) (fun k e => by have := own_lt h.ends e; omega) (fun k e => by have := own_lt h.rows e; omega), hfa.fp hfp (by have := hf.s.lt; omega) (by have := hf.k.lt; omega)⟩
  have HK := Lib.hid hKeep
  clear hx h1 h hf hKeep
  have HR := Lib.hid hR
  clear hR
  have hz : c42 z42 = [.string ⟨#[]⟩, .string ⟨#[]⟩, .int .i64 0, .int .i64 0] := rfl
  rw [hz] at e1 HR
  clear hz
  go_enter Try.func24, Try.ntmps24
  go_wp2_with fail
  go_loopw [7, 15] (fun t7 t15 wr => BestR w g w.heap.size ev (.slice A l.length c) ends l b2 b3 key t7 t15 wr) (fun _ t15 _ => l.length - (intOf t15).toNat)
  case atStart => exact HR.out
  case round =>
    clear HR
    obtain ⟨k, o, rfl, rfl, hkl, hbe, hbo, hS, hF, hB⟩ := hrel
    have HBE := Lib.hid hbe
    clear hbe
    by_cases hlt : k < l.length
    · have k0 : (0 : Int) ≤ (k : Int) := by omega
      have k1 : (k : Int) < (l.length : Int) := by omega
      obtain ⟨gA, rfl, -, -, e0, e1', e2, e3⟩ := own42s hS.rows k hlt
      have hd : l.drop k = l[k] :: l.drop (k + 1) := List.drop_eq_getElem_cons hlt
      rw [hd] at HBE
      obtain ⟨hx0, hx1⟩ := HX.out _ (List.getElem_mem hlt)
      clear hd
      generalize l[k] = x at *
      have hal : Below wr.heap.size wr (wr.alloc (.cells (c42 x).toArray 42)) := (Below.refl wr.heap.size wr).alloc (Nat.le_refl _) _
      have hL := Blk.new wr 42 (c42 x).toArray
      have HP := Lib.hid (find1_any g ev (.slice (some ⟨gA, 0, none⟩) l.length c) ends l x b2 b3 key _ (hS.go hal) hE (hF.go hal) hk hx0 hx1)
      have hbA := hbo.go hal
      have hSA := hS.go hal
      have hFA := hF.go hal
      have hBA := hB.trans (hal.mono hB.size)
      have hll := hL.lt
      have hlb := hbA.lt
      clear hx0 hx1 hal hbo hS hF
      have hc : c42 x = [.string x.f0, .string x.f1, .int .i64 x.f2, .int .i64 x.f3] := rfl
      rw [hc] at HP hL hbA hSA hFA hBA hll hlb
      clear hc
      go_wp2_with fail
      refine HP.out.mono ?_
      rintro e w2 ⟨rfl, hb⟩
      have hL2 := hL.go hb
      have hb2 := hbA.go hb
      have hS2 := hSA.go hb
      have hF2 := hFA.go hb
      have hB2 := hBA.trans (hb.mono hBA.size)
      clear hL hbA hSA hFA hBA
      cases q : win ends key x
      · go_wp2_with fail
        go_roundw
        case rel => exact ⟨k + 1, o, by go_num, rfl, hlt, by rw [← HBE.out]; cases o <;> simp [best, q], hb2, hS2, hF2, hB2⟩
        case measure => simp [intOf]; omega
      · have f0 := hL2.cell 0
        have f1 := hL2.cell 1
        have f2 := hL2.cell 2
        have f3 := hL2.cell 3
        obtain ⟨y0, hy0⟩ : ∃ y0, o.getD z42 = y0 := ⟨_, rfl⟩
        rw [hy0] at hb2
        have HY := Lib.hid hy0
        clear hy0
        have g0 : w2.cell? ⟨w.heap.size, 0, none⟩ = some (.string y0.f0) := hb2.cell 0
        have g1 : w2.cell? ⟨w.heap.size, 1, none⟩ = some (.string y0.f1) := hb2.cell 1
        have g2 : w2.cell? ⟨w.heap.size, 2, none⟩ = some (.int .i64 y0.f2) := hb2.cell 2
        have g3 : w2.cell? ⟨w.heap.size, 3, none⟩ = some (.int .i64 y0.f3) := hb2.cell 3
        have hst := blk42_set (y := x) hb2
        have hFp : Fp (fun k => k = w.heap.size) w2 ((((w2.setCell ⟨w.heap.size, 0, none⟩ (.string x.f0)).setCell ⟨w.heap.size, 1, none⟩ (.string x.f1)).setCell ⟨w.heap.size, 2, none⟩ (.int .i64 x.f2)).setCell ⟨w.heap.size, 3, none⟩ (.int .i64 x.f3)) :=
          ((((Fp.refl (fun k => k = w.heap.size) w2).set_ _ (fun _ => rfl)).set_ _ (fun _ => rfl)).set_ _ (fun _ => rfl)).set_ _ (fun _ => rfl)
        have hst := Lib.hid hst
        have hFp := Lib.hid hFp
        have z0 := hb2.frozen 0
        have z1 := hb2.frozen 1
        have z2 := hb2.frozen 2
        have z3 := hb2.frozen 3
        cases o with
        | none =>
          go_wp2_with fail
          have HF := hFp.out
          have HS := hst.out
          generalize ((((w2.setCell ⟨w.heap.size, 0, none⟩ (.string x.f0)).setCell ⟨w.heap.size, 1, none⟩ (.string x.f1)).setCell ⟨w.heap.size, 2, none⟩ (.int .i64 x.f2)).setCell ⟨w.heap.size, 3, none⟩ (.int .i64 x.f3)) = w3 at *
          obtain ⟨HS3, HF3⟩ := HK.out _ _ hS2 hF2 HF
          have HB3 := hB2.trans (HF.below (B := w.heap.size) (fun i e => by rw [e]; exact Nat.le_refl _) hB2.size)
          first
            | go_roundw
              case rel => exact ⟨k + 1, some x, by go_num, rfl, hlt, by rw [← HBE.out]; simp [best, q], HS, HS3, HF3, HB3⟩
              case measure => simp [intOf]; omega
            | (refine ⟨⟨k + 1, some x, by go_num, rfl, hlt, by rw [← HBE.out]; simp [best, q], HS, HS3, HF3, HB3⟩, ?_⟩
               simp [intOf]
               omega)
        | some y =>
          have hyy := HY.out
          simp only [Option.getD_some] at hyy
          subst hyy
          go_wp2_with fail
          refine (find2_any x y w2).mono ?_
          rintro e w4 ⟨rfl, hb4⟩
          have hL4 := hL2.go hb4
          have hb5 := hb2.go hb4
          have hS4 := hS2.go hb4
          have hF4 := hF2.go hb4
          have hB4 := hB2.trans (hb4.mono hB2.size)
          clear f0 f1 f2 f3 g0 g1 g2 g3 z0 z1 z2 z3 hst hFp hb4 hb hL2 hb2 hS2 hF2 hB2
          have f0 := hL4.cell 0
          have f1 := hL4.cell 1
          have f2 := hL4.cell 2
          have f3 := hL4.cell 3
          have g0 : w4.cell? ⟨w.heap.size, 0, none⟩ = some (.string y.f0) := hb5.cell 0
          have g1 : w4.cell? ⟨w.heap.size, 1, none⟩ = some (.string y.f1) := hb5.cell 1
          have g2 : w4.cell? ⟨w.heap.size, 2, none⟩ = some (.int .i64 y.f2) := hb5.cell 2
          have g3 : w4.cell? ⟨w.heap.size, 3, none⟩ = some (.int .i64 y.f3) := hb5.cell 3
          have z0 := hb5.frozen 0
          have z1 := hb5.frozen 1
          have z2 := hb5.frozen 2
          have z3 := hb5.frozen 3
          have hst := Lib.hid (blk42_set (y := x) hb5)
          have hFp := Lib.hid (show Fp (fun k => k = w.heap.size) w4 ((((w4.setCell ⟨w.heap.size, 0, none⟩ (.string x.f0)).setCell ⟨w.heap.size, 1, none⟩ (.string x.f1)).setCell ⟨w.heap.size, 2, none⟩ (.int .i64 x.f2)).setCell ⟨w.heap.size, 3, none⟩ (.int .i64 x.f3)) from
            ((((Fp.refl (fun k => k = w.heap.size) w4).set_ _ (fun _ => rfl)).set_ _ (fun _ => rfl)).set_ _ (fun _ => rfl)).set_ _ (fun _ => rfl))
          cases q2 : decide (y.f2 < x.f2)
          · go_wp2_with fail
            go_roundw
            case rel => exact ⟨k + 1, some y, by go_num, rfl, hlt, by rw [← HBE.out]; simp only [best, q, q2, Bool.and_false]; rfl, hb5, hS4, hF4, hB4⟩
            case measure => simp [intOf]; omega
          · go_wp2_with fail
            have HF := hFp.out
            have HS := hst.out
            generalize ((((w4.setCell ⟨w.heap.size, 0, none⟩ (.string x.f0)).setCell ⟨w.heap.size, 1, none⟩ (.string x.f1)).setCell ⟨w.heap.size, 2, none⟩ (.int .i64 x.f2)).setCell ⟨w.heap.size, 3, none⟩ (.int .i64 x.f3)) = w5 at *
            obtain ⟨HS3, HF3⟩ := HK.out _ _ hS4 hF4 HF
            have HB3 := hB4.trans (HF.below (B := w.heap.size) (fun i e => by rw [e]; exact Nat.le_refl _) hB4.size)
            first
              | go_roundw
                case rel => exact ⟨k + 1, some x, by go_num, rfl, hlt, by rw [← HBE.out]; simp only [best, q, q2, Bool.and_true]; rfl, HS, HS3, HF3, HB3⟩
                case measure => simp [intOf]; omega
              | (refine ⟨⟨k + 1, some x, by go_num, rfl, hlt, by rw [← HBE.out]; simp only [best, q, q2, Bool.and_true]; rfl, HS, HS3, HF3, HB3⟩, ?_⟩
                 simp [intOf]
                 omega)
    · have hd : l.drop k = [] := List.drop_eq_nil_of_le (by omega)
      have k1 : ¬ (k : Int) < (l.length : Int) := by omega
      rw [hd] at HBE
      have ho : best (win ends key) none l = o := HBE.out.symm
      have HO := Lib.hid ho
      clear hd ho HBE
      obtain ⟨y0, hy0⟩ : ∃ y0, o.getD z42 = y0 := ⟨_, rfl⟩
      rw [hy0] at hbo
      have HY := Lib.hid hy0
      clear hy0
      have g0 : wr.cell? ⟨w.heap.size, 0, none⟩ = some (.string y0.f0) := hbo.cell 0
      have g1 : wr.cell? ⟨w.heap.size, 1, none⟩ = some (.string y0.f1) := hbo.cell 1
      have g2 : wr.cell? ⟨w.heap.size, 2, none⟩ = some (.int .i64 y0.f2) := hbo.cell 2
      have g3 : wr.cell? ⟨w.heap.size, 3, none⟩ = some (.int .i64 y0.f3) := hbo.cell 3
      have z0 := hbo.frozen 0
      have z1 := hbo.frozen 1
      have z2 := hbo.frozen 2
      have z3 := hbo.frozen 3
      have hst := Lib.hid (blk42_set (y := y0) hbo)
      have hFp := Lib.hid (show Fp (fun k => k = w.heap.size) wr ((((wr.setCell ⟨w.heap.size, 0, none⟩ (.string y0.f0)).setCell ⟨w.heap.size, 1, none⟩ (.string y0.f1)).setCell ⟨w.heap.size, 2, none⟩ (.int .i64 y0.f2)).setCell ⟨w.heap.size, 3, none⟩ (.int .i64 y0.f3)) from
        ((((Fp.refl (fun k => k = w.heap.size) wr).set_ _ (fun _ => rfl)).set_ _ (fun _ => rfl)).set_ _ (fun _ => rfl)).set_ _ (fun _ => rfl))
      go_wp2_with fail
      have HF := hFp.out
      have HS := hst.out
      generalize ((((wr.setCell ⟨w.heap.size, 0, none⟩ (.string y0.f0)).setCell ⟨w.heap.size, 1, none⟩ (.string y0.f1)).setCell ⟨w.heap.size, 2, none⟩ (.int .i64 y0.f2)).setCell ⟨w.heap.size, 3, none⟩ (.int .i64 y0.f3)) = w5 at *
      have HB3 := hB.trans (HF.below (B := w.heap.size) (fun i e => by rw [e]; exact Nat.le_refl _) hB.size)
      have v0 : w5.cell? ⟨w.heap.size, 0, none⟩ = some (.string y0.f0) := HS.cell 0
      have v1 : w5.cell? ⟨w.heap.size, 1, none⟩ = some (.string y0.f1) := HS.cell 1
      have v2 : w5.cell? ⟨w.heap.size, 2, none⟩ = some (.int .i64 y0.f2) := HS.cell 2
      have v3 : w5.cell? ⟨w.heap.size, 3, none⟩ = some (.int .i64 y0.f3) := HS.cell 3
      exact bodyPost_ret (v := .tuple #[.agg #[.string y0.f0, .string y0.f1, .int .i64 y0.f2, .int .i64 y0.f3], .bool o.isSome]) (by simp [results, Try.results24, go_sem, v0, v1, v2, v3]) rfl ⟨by rw [HO.out, HY.out]; rfl, HB3⟩
/-- What Find tells. -/
def find (ends : List Nat) (l : List S42) (key : ByteArray) : Int × Bool :=
  if key.size == lastE ends then (((best (win ends key) none l).getD z42).f3, (best (win ends key) none l).isSome) else (0, false)
/-- Each range's ends are of the right length. -/
def Sized (ends : List Nat) (l : List S42) : Prop := ∀ x ∈ l, x.f0.size = lastE ends ∧ x.f1.size = lastE ends
theorem find_any (g : Nat) (ev v : Value) (ends : List Nat) (l : List S42) (key : ByteArray) (w : World) (h : SetAt w g ev v ends l) (hE : EndsOk ends) (hx : Sized ends l) (hl : l.length < 1000000) :
    Calls Try.prog 12 #[ptr g, .string key] w fun e w' => e = .returned (.tuple #[.int .i64 (find ends l key).1, .bool (find ends l key).2]) ∧ Below w.heap.size w w' := by
  have k1 := (Below.refl w.heap.size w).alloc (Nat.le_refl _) (.cells #[ptr g] 23)
  have k2 := k1.alloc (by simp) (.cells #[.string key] 9)
  have hf : FindAt ((w.alloc (.cells #[ptr g] 23)).alloc (.cells #[.string key] 9)) w.heap.size (w.heap.size + 1) g key :=
    ⟨(Blk.new w 23 #[ptr g]).alloc _, by have := Blk.new (w.alloc (.cells #[ptr g] 23)) 9 #[.string key]; simpa using this⟩
  have h2 := h.go k2
  have HF := Lib.hid (show find ends l key = if key.size == lastE ends then (((best (win ends key) none l).getD z42).f3, (best (win ends key) none l).isSome) else (0, false) from rfl)
  have hs := Lib.hid (fun n => size_any g ev v ends l (((w.alloc (.cells #[ptr g] 23)).alloc (.cells #[.string key] 9)).drewN n) (h2.drewN n) hE.pos hE.few)
  have e0 := hf.s.cell 0
  have e1 := hf.k.cell 0
  cases q : key.size == lastE ends
  · rw [q] at HF
    have q' : ((key.size : Int) != ((lastE ends : Nat) : Int)) = true := by rw [bne, ByteArray.size_int, q]; rfl
    clear h hf h2 q hx
    go_enter Try.func12, Try.ntmps12
    go_wp2_with fail
    go_quiet ((go_at_call 22; exact Calls.quiet_of (hs.out _)))
    go_wp2_with fail
    go_ret2
    exact ⟨by rw [HF.out]; rfl, pw_below_drewN k2 _⟩
  · rw [q] at HF
    have q' : ((key.size : Int) != ((lastE ends : Nat) : Int)) = false := by rw [bne, ByteArray.size_int, q]; rfl
    have hk := eq_of_beq q
    have hB := Lib.hid (fun n => best_any g ev v ends l w.heap.size (w.heap.size + 1) key (((w.alloc (.cells #[ptr g] 23)).alloc (.cells #[.string key] 9)).drewN n) (h2.drewN n) hE (hf.go (pw_below_drewN (Below.refl _ _) n)) hk hx hl)
    clear h hf h2 q hx hk
    generalize best (win ends key) none l = o at *
    obtain ⟨y0, hy0⟩ : ∃ y0, o.getD z42 = y0 := ⟨_, rfl⟩
    rw [hy0] at HF hB
    clear hy0
    go_enter Try.func12, Try.ntmps12
    go_wp2_with fail
    go_quiet ((go_at_call 22; exact Calls.quiet_of (hs.out _)))
    have k3 := pw_below_drewN k2 nq
    have hB1 := hB.out nq
    have hc : c42 y0 = [.string y0.f0, .string y0.f1, .int .i64 y0.f2, .int .i64 y0.f3] := rfl
    rw [hc] at hB1
    clear hB hs hc
    have f0 : (((w.alloc (.cells #[ptr g] 23)).alloc (.cells #[.string key] 9)).drewN nq).cell? ⟨w.heap.size, 0, none⟩ = some (ptr g) := e0
    go_wp2_with fail
    refine hB1.mono ?_
    rintro e w4 ⟨rfl, hb⟩
    have k4 := k3.trans (hb.mono k3.size)
    go_wp2_with fail
    go_ret2
    exact ⟨by rw [HF.out]; rfl, k4.alloc k4.size _⟩
end Go.Proofs.Ytedbnppdfcljlaa.Base
