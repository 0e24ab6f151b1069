/- Acts: how they are read, and what one does. Conditions: as each contract says. -/
import Derived.Test.YtdobpieiobikpaaAwake
import Derived.Test.YtdobpieiobikpaaArg
set_option linter.unusedVariables false
set_option linter.unusedSimpArgs false
namespace Go.Proofs.Ytdobpieiobikpaa.Base
open Go Go.RowKit Go.Proofs.Ytdobpieiobikpaa.Mem Go.Proofs.YtdobpieiobikpaaW.PrintWords Go.Proofs.YtdobpieiobikpaaW.PrintLast
/-- A thing to do. -/
structure Act where
  k : Int
  id : Int
  n : Int
  at_ : Int
  v : Int
instance : Inhabited Act := ⟨⟨0, 0, 0, 0, 0⟩⟩
structure ActOk (x : Act) : Prop where
  k : 0 ≤ x.k ∧ x.k < 256
  id : (Lit.int .i64 x.id).wf = true
  n : (Lit.int .i64 x.n).wf = true
  at_ : u64ok x.at_
  v : u64ok x.v
abbrev aVal (x : Act) : Value := .agg #[.int .u8 x.k, .int .i64 x.id, .int .i64 x.n, .int .u64 x.at_, .int .u64 x.v]
def aCells (x : Act) : List Value := [.int .u8 x.k, .int .i64 x.id, .int .i64 x.n, .int .u64 x.at_, .int .u64 x.v]
def ActK (x : Act) (cs : List Value) : Prop := cs = aCells x
/-- Acts as an argument holds them. -/
structure Acts (w : World) (A : Option Addr) (l : List Act) : Prop where
  rows : ReadsRow ActK 5 w A l.length l
  ok : ∀ x ∈ l, ActOk x
theorem Acts.go {w w1 : World} {A : Option Addr} {l : List Act} (h : Acts w A l) (hb : Below w.heap.size w w1) : Acts w1 A l := by
  obtain ⟨⟨h1, h2, h3⟩, h4⟩ := h
  refine ⟨⟨h1, h2, fun hp => ?_⟩, h4⟩
  obtain ⟨ad, e, hc⟩ := h3 hp
  refine ⟨ad, e, fun j p hj => ?_⟩
  obtain ⟨cs, q1, q2, q3⟩ := hc j p hj
  exact ⟨cs, q1, q2, fun i u hu => by have := q3 i u hu; exact (hb.cell (World.block_lt_of_cell? _ _ this)).trans this⟩
theorem Acts.at_ {w : World} {A : Option Addr} {l : List Act} (h : Acts w A l) (k : Nat) (hk : k < l.length) : ∃ g o, A = some ⟨g, o, none⟩ ∧
    w.cell? ⟨g, o + k * 5, none⟩ = some (.int .u8 l[k].k) ∧ w.cell? ⟨g, o + k * 5 + 1, none⟩ = some (.int .i64 l[k].id) ∧ w.cell? ⟨g, o + k * 5 + 2, none⟩ = some (.int .i64 l[k].n) ∧ w.cell? ⟨g, o + k * 5 + 3, none⟩ = some (.int .u64 l[k].at_) ∧ w.cell? ⟨g, o + k * 5 + 4, none⟩ = some (.int .u64 l[k].v) := by
  obtain ⟨g, o, cs, e, hK, -, hc⟩ := row_at h.rows (by decide) hk
  have hK2 : cs = aCells l[k] := hK
  subst hK2
  exact ⟨g, o, e, by simpa using hc 0 _ rfl, hc 1 _ rfl, hc 2 _ rfl, hc 3 _ rfl, hc 4 _ rfl⟩
/-- What an act does. -/
def stepS (S : St) (x : Act) : St :=
  if x.k = 0 then (putC S x.id).2 else if x.k = 1 then (delC S x.id).2 else if x.k = 2 then (cnt S x.id x.n).2 else if x.k = 3 then (putR S x.id x.n).2
  else if x.k = 4 then (delR S x.id).2 else if x.k = 5 then (save S x.id x.at_ x.v).2 else (bump S x.id x.at_ x.v).2
def StepEnd (w : World) (a : Nat) (O : Nat → Prop) (S : St) (e : Ending) (w' : World) : Prop := e = .returned (.tuple #[]) ∧ Sto w' a (Grow O w w') S ∧ Fp O w w'
theorem StepEnd.of {w wA w' : World} {a : Nat} {O : Nat → Prop} {q : Int × St} {e : Ending} (hb : Below w.heap.size w wA) (h : Did wA a O q e w') : StepEnd w a O q.2 (.returned (.tuple #[])) w' := by
  obtain ⟨h1, h2, h3⟩ := h
  refine ⟨rfl, h2.weak (fun k hk => ?_) (fun k hk => ?_), (Fp.of_below hb O).trans h3⟩
  · rcases hk with hk | hk
    · exact .inl hk
    · exact .inr ⟨Nat.le_trans hb.size hk.1, hk.2⟩
  · rcases hk with hk | hk
    · exact h2.1 k (.inl hk)
    · exact hk.2
set_option maxHeartbeats 3200000 in
set_option maxRecDepth 100000 in
theorem step_any (a : Nat) (O : Nat → Prop) (S : St) (x : Act) (w : World) (h : Sto w a O S) (hx : ActOk x) :
    Calls Try.prog 20 #[ptr a, aVal x] w (StepEnd w a O (stepS S x)) := by
  have hb : Below w.heap.size w (w.alloc (.cells #[.int .u8 x.k, .int .i64 x.id, .int .i64 x.n, .int .u64 x.at_, .int .u64 x.v] 42)) := (Below.refl _ _).alloc (Nat.le_refl _) _
  have X := Blk.new w 42 #[.int .u8 x.k, .int .i64 x.id, .int .i64 x.n, .int .u64 x.at_, .int .u64 x.v]
  have HS := Lib.hid (h.go hb)
  have HB := Lib.hid hb
  obtain ⟨⟨k0, k1⟩, hid, hn, hat, hv⟩ := hx
  have HSS := Lib.hid (show stepS S x = if x.k = 0 then (putC S x.id).2 else if x.k = 1 then (delC S x.id).2 else if x.k = 2 then (cnt S x.id x.n).2 else if x.k = 3 then (putR S x.id x.n).2 else if x.k = 4 then (delR S x.id).2 else if x.k = 5 then (save S x.id x.at_ x.v).2 else (bump S x.id x.at_ x.v).2 from rfl)
  generalize stepS S x = S' at *
  obtain ⟨k, id, n, at_, v⟩ := x
  obtain ⟨j, hj⟩ : ∃ j : Nat, at_ = (j : Int) := ⟨at_.toNat, by have h9 : 0 ≤ at_ := hat.1; omega⟩
  have hjl : j < 18446744073709551616 := by have h9 : at_ < _ := hat.2; omega
  simp only at *
  subst hj
  have x0 := X.cell 0
  have x1 := X.cell 1
  have x2 := X.cell 2
  have x3 := X.cell 3
  have x4 := X.cell 4
  have HJ := Lib.hid hjl
  have HV := Lib.hid hv
  clear h hb X hat hv hjl
  have hcase : k = 0 ∨ k = 1 ∨ k = 2 ∨ k = 3 ∨ k = 4 ∨ k = 5 ∨ 6 ≤ k := by omega
  rcases hcase with rfl | rfl | rfl | rfl | rfl | rfl | h6
  · rw [if_pos rfl] at HSS
    go_enter Try.func20, Try.ntmps20
    go_wp2_with fail
    refine (putC_any a O S id _ HS.out hid).mono ?_
    intro e w1 hd
    have HE := Lib.hid (StepEnd.of HB.out hd)
    obtain ⟨rfl, -⟩ := hd
    go_wp2_with fail
    refine bodyPost_ret (v := .tuple #[]) (by simp [results, Try.results20, go_sem]) rfl ?_
    rw [HSS.out]
    exact HE.out
  · rw [if_neg (by decide), if_pos rfl] at HSS
    go_enter Try.func20, Try.ntmps20
    go_wp2_with fail
    refine (delC_any a O S id _ HS.out hid).mono ?_
    intro e w1 hd
    have HE := Lib.hid (StepEnd.of HB.out hd)
    obtain ⟨rfl, -⟩ := hd
    go_wp2_with fail
    refine bodyPost_ret (v := .tuple #[]) (by simp [results, Try.results20, go_sem]) rfl ?_
    rw [HSS.out]
    exact HE.out
  · rw [if_neg (by decide), if_neg (by decide), if_pos rfl] at HSS
    go_enter Try.func20, Try.ntmps20
    go_wp2_with fail
    refine (cnt_any a O S id n _ HS.out hid hn).mono ?_
    intro e w1 hd
    have HE := Lib.hid (StepEnd.of HB.out hd)
    obtain ⟨rfl, -⟩ := hd
    go_wp2_with fail
    refine bodyPost_ret (v := .tuple #[]) (by simp [results, Try.results20, go_sem]) rfl ?_
    rw [HSS.out]
    exact HE.out
  · rw [if_neg (by decide), if_neg (by decide), if_neg (by decide), if_pos rfl] at HSS
    go_enter Try.func20, Try.ntmps20
    go_wp2_with fail
    refine (putR_any a O S id n _ HS.out hid).mono ?_
    intro e w1 hd
    have HE := Lib.hid (StepEnd.of HB.out hd)
    obtain ⟨rfl, -⟩ := hd
    go_wp2_with fail
    refine bodyPost_ret (v := .tuple #[]) (by simp [results, Try.results20, go_sem]) rfl ?_
    rw [HSS.out]
    exact HE.out
  · rw [if_neg (by decide), if_neg (by decide), if_neg (by decide), if_neg (by decide), if_pos rfl] at HSS
    go_enter Try.func20, Try.ntmps20
    go_wp2_with fail
    refine (delR_any a O S id _ HS.out hid).mono ?_
    intro e w1 hd
    have HE := Lib.hid (StepEnd.of HB.out hd)
    obtain ⟨rfl, -⟩ := hd
    go_wp2_with fail
    refine bodyPost_ret (v := .tuple #[]) (by simp [results, Try.results20, go_sem]) rfl ?_
    rw [HSS.out]
    exact HE.out
  · rw [if_neg (by decide), if_neg (by decide), if_neg (by decide), if_neg (by decide), if_neg (by decide), if_pos rfl] at HSS
    go_enter Try.func20, Try.ntmps20
    go_wp2_with fail
    refine (save_any a O S id j v _ HS.out hid HJ.out HV.out).mono ?_
    intro e w1 hd
    have HE := Lib.hid (StepEnd.of HB.out hd)
    obtain ⟨rfl, -⟩ := hd
    go_wp2_with fail
    refine bodyPost_ret (v := .tuple #[]) (by simp [results, Try.results20, go_sem]) rfl ?_
    rw [HSS.out]
    exact HE.out
  · rw [if_neg (by omega), if_neg (by omega), if_neg (by omega), if_neg (by omega), if_neg (by omega), if_neg (by omega)] at HSS
    have e0 : (k == 0) = false := beq_eq_false_iff_ne.2 (by omega)
    have e1 : (k == 1) = false := beq_eq_false_iff_ne.2 (by omega)
    have e2 : (k == 2) = false := beq_eq_false_iff_ne.2 (by omega)
    have e3 : (k == 3) = false := beq_eq_false_iff_ne.2 (by omega)
    have e4 : (k == 4) = false := beq_eq_false_iff_ne.2 (by omega)
    have e5 : (k == 5) = false := beq_eq_false_iff_ne.2 (by omega)
    go_enter Try.func20, Try.ntmps20
    go_wp2_with fail
    refine (bump_any a O S id j v _ HS.out hid HJ.out HV.out).mono ?_
    intro e w1 hd
    have HE := Lib.hid (StepEnd.of HB.out hd)
    obtain ⟨rfl, -⟩ := hd
    go_wp2_with fail
    refine bodyPost_ret (v := .tuple #[]) (by simp [results, Try.results20, go_sem]) rfl ?_
    rw [HSS.out]
    exact HE.out
end Go.Proofs.Ytdobpieiobikpaa.Base
