/- A store in memory. Plain lemmas. Conditions: as each lemma says. -/
import Derived.Test.YtdobpieiobikpaaSpec
import Derived.Test.YtdobpieiobikpaaProg
import Derived.Test.YtdobpieiobikpaaWLast
import Derived.Lib.Hide
import Derived.Laws.Rows
import Derived.Deep.AppendLies
import Derived.BigQuiet
set_option linter.unusedVariables false
set_option linter.unusedSimpArgs false
namespace Go.Proofs.Ytdobpieiobikpaa.Base
open Go Go.RowKit Go.Proofs.Ytdobpieiobikpaa.Mem Go.Proofs.YtdobpieiobikpaaW.PrintWords Go.Proofs.YtdobpieiobikpaaW.PrintLast
open Go.Maps (Keyed int_keyed)
abbrev ptr (b : Nat) : Value := .pointer (some ⟨b, 0, none⟩)
theorem K3 : Keyed Try.prog 3 := int_keyed Try.underlying3
/-- A counter, and a row, as the maps hold them. -/
def cVal (p : Int × Int) : Value := .agg #[.int .u64 p.1, .int .u64 p.2]
structure RowE where
  g : Nat
  cap : Nat
  xs : List Int
def rVal (p : RowE) : Value := .slice (some ⟨p.g, 0, none⟩) p.xs.length p.cap
def cRow (c : List (Int × (Int × Int))) : List (Int × Value) := c.map fun p => (p.1, cVal p.2)
def rRow (r : List (Int × RowE)) : List (Int × Value) := r.map fun p => (p.1, rVal p.2)
/-- A map, or nil. -/
def MM (w : World) (p : Option Nat) (l : List (Int × Value)) : Prop := match p with
  | none => l = []
  | some b => ML w b l
/-- A store in memory: its box, its maps, its rows. -/
structure SM (w : World) (a : Nat) (pc pr : Option Nat) (S : St) (rr : List (Int × RowE)) : Prop where
  box : Blk w a 62 #[.map pc, .map pr]
  cm : MM w pc (cRow S.c)
  rm : MM w pr (rRow rr)
  ne : ∀ b, pc = some b → pr ≠ some b
  rows : ∀ p ∈ rr, w.ownsRow 0 22 1 (rVal p.2) p.2.xs.length (p.2.xs.map (Value.int .u64))
  nd : (rr.map (·.2.g)).Nodup
  abs : S.r = rr.map fun p => (p.1, p.2.xs)
  ok : S.ok
/-- The blocks that are its own. -/
def Own (a : Nat) (pc pr : Option Nat) (rr : List (Int × RowE)) (k : Nat) : Prop := k = a ∨ pc = some k ∨ pr = some k ∨ k ∈ rr.map (·.2.g)
/-- A store all of whose blocks are in O. -/
def Sto (w : World) (a : Nat) (O : Nat → Prop) (S : St) : Prop := (∀ k, O k → k < w.heap.size) ∧ ∃ pc pr rr, SM w a pc pr S rr ∧ ∀ k, Own a pc pr rr k → O k
/-- O, and what is new. -/
def Grow (O : Nat → Prop) (w w' : World) (k : Nat) : Prop := O k ∨ (w.heap.size ≤ k ∧ k < w'.heap.size)
section
variable {w w1 : World} {a : Nat} {pc pr : Option Nat} {S : St} {rr : List (Int × RowE)} {O T : Nat → Prop}
theorem MM.fp {p : Option Nat} {l : List (Int × Value)} (h : MM w p l) (hf : Fp T w w1) (hp : ∀ b, p = some b → ¬ T b) : MM w1 p l := by
  cases p with
  | none => exact h
  | some b => exact ML.fp h hf (hp b rfl)
theorem SM.fp (h : SM w a pc pr S rr) (hf : Fp T w w1) (hd : ∀ k, Own a pc pr rr k → ¬ T k) : SM w1 a pc pr S rr :=
  ⟨h.box.fp hf (hd a (.inl rfl)), h.cm.fp hf (fun b e => hd b (.inr (.inl e))), h.rm.fp hf (fun b e => hd b (.inr (.inr (.inl e)))), h.ne,
    fun p hp => own_fp (h.rows p hp) hf (fun k e => hd k (.inr (.inr (.inr (by injection e with e; rw [← e]; exact List.mem_map.2 ⟨p, hp, rfl⟩))))), h.nd, h.abs, h.ok⟩
theorem Sto.fp (h : Sto w a O S) (hf : Fp T w w1) (hd : ∀ k, O k → ¬ T k) : Sto w1 a O S := by
  obtain ⟨h1, pc, pr, rr, h2, h3⟩ := h
  exact ⟨fun k hk => Nat.lt_of_lt_of_le (h1 k hk) hf.size, pc, pr, rr, h2.fp hf (fun k hk => hd k (h3 k hk)), h3⟩
theorem Sto.go (h : Sto w a O S) (hb : Below w.heap.size w w1) : Sto w1 a O S := h.fp (Fp.of_below hb (fun _ => False)) (fun _ _ e => e)
theorem Sto.weak (h : Sto w a O S) (hO : ∀ k, O k → T k) (hT : ∀ k, T k → k < w.heap.size) : Sto w a T S := by
  obtain ⟨h1, pc, pr, rr, h2, h3⟩ := h
  exact ⟨hT, pc, pr, rr, h2, fun k hk => hO k (h3 k hk)⟩
theorem Sto.ok (h : Sto w a O S) : S.ok := by obtain ⟨_, _, _, _, h, _⟩ := h; exact h.ok
theorem Own.lt (h : SM w a pc pr S rr) {k : Nat} (hk : Own a pc pr rr k) : k < w.heap.size := by
  rcases hk with rfl | hk | hk | hk
  · exact h.box.lt
  · have := h.cm; rw [hk] at this; exact ML.lt this
  · have := h.rm; rw [hk] at this; exact ML.lt this
  · obtain ⟨p, hp, rfl⟩ := List.mem_map.1 hk
    exact ((h.rows p hp).lt p.2.g rfl).2
end
/-! ### the inner tests -/
/-- Reading a map, or nil. -/
theorem MM.lookup {w : World} {p : Option Nat} {l : List (Int × Value)} (h : MM w p l) {t e : TypeId} (ht : Try.prog.underlying t = some (.map 3 e)) {z : Value} (hz : (zeroValue e).run Try.prog w = .ok z w) (c : Bool) {k : Int} (hkw : (Lit.int .i64 k).wf = true) :
    (Instr.lookup t (.map p) (.int .i64 k) c).run Try.prog w = .ok (if c then .tuple #[(lookE l k).getD z, .bool (lookE l k).isSome] else (lookE l k).getD z) w := by
  cases p with
  | some b => exact ML.lookup h K3 Try.underlying3 ht hz c hkw
  | none =>
    have hl : l = [] := h
    subst hl
    have hc := K3.check w true (Maps.keyOf_int_mk Try.underlying3 hkw)
    have hf := K3.find w (Maps.keyOf_int_mk Try.underlying3 hkw) [] (by simp)
    rcases hf with ⟨hf, _⟩ | ⟨j, e0, _, h0, _⟩
    · simp [Instr.lookup, run_underlying ht, hc, hf, hz, Result.andThen, lookE]
    · cases h0
theorem zero75 (w : World) : (zeroValue 75).run Try.prog w = .ok (.agg #[.int .u64 0, .int .u64 0]) w := Try.zeroValue75 w
theorem zero30 (w : World) : (zeroValue 30).run Try.prog w = .ok (.slice none 0 0) w := Try.zeroValue30 w
theorem clo54 (bx a : Nat) (pc pr : Option Nat) (w : World) (h : Blk w bx 25 #[ptr a]) (hb : Blk w a 62 #[.map pc, .map pr]) : Calls Try.prog 54 #[ptr bx] w fun e w' => e = .returned (.map pc) ∧ w = w' := by
  have c0 := h.cell 0
  have d0 := hb.cell 0
  go_enter Try.func54, Try.ntmps54
  go_wp2_with fail
  go_ret
  exact ⟨rfl, rfl⟩
theorem clo56 (bx a : Nat) (pc pr : Option Nat) (w : World) (h : Blk w bx 25 #[ptr a]) (hb : Blk w a 62 #[.map pc, .map pr]) : Calls Try.prog 56 #[ptr bx] w fun e w' => e = .returned (.map pr) ∧ w = w' := by
  have c0 := h.cell 0
  have d0 := hb.cell 1
  go_enter Try.func56, Try.ntmps56
  go_wp2_with fail
  go_ret
  exact ⟨rfl, rfl⟩
theorem none53 (bx a : Nat) (pc pr : Option Nat) (c : List (Int × (Int × Int))) (id : Int) (w : World) (h : Blk w bx 25 #[ptr a]) (hb : Blk w a 62 #[.map pc, .map pr]) (hc : MM w pc (cRow c)) (hid : (Lit.int .i64 id).wf = true) :
    Calls Try.prog 53 #[ptr a, .func (.func 54) #[] #[ptr bx], .int .i64 id] w fun e w' => e = .returned (.int .i64 (if (lookE c id).isSome then 0 else 6)) ∧ Below w.heap.size w w' := by
  have HC := Lib.hid (clo54 bx a pc pr w h hb)
  have hl := hc.lookup Try.underlying59 (zero75 w) true hid
  rw [if_pos rfl, cRow, lookE_map] at hl
  have hz : ∃ q : Int × Int, ((lookE c id).map cVal).getD (.agg #[.int .u64 0, .int .u64 0]) = .agg #[.int .u64 q.1, .int .u64 q.2] := by
    cases lookE c id with
    | none => exact ⟨(0, 0), rfl⟩
    | some q => exact ⟨q, rfl⟩
  obtain ⟨q, hq⟩ := hz
  rw [hq] at hl
  have kA := (Below.refl w.heap.size w).alloc (Nat.le_refl _) (.cells #[.int .u64 q.1, .int .u64 q.2] 75)
  have hs : ((lookE c id).map cVal).isSome = (lookE c id).isSome := by cases lookE c id <;> rfl
  rw [hs] at hl
  clear hq hs h hb hc
  generalize (lookE c id).isSome = b at *
  cases b
  all_goals
    go_enter Try.func53, Try.ntmps53
    go_wp2_with fail
    refine HC.out.mono ?_
    rintro e _ ⟨rfl, rfl⟩
    go_wp2_with fail
    go_ret
    exact ⟨rfl, kA⟩
end Go.Proofs.Ytdobpieiobikpaa.Base
