/- What a stream is in memory, and what its states do with a byte. Conditions: as each contract says. -/
import Derived.Test.YtedkfhgpahjleaaProg
import Derived.Lib.Hide
import Derived.Deep.QuietTactic
import Derived.Test.YtedkfhgpahjleaaMem
import Derived.BigQuiet
import Derived.IntWalk
import Derived.Deep.RegionHeld3
import Derived.Deep.RegionLaw
import Derived.Deep.AppendLies
import Derived.StillTailTactics
import Derived.Laws.BitsAllLaws
import Derived.Laws.EntriesVeiled
set_option linter.unusedVariables false
set_option linter.unusedSimpArgs false
namespace Go.Proofs.Ytedkfhgpahjleaa.Base
open Go Go.RowKit Go.Proofs.Ytedkfhgpahjleaa.Mem Go.Proofs.YtedkfhgpahjleaaW.PrintWords
/-- Bytes, as a row holds them. -/
def bv (bs : List UInt8) : List Value := bs.map fun b => Value.int .u8 (b.toNat : Int)
theorem bv_len (bs : List UInt8) : (bv bs).length = bs.length := by simp [bv]
theorem bv_app (a b : List UInt8) : bv (a ++ b) = bv a ++ bv b := by simp [bv]
abbrev ptr (p : Nat) : Value := .pointer (some ⟨p, 0, none⟩)
abbrev lenF (p : Nat) : Value := .func (.func 23) #[ptr p] #[]
/-- Of what stood: only the stream's block, and rows of bytes from B on, may differ. -/
structure Fr (B p : Nat) (w w' : World) : Prop where
  os : w'.os = w.os
  tape : w'.tape = w.tape
  output : w'.output = w.output
  size : w.heap.size ≤ w'.heap.size
  block : ∀ k, k < w.heap.size → (k < B ∨ (k ≠ p ∧ ∀ cs, w.heap[k]? ≠ some (.cells cs 5 (0, 0)))) → w'.heap[k]? = w.heap[k]?
section
variable {B p : Nat} {w w1 w2 : World}
theorem Fr.refl (B p : Nat) (w : World) : Fr B p w w := ⟨rfl, rfl, rfl, Nat.le_refl _, fun _ _ _ => rfl⟩
theorem Fr.trans (h : Fr B p w w1) (k : Fr B p w1 w2) : Fr B p w w2 :=
  ⟨k.os.trans h.os, k.tape.trans h.tape, k.output.trans h.output, Nat.le_trans h.size k.size, fun i hi hc => by
    have h1 := h.block i hi hc
    refine (k.block i (Nat.lt_of_lt_of_le hi h.size) ?_).trans h1
    rcases hc with hc | ⟨hn, hc⟩
    · exact .inl hc
    · exact .inr ⟨hn, by rw [h1]; exact hc⟩⟩
theorem Fr.grown {r : Option Nat} (h : Fr B p w w1) (hg : w1.grownBy w2 r) (hr : ∀ k, r = some k → B ≤ k ∧ (k = p ∨ w.heap.size ≤ k ∨ ∃ cs, w1.heap[k]? = some (.cells cs 5 (0, 0)))) : Fr B p w w2 :=
  ⟨hg.os.trans h.os, hg.tape.trans h.tape, hg.output.trans h.output, Nat.le_trans h.size hg.size, fun i hi hc => by
    have h1 := h.block i hi hc
    refine (hg.block i (Nat.lt_of_lt_of_le hi h.size) (fun e => ?_)).trans h1
    obtain ⟨hB, hk⟩ := hr i e.symm
    rcases hc with hc | ⟨hn, hc⟩
    · omega
    · rcases hk with hk | hk | ⟨cs, hk⟩
      · exact hn hk
      · omega
      · rw [h1] at hk
        exact hc cs hk⟩
theorem Fr.alloc (h : Fr B p w w1) (o : Obj) : Fr B p w (w1.alloc o) := h.grown (r := none) (World.grownBy_alloc _ _ _) (fun _ e => by cases e)
theorem Fr.drew (h : Fr B p w w1) : Fr B p w w1.drew := ⟨h.os, h.tape, h.output, h.size, h.block⟩
theorem Fr.drewN (h : Fr B p w w1) (n : Nat) : Fr B p w (w1.drewN n) := h.grown (r := none) (gb_drewN none n (gb_below (Below.refl _ _) none)) (fun _ e => by cases e)
theorem Fr.set_ (h : Fr B p w w1) (i : Nat) (v : Value) (hB : B ≤ p) : Fr B p w (w1.setCell ⟨p, i, none⟩ v) :=
  h.grown (r := some p) (gb_set (i := i) v (gb_below (Below.refl _ _) _)) (fun k e => by injection e with e; subst e; exact ⟨hB, .inl rfl⟩)
theorem Fr.row {v : Value} {n : Nat} {xs : List Value} {b s : Nat} (h : Fr B p w w1) (hg : w1.grownBy w2 v.ownBlock) (ho : w1.ownsRow B 5 s v n xs) : Fr B p w w2 := by
  refine h.grown hg (fun k e => ?_)
  rcases ho.2 with ⟨rfl, _⟩ | ⟨g, cap, cur, rfl, hb, hh, _⟩
  · simp [Value.ownBlock] at e
  · simp [Value.ownBlock] at e
    subst e
    exact ⟨hb, .inr (.inr ⟨cur, hh⟩)⟩
theorem Fr.below (h : Fr B p w w1) (hB : B ≤ p) (hs : B ≤ w.heap.size) : Below B w w1 := ⟨h.os, h.tape, h.output, h.size, fun i hi => h.block i (by omega) (.inl hi)⟩
theorem Blk.fr {g : Nat} {t : TypeId} {cs : Array Value} (h : Blk w g t cs) (hf : Fr B p w w1) (hg : g ≠ p) (ht : t ≠ 5) : Blk w1 g t cs :=
  (hf.block g h.lt (.inr ⟨hg, fun cs' e => by unfold Blk at h; rw [h] at e; injection e with e; injection e with _ e; exact ht e⟩)).trans h
theorem own_ne {v : Value} {n s : Nat} {xs : List Value} {g : Nat} {t : TypeId} {cs : Array Value} (h : Blk w g t cs) (ho : w.ownsRow B 5 s v n xs) (ht : t ≠ 5) : some g ≠ v.ownBlock := by
  rcases ho.2 with ⟨rfl, _⟩ | ⟨g', cap, cur, rfl, hb, hh, _⟩
  · simp [Value.ownBlock]
  · intro e
    simp [Value.ownBlock] at e
    subst e
    unfold Blk at h
    rw [hh] at h
    injection h with h; injection h with _ h; exact ht h.symm
end
theorem info5 : (Try.prog.info? 5).map (fun i => (i.zero, i.size, i.bytes)) = some (some (.int .u8 0), 1, 1) := by kernel_rfl

/-- One more byte at a row of bytes that lies in a stream: what is so behind it. -/
theorem appended {B p : Nat} {bs : List UInt8} {b : UInt8} {at_ v sh : Value} {w w1 : World} {g cap : Nat} (hB : Blk w p 39 #[at_, v, sh]) (hown : w.ownsRow B 5 1 v bs.length (bv bs)) (hBp : B ≤ p)
    (hown1 : w1.ownsRow B 5 1 (.slice (some ⟨g, 0, none⟩) (bs.length + 1) cap) (bs.length + 1) (bv bs ++ [.int .u8 (b.toNat : Int)])) (hgrow : (w.alloc (.cells #[.int .u8 (b.toNat : Int)] 5)).grownBy w1 v.ownBlock) :
    Blk w1 p 39 #[at_, v, sh] ∧ g ≠ p ∧
    Blk (w1.setCell ⟨p, 1, none⟩ (.slice (some ⟨g, 0, none⟩) (bs.length + 1) cap)) p 39 #[at_, .slice (some ⟨g, 0, none⟩) (bs.length + 1) cap, sh] ∧
    (w1.setCell ⟨p, 1, none⟩ (.slice (some ⟨g, 0, none⟩) (bs.length + 1) cap)).ownsRow B 5 1 (.slice (some ⟨g, 0, none⟩) (bs.length + 1) cap) (bs.length + 1) (bv (bs ++ [b])) ∧
    Fr B p w (w1.setCell ⟨p, 1, none⟩ (.slice (some ⟨g, 0, none⟩) (bs.length + 1) cap)) := by
  have hB1 := hB.alloc (.cells #[.int .u8 (b.toNat : Int)] 5)
  have hne := own_ne hB1 (hown.alloc _) (by decide)
  have hb1 := hB1.grown hgrow hne
  have hg : g ≠ p := fun e => own_ne hb1 hown1 (by decide) (by rw [e]; rfl)
  refine ⟨hb1, hg, hb1.set_ 1 _, ?_, ?_⟩
  · have hx : bv bs ++ [.int .u8 (b.toNat : Int)] = bv (bs ++ [b]) := by simp [bv]
    rw [hx] at hown1
    refine hown1.kept (row := some p) (gb_set (i := 1) _ (gb_below (Below.refl _ _) _)) (.inr ?_)
    simpa [Value.ownBlock] using hg
  · exact (((Fr.refl B p w).alloc _).row (b := B) hgrow (hown.alloc _)).set_ _ _ hBp

/-! ### a length's byte -/
theorem length_wait (B p : Nat) (bs : List UInt8) (b : UInt8) (at_ v sh : Value) (w : World) (hB : Blk w p 39 #[at_, v, sh]) (hown : w.ownsRow B 5 1 v bs.length (bv bs)) (hBp : B ≤ p) (hl : bs.length + 1 < 4) :
    Calls Try.prog 23 #[ptr p, .int .u8 (b.toNat : Int)] w fun e w' => e = .returned (.tuple #[.bool false, .int .i64 0, lenF p]) ∧
      (∃ v', Blk w' p 39 #[at_, v', sh] ∧ w'.ownsRow B 5 1 v' (bs.length + 1) (bv (bs ++ [b]))) ∧ Fr B p w w' := by
  obtain ⟨i0, hi0, hz0, hz1, hz2⟩ := info_parts info5
  have hlt := hB.lt
  have hB1 := hB.alloc (.cells #[.int .u8 (b.toNat : Int)] 5)
  have c1 := hB.cell 1
  have hi : (bs.length : Int) + 1 < 4 := by omega
  go_enter Try.func23, Try.ntmps23
  go_wp2_with (at_builtin; refine wpList_append_lies _ rfl _ _ _ rfl B 5 i0 _ 1 1 Try.underlying37 hi0 hz0 hz1 hz2 rfl (by omega) v bs.length (bv bs) rfl (hown.alloc _) ⟨w.heap.size, 0, none⟩ 1 1 [.int .u8 (b.toNat : Int)] (by rfl) (by rfl) (World.news_of_block (cs := #[.int .u8 (b.toNat : Int)]) (t := 5) (fr := (0, 0)) (heap_alloc_new w _)) (by simp [Value.oneCell']) (by omega) (by simp [maxLen]; omega) (by omega) (by simp; omega) (w.heap.size + 1) (by simp) ?_; intro g cap w1 hown1 hgrow hat hlt1; obtain ⟨a1, a2, a3, a4, a5⟩ := appended hB hown hBp hown1 hgrow; have e0 := a1.cell 1; have e1 := a1.frozen 1; have e2 := a3.cell 1)
  go_ret3
  exact ⟨rfl, ⟨_, a3, a4⟩, a5⟩
theorem or_mul (a b i m : Nat) (hm : m = 2 ^ i) (h : a < m) : (b * m) ||| a = b * m + a := by
  subst hm
  rw [← Nat.shiftLeft_eq, Nat.shiftLeft_add_eq_or_of_lt h]
/-- What four bytes say. -/
def be (x y z b : UInt8) : Nat := x.toNat * 16777216 + y.toNat * 65536 + z.toNat * 256 + b.toNat
theorem be_bits (x y z b : UInt8) : bits BinOp.or IntKind.u32 (bits BinOp.or IntKind.u32 (bits BinOp.or IntKind.u32 ((x.toNat : Int) % 4294967296 * 16777216 % 4294967296) ((y.toNat : Int) % 4294967296 * 65536 % 4294967296)) ((z.toNat : Int) % 4294967296 * 256 % 4294967296)) ((b.toNat : Int) % 4294967296) = (be x y z b : Int) := by
  have hx := x.toNat_lt; have hy := y.toNat_lt; have hz := z.toNat_lt; have hb := b.toNat_lt
  have e0 : ((x.toNat : Int) % 4294967296 * 16777216 % 4294967296) = ((x.toNat * 16777216 : Nat) : Int) := by omega
  have e1 : ((y.toNat : Int) % 4294967296 * 65536 % 4294967296) = ((y.toNat * 65536 : Nat) : Int) := by omega
  have e2 : ((z.toNat : Int) % 4294967296 * 256 % 4294967296) = ((z.toNat * 256 : Nat) : Int) := by omega
  have e3 : ((b.toNat : Int) % 4294967296) = (b.toNat : Int) := by omega
  rw [e0, e1, e2, e3, u32_or_nat _ _ (by omega) (by omega), or_mul (y.toNat * 65536) x.toNat 24 16777216 (by decide) (by omega)]
  rw [u32_or_nat _ _ (by omega) (by omega), show x.toNat * 16777216 + y.toNat * 65536 = (x.toNat * 256 + y.toNat) * 65536 by omega, or_mul _ _ 16 65536 (by decide) (by omega)]
  rw [u32_or_nat _ _ (by omega) (by omega), show (x.toNat * 256 + y.toNat) * 65536 + z.toNat * 256 = (x.toNat * 65536 + y.toNat * 256 + z.toNat) * 256 by omega, or_mul _ _ 8 256 (by decide) (by omega)]
  simp only [be]
  omega
theorem be_lt (x y z b : UInt8) : be x y z b < 4294967296 := by
  have hx := x.toNat_lt; have hy := y.toNat_lt; have hz := z.toNat_lt; have hb := b.toNat_lt
  simp only [be]; omega

/-- A body's state is there. -/
def BodyF (w : World) (B p all : Nat) (v : Value) : Prop := ∃ c : Nat, B ≤ c ∧ v = .func (.func 26) #[] #[ptr c, ptr (c + 1), ptr (c + 2)] ∧ Blk w c 28 #[ptr p] ∧ Blk w (c + 1) 3 #[.int .i64 (all : Int)] ∧ Blk w (c + 2) 36 #[v]

theorem body_any (B p all : Nat) (w : World) (hp : p < w.heap.size) (hBp : B ≤ w.heap.size) :
    Calls Try.prog 25 #[ptr p, .int .i64 (all : Int)] w fun e w' => ∃ v, e = .returned v ∧ BodyF w' B p all v ∧ Below w.heap.size w w' := by
  go_enter Try.func25, Try.ntmps25
  go_wp2
  go_ret
  refine ⟨_, rfl, ⟨w.heap.size, hBp, rfl, ((Blk.new w 28 #[ptr p]).alloc _).alloc _, ?_, ?_⟩, (((Below.refl _ w).alloc (Nat.le_refl _) _).alloc (by simp) _).alloc (by simp; omega) _⟩
  · have := (Blk.new (w.alloc (.cells #[ptr p] 28)) 3 #[.int .i64 (all : Int)]).alloc (.cells #[.func (.func 26) #[] #[ptr w.heap.size, ptr (w.heap.size + 1), ptr (w.heap.size + 1 + 1)]] 36)
    simpa using this
  · have := Blk.new ((w.alloc (.cells #[ptr p] 28)).alloc (.cells #[.int .i64 (all : Int)] 3)) 36 #[.func (.func 26) #[] #[ptr w.heap.size, ptr (w.heap.size + 1), ptr (w.heap.size + 1 + 1)]]
    simpa using this

theorem length_bad (B p : Nat) (x y z b : UInt8) (at_ v sh : Value) (w : World) (hB : Blk w p 39 #[at_, v, sh]) (hown : w.ownsRow B 5 1 v 3 (bv [x, y, z])) (hBp : B ≤ p) (hbad : be x y z b < 5 ∨ 16384 < be x y z b) :
    Calls Try.prog 23 #[ptr p, .int .u8 (b.toNat : Int)] w fun e w' => e = .returned (.tuple #[.bool false, .int .i64 5, .nilFunc]) ∧
      (∃ v', Blk w' p 39 #[at_, v', sh]) ∧ Fr B p w w' := by
  obtain ⟨i0, hi0, hz0, hz1, hz2⟩ := info_parts info5
  have hlt := hB.lt
  have hB1 := hB.alloc (.cells #[.int .u8 (b.toNat : Int)] 5)
  have c1 := hB.cell 1
  have hN := be_bits x y z b
  generalize be x y z b = N at hN hbad
  rcases Nat.lt_or_ge N 5 with h5 | h5
  · have g1 : decide ((N : Int) < 5) = true := by simp; omega
    clear hbad h5
    go_enter Try.func23, Try.ntmps23
    go_wp2_with (at_builtin; refine wpList_append_lies _ rfl _ _ _ rfl B 5 i0 _ 1 1 Try.underlying37 hi0 hz0 hz1 hz2 rfl (by omega) v 3 (bv [x, y, z]) rfl (hown.alloc _) ⟨w.heap.size, 0, none⟩ 1 1 [.int .u8 (b.toNat : Int)] (by rfl) (by rfl) (World.news_of_block (cs := #[.int .u8 (b.toNat : Int)]) (t := 5) (fr := (0, 0)) (heap_alloc_new w _)) (by simp [Value.oneCell']) (by omega) (by simp [maxLen]) (by omega) (by simp; omega) (w.heap.size + 1) (by simp) ?_; intro g cap w1 hown1 hgrow hat hlt1; obtain ⟨a1, a2, a3, a4, a5⟩ := appended (bs := [x, y, z]) hB hown hBp hown1 hgrow; simp only [List.length_cons, List.length_nil, Nat.zero_add, Nat.reduceAdd] at a3 a4 a5; have e0 := a1.cell 1; have e1 := a1.frozen 1; have e2 := a3.cell 1; have r0 := a4.cellAt 0 (by omega); have r1 := a4.cellAt 1 (by omega); have r2 := a4.cellAt 2 (by omega); have r3 := a4.cellAt 3 (by omega); simp [bv] at r0 r1 r2 r3)
    go_quiet (fail)
    go_wp2
    go_ret3
    exact ⟨rfl, ⟨_, a3.drewN _⟩, a5.drewN _⟩
  · have g1 : decide ((N : Int) < 5) = false := by simp; omega
    have g2 : decide ((16384 : Int) < N) = true := by simp; omega
    clear hbad h5
    go_enter Try.func23, Try.ntmps23
    go_wp2_with (at_builtin; refine wpList_append_lies _ rfl _ _ _ rfl B 5 i0 _ 1 1 Try.underlying37 hi0 hz0 hz1 hz2 rfl (by omega) v 3 (bv [x, y, z]) rfl (hown.alloc _) ⟨w.heap.size, 0, none⟩ 1 1 [.int .u8 (b.toNat : Int)] (by rfl) (by rfl) (World.news_of_block (cs := #[.int .u8 (b.toNat : Int)]) (t := 5) (fr := (0, 0)) (heap_alloc_new w _)) (by simp [Value.oneCell']) (by omega) (by simp [maxLen]) (by omega) (by simp; omega) (w.heap.size + 1) (by simp) ?_; intro g cap w1 hown1 hgrow hat hlt1; obtain ⟨a1, a2, a3, a4, a5⟩ := appended (bs := [x, y, z]) hB hown hBp hown1 hgrow; simp only [List.length_cons, List.length_nil, Nat.zero_add, Nat.reduceAdd] at a3 a4 a5; have e0 := a1.cell 1; have e1 := a1.frozen 1; have e2 := a3.cell 1; have r0 := a4.cellAt 0 (by omega); have r1 := a4.cellAt 1 (by omega); have r2 := a4.cellAt 2 (by omega); have r3 := a4.cellAt 3 (by omega); simp [bv] at r0 r1 r2 r3)
    go_quiet (fail)
    go_wp2
    go_ret3
    exact ⟨rfl, ⟨_, a3.drewN _⟩, a5.drewN _⟩

theorem length_next (B p : Nat) (x y z b : UInt8) (at_ v sh : Value) (w : World) (hB : Blk w p 39 #[at_, v, sh]) (hown : w.ownsRow B 5 1 v 3 (bv [x, y, z])) (hBp : B ≤ p) (h5 : 5 ≤ be x y z b) (h6 : be x y z b ≤ 16384) :
    Calls Try.prog 23 #[ptr p, .int .u8 (b.toNat : Int)] w fun e w' => ∃ f, e = .returned (.tuple #[.bool false, .int .i64 0, f]) ∧ BodyF w' B p (4 + be x y z b) f ∧
      (∃ v', Blk w' p 39 #[at_, v', sh] ∧ w'.ownsRow B 5 1 v' 4 (bv [x, y, z, b])) ∧ Fr B p w w' := by
  obtain ⟨i0, hi0, hz0, hz1, hz2⟩ := info_parts info5
  have hlt := hB.lt
  have hB1 := hB.alloc (.cells #[.int .u8 (b.toNat : Int)] 5)
  have c1 := hB.cell 1
  have hN := be_bits x y z b
  generalize be x y z b = N at hN h5 h6 ⊢
  have g1 : decide ((N : Int) < 5) = false := by simp; omega
  have g2 : decide ((16384 : Int) < N) = false := by simp; omega
  have g3 : wrap64 (N : Int) = (N : Int) := by unfold wrap64; omega
  have g4 : wrap64 (4 + (N : Int)) = ((4 + N : Nat) : Int) := by unfold wrap64; omega
  go_enter Try.func23, Try.ntmps23
  go_wp2_with (at_builtin; refine wpList_append_lies _ rfl _ _ _ rfl B 5 i0 _ 1 1 Try.underlying37 hi0 hz0 hz1 hz2 rfl (by omega) v 3 (bv [x, y, z]) rfl (hown.alloc _) ⟨w.heap.size, 0, none⟩ 1 1 [.int .u8 (b.toNat : Int)] (by rfl) (by rfl) (World.news_of_block (cs := #[.int .u8 (b.toNat : Int)]) (t := 5) (fr := (0, 0)) (heap_alloc_new w _)) (by simp [Value.oneCell']) (by omega) (by simp [maxLen]) (by omega) (by simp; omega) (w.heap.size + 1) (by simp) ?_; intro g cap w1 hown1 hgrow hat hlt1; obtain ⟨a1, a2, a3, a4, a5⟩ := appended (bs := [x, y, z]) hB hown hBp hown1 hgrow; simp only [List.length_cons, List.length_nil, Nat.zero_add, Nat.reduceAdd] at a3 a4 a5; have e0 := a1.cell 1; have e1 := a1.frozen 1; have e2 := a3.cell 1; have r0 := a4.cellAt 0 (by omega); have r1 := a4.cellAt 1 (by omega); have r2 := a4.cellAt 2 (by omega); have r3 := a4.cellAt 3 (by omega); simp [bv] at r0 r1 r2 r3)
  go_quiet (fail)
  go_wp2_with fail
  have hs := a5.size
  have hq : (w1.setCell ⟨p, 1, none⟩ (.slice (some ⟨g, 0, none⟩) 4 cap)).heap.size = ((w1.setCell ⟨p, 1, none⟩ (.slice (some ⟨g, 0, none⟩) 4 cap)).drewN nq).heap.size := by simp
  refine (body_any B p (4 + N) _ (by omega) (by omega)).mono ?_
  rintro e w2 ⟨f, rfl, hf, hb⟩
  go_wp2
  go_ret3
  refine ⟨f, rfl, hf, ⟨_, (a3.drewN _).go hb, ?_⟩, (a5.drewN nq).grown (gb_below hb none) (fun _ e => by cases e)⟩
  exact (a4.kept (gb_drewN none nq (gb_below (Below.refl _ _) none)) (by right; simp [Value.ownBlock])).kept (gb_below hb none) (by right; simp [Value.ownBlock])

/-! ### a body's byte -/
theorem Blk.onto {B n s g : Nat} {t : TypeId} {cs : Array Value} {v : Value} {xs : List Value} {o : Obj} {w w1 : World} (h : Blk w g t cs) (ht : t ≠ 5) (hown : w.ownsRow B 5 s v n xs) (hg : (w.alloc o).grownBy w1 v.ownBlock) : Blk w1 g t cs :=
  (h.alloc o).grown hg (own_ne (h.alloc o) (hown.alloc o) ht)
theorem own_drewN {w : World} {B e s n : Nat} {v : Value} {xs : List Value} (h : w.ownsRow B e s v n xs) (k : Nat) : (w.drewN k).ownsRow B e s v n xs := h.kept (row := none) (gb_drewN none k (gb_below (Below.refl _ _) none)) (by cases hv : v.ownBlock <;> simp)
theorem blk_ne {w : World} {g h : Nat} {t u : TypeId} {cs ds : Array Value} (k : Blk w g t cs) (l : Blk w h u ds) (ht : t ≠ u) : g ≠ h := fun e => by
  subst e
  unfold Blk at k l
  rw [l] at k
  injection k with k; injection k with _ k; exact ht k.symm
set_option maxHeartbeats 1600000 in
theorem body_wait (B p all : Nat) (bs : List UInt8) (b : UInt8) (at_ v sh f : Value) (c : Nat) (w : World) (hB : Blk w p 39 #[at_, v, sh]) (hown : w.ownsRow B 5 1 v bs.length (bv bs)) (hBp : B ≤ p)
    (k1 : Blk w c 28 #[ptr p]) (k2 : Blk w (c + 1) 3 #[.int .i64 (all : Int)]) (k3 : Blk w (c + 2) 36 #[f]) (hl : bs.length + 1 < all) (ha : all ≤ 16388) :
    Calls Try.prog 26 #[.int .u8 (b.toNat : Int), ptr c, ptr (c + 1), ptr (c + 2)] w fun e w' => e = .returned (.tuple #[.bool false, .int .i64 0, f]) ∧
      (∃ v', Blk w' p 39 #[at_, v', sh] ∧ w'.ownsRow B 5 1 v' (bs.length + 1) (bv (bs ++ [b]))) ∧ Fr B p w w' := by
  obtain ⟨i0, hi0, hz0, hz1, hz2⟩ := info_parts info5
  have hlt := hB.lt
  have e0 := k1.cell 0
  have e1 := hB.cell 1
  have d1 := (hB.alloc (.cells #[.int .u8 (b.toNat : Int)] 5)).cell 1
  have f0 := (k1.alloc (.cells #[.int .u8 (b.toNat : Int)] 5)).cell 0
  have hcp := blk_ne k1 hB (by decide)
  have hcp1 := blk_ne k2 hB (by decide)
  have hcp2 := blk_ne k3 hB (by decide)
  have g1 : decide (((bs.length : Nat) : Int) + 1 < (all : Int)) = true := by simp; omega
  go_enter Try.func26, Try.ntmps26
  go_wp2_with fail
  go_region_law
    ((refine step_append_lies _ (by rfl) _ _ _ (by rfl) B 5 i0 _ 1 1 Try.underlying37 hi0 hz0 hz1 hz2 rfl (by omega) v bs.length (bv bs) (by rfl) ((hown.alloc _).drew) ⟨w.heap.size, 0, none⟩ 1 1 [.int .u8 (b.toNat : Int)] (by rfl) (by rfl) (World.news_of_block (cs := #[.int .u8 (b.toNat : Int)]) (t := 5) (fr := (0, 0)) (heap_alloc_new w _)) (by simp [Value.oneCell']) (by omega) (by simp [maxLen]; omega) (by omega) (by simp; omega) (w.heap.size + 1) (by simp) ?_; intro g cap w1 hown1 hgrow hat hlt1; have hgrow : (w.alloc (.cells #[.int .u8 (b.toNat : Int)] 5)).grownBy w1 v.ownBlock := ⟨hgrow.os, hgrow.tape, hgrow.output, hgrow.size, hgrow.block⟩; obtain ⟨a1, a2, a3, a4, a5⟩ := appended hB hown hBp hown1 hgrow; have y0 : w1.cell? ⟨c, 0, none⟩ = some (ptr p) := (Blk.onto k1 (by decide) hown hgrow).cell 0; have y1 : w1.cell? ⟨p, 1, none⟩ = some v := a1.cell 1; have x2 := a1.frozen 1; have y2 := Blk.fr k1 a5 hcp (by decide); have y3 := y2.cell 0; have y4 := (Blk.fr k2 a5 hcp1 (by decide)).cell 0; have y5 := (Blk.fr k3 a5 hcp2 (by decide)).cell 0; have y6 := a3.cell 1))
  all_goals go_wp2
  all_goals go_quiet (fail)
  all_goals go_wp2
  all_goals go_quiet (fail)
  all_goals go_wp2
  all_goals go_ret3
  all_goals exact ⟨rfl, ⟨_, (a3.drewN _).drewN _, own_drewN (own_drewN a4 _) _⟩, (a5.drewN _).drewN _⟩
set_option maxHeartbeats 1600000 in
theorem body_done (B p all : Nat) (bs : List UInt8) (b : UInt8) (at_ v sh f : Value) (c : Nat) (w : World) (hB : Blk w p 39 #[at_, v, sh]) (hown : w.ownsRow B 5 1 v bs.length (bv bs)) (hBp : B ≤ p)
    (k1 : Blk w c 28 #[ptr p]) (k2 : Blk w (c + 1) 3 #[.int .i64 (all : Int)]) (k3 : Blk w (c + 2) 36 #[f]) (hl : all ≤ bs.length + 1) (ha : bs.length < 16388) :
    Calls Try.prog 26 #[.int .u8 (b.toNat : Int), ptr c, ptr (c + 1), ptr (c + 2)] w fun e w' => e = .returned (.tuple #[.bool true, .int .i64 0, lenF p]) ∧
      (∃ v', Blk w' p 39 #[at_, v', sh] ∧ w'.ownsRow B 5 1 v' (bs.length + 1) (bv (bs ++ [b]))) ∧ Fr B p w w' := by
  obtain ⟨i0, hi0, hz0, hz1, hz2⟩ := info_parts info5
  have hlt := hB.lt
  have e0 := k1.cell 0
  have e1 := hB.cell 1
  have d1 := (hB.alloc (.cells #[.int .u8 (b.toNat : Int)] 5)).cell 1
  have f0 := (k1.alloc (.cells #[.int .u8 (b.toNat : Int)] 5)).cell 0
  have hcp := blk_ne k1 hB (by decide)
  have hcp1 := blk_ne k2 hB (by decide)
  have hcp2 := blk_ne k3 hB (by decide)
  have g1 : decide (((bs.length : Nat) : Int) + 1 < (all : Int)) = false := by simp; omega
  go_enter Try.func26, Try.ntmps26
  go_wp2_with fail
  go_region_law
    ((refine step_append_lies _ (by rfl) _ _ _ (by rfl) B 5 i0 _ 1 1 Try.underlying37 hi0 hz0 hz1 hz2 rfl (by omega) v bs.length (bv bs) (by rfl) ((hown.alloc _).drew) ⟨w.heap.size, 0, none⟩ 1 1 [.int .u8 (b.toNat : Int)] (by rfl) (by rfl) (World.news_of_block (cs := #[.int .u8 (b.toNat : Int)]) (t := 5) (fr := (0, 0)) (heap_alloc_new w _)) (by simp [Value.oneCell']) (by omega) (by simp [maxLen]; omega) (by omega) (by simp; omega) (w.heap.size + 1) (by simp) ?_; intro g cap w1 hown1 hgrow hat hlt1; have hgrow : (w.alloc (.cells #[.int .u8 (b.toNat : Int)] 5)).grownBy w1 v.ownBlock := ⟨hgrow.os, hgrow.tape, hgrow.output, hgrow.size, hgrow.block⟩; obtain ⟨a1, a2, a3, a4, a5⟩ := appended hB hown hBp hown1 hgrow; have y0 : w1.cell? ⟨c, 0, none⟩ = some (ptr p) := (Blk.onto k1 (by decide) hown hgrow).cell 0; have y1 : w1.cell? ⟨p, 1, none⟩ = some v := a1.cell 1; have x2 := a1.frozen 1; have y2 := Blk.fr k1 a5 hcp (by decide); have y3 := y2.cell 0; have y4 := (Blk.fr k2 a5 hcp1 (by decide)).cell 0; have y5 := (Blk.fr k3 a5 hcp2 (by decide)).cell 0; have y6 := a3.cell 1))
  all_goals go_wp2
  all_goals go_quiet (fail)
  all_goals go_wp2
  all_goals go_region
  all_goals go_wp2
  all_goals go_ret3
  all_goals exact ⟨rfl, ⟨_, (a3.drewN _).drew, own_drewN a4 _⟩, (a5.drewN _).drew⟩
end Go.Proofs.Ytedkfhgpahjleaa.Base
