/- The blocks of a group: what the inner function tells. Conditions: as each contract says. -/
import Derived.Test.YtpmckbpplkkgaaaBlocksLoop
import Derived.Shelf.SortM.Plain
import Derived.Shelf.SortM.SortNone
import Derived.Shelf.SlicesE.Compact
import Derived.Shelf.SlGeneric
import Derived.Ground.SlgmProg
import Derived.Ground.SlgnProg
import Derived.Sort.OwnSortedInts
set_option linter.unusedVariables false
set_option linter.unusedSimpArgs false
namespace Go.Proofs.Ytpmckbpplkkgaaa.Base
open Go Go.RowKit Go.Proofs.Ytpmckbpplkkgaaa.Mem Go.Proofs.YtpmckbpplkkgaaaW.PrintWords Go.Proofs.YtpmckbpplkkgaaaW.PrintLast Go.Proofs.Ytpmckbpplkkgaaa.Fl
open Go.Proofs.Ytpmckbpplkkgaaa.PGroupTells (S34 z34 k34 k34_open k34_mk)
open Go.Shelf in
shelf_lay_g SlLaysM.n5 Slgm 5 at Try 26 as Try.sortA
open Go.Shelf in
shelf_lay_g SlLaysE.n43 Slgn 43 at Try 27 as Try.compactA
theorem own_Cpre {w : World} {N : Nat} {e : TypeId} {k : IntKind} {g cap n : Nat} {xs ys : List Int} (hn : n = xs.length + ys.length) (h : w.ownsRow N e 1 (.slice (some ⟨g, 0, none⟩) n cap) n ((xs ++ ys).map (Value.int k))) (hl : xs.length < 1000000000) : Kd.C (Kd.int k) w (some ⟨g, 0, none⟩) xs.length xs := by
  subst hn
  refine ⟨rfl, by omega, fun _ => ⟨_, rfl, fun j p hj => ⟨[.int k p], rfl, rfl, fun i u hu => ?_⟩⟩⟩
  have hi : i = 0 := by
    have := (List.getElem?_eq_some_iff.1 hu).1
    simp at this
    omega
  subst hi
  simp at hu
  subst hu
  have hj' : j < xs.length := (List.getElem?_eq_some_iff.1 hj).1
  show w.cell? (Addr.add ⟨g, 0, none⟩ (j * 1 + 0)) = _
  rw [Mem.add_at, Nat.zero_add, h.cellAt (j * 1 + 0) (by omega)]
  simp only [Nat.mul_one, Nat.add_zero, List.getElem?_map]
  rw [List.getElem?_append_left hj', hj]
  rfl
def srt (xs : List Int) : List Int := xs.mergeSort fun x y => decide (x ≤ y)
def blkOf (xs : List Int) : List Int := Go.Lib.compactUpTo (srt xs).toArray (srt xs).toArray.size
theorem srt_len (xs : List Int) : (srt xs).length = xs.length := List.length_mergeSort ..
theorem compact_len (d : Array Int) : ∀ m, (Go.Lib.compactUpTo d m).length ≤ m := by
  intro m
  unfold Go.Lib.compactUpTo
  rw [List.length_map]
  exact Nat.le_trans (List.length_filter_le ..) (by rw [List.length_range]; exact Nat.le_refl _)
theorem blkOf_len (xs : List Int) : (blkOf xs).length ≤ xs.length := by
  have := compact_len (srt xs).toArray (srt xs).toArray.size
  rw [List.size_toArray, srt_len] at this
  unfold blkOf
  rw [List.size_toArray, srt_len]
  exact this
set_option maxHeartbeats 4000000 in
theorem sorts_any : SortsTo blkOf := by
  intro N v xs w w0 ho hB hN h0 hl
  rcases ho.2 with ⟨rfl, h1⟩ | ⟨g, cap, cur, rfl, hb, hh, hc, hm, hsz, htk⟩
  · omega
  have hblk : g < w.heap.size := (Array.getElem?_eq_some_iff.1 hh).1
  rw [Nat.mul_one] at htk
  have hH : Go.Sort.Holds (Value.int .i64) w g 0 xs.toArray := holds_of_blockI hh htk
  have hS := AnyM.slices_Sort_int Try.sortA g 0 cap xs w hH hblk (by omega)
  change Calls Try.prog 26 _ _ _ at hS
  refine hS.mono ?_
  rintro e w1 ⟨rfl, n, os, rfl⟩
  refine ⟨rfl, ?_⟩
  rw [show (xs.mergeSort fun x y => decide (x ≤ y)) = srt xs from rfl]
  have ho1 := ownsRow_sortedI (n := n) (os := os) (ss := xs) (ts := srt xs) (srt_len xs) hb hh hc hm hsz
  have hg1 := grownBy_sortedI (w := w) (g := g) (n := n) (os := os) (srt xs).toArray
  have hB1 := hB.grown hg1 hN (fun j e => by cases e; exact hb)
  rcases ho1.2 with ⟨h, _⟩ | ⟨g1, cap1, cur1, hv, hb1, hh1, hc1, hm1, hsz1, htk1⟩
  · cases h
  cases hv
  have hszW : (Go.Sort.grow (Go.Sort.putRow (Value.int .i64) (Go.Sort.ahead w n) g 0 (srt xs).toArray) os).heap.size ≥ N := Nat.le_trans hN hg1.size
  generalize (Go.Sort.grow (Go.Sort.putRow (Value.int .i64) (Go.Sort.ahead w n) g 0 (srt xs).toArray) os) = W at *
  rw [Nat.mul_one] at htk1
  have hlen : xs.length = (srt xs).length := (srt_len xs).symm
  rw [hlen] at htk1 hc1
  have hH1 : Go.Sort.Holds (Value.int .i64) W g 0 (srt xs).toArray := holds_of_blockI hh1 htk1
  have hC := AnyE.slices_Compact Try.compactA (Value.int .i64) (fun _ => rfl) (EqlAt.intD _ _ _) (NeqAt.intD _ _ _) 0 Try.zeroValue3 g 0 cap (srt xs).toArray W hH1 (by rw [List.size_toArray]; omega) (by rw [List.size_toArray]; exact hc1)
  change Calls Try.prog 27 _ _ _ at hC
  rw [hlen]
  rw [List.size_toArray] at hC
  refine hC.mono ?_
  rintro e W2 ⟨rfl, q, rfl⟩
  have hbl : (blkOf xs) = Go.Lib.compactUpTo (srt xs).toArray (srt xs).length := rfl
  have hcl : (blkOf xs).length ≤ (srt xs).length := by rw [srt_len]; exact blkOf_len xs
  rw [← hbl]
  generalize blkOf xs = ys at *
  have htl : (ys ++ List.replicate ((srt xs).length - ys.length) (0 : Int)).length = (srt xs).length := by rw [List.length_append, List.length_replicate]; omega
  have ho2 := ownsRow_sortedI (n := q) (os := #[]) (ss := srt xs) (ts := ys ++ List.replicate ((srt xs).length - ys.length) (0 : Int)) htl hb1 hh1 hc1 hm1 hsz1
  have hg2 := grownBy_sortedI (w := W) (g := g) (n := q) (os := #[]) (ys ++ List.replicate ((srt xs).length - ys.length) (0 : Int)).toArray
  have hB2 := hB1.grown hg2 hszW (fun j e => by cases e; exact hb)
  have hgr : ∀ X : World, Go.Sort.grow X #[] = X := fun X => by unfold Go.Sort.grow; simp
  rw [hgr] at ho2 hB2
  refine ⟨_, _, rfl, by omega, own_Cpre (ys := List.replicate ((srt xs).length - ys.length) (0 : Int)) (by rw [List.length_replicate]; omega) ho2 (by omega), hB2⟩
theorem gblocks_any (id kind field : Int) (A : Option Addr) (cp : Nat) (l : List S34) (w : World) (hr : Kd.C k34 w A l.length l) (hb : inB l) (hl : l.length < 1000000) :
    Calls Try.prog 14 #[gV id kind field A l.length cp] w (BlEnd w (gblk blkOf id kind field l)) := gblocks_of blkOf sorts_any id kind field A cp l w hr hb hl
end Go.Proofs.Ytpmckbpplkkgaaa.Base
