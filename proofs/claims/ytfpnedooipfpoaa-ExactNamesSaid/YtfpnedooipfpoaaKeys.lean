/- The keys, sorted: Keys (17); a copy: Copy (18). Conditions: as each contract says. -/
import Derived.Test.YtfpnedooipfpoaaDel
import Derived.Laws.AppendOwn
import Derived.Shelf.SortM.Plain
import Derived.Shelf.SortM.SortNone
import Derived.Shelf.SlicesE.Clone
import Derived.Shelf.SlGeneric
import Derived.Ground.SlgmProg
import Derived.Ground.SlgnProg
import Derived.Sort.OwnSorted
set_option linter.unusedVariables false
set_option linter.unusedSimpArgs false
namespace Go.Proofs.Ytfpnedooipfpoaa.Base
open Go Go.RowKit Go.Proofs.Ytfpnedooipfpoaa Go.Proofs.Ytfpnedooipfpoaa.Ex Go.Proofs.Ytfpnedooipfpoaa.Mem Go.Proofs.Ytfpnedooipfpoaa.Math Go.Proofs.YtfpnedooipfpoaaW.PrintWords Go.Proofs.YtfpnedooipfpoaaW.PrintLast Go.Proofs.Ytfpnedooipfpoaa.PExactHalf
open Go.Shelf in
shelf_lay_g SlLaysM.n6 Slgm 6 at Try 24 as Try.sortA
open Go.Shelf in
shelf_lay_g SlLaysE0.n41 Slgn 41 at Try 25 as Try.cloneA
def srtB (l : List Key) : List Key := ((l.map fun k => k.data.toList).mergeSort fun x y => decide (x ≤ y)).map fun s => (⟨s.toArray⟩ : ByteArray)
theorem srtB_perm (l : List Key) : (srtB l).Perm l := by
  have h := (List.mergeSort_perm (l.map fun k => k.data.toList) fun x y => decide (x ≤ y)).map fun s => (⟨s.toArray⟩ : ByteArray)
  rw [List.map_map, show ((fun s : List UInt8 => (⟨s.toArray⟩ : ByteArray)) ∘ fun k : Key => k.data.toList) = id from funext fun k => by show (⟨k.data.toList.toArray⟩ : ByteArray) = k; rw [Array.toArray_toList], List.map_id] at h
  exact h
theorem app_one {ops : Array Oper} {rest : List Oper} {o : Oper} {a : Act} {Q : Exit → Act → World → Prop} {w : World} (hgd : o.guard = none) (s x : Operand)
    (ho : o.op = .call { callee := .builtin .append, args := #[s, x], argTypes := #[36, 36] }) {v : Value} {n N q c : Nat} {xs : List Value} {k : Key} (hs : a.eval s = v) (hx : a.eval x = .slice (some ⟨q, 0, none⟩) 1 c)
    (hc : w.cell? ⟨q, 0, none⟩ = some (.string k)) (hv : w.ownsRow N 9 1 v n xs) (hn : n + 1 ≤ 2000000000) (hN : N ≤ w.heap.size)
    (h : ∀ v' w', Hid (w'.ownsRow N 9 1 v' (n + 1) (xs ++ [.string k])) → Hid (w.grownBy w' v.ownBlock) → wpList Try.prog ops Q rest (a.put o.dst v') w') : wpList Try.prog ops Q (o :: rest) a w := by
  obtain ⟨i0, hi0, hz0, hz1, hz2⟩ := info_parts info9
  refine wpList_append_own w hgd s x 36 ho N 9 i0 _ 1 16 Try.underlying36 hi0 hz0 hz1 hz2 rfl (by omega) v n xs hs hv ⟨q, 0, none⟩ 1 c [.string k] hx rfl (fun j y hj => ?_) (fun u hu => by simp at hu; subst hu; rfl) (by unfold maxLen; omega) (by omega) hN (fun v' w' k1 k2 _ => h v' w' k1 k2)
  have hj0 : j = 0 := by
    have := (List.getElem?_eq_some_iff.1 hj).1
    simp at this
    exact this
  subst hj0
  simp at hj
  subst hj
  rw [Mem.add_at]
  exact hc
theorem own_base {w : World} {N e s n k : Nat} {v : Value} {xs : List Value} (h : w.ownsRow N e s v n xs) (hk : v.ownBlock = some k) : N ≤ k := (h.lt k hk).1
def kRow (L : Slots) (i : Nat) : List Value := (keysL (L.take i)).map Value.string
theorem kRow_next (L : Slots) (i : Nat) (hi : i < L.length) : kRow L (i + 1) = (match gt L i with | none => kRow L i | some e => kRow L i ++ [.string e.1]) := by
  have h1 : L.take (i + 1) = L.take i ++ [gt L i] := by rw [gt_getElem hi, List.take_succ_eq_append_getElem hi]
  unfold kRow keysL
  rw [h1, List.filterMap_append, List.map_append]
  cases gt L i with
  | none => simp
  | some e => simp
theorem kRow_le (L : Slots) (i : Nat) : (kRow L i).length ≤ i := by
  unfold kRow keysL
  rw [List.length_map]
  refine Nat.le_trans (List.length_filterMap_le ..) ?_
  rw [List.length_take]
  omega
def KyR (w : World) (L : Slots) (t3 t13 : Value) (wr : World) : Prop := ∃ i : Nat, t13 = .int .i64 (i : Int) ∧ i ≤ L.length ∧ wr.ownsRow w.heap.size 9 1 t3 (kRow L i).length (kRow L i) ∧ Below w.heap.size w wr
def KeysEnd (w : World) (l : List Key) (e : Ending) (w' : World) : Prop := ∃ v, e = .returned v ∧ w'.ownsRow w.heap.size 9 1 v l.length (l.map Value.string) ∧ Below w.heap.size w w'
theorem sort_any (l : List Key) (v : Value) (w w0 : World) (N : Nat) (hv : w.ownsRow N 9 1 v l.length (l.map Value.string)) (hN : N ≤ w.heap.size) (hb : Below N w0 w) (hl : l.length ≤ 2000000000) :
    Calls Try.prog 24 #[v] w fun e w' => e = .returned (.tuple #[]) ∧ w'.ownsRow N 9 1 v l.length ((srtB l).map Value.string) ∧ Below N w0 w' := by
  rcases hv.2 with ⟨rfl, h1⟩ | ⟨g, cap, cur, rfl, hbg, hh, hc, hm, hsz, htk⟩
  · have hS := AnyM.slices_Sort_string_none Try.sortA none 0 w
    change Calls Try.prog 24 _ _ _ at hS
    refine hS.mono ?_
    rintro e w1 ⟨rfl, rfl⟩
    have : l = [] := by simpa using h1
    subst this
    exact ⟨rfl, by rw [show srtB [] = [] from by simp [srtB]]; exact hv, hb⟩
  · have hblk : g < w.heap.size := (Array.getElem?_eq_some_iff.1 hh).1
    rw [Nat.mul_one] at htk
    have e1 : l.map Value.string = (l.map fun k => k.data.toList).map encStr := by
      rw [List.map_map]
      refine List.map_congr_left fun k _ => ?_
      show Value.string k = Value.string ⟨k.data.toList.toArray⟩
      rw [Array.toArray_toList]
    have hl2 : (l.map fun k => k.data.toList).length = l.length := List.length_map ..
    have hH : Go.Sort.Holds encStr w g 0 (l.map fun k => k.data.toList).toArray := holds_of_block hh (by rw [hl2, ← e1]; exact htk)
    have hS := AnyM.slices_Sort_string Try.sortA g 0 cap (l.map fun k => k.data.toList) w hH hblk (by omega)
    change Calls Try.prog 24 _ _ _ at hS
    rw [hl2] at hS
    refine hS.mono ?_
    rintro e w1 ⟨rfl, n, os, rfl⟩
    have hlt : ((l.map fun k => k.data.toList).mergeSort fun x y => decide (x ≤ y)).length = (l.map fun k => k.data.toList).length := List.length_mergeSort ..
    have ho1 := ownsRow_sorted (n := n) (os := os) (ss := l.map fun k => k.data.toList) (ts := (l.map fun k => k.data.toList).mergeSort fun x y => decide (x ≤ y)) hlt hbg hh (by rw [hl2]; exact hc) hm hsz
    have hg1 := grownBy_sorted (w := w) (g := g) (n := n) (os := os) ((l.map fun k => k.data.toList).mergeSort fun x y => decide (x ≤ y)).toArray
    rw [hl2] at ho1
    refine ⟨rfl, ?_, hb.grown hg1 hN (fun j e => by cases e; exact hbg)⟩
    have e2 : (srtB l).map Value.string = ((l.map fun k => k.data.toList).mergeSort fun x y => decide (x ≤ y)).map encStr := by
      unfold srtB
      rw [List.map_map]
      rfl
    rw [e2]
    exact ho1
theorem sizeOf45 (w : World) : (Go.sizeOf 45).run Try.prog w = .ok 3 w := by
  obtain ⟨i45, hi45, hz0, hz1, hz2⟩ := info_parts info45
  simp [sizeOf, typeInfo, hi45, hz1]
theorem clone_any (g c B : Nat) (L : Slots) (w : World) (hl : 1 ≤ L.length) (hn : L.length ≤ 1073741824) (h : w.ownsRow B 45 3 (.slice (some ⟨g, 0, none⟩) L.length c) L.length (sc L)) :
    Calls Try.prog 25 #[.slice (some ⟨g, 0, none⟩) L.length c] w fun e w' => ∃ g' c', e = .returned (.slice (some ⟨g', 0, none⟩) L.length c') ∧ w'.ownsRow w.heap.size 45 3 (.slice (some ⟨g', 0, none⟩) L.length c') L.length (sc L) ∧ Below w.heap.size w w' := by
  obtain ⟨i45, hi45, hz0, hz1, hz2⟩ := info_parts info45
  have hC := AnyE.slices_Clone Try.cloneA i45 (.agg #[.bool false, .string ⟨#[]⟩, .int .i64 0]) 3 32 hi45 hz0 hz1 hz2 rfl (by decide) sizeOf45 g 0 L.length c (sc L) w (flat_len sc_f L) (by unfold maxLen; omega) (by omega)
    (fun j u hu => by
      have hj := (List.getElem?_eq_some_iff.1 hu).1
      rw [show (sc L).length = L.length * 3 from flat_len sc_f L] at hj
      rw [Nat.zero_add, h.cellAt j hj]
      exact hu) (sc_one L)
  change Calls Try.prog 25 _ _ _ at hC
  refine hC.mono ?_
  rintro e w' ⟨v, rfl, ho, -, hb⟩
  rcases ho.2 with ⟨rfl, h1⟩ | ⟨g', cap, cur, rfl, hbg, hh, hc, hm, hsz, htk⟩
  · omega
  · exact ⟨g', cap, rfl, ho, hb⟩
set_option maxHeartbeats 3200000 in
set_option maxRecDepth 100000 in
theorem keys_any (a : Nat) (O : Nat → Prop) (T : Tb) (w : World) (h : Tto w a O T) : Calls Try.prog 17 #[ptr a] w (KeysEnd w (srtB (keysL T.L))) := by
  obtain ⟨h1, g, cap, h2, h3, h4, h5, h6, h7⟩ := h
  have HM := Lib.hid h2
  have hpos := h4.pos
  have c0 := h2.box.cell 0
  rw [show #[Value.slice (some ⟨g, 0, none⟩) T.L.length cap, .int .i64 (T.n : Int)][0]? = some (.slice (some ⟨g, 0, none⟩) T.L.length cap) from rfl] at c0
  obtain ⟨m, hm⟩ : ∃ m, T.L.length = m := ⟨_, rfl⟩
  have HMM := Lib.hid hm
  rw [hm] at c0 hpos
  clear hm h1 h2 h3 h4 h5 h6 h7
  have km : (m : Int) ≤ 1073741824 := by omega
  have HPOS := Lib.hid hpos
  clear hpos
  have HX0 := Lib.hid (show KyR w T.L (.slice none 0 0) (.int .i64 0) w from ⟨0, rfl, Nat.zero_le _, ⟨by simp [kRow, keysL], .inl ⟨rfl, by simp [kRow, keysL]⟩⟩, Below.refl _ _⟩)
  go_enter Try.func17, Try.ntmps17
  go_wp2_with fail
  go_loopw [3, 13] (fun t3 t13 wr => KyR w T.L t3 t13 wr) (fun _ t13 _ => m - (intOf t13).toNat)
  case atStart => exact HX0.out
  case round =>
    clear HX0 c0
    obtain ⟨i, rfl, hi, hro, hb⟩ := hrel
    have HR := Lib.hid hro
    have HB := Lib.hid hb
    rw [HMM.out] at hi
    clear hro hb
    by_cases him : i < m
    · have k0 : (i : Int) < (m : Int) := by omega
      have k1 : (0 : Int) ≤ (i : Int) := by omega
      have HIL := Lib.hid (show i < T.L.length by rw [HMM.out]; exact him)
      have HMR := Lib.hid (HM.out.go HB.out)
      obtain ⟨b, k, v, d0, d1, d2, -, hgt, -⟩ := HMR.out.at_ i HIL.out
      have HGT := Lib.hid hgt
      clear hgt
      have HSZ := Lib.hid (show w.heap.size ≤ wr.heap.size from HB.out.size)
      cases b with
      | false =>
        have HKN := Lib.hid (show kRow T.L (i + 1) = kRow T.L i by rw [kRow_next _ _ HIL.out, HGT.out]; rfl)
        go_wp2_with fail
        go_roundw
        case rel =>
          refine ⟨i + 1, by rw [Int.natCast_add] <;> rfl, HIL.out, ?_, below_alloc HB.out _⟩
          rw [HKN.out]
          exact HR.out.alloc _
        case measure =>
          have := HIL.out
          rw [show ((i : Int) + 1) = ((i + 1 : Nat) : Int) by omega]
          simp only [intOf, Int.toNat_natCast]
          omega
      | true =>
        have HKN := Lib.hid (show kRow T.L (i + 1) = kRow T.L i ++ [.string k] by rw [kRow_next _ _ HIL.out, HGT.out]; rfl)
        have HLE := Lib.hid (kRow_le T.L i)
        go_upto_region 8 with (fail)
        have HX := Lib.hid (Blk.new wr 45 #[.bool true, .string k, .int .i64 v])
        have HR2 := Lib.hid (HR.out.alloc (.cells #[.bool true, .string k, .int .i64 v] 45))
        have HB2 := Lib.hid (below_alloc HB.out (.cells #[.bool true, .string k, .int .i64 v] 45))
        have e1 := HX.out.cell 1
        clear d0 d1 d2
        generalize wr.alloc (.cells #[.bool true, .string k, .int .i64 v] 45) = w2 at *
        generalize wr.heap.size = q at *
        have HS2 := Lib.hid (show w.heap.size ≤ w2.heap.size from HB2.out.size)
        have HL := Lib.hid (show (w2.alloc (.cells #[.string k] 9)).cell? ⟨w2.heap.size, 0, none⟩ = some (.string k) from (Blk.new w2 9 #[.string k]).cell 0)
        have HR3 := Lib.hid (HR2.out.alloc (.cells #[.string k] 9))
        have HB3 := Lib.hid (below_alloc HB2.out (.cells #[.string k] 9))
        have HS3 := Lib.hid (show w.heap.size ≤ (w2.alloc (.cells #[.string k] 9)).heap.size by have := HS2.out; simp; omega)
        have HN3 := Lib.hid (show (kRow T.L i).length + 1 ≤ 2000000000 by have := HLE.out; have := HPOS.out; omega)
        go_wp2_with (at_builtin; (with_reducible refine app_one (v := u3) (q := w2.heap.size) (c := 1) (n := (kRow T.L i).length) (N := w.heap.size) (xs := kRow T.L i) (k := k) ?gd (.tmp 19) (.tmp 22) ?op ?e1 ?e2 HL.out HR3.out HN3.out HS3.out ?go); (case gd => rfl); (case op => rfl); (case e1 => rfl); (case e2 => rfl); intro v2 w4 ho2 hg2)
        clear HL
        go_roundw
        case rel =>
          refine ⟨i + 1, by rw [Int.natCast_add] <;> rfl, HIL.out, ?_, ?_⟩
          · rw [HKN.out]
            have := ho2.out
            rw [List.length_append]
            exact this
          · exact HB3.out.grown hg2.out HS3.out (fun j hj => own_base HR.out hj)
        case measure =>
          have := HIL.out
          rw [show ((i : Int) + 1) = ((i + 1 : Nat) : Int) by omega]
          simp only [intOf, Int.toNat_natCast]
          omega
    · have k0 : ¬ (i : Int) < (m : Int) := by omega
      have hie : i = T.L.length := by have := HMM.out; omega
      have hkr : kRow T.L i = (keysL T.L).map Value.string := by rw [hie]; unfold kRow; rw [List.take_length]
      have HR2 := Lib.hid (show wr.ownsRow w.heap.size 9 1 u3 (keysL T.L).length ((keysL T.L).map Value.string) by have := HR.out; rw [hkr, List.length_map] at this; exact this)
      have HLN := Lib.hid (show (keysL T.L).length ≤ 2000000000 by have h1 := kRow_le T.L i; rw [hkr, List.length_map] at h1; have := HPOS.out; omega)
      clear hie hkr
      go_wp2_with fail
      refine (sort_any (keysL T.L) _ wr w w.heap.size HR2.out HB.out.size HB.out HLN.out).mono ?_
      rintro e w2 ⟨rfl, ho, hb⟩
      have HO := Lib.hid ho
      have HB2 := Lib.hid hb
      clear ho hb
      go_wp2_with fail
      go_ret
      exact ⟨_, rfl, by rw [(srtB_perm (keysL T.L)).length_eq]; exact HO.out, HB2.out⟩
end Go.Proofs.Ytfpnedooipfpoaa.Base
