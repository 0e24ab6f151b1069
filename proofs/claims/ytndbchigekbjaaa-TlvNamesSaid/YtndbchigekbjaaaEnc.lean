/- What the bytes of attributes are, and that Encode makes them. Conditions: as each contract says. -/
import Derived.Test.YtndbchigekbjaaaList
import Derived.Test.YtndbchigekbjaaaPTlvCodesx0
import Derived.Deep.RegionHeld3
set_option linter.unusedVariables false
set_option linter.unusedSimpArgs false
namespace Go.Proofs.Ytndbchigekbjaaa.Base
open Go Go.RowKit Go.Proofs.Ytndbchigekbjaaa.Mem Go.Proofs.YtndbchigekbjaaaW.PrintWords Go.Proofs.Ytndbchigekbjaaa.PTlvCodes
/-- The bytes of attributes, behind others and a type; and the error. -/
def enc (acc : List Int) (last : Int) : List S38 → ByteArray × Int
  | [] => (strOfNums acc, 0)
  | x :: r => if x.f0 ≤ last ∨ x.f1.size = 0 then (⟨#[]⟩, 3) else if 65535 < x.f1.size then (⟨#[]⟩, 5) else enc (((acc ++ [x.f0]) ++ sz x.f1.size) ++ bytesOf x.f1) x.f0 r
/-- How much that is, at most. -/
def tot38 : List S38 → Nat
  | [] => 0
  | x :: r => 3 + x.f1.size + tot38 r
section
variable {P : Program} {ops : Array Oper} {o : Oper} {a : Act} {Q : Exit → Act → World → Prop} {K : Act → World → Prop}
theorem step_row {w0 W : World} (base : Nat) (hw : Region.wanted o (yielded ops a.tmps) = true) (s x : Operand) (t e : TypeId)
    (ho : o.op = .call { callee := .builtin .append, args := #[s, x], argTypes := #[t, t] })
    (ht : P.underlying t = some (.slice e)) (hinfo : (P.info? e).map (fun i => (i.zero, i.size, i.bytes)) = some (some (.int .u8 0), 1, 1))
    (v : Value) (xs ys : List Int) (A : Option Addr) (m c : Nat) (hm0 : 0 < m) (hs : a.eval s = v) (hx : a.eval x = .slice A m c)
    (HO : W.ownsRow base e 1 v xs.length (nums .u8 xs)) (HR : ReadsInt W .u8 A m ys) (HB : Below base w0 W) (hl : xs.length + m ≤ 140737488355328)
    (h : ∀ v1 w1, w1.ownsRow base e 1 v1 (xs ++ ys).length (nums .u8 (xs ++ ys)) → Below base w0 w1 → W.grownBy w1 v.ownBlock → K (a.put o.dst v1) w1) (hbase : base ≤ W.heap.size) :
    if Region.wanted o (yielded ops a.tmps) = true then Oper.wp P o a W K Q else K (a.put o.dst undef) W := by
  obtain ⟨i0, hi, hzz⟩ := Option.map_eq_some_iff.1 hinfo
  simp only [Prod.mk.injEq] at hzz
  obtain ⟨hz0, hz1, hz2⟩ := hzz
  have hm : ys.length = m := HR.1
  obtain ⟨ad, rfl, hcells⟩ := HR.2.2 hm0
  have hc : ∀ j u, (nums .u8 ys)[j]? = some u → W.cell? (ad.add j) = some u := by
    intro j u hu
    have hj : j < ys.length := by
      have := (List.getElem?_eq_some_iff.1 hu).1
      simpa [nums] using this
    rw [hcells j (by omega), ← hu]
    simp [nums, List.getElem?_eq_getElem hj, List.getD_eq_getElem?_getD]
  rw [if_pos hw]
  obtain ⟨v1, w1, hr, hown, hg, _, hat⟩ := run_append_own_at (P := P) W base t o.type e i0 (.int .u8 0) 1 1 ht hi hz0 hz1 hz2 rfl (by decide) v xs.length (nums .u8 xs) HO ad m c (nums .u8 ys) (by simp [nums, hm])
    hc (by intro u hu; simp only [nums, List.mem_map] at hu; obtain ⟨b, _, rfl⟩ := hu; rfl) (by simp only [maxLen]; omega) (by omega) hbase
  unfold Oper.wp execOp
  simp only [ho, resolve, invoke, builtin, Sem.run_bind, Sem.run_pure, Result.andThen_ok, List.map_toArray, List.map_cons, List.map_nil, hs, hx, hr]
  refine h v1 w1 ?_ (HB.grown hg hbase (own_base HO)) hg
  rw [List.length_append, nums_append, hm]
  exact hown
theorem step_str {w0 W : World} (base : Nat) (hw : Region.wanted o (yielded ops a.tmps) = true) (s x : Operand) (t u e : TypeId)
    (ho : o.op = .call { callee := .builtin .append, args := #[s, x], argTypes := #[t, u] })
    (ht : P.underlying t = some (.slice e)) (hu : P.underlying u = some .string) (hinfo : (P.info? e).map (fun i => (i.zero, i.size, i.bytes)) = some (some (.int .u8 0), 1, 1))
    (v : Value) (xs : List Int) (y : ByteArray) (hs : a.eval s = v) (hx : a.eval x = .string y)
    (HO : W.ownsRow base e 1 v xs.length (nums .u8 xs)) (HB : Below base w0 W) (hl : xs.length + y.size ≤ 140737488355328)
    (h : ∀ v1 w1, w1.ownsRow base e 1 v1 (xs ++ bytesOf y).length (nums .u8 (xs ++ bytesOf y)) → Below base w0 w1 → W.grownBy w1 v.ownBlock → K (a.put o.dst v1) w1) (hbase : base ≤ W.heap.size) :
    if Region.wanted o (yielded ops a.tmps) = true then Oper.wp P o a W K Q else K (a.put o.dst undef) W := by
  obtain ⟨i0, hi, hzz⟩ := Option.map_eq_some_iff.1 hinfo
  simp only [Prod.mk.injEq] at hzz
  obtain ⟨hz0, hz1, hz2⟩ := hzz
  rw [if_pos hw]
  obtain ⟨v1, w1, hr, hown, hg, _⟩ := Lib.run_append_own_string (P := P) W base t u o.type e i0 ht hu hi hz0 hz1 hz2 v xs.length (nums .u8 xs) HO y (by simp only [maxLen]; omega) hl hbase
  unfold Oper.wp execOp
  simp only [ho, resolve, invoke, builtin, Sem.run_bind, Sem.run_pure, Result.andThen_ok, List.map_toArray, List.map_cons, List.map_nil, hs, hx, hr]
  refine h v1 w1 ?_ (HB.grown hg hbase (own_base HO)) hg
  have hc : nums .u8 (xs ++ bytesOf y) = nums .u8 xs ++ Lib.strCells y := by
    rw [nums_append]
    congr 1
    simp [nums, bytesOf, Lib.strCells]
  rw [List.length_append, bytesOf_length, hc]
  exact hown
end
theorem not_empty {s : ByteArray} (hz : ¬ s.size = 0) : s.toList.isEmpty = false := by
  rw [Go.ByteArray.toList_eq]
  refine Bool.eq_false_iff.2 (fun h => hz ?_)
  have : s.data.toList = [] := by simpa using h
  show s.data.size = 0
  rw [← Array.length_toList, this]
  rfl
def ER (l : List S38) (w : World) (t4 t5 t10 : Value) (wr : World) : Prop :=
  ∃ (acc : List Int) (last : Int) (i : Nat), t10 = .int .i64 (i : Int) ∧ t5 = .int .u8 last ∧ i ≤ l.length ∧ wr.ownsRow w.heap.size 5 1 t4 acc.length (nums .u8 acc) ∧ Below w.heap.size w wr ∧ enc [] 0 l = enc acc last (l.drop i) ∧ acc.length + tot38 (l.drop i) ≤ tot38 l
set_option maxHeartbeats 1600000 in
theorem enc_any (A0 : Option Addr) (c0 : Nat) (l : List S38) (w : World) (h0 : Kd.C k38 w A0 l.length l) (hc0 : l.length ≤ c0) (hl : l.length < 1000000000) (hs : tot38 l ≤ 1000000000) :
    Calls Try.prog 15 #[.slice A0 l.length c0] w fun e w' => e = .returned (.tuple #[.string (enc [] 0 l).1, .int .i64 (enc [] 0 l).2]) ∧ Below w.heap.size w w' := by
  have hR : ER l w (.slice none 0 0) (.int .u8 0) (.int .i64 0) w := ⟨[], 0, 0, rfl, rfl, by omega, own_nil _ _ _ _, Below.refl _ _, rfl, by simp⟩
  have HL := Lib.hid h0
  clear h0
  go_enter Try.func15, Try.ntmps15
  go_wp2_with fail
  go_loopw [4, 5, 10] (fun t4 t5 t10 wr => ER l w t4 t5 t10 wr) (fun t4 t5 t10 _ => match t10 with | .int _ i => l.length - i.toNat | _ => 0)
  case atStart => exact hR
  case round =>
    clear hR
    obtain ⟨acc, last, i, rfl, rfl, hi, hO, HB, g1, g2⟩ := hrel
    have G1 := Lib.hid g1
    have G2 := Lib.hid g2
    clear g1 g2
    by_cases hgo : i < l.length
    · have hd : l.drop i = l[i] :: l.drop (i + 1) := List.drop_eq_getElem_cons hgo
      have k0 : (0 : Int) ≤ (i : Int) := by omega
      have k1 : (i : Int) < (l.length : Int) := by omega
      obtain ⟨ad, rfl, e0, e1⟩ := at_T38 (Kd.C_below HL.out HB) (i : Int) k0 k1
      have er : rd_T38 l (i : Int) = l[i] := by simp [rd_T38, List.getD_eq_getElem?_getD, hgo]
      rw [er, Int.toNat_natCast] at e0 e1
      have hD := Lib.hid hd
      clear hd er
      generalize hx : l[i] = x at *
      clear hx
      have g3 : acc.length + (3 + x.f1.size + tot38 (l.drop (i + 1))) ≤ tot38 l := by have := G2.out; rw [hD.out] at this; exact this
      have hbs : w.heap.size ≤ wr.heap.size := HB.size
      obtain ⟨b, s⟩ := x
      simp only at e0 e1 g3
      by_cases hle : b ≤ last
      · go_wp2_with fail
        go_ret2
        refine ⟨?_, HB.alloc hbs _⟩
        rw [G1.out, hD.out]
        simp [enc, hle]
      · by_cases hz : s.size = 0
        · obtain rfl : s = ⟨#[]⟩ := ByteArray.ext (Array.eq_empty_of_size_eq_zero hz)
          go_wp2_with fail
          go_ret2
          refine ⟨?_, HB.alloc hbs _⟩
          rw [G1.out, hD.out]
          have hE : enc acc last (⟨b, ⟨#[]⟩⟩ :: l.drop (i + 1)) = (⟨#[]⟩, 3) := by rw [enc]; exact if_pos (.inr rfl)
          rw [hE]
          rfl
        · have hne := not_empty hz
          by_cases hbig : 65535 < s.size
          · have hb1 : decide ((65535 : Int) < (s.size : Int)) = true := decide_eq_true (by omega)
            have hE := Lib.hid (show enc acc last (⟨b, s⟩ :: l.drop (i + 1)) = (⟨#[]⟩, 5) by rw [enc, if_neg (by simp only [not_or]; exact ⟨hle, hz⟩), if_pos (by exact hbig)])
            go_wp2_with fail
            go_ret2
            refine ⟨?_, HB.alloc hbs _⟩
            rw [G1.out, hD.out, hE.out]
            rfl
          · have hb1 : decide ((65535 : Int) < (s.size : Int)) = false := decide_eq_false (by omega)
            have hE : enc acc last (⟨b, s⟩ :: l.drop (i + 1)) = enc (((acc ++ [b]) ++ sz s.size) ++ bytesOf s) b (l.drop (i + 1)) := by
              rw [enc, if_neg (by simp only [not_or]; exact ⟨hle, hz⟩), if_neg (by exact hbig)]
            have HE := Lib.hid hE
            clear hE
            go_wp2_with fail
            have hq : Blk (wr.alloc (.cells #[.int .u8 b, .string s] 38)) wr.heap.size 38 #[.int .u8 b, .string s] := Blk.new _ _ _
            have hO1 := own_alloc hO (.cells #[.int .u8 b, .string s] 38)
            have HB1 : Below w.heap.size w (wr.alloc (.cells #[.int .u8 b, .string s] 38)) := HB.alloc hbs _
            clear hO HB e0 e1 hne hbs
            generalize wr.alloc (.cells #[.int .u8 b, .string s] 38) = w1 at *
            generalize wr.heap.size = q at *
            have q0 : w1.cell? ⟨q, 0, none⟩ = some (.int .u8 b) := hq.cell 0
            have q1 : w1.cell? ⟨q, 1, none⟩ = some (.string s) := hq.cell 1
            have hOA : ((w1.alloc (.cells #[.int .u8 b] 5)).drew).ownsRow w.heap.size 5 1 u4 acc.length (nums .u8 acc) := own_move (own_alloc hO1 (.cells #[.int .u8 b] 5)) (fun k hk => rfl)
            have hRA : ReadsInt ((w1.alloc (.cells #[.int .u8 b] 5)).drew) .u8 (some ⟨w1.heap.size, 0, none⟩) 1 [b] :=
              ⟨rfl, by decide, fun _ => ⟨_, rfl, fun j hj => by
                obtain rfl : j = 0 := by omega
                exact (Blk.new w1 5 #[.int .u8 b]).cell 0⟩⟩
            have hBA : Below w.heap.size w ((w1.alloc (.cells #[.int .u8 b] 5)).drew) := below_drew1 (HB1.alloc HB1.size (.cells #[.int .u8 b] 5))
            have hqA : Blk ((w1.alloc (.cells #[.int .u8 b] 5)).drew) q 38 #[.int .u8 b, .string s] := (hq.alloc _).drew
            have hl1 : (acc ++ [b]).length = acc.length + 1 := by simp
            have hl2 : ((acc ++ [b]) ++ sz s.size).length = acc.length + 3 := by simp [sz]
            go_region_held3 (fun W => W.cell? ⟨q, 0, none⟩ = some (.int .u8 b) ∧ W.cell? ⟨q, 1, none⟩ = some (.string s)) (first | exact ⟨by assumption, by assumption⟩ | go_keep) (first
              | ((refine step_row (w0 := w) w.heap.size (by rfl) (.tmp 29) (.tmp 32) 57 5 (by rfl) Try.underlying57 info5 u4 acc [b] (some ⟨w1.heap.size, 0, none⟩) 1 1 (by decide) (by rfl) (by rfl) hOA hRA hBA (by omega) ?_ hBA.size; intro v2 w2 hO2 HB2 hg2; have hq2 := hqA.grown hg2 (own_ne hOA hqA (by decide)); have q20 : w2.cell? ⟨q, 0, none⟩ = some (.int .u8 b) := hq2.cell 0; have q21 : w2.cell? ⟨q, 1, none⟩ = some (.string s) := hq2.cell 1))
              | ((refine step_row (w0 := w) w.heap.size (by rfl) (.tmp 33) (.tmp 37) 57 5 (by rfl) Try.underlying57 info5 v2 (acc ++ [b]) (sz s.size) A3 2 c3 (by decide) (by rfl) (by rfl) hO3 hr3 HB3 (by omega) ?_ HB3.size; intro v4 w4 hO4 HB4 hg4; have hq4 := hq3.grown hg4 (own_ne hO3 hq3 (by decide)); have q40 : w4.cell? ⟨q, 0, none⟩ = some (.int .u8 b) := hq4.cell 0; have q41 : w4.cell? ⟨q, 1, none⟩ = some (.string s) := hq4.cell 1))
              | ((refine step_str (w0 := w) w.heap.size (by rfl) (.tmp 38) (.tmp 40) 57 9 5 (by rfl) Try.underlying57 Try.underlying9 info5 v4 ((acc ++ [b]) ++ sz s.size) s (by rfl) (by rfl) hO4 HB4 (by omega) ?_ HB4.size; intro v5 w5 hO5 HB5 hg5; have hq5 := hq4.grown hg5 (own_ne hO4 hq4 (by decide)); have q50 : w5.cell? ⟨q, 0, none⟩ = some (.int .u8 b) := hq5.cell 0; have q51 : w5.cell? ⟨q, 1, none⟩ = some (.string s) := hq5.cell 1))
              | ((go_at_call 32; (with_reducible refine (size_any s.size _).mono ?_); rintro e w3 ⟨A3, c3, rfl, hr3, hb3⟩; have hO3 := own_move hO2 (fun k hk => hb3.block k (own_lt hO2 k hk)); have HB3 : Below w.heap.size w w3 := below_step HB2 hb3; have hq3 : Blk w3 q 38 _ := hq2.go hb3; have q30 : w3.cell? ⟨q, 0, none⟩ = some (.int .u8 b) := hq3.cell 0; have q31 : w3.cell? ⟨q, 1, none⟩ = some (.string s) := hq3.cell 1)))
            go_wp2_with fail
            refine ⟨⟨((acc ++ [b]) ++ sz s.size) ++ bytesOf s, b, i + 1, rfl, rfl, hgo, hO5, HB5, ?_, ?_⟩, ?_⟩
            · rw [G1.out, hD.out, HE.out]
            · rw [List.length_append, hl2, bytesOf_length]; omega
            · show l.length - ((i : Int) + 1).toNat < l.length - (i : Int).toNat; omega
    · have hd : l.drop i = [] := List.drop_eq_nil_of_le (by omega)
      have hcv := own_string (P := Try.prog) Try.underlying57 Try.underlying5 Try.underlying9 hO
      obtain ⟨A4, c4, rfl⟩ := own_slice hO
      go_wp2_with fail
      go_ret2
      refine ⟨?_, HB⟩
      rw [G1.out, hd]
      rfl
end Go.Proofs.Ytndbchigekbjaaa.Base
