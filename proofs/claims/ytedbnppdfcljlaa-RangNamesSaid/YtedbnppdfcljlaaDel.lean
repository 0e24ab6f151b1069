/- How a range is looked for in a row, and taken out. Conditions: as each contract says. -/
import Derived.Test.YtedbnppdfcljlaaBase
import Derived.Lib.SliceRun
import Derived.Deep.DeepMust
set_option linter.unusedVariables false
set_option linter.unusedSimpArgs false
namespace Go.Proofs.Ytedbnppdfcljlaa.Base
open Go Go.RowKit Go.Proofs.Ytedbnppdfcljlaa.Mem Go.Proofs.YtedbnppdfcljlaaW.PrintWords
open Go.Proofs.Ytedbnppdfcljlaa.PRangMore (S42 S51 z42 z51 k42 k51 k42_open k51_open eqA42)
/-- Is it that range? -/
def isx (low high : ByteArray) (prio : Int) (x : S42) : Bool := x.f0.toList == low.toList && (x.f1.toList == high.toList && x.f2 == prio)
abbrev isF (a b c : Nat) : Value := .func (.func 31) #[] #[ptr a, ptr b, ptr c]
/-- What the closure holds. -/
structure IsAt (w : World) (a b c : Nat) (low high : ByteArray) (prio : Int) : Prop where
  lo : Blk w a 9 #[.string low]
  hi : Blk w b 9 #[.string high]
  pr : Blk w c 3 #[.int .i64 prio]
theorem IsAt.go {w w1 : World} {a b c : Nat} {low high : ByteArray} {prio : Int} (h : IsAt w a b c low high prio) (hb : Below w.heap.size w w1) : IsAt w1 a b c low high prio := ⟨h.lo.go hb, h.hi.go hb, h.pr.go hb⟩
theorem IsAt.fp {S : Nat → Prop} {w w1 : World} {a b c : Nat} {low high : ByteArray} {prio : Int} (h : IsAt w a b c low high prio) (hf : Fp S w w1) (h1 : ¬ S a) (h2 : ¬ S b) (h3 : ¬ S c) : IsAt w1 a b c low high prio := ⟨h.lo.fp hf h1, h.hi.fp hf h2, h.pr.fp hf h3⟩
theorem is_any (low high : ByteArray) (prio : Int) (w : World) :
    Calls Try.prog 28 #[.string low, .string high, .int .i64 prio] w fun e w' => ∃ a b c, e = .returned (isF a b c) ∧ IsAt w' a b c low high prio ∧ w.heap.size ≤ a ∧ w.heap.size ≤ b ∧ w.heap.size ≤ c ∧ Below w.heap.size w w' := by
  go_enter Try.func28, Try.ntmps28
  go_wp2
  go_ret
  refine ⟨_, _, _, rfl, ⟨((Blk.new w 9 #[.string low]).alloc _).alloc _, ?_, ?_⟩, Nat.le_refl _, by omega, by omega, (((Below.refl _ w).alloc (Nat.le_refl _) _).alloc (by simp) _).alloc (by simp; omega) _⟩
  · have := (Blk.new (w.alloc (.cells #[.string low] 9)) 9 #[.string high]).alloc (.cells #[.int .i64 prio] 3)
    simpa using this
  · have := Blk.new ((w.alloc (.cells #[.string low] 9)).alloc (.cells #[.string high] 9)) 3 #[.int .i64 prio]
    simpa using this
theorem isx_any (x : S42) (a b c : Nat) (low high : ByteArray) (prio : Int) (w : World) (h : IsAt w a b c low high prio) :
    Calls Try.prog 31 #[.agg (c42 x).toArray, ptr a, ptr b, ptr c] w fun e w' => e = .returned (.bool (isx low high prio x)) ∧ Below w.heap.size w w' := by
  have k := (Below.refl w.heap.size w).alloc (Nat.le_refl _) (.cells (c42 x).toArray 42)
  have h1 := h.go k
  have e1 := h1.lo.cell 0
  have e2 := h1.hi.cell 0
  have e3 := h1.pr.cell 0
  have HX := Lib.hid (show isx low high prio x = (x.f0.toList == low.toList && (x.f1.toList == high.toList && x.f2 == prio)) from rfl)
  unfold c42 at k e1 e2 e3 ⊢
  clear h1 h
  cases q1 : x.f0.toList == low.toList
  · rw [q1] at HX
    go_enter Try.func31, Try.ntmps31
    go_wp2
    go_ret
    exact ⟨by rw [HX.out]; rfl, k⟩
  · cases q2 : x.f1.toList == high.toList
    · rw [q1, q2] at HX
      go_enter Try.func31, Try.ntmps31
      go_wp2
      go_ret
      exact ⟨by rw [HX.out]; rfl, k⟩
    · cases q3 : x.f2 == prio
      all_goals
        rw [q1, q2, q3] at HX
        go_enter Try.func31, Try.ntmps31
        go_wp2
        go_ret
        exact ⟨by rw [HX.out]; rfl, k⟩
/-! ### slices.IndexFunc -/
/-- The first place at which it is; -1: nowhere. -/
def idx (p : S42 → Bool) : Nat → List S42 → Int
  | _, [] => -1
  | i, x :: r => if p x then (i : Int) else idx p (i + 1) r
theorem idx_cases (p : S42 → Bool) : ∀ (l : List S42) (i : Nat), (idx p i l = -1 ∧ ∀ x ∈ l, p x = false) ∨ ∃ k, idx p i l = ((i + k : Nat) : Int) ∧ ∃ h : k < l.length, p l[k] = true ∧ ∀ x ∈ l.take k, p x = false
  | [], i => .inl ⟨rfl, fun x hx => by simp at hx⟩
  | x :: r, i => by
    cases hp : p x
    · rcases idx_cases p r (i + 1) with ⟨h1, h2⟩ | ⟨k, h1, h2, h3, h4⟩
      · exact .inl ⟨by simp [idx, hp, h1], fun y hy => by rcases List.mem_cons.1 hy with rfl | hy; exact hp; exact h2 y hy⟩
      · exact .inr ⟨k + 1, by simp only [idx, hp, h1]; rw [if_neg (by simp)]; congr 1; omega, by simp; exact h2, by simpa using h3, fun y hy => by
          rw [List.take_succ_cons] at hy
          rcases List.mem_cons.1 hy with rfl | hy
          · exact hp
          · exact h4 y hy⟩
    · exact .inr ⟨0, by simp [idx, hp], by simp, by simpa using hp, fun y hy => by simp at hy⟩
/-- A row's cells, of one range. -/
theorem own42 {w : World} {N : Nat} {v : Value} {l : List S42} (h : w.ownsRow N 42 4 v l.length (cs42 l)) (k : Nat) (hk : k < l.length) : ∃ g c, v = .slice (some ⟨g, 0, none⟩) l.length c ∧ l.length ≤ c ∧
    w.cell? ⟨g, k * 4, none⟩ = some (.string l[k].f0) ∧ w.cell? ⟨g, k * 4 + 1, none⟩ = some (.string l[k].f1) ∧ w.cell? ⟨g, k * 4 + 2, none⟩ = some (.int .i64 l[k].f2) ∧ w.cell? ⟨g, k * 4 + 3, none⟩ = some (.int .i64 l[k].f3) := by
  obtain ⟨g, c, rfl, h0, hc⟩ := own_at h (k * 4) (by omega)
  refine ⟨g, c, rfl, hc, ?_, ?_, ?_, ?_⟩
  · rw [h.cellAt _ (by omega)]; exact cs42_at l k 0 hk (by omega)
  · rw [h.cellAt _ (by omega)]; exact cs42_at l k 1 hk (by omega)
  · rw [h.cellAt _ (by omega)]; exact cs42_at l k 2 hk (by omega)
  · rw [h.cellAt _ (by omega)]; exact cs42_at l k 3 hk (by omega)
theorem own42s {w : World} {N n c : Nat} {A : Option Addr} {l : List S42} (h : w.ownsRow N 42 4 (.slice A n c) l.length (cs42 l)) (k : Nat) (hk : k < l.length) : ∃ g, A = some ⟨g, 0, none⟩ ∧ n = l.length ∧ l.length ≤ c ∧
    w.cell? ⟨g, k * 4, none⟩ = some (.string l[k].f0) ∧ w.cell? ⟨g, k * 4 + 1, none⟩ = some (.string l[k].f1) ∧ w.cell? ⟨g, k * 4 + 2, none⟩ = some (.int .i64 l[k].f2) ∧ w.cell? ⟨g, k * 4 + 3, none⟩ = some (.int .i64 l[k].f3) := by
  obtain ⟨g, c', e, hc, h0⟩ := own42 h k hk
  injection e with e1 e2 e3
  subst e3
  exact ⟨g, e1, e2, hc, h0⟩
theorem own42g {w : World} {N n c g : Nat} {l : List S42} (h : w.ownsRow N 42 4 (.slice (some ⟨g, 0, none⟩) n c) n (cs42 l)) (k : Nat) (hn : n = l.length) (hk : k < l.length) :
    w.cell? ⟨g, k * 4, none⟩ = some (.string l[k].f0) ∧ w.cell? ⟨g, k * 4 + 1, none⟩ = some (.string l[k].f1) ∧ w.cell? ⟨g, k * 4 + 2, none⟩ = some (.int .i64 l[k].f2) ∧ w.cell? ⟨g, k * 4 + 3, none⟩ = some (.int .i64 l[k].f3) := by
  subst hn
  obtain ⟨g', e, _, _, h0⟩ := own42s h k hk
  injection e with e
  injection e with e
  subst e
  exact h0
def IdxR (w : World) (p : S42 → Bool) (l : List S42) (t8 : Value) (wr : World) : Prop :=
  ∃ k : Nat, t8 = .int .i64 (k : Int) ∧ k ≤ l.length ∧ idx p k (l.drop k) = idx p 0 l ∧ Below w.heap.size w wr
theorem index_any (a b c : Nat) (low high : ByteArray) (prio : Int) (N : Nat) (v : Value) (l : List S42) (w : World) (hv : w.ownsRow N 42 4 v l.length (cs42 l)) (h : IsAt w a b c low high prio) (hl : l.length < 1000000) :
    Calls Try.prog 30 #[v, isF a b c] w fun e w' => e = .returned (.int .i64 (idx (isx low high prio) 0 l)) ∧ Below w.heap.size w w' := by
  have hR : IdxR w (isx low high prio) l (.int .i64 0) w := ⟨0, rfl, Nat.zero_le _, rfl, Below.refl _ _⟩
  have HV := Lib.hid hv
  have HI := Lib.hid h
  obtain ⟨A, cp, rfl, hc⟩ := own_form hv
  clear hv h
  go_enter Try.func30, Try.ntmps30
  go_wp2_with fail
  go_loopw [8] (fun t8 wr => IdxR w (isx low high prio) l t8 wr) (fun t8 _ => l.length - (intOf t8).toNat)
  case atStart => exact hR
  case round =>
    clear hR
    obtain ⟨k, rfl, hk, hid, hB⟩ := hrel
    have HID := Lib.hid hid
    clear hid
    by_cases hlt : k < l.length
    · have k0 : (0 : Int) ≤ (k : Int) := by omega
      have k1 : (k : Int) < (l.length : Int) := by omega
      obtain ⟨g, rfl, -, -, e0, e1, e2, e3⟩ := own42s (own_go HV.out hB) k hlt
      have hd : l.drop k = l[k] :: l.drop (k + 1) := List.drop_eq_getElem_cons hlt
      rw [hd] at HID
      have hI := HI.out.go hB
      generalize l[k] = x at *
      have hs := Lib.hid (show idx (isx low high prio) k (x :: l.drop (k + 1)) = if isx low high prio x then (k : Int) else idx (isx low high prio) (k + 1) (l.drop (k + 1)) from rfl)
      clear hd
      go_wp2_with fail
      refine (isx_any x a b c low high prio _ hI).mono ?_
      rintro e w1 ⟨rfl, hb⟩
      have hB1 := hB.trans (hb.mono hB.size)
      cases q : isx low high prio x
      · rw [q] at hs
        go_wp2_with fail
        go_roundw
        case rel => exact ⟨k + 1, by go_num, hlt, by rw [← HID.out, hs.out]; rfl, hB1⟩
        case measure => simp [intOf]; omega
      · rw [q] at hs
        go_wp2_with fail
        go_ret
        exact ⟨by rw [← HID.out, hs.out]; rfl, hB1⟩
    · have hd : l.drop k = [] := List.drop_eq_nil_of_le (by omega)
      have k1 : ¬ (k : Int) < (l.length : Int) := by omega
      rw [hd] at HID
      go_wp2_with fail
      go_ret
      exact ⟨by rw [← HID.out]; rfl, hB⟩
/-! ### slices.DeleteFunc -/
/-- Setting one range's cells. -/
theorem cs42_set : ∀ (l : List S42) (i : Nat) (x : S42), i < l.length → ((((cs42 l).set (i * 4) (.string x.f0)).set (i * 4 + 1) (.string x.f1)).set (i * 4 + 2) (.int .i64 x.f2)).set (i * 4 + 3) (.int .i64 x.f3) = cs42 (l.set i x)
  | y :: r, 0, x, _ => by simp [cs42, c42]
  | y :: r, i + 1, x, h => by
    have := cs42_set r i x (by simpa using h)
    simp only [cs42, List.flatMap_cons, List.set_cons_succ] at this ⊢
    rw [← this, show c42 y = [.string y.f0, .string y.f1, .int .i64 y.f2, .int .i64 y.f3] from rfl]
    rw [show (i + 1) * 4 = i * 4 + 1 + 1 + 1 + 1 by omega]
    simp only [List.cons_append, List.nil_append, List.set_cons_succ]
/-- What is kept so far. -/
structure Kept (p : S42 → Bool) (l cur : List S42) (i j : Nat) : Prop where
  len : cur.length = l.length
  ij : i < j
  jl : j ≤ l.length
  low : cur.take i = (l.take j).filter (fun x => !p x)
  high : cur.drop j = l.drop j
theorem Kept.at {p : S42 → Bool} {l cur : List S42} {i j : Nat} (h : Kept p l cur i j) (hj : j < l.length) : ∃ hc : j < cur.length, cur[j] = l[j] := by
  have hc : j < cur.length := by rw [h.len]; exact hj
  refine ⟨hc, ?_⟩
  have h1 := List.drop_eq_getElem_cons hc
  have h2 := List.drop_eq_getElem_cons hj
  rw [h.high, h2] at h1
  injection h1 with h1 _
  exact h1.symm
theorem Kept.skip {p : S42 → Bool} {l cur : List S42} {i j : Nat} (h : Kept p l cur i j) (hj : j < l.length) (hp : p l[j] = true) : Kept p l cur i (j + 1) :=
  ⟨h.len, by have := h.ij; omega, hj, by rw [h.low, List.take_succ_eq_append_getElem hj, List.filter_append]; simp [hp], by
    have := congrArg (List.drop 1) h.high
    rw [List.drop_drop, List.drop_drop] at this
    exact this⟩
theorem Kept.keep {p : S42 → Bool} {l cur : List S42} {i j : Nat} (h : Kept p l cur i j) (hj : j < l.length) (hp : p l[j] = false) : Kept p l (cur.set i l[j]) (i + 1) (j + 1) :=
  ⟨by simp [h.len], by have := h.ij; omega, hj, by
    have hi : i < cur.length := by rw [h.len]; have := h.ij; omega
    rw [List.take_succ_eq_append_getElem (by simpa using hi), List.take_set, List.take_succ_eq_append_getElem hj, List.filter_append, ← h.low]
    simp [hp]
    rw [List.set_eq_of_length_le (by simp; omega)], by
    have hij := h.ij
    rw [List.drop_set, if_pos (by omega)]
    have := congrArg (List.drop 1) h.high
    rw [List.drop_drop, List.drop_drop] at this
    exact this⟩
/-- A cell behind a row's end may be written. -/
theorem own_behind {w : World} {N e sz n g cap : Nat} {xs : List Value} (h : w.ownsRow N e sz (.slice (some ⟨g, 0, none⟩) n cap) n xs) (j : Nat) (hj : n * sz ≤ j) (u : Value) :
    (w.setCell ⟨g, j, none⟩ u).ownsRow N e sz (.slice (some ⟨g, 0, none⟩) n cap) n xs := by
  have := (h.stored j u).1
  rwa [List.set_eq_of_length_le (by rw [h.1]; exact hj)] at this
theorem own_behinds {N e sz n g cap : Nat} {xs : List Value} : ∀ (vs : List Value) (o : Nat) (w : World), w.ownsRow N e sz (.slice (some ⟨g, 0, none⟩) n cap) n xs → n * sz ≤ o → (w.setCells g o vs).ownsRow N e sz (.slice (some ⟨g, 0, none⟩) n cap) n xs
  | [], o, w, h, _ => h
  | v :: r, o, w, h, ho => own_behinds r (o + 1) _ (own_behind h o ho v) (by omega)
theorem fp_setCells {S : Nat → Prop} {w0 : World} {g : Nat} (hg : g < w0.heap.size → S g) : ∀ (vs : List Value) (o : Nat) (w : World), Fp S w0 w → Fp S w0 (w.setCells g o vs)
  | [], o, w, h => h
  | v :: r, o, w, h => fp_setCells hg r (o + 1) _ (h.set_ v hg)
/-- A row, cut short. -/
theorem own_cut {w : World} {N e sz n g cap : Nat} {xs : List Value} (h : w.ownsRow N e sz (.slice (some ⟨g, 0, none⟩) n cap) n xs) (i : Nat) (hi : i ≤ n) : w.ownsRow N e sz (.slice (some ⟨g, 0, none⟩) i cap) i (xs.take (i * sz)) := by
  rcases h.2 with ⟨h', _⟩ | ⟨g', cap', cur, h', hb, hg, hnc, hcm, hcs, htake⟩
  · cases h'
  · injection h' with h1 h2 h3
    injection h1 with h1
    injection h1 with h1
    subst h1 h3
    have hm : i * sz ≤ n * sz := Nat.mul_le_mul_right _ hi
    refine ⟨by rw [List.length_take, h.1]; omega, .inr ⟨g, cap, cur, rfl, hb, hg, by omega, hcm, hcs, ?_⟩⟩
    rw [← htake, List.take_take, Nat.min_eq_left hm]
theorem cs42_take : ∀ (l : List S42) (i : Nat), (cs42 l).take (i * 4) = cs42 (l.take i)
  | [], i => by simp [cs42]
  | x :: r, 0 => by simp [cs42]
  | x :: r, i + 1 => by
    have := cs42_take r i
    simp only [cs42, List.flatMap_cons, List.take_succ_cons] at this ⊢
    rw [← this, show c42 x = [.string x.f0, .string x.f1, .int .i64 x.f2, .int .i64 x.f3] from rfl, show (i + 1) * 4 = i * 4 + 1 + 1 + 1 + 1 by omega]
    simp only [List.cons_append, List.nil_append, List.take_succ_cons]
theorem zero42 : Sem.run Try.prog (zeroValue 42) = fun w => .ok (.agg #[.string ⟨#[]⟩, .string ⟨#[]⟩, .int .i64 0, .int .i64 0]) w := by
  funext w; kernel_rfl
/-- clear of a part of a row of ranges. -/
theorem run_clear42 (w : World) (b o n c : Nat) (hn : 0 < n) (hc : ∀ j, j < n * 4 → (w.cell? ⟨b, o + j, none⟩).isSome = true) (hf : ∀ j, j < n * 4 → w.frozen? ⟨b, o + j, none⟩ = false) :
    ∃ zs : List Value, ∀ ty, (Builtin.clear_ #[38] ty #[.slice (some ⟨b, o, none⟩) n c]).run Try.prog w = .ok (.tuple #[]) (w.setCells b o zs) := by
  have hz := zero42
  have hcz : (Value.agg #[.string ⟨#[]⟩, .string ⟨#[]⟩, .int .i64 0, .int .i64 0]).cells = #[.string ⟨#[]⟩, .string ⟨#[]⟩, .int .i64 0, .int .i64 0] := by simp [Value.cells]
  obtain ⟨zs, hzs⟩ : ∃ zs, (Builtin.zeroCells #[Value.string ⟨#[]⟩, .string ⟨#[]⟩, .int .i64 0, .int .i64 0] n).toList = zs := ⟨_, rfl⟩
  refine ⟨zs, ?_⟩
  have hlen : zs.length = n * 4 := by rw [← hzs, Array.length_toList, size_zeroCells]; rfl
  have h1 : ∀ v ∈ zs, v.oneCell' = true := by
    intro v hv
    rw [← hzs] at hv
    simp only [Builtin.zeroCells, Array.toList_map, List.mem_map] at hv
    obtain ⟨k, _, rfl⟩ := hv
    have hk : k % 4 < 4 := Nat.mod_lt _ (by omega)
    show (#[Value.string ⟨#[]⟩, .string ⟨#[]⟩, .int .i64 0, .int .i64 0][k % 4]!).oneCell' = true
    generalize k % 4 = m at hk
    rcases m with _ | _ | _ | _ | m
    all_goals first | omega | rfl
  have hst := run_storeCells_cells (P := Try.prog) b o zs 0 w (by rw [hlen]; simpa using hc) (by rw [hlen]; simpa using hf) h1
  simp only [Nat.add_zero] at hst
  obtain ⟨m, rfl⟩ : ∃ m, n = m + 1 := ⟨n - 1, by omega⟩
  intro ty
  simp [Builtin.clear_, run_underlying Try.underlying38, hz, hcz, hzs, hst]
def DelR (w : World) (N g cap : Nat) (p : S42 → Bool) (l : List S42) (t5 t6 : Value) (wr : World) : Prop :=
  ∃ (i j : Nat) (cur : List S42), t5 = .int .i64 (i : Int) ∧ t6 = .int .i64 (j : Int) ∧ Kept p l cur i j ∧ wr.ownsRow N 42 4 (.slice (some ⟨g, 0, none⟩) l.length cap) l.length (cs42 cur) ∧ Fp (fun k => k = g) w wr
/-- What is left behind Del. -/
def del (low high : ByteArray) (prio : Int) (l : List S42) : List S42 := l.filter (fun x => !isx low high prio x)
theorem del_len (low high : ByteArray) (prio : Int) (l : List S42) : (del low high prio l).length ≤ l.length := List.length_filter_le _ _
theorem delete_all (a b c : Nat) (low high : ByteArray) (prio : Int) (N : Nat) (v : Value) (l : List S42) (w : World) (hv : w.ownsRow N 42 4 v l.length (cs42 l)) (h : IsAt w a b c low high prio) (hl : l.length < 1000000) :
    Calls Try.prog 27 #[v, isF a b c] w fun e w' => ∃ v', e = .returned v' ∧ v'.ownBlock = v.ownBlock ∧ w'.ownsRow N 42 4 v' (l.filter (fun x => !isx low high prio x)).length (cs42 (l.filter (fun x => !isx low high prio x))) ∧ Fp (fun k => v.ownBlock = some k) w w' := by
  have hi := index_any a b c low high prio N v l w hv h hl
  rcases idx_cases (isx low high prio) l 0 with ⟨e1, hall⟩ | ⟨k0, e1, hk0, hp0, hbe⟩
  · rw [e1] at hi
    have hf : l.filter (fun x => !isx low high prio x) = l := List.filter_eq_self.2 (fun x hx => by rw [hall x hx]; rfl)
    rw [hf]
    have HV := Lib.hid hv
    have HI := Lib.hid hi
    clear hf hall e1 hi hv h
    go_enter Try.func27, Try.ntmps27
    go_wp2_with fail
    refine HI.out.mono ?_
    rintro e w1 ⟨rfl, hb⟩
    go_wp2_with fail
    go_ret
    exact ⟨_, rfl, rfl, own_go HV.out hb, Fp.of_below hb _⟩
  · rw [e1, Nat.zero_add] at hi
    obtain ⟨g, cap, rfl, hcap, _⟩ := own42 hv k0 hk0
    have hR : ∀ w1, Below w.heap.size w w1 → DelR w N g cap (isx low high prio) l (.int .i64 (k0 : Int)) (.int .i64 ((k0 + 1 : Nat) : Int)) w1 := fun w1 hb =>
      ⟨k0, k0 + 1, l, rfl, rfl, ⟨rfl, by omega, by omega, by
        rw [List.take_succ_eq_append_getElem hk0, List.filter_append, List.filter_eq_self.2 (fun x hx => by rw [hbe x hx]; rfl)]
        simp [hp0], rfl⟩, own_go hv hb, Fp.of_below hb _⟩
    have hne : ((k0 : Int) == -1) = false := beq_eq_false_iff_ne.2 (by omega)
    have ga : ¬ a = g := fun e => own_type hv h.lo (by decide) (by rw [e]; rfl)
    have gb : ¬ b = g := fun e => own_type hv h.hi (by decide) (by rw [e]; rfl)
    have gc : ¬ c = g := fun e => own_type hv h.pr (by decide) (by rw [e]; rfl)
    have HI := Lib.hid hi
    have HR := Lib.hid hR
    have HA := Lib.hid h
    clear hi hv h hR hbe hp0 e1
    go_enter Try.func27, Try.ntmps27
    go_wp2_with fail
    refine HI.out.mono ?_
    rintro e w1 ⟨rfl, hb⟩
    go_wp2_with fail
    go_loopw [5, 6] (fun t5 t6 wr => DelR w N g cap (isx low high prio) l t5 t6 wr) (fun _ t6 _ => l.length - (intOf t6).toNat)
    case atStart => exact HR.out _ hb
    case round =>
      clear HR HI hb
      obtain ⟨i, j, cur, rfl, rfl, hK, ho, hF⟩ := hrel
      have hKl := hK.len
      have hKi := hK.ij
      have hKj := hK.jl
      by_cases hlt : j < l.length
      · have k0 : (0 : Int) ≤ (j : Int) := by omega
        have k1 : (j : Int) < (l.length : Int) := by omega
        obtain ⟨hjc, hcj⟩ := hK.at hlt
        obtain ⟨e0, e1, e2, e3⟩ := own42g ho j hKl.symm hjc
        rw [hcj] at e0 e1 e2 e3
        have hI := (HA.out.fp hF ga gb gc).go ((Below.refl wr.heap.size wr).alloc (Nat.le_refl _) (.cells (c42 l[j]).toArray 42))
        have hL := Blk.new wr 42 (c42 l[j]).toArray
        have hoA := ho.alloc (.cells (c42 l[j]).toArray 42)
        have HKs := Lib.hid (fun h => hK.skip hlt h)
        have HKk := Lib.hid (fun h => hK.keep hlt h)
        clear hcj hK
        generalize l[j] = x at *
        have hll := hL.lt
        unfold c42 at hI hL hoA
        go_wp2_with fail
        refine (isx_any x a b c low high prio _ hI).mono ?_
        rintro e w2 ⟨rfl, hb⟩
        have hL2 := hL.go hb
        have ho2 := own_go hoA hb
        have hF2 : Fp (fun k => k = g) w w2 := (hF.alloc _).go hb
        have f0 := hL2.cell 0
        have f1 := hL2.cell 1
        have f2 := hL2.cell 2
        have f3 := hL2.cell 3
        have z0 := ho2.frozenAt (i * 4)
        have z1 := ho2.frozenAt (i * 4 + 1)
        have z2 := ho2.frozenAt (i * 4 + 2)
        have z3 := ho2.frozenAt (i * 4 + 3)
        have i0 : (0 : Int) ≤ (i : Int) := by omega
        have i1 : (i : Int) < (l.length : Int) := by omega
        obtain ⟨y0, y1, y2, y3⟩ := own42g ho2 i hKl.symm (by omega)
        generalize cur[i] = y at *
        cases q : isx low high prio x
        · go_wp2_with fail
          have s0 := ho2.stored (i * 4) (.string x.f0)
          have s1 := s0.1.stored (i * 4 + 1) (.string x.f1)
          have s2 := s1.1.stored (i * 4 + 2) (.int .i64 x.f2)
          have s3 := s2.1.stored (i * 4 + 3) (.int .i64 x.f3)
          rw [cs42_set cur i x (by omega)] at s3
          refine ⟨⟨i + 1, j + 1, cur.set i x, rfl, rfl, HKk.out q, s3.1, (((hF2.set_ _ (fun _ => rfl)).set_ _ (fun _ => rfl)).set_ _ (fun _ => rfl)).set_ _ (fun _ => rfl)⟩, ?_⟩
          simp [intOf]
          omega
        · go_wp2_with fail
          refine ⟨⟨i, j + 1, cur, rfl, rfl, HKs.out q, ho2, hF2⟩, ?_⟩
          simp [intOf]
          omega
      · obtain rfl : j = l.length := by omega
        have k1 : ¬ (l.length : Int) < (l.length : Int) := by omega
        have hlow := hK.low
        rw [List.take_length] at hlow
        have hil : (l.filter (fun x => !isx low high prio x)).length = i := by rw [← hlow, List.length_take]; omega
        have i0 : (0 : Int) ≤ (i : Int) := by omega
        have i1 : (i : Int) < (l.length : Int) := by omega
        have i2 : (i : Int) ≤ (cap : Int) := by omega
        obtain ⟨zs, hz⟩ := run_clear42 wr g (i * 4) (l.length - i) (cap - i) (by omega) (fun t ht => by
          rw [ho.cellAt _ (by omega), List.getElem?_eq_getElem (by rw [cs42_len]; omega)]; rfl) (fun t ht => ho.frozenAt _)
        have HO := Lib.hid (own_behinds zs (i * 4) wr (own_cut ho i (by omega)) (Nat.le_refl _))
        have HF := Lib.hid (fp_setCells (S := fun k => k = g) (w0 := w) (g := g) (fun _ => rfl) zs (i * 4) wr hF)
        rw [cs42_take, hlow] at HO
        have HL := Lib.hid hil
        clear hil hlow ho hF hK
        generalize wr.setCells g (i * 4) zs = w9 at *
        go_wp2_with fail
        go_ret
        exact ⟨_, rfl, rfl, by rw [HL.out]; exact HO.out, HF.out.weak (fun k e _ => by subst e; rfl)⟩
theorem delete_any (a b c : Nat) (low high : ByteArray) (prio : Int) (N : Nat) (v : Value) (l : List S42) (w : World) (hv : w.ownsRow N 42 4 v l.length (cs42 l)) (h : IsAt w a b c low high prio) (hl : l.length < 1000000) :
    Calls Try.prog 27 #[v, isF a b c] w fun e w' => ∃ v', e = .returned v' ∧ v'.ownBlock = v.ownBlock ∧ w'.ownsRow N 42 4 v' (del low high prio l).length (cs42 (del low high prio l)) ∧ Fp (fun k => v.ownBlock = some k) w w' :=
  delete_all a b c low high prio N v l w hv h hl
end Go.Proofs.Ytedbnppdfcljlaa.Base
