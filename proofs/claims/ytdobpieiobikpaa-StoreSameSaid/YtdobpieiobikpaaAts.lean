/- The registers of a store: what each method does. Conditions: as each contract says. -/
import Derived.Test.YtdobpieiobikpaaPutR
set_option linter.unusedVariables false
set_option linter.unusedSimpArgs false
namespace Go.Proofs.Ytdobpieiobikpaa.Base
open Go Go.RowKit Go.Proofs.Ytdobpieiobikpaa.Mem Go.Proofs.YtdobpieiobikpaaW.PrintWords Go.Proofs.YtdobpieiobikpaaW.PrintLast
theorem putE_self {α : Type} {l : List (Int × α)} {k : Int} {v : α} (h : lookE l k = some v) : putE l k v = l := by
  induction l with
  | nil => cases h
  | cons p r ih =>
    simp only [lookE] at h
    simp only [putE]
    split at h
    · next e =>
      injection h with h
      rw [if_pos e, ← e, ← h]
    · next e => rw [if_neg e, ih h]
theorem mem_putE' {α : Type} {l : List (Int × α)} (hn : (keys l).Nodup) {k : Int} {v : α} {p : Int × α} (h : p ∈ putE l k v) : (p ∈ l ∧ p.1 ≠ k) ∨ p = (k, v) := by
  induction l with
  | nil => simp [putE] at h; exact .inr h
  | cons q r ih =>
    simp only [keys, List.map_cons, List.nodup_cons] at hn
    simp only [putE] at h
    split at h
    · next e =>
      rcases List.mem_cons.1 h with h | h
      · exact .inr h
      · refine .inl ⟨List.mem_cons_of_mem _ h, fun e2 => hn.1 ?_⟩
        rw [e, ← e2]
        exact List.mem_map.2 ⟨p, h, rfl⟩
    · next e =>
      rcases List.mem_cons.1 h with h | h
      · exact .inl ⟨h ▸ List.mem_cons_self .., h ▸ e⟩
      · rcases ih hn.2 h with ⟨h1, h2⟩ | h
        · exact .inl ⟨List.mem_cons_of_mem _ h1, h2⟩
        · exact .inr h
theorem gs_inj {rr : List (Int × RowE)} (h : (rr.map (·.2.g)).Nodup) {p q : Int × RowE} (hp : p ∈ rr) (hq : q ∈ rr) (e : p.2.g = q.2.g) : p = q := by
  induction rr with
  | nil => cases hp
  | cons x r ih =>
    simp only [List.map_cons, List.nodup_cons] at h
    rcases List.mem_cons.1 hp with rfl | hp'
    · rcases List.mem_cons.1 hq with rfl | hq'
      · rfl
      · exact absurd (List.mem_map.2 ⟨q, hq', e.symm⟩) h.1
    · rcases List.mem_cons.1 hq with rfl | hq'
      · exact absurd (List.mem_map.2 ⟨p, hp', e⟩) h.1
      · exact ih h.2 hp' hq'
theorem putE_gs' {rr : List (Int × RowE)} {k : Int} {v v' : RowE} (h : lookE rr k = some v) (hg : v'.g = v.g) : (putE rr k v').map (·.2.g) = rr.map (·.2.g) := by
  induction rr with
  | nil => cases h
  | cons p r ih =>
    simp only [lookE] at h
    simp only [putE]
    split at h
    · next e =>
      injection h with h
      rw [if_pos e]
      simp [hg, ← h]
    · next e => rw [if_neg e]; simp [ih h]
section
variable {w : World} {a : Nat} {pc pr : Option Nat} {S : St} {rr : List (Int × RowE)} {O : Nat → Prop}
theorem SM.keysR (h : SM w a pc pr S rr) : (keys rr).Nodup := by rw [← keys_absR, ← show S.r = absR rr from h.abs]; exact h.ok.rk
/-- A register is written. -/
theorem SM.setRow (h : SM w a pc pr S rr) {id : Int} {v : RowE} (hl : lookE rr id = some v) (i : Nat) (x : Int) (hx : u64ok x) :
    SM (w.setCell ⟨v.g, i, none⟩ (.int .u64 x)) a pc pr { S with r := absR (putE rr id { v with xs := v.xs.set i x }) } (putE rr id { v with xs := v.xs.set i x }) := by
  have hmem := lookE_mem hl
  have hf : Fp (fun j => j = v.g) w (w.setCell ⟨v.g, i, none⟩ (.int .u64 x)) := (Fp.refl _ _).set_ _ (fun _ => rfl)
  have hro := h.rows _ hmem
  have hmap : ∀ b l, ML w b l → b ≠ v.g := fun b l hm e => by
    obtain ⟨es, cl, hh, _⟩ := hm
    rcases hro.2 with ⟨hv, _⟩ | ⟨g, cap, cur, hv, _, hc, _⟩
    · cases hv
    · have : g = v.g := by
        have := congrArg Value.ownBlock hv
        injection this with this
        exact this.symm
      rw [this, ← e, hh] at hc
      cases hc
  have hlen : (v.xs.set i x).length = v.xs.length := List.length_set ..
  refine ⟨h.box.fp hf (fun e => own_type hro h.box (by decide) (by show some v.g = some a; rw [show a = v.g from e])), h.cm.fp hf (fun b e e2 => ?_), ?_, h.ne, fun p hp => ?_, ?_, rfl, ?_⟩
  · have hc := h.cm
    rw [e] at hc
    exact hmap b _ hc e2
  · have hr := h.rm.fp hf (fun b e e2 => by
      have hc := h.rm
      rw [e] at hc
      exact hmap b _ hc e2)
    have : rRow (putE rr id { v with xs := v.xs.set i x }) = rRow rr := by
      unfold rRow
      rw [← putE_map rVal rr id { v with xs := v.xs.set i x }]
      apply putE_self
      rw [lookE_map, hl]
      show some (rVal v) = some (rVal { v with xs := v.xs.set i x })
      unfold rVal
      simp only [hlen]
    rw [this]
    exact hr
  · rcases mem_putE' h.keysR hp with ⟨hp1, hp2⟩ | rfl
    · exact own_fp (h.rows p hp1) hf (fun k e e2 => hp2 (by
        have : p.2.g = v.g := by
          injection e with e
          exact e.trans e2
        rw [gs_inj h.nd hp1 hmem this]))
    · have := (hro.stored i (.int .u64 x)).1
      rw [← List.map_set] at this
      show (w.setCell ⟨v.g, i, none⟩ (.int .u64 x)).ownsRow 0 22 1 (.slice (some ⟨v.g, 0, none⟩) (v.xs.set i x).length v.cap) (v.xs.set i x).length ((v.xs.set i x).map (Value.int .u64))
      rw [hlen]
      exact this
  · have e := putE_gs' (v' := { v with xs := v.xs.set i x }) hl rfl
    rw [e]
    exact h.nd
  · have hok := h.ok
    have hv := hok.rw_ (id, v.xs) (by rw [show S.r = absR rr from h.abs]; exact List.mem_map.2 ⟨_, hmem, rfl⟩)
    rw [← absR_put, ← show S.r = absR rr from h.abs]
    refine hok.putR id _ ⟨by rw [hlen]; exact hv.1, by rw [hlen]; exact hv.2.1, fun y hy => ?_⟩
    rcases List.mem_or_eq_of_mem_set hy with hy | rfl
    · exact hv.2.2 y hy
    · exact hx
end
/-- How 'at' ends. -/
def AtEnd (w : World) (rr : List (Int × RowE)) (S : St) (id at_ : Int) (e : Ending) (w' : World) : Prop :=
  Below w.heap.size w w' ∧ ((atR S id at_ ≠ 0 ∧ e = .returned (.tuple #[.pointer none, .int .i64 (atR S id at_)])) ∨ (atR S id at_ = 0 ∧ ∃ v : RowE, lookE rr id = some v ∧ at_ < v.xs.length ∧ e = .returned (.tuple #[.pointer (some ⟨v.g, at_.toNat, none⟩), .int .i64 0])))
set_option maxHeartbeats 3200000 in
theorem at_any (a : Nat) (pc pr : Option Nat) (S : St) (rr : List (Int × RowE)) (id : Int) (n : Nat) (w : World) (h : SM w a pc pr S rr) (hid : (Lit.int .i64 id).wf = true) (hn : n < 18446744073709551616) :
    Calls Try.prog 32 #[ptr a, .int .i64 id, .int .u64 (n : Int)] w (AtEnd w rr S id (n : Int)) := by
  have HC := Lib.hid (row_any a pc pr S rr id w h hid)
  have HM := Lib.hid h
  have hab : S.r = absR rr := h.abs
  clear h
  cases hl : lookE rr id with
  | none =>
    have hs : lookE S.r id = none := by rw [hab, absR_look, hl]; rfl
    have hq : hasR S id = 6 := by unfold hasR; rw [hs]; rfl
    have HA := Lib.hid (show atR S id (n : Int) = 6 by unfold atR; rw [hs])
    rw [hq] at HC
    clear hq hl hab hs hn
    go_enter Try.func32, Try.ntmps32
    go_wp2_with fail
    refine HC.out.mono ?_
    rintro e w1 ⟨rfl, hb⟩
    go_wp2_with fail
    go_ret2
    exact ⟨hb, .inl ⟨by rw [HA.out]; decide, by rw [HA.out]; rfl⟩⟩
  | some v =>
    have hs : lookE S.r id = some v.xs := by rw [hab, absR_look, hl]; rfl
    have hq : hasR S id = 0 := by unfold hasR; rw [hs]; rfl
    have hlen : v.xs.length ≤ 1024 := by
      have := HM.out.ok.rw_ (id, v.xs) (lookE_mem hs)
      exact this.2.1
    rw [hq] at HC
    have HL := Lib.hid hl
    have HVL := Lib.hid (show (if false then .tuple #[(lookE (rRow rr) id).getD (.slice none 0 0), .bool (lookE (rRow rr) id).isSome] else (lookE (rRow rr) id).getD (.slice none 0 0)) = .slice (some ⟨v.g, 0, none⟩) v.xs.length v.cap by
      rw [if_neg (by decide), rRow, lookE_map, hl]; rfl)
    have hat : atR S id (n : Int) = if (n : Int) < v.xs.length then 0 else 1 := by unfold atR; rw [hs]
    have HAT := Lib.hid hat
    obtain ⟨m, hm⟩ : ∃ m, v.xs.length = m := ⟨_, rfl⟩
    have HMM := Lib.hid hm
    rw [hm] at HVL HAT hlen
    clear hat hq hs hl hab hm
    have hwm : IntKind.u64.wrap (m : Int) = (m : Int) := by rw [u64_wrap]; unfold u64w; omega
    by_cases hlt : n < m
    · have h1 : ¬ (m : Int) ≤ (n : Int) := by omega
      have h2 : (n : Int) < (m : Int) := by omega
      have h0 : (0 : Int) ≤ (n : Int) := by omega
      have HA := Lib.hid (HAT.out.trans (if_pos h2))
      clear hn
      go_enter Try.func32, Try.ntmps32
      go_wp2_with fail
      refine HC.out.mono ?_
      rintro e w1 ⟨rfl, hb⟩
      have HM1 := Lib.hid (HM.out.fp (Fp.of_below hb (fun _ => False)) (fun _ _ e => e))
      have HB := Lib.hid hb
      have c1 := HM1.out.box.cell 1
      have HZ := Lib.hid (zero30 w1)
      clear hb
      go_wp2_with (at_lookup; go_must (refine wpList_look rfl _ _ 60 false rfl 30 Try.underlying60 _ HZ.out pr (rRow rr) (by rfl) HM1.out.rm id hid (by rfl) (.slice (some ⟨v.g, 0, none⟩) m v.cap) HVL.out ?_))
      go_ret2
      exact ⟨HB.out, .inr ⟨HA.out, v, HL.out, by rw [HMM.out]; exact h2, rfl⟩⟩
    · have h1 : (m : Int) ≤ (n : Int) := by omega
      have HA := Lib.hid (HAT.out.trans (if_neg (by omega)))
      clear hn
      go_enter Try.func32, Try.ntmps32
      go_wp2_with fail
      refine HC.out.mono ?_
      rintro e w1 ⟨rfl, hb⟩
      have HM1 := Lib.hid (HM.out.fp (Fp.of_below hb (fun _ => False)) (fun _ _ e => e))
      have HB := Lib.hid hb
      have c1 := HM1.out.box.cell 1
      have HZ := Lib.hid (zero30 w1)
      clear hb
      go_wp2_with (at_lookup; go_must (refine wpList_look rfl _ _ 60 false rfl 30 Try.underlying60 _ HZ.out pr (rRow rr) (by rfl) HM1.out.rm id hid (by rfl) (.slice (some ⟨v.g, 0, none⟩) m v.cap) HVL.out ?_))
      go_ret2
      exact ⟨HB.out, .inl ⟨by rw [HA.out]; decide, by rw [HA.out]; rfl⟩⟩
/-- Load's answer. -/
def Lod (w : World) (q : Int × Int) (e : Ending) (w' : World) : Prop := e = .returned (.tuple #[.int .u64 q.1, .int .i64 q.2]) ∧ Below w.heap.size w w'
theorem row_cell {w : World} {a : Nat} {pc pr : Option Nat} {S : St} {rr : List (Int × RowE)} (h : SM w a pc pr S rr) {id : Int} {v : RowE} (hl : lookE rr id = some v) (n : Nat) (hn : n < v.xs.length) :
    w.cell? ⟨v.g, n, none⟩ = some (.int .u64 (getR S id (n : Int))) ∧ w.frozen? ⟨v.g, n, none⟩ = false := by
  have hro := h.rows _ (lookE_mem hl)
  refine ⟨?_, World.ownsRow.frozenAt hro n⟩
  have hg : getR S id (n : Int) = v.xs[n] := by
    unfold getR
    rw [show S.r = absR rr from h.abs, absR_look, hl]
    simp [hn]
  rw [hg, World.ownsRow.cellAt hro n (by show n < v.xs.length * 1; omega)]
  simp [hn]
set_option maxHeartbeats 3200000 in
theorem load_any (a : Nat) (O : Nat → Prop) (S : St) (id : Int) (n : Nat) (w : World) (h : Sto w a O S) (hid : (Lit.int .i64 id).wf = true) (hn : n < 18446744073709551616) :
    Calls Try.prog 18 #[ptr a, .int .i64 id, .int .u64 (n : Int)] w (Lod w (load S id (n : Int))) := by
  obtain ⟨hO, pc, pr, rr, hm, hown⟩ := h
  have HC := Lib.hid (at_any a pc pr S rr id n w hm hid hn)
  have HM := Lib.hid hm
  clear hm hown hO hn
  go_enter Try.func18, Try.ntmps18
  go_wp2_with fail
  refine HC.out.mono ?_
  rintro e w1 ⟨hb, ⟨hne, rfl⟩ | ⟨h0, v, hl, hlt, rfl⟩⟩
  · have hne2 : (atR S id (n : Int) == 0) = false := beq_eq_false_iff_ne.2 hne
    have HP := Lib.hid (show load S id (n : Int) = (0, atR S id (n : Int)) by unfold load; rw [if_neg hne])
    generalize atR S id (n : Int) = q at *
    go_wp2_with fail
    go_ret2
    rw [HP.out]
    exact ⟨rfl, hb⟩
  · have HP := Lib.hid (show load S id (n : Int) = (getR S id (n : Int), 0) by unfold load; rw [if_pos h0])
    have hn2 : n < v.xs.length := by omega
    obtain ⟨e0, _⟩ := row_cell (HM.out.fp (Fp.of_below hb (fun _ => False)) (fun _ _ e => e)) hl n hn2
    rw [Int.toNat_natCast]
    generalize getR S id (n : Int) = x at *
    clear h0 hlt hl hn2
    go_wp2_with fail
    go_ret2
    rw [HP.out]
    exact ⟨rfl, hb⟩
theorem setR_abs {w : World} {a : Nat} {pc pr : Option Nat} {S : St} {rr : List (Int × RowE)} (h : SM w a pc pr S rr) {id : Int} {v : RowE} (hl : lookE rr id = some v) (n : Nat) (x : Int) :
    setR S id (n : Int) x = { S with r := absR (putE rr id { v with xs := v.xs.set n x }) } := by
  unfold setR
  rw [show lookE S.r id = some v.xs by rw [show S.r = absR rr from h.abs, absR_look, hl]; rfl]
  show ({ S with r := putE S.r id (v.xs.set (Int.toNat (n : Int)) x) } : St) = _
  rw [Int.toNat_natCast, ← absR_put, ← show S.r = absR rr from h.abs]
theorem own_row {a : Nat} {pc pr : Option Nat} {rr : List (Int × RowE)} {id : Int} {v v' : RowE} (hl : lookE rr id = some v) (hg : v'.g = v.g) {k : Nat} (hk : Own a pc pr (putE rr id v') k) : Own a pc pr rr k := by
  rcases hk with hk | hk | hk | hk
  · exact .inl hk
  · exact .inr (.inl hk)
  · exact .inr (.inr (.inl hk))
  · rw [putE_gs' hl hg] at hk
    exact .inr (.inr (.inr hk))
set_option maxHeartbeats 3200000 in
theorem save_any (a : Nat) (O : Nat → Prop) (S : St) (id : Int) (n : Nat) (x : Int) (w : World) (h : Sto w a O S) (hid : (Lit.int .i64 id).wf = true) (hn : n < 18446744073709551616) (hx : u64ok x) :
    Calls Try.prog 13 #[ptr a, .int .i64 id, .int .u64 (n : Int), .int .u64 x] w (Did w a O (save S id (n : Int) x)) := by
  have HSTO := Lib.hid h
  obtain ⟨hO, pc, pr, rr, hm, hown⟩ := h
  have HC := Lib.hid (at_any a pc pr S rr id n w hm hid hn)
  have HM := Lib.hid hm
  have HOW := Lib.hid hown
  have HO := Lib.hid hO
  have HXX := Lib.hid hx
  clear hm hown hO hn hx
  go_enter Try.func13, Try.ntmps13
  go_wp2_with fail
  refine HC.out.mono ?_
  rintro e w1 ⟨hb, ⟨hne, rfl⟩ | ⟨h0, v, hl, hlt, rfl⟩⟩
  · have hne2 : (atR S id (n : Int) == 0) = false := beq_eq_false_iff_ne.2 hne
    have HP := Lib.hid (show save S id (n : Int) x = (atR S id (n : Int), S) by unfold save; rw [if_neg hne])
    generalize atR S id (n : Int) = q at *
    go_wp2_with fail
    go_ret
    rw [HP.out]
    exact ⟨rfl, HSTO.out.same hb, Fp.of_below hb _⟩
  · have HP := Lib.hid (show save S id (n : Int) x = (0, setR S id (n : Int) x) by unfold save; rw [if_pos h0])
    have hn2 : n < v.xs.length := by omega
    have HM1 := Lib.hid (HM.out.fp (Fp.of_below hb (fun _ => False)) (fun _ _ e => e))
    obtain ⟨e0, z0⟩ := row_cell HM1.out hl n hn2
    have HL := Lib.hid hl
    have HB := Lib.hid hb
    rw [Int.toNat_natCast]
    generalize getR S id (n : Int) = y at *
    clear h0 hlt hl hn2 hb
    go_wp2_with fail
    go_ret
    rw [HP.out, setR_abs HM1.out HL.out]
    have hf : Fp (fun j => j = v.g) w1 (w1.setCell ⟨v.g, n, none⟩ (.int .u64 x)) := (Fp.refl _ _).set_ _ (fun _ => rfl)
    exact ⟨rfl, (HM1.out.setRow HL.out n x HXX.out).sto HO.out (Nat.le_trans HB.out.size hf.size) (fun k hk => .inl (HOW.out k (own_row (v' := ⟨v.g, v.cap, v.xs.set n x⟩) HL.out rfl hk))), (Fp.of_below HB.out O).next hf (fun i hi _ => HOW.out i (.inr (.inr (.inr (by rw [show i = v.g from hi]; exact List.mem_map.2 ⟨_, lookE_mem HL.out, rfl⟩)))))⟩
set_option maxHeartbeats 3200000 in
theorem bump_any (a : Nat) (O : Nat → Prop) (S : St) (id : Int) (n : Nat) (x : Int) (w : World) (h : Sto w a O S) (hid : (Lit.int .i64 id).wf = true) (hn : n < 18446744073709551616) (hx : u64ok x) :
    Calls Try.prog 14 #[ptr a, .int .i64 id, .int .u64 (n : Int), .int .u64 x] w (Did w a O (bump S id (n : Int) x)) := by
  have HSTO := Lib.hid h
  obtain ⟨hO, pc, pr, rr, hm, hown⟩ := h
  have HC := Lib.hid (at_any a pc pr S rr id n w hm hid hn)
  have HM := Lib.hid hm
  have HOW := Lib.hid hown
  have HO := Lib.hid hO
  have HXX := Lib.hid hx
  clear hm hown hO hn hx
  go_enter Try.func14, Try.ntmps14
  go_wp2_with fail
  refine HC.out.mono ?_
  rintro e w1 ⟨hb, ⟨hne, rfl⟩ | ⟨h0, v, hl, hlt, rfl⟩⟩
  · have hne2 : (atR S id (n : Int) == 0) = false := beq_eq_false_iff_ne.2 hne
    have HP := Lib.hid (show bump S id (n : Int) x = (atR S id (n : Int), S) by unfold bump; rw [if_neg hne])
    generalize atR S id (n : Int) = q at *
    go_wp2_with fail
    go_ret
    rw [HP.out]
    exact ⟨rfl, HSTO.out.same hb, Fp.of_below hb _⟩
  · have HP := Lib.hid (show bump S id (n : Int) x = (0, setR S id (n : Int) (u64w (getR S id (n : Int) + x))) by unfold bump; rw [if_pos h0])
    have hn2 : n < v.xs.length := by omega
    have HM1 := Lib.hid (HM.out.fp (Fp.of_below hb (fun _ => False)) (fun _ _ e => e))
    obtain ⟨e0, z0⟩ := row_cell HM1.out hl n hn2
    have HL := Lib.hid hl
    have HB := Lib.hid hb
    rw [Int.toNat_natCast]
    have hsum := u64_wrap (getR S id (n : Int) + x)
    have HOKW := Lib.hid (u64w_ok (getR S id (n : Int) + x))
    generalize getR S id (n : Int) = y at *
    generalize u64w (y + x) = z at *
    clear h0 hlt hl hn2 hb
    go_wp2_with fail
    go_ret
    rw [HP.out, setR_abs HM1.out HL.out]
    have hf : Fp (fun j => j = v.g) w1 (w1.setCell ⟨v.g, n, none⟩ (.int .u64 z)) := (Fp.refl _ _).set_ _ (fun _ => rfl)
    exact ⟨rfl, (HM1.out.setRow HL.out n z HOKW.out).sto HO.out (Nat.le_trans HB.out.size hf.size) (fun k hk => .inl (HOW.out k (own_row (v' := ⟨v.g, v.cap, v.xs.set n z⟩) HL.out rfl hk))), (Fp.of_below HB.out O).next hf (fun i hi _ => HOW.out i (.inr (.inr (.inr (by rw [show i = v.g from hi]; exact List.mem_map.2 ⟨_, lookE_mem HL.out, rfl⟩)))))⟩
end Go.Proofs.Ytdobpieiobikpaa.Base
