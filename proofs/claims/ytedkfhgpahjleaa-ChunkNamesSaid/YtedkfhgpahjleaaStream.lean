/- What Feed does: contracts. Conditions: as each contract says. -/
import Derived.Test.YtedkfhgpahjleaaPure
import Derived.Laws.IdiomStrings
import Derived.Deep.DeepMust
set_option linter.unusedVariables false
set_option linter.unusedSimpArgs false
namespace Go.Proofs.Ytedkfhgpahjleaa.Base
open Go Go.RowKit Go.Proofs.Ytedkfhgpahjleaa.Mem Go.Proofs.YtedkfhgpahjleaaW.PrintWords
abbrev strV (l : List UInt8) : Value := .string ⟨l.toArray⟩
/-- The state that takes the next byte. -/
def At (w : World) (B p : Nat) (bs : List UInt8) (v : Value) : Prop := (bs.length < 4 ∧ v = lenF p) ∨ (4 ≤ bs.length ∧ BodyF w B p (4 + ln bs) v)
/-- A stream: the bytes that wait, or none where it is closed. -/
def St (w : World) (B p : Nat) : Option (List UInt8) → Prop
  | some bs => Inv bs ∧ ∃ at_ v, Blk w p 39 #[at_, v, .bool false] ∧ w.ownsRow B 5 1 v bs.length (bv bs) ∧ (At w B p bs at_ ∨ (bs = [] ∧ at_ = .nilFunc))
  | none => ∃ at_, Blk w p 39 #[at_, .slice none 0 0, .bool true]
theorem BodyF.fr {w w' : World} {B p all : Nat} {v : Value} {cs : Array Value} (h : BodyF w B p all v) (hp : Blk w p 39 cs) (hf : Fr B p w w') : BodyF w' B p all v := by
  obtain ⟨c, hc, e, h1, h2, h3⟩ := h
  exact ⟨c, hc, e, Blk.fr h1 hf (blk_ne h1 hp (by decide)) (by decide), Blk.fr h2 hf (blk_ne h2 hp (by decide)) (by decide), Blk.fr h3 hf (blk_ne h3 hp (by decide)) (by decide)⟩
/-- What holds at the head of Feed's loop. -/
def FRel (B p N : Nat) (d : List UInt8) (goal : List (List UInt8) × Option (List UInt8)) (w0 : World) (t4 t31 : Value) (wr : World) : Prop :=
  ∃ (k : Nat) (cur : List UInt8) (outs : List (List UInt8)) (at_ v : Value), t31 = .int .i64 (k : Int) ∧ k ≤ d.length ∧ Inv cur ∧ outs.length ≤ k ∧ goal = (outs ++ (parse (cur ++ d.drop k)).1, (parse (cur ++ d.drop k)).2) ∧
    Blk wr p 39 #[at_, v, .bool false] ∧ wr.ownsRow B 5 1 v cur.length (bv cur) ∧ At wr B p cur at_ ∧ wr.ownsRow N 9 1 t4 outs.length (outs.map strV) ∧ Fr B p w0 wr
theorem info9 : (Try.prog.info? 9).map (fun i => (i.zero, i.size, i.bytes)) = some (some (.string ⟨#[]⟩), 1, 16) := by kernel_rfl
theorem own_fr {w w' : World} {B p N e sz n : Nat} {v : Value} {xs : List Value} {cs : Array Value} (h : w.ownsRow N e sz v n xs) (he : e ≠ 5) (he2 : e ≠ 39) (hp : Blk w p 39 cs) (hf : Fr B p w w') : w'.ownsRow N e sz v n xs := by
  refine ⟨h.1, ?_⟩
  rcases h.2 with hn | ⟨g, cap, cur, rfl, hb, hg, rest⟩
  · exact .inl hn
  · exact .inr ⟨g, cap, cur, rfl, hb, Blk.fr (show Blk w g e cur from hg) hf (blk_ne (show Blk w g e cur from hg) hp he2) he, rest⟩
theorem own_ne9 {w : World} {N e s n : Nat} {v : Value} {xs : List Value} {g : Nat} {t : TypeId} {cs : Array Value} (h : Blk w g t cs) (ho : w.ownsRow N e s v n xs) (ht : t ≠ e) : some g ≠ v.ownBlock := by
  rcases ho.2 with ⟨rfl, _⟩ | ⟨g', cap, cur, rfl, hb, hh, _⟩
  · simp [Value.ownBlock]
  · intro e
    simp [Value.ownBlock] at e
    subst e
    unfold Blk at h
    rw [hh] at h
    injection h with h; injection h with _ h; exact ht h.symm
/-- The stream's own cells may be written: its bytes stand. -/
theorem own_set {w : World} {B p sz n i : Nat} {v u : Value} {xs : List Value} {cs : Array Value} (h : w.ownsRow B 5 sz v n xs) (hp : Blk w p 39 cs) : (w.setCell ⟨p, i, none⟩ u).ownsRow B 5 sz v n xs :=
  h.kept (row := some p) (gb_set (i := i) u (gb_below (Below.refl _ _) _)) (.inr (fun e => own_ne hp h (by decide) e.symm))
theorem at_data (s : ByteArray) (k : Nat) (b : UInt8) (h : k < s.size) (hb : s[k]'h = b) : s.data.toList.drop k = b :: s.data.toList.drop (k + 1) := by
  have hl : k < s.data.toList.length := by rw [Array.length_toList]; exact h
  rw [List.drop_eq_getElem_cons hl]
  congr 1
theorem eql_len (p : Nat) (w : World) : (binOp BinOp.eql 36 (lenF p) .nilFunc).run Try.prog w = .ok (.bool false) w := by kernel_rfl
theorem eql_body (c : Array Value) (w : World) : (binOp BinOp.eql 36 (.func (.func 26) #[] c) .nilFunc).run Try.prog w = .ok (.bool false) w := by kernel_rfl
theorem Fr.rowN {B p : Nat} {w w1 w2 : World} {v : Value} {n : Nat} {xs : List Value} {e s : Nat} (h : Fr B p w w1) (hg : w1.grownBy w2 v.ownBlock) (ho : w1.ownsRow w.heap.size e s v n xs) (hB : B ≤ w.heap.size) : Fr B p w w2 := by
  refine h.grown hg (fun k e => ?_)
  rcases ho.2 with ⟨rfl, _⟩ | ⟨g, cap, cur, rfl, hb, hh, _⟩
  · simp [Value.ownBlock] at e
  · simp [Value.ownBlock] at e
    subst e
    exact ⟨by omega, .inr (.inl hb)⟩
theorem own_set9 {w : World} {N p sz n i : Nat} {v u : Value} {xs : List Value} {cs : Array Value} (h : w.ownsRow N 9 sz v n xs) (hp : Blk w p 39 cs) : (w.setCell ⟨p, i, none⟩ u).ownsRow N 9 sz v n xs :=
  h.kept (row := some p) (gb_set (i := i) u (gb_below (Below.refl _ _) _)) (.inr (fun e => own_ne9 hp h (by decide) e.symm))
theorem at_func {w : World} {B p : Nat} {bs : List UInt8} {v : Value} (h : At w B p bs v) : ∃ f a c, v = .func f a c := by
  rcases h with ⟨_, rfl⟩ | ⟨_, c, _, rfl, _⟩ <;> exact ⟨_, _, _, rfl⟩
theorem eql_func (f : Fn) (a c : Array Value) (w : World) : (binOp BinOp.eql 36 (.func f a c) .nilFunc).run Try.prog w = .ok (.bool false) w := by kernel_rfl
set_option maxHeartbeats 3200000 in
theorem feed_any (B p : Nat) (bs : List UInt8) (s : ByteArray) (w : World) (hB : B ≤ p) (hI : Inv bs) (at_ v : Value) (hb : Blk w p 39 #[at_, v, .bool false]) (ho : w.ownsRow B 5 1 v bs.length (bv bs)) (hA : At w B p bs at_) (hs : s.size ≤ 1000000) :
    Calls Try.prog 15 #[ptr p, .string s] w fun e w' => ∃ ov, e = .returned (.tuple #[ov, .int .i64 (if (parse (bs ++ s.data.toList)).2.isNone then 5 else 0)]) ∧
      w'.ownsRow w.heap.size 9 1 ov (parse (bs ++ s.data.toList)).1.length ((parse (bs ++ s.data.toList)).1.map strV) ∧ St w' B p (parse (bs ++ s.data.toList)).2 ∧ Fr B p w w' := by
  obtain ⟨i0, hi0, hz0, hz1, hz2⟩ := info_parts info9
  have c0 := hb.cell 0
  have c1 := hb.cell 1
  have c2 := hb.cell 2
  have hR : FRel B p w.heap.size s.data.toList (parse (bs ++ s.data.toList)) w (.slice none 0 0) (.int .i64 0) w :=
    ⟨0, bs, [], at_, v, rfl, by omega, hI, by simp, by simp, hb, ho, hA, World.ownsRow_nil _ _ _ _, Fr.refl _ _ _⟩
  generalize parse (bs ++ s.data.toList) = G at hR ⊢
  obtain ⟨f0, f1, f2, rfl⟩ := at_func hA
  have q := eql_func f0 f1 f2 w
  have hBw : B ≤ w.heap.size := by have := hb.lt; omega
  go_enter Try.func15, Try.ntmps15
  go_wp2_with fail
  have hN : (s.size : Int) = ((s.data.toList.length : Nat) : Int) := by rw [Array.length_toList]; rfl
  clear c0 c1 c2 q hA
  go_loopw [4, 31] (fun t4 t31 wr => FRel B p w.heap.size s.data.toList G w t4 t31 wr) (fun _ t31 _ => s.data.toList.length - (intOf t31).toNat)
  case atStart => exact hR
  case round =>
    clear hR hb ho
    obtain ⟨k, cur, outs, at1, v1, rfl, hk, hI1, hlo, hG0, hb1, ho1, hA1, hown, hF⟩ := hrel
    have hG := Lib.hid hG0
    clear hG0
    by_cases hlt : k < s.data.toList.length
    · have hk0 : (0 : Int) ≤ (k : Int) := by omega
      have hk1 : (k : Int) < (s.size : Int) := by omega
      have hks : k < s.size := by omega
      have f0 := hb1.cell 0
      have ho1d : wr.drew.ownsRow B 5 1 v1 cur.length (bv cur) := ho1
      obtain ⟨b, hbk⟩ : ∃ b, s[k]'hks = b := ⟨_, rfl⟩
      rcases hA1 with ⟨hl4, rfl⟩ | ⟨hl4, c, hc, rfl, k1, k2, k3⟩
      · by_cases hlw : cur.length + 1 < 4
        · clear hN
          go_upto_region 10 with (fail)
          go_region_held3 (fun w' => w'.cell? ⟨p, 0, none⟩ = some (lenF p)) (go_keep)
            (first | (go_at_call 23; (with_reducible refine (length_wait B p cur b _ _ _ _ hb1.drew ho1d hB hlw).mono ?_); rintro e w1 ⟨rfl, ⟨v2, hb2, ho2⟩, hF2⟩; have d0 : w1.cell? ⟨p, 0, none⟩ = some (lenF p) := hb2.cell 0))
          have e0 := hb2.cell 0
          have e1 := hb2.frozen 0
          go_wp2
          have hF3 : Fr B p wr (w1.setCell ⟨p, 0, none⟩ (lenF p)) := (((Fr.refl B p wr).drew).trans hF2).set_ 0 _ hB
          have hG1 := hG.out
          rw [at_data s k b hks hbk] at hG1
          refine ⟨⟨k + 1, cur ++ [b], outs, lenF p, v2, rfl, by omega, .inl (by simp; omega), by omega, by simpa using hG1, hb2.set_ 0 _, by simpa using own_set ho2 hb2, .inl ⟨by simp; omega, rfl⟩, own_fr hown (by decide) (by decide) hb1 hF3, hF.trans hF3⟩, ?_⟩
          simp [intOf]
          omega
        · obtain ⟨x, y, z, rfl⟩ : ∃ x y z, cur = [x, y, z] := by
            match cur, hl4, hlw with
            | [x, y, z], _, _ => exact ⟨x, y, z, rfl⟩
            | [], _, h => simp at h
            | [_], _, h => simp at h
            | [_, _], _, h => simp at h
            | _ :: _ :: _ :: _ :: _, h, _ => simp at h; omega
          have ho1e : wr.drew.ownsRow B 5 1 v1 3 (bv [x, y, z]) := ho1d
          by_cases hbad : be x y z b < 5 ∨ 16384 < be x y z b
          · have hG1 := hG.out
            rw [at_data s k b hks hbk, show [x, y, z] ++ b :: s.data.toList.drop (k + 1) = [x, y, z, b] ++ s.data.toList.drop (k + 1) from rfl, parse_bad (t := [x, y, z, b]) _ (by simp) hbad] at hG1
            clear hG
            subst hG1
            clear hN
            go_upto_region 10 with (fail)
            go_region_held3 (fun w' => w'.cell? ⟨p, 0, none⟩ = some (lenF p)) (go_keep)
              (first | (go_at_call 23; (with_reducible refine (length_bad B p x y z b _ _ _ _ hb1.drew ho1e hB hbad).mono ?_); rintro e w1 ⟨rfl, ⟨v2, hb2⟩, hF2⟩; have d0 : w1.cell? ⟨p, 0, none⟩ = some (lenF p) := hb2.cell 0))
            have hb3 := hb2.set_ 2 (.bool true)
            have e1 := hb2.cell 2
            have e2 := hb2.frozen 2
            have e3 := hb3.cell 1
            have e4 := hb3.frozen 1
            go_wp2
            go_ret2
            have hF3 : Fr B p wr ((w1.setCell ⟨p, 2, none⟩ (.bool true)).setCell ⟨p, 1, none⟩ (.slice none 0 0)) := ((((Fr.refl B p wr).drew).trans hF2).set_ 2 _ hB).set_ 1 _ hB
            refine ⟨_, rfl, by simpa using own_fr hown (by decide) (by decide) hb1 hF3, ⟨_, hb3.set_ 1 _⟩, hF.trans hF3⟩
          · have h5 : 5 ≤ be x y z b := by omega
            have h6 : be x y z b ≤ 16384 := by omega
            clear hN hbad
            go_upto_region 10 with (fail)
            go_region_held3 (fun w' => w'.cell? ⟨p, 0, none⟩ = some (lenF p)) (go_keep)
              (first | (go_at_call 23; (with_reducible refine (length_next B p x y z b _ _ _ _ hb1.drew ho1e hB h5 h6).mono ?_); rintro e w1 ⟨_, rfl, ⟨c, hc, rfl, q1, q2, q3⟩, ⟨v2, hb2, ho2⟩, hF2⟩; have d0 : w1.cell? ⟨p, 0, none⟩ = some (lenF p) := hb2.cell 0))
            have e0 := hb2.cell 0
            have e1 := hb2.frozen 0
            go_wp2
            have hf2 : BodyF w1 B p (4 + be x y z b) (.func (.func 26) #[] #[ptr c, ptr (c + 1), ptr (c + 2)]) := ⟨c, hc, rfl, q1, q2, q3⟩
            have hF4 : Fr B p w1 (w1.setCell ⟨p, 0, none⟩ (.func (.func 26) #[] #[ptr c, ptr (c + 1), ptr (c + 2)])) := (Fr.refl B p w1).set_ 0 _ hB
            have hF3 : Fr B p wr (w1.setCell ⟨p, 0, none⟩ (.func (.func 26) #[] #[ptr c, ptr (c + 1), ptr (c + 2)])) := (((Fr.refl B p wr).drew).trans hF2).set_ 0 _ hB
            have hG1 := hG.out
            rw [at_data s k b hks hbk] at hG1
            refine ⟨⟨k + 1, [x, y, z, b], outs, _, v2, rfl, by omega, .inr ⟨h5, h6, by show 4 < 4 + be x y z b; omega⟩, by omega, hG1, hb2.set_ 0 _, own_set ho2 hb2, .inr ⟨by simp, hf2.fr hb2 hF4⟩, own_fr hown (by decide) (by decide) hb1 hF3, hF.trans hF3⟩, ?_⟩
            simp [intOf]
            omega
      · obtain ⟨i1, i2, i3⟩ : 5 ≤ ln cur ∧ ln cur ≤ 16384 ∧ cur.length < 4 + ln cur := by
          rcases hI1 with h | h
          · omega
          · exact h
        have hln := ln_app cur [b] hl4
        by_cases hlw : cur.length + 1 < 4 + ln cur
        · clear hN
          go_upto_region 10 with (fail)
          go_region_held3 (fun w' => w'.cell? ⟨p, 0, none⟩ = some (.func (.func 26) #[] #[ptr c, ptr (c + 1), ptr (c + 2)])) (go_keep)
            (first | (go_at_call 26; (with_reducible refine (body_wait B p (4 + ln cur) cur b _ _ _ _ c _ hb1.drew ho1d hB k1.drew k2.drew k3.drew hlw (by omega)).mono ?_); rintro e w1 ⟨rfl, ⟨v2, hb2, ho2⟩, hF2⟩; have d0 : w1.cell? ⟨p, 0, none⟩ = some (.func (.func 26) #[] #[ptr c, ptr (c + 1), ptr (c + 2)]) := hb2.cell 0))
          have e0 := hb2.cell 0
          have e1 := hb2.frozen 0
          go_wp2
          have hF3 : Fr B p wr (w1.setCell ⟨p, 0, none⟩ (.func (.func 26) #[] #[ptr c, ptr (c + 1), ptr (c + 2)])) := (((Fr.refl B p wr).drew).trans hF2).set_ 0 _ hB
          have hf0 : BodyF wr B p (4 + ln cur) (.func (.func 26) #[] #[ptr c, ptr (c + 1), ptr (c + 2)]) := ⟨c, hc, rfl, k1, k2, k3⟩
          have hf2 := hf0.fr hb1 hF3
          have hG1 := hG.out
          rw [at_data s k b hks hbk] at hG1
          rw [← hln] at hf2 i1 i2 hlw
          refine ⟨⟨k + 1, cur ++ [b], outs, _, v2, rfl, by omega, .inr ⟨i1, i2, by simp; omega⟩, by omega, by simpa using hG1, hb2.set_ 0 _, by simpa using own_set ho2 hb2, .inr ⟨by simp; omega, hf2⟩, own_fr hown (by decide) (by decide) hb1 hF3, hF.trans hF3⟩, ?_⟩
          simp [intOf]
          omega
        · have hle : 4 + ln cur ≤ cur.length + 1 := by omega
          have hcl : cur.length < 16388 := by omega
          clear hN hlw
          go_upto_region 10 with (fail)
          go_region_held3 (fun w' => w'.cell? ⟨p, 0, none⟩ = some (.func (.func 26) #[] #[ptr c, ptr (c + 1), ptr (c + 2)])) (go_keep)
            (first | (go_at_call 26; (with_reducible refine (body_done B p (4 + ln cur) cur b _ _ _ _ c _ hb1.drew ho1d hB k1.drew k2.drew k3.drew hle hcl).mono ?_); rintro e w1 ⟨rfl, ⟨v2, hb2, ho2⟩, hF2⟩; have d0 : w1.cell? ⟨p, 0, none⟩ = some (.func (.func 26) #[] #[ptr c, ptr (c + 1), ptr (c + 2)]) := hb2.cell 0))
          obtain ⟨g, cap, rfl, hBg, hgs⟩ := ho2.form (by omega)
          have hcap : cur.length + 1 ≤ cap := by
            rcases ho2.2 with ⟨h, _⟩ | ⟨g', cap', _, h, _, _, h', _⟩
            · cases h
            · injection h with _ _ h; omega
          have e0 := hb2.cell 1
          have hF5 : Fr B p wr w1 := ((Fr.refl B p wr).drew).trans hF2
          have hF6 : Fr B p w w1 := hF.trans hF5
          have hown1 : w1.ownsRow w.heap.size 9 1 u4 outs.length (outs.map strV) := own_fr hown (by decide) (by decide) hb1 hF5
          have hll : ((cur ++ [b]).drop 4).length = cur.length - 3 := by simp
          have hcv := run_convert_bytes_back (P := Try.prog) w1 37 9 5 ⟨g, 4, none⟩ (cap - 4) ((cur ++ [b]).drop 4) Try.underlying37 Try.underlying5 Try.underlying9 (fun j hj => by
            rw [Mem.add_at, ho2.cellAt (4 + j) (by rw [hll] at hj; omega)]
            simp only [bv, List.getElem?_map, List.getElem_drop]
            rw [List.getElem?_eq_getElem (by simp; rw [hll] at hj; omega)]
            rfl)
          rw [hll] at hcv
          have hms : w.heap.size ≤ w1.heap.size := hF6.size
          have y1 : outs.length + 1 ≤ maxLen := by simp [maxLen]; omega
          have y2 : (outs.length + 1) * 16 ≤ 140737488355328 := by omega
          have y3 : w.heap.size ≤ (w1.alloc (.cells #[strV ((cur ++ [b]).drop 4)] 9)).heap.size := by simp; omega
          go_wp2_with (at_builtin; go_must (refine wpList_append_lies _ rfl _ _ _ rfl w.heap.size 9 i0 _ 1 16 Try.underlying30 hi0 hz0 hz1 hz2 rfl (by omega) u4 outs.length (outs.map strV) rfl (hown1.alloc _) ⟨w1.heap.size, 0, none⟩ 1 1 [strV ((cur ++ [b]).drop 4)] (by rfl) (by rfl) (World.news_of_block (cs := #[strV ((cur ++ [b]).drop 4)]) (t := 9) (fr := (0, 0)) (heap_alloc_new w1 _)) (by simp [Value.oneCell']) (by omega) y1 y2 y3 (w1.heap.size + 1) (by simp) ?_; intro g2 cap2 w2 hown2 hgrow2 hat2 hlt2; have hb3 := (hb2.alloc (.cells #[strV ((cur ++ [b]).drop 4)] 9)).grown hgrow2 (own_ne9 (hb2.alloc (.cells #[strV ((cur ++ [b]).drop 4)] 9)) (hown1.alloc (.cells #[strV ((cur ++ [b]).drop 4)] 9)) (by decide)); have z1 := hb3.cell 1; have z2 := hb3.frozen 1; have hb4 := hb3.set_ 1 (.slice none 0 0); have z3 := hb4.cell 0; have z4 := hb4.frozen 0))
          have hG1 := hG.out
          rw [at_data s k b hks hbk, show cur ++ b :: s.data.toList.drop (k + 1) = (cur ++ [b]) ++ s.data.toList.drop (k + 1) by simp, parse_done (t := cur ++ [b]) _ (by omega) (by omega) (by simp; omega)] at hG1
          have hF7 : Fr B p w ((w2.setCell ⟨p, 1, none⟩ (.slice none 0 0)).setCell ⟨p, 0, none⟩ (lenF p)) := (((hF6.alloc _).rowN hgrow2 (hown1.alloc _) hBw).set_ 1 _ hB).set_ 0 _ hB
          refine ⟨⟨k + 1, [], outs ++ [(cur ++ [b]).drop 4], lenF p, .slice none 0 0, rfl, by omega, .inl (by simp), by simp; omega, by simpa using hG1, hb4.set_ 0 _, World.ownsRow_nil _ _ _ _, .inl ⟨by simp, rfl⟩, by simpa using own_set9 (own_set9 hown2 hb3) hb4, hF7⟩, ?_⟩
          simp [intOf]
          omega
    · have hkl : k = s.data.toList.length := by omega
      have hle : ¬ (k : Int) < (s.size : Int) := by omega
      have hG1 := hG.out
      rw [hkl, List.drop_length, List.append_nil, parse_inv hI1] at hG1
      clear hN hkl hlt hk hG
      subst hG1
      go_wp2
      go_ret2
      refine ⟨_, rfl, by simpa using hown, ⟨hI1, at1, v1, hb1, ho1, .inl hA1⟩, hF⟩
end Go.Proofs.Ytedkfhgpahjleaa.Base
