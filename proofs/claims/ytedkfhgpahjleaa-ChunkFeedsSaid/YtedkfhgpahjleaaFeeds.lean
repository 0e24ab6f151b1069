/- Whatever chunks come, the bodies that are told, the errors, and what waits, are the document's; what is told may be written over. Conditions: none beyond the row's own. -/
import Derived.Test.YtedkfhgpahjleaaRef
import Derived.Test.YtedkfhgpahjleaaAwake
set_option linter.unusedVariables false
set_option linter.unusedSimpArgs false
namespace Go.Proofs.Ytedkfhgpahjleaa.Feeds
open Go Go.RowKit Go.Proofs.Ytedkfhgpahjleaa.Mem Go.Proofs.YtedkfhgpahjleaaW.PrintWords Go.Proofs.Ytedkfhgpahjleaa.Base Go.Proofs.Ytedkfhgpahjleaa.PChunkFeeds
theorem St.keep {w w1 : World} {B p g : Nat} {t : TypeId} {cs : Array Value} {st : Option (List UInt8)} (h : St w B p st) (hg : KeepBut w w1 g none) (hb : Blk w g t cs) (ht : t ≠ 5 ∧ t ≠ 39 ∧ t ≠ 28 ∧ t ≠ 3 ∧ t ≠ 36) : St w1 B p st := by
  have hn : ∀ {g' : Nat} {u : TypeId} {ds : Array Value}, Blk w g' u ds → u ≠ t → Blk w1 g' u ds := fun k hu => hg.blk k (Base.blk_ne k hb hu) (by simp)
  cases st with
  | none => obtain ⟨at_, h⟩ := h; exact ⟨at_, hn h ht.2.1.symm⟩
  | some bs =>
    obtain ⟨hI, at_, v, h, ho, hA⟩ := h
    refine ⟨hI, at_, v, hn h ht.2.1.symm, own_move ho (fun k hk => hg.2 k ?_ ?_ (by simp)), ?_⟩
    · obtain ⟨cells, hc⟩ := own_typed ho k hk
      exact Blk.lt hc
    · exact fun e => own_ne hb ho ht.1 (by rw [hk, e])
    rcases hA with (hA | ⟨hl, c, hc, e, h1, h2, h3⟩) | hA
    · exact .inl (.inl hA)
    · exact .inl (.inr ⟨hl, c, hc, e, hn h1 ht.2.2.1.symm, hn h2 ht.2.2.2.1.symm, hn h3 ht.2.2.2.2.symm⟩)
    · exact .inr hA
/-- The document's stream. -/
def X (w : World) (g : Nat) (st : Option (List UInt8)) : Prop := Blk w g 43 #[.string (stS st), .bool st.isNone]
theorem ref_feed (g : Nat) (st : Option (List UInt8)) (d : ByteArray) (w0 w : World) (hx : X w g st) (hg : w0.heap.size ≤ g) (hB : Below w0.heap.size w0 w) (h : (st.getD []).length + d.size < 100000000) :
    Calls Try.prog 20 #[.pointer (some ⟨g, 0, none⟩), .string d] w fun e w' => ∃ v, e = .returned (.tuple #[v, .int .i64 (errF st d.data.toList)]) ∧
      Kd.R Kd.string 9 w' w.heap.size (fun _ => True) v (txt (outF st d.data.toList)) ∧ X w' g (nextF st d.data.toList) ∧ Below w0.heap.size w0 w' ∧ KeepBut w w' g none := by
  obtain ⟨k, hk⟩ := feed_f st d h
  refine (turnoutref07_Stream_Feed.calls k g _ _ d _ _ _ _ w0 w ⟨hx, hg⟩ hB hk).mono ?_
  rintro e w' ⟨v, he, hR, hI, hb, hkb⟩
  exact ⟨v, he, hR, hI.1, hb, hkb⟩
theorem next_len (st : Option (List UInt8)) (d : List UInt8) : ((nextF st d).getD []).length ≤ (st.getD []).length + d.length := by
  cases st with
  | none => simp [nextF]
  | some bs =>
    have hp : ∀ s : List UInt8, ((parse s).2.getD []).length ≤ s.length := by
      intro s
      induction s using parse.induct with
      | case1 s h => rw [parse, if_pos h]; simp
      | case2 s h h2 => rw [parse, if_neg h, if_pos h2]; simp
      | case3 s h h2 h3 => rw [parse, if_neg h, if_neg h2, if_pos h3]; simp
      | case4 s h h2 h3 ih => rw [parse, if_neg h, if_neg h2, if_neg h3]; simp only [List.length_drop] at ih; exact Nat.le_trans ih (Nat.sub_le _ _)
    have := hp (bs ++ d)
    simpa [nextF] using this
def Rel (B p g : Nat) (l : List ByteArray) (w0 : World) (t : Value) (wr : World) : Prop :=
  ∃ (k : Nat) (st : Option (List UInt8)), t = .int .i64 (k : Int) ∧ k ≤ l.length ∧ St wr B p st ∧ X wr g st ∧ (st.getD []).length ≤ tot (l.take k) ∧ Kp B w0 wr
theorem own_same {w w1 : World} {N e s n : Nat} {v : Value} {xs : List Value} (h : w.ownsRow N e s v n xs) (hk : ∀ k, k < w.heap.size → N ≤ k → w1.heap[k]? = w.heap[k]?) : w1.ownsRow N e s v n xs :=
  own_move h fun k hk' => by
    obtain ⟨cells, hc⟩ := own_typed h k hk'
    refine hk k (Blk.lt hc) ?_
    rcases h.2 with ⟨rfl, _⟩ | ⟨g, cap, cur, rfl, hb, _⟩
    · simp [Value.ownBlock] at hk'
    · simp [Value.ownBlock] at hk'; omega
theorem tot_take (l : List ByteArray) (k : Nat) (h : k < l.length) : tot (l.take (k + 1)) = tot (l.take k) + (100 + l[k].size) := by
  unfold tot
  rw [List.take_succ_eq_append_getElem h, List.map_append, List.sum_append]
  simp
theorem tot_take_le (l : List ByteArray) (k : Nat) : tot (l.take k) ≤ tot l := by
  have : tot l = tot (l.take k) + tot (l.drop k) := by
    unfold tot
    rw [← List.sum_append, ← List.map_append, List.take_append_drop]
  omega
theorem quiet_left {P : Program} {f : FuncId} {args : Array Value} {w : World} {n : Nat} {v : Value}
    (h : Calls P f args (w.drewN n) fun e w' => e = .returned v ∧ w.drewN n = w') : Calls P f args (w.drewN n) fun e w'' => e = .returned v ∧ ∃ m, w'' = w.drewN m :=
  h.mono fun _ _ ⟨he, hm⟩ => ⟨he, n, hm.symm⟩
theorem same_yes (A0 : Option Addr) (c0 : Nat) (l : List ByteArray) (A1 : Option Addr) (c1 : Nat) (w : World) (h0 : Kd.C Kd.string w A0 l.length l) (hc0 : l.length ≤ c0) (h1 : Kd.C Kd.string w A1 l.length l) (hc1 : l.length ≤ c1) (hb : l.length < 9223372036854775807) :
    Calls Try.prog 16 #[.slice A0 l.length c0, .slice A1 l.length c1] w fun e w' => e = .returned (.bool true) ∧ ∃ n, w' = w.drewN n :=
  (same_any A0 c0 l A1 c1 l w h0 hc0 h1 hc1 hb).mono fun e w' ⟨he, hw⟩ => ⟨by rw [he, decide_eq_true rfl], hw⟩
theorem own_low {w : World} {b b' : Nat} {e : TypeId} {s n : Nat} {v : Value} {xs : List Value} (h : w.ownsRow b e s v n xs) (hb : b' ≤ b) : w.ownsRow b' e s v n xs := by
  obtain ⟨h1, h2⟩ := h
  refine ⟨h1, ?_⟩
  rcases h2 with h2 | ⟨g, cap, cur, e1, hg, r⟩
  · exact .inl h2
  · exact .inr ⟨g, cap, cur, e1, by omega, r⟩
def Two (w : World) (os : List (List UInt8)) (A0 : Option Addr) (c0 : Nat) (A1 : Option Addr) (c1 : Nat) : Prop := Kd.C Kd.string w A0 (txt os).length (txt os) ∧ os.length ≤ c0 ∧ Kd.C Kd.string w A1 (txt os).length (txt os) ∧ os.length ≤ c1 ∧ os.length < 9223372036854775807
theorem same_two (os : List (List UInt8)) (A0 : Option Addr) (c0 : Nat) (A1 : Option Addr) (c1 : Nat) (w : World) (h : Two w os A0 c0 A1 c1) (n : Nat) :
    Calls Try.prog 16 #[.slice A0 os.length c0, .slice A1 os.length c1] (w.drewN n) fun e w' => e = .returned (.bool true) ∧ ∃ m, w' = (w.drewN n).drewN m := by
  obtain ⟨h0, h1, h2, h3, h4⟩ := h
  have := same_yes A0 c0 (txt os) A1 c1 (w.drewN n) (Kd.C_drewN h0 n) (by rw [txt_len]; exact h1) (Kd.C_drewN h2 n) (by rw [txt_len]; exact h3) (by rw [txt_len]; exact h4)
  rw [txt_len] at this
  exact this
theorem out_len (st : Option (List UInt8)) (d : List UInt8) : (outF st d).length ≤ (st.getD []).length + d.length := by
  cases st with
  | none => simp [outF]
  | some bs =>
    have hp : ∀ s : List UInt8, (parse s).1.length ≤ s.length := by
      intro s
      induction s using parse.induct with
      | case1 s h => rw [parse, if_pos h]; simp
      | case2 s h h2 => rw [parse, if_neg h, if_pos h2]; simp
      | case3 s h h2 h3 => rw [parse, if_neg h, if_neg h2, if_pos h3]; simp
      | case4 s h h2 h3 ih =>
        rw [parse, if_neg h, if_neg h2, if_neg h3]
        simp only [List.length_drop, List.length_cons] at ih ⊢
        omega
    have := hp (bs ++ d)
    simpa [outF] using this
theorem waits_s (p : Nat) (st : Option (List UInt8)) (w : World) (h : Sv w p st) : Calls Try.prog 17 #[ptr p] w fun e w' => e = .returned (.int .i64 ((stS st).size : Int)) ∧ w = w' := waits_st p st w h
/-- What is over-written stays a row. -/
def Ov (B p g n : Nat) (st : Option (List UInt8)) (v : Value) (w0 : World) (t : Value) (wr : World) : Prop :=
  ∃ (j : Nat) (xs : List Value), t = .int .i64 (j : Int) ∧ j ≤ n ∧ wr.ownsRow B 9 1 v n xs ∧ St wr B p st ∧ X wr g st ∧ Kp B w0 wr
theorem KP {B g : Nat} {w0 w w1 : World} (h : Kp B w0 w) (hb : Below B w0 w1) (hk : KeepBut w w1 g none) : Kp B w0 w1 := ⟨hb, Nat.le_trans h.size hk.1⟩
set_option maxHeartbeats 400000 in
theorem core (A : Option Addr) (c : Nat) (l : List ByteArray) (w : World) (hc : l.length ≤ c) (hm : l.length * 16 ≤ 140737488351232) (hz : ∀ x ∈ l, x.size ≤ 140737488351232) (hl : Kd.string.C w A l.length l) :
    Calls Try.prog 5 #[.slice A l.length c] w fun e w' => e = .returned (.bool true) ∧ Below w.heap.size w w' := by
  obtain ⟨b, hb, hcall⟩ := long_any A c l w hl hc (by omega)
  cases b with
  | true =>
    go_enter Try.func5, Try.ntmps5
    go_wp2_with fail
    refine hcall.mono ?_
    rintro e w1 ⟨rfl, hb1⟩
    have HK := (Kp.refl w).go hb1
    clear hb1
    go_wp2_with fail
    refine (awake_any _).mono ?_
    rintro e w3 ⟨rfl, hb⟩
    replace HK := HK.go hb
    go_wp2_with fail
    go_ret
    exact ⟨rfl, HK.below⟩
  | false =>
    have ht := hb rfl
    clear hb
    have htl := tot_len l
    have HL := Lib.hid hl
    go_enter Try.func5, Try.ntmps5
    go_wp2_with fail
    refine hcall.mono ?_
    clear hcall
    rintro e w1 ⟨rfl, hb1⟩
    have HK := (Kp.refl w).go hb1
    clear hb1
    go_wp2_with fail
    refine (new_st w.heap.size _).mono ?_
    rintro e w2 ⟨p, rfl, hp, hs, hb⟩
    have Bp := Nat.le_trans HK.size hp
    replace HK := HK.go hb
    clear hb hp
    go_wp2_with fail
    have hR : Rel w.heap.size p w2.heap.size l w (.int .i64 0) (w2.alloc (.cells #[.string ⟨#[]⟩, .bool false] 43)) :=
      ⟨0, some [], rfl, by omega, hs.go (below_alloc (Below.refl _ _) _), Blk.new _ _ _, by simp [tot], HK.alloc _⟩
    have hgs := HK.size
    replace HK := HK.alloc (.cells #[.string ⟨#[]⟩, .bool false] 43)
    have HT := Lib.hid ht
    have HZ := Lib.hid hz
    clear hl ht hz hs
    generalize w2.heap.size = g at *
    generalize w2.alloc _ = w3 at *
    go_loopw [5] (fun t wr => Rel w.heap.size p g l w t wr) (fun t _ => l.length - (intOf t).toNat)
    case atStart => exact hR
    case round =>
      clear hR
      obtain ⟨k, st, rfl, hk, hs, hx, hn, HK⟩ := hrel
      by_cases hlt : k < l.length
      · have k0 : (0 : Int) ≤ (k : Int) := by omega
        have k1 : (k : Int) < (l.length : Int) := by omega
        obtain ⟨ad, rfl, e0⟩ := Kd.at_string (Kd.C_below HL.out HK.below) (k : Int) k0 k1
        have hx0 : l[k]? = some l[k] := List.getElem?_eq_getElem hlt
        have hr0 : rdOf ByteArray.empty l (k : Int) = l[k] := by simp [rdOf, List.getD_eq_getElem?_getD, hlt]
        have hat : ∀ wx, Kp w.heap.size w wx → wx.cell? (ad.add k) = some (.string l[k]) := by
          intro wx hwx
          obtain ⟨ad', h1, h2⟩ := Kd.at_string (Kd.C_below HL.out hwx.below) (k : Int) k0 k1
          injection h1 with h1
          subst h1
          rw [hr0, Int.toNat_natCast] at h2
          exact h2
        have hat := Lib.hid hat
        rw [hr0, Int.toNat_natCast] at e0
        have hsz : (st.getD []).length + l[k].size < 60000 ∧ l[k].size < 60000 := by
          have h1 := tot_take l k hlt
          have h2 := tot_take_le l (k + 1)
          have h3 := HT.out
          omega
        have hnn : ((nextF st l[k].data.toList).getD []).length ≤ tot (l.take (k + 1)) := by
          have h1 := next_len st l[k].data.toList
          have h2 := tot_take l k hlt
          have h3 : l[k].data.toList.length = l[k].size := by simp
          omega
        generalize hd : l[k] = d at *
        clear hd hr0 hx0 hn
        go_wp2_with fail
        refine (feed_st w.heap.size p st d wr Bp hs (by omega)).mono ?_
        rintro e w4 ⟨v, rfl, hv, hs4, hf⟩
        obtain ⟨_, _, _, hblk⟩ := hs.sv
        have hx4 : X w4 g st := Blk.fr hx hf (Base.blk_ne hx hblk (by decide)) (by decide)
        have HK4 := HK.fr hf Bp
        have HK0 := HK.size
        have e4 := hat.out w4 HK4
        clear hs hx hf hblk e0 HK
        go_wp2_with fail
        refine (ref_feed g st d w w4 hx4 (by omega) HK4.below (by omega)).mono ?_
        rintro e w5 ⟨v2, rfl, hR, hx5, hb, hkb⟩
        have HK5 := KP HK4 hb hkb
        have hs5 := St.keep hs4 hkb hx4 (by decide)
        have hv5 : w5.ownsRow w.heap.size 9 1 v (outF st d.data.toList).length ((outF st d.data.toList).map strV) := by
          refine own_low (own_move hv (fun j hj => hkb.2 j ?_ ?_ (by simp))) HK0
          · obtain ⟨cells, hc⟩ := own_typed hv j hj
            exact Blk.lt hc
          · exact fun e => own_ne9 hx4 hv (by decide) (by rw [hj, e])
        obtain ⟨A2, c2, rfl, m2, q2⟩ := Kd.R_reads hR
        obtain ⟨A1, c1, rfl, m1, q1⟩ := own_reads hv5
        clear hR hv hs4 hx4 HK4 hkb hb e4
        have ol : (outF st d.data.toList).length < 9223372036854775807 := by
          have h1 := out_len st d.data.toList
          have h2 : d.data.toList.length = d.size := by simp
          omega
        generalize nextF st d.data.toList = nst at *
        generalize errF st d.data.toList = er at *
        generalize outF st d.data.toList = os at *
        have hsv := hs5.sv
        have y0 : w5.cell? ⟨g, 0, none⟩ = some (.string (stS nst)) := hx5.cell 0
        have y1 : w5.cell? ⟨g, 1, none⟩ = some (.bool nst.isNone) := hx5.cell 1
        have QH : Two w5 os A1 c1 A2 c2 := ⟨q1, m1, q2, by rw [← txt_len]; exact m2, ol⟩
        clear q1 m1 q2 m2
        rw [txt_len]
        go_wp2_with fail
        go_quiet ((first
          | (go_at_call 16; exact Calls.quiet_of (same_two os A1 c1 A2 c2 w5 QH _))
          | (go_at_call 17; exact quiet_left (waits_s p nst _ (hsv.go (pw_below_drewN (Below.refl _ _) _))))
          | (go_at_call 18; exact quiet_left (closed_st p nst _ (hsv.go (pw_below_drewN (Below.refl _ _) _))))))
        replace hs5 := hs5.drewN nq
        replace hx5 := Blk.drewN hx5 nq
        replace hv5 := own_drewN hv5 nq
        replace HK5 := HK5.drewN nq
        clear hsv y0 y1 QH
        generalize w5.drewN nq = w6 at *
        go_wp2_with fail
        have hO : Ov w.heap.size p g os.length nst (.slice A1 os.length c1) w (.int .i64 0) w6 := ⟨0, _, rfl, by omega, hv5, hs5, hx5, HK5⟩
        have HN := Lib.hid hnn
        clear hs5 hx5 hv5 HK5 hnn
        obtain ⟨wo, rfl⟩ : ∃ wo : World, wo = wr := ⟨_, rfl⟩
        go_loopw [10] (fun t wq => Ov w.heap.size p g os.length nst (.slice A1 os.length c1) w t wq) (fun t _ => os.length - (intOf t).toNat)
        case atStart => exact hO
        case round =>
          clear hO
          obtain ⟨j, xs, rfl, hj, ho, hs, hx, HK⟩ := hrel
          by_cases hjt : j < os.length
          · obtain ⟨gb, cap, e1, hg1, hg2⟩ := ho.form (by omega)
            injection e1 with e1 e2 e3
            subst e1
            subst e3
            have hl1 : xs.length = os.length := by have := ho.1; omega
            have c0 : wr.cell? ⟨gb, j, none⟩ = some (xs[j]'(by omega)) := by rw [ho.cellAt j (by omega)]; exact List.getElem?_eq_getElem _
            have c1 := ho.frozenAt j
            obtain ⟨s1, s2⟩ := ho.stored j (.string ⟨#[63]⟩)
            have hjj : (j : Int) < (os.length : Int) := by omega
            have hj0 : (0 : Int) ≤ (j : Int) := by omega
            obtain ⟨cells, hcell⟩ := own_typed ho gb rfl
            have hs2 := hs.grown s2 hcell (by decide)
            have hx2 : X (wr.setCell ⟨gb, j, none⟩ (.string ⟨#[63]⟩)) g nst := Blk.far hx (p := ⟨gb, j, none⟩) (Base.blk_ne hx hcell (by decide)) _
            have HK2 := HK.setCell (a := ⟨gb, j, none⟩) hg1 (.string ⟨#[63]⟩)
            clear ho hs hx HK s2 hcell
            go_wp2_with fail
            go_roundw
            case rel => exact ⟨j + 1, _, by go_num, by omega, s1, hs2, hx2, HK2⟩
            case measure => simp [intOf]; omega
          · have hjj : ¬ (j : Int) < (os.length : Int) := by omega
            go_wp2_with fail
            go_roundw
            case rel => exact ⟨k + 1, nst, by go_num, by omega, hs, hx, HN.out, HK⟩
            case measure => simp [intOf]; omega
      · have hkk : ¬ (k : Int) < (l.length : Int) := by omega
        go_wp2_with fail
        refine (awake_any _).mono ?_
        rintro e w3 ⟨rfl, hb⟩
        replace HK := HK.go hb
        go_wp2_with fail
        go_ret
        exact ⟨rfl, HK.below⟩
end Go.Proofs.Ytedkfhgpahjleaa.Feeds
