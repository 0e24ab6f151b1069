/- A stream, whatever its state: what Feed, Waits, Closed, New tell. Conditions: as each contract says. -/
import Derived.Test.YtedkfhgpahjleaaStream2
set_option linter.unusedVariables false
set_option linter.unusedSimpArgs false
namespace Go.Proofs.Ytedkfhgpahjleaa.Base
open Go Go.RowKit Go.Proofs.Ytedkfhgpahjleaa.Mem Go.Proofs.YtedkfhgpahjleaaW.PrintWords
/-- What Feed tells: the bodies, the error, what waits then. -/
def outF : Option (List UInt8) → List UInt8 → List (List UInt8)
  | some bs, d => (parse (bs ++ d)).1
  | none, _ => []
def errF : Option (List UInt8) → List UInt8 → Int
  | some bs, d => if (parse (bs ++ d)).2.isNone then 5 else 0
  | none, _ => 14
def nextF : Option (List UInt8) → List UInt8 → Option (List UInt8)
  | some bs, d => (parse (bs ++ d)).2
  | none, _ => none
theorem feed_st (B p : Nat) (st : Option (List UInt8)) (s : ByteArray) (w : World) (hB : B ≤ p) (h : St w B p st) (hs : s.size ≤ 1000000) :
    Calls Try.prog 15 #[ptr p, .string s] w fun e w' => ∃ ov, e = .returned (.tuple #[ov, .int .i64 (errF st s.data.toList)]) ∧
      w'.ownsRow w.heap.size 9 1 ov (outF st s.data.toList).length ((outF st s.data.toList).map strV) ∧ St w' B p (nextF st s.data.toList) ∧ Fr B p w w' := by
  cases st with
  | none =>
    obtain ⟨at_, hb⟩ := h
    refine (feed_closed p s at_ w hb).mono ?_
    rintro e w' ⟨rfl, rfl⟩
    exact ⟨_, rfl, World.ownsRow_nil _ _ _ _, ⟨at_, hb⟩, Fr.refl _ _ _⟩
  | some bs =>
    obtain ⟨hI, at_, v, hb, ho, hA | ⟨rfl, rfl⟩⟩ := h
    · exact feed_any B p bs s w hB hI at_ v hb ho hA hs
    · exact feed_new B p s v w hB hb ho hs
/-- How many bytes wait, and whether it is closed: what Waits and Closed look at. -/
def Sv (w : World) (p : Nat) (st : Option (List UInt8)) : Prop := ∃ at_ A c, Blk w p 39 #[at_, .slice A (st.getD []).length c, .bool st.isNone]
theorem St.sv {w : World} {B p : Nat} {st : Option (List UInt8)} (h : St w B p st) : Sv w p st := by
  cases st with
  | none => obtain ⟨at_, hb⟩ := h; exact ⟨_, _, _, hb⟩
  | some bs =>
    obtain ⟨hI, at_, v, hb, ho, _⟩ := h
    obtain ⟨a, c, rfl⟩ : ∃ a c, v = .slice a bs.length c := by
      rcases ho.2 with ⟨rfl, h⟩ | ⟨g, cap, cur, rfl, _⟩
      · rw [h]; exact ⟨_, _, rfl⟩
      · exact ⟨_, _, rfl⟩
    exact ⟨_, _, _, hb⟩
theorem Sv.blk {w w1 : World} {p : Nat} {st : Option (List UInt8)} (h : Sv w p st) (hk : ∀ cs, Blk w p 39 cs → Blk w1 p 39 cs) : Sv w1 p st := by
  obtain ⟨a, b, c, h⟩ := h
  exact ⟨a, b, c, hk _ h⟩
theorem Sv.lt {w : World} {p : Nat} {st : Option (List UInt8)} (h : Sv w p st) : p < w.heap.size := by
  obtain ⟨a, b, c, h⟩ := h
  exact h.lt
theorem Sv.fr {w w1 : World} {B p q : Nat} {st : Option (List UInt8)} (h : Sv w p st) (hf : Fr B q w w1) (hn : p ≠ q) : Sv w1 p st := h.blk fun _ hb => Blk.fr hb hf hn (by decide)
theorem Sv.go {w w1 : World} {p : Nat} {st : Option (List UInt8)} (h : Sv w p st) (hf : Below w.heap.size w w1) : Sv w1 p st := h.blk fun _ hb => hb.go hf
theorem waits_st (p : Nat) (st : Option (List UInt8)) (w : World) (h : Sv w p st) : Calls Try.prog 17 #[ptr p] w fun e w' => e = .returned (.int .i64 ((st.getD []).length : Int)) ∧ w = w' := by
  obtain ⟨at_, A, c, hb⟩ := h
  exact waits_any p _ c A at_ _ w hb
theorem closed_st (p : Nat) (st : Option (List UInt8)) (w : World) (h : Sv w p st) : Calls Try.prog 18 #[ptr p] w fun e w' => e = .returned (.bool st.isNone) ∧ w = w' := by
  obtain ⟨at_, A, c, hb⟩ := h
  exact closed_any p at_ _ _ w hb
theorem new_st (B : Nat) (w : World) : Calls Try.prog 14 #[] w fun e w' => ∃ p, e = .returned (ptr p) ∧ w.heap.size ≤ p ∧ St w' B p (some []) ∧ Below w.heap.size w w' := by
  refine (new_any w).mono ?_
  rintro e w' ⟨p, rfl, hp, hb, hk⟩
  exact ⟨p, rfl, hp, ⟨.inl (by simp), _, _, hb, World.ownsRow_nil _ _ _ _, .inr ⟨rfl, rfl⟩⟩, hk⟩
/-- What stands apart from a stream stands. -/
theorem ownsRow_go {w w1 : World} {N e s n : Nat} {v : Value} {xs : List Value} (h : w.ownsRow N e s v n xs) (hb : Below w.heap.size w w1) : w1.ownsRow N e s v n xs :=
  h.kept (row := none) (gb_below hb none) (by cases hv : v.ownBlock <;> simp)
theorem At.go {w w1 : World} {B p : Nat} {bs : List UInt8} {v : Value} (h : At w B p bs v) (hb : Below w.heap.size w w1) : At w1 B p bs v := by
  rcases h with h | ⟨hl, c, hc, e, h1, h2, h3⟩
  · exact .inl h
  · exact .inr ⟨hl, c, hc, e, h1.go hb, h2.go hb, h3.go hb⟩
theorem St.go {w w1 : World} {B p : Nat} {st : Option (List UInt8)} (h : St w B p st) (hb : Below w.heap.size w w1) : St w1 B p st := by
  cases st with
  | none => obtain ⟨at_, h⟩ := h; exact ⟨at_, h.go hb⟩
  | some bs =>
    obtain ⟨hI, at_, v, h, ho, hA | hA⟩ := h
    · exact ⟨hI, at_, v, h.go hb, ownsRow_go ho hb, .inl (hA.go hb)⟩
    · exact ⟨hI, at_, v, h.go hb, ownsRow_go ho hb, .inr hA⟩
theorem St.drewN {w : World} {B p : Nat} {st : Option (List UInt8)} (h : St w B p st) (n : Nat) : St (w.drewN n) B p st := h.go (pw_below_drewN (Below.refl _ _) n)
theorem St.drew {w : World} {B p : Nat} {st : Option (List UInt8)} (h : St w B p st) : St w.drew B p st := h.go (below_drew (Below.refl _ _))
/-- A block of another kind, written. -/
theorem St.grown {w w1 : World} {B p g : Nat} {t : TypeId} {cs : Array Value} {st : Option (List UInt8)} (h : St w B p st) (hg : w.grownBy w1 (some g)) (hb : Blk w g t cs) (ht : t ≠ 5 ∧ t ≠ 39 ∧ t ≠ 28 ∧ t ≠ 3 ∧ t ≠ 36) : St w1 B p st := by
  have hn : ∀ {g' : Nat} {u : TypeId} {ds : Array Value}, Blk w g' u ds → u ≠ t → Blk w1 g' u ds := fun k hu => k.grown hg (fun e => by injection e with e; exact blk_ne k hb hu e)
  cases st with
  | none => obtain ⟨at_, h⟩ := h; exact ⟨at_, hn h ht.2.1.symm⟩
  | some bs =>
    obtain ⟨hI, at_, v, h, ho, hA⟩ := h
    refine ⟨hI, at_, v, hn h ht.2.1.symm, ho.kept hg (.inr (fun e => own_ne hb ho ht.1 e.symm)), ?_⟩
    rcases hA with (hA | ⟨hl, c, hc, e, h1, h2, h3⟩) | hA
    · exact .inl (.inl hA)
    · exact .inl (.inr ⟨hl, c, hc, e, hn h1 ht.2.2.1.symm, hn h2 ht.2.2.2.1.symm, hn h3 ht.2.2.2.2.symm⟩)
    · exact .inr hA
/-- The texts that Feed tells, as they are read. -/
def txt (l : List (List UInt8)) : List ByteArray := l.map fun x => ⟨x.toArray⟩
theorem txt_len (l : List (List UInt8)) : (txt l).length = l.length := by simp [txt]
theorem own_reads {w : World} {N n : Nat} {v : Value} {l : List (List UInt8)} (h : w.ownsRow N 9 1 v n (l.map strV)) : ∃ A c, v = .slice A l.length c ∧ l.length ≤ c ∧ Kd.string.C w A (txt l).length (txt l) := by
  have hn : n = l.length := by have := h.1; simp at this; omega
  subst hn
  rcases h.2 with ⟨rfl, h0⟩ | ⟨g, cap, cur, rfl, hb, hh, hc, hm, _⟩
  · have : l = [] := List.length_eq_zero_iff.1 h0
    subst this
    exact ⟨_, _, rfl, Nat.le_refl _, Kd.C_nil _ _⟩
  · refine ⟨_, _, rfl, hc, ?_⟩
    unfold maxLen at hm
    refine ⟨rfl, by rw [txt_len]; omega, fun _ => ⟨_, rfl, fun j p hj => ⟨[.string p], rfl, rfl, fun i u hu => ?_⟩⟩⟩
    have hi : i = 0 := by
      have := (List.getElem?_eq_some_iff.1 hu).1
      simp at this
      omega
    subst hi
    simp at hu
    subst hu
    have hj' : j < l.length := by have := (List.getElem?_eq_some_iff.1 hj).1; simpa [txt] using this
    show w.cell? (Addr.add ⟨g, 0, none⟩ (j * 1 + 0)) = _
    rw [Mem.add_at, Nat.zero_add, h.cellAt (j * 1 + 0) (by omega)]
    simp only [txt, List.getElem?_map] at hj
    simp only [Nat.mul_one, Nat.add_zero, List.getElem?_map]
    rw [List.getElem?_eq_getElem hj'] at hj ⊢
    simp at hj ⊢
    subst hj
    rfl
end Go.Proofs.Ytedkfhgpahjleaa.Base
