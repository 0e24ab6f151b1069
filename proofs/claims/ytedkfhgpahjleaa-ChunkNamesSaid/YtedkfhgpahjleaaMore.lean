/- Words for laws of several streams. Conditions: as each lemma says. -/
import Derived.Test.YtedkfhgpahjleaaFed
set_option linter.unusedVariables false
set_option linter.unusedSimpArgs false
namespace Go.Proofs.Ytedkfhgpahjleaa.Base
open Go Go.RowKit Go.Proofs.Ytedkfhgpahjleaa.Mem Go.Proofs.YtedkfhgpahjleaaW.PrintWords
/-- A stream to which nothing came. -/
def Fresh (w : World) (p : Nat) : Prop := Blk w p 39 #[.nilFunc, .slice none 0 0, .bool false]
theorem Fresh.st {w : World} {p : Nat} (h : Fresh w p) (B : Nat) : St w B p (some []) := ⟨.inl (by simp), _, _, h, World.ownsRow_nil _ _ _ _, .inr ⟨rfl, rfl⟩⟩
theorem Fresh.fr {w w1 : World} {B p q : Nat} (h : Fresh w p) (hf : Fr B q w w1) (hn : p ≠ q) : Fresh w1 p := Blk.fr h hf hn (by decide)
theorem Fresh.go {w w1 : World} {p : Nat} (h : Fresh w p) (hb : Below w.heap.size w w1) : Fresh w1 p := Blk.go h hb
theorem Fresh.lt {w : World} {p : Nat} (h : Fresh w p) : p < w.heap.size := Blk.lt h
theorem new_fresh (w : World) : Calls Try.prog 14 #[] w fun e w' => ∃ p, e = .returned (ptr p) ∧ w.heap.size ≤ p ∧ Fresh w' p ∧ Below w.heap.size w w' := new_any w
theorem C_lt {w : World} {A : Option Addr} {l : List ByteArray} (h : Kd.string.C w A l.length l) : ∀ ad, A = some ad → 0 < l.length → ad.block < w.heap.size := by
  intro ad e h0
  obtain ⟨ad', e', hc⟩ := h.2.2 h0
  rw [e'] at e
  injection e with e
  subst e
  obtain ⟨c, h1, h2, h3⟩ := hc 0 l[0] (List.getElem?_eq_getElem h0)
  subst h2
  have h4 := h3 0 (.string l[0]) rfl
  have hb : (ad'.add (0 * Kd.string.sz + 0)).block = ad'.block := by unfold Addr.add; split <;> rfl
  unfold World.cell? at h4
  rw [hb] at h4
  rcases Nat.lt_or_ge ad'.block w.heap.size with hlt | hge
  · exact hlt
  · rw [Array.getElem?_eq_none hge] at h4; cases h4
theorem errP_some {s : List UInt8} {o r} (h : parse s = (o, some r)) : errP s = 0 := by simp [errP, h]
theorem errP_none {s : List UInt8} {o} (h : parse s = (o, none)) : errP s = 5 := by simp [errP, h]
theorem same_os (o : List (List UInt8)) (A0 : Option Addr) (c0 : Nat) (A1 : Option Addr) (c1 : Nat) (w : World) (h0 : Kd.string.C w A0 (txt o).length (txt o)) (m0 : o.length ≤ c0) (h1 : Kd.string.C w A1 (txt o).length (txt o)) (m1 : o.length ≤ c1) (hl : o.length < 9223372036854775807) :
    Calls Try.prog 16 #[.slice A0 o.length c0, .slice A1 o.length c1] w fun e w' => e = .returned (.bool true) ∧ Below w.heap.size w w' := by
  have := same_b A0 c0 (txt o) A1 c1 (txt o) w h0 (by rw [txt_len]; exact m0) h1 (by rw [txt_len]; exact m1) (by rw [txt_len]; exact hl)
  rw [txt_len, decide_eq_true rfl] at this
  exact this
/-- The bytes of texts, each a text. -/
def ones (d : List UInt8) : List (List UInt8) := d.map fun b => [b]
theorem flat_txt (l : List (List UInt8)) : flat (txt l) = l.flatten := by
  unfold flat txt
  rw [List.map_map]
  congr 1
  exact (List.map_congr_left (fun x _ => rfl)).trans (List.map_id _)
theorem flat_ones (d : List UInt8) : flat (txt (ones d)) = d := by
  rw [flat_txt]
  unfold ones
  induction d with
  | nil => rfl
  | cons x r ih => simp [ih]
theorem str_one (s : ByteArray) (k : Nat) (h : k < s.size) : s.extract k (k + 1) = ⟨#[s.data.toList[k]'(by simpa using h)]⟩ := by
  refine str_ext ?_
  have e : (s.extract k (k + 1)).data.toList = (s.data.toList.drop k).take 1 := by
    simp [List.take_drop]
  rw [e, List.drop_eq_getElem_cons (by simpa using h)]
  rfl
theorem ones_snoc (d : List UInt8) (k : Nat) (h : k < d.length) : ones (d.take (k + 1)) = ones (d.take k) ++ [[d[k]]] := by
  unfold ones
  rw [List.take_succ_eq_append_getElem h, List.map_append]
  rfl
theorem own_C {w : World} {N n n' c : Nat} {A : Option Addr} {l : List (List UInt8)} (h : w.ownsRow N 9 1 (.slice A n c) n' (l.map strV)) : Kd.string.C w A (txt l).length (txt l) ∧ l.length ≤ c := by
  obtain ⟨A1, c1, e, m, q⟩ := own_reads h
  injection e with e1 e2 e3
  subst e1
  subst e3
  exact ⟨q, m⟩
theorem fed_os (B p : Nat) (v : Value) (os : List (List UInt8)) (N : Nat) (w : World) (hB : B ≤ p) (hs : St w B p (some [])) (hv : w.ownsRow N 9 1 v os.length (os.map strV)) (hn : os.flatten.length ≤ 100000) (hz : ∀ x ∈ os, x.length ≤ 1000000) (hm : os.length ≤ 1000000) :
    Calls Try.prog 21 #[ptr p, v] w fun e w' => ∃ u, e = .returned (.tuple #[u, .int .i64 (errP os.flatten)]) ∧
      w'.ownsRow w.heap.size 9 1 u (parse os.flatten).1.length ((parse os.flatten).1.map strV) ∧ St w' B p (parse os.flatten).2 ∧ Fr B p w w' := by
  obtain ⟨A, c, rfl, m, q⟩ := own_reads hv
  have := fed_any B p [] A c (txt os) w hB (.inl (by simp)) hs q (fun ad e h0 => .inr ?_) (by rw [txt_len]; exact m) (by rw [flat_txt]; simpa using hn) ?_ (by rw [txt_len]; exact hm)
  · rw [txt_len, List.nil_append, flat_txt] at this
    exact this
  · obtain ⟨cells, hc⟩ := own_typed hv ad.block (by rw [e]; rfl)
    exact ⟨cells, hc⟩
  · intro x hx
    obtain ⟨y, hy, rfl⟩ := List.mem_map.1 hx
    have := hz y hy
    show y.toArray.size ≤ _
    simpa using this
theorem ones_flat (d : List UInt8) : (ones d).flatten = d := by rw [← flat_txt, flat_ones]
def strF (l : List ByteArray) (k : Nat) : ByteArray := ⟨(flat (l.take k)).toArray⟩
theorem strF_succ (l : List ByteArray) (k : Nat) (h : k < l.length) : strF l k ++ l[k] = strF l (k + 1) := by
  refine str_ext ?_
  unfold strF
  rw [flat_take l k h]
  simp
theorem strF_size (l : List ByteArray) (k : Nat) : (strF l k).size = (flat (l.take k)).length := by
  show (flat (l.take k)).toArray.size = _
  simp
end Go.Proofs.Ytedkfhgpahjleaa.Base
