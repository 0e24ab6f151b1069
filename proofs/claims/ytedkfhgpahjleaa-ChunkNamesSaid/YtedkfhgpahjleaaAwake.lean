/- The chunk's examples are as they are told. Conditions: none. -/
import Derived.Test.YtedkfhgpahjleaaCallee
set_option linter.unusedVariables false
set_option linter.unusedSimpArgs false
namespace Go.Proofs.Ytedkfhgpahjleaa.Base
open Go Go.RowKit Go.Proofs.Ytedkfhgpahjleaa.Mem Go.Proofs.YtedkfhgpahjleaaW.PrintWords
theorem blk_reads {w : World} {g : Nat} {l : List ByteArray} (h : Blk w g 9 (l.map Value.string).toArray) (hl : l.length ≤ 9223372036854775807) : Kd.string.C w (some ⟨g, 0, none⟩) l.length l := by
  refine ⟨rfl, hl, fun _ => ⟨_, rfl, fun j p hj => ⟨[.string p], rfl, rfl, fun i u hu => ?_⟩⟩⟩
  have hi : i = 0 := by
    have := (List.getElem?_eq_some_iff.1 hu).1
    simp at this
    omega
  subst hi
  simp at hu
  subst hu
  show w.cell? (Addr.add ⟨g, 0, none⟩ (j * 1 + 0)) = _
  rw [Mem.add_at, Nat.zero_add, h.cell (j * 1 + 0)]
  simp [hj]
theorem strs_fr {w w1 : World} {B p n : Nat} {A : Option Addr} {l : List ByteArray} {cs : Array Value} {v : Value} {N : Nat} (h : w.ownsRow N 9 1 v n (l.map Value.string)) (hb : Blk w p 39 cs) (hf : Fr B p w w1) : w1.ownsRow N 9 1 v n (l.map Value.string) := own_fr h (by decide) (by decide) hb hf

theorem _root_.Go.Proofs.Ytedkfhgpahjleaa.Mem.Kp.fr {B p : Nat} {w0 w w1 : World} (h : Kp B w0 w) (hf : Fr B p w w1) (hB : B ≤ p) : Kp B w0 w1 :=
  ⟨⟨hf.os.trans h.below.os, hf.tape.trans h.below.tape, hf.output.trans h.below.output, Nat.le_trans h.below.size hf.size, fun k hk => (hf.block k (Nat.lt_of_lt_of_le hk h.size) (.inl hk)).trans (h.below.block k hk)⟩, Nat.le_trans h.size hf.size⟩
set_option maxHeartbeats 3200000 in
set_option maxRecDepth 100000 in
theorem awake_any (w : World) : Calls Try.prog 10 #[] w fun e w' => e = .returned (.bool true) ∧ Below w.heap.size w w' := by
  go_enter Try.func10, Try.ntmps10
  go_wp2_with fail
  refine (new_st w.heap.size _).mono ?_
  rintro e w1 ⟨a, rfl, ba, sa, hb⟩
  have HK := (Kp.refl w).go hb
  have Ba := ba
  clear hb ba
  have HK0 := HK.size
  go_wp2_with fail
  refine (feed_st w.heap.size a (some []) ⟨#[0, 0, 0, 5, 104, 101, 108, 108, 111]⟩ _ Ba sa (by decide)).mono ?_
  rintro e w2 ⟨v2, rfl, r2, na, hf⟩
  rw [show errF (some []) (⟨#[0, 0, 0, 5, 104, 101, 108, 108, 111]⟩ : ByteArray).data.toList = 0 from by simp [errF, ev1]]
  rw [show outF (some []) (⟨#[0, 0, 0, 5, 104, 101, 108, 108, 111]⟩ : ByteArray).data.toList = [[104, 101, 108, 108, 111]] from by simp [outF, ev1]] at r2
  rw [show nextF (some []) (⟨#[0, 0, 0, 5, 104, 101, 108, 108, 111]⟩ : ByteArray).data.toList = (some []) from by simp [nextF, ev1]] at na
  obtain ⟨_, _, _, hblk⟩ := sa.sv
  replace HK := HK.fr hf Ba
  clear sa hblk hf HK0
  have sa := na
  clear na
  have HK0 := HK.size
  have L := r2
  clear r2
  go_wp2_with fail
  refine (new_st w.heap.size _).mono ?_
  rintro e w3 ⟨b, rfl, bb, sb, hb⟩
  replace L := ownsRow_go L hb
  replace HK := HK.go hb
  have Bb := Nat.le_trans HK0 bb
  clear hb bb
  have HK0 := HK.size
  go_wp2_with fail
  refine (feed_st w.heap.size b (some []) ⟨#[0, 0]⟩ _ Bb sb (by decide)).mono ?_
  rintro e w4 ⟨v4, rfl, r4, nb, hf⟩
  rw [show errF (some []) (⟨#[0, 0]⟩ : ByteArray).data.toList = 0 from by simp [errF, ev2]]
  rw [show outF (some []) (⟨#[0, 0]⟩ : ByteArray).data.toList = [] from by simp [outF, ev2]] at r4
  rw [show nextF (some []) (⟨#[0, 0]⟩ : ByteArray).data.toList = (some [0, 0]) from by simp [nextF, ev2]] at nb
  obtain ⟨_, _, _, hblk⟩ := sb.sv
  replace L := own_fr L (by decide) (by decide) hblk hf
  replace HK := HK.fr hf Bb
  clear sb hblk hf HK0
  have sb := nb
  clear nb
  have HK0 := HK.size
  obtain ⟨a4, c4, rfl, m4, q4⟩ := own_reads r4
  clear r4 q4 m4
  go_wp2_with fail
  refine (waits_st b _ _ sb.sv).mono ?_
  rintro e _ ⟨rfl, rfl⟩
  simp only [Option.getD_some, List.length_cons, List.length_nil, Nat.zero_add, Nat.reduceAdd]
  go_wp2_with fail
  refine (feed_st w.heap.size b (some [0, 0]) ⟨#[0, 5, 104, 101, 108, 108, 111]⟩ _ Bb sb (by decide)).mono ?_
  rintro e w5 ⟨v5, rfl, r5, nb, hf⟩
  rw [show errF (some [0, 0]) (⟨#[0, 5, 104, 101, 108, 108, 111]⟩ : ByteArray).data.toList = 0 from by simp [errF, ev1]]
  rw [show outF (some [0, 0]) (⟨#[0, 5, 104, 101, 108, 108, 111]⟩ : ByteArray).data.toList = [[104, 101, 108, 108, 111]] from by simp [outF, ev1]] at r5
  rw [show nextF (some [0, 0]) (⟨#[0, 5, 104, 101, 108, 108, 111]⟩ : ByteArray).data.toList = (some []) from by simp [nextF, ev1]] at nb
  obtain ⟨_, _, _, hblk⟩ := sb.sv
  replace L := own_fr L (by decide) (by decide) hblk hf
  replace HK := HK.fr hf Bb
  clear sb hblk hf HK0
  have sb := nb
  clear nb
  have HK0 := HK.size
  have M := r5
  clear r5
  go_wp2_with fail
  refine (feed_st w.heap.size b (some []) ⟨#[0, 0, 0, 4]⟩ _ Bb sb (by decide)).mono ?_
  rintro e w6 ⟨v6, rfl, r6, nb, hf⟩
  rw [show errF (some []) (⟨#[0, 0, 0, 4]⟩ : ByteArray).data.toList = 5 from by simp [errF, ev3]]
  rw [show outF (some []) (⟨#[0, 0, 0, 4]⟩ : ByteArray).data.toList = [] from by simp [outF, ev3]] at r6
  rw [show nextF (some []) (⟨#[0, 0, 0, 4]⟩ : ByteArray).data.toList = none from by simp [nextF, ev3]] at nb
  obtain ⟨_, _, _, hblk⟩ := sb.sv
  replace L := own_fr L (by decide) (by decide) hblk hf
  replace M := own_fr M (by decide) (by decide) hblk hf
  replace HK := HK.fr hf Bb
  clear sb hblk hf HK0
  have sb := nb
  clear nb
  have HK0 := HK.size
  obtain ⟨a6, c6, rfl, m6, q6⟩ := own_reads r6
  clear r6 q6 m6
  go_wp2_with fail
  refine (feed_st w.heap.size b none ⟨#[120]⟩ _ Bb sb (by decide)).mono ?_
  rintro e w7 ⟨v7, rfl, r7, nb, hf⟩
  rw [show errF none (⟨#[120]⟩ : ByteArray).data.toList = 14 from by simp [errF, ev3]]
  rw [show outF none (⟨#[120]⟩ : ByteArray).data.toList = [] from by simp [outF, ev3]] at r7
  rw [show nextF none (⟨#[120]⟩ : ByteArray).data.toList = none from by simp [nextF, ev3]] at nb
  obtain ⟨_, _, _, hblk⟩ := sb.sv
  replace L := own_fr L (by decide) (by decide) hblk hf
  replace M := own_fr M (by decide) (by decide) hblk hf
  replace HK := HK.fr hf Bb
  clear sb hblk hf HK0
  have sb := nb
  clear nb
  have HK0 := HK.size
  obtain ⟨a7, c7, rfl, m7, q7⟩ := own_reads r7
  clear r7 q7 m7
  go_wp2_with fail
  refine (new_st w.heap.size _).mono ?_
  rintro e w8 ⟨c, rfl, bc, sc, hb⟩
  replace L := ownsRow_go L hb
  replace M := ownsRow_go M hb
  replace HK := HK.go hb
  have Bc := Nat.le_trans HK0 bc
  clear hb bc
  have HK0 := HK.size
  go_wp2_with fail
  refine (feed_st w.heap.size c (some []) ⟨#[0, 0, 64]⟩ _ Bc sc (by decide)).mono ?_
  rintro e w9 ⟨v9, rfl, r9, nc, hf⟩
  rw [show errF (some []) (⟨#[0, 0, 64]⟩ : ByteArray).data.toList = 0 from by simp [errF, ev4]]
  rw [show outF (some []) (⟨#[0, 0, 64]⟩ : ByteArray).data.toList = [] from by simp [outF, ev4]] at r9
  rw [show nextF (some []) (⟨#[0, 0, 64]⟩ : ByteArray).data.toList = (some [0, 0, 64]) from by simp [nextF, ev4]] at nc
  obtain ⟨_, _, _, hblk⟩ := sc.sv
  replace L := own_fr L (by decide) (by decide) hblk hf
  replace M := own_fr M (by decide) (by decide) hblk hf
  replace HK := HK.fr hf Bc
  clear sc hblk hf HK0
  have sc := nc
  clear nc
  have HK0 := HK.size
  obtain ⟨a9, c9, rfl, m9, q9⟩ := own_reads r9
  clear r9 q9 m9
  go_wp2_with fail
  refine (waits_st c _ _ sc.sv).mono ?_
  rintro e _ ⟨rfl, rfl⟩
  simp only [Option.getD_some, List.length_cons, List.length_nil, Nat.zero_add, Nat.reduceAdd]
  go_wp2_with fail
  refine (feed_st w.heap.size c (some [0, 0, 64]) ⟨#[1]⟩ _ Bc sc (by decide)).mono ?_
  rintro e w10 ⟨v10, rfl, r10, nc, hf⟩
  rw [show errF (some [0, 0, 64]) (⟨#[1]⟩ : ByteArray).data.toList = 5 from by simp [errF, ev5]]
  rw [show outF (some [0, 0, 64]) (⟨#[1]⟩ : ByteArray).data.toList = [] from by simp [outF, ev5]] at r10
  rw [show nextF (some [0, 0, 64]) (⟨#[1]⟩ : ByteArray).data.toList = none from by simp [nextF, ev5]] at nc
  obtain ⟨_, _, _, hblk⟩ := sc.sv
  replace L := own_fr L (by decide) (by decide) hblk hf
  replace M := own_fr M (by decide) (by decide) hblk hf
  replace HK := HK.fr hf Bc
  clear sc hblk hf HK0
  have sc := nc
  clear nc
  have HK0 := HK.size
  obtain ⟨a10, c10, rfl, m10, q10⟩ := own_reads r10
  clear r10 q10 m10
  go_wp2_with fail
  refine (frame_any ⟨#[104, 105]⟩ _).mono ?_
  rintro e w20 ⟨rfl, hb⟩
  rw [show frE ⟨#[104, 105]⟩ = 4 from by decide]
  replace L := ownsRow_go L hb
  replace M := ownsRow_go M hb
  replace HK := HK.go hb
  clear hb
  obtain ⟨A0, c0, rfl, m0, q0⟩ := own_reads L
  obtain ⟨A1, c1, rfl, m1, q1⟩ := own_reads M
  replace q0 := Kd.C_alloc q0 (.cells #[.string ⟨#[104, 101, 108, 108, 111]⟩] 9)
  replace q1 := Kd.C_alloc q1 (.cells #[.string ⟨#[104, 101, 108, 108, 111]⟩] 9)
  replace HK := HK.alloc (.cells #[.string ⟨#[104, 101, 108, 108, 111]⟩] 9)
  have q2 := blk_reads (l := [⟨#[104, 101, 108, 108, 111]⟩]) (Blk.new w20 9 #[.string ⟨#[104, 101, 108, 108, 111]⟩]) (by decide)
  go_wp2_with fail
  refine (same_b A0 c0 (txt [[104, 101, 108, 108, 111]]) _ 1 [⟨#[104, 101, 108, 108, 111]⟩] _ q0 m0 q2 (by decide) (by decide)).mono ?_
  rintro e w21 ⟨rfl, hb⟩
  rw [show decide (txt [[104, 101, 108, 108, 111]] = [⟨#[104, 101, 108, 108, 111]⟩]) = true from rfl]
  replace q0 := Kd.C_below q0 hb
  replace q1 := Kd.C_below q1 hb
  replace HK := HK.go hb
  clear hb q2
  go_wp2_with fail
  refine (same_b A1 c1 (txt [[104, 101, 108, 108, 111]]) A0 c0 (txt [[104, 101, 108, 108, 111]]) _ q1 m1 q0 m0 (by decide)).mono ?_
  rintro e w22 ⟨rfl, hb⟩
  rw [decide_eq_true rfl]
  replace HK := HK.go hb
  go_wp2_with fail
  go_ret
  exact ⟨rfl, HK.below⟩
end Go.Proofs.Ytedkfhgpahjleaa.Base
