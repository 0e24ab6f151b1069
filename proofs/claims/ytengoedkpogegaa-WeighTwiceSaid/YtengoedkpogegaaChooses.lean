/- The law of what is chosen. Conditions: none. -/
import Derived.Test.YtengoedkpogegaaRefChoose
import Derived.Test.YtengoedkpogegaaOpen
set_option linter.unusedVariables false
set_option linter.unusedSimpArgs false
namespace Go.Proofs.Ytengoedkpogegaa.Base
open Go Go.RowKit Go.Proofs.Ytengoedkpogegaa.Mem Go.Proofs.YtengoedkpogegaaW.PrintWords Go.Proofs.Ytengoedkpogegaa.Fl
theorem info22 : (Try.prog.info? 22).map (fun i => (i.zero, i.size, i.bytes)) = some (some (.int .u64 0), 1, 8) := by kernel_rfl
theorem R_empty (w : World) (B : Nat) (hB : B ≤ w.heap.size) : Kd.R (Kd.int .u64) 22 (w.alloc (.cells #[] 22)) B (fun _ => True) (.slice (some ⟨w.heap.size, 0, none⟩) 0 0) [] :=
  ⟨fun _ _ => trivial, [], ⟨rfl, .inr ⟨w.heap.size, 0, #[], rfl, hB, heap_alloc_new w _, Nat.le_refl _, by decide, rfl, rfl⟩⟩, Reps.none _ _⟩
theorem u64_at {w : World} {A : Option Addr} {l : List Int} (h : Kd.C (Kd.int .u64) w A l.length l) (i : Nat) (hi : i < l.length) : ∃ ad, A = some ad ∧ w.cell? (ad.add i) = some (.int .u64 l[i]) := by
  obtain ⟨ad, hA, hcell⟩ := h.2.2 (by omega)
  obtain ⟨c, _, hK, hcc⟩ := hcell i _ (List.getElem?_eq_getElem hi)
  have := hcc 0 (.int .u64 l[i]) (by rw [show c = [.int .u64 l[i]] from hK]; rfl)
  rw [show i * (Kd.int .u64).sz + 0 = i from by show i * 1 + 0 = i; omega] at this
  exact ⟨ad, hA, this⟩
def LR (l : List Int) (w : World) (t : Value) (wr : World) : Prop := ∃ i : Nat, t = .int .i64 (i : Int) ∧ i ≤ l.length ∧ ∃ k, wr = w.drewN k
set_option maxHeartbeats 1600000 in
theorem chooses_any (A0 : Option Addr) (c0 : Nat) (l : List Int) (h : Nat) (w : World) (h0 : Kd.C (Kd.int .u64) w A0 l.length l) (hc0 : l.length ≤ c0) (hb : inU l) (hl : l.length < 1000000000000000) (hh : h < 4294967296) :
    Calls Try.prog 4 #[.slice A0 l.length c0, .int .u32 (h : Int)] w fun e w' => e = .returned (.bool true) ∧ Below w.heap.size w w' := by
  by_cases hlen : 2000 < l.length
  · have q1 : decide ((2000 : Int) < (l.length : Int)) = true := decide_eq_true (by omega)
    clear h0
    go_enter Try.func4, Try.ntmps4
    go_wp2_with fail
    refine (awake_any _).mono ?_
    rintro e w1 ⟨rfl, hb1⟩
    go_wp2_with fail
    go_ret
    exact ⟨rfl, hb1⟩
  · have q1 : decide ((2000 : Int) < (l.length : Int)) = false := decide_eq_false (by omega)
    have H0 := Lib.hid h0
    have hE := R_empty w w.heap.size (Nat.le_refl _)
    have hC : Kd.C (Kd.int .u64) (w.alloc (.cells #[] 22)) A0 l.length l := Kd.C_below h0 (below_alloc (Below.refl _ _) _)
    have hbb : Below w.heap.size w (w.alloc (.cells #[] 22)) := below_alloc (Below.refl _ _) _
    have hbs : w.heap.size ≤ (w.alloc (.cells #[] 22)).heap.size := hbb.size
    clear h0
    go_enter Try.func4, Try.ntmps4
    go_wp2_with (at_builtin; go_must (refine Kd.R_append_rows (Kd.int .u64) (w0 := w) w.heap.size rfl _ _ 26 22 (.int .u64 0) 8 rfl Try.underlying26 info22 rfl (by decide) (by decide) (.slice (some ⟨w.heap.size, 0, none⟩) 0 0) [] l A0 l.length c0 (fun _ => True) (fun _ => False) (by rfl) (by rfl) hE hC (fun _ _ h => h) (fun _ hk => hk.elim) (fun _ _ => trivial) hbb hbs (by simp only [List.length_nil]; omega) ?_; intro v5 w5 ho5 hb5 hg5 hat5))
    rw [List.nil_append] at ho5
    obtain ⟨A4, c4, rfl, m4, hC4⟩ := Kd.R_reads ho5
    have HK5 : Kp w.heap.size w w5 := (Kp.refl w).go hb5
    have HIN := Lib.hid hC4
    clear ho5 hb5 hg5 hat5 hC4 hE hC hbb hbs
    go_wp2_with fail
    refine (Total_any A4 c4 l w5 HIN.out m4 hb hl).mono ?_
    rintro e _ ⟨rfl, rfl⟩
    go_wp2_with fail
    refine (refTotal_any A0 c0 l w5 (Kd.C_below H0.out HK5.below) hc0 hb (by omega)).mono ?_
    rintro e w6 ⟨rfl, hb6⟩
    have HK6 := HK5.go hb6
    have HIN6 := Lib.hid (Kd.C_below HIN.out hb6)
    clear hb6 HK5 HIN
    generalize (tot 0 l).getD 0 = t1 at *
    generalize (tot 0 l).isSome = t2 at *
    go_wp2_with fail
    refine (choose_any A4 c4 l h w6 HIN6.out m4 hb hl hh).mono ?_
    rintro e _ ⟨rfl, rfl⟩
    go_wp2_with fail
    refine (refChoose_any A0 c0 l h w6 (Kd.C_below H0.out HK6.below) hc0 hb (by omega) hh).mono ?_
    rintro e w7 ⟨rfl, hb7⟩
    have HK7 := HK6.go hb7
    have HIN7 := Lib.hid (Kd.C_below HIN6.out hb7)
    have H07 := Lib.hid (Kd.C_below H0.out HK7.below)
    clear hb7 HK6 HIN6
    generalize (choose l h).1 = t3 at *
    generalize (choose l h).2 = t4 at *
    go_wp2_with fail
    have hR : LR l w7 (.int .i64 0) w7 := ⟨0, rfl, Nat.zero_le _, 0, rfl⟩
    go_loopw [14] (fun t wr => LR l w7 t wr) (fun t _ => l.length - (intOf t).toNat)
    case atStart => exact hR
    case round =>
      clear hR
      obtain ⟨i, rfl, hi, k, rfl⟩ := hrel
      by_cases hgo : i < l.length
      · have k0 : (0 : Int) ≤ (i : Int) := by omega
        have k1 : (i : Int) < (l.length : Int) := by omega
        obtain ⟨ad, rfl, e0⟩ := u64_at HIN7.out i hgo
        obtain ⟨bd, rfl, e1⟩ := u64_at H07.out i hgo
        generalize l[i] = y at *
        go_wp2_with fail
        go_quiet (fail)
        go_wp2_with fail
        go_roundw
        case rel => exact ⟨i + 1, by go_num, hgo, _, rfl⟩
        case measure => simp [intOf]; omega
      · have k1 : ¬ (i : Int) < (l.length : Int) := by omega
        go_wp2_with fail
        refine (awake_any _).mono ?_
        rintro e w8 ⟨rfl, hb8⟩
        have HK8 := (HK7.drewN k).go hb8
        go_wp2_with fail
        go_ret
        exact ⟨rfl, HK8.below⟩
end Go.Proofs.Ytengoedkpogegaa.Base
namespace Go.Proofs.Ytengoedkpogegaa.Chooses
open Go Go.RowKit Go.Proofs.YtengoedkpogegaaW.PrintWords
theorem core (A : Option Addr) (c : Nat) (l : List Int) (h : Int) (w : World) (hc : l.length ≤ c) (hm : l.length * 8 ≤ 140737488351232) (hz : ∀ x ∈ l, 0 ≤ x ∧ x < 18446744073709551616) (hl : Kd.C (Kd.int .u64) w A l.length l)
    (hh : (Lit.int .u32 h).wf = true) : Calls Try.prog 4 #[.slice A l.length c, .int .u32 h] w fun e w' => e = .returned (.bool true) ∧ Below w.heap.size w w' := by
  obtain ⟨h2, h3⟩ := Base.wf_u32 hh
  obtain ⟨j, rfl⟩ : ∃ k : Nat, h = (k : Int) := ⟨h.toNat, by omega⟩
  exact Base.chooses_any A c l j w hl hc hz (by omega) (by omega)
end Go.Proofs.Ytengoedkpogegaa.Chooses
