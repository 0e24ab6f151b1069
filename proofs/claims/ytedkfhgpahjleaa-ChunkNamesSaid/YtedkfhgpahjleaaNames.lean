/- The examples; lengths at both ends; streams of nil, and such as nobody made. Conditions: none. -/
import Derived.Test.YtedkfhgpahjleaaBack
import Derived.Test.YtedkfhgpahjleaaPChunkNamesx1
import Derived.Deep.RegionWith
set_option linter.unusedVariables false
set_option linter.unusedSimpArgs false
namespace Go.Proofs.Ytedkfhgpahjleaa.Names
open Go Go.RowKit Go.Proofs.Ytedkfhgpahjleaa.Mem Go.Proofs.YtedkfhgpahjleaaW.PrintWords Go.Proofs.Ytedkfhgpahjleaa.Base Go.Proofs.Ytedkfhgpahjleaa.Back
theorem many_zs (zs : List UInt8) (m : Int) (h0 : 0 ≤ m) (h1 : m ≤ 100000) (h : zs = List.replicate m.toNat 0) (w : World) : Calls Try.prog 13 #[.int .i64 m] w fun e w' => e = .returned (.string ⟨zs.toArray⟩) ∧ Below w.heap.size w w' := by
  refine PChunkNames.turnoutlaw07_many.calls m _ w ?_
  unfold PChunkNames.turnoutlaw07_many.f
  rw [if_pos h0, if_pos (by omega)]
  congr 1
  refine str_ext ?_
  rw [strOfNums_data, h]
  simp
theorem frame_good (x : List UInt8) (h : Ok x) (w : World) : Calls Try.prog 11 #[.string ⟨x.toArray⟩] w fun e w' => e = .returned (.tuple #[.string ⟨(fr x).toArray⟩, .int .i64 0]) ∧ Below w.heap.size w w' := by
  refine (frame_any ⟨x.toArray⟩ w).mono ?_
  rintro e w' ⟨rfl, hb⟩
  have hs : (⟨x.toArray⟩ : ByteArray).size = x.length := by show x.toArray.size = _; simp
  obtain ⟨h1, h2⟩ := h
  refine ⟨?_, hb⟩
  unfold frS frE
  rw [hs, if_neg (by omega), if_neg (by omega), if_neg (by omega), if_neg (by omega)]
theorem frame_short (x : List UInt8) (h : x.length < 5) (w : World) : Calls Try.prog 11 #[.string ⟨x.toArray⟩] w fun e w' => e = .returned (.tuple #[.string ⟨#[]⟩, .int .i64 4]) ∧ Below w.heap.size w w' := by
  refine (frame_any ⟨x.toArray⟩ w).mono ?_
  rintro e w' ⟨rfl, hb⟩
  have hs : (⟨x.toArray⟩ : ByteArray).size = x.length := by show x.toArray.size = _; simp
  refine ⟨?_, hb⟩
  unfold frS frE
  rw [hs, if_pos (by omega), if_pos (by omega)]
theorem frame_long (x : List UInt8) (h : 16384 < x.length) (w : World) : Calls Try.prog 11 #[.string ⟨x.toArray⟩] w fun e w' => e = .returned (.tuple #[.string ⟨#[]⟩, .int .i64 5]) ∧ Below w.heap.size w w' := by
  refine (frame_any ⟨x.toArray⟩ w).mono ?_
  rintro e w' ⟨rfl, hb⟩
  have hs : (⟨x.toArray⟩ : ByteArray).size = x.length := by show x.toArray.size = _; simp
  refine ⟨?_, hb⟩
  unfold frS frE
  rw [hs, if_neg (by omega), if_pos (by omega), if_neg (by omega), if_pos (by omega)]
theorem ev6 : parse [0, 0, 0, 5, 0, 0, 0, 0, 0, 0, 0, 0, 5, 0, 0, 0, 0] = ([[0, 0, 0, 0, 0]], some [0, 0, 0, 5, 0, 0, 0, 0]) := (parse_N 30 _ (by decide)).trans (by decide +kernel)
theorem ev7 : parse [0, 0, 0, 5, 0, 0, 0, 0, 0, 0, 0, 0, 4, 0, 0, 0, 5, 0, 0, 0, 0, 0] = ([[0, 0, 0, 0, 0]], none) := (parse_N 30 _ (by decide)).trans (by decide +kernel)
theorem most_take (zs : List UInt8) (h : zs.length = 16384) : (fr zs).take 4 = [0, 0, 64, 0] := by
  unfold fr
  rw [h]
  rfl
theorem most_ln (zs : List UInt8) (h : zs.length = 16384) : ln ((fr zs).take 100) = 16384 := by
  have h1 := ln_fr zs [] (by omega)
  rw [List.append_nil] at h1
  have h2 : fr zs = (fr zs).take 100 ++ (fr zs).drop 100 := (List.take_append_drop 100 _).symm
  have hl := fr_len zs
  rw [h2, ln_app _ _ (by rw [List.length_take]; omega)] at h1
  rw [h1, h]
theorem most_wait (zs : List UInt8) (h : zs.length = 16384) : parse ((fr zs).take 100) = ([], some ((fr zs).take 100)) := by
  have hl := fr_len zs
  refine parse_inv (.inr ?_)
  rw [most_ln zs h]
  refine ⟨by omega, by omega, ?_⟩
  rw [List.length_take]
  omega
theorem most_all (zs : List UInt8) (h : zs.length = 16384) : parse ((fr zs).take 100 ++ ((fr zs).drop 100 ++ [0, 0, 0, 5, 0, 0, 0, 0, 0, 0, 0, 0, 5, 0, 0, 0, 0])) = ([zs, [0, 0, 0, 0, 0]], some [0, 0, 0, 5, 0, 0, 0, 0]) := by
  rw [← List.append_assoc, List.take_append_drop, parse_fr zs _ (by omega) (by omega), ev6]
theorem ln4 (x y z v : UInt8) : ln [x, y, z, v] = be x y z v := by simp only [ln]
theorem none_of {bs d o : List UInt8} {os : List (List UInt8)} (h : parse (bs ++ d) = (os, none)) : errF (some bs) d = 5 ∧ nextF (some bs) d = none := by simp [errF, nextF, h]
theorem p4 (x y z v : UInt8) (h : be x y z v < 5 ∨ 16384 < be x y z v) : parse [x, y, z, v] = ([], none) := by
  have := parse_bad (t := [x, y, z, v]) [] (by simp) (by rw [ln4]; exact h)
  rwa [List.append_nil] at this
theorem e4 (x y z v : UInt8) : [x, y, z] ++ (⟨#[v]⟩ : ByteArray).data.toList = [x, y, z, v] := rfl
theorem bad4 (x y z v : UInt8) (h : be x y z v < 5 ∨ 16384 < be x y z v) : errF (some [x, y, z]) (⟨#[v]⟩ : ByteArray).data.toList = 5 ∧ nextF (some [x, y, z]) (⟨#[v]⟩ : ByteArray).data.toList = none :=
  none_of (o := []) ((congrArg parse (e4 x y z v)).trans (p4 x y z v h))
abbrev tb : Array Value := #[.string ⟨#[0, 0, 0, 0]⟩, .string ⟨#[255, 255, 255, 255]⟩, .string ⟨#[128, 0, 0, 5]⟩, .string ⟨#[0, 1, 0, 5]⟩, .string ⟨#[1, 0, 0, 5]⟩]
theorem tb_at (k : Nat) (h : k < 5) : ∃ x y z v : UInt8, tb[k]? = some (.string ⟨#[x, y, z, v]⟩) ∧ (be x y z v < 5 ∨ 16384 < be x y z v) := by
  match k, h with
  | 0, _ => exact ⟨_, _, _, _, rfl, by decide⟩
  | 1, _ => exact ⟨_, _, _, _, rfl, by decide⟩
  | 2, _ => exact ⟨_, _, _, _, rfl, by decide⟩
  | 3, _ => exact ⟨_, _, _, _, rfl, by decide⟩
  | 4, _ => exact ⟨_, _, _, _, rfl, by decide⟩
def TR (g : Nat) (w0 : World) (t : Value) (wr : World) : Prop := ∃ k : Nat, t = .int .i64 (k : Int) ∧ k ≤ 5 ∧ Blk wr g 9 tb ∧ w0.heap.size ≤ g ∧ Kp w0.heap.size w0 wr
structure Fx (zs zl f1 f2 : List UInt8) (F : ByteArray) : Prop where
  z : ∀ w, Calls Try.prog 13 #[.int .i64 16384] w fun e w' => e = .returned (.string ⟨zs.toArray⟩) ∧ Below w.heap.size w w'
  y : ∀ w, Calls Try.prog 13 #[.int .i64 16385] w fun e w' => e = .returned (.string ⟨zl.toArray⟩) ∧ Below w.heap.size w w'
  f : ∀ w, Calls Try.prog 11 #[.string ⟨zs.toArray⟩] w fun e w' => e = .returned (.tuple #[.string F, .int .i64 0]) ∧ Below w.heap.size w w'
  fl : ∀ w, Calls Try.prog 11 #[.string ⟨zl.toArray⟩] w fun e w' => e = .returned (.tuple #[.string ⟨#[]⟩, .int .i64 5]) ∧ Below w.heap.size w w'
  wait : parse f1 = ([], some f1)
  all : parse (f1 ++ (f2 ++ [0, 0, 0, 5, 0, 0, 0, 0, 0, 0, 0, 0, 5, 0, 0, 0, 0])) = ([zs, [0, 0, 0, 0, 0]], some [0, 0, 0, 5, 0, 0, 0, 0])
  s : (F.size : Int) = 16388
  q1 : ∀ W, (Instr.slice 9 (.string F) none (some (.int .i64 4)) none).run Try.prog W = .ok (.string ⟨#[0, 0, 64, 0]⟩) W
  q2 : ∀ W, (Instr.slice 9 (.string F) none (some (.int .i64 100)) none).run Try.prog W = .ok (.string ⟨f1.toArray⟩) W
  q3 : ∀ W, (Instr.slice 9 (.string F) (some (.int .i64 100)) none none).run Try.prog W = .ok (.string ⟨f2.toArray⟩) W
  l1 : (⟨f1.toArray⟩ : ByteArray).size ≤ 100
  l2 : (⟨f2.toArray⟩ : ByteArray).size ≤ 20000
theorem fx_of (n : Nat) (hn : (n : Int) = 16384) : ∃ zs zl f1 f2 F, Fx zs zl f1 f2 F := by
  have hlen : (List.replicate n (0 : UInt8)).length = 16384 := by rw [List.length_replicate]; omega
  have hlen2 : (List.replicate (n + 1) (0 : UInt8)).length = 16385 := by rw [List.length_replicate]; omega
  have hz : ∀ w, Calls Try.prog 13 #[.int .i64 16384] w fun e w' => e = .returned (.string ⟨(List.replicate n (0 : UInt8)).toArray⟩) ∧ Below w.heap.size w w' := by
    intro w
    rw [← hn]
    exact many_zs _ _ (by omega) (by omega) (by rw [Int.toNat_natCast]) w
  have hzl : ∀ w, Calls Try.prog 13 #[.int .i64 16385] w fun e w' => e = .returned (.string ⟨(List.replicate (n + 1) (0 : UInt8)).toArray⟩) ∧ Below w.heap.size w w' := by
    intro w
    rw [show (16385 : Int) = ((n + 1 : Nat) : Int) by omega]
    exact many_zs _ _ (by omega) (by omega) (by rw [Int.toNat_natCast]) w
  generalize List.replicate n (0 : UInt8) = zs at *
  generalize List.replicate (n + 1) (0 : UInt8) = zl at *
  have hT := most_take zs hlen
  obtain ⟨F, hF⟩ : ∃ F : ByteArray, F = ⟨(fr zs).toArray⟩ := ⟨_, rfl⟩
  have hFd : F.data.toList = fr zs := by rw [hF]
  have hFs : F.size = 16388 := by
    have h1 := congrArg List.length hFd
    rw [fr_len, hlen] at h1
    simpa using h1
  have hflen : (fr zs).length = 16388 := by rw [fr_len, hlen]
  refine ⟨zs, zl, (fr zs).take 100, (fr zs).drop 100, F, hz, hzl, ?_, frame_long zl (by omega), most_wait zs hlen, most_all zs hlen, by omega, ?_, ?_, ?_, ?_, ?_⟩
  · rw [hF]; exact frame_good zs ⟨by omega, by omega⟩
  · intro W
    have := sl_to F 4 (by omega) W
    rw [hFd, hT] at this
    exact this
  · intro W
    have := sl_to F 100 (by omega) W
    rw [hFd] at this
    exact this
  · intro W
    have := sl_from F 100 (by omega) W
    rw [hFd] at this
    exact this
  · show ((fr zs).take 100).toArray.size ≤ _
    rw [List.size_toArray, List.length_take]
    omega
  · show ((fr zs).drop 100).toArray.size ≤ _
    rw [List.size_toArray, List.length_drop, hflen]
    omega
theorem z5 : Hid (∀ w, Calls Try.prog 13 #[.int .i64 5] w fun e w' => e = .returned (.string ⟨#[0, 0, 0, 0, 0]⟩) ∧ Below w.heap.size w w') := fun w => many_zs [0, 0, 0, 0, 0] 5 (by omega) (by omega) rfl w
theorem z4 : Hid (∀ w, Calls Try.prog 13 #[.int .i64 4] w fun e w' => e = .returned (.string ⟨#[0, 0, 0, 0]⟩) ∧ Below w.heap.size w w') := fun w => many_zs [0, 0, 0, 0] 4 (by omega) (by omega) rfl w
theorem f5 : Hid (∀ w, Calls Try.prog 11 #[.string ⟨#[0, 0, 0, 0, 0]⟩] w fun e w' => e = .returned (.tuple #[.string ⟨#[0, 0, 0, 5, 0, 0, 0, 0, 0]⟩, .int .i64 0]) ∧ Below w.heap.size w w') := frame_good [0, 0, 0, 0, 0] (by unfold Ok; decide)
theorem f4 : Hid (∀ w, Calls Try.prog 11 #[.string ⟨#[0, 0, 0, 0]⟩] w fun e w' => e = .returned (.tuple #[.string ⟨#[]⟩, .int .i64 4]) ∧ Below w.heap.size w w') := frame_short [0, 0, 0, 0] (by decide)
theorem f0 : Hid (∀ w, Calls Try.prog 11 #[.string ⟨#[]⟩] w fun e w' => e = .returned (.tuple #[.string ⟨#[]⟩, .int .i64 4]) ∧ Below w.heap.size w w') := frame_short [] (by decide)
theorem sl8 : Hid (∀ W, (Instr.slice 9 (.string ⟨#[0, 0, 0, 5, 0, 0, 0, 0, 0]⟩) none (some (.int .i64 8)) none).run Try.prog W = .ok (.string ⟨#[0, 0, 0, 5, 0, 0, 0, 0]⟩) W) := sl_to ⟨#[0, 0, 0, 5, 0, 0, 0, 0, 0]⟩ 8 (by decide)
set_option maxHeartbeats 3200000 in
set_option maxRecDepth 100000 in
theorem main (zs zl f1 f2 : List UInt8) (F : ByteArray) (X : Fx zs zl f1 f2 F) (w : World) : Calls Try.prog 4 #[] w fun e w' => e = .returned (.bool true) ∧ Below w.heap.size w w' := by
  have HZ := Lib.hid X.z
  have HZL := Lib.hid X.y
  have HZ5 := z5
  have HZ4 := z4
  have HF := Lib.hid X.f
  have HFL := Lib.hid X.fl
  have HF5 := f5
  have HF4 := f4
  have HF0 := f0
  have HW := Lib.hid X.wait
  have HA := Lib.hid X.all
  have q1 := X.q1
  have hFs1 := X.s
  have Q2 := Lib.hid X.q2
  have Q3 := Lib.hid X.q3
  have Q4 := sl8
  have hl100 := X.l1
  have hd100 := X.l2
  clear X
  go_enter Try.func4, Try.ntmps4
  go_wp2_with fail
  refine (awake_any _).mono ?_
  rintro e w1 ⟨rfl, hb⟩
  have HK := (Kp.refl w).go hb
  clear hb
  go_wp2_with (first
    | (go_at_call 13; (first | (with_reducible refine (HZ5.out _).mono ?_) | (with_reducible refine (HZ.out _).mono ?_) | (with_reducible refine (HZ4.out _).mono ?_) | (with_reducible refine (HZL.out _).mono ?_)); rintro e w2 ⟨rfl, hb⟩; have HK := HK.go hb; clear hb)
    | (go_at_call 11; (first | (with_reducible refine (HF5.out _).mono ?_) | (with_reducible refine (HF.out _).mono ?_) | (with_reducible refine (HF4.out _).mono ?_) | (with_reducible refine (HFL.out _).mono ?_) | (with_reducible refine (HF0.out _).mono ?_)); rintro e w2 ⟨rfl, hb⟩; have HK := HK.go hb; clear hb)
    | (go_at_call 14; fail))
  clear HZL HZ4 HF HFL HF5 HF4 HF0 q1 hFs1
  refine (new_st w.heap.size _).mono ?_
  rintro e w3 ⟨p, rfl, bp, sp, hb⟩
  have Bp := Nat.le_trans HK.size bp
  replace HK := HK.go hb
  clear hb bp
  have q2 := Q2.out
  go_wp2_with fail
  clear q2
  refine (feed_st w.heap.size p (some []) _ _ Bp sp (by omega)).mono ?_
  rintro e w4 ⟨v1, rfl, r1, s1, hf⟩
  rw [show errF (some []) (⟨f1.toArray⟩ : ByteArray).data.toList = 0 by show (if (parse f1).2.isNone then (5 : Int) else 0) = 0; rw [HW.out]; rfl]
  rw [show outF (some []) (⟨f1.toArray⟩ : ByteArray).data.toList = [] by show (parse f1).1 = []; rw [HW.out]] at r1
  rw [show nextF (some []) (⟨f1.toArray⟩ : ByteArray).data.toList = some f1 by show (parse f1).2 = some f1; rw [HW.out]] at s1
  replace HK := HK.fr hf Bp
  obtain ⟨A1, c1, rfl, _, _⟩ := own_reads r1
  clear sp r1 hf
  have q3 := Q3.out
  have q4 := Q4.out
  have a1 : ∀ W, (Op.stringOp .add (⟨f2.toArray⟩ : ByteArray) ⟨#[0, 0, 0, 5, 0, 0, 0, 0, 0]⟩).run Try.prog W = .ok (.string ⟨(f2 ++ [0, 0, 0, 5, 0, 0, 0, 0, 0]).toArray⟩) W := by
    intro W
    rw [run_string_add_sum (P := Try.prog) W _ _ (by have h : (⟨#[0, 0, 0, 5, 0, 0, 0, 0, 0]⟩ : ByteArray).size = 9 := rfl; omega)]
    refine congrArg (fun q => Result.ok (Value.string q) W) ?_
    exact str_ext (by simp)
  have a2 : ∀ W, (Op.stringOp .add (⟨(f2 ++ [0, 0, 0, 5, 0, 0, 0, 0, 0]).toArray⟩ : ByteArray) ⟨#[0, 0, 0, 5, 0, 0, 0, 0]⟩).run Try.prog W = .ok (.string ⟨(f2 ++ [0, 0, 0, 5, 0, 0, 0, 0, 0, 0, 0, 0, 5, 0, 0, 0, 0]).toArray⟩) W := by
    intro W
    have h9 : (⟨(f2 ++ [0, 0, 0, 5, 0, 0, 0, 0, 0]).toArray⟩ : ByteArray).size ≤ 20100 := by
      have h1 : (⟨f2.toArray⟩ : ByteArray).size = f2.length := by show f2.toArray.size = _; simp
      show (f2 ++ [0, 0, 0, 5, 0, 0, 0, 0, 0]).toArray.size ≤ _
      rw [List.size_toArray, List.length_append]
      simp only [List.length_cons, List.length_nil]
      omega
    rw [run_string_add_sum (P := Try.prog) W _ _ (by have h : (⟨#[0, 0, 0, 5, 0, 0, 0, 0]⟩ : ByteArray).size = 8 := rfl; omega)]
    refine congrArg (fun q => Result.ok (Value.string q) W) ?_
    exact str_ext (by simp)
  have hz17 : (⟨(f2 ++ [0, 0, 0, 5, 0, 0, 0, 0, 0, 0, 0, 0, 5, 0, 0, 0, 0]).toArray⟩ : ByteArray).size ≤ 30000 := by
    have h1 : (⟨f2.toArray⟩ : ByteArray).size = f2.length := by show f2.toArray.size = _; simp
    show (f2 ++ [0, 0, 0, 5, 0, 0, 0, 0, 0, 0, 0, 0, 5, 0, 0, 0, 0]).toArray.size ≤ _
    rw [List.size_toArray, List.length_append]
    simp only [List.length_cons, List.length_nil]
    omega
  go_wp2_with fail
  have hE : errF (some f1) (⟨(f2 ++ [0, 0, 0, 5, 0, 0, 0, 0, 0, 0, 0, 0, 5, 0, 0, 0, 0]).toArray⟩ : ByteArray).data.toList = 0 := by
    show errF (some f1) (f2 ++ [0, 0, 0, 5, 0, 0, 0, 0, 0, 0, 0, 0, 5, 0, 0, 0, 0]) = 0
    unfold errF
    simp only
    rw [HA.out]
    rfl
  have hO : outF (some f1) (⟨(f2 ++ [0, 0, 0, 5, 0, 0, 0, 0, 0, 0, 0, 0, 5, 0, 0, 0, 0]).toArray⟩ : ByteArray).data.toList = [zs, [0, 0, 0, 0, 0]] := by
    show outF (some f1) (f2 ++ [0, 0, 0, 5, 0, 0, 0, 0, 0, 0, 0, 0, 5, 0, 0, 0, 0]) = _
    unfold outF
    simp only
    rw [HA.out]
  have hN : nextF (some f1) (⟨(f2 ++ [0, 0, 0, 5, 0, 0, 0, 0, 0, 0, 0, 0, 5, 0, 0, 0, 0]).toArray⟩ : ByteArray).data.toList = some [0, 0, 0, 5, 0, 0, 0, 0] := by
    show nextF (some f1) (f2 ++ [0, 0, 0, 5, 0, 0, 0, 0, 0, 0, 0, 0, 5, 0, 0, 0, 0]) = _
    unfold nextF
    simp only
    rw [HA.out]
  have HE := Lib.hid hE
  have HO := Lib.hid hO
  have HN := Lib.hid hN
  clear hE hO hN
  go_region_with ((go_at_call 15; go_must (refine (feed_st w.heap.size p (some f1) _ _ Bp s1.drew (by omega)).mono ?_; rintro e w5 ⟨v2, rfl, r2, s2, hf⟩; rw [HE.out])))
  rw [HO.out] at r2
  rw [HN.out] at s2
  replace HK := HK.drew.fr hf Bp
  obtain ⟨A2, c2, rfl, m2, q5⟩ := own_reads r2
  clear s1 hf hz17 a1 a2 q3 q4 hl100 hd100
  have hw8 : ∀ W, Sv W p (some [0, 0, 0, 5, 0, 0, 0, 0]) → Calls Try.prog 17 #[ptr p] W fun e w' => e = .returned (.int .i64 8) ∧ W = w' := fun W h => waits_st p _ W h
  have HW8 := Lib.hid hw8
  clear hw8 HW HA
  go_wp2_with fail
  refine (HZ.out _).mono ?_
  rintro e w6 ⟨rfl, hb⟩
  replace HK := HK.go hb
  replace s2 := s2.go hb
  replace r2 := ownsRow_go r2 hb
  clear hb q5
  go_wp2_with fail
  refine (HZ5.out _).mono ?_
  rintro e w7 ⟨rfl, hb⟩
  replace HK := HK.go hb
  replace s2 := s2.go hb
  replace r2 := ownsRow_go r2 hb
  clear hb
  have q6 := blk_reads (l := [⟨zs.toArray⟩, ⟨#[0, 0, 0, 0, 0]⟩]) (Blk.new w7 9 #[.string ⟨zs.toArray⟩, .string ⟨#[0, 0, 0, 0, 0]⟩]) (by simp)
  have hb7 : Below w7.heap.size w7 (w7.alloc (.cells #[.string ⟨zs.toArray⟩, .string ⟨#[0, 0, 0, 0, 0]⟩] 9)) := below_alloc (Below.refl _ _) _
  replace HK := HK.go hb7
  replace s2 := s2.go hb7
  replace r2 := ownsRow_go r2 hb7
  clear hb7
  go_wp2_with fail
  refine (same_b A2 c2 (txt [zs, [0, 0, 0, 0, 0]]) _ 2 [⟨zs.toArray⟩, ⟨#[0, 0, 0, 0, 0]⟩] _ (own_C r2).1 m2 q6 (by simp) (by simp [txt])).mono ?_
  rintro e w8 ⟨rfl, hb⟩
  rw [decide_eq_true (show txt [zs, [0, 0, 0, 0, 0]] = [⟨zs.toArray⟩, ⟨#[0, 0, 0, 0, 0]⟩] from rfl)]
  replace HK := HK.go hb
  replace s2 := s2.go hb
  clear hb q6 r2 m2
  have hsv := s2.sv
  go_wp2_with (first | (go_at_call 17; ((with_reducible refine (HW8.out _ (by assumption)).mono ?_); rintro e _ ⟨rfl, rfl⟩)))
  clear hsv HW8
  rw [show ((⟨#[0, 0, 0, 0, 4]⟩ : ByteArray) ++ (⟨#[0, 0, 0, 5, 0, 0, 0, 0, 0]⟩ : ByteArray)) = ⟨#[0, 0, 0, 0, 4, 0, 0, 0, 5, 0, 0, 0, 0, 0]⟩ from str_ext (by simp)]
  refine (feed_st w.heap.size p (some [0, 0, 0, 5, 0, 0, 0, 0]) _ _ Bp s2 (by decide)).mono ?_
  rintro e w9 ⟨v3, rfl, r3, s3, hf⟩
  rw [show errF (some [0, 0, 0, 5, 0, 0, 0, 0]) (⟨#[0, 0, 0, 0, 4, 0, 0, 0, 5, 0, 0, 0, 0, 0]⟩ : ByteArray).data.toList = 5 from by simp [errF, ev7]]
  rw [show outF (some [0, 0, 0, 5, 0, 0, 0, 0]) (⟨#[0, 0, 0, 0, 4, 0, 0, 0, 5, 0, 0, 0, 0, 0]⟩ : ByteArray).data.toList = [[0, 0, 0, 0, 0]] from by simp [outF, ev7]] at r3
  rw [show nextF (some [0, 0, 0, 5, 0, 0, 0, 0]) (⟨#[0, 0, 0, 0, 4, 0, 0, 0, 5, 0, 0, 0, 0, 0]⟩ : ByteArray).data.toList = none from by simp [nextF, ev7]] at s3
  replace HK := HK.fr hf Bp
  obtain ⟨A3, c3, rfl, m3, _⟩ := own_reads r3
  clear hf s2
  go_wp2_with fail
  refine (feed_st w.heap.size p none ⟨#[]⟩ _ Bp s3 (by decide)).mono ?_
  rintro e w10 ⟨v4, rfl, r4, s4, hf⟩
  rw [show errF none (⟨#[]⟩ : ByteArray).data.toList = 14 from rfl]
  rw [show outF none (⟨#[]⟩ : ByteArray).data.toList = [] from rfl] at r4
  rw [show nextF none (⟨#[]⟩ : ByteArray).data.toList = none from rfl] at s4
  obtain ⟨_, _, _, hblk⟩ := s3.sv
  replace r3 := own_fr r3 (by decide) (by decide) hblk hf
  replace HK := HK.fr hf Bp
  obtain ⟨A4, c4, rfl, _, _⟩ := own_reads r4
  clear hf s3 hblk r4
  go_wp2_with fail
  refine (HZ5.out _).mono ?_
  rintro e w11 ⟨rfl, hb⟩
  replace HK := HK.go hb
  replace s4 := s4.go hb
  replace r3 := ownsRow_go r3 hb
  clear hb
  have q6 := blk_reads (l := [⟨#[0, 0, 0, 0, 0]⟩]) (Blk.new w11 9 #[.string ⟨#[0, 0, 0, 0, 0]⟩]) (by simp)
  have hb7 : Below w11.heap.size w11 (w11.alloc (.cells #[.string ⟨#[0, 0, 0, 0, 0]⟩] 9)) := below_alloc (Below.refl _ _) _
  replace HK := HK.go hb7
  replace s4 := s4.go hb7
  replace r3 := ownsRow_go r3 hb7
  clear hb7
  go_wp2_with fail
  refine (same_b A3 c3 (txt [[0, 0, 0, 0, 0]]) _ 1 [⟨#[0, 0, 0, 0, 0]⟩] _ (own_C r3).1 m3 q6 (by simp) (by simp [txt])).mono ?_
  rintro e w12 ⟨rfl, hb⟩
  rw [decide_eq_true (show txt [[0, 0, 0, 0, 0]] = [⟨#[0, 0, 0, 0, 0]⟩] from rfl)]
  replace HK := HK.go hb
  replace s4 := s4.go hb
  clear hb q6 r3 m3
  have hsv := s4.sv
  have hcl : ∀ W, Sv W p none → Calls Try.prog 18 #[ptr p] W fun e w' => e = .returned (.bool true) ∧ W = w' := fun W h => closed_st p _ W h
  have hwq : ∀ W, Sv W p none → Calls Try.prog 17 #[ptr p] W fun e w' => e = .returned (.int .i64 0) ∧ W = w' := fun W h => waits_st p _ W h
  have HCL := Lib.hid hcl
  have HWQ := Lib.hid hwq
  clear hcl hwq
  go_wp2_with (first | (go_at_call 18; ((with_reducible refine (HCL.out _ (by assumption)).mono ?_); rintro e _ ⟨rfl, rfl⟩)) | (go_at_call 17; ((with_reducible refine (HWQ.out _ (by assumption)).mono ?_); rintro e _ ⟨rfl, rfl⟩)))
  clear hsv HCL HWQ s4
  have hg : Blk (w12.alloc (.cells tb 9)) w12.heap.size 9 tb := Blk.new _ _ _
  have hR : TR w12.heap.size w (.int .i64 0) (w12.alloc (.cells tb 9)) := ⟨0, rfl, by omega, hg, HK.size, HK.alloc _⟩
  clear hg
  generalize w12.alloc _ = w13 at *
  generalize hgn : w12.heap.size = g at *
  clear hgn HK
  go_loopw [176] (fun t wr => TR g w t wr) (fun t _ => 5 - (intOf t).toNat)
  case atStart => exact hR
  case round =>
    clear hR
    obtain ⟨k, rfl, hk, hg, hg0, HK⟩ := hrel
    by_cases hlt : k < 5
    · obtain ⟨x, y, z, v, e1, hbad⟩ := tb_at k hlt
      have c0 := (hg.cell k).trans e1
      have k0 : (0 : Int) ≤ (k : Int) := by omega
      have k1 : (k : Int) < 5 := by omega
      have s1 : ∀ W, (Instr.slice 9 (.string ⟨#[x, y, z, v]⟩) none (some (.int .i64 3)) none).run Try.prog W = .ok (.string ⟨#[x, y, z]⟩) W := sl_to ⟨#[x, y, z, v]⟩ 3 (by show 3 ≤ 4; omega)
      have s2 : ∀ W, (Instr.slice 9 (.string ⟨#[x, y, z, v]⟩) (some (.int .i64 3)) none none).run Try.prog W = .ok (.string ⟨#[v]⟩) W := sl_from ⟨#[x, y, z, v]⟩ 3 (by show 3 ≤ 4; omega)
      have S2 := Lib.hid s2
      have HBAD := Lib.hid hbad
      have hgw := hg.lt
      clear e1 s2 hbad
      go_wp2_with fail
      have fp : Fresh (wr.alloc (.cells #[.nilFunc, .slice none 0 0, .bool false] 39)) wr.heap.size := Blk.new _ _ _
      have Bq : w.heap.size ≤ wr.heap.size := by omega
      have hb : Below wr.heap.size wr (wr.alloc (.cells #[.nilFunc, .slice none 0 0, .bool false] 39)) := below_alloc (Below.refl _ _) _
      replace HK := HK.go hb
      replace hg := hg.go hb
      have hne : g ≠ wr.heap.size := by omega
      clear hb c0
      refine (feed_st w.heap.size wr.heap.size (some []) ⟨#[x, y, z]⟩ _ Bq (fp.st _) (by have h : (⟨#[x, y, z]⟩ : ByteArray).size = 3 := rfl; omega)).mono ?_
      rintro e w14 ⟨v5, rfl, r5, s5, hf⟩
      have p3 : parse [x, y, z] = ([], some [x, y, z]) := parse_inv (.inl (by simp))
      rw [show errF (some []) (⟨#[x, y, z]⟩ : ByteArray).data.toList = 0 from by simp [errF, p3]]
      rw [show nextF (some []) (⟨#[x, y, z]⟩ : ByteArray).data.toList = some [x, y, z] from by simp [nextF, p3]] at s5
      replace HK := HK.fr hf Bq
      replace hg := Blk.fr hg hf hne (by decide)
      clear hf fp r5 s1 p3
      have s2 := S2.out
      go_wp2_with fail
      refine (feed_st w.heap.size wr.heap.size (some [x, y, z]) ⟨#[v]⟩ _ Bq s5 (by have h : (⟨#[v]⟩ : ByteArray).size = 1 := rfl; omega)).mono ?_
      rintro e w15 ⟨v6, rfl, r6, s6, hf⟩
      obtain ⟨p4, p5⟩ := bad4 x y z v HBAD.out
      rw [p4]
      rw [p5] at s6
      replace HK := HK.fr hf Bq
      replace hg := Blk.fr hg hf hne (by decide)
      have hsv := s6.sv
      clear hf s5 r6 p4 p5 s2
      have hcl : Calls Try.prog 18 #[ptr wr.heap.size] w15 fun e w' => e = .returned (.bool true) ∧ w15 = w' := closed_st wr.heap.size none w15 hsv
      have HCL := Lib.hid hcl
      clear hcl
      go_wp2_with (first | (go_at_call 18; ((with_reducible refine HCL.out.mono ?_); rintro e _ ⟨rfl, rfl⟩)))
      go_roundw
      case rel => exact ⟨k + 1, by go_num, by omega, hg, hg0, HK⟩
      case measure => simp [intOf]; omega
    · obtain rfl : k = 5 := by omega
      go_wp2_with fail
      refine (feed_nil _ _).mono ?_
      rintro e _ ⟨rfl, rfl⟩
      go_wp2_with (first | (go_at_call 18; ((with_reducible refine (closed_nil _).mono ?_); rintro e _ ⟨rfl, rfl⟩)) | (go_at_call 17; ((with_reducible refine (waits_nil _).mono ?_); rintro e _ ⟨rfl, rfl⟩)))
      go_ret
      exact ⟨rfl, HK.below⟩
theorem core (w : World) : Calls Try.prog 4 #[] w fun e w' => e = .returned (.bool true) ∧ Below w.heap.size w w' := by
  obtain ⟨n, hn⟩ : ∃ n : Nat, (n : Int) = 16384 := ⟨16384, rfl⟩
  obtain ⟨zs, zl, f1, f2, F, X⟩ := fx_of n hn
  exact main zs zl f1 f2 F X w
end Go.Proofs.Ytedkfhgpahjleaa.Names
