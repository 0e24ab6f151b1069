/- The examples are as they are told. Conditions: as each contract says. -/
import Derived.Test.YtdobpieiobikpaaNums
set_option linter.unusedVariables false
set_option linter.unusedSimpArgs false
namespace Go.Proofs.Ytdobpieiobikpaa.Base
open Go Go.RowKit Go.Proofs.Ytdobpieiobikpaa.Mem Go.Proofs.YtdobpieiobikpaaW.PrintWords Go.Proofs.YtdobpieiobikpaaW.PrintLast
def A1 : St := ⟨[(3, (0, 0))], []⟩
def A2 : St := ⟨[(3, (1, 60))], []⟩
def A3 : St := ⟨[(3, (2, 160))], []⟩
def A5 : St := ⟨[(3, (2, 160))], [(1, [0, 0, 0, 0])]⟩
def A6 : St := ⟨[(3, (2, 160))], [(1, [0, 0, 7, 0])]⟩
def A7 : St := ⟨[(3, (2, 160))], [(1, [0, 0, 4, 0])]⟩
theorem a1 : putC St.nil 3 = (0, A1) := rfl
theorem a2 : cnt A1 3 60 = (0, A2) := rfl
theorem a3 : cnt A2 3 100 = (0, A3) := rfl
theorem a4 : putC A3 3 = (7, A3) := rfl
theorem a5 : putR A3 1 4 = (0, A5) := rfl
theorem a6 : save A5 1 ((2 : Nat) : Int) 7 = (0, A6) := rfl
theorem a7 : bump A6 1 ((2 : Nat) : Int) 18446744073709551613 = (0, A7) := rfl
theorem a8 : putR A7 2 1025 = (1, A7) := rfl
theorem a9 : getC A7 3 = (2, 160, 0) := rfl
theorem a10 : load A7 1 ((2 : Nat) : Int) = (4, 0) := rfl
theorem a11 : rowR A7 1 1 3 = ([0, 4, 0], 0) := rfl
theorem a12 : load A7 1 ((4 : Nat) : Int) = (0, 1) := rfl
theorem a13 : rowR A7 1 4 0 = ([], 0) := rfl
set_option maxHeartbeats 16000000 in
set_option maxRecDepth 100000 in
theorem awake_any (w : World) : Calls Try.prog 11 #[] w fun e w' => e = .returned (.bool true) ∧ Below w.heap.size w w' := by
  go_enter Try.func11, Try.ntmps11
  go_wp2_with fail
  refine (new_any w).mono ?_
  rintro e w1 ⟨rfl, hs, hb⟩
  have HH := Lib.hid (show Mine w w1 w.heap.size St.nil from ⟨hs, hb⟩)
  clear hs hb
  obtain ⟨a, ha⟩ : ∃ a, w.heap.size = a := ⟨_, rfl⟩
  rw [ha] at HH ⊢
  clear ha
  go_wp2_with fail
  refine (putC_any a _ St.nil 3 w1 HH.out.sto (by decide)).mono ?_
  intro e w2 hd
  obtain ⟨rfl, h⟩ := HH.out.did hd
  rw [a1] at h ⊢
  replace HH := Lib.hid h
  clear hd h
  go_wp2_with fail
  refine (cnt_any a _ A1 3 60 w2 HH.out.sto (by decide) (by decide)).mono ?_
  intro e w3 hd
  obtain ⟨rfl, h⟩ := HH.out.did hd
  rw [a2] at h ⊢
  replace HH := Lib.hid h
  clear hd h
  go_wp2_with fail
  refine (cnt_any a _ A2 3 100 w3 HH.out.sto (by decide) (by decide)).mono ?_
  intro e w4 hd
  obtain ⟨rfl, h⟩ := HH.out.did hd
  rw [a3] at h ⊢
  replace HH := Lib.hid h
  clear hd h
  go_wp2_with fail
  refine (putC_any a _ A3 3 w4 HH.out.sto (by decide)).mono ?_
  intro e w5 hd
  obtain ⟨rfl, h⟩ := HH.out.did hd
  rw [a4] at h ⊢
  replace HH := Lib.hid h
  clear hd h
  go_wp2_with fail
  refine (putR_any a _ A3 1 4 w5 HH.out.sto (by decide)).mono ?_
  intro e w6 hd
  obtain ⟨rfl, h⟩ := HH.out.did hd
  rw [a5] at h ⊢
  replace HH := Lib.hid h
  clear hd h
  go_wp2_with fail
  refine (save_any a _ A5 1 2 7 w6 HH.out.sto (by decide) (by decide) (by unfold u64ok; decide)).mono ?_
  intro e w7 hd
  obtain ⟨rfl, h⟩ := HH.out.did hd
  rw [a6] at h ⊢
  replace HH := Lib.hid h
  clear hd h
  go_wp2_with fail
  refine (bump_any a _ A6 1 2 18446744073709551613 w7 HH.out.sto (by decide) (by decide) (by unfold u64ok; decide)).mono ?_
  intro e w8 hd
  obtain ⟨rfl, h⟩ := HH.out.did hd
  rw [a7] at h ⊢
  replace HH := Lib.hid h
  clear hd h
  go_wp2_with fail
  refine (putR_any a _ A7 2 1025 w8 HH.out.sto (by decide)).mono ?_
  intro e w9 hd
  obtain ⟨rfl, h⟩ := HH.out.did hd
  rw [a8] at h ⊢
  replace HH := Lib.hid h
  clear hd h
  go_wp2_with fail
  refine (getC_any a _ A7 3 w9 HH.out.sto (by decide)).mono ?_
  rw [a9]
  rintro e w10 ⟨rfl, hb⟩
  replace HH := Lib.hid (HH.out.go hb)
  clear hb
  go_wp2_with fail
  refine (load_any a _ A7 1 2 w10 HH.out.sto (by decide) (by decide)).mono ?_
  rw [a10]
  rintro e w11 ⟨rfl, hb⟩
  replace HH := Lib.hid (HH.out.go hb)
  clear hb
  go_wp2_with fail
  refine (rowR_any a _ A7 1 1 3 w11 HH.out.sto (by decide)).mono ?_
  rw [a11]
  rintro e w12 ⟨v, rfl, ho, hb⟩
  replace HH := Lib.hid (HH.out.go hb)
  obtain ⟨Av, cv, rfl, hcv, hCv⟩ := own_C (xs := [0, 4, 0]) ho (by decide)
  have HCV := Lib.hid hCv
  clear ho hCv
  clear hb
  go_wp2_with fail
  refine (load_any a _ A7 1 4 w12 HH.out.sto (by decide) (by decide)).mono ?_
  rw [a12]
  rintro e w13 ⟨rfl, hb⟩
  replace HH := Lib.hid (HH.out.go hb)
  replace HCV := Lib.hid (Kd.C_below HCV.out hb)
  clear hb
  go_wp2_with fail
  refine (rowR_any a _ A7 1 4 0 w13 HH.out.sto (by decide)).mono ?_
  rw [a13]
  rintro e w14 ⟨v2, rfl, ho, hb⟩
  replace HH := Lib.hid (HH.out.go hb)
  obtain ⟨Ax, cx, rfl, hcx, hCx⟩ := own_C (xs := []) ho (by decide)
  replace HCV := Lib.hid (Kd.C_below HCV.out hb)
  clear ho hCx hcx
  clear hb
  have hb := (Below.refl w14.heap.size w14).alloc (Nat.le_refl _) (.cells #[.int .u64 0, .int .u64 4, .int .u64 0] 22)
  have HQ := Lib.hid (nums_any Av cv [0, 4, 0] (some ⟨w14.heap.size, 0, none⟩) 3 [0, 4, 0] _ (Kd.C_below HCV.out hb) hcv (blk_readsU (l := [0, 4, 0]) (Blk.new w14 22 #[.int .u64 0, .int .u64 4, .int .u64 0]) (by decide)) (by decide) (by decide))
  rw [beq_self_eq_true] at HQ
  replace HH := Lib.hid (HH.out.go hb)
  clear hb HCV hcv
  go_wp2_with fail
  refine HQ.out.mono ?_
  rintro e _ ⟨rfl, q, rfl⟩
  go_wp2_with fail
  go_ret
  exact ⟨rfl, pw_below_drewN HH.out.below _⟩
end Go.Proofs.Ytdobpieiobikpaa.Base
