/-
  The look at the machine ahead of the laws of layer 4. Conditions: none.
-/
import Derived.Test.YtapbphbnffggnaaCellNew
namespace Go.Proofs.Ytapbphbnffggnaa
set_option linter.unusedVariables false
set_option linter.unusedSimpArgs false
open Go.RowKit Go.Shelf

theorem fit04_a (ids : Nat × Nat × Nat) : (AR.new 2 ids).take (classZ 2) = some (1, (AR.new 2 ids).takeA 1) := by kernel_rfl
theorem fit04_b (ids : Nat × Nat × Nat) : (((AR.new 2 ids).takeA 1).setW 1 0 2).checkZ 1 1 = 0 := by kernel_rfl
theorem fit04_c (ids : Nat × Nat × Nat) : ((((AR.new 2 ids).takeA 1).setW 1 0 2).setW 1 3 1).checkZ 1 1 = 0 := by kernel_rfl
theorem fit04_d (ids : Nat × Nat × Nat) : ((((AR.new 2 ids).takeA 1).setW 1 0 2).setW 1 3 1).checkZ 1 2 = 6 := by kernel_rfl
theorem fit04_e (ids : Nat × Nat × Nat) : ((((AR.new 2 ids).takeA 1).setW 1 0 2).setW 1 3 1).checkZ 0 0 = 8 := by kernel_rfl
theorem fit04_f (ids : Nat × Nat × Nat) : ((((AR.new 2 ids).takeA 1).setW 1 0 2).setW 1 3 1).wordZ 1 3 = 1 := by kernel_rfl
theorem fit04_g (ids : Nat × Nat × Nat) : ((((AR.new 2 ids).takeA 1).setW 1 0 2).setW 1 3 1).wordZ 1 0 = 2 := by kernel_rfl

set_option maxRecDepth 100000 in
set_option maxHeartbeats 400000 in
theorem fit04 (w : World) : Calls Try.prog 39 #[] w fun e w' => e = .returned (.bool true) ∧ Chg [] w w' := by
  go_enter Try.func39, Try.ntmps39
  go_wp2_with fail
  refine (TANew (Sep.start w) 2 2 (by decide)).mono ?_
  rintro e w1 ⟨a, ids, rfl, hs⟩
  have HS := Lib.hid hs
  have HW0 := Lib.hid (AR.new_wf 2 ids (by omega))
  have HT := Lib.hid (fit04_a ids)
  have HW1 := Lib.hid ((HW0.out.takeA_wf 1).setW_wf 1 0 2)
  have HW2 := Lib.hid (HW1.out.setW_wf 1 3 1)
  have HB := Lib.hid (fit04_b ids)
  have HC := Lib.hid (fit04_c ids)
  have HD := Lib.hid (fit04_d ids)
  have HE := Lib.hid (fit04_e ids)
  have HF := Lib.hid (fit04_f ids)
  have HG := Lib.hid (fit04_g ids)
  obtain ⟨B1, hB1⟩ : ∃ B1, (((AR.new 2 ids).takeA 1).setW 1 0 2) = B1 := ⟨_, rfl⟩
  rw [hB1] at HW1 HW2 HB HC HD HE HF HG
  obtain ⟨B2, hB2⟩ : ∃ B2, B1.setW 1 3 1 = B2 := ⟨_, rfl⟩
  rw [hB2] at HW2 HC HD HE HF HG
  have HB1 := Lib.hid hB1
  have HB2 := Lib.hid hB2
  have h1 := CNewSome hs 0 rfl HW0.out 2 (by omega) (by omega) HT.out (by omega)
  rw [show ((1 : Nat) : Int) = 1 from rfl, hB1] at h1
  have HN := Lib.hid h1
  clear hs hB1 hB2 h1
  go_wp2_with (first
    | (go_at_call 46; refine HN.out.mono ?_; rintro e w2 ⟨rfl, hs⟩; have HS2 := Lib.hid (show Sep w w2 (arenaR a B1 :: []) from hs); clear hs HN)
    | (go_at_call 44; refine (CSetFieldYes HS2.out 0 rfl HW1.out 1 1 1 (by omega) HB.out (by omega) (by omega)).mono ?_; rintro e w3 ⟨rfl, hs⟩; have HS3 := Lib.hid (show Sep w w3 (arenaR a B2 :: []) by rw [← HB2.out]; exact hs); clear hs HS2)
    | (go_at_call 42; refine (CFieldYes HS3.out 0 rfl HW2.out 1 1 (by omega) HC.out (by omega) (by omega)).mono ?_; rw [show B2.wordZ 1 (2 + 1) = 1 from HF.out]; rintro e w4 ⟨rfl, hs⟩; have HS4 := Lib.hid hs; clear hs HS3)
    | (go_at_call 42; refine (CFieldNo HS4.out 0 rfl HW2.out 1 2 (by omega) (by rw [HD.out]; omega)).mono ?_; rw [HD.out]; rintro e w5 ⟨rfl, hs⟩; have HS5 := Lib.hid hs; clear hs HS4)
    | (go_at_call 42; refine (CFieldNo HS5.out 0 rfl HW2.out 0 0 (by omega) (by rw [HE.out]; omega)).mono ?_; rw [HE.out]; rintro e w6 ⟨rfl, hs⟩; have HS6 := Lib.hid hs; clear hs HS5)
    | (go_at_call 41; refine (CFields HS6.out 0 rfl HW2.out 1 (by omega)).mono ?_; rw [HG.out]; rintro e w7 ⟨rfl, hs⟩; have HS7 := Lib.hid hs; clear hs HS6))
  go_ret
  exact ⟨rfl, HS7.out.chg⟩
end Go.Proofs.Ytapbphbnffggnaa
