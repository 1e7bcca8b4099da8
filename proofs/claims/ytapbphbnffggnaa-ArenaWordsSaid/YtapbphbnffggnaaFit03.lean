/-
  fit of layer 3. Conditions: none.
-/
import Derived.Test.YtapbphbnffggnaaArenaIter
import Derived.Test.YtapbphbnffggnaaArenaWord
namespace Go.Proofs.Ytapbphbnffggnaa
set_option linter.unusedVariables false
set_option linter.unusedSimpArgs false
open Go.RowKit Go.Shelf

theorem fit03_a (ids : Nat × Nat × Nat) : takeV ((AR.new 2 ids).take 2) = .tuple #[.int .i64 1, .bool true] := by kernel_rfl
theorem fit03_b (ids : Nat × Nat × Nat) : takeV (((AR.new 2 ids).takeA 2).take 2) = .tuple #[.int .i64 9, .bool true] := by kernel_rfl
theorem fit03_c (ids : Nat × Nat × Nat) : (((AR.new 2 ids).takeA 2).takeA 2).free = 1 := by kernel_rfl
theorem fit03_d (ids : Nat × Nat × Nat) : (((AR.new 2 ids).takeA 2).takeA 2).has 9 = true := by kernel_rfl
theorem fit03_e (ids : Nat × Nat × Nat) : (((AR.new 2 ids).takeA 2).takeA 2).has 2 = false := by kernel_rfl

theorem fit03 (w : World) : Calls Try.prog 17 #[] w fun e w' => e = .returned (.bool true) ∧ Chg [] w w' := by
  go_enter Try.func17, Try.ntmps17
  go_wp2_with fail
  refine (TANew (Sep.start w) 2 2 (by decide)).mono ?_
  rintro e w1 ⟨a, ids, rfl, hs⟩
  have HS := Lib.hid hs
  have HW0 := Lib.hid (AR.new_wf 2 ids (by omega))
  have HW1 := Lib.hid (HW0.out.takeA_wf 2)
  have HV1 := Lib.hid (fit03_a ids)
  have HV2 := Lib.hid (fit03_b ids)
  have HFR := Lib.hid (fit03_c ids)
  have HH9 := Lib.hid (fit03_d ids)
  have HH2 := Lib.hid (fit03_e ids)
  clear hs
  go_wp2_with fail
  refine (TATake HS.out 0 rfl HW0.out 2).mono ?_
  rw [HV1.out]
  rintro e w2 ⟨rfl, hs⟩
  have HS2 := Lib.hid hs
  clear hs HS
  go_wp2_with fail
  refine (TATake HS2.out 0 rfl HW1.out 2).mono ?_
  rw [HV2.out]
  rintro e w3 ⟨rfl, hs⟩
  have HS3 := Lib.hid hs
  clear hs HS2
  go_wp2_with fail
  refine (TAFree HS3.out 0 rfl).mono ?_
  rw [HFR.out]
  rintro e w' ⟨rfl, rfl⟩
  go_wp2_with fail
  refine (TAHas HS3.out 0 rfl 9).mono ?_
  rw [HH9.out]
  rintro e w4 ⟨rfl, hs⟩
  have HS4 := Lib.hid hs
  clear hs HS3
  go_wp2_with fail
  refine (TAHas HS4.out 0 rfl 2).mono ?_
  rw [HH2.out]
  rintro e w5 ⟨rfl, hs⟩
  have HS5 := Lib.hid hs
  clear hs HS4
  go_wp2_with fail
  go_ret
  exact ⟨rfl, HS5.out.chg⟩
end Go.Proofs.Ytapbphbnffggnaa
