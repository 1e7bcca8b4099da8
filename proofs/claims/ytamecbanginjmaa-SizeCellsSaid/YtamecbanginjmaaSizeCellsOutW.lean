/-
  Walks of laws of layer 2. Conditions: each number fits its kind.
-/
import Derived.Test.YtamecbanginjmaaSize
namespace Go.Proofs.Ytamecbanginjmaa
open Go.RowKit

set_option maxRecDepth 100000 in
set_option maxHeartbeats 2000000 in
theorem sizeCells_out (c : Int) (cell : Int) (offset : Int) (w : World) (_wc : (Lit.int .i64 c).wf = true) (_wcell : (Lit.int .i64 cell).wf = true) (_woffset : (Lit.int .i64 offset).wf = true) (hc : c < 0 ∨ 3 ≤ c) :
    Calls Try.prog 9 #[.int .i64 c, .int .i64 cell, .int .i64 offset] w fun e w' => e = .returned (.bool true) ∧ Below w.heap.size w w' := by
  have hwz := wordsZ_out hc
  have hcz := cellsZ_out hc
  have HW := Lib.hid hwz
  have HC := Lib.hid hcz
  clear hwz hcz
  rcases hc with hc | hc
  · rcases Int.lt_or_le cell 0 with h1 | h1
    · go_enter Try.func9, Try.ntmps9
      go_wp2_with fail
      refine (fit02 _).mono ?_
      rintro e w' ⟨rfl, rfl⟩
      go_wp2_with fail
      refine (Words _ _).mono ?_
      rintro e w' ⟨rfl, rfl⟩
      rw [HW.out]
      go_wp2_with fail
      refine (Cells _ _).mono ?_
      rintro e w' ⟨rfl, rfl⟩
      rw [HC.out]
      go_wp2_with fail
      refine (OffsetNo _ _ _ (by rw [HC.out]; omega)).mono ?_
      rintro e w' ⟨rfl, rfl⟩
      go_wp2_with fail
      refine (CellNo _ _ _ (by rw [HW.out]; omega)).mono ?_
      rintro e w' ⟨rfl, rfl⟩
      go_wp2_with fail
      go_ret
      exact ⟨by first | rfl | (simp; omega), Below.refl _ _⟩
    · go_enter Try.func9, Try.ntmps9
      go_wp2_with fail
      refine (fit02 _).mono ?_
      rintro e w' ⟨rfl, rfl⟩
      go_wp2_with fail
      refine (Words _ _).mono ?_
      rintro e w' ⟨rfl, rfl⟩
      rw [HW.out]
      go_wp2_with fail
      refine (Cells _ _).mono ?_
      rintro e w' ⟨rfl, rfl⟩
      rw [HC.out]
      go_wp2_with fail
      refine (OffsetNo _ _ _ (by rw [HC.out]; omega)).mono ?_
      rintro e w' ⟨rfl, rfl⟩
      go_wp2_with fail
      refine (CellNo _ _ _ (by rw [HW.out]; omega)).mono ?_
      rintro e w' ⟨rfl, rfl⟩
      go_wp2_with fail
      go_ret
      exact ⟨by first | rfl | (simp; omega), Below.refl _ _⟩
  · rcases Int.lt_or_le cell 0 with h1 | h1
    · go_enter Try.func9, Try.ntmps9
      go_wp2_with fail
      refine (fit02 _).mono ?_
      rintro e w' ⟨rfl, rfl⟩
      go_wp2_with fail
      refine (Words _ _).mono ?_
      rintro e w' ⟨rfl, rfl⟩
      rw [HW.out]
      go_wp2_with fail
      refine (Cells _ _).mono ?_
      rintro e w' ⟨rfl, rfl⟩
      rw [HC.out]
      go_wp2_with fail
      refine (OffsetNo _ _ _ (by rw [HC.out]; omega)).mono ?_
      rintro e w' ⟨rfl, rfl⟩
      go_wp2_with fail
      refine (CellNo _ _ _ (by rw [HW.out]; omega)).mono ?_
      rintro e w' ⟨rfl, rfl⟩
      go_wp2_with fail
      go_ret
      exact ⟨by first | rfl | (simp; omega), Below.refl _ _⟩
    · go_enter Try.func9, Try.ntmps9
      go_wp2_with fail
      refine (fit02 _).mono ?_
      rintro e w' ⟨rfl, rfl⟩
      go_wp2_with fail
      refine (Words _ _).mono ?_
      rintro e w' ⟨rfl, rfl⟩
      rw [HW.out]
      go_wp2_with fail
      refine (Cells _ _).mono ?_
      rintro e w' ⟨rfl, rfl⟩
      rw [HC.out]
      go_wp2_with fail
      refine (OffsetNo _ _ _ (by rw [HC.out]; omega)).mono ?_
      rintro e w' ⟨rfl, rfl⟩
      go_wp2_with fail
      refine (CellNo _ _ _ (by rw [HW.out]; omega)).mono ?_
      rintro e w' ⟨rfl, rfl⟩
      go_wp2_with fail
      go_ret
      exact ⟨by first | rfl | (simp; omega), Below.refl _ _⟩


end Go.Proofs.Ytamecbanginjmaa
