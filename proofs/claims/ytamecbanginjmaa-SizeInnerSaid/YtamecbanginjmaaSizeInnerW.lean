/-
  Walks of laws of layer 2. Conditions: each number fits its kind.
-/
import Derived.Test.YtamecbanginjmaaSize
import Derived.Test.YtamecbanginjmaaBits
namespace Go.Proofs.Ytamecbanginjmaa
open Go.RowKit

set_option maxRecDepth 100000 in
set_option maxHeartbeats 2000000 in
theorem sizeInner_walk (c : Int) (cell : Int) (by_ : Int) (w : World) (_wc : (Lit.int .i64 c).wf = true) (_wcell : (Lit.int .i64 cell).wf = true) (_wby_ : (Lit.int .i64 by_).wf = true) :
    Calls Try.prog 11 #[.int .i64 c, .int .i64 cell, .int .i64 by_] w fun e w' => e = .returned (.bool true) ∧ Below w.heap.size w w' := by
  have hb := and_255 c
  have hb2 := and_255 cell
  have hb3 := and_255 by_
  rcases (by omega : c % 256 % 3 = 0 ∨ c % 256 % 3 = 1 ∨ c % 256 % 3 = 2) with hc | hc | hc
  · go_enter Try.func11, Try.ntmps11
    go_wp2_with fail
    refine (fit02 _).mono ?_
    rintro e w' ⟨rfl, rfl⟩
    go_wp2_with fail
    refine (Cells _ _).mono ?_
    rintro e w' ⟨rfl, rfl⟩
    rw [show cellsZ 0 = 16 from rfl]
    go_wp2_with fail
    refine (OffsetYes _ _ _ (by omega) (by rw [show cellsZ 0 = 16 from rfl]; omega)).mono ?_
    rintro e w' ⟨rfl, rfl⟩
    rw [show wordsZ 0 = 2 from rfl]
    go_wp2_with fail
    refine (Words _ _).mono ?_
    rintro e w' ⟨rfl, rfl⟩
    rw [show wordsZ 0 = 2 from rfl]
    go_wp2_with fail
    refine (CellNo _ _ _ (by rw [show wordsZ 0 = 2 from rfl]; omega)).mono ?_
    rintro e w' ⟨rfl, rfl⟩
    go_wp2_with fail
    refine (CellNo _ _ _ (by rw [show wordsZ 0 = 2 from rfl]; omega)).mono ?_
    rintro e w' ⟨rfl, rfl⟩
    go_wp2_with fail
    refine (CellNo _ _ _ (by rw [show wordsZ 0 = 2 from rfl]; omega)).mono ?_
    rintro e w' ⟨rfl, rfl⟩
    go_wp2_with fail
    go_ret
    exact ⟨by first | rfl | (simp; omega), Below.refl _ _⟩
  · go_enter Try.func11, Try.ntmps11
    go_wp2_with fail
    refine (fit02 _).mono ?_
    rintro e w' ⟨rfl, rfl⟩
    go_wp2_with fail
    refine (Cells _ _).mono ?_
    rintro e w' ⟨rfl, rfl⟩
    rw [show cellsZ 1 = 8 from rfl]
    go_wp2_with fail
    refine (OffsetYes _ _ _ (by omega) (by rw [show cellsZ 1 = 8 from rfl]; omega)).mono ?_
    rintro e w' ⟨rfl, rfl⟩
    rw [show wordsZ 1 = 4 from rfl]
    go_wp2_with fail
    refine (Words _ _).mono ?_
    rintro e w' ⟨rfl, rfl⟩
    rw [show wordsZ 1 = 4 from rfl]
    go_wp2_with fail
    refine (CellNo _ _ _ (by rw [show wordsZ 1 = 4 from rfl]; omega)).mono ?_
    rintro e w' ⟨rfl, rfl⟩
    go_wp2_with fail
    refine (CellNo _ _ _ (by rw [show wordsZ 1 = 4 from rfl]; omega)).mono ?_
    rintro e w' ⟨rfl, rfl⟩
    go_wp2_with fail
    refine (CellNo _ _ _ (by rw [show wordsZ 1 = 4 from rfl]; omega)).mono ?_
    rintro e w' ⟨rfl, rfl⟩
    go_wp2_with fail
    go_ret
    exact ⟨by first | rfl | (simp; omega), Below.refl _ _⟩
  · go_enter Try.func11, Try.ntmps11
    go_wp2_with fail
    refine (fit02 _).mono ?_
    rintro e w' ⟨rfl, rfl⟩
    go_wp2_with fail
    refine (Cells _ _).mono ?_
    rintro e w' ⟨rfl, rfl⟩
    rw [show cellsZ 2 = 4 from rfl]
    go_wp2_with fail
    refine (OffsetYes _ _ _ (by omega) (by rw [show cellsZ 2 = 4 from rfl]; omega)).mono ?_
    rintro e w' ⟨rfl, rfl⟩
    rw [show wordsZ 2 = 8 from rfl]
    go_wp2_with fail
    refine (Words _ _).mono ?_
    rintro e w' ⟨rfl, rfl⟩
    rw [show wordsZ 2 = 8 from rfl]
    go_wp2_with fail
    refine (CellNo _ _ _ (by rw [show wordsZ 2 = 8 from rfl]; omega)).mono ?_
    rintro e w' ⟨rfl, rfl⟩
    go_wp2_with fail
    refine (CellNo _ _ _ (by rw [show wordsZ 2 = 8 from rfl]; omega)).mono ?_
    rintro e w' ⟨rfl, rfl⟩
    go_wp2_with fail
    refine (CellNo _ _ _ (by rw [show wordsZ 2 = 8 from rfl]; omega)).mono ?_
    rintro e w' ⟨rfl, rfl⟩
    go_wp2_with fail
    go_ret
    exact ⟨by first | rfl | (simp; omega), Below.refl _ _⟩


end Go.Proofs.Ytamecbanginjmaa
