/-
  Walks of laws of layer 2. Conditions: each number fits its kind.
-/
import Derived.Test.YtamecbanginjmaaSize
namespace Go.Proofs.Ytamecbanginjmaa
open Go.RowKit

set_option maxRecDepth 100000 in
set_option maxHeartbeats 2000000 in
theorem sizeCells_0 (c : Int) (cell : Int) (offset : Int) (w : World) (_wc : (Lit.int .i64 c).wf = true) (_wcell : (Lit.int .i64 cell).wf = true) (_woffset : (Lit.int .i64 offset).wf = true) (hc : c = 0) :
    Calls Try.prog 9 #[.int .i64 c, .int .i64 cell, .int .i64 offset] w fun e w' => e = .returned (.bool true) ∧ Below w.heap.size w w' := by
  subst hc
  have hcell : cell < 0 ∨ 16 ≤ cell ∨ (0 ≤ cell ∧ cell < 16) := by omega
  have hoff : offset < 0 ∨ 32 ≤ offset ∨ ((0 ≤ offset ∧ offset < 32) ∧ (offset % 2 == 0) = false) ∨ ((0 ≤ offset ∧ offset < 32) ∧ (offset % 2 == 0) = true) := by simp only [beq_eq_false_iff_ne, beq_iff_eq]; omega
  rcases hcell with h1 | h1 | ⟨h1, h1'⟩ <;> rcases hoff with h2 | h2 | ⟨⟨h2, h2'⟩, h3⟩ | ⟨⟨h2, h2'⟩, h3⟩
  · go_enter Try.func9, Try.ntmps9
    go_wp2_with fail
    refine (fit02 _).mono ?_
    rintro e w' ⟨rfl, rfl⟩
    go_wp2_with fail
    refine (Words _ _).mono ?_
    rintro e w' ⟨rfl, rfl⟩
    rw [show wordsZ 0 = 2 from rfl]
    go_wp2_with fail
    refine (Cells _ _).mono ?_
    rintro e w' ⟨rfl, rfl⟩
    rw [show cellsZ 0 = 16 from rfl]
    go_wp2_with fail
    refine (OffsetNo _ _ _ (by rw [show cellsZ 0 = 16 from rfl]; omega)).mono ?_
    rintro e w' ⟨rfl, rfl⟩
    go_wp2_with fail
    refine (CellNo _ _ _ (by rw [show wordsZ 0 = 2 from rfl]; omega)).mono ?_
    rintro e w' ⟨rfl, rfl⟩
    go_wp2_with fail
    go_ret
    exact ⟨by first | rfl | (simp; omega), Below.refl _ _⟩
  · go_enter Try.func9, Try.ntmps9
    go_wp2_with fail
    refine (fit02 _).mono ?_
    rintro e w' ⟨rfl, rfl⟩
    go_wp2_with fail
    refine (Words _ _).mono ?_
    rintro e w' ⟨rfl, rfl⟩
    rw [show wordsZ 0 = 2 from rfl]
    go_wp2_with fail
    refine (Cells _ _).mono ?_
    rintro e w' ⟨rfl, rfl⟩
    rw [show cellsZ 0 = 16 from rfl]
    go_wp2_with fail
    refine (OffsetNo _ _ _ (by rw [show cellsZ 0 = 16 from rfl]; omega)).mono ?_
    rintro e w' ⟨rfl, rfl⟩
    go_wp2_with fail
    refine (CellNo _ _ _ (by rw [show wordsZ 0 = 2 from rfl]; omega)).mono ?_
    rintro e w' ⟨rfl, rfl⟩
    go_wp2_with fail
    go_ret
    exact ⟨by first | rfl | (simp; omega), Below.refl _ _⟩
  · have h4 : ¬ offset % 2 = 0 := by simpa using h3
    have H4 := Lib.hid h4
    clear h4
    go_enter Try.func9, Try.ntmps9
    go_wp2_with fail
    refine (fit02 _).mono ?_
    rintro e w' ⟨rfl, rfl⟩
    go_wp2_with fail
    refine (Words _ _).mono ?_
    rintro e w' ⟨rfl, rfl⟩
    rw [show wordsZ 0 = 2 from rfl]
    go_wp2_with fail
    refine (Cells _ _).mono ?_
    rintro e w' ⟨rfl, rfl⟩
    rw [show cellsZ 0 = 16 from rfl]
    go_wp2_with fail
    refine (OffsetNo _ _ _ (by rw [show cellsZ 0 = 16 from rfl]; omega)).mono ?_
    rintro e w' ⟨rfl, rfl⟩
    go_wp2_with fail
    refine (CellNo _ _ _ (by rw [show wordsZ 0 = 2 from rfl]; have := H4.out; omega)).mono ?_
    rintro e w' ⟨rfl, rfl⟩
    go_wp2_with fail
    go_ret
    exact ⟨by first | rfl | (simp; omega), Below.refl _ _⟩
  · have h4 : offset % 2 = 0 := by simpa using h3
    have H4 := Lib.hid h4
    clear h4
    go_enter Try.func9, Try.ntmps9
    go_wp2_with fail
    refine (fit02 _).mono ?_
    rintro e w' ⟨rfl, rfl⟩
    go_wp2_with fail
    refine (Words _ _).mono ?_
    rintro e w' ⟨rfl, rfl⟩
    rw [show wordsZ 0 = 2 from rfl]
    go_wp2_with fail
    refine (Cells _ _).mono ?_
    rintro e w' ⟨rfl, rfl⟩
    rw [show cellsZ 0 = 16 from rfl]
    go_wp2_with fail
    refine (OffsetNo _ _ _ (by rw [show cellsZ 0 = 16 from rfl]; omega)).mono ?_
    rintro e w' ⟨rfl, rfl⟩
    go_wp2_with fail
    refine (CellYes _ _ _ (by rw [show wordsZ 0 = 2 from rfl]; omega) (by omega) (by omega) (by rw [show wordsZ 0 = 2 from rfl]; have := H4.out; omega)).mono ?_
    rintro e w' ⟨rfl, rfl⟩
    rw [show wordsZ 0 = 2 from rfl]
    go_wp2_with fail
    go_ret
    exact ⟨by first | rfl | (simp; omega), Below.refl _ _⟩
  · go_enter Try.func9, Try.ntmps9
    go_wp2_with fail
    refine (fit02 _).mono ?_
    rintro e w' ⟨rfl, rfl⟩
    go_wp2_with fail
    refine (Words _ _).mono ?_
    rintro e w' ⟨rfl, rfl⟩
    rw [show wordsZ 0 = 2 from rfl]
    go_wp2_with fail
    refine (Cells _ _).mono ?_
    rintro e w' ⟨rfl, rfl⟩
    rw [show cellsZ 0 = 16 from rfl]
    go_wp2_with fail
    refine (OffsetNo _ _ _ (by rw [show cellsZ 0 = 16 from rfl]; omega)).mono ?_
    rintro e w' ⟨rfl, rfl⟩
    go_wp2_with fail
    refine (CellNo _ _ _ (by rw [show wordsZ 0 = 2 from rfl]; omega)).mono ?_
    rintro e w' ⟨rfl, rfl⟩
    go_wp2_with fail
    go_ret
    exact ⟨by first | rfl | (simp; omega), Below.refl _ _⟩
  · go_enter Try.func9, Try.ntmps9
    go_wp2_with fail
    refine (fit02 _).mono ?_
    rintro e w' ⟨rfl, rfl⟩
    go_wp2_with fail
    refine (Words _ _).mono ?_
    rintro e w' ⟨rfl, rfl⟩
    rw [show wordsZ 0 = 2 from rfl]
    go_wp2_with fail
    refine (Cells _ _).mono ?_
    rintro e w' ⟨rfl, rfl⟩
    rw [show cellsZ 0 = 16 from rfl]
    go_wp2_with fail
    refine (OffsetNo _ _ _ (by rw [show cellsZ 0 = 16 from rfl]; omega)).mono ?_
    rintro e w' ⟨rfl, rfl⟩
    go_wp2_with fail
    refine (CellNo _ _ _ (by rw [show wordsZ 0 = 2 from rfl]; omega)).mono ?_
    rintro e w' ⟨rfl, rfl⟩
    go_wp2_with fail
    go_ret
    exact ⟨by first | rfl | (simp; omega), Below.refl _ _⟩
  · have h4 : ¬ offset % 2 = 0 := by simpa using h3
    have H4 := Lib.hid h4
    clear h4
    go_enter Try.func9, Try.ntmps9
    go_wp2_with fail
    refine (fit02 _).mono ?_
    rintro e w' ⟨rfl, rfl⟩
    go_wp2_with fail
    refine (Words _ _).mono ?_
    rintro e w' ⟨rfl, rfl⟩
    rw [show wordsZ 0 = 2 from rfl]
    go_wp2_with fail
    refine (Cells _ _).mono ?_
    rintro e w' ⟨rfl, rfl⟩
    rw [show cellsZ 0 = 16 from rfl]
    go_wp2_with fail
    refine (OffsetNo _ _ _ (by rw [show cellsZ 0 = 16 from rfl]; omega)).mono ?_
    rintro e w' ⟨rfl, rfl⟩
    go_wp2_with fail
    refine (CellNo _ _ _ (by rw [show wordsZ 0 = 2 from rfl]; have := H4.out; omega)).mono ?_
    rintro e w' ⟨rfl, rfl⟩
    go_wp2_with fail
    go_ret
    exact ⟨by first | rfl | (simp; omega), Below.refl _ _⟩
  · have h4 : offset % 2 = 0 := by simpa using h3
    have H4 := Lib.hid h4
    clear h4
    go_enter Try.func9, Try.ntmps9
    go_wp2_with fail
    refine (fit02 _).mono ?_
    rintro e w' ⟨rfl, rfl⟩
    go_wp2_with fail
    refine (Words _ _).mono ?_
    rintro e w' ⟨rfl, rfl⟩
    rw [show wordsZ 0 = 2 from rfl]
    go_wp2_with fail
    refine (Cells _ _).mono ?_
    rintro e w' ⟨rfl, rfl⟩
    rw [show cellsZ 0 = 16 from rfl]
    go_wp2_with fail
    refine (OffsetNo _ _ _ (by rw [show cellsZ 0 = 16 from rfl]; omega)).mono ?_
    rintro e w' ⟨rfl, rfl⟩
    go_wp2_with fail
    refine (CellYes _ _ _ (by rw [show wordsZ 0 = 2 from rfl]; omega) (by omega) (by omega) (by rw [show wordsZ 0 = 2 from rfl]; have := H4.out; omega)).mono ?_
    rintro e w' ⟨rfl, rfl⟩
    rw [show wordsZ 0 = 2 from rfl]
    go_wp2_with fail
    go_ret
    exact ⟨by first | rfl | (simp; omega), Below.refl _ _⟩
  · go_enter Try.func9, Try.ntmps9
    go_wp2_with fail
    refine (fit02 _).mono ?_
    rintro e w' ⟨rfl, rfl⟩
    go_wp2_with fail
    refine (Words _ _).mono ?_
    rintro e w' ⟨rfl, rfl⟩
    rw [show wordsZ 0 = 2 from rfl]
    go_wp2_with fail
    refine (Cells _ _).mono ?_
    rintro e w' ⟨rfl, rfl⟩
    rw [show cellsZ 0 = 16 from rfl]
    go_wp2_with fail
    refine (OffsetYes _ _ _ (by omega) (by rw [show cellsZ 0 = 16 from rfl]; omega)).mono ?_
    rintro e w' ⟨rfl, rfl⟩
    rw [show wordsZ 0 = 2 from rfl]
    go_wp2_with fail
    refine (CellNo _ _ _ (by rw [show wordsZ 0 = 2 from rfl]; omega)).mono ?_
    rintro e w' ⟨rfl, rfl⟩
    go_wp2_with fail
    refine (CellYes _ _ _ (by rw [show wordsZ 0 = 2 from rfl]; omega) (by omega) (by omega) (by rw [show wordsZ 0 = 2 from rfl]; omega)).mono ?_
    rintro e w' ⟨rfl, rfl⟩
    rw [show wordsZ 0 = 2 from rfl]
    have hback : (cell * 2 / 2 == cell) = true := by rw [beq_iff_eq]; omega
    go_wp2_with fail
    go_ret
    exact ⟨by first | rfl | (simp; omega), Below.refl _ _⟩
  · go_enter Try.func9, Try.ntmps9
    go_wp2_with fail
    refine (fit02 _).mono ?_
    rintro e w' ⟨rfl, rfl⟩
    go_wp2_with fail
    refine (Words _ _).mono ?_
    rintro e w' ⟨rfl, rfl⟩
    rw [show wordsZ 0 = 2 from rfl]
    go_wp2_with fail
    refine (Cells _ _).mono ?_
    rintro e w' ⟨rfl, rfl⟩
    rw [show cellsZ 0 = 16 from rfl]
    go_wp2_with fail
    refine (OffsetYes _ _ _ (by omega) (by rw [show cellsZ 0 = 16 from rfl]; omega)).mono ?_
    rintro e w' ⟨rfl, rfl⟩
    rw [show wordsZ 0 = 2 from rfl]
    go_wp2_with fail
    refine (CellNo _ _ _ (by rw [show wordsZ 0 = 2 from rfl]; omega)).mono ?_
    rintro e w' ⟨rfl, rfl⟩
    go_wp2_with fail
    refine (CellYes _ _ _ (by rw [show wordsZ 0 = 2 from rfl]; omega) (by omega) (by omega) (by rw [show wordsZ 0 = 2 from rfl]; omega)).mono ?_
    rintro e w' ⟨rfl, rfl⟩
    rw [show wordsZ 0 = 2 from rfl]
    have hback : (cell * 2 / 2 == cell) = true := by rw [beq_iff_eq]; omega
    go_wp2_with fail
    go_ret
    exact ⟨by first | rfl | (simp; omega), Below.refl _ _⟩
  · have h4 : ¬ offset % 2 = 0 := by simpa using h3
    have H4 := Lib.hid h4
    clear h4
    go_enter Try.func9, Try.ntmps9
    go_wp2_with fail
    refine (fit02 _).mono ?_
    rintro e w' ⟨rfl, rfl⟩
    go_wp2_with fail
    refine (Words _ _).mono ?_
    rintro e w' ⟨rfl, rfl⟩
    rw [show wordsZ 0 = 2 from rfl]
    go_wp2_with fail
    refine (Cells _ _).mono ?_
    rintro e w' ⟨rfl, rfl⟩
    rw [show cellsZ 0 = 16 from rfl]
    go_wp2_with fail
    refine (OffsetYes _ _ _ (by omega) (by rw [show cellsZ 0 = 16 from rfl]; omega)).mono ?_
    rintro e w' ⟨rfl, rfl⟩
    rw [show wordsZ 0 = 2 from rfl]
    go_wp2_with fail
    refine (CellNo _ _ _ (by rw [show wordsZ 0 = 2 from rfl]; have := H4.out; omega)).mono ?_
    rintro e w' ⟨rfl, rfl⟩
    go_wp2_with fail
    refine (CellYes _ _ _ (by rw [show wordsZ 0 = 2 from rfl]; omega) (by omega) (by omega) (by rw [show wordsZ 0 = 2 from rfl]; have := H4.out; omega)).mono ?_
    rintro e w' ⟨rfl, rfl⟩
    rw [show wordsZ 0 = 2 from rfl]
    have hback : (cell * 2 / 2 == cell) = true := by rw [beq_iff_eq]; omega
    go_wp2_with fail
    go_ret
    exact ⟨by first | rfl | (simp; omega), Below.refl _ _⟩
  · have h4 : offset % 2 = 0 := by simpa using h3
    have H4 := Lib.hid h4
    clear h4
    go_enter Try.func9, Try.ntmps9
    go_wp2_with fail
    refine (fit02 _).mono ?_
    rintro e w' ⟨rfl, rfl⟩
    go_wp2_with fail
    refine (Words _ _).mono ?_
    rintro e w' ⟨rfl, rfl⟩
    rw [show wordsZ 0 = 2 from rfl]
    go_wp2_with fail
    refine (Cells _ _).mono ?_
    rintro e w' ⟨rfl, rfl⟩
    rw [show cellsZ 0 = 16 from rfl]
    go_wp2_with fail
    refine (OffsetYes _ _ _ (by omega) (by rw [show cellsZ 0 = 16 from rfl]; omega)).mono ?_
    rintro e w' ⟨rfl, rfl⟩
    rw [show wordsZ 0 = 2 from rfl]
    go_wp2_with fail
    refine (CellYes _ _ _ (by rw [show wordsZ 0 = 2 from rfl]; omega) (by omega) (by omega) (by rw [show wordsZ 0 = 2 from rfl]; have := H4.out; omega)).mono ?_
    rintro e w' ⟨rfl, rfl⟩
    rw [show wordsZ 0 = 2 from rfl]
    go_wp2_with fail
    refine (CellYes _ _ _ (by rw [show wordsZ 0 = 2 from rfl]; omega) (by omega) (by omega) (by rw [show wordsZ 0 = 2 from rfl]; have := H4.out; omega)).mono ?_
    rintro e w' ⟨rfl, rfl⟩
    rw [show wordsZ 0 = 2 from rfl]
    have hback : (cell * 2 / 2 == cell) = true := by rw [beq_iff_eq]; omega
    go_wp2_with fail
    go_ret
    exact ⟨by first | rfl | (simp; omega), Below.refl _ _⟩


end Go.Proofs.Ytamecbanginjmaa
