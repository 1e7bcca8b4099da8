/-
  (The part of layer 2 that layers above it use.)
  Contracts of the functions of layer 2 (size). Conditions: as each contract says.
-/
import Derived.Test.YtapbphbnffggnaaRows
import Derived.Test.YtapbphbnffggnaaKit
namespace Go.Proofs.Ytapbphbnffggnaa
set_option linter.unusedVariables false
set_option linter.unusedSimpArgs false
open Go.RowKit

/-- A class's words; 0: there is no such class. -/
def wordsZ (c : Int) : Int := if c = 0 then 2 else if c = 1 then 4 else if c = 2 then 8 else 0
def cellsZ (c : Int) : Int := if c = 0 then 16 else if c = 1 then 8 else if c = 2 then 4 else 0
/-- The class of so many fields. -/
def classZ (n : Int) : Int := if n ≤ 0 then 0 else if n ≤ 2 then 1 else 2

theorem class_cases (c : Int) : c < 0 ∨ c = 0 ∨ c = 1 ∨ c = 2 ∨ 3 ≤ c := by omega
theorem wordsZ_out {c : Int} (h : c < 0 ∨ 3 ≤ c) : wordsZ c = 0 := by unfold wordsZ; rw [if_neg (by omega), if_neg (by omega), if_neg (by omega)]
theorem cellsZ_out {c : Int} (h : c < 0 ∨ 3 ≤ c) : cellsZ c = 0 := by unfold cellsZ; rw [if_neg (by omega), if_neg (by omega), if_neg (by omega)]

theorem Words (c : Int) (w : World) : Calls Try.prog 33 #[.int .i64 c] w fun e w' => e = .returned (.int .i64 (wordsZ c)) ∧ w = w' := by
  rcases class_cases c with h | rfl | rfl | rfl | h
  · rw [wordsZ_out (.inl h)]
    go_enter Try.func33, Try.ntmps33
    go_wp2
    go_ret
    exact ⟨rfl, rfl⟩
  · go_enter Try.func33, Try.ntmps33
    go_wp2
    go_ret
    exact ⟨rfl, rfl⟩
  · go_enter Try.func33, Try.ntmps33
    go_wp2
    go_ret
    exact ⟨rfl, rfl⟩
  · go_enter Try.func33, Try.ntmps33
    go_wp2
    go_ret
    exact ⟨rfl, rfl⟩
  · rw [wordsZ_out (.inr h)]
    go_enter Try.func33, Try.ntmps33
    go_wp2
    go_ret
    exact ⟨rfl, rfl⟩

theorem Cells (c : Int) (w : World) : Calls Try.prog 25 #[.int .i64 c] w fun e w' => e = .returned (.int .i64 (cellsZ c)) ∧ w = w' := by
  rcases class_cases c with h | rfl | rfl | rfl | h
  · rw [cellsZ_out (.inl h)]
    go_enter Try.func25, Try.ntmps25
    go_wp2_with (go_at_call 33; refine (Words _ _).mono ?_; rintro e w' ⟨rfl, rfl⟩; rw [wordsZ_out (.inl h)])
    go_ret
    exact ⟨rfl, rfl⟩
  · go_enter Try.func25, Try.ntmps25
    go_wp2_with (go_at_call 33; refine (Words _ _).mono ?_; rintro e w' ⟨rfl, rfl⟩; rw [show wordsZ 0 = 2 from rfl])
    go_ret
    exact ⟨rfl, rfl⟩
  · go_enter Try.func25, Try.ntmps25
    go_wp2_with (go_at_call 33; refine (Words _ _).mono ?_; rintro e w' ⟨rfl, rfl⟩; rw [show wordsZ 1 = 4 from rfl])
    go_ret
    exact ⟨rfl, rfl⟩
  · go_enter Try.func25, Try.ntmps25
    go_wp2_with (go_at_call 33; refine (Words _ _).mono ?_; rintro e w' ⟨rfl, rfl⟩; rw [show wordsZ 2 = 8 from rfl])
    go_ret
    exact ⟨rfl, rfl⟩
  · rw [cellsZ_out (.inr h)]
    go_enter Try.func25, Try.ntmps25
    go_wp2_with (go_at_call 33; refine (Words _ _).mono ?_; rintro e w' ⟨rfl, rfl⟩; rw [wordsZ_out (.inr h)])
    go_ret
    exact ⟨rfl, rfl⟩

theorem words_nonneg (c : Int) : 0 ≤ wordsZ c ∧ wordsZ c ≤ 8 := by unfold wordsZ; omega
theorem cells_nonneg (c : Int) : 0 ≤ cellsZ c ∧ cellsZ c ≤ 16 := by unfold cellsZ; omega
theorem cells_words (c : Int) (h : 0 < cellsZ c) : cellsZ c * wordsZ c = 32 ∧ 0 ≤ c ∧ c ≤ 2 := by
  rcases class_cases c with h1 | rfl | rfl | rfl | h1
  · rw [cellsZ_out (.inl h1)] at h; omega
  · decide
  · decide
  · decide
  · rw [cellsZ_out (.inr h1)] at h; omega

theorem OffsetNo (c cell : Int) (w : World) (h : cell < 0 ∨ cellsZ c ≤ cell) : Calls Try.prog 61 #[.int .i64 c, .int .i64 cell] w fun e w' => e = .returned (.tuple #[.int .i64 0, .bool false]) ∧ w = w' := by
  have hc := cells_nonneg c
  by_cases h0 : cell < 0
  · go_enter Try.func61, Try.ntmps61
    go_wp2_with (go_at_call 25; refine (Cells _ _).mono ?_; rintro e w' ⟨rfl, rfl⟩)
    go_ret2
    exact ⟨rfl, rfl⟩
  · have h1 : cellsZ c ≤ cell := by omega
    clear h
    go_enter Try.func61, Try.ntmps61
    go_wp2_with (go_at_call 25; refine (Cells _ _).mono ?_; rintro e w' ⟨rfl, rfl⟩)
    go_ret2
    exact ⟨rfl, rfl⟩

theorem OffsetYes (c cell : Int) (w : World) (h0 : 0 ≤ cell) (h1 : cell < cellsZ c) : Calls Try.prog 61 #[.int .i64 c, .int .i64 cell] w fun e w' => e = .returned (.tuple #[.int .i64 (cell * wordsZ c), .bool true]) ∧ w = w' := by
  have hc := cells_nonneg c
  have hw := words_nonneg c
  have hm : 0 ≤ cell * wordsZ c := Int.mul_nonneg h0 hw.1
  have hm2 : cell * wordsZ c ≤ 16 * 8 := Int.le_trans (Int.mul_le_mul_of_nonneg_right (by omega : cell ≤ 16) hw.1) (Int.mul_le_mul_of_nonneg_left hw.2 (by omega))
  go_enter Try.func61, Try.ntmps61
  go_wp2_with (first | (go_at_call 25; refine (Cells _ _).mono ?_; rintro e w' ⟨rfl, rfl⟩) | (go_at_call 33; refine (Words _ _).mono ?_; rintro e w' ⟨rfl, rfl⟩))
  go_ret2
  exact ⟨rfl, rfl⟩

end Go.Proofs.Ytapbphbnffggnaa
