/-
  Contracts of the functions of layer 2 (size). Conditions: as each contract says.
-/
import Derived.Test.YtamecbanginjmaaRows
import Derived.Test.YtamecbanginjmaaKit
namespace Go.Proofs.Ytamecbanginjmaa
open Go.RowKit

/-- A class's words; 0: there is no such class. -/
def wordsZ (c : Int) : Int := if c = 0 then 2 else if c = 1 then 4 else if c = 2 then 8 else 0
def cellsZ (c : Int) : Int := if c = 0 then 16 else if c = 1 then 8 else if c = 2 then 4 else 0
/-- The class of so many fields. -/
def classZ (n : Int) : Int := if n ≤ 0 then 0 else if n ≤ 2 then 1 else 2

theorem class_cases (c : Int) : c < 0 ∨ c = 0 ∨ c = 1 ∨ c = 2 ∨ 3 ≤ c := by omega
theorem wordsZ_out {c : Int} (h : c < 0 ∨ 3 ≤ c) : wordsZ c = 0 := by unfold wordsZ; rw [if_neg (by omega), if_neg (by omega), if_neg (by omega)]
theorem cellsZ_out {c : Int} (h : c < 0 ∨ 3 ≤ c) : cellsZ c = 0 := by unfold cellsZ; rw [if_neg (by omega), if_neg (by omega), if_neg (by omega)]

theorem Words (c : Int) (w : World) : Calls Try.prog 29 #[.int .i64 c] w fun e w' => e = .returned (.int .i64 (wordsZ c)) ∧ w = w' := by
  rcases class_cases c with h | rfl | rfl | rfl | h
  · rw [wordsZ_out (.inl h)]
    go_enter Try.func29, Try.ntmps29
    go_wp2
    go_ret
    exact ⟨rfl, rfl⟩
  · go_enter Try.func29, Try.ntmps29
    go_wp2
    go_ret
    exact ⟨rfl, rfl⟩
  · go_enter Try.func29, Try.ntmps29
    go_wp2
    go_ret
    exact ⟨rfl, rfl⟩
  · go_enter Try.func29, Try.ntmps29
    go_wp2
    go_ret
    exact ⟨rfl, rfl⟩
  · rw [wordsZ_out (.inr h)]
    go_enter Try.func29, Try.ntmps29
    go_wp2
    go_ret
    exact ⟨rfl, rfl⟩

theorem Cells (c : Int) (w : World) : Calls Try.prog 30 #[.int .i64 c] w fun e w' => e = .returned (.int .i64 (cellsZ c)) ∧ w = w' := by
  rcases class_cases c with h | rfl | rfl | rfl | h
  · rw [cellsZ_out (.inl h)]
    go_enter Try.func30, Try.ntmps30
    go_wp2_with (go_at_call 29; refine (Words _ _).mono ?_; rintro e w' ⟨rfl, rfl⟩; rw [wordsZ_out (.inl h)])
    go_ret
    exact ⟨rfl, rfl⟩
  · go_enter Try.func30, Try.ntmps30
    go_wp2_with (go_at_call 29; refine (Words _ _).mono ?_; rintro e w' ⟨rfl, rfl⟩; rw [show wordsZ 0 = 2 from rfl])
    go_ret
    exact ⟨rfl, rfl⟩
  · go_enter Try.func30, Try.ntmps30
    go_wp2_with (go_at_call 29; refine (Words _ _).mono ?_; rintro e w' ⟨rfl, rfl⟩; rw [show wordsZ 1 = 4 from rfl])
    go_ret
    exact ⟨rfl, rfl⟩
  · go_enter Try.func30, Try.ntmps30
    go_wp2_with (go_at_call 29; refine (Words _ _).mono ?_; rintro e w' ⟨rfl, rfl⟩; rw [show wordsZ 2 = 8 from rfl])
    go_ret
    exact ⟨rfl, rfl⟩
  · rw [cellsZ_out (.inr h)]
    go_enter Try.func30, Try.ntmps30
    go_wp2_with (go_at_call 29; refine (Words _ _).mono ?_; rintro e w' ⟨rfl, rfl⟩; rw [wordsZ_out (.inr h)])
    go_ret
    exact ⟨rfl, rfl⟩

theorem words_nonneg (c : Int) : 0 ≤ wordsZ c ∧ wordsZ c ≤ 8 := by unfold wordsZ; omega
theorem cells_nonneg (c : Int) : 0 ≤ cellsZ c ∧ cellsZ c ≤ 16 := by unfold cellsZ; omega
theorem cells_words (c : Int) (h : 0 < cellsZ c) : cellsZ c * wordsZ c = 32 ∧ 0 ≤ c ∧ c ≤ 2 := by
  rcases class_cases c with h1 | rfl | rfl | rfl | h1
  · rw [cellsZ_out (.inl h1)] at h; omega
  · decide
  · decide
  · decide
  · rw [cellsZ_out (.inr h1)] at h; omega

theorem OffsetNo (c cell : Int) (w : World) (h : cell < 0 ∨ cellsZ c ≤ cell) : Calls Try.prog 31 #[.int .i64 c, .int .i64 cell] w fun e w' => e = .returned (.tuple #[.int .i64 0, .bool false]) ∧ w = w' := by
  have hc := cells_nonneg c
  by_cases h0 : cell < 0
  · go_enter Try.func31, Try.ntmps31
    go_wp2_with (go_at_call 30; refine (Cells _ _).mono ?_; rintro e w' ⟨rfl, rfl⟩)
    go_ret2
    exact ⟨rfl, rfl⟩
  · have h1 : cellsZ c ≤ cell := by omega
    clear h
    go_enter Try.func31, Try.ntmps31
    go_wp2_with (go_at_call 30; refine (Cells _ _).mono ?_; rintro e w' ⟨rfl, rfl⟩)
    go_ret2
    exact ⟨rfl, rfl⟩

theorem OffsetYes (c cell : Int) (w : World) (h0 : 0 ≤ cell) (h1 : cell < cellsZ c) : Calls Try.prog 31 #[.int .i64 c, .int .i64 cell] w fun e w' => e = .returned (.tuple #[.int .i64 (cell * wordsZ c), .bool true]) ∧ w = w' := by
  have hc := cells_nonneg c
  have hw := words_nonneg c
  have hm : 0 ≤ cell * wordsZ c := Int.mul_nonneg h0 hw.1
  have hm2 : cell * wordsZ c ≤ 16 * 8 := Int.le_trans (Int.mul_le_mul_of_nonneg_right (by omega : cell ≤ 16) hw.1) (Int.mul_le_mul_of_nonneg_left hw.2 (by omega))
  go_enter Try.func31, Try.ntmps31
  go_wp2_with (first | (go_at_call 30; refine (Cells _ _).mono ?_; rintro e w' ⟨rfl, rfl⟩) | (go_at_call 29; refine (Words _ _).mono ?_; rintro e w' ⟨rfl, rfl⟩))
  go_ret2
  exact ⟨rfl, rfl⟩

theorem CellNo (c off : Int) (w : World) (h : wordsZ c = 0 ∨ off < 0 ∨ 32 ≤ off ∨ off % wordsZ c ≠ 0) : Calls Try.prog 32 #[.int .i64 c, .int .i64 off] w fun e w' => e = .returned (.tuple #[.int .i64 0, .bool false]) ∧ w = w' := by
  have hw := words_nonneg c
  by_cases h1 : wordsZ c = 0
  · have H := Lib.hid h1
    clear h1 h hw
    go_enter Try.func32, Try.ntmps32
    go_wp2_with (go_at_call 29; refine (Words _ _).mono ?_; rintro e w' ⟨rfl, rfl⟩; rw [H.out])
    go_ret2
    exact ⟨rfl, rfl⟩
  · generalize hW : wordsZ c = W at *
    have H := Lib.hid hW
    clear hW
    have h0 : (W == 0) = false := by simpa using h1
    by_cases h2 : off < 0
    · clear h
      go_enter Try.func32, Try.ntmps32
      go_wp2_with (go_at_call 29; refine (Words _ _).mono ?_; rintro e w' ⟨rfl, rfl⟩; rw [H.out])
      go_ret2
      exact ⟨rfl, rfl⟩
    · by_cases h3 : 32 ≤ off
      · clear h
        go_enter Try.func32, Try.ntmps32
        go_wp2_with (go_at_call 29; refine (Words _ _).mono ?_; rintro e w' ⟨rfl, rfl⟩; rw [H.out])
        go_ret2
        exact ⟨rfl, rfl⟩
      · have h4 : (off % W != 0) = true := by simp; omega
        have h8 : 0 < W := by omega
        clear h h1
        go_enter Try.func32, Try.ntmps32
        go_wp2_with (go_at_call 29; refine (Words _ _).mono ?_; rintro e w' ⟨rfl, rfl⟩; rw [H.out])
        go_ret2
        exact ⟨rfl, rfl⟩

theorem CellYes (c off : Int) (w : World) (h : 0 < wordsZ c) (h2 : 0 ≤ off) (h3 : off < 32) (h4 : off % wordsZ c = 0) : Calls Try.prog 32 #[.int .i64 c, .int .i64 off] w fun e w' => e = .returned (.tuple #[.int .i64 (off / wordsZ c), .bool true]) ∧ w = w' := by
  generalize hW : wordsZ c = W at *
  have H := Lib.hid hW
  clear hW
  have h0 : (W == 0) = false := by simp; omega
  have h5 : (off % W != 0) = false := by simp; omega
  have h6 : off / W ≤ off := Int.ediv_le_self _ h2
  have h7 : 0 ≤ off / W := Int.ediv_nonneg h2 (by omega)
  clear h4
  go_enter Try.func32, Try.ntmps32
  go_wp2_with (go_at_call 29; refine (Words _ _).mono ?_; rintro e w' ⟨rfl, rfl⟩; rw [H.out])
  go_ret2
  exact ⟨rfl, rfl⟩

theorem ClassNo (n : Int) (w : World) (h : n < 0 ∨ 6 < n) : Calls Try.prog 28 #[.int .i64 n] w fun e w' => e = .returned (.tuple #[.int .i64 0, .bool false]) ∧ w = w' := by
  by_cases h1 : n < 0
  · go_enter Try.func28, Try.ntmps28
    go_wp2
    go_ret2
    exact ⟨rfl, rfl⟩
  · have h2 : 6 < n := by omega
    clear h
    go_enter Try.func28, Try.ntmps28
    go_wp2
    go_ret2
    exact ⟨rfl, rfl⟩

theorem class_room (n : Int) (h0 : 0 ≤ n) (h6 : n ≤ 6) : 2 + n ≤ wordsZ (classZ n) ∧ 0 ≤ classZ n ∧ classZ n ≤ 2 ∧ ∀ c, 0 ≤ c → c < classZ n → wordsZ c < 2 + n := by
  unfold classZ wordsZ
  refine ⟨by omega, by omega, by omega, fun c h1 h2 => by omega⟩

theorem ClassYes (n : Int) (w : World) (h0 : 0 ≤ n) (h6 : n ≤ 6) : Calls Try.prog 28 #[.int .i64 n] w fun e w' => e = .returned (.tuple #[.int .i64 (classZ n), .bool true]) ∧ w = w' := by
  obtain ⟨hr, hc0, hc2, hl⟩ := class_room n h0 h6
  generalize hC : classZ n = C at *
  clear hC
  have HL := Lib.hid hl
  clear hl
  go_enter Try.func28, Try.ntmps28
  go_wp2
  go_loop [4] (fun v => ∃ c : Int, 0 ≤ c ∧ c ≤ C ∧ v = .int .i64 c) (fun v => (C - intOf v).toNat)
  case atStart => exact ⟨0, by omega, by omega, rfl⟩
  case round =>
    obtain ⟨c, hcc, hcC, rfl⟩ := hrel
    by_cases hlt : c < C
    · have h2 := HL.out c hcc hlt
      generalize hW : wordsZ c = W at *
      have H := Lib.hid hW
      clear hW
      go_wp2_with (go_at_call 29; refine (Words _ _).mono ?_; rintro e w' ⟨rfl, rfl⟩; rw [H.out])
      go_round
      case rel => exact ⟨c + 1, by omega, by omega, rfl⟩
      case measure => simp [intOf]; omega
    · obtain rfl : c = C := by omega
      generalize hW : wordsZ c = W at *
      have H := Lib.hid hW
      clear hW
      go_wp2_with (go_at_call 29; refine (Words _ _).mono ?_; rintro e w' ⟨rfl, rfl⟩; rw [H.out])
      go_ret2
      exact ⟨rfl, rfl⟩

theorem fit02 (w : World) : Calls Try.prog 27 #[] w fun e w' => e = .returned (.bool true) ∧ w = w' := by
  go_enter Try.func27, Try.ntmps27
  go_wp2_with fail
  refine (ClassYes _ _ (by decide) (by decide)).mono ?_
  rintro e w' ⟨rfl, rfl⟩
  rw [show classZ 2 = 1 from rfl]
  go_wp2_with fail
  refine (Words _ _).mono ?_
  rintro e w' ⟨rfl, rfl⟩
  rw [show wordsZ 1 = 4 from rfl]
  go_wp2_with fail
  refine (Cells _ _).mono ?_
  rintro e w' ⟨rfl, rfl⟩
  rw [show cellsZ 1 = 8 from rfl]
  go_wp2_with fail
  go_ret
  exact ⟨rfl, rfl⟩

end Go.Proofs.Ytamecbanginjmaa
