/-
  Walks of laws of layer 2. Conditions: each number fits its kind.
-/
import Derived.Test.YtamecbanginjmaaSize
import Derived.Test.YtamecbanginjmaaBits
namespace Go.Proofs.Ytamecbanginjmaa
open Go.RowKit

set_option maxRecDepth 100000 in
set_option maxHeartbeats 2000000 in
theorem sizeWhole_walk (n : Int) (w : World) (_wn : (Lit.int .i64 n).wf = true) :
    Calls Try.prog 8 #[.int .i64 n] w fun e w' => e = .returned (.bool true) ∧ Below w.heap.size w w' := by
  have hb := and_255 n
  obtain ⟨c, hc⟩ : ∃ c, n % 256 % 3 = c := ⟨_, rfl⟩
  have hc0 : 0 ≤ c := by omega
  have hc2 : c ≤ 2 := by omega
  go_enter Try.func8, Try.ntmps8
  go_wp2_with fail
  refine (fit02 _).mono ?_
  rintro e w' ⟨rfl, rfl⟩
  go_wp2_with fail
  refine (Cells _ _).mono ?_
  rintro e w' ⟨rfl, rfl⟩
  rw [hc]
  clear hb hc
  have hcw : 0 < cellsZ c ∧ cellsZ c * wordsZ c = 32 := by
    rcases class_cases c with h | rfl | rfl | rfl | h <;> first | omega | decide
  generalize hN : cellsZ c = N at *
  generalize hW : wordsZ c = W at *
  have HN := Lib.hid hN
  have HW := Lib.hid hW
  have HP := Lib.hid hcw.2
  have hN0 := hcw.1
  have hN1 : N ≤ 16 := by rw [← hN]; exact (cells_nonneg c).2
  have hW1 : W ≤ 8 := by rw [← hW]; exact (words_nonneg c).2
  have hW0 : 0 ≤ W := by rw [← hW]; exact (words_nonneg c).1
  clear hN hW hcw
  go_wp2_with fail
  go_loop [4, 17] (fun e v => ∃ k : Int, 0 ≤ k ∧ k ≤ N ∧ v = .int .i64 k ∧ e = .int .i64 (k * W)) (fun _ v => (N - intOf v).toNat)
  case atStart => exact ⟨0, by omega, by omega, rfl, by simp⟩
  case round =>
    obtain ⟨k, hk0, hkN, rfl, rfl⟩ := hrel
    have hm0 : 0 ≤ k * W := Int.mul_nonneg hk0 hW0
    have hm1 : k * W ≤ 16 * 8 := Int.le_trans (Int.mul_le_mul_of_nonneg_right (by omega : k ≤ 16) hW0) (Int.mul_le_mul_of_nonneg_left hW1 (by omega))
    by_cases hlt : k < N
    · go_wp2_with fail
      refine (OffsetYes _ _ _ hk0 (by rw [HN.out]; exact hlt)).mono ?_
      rintro e w' ⟨rfl, rfl⟩
      rw [HW.out]
      go_wp2_with fail
      refine (Words _ _).mono ?_
      rintro e w' ⟨rfl, rfl⟩
      rw [HW.out]
      go_wp2_with fail
      go_round
      case rel => exact ⟨k + 1, by omega, by omega, rfl, by rw [Int.add_mul, Int.one_mul]⟩
      case measure => simp [intOf]; omega
    · obtain rfl : k = N := by omega
      rw [HP.out]
      go_wp2_with fail
      refine (Cells _ _).mono ?_
      rintro e w' ⟨rfl, rfl⟩
      go_wp2_with fail
      refine (OffsetNo _ _ _ (.inr (Int.le_refl _))).mono ?_
      rintro e w' ⟨rfl, rfl⟩
      go_wp2_with fail
      go_ret
      exact ⟨rfl, Below.refl _ _⟩


end Go.Proofs.Ytamecbanginjmaa
