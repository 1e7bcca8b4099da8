/-
  Walks of laws of layer 2. Conditions: each number fits its kind.
-/
import Derived.Test.YtamecbanginjmaaSize
import Derived.Test.YtamecbanginjmaaBits
namespace Go.Proofs.Ytamecbanginjmaa
open Go.RowKit

set_option maxRecDepth 100000 in
set_option maxHeartbeats 2000000 in
theorem sizeNone_walk (c : Int) (n : Int) (w : World) (_wc : (Lit.int .i64 c).wf = true) (_wn : (Lit.int .i64 n).wf = true) :
    Calls Try.prog 12 #[.int .i64 c, .int .i64 n] w fun e w' => e = .returned (.bool true) ∧ Below w.heap.size w w' := by
  have hb := and_65535 n
  have key : ∀ c : Int, c < 0 ∨ 3 ≤ c → Hid (wordsZ c = 0) ∧ Hid (cellsZ c = 0) := fun c h => ⟨wordsZ_out h, cellsZ_out h⟩
  have HK := Lib.hid key
  clear key
  rcases (by omega : c < 0 ∨ 3 ≤ c ∨ c = 0 ∨ c = 1 ∨ c = 2) with hc | hc | rfl | rfl | rfl
  · obtain ⟨HW, HC2⟩ := HK.out (c) (by omega)
    have HC : Hid (0 ≤ n ∨ n < 0 ) := Lib.hid (by omega)
    clear HC
    go_enter Try.func12, Try.ntmps12
    go_wp2_with fail
    refine (fit02 _).mono ?_
    rintro e w' ⟨rfl, rfl⟩
    go_wp2_with fail
    refine (OffsetNo _ _ _ (by rw [HC2.out]; omega)).mono ?_
    rintro e w' ⟨rfl, rfl⟩
    go_wp2_with fail
    refine (CellNo _ _ _ (.inl HW.out)).mono ?_
    rintro e w' ⟨rfl, rfl⟩
    go_wp2_with fail
    refine (OffsetNo _ _ _ (by right; rw [show cellsZ 1 = 8 from rfl]; omega)).mono ?_
    rintro e w' ⟨rfl, rfl⟩
    go_wp2_with fail
    refine (ClassNo _ _ (by omega)).mono ?_
    rintro e w' ⟨rfl, rfl⟩
    go_wp2_with fail
    refine (Words _ _).mono ?_
    rintro e w' ⟨rfl, rfl⟩
    rw [HW.out]
    go_wp2_with fail
    refine (Cells _ _).mono ?_
    rintro e w' ⟨rfl, rfl⟩
    rw [HC2.out]
    go_wp2_with fail
    go_ret
    exact ⟨by first | rfl | (simp; omega), Below.refl _ _⟩
  · obtain ⟨HW, HC2⟩ := HK.out (c) (by omega)
    have HC : Hid (0 ≤ n ∨ n < 0 ) := Lib.hid (by omega)
    clear HC
    go_enter Try.func12, Try.ntmps12
    go_wp2_with fail
    refine (fit02 _).mono ?_
    rintro e w' ⟨rfl, rfl⟩
    go_wp2_with fail
    refine (OffsetNo _ _ _ (by rw [HC2.out]; omega)).mono ?_
    rintro e w' ⟨rfl, rfl⟩
    go_wp2_with fail
    refine (CellNo _ _ _ (.inl HW.out)).mono ?_
    rintro e w' ⟨rfl, rfl⟩
    go_wp2_with fail
    refine (OffsetNo _ _ _ (by right; rw [show cellsZ 1 = 8 from rfl]; omega)).mono ?_
    rintro e w' ⟨rfl, rfl⟩
    go_wp2_with fail
    refine (ClassNo _ _ (by omega)).mono ?_
    rintro e w' ⟨rfl, rfl⟩
    go_wp2_with fail
    refine (Words _ _).mono ?_
    rintro e w' ⟨rfl, rfl⟩
    rw [HW.out]
    go_wp2_with fail
    refine (Cells _ _).mono ?_
    rintro e w' ⟨rfl, rfl⟩
    rw [HC2.out]
    go_wp2_with fail
    go_ret
    exact ⟨by first | rfl | (simp; omega), Below.refl _ _⟩
  · obtain ⟨HW, HC2⟩ := HK.out (3) (by omega)
    have HC : Hid (0 ≤ n ∨ n < 0 ) := Lib.hid (by omega)
    clear HC
    go_enter Try.func12, Try.ntmps12
    go_wp2_with fail
    refine (fit02 _).mono ?_
    rintro e w' ⟨rfl, rfl⟩
    go_wp2_with fail
    refine (OffsetNo _ _ _ (by rw [HC2.out]; omega)).mono ?_
    rintro e w' ⟨rfl, rfl⟩
    go_wp2_with fail
    refine (CellNo _ _ _ (.inl HW.out)).mono ?_
    rintro e w' ⟨rfl, rfl⟩
    go_wp2_with fail
    refine (OffsetNo _ _ _ (by right; rw [show cellsZ 1 = 8 from rfl]; omega)).mono ?_
    rintro e w' ⟨rfl, rfl⟩
    go_wp2_with fail
    refine (ClassNo _ _ (by omega)).mono ?_
    rintro e w' ⟨rfl, rfl⟩
    go_wp2_with fail
    refine (Words _ _).mono ?_
    rintro e w' ⟨rfl, rfl⟩
    rw [HW.out]
    go_wp2_with fail
    refine (Cells _ _).mono ?_
    rintro e w' ⟨rfl, rfl⟩
    rw [HC2.out]
    go_wp2_with fail
    go_ret
    exact ⟨by first | rfl | (simp; omega), Below.refl _ _⟩
  · obtain ⟨HW, HC2⟩ := HK.out (4) (by omega)
    have HC : Hid (0 ≤ n ∨ n < 0 ) := Lib.hid (by omega)
    clear HC
    go_enter Try.func12, Try.ntmps12
    go_wp2_with fail
    refine (fit02 _).mono ?_
    rintro e w' ⟨rfl, rfl⟩
    go_wp2_with fail
    refine (OffsetNo _ _ _ (by rw [HC2.out]; omega)).mono ?_
    rintro e w' ⟨rfl, rfl⟩
    go_wp2_with fail
    refine (CellNo _ _ _ (.inl HW.out)).mono ?_
    rintro e w' ⟨rfl, rfl⟩
    go_wp2_with fail
    refine (OffsetNo _ _ _ (by right; rw [show cellsZ 1 = 8 from rfl]; omega)).mono ?_
    rintro e w' ⟨rfl, rfl⟩
    go_wp2_with fail
    refine (ClassNo _ _ (by omega)).mono ?_
    rintro e w' ⟨rfl, rfl⟩
    go_wp2_with fail
    refine (Words _ _).mono ?_
    rintro e w' ⟨rfl, rfl⟩
    rw [HW.out]
    go_wp2_with fail
    refine (Cells _ _).mono ?_
    rintro e w' ⟨rfl, rfl⟩
    rw [HC2.out]
    go_wp2_with fail
    go_ret
    exact ⟨by first | rfl | (simp; omega), Below.refl _ _⟩
  · obtain ⟨HW, HC2⟩ := HK.out (5) (by omega)
    have HC : Hid (0 ≤ n ∨ n < 0 ) := Lib.hid (by omega)
    clear HC
    go_enter Try.func12, Try.ntmps12
    go_wp2_with fail
    refine (fit02 _).mono ?_
    rintro e w' ⟨rfl, rfl⟩
    go_wp2_with fail
    refine (OffsetNo _ _ _ (by rw [HC2.out]; omega)).mono ?_
    rintro e w' ⟨rfl, rfl⟩
    go_wp2_with fail
    refine (CellNo _ _ _ (.inl HW.out)).mono ?_
    rintro e w' ⟨rfl, rfl⟩
    go_wp2_with fail
    refine (OffsetNo _ _ _ (by right; rw [show cellsZ 1 = 8 from rfl]; omega)).mono ?_
    rintro e w' ⟨rfl, rfl⟩
    go_wp2_with fail
    refine (ClassNo _ _ (by omega)).mono ?_
    rintro e w' ⟨rfl, rfl⟩
    go_wp2_with fail
    refine (Words _ _).mono ?_
    rintro e w' ⟨rfl, rfl⟩
    rw [HW.out]
    go_wp2_with fail
    refine (Cells _ _).mono ?_
    rintro e w' ⟨rfl, rfl⟩
    rw [HC2.out]
    go_wp2_with fail
    go_ret
    exact ⟨by first | rfl | (simp; omega), Below.refl _ _⟩


end Go.Proofs.Ytamecbanginjmaa
