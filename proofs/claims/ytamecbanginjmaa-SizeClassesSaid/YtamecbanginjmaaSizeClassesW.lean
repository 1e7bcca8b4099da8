/-
  Walks of laws of layer 2. Conditions: each number fits its kind.
-/
import Derived.Test.YtamecbanginjmaaSize
namespace Go.Proofs.Ytamecbanginjmaa
open Go.RowKit

set_option maxRecDepth 100000 in
set_option maxHeartbeats 2000000 in
theorem sizeClasses_walk (n : Int) (w : World) (_wn : (Lit.int .i64 n).wf = true) :
    Calls Try.prog 7 #[.int .i64 n] w fun e w' => e = .returned (.bool true) ∧ Below w.heap.size w w' := by
  by_cases h : n < 0 ∨ 6 < n
  · have hb : (n < 0 ∨ 6 < n) := h
    clear h
    rcases hb with h | h
    · go_enter Try.func7, Try.ntmps7
      go_wp2_with fail
      refine (fit02 _).mono ?_
      rintro e w' ⟨rfl, rfl⟩
      go_wp2_with fail
      refine (ClassNo _ _ (by omega)).mono ?_
      rintro e w' ⟨rfl, rfl⟩
      go_wp2_with fail
      go_ret
      exact ⟨by first | rfl | (simp; omega), Below.refl _ _⟩
    · go_enter Try.func7, Try.ntmps7
      go_wp2_with fail
      refine (fit02 _).mono ?_
      rintro e w' ⟨rfl, rfl⟩
      go_wp2_with fail
      refine (ClassNo _ _ (by omega)).mono ?_
      rintro e w' ⟨rfl, rfl⟩
      go_wp2_with fail
      go_ret
      exact ⟨by first | rfl | (simp; omega), Below.refl _ _⟩
  · obtain ⟨hr, hc0, hc2, hl⟩ := class_room n (by omega) (by omega)
    have hl' := hl (classZ n - 1)
    clear hl
    have h0 : 0 ≤ n := by omega
    have h6 : n ≤ 6 := by omega
    clear h
    generalize hC : classZ n = C at *
    have HC := Lib.hid hC
    clear hC
    generalize hW : wordsZ C = W at *
    have HW := Lib.hid hW
    clear hW
    by_cases hz : C = 0
    · subst hz
      clear hl'
      go_enter Try.func7, Try.ntmps7
      go_wp2_with fail
      refine (fit02 _).mono ?_
      rintro e w' ⟨rfl, rfl⟩
      go_wp2_with fail
      refine (ClassYes _ _ h0 h6).mono ?_
      rintro e w' ⟨rfl, rfl⟩
      rw [HC.out]
      go_wp2_with fail
      refine (Words _ _).mono ?_
      rintro e w' ⟨rfl, rfl⟩
      rw [HW.out]
      go_wp2_with fail
      go_ret
      exact ⟨by first | rfl | (simp; omega), Below.refl _ _⟩
    · have hl2 := hl' (by omega) (by omega)
      clear hl'
      generalize hV : wordsZ (C - 1) = V at *
      have HV := Lib.hid hV
      clear hV
      have hz' : (C == 0) = false := by simpa using hz
      go_enter Try.func7, Try.ntmps7
      go_wp2_with fail
      refine (fit02 _).mono ?_
      rintro e w' ⟨rfl, rfl⟩
      go_wp2_with fail
      refine (ClassYes _ _ h0 h6).mono ?_
      rintro e w' ⟨rfl, rfl⟩
      rw [HC.out]
      go_wp2_with fail
      refine (Words _ _).mono ?_
      rintro e w' ⟨rfl, rfl⟩
      rw [HW.out]
      go_wp2_with fail
      refine (Words _ _).mono ?_
      rintro e w' ⟨rfl, rfl⟩
      rw [HV.out]
      go_wp2_with fail
      go_ret
      exact ⟨by first | rfl | (simp; omega), Below.refl _ _⟩


end Go.Proofs.Ytamecbanginjmaa
