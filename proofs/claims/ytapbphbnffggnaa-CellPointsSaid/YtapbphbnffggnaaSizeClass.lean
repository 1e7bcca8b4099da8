/-
  size.Class, for this seat. Conditions: as each theorem says.
-/
import Derived.Test.YtapbphbnffggnaaSizeCore
namespace Go.Proofs.Ytapbphbnffggnaa
set_option linter.unusedVariables false
set_option linter.unusedSimpArgs false
open Go.RowKit

theorem ClassNo (n : Int) (w : World) (h : n < 0 ∨ 6 < n) : Calls Try.prog 59 #[.int .i64 n] w fun e w' => e = .returned (.tuple #[.int .i64 0, .bool false]) ∧ w = w' := by
  by_cases h1 : n < 0
  · go_enter Try.func59, Try.ntmps59
    go_wp2
    go_ret2
    exact ⟨rfl, rfl⟩
  · have h2 : 6 < n := by omega
    clear h
    go_enter Try.func59, Try.ntmps59
    go_wp2
    go_ret2
    exact ⟨rfl, rfl⟩

theorem class_room (n : Int) (h0 : 0 ≤ n) (h6 : n ≤ 6) : 2 + n ≤ wordsZ (classZ n) ∧ 0 ≤ classZ n ∧ classZ n ≤ 2 ∧ ∀ c, 0 ≤ c → c < classZ n → wordsZ c < 2 + n := by
  unfold classZ wordsZ
  refine ⟨by omega, by omega, by omega, fun c h1 h2 => by omega⟩

theorem ClassYes (n : Int) (w : World) (h0 : 0 ≤ n) (h6 : n ≤ 6) : Calls Try.prog 59 #[.int .i64 n] w fun e w' => e = .returned (.tuple #[.int .i64 (classZ n), .bool true]) ∧ w = w' := by
  obtain ⟨hr, hc0, hc2, hl⟩ := class_room n h0 h6
  generalize hC : classZ n = C at *
  clear hC
  have HL := Lib.hid hl
  clear hl
  go_enter Try.func59, Try.ntmps59
  go_wp2
  go_loop [4] (fun v => ∃ c : Int, 0 ≤ c ∧ c ≤ C ∧ v = .int .i64 c) (fun v => (C - intOf v).toNat)
  case atStart => exact ⟨0, by omega, by omega, rfl⟩
  case round =>
    obtain ⟨c, hcc, hcC, rfl⟩ := hrel
    by_cases hlt : c < C
    · have h2 := HL.out c hcc hlt
      generalize hW : wordsZ c = W at *
      have H := Lib.hid hW
      clear hW
      go_wp2_with (go_at_call 33; refine (Words _ _).mono ?_; rintro e w' ⟨rfl, rfl⟩; rw [H.out])
      go_round
      case rel => exact ⟨c + 1, by omega, by omega, rfl⟩
      case measure => simp [intOf]; omega
    · obtain rfl : c = C := by omega
      generalize hW : wordsZ c = W at *
      have H := Lib.hid hW
      clear hW
      go_wp2_with (go_at_call 33; refine (Words _ _).mono ?_; rintro e w' ⟨rfl, rfl⟩; rw [H.out])
      go_ret2
      exact ⟨rfl, rfl⟩
end Go.Proofs.Ytapbphbnffggnaa
