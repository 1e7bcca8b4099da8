/-
  Objects in an arena (layer 4): one contract for each function. Conditions: the arena is as it always is.
-/
import Derived.Test.YtapbphbnffggnaaArenaWord
namespace Go.Proofs.Ytapbphbnffggnaa
set_option linter.unusedVariables false
set_option linter.unusedSimpArgs false
open Go.RowKit Go.Shelf

/-- What a look for a field answers. -/
def AR.checkZ (A : AR) (r i : Int) : Int := if r = 0 then 8 else if i < 0 ∨ A.wordZ r 0 ≤ i then 6 else 0

section
variable {w0 w : World} {L : List Res} {i a : Nat} {A : AR}

theorem CFields (S : Sep w0 w L) (i : Nat) (hi : L[i]? = some (arenaR a A)) (hw : A.Wf) (r : Int) (hr63 : r ≤ 9223372036854775807) :
    Calls Try.prog 41 #[.pointer (some ⟨a, 0, none⟩), .int .i64 r] w fun e w' => e = .returned (.int .i64 (A.wordZ r 0)) ∧ Sep w0 w' L := by
  have HS := Lib.hid S
  have HI := Lib.hid hi
  have HW := Lib.hid hw
  clear S hi hw
  go_enter Try.func41, Try.ntmps41
  go_wp2_with (go_at_call 37; refine (TAWord HS.out i HI.out HW.out r 0 hr63).mono ?_; rintro e w' ⟨rfl, hs⟩; have HS1 := Lib.hid hs; clear hs)
  go_ret
  exact ⟨rfl, HS1.out⟩
theorem CCheck (S : Sep w0 w L) (i : Nat) (hi : L[i]? = some (arenaR a A)) (hw : A.Wf) (r j : Int) (hr63 : r ≤ 9223372036854775807) :
    Calls Try.prog 58 #[.pointer (some ⟨a, 0, none⟩), .int .i64 r, .int .i64 j] w fun e w' => e = .returned (.int .i64 (A.checkZ r j)) ∧ Sep w0 w' L := by
  have HS := Lib.hid S
  have HI := Lib.hid hi
  have HW := Lib.hid hw
  clear S hi hw
  go_enter Try.func58, Try.ntmps58
  by_cases h0 : r = 0
  · subst h0
    go_wp2_with fail
    go_ret
    exact ⟨by simp [AR.checkZ], HS.out⟩
  · have h0b : (r == 0) = false := by simpa using h0
    by_cases h1 : j < 0
    · go_wp2_with fail
      go_ret
      exact ⟨by simp [AR.checkZ, h0, h1], HS.out⟩
    · obtain ⟨z, hz⟩ : ∃ z, A.wordZ r 0 = z := ⟨_, rfl⟩
      have HZ := Lib.hid hz
      clear hz
      by_cases h2 : z ≤ j
      · go_wp2_with (go_at_call 41; refine (CFields HS.out i HI.out HW.out r hr63).mono ?_; rw [HZ.out]; rintro e w' ⟨rfl, hs⟩; have HS1 := Lib.hid hs; clear hs)
        go_ret
        exact ⟨by simp [AR.checkZ, h0, h1, HZ.out, h2], HS1.out⟩
      · go_wp2_with (go_at_call 41; refine (CFields HS.out i HI.out HW.out r hr63).mono ?_; rw [HZ.out]; rintro e w' ⟨rfl, hs⟩; have HS1 := Lib.hid hs; clear hs)
        go_ret
        exact ⟨by simp [AR.checkZ, h0, h1, HZ.out, h2], HS1.out⟩
theorem CScalar (S : Sep w0 w L) (i : Nat) (hi : L[i]? = some (arenaR a A)) (hw : A.Wf) (r : Int) (hr63 : r ≤ 9223372036854775807) (h0 : ¬ r = 0) :
    Calls Try.prog 43 #[.pointer (some ⟨a, 0, none⟩), .int .i64 r] w fun e w' => e = .returned (.tuple #[.int .i64 (A.wordZ r 1), .int .i64 0]) ∧ Sep w0 w' L := by
  have HS := Lib.hid S
  have HI := Lib.hid hi
  have HW := Lib.hid hw
  clear S hi hw
  have h0b : (r == 0) = false := by simpa using h0
  go_enter Try.func43, Try.ntmps43
  go_wp2_with (go_at_call 37; refine (TAWord HS.out i HI.out HW.out r 1 hr63).mono ?_; rintro e w' ⟨rfl, hs⟩; have HS1 := Lib.hid hs; clear hs)
  go_ret2
  exact ⟨rfl, HS1.out⟩
theorem CSetScalar (S : Sep w0 w L) (i : Nat) (hi : L[i]? = some (arenaR a A)) (hw : A.Wf) (r x : Int) (hr63 : r ≤ 9223372036854775807) (h0 : ¬ r = 0) :
    Calls Try.prog 45 #[.pointer (some ⟨a, 0, none⟩), .int .i64 r, .int .i64 x] w fun e w' => e = .returned (.int .i64 0) ∧ Sep w0 w' (L.set i (arenaR a (A.setW r 1 x))) := by
  have HS := Lib.hid S
  have HI := Lib.hid hi
  have HW := Lib.hid hw
  clear S hi hw
  have h0b : (r == 0) = false := by simpa using h0
  go_enter Try.func45, Try.ntmps45
  go_wp2_with (go_at_call 38; refine (TASet HS.out i HI.out HW.out r 1 x hr63).mono ?_; rintro e w' ⟨rfl, hs⟩; have HS1 := Lib.hid hs; clear hs)
  go_ret
  exact ⟨rfl, HS1.out⟩
theorem CFieldNo (S : Sep w0 w L) (i : Nat) (hi : L[i]? = some (arenaR a A)) (hw : A.Wf) (r j : Int) (hr63 : r ≤ 9223372036854775807) (h : ¬ A.checkZ r j = 0) :
    Calls Try.prog 42 #[.pointer (some ⟨a, 0, none⟩), .int .i64 r, .int .i64 j] w fun e w' => e = .returned (.tuple #[.int .i64 0, .int .i64 (A.checkZ r j)]) ∧ Sep w0 w' L := by
  have HS := Lib.hid S
  have HI := Lib.hid hi
  have HW := Lib.hid hw
  obtain ⟨z, hz⟩ : ∃ z, A.checkZ r j = z := ⟨_, rfl⟩
  rw [hz] at h ⊢
  have HZ := Lib.hid hz
  have h0b : (z == 0) = false := by simpa using h
  clear S hi hw hz
  go_enter Try.func42, Try.ntmps42
  go_wp2_with (go_at_call 58; refine (CCheck HS.out i HI.out HW.out r j hr63).mono ?_; rw [HZ.out]; rintro e w' ⟨rfl, hs⟩; have HS1 := Lib.hid hs; clear hs)
  go_ret2
  exact ⟨rfl, HS1.out⟩
theorem CFieldYes (S : Sep w0 w L) (i : Nat) (hi : L[i]? = some (arenaR a A)) (hw : A.Wf) (r j : Int) (hr63 : r ≤ 9223372036854775807) (h : A.checkZ r j = 0) (hj0 : 0 ≤ j) (hj : j ≤ 1000000) :
    Calls Try.prog 42 #[.pointer (some ⟨a, 0, none⟩), .int .i64 r, .int .i64 j] w fun e w' => e = .returned (.tuple #[.int .i64 (A.wordZ r (2 + j)), .int .i64 0]) ∧ Sep w0 w' L := by
  have HS := Lib.hid S
  have HI := Lib.hid hi
  have HW := Lib.hid hw
  have HZ := Lib.hid h
  clear S hi hw h
  go_enter Try.func42, Try.ntmps42
  go_wp2_with (first
    | (go_at_call 58; refine (CCheck HS.out i HI.out HW.out r j hr63).mono ?_; rw [HZ.out]; rintro e w' ⟨rfl, hs⟩; have HS1 := Lib.hid hs; clear hs)
    | (go_at_call 37; refine (TAWord HS1.out i HI.out HW.out r (2 + j) hr63).mono ?_; rintro e w' ⟨rfl, hs⟩; have HS2 := Lib.hid hs; clear hs))
  go_ret2
  exact ⟨rfl, HS2.out⟩
theorem CSetFieldNo (S : Sep w0 w L) (i : Nat) (hi : L[i]? = some (arenaR a A)) (hw : A.Wf) (r j x : Int) (hr63 : r ≤ 9223372036854775807) (h : ¬ A.checkZ r j = 0) :
    Calls Try.prog 44 #[.pointer (some ⟨a, 0, none⟩), .int .i64 r, .int .i64 j, .int .i64 x] w fun e w' => e = .returned (.int .i64 (A.checkZ r j)) ∧ Sep w0 w' L := by
  have HS := Lib.hid S
  have HI := Lib.hid hi
  have HW := Lib.hid hw
  obtain ⟨z, hz⟩ : ∃ z, A.checkZ r j = z := ⟨_, rfl⟩
  rw [hz] at h ⊢
  have HZ := Lib.hid hz
  have h0b : (z == 0) = false := by simpa using h
  clear S hi hw hz
  go_enter Try.func44, Try.ntmps44
  go_wp2_with (go_at_call 58; refine (CCheck HS.out i HI.out HW.out r j hr63).mono ?_; rw [HZ.out]; rintro e w' ⟨rfl, hs⟩; have HS1 := Lib.hid hs; clear hs)
  go_ret
  exact ⟨rfl, HS1.out⟩
theorem CSetFieldYes (S : Sep w0 w L) (i : Nat) (hi : L[i]? = some (arenaR a A)) (hw : A.Wf) (r j x : Int) (hr63 : r ≤ 9223372036854775807) (h : A.checkZ r j = 0) (hj0 : 0 ≤ j) (hj : j ≤ 1000000) :
    Calls Try.prog 44 #[.pointer (some ⟨a, 0, none⟩), .int .i64 r, .int .i64 j, .int .i64 x] w fun e w' => e = .returned (.int .i64 0) ∧ Sep w0 w' (L.set i (arenaR a (A.setW r (2 + j) x))) := by
  have HS := Lib.hid S
  have HI := Lib.hid hi
  have HW := Lib.hid hw
  have HZ := Lib.hid h
  clear S hi hw h
  go_enter Try.func44, Try.ntmps44
  go_wp2_with (first
    | (go_at_call 58; refine (CCheck HS.out i HI.out HW.out r j hr63).mono ?_; rw [HZ.out]; rintro e w' ⟨rfl, hs⟩; have HS1 := Lib.hid hs; clear hs)
    | (go_at_call 38; refine (TASet HS1.out i HI.out HW.out r (2 + j) x hr63).mono ?_; rintro e w' ⟨rfl, hs⟩; have HS2 := Lib.hid hs; clear hs))
  go_ret
  exact ⟨rfl, HS2.out⟩
theorem CScalarNil (w : World) (a : Nat) : Calls Try.prog 43 #[.pointer (some ⟨a, 0, none⟩), .int .i64 0] w fun e w' => e = .returned (.tuple #[.int .i64 0, .int .i64 8]) ∧ w = w' := by
  go_enter Try.func43, Try.ntmps43
  go_wp2_with fail
  go_ret2
  exact ⟨rfl, rfl⟩
theorem CSetScalarNil (w : World) (a : Nat) (x : Int) : Calls Try.prog 45 #[.pointer (some ⟨a, 0, none⟩), .int .i64 0, .int .i64 x] w fun e w' => e = .returned (.int .i64 8) ∧ w = w' := by
  go_enter Try.func45, Try.ntmps45
  go_wp2_with fail
  go_ret
  exact ⟨rfl, rfl⟩
theorem checkZ_nil (A : AR) (j : Int) : A.checkZ 0 j = 8 := by simp [AR.checkZ]
theorem wordZ_nil (h : A.Wf) (j : Int) : A.wordZ 0 j = 0 := by
  have h0 : A.has 0 = false := by
    have e := h.has 0
    cases hb : A.tk 0 with
    | false => rw [hb] at e; exact e
    | true => have := (h.lt hb).1; omega
  unfold AR.wordZ AR.okW
  rw [h0]
  rfl
end
end Go.Proofs.Ytapbphbnffggnaa
