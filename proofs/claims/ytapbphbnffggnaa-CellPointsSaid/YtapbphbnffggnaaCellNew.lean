/-
  A new object in an arena (layer 4). Conditions: the arena is as it always is.
-/
import Derived.Test.YtapbphbnffggnaaCell
import Derived.Test.YtapbphbnffggnaaSizeClass
import Derived.Test.YtapbphbnffggnaaArTake
import Derived.Test.YtapbphbnffggnaaArenaS
namespace Go.Proofs.Ytapbphbnffggnaa
set_option linter.unusedVariables false
set_option linter.unusedSimpArgs false
open Go.RowKit Go.Shelf

section
variable {w0 w : World} {L : List Res} {i a : Nat} {A : AR}

theorem CNewOut (S : Sep w0 w L) (n : Int) (h : n < 0 ∨ 6 < n) :
    Calls Try.prog 46 #[.pointer (some ⟨a, 0, none⟩), .int .i64 n] w fun e w' => e = .returned (.tuple #[.int .i64 0, .int .i64 (if n < 0 then 6 else 7)]) ∧ Sep w0 w' L := by
  have HS := Lib.hid S
  clear S
  by_cases h1 : n < 0
  · go_enter Try.func46, Try.ntmps46
    go_wp2_with (go_at_call 59; refine (ClassNo n _ (.inl h1)).mono ?_; rintro e w' ⟨rfl, rfl⟩)
    go_ret2
    exact ⟨by simp [h1], HS.out⟩
  · have h2 : 6 < n := by omega
    clear h
    go_enter Try.func46, Try.ntmps46
    go_wp2_with (go_at_call 59; refine (ClassNo n _ (.inr h2)).mono ?_; rintro e w' ⟨rfl, rfl⟩)
    go_ret2
    exact ⟨by simp [h1], HS.out⟩
theorem CNewNone (S : Sep w0 w L) (i : Nat) (hi : L[i]? = some (arenaR a A)) (hw : A.Wf) (n : Int) (h0 : 0 ≤ n) (h6 : n ≤ 6) (ht : A.take (classZ n) = none) :
    Calls Try.prog 46 #[.pointer (some ⟨a, 0, none⟩), .int .i64 n] w fun e w' => e = .returned (.tuple #[.int .i64 0, .int .i64 10]) ∧ Sep w0 w' L := by
  have HS := Lib.hid S
  have HI := Lib.hid hi
  have HW := Lib.hid hw
  have HT := Lib.hid ht
  clear S hi hw ht
  go_enter Try.func46, Try.ntmps46
  go_wp2_with (first
    | (go_at_call 59; refine (ClassYes n _ h0 h6).mono ?_; rintro e w' ⟨rfl, rfl⟩)
    | (go_at_call 22; refine (TATake HS.out i HI.out HW.out (classZ n)).mono ?_; rw [takeA_none HT.out, HT.out, takeV_none, set_self HI.out]; rintro e w' ⟨rfl, hs⟩; have HS1 := Lib.hid hs; clear hs))
  go_ret2
  exact ⟨rfl, HS1.out⟩
theorem CNewSome (S : Sep w0 w L) (i : Nat) (hi : L[i]? = some (arenaR a A)) (hw : A.Wf) (n : Int) (h0 : 0 ≤ n) (h6 : n ≤ 6) {r : Nat} {A' : AR} (ht : A.take (classZ n) = some (r, A')) (hr : r < 100000) :
    Calls Try.prog 46 #[.pointer (some ⟨a, 0, none⟩), .int .i64 n] w fun e w' => e = .returned (.tuple #[.int .i64 (r : Int), .int .i64 0]) ∧ Sep w0 w' (L.set i (arenaR a (A'.setW (r : Int) 0 n))) := by
  have HS := Lib.hid S
  have HI := Lib.hid hi
  have HW := Lib.hid hw
  have HT := Lib.hid ht
  have HW2 := Lib.hid (hw.take_wf ht)
  have HI2 := Lib.hid (show (L.set i (arenaR a A'))[i]? = some (arenaR a A') by
    obtain ⟨h, _⟩ := List.getElem?_eq_some_iff.1 hi
    simp [h])
  clear S hi hw ht
  go_enter Try.func46, Try.ntmps46
  go_wp2_with (first
    | (go_at_call 59; refine (ClassYes n _ h0 h6).mono ?_; rintro e w' ⟨rfl, rfl⟩)
    | (go_at_call 22; refine (TATake HS.out i HI.out HW.out (classZ n)).mono ?_; rw [takeA_some HT.out, HT.out, takeV_some]; rintro e w' ⟨rfl, hs⟩; have HS1 := Lib.hid hs; clear hs)
    | (go_at_call 38; refine (TASet HS1.out i HI2.out HW2.out (r : Int) 0 n (by omega)).mono ?_; rintro e w' ⟨rfl, hs⟩; have HS2 := Lib.hid hs; clear hs))
  go_ret2
  exact ⟨rfl, by simpa using HS2.out⟩
end
end Go.Proofs.Ytapbphbnffggnaa
