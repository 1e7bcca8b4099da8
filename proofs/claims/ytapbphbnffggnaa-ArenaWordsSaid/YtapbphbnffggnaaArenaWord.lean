/-
  The arena's words (layer 3). Conditions: the arena is as it always is.
-/
import Derived.Test.YtapbphbnffggnaaArenaS
namespace Go.Proofs.Ytapbphbnffggnaa
set_option linter.unusedVariables false
set_option linter.unusedSimpArgs false
open Go.RowKit Go.Shelf

/-- Has the cell r a word i? -/
def AR.okW (A : AR) (r i : Int) : Bool := A.has r && (decide (0 ≤ i) && decide (i < wordsZ (A.clsZ (A.page r))))
def AR.wordZ (A : AR) (r i : Int) : Int := if A.okW r i then A.wd (r - 1 + i).toNat else 0
def AR.setW (A : AR) (r i x : Int) : AR := if A.okW r i then { A with wd := updN A.wd (r - 1 + i).toNat x } else A

theorem AR.Wf.setW_wf {A : AR} (h : A.Wf) (r i x : Int) : (A.setW r i x).Wf := by
  unfold AR.setW
  split
  · exact ⟨h.few, h.cls, h.cell, h.cnt, h.some_, h.free⟩
  · exact h

section
variable {w0 w : World} {L : List Res} {i a : Nat} {A : AR}

theorem arena_words (S : Sep w0 w L) (i : Nat) (hi : L[i]? = some (arenaR a A)) : w.cell? ⟨a, 1, none⟩ = some (.slice (some ⟨A.ids.2.1, 0, none⟩) (A.n * 32) (A.n * 32)) := by
  have := ((arena_open S i hi).2.blk 0 rfl).cell 1
  simpa [arenaCells, rowAt] using this
theorem arena_word (S : Sep w0 w L) (i : Nat) (hi : L[i]? = some (arenaR a A)) (k : Nat) (hk : k < A.n * 32) : w.cell? ⟨A.ids.2.1, k, none⟩ = some (.int .i64 (A.wd k)) ∧ w.frozen? ⟨A.ids.2.1, k, none⟩ = false := by
  have := (arena_open S i hi).2.blk 2 rfl
  exact ⟨by rw [this.cell, intCells_get _ _ _ hk], this.frozen k⟩
theorem arena_set (S : Sep w0 w L) (i : Nat) (hi : L[i]? = some (arenaR a A)) (k : Nat) (x : Int) : Sep w0 (w.setCell ⟨A.ids.2.1, k, none⟩ (.int .i64 x)) (L.set i (arenaR a { A with wd := updN A.wd k x })) := by
  obtain ⟨hn, h⟩ := arena_open S i hi
  have h1 := h.setCell 2 rfl k (.int .i64 x)
  rw [intCells_set] at h1
  exact arena_shut (A := { A with wd := updN A.wd k x }) hn h1 hi

theorem okW_in (hw : A.Wf) {r j : Int} (h : A.okW r j = true) : ∃ k : Nat, r - 1 + j = (k : Int) ∧ k < A.n * 32 ∧ 1 ≤ r ∧ 0 ≤ j ∧ j < 8 ∧ r ≤ 100000 ∧ A.has r = true ∧ j < wordsZ (A.clsZ (A.page r)) := by
  unfold AR.okW at h
  simp at h
  obtain ⟨h1, h2, h3⟩ := h
  have h4 := h1
  unfold AR.has at h4
  simp at h4
  obtain ⟨⟨h5, h6⟩, h7⟩ := h4
  obtain ⟨R, rfl⟩ := Int.eq_ofNat_of_zero_le h5
  simp at h7
  obtain ⟨p, k, hp, h0, hk, rfl⟩ := hw.cell R h7
  have hb := ref_in (p := p) hk
  have hpg : A.page ((refN p (A.cls p) k : Nat) : Int) = (p : Int) := by
    unfold AR.page
    rw [if_pos ⟨by omega, h6⟩]
    omega
  have h3' := h3
  rw [hpg] at h3
  have hcz : A.clsZ (p : Int) = A.cls p := by unfold AR.clsZ; rw [if_pos (by omega)]; simp
  rw [hcz, words_wN] at h3
  have hf := hw.few
  have hw8 := (words_nonneg (A.cls p)).2
  rw [words_wN] at hw8
  exact ⟨(((refN p (A.cls p) k : Nat) : Int) - 1 + j).toNat, by omega, by omega, by omega, h2, by omega, by omega, h1, h3'⟩

set_option maxHeartbeats 2000000 in
theorem word_yes (S : Sep w0 w L) (i : Nat) (hi : L[i]? = some (arenaR a A)) (hw : A.Wf) (r j : Int) (h : A.okW r j = true) : Calls Try.prog 57 #[.pointer (some ⟨a, 0, none⟩), .int .i64 r, .int .i64 j] w fun e w' => e = .returned (.pointer (some ⟨A.ids.2.1, (r - 1 + j).toNat, none⟩)) ∧ Sep w0 w' L := by
  obtain ⟨k, hk, hkn, hr1, hj0, hj8, hr2, hhas, hjw⟩ := okW_in hw h
  have hsub : IntKind.i64.wrap (r - 1) = r - 1 := by rw [IntKind.wrap_i64]; omega
  have hadd : IntKind.i64.wrap (r - 1 + j) = (k : Int) := by rw [IntKind.wrap_i64, ← hk]; omega
  have hkt : (r - 1 + j).toNat = k := by omega
  rw [hkt]
  obtain ⟨M, hM⟩ : ∃ M, A.n * 32 = M := ⟨_, rfl⟩
  have hMI : (k : Int) < (M : Int) := by omega
  have hM0 : (0 : Int) ≤ (k : Int) := by omega
  have HS := Lib.hid S
  have HI := Lib.hid hi
  have HHAS := Lib.hid hhas
  have HM := Lib.hid hM
  have hr63 : r ≤ 9223372036854775807 := by omega
  have hnl : ¬ wordsZ (A.clsZ (A.page r)) ≤ j := by omega
  obtain ⟨x, hx⟩ : ∃ x, wordsZ (A.clsZ (A.page r)) = x := ⟨_, rfl⟩
  rw [hx] at hnl hjw
  have HX := Lib.hid hx
  clear S hi h hhas hk hkn hkt hM hx hw
  go_enter Try.func57, Try.ntmps57
  go_wp2_with (first
    | (go_at_call 36; refine (TAHas HS.out i HI.out r).mono ?_; rw [HHAS.out]; rintro e w1 ⟨rfl, hs⟩; have hcw := arena_words hs i HI.out; rw [HM.out] at hcw; have HS1 := Lib.hid hs; clear hs)
    | (go_at_call 27; refine (TAPage HS1.out i HI.out r hr63).mono ?_; rintro e w' ⟨rfl, rfl⟩)
    | (go_at_call 26; refine (TAClass HS1.out i HI.out _).mono ?_; rintro e w' ⟨rfl, rfl⟩)
    | (go_at_call 33; refine (Words _ _).mono ?_; rw [HX.out]; rintro e w' ⟨rfl, rfl⟩))
  go_ret
  exact ⟨rfl, HS1.out⟩

set_option maxHeartbeats 2000000 in
theorem word_no (S : Sep w0 w L) (i : Nat) (hi : L[i]? = some (arenaR a A)) (_hw : A.Wf) (r j : Int) (hr63 : r ≤ 9223372036854775807) (h : A.okW r j = false) : Calls Try.prog 57 #[.pointer (some ⟨a, 0, none⟩), .int .i64 r, .int .i64 j] w fun e w' => e = .returned (.pointer none) ∧ Sep w0 w' L := by
  have HS := Lib.hid S
  have HI := Lib.hid hi
  unfold AR.okW at h
  obtain ⟨b, hb⟩ : ∃ b, A.has r = b := ⟨_, rfl⟩
  rw [hb] at h
  have HHAS := Lib.hid hb
  clear hb S hi
  cases b with
  | false =>
    clear h
    go_enter Try.func57, Try.ntmps57
    go_wp2_with (go_at_call 36; refine (TAHas HS.out i HI.out r).mono ?_; rw [HHAS.out]; rintro e w1 ⟨rfl, hs⟩; have HS1 := Lib.hid hs; clear hs)
    go_ret
    exact ⟨rfl, HS1.out⟩
  | true =>
    simp at h
    by_cases hj : j < 0
    · clear h
      go_enter Try.func57, Try.ntmps57
      go_wp2_with (go_at_call 36; refine (TAHas HS.out i HI.out r).mono ?_; rw [HHAS.out]; rintro e w1 ⟨rfl, hs⟩; have HS1 := Lib.hid hs; clear hs)
      go_ret
      exact ⟨rfl, HS1.out⟩
    · have h' := h (by omega)
      clear h
      obtain ⟨x, hx⟩ : ∃ x, wordsZ (A.clsZ (A.page r)) = x := ⟨_, rfl⟩
      rw [hx] at h'
      have HX := Lib.hid hx
      clear hx
      go_enter Try.func57, Try.ntmps57
      go_wp2_with (first
        | (go_at_call 36; refine (TAHas HS.out i HI.out r).mono ?_; rw [HHAS.out]; rintro e w1 ⟨rfl, hs⟩; have HS1 := Lib.hid hs; clear hs)
        | (go_at_call 27; refine (TAPage HS1.out i HI.out r hr63).mono ?_; rintro e w' ⟨rfl, rfl⟩)
        | (go_at_call 26; refine (TAClass HS1.out i HI.out _).mono ?_; rintro e w' ⟨rfl, rfl⟩)
        | (go_at_call 33; refine (Words _ _).mono ?_; rw [HX.out]; rintro e w' ⟨rfl, rfl⟩))
      go_ret
      exact ⟨rfl, HS1.out⟩

theorem TAWord (S : Sep w0 w L) (i : Nat) (hi : L[i]? = some (arenaR a A)) (hw : A.Wf) (r j : Int) (hr63 : r ≤ 9223372036854775807) : Calls Try.prog 37 #[.pointer (some ⟨a, 0, none⟩), .int .i64 r, .int .i64 j] w fun e w' => e = .returned (.int .i64 (A.wordZ r j)) ∧ Sep w0 w' L := by
  have HS := Lib.hid S
  have HI := Lib.hid hi
  have HW := Lib.hid hw
  unfold AR.wordZ
  cases h : A.okW r j with
  | false =>
    have HOK := Lib.hid h
    clear h S hi hw
    simp only [Bool.false_eq_true, if_false]
    go_enter Try.func37, Try.ntmps37
    go_wp2_with (go_at_call 57; refine (word_no HS.out i HI.out HW.out r j hr63 HOK.out).mono ?_; rintro e w1 ⟨rfl, hs⟩; have HS1 := Lib.hid hs; clear hs)
    go_ret
    exact ⟨rfl, HS1.out⟩
  | true =>
    obtain ⟨k, hk, hkn, _⟩ := okW_in hw h
    have HOK := Lib.hid h
    have HKN := Lib.hid hkn
    have HK := Lib.hid (show (r - 1 + j).toNat = k by omega)
    clear h S hi hw hk hkn
    simp only [if_true]
    rw [HK.out]
    go_enter Try.func37, Try.ntmps37
    go_wp2_with (go_at_call 57; refine (word_yes HS.out i HI.out HW.out r j HOK.out).mono ?_; rw [HK.out]; rintro e w1 ⟨rfl, hs⟩; have hcw := (arena_word hs i HI.out k HKN.out).1; have HS1 := Lib.hid hs; clear hs)
    go_ret
    exact ⟨rfl, HS1.out⟩

theorem TASet (S : Sep w0 w L) (i : Nat) (hi : L[i]? = some (arenaR a A)) (hw : A.Wf) (r j x : Int) (hr63 : r ≤ 9223372036854775807) : Calls Try.prog 38 #[.pointer (some ⟨a, 0, none⟩), .int .i64 r, .int .i64 j, .int .i64 x] w fun e w' => e = .returned (.bool (A.okW r j)) ∧ Sep w0 w' (L.set i (arenaR a (A.setW r j x))) := by
  have HS := Lib.hid S
  have HI := Lib.hid hi
  have HW := Lib.hid hw
  unfold AR.setW
  cases h : A.okW r j with
  | false =>
    have HOK := Lib.hid h
    clear h S hi hw
    simp only [Bool.false_eq_true, if_false]
    rw [set_self HI.out]
    go_enter Try.func38, Try.ntmps38
    go_wp2_with (go_at_call 57; refine (word_no HS.out i HI.out HW.out r j hr63 HOK.out).mono ?_; rintro e w1 ⟨rfl, hs⟩; have HS1 := Lib.hid hs; clear hs)
    go_ret
    exact ⟨rfl, HS1.out⟩
  | true =>
    obtain ⟨k, hk, hkn, _⟩ := okW_in hw h
    have HOK := Lib.hid h
    have HKN := Lib.hid hkn
    have HK := Lib.hid (show (r - 1 + j).toNat = k by omega)
    clear h S hi hw hk hkn
    simp only [if_true]
    rw [HK.out]
    go_enter Try.func38, Try.ntmps38
    go_wp2_with (go_at_call 57; refine (word_yes HS.out i HI.out HW.out r j HOK.out).mono ?_; rw [HK.out]; rintro e w1 ⟨rfl, hs⟩; have hcw := (arena_word hs i HI.out k HKN.out).1; have hcf := (arena_word hs i HI.out k HKN.out).2; have HS1 := Lib.hid hs; clear hs)
    go_ret
    exact ⟨rfl, arena_set HS1.out i HI.out k x⟩
end
end Go.Proofs.Ytapbphbnffggnaa
