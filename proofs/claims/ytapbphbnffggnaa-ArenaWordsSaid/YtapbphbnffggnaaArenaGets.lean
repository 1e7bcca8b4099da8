/-
  The arena (layer 3): contracts of the methods that only look. Conditions: at most 64 pages.
-/
import Derived.Test.YtapbphbnffggnaaArena
namespace Go.Proofs.Ytapbphbnffggnaa
set_option linter.unusedVariables false
set_option linter.unusedSimpArgs false
open Go.RowKit

def AR.clsZ (A : AR) (p : Int) : Int := if 0 ≤ p ∧ p < (A.n : Int) then A.cls p.toNat else -1
def AR.page (A : AR) (r : Int) : Int := if 1 ≤ r ∧ r < A.size then (r - 1) / 32 else -1
def refZ (p c cell : Int) : Int := p * 32 + cell * wordsZ c + 1

section
variable {w : World} {a : Nat} {A : AR} {F : List Nat}

theorem APages (h : ArenaAt w a A F) : Calls Try.prog 19 #[.pointer (some ⟨a, 0, none⟩)] w fun e w' => e = .returned (.int .i64 (A.n : Int)) ∧ w = w' := by
  obtain ⟨pb, wb, sb, lo, rfl, hp⟩ := h
  have c0 := hp.top.cell 0
  simp [arenaCells, rowAt] at c0
  clear hp
  go_enter Try.func19, Try.ntmps19
  go_wp2_with fail
  go_ret
  exact ⟨rfl, rfl⟩

theorem AFree (h : ArenaAt w a A F) : Calls Try.prog 20 #[.pointer (some ⟨a, 0, none⟩)] w fun e w' => e = .returned (.int .i64 A.free) ∧ w = w' := by
  obtain ⟨pb, wb, sb, lo, rfl, hp⟩ := h
  have c0 := hp.top.cell 3
  simp [arenaCells] at c0
  clear hp
  go_enter Try.func20, Try.ntmps20
  go_wp2_with fail
  go_ret
  exact ⟨rfl, rfl⟩

theorem ASize (h : ArenaAt w a A F) : Calls Try.prog 21 #[.pointer (some ⟨a, 0, none⟩)] w fun e w' => e = .returned (.int .i64 A.size) ∧ w = w' := by
  obtain ⟨pb, wb, sb, lo, rfl, hp⟩ := h
  have c0 := hp.top.cell 0
  have hf := hp.few
  simp [arenaCells, rowAt] at c0
  have hs : A.size = (A.n : Int) * 32 + 1 := by unfold AR.size; omega
  rw [hs]
  clear hp hs
  generalize A.n = n at *
  have h1 : IntKind.i64.wrap ((n : Int) * 32) = (n : Int) * 32 := by rw [IntKind.wrap_i64]; omega
  have h2 : IntKind.i64.wrap ((n : Int) * 32 + 1) = (n : Int) * 32 + 1 := by rw [IntKind.wrap_i64]; omega
  go_enter Try.func21, Try.ntmps21
  go_wp2_with fail
  go_ret
  exact ⟨rfl, rfl⟩

theorem AClass (h : ArenaAt w a A F) (p : Int) : Calls Try.prog 26 #[.pointer (some ⟨a, 0, none⟩), .int .i64 p] w fun e w' => e = .returned (.int .i64 (A.clsZ p)) ∧ w = w' := by
  obtain ⟨pb, wb, sb, lo, rfl, hp⟩ := h
  have c0 := hp.top.cell 0
  simp [arenaCells, rowAt] at c0
  by_cases h0 : p < 0
  · have e : A.clsZ p = -1 := by unfold AR.clsZ; rw [if_neg (by omega)]
    rw [e]
    clear hp e
    go_enter Try.func26, Try.ntmps26
    go_wp2_with fail
    go_ret
    exact ⟨rfl, rfl⟩
  · by_cases h1 : (A.n : Int) ≤ p
    · have e : A.clsZ p = -1 := by unfold AR.clsZ; rw [if_neg (by omega)]
      rw [e]
      clear hp e
      go_enter Try.func26, Try.ntmps26
      go_wp2_with fail
      go_ret
      exact ⟨rfl, rfl⟩
    · obtain ⟨k, rfl⟩ := Int.eq_ofNat_of_zero_le (by omega : 0 ≤ p)
      have hk : k < A.n := by omega
      have e : A.clsZ (k : Int) = A.cls k := by unfold AR.clsZ; rw [if_pos (by omega)]; simp
      rw [e]
      have c1 := hp.pages.cell (k * 2)
      rw [pageCells_cls _ _ _ _ hk] at c1
      clear hp e
      go_enter Try.func26, Try.ntmps26
      go_wp2_with fail
      go_ret
      exact ⟨rfl, rfl⟩

theorem APage (h : ArenaAt w a A F) (r : Int) (hr : r ≤ 9223372036854775807) : Calls Try.prog 27 #[.pointer (some ⟨a, 0, none⟩), .int .i64 r] w fun e w' => e = .returned (.int .i64 (A.page r)) ∧ w = w' := by
  have H := Lib.hid h
  clear h
  unfold AR.page
  by_cases h0 : r < 1
  · rw [if_neg (by omega)]
    go_enter Try.func27, Try.ntmps27
    go_wp2_with fail
    go_ret
    exact ⟨rfl, rfl⟩
  · by_cases h1 : A.size ≤ r
    · rw [if_neg (by omega)]
      go_enter Try.func27, Try.ntmps27
      go_wp2_with (go_at_call 21; refine (ASize H.out).mono ?_; rintro e w' ⟨rfl, rfl⟩)
      go_ret
      exact ⟨rfl, rfl⟩
    · rw [if_pos (by omega)]
      have h2 : IntKind.i64.wrap (r - 1) = r - 1 := by rw [IntKind.wrap_i64]; omega
      have h3 : 0 ≤ r - 1 := by omega
      go_enter Try.func27, Try.ntmps27
      go_wp2_with (go_at_call 21; refine (ASize H.out).mono ?_; rintro e w' ⟨rfl, rfl⟩)
      go_ret
      exact ⟨rfl, rfl⟩

theorem ARef (p c cell : Int) (hp0 : 0 ≤ p) (hp1 : p ≤ 1000000) (h0 : 0 ≤ cell) (h1 : cell < cellsZ c) (w : World) : Calls Try.prog 50 #[.int .i64 p, .int .i64 c, .int .i64 cell] w fun e w' => e = .returned (.int .i64 (refZ p c cell)) ∧ w = w' := by
  obtain ⟨x, hx⟩ : ∃ x, cell * wordsZ c = x := ⟨_, rfl⟩
  have hb : 0 ≤ x ∧ x ≤ 32 := by
    have hw := words_nonneg c
    obtain ⟨hcw, _⟩ := cells_words c (by omega)
    constructor
    · rw [← hx]; exact Int.mul_nonneg h0 hw.1
    · rw [← hx, ← hcw]; exact Int.mul_le_mul_of_nonneg_right (by omega) hw.1
  have h2 : IntKind.i64.wrap (p * 32) = p * 32 := by rw [IntKind.wrap_i64]; omega
  have h3 : IntKind.i64.wrap (p * 32 + x) = p * 32 + x := by rw [IntKind.wrap_i64]; omega
  have h4 : IntKind.i64.wrap (p * 32 + x + 1) = p * 32 + x + 1 := by rw [IntKind.wrap_i64]; omega
  have HX := Lib.hid hx
  have H0 := Lib.hid h0
  have H1 := Lib.hid h1
  clear hx h0 h1 hb
  go_enter Try.func50, Try.ntmps50
  go_wp2_with (go_at_call 61; refine (OffsetYes c cell _ H0.out H1.out).mono ?_; rw [HX.out]; rintro e w' ⟨rfl, rfl⟩)
  go_ret
  exact ⟨by unfold refZ; rw [HX.out]; rfl, rfl⟩

end
end Go.Proofs.Ytapbphbnffggnaa
