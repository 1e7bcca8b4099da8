/-
  A list gone through from some place on, round its end (plain). Conditions: as each theorem says.
-/
import Derived.Test.YtapbphbnffggnaaKit
namespace Go.Proofs.Ytapbphbnffggnaa
set_option linter.unusedVariables false
set_option linter.unusedSimpArgs false

theorem turn_mem {all : List Nat} {T : Nat} (r : Nat) : r ∈ all ↔ ∃ j, 0 ≤ j ∧ j < all.length ∧ all[(j + T) % all.length]? = some r := by
  constructor
  · intro h
    obtain ⟨m, hm, rfl⟩ := List.mem_iff_getElem.1 h
    have hl : 0 < all.length := by omega
    have ht := Nat.mod_lt T hl
    refine ⟨(m + (all.length - T % all.length)) % all.length, Nat.zero_le _, Nat.mod_lt _ hl, ?_⟩
    have e : ((m + (all.length - T % all.length)) % all.length + T) % all.length = m := by
      rw [Nat.add_mod, Nat.mod_mod, ← Nat.add_mod]
      rw [show m + (all.length - T % all.length) + T = m + all.length + (T - T % all.length) by have := Nat.mod_le T all.length; omega]
      have h2 : (T - T % all.length) = all.length * (T / all.length) := by have := Nat.div_add_mod T all.length; omega
      rw [h2, Nat.add_mul_mod_self_left, Nat.add_mod_right, Nat.mod_eq_of_lt hm]
    rw [e]
    exact List.getElem?_eq_getElem hm
  · rintro ⟨j, _, _, h⟩
    exact List.mem_of_getElem? h
theorem turn_ne {L T j k : Nat} (hj : j < L) (hk : k < j) : (j + T) % L ≠ (k + T) % L := by
  intro e
  have h1 := Nat.div_add_mod (j + T) L
  have h2 := Nat.div_add_mod (k + T) L
  rw [e] at h1
  have h3 : L * ((j + T) / L) - L * ((k + T) / L) = j - k := by omega
  rw [← Nat.mul_sub] at h3
  rcases Nat.eq_zero_or_pos ((j + T) / L - (k + T) / L) with h | h
  · rw [h] at h3; omega
  · have := Nat.le_mul_of_pos_right L h
    omega
theorem nodup_get {all : List Nat} (h : all.Nodup) {i j r : Nat} (hi : all[i]? = some r) (hj : all[j]? = some r) : i = j := by
  obtain ⟨h1, e1⟩ := List.getElem?_eq_some_iff.1 hi
  obtain ⟨h2, e2⟩ := List.getElem?_eq_some_iff.1 hj
  have hp := List.pairwise_iff_getElem.1 h
  rcases Nat.lt_trichotomy i j with hl | hl | hl
  · exact absurd (e1.trans e2.symm) (hp i j h1 h2 hl)
  · exact hl
  · exact absurd (e2.trans e1.symm) (hp j i h2 h1 hl)
/-- One more is struck. -/
theorem turn_step {all : List Nat} (h : all.Nodup) {T k r : Nat} (hk : k < all.length) (hr : all[(k + T) % all.length]? = some r) (x : Nat) :
    (∃ j, k + 1 ≤ j ∧ j < all.length ∧ all[(j + T) % all.length]? = some x) ↔ (∃ j, k ≤ j ∧ j < all.length ∧ all[(j + T) % all.length]? = some x) ∧ x ≠ r := by
  constructor
  · rintro ⟨j, h1, h2, h3⟩
    refine ⟨⟨j, by omega, h2, h3⟩, ?_⟩
    rintro rfl
    exact turn_ne h2 (by omega : k < j) (nodup_get h h3 hr)
  · rintro ⟨⟨j, h1, h2, h3⟩, hne⟩
    refine ⟨j, ?_, h2, h3⟩
    rcases Nat.lt_or_ge k j with h4 | h4
    · exact h4
    · obtain rfl : j = k := by omega
      rw [hr] at h3
      cases h3
      exact absurd rfl hne
end Go.Proofs.Ytapbphbnffggnaa
