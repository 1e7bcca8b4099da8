/-
  All taken cells are those of all pages, rising (plain). Conditions: the arena is as it always is.
-/
import Derived.Test.YtapbphbnffggnaaArAgain
namespace Go.Proofs.Ytapbphbnffggnaa
set_option linter.unusedVariables false
set_option linter.unusedSimpArgs false

theorem sorted_ext : ∀ {l1 l2 : List Nat}, l1.Pairwise (· < ·) → l2.Pairwise (· < ·) → (∀ x, x ∈ l1 ↔ x ∈ l2) → l1 = l2
  | [], [], _, _, _ => rfl
  | [], b :: l2, _, _, h => by have := (h b).2 (by simp); simp at this
  | a :: l1, [], _, _, h => by have := (h a).1 (by simp); simp at this
  | a :: l1, b :: l2, h1, h2, h => by
    rw [List.pairwise_cons] at h1 h2
    have hab : a = b := by
      have ha := (h a).1 (by simp)
      have hb := (h b).2 (by simp)
      simp at ha hb
      rcases ha with ha | ha
      · exact ha
      · rcases hb with hb | hb
        · exact hb.symm
        · have := h1.1 b hb
          have := h2.1 a ha
          omega
    subst hab
    congr 1
    refine sorted_ext h1.2 h2.2 (fun x => ?_)
    have hx := h x
    simp at hx
    constructor
    · intro hm
      rcases hx.1 (.inr hm) with rfl | h3
      · have := h1.1 x hm; omega
      · exact h3
    · intro hm
      rcases hx.2 (.inr hm) with rfl | h3
      · have := h2.1 x hm; omega
      · exact h3
theorem elems_sorted (n : Nat) (S : Nat → Bool) : (elems n S).Pairwise (· < ·) := List.Pairwise.filter _ List.pairwise_lt_range

variable {A : AR}

theorem mem_cellsOf (h : A.Wf) {p : Nat} (hp : p < A.n) {x : Nat} : x ∈ A.cellsOf (p : Int) ↔ A.tk x = true ∧ (x - 1) / 32 = p := by
  have e : A.clsZ (p : Int) = A.cls p := by unfold AR.clsZ; rw [if_pos (by omega)]; simp
  unfold AR.cellsOf AR.cellsUpto
  rw [e]
  simp only [List.mem_filter, List.mem_map, List.mem_range, Int.toNat_natCast]
  constructor
  · rintro ⟨⟨k, hk, rfl⟩, ht⟩
    exact ⟨ht, (ref_in hk).2.2.2.1⟩
  · rintro ⟨ht, hx⟩
    obtain ⟨q, k, hq, h0, _, hk, he, _, _, hdiv⟩ := h.at_ ht
    have : q = p := by omega
    subst this
    exact ⟨⟨k, hk, he.symm⟩, ht⟩
theorem cellsOf_sorted (A : AR) (p : Int) : (A.cellsOf p).Pairwise (· < ·) := by
  unfold AR.cellsOf AR.cellsUpto
  refine List.Pairwise.filter _ ?_
  rw [List.pairwise_map]
  refine List.pairwise_lt_range.imp_of_mem ?_
  intro a b ha hb hab
  simp at ha hb
  have hw := (ref_in (p := p.toNat) hb).2.2.1
  unfold refN
  have := Nat.mul_lt_mul_of_pos_right hab hw
  omega
theorem elems_cells (h : A.Wf) : elems (A.n * 32 + 1) A.tk = (List.range A.n).flatMap fun p : Nat => A.cellsOf (p : Int) := by
  refine sorted_ext (elems_sorted _ _) ?_ ?_
  · rw [List.pairwise_flatMap]
    refine ⟨fun p _ => cellsOf_sorted A p, ?_⟩
    refine List.pairwise_lt_range.imp_of_mem ?_
    intro p q hp hq hpq x hx y hy
    simp at hp hq
    have h1 := (mem_cellsOf h hp).1 hx
    have h2 := (mem_cellsOf h hq).1 hy
    have := h.lt h1.1
    have := h.lt h2.1
    omega
  · intro x
    rw [mem_elems, List.mem_flatMap]
    constructor
    · rintro ⟨_, ht⟩
      obtain ⟨q, k, hq, h0, _, hk, he, _, _, hdiv⟩ := h.at_ ht
      exact ⟨q, by simpa using hq, (mem_cellsOf h hq).2 ⟨ht, hdiv⟩⟩
    · rintro ⟨p, hp, hx⟩
      simp at hp
      have := (mem_cellsOf h hp).1 hx
      exact ⟨(h.lt this.1).2.1, this.1⟩
theorem flat_length (A : AR) (h : A.Wf) : ∀ m, m ≤ A.n → ((((List.range m).flatMap fun p : Nat => A.cellsOf (p : Int)).length : Nat) : Int) = sumN A.cnt m
  | 0, _ => by simp [sumN]
  | m + 1, hm => by
    rw [List.range_succ, List.flatMap_append, List.length_append]
    simp only [List.flatMap_cons, List.flatMap_nil, List.append_nil, sumN]
    have h1 := flat_length A h m (by omega)
    have h2 := h.cells_length (p := m) (by omega)
    omega
theorem elems_length (h : A.Wf) : (((elems (A.n * 32 + 1) A.tk).length : Nat) : Int) = A.total := by
  rw [elems_cells h]
  exact flat_length A h A.n (Nat.le_refl _)
end Go.Proofs.Ytapbphbnffggnaa
