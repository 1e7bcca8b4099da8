/-
  What ArenaAgain leans on: a cell that was given back is free again (plain). Conditions: the arena is as it always is.
-/
import Derived.Test.YtapbphbnffggnaaArTake
import Derived.Test.YtapbphbnffggnaaCellsIter
namespace Go.Proofs.Ytapbphbnffggnaa
set_option linter.unusedVariables false
set_option linter.unusedSimpArgs false

variable {A : AR}

/-- Where a taken cell lies. -/
theorem AR.Wf.at_ (h : A.Wf) {r : Nat} (hr : A.tk r = true) : ∃ p k, p < A.n ∧ 0 ≤ A.cls p ∧ A.cls p ≤ 2 ∧ k < cN (A.cls p) ∧ r = refN p (A.cls p) k ∧ A.page (r : Int) = (p : Int) ∧ A.clsZ (p : Int) = A.cls p ∧ (r - 1) / 32 = p := by
  obtain ⟨p, k, hp, h0, hk, e⟩ := h.cell r hr
  have hb := ref_in (p := p) hk
  rw [← e] at hb
  have hlt := (h.lt hr).2.2
  refine ⟨p, k, hp, h0, ?_, hk, e, ?_, ?_, hb.2.2.2.1⟩
  · rcases h.cls p hp with e1 | e1 <;> omega
  · unfold AR.page
    rw [if_pos ⟨by omega, hlt⟩]
    omega
  · unfold AR.clsZ
    rw [if_pos (by omega)]
    simp
theorem AR.Wf.cells_length (h : A.Wf) {p : Nat} (hp : p < A.n) : ((A.cellsOf (p : Int)).length : Int) = A.cnt p := by
  have e : A.clsZ (p : Int) = A.cls p := by unfold AR.clsZ; rw [if_pos (by omega)]; simp
  rw [h.cnt p hp]
  unfold AR.cellsOf AR.cellsUpto
  rw [e]
  rw [← List.countP_eq_length_filter, List.countP_map]
  rfl
theorem refN_mono {c : Int} {p q k j : Nat} (hk : k < cN c) (hj : j < cN c) (h : lexLt (p, k) (q, j) ∨ (p, k) = (q, j)) : refN p c k ≤ refN q c j := by
  have h1 := ref_in (p := p) hk
  have h2 := ref_in (p := q) hj
  rcases h with (h | ⟨h, h'⟩) | h
  · simp at h; omega
  · simp at h h'
    subst h
    unfold refN
    have := Nat.mul_le_mul_right (wN c) (Nat.le_of_lt h')
    omega
  · simp at h
    rw [h.1, h.2]
    exact Nat.le_refl _
theorem AR.Wf.give_is (h : A.Wf) {r p : Nat} (hr : A.tk r = true) (hp : p < A.n) (hpp : (r - 1) / 32 = p) : (A.give (r : Int)).cls = (if A.cnt p = 1 then updN A.cls p (-1) else A.cls) := by
  have hh : A.has (r : Int) = true := by rw [h.has]; exact hr
  unfold AR.give
  rw [if_pos hh]
  unfold AR.drop
  simp only [Int.toNat_natCast, hpp]
theorem AR.Wf.again (h : A.Wf) {r : Nat} (hr : A.tk r = true) (hne : A.cnt ((r - 1) / 32) ≠ 1) :
    ∃ x B, (A.give (r : Int)).take (A.clsZ (A.page (r : Int))) = some (x, B) ∧ x ≤ r ∧ B.Wf ∧ x < 3000 ∧ B.clsZ (B.page (x : Int)) = A.clsZ (A.page (r : Int)) := by
  obtain ⟨p, k, hp, h0, h2, hk, e, hpg, hcz, hdiv⟩ := h.at_ hr
  rw [hpg, hcz]
  have hcls : (A.give (r : Int)).cls = A.cls := by
    rw [h.give_is hr hp hdiv, if_neg (by rw [← hdiv]; exact hne)]
  have hwf := h.give_wf (r : Int)
  have htk := give_tk A r (by rw [h.has]; exact hr)
  have hfree : (A.give (r : Int)).tk (refN p (A.cls p) k) = false := by rw [htk, ← e]; simp
  cases ht : (A.give (r : Int)).take (A.cls p) with
  | none =>
    rcases hwf.take_none ht with h3 | ⟨_, h3⟩
    · omega
    · have := h3 p k (by rw [give_n]; exact hp) (by rw [hcls]) hk
      rw [hfree] at this
      cases this
  | some y =>
    obtain ⟨x, B⟩ := y
    obtain ⟨q, j, hti⟩ := hwf.take_spec ht
    have hl := hti.least p k (by rw [give_n]; exact hp) (by rw [hcls]) hk hfree
    have hle : x ≤ r := by rw [hti.ref, e]; exact refN_mono hti.cell hk hl
    refine ⟨x, B, rfl, hle, hti.wf, ?_, ?_⟩
    · have := (h.lt hr).2.1
      have := h.few
      omega
    · have hx : B.tk x = true := by rw [hti.tk]; simp
      obtain ⟨p', k', _, _, _, hk', e', hpg', hcz', hdiv'⟩ := hti.wf.at_ hx
      rw [hpg', hcz']
      have hq := (ref_in (p := q) hti.cell).2.2.2.1
      rw [← hti.ref] at hq
      obtain rfl : p' = q := by omega
      rw [hti.cls]
      simp [updN]
end Go.Proofs.Ytapbphbnffggnaa
