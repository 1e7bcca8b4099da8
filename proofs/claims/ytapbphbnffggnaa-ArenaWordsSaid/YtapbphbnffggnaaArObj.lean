/-
  Words of taken cells as plain data (layer 4). Conditions: as each theorem says; no walk.
-/
import Derived.Test.YtapbphbnffggnaaArAgain
import Derived.Test.YtapbphbnffggnaaArenaWord
namespace Go.Proofs.Ytapbphbnffggnaa
set_option linter.unusedVariables false
set_option linter.unusedSimpArgs false
open Go.RowKit

variable {A : AR}

/-- The words of the cell r. -/
def AR.room (A : AR) (r : Nat) : Nat := wN (A.cls ((r - 1) / 32))

theorem AR.Wf.okW_iff (h : A.Wf) {r : Nat} (hr : A.tk r = true) (j : Int) : A.okW (r : Int) j = (decide (0 ≤ j) && decide (j < (A.room r : Int))) := by
  obtain ⟨p, q, hp, hc0, hc2, hq, href, hpg, hcz, hdiv⟩ := h.at_ hr
  unfold AR.okW AR.room
  rw [h.has, hr, hpg, hcz, hdiv, words_wN]
  simp
theorem AR.okW_none (h : A.Wf) {r : Nat} (hr : A.tk r = false) (j : Int) : A.okW (r : Int) j = false := by
  unfold AR.okW
  rw [h.has, hr]
  rfl

theorem AR.Wf.word_apart (h : A.Wf) {r r' : Nat} (hr : A.tk r = true) (hr' : A.tk r' = true) {j j' : Nat} (hj : j < A.room r) (hj' : j' < A.room r') (e : r - 1 + j = r' - 1 + j') : r = r' ∧ j = j' := by
  obtain ⟨p, q, hp, hc0, hc2, hq, href, _, _, hdiv⟩ := h.at_ hr
  obtain ⟨p', q', hp', hc0', hc2', hq', href', _, _, hdiv'⟩ := h.at_ hr'
  unfold AR.room at hj hj'
  rw [hdiv] at hj
  rw [hdiv'] at hj'
  have i1 := ref_in (p := p) hq
  have i2 := ref_in (p := p') hq'
  rw [← href] at i1
  rw [← href'] at i2
  have hpp : p = p' := by omega
  subst hpp
  have e1 : r = p * 32 + q * wN (A.cls p) + 1 := href
  have e2 : r' = p * 32 + q' * wN (A.cls p) + 1 := href'
  have hw : 0 < wN (A.cls p) := i1.2.2.1
  have hqq : q = q' := by
    have h1 : (q * wN (A.cls p) + j) / wN (A.cls p) = q := by
      rw [Nat.mul_comm, Nat.mul_add_div hw, Nat.div_eq_of_lt hj]; rfl
    have h2 : (q' * wN (A.cls p) + j') / wN (A.cls p) = q' := by
      rw [Nat.mul_comm, Nat.mul_add_div hw, Nat.div_eq_of_lt hj']; rfl
    have h3 : q * wN (A.cls p) + j = q' * wN (A.cls p) + j' := by omega
    rw [← h1, h3, h2]
  subst hqq
  omega

theorem setW_tk (A : AR) (r j x : Int) : (A.setW r j x).tk = A.tk ∧ (A.setW r j x).n = A.n ∧ (A.setW r j x).cls = A.cls ∧ (A.setW r j x).ids = A.ids ∧ (A.setW r j x).free = A.free ∧ (A.setW r j x).cnt = A.cnt := by
  unfold AR.setW
  split <;> simp
theorem setW_room (A : AR) (r j x : Int) (r' : Nat) : (A.setW r j x).room r' = A.room r' := by
  unfold AR.room
  rw [(setW_tk A r j x).2.2.1]
theorem setW_okW (A : AR) (r j x r' j' : Int) : (A.setW r j x).okW r' j' = A.okW r' j' := by
  unfold AR.setW
  split <;> rfl

/-- A word behind a store. -/
theorem AR.Wf.wordZ_setW (h : A.Wf) {r : Nat} (hr : A.tk r = true) {j : Nat} (hj : j < A.room r) (x : Int) {r' : Nat} (hr' : A.tk r' = true) (j' : Nat) :
    (A.setW (r : Int) (j : Int) x).wordZ (r' : Int) (j' : Int) = if r' = r ∧ j' = j then x else A.wordZ (r' : Int) (j' : Int) := by
  have hok : A.okW (r : Int) (j : Int) = true := by rw [h.okW_iff hr]; simp; omega
  have h1 := (h.lt hr).1
  have h1' := (h.lt hr').1
  unfold AR.wordZ
  rw [setW_okW]
  cases hok' : A.okW (r' : Int) (j' : Int) with
  | false =>
    have : ¬ (r' = r ∧ j' = j) := by
      rintro ⟨rfl, rfl⟩
      rw [hok] at hok'
      cases hok'
    simp [this]
  | true =>
    have hj' : j' < A.room r' := by
      rw [h.okW_iff hr'] at hok'
      simp at hok'
      omega
    unfold AR.setW
    rw [if_pos hok]
    simp only [if_true, updN]
    have e1 : ((r : Int) - 1 + (j : Int)).toNat = r - 1 + j := by omega
    have e2 : ((r' : Int) - 1 + (j' : Int)).toNat = r' - 1 + j' := by omega
    rw [e1, e2]
    by_cases he : r' - 1 + j' = r - 1 + j
    · obtain ⟨rfl, rfl⟩ := h.word_apart hr' hr hj' hj he
      simp
    · rw [if_neg he, if_neg (by rintro ⟨rfl, rfl⟩; exact he rfl)]

section
variable {c : Int} {r p k : Nat} {A' : AR}
theorem TakeIs.tk_new (h : TakeIs A c r A' p k) : A'.tk r = true := by rw [h.tk]; simp
theorem TakeIs.tk_old (h : TakeIs A c r A' p k) {r' : Nat} (hr' : A.tk r' = true) : A'.tk r' = true ∧ r' ≠ r := by
  refine ⟨by rw [h.tk]; simp [hr'], ?_⟩
  rintro rfl
  have := h.free
  rw [hr'] at this
  cases this
theorem TakeIs.div (h : TakeIs A c r A' p k) : (r - 1) / 32 = p := by
  have i := ref_in (p := p) h.cell
  rw [← h.ref] at i
  exact i.2.2.2.1
theorem TakeIs.room_new (h : TakeIs A c r A' p k) : A'.room r = wN c := by
  unfold AR.room
  rw [h.div, h.cls]
  simp [updN]
theorem TakeIs.room_old (h : TakeIs A c r A' p k) (hw : A.Wf) {r' : Nat} (hr' : A.tk r' = true) : A'.room r' = A.room r' := by
  obtain ⟨p', q', hp', hc0', hc2', hq', href', _, _, hdiv'⟩ := hw.at_ hr'
  unfold AR.room
  rw [hdiv', h.cls]
  unfold updN
  by_cases e : p' = p
  · subst e
    rw [if_pos rfl]
    rcases h.was with e1 | e1
    · rw [e1]
    · omega
  · rw [if_neg e]
/-- A new cell's words. -/
theorem TakeIs.word_new (h : TakeIs A c r A' p k) (j : Nat) : A'.wordZ (r : Int) (j : Int) = 0 := by
  have hr := h.tk_new
  have h1 := (h.wf.lt hr).1
  unfold AR.wordZ
  cases hok : A'.okW (r : Int) (j : Int) with
  | false => rfl
  | true =>
    rw [h.wf.okW_iff hr, h.room_new] at hok
    simp at hok
    rw [if_pos rfl, h.wd, show ((r : Int) - 1 + (j : Int)).toNat = r - 1 + j by omega]
    unfold zeroed
    rw [if_pos (by omega)]
/-- The other cells' words. -/
theorem TakeIs.word_old (h : TakeIs A c r A' p k) (hw : A.Wf) {r' : Nat} (hr' : A.tk r' = true) (j : Nat) : A'.wordZ (r' : Int) (j : Int) = A.wordZ (r' : Int) (j : Int) := by
  obtain ⟨ht', hne⟩ := h.tk_old hr'
  have h1 := (hw.lt hr').1
  have h2 := (h.wf.lt h.tk_new).1
  have hrm := h.room_old hw hr'
  unfold AR.wordZ
  rw [h.wf.okW_iff ht', hw.okW_iff hr', hrm]
  cases hok : (decide (0 ≤ (j : Int)) && decide ((j : Int) < (A.room r' : Int))) with
  | false => rfl
  | true =>
    simp at hok
    rw [if_pos rfl, if_pos rfl, h.wd, show ((r' : Int) - 1 + (j : Int)).toNat = r' - 1 + j by omega]
    unfold zeroed
    by_cases e : r - 1 ≤ r' - 1 + j ∧ r' - 1 + j < r - 1 + wN c
    · have := h.wf.word_apart ht' h.tk_new (j := j) (j' := r' - 1 + j - (r - 1)) (by rw [hrm]; omega) (by rw [h.room_new]; omega) (by omega)
      exact absurd this.1 hne
    · rw [if_neg e]
end
end Go.Proofs.Ytapbphbnffggnaa
