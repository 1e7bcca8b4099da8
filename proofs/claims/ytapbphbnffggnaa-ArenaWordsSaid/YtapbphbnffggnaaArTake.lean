/-
  What a take and a give change of an arena, as plain data (layer 3). Conditions: the arena is as it always is; no walk.
-/
import Derived.Test.YtapbphbnffggnaaAr
namespace Go.Proofs.Ytapbphbnffggnaa
set_option linter.unusedVariables false
set_option linter.unusedSimpArgs false

/-- A takes a cell of page p, the k-th of class c. -/
structure TakeIs (A : AR) (c : Int) (r : Nat) (A' : AR) (p k : Nat) : Prop where
  wf : A'.Wf
  n : A'.n = A.n
  ids : A'.ids = A.ids
  free : A.tk r = false
  tk : A'.tk = fun j => A.tk j || decide (j = r)
  page : p < A.n
  cell : k < cN c
  ref : r = refN p c k
  was : A.cls p = c ∨ A.cls p = -1
  cls : A'.cls = updN A.cls p c
  cnt : A'.cnt = updN A.cnt p (A.cnt p + 1)
  wd : A'.wd = zeroed A.wd (r - 1) (wN c)
  /-- it is the least one -/
  least : ∀ q j, q < A.n → A.cls q = c → j < cN c → A.tk (refN q c j) = false → lexLt (p, k) (q, j) ∨ (p, k) = (q, j)
  fresh : A.cls p = -1 → k = 0 ∧ (∀ q, q < p → 0 ≤ A.cls q) ∧ ∀ q j, q < A.n → A.cls q = c → j < cN c → A.tk (refN q c j) = true

variable {A : AR}

theorem AR.Wf.take_spec (h : A.Wf) {c : Int} {r : Nat} {A' : AR} (ht : A.take c = some (r, A')) : ∃ p k, TakeIs A c r A' p k := by
  have hwf := h.take_wf ht
  unfold AR.take at ht
  by_cases hc : cN c = 0
  · rw [if_pos hc] at ht; cases ht
  · rw [if_neg hc] at ht
    have hc' : 0 < cN c := by omega
    have hc0 : 0 ≤ c := by rcases class_nat c hc' with ⟨rfl, _⟩ | ⟨rfl, _⟩ | ⟨rfl, _⟩ <;> omega
    cases hg : A.gapP c with
    | some x =>
      obtain ⟨p, k⟩ := x
      rw [hg] at ht
      cases ht
      obtain ⟨hgap, hk⟩ := h.gap_is hg
      have hp := hgap.inside
      have hcp := hgap.cls
      have hf : A.tk (refN p c k) = false := by have := hgap.free; rw [refZ_refN, h.has] at this; exact this
      have hl := (find_least (cellsL_sorted A c) hg).2.2
      refine ⟨p, k, hwf, rfl, rfl, hf, rfl, hp, hk, rfl, .inl hcp, ?_, by simp [AR.put], rfl, ?_, ?_⟩
      · funext q
        simp only [AR.put, updN]
        by_cases e : q = p
        · subst e; simp [hcp]
        · simp [e]
      · intro q j hq hqc hj htk
        rcases hl (q, j) (mem_cellsL.2 ⟨hq, hqc, hj⟩) (by simp [htk]) with e | e
        · exact .inr e.symm
        · exact .inl e
      · intro e; omega
    | none =>
      rw [hg] at ht
      simp only at ht
      cases hp : A.freeP with
      | some p =>
        rw [hp] at ht
        cases ht
        have hff := h.free_is hp
        have hin := hff.inside
        have hcp : A.cls p = -1 := by rcases h.cls p hin with e | e; exact e; have := hff.cls; omega
        have hfull : ∀ q j, q < A.n → A.cls q = c → j < cN c → A.tk (refN q c j) = true := by
          intro q j hq hqc hj
          have := List.find?_eq_none.1 hg (q, j) (mem_cellsL.2 ⟨hq, hqc, hj⟩)
          simpa using this
        have hf : A.tk (refN p c 0) = false := by
          cases hh : A.tk (refN p c 0)
          · rfl
          · obtain ⟨q, j, hq, h0, hj, e⟩ := h.cell _ hh
            have h1 := (ref_in (p := q) hj).2.2.2.1
            have h2 := (ref_in (p := p) hc').2.2.2.1
            rw [e] at h2
            obtain rfl : q = p := by omega
            omega
        have hcnt0 : A.cnt p = 0 := by rw [h.cnt p hin, hcp]; rfl
        refine ⟨p, 0, hwf, rfl, rfl, hf, rfl, hin, hc', rfl, .inr hcp, rfl, by simp [AR.put, hcnt0], rfl, ?_, fun _ => ⟨rfl, hff.ahead, hfull⟩⟩
        intro q j hq hqc hj htk
        rw [hfull q j hq hqc hj] at htk
        cases htk
      | none => rw [hp] at ht; cases ht

theorem AR.Wf.take_none (h : A.Wf) {c : Int} (ht : A.take c = none) : cN c = 0 ∨ (∀ q, q < A.n → 0 ≤ A.cls q) ∧ ∀ q j, q < A.n → A.cls q = c → j < cN c → A.tk (refN q c j) = true := by
  unfold AR.take at ht
  by_cases hc : cN c = 0
  · exact .inl hc
  · rw [if_neg hc] at ht
    refine .inr ?_
    cases hg : A.gapP c with
    | some x => rw [hg] at ht; cases ht
    | none =>
      rw [hg] at ht
      simp only at ht
      cases hp : A.freeP with
      | some p => rw [hp] at ht; cases ht
      | none =>
        constructor
        · intro q hq
          have := List.find?_eq_none.1 hp q (by simpa using hq)
          simp at this
          exact this
        · intro q j hq hqc hj
          have := List.find?_eq_none.1 hg (q, j) (mem_cellsL.2 ⟨hq, hqc, hj⟩)
          simpa using this

theorem takeA_some {c : Int} {r : Nat} {A' : AR} (ht : A.take c = some (r, A')) : A.takeA c = A' := by unfold AR.takeA; rw [ht]
theorem takeA_none {c : Int} (ht : A.take c = none) : A.takeA c = A := by unfold AR.takeA; rw [ht]

/-- What is given back. -/
theorem give_tk (A : AR) (r : Nat) (h : A.has (r : Int) = true) : (A.give (r : Int)).tk = fun j => A.tk j && !decide (j = r) := by
  unfold AR.give
  rw [if_pos h]
  rfl
theorem give_n (A : AR) (r : Int) : (A.give r).n = A.n := by
  unfold AR.give
  split <;> rfl
theorem give_ids (A : AR) (r : Int) : (A.give r).ids = A.ids := by
  unfold AR.give
  split <;> rfl

/-- All cells that are taken. -/
def sumN (f : Nat → Int) : Nat → Int
  | 0 => 0
  | n + 1 => sumN f n + f n
def AR.total (A : AR) : Int := sumN A.cnt A.n
theorem sumN_upd (f : Nat → Int) (p : Nat) (v : Int) : ∀ n, sumN (updN f p v) n = sumN f n + (if p < n then v - f p else 0)
  | 0 => by simp [sumN]
  | n + 1 => by
    simp only [sumN]
    rw [sumN_upd f p v n]
    by_cases h : p < n
    · rw [if_pos h, if_pos (by omega)]
      have : ¬ n = p := by omega
      simp [updN, this]
      omega
    · rw [if_neg h]
      by_cases e : p = n
      · subst e; simp [updN]; omega
      · have : ¬ n = p := by omega
        rw [if_neg (by omega)]
        simp [updN, this]
theorem sumN_const {f : Nat → Int} {v : Int} : ∀ n, (∀ p, p < n → f p = v) → sumN f n = (n : Int) * v
  | 0, _ => by simp [sumN]
  | n + 1, h => by
    simp only [sumN]
    rw [sumN_const n (fun p hp => h p (by omega)), h n (by omega)]
    rw [Int.natCast_add, Int.add_mul]
    simp
theorem sumN_le {f : Nat → Int} {v : Int} : ∀ n, (∀ p, p < n → f p ≤ v) → sumN f n ≤ (n : Int) * v
  | 0, _ => by simp [sumN]
  | n + 1, h => by
    simp only [sumN]
    have h1 := sumN_le n (fun p hp => h p (by omega))
    have h2 := h n (by omega)
    rw [Int.natCast_add, Int.add_mul]
    simp
    omega
theorem TakeIs.total {c : Int} {r p k : Nat} {A' : AR} (h : TakeIs A c r A' p k) : A'.total = A.total + 1 := by
  unfold AR.total
  rw [h.n, h.cnt, sumN_upd, if_pos h.page]
  omega
theorem AR.Wf.total_le (h : A.Wf) : A.total ≤ (A.n : Int) * 16 := sumN_le _ (fun p hp => (h.cnt_le hp).2)
/-- No cell is taken: no page has a class. -/
theorem AR.Wf.empty (h : A.Wf) (ht : ∀ r, A.tk r = false) : (∀ p, p < A.n → A.cls p = -1) ∧ A.total = 0 ∧ A.free = (A.n : Int) := by
  have h0 : ∀ p, p < A.n → A.cnt p = 0 := by
    intro p hp
    rw [h.cnt p hp, countP_none (by intro x _; exact ht _)]
    rfl
  have h1 : ∀ p, p < A.n → A.cls p = -1 := by
    intro p hp
    rcases h.cls p hp with e | e
    · exact e
    · have := h.some_ p hp e.1
      have := h0 p hp
      omega
  refine ⟨h1, ?_, ?_⟩
  · unfold AR.total
    rw [sumN_const (v := 0) _ h0]
    simp
  · rw [h.free, countP_all (by intro x hx; simp at hx; rw [h1 x hx]; rfl)]
    simp
/-- All is taken that one class has. -/
theorem AR.Wf.full_total (h : A.Wf) {c : Int} (hc : 0 < cN c) (ho : ∀ p, p < A.n → A.cls p = -1 ∨ A.cls p = c) (ht : A.take c = none) : A.total = (A.n : Int) * (cN c : Int) := by
  rcases h.take_none ht with e | ⟨h1, h2⟩
  · omega
  · refine sumN_const _ (fun p hp => ?_)
    have hcp : A.cls p = c := by
      rcases ho p hp with e | e
      · have := h1 p hp; omega
      · exact e
    rw [h.cnt p hp, hcp, countP_all (by intro x hx; simp at hx; exact h2 p x hp hcp hx)]
    simp
end Go.Proofs.Ytapbphbnffggnaa
