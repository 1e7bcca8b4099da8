/-
  The model that layer 3's statements keep beside the arena: what it is of an arena (plain). Conditions: the arena is as it always is.
-/
import Derived.Test.YtapbphbnffggnaaArAgain
import Derived.Test.YtapbphbnffggnaaMap
namespace Go.Proofs.Ytapbphbnffggnaa
set_option linter.unusedVariables false
set_option linter.unusedSimpArgs false
open Go.RowKit

/-- Which cells are taken, of which class. -/
def AR.mdl (A : AR) : Int → Option Int := fun x => if A.has x then some (A.clsZ (A.page x)) else none
/-- The classes of pages. -/
def AR.clsL (A : AR) : List Value := (List.range A.n).map fun p => Value.int .i64 (A.cls p)
/-- The n-th taken cell, round the end; 0: there is none. -/
def AR.nth (A : AR) (n : Int) : Int :=
  match (elems (A.n * 32 + 1) A.tk)[(n % 65536).toNat % (elems (A.n * 32 + 1) A.tk).length]? with
  | some r => (r : Int)
  | none => 0

variable {A : AR}

theorem mdl_some (A : AR) (x : Int) : (A.mdl x).isSome = A.has x := by
  unfold AR.mdl
  cases A.has x <;> rfl
theorem clsL_get {p : Nat} (hp : p < A.n) : A.clsL[p]? = some (.int .i64 (A.cls p)) := by simp [AR.clsL, hp]
theorem clsL_length (A : AR) : A.clsL.length = A.n := by simp [AR.clsL]
theorem mdl_new (n : Nat) (ids : Nat × Nat × Nat) : (AR.new n ids).mdl = fun _ => none := by
  funext x
  have : (AR.new n ids).has x = false := by unfold AR.has AR.new; simp
  unfold AR.mdl
  rw [this]
  rfl
theorem total_new (n : Nat) (ids : Nat × Nat × Nat) : (AR.new n ids).total = 0 := by
  unfold AR.total AR.new
  simp only
  rw [sumN_const (v := 0) _ (fun _ _ => rfl)]
  simp
theorem has_nat (h : A.Wf) {x : Int} (hx : A.has x = true) : ∃ r : Nat, x = (r : Int) ∧ A.tk r = true := by
  have hx' := hx
  unfold AR.has at hx
  simp at hx
  obtain ⟨r, rfl⟩ := Int.eq_ofNat_of_zero_le hx.1.1
  rw [h.has] at hx'
  exact ⟨r, rfl, hx'⟩
theorem mdl_tk (h : A.Wf) {r : Nat} (hr : A.tk r = true) : A.mdl (r : Int) = some (A.cls ((r - 1) / 32)) := by
  unfold AR.mdl
  rw [h.has, hr]
  obtain ⟨p, k, hp, _, _, _, _, hpg, hcz, hdiv⟩ := h.at_ hr
  rw [hpg, hcz, hdiv]
  rfl
theorem mdl_no (h : A.Wf) {x : Int} (hx : A.has x = false) : A.mdl x = none := by
  unfold AR.mdl
  rw [hx]
  rfl
theorem TakeIs.mdl (h : A.Wf) {c : Int} {r p k : Nat} {B : AR} (ht : TakeIs A c r B p k) : B.mdl = updM A.mdl (r : Int) (some c) := by
  funext x
  unfold updM
  have hrp : (r - 1) / 32 = p := by rw [ht.ref]; exact (ref_in ht.cell).2.2.2.1
  have hrt : B.tk r = true := by rw [ht.tk]; simp
  by_cases hx : B.has x = true
  · obtain ⟨s, rfl, hs⟩ := has_nat ht.wf hx
    rw [mdl_tk ht.wf hs]
    by_cases e : s = r
    · subst e
      rw [if_pos rfl, ht.cls, hrp]
      simp [updN]
    · have hsA : A.tk s = true := by rw [ht.tk] at hs; simpa [e] using hs
      have hne : ¬ ((s : Int) = (r : Int)) := by omega
      rw [if_neg hne, mdl_tk h hsA, ht.cls]
      congr 1
      simp only [updN]
      split
      · rename_i e2
        obtain ⟨q, _, hq, hq0, _, _, _, _, _, hdiv⟩ := h.at_ hsA
        rw [e2] at hdiv ⊢
        subst hdiv
        rcases ht.was with e3 | e3
        · exact e3.symm
        · omega
      · rfl
  · have hx' : B.has x = false := by simpa using hx
    have hne : x ≠ (r : Int) := by rintro rfl; rw [ht.wf.has, hrt] at hx'; cases hx'
    rw [mdl_no ht.wf hx', if_neg hne]
    refine (mdl_no h ?_).symm
    cases hA : A.has x
    · rfl
    · obtain ⟨s, rfl, hs⟩ := has_nat h hA
      rw [ht.wf.has, ht.tk] at hx'
      simp [hs] at hx'
theorem TakeIs.clsL {c : Int} {r p k : Nat} {B : AR} (ht : TakeIs A c r B p k) : B.clsL = A.clsL.set p (.int .i64 c) := by
  unfold AR.clsL
  rw [ht.n, ht.cls]
  apply List.ext_getElem?
  intro i
  rw [List.getElem?_set]
  by_cases hi : i < A.n
  · by_cases e : p = i
    · subst e; simp [hi, updN]
    · have e' : ¬ i = p := fun h => e h.symm
      simp [hi, updN, e, e']
  · have h1 : ¬ p = i := by have := ht.page; omega
    simp [hi, h1]

/-- A page with one cell: no other is taken in it. -/
theorem AR.Wf.alone (h : A.Wf) {r : Nat} (hr : A.tk r = true) : A.cnt ((r - 1) / 32) = 1 ↔ ∀ x : Nat, (A.give (r : Int)).tk x = true → (x - 1) / 32 ≠ (r - 1) / 32 := by
  obtain ⟨p, k, hp, h0, h2, hk, e, hpg, hcz, hdiv⟩ := h.at_ hr
  have hwf := h.give_wf (r : Int)
  have hcls := h.give_is hr hp hdiv
  have hn := give_n A (r : Int)
  rw [hdiv]
  constructor
  · intro h1 x hx e2
    obtain ⟨q, j, hq, hq0, _, _, _, _, _, hd2⟩ := hwf.at_ hx
    rw [hcls, if_pos h1] at hq0
    have : q = p := by omega
    subst this
    simp [updN] at hq0
  · intro hall
    by_cases h1 : A.cnt p = 1
    · exact h1
    · exfalso
      rw [if_neg h1] at hcls
      have h3 := hwf.some_ p (by rw [hn]; exact hp) (by rw [hcls]; exact h0)
      rw [hwf.cnt p (by rw [hn]; exact hp)] at h3
      have h4 : 0 < (List.range (cN ((A.give (r : Int)).cls p))).countP (fun k => (A.give (r : Int)).tk (refN p ((A.give (r : Int)).cls p) k)) := by omega
      rw [List.countP_pos_iff] at h4
      obtain ⟨j, hj, htk⟩ := h4
      simp at hj
      exact hall _ htk (ref_in hj).2.2.2.1
theorem AR.Wf.give_mdl (h : A.Wf) {r : Nat} (hr : A.tk r = true) : (A.give (r : Int)).mdl = updM A.mdl (r : Int) none := by
  have hh : A.has (r : Int) = true := by rw [h.has]; exact hr
  have hwf := h.give_wf (r : Int)
  have htk := give_tk A r hh
  funext x
  unfold updM
  by_cases hx : (A.give (r : Int)).has x = true
  · obtain ⟨s, rfl, hs⟩ := has_nat hwf hx
    have hs' := hs
    rw [htk] at hs
    simp at hs
    have hne : ¬ ((s : Int) = (r : Int)) := by omega
    rw [if_neg hne, mdl_tk hwf hs', mdl_tk h hs.1]
    obtain ⟨p, k, hp, h0, h2, hk, e, hpg, hcz, hdiv⟩ := h.at_ hr
    rw [h.give_is hr hp hdiv]
    split
    · rename_i h1
      have := (h.alone hr).1 (by rw [hdiv]; exact h1) s hs'
      rw [hdiv] at this
      simp [updN, this]
    · rfl
  · have hx' : (A.give (r : Int)).has x = false := by simpa using hx
    rw [mdl_no hwf hx']
    split
    · rfl
    · rename_i hne
      refine (mdl_no h ?_).symm
      cases hA : A.has x
      · rfl
      · obtain ⟨s, rfl, hs⟩ := has_nat h hA
        rw [hwf.has, htk] at hx'
        simp [hs] at hx'
        omega
theorem AR.Wf.give_clsL (h : A.Wf) {r : Nat} (hr : A.tk r = true) : (A.give (r : Int)).clsL = if A.cnt ((r - 1) / 32) = 1 then A.clsL.set ((r - 1) / 32) (.int .i64 (-1)) else A.clsL := by
  obtain ⟨p, k, hp, h0, h2, hk, e, hpg, hcz, hdiv⟩ := h.at_ hr
  rw [hdiv]
  unfold AR.clsL
  rw [give_n, h.give_is hr hp hdiv]
  split
  · apply List.ext_getElem?
    intro i
    rw [List.getElem?_set]
    by_cases hi : i < A.n
    · by_cases e : p = i
      · subst e; simp [hi, updN]
      · have e' : ¬ i = p := fun h => e h.symm
        simp [hi, updN, e, e']
    · have h1 : ¬ p = i := by omega
      simp [hi, h1]
  · rfl
theorem AR.Wf.give_total (h : A.Wf) {r : Nat} (hr : A.tk r = true) : (A.give (r : Int)).total = A.total - 1 := by
  obtain ⟨p, k, hp, h0, h2, hk, e, hpg, hcz, hdiv⟩ := h.at_ hr
  have hh : A.has (r : Int) = true := by rw [h.has]; exact hr
  have hc : (A.give (r : Int)).cnt = updN A.cnt p (A.cnt p - 1) := by
    unfold AR.give
    rw [if_pos hh]
    unfold AR.drop
    simp only [Int.toNat_natCast, hdiv]
  unfold AR.total
  rw [give_n, hc, sumN_upd, if_pos hp]
  omega
theorem sumN_nonneg {f : Nat → Int} : ∀ n, (∀ p, p < n → 0 ≤ f p) → 0 ≤ sumN f n
  | 0, _ => by simp [sumN]
  | n + 1, h => by
    simp only [sumN]
    have h1 := sumN_nonneg n (fun p hp => h p (by omega))
    have h2 := h n (by omega)
    omega
theorem AR.Wf.total_nonneg (h : A.Wf) : 0 ≤ A.total := sumN_nonneg _ (fun p hp => (h.cnt_le hp).1)
theorem AR.Wf.total_small (h : A.Wf) : A.total ≤ 1024 := by
  have h1 := h.total_le
  have h2 := h.few
  omega
theorem nth_range (h : A.Wf) (num : Int) : 0 ≤ A.nth num ∧ A.nth num ≤ 5000 := by
  unfold AR.nth
  split
  · rename_i r hr
    have := mem_elems.1 (List.mem_of_getElem? hr)
    have h2 := h.few
    omega
  · omega
theorem nth_wf (h : A.Wf) (num : Int) : (Lit.int .i64 (A.nth num)).wf = true := by
  have := nth_range h num
  simp only [Lit.wf, Bool.and_eq_true, decide_eq_true_eq]
  rw [show IntKind.i64.min = -9223372036854775808 from by decide, show IntKind.i64.max = 9223372036854775807 from by decide]
  omega
theorem give_no {r : Int} (hr : A.has r = false) : A.give r = A := by
  unfold AR.give
  rw [hr]
  rfl
end Go.Proofs.Ytapbphbnffggnaa
