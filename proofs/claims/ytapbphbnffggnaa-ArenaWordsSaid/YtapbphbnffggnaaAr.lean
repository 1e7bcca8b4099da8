/-
  The arena as plain data: what holds of it always, what a take and a give do (layer 3). Conditions: as each theorem says; no walk.
-/
import Derived.Test.YtapbphbnffggnaaTake
import Derived.Test.YtapbphbnffggnaaNew
import Derived.Test.YtapbphbnffggnaaGive
namespace Go.Proofs.Ytapbphbnffggnaa
set_option linter.unusedVariables false
set_option linter.unusedSimpArgs false
open Go.RowKit

def wN (c : Int) : Nat := (wordsZ c).toNat
def cN (c : Int) : Nat := (cellsZ c).toNat
def refN (p : Nat) (c : Int) (k : Nat) : Nat := p * 32 + k * wN c + 1

theorem class_nat (c : Int) (h : 0 < cN c) : c = 0 ∧ cN c = 16 ∧ wN c = 2 ∨ c = 1 ∧ cN c = 8 ∧ wN c = 4 ∨ c = 2 ∧ cN c = 4 ∧ wN c = 8 := by
  rcases class_cases c with h1 | rfl | rfl | rfl | h1
  · unfold cN at h; rw [cellsZ_out (.inl h1)] at h; simp at h
  · exact .inl ⟨rfl, rfl, rfl⟩
  · exact .inr (.inl ⟨rfl, rfl, rfl⟩)
  · exact .inr (.inr ⟨rfl, rfl, rfl⟩)
  · unfold cN at h; rw [cellsZ_out (.inr h1)] at h; simp at h
theorem cN_of (c : Int) (h0 : 0 ≤ c) (h2 : c ≤ 2) : 0 < cN c := by
  rcases (by omega : c = 0 ∨ c = 1 ∨ c = 2) with rfl | rfl | rfl <;> decide
theorem cN_out {c : Int} (h : c < 0 ∨ 3 ≤ c) : cN c = 0 := by unfold cN; rw [cellsZ_out h]; rfl
theorem cells_cN (c : Int) : cellsZ c = (cN c : Int) := by have := cells_nonneg c; unfold cN; omega
theorem words_wN (c : Int) : wordsZ c = (wN c : Int) := by have := words_nonneg c; unfold wN; omega
theorem refZ_refN (p : Nat) (c : Int) (k : Nat) : refZ (p : Int) c (k : Int) = ((refN p c k : Nat) : Int) := by
  unfold refZ refN
  rw [words_wN]
  simp
theorem ref_in {p : Nat} {c : Int} {k : Nat} (hk : k < cN c) : p * 32 + 1 ≤ refN p c k ∧ refN p c k + wN c ≤ p * 32 + 33 ∧ 0 < wN c ∧ (refN p c k - 1) / 32 = p ∧ (refN p c k - 1) % 32 = k * wN c := by
  unfold refN
  rcases class_nat c (by omega) with ⟨rfl, h1, h2⟩ | ⟨rfl, h1, h2⟩ | ⟨rfl, h1, h2⟩ <;> rw [h1] at hk <;> rw [h2] <;> omega
theorem ref_inj {p p' : Nat} {c : Int} {k k' : Nat} (hk : k < cN c) (hk' : k' < cN c) (h : refN p c k = refN p' c k') : p = p' ∧ k = k' := by
  have h1 := (ref_in (p := p) hk).2.2.2
  have h2 := (ref_in (p := p') hk').2.2.2
  rw [h] at h1
  refine ⟨by omega, ?_⟩
  have h3 : k * wN c = k' * wN c := by omega
  exact Nat.eq_of_mul_eq_mul_right (ref_in (p := p) hk).2.2.1 h3

/-- What holds of an arena always. -/
structure AR.Wf (A : AR) : Prop where
  few : A.n ≤ 64
  cls : ∀ p, p < A.n → A.cls p = -1 ∨ (0 ≤ A.cls p ∧ A.cls p ≤ 2)
  cell : ∀ r, A.tk r = true → ∃ p k, p < A.n ∧ 0 ≤ A.cls p ∧ k < cN (A.cls p) ∧ r = refN p (A.cls p) k
  cnt : ∀ p, p < A.n → A.cnt p = (((List.range (cN (A.cls p))).countP fun k => A.tk (refN p (A.cls p) k) : Nat) : Int)
  some_ : ∀ p, p < A.n → 0 ≤ A.cls p → 0 < A.cnt p
  free : A.free = (((List.range A.n).countP fun p => decide (A.cls p < 0) : Nat) : Int)

theorem countP_all {l : List Nat} {f : Nat → Bool} (h : ∀ x ∈ l, f x = true) : l.countP f = l.length := List.countP_eq_length.2 h
theorem countP_none {l : List Nat} {f : Nat → Bool} (h : ∀ x ∈ l, f x = false) : l.countP f = 0 := List.countP_eq_zero.2 (fun x hx => by simp [h x hx])
theorem countP_same {l : List Nat} {f g : Nat → Bool} (h : ∀ x ∈ l, f x = g x) : l.countP f = l.countP g := List.countP_congr (fun x hx => by simp [h x hx])
theorem countP_up {n k : Nat} {f g : Nat → Bool} (hk : k < n) (hf : f k = false) (hg : g k = true) (h : ∀ x, x < n → x ≠ k → g x = f x) : (List.range n).countP g = (List.range n).countP f + 1 := by
  induction n with
  | zero => omega
  | succ n ih =>
    rw [List.range_succ, List.countP_append, List.countP_append]
    by_cases e : k = n
    · subst e
      rw [countP_same (l := List.range k) (f := g) (g := f) (fun x hx => by simp at hx; exact h x (by omega) (by omega))]
      simp [hf, hg]
    · rw [ih (by omega) (fun x hx hne => h x (by omega) hne)]
      have := h n (by omega) (fun e' => e e'.symm)
      simp [List.countP_cons, this]
      omega

theorem AR.new_wf (m : Nat) (ids : Nat × Nat × Nat) (hm : m ≤ 64) : (AR.new m ids).Wf := by
  refine ⟨hm, fun p _ => .inl rfl, fun r h => by simp [AR.new] at h, fun p _ => ?_, fun p _ h => ?_, ?_⟩
  · rw [countP_none (by intro x _; rfl)]; rfl
  · simp [AR.new] at h
  · rw [countP_all (by intro x _; rfl)]; simp [AR.new]

variable {A : AR}

theorem AR.Wf.cnt_le (h : A.Wf) {p : Nat} (hp : p < A.n) : 0 ≤ A.cnt p ∧ A.cnt p ≤ 16 := by
  rw [h.cnt p hp]
  have h1 : (List.range (cN (A.cls p))).countP (fun k => A.tk (refN p (A.cls p) k)) ≤ _ := List.countP_le_length
  have h2 := cells_nonneg (A.cls p)
  rw [cells_cN] at h2
  simp at h1
  omega
theorem AR.Wf.free_le (h : A.Wf) : 0 ≤ A.free ∧ A.free ≤ 64 := by
  rw [h.free]
  have h1 : (List.range A.n).countP (fun p => decide (A.cls p < 0)) ≤ _ := List.countP_le_length
  have := h.few
  simp at h1
  omega
theorem AR.Wf.lt (h : A.Wf) {r : Nat} (hr : A.tk r = true) : 1 ≤ r ∧ r < A.n * 32 + 1 ∧ (r : Int) < A.size := by
  obtain ⟨p, k, hp, h0, hk, rfl⟩ := h.cell r hr
  have := ref_in (p := p) hk
  unfold AR.size
  omega
theorem AR.Wf.has (h : A.Wf) (r : Nat) : A.has (r : Int) = A.tk r := by
  unfold AR.has
  cases hr : A.tk r
  · simp [hr]
  · have := (h.lt hr).2.2
    simp [this, hr]
theorem AR.Wf.has_neg (_h : A.Wf) {r : Int} (hr : r < 0) : A.has r = false := by
  unfold AR.has
  simp
  intro h
  omega

/-- The least free cell of pages of a class. -/
def AR.cellsL (A : AR) (c : Int) : List (Nat × Nat) := (List.range A.n).flatMap fun p => if A.cls p = c then (List.range (cN c)).map fun k => (p, k) else []
def AR.gapP (A : AR) (c : Int) : Option (Nat × Nat) := (A.cellsL c).find? fun x => !A.tk (refN x.1 c x.2)
def AR.freeP (A : AR) : Option Nat := (List.range A.n).find? fun p => decide (A.cls p < 0)
/-- What a take of a class comes to. -/
def AR.take (A : AR) (c : Int) : Option (Nat × AR) :=
  if cN c = 0 then none else
  match A.gapP c with
  | some (p, k) => some (refN p c k, A.put false c p (refN p c k))
  | none => match A.freeP with
    | some p => some (refN p c 0, A.put true c p (refN p c 0))
    | none => none

def lexLt (x y : Nat × Nat) : Prop := x.1 < y.1 ∨ x.1 = y.1 ∧ x.2 < y.2
theorem find_least {α : Type} {R : α → α → Prop} {f : α → Bool} : ∀ {l : List α} {b : α}, l.Pairwise R → l.find? f = some b → b ∈ l ∧ f b = true ∧ ∀ x ∈ l, f x = true → x = b ∨ R b x
  | [], _, _, h => by simp at h
  | a :: l, b, hp, h => by
    rw [List.pairwise_cons] at hp
    rw [List.find?_cons] at h
    cases hf : f a
    · rw [hf] at h
      obtain ⟨h1, h2, h3⟩ := find_least hp.2 h
      refine ⟨List.mem_cons_of_mem _ h1, h2, fun x hx hfx => ?_⟩
      rcases List.mem_cons.1 hx with rfl | hx
      · rw [hf] at hfx; cases hfx
      · exact h3 x hx hfx
    · rw [hf] at h
      simp at h
      subst h
      refine ⟨List.mem_cons_self, hf, fun x hx _ => ?_⟩
      rcases List.mem_cons.1 hx with rfl | hx
      · exact .inl rfl
      · exact .inr (hp.1 x hx)
theorem cellsL_sorted (A : AR) (c : Int) : (A.cellsL c).Pairwise lexLt := by
  unfold AR.cellsL
  rw [List.pairwise_flatMap]
  refine ⟨fun p _ => ?_, ?_⟩
  · split
    · rw [List.pairwise_map]
      exact List.pairwise_lt_range.imp (fun h => .inr ⟨rfl, h⟩)
    · exact List.Pairwise.nil
  · refine List.pairwise_lt_range.imp ?_
    intro p q hpq x hx y hy
    split at hx
    · split at hy
      · simp at hx hy
        obtain ⟨_, _, rfl⟩ := hx
        obtain ⟨_, _, rfl⟩ := hy
        exact .inl hpq
      · simp at hy
    · simp at hx
theorem mem_cellsL {c : Int} {p k : Nat} : (p, k) ∈ A.cellsL c ↔ p < A.n ∧ A.cls p = c ∧ k < cN c := by
  unfold AR.cellsL
  simp only [List.mem_flatMap, List.mem_range]
  constructor
  · rintro ⟨q, hq, h⟩
    split at h
    · simp at h
      obtain ⟨h1, rfl⟩ := h
      exact ⟨hq, by assumption, h1⟩
    · simp at h
  · rintro ⟨h1, h2, h3⟩
    exact ⟨p, h1, by rw [if_pos h2]; simp [h3]⟩

theorem AR.Wf.full_of (h : A.Wf) {c : Int} {q : Nat} (hq : q < A.n) (hc : 0 < cN c) (ha : A.cls q = c → ∀ k, k < cN c → A.tk (refN q c k) = true) : A.full c q := by
  by_cases h1 : A.cls q = c
  · refine .inr (.inl ⟨h1, ?_⟩)
    rw [h.cnt q hq, h1, countP_all (by intro x hx; simp at hx; exact ha h1 x hx), cells_cN]
    simp
  · exact .inl h1
theorem AR.Wf.gap_is (h : A.Wf) {c : Int} {p k : Nat} (hg : A.gapP c = some (p, k)) : IsGap A c p k ∧ k < cN c := by
  obtain ⟨h1, h2, h3⟩ := find_least (cellsL_sorted A c) hg
  obtain ⟨hp, hc, hk⟩ := mem_cellsL.1 h1
  simp at h2
  have hC : 0 < cN c := by omega
  have key : ∀ q j, q < A.n → A.cls q = c → j < cN c → lexLt (q, j) (p, k) → A.tk (refN q c j) = true := by
    intro q j hq hqc hj hlt
    cases ht : A.tk (refN q c j)
    · rcases h3 (q, j) (mem_cellsL.2 ⟨hq, hqc, hj⟩) (by simp [ht]) with e | hl
      · simp at e
        obtain ⟨rfl, rfl⟩ := e
        rcases hlt with h | h <;> simp at h
      · rcases hlt with h | h <;> rcases hl with h' | h' <;> simp at h h' <;> omega
    · rfl
  refine ⟨⟨hp, hc, ?_, by omega, by rw [cells_cN]; omega, ?_, ?_, ?_⟩, hk⟩
  · rw [h.cnt p hp, hc, cells_cN]
    intro e
    have e2 : (List.range (cN c)).countP (fun j => A.tk (refN p c j)) = (List.range (cN c)).length := by simp; omega
    have := List.countP_eq_length.1 e2 k (by simp [hk])
    rw [h2] at this
    cases this
  · rw [refZ_refN, h.has]; exact h2
  · intro j hj0 hj1
    obtain ⟨j, rfl⟩ := Int.eq_ofNat_of_zero_le hj0
    rw [refZ_refN, h.has]
    exact key p j hp hc (by omega) (.inr ⟨rfl, by simp; omega⟩)
  · intro q hq
    exact h.full_of (by omega) hC (fun hqc j hj => key q j (by omega) hqc hj (.inl hq))
theorem AR.Wf.gap_none (h : A.Wf) {c : Int} (hc : 0 < cN c) (hg : A.gapP c = none) : A.allFull c := by
  intro q hq
  refine h.full_of hq hc (fun hqc k hk => ?_)
  have := List.find?_eq_none.1 hg (q, k) (mem_cellsL.2 ⟨hq, hqc, hk⟩)
  simpa using this
theorem AR.Wf.free_is (_h : A.Wf) {p : Nat} (hg : A.freeP = some p) : FirstFree A p := by
  obtain ⟨h1, h2, h3⟩ := find_least (List.pairwise_lt_range (n := A.n)) hg
  simp at h1 h2
  refine ⟨h1, h2, fun q hq => ?_⟩
  by_cases hn : A.cls q < 0
  · rcases h3 q (by simp; omega) (by simpa using hn) with e | e <;> omega
  · omega
theorem AR.Wf.free_none (h : A.Wf) : A.freeP = none ↔ A.free ≤ 0 := by
  rw [h.free]
  unfold AR.freeP
  rw [List.find?_eq_none]
  constructor
  · intro hn
    rw [countP_none (by intro x hx; simpa using hn x hx)]
    simp
  · intro hn x hx
    have h1 : (List.range A.n).countP (fun p => decide (A.cls p < 0)) = 0 := by omega
    have := List.countP_eq_zero.1 h1 x hx
    simpa using this

/-- Is there room for a cell of a class? -/
theorem AR.Wf.room (h : A.Wf) (c : Int) : RoomIs A c (A.take c).isSome := by
  unfold AR.take
  by_cases hc : cN c = 0
  · rw [if_pos hc]
    exact .none (by rw [cells_cN, hc]; rfl)
  · rw [if_neg hc]
    have hz : cellsZ c ≠ 0 := by rw [cells_cN]; omega
    cases hg : A.gapP c with
    | some x =>
      obtain ⟨p, k⟩ := x
      exact .gap hz p k (h.gap_is hg).1
    | none =>
      have hf := h.gap_none (by omega) hg
      cases hp : A.freeP with
      | some p =>
        refine .page hz hf ?_
        have h1 := mt h.free_none.2 (by rw [hp]; simp)
        omega
      | none => exact .full hz hf (h.free_none.1 hp)

theorem put_gap_wf (h : A.Wf) {c : Int} {p k : Nat} (hg : A.gapP c = some (p, k)) : (A.put false c p (refN p c k)).Wf := by
  obtain ⟨hg, hk⟩ := h.gap_is hg
  have hp := hg.inside
  have hc := hg.cls
  have ht : A.tk (refN p c k) = false := by have := hg.free; rw [refZ_refN, h.has] at this; exact this
  refine ⟨h.few, h.cls, ?_, ?_, ?_, h.free⟩
  · intro r hr
    simp [AR.put] at hr
    rcases hr with hr | rfl
    · exact h.cell r hr
    · refine ⟨p, k, hp, ?_, by simpa [AR.put, hc] using hk, by simp [AR.put, hc]⟩
      simp only [AR.put]
      rcases class_nat c (by omega) with ⟨rfl, _⟩ | ⟨rfl, _⟩ | ⟨rfl, _⟩ <;> simp [hc]
  · intro q hq
    simp only [AR.put, Bool.false_eq_true, if_false]
    by_cases e : q = p
    · subst e
      rw [updN_self, h.cnt q hp, hc]
      have := countP_up (n := cN c) (k := k) (f := fun j => A.tk (refN q c j)) (g := fun j => A.tk (refN q c j) || decide (refN q c j = refN q c k)) hk ht (by simp) (by
        intro x hx hne
        have : refN q c x ≠ refN q c k := fun e => hne (ref_inj hx hk e).2
        simp [this])
      omega
    · simp only [updN, if_neg e]
      have hq' : q < A.n := hq
      rw [h.cnt q hq']
      congr 1
      refine countP_same (fun x hx => ?_)
      simp at hx
      have : refN q (A.cls q) x ≠ refN p c k := by
        intro e2
        have h1 := (ref_in (p := q) hx).2.2.2.1
        have h2 := (ref_in (p := p) hk).2.2.2.1
        rw [e2] at h1
        omega
      simp [this]
  · intro q hq h0
    simp only [AR.put, Bool.false_eq_true, if_false] at h0 ⊢
    by_cases e : q = p
    · subst e
      rw [updN_self]
      have := (h.cnt_le hp).1
      omega
    · simp only [updN, if_neg e]
      exact h.some_ q hq h0
theorem put_new_wf (h : A.Wf) {c : Int} {p : Nat} (hc : 0 < cN c) (hp : A.freeP = some p) : (A.put true c p (refN p c 0)).Wf := by
  have hf := h.free_is hp
  have hin := hf.inside
  have hcp : A.cls p = -1 := by rcases h.cls p hin with e | e; exact e; have := hf.cls; omega
  have hc02 : 0 ≤ c ∧ c ≤ 2 := by rcases class_nat c (by omega) with ⟨rfl, _⟩ | ⟨rfl, _⟩ | ⟨rfl, _⟩ <;> simp
  have hno : ∀ k, k < cN c → A.tk (refN p c k) = false := by
    intro k hk
    cases ht : A.tk (refN p c k)
    · rfl
    · obtain ⟨q, j, hq, h0, hj, e⟩ := h.cell _ ht
      have h1 := (ref_in (p := q) hj).2.2.2.1
      have h2 := (ref_in (p := p) hk).2.2.2.1
      rw [e] at h2
      obtain rfl : q = p := by omega
      omega
  refine ⟨h.few, ?_, ?_, ?_, ?_, ?_⟩
  · intro q hq
    simp only [AR.put, if_true, updN]
    by_cases e : q = p
    · rw [if_pos e]; exact .inr hc02
    · rw [if_neg e]; exact h.cls q hq
  · intro r hr
    simp [AR.put] at hr
    rcases hr with hr | rfl
    · obtain ⟨q, k, hq, h0, hk, rfl⟩ := h.cell r hr
      have hne : q ≠ p := by rintro rfl; omega
      exact ⟨q, k, hq, by simpa [AR.put, updN, hne] using h0, by simpa [AR.put, updN, hne] using hk, by simp [AR.put, updN, hne]⟩
    · exact ⟨p, 0, hin, by simpa [AR.put, updN] using hc02.1, by simpa [AR.put, updN] using hc, by simp [AR.put, updN]⟩
  · intro q hq
    simp only [AR.put, if_true]
    by_cases e : q = p
    · subst e
      rw [updN_self, updN_self]
      have h1 := countP_up (n := cN c) (k := 0) (f := fun j => A.tk (refN q c j)) (g := fun j => A.tk (refN q c j) || decide (refN q c j = refN q c 0)) hc (hno 0 hc) (by simp) (by
        intro x hx hne
        have : refN q c x ≠ refN q c 0 := fun e => hne (ref_inj hx hc e).2
        simp [this])
      have h2 : (List.range (cN c)).countP (fun j => A.tk (refN q c j)) = 0 := countP_none (by intro x hx; simp at hx; exact hno x hx)
      omega
    · simp only [updN, if_neg e]
      have hq' : q < A.n := hq
      rw [h.cnt q hq']
      congr 1
      refine countP_same (fun x hx => ?_)
      simp at hx
      have : refN q (A.cls q) x ≠ refN p c 0 := by
        intro e2
        have h1 := (ref_in (p := q) hx).2.2.2.1
        have h2 := (ref_in (p := p) hc).2.2.2.1
        rw [e2] at h1
        omega
      simp [this]
  · intro q hq h0
    simp only [AR.put, if_true] at h0 ⊢
    by_cases e : q = p
    · subst e
      rw [updN_self]
      omega
    · simp only [updN, if_neg e] at h0 ⊢
      exact h.some_ q hq h0
  · show (if true then A.free - 1 else A.free) = _
    rw [if_pos rfl, h.free]
    rw [countP_up (n := A.n) (k := p) (f := fun q => decide ((A.put true c p (refN p c 0)).cls q < 0)) (g := fun q => decide (A.cls q < 0)) hin ?_ ?_ ?_]
    · show _ = (((List.range A.n).countP fun p_1 => decide ((A.put true c p (refN p c 0)).cls p_1 < 0) : Nat) : Int)
      omega
    · simp [AR.put, updN]; omega
    · simpa using hf.cls
    · intro x _ hne
      simp [AR.put, updN, hne]

theorem AR.Wf.take_wf (h : A.Wf) {c : Int} {r : Nat} {A' : AR} (ht : A.take c = some (r, A')) : A'.Wf := by
  unfold AR.take at ht
  by_cases hc : cN c = 0
  · rw [if_pos hc] at ht; cases ht
  · rw [if_neg hc] at ht
    cases hg : A.gapP c with
    | some x =>
      obtain ⟨p, k⟩ := x
      rw [hg] at ht
      cases ht
      exact put_gap_wf h hg
    | none =>
      rw [hg] at ht
      simp only at ht
      cases hp : A.freeP with
      | some p =>
        rw [hp] at ht
        cases ht
        exact put_new_wf h (by omega) hp
      | none => rw [hp] at ht; cases ht

theorem AR.Wf.drop_wf (h : A.Wf) {r : Nat} (hr : A.tk r = true) : (A.drop r).Wf := by
  obtain ⟨p, k, hp, h0, hk, rfl⟩ := h.cell r hr
  have hpg : (refN p (A.cls p) k - 1) / 32 = p := (ref_in hk).2.2.2.1
  have hother : ∀ q j, q < A.n → q ≠ p → j < cN (A.cls q) → refN q (A.cls q) j ≠ refN p (A.cls p) k := by
    intro q j _ hne hj e2
    have h1 := (ref_in (p := q) hj).2.2.2.1
    rw [e2] at h1
    omega
  have hcount : (List.range (cN (A.cls p))).countP (fun j => A.tk (refN p (A.cls p) j)) = (List.range (cN (A.cls p))).countP (fun j => A.tk (refN p (A.cls p) j) && !decide (refN p (A.cls p) j = refN p (A.cls p) k)) + 1 := by
    refine countP_up hk (by simp) hr ?_
    intro x hx hne
    have : refN p (A.cls p) x ≠ refN p (A.cls p) k := fun e => hne (ref_inj hx hk e).2
    simp [this]
  have hcp := h.cnt p hp
  unfold AR.drop
  rw [hpg]
  by_cases hone : A.cnt p = 1
  · simp only [if_pos hone]
    have hz : (List.range (cN (A.cls p))).countP (fun j => A.tk (refN p (A.cls p) j) && !decide (refN p (A.cls p) j = refN p (A.cls p) k)) = 0 := by omega
    refine ⟨h.few, ?_, ?_, ?_, ?_, ?_⟩
    · intro q hq
      simp only [updN]
      by_cases e : q = p
      · rw [if_pos e]; exact .inl rfl
      · rw [if_neg e]; exact h.cls q hq
    · intro r hr'
      simp at hr'
      obtain ⟨hr', hne⟩ := hr'
      obtain ⟨q, j, hq, h0', hj, rfl⟩ := h.cell r hr'
      have hqp : q ≠ p := by
        rintro rfl
        have := List.countP_eq_zero.1 hz j (by simpa using hj)
        simp [hr', hne] at this
      exact ⟨q, j, hq, by simpa [updN, hqp] using h0', by simpa [updN, hqp] using hj, by simp [updN, hqp]⟩
    · intro q hq
      by_cases e : q = p
      · subst e
        simp only [updN_self]
        rw [hone, show cN (-1) = 0 from rfl]
        rfl
      · simp only [updN, if_neg e]
        rw [h.cnt q hq]
        congr 1
        refine countP_same (fun x hx => ?_)
        simp at hx
        simp [hother q x hq e hx]
    · intro q hq h0'
      simp only [updN] at h0' ⊢
      by_cases e : q = p
      · rw [if_pos e] at h0'; omega
      · rw [if_neg e] at h0' ⊢; exact h.some_ q hq h0'
    · show A.free + 1 = (((List.range A.n).countP fun q => decide (updN A.cls p (-1) q < 0) : Nat) : Int)
      rw [h.free, countP_up (n := A.n) (k := p) (f := fun q => decide (A.cls q < 0)) (g := fun q => decide (updN A.cls p (-1) q < 0)) hp (by simp; omega) (by simp [updN])]
      · simp
      · intro x _ hne; simp [updN, hne]
  · simp only [if_neg hone]
    refine ⟨h.few, h.cls, ?_, ?_, ?_, h.free⟩
    · intro r hr'
      simp at hr'
      exact h.cell r hr'.1
    · intro q hq
      by_cases e : q = p
      · subst e
        simp only [updN_self]
        omega
      · simp only [updN, if_neg e]
        rw [h.cnt q hq]
        congr 1
        refine countP_same (fun x hx => ?_)
        simp at hx
        simp [hother q x hq e hx]
    · intro q hq h0'
      simp only [updN]
      by_cases e : q = p
      · subst e
        rw [if_pos rfl]
        have := h.some_ q hq h0'
        omega
      · rw [if_neg e]; exact h.some_ q hq h0'
theorem AR.Wf.cnt_pos (h : A.Wf) {r : Nat} (hr : A.tk r = true) : 1 ≤ A.cnt ((r - 1) / 32) ∧ A.cnt ((r - 1) / 32) ≤ 16 := by
  obtain ⟨p, k, hp, h0, hk, rfl⟩ := h.cell r hr
  rw [(ref_in hk).2.2.2.1]
  have := h.some_ p hp h0
  have := h.cnt_le hp
  omega

/-- A cell is given back, if it is taken. -/
def AR.give (A : AR) (r : Int) : AR := if A.has r then A.drop r.toNat else A
theorem AR.Wf.give_wf (h : A.Wf) (r : Int) : (A.give r).Wf := by
  unfold AR.give
  cases hr : A.has r
  · simpa using h
  · simp only [if_true]
    refine h.drop_wf ?_
    unfold AR.has at hr
    simp at hr
    exact hr.2
def AR.takeA (A : AR) (c : Int) : AR := match A.take c with | some (_, A') => A' | none => A
theorem AR.Wf.takeA_wf (h : A.Wf) (c : Int) : (A.takeA c).Wf := by
  unfold AR.takeA
  cases ht : A.take c with
  | none => exact h
  | some x => obtain ⟨r, A'⟩ := x; exact h.take_wf ht
end Go.Proofs.Ytapbphbnffggnaa
