/-
  An arena that cells of one class alone were taken of, k of them (layer 3): as plain data, and what the next take does. Conditions: at most 64 pages.
-/
import Derived.Test.YtapbphbnffggnaaTake
import Derived.Test.YtapbphbnffggnaaNew
namespace Go.Proofs.Ytapbphbnffggnaa
open Go.RowKit

/-- m pages, C cells of W words a page, k taken, of class c. -/
def fillA (m : Nat) (c : Int) (C W k : Nat) : AR :=
  { n := m
    cls := fun p => if p * C < k then c else -1
    cnt := fun p => ((min C (k - p * C) : Nat) : Int)
    wd := fun _ => 0
    tk := fun j => decide (1 ≤ j) && decide ((j - 1) % W = 0) && decide ((j - 1) / W < k)
    free := ((m : Int) - (((k + C - 1) / C : Nat) : Int)) }

/-- The class c has C cells of W words. -/
structure ClassIs (c : Int) (C W : Nat) : Prop where
  cells : cellsZ c = (C : Int)
  words : wordsZ c = (W : Int)
  which : c = 0 ∧ C = 16 ∧ W = 2 ∨ c = 1 ∧ C = 8 ∧ W = 4 ∨ c = 2 ∧ C = 4 ∧ W = 8

theorem class_is (c : Int) (h0 : 0 ≤ c) (h2 : c ≤ 2) : ∃ C W, ClassIs c C W := by
  rcases (by omega : c = 0 ∨ c = 1 ∨ c = 2) with rfl | rfl | rfl
  · exact ⟨16, 2, rfl, rfl, .inl ⟨rfl, rfl, rfl⟩⟩
  · exact ⟨8, 4, rfl, rfl, .inr (.inl ⟨rfl, rfl, rfl⟩)⟩
  · exact ⟨4, 8, rfl, rfl, .inr (.inr ⟨rfl, rfl, rfl⟩)⟩

variable {m : Nat} {c : Int} {C W k : Nat}

theorem fill_zero (h : ClassIs c C W) : fillA m c C W 0 = AR.new m := by
  unfold fillA AR.new
  congr 1
  all_goals first
    | (funext p; simp; done)
    | (rcases h.which with ⟨_, rfl, _⟩ | ⟨_, rfl, _⟩ | ⟨_, rfl, _⟩ <;> simp)

theorem fill_has (h : ClassIs c C W) (p : Nat) (j : Nat) (hp : p < m) (hj : j < C) : (fillA m c C W k).has (refZ (p : Int) c (j : Int)) = decide (p * C + j < k) := by
  have e : refZ (p : Int) c (j : Int) = ((p * 32 + j * W + 1 : Nat) : Int) := by unfold refZ; rw [h.words]; simp
  rw [e]
  unfold AR.has AR.size fillA
  simp only
  rw [Bool.eq_iff_iff]
  simp only [Bool.and_eq_true, decide_eq_true_eq, Int.toNat_natCast]
  rcases h.which with ⟨_, rfl, rfl⟩ | ⟨_, rfl, rfl⟩ | ⟨_, rfl, rfl⟩ <;> omega

theorem fill_full_page (h : ClassIs c C W) (q : Nat) (hq : (q + 1) * C ≤ k) : (fillA m c C W k).full c q := by
  refine .inr (.inl ⟨?_, ?_⟩)
  · unfold fillA
    simp only
    rw [if_pos]
    rcases h.which with ⟨_, rfl, _⟩ | ⟨_, rfl, _⟩ | ⟨_, rfl, _⟩ <;> omega
  · unfold fillA
    simp only
    rw [h.cells]
    rcases h.which with ⟨_, rfl, _⟩ | ⟨_, rfl, _⟩ | ⟨_, rfl, _⟩ <;> omega

theorem fill_gap (h : ClassIs c C W) (hk : k < m * C) (hr : k % C ≠ 0) : IsGap (fillA m c C W k) c (k / C) ((k % C : Nat) : Int) := by
  have hC : 0 < C := by rcases h.which with ⟨_, rfl, _⟩ | ⟨_, rfl, _⟩ | ⟨_, rfl, _⟩ <;> omega
  have hp : k / C < m := by rw [Nat.div_lt_iff_lt_mul hC]; exact hk
  have hj : k % C < C := Nat.mod_lt _ hC
  have hdm : k / C * C + k % C = k := by rw [Nat.mul_comm]; exact Nat.div_add_mod k C
  refine ⟨hp, ?_, ?_, by omega, by rw [h.cells]; omega, ?_, ?_, ?_⟩
  · show (if k / C * C < k then c else -1) = c
    rw [if_pos (by omega)]
  · show ((min C (k - k / C * C) : Nat) : Int) ≠ _
    rw [h.cells]
    omega
  · rw [fill_has h _ _ hp hj, hdm]; simp
  · intro j hj0 hj1
    obtain ⟨i, rfl⟩ := Int.eq_ofNat_of_zero_le hj0
    rw [fill_has h _ _ hp (by omega)]
    simp
    omega
  · intro q hq
    refine fill_full_page h q ?_
    have : (q + 1) * C ≤ k / C * C := Nat.mul_le_mul_right _ hq
    omega

theorem fill_new (h : ClassIs c C W) (hm : m ≤ 64) (hk : k < m * C) (hr : k % C = 0) : (fillA m c C W k).allFull c ∧ FirstFree (fillA m c C W k) (k / C) ∧ 0 < (fillA m c C W k).free ∧ (fillA m c C W k).free ≤ 64 := by
  have hC : 0 < C := by rcases h.which with ⟨_, rfl, _⟩ | ⟨_, rfl, _⟩ | ⟨_, rfl, _⟩ <;> omega
  have hp : k / C < m := by rw [Nat.div_lt_iff_lt_mul hC]; exact hk
  have hdm : k / C * C + k % C = k := by rw [Nat.mul_comm]; exact Nat.div_add_mod k C
  have hc0 : 0 ≤ c := by rcases h.which with ⟨rfl, _, _⟩ | ⟨rfl, _, _⟩ | ⟨rfl, _, _⟩ <;> omega
  refine ⟨?_, ⟨hp, ?_, ?_⟩, ?_, ?_⟩
  · intro q hq
    by_cases hl : (q + 1) * C ≤ k
    · exact fill_full_page h q hl
    · refine .inl ?_
      show (if q * C < k then c else -1) ≠ c
      have hqk : k / C ≤ q := by
        rcases Nat.lt_or_ge q (k / C) with hlt | hge
        · have : (q + 1) * C ≤ k / C * C := Nat.mul_le_mul_right _ hlt
          omega
        · exact hge
      have : k / C * C ≤ q * C := Nat.mul_le_mul_right _ hqk
      rw [if_neg (by omega)]
      omega
  · show (if k / C * C < k then c else -1) < 0
    rw [if_neg (by omega)]
    omega
  · intro q hq
    show 0 ≤ (if q * C < k then c else -1)
    have : (q + 1) * C ≤ k / C * C := Nat.mul_le_mul_right _ hq
    have h2 : q * C < (q + 1) * C := by rw [Nat.add_mul]; omega
    rw [if_pos (by omega)]
    exact hc0
  · show 0 < ((m : Int) - (((k + C - 1) / C : Nat) : Int))
    rcases h.which with ⟨_, rfl, _⟩ | ⟨_, rfl, _⟩ | ⟨_, rfl, _⟩ <;> omega
  · show ((m : Int) - (((k + C - 1) / C : Nat) : Int)) ≤ 64
    have := Int.natCast_nonneg ((k + C - 1) / C)
    omega

theorem fill_put (h : ClassIs c C W) (hk : k < m * C) (b : Bool) (hb : b = decide (k % C = 0)) : (fillA m c C W k).put b c (k / C) (k * W + 1) = fillA m c C W (k + 1) := by
  have hC : 0 < C := by rcases h.which with ⟨_, rfl, _⟩ | ⟨_, rfl, _⟩ | ⟨_, rfl, _⟩ <;> omega
  unfold AR.put fillA
  congr 1
  · funext q
    rcases h.which with ⟨_, rfl, _⟩ | ⟨_, rfl, _⟩ | ⟨_, rfl, _⟩
    all_goals
      cases b
      · have hb := of_decide_eq_false hb.symm
        simp only [Bool.false_eq_true, if_false]
        split <;> split <;> first | rfl | omega
      · have hb := of_decide_eq_true hb.symm
        simp only [if_true, updN]
        split <;> split <;> first | rfl | omega | (split <;> first | rfl | omega)
  · funext q
    rcases h.which with ⟨_, rfl, _⟩ | ⟨_, rfl, _⟩ | ⟨_, rfl, _⟩
    all_goals
      simp only [updN]
      cases b
      · have hb := of_decide_eq_false hb.symm
        simp only [Bool.false_eq_true, if_false]
        split <;> omega
      · have hb := of_decide_eq_true hb.symm
        simp only [if_true]
        split <;> omega
  · funext i
    unfold zeroed
    split <;> rfl
  · funext j
    rw [Bool.eq_iff_iff]
    simp only [Bool.or_eq_true, Bool.and_eq_true, decide_eq_true_eq]
    rcases h.which with ⟨_, _, rfl⟩ | ⟨_, _, rfl⟩ | ⟨_, _, rfl⟩ <;> omega
  · rcases h.which with ⟨_, rfl, _⟩ | ⟨_, rfl, _⟩ | ⟨_, rfl, _⟩
    all_goals
      cases b
      · have hb := of_decide_eq_false hb.symm
        simp only [Bool.false_eq_true, if_false]
        omega
      · have hb := of_decide_eq_true hb.symm
        simp only [if_true]
        omega

end Go.Proofs.Ytapbphbnffggnaa
