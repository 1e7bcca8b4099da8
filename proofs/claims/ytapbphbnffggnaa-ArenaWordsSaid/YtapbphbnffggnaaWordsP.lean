/-
  What layer 3's words are told, as plain data, and the map of it. Conditions: as each theorem says; no walk.
-/
import Derived.Test.YtapbphbnffggnaaArObj
import Derived.Test.YtapbphbnffggnaaModel3
import Derived.Test.YtapbphbnffggnaaMapG
import Derived.WideKeyPair
import Derived.DeepKeys4
namespace Go.Proofs.Ytapbphbnffggnaa
set_option linter.unusedVariables false
set_option linter.unusedSimpArgs false
open Go.RowKit Go.WideMaps Go.Maps

theorem modelR_setW (m : Nat) (A : AR) (r j x : Int) : modelR m (A.setW r j x) = modelR m A := by
  unfold AR.setW
  split <;> rfl

theorem laidOut55 : laidOutB Try.prog = true := by kernel_rfl
theorem row58 : (58 : TypeId) < Try.prog.types.size := of_decide_eq_true (by kernel_rfl)
theorem cells58 : Try.prog.cellsOf 58 = 2 := by kernel_rfl
theorem arr58 : ArrKey Try.prog 58 3 2 := ⟨Try.underlying58, by kernel_rfl, by kernel_rfl, cells58⟩
theorem wide58 : (match Try.prog.underlying 58 with | some (.array _ _) | some (.struct _) => true | _ => false) = true := by rw [Try.underlying58]
set_option maxRecDepth 100000 in
theorem law58 : KeyLaw Try.prog 58 := deep_law_laid laidOut55 (m := 2) (by omega) row58 (by kernel_rfl) wide58
theorem keyed58 : Keyed Try.prog 58 := Keyed.of_law law58
theorem some_of_lt {a n : Nat} (h : a < n) : ∃ m, n = m + 1 := ⟨n - 1, by omega⟩
theorem size58 : ∃ m, Try.prog.types.size = m + 1 := some_of_lt row58

/-- The key of word j of the cell r. -/
def lit2 (r j : Nat) : Lit := .string (keyBytes [.int .i64 (r : Int), .int .i64 (j : Int)])
theorem wfn {r : Nat} (h : r ≤ 1000000) : (Lit.int .i64 (r : Int)).wf = true := by
  simp only [Lit.wf, Bool.and_eq_true, decide_eq_true_eq]
  rw [show IntKind.i64.min = -9223372036854775808 from by decide, show IntKind.i64.max = 9223372036854775807 from by decide]
  omega
theorem key2 {r j : Nat} (hr : r ≤ 1000000) (hj : j ≤ 1000000) : keyOf Try.prog 58 (.agg #[.int .i64 (r : Int), .int .i64 (j : Int)]) = some (lit2 r j) :=
  keyOf_pair arr58 Try.underlying3 size58 (wfn hr) (wfn hj)
theorem lit2_inj {r j r' j' : Nat} (hr : r ≤ 1000000) (hj : j ≤ 1000000) (hr' : r' ≤ 1000000) (hj' : j' ≤ 1000000) (h : lit2 r j = lit2 r' j') : r = r' ∧ j = j' := by
  have h1 := key2 hr hj
  have h2 := key2 hr' hj'
  rw [← h] at h2
  have := keyed58.inj h1 h2
  simp at this
  omega

theorem AR.Wf.give_word {A : AR} (h : A.Wf) (r : Int) {r' : Nat} (ht : (A.give r).tk r' = true) : A.tk r' = true ∧ (A.give r).room r' = A.room r' ∧ ∀ j : Int, (A.give r).wordZ (r' : Int) j = A.wordZ (r' : Int) j := by
  cases hh : A.has r with
  | false =>
    have e : A.give r = A := by unfold AR.give; rw [hh]; rfl
    rw [e] at ht ⊢
    exact ⟨ht, rfl, fun _ => rfl⟩
  | true =>
    obtain ⟨R, rfl, hR⟩ := has_nat h hh
    have hw' := h.give_wf (R : Int)
    have hA : A.tk r' = true := by
      have := give_tk A R hh
      rw [this] at ht
      simp at ht
      exact ht.1
    have hroom : (A.give (R : Int)).room r' = A.room r' := by
      obtain ⟨p', q', hp', hc0', hc2', hq', href', _, _, hdiv'⟩ := hw'.at_ ht
      obtain ⟨p, q, hp, hc0, hc2, hq, href, _, _, hdiv⟩ := h.at_ hR
      unfold AR.room
      rw [hdiv']
      have hcls := h.give_is hR hp hdiv
      rw [hcls] at hc0' ⊢
      split at hc0'
      · rename_i e1
        rw [if_pos e1]
        unfold updN at hc0' ⊢
        split at hc0'
        · omega
        · rename_i e2; rw [if_neg e2]
      · rename_i e1; rw [if_neg e1]
    refine ⟨hA, hroom, fun j => ?_⟩
    have hwd : (A.give (R : Int)).wd = A.wd := by
      unfold AR.give
      rw [hh]
      rfl
    unfold AR.wordZ
    rw [hw'.okW_iff ht, h.okW_iff hA, hroom, hwd]

/-- What was said of a taken cell's words, is so. -/
def Told (B : AR) (M : Lit → Option Value) : Prop := ∀ r j : Nat, B.tk r = true → j < B.room r → M (lit2 r j) = some (.int .i64 (B.wordZ (r : Int) (j : Int)))

theorem Told.give {B : AR} {M : Lit → Option Value} (h : Told B M) (hw : B.Wf) (r : Int) : Told (B.give r) M := by
  intro r' j ht hj
  obtain ⟨h1, h2, h3⟩ := hw.give_word r ht
  rw [h2] at hj
  rw [h3]
  exact h r' j h1 hj
theorem room_le {B : AR} (h : B.Wf) {r : Nat} (hr : B.tk r = true) : 1 ≤ B.room r ∧ B.room r ≤ 8 ∧ r ≤ 1000000 ∧ 1 ≤ r := by
  obtain ⟨p, q, hp, hc0, hc2, hq, href, _, _, hdiv⟩ := h.at_ hr
  have h1 := (h.lt hr)
  have h2 := h.few
  unfold AR.room
  rw [hdiv]
  rcases class_nat (B.cls p) (by omega) with ⟨_, _, e⟩ | ⟨_, _, e⟩ | ⟨_, _, e⟩ <;> rw [e] <;> omega
/-- Words of no taken cell are told. -/
theorem Told.other {B : AR} {M : Lit → Option Value} (h : Told B M) (hw : B.Wf) {r k : Nat} (hr : B.tk r = false) (hr6 : r ≤ 1000000) (hk : k ≤ 1000000) (c : Value) : Told B (updG M (lit2 r k) c) := by
  intro r' j ht hj
  obtain ⟨_, h1, h2, _⟩ := room_le hw ht
  rw [updG_other]
  · exact h r' j ht hj
  · intro e
    obtain ⟨rfl, _⟩ := lit2_inj h2 (by omega) hr6 hk e
    rw [hr] at ht
    cases ht
/-- The first k words of the cell r are told. -/
structure Told2 (B : AR) (M : Lit → Option Value) (r k : Nat) : Prop where
  tk : B.tk r = true
  rest : ∀ r' j : Nat, B.tk r' = true → j < B.room r' → (r' ≠ r ∨ j < k) → M (lit2 r' j) = some (.int .i64 (B.wordZ (r' : Int) (j : Int)))
  zero : ∀ j : Nat, k ≤ j → B.wordZ (r : Int) (j : Int) = 0
theorem Told2.begin {B B' : AR} {M : Lit → Option Value} {c : Int} {r p q : Nat} (h : Told B M) (hw : B.Wf) (ht : TakeIs B c r B' p q) : Told2 B' M r 0 := by
  refine ⟨ht.tk_new, ?_, fun j _ => ht.word_new j⟩
  intro r' j h1 h2 h3
  have hne : r' ≠ r := by rcases h3 with h3 | h3; exact h3; omega
  have hold : B.tk r' = true := by
    rw [ht.tk] at h1
    simpa [hne] using h1
  rw [ht.room_old hw hold] at h2
  rw [ht.word_old hw hold]
  exact h r' j hold h2
theorem Told2.step {B : AR} {M : Lit → Option Value} {r k : Nat} (h : Told2 B M r k) (hw : B.Wf) (hk : k < B.room r) (x : Int) : Told2 (B.setW (r : Int) (k : Int) x) (updG M (lit2 r k) (.int .i64 x)) r (k + 1) := by
  have hb := room_le hw h.tk
  refine ⟨by rw [(setW_tk B _ _ _).1]; exact h.tk, ?_, ?_⟩
  · intro r' j h1 h2 h3
    rw [(setW_tk B _ _ _).1] at h1
    rw [setW_room] at h2
    obtain ⟨_, h8, hb6, _⟩ := room_le hw h1
    rw [hw.wordZ_setW h.tk hk x h1 j]
    by_cases e : r' = r ∧ j = k
    · obtain ⟨rfl, rfl⟩ := e
      rw [updG_same, if_pos ⟨rfl, rfl⟩]
    · rw [if_neg e, updG_other]
      · refine h.rest r' j h1 h2 ?_
        by_cases e1 : r' = r
        · right
          rcases h3 with h3 | h3
          · exact absurd e1 h3
          · have : j ≠ k := fun e2 => e ⟨e1, e2⟩
            omega
        · exact .inl e1
      · intro e2
        exact e (lit2_inj hb6 (by omega) hb.2.2.1 (by omega) e2)
  · intro j hj
    rw [hw.wordZ_setW h.tk hk x h.tk j, if_neg (by omega)]
    exact h.zero j (by omega)
theorem Told2.done {B : AR} {M : Lit → Option Value} {r k : Nat} (h : Told2 B M r k) (hk : k = B.room r) : Told B M := fun r' j h1 h2 => h.rest r' j h1 h2 (by
  by_cases e : r' = r
  · subst e; right; omega
  · exact .inl e)
end Go.Proofs.Ytapbphbnffggnaa
