/-
  What holds of every machine of phases. Conditions: as the theorem says.
-/
import Derived.Test.YtamecbanginjmaaPhaseLeavesW
namespace Go.Proofs.Ytamecbanginjmaa
open Go.RowKit Go.ChangeShapes


/-- What holds of every machine of phases that calls have led to. -/
structure PInv (s : PS) (k : Int) : Prop where
  now0 : 0 ≤ s.now
  now4 : s.now ≤ 4
  r0 : 0 ≤ s.rounds
  r1 : s.rounds ≤ k
  idle : s.now = 0 ∨ s.now = 4 → ∀ t, s.armed t = false
  mid : s.now = 2 ∨ s.now = 3 → ∀ t, 0 ≤ t → t < 4 → s.armed t = s.live t
  dead : ∀ t, s.live t = false → s.armed t = false
  acked : s.now = 1 → ∀ t, s.live t = true → s.acked t = true → s.armed t = true

theorem pinv_zero : PInv PS.zero 0 := by
  constructor <;> simp [PS.zero]

theorem upd_same (f : Int → Bool) (t : Int) (v : Bool) : upd f t v t = v := by simp [upd]
theorem upd_ne (f : Int → Bool) (t i : Int) (v : Bool) (h : i ≠ t) : upd f t v i = f i := by simp [upd, h]

theorem pinv_step {s : PS} {k : Int} (h : PInv s k) (kind t : Int) (hk0 : 0 ≤ kind) (hk6 : kind ≤ 6) (h0 : 0 ≤ t) (h3 : t < 4) : PInv (s.step kind t).2 (k + 1) := by
  have hr := h.r1
  have keep : PInv s (k + 1) := ⟨h.now0, h.now4, h.r0, by omega, h.idle, h.mid, h.dead, h.acked⟩
  rcases (by omega : kind = 0 ∨ kind = 1 ∨ kind = 2 ∨ kind = 3 ∨ kind = 4 ∨ kind = 5 ∨ kind = 6) with rfl | rfl | rfl | rfl | rfl | rfl | rfl
  · simp only [PS.step, if_true]
    by_cases hn : s.now = 0
    · rw [if_pos hn]
      have hi := h.idle (.inl hn)
      exact ⟨by simp [PS.anew], by simp [PS.anew], h.r0, by simpa [PS.anew] using by omega, by simp [PS.anew], by simp [PS.anew], h.dead, by simp [PS.anew]⟩
    · rw [if_neg hn]; exact keep
  · simp only [PS.step, show ¬ (1 : Int) = 0 by decide, if_false, if_true]
    by_cases hw : s.wants t = true
    · rw [if_pos hw]
      have hw' := hw
      simp only [PS.wants, PS.shaking, Bool.and_eq_true, Bool.or_eq_true, decide_eq_true_eq] at hw'
      obtain ⟨⟨hn, hl⟩, _⟩ := hw'
      refine ⟨h.now0, h.now4, h.r0, by simpa [PS.ack] using by omega, ?_, ?_, ?_, ?_⟩
      · intro hi; simp only [PS.ack] at hi; omega
      · intro hi u hu0 hu4
        simp only [PS.ack] at hi ⊢
        by_cases hut : u = t
        · subst hut; rw [upd_same, h.mid hi u hu0 hu4, hl]; simp
        · rw [upd_ne _ _ _ _ hut]; exact h.mid hi u hu0 hu4
      · intro u hu
        simp only [PS.ack] at hu ⊢
        by_cases hut : u = t
        · subst hut; rw [hl] at hu; cases hu
        · rw [upd_ne _ _ _ _ hut]; exact h.dead u hu
      · intro h1 u hu ha
        simp only [PS.ack] at h1 hu ha ⊢
        by_cases hut : u = t
        · subst hut; rw [upd_same]; simp [h1]
        · rw [upd_ne _ _ _ _ hut] at ha ⊢; exact h.acked h1 u hu ha
    · rw [if_neg hw]; exact keep
  · simp only [PS.step, show ¬ (2 : Int) = 0 by decide, show ¬ (2 : Int) = 1 by decide, if_false, if_true]
    unfold PS.join
    by_cases hl : s.live t = true
    · rw [if_pos hl]; exact keep
    · rw [if_neg hl]
      refine ⟨h.now0, h.now4, h.r0, by simpa using by omega, ?_, ?_, ?_, ?_⟩
      · intro hi u
        have hon : s.on = false := by rcases hi with h1 | h1 <;> simp only at h1 <;> simp [PS.on, h1]
        simp only
        by_cases hut : u = t
        · subst hut; rw [upd_same, hon]
        · rw [upd_ne _ _ _ _ hut]; exact h.idle hi u
      · intro hi u hu0 hu4
        have hon : s.on = true := by rcases hi with h1 | h1 <;> simp only at h1 <;> simp [PS.on, h1]
        simp only
        by_cases hut : u = t
        · subst hut; rw [upd_same, upd_same, hon]
        · rw [upd_ne _ _ _ _ hut, upd_ne _ _ _ _ hut]; exact h.mid hi u hu0 hu4
      · intro u hu
        simp only at hu ⊢
        by_cases hut : u = t
        · subst hut; rw [upd_same] at hu; cases hu
        · rw [upd_ne _ _ _ _ hut] at hu ⊢; exact h.dead u hu
      · intro h1 u hu ha
        simp only at h1 hu ha ⊢
        by_cases hut : u = t
        · subst hut; rw [upd_same]; simp [PS.on, h1]
        · rw [upd_ne _ _ _ _ hut] at hu ha ⊢; exact h.acked h1 u hu ha
  · simp only [PS.step, show ¬ (3 : Int) = 0 by decide, show ¬ (3 : Int) = 1 by decide, show ¬ (3 : Int) = 2 by decide, if_false, if_true]
    refine ⟨h.now0, h.now4, h.r0, by simpa [PS.leave] using by omega, ?_, ?_, ?_, ?_⟩
    · intro hi u
      simp only [PS.leave] at hi ⊢
      by_cases hut : u = t
      · subst hut; rw [upd_same]
      · rw [upd_ne _ _ _ _ hut]; exact h.idle hi u
    · intro hi u hu0 hu4
      simp only [PS.leave] at hi ⊢
      by_cases hut : u = t
      · subst hut; rw [upd_same, upd_same]
      · rw [upd_ne _ _ _ _ hut, upd_ne _ _ _ _ hut]; exact h.mid hi u hu0 hu4
    · intro u hu
      simp only [PS.leave] at hu ⊢
      by_cases hut : u = t
      · subst hut; rw [upd_same]
      · rw [upd_ne _ _ _ _ hut] at hu ⊢; exact h.dead u hu
    · intro h1 u hu ha
      simp only [PS.leave] at h1 hu ha ⊢
      by_cases hut : u = t
      · subst hut; rw [upd_same] at hu; cases hu
      · rw [upd_ne _ _ _ _ hut] at hu ha ⊢; exact h.acked h1 u hu ha
  · simp only [PS.step, show ¬ (4 : Int) = 0 by decide, show ¬ (4 : Int) = 1 by decide, show ¬ (4 : Int) = 2 by decide, show ¬ (4 : Int) = 3 by decide, if_false, if_true]
    by_cases hw : (s.still && s.shaking) = true
    · rw [if_pos hw]
      simp only [Bool.and_eq_true] at hw
      obtain ⟨hst, hsh⟩ := hw
      rw [still_iff] at hst
      have hn : s.now = 1 ∨ s.now = 2 := by simpa [PS.shaking] using hsh
      have hal : ∀ u, 0 ≤ u → u < 4 → s.armed u = s.live u := by
        intro u hu0 hu4
        rcases hn with h1 | h1
        · cases hl : s.live u
          · exact h.dead u hl
          · have := hst u hu0 hu4
            simp only [PS.wants, hsh, hl, Bool.true_and, Bool.not_eq_false'] at this
            exact h.acked h1 u hl this
        · exact h.mid (.inl h1) u hu0 hu4
      refine ⟨?_, ?_, ?_, ?_, ?_, fun _ => hal, h.dead, ?_⟩
      · simp only [PS.next]; omega
      · simp only [PS.next]; omega
      · have := h.r0; simp only [PS.next]; omega
      · simp only [PS.next]; omega
      · intro hi; simp only [PS.next] at hi; omega
      · intro h1; simp only [PS.next] at h1; have := h.now0; omega
    · rw [if_neg hw]; exact keep
  · simp only [PS.step, show ¬ (5 : Int) = 0 by decide, show ¬ (5 : Int) = 1 by decide, show ¬ (5 : Int) = 2 by decide, show ¬ (5 : Int) = 3 by decide, show ¬ (5 : Int) = 4 by decide, if_false, if_true]
    by_cases hn : s.now = 3
    · rw [if_pos hn]
      exact ⟨by simp [PS.mark], by simp [PS.mark], h.r0, by simpa [PS.mark] using by omega, by simp [PS.mark], by simp [PS.mark], by simp [PS.mark], by simp [PS.mark]⟩
    · rw [if_neg hn]; exact keep
  · simp only [PS.step, show ¬ (6 : Int) = 0 by decide, show ¬ (6 : Int) = 1 by decide, show ¬ (6 : Int) = 2 by decide, show ¬ (6 : Int) = 3 by decide, show ¬ (6 : Int) = 4 by decide, show ¬ (6 : Int) = 5 by decide, if_false]
    by_cases hn : s.now = 4
    · rw [if_pos hn]
      have hi := h.idle (.inr hn)
      exact ⟨by simp [PS.anew], by simp [PS.anew], h.r0, by simpa [PS.anew] using by omega, by simpa [PS.anew] using hi, by simp [PS.anew], h.dead, by simp [PS.anew]⟩
    · rw [if_neg hn]; exact keep

/-- Who lives, behind a step. -/
def liveStep (live : Int → Bool) (kind t : Int) : Int → Bool := if kind = 2 then upd live t true else if kind = 3 then upd live t false else live

theorem live_step (s : PS) (kind t : Int) : (s.step kind t).2.live = liveStep s.live kind t := by
  unfold liveStep PS.step
  by_cases h0 : kind = 0
  · subst h0; simp; split <;> rfl
  by_cases h1 : kind = 1
  · subst h1; simp; split <;> rfl
  by_cases h2 : kind = 2
  · subst h2; simp [PS.join]
    split
    · rename_i hl; funext u; by_cases hut : u = t
      · subst hut; rw [upd_same]; exact hl
      · rw [upd_ne _ _ _ _ hut]
    · rfl
  by_cases h3 : kind = 3
  · subst h3; simp [PS.leave]
  by_cases h4 : kind = 4
  · subst h4; simp; split <;> rfl
  by_cases h5 : kind = 5
  · subst h5; simp; split <;> rfl
  simp [h0, h1, h2, h3, h4, h5]
  split <;> rfl

theorem now_step (s : PS) (kind t : Int) (h0 : 0 ≤ s.now) (h4 : s.now ≤ 4) : (s.step kind t).2.now = s.now ∨ (s.step kind t).2.now = (s.now + 1) % 5 := by
  unfold PS.step
  split
  · split
    · rename_i h; right; simp [PS.anew, h]
    · left; rfl
  split
  · left; split <;> rfl
  split
  · left; simp only [PS.join]; split <;> rfl
  split
  · left; rfl
  split
  · split
    · rename_i h
      right
      simp [PS.shaking] at h
      simp only [PS.next]
      omega
    · left; rfl
  split
  · split
    · rename_i h; right; simp [PS.mark, h]
    · left; rfl
  · split
    · rename_i h; right; simp [PS.anew, h]
    · left; rfl

end Go.Proofs.Ytamecbanginjmaa
