/-
  The model that PhaseRuns holds the machine against: its steps, and contracts of its functions. Conditions: as the theorem says.
-/
import Derived.Test.YtamecbanginjmaaPhaseArmsW
import Derived.BigRegion
import Derived.RegionTactic
namespace Go.Proofs.Ytamecbanginjmaa
open Go.RowKit Go.ChangeShapes


def PS.mcells (s : PS) : Array Value := #[.int .i64 s.now, .int .i64 s.rounds, .bool (s.live 0), .bool (s.live 1), .bool (s.live 2), .bool (s.live 3), .bool (s.armed 0), .bool (s.armed 1), .bool (s.armed 2), .bool (s.armed 3), .bool (s.acked 0), .bool (s.acked 1), .bool (s.acked 2), .bool (s.acked 3)]
def ModelAt (w : World) (b : Nat) (s : PS) : Prop := Blk w b 58 s.mcells
theorem ModelAt.ext {w : World} {b : Nat} {s s' : PS} (h : ModelAt w b s) (e : s.mcells = s'.mcells) : ModelAt w b s' := Blk.eq h e

def PS.mmark (s : PS) : PS := ⟨4, s.rounds, s.live, fun _ => false, s.acked⟩
def PS.mrest (s : PS) : PS := ⟨0, s.rounds, s.live, s.armed, s.acked⟩
def PS.mon (s : PS) : Bool := decide (1 ≤ s.now) && decide (s.now ≤ 3)
def PS.mjoin (s : PS) (t : Int) : PS := if s.live t then s else ⟨s.now, s.rounds, upd s.live t true, upd s.armed t s.mon, upd s.acked t s.mon⟩
def PS.mack (s : PS) (t : Int) : PS := ⟨s.now, s.rounds, s.live, if s.now = 1 then upd s.armed t true else s.armed, upd s.acked t true⟩
def PS.mstep (s : PS) (kind t : Int) : Bool × PS :=
  if kind = 0 then (if s.now = 0 then (true, s.anew 1) else (false, s))
  else if kind = 1 then (if s.wants t then (true, s.mack t) else (false, s))
  else if kind = 2 then (false, s.mjoin t)
  else if kind = 3 then (false, s.leave t)
  else if kind = 4 then (if s.still && s.shaking then (true, s.next) else (false, s))
  else if kind = 5 then (if s.now = 3 then (true, s.mmark) else (false, s))
  else (if s.now = 4 then (true, s.mrest) else (false, s))

/-- The machine and the model: alike, but for acknowledgements where none is wanted. -/
structure Like (p m : PS) : Prop where
  now : p.now = m.now
  rounds : p.rounds = m.rounds
  live : p.live = m.live
  armed : p.armed = m.armed
  acked : p.now = 1 ∨ p.now = 2 → p.acked = m.acked

theorem like_shaking {p m : PS} (h : Like p m) : p.shaking = m.shaking := by unfold PS.shaking; rw [h.now]
theorem like_wants {p m : PS} (h : Like p m) (t : Int) : p.wants t = m.wants t := by
  unfold PS.wants
  rw [like_shaking h, h.live]
  cases hs : m.shaking
  · simp
  · have : p.now = 1 ∨ p.now = 2 := by rw [← like_shaking h] at hs; simpa [PS.shaking] using hs
    rw [h.acked this]
theorem like_still {p m : PS} (h : Like p m) : p.still = m.still := by unfold PS.still; simp only [like_wants h]

theorem like_step {p m : PS} (h : Like p m) (h0 : 0 ≤ p.now) (h4 : p.now ≤ 4) (kind t : Int) : (p.step kind t).1 = (m.mstep kind t).1 ∧ Like (p.step kind t).2 (m.mstep kind t).2 := by
  have hn := h.now
  unfold PS.step PS.mstep
  rw [like_wants h, like_still h, like_shaking h, ← hn]
  split
  · split
    · exact ⟨rfl, ⟨rfl, h.rounds, h.live, h.armed, fun _ => rfl⟩⟩
    · exact ⟨rfl, h⟩
  split
  · split
    · rename_i hw
      refine ⟨rfl, ⟨h.now, h.rounds, h.live, ?_, fun hh => ?_⟩⟩
      · simp only [PS.ack, PS.mack, h.armed, ← hn]
        by_cases h1 : p.now = 1
        · simp [h1]
        · simp only [h1, if_false, decide_false, Bool.or_false]
          funext u
          by_cases hut : u = t
          · subst hut; rw [upd_same]
          · rw [upd_ne _ _ _ _ hut]
      · simp only [PS.ack, PS.mack] at hh ⊢; rw [h.acked hh]
    · exact ⟨rfl, h⟩
  split
  · refine ⟨rfl, ?_⟩
    unfold PS.join PS.mjoin
    rw [h.live]
    split
    · exact h
    · have hon : p.on = m.mon := by
        unfold PS.on PS.mon
        rw [← hn]
        rcases (by omega : p.now = 0 ∨ p.now = 1 ∨ p.now = 2 ∨ p.now = 3 ∨ p.now = 4) with e | e | e | e | e <;> rw [e] <;> decide
      exact ⟨h.now, h.rounds, rfl, by simp only [h.armed, hon], fun hh => by simp only at hh ⊢; rw [h.acked hh, hon]⟩
  split
  · exact ⟨rfl, ⟨h.now, h.rounds, by simp only [PS.leave, h.live], by simp only [PS.leave, h.armed], fun hh => by simp only [PS.leave] at hh ⊢; rw [h.acked hh]⟩⟩
  split
  · split
    · exact ⟨rfl, ⟨by simp only [PS.next, h.now], by simp only [PS.next, h.rounds], h.live, h.armed, fun _ => rfl⟩⟩
    · exact ⟨rfl, h⟩
  split
  · split
    · exact ⟨rfl, ⟨rfl, h.rounds, h.live, rfl, fun hh => by simp [PS.mark] at hh⟩⟩
    · exact ⟨rfl, h⟩
  · split
    · exact ⟨rfl, ⟨rfl, h.rounds, h.live, h.armed, fun hh => by simp [PS.anew] at hh⟩⟩
    · exact ⟨rfl, h⟩

section
variable {w : World} {b : Nat} {s : PS}

set_option maxHeartbeats 2000000 in
theorem MWants (h : ModelAt w b s) (t : Int) (h0 : 0 ≤ t) (h3 : t < 4) : Calls Try.prog 48 #[.pointer (some ⟨b, 0, none⟩), .int .i64 t] w fun e w' => e = .returned (.bool (s.wants t)) ∧ w = w' := by
  have h1 := h.cell 0
  simp [PS.mcells] at h1
  rcases (by omega : t = 0 ∨ t = 1 ∨ t = 2 ∨ t = 3) with rfl | rfl | rfl | rfl
  · have h2 := h.cell 2
    have h4 := h.cell 10
    simp [PS.mcells] at h2 h4
    clear h h0 h3
    unfold PS.wants PS.shaking
    generalize s.live 0 = L at *
    generalize s.acked 0 = K at *
    generalize s.now = n at *
    by_cases hn1 : n = 1
    · subst hn1
      cases L <;> cases K
      all_goals
        go_enter Try.func48, Try.ntmps48
        go_wp2
        go_ret
        exact ⟨rfl, rfl⟩
    · have hb1 : (n == 1) = false := by simpa using hn1
      by_cases hn2 : n = 2
      · subst hn2
        cases L <;> cases K
        all_goals
          go_enter Try.func48, Try.ntmps48
          go_wp2
          go_ret
          exact ⟨rfl, rfl⟩
      · have hb2 : (n == 2) = false := by simpa using hn2
        go_enter Try.func48, Try.ntmps48
        go_wp2
        go_ret
        exact ⟨by simp [hn1, hn2], rfl⟩
  · have h2 := h.cell 3
    have h4 := h.cell 11
    simp [PS.mcells] at h2 h4
    clear h h0 h3
    unfold PS.wants PS.shaking
    generalize s.live 1 = L at *
    generalize s.acked 1 = K at *
    generalize s.now = n at *
    by_cases hn1 : n = 1
    · subst hn1
      cases L <;> cases K
      all_goals
        go_enter Try.func48, Try.ntmps48
        go_wp2
        go_ret
        exact ⟨rfl, rfl⟩
    · have hb1 : (n == 1) = false := by simpa using hn1
      by_cases hn2 : n = 2
      · subst hn2
        cases L <;> cases K
        all_goals
          go_enter Try.func48, Try.ntmps48
          go_wp2
          go_ret
          exact ⟨rfl, rfl⟩
      · have hb2 : (n == 2) = false := by simpa using hn2
        go_enter Try.func48, Try.ntmps48
        go_wp2
        go_ret
        exact ⟨by simp [hn1, hn2], rfl⟩
  · have h2 := h.cell 4
    have h4 := h.cell 12
    simp [PS.mcells] at h2 h4
    clear h h0 h3
    unfold PS.wants PS.shaking
    generalize s.live 2 = L at *
    generalize s.acked 2 = K at *
    generalize s.now = n at *
    by_cases hn1 : n = 1
    · subst hn1
      cases L <;> cases K
      all_goals
        go_enter Try.func48, Try.ntmps48
        go_wp2
        go_ret
        exact ⟨rfl, rfl⟩
    · have hb1 : (n == 1) = false := by simpa using hn1
      by_cases hn2 : n = 2
      · subst hn2
        cases L <;> cases K
        all_goals
          go_enter Try.func48, Try.ntmps48
          go_wp2
          go_ret
          exact ⟨rfl, rfl⟩
      · have hb2 : (n == 2) = false := by simpa using hn2
        go_enter Try.func48, Try.ntmps48
        go_wp2
        go_ret
        exact ⟨by simp [hn1, hn2], rfl⟩
  · have h2 := h.cell 5
    have h4 := h.cell 13
    simp [PS.mcells] at h2 h4
    clear h h0 h3
    unfold PS.wants PS.shaking
    generalize s.live 3 = L at *
    generalize s.acked 3 = K at *
    generalize s.now = n at *
    by_cases hn1 : n = 1
    · subst hn1
      cases L <;> cases K
      all_goals
        go_enter Try.func48, Try.ntmps48
        go_wp2
        go_ret
        exact ⟨rfl, rfl⟩
    · have hb1 : (n == 1) = false := by simpa using hn1
      by_cases hn2 : n = 2
      · subst hn2
        cases L <;> cases K
        all_goals
          go_enter Try.func48, Try.ntmps48
          go_wp2
          go_ret
          exact ⟨rfl, rfl⟩
      · have hb2 : (n == 2) = false := by simpa using hn2
        go_enter Try.func48, Try.ntmps48
        go_wp2
        go_ret
        exact ⟨by simp [hn1, hn2], rfl⟩

end

end Go.Proofs.Ytamecbanginjmaa
