/-
  One step of the machine of phases, the model that the laws of layer 17 hold it against, and contracts for 'done', 'do', 'wants' and 'fit'. Conditions: as each contract says.
-/
import Derived.Test.YtamecbanginjmaaPhase
import Derived.BigRegion
import Derived.RegionTactic
namespace Go.Proofs.Ytamecbanginjmaa
open Go.RowKit

def PS.step (s : PS) (kind t : Int) : Bool × PS :=
  if kind = 0 then (if s.now = 0 then (true, s.anew 1) else (false, s))
  else if kind = 1 then (if s.wants t then (true, s.ack t) else (false, s))
  else if kind = 2 then (false, s.join t)
  else if kind = 3 then (false, s.leave t)
  else if kind = 4 then (if s.still && s.shaking then (true, s.next) else (false, s))
  else if kind = 5 then (if s.now = 3 then (true, s.mark) else (false, s))
  else (if s.now = 4 then (true, s.anew 0) else (false, s))

theorem Blk.eq {w : World} {g : Nat} {t : TypeId} {cs cs' : Array Value} (h : Blk w g t cs) (e : cs = cs') : Blk w g t cs' := e ▸ h

set_option maxHeartbeats 2000000 in
theorem PhDone {w : World} {b : Nat} {s : PS} (h : PhaseAt w b s) (kind t : Int) (hk0 : 0 ≤ kind) (hk6 : kind ≤ 6) (h0 : 0 ≤ t) (h3 : t < 4) (hr0 : 0 ≤ s.rounds) (hr : s.rounds ≤ 1000000) :
    Calls Try.prog 46 #[.pointer (some ⟨b, 0, none⟩), .int .i64 kind, .int .i64 t] w fun e w' => e = .returned (.bool (s.step kind t).1) ∧ PhaseAt w' b (s.step kind t).2 ∧ Chg [b] w w' := by
  rcases (by omega : kind = 0 ∨ kind = 1 ∨ kind = 2 ∨ kind = 3 ∨ kind = 4 ∨ kind = 5 ∨ kind = 6) with rfl | rfl | rfl | rfl | rfl | rfl | rfl
  · by_cases hc : s.now = 0
    · rw [show s.step 0 t = (true, s.anew 1) by simp [PS.step, hc]]
      have HC := Lib.hid hc
      clear hc
      go_enter Try.func46, Try.ntmps46
      go_wp2_with fail
      refine (PhBeginYes h HC.out).mono ?_
      rintro e w1 ⟨rfl, hp, hx⟩
      go_wp2_with fail
      go_ret
      exact ⟨rfl, hp, hx⟩
    · rw [show s.step 0 t = (false, s) by simp [PS.step, hc]]
      have HC := Lib.hid hc
      clear hc
      go_enter Try.func46, Try.ntmps46
      go_wp2_with fail
      refine (PhBeginNo h HC.out).mono ?_
      rintro e w' ⟨rfl, rfl⟩
      go_wp2_with fail
      go_ret
      exact ⟨rfl, h, Chg.refl _ _⟩
  · by_cases hc : s.wants t = true
    · rw [show s.step 1 t = (true, s.ack t) by simp [PS.step, hc]]
      have HC := Lib.hid hc
      clear hc
      go_enter Try.func46, Try.ntmps46
      go_wp2_with fail
      refine (PhAckYes h t h0 h3 HC.out).mono ?_
      rintro e w1 ⟨rfl, hp, hx⟩
      go_wp2_with fail
      go_ret
      exact ⟨rfl, hp, hx⟩
    · rw [show s.step 1 t = (false, s) by simp [PS.step, hc]]
      have HC := Lib.hid hc
      clear hc
      go_enter Try.func46, Try.ntmps46
      go_wp2_with fail
      refine (PhAckNo h t h0 h3 (by simpa using HC.out)).mono ?_
      rintro e w1 ⟨rfl, hp, hx⟩
      go_wp2_with fail
      go_ret
      exact ⟨rfl, hp, hx⟩
  · rw [show s.step 2 t = (false, s.join t) by simp [PS.step]]
    go_enter Try.func46, Try.ntmps46
    go_wp2_with fail
    refine (PhJoin h t h0 h3).mono ?_
    rintro e w1 ⟨rfl, hp, hx⟩
    go_wp2_with fail
    go_ret
    exact ⟨rfl, hp, hx⟩
  · rw [show s.step 3 t = (false, s.leave t) by simp [PS.step]]
    go_enter Try.func46, Try.ntmps46
    go_wp2_with fail
    refine (PhLeave h t h0 h3).mono ?_
    rintro e w1 ⟨rfl, hp, hx⟩
    go_wp2_with fail
    go_ret
    exact ⟨rfl, hp, hx⟩
  · by_cases hc : (s.still && s.shaking) = true
    · rw [show s.step 4 t = (true, s.next) by simp [PS.step, hc]]
      have HC := Lib.hid hc
      clear hc
      go_enter Try.func46, Try.ntmps46
      go_wp2_with fail
      refine (PhAdvanceYes h (by have := HC.out; simp at this; exact this.1) (by have := HC.out; simp at this; exact this.2) hr0 hr).mono ?_
      rintro e w1 ⟨rfl, hp, hx⟩
      go_wp2_with fail
      go_ret
      exact ⟨rfl, hp, hx⟩
    · rw [show s.step 4 t = (false, s) by simp [PS.step, hc]]
      have HC := Lib.hid hc
      clear hc
      go_enter Try.func46, Try.ntmps46
      go_wp2_with fail
      refine (PhAdvanceNo h (by have := HC.out; simp at this; cases hs : s.still; exact .inl rfl; exact .inr (this hs))).mono ?_
      rintro e w1 ⟨rfl, hp, hx⟩
      go_wp2_with fail
      go_ret
      exact ⟨rfl, hp, hx⟩
  · by_cases hc : s.now = 3
    · rw [show s.step 5 t = (true, s.mark) by simp [PS.step, hc]]
      have HC := Lib.hid hc
      clear hc
      go_enter Try.func46, Try.ntmps46
      go_wp2_with fail
      refine (PhMarkedYes h HC.out).mono ?_
      rintro e w1 ⟨rfl, hp, hx⟩
      go_wp2_with fail
      go_ret
      exact ⟨rfl, hp, hx⟩
    · rw [show s.step 5 t = (false, s) by simp [PS.step, hc]]
      have HC := Lib.hid hc
      clear hc
      go_enter Try.func46, Try.ntmps46
      go_wp2_with fail
      refine (PhMarkedNo h HC.out).mono ?_
      rintro e w' ⟨rfl, rfl⟩
      go_wp2_with fail
      go_ret
      exact ⟨rfl, h, Chg.refl _ _⟩
  · by_cases hc : s.now = 4
    · rw [show s.step 6 t = (true, s.anew 0) by simp [PS.step, hc]]
      have HC := Lib.hid hc
      clear hc
      go_enter Try.func46, Try.ntmps46
      go_wp2_with fail
      refine (PhSweptYes h HC.out).mono ?_
      rintro e w1 ⟨rfl, hp, hx⟩
      go_wp2_with fail
      go_ret
      exact ⟨rfl, hp, hx⟩
    · rw [show s.step 6 t = (false, s) by simp [PS.step, hc]]
      have HC := Lib.hid hc
      clear hc
      go_enter Try.func46, Try.ntmps46
      go_wp2_with fail
      refine (PhSweptNo h HC.out).mono ?_
      rintro e w' ⟨rfl, rfl⟩
      go_wp2_with fail
      go_ret
      exact ⟨rfl, h, Chg.refl _ _⟩

theorem fit17 (w : World) : Calls Try.prog 33 #[] w fun e w' => e = .returned (.bool true) ∧ Chg [] w w' := by
  have hO := Own.start w
  go_enter Try.func33, Try.ntmps33
  go_wp2_with fail
  refine (PhNew _).mono ?_
  rintro e w1 ⟨b, rfl, hb, hp, hC⟩
  replace hO := hO.step hC (F' := [b]) (by intro x hx; simp at hx; omega)
  clear hC hb
  go_wp2_with fail
  refine (PhNow hp).mono ?_
  rintro e w' ⟨rfl, rfl⟩
  rw [show PS.zero.now = 0 from rfl]
  go_wp2_with fail
  refine (PhBeginYes hp rfl).mono ?_
  rintro e w2 ⟨rfl, hp2, hC⟩
  replace hO := hO.same hC
  clear hC hp
  go_wp2_with fail
  refine (PhBeginNo hp2 (by decide)).mono ?_
  rintro e w' ⟨rfl, rfl⟩
  go_wp2_with fail
  refine (PhAdvanceYes hp2 (by decide) (by decide) (by decide) (by decide)).mono ?_
  rintro e w3 ⟨rfl, hp3, hC⟩
  replace hO := hO.same hC
  clear hC hp2
  go_wp2_with fail
  refine (PhAdvanceYes hp3 (by decide) (by decide) (by decide) (by decide)).mono ?_
  rintro e w4 ⟨rfl, hp4, hC⟩
  replace hO := hO.same hC
  clear hC hp3
  go_wp2_with fail
  refine (PhAdvanceNo hp4 (.inr (by decide))).mono ?_
  rintro e w5 ⟨rfl, hp5, hC⟩
  replace hO := hO.same hC
  clear hC hp4
  go_wp2_with fail
  refine (PhNow hp5).mono ?_
  rintro e w' ⟨rfl, rfl⟩
  rw [show ((PS.zero.anew 1).next.next).now = 3 from rfl]
  go_wp2_with fail
  refine (PhRounds hp5).mono ?_
  rintro e w' ⟨rfl, rfl⟩
  rw [show ((PS.zero.anew 1).next.next).rounds = 2 from rfl]
  go_wp2_with fail
  go_ret
  exact ⟨rfl, hO.1⟩

end Go.Proofs.Ytamecbanginjmaa
