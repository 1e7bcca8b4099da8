/-
  The machine of phases (layer 17) as plain data, and a contract for each of its methods. Conditions: thread numbers lie between 0 and 3.
-/
import Derived.Test.YtamecbanginjmaaRows
import Derived.Test.YtamecbanginjmaaKit
namespace Go.Proofs.Ytamecbanginjmaa
open Go.RowKit

/-- The phase, the rounds, and what each thread is. -/
structure PS where
  now : Int
  rounds : Int
  live : Int → Bool
  armed : Int → Bool
  acked : Int → Bool

def PS.zero : PS := ⟨0, 0, fun _ => false, fun _ => false, fun _ => false⟩
def PS.cells (s : PS) : Array Value := #[.int .i64 s.now, .int .i64 s.rounds, .bool (s.live 0), .bool (s.armed 0), .bool (s.acked 0), .bool (s.live 1), .bool (s.armed 1), .bool (s.acked 1), .bool (s.live 2), .bool (s.armed 2), .bool (s.acked 2), .bool (s.live 3), .bool (s.armed 3), .bool (s.acked 3)]
def upd (f : Int → Bool) (t : Int) (v : Bool) : Int → Bool := fun i => if i = t then v else f i
def PS.shaking (s : PS) : Bool := decide (s.now = 1) || decide (s.now = 2)
def PS.wants (s : PS) (t : Int) : Bool := s.shaking && s.live t && !s.acked t
def PS.anew (s : PS) (p : Int) : PS := ⟨p, s.rounds, s.live, s.armed, fun _ => false⟩
def PS.ack (s : PS) (t : Int) : PS := ⟨s.now, s.rounds, s.live, upd s.armed t (s.armed t || decide (s.now = 1)), upd s.acked t true⟩
def PS.on (s : PS) : Bool := !decide (s.now = 0) && !decide (s.now = 4)
def PS.join (s : PS) (t : Int) : PS := if s.live t then s else ⟨s.now, s.rounds, upd s.live t true, upd s.armed t s.on, upd s.acked t s.on⟩
def PS.leave (s : PS) (t : Int) : PS := ⟨s.now, s.rounds, upd s.live t false, upd s.armed t false, upd s.acked t false⟩
def PS.still (s : PS) : Bool := !s.wants 0 && !s.wants 1 && !s.wants 2 && !s.wants 3
def PS.next (s : PS) : PS := ⟨s.now + 1, s.rounds + 1, s.live, s.armed, fun _ => false⟩
def PS.mark (s : PS) : PS := ⟨4, s.rounds, s.live, fun _ => false, fun _ => false⟩

/-- The machine at block b. -/
def PhaseAt (w : World) (b : Nat) (s : PS) : Prop := Blk w b 67 s.cells

theorem PhaseAt.keep {w w' : World} {b : Nat} {s : PS} {F : List Nat} (h : PhaseAt w b s) (hc : Chg F w w') (hb : b ∉ F) : PhaseAt w' b s := hc.blk h hb

theorem PhNew (w : World) : Calls Try.prog 34 #[] w fun e w' => ∃ b, e = .returned (.pointer (some ⟨b, 0, none⟩)) ∧ b = w.heap.size ∧ PhaseAt w' b PS.zero ∧ Chg [] w w' := by
  go_enter Try.func34, Try.ntmps34
  go_wp2
  go_ret
  exact ⟨w.heap.size, rfl, rfl, Blk.new _ _ _, (Chg.refl _ w).alloc _⟩

section
variable {w : World} {b : Nat} {s : PS}

theorem PhNow (h : PhaseAt w b s) : Calls Try.prog 42 #[.pointer (some ⟨b, 0, none⟩)] w fun e w' => e = .returned (.int .i64 s.now) ∧ w = w' := by
  have h0 := h.cell 0
  simp [PS.cells] at h0
  go_enter Try.func42, Try.ntmps42
  go_wp2
  go_ret
  exact ⟨rfl, rfl⟩

theorem PhRounds (h : PhaseAt w b s) : Calls Try.prog 45 #[.pointer (some ⟨b, 0, none⟩)] w fun e w' => e = .returned (.int .i64 s.rounds) ∧ w = w' := by
  have h0 := h.cell 1
  simp [PS.cells] at h0
  go_enter Try.func45, Try.ntmps45
  go_wp2
  go_ret
  exact ⟨rfl, rfl⟩

theorem PhArmed (h : PhaseAt w b s) (t : Int) (h0 : 0 ≤ t) (h3 : t < 4) : Calls Try.prog 40 #[.pointer (some ⟨b, 0, none⟩), .int .i64 t] w fun e w' => e = .returned (.bool (s.armed t)) ∧ w = w' := by
  rcases (by omega : t = 0 ∨ t = 1 ∨ t = 2 ∨ t = 3) with rfl | rfl | rfl | rfl
  · have h1 := h.cell 3
    simp [PS.cells] at h1
    clear h0 h3
    go_enter Try.func40, Try.ntmps40
    go_wp2
    go_ret
    exact ⟨rfl, rfl⟩
  · have h1 := h.cell 6
    simp [PS.cells] at h1
    clear h0 h3
    go_enter Try.func40, Try.ntmps40
    go_wp2
    go_ret
    exact ⟨rfl, rfl⟩
  · have h1 := h.cell 9
    simp [PS.cells] at h1
    clear h0 h3
    go_enter Try.func40, Try.ntmps40
    go_wp2
    go_ret
    exact ⟨rfl, rfl⟩
  · have h1 := h.cell 12
    simp [PS.cells] at h1
    clear h0 h3
    go_enter Try.func40, Try.ntmps40
    go_wp2
    go_ret
    exact ⟨rfl, rfl⟩

theorem PhShaking (h : PhaseAt w b s) : Calls Try.prog 50 #[.pointer (some ⟨b, 0, none⟩)] w fun e w' => e = .returned (.bool s.shaking) ∧ w = w' := by
  have h0 := h.cell 0
  simp [PS.cells] at h0
  unfold PS.shaking
  clear h
  generalize s.now = n at *
  by_cases h1 : n = 1
  · subst h1
    go_enter Try.func50, Try.ntmps50
    go_wp2
    go_ret
    exact ⟨rfl, rfl⟩
  · have h2 : (n == 1) = false := by simpa using h1
    have h3 : decide (n = 1) = false := by simpa using h1
    go_enter Try.func50, Try.ntmps50
    go_wp2
    go_ret
    exact ⟨by simp [h1]; rfl, rfl⟩

theorem PhWants (h : PhaseAt w b s) (t : Int) (h0 : 0 ≤ t) (h3 : t < 4) : Calls Try.prog 39 #[.pointer (some ⟨b, 0, none⟩), .int .i64 t] w fun e w' => e = .returned (.bool (s.wants t)) ∧ PhaseAt w' b s ∧ Chg [] w w' := by
  have HP := Lib.hid h
  rcases (by omega : t = 0 ∨ t = 1 ∨ t = 2 ∨ t = 3) with rfl | rfl | rfl | rfl
  · have h1 := h.cell 2
    have h2 := h.cell 3
    have h3 := h.cell 4
    simp [PS.cells] at h1 h2 h3
    unfold PS.wants
    clear h h0
    generalize s.live 0 = L at *
    generalize s.armed 0 = R at *
    generalize s.acked 0 = K at *
    generalize hS : s.shaking = S
    have HS := Lib.hid hS
    clear hS
    go_enter Try.func39, Try.ntmps39
    go_wp2_with fail
    have HC := Lib.hid ((Chg.refl [] w).alloc (.cells #[.bool L, .bool R, .bool K] 64))
    have HP1 := Lib.hid (HP.out.keep HC.out (by simp))
    refine (PhShaking HP1.out).mono ?_
    rintro e w' ⟨rfl, rfl⟩
    rw [HS.out]
    cases S <;> cases L <;> cases K <;> go_wp2_with fail
    all_goals go_ret
    all_goals exact ⟨rfl, HP1.out, HC.out⟩
  · have h1 := h.cell 5
    have h2 := h.cell 6
    have h3 := h.cell 7
    simp [PS.cells] at h1 h2 h3
    unfold PS.wants
    clear h h0
    generalize s.live 1 = L at *
    generalize s.armed 1 = R at *
    generalize s.acked 1 = K at *
    generalize hS : s.shaking = S
    have HS := Lib.hid hS
    clear hS
    go_enter Try.func39, Try.ntmps39
    go_wp2_with fail
    have HC := Lib.hid ((Chg.refl [] w).alloc (.cells #[.bool L, .bool R, .bool K] 64))
    have HP1 := Lib.hid (HP.out.keep HC.out (by simp))
    refine (PhShaking HP1.out).mono ?_
    rintro e w' ⟨rfl, rfl⟩
    rw [HS.out]
    cases S <;> cases L <;> cases K <;> go_wp2_with fail
    all_goals go_ret
    all_goals exact ⟨rfl, HP1.out, HC.out⟩
  · have h1 := h.cell 8
    have h2 := h.cell 9
    have h3 := h.cell 10
    simp [PS.cells] at h1 h2 h3
    unfold PS.wants
    clear h h0
    generalize s.live 2 = L at *
    generalize s.armed 2 = R at *
    generalize s.acked 2 = K at *
    generalize hS : s.shaking = S
    have HS := Lib.hid hS
    clear hS
    go_enter Try.func39, Try.ntmps39
    go_wp2_with fail
    have HC := Lib.hid ((Chg.refl [] w).alloc (.cells #[.bool L, .bool R, .bool K] 64))
    have HP1 := Lib.hid (HP.out.keep HC.out (by simp))
    refine (PhShaking HP1.out).mono ?_
    rintro e w' ⟨rfl, rfl⟩
    rw [HS.out]
    cases S <;> cases L <;> cases K <;> go_wp2_with fail
    all_goals go_ret
    all_goals exact ⟨rfl, HP1.out, HC.out⟩
  · have h1 := h.cell 11
    have h2 := h.cell 12
    have h3 := h.cell 13
    simp [PS.cells] at h1 h2 h3
    unfold PS.wants
    clear h h0
    generalize s.live 3 = L at *
    generalize s.armed 3 = R at *
    generalize s.acked 3 = K at *
    generalize hS : s.shaking = S
    have HS := Lib.hid hS
    clear hS
    go_enter Try.func39, Try.ntmps39
    go_wp2_with fail
    have HC := Lib.hid ((Chg.refl [] w).alloc (.cells #[.bool L, .bool R, .bool K] 64))
    have HP1 := Lib.hid (HP.out.keep HC.out (by simp))
    refine (PhShaking HP1.out).mono ?_
    rintro e w' ⟨rfl, rfl⟩
    rw [HS.out]
    cases S <;> cases L <;> cases K <;> go_wp2_with fail
    all_goals go_ret
    all_goals exact ⟨rfl, HP1.out, HC.out⟩
end

/-- k threads have been laid anew. -/
def PS.part (s : PS) (p k : Int) : PS := ⟨p, s.rounds, s.live, s.armed, fun i => if i < k then false else s.acked i⟩
theorem part_cells (s : PS) (p : Int) : (s.part p 4).cells = (s.anew p).cells := by simp [PS.part, PS.anew, PS.cells]

section
variable {w : World} {b : Nat} {s : PS}
theorem PhAnew (h : PhaseAt w b s) (p : Int) : Calls Try.prog 49 #[.pointer (some ⟨b, 0, none⟩), .int .i64 p] w fun e w' => e = .returned (.tuple #[]) ∧ PhaseAt w' b (s.anew p) ∧ Chg [b] w w' := by
  have h1 := h.cell 0
  have f1 := h.frozen 0
  simp [PS.cells] at h1
  have HP := Lib.hid h
  clear h
  go_enter Try.func49, Try.ntmps49
  go_wp2_with fail
  have hc : Chg [b] w (w.setCell ⟨b, 0, none⟩ (.int .i64 p)) := (Chg.refl _ w).setCell (.inl (by simp)) _
  have hp : PhaseAt (w.setCell ⟨b, 0, none⟩ (.int .i64 p)) b (s.part p 0) := by
    have := HP.out.set_ 0 (.int .i64 p)
    simpa [PhaseAt, PS.part, PS.cells] using this
  have HC := Lib.hid hc
  have HP0 := Lib.hid hp
  clear hc hp
  go_loopw [9] (fun i wr => ∃ k : Int, 0 ≤ k ∧ k ≤ 4 ∧ i = .int .i64 k ∧ PhaseAt wr b (s.part p k) ∧ Chg [b] w wr) (fun i _ => (4 - intOf i).toNat)
  case atStart => exact ⟨0, by omega, by omega, rfl, HP0.out, HC.out⟩
  case round =>
    obtain ⟨k, hk0, hk4, rfl, hp, hc⟩ := hrel
    clear HP0 HC h1 f1
    rcases (by omega : k = 0 ∨ k = 1 ∨ k = 2 ∨ k = 3 ∨ k = 4) with rfl | rfl | rfl | rfl | rfl
    · have h1 := hp.cell 4
      have f1 := hp.frozen 4
      simp [PS.cells] at h1
      have HC := Lib.hid (hc.setCell (p := ⟨b, 4, none⟩) (.inl (by simp)) (.bool false))
      have HP2 : Hid (PhaseAt (wr.setCell ⟨b, 4, none⟩ (.bool false)) b (s.part p 1)) := Lib.hid (by
        have := hp.set_ 4 (.bool false)
        simpa [PhaseAt, PS.part, PS.cells] using this)
      clear hp hc
      go_wp2_with fail
      go_roundw
      case rel => exact ⟨1, by omega, by omega, rfl, HP2.out, HC.out⟩
      case measure => simp [intOf]
    · have h1 := hp.cell 7
      have f1 := hp.frozen 7
      simp [PS.cells] at h1
      have HC := Lib.hid (hc.setCell (p := ⟨b, 7, none⟩) (.inl (by simp)) (.bool false))
      have HP2 : Hid (PhaseAt (wr.setCell ⟨b, 7, none⟩ (.bool false)) b (s.part p 2)) := Lib.hid (by
        have := hp.set_ 7 (.bool false)
        simpa [PhaseAt, PS.part, PS.cells] using this)
      clear hp hc
      go_wp2_with fail
      go_roundw
      case rel => exact ⟨2, by omega, by omega, rfl, HP2.out, HC.out⟩
      case measure => simp [intOf]
    · have h1 := hp.cell 10
      have f1 := hp.frozen 10
      simp [PS.cells] at h1
      have HC := Lib.hid (hc.setCell (p := ⟨b, 10, none⟩) (.inl (by simp)) (.bool false))
      have HP2 : Hid (PhaseAt (wr.setCell ⟨b, 10, none⟩ (.bool false)) b (s.part p 3)) := Lib.hid (by
        have := hp.set_ 10 (.bool false)
        simpa [PhaseAt, PS.part, PS.cells] using this)
      clear hp hc
      go_wp2_with fail
      go_roundw
      case rel => exact ⟨3, by omega, by omega, rfl, HP2.out, HC.out⟩
      case measure => simp [intOf]
    · have h1 := hp.cell 13
      have f1 := hp.frozen 13
      simp [PS.cells] at h1
      have HC := Lib.hid (hc.setCell (p := ⟨b, 13, none⟩) (.inl (by simp)) (.bool false))
      have HP2 : Hid (PhaseAt (wr.setCell ⟨b, 13, none⟩ (.bool false)) b (s.part p 4)) := Lib.hid (by
        have := hp.set_ 13 (.bool false)
        simpa [PhaseAt, PS.part, PS.cells] using this)
      clear hp hc
      go_wp2_with fail
      go_roundw
      case rel => exact ⟨4, by omega, by omega, rfl, HP2.out, HC.out⟩
      case measure => simp [intOf]
    · have HC := Lib.hid hc
      have HP2 : Hid (PhaseAt wr b (s.anew p)) := Lib.hid (by unfold PhaseAt; rw [← part_cells]; exact hp)
      clear hp hc
      go_wp2_with fail
      go_end0
      exact ⟨rfl, HP2.out, HC.out⟩

theorem PhBeginNo (h : PhaseAt w b s) (hn : s.now ≠ 0) : Calls Try.prog 36 #[.pointer (some ⟨b, 0, none⟩)] w fun e w' => e = .returned (.bool false) ∧ w = w' := by
  have h1 := h.cell 0
  simp [PS.cells] at h1
  have hne : (s.now == 0) = false := by simpa using hn
  have hne2 : (s.now != 0) = true := by simpa using hn
  clear h hn
  go_enter Try.func36, Try.ntmps36
  go_wp2_with fail
  go_ret
  exact ⟨rfl, rfl⟩

theorem PhBeginYes (h : PhaseAt w b s) (hn : s.now = 0) : Calls Try.prog 36 #[.pointer (some ⟨b, 0, none⟩)] w fun e w' => e = .returned (.bool true) ∧ PhaseAt w' b (s.anew 1) ∧ Chg [b] w w' := by
  have h1 := h.cell 0
  simp [PS.cells] at h1
  rw [hn] at h1
  have HP := Lib.hid h
  clear h hn
  go_enter Try.func36, Try.ntmps36
  go_wp2_with fail
  refine (PhAnew HP.out _).mono ?_
  rintro e w1 ⟨rfl, hp, hc⟩
  go_wp2_with fail
  go_ret
  exact ⟨rfl, hp, hc⟩

theorem PhSweptNo (h : PhaseAt w b s) (hn : s.now ≠ 4) : Calls Try.prog 44 #[.pointer (some ⟨b, 0, none⟩)] w fun e w' => e = .returned (.bool false) ∧ w = w' := by
  have h1 := h.cell 0
  simp [PS.cells] at h1
  have hne : (s.now == 4) = false := by simpa using hn
  have hne2 : (s.now != 4) = true := by simpa using hn
  clear h hn
  go_enter Try.func44, Try.ntmps44
  go_wp2_with fail
  go_ret
  exact ⟨rfl, rfl⟩

theorem PhSweptYes (h : PhaseAt w b s) (hn : s.now = 4) : Calls Try.prog 44 #[.pointer (some ⟨b, 0, none⟩)] w fun e w' => e = .returned (.bool true) ∧ PhaseAt w' b (s.anew 0) ∧ Chg [b] w w' := by
  have h1 := h.cell 0
  simp [PS.cells] at h1
  rw [hn] at h1
  have HP := Lib.hid h
  clear h hn
  go_enter Try.func44, Try.ntmps44
  go_wp2_with fail
  refine (PhAnew HP.out _).mono ?_
  rintro e w1 ⟨rfl, hp, hc⟩
  go_wp2_with fail
  go_ret
  exact ⟨rfl, hp, hc⟩

theorem PhMarkedNo (h : PhaseAt w b s) (hn : s.now ≠ 3) : Calls Try.prog 43 #[.pointer (some ⟨b, 0, none⟩)] w fun e w' => e = .returned (.bool false) ∧ w = w' := by
  have h1 := h.cell 0
  simp [PS.cells] at h1
  have hne : (s.now == 3) = false := by simpa using hn
  have hne2 : (s.now != 3) = true := by simpa using hn
  clear h hn
  go_enter Try.func43, Try.ntmps43
  go_wp2_with fail
  go_ret
  exact ⟨rfl, rfl⟩

/-- k threads have been disarmed. -/
def PS.half (s : PS) (k : Int) : PS := ⟨4, s.rounds, s.live, fun i => if i < k then false else s.armed i, fun _ => false⟩
theorem half_cells (s : PS) : (s.half 4).cells = s.mark.cells := by simp [PS.half, PS.mark, PS.cells]
theorem half_start (s : PS) : (s.half 0).cells = (s.anew 4).cells := by simp [PS.half, PS.anew, PS.cells]

theorem PhMarkedYes (h : PhaseAt w b s) (hn : s.now = 3) : Calls Try.prog 43 #[.pointer (some ⟨b, 0, none⟩)] w fun e w' => e = .returned (.bool true) ∧ PhaseAt w' b s.mark ∧ Chg [b] w w' := by
  have h1 := h.cell 0
  simp [PS.cells] at h1
  rw [hn] at h1
  have HP := Lib.hid h
  clear h hn
  go_enter Try.func43, Try.ntmps43
  go_wp2_with fail
  refine (PhAnew HP.out _).mono ?_
  rintro e w1 ⟨rfl, hp, hc⟩
  have HC := Lib.hid hc
  have HP0 : Hid (PhaseAt w1 b (s.half 0)) := Lib.hid (by unfold PhaseAt; rw [half_start]; exact hp)
  clear hc hp h1
  go_wp2_with fail
  go_loopw [11] (fun i wr => ∃ k : Int, 0 ≤ k ∧ k ≤ 4 ∧ i = .int .i64 k ∧ PhaseAt wr b (s.half k) ∧ Chg [b] w wr) (fun i _ => (4 - intOf i).toNat)
  case atStart => exact ⟨0, by omega, by omega, rfl, HP0.out, HC.out⟩
  case round =>
    obtain ⟨k, hk0, hk4, rfl, hp, hc⟩ := hrel
    clear HP0 HC
    rcases (by omega : k = 0 ∨ k = 1 ∨ k = 2 ∨ k = 3 ∨ k = 4) with rfl | rfl | rfl | rfl | rfl
    · have h1 := hp.cell 3
      have f1 := hp.frozen 3
      simp [PS.cells] at h1
      have HC := Lib.hid (hc.setCell (p := ⟨b, 3, none⟩) (.inl (by simp)) (.bool false))
      have HP2 : Hid (PhaseAt (wr.setCell ⟨b, 3, none⟩ (.bool false)) b (s.half 1)) := Lib.hid (by
        have := hp.set_ 3 (.bool false)
        simpa [PhaseAt, PS.half, PS.cells] using this)
      clear hp hc
      go_wp2_with fail
      go_roundw
      case rel => exact ⟨1, by omega, by omega, rfl, HP2.out, HC.out⟩
      case measure => simp [intOf]
    · have h1 := hp.cell 6
      have f1 := hp.frozen 6
      simp [PS.cells] at h1
      have HC := Lib.hid (hc.setCell (p := ⟨b, 6, none⟩) (.inl (by simp)) (.bool false))
      have HP2 : Hid (PhaseAt (wr.setCell ⟨b, 6, none⟩ (.bool false)) b (s.half 2)) := Lib.hid (by
        have := hp.set_ 6 (.bool false)
        simpa [PhaseAt, PS.half, PS.cells] using this)
      clear hp hc
      go_wp2_with fail
      go_roundw
      case rel => exact ⟨2, by omega, by omega, rfl, HP2.out, HC.out⟩
      case measure => simp [intOf]
    · have h1 := hp.cell 9
      have f1 := hp.frozen 9
      simp [PS.cells] at h1
      have HC := Lib.hid (hc.setCell (p := ⟨b, 9, none⟩) (.inl (by simp)) (.bool false))
      have HP2 : Hid (PhaseAt (wr.setCell ⟨b, 9, none⟩ (.bool false)) b (s.half 3)) := Lib.hid (by
        have := hp.set_ 9 (.bool false)
        simpa [PhaseAt, PS.half, PS.cells] using this)
      clear hp hc
      go_wp2_with fail
      go_roundw
      case rel => exact ⟨3, by omega, by omega, rfl, HP2.out, HC.out⟩
      case measure => simp [intOf]
    · have h1 := hp.cell 12
      have f1 := hp.frozen 12
      simp [PS.cells] at h1
      have HC := Lib.hid (hc.setCell (p := ⟨b, 12, none⟩) (.inl (by simp)) (.bool false))
      have HP2 : Hid (PhaseAt (wr.setCell ⟨b, 12, none⟩ (.bool false)) b (s.half 4)) := Lib.hid (by
        have := hp.set_ 12 (.bool false)
        simpa [PhaseAt, PS.half, PS.cells] using this)
      clear hp hc
      go_wp2_with fail
      go_roundw
      case rel => exact ⟨4, by omega, by omega, rfl, HP2.out, HC.out⟩
      case measure => simp [intOf]
    · have HC := Lib.hid hc
      have HP2 : Hid (PhaseAt wr b s.mark) := Lib.hid (by unfold PhaseAt; rw [← half_cells]; exact hp)
      clear hp hc
      go_wp2_with fail
      go_ret
      exact ⟨rfl, HP2.out, HC.out⟩

set_option maxHeartbeats 2000000 in
theorem PhJoin (h : PhaseAt w b s) (t : Int) (h0 : 0 ≤ t) (h3 : t < 4) : Calls Try.prog 35 #[.pointer (some ⟨b, 0, none⟩), .int .i64 t] w fun e w' => e = .returned (.tuple #[]) ∧ PhaseAt w' b (s.join t) ∧ Chg [b] w w' := by
  have h1 := h.cell 0
  simp [PS.cells] at h1
  have HP := Lib.hid h
  rcases (by omega : t = 0 ∨ t = 1 ∨ t = 2 ∨ t = 3) with rfl | rfl | rfl | rfl
  · have h2 := h.cell 2
    have h4 := h.cell 3
    have h5 := h.cell 4
    have f2 := h.frozen 2
    have f4 := h.frozen 3
    have f5 := h.frozen 4
    simp [PS.cells] at h2 h4 h5
    clear h h0 h3
    cases hl : s.live 0
    · have HL := Lib.hid hl
      rw [hl] at h2
      clear hl
      have key : ∀ o : Bool, o = s.on → PhaseAt (((w.setCell ⟨b, 2, none⟩ (.bool true)).setCell ⟨b, 3, none⟩ (.bool o)).setCell ⟨b, 4, none⟩ (.bool o)) b (s.join 0) := by
        rintro o rfl
        have := ((HP.out.set_ 2 (.bool true)).set_ 3 (.bool s.on)).set_ 4 (.bool s.on)
        simpa [PhaseAt, PS.join, HL.out, PS.cells, upd] using this
      have HK := Lib.hid key
      have HC : ∀ o : Bool, Hid (Chg [b] w (((w.setCell ⟨b, 2, none⟩ (.bool true)).setCell ⟨b, 3, none⟩ (.bool o)).setCell ⟨b, 4, none⟩ (.bool o))) := fun o =>
        Lib.hid ((((Chg.refl _ w).setCell (.inl (by simp)) _).setCell (.inl (by simp)) _).setCell (.inl (by simp)) _)
      have HC2 := Lib.hid HC
      clear key HC
      unfold PS.on at HK
      generalize s.now = n at *
      by_cases hn0 : n = 0
      · subst hn0
        go_enter Try.func35, Try.ntmps35
        go_wp2_with fail
        go_end0
        exact ⟨rfl, HK.out _ (by simp), (HC2.out _).out⟩
      · have hb0 : (n == 0) = false := by simpa using hn0
        have hb1 : (n != 0) = true := by simpa using hn0
        by_cases hn4 : n = 4
        · subst hn4
          go_enter Try.func35, Try.ntmps35
          go_wp2_with fail
          go_end0
          exact ⟨rfl, HK.out _ (by simp), (HC2.out _).out⟩
        · have hb2 : (n == 4) = false := by simpa using hn4
          have hb3 : (n != 4) = true := by simpa using hn4
          have HN := Lib.hid (show true = (!decide (n = 0) && !decide (n = 4)) by simp [hn0, hn4])
          clear hn0 hn4
          go_enter Try.func35, Try.ntmps35
          go_wp2_with fail
          go_end0
          exact ⟨rfl, HK.out _ HN.out, (HC2.out _).out⟩
    · have HL := Lib.hid hl
      rw [hl] at h2
      clear hl
      go_enter Try.func35, Try.ntmps35
      go_wp2_with fail
      refine bodyPost_ret (results_none rfl _ _ _) rfl ?_
      exact ⟨rfl, by unfold PS.join; rw [if_pos HL.out]; exact HP.out, Chg.refl _ _⟩
  · have h2 := h.cell 5
    have h4 := h.cell 6
    have h5 := h.cell 7
    have f2 := h.frozen 5
    have f4 := h.frozen 6
    have f5 := h.frozen 7
    simp [PS.cells] at h2 h4 h5
    clear h h0 h3
    cases hl : s.live 1
    · have HL := Lib.hid hl
      rw [hl] at h2
      clear hl
      have key : ∀ o : Bool, o = s.on → PhaseAt (((w.setCell ⟨b, 5, none⟩ (.bool true)).setCell ⟨b, 6, none⟩ (.bool o)).setCell ⟨b, 7, none⟩ (.bool o)) b (s.join 1) := by
        rintro o rfl
        have := ((HP.out.set_ 5 (.bool true)).set_ 6 (.bool s.on)).set_ 7 (.bool s.on)
        simpa [PhaseAt, PS.join, HL.out, PS.cells, upd] using this
      have HK := Lib.hid key
      have HC : ∀ o : Bool, Hid (Chg [b] w (((w.setCell ⟨b, 5, none⟩ (.bool true)).setCell ⟨b, 6, none⟩ (.bool o)).setCell ⟨b, 7, none⟩ (.bool o))) := fun o =>
        Lib.hid ((((Chg.refl _ w).setCell (.inl (by simp)) _).setCell (.inl (by simp)) _).setCell (.inl (by simp)) _)
      have HC2 := Lib.hid HC
      clear key HC
      unfold PS.on at HK
      generalize s.now = n at *
      by_cases hn0 : n = 0
      · subst hn0
        go_enter Try.func35, Try.ntmps35
        go_wp2_with fail
        go_end0
        exact ⟨rfl, HK.out _ (by simp), (HC2.out _).out⟩
      · have hb0 : (n == 0) = false := by simpa using hn0
        have hb1 : (n != 0) = true := by simpa using hn0
        by_cases hn4 : n = 4
        · subst hn4
          go_enter Try.func35, Try.ntmps35
          go_wp2_with fail
          go_end0
          exact ⟨rfl, HK.out _ (by simp), (HC2.out _).out⟩
        · have hb2 : (n == 4) = false := by simpa using hn4
          have hb3 : (n != 4) = true := by simpa using hn4
          have HN := Lib.hid (show true = (!decide (n = 0) && !decide (n = 4)) by simp [hn0, hn4])
          clear hn0 hn4
          go_enter Try.func35, Try.ntmps35
          go_wp2_with fail
          go_end0
          exact ⟨rfl, HK.out _ HN.out, (HC2.out _).out⟩
    · have HL := Lib.hid hl
      rw [hl] at h2
      clear hl
      go_enter Try.func35, Try.ntmps35
      go_wp2_with fail
      refine bodyPost_ret (results_none rfl _ _ _) rfl ?_
      exact ⟨rfl, by unfold PS.join; rw [if_pos HL.out]; exact HP.out, Chg.refl _ _⟩
  · have h2 := h.cell 8
    have h4 := h.cell 9
    have h5 := h.cell 10
    have f2 := h.frozen 8
    have f4 := h.frozen 9
    have f5 := h.frozen 10
    simp [PS.cells] at h2 h4 h5
    clear h h0 h3
    cases hl : s.live 2
    · have HL := Lib.hid hl
      rw [hl] at h2
      clear hl
      have key : ∀ o : Bool, o = s.on → PhaseAt (((w.setCell ⟨b, 8, none⟩ (.bool true)).setCell ⟨b, 9, none⟩ (.bool o)).setCell ⟨b, 10, none⟩ (.bool o)) b (s.join 2) := by
        rintro o rfl
        have := ((HP.out.set_ 8 (.bool true)).set_ 9 (.bool s.on)).set_ 10 (.bool s.on)
        simpa [PhaseAt, PS.join, HL.out, PS.cells, upd] using this
      have HK := Lib.hid key
      have HC : ∀ o : Bool, Hid (Chg [b] w (((w.setCell ⟨b, 8, none⟩ (.bool true)).setCell ⟨b, 9, none⟩ (.bool o)).setCell ⟨b, 10, none⟩ (.bool o))) := fun o =>
        Lib.hid ((((Chg.refl _ w).setCell (.inl (by simp)) _).setCell (.inl (by simp)) _).setCell (.inl (by simp)) _)
      have HC2 := Lib.hid HC
      clear key HC
      unfold PS.on at HK
      generalize s.now = n at *
      by_cases hn0 : n = 0
      · subst hn0
        go_enter Try.func35, Try.ntmps35
        go_wp2_with fail
        go_end0
        exact ⟨rfl, HK.out _ (by simp), (HC2.out _).out⟩
      · have hb0 : (n == 0) = false := by simpa using hn0
        have hb1 : (n != 0) = true := by simpa using hn0
        by_cases hn4 : n = 4
        · subst hn4
          go_enter Try.func35, Try.ntmps35
          go_wp2_with fail
          go_end0
          exact ⟨rfl, HK.out _ (by simp), (HC2.out _).out⟩
        · have hb2 : (n == 4) = false := by simpa using hn4
          have hb3 : (n != 4) = true := by simpa using hn4
          have HN := Lib.hid (show true = (!decide (n = 0) && !decide (n = 4)) by simp [hn0, hn4])
          clear hn0 hn4
          go_enter Try.func35, Try.ntmps35
          go_wp2_with fail
          go_end0
          exact ⟨rfl, HK.out _ HN.out, (HC2.out _).out⟩
    · have HL := Lib.hid hl
      rw [hl] at h2
      clear hl
      go_enter Try.func35, Try.ntmps35
      go_wp2_with fail
      refine bodyPost_ret (results_none rfl _ _ _) rfl ?_
      exact ⟨rfl, by unfold PS.join; rw [if_pos HL.out]; exact HP.out, Chg.refl _ _⟩
  · have h2 := h.cell 11
    have h4 := h.cell 12
    have h5 := h.cell 13
    have f2 := h.frozen 11
    have f4 := h.frozen 12
    have f5 := h.frozen 13
    simp [PS.cells] at h2 h4 h5
    clear h h0 h3
    cases hl : s.live 3
    · have HL := Lib.hid hl
      rw [hl] at h2
      clear hl
      have key : ∀ o : Bool, o = s.on → PhaseAt (((w.setCell ⟨b, 11, none⟩ (.bool true)).setCell ⟨b, 12, none⟩ (.bool o)).setCell ⟨b, 13, none⟩ (.bool o)) b (s.join 3) := by
        rintro o rfl
        have := ((HP.out.set_ 11 (.bool true)).set_ 12 (.bool s.on)).set_ 13 (.bool s.on)
        simpa [PhaseAt, PS.join, HL.out, PS.cells, upd] using this
      have HK := Lib.hid key
      have HC : ∀ o : Bool, Hid (Chg [b] w (((w.setCell ⟨b, 11, none⟩ (.bool true)).setCell ⟨b, 12, none⟩ (.bool o)).setCell ⟨b, 13, none⟩ (.bool o))) := fun o =>
        Lib.hid ((((Chg.refl _ w).setCell (.inl (by simp)) _).setCell (.inl (by simp)) _).setCell (.inl (by simp)) _)
      have HC2 := Lib.hid HC
      clear key HC
      unfold PS.on at HK
      generalize s.now = n at *
      by_cases hn0 : n = 0
      · subst hn0
        go_enter Try.func35, Try.ntmps35
        go_wp2_with fail
        go_end0
        exact ⟨rfl, HK.out _ (by simp), (HC2.out _).out⟩
      · have hb0 : (n == 0) = false := by simpa using hn0
        have hb1 : (n != 0) = true := by simpa using hn0
        by_cases hn4 : n = 4
        · subst hn4
          go_enter Try.func35, Try.ntmps35
          go_wp2_with fail
          go_end0
          exact ⟨rfl, HK.out _ (by simp), (HC2.out _).out⟩
        · have hb2 : (n == 4) = false := by simpa using hn4
          have hb3 : (n != 4) = true := by simpa using hn4
          have HN := Lib.hid (show true = (!decide (n = 0) && !decide (n = 4)) by simp [hn0, hn4])
          clear hn0 hn4
          go_enter Try.func35, Try.ntmps35
          go_wp2_with fail
          go_end0
          exact ⟨rfl, HK.out _ HN.out, (HC2.out _).out⟩
    · have HL := Lib.hid hl
      rw [hl] at h2
      clear hl
      go_enter Try.func35, Try.ntmps35
      go_wp2_with fail
      refine bodyPost_ret (results_none rfl _ _ _) rfl ?_
      exact ⟨rfl, by unfold PS.join; rw [if_pos HL.out]; exact HP.out, Chg.refl _ _⟩

theorem PhLeave (h : PhaseAt w b s) (t : Int) (h0 : 0 ≤ t) (h3 : t < 4) : Calls Try.prog 38 #[.pointer (some ⟨b, 0, none⟩), .int .i64 t] w fun e w' => e = .returned (.tuple #[]) ∧ PhaseAt w' b (s.leave t) ∧ Chg [b] w w' := by
  have HP := Lib.hid h
  rcases (by omega : t = 0 ∨ t = 1 ∨ t = 2 ∨ t = 3) with rfl | rfl | rfl | rfl
  · have h2 := h.cell 2
    have h4 := h.cell 3
    have h5 := h.cell 4
    have f2 := h.frozen 2
    have f4 := h.frozen 3
    have f5 := h.frozen 4
    simp [PS.cells] at h2 h4 h5
    clear h h0 h3
    go_enter Try.func38, Try.ntmps38
    go_wp2_with fail
    go_end0
    refine ⟨rfl, ?_, (((Chg.refl _ w).setCell (.inl (by simp)) _).setCell (.inl (by simp)) _).setCell (.inl (by simp)) _⟩
    have := ((HP.out.set_ 2 (.bool false)).set_ 3 (.bool false)).set_ 4 (.bool false)
    simpa [PhaseAt, PS.leave, PS.cells, upd] using this
  · have h2 := h.cell 5
    have h4 := h.cell 6
    have h5 := h.cell 7
    have f2 := h.frozen 5
    have f4 := h.frozen 6
    have f5 := h.frozen 7
    simp [PS.cells] at h2 h4 h5
    clear h h0 h3
    go_enter Try.func38, Try.ntmps38
    go_wp2_with fail
    go_end0
    refine ⟨rfl, ?_, (((Chg.refl _ w).setCell (.inl (by simp)) _).setCell (.inl (by simp)) _).setCell (.inl (by simp)) _⟩
    have := ((HP.out.set_ 5 (.bool false)).set_ 6 (.bool false)).set_ 7 (.bool false)
    simpa [PhaseAt, PS.leave, PS.cells, upd] using this
  · have h2 := h.cell 8
    have h4 := h.cell 9
    have h5 := h.cell 10
    have f2 := h.frozen 8
    have f4 := h.frozen 9
    have f5 := h.frozen 10
    simp [PS.cells] at h2 h4 h5
    clear h h0 h3
    go_enter Try.func38, Try.ntmps38
    go_wp2_with fail
    go_end0
    refine ⟨rfl, ?_, (((Chg.refl _ w).setCell (.inl (by simp)) _).setCell (.inl (by simp)) _).setCell (.inl (by simp)) _⟩
    have := ((HP.out.set_ 8 (.bool false)).set_ 9 (.bool false)).set_ 10 (.bool false)
    simpa [PhaseAt, PS.leave, PS.cells, upd] using this
  · have h2 := h.cell 11
    have h4 := h.cell 12
    have h5 := h.cell 13
    have f2 := h.frozen 11
    have f4 := h.frozen 12
    have f5 := h.frozen 13
    simp [PS.cells] at h2 h4 h5
    clear h h0 h3
    go_enter Try.func38, Try.ntmps38
    go_wp2_with fail
    go_end0
    refine ⟨rfl, ?_, (((Chg.refl _ w).setCell (.inl (by simp)) _).setCell (.inl (by simp)) _).setCell (.inl (by simp)) _⟩
    have := ((HP.out.set_ 11 (.bool false)).set_ 12 (.bool false)).set_ 13 (.bool false)
    simpa [PhaseAt, PS.leave, PS.cells, upd] using this

theorem PhAckNo (h : PhaseAt w b s) (t : Int) (h0 : 0 ≤ t) (h3 : t < 4) (hw : s.wants t = false) : Calls Try.prog 37 #[.pointer (some ⟨b, 0, none⟩), .int .i64 t] w fun e w' => e = .returned (.bool false) ∧ PhaseAt w' b s ∧ Chg [b] w w' := by
  have HW := Lib.hid hw
  clear hw
  go_enter Try.func37, Try.ntmps37
  go_wp2_with fail
  refine (PhWants h t h0 h3).mono ?_
  rintro e w1 ⟨rfl, hp, hc⟩
  rw [HW.out]
  go_wp2_with fail
  go_ret
  exact ⟨rfl, hp, hc.mono (by simp)⟩

set_option maxHeartbeats 2000000 in
theorem PhAckYes (h : PhaseAt w b s) (t : Int) (h0 : 0 ≤ t) (h3 : t < 4) (hw : s.wants t = true) : Calls Try.prog 37 #[.pointer (some ⟨b, 0, none⟩), .int .i64 t] w fun e w' => e = .returned (.bool true) ∧ PhaseAt w' b (s.ack t) ∧ Chg [b] w w' := by
  have HW := Lib.hid hw
  clear hw
  have h03 := Lib.hid (And.intro h0 h3)
  rcases (by omega : t = 0 ∨ t = 1 ∨ t = 2 ∨ t = 3) with rfl | rfl | rfl | rfl
  · have HNOW := Lib.hid (show s.now = 1 ∨ s.now = 2 by
      have := HW.out
      simp [PS.wants, PS.shaking] at this
      exact this.1.1)
    go_enter Try.func37, Try.ntmps37
    go_wp2_with fail
    refine (PhWants h 0 (by omega) (by omega)).mono ?_
    rintro e w1 ⟨rfl, hp, hc⟩
    rw [HW.out]
    have h1 := hp.cell 0
    have h2 := hp.cell 4
    have h4 := hp.cell 3
    have f2 := hp.frozen 4
    have f4 := hp.frozen 3
    simp [PS.cells] at h1 h2 h4
    have key : ∀ o : Bool, o = (s.armed 0 || decide (s.now = 1)) → PhaseAt ((w1.setCell ⟨b, 4, none⟩ (.bool true)).setCell ⟨b, 3, none⟩ (.bool o)) b (s.ack 0) := by
      rintro o rfl
      have := (hp.set_ 4 (.bool true)).set_ 3 (.bool (s.armed 0 || decide (s.now = 1)))
      simpa [PhaseAt, PS.ack, PS.cells, upd] using this
    have HK := Lib.hid key
    have HC : ∀ o : Bool, Hid (Chg [b] w ((w1.setCell ⟨b, 4, none⟩ (.bool true)).setCell ⟨b, 3, none⟩ (.bool o))) := fun o =>
      Lib.hid (((hc.mono (F' := [b]) (by simp)).setCell (.inl (by simp)) _).setCell (.inl (by simp)) _)
    have HC2 := Lib.hid HC
    clear key HC hp hc h
    generalize s.armed 0 = R at *
    generalize s.now = n at *
    rcases HNOW.out with rfl | rfl <;> cases R <;> go_wp2_with fail
    all_goals go_ret
    all_goals exact ⟨rfl, HK.out _ (by simp), (HC2.out _).out⟩
  · have HNOW := Lib.hid (show s.now = 1 ∨ s.now = 2 by
      have := HW.out
      simp [PS.wants, PS.shaking] at this
      exact this.1.1)
    go_enter Try.func37, Try.ntmps37
    go_wp2_with fail
    refine (PhWants h 1 (by omega) (by omega)).mono ?_
    rintro e w1 ⟨rfl, hp, hc⟩
    rw [HW.out]
    have h1 := hp.cell 0
    have h2 := hp.cell 7
    have h4 := hp.cell 6
    have f2 := hp.frozen 7
    have f4 := hp.frozen 6
    simp [PS.cells] at h1 h2 h4
    have key : ∀ o : Bool, o = (s.armed 1 || decide (s.now = 1)) → PhaseAt ((w1.setCell ⟨b, 7, none⟩ (.bool true)).setCell ⟨b, 6, none⟩ (.bool o)) b (s.ack 1) := by
      rintro o rfl
      have := (hp.set_ 7 (.bool true)).set_ 6 (.bool (s.armed 1 || decide (s.now = 1)))
      simpa [PhaseAt, PS.ack, PS.cells, upd] using this
    have HK := Lib.hid key
    have HC : ∀ o : Bool, Hid (Chg [b] w ((w1.setCell ⟨b, 7, none⟩ (.bool true)).setCell ⟨b, 6, none⟩ (.bool o))) := fun o =>
      Lib.hid (((hc.mono (F' := [b]) (by simp)).setCell (.inl (by simp)) _).setCell (.inl (by simp)) _)
    have HC2 := Lib.hid HC
    clear key HC hp hc h
    generalize s.armed 1 = R at *
    generalize s.now = n at *
    rcases HNOW.out with rfl | rfl <;> cases R <;> go_wp2_with fail
    all_goals go_ret
    all_goals exact ⟨rfl, HK.out _ (by simp), (HC2.out _).out⟩
  · have HNOW := Lib.hid (show s.now = 1 ∨ s.now = 2 by
      have := HW.out
      simp [PS.wants, PS.shaking] at this
      exact this.1.1)
    go_enter Try.func37, Try.ntmps37
    go_wp2_with fail
    refine (PhWants h 2 (by omega) (by omega)).mono ?_
    rintro e w1 ⟨rfl, hp, hc⟩
    rw [HW.out]
    have h1 := hp.cell 0
    have h2 := hp.cell 10
    have h4 := hp.cell 9
    have f2 := hp.frozen 10
    have f4 := hp.frozen 9
    simp [PS.cells] at h1 h2 h4
    have key : ∀ o : Bool, o = (s.armed 2 || decide (s.now = 1)) → PhaseAt ((w1.setCell ⟨b, 10, none⟩ (.bool true)).setCell ⟨b, 9, none⟩ (.bool o)) b (s.ack 2) := by
      rintro o rfl
      have := (hp.set_ 10 (.bool true)).set_ 9 (.bool (s.armed 2 || decide (s.now = 1)))
      simpa [PhaseAt, PS.ack, PS.cells, upd] using this
    have HK := Lib.hid key
    have HC : ∀ o : Bool, Hid (Chg [b] w ((w1.setCell ⟨b, 10, none⟩ (.bool true)).setCell ⟨b, 9, none⟩ (.bool o))) := fun o =>
      Lib.hid (((hc.mono (F' := [b]) (by simp)).setCell (.inl (by simp)) _).setCell (.inl (by simp)) _)
    have HC2 := Lib.hid HC
    clear key HC hp hc h
    generalize s.armed 2 = R at *
    generalize s.now = n at *
    rcases HNOW.out with rfl | rfl <;> cases R <;> go_wp2_with fail
    all_goals go_ret
    all_goals exact ⟨rfl, HK.out _ (by simp), (HC2.out _).out⟩
  · have HNOW := Lib.hid (show s.now = 1 ∨ s.now = 2 by
      have := HW.out
      simp [PS.wants, PS.shaking] at this
      exact this.1.1)
    go_enter Try.func37, Try.ntmps37
    go_wp2_with fail
    refine (PhWants h 3 (by omega) (by omega)).mono ?_
    rintro e w1 ⟨rfl, hp, hc⟩
    rw [HW.out]
    have h1 := hp.cell 0
    have h2 := hp.cell 13
    have h4 := hp.cell 12
    have f2 := hp.frozen 13
    have f4 := hp.frozen 12
    simp [PS.cells] at h1 h2 h4
    have key : ∀ o : Bool, o = (s.armed 3 || decide (s.now = 1)) → PhaseAt ((w1.setCell ⟨b, 13, none⟩ (.bool true)).setCell ⟨b, 12, none⟩ (.bool o)) b (s.ack 3) := by
      rintro o rfl
      have := (hp.set_ 13 (.bool true)).set_ 12 (.bool (s.armed 3 || decide (s.now = 1)))
      simpa [PhaseAt, PS.ack, PS.cells, upd] using this
    have HK := Lib.hid key
    have HC : ∀ o : Bool, Hid (Chg [b] w ((w1.setCell ⟨b, 13, none⟩ (.bool true)).setCell ⟨b, 12, none⟩ (.bool o))) := fun o =>
      Lib.hid (((hc.mono (F' := [b]) (by simp)).setCell (.inl (by simp)) _).setCell (.inl (by simp)) _)
    have HC2 := Lib.hid HC
    clear key HC hp hc h
    generalize s.armed 3 = R at *
    generalize s.now = n at *
    rcases HNOW.out with rfl | rfl <;> cases R <;> go_wp2_with fail
    all_goals go_ret
    all_goals exact ⟨rfl, HK.out _ (by simp), (HC2.out _).out⟩

theorem still_iff (s : PS) : s.still = true ↔ ∀ t : Int, 0 ≤ t → t < 4 → s.wants t = false := by
  unfold PS.still
  constructor
  · intro h t h0 h4
    simp at h
    rcases (by omega : t = 0 ∨ t = 1 ∨ t = 2 ∨ t = 3) with rfl | rfl | rfl | rfl
    · exact h.1.1.1
    · exact h.1.1.2
    · exact h.1.2
    · exact h.2
  · intro h
    simp [h 0 (by omega) (by omega), h 1 (by omega) (by omega), h 2 (by omega) (by omega), h 3 (by omega) (by omega)]

/-- No thread below k is wanted. -/
def PS.calm (s : PS) (k : Int) : Prop := ∀ t : Int, 0 ≤ t → t < k → s.wants t = false

theorem PhAdvanceNo (h : PhaseAt w b s) (hn : s.still = false ∨ s.shaking = false) : Calls Try.prog 41 #[.pointer (some ⟨b, 0, none⟩)] w fun e w' => e = .returned (.bool false) ∧ PhaseAt w' b s ∧ Chg [b] w w' := by
  have HN := Lib.hid hn
  have HP := Lib.hid h
  clear hn h
  go_enter Try.func41, Try.ntmps41
  go_wp2_with fail
  go_loopw [4] (fun i wr => ∃ k : Int, 0 ≤ k ∧ k ≤ 4 ∧ i = .int .i64 k ∧ s.calm k ∧ PhaseAt wr b s ∧ Chg [b] w wr) (fun i _ => (4 - intOf i).toNat)
  case atStart => exact ⟨0, by omega, by omega, rfl, fun t h0 h1 => by omega, HP.out, Chg.refl _ _⟩
  case round =>
    obtain ⟨k, hk0, hk4, rfl, hcalm, hp, hc⟩ := hrel
    have HQ := Lib.hid hcalm
    have HC := Lib.hid hc
    clear HP hcalm hc
    by_cases hlt : k < 4
    · go_wp2_with fail
      refine (PhWants hp k hk0 hlt).mono ?_
      rintro e w2 ⟨rfl, hp2, hc2⟩
      have HC2 := Lib.hid (HC.out.trans hc2 (by simp))
      clear hc2 hp
      cases hwt : s.wants k
      · have HQ2 : Hid (s.calm (k + 1)) := Lib.hid (by
          intro t h0 h1
          by_cases h2 : t < k
          · exact HQ.out t h0 h2
          · obtain rfl : t = k := by omega
            exact hwt)
        clear hwt
        go_wp2_with fail
        go_roundw
        case rel => exact ⟨k + 1, by omega, by omega, rfl, HQ2.out, hp2, HC2.out⟩
        case measure => simp [intOf]; omega
      · clear hwt
        go_wp2_with fail
        go_ret
        exact ⟨rfl, hp2, HC2.out⟩
    · obtain rfl : k = 4 := by omega
      have HS := Lib.hid (show s.shaking = false by
        rcases HN.out with h1 | h1
        · have := (still_iff s).2 HQ.out
          rw [h1] at this; cases this
        · exact h1)
      clear HN
      go_wp2_with fail
      refine (PhShaking hp).mono ?_
      rintro e w' ⟨rfl, rfl⟩
      rw [HS.out]
      go_wp2_with fail
      go_ret
      exact ⟨rfl, hp, HC.out⟩

theorem PhAdvanceYes (h : PhaseAt w b s) (hn : s.still = true) (hs : s.shaking = true) (hr0 : 0 ≤ s.rounds) (hr : s.rounds ≤ 1000000) : Calls Try.prog 41 #[.pointer (some ⟨b, 0, none⟩)] w fun e w' => e = .returned (.bool true) ∧ PhaseAt w' b s.next ∧ Chg [b] w w' := by
  have HN := Lib.hid ((still_iff s).1 hn)
  have HP := Lib.hid h
  have HS := Lib.hid hs
  clear hn h hs
  go_enter Try.func41, Try.ntmps41
  go_wp2_with fail
  go_loopw [4] (fun i wr => ∃ k : Int, 0 ≤ k ∧ k ≤ 4 ∧ i = .int .i64 k ∧ PhaseAt wr b s ∧ Chg [b] w wr) (fun i _ => (4 - intOf i).toNat)
  case atStart => exact ⟨0, by omega, by omega, rfl, HP.out, Chg.refl _ _⟩
  case round =>
    obtain ⟨k, hk0, hk4, rfl, hp, hc⟩ := hrel
    have HC := Lib.hid hc
    clear HP hc
    by_cases hlt : k < 4
    · go_wp2_with fail
      refine (PhWants hp k hk0 hlt).mono ?_
      rintro e w2 ⟨rfl, hp2, hc2⟩
      rw [HN.out k hk0 hlt]
      have HC2 := Lib.hid (HC.out.trans hc2 (by simp))
      clear hc2 hp
      go_wp2_with fail
      go_roundw
      case rel => exact ⟨k + 1, by omega, by omega, rfl, hp2, HC2.out⟩
      case measure => simp [intOf]; omega
    · obtain rfl : k = 4 := by omega
      go_wp2_with fail
      refine (PhShaking hp).mono ?_
      rintro e w' ⟨rfl, rfl⟩
      rw [HS.out]
      have hnow : 1 ≤ s.now ∧ s.now ≤ 2 := by
        have := HS.out
        unfold PS.shaking at this
        simp at this
        omega
      have hn0 := hnow.1
      have hn2 := hnow.2
      clear hnow
      have h1 := hp.cell 0
      simp [PS.cells] at h1
      have HP2 := Lib.hid hp
      clear hp
      go_wp2_with fail
      refine (PhAnew HP2.out _).mono ?_
      rintro e w3 ⟨rfl, hp3, hc3⟩
      have HC3 := Lib.hid (HC.out.trans hc3 (by simp))
      have h2 := hp3.cell 1
      have f2 := hp3.frozen 1
      simp [PS.cells, PS.anew] at h2
      have HP3 := Lib.hid hp3
      clear hc3 hp3
      go_wp2_with fail
      go_ret
      refine ⟨rfl, ?_, HC3.out.setCell (.inl (by simp)) _⟩
      have := HP3.out.set_ 1 (.int .i64 (s.rounds + 1))
      simpa [PhaseAt, PS.next, PS.anew, PS.cells] using this

end

end Go.Proofs.Ytamecbanginjmaa
