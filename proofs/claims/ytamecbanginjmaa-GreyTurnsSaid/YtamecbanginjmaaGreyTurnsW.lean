/-
  The walk of GreyTurns. Conditions: as the theorem says.
-/
import Derived.Test.YtamecbanginjmaaGrey
import Derived.Test.YtamecbanginjmaaOpen
namespace Go.Proofs.Ytamecbanginjmaa
open Go.RowKit Go.ChangeShapes

/-- Behind k pushes of zs onto a stack with room R. -/
def Pushed (w wr : World) (b : Nat) (zs : List Int) (R : Int) (k : Nat) : Prop :=
  ∃ F, GreyAt wr F b (zs.take (min k R.toNat)) R (decide (R < k)) ∧ Own w F wr

theorem pushed_start {w w2 : World} {b : Nat} (zs : List Int) {R : Int} (h : GreyAt w2 [b] b [] (max R 0) false) (hO : Own w [b] w2) (h0 : 0 ≤ R) : Pushed w w2 b zs R 0 := by
  refine ⟨_, ?_, hO⟩
  rw [Int.max_eq_left h0] at h
  simpa [show ¬ R < 0 by omega] using h

theorem pushed_step {w wr : World} {b k : Nat} {zs : List Int} {R : Int} (h : Pushed w wr b zs R k) (h0 : 0 ≤ R) (hR : R ≤ 100) (hk : k < zs.length) :
    Calls Try.prog 21 #[.pointer (some ⟨b, 0, none⟩), .int .i64 (zs[k]?.getD 0)] wr fun e w' => ∃ x, e = .returned (.bool x) ∧ Pushed w w' b zs R (k + 1) := by
  obtain ⟨F, hG, hO⟩ := h
  have hl : (zs.take (min k R.toNat)).length = min k R.toNat := by rw [List.length_take]; omega
  by_cases hk2 : (k : Int) < R
  · refine (PushYes hG _ (by omega) (by omega)).mono ?_
    rintro e w' ⟨F', rfl, h1, h2, h3⟩
    refine ⟨_, rfl, F', ?_, hO.step h2 h3⟩
    rw [Nat.min_eq_left (by omega), ← take_succ_getD _ _ hk] at h1
    rw [Nat.min_eq_left (by omega)]
    simpa [show ¬ R < (k : Int) by omega, show ¬ R < (k : Int) + 1 by omega] using h1
  · refine (PushNo hG _ (by omega)).mono ?_
    rintro e w' ⟨rfl, h1, h2⟩
    refine ⟨_, rfl, F, ?_, hO.same h2⟩
    rw [show min (k + 1) R.toNat = min k R.toNat by omega]
    simpa [show R < (k : Int) + 1 by omega] using h1

/-- j of zs are left on the stack. -/
def Popped (w wr : World) (b : Nat) (zs : List Int) (R : Int) (j : Nat) (over : Bool) : Prop :=
  ∃ F, GreyAt wr F b (zs.take j) R over ∧ Own w F wr

set_option maxRecDepth 100000 in
set_option maxHeartbeats 1000000 in
theorem greyTurns_core (A : Option Addr) (n c : Nat) (zs : List Int) (room : Int) (w : World) (hz : Arg w A n (zs.map (.int .i64))) (h0 : 0 ≤ room) (h1 : room ≤ 255) (hm : n ≤ maxLen) :
    Calls Try.prog 3 #[.slice A n c, .int .u8 room] w fun e w' => e = .returned (.bool true) ∧ Below w.heap.size w w' := by
  have hO := Own.start w
  have hlen : zs.length = n := by simpa using hz.1
  have HL := Lib.hid hlen
  have HZ := Lib.hid hz
  clear hlen hz
  unfold maxLen at hm
  by_cases hn : 100 < n
  · go_enter Try.func3, Try.ntmps3
    go_wp2_with fail
    refine (fit10 _).mono ?_
    rintro e w1 ⟨rfl, hC⟩
    replace hO := hO.same hC
    go_wp2_with fail
    go_ret
    exact ⟨rfl, hO.below⟩
  go_enter Try.func3, Try.ntmps3
  go_wp2_with fail
  refine (fit10 _).mono ?_
  rintro e w1 ⟨rfl, hC⟩
  replace hO := hO.same hC
  clear hC
  go_wp2_with fail
  refine (New _ _).mono ?_
  rintro e w2 ⟨b, rfl, hb, hG, hC⟩
  replace hO := hO.step hC (F' := [b]) (by intro x hx; simp at hx; omega)
  clear hb
  have hP := pushed_start zs hG hO (by omega)
  clear hC hG hO
  go_wp2_with fail
  go_loopw [25] (fun i wr => ∃ k : Nat, k ≤ n ∧ i = .int .i64 k ∧ Pushed w wr b zs (room % 70) k) (fun i _ => n - (intOf i).toNat)
  case atStart => exact ⟨0, by omega, rfl, hP⟩
  case round =>
    obtain ⟨k, hk, rfl, hP2⟩ := hrel
    clear hP
    by_cases hlt : k < n
    · obtain ⟨F, hG, hO⟩ := hP2
      obtain ⟨ab, ao, rfl, hcell⟩ := HZ.out.int hO hlt
      have hP2 : Pushed w wr b zs (room % 70) k := ⟨F, hG, hO⟩
      clear hG hO
      go_wp2_with fail
      refine (pushed_step hP2 (by omega) (by omega) (by have := HL.out; omega)).mono ?_
      rintro e w3 ⟨x, rfl, hP3⟩
      clear hP2
      go_wp2_with fail
      go_roundw
      case rel => exact ⟨k + 1, by omega, by go_num, hP3⟩
      case measure => simp [intOf]; omega
    · obtain rfl : k = n := by omega
      obtain ⟨F, hG, hO⟩ := hP2
      have hl : ((zs.take (min k (room % 70).toNat)).length : Int) = min (k : Int) (room % 70) := by have := HL.out; rw [List.length_take]; omega
      have HLL := Lib.hid hl
      clear hl
      go_wp2_with fail
      · have hR0 : 0 ≤ room % 70 := by omega
        generalize room % 70 = R at *
        obtain ⟨m, hmR⟩ : ∃ m : Nat, R = m := ⟨R.toNat, by omega⟩
        subst hmR
        rw [show min k (m : Int).toNat = m by omega] at hG HLL
        rw [show min (k : Int) (m : Int) = m by omega] at HLL
        rw [show decide ((m : Int) < k) = true by simp; omega] at hG
        refine (Over hG).mono ?_
        rintro e w' ⟨rfl, rfl⟩
        go_wp2_with fail
        refine (Len hG).mono ?_
        rintro e w' ⟨rfl, rfl⟩
        rw [HLL.out]
        go_wp2_with fail
        go_loopw [9] (fun i wx => ∃ j : Nat, j ≤ m ∧ i = .int .i64 ((j : Int) - 1) ∧ Popped w wx b zs m j true) (fun i _ => (intOf i + 1).toNat)
        case atStart => exact ⟨m, by omega, rfl, F, hG, hO⟩
        case round =>
          obtain ⟨j, hj, rfl, hP⟩ := hrel
          clear hG hO
          have hlm : m ≤ zs.length := by have := HL.out; omega
          by_cases hj0 : 0 < j
          · obtain ⟨i, rfl⟩ : ∃ i, j = i + 1 := ⟨j - 1, by omega⟩
            rw [show ((i + 1 : Nat) : Int) - 1 = (i : Int) by omega]
            obtain ⟨F3, hG3, hO3⟩ := hP
            obtain ⟨ab, ao, rfl, hcell⟩ := HZ.out.int hO3 (k := i) (by omega)
            rw [take_succ_getD _ _ (by omega)] at hG3
            go_wp2_with fail
            refine (PopYes hG3).mono ?_
            rintro e w4 ⟨rfl, hG4, hC⟩
            replace hcell := (HZ.out.int (hO3.same hC) (k := i) (by omega))
            replace hO3 := hO3.same hC
            clear hC hG3
            obtain ⟨ab', ao', e, hcell⟩ := hcell
            cases e
            go_wp2_with fail
            go_roundw
            case rel => exact ⟨i, by omega, rfl, F3, hG4, hO3⟩
            case measure => simp [intOf]
          · obtain rfl : j = 0 := by omega
            obtain ⟨F3, hG3, hO3⟩ := hP
            rw [List.take_zero] at hG3
            go_wp2_with fail
            refine (PopNo hG3).mono ?_
            rintro e w' ⟨rfl, rfl⟩
            go_wp2_with fail
            refine (Over hG3).mono ?_
            rintro e w' ⟨rfl, rfl⟩
            go_wp2_with fail
            go_ret
            exact ⟨by simp, hO3.below⟩
      · have hR0 : 0 ≤ room % 70 := by omega
        generalize room % 70 = R at *
        rw [show min k R.toNat = k by omega] at hG HLL
        rw [show min (k : Int) R = k by omega] at HLL
        rw [show decide (R < k) = false by simp; omega] at hG
        refine (Over hG).mono ?_
        rintro e w' ⟨rfl, rfl⟩
        go_wp2_with fail
        refine (Len hG).mono ?_
        rintro e w' ⟨rfl, rfl⟩
        rw [HLL.out]
        go_wp2_with fail
        go_loopw [9] (fun i wx => ∃ j : Nat, j ≤ k ∧ i = .int .i64 ((j : Int) - 1) ∧ Popped w wx b zs R j false) (fun i _ => (intOf i + 1).toNat)
        case atStart => exact ⟨k, by omega, rfl, F, hG, hO⟩
        case round =>
          obtain ⟨j, hj, rfl, hP⟩ := hrel
          clear hG hO
          have hlm : k ≤ zs.length := by have := HL.out; omega
          by_cases hj0 : 0 < j
          · obtain ⟨i, rfl⟩ : ∃ i, j = i + 1 := ⟨j - 1, by omega⟩
            rw [show ((i + 1 : Nat) : Int) - 1 = (i : Int) by omega]
            obtain ⟨F3, hG3, hO3⟩ := hP
            obtain ⟨ab, ao, rfl, hcell⟩ := HZ.out.int hO3 (k := i) (by omega)
            rw [take_succ_getD _ _ (by omega)] at hG3
            go_wp2_with fail
            refine (PopYes hG3).mono ?_
            rintro e w4 ⟨rfl, hG4, hC⟩
            replace hcell := (HZ.out.int (hO3.same hC) (k := i) (by omega))
            replace hO3 := hO3.same hC
            clear hC hG3
            obtain ⟨ab', ao', e, hcell⟩ := hcell
            cases e
            go_wp2_with fail
            go_roundw
            case rel => exact ⟨i, by omega, rfl, F3, hG4, hO3⟩
            case measure => simp [intOf]
          · obtain rfl : j = 0 := by omega
            obtain ⟨F3, hG3, hO3⟩ := hP
            rw [List.take_zero] at hG3
            go_wp2_with fail
            refine (PopNo hG3).mono ?_
            rintro e w' ⟨rfl, rfl⟩
            go_wp2_with fail
            refine (Over hG3).mono ?_
            rintro e w' ⟨rfl, rfl⟩
            go_wp2_with fail
            go_ret
            exact ⟨by simp, hO3.below⟩

theorem greyTurns_walk (A : Option Addr) (n c : Nat) (D : Nat → Nat → Int) (room : Int) (w : World) (hz : ArgI w A n [.i64] D) (hm : n ≤ maxLen) (hr : (Lit.int .u8 room).wf = true) :
    Calls Try.prog 3 #[.slice A n c, .int .u8 room] w fun e w' => e = .returned (.bool true) ∧ Below w.heap.size w w' :=
  greyTurns_core A n c _ room w hz.arg (bounds_u8 hr).1 (bounds_u8 hr).2 hm

end Go.Proofs.Ytamecbanginjmaa
