/-
  The walk of GreyAgain. Conditions: as the theorem says.
-/
import Derived.Test.YtamecbanginjmaaGrey
import Derived.Test.YtamecbanginjmaaOpen
namespace Go.Proofs.Ytamecbanginjmaa
open Go.RowKit Go.ChangeShapes

/-- A stack of room R at b holds l and did not run over. -/
def Holds1 (w wr : World) (b : Nat) (R : Int) (l : List Int) : Prop := ∃ F, GreyAt wr F b l R false ∧ Own w F wr

set_option maxRecDepth 100000 in
set_option maxHeartbeats 1000000 in
theorem greyAgain_walk (room : Int) (A : Option Addr) (n c : Nat) (D : Nat → Nat → Int) (w : World) (hr : (Lit.int .u8 room).wf = true) (hz : ArgI w A n [.i64] D) (hm : n ≤ maxLen) :
    Calls Try.prog 4 #[.int .u8 room, .slice A n c] w fun e w' => e = .returned (.bool true) ∧ Below w.heap.size w w' := by
  have hO := Own.start w
  have HZ := Lib.hid hz
  clear hz
  have hr0 := (bounds_u8 hr).1
  have hr1 := (bounds_u8 hr).2
  clear hr
  unfold maxLen at hm
  by_cases hn : 60 < n
  · go_enter Try.func4, Try.ntmps4
    go_wp2_with fail
    refine (fit10 _).mono ?_
    rintro e w1 ⟨rfl, hC⟩
    replace hO := hO.same hC
    go_wp2_with fail
    go_ret
    exact ⟨rfl, hO.below⟩
  go_enter Try.func4, Try.ntmps4
  go_wp2_with fail
  refine (fit10 _).mono ?_
  rintro e w1 ⟨rfl, hC⟩
  replace hO := hO.same hC
  clear hC
  go_wp2_with fail
  refine (New _ _).mono ?_
  rintro e w2 ⟨b, rfl, hb, hG, hC⟩
  replace hO := hO.step hC (F' := [b]) (by intro x hx; simp at hx; omega)
  clear hC hb
  have hR0 : 0 ≤ room % 10 := by omega
  have hR1 : room % 10 ≤ 9 := by omega
  rw [Int.max_eq_left (by omega)] at hG
  generalize room % 10 = R at *
  have hP : Holds1 w w2 b (1 + R) (List.replicate 0 1) := ⟨_, hG, hO⟩
  clear hG hO
  go_wp2_with fail
  go_loopw [25] (fun i wr => ∃ k : Nat, (k : Int) ≤ 1 + R ∧ i = .int .i64 k ∧ Holds1 w wr b (1 + R) (List.replicate k 1)) (fun i _ => (1 + R - intOf i).toNat)
  case atStart => exact ⟨0, by omega, rfl, hP⟩
  case round =>
    obtain ⟨k, hk, rfl, hP2⟩ := hrel
    clear hP
    by_cases hlt : (k : Int) < 1 + R
    · obtain ⟨F, hG, hO⟩ := hP2
      go_wp2_with fail
      refine (PushYes hG _ (by simp; omega) (by simp; omega)).mono ?_
      rintro e w3 ⟨F3, rfl, hG3, hC3, hS3⟩
      replace hO := hO.step hC3 hS3
      have hP3 : Holds1 w w3 b (1 + R) (List.replicate (k + 1) 1) := ⟨_, by rw [List.replicate_succ']; exact hG3, hO⟩
      clear hC3 hS3 hG3 hG hO
      go_wp2_with fail
      go_roundw
      case rel => exact ⟨k + 1, by omega, by go_num, hP3⟩
      case measure => simp [intOf]; omega
    · have hkR : (k : Int) = 1 + R := by omega
      have hP3 : ∃ l : List Int, Hid ((l.length : Int) = 1 + R) ∧ Holds1 w wr b (1 + R) l := ⟨_, Lib.hid (by simp; omega), hP2⟩
      clear hP2 hkR
      go_wp2_with fail
      go_loopw [33] (fun i wr => ∃ (k : Nat) (l : List Int), k ≤ n ∧ i = .int .i64 k ∧ Hid ((l.length : Int) = 1 + R) ∧ Holds1 w wr b (1 + R) l) (fun i _ => n - (intOf i).toNat)
      case atStart => obtain ⟨l, h1, h2⟩ := hP3; exact ⟨0, l, by omega, rfl, h1, h2⟩
      case round =>
        obtain ⟨k, l, hk, rfl, HL, hP2⟩ := hrel
        clear hP3
        by_cases hlt : k < n
        · obtain ⟨l0, x, rfl⟩ : ∃ l0 x, l = l0 ++ [x] := by
            have hl : l ≠ [] := by rintro rfl; have := HL.out; simp at this; omega
            exact ⟨l.dropLast, l.getLast hl, (List.dropLast_concat_getLast hl).symm⟩
          have HL0 : Hid ((l0.length : Int) = R) := Lib.hid (by have := HL.out; simp at this; omega)
          obtain ⟨F, hG, hO⟩ := hP2
          obtain ⟨ab, ao, rfl, hcell⟩ := HZ.out.at_ hO hlt
          have hc0 := hcell 0 _ rfl
          simp at hc0
          clear hcell
          go_wp2_with fail
          refine (PushNo hG _ (by have := HL.out; omega)).mono ?_
          rintro e w3 ⟨rfl, hG3, hC3⟩
          replace hO := hO.same hC3
          clear hC3 hG
          go_wp2_with fail
          refine (Over hG3).mono ?_
          rintro e w' ⟨rfl, rfl⟩
          go_wp2_with fail
          refine (Settle hG3).mono ?_
          rintro e w4 ⟨rfl, hG4, hC4⟩
          replace hO := hO.same hC4
          clear hC4 hG3
          go_wp2_with fail
          refine (PopYes hG4).mono ?_
          rintro e w5 ⟨rfl, hG5, hC5⟩
          replace hO := hO.same hC5
          clear hC5 hG4
          have tail : ∀ K : Prop, K → K := fun _ h => h
          clear tail
          by_cases hx : x = 0 ∧ D k 0 ≠ 0
          · have hx1 : (x == 0) = true := by simpa using hx.1
            have hx2 : (D k 0 == 0) = false := by simpa using hx.2
            have hx3 : (D k 0 != 0) = true := by simpa using hx.2
            clear hx
            go_wp2_with fail
            refine (Len hG5).mono ?_
            rintro e w' ⟨rfl, rfl⟩
            rw [HL0.out]
            go_wp2_with fail
            refine (PushYes hG5 _ (by have := HL0.out; omega) (by have := HL0.out; omega)).mono ?_
            rintro e w6 ⟨F6, rfl, hG6, hC6, hS6⟩
            replace hO := hO.step hC6 hS6
            clear hC6 hS6 hG5
            go_wp2_with fail
            refine (Over hG6).mono ?_
            rintro e w' ⟨rfl, rfl⟩
            go_wp2_with fail
            refine (Len hG6).mono ?_
            rintro e w' ⟨rfl, rfl⟩
            rw [show (((l0 ++ [D k 0]).length : Nat) : Int) = 1 + R by simp; have := HL0.out; omega]
            go_wp2_with fail
            refine (PopYes hG6).mono ?_
            rintro e w7 ⟨rfl, hG7, hC7⟩
            replace hO := hO.same hC7
            clear hC7 hG6
            go_wp2_with fail
            refine (PushYes hG7 _ (by have := HL0.out; omega) (by have := HL0.out; omega)).mono ?_
            rintro e w8 ⟨F8, rfl, hG8, hC8, hS8⟩
            replace hO := hO.step hC8 hS8
            have hP8 : Holds1 w w8 b (1 + R) (l0 ++ [D k 0]) := ⟨_, hG8, hO⟩
            clear hC8 hS8 hG7 hG8 hO
            go_wp2_with fail
            go_roundw
            case rel => exact ⟨k + 1, l0 ++ [D k 0], by omega, by go_num, Lib.hid (by simp; have := HL0.out; omega), hP8⟩
            case measure => simp [intOf]; omega
          · by_cases h1 : x = 0
            · have hx1 : (x == 0) = true := by simpa using h1
              have h2 : D k 0 = 0 := by
                rcases Int.decEq (D k 0) 0 with h | h
                · exact absurd ⟨h1, h⟩ hx
                · exact h
              have hx2 : (D k 0 == 0) = true := by simpa using h2
              have hx3 : (D k 0 != 0) = false := by simpa using h2
              clear hx h1 h2
              go_wp2_with fail
              refine (PushYes hG5 _ (by have := HL0.out; omega) (by have := HL0.out; omega)).mono ?_
              rintro e w6 ⟨F6, rfl, hG6, hC6, hS6⟩
              replace hO := hO.step hC6 hS6
              clear hC6 hS6 hG5
              go_wp2_with fail
              refine (Over hG6).mono ?_
              rintro e w' ⟨rfl, rfl⟩
              go_wp2_with fail
              refine (Len hG6).mono ?_
              rintro e w' ⟨rfl, rfl⟩
              rw [show (((l0 ++ [D k 0]).length : Nat) : Int) = 1 + R by simp; have := HL0.out; omega]
              go_wp2_with fail
              refine (PopYes hG6).mono ?_
              rintro e w7 ⟨rfl, hG7, hC7⟩
              replace hO := hO.same hC7
              clear hC7 hG6
              go_wp2_with fail
              refine (PushYes hG7 _ (by have := HL0.out; omega) (by have := HL0.out; omega)).mono ?_
              rintro e w8 ⟨F8, rfl, hG8, hC8, hS8⟩
              replace hO := hO.step hC8 hS8
              have hP8 : Holds1 w w8 b (1 + R) (l0 ++ [D k 0]) := ⟨_, hG8, hO⟩
              clear hC8 hS8 hG7 hG8 hO
              go_wp2_with fail
              go_roundw
              case rel => exact ⟨k + 1, l0 ++ [D k 0], by omega, by go_num, Lib.hid (by simp; have := HL0.out; omega), hP8⟩
              case measure => simp [intOf]; omega
            · have hx1 : (x == 0) = false := by simpa using h1
              clear hx h1
              go_wp2_with fail
              refine (PushYes hG5 _ (by have := HL0.out; omega) (by have := HL0.out; omega)).mono ?_
              rintro e w6 ⟨F6, rfl, hG6, hC6, hS6⟩
              replace hO := hO.step hC6 hS6
              clear hC6 hS6 hG5
              go_wp2_with fail
              refine (Over hG6).mono ?_
              rintro e w' ⟨rfl, rfl⟩
              go_wp2_with fail
              refine (Len hG6).mono ?_
              rintro e w' ⟨rfl, rfl⟩
              rw [show (((l0 ++ [D k 0]).length : Nat) : Int) = 1 + R by simp; have := HL0.out; omega]
              go_wp2_with fail
              refine (PopYes hG6).mono ?_
              rintro e w7 ⟨rfl, hG7, hC7⟩
              replace hO := hO.same hC7
              clear hC7 hG6
              go_wp2_with fail
              refine (PushYes hG7 _ (by have := HL0.out; omega) (by have := HL0.out; omega)).mono ?_
              rintro e w8 ⟨F8, rfl, hG8, hC8, hS8⟩
              replace hO := hO.step hC8 hS8
              have hP8 : Holds1 w w8 b (1 + R) (l0 ++ [D k 0]) := ⟨_, hG8, hO⟩
              clear hC8 hS8 hG7 hG8 hO
              go_wp2_with fail
              go_roundw
              case rel => exact ⟨k + 1, l0 ++ [D k 0], by omega, by go_num, Lib.hid (by simp; have := HL0.out; omega), hP8⟩
              case measure => simp [intOf]; omega
        · obtain rfl : k = n := by omega
          obtain ⟨F, hG, hO⟩ := hP2
          go_wp2_with fail
          refine (Len hG).mono ?_
          rintro e w' ⟨rfl, rfl⟩
          rw [HL.out]
          go_wp2_with fail
          go_ret
          exact ⟨by simp, hO.below⟩

end Go.Proofs.Ytamecbanginjmaa
