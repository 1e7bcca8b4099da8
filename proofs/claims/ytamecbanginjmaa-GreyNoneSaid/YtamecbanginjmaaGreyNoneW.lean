/-
  The walk of GreyNone. Conditions: as the theorem says.
-/
import Derived.Test.YtamecbanginjmaaGrey
import Derived.Test.YtamecbanginjmaaOpen
import Derived.Test.YtamecbanginjmaaBits
namespace Go.Proofs.Ytamecbanginjmaa
open Go.RowKit Go.ChangeShapes

/-- The stack at b takes nothing; the one at t holds k of zs. -/
def Two (w wr : World) (b t : Nat) (zs : List Int) (k : Nat) : Prop :=
  ∃ ov F, GreyAt wr [b] b [] 0 ov ∧ GreyAt wr F t (zs.take k) 64 false ∧ Own w (b :: F) wr ∧ b ∉ F

set_option maxRecDepth 100000 in
set_option maxHeartbeats 1000000 in
theorem greyNone_walk (room : Int) (A : Option Addr) (n c : Nat) (D : Nat → Nat → Int) (w : World) (_hr : (Lit.int .i64 room).wf = true) (hz : ArgI w A n [.i64] D) (hm : n ≤ maxLen) :
    Calls Try.prog 5 #[.int .i64 room, .slice A n c] w fun e w' => e = .returned (.bool true) ∧ Below w.heap.size w w' := by
  have hO := Own.start w
  obtain ⟨zs, hzs⟩ : ∃ zs, (List.range n).map (fun i => D i 0) = zs := ⟨_, rfl⟩
  have hz2 := hz.arg
  rw [hzs] at hz2
  have HL := Lib.hid (show zs.length = n by rw [← hzs]; simp)
  have HZ := Lib.hid hz2
  clear hz hz2 hzs
  unfold maxLen at hm
  by_cases hn : 60 < n
  · go_enter Try.func5, Try.ntmps5
    go_wp2_with fail
    refine (fit10 _).mono ?_
    rintro e w1 ⟨rfl, hC⟩
    replace hO := hO.same hC
    go_wp2_with fail
    go_ret
    exact ⟨rfl, hO.below⟩
  have hb := and_65535 room
  go_enter Try.func5, Try.ntmps5
  go_wp2_with fail
  refine (fit10 _).mono ?_
  rintro e w1 ⟨rfl, hC⟩
  replace hO := hO.same hC
  clear hC
  go_wp2_with fail
  refine (New _ _).mono ?_
  rintro e w2 ⟨b, rfl, hb1, hG, hC⟩
  replace hO := hO.step hC (F' := [b]) (by intro x hx; simp at hx; omega)
  clear hC hb1
  go_wp2_with fail
  refine (New _ _).mono ?_
  rintro e w3 ⟨t, rfl, ht, hT, hC⟩
  have hG3 := hG.keep hC (by simp)
  have hbt : b < t := by have := hG.lt b (by simp); omega
  replace hO := hO.step (hC.mono (F' := [b]) (by simp)) (F' := [b, t]) (by intro x hx; simp at hx; rcases hx with rfl | rfl; simp; right; omega)
  rw [Int.max_eq_right (by omega)] at hG3
  rw [show max (64 : Int) 0 = 64 from by decide] at hT
  have hP : Two w w3 b t zs 0 := ⟨false, [t], hG3, hT, hO, by simp; omega⟩
  clear hC ht hG hb hT hG3 hO
  go_wp2_with fail
  go_loopw [23] (fun i wr => ∃ k : Nat, k ≤ n ∧ i = .int .i64 k ∧ Two w wr b t zs k) (fun i _ => n - (intOf i).toNat)
  case atStart => exact ⟨0, by omega, rfl, hP⟩
  case round =>
    obtain ⟨k, hk, rfl, ov, F, hG, hT, hO, hbF⟩ := hrel
    clear hP
    have HT := Lib.hid (show (((zs.take k).length : Nat) : Int) = k by have := HL.out; simp; omega)
    by_cases hlt : k < n
    · obtain ⟨ab, ao, rfl, hcell⟩ := HZ.out.int hO hlt
      go_wp2_with fail
      refine (PushNo hG _ (by simp)).mono ?_
      rintro e w4 ⟨rfl, hG4, hC4⟩
      replace hT := hT.keep hC4 (by intro x hx hm; simp at hm; subst hm; exact hbF hx)
      replace hO := hO.same (hC4.mono (F' := b :: F) (by intro x hx; simp at hx; simp [hx]))
      clear hC4 hG hcell
      go_wp2_with fail
      refine (Over hG4).mono ?_
      rintro e w' ⟨rfl, rfl⟩
      go_wp2_with fail
      refine (Len hG4).mono ?_
      rintro e w' ⟨rfl, rfl⟩
      go_wp2_with fail
      refine (PushYes hT _ (by have := HT.out; omega) (by have := HT.out; omega)).mono ?_
      rintro e w5 ⟨F5, rfl, hT5, hC5, hS5⟩
      rw [← take_succ_getD _ _ (by have := HL.out; omega)] at hT5
      have hbF5 : b ∉ F5 := by
        intro hx
        rcases hS5 b hx with h1 | h1
        · exact hbF h1
        · have := hG4.lt b (by simp); omega
      have hG5 := hG4.keep hC5 (by intro x hx hm; simp at hx; subst hx; exact hbF hm)
      replace hO := hO.step (hC5.mono (F' := b :: F) (by intro x hx; simp [hx])) (F' := b :: F5) (by
        intro x hx
        rcases List.mem_cons.1 hx with rfl | hx
        · exact .inl (by simp)
        · rcases hS5 x hx with h1 | h1
          · exact .inl (by simp [h1])
          · exact .inr h1)
      have HT5 := Lib.hid (show (((zs.take (k + 1)).length : Nat) : Int) = k + 1 by have := HL.out; simp; omega)
      clear hC5 hS5 hT hG4 HT
      go_wp2_with fail
      refine (Over hT5).mono ?_
      rintro e w' ⟨rfl, rfl⟩
      go_wp2_with fail
      refine (Len hT5).mono ?_
      rintro e w' ⟨rfl, rfl⟩
      rw [HT5.out]
      go_wp2_with fail
      refine (PopNo hG5).mono ?_
      rintro e w' ⟨rfl, rfl⟩
      have hP5 : Two w w5 b t zs (k + 1) := ⟨true, F5, hG5, hT5, hO, hbF5⟩
      clear hG5 hT5 hO hbF5 hbF
      go_wp2_with fail
      go_roundw
      case rel => exact ⟨k + 1, by omega, by go_num, hP5⟩
      case measure => simp [intOf]; omega
    · obtain rfl : k = n := by omega
      go_wp2_with fail
      refine (Settle hG).mono ?_
      rintro e w4 ⟨rfl, hG4, hC4⟩
      replace hT := hT.keep hC4 (by intro x hx hm; simp at hm; subst hm; exact hbF hx)
      replace hO := hO.same (hC4.mono (F' := b :: F) (by intro x hx; simp at hx; simp [hx]))
      clear hC4 hG
      go_wp2_with fail
      refine (Over hG4).mono ?_
      rintro e w' ⟨rfl, rfl⟩
      go_wp2_with fail
      refine (Len hT).mono ?_
      rintro e w' ⟨rfl, rfl⟩
      rw [HT.out]
      go_wp2_with fail
      go_ret
      exact ⟨by simp, hO.below⟩

end Go.Proofs.Ytamecbanginjmaa
