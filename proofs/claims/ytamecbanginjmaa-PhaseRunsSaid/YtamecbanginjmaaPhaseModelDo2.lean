/-
  The model's do, kinds 3 and 4, and all kinds in one. Conditions: as the theorem says.
-/
import Derived.Test.YtamecbanginjmaaPhaseModelDo
import Derived.Test.YtamecbanginjmaaPhaseLaw
namespace Go.Proofs.Ytamecbanginjmaa
open Go.RowKit Go.ChangeShapes


section
variable {w : World} {b : Nat} {s : PS}
set_option maxHeartbeats 4000000 in
theorem mdo_3 (h : ModelAt w b s) (t : Int) (h0 : 0 ≤ t) (h3 : t < 4) : Calls Try.prog 47 #[.pointer (some ⟨b, 0, none⟩), .int .i64 3, .int .i64 t] w fun e w' => e = .returned (.bool false) ∧ ModelAt w' b (s.leave t) ∧ Chg [b] w w' := by
  have HM := Lib.hid (show Blk w b 58 s.mcells from h)
  rcases (by omega : t = 0 ∨ t = 1 ∨ t = 2 ∨ t = 3) with rfl | rfl | rfl | rfl
  · have c2 := h.cell 2
    have f2 := h.frozen 2
    have c6 := h.cell 6
    have f6 := h.frozen 6
    have c10 := h.cell 10
    have f10 := h.frozen 10
    simp [PS.mcells] at c2 c6 c10
    clear h
    go_enter Try.func47, Try.ntmps47
    go_wp2_with fail
    go_region
    all_goals go_wp2_with fail
    all_goals
      go_ret
      refine ⟨rfl, ?_, ?_⟩
      · apply Blk.eq
        · (repeat (first | with_reducible apply Blk.set_ | with_reducible apply Blk.drew | with_reducible apply Blk.drewN | exact HM.out))
        · simp [PS.mcells, upd, PS.leave]
      · (repeat (first | with_reducible apply Chg.drew | with_reducible apply Chg.drewN | (with_reducible apply Chg.setCell; rotate_left; exact .inl (by simp)) | exact Chg.refl _ _))
  · have c3 := h.cell 3
    have f3 := h.frozen 3
    have c7 := h.cell 7
    have f7 := h.frozen 7
    have c11 := h.cell 11
    have f11 := h.frozen 11
    simp [PS.mcells] at c3 c7 c11
    clear h
    go_enter Try.func47, Try.ntmps47
    go_wp2_with fail
    go_region
    all_goals go_wp2_with fail
    all_goals
      go_ret
      refine ⟨rfl, ?_, ?_⟩
      · apply Blk.eq
        · (repeat (first | with_reducible apply Blk.set_ | with_reducible apply Blk.drew | with_reducible apply Blk.drewN | exact HM.out))
        · simp [PS.mcells, upd, PS.leave]
      · (repeat (first | with_reducible apply Chg.drew | with_reducible apply Chg.drewN | (with_reducible apply Chg.setCell; rotate_left; exact .inl (by simp)) | exact Chg.refl _ _))
  · have c4 := h.cell 4
    have f4 := h.frozen 4
    have c8 := h.cell 8
    have f8 := h.frozen 8
    have c12 := h.cell 12
    have f12 := h.frozen 12
    simp [PS.mcells] at c4 c8 c12
    clear h
    go_enter Try.func47, Try.ntmps47
    go_wp2_with fail
    go_region
    all_goals go_wp2_with fail
    all_goals
      go_ret
      refine ⟨rfl, ?_, ?_⟩
      · apply Blk.eq
        · (repeat (first | with_reducible apply Blk.set_ | with_reducible apply Blk.drew | with_reducible apply Blk.drewN | exact HM.out))
        · simp [PS.mcells, upd, PS.leave]
      · (repeat (first | with_reducible apply Chg.drew | with_reducible apply Chg.drewN | (with_reducible apply Chg.setCell; rotate_left; exact .inl (by simp)) | exact Chg.refl _ _))
  · have c5 := h.cell 5
    have f5 := h.frozen 5
    have c9 := h.cell 9
    have f9 := h.frozen 9
    have c13 := h.cell 13
    have f13 := h.frozen 13
    simp [PS.mcells] at c5 c9 c13
    clear h
    go_enter Try.func47, Try.ntmps47
    go_wp2_with fail
    go_region
    all_goals go_wp2_with fail
    all_goals
      go_ret
      refine ⟨rfl, ?_, ?_⟩
      · apply Blk.eq
        · (repeat (first | with_reducible apply Blk.set_ | with_reducible apply Blk.drew | with_reducible apply Blk.drewN | exact HM.out))
        · simp [PS.mcells, upd, PS.leave]
      · (repeat (first | with_reducible apply Chg.drew | with_reducible apply Chg.drewN | (with_reducible apply Chg.setCell; rotate_left; exact .inl (by simp)) | exact Chg.refl _ _))

theorem mdo_4a (h : ModelAt w b s) (t : Int) (hs : s.still = false) : Calls Try.prog 47 #[.pointer (some ⟨b, 0, none⟩), .int .i64 4, .int .i64 t] w fun e w' => e = .returned (.bool false) ∧ w = w' := by
  have HM := Lib.hid h
  have HS : Hid (¬ ∀ t : Int, 0 ≤ t → t < 4 → s.wants t = false) := Lib.hid (fun hh => by rw [(still_iff s).2 hh] at hs; cases hs)
  clear h hs
  go_enter Try.func47, Try.ntmps47
  go_wp2_with fail
  go_loopw [109] (fun i wr => ∃ k : Int, 0 ≤ k ∧ k ≤ 4 ∧ i = .int .i64 k ∧ s.calm k ∧ w = wr) (fun i _ => (4 - intOf i).toNat)
  case atStart => exact ⟨0, by omega, by omega, rfl, (fun t h0 h1 => by omega), rfl⟩
  case round =>
    obtain ⟨k, hk0, hk4, rfl, hcalm, rfl⟩ := hrel
    have HQ := Lib.hid hcalm
    clear hcalm
    by_cases hlt : k < 4
    · go_wp2_with fail
      refine (MWants HM.out k hk0 hlt).mono ?_
      rintro e w' ⟨rfl, rfl⟩
      generalize hW : s.wants k = W
      have HW := Lib.hid hW
      clear hW
      cases W
      · go_wp2_with fail
        go_roundw
        case rel => exact ⟨k + 1, by omega, by omega, rfl, (fun t h0 h1 => by
          by_cases ht : t = k
          · subst ht; exact HW.out
          · exact HQ.out t h0 (by omega)), by first | rfl | trivial⟩
        case measure => simp [intOf]; omega
      · go_wp2_with fail
        go_ret
        exact ⟨rfl, rfl⟩
    · obtain rfl : k = 4 := by omega
      exact absurd (fun t h0 h1 => HQ.out t h0 h1) HS.out

theorem mdo_4b (h : ModelAt w b s) (t : Int) (hs : s.still = true) (hk : s.shaking = false) : Calls Try.prog 47 #[.pointer (some ⟨b, 0, none⟩), .int .i64 4, .int .i64 t] w fun e w' => e = .returned (.bool false) ∧ w = w' := by
  have HM := Lib.hid h
  have HS := Lib.hid ((still_iff s).1 hs)
  have h1 := h.cell 0
  simp [PS.mcells] at h1
  have hb1 : (s.now != 1) = true := by
    simp [PS.shaking] at hk
    simpa using hk.1
  have hb2 : (s.now != 2) = true := by
    simp [PS.shaking] at hk
    simpa using hk.2
  clear h hs hk
  go_enter Try.func47, Try.ntmps47
  go_wp2_with fail
  go_loopw [109] (fun i wr => ∃ k : Int, 0 ≤ k ∧ k ≤ 4 ∧ i = .int .i64 k ∧ w = wr) (fun i _ => (4 - intOf i).toNat)
  case atStart => exact ⟨0, by omega, by omega, rfl, rfl⟩
  case round =>
    obtain ⟨k, hk0, hk4, rfl, rfl⟩ := hrel
    by_cases hlt : k < 4
    · go_wp2_with fail
      refine (MWants HM.out k hk0 hlt).mono ?_
      rintro e w' ⟨rfl, rfl⟩
      rw [HS.out k hk0 hlt]
      go_wp2_with fail
      go_roundw
      case rel => exact ⟨k + 1, by omega, by omega, rfl, by first | rfl | trivial⟩
      case measure => simp [intOf]; omega
    · obtain rfl : k = 4 := by omega
      go_wp2_with fail
      go_ret
      exact ⟨rfl, rfl⟩

set_option maxHeartbeats 2000000 in
theorem mdo_4c (h : ModelAt w b s) (t : Int) (hs : s.still = true) (hk : s.shaking = true) (hr0 : 0 ≤ s.rounds) (hr : s.rounds ≤ 1000000) : Calls Try.prog 47 #[.pointer (some ⟨b, 0, none⟩), .int .i64 4, .int .i64 t] w fun e w' => e = .returned (.bool true) ∧ ModelAt w' b s.next ∧ Chg [b] w w' := by
  have HM := Lib.hid (show Blk w b 58 s.mcells from h)
  have HS := Lib.hid ((still_iff s).1 hs)
  obtain ⟨rd, hrd⟩ : ∃ rd, s.rounds = rd := ⟨_, rfl⟩
  rw [hrd] at hr hr0
  have HNOW := Lib.hid (show s.now = 1 ∨ s.now = 2 by simpa [PS.shaking] using hk)
  have c0 := h.cell 0
  have f0 := h.frozen 0
  have c1 := h.cell 1
  have f1 := h.frozen 1
  have c10 := h.cell 10
  have f10 := h.frozen 10
  have c11 := h.cell 11
  have f11 := h.frozen 11
  have c12 := h.cell 12
  have f12 := h.frozen 12
  have c13 := h.cell 13
  have f13 := h.frozen 13
  simp [PS.mcells] at c0 c1 c10 c11 c12 c13
  rw [hrd] at c1
  have HRD := Lib.hid hrd
  clear h hs hk hrd
  rcases HNOW.out with hn | hn
  · rw [hn] at c0
    have HN := Lib.hid hn
    clear hn
    go_enter Try.func47, Try.ntmps47
    go_wp2_with fail
    go_loopw [109] (fun i wr => ∃ k : Int, 0 ≤ k ∧ k ≤ 4 ∧ i = .int .i64 k ∧ w = wr) (fun i _ => (4 - intOf i).toNat)
    case atStart => exact ⟨0, by omega, by omega, rfl, rfl⟩
    case round =>
      obtain ⟨k, hk0, hk4, rfl, rfl⟩ := hrel
      by_cases hlt : k < 4
      · go_wp2_with fail
        refine (MWants HM.out k hk0 hlt).mono ?_
        rintro e w' ⟨rfl, rfl⟩
        rw [HS.out k hk0 hlt]
        go_wp2_with fail
        go_roundw
        case rel => exact ⟨k + 1, by omega, by omega, rfl, by first | rfl | trivial⟩
        case measure => simp [intOf]; omega
      · obtain rfl : k = 4 := by omega
        go_wp2_with fail
        go_ret
        refine ⟨rfl, ?_, ?_⟩
        · apply Blk.eq
          · (repeat (first | with_reducible apply Blk.set_ | with_reducible apply Blk.drew | with_reducible apply Blk.drewN | exact HM.out))
          · simp [PS.mcells, PS.next, HN.out, HRD.out]
        · (repeat (first | with_reducible apply Chg.drew | with_reducible apply Chg.drewN | (with_reducible apply Chg.setCell; rotate_left; exact .inl (by simp)) | exact Chg.refl _ _))
  · rw [hn] at c0
    have HN := Lib.hid hn
    clear hn
    go_enter Try.func47, Try.ntmps47
    go_wp2_with fail
    go_loopw [109] (fun i wr => ∃ k : Int, 0 ≤ k ∧ k ≤ 4 ∧ i = .int .i64 k ∧ w = wr) (fun i _ => (4 - intOf i).toNat)
    case atStart => exact ⟨0, by omega, by omega, rfl, rfl⟩
    case round =>
      obtain ⟨k, hk0, hk4, rfl, rfl⟩ := hrel
      by_cases hlt : k < 4
      · go_wp2_with fail
        refine (MWants HM.out k hk0 hlt).mono ?_
        rintro e w' ⟨rfl, rfl⟩
        rw [HS.out k hk0 hlt]
        go_wp2_with fail
        go_roundw
        case rel => exact ⟨k + 1, by omega, by omega, rfl, by first | rfl | trivial⟩
        case measure => simp [intOf]; omega
      · obtain rfl : k = 4 := by omega
        go_wp2_with fail
        go_ret
        refine ⟨rfl, ?_, ?_⟩
        · apply Blk.eq
          · (repeat (first | with_reducible apply Blk.set_ | with_reducible apply Blk.drew | with_reducible apply Blk.drewN | exact HM.out))
          · simp [PS.mcells, PS.next, HN.out, HRD.out]
        · (repeat (first | with_reducible apply Chg.drew | with_reducible apply Chg.drewN | (with_reducible apply Chg.setCell; rotate_left; exact .inl (by simp)) | exact Chg.refl _ _))

theorem MDo (h : ModelAt w b s) (kind t : Int) (hk0 : 0 ≤ kind) (hk6 : kind ≤ 6) (h0 : 0 ≤ t) (h3 : t < 4) (hn0 : 0 ≤ s.now) (hn4 : s.now ≤ 4) (hr0 : 0 ≤ s.rounds) (hr : s.rounds ≤ 1000000) : Calls Try.prog 47 #[.pointer (some ⟨b, 0, none⟩), .int .i64 kind, .int .i64 t] w fun e w' => e = .returned (.bool (s.mstep kind t).1) ∧ ModelAt w' b (s.mstep kind t).2 ∧ Chg [b] w w' := by
  rcases (by omega : kind = 0 ∨ kind = 1 ∨ kind = 2 ∨ kind = 3 ∨ kind = 4 ∨ kind = 5 ∨ kind = 6) with rfl | rfl | rfl | rfl | rfl | rfl | rfl
  · by_cases hc : s.now = 0
    · refine (mdo_0yes h t hc).mono ?_
      rintro e w' ⟨rfl, hp, hC⟩
      simp [PS.mstep, hc]
      exact ⟨hp, hC⟩
    · refine (mdo_0no h t hc).mono ?_
      rintro e w' ⟨rfl, rfl⟩
      simp [PS.mstep, hc]
      exact ⟨h, Chg.refl _ _⟩
  · by_cases hc : s.wants t = true
    · refine (mdo_1yes h t h0 h3 hc).mono ?_
      rintro e w' ⟨rfl, hp, hC⟩
      simp [PS.mstep, hc]
      exact ⟨hp, hC⟩
    · refine (mdo_1no h t h0 h3 (by simpa using hc)).mono ?_
      rintro e w' ⟨rfl, rfl⟩
      simp [PS.mstep, hc]
      exact ⟨h, Chg.refl _ _⟩
  · refine (mdo_2 h t h0 h3 hn0 hn4).mono ?_
    rintro e w' ⟨rfl, hp, hC⟩
    exact ⟨rfl, hp, hC⟩
  · refine (mdo_3 h t h0 h3).mono ?_
    rintro e w' ⟨rfl, hp, hC⟩
    exact ⟨rfl, hp, hC⟩
  · by_cases hc : s.still = true
    · by_cases hd : s.shaking = true
      · refine (mdo_4c h t hc hd hr0 hr).mono ?_
        rintro e w' ⟨rfl, hp, hC⟩
        simp [PS.mstep, hc, hd]
        exact ⟨hp, hC⟩
      · refine (mdo_4b h t hc (by simpa using hd)).mono ?_
        rintro e w' ⟨rfl, rfl⟩
        simp [PS.mstep, hc, hd]
        exact ⟨h, Chg.refl _ _⟩
    · refine (mdo_4a h t (by simpa using hc)).mono ?_
      rintro e w' ⟨rfl, rfl⟩
      simp [PS.mstep, hc]
      exact ⟨h, Chg.refl _ _⟩
  · by_cases hc : s.now = 3
    · refine (mdo_5yes h t hc).mono ?_
      rintro e w' ⟨rfl, hp, hC⟩
      simp [PS.mstep, hc]
      exact ⟨hp, hC⟩
    · refine (mdo_5no h t hc).mono ?_
      rintro e w' ⟨rfl, rfl⟩
      simp [PS.mstep, hc]
      exact ⟨h, Chg.refl _ _⟩
  · by_cases hc : s.now = 4
    · refine (mdo_6yes h t hc).mono ?_
      rintro e w' ⟨rfl, hp, hC⟩
      simp [PS.mstep, hc]
      exact ⟨hp, hC⟩
    · refine (mdo_6no h t hc).mono ?_
      rintro e w' ⟨rfl, rfl⟩
      simp [PS.mstep, hc]
      exact ⟨h, Chg.refl _ _⟩

end

end Go.Proofs.Ytamecbanginjmaa
