/-
  The model's do, kind by kind. Conditions: as the theorem says.
-/
import Derived.Test.YtamecbanginjmaaPhaseModel
namespace Go.Proofs.Ytamecbanginjmaa
open Go.RowKit Go.ChangeShapes


section
variable {w : World} {b : Nat} {s : PS}

theorem mdo_0no (h : ModelAt w b s) (t : Int) (hn : s.now ≠ 0) : Calls Try.prog 47 #[.pointer (some ⟨b, 0, none⟩), .int .i64 0, .int .i64 t] w fun e w' => e = .returned (.bool false) ∧ w = w' := by
  have h1 := h.cell 0
  simp [PS.mcells] at h1
  have hb : (s.now != 0) = true := by simpa using hn
  clear h hn
  go_enter Try.func47, Try.ntmps47
  go_wp2_with fail
  go_ret
  exact ⟨rfl, rfl⟩

theorem mdo_0yes (h : ModelAt w b s) (t : Int) (hn : s.now = 0) : Calls Try.prog 47 #[.pointer (some ⟨b, 0, none⟩), .int .i64 0, .int .i64 t] w fun e w' => e = .returned (.bool true) ∧ ModelAt w' b (s.anew 1) ∧ Chg [b] w w' := by
  have HM := Lib.hid (show Blk w b 58 s.mcells from h)
  have c0 := h.cell 0
  have f0 := h.frozen 0
  have c10 := h.cell 10
  have f10 := h.frozen 10
  have c11 := h.cell 11
  have f11 := h.frozen 11
  have c12 := h.cell 12
  have f12 := h.frozen 12
  have c13 := h.cell 13
  have f13 := h.frozen 13
  simp [PS.mcells] at c0 c10 c11 c12 c13
  rw [hn] at c0
  clear h hn
  go_enter Try.func47, Try.ntmps47
  go_wp2_with fail
  go_ret
  refine ⟨rfl, ?_, ?_⟩
  · apply Blk.eq
    · (repeat (first | with_reducible apply Blk.set_ | with_reducible apply Blk.drew | with_reducible apply Blk.drewN | exact HM.out))
    · simp [PS.mcells, PS.anew]
  · (repeat (first | with_reducible apply Chg.drew | with_reducible apply Chg.drewN | (with_reducible apply Chg.setCell; rotate_left; exact .inl (by simp)) | exact Chg.refl _ _))

theorem mdo_5no (h : ModelAt w b s) (t : Int) (hn : s.now ≠ 3) : Calls Try.prog 47 #[.pointer (some ⟨b, 0, none⟩), .int .i64 5, .int .i64 t] w fun e w' => e = .returned (.bool false) ∧ w = w' := by
  have h1 := h.cell 0
  simp [PS.mcells] at h1
  have hb : (s.now != 3) = true := by simpa using hn
  clear h hn
  go_enter Try.func47, Try.ntmps47
  go_wp2_with fail
  go_ret
  exact ⟨rfl, rfl⟩

theorem mdo_5yes (h : ModelAt w b s) (t : Int) (hn : s.now = 3) : Calls Try.prog 47 #[.pointer (some ⟨b, 0, none⟩), .int .i64 5, .int .i64 t] w fun e w' => e = .returned (.bool true) ∧ ModelAt w' b (s.mmark) ∧ Chg [b] w w' := by
  have HM := Lib.hid (show Blk w b 58 s.mcells from h)
  have c0 := h.cell 0
  have f0 := h.frozen 0
  have c6 := h.cell 6
  have f6 := h.frozen 6
  have c7 := h.cell 7
  have f7 := h.frozen 7
  have c8 := h.cell 8
  have f8 := h.frozen 8
  have c9 := h.cell 9
  have f9 := h.frozen 9
  simp [PS.mcells] at c0 c6 c7 c8 c9
  rw [hn] at c0
  clear h hn
  go_enter Try.func47, Try.ntmps47
  go_wp2_with fail
  go_ret
  refine ⟨rfl, ?_, ?_⟩
  · apply Blk.eq
    · (repeat (first | with_reducible apply Blk.set_ | with_reducible apply Blk.drew | with_reducible apply Blk.drewN | exact HM.out))
    · simp [PS.mcells, PS.mmark]
  · (repeat (first | with_reducible apply Chg.drew | with_reducible apply Chg.drewN | (with_reducible apply Chg.setCell; rotate_left; exact .inl (by simp)) | exact Chg.refl _ _))

theorem mdo_6no (h : ModelAt w b s) (t : Int) (hn : s.now ≠ 4) : Calls Try.prog 47 #[.pointer (some ⟨b, 0, none⟩), .int .i64 6, .int .i64 t] w fun e w' => e = .returned (.bool false) ∧ w = w' := by
  have h1 := h.cell 0
  simp [PS.mcells] at h1
  have hb : (s.now != 4) = true := by simpa using hn
  clear h hn
  go_enter Try.func47, Try.ntmps47
  go_wp2_with fail
  go_ret
  exact ⟨rfl, rfl⟩

theorem mdo_6yes (h : ModelAt w b s) (t : Int) (hn : s.now = 4) : Calls Try.prog 47 #[.pointer (some ⟨b, 0, none⟩), .int .i64 6, .int .i64 t] w fun e w' => e = .returned (.bool true) ∧ ModelAt w' b (s.mrest) ∧ Chg [b] w w' := by
  have HM := Lib.hid (show Blk w b 58 s.mcells from h)
  have c0 := h.cell 0
  have f0 := h.frozen 0
  simp [PS.mcells] at c0
  rw [hn] at c0
  clear h hn
  go_enter Try.func47, Try.ntmps47
  go_wp2_with fail
  go_ret
  refine ⟨rfl, ?_, ?_⟩
  · apply Blk.eq
    · (repeat (first | with_reducible apply Blk.set_ | with_reducible apply Blk.drew | with_reducible apply Blk.drewN | exact HM.out))
    · simp [PS.mcells, PS.mrest]
  · (repeat (first | with_reducible apply Chg.drew | with_reducible apply Chg.drewN | (with_reducible apply Chg.setCell; rotate_left; exact .inl (by simp)) | exact Chg.refl _ _))

theorem mdo_1no (h : ModelAt w b s) (t : Int) (h0 : 0 ≤ t) (h3 : t < 4) (hw : s.wants t = false) : Calls Try.prog 47 #[.pointer (some ⟨b, 0, none⟩), .int .i64 1, .int .i64 t] w fun e w' => e = .returned (.bool false) ∧ w = w' := by
  have HW := Lib.hid hw
  clear hw
  go_enter Try.func47, Try.ntmps47
  go_wp2_with fail
  refine (MWants h t h0 h3).mono ?_
  rintro e w' ⟨rfl, rfl⟩
  rw [HW.out]
  go_wp2_with fail
  go_ret
  exact ⟨rfl, rfl⟩

set_option maxHeartbeats 2000000 in
theorem mdo_1yes (h : ModelAt w b s) (t : Int) (h0 : 0 ≤ t) (h3 : t < 4) (hw : s.wants t = true) : Calls Try.prog 47 #[.pointer (some ⟨b, 0, none⟩), .int .i64 1, .int .i64 t] w fun e w' => e = .returned (.bool true) ∧ ModelAt w' b (s.mack t) ∧ Chg [b] w w' := by
  have HW := Lib.hid hw
  have HM := Lib.hid (show Blk w b 58 s.mcells from h)
  have HNOW := Lib.hid (show s.now = 1 ∨ s.now = 2 by
    have := hw
    simp [PS.wants, PS.shaking] at this
    exact this.1.1)
  clear hw
  rcases (by omega : t = 0 ∨ t = 1 ∨ t = 2 ∨ t = 3) with rfl | rfl | rfl | rfl
  · rcases HNOW.out with hn | hn
    · have c0 := h.cell 0
      have f0 := h.frozen 0
      have c6 := h.cell 6
      have f6 := h.frozen 6
      have c10 := h.cell 10
      have f10 := h.frozen 10
      simp [PS.mcells] at c0 c6 c10
      rw [hn] at c0
      have HN := Lib.hid hn
      clear h hn
      go_enter Try.func47, Try.ntmps47
      go_wp2_with fail
      refine (MWants HM.out 0 h0 h3).mono ?_
      rintro e w' ⟨rfl, rfl⟩
      rw [HW.out]
      go_wp2_with fail
      go_ret
      refine ⟨rfl, ?_, ?_⟩
      · apply Blk.eq
        · (repeat (first | with_reducible apply Blk.set_ | with_reducible apply Blk.drew | with_reducible apply Blk.drewN | exact HM.out))
        · simp [PS.mcells, PS.mack, upd, HN.out]
      · (repeat (first | with_reducible apply Chg.drew | with_reducible apply Chg.drewN | (with_reducible apply Chg.setCell; rotate_left; exact .inl (by simp)) | exact Chg.refl _ _))
    · have c0 := h.cell 0
      have f0 := h.frozen 0
      have c6 := h.cell 6
      have f6 := h.frozen 6
      have c10 := h.cell 10
      have f10 := h.frozen 10
      simp [PS.mcells] at c0 c6 c10
      rw [hn] at c0
      have HN := Lib.hid hn
      clear h hn
      go_enter Try.func47, Try.ntmps47
      go_wp2_with fail
      refine (MWants HM.out 0 h0 h3).mono ?_
      rintro e w' ⟨rfl, rfl⟩
      rw [HW.out]
      go_wp2_with fail
      go_ret
      refine ⟨rfl, ?_, ?_⟩
      · apply Blk.eq
        · (repeat (first | with_reducible apply Blk.set_ | with_reducible apply Blk.drew | with_reducible apply Blk.drewN | exact HM.out))
        · simp [PS.mcells, PS.mack, upd, HN.out]
      · (repeat (first | with_reducible apply Chg.drew | with_reducible apply Chg.drewN | (with_reducible apply Chg.setCell; rotate_left; exact .inl (by simp)) | exact Chg.refl _ _))
  · rcases HNOW.out with hn | hn
    · have c0 := h.cell 0
      have f0 := h.frozen 0
      have c7 := h.cell 7
      have f7 := h.frozen 7
      have c11 := h.cell 11
      have f11 := h.frozen 11
      simp [PS.mcells] at c0 c7 c11
      rw [hn] at c0
      have HN := Lib.hid hn
      clear h hn
      go_enter Try.func47, Try.ntmps47
      go_wp2_with fail
      refine (MWants HM.out 1 h0 h3).mono ?_
      rintro e w' ⟨rfl, rfl⟩
      rw [HW.out]
      go_wp2_with fail
      go_ret
      refine ⟨rfl, ?_, ?_⟩
      · apply Blk.eq
        · (repeat (first | with_reducible apply Blk.set_ | with_reducible apply Blk.drew | with_reducible apply Blk.drewN | exact HM.out))
        · simp [PS.mcells, PS.mack, upd, HN.out]
      · (repeat (first | with_reducible apply Chg.drew | with_reducible apply Chg.drewN | (with_reducible apply Chg.setCell; rotate_left; exact .inl (by simp)) | exact Chg.refl _ _))
    · have c0 := h.cell 0
      have f0 := h.frozen 0
      have c7 := h.cell 7
      have f7 := h.frozen 7
      have c11 := h.cell 11
      have f11 := h.frozen 11
      simp [PS.mcells] at c0 c7 c11
      rw [hn] at c0
      have HN := Lib.hid hn
      clear h hn
      go_enter Try.func47, Try.ntmps47
      go_wp2_with fail
      refine (MWants HM.out 1 h0 h3).mono ?_
      rintro e w' ⟨rfl, rfl⟩
      rw [HW.out]
      go_wp2_with fail
      go_ret
      refine ⟨rfl, ?_, ?_⟩
      · apply Blk.eq
        · (repeat (first | with_reducible apply Blk.set_ | with_reducible apply Blk.drew | with_reducible apply Blk.drewN | exact HM.out))
        · simp [PS.mcells, PS.mack, upd, HN.out]
      · (repeat (first | with_reducible apply Chg.drew | with_reducible apply Chg.drewN | (with_reducible apply Chg.setCell; rotate_left; exact .inl (by simp)) | exact Chg.refl _ _))
  · rcases HNOW.out with hn | hn
    · have c0 := h.cell 0
      have f0 := h.frozen 0
      have c8 := h.cell 8
      have f8 := h.frozen 8
      have c12 := h.cell 12
      have f12 := h.frozen 12
      simp [PS.mcells] at c0 c8 c12
      rw [hn] at c0
      have HN := Lib.hid hn
      clear h hn
      go_enter Try.func47, Try.ntmps47
      go_wp2_with fail
      refine (MWants HM.out 2 h0 h3).mono ?_
      rintro e w' ⟨rfl, rfl⟩
      rw [HW.out]
      go_wp2_with fail
      go_ret
      refine ⟨rfl, ?_, ?_⟩
      · apply Blk.eq
        · (repeat (first | with_reducible apply Blk.set_ | with_reducible apply Blk.drew | with_reducible apply Blk.drewN | exact HM.out))
        · simp [PS.mcells, PS.mack, upd, HN.out]
      · (repeat (first | with_reducible apply Chg.drew | with_reducible apply Chg.drewN | (with_reducible apply Chg.setCell; rotate_left; exact .inl (by simp)) | exact Chg.refl _ _))
    · have c0 := h.cell 0
      have f0 := h.frozen 0
      have c8 := h.cell 8
      have f8 := h.frozen 8
      have c12 := h.cell 12
      have f12 := h.frozen 12
      simp [PS.mcells] at c0 c8 c12
      rw [hn] at c0
      have HN := Lib.hid hn
      clear h hn
      go_enter Try.func47, Try.ntmps47
      go_wp2_with fail
      refine (MWants HM.out 2 h0 h3).mono ?_
      rintro e w' ⟨rfl, rfl⟩
      rw [HW.out]
      go_wp2_with fail
      go_ret
      refine ⟨rfl, ?_, ?_⟩
      · apply Blk.eq
        · (repeat (first | with_reducible apply Blk.set_ | with_reducible apply Blk.drew | with_reducible apply Blk.drewN | exact HM.out))
        · simp [PS.mcells, PS.mack, upd, HN.out]
      · (repeat (first | with_reducible apply Chg.drew | with_reducible apply Chg.drewN | (with_reducible apply Chg.setCell; rotate_left; exact .inl (by simp)) | exact Chg.refl _ _))
  · rcases HNOW.out with hn | hn
    · have c0 := h.cell 0
      have f0 := h.frozen 0
      have c9 := h.cell 9
      have f9 := h.frozen 9
      have c13 := h.cell 13
      have f13 := h.frozen 13
      simp [PS.mcells] at c0 c9 c13
      rw [hn] at c0
      have HN := Lib.hid hn
      clear h hn
      go_enter Try.func47, Try.ntmps47
      go_wp2_with fail
      refine (MWants HM.out 3 h0 h3).mono ?_
      rintro e w' ⟨rfl, rfl⟩
      rw [HW.out]
      go_wp2_with fail
      go_ret
      refine ⟨rfl, ?_, ?_⟩
      · apply Blk.eq
        · (repeat (first | with_reducible apply Blk.set_ | with_reducible apply Blk.drew | with_reducible apply Blk.drewN | exact HM.out))
        · simp [PS.mcells, PS.mack, upd, HN.out]
      · (repeat (first | with_reducible apply Chg.drew | with_reducible apply Chg.drewN | (with_reducible apply Chg.setCell; rotate_left; exact .inl (by simp)) | exact Chg.refl _ _))
    · have c0 := h.cell 0
      have f0 := h.frozen 0
      have c9 := h.cell 9
      have f9 := h.frozen 9
      have c13 := h.cell 13
      have f13 := h.frozen 13
      simp [PS.mcells] at c0 c9 c13
      rw [hn] at c0
      have HN := Lib.hid hn
      clear h hn
      go_enter Try.func47, Try.ntmps47
      go_wp2_with fail
      refine (MWants HM.out 3 h0 h3).mono ?_
      rintro e w' ⟨rfl, rfl⟩
      rw [HW.out]
      go_wp2_with fail
      go_ret
      refine ⟨rfl, ?_, ?_⟩
      · apply Blk.eq
        · (repeat (first | with_reducible apply Blk.set_ | with_reducible apply Blk.drew | with_reducible apply Blk.drewN | exact HM.out))
        · simp [PS.mcells, PS.mack, upd, HN.out]
      · (repeat (first | with_reducible apply Chg.drew | with_reducible apply Chg.drewN | (with_reducible apply Chg.setCell; rotate_left; exact .inl (by simp)) | exact Chg.refl _ _))

set_option maxHeartbeats 4000000 in
theorem mdo_2 (h : ModelAt w b s) (t : Int) (h0 : 0 ≤ t) (h3 : t < 4) (hnow0 : 0 ≤ s.now) (hnow4 : s.now ≤ 4) : Calls Try.prog 47 #[.pointer (some ⟨b, 0, none⟩), .int .i64 2, .int .i64 t] w fun e w' => e = .returned (.bool false) ∧ ModelAt w' b (s.mjoin t) ∧ Chg [b] w w' := by
  have HM := Lib.hid (show Blk w b 58 s.mcells from h)
  rcases (by omega : t = 0 ∨ t = 1 ∨ t = 2 ∨ t = 3) with rfl | rfl | rfl | rfl
  · have c0 := h.cell 0
    have f0 := h.frozen 0
    have c2 := h.cell 2
    have f2 := h.frozen 2
    have c6 := h.cell 6
    have f6 := h.frozen 6
    have c10 := h.cell 10
    have f10 := h.frozen 10
    simp [PS.mcells] at c0 c2 c6 c10
    clear h
    cases hl : s.live 0
    · rw [hl] at c2
      have HL := Lib.hid hl
      clear hl
      have key : ∀ o : Bool, o = s.mon → s.mjoin 0 = ⟨s.now, s.rounds, upd s.live 0 true, upd s.armed 0 o, upd s.acked 0 o⟩ := by
        rintro o rfl
        unfold PS.mjoin
        rw [if_neg (by rw [HL.out]; decide)]
      have HK := Lib.hid key
      clear key
      unfold PS.mon at HK
      rcases (by omega : s.now = 0 ∨ s.now = 1 ∨ s.now = 2 ∨ s.now = 3 ∨ s.now = 4) with hn | hn | hn | hn | hn
      · rw [hn] at c0 HK
        have HN := Lib.hid hn
        clear hn
        rw [HK.out false (by decide)]
        go_enter Try.func47, Try.ntmps47
        go_wp2_with fail
        go_region
        all_goals go_wp2_with fail
        all_goals
          go_ret
          refine ⟨rfl, ?_, ?_⟩
          · apply Blk.eq
            · (repeat (first | with_reducible apply Blk.set_ | with_reducible apply Blk.drew | with_reducible apply Blk.drewN | exact HM.out))
            · simp [PS.mcells, upd, HN.out]
          · (repeat (first | with_reducible apply Chg.drew | with_reducible apply Chg.drewN | (with_reducible apply Chg.setCell; rotate_left; exact .inl (by simp)) | exact Chg.refl _ _))
      · rw [hn] at c0 HK
        have HN := Lib.hid hn
        clear hn
        rw [HK.out true (by decide)]
        go_enter Try.func47, Try.ntmps47
        go_wp2_with fail
        go_region
        all_goals go_wp2_with fail
        all_goals
          go_ret
          refine ⟨rfl, ?_, ?_⟩
          · apply Blk.eq
            · (repeat (first | with_reducible apply Blk.set_ | with_reducible apply Blk.drew | with_reducible apply Blk.drewN | exact HM.out))
            · simp [PS.mcells, upd, HN.out]
          · (repeat (first | with_reducible apply Chg.drew | with_reducible apply Chg.drewN | (with_reducible apply Chg.setCell; rotate_left; exact .inl (by simp)) | exact Chg.refl _ _))
      · rw [hn] at c0 HK
        have HN := Lib.hid hn
        clear hn
        rw [HK.out true (by decide)]
        go_enter Try.func47, Try.ntmps47
        go_wp2_with fail
        go_region
        all_goals go_wp2_with fail
        all_goals
          go_ret
          refine ⟨rfl, ?_, ?_⟩
          · apply Blk.eq
            · (repeat (first | with_reducible apply Blk.set_ | with_reducible apply Blk.drew | with_reducible apply Blk.drewN | exact HM.out))
            · simp [PS.mcells, upd, HN.out]
          · (repeat (first | with_reducible apply Chg.drew | with_reducible apply Chg.drewN | (with_reducible apply Chg.setCell; rotate_left; exact .inl (by simp)) | exact Chg.refl _ _))
      · rw [hn] at c0 HK
        have HN := Lib.hid hn
        clear hn
        rw [HK.out true (by decide)]
        go_enter Try.func47, Try.ntmps47
        go_wp2_with fail
        go_region
        all_goals go_wp2_with fail
        all_goals
          go_ret
          refine ⟨rfl, ?_, ?_⟩
          · apply Blk.eq
            · (repeat (first | with_reducible apply Blk.set_ | with_reducible apply Blk.drew | with_reducible apply Blk.drewN | exact HM.out))
            · simp [PS.mcells, upd, HN.out]
          · (repeat (first | with_reducible apply Chg.drew | with_reducible apply Chg.drewN | (with_reducible apply Chg.setCell; rotate_left; exact .inl (by simp)) | exact Chg.refl _ _))
      · rw [hn] at c0 HK
        have HN := Lib.hid hn
        clear hn
        rw [HK.out false (by decide)]
        go_enter Try.func47, Try.ntmps47
        go_wp2_with fail
        go_region
        all_goals go_wp2_with fail
        all_goals
          go_ret
          refine ⟨rfl, ?_, ?_⟩
          · apply Blk.eq
            · (repeat (first | with_reducible apply Blk.set_ | with_reducible apply Blk.drew | with_reducible apply Blk.drewN | exact HM.out))
            · simp [PS.mcells, upd, HN.out]
          · (repeat (first | with_reducible apply Chg.drew | with_reducible apply Chg.drewN | (with_reducible apply Chg.setCell; rotate_left; exact .inl (by simp)) | exact Chg.refl _ _))
    · rw [hl] at c2
      have HL := Lib.hid hl
      clear hl
      go_enter Try.func47, Try.ntmps47
      go_wp2_with fail
      go_ret
      exact ⟨rfl, by unfold PS.mjoin; rw [if_pos HL.out]; exact HM.out, Chg.refl _ _⟩
  · have c0 := h.cell 0
    have f0 := h.frozen 0
    have c3 := h.cell 3
    have f3 := h.frozen 3
    have c7 := h.cell 7
    have f7 := h.frozen 7
    have c11 := h.cell 11
    have f11 := h.frozen 11
    simp [PS.mcells] at c0 c3 c7 c11
    clear h
    cases hl : s.live 1
    · rw [hl] at c3
      have HL := Lib.hid hl
      clear hl
      have key : ∀ o : Bool, o = s.mon → s.mjoin 1 = ⟨s.now, s.rounds, upd s.live 1 true, upd s.armed 1 o, upd s.acked 1 o⟩ := by
        rintro o rfl
        unfold PS.mjoin
        rw [if_neg (by rw [HL.out]; decide)]
      have HK := Lib.hid key
      clear key
      unfold PS.mon at HK
      rcases (by omega : s.now = 0 ∨ s.now = 1 ∨ s.now = 2 ∨ s.now = 3 ∨ s.now = 4) with hn | hn | hn | hn | hn
      · rw [hn] at c0 HK
        have HN := Lib.hid hn
        clear hn
        rw [HK.out false (by decide)]
        go_enter Try.func47, Try.ntmps47
        go_wp2_with fail
        go_region
        all_goals go_wp2_with fail
        all_goals
          go_ret
          refine ⟨rfl, ?_, ?_⟩
          · apply Blk.eq
            · (repeat (first | with_reducible apply Blk.set_ | with_reducible apply Blk.drew | with_reducible apply Blk.drewN | exact HM.out))
            · simp [PS.mcells, upd, HN.out]
          · (repeat (first | with_reducible apply Chg.drew | with_reducible apply Chg.drewN | (with_reducible apply Chg.setCell; rotate_left; exact .inl (by simp)) | exact Chg.refl _ _))
      · rw [hn] at c0 HK
        have HN := Lib.hid hn
        clear hn
        rw [HK.out true (by decide)]
        go_enter Try.func47, Try.ntmps47
        go_wp2_with fail
        go_region
        all_goals go_wp2_with fail
        all_goals
          go_ret
          refine ⟨rfl, ?_, ?_⟩
          · apply Blk.eq
            · (repeat (first | with_reducible apply Blk.set_ | with_reducible apply Blk.drew | with_reducible apply Blk.drewN | exact HM.out))
            · simp [PS.mcells, upd, HN.out]
          · (repeat (first | with_reducible apply Chg.drew | with_reducible apply Chg.drewN | (with_reducible apply Chg.setCell; rotate_left; exact .inl (by simp)) | exact Chg.refl _ _))
      · rw [hn] at c0 HK
        have HN := Lib.hid hn
        clear hn
        rw [HK.out true (by decide)]
        go_enter Try.func47, Try.ntmps47
        go_wp2_with fail
        go_region
        all_goals go_wp2_with fail
        all_goals
          go_ret
          refine ⟨rfl, ?_, ?_⟩
          · apply Blk.eq
            · (repeat (first | with_reducible apply Blk.set_ | with_reducible apply Blk.drew | with_reducible apply Blk.drewN | exact HM.out))
            · simp [PS.mcells, upd, HN.out]
          · (repeat (first | with_reducible apply Chg.drew | with_reducible apply Chg.drewN | (with_reducible apply Chg.setCell; rotate_left; exact .inl (by simp)) | exact Chg.refl _ _))
      · rw [hn] at c0 HK
        have HN := Lib.hid hn
        clear hn
        rw [HK.out true (by decide)]
        go_enter Try.func47, Try.ntmps47
        go_wp2_with fail
        go_region
        all_goals go_wp2_with fail
        all_goals
          go_ret
          refine ⟨rfl, ?_, ?_⟩
          · apply Blk.eq
            · (repeat (first | with_reducible apply Blk.set_ | with_reducible apply Blk.drew | with_reducible apply Blk.drewN | exact HM.out))
            · simp [PS.mcells, upd, HN.out]
          · (repeat (first | with_reducible apply Chg.drew | with_reducible apply Chg.drewN | (with_reducible apply Chg.setCell; rotate_left; exact .inl (by simp)) | exact Chg.refl _ _))
      · rw [hn] at c0 HK
        have HN := Lib.hid hn
        clear hn
        rw [HK.out false (by decide)]
        go_enter Try.func47, Try.ntmps47
        go_wp2_with fail
        go_region
        all_goals go_wp2_with fail
        all_goals
          go_ret
          refine ⟨rfl, ?_, ?_⟩
          · apply Blk.eq
            · (repeat (first | with_reducible apply Blk.set_ | with_reducible apply Blk.drew | with_reducible apply Blk.drewN | exact HM.out))
            · simp [PS.mcells, upd, HN.out]
          · (repeat (first | with_reducible apply Chg.drew | with_reducible apply Chg.drewN | (with_reducible apply Chg.setCell; rotate_left; exact .inl (by simp)) | exact Chg.refl _ _))
    · rw [hl] at c3
      have HL := Lib.hid hl
      clear hl
      go_enter Try.func47, Try.ntmps47
      go_wp2_with fail
      go_ret
      exact ⟨rfl, by unfold PS.mjoin; rw [if_pos HL.out]; exact HM.out, Chg.refl _ _⟩
  · have c0 := h.cell 0
    have f0 := h.frozen 0
    have c4 := h.cell 4
    have f4 := h.frozen 4
    have c8 := h.cell 8
    have f8 := h.frozen 8
    have c12 := h.cell 12
    have f12 := h.frozen 12
    simp [PS.mcells] at c0 c4 c8 c12
    clear h
    cases hl : s.live 2
    · rw [hl] at c4
      have HL := Lib.hid hl
      clear hl
      have key : ∀ o : Bool, o = s.mon → s.mjoin 2 = ⟨s.now, s.rounds, upd s.live 2 true, upd s.armed 2 o, upd s.acked 2 o⟩ := by
        rintro o rfl
        unfold PS.mjoin
        rw [if_neg (by rw [HL.out]; decide)]
      have HK := Lib.hid key
      clear key
      unfold PS.mon at HK
      rcases (by omega : s.now = 0 ∨ s.now = 1 ∨ s.now = 2 ∨ s.now = 3 ∨ s.now = 4) with hn | hn | hn | hn | hn
      · rw [hn] at c0 HK
        have HN := Lib.hid hn
        clear hn
        rw [HK.out false (by decide)]
        go_enter Try.func47, Try.ntmps47
        go_wp2_with fail
        go_region
        all_goals go_wp2_with fail
        all_goals
          go_ret
          refine ⟨rfl, ?_, ?_⟩
          · apply Blk.eq
            · (repeat (first | with_reducible apply Blk.set_ | with_reducible apply Blk.drew | with_reducible apply Blk.drewN | exact HM.out))
            · simp [PS.mcells, upd, HN.out]
          · (repeat (first | with_reducible apply Chg.drew | with_reducible apply Chg.drewN | (with_reducible apply Chg.setCell; rotate_left; exact .inl (by simp)) | exact Chg.refl _ _))
      · rw [hn] at c0 HK
        have HN := Lib.hid hn
        clear hn
        rw [HK.out true (by decide)]
        go_enter Try.func47, Try.ntmps47
        go_wp2_with fail
        go_region
        all_goals go_wp2_with fail
        all_goals
          go_ret
          refine ⟨rfl, ?_, ?_⟩
          · apply Blk.eq
            · (repeat (first | with_reducible apply Blk.set_ | with_reducible apply Blk.drew | with_reducible apply Blk.drewN | exact HM.out))
            · simp [PS.mcells, upd, HN.out]
          · (repeat (first | with_reducible apply Chg.drew | with_reducible apply Chg.drewN | (with_reducible apply Chg.setCell; rotate_left; exact .inl (by simp)) | exact Chg.refl _ _))
      · rw [hn] at c0 HK
        have HN := Lib.hid hn
        clear hn
        rw [HK.out true (by decide)]
        go_enter Try.func47, Try.ntmps47
        go_wp2_with fail
        go_region
        all_goals go_wp2_with fail
        all_goals
          go_ret
          refine ⟨rfl, ?_, ?_⟩
          · apply Blk.eq
            · (repeat (first | with_reducible apply Blk.set_ | with_reducible apply Blk.drew | with_reducible apply Blk.drewN | exact HM.out))
            · simp [PS.mcells, upd, HN.out]
          · (repeat (first | with_reducible apply Chg.drew | with_reducible apply Chg.drewN | (with_reducible apply Chg.setCell; rotate_left; exact .inl (by simp)) | exact Chg.refl _ _))
      · rw [hn] at c0 HK
        have HN := Lib.hid hn
        clear hn
        rw [HK.out true (by decide)]
        go_enter Try.func47, Try.ntmps47
        go_wp2_with fail
        go_region
        all_goals go_wp2_with fail
        all_goals
          go_ret
          refine ⟨rfl, ?_, ?_⟩
          · apply Blk.eq
            · (repeat (first | with_reducible apply Blk.set_ | with_reducible apply Blk.drew | with_reducible apply Blk.drewN | exact HM.out))
            · simp [PS.mcells, upd, HN.out]
          · (repeat (first | with_reducible apply Chg.drew | with_reducible apply Chg.drewN | (with_reducible apply Chg.setCell; rotate_left; exact .inl (by simp)) | exact Chg.refl _ _))
      · rw [hn] at c0 HK
        have HN := Lib.hid hn
        clear hn
        rw [HK.out false (by decide)]
        go_enter Try.func47, Try.ntmps47
        go_wp2_with fail
        go_region
        all_goals go_wp2_with fail
        all_goals
          go_ret
          refine ⟨rfl, ?_, ?_⟩
          · apply Blk.eq
            · (repeat (first | with_reducible apply Blk.set_ | with_reducible apply Blk.drew | with_reducible apply Blk.drewN | exact HM.out))
            · simp [PS.mcells, upd, HN.out]
          · (repeat (first | with_reducible apply Chg.drew | with_reducible apply Chg.drewN | (with_reducible apply Chg.setCell; rotate_left; exact .inl (by simp)) | exact Chg.refl _ _))
    · rw [hl] at c4
      have HL := Lib.hid hl
      clear hl
      go_enter Try.func47, Try.ntmps47
      go_wp2_with fail
      go_ret
      exact ⟨rfl, by unfold PS.mjoin; rw [if_pos HL.out]; exact HM.out, Chg.refl _ _⟩
  · have c0 := h.cell 0
    have f0 := h.frozen 0
    have c5 := h.cell 5
    have f5 := h.frozen 5
    have c9 := h.cell 9
    have f9 := h.frozen 9
    have c13 := h.cell 13
    have f13 := h.frozen 13
    simp [PS.mcells] at c0 c5 c9 c13
    clear h
    cases hl : s.live 3
    · rw [hl] at c5
      have HL := Lib.hid hl
      clear hl
      have key : ∀ o : Bool, o = s.mon → s.mjoin 3 = ⟨s.now, s.rounds, upd s.live 3 true, upd s.armed 3 o, upd s.acked 3 o⟩ := by
        rintro o rfl
        unfold PS.mjoin
        rw [if_neg (by rw [HL.out]; decide)]
      have HK := Lib.hid key
      clear key
      unfold PS.mon at HK
      rcases (by omega : s.now = 0 ∨ s.now = 1 ∨ s.now = 2 ∨ s.now = 3 ∨ s.now = 4) with hn | hn | hn | hn | hn
      · rw [hn] at c0 HK
        have HN := Lib.hid hn
        clear hn
        rw [HK.out false (by decide)]
        go_enter Try.func47, Try.ntmps47
        go_wp2_with fail
        go_region
        all_goals go_wp2_with fail
        all_goals
          go_ret
          refine ⟨rfl, ?_, ?_⟩
          · apply Blk.eq
            · (repeat (first | with_reducible apply Blk.set_ | with_reducible apply Blk.drew | with_reducible apply Blk.drewN | exact HM.out))
            · simp [PS.mcells, upd, HN.out]
          · (repeat (first | with_reducible apply Chg.drew | with_reducible apply Chg.drewN | (with_reducible apply Chg.setCell; rotate_left; exact .inl (by simp)) | exact Chg.refl _ _))
      · rw [hn] at c0 HK
        have HN := Lib.hid hn
        clear hn
        rw [HK.out true (by decide)]
        go_enter Try.func47, Try.ntmps47
        go_wp2_with fail
        go_region
        all_goals go_wp2_with fail
        all_goals
          go_ret
          refine ⟨rfl, ?_, ?_⟩
          · apply Blk.eq
            · (repeat (first | with_reducible apply Blk.set_ | with_reducible apply Blk.drew | with_reducible apply Blk.drewN | exact HM.out))
            · simp [PS.mcells, upd, HN.out]
          · (repeat (first | with_reducible apply Chg.drew | with_reducible apply Chg.drewN | (with_reducible apply Chg.setCell; rotate_left; exact .inl (by simp)) | exact Chg.refl _ _))
      · rw [hn] at c0 HK
        have HN := Lib.hid hn
        clear hn
        rw [HK.out true (by decide)]
        go_enter Try.func47, Try.ntmps47
        go_wp2_with fail
        go_region
        all_goals go_wp2_with fail
        all_goals
          go_ret
          refine ⟨rfl, ?_, ?_⟩
          · apply Blk.eq
            · (repeat (first | with_reducible apply Blk.set_ | with_reducible apply Blk.drew | with_reducible apply Blk.drewN | exact HM.out))
            · simp [PS.mcells, upd, HN.out]
          · (repeat (first | with_reducible apply Chg.drew | with_reducible apply Chg.drewN | (with_reducible apply Chg.setCell; rotate_left; exact .inl (by simp)) | exact Chg.refl _ _))
      · rw [hn] at c0 HK
        have HN := Lib.hid hn
        clear hn
        rw [HK.out true (by decide)]
        go_enter Try.func47, Try.ntmps47
        go_wp2_with fail
        go_region
        all_goals go_wp2_with fail
        all_goals
          go_ret
          refine ⟨rfl, ?_, ?_⟩
          · apply Blk.eq
            · (repeat (first | with_reducible apply Blk.set_ | with_reducible apply Blk.drew | with_reducible apply Blk.drewN | exact HM.out))
            · simp [PS.mcells, upd, HN.out]
          · (repeat (first | with_reducible apply Chg.drew | with_reducible apply Chg.drewN | (with_reducible apply Chg.setCell; rotate_left; exact .inl (by simp)) | exact Chg.refl _ _))
      · rw [hn] at c0 HK
        have HN := Lib.hid hn
        clear hn
        rw [HK.out false (by decide)]
        go_enter Try.func47, Try.ntmps47
        go_wp2_with fail
        go_region
        all_goals go_wp2_with fail
        all_goals
          go_ret
          refine ⟨rfl, ?_, ?_⟩
          · apply Blk.eq
            · (repeat (first | with_reducible apply Blk.set_ | with_reducible apply Blk.drew | with_reducible apply Blk.drewN | exact HM.out))
            · simp [PS.mcells, upd, HN.out]
          · (repeat (first | with_reducible apply Chg.drew | with_reducible apply Chg.drewN | (with_reducible apply Chg.setCell; rotate_left; exact .inl (by simp)) | exact Chg.refl _ _))
    · rw [hl] at c5
      have HL := Lib.hid hl
      clear hl
      go_enter Try.func47, Try.ntmps47
      go_wp2_with fail
      go_ret
      exact ⟨rfl, by unfold PS.mjoin; rw [if_pos HL.out]; exact HM.out, Chg.refl _ _⟩

end

end Go.Proofs.Ytamecbanginjmaa
