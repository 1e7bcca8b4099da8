/-
  The walk of PhaseQuiet. Conditions: as the theorem says.
-/
import Derived.Test.YtamecbanginjmaaPhaseArmsW
namespace Go.Proofs.Ytamecbanginjmaa
open Go.RowKit Go.ChangeShapes


theorem quiet_not (s : PS) (h : s.shaking = false) (t : Int) : s.wants t = false := by unfold PS.wants; rw [h]; simp

set_option maxRecDepth 100000 in
set_option maxHeartbeats 4000000 in
theorem phaseQuiet_walk (A : Option Addr) (n c : Nat) (D : Nat → Nat → Int) (A2 : Option Addr) (n2 c2 : Nat) (D2 : Nat → Nat → Int) (w : World) (hz : ArgI w A n [.u8, .u8] D) (hm : n ≤ 140737488351232) (hz2 : ArgI w A2 n2 [.u8, .u8] D2) (hm2 : n2 ≤ 140737488351232) :
    Calls Try.prog 18 #[.slice A n c, .slice A2 n2 c2] w fun e w' => e = .returned (.bool true) ∧ Below w.heap.size w w' := by
  have hO := Own.start w
  have HZ := Lib.hid hz
  have HZ2 := Lib.hid hz2
  clear hz hz2
  by_cases hn : 150 < n + n2
  · have hn' : (150 : Int) < (n : Int) + (n2 : Int) := by omega
    go_enter Try.func18, Try.ntmps18
    go_wp2_with fail
    refine (fit17 _).mono ?_
    rintro e w1 ⟨rfl, hC⟩
    replace hO := hO.same hC
    go_wp2_with fail
    go_ret
    exact ⟨rfl, hO.below⟩
  have hn' : (n : Int) + (n2 : Int) ≤ 150 := by omega
  go_enter Try.func18, Try.ntmps18
  go_wp2_with fail
  refine (fit17 _).mono ?_
  rintro e w1 ⟨rfl, hC⟩
  replace hO := hO.same hC
  clear hC
  go_wp2_with fail
  refine (PhNew _).mono ?_
  rintro e w2 ⟨b, rfl, hb, hp, hC⟩
  replace hO := hO.step hC (F' := [b]) (by intro x hx; simp at hx; omega)
  have HP := Lib.hid hp
  clear hC hb hp
  go_wp2_with fail
  go_loopw [27] (fun i wr => ∃ (k : Nat) (s : PS), k ≤ n ∧ i = .int .i64 k ∧ PInv s k ∧ PhaseAt wr b s ∧ Own w [b] wr) (fun i _ => n - (intOf i).toNat)
  case atStart => exact ⟨0, PS.zero, by omega, rfl, pinv_zero, HP.out, hO⟩
  case round =>
    obtain ⟨k, s, hk, rfl, hI, hp, hO⟩ := hrel
    clear HP
    have HI := Lib.hid hI
    clear hI
    by_cases hlt : k < n
    · obtain ⟨ab, ao, rfl, hcell⟩ := HZ.out.at_ hO hlt
      have hc0 := hcell 0 _ rfl
      have hc1 := hcell 1 _ rfl
      simp at hc0 hc1
      have hd0 := bounds_u8 (HZ.out.wf hlt 0 _ rfl)
      have hd1 := bounds_u8 (HZ.out.wf hlt 1 _ rfl)
      have hd00 := hd0.1
      have hd01 := hd0.2
      have hx := and3_u8 (D k 1) hd1.1 hd1.2
      have hC0 : Chg [] wr (wr.alloc (.cells #[.int .u8 (D k 0), .int .u8 (D k 1)] 52)) := (Chg.refl _ _).alloc _
      have HP0 := Lib.hid (hp.keep hC0 (by simp))
      have HO0 := Lib.hid (hO.same (hC0.mono (F' := [b]) (by simp)))
      have hK0 : 0 ≤ D k 0 % 7 := by omega
      have hK6 : D k 0 % 7 ≤ 6 := by omega
      have ht0 : 0 ≤ D k 1 % 4 := by omega
      have ht4 : D k 1 % 4 < 4 := by omega
      clear hcell hd0 hd1 hC0 hp hO
      go_wp2_with fail
      refine (PhDone HP0.out (D k 0 % 7) (D k 1 % 4) hK0 hK6 ht0 ht4 HI.out.r0 (by have := HI.out.r1; omega)).mono ?_
      rintro e w3 ⟨rfl, hp3, hC3⟩
      have HI3 := Lib.hid (pinv_step HI.out (D k 0 % 7) (D k 1 % 4) hK0 hK6 ht0 ht4)
      have HO3 := Lib.hid (HO0.out.same hC3)
      have HP3 := Lib.hid hp3
      clear hp3 hC3 HP0 HO0 HI
      go_wp2_with fail
      go_roundw
      case rel => exact ⟨k + 1, _, by omega, by go_num, by simpa using HI3.out, HP3.out, HO3.out⟩
      case measure => simp [intOf]; omega
    · obtain rfl : k = n := by omega
      have HP := Lib.hid hp
      have HO := Lib.hid hO
      clear hp hO
      go_wp2_with fail
      refine (PhNow HP.out).mono ?_
      rintro e w' ⟨rfl, rfl⟩
      obtain ⟨nw, hnw⟩ : ∃ nw, s.now = nw := ⟨_, rfl⟩
      have hn0 := HI.out.now0
      have hn4 := HI.out.now4
      rw [hnw] at hn0 hn4 ⊢
      have HNW := Lib.hid hnw
      clear hnw
      rcases (by omega : nw = 0 ∨ nw = 1 ∨ nw = 2 ∨ nw = 3 ∨ nw = 4) with rfl | rfl | rfl | rfl | rfl
      · have HS := Lib.hid (show s.shaking = false by simp [PS.shaking, HNW.out])
        clear hn0 hn4
        go_wp2_with fail
        refine (PhNow HP.out).mono ?_
        rintro e w' ⟨rfl, rfl⟩
        rw [HNW.out]
        go_wp2_with fail
        refine (PhRounds HP.out).mono ?_
        rintro e w' ⟨rfl, rfl⟩
        obtain ⟨rd, hrd⟩ : ∃ rd, s.rounds = rd := ⟨_, rfl⟩
        rw [hrd]
        have HRD := Lib.hid hrd
        clear hrd
        have hblt : b < wr.heap.size := HP.out.lt
        have hC1 : Chg [] wr (wr.alloc (.cells (liveCells (fun _ => false)) 56)) := (Chg.refl _ _).alloc _
        obtain ⟨ba, hba⟩ : ∃ ba, wr.heap.size = ba := ⟨_, rfl⟩
        have HN := Lib.hid (show b ≠ ba by omega)
        have HP1 := Lib.hid (HP.out.keep hC1 (by simp))
        have HL1 : Hid (LiveAt (wr.alloc (.cells (liveCells (fun _ => false)) 56)) ba (fun i => decide (i < 0) && s.armed i)) := Lib.hid (by
          have h := Blk.new wr 56 (liveCells (fun _ => false))
          rw [hba] at h
          exact Blk.eq h (by simp [liveCells]))
        have HO1 := Lib.hid (HO.out.step (hC1.mono (F' := [b]) (by simp)) (F' := [b, ba]) (by intro x hx; simp at hx; rcases hx with rfl | rfl; simp; right; omega))
        clear HP HO hC1 hblt
        go_wp2_with fail
        clear hba
        go_loopw [54] (fun i wx => ∃ j : Int, 0 ≤ j ∧ j ≤ 4 ∧ i = .int .i64 j ∧ PhaseAt wx b s ∧ LiveAt wx ba (fun i => decide (i < j) && s.armed i) ∧ Own w [b, ba] wx) (fun i _ => (4 - intOf i).toNat)
        case atStart => exact ⟨0, by omega, by omega, rfl, HP1.out, HL1.out, HO1.out⟩
        case round =>
          obtain ⟨j, hj0, hj4, rfl, hp, hl, ho⟩ := hrel
          clear HP1 HL1 HO1
          by_cases hjl : j < 4
          · have hcl := hl.cell j.toNat
            rw [live_get _ j hj0 hjl] at hcl
            have hfl := hl.frozen j.toNat
            have HP2 := Lib.hid hp
            have HL2 := Lib.hid hl
            have HO2 := Lib.hid ho
            clear hp hl ho
            go_wp2_with fail
            refine (PhArmed HP2.out j hj0 hjl).mono ?_
            rintro e w' ⟨rfl, rfl⟩
            have hC4 : Chg [ba] wr (wr.setCell ⟨ba, j.toNat, none⟩ (.bool (s.armed j))) := (Chg.refl _ _).setCell (.inl (by simp)) _
            have HP4 := Lib.hid (HP2.out.keep hC4 (by simp; exact HN.out))
            have HL4 : Hid (LiveAt (wr.setCell ⟨ba, j.toNat, none⟩ (.bool (s.armed j))) ba (fun i => decide (i < j + 1) && s.armed i)) := Lib.hid (by
              have h := HL2.out.set_ j.toNat (.bool (s.armed j))
              rw [live_set _ j _ hj0 hjl] at h
              refine Blk.eq h ?_
              rcases (by omega : j = 0 ∨ j = 1 ∨ j = 2 ∨ j = 3) with rfl | rfl | rfl | rfl <;> simp [liveCells, upd])
            have HO4 := Lib.hid (HO2.out.same (hC4.mono (F' := [b, ba]) (by simp)))
            clear HP2 HL2 HO2 hC4
            go_wp2_with fail
            go_roundw
            case rel => exact ⟨j + 1, by omega, by omega, rfl, HP4.out, HL4.out, HO4.out⟩
            case measure => simp [intOf]; omega
          · obtain rfl : j = 4 := by omega
            have HP2 := Lib.hid hp
            have HL2 : Hid (LiveAt wr ba s.armed) := Lib.hid (Blk.eq hl (by simp [liveCells]))
            have HO2 := Lib.hid ho
            clear hp hl ho
            go_wp2_with fail
            go_loopw [65] (fun i wx => ∃ k2 : Nat, k2 ≤ n2 ∧ i = .int .i64 k2 ∧ PhaseAt wx b s ∧ LiveAt wx ba s.armed ∧ Own w [b, ba] wx) (fun i _ => n2 - (intOf i).toNat)
            case atStart => exact ⟨0, by omega, rfl, HP2.out, HL2.out, HO2.out⟩
            case round =>
              obtain ⟨k, hk, rfl, hp, hl, hO⟩ := hrel
              clear HP2 HL2 HO2
              by_cases hlt : k < n2
              · obtain ⟨ab, ao, rfl, hcell⟩ := HZ2.out.at_ hO hlt
                have hc0 := hcell 0 _ rfl
                have hc1 := hcell 1 _ rfl
                simp at hc0 hc1
                have hd0 := bounds_u8 (HZ2.out.wf hlt 0 _ rfl)
                have hd1 := bounds_u8 (HZ2.out.wf hlt 1 _ rfl)
                have hd00 := hd0.1
                have hd01 := hd0.2
                have hx := and3_u8 (D2 k 1) hd1.1 hd1.2
                have hC0 : Chg [] wr (wr.alloc (.cells #[.int .u8 (D2 k 0), .int .u8 (D2 k 1)] 52)) := (Chg.refl _ _).alloc _
                have HP0 := Lib.hid (hp.keep hC0 (by simp))
                have HL0 := Lib.hid (hC0.blk hl (by simp))
                have HO0 := Lib.hid (hO.same (hC0.mono (F' := [b, ba]) (by simp)))
                have ht0 : 0 ≤ D2 k 1 % 4 := by omega
                have ht4 : D2 k 1 % 4 < 4 := by omega
                have HBD := Lib.hid ((Blk.new wr 52 #[.int .u8 (D2 k 0), .int .u8 (D2 k 1)]))
                have HNB := Lib.hid (show wr.heap.size ∉ [b] by have := hp.lt; simp; omega)
                clear hcell hd0 hd1 hC0 hp hl hO
                go_wp2_with fail
                refine (PhWants HP0.out (D2 k 1 % 4) ht0 ht4).mono ?_
                rintro e w4 ⟨rfl, hp4, hC4⟩
                rw [quiet_not s HS.out]
                have HBD4 := hC4.blk HBD.out (by simp)
                have hb0 := HBD4.cell 1
                simp at hb0
                have HBDH := Lib.hid HBD4
                have HL4 := Lib.hid (hC4.blk HL0.out (by simp))
                have HO4 := Lib.hid (HO0.out.same (hC4.mono (F' := [b, ba]) (by simp)))
                clear hC4 HP0 HL0 HO0 HBD4 HBD
                go_wp2_with fail
                refine (PhAckNo hp4 (D2 k 1 % 4) ht0 ht4 (quiet_not s HS.out _)).mono ?_
                rintro e w5 ⟨rfl, hp5, hC5⟩
                have HL5 := Lib.hid (hC5.blk HL4.out (by simp; exact fun h => HN.out h.symm))
                have HO5 := Lib.hid (HO4.out.same (hC5.mono (F' := [b, ba]) (by simp)))
                clear hC5 hp4 HL4 HO4 hb0
                go_wp2_with fail
                refine (PhAdvanceNo hp5 (.inr HS.out)).mono ?_
                rintro e w6 ⟨rfl, hp6, hC6⟩
                have HL6 := Lib.hid (hC6.blk HL5.out (by simp; exact fun h => HN.out h.symm))
                have HO6 := Lib.hid (HO5.out.same (hC6.mono (F' := [b, ba]) (by simp)))
                clear hC6 hp5 HL5 HO5
                go_wp2_with fail
                go_roundw
                case rel => exact ⟨k + 1, by omega, by go_num, hp6, HL6.out, HO6.out⟩
                case measure => simp [intOf]; omega
              · obtain rfl : k = n2 := by omega
                have HP3 := Lib.hid hp
                have HL3 := Lib.hid hl
                have HO3 := Lib.hid hO
                clear hp hl hO
                go_wp2_with fail
                go_loopw [88] (fun i wx => ∃ j : Int, 0 ≤ j ∧ j ≤ 4 ∧ i = .int .i64 j ∧ PhaseAt wx b s ∧ LiveAt wx ba s.armed ∧ Own w [b, ba] wx) (fun i _ => (4 - intOf i).toNat)
                case atStart => exact ⟨0, by omega, by omega, rfl, HP3.out, HL3.out, HO3.out⟩
                case round =>
                  obtain ⟨j, hj0, hj4, rfl, hp, hl, ho⟩ := hrel
                  clear HP3 HL3 HO3
                  by_cases hjl : j < 4
                  · have hld : ∀ x : Later wr, x.w'.cell? ⟨ba, j.toNat, none⟩ = some (.bool (s.armed j)) := fun x => by
                      have := (x.h.blk hl (by simp)).cell j.toNat
                      rw [live_get s.armed j hj0 hjl] at this
                      exact this
                    have HH := Lib.hid hp
                    have HHL := Lib.hid hl
                    have HHO := Lib.hid ho
                    clear hp hl ho
                    go_wp2_with fail
                    refine wp_region_grow (by kernel_rfl) (by kernel_rfl) ?_
                    repeat (go_big_quiet_step (first | (go_at_call 40; apply later_calls; refine (PhArmed (HH.out.keep (Later.h _) (by simp)) j hj0 hjl).mono ?_; rintro e w' ⟨rfl, rfl⟩; exact ⟨rfl, Chg.refl _ _⟩)))
                    refine wpQuiet_nil ?_
                    rintro w3 ⟨⟨w4, hC4⟩, rfl⟩
                    have HP6 := Lib.hid (HH.out.keep hC4 (by simp))
                    have HL6 := Lib.hid (hC4.blk HHL.out (by simp))
                    have HO6 := Lib.hid (HHO.out.same (hC4.mono (F' := [b, ba]) (by simp)))
                    clear hC4 HH HHL HHO
                    go_wp2_with fail
                    go_roundw
                    case rel => exact ⟨j + 1, by omega, by omega, rfl, HP6.out, HL6.out, HO6.out⟩
                    case measure => simp [intOf]; omega
                  · obtain rfl : j = 4 := by omega
                    have HO := Lib.hid ho
                    have HP := Lib.hid hp
                    clear hp hl ho
                    go_wp2_with fail
                    refine (PhNow HP.out).mono ?_
                    rintro e w' ⟨rfl, rfl⟩
                    rw [HNW.out]
                    go_wp2_with fail
                    refine (PhRounds HP.out).mono ?_
                    rintro e w' ⟨rfl, rfl⟩
                    rw [HRD.out]
                    go_wp2_with fail
                    go_ret
                    exact ⟨by simp, HO.out.below⟩
      · go_wp2_with fail
        go_ret
        exact ⟨rfl, HO.out.below⟩
      · go_wp2_with fail
        go_ret
        exact ⟨rfl, HO.out.below⟩
      · have HS := Lib.hid (show s.shaking = false by simp [PS.shaking, HNW.out])
        clear hn0 hn4
        go_wp2_with fail
        refine (PhNow HP.out).mono ?_
        rintro e w' ⟨rfl, rfl⟩
        rw [HNW.out]
        go_wp2_with fail
        refine (PhRounds HP.out).mono ?_
        rintro e w' ⟨rfl, rfl⟩
        obtain ⟨rd, hrd⟩ : ∃ rd, s.rounds = rd := ⟨_, rfl⟩
        rw [hrd]
        have HRD := Lib.hid hrd
        clear hrd
        have hblt : b < wr.heap.size := HP.out.lt
        have hC1 : Chg [] wr (wr.alloc (.cells (liveCells (fun _ => false)) 56)) := (Chg.refl _ _).alloc _
        obtain ⟨ba, hba⟩ : ∃ ba, wr.heap.size = ba := ⟨_, rfl⟩
        have HN := Lib.hid (show b ≠ ba by omega)
        have HP1 := Lib.hid (HP.out.keep hC1 (by simp))
        have HL1 : Hid (LiveAt (wr.alloc (.cells (liveCells (fun _ => false)) 56)) ba (fun i => decide (i < 0) && s.armed i)) := Lib.hid (by
          have h := Blk.new wr 56 (liveCells (fun _ => false))
          rw [hba] at h
          exact Blk.eq h (by simp [liveCells]))
        have HO1 := Lib.hid (HO.out.step (hC1.mono (F' := [b]) (by simp)) (F' := [b, ba]) (by intro x hx; simp at hx; rcases hx with rfl | rfl; simp; right; omega))
        clear HP HO hC1 hblt
        go_wp2_with fail
        clear hba
        go_loopw [54] (fun i wx => ∃ j : Int, 0 ≤ j ∧ j ≤ 4 ∧ i = .int .i64 j ∧ PhaseAt wx b s ∧ LiveAt wx ba (fun i => decide (i < j) && s.armed i) ∧ Own w [b, ba] wx) (fun i _ => (4 - intOf i).toNat)
        case atStart => exact ⟨0, by omega, by omega, rfl, HP1.out, HL1.out, HO1.out⟩
        case round =>
          obtain ⟨j, hj0, hj4, rfl, hp, hl, ho⟩ := hrel
          clear HP1 HL1 HO1
          by_cases hjl : j < 4
          · have hcl := hl.cell j.toNat
            rw [live_get _ j hj0 hjl] at hcl
            have hfl := hl.frozen j.toNat
            have HP2 := Lib.hid hp
            have HL2 := Lib.hid hl
            have HO2 := Lib.hid ho
            clear hp hl ho
            go_wp2_with fail
            refine (PhArmed HP2.out j hj0 hjl).mono ?_
            rintro e w' ⟨rfl, rfl⟩
            have hC4 : Chg [ba] wr (wr.setCell ⟨ba, j.toNat, none⟩ (.bool (s.armed j))) := (Chg.refl _ _).setCell (.inl (by simp)) _
            have HP4 := Lib.hid (HP2.out.keep hC4 (by simp; exact HN.out))
            have HL4 : Hid (LiveAt (wr.setCell ⟨ba, j.toNat, none⟩ (.bool (s.armed j))) ba (fun i => decide (i < j + 1) && s.armed i)) := Lib.hid (by
              have h := HL2.out.set_ j.toNat (.bool (s.armed j))
              rw [live_set _ j _ hj0 hjl] at h
              refine Blk.eq h ?_
              rcases (by omega : j = 0 ∨ j = 1 ∨ j = 2 ∨ j = 3) with rfl | rfl | rfl | rfl <;> simp [liveCells, upd])
            have HO4 := Lib.hid (HO2.out.same (hC4.mono (F' := [b, ba]) (by simp)))
            clear HP2 HL2 HO2 hC4
            go_wp2_with fail
            go_roundw
            case rel => exact ⟨j + 1, by omega, by omega, rfl, HP4.out, HL4.out, HO4.out⟩
            case measure => simp [intOf]; omega
          · obtain rfl : j = 4 := by omega
            have HP2 := Lib.hid hp
            have HL2 : Hid (LiveAt wr ba s.armed) := Lib.hid (Blk.eq hl (by simp [liveCells]))
            have HO2 := Lib.hid ho
            clear hp hl ho
            go_wp2_with fail
            go_loopw [65] (fun i wx => ∃ k2 : Nat, k2 ≤ n2 ∧ i = .int .i64 k2 ∧ PhaseAt wx b s ∧ LiveAt wx ba s.armed ∧ Own w [b, ba] wx) (fun i _ => n2 - (intOf i).toNat)
            case atStart => exact ⟨0, by omega, rfl, HP2.out, HL2.out, HO2.out⟩
            case round =>
              obtain ⟨k, hk, rfl, hp, hl, hO⟩ := hrel
              clear HP2 HL2 HO2
              by_cases hlt : k < n2
              · obtain ⟨ab, ao, rfl, hcell⟩ := HZ2.out.at_ hO hlt
                have hc0 := hcell 0 _ rfl
                have hc1 := hcell 1 _ rfl
                simp at hc0 hc1
                have hd0 := bounds_u8 (HZ2.out.wf hlt 0 _ rfl)
                have hd1 := bounds_u8 (HZ2.out.wf hlt 1 _ rfl)
                have hd00 := hd0.1
                have hd01 := hd0.2
                have hx := and3_u8 (D2 k 1) hd1.1 hd1.2
                have hC0 : Chg [] wr (wr.alloc (.cells #[.int .u8 (D2 k 0), .int .u8 (D2 k 1)] 52)) := (Chg.refl _ _).alloc _
                have HP0 := Lib.hid (hp.keep hC0 (by simp))
                have HL0 := Lib.hid (hC0.blk hl (by simp))
                have HO0 := Lib.hid (hO.same (hC0.mono (F' := [b, ba]) (by simp)))
                have ht0 : 0 ≤ D2 k 1 % 4 := by omega
                have ht4 : D2 k 1 % 4 < 4 := by omega
                have HBD := Lib.hid ((Blk.new wr 52 #[.int .u8 (D2 k 0), .int .u8 (D2 k 1)]))
                have HNB := Lib.hid (show wr.heap.size ∉ [b] by have := hp.lt; simp; omega)
                clear hcell hd0 hd1 hC0 hp hl hO
                go_wp2_with fail
                refine (PhWants HP0.out (D2 k 1 % 4) ht0 ht4).mono ?_
                rintro e w4 ⟨rfl, hp4, hC4⟩
                rw [quiet_not s HS.out]
                have HBD4 := hC4.blk HBD.out (by simp)
                have hb0 := HBD4.cell 1
                simp at hb0
                have HBDH := Lib.hid HBD4
                have HL4 := Lib.hid (hC4.blk HL0.out (by simp))
                have HO4 := Lib.hid (HO0.out.same (hC4.mono (F' := [b, ba]) (by simp)))
                clear hC4 HP0 HL0 HO0 HBD4 HBD
                go_wp2_with fail
                refine (PhAckNo hp4 (D2 k 1 % 4) ht0 ht4 (quiet_not s HS.out _)).mono ?_
                rintro e w5 ⟨rfl, hp5, hC5⟩
                have HL5 := Lib.hid (hC5.blk HL4.out (by simp; exact fun h => HN.out h.symm))
                have HO5 := Lib.hid (HO4.out.same (hC5.mono (F' := [b, ba]) (by simp)))
                clear hC5 hp4 HL4 HO4 hb0
                go_wp2_with fail
                refine (PhAdvanceNo hp5 (.inr HS.out)).mono ?_
                rintro e w6 ⟨rfl, hp6, hC6⟩
                have HL6 := Lib.hid (hC6.blk HL5.out (by simp; exact fun h => HN.out h.symm))
                have HO6 := Lib.hid (HO5.out.same (hC6.mono (F' := [b, ba]) (by simp)))
                clear hC6 hp5 HL5 HO5
                go_wp2_with fail
                go_roundw
                case rel => exact ⟨k + 1, by omega, by go_num, hp6, HL6.out, HO6.out⟩
                case measure => simp [intOf]; omega
              · obtain rfl : k = n2 := by omega
                have HP3 := Lib.hid hp
                have HL3 := Lib.hid hl
                have HO3 := Lib.hid hO
                clear hp hl hO
                go_wp2_with fail
                go_loopw [88] (fun i wx => ∃ j : Int, 0 ≤ j ∧ j ≤ 4 ∧ i = .int .i64 j ∧ PhaseAt wx b s ∧ LiveAt wx ba s.armed ∧ Own w [b, ba] wx) (fun i _ => (4 - intOf i).toNat)
                case atStart => exact ⟨0, by omega, by omega, rfl, HP3.out, HL3.out, HO3.out⟩
                case round =>
                  obtain ⟨j, hj0, hj4, rfl, hp, hl, ho⟩ := hrel
                  clear HP3 HL3 HO3
                  by_cases hjl : j < 4
                  · have hld : ∀ x : Later wr, x.w'.cell? ⟨ba, j.toNat, none⟩ = some (.bool (s.armed j)) := fun x => by
                      have := (x.h.blk hl (by simp)).cell j.toNat
                      rw [live_get s.armed j hj0 hjl] at this
                      exact this
                    have HH := Lib.hid hp
                    have HHL := Lib.hid hl
                    have HHO := Lib.hid ho
                    clear hp hl ho
                    go_wp2_with fail
                    refine wp_region_grow (by kernel_rfl) (by kernel_rfl) ?_
                    repeat (go_big_quiet_step (first | (go_at_call 40; apply later_calls; refine (PhArmed (HH.out.keep (Later.h _) (by simp)) j hj0 hjl).mono ?_; rintro e w' ⟨rfl, rfl⟩; exact ⟨rfl, Chg.refl _ _⟩)))
                    refine wpQuiet_nil ?_
                    rintro w3 ⟨⟨w4, hC4⟩, rfl⟩
                    have HP6 := Lib.hid (HH.out.keep hC4 (by simp))
                    have HL6 := Lib.hid (hC4.blk HHL.out (by simp))
                    have HO6 := Lib.hid (HHO.out.same (hC4.mono (F' := [b, ba]) (by simp)))
                    clear hC4 HH HHL HHO
                    go_wp2_with fail
                    go_roundw
                    case rel => exact ⟨j + 1, by omega, by omega, rfl, HP6.out, HL6.out, HO6.out⟩
                    case measure => simp [intOf]; omega
                  · obtain rfl : j = 4 := by omega
                    have HO := Lib.hid ho
                    have HP := Lib.hid hp
                    clear hp hl ho
                    go_wp2_with fail
                    refine (PhNow HP.out).mono ?_
                    rintro e w' ⟨rfl, rfl⟩
                    rw [HNW.out]
                    go_wp2_with fail
                    refine (PhRounds HP.out).mono ?_
                    rintro e w' ⟨rfl, rfl⟩
                    rw [HRD.out]
                    go_wp2_with fail
                    go_ret
                    exact ⟨by simp, HO.out.below⟩
      · have HS := Lib.hid (show s.shaking = false by simp [PS.shaking, HNW.out])
        clear hn0 hn4
        go_wp2_with fail
        refine (PhNow HP.out).mono ?_
        rintro e w' ⟨rfl, rfl⟩
        rw [HNW.out]
        go_wp2_with fail
        refine (PhRounds HP.out).mono ?_
        rintro e w' ⟨rfl, rfl⟩
        obtain ⟨rd, hrd⟩ : ∃ rd, s.rounds = rd := ⟨_, rfl⟩
        rw [hrd]
        have HRD := Lib.hid hrd
        clear hrd
        have hblt : b < wr.heap.size := HP.out.lt
        have hC1 : Chg [] wr (wr.alloc (.cells (liveCells (fun _ => false)) 56)) := (Chg.refl _ _).alloc _
        obtain ⟨ba, hba⟩ : ∃ ba, wr.heap.size = ba := ⟨_, rfl⟩
        have HN := Lib.hid (show b ≠ ba by omega)
        have HP1 := Lib.hid (HP.out.keep hC1 (by simp))
        have HL1 : Hid (LiveAt (wr.alloc (.cells (liveCells (fun _ => false)) 56)) ba (fun i => decide (i < 0) && s.armed i)) := Lib.hid (by
          have h := Blk.new wr 56 (liveCells (fun _ => false))
          rw [hba] at h
          exact Blk.eq h (by simp [liveCells]))
        have HO1 := Lib.hid (HO.out.step (hC1.mono (F' := [b]) (by simp)) (F' := [b, ba]) (by intro x hx; simp at hx; rcases hx with rfl | rfl; simp; right; omega))
        clear HP HO hC1 hblt
        go_wp2_with fail
        clear hba
        go_loopw [54] (fun i wx => ∃ j : Int, 0 ≤ j ∧ j ≤ 4 ∧ i = .int .i64 j ∧ PhaseAt wx b s ∧ LiveAt wx ba (fun i => decide (i < j) && s.armed i) ∧ Own w [b, ba] wx) (fun i _ => (4 - intOf i).toNat)
        case atStart => exact ⟨0, by omega, by omega, rfl, HP1.out, HL1.out, HO1.out⟩
        case round =>
          obtain ⟨j, hj0, hj4, rfl, hp, hl, ho⟩ := hrel
          clear HP1 HL1 HO1
          by_cases hjl : j < 4
          · have hcl := hl.cell j.toNat
            rw [live_get _ j hj0 hjl] at hcl
            have hfl := hl.frozen j.toNat
            have HP2 := Lib.hid hp
            have HL2 := Lib.hid hl
            have HO2 := Lib.hid ho
            clear hp hl ho
            go_wp2_with fail
            refine (PhArmed HP2.out j hj0 hjl).mono ?_
            rintro e w' ⟨rfl, rfl⟩
            have hC4 : Chg [ba] wr (wr.setCell ⟨ba, j.toNat, none⟩ (.bool (s.armed j))) := (Chg.refl _ _).setCell (.inl (by simp)) _
            have HP4 := Lib.hid (HP2.out.keep hC4 (by simp; exact HN.out))
            have HL4 : Hid (LiveAt (wr.setCell ⟨ba, j.toNat, none⟩ (.bool (s.armed j))) ba (fun i => decide (i < j + 1) && s.armed i)) := Lib.hid (by
              have h := HL2.out.set_ j.toNat (.bool (s.armed j))
              rw [live_set _ j _ hj0 hjl] at h
              refine Blk.eq h ?_
              rcases (by omega : j = 0 ∨ j = 1 ∨ j = 2 ∨ j = 3) with rfl | rfl | rfl | rfl <;> simp [liveCells, upd])
            have HO4 := Lib.hid (HO2.out.same (hC4.mono (F' := [b, ba]) (by simp)))
            clear HP2 HL2 HO2 hC4
            go_wp2_with fail
            go_roundw
            case rel => exact ⟨j + 1, by omega, by omega, rfl, HP4.out, HL4.out, HO4.out⟩
            case measure => simp [intOf]; omega
          · obtain rfl : j = 4 := by omega
            have HP2 := Lib.hid hp
            have HL2 : Hid (LiveAt wr ba s.armed) := Lib.hid (Blk.eq hl (by simp [liveCells]))
            have HO2 := Lib.hid ho
            clear hp hl ho
            go_wp2_with fail
            go_loopw [65] (fun i wx => ∃ k2 : Nat, k2 ≤ n2 ∧ i = .int .i64 k2 ∧ PhaseAt wx b s ∧ LiveAt wx ba s.armed ∧ Own w [b, ba] wx) (fun i _ => n2 - (intOf i).toNat)
            case atStart => exact ⟨0, by omega, rfl, HP2.out, HL2.out, HO2.out⟩
            case round =>
              obtain ⟨k, hk, rfl, hp, hl, hO⟩ := hrel
              clear HP2 HL2 HO2
              by_cases hlt : k < n2
              · obtain ⟨ab, ao, rfl, hcell⟩ := HZ2.out.at_ hO hlt
                have hc0 := hcell 0 _ rfl
                have hc1 := hcell 1 _ rfl
                simp at hc0 hc1
                have hd0 := bounds_u8 (HZ2.out.wf hlt 0 _ rfl)
                have hd1 := bounds_u8 (HZ2.out.wf hlt 1 _ rfl)
                have hd00 := hd0.1
                have hd01 := hd0.2
                have hx := and3_u8 (D2 k 1) hd1.1 hd1.2
                have hC0 : Chg [] wr (wr.alloc (.cells #[.int .u8 (D2 k 0), .int .u8 (D2 k 1)] 52)) := (Chg.refl _ _).alloc _
                have HP0 := Lib.hid (hp.keep hC0 (by simp))
                have HL0 := Lib.hid (hC0.blk hl (by simp))
                have HO0 := Lib.hid (hO.same (hC0.mono (F' := [b, ba]) (by simp)))
                have ht0 : 0 ≤ D2 k 1 % 4 := by omega
                have ht4 : D2 k 1 % 4 < 4 := by omega
                have HBD := Lib.hid ((Blk.new wr 52 #[.int .u8 (D2 k 0), .int .u8 (D2 k 1)]))
                have HNB := Lib.hid (show wr.heap.size ∉ [b] by have := hp.lt; simp; omega)
                clear hcell hd0 hd1 hC0 hp hl hO
                go_wp2_with fail
                refine (PhWants HP0.out (D2 k 1 % 4) ht0 ht4).mono ?_
                rintro e w4 ⟨rfl, hp4, hC4⟩
                rw [quiet_not s HS.out]
                have HBD4 := hC4.blk HBD.out (by simp)
                have hb0 := HBD4.cell 1
                simp at hb0
                have HBDH := Lib.hid HBD4
                have HL4 := Lib.hid (hC4.blk HL0.out (by simp))
                have HO4 := Lib.hid (HO0.out.same (hC4.mono (F' := [b, ba]) (by simp)))
                clear hC4 HP0 HL0 HO0 HBD4 HBD
                go_wp2_with fail
                refine (PhAckNo hp4 (D2 k 1 % 4) ht0 ht4 (quiet_not s HS.out _)).mono ?_
                rintro e w5 ⟨rfl, hp5, hC5⟩
                have HL5 := Lib.hid (hC5.blk HL4.out (by simp; exact fun h => HN.out h.symm))
                have HO5 := Lib.hid (HO4.out.same (hC5.mono (F' := [b, ba]) (by simp)))
                clear hC5 hp4 HL4 HO4 hb0
                go_wp2_with fail
                refine (PhAdvanceNo hp5 (.inr HS.out)).mono ?_
                rintro e w6 ⟨rfl, hp6, hC6⟩
                have HL6 := Lib.hid (hC6.blk HL5.out (by simp; exact fun h => HN.out h.symm))
                have HO6 := Lib.hid (HO5.out.same (hC6.mono (F' := [b, ba]) (by simp)))
                clear hC6 hp5 HL5 HO5
                go_wp2_with fail
                go_roundw
                case rel => exact ⟨k + 1, by omega, by go_num, hp6, HL6.out, HO6.out⟩
                case measure => simp [intOf]; omega
              · obtain rfl : k = n2 := by omega
                have HP3 := Lib.hid hp
                have HL3 := Lib.hid hl
                have HO3 := Lib.hid hO
                clear hp hl hO
                go_wp2_with fail
                go_loopw [88] (fun i wx => ∃ j : Int, 0 ≤ j ∧ j ≤ 4 ∧ i = .int .i64 j ∧ PhaseAt wx b s ∧ LiveAt wx ba s.armed ∧ Own w [b, ba] wx) (fun i _ => (4 - intOf i).toNat)
                case atStart => exact ⟨0, by omega, by omega, rfl, HP3.out, HL3.out, HO3.out⟩
                case round =>
                  obtain ⟨j, hj0, hj4, rfl, hp, hl, ho⟩ := hrel
                  clear HP3 HL3 HO3
                  by_cases hjl : j < 4
                  · have hld : ∀ x : Later wr, x.w'.cell? ⟨ba, j.toNat, none⟩ = some (.bool (s.armed j)) := fun x => by
                      have := (x.h.blk hl (by simp)).cell j.toNat
                      rw [live_get s.armed j hj0 hjl] at this
                      exact this
                    have HH := Lib.hid hp
                    have HHL := Lib.hid hl
                    have HHO := Lib.hid ho
                    clear hp hl ho
                    go_wp2_with fail
                    refine wp_region_grow (by kernel_rfl) (by kernel_rfl) ?_
                    repeat (go_big_quiet_step (first | (go_at_call 40; apply later_calls; refine (PhArmed (HH.out.keep (Later.h _) (by simp)) j hj0 hjl).mono ?_; rintro e w' ⟨rfl, rfl⟩; exact ⟨rfl, Chg.refl _ _⟩)))
                    refine wpQuiet_nil ?_
                    rintro w3 ⟨⟨w4, hC4⟩, rfl⟩
                    have HP6 := Lib.hid (HH.out.keep hC4 (by simp))
                    have HL6 := Lib.hid (hC4.blk HHL.out (by simp))
                    have HO6 := Lib.hid (HHO.out.same (hC4.mono (F' := [b, ba]) (by simp)))
                    clear hC4 HH HHL HHO
                    go_wp2_with fail
                    go_roundw
                    case rel => exact ⟨j + 1, by omega, by omega, rfl, HP6.out, HL6.out, HO6.out⟩
                    case measure => simp [intOf]; omega
                  · obtain rfl : j = 4 := by omega
                    have HO := Lib.hid ho
                    have HP := Lib.hid hp
                    clear hp hl ho
                    go_wp2_with fail
                    refine (PhNow HP.out).mono ?_
                    rintro e w' ⟨rfl, rfl⟩
                    rw [HNW.out]
                    go_wp2_with fail
                    refine (PhRounds HP.out).mono ?_
                    rintro e w' ⟨rfl, rfl⟩
                    rw [HRD.out]
                    go_wp2_with fail
                    go_ret
                    exact ⟨by simp, HO.out.below⟩

end Go.Proofs.Ytamecbanginjmaa
