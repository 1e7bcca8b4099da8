/-
  The walk of PhaseRounds. Conditions: as the theorem says.
-/
import Derived.Test.YtamecbanginjmaaPhaseCyclesW
import Derived.Test.YtamecbanginjmaaPhaseArmsW
namespace Go.Proofs.Ytamecbanginjmaa
open Go.RowKit Go.ChangeShapes


set_option maxRecDepth 100000 in
set_option maxHeartbeats 4000000 in
theorem phaseRounds_core (live : Int) (A : Option Addr) (n c : Nat) (D : Nat → Nat → Int) (lv : Int → Bool) (hlv : ∀ t, bitZ live t = lv t) (w : World) (hl0 : 0 ≤ live) (hl1 : live ≤ 255) (hz : ArgI w A n [.u8, .u8] D) (hm : n ≤ maxLen) :
    Calls Try.prog 15 #[.int .u8 live, .slice A n c] w fun e w' => e = .returned (.bool true) ∧ Below w.heap.size w w' := by
  have hO := Own.start w
  have HLV := Lib.hid hlv
  have HZ := Lib.hid hz
  have HBZ := Lib.hid (And.intro (bitz_0 live hl0 hl1) (And.intro (bitz_1 live hl0 hl1) (And.intro (bitz_2 live hl0 hl1) (bitz_3 live hl0 hl1))))
  clear hlv hz
  unfold maxLen at hm
  by_cases hn : 60 < n
  · go_enter Try.func15, Try.ntmps15
    go_wp2_with fail
    refine (fit17 _).mono ?_
    rintro e w1 ⟨rfl, hC⟩
    replace hO := hO.same hC
    go_wp2_with fail
    go_ret
    exact ⟨rfl, hO.below⟩
  go_enter Try.func15, Try.ntmps15
  go_wp2_with fail
  refine (fit17 _).mono ?_
  rintro e w1 ⟨rfl, hC⟩
  replace hO := hO.same hC
  clear hC
  go_wp2_with fail
  refine (PhNew _).mono ?_
  rintro e w2 ⟨b, rfl, hb, hp, hC⟩
  replace hO := hO.step hC (F' := [b]) (by intro x hx; simp at hx; omega)
  have hp1 : PhaseAt w2 b (L1 lv 0) := hp.ext (by simp [PS.zero, L1, PS.cells])
  clear hC hb hp
  go_wp2_with fail
  go_loopw [20] (fun i wr => ∃ k : Int, 0 ≤ k ∧ k ≤ 4 ∧ i = .int .i64 k ∧ PhaseAt wr b (L1 lv k) ∧ Own w [b] wr) (fun i _ => (4 - intOf i).toNat)
  case atStart => exact ⟨0, by omega, by omega, rfl, hp1, hO⟩
  case round =>
    obtain ⟨k, hk0, hk4, rfl, hp, hO⟩ := hrel
    clear hp1
    rcases (by omega : k = 0 ∨ k = 1 ∨ k = 2 ∨ k = 3 ∨ k = 4) with rfl | rfl | rfl | rfl | rfl
    · have hbit : (bits BinOp.and IntKind.u8 live 1 == 1) = lv 0 := (bit_0 live).trans (HLV.out 0)
      cases hv : lv 0
      · have HV := Lib.hid hv
        rw [hv] at hbit
        have HP := Lib.hid (show PhaseAt wr b (L1 lv 1) from hp.ext (by simp [L1, PS.cells, HV.out]))
        clear hv hp
        go_wp2_with fail
        go_roundw
        case rel => exact ⟨1, by omega, by omega, rfl, HP.out, hO⟩
        case measure => simp [intOf]
      · have HV := Lib.hid hv
        rw [hv] at hbit
        clear hv
        go_wp2_with fail
        refine (PhJoin hp 0 (by omega) (by omega)).mono ?_
        rintro e w3 ⟨rfl, hp3, hC⟩
        have HO := Lib.hid (hO.same hC)
        have HP := Lib.hid (show PhaseAt w3 b (L1 lv 1) from hp3.ext (by simp [L1, PS.join, PS.on, upd, PS.cells, HV.out]))
        clear hC hp hp3 hO
        go_wp2_with fail
        go_roundw
        case rel => exact ⟨1, by omega, by omega, rfl, HP.out, HO.out⟩
        case measure => simp [intOf]
    · have hbit : (bits BinOp.and IntKind.u8 (live / 2) 1 == 1) = lv 1 := (bit_1 live).trans (HLV.out 1)
      cases hv : lv 1
      · have HV := Lib.hid hv
        rw [hv] at hbit
        have HP := Lib.hid (show PhaseAt wr b (L1 lv 2) from hp.ext (by simp [L1, PS.cells, HV.out]))
        clear hv hp
        go_wp2_with fail
        go_roundw
        case rel => exact ⟨2, by omega, by omega, rfl, HP.out, hO⟩
        case measure => simp [intOf]
      · have HV := Lib.hid hv
        rw [hv] at hbit
        clear hv
        go_wp2_with fail
        refine (PhJoin hp 1 (by omega) (by omega)).mono ?_
        rintro e w3 ⟨rfl, hp3, hC⟩
        have HO := Lib.hid (hO.same hC)
        have HP := Lib.hid (show PhaseAt w3 b (L1 lv 2) from hp3.ext (by simp [L1, PS.join, PS.on, upd, PS.cells, HV.out]))
        clear hC hp hp3 hO
        go_wp2_with fail
        go_roundw
        case rel => exact ⟨2, by omega, by omega, rfl, HP.out, HO.out⟩
        case measure => simp [intOf]
    · have hbit : (bits BinOp.and IntKind.u8 (live / 4) 1 == 1) = lv 2 := (bit_2 live).trans (HLV.out 2)
      cases hv : lv 2
      · have HV := Lib.hid hv
        rw [hv] at hbit
        have HP := Lib.hid (show PhaseAt wr b (L1 lv 3) from hp.ext (by simp [L1, PS.cells, HV.out]))
        clear hv hp
        go_wp2_with fail
        go_roundw
        case rel => exact ⟨3, by omega, by omega, rfl, HP.out, hO⟩
        case measure => simp [intOf]
      · have HV := Lib.hid hv
        rw [hv] at hbit
        clear hv
        go_wp2_with fail
        refine (PhJoin hp 2 (by omega) (by omega)).mono ?_
        rintro e w3 ⟨rfl, hp3, hC⟩
        have HO := Lib.hid (hO.same hC)
        have HP := Lib.hid (show PhaseAt w3 b (L1 lv 3) from hp3.ext (by simp [L1, PS.join, PS.on, upd, PS.cells, HV.out]))
        clear hC hp hp3 hO
        go_wp2_with fail
        go_roundw
        case rel => exact ⟨3, by omega, by omega, rfl, HP.out, HO.out⟩
        case measure => simp [intOf]
    · have hbit : (bits BinOp.and IntKind.u8 (live / 8) 1 == 1) = lv 3 := (bit_3 live).trans (HLV.out 3)
      cases hv : lv 3
      · have HV := Lib.hid hv
        rw [hv] at hbit
        have HP := Lib.hid (show PhaseAt wr b (L1 lv 4) from hp.ext (by simp [L1, PS.cells, HV.out]))
        clear hv hp
        go_wp2_with fail
        go_roundw
        case rel => exact ⟨4, by omega, by omega, rfl, HP.out, hO⟩
        case measure => simp [intOf]
      · have HV := Lib.hid hv
        rw [hv] at hbit
        clear hv
        go_wp2_with fail
        refine (PhJoin hp 3 (by omega) (by omega)).mono ?_
        rintro e w3 ⟨rfl, hp3, hC⟩
        have HO := Lib.hid (hO.same hC)
        have HP := Lib.hid (show PhaseAt w3 b (L1 lv 4) from hp3.ext (by simp [L1, PS.join, PS.on, upd, PS.cells, HV.out]))
        clear hC hp hp3 hO
        go_wp2_with fail
        go_roundw
        case rel => exact ⟨4, by omega, by omega, rfl, HP.out, HO.out⟩
        case measure => simp [intOf]
    · go_wp2_with fail
      refine (PhBeginYes hp rfl).mono ?_
      rintro e w5 ⟨rfl, hp5, hC⟩
      have HP := Lib.hid (show PhaseAt w5 b (CP lv 0 1 0) from hp5.ext (by simp [CP, L1, PS.anew, PS.cells]))
      have HO := Lib.hid (hO.same hC)
      clear hC hp5 hp hO
      go_wp2_with fail
      go_loopw [34] (fun i wr => ∃ r : Int, 0 ≤ r ∧ r ≤ 2 ∧ i = .int .i64 r ∧ PhaseAt wr b (CP lv 0 (1 + r) 0) ∧ Own w [b] wr) (fun i _ => (2 - intOf i).toNat)
      case atStart => exact ⟨0, by omega, by omega, rfl, HP.out, HO.out⟩
      case round =>
        obtain ⟨r, hr0, hr2, rfl, hp, hO⟩ := hrel
        clear HP HO
        by_cases hrl : r < 2
        · go_wp2_with fail
          go_loopw [37] (fun i wx => ∃ j : Int, 0 ≤ j ∧ j ≤ 4 ∧ i = .int .i64 j ∧ PhaseAt wx b (CP lv 0 (1 + r) 0) ∧ Own w [b] wx) (fun i _ => (4 - intOf i).toNat)
          case atStart => exact ⟨0, by omega, by omega, rfl, hp, hO⟩
          case round =>
            obtain ⟨j, hj0, hj4, rfl, hpx, hOx⟩ := hrel
            clear hp hO
            rcases (by omega : j = 0 ∨ j = 1 ∨ j = 2 ∨ j = 3 ∨ j = 4) with rfl | rfl | rfl | rfl | rfl
            · have hbit : (bits BinOp.and IntKind.u8 live 1 == 1) = lv 0 := (bit_0 live).trans (HLV.out 0)
              have hwt : (CP lv 0 (1 + r) 0).wants 0 = lv 0 := by rcases (by omega : r = 0 ∨ r = 1) with rfl | rfl <;> simp [PS.wants, PS.shaking, CP]
              have HW := Lib.hid hwt
              clear hwt
              cases hv : lv 0
              all_goals
                rw [hv] at hbit HW
                clear hv
                go_wp2_with fail
                refine wp_region_grow (by kernel_rfl) (by kernel_rfl) ?_
                repeat (go_big_quiet_step (first | (go_at_call 39; apply later_calls; refine (PhWants (hpx.keep (Later.h _) (by simp)) 0 (by omega) (by omega)).mono ?_; rintro e w' ⟨rfl, hp', hc'⟩; rw [HW.out]; exact ⟨rfl, hc'⟩)))
                refine wpQuiet_nil ?_
                rintro w3 ⟨⟨w4, hC4⟩, rfl⟩
                have HP4 := Lib.hid (hpx.keep hC4 (by simp))
                have HO4 := Lib.hid (hOx.same (hC4.mono (F' := [b]) (by simp)))
                clear hC4 hpx hOx
                go_wp2_with fail
                go_roundw
                case rel => exact ⟨1, by omega, by omega, rfl, HP4.out, HO4.out⟩
                case measure => simp [intOf]
            · have hbit : (bits BinOp.and IntKind.u8 (live / 2) 1 == 1) = lv 1 := (bit_1 live).trans (HLV.out 1)
              have hwt : (CP lv 0 (1 + r) 0).wants 1 = lv 1 := by rcases (by omega : r = 0 ∨ r = 1) with rfl | rfl <;> simp [PS.wants, PS.shaking, CP]
              have HW := Lib.hid hwt
              clear hwt
              cases hv : lv 1
              all_goals
                rw [hv] at hbit HW
                clear hv
                go_wp2_with fail
                refine wp_region_grow (by kernel_rfl) (by kernel_rfl) ?_
                repeat (go_big_quiet_step (first | (go_at_call 39; apply later_calls; refine (PhWants (hpx.keep (Later.h _) (by simp)) 1 (by omega) (by omega)).mono ?_; rintro e w' ⟨rfl, hp', hc'⟩; rw [HW.out]; exact ⟨rfl, hc'⟩)))
                refine wpQuiet_nil ?_
                rintro w3 ⟨⟨w4, hC4⟩, rfl⟩
                have HP4 := Lib.hid (hpx.keep hC4 (by simp))
                have HO4 := Lib.hid (hOx.same (hC4.mono (F' := [b]) (by simp)))
                clear hC4 hpx hOx
                go_wp2_with fail
                go_roundw
                case rel => exact ⟨2, by omega, by omega, rfl, HP4.out, HO4.out⟩
                case measure => simp [intOf]
            · have hbit : (bits BinOp.and IntKind.u8 (live / 4) 1 == 1) = lv 2 := (bit_2 live).trans (HLV.out 2)
              have hwt : (CP lv 0 (1 + r) 0).wants 2 = lv 2 := by rcases (by omega : r = 0 ∨ r = 1) with rfl | rfl <;> simp [PS.wants, PS.shaking, CP]
              have HW := Lib.hid hwt
              clear hwt
              cases hv : lv 2
              all_goals
                rw [hv] at hbit HW
                clear hv
                go_wp2_with fail
                refine wp_region_grow (by kernel_rfl) (by kernel_rfl) ?_
                repeat (go_big_quiet_step (first | (go_at_call 39; apply later_calls; refine (PhWants (hpx.keep (Later.h _) (by simp)) 2 (by omega) (by omega)).mono ?_; rintro e w' ⟨rfl, hp', hc'⟩; rw [HW.out]; exact ⟨rfl, hc'⟩)))
                refine wpQuiet_nil ?_
                rintro w3 ⟨⟨w4, hC4⟩, rfl⟩
                have HP4 := Lib.hid (hpx.keep hC4 (by simp))
                have HO4 := Lib.hid (hOx.same (hC4.mono (F' := [b]) (by simp)))
                clear hC4 hpx hOx
                go_wp2_with fail
                go_roundw
                case rel => exact ⟨3, by omega, by omega, rfl, HP4.out, HO4.out⟩
                case measure => simp [intOf]
            · have hbit : (bits BinOp.and IntKind.u8 (live / 8) 1 == 1) = lv 3 := (bit_3 live).trans (HLV.out 3)
              have hwt : (CP lv 0 (1 + r) 0).wants 3 = lv 3 := by rcases (by omega : r = 0 ∨ r = 1) with rfl | rfl <;> simp [PS.wants, PS.shaking, CP]
              have HW := Lib.hid hwt
              clear hwt
              cases hv : lv 3
              all_goals
                rw [hv] at hbit HW
                clear hv
                go_wp2_with fail
                refine wp_region_grow (by kernel_rfl) (by kernel_rfl) ?_
                repeat (go_big_quiet_step (first | (go_at_call 39; apply later_calls; refine (PhWants (hpx.keep (Later.h _) (by simp)) 3 (by omega) (by omega)).mono ?_; rintro e w' ⟨rfl, hp', hc'⟩; rw [HW.out]; exact ⟨rfl, hc'⟩)))
                refine wpQuiet_nil ?_
                rintro w3 ⟨⟨w4, hC4⟩, rfl⟩
                have HP4 := Lib.hid (hpx.keep hC4 (by simp))
                have HO4 := Lib.hid (hOx.same (hC4.mono (F' := [b]) (by simp)))
                clear hC4 hpx hOx
                go_wp2_with fail
                go_roundw
                case rel => exact ⟨4, by omega, by omega, rfl, HP4.out, HO4.out⟩
                case measure => simp [intOf]
            · have HP := Lib.hid hpx
              have HO := Lib.hid hOx
              clear hpx hOx
              go_wp2_with fail
              go_loopw [9, 50] (fun q i wx => ∃ j m : Int, 0 ≤ j ∧ j ≤ 4 ∧ 0 ≤ m ∧ m ≤ j ∧ q = .int .i64 m ∧ i = .int .i64 j ∧ PhaseAt wx b (CP lv 0 (1 + r) j) ∧ Own w [b] wx) (fun _ i _ => (4 - intOf i).toNat)
              case atStart => exact ⟨0, 0, by omega, by omega, by omega, by omega, rfl, rfl, HP.out, HO.out⟩
              case round =>
                obtain ⟨j, m, hj0, hj4, hm0, hmj, rfl, rfl, hpx, hOx⟩ := hrel
                clear HP HO
                rcases (by omega : j = 0 ∨ j = 1 ∨ j = 2 ∨ j = 3 ∨ j = 4) with rfl | rfl | rfl | rfl | rfl
                · have hbit : (bits BinOp.and IntKind.u8 live 1 == 0) = !lv 0 := HBZ.out.1.trans (by rw [HLV.out])
                  have hwt : (CP lv 0 (1 + r) 0).wants 0 = lv 0 := by rcases (by omega : r = 0 ∨ r = 1) with rfl | rfl <;> simp [PS.wants, PS.shaking, CP]
                  cases hv : lv 0
                  · rw [hv] at hbit
                    simp only [Bool.not_false] at hbit
                    have HV := Lib.hid hv
                    have HP := Lib.hid (show PhaseAt wr b (CP lv 0 (1 + r) 1) from hpx.ext (by simp [CP, PS.cells, HV.out]))
                    have HO := Lib.hid hOx
                    clear hv hpx hOx hwt
                    go_wp2_with fail
                    go_roundw
                    case rel => exact ⟨1, m, by omega, by omega, by omega, by omega, rfl, rfl, HP.out, HO.out⟩
                    case measure => simp [intOf]
                  · rw [hv] at hbit
                    simp only [Bool.not_true] at hbit
                    have HV := Lib.hid hv
                    have HW := Lib.hid (hwt.trans hv)
                    clear hv hwt
                    go_wp2_with fail
                    refine (PhAdvanceNo hpx (.inl (by
                      cases hs : (CP lv 0 (1 + r) 0).still
                      · rfl
                      · have := (still_iff _).1 hs 0 (by omega) (by omega)
                        rw [HW.out] at this; cases this))).mono ?_
                    rintro e w6 ⟨rfl, hp6, hC⟩
                    have HO6 := Lib.hid (hOx.same hC)
                    clear hC hpx hOx
                    go_wp2_with fail
                    refine (PhAckYes hp6 0 (by omega) (by omega) HW.out).mono ?_
                    rintro e w7 ⟨rfl, hp7, hC⟩
                    have HO7 := Lib.hid (HO6.out.same hC)
                    have HP7 := Lib.hid (show PhaseAt w7 b (CP lv 0 (1 + r) 1) from hp7.ext (by
                      rcases (by omega : r = 0 ∨ r = 1) with rfl | rfl <;> simp [CP, PS.ack, upd, PS.cells, HV.out]))
                    clear hC hp6 HO6 hp7
                    go_wp2_with fail
                    refine (PhAckNo HP7.out 0 (by omega) (by omega) (by simp [PS.wants, CP, HV.out])).mono ?_
                    rintro e w8 ⟨rfl, hp8, hC⟩
                    have HO8 := Lib.hid (HO7.out.same hC)
                    clear hC HP7 HO7
                    go_wp2_with fail
                    go_roundw
                    case rel => exact ⟨1, m + 1, by omega, by omega, by omega, by omega, rfl, rfl, hp8, HO8.out⟩
                    case measure => simp [intOf]
                · have hbit : (bits BinOp.and IntKind.u8 (live / 2) 1 == 0) = !lv 1 := HBZ.out.2.1.trans (by rw [HLV.out])
                  have hwt : (CP lv 0 (1 + r) 1).wants 1 = lv 1 := by rcases (by omega : r = 0 ∨ r = 1) with rfl | rfl <;> simp [PS.wants, PS.shaking, CP]
                  cases hv : lv 1
                  · rw [hv] at hbit
                    simp only [Bool.not_false] at hbit
                    have HV := Lib.hid hv
                    have HP := Lib.hid (show PhaseAt wr b (CP lv 0 (1 + r) 2) from hpx.ext (by simp [CP, PS.cells, HV.out]))
                    have HO := Lib.hid hOx
                    clear hv hpx hOx hwt
                    go_wp2_with fail
                    go_roundw
                    case rel => exact ⟨2, m, by omega, by omega, by omega, by omega, rfl, rfl, HP.out, HO.out⟩
                    case measure => simp [intOf]
                  · rw [hv] at hbit
                    simp only [Bool.not_true] at hbit
                    have HV := Lib.hid hv
                    have HW := Lib.hid (hwt.trans hv)
                    clear hv hwt
                    go_wp2_with fail
                    refine (PhAdvanceNo hpx (.inl (by
                      cases hs : (CP lv 0 (1 + r) 1).still
                      · rfl
                      · have := (still_iff _).1 hs 1 (by omega) (by omega)
                        rw [HW.out] at this; cases this))).mono ?_
                    rintro e w6 ⟨rfl, hp6, hC⟩
                    have HO6 := Lib.hid (hOx.same hC)
                    clear hC hpx hOx
                    go_wp2_with fail
                    refine (PhAckYes hp6 1 (by omega) (by omega) HW.out).mono ?_
                    rintro e w7 ⟨rfl, hp7, hC⟩
                    have HO7 := Lib.hid (HO6.out.same hC)
                    have HP7 := Lib.hid (show PhaseAt w7 b (CP lv 0 (1 + r) 2) from hp7.ext (by
                      rcases (by omega : r = 0 ∨ r = 1) with rfl | rfl <;> simp [CP, PS.ack, upd, PS.cells, HV.out]))
                    clear hC hp6 HO6 hp7
                    go_wp2_with fail
                    refine (PhAckNo HP7.out 1 (by omega) (by omega) (by simp [PS.wants, CP, HV.out])).mono ?_
                    rintro e w8 ⟨rfl, hp8, hC⟩
                    have HO8 := Lib.hid (HO7.out.same hC)
                    clear hC HP7 HO7
                    go_wp2_with fail
                    go_roundw
                    case rel => exact ⟨2, m + 1, by omega, by omega, by omega, by omega, rfl, rfl, hp8, HO8.out⟩
                    case measure => simp [intOf]
                · have hbit : (bits BinOp.and IntKind.u8 (live / 4) 1 == 0) = !lv 2 := HBZ.out.2.2.1.trans (by rw [HLV.out])
                  have hwt : (CP lv 0 (1 + r) 2).wants 2 = lv 2 := by rcases (by omega : r = 0 ∨ r = 1) with rfl | rfl <;> simp [PS.wants, PS.shaking, CP]
                  cases hv : lv 2
                  · rw [hv] at hbit
                    simp only [Bool.not_false] at hbit
                    have HV := Lib.hid hv
                    have HP := Lib.hid (show PhaseAt wr b (CP lv 0 (1 + r) 3) from hpx.ext (by simp [CP, PS.cells, HV.out]))
                    have HO := Lib.hid hOx
                    clear hv hpx hOx hwt
                    go_wp2_with fail
                    go_roundw
                    case rel => exact ⟨3, m, by omega, by omega, by omega, by omega, rfl, rfl, HP.out, HO.out⟩
                    case measure => simp [intOf]
                  · rw [hv] at hbit
                    simp only [Bool.not_true] at hbit
                    have HV := Lib.hid hv
                    have HW := Lib.hid (hwt.trans hv)
                    clear hv hwt
                    go_wp2_with fail
                    refine (PhAdvanceNo hpx (.inl (by
                      cases hs : (CP lv 0 (1 + r) 2).still
                      · rfl
                      · have := (still_iff _).1 hs 2 (by omega) (by omega)
                        rw [HW.out] at this; cases this))).mono ?_
                    rintro e w6 ⟨rfl, hp6, hC⟩
                    have HO6 := Lib.hid (hOx.same hC)
                    clear hC hpx hOx
                    go_wp2_with fail
                    refine (PhAckYes hp6 2 (by omega) (by omega) HW.out).mono ?_
                    rintro e w7 ⟨rfl, hp7, hC⟩
                    have HO7 := Lib.hid (HO6.out.same hC)
                    have HP7 := Lib.hid (show PhaseAt w7 b (CP lv 0 (1 + r) 3) from hp7.ext (by
                      rcases (by omega : r = 0 ∨ r = 1) with rfl | rfl <;> simp [CP, PS.ack, upd, PS.cells, HV.out]))
                    clear hC hp6 HO6 hp7
                    go_wp2_with fail
                    refine (PhAckNo HP7.out 2 (by omega) (by omega) (by simp [PS.wants, CP, HV.out])).mono ?_
                    rintro e w8 ⟨rfl, hp8, hC⟩
                    have HO8 := Lib.hid (HO7.out.same hC)
                    clear hC HP7 HO7
                    go_wp2_with fail
                    go_roundw
                    case rel => exact ⟨3, m + 1, by omega, by omega, by omega, by omega, rfl, rfl, hp8, HO8.out⟩
                    case measure => simp [intOf]
                · have hbit : (bits BinOp.and IntKind.u8 (live / 8) 1 == 0) = !lv 3 := HBZ.out.2.2.2.trans (by rw [HLV.out])
                  have hwt : (CP lv 0 (1 + r) 3).wants 3 = lv 3 := by rcases (by omega : r = 0 ∨ r = 1) with rfl | rfl <;> simp [PS.wants, PS.shaking, CP]
                  cases hv : lv 3
                  · rw [hv] at hbit
                    simp only [Bool.not_false] at hbit
                    have HV := Lib.hid hv
                    have HP := Lib.hid (show PhaseAt wr b (CP lv 0 (1 + r) 4) from hpx.ext (by simp [CP, PS.cells, HV.out]))
                    have HO := Lib.hid hOx
                    clear hv hpx hOx hwt
                    go_wp2_with fail
                    go_roundw
                    case rel => exact ⟨4, m, by omega, by omega, by omega, by omega, rfl, rfl, HP.out, HO.out⟩
                    case measure => simp [intOf]
                  · rw [hv] at hbit
                    simp only [Bool.not_true] at hbit
                    have HV := Lib.hid hv
                    have HW := Lib.hid (hwt.trans hv)
                    clear hv hwt
                    go_wp2_with fail
                    refine (PhAdvanceNo hpx (.inl (by
                      cases hs : (CP lv 0 (1 + r) 3).still
                      · rfl
                      · have := (still_iff _).1 hs 3 (by omega) (by omega)
                        rw [HW.out] at this; cases this))).mono ?_
                    rintro e w6 ⟨rfl, hp6, hC⟩
                    have HO6 := Lib.hid (hOx.same hC)
                    clear hC hpx hOx
                    go_wp2_with fail
                    refine (PhAckYes hp6 3 (by omega) (by omega) HW.out).mono ?_
                    rintro e w7 ⟨rfl, hp7, hC⟩
                    have HO7 := Lib.hid (HO6.out.same hC)
                    have HP7 := Lib.hid (show PhaseAt w7 b (CP lv 0 (1 + r) 4) from hp7.ext (by
                      rcases (by omega : r = 0 ∨ r = 1) with rfl | rfl <;> simp [CP, PS.ack, upd, PS.cells, HV.out]))
                    clear hC hp6 HO6 hp7
                    go_wp2_with fail
                    refine (PhAckNo HP7.out 3 (by omega) (by omega) (by simp [PS.wants, CP, HV.out])).mono ?_
                    rintro e w8 ⟨rfl, hp8, hC⟩
                    have HO8 := Lib.hid (HO7.out.same hC)
                    clear hC HP7 HO7
                    go_wp2_with fail
                    go_roundw
                    case rel => exact ⟨4, m + 1, by omega, by omega, by omega, by omega, rfl, rfl, hp8, HO8.out⟩
                    case measure => simp [intOf]
                · have hst : (CP lv 0 (1 + r) 4).still = true := by
                    rw [still_iff]
                    intro t h0 h4
                    simp only [PS.wants, CP]
                    cases lv t <;> simp [h4]
                  have hsh : (CP lv 0 (1 + r) 4).shaking = true := by rcases (by omega : r = 0 ∨ r = 1) with rfl | rfl <;> rfl
                  go_wp2_with fail
                  refine (PhNow hpx).mono ?_
                  rintro e w' ⟨rfl, rfl⟩
                  rw [show (CP lv 0 (1 + r) 4).now = 1 + r from rfl]
                  go_wp2_with fail
                  refine (PhAdvanceYes hpx hst hsh (by simp only [CP]; omega) (by simp only [CP]; omega)).mono ?_
                  rintro e w6 ⟨rfl, hp6, hC⟩
                  have HO := Lib.hid (hOx.same hC)
                  have HP := Lib.hid (show PhaseAt w6 b (CP lv 0 (1 + (r + 1)) 0) from hp6.ext (by
                    rcases (by omega : r = 0 ∨ r = 1) with rfl | rfl <;> simp [CP, PS.next, PS.cells]))
                  clear hC hp6 hpx hOx hsh hst
                  go_wp2_with fail
                  refine (PhNow HP.out).mono ?_
                  rintro e w' ⟨rfl, rfl⟩
                  rw [show (CP lv 0 (1 + (r + 1)) 0).now = 1 + (r + 1) from rfl, show 1 + (r + 1) = 2 + r by omega]
                  go_wp2_with fail
                  go_roundw
                  case rel => exact ⟨r + 1, by omega, by omega, rfl, HP.out, HO.out⟩
                  case measure => simp [intOf]; omega
        · obtain rfl : r = 2 := by omega
          go_wp2_with fail
          refine (PhAdvanceNo hp (.inr (by rfl))).mono ?_
          rintro e w6 ⟨rfl, hp6, hC⟩
          have HO6 := Lib.hid (hO.same hC)
          clear hC hp hO
          go_wp2_with fail
          refine (PhNow hp6).mono ?_
          rintro e w' ⟨rfl, rfl⟩
          rw [show (CP lv 0 (1 + 2) 0).now = 3 from rfl]
          go_wp2_with fail
          refine (PhMarkedYes hp6 rfl).mono ?_
          rintro e w7 ⟨rfl, hp7, hC⟩
          have HO7 := Lib.hid (HO6.out.same hC)
          clear hC hp6 HO6
          go_wp2_with fail
          refine (PhSweptYes hp7 rfl).mono ?_
          rintro e w8 ⟨rfl, hp8, hC⟩
          have HO8 := Lib.hid (HO7.out.same hC)
          have HP8 := Lib.hid (show PhaseAt w8 b (CI lv (fun _ => false) 1) from hp8.ext (by simp [CP, CI, PS.mark, PS.anew, PS.cells]))
          clear hC hp7 HO7 hp8
          go_wp2_with fail
          refine (PhNow HP8.out).mono ?_
          rintro e w' ⟨rfl, rfl⟩
          rw [show (CI lv (fun _ => false) 1).now = 0 from rfl]
          go_wp2_with fail
          go_loopw [116] (fun i wx => ∃ k : Nat, k ≤ n ∧ i = .int .i64 k ∧ PhaseAt wx b (CI lv (fun _ => false) 1) ∧ Own w [b] wx) (fun i _ => n - (intOf i).toNat)
          case atStart => exact ⟨0, by omega, rfl, HP8.out, HO8.out⟩
          case round =>
            obtain ⟨k, hk, rfl, hp, hO⟩ := hrel
            clear HP8 HO8
            by_cases hlt : k < n
            · obtain ⟨ab, ao, rfl, hcell⟩ := HZ.out.at_ hO hlt
              have hc0 := hcell 0 _ rfl
              have hc1 := hcell 1 _ rfl
              simp at hc0 hc1
              have hd0 := bounds_u8 (HZ.out.wf hlt 0 _ rfl)
              have hd1 := bounds_u8 (HZ.out.wf hlt 1 _ rfl)
              have hd00 := hd0.1
              have hd01 := hd0.2
              have hx := and3_u8 (D k 1) hd1.1 hd1.2
              have hC0 : Chg [] wr (wr.alloc (.cells #[.int .u8 (D k 0), .int .u8 (D k 1)] 52)) := (Chg.refl _ _).alloc _
              have HP0 := Lib.hid (hp.keep hC0 (by simp))
              have HO0 := Lib.hid (hO.same (hC0.mono (F' := [b]) (by simp)))
              have ht0 : 0 ≤ D k 1 % 4 := by omega
              have ht4 : D k 1 % 4 < 4 := by omega
              clear hcell hd0 hd1 hC0 hp hO
              rcases (by omega : D k 0 % 7 = 0 ∨ D k 0 % 7 = 1 ∨ D k 0 % 7 = 2 ∨ D k 0 % 7 = 3 ∨ D k 0 % 7 = 4 ∨ D k 0 % 7 = 5 ∨ D k 0 % 7 = 6) with hK | hK | hK | hK | hK | hK | hK
              · go_wp2_with fail
                go_roundw
                case rel => exact ⟨k + 1, by omega, by go_num, HP0.out, HO0.out⟩
                case measure => simp [intOf]; omega
              · have HX := Lib.hid (show (CI lv (fun _ => false) 1).step 1 (D k 1 % 4) = (false, CI lv (fun _ => false) 1) by simp [PS.step, PS.wants, PS.shaking, CI])
                go_wp2_with fail
                refine (PhDone HP0.out 1 (D k 1 % 4) (by omega) (by omega) ht0 ht4 (by simp [CI]) (by simp [CI])).mono ?_
                rw [HX.out]
                rintro e w7 ⟨rfl, hp7, hC⟩
                have HO7 := Lib.hid (HO0.out.same hC)
                clear hC HP0 HO0
                go_wp2_with fail
                go_roundw
                case rel => exact ⟨k + 1, by omega, by go_num, hp7, HO7.out⟩
                case measure => simp [intOf]; omega
              · go_wp2_with fail
                go_roundw
                case rel => exact ⟨k + 1, by omega, by go_num, HP0.out, HO0.out⟩
                case measure => simp [intOf]; omega
              · go_wp2_with fail
                go_roundw
                case rel => exact ⟨k + 1, by omega, by go_num, HP0.out, HO0.out⟩
                case measure => simp [intOf]; omega
              · have HX := Lib.hid (show (CI lv (fun _ => false) 1).step 4 (D k 1 % 4) = (false, CI lv (fun _ => false) 1) by simp [PS.step, PS.wants, PS.shaking, CI])
                go_wp2_with fail
                refine (PhDone HP0.out 4 (D k 1 % 4) (by omega) (by omega) ht0 ht4 (by simp [CI]) (by simp [CI])).mono ?_
                rw [HX.out]
                rintro e w7 ⟨rfl, hp7, hC⟩
                have HO7 := Lib.hid (HO0.out.same hC)
                clear hC HP0 HO0
                go_wp2_with fail
                go_roundw
                case rel => exact ⟨k + 1, by omega, by go_num, hp7, HO7.out⟩
                case measure => simp [intOf]; omega
              · have HX := Lib.hid (show (CI lv (fun _ => false) 1).step 5 (D k 1 % 4) = (false, CI lv (fun _ => false) 1) by simp [PS.step, PS.wants, PS.shaking, CI])
                go_wp2_with fail
                refine (PhDone HP0.out 5 (D k 1 % 4) (by omega) (by omega) ht0 ht4 (by simp [CI]) (by simp [CI])).mono ?_
                rw [HX.out]
                rintro e w7 ⟨rfl, hp7, hC⟩
                have HO7 := Lib.hid (HO0.out.same hC)
                clear hC HP0 HO0
                go_wp2_with fail
                go_roundw
                case rel => exact ⟨k + 1, by omega, by go_num, hp7, HO7.out⟩
                case measure => simp [intOf]; omega
              · have HX := Lib.hid (show (CI lv (fun _ => false) 1).step 6 (D k 1 % 4) = (false, CI lv (fun _ => false) 1) by simp [PS.step, PS.wants, PS.shaking, CI])
                go_wp2_with fail
                refine (PhDone HP0.out 6 (D k 1 % 4) (by omega) (by omega) ht0 ht4 (by simp [CI]) (by simp [CI])).mono ?_
                rw [HX.out]
                rintro e w7 ⟨rfl, hp7, hC⟩
                have HO7 := Lib.hid (HO0.out.same hC)
                clear hC HP0 HO0
                go_wp2_with fail
                go_roundw
                case rel => exact ⟨k + 1, by omega, by go_num, hp7, HO7.out⟩
                case measure => simp [intOf]; omega
            · obtain rfl : k = n := by omega
              have HO := Lib.hid hO
              have HP := Lib.hid hp
              clear hO hp
              go_wp2_with fail
              refine (PhNow HP.out).mono ?_
              rintro e w' ⟨rfl, rfl⟩
              rw [show (CI lv (fun _ => false) 1).now = 0 from rfl]
              go_wp2_with fail
              refine (PhRounds HP.out).mono ?_
              rintro e w' ⟨rfl, rfl⟩
              rw [show (CI lv (fun _ => false) 1).rounds = 2 from rfl]
              go_wp2_with fail
              go_ret
              exact ⟨rfl, HO.out.below⟩

theorem phaseRounds_walk (live : Int) (A : Option Addr) (n c : Nat) (D : Nat → Nat → Int) (w : World) (hl : (Lit.int .u8 live).wf = true) (hz : ArgI w A n [.u8, .u8] D) (hm : n ≤ maxLen) :
    Calls Try.prog 15 #[.int .u8 live, .slice A n c] w fun e w' => e = .returned (.bool true) ∧ Below w.heap.size w w' :=
  phaseRounds_core live A n c D (bitZ live) (fun _ => rfl) w (bounds_u8 hl).1 (bounds_u8 hl).2 hz hm

end Go.Proofs.Ytamecbanginjmaa
