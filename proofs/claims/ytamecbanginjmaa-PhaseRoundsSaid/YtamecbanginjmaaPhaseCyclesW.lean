/-
  The walk of PhaseCycles. Conditions: as the theorem says.
-/
import Derived.Test.YtamecbanginjmaaPhaseLeavesW
import Derived.Deep.DeepCutAuto
import Derived.Deep.Cut
namespace Go.Proofs.Ytamecbanginjmaa
open Go.RowKit Go.ChangeShapes


/-- Idle, behind k cycles. -/
def CI (lv : Int → Bool) (ak : Int → Bool) (k : Int) : PS := ⟨0, 2 * k, lv, fun _ => false, ak⟩
/-- At a handshake, or marking: phase p of the cycle behind k others; j threads have acknowledged. -/
def CP (lv : Int → Bool) (k p j : Int) : PS := ⟨p, 2 * k + (p - 1), lv, fun i => if i < j then lv i else (decide (2 ≤ p) && lv i), fun i => decide (i < j) && lv i⟩

theorem cp_cells (lv : Int → Bool) (k : Int) : (CP lv k 1 0).cells = ((CI lv (fun _ => false) k).anew 1).cells := by
  simp [CP, CI, PS.anew, PS.cells]

set_option maxRecDepth 100000 in
set_option maxHeartbeats 4000000 in
theorem phaseCycles_core (live n : Int) (lv : Int → Bool) (hlv : ∀ t, bitZ live t = lv t) (w : World) (_hl0 : 0 ≤ live) (_hl1 : live ≤ 255) (hn0 : 0 ≤ n) (hn1 : n ≤ 255) :
    Calls Try.prog 14 #[.int .u8 live, .int .u8 n] w fun e w' => e = .returned (.bool true) ∧ Below w.heap.size w w' := by
  have hO := Own.start w
  have HLV := Lib.hid hlv
  clear hlv
  go_enter Try.func14, Try.ntmps14
  go_wp2_with fail
  refine (fit17 _).mono ?_
  rintro e w1 ⟨rfl, hC⟩
  replace hO := hO.same hC
  clear hC
  go_wp2_with fail
  refine (PhNew _).mono ?_
  rintro e w2 ⟨b, rfl, hb, hp, hC⟩
  replace hO := hO.step hC (F' := [b]) (by intro x hx; simp at hx; omega)
  have hp1 : PhaseAt w2 b (L1 lv 0) := hp.ext (by simp [PS.zero, L1, PS.cells])
  clear hC hb hp
  go_wp2_with fail
  go_loopw [13] (fun i wr => ∃ k : Int, 0 ≤ k ∧ k ≤ 4 ∧ i = .int .i64 k ∧ PhaseAt wr b (L1 lv k) ∧ Own w [b] wr) (fun i _ => (4 - intOf i).toNat)
  case atStart => exact ⟨0, by omega, by omega, rfl, hp1, hO⟩
  case round =>
    obtain ⟨k, hk0, hk4, rfl, hp, hO⟩ := hrel
    clear hp1
    rcases (by omega : k = 0 ∨ k = 1 ∨ k = 2 ∨ k = 3 ∨ k = 4) with rfl | rfl | rfl | rfl | rfl
    · have hbit : (bits BinOp.and IntKind.u8 live 1 == 1) = lv 0 := (bit_0 live).trans (HLV.out 0)
      cases hv : lv 0
      · have HV := Lib.hid hv
        rw [hv] at hbit
        have HP := Lib.hid (show PhaseAt wr b (L1 lv 1) from hp.ext (by simp [L1, PS.cells, HV.out]))
        clear hv hp
        go_wp2_with fail
        go_roundw
        case rel => exact ⟨1, by omega, by omega, rfl, HP.out, hO⟩
        case measure => simp [intOf]
      · have HV := Lib.hid hv
        rw [hv] at hbit
        clear hv
        go_wp2_with fail
        refine (PhJoin hp 0 (by omega) (by omega)).mono ?_
        rintro e w3 ⟨rfl, hp3, hC⟩
        have HO := Lib.hid (hO.same hC)
        have HP := Lib.hid (show PhaseAt w3 b (L1 lv 1) from hp3.ext (by simp [L1, PS.join, PS.on, upd, PS.cells, HV.out]))
        clear hC hp hp3 hO
        go_wp2_with fail
        go_roundw
        case rel => exact ⟨1, by omega, by omega, rfl, HP.out, HO.out⟩
        case measure => simp [intOf]
    · have hbit : (bits BinOp.and IntKind.u8 (live / 2) 1 == 1) = lv 1 := (bit_1 live).trans (HLV.out 1)
      cases hv : lv 1
      · have HV := Lib.hid hv
        rw [hv] at hbit
        have HP := Lib.hid (show PhaseAt wr b (L1 lv 2) from hp.ext (by simp [L1, PS.cells, HV.out]))
        clear hv hp
        go_wp2_with fail
        go_roundw
        case rel => exact ⟨2, by omega, by omega, rfl, HP.out, hO⟩
        case measure => simp [intOf]
      · have HV := Lib.hid hv
        rw [hv] at hbit
        clear hv
        go_wp2_with fail
        refine (PhJoin hp 1 (by omega) (by omega)).mono ?_
        rintro e w3 ⟨rfl, hp3, hC⟩
        have HO := Lib.hid (hO.same hC)
        have HP := Lib.hid (show PhaseAt w3 b (L1 lv 2) from hp3.ext (by simp [L1, PS.join, PS.on, upd, PS.cells, HV.out]))
        clear hC hp hp3 hO
        go_wp2_with fail
        go_roundw
        case rel => exact ⟨2, by omega, by omega, rfl, HP.out, HO.out⟩
        case measure => simp [intOf]
    · have hbit : (bits BinOp.and IntKind.u8 (live / 4) 1 == 1) = lv 2 := (bit_2 live).trans (HLV.out 2)
      cases hv : lv 2
      · have HV := Lib.hid hv
        rw [hv] at hbit
        have HP := Lib.hid (show PhaseAt wr b (L1 lv 3) from hp.ext (by simp [L1, PS.cells, HV.out]))
        clear hv hp
        go_wp2_with fail
        go_roundw
        case rel => exact ⟨3, by omega, by omega, rfl, HP.out, hO⟩
        case measure => simp [intOf]
      · have HV := Lib.hid hv
        rw [hv] at hbit
        clear hv
        go_wp2_with fail
        refine (PhJoin hp 2 (by omega) (by omega)).mono ?_
        rintro e w3 ⟨rfl, hp3, hC⟩
        have HO := Lib.hid (hO.same hC)
        have HP := Lib.hid (show PhaseAt w3 b (L1 lv 3) from hp3.ext (by simp [L1, PS.join, PS.on, upd, PS.cells, HV.out]))
        clear hC hp hp3 hO
        go_wp2_with fail
        go_roundw
        case rel => exact ⟨3, by omega, by omega, rfl, HP.out, HO.out⟩
        case measure => simp [intOf]
    · have hbit : (bits BinOp.and IntKind.u8 (live / 8) 1 == 1) = lv 3 := (bit_3 live).trans (HLV.out 3)
      cases hv : lv 3
      · have HV := Lib.hid hv
        rw [hv] at hbit
        have HP := Lib.hid (show PhaseAt wr b (L1 lv 4) from hp.ext (by simp [L1, PS.cells, HV.out]))
        clear hv hp
        go_wp2_with fail
        go_roundw
        case rel => exact ⟨4, by omega, by omega, rfl, HP.out, hO⟩
        case measure => simp [intOf]
      · have HV := Lib.hid hv
        rw [hv] at hbit
        clear hv
        go_wp2_with fail
        refine (PhJoin hp 3 (by omega) (by omega)).mono ?_
        rintro e w3 ⟨rfl, hp3, hC⟩
        have HO := Lib.hid (hO.same hC)
        have HP := Lib.hid (show PhaseAt w3 b (L1 lv 4) from hp3.ext (by simp [L1, PS.join, PS.on, upd, PS.cells, HV.out]))
        clear hC hp hp3 hO
        go_wp2_with fail
        go_roundw
        case rel => exact ⟨4, by omega, by omega, rfl, HP.out, HO.out⟩
        case measure => simp [intOf]
    · have HP := Lib.hid (show PhaseAt wr b (CI lv (fun _ => false) 0) from hp.ext (by simp [L1, CI, PS.cells]))
      have HO := Lib.hid hO
      have hm0 : 0 ≤ n % 6 := by omega
      have hm1 : n % 6 ≤ 5 := by omega
      clear hp hO
      go_wp2_with fail
      go_loopw [28] (fun i wr => ∃ (k : Int) (ak : Int → Bool), 0 ≤ k ∧ k ≤ n % 6 ∧ i = .int .i64 k ∧ PhaseAt wr b (CI lv ak k) ∧ Own w [b] wr) (fun i _ => (n % 6 - intOf i).toNat)
      case atStart => exact ⟨0, _, by omega, by omega, rfl, HP.out, HO.out⟩
      case round =>
        obtain ⟨k, ak, hk0, hkn, rfl, hp, hO⟩ := hrel
        clear HP HO
        by_cases hlt : k < n % 6
        · go_wp2_with fail
          refine (PhNow hp).mono ?_
          rintro e w' ⟨rfl, rfl⟩
          rw [show (CI lv ak k).now = 0 from rfl]
          go_wp2_with fail
          refine (PhMarkedNo hp (by simp [CI])).mono ?_
          rintro e w' ⟨rfl, rfl⟩
          go_wp2_with fail
          refine (PhSweptNo hp (by simp [CI])).mono ?_
          rintro e w' ⟨rfl, rfl⟩
          go_wp2_with fail
          refine (PhAdvanceNo hp (.inr (by rfl))).mono ?_
          rintro e w4 ⟨rfl, hp4, hC⟩
          replace hO := hO.same hC
          clear hC
          go_wp2_with fail
          refine (PhBeginYes hp4 rfl).mono ?_
          rintro e w5 ⟨rfl, hp5, hC⟩
          have HP := Lib.hid (show PhaseAt w5 b (CP lv k 1 0) from hp5.ext (by simp [CP, CI, PS.anew, PS.cells]))
          have HO := Lib.hid (hO.same hC)
          clear hC hp5 hp hO hp4
          go_wp2_with fail
          go_loopg [] 3 (fun g wr => ∃ p : Int, 1 ≤ p ∧ p ≤ 3 ∧ (g : Int) = 4 - p ∧ PhaseAt wr b (CP lv k p 0) ∧ Own w [b] wr)
          case atStart => exact ⟨1, by omega, by omega, rfl, HP.out, HO.out⟩
          case round =>
            obtain ⟨p, hp1, hp3, hgk, hp, hO⟩ := hrel
            have HGK := Lib.hid hgk
            clear HP HO hgk
            by_cases hp4 : p < 3
            · go_wp2_with fail
              refine (PhNow hp).mono ?_
              rintro e w' ⟨rfl, rfl⟩
              rw [show (CP lv k p 0).now = p from rfl]
              go_wp2_with fail
              refine (PhNow hp).mono ?_
              rintro e w' ⟨rfl, rfl⟩
              rw [show (CP lv k p 0).now = p from rfl]
              go_wp2_with fail
              go_loopw [56] (fun i wx => ∃ j : Int, 0 ≤ j ∧ j ≤ 4 ∧ i = .int .i64 j ∧ PhaseAt wx b (CP lv k p j) ∧ Own w [b] wx) (fun i _ => (4 - intOf i).toNat)
              case atStart => exact ⟨0, by omega, by omega, rfl, hp, hO⟩
              case round =>
                obtain ⟨j, hj0, hj4, rfl, hpx, hOx⟩ := hrel
                clear hp hO
                by_cases hjl : j < 4
                · have hsh : (CP lv k p j).shaking = true := by rcases (by omega : p = 1 ∨ p = 2) with rfl | rfl <;> rfl
                  have hwt : (CP lv k p j).wants j = lv j := by unfold PS.wants; rw [hsh]; simp [CP]
                  cases hv : lv j
                  · have HW := Lib.hid (hwt.trans hv)
                    have HV := Lib.hid hv
                    clear hsh hwt hv
                    go_wp2_with fail
                    refine (PhAckNo hpx j hj0 hjl HW.out).mono ?_
                    rintro e w6 ⟨rfl, hp6, hC⟩
                    have HO := Lib.hid (hOx.same hC)
                    have HP := Lib.hid (show PhaseAt w6 b (CP lv k p (j + 1)) from hp6.ext (by
                      rcases (by omega : j = 0 ∨ j = 1 ∨ j = 2 ∨ j = 3) with rfl | rfl | rfl | rfl <;> simp [CP, PS.cells, HV.out]))
                    clear hC hp6 hpx hOx
                    go_wp2_with fail
                    go_roundw
                    case rel => exact ⟨j + 1, by omega, by omega, rfl, HP.out, HO.out⟩
                    case measure => simp [intOf]; omega
                  · have HW := Lib.hid (hwt.trans hv)
                    have HV := Lib.hid hv
                    clear hsh hwt hv
                    go_wp2_with fail
                    refine (PhAckYes hpx j hj0 hjl HW.out).mono ?_
                    rintro e w6 ⟨rfl, hp6, hC⟩
                    have HO := Lib.hid (hOx.same hC)
                    have HP := Lib.hid (show PhaseAt w6 b (CP lv k p (j + 1)) from hp6.ext (by
                      rcases (by omega : p = 1 ∨ p = 2) with rfl | rfl <;> rcases (by omega : j = 0 ∨ j = 1 ∨ j = 2 ∨ j = 3) with rfl | rfl | rfl | rfl <;> simp [CP, PS.ack, upd, PS.cells, HV.out]))
                    clear hC hp6 hpx hOx
                    go_wp2_with fail
                    go_roundw
                    case rel => exact ⟨j + 1, by omega, by omega, rfl, HP.out, HO.out⟩
                    case measure => simp [intOf]; omega
                · obtain rfl : j = 4 := by omega
                  have hsh : (CP lv k p 4).shaking = true := by rcases (by omega : p = 1 ∨ p = 2) with rfl | rfl <;> rfl
                  have hst : (CP lv k p 4).still = true := by
                    rw [still_iff]
                    intro t h0 h4
                    simp only [PS.wants, CP]
                    cases lv t <;> simp [h4]
                  go_wp2_with fail
                  refine (PhAdvanceYes hpx hst hsh (by simp only [CP]; omega) (by simp only [CP]; omega)).mono ?_
                  rintro e w6 ⟨rfl, hp6, hC⟩
                  have HO := Lib.hid (hOx.same hC)
                  have HP := Lib.hid (show PhaseAt w6 b (CP lv k (p + 1) 0) from hp6.ext (by
                    rcases (by omega : p = 1 ∨ p = 2) with rfl | rfl <;> simp [CP, PS.next, PS.cells] <;> omega))
                  clear hC hp6 hpx hOx hsh hst
                  go_wp2_with fail
                  refine (PhNow HP.out).mono ?_
                  rintro e w' ⟨rfl, rfl⟩
                  rw [show (CP lv k (p + 1) 0).now = p + 1 from rfl]
                  go_wp2_with fail
                  go_roundg (gk - 1)
                  case rel => exact ⟨p + 1, by omega, by omega, by have := HGK.out; omega, HP.out, HO.out⟩
                  case measure => have := HGK.out; omega
            · obtain rfl : p = 3 := by omega
              go_wp2_with fail
              refine (PhNow hp).mono ?_
              rintro e w' ⟨rfl, rfl⟩
              rw [show (CP lv k 3 0).now = 3 from rfl]
              go_wp2_with fail
              refine (PhSweptNo hp (by simp [CP])).mono ?_
              rintro e w' ⟨rfl, rfl⟩
              go_wp2_with fail
              refine (PhBeginNo hp (by simp [CP])).mono ?_
              rintro e w' ⟨rfl, rfl⟩
              go_wp2_with fail
              refine (PhMarkedYes hp rfl).mono ?_
              rintro e w4 ⟨rfl, hp4, hC⟩
              have HO4 := Lib.hid (hO.same hC)
              clear hC hp hO
              go_wp2_with fail
              refine (PhNow hp4).mono ?_
              rintro e w' ⟨rfl, rfl⟩
              rw [show ((CP lv k 3 0).mark).now = 4 from rfl]
              go_wp2_with fail
              refine (PhMarkedNo hp4 (by simp [PS.mark])).mono ?_
              rintro e w' ⟨rfl, rfl⟩
              go_wp2_with fail
              refine (PhBeginNo hp4 (by simp [PS.mark])).mono ?_
              rintro e w' ⟨rfl, rfl⟩
              go_wp2_with fail
              refine (PhSweptYes hp4 rfl).mono ?_
              rintro e w5 ⟨rfl, hp5, hC⟩
              have HO5 := Lib.hid (HO4.out.same hC)
              clear hC hp4 HO4
              go_wp2_with fail
              refine (PhRounds hp5).mono ?_
              rintro e w' ⟨rfl, rfl⟩
              rw [show (((CP lv k 3 0).mark).anew 0).rounds = 2 * k + (3 - 1) from rfl]
              rw [show 2 * k + (3 - 1 : Int) = 2 * k + 2 by omega]
              have HP5 := Lib.hid (show PhaseAt w5 b (CI lv (fun _ => false) (k + 1)) from hp5.ext (by simp [CP, CI, PS.mark, PS.anew, PS.cells]; omega))
              clear hp5
              go_wp2_with fail
              go_roundw
              case rel => exact ⟨k + 1, _, by omega, by omega, rfl, HP5.out, HO5.out⟩
              case measure => simp [intOf]; omega
        · obtain rfl : k = n % 6 := by omega
          have HO := Lib.hid hO
          go_wp2_with fail
          refine (PhNow hp).mono ?_
          rintro e w' ⟨rfl, rfl⟩
          go_wp2_with fail
          go_ret
          exact ⟨rfl, HO.out.below⟩

theorem phaseCycles_walk (live n : Int) (w : World) (hl : (Lit.int .u8 live).wf = true) (hn : (Lit.int .u8 n).wf = true) :
    Calls Try.prog 14 #[.int .u8 live, .int .u8 n] w fun e w' => e = .returned (.bool true) ∧ Below w.heap.size w w' :=
  phaseCycles_core live n (bitZ live) (fun _ => rfl) w (bounds_u8 hl).1 (bounds_u8 hl).2 (bounds_u8 hn).1 (bounds_u8 hn).2

end Go.Proofs.Ytamecbanginjmaa
