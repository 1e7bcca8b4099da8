/-
  The walk of PhaseLeaves. Conditions: as the theorem says.
-/
import Derived.Test.YtamecbanginjmaaPhaseLaw
import Derived.Test.YtamecbanginjmaaOpen
import Derived.Test.YtamecbanginjmaaByteBits
import Derived.BigQuiet
namespace Go.Proofs.Ytamecbanginjmaa
open Go.RowKit Go.ChangeShapes

theorem PhaseAt.ext {w : World} {b : Nat} {s s' : PS} (h : PhaseAt w b s) (e : s.cells = s'.cells) : PhaseAt w b s' := Blk.eq h e

def L1 (lv : Int → Bool) (k : Int) : PS := ⟨0, 0, fun i => decide (i < k) && lv i, fun _ => false, fun _ => false⟩
def L2 (lv av : Int → Bool) (k : Int) : PS := ⟨1, 0, fun i => if i < k then lv i && av i else lv i, fun i => decide (i < k) && lv i && av i, fun i => decide (i < k) && lv i && av i⟩
def L3 (lv av jv : Int → Bool) (k : Int) : PS := ⟨1, 0, fun i => (lv i && av i) || (decide (i < k) && jv i), fun i => (lv i && av i) || (decide (i < k) && jv i), fun i => (lv i && av i) || (decide (i < k) && jv i)⟩
def L4 (lv av jv : Int → Bool) : PS := ⟨2, 1, fun i => (lv i && av i) || jv i, fun i => (lv i && av i) || jv i, fun _ => false⟩

set_option maxRecDepth 100000 in
set_option maxHeartbeats 4000000 in
theorem phaseLeaves_core (live acks joins : Int) (lv av jv : Int → Bool) (hlv : ∀ t, bitZ live t = lv t) (hav : ∀ t, bitZ acks t = av t) (hjv : ∀ t, bitZ joins t = jv t)
    (w : World) (hl0 : 0 ≤ live) (hl1 : live ≤ 255) (ha0 : 0 ≤ acks) (ha1 : acks ≤ 255) (hj0 : 0 ≤ joins) (hj1 : joins ≤ 255) :
    Calls Try.prog 13 #[.int .u8 live, .int .u8 acks, .int .u8 joins] w fun e w' => e = .returned (.bool true) ∧ Below w.heap.size w w' := by
  have hO := Own.start w
  have HLV := Lib.hid hlv
  have HAV := Lib.hid hav
  have HJV := Lib.hid hjv
  have hx := and_byte hl0 hl1 ha0 ha1
  have HXV := Lib.hid (fun (t : Int) (ht : 0 ≤ t) => (bit_and hl0 hl1 ha0 ha1 ht).trans (by rw [hlv, hav]))
  have hx0 := hx.1
  have hx1 := hx.2
  have hy := or_byte hx0 hx1 hj0 hj1
  have HYV := Lib.hid (fun (t : Int) (ht : 0 ≤ t) => (bit_or hx0 hx1 hj0 hj1 ht).trans (by rw [HXV.out t ht, hjv]))
  have hy0 := hy.1
  have hy1 := hy.2
  clear hx hy hlv hav hjv
  go_enter Try.func13, Try.ntmps13
  go_wp2_with fail
  refine (fit17 _).mono ?_
  rintro e w1 ⟨rfl, hC⟩
  replace hO := hO.same hC
  clear hC
  go_wp2_with fail
  refine (PhNew _).mono ?_
  rintro e w2 ⟨b, rfl, hb, hp, hC⟩
  replace hO := hO.step hC (F' := [b]) (by intro x hx; simp at hx; omega)
  have hp1 : PhaseAt w2 b (L1 lv 0) := hp.ext (by simp [PS.zero, L1, PS.cells])
  clear hC hb hp
  go_wp2_with fail
  go_loopw [16] (fun i wr => ∃ k : Int, 0 ≤ k ∧ k ≤ 4 ∧ i = .int .i64 k ∧ PhaseAt wr b (L1 lv k) ∧ Own w [b] wr) (fun i _ => (4 - intOf i).toNat)
  case atStart => exact ⟨0, by omega, by omega, rfl, hp1, hO⟩
  case round =>
    obtain ⟨k, hk0, hk4, rfl, hp, hO⟩ := hrel
    clear hp1
    rcases (by omega : k = 0 ∨ k = 1 ∨ k = 2 ∨ k = 3 ∨ k = 4) with rfl | rfl | rfl | rfl | rfl
    · have hbit : (bits BinOp.and IntKind.u8 live 1 == 1) = lv 0 := (bit_0 live).trans (HLV.out 0)
      cases hv : lv 0
      · have HV := Lib.hid hv
        rw [hv] at hbit
        have HP := Lib.hid (show PhaseAt wr b (L1 lv 1) from hp.ext (by simp [L1, PS.cells, HV.out]))
        clear hv hp
        go_wp2_with fail
        go_roundw
        case rel => exact ⟨1, by omega, by omega, rfl, HP.out, hO⟩
        case measure => simp [intOf]
      · have HV := Lib.hid hv
        rw [hv] at hbit
        clear hv
        go_wp2_with fail
        refine (PhJoin hp 0 (by omega) (by omega)).mono ?_
        rintro e w3 ⟨rfl, hp3, hC⟩
        have HO := Lib.hid (hO.same hC)
        have HP := Lib.hid (show PhaseAt w3 b (L1 lv 1) from hp3.ext (by simp [L1, PS.join, PS.on, upd, PS.cells, HV.out]))
        clear hC hp hp3 hO
        go_wp2_with fail
        go_roundw
        case rel => exact ⟨1, by omega, by omega, rfl, HP.out, HO.out⟩
        case measure => simp [intOf]
    · have hbit : (bits BinOp.and IntKind.u8 (live / 2) 1 == 1) = lv 1 := (bit_1 live).trans (HLV.out 1)
      cases hv : lv 1
      · have HV := Lib.hid hv
        rw [hv] at hbit
        have HP := Lib.hid (show PhaseAt wr b (L1 lv 2) from hp.ext (by simp [L1, PS.cells, HV.out]))
        clear hv hp
        go_wp2_with fail
        go_roundw
        case rel => exact ⟨2, by omega, by omega, rfl, HP.out, hO⟩
        case measure => simp [intOf]
      · have HV := Lib.hid hv
        rw [hv] at hbit
        clear hv
        go_wp2_with fail
        refine (PhJoin hp 1 (by omega) (by omega)).mono ?_
        rintro e w3 ⟨rfl, hp3, hC⟩
        have HO := Lib.hid (hO.same hC)
        have HP := Lib.hid (show PhaseAt w3 b (L1 lv 2) from hp3.ext (by simp [L1, PS.join, PS.on, upd, PS.cells, HV.out]))
        clear hC hp hp3 hO
        go_wp2_with fail
        go_roundw
        case rel => exact ⟨2, by omega, by omega, rfl, HP.out, HO.out⟩
        case measure => simp [intOf]
    · have hbit : (bits BinOp.and IntKind.u8 (live / 4) 1 == 1) = lv 2 := (bit_2 live).trans (HLV.out 2)
      cases hv : lv 2
      · have HV := Lib.hid hv
        rw [hv] at hbit
        have HP := Lib.hid (show PhaseAt wr b (L1 lv 3) from hp.ext (by simp [L1, PS.cells, HV.out]))
        clear hv hp
        go_wp2_with fail
        go_roundw
        case rel => exact ⟨3, by omega, by omega, rfl, HP.out, hO⟩
        case measure => simp [intOf]
      · have HV := Lib.hid hv
        rw [hv] at hbit
        clear hv
        go_wp2_with fail
        refine (PhJoin hp 2 (by omega) (by omega)).mono ?_
        rintro e w3 ⟨rfl, hp3, hC⟩
        have HO := Lib.hid (hO.same hC)
        have HP := Lib.hid (show PhaseAt w3 b (L1 lv 3) from hp3.ext (by simp [L1, PS.join, PS.on, upd, PS.cells, HV.out]))
        clear hC hp hp3 hO
        go_wp2_with fail
        go_roundw
        case rel => exact ⟨3, by omega, by omega, rfl, HP.out, HO.out⟩
        case measure => simp [intOf]
    · have hbit : (bits BinOp.and IntKind.u8 (live / 8) 1 == 1) = lv 3 := (bit_3 live).trans (HLV.out 3)
      cases hv : lv 3
      · have HV := Lib.hid hv
        rw [hv] at hbit
        have HP := Lib.hid (show PhaseAt wr b (L1 lv 4) from hp.ext (by simp [L1, PS.cells, HV.out]))
        clear hv hp
        go_wp2_with fail
        go_roundw
        case rel => exact ⟨4, by omega, by omega, rfl, HP.out, hO⟩
        case measure => simp [intOf]
      · have HV := Lib.hid hv
        rw [hv] at hbit
        clear hv
        go_wp2_with fail
        refine (PhJoin hp 3 (by omega) (by omega)).mono ?_
        rintro e w3 ⟨rfl, hp3, hC⟩
        have HO := Lib.hid (hO.same hC)
        have HP := Lib.hid (show PhaseAt w3 b (L1 lv 4) from hp3.ext (by simp [L1, PS.join, PS.on, upd, PS.cells, HV.out]))
        clear hC hp hp3 hO
        go_wp2_with fail
        go_roundw
        case rel => exact ⟨4, by omega, by omega, rfl, HP.out, HO.out⟩
        case measure => simp [intOf]
    · go_wp2_with fail
      refine (PhBeginYes hp rfl).mono ?_
      rintro e w3 ⟨rfl, hp3, hC⟩
      have HO := Lib.hid (hO.same hC)
      have HP := Lib.hid (show PhaseAt w3 b (L2 lv av 0) from hp3.ext (by simp [L1, L2, PS.anew, PS.cells]))
      clear hC hp hp3 hO
      go_wp2_with fail
      go_loopw [30] (fun i wr => ∃ k : Int, 0 ≤ k ∧ k ≤ 4 ∧ i = .int .i64 k ∧ PhaseAt wr b (L2 lv av k) ∧ Own w [b] wr) (fun i _ => (4 - intOf i).toNat)
      case atStart => exact ⟨0, by omega, by omega, rfl, HP.out, HO.out⟩
      case round =>
        obtain ⟨k, hk0, hk4, rfl, hp, hO⟩ := hrel
        clear HP HO
        rcases (by omega : k = 0 ∨ k = 1 ∨ k = 2 ∨ k = 3 ∨ k = 4) with rfl | rfl | rfl | rfl | rfl
        · have hbit : (bits BinOp.and IntKind.u8 acks 1 == 1) = av 0 := (bit_0 acks).trans (HAV.out 0)
          cases hv : av 0
          · have HV := Lib.hid hv
            rw [hv] at hbit
            clear hv
            go_wp2_with fail
            refine (PhLeave hp 0 (by omega) (by omega)).mono ?_
            rintro e w3 ⟨rfl, hp3, hC⟩
            have HO := Lib.hid (hO.same hC)
            have HP := Lib.hid (show PhaseAt w3 b (L2 lv av 1) from hp3.ext (by simp [L2, PS.leave, upd, PS.cells, HV.out]))
            clear hC hp hp3 hO
            go_wp2_with fail
            go_roundw
            case rel => exact ⟨1, by omega, by omega, rfl, HP.out, HO.out⟩
            case measure => simp [intOf]
          · have HV := Lib.hid hv
            rw [hv] at hbit
            clear hv
            cases hw : lv 0
            · have HW := Lib.hid hw
              clear hw
              go_wp2_with fail
              refine (PhAckNo hp 0 (by omega) (by omega) (by simp [PS.wants, PS.shaking, L2, HW.out])).mono ?_
              rintro e w3 ⟨rfl, hp3, hC⟩
              have HO := Lib.hid (hO.same hC)
              have HP := Lib.hid (show PhaseAt w3 b (L2 lv av 1) from hp3.ext (by simp [L2, PS.cells, HV.out, HW.out]))
              clear hC hp hp3 hO
              go_wp2_with fail
              go_roundw
              case rel => exact ⟨1, by omega, by omega, rfl, HP.out, HO.out⟩
              case measure => simp [intOf]
            · have HW := Lib.hid hw
              clear hw
              go_wp2_with fail
              refine (PhAckYes hp 0 (by omega) (by omega) (by simp [PS.wants, PS.shaking, L2, HW.out])).mono ?_
              rintro e w3 ⟨rfl, hp3, hC⟩
              have HO := Lib.hid (hO.same hC)
              have HP := Lib.hid (show PhaseAt w3 b (L2 lv av 1) from hp3.ext (by simp [L2, PS.ack, upd, PS.cells, HV.out, HW.out]))
              clear hC hp hp3 hO
              go_wp2_with fail
              go_roundw
              case rel => exact ⟨1, by omega, by omega, rfl, HP.out, HO.out⟩
              case measure => simp [intOf]
        · have hbit : (bits BinOp.and IntKind.u8 (acks / 2) 1 == 1) = av 1 := (bit_1 acks).trans (HAV.out 1)
          cases hv : av 1
          · have HV := Lib.hid hv
            rw [hv] at hbit
            clear hv
            go_wp2_with fail
            refine (PhLeave hp 1 (by omega) (by omega)).mono ?_
            rintro e w3 ⟨rfl, hp3, hC⟩
            have HO := Lib.hid (hO.same hC)
            have HP := Lib.hid (show PhaseAt w3 b (L2 lv av 2) from hp3.ext (by simp [L2, PS.leave, upd, PS.cells, HV.out]))
            clear hC hp hp3 hO
            go_wp2_with fail
            go_roundw
            case rel => exact ⟨2, by omega, by omega, rfl, HP.out, HO.out⟩
            case measure => simp [intOf]
          · have HV := Lib.hid hv
            rw [hv] at hbit
            clear hv
            cases hw : lv 1
            · have HW := Lib.hid hw
              clear hw
              go_wp2_with fail
              refine (PhAckNo hp 1 (by omega) (by omega) (by simp [PS.wants, PS.shaking, L2, HW.out])).mono ?_
              rintro e w3 ⟨rfl, hp3, hC⟩
              have HO := Lib.hid (hO.same hC)
              have HP := Lib.hid (show PhaseAt w3 b (L2 lv av 2) from hp3.ext (by simp [L2, PS.cells, HV.out, HW.out]))
              clear hC hp hp3 hO
              go_wp2_with fail
              go_roundw
              case rel => exact ⟨2, by omega, by omega, rfl, HP.out, HO.out⟩
              case measure => simp [intOf]
            · have HW := Lib.hid hw
              clear hw
              go_wp2_with fail
              refine (PhAckYes hp 1 (by omega) (by omega) (by simp [PS.wants, PS.shaking, L2, HW.out])).mono ?_
              rintro e w3 ⟨rfl, hp3, hC⟩
              have HO := Lib.hid (hO.same hC)
              have HP := Lib.hid (show PhaseAt w3 b (L2 lv av 2) from hp3.ext (by simp [L2, PS.ack, upd, PS.cells, HV.out, HW.out]))
              clear hC hp hp3 hO
              go_wp2_with fail
              go_roundw
              case rel => exact ⟨2, by omega, by omega, rfl, HP.out, HO.out⟩
              case measure => simp [intOf]
        · have hbit : (bits BinOp.and IntKind.u8 (acks / 4) 1 == 1) = av 2 := (bit_2 acks).trans (HAV.out 2)
          cases hv : av 2
          · have HV := Lib.hid hv
            rw [hv] at hbit
            clear hv
            go_wp2_with fail
            refine (PhLeave hp 2 (by omega) (by omega)).mono ?_
            rintro e w3 ⟨rfl, hp3, hC⟩
            have HO := Lib.hid (hO.same hC)
            have HP := Lib.hid (show PhaseAt w3 b (L2 lv av 3) from hp3.ext (by simp [L2, PS.leave, upd, PS.cells, HV.out]))
            clear hC hp hp3 hO
            go_wp2_with fail
            go_roundw
            case rel => exact ⟨3, by omega, by omega, rfl, HP.out, HO.out⟩
            case measure => simp [intOf]
          · have HV := Lib.hid hv
            rw [hv] at hbit
            clear hv
            cases hw : lv 2
            · have HW := Lib.hid hw
              clear hw
              go_wp2_with fail
              refine (PhAckNo hp 2 (by omega) (by omega) (by simp [PS.wants, PS.shaking, L2, HW.out])).mono ?_
              rintro e w3 ⟨rfl, hp3, hC⟩
              have HO := Lib.hid (hO.same hC)
              have HP := Lib.hid (show PhaseAt w3 b (L2 lv av 3) from hp3.ext (by simp [L2, PS.cells, HV.out, HW.out]))
              clear hC hp hp3 hO
              go_wp2_with fail
              go_roundw
              case rel => exact ⟨3, by omega, by omega, rfl, HP.out, HO.out⟩
              case measure => simp [intOf]
            · have HW := Lib.hid hw
              clear hw
              go_wp2_with fail
              refine (PhAckYes hp 2 (by omega) (by omega) (by simp [PS.wants, PS.shaking, L2, HW.out])).mono ?_
              rintro e w3 ⟨rfl, hp3, hC⟩
              have HO := Lib.hid (hO.same hC)
              have HP := Lib.hid (show PhaseAt w3 b (L2 lv av 3) from hp3.ext (by simp [L2, PS.ack, upd, PS.cells, HV.out, HW.out]))
              clear hC hp hp3 hO
              go_wp2_with fail
              go_roundw
              case rel => exact ⟨3, by omega, by omega, rfl, HP.out, HO.out⟩
              case measure => simp [intOf]
        · have hbit : (bits BinOp.and IntKind.u8 (acks / 8) 1 == 1) = av 3 := (bit_3 acks).trans (HAV.out 3)
          cases hv : av 3
          · have HV := Lib.hid hv
            rw [hv] at hbit
            clear hv
            go_wp2_with fail
            refine (PhLeave hp 3 (by omega) (by omega)).mono ?_
            rintro e w3 ⟨rfl, hp3, hC⟩
            have HO := Lib.hid (hO.same hC)
            have HP := Lib.hid (show PhaseAt w3 b (L2 lv av 4) from hp3.ext (by simp [L2, PS.leave, upd, PS.cells, HV.out]))
            clear hC hp hp3 hO
            go_wp2_with fail
            go_roundw
            case rel => exact ⟨4, by omega, by omega, rfl, HP.out, HO.out⟩
            case measure => simp [intOf]
          · have HV := Lib.hid hv
            rw [hv] at hbit
            clear hv
            cases hw : lv 3
            · have HW := Lib.hid hw
              clear hw
              go_wp2_with fail
              refine (PhAckNo hp 3 (by omega) (by omega) (by simp [PS.wants, PS.shaking, L2, HW.out])).mono ?_
              rintro e w3 ⟨rfl, hp3, hC⟩
              have HO := Lib.hid (hO.same hC)
              have HP := Lib.hid (show PhaseAt w3 b (L2 lv av 4) from hp3.ext (by simp [L2, PS.cells, HV.out, HW.out]))
              clear hC hp hp3 hO
              go_wp2_with fail
              go_roundw
              case rel => exact ⟨4, by omega, by omega, rfl, HP.out, HO.out⟩
              case measure => simp [intOf]
            · have HW := Lib.hid hw
              clear hw
              go_wp2_with fail
              refine (PhAckYes hp 3 (by omega) (by omega) (by simp [PS.wants, PS.shaking, L2, HW.out])).mono ?_
              rintro e w3 ⟨rfl, hp3, hC⟩
              have HO := Lib.hid (hO.same hC)
              have HP := Lib.hid (show PhaseAt w3 b (L2 lv av 4) from hp3.ext (by simp [L2, PS.ack, upd, PS.cells, HV.out, HW.out]))
              clear hC hp hp3 hO
              go_wp2_with fail
              go_roundw
              case rel => exact ⟨4, by omega, by omega, rfl, HP.out, HO.out⟩
              case measure => simp [intOf]
        · have HP := Lib.hid (show PhaseAt wr b (L3 lv av jv 0) from hp.ext (by simp [L2, L3, PS.cells]))
          clear hp
          go_wp2_with fail
          go_loopw [45] (fun i wr => ∃ k : Int, 0 ≤ k ∧ k ≤ 4 ∧ i = .int .i64 k ∧ PhaseAt wr b (L3 lv av jv k) ∧ Own w [b] wr) (fun i _ => (4 - intOf i).toNat)
          case atStart => exact ⟨0, by omega, by omega, rfl, HP.out, hO⟩
          case round =>
            obtain ⟨k, hk0, hk4, rfl, hp, hO⟩ := hrel
            clear HP
            rcases (by omega : k = 0 ∨ k = 1 ∨ k = 2 ∨ k = 3 ∨ k = 4) with rfl | rfl | rfl | rfl | rfl
            · have hbit : (bits BinOp.and IntKind.u8 joins 1 == 1) = jv 0 := (bit_0 joins).trans (HJV.out 0)
              cases hv : jv 0
              · have HV := Lib.hid hv
                rw [hv] at hbit
                have HP := Lib.hid (show PhaseAt wr b (L3 lv av jv 1) from hp.ext (by simp [L3, PS.cells, HV.out]))
                clear hv hp
                go_wp2_with fail
                go_roundw
                case rel => exact ⟨1, by omega, by omega, rfl, HP.out, hO⟩
                case measure => simp [intOf]
              · have HV := Lib.hid hv
                rw [hv] at hbit
                clear hv
                go_wp2_with fail
                refine (PhJoin hp 0 (by omega) (by omega)).mono ?_
                rintro e w3 ⟨rfl, hp3, hC⟩
                have HO := Lib.hid (hO.same hC)
                have HP := Lib.hid (show PhaseAt w3 b (L3 lv av jv 1) from hp3.ext (by
                  cases hq : (lv 0 && av 0) <;> simp [L3, PS.join, PS.on, upd, PS.cells, HV.out, hq]))
                clear hC hp hp3 hO
                go_wp2_with fail
                go_roundw
                case rel => exact ⟨1, by omega, by omega, rfl, HP.out, HO.out⟩
                case measure => simp [intOf]
            · have hbit : (bits BinOp.and IntKind.u8 (joins / 2) 1 == 1) = jv 1 := (bit_1 joins).trans (HJV.out 1)
              cases hv : jv 1
              · have HV := Lib.hid hv
                rw [hv] at hbit
                have HP := Lib.hid (show PhaseAt wr b (L3 lv av jv 2) from hp.ext (by simp [L3, PS.cells, HV.out]))
                clear hv hp
                go_wp2_with fail
                go_roundw
                case rel => exact ⟨2, by omega, by omega, rfl, HP.out, hO⟩
                case measure => simp [intOf]
              · have HV := Lib.hid hv
                rw [hv] at hbit
                clear hv
                go_wp2_with fail
                refine (PhJoin hp 1 (by omega) (by omega)).mono ?_
                rintro e w3 ⟨rfl, hp3, hC⟩
                have HO := Lib.hid (hO.same hC)
                have HP := Lib.hid (show PhaseAt w3 b (L3 lv av jv 2) from hp3.ext (by
                  cases hq : (lv 1 && av 1) <;> simp [L3, PS.join, PS.on, upd, PS.cells, HV.out, hq]))
                clear hC hp hp3 hO
                go_wp2_with fail
                go_roundw
                case rel => exact ⟨2, by omega, by omega, rfl, HP.out, HO.out⟩
                case measure => simp [intOf]
            · have hbit : (bits BinOp.and IntKind.u8 (joins / 4) 1 == 1) = jv 2 := (bit_2 joins).trans (HJV.out 2)
              cases hv : jv 2
              · have HV := Lib.hid hv
                rw [hv] at hbit
                have HP := Lib.hid (show PhaseAt wr b (L3 lv av jv 3) from hp.ext (by simp [L3, PS.cells, HV.out]))
                clear hv hp
                go_wp2_with fail
                go_roundw
                case rel => exact ⟨3, by omega, by omega, rfl, HP.out, hO⟩
                case measure => simp [intOf]
              · have HV := Lib.hid hv
                rw [hv] at hbit
                clear hv
                go_wp2_with fail
                refine (PhJoin hp 2 (by omega) (by omega)).mono ?_
                rintro e w3 ⟨rfl, hp3, hC⟩
                have HO := Lib.hid (hO.same hC)
                have HP := Lib.hid (show PhaseAt w3 b (L3 lv av jv 3) from hp3.ext (by
                  cases hq : (lv 2 && av 2) <;> simp [L3, PS.join, PS.on, upd, PS.cells, HV.out, hq]))
                clear hC hp hp3 hO
                go_wp2_with fail
                go_roundw
                case rel => exact ⟨3, by omega, by omega, rfl, HP.out, HO.out⟩
                case measure => simp [intOf]
            · have hbit : (bits BinOp.and IntKind.u8 (joins / 8) 1 == 1) = jv 3 := (bit_3 joins).trans (HJV.out 3)
              cases hv : jv 3
              · have HV := Lib.hid hv
                rw [hv] at hbit
                have HP := Lib.hid (show PhaseAt wr b (L3 lv av jv 4) from hp.ext (by simp [L3, PS.cells, HV.out]))
                clear hv hp
                go_wp2_with fail
                go_roundw
                case rel => exact ⟨4, by omega, by omega, rfl, HP.out, hO⟩
                case measure => simp [intOf]
              · have HV := Lib.hid hv
                rw [hv] at hbit
                clear hv
                go_wp2_with fail
                refine (PhJoin hp 3 (by omega) (by omega)).mono ?_
                rintro e w3 ⟨rfl, hp3, hC⟩
                have HO := Lib.hid (hO.same hC)
                have HP := Lib.hid (show PhaseAt w3 b (L3 lv av jv 4) from hp3.ext (by
                  cases hq : (lv 3 && av 3) <;> simp [L3, PS.join, PS.on, upd, PS.cells, HV.out, hq]))
                clear hC hp hp3 hO
                go_wp2_with fail
                go_roundw
                case rel => exact ⟨4, by omega, by omega, rfl, HP.out, HO.out⟩
                case measure => simp [intOf]
            · go_wp2_with fail
              go_loopw [57] (fun i wr => ∃ k : Int, 0 ≤ k ∧ k ≤ 4 ∧ i = .int .i64 k ∧ PhaseAt wr b (L3 lv av jv 4) ∧ Own w [b] wr) (fun i _ => (4 - intOf i).toNat)
              case atStart => exact ⟨0, by omega, by omega, rfl, hp, hO⟩
              case round =>
                obtain ⟨k, hk0, hk4, rfl, hp, hO⟩ := hrel
                rcases (by omega : k = 0 ∨ k = 1 ∨ k = 2 ∨ k = 3 ∨ k = 4) with rfl | rfl | rfl | rfl | rfl
                · have hbx : (bits BinOp.and IntKind.u8 (bits BinOp.and IntKind.u8 live acks) 1 == 1) = (lv 0 && av 0) := (bit_0 _).trans (HXV.out 0 (by omega))
                  have hbj : (bits BinOp.and IntKind.u8 joins 1 == 1) = jv 0 := (bit_0 joins).trans (HJV.out 0)
                  have HPW := Lib.hid (show (L3 lv av jv 4).wants 0 = false by simp only [PS.wants, L3, PS.shaking]; cases lv 0 <;> cases av 0 <;> cases jv 0 <;> rfl)
                  have HPA := Lib.hid (show (L3 lv av jv 4).armed 0 = ((lv 0 && av 0) || jv 0) by simp [L3])
                  cases hX : (lv 0 && av 0) <;> cases hj : jv 0
                  all_goals
                    rw [hX] at hbx
                    rw [hj] at hbj
                    rw [hX, hj] at HPA
                    clear hX hj
                    go_wp2_with fail
                    refine wp_region_grow (by kernel_rfl) (by kernel_rfl) ?_
                    repeat (go_big_quiet_step (first | (go_at_call 39; apply later_calls; refine (PhWants (hp.keep (Later.h _) (by simp)) 0 (by omega) (by omega)).mono ?_; rintro e w' ⟨rfl, hp', hc'⟩; rw [HPW.out]; exact ⟨rfl, hc'⟩) | (go_at_call 40; apply later_calls; refine (PhArmed (hp.keep (Later.h _) (by simp)) 0 (by omega) (by omega)).mono ?_; rintro e w' ⟨rfl, rfl⟩; rw [HPA.out]; exact ⟨rfl, Chg.refl _ _⟩)))
                    refine wpQuiet_nil ?_
                    rintro w3 ⟨⟨w4, hC4⟩, rfl⟩
                    have HP4 := Lib.hid (hp.keep hC4 (by simp))
                    have HO4 := Lib.hid (hO.same (hC4.mono (F' := [b]) (by simp)))
                    clear hC4 hp hO
                    go_wp2_with fail
                    go_roundw
                    case rel => exact ⟨1, by omega, by omega, rfl, HP4.out, HO4.out⟩
                    case measure => simp [intOf]
                · have hbx : (bits BinOp.and IntKind.u8 ((bits BinOp.and IntKind.u8 live acks) / 2) 1 == 1) = (lv 1 && av 1) := (bit_1 _).trans (HXV.out 1 (by omega))
                  have hbj : (bits BinOp.and IntKind.u8 (joins / 2) 1 == 1) = jv 1 := (bit_1 joins).trans (HJV.out 1)
                  have HPW := Lib.hid (show (L3 lv av jv 4).wants 1 = false by simp only [PS.wants, L3, PS.shaking]; cases lv 1 <;> cases av 1 <;> cases jv 1 <;> rfl)
                  have HPA := Lib.hid (show (L3 lv av jv 4).armed 1 = ((lv 1 && av 1) || jv 1) by simp [L3])
                  cases hX : (lv 1 && av 1) <;> cases hj : jv 1
                  all_goals
                    rw [hX] at hbx
                    rw [hj] at hbj
                    rw [hX, hj] at HPA
                    clear hX hj
                    go_wp2_with fail
                    refine wp_region_grow (by kernel_rfl) (by kernel_rfl) ?_
                    repeat (go_big_quiet_step (first | (go_at_call 39; apply later_calls; refine (PhWants (hp.keep (Later.h _) (by simp)) 1 (by omega) (by omega)).mono ?_; rintro e w' ⟨rfl, hp', hc'⟩; rw [HPW.out]; exact ⟨rfl, hc'⟩) | (go_at_call 40; apply later_calls; refine (PhArmed (hp.keep (Later.h _) (by simp)) 1 (by omega) (by omega)).mono ?_; rintro e w' ⟨rfl, rfl⟩; rw [HPA.out]; exact ⟨rfl, Chg.refl _ _⟩)))
                    refine wpQuiet_nil ?_
                    rintro w3 ⟨⟨w4, hC4⟩, rfl⟩
                    have HP4 := Lib.hid (hp.keep hC4 (by simp))
                    have HO4 := Lib.hid (hO.same (hC4.mono (F' := [b]) (by simp)))
                    clear hC4 hp hO
                    go_wp2_with fail
                    go_roundw
                    case rel => exact ⟨2, by omega, by omega, rfl, HP4.out, HO4.out⟩
                    case measure => simp [intOf]
                · have hbx : (bits BinOp.and IntKind.u8 ((bits BinOp.and IntKind.u8 live acks) / 4) 1 == 1) = (lv 2 && av 2) := (bit_2 _).trans (HXV.out 2 (by omega))
                  have hbj : (bits BinOp.and IntKind.u8 (joins / 4) 1 == 1) = jv 2 := (bit_2 joins).trans (HJV.out 2)
                  have HPW := Lib.hid (show (L3 lv av jv 4).wants 2 = false by simp only [PS.wants, L3, PS.shaking]; cases lv 2 <;> cases av 2 <;> cases jv 2 <;> rfl)
                  have HPA := Lib.hid (show (L3 lv av jv 4).armed 2 = ((lv 2 && av 2) || jv 2) by simp [L3])
                  cases hX : (lv 2 && av 2) <;> cases hj : jv 2
                  all_goals
                    rw [hX] at hbx
                    rw [hj] at hbj
                    rw [hX, hj] at HPA
                    clear hX hj
                    go_wp2_with fail
                    refine wp_region_grow (by kernel_rfl) (by kernel_rfl) ?_
                    repeat (go_big_quiet_step (first | (go_at_call 39; apply later_calls; refine (PhWants (hp.keep (Later.h _) (by simp)) 2 (by omega) (by omega)).mono ?_; rintro e w' ⟨rfl, hp', hc'⟩; rw [HPW.out]; exact ⟨rfl, hc'⟩) | (go_at_call 40; apply later_calls; refine (PhArmed (hp.keep (Later.h _) (by simp)) 2 (by omega) (by omega)).mono ?_; rintro e w' ⟨rfl, rfl⟩; rw [HPA.out]; exact ⟨rfl, Chg.refl _ _⟩)))
                    refine wpQuiet_nil ?_
                    rintro w3 ⟨⟨w4, hC4⟩, rfl⟩
                    have HP4 := Lib.hid (hp.keep hC4 (by simp))
                    have HO4 := Lib.hid (hO.same (hC4.mono (F' := [b]) (by simp)))
                    clear hC4 hp hO
                    go_wp2_with fail
                    go_roundw
                    case rel => exact ⟨3, by omega, by omega, rfl, HP4.out, HO4.out⟩
                    case measure => simp [intOf]
                · have hbx : (bits BinOp.and IntKind.u8 ((bits BinOp.and IntKind.u8 live acks) / 8) 1 == 1) = (lv 3 && av 3) := (bit_3 _).trans (HXV.out 3 (by omega))
                  have hbj : (bits BinOp.and IntKind.u8 (joins / 8) 1 == 1) = jv 3 := (bit_3 joins).trans (HJV.out 3)
                  have HPW := Lib.hid (show (L3 lv av jv 4).wants 3 = false by simp only [PS.wants, L3, PS.shaking]; cases lv 3 <;> cases av 3 <;> cases jv 3 <;> rfl)
                  have HPA := Lib.hid (show (L3 lv av jv 4).armed 3 = ((lv 3 && av 3) || jv 3) by simp [L3])
                  cases hX : (lv 3 && av 3) <;> cases hj : jv 3
                  all_goals
                    rw [hX] at hbx
                    rw [hj] at hbj
                    rw [hX, hj] at HPA
                    clear hX hj
                    go_wp2_with fail
                    refine wp_region_grow (by kernel_rfl) (by kernel_rfl) ?_
                    repeat (go_big_quiet_step (first | (go_at_call 39; apply later_calls; refine (PhWants (hp.keep (Later.h _) (by simp)) 3 (by omega) (by omega)).mono ?_; rintro e w' ⟨rfl, hp', hc'⟩; rw [HPW.out]; exact ⟨rfl, hc'⟩) | (go_at_call 40; apply later_calls; refine (PhArmed (hp.keep (Later.h _) (by simp)) 3 (by omega) (by omega)).mono ?_; rintro e w' ⟨rfl, rfl⟩; rw [HPA.out]; exact ⟨rfl, Chg.refl _ _⟩)))
                    refine wpQuiet_nil ?_
                    rintro w3 ⟨⟨w4, hC4⟩, rfl⟩
                    have HP4 := Lib.hid (hp.keep hC4 (by simp))
                    have HO4 := Lib.hid (hO.same (hC4.mono (F' := [b]) (by simp)))
                    clear hC4 hp hO
                    go_wp2_with fail
                    go_roundw
                    case rel => exact ⟨4, by omega, by omega, rfl, HP4.out, HO4.out⟩
                    case measure => simp [intOf]
                · have HP := Lib.hid hp
                  clear hp
                  go_wp2_with fail
                  refine (PhAdvanceYes HP.out (by
                    rw [still_iff]
                    intro t h0 h4
                    simp only [PS.wants, L3, PS.shaking]
                    cases lv t <;> cases av t <;> cases jv t <;> simp [h4]) rfl (by simp [L3]) (by simp [L3])).mono ?_
                  rintro e w3 ⟨rfl, hp3, hC⟩
                  have HO := Lib.hid (hO.same hC)
                  have HP3 := Lib.hid (show PhaseAt w3 b (L4 lv av jv) from hp3.ext (by simp [L3, L4, PS.next, PS.cells]))
                  clear hC hp3 hO
                  go_wp2_with fail
                  refine (PhNow HP3.out).mono ?_
                  rintro e w' ⟨rfl, rfl⟩
                  rw [show (L4 lv av jv).now = 2 from rfl]
                  go_wp2_with fail
                  go_loopw [92] (fun i wr => ∃ k : Int, 0 ≤ k ∧ k ≤ 4 ∧ i = .int .i64 k ∧ PhaseAt wr b (L4 lv av jv) ∧ Own w [b] wr) (fun i _ => (4 - intOf i).toNat)
                  case atStart => exact ⟨0, by omega, by omega, rfl, HP3.out, HO.out⟩
                  case round =>
                    obtain ⟨k, hk0, hk4, rfl, hp, hO⟩ := hrel
                    rcases (by omega : k = 0 ∨ k = 1 ∨ k = 2 ∨ k = 3 ∨ k = 4) with rfl | rfl | rfl | rfl | rfl
                    · have hby : (bits BinOp.and IntKind.u8 (bits BinOp.or IntKind.u8 (bits BinOp.and IntKind.u8 live acks) joins) 1 == 1) = (lv 0 && av 0 || jv 0) := (bit_0 _).trans (HYV.out 0 (by omega))
                      have HPW := Lib.hid (show (L4 lv av jv).wants 0 = (lv 0 && av 0 || jv 0) by simp [PS.wants, L4, PS.shaking])
                      cases hX : (lv 0 && av 0 || jv 0)
                      all_goals
                        rw [hX] at hby HPW
                        clear hX
                        go_wp2_with fail
                        refine wp_region_grow (by kernel_rfl) (by kernel_rfl) ?_
                        repeat (go_big_quiet_step ((go_at_call 39; apply later_calls; refine (PhWants (hp.keep (Later.h _) (by simp)) 0 (by omega) (by omega)).mono ?_; rintro e w' ⟨rfl, hp', hc'⟩; rw [HPW.out]; exact ⟨rfl, hc'⟩)))
                        refine wpQuiet_nil ?_
                        rintro w3 ⟨⟨w4, hC4⟩, rfl⟩
                        have HP4 := Lib.hid (hp.keep hC4 (by simp))
                        have HO4 := Lib.hid (hO.same (hC4.mono (F' := [b]) (by simp)))
                        clear hC4 hp hO
                        go_wp2_with fail
                        go_roundw
                        case rel => exact ⟨1, by omega, by omega, rfl, HP4.out, HO4.out⟩
                        case measure => simp [intOf]
                    · have hby : (bits BinOp.and IntKind.u8 ((bits BinOp.or IntKind.u8 (bits BinOp.and IntKind.u8 live acks) joins) / 2) 1 == 1) = (lv 1 && av 1 || jv 1) := (bit_1 _).trans (HYV.out 1 (by omega))
                      have HPW := Lib.hid (show (L4 lv av jv).wants 1 = (lv 1 && av 1 || jv 1) by simp [PS.wants, L4, PS.shaking])
                      cases hX : (lv 1 && av 1 || jv 1)
                      all_goals
                        rw [hX] at hby HPW
                        clear hX
                        go_wp2_with fail
                        refine wp_region_grow (by kernel_rfl) (by kernel_rfl) ?_
                        repeat (go_big_quiet_step ((go_at_call 39; apply later_calls; refine (PhWants (hp.keep (Later.h _) (by simp)) 1 (by omega) (by omega)).mono ?_; rintro e w' ⟨rfl, hp', hc'⟩; rw [HPW.out]; exact ⟨rfl, hc'⟩)))
                        refine wpQuiet_nil ?_
                        rintro w3 ⟨⟨w4, hC4⟩, rfl⟩
                        have HP4 := Lib.hid (hp.keep hC4 (by simp))
                        have HO4 := Lib.hid (hO.same (hC4.mono (F' := [b]) (by simp)))
                        clear hC4 hp hO
                        go_wp2_with fail
                        go_roundw
                        case rel => exact ⟨2, by omega, by omega, rfl, HP4.out, HO4.out⟩
                        case measure => simp [intOf]
                    · have hby : (bits BinOp.and IntKind.u8 ((bits BinOp.or IntKind.u8 (bits BinOp.and IntKind.u8 live acks) joins) / 4) 1 == 1) = (lv 2 && av 2 || jv 2) := (bit_2 _).trans (HYV.out 2 (by omega))
                      have HPW := Lib.hid (show (L4 lv av jv).wants 2 = (lv 2 && av 2 || jv 2) by simp [PS.wants, L4, PS.shaking])
                      cases hX : (lv 2 && av 2 || jv 2)
                      all_goals
                        rw [hX] at hby HPW
                        clear hX
                        go_wp2_with fail
                        refine wp_region_grow (by kernel_rfl) (by kernel_rfl) ?_
                        repeat (go_big_quiet_step ((go_at_call 39; apply later_calls; refine (PhWants (hp.keep (Later.h _) (by simp)) 2 (by omega) (by omega)).mono ?_; rintro e w' ⟨rfl, hp', hc'⟩; rw [HPW.out]; exact ⟨rfl, hc'⟩)))
                        refine wpQuiet_nil ?_
                        rintro w3 ⟨⟨w4, hC4⟩, rfl⟩
                        have HP4 := Lib.hid (hp.keep hC4 (by simp))
                        have HO4 := Lib.hid (hO.same (hC4.mono (F' := [b]) (by simp)))
                        clear hC4 hp hO
                        go_wp2_with fail
                        go_roundw
                        case rel => exact ⟨3, by omega, by omega, rfl, HP4.out, HO4.out⟩
                        case measure => simp [intOf]
                    · have hby : (bits BinOp.and IntKind.u8 ((bits BinOp.or IntKind.u8 (bits BinOp.and IntKind.u8 live acks) joins) / 8) 1 == 1) = (lv 3 && av 3 || jv 3) := (bit_3 _).trans (HYV.out 3 (by omega))
                      have HPW := Lib.hid (show (L4 lv av jv).wants 3 = (lv 3 && av 3 || jv 3) by simp [PS.wants, L4, PS.shaking])
                      cases hX : (lv 3 && av 3 || jv 3)
                      all_goals
                        rw [hX] at hby HPW
                        clear hX
                        go_wp2_with fail
                        refine wp_region_grow (by kernel_rfl) (by kernel_rfl) ?_
                        repeat (go_big_quiet_step ((go_at_call 39; apply later_calls; refine (PhWants (hp.keep (Later.h _) (by simp)) 3 (by omega) (by omega)).mono ?_; rintro e w' ⟨rfl, hp', hc'⟩; rw [HPW.out]; exact ⟨rfl, hc'⟩)))
                        refine wpQuiet_nil ?_
                        rintro w3 ⟨⟨w4, hC4⟩, rfl⟩
                        have HP4 := Lib.hid (hp.keep hC4 (by simp))
                        have HO4 := Lib.hid (hO.same (hC4.mono (F' := [b]) (by simp)))
                        clear hC4 hp hO
                        go_wp2_with fail
                        go_roundw
                        case rel => exact ⟨4, by omega, by omega, rfl, HP4.out, HO4.out⟩
                        case measure => simp [intOf]
                    · have HO := Lib.hid hO
                      clear hp hO
                      go_wp2_with fail
                      go_ret
                      exact ⟨rfl, HO.out.below⟩

theorem phaseLeaves_walk (live acks joins : Int) (w : World) (hl : (Lit.int .u8 live).wf = true) (ha : (Lit.int .u8 acks).wf = true) (hj : (Lit.int .u8 joins).wf = true) :
    Calls Try.prog 13 #[.int .u8 live, .int .u8 acks, .int .u8 joins] w fun e w' => e = .returned (.bool true) ∧ Below w.heap.size w w' :=
  phaseLeaves_core live acks joins (bitZ live) (bitZ acks) (bitZ joins) (fun _ => rfl) (fun _ => rfl) (fun _ => rfl) w (bounds_u8 hl).1 (bounds_u8 hl).2 (bounds_u8 ha).1 (bounds_u8 ha).2 (bounds_u8 hj).1 (bounds_u8 hj).2

end Go.Proofs.Ytamecbanginjmaa
