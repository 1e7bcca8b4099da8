/-
  The walk of PhaseArms. Conditions: as the theorem says.
-/
import Derived.Test.YtamecbanginjmaaPhaseInv
import Derived.Deep.DeepCutAuto
import Derived.Deep.Cut
namespace Go.Proofs.Ytamecbanginjmaa
open Go.RowKit Go.ChangeShapes


def liveCells (lv : Int → Bool) : Array Value := #[.bool (lv 0), .bool (lv 1), .bool (lv 2), .bool (lv 3)]
def LiveAt (w : World) (b : Nat) (lv : Int → Bool) : Prop := Blk w b 56 (liveCells lv)

theorem live_get (lv : Int → Bool) (t : Int) (h0 : 0 ≤ t) (h4 : t < 4) : (liveCells lv)[t.toNat]? = some (.bool (lv t)) := by
  rcases (by omega : t = 0 ∨ t = 1 ∨ t = 2 ∨ t = 3) with rfl | rfl | rfl | rfl <;> rfl
theorem live_set (lv : Int → Bool) (t : Int) (v : Bool) (h0 : 0 ≤ t) (h4 : t < 4) : (liveCells lv).setIfInBounds t.toNat (.bool v) = liveCells (upd lv t v) := by
  rcases (by omega : t = 0 ∨ t = 1 ∨ t = 2 ∨ t = 3) with rfl | rfl | rfl | rfl <;> simp [liveCells, upd]

theorem and3_u8 (x : Int) (h0 : 0 ≤ x) (h1 : x ≤ 255) : bits .and .u8 x 3 = x % 4 := by
  obtain ⟨a, rfl, ha⟩ := byte_nat h0 h1
  have := u8_and_nat a 3 ha (by omega)
  rw [show ((3 : Nat) : Int) = 3 from rfl] at this
  rw [this, nat_mask2]
  omega

/-- The machine at b is s, the list of who lives lies at bl. -/
def AR (w wr : World) (b bl : Nat) (s : PS) (k : Int) : Prop := PInv s k ∧ PhaseAt wr b s ∧ LiveAt wr bl s.live ∧ b ≠ bl ∧ Own w [b, bl] wr

set_option maxRecDepth 100000 in
set_option maxHeartbeats 4000000 in
theorem phaseArms_walk (A : Option Addr) (n c : Nat) (D : Nat → Nat → Int) (w : World) (hz : ArgI w A n [.u8, .u8] D) (hm : n ≤ maxLen) :
    Calls Try.prog 17 #[.slice A n c] w fun e w' => e = .returned (.bool true) ∧ Below w.heap.size w w' := by
  have hO := Own.start w
  have HZ := Lib.hid hz
  clear hz
  unfold maxLen at hm
  by_cases hn : 200 < n
  · go_enter Try.func17, Try.ntmps17
    go_wp2_with fail
    refine (fit17 _).mono ?_
    rintro e w1 ⟨rfl, hC⟩
    replace hO := hO.same hC
    go_wp2_with fail
    go_ret
    exact ⟨rfl, hO.below⟩
  go_enter Try.func17, Try.ntmps17
  go_wp2_with fail
  refine (fit17 _).mono ?_
  rintro e w1 ⟨rfl, hC⟩
  replace hO := hO.same hC
  clear hC
  go_wp2_with fail
  refine (PhNew _).mono ?_
  rintro e w2 ⟨b, rfl, hb, hp, hC⟩
  replace hO := hO.step hC (F' := [b]) (by intro x hx; simp at hx; omega)
  have hblt : b < w2.heap.size := hp.lt
  have hC1 : Chg [] w2 (w2.alloc (.cells (liveCells (fun _ => false)) 56)) := (Chg.refl _ _).alloc _
  have hP : AR w (w2.alloc (.cells (liveCells (fun _ => false)) 56)) b w2.heap.size PS.zero 0 :=
    ⟨pinv_zero, hp.keep hC1 (by simp), Blk.new _ _ _, by omega, hO.step (hC1.mono (by simp)) (by intro x hx; simp at hx; rcases hx with rfl | rfl; simp; right; omega)⟩
  have HP := Lib.hid hP
  clear hC hb hp hC1 hP hblt hO
  go_wp2_with fail
  obtain ⟨bl, hbl⟩ : ∃ bl, w2.heap.size = bl := ⟨_, rfl⟩
  rw [hbl] at HP ⊢
  go_loopw [20] (fun i wr => ∃ (k : Nat) (s : PS), k ≤ n ∧ i = .int .i64 k ∧ AR w wr b bl s k) (fun i _ => n - (intOf i).toNat)
  case atStart => exact ⟨0, PS.zero, by omega, rfl, HP.out⟩
  case round =>
    obtain ⟨k, s, hk, rfl, hP2⟩ := hrel
    clear HP hbl
    by_cases hlt : k < n
    · obtain ⟨hI, hp, hL, hne, hO⟩ := hP2
      obtain ⟨ab, ao, rfl, hcell⟩ := HZ.out.at_ hO hlt
      have hc0 := hcell 0 _ rfl
      have hc1 := hcell 1 _ rfl
      simp at hc0 hc1
      have hd0 := bounds_u8 (HZ.out.wf hlt 0 _ rfl)
      have hd1 := bounds_u8 (HZ.out.wf hlt 1 _ rfl)
      have hd00 := hd0.1
      have hd01 := hd0.2
      have hx := and3_u8 (D k 1) hd1.1 hd1.2
      have hC0 : Chg [] wr (wr.alloc (.cells #[.int .u8 (D k 0), .int .u8 (D k 1)] 52)) := (Chg.refl _ _).alloc _
      have HI := Lib.hid hI
      have HP0 := Lib.hid (hp.keep hC0 (by simp))
      have HL0 := Lib.hid (hC0.blk hL (by simp))
      have HO0 := Lib.hid (hO.same (hC0.mono (F' := [b, bl]) (by simp)))
      have HN := Lib.hid hne
      clear hcell hd0 hd1 hC0 hI hp hL hne hO
      go_wp2_with fail
      refine (PhNow HP0.out).mono ?_
      rintro e w' ⟨rfl, rfl⟩
      go_wp2_with fail
      go_quiet (fail)
      go_wp2_with fail
      have hK0 : 0 ≤ D k 0 % 7 := by omega
      have hK6 : D k 0 % 7 ≤ 6 := by omega
      have ht0 : 0 ≤ D k 1 % 4 := by omega
      have ht4 : D k 1 % 4 < 4 := by omega
      clear hx hd00 hd01 hc0 hc1
      generalize D k 0 % 7 = K at *
      generalize D k 1 % 4 = t at *
      have hnow0 := HI.out.now0
      have hnow4 := HI.out.now4
      refine (PhDone (HP0.out.keep ((Chg.refl [] _).drewN nq) (by simp)) K t hK0 hK6 ht0 ht4 HI.out.r0 (by have := HI.out.r1; omega)).mono ?_
      rintro e w3 ⟨rfl, hp3, hC3⟩
      have HI3 := Lib.hid (pinv_step HI.out K t hK0 hK6 ht0 ht4)
      have HNS := Lib.hid (now_step s K t hnow0 hnow4)
      have HLS := Lib.hid (live_step s K t)
      have HL3 := Lib.hid (hC3.blk ((Chg.refl [] _).drewN nq |>.blk HL0.out (by simp)) (by simp; exact fun h => HN.out h.symm))
      have HO3 := Lib.hid ((HO0.out.same ((Chg.refl [b, bl] _).drewN nq)).same (hC3.mono (F' := [b, bl]) (by simp)))
      have HP3 := Lib.hid hp3
      clear hp3 hC3 HP0 HL0 HO0 HI
      generalize hs2 : s.step K t = st at *
      obtain ⟨ans, s2⟩ := st
      have HS2 := Lib.hid hs2
      clear hs2
      simp only at HI3 HNS HLS HP3
      obtain ⟨nw, hnw⟩ : ∃ nw, s.now = nw := ⟨_, rfl⟩
      rw [hnw] at HNS hnow0 hnow4 ⊢
      have HNW := Lib.hid hnw
      clear hnw
      have hcellL := HL3.out.cell t.toNat
      rw [live_get s.live t ht0 ht4] at hcellL
      have hfrL := HL3.out.frozen t.toNat
      go_upto_if 39 with (fail)
      go_cut [] (fun wx => PhaseAt wx b s2 ∧ LiveAt wx bl s2.live ∧ Own w [b, bl] wx)
      case first =>
        have HK : K = 2 ∨ K = 3 ∨ (K ≠ 2 ∧ K ≠ 3) := by omega
        rcases HK with rfl | rfl | ⟨hk2, hk3⟩
        · have HL4 : Hid (LiveAt (w3.setCell ⟨bl, t.toNat, none⟩ (.bool true)) bl s2.live) := Lib.hid (by
            have := HL3.out.set_ t.toNat (.bool true)
            rw [live_set s.live t true ht0 ht4] at this
            rw [HLS.out]; unfold liveStep; rw [if_pos rfl]; exact this)
          have hC4 : Chg [bl] w3 (w3.setCell ⟨bl, t.toNat, none⟩ (.bool true)) := (Chg.refl _ _).setCell (.inl (by simp)) _
          have HP4 := Lib.hid (HP3.out.keep hC4 (by simp; exact HN.out))
          have HO4 := Lib.hid (HO3.out.same (hC4.mono (F' := [b, bl]) (by simp)))
          clear HL3 HP3 HO3 hC4
          go_wp2_with fail
          go_meet
          exact ⟨HP4.out, HL4.out, HO4.out⟩
        · have HL4 : Hid (LiveAt (w3.setCell ⟨bl, t.toNat, none⟩ (.bool false)) bl s2.live) := Lib.hid (by
            have := HL3.out.set_ t.toNat (.bool false)
            rw [live_set s.live t false ht0 ht4] at this
            rw [HLS.out]; unfold liveStep; rw [if_neg (by decide), if_pos rfl]; exact this)
          have hC4 : Chg [bl] w3 (w3.setCell ⟨bl, t.toNat, none⟩ (.bool false)) := (Chg.refl _ _).setCell (.inl (by simp)) _
          have HP4 := Lib.hid (HP3.out.keep hC4 (by simp; exact HN.out))
          have HO4 := Lib.hid (HO3.out.same (hC4.mono (F' := [b, bl]) (by simp)))
          clear HL3 HP3 HO3 hC4
          go_wp2_with fail
          go_meet
          exact ⟨HP4.out, HL4.out, HO4.out⟩
        · have HL4 : Hid (LiveAt w3 bl s2.live) := Lib.hid (by rw [HLS.out]; unfold liveStep; rw [if_neg hk2, if_neg hk3]; exact HL3.out)
          have hb2 : (K == 2) = false := by simpa using hk2
          have hb3 : (K == 3) = false := by simpa using hk3
          clear HL3 hk2 hk3
          go_wp2_with fail
          go_meet
          exact ⟨HP3.out, HL4.out, HO3.out⟩
      case rest =>
        obtain ⟨hp4, hl4, ho4⟩ := hcut
        have HP4 := Lib.hid hp4
        have HL4 := Lib.hid hl4
        have HO4 := Lib.hid ho4
        clear hcellL hfrL HL3 HP3 HO3 hp4 hl4 ho4
        go_wp2_with fail
        refine (PhNow HP4.out).mono ?_
        rintro e w' ⟨rfl, rfl⟩
        obtain ⟨nw2, hnw2⟩ : ∃ nw2, s2.now = nw2 := ⟨_, rfl⟩
        rw [hnw2] at HNS ⊢
        have hn20 := HI3.out.now0
        have hn24 := HI3.out.now4
        rw [hnw2] at hn20 hn24
        have HNW2 := Lib.hid hnw2
        clear hnw2
        go_upto_region 18 with (fail)
        go_cut [57] (fun v wx => v = .bool false ∧ PhaseAt wx b s2 ∧ LiveAt wx bl s2.live ∧ Own w [b, bl] wx)
        case first =>
          cases hq : (nw2 != nw)
          · go_wp2_with fail
            go_meet
            exact ⟨rfl, HP4.out, HL4.out, HO4.out⟩
          · have hq2 : (nw2 != (nw + 1) % 5) = false := by
              rcases HNS.out with h | h
              · rw [h] at hq; simp at hq
              · simp [← h]
            go_wp2_with fail
            go_meet
            exact ⟨rfl, HP4.out, HL4.out, HO4.out⟩
        case rest =>
          obtain ⟨rfl, hp5, hl5, ho5⟩ := hcut
          have HP5 := Lib.hid hp5
          have HL5 := Lib.hid hl5
          have HO5 := Lib.hid ho5
          clear HP4 HL4 HO4 hp5 hl5 ho5
          go_wp2_with fail
          go_loopw [58] (fun i wx => ∃ j : Int, 0 ≤ j ∧ j ≤ 4 ∧ i = .int .i64 j ∧ PhaseAt wx b s2 ∧ LiveAt wx bl s2.live ∧ Own w [b, bl] wx) (fun i _ => (4 - intOf i).toNat)
          case atStart => exact ⟨0, by omega, by omega, rfl, HP5.out, HL5.out, HO5.out⟩
          case round =>
            obtain ⟨j, hj0, hj4, rfl, hp, hl, ho⟩ := hrel
            clear HP5 HL5 HO5
            by_cases hjl : j < 4
            · have hld : ∀ x : Later wr, x.w'.cell? ⟨bl, j.toNat, none⟩ = some (.bool (s2.live j)) := fun x => by
                have := (x.h.blk hl (by simp)).cell j.toNat
                rw [live_get s2.live j hj0 hjl] at this
                exact this
              have hdead := HI3.out.dead j
              have hmid := HI3.out.mid
              have hidle := HI3.out.idle
              rw [HNW2.out] at hmid hidle
              have HW : Hid (s2.live j = false → s2.wants j = false) := Lib.hid (fun h => by simp [PS.wants, h])
              have HLW := Lib.hid hld
              have HH := Lib.hid hp
              have HHL := Lib.hid hl
              have HHO := Lib.hid ho
              clear hp hl ho hld
              cases hlv : s2.live j <;> cases hav : s2.armed j
              · rcases (by omega : nw2 = 0 ∨ nw2 = 1 ∨ nw2 = 2 ∨ nw2 = 3 ∨ nw2 = 4) with rfl | rfl | rfl | rfl | rfl
                · have HLV : Hid (s2.live j = false) := Lib.hid hlv
                  have HAV : Hid (s2.armed j = false) := Lib.hid hav
                  have hld := HLW.out
                  rw [hlv] at hld
                  have HWW := Lib.hid (HW.out hlv)
                  clear hlv hav hdead hmid hidle
                  go_wp2_with fail
                  refine wp_region_grow (by kernel_rfl) (by kernel_rfl) ?_
                  repeat (go_big_quiet_step (first | (go_at_call 40; apply later_calls; refine (PhArmed (HH.out.keep (Later.h _) (by simp)) j hj0 hjl).mono ?_; rintro e w' ⟨rfl, rfl⟩; rw [HAV.out]; exact ⟨rfl, Chg.refl _ _⟩) | (go_at_call 39; apply later_calls; refine (PhWants (HH.out.keep (Later.h _) (by simp)) j hj0 hjl).mono ?_; rintro e w' ⟨rfl, hp', hc'⟩; rw [HWW.out]; exact ⟨rfl, hc'⟩)))
                  refine wpQuiet_nil ?_
                  rintro w3 ⟨⟨w4, hC4⟩, rfl⟩
                  have HP6 := Lib.hid (HH.out.keep hC4 (by simp))
                  have HL6 := Lib.hid (hC4.blk HHL.out (by simp))
                  have HO6 := Lib.hid (HHO.out.same (hC4.mono (F' := [b, bl]) (by simp)))
                  clear hC4 HH HHL HHO
                  go_wp2_with fail
                  go_roundw
                  case rel => exact ⟨j + 1, by omega, by omega, rfl, HP6.out, HL6.out, HO6.out⟩
                  case measure => simp [intOf]; omega
                · have HLV : Hid (s2.live j = false) := Lib.hid hlv
                  have HAV : Hid (s2.armed j = false) := Lib.hid hav
                  have hld := HLW.out
                  rw [hlv] at hld
                  have HWW := Lib.hid (HW.out hlv)
                  clear hlv hav hdead hmid hidle
                  go_wp2_with fail
                  refine wp_region_grow (by kernel_rfl) (by kernel_rfl) ?_
                  repeat (go_big_quiet_step (first | (go_at_call 40; apply later_calls; refine (PhArmed (HH.out.keep (Later.h _) (by simp)) j hj0 hjl).mono ?_; rintro e w' ⟨rfl, rfl⟩; rw [HAV.out]; exact ⟨rfl, Chg.refl _ _⟩) | (go_at_call 39; apply later_calls; refine (PhWants (HH.out.keep (Later.h _) (by simp)) j hj0 hjl).mono ?_; rintro e w' ⟨rfl, hp', hc'⟩; rw [HWW.out]; exact ⟨rfl, hc'⟩)))
                  refine wpQuiet_nil ?_
                  rintro w3 ⟨⟨w4, hC4⟩, rfl⟩
                  have HP6 := Lib.hid (HH.out.keep hC4 (by simp))
                  have HL6 := Lib.hid (hC4.blk HHL.out (by simp))
                  have HO6 := Lib.hid (HHO.out.same (hC4.mono (F' := [b, bl]) (by simp)))
                  clear hC4 HH HHL HHO
                  go_wp2_with fail
                  go_roundw
                  case rel => exact ⟨j + 1, by omega, by omega, rfl, HP6.out, HL6.out, HO6.out⟩
                  case measure => simp [intOf]; omega
                · have HLV : Hid (s2.live j = false) := Lib.hid hlv
                  have HAV : Hid (s2.armed j = false) := Lib.hid hav
                  have hld := HLW.out
                  rw [hlv] at hld
                  have HWW := Lib.hid (HW.out hlv)
                  clear hlv hav hdead hmid hidle
                  go_wp2_with fail
                  refine wp_region_grow (by kernel_rfl) (by kernel_rfl) ?_
                  repeat (go_big_quiet_step (first | (go_at_call 40; apply later_calls; refine (PhArmed (HH.out.keep (Later.h _) (by simp)) j hj0 hjl).mono ?_; rintro e w' ⟨rfl, rfl⟩; rw [HAV.out]; exact ⟨rfl, Chg.refl _ _⟩) | (go_at_call 39; apply later_calls; refine (PhWants (HH.out.keep (Later.h _) (by simp)) j hj0 hjl).mono ?_; rintro e w' ⟨rfl, hp', hc'⟩; rw [HWW.out]; exact ⟨rfl, hc'⟩)))
                  refine wpQuiet_nil ?_
                  rintro w3 ⟨⟨w4, hC4⟩, rfl⟩
                  have HP6 := Lib.hid (HH.out.keep hC4 (by simp))
                  have HL6 := Lib.hid (hC4.blk HHL.out (by simp))
                  have HO6 := Lib.hid (HHO.out.same (hC4.mono (F' := [b, bl]) (by simp)))
                  clear hC4 HH HHL HHO
                  go_wp2_with fail
                  go_roundw
                  case rel => exact ⟨j + 1, by omega, by omega, rfl, HP6.out, HL6.out, HO6.out⟩
                  case measure => simp [intOf]; omega
                · have HLV : Hid (s2.live j = false) := Lib.hid hlv
                  have HAV : Hid (s2.armed j = false) := Lib.hid hav
                  have hld := HLW.out
                  rw [hlv] at hld
                  have HWW := Lib.hid (HW.out hlv)
                  clear hlv hav hdead hmid hidle
                  go_wp2_with fail
                  refine wp_region_grow (by kernel_rfl) (by kernel_rfl) ?_
                  repeat (go_big_quiet_step (first | (go_at_call 40; apply later_calls; refine (PhArmed (HH.out.keep (Later.h _) (by simp)) j hj0 hjl).mono ?_; rintro e w' ⟨rfl, rfl⟩; rw [HAV.out]; exact ⟨rfl, Chg.refl _ _⟩) | (go_at_call 39; apply later_calls; refine (PhWants (HH.out.keep (Later.h _) (by simp)) j hj0 hjl).mono ?_; rintro e w' ⟨rfl, hp', hc'⟩; rw [HWW.out]; exact ⟨rfl, hc'⟩)))
                  refine wpQuiet_nil ?_
                  rintro w3 ⟨⟨w4, hC4⟩, rfl⟩
                  have HP6 := Lib.hid (HH.out.keep hC4 (by simp))
                  have HL6 := Lib.hid (hC4.blk HHL.out (by simp))
                  have HO6 := Lib.hid (HHO.out.same (hC4.mono (F' := [b, bl]) (by simp)))
                  clear hC4 HH HHL HHO
                  go_wp2_with fail
                  go_roundw
                  case rel => exact ⟨j + 1, by omega, by omega, rfl, HP6.out, HL6.out, HO6.out⟩
                  case measure => simp [intOf]; omega
                · have HLV : Hid (s2.live j = false) := Lib.hid hlv
                  have HAV : Hid (s2.armed j = false) := Lib.hid hav
                  have hld := HLW.out
                  rw [hlv] at hld
                  have HWW := Lib.hid (HW.out hlv)
                  clear hlv hav hdead hmid hidle
                  go_wp2_with fail
                  refine wp_region_grow (by kernel_rfl) (by kernel_rfl) ?_
                  repeat (go_big_quiet_step (first | (go_at_call 40; apply later_calls; refine (PhArmed (HH.out.keep (Later.h _) (by simp)) j hj0 hjl).mono ?_; rintro e w' ⟨rfl, rfl⟩; rw [HAV.out]; exact ⟨rfl, Chg.refl _ _⟩) | (go_at_call 39; apply later_calls; refine (PhWants (HH.out.keep (Later.h _) (by simp)) j hj0 hjl).mono ?_; rintro e w' ⟨rfl, hp', hc'⟩; rw [HWW.out]; exact ⟨rfl, hc'⟩)))
                  refine wpQuiet_nil ?_
                  rintro w3 ⟨⟨w4, hC4⟩, rfl⟩
                  have HP6 := Lib.hid (HH.out.keep hC4 (by simp))
                  have HL6 := Lib.hid (hC4.blk HHL.out (by simp))
                  have HO6 := Lib.hid (HHO.out.same (hC4.mono (F' := [b, bl]) (by simp)))
                  clear hC4 HH HHL HHO
                  go_wp2_with fail
                  go_roundw
                  case rel => exact ⟨j + 1, by omega, by omega, rfl, HP6.out, HL6.out, HO6.out⟩
                  case measure => simp [intOf]; omega
              · exact absurd (hdead hlv) (by rw [hav]; decide)
              · rcases (by omega : nw2 = 0 ∨ nw2 = 1 ∨ nw2 = 2 ∨ nw2 = 3 ∨ nw2 = 4) with rfl | rfl | rfl | rfl | rfl
                · have HLV : Hid (s2.live j = true) := Lib.hid hlv
                  have HAV : Hid (s2.armed j = false) := Lib.hid hav
                  have hld := HLW.out
                  rw [hlv] at hld
                  clear hlv hav hdead hmid hidle
                  go_wp2_with fail
                  refine wp_region_grow (by kernel_rfl) (by kernel_rfl) ?_
                  repeat (go_big_quiet_step (first | (go_at_call 40; apply later_calls; refine (PhArmed (HH.out.keep (Later.h _) (by simp)) j hj0 hjl).mono ?_; rintro e w' ⟨rfl, rfl⟩; rw [HAV.out]; exact ⟨rfl, Chg.refl _ _⟩)))
                  refine wpQuiet_nil ?_
                  rintro w3 ⟨⟨w4, hC4⟩, rfl⟩
                  have HP6 := Lib.hid (HH.out.keep hC4 (by simp))
                  have HL6 := Lib.hid (hC4.blk HHL.out (by simp))
                  have HO6 := Lib.hid (HHO.out.same (hC4.mono (F' := [b, bl]) (by simp)))
                  clear hC4 HH HHL HHO
                  go_wp2_with fail
                  go_roundw
                  case rel => exact ⟨j + 1, by omega, by omega, rfl, HP6.out, HL6.out, HO6.out⟩
                  case measure => simp [intOf]; omega
                · have HLV : Hid (s2.live j = true) := Lib.hid hlv
                  have HAV : Hid (s2.armed j = false) := Lib.hid hav
                  have hld := HLW.out
                  rw [hlv] at hld
                  clear hlv hav hdead hmid hidle
                  go_wp2_with fail
                  refine wp_region_grow (by kernel_rfl) (by kernel_rfl) ?_
                  repeat (go_big_quiet_step (first | (go_at_call 40; apply later_calls; refine (PhArmed (HH.out.keep (Later.h _) (by simp)) j hj0 hjl).mono ?_; rintro e w' ⟨rfl, rfl⟩; rw [HAV.out]; exact ⟨rfl, Chg.refl _ _⟩)))
                  refine wpQuiet_nil ?_
                  rintro w3 ⟨⟨w4, hC4⟩, rfl⟩
                  have HP6 := Lib.hid (HH.out.keep hC4 (by simp))
                  have HL6 := Lib.hid (hC4.blk HHL.out (by simp))
                  have HO6 := Lib.hid (HHO.out.same (hC4.mono (F' := [b, bl]) (by simp)))
                  clear hC4 HH HHL HHO
                  go_wp2_with fail
                  go_roundw
                  case rel => exact ⟨j + 1, by omega, by omega, rfl, HP6.out, HL6.out, HO6.out⟩
                  case measure => simp [intOf]; omega
                · exact absurd (hmid (by omega) j hj0 hjl) (by rw [hav, hlv]; decide)
                · exact absurd (hmid (by omega) j hj0 hjl) (by rw [hav, hlv]; decide)
                · have HLV : Hid (s2.live j = true) := Lib.hid hlv
                  have HAV : Hid (s2.armed j = false) := Lib.hid hav
                  have hld := HLW.out
                  rw [hlv] at hld
                  clear hlv hav hdead hmid hidle
                  go_wp2_with fail
                  refine wp_region_grow (by kernel_rfl) (by kernel_rfl) ?_
                  repeat (go_big_quiet_step (first | (go_at_call 40; apply later_calls; refine (PhArmed (HH.out.keep (Later.h _) (by simp)) j hj0 hjl).mono ?_; rintro e w' ⟨rfl, rfl⟩; rw [HAV.out]; exact ⟨rfl, Chg.refl _ _⟩)))
                  refine wpQuiet_nil ?_
                  rintro w3 ⟨⟨w4, hC4⟩, rfl⟩
                  have HP6 := Lib.hid (HH.out.keep hC4 (by simp))
                  have HL6 := Lib.hid (hC4.blk HHL.out (by simp))
                  have HO6 := Lib.hid (HHO.out.same (hC4.mono (F' := [b, bl]) (by simp)))
                  clear hC4 HH HHL HHO
                  go_wp2_with fail
                  go_roundw
                  case rel => exact ⟨j + 1, by omega, by omega, rfl, HP6.out, HL6.out, HO6.out⟩
                  case measure => simp [intOf]; omega
              · rcases (by omega : nw2 = 0 ∨ nw2 = 1 ∨ nw2 = 2 ∨ nw2 = 3 ∨ nw2 = 4) with rfl | rfl | rfl | rfl | rfl
                · exact absurd (hidle (by omega) j) (by rw [hav]; decide)
                · have HLV : Hid (s2.live j = true) := Lib.hid hlv
                  have HAV : Hid (s2.armed j = true) := Lib.hid hav
                  have hld := HLW.out
                  rw [hlv] at hld
                  clear hlv hav hdead hmid hidle
                  go_wp2_with fail
                  refine wp_region_grow (by kernel_rfl) (by kernel_rfl) ?_
                  repeat (go_big_quiet_step (first | (go_at_call 40; apply later_calls; refine (PhArmed (HH.out.keep (Later.h _) (by simp)) j hj0 hjl).mono ?_; rintro e w' ⟨rfl, rfl⟩; rw [HAV.out]; exact ⟨rfl, Chg.refl _ _⟩)))
                  refine wpQuiet_nil ?_
                  rintro w3 ⟨⟨w4, hC4⟩, rfl⟩
                  have HP6 := Lib.hid (HH.out.keep hC4 (by simp))
                  have HL6 := Lib.hid (hC4.blk HHL.out (by simp))
                  have HO6 := Lib.hid (HHO.out.same (hC4.mono (F' := [b, bl]) (by simp)))
                  clear hC4 HH HHL HHO
                  go_wp2_with fail
                  go_roundw
                  case rel => exact ⟨j + 1, by omega, by omega, rfl, HP6.out, HL6.out, HO6.out⟩
                  case measure => simp [intOf]; omega
                · have HLV : Hid (s2.live j = true) := Lib.hid hlv
                  have HAV : Hid (s2.armed j = true) := Lib.hid hav
                  have hld := HLW.out
                  rw [hlv] at hld
                  clear hlv hav hdead hmid hidle
                  go_wp2_with fail
                  refine wp_region_grow (by kernel_rfl) (by kernel_rfl) ?_
                  repeat (go_big_quiet_step (first | (go_at_call 40; apply later_calls; refine (PhArmed (HH.out.keep (Later.h _) (by simp)) j hj0 hjl).mono ?_; rintro e w' ⟨rfl, rfl⟩; rw [HAV.out]; exact ⟨rfl, Chg.refl _ _⟩)))
                  refine wpQuiet_nil ?_
                  rintro w3 ⟨⟨w4, hC4⟩, rfl⟩
                  have HP6 := Lib.hid (HH.out.keep hC4 (by simp))
                  have HL6 := Lib.hid (hC4.blk HHL.out (by simp))
                  have HO6 := Lib.hid (HHO.out.same (hC4.mono (F' := [b, bl]) (by simp)))
                  clear hC4 HH HHL HHO
                  go_wp2_with fail
                  go_roundw
                  case rel => exact ⟨j + 1, by omega, by omega, rfl, HP6.out, HL6.out, HO6.out⟩
                  case measure => simp [intOf]; omega
                · have HLV : Hid (s2.live j = true) := Lib.hid hlv
                  have HAV : Hid (s2.armed j = true) := Lib.hid hav
                  have hld := HLW.out
                  rw [hlv] at hld
                  clear hlv hav hdead hmid hidle
                  go_wp2_with fail
                  refine wp_region_grow (by kernel_rfl) (by kernel_rfl) ?_
                  repeat (go_big_quiet_step (first | (go_at_call 40; apply later_calls; refine (PhArmed (HH.out.keep (Later.h _) (by simp)) j hj0 hjl).mono ?_; rintro e w' ⟨rfl, rfl⟩; rw [HAV.out]; exact ⟨rfl, Chg.refl _ _⟩)))
                  refine wpQuiet_nil ?_
                  rintro w3 ⟨⟨w4, hC4⟩, rfl⟩
                  have HP6 := Lib.hid (HH.out.keep hC4 (by simp))
                  have HL6 := Lib.hid (hC4.blk HHL.out (by simp))
                  have HO6 := Lib.hid (HHO.out.same (hC4.mono (F' := [b, bl]) (by simp)))
                  clear hC4 HH HHL HHO
                  go_wp2_with fail
                  go_roundw
                  case rel => exact ⟨j + 1, by omega, by omega, rfl, HP6.out, HL6.out, HO6.out⟩
                  case measure => simp [intOf]; omega
                · exact absurd (hidle (by omega) j) (by rw [hav]; decide)
            · obtain rfl : j = 4 := by omega
              have HP6 := Lib.hid hp
              have HL6 := Lib.hid hl
              have HO6 := Lib.hid ho
              clear hp hl ho
              go_wp2_with fail
              go_roundw
              case rel => exact ⟨k + 1, s2, by omega, by go_num, by simpa using HI3.out, HP6.out, HL6.out, HN.out, HO6.out⟩
              case measure => simp [intOf]; omega
    · obtain rfl : k = n := by omega
      obtain ⟨hI, hp, hL, hne, hO⟩ := hP2
      have HO := Lib.hid hO
      clear hI hp hL hne hO
      go_wp2_with fail
      go_ret
      exact ⟨rfl, HO.out.below⟩

end Go.Proofs.Ytamecbanginjmaa
