/-
  The walk of PhaseRuns. Conditions: as the theorem says.
-/
import Derived.Test.YtamecbanginjmaaStage
import Derived.Test.YtamecbanginjmaaPhaseModelDo2
import Derived.Test.YtamecbanginjmaaPhaseInv
import Derived.Test.YtamecbanginjmaaPhaseArmsW
import Derived.BigQuiet
import Derived.Deep.DeepCutAuto
import Derived.Deep.Cut
import Derived.Deep.RegionWith
namespace Go.Proofs.Ytamecbanginjmaa
open Go.RowKit Go.ChangeShapes


theorem model_zero (w : World) : ModelAt (w.alloc (.cells PS.zero.mcells 58)) w.heap.size PS.zero := Blk.new _ _ _
theorem ModelAt.keep {w w' : World} {b : Nat} {s : PS} {F : List Nat} (h : ModelAt w b s) (hc : Chg F w w') (hb : b ∉ F) : ModelAt w' b s := hc.blk h hb
theorem like_zero : Like PS.zero PS.zero := ⟨rfl, rfl, rfl, rfl, fun _ => rfl⟩
theorem mcells_armed (m : PS) (j : Int) (h0 : 0 ≤ j) (h3 : j < 4) : m.mcells[6 + j.toNat]? = some (.bool (m.armed j)) := by
  rcases (by omega : j = 0 ∨ j = 1 ∨ j = 2 ∨ j = 3) with rfl | rfl | rfl | rfl <;> rfl

set_option maxRecDepth 100000 in
set_option maxHeartbeats 4000000 in
theorem phaseRuns_walk (A : Option Addr) (n c : Nat) (D : Nat → Nat → Int) (w : World) (hz : ArgI w A n [.u8, .u8] D) (hm : n ≤ 140737488351232) :
    Calls Try.prog 16 #[.slice A n c] w fun e w' => e = .returned (.bool true) ∧ Below w.heap.size w w' := by
  have hO := Own.start w
  have HZ := Lib.hid hz
  clear hz
  by_cases hn : 200 < n
  · have hn' : (200 : Int) < (n : Int) := by omega
    go_enter Try.func16, Try.ntmps16
    go_wp2_with fail
    refine (fit17 _).mono ?_
    rintro e w1 ⟨rfl, hC⟩
    replace hO := hO.same hC
    go_wp2_with fail
    go_ret
    exact ⟨rfl, hO.below⟩
  have hn' : (n : Int) ≤ 200 := by omega
  go_enter Try.func16, Try.ntmps16
  go_wp2_with fail
  refine (fit17 _).mono ?_
  rintro e w1 ⟨rfl, hC⟩
  replace hO := hO.same hC
  clear hC
  go_wp2_with fail
  refine (PhNew _).mono ?_
  rintro e w2 ⟨b, rfl, hb, hp, hC⟩
  replace hO := hO.step hC (F' := [b]) (by intro x hx; simp at hx; omega)
  have hblt := hp.lt
  have hC1 : Chg [] w2 (w2.alloc (.cells PS.zero.mcells 58)) := (Chg.refl _ _).alloc _
  obtain ⟨bm, hbm⟩ : ∃ bm, w2.heap.size = bm := ⟨_, rfl⟩
  have HN := Lib.hid (show b ≠ bm by omega)
  have HP := Lib.hid (hp.keep hC1 (by simp))
  have hmod := model_zero w2
  rw [hbm] at hmod
  have HM := Lib.hid hmod
  have HO := Lib.hid (hO.step (hC1.mono (F' := [b]) (by simp)) (F' := [b, bm]) (by intro x hx; simp at hx; rcases hx with rfl | rfl; simp; right; omega))
  clear hC hb hp hC1 hblt hmod hO
  unfold PS.mcells PS.zero at HP HM HO
  go_wp2_with fail
  clear hbm
  go_loopw [20] (fun i wr => ∃ (k : Nat) (p m : PS), k ≤ n ∧ i = .int .i64 k ∧ PInv p k ∧ Like p m ∧ PhaseAt wr b p ∧ ModelAt wr bm m ∧ Own w [b, bm] wr) (fun i _ => n - (intOf i).toNat)
  case atStart => exact ⟨0, PS.zero, PS.zero, by omega, rfl, pinv_zero, like_zero, HP.out, HM.out, HO.out⟩
  case round =>
    obtain ⟨k, p, m, hk, rfl, hI, hL, hp, hm, hO⟩ := hrel
    clear HP HM HO
    have HI := Lib.hid hI
    have HL := Lib.hid hL
    clear hI hL
    by_cases hlt : k < n
    · obtain ⟨ab, ao, rfl, hcell⟩ := HZ.out.at_ hO hlt
      have hc0 := hcell 0 _ rfl
      have hc1 := hcell 1 _ rfl
      simp at hc0 hc1
      have hd0 := bounds_u8 (HZ.out.wf hlt 0 _ rfl)
      have hd1 := bounds_u8 (HZ.out.wf hlt 1 _ rfl)
      have hd00 := hd0.1
      have hd01 := hd0.2
      have hx := and3_u8 (D k 1) hd1.1 hd1.2
      have hC0 : Chg [] wr (wr.alloc (.cells #[.int .u8 (D k 0), .int .u8 (D k 1)] 52)) := (Chg.refl _ _).alloc _
      have HP0 := Lib.hid (hp.keep hC0 (by simp))
      have HM0 := Lib.hid (hm.keep hC0 (by simp))
      have HO0 := Lib.hid (hO.same (hC0.mono (F' := [b, bm]) (by simp)))
      have hK0 : 0 ≤ D k 0 % 7 := by omega
      have hK6 : D k 0 % 7 ≤ 6 := by omega
      have ht0 : 0 ≤ D k 1 % 4 := by omega
      have ht4 : D k 1 % 4 < 4 := by omega
      clear hcell hd0 hd1 hC0 hp hm hO
      go_wp2_with fail
      go_quiet (fail)
      clear hc0 hc1 hx hd00 hd01
      generalize D k 0 % 7 = kind at *
      generalize D k 1 % 4 = t at *
      have HE := Lib.hid (like_step HL.out HI.out.now0 HI.out.now4 kind t)
      have HI2 := Lib.hid (pinv_step HI.out kind t hK0 hK6 ht0 ht4)
      obtain ⟨B, hB⟩ : ∃ B, (p.step kind t).1 = B := ⟨_, rfl⟩
      obtain ⟨p', hp'⟩ : ∃ p', (p.step kind t).2 = p' := ⟨_, rfl⟩
      obtain ⟨m', hm'⟩ : ∃ m', (m.mstep kind t).2 = m' := ⟨_, rfl⟩
      have HD : Hid (∀ wx, PhaseAt wx b p → Calls Try.prog 46 #[.pointer (some ⟨b, 0, none⟩), .int .i64 kind, .int .i64 t] wx fun e w' => e = .returned (.bool B) ∧ PhaseAt w' b p' ∧ Chg [b] wx w') := Lib.hid (by
        intro wx hpx
        rw [← hB, ← hp']
        exact PhDone hpx kind t hK0 hK6 ht0 ht4 HI.out.r0 (by have := HI.out.r1; omega))
      have HG : Hid (∀ wx, ModelAt wx bm m → Calls Try.prog 47 #[.pointer (some ⟨bm, 0, none⟩), .int .i64 kind, .int .i64 t] wx fun e w' => e = .returned (.bool B) ∧ ModelAt w' bm m' ∧ Chg [bm] wx w') := Lib.hid (by
        intro wx hmx
        rw [← hB, ← hm', HE.out.1]
        exact MDo hmx kind t hK0 hK6 ht0 ht4 (by rw [← HL.out.now]; exact HI.out.now0) (by rw [← HL.out.now]; exact HI.out.now4) (by rw [← HL.out.rounds]; exact HI.out.r0) (by rw [← HL.out.rounds]; have := HI.out.r1; omega))
      have HL2 : Hid (Like p' m') := Lib.hid (by rw [← hp', ← hm']; exact HE.out.2)
      have HI3 : Hid (PInv p' (k + 1)) := Lib.hid (by rw [← hp']; exact HI2.out)
      clear hB hp' hm' HE HI2 HI HL
      obtain ⟨nw, hnw⟩ : ∃ nw, p'.now = nw := ⟨_, rfl⟩
      obtain ⟨rd, hrd⟩ : ∃ rd, p'.rounds = rd := ⟨_, rfl⟩
      have HNW := Lib.hid hnw
      have HRD := Lib.hid hrd
      have HNM : Hid (m'.now = nw) := Lib.hid (by rw [← hnw, HL2.out.now])
      have HRM : Hid (m'.rounds = rd) := Lib.hid (by rw [← hrd, HL2.out.rounds])
      clear hnw hrd hK0 hK6 ht0 ht4
      go_upto_region 10 with (fail)
      go_cut [58] (fun z wx => z = .bool false ∧ PhaseAt wx b p' ∧ ModelAt wx bm m' ∧ Own w [b, bm] wx)
      case first =>
        (refine wp_region_any (by kernel_rfl) ?_; try (change wpAny _ _ _ _ _ _ _ (World.drew _)))
        (refine wpAny_take (i := 0) (v := ?_) rfl (by kernel_rfl) (by kernel_rfl) (by kernel_rfl) (fun _ _ _ h => h) (Or.inl ⟨by rfl, ?_⟩) ?_; rotate_left; (intro wq; go_simp; try with_reducible rfl))
        (refine wpAny_take (i := 1) (v := ?_) rfl (by kernel_rfl) (by kernel_rfl) (by kernel_rfl) (fun _ _ _ h => h) (Or.inl ⟨by rfl, ?_⟩) ?_; rotate_left; (intro wq; go_simp; try with_reducible rfl))
        (refine wpAny_take (i := 2) (v := ?_) rfl (by kernel_rfl) (by kernel_rfl) (by kernel_rfl) (fun _ _ _ h => h) (Or.inl ⟨by rfl, ?_⟩) ?_; rotate_left; (intro wq; go_simp; try with_reducible rfl))
        (refine wpAny_take (i := 4) (v := ?_) rfl (by kernel_rfl) (by kernel_rfl) (by kernel_rfl) (fun _ _ _ h => h) (Or.inl ⟨by rfl, ?_⟩) ?_; rotate_left; (intro wq; go_simp; try with_reducible rfl))
        (refine wpAny_take (i := 5) (v := ?_) rfl (by kernel_rfl) (by kernel_rfl) (by kernel_rfl) (fun _ _ _ h => h) (Or.inl ⟨by rfl, ?_⟩) ?_; rotate_left; (intro wq; go_simp; try with_reducible rfl))
        (refine wpAny_take (i := 6) (v := ?_) rfl (by kernel_rfl) (by kernel_rfl) (by kernel_rfl) (fun _ _ _ h => h) (Or.inl ⟨by rfl, ?_⟩) ?_; rotate_left; (intro wq; go_simp; try with_reducible rfl))
        (refine wpAny_ready (rs := [3]) (by kernel_rfl) (by simp) ?_; refine AllReady.cons rfl (fun K hK => ?_) AllReady.nil; go_simp; go_wp2_with ((go_at_call 46; refine (HD.out _ (HP0.out.keep ((Chg.refl [] _).drewN _) (by simp))).mono ?_; rintro e w3 ⟨rfl, hp3, hC3⟩; have HM3 := Lib.hid ((HM0.out.keep ((Chg.refl [] _).drewN _) (by simp)).keep hC3 (by simp; exact fun h => HN.out h.symm)); have HP3 := Lib.hid hp3; have HO3 := Lib.hid ((HO0.out.same ((Chg.refl _ _).drewN _)).same (hC3.mono (F' := [b, bm]) (by simp))); clear hp3 hC3)); try (refine hK _ _ ?_; clear hK K))
        (refine wpAny_ready (rs := [7]) (by kernel_rfl) (by simp) ?_; refine AllReady.cons rfl (fun K hK => ?_) AllReady.nil; go_simp; go_wp2_with ((go_at_call 47; refine (HG.out _ HM3.out).mono ?_; rintro e w4 ⟨rfl, hm4, hC4⟩; have HP4 := Lib.hid (HP3.out.keep hC4 (by simp; exact HN.out)); have HM4 := Lib.hid hm4; have HO4 := Lib.hid (HO3.out.same (hC4.mono (F' := [b, bm]) (by simp))); clear hm4 hC4)); try (refine hK _ _ ?_; clear hK K))
        have hld0 : ∀ x : Later w4, x.w'.cell? ⟨bm, 0, none⟩ = some (.int .i64 nw) := fun x => by
          have := (x.h.blk HM4.out (by simp)).cell 0
          simp [PS.mcells] at this
          rw [HNM.out] at this
          exact this
        have hld1 : ∀ x : Later w4, x.w'.cell? ⟨bm, 1, none⟩ = some (.int .i64 rd) := fun x => by
          have := (x.h.blk HM4.out (by simp)).cell 1
          simp [PS.mcells] at this
          rw [HRM.out] at this
          exact this
        refine wpAny_grow 8 (by kernel_rfl) (by kernel_rfl) (by kernel_rfl) ?_
        simp only [List.drop_succ_cons, List.drop_zero]
        repeat (go_big_quiet_step (first
          | (go_at_call 42; apply later_calls; refine (PhNow (HP4.out.keep (Later.h _) (by simp))).mono ?_; rintro e w' ⟨rfl, rfl⟩; rw [HNW.out]; exact ⟨rfl, Chg.refl _ _⟩)
          | (go_at_call 45; apply later_calls; refine (PhRounds (HP4.out.keep (Later.h _) (by simp))).mono ?_; rintro e w' ⟨rfl, rfl⟩; rw [HRD.out]; exact ⟨rfl, Chg.refl _ _⟩)))
        refine wpQuiet_nil ?_
        rintro w5 ⟨⟨w6, hC6⟩, rfl⟩
        have HP6 := Lib.hid (HP4.out.keep hC6 (by simp))
        have HM6 := Lib.hid (HM4.out.keep hC6 (by simp))
        have HO6 := Lib.hid (HO4.out.same (hC6.mono (F' := [b, bm]) (by simp)))
        clear hC6
        go_wp2_with fail
        go_meet
        exact ⟨rfl, HP6.out, HM6.out, HO6.out⟩
      case rest =>
        obtain ⟨rfl, hp, hm, hO⟩ := hcut
        have HP5 := Lib.hid hp
        have HM5 := Lib.hid hm
        have HO5 := Lib.hid hO
        clear hp hm hO HP0 HM0 HO0 HD HG
        go_wp2_with fail
        go_loopw [59] (fun i wx => ∃ j : Int, 0 ≤ j ∧ j ≤ 4 ∧ i = .int .i64 j ∧ PhaseAt wx b p' ∧ ModelAt wx bm m' ∧ Own w [b, bm] wx) (fun i _ => (4 - intOf i).toNat)
        case atStart => exact ⟨0, by omega, by omega, rfl, HP5.out, HM5.out, HO5.out⟩
        case round =>
          obtain ⟨j, hj0, hj4, rfl, hp, hm, hO⟩ := hrel
          clear HP5 HM5 HO5
          by_cases hjl : j < 4
          · obtain ⟨AR, hAR⟩ : ∃ AR, p'.armed j = AR := ⟨_, rfl⟩
            obtain ⟨WN, hWN⟩ : ∃ WN, p'.wants j = WN := ⟨_, rfl⟩
            have HAR := Lib.hid hAR
            have HWN := Lib.hid hWN
            have HWM : Hid (m'.wants j = WN) := Lib.hid (by rw [← hWN, like_wants HL2.out])
            have hld : ∀ x : Later wr, x.w'.cell? ⟨bm, 6 + j.toNat, none⟩ = some (.bool AR) := fun x => by
              have := (x.h.blk hm (by simp)).cell (6 + j.toNat)
              rw [mcells_armed m' j hj0 hjl, ← HL2.out.armed, hAR] at this
              exact this
            have HH := Lib.hid hp
            have HHM := Lib.hid hm
            have HHO := Lib.hid hO
            clear hp hm hO hAR hWN
            go_wp2_with fail
            cases AR <;> cases WN
            all_goals
              refine wp_region_grow (by kernel_rfl) (by kernel_rfl) ?_
              repeat (go_big_quiet_step (first
                | (go_at_call 40; apply later_calls; refine (PhArmed (HH.out.keep (Later.h _) (by simp)) j hj0 hjl).mono ?_; rintro e w' ⟨rfl, rfl⟩; rw [HAR.out]; exact ⟨rfl, Chg.refl _ _⟩)
                | (go_at_call 39; apply later_calls; refine (PhWants (HH.out.keep (Later.h _) (by simp)) j hj0 hjl).mono ?_; rintro e w' ⟨rfl, hp', hc'⟩; rw [HWN.out]; exact ⟨rfl, hc'⟩)
                | (go_at_call 48; apply later_calls; refine (MWants (HHM.out.keep (Later.h _) (by simp)) j hj0 hjl).mono ?_; rintro e w' ⟨rfl, rfl⟩; rw [HWM.out]; exact ⟨rfl, Chg.refl _ _⟩)))
              refine wpQuiet_nil ?_
              rintro w3 ⟨⟨w4, hC4⟩, rfl⟩
              have HP6 := Lib.hid (HH.out.keep hC4 (by simp))
              have HM6 := Lib.hid (HHM.out.keep hC4 (by simp))
              have HO6 := Lib.hid (HHO.out.same (hC4.mono (F' := [b, bm]) (by simp)))
              clear hC4 HH HHM HHO
              go_wp2_with fail
              go_roundw
              case rel => exact ⟨j + 1, by omega, by omega, rfl, HP6.out, HM6.out, HO6.out⟩
              case measure => simp [intOf]; omega
          · obtain rfl : j = 4 := by omega
            have HP6 := Lib.hid hp
            have HM6 := Lib.hid hm
            have HO6 := Lib.hid hO
            clear hp hm hO
            go_wp2_with fail
            go_roundw
            case rel => exact ⟨k + 1, p', m', by omega, by go_num, by simpa using HI3.out, HL2.out, HP6.out, HM6.out, HO6.out⟩
            case measure => simp [intOf]; omega
    · obtain rfl : k = n := by omega
      have HO := Lib.hid hO
      clear hp hm hO
      go_wp2_with fail
      go_ret
      exact ⟨rfl, HO.out.below⟩

end Go.Proofs.Ytamecbanginjmaa
