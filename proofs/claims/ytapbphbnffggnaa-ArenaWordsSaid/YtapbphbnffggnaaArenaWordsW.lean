/-
  The walk of ArenaWords. Conditions: as the theorem says.
-/
import Derived.Test.YtapbphbnffggnaaOpen
import Derived.Test.YtapbphbnffggnaaFit03
import Derived.Test.YtapbphbnffggnaaModel3
import Derived.Test.YtapbphbnffggnaaWordsP
import Derived.Test.YtapbphbnffggnaaBits
import Derived.Test.YtapbphbnffggnaaInfo
import Derived.Test.YtapbphbnffggnaaQuiet
namespace Go.Proofs.Ytapbphbnffggnaa
set_option linter.unusedVariables false
set_option linter.unusedSimpArgs false
open Go.RowKit Go.Shelf

theorem zero58 (w : World) : (zeroValue 3).run Try.prog w = .ok (.int .i64 0) w := by kernel_rfl
set_option maxRecDepth 100000 in
set_option maxHeartbeats 8000000 in
theorem arenaWords_walk (A : Option Addr) (n c : Nat) (D : Nat → Nat → Int) (A2 : Option Addr) (n2 c2 : Nat) (D2 : Nat → Nat → Int) (w : World) (hz : ArgI w A n [.i64, .i64] D) (hm : n ≤ maxLen) (hz2 : ArgI w A2 n2 [.i64] D2) (hm2 : n2 ≤ maxLen) :
    Calls Try.prog 8 #[.slice A n c, .slice A2 n2 c2] w fun e w' => e = .returned (.bool true) ∧ Below w.heap.size w w' := by
  have HZ := Lib.hid hz
  have HZ2 := Lib.hid hz2
  unfold maxLen at hm hm2
  clear hz hz2
  have hmm := @run_makeMap Try.prog
  go_enter Try.func8, Try.ntmps8
  by_cases hn : 60 < n
  · go_wp2_with (go_at_call 17; refine (fit03 _).mono ?_; rintro e w1 ⟨rfl, hC⟩; have HS0 := Lib.hid ((Sep.start w).same hC); clear hC)
    go_ret
    exact ⟨rfl, HS0.out.below⟩
  go_wp2_with (first
    | (go_at_call 17; refine (fit03 _).mono ?_; rintro e w1 ⟨rfl, hC⟩; have HS0 := Lib.hid ((Sep.start w).same hC); clear hC)
    | (go_at_call 18; refine (TANew HS0.out 4 4 (by decide)).mono ?_; rintro e w2 ⟨a, ids, rfl, hs⟩; have HS2 := Lib.hid hs; clear hs HS0; have HW := Lib.hid (AR.new_wf 4 ids (by omega)); have HT := Lib.hid (show ∀ r, (AR.new 4 ids).tk r = false from fun _ => rfl))
    | (go_at_call 29; refine (MBegin HS2.out 4 (by omega) ids).mono ?_; rintro e w3 ⟨mo, rfl, hs⟩; have HS3 := Lib.hid hs; clear hs HS2))
  have hs := HS3.out.newMapG Try.prog 58
  obtain ⟨mb, hmb⟩ : ∃ mb, w3.heap.size = mb := ⟨_, rfl⟩
  have hs2 := hs.front 3 [2, 1, 0]
  rw [hmb] at hs2
  try simp only [hmb]
  have HS4 := Lib.hid (show Sep w _ (arenaR a (AR.new 4 ids) :: modelR mo (AR.new 4 ids) :: gmapR Try.prog 58 mb 0 (fun _ => none) :: []) from hs2)
  clear hs hs2 HS3 hmb hmm
  go_loopw [30] (fun i wr => ∃ (k : Nat) (B : AR) (cnt : Nat) (M : Lit → Option Value), k ≤ n ∧ i = .int .i64 k ∧ B.Wf ∧ B.n = 4 ∧ cnt ≤ 8 * k ∧ Told B M ∧ Sep w wr (arenaR a B :: modelR mo B :: gmapR Try.prog 58 mb cnt M :: [])) (fun i _ => n + 1 - (intOf i).toNat)
  case atStart => exact ⟨0, _, 0, _, by omega, rfl, HW.out, rfl, by omega, (fun r j h _ => by rw [HT.out] at h; cases h), HS4.out⟩
  case round =>
    clear HS4 HW HT
    obtain ⟨k, B, cnt, M, hk, rfl, hwf, hbn, hcnt, htold, hs⟩ := hrel
    have HW := Lib.hid hwf
    have HN := Lib.hid hbn
    have HTOLD := Lib.hid htold
    have hown := hs.own
    clear hwf hbn htold
    by_cases hlt : k < n
    · obtain ⟨ab, ao, rfl, hcell⟩ := HZ.out.at_ hown hlt
      have hc0 := hcell 0 _ rfl
      have hc1 := hcell 1 _ rfl
      simp at hc0 hc1
      have hwN := HZ.out.wf hlt 1 _ rfl
      obtain ⟨num, hnum⟩ : ∃ num, D k 1 = num := ⟨_, rfl⟩
      rw [hnum] at hc1 hwN
      obtain ⟨kd, hkd⟩ : ∃ kd, D k 0 = kd := ⟨_, rfl⟩
      rw [hkd] at hc0
      have hx3 := and_3 kd
      obtain ⟨k3, hk3⟩ : ∃ k3, kd % 4 = k3 := ⟨_, rfl⟩
      rw [hk3] at hx3
      have hk30 : 0 ≤ k3 ∧ k3 ≤ 3 := by omega
      obtain ⟨T, hT⟩ : ∃ T, wr.heap.size = T := ⟨_, rfl⟩
      have hsb := hs.box #[.int .i64 kd, .int .i64 num] 34
      rw [hT] at hsb
      have HLT := Lib.hid hlt
      have h60 : k < 60 := by omega
      clear hcell hnum hkd hk3 hlt hs
      by_cases h3 : k3 = 3
      · subst h3
        have hr63 := nth_wf HW.out num
        obtain ⟨rv, hrv⟩ : ∃ rv, B.nth num = rv := ⟨_, rfl⟩
        have HRV := Lib.hid hrv
        rw [hrv] at hr63
        have hs := hsb
        have z0 := (hs.blk 0 rfl).cell 0
        have z1 := (hs.blk 0 rfl).cell 1
        simp only [List.getElem?_toArray, List.getElem?_cons_zero, List.getElem?_cons_succ] at z0 z1
        have HS := Lib.hid hs
        clear hrv hs hsb hown
        go_wp2_with (first
          | (go_at_call 30; refine (MNth HS.out 2 rfl HW.out num).mono ?_; rw [HRV.out]; rintro e w4 ⟨rfl, hs⟩; have HS6 := Lib.hid hs; clear hs HS)
          | (go_at_call 31; refine (MGive HS6.out 2 rfl HW.out rv hr63).mono ?_; rintro e w5 ⟨rfl, hs⟩; have HS7 := Lib.hid hs; clear hs HS6)
          | (go_at_call 24; refine (TAGive HS7.out 1 rfl HW.out rv).mono ?_; rintro e w6 ⟨rfl, hs⟩; have HS8 := Lib.hid hs; clear hs HS7))
        go_roundw
        case rel => exact ⟨k + 1, B.give rv, cnt, M, HLT.out, by go_num, HW.out.give_wf rv, (give_n B rv).trans HN.out, by omega, HTOLD.out.give HW.out rv, HS8.out.tail⟩
        case measure => have := HLT.out; simp [intOf]; omega
      · have hne3 : (k3 == 3) = false := by simpa using h3
        have hne3' : ¬ k3 = 3 := h3
        have hc02 : 0 ≤ k3 ∧ k3 ≤ 2 := by omega
        have hcw : (Lit.int .i64 k3).wf = true := wf_of (by omega) (by omega)
        have hmul : IntKind.i64.wrap ((k : Int) * 100) = (k : Int) * 100 := by rw [IntKind.wrap_i64]; omega
        obtain ⟨C, hC⟩ : ∃ C, wN k3 = C := ⟨_, rfl⟩
        have hwz : wordsZ k3 = (C : Int) := by rw [words_wN, hC]
        have hC8 : C ≤ 8 := by
          rcases class_nat k3 (cN_of k3 hc02.1 hc02.2) with ⟨_, _, e⟩ | ⟨_, _, e⟩ | ⟨_, _, e⟩ <;> omega
        have HC1 := Lib.hid hC
        have HWZ := Lib.hid hwz
        have hs := hsb
        have z0 := (hs.blk 0 rfl).cell 0
        have z1 := (hs.blk 0 rfl).cell 1
        simp only [List.getElem?_toArray, List.getElem?_cons_zero, List.getElem?_cons_succ] at z0 z1
        have HS := Lib.hid hs
        clear h3 hs hsb hown hC hwz
        cases ht : B.take k3 with
        | none =>
          have HTK := Lib.hid ht
          clear ht
          go_wp2_with (first
            | (go_at_call 22; refine (TATake HS.out 1 rfl HW.out k3).mono ?_; rw [takeA_none HTK.out, HTK.out, takeV_none]; rintro e w4 ⟨rfl, hs⟩; have z0 := (hs.blk 0 rfl).cell 0; have z1 := (hs.blk 0 rfl).cell 1; simp only [List.getElem?_toArray, List.getElem?_cons_zero, List.getElem?_cons_succ] at z0 z1; have HS6 := Lib.hid hs; clear hs HS)
            | (go_at_call 32; refine (MTake HS6.out 2 rfl HW.out k3).mono ?_; rw [takeA_none HTK.out, HTK.out, takeV_none]; rintro e w5 ⟨rfl, hs⟩; have z0 := (hs.blk 0 rfl).cell 0; have z1 := (hs.blk 0 rfl).cell 1; simp only [List.getElem?_toArray, List.getElem?_cons_zero, List.getElem?_cons_succ] at z0 z1; have HS7 := Lib.hid hs; clear hs HS6)
            | (go_at_call 33; refine (Words k3 _).mono ?_; rw [HWZ.out]; rintro e w6 ⟨rfl, rfl⟩))
          have hl8 : Sep w w5 (blkR T 34 #[.int .i64 kd, .int .i64 num] :: arenaR a B :: modelR mo B :: gmapR Try.prog 58 mb cnt M :: []) := HS7.out
          have HS8 := Lib.hid hl8
          clear HS7 hl8 z0 z1
          go_loopw [77] (fun s ws => ∃ (q : Nat) (cnt2 : Nat) (M2 : Lit → Option Value), q ≤ C ∧ s = .int .i64 q ∧ cnt2 ≤ 8 * k + q ∧ Told B M2 ∧ Sep w ws (blkR T 34 #[.int .i64 kd, .int .i64 num] :: arenaR a B :: modelR mo B :: gmapR Try.prog 58 mb cnt2 M2 :: [])) (fun s _ => C + 1 - (intOf s).toNat)
          case atStart => exact ⟨0, _, _, by omega, rfl, by omega, HTOLD.out, HS8.out⟩
          case round =>
            clear HS8 HTOLD
            obtain ⟨q, cnt2, M2, hq, rfl, hcnt2, htold, hs⟩ := hrel
            have HTOLD := Lib.hid htold
            have hown := hs.own
            by_cases hq2 : q < C
            · have hQ : (q : Int) < (C : Int) := by omega
              have hadd : IntKind.i64.wrap ((k : Int) * 100 + (q : Int)) = (k : Int) * 100 + (q : Int) := by rw [IntKind.wrap_i64]; omega
              have HOK := Lib.hid (show B.okW 0 (q : Int) = false from AR.okW_none HW.out (r := 0) (by
                cases e : B.tk 0 with
                | false => rfl
                | true => have := (HW.out.lt e).1; omega) _)
              have hset : ∀ x, B.setW 0 (q : Int) x = B := fun x => by unfold AR.setW; rw [HOK.out]; rfl
              have HSET := Lib.hid hset
              have HS := Lib.hid hs
              clear hset htold
              have HTK0 := Lib.hid (show B.tk 0 = false by
                cases e : B.tk 0 with
                | false => rfl
                | true => have := (HW.out.lt e).1; omega)
              by_cases hval : k < n2
              · obtain ⟨ab2, ao2, rfl, hcell2⟩ := HZ2.out.at_ hown hval
                have hv0 := hcell2 0 _ rfl
                simp at hv0
                obtain ⟨y, hy⟩ : ∃ y, D2 k 0 = y := ⟨_, rfl⟩
                rw [hy] at hv0
                have HY := Lib.hid hy
                have hvI : (k : Int) < (n2 : Int) := by omega
                clear hcell2 hy hown
                have hc := TASet HS.out 1 rfl HW.out 0 (q : Int) (bits .xor .i64 ((k : Int) * 100 + (q : Int)) y) (by omega)
                rw [HSET.out, HOK.out] at hc
                have HC := Lib.hid hc
                clear hc hs HS
                go_wp2_with (first
                  | (go_at_call 38; refine (HC.out).mono ?_; rintro e w6 ⟨rfl, hs⟩; obtain ⟨w7, hput, hs7⟩ := gmap_put keyed58 Try.underlying55 hs 3 rfl (by unfold maxLen; omega) (key2 (r := 0) (j := q) (by omega) (by omega)) (.int .i64 (bits .xor .i64 ((k : Int) * 100 + (q : Int)) y)); have HPUT := Lib.hid hput; have HS7 := Lib.hid hs7; clear hs hs7 hput HC)
                  | (at_mapUpdate; refine wpList_mapUpdate_run rfl _ _ _ _ rfl rfl rfl rfl HPUT.out ?_))
                go_roundw
                case rel => exact ⟨q + 1, _, _, by omega, by go_num, by split <;> omega, HTOLD.out.other HW.out HTK0.out (by omega) (by omega) _, HS7.out⟩
                case measure => simp [intOf]; omega
              · have hvI : ¬ (k : Int) < (n2 : Int) := by omega
                clear hown
                have hc := TASet HS.out 1 rfl HW.out 0 (q : Int) ((k : Int) * 100 + (q : Int)) (by omega)
                rw [HSET.out, HOK.out] at hc
                have HC := Lib.hid hc
                clear hc hs HS
                go_wp2_with (first
                  | (go_at_call 38; refine (HC.out).mono ?_; rintro e w6 ⟨rfl, hs⟩; obtain ⟨w7, hput, hs7⟩ := gmap_put keyed58 Try.underlying55 hs 3 rfl (by unfold maxLen; omega) (key2 (r := 0) (j := q) (by omega) (by omega)) (.int .i64 ((k : Int) * 100 + (q : Int))); have HPUT := Lib.hid hput; have HS7 := Lib.hid hs7; clear hs hs7 hput HC)
                  | (at_mapUpdate; refine wpList_mapUpdate_run rfl _ _ _ _ rfl rfl rfl rfl HPUT.out ?_))
                go_roundw
                case rel => exact ⟨q + 1, _, _, by omega, by go_num, by split <;> omega, HTOLD.out.other HW.out HTK0.out (by omega) (by omega) _, HS7.out⟩
                case measure => simp [intOf]; omega
            · obtain rfl : q = C := by omega
              have HS := Lib.hid hs
              clear hs htold hown
              go_wp2_with fail
              go_roundw
              case rel => exact ⟨k + 1, B, cnt2, M2, HLT.out, by go_num, HW.out, HN.out, by omega, HTOLD.out, HS.out.tail⟩
              case measure => have := HLT.out; simp [intOf]; omega
        | some y =>
          obtain ⟨r, B'⟩ := y
          obtain ⟨p, q0, hti⟩ := HW.out.take_spec ht
          have HTK := Lib.hid ht
          have HTI := Lib.hid hti
          have hr6 := (room_le hti.wf hti.tk_new).2.2.1
          have hr1 := (room_le hti.wf hti.tk_new).2.2.2
          have HRM0 := Lib.hid (show B'.room r = C by rw [hti.room_new, HC1.out])
          clear ht hti
          go_wp2_with (first
            | (go_at_call 22; refine (TATake HS.out 1 rfl HW.out k3).mono ?_; rw [takeA_some HTK.out, HTK.out, takeV_some]; rintro e w4 ⟨rfl, hs⟩; have z0 := (hs.blk 0 rfl).cell 0; have z1 := (hs.blk 0 rfl).cell 1; simp only [List.getElem?_toArray, List.getElem?_cons_zero, List.getElem?_cons_succ] at z0 z1; have HS6 := Lib.hid hs; clear hs HS)
            | (go_at_call 32; refine (MTake HS6.out 2 rfl HW.out k3).mono ?_; rw [takeA_some HTK.out, HTK.out, takeV_some]; rintro e w5 ⟨rfl, hs⟩; have z0 := (hs.blk 0 rfl).cell 0; have z1 := (hs.blk 0 rfl).cell 1; simp only [List.getElem?_toArray, List.getElem?_cons_zero, List.getElem?_cons_succ] at z0 z1; have HS7 := Lib.hid hs; clear hs HS6)
            | (go_at_call 33; refine (Words k3 _).mono ?_; rw [HWZ.out]; rintro e w6 ⟨rfl, rfl⟩))
          have hl8 : Sep w w5 (blkR T 34 #[.int .i64 kd, .int .i64 num] :: arenaR a B' :: modelR mo B' :: gmapR Try.prog 58 mb cnt M :: []) := HS7.out
          have HS8 := Lib.hid hl8
          clear HS7 hl8 z0 z1
          go_loopw [77] (fun s ws => ∃ (q : Nat) (cnt2 : Nat) (M2 : Lit → Option Value) (B2 : AR), q ≤ C ∧ s = .int .i64 q ∧ cnt2 ≤ 8 * k + q ∧ B2.Wf ∧ B2.n = 4 ∧ B2.room r = C ∧ Told2 B2 M2 r q ∧ Sep w ws (blkR T 34 #[.int .i64 kd, .int .i64 num] :: arenaR a B2 :: modelR mo B2 :: gmapR Try.prog 58 mb cnt2 M2 :: [])) (fun s _ => C + 1 - (intOf s).toNat)
          case atStart => exact ⟨0, _, _, B', by omega, rfl, by omega, HTI.out.wf, HTI.out.n.trans HN.out, HRM0.out, Told2.begin HTOLD.out HW.out HTI.out, HS8.out⟩
          case round =>
            clear HS8 HTOLD
            obtain ⟨q, cnt2, M2, B2, hq, rfl, hcnt2, hwb, hnb, hrm, ht2, hs⟩ := hrel
            have HT2 := Lib.hid ht2
            have HWB := Lib.hid hwb
            have HNB := Lib.hid hnb
            have HRM := Lib.hid hrm
            by_cases hq2 : q < C
            · have hQ : (q : Int) < (C : Int) := by omega
              have hadd : IntKind.i64.wrap ((k : Int) * 100 + (q : Int)) = (k : Int) * 100 + (q : Int) := by rw [IntKind.wrap_i64]; omega
              have HOK := Lib.hid (show B2.okW (r : Int) (q : Int) = true by rw [hwb.okW_iff ht2.tk, hrm]; simp; omega)
              have hcw0 := TAWord hs 1 rfl hwb (r : Int) (q : Int) (by omega)
              rw [ht2.zero q (Nat.le_refl _)] at hcw0
              have HCW := Lib.hid hcw0
              have hown := hs.own
              clear ht2 hwb hnb hrm hcw0 hs
              by_cases hval : k < n2
              · obtain ⟨ab2, ao2, rfl, hcell2⟩ := HZ2.out.at_ hown hval
                have hv0 := hcell2 0 _ rfl
                simp at hv0
                obtain ⟨y, hy⟩ : ∃ y, D2 k 0 = y := ⟨_, rfl⟩
                rw [hy] at hv0
                have HY := Lib.hid hy
                have hvI : (k : Int) < (n2 : Int) := by omega
                clear hcell2 hy hown
                go_wp2_with (first
                  | (go_at_call 37; refine (HCW.out).mono ?_; rintro e w4 ⟨rfl, hs⟩; obtain ⟨_, _, e2, hcell2⟩ := HZ2.out.at_ hs.own hval; cases e2; have hv0 := hcell2 0 _ rfl; simp at hv0; rw [HY.out] at hv0; clear hcell2; have hc := TASet hs 1 rfl HWB.out (r : Int) (q : Int) (bits .xor .i64 ((k : Int) * 100 + (q : Int)) y) (by omega); rw [HOK.out] at hc; have HC := Lib.hid hc; clear hc hs HCW)
                  | (go_at_call 38; refine (HC.out).mono ?_; rintro e w6 ⟨rfl, hs⟩; obtain ⟨w7, hput, hs7⟩ := gmap_put keyed58 Try.underlying55 hs 3 rfl (by unfold maxLen; omega) (key2 (r := r) (j := q) (by omega) (by omega)) (.int .i64 (bits .xor .i64 ((k : Int) * 100 + (q : Int)) y)); have HPUT := Lib.hid hput; have HS7 := Lib.hid hs7; clear hs hs7 hput HC)
                  | (at_mapUpdate; refine wpList_mapUpdate_run rfl _ _ _ _ rfl rfl rfl rfl HPUT.out ?_))
                go_roundw
                case rel =>
                  refine ⟨q + 1, (if (M2 (lit2 r q)).isSome then cnt2 else cnt2 + 1), updG M2 (lit2 r q) (.int .i64 (bits .xor .i64 ((k : Int) * 100 + (q : Int)) y)), B2.setW (r : Int) (q : Int) (bits .xor .i64 ((k : Int) * 100 + (q : Int)) y), by omega, by go_num, by split <;> omega, HWB.out.setW_wf _ _ _, by rw [(setW_tk B2 _ _ _).2.1]; exact HNB.out, by rw [setW_room]; exact HRM.out, HT2.out.step HWB.out (by rw [HRM.out]; exact hq2) (bits .xor .i64 ((k : Int) * 100 + (q : Int)) y), ?_⟩
                  have := HS7.out
                  rw [← modelR_setW mo B2 (r : Int) (q : Int) (bits .xor .i64 ((k : Int) * 100 + (q : Int)) y)] at this
                  exact this
                case measure => simp [intOf]; omega
              · have hvI : ¬ (k : Int) < (n2 : Int) := by omega
                clear hown
                go_wp2_with (first
                  | (go_at_call 37; refine (HCW.out).mono ?_; rintro e w4 ⟨rfl, hs⟩; have hc := TASet hs 1 rfl HWB.out (r : Int) (q : Int) ((k : Int) * 100 + (q : Int)) (by omega); rw [HOK.out] at hc; have HC := Lib.hid hc; clear hc hs HCW)
                  | (go_at_call 38; refine (HC.out).mono ?_; rintro e w6 ⟨rfl, hs⟩; obtain ⟨w7, hput, hs7⟩ := gmap_put keyed58 Try.underlying55 hs 3 rfl (by unfold maxLen; omega) (key2 (r := r) (j := q) (by omega) (by omega)) (.int .i64 ((k : Int) * 100 + (q : Int))); have HPUT := Lib.hid hput; have HS7 := Lib.hid hs7; clear hs hs7 hput HC)
                  | (at_mapUpdate; refine wpList_mapUpdate_run rfl _ _ _ _ rfl rfl rfl rfl HPUT.out ?_))
                go_roundw
                case rel =>
                  refine ⟨q + 1, (if (M2 (lit2 r q)).isSome then cnt2 else cnt2 + 1), updG M2 (lit2 r q) (.int .i64 ((k : Int) * 100 + (q : Int))), B2.setW (r : Int) (q : Int) ((k : Int) * 100 + (q : Int)), by omega, by go_num, by split <;> omega, HWB.out.setW_wf _ _ _, by rw [(setW_tk B2 _ _ _).2.1]; exact HNB.out, by rw [setW_room]; exact HRM.out, HT2.out.step HWB.out (by rw [HRM.out]; exact hq2) ((k : Int) * 100 + (q : Int)), ?_⟩
                  have := HS7.out
                  rw [← modelR_setW mo B2 (r : Int) (q : Int) ((k : Int) * 100 + (q : Int))] at this
                  exact this
                case measure => simp [intOf]; omega
            · obtain rfl : q = C := by omega
              have HS := Lib.hid hs
              clear hs ht2 hwb hnb hrm
              go_wp2_with fail
              go_roundw
              case rel => exact ⟨k + 1, B2, cnt2, M2, HLT.out, by go_num, HWB.out, HNB.out, by omega, HT2.out.done HRM.out.symm, HS.out.tail⟩
              case measure => have := HLT.out; simp [intOf]; omega
    · obtain rfl : k = n := by omega
      obtain ⟨v0, tb, ho⟩ := model_open hs 1 rfl
      have hc1' := (ho.blk 0 rfl).cell 1
      simp only [List.getElem?_toArray, List.getElem?_cons_succ, List.getElem?_cons_zero] at hc1'
      obtain ⟨w2, hrange, hS2⟩ := map_range refIntOk ho 2 rfl
      obtain ⟨R0, hR0⟩ : ∃ R0, wr.heap.size = R0 := ⟨_, rfl⟩
      rw [hR0] at hS2 hrange
      have HS2 := Lib.hid (show Sep w w2 (blkR mo 53 #[v0, .map (some tb)] :: rowR 3 1 v0 B.n B.clsL :: rangeR Try.prog 51 26 3 .i64 .i64 tb R0 B.total.toNat B.mdl _ _ :: arenaR a B :: gmapR Try.prog 58 mb cnt M :: []) from hS2)
      clear hs ho hS2 hown hR0
      go_wp2_with (at_range; refine wpList_range_run rfl _ _ rfl rfl hrange ?_)
      clear hrange hc1'
      go_frame
      go_loopw [] (fun wr => ∃ (left : Int → Bool) (mm : Nat), Sep w wr (blkR mo 53 #[v0, .map (some tb)] :: rowR 3 1 v0 B.n B.clsL :: rangeR Try.prog 51 26 3 .i64 .i64 tb R0 B.total.toNat B.mdl left mm :: arenaR a B :: gmapR Try.prog 58 mb cnt M :: [])) (fun wr => wr.rangeLeft tb R0)
      case atStart => exact ⟨_, _, HS2.out⟩
      case round =>
        clear HS2
        obtain ⟨left, mm, hS3⟩ := hrel
        have hme := rangeLeft_eq hS3 2 rfl
        rcases map_next refIntOk hS3 2 rfl with ⟨hdone, hnx⟩ | ⟨x, cx, w3, m', hxw, hlx, hMx, hnx, hlt3, hen, hS4⟩
        · have HS4 := Lib.hid (range_end hS3 2 rfl)
          clear hS3 hdone hme
          go_wp2_with (at_next; refine wpList_next_run rfl _ rfl rfl hnx ?_)
          go_ret
          exact ⟨rfl, HS4.out.below⟩
        · have hh : B.has x = true := by rw [← mdl_some, hMx]; rfl
          obtain ⟨r, rfl, htk⟩ := has_nat HW.out hh
          have hcx : cx = B.cls ((r - 1) / 32) := by
            have := mdl_tk HW.out htk
            rw [hMx] at this
            exact Option.some.inj this
          have hb := room_le HW.out htk
          have hroom : B.room r = wN cx := by unfold AR.room; rw [hcx]
          have hcl : cx = 0 ∨ cx = 1 ∨ cx = 2 := by
            obtain ⟨p, q, hp, hc0, hc2, _, _, _, _, hdiv⟩ := HW.out.at_ htk
            rw [hcx, hdiv]
            omega
          have hlt4 : m' < mm := hlt3
          have HME := Lib.hid hme
          have HTK := Lib.hid htk
          have hr6 := hb.2.2.1
          have hr1 := hb.2.2.2
          have hne : w3.rangeLeft tb R0 = m' := rangeLeft_eq hS4 2 rfl
          have HS4 := Lib.hid (show Sep w w3 (blkR mo 53 #[v0, .map (some tb)] :: rowR 3 1 v0 B.n B.clsL :: rangeR Try.prog 51 26 3 .i64 .i64 tb R0 B.total.toNat B.mdl (fun y => left y && !decide (y = (r : Int))) m' :: arenaR a B :: gmapR Try.prog 58 mb cnt M :: []) from hS4)
          clear hS3 hlx hMx hh htk hS4 hcx hne hb hlt3
          rcases hcl with rfl | rfl | rfl
          · have HRM := Lib.hid (show B.room r = 2 from hroom)
            clear hroom
            go_wp2_with (at_next; refine wpList_next_run rfl _ rfl rfl hnx ?_)
            go_loopw [128] (fun s ws => ∃ q : Nat, q ≤ 2 ∧ s = .int .i64 q ∧ Sep w ws (blkR mo 53 #[v0, .map (some tb)] :: rowR 3 1 v0 B.n B.clsL :: rangeR Try.prog 51 26 3 .i64 .i64 tb R0 B.total.toNat B.mdl (fun y => left y && !decide (y = (r : Int))) m' :: arenaR a B :: gmapR Try.prog 58 mb cnt M :: [])) (fun s _ => 2 + 1 - (intOf s).toNat)
            case atStart => exact ⟨0, by omega, rfl, HS4.out⟩
            case round =>
              clear HS4
              obtain ⟨q, hq, rfl, hs⟩ := hrel
              by_cases hq2 : q < 2
              · have HS := Lib.hid hs
                have hqI : (q : Int) < 2 := by omega
                clear hs
                go_wp2_with fail
                go_simp
                refine region_sep HS.out (by kernel_rfl) (by kernel_rfl) ?_
                intro hne0
                have yl : ∀ x : SepW w (blkR mo 53 #[v0, .map (some tb)] :: rowR 3 1 v0 B.n B.clsL :: rangeR Try.prog 51 26 3 .i64 .i64 tb R0 B.total.toNat B.mdl (fun y => left y && !decide (y = (r : Int))) m' :: arenaR a B :: gmapR Try.prog 58 mb cnt M :: []), (Instr.lookup 55 (.map (some mb)) (.agg #[.int .i64 (r : Int), .int .i64 (q : Int)]) false).run Try.prog x.w' = .ok (.int .i64 (B.wordZ (r : Int) (q : Int))) x.w' := fun x => by
                  have := gmap_get keyed58 Try.underlying55 (zero58 _) x.h 4 rfl (key2 (r := r) (j := q) (by omega) (by omega))
                  rw [HTOLD.out r q HTK.out (by rw [HRM.out]; omega)] at this
                  simpa using this
                repeat (go_big_quiet_step (first
                  | (go_at_call 37; exact sep_calls (TAWord (SepW.h _) 3 rfl HW.out (r : Int) (q : Int) (by omega)))))
                refine wpQuiet_nil ?_
                rintro wq ⟨⟨wqx, hs⟩, rfl⟩
                clear yl hne0
                have HS1 := Lib.hid hs
                clear hs HS
                go_wp2_with fail
                refine ⟨?_, ?_⟩
                · exact ⟨q + 1, by omega, by go_num, HS1.out⟩
                · simp [intOf]; omega
              · obtain rfl : q = 2 := by omega
                have HZC := Lib.hid (show B.okW (r : Int) 2 = false by
                  have := HW.out.okW_iff HTK.out (2 : Int)
                  rw [HRM.out] at this
                  rw [this]
                  decide)
                have HZM := Lib.hid (show B.okW (r : Int) (-1) = false by rw [HW.out.okW_iff HTK.out]; simp)
                have HSETC := Lib.hid (show B.setW (r : Int) 2 1 = B by unfold AR.setW; rw [HZC.out]; rfl)
                have hw1 := TAWord hs 3 rfl HW.out (r : Int) 2 (by omega)
                rw [show B.wordZ (r : Int) 2 = 0 by unfold AR.wordZ; rw [HZC.out]; rfl] at hw1
                have HC := Lib.hid hw1
                obtain ⟨z, hz⟩ : ∃ z, B.wordZ ((r : Int) + 1) 0 = z := ⟨_, rfl⟩
                have HZ9 := Lib.hid hz
                have hadd : IntKind.i64.wrap ((r : Int) + 1) = (r : Int) + 1 := by rw [IntKind.wrap_i64]; omega
                by_cases hz0 : z = 0
                · subst hz0
                  clear hs hw1 hz
                  go_wp2_with (first
                    | (go_at_call 37; refine (HC.out).mono ?_; rintro e w4 ⟨rfl, hs⟩; have hw1 := TAWord hs 3 rfl HW.out (r : Int) (-1) (by omega); rw [show B.wordZ (r : Int) (-1) = 0 by unfold AR.wordZ; rw [HZM.out]; rfl] at hw1; have HC2 := Lib.hid hw1; clear hw1 hs HC)
                    | (go_at_call 37; refine (HC2.out).mono ?_; rintro e w5 ⟨rfl, hs⟩; have hw1 := TASet hs 3 rfl HW.out (r : Int) 2 1 (by omega); rw [HSETC.out, HZC.out] at hw1; have HC3 := Lib.hid hw1; clear hw1 hs HC2)
                    | (go_at_call 38; refine (HC3.out).mono ?_; rintro e w6 ⟨rfl, hs⟩; have hw1 := TAWord hs 3 rfl HW.out ((r : Int) + 1) 0 (by omega); rw [HZ9.out] at hw1; have HC4 := Lib.hid hw1; clear hw1 hs HC3)
                    | (go_at_call 37; refine (HC4.out).mono ?_; rintro e w7 ⟨rfl, hs⟩; have HS9 := Lib.hid hs; have hw1 := TAHas hs 3 rfl ((r : Int) + 1); have HC5 := Lib.hid hw1; clear hw1 hs HC4))
                  go_roundw
                  case rel => exact ⟨_, _, HS9.out⟩
                  case measure => rw [rangeLeft_eq HS9.out 2 rfl, HME.out]; exact hlt4
                · have hzb : (z == 0) = false := by simpa using hz0
                  have HHAS := Lib.hid (show B.has ((r : Int) + 1) = true by
                    cases e : B.has ((r : Int) + 1) with
                    | true => rfl
                    | false =>
                      have h1 : B.okW ((r : Int) + 1) 0 = false := by unfold AR.okW; rw [e]; rfl
                      unfold AR.wordZ at hz
                      rw [h1] at hz
                      exact absurd hz.symm hz0)
                  clear hs hw1 hz
                  go_wp2_with (first
                    | (go_at_call 37; refine (HC.out).mono ?_; rintro e w4 ⟨rfl, hs⟩; have hw1 := TAWord hs 3 rfl HW.out (r : Int) (-1) (by omega); rw [show B.wordZ (r : Int) (-1) = 0 by unfold AR.wordZ; rw [HZM.out]; rfl] at hw1; have HC2 := Lib.hid hw1; clear hw1 hs HC)
                    | (go_at_call 37; refine (HC2.out).mono ?_; rintro e w5 ⟨rfl, hs⟩; have hw1 := TASet hs 3 rfl HW.out (r : Int) 2 1 (by omega); rw [HSETC.out, HZC.out] at hw1; have HC3 := Lib.hid hw1; clear hw1 hs HC2)
                    | (go_at_call 38; refine (HC3.out).mono ?_; rintro e w6 ⟨rfl, hs⟩; have hw1 := TAWord hs 3 rfl HW.out ((r : Int) + 1) 0 (by omega); rw [HZ9.out] at hw1; have HC4 := Lib.hid hw1; clear hw1 hs HC3)
                    | (go_at_call 37; refine (HC4.out).mono ?_; rintro e w7 ⟨rfl, hs⟩; have HS9 := Lib.hid hs; have hw1 := TAHas hs 3 rfl ((r : Int) + 1); have HC5 := Lib.hid hw1; clear hw1 hs HC4)
                    | (go_at_call 36; refine (HC5.out).mono ?_; rw [HHAS.out]; rintro e w8 ⟨rfl, hs⟩; have HS10 := Lib.hid hs; clear hs HC5 HS9))
                  go_roundw
                  case rel => exact ⟨_, _, HS10.out⟩
                  case measure => rw [rangeLeft_eq HS10.out 2 rfl, HME.out]; exact hlt4
          · have HRM := Lib.hid (show B.room r = 4 from hroom)
            clear hroom
            go_wp2_with (at_next; refine wpList_next_run rfl _ rfl rfl hnx ?_)
            go_loopw [128] (fun s ws => ∃ q : Nat, q ≤ 4 ∧ s = .int .i64 q ∧ Sep w ws (blkR mo 53 #[v0, .map (some tb)] :: rowR 3 1 v0 B.n B.clsL :: rangeR Try.prog 51 26 3 .i64 .i64 tb R0 B.total.toNat B.mdl (fun y => left y && !decide (y = (r : Int))) m' :: arenaR a B :: gmapR Try.prog 58 mb cnt M :: [])) (fun s _ => 4 + 1 - (intOf s).toNat)
            case atStart => exact ⟨0, by omega, rfl, HS4.out⟩
            case round =>
              clear HS4
              obtain ⟨q, hq, rfl, hs⟩ := hrel
              by_cases hq2 : q < 4
              · have HS := Lib.hid hs
                have hqI : (q : Int) < 4 := by omega
                clear hs
                go_wp2_with fail
                go_simp
                refine region_sep HS.out (by kernel_rfl) (by kernel_rfl) ?_
                intro hne0
                have yl : ∀ x : SepW w (blkR mo 53 #[v0, .map (some tb)] :: rowR 3 1 v0 B.n B.clsL :: rangeR Try.prog 51 26 3 .i64 .i64 tb R0 B.total.toNat B.mdl (fun y => left y && !decide (y = (r : Int))) m' :: arenaR a B :: gmapR Try.prog 58 mb cnt M :: []), (Instr.lookup 55 (.map (some mb)) (.agg #[.int .i64 (r : Int), .int .i64 (q : Int)]) false).run Try.prog x.w' = .ok (.int .i64 (B.wordZ (r : Int) (q : Int))) x.w' := fun x => by
                  have := gmap_get keyed58 Try.underlying55 (zero58 _) x.h 4 rfl (key2 (r := r) (j := q) (by omega) (by omega))
                  rw [HTOLD.out r q HTK.out (by rw [HRM.out]; omega)] at this
                  simpa using this
                repeat (go_big_quiet_step (first
                  | (go_at_call 37; exact sep_calls (TAWord (SepW.h _) 3 rfl HW.out (r : Int) (q : Int) (by omega)))))
                refine wpQuiet_nil ?_
                rintro wq ⟨⟨wqx, hs⟩, rfl⟩
                clear yl hne0
                have HS1 := Lib.hid hs
                clear hs HS
                go_wp2_with fail
                refine ⟨?_, ?_⟩
                · exact ⟨q + 1, by omega, by go_num, HS1.out⟩
                · simp [intOf]; omega
              · obtain rfl : q = 4 := by omega
                have HZC := Lib.hid (show B.okW (r : Int) 4 = false by
                  have := HW.out.okW_iff HTK.out (4 : Int)
                  rw [HRM.out] at this
                  rw [this]
                  decide)
                have HZM := Lib.hid (show B.okW (r : Int) (-1) = false by rw [HW.out.okW_iff HTK.out]; simp)
                have HSETC := Lib.hid (show B.setW (r : Int) 4 1 = B by unfold AR.setW; rw [HZC.out]; rfl)
                have hw1 := TAWord hs 3 rfl HW.out (r : Int) 4 (by omega)
                rw [show B.wordZ (r : Int) 4 = 0 by unfold AR.wordZ; rw [HZC.out]; rfl] at hw1
                have HC := Lib.hid hw1
                obtain ⟨z, hz⟩ : ∃ z, B.wordZ ((r : Int) + 1) 0 = z := ⟨_, rfl⟩
                have HZ9 := Lib.hid hz
                have hadd : IntKind.i64.wrap ((r : Int) + 1) = (r : Int) + 1 := by rw [IntKind.wrap_i64]; omega
                by_cases hz0 : z = 0
                · subst hz0
                  clear hs hw1 hz
                  go_wp2_with (first
                    | (go_at_call 37; refine (HC.out).mono ?_; rintro e w4 ⟨rfl, hs⟩; have hw1 := TAWord hs 3 rfl HW.out (r : Int) (-1) (by omega); rw [show B.wordZ (r : Int) (-1) = 0 by unfold AR.wordZ; rw [HZM.out]; rfl] at hw1; have HC2 := Lib.hid hw1; clear hw1 hs HC)
                    | (go_at_call 37; refine (HC2.out).mono ?_; rintro e w5 ⟨rfl, hs⟩; have hw1 := TASet hs 3 rfl HW.out (r : Int) 4 1 (by omega); rw [HSETC.out, HZC.out] at hw1; have HC3 := Lib.hid hw1; clear hw1 hs HC2)
                    | (go_at_call 38; refine (HC3.out).mono ?_; rintro e w6 ⟨rfl, hs⟩; have hw1 := TAWord hs 3 rfl HW.out ((r : Int) + 1) 0 (by omega); rw [HZ9.out] at hw1; have HC4 := Lib.hid hw1; clear hw1 hs HC3)
                    | (go_at_call 37; refine (HC4.out).mono ?_; rintro e w7 ⟨rfl, hs⟩; have HS9 := Lib.hid hs; have hw1 := TAHas hs 3 rfl ((r : Int) + 1); have HC5 := Lib.hid hw1; clear hw1 hs HC4))
                  go_roundw
                  case rel => exact ⟨_, _, HS9.out⟩
                  case measure => rw [rangeLeft_eq HS9.out 2 rfl, HME.out]; exact hlt4
                · have hzb : (z == 0) = false := by simpa using hz0
                  have HHAS := Lib.hid (show B.has ((r : Int) + 1) = true by
                    cases e : B.has ((r : Int) + 1) with
                    | true => rfl
                    | false =>
                      have h1 : B.okW ((r : Int) + 1) 0 = false := by unfold AR.okW; rw [e]; rfl
                      unfold AR.wordZ at hz
                      rw [h1] at hz
                      exact absurd hz.symm hz0)
                  clear hs hw1 hz
                  go_wp2_with (first
                    | (go_at_call 37; refine (HC.out).mono ?_; rintro e w4 ⟨rfl, hs⟩; have hw1 := TAWord hs 3 rfl HW.out (r : Int) (-1) (by omega); rw [show B.wordZ (r : Int) (-1) = 0 by unfold AR.wordZ; rw [HZM.out]; rfl] at hw1; have HC2 := Lib.hid hw1; clear hw1 hs HC)
                    | (go_at_call 37; refine (HC2.out).mono ?_; rintro e w5 ⟨rfl, hs⟩; have hw1 := TASet hs 3 rfl HW.out (r : Int) 4 1 (by omega); rw [HSETC.out, HZC.out] at hw1; have HC3 := Lib.hid hw1; clear hw1 hs HC2)
                    | (go_at_call 38; refine (HC3.out).mono ?_; rintro e w6 ⟨rfl, hs⟩; have hw1 := TAWord hs 3 rfl HW.out ((r : Int) + 1) 0 (by omega); rw [HZ9.out] at hw1; have HC4 := Lib.hid hw1; clear hw1 hs HC3)
                    | (go_at_call 37; refine (HC4.out).mono ?_; rintro e w7 ⟨rfl, hs⟩; have HS9 := Lib.hid hs; have hw1 := TAHas hs 3 rfl ((r : Int) + 1); have HC5 := Lib.hid hw1; clear hw1 hs HC4)
                    | (go_at_call 36; refine (HC5.out).mono ?_; rw [HHAS.out]; rintro e w8 ⟨rfl, hs⟩; have HS10 := Lib.hid hs; clear hs HC5 HS9))
                  go_roundw
                  case rel => exact ⟨_, _, HS10.out⟩
                  case measure => rw [rangeLeft_eq HS10.out 2 rfl, HME.out]; exact hlt4
          · have HRM := Lib.hid (show B.room r = 8 from hroom)
            clear hroom
            go_wp2_with (at_next; refine wpList_next_run rfl _ rfl rfl hnx ?_)
            go_loopw [128] (fun s ws => ∃ q : Nat, q ≤ 8 ∧ s = .int .i64 q ∧ Sep w ws (blkR mo 53 #[v0, .map (some tb)] :: rowR 3 1 v0 B.n B.clsL :: rangeR Try.prog 51 26 3 .i64 .i64 tb R0 B.total.toNat B.mdl (fun y => left y && !decide (y = (r : Int))) m' :: arenaR a B :: gmapR Try.prog 58 mb cnt M :: [])) (fun s _ => 8 + 1 - (intOf s).toNat)
            case atStart => exact ⟨0, by omega, rfl, HS4.out⟩
            case round =>
              clear HS4
              obtain ⟨q, hq, rfl, hs⟩ := hrel
              by_cases hq2 : q < 8
              · have HS := Lib.hid hs
                have hqI : (q : Int) < 8 := by omega
                clear hs
                go_wp2_with fail
                go_simp
                refine region_sep HS.out (by kernel_rfl) (by kernel_rfl) ?_
                intro hne0
                have yl : ∀ x : SepW w (blkR mo 53 #[v0, .map (some tb)] :: rowR 3 1 v0 B.n B.clsL :: rangeR Try.prog 51 26 3 .i64 .i64 tb R0 B.total.toNat B.mdl (fun y => left y && !decide (y = (r : Int))) m' :: arenaR a B :: gmapR Try.prog 58 mb cnt M :: []), (Instr.lookup 55 (.map (some mb)) (.agg #[.int .i64 (r : Int), .int .i64 (q : Int)]) false).run Try.prog x.w' = .ok (.int .i64 (B.wordZ (r : Int) (q : Int))) x.w' := fun x => by
                  have := gmap_get keyed58 Try.underlying55 (zero58 _) x.h 4 rfl (key2 (r := r) (j := q) (by omega) (by omega))
                  rw [HTOLD.out r q HTK.out (by rw [HRM.out]; omega)] at this
                  simpa using this
                repeat (go_big_quiet_step (first
                  | (go_at_call 37; exact sep_calls (TAWord (SepW.h _) 3 rfl HW.out (r : Int) (q : Int) (by omega)))))
                refine wpQuiet_nil ?_
                rintro wq ⟨⟨wqx, hs⟩, rfl⟩
                clear yl hne0
                have HS1 := Lib.hid hs
                clear hs HS
                go_wp2_with fail
                refine ⟨?_, ?_⟩
                · exact ⟨q + 1, by omega, by go_num, HS1.out⟩
                · simp [intOf]; omega
              · obtain rfl : q = 8 := by omega
                have HZC := Lib.hid (show B.okW (r : Int) 8 = false by
                  have := HW.out.okW_iff HTK.out (8 : Int)
                  rw [HRM.out] at this
                  rw [this]
                  decide)
                have HZM := Lib.hid (show B.okW (r : Int) (-1) = false by rw [HW.out.okW_iff HTK.out]; simp)
                have HSETC := Lib.hid (show B.setW (r : Int) 8 1 = B by unfold AR.setW; rw [HZC.out]; rfl)
                have hw1 := TAWord hs 3 rfl HW.out (r : Int) 8 (by omega)
                rw [show B.wordZ (r : Int) 8 = 0 by unfold AR.wordZ; rw [HZC.out]; rfl] at hw1
                have HC := Lib.hid hw1
                obtain ⟨z, hz⟩ : ∃ z, B.wordZ ((r : Int) + 1) 0 = z := ⟨_, rfl⟩
                have HZ9 := Lib.hid hz
                have hadd : IntKind.i64.wrap ((r : Int) + 1) = (r : Int) + 1 := by rw [IntKind.wrap_i64]; omega
                by_cases hz0 : z = 0
                · subst hz0
                  clear hs hw1 hz
                  go_wp2_with (first
                    | (go_at_call 37; refine (HC.out).mono ?_; rintro e w4 ⟨rfl, hs⟩; have hw1 := TAWord hs 3 rfl HW.out (r : Int) (-1) (by omega); rw [show B.wordZ (r : Int) (-1) = 0 by unfold AR.wordZ; rw [HZM.out]; rfl] at hw1; have HC2 := Lib.hid hw1; clear hw1 hs HC)
                    | (go_at_call 37; refine (HC2.out).mono ?_; rintro e w5 ⟨rfl, hs⟩; have hw1 := TASet hs 3 rfl HW.out (r : Int) 8 1 (by omega); rw [HSETC.out, HZC.out] at hw1; have HC3 := Lib.hid hw1; clear hw1 hs HC2)
                    | (go_at_call 38; refine (HC3.out).mono ?_; rintro e w6 ⟨rfl, hs⟩; have hw1 := TAWord hs 3 rfl HW.out ((r : Int) + 1) 0 (by omega); rw [HZ9.out] at hw1; have HC4 := Lib.hid hw1; clear hw1 hs HC3)
                    | (go_at_call 37; refine (HC4.out).mono ?_; rintro e w7 ⟨rfl, hs⟩; have HS9 := Lib.hid hs; have hw1 := TAHas hs 3 rfl ((r : Int) + 1); have HC5 := Lib.hid hw1; clear hw1 hs HC4))
                  go_roundw
                  case rel => exact ⟨_, _, HS9.out⟩
                  case measure => rw [rangeLeft_eq HS9.out 2 rfl, HME.out]; exact hlt4
                · have hzb : (z == 0) = false := by simpa using hz0
                  have HHAS := Lib.hid (show B.has ((r : Int) + 1) = true by
                    cases e : B.has ((r : Int) + 1) with
                    | true => rfl
                    | false =>
                      have h1 : B.okW ((r : Int) + 1) 0 = false := by unfold AR.okW; rw [e]; rfl
                      unfold AR.wordZ at hz
                      rw [h1] at hz
                      exact absurd hz.symm hz0)
                  clear hs hw1 hz
                  go_wp2_with (first
                    | (go_at_call 37; refine (HC.out).mono ?_; rintro e w4 ⟨rfl, hs⟩; have hw1 := TAWord hs 3 rfl HW.out (r : Int) (-1) (by omega); rw [show B.wordZ (r : Int) (-1) = 0 by unfold AR.wordZ; rw [HZM.out]; rfl] at hw1; have HC2 := Lib.hid hw1; clear hw1 hs HC)
                    | (go_at_call 37; refine (HC2.out).mono ?_; rintro e w5 ⟨rfl, hs⟩; have hw1 := TASet hs 3 rfl HW.out (r : Int) 8 1 (by omega); rw [HSETC.out, HZC.out] at hw1; have HC3 := Lib.hid hw1; clear hw1 hs HC2)
                    | (go_at_call 38; refine (HC3.out).mono ?_; rintro e w6 ⟨rfl, hs⟩; have hw1 := TAWord hs 3 rfl HW.out ((r : Int) + 1) 0 (by omega); rw [HZ9.out] at hw1; have HC4 := Lib.hid hw1; clear hw1 hs HC3)
                    | (go_at_call 37; refine (HC4.out).mono ?_; rintro e w7 ⟨rfl, hs⟩; have HS9 := Lib.hid hs; have hw1 := TAHas hs 3 rfl ((r : Int) + 1); have HC5 := Lib.hid hw1; clear hw1 hs HC4)
                    | (go_at_call 36; refine (HC5.out).mono ?_; rw [HHAS.out]; rintro e w8 ⟨rfl, hs⟩; have HS10 := Lib.hid hs; clear hs HC5 HS9))
                  go_roundw
                  case rel => exact ⟨_, _, HS10.out⟩
                  case measure => rw [rangeLeft_eq HS10.out 2 rfl, HME.out]; exact hlt4
end Go.Proofs.Ytapbphbnffggnaa
