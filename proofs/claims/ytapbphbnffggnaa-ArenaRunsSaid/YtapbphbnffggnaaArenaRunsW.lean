/-
  The walk of ArenaRuns. Conditions: as the theorem says.
-/
import Derived.Test.YtapbphbnffggnaaOpen
import Derived.Test.YtapbphbnffggnaaFit03
import Derived.Test.YtapbphbnffggnaaArenaCells
import Derived.Test.YtapbphbnffggnaaArCells
import Derived.Test.YtapbphbnffggnaaModel3
import Derived.Test.YtapbphbnffggnaaResult
import Derived.Test.YtapbphbnffggnaaQuiet
import Derived.StillTailTactics
namespace Go.Proofs.Ytapbphbnffggnaa
set_option linter.unusedVariables false
set_option linter.unusedSimpArgs false
open Go.RowKit Go.Shelf
attribute [local go_sem] Oper.semAt_some wide_fn round_fn wide_depth round_depth
attribute [local simp] wide_fn round_fn wide_depth round_depth

set_option maxRecDepth 100000 in
set_option maxHeartbeats 8000000 in
theorem arenaRuns_walk (pages : Int) (A : Option Addr) (n c : Nat) (D : Nat → Nat → Int) (w : World) (_wp : (Lit.int .i64 pages).wf = true) (hz : ArgI w A n [.i64, .i64] D) (hm : n ≤ maxLen) :
    Calls Try.prog 7 #[.int .i64 pages, .slice A n c] w fun e w' => e = .returned (.bool true) ∧ Below w.heap.size w w' := by
  have HZ := Lib.hid hz
  unfold maxLen at hm
  obtain ⟨m, hmm⟩ : ∃ m : Nat, pages % 8 = (m : Int) := ⟨(pages % 8).toNat, by omega⟩
  have hm8 : m < 8 := by omega
  have hand7 := and_7 pages
  rw [hmm] at hand7
  clear hz _wp hmm
  refine calls_wide ?_
  refine callsIn_of_wp_marks Try.func7 rfl trivial ?_
  simp only [Try.ntmps7, List.size_toArray, List.length_cons, List.length_nil, Nat.reduceAdd, Nat.reduceSub, Array.replicate_succ, Array.replicate_zero, List.push_toArray, List.append_toArray, List.nil_append, List.cons_append]
  have HSI := Lib.hid ((Sep.start w).box #[.bool false] 4)
  by_cases hn : 120 < n
  · gi_wp2_with (gi_at_call 17; refine (calls_in (fit03 _)).mono ?_; rintro e w1 ⟨rfl, hC⟩; have hs := HSI.out.same hC; clear hC; have q0 := (hs.blk 0 rfl).cell 0; have q1 := (hs.blk 0 rfl).frozen 0; simp only [List.getElem?_toArray, List.getElem?_cons_zero] at q0; have HS0 := Lib.hid hs; clear hs)
    exact leaves_box0 (HS0.out.setCell 0 rfl 0 (.bool true)) 0 rfl rfl rfl ⟨rfl, (HS0.out.setCell 0 rfl 0 (.bool true)).below⟩
  gi_wp2_with (first
    | (gi_at_call 17; refine (calls_in (fit03 _)).mono ?_; rintro e w1 ⟨rfl, hC⟩; have HS0 := Lib.hid (HSI.out.same hC); clear hC)
    | (gi_at_call 18; refine (calls_in (TANew HS0.out (m : Int) m (by omega))).mono ?_; rintro e w2 ⟨a, ids, rfl, hs⟩; have HS2 := Lib.hid hs; clear hs HS0)
    | (gi_at_call 29; refine (calls_in (MBegin HS2.out m (by omega) ids)).mono ?_; rintro e w3 ⟨mo, rfl, hs⟩; have HS3 := Lib.hid hs; clear hs HS2))
  have HW0 := Lib.hid (AR.new_wf m ids (by omega))
  have hS4 := (HS3.out.box #[.pointer (some ⟨a, 0, none⟩)] 23).box #[.pointer (some ⟨mo, 0, none⟩)] 43
  rw [World.size_alloc] at hS4
  have hS5 := hS4.front 5 [3, 2, 4, 1, 0]
  obtain ⟨b5, hb5⟩ : ∃ b5, w3.heap.size = b5 := ⟨_, rfl⟩
  obtain ⟨b4, hb4⟩ : ∃ b4, w.heap.size = b4 := ⟨_, rfl⟩
  simp only [hb5, hb4] at hS5 ⊢
  have HS5 := Lib.hid (show Sep w _ (arenaR a (AR.new m ids) :: modelR mo (AR.new m ids) :: blkR b4 4 #[.bool false] :: blkR b5 23 #[.pointer (some ⟨a, 0, none⟩)] :: blkR (b5 + 1) 43 #[.pointer (some ⟨mo, 0, none⟩)] :: []) from hS5)
  clear hS4 hS5 HS3 HSI hb5
  gi_loopw [35] (fun i wr => ∃ (k : Nat) (B : AR), k ≤ n ∧ i = .int .i64 k ∧ B.Wf ∧ B.n = m ∧ Sep w wr (arenaR a B :: modelR mo B :: blkR b4 4 #[.bool false] :: blkR b5 23 #[.pointer (some ⟨a, 0, none⟩)] :: blkR (b5 + 1) 43 #[.pointer (some ⟨mo, 0, none⟩)] :: [])) (fun i _ => n + 1 - (intOf i).toNat)
  case atStart => exact ⟨0, _, by omega, rfl, HW0.out, rfl, HS5.out⟩
  case round =>
    obtain ⟨k, B, hk, rfl, hwf, hBn, hS⟩ := hrel
    clear HS5 HW0
    have HWF := Lib.hid hwf
    have HBN := Lib.hid hBn
    clear hwf hBn
    have hro : Try.prog.follows .mixedOrders = true := by kernel_rfl
    by_cases hlt : k < n
    · have HLT := Lib.hid hlt
      obtain ⟨ab, ao, rfl, hcell⟩ := HZ.out.at_ hS.own hlt
      have hc0 := hcell 0 _ rfl
      have hc1 := hcell 1 _ rfl
      simp at hc0 hc1
      have hwN := HZ.out.wf hlt 1 _ rfl
      obtain ⟨num, hnum⟩ : ∃ num, D k 1 = num := ⟨_, rfl⟩
      rw [hnum] at hc1 hwN
      obtain ⟨kd, hkd⟩ : ∃ kd, D k 0 = kd := ⟨_, rfl⟩
      rw [hkd] at hc0
      have hx3 := and_3 kd
      obtain ⟨k3, hk3⟩ : ∃ k3, kd % 4 = k3 := ⟨_, rfl⟩
      rw [hk3] at hx3
      have hk30 : 0 ≤ k3 ∧ k3 ≤ 3 := by omega
      obtain ⟨q12, hq12⟩ : ∃ q, bits .and .i64 kd 12 = q := ⟨_, rfl⟩
      have hs := hS.box #[.int .i64 kd, .int .i64 num] 34
      have q0 := (hs.blk 0 rfl).cell 0; have q1 := (hs.blk 0 rfl).cell 1; have q4 := (hs.blk 3 rfl).frozen 0; have q4c := (hs.blk 3 rfl).cell 0; have q5 := (hs.blk 4 rfl).cell 0; have q6 := (hs.blk 5 rfl).cell 0; simp only [List.getElem?_toArray, List.getElem?_cons_zero, List.getElem?_cons_succ] at q0 q1 q4c q5 q6
      have HS := Lib.hid hs
      clear hS hs hcell hnum hkd hk3 hlt
      by_cases h3 : k3 = 3
      · subst h3
        have hnth := nth_wf HWF.out num
        by_cases h12 : q12 = 12
        · subst h12
          have hr63 := hwN
          gi_wp2_with (gi_at_call 30; refine (calls_in (MNth HS.out 2 rfl HWF.out num)).mono ?_; rintro e w4 ⟨rfl, hs⟩; have q0 := (hs.blk 0 rfl).cell 0; have q1 := (hs.blk 0 rfl).cell 1; have q4 := (hs.blk 3 rfl).frozen 0; have q4c := (hs.blk 3 rfl).cell 0; have q5 := (hs.blk 4 rfl).cell 0; have q6 := (hs.blk 5 rfl).cell 0; simp only [List.getElem?_toArray, List.getElem?_cons_zero, List.getElem?_cons_succ] at q0 q1 q4c q5 q6; have HS6 := Lib.hid hs; clear hs)
          have HG := Lib.hid (HWF.out.give_wf num)
          have HN := Lib.hid ((give_n B num).trans HBN.out)
          obtain ⟨hv, hhv⟩ : ∃ hv, B.has num = hv := ⟨_, rfl⟩
          have HHV := Lib.hid hhv
          clear hhv
          refine calm ?_
          gi_region_with_o (first
            | (gi_at_call 24; refine (calls_in (TAGive HS6.out.drew 1 rfl HWF.out num)).mono ?_; rw [HHV.out]; rintro e w5 ⟨rfl, hs⟩; have q0 := (hs.blk 0 rfl).cell 0; have q1 := (hs.blk 0 rfl).cell 1; have q4 := (hs.blk 3 rfl).frozen 0; have q4c := (hs.blk 3 rfl).cell 0; have q5 := (hs.blk 4 rfl).cell 0; have q6 := (hs.blk 5 rfl).cell 0; simp only [List.getElem?_toArray, List.getElem?_cons_zero, List.getElem?_cons_succ] at q0 q1 q4c q5 q6; have HS7 := Lib.hid hs; clear hs)
            | (gi_at_call 31; refine (calls_in (MGive HS7.out 2 rfl HWF.out num hr63)).mono ?_; rw [HHV.out]; rintro e w6 ⟨rfl, hs⟩; have q0 := (hs.blk 0 rfl).cell 0; have q1 := (hs.blk 0 rfl).cell 1; have q4 := (hs.blk 3 rfl).frozen 0; have q4c := (hs.blk 3 rfl).cell 0; have q5 := (hs.blk 4 rfl).cell 0; have q6 := (hs.blk 5 rfl).cell 0; simp only [List.getElem?_toArray, List.getElem?_cons_zero, List.getElem?_cons_succ] at q0 q1 q4c q5 q6; have HS8 := Lib.hid hs; clear hs))
          all_goals
            gi_wp2
            go_simp
            have HFR := Lib.hid (show Sep w w6 (blkR wr.heap.size 34 #[.int .i64 kd, .int .i64 num] :: arenaR a (B.give num) :: modelR mo (B.give num) :: blkR b4 4 #[.bool false] :: blkR b5 23 #[.pointer (some ⟨a, 0, none⟩)] :: blkR (b5 + 1) 43 #[.pointer (some ⟨mo, 0, none⟩)] :: []) from HS8.out)
            clear HS6 HS7 HS8
            refine regionIn_sep HFR.out (by kernel_rfl) (by kernel_rfl) ?_
            intro hne0
            have y5 : ∀ x : SepW w (blkR wr.heap.size 34 #[.int .i64 kd, .int .i64 num] :: arenaR a (B.give num) :: modelR mo (B.give num) :: blkR b4 4 #[.bool false] :: blkR b5 23 #[.pointer (some ⟨a, 0, none⟩)] :: blkR (b5 + 1) 43 #[.pointer (some ⟨mo, 0, none⟩)] :: []), x.w'.cell? ⟨b5, 0, none⟩ = some (.pointer (some ⟨a, 0, none⟩)) := fun x => by
              have := (x.h.blk 4 rfl).cell 0
              simpa using this
            have y6 : ∀ x : SepW w (blkR wr.heap.size 34 #[.int .i64 kd, .int .i64 num] :: arenaR a (B.give num) :: modelR mo (B.give num) :: blkR b4 4 #[.bool false] :: blkR b5 23 #[.pointer (some ⟨a, 0, none⟩)] :: blkR (b5 + 1) 43 #[.pointer (some ⟨mo, 0, none⟩)] :: []), x.w'.cell? ⟨b5 + 1, 0, none⟩ = some (.pointer (some ⟨mo, 0, none⟩)) := fun x => by
              have := (x.h.blk 5 rfl).cell 0
              simpa using this
            repeat (gi_big_quiet_step (first
              | (gi_at_call 20; exact same_calls_in (TAFree (SepW.h _) 1 rfl))
              | (gi_at_call 34; exact same_calls_in (MFree (SepW.h _) 2 rfl HG.out))))
            refine wpQuietIn_nil ?_
            rintro w9 ⟨⟨w10, hS9⟩, rfl⟩
            have q5 := (hS9.blk 4 rfl).cell 0
            have q6 := (hS9.blk 5 rfl).cell 0
            simp only [List.getElem?_toArray, List.getElem?_cons_zero, List.getElem?_cons_succ] at q5 q6
            clear y5 y6 hne0 HFR
            gi_wp2
            go_roundw
            case rel => exact ⟨k + 1, B.give num, HLT.out, by go_num, HG.out, HN.out, hS9.tail⟩
            case measure => have := HLT.out; simp [intOf]; omega
        · have hne : (q12 == 12) = false := by simpa using h12
          clear h12
          have hr63 := hnth
          obtain ⟨rv, hrv⟩ : ∃ rv, B.nth num = rv := ⟨_, rfl⟩
          have HRV := Lib.hid hrv
          rw [hrv] at hr63
          clear hrv hnth
          gi_wp2_with (gi_at_call 30; refine (calls_in (MNth HS.out 2 rfl HWF.out num)).mono ?_; rw [HRV.out]; rintro e w4 ⟨rfl, hs⟩; have q0 := (hs.blk 0 rfl).cell 0; have q1 := (hs.blk 0 rfl).cell 1; have q4 := (hs.blk 3 rfl).frozen 0; have q4c := (hs.blk 3 rfl).cell 0; have q5 := (hs.blk 4 rfl).cell 0; have q6 := (hs.blk 5 rfl).cell 0; simp only [List.getElem?_toArray, List.getElem?_cons_zero, List.getElem?_cons_succ] at q0 q1 q4c q5 q6; have HS6 := Lib.hid hs; clear hs)
          have HG := Lib.hid (HWF.out.give_wf rv)
          have HN := Lib.hid ((give_n B rv).trans HBN.out)
          obtain ⟨hv, hhv⟩ : ∃ hv, B.has rv = hv := ⟨_, rfl⟩
          have HHV := Lib.hid hhv
          clear hhv
          refine calm ?_
          gi_region_with_o (first
            | (gi_at_call 24; refine (calls_in (TAGive HS6.out.drew 1 rfl HWF.out rv)).mono ?_; rw [HHV.out]; rintro e w5 ⟨rfl, hs⟩; have q0 := (hs.blk 0 rfl).cell 0; have q1 := (hs.blk 0 rfl).cell 1; have q4 := (hs.blk 3 rfl).frozen 0; have q4c := (hs.blk 3 rfl).cell 0; have q5 := (hs.blk 4 rfl).cell 0; have q6 := (hs.blk 5 rfl).cell 0; simp only [List.getElem?_toArray, List.getElem?_cons_zero, List.getElem?_cons_succ] at q0 q1 q4c q5 q6; have HS7 := Lib.hid hs; clear hs)
            | (gi_at_call 31; refine (calls_in (MGive HS7.out 2 rfl HWF.out rv hr63)).mono ?_; rw [HHV.out]; rintro e w6 ⟨rfl, hs⟩; have q0 := (hs.blk 0 rfl).cell 0; have q1 := (hs.blk 0 rfl).cell 1; have q4 := (hs.blk 3 rfl).frozen 0; have q4c := (hs.blk 3 rfl).cell 0; have q5 := (hs.blk 4 rfl).cell 0; have q6 := (hs.blk 5 rfl).cell 0; simp only [List.getElem?_toArray, List.getElem?_cons_zero, List.getElem?_cons_succ] at q0 q1 q4c q5 q6; have HS8 := Lib.hid hs; clear hs))
          all_goals
            gi_wp2
            go_simp
            have HFR := Lib.hid (show Sep w w6 (blkR wr.heap.size 34 #[.int .i64 kd, .int .i64 num] :: arenaR a (B.give rv) :: modelR mo (B.give rv) :: blkR b4 4 #[.bool false] :: blkR b5 23 #[.pointer (some ⟨a, 0, none⟩)] :: blkR (b5 + 1) 43 #[.pointer (some ⟨mo, 0, none⟩)] :: []) from HS8.out)
            clear HS6 HS7 HS8
            refine regionIn_sep HFR.out (by kernel_rfl) (by kernel_rfl) ?_
            intro hne0
            have y5 : ∀ x : SepW w (blkR wr.heap.size 34 #[.int .i64 kd, .int .i64 num] :: arenaR a (B.give rv) :: modelR mo (B.give rv) :: blkR b4 4 #[.bool false] :: blkR b5 23 #[.pointer (some ⟨a, 0, none⟩)] :: blkR (b5 + 1) 43 #[.pointer (some ⟨mo, 0, none⟩)] :: []), x.w'.cell? ⟨b5, 0, none⟩ = some (.pointer (some ⟨a, 0, none⟩)) := fun x => by
              have := (x.h.blk 4 rfl).cell 0
              simpa using this
            have y6 : ∀ x : SepW w (blkR wr.heap.size 34 #[.int .i64 kd, .int .i64 num] :: arenaR a (B.give rv) :: modelR mo (B.give rv) :: blkR b4 4 #[.bool false] :: blkR b5 23 #[.pointer (some ⟨a, 0, none⟩)] :: blkR (b5 + 1) 43 #[.pointer (some ⟨mo, 0, none⟩)] :: []), x.w'.cell? ⟨b5 + 1, 0, none⟩ = some (.pointer (some ⟨mo, 0, none⟩)) := fun x => by
              have := (x.h.blk 5 rfl).cell 0
              simpa using this
            repeat (gi_big_quiet_step (first
              | (gi_at_call 20; exact same_calls_in (TAFree (SepW.h _) 1 rfl))
              | (gi_at_call 34; exact same_calls_in (MFree (SepW.h _) 2 rfl HG.out))))
            refine wpQuietIn_nil ?_
            rintro w9 ⟨⟨w10, hS9⟩, rfl⟩
            have q5 := (hS9.blk 4 rfl).cell 0
            have q6 := (hS9.blk 5 rfl).cell 0
            simp only [List.getElem?_toArray, List.getElem?_cons_zero, List.getElem?_cons_succ] at q5 q6
            clear y5 y6 hne0 HFR
            gi_wp2
            go_roundw
            case rel => exact ⟨k + 1, B.give rv, HLT.out, by go_num, HG.out, HN.out, hS9.tail⟩
            case measure => have := HLT.out; simp [intOf]; omega
      · have hne3 : (k3 == 3) = false := by simpa using h3
        have hne3' : ¬ k3 = 3 := h3
        clear h3
        by_cases h12 : q12 = 12
        · subst h12
          have hcw : (Lit.int .i64 num).wf = true := by first | exact hwN | exact wf_of (by omega) (by omega)
          cases ht : B.take num with
          | none =>
            have HT := Lib.hid ht
            clear ht
            gi_wp2_with (first
              | (gi_at_call 23; refine (calls_in (TARoom HS.out 1 rfl HWF.out num)).mono ?_; rw [HT.out]; rintro e w4 ⟨rfl, hs⟩; have q0 := (hs.blk 0 rfl).cell 0; have q1 := (hs.blk 0 rfl).cell 1; have q4 := (hs.blk 3 rfl).frozen 0; have q4c := (hs.blk 3 rfl).cell 0; have q5 := (hs.blk 4 rfl).cell 0; have q6 := (hs.blk 5 rfl).cell 0; simp only [List.getElem?_toArray, List.getElem?_cons_zero, List.getElem?_cons_succ] at q0 q1 q4c q5 q6; have HS6 := Lib.hid hs; clear hs)
              | (gi_at_call 22; refine (calls_in (TATake HS6.out 1 rfl HWF.out num)).mono ?_; rw [takeA_none HT.out, HT.out, takeV_none]; rintro e w5 ⟨rfl, hs⟩; have q0 := (hs.blk 0 rfl).cell 0; have q1 := (hs.blk 0 rfl).cell 1; have q4 := (hs.blk 3 rfl).frozen 0; have q4c := (hs.blk 3 rfl).cell 0; have q5 := (hs.blk 4 rfl).cell 0; have q6 := (hs.blk 5 rfl).cell 0; simp only [List.getElem?_toArray, List.getElem?_cons_zero, List.getElem?_cons_succ] at q0 q1 q4c q5 q6; have HS7 := Lib.hid hs; clear hs)
              | (gi_at_call 32; refine (calls_in (MTake HS7.out 2 rfl HWF.out num)).mono ?_; rw [takeA_none HT.out, HT.out, takeV_none]; rintro e w6 ⟨rfl, hs⟩; have q0 := (hs.blk 0 rfl).cell 0; have q1 := (hs.blk 0 rfl).cell 1; have q4 := (hs.blk 3 rfl).frozen 0; have q4c := (hs.blk 3 rfl).cell 0; have q5 := (hs.blk 4 rfl).cell 0; have q6 := (hs.blk 5 rfl).cell 0; simp only [List.getElem?_toArray, List.getElem?_cons_zero, List.getElem?_cons_succ] at q0 q1 q4c q5 q6; have HS8 := Lib.hid hs; clear hs))
            have HFR := Lib.hid (show Sep w w6 (blkR wr.heap.size 34 #[.int .i64 kd, .int .i64 num] :: arenaR a (B) :: modelR mo (B) :: blkR b4 4 #[.bool false] :: blkR b5 23 #[.pointer (some ⟨a, 0, none⟩)] :: blkR (b5 + 1) 43 #[.pointer (some ⟨mo, 0, none⟩)] :: []) from HS8.out)
            clear HS6 HS7 HS8
            refine regionIn_sep HFR.out (by kernel_rfl) (by kernel_rfl) ?_
            intro hne0
            have y5 : ∀ x : SepW w (blkR wr.heap.size 34 #[.int .i64 kd, .int .i64 num] :: arenaR a (B) :: modelR mo (B) :: blkR b4 4 #[.bool false] :: blkR b5 23 #[.pointer (some ⟨a, 0, none⟩)] :: blkR (b5 + 1) 43 #[.pointer (some ⟨mo, 0, none⟩)] :: []), x.w'.cell? ⟨b5, 0, none⟩ = some (.pointer (some ⟨a, 0, none⟩)) := fun x => by
              have := (x.h.blk 4 rfl).cell 0
              simpa using this
            have y6 : ∀ x : SepW w (blkR wr.heap.size 34 #[.int .i64 kd, .int .i64 num] :: arenaR a (B) :: modelR mo (B) :: blkR b4 4 #[.bool false] :: blkR b5 23 #[.pointer (some ⟨a, 0, none⟩)] :: blkR (b5 + 1) 43 #[.pointer (some ⟨mo, 0, none⟩)] :: []), x.w'.cell? ⟨b5 + 1, 0, none⟩ = some (.pointer (some ⟨mo, 0, none⟩)) := fun x => by
              have := (x.h.blk 5 rfl).cell 0
              simpa using this
            repeat (gi_big_quiet_step (first
              | (gi_at_call 20; exact same_calls_in (TAFree (SepW.h _) 1 rfl))
              | (gi_at_call 34; exact same_calls_in (MFree (SepW.h _) 2 rfl HWF.out))))
            refine wpQuietIn_nil ?_
            rintro w9 ⟨⟨w10, hS9⟩, rfl⟩
            have q5 := (hS9.blk 4 rfl).cell 0
            have q6 := (hS9.blk 5 rfl).cell 0
            simp only [List.getElem?_toArray, List.getElem?_cons_zero, List.getElem?_cons_succ] at q5 q6
            clear y5 y6 hne0 HFR
            gi_wp2
            go_roundw
            case rel => exact ⟨k + 1, B, HLT.out, by go_num, HWF.out, HBN.out, hS9.tail⟩
            case measure => have := HLT.out; simp [intOf]; omega
          | some y =>
            obtain ⟨rr, B'⟩ := y
            obtain ⟨p, q, hti⟩ := HWF.out.take_spec ht
            have HT := Lib.hid ht
            have HTI := Lib.hid hti
            have HW2 := Lib.hid hti.wf
            clear ht hti
            gi_wp2_with (first
              | (gi_at_call 23; refine (calls_in (TARoom HS.out 1 rfl HWF.out num)).mono ?_; rw [HT.out]; rintro e w4 ⟨rfl, hs⟩; have q0 := (hs.blk 0 rfl).cell 0; have q1 := (hs.blk 0 rfl).cell 1; have q4 := (hs.blk 3 rfl).frozen 0; have q4c := (hs.blk 3 rfl).cell 0; have q5 := (hs.blk 4 rfl).cell 0; have q6 := (hs.blk 5 rfl).cell 0; simp only [List.getElem?_toArray, List.getElem?_cons_zero, List.getElem?_cons_succ] at q0 q1 q4c q5 q6; have HS6 := Lib.hid hs; clear hs)
              | (gi_at_call 22; refine (calls_in (TATake HS6.out 1 rfl HWF.out num)).mono ?_; rw [takeA_some HT.out, HT.out, takeV_some]; rintro e w5 ⟨rfl, hs⟩; have q0 := (hs.blk 0 rfl).cell 0; have q1 := (hs.blk 0 rfl).cell 1; have q4 := (hs.blk 3 rfl).frozen 0; have q4c := (hs.blk 3 rfl).cell 0; have q5 := (hs.blk 4 rfl).cell 0; have q6 := (hs.blk 5 rfl).cell 0; simp only [List.getElem?_toArray, List.getElem?_cons_zero, List.getElem?_cons_succ] at q0 q1 q4c q5 q6; have HS7 := Lib.hid hs; clear hs)
              | (gi_at_call 32; refine (calls_in (MTake HS7.out 2 rfl HWF.out num)).mono ?_; rw [takeA_some HT.out, HT.out, takeV_some]; rintro e w6 ⟨rfl, hs⟩; have q0 := (hs.blk 0 rfl).cell 0; have q1 := (hs.blk 0 rfl).cell 1; have q4 := (hs.blk 3 rfl).frozen 0; have q4c := (hs.blk 3 rfl).cell 0; have q5 := (hs.blk 4 rfl).cell 0; have q6 := (hs.blk 5 rfl).cell 0; simp only [List.getElem?_toArray, List.getElem?_cons_zero, List.getElem?_cons_succ] at q0 q1 q4c q5 q6; have HS8 := Lib.hid hs; clear hs))
            have HFR := Lib.hid (show Sep w w6 (blkR wr.heap.size 34 #[.int .i64 kd, .int .i64 num] :: arenaR a (B') :: modelR mo (B') :: blkR b4 4 #[.bool false] :: blkR b5 23 #[.pointer (some ⟨a, 0, none⟩)] :: blkR (b5 + 1) 43 #[.pointer (some ⟨mo, 0, none⟩)] :: []) from HS8.out)
            clear HS6 HS7 HS8
            refine regionIn_sep HFR.out (by kernel_rfl) (by kernel_rfl) ?_
            intro hne0
            have y5 : ∀ x : SepW w (blkR wr.heap.size 34 #[.int .i64 kd, .int .i64 num] :: arenaR a (B') :: modelR mo (B') :: blkR b4 4 #[.bool false] :: blkR b5 23 #[.pointer (some ⟨a, 0, none⟩)] :: blkR (b5 + 1) 43 #[.pointer (some ⟨mo, 0, none⟩)] :: []), x.w'.cell? ⟨b5, 0, none⟩ = some (.pointer (some ⟨a, 0, none⟩)) := fun x => by
              have := (x.h.blk 4 rfl).cell 0
              simpa using this
            have y6 : ∀ x : SepW w (blkR wr.heap.size 34 #[.int .i64 kd, .int .i64 num] :: arenaR a (B') :: modelR mo (B') :: blkR b4 4 #[.bool false] :: blkR b5 23 #[.pointer (some ⟨a, 0, none⟩)] :: blkR (b5 + 1) 43 #[.pointer (some ⟨mo, 0, none⟩)] :: []), x.w'.cell? ⟨b5 + 1, 0, none⟩ = some (.pointer (some ⟨mo, 0, none⟩)) := fun x => by
              have := (x.h.blk 5 rfl).cell 0
              simpa using this
            repeat (gi_big_quiet_step (first
              | (gi_at_call 20; exact same_calls_in (TAFree (SepW.h _) 1 rfl))
              | (gi_at_call 34; exact same_calls_in (MFree (SepW.h _) 2 rfl HW2.out))))
            refine wpQuietIn_nil ?_
            rintro w9 ⟨⟨w10, hS9⟩, rfl⟩
            have q5 := (hS9.blk 4 rfl).cell 0
            have q6 := (hS9.blk 5 rfl).cell 0
            simp only [List.getElem?_toArray, List.getElem?_cons_zero, List.getElem?_cons_succ] at q5 q6
            clear y5 y6 hne0 HFR
            gi_wp2
            go_roundw
            case rel => exact ⟨k + 1, B', HLT.out, by go_num, HW2.out, HTI.out.n.trans HBN.out, hS9.tail⟩
            case measure => have := HLT.out; simp [intOf]; omega
        · have hne : (q12 == 12) = false := by simpa using h12
          clear h12
          have hcw : (Lit.int .i64 k3).wf = true := by first | exact hwN | exact wf_of (by omega) (by omega)
          cases ht : B.take k3 with
          | none =>
            have HT := Lib.hid ht
            clear ht
            gi_wp2_with (first
              | (gi_at_call 23; refine (calls_in (TARoom HS.out 1 rfl HWF.out k3)).mono ?_; rw [HT.out]; rintro e w4 ⟨rfl, hs⟩; have q0 := (hs.blk 0 rfl).cell 0; have q1 := (hs.blk 0 rfl).cell 1; have q4 := (hs.blk 3 rfl).frozen 0; have q4c := (hs.blk 3 rfl).cell 0; have q5 := (hs.blk 4 rfl).cell 0; have q6 := (hs.blk 5 rfl).cell 0; simp only [List.getElem?_toArray, List.getElem?_cons_zero, List.getElem?_cons_succ] at q0 q1 q4c q5 q6; have HS6 := Lib.hid hs; clear hs)
              | (gi_at_call 22; refine (calls_in (TATake HS6.out 1 rfl HWF.out k3)).mono ?_; rw [takeA_none HT.out, HT.out, takeV_none]; rintro e w5 ⟨rfl, hs⟩; have q0 := (hs.blk 0 rfl).cell 0; have q1 := (hs.blk 0 rfl).cell 1; have q4 := (hs.blk 3 rfl).frozen 0; have q4c := (hs.blk 3 rfl).cell 0; have q5 := (hs.blk 4 rfl).cell 0; have q6 := (hs.blk 5 rfl).cell 0; simp only [List.getElem?_toArray, List.getElem?_cons_zero, List.getElem?_cons_succ] at q0 q1 q4c q5 q6; have HS7 := Lib.hid hs; clear hs)
              | (gi_at_call 32; refine (calls_in (MTake HS7.out 2 rfl HWF.out k3)).mono ?_; rw [takeA_none HT.out, HT.out, takeV_none]; rintro e w6 ⟨rfl, hs⟩; have q0 := (hs.blk 0 rfl).cell 0; have q1 := (hs.blk 0 rfl).cell 1; have q4 := (hs.blk 3 rfl).frozen 0; have q4c := (hs.blk 3 rfl).cell 0; have q5 := (hs.blk 4 rfl).cell 0; have q6 := (hs.blk 5 rfl).cell 0; simp only [List.getElem?_toArray, List.getElem?_cons_zero, List.getElem?_cons_succ] at q0 q1 q4c q5 q6; have HS8 := Lib.hid hs; clear hs))
            have HFR := Lib.hid (show Sep w w6 (blkR wr.heap.size 34 #[.int .i64 kd, .int .i64 num] :: arenaR a (B) :: modelR mo (B) :: blkR b4 4 #[.bool false] :: blkR b5 23 #[.pointer (some ⟨a, 0, none⟩)] :: blkR (b5 + 1) 43 #[.pointer (some ⟨mo, 0, none⟩)] :: []) from HS8.out)
            clear HS6 HS7 HS8
            refine regionIn_sep HFR.out (by kernel_rfl) (by kernel_rfl) ?_
            intro hne0
            have y5 : ∀ x : SepW w (blkR wr.heap.size 34 #[.int .i64 kd, .int .i64 num] :: arenaR a (B) :: modelR mo (B) :: blkR b4 4 #[.bool false] :: blkR b5 23 #[.pointer (some ⟨a, 0, none⟩)] :: blkR (b5 + 1) 43 #[.pointer (some ⟨mo, 0, none⟩)] :: []), x.w'.cell? ⟨b5, 0, none⟩ = some (.pointer (some ⟨a, 0, none⟩)) := fun x => by
              have := (x.h.blk 4 rfl).cell 0
              simpa using this
            have y6 : ∀ x : SepW w (blkR wr.heap.size 34 #[.int .i64 kd, .int .i64 num] :: arenaR a (B) :: modelR mo (B) :: blkR b4 4 #[.bool false] :: blkR b5 23 #[.pointer (some ⟨a, 0, none⟩)] :: blkR (b5 + 1) 43 #[.pointer (some ⟨mo, 0, none⟩)] :: []), x.w'.cell? ⟨b5 + 1, 0, none⟩ = some (.pointer (some ⟨mo, 0, none⟩)) := fun x => by
              have := (x.h.blk 5 rfl).cell 0
              simpa using this
            repeat (gi_big_quiet_step (first
              | (gi_at_call 20; exact same_calls_in (TAFree (SepW.h _) 1 rfl))
              | (gi_at_call 34; exact same_calls_in (MFree (SepW.h _) 2 rfl HWF.out))))
            refine wpQuietIn_nil ?_
            rintro w9 ⟨⟨w10, hS9⟩, rfl⟩
            have q5 := (hS9.blk 4 rfl).cell 0
            have q6 := (hS9.blk 5 rfl).cell 0
            simp only [List.getElem?_toArray, List.getElem?_cons_zero, List.getElem?_cons_succ] at q5 q6
            clear y5 y6 hne0 HFR
            gi_wp2
            go_roundw
            case rel => exact ⟨k + 1, B, HLT.out, by go_num, HWF.out, HBN.out, hS9.tail⟩
            case measure => have := HLT.out; simp [intOf]; omega
          | some y =>
            obtain ⟨rr, B'⟩ := y
            obtain ⟨p, q, hti⟩ := HWF.out.take_spec ht
            have HT := Lib.hid ht
            have HTI := Lib.hid hti
            have HW2 := Lib.hid hti.wf
            clear ht hti
            gi_wp2_with (first
              | (gi_at_call 23; refine (calls_in (TARoom HS.out 1 rfl HWF.out k3)).mono ?_; rw [HT.out]; rintro e w4 ⟨rfl, hs⟩; have q0 := (hs.blk 0 rfl).cell 0; have q1 := (hs.blk 0 rfl).cell 1; have q4 := (hs.blk 3 rfl).frozen 0; have q4c := (hs.blk 3 rfl).cell 0; have q5 := (hs.blk 4 rfl).cell 0; have q6 := (hs.blk 5 rfl).cell 0; simp only [List.getElem?_toArray, List.getElem?_cons_zero, List.getElem?_cons_succ] at q0 q1 q4c q5 q6; have HS6 := Lib.hid hs; clear hs)
              | (gi_at_call 22; refine (calls_in (TATake HS6.out 1 rfl HWF.out k3)).mono ?_; rw [takeA_some HT.out, HT.out, takeV_some]; rintro e w5 ⟨rfl, hs⟩; have q0 := (hs.blk 0 rfl).cell 0; have q1 := (hs.blk 0 rfl).cell 1; have q4 := (hs.blk 3 rfl).frozen 0; have q4c := (hs.blk 3 rfl).cell 0; have q5 := (hs.blk 4 rfl).cell 0; have q6 := (hs.blk 5 rfl).cell 0; simp only [List.getElem?_toArray, List.getElem?_cons_zero, List.getElem?_cons_succ] at q0 q1 q4c q5 q6; have HS7 := Lib.hid hs; clear hs)
              | (gi_at_call 32; refine (calls_in (MTake HS7.out 2 rfl HWF.out k3)).mono ?_; rw [takeA_some HT.out, HT.out, takeV_some]; rintro e w6 ⟨rfl, hs⟩; have q0 := (hs.blk 0 rfl).cell 0; have q1 := (hs.blk 0 rfl).cell 1; have q4 := (hs.blk 3 rfl).frozen 0; have q4c := (hs.blk 3 rfl).cell 0; have q5 := (hs.blk 4 rfl).cell 0; have q6 := (hs.blk 5 rfl).cell 0; simp only [List.getElem?_toArray, List.getElem?_cons_zero, List.getElem?_cons_succ] at q0 q1 q4c q5 q6; have HS8 := Lib.hid hs; clear hs))
            have HFR := Lib.hid (show Sep w w6 (blkR wr.heap.size 34 #[.int .i64 kd, .int .i64 num] :: arenaR a (B') :: modelR mo (B') :: blkR b4 4 #[.bool false] :: blkR b5 23 #[.pointer (some ⟨a, 0, none⟩)] :: blkR (b5 + 1) 43 #[.pointer (some ⟨mo, 0, none⟩)] :: []) from HS8.out)
            clear HS6 HS7 HS8
            refine regionIn_sep HFR.out (by kernel_rfl) (by kernel_rfl) ?_
            intro hne0
            have y5 : ∀ x : SepW w (blkR wr.heap.size 34 #[.int .i64 kd, .int .i64 num] :: arenaR a (B') :: modelR mo (B') :: blkR b4 4 #[.bool false] :: blkR b5 23 #[.pointer (some ⟨a, 0, none⟩)] :: blkR (b5 + 1) 43 #[.pointer (some ⟨mo, 0, none⟩)] :: []), x.w'.cell? ⟨b5, 0, none⟩ = some (.pointer (some ⟨a, 0, none⟩)) := fun x => by
              have := (x.h.blk 4 rfl).cell 0
              simpa using this
            have y6 : ∀ x : SepW w (blkR wr.heap.size 34 #[.int .i64 kd, .int .i64 num] :: arenaR a (B') :: modelR mo (B') :: blkR b4 4 #[.bool false] :: blkR b5 23 #[.pointer (some ⟨a, 0, none⟩)] :: blkR (b5 + 1) 43 #[.pointer (some ⟨mo, 0, none⟩)] :: []), x.w'.cell? ⟨b5 + 1, 0, none⟩ = some (.pointer (some ⟨mo, 0, none⟩)) := fun x => by
              have := (x.h.blk 5 rfl).cell 0
              simpa using this
            repeat (gi_big_quiet_step (first
              | (gi_at_call 20; exact same_calls_in (TAFree (SepW.h _) 1 rfl))
              | (gi_at_call 34; exact same_calls_in (MFree (SepW.h _) 2 rfl HW2.out))))
            refine wpQuietIn_nil ?_
            rintro w9 ⟨⟨w10, hS9⟩, rfl⟩
            have q5 := (hS9.blk 4 rfl).cell 0
            have q6 := (hS9.blk 5 rfl).cell 0
            simp only [List.getElem?_toArray, List.getElem?_cons_zero, List.getElem?_cons_succ] at q5 q6
            clear y5 y6 hne0 HFR
            gi_wp2
            go_roundw
            case rel => exact ⟨k + 1, B', HLT.out, by go_num, HW2.out, HTI.out.n.trans HBN.out, hS9.tail⟩
            case measure => have := HLT.out; simp [intOf]; omega
    · obtain rfl : k = n := by omega
      have hs := hS
      have q5 := (hs.blk 3 rfl).cell 0
      have z5 := (hs.blk 3 rfl).lt
      have z6 := (hs.blk 4 rfl).lt
      have q6 := (hs.blk 4 rfl).cell 0
      simp only [List.getElem?_toArray, List.getElem?_cons_zero, List.getElem?_cons_succ] at q5 q6
      have p5 : ∀ o, (wr.alloc o).cell? ⟨b5, 0, none⟩ = some (.pointer (some ⟨a, 0, none⟩)) := fun o => (World.cell?_alloc_past _ _ _ z5).trans q5
      have HS := Lib.hid hs
      clear hS hs z5 z6
      gi_wp2_with (gi_at_call 35; refine (calls_in (TAAll (HS.out.box #[.int .i64 0] 3) a)).mono ?_; rintro e w4 ⟨rfl, hs⟩; have HS4 := Lib.hid hs; clear hs)
      have hS5 := HS4.out.front 7 [0, 2]
      simp only [World.size_alloc] at hS5 ⊢
      obtain ⟨T, hT⟩ : ∃ T, wr.heap.size = T := ⟨_, rfl⟩
      rw [hT] at hS5 ⊢
      have HS5 := Lib.hid (show Sep w w4 (blkR (T + 1) 23 #[.pointer (some ⟨a, 0, none⟩)] :: arenaR a B :: blkR T 3 #[.int .i64 0] :: modelR mo B :: blkR b4 4 #[.bool false] :: blkR b5 23 #[.pointer (some ⟨a, 0, none⟩)] :: blkR (b5 + 1) 43 #[.pointer (some ⟨mo, 0, none⟩)] :: []) from hS5)
      clear hT hS5 HS4 p5 q5 q6
      have hfew := HWF.out.few
      refine wp_range (gf := 54) (lb := #[.pointer (some ⟨T + 1, 0, none⟩)]) rfl (enters_of Try.func54 (by kernel_rfl) rfl) (arena_iter (T + 1) a B) (fun _ => rfl) HS5.out
        (fun pre Rs => Rs = blkR T 3 #[.int .i64 ((pre.length : Nat) : Int)] :: modelR mo B :: blkR b4 4 #[.bool false] :: blkR b5 23 #[.pointer (some ⟨a, 0, none⟩)] :: blkR (b5 + 1) 43 #[.pointer (some ⟨mo, 0, none⟩)] :: []) (fun _ _ _ => False) rfl ?round ?done ?stop
      case stop => rintro _ _ _ _ _ _ h; exact h.elim
      case round =>
        rintro l1 D1 pre x _ G W1 r1 hpre rfl hS1
        simp only [List.cons_append, List.nil_append] at hS1
        have hpl : pre.length < 3000 := by
          have h1 := hpre.length_le
          have h2 : (elems (B.n * 32 + 1) B.tk).length ≤ B.n * 32 + 1 := by
            have := List.length_filter_le B.tk (List.range (B.n * 32 + 1))
            simpa [elems] using this
          simp at h1
          omega
        have hx := (mem_elems.1 (hpre.subset (by simp : x ∈ pre ++ [x]))).2
        have hxl := (HWF.out.lt hx).2.1
        have HX := Lib.hid hx
        have HS1 := Lib.hid hS1
        clear hpre hS1 HS5 hx
        gi_wp2
        refine ⟨[], HS1.out, ?_⟩
        intro r' W2 hS2
        simp only [List.cons_append, List.nil_append] at hS2
        obtain ⟨v, tb, hS3⟩ := model_open hS2 5 rfl
        simp only [modelParts, List.cons_append, List.nil_append, List.eraseIdx_cons_succ, List.eraseIdx_cons_zero] at hS3
        have hm1 := (hS3.blk 0 rfl).cell 1
        have hlk := map_look refIntOk hS3 2 rfl (x := (x : Int)) (wf_of (by omega) (by omega))
        rw [mdl_some, HWF.out.has, HX.out] at hlk
        generalize (B.mdl (x : Int)).getD 0 = z at hlk
        have ht0 := (hS2.blk 4 rfl).cell 0
        have h50 := (hS2.blk 7 rfl).cell 0
        have h60 := (hS2.blk 8 rfl).cell 0
        simp only [List.getElem?_toArray, List.getElem?_cons_zero, List.getElem?_cons_succ] at hm1 ht0 h50 h60
        have HS2 := Lib.hid hS2
        clear hS2 hS3
        gi_wp2_with (first
          | (gi_at_lookup; refine wpListIn_lookup_run rfl _ _ _ _ rfl rfl rfl hlk ?_)
          | (gi_at_call 36; refine (calls_round (TAHas HS2.out 1 rfl (x : Int))).mono ?_; rw [HWF.out.has, HX.out]; rintro e w5 ⟨rfl, hs⟩; have g0 := (hs.blk 4 rfl).cell 0; have g1 := (hs.blk 4 rfl).frozen 0; simp only [List.getElem?_toArray, List.getElem?_cons_zero] at g0; have HS3 := Lib.hid hs; clear hs))
        refine ⟨_, rfl, ?_⟩
        have := HS3.out.setCell 4 rfl 0 (.int .i64 ((pre.length : Int) + 1))
        simpa using this
      case done =>
        rintro D1 _ W1 rfl hS1
        simp only [List.cons_append, List.nil_append] at hS1
        have hS6 := hS1.front 5 [1, 3, 4]
        have hel := elems_length HWF.out
        obtain ⟨E, hE⟩ : ∃ E, (elems (B.n * 32 + 1) B.tk).length = E := ⟨_, rfl⟩
        obtain ⟨v, tb, hS7⟩ := model_open hS1 4 rfl
        simp only [modelParts, List.cons_append, List.nil_append, List.eraseIdx_cons_succ, List.eraseIdx_cons_zero] at hS7
        rw [hE] at hS7 hel
        obtain ⟨AA, cap, rfl, hcap, hcm⟩ := hS7.rowShape 1 rfl
        have hm0 := (hS7.blk 0 rfl).cell 0
        have hm1 := (hS7.blk 0 rfl).cell 1
        have hk0 := (hS7.blk 6 rfl).cell 0
        have h50 := (hS7.blk 8 rfl).cell 0
        have h60 := (hS7.blk 9 rfl).cell 0
        have h4f := (hS7.blk 7 rfl).frozen 0
        have h4c := (hS7.blk 7 rfl).cell 0
        simp only [List.getElem?_toArray, List.getElem?_cons_zero, List.getElem?_cons_succ] at hm0 hm1 hk0 h50 h60 h4c
        have htot : B.total.toNat = E := by omega
        rw [htot] at hS7
        have hlen := fun ty => map_len refIntOk hS7 2 rfl ty
        have HS7 := Lib.hid hS7
        have HS1 := Lib.hid hS1
        have HCELL := Lib.hid (fun q (hq : q < B.n) => (show ∃ g, AA = some ⟨g, 0, none⟩ ∧ W1.cell? ⟨g, q, none⟩ = some (.int .i64 (B.cls q)) by
          obtain ⟨g, cap', hsl, _, _⟩ := HS7.out.rowSome 1 rfl (by omega)
          simp only [Value.slice.injEq] at hsl
          obtain ⟨rfl, _, rfl⟩ := hsl
          exact ⟨g, rfl, HS7.out.rowCell 1 rfl q _ (clsL_get hq)⟩))
        clear hS1 hS6 hS7 hel hE htot HS5
        unfold maxLen at hcm
        gi_wp2
        gi_loop [130] (fun s => ∃ q : Nat, q ≤ B.n ∧ s = .int .i64 q) (fun s => B.n + 1 - (intOf s).toNat)
        case atStart => exact ⟨0, by omega, rfl⟩
        case round =>
          obtain ⟨q, hq, rfl⟩ := hrel
          by_cases hqn : q < B.n
          · obtain ⟨g, rfl, hck⟩ := HCELL.out q hqn
            have hcz : B.clsZ (q : Int) = B.cls q := by unfold AR.clsZ; rw [if_pos (by omega)]; simp
            have HCZ := Lib.hid hcz
            have HQN := Lib.hid hqn
            clear hcz
            gi_wp2_with (gi_at_call 26; refine (calls_in (TAClass HS1.out 1 rfl (q : Int))).mono ?_; rw [HCZ.out]; rintro e w' ⟨rfl, rfl⟩)
            go_round
            case rel => exact ⟨q + 1, HQN.out, by go_num⟩
            case measure => have := HQN.out; simp [intOf]; omega
          · obtain rfl : q = B.n := by omega
            have hsz : B.size = 32 * (m : Int) + 1 := by have := HBN.out; unfold AR.size; omega
            have hmul : IntKind.i64.wrap (32 * (m : Int)) = 32 * (m : Int) := by rw [IntKind.wrap_i64]; omega
            have hadd : IntKind.i64.wrap (32 * (m : Int) + 1) = 32 * (m : Int) + 1 := by rw [IntKind.wrap_i64]; omega
            have HSZ := Lib.hid hsz
            clear hq hqn hsz
            gi_wp2
            have HSD := Lib.hid HS1.out.drew
            have hlen2 := fun ty => map_len refIntOk HS7.out.drew 2 rfl ty
            have hpg := TAPages HSD.out 1 rfl
            have hsz := TASize HSD.out 1 rfl
            rw [HBN.out] at hpg
            rw [HSZ.out] at hsz
            have HPG := Lib.hid hpg
            have HSI := Lib.hid hsz
            clear hpg hsz
            refine wpIn_wide.2 ?_
            refine wp_region_still_tail 21 (by kernel_rfl) (by kernel_rfl) ?_
            change wpStill _ _ (World.drew _) (fun a' => wpList _ _ _ _ a' (World.drew _)) _ _
            simp only [List.take_succ_cons, List.take_zero, List.drop_succ_cons, List.drop_zero]
            repeat (first
              | still_step
              | still_call (HPG.out.mono (fun _ _ h => ⟨h.1, h.2.symm⟩))
              | still_call (HSI.out.mono (fun _ _ h => ⟨h.1, h.2.symm⟩)))
            refine wpStill_nil ?_
            go_wp2
            gi_wp2
            refine leaves_box ((HS1.out.setCell 5 rfl 0 (.bool true)).drew) 2 rfl 5 rfl (by decide) rfl rfl ?_
            intro w' hS
            exact ⟨rfl, hS.below⟩
end Go.Proofs.Ytapbphbnffggnaa
