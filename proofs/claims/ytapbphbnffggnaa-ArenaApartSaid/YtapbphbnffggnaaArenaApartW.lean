/-
  The walk of ArenaApart. Conditions: as the theorem says.
-/
import Derived.Test.YtapbphbnffggnaaOpen
import Derived.Test.YtapbphbnffggnaaFit03
import Derived.Test.YtapbphbnffggnaaArenaCells
import Derived.Test.YtapbphbnffggnaaArCells
import Derived.Test.YtapbphbnffggnaaModel3
import Derived.Test.YtapbphbnffggnaaResult
import Derived.LoopNIn
namespace Go.Proofs.Ytapbphbnffggnaa
set_option linter.unusedVariables false
set_option linter.unusedSimpArgs false
open Go.RowKit Go.Shelf
attribute [local go_sem] Oper.semAt_some wide_fn round_fn wide_depth round_depth
attribute [local simp] wide_fn round_fn wide_depth round_depth

/-- The return of a function that held three loops over functions. -/
theorem leaves_box3 {fn : Func} {tmps : Array Value} {D1 D2 D3 : Nat} {w0 w : World} {r0 r1 : Res} {L : List Res} {Rt : Ending → World → Prop} {s : Tmp} {b : Nat} {x : Bool}
    (S : Sep w0 w (r0 :: objR D3 (.deferred (some [])) :: objR D2 (.deferred (some [])) :: objR D1 (.deferred (some [])) :: r1 :: blkR b 4 #[.bool x] :: L))
    (h : fn.results = #[.cell s 4]) (hp : tmps.getD s undef = .pointer (some ⟨b, 0, none⟩)) (hR : ∀ w' L', Sep w0 w' L' → Rt (.returned (.bool x)) w') :
    LeavesInM Fence.wide 0 Try.prog fn tmps Rt [{ target := .collected D3, args := #[] }, { target := .collected D2, args := #[] }, { target := .collected D1, args := #[] }] .returning w := by
  have S3 := S.putObj 1 rfl (.deferred none)
  have S2 := S3.putObj 2 rfl (.deferred none)
  have S1 := S2.putObj 3 rfl (.deferred none)
  refine ⟨by simp, .inl ⟨D3, _, rfl, run_takeDeferred (S.obj (i := 1) rfl), ?_⟩⟩
  refine ⟨by simp, .inl ⟨D2, _, rfl, run_takeDeferred (S3.obj (i := 2) rfl), ?_⟩⟩
  refine ⟨by simp, .inl ⟨D1, _, rfl, run_takeDeferred (S2.obj (i := 3) rfl), ?_⟩⟩
  have hc := (S1.blk 5 rfl).cell 0
  simp only [List.getElem?_toArray, List.getElem?_cons_zero] at hc
  exact ⟨_, results_bool h hp hc, hR _ _ S1⟩

set_option maxRecDepth 100000 in
set_option maxHeartbeats 8000000 in
theorem arenaApart_walk (A : Option Addr) (n c : Nat) (D : Nat → Nat → Int) (w : World) (hz : ArgI w A n [.i64, .i64] D) (hm : n ≤ maxLen) :
    Calls Try.prog 6 #[.slice A n c] w fun e w' => e = .returned (.bool true) ∧ Below w.heap.size w w' := by
  have HZ := Lib.hid hz
  unfold maxLen at hm
  clear hz
  refine calls_wide ?_
  refine callsIn_of_wp_marks Try.func6 rfl trivial ?_
  simp only [Try.ntmps6, List.size_toArray, List.length_cons, List.length_nil, Nat.reduceAdd, Nat.reduceSub, Array.replicate_succ, Array.replicate_zero, List.push_toArray, List.append_toArray, List.nil_append, List.cons_append]
  have HSI := Lib.hid ((Sep.start w).box #[.bool false] 4)
  by_cases hn : 80 < n
  · gi_wp2_with (gi_at_call 17; refine (calls_in (fit03 _)).mono ?_; rintro e w1 ⟨rfl, hC⟩; have hs := HSI.out.same hC; clear hC; have q0 := (hs.blk 0 rfl).cell 0; have q1 := (hs.blk 0 rfl).frozen 0; simp only [List.getElem?_toArray, List.getElem?_cons_zero] at q0; have HS0 := Lib.hid hs; clear hs)
    exact leaves_box0 (HS0.out.setCell 0 rfl 0 (.bool true)) 0 rfl rfl rfl ⟨rfl, (HS0.out.setCell 0 rfl 0 (.bool true)).below⟩
  gi_wp2_with (first
    | (gi_at_call 17; refine (calls_in (fit03 _)).mono ?_; rintro e w1 ⟨rfl, hC⟩; have HS0 := Lib.hid (HSI.out.same hC); clear hC)
    | (gi_at_call 18; refine (calls_in (TANew HS0.out 3 3 (by omega))).mono ?_; rintro e w2 ⟨a, ids, rfl, hs⟩; have HS2 := Lib.hid hs; clear hs HS0)
    | (gi_at_call 29; refine (calls_in (MBegin HS2.out 3 (by omega) ids)).mono ?_; rintro e w3 ⟨mo, rfl, hs⟩; have HS3 := Lib.hid hs; clear hs HS2))
  have HW0 := Lib.hid (AR.new_wf 3 ids (by omega))
  have hS4 := HS3.out.box #[.pointer (some ⟨a, 0, none⟩)] 23
  have hS5 := hS4.front 4 [2, 1, 3, 0]
  obtain ⟨b5, hb5⟩ : ∃ b5, w3.heap.size = b5 := ⟨_, rfl⟩
  obtain ⟨b4, hb4⟩ : ∃ b4, w.heap.size = b4 := ⟨_, rfl⟩
  simp only [hb5, hb4] at hS5 ⊢
  have HS5 := Lib.hid (show Sep w _ (arenaR a (AR.new 3 ids) :: modelR mo (AR.new 3 ids) :: blkR b4 4 #[.bool false] :: blkR b5 23 #[.pointer (some ⟨a, 0, none⟩)] :: []) from hS5)
  clear hS4 hS5 HS3 HSI hb5
  gi_loopw [25] (fun i wr => ∃ (k : Nat) (B : AR), k ≤ n ∧ i = .int .i64 k ∧ B.Wf ∧ B.n = 3 ∧ Sep w wr (arenaR a B :: modelR mo B :: blkR b4 4 #[.bool false] :: blkR b5 23 #[.pointer (some ⟨a, 0, none⟩)] :: [])) (fun i _ => n + 1 - (intOf i).toNat)
  case atStart => exact ⟨0, _, by omega, rfl, HW0.out, rfl, HS5.out⟩
  case round =>
    obtain ⟨k, B, hk, rfl, hwf, hBn, hS⟩ := hrel
    clear HS5 HW0
    have HWF := Lib.hid hwf
    have HBN := Lib.hid hBn
    clear hwf hBn
    have hun : ∀ b, some undef = some (Value.bool b) → False := by intro b h; simp [undef] at h
    have hro : Try.prog.follows .mixedOrders = true := by kernel_rfl
    by_cases hlt : k < n
    · have HLT := Lib.hid hlt
      obtain ⟨ab, ao, rfl, hcell⟩ := HZ.out.at_ hS.own hlt
      have hc0 := hcell 0 _ rfl
      have hc1 := hcell 1 _ rfl
      simp at hc0 hc1
      have hwN := HZ.out.wf hlt 1 _ rfl
      obtain ⟨num, hnum⟩ : ∃ num, D k 1 = num := ⟨_, rfl⟩
      rw [hnum] at hc1 hwN
      obtain ⟨kd, hkd⟩ : ∃ kd, D k 0 = kd := ⟨_, rfl⟩
      rw [hkd] at hc0
      have hx3 := and_3 kd
      obtain ⟨k3, hk3⟩ : ∃ k3, kd % 4 = k3 := ⟨_, rfl⟩
      rw [hk3] at hx3
      have hk30 : 0 ≤ k3 ∧ k3 ≤ 3 := by omega
      have hs := hS.box #[.int .i64 kd, .int .i64 num] 34
      have q0 := (hs.blk 0 rfl).cell 0; have q1 := (hs.blk 0 rfl).cell 1; have q4 := (hs.blk 3 rfl).frozen 0; have q4c := (hs.blk 3 rfl).cell 0; have q5 := (hs.blk 4 rfl).cell 0; simp only [List.getElem?_toArray, List.getElem?_cons_zero, List.getElem?_cons_succ] at q0 q1 q4c q5
      have HS := Lib.hid hs
      clear hs hcell hnum hkd hk3 hlt
      by_cases h3 : k3 = 3
      · subst h3
        have hr63 := nth_wf HWF.out num
        obtain ⟨rv, hrv⟩ : ∃ rv, B.nth num = rv := ⟨_, rfl⟩
        have HRV := Lib.hid hrv
        rw [hrv] at hr63
        have HG := Lib.hid (HWF.out.give_wf rv)
        have HN := Lib.hid ((give_n B rv).trans HBN.out)
        clear hrv hS
        gi_wp2_with (first
          | (gi_at_call 30; refine (calls_in (MNth HS.out 2 rfl HWF.out num)).mono ?_; rw [HRV.out]; rintro e w4 ⟨rfl, hs⟩; have q0 := (hs.blk 0 rfl).cell 0; have q1 := (hs.blk 0 rfl).cell 1; have q4 := (hs.blk 3 rfl).frozen 0; have q4c := (hs.blk 3 rfl).cell 0; have q5 := (hs.blk 4 rfl).cell 0; simp only [List.getElem?_toArray, List.getElem?_cons_zero, List.getElem?_cons_succ] at q0 q1 q4c q5; have HS6 := Lib.hid hs; clear hs)
          | (gi_at_call 31; refine (calls_in (MGive HS6.out 2 rfl HWF.out rv hr63)).mono ?_; rintro e w5 ⟨rfl, hs⟩; have q0 := (hs.blk 0 rfl).cell 0; have q1 := (hs.blk 0 rfl).cell 1; have q4 := (hs.blk 3 rfl).frozen 0; have q4c := (hs.blk 3 rfl).cell 0; have q5 := (hs.blk 4 rfl).cell 0; simp only [List.getElem?_toArray, List.getElem?_cons_zero, List.getElem?_cons_succ] at q0 q1 q4c q5; have HS7 := Lib.hid hs; clear hs)
          | (gi_at_call 24; refine (calls_in (TAGive HS7.out 1 rfl HWF.out rv)).mono ?_; rintro e w6 ⟨rfl, hs⟩; have HS8 := Lib.hid hs; clear hs))
        go_roundw
        case rel => exact ⟨k + 1, B.give rv, HLT.out, by go_num, HG.out, HN.out, HS8.out.tail⟩
        case measure => have := HLT.out; simp [intOf]; omega
      · have hne3 : (k3 == 3) = false := by simpa using h3
        have hne3' : ¬ k3 = 3 := h3
        clear h3
        obtain ⟨T, hT⟩ : ∃ T, wr.heap.size = T := ⟨_, rfl⟩
        have hs2 := HS.out.box #[.int .i64 0, .int .i64 0, .int .i64 0] 46
        rw [World.size_alloc] at hs2
        rw [hT] at HS hs2 q0 q1
        have HS0 := Lib.hid hs2
        clear hs2 hS
        gi_wp2
        simp only [HLT.out, decide_true]
        clear HS hT
        gi_loopw [43] (fun i wr => ∃ (j : Nat) (x y z : Int), j ≤ 3 ∧ i = .int .i64 j ∧ (1 ≤ j → x = B.cls 0) ∧ (2 ≤ j → y = B.cls 1) ∧ (3 ≤ j → z = B.cls 2) ∧ Sep w wr (blkR (T + 1) 46 #[.int .i64 x, .int .i64 y, .int .i64 z] :: blkR T 34 #[.int .i64 kd, .int .i64 num] :: arenaR a B :: modelR mo B :: blkR b4 4 #[.bool false] :: blkR b5 23 #[.pointer (some ⟨a, 0, none⟩)] :: [])) (fun i _ => 4 - (intOf i).toNat)
        case atStart => exact ⟨0, 0, 0, 0, by omega, rfl, by omega, by omega, by omega, HS0.out⟩
        case round =>
          obtain ⟨j, x, y, z, hj, rfl, hx, hy, hz, hs⟩ := hrel
          clear HS0 q0 q1 q4 q4c q5
          have e0 := (hs.blk 0 rfl).cell 0
          have e1 := (hs.blk 0 rfl).cell 1
          have e2 := (hs.blk 0 rfl).cell 2
          have e3 := (hs.blk 0 rfl).frozen 0
          have e4 := (hs.blk 0 rfl).frozen 1
          have e5 := (hs.blk 0 rfl).frozen 2
          have q0 := (hs.blk 1 rfl).cell 0
          have q1 := (hs.blk 1 rfl).cell 1
          have q4 := (hs.blk 4 rfl).frozen 0
          have q4c := (hs.blk 4 rfl).cell 0
          have q5 := (hs.blk 5 rfl).cell 0
          simp only [List.getElem?_toArray, List.getElem?_cons_zero, List.getElem?_cons_succ] at e0 e1 e2 q0 q1 q4c q5
          have HS := Lib.hid hs
          clear hs
          have HX := Lib.hid hx
          have HY := Lib.hid hy
          have HZZ := Lib.hid hz
          clear hx hy hz
          have HCLS := Lib.hid (fun (X : AR) (hX : X.n = 3) (q : Nat) (hq : q < 3) => (show X.clsZ (q : Int) = X.cls q by unfold AR.clsZ; rw [if_pos (by omega)]; simp))
          rcases (by omega : j = 0 ∨ j = 1 ∨ j = 2 ∨ j = 3) with rfl | rfl | rfl | rfl
          · have HC := Lib.hid (show B.clsZ (0 : Int) = B.cls 0 from HCLS.out B HBN.out 0 (by omega))
            gi_wp2_with (gi_at_call 26; refine (calls_in (TAClass HS.out 2 rfl (0 : Int))).mono ?_; rw [HC.out]; rintro e w' ⟨rfl, rfl⟩)
            go_roundw
            case rel => exact ⟨1, B.cls 0, y, z, by omega, by go_num, fun _ => rfl, fun h => absurd h (by omega), fun h => absurd h (by omega), HS.out.setCell 0 rfl 0 (.int .i64 (B.cls 0))⟩
            case measure => simp [intOf]
          · have HC := Lib.hid (show B.clsZ (1 : Int) = B.cls 1 from HCLS.out B HBN.out 1 (by omega))
            gi_wp2_with (gi_at_call 26; refine (calls_in (TAClass HS.out 2 rfl (1 : Int))).mono ?_; rw [HC.out]; rintro e w' ⟨rfl, rfl⟩)
            go_roundw
            case rel => exact ⟨2, x, B.cls 1, z, by omega, by go_num, fun _ => HX.out (by omega), fun _ => rfl, fun h => absurd h (by omega), HS.out.setCell 0 rfl 1 (.int .i64 (B.cls 1))⟩
            case measure => simp [intOf]
          · have HC := Lib.hid (show B.clsZ (2 : Int) = B.cls 2 from HCLS.out B HBN.out 2 (by omega))
            gi_wp2_with (gi_at_call 26; refine (calls_in (TAClass HS.out 2 rfl (2 : Int))).mono ?_; rw [HC.out]; rintro e w' ⟨rfl, rfl⟩)
            go_roundw
            case rel => exact ⟨3, x, y, B.cls 2, by omega, by go_num, fun _ => HX.out (by omega), fun _ => HY.out (by omega), fun _ => rfl, HS.out.setCell 0 rfl 2 (.int .i64 (B.cls 2))⟩
            case measure => simp [intOf]
          · obtain rfl := HX.out (by omega)
            obtain rfl := HY.out (by omega)
            obtain rfl := HZZ.out (by omega)
            clear HX HY HZZ
            cases ht : B.take k3 with
            | none =>
              have HT := Lib.hid ht
              clear ht
              gi_wp2_with (first
                | (gi_at_call 22; refine (calls_in (TATake HS.out 2 rfl HWF.out k3)).mono ?_; rw [takeA_none HT.out, HT.out, takeV_none]; rintro e w5 ⟨rfl, hs⟩; have e0 := (hs.blk 0 rfl).cell 0; have e1 := (hs.blk 0 rfl).cell 1; have e2 := (hs.blk 0 rfl).cell 2; have q0 := (hs.blk 1 rfl).cell 0; have q1 := (hs.blk 1 rfl).cell 1; have q4 := (hs.blk 4 rfl).frozen 0; have q4c := (hs.blk 4 rfl).cell 0; have q5 := (hs.blk 5 rfl).cell 0; simp only [List.getElem?_toArray, List.getElem?_cons_zero, List.getElem?_cons_succ] at e0 e1 e2 q0 q1 q4c q5; have HS7 := Lib.hid hs; clear hs)
                | (gi_at_call 32; refine (calls_in (MTake HS7.out 3 rfl HWF.out k3)).mono ?_; rw [takeA_none HT.out, HT.out, takeV_none]; rintro e w6 ⟨rfl, hs⟩; have e0 := (hs.blk 0 rfl).cell 0; have e1 := (hs.blk 0 rfl).cell 1; have e2 := (hs.blk 0 rfl).cell 2; have q0 := (hs.blk 1 rfl).cell 0; have q1 := (hs.blk 1 rfl).cell 1; have q4 := (hs.blk 4 rfl).frozen 0; have q4c := (hs.blk 4 rfl).cell 0; have q5 := (hs.blk 5 rfl).cell 0; simp only [List.getElem?_toArray, List.getElem?_cons_zero, List.getElem?_cons_succ] at e0 e1 e2 q0 q1 q4c q5; have HS8 := Lib.hid hs; clear hs))
              clear HS7 HS
              gi_loop [65] (fun s => ∃ q : Nat, q ≤ 3 ∧ s = .int .i64 q) (fun s => 4 - (intOf s).toNat)
              case atStart => exact ⟨0, by omega, rfl⟩
              case round =>
                obtain ⟨q, hq, rfl⟩ := hrel
                rcases (by omega : q = 0 ∨ q = 1 ∨ q = 2 ∨ q = 3) with rfl | rfl | rfl | rfl
                · gi_wp2_with (first | (gi_at_call 26; refine (calls_in (TAClass HS8.out 2 rfl (0 : Int))).mono ?_; rw [show B.clsZ (0 : Int) = B.cls 0 from HCLS.out B HBN.out 0 (by omega)]; rintro e w' ⟨rfl, rfl⟩) | (gi_at_call 27; refine (hun _ ?_).elim; assumption))
                  go_round
                  case rel => exact ⟨1, by omega, by go_num⟩
                  case measure => simp [intOf]
                · gi_wp2_with (first | (gi_at_call 26; refine (calls_in (TAClass HS8.out 2 rfl (1 : Int))).mono ?_; rw [show B.clsZ (1 : Int) = B.cls 1 from HCLS.out B HBN.out 1 (by omega)]; rintro e w' ⟨rfl, rfl⟩) | (gi_at_call 27; refine (hun _ ?_).elim; assumption))
                  go_round
                  case rel => exact ⟨2, by omega, by go_num⟩
                  case measure => simp [intOf]
                · gi_wp2_with (first | (gi_at_call 26; refine (calls_in (TAClass HS8.out 2 rfl (2 : Int))).mono ?_; rw [show B.clsZ (2 : Int) = B.cls 2 from HCLS.out B HBN.out 2 (by omega)]; rintro e w' ⟨rfl, rfl⟩) | (gi_at_call 27; refine (hun _ ?_).elim; assumption))
                  go_round
                  case rel => exact ⟨3, by omega, by go_num⟩
                  case measure => simp [intOf]
                · gi_wp2
                  go_roundw
                  case rel => exact ⟨k + 1, B, HLT.out, by go_num, HWF.out, HBN.out, HS8.out.tail.tail⟩
                  case measure => have := HLT.out; simp [intOf]; omega
            | some y =>
              obtain ⟨rr, B'⟩ := y
              obtain ⟨p, q, hti⟩ := HWF.out.take_spec ht
              have HT := Lib.hid ht
              have HTI := Lib.hid hti
              have HBN2 := Lib.hid (hti.n.trans HBN.out)
              have htk : B'.tk rr = true := by rw [hti.tk]; simp
              obtain ⟨p', _, -, -, -, -, -, hpg, -, hdiv⟩ := hti.wf.at_ htk
              obtain rfl : p = p' := by
                have h1 := (ref_in (p := p) hti.cell).2.2.2.1
                rw [← hti.ref] at h1
                omega
              have hlr := (hti.wf.lt htk).2.1
              rw [HBN2.out] at hlr
              have HPG := Lib.hid hpg
              have HNOW := Lib.hid (fun (j : Nat) => (show B'.cls j = B.cls j ∨ (B.cls j = -1 ∧ B'.cls j = k3 ∧ B'.page (rr : Int) = (j : Int)) by
                rw [hti.cls]
                by_cases hjp : j = p
                · subst hjp
                  rcases hti.was with h | h
                  · left; simp [updN, h]
                  · right; exact ⟨h, by simp [updN], hpg⟩
                · left; simp [updN, hjp]))
              clear ht hti hpg hdiv htk
              gi_wp2_with (first
                | (gi_at_call 22; refine (calls_in (TATake HS.out 2 rfl HWF.out k3)).mono ?_; rw [takeA_some HT.out, HT.out, takeV_some]; rintro e w5 ⟨rfl, hs⟩; have e0 := (hs.blk 0 rfl).cell 0; have e1 := (hs.blk 0 rfl).cell 1; have e2 := (hs.blk 0 rfl).cell 2; have q0 := (hs.blk 1 rfl).cell 0; have q1 := (hs.blk 1 rfl).cell 1; have q4 := (hs.blk 4 rfl).frozen 0; have q4c := (hs.blk 4 rfl).cell 0; have q5 := (hs.blk 5 rfl).cell 0; simp only [List.getElem?_toArray, List.getElem?_cons_zero, List.getElem?_cons_succ] at e0 e1 e2 q0 q1 q4c q5; have HS7 := Lib.hid hs; clear hs)
                | (gi_at_call 32; refine (calls_in (MTake HS7.out 3 rfl HWF.out k3)).mono ?_; rw [takeA_some HT.out, HT.out, takeV_some]; rintro e w6 ⟨rfl, hs⟩; have e0 := (hs.blk 0 rfl).cell 0; have e1 := (hs.blk 0 rfl).cell 1; have e2 := (hs.blk 0 rfl).cell 2; have q0 := (hs.blk 1 rfl).cell 0; have q1 := (hs.blk 1 rfl).cell 1; have q4 := (hs.blk 4 rfl).frozen 0; have q4c := (hs.blk 4 rfl).cell 0; have q5 := (hs.blk 5 rfl).cell 0; simp only [List.getElem?_toArray, List.getElem?_cons_zero, List.getElem?_cons_succ] at e0 e1 e2 q0 q1 q4c q5; have HS8 := Lib.hid (show Sep w w6 (blkR (T + 1) 46 #[.int .i64 (B.cls 0), .int .i64 (B.cls 1), .int .i64 (B.cls 2)] :: blkR T 34 #[.int .i64 kd, .int .i64 num] :: arenaR a B' :: modelR mo B' :: blkR b4 4 #[.bool false] :: blkR b5 23 #[.pointer (some ⟨a, 0, none⟩)] :: []) from hs); clear hs))
              clear HS7 HS
              gi_loop [65] (fun s => ∃ q : Nat, q ≤ 3 ∧ s = .int .i64 q) (fun s => 4 - (intOf s).toNat)
              case atStart => exact ⟨0, by omega, rfl⟩
              case round =>
                obtain ⟨q, hq, rfl⟩ := hrel
                rcases (by omega : q = 0 ∨ q = 1 ∨ q = 2 ∨ q = 3) with rfl | rfl | rfl | rfl
                · rcases HNOW.out 0 with h | ⟨h1, h2, h3⟩
                  · have HH := Lib.hid h
                    clear h
                    gi_wp2_with (first | (gi_at_call 26; refine (calls_in (TAClass HS8.out 2 rfl (0 : Int))).mono ?_; rw [show B'.clsZ (0 : Int) = B'.cls 0 from HCLS.out B' HBN2.out 0 (by omega), HH.out]; rintro e w' ⟨rfl, rfl⟩) | (gi_at_call 27; refine (hun _ ?_).elim; assumption))
                    go_round
                    case rel => exact ⟨1, by omega, by go_num⟩
                    case measure => simp [intOf]
                  · rw [h1] at e0
                    have HH := Lib.hid h2
                    have HP := Lib.hid h3
                    have hk3n : (k3 == -1) = false := by simp; omega
                    have hk3m : ¬ k3 = -1 := by omega
                    clear h1 h2 h3
                    gi_wp2_with (first
                      | (gi_at_call 26; refine (calls_in (TAClass HS8.out 2 rfl (0 : Int))).mono ?_; rw [show B'.clsZ (0 : Int) = B'.cls 0 from HCLS.out B' HBN2.out 0 (by omega), HH.out]; rintro e w' ⟨rfl, rfl⟩)
                      | (gi_at_call 27; refine (calls_in (TAPage HS8.out 2 rfl (rr : Int) (by omega))).mono ?_; rw [HP.out]; rintro e w' ⟨rfl, rfl⟩))
                    go_round
                    case rel => exact ⟨1, by omega, by go_num⟩
                    case measure => simp [intOf]
                · rcases HNOW.out 1 with h | ⟨h1, h2, h3⟩
                  · have HH := Lib.hid h
                    clear h
                    gi_wp2_with (first | (gi_at_call 26; refine (calls_in (TAClass HS8.out 2 rfl (1 : Int))).mono ?_; rw [show B'.clsZ (1 : Int) = B'.cls 1 from HCLS.out B' HBN2.out 1 (by omega), HH.out]; rintro e w' ⟨rfl, rfl⟩) | (gi_at_call 27; refine (hun _ ?_).elim; assumption))
                    go_round
                    case rel => exact ⟨2, by omega, by go_num⟩
                    case measure => simp [intOf]
                  · rw [h1] at e1
                    have HH := Lib.hid h2
                    have HP := Lib.hid h3
                    have hk3n : (k3 == -1) = false := by simp; omega
                    have hk3m : ¬ k3 = -1 := by omega
                    clear h1 h2 h3
                    gi_wp2_with (first
                      | (gi_at_call 26; refine (calls_in (TAClass HS8.out 2 rfl (1 : Int))).mono ?_; rw [show B'.clsZ (1 : Int) = B'.cls 1 from HCLS.out B' HBN2.out 1 (by omega), HH.out]; rintro e w' ⟨rfl, rfl⟩)
                      | (gi_at_call 27; refine (calls_in (TAPage HS8.out 2 rfl (rr : Int) (by omega))).mono ?_; rw [HP.out]; rintro e w' ⟨rfl, rfl⟩))
                    go_round
                    case rel => exact ⟨2, by omega, by go_num⟩
                    case measure => simp [intOf]
                · rcases HNOW.out 2 with h | ⟨h1, h2, h3⟩
                  · have HH := Lib.hid h
                    clear h
                    gi_wp2_with (first | (gi_at_call 26; refine (calls_in (TAClass HS8.out 2 rfl (2 : Int))).mono ?_; rw [show B'.clsZ (2 : Int) = B'.cls 2 from HCLS.out B' HBN2.out 2 (by omega), HH.out]; rintro e w' ⟨rfl, rfl⟩) | (gi_at_call 27; refine (hun _ ?_).elim; assumption))
                    go_round
                    case rel => exact ⟨3, by omega, by go_num⟩
                    case measure => simp [intOf]
                  · rw [h1] at e2
                    have HH := Lib.hid h2
                    have HP := Lib.hid h3
                    have hk3n : (k3 == -1) = false := by simp; omega
                    have hk3m : ¬ k3 = -1 := by omega
                    clear h1 h2 h3
                    gi_wp2_with (first
                      | (gi_at_call 26; refine (calls_in (TAClass HS8.out 2 rfl (2 : Int))).mono ?_; rw [show B'.clsZ (2 : Int) = B'.cls 2 from HCLS.out B' HBN2.out 2 (by omega), HH.out]; rintro e w' ⟨rfl, rfl⟩)
                      | (gi_at_call 27; refine (calls_in (TAPage HS8.out 2 rfl (rr : Int) (by omega))).mono ?_; rw [HP.out]; rintro e w' ⟨rfl, rfl⟩))
                    go_round
                    case rel => exact ⟨3, by omega, by go_num⟩
                    case measure => simp [intOf]
                · gi_wp2
                  go_roundw
                  case rel => exact ⟨k + 1, B', HLT.out, by go_num, HTI.out.wf, HBN2.out, HS8.out.tail.tail⟩
                  case measure => have := HLT.out; simp [intOf]; omega
    · obtain rfl : k = n := by omega
      have HCLS := Lib.hid (fun (q : Nat) (hq : q < 3) => (show B.clsZ (q : Int) = B.cls q by have := HBN.out; unfold AR.clsZ; rw [if_pos (by omega)]; simp))
      have HREF := Lib.hid (fun (p x : Nat) (hp : p < 3) (hx : x ∈ B.cellsOf (p : Int)) => (show ∃ wv : Int, wordsZ (B.cls p) = wv ∧ (wv == 0) = false ∧ 1 ≤ wv ∧ wv ≤ 8 ∧ ((x : Int) - 1).tmod wv = 0 ∧ 1 ≤ x ∧ x < 97 by
        have hb := HBN.out
        obtain ⟨htk, hpx⟩ := (mem_cellsOf HWF.out (by omega)).1 hx
        obtain ⟨p', q, hp', h0, h2, hq, href, _, _, hdiv⟩ := HWF.out.at_ htk
        have hl := HWF.out.lt htk
        obtain rfl : p' = p := by omega
        have hw1 := words_wN (B.cls p')
        have hrr : x = p' * 32 + q * wN (B.cls p') + 1 := href
        rcases class_nat _ (show 0 < cN (B.cls p') by omega) with ⟨_, _, h⟩ | ⟨_, _, h⟩ | ⟨_, _, h⟩
        all_goals
          rw [h] at hw1 hrr
          refine ⟨_, hw1, by decide, by omega, by omega, ?_, by omega, by omega⟩
          rw [Int.tmod_eq_emod_of_nonneg (by omega)]
          omega))
      have hS0 := hS
      have HS0 := Lib.hid hS0
      clear hS hS0 hlt hk
      gi_wp2
      refine wpIn_loop_rounds 4 ?_
      rw [roundsIn_succ]
      have hbox := HS0.out.box #[.int .i64 (0 : Int)] 3
      have g5 := (hbox.blk 4 rfl).cell 0
      have g0 := (hbox.blk 0 rfl).cell 0
      simp only [List.getElem?_toArray, List.getElem?_cons_zero, List.getElem?_cons_succ] at g5 g0
      have HB := Lib.hid hbox
      clear hbox
      gi_wp2_with (gi_at_call 28; refine (calls_in (TACells HB.out a (0 : Int))).mono ?_; rintro e w4 ⟨rfl, hs⟩; have HS4 := Lib.hid hs; clear hs)
      have hS5 := HS4.out.front 4 [1, 0, 3, 2]
      simp only [World.size_alloc] at hS5 ⊢
      obtain ⟨T, hT⟩ : ∃ T, wr.heap.size = T := ⟨_, rfl⟩
      rw [hT] at hS5 ⊢
      have HS5 := Lib.hid (show Sep w w4 (blkR (T + 1) 23 #[.pointer (some ⟨a, 0, none⟩)] :: blkR (T + 1 + 1) 3 #[.int .i64 (0 : Int)] :: arenaR a B :: blkR T 3 #[.int .i64 (0 : Int)] :: modelR mo B :: blkR b4 4 #[.bool false] :: blkR b5 23 #[.pointer (some ⟨a, 0, none⟩)] :: []) from hS5)
      clear hT hS5 HS4 HB g5 g0 HS0
      refine wp_range (gf := 53) (lb := #[.pointer (some ⟨T + 1, 0, none⟩), .pointer (some ⟨T + 1 + 1, 0, none⟩)]) rfl (enters_of Try.func53 (by kernel_rfl) rfl) (cells_iter (T + 1) (T + 1 + 1) a (0 : Int) B HWF.out) (fun _ => rfl) HS5.out
        (fun pre Rs => Rs = blkR T 3 #[.int .i64 (0 : Int)] :: modelR mo B :: blkR b4 4 #[.bool false] :: blkR b5 23 #[.pointer (some ⟨a, 0, none⟩)] :: []) (fun _ _ _ => False) rfl ?round0 ?done0 ?stop0
      case stop0 => rintro _ _ _ _ _ _ h; exact h.elim
      case round0 =>
        rintro l1 DD pre x _ G V1 r1 hpre rfl hS1
        simp only [List.cons_append, List.nil_append] at hS1
        obtain ⟨wv, hwv, hwz, hw1, hw8, hrem, hx1, hx97⟩ := HREF.out 0 x (by omega) (hpre.subset (by simp))
        have HWV := Lib.hid hwv
        have HS1 := Lib.hid hS1
        clear hpre hS1 HS5 hwv
        gi_wp2
        refine ⟨[], HS1.out, ?_⟩
        intro r' V2 hS2
        simp only [List.cons_append, List.nil_append] at hS2
        have g0 := (hS2.blk 5 rfl).cell 0
        have g5 := (hS2.blk 8 rfl).cell 0
        simp only [List.getElem?_toArray, List.getElem?_cons_zero, List.getElem?_cons_succ] at g5 g0
        have HS2 := Lib.hid hS2
        clear hS2 HS1
        gi_wp2_with (first
          | (gi_at_call 26; refine (calls_round (TAClass HS2.out 2 rfl (0 : Int))).mono ?_; rw [show B.clsZ (0 : Int) = B.cls 0 from HCLS.out 0 (by omega)]; rintro e w' ⟨rfl, rfl⟩)
          | (gi_at_call 33; refine (calls_round (Words (B.cls 0) _)).mono ?_; rw [HWV.out]; rintro e w' ⟨rfl, rfl⟩))
        refine ⟨_, rfl, ?_⟩
        simpa using HS2.out
      rintro D1 _ W1 rfl hS1
      simp only [List.cons_append, List.nil_append] at hS1
      have HS0 := Lib.hid (show Sep w W1 (arenaR a B :: objR D1 (.deferred (some [])) :: modelR mo B :: blkR b4 4 #[.bool false] :: blkR b5 23 #[.pointer (some ⟨a, 0, none⟩)] :: []) from (hS1.front 5 [0, 1, 4]).tail.tail.tail)
      clear hS1 HS5
      gi_wp2
      rw [roundsIn_succ]
      have hbox := HS0.out.box #[.int .i64 (1 : Int)] 3
      have g5 := (hbox.blk 5 rfl).cell 0
      have g0 := (hbox.blk 0 rfl).cell 0
      simp only [List.getElem?_toArray, List.getElem?_cons_zero, List.getElem?_cons_succ] at g5 g0
      have HB := Lib.hid hbox
      clear hbox
      gi_wp2_with (gi_at_call 28; refine (calls_in (TACells HB.out a (1 : Int))).mono ?_; rintro e w4 ⟨rfl, hs⟩; have HS4 := Lib.hid hs; clear hs)
      have hS5 := HS4.out.front 4 [1, 0, 3, 2]
      simp only [World.size_alloc] at hS5 ⊢
      obtain ⟨T, hT⟩ : ∃ T, W1.heap.size = T := ⟨_, rfl⟩
      rw [hT] at hS5 ⊢
      have HS5 := Lib.hid (show Sep w w4 (blkR (T + 1) 23 #[.pointer (some ⟨a, 0, none⟩)] :: blkR (T + 1 + 1) 3 #[.int .i64 (1 : Int)] :: arenaR a B :: blkR T 3 #[.int .i64 (1 : Int)] :: objR D1 (.deferred (some [])) :: modelR mo B :: blkR b4 4 #[.bool false] :: blkR b5 23 #[.pointer (some ⟨a, 0, none⟩)] :: []) from hS5)
      clear hT hS5 HS4 HB g5 g0 HS0
      refine wp_range (gf := 53) (lb := #[.pointer (some ⟨T + 1, 0, none⟩), .pointer (some ⟨T + 1 + 1, 0, none⟩)]) rfl (enters_of Try.func53 (by kernel_rfl) rfl) (cells_iter (T + 1) (T + 1 + 1) a (1 : Int) B HWF.out) (fun _ => rfl) HS5.out
        (fun pre Rs => Rs = blkR T 3 #[.int .i64 (1 : Int)] :: objR D1 (.deferred (some [])) :: modelR mo B :: blkR b4 4 #[.bool false] :: blkR b5 23 #[.pointer (some ⟨a, 0, none⟩)] :: []) (fun _ _ _ => False) rfl ?round1 ?done1 ?stop1
      case stop1 => rintro _ _ _ _ _ _ h; exact h.elim
      case round1 =>
        rintro l1 DD pre x _ G V1 r1 hpre rfl hS1
        simp only [List.cons_append, List.nil_append] at hS1
        obtain ⟨wv, hwv, hwz, hw1, hw8, hrem, hx1, hx97⟩ := HREF.out 1 x (by omega) (hpre.subset (by simp))
        have HWV := Lib.hid hwv
        have HS1 := Lib.hid hS1
        clear hpre hS1 HS5 hwv
        gi_wp2
        refine ⟨[], HS1.out, ?_⟩
        intro r' V2 hS2
        simp only [List.cons_append, List.nil_append] at hS2
        have g0 := (hS2.blk 5 rfl).cell 0
        have g5 := (hS2.blk 9 rfl).cell 0
        simp only [List.getElem?_toArray, List.getElem?_cons_zero, List.getElem?_cons_succ] at g5 g0
        have HS2 := Lib.hid hS2
        clear hS2 HS1
        gi_wp2_with (first
          | (gi_at_call 26; refine (calls_round (TAClass HS2.out 2 rfl (1 : Int))).mono ?_; rw [show B.clsZ (1 : Int) = B.cls 1 from HCLS.out 1 (by omega)]; rintro e w' ⟨rfl, rfl⟩)
          | (gi_at_call 33; refine (calls_round (Words (B.cls 1) _)).mono ?_; rw [HWV.out]; rintro e w' ⟨rfl, rfl⟩))
        refine ⟨_, rfl, ?_⟩
        simpa using HS2.out
      rintro D2 _ W2 rfl hS1
      simp only [List.cons_append, List.nil_append] at hS1
      have HS0 := Lib.hid (show Sep w W2 (arenaR a B :: objR D2 (.deferred (some [])) :: objR D1 (.deferred (some [])) :: modelR mo B :: blkR b4 4 #[.bool false] :: blkR b5 23 #[.pointer (some ⟨a, 0, none⟩)] :: []) from (hS1.front 5 [0, 1, 4]).tail.tail.tail)
      clear hS1 HS5
      gi_wp2
      rw [roundsIn_succ]
      have hbox := HS0.out.box #[.int .i64 (2 : Int)] 3
      have g5 := (hbox.blk 6 rfl).cell 0
      have g0 := (hbox.blk 0 rfl).cell 0
      simp only [List.getElem?_toArray, List.getElem?_cons_zero, List.getElem?_cons_succ] at g5 g0
      have HB := Lib.hid hbox
      clear hbox
      gi_wp2_with (gi_at_call 28; refine (calls_in (TACells HB.out a (2 : Int))).mono ?_; rintro e w4 ⟨rfl, hs⟩; have HS4 := Lib.hid hs; clear hs)
      have hS5 := HS4.out.front 4 [1, 0, 3, 2]
      simp only [World.size_alloc] at hS5 ⊢
      obtain ⟨T, hT⟩ : ∃ T, W2.heap.size = T := ⟨_, rfl⟩
      rw [hT] at hS5 ⊢
      have HS5 := Lib.hid (show Sep w w4 (blkR (T + 1) 23 #[.pointer (some ⟨a, 0, none⟩)] :: blkR (T + 1 + 1) 3 #[.int .i64 (2 : Int)] :: arenaR a B :: blkR T 3 #[.int .i64 (2 : Int)] :: objR D2 (.deferred (some [])) :: objR D1 (.deferred (some [])) :: modelR mo B :: blkR b4 4 #[.bool false] :: blkR b5 23 #[.pointer (some ⟨a, 0, none⟩)] :: []) from hS5)
      clear hT hS5 HS4 HB g5 g0 HS0
      refine wp_range (gf := 53) (lb := #[.pointer (some ⟨T + 1, 0, none⟩), .pointer (some ⟨T + 1 + 1, 0, none⟩)]) rfl (enters_of Try.func53 (by kernel_rfl) rfl) (cells_iter (T + 1) (T + 1 + 1) a (2 : Int) B HWF.out) (fun _ => rfl) HS5.out
        (fun pre Rs => Rs = blkR T 3 #[.int .i64 (2 : Int)] :: objR D2 (.deferred (some [])) :: objR D1 (.deferred (some [])) :: modelR mo B :: blkR b4 4 #[.bool false] :: blkR b5 23 #[.pointer (some ⟨a, 0, none⟩)] :: []) (fun _ _ _ => False) rfl ?round2 ?done2 ?stop2
      case stop2 => rintro _ _ _ _ _ _ h; exact h.elim
      case round2 =>
        rintro l1 DD pre x _ G V1 r1 hpre rfl hS1
        simp only [List.cons_append, List.nil_append] at hS1
        obtain ⟨wv, hwv, hwz, hw1, hw8, hrem, hx1, hx97⟩ := HREF.out 2 x (by omega) (hpre.subset (by simp))
        have HWV := Lib.hid hwv
        have HS1 := Lib.hid hS1
        clear hpre hS1 HS5 hwv
        gi_wp2
        refine ⟨[], HS1.out, ?_⟩
        intro r' V2 hS2
        simp only [List.cons_append, List.nil_append] at hS2
        have g0 := (hS2.blk 5 rfl).cell 0
        have g5 := (hS2.blk 10 rfl).cell 0
        simp only [List.getElem?_toArray, List.getElem?_cons_zero, List.getElem?_cons_succ] at g5 g0
        have HS2 := Lib.hid hS2
        clear hS2 HS1
        gi_wp2_with (first
          | (gi_at_call 26; refine (calls_round (TAClass HS2.out 2 rfl (2 : Int))).mono ?_; rw [show B.clsZ (2 : Int) = B.cls 2 from HCLS.out 2 (by omega)]; rintro e w' ⟨rfl, rfl⟩)
          | (gi_at_call 33; refine (calls_round (Words (B.cls 2) _)).mono ?_; rw [HWV.out]; rintro e w' ⟨rfl, rfl⟩))
        refine ⟨_, rfl, ?_⟩
        simpa using HS2.out
      rintro D3 _ W3 rfl hS1
      simp only [List.cons_append, List.nil_append] at hS1
      have HS0 := Lib.hid (show Sep w W3 (arenaR a B :: objR D3 (.deferred (some [])) :: objR D2 (.deferred (some [])) :: objR D1 (.deferred (some [])) :: modelR mo B :: blkR b4 4 #[.bool false] :: blkR b5 23 #[.pointer (some ⟨a, 0, none⟩)] :: []) from (hS1.front 5 [0, 1, 4]).tail.tail.tail)
      clear hS1 HS5
      gi_wp2
      rw [roundsIn_succ]
      have q4 := (HS0.out.blk 5 rfl).frozen 0
      have q4c := (HS0.out.blk 5 rfl).cell 0
      simp only [List.getElem?_toArray, List.getElem?_cons_zero, List.getElem?_cons_succ] at q4c
      gi_wp2
      refine leaves_box3 (HS0.out.setCell 5 rfl 0 (.bool true)) rfl rfl ?_
      intro w' L' hS
      exact ⟨rfl, hS.below⟩
end Go.Proofs.Ytapbphbnffggnaa
