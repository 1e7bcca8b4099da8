/-
  The walk of ArenaCells. Conditions: as the theorem says.
-/
import Derived.Test.YtapbphbnffggnaaOpen
import Derived.Test.YtapbphbnffggnaaFit03
import Derived.Test.YtapbphbnffggnaaCellsIter
import Derived.Test.YtapbphbnffggnaaArCells
import Derived.Test.YtapbphbnffggnaaInfo
import Derived.Test.YtapbphbnffggnaaModel3
import Derived.Test.YtapbphbnffggnaaResult
import Derived.LoopNIn
import Derived.StillTailTactics
namespace Go.Proofs.Ytapbphbnffggnaa
set_option linter.unusedVariables false
set_option linter.unusedSimpArgs false
open Go.RowKit Go.Shelf
attribute [local go_sem] Oper.semAt_some wide_fn round_fn wide_depth round_depth
attribute [local simp] wide_fn round_fn wide_depth round_depth

/-- A number of the arena as the program's value. -/
def encR (x : Nat) : Value := .int .i64 ((x : Nat) : Int)

/-- The return of a function that held six loops over functions. -/
theorem leaves_box6 {fn : Func} {tmps : Array Value} {D1 D2 D3 D4 D5 D6 : Nat} {w0 w : World} {L : List Res} {Rt : Ending → World → Prop} {s : Tmp} {b : Nat} {x : Bool}
    (S : Sep w0 w (objR D6 (.deferred (some [])) :: objR D5 (.deferred (some [])) :: objR D4 (.deferred (some [])) :: objR D3 (.deferred (some [])) :: objR D2 (.deferred (some [])) :: objR D1 (.deferred (some [])) :: blkR b 4 #[.bool x] :: L))
    (h : fn.results = #[.cell s 4]) (hp : tmps.getD s undef = .pointer (some ⟨b, 0, none⟩)) (hR : ∀ w' L', Sep w0 w' L' → Rt (.returned (.bool x)) w') :
    LeavesInM Fence.wide 0 Try.prog fn tmps Rt [{ target := .collected D6, args := #[] }, { target := .collected D5, args := #[] }, { target := .collected D4, args := #[] }, { target := .collected D3, args := #[] }, { target := .collected D2, args := #[] }, { target := .collected D1, args := #[] }] .returning w := by
  have S6 := S.putObj 0 rfl (.deferred none)
  have S5 := S6.putObj 1 rfl (.deferred none)
  have S4 := S5.putObj 2 rfl (.deferred none)
  have S3 := S4.putObj 3 rfl (.deferred none)
  have S2 := S3.putObj 4 rfl (.deferred none)
  have S1 := S2.putObj 5 rfl (.deferred none)
  refine ⟨by simp, .inl ⟨D6, _, rfl, run_takeDeferred (S.obj (i := 0) rfl), ?_⟩⟩
  refine ⟨by simp, .inl ⟨D5, _, rfl, run_takeDeferred (S6.obj (i := 1) rfl), ?_⟩⟩
  refine ⟨by simp, .inl ⟨D4, _, rfl, run_takeDeferred (S5.obj (i := 2) rfl), ?_⟩⟩
  refine ⟨by simp, .inl ⟨D3, _, rfl, run_takeDeferred (S4.obj (i := 3) rfl), ?_⟩⟩
  refine ⟨by simp, .inl ⟨D2, _, rfl, run_takeDeferred (S3.obj (i := 4) rfl), ?_⟩⟩
  refine ⟨by simp, .inl ⟨D1, _, rfl, run_takeDeferred (S2.obj (i := 5) rfl), ?_⟩⟩
  have hc := (S1.blk 6 rfl).cell 0
  simp only [List.getElem?_toArray, List.getElem?_cons_zero] at hc
  exact ⟨_, results_bool h hp hc, hR _ _ S1⟩

set_option maxRecDepth 100000 in
set_option maxHeartbeats 8000000 in
theorem arenaCells_walk (A : Option Addr) (n c : Nat) (D : Nat → Nat → Int) (leave : Int) (w : World) (hz : ArgI w A n [.i64, .i64] D) (hm : n ≤ maxLen) (hr : (Lit.int .u8 leave).wf = true) :
    Calls Try.prog 9 #[.slice A n c, .int .u8 leave] w fun e w' => e = .returned (.bool true) ∧ Below w.heap.size w w' := by
  have HZ := Lib.hid hz
  unfold maxLen at hm
  have hl8 := wf8 hr
  clear hz hr
  refine calls_wide ?_
  refine callsIn_of_wp_marks Try.func9 rfl trivial ?_
  simp only [Try.ntmps9, List.size_toArray, List.length_cons, List.length_nil, Nat.reduceAdd, Nat.reduceSub, Array.replicate_succ, Array.replicate_zero, List.push_toArray, List.append_toArray, List.nil_append, List.cons_append]
  have hsi := ((Sep.start w).box #[.int .u8 leave] 5).box #[.bool false] 4
  rw [World.size_alloc] at hsi
  have HSI := Lib.hid hsi
  clear hsi
  by_cases hn : 60 < n
  · gi_wp2_with (gi_at_call 17; refine (calls_in (fit03 _)).mono ?_; rintro e w1 ⟨rfl, hC⟩; have hs := HSI.out.same hC; clear hC; have q0 := (hs.blk 0 rfl).cell 0; have q1 := (hs.blk 0 rfl).frozen 0; simp only [List.getElem?_toArray, List.getElem?_cons_zero] at q0; have HS0 := Lib.hid hs; clear hs)
    exact leaves_box0 (HS0.out.setCell 0 rfl 0 (.bool true)) 0 rfl rfl rfl ⟨rfl, (HS0.out.setCell 0 rfl 0 (.bool true)).below⟩
  gi_wp2_with (first
    | (gi_at_call 17; refine (calls_in (fit03 _)).mono ?_; rintro e w1 ⟨rfl, hC⟩; have HS0 := Lib.hid (HSI.out.same hC); clear hC)
    | (gi_at_call 18; refine (calls_in (TANew HS0.out 3 3 (by omega))).mono ?_; rintro e w2 ⟨a, ids, rfl, hs⟩; have HS2 := Lib.hid hs; clear hs HS0)
    | (gi_at_call 29; refine (calls_in (MBegin HS2.out 3 (by omega) ids)).mono ?_; rintro e w3 ⟨mo, rfl, hs⟩; have HS3 := Lib.hid hs; clear hs HS2))
  have HW0 := Lib.hid (AR.new_wf 3 ids (by omega))
  have hS4 := HS3.out.box #[.pointer (some ⟨a, 0, none⟩)] 23
  have hS5 := hS4.front 5 [2, 1, 3, 0, 4]
  obtain ⟨b5, hb5⟩ : ∃ b5, w3.heap.size = b5 := ⟨_, rfl⟩
  obtain ⟨b3, hb3⟩ : ∃ b3, w.heap.size = b3 := ⟨_, rfl⟩
  simp only [hb5, hb3, World.size_alloc] at hS5 ⊢
  have HS5 := Lib.hid (show Sep w _ (arenaR a (AR.new 3 ids) :: modelR mo (AR.new 3 ids) :: blkR (b3 + 1) 4 #[.bool false] :: blkR b5 23 #[.pointer (some ⟨a, 0, none⟩)] :: blkR b3 5 #[.int .u8 leave] :: []) from hS5)
  clear hS4 hS5 HS3 HSI hb5
  gi_loopw [24] (fun i wr => ∃ (k : Nat) (B : AR), k ≤ n ∧ i = .int .i64 k ∧ B.Wf ∧ B.n = 3 ∧ Sep w wr (arenaR a B :: modelR mo B :: blkR (b3 + 1) 4 #[.bool false] :: blkR b5 23 #[.pointer (some ⟨a, 0, none⟩)] :: blkR b3 5 #[.int .u8 leave] :: [])) (fun i _ => n + 1 - (intOf i).toNat)
  case atStart => exact ⟨0, _, by omega, rfl, HW0.out, rfl, HS5.out⟩
  case round =>
    obtain ⟨k, B, hk, rfl, hwf, hBn, hS⟩ := hrel
    clear HS5 HW0
    have HWF := Lib.hid hwf
    have HBN := Lib.hid hBn
    clear hwf hBn
    have hro : Try.prog.follows .mixedOrders = true := by kernel_rfl
    by_cases hlt : k < n
    · have HLT := Lib.hid hlt
      obtain ⟨ab, ao, rfl, hcell⟩ := HZ.out.at_ hS.own hlt
      have hc0 := hcell 0 _ rfl
      have hc1 := hcell 1 _ rfl
      simp at hc0 hc1
      have hwN := HZ.out.wf hlt 1 _ rfl
      obtain ⟨num, hnum⟩ : ∃ num, D k 1 = num := ⟨_, rfl⟩
      rw [hnum] at hc1 hwN
      obtain ⟨kd, hkd⟩ : ∃ kd, D k 0 = kd := ⟨_, rfl⟩
      rw [hkd] at hc0
      have hx3 := and_3 kd
      obtain ⟨k3, hk3⟩ : ∃ k3, kd % 4 = k3 := ⟨_, rfl⟩
      rw [hk3] at hx3
      have hk30 : 0 ≤ k3 ∧ k3 ≤ 3 := by omega
      have hs := hS.box #[.int .i64 kd, .int .i64 num] 34
      have q0 := (hs.blk 0 rfl).cell 0; have q1 := (hs.blk 0 rfl).cell 1; have q4 := (hs.blk 3 rfl).frozen 0; have q4c := (hs.blk 3 rfl).cell 0; have q5 := (hs.blk 4 rfl).cell 0; simp only [List.getElem?_toArray, List.getElem?_cons_zero, List.getElem?_cons_succ] at q0 q1 q4c q5
      have HS := Lib.hid hs
      clear hs hcell hnum hkd hk3 hlt hS
      by_cases h3 : k3 = 3
      · subst h3
        have hr63 := nth_wf HWF.out num
        obtain ⟨rv, hrv⟩ : ∃ rv, B.nth num = rv := ⟨_, rfl⟩
        have HRV := Lib.hid hrv
        rw [hrv] at hr63
        have HG := Lib.hid (HWF.out.give_wf rv)
        have HN := Lib.hid ((give_n B rv).trans HBN.out)
        clear hrv
        gi_wp2_with (first
          | (gi_at_call 30; refine (calls_in (MNth HS.out 2 rfl HWF.out num)).mono ?_; rw [HRV.out]; rintro e w4 ⟨rfl, hs⟩; have q0 := (hs.blk 0 rfl).cell 0; have q1 := (hs.blk 0 rfl).cell 1; have q4 := (hs.blk 3 rfl).frozen 0; have q4c := (hs.blk 3 rfl).cell 0; have q5 := (hs.blk 4 rfl).cell 0; simp only [List.getElem?_toArray, List.getElem?_cons_zero, List.getElem?_cons_succ] at q0 q1 q4c q5; have HS6 := Lib.hid hs; clear hs)
          | (gi_at_call 24; refine (calls_in (TAGive HS6.out 1 rfl HWF.out rv)).mono ?_; rintro e w5 ⟨rfl, hs⟩; have q0 := (hs.blk 0 rfl).cell 0; have q1 := (hs.blk 0 rfl).cell 1; have q4 := (hs.blk 3 rfl).frozen 0; have q4c := (hs.blk 3 rfl).cell 0; have q5 := (hs.blk 4 rfl).cell 0; simp only [List.getElem?_toArray, List.getElem?_cons_zero, List.getElem?_cons_succ] at q0 q1 q4c q5; have HS7 := Lib.hid hs; clear hs)
          | (gi_at_call 31; refine (calls_in (MGive HS7.out 2 rfl HWF.out rv hr63)).mono ?_; rintro e w6 ⟨rfl, hs⟩; have HS8 := Lib.hid hs; clear hs))
        go_roundw
        case rel => exact ⟨k + 1, B.give rv, HLT.out, by go_num, HG.out, HN.out, HS8.out.tail⟩
        case measure => have := HLT.out; simp [intOf]; omega
      · have hne3 : (k3 == 3) = false := by simpa using h3
        have hne3' : ¬ k3 = 3 := h3
        clear h3
        have HG := Lib.hid (HWF.out.takeA_wf k3)
        have HN := Lib.hid (show (B.takeA k3).n = 3 by
          have := HBN.out
          cases ht : B.take k3 with
          | none => rw [takeA_none ht]; exact this
          | some y =>
            obtain ⟨rr, B'⟩ := y
            obtain ⟨p, q, hti⟩ := HWF.out.take_spec ht
            rw [takeA_some ht]; exact hti.n.trans this)
        gi_wp2_with (first
          | (gi_at_call 22; refine (calls_in (TATake HS.out 1 rfl HWF.out k3)).mono ?_; rintro e w5 ⟨rfl, hs⟩; have q0 := (hs.blk 0 rfl).cell 0; have q1 := (hs.blk 0 rfl).cell 1; have q4 := (hs.blk 3 rfl).frozen 0; have q4c := (hs.blk 3 rfl).cell 0; have q5 := (hs.blk 4 rfl).cell 0; simp only [List.getElem?_toArray, List.getElem?_cons_zero, List.getElem?_cons_succ] at q0 q1 q4c q5; have HS7 := Lib.hid hs; clear hs)
          | (gi_at_call 32; refine (calls_in (MTake HS7.out 2 rfl HWF.out k3)).mono ?_; rintro e w6 ⟨rfl, hs⟩; have HS8 := Lib.hid hs; clear hs))
        go_roundw
        case rel => exact ⟨k + 1, B.takeA k3, HLT.out, by go_num, HG.out, HN.out, HS8.out.tail⟩
        case measure => have := HLT.out; simp [intOf]; omega
    · obtain rfl : k = n := by omega
      have HLEN := Lib.hid (fun (p : Nat) (hp : p < 3) => (show (B.cellsOf (p : Int)).length ≤ 16 by
        have hb := HBN.out
        have h1 := HWF.out.cells_length (p := p) (by omega)
        have h2 := (HWF.out.cnt_le (p := p) (by omega)).2
        omega))
      have HREF := Lib.hid (fun (p x : Nat) (hp : p < 3) (hx : x ∈ B.cellsOf (p : Int)) => (show B.page (x : Int) = (p : Int) ∧ x < 97 by
        have hb := HBN.out
        obtain ⟨htk, hpx⟩ := (mem_cellsOf HWF.out (by omega)).1 hx
        obtain ⟨p', q, hp', h0, h2, hq, href, hpg, _, hdiv⟩ := HWF.out.at_ htk
        have hl := HWF.out.lt htk
        obtain rfl : p' = p := by omega
        exact ⟨hpg, by omega⟩))
      obtain ⟨b10, hb10⟩ : ∃ b10, wr.heap.size = b10 := ⟨_, rfl⟩
      have hs0 := (hS.nilRow 26 1).box #[.slice none 0 0] 32
      have hs1 := hs0.front 3 [2, 0, 1]
      obtain ⟨all, hall⟩ : ∃ all : List Nat, all = [] := ⟨_, rfl⟩
      have hal : all.length ≤ 0 := by rw [hall]; simp
      have HALL := Lib.hid hall
      have hs2 : Sep w (wr.alloc (.cells #[.slice none 0 0] 32)) (arenaR a B :: blkR b10 32 #[.slice none 0 0] :: rowR 26 1 (.slice none 0 0) all.length (all.map encR) :: modelR mo B :: blkR (b3 + 1) 4 #[.bool false] :: blkR b5 23 #[.pointer (some ⟨a, 0, none⟩)] :: blkR b3 5 #[.int .u8 leave] :: []) := by
        rw [hall, ← hb10]; exact hs1
      have HS0 := Lib.hid hs2
      clear hs0 hs1 hs2 hall hS hlt hk
      gi_wp2
      clear hb10
      refine wpIn_loop_rounds 4 ?_
      rw [roundsIn_succ]
      have hbox := HS0.out.box #[.int .i64 (0 : Int)] 3
      have g5 := (hbox.blk 6 rfl).cell 0
      have g0 := (hbox.blk 0 rfl).cell 0
      simp only [List.getElem?_toArray, List.getElem?_cons_zero, List.getElem?_cons_succ] at g5 g0
      have HB := Lib.hid hbox
      clear hbox
      gi_wp2_with (gi_at_call 28; refine (calls_in (TACells HB.out a (0 : Int))).mono ?_; rintro e w4 ⟨rfl, hs⟩; have HS4 := Lib.hid hs; clear hs)
      have hS5 := HS4.out.front 4 [1, 0, 3, 2]
      simp only [World.size_alloc] at hS5 ⊢
      obtain ⟨T, hT⟩ : ∃ T, (wr.alloc (.cells #[.slice none 0 0] 32)).heap.size = T := ⟨_, rfl⟩
      rw [World.size_alloc] at hT
      rw [hT] at hS5 ⊢
      have HS5 := Lib.hid (show Sep w w4 (blkR (T + 1) 23 #[.pointer (some ⟨a, 0, none⟩)] :: blkR (T + 1 + 1) 3 #[.int .i64 (0 : Int)] :: arenaR a B :: blkR T 3 #[.int .i64 (0 : Int)] :: blkR b10 32 #[.slice none 0 0] :: rowR 26 1 (.slice none 0 0) (all ++ []).length ((all ++ []).map encR) :: modelR mo B :: blkR (b3 + 1) 4 #[.bool false] :: blkR b5 23 #[.pointer (some ⟨a, 0, none⟩)] :: blkR b3 5 #[.int .u8 leave] :: []) from by rw [List.append_nil]; exact hS5)
      clear hT hS5 HS4 HB g5 g0 HS0
      refine wp_range (gf := 53) (lb := #[.pointer (some ⟨T + 1, 0, none⟩), .pointer (some ⟨T + 1 + 1, 0, none⟩)]) rfl (enters_of Try.func53 (by kernel_rfl) rfl) (cells_iter (T + 1) (T + 1 + 1) a (0 : Int) B HWF.out) (fun _ => rfl) HS5.out
        (fun pre Rs => ∃ v, Rs = blkR T 3 #[.int .i64 (0 : Int)] :: blkR b10 32 #[v] :: rowR 26 1 v (all ++ pre).length ((all ++ pre).map encR) :: modelR mo B :: blkR (b3 + 1) 4 #[.bool false] :: blkR b5 23 #[.pointer (some ⟨a, 0, none⟩)] :: blkR b3 5 #[.int .u8 leave] :: []) (fun _ _ _ => False) ⟨_, rfl⟩ ?round0 ?done0 ?stop0
      case stop0 => rintro _ _ _ _ _ _ h; exact h.elim
      case round0 =>
        rintro l1 DD pre x _ G V1 r1 hpre ⟨v, rfl⟩ hS1
        simp only [List.cons_append, List.nil_append] at hS1
        obtain ⟨hpgx, hx97⟩ := HREF.out 0 x (by omega) (hpre.subset (by simp))
        have hlp : (all ++ pre).length < 97 := by
          have h1 := hpre.length_le
          have h2 := HLEN.out 0 (by omega)
          have h3 : (B.cellsOf (0 : Int)).length = (B.cellsOf ((0 : Nat) : Int)).length := rfl
          rw [List.length_append] at h1 ⊢
          omega
        have HPG := Lib.hid (show B.page (x : Int) = (0 : Int) from hpgx)
        have HS1 := Lib.hid hS1
        clear hpre hS1 HS5 hpgx
        gi_wp2
        refine ⟨[], HS1.out, ?_⟩
        intro r' V2 hS2
        simp only [List.cons_append, List.nil_append] at hS2
        obtain ⟨qs, hqs⟩ : ∃ qs, all ++ pre = qs := ⟨_, rfl⟩
        obtain ⟨Ln, hLn⟩ : ∃ Ln, qs.length = Ln := ⟨_, rfl⟩
        have HQS := Lib.hid hqs
        have HLN := Lib.hid hLn
        rw [hqs] at hS2 hlp
        rw [hLn] at hS2 hlp
        clear hqs hLn
        have g0 := (hS2.drew.blk 5 rfl).cell 0
        have g5 := (hS2.drew.blk 10 rfl).cell 0
        have g6 := (hS2.drew.blk 6 rfl).cell 0
        have g7 := (hS2.drew.blk 6 rfl).frozen 0
        simp only [List.getElem?_toArray, List.getElem?_cons_zero, List.getElem?_cons_succ] at g5 g0 g6
        have HS2 := Lib.hid hS2.drew
        clear hS2 HS1
        gi_wp2
        refine calm ?_
        gi_region_with_o (gi_at_call 27; refine (calls_round (TAPage HS2.out 2 rfl (x : Int) (by omega))).mono ?_; rw [HPG.out]; rintro e w' ⟨rfl, rfl⟩)
        all_goals
          obtain ⟨V3, hV3⟩ : ∃ V3, V2.drew = V3 := ⟨_, rfl⟩
          rw [hV3] at HS2 g0 g5 g6 g7 ⊢
          clear hV3
          gi_wp2_with (gi_at_builtin; refine wpListIn_append_sep rfl _ _ 32 rfl 26 (.int .i64 0) 1 8 Try.underlying32 refInfo rfl (by decide) HS2.out 7 rfl rfl [.int .i64 ((x : Nat) : Int)] rfl (by simp [Value.oneCell']) rfl (by unfold maxLen; omega) (by omega) ?_; intro g4 cap4 w4 hcap4 hcm4 hs4; have z6 := (hs4.blk 6 rfl).cell 0; have z7 := (hs4.blk 6 rfl).frozen 0; simp only [List.getElem?_toArray, List.getElem?_cons_zero] at z6; have HS4 := Lib.hid hs4; clear hs4)
          refine ⟨_, ⟨.slice (some ⟨g4, 0, none⟩) (Ln + 1) cap4, rfl⟩, ?_⟩
          have := HS4.out.setCell 6 rfl 0 (.slice (some ⟨g4, 0, none⟩) (Ln + 1) cap4)
          rw [show all ++ (pre ++ [x]) = qs ++ [x] by rw [← List.append_assoc, HQS.out]]
          simpa [encR, HLN.out] using this
      rintro D1 _ W1 ⟨v1, rfl⟩ hS1
      simp only [List.cons_append, List.nil_append] at hS1
      obtain ⟨all1, hall⟩ : ∃ al, all ++ B.cellsOf (0 : Int) = al := ⟨_, rfl⟩
      rw [hall] at hS1
      have hal1 : all1.length ≤ 16 := by
        have h2 : (B.cellsOf (0 : Int)).length ≤ 16 := HLEN.out 0 (by omega)
        rw [← hall, List.length_append]
        omega
      have HALL1 := Lib.hid hall
      have HS0 := Lib.hid (show Sep w W1 (arenaR a B :: blkR b10 32 #[v1] :: rowR 26 1 v1 all1.length (all1.map encR) :: objR D1 (.deferred (some [])) :: modelR mo B :: blkR (b3 + 1) 4 #[.bool false] :: blkR b5 23 #[.pointer (some ⟨a, 0, none⟩)] :: blkR b3 5 #[.int .u8 leave] :: []) from (hS1.front 7 [0, 1, 4, 2, 5, 6, 3]).tail.tail.tail)
      clear hS1 HS5 hall
      gi_wp2
      rw [roundsIn_succ]
      have hbox := HS0.out.box #[.int .i64 (1 : Int)] 3
      have g5 := (hbox.blk 7 rfl).cell 0
      have g0 := (hbox.blk 0 rfl).cell 0
      simp only [List.getElem?_toArray, List.getElem?_cons_zero, List.getElem?_cons_succ] at g5 g0
      have HB := Lib.hid hbox
      clear hbox
      gi_wp2_with (gi_at_call 28; refine (calls_in (TACells HB.out a (1 : Int))).mono ?_; rintro e w4 ⟨rfl, hs⟩; have HS4 := Lib.hid hs; clear hs)
      have hS5 := HS4.out.front 4 [1, 0, 3, 2]
      simp only [World.size_alloc] at hS5 ⊢
      obtain ⟨T, hT⟩ : ∃ T, W1.heap.size = T := ⟨_, rfl⟩
      skip
      rw [hT] at hS5 ⊢
      have HS5 := Lib.hid (show Sep w w4 (blkR (T + 1) 23 #[.pointer (some ⟨a, 0, none⟩)] :: blkR (T + 1 + 1) 3 #[.int .i64 (1 : Int)] :: arenaR a B :: blkR T 3 #[.int .i64 (1 : Int)] :: blkR b10 32 #[v1] :: rowR 26 1 v1 (all1 ++ []).length ((all1 ++ []).map encR) :: objR D1 (.deferred (some [])) :: modelR mo B :: blkR (b3 + 1) 4 #[.bool false] :: blkR b5 23 #[.pointer (some ⟨a, 0, none⟩)] :: blkR b3 5 #[.int .u8 leave] :: []) from by rw [List.append_nil]; exact hS5)
      clear hT hS5 HS4 HB g5 g0 HS0
      refine wp_range (gf := 53) (lb := #[.pointer (some ⟨T + 1, 0, none⟩), .pointer (some ⟨T + 1 + 1, 0, none⟩)]) rfl (enters_of Try.func53 (by kernel_rfl) rfl) (cells_iter (T + 1) (T + 1 + 1) a (1 : Int) B HWF.out) (fun _ => rfl) HS5.out
        (fun pre Rs => ∃ v, Rs = blkR T 3 #[.int .i64 (1 : Int)] :: blkR b10 32 #[v] :: rowR 26 1 v (all1 ++ pre).length ((all1 ++ pre).map encR) :: objR D1 (.deferred (some [])) :: modelR mo B :: blkR (b3 + 1) 4 #[.bool false] :: blkR b5 23 #[.pointer (some ⟨a, 0, none⟩)] :: blkR b3 5 #[.int .u8 leave] :: []) (fun _ _ _ => False) ⟨_, rfl⟩ ?round1 ?done1 ?stop1
      case stop1 => rintro _ _ _ _ _ _ h; exact h.elim
      case round1 =>
        rintro l1 DD pre x _ G V1 r1 hpre ⟨v, rfl⟩ hS1
        simp only [List.cons_append, List.nil_append] at hS1
        obtain ⟨hpgx, hx97⟩ := HREF.out 1 x (by omega) (hpre.subset (by simp))
        have hlp : (all1 ++ pre).length < 97 := by
          have h1 := hpre.length_le
          have h2 := HLEN.out 1 (by omega)
          have h3 : (B.cellsOf (1 : Int)).length = (B.cellsOf ((1 : Nat) : Int)).length := rfl
          rw [List.length_append] at h1 ⊢
          omega
        have HPG := Lib.hid (show B.page (x : Int) = (1 : Int) from hpgx)
        have HS1 := Lib.hid hS1
        clear hpre hS1 HS5 hpgx
        gi_wp2
        refine ⟨[], HS1.out, ?_⟩
        intro r' V2 hS2
        simp only [List.cons_append, List.nil_append] at hS2
        obtain ⟨qs, hqs⟩ : ∃ qs, all1 ++ pre = qs := ⟨_, rfl⟩
        obtain ⟨Ln, hLn⟩ : ∃ Ln, qs.length = Ln := ⟨_, rfl⟩
        have HQS := Lib.hid hqs
        have HLN := Lib.hid hLn
        rw [hqs] at hS2 hlp
        rw [hLn] at hS2 hlp
        clear hqs hLn
        have g0 := (hS2.drew.blk 5 rfl).cell 0
        have g5 := (hS2.drew.blk 11 rfl).cell 0
        have g6 := (hS2.drew.blk 6 rfl).cell 0
        have g7 := (hS2.drew.blk 6 rfl).frozen 0
        simp only [List.getElem?_toArray, List.getElem?_cons_zero, List.getElem?_cons_succ] at g5 g0 g6
        have HS2 := Lib.hid hS2.drew
        clear hS2 HS1
        gi_wp2
        refine calm ?_
        gi_region_with_o (gi_at_call 27; refine (calls_round (TAPage HS2.out 2 rfl (x : Int) (by omega))).mono ?_; rw [HPG.out]; rintro e w' ⟨rfl, rfl⟩)
        all_goals
          obtain ⟨V3, hV3⟩ : ∃ V3, V2.drew = V3 := ⟨_, rfl⟩
          rw [hV3] at HS2 g0 g5 g6 g7 ⊢
          clear hV3
          gi_wp2_with (gi_at_builtin; refine wpListIn_append_sep rfl _ _ 32 rfl 26 (.int .i64 0) 1 8 Try.underlying32 refInfo rfl (by decide) HS2.out 7 rfl rfl [.int .i64 ((x : Nat) : Int)] rfl (by simp [Value.oneCell']) rfl (by unfold maxLen; omega) (by omega) ?_; intro g4 cap4 w4 hcap4 hcm4 hs4; have z6 := (hs4.blk 6 rfl).cell 0; have z7 := (hs4.blk 6 rfl).frozen 0; simp only [List.getElem?_toArray, List.getElem?_cons_zero] at z6; have HS4 := Lib.hid hs4; clear hs4)
          refine ⟨_, ⟨.slice (some ⟨g4, 0, none⟩) (Ln + 1) cap4, rfl⟩, ?_⟩
          have := HS4.out.setCell 6 rfl 0 (.slice (some ⟨g4, 0, none⟩) (Ln + 1) cap4)
          rw [show all1 ++ (pre ++ [x]) = qs ++ [x] by rw [← List.append_assoc, HQS.out]]
          simpa [encR, HLN.out] using this
      rintro D2 _ W2 ⟨v2, rfl⟩ hS1
      simp only [List.cons_append, List.nil_append] at hS1
      obtain ⟨all2, hall⟩ : ∃ al, all1 ++ B.cellsOf (1 : Int) = al := ⟨_, rfl⟩
      rw [hall] at hS1
      have hal2 : all2.length ≤ 32 := by
        have h2 : (B.cellsOf (1 : Int)).length ≤ 16 := HLEN.out 1 (by omega)
        rw [← hall, List.length_append]
        omega
      have HALL2 := Lib.hid hall
      have HS0 := Lib.hid (show Sep w W2 (arenaR a B :: blkR b10 32 #[v2] :: rowR 26 1 v2 all2.length (all2.map encR) :: objR D2 (.deferred (some [])) :: objR D1 (.deferred (some [])) :: modelR mo B :: blkR (b3 + 1) 4 #[.bool false] :: blkR b5 23 #[.pointer (some ⟨a, 0, none⟩)] :: blkR b3 5 #[.int .u8 leave] :: []) from (hS1.front 7 [0, 1, 4, 2, 5, 6, 3]).tail.tail.tail)
      clear hS1 HS5 hall
      gi_wp2
      rw [roundsIn_succ]
      have hbox := HS0.out.box #[.int .i64 (2 : Int)] 3
      have g5 := (hbox.blk 8 rfl).cell 0
      have g0 := (hbox.blk 0 rfl).cell 0
      simp only [List.getElem?_toArray, List.getElem?_cons_zero, List.getElem?_cons_succ] at g5 g0
      have HB := Lib.hid hbox
      clear hbox
      gi_wp2_with (gi_at_call 28; refine (calls_in (TACells HB.out a (2 : Int))).mono ?_; rintro e w4 ⟨rfl, hs⟩; have HS4 := Lib.hid hs; clear hs)
      have hS5 := HS4.out.front 4 [1, 0, 3, 2]
      simp only [World.size_alloc] at hS5 ⊢
      obtain ⟨T, hT⟩ : ∃ T, W2.heap.size = T := ⟨_, rfl⟩
      skip
      rw [hT] at hS5 ⊢
      have HS5 := Lib.hid (show Sep w w4 (blkR (T + 1) 23 #[.pointer (some ⟨a, 0, none⟩)] :: blkR (T + 1 + 1) 3 #[.int .i64 (2 : Int)] :: arenaR a B :: blkR T 3 #[.int .i64 (2 : Int)] :: blkR b10 32 #[v2] :: rowR 26 1 v2 (all2 ++ []).length ((all2 ++ []).map encR) :: objR D2 (.deferred (some [])) :: objR D1 (.deferred (some [])) :: modelR mo B :: blkR (b3 + 1) 4 #[.bool false] :: blkR b5 23 #[.pointer (some ⟨a, 0, none⟩)] :: blkR b3 5 #[.int .u8 leave] :: []) from by rw [List.append_nil]; exact hS5)
      clear hT hS5 HS4 HB g5 g0 HS0
      refine wp_range (gf := 53) (lb := #[.pointer (some ⟨T + 1, 0, none⟩), .pointer (some ⟨T + 1 + 1, 0, none⟩)]) rfl (enters_of Try.func53 (by kernel_rfl) rfl) (cells_iter (T + 1) (T + 1 + 1) a (2 : Int) B HWF.out) (fun _ => rfl) HS5.out
        (fun pre Rs => ∃ v, Rs = blkR T 3 #[.int .i64 (2 : Int)] :: blkR b10 32 #[v] :: rowR 26 1 v (all2 ++ pre).length ((all2 ++ pre).map encR) :: objR D2 (.deferred (some [])) :: objR D1 (.deferred (some [])) :: modelR mo B :: blkR (b3 + 1) 4 #[.bool false] :: blkR b5 23 #[.pointer (some ⟨a, 0, none⟩)] :: blkR b3 5 #[.int .u8 leave] :: []) (fun _ _ _ => False) ⟨_, rfl⟩ ?round2 ?done2 ?stop2
      case stop2 => rintro _ _ _ _ _ _ h; exact h.elim
      case round2 =>
        rintro l1 DD pre x _ G V1 r1 hpre ⟨v, rfl⟩ hS1
        simp only [List.cons_append, List.nil_append] at hS1
        obtain ⟨hpgx, hx97⟩ := HREF.out 2 x (by omega) (hpre.subset (by simp))
        have hlp : (all2 ++ pre).length < 97 := by
          have h1 := hpre.length_le
          have h2 := HLEN.out 2 (by omega)
          have h3 : (B.cellsOf (2 : Int)).length = (B.cellsOf ((2 : Nat) : Int)).length := rfl
          rw [List.length_append] at h1 ⊢
          omega
        have HPG := Lib.hid (show B.page (x : Int) = (2 : Int) from hpgx)
        have HS1 := Lib.hid hS1
        clear hpre hS1 HS5 hpgx
        gi_wp2
        refine ⟨[], HS1.out, ?_⟩
        intro r' V2 hS2
        simp only [List.cons_append, List.nil_append] at hS2
        obtain ⟨qs, hqs⟩ : ∃ qs, all2 ++ pre = qs := ⟨_, rfl⟩
        obtain ⟨Ln, hLn⟩ : ∃ Ln, qs.length = Ln := ⟨_, rfl⟩
        have HQS := Lib.hid hqs
        have HLN := Lib.hid hLn
        rw [hqs] at hS2 hlp
        rw [hLn] at hS2 hlp
        clear hqs hLn
        have g0 := (hS2.drew.blk 5 rfl).cell 0
        have g5 := (hS2.drew.blk 12 rfl).cell 0
        have g6 := (hS2.drew.blk 6 rfl).cell 0
        have g7 := (hS2.drew.blk 6 rfl).frozen 0
        simp only [List.getElem?_toArray, List.getElem?_cons_zero, List.getElem?_cons_succ] at g5 g0 g6
        have HS2 := Lib.hid hS2.drew
        clear hS2 HS1
        gi_wp2
        refine calm ?_
        gi_region_with_o (gi_at_call 27; refine (calls_round (TAPage HS2.out 2 rfl (x : Int) (by omega))).mono ?_; rw [HPG.out]; rintro e w' ⟨rfl, rfl⟩)
        all_goals
          obtain ⟨V3, hV3⟩ : ∃ V3, V2.drew = V3 := ⟨_, rfl⟩
          rw [hV3] at HS2 g0 g5 g6 g7 ⊢
          clear hV3
          gi_wp2_with (gi_at_builtin; refine wpListIn_append_sep rfl _ _ 32 rfl 26 (.int .i64 0) 1 8 Try.underlying32 refInfo rfl (by decide) HS2.out 7 rfl rfl [.int .i64 ((x : Nat) : Int)] rfl (by simp [Value.oneCell']) rfl (by unfold maxLen; omega) (by omega) ?_; intro g4 cap4 w4 hcap4 hcm4 hs4; have z6 := (hs4.blk 6 rfl).cell 0; have z7 := (hs4.blk 6 rfl).frozen 0; simp only [List.getElem?_toArray, List.getElem?_cons_zero] at z6; have HS4 := Lib.hid hs4; clear hs4)
          refine ⟨_, ⟨.slice (some ⟨g4, 0, none⟩) (Ln + 1) cap4, rfl⟩, ?_⟩
          have := HS4.out.setCell 6 rfl 0 (.slice (some ⟨g4, 0, none⟩) (Ln + 1) cap4)
          rw [show all2 ++ (pre ++ [x]) = qs ++ [x] by rw [← List.append_assoc, HQS.out]]
          simpa [encR, HLN.out] using this
      rintro D3 _ W3 ⟨v3, rfl⟩ hS1
      simp only [List.cons_append, List.nil_append] at hS1
      obtain ⟨all3, hall⟩ : ∃ al, all2 ++ B.cellsOf (2 : Int) = al := ⟨_, rfl⟩
      rw [hall] at hS1
      have hal3 : all3.length ≤ 48 := by
        have h2 : (B.cellsOf (2 : Int)).length ≤ 16 := HLEN.out 2 (by omega)
        rw [← hall, List.length_append]
        omega
      have HALL3 := Lib.hid hall
      have HS0 := Lib.hid (show Sep w W3 (arenaR a B :: blkR b10 32 #[v3] :: rowR 26 1 v3 all3.length (all3.map encR) :: objR D3 (.deferred (some [])) :: objR D2 (.deferred (some [])) :: objR D1 (.deferred (some [])) :: modelR mo B :: blkR (b3 + 1) 4 #[.bool false] :: blkR b5 23 #[.pointer (some ⟨a, 0, none⟩)] :: blkR b3 5 #[.int .u8 leave] :: []) from (hS1.front 7 [0, 1, 4, 2, 5, 6, 3]).tail.tail.tail)
      clear hS1 HS5 hall
      gi_wp2
      rw [roundsIn_succ]
      have hbox := HS0.out.box #[.int .i64 0] 3
      have g5 := (hbox.blk 9 rfl).cell 0
      simp only [List.getElem?_toArray, List.getElem?_cons_zero, List.getElem?_cons_succ] at g5
      have HB := Lib.hid hbox
      clear hbox
      gi_wp2_with (gi_at_call 35; refine (calls_in (TAAll HB.out a)).mono ?_; rintro e w4 ⟨rfl, hs⟩; have HS4 := Lib.hid hs; clear hs)
      have hS5 := HS4.out.front 3 [0, 2]
      simp only [World.size_alloc] at hS5 ⊢
      obtain ⟨T, hT⟩ : ∃ T, W3.heap.size = T := ⟨_, rfl⟩
      rw [hT] at hS5 ⊢
      obtain ⟨Ln, hLn⟩ : ∃ Ln, all3.length = Ln := ⟨_, rfl⟩
      have hel : elems (B.n * 32 + 1) B.tk = all3 := by
        rw [elems_cells HWF.out, HBN.out, ← HALL3.out, ← HALL2.out, ← HALL1.out, HALL.out]
        simp [List.range_succ]
      have hsorted := elems_sorted (B.n * 32 + 1) B.tk
      rw [hel] at hsorted
      have HSORT := Lib.hid hsorted
      have HLN := Lib.hid hLn
      have HEL := Lib.hid hel
      obtain ⟨AA, cap, rfl, hcap, hcm⟩ := HS0.out.rowShape 2 rfl
      rw [hLn] at hS5 hal3 hcap
      have HS5 := Lib.hid (show Sep w w4 (blkR (T + 1) 23 #[.pointer (some ⟨a, 0, none⟩)] :: arenaR a B :: blkR T 3 #[.int .i64 0] :: blkR b10 32 #[.slice AA Ln cap] :: rowR 26 1 (.slice AA Ln cap) Ln (all3.map encR) :: objR D3 (.deferred (some [])) :: objR D2 (.deferred (some [])) :: objR D1 (.deferred (some [])) :: modelR mo B :: blkR (b3 + 1) 4 #[.bool false] :: blkR b5 23 #[.pointer (some ⟨a, 0, none⟩)] :: blkR b3 5 #[.int .u8 leave] :: []) from hS5)
      clear hT hS5 HS4 HB g5 HS0 hsorted hLn hel
      refine wp_range (gf := 54) (lb := #[.pointer (some ⟨T + 1, 0, none⟩)]) rfl (enters_of Try.func54 (by kernel_rfl) rfl) (arena_iter (T + 1) a B) (fun _ => rfl) HS5.out
        (fun pre Rs => Rs = blkR T 3 #[.int .i64 ((pre.length : Nat) : Int)] :: blkR b10 32 #[.slice AA Ln cap] :: rowR 26 1 (.slice AA Ln cap) Ln (all3.map encR) :: objR D3 (.deferred (some [])) :: objR D2 (.deferred (some [])) :: objR D1 (.deferred (some [])) :: modelR mo B :: blkR (b3 + 1) 4 #[.bool false] :: blkR b5 23 #[.pointer (some ⟨a, 0, none⟩)] :: blkR b3 5 #[.int .u8 leave] :: []) (fun c pre Rs => c = Code.exit 6 ∧ Rs = blkR T 3 #[.int .i64 ((pre.length : Nat) : Int)] :: blkR b10 32 #[.slice AA Ln cap] :: rowR 26 1 (.slice AA Ln cap) Ln (all3.map encR) :: objR D3 (.deferred (some [])) :: objR D2 (.deferred (some [])) :: objR D1 (.deferred (some [])) :: modelR mo B :: blkR (b3 + 1) 4 #[.bool false] :: blkR b5 23 #[.pointer (some ⟨a, 0, none⟩)] :: blkR b3 5 #[.int .u8 leave] :: []) rfl ?roundA ?doneA ?stopA
      case roundA =>
        rintro l1 DD pre x _ G V1 r1 hpre rfl hS1
        simp only [List.cons_append, List.nil_append] at hS1
        obtain ⟨K, hK⟩ : ∃ K, pre.length = K := ⟨_, rfl⟩
        have hget : all3[K]? = some x := by
          obtain ⟨t, ht⟩ := hpre
          rw [← HEL.out, ← ht, ← hK]
          simp
        have hKl : K < Ln := by rw [← HLN.out]; exact (List.getElem?_eq_some_iff.1 hget).1
        have hx97 : x < 97 := by
          have h1 := (mem_elems.1 (hpre.subset (by simp : x ∈ pre ++ [x]))).1
          have := HBN.out
          omega
        have HS1 := Lib.hid hS1
        clear hpre hS1 HS5
        gi_wp2
        refine ⟨[], HS1.out, ?_⟩
        intro r' V2 hS2
        simp only [List.cons_append, List.nil_append] at hS2
        rw [hK] at hS2
        have HK := Lib.hid hK
        clear hK HS1
        obtain ⟨g, cap', hsl, _, _⟩ := hS2.rowSome 6 rfl (by omega)
        simp only [Value.slice.injEq] at hsl
        obtain ⟨rfl, _, rfl⟩ := hsl
        have e1 := (hS2.blk 4 rfl).frozen 0
        have e2 := (hS2.blk 5 rfl).cell 0
        have e3 := (hS2.blk 13 rfl).cell 0
        have hab : b3 ≠ T := hS2.apart (i := 13) (j := 4) rfl rfl (by decide)
        have hba : T ≠ b3 := Ne.symm hab
        have e4 := hS2.rowCell 6 rfl K (encR x) (by rw [List.getElem?_map, hget]; rfl)
        simp only [List.getElem?_toArray, List.getElem?_cons_zero, encR] at e2 e3 e4
        rcases K with _ | j
        · have e0 := (hS2.blk 4 rfl).cell 0
          simp at e0
          have HS2 := Lib.hid hS2
          have HGET := Lib.hid hget
          clear hS2 hget
          by_cases hb : leave = 1
          · have hbb : ((1 : Int) == leave) = true := by simp [hb]
            have HBB := Lib.hid hb
            subst hb
            gi_wp2
            refine ⟨_, ⟨rfl, rfl⟩, ?_⟩
            have := HS2.out.setCell 4 rfl 0 (.int .i64 1)
            simpa [HK.out] using this
          · have hbb : ((1 : Int) == leave) = false := by simp; omega
            have hbc : ¬ (1 : Int) = leave := by omega
            gi_wp2
            refine ⟨_, rfl, ?_⟩
            have := HS2.out.setCell 4 rfl 0 (.int .i64 1)
            simpa [HK.out] using this
        · have e0 := (hS2.blk 4 rfl).cell 0
          simp only [List.getElem?_toArray, List.getElem?_cons_zero] at e0
          push_cast at e0
          obtain ⟨y, hy⟩ : ∃ y, all3[j]? = some y := ⟨_, List.getElem?_eq_getElem (by rw [HLN.out]; omega)⟩
          have e5 := hS2.rowCell 6 rfl j (encR y) (by rw [List.getElem?_map, hy]; rfl)
          simp only [encR] at e5
          have hyx : y < x := by
            obtain ⟨h1, h2⟩ := List.getElem?_eq_some_iff.1 hy
            obtain ⟨h3, h4⟩ := List.getElem?_eq_some_iff.1 hget
            have := List.pairwise_iff_getElem.1 HSORT.out j (j + 1) h1 h3 (by omega)
            rw [h2, h4] at this
            exact this
          have hln96 : Ln ≤ 48 := hal3
          have HS2 := Lib.hid hS2
          clear hS2 hget hy
          by_cases hb : (j : Int) + 1 + 1 = leave
          · subst hb
            gi_wp2
            refine ⟨_, ⟨rfl, rfl⟩, ?_⟩
            have := HS2.out.setCell 4 rfl 0 (.int .i64 ((j : Int) + 1 + 1))
            simpa [HK.out] using this
          · have hbb : ((j : Int) + 1 + 1 == leave) = false := by simpa using hb
            gi_wp2
            refine ⟨_, rfl, ?_⟩
            have := HS2.out.setCell 4 rfl 0 (.int .i64 ((j : Int) + 1 + 1))
            simpa [HK.out] using this
      case doneA =>
        rintro D4 _ W4 rfl hS1
        simp only [List.cons_append, List.nil_append] at hS1
        have HS6 := Lib.hid (show Sep w W4 (arenaR a B :: objR D4 (.deferred (some [])) :: blkR b10 32 #[.slice AA Ln cap] :: rowR 26 1 (.slice AA Ln cap) Ln (all3.map encR) :: objR D3 (.deferred (some [])) :: objR D2 (.deferred (some [])) :: objR D1 (.deferred (some [])) :: modelR mo B :: blkR (b3 + 1) 4 #[.bool false] :: blkR b5 23 #[.pointer (some ⟨a, 0, none⟩)] :: blkR b3 5 #[.int .u8 leave] :: []) from (hS1.front 4 [0, 3]).tail.tail)
        clear hS1 HS5
        have g5 := (HS6.out.blk 9 rfl).cell 0
        simp only [List.getElem?_toArray, List.getElem?_cons_zero, List.getElem?_cons_succ] at g5
        gi_wp2_with (gi_at_call 28; refine (calls_in (TACells HS6.out a (3 : Int))).mono ?_; rintro e w5 ⟨rfl, hs⟩; have HS7 := Lib.hid hs; clear hs)
        have hS8 := HS7.out.front 2 [1, 0]
        obtain ⟨Td5, hT⟩ : ∃ T, W4.heap.size = T := ⟨_, rfl⟩
        rw [hT] at hS8 ⊢
        have HS8 := Lib.hid (show Sep w w5 (blkR Td5 23 #[.pointer (some ⟨a, 0, none⟩)] :: blkR (Td5 + 1) 3 #[.int .i64 (3 : Int)] :: arenaR a B :: objR D4 (.deferred (some [])) :: blkR b10 32 #[.slice AA Ln cap] :: rowR 26 1 (.slice AA Ln cap) Ln (all3.map encR) :: objR D3 (.deferred (some [])) :: objR D2 (.deferred (some [])) :: objR D1 (.deferred (some [])) :: modelR mo B :: blkR (b3 + 1) 4 #[.bool false] :: blkR b5 23 #[.pointer (some ⟨a, 0, none⟩)] :: blkR b3 5 #[.int .u8 leave] :: []) from hS8)
        clear hT hS8 HS7 HS6 g5
        have hcd5 : B.cellsOf (3 : Int) = [] := by
          have := HBN.out
          unfold AR.cellsOf
          rw [show B.clsZ (3 : Int) = -1 by unfold AR.clsZ; rw [if_neg (by omega)], cN_out (by omega)]
          rfl
        refine wp_range (gf := 53) (lb := #[.pointer (some ⟨Td5, 0, none⟩), .pointer (some ⟨Td5 + 1, 0, none⟩)]) rfl (enters_of Try.func53 (by kernel_rfl) rfl) (cells_iter Td5 (Td5 + 1) a (3 : Int) B HWF.out) (fun _ => rfl) HS8.out
          (fun pre Rs => Rs = objR D4 (.deferred (some [])) :: blkR b10 32 #[.slice AA Ln cap] :: rowR 26 1 (.slice AA Ln cap) Ln (all3.map encR) :: objR D3 (.deferred (some [])) :: objR D2 (.deferred (some [])) :: objR D1 (.deferred (some [])) :: modelR mo B :: blkR (b3 + 1) 4 #[.bool false] :: blkR b5 23 #[.pointer (some ⟨a, 0, none⟩)] :: blkR b3 5 #[.int .u8 leave] :: []) (fun _ _ _ => False) rfl ?roundd5 ?doned5 ?stopd5
        case stopd5 => rintro _ _ _ _ _ _ h; exact h.elim
        case roundd5 =>
          rintro l1 DD pre x _ G V1 r1 hpre _ _
          rw [hcd5] at hpre
          exact absurd hpre.length_le (by simp)
        rintro D5 _ W5 rfl hS1
        simp only [List.cons_append, List.nil_append] at hS1
        have HS6 := Lib.hid (show Sep w W5 (arenaR a B :: objR D5 (.deferred (some [])) :: objR D4 (.deferred (some [])) :: blkR b10 32 #[.slice AA Ln cap] :: rowR 26 1 (.slice AA Ln cap) Ln (all3.map encR) :: objR D3 (.deferred (some [])) :: objR D2 (.deferred (some [])) :: objR D1 (.deferred (some [])) :: modelR mo B :: blkR (b3 + 1) 4 #[.bool false] :: blkR b5 23 #[.pointer (some ⟨a, 0, none⟩)] :: blkR b3 5 #[.int .u8 leave] :: []) from hS1.tail.tail)
        clear hS1 HS8 hcd5
        have g5 := (HS6.out.blk 10 rfl).cell 0
        simp only [List.getElem?_toArray, List.getElem?_cons_zero, List.getElem?_cons_succ] at g5
        gi_wp2_with (gi_at_call 28; refine (calls_in (TACells HS6.out a (-1 : Int))).mono ?_; rintro e w5 ⟨rfl, hs⟩; have HS7 := Lib.hid hs; clear hs)
        have hS8 := HS7.out.front 2 [1, 0]
        obtain ⟨Td6, hT⟩ : ∃ T, W5.heap.size = T := ⟨_, rfl⟩
        rw [hT] at hS8 ⊢
        have HS8 := Lib.hid (show Sep w w5 (blkR Td6 23 #[.pointer (some ⟨a, 0, none⟩)] :: blkR (Td6 + 1) 3 #[.int .i64 (-1 : Int)] :: arenaR a B :: objR D5 (.deferred (some [])) :: objR D4 (.deferred (some [])) :: blkR b10 32 #[.slice AA Ln cap] :: rowR 26 1 (.slice AA Ln cap) Ln (all3.map encR) :: objR D3 (.deferred (some [])) :: objR D2 (.deferred (some [])) :: objR D1 (.deferred (some [])) :: modelR mo B :: blkR (b3 + 1) 4 #[.bool false] :: blkR b5 23 #[.pointer (some ⟨a, 0, none⟩)] :: blkR b3 5 #[.int .u8 leave] :: []) from hS8)
        clear hT hS8 HS7 HS6 g5
        have hcd6 : B.cellsOf (-1 : Int) = [] := by
          have := HBN.out
          unfold AR.cellsOf
          rw [show B.clsZ (-1 : Int) = -1 by unfold AR.clsZ; rw [if_neg (by omega)], cN_out (by omega)]
          rfl
        refine wp_range (gf := 53) (lb := #[.pointer (some ⟨Td6, 0, none⟩), .pointer (some ⟨Td6 + 1, 0, none⟩)]) rfl (enters_of Try.func53 (by kernel_rfl) rfl) (cells_iter Td6 (Td6 + 1) a (-1 : Int) B HWF.out) (fun _ => rfl) HS8.out
          (fun pre Rs => Rs = objR D5 (.deferred (some [])) :: objR D4 (.deferred (some [])) :: blkR b10 32 #[.slice AA Ln cap] :: rowR 26 1 (.slice AA Ln cap) Ln (all3.map encR) :: objR D3 (.deferred (some [])) :: objR D2 (.deferred (some [])) :: objR D1 (.deferred (some [])) :: modelR mo B :: blkR (b3 + 1) 4 #[.bool false] :: blkR b5 23 #[.pointer (some ⟨a, 0, none⟩)] :: blkR b3 5 #[.int .u8 leave] :: []) (fun _ _ _ => False) rfl ?roundd6 ?doned6 ?stopd6
        case stopd6 => rintro _ _ _ _ _ _ h; exact h.elim
        case roundd6 =>
          rintro l1 DD pre x _ G V1 r1 hpre _ _
          rw [hcd6] at hpre
          exact absurd hpre.length_le (by simp)
        rintro D6 _ W6 rfl hS1
        simp only [List.cons_append, List.nil_append] at hS1
        have HS6 := Lib.hid (show Sep w W6 (arenaR a B :: objR D6 (.deferred (some [])) :: objR D5 (.deferred (some [])) :: objR D4 (.deferred (some [])) :: blkR b10 32 #[.slice AA Ln cap] :: rowR 26 1 (.slice AA Ln cap) Ln (all3.map encR) :: objR D3 (.deferred (some [])) :: objR D2 (.deferred (some [])) :: objR D1 (.deferred (some [])) :: modelR mo B :: blkR (b3 + 1) 4 #[.bool false] :: blkR b5 23 #[.pointer (some ⟨a, 0, none⟩)] :: blkR b3 5 #[.int .u8 leave] :: []) from hS1.tail.tail)
        clear hS1 HS8 hcd6
        obtain ⟨v, tb, hS7⟩ := model_open HS6.out 9 rfl
        simp only [modelParts, List.cons_append, List.nil_append, List.eraseIdx_cons_succ, List.eraseIdx_cons_zero] at hS7
        have htot : B.total.toNat = Ln := by
          have h1 := elems_length HWF.out
          rw [HEL.out, HLN.out] at h1
          omega
        rw [htot] at hS7
        have hm1 := (hS7.blk 0 rfl).cell 1
        have h4f := (HS6.out.blk 10 rfl).frozen 0
        have h4c := (HS6.out.blk 10 rfl).cell 0
        have h50 := (HS6.out.blk 11 rfl).cell 0
        have h10 := (HS6.out.blk 4 rfl).cell 0
        simp only [List.getElem?_toArray, List.getElem?_cons_zero, List.getElem?_cons_succ] at hm1 h50 h4c h10
        have HS7 := Lib.hid hS7
        clear hS7 htot
        gi_wp2
        have HSD := Lib.hid HS6.out.drew
        have hlen2 := fun ty => map_len refIntOk HS7.out.drew 2 rfl ty
        have h3 := TAClass HSD.out 0 rfl (3 : Int)
        have h1 := TAClass HSD.out 0 rfl (-1 : Int)
        rw [show B.clsZ (3 : Int) = -1 by have := HBN.out; unfold AR.clsZ; rw [if_neg (by omega)]] at h3
        rw [show B.clsZ (-1 : Int) = -1 by have := HBN.out; unfold AR.clsZ; rw [if_neg (by omega)]] at h1
        have H3 := Lib.hid h3
        have H1 := Lib.hid h1
        clear h3 h1
        refine wpIn_wide.2 ?_
        refine wp_region_still_tail 18 (by kernel_rfl) (by kernel_rfl) ?_
        change wpStill _ _ (World.drew _) (fun a' => wpList _ _ _ _ a' (World.drew _)) _ _
        simp only [List.take_succ_cons, List.take_zero, List.drop_succ_cons, List.drop_zero]
        iterate 10 still_step
        still_call (H3.out.mono (fun _ _ h => ⟨h.1, h.2.symm⟩))
        iterate 4 still_step
        still_call (H1.out.mono (fun _ _ h => ⟨h.1, h.2.symm⟩))
        iterate 2 still_step
        refine wpStill_nil ?_
        go_wp2
        gi_wp2
        have hfin := ((HS6.out.setCell 10 rfl 0 (.bool true)).drew).front 11 [1, 2, 3, 6, 7, 8, 10]
        refine leaves_box6 hfin rfl rfl ?_
        intro w' L' hS
        exact ⟨rfl, hS.below⟩
      case stopA =>
        rintro D4 _ pre _ W4 _ ⟨rfl, rfl⟩ hS1
        simp only [List.cons_append, List.nil_append] at hS1
        have HS6 := Lib.hid (show Sep w W4 (arenaR a B :: objR D4 (.deferred (some [])) :: blkR b10 32 #[.slice AA Ln cap] :: rowR 26 1 (.slice AA Ln cap) Ln (all3.map encR) :: objR D3 (.deferred (some [])) :: objR D2 (.deferred (some [])) :: objR D1 (.deferred (some [])) :: modelR mo B :: blkR (b3 + 1) 4 #[.bool false] :: blkR b5 23 #[.pointer (some ⟨a, 0, none⟩)] :: blkR b3 5 #[.int .u8 leave] :: []) from (hS1.front 4 [0, 3]).tail.tail)
        clear hS1 HS5
        have g5 := (HS6.out.blk 9 rfl).cell 0
        simp only [List.getElem?_toArray, List.getElem?_cons_zero, List.getElem?_cons_succ] at g5
        gi_wp2_with (gi_at_call 28; refine (calls_in (TACells HS6.out a (3 : Int))).mono ?_; rintro e w5 ⟨rfl, hs⟩; have HS7 := Lib.hid hs; clear hs)
        have hS8 := HS7.out.front 2 [1, 0]
        obtain ⟨Ts5, hT⟩ : ∃ T, W4.heap.size = T := ⟨_, rfl⟩
        rw [hT] at hS8 ⊢
        have HS8 := Lib.hid (show Sep w w5 (blkR Ts5 23 #[.pointer (some ⟨a, 0, none⟩)] :: blkR (Ts5 + 1) 3 #[.int .i64 (3 : Int)] :: arenaR a B :: objR D4 (.deferred (some [])) :: blkR b10 32 #[.slice AA Ln cap] :: rowR 26 1 (.slice AA Ln cap) Ln (all3.map encR) :: objR D3 (.deferred (some [])) :: objR D2 (.deferred (some [])) :: objR D1 (.deferred (some [])) :: modelR mo B :: blkR (b3 + 1) 4 #[.bool false] :: blkR b5 23 #[.pointer (some ⟨a, 0, none⟩)] :: blkR b3 5 #[.int .u8 leave] :: []) from hS8)
        clear hT hS8 HS7 HS6 g5
        have hcs5 : B.cellsOf (3 : Int) = [] := by
          have := HBN.out
          unfold AR.cellsOf
          rw [show B.clsZ (3 : Int) = -1 by unfold AR.clsZ; rw [if_neg (by omega)], cN_out (by omega)]
          rfl
        refine wp_range (gf := 53) (lb := #[.pointer (some ⟨Ts5, 0, none⟩), .pointer (some ⟨Ts5 + 1, 0, none⟩)]) rfl (enters_of Try.func53 (by kernel_rfl) rfl) (cells_iter Ts5 (Ts5 + 1) a (3 : Int) B HWF.out) (fun _ => rfl) HS8.out
          (fun pre Rs => Rs = objR D4 (.deferred (some [])) :: blkR b10 32 #[.slice AA Ln cap] :: rowR 26 1 (.slice AA Ln cap) Ln (all3.map encR) :: objR D3 (.deferred (some [])) :: objR D2 (.deferred (some [])) :: objR D1 (.deferred (some [])) :: modelR mo B :: blkR (b3 + 1) 4 #[.bool false] :: blkR b5 23 #[.pointer (some ⟨a, 0, none⟩)] :: blkR b3 5 #[.int .u8 leave] :: []) (fun _ _ _ => False) rfl ?rounds5 ?dones5 ?stops5
        case stops5 => rintro _ _ _ _ _ _ h; exact h.elim
        case rounds5 =>
          rintro l1 DD pre x _ G V1 r1 hpre _ _
          rw [hcs5] at hpre
          exact absurd hpre.length_le (by simp)
        rintro D5 _ W5 rfl hS1
        simp only [List.cons_append, List.nil_append] at hS1
        have HS6 := Lib.hid (show Sep w W5 (arenaR a B :: objR D5 (.deferred (some [])) :: objR D4 (.deferred (some [])) :: blkR b10 32 #[.slice AA Ln cap] :: rowR 26 1 (.slice AA Ln cap) Ln (all3.map encR) :: objR D3 (.deferred (some [])) :: objR D2 (.deferred (some [])) :: objR D1 (.deferred (some [])) :: modelR mo B :: blkR (b3 + 1) 4 #[.bool false] :: blkR b5 23 #[.pointer (some ⟨a, 0, none⟩)] :: blkR b3 5 #[.int .u8 leave] :: []) from hS1.tail.tail)
        clear hS1 HS8 hcs5
        have g5 := (HS6.out.blk 10 rfl).cell 0
        simp only [List.getElem?_toArray, List.getElem?_cons_zero, List.getElem?_cons_succ] at g5
        gi_wp2_with (gi_at_call 28; refine (calls_in (TACells HS6.out a (-1 : Int))).mono ?_; rintro e w5 ⟨rfl, hs⟩; have HS7 := Lib.hid hs; clear hs)
        have hS8 := HS7.out.front 2 [1, 0]
        obtain ⟨Ts6, hT⟩ : ∃ T, W5.heap.size = T := ⟨_, rfl⟩
        rw [hT] at hS8 ⊢
        have HS8 := Lib.hid (show Sep w w5 (blkR Ts6 23 #[.pointer (some ⟨a, 0, none⟩)] :: blkR (Ts6 + 1) 3 #[.int .i64 (-1 : Int)] :: arenaR a B :: objR D5 (.deferred (some [])) :: objR D4 (.deferred (some [])) :: blkR b10 32 #[.slice AA Ln cap] :: rowR 26 1 (.slice AA Ln cap) Ln (all3.map encR) :: objR D3 (.deferred (some [])) :: objR D2 (.deferred (some [])) :: objR D1 (.deferred (some [])) :: modelR mo B :: blkR (b3 + 1) 4 #[.bool false] :: blkR b5 23 #[.pointer (some ⟨a, 0, none⟩)] :: blkR b3 5 #[.int .u8 leave] :: []) from hS8)
        clear hT hS8 HS7 HS6 g5
        have hcs6 : B.cellsOf (-1 : Int) = [] := by
          have := HBN.out
          unfold AR.cellsOf
          rw [show B.clsZ (-1 : Int) = -1 by unfold AR.clsZ; rw [if_neg (by omega)], cN_out (by omega)]
          rfl
        refine wp_range (gf := 53) (lb := #[.pointer (some ⟨Ts6, 0, none⟩), .pointer (some ⟨Ts6 + 1, 0, none⟩)]) rfl (enters_of Try.func53 (by kernel_rfl) rfl) (cells_iter Ts6 (Ts6 + 1) a (-1 : Int) B HWF.out) (fun _ => rfl) HS8.out
          (fun pre Rs => Rs = objR D5 (.deferred (some [])) :: objR D4 (.deferred (some [])) :: blkR b10 32 #[.slice AA Ln cap] :: rowR 26 1 (.slice AA Ln cap) Ln (all3.map encR) :: objR D3 (.deferred (some [])) :: objR D2 (.deferred (some [])) :: objR D1 (.deferred (some [])) :: modelR mo B :: blkR (b3 + 1) 4 #[.bool false] :: blkR b5 23 #[.pointer (some ⟨a, 0, none⟩)] :: blkR b3 5 #[.int .u8 leave] :: []) (fun _ _ _ => False) rfl ?rounds6 ?dones6 ?stops6
        case stops6 => rintro _ _ _ _ _ _ h; exact h.elim
        case rounds6 =>
          rintro l1 DD pre x _ G V1 r1 hpre _ _
          rw [hcs6] at hpre
          exact absurd hpre.length_le (by simp)
        rintro D6 _ W6 rfl hS1
        simp only [List.cons_append, List.nil_append] at hS1
        have HS6 := Lib.hid (show Sep w W6 (arenaR a B :: objR D6 (.deferred (some [])) :: objR D5 (.deferred (some [])) :: objR D4 (.deferred (some [])) :: blkR b10 32 #[.slice AA Ln cap] :: rowR 26 1 (.slice AA Ln cap) Ln (all3.map encR) :: objR D3 (.deferred (some [])) :: objR D2 (.deferred (some [])) :: objR D1 (.deferred (some [])) :: modelR mo B :: blkR (b3 + 1) 4 #[.bool false] :: blkR b5 23 #[.pointer (some ⟨a, 0, none⟩)] :: blkR b3 5 #[.int .u8 leave] :: []) from hS1.tail.tail)
        clear hS1 HS8 hcs6
        obtain ⟨v, tb, hS7⟩ := model_open HS6.out 9 rfl
        simp only [modelParts, List.cons_append, List.nil_append, List.eraseIdx_cons_succ, List.eraseIdx_cons_zero] at hS7
        have htot : B.total.toNat = Ln := by
          have h1 := elems_length HWF.out
          rw [HEL.out, HLN.out] at h1
          omega
        rw [htot] at hS7
        have hm1 := (hS7.blk 0 rfl).cell 1
        have h4f := (HS6.out.blk 10 rfl).frozen 0
        have h4c := (HS6.out.blk 10 rfl).cell 0
        have h50 := (HS6.out.blk 11 rfl).cell 0
        have h10 := (HS6.out.blk 4 rfl).cell 0
        simp only [List.getElem?_toArray, List.getElem?_cons_zero, List.getElem?_cons_succ] at hm1 h50 h4c h10
        have HS7 := Lib.hid hS7
        clear hS7 htot
        gi_wp2
        have HSD := Lib.hid HS6.out.drew
        have hlen2 := fun ty => map_len refIntOk HS7.out.drew 2 rfl ty
        have h3 := TAClass HSD.out 0 rfl (3 : Int)
        have h1 := TAClass HSD.out 0 rfl (-1 : Int)
        rw [show B.clsZ (3 : Int) = -1 by have := HBN.out; unfold AR.clsZ; rw [if_neg (by omega)]] at h3
        rw [show B.clsZ (-1 : Int) = -1 by have := HBN.out; unfold AR.clsZ; rw [if_neg (by omega)]] at h1
        have H3 := Lib.hid h3
        have H1 := Lib.hid h1
        clear h3 h1
        refine wpIn_wide.2 ?_
        refine wp_region_still_tail 18 (by kernel_rfl) (by kernel_rfl) ?_
        change wpStill _ _ (World.drew _) (fun a' => wpList _ _ _ _ a' (World.drew _)) _ _
        simp only [List.take_succ_cons, List.take_zero, List.drop_succ_cons, List.drop_zero]
        iterate 10 still_step
        still_call (H3.out.mono (fun _ _ h => ⟨h.1, h.2.symm⟩))
        iterate 4 still_step
        still_call (H1.out.mono (fun _ _ h => ⟨h.1, h.2.symm⟩))
        iterate 2 still_step
        refine wpStill_nil ?_
        go_wp2
        gi_wp2
        have hfin := ((HS6.out.setCell 10 rfl 0 (.bool true)).drew).front 11 [1, 2, 3, 6, 7, 8, 10]
        refine leaves_box6 hfin rfl rfl ?_
        intro w' L' hS
        exact ⟨rfl, hS.below⟩
end Go.Proofs.Ytapbphbnffggnaa
