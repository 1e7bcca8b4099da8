/-
  Parts of the proof, joined: VybPost, ResultM, VybMore, Dij, Yua, Engine. Conditions: as each part says.
-/
import Derived.Test.YtbcabjpafeocgaaGreatL6
import Derived.Test.YtbcabjpafeocgaaGreatL4
import Derived.Test.YtbcabjpafeocgaaGreatL5
import Derived.Test.YtbcabjpafeocgaaGreatL3

/-
  The barrier of layer 15: Post and Reset. Conditions: as the theorem says.
-/
namespace Go.Proofs.YtbcabjpafeocgaaGreat
set_option linter.unusedVariables false
set_option linter.unusedSimpArgs false
open Go.RowKit Go.Shelf

theorem nums_append_one (l : List Nat) (x : Nat) : nums (l ++ [x]) = nums l ++ [.int .i64 (x : Int)] := by simp [nums]
theorem byteCells_set' (f : Nat → Nat) (n k v : Nat) {x : Int} (h : x = (v : Int)) : (byteCells f n).setIfInBounds k (.int .u8 x) = byteCells (updC f k v) n := by rw [h]; exact byteCells_set f n k v
section
variable {w0 w : World} {L R0 : List Res} {i b m a n : Nat} {V : Vy}
set_option maxRecDepth 100000 in
set_option maxHeartbeats 8000000 in
theorem PPost {cb : Nat} {v : Value} (hok : VyOk n V) (S : Sep w0 w (vybParts b m n V (cb, v) ++ R0)) (src : Int) (old new : Nat) (black early : Bool) (hold : old < n) (hnew : new < n) :
    Calls Tryz.prog 160 #[.pointer (some ⟨b, 0, none⟩), .agg #[.int .i64 src, .int .i64 (old : Int), .int .i64 (new : Int), .bool black, .bool early]] w fun e w' => e = .returned (.tuple #[]) ∧ ∃ v', Sep w0 w' (vybParts b m n (V.post black old new) (cb, v') ++ R0) := by
  obtain ⟨T, hT⟩ : ∃ T, w.heap.size = T := ⟨_, rfl⟩
  have hb := S.box #[.int .i64 src, .int .i64 (old : Int), .int .i64 (new : Int), .bool black, .bool early] 41
  rw [hT] at hb
  obtain ⟨AL, capl, rfl, hcap, hcm⟩ := S.rowShape 2 rfl
  unfold vybParts at hb
  have HOK := Lib.hid hok
  have Hold := Lib.hid hold
  have Hnew := Lib.hid hnew
  obtain ⟨ln, hln⟩ : ∃ n, V.log.length = n := ⟨_, rfl⟩
  have hro : Tryz.prog.follows .mixedOrders = true := by kernel_rfl
  have hsz := hok.size
  cases black with
  | false =>
    have HB := Lib.hid hb
    have hb0 := (hb.blk 0 rfl).cell 3
    simp only [List.getElem?_toArray, List.getElem?_cons_zero, List.getElem?_cons_succ] at hb0
    clear S hb hok hold hnew
    go_enter Tryz.func160, Tryz.ntmps160
    go_wp2
    refine bodyPost_ret (results_none rfl _ _ _) rfl ?_
    exact ⟨rfl, _, HB.out.tail⟩
  | true =>
    have hb0 := (hb.blk 0 rfl).cell 3
    have hb2 := (hb.blk 0 rfl).cell 2
    simp only [List.getElem?_toArray, List.getElem?_cons_zero, List.getElem?_cons_succ] at hb0 hb2
    obtain ⟨room, hroom⟩ : ∃ r, V.room = r := ⟨_, rfl⟩
    obtain ⟨ov, hov⟩ : ∃ r, V.over = r := ⟨_, rfl⟩
    have hb' := (show Sep w0 _ (blkR T 41 #[.int .i64 src, .int .i64 (old : Int), .int .i64 (new : Int), .bool true, .bool early] :: blkR b 112 #[.pointer (some ⟨m, 0, none⟩), .slice (some ⟨cb, 0, none⟩) n n, .slice AL V.log.length capl, .int .i64 V.room, .bool V.over] :: blkR cb 5 (byteCells (V.cnt) n) :: rowR 34 1 (.slice AL V.log.length capl) (V.log.length) (nums (V.log)) :: R0) from hb)
    rw [hln, hroom, hov] at hb'
    rw [hln] at hcap
    have HB := Lib.hid hb'
    have HLN := Lib.hid hln
    have HROOM := Lib.hid hroom
    have HOV := Lib.hid hov
    unfold maxLen at hcm
    have hfew := hok.few
    have hfit := hok.fits
    rw [hroom] at hfew
    rw [hln, hroom] at hfit
    clear S hb hb' hok hold hnew hln hroom hov
    rcases Nat.eq_zero_or_pos new with hn0 | hn0
    · have hnI : (new : Int) = 0 := by omega
      have hnb : ((new : Int) != 0) = false := by simp; omega
      have HOK1 := HOK
      have HN0 := Lib.hid hn0
      clear hn0 hnI hfit hfew
      go_enter Tryz.func160, Tryz.ntmps160
      go_wp2
      obtain ⟨V1, hV1⟩ : ∃ V1, V = V1 := ⟨_, rfl⟩
      obtain ⟨v1, hv1⟩ : ∃ v1, Value.slice AL ln capl = v1 := ⟨_, rfl⟩
      have HPOST := Lib.hid (show V.post true old new = V1.down old by unfold Vy.post Vy.up; rw [if_pos rfl, if_pos HN0.out, hV1])
      rw [hV1] at HOK1
      have HS := Lib.hid (show Sep w0 _ (blkR T 41 #[.int .i64 src, .int .i64 (old : Int), .int .i64 (new : Int), .bool true, .bool early] :: blkR b 112 #[.pointer (some ⟨m, 0, none⟩), .slice (some ⟨cb, 0, none⟩) n n, v1, .int .i64 V1.room, .bool V1.over] :: blkR cb 5 (byteCells (V1.cnt) n) :: rowR 34 1 (v1) (V1.log.length) (nums (V1.log)) :: R0) from by
        rw [← hV1, HLN.out, HROOM.out, HOV.out, ← hv1]
        exact HB.out)
      clear HB hV1 hv1 hb0 hb2 hcap hcm
      obtain ⟨c, hc⟩ : ∃ c, V1.cnt old = c := ⟨_, rfl⟩
      have hc3 : c ≤ 3 := by rw [← hc]; exact HOK1.out.three old
      have HCC := Lib.hid hc
      have holdI : (old : Int) < (n : Int) := by have := Hold.out; omega
      have hold0 : (0 : Int) ≤ (old : Int) := by omega
      clear hc
      obtain ⟨wd4, hwd4⟩ : ∃ wd, (w.alloc (.cells #[.int .i64 src, .int .i64 (old : Int), .int .i64 (new : Int), .bool true, .bool early] 41)).drew = wd := ⟨_, rfl⟩
      have hd := HS.out.drew
      rw [hwd4] at hd
      have x0 := (hd.blk 1 rfl).cell 1
      have x1 := (hd.blk 0 rfl).cell 1
      simp only [List.getElem?_toArray, List.getElem?_cons_zero, List.getElem?_cons_succ] at x0 x1
      have xc := (hd.blk 2 rfl).cell old
      rw [byteCells_get _ _ _ Hold.out, HCC.out] at xc

      have HB1 := Lib.hid hd
      clear hd HS
      refine wp_region_still_tail 8 (by kernel_rfl) (by kernel_rfl) ?_
      change wpStill _ _ (World.drew _) (fun a' => wpList _ _ _ _ a' (World.drew _)) _ _
      rw [hwd4]
      clear hwd4
      simp only [List.take_succ_cons, List.take_zero, List.drop_succ_cons, List.drop_zero]
      repeat still_step
      refine wpStill_nil ?_
      have xw := (HB1.out.blk 0 rfl).cell 1
      simp only [List.getElem?_toArray, List.getElem?_cons_zero, List.getElem?_cons_succ] at xw
      clear x0 x1 xc
      by_cases ho0 : old = 0
      · have hoI : (old : Int) = 0 := by omega
        have hob : ((old : Int) != 0) = false := by simp; omega
        have HO0 := Lib.hid ho0
        have HOB := Lib.hid hoI
        clear ho0 hoI
        go_wp2
        go_end0
        refine ⟨rfl, v1, ?_⟩
        rw [HPOST.out]
        show Sep w0 _ (vybParts b m n ((V1).down old) (cb, v1) ++ R0)
        rw [show (V1).down old = V1 by unfold Vy.down; rw [if_neg (fun h => h.1 HO0.out)]]
        exact HB1.out.tail
      · have hoI : ¬ (old : Int) = 0 := by omega
        have hob : ((old : Int) != 0) = true := by simp; omega
        by_cases hc1 : 0 < c ∧ c < 3
        · have hcp : (0 : Int) < (c : Int) := by omega
          have hcl : (c : Int) < 3 := by omega
          have HO0 := Lib.hid ho0
          have HC1 := Lib.hid hc1
          clear ho0 hc1
          go_wp2
          obtain ⟨wd5, hwd5⟩ : ∃ wd, (wd4).drew = wd := ⟨_, rfl⟩
          have hd := HB1.out.drew
          rw [hwd5] at hd
          have x0 := (hd.blk 1 rfl).cell 1
          have x1 := (hd.blk 0 rfl).cell 1
          simp only [List.getElem?_toArray, List.getElem?_cons_zero, List.getElem?_cons_succ] at x0 x1
          have xc := (hd.blk 2 rfl).cell old
          rw [byteCells_get _ _ _ Hold.out, HCC.out] at xc
          have xf := (hd.blk 2 rfl).frozen old

          have HB2 := Lib.hid hd
          clear hd HB1
          refine wp_region_still_tail 10 (by kernel_rfl) (by kernel_rfl) ?_
          change wpStill _ _ (World.drew _) (fun a' => wpList _ _ _ _ a' (World.drew _)) _ _
          rw [hwd5]
          clear hwd5
          simp only [List.take_succ_cons, List.take_zero, List.drop_succ_cons, List.drop_zero]
          repeat still_step
          refine wpStill_nil ?_
          go_wp2
          go_end0
          refine ⟨rfl, v1, ?_⟩
          rw [HPOST.out]
          show Sep w0 _ (vybParts b m n ((V1).down old) (cb, v1) ++ R0)
          rw [show (V1).down old = { V1 with cnt := updC V1.cnt old (c - 1) } by unfold Vy.down; rw [HCC.out, if_pos ⟨HO0.out, HC1.out.1, HC1.out.2⟩]]
          have h1 := (HB2.out.setCell 2 rfl old (.int .u8 ((c : Int) - 1))).tail
          simp only [List.set_cons_succ, List.set_cons_zero] at h1
          rw [byteCells_set' _ _ _ (c - 1) (by have := HC1.out.1; omega)] at h1
          exact h1
        · have HO0 := Lib.hid ho0
          have HC1 := Lib.hid hc1
          have hc03 : c = 0 ∨ c = 3 := by omega
          clear ho0 hc1
          rcases hc03 with rfl | rfl
          all_goals
            go_wp2
            go_end0
            refine ⟨rfl, v1, ?_⟩
            rw [HPOST.out]
            show Sep w0 _ (vybParts b m n ((V1).down old) (cb, v1) ++ R0)
            rw [show (V1).down old = V1 by unfold Vy.down; rw [HCC.out, if_neg (fun h => HC1.out h.2)]]
            exact HB1.out.tail
    · have hnI : ¬ (new : Int) = 0 := by omega
      have hnb : ((new : Int) != 0) = true := by simp; omega
      have hnl : (new : Int) < (n : Int) := by have := Hnew.out; omega
      have hn00 : (0 : Int) ≤ (new : Int) := by omega
      have HN0 := Lib.hid hn0
      obtain ⟨cn, hcn⟩ : ∃ c, V.cnt new = c := ⟨_, rfl⟩
      have hcn3 : cn ≤ 3 := by rw [← hcn]; exact HOK.out.three new
      have HCN := Lib.hid hcn
      clear hn0 hcn
      by_cases hc3 : cn = 3
      · subst hc3
        go_enter Tryz.func160, Tryz.ntmps160
        go_wp2
        obtain ⟨wd1, hwd1⟩ : ∃ wd, (w.alloc (.cells #[.int .i64 src, .int .i64 (old : Int), .int .i64 (new : Int), .bool true, .bool early] 41)).drew = wd := ⟨_, rfl⟩
        have hd := HB.out.drew
        rw [hwd1] at hd
        have x0 := (hd.blk 1 rfl).cell 1
        have x1 := (hd.blk 0 rfl).cell 2
        simp only [List.getElem?_toArray, List.getElem?_cons_zero, List.getElem?_cons_succ] at x0 x1
        have xc := (hd.blk 2 rfl).cell new
        rw [byteCells_get _ _ _ Hnew.out, HCN.out] at xc
        have xf := (hd.blk 2 rfl).frozen new

        have HA1 := Lib.hid hd
        clear hd HB
        refine wp_region_still_tail 17 (by kernel_rfl) (by kernel_rfl) ?_
        change wpStill _ _ (World.drew _) (fun a' => wpList _ _ _ _ a' (World.drew _)) _ _
        rw [hwd1]
        clear hwd1
        simp only [List.take_succ_cons, List.take_zero, List.drop_succ_cons, List.drop_zero]
        repeat still_step
        refine wpStill_nil ?_
        go_wp2
        have HA2 := Lib.hid (show Sep w0 _ (blkR T 41 #[.int .i64 src, .int .i64 (old : Int), .int .i64 (new : Int), .bool true, .bool early] :: blkR b 112 #[.pointer (some ⟨m, 0, none⟩), .slice (some ⟨cb, 0, none⟩) n n, .slice AL ln capl, .int .i64 room, .bool ov] :: blkR cb 5 (byteCells (updC V.cnt new 3) n) :: rowR 34 1 (.slice AL ln capl) (ln) (nums (V.log)) :: R0) from by
          have h1 := HA1.out.setCell 2 rfl new (.int .u8 3)
          simp only [List.set_cons_succ, List.set_cons_zero] at h1
          rw [byteCells_set' _ _ _ 3 (by first | rfl | (push_cast; rfl))] at h1
          exact h1)
        clear HA1 x0 x1 xc xf
        by_cases hft : (ln : Int) < room
        · have HFT := Lib.hid hft
          obtain ⟨wd6, hwd6⟩ : ∃ wd, ((wd1.setCell ⟨cb, new, none⟩ (.int .u8 3))).drew = wd := ⟨_, rfl⟩
          have hd := HA2.out.drew
          rw [hwd6] at hd
          have x0 := (hd.blk 1 rfl).cell 2
          have x1 := (hd.blk 1 rfl).cell 3
          simp only [List.getElem?_toArray, List.getElem?_cons_zero, List.getElem?_cons_succ] at x0 x1

          have HA3 := Lib.hid hd
          clear hd HA2
          refine wp_region_still_tail 9 (by kernel_rfl) (by kernel_rfl) ?_
          change wpStill _ _ (World.drew _) (fun a' => wpList _ _ _ _ a' (World.drew _)) _ _
          rw [hwd6]
          clear hwd6
          simp only [List.take_succ_cons, List.take_zero, List.drop_succ_cons, List.drop_zero]
          repeat still_step
          refine wpStill_nil ?_
          go_wp2
          clear x0 x1
          obtain ⟨wf, hwf⟩ : ∃ wf, (wd6).drew = wf := ⟨_, rfl⟩
          have hd := HA3.out.drew
          rw [hwf] at hd
          have k1 := (hd.blk 1 rfl).cell 2
          have k2 := (hd.blk 0 rfl).cell 2
          simp only [List.getElem?_toArray, List.getElem?_cons_zero, List.getElem?_cons_succ] at k1 k2
          have hb1 := hd.box #[.int .i64 (new : Int)] 34
          have l1 := (hb1.blk 2 rfl).cell 2
          have l2 := (hb1.blk 1 rfl).cell 2
          simp only [List.getElem?_toArray, List.getElem?_cons_zero, List.getElem?_cons_succ] at l1 l2
          obtain ⟨vA, wA, hrun, hs9⟩ := hb1.append_some (P := Tryz.prog) (t := 25) (ad := ⟨wf.heap.size, 0, none⟩) (m := 1) (c := 1) (us := [.int .i64 (new : Int)]) 25 Tryz.underlying25 refInfo rfl (by decide) 4 rfl rfl (by
              intro j u hj
              match j, hj with
              | 0, hj =>
                simp at hj
                subst hj
                simp [Addr.add]) (by simp [Value.oneCell']) (by unfold maxLen; omega) (by omega)
          obtain ⟨AA, capA, rfl, hcapA, hcmA⟩ := hs9.rowShape 4 rfl
          have n1 := (hs9.blk 2 rfl).cell 2
          have n2 := (hs9.blk 1 rfl).cell 2
          simp only [List.getElem?_toArray, List.getElem?_cons_zero, List.getElem?_cons_succ] at n1 n2
          have HRUN := Lib.hid hrun
          have hf9 := (hs9.blk 2 rfl).frozen 2
          have hs10 := (hs9.setCell 2 rfl 2 (.slice AA (ln + 1) capA)).tail
          simp only [List.set_cons_succ, List.set_cons_zero, List.setIfInBounds_toArray] at hs10
          rw [← nums_append_one] at hs10
          have HA5 := Lib.hid (show Sep w0 _ (blkR T 41 #[.int .i64 src, .int .i64 (old : Int), .int .i64 (new : Int), .bool true, .bool early] :: blkR b 112 #[.pointer (some ⟨m, 0, none⟩), .slice (some ⟨cb, 0, none⟩) n n, .slice AA (ln + 1) capA, .int .i64 room, .bool ov] :: blkR cb 5 (byteCells (updC V.cnt new 3) n) :: rowR 34 1 (.slice AA (ln + 1) capA) (ln + 1) (nums (V.log ++ [new])) :: R0) from hs10)
          clear hd hb1 hrun hs9 hs10 HA3
          refine calmP ?_
          refine wp_region_float (fun W => W.cell? ⟨T, 2, none⟩ = some (.int .i64 (new : Int))) hro ?_
          rw [hwf]
          clear hwf
          refine wpAnyC_take (i := 0) (v := ?v8) rfl (by kernel_rfl) (by kernel_rfl) (by kernel_rfl) (fun _ _ _ h => h) (.inl ⟨?w8, ?y8⟩) ?h8
          case w8 => kernel_rfl
          case y8 =>
            intro W hf
            obtain hf1 := hf
            unfold yieldsAt
            go_simp
            all_goals first | rfl | exact ⟨rfl, rfl⟩
          simp only [List.getElem_toArray, List.getElem_cons_zero, List.getElem_cons_succ, Act.put, List.setIfInBounds_toArray, List.set_cons_succ, List.set_cons_zero]
          refine wpAnyC_take (i := 1) (v := ?v9) rfl (by kernel_rfl) (by kernel_rfl) (by kernel_rfl) (fun _ _ _ h => h) (.inl ⟨?w9, ?y9⟩) ?h9
          case w9 => kernel_rfl
          case y9 =>
            intro W hf
            obtain hf1 := hf
            unfold yieldsAt
            go_simp
            all_goals first | rfl | exact ⟨rfl, rfl⟩
          simp only [List.getElem_toArray, List.getElem_cons_zero, List.getElem_cons_succ, Act.put, List.setIfInBounds_toArray, List.set_cons_succ, List.set_cons_zero]
          refine wpAnyC_take (i := 2) (v := ?v10) rfl (by kernel_rfl) (by kernel_rfl) (by kernel_rfl) (fun _ _ _ h => h) (.inl ⟨?w10, ?y10⟩) ?h10
          case w10 => kernel_rfl
          case y10 =>
            intro W hf
            obtain hf1 := hf
            unfold yieldsAt
            go_simp
            all_goals first | rfl | exact ⟨rfl, rfl⟩
          simp only [List.getElem_toArray, List.getElem_cons_zero, List.getElem_cons_succ, Act.put, List.setIfInBounds_toArray, List.set_cons_succ, List.set_cons_zero]
          refine wpAnyC_take (i := 3) (v := ?v11) rfl (by kernel_rfl) (by kernel_rfl) (by kernel_rfl) (fun _ _ _ h => h) (.inl ⟨?w11, ?y11⟩) ?h11
          case w11 => kernel_rfl
          case y11 =>
            intro W hf
            obtain hf1 := hf
            unfold yieldsAt
            go_simp
            all_goals first | rfl | exact ⟨rfl, rfl⟩
          simp only [List.getElem_toArray, List.getElem_cons_zero, List.getElem_cons_succ, Act.put, List.setIfInBounds_toArray, List.set_cons_succ, List.set_cons_zero]
          refine wpAnyC_take (i := 5) (v := ?v12) rfl (by kernel_rfl) (by kernel_rfl) (by kernel_rfl) (fun _ _ _ h => h) (.inl ⟨?w12, ?y12⟩) ?h12
          case w12 => kernel_rfl
          case y12 =>
            intro W hf
            obtain hf1 := hf
            unfold yieldsAt
            go_simp
            all_goals first | rfl | exact ⟨rfl, rfl⟩
          simp only [List.getElem_toArray, List.getElem_cons_zero, List.getElem_cons_succ, Act.put, List.setIfInBounds_toArray, List.set_cons_succ, List.set_cons_zero]
          refine wpAnyC_take (i := 6) (v := ?v13) rfl (by kernel_rfl) (by kernel_rfl) (by kernel_rfl) (fun _ _ _ h => h) (.inl ⟨?w13, ?y13⟩) ?h13
          case w13 => kernel_rfl
          case y13 =>
            intro W hf
            obtain hf1 := hf
            unfold yieldsAt
            go_simp
            all_goals first | rfl | exact ⟨rfl, rfl⟩
          simp only [List.getElem_toArray, List.getElem_cons_zero, List.getElem_cons_succ, Act.put, List.setIfInBounds_toArray, List.set_cons_succ, List.set_cons_zero]
          refine wpAnyC_two (i := 4) (j := 7) rfl rfl (by kernel_rfl) k2 rfl rfl ?_ ?_
          · intro K hK
            go_simp
            refine hK _ _ ?_
            try simp only [List.getElem_toArray, List.getElem_cons_zero, List.getElem_cons_succ, Act.put, List.setIfInBounds_toArray, List.set_cons_succ, List.set_cons_zero]
            refine wpAnyC_one (i := 7) rfl (by kernel_rfl) k2 rfl ?_
            intro K hK
            go_simp
            refine hK _ _ ?_
            try simp only [List.getElem_toArray, List.getElem_cons_zero, List.getElem_cons_succ, Act.put, List.setIfInBounds_toArray, List.set_cons_succ, List.set_cons_zero]
            refine wpAnyC_one (i := 8) rfl (by kernel_rfl) l2 rfl ?_
            intro K hK
            refine wp_append_run _ _ _ rfl rfl rfl HRUN.out (hK _ _ ?_)
            simp only [List.getElem_toArray, List.getElem_cons_zero, List.getElem_cons_succ, Act.put, List.setIfInBounds_toArray, List.set_cons_succ, List.set_cons_zero]
            refine wpAnyC_take (i := 9) (v := ?v14) rfl (by kernel_rfl) (by kernel_rfl) (by kernel_rfl) (fun _ _ _ h => h) (.inl ⟨?w14, ?y14⟩) ?h14
            case w14 => kernel_rfl
            case y14 =>
              intro W hf
              obtain hf1 := hf
              unfold yieldsAt
              go_simp
              all_goals first | rfl | exact ⟨rfl, rfl⟩
            simp only [List.getElem_toArray, List.getElem_cons_zero, List.getElem_cons_succ, Act.put, List.setIfInBounds_toArray, List.set_cons_succ, List.set_cons_zero]
            refine wpAnyC_take (i := 10) (v := ?v15) rfl (by kernel_rfl) (by kernel_rfl) (by kernel_rfl) (fun _ _ _ h => h) (.inl ⟨?w15, ?y15⟩) ?h15
            case w15 => kernel_rfl
            case y15 =>
              intro W hf
              obtain hf1 := hf
              unfold yieldsAt
              go_simp
              all_goals first | rfl | exact ⟨rfl, rfl⟩
            simp only [List.getElem_toArray, List.getElem_cons_zero, List.getElem_cons_succ, Act.put, List.setIfInBounds_toArray, List.set_cons_succ, List.set_cons_zero]
            refine wpAnyC_one (i := 11) rfl (by kernel_rfl) n2 rfl ?_
            intro K hK
            go_simp
            refine hK _ _ ?_
            try simp only [List.getElem_toArray, List.getElem_cons_zero, List.getElem_cons_succ, Act.put, List.setIfInBounds_toArray, List.set_cons_succ, List.set_cons_zero]
            have n3 := HA5.out
            have p2 := (n3.blk 0 rfl).cell 2
            simp only [List.getElem?_toArray, List.getElem?_cons_zero, List.getElem?_cons_succ] at p2
            refine wpAnyC_done (by kernel_rfl) p2 ?_ _
            try simp only [List.getElem_toArray, List.getElem_cons_zero, List.getElem_cons_succ, Act.put, List.setIfInBounds_toArray, List.set_cons_succ, List.set_cons_zero]
            clear n3 p2 n1 n2 l1 l2 k1 k2 hf9
            go_wp2
            obtain ⟨V1, hV1⟩ : ∃ V1, (⟨updC V.cnt new 3, V.log ++ [new], room, ov⟩ : Vy) = V1 := ⟨_, rfl⟩
            obtain ⟨v1, hv1⟩ : ∃ v1, Value.slice AA (ln + 1) capA = v1 := ⟨_, rfl⟩
            have hup : V.up new = V1 := by
              rw [← hV1]
              unfold Vy.up
              rw [if_neg (by have := HN0.out; omega), if_pos (by rw [HLN.out, HROOM.out]; have := HFT.out; omega), HCN.out, HROOM.out, HOV.out]
              rw [show min (3 + 1) 3 = 3 by omega]
            have HOK1 := Lib.hid (show VyOk n V1 from by rw [← hup]; exact HOK.out.up Hnew.out)
            have HPOST := Lib.hid (show V.post true old new = V1.down old by unfold Vy.post; rw [if_pos rfl, hup])
            have HS := Lib.hid (show Sep w0 _ (blkR T 41 #[.int .i64 src, .int .i64 (old : Int), .int .i64 (new : Int), .bool true, .bool early] :: blkR b 112 #[.pointer (some ⟨m, 0, none⟩), .slice (some ⟨cb, 0, none⟩) n n, v1, .int .i64 V1.room, .bool V1.over] :: blkR cb 5 (byteCells (V1.cnt) n) :: rowR 34 1 (v1) (V1.log.length) (nums (V1.log)) :: R0) from by
              rw [← hV1, ← hv1]
              dsimp only
              rw [List.length_append, HLN.out]
              exact HA5.out)
            clear hV1 hv1 hup
            clear HA5
            obtain ⟨c, hc⟩ : ∃ c, V1.cnt old = c := ⟨_, rfl⟩
            have hc3 : c ≤ 3 := by rw [← hc]; exact HOK1.out.three old
            have HCC := Lib.hid hc
            have holdI : (old : Int) < (n : Int) := by have := Hold.out; omega
            have hold0 : (0 : Int) ≤ (old : Int) := by omega
            clear hc
            obtain ⟨wd18, hwd18⟩ : ∃ wd, (wA.setCell ⟨b, 2, none⟩ (.slice AA (ln + 1) capA)).drew = wd := ⟨_, rfl⟩
            have hd := HS.out.drew
            rw [hwd18] at hd
            have x0 := (hd.blk 1 rfl).cell 1
            have x1 := (hd.blk 0 rfl).cell 1
            simp only [List.getElem?_toArray, List.getElem?_cons_zero, List.getElem?_cons_succ] at x0 x1
            have xc := (hd.blk 2 rfl).cell old
            rw [byteCells_get _ _ _ Hold.out, HCC.out] at xc

            have HB1 := Lib.hid hd
            clear hd HS
            refine wp_region_still_tail 8 (by kernel_rfl) (by kernel_rfl) ?_
            change wpStill _ _ (World.drew _) (fun a' => wpList _ _ _ _ a' (World.drew _)) _ _
            rw [hwd18]
            clear hwd18
            simp only [List.take_succ_cons, List.take_zero, List.drop_succ_cons, List.drop_zero]
            repeat still_step
            refine wpStill_nil ?_
            have xw := (HB1.out.blk 0 rfl).cell 1
            simp only [List.getElem?_toArray, List.getElem?_cons_zero, List.getElem?_cons_succ] at xw
            clear x0 x1 xc
            by_cases ho0 : old = 0
            · have hoI : (old : Int) = 0 := by omega
              have hob : ((old : Int) != 0) = false := by simp; omega
              have HO0 := Lib.hid ho0
              have HOB := Lib.hid hoI
              clear ho0 hoI
              go_wp2
              go_end0
              refine ⟨rfl, v1, ?_⟩
              rw [HPOST.out]
              show Sep w0 _ (vybParts b m n ((V1).down old) (cb, v1) ++ R0)
              rw [show (V1).down old = V1 by unfold Vy.down; rw [if_neg (fun h => h.1 HO0.out)]]
              exact HB1.out.tail
            · have hoI : ¬ (old : Int) = 0 := by omega
              have hob : ((old : Int) != 0) = true := by simp; omega
              by_cases hc1 : 0 < c ∧ c < 3
              · have hcp : (0 : Int) < (c : Int) := by omega
                have hcl : (c : Int) < 3 := by omega
                have HO0 := Lib.hid ho0
                have HC1 := Lib.hid hc1
                clear ho0 hc1
                go_wp2
                obtain ⟨wd19, hwd19⟩ : ∃ wd, (wd18).drew = wd := ⟨_, rfl⟩
                have hd := HB1.out.drew
                rw [hwd19] at hd
                have x0 := (hd.blk 1 rfl).cell 1
                have x1 := (hd.blk 0 rfl).cell 1
                simp only [List.getElem?_toArray, List.getElem?_cons_zero, List.getElem?_cons_succ] at x0 x1
                have xc := (hd.blk 2 rfl).cell old
                rw [byteCells_get _ _ _ Hold.out, HCC.out] at xc
                have xf := (hd.blk 2 rfl).frozen old

                have HB2 := Lib.hid hd
                clear hd HB1
                refine wp_region_still_tail 10 (by kernel_rfl) (by kernel_rfl) ?_
                change wpStill _ _ (World.drew _) (fun a' => wpList _ _ _ _ a' (World.drew _)) _ _
                rw [hwd19]
                clear hwd19
                simp only [List.take_succ_cons, List.take_zero, List.drop_succ_cons, List.drop_zero]
                repeat still_step
                refine wpStill_nil ?_
                go_wp2
                go_end0
                refine ⟨rfl, v1, ?_⟩
                rw [HPOST.out]
                show Sep w0 _ (vybParts b m n ((V1).down old) (cb, v1) ++ R0)
                rw [show (V1).down old = { V1 with cnt := updC V1.cnt old (c - 1) } by unfold Vy.down; rw [HCC.out, if_pos ⟨HO0.out, HC1.out.1, HC1.out.2⟩]]
                have h1 := (HB2.out.setCell 2 rfl old (.int .u8 ((c : Int) - 1))).tail
                simp only [List.set_cons_succ, List.set_cons_zero] at h1
                rw [byteCells_set' _ _ _ (c - 1) (by have := HC1.out.1; omega)] at h1
                exact h1
              · have HO0 := Lib.hid ho0
                have HC1 := Lib.hid hc1
                have hc03 : c = 0 ∨ c = 3 := by omega
                clear ho0 hc1
                rcases hc03 with rfl | rfl
                all_goals
                  go_wp2
                  go_end0
                  refine ⟨rfl, v1, ?_⟩
                  rw [HPOST.out]
                  show Sep w0 _ (vybParts b m n ((V1).down old) (cb, v1) ++ R0)
                  rw [show (V1).down old = V1 by unfold Vy.down; rw [HCC.out, if_neg (fun h => HC1.out h.2)]]
                  exact HB1.out.tail
          · intro K hK
            go_simp
            refine hK _ _ ?_
            try simp only [List.getElem_toArray, List.getElem_cons_zero, List.getElem_cons_succ, Act.put, List.setIfInBounds_toArray, List.set_cons_succ, List.set_cons_zero]
            refine wpAnyC_one (i := 4) rfl (by kernel_rfl) l2 rfl ?_
            intro K hK
            go_simp
            refine hK _ _ ?_
            try simp only [List.getElem_toArray, List.getElem_cons_zero, List.getElem_cons_succ, Act.put, List.setIfInBounds_toArray, List.set_cons_succ, List.set_cons_zero]
            refine wpAnyC_one (i := 8) rfl (by kernel_rfl) l2 rfl ?_
            intro K hK
            refine wp_append_run _ _ _ rfl rfl rfl HRUN.out (hK _ _ ?_)
            simp only [List.getElem_toArray, List.getElem_cons_zero, List.getElem_cons_succ, Act.put, List.setIfInBounds_toArray, List.set_cons_succ, List.set_cons_zero]
            refine wpAnyC_take (i := 9) (v := ?v16) rfl (by kernel_rfl) (by kernel_rfl) (by kernel_rfl) (fun _ _ _ h => h) (.inl ⟨?w16, ?y16⟩) ?h16
            case w16 => kernel_rfl
            case y16 =>
              intro W hf
              obtain hf1 := hf
              unfold yieldsAt
              go_simp
              all_goals first | rfl | exact ⟨rfl, rfl⟩
            simp only [List.getElem_toArray, List.getElem_cons_zero, List.getElem_cons_succ, Act.put, List.setIfInBounds_toArray, List.set_cons_succ, List.set_cons_zero]
            refine wpAnyC_take (i := 10) (v := ?v17) rfl (by kernel_rfl) (by kernel_rfl) (by kernel_rfl) (fun _ _ _ h => h) (.inl ⟨?w17, ?y17⟩) ?h17
            case w17 => kernel_rfl
            case y17 =>
              intro W hf
              obtain hf1 := hf
              unfold yieldsAt
              go_simp
              all_goals first | rfl | exact ⟨rfl, rfl⟩
            simp only [List.getElem_toArray, List.getElem_cons_zero, List.getElem_cons_succ, Act.put, List.setIfInBounds_toArray, List.set_cons_succ, List.set_cons_zero]
            refine wpAnyC_one (i := 11) rfl (by kernel_rfl) n2 rfl ?_
            intro K hK
            go_simp
            refine hK _ _ ?_
            try simp only [List.getElem_toArray, List.getElem_cons_zero, List.getElem_cons_succ, Act.put, List.setIfInBounds_toArray, List.set_cons_succ, List.set_cons_zero]
            have n3 := HA5.out
            have p2 := (n3.blk 0 rfl).cell 2
            simp only [List.getElem?_toArray, List.getElem?_cons_zero, List.getElem?_cons_succ] at p2
            refine wpAnyC_done (by kernel_rfl) p2 ?_ _
            try simp only [List.getElem_toArray, List.getElem_cons_zero, List.getElem_cons_succ, Act.put, List.setIfInBounds_toArray, List.set_cons_succ, List.set_cons_zero]
            clear n3 p2 n1 n2 l1 l2 k1 k2 hf9
            go_wp2
            obtain ⟨V1, hV1⟩ : ∃ V1, (⟨updC V.cnt new 3, V.log ++ [new], room, ov⟩ : Vy) = V1 := ⟨_, rfl⟩
            obtain ⟨v1, hv1⟩ : ∃ v1, Value.slice AA (ln + 1) capA = v1 := ⟨_, rfl⟩
            have hup : V.up new = V1 := by
              rw [← hV1]
              unfold Vy.up
              rw [if_neg (by have := HN0.out; omega), if_pos (by rw [HLN.out, HROOM.out]; have := HFT.out; omega), HCN.out, HROOM.out, HOV.out]
              rw [show min (3 + 1) 3 = 3 by omega]
            have HOK1 := Lib.hid (show VyOk n V1 from by rw [← hup]; exact HOK.out.up Hnew.out)
            have HPOST := Lib.hid (show V.post true old new = V1.down old by unfold Vy.post; rw [if_pos rfl, hup])
            have HS := Lib.hid (show Sep w0 _ (blkR T 41 #[.int .i64 src, .int .i64 (old : Int), .int .i64 (new : Int), .bool true, .bool early] :: blkR b 112 #[.pointer (some ⟨m, 0, none⟩), .slice (some ⟨cb, 0, none⟩) n n, v1, .int .i64 V1.room, .bool V1.over] :: blkR cb 5 (byteCells (V1.cnt) n) :: rowR 34 1 (v1) (V1.log.length) (nums (V1.log)) :: R0) from by
              rw [← hV1, ← hv1]
              dsimp only
              rw [List.length_append, HLN.out]
              exact HA5.out)
            clear hV1 hv1 hup
            clear HA5
            obtain ⟨c, hc⟩ : ∃ c, V1.cnt old = c := ⟨_, rfl⟩
            have hc3 : c ≤ 3 := by rw [← hc]; exact HOK1.out.three old
            have HCC := Lib.hid hc
            have holdI : (old : Int) < (n : Int) := by have := Hold.out; omega
            have hold0 : (0 : Int) ≤ (old : Int) := by omega
            clear hc
            obtain ⟨wd18, hwd18⟩ : ∃ wd, (wA.setCell ⟨b, 2, none⟩ (.slice AA (ln + 1) capA)).drew = wd := ⟨_, rfl⟩
            have hd := HS.out.drew
            rw [hwd18] at hd
            have x0 := (hd.blk 1 rfl).cell 1
            have x1 := (hd.blk 0 rfl).cell 1
            simp only [List.getElem?_toArray, List.getElem?_cons_zero, List.getElem?_cons_succ] at x0 x1
            have xc := (hd.blk 2 rfl).cell old
            rw [byteCells_get _ _ _ Hold.out, HCC.out] at xc

            have HB1 := Lib.hid hd
            clear hd HS
            refine wp_region_still_tail 8 (by kernel_rfl) (by kernel_rfl) ?_
            change wpStill _ _ (World.drew _) (fun a' => wpList _ _ _ _ a' (World.drew _)) _ _
            rw [hwd18]
            clear hwd18
            simp only [List.take_succ_cons, List.take_zero, List.drop_succ_cons, List.drop_zero]
            repeat still_step
            refine wpStill_nil ?_
            have xw := (HB1.out.blk 0 rfl).cell 1
            simp only [List.getElem?_toArray, List.getElem?_cons_zero, List.getElem?_cons_succ] at xw
            clear x0 x1 xc
            by_cases ho0 : old = 0
            · have hoI : (old : Int) = 0 := by omega
              have hob : ((old : Int) != 0) = false := by simp; omega
              have HO0 := Lib.hid ho0
              have HOB := Lib.hid hoI
              clear ho0 hoI
              go_wp2
              go_end0
              refine ⟨rfl, v1, ?_⟩
              rw [HPOST.out]
              show Sep w0 _ (vybParts b m n ((V1).down old) (cb, v1) ++ R0)
              rw [show (V1).down old = V1 by unfold Vy.down; rw [if_neg (fun h => h.1 HO0.out)]]
              exact HB1.out.tail
            · have hoI : ¬ (old : Int) = 0 := by omega
              have hob : ((old : Int) != 0) = true := by simp; omega
              by_cases hc1 : 0 < c ∧ c < 3
              · have hcp : (0 : Int) < (c : Int) := by omega
                have hcl : (c : Int) < 3 := by omega
                have HO0 := Lib.hid ho0
                have HC1 := Lib.hid hc1
                clear ho0 hc1
                go_wp2
                obtain ⟨wd19, hwd19⟩ : ∃ wd, (wd18).drew = wd := ⟨_, rfl⟩
                have hd := HB1.out.drew
                rw [hwd19] at hd
                have x0 := (hd.blk 1 rfl).cell 1
                have x1 := (hd.blk 0 rfl).cell 1
                simp only [List.getElem?_toArray, List.getElem?_cons_zero, List.getElem?_cons_succ] at x0 x1
                have xc := (hd.blk 2 rfl).cell old
                rw [byteCells_get _ _ _ Hold.out, HCC.out] at xc
                have xf := (hd.blk 2 rfl).frozen old

                have HB2 := Lib.hid hd
                clear hd HB1
                refine wp_region_still_tail 10 (by kernel_rfl) (by kernel_rfl) ?_
                change wpStill _ _ (World.drew _) (fun a' => wpList _ _ _ _ a' (World.drew _)) _ _
                rw [hwd19]
                clear hwd19
                simp only [List.take_succ_cons, List.take_zero, List.drop_succ_cons, List.drop_zero]
                repeat still_step
                refine wpStill_nil ?_
                go_wp2
                go_end0
                refine ⟨rfl, v1, ?_⟩
                rw [HPOST.out]
                show Sep w0 _ (vybParts b m n ((V1).down old) (cb, v1) ++ R0)
                rw [show (V1).down old = { V1 with cnt := updC V1.cnt old (c - 1) } by unfold Vy.down; rw [HCC.out, if_pos ⟨HO0.out, HC1.out.1, HC1.out.2⟩]]
                have h1 := (HB2.out.setCell 2 rfl old (.int .u8 ((c : Int) - 1))).tail
                simp only [List.set_cons_succ, List.set_cons_zero] at h1
                rw [byteCells_set' _ _ _ (c - 1) (by have := HC1.out.1; omega)] at h1
                exact h1
              · have HO0 := Lib.hid ho0
                have HC1 := Lib.hid hc1
                have hc03 : c = 0 ∨ c = 3 := by omega
                clear ho0 hc1
                rcases hc03 with rfl | rfl
                all_goals
                  go_wp2
                  go_end0
                  refine ⟨rfl, v1, ?_⟩
                  rw [HPOST.out]
                  show Sep w0 _ (vybParts b m n ((V1).down old) (cb, v1) ++ R0)
                  rw [show (V1).down old = V1 by unfold Vy.down; rw [HCC.out, if_neg (fun h => HC1.out h.2)]]
                  exact HB1.out.tail
        · have HFT := Lib.hid hft
          obtain ⟨wd6, hwd6⟩ : ∃ wd, ((wd1.setCell ⟨cb, new, none⟩ (.int .u8 3))).drew = wd := ⟨_, rfl⟩
          have hd := HA2.out.drew
          rw [hwd6] at hd
          have x0 := (hd.blk 1 rfl).cell 2
          have x1 := (hd.blk 1 rfl).cell 3
          simp only [List.getElem?_toArray, List.getElem?_cons_zero, List.getElem?_cons_succ] at x0 x1

          have HA3 := Lib.hid hd
          clear hd HA2
          refine wp_region_still_tail 9 (by kernel_rfl) (by kernel_rfl) ?_
          change wpStill _ _ (World.drew _) (fun a' => wpList _ _ _ _ a' (World.drew _)) _ _
          rw [hwd6]
          clear hwd6
          simp only [List.take_succ_cons, List.take_zero, List.drop_succ_cons, List.drop_zero]
          repeat still_step
          refine wpStill_nil ?_
          have xt := (HA3.out.blk 1 rfl).frozen 4
          have xu := (HA3.out.blk 1 rfl).cell 4
          simp only [List.getElem?_toArray, List.getElem?_cons_zero, List.getElem?_cons_succ] at xu
          go_wp2
          clear x0 x1
          have HA5 := Lib.hid (show Sep w0 _ (blkR T 41 #[.int .i64 src, .int .i64 (old : Int), .int .i64 (new : Int), .bool true, .bool early] :: blkR b 112 #[.pointer (some ⟨m, 0, none⟩), .slice (some ⟨cb, 0, none⟩) n n, .slice AL ln capl, .int .i64 room, .bool true] :: blkR cb 5 (byteCells (updC V.cnt new 3) n) :: rowR 34 1 (.slice AL ln capl) (ln) (nums (V.log)) :: R0) from by
            have h1 := HA3.out.setCell 1 rfl 4 (.bool true)
            simp only [List.set_cons_succ, List.set_cons_zero, List.setIfInBounds_toArray] at h1
            exact h1)
          clear HA3 xt xu
          obtain ⟨V1, hV1⟩ : ∃ V1, (⟨updC V.cnt new 3, V.log, room, true⟩ : Vy) = V1 := ⟨_, rfl⟩
          obtain ⟨v1, hv1⟩ : ∃ v1, Value.slice AL ln capl = v1 := ⟨_, rfl⟩
          have hup : V.up new = V1 := by
            rw [← hV1]
            unfold Vy.up
            rw [if_neg (by have := HN0.out; omega), if_neg (by rw [HLN.out, HROOM.out]; have := HFT.out; omega), HCN.out, HROOM.out]
            rw [show min (3 + 1) 3 = 3 by omega]
          have HOK1 := Lib.hid (show VyOk n V1 from by rw [← hup]; exact HOK.out.up Hnew.out)
          have HPOST := Lib.hid (show V.post true old new = V1.down old by unfold Vy.post; rw [if_pos rfl, hup])
          have HS := Lib.hid (show Sep w0 _ (blkR T 41 #[.int .i64 src, .int .i64 (old : Int), .int .i64 (new : Int), .bool true, .bool early] :: blkR b 112 #[.pointer (some ⟨m, 0, none⟩), .slice (some ⟨cb, 0, none⟩) n n, v1, .int .i64 V1.room, .bool V1.over] :: blkR cb 5 (byteCells (V1.cnt) n) :: rowR 34 1 (v1) (V1.log.length) (nums (V1.log)) :: R0) from by
            rw [← hV1, ← hv1]
            dsimp only
            rw [HLN.out]
            exact HA5.out)
          clear hV1 hv1 hup
          clear HA5
          obtain ⟨c, hc⟩ : ∃ c, V1.cnt old = c := ⟨_, rfl⟩
          have hc3 : c ≤ 3 := by rw [← hc]; exact HOK1.out.three old
          have HCC := Lib.hid hc
          have holdI : (old : Int) < (n : Int) := by have := Hold.out; omega
          have hold0 : (0 : Int) ≤ (old : Int) := by omega
          clear hc
          obtain ⟨wd20, hwd20⟩ : ∃ wd, (wd6.setCell ⟨b, 4, none⟩ (.bool true)).drew = wd := ⟨_, rfl⟩
          have hd := HS.out.drew
          rw [hwd20] at hd
          have x0 := (hd.blk 1 rfl).cell 1
          have x1 := (hd.blk 0 rfl).cell 1
          simp only [List.getElem?_toArray, List.getElem?_cons_zero, List.getElem?_cons_succ] at x0 x1
          have xc := (hd.blk 2 rfl).cell old
          rw [byteCells_get _ _ _ Hold.out, HCC.out] at xc

          have HB1 := Lib.hid hd
          clear hd HS
          refine wp_region_still_tail 8 (by kernel_rfl) (by kernel_rfl) ?_
          change wpStill _ _ (World.drew _) (fun a' => wpList _ _ _ _ a' (World.drew _)) _ _
          rw [hwd20]
          clear hwd20
          simp only [List.take_succ_cons, List.take_zero, List.drop_succ_cons, List.drop_zero]
          repeat still_step
          refine wpStill_nil ?_
          have xw := (HB1.out.blk 0 rfl).cell 1
          simp only [List.getElem?_toArray, List.getElem?_cons_zero, List.getElem?_cons_succ] at xw
          clear x0 x1 xc
          by_cases ho0 : old = 0
          · have hoI : (old : Int) = 0 := by omega
            have hob : ((old : Int) != 0) = false := by simp; omega
            have HO0 := Lib.hid ho0
            have HOB := Lib.hid hoI
            clear ho0 hoI
            go_wp2
            go_end0
            refine ⟨rfl, v1, ?_⟩
            rw [HPOST.out]
            show Sep w0 _ (vybParts b m n ((V1).down old) (cb, v1) ++ R0)
            rw [show (V1).down old = V1 by unfold Vy.down; rw [if_neg (fun h => h.1 HO0.out)]]
            exact HB1.out.tail
          · have hoI : ¬ (old : Int) = 0 := by omega
            have hob : ((old : Int) != 0) = true := by simp; omega
            by_cases hc1 : 0 < c ∧ c < 3
            · have hcp : (0 : Int) < (c : Int) := by omega
              have hcl : (c : Int) < 3 := by omega
              have HO0 := Lib.hid ho0
              have HC1 := Lib.hid hc1
              clear ho0 hc1
              go_wp2
              obtain ⟨wd21, hwd21⟩ : ∃ wd, (wd20).drew = wd := ⟨_, rfl⟩
              have hd := HB1.out.drew
              rw [hwd21] at hd
              have x0 := (hd.blk 1 rfl).cell 1
              have x1 := (hd.blk 0 rfl).cell 1
              simp only [List.getElem?_toArray, List.getElem?_cons_zero, List.getElem?_cons_succ] at x0 x1
              have xc := (hd.blk 2 rfl).cell old
              rw [byteCells_get _ _ _ Hold.out, HCC.out] at xc
              have xf := (hd.blk 2 rfl).frozen old

              have HB2 := Lib.hid hd
              clear hd HB1
              refine wp_region_still_tail 10 (by kernel_rfl) (by kernel_rfl) ?_
              change wpStill _ _ (World.drew _) (fun a' => wpList _ _ _ _ a' (World.drew _)) _ _
              rw [hwd21]
              clear hwd21
              simp only [List.take_succ_cons, List.take_zero, List.drop_succ_cons, List.drop_zero]
              repeat still_step
              refine wpStill_nil ?_
              go_wp2
              go_end0
              refine ⟨rfl, v1, ?_⟩
              rw [HPOST.out]
              show Sep w0 _ (vybParts b m n ((V1).down old) (cb, v1) ++ R0)
              rw [show (V1).down old = { V1 with cnt := updC V1.cnt old (c - 1) } by unfold Vy.down; rw [HCC.out, if_pos ⟨HO0.out, HC1.out.1, HC1.out.2⟩]]
              have h1 := (HB2.out.setCell 2 rfl old (.int .u8 ((c : Int) - 1))).tail
              simp only [List.set_cons_succ, List.set_cons_zero] at h1
              rw [byteCells_set' _ _ _ (c - 1) (by have := HC1.out.1; omega)] at h1
              exact h1
            · have HO0 := Lib.hid ho0
              have HC1 := Lib.hid hc1
              have hc03 : c = 0 ∨ c = 3 := by omega
              clear ho0 hc1
              rcases hc03 with rfl | rfl
              all_goals
                go_wp2
                go_end0
                refine ⟨rfl, v1, ?_⟩
                rw [HPOST.out]
                show Sep w0 _ (vybParts b m n ((V1).down old) (cb, v1) ++ R0)
                rw [show (V1).down old = V1 by unfold Vy.down; rw [HCC.out, if_neg (fun h => HC1.out h.2)]]
                exact HB1.out.tail
      · have hwr : IntKind.u8.wrap ((cn : Int) + 1) = (cn : Int) + 1 := by
          rw [IntKind.wrap_u8]; omega
        have hle1 : (cn : Int) + 1 ≤ 3 := by omega
        have hle2 : ¬ (3 : Int) < (cn : Int) + 1 := by omega
        have HC3 := Lib.hid hc3
        clear hc3
        go_enter Tryz.func160, Tryz.ntmps160
        go_wp2
        obtain ⟨wd1, hwd1⟩ : ∃ wd, (w.alloc (.cells #[.int .i64 src, .int .i64 (old : Int), .int .i64 (new : Int), .bool true, .bool early] 41)).drew = wd := ⟨_, rfl⟩
        have hd := HB.out.drew
        rw [hwd1] at hd
        have x0 := (hd.blk 1 rfl).cell 1
        have x1 := (hd.blk 0 rfl).cell 2
        simp only [List.getElem?_toArray, List.getElem?_cons_zero, List.getElem?_cons_succ] at x0 x1
        have xc := (hd.blk 2 rfl).cell new
        rw [byteCells_get _ _ _ Hnew.out, HCN.out] at xc
        have xf := (hd.blk 2 rfl).frozen new

        have HA1 := Lib.hid hd
        clear hd HB
        refine wp_region_still_tail 17 (by kernel_rfl) (by kernel_rfl) ?_
        change wpStill _ _ (World.drew _) (fun a' => wpList _ _ _ _ a' (World.drew _)) _ _
        rw [hwd1]
        clear hwd1
        simp only [List.take_succ_cons, List.take_zero, List.drop_succ_cons, List.drop_zero]
        repeat still_step
        refine wpStill_nil ?_
        go_wp2
        have HA2 := Lib.hid (show Sep w0 _ (blkR T 41 #[.int .i64 src, .int .i64 (old : Int), .int .i64 (new : Int), .bool true, .bool early] :: blkR b 112 #[.pointer (some ⟨m, 0, none⟩), .slice (some ⟨cb, 0, none⟩) n n, .slice AL ln capl, .int .i64 room, .bool ov] :: blkR cb 5 (byteCells (updC V.cnt new (cn + 1)) n) :: rowR 34 1 (.slice AL ln capl) (ln) (nums (V.log)) :: R0) from by
          have h1 := HA1.out.setCell 2 rfl new (.int .u8 ((cn : Int) + 1))
          simp only [List.set_cons_succ, List.set_cons_zero] at h1
          rw [byteCells_set' _ _ _ (cn + 1) (by first | rfl | (push_cast; rfl))] at h1
          exact h1)
        clear HA1 x0 x1 xc xf
        by_cases hft : (ln : Int) < room
        · have HFT := Lib.hid hft
          obtain ⟨wd22, hwd22⟩ : ∃ wd, ((wd1.setCell ⟨cb, new, none⟩ (.int .u8 ((cn : Int) + 1)))).drew = wd := ⟨_, rfl⟩
          have hd := HA2.out.drew
          rw [hwd22] at hd
          have x0 := (hd.blk 1 rfl).cell 2
          have x1 := (hd.blk 1 rfl).cell 3
          simp only [List.getElem?_toArray, List.getElem?_cons_zero, List.getElem?_cons_succ] at x0 x1

          have HA3 := Lib.hid hd
          clear hd HA2
          refine wp_region_still_tail 9 (by kernel_rfl) (by kernel_rfl) ?_
          change wpStill _ _ (World.drew _) (fun a' => wpList _ _ _ _ a' (World.drew _)) _ _
          rw [hwd22]
          clear hwd22
          simp only [List.take_succ_cons, List.take_zero, List.drop_succ_cons, List.drop_zero]
          repeat still_step
          refine wpStill_nil ?_
          go_wp2
          clear x0 x1
          obtain ⟨wf, hwf⟩ : ∃ wf, (wd22).drew = wf := ⟨_, rfl⟩
          have hd := HA3.out.drew
          rw [hwf] at hd
          have k1 := (hd.blk 1 rfl).cell 2
          have k2 := (hd.blk 0 rfl).cell 2
          simp only [List.getElem?_toArray, List.getElem?_cons_zero, List.getElem?_cons_succ] at k1 k2
          have hb1 := hd.box #[.int .i64 (new : Int)] 34
          have l1 := (hb1.blk 2 rfl).cell 2
          have l2 := (hb1.blk 1 rfl).cell 2
          simp only [List.getElem?_toArray, List.getElem?_cons_zero, List.getElem?_cons_succ] at l1 l2
          obtain ⟨vA, wA, hrun, hs9⟩ := hb1.append_some (P := Tryz.prog) (t := 25) (ad := ⟨wf.heap.size, 0, none⟩) (m := 1) (c := 1) (us := [.int .i64 (new : Int)]) 25 Tryz.underlying25 refInfo rfl (by decide) 4 rfl rfl (by
              intro j u hj
              match j, hj with
              | 0, hj =>
                simp at hj
                subst hj
                simp [Addr.add]) (by simp [Value.oneCell']) (by unfold maxLen; omega) (by omega)
          obtain ⟨AA, capA, rfl, hcapA, hcmA⟩ := hs9.rowShape 4 rfl
          have n1 := (hs9.blk 2 rfl).cell 2
          have n2 := (hs9.blk 1 rfl).cell 2
          simp only [List.getElem?_toArray, List.getElem?_cons_zero, List.getElem?_cons_succ] at n1 n2
          have HRUN := Lib.hid hrun
          have hf9 := (hs9.blk 2 rfl).frozen 2
          have hs10 := (hs9.setCell 2 rfl 2 (.slice AA (ln + 1) capA)).tail
          simp only [List.set_cons_succ, List.set_cons_zero, List.setIfInBounds_toArray] at hs10
          rw [← nums_append_one] at hs10
          have HA5 := Lib.hid (show Sep w0 _ (blkR T 41 #[.int .i64 src, .int .i64 (old : Int), .int .i64 (new : Int), .bool true, .bool early] :: blkR b 112 #[.pointer (some ⟨m, 0, none⟩), .slice (some ⟨cb, 0, none⟩) n n, .slice AA (ln + 1) capA, .int .i64 room, .bool ov] :: blkR cb 5 (byteCells (updC V.cnt new (cn + 1)) n) :: rowR 34 1 (.slice AA (ln + 1) capA) (ln + 1) (nums (V.log ++ [new])) :: R0) from hs10)
          clear hd hb1 hrun hs9 hs10 HA3
          refine calmP ?_
          refine wp_region_float (fun W => W.cell? ⟨T, 2, none⟩ = some (.int .i64 (new : Int))) hro ?_
          rw [hwf]
          clear hwf
          refine wpAnyC_take (i := 0) (v := ?v24) rfl (by kernel_rfl) (by kernel_rfl) (by kernel_rfl) (fun _ _ _ h => h) (.inl ⟨?w24, ?y24⟩) ?h24
          case w24 => kernel_rfl
          case y24 =>
            intro W hf
            obtain hf1 := hf
            unfold yieldsAt
            go_simp
            all_goals first | rfl | exact ⟨rfl, rfl⟩
          simp only [List.getElem_toArray, List.getElem_cons_zero, List.getElem_cons_succ, Act.put, List.setIfInBounds_toArray, List.set_cons_succ, List.set_cons_zero]
          refine wpAnyC_take (i := 1) (v := ?v25) rfl (by kernel_rfl) (by kernel_rfl) (by kernel_rfl) (fun _ _ _ h => h) (.inl ⟨?w25, ?y25⟩) ?h25
          case w25 => kernel_rfl
          case y25 =>
            intro W hf
            obtain hf1 := hf
            unfold yieldsAt
            go_simp
            all_goals first | rfl | exact ⟨rfl, rfl⟩
          simp only [List.getElem_toArray, List.getElem_cons_zero, List.getElem_cons_succ, Act.put, List.setIfInBounds_toArray, List.set_cons_succ, List.set_cons_zero]
          refine wpAnyC_take (i := 2) (v := ?v26) rfl (by kernel_rfl) (by kernel_rfl) (by kernel_rfl) (fun _ _ _ h => h) (.inl ⟨?w26, ?y26⟩) ?h26
          case w26 => kernel_rfl
          case y26 =>
            intro W hf
            obtain hf1 := hf
            unfold yieldsAt
            go_simp
            all_goals first | rfl | exact ⟨rfl, rfl⟩
          simp only [List.getElem_toArray, List.getElem_cons_zero, List.getElem_cons_succ, Act.put, List.setIfInBounds_toArray, List.set_cons_succ, List.set_cons_zero]
          refine wpAnyC_take (i := 3) (v := ?v27) rfl (by kernel_rfl) (by kernel_rfl) (by kernel_rfl) (fun _ _ _ h => h) (.inl ⟨?w27, ?y27⟩) ?h27
          case w27 => kernel_rfl
          case y27 =>
            intro W hf
            obtain hf1 := hf
            unfold yieldsAt
            go_simp
            all_goals first | rfl | exact ⟨rfl, rfl⟩
          simp only [List.getElem_toArray, List.getElem_cons_zero, List.getElem_cons_succ, Act.put, List.setIfInBounds_toArray, List.set_cons_succ, List.set_cons_zero]
          refine wpAnyC_take (i := 5) (v := ?v28) rfl (by kernel_rfl) (by kernel_rfl) (by kernel_rfl) (fun _ _ _ h => h) (.inl ⟨?w28, ?y28⟩) ?h28
          case w28 => kernel_rfl
          case y28 =>
            intro W hf
            obtain hf1 := hf
            unfold yieldsAt
            go_simp
            all_goals first | rfl | exact ⟨rfl, rfl⟩
          simp only [List.getElem_toArray, List.getElem_cons_zero, List.getElem_cons_succ, Act.put, List.setIfInBounds_toArray, List.set_cons_succ, List.set_cons_zero]
          refine wpAnyC_take (i := 6) (v := ?v29) rfl (by kernel_rfl) (by kernel_rfl) (by kernel_rfl) (fun _ _ _ h => h) (.inl ⟨?w29, ?y29⟩) ?h29
          case w29 => kernel_rfl
          case y29 =>
            intro W hf
            obtain hf1 := hf
            unfold yieldsAt
            go_simp
            all_goals first | rfl | exact ⟨rfl, rfl⟩
          simp only [List.getElem_toArray, List.getElem_cons_zero, List.getElem_cons_succ, Act.put, List.setIfInBounds_toArray, List.set_cons_succ, List.set_cons_zero]
          refine wpAnyC_two (i := 4) (j := 7) rfl rfl (by kernel_rfl) k2 rfl rfl ?_ ?_
          · intro K hK
            go_simp
            refine hK _ _ ?_
            try simp only [List.getElem_toArray, List.getElem_cons_zero, List.getElem_cons_succ, Act.put, List.setIfInBounds_toArray, List.set_cons_succ, List.set_cons_zero]
            refine wpAnyC_one (i := 7) rfl (by kernel_rfl) k2 rfl ?_
            intro K hK
            go_simp
            refine hK _ _ ?_
            try simp only [List.getElem_toArray, List.getElem_cons_zero, List.getElem_cons_succ, Act.put, List.setIfInBounds_toArray, List.set_cons_succ, List.set_cons_zero]
            refine wpAnyC_one (i := 8) rfl (by kernel_rfl) l2 rfl ?_
            intro K hK
            refine wp_append_run _ _ _ rfl rfl rfl HRUN.out (hK _ _ ?_)
            simp only [List.getElem_toArray, List.getElem_cons_zero, List.getElem_cons_succ, Act.put, List.setIfInBounds_toArray, List.set_cons_succ, List.set_cons_zero]
            refine wpAnyC_take (i := 9) (v := ?v30) rfl (by kernel_rfl) (by kernel_rfl) (by kernel_rfl) (fun _ _ _ h => h) (.inl ⟨?w30, ?y30⟩) ?h30
            case w30 => kernel_rfl
            case y30 =>
              intro W hf
              obtain hf1 := hf
              unfold yieldsAt
              go_simp
              all_goals first | rfl | exact ⟨rfl, rfl⟩
            simp only [List.getElem_toArray, List.getElem_cons_zero, List.getElem_cons_succ, Act.put, List.setIfInBounds_toArray, List.set_cons_succ, List.set_cons_zero]
            refine wpAnyC_take (i := 10) (v := ?v31) rfl (by kernel_rfl) (by kernel_rfl) (by kernel_rfl) (fun _ _ _ h => h) (.inl ⟨?w31, ?y31⟩) ?h31
            case w31 => kernel_rfl
            case y31 =>
              intro W hf
              obtain hf1 := hf
              unfold yieldsAt
              go_simp
              all_goals first | rfl | exact ⟨rfl, rfl⟩
            simp only [List.getElem_toArray, List.getElem_cons_zero, List.getElem_cons_succ, Act.put, List.setIfInBounds_toArray, List.set_cons_succ, List.set_cons_zero]
            refine wpAnyC_one (i := 11) rfl (by kernel_rfl) n2 rfl ?_
            intro K hK
            go_simp
            refine hK _ _ ?_
            try simp only [List.getElem_toArray, List.getElem_cons_zero, List.getElem_cons_succ, Act.put, List.setIfInBounds_toArray, List.set_cons_succ, List.set_cons_zero]
            have n3 := HA5.out
            have p2 := (n3.blk 0 rfl).cell 2
            simp only [List.getElem?_toArray, List.getElem?_cons_zero, List.getElem?_cons_succ] at p2
            refine wpAnyC_done (by kernel_rfl) p2 ?_ _
            try simp only [List.getElem_toArray, List.getElem_cons_zero, List.getElem_cons_succ, Act.put, List.setIfInBounds_toArray, List.set_cons_succ, List.set_cons_zero]
            clear n3 p2 n1 n2 l1 l2 k1 k2 hf9
            go_wp2
            obtain ⟨V1, hV1⟩ : ∃ V1, (⟨updC V.cnt new (cn + 1), V.log ++ [new], room, ov⟩ : Vy) = V1 := ⟨_, rfl⟩
            obtain ⟨v1, hv1⟩ : ∃ v1, Value.slice AA (ln + 1) capA = v1 := ⟨_, rfl⟩
            have hup : V.up new = V1 := by
              rw [← hV1]
              unfold Vy.up
              rw [if_neg (by have := HN0.out; omega), if_pos (by rw [HLN.out, HROOM.out]; have := HFT.out; omega), HCN.out, HROOM.out, HOV.out]
              rw [show min (cn + 1) 3 = (cn + 1) by omega]
            have HOK1 := Lib.hid (show VyOk n V1 from by rw [← hup]; exact HOK.out.up Hnew.out)
            have HPOST := Lib.hid (show V.post true old new = V1.down old by unfold Vy.post; rw [if_pos rfl, hup])
            have HS := Lib.hid (show Sep w0 _ (blkR T 41 #[.int .i64 src, .int .i64 (old : Int), .int .i64 (new : Int), .bool true, .bool early] :: blkR b 112 #[.pointer (some ⟨m, 0, none⟩), .slice (some ⟨cb, 0, none⟩) n n, v1, .int .i64 V1.room, .bool V1.over] :: blkR cb 5 (byteCells (V1.cnt) n) :: rowR 34 1 (v1) (V1.log.length) (nums (V1.log)) :: R0) from by
              rw [← hV1, ← hv1]
              dsimp only
              rw [List.length_append, HLN.out]
              exact HA5.out)
            clear hV1 hv1 hup
            clear HA5
            obtain ⟨c, hc⟩ : ∃ c, V1.cnt old = c := ⟨_, rfl⟩
            have hc3 : c ≤ 3 := by rw [← hc]; exact HOK1.out.three old
            have HCC := Lib.hid hc
            have holdI : (old : Int) < (n : Int) := by have := Hold.out; omega
            have hold0 : (0 : Int) ≤ (old : Int) := by omega
            clear hc
            obtain ⟨wd34, hwd34⟩ : ∃ wd, (wA.setCell ⟨b, 2, none⟩ (.slice AA (ln + 1) capA)).drew = wd := ⟨_, rfl⟩
            have hd := HS.out.drew
            rw [hwd34] at hd
            have x0 := (hd.blk 1 rfl).cell 1
            have x1 := (hd.blk 0 rfl).cell 1
            simp only [List.getElem?_toArray, List.getElem?_cons_zero, List.getElem?_cons_succ] at x0 x1
            have xc := (hd.blk 2 rfl).cell old
            rw [byteCells_get _ _ _ Hold.out, HCC.out] at xc

            have HB1 := Lib.hid hd
            clear hd HS
            refine wp_region_still_tail 8 (by kernel_rfl) (by kernel_rfl) ?_
            change wpStill _ _ (World.drew _) (fun a' => wpList _ _ _ _ a' (World.drew _)) _ _
            rw [hwd34]
            clear hwd34
            simp only [List.take_succ_cons, List.take_zero, List.drop_succ_cons, List.drop_zero]
            repeat still_step
            refine wpStill_nil ?_
            have xw := (HB1.out.blk 0 rfl).cell 1
            simp only [List.getElem?_toArray, List.getElem?_cons_zero, List.getElem?_cons_succ] at xw
            clear x0 x1 xc
            by_cases ho0 : old = 0
            · have hoI : (old : Int) = 0 := by omega
              have hob : ((old : Int) != 0) = false := by simp; omega
              have HO0 := Lib.hid ho0
              have HOB := Lib.hid hoI
              clear ho0 hoI
              go_wp2
              go_end0
              refine ⟨rfl, v1, ?_⟩
              rw [HPOST.out]
              show Sep w0 _ (vybParts b m n ((V1).down old) (cb, v1) ++ R0)
              rw [show (V1).down old = V1 by unfold Vy.down; rw [if_neg (fun h => h.1 HO0.out)]]
              exact HB1.out.tail
            · have hoI : ¬ (old : Int) = 0 := by omega
              have hob : ((old : Int) != 0) = true := by simp; omega
              by_cases hc1 : 0 < c ∧ c < 3
              · have hcp : (0 : Int) < (c : Int) := by omega
                have hcl : (c : Int) < 3 := by omega
                have HO0 := Lib.hid ho0
                have HC1 := Lib.hid hc1
                clear ho0 hc1
                go_wp2
                obtain ⟨wd35, hwd35⟩ : ∃ wd, (wd34).drew = wd := ⟨_, rfl⟩
                have hd := HB1.out.drew
                rw [hwd35] at hd
                have x0 := (hd.blk 1 rfl).cell 1
                have x1 := (hd.blk 0 rfl).cell 1
                simp only [List.getElem?_toArray, List.getElem?_cons_zero, List.getElem?_cons_succ] at x0 x1
                have xc := (hd.blk 2 rfl).cell old
                rw [byteCells_get _ _ _ Hold.out, HCC.out] at xc
                have xf := (hd.blk 2 rfl).frozen old

                have HB2 := Lib.hid hd
                clear hd HB1
                refine wp_region_still_tail 10 (by kernel_rfl) (by kernel_rfl) ?_
                change wpStill _ _ (World.drew _) (fun a' => wpList _ _ _ _ a' (World.drew _)) _ _
                rw [hwd35]
                clear hwd35
                simp only [List.take_succ_cons, List.take_zero, List.drop_succ_cons, List.drop_zero]
                repeat still_step
                refine wpStill_nil ?_
                go_wp2
                go_end0
                refine ⟨rfl, v1, ?_⟩
                rw [HPOST.out]
                show Sep w0 _ (vybParts b m n ((V1).down old) (cb, v1) ++ R0)
                rw [show (V1).down old = { V1 with cnt := updC V1.cnt old (c - 1) } by unfold Vy.down; rw [HCC.out, if_pos ⟨HO0.out, HC1.out.1, HC1.out.2⟩]]
                have h1 := (HB2.out.setCell 2 rfl old (.int .u8 ((c : Int) - 1))).tail
                simp only [List.set_cons_succ, List.set_cons_zero] at h1
                rw [byteCells_set' _ _ _ (c - 1) (by have := HC1.out.1; omega)] at h1
                exact h1
              · have HO0 := Lib.hid ho0
                have HC1 := Lib.hid hc1
                have hc03 : c = 0 ∨ c = 3 := by omega
                clear ho0 hc1
                rcases hc03 with rfl | rfl
                all_goals
                  go_wp2
                  go_end0
                  refine ⟨rfl, v1, ?_⟩
                  rw [HPOST.out]
                  show Sep w0 _ (vybParts b m n ((V1).down old) (cb, v1) ++ R0)
                  rw [show (V1).down old = V1 by unfold Vy.down; rw [HCC.out, if_neg (fun h => HC1.out h.2)]]
                  exact HB1.out.tail
          · intro K hK
            go_simp
            refine hK _ _ ?_
            try simp only [List.getElem_toArray, List.getElem_cons_zero, List.getElem_cons_succ, Act.put, List.setIfInBounds_toArray, List.set_cons_succ, List.set_cons_zero]
            refine wpAnyC_one (i := 4) rfl (by kernel_rfl) l2 rfl ?_
            intro K hK
            go_simp
            refine hK _ _ ?_
            try simp only [List.getElem_toArray, List.getElem_cons_zero, List.getElem_cons_succ, Act.put, List.setIfInBounds_toArray, List.set_cons_succ, List.set_cons_zero]
            refine wpAnyC_one (i := 8) rfl (by kernel_rfl) l2 rfl ?_
            intro K hK
            refine wp_append_run _ _ _ rfl rfl rfl HRUN.out (hK _ _ ?_)
            simp only [List.getElem_toArray, List.getElem_cons_zero, List.getElem_cons_succ, Act.put, List.setIfInBounds_toArray, List.set_cons_succ, List.set_cons_zero]
            refine wpAnyC_take (i := 9) (v := ?v32) rfl (by kernel_rfl) (by kernel_rfl) (by kernel_rfl) (fun _ _ _ h => h) (.inl ⟨?w32, ?y32⟩) ?h32
            case w32 => kernel_rfl
            case y32 =>
              intro W hf
              obtain hf1 := hf
              unfold yieldsAt
              go_simp
              all_goals first | rfl | exact ⟨rfl, rfl⟩
            simp only [List.getElem_toArray, List.getElem_cons_zero, List.getElem_cons_succ, Act.put, List.setIfInBounds_toArray, List.set_cons_succ, List.set_cons_zero]
            refine wpAnyC_take (i := 10) (v := ?v33) rfl (by kernel_rfl) (by kernel_rfl) (by kernel_rfl) (fun _ _ _ h => h) (.inl ⟨?w33, ?y33⟩) ?h33
            case w33 => kernel_rfl
            case y33 =>
              intro W hf
              obtain hf1 := hf
              unfold yieldsAt
              go_simp
              all_goals first | rfl | exact ⟨rfl, rfl⟩
            simp only [List.getElem_toArray, List.getElem_cons_zero, List.getElem_cons_succ, Act.put, List.setIfInBounds_toArray, List.set_cons_succ, List.set_cons_zero]
            refine wpAnyC_one (i := 11) rfl (by kernel_rfl) n2 rfl ?_
            intro K hK
            go_simp
            refine hK _ _ ?_
            try simp only [List.getElem_toArray, List.getElem_cons_zero, List.getElem_cons_succ, Act.put, List.setIfInBounds_toArray, List.set_cons_succ, List.set_cons_zero]
            have n3 := HA5.out
            have p2 := (n3.blk 0 rfl).cell 2
            simp only [List.getElem?_toArray, List.getElem?_cons_zero, List.getElem?_cons_succ] at p2
            refine wpAnyC_done (by kernel_rfl) p2 ?_ _
            try simp only [List.getElem_toArray, List.getElem_cons_zero, List.getElem_cons_succ, Act.put, List.setIfInBounds_toArray, List.set_cons_succ, List.set_cons_zero]
            clear n3 p2 n1 n2 l1 l2 k1 k2 hf9
            go_wp2
            obtain ⟨V1, hV1⟩ : ∃ V1, (⟨updC V.cnt new (cn + 1), V.log ++ [new], room, ov⟩ : Vy) = V1 := ⟨_, rfl⟩
            obtain ⟨v1, hv1⟩ : ∃ v1, Value.slice AA (ln + 1) capA = v1 := ⟨_, rfl⟩
            have hup : V.up new = V1 := by
              rw [← hV1]
              unfold Vy.up
              rw [if_neg (by have := HN0.out; omega), if_pos (by rw [HLN.out, HROOM.out]; have := HFT.out; omega), HCN.out, HROOM.out, HOV.out]
              rw [show min (cn + 1) 3 = (cn + 1) by omega]
            have HOK1 := Lib.hid (show VyOk n V1 from by rw [← hup]; exact HOK.out.up Hnew.out)
            have HPOST := Lib.hid (show V.post true old new = V1.down old by unfold Vy.post; rw [if_pos rfl, hup])
            have HS := Lib.hid (show Sep w0 _ (blkR T 41 #[.int .i64 src, .int .i64 (old : Int), .int .i64 (new : Int), .bool true, .bool early] :: blkR b 112 #[.pointer (some ⟨m, 0, none⟩), .slice (some ⟨cb, 0, none⟩) n n, v1, .int .i64 V1.room, .bool V1.over] :: blkR cb 5 (byteCells (V1.cnt) n) :: rowR 34 1 (v1) (V1.log.length) (nums (V1.log)) :: R0) from by
              rw [← hV1, ← hv1]
              dsimp only
              rw [List.length_append, HLN.out]
              exact HA5.out)
            clear hV1 hv1 hup
            clear HA5
            obtain ⟨c, hc⟩ : ∃ c, V1.cnt old = c := ⟨_, rfl⟩
            have hc3 : c ≤ 3 := by rw [← hc]; exact HOK1.out.three old
            have HCC := Lib.hid hc
            have holdI : (old : Int) < (n : Int) := by have := Hold.out; omega
            have hold0 : (0 : Int) ≤ (old : Int) := by omega
            clear hc
            obtain ⟨wd34, hwd34⟩ : ∃ wd, (wA.setCell ⟨b, 2, none⟩ (.slice AA (ln + 1) capA)).drew = wd := ⟨_, rfl⟩
            have hd := HS.out.drew
            rw [hwd34] at hd
            have x0 := (hd.blk 1 rfl).cell 1
            have x1 := (hd.blk 0 rfl).cell 1
            simp only [List.getElem?_toArray, List.getElem?_cons_zero, List.getElem?_cons_succ] at x0 x1
            have xc := (hd.blk 2 rfl).cell old
            rw [byteCells_get _ _ _ Hold.out, HCC.out] at xc

            have HB1 := Lib.hid hd
            clear hd HS
            refine wp_region_still_tail 8 (by kernel_rfl) (by kernel_rfl) ?_
            change wpStill _ _ (World.drew _) (fun a' => wpList _ _ _ _ a' (World.drew _)) _ _
            rw [hwd34]
            clear hwd34
            simp only [List.take_succ_cons, List.take_zero, List.drop_succ_cons, List.drop_zero]
            repeat still_step
            refine wpStill_nil ?_
            have xw := (HB1.out.blk 0 rfl).cell 1
            simp only [List.getElem?_toArray, List.getElem?_cons_zero, List.getElem?_cons_succ] at xw
            clear x0 x1 xc
            by_cases ho0 : old = 0
            · have hoI : (old : Int) = 0 := by omega
              have hob : ((old : Int) != 0) = false := by simp; omega
              have HO0 := Lib.hid ho0
              have HOB := Lib.hid hoI
              clear ho0 hoI
              go_wp2
              go_end0
              refine ⟨rfl, v1, ?_⟩
              rw [HPOST.out]
              show Sep w0 _ (vybParts b m n ((V1).down old) (cb, v1) ++ R0)
              rw [show (V1).down old = V1 by unfold Vy.down; rw [if_neg (fun h => h.1 HO0.out)]]
              exact HB1.out.tail
            · have hoI : ¬ (old : Int) = 0 := by omega
              have hob : ((old : Int) != 0) = true := by simp; omega
              by_cases hc1 : 0 < c ∧ c < 3
              · have hcp : (0 : Int) < (c : Int) := by omega
                have hcl : (c : Int) < 3 := by omega
                have HO0 := Lib.hid ho0
                have HC1 := Lib.hid hc1
                clear ho0 hc1
                go_wp2
                obtain ⟨wd35, hwd35⟩ : ∃ wd, (wd34).drew = wd := ⟨_, rfl⟩
                have hd := HB1.out.drew
                rw [hwd35] at hd
                have x0 := (hd.blk 1 rfl).cell 1
                have x1 := (hd.blk 0 rfl).cell 1
                simp only [List.getElem?_toArray, List.getElem?_cons_zero, List.getElem?_cons_succ] at x0 x1
                have xc := (hd.blk 2 rfl).cell old
                rw [byteCells_get _ _ _ Hold.out, HCC.out] at xc
                have xf := (hd.blk 2 rfl).frozen old

                have HB2 := Lib.hid hd
                clear hd HB1
                refine wp_region_still_tail 10 (by kernel_rfl) (by kernel_rfl) ?_
                change wpStill _ _ (World.drew _) (fun a' => wpList _ _ _ _ a' (World.drew _)) _ _
                rw [hwd35]
                clear hwd35
                simp only [List.take_succ_cons, List.take_zero, List.drop_succ_cons, List.drop_zero]
                repeat still_step
                refine wpStill_nil ?_
                go_wp2
                go_end0
                refine ⟨rfl, v1, ?_⟩
                rw [HPOST.out]
                show Sep w0 _ (vybParts b m n ((V1).down old) (cb, v1) ++ R0)
                rw [show (V1).down old = { V1 with cnt := updC V1.cnt old (c - 1) } by unfold Vy.down; rw [HCC.out, if_pos ⟨HO0.out, HC1.out.1, HC1.out.2⟩]]
                have h1 := (HB2.out.setCell 2 rfl old (.int .u8 ((c : Int) - 1))).tail
                simp only [List.set_cons_succ, List.set_cons_zero] at h1
                rw [byteCells_set' _ _ _ (c - 1) (by have := HC1.out.1; omega)] at h1
                exact h1
              · have HO0 := Lib.hid ho0
                have HC1 := Lib.hid hc1
                have hc03 : c = 0 ∨ c = 3 := by omega
                clear ho0 hc1
                rcases hc03 with rfl | rfl
                all_goals
                  go_wp2
                  go_end0
                  refine ⟨rfl, v1, ?_⟩
                  rw [HPOST.out]
                  show Sep w0 _ (vybParts b m n ((V1).down old) (cb, v1) ++ R0)
                  rw [show (V1).down old = V1 by unfold Vy.down; rw [HCC.out, if_neg (fun h => HC1.out h.2)]]
                  exact HB1.out.tail
        · have HFT := Lib.hid hft
          obtain ⟨wd22, hwd22⟩ : ∃ wd, ((wd1.setCell ⟨cb, new, none⟩ (.int .u8 ((cn : Int) + 1)))).drew = wd := ⟨_, rfl⟩
          have hd := HA2.out.drew
          rw [hwd22] at hd
          have x0 := (hd.blk 1 rfl).cell 2
          have x1 := (hd.blk 1 rfl).cell 3
          simp only [List.getElem?_toArray, List.getElem?_cons_zero, List.getElem?_cons_succ] at x0 x1

          have HA3 := Lib.hid hd
          clear hd HA2
          refine wp_region_still_tail 9 (by kernel_rfl) (by kernel_rfl) ?_
          change wpStill _ _ (World.drew _) (fun a' => wpList _ _ _ _ a' (World.drew _)) _ _
          rw [hwd22]
          clear hwd22
          simp only [List.take_succ_cons, List.take_zero, List.drop_succ_cons, List.drop_zero]
          repeat still_step
          refine wpStill_nil ?_
          have xt := (HA3.out.blk 1 rfl).frozen 4
          have xu := (HA3.out.blk 1 rfl).cell 4
          simp only [List.getElem?_toArray, List.getElem?_cons_zero, List.getElem?_cons_succ] at xu
          go_wp2
          clear x0 x1
          have HA5 := Lib.hid (show Sep w0 _ (blkR T 41 #[.int .i64 src, .int .i64 (old : Int), .int .i64 (new : Int), .bool true, .bool early] :: blkR b 112 #[.pointer (some ⟨m, 0, none⟩), .slice (some ⟨cb, 0, none⟩) n n, .slice AL ln capl, .int .i64 room, .bool true] :: blkR cb 5 (byteCells (updC V.cnt new (cn + 1)) n) :: rowR 34 1 (.slice AL ln capl) (ln) (nums (V.log)) :: R0) from by
            have h1 := HA3.out.setCell 1 rfl 4 (.bool true)
            simp only [List.set_cons_succ, List.set_cons_zero, List.setIfInBounds_toArray] at h1
            exact h1)
          clear HA3 xt xu
          obtain ⟨V1, hV1⟩ : ∃ V1, (⟨updC V.cnt new (cn + 1), V.log, room, true⟩ : Vy) = V1 := ⟨_, rfl⟩
          obtain ⟨v1, hv1⟩ : ∃ v1, Value.slice AL ln capl = v1 := ⟨_, rfl⟩
          have hup : V.up new = V1 := by
            rw [← hV1]
            unfold Vy.up
            rw [if_neg (by have := HN0.out; omega), if_neg (by rw [HLN.out, HROOM.out]; have := HFT.out; omega), HCN.out, HROOM.out]
            rw [show min (cn + 1) 3 = (cn + 1) by omega]
          have HOK1 := Lib.hid (show VyOk n V1 from by rw [← hup]; exact HOK.out.up Hnew.out)
          have HPOST := Lib.hid (show V.post true old new = V1.down old by unfold Vy.post; rw [if_pos rfl, hup])
          have HS := Lib.hid (show Sep w0 _ (blkR T 41 #[.int .i64 src, .int .i64 (old : Int), .int .i64 (new : Int), .bool true, .bool early] :: blkR b 112 #[.pointer (some ⟨m, 0, none⟩), .slice (some ⟨cb, 0, none⟩) n n, v1, .int .i64 V1.room, .bool V1.over] :: blkR cb 5 (byteCells (V1.cnt) n) :: rowR 34 1 (v1) (V1.log.length) (nums (V1.log)) :: R0) from by
            rw [← hV1, ← hv1]
            dsimp only
            rw [HLN.out]
            exact HA5.out)
          clear hV1 hv1 hup
          clear HA5
          obtain ⟨c, hc⟩ : ∃ c, V1.cnt old = c := ⟨_, rfl⟩
          have hc3 : c ≤ 3 := by rw [← hc]; exact HOK1.out.three old
          have HCC := Lib.hid hc
          have holdI : (old : Int) < (n : Int) := by have := Hold.out; omega
          have hold0 : (0 : Int) ≤ (old : Int) := by omega
          clear hc
          obtain ⟨wd36, hwd36⟩ : ∃ wd, (wd22.setCell ⟨b, 4, none⟩ (.bool true)).drew = wd := ⟨_, rfl⟩
          have hd := HS.out.drew
          rw [hwd36] at hd
          have x0 := (hd.blk 1 rfl).cell 1
          have x1 := (hd.blk 0 rfl).cell 1
          simp only [List.getElem?_toArray, List.getElem?_cons_zero, List.getElem?_cons_succ] at x0 x1
          have xc := (hd.blk 2 rfl).cell old
          rw [byteCells_get _ _ _ Hold.out, HCC.out] at xc

          have HB1 := Lib.hid hd
          clear hd HS
          refine wp_region_still_tail 8 (by kernel_rfl) (by kernel_rfl) ?_
          change wpStill _ _ (World.drew _) (fun a' => wpList _ _ _ _ a' (World.drew _)) _ _
          rw [hwd36]
          clear hwd36
          simp only [List.take_succ_cons, List.take_zero, List.drop_succ_cons, List.drop_zero]
          repeat still_step
          refine wpStill_nil ?_
          have xw := (HB1.out.blk 0 rfl).cell 1
          simp only [List.getElem?_toArray, List.getElem?_cons_zero, List.getElem?_cons_succ] at xw
          clear x0 x1 xc
          by_cases ho0 : old = 0
          · have hoI : (old : Int) = 0 := by omega
            have hob : ((old : Int) != 0) = false := by simp; omega
            have HO0 := Lib.hid ho0
            have HOB := Lib.hid hoI
            clear ho0 hoI
            go_wp2
            go_end0
            refine ⟨rfl, v1, ?_⟩
            rw [HPOST.out]
            show Sep w0 _ (vybParts b m n ((V1).down old) (cb, v1) ++ R0)
            rw [show (V1).down old = V1 by unfold Vy.down; rw [if_neg (fun h => h.1 HO0.out)]]
            exact HB1.out.tail
          · have hoI : ¬ (old : Int) = 0 := by omega
            have hob : ((old : Int) != 0) = true := by simp; omega
            by_cases hc1 : 0 < c ∧ c < 3
            · have hcp : (0 : Int) < (c : Int) := by omega
              have hcl : (c : Int) < 3 := by omega
              have HO0 := Lib.hid ho0
              have HC1 := Lib.hid hc1
              clear ho0 hc1
              go_wp2
              obtain ⟨wd37, hwd37⟩ : ∃ wd, (wd36).drew = wd := ⟨_, rfl⟩
              have hd := HB1.out.drew
              rw [hwd37] at hd
              have x0 := (hd.blk 1 rfl).cell 1
              have x1 := (hd.blk 0 rfl).cell 1
              simp only [List.getElem?_toArray, List.getElem?_cons_zero, List.getElem?_cons_succ] at x0 x1
              have xc := (hd.blk 2 rfl).cell old
              rw [byteCells_get _ _ _ Hold.out, HCC.out] at xc
              have xf := (hd.blk 2 rfl).frozen old

              have HB2 := Lib.hid hd
              clear hd HB1
              refine wp_region_still_tail 10 (by kernel_rfl) (by kernel_rfl) ?_
              change wpStill _ _ (World.drew _) (fun a' => wpList _ _ _ _ a' (World.drew _)) _ _
              rw [hwd37]
              clear hwd37
              simp only [List.take_succ_cons, List.take_zero, List.drop_succ_cons, List.drop_zero]
              repeat still_step
              refine wpStill_nil ?_
              go_wp2
              go_end0
              refine ⟨rfl, v1, ?_⟩
              rw [HPOST.out]
              show Sep w0 _ (vybParts b m n ((V1).down old) (cb, v1) ++ R0)
              rw [show (V1).down old = { V1 with cnt := updC V1.cnt old (c - 1) } by unfold Vy.down; rw [HCC.out, if_pos ⟨HO0.out, HC1.out.1, HC1.out.2⟩]]
              have h1 := (HB2.out.setCell 2 rfl old (.int .u8 ((c : Int) - 1))).tail
              simp only [List.set_cons_succ, List.set_cons_zero] at h1
              rw [byteCells_set' _ _ _ (c - 1) (by have := HC1.out.1; omega)] at h1
              exact h1
            · have HO0 := Lib.hid ho0
              have HC1 := Lib.hid hc1
              have hc03 : c = 0 ∨ c = 3 := by omega
              clear ho0 hc1
              rcases hc03 with rfl | rfl
              all_goals
                go_wp2
                go_end0
                refine ⟨rfl, v1, ?_⟩
                rw [HPOST.out]
                show Sep w0 _ (vybParts b m n ((V1).down old) (cb, v1) ++ R0)
                rw [show (V1).down old = V1 by unfold Vy.down; rw [HCC.out, if_neg (fun h => HC1.out h.2)]]
                exact HB1.out.tail
end
end Go.Proofs.YtbcabjpafeocgaaGreat

/-
  The return of a function whose result lies in a box, and that held loops over functions. Conditions: as the theorem says.
-/
namespace Go.Proofs.YtbcabjpafeocgaaGreat
set_option linter.unusedVariables false
set_option linter.unusedSimpArgs false
open Go.RowKit Go.Shelf

theorem leavesM_box {fn : Func} {tmps : Array Value} {w0 w : World} {L : List Res} {Ds : List Nat} {Rt : Ending → World → Prop} {s : Tmp} {b : Nat} {x : Bool} (S : Sep w0 w (marksR Ds :: L)) (j : Nat) (hj : L[j]? = some (blkR b 4 #[.bool x]))
    (h : fn.results = #[.cell s 4]) (hp : tmps.getD s undef = .pointer (some ⟨b, 0, none⟩)) (hR : ∀ w', Sep w0 w' L → Rt (.returned (.bool x)) w') :
    LeavesInM Fence.wide 0 Tryz.prog fn tmps Rt (mk Ds) .returning w := by
  refine leavesM (L := L) (fun w' hs => ?_) Ds w S
  have hc := (hs.blk j hj).cell 0
  simp only [List.getElem?_toArray, List.getElem?_cons_zero] at hc
  exact ⟨_, results_bool h hp hc, hR w' hs⟩
end Go.Proofs.YtbcabjpafeocgaaGreat

/-
  The barrier of layer 15: Post on the whole of it, Reset and Remark. Conditions: as the theorem says.
-/
namespace Go.Proofs.YtbcabjpafeocgaaGreat
set_option linter.unusedVariables false
set_option linter.unusedSimpArgs false
open Go.RowKit Go.Shelf
attribute [local go_sem] Oper.semAt_some wide_fn round_fn wide_depth round_depth
attribute [local simp] wide_fn round_fn wide_depth round_depth

def zeroedC (f : Nat → Nat) (o n : Nat) : Nat → Nat := fun i => if o ≤ i ∧ i < o + n then 0 else f i
theorem blkB_zeroed {t : TypeId} {m cb : Nat} : ∀ (n : Nat) (o : Nat) (f : Nat → Nat) (w : World), Blk w cb t (byteCells f m) → Blk (w.setCells cb o (List.replicate n (.int .u8 0))) cb t (byteCells (zeroedC f o n) m)
  | 0, o, f, w, h => by
    have e : zeroedC f o 0 = f := by funext i; unfold zeroedC; rw [if_neg (by omega)]
    rw [e]; exact h
  | n + 1, o, f, w, h => by
    have h1 := h.set_ o (.int .u8 0)
    rw [byteCells_set' f m o 0 (x := 0) rfl] at h1
    have h2 := blkB_zeroed n (o + 1) _ _ h1
    have e : zeroedC (updC f o 0) (o + 1) n = zeroedC f o (n + 1) := by
      funext i
      unfold zeroedC updC
      by_cases h3 : o + 1 ≤ i ∧ i < o + 1 + n
      · rw [if_pos h3, if_pos (by omega)]
      · rw [if_neg h3]
        by_cases h4 : i = o
        · rw [if_pos h4, if_pos (by omega)]
        · rw [if_neg h4, if_neg (by omega)]
    rw [e] at h2
    exact h2
theorem clear_bytes (n cb : Nat) (hn : 0 < n) (f : Nat → Nat) (w : World) (ty : TypeId) (h : Blk w cb 5 (byteCells f n)) :
    (Builtin.clear_ #[22] ty #[.slice (some ⟨cb, 0, none⟩) n n]).run Tryz.prog w = .ok (.tuple #[]) (w.setCells cb 0 (List.replicate n (.int .u8 0))) :=
  Lib.run_clear_slice w 22 5 ty (.int .u8 0) Tryz.underlying22 (fun w => by kernel_rfl) rfl rfl cb 0 n n hn
    (fun j hj => by rw [h.cell, byteCells_get _ _ _ (by omega)]; rfl) (fun j hj => h.frozen _)
theorem byteCells_zeroed (f : Nat → Nat) (n : Nat) : byteCells (zeroedC f 0 n) n = byteCells (fun _ => 0) n := by
  unfold byteCells
  congr 1
  funext i
  unfold zeroedC
  rw [if_pos (by have := i.2; omega)]

section
variable {w0 w : World} {L R0 : List Res} {i b m a n : Nat} {V : Vy} {C : Col} {A : AR}
theorem VPost (S : Sep w0 w L) (i : Nat) (hi : L[i]? = some (vybR b m n V)) (src : Int) (old new : Nat) (black early : Bool) (hold : old < n) (hnew : new < n) :
    Calls Tryz.prog 160 #[.pointer (some ⟨b, 0, none⟩), .agg #[.int .i64 src, .int .i64 (old : Int), .int .i64 (new : Int), .bool black, .bool early]] w fun e w' => e = .returned (.tuple #[]) ∧ Sep w0 w' (L.set i (vybR b m n (V.post black old new))) := by
  obtain ⟨⟨cb, v⟩, ho, hs⟩ := vyb_open S i hi
  refine (PPost ho hs src old new black early hold hnew).mono ?_
  rintro e w' ⟨rfl, v', hs2⟩
  exact ⟨rfl, vyb_shut (o := (cb, v')) (ho.post hnew) hs2 hi⟩
theorem PCount (S : Sep w0 w L) (i j : Nat) {cb : Nat} {v : Value} (hi : L[i]? = some (vybTop b m cb v n V)) (hj : L[j]? = some (blkR cb 5 (byteCells V.cnt n))) (hok : VyOk n V) (r : Nat) (hr : r < n) : Calls Tryz.prog 165 #[.pointer (some ⟨b, 0, none⟩), .int .i64 (r : Int)] w fun e w' => e = .returned (.int .i64 (V.cnt r : Int)) ∧ w = w' := by
  have c1 := (S.blk i (by unfold vybTop at hi; exact hi)).cell 1
  have c2 := (S.blk j hj).cell r
  rw [byteCells_get _ _ _ hr] at c2
  simp only [List.getElem?_toArray, List.getElem?_cons_zero, List.getElem?_cons_succ] at c1
  have hc := hok.three r
  obtain ⟨c, hcc⟩ : ∃ c, V.cnt r = c := ⟨_, rfl⟩
  rw [hcc] at c2 hc ⊢
  have h0 : ¬ (r : Int) < 0 := by omega
  have h1 : ¬ (n : Int) ≤ (r : Int) := by omega
  have h2 : (r : Int) < (n : Int) := by omega
  have hsz := hok.size
  clear hok S hi hj hcc
  go_enter Tryz.func165, Tryz.ntmps165
  go_wp2
  go_ret
  exact ⟨rfl, rfl⟩
set_option maxHeartbeats 2000000 in
theorem VReset (S : Sep w0 w L) (i : Nat) (hi : L[i]? = some (vybR b m n V)) (hn : 0 < n) :
    Calls Tryz.prog 164 #[.pointer (some ⟨b, 0, none⟩)] w fun e w' => e = .returned (.tuple #[]) ∧ Sep w0 w' (L.set i (vybR b m n V.reset)) := by
  obtain ⟨⟨cb, v⟩, ho, hs⟩ := vyb_open S i hi
  unfold vybParts vybTop at hs
  dsimp only at hs
  have hclr := fun ty => clear_bytes n cb hn V.cnt w ty (hs.blk 1 rfl)
  have c1 := (hs.blk 0 rfl).cell 1
  obtain ⟨F, hp, hk⟩ := hs.at_ (i := 1) rfl
  obtain ⟨rfl, hp⟩ := hp
  have hs2 := hk (blkR cb 5 (byteCells (fun _ => 0) n)) (w.setCells cb 0 (List.replicate n (.int .u8 0))) [cb] ⟨rfl, by have := blkB_zeroed n 0 V.cnt w (hs.blk 1 rfl); rw [byteCells_zeroed] at this; exact this⟩ (GrewF.self _ _) (chg_setCells cb (.inl (by simp)) _ _ _ (Chg.refl _ _))
  simp only [List.set_cons_succ, List.set_cons_zero, List.cons_append, List.nil_append] at hs2
  have d2 := (hs2.blk 0 rfl).cell 2
  have d4 := (hs2.blk 0 rfl).cell 4
  have f2 := (hs2.blk 0 rfl).frozen 2
  have f4 := (hs2.blk 0 rfl).frozen 4
  simp only [List.getElem?_toArray, List.getElem?_cons_zero, List.getElem?_cons_succ] at c1 d2 d4
  have HS := Lib.hid hs2
  have HO := Lib.hid ho
  have HI := Lib.hid hi
  clear S hi hs hs2 ho hp hk
  go_enter Tryz.func164, Tryz.ntmps164
  go_wp2
  go_end0
  refine ⟨rfl, ?_⟩
  have h1 := (HS.out.setCell 0 rfl 2 (.slice none 0 0)).setCell 0 rfl 4 (.bool false)
  simp only [List.set_cons_succ, List.set_cons_zero, List.setIfInBounds_toArray] at h1
  have h2 := (h1.front 3 [0, 1]).front 3 [2, 0, 1]
  refine vyb_shut (V := V.reset) (o := (cb, .slice none 0 0)) HO.out.reset ?_ HI.out
  exact (h2.tail.nilRow 34 1).front 3 [1, 2, 0]
theorem filter_push (V : Vy) (l : List Nat) (x : Nat) : ((l ++ [x]).filter fun r => decide (0 < V.cnt r)) = (l.filter fun r => decide (0 < V.cnt r)) ++ (if 0 < V.cnt x then [x] else []) := by
  rw [List.filter_append]
  congr 1
  by_cases h : 0 < V.cnt x <;> simp [h]
set_option maxRecDepth 100000 in
set_option maxHeartbeats 4000000 in
theorem PRemark (S : Sep w0 w (vybR b m n V :: markR m a n C :: arenaR a A :: R0)) (hn : A.size = (n : Int)) (hwf : A.Wf) :
    Calls Tryz.prog 162 #[.pointer (some ⟨b, 0, none⟩)] w fun e w' => e = .returned (.tuple #[]) ∧ Sep w0 w' (vybR b m n V :: markR m a n (C.shades (V.what (elems n A.tk))) :: arenaR a A :: R0) := by
  obtain ⟨T, hT⟩ : ∃ T, w.heap.size = T := ⟨_, rfl⟩
  have hb := S.box #[.pointer (some ⟨b, 0, none⟩)] 75
  rw [hT] at hb
  have HN := Lib.hid hn
  have hwfX : ∀ x, A.tk x = true → 0 < x := fun x hx => (hwf.lt hx).1
  obtain ⟨⟨cb, v⟩, ho, hs2⟩ := vyb_open hb 1 rfl
  have HO := Lib.hid ho
  unfold vybParts at hs2
  dsimp only at hs2
  obtain ⟨AL, capl, rfl, hcap, hcm⟩ := hs2.rowShape 2 rfl
  obtain ⟨ln, hln⟩ : ∃ l, V.log.length = l := ⟨_, rfl⟩
  have HLN := Lib.hid hln
  rw [hln] at hs2 hcap
  unfold maxLen at hcm
  have hlm : ln ≤ 1000000 := by have h1 := ho.fits; have h2 := ho.few; omega
  have hop := (show Sep w0 _ (blkR T 75 #[.pointer (some ⟨b, 0, none⟩)] :: vybTop b m cb (.slice AL ln capl) n V :: blkR cb 5 (byteCells V.cnt n) :: rowR 34 1 (.slice AL ln capl) ln (nums V.log) :: markR m a n (C) :: arenaR a A :: R0) from hs2.front 4 [3, 0, 1, 2])
  have x0 := (hop.blk 0 rfl).cell 0
  have x4 := (hop.blk 1 rfl).cell 4
  have x2 := (hop.blk 1 rfl).cell 2
  have x5 := (hop.blk 1 rfl).cell 0
  simp only [List.getElem?_toArray, List.getElem?_cons_zero, List.getElem?_cons_succ] at x0 x2 x4 x5
  obtain ⟨ov, hov⟩ : ∃ o, V.over = o := ⟨_, rfl⟩
  rw [hov] at x4
  have HOV := Lib.hid hov
  have HOP := Lib.hid hop
  have HBB := Lib.hid hb
  clear S hn hwf hs2 hop hov hln ho hb
  refine calls_wide ?_
  refine callsIn_of_wp_marks Tryz.func162 rfl trivial ?_
  simp only [Tryz.ntmps162, List.size_toArray, List.length_cons, List.length_nil, Nat.reduceAdd, Nat.reduceSub, Array.replicate_succ, Array.replicate_zero, List.push_toArray, List.append_toArray, List.nil_append, List.cons_append]
  cases ov with
  | false =>
    have HB := Lib.hid (show Sep w0 _ (blkR T 75 #[.pointer (some ⟨b, 0, none⟩)] :: vybTop b m cb (.slice AL ln capl) n V :: blkR cb 5 (byteCells V.cnt n) :: rowR 34 1 (.slice AL ln capl) ln (nums V.log) :: markR m a n (C.shades ((V.log.take 0).filter fun r => decide (0 < V.cnt r))) :: arenaR a A :: R0) from HOP.out)
    clear HOP HBB x5
    gi_wp2
    gi_loopw [31] (fun i wr => ∃ k : Nat, k ≤ ln ∧ i = .int .i64 k ∧ Sep w0 wr (blkR T 75 #[.pointer (some ⟨b, 0, none⟩)] :: vybTop b m cb (.slice AL ln capl) n V :: blkR cb 5 (byteCells V.cnt n) :: rowR 34 1 (.slice AL ln capl) ln (nums V.log) :: markR m a n (C.shades ((V.log.take k).filter fun r => decide (0 < V.cnt r))) :: arenaR a A :: R0)) (fun i _ => ln + 1 - (intOf i).toNat)
    case atStart => exact ⟨0, by omega, rfl, HB.out⟩
    case round =>
      clear HB x0 x2
      obtain ⟨k, hk, rfl, hs⟩ := hrel
      by_cases hlt : k < ln
      · have hltI : (k : Int) < (ln : Int) := by omega
        obtain ⟨x, hx⟩ : ∃ z_, V.log[k]? = some z_ := ⟨_, List.getElem?_eq_getElem (by rw [HLN.out]; exact hlt)⟩
        obtain ⟨g, cap', hsl, _, _⟩ := hs.rowSome 3 rfl (by omega)
        simp only [Value.slice.injEq] at hsl
        obtain ⟨rfl, _, rfl⟩ := hsl
        have cx := hs.rowCell 3 rfl k _ (nums_get _ _ _ hx)
        have x0 := (hs.blk 0 rfl).cell 0
        have x1 := (hs.blk 1 rfl).cell 0
        simp only [List.getElem?_toArray, List.getElem?_cons_zero, List.getElem?_cons_succ] at x0 x1
        have hx2 := HO.out.log x (List.mem_of_getElem? hx)
        have HC1 := Lib.hid (PCount hs 1 2 rfl rfl HO.out x hx2.2)
        have HNX := Lib.hid (show V.log.take (k + 1) = V.log.take k ++ [x] by rw [List.take_add_one, hx]; rfl)
        obtain ⟨c, hc⟩ : ∃ c, V.cnt x = c := ⟨_, rfl⟩
        have HCC := Lib.hid hc
        have HSK := Lib.hid hs
        clear hs hx hc
        by_cases hc0 : c = 0
        · have hcI : ¬ (0 : Int) < (c : Int) := by omega
          have HC0 := Lib.hid hc0
          clear hc0
          gi_wp2_with (gi_at_call 165; refine (calls_in (HC1.out)).mono ?_; rw [HCC.out]; rintro e w3 ⟨rfl, rfl⟩; clear HC1)
          go_roundw
          case rel => exact ⟨k + 1, by omega, by go_num, by
            rw [HNX.out, filter_push, if_neg (by rw [HCC.out, HC0.out]; omega), List.append_nil]
            exact HSK.out⟩
          case measure => simp [intOf]; omega
        · have hcI : (0 : Int) < (c : Int) := by omega
          have HC0 := Lib.hid hc0
          have HC2 := Lib.hid (KShade HSK.out 4 rfl x hx2.1 hx2.2)
          clear hc0 HSK
          gi_wp2_with (first
            | (gi_at_call 165; refine (calls_in (HC1.out)).mono ?_; rw [HCC.out]; rintro e w3 ⟨rfl, rfl⟩; clear HC1)
            | (gi_at_call 13; refine (calls_in (HC2.out)).mono ?_; rintro e w4 ⟨rfl, hs⟩; have HS7 := Lib.hid hs; clear hs HC2))
          go_roundw
          case rel => exact ⟨k + 1, by omega, by go_num, by
            rw [HNX.out, filter_push, if_pos (by rw [HCC.out]; have := HC0.out; omega), shades_push]
            exact HS7.out⟩
          case measure => simp [intOf]; omega
      · obtain rfl : ln = k := by omega
        have HSE := Lib.hid hs
        clear hs
        gi_wp2
        refine leavesM (L := blkR T 75 #[.pointer (some ⟨b, 0, none⟩)] :: vybTop b m cb (.slice AL ln capl) n V :: blkR cb 5 (byteCells V.cnt n) :: rowR 34 1 (.slice AL ln capl) ln (nums V.log) :: markR m a n (C.shades ((V.log.take ln).filter fun r => decide (0 < V.cnt r))) :: arenaR a A :: R0) (fun w' hs => ⟨_, results_none rfl _ _ _, rfl, ?_⟩) [] _ HSE.out.noMarks
        have h1 := vyb_shutHead (o := (cb, .slice AL ln capl)) HO.out (show Sep w0 w' (vybParts b m n V (cb, .slice AL ln capl) ++ _) from by unfold vybParts; rw [HLN.out]; exact hs.tail)
        rw [show V.what (elems n A.tk) = V.log.filter fun r => decide (0 < V.cnt r) by unfold Vy.what; rw [HOV.out]; rfl]
        rw [show V.log.take ln = V.log by rw [← HLN.out, List.take_length]] at h1
        exact h1
  | true =>
    have HB := HBB
    clear HOP HBB
    have HC1 := Lib.hid (KArena HB.out 2 rfl)
    gi_wp2_with (first
      | (gi_at_call 52; refine (calls_in (HC1.out)).mono ?_; rintro e w3 ⟨rfl, rfl⟩; clear HC1; have HC2 := Lib.hid (TAAll HB.out a))
      | (gi_at_call 61; refine (calls_in (HC2.out)).mono ?_; rintro e w4 ⟨rfl, hs⟩; have HS4 := Lib.hid hs; clear hs HC2))
    obtain ⟨P2, hP2⟩ : ∃ P, T + 1 = P := ⟨_, rfl⟩
    have hs9 := HS4.out
    simp only [World.size_alloc, hT, hP2] at hs9
    try simp only [World.size_alloc, hT, hP2]
    have HS9 := Lib.hid (show Sep w0 w4 ([blkR P2 24 #[.pointer (some ⟨a, 0, none⟩)], arenaR a A] ++ (blkR T 75 #[.pointer (some ⟨b, 0, none⟩)] :: vybR b m n V :: markR m a n (C) :: R0)) from hs9.front 5 [0, 4])
    clear hs9 HS4 hP2 x0 x2 HB
    refine wp_range (gf := 90) (lb := #[.pointer (some ⟨P2, 0, none⟩)]) rfl (enters_of Tryz.func90 (by kernel_rfl) rfl) (arena_iter P2 a A) (fun _ => rfl) HS9.out
      (fun pre Rs => Rs = blkR T 75 #[.pointer (some ⟨b, 0, none⟩)] :: vybR b m n V :: markR m a n (C.shades ((pre).filter fun r => decide (0 < V.cnt r))) :: R0) (fun _ _ _ => False) rfl ?round ?done ?stop
    case stop => rintro _ _ _ _ _ _ h; exact h.elim
    case round =>
      rintro l1 D pre x _ G W1 r hpre rfl hS1
      simp only [List.cons_append, List.nil_append] at hS1
      have hxm := mem_elems.1 (hpre.subset (show x ∈ pre ++ [x] by simp))
      have hxn : x < n := by have h1 := HN.out; unfold AR.size at h1; omega
      have hx0 : 0 < x := (hwfX x hxm.2)
      have HS1 := Lib.hid hS1
      clear hpre hS1 HS9 hxm
      gi_wp2
      refine ⟨[], HS1.out, ?_⟩
      intro r' W2 hS2
      simp only [List.cons_append, List.nil_append] at hS2
      have y0 := (hS2.blk 4 rfl).cell 0
      simp only [List.getElem?_toArray, List.getElem?_cons_zero, List.getElem?_cons_succ] at y0
      obtain ⟨⟨cb, v⟩, hok, hS3⟩ := vyb_open hS2 5 rfl
      have y1 := (hS3.blk 0 rfl).cell 0
      simp only [List.getElem?_toArray, List.getElem?_cons_zero, List.getElem?_cons_succ] at y1
      have HC1 := Lib.hid (VCount hS2 5 rfl x hxn)
      obtain ⟨c, hc⟩ : ∃ c, V.cnt x = c := ⟨_, rfl⟩
      have HCC := Lib.hid hc
      have HSK := Lib.hid hS2
      clear hS2 hS3 HS1 hc hok
      by_cases hc0 : c = 0
      · have hcI : ¬ (0 : Int) < (c : Int) := by omega
        have HC0 := Lib.hid hc0
        clear hc0
        gi_wp2_with (gi_at_call 165; refine (calls_round (HC1.out)).mono ?_; rw [HCC.out]; rintro e w5 ⟨rfl, rfl⟩; clear HC1)
        refine ⟨_, rfl, ?_⟩
        rw [filter_push, if_neg (by rw [HCC.out, HC0.out]; omega), List.append_nil]
        exact HSK.out
      · have hcI : (0 : Int) < (c : Int) := by omega
        have HC0 := Lib.hid hc0
        have HC2 := Lib.hid (KShade HSK.out 6 rfl x hx0 hxn)
        clear hc0 HSK
        gi_wp2_with (first
          | (gi_at_call 165; refine (calls_round (HC1.out)).mono ?_; rw [HCC.out]; rintro e w5 ⟨rfl, rfl⟩; clear HC1)
          | (gi_at_call 13; refine (calls_round (HC2.out)).mono ?_; rintro e w6 ⟨rfl, hs⟩; have HS7 := Lib.hid hs; clear hs HC2))
        refine ⟨_, rfl, ?_⟩
        rw [filter_push, if_pos (by rw [HCC.out]; have := HC0.out; omega), shades_push]
        exact HS7.out
    rintro D _ W1 rfl hS1
    have HS1 := Lib.hid hS1
    clear hS1 HS9
    gi_wp2
    refine leaves_mark HS1.out (i := 2) rfl (fun _ => results_none rfl _ _ _) ?_
    intro w' hS2
    refine ⟨rfl, ?_⟩
    rw [show V.what (elems n A.tk) = (elems n A.tk).filter fun r => decide (0 < V.cnt r) by unfold Vy.what; rw [HOV.out]; rfl]
    have h5 := hS2.front 6 [4, 5, 1, 0, 2, 3]
    have en : n = A.n * 32 + 1 := by have h1 := HN.out; unfold AR.size at h1; omega
    have h6 := (h5.perm (perm_mid [_, _, _] [_, _, _] R0)).right
    subst en
    exact h6
end
end Go.Proofs.YtbcabjpafeocgaaGreat

/-
  The barrier of layer 13: what it holds, and a contract for each method. Conditions: as each contract says.
-/
namespace Go.Proofs.YtbcabjpafeocgaaGreat
set_option linter.unusedVariables false
set_option linter.unusedSimpArgs false
open Go.RowKit Go.Shelf

def dijR (b m : Nat) : Res := blkR b 108 #[.pointer (some ⟨m, 0, none⟩)]
/-- What a write is told as. -/
def writeV (src old new : Int) (black early : Bool) : Value := .agg #[.int .i64 src, .int .i64 old, .int .i64 new, .bool black, .bool early]

section
variable {w0 w : World} {L : List Res} {m a n : Nat} {C : Col}
theorem DNew (S : Sep w0 w L) (m : Nat) : Calls Tryz.prog 37 #[.pointer (some ⟨m, 0, none⟩)] w fun e w' => ∃ b, e = .returned (.pointer (some ⟨b, 0, none⟩)) ∧ Sep w0 w' (dijR b m :: L) := by
  have HS := Lib.hid (S.box #[.pointer (some ⟨m, 0, none⟩)] 108)
  clear S
  go_enter Tryz.func37, Tryz.ntmps37
  go_wp2
  go_ret
  exact ⟨w.heap.size, rfl, HS.out⟩
theorem DPre (w : World) (b : Nat) (x y : Int) : Calls Tryz.prog 151 #[.pointer (some ⟨b, 0, none⟩), .int .i64 x, .int .i64 y] w fun e w' => e = .returned (.tuple #[]) ∧ w = w' := by
  go_enter Tryz.func151, Tryz.ntmps151
  go_wp2
  go_end0
  exact ⟨rfl, rfl⟩
theorem DRescans (w : World) (b : Nat) : Calls Tryz.prog 153 #[.pointer (some ⟨b, 0, none⟩)] w fun e w' => e = .returned (.bool true) ∧ w = w' := by
  go_enter Tryz.func153, Tryz.ntmps153
  go_wp2
  go_ret
  exact ⟨rfl, rfl⟩
theorem DRemark (w : World) (b : Nat) : Calls Tryz.prog 152 #[.pointer (some ⟨b, 0, none⟩)] w fun e w' => e = .returned (.tuple #[]) ∧ w = w' := by
  go_enter Tryz.func152, Tryz.ntmps152
  go_wp2
  go_end0
  exact ⟨rfl, rfl⟩
theorem DReset (w : World) (b : Nat) : Calls Tryz.prog 154 #[.pointer (some ⟨b, 0, none⟩)] w fun e w' => e = .returned (.tuple #[]) ∧ w = w' := by
  go_enter Tryz.func154, Tryz.ntmps154
  go_wp2
  go_end0
  exact ⟨rfl, rfl⟩
set_option maxRecDepth 100000 in
set_option maxHeartbeats 2000000 in
theorem DPost {b : Nat} (S : Sep w0 w L) (i j : Nat) (hi : L[i]? = some (dijR b m)) (hj : L[j]? = some (markR m a n C)) (src old : Int) (y : Nat) (black early : Bool) (h0 : 0 < y) (hy : y < n) :
    Calls Tryz.prog 150 #[.pointer (some ⟨b, 0, none⟩), (.agg #[.int .i64 src, .int .i64 old, .int .i64 (y : Int), .bool black, .bool early])] w fun e w' => e = .returned (.tuple #[]) ∧ Sep w0 w' (L.set j (markR m a n (C.shade y))) := by
  obtain ⟨T, hT⟩ : ∃ T, w.heap.size = T := ⟨_, rfl⟩
  have hb := S.box #[.int .i64 src, .int .i64 old, .int .i64 (y : Int), .bool black, .bool early] 41
  rw [hT] at hb
  obtain ⟨wd, hwd⟩ : ∃ wd, (w.alloc (.cells #[.int .i64 src, .int .i64 old, .int .i64 (y : Int), .bool black, .bool early] 41)).drew = wd := ⟨_, rfl⟩
  have hd := hb.drew
  rw [hwd] at hd
  have c0 := (hd.blk (i + 1) (by simpa [dijR] using hi)).cell 0
  have c2 := (hd.blk 0 rfl).cell 2
  simp only [List.getElem?_toArray, List.getElem?_cons_zero, List.getElem?_cons_succ] at c0 c2
  have HC := Lib.hid (KShade hd (j + 1) (by simpa using hj) y h0 hy)
  have hro : Tryz.prog.follows .mixedOrders = true := by kernel_rfl
  clear S hb hd hi hj
  go_enter Tryz.func150, Tryz.ntmps150
  go_wp2
  refine wp_region_still_tail 6 (by kernel_rfl) (by kernel_rfl) ?_
  change wpStill _ _ (World.drew _) (fun a' => wpList _ _ _ _ a' (World.drew _)) _ _
  rw [hwd]
  clear hwd
  try simp only [hT]
  clear hT
  simp only [List.take_succ_cons, List.take_zero, List.drop_succ_cons, List.drop_zero]
  repeat still_step
  refine wpStill_nil ?_
  go_wp2_with (go_at_call 13; refine HC.out.mono ?_; rintro e w7 ⟨rfl, hs⟩; have HS := Lib.hid hs; clear hs HC)
  go_end0
  exact ⟨rfl, HS.out.tail⟩
set_option maxRecDepth 100000 in
set_option maxHeartbeats 2000000 in
theorem DPostNil {b : Nat} (S : Sep w0 w L) (i : Nat) (hi : L[i]? = some (dijR b m)) (src old : Int) (black early : Bool) :
    Calls Tryz.prog 150 #[.pointer (some ⟨b, 0, none⟩), (.agg #[.int .i64 src, .int .i64 old, .int .i64 0, .bool black, .bool early])] w fun e w' => e = .returned (.tuple #[]) ∧ Sep w0 w' L := by
  obtain ⟨T, hT⟩ : ∃ T, w.heap.size = T := ⟨_, rfl⟩
  have hb := S.box #[.int .i64 src, .int .i64 old, .int .i64 0, .bool black, .bool early] 41
  rw [hT] at hb
  obtain ⟨wd, hwd⟩ : ∃ wd, (w.alloc (.cells #[.int .i64 src, .int .i64 old, .int .i64 0, .bool black, .bool early] 41)).drew = wd := ⟨_, rfl⟩
  have hd := hb.drew
  rw [hwd] at hd
  have c0 := (hd.blk (i + 1) (by simpa [dijR] using hi)).cell 0
  have c2 := (hd.blk 0 rfl).cell 2
  simp only [List.getElem?_toArray, List.getElem?_cons_zero, List.getElem?_cons_succ] at c0 c2
  have HC := Lib.hid (KShadeNil wd m)
  have HSD := Lib.hid hd
  have hro : Tryz.prog.follows .mixedOrders = true := by kernel_rfl
  clear S hb hd hi
  go_enter Tryz.func150, Tryz.ntmps150
  go_wp2
  refine wp_region_still_tail 6 (by kernel_rfl) (by kernel_rfl) ?_
  change wpStill _ _ (World.drew _) (fun a' => wpList _ _ _ _ a' (World.drew _)) _ _
  rw [hwd]
  clear hwd
  try simp only [hT]
  clear hT
  simp only [List.take_succ_cons, List.take_zero, List.drop_succ_cons, List.drop_zero]
  repeat still_step
  refine wpStill_nil ?_
  go_wp2_with (go_at_call 13; refine HC.out.mono ?_; rintro e w7 ⟨rfl, rfl⟩; clear HC)
  go_end0
  exact ⟨rfl, HSD.out.tail⟩
end
end Go.Proofs.YtbcabjpafeocgaaGreat

/-
  The barrier of layer 14: what it holds, and a contract for each method. Conditions: as the theorem says.
-/
namespace Go.Proofs.YtbcabjpafeocgaaGreat
set_option linter.unusedVariables false
set_option linter.unusedSimpArgs false
open Go.RowKit Go.Shelf

def yuaR (b m : Nat) : Res := blkR b 110 #[.func (.func 13) #[.pointer (some ⟨m, 0, none⟩)] #[]]
section
variable {w0 w : World} {L : List Res} {m a n : Nat} {C : Col}
theorem YNew (S : Sep w0 w L) (m : Nat) : Calls Tryz.prog 38 #[.pointer (some ⟨m, 0, none⟩)] w fun e w' => ∃ b, e = .returned (.pointer (some ⟨b, 0, none⟩)) ∧ Sep w0 w' (yuaR b m :: L) := by
  have HS := Lib.hid (S.box #[.func (.func 13) #[.pointer (some ⟨m, 0, none⟩)] #[]] 110)
  have hmf : ∀ (fn : Fn) (first cap : Array Value) (w : World), (Instr.makeFunc fn first cap).run Tryz.prog w = .ok (.func fn first cap) w := fun _ _ _ _ => rfl
  clear S
  go_enter Tryz.func38, Tryz.ntmps38
  go_wp2
  go_ret
  exact ⟨w.heap.size, rfl, HS.out⟩
theorem YRemark (w : World) (b : Nat) : Calls Tryz.prog 157 #[.pointer (some ⟨b, 0, none⟩)] w fun e w' => e = .returned (.tuple #[]) ∧ w = w' := by
  go_enter Tryz.func157, Tryz.ntmps157
  go_wp2
  go_end0
  exact ⟨rfl, rfl⟩
theorem YReset (w : World) (b : Nat) : Calls Tryz.prog 159 #[.pointer (some ⟨b, 0, none⟩)] w fun e w' => e = .returned (.tuple #[]) ∧ w = w' := by
  go_enter Tryz.func159, Tryz.ntmps159
  go_wp2
  go_end0
  exact ⟨rfl, rfl⟩
theorem YRescans (w : World) (b : Nat) : Calls Tryz.prog 158 #[.pointer (some ⟨b, 0, none⟩)] w fun e w' => e = .returned (.bool false) ∧ w = w' := by
  go_enter Tryz.func158, Tryz.ntmps158
  go_wp2
  go_ret
  exact ⟨rfl, rfl⟩
theorem YPre {b : Nat} (S : Sep w0 w L) (i j : Nat) (hi : L[i]? = some (yuaR b m)) (hj : L[j]? = some (markR m a n C)) (src : Int) (old : Nat) (ho : old < n) :
    Calls Tryz.prog 156 #[.pointer (some ⟨b, 0, none⟩), .int .i64 src, .int .i64 (old : Int)] w fun e w' => e = .returned (.tuple #[]) ∧ Sep w0 w' (L.set j (markR m a n (C.shade0 old))) := by
  have c0 := (S.blk i (by simpa [yuaR] using hi)).cell 0
  simp only [List.getElem?_toArray, List.getElem?_cons_zero, List.getElem?_cons_succ] at c0
  have HC := Lib.hid (KShade0 S j hj old ho)
  clear S hi hj
  go_enter Tryz.func156, Tryz.ntmps156
  go_wp2_with (go_at_call 13; refine HC.out.mono ?_; rintro e w7 ⟨rfl, hs⟩; have HS := Lib.hid hs; clear hs HC)
  go_end0
  exact ⟨rfl, HS.out⟩
set_option maxRecDepth 100000 in
set_option maxHeartbeats 2000000 in
theorem YPost {b : Nat} (S : Sep w0 w L) (i j : Nat) (hi : L[i]? = some (yuaR b m)) (hij : i ≠ j) (hj : L[j]? = some (markR m a n C)) (src : Int) (old y : Nat) (black early : Bool) (ho : old < n) (hy : y < n) :
    Calls Tryz.prog 155 #[.pointer (some ⟨b, 0, none⟩), (.agg #[.int .i64 src, .int .i64 (old : Int), .int .i64 (y : Int), .bool black, .bool early])] w fun e w' => e = .returned (.tuple #[]) ∧ Sep w0 w' (L.set j (markR m a n (if early = true then (C.shade0 old).shade0 y else C.shade0 old))) := by
  obtain ⟨T, hT⟩ : ∃ T, w.heap.size = T := ⟨_, rfl⟩
  have hb := S.box #[.int .i64 src, .int .i64 (old : Int), .int .i64 (y : Int), .bool black, .bool early] 41
  rw [hT] at hb
  have HB := Lib.hid hb
  have HI1 := Lib.hid (show (blkR T 41 #[.int .i64 src, .int .i64 (old : Int), .int .i64 (y : Int), .bool black, .bool early] :: L)[i + 1]? = some (yuaR b m) by simpa using hi)
  have HJ1 := Lib.hid (show (blkR T 41 #[.int .i64 src, .int .i64 (old : Int), .int .i64 (y : Int), .bool black, .bool early] :: L)[j + 1]? = some (markR m a n C) by simpa using hj)
  have HI2 := Lib.hid (show ((blkR T 41 #[.int .i64 src, .int .i64 (old : Int), .int .i64 (y : Int), .bool black, .bool early] :: L).set (j + 1) (markR m a n (C.shade0 old)))[i + 1]? = some (yuaR b m) by rw [List.getElem?_set_ne (by omega)]; simpa using hi)
  have HJ2 := Lib.hid (show ((blkR T 41 #[.int .i64 src, .int .i64 (old : Int), .int .i64 (y : Int), .bool black, .bool early] :: L).set (j + 1) (markR m a n (C.shade0 old)))[j + 1]? = some (markR m a n (C.shade0 old)) by
    have := (List.getElem?_eq_some_iff.1 hj).1
    simp [this])
  have hro : Tryz.prog.follows .mixedOrders = true := by kernel_rfl
  clear S hi hj hb hij
  go_enter Tryz.func155, Tryz.ntmps155
  go_wp2
  obtain ⟨wd1, hwd1⟩ : ∃ wd, (w.alloc (.cells #[.int .i64 src, .int .i64 (old : Int), .int .i64 (y : Int), .bool black, .bool early] 41)).drew = wd := ⟨_, rfl⟩
  have hd := HB.out.drew
  rw [hwd1] at hd
  have x0 := (hd.blk (i + 1) (by have := HI1.out; unfold yuaR at this; exact this)).cell 0
  have x1 := (hd.blk 0 rfl).cell 1
  simp only [List.getElem?_toArray, List.getElem?_cons_zero, List.getElem?_cons_succ] at x0 x1
  try simp only [hT]
  have HS2 := Lib.hid hd
  clear hd HB
  refine wp_region_still_tail 6 (by kernel_rfl) (by kernel_rfl) ?_
  change wpStill _ _ (World.drew _) (fun a' => wpList _ _ _ _ a' (World.drew _)) _ _
  rw [hwd1]
  clear hwd1
  simp only [List.take_succ_cons, List.take_zero, List.drop_succ_cons, List.drop_zero]
  repeat still_step
  refine wpStill_nil ?_
  have HC := Lib.hid (KShade0 HS2.out (j + 1) HJ1.out old ho)
  clear HS2
  cases early
  · go_wp2_with (go_at_call 13; refine (HC.out).mono ?_; rintro e w7 ⟨rfl, hs⟩; clear x0 x1; have y1 := (hs.blk 0 rfl).cell 4; simp only [List.getElem?_toArray, List.getElem?_cons_zero, List.getElem?_cons_succ] at y1; have HS3 := Lib.hid hs; clear hs HC)
    go_end0
    exact ⟨rfl, HS3.out.tail⟩
  · go_wp2_with (go_at_call 13; refine (HC.out).mono ?_; rintro e w7 ⟨rfl, hs⟩; clear x0 x1; have y1 := (hs.blk 0 rfl).cell 4; simp only [List.getElem?_toArray, List.getElem?_cons_zero, List.getElem?_cons_succ] at y1; have HS3 := Lib.hid hs; clear hs HC)
    obtain ⟨wd2, hwd2⟩ : ∃ wd, (w7).drew = wd := ⟨_, rfl⟩
    have hd := HS3.out.drew
    rw [hwd2] at hd
    have x0 := (hd.blk (i + 1) (by have := HI2.out; unfold yuaR at this; exact this)).cell 0
    have x1 := (hd.blk 0 rfl).cell 2
    simp only [List.getElem?_toArray, List.getElem?_cons_zero, List.getElem?_cons_succ] at x0 x1
    have HS4 := Lib.hid hd
    clear hd HS3
    refine wp_region_still_tail 6 (by kernel_rfl) (by kernel_rfl) ?_
    change wpStill _ _ (World.drew _) (fun a' => wpList _ _ _ _ a' (World.drew _)) _ _
    rw [hwd2]
    clear hwd2
    simp only [List.take_succ_cons, List.take_zero, List.drop_succ_cons, List.drop_zero]
    repeat still_step
    refine wpStill_nil ?_
    have HC := Lib.hid (KShade0 HS4.out (j + 1) HJ2.out y hy)
    clear HS4
    go_wp2_with (go_at_call 13; refine (HC.out).mono ?_; rintro e w8 ⟨rfl, hs⟩; clear x0 x1; have HS5 := Lib.hid hs; clear hs HC)
    go_end0
    refine ⟨rfl, ?_⟩
    have h5 := HS5.out
    rw [List.set_set] at h5
    exact h5.tail
theorem YPre0 {b : Nat} (S : Sep w0 w L) (i j : Nat) (hi : L[i]? = some (yuaR b m)) (hj : L[j]? = some (markR m a n C)) (src : Int) (hn : 0 < n) :
    Calls Tryz.prog 156 #[.pointer (some ⟨b, 0, none⟩), .int .i64 src, .int .i64 0] w fun e w' => e = .returned (.tuple #[]) ∧ Sep w0 w' L := by
  have h := YPre S i j hi hj src 0 hn
  rw [shade0_zero, set_self hj] at h
  exact h
/-- Nothing was there. -/
theorem YPostNew {b : Nat} (S : Sep w0 w L) (i j : Nat) (hi : L[i]? = some (yuaR b m)) (hij : i ≠ j) (hj : L[j]? = some (markR m a n C)) (src : Int) (y : Nat) (black early : Bool) (hn : 0 < n) (hy : y < n) :
    Calls Tryz.prog 155 #[.pointer (some ⟨b, 0, none⟩), .agg #[.int .i64 src, .int .i64 0, .int .i64 (y : Int), .bool black, .bool early]] w fun e w' => e = .returned (.tuple #[]) ∧ Sep w0 w' (L.set j (markR m a n (if early = true then C.shade0 y else C))) := by
  have h := YPost S i j hi hij hj src 0 y black early hn hy
  rw [shade0_zero] at h
  exact h
/-- Nothing at all. -/
theorem YPostNil {b : Nat} (S : Sep w0 w L) (i j : Nat) (hi : L[i]? = some (yuaR b m)) (hij : i ≠ j) (hj : L[j]? = some (markR m a n C)) (src : Int) (black early : Bool) (hn : 0 < n) :
    Calls Tryz.prog 155 #[.pointer (some ⟨b, 0, none⟩), .agg #[.int .i64 src, .int .i64 0, .int .i64 0, .bool black, .bool early]] w fun e w' => e = .returned (.tuple #[]) ∧ Sep w0 w' L := by
  have h := YPostNew S i j hi hij hj src 0 black early hn hn
  rw [shade0_zero, ite_self, set_self hj] at h
  exact h
end
end Go.Proofs.YtbcabjpafeocgaaGreat

/-
  The engine of layer 16: what its barrier is, and a contract for New. Conditions: as the theorem says.
-/
namespace Go.Proofs.YtbcabjpafeocgaaGreat
set_option linter.unusedVariables false
set_option linter.unusedSimpArgs false
open Go.RowKit Go.Shelf

/-- Which barrier, and what it knows. -/
inductive Eng where
  | st (D : Nat → Bool)
  | dj
  | yu
  | vy (V : Vy)
def engT : Eng → TypeId
  | .st _ => 36
  | .dj => 71
  | .yu => 73
  | .vy _ => 75
def engV (b : Nat) (E : Eng) : Value := .iface (engT E) (.pointer (some ⟨b, 0, none⟩))
def engR (b m a N n : Nat) : Eng → Res
  | .st D => steeleR b m a N D
  | .dj => dijR b m
  | .yu => yuaR b m
  | .vy V => vybR b m n V
def Eng.new (e lg : Int) : Eng := if e = 0 then .st (fun _ => false) else if e = 1 then .dj else if e = 2 then .yu else .vy (Vy.new lg)
def Eng.rescans : Eng → Bool
  | .yu => false
  | _ => true
/-- What the barrier knows may be. -/
def Eng.ok (N : Nat) : Eng → Prop
  | .st D => ∀ i, D i = true → i < N
  | _ => True
/-- A remark. -/
def Eng.remark (A : AR) : Eng → Col → Eng × Col
  | .st D, C => (.st (fun _ => false), C.greyD A D)
  | .dj, C => (.dj, C)
  | .yu, C => (.yu, C)
  | .vy V, C => (.vy V, C.shades (V.what (elems (A.n * 32 + 1) A.tk)))
def Eng.reset : Eng → Eng
  | .st _ => .st (fun _ => false)
  | .dj => .dj
  | .yu => .yu
  | .vy V => .vy V.reset
def Eng.pre (old : Nat) : Eng → Col → Col
  | .yu, C => C.shade0 old
  | _, C => C
def Eng.post (A : AR) (src old new : Nat) (black early : Bool) : Eng → Col → Eng × Col
  | .st D, C => (.st (dirtied D (A.page (src : Int))), C)
  | .dj, C => (.dj, C.shade0 new)
  | .yu, C => (.yu, if early = true then (C.shade0 old).shade0 new else C.shade0 old)
  | .vy V, C => (.vy (V.post black old new), C)
def confV (e : Int) (bl : Bool) (p t r s g f mk lg bu : Int) : Value := .agg #[.int .i64 e, .bool bl, .int .i64 p, .int .i64 t, .int .i64 r, .int .i64 s, .int .i64 g, .int .i64 f, .int .i64 mk, .int .i64 lg, .int .i64 bu]
section
variable {w0 w : World} {L R0 : List Res} {m a n : Nat} {C : Col} {A : AR}
set_option maxRecDepth 100000 in
set_option maxHeartbeats 4000000 in
theorem ENew (S : Sep w0 w L) (i j : Nat) (hi : L[i]? = some (markR m a n C)) (hj : L[j]? = some (arenaR a A)) (hn : A.size = (n : Int)) (hn5 : n ≤ 100000) (e : Int) (bl : Bool) (p t r s g f mk lg bu : Int) (hlg : lg ≤ 1000000) :
    Calls Tryz.prog 27 #[confV e bl p t r s g f mk lg bu, .pointer (some ⟨m, 0, none⟩)] w fun e_ w' => ∃ b, e_ = .returned (engV b (Eng.new e lg)) ∧ Sep w0 w' (engR b m a A.n n (Eng.new e lg) :: L) := by
  have hb := S.box #[.int .i64 e, .bool bl, .int .i64 p, .int .i64 t, .int .i64 r, .int .i64 s, .int .i64 g, .int .i64 f, .int .i64 mk, .int .i64 lg, .int .i64 bu] 50
  have c0 := (hb.blk 0 rfl).cell 0
  have c9 := (hb.blk 0 rfl).cell 9
  simp only [List.getElem?_toArray, List.getElem?_cons_zero, List.getElem?_cons_succ] at c0 c9
  have HB := Lib.hid hb
  have HI := Lib.hid (show (blkR w.heap.size 50 #[.int .i64 e, .bool bl, .int .i64 p, .int .i64 t, .int .i64 r, .int .i64 s, .int .i64 g, .int .i64 f, .int .i64 mk, .int .i64 lg, .int .i64 bu] :: L)[i + 1]? = some (markR m a n C) by simpa using hi)
  have HJ := Lib.hid (show (blkR w.heap.size 50 #[.int .i64 e, .bool bl, .int .i64 p, .int .i64 t, .int .i64 r, .int .i64 s, .int .i64 g, .int .i64 f, .int .i64 mk, .int .i64 lg, .int .i64 bu] :: L)[j + 1]? = some (arenaR a A) by simpa using hj)
  unfold confV
  clear S hb hi hj
  by_cases h0 : e = 0
  · subst h0
    go_enter Tryz.func27, Tryz.ntmps27
    go_wp2_with (go_at_call 14; refine (BNew HB.out (i + 1) (j + 1) HI.out HJ.out).mono ?_; rintro e w5 ⟨b, rfl, hs⟩; have HS := Lib.hid hs; clear hs HB)
    go_ret
    refine ⟨b, by rfl, ?_⟩
    rw [show Eng.new 0 lg = .st (fun _ => false) from rfl]
    exact (HS.out.front 2 [1, 0]).tail
  · by_cases h1 : e = 1
    · subst h1
      go_enter Tryz.func27, Tryz.ntmps27
      go_wp2_with (go_at_call 37; refine (DNew HB.out m).mono ?_; rintro e w5 ⟨b, rfl, hs⟩; have HS := Lib.hid hs; clear hs HB)
      go_ret
      refine ⟨b, by rfl, ?_⟩
      rw [show Eng.new 1 lg = .dj from rfl]
      exact (HS.out.front 2 [1, 0]).tail
    · by_cases h2 : e = 2
      · subst h2
        go_enter Tryz.func27, Tryz.ntmps27
        go_wp2_with (go_at_call 38; refine (YNew HB.out m).mono ?_; rintro e w5 ⟨b, rfl, hs⟩; have HS := Lib.hid hs; clear hs HB)
        go_ret
        refine ⟨b, by rfl, ?_⟩
        rw [show Eng.new 2 lg = .yu from rfl]
        exact (HS.out.front 2 [1, 0]).tail
      · have hE : Eng.new e lg = .vy (Vy.new lg) := by unfold Eng.new; rw [if_neg h0, if_neg h1, if_neg h2]
        have HE := Lib.hid hE
        rw [hE]
        clear hE
        go_enter Tryz.func27, Tryz.ntmps27
        go_wp2_with (go_at_call 39; refine (VNew HB.out (i + 1) (j + 1) HI.out HJ.out hn hn5 lg hlg).mono ?_; rintro e w5 ⟨b, rfl, hs⟩; have HS := Lib.hid hs; clear hs HB)
        go_ret
        refine ⟨b, by rfl, ?_⟩
        exact (HS.out.front 2 [1, 0]).tail
end
end Go.Proofs.YtbcabjpafeocgaaGreat
