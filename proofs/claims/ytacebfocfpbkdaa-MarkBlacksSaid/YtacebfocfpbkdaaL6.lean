/-
  Parts of the proof, joined: MarkBlacksW. Conditions: as each part says.
-/
import Derived.Test.YtacebfocfpbkdaaL5
import Derived.Test.YtacebfocfpbkdaaL1

/-
  The walk of MarkBlacks. Conditions: as the theorem says.
-/
namespace Go.Proofs.Ytacebfocfpbkdaa
set_option linter.unusedVariables false
set_option linter.unusedSimpArgs false
open Go.RowKit Go.Shelf Go.Maps

set_option maxRecDepth 100000 in
set_option maxHeartbeats 16000000 in
theorem markBlacks_walk (A0 : Option Addr) (n0 c0 : Nat) (D0 : Nat → Nat → Int) (A1 : Option Addr) (n1 c1 : Nat) (D1 : Nat → Nat → Int) (A2 : Option Addr) (n2 c2 : Nat) (D2 : Nat → Nat → Int) (A3 : Option Addr) (n3 c3 : Nat) (D3 : Nat → Nat → Int) (w : World) (hz0 : ArgI w A0 n0 [.u8] D0) (hm0 : n0 ≤ maxLen) (hz1 : ArgI w A1 n1 [.u16, .u16, .u16] D1) (hm1 : n1 ≤ maxLen) (hz2 : ArgI w A2 n2 [.u8] D2) (hm2 : n2 ≤ 140737488351232) (hz3 : ArgI w A3 n3 [.u8] D3) (hm3 : n3 ≤ 140737488351232) :
    Calls Try.prog 8 #[.agg #[.slice A0 n0 c0, .slice A1 n1 c1], .slice A2 n2 c2, .slice A3 n3 c3] w fun e w' => e = .returned (.bool true) ∧ Below w.heap.size w w' := by
  have HZ0 := Lib.hid hz0
  have HZ1 := Lib.hid hz1
  have HZ2 := Lib.hid hz2
  have HZ3 := Lib.hid hz3
  unfold maxLen at hm0 hm1
  try unfold maxLen at hm2
  try unfold maxLen at hm3
  clear hz0 hz1 hz2 hz3
  obtain ⟨T, hT⟩ : ∃ T, w.heap.size = T := ⟨_, rfl⟩
  have hs0 := (Sep.start w).box #[.slice A0 n0 c0, .slice A1 n1 c1] 25
  rw [hT] at hs0
  have HS0 := Lib.hid hs0
  clear hs0
  have hmm := @run_makeMap Try.prog
  go_enter Try.func8, Try.ntmps8
  by_cases hsmall : (n0 ≤ 40 ∧ n1 ≤ 120) ∧ n2 + n3 ≤ 30
  · have hsd : (decide (n0 ≤ 40) && decide (n1 ≤ 120)) = true := by rw [decide_eq_true hsmall.1.1, decide_eq_true hsmall.1.2]; rfl
    have HSD := Lib.hid hsd
    obtain ⟨⟨hn0, hn1⟩, hn2⟩ := hsmall
    clear hsd
    have hgt : ¬ (30 : Int) < (n3 : Int) + (n2 : Int) := by omega
    go_wp2_with (first
      | (go_at_call 42; refine (fit11 _).mono ?_; rintro e w1 ⟨rfl, hC⟩; have hs1 := HS0.out.same hC; have p0 := (hs1.blk 0 rfl).cell 0; have p1 := (hs1.blk 0 rfl).cell 1; simp only [List.getElem?_toArray, List.getElem?_cons_zero, List.getElem?_cons_succ] at p0 p1; have HS1 := Lib.hid hs1; clear hC hs1 HS0)
      | (go_at_call 17; refine (Small11 _ A0 n0 c0 A1 n1 c1).mono ?_; rw [HSD.out]; rintro e w2 ⟨rfl, hC⟩; have hs1 := HS1.out.same hC; have p0 := (hs1.blk 0 rfl).cell 0; have p1 := (hs1.blk 0 rfl).cell 1; simp only [List.getElem?_toArray, List.getElem?_cons_zero, List.getElem?_cons_succ] at p0 p1; have HS2 := Lib.hid hs1; clear hC hs1 HS1)
      | (go_at_call 18; refine (Made11 A0 n0 c0 D0 A1 n1 c1 D1 HZ0.out HZ1.out hn0 hn1 HS2.out).mono ?_; rintro e w3 ⟨a, b, v, A, rs, fs, rfl, hgr, hlen, hs⟩; have p0 := (hs.blk 3 rfl).cell 0; have p1 := (hs.blk 3 rfl).cell 1; simp only [List.getElem?_toArray, List.getElem?_cons_zero, List.getElem?_cons_succ] at p0 p1; have HGR := Lib.hid hgr; obtain ⟨AL, capl, rfl, hcapl, hmcapl⟩ := hs.rowShape 1 rfl; unfold maxLen at hmcapl; obtain ⟨Rn, hRn⟩ : ∃ Rn, rs.length = Rn := ⟨_, rfl⟩; have HRN := Lib.hid hRn; rw [hRn] at hcapl hs; try rw [hRn]; rw [hRn] at hlen; have hl40 : Rn ≤ 40 := (by omega); have HLEN := Lib.hid hlen; have HS3 := Lib.hid hs; clear hs hgr HS2 hRn hlen)
      | (go_at_call 19; refine (KNew HS3.out 0 rfl HGR.out.size (by omega) 4 (by omega)).mono ?_; rintro e w4 ⟨m, rfl, hs⟩; obtain ⟨mi, hmi⟩ : ∃ mi, w4.heap.size = mi := ⟨_, rfl⟩; have hs5 := hs.newMap Try.prog 35 36 3 .i64 .i64; rw [hmi] at hs5; have hs6 : Sep w (w4.alloc (.map #[] 0)) (mapR Try.prog 35 36 3 .i64 .i64 mi (0) (visM fun y => decide (y ∈ ([] : List Nat))) :: markR m a 2049 (Col.white) :: arenaR a A :: rowR 36 1 (.slice AL Rn capl) Rn (nums rs) :: adjR Try.prog 36 36 b (ptsOf fs) :: blkR T 25 #[.slice A0 n0 c0, .slice A1 n1 c1] :: []) := (by rw [show (visM fun y => decide (y ∈ ([] : List Nat))) = fun _ => none from by rw [show (fun y : Nat => decide (y ∈ ([] : List Nat))) = fun _ => false from by funext y; simp]; exact visM_none]; exact hs5); have HS4 := Lib.hid (show Sep w (w4.alloc (.map #[] 0)) (rowR 36 1 (.slice AL Rn capl) rs.length (nums rs) :: mapR Try.prog 35 36 3 .i64 .i64 mi (0) (visM fun y => decide (y ∈ ([] : List Nat))) :: markR m a 2049 (Col.white) :: arenaR a A :: adjR Try.prog 36 36 b (ptsOf fs) :: blkR T 25 #[.slice A0 n0 c0, .slice A1 n1 c1] :: []) from by rw [HRN.out]; exact hs6.front 4 [3]); clear hs hs5 hs6 HS3)
      | (go_at_call 43; refine (Some11 A2 n2 c2 D2 HZ2.out (by omega) HS4.out).mono ?_; rintro e w5 ⟨vr, outq, rfl, hol, hin, hln, hs⟩; rw [HRN.out] at hs; obtain ⟨AQ, capq, rfl, hcapq, hmcapq⟩ := hs.rowShape 0 rfl; unfold maxLen at hmcapq; obtain ⟨Qn, hQn⟩ : ∃ Qn, outq.length = Qn := ⟨_, rfl⟩; have HQN := Lib.hid hQn; rw [hQn] at hcapq hs; try rw [hQn]; rw [hQn] at hol; have HS4q := Lib.hid (show Sep w w5 (rowR 36 1 (.slice AQ Qn capq) Qn (nums outq) :: rowR 36 1 (.slice AL Rn capl) Rn (nums rs) :: mapR Try.prog 35 36 3 .i64 .i64 mi (0) (visM fun y => decide (y ∈ ([] : List Nat))) :: markR m a 2049 (Col.white) :: arenaR a A :: adjR Try.prog 36 36 b (ptsOf fs) :: blkR T 25 #[.slice A0 n0 c0, .slice A1 n1 c1] :: []) from hs); have HINQ := Lib.hid hin; clear hs HS4 hin hln hQn))
    try simp only [hmi]
    clear hmi hmm
    go_loopw [46] (fun i wr => ∃ (k : Nat) (cn : Nat), k ≤ Qn ∧ i = .int .i64 k ∧ cn ≤ k ∧ Sep w wr (rowR 36 1 (.slice AQ Qn capq) Qn (nums outq) :: rowR 36 1 (.slice AL Rn capl) Rn (nums rs) :: mapR Try.prog 35 36 3 .i64 .i64 mi (cn) (visM fun y => decide (y ∈ outq.take k)) :: markR m a 2049 (Col.white.blacks (outq.take k)) :: arenaR a A :: adjR Try.prog 36 36 b (cutT (ptsOf fs) (outq.take k)) :: blkR T 25 #[.slice A0 n0 c0, .slice A1 n1 c1] :: [])) (fun i _ => Qn + 1 - (intOf i).toNat)
    case atStart => exact ⟨0, 0, by omega, rfl, by omega, by rw [List.take_zero, cutT_none]; exact HS4q.out⟩
    case round =>
      clear HS4q
      obtain ⟨k, cn, hk, rfl, hcn, hs⟩ := hrel
      by_cases hlt : k < Qn
      · have hltI : (k : Int) < (Qn : Int) := by omega
        obtain ⟨x, hx⟩ : ∃ z_, outq[k]? = some z_ := ⟨_, List.getElem?_eq_getElem (by rw [HQN.out]; exact hlt)⟩
        obtain ⟨g, cap', hsl, _, _⟩ := hs.rowSome 0 rfl (by omega)
        simp only [Value.slice.injEq] at hsl
        obtain ⟨rfl, _, rfl⟩ := hsl
        have cx := hs.rowCell 0 rfl k _ (nums_get _ _ _ hx)
        have hxr := HINQ.out x (List.mem_of_getElem? hx)
        have hx2 := HGR.out.lt hxr
        have HC := Lib.hid (KBlacken hs 3 rfl x hx2.1 hx2.2)
        have HX := Lib.hid hx
        clear hs hx
        go_wp2_with (first
          | (go_at_call 21; refine (HC.out).mono ?_; rintro e w7 ⟨rfl, hs⟩; obtain ⟨w8, hput1, hs8⟩ := map_put refIntOk (show Sep w w7 (rowR 36 1 (.slice (some ⟨g, 0, none⟩) Qn capq) Qn (nums outq) :: rowR 36 1 (.slice AL Rn capl) Rn (nums rs) :: mapR Try.prog 35 36 3 .i64 .i64 mi (cn) (visM fun y => decide (y ∈ outq.take k)) :: markR m a 2049 ((Col.white.blacks (outq.take k)).black x) :: arenaR a A :: adjR Try.prog 36 36 b (cutT (ptsOf fs) (outq.take k)) :: blkR T 25 #[.slice A0 n0 c0, .slice A1 n1 c1] :: []) from hs) 2 rfl (by unfold maxLen; omega) (wfx (x := x) (by omega)) (c := 1) (by decide); rw [visM_put, mem_next HX.out] at hs8; obtain ⟨cn2, hcn2⟩ : ∃ c, (if (visM (fun y => decide (y ∈ outq.take k)) (x : Int)).isSome = true then cn else cn + 1) = c := ⟨_, rfl⟩; have hcn2l : cn2 ≤ k + 1 := (by rw [← hcn2]; split <;> omega); rw [hcn2] at hs8; obtain ⟨cnt, M, OO, hhole, hs9⟩ := adj_out (show Sep w w8 (adjR Try.prog 36 36 b (cutT (ptsOf fs) (outq.take k)) :: rowR 36 1 (.slice (some ⟨g, 0, none⟩) Qn capq) Qn (nums outq) :: rowR 36 1 (.slice AL Rn capl) Rn (nums rs) :: mapR Try.prog 35 36 3 .i64 .i64 mi (cn2) (visM fun y => decide (y ∈ outq.take (k + 1))) :: markR m a 2049 ((Col.white.blacks (outq.take k)).black x) :: arenaR a A :: blkR T 25 #[.slice A0 n0 c0, .slice A1 n1 c1] :: []) from hs8.front 6 [5]) x (by omega); obtain ⟨w10, hput2, hs10⟩ := gmap_put keyRef Try.underlying30 hs9 0 rfl (by have := hhole.few; unfold maxLen; omega) (keyOfRef (x := x) (by omega)) (.slice none 0 0); have hs11 := hhole.back w w10 (rowR 36 1 (.slice (some ⟨g, 0, none⟩) Qn capq) Qn (nums outq) :: rowR 36 1 (.slice AL Rn capl) Rn (nums rs) :: mapR Try.prog 35 36 3 .i64 .i64 mi (cn2) (visM fun y => decide (y ∈ outq.take (k + 1))) :: markR m a 2049 ((Col.white.blacks (outq.take k)).black x) :: arenaR a A :: blkR T 25 #[.slice A0 n0 c0, .slice A1 n1 c1] :: []) (.slice none 0 0) [] ((hs10.swap.tail.nilRow 36 1).swap); rw [cutT_next _ HX.out] at hs11; have hs12 := (show Sep w w10 (adjR Try.prog 36 36 b (cutT (ptsOf fs) (outq.take (k + 1))) :: rowR 36 1 (.slice (some ⟨g, 0, none⟩) Qn capq) Qn (nums outq) :: rowR 36 1 (.slice AL Rn capl) Rn (nums rs) :: mapR Try.prog 35 36 3 .i64 .i64 mi (cn2) (visM fun y => decide (y ∈ outq.take (k + 1))) :: markR m a 2049 ((Col.white.blacks (outq.take k)).black x) :: arenaR a A :: blkR T 25 #[.slice A0 n0 c0, .slice A1 n1 c1] :: []) from hs11).front 7 [1, 2, 3, 4, 5, 0, 6]; rw [blacks_next HX.out] at hs12; have HS12 := Lib.hid (show Sep w w10 (rowR 36 1 (.slice (some ⟨g, 0, none⟩) Qn capq) Qn (nums outq) :: rowR 36 1 (.slice AL Rn capl) Rn (nums rs) :: mapR Try.prog 35 36 3 .i64 .i64 mi (cn2) (visM fun y => decide (y ∈ outq.take (k + 1))) :: markR m a 2049 (Col.white.blacks (outq.take (k + 1))) :: arenaR a A :: adjR Try.prog 36 36 b (cutT (ptsOf fs) (outq.take (k + 1))) :: blkR T 25 #[.slice A0 n0 c0, .slice A1 n1 c1] :: []) from hs12); have HP1 := Lib.hid hput1; have HP2 := Lib.hid hput2; clear hs hs8 hs9 hs10 hs11 hs12 hput1 hput2 hhole hcn2 HC)
          | (at_mapUpdate; refine wpList_mapUpdate_run rfl _ _ _ _ rfl rfl rfl rfl HP1.out ?_; clear HP1)
          | (at_mapUpdate; refine wpList_mapUpdate_run rfl _ _ _ _ rfl rfl rfl rfl HP2.out ?_; clear HP2))
        go_roundw
        case rel => exact ⟨k + 1, cn2, by omega, by go_num, hcn2l, HS12.out⟩
        case measure => simp [intOf]; omega
      · obtain rfl : Qn = k := by omega
        have e1 : outq.take Qn = outq := by rw [← HQN.out, List.take_length]
        rw [e1] at hs
        have HS5 := Lib.hid (show Sep w wr (rowR 36 1 (.slice AL Rn capl) rs.length (nums rs) :: rowR 36 1 (.slice AQ Qn capq) Qn (nums outq) :: mapR Try.prog 35 36 3 .i64 .i64 mi (cn) (visM fun y => decide (y ∈ outq)) :: markR m a 2049 (Col.white.blacks outq) :: arenaR a A :: adjR Try.prog 36 36 b (cutT (ptsOf fs) outq) :: blkR T 25 #[.slice A0 n0 c0, .slice A1 n1 c1] :: []) from by rw [HRN.out]; exact hs.front 2 [1])
        clear hs e1
        go_wp2_with (go_at_call 43; refine (Some11 A3 n3 c3 D3 HZ3.out (by omega) HS5.out).mono ?_; rintro e w5 ⟨vr, out, rfl, hol, hin, hln, hs⟩; rw [HRN.out] at hs; obtain ⟨AR, capr, rfl, hcapr, hmcapr⟩ := hs.rowShape 0 rfl; unfold maxLen at hmcapr; obtain ⟨Ln, hLn⟩ : ∃ Ln, out.length = Ln := ⟨_, rfl⟩; have HLN := Lib.hid hLn; rw [hLn] at hcapr hs; try rw [hLn]; rw [hLn] at hol; have HS6 := Lib.hid (show Sep w w5 (rowR 36 1 (.slice AR Ln capr) Ln (nums out) :: rowR 36 1 (.slice AL Rn capl) Rn (nums rs) :: rowR 36 1 (.slice AQ Qn capq) Qn (nums outq) :: mapR Try.prog 35 36 3 .i64 .i64 mi (cn) (visM fun y => decide (y ∈ outq)) :: markR m a 2049 (Col.white.blacks outq) :: arenaR a A :: adjR Try.prog 36 36 b (cutT (ptsOf fs) outq) :: blkR T 25 #[.slice A0 n0 c0, .slice A1 n1 c1] :: []) from hs); have HIN := Lib.hid hin; clear hs HS5 hin hln hLn)
        go_loopw [14, 62] (fun v i wr => ∃ (k : Nat), k ≤ Ln ∧ i = .int .i64 k ∧ Sep w wr (rowR 36 1 v k (nums (out.take k)) :: rowR 36 1 (.slice AR Ln capr) Ln (nums out) :: rowR 36 1 (.slice AL Rn capl) Rn (nums rs) :: rowR 36 1 (.slice AQ Qn capq) Qn (nums outq) :: mapR Try.prog 35 36 3 .i64 .i64 mi (cn) (visM fun y => decide (y ∈ outq)) :: markR m a 2049 ((Col.white.blacks outq).shades (out.take k)) :: arenaR a A :: adjR Try.prog 36 36 b (cutT (ptsOf fs) outq) :: blkR T 25 #[.slice A0 n0 c0, .slice A1 n1 c1] :: [])) (fun _ i _ => Ln + 1 - (intOf i).toNat)
        case atStart => exact ⟨0, by omega, rfl, by simp only [List.take_zero]; exact HS6.out.nilRow 36 1⟩
        case round =>
          clear HS6
          obtain ⟨k, hk, rfl, hs⟩ := hrel
          by_cases hlt : k < Ln
          · have hltI : (k : Int) < (Ln : Int) := by omega
            obtain ⟨x, hx⟩ : ∃ z_, out[k]? = some z_ := ⟨_, List.getElem?_eq_getElem (by rw [HLN.out]; exact hlt)⟩
            obtain ⟨g, cap', hsl, _, _⟩ := hs.rowSome 1 rfl (by omega)
            simp only [Value.slice.injEq] at hsl
            obtain ⟨rfl, _, rfl⟩ := hsl
            have cx := hs.rowCell 1 rfl k _ (nums_get _ _ _ hx)
            obtain ⟨AO, capo, hvo, hcapo, hcmo⟩ := hs.rowShape 0 rfl
            subst hvo
            unfold maxLen at hcmo
            have hxo := HIN.out x (List.mem_of_getElem? hx)
            have hx2 := HGR.out.lt hxo
            obtain ⟨bb, hbb⟩ : ∃ bb, decide (x ∈ outq) = bb := ⟨_, rfl⟩
            have hlk := map_get refIntOk hs.drew 4 rfl (wfx (x := x) (by omega))
            rw [visM_at, hbb] at hlk
            have HC := Lib.hid (KShade hs.drew 5 rfl x hx2.1 hx2.2)
            obtain ⟨sb, hsb⟩ : ∃ sb, (!((Col.white.blacks outq).shades (out.take k)).mz x) = sb := ⟨_, rfl⟩
            have HSB := Lib.hid hsb
            have hsb2 : bb = true → sb = false := fun e => by
              rw [← hsb, shades_mz, (blacks_mz outq _ x).1, hbb, e]
              simp
            have HNX := Lib.hid (shades_next (C := Col.white.blacks outq) hx)
            have HTK := Lib.hid (show out.take (k + 1) = out.take k ++ [x] by rw [List.take_add_one, hx]; rfl)
            have hro : Try.prog.follows .mixedOrders = true := by kernel_rfl
            have HBB := Lib.hid hbb
            obtain ⟨wd, hwd⟩ : ∃ wd, wr.drew = wd := ⟨_, rfl⟩
            rw [hwd] at HC hlk
            have HC2 := Lib.hid HC.out
            clear HC hs hx hsb hbb
            have h3 : (bb = true ∧ sb = false) ∨ (bb = false ∧ sb = false) ∨ (bb = false ∧ sb = true) := by
              cases bb <;> cases sb
              · exact .inr (.inl ⟨rfl, rfl⟩)
              · exact .inr (.inr ⟨rfl, rfl⟩)
              · exact .inl ⟨rfl, rfl⟩
              · exact absurd (hsb2 rfl) (by decide)
            clear hsb2
            rcases h3 with ⟨rfl, rfl⟩ | ⟨rfl, rfl⟩ | ⟨rfl, rfl⟩
            · as_aux_lemma =>
              simp only [if_true, Bool.false_eq_true, if_false, Option.getD_some, Option.getD_none] at hlk
              go_wp2
              have HC3 := HC2.out
              rw [HSB.out] at HC3
              refine calmP ?_
              refine wp_region_float (fun W => (Instr.lookup 35 (.map (some mi)) (.int .i64 (x : Int)) false).run Try.prog W = .ok (.int .i64 1) W) hro ?_
              rw [hwd]
              clear hwd
              refine wpAnyC_take (i := 0) (v := ?v1) rfl (by kernel_rfl) (by kernel_rfl) (by kernel_rfl) (fun _ _ _ h => h) (.inl ⟨?w1, ?y1⟩) ?h1
              case w1 => kernel_rfl
              case y1 =>
                intro W hf
                obtain hf1 := hf
                unfold yieldsAt
                go_simp
                all_goals first | rfl | exact ⟨rfl, rfl⟩
              simp only [List.getElem_toArray, List.getElem_cons_zero, List.getElem_cons_succ, Act.put, List.setIfInBounds_toArray, List.set_cons_succ, List.set_cons_zero]
              refine wpAnyC_take (i := 1) (v := ?v2) rfl (by kernel_rfl) (by kernel_rfl) (by kernel_rfl) (fun _ _ _ h => h) (.inl ⟨?w2, ?y2⟩) ?h2
              case w2 => kernel_rfl
              case y2 =>
                intro W hf
                obtain hf1 := hf
                unfold yieldsAt
                go_simp
                all_goals first | rfl | exact ⟨rfl, rfl⟩
              simp only [List.getElem_toArray, List.getElem_cons_zero, List.getElem_cons_succ, Act.put, List.setIfInBounds_toArray, List.set_cons_succ, List.set_cons_zero]
              refine wpAnyC_take (i := 3) (v := ?v3) rfl (by kernel_rfl) (by kernel_rfl) (by kernel_rfl) (fun _ _ _ h => h) (.inl ⟨?w3, ?y3⟩) ?h3
              case w3 => kernel_rfl
              case y3 =>
                intro W hf
                obtain hf1 := hf
                unfold yieldsAt
                go_simp
                all_goals first | rfl | exact ⟨rfl, rfl⟩
              simp only [List.getElem_toArray, List.getElem_cons_zero, List.getElem_cons_succ, Act.put, List.setIfInBounds_toArray, List.set_cons_succ, List.set_cons_zero]
              refine wpAnyC_take (i := 4) (v := ?v4) rfl (by kernel_rfl) (by kernel_rfl) (by kernel_rfl) (fun _ _ _ h => h) (.inl ⟨?w4, ?y4⟩) ?h4
              case w4 => kernel_rfl
              case y4 =>
                intro W hf
                obtain hf1 := hf
                unfold yieldsAt
                go_simp
                all_goals first | rfl | exact ⟨rfl, rfl⟩
              simp only [List.getElem_toArray, List.getElem_cons_zero, List.getElem_cons_succ, Act.put, List.setIfInBounds_toArray, List.set_cons_succ, List.set_cons_zero]
              refine wpAnyC_take (i := 5) (v := ?v5) rfl (by kernel_rfl) (by kernel_rfl) (by kernel_rfl) (fun _ _ _ h => h) (.inl ⟨?w5, ?y5⟩) ?h5
              case w5 => kernel_rfl
              case y5 =>
                intro W hf
                obtain hf1 := hf
                unfold yieldsAt
                go_simp
                all_goals first | rfl | exact ⟨rfl, rfl⟩
              simp only [List.getElem_toArray, List.getElem_cons_zero, List.getElem_cons_succ, Act.put, List.setIfInBounds_toArray, List.set_cons_succ, List.set_cons_zero]
              refine wpAnyC_take (i := 6) (v := ?v6) rfl (by kernel_rfl) (by kernel_rfl) (by kernel_rfl) (fun _ _ _ h => h) (.inl ⟨?w6, ?y6⟩) ?h6
              case w6 => kernel_rfl
              case y6 =>
                intro W hf
                obtain hf1 := hf
                unfold yieldsAt
                go_simp
                all_goals first | rfl | exact ⟨rfl, rfl⟩
              simp only [List.getElem_toArray, List.getElem_cons_zero, List.getElem_cons_succ, Act.put, List.setIfInBounds_toArray, List.set_cons_succ, List.set_cons_zero]
              refine wpAnyC_one (i := 2) rfl (by kernel_rfl) hlk rfl ?_
              intro K hK
              refine wp_call_of ?hrun7 HC3 ?hK7
              case hrun7 => go_simp
              intro w7 hs
              have hlk7 := map_get refIntOk hs 4 rfl (wfx (x := x) (by omega))
              rw [visM_at, HBB.out] at hlk7
              simp only [if_true, Bool.false_eq_true, if_false, Option.getD_some, Option.getD_none] at hlk7
              rw [HNX.out] at hs
              have HS7 := Lib.hid hs
              clear hs
              refine hK _ _ ?_
              simp only [List.getElem_toArray, List.getElem_cons_zero, List.getElem_cons_succ, Act.put, List.setIfInBounds_toArray, List.set_cons_succ, List.set_cons_zero]
              refine wpAnyC_take (i := 7) (v := ?v8) rfl (by kernel_rfl) (by kernel_rfl) (by kernel_rfl) (fun _ _ _ h => h) (.inl ⟨?w8, ?y8⟩) ?h8
              case w8 => kernel_rfl
              case y8 =>
                intro W hf
                obtain hf1 := hf
                unfold yieldsAt
                go_simp
                all_goals first | rfl | exact ⟨rfl, rfl⟩
              simp only [List.getElem_toArray, List.getElem_cons_zero, List.getElem_cons_succ, Act.put, List.setIfInBounds_toArray, List.set_cons_succ, List.set_cons_zero]
              refine wpAnyC_take (i := 8) (v := ?v9) rfl (by kernel_rfl) (by kernel_rfl) (by kernel_rfl) (fun _ _ _ h => h) (.inl ⟨?w9, ?y9⟩) ?h9
              case w9 => kernel_rfl
              case y9 =>
                intro W hf
                obtain hf1 := hf
                unfold yieldsAt
                go_simp
                all_goals first | rfl | exact ⟨rfl, rfl⟩
              simp only [List.getElem_toArray, List.getElem_cons_zero, List.getElem_cons_succ, Act.put, List.setIfInBounds_toArray, List.set_cons_succ, List.set_cons_zero]
              refine wpAnyC_take (i := 9) (v := undef) rfl (by kernel_rfl) (by kernel_rfl) (by kernel_rfl) (fun _ _ _ h => h) (.inr ⟨by kernel_rfl, rfl⟩) ?_
              simp only [List.getElem_toArray, List.getElem_cons_zero, List.getElem_cons_succ, Act.put, List.setIfInBounds_toArray, List.set_cons_succ, List.set_cons_zero]
              refine wpAnyC_take (i := 10) (v := undef) rfl (by kernel_rfl) (by kernel_rfl) (by kernel_rfl) (fun _ _ _ h => h) (.inr ⟨by kernel_rfl, rfl⟩) ?_
              simp only [List.getElem_toArray, List.getElem_cons_zero, List.getElem_cons_succ, Act.put, List.setIfInBounds_toArray, List.set_cons_succ, List.set_cons_zero]
              refine wpAnyC_take (i := 11) (v := undef) rfl (by kernel_rfl) (by kernel_rfl) (by kernel_rfl) (fun _ _ _ h => h) (.inr ⟨by kernel_rfl, rfl⟩) ?_
              simp only [List.getElem_toArray, List.getElem_cons_zero, List.getElem_cons_succ, Act.put, List.setIfInBounds_toArray, List.set_cons_succ, List.set_cons_zero]
              refine wpAnyC_take (i := 12) (v := undef) rfl (by kernel_rfl) (by kernel_rfl) (by kernel_rfl) (fun _ _ _ h => h) (.inr ⟨by kernel_rfl, rfl⟩) ?_
              simp only [List.getElem_toArray, List.getElem_cons_zero, List.getElem_cons_succ, Act.put, List.setIfInBounds_toArray, List.set_cons_succ, List.set_cons_zero]
              refine wpAnyC_take (i := 13) (v := ?v10) rfl (by kernel_rfl) (by kernel_rfl) (by kernel_rfl) (fun _ _ _ h => h) (.inl ⟨?w10, ?y10⟩) ?h10
              case w10 => kernel_rfl
              case y10 =>
                intro W hf
                obtain hf1 := hf
                unfold yieldsAt
                go_simp
                all_goals first | rfl | exact ⟨rfl, rfl⟩
              simp only [List.getElem_toArray, List.getElem_cons_zero, List.getElem_cons_succ, Act.put, List.setIfInBounds_toArray, List.set_cons_succ, List.set_cons_zero]
              refine wpAnyC_done (by kernel_rfl) hlk7 ?_ _
              try simp only [List.getElem_toArray, List.getElem_cons_zero, List.getElem_cons_succ, Act.put, List.setIfInBounds_toArray, List.set_cons_succ, List.set_cons_zero]
              clear hlk hlk7
              go_wp2_with (at_builtin; refine wpList_append_sep rfl _ _ 29 rfl 36 (.int .i64 0) 1 8 Try.underlying29 refInfo rfl (by decide) HS7.out 0 rfl rfl [.int .i64 (x : Int)] rfl (by simp [Value.oneCell']) rfl (by unfold maxLen; omega) (by omega) ?_; intro g4 cap4 w4 hcap4 hcm4 hs4; have HS4r := Lib.hid hs4; clear hs4)
              go_roundw
              case rel => exact ⟨k + 1, by omega, by go_num, by
                have h4 := HS4r.out
                have e4 : nums (out.take k) ++ [.int .i64 (x : Int)] = nums (out.take (k + 1)) := by rw [HTK.out, nums_append]; rfl
                simp only [List.set_cons_zero, e4] at h4
                exact h4⟩
              case measure => simp [intOf]; omega
            · as_aux_lemma =>
              simp only [if_true, Bool.false_eq_true, if_false, Option.getD_some, Option.getD_none] at hlk
              go_wp2
              have HC3 := HC2.out
              rw [HSB.out] at HC3
              refine calmP ?_
              refine wp_region_float (fun W => (Instr.lookup 35 (.map (some mi)) (.int .i64 (x : Int)) false).run Try.prog W = .ok (.int .i64 0) W) hro ?_
              rw [hwd]
              clear hwd
              refine wpAnyC_take (i := 0) (v := ?v11) rfl (by kernel_rfl) (by kernel_rfl) (by kernel_rfl) (fun _ _ _ h => h) (.inl ⟨?w11, ?y11⟩) ?h11
              case w11 => kernel_rfl
              case y11 =>
                intro W hf
                obtain hf1 := hf
                unfold yieldsAt
                go_simp
                all_goals first | rfl | exact ⟨rfl, rfl⟩
              simp only [List.getElem_toArray, List.getElem_cons_zero, List.getElem_cons_succ, Act.put, List.setIfInBounds_toArray, List.set_cons_succ, List.set_cons_zero]
              refine wpAnyC_take (i := 1) (v := ?v12) rfl (by kernel_rfl) (by kernel_rfl) (by kernel_rfl) (fun _ _ _ h => h) (.inl ⟨?w12, ?y12⟩) ?h12
              case w12 => kernel_rfl
              case y12 =>
                intro W hf
                obtain hf1 := hf
                unfold yieldsAt
                go_simp
                all_goals first | rfl | exact ⟨rfl, rfl⟩
              simp only [List.getElem_toArray, List.getElem_cons_zero, List.getElem_cons_succ, Act.put, List.setIfInBounds_toArray, List.set_cons_succ, List.set_cons_zero]
              refine wpAnyC_take (i := 3) (v := ?v13) rfl (by kernel_rfl) (by kernel_rfl) (by kernel_rfl) (fun _ _ _ h => h) (.inl ⟨?w13, ?y13⟩) ?h13
              case w13 => kernel_rfl
              case y13 =>
                intro W hf
                obtain hf1 := hf
                unfold yieldsAt
                go_simp
                all_goals first | rfl | exact ⟨rfl, rfl⟩
              simp only [List.getElem_toArray, List.getElem_cons_zero, List.getElem_cons_succ, Act.put, List.setIfInBounds_toArray, List.set_cons_succ, List.set_cons_zero]
              refine wpAnyC_take (i := 4) (v := ?v14) rfl (by kernel_rfl) (by kernel_rfl) (by kernel_rfl) (fun _ _ _ h => h) (.inl ⟨?w14, ?y14⟩) ?h14
              case w14 => kernel_rfl
              case y14 =>
                intro W hf
                obtain hf1 := hf
                unfold yieldsAt
                go_simp
                all_goals first | rfl | exact ⟨rfl, rfl⟩
              simp only [List.getElem_toArray, List.getElem_cons_zero, List.getElem_cons_succ, Act.put, List.setIfInBounds_toArray, List.set_cons_succ, List.set_cons_zero]
              refine wpAnyC_take (i := 5) (v := ?v15) rfl (by kernel_rfl) (by kernel_rfl) (by kernel_rfl) (fun _ _ _ h => h) (.inl ⟨?w15, ?y15⟩) ?h15
              case w15 => kernel_rfl
              case y15 =>
                intro W hf
                obtain hf1 := hf
                unfold yieldsAt
                go_simp
                all_goals first | rfl | exact ⟨rfl, rfl⟩
              simp only [List.getElem_toArray, List.getElem_cons_zero, List.getElem_cons_succ, Act.put, List.setIfInBounds_toArray, List.set_cons_succ, List.set_cons_zero]
              refine wpAnyC_take (i := 6) (v := ?v16) rfl (by kernel_rfl) (by kernel_rfl) (by kernel_rfl) (fun _ _ _ h => h) (.inl ⟨?w16, ?y16⟩) ?h16
              case w16 => kernel_rfl
              case y16 =>
                intro W hf
                obtain hf1 := hf
                unfold yieldsAt
                go_simp
                all_goals first | rfl | exact ⟨rfl, rfl⟩
              simp only [List.getElem_toArray, List.getElem_cons_zero, List.getElem_cons_succ, Act.put, List.setIfInBounds_toArray, List.set_cons_succ, List.set_cons_zero]
              refine wpAnyC_one (i := 2) rfl (by kernel_rfl) hlk rfl ?_
              intro K hK
              refine wp_call_of ?hrun17 HC3 ?hK17
              case hrun17 => go_simp
              intro w7 hs
              have hlk7 := map_get refIntOk hs 4 rfl (wfx (x := x) (by omega))
              rw [visM_at, HBB.out] at hlk7
              simp only [if_true, Bool.false_eq_true, if_false, Option.getD_some, Option.getD_none] at hlk7
              rw [HNX.out] at hs
              have HS7 := Lib.hid hs
              clear hs
              refine hK _ _ ?_
              simp only [List.getElem_toArray, List.getElem_cons_zero, List.getElem_cons_succ, Act.put, List.setIfInBounds_toArray, List.set_cons_succ, List.set_cons_zero]
              refine wpAnyC_take (i := 7) (v := ?v18) rfl (by kernel_rfl) (by kernel_rfl) (by kernel_rfl) (fun _ _ _ h => h) (.inl ⟨?w18, ?y18⟩) ?h18
              case w18 => kernel_rfl
              case y18 =>
                intro W hf
                obtain hf1 := hf
                unfold yieldsAt
                go_simp
                all_goals first | rfl | exact ⟨rfl, rfl⟩
              simp only [List.getElem_toArray, List.getElem_cons_zero, List.getElem_cons_succ, Act.put, List.setIfInBounds_toArray, List.set_cons_succ, List.set_cons_zero]
              refine wpAnyC_take (i := 8) (v := ?v19) rfl (by kernel_rfl) (by kernel_rfl) (by kernel_rfl) (fun _ _ _ h => h) (.inl ⟨?w19, ?y19⟩) ?h19
              case w19 => kernel_rfl
              case y19 =>
                intro W hf
                obtain hf1 := hf
                unfold yieldsAt
                go_simp
                all_goals first | rfl | exact ⟨rfl, rfl⟩
              simp only [List.getElem_toArray, List.getElem_cons_zero, List.getElem_cons_succ, Act.put, List.setIfInBounds_toArray, List.set_cons_succ, List.set_cons_zero]
              refine wpAnyC_take (i := 9) (v := ?v20) rfl (by kernel_rfl) (by kernel_rfl) (by kernel_rfl) (fun _ _ _ h => h) (.inl ⟨?w20, ?y20⟩) ?h20
              case w20 => kernel_rfl
              case y20 =>
                intro W hf
                obtain hf1 := hf
                unfold yieldsAt
                go_simp
                all_goals first | rfl | exact ⟨rfl, rfl⟩
              simp only [List.getElem_toArray, List.getElem_cons_zero, List.getElem_cons_succ, Act.put, List.setIfInBounds_toArray, List.set_cons_succ, List.set_cons_zero]
              refine wpAnyC_take (i := 10) (v := ?v21) rfl (by kernel_rfl) (by kernel_rfl) (by kernel_rfl) (fun _ _ _ h => h) (.inl ⟨?w21, ?y21⟩) ?h21
              case w21 => kernel_rfl
              case y21 =>
                intro W hf
                obtain hf1 := hf
                unfold yieldsAt
                go_simp
                all_goals first | rfl | exact ⟨rfl, rfl⟩
              simp only [List.getElem_toArray, List.getElem_cons_zero, List.getElem_cons_succ, Act.put, List.setIfInBounds_toArray, List.set_cons_succ, List.set_cons_zero]
              refine wpAnyC_take (i := 11) (v := ?v22) rfl (by kernel_rfl) (by kernel_rfl) (by kernel_rfl) (fun _ _ _ h => h) (.inl ⟨?w22, ?y22⟩) ?h22
              case w22 => kernel_rfl
              case y22 =>
                intro W hf
                obtain hf1 := hf
                unfold yieldsAt
                go_simp
                all_goals first | rfl | exact ⟨rfl, rfl⟩
              simp only [List.getElem_toArray, List.getElem_cons_zero, List.getElem_cons_succ, Act.put, List.setIfInBounds_toArray, List.set_cons_succ, List.set_cons_zero]
              refine wpAnyC_take (i := 12) (v := ?v23) rfl (by kernel_rfl) (by kernel_rfl) (by kernel_rfl) (fun _ _ _ h => h) (.inl ⟨?w23, ?y23⟩) ?h23
              case w23 => kernel_rfl
              case y23 =>
                intro W hf
                obtain hf1 := hf
                unfold yieldsAt
                go_simp
                all_goals first | rfl | exact ⟨rfl, rfl⟩
              simp only [List.getElem_toArray, List.getElem_cons_zero, List.getElem_cons_succ, Act.put, List.setIfInBounds_toArray, List.set_cons_succ, List.set_cons_zero]
              refine wpAnyC_take (i := 13) (v := ?v24) rfl (by kernel_rfl) (by kernel_rfl) (by kernel_rfl) (fun _ _ _ h => h) (.inl ⟨?w24, ?y24⟩) ?h24
              case w24 => kernel_rfl
              case y24 =>
                intro W hf
                obtain hf1 := hf
                unfold yieldsAt
                go_simp
                all_goals first | rfl | exact ⟨rfl, rfl⟩
              simp only [List.getElem_toArray, List.getElem_cons_zero, List.getElem_cons_succ, Act.put, List.setIfInBounds_toArray, List.set_cons_succ, List.set_cons_zero]
              refine wpAnyC_done (by kernel_rfl) hlk7 ?_ _
              try simp only [List.getElem_toArray, List.getElem_cons_zero, List.getElem_cons_succ, Act.put, List.setIfInBounds_toArray, List.set_cons_succ, List.set_cons_zero]
              clear hlk hlk7
              go_wp2_with (at_builtin; refine wpList_append_sep rfl _ _ 29 rfl 36 (.int .i64 0) 1 8 Try.underlying29 refInfo rfl (by decide) HS7.out 0 rfl rfl [.int .i64 (x : Int)] rfl (by simp [Value.oneCell']) rfl (by unfold maxLen; omega) (by omega) ?_; intro g4 cap4 w4 hcap4 hcm4 hs4; have HS4r := Lib.hid hs4; clear hs4)
              go_roundw
              case rel => exact ⟨k + 1, by omega, by go_num, by
                have h4 := HS4r.out
                have e4 : nums (out.take k) ++ [.int .i64 (x : Int)] = nums (out.take (k + 1)) := by rw [HTK.out, nums_append]; rfl
                simp only [List.set_cons_zero, e4] at h4
                exact h4⟩
              case measure => simp [intOf]; omega
            · as_aux_lemma =>
              simp only [if_true, Bool.false_eq_true, if_false, Option.getD_some, Option.getD_none] at hlk
              go_wp2
              have HC3 := HC2.out
              rw [HSB.out] at HC3
              refine calmP ?_
              refine wp_region_float (fun W => (Instr.lookup 35 (.map (some mi)) (.int .i64 (x : Int)) false).run Try.prog W = .ok (.int .i64 0) W) hro ?_
              rw [hwd]
              clear hwd
              refine wpAnyC_take (i := 0) (v := ?v25) rfl (by kernel_rfl) (by kernel_rfl) (by kernel_rfl) (fun _ _ _ h => h) (.inl ⟨?w25, ?y25⟩) ?h25
              case w25 => kernel_rfl
              case y25 =>
                intro W hf
                obtain hf1 := hf
                unfold yieldsAt
                go_simp
                all_goals first | rfl | exact ⟨rfl, rfl⟩
              simp only [List.getElem_toArray, List.getElem_cons_zero, List.getElem_cons_succ, Act.put, List.setIfInBounds_toArray, List.set_cons_succ, List.set_cons_zero]
              refine wpAnyC_take (i := 1) (v := ?v26) rfl (by kernel_rfl) (by kernel_rfl) (by kernel_rfl) (fun _ _ _ h => h) (.inl ⟨?w26, ?y26⟩) ?h26
              case w26 => kernel_rfl
              case y26 =>
                intro W hf
                obtain hf1 := hf
                unfold yieldsAt
                go_simp
                all_goals first | rfl | exact ⟨rfl, rfl⟩
              simp only [List.getElem_toArray, List.getElem_cons_zero, List.getElem_cons_succ, Act.put, List.setIfInBounds_toArray, List.set_cons_succ, List.set_cons_zero]
              refine wpAnyC_take (i := 3) (v := ?v27) rfl (by kernel_rfl) (by kernel_rfl) (by kernel_rfl) (fun _ _ _ h => h) (.inl ⟨?w27, ?y27⟩) ?h27
              case w27 => kernel_rfl
              case y27 =>
                intro W hf
                obtain hf1 := hf
                unfold yieldsAt
                go_simp
                all_goals first | rfl | exact ⟨rfl, rfl⟩
              simp only [List.getElem_toArray, List.getElem_cons_zero, List.getElem_cons_succ, Act.put, List.setIfInBounds_toArray, List.set_cons_succ, List.set_cons_zero]
              refine wpAnyC_take (i := 4) (v := ?v28) rfl (by kernel_rfl) (by kernel_rfl) (by kernel_rfl) (fun _ _ _ h => h) (.inl ⟨?w28, ?y28⟩) ?h28
              case w28 => kernel_rfl
              case y28 =>
                intro W hf
                obtain hf1 := hf
                unfold yieldsAt
                go_simp
                all_goals first | rfl | exact ⟨rfl, rfl⟩
              simp only [List.getElem_toArray, List.getElem_cons_zero, List.getElem_cons_succ, Act.put, List.setIfInBounds_toArray, List.set_cons_succ, List.set_cons_zero]
              refine wpAnyC_take (i := 5) (v := ?v29) rfl (by kernel_rfl) (by kernel_rfl) (by kernel_rfl) (fun _ _ _ h => h) (.inl ⟨?w29, ?y29⟩) ?h29
              case w29 => kernel_rfl
              case y29 =>
                intro W hf
                obtain hf1 := hf
                unfold yieldsAt
                go_simp
                all_goals first | rfl | exact ⟨rfl, rfl⟩
              simp only [List.getElem_toArray, List.getElem_cons_zero, List.getElem_cons_succ, Act.put, List.setIfInBounds_toArray, List.set_cons_succ, List.set_cons_zero]
              refine wpAnyC_take (i := 6) (v := ?v30) rfl (by kernel_rfl) (by kernel_rfl) (by kernel_rfl) (fun _ _ _ h => h) (.inl ⟨?w30, ?y30⟩) ?h30
              case w30 => kernel_rfl
              case y30 =>
                intro W hf
                obtain hf1 := hf
                unfold yieldsAt
                go_simp
                all_goals first | rfl | exact ⟨rfl, rfl⟩
              simp only [List.getElem_toArray, List.getElem_cons_zero, List.getElem_cons_succ, Act.put, List.setIfInBounds_toArray, List.set_cons_succ, List.set_cons_zero]
              refine wpAnyC_one (i := 2) rfl (by kernel_rfl) hlk rfl ?_
              intro K hK
              refine wp_call_of ?hrun31 HC3 ?hK31
              case hrun31 => go_simp
              intro w7 hs
              have hlk7 := map_get refIntOk hs 4 rfl (wfx (x := x) (by omega))
              rw [visM_at, HBB.out] at hlk7
              simp only [if_true, Bool.false_eq_true, if_false, Option.getD_some, Option.getD_none] at hlk7
              rw [HNX.out] at hs
              have HS7 := Lib.hid hs
              clear hs
              refine hK _ _ ?_
              simp only [List.getElem_toArray, List.getElem_cons_zero, List.getElem_cons_succ, Act.put, List.setIfInBounds_toArray, List.set_cons_succ, List.set_cons_zero]
              refine wpAnyC_take (i := 7) (v := ?v32) rfl (by kernel_rfl) (by kernel_rfl) (by kernel_rfl) (fun _ _ _ h => h) (.inl ⟨?w32, ?y32⟩) ?h32
              case w32 => kernel_rfl
              case y32 =>
                intro W hf
                obtain hf1 := hf
                unfold yieldsAt
                go_simp
                all_goals first | rfl | exact ⟨rfl, rfl⟩
              simp only [List.getElem_toArray, List.getElem_cons_zero, List.getElem_cons_succ, Act.put, List.setIfInBounds_toArray, List.set_cons_succ, List.set_cons_zero]
              refine wpAnyC_take (i := 8) (v := ?v33) rfl (by kernel_rfl) (by kernel_rfl) (by kernel_rfl) (fun _ _ _ h => h) (.inl ⟨?w33, ?y33⟩) ?h33
              case w33 => kernel_rfl
              case y33 =>
                intro W hf
                obtain hf1 := hf
                unfold yieldsAt
                go_simp
                all_goals first | rfl | exact ⟨rfl, rfl⟩
              simp only [List.getElem_toArray, List.getElem_cons_zero, List.getElem_cons_succ, Act.put, List.setIfInBounds_toArray, List.set_cons_succ, List.set_cons_zero]
              refine wpAnyC_take (i := 9) (v := undef) rfl (by kernel_rfl) (by kernel_rfl) (by kernel_rfl) (fun _ _ _ h => h) (.inr ⟨by kernel_rfl, rfl⟩) ?_
              simp only [List.getElem_toArray, List.getElem_cons_zero, List.getElem_cons_succ, Act.put, List.setIfInBounds_toArray, List.set_cons_succ, List.set_cons_zero]
              refine wpAnyC_take (i := 10) (v := undef) rfl (by kernel_rfl) (by kernel_rfl) (by kernel_rfl) (fun _ _ _ h => h) (.inr ⟨by kernel_rfl, rfl⟩) ?_
              simp only [List.getElem_toArray, List.getElem_cons_zero, List.getElem_cons_succ, Act.put, List.setIfInBounds_toArray, List.set_cons_succ, List.set_cons_zero]
              refine wpAnyC_take (i := 11) (v := undef) rfl (by kernel_rfl) (by kernel_rfl) (by kernel_rfl) (fun _ _ _ h => h) (.inr ⟨by kernel_rfl, rfl⟩) ?_
              simp only [List.getElem_toArray, List.getElem_cons_zero, List.getElem_cons_succ, Act.put, List.setIfInBounds_toArray, List.set_cons_succ, List.set_cons_zero]
              refine wpAnyC_take (i := 12) (v := undef) rfl (by kernel_rfl) (by kernel_rfl) (by kernel_rfl) (fun _ _ _ h => h) (.inr ⟨by kernel_rfl, rfl⟩) ?_
              simp only [List.getElem_toArray, List.getElem_cons_zero, List.getElem_cons_succ, Act.put, List.setIfInBounds_toArray, List.set_cons_succ, List.set_cons_zero]
              refine wpAnyC_take (i := 13) (v := ?v34) rfl (by kernel_rfl) (by kernel_rfl) (by kernel_rfl) (fun _ _ _ h => h) (.inl ⟨?w34, ?y34⟩) ?h34
              case w34 => kernel_rfl
              case y34 =>
                intro W hf
                obtain hf1 := hf
                unfold yieldsAt
                go_simp
                all_goals first | rfl | exact ⟨rfl, rfl⟩
              simp only [List.getElem_toArray, List.getElem_cons_zero, List.getElem_cons_succ, Act.put, List.setIfInBounds_toArray, List.set_cons_succ, List.set_cons_zero]
              refine wpAnyC_done (by kernel_rfl) hlk7 ?_ _
              try simp only [List.getElem_toArray, List.getElem_cons_zero, List.getElem_cons_succ, Act.put, List.setIfInBounds_toArray, List.set_cons_succ, List.set_cons_zero]
              clear hlk hlk7
              go_wp2_with (at_builtin; refine wpList_append_sep rfl _ _ 29 rfl 36 (.int .i64 0) 1 8 Try.underlying29 refInfo rfl (by decide) HS7.out 0 rfl rfl [.int .i64 (x : Int)] rfl (by simp [Value.oneCell']) rfl (by unfold maxLen; omega) (by omega) ?_; intro g4 cap4 w4 hcap4 hcm4 hs4; have HS4r := Lib.hid hs4; clear hs4)
              go_roundw
              case rel => exact ⟨k + 1, by omega, by go_num, by
                have h4 := HS4r.out
                have e4 : nums (out.take k) ++ [.int .i64 (x : Int)] = nums (out.take (k + 1)) := by rw [HTK.out, nums_append]; rfl
                simp only [List.set_cons_zero, e4] at h4
                exact h4⟩
              case measure => simp [intOf]; omega
          · obtain rfl : Ln = k := by omega
            obtain ⟨AO, capo, hvo, hcapo, hcmo⟩ := hs.rowShape 0 rfl
            subst hvo
            rw [show out.take Ln = out by rw [← HLN.out, List.take_length]] at hs
            have hO : ∀ x, ((Col.white.blacks outq).shades out).mz x = true → x ∈ rs := fun x hx => by
              rw [shades_mz, (blacks_mz outq _ x).1] at hx
              simp only [Col.white, Bool.false_or, Bool.or_eq_true, decide_eq_true_eq] at hx
              rcases hx with h | h
              · exact HINQ.out x h
              · exact HIN.out x h
            have HO := Lib.hid hO
            have HC := Lib.hid (KTrace HGR.out.heap HGR.out.size (C := (Col.white.blacks outq).shades out) hO (show Sep w wr (rowR 36 1 (.slice AO Ln capo) Ln (nums out) :: rowR 36 1 (.slice AR Ln capr) Ln (nums out) :: rowR 36 1 (.slice AL Rn capl) Rn (nums rs) :: rowR 36 1 (.slice AQ Qn capq) Qn (nums outq) :: mapR Try.prog 35 36 3 .i64 .i64 mi (cn) (visM fun y => decide (y ∈ outq)) :: markR m a 2049 ((Col.white.blacks outq).shades out) :: arenaR a A :: adjR Try.prog 36 36 b (cutT (ptsOf fs) outq) :: blkR T 25 #[.slice A0 n0 c0, .slice A1 n1 c1] :: []) from hs) 5 6 rfl rfl (by decide) 1000 (by omega))
            clear hs hO
            go_wp2_with (first
              | (go_at_call 37; refine (HC.out).mono ?_; rintro e w7 ⟨d, C, rfl, ht, hs⟩; have HNO := Lib.hid (traced ht.steps HGR.out.nodup HGR.out.ptsIn HO.out (by rw [HRN.out]; omega) ht.end_); have HBE := Lib.hid (blacks_end ht.steps HNO.out); have HC2 := Lib.hid (Reach11 ((HGR.out.field (by rw [HRN.out]; omega)).cut outq) HIN.out (by rw [HLN.out]; omega) (show Sep w w7 (rowR 36 1 (.slice AO Ln capo) out.length (nums out) :: adjR Try.prog 36 36 b (cutT (ptsOf fs) outq) :: rowR 36 1 (.slice AR Ln capr) Ln (nums out) :: rowR 36 1 (.slice AL Rn capl) Rn (nums rs) :: rowR 36 1 (.slice AQ Qn capq) Qn (nums outq) :: mapR Try.prog 35 36 3 .i64 .i64 mi (cn) (visM fun y => decide (y ∈ outq)) :: markR m a 2049 (C) :: arenaR a A :: blkR T 25 #[.slice A0 n0 c0, .slice A1 n1 c1] :: []) from by rw [HLN.out]; exact hs.front 8 [0, 7])); clear hs ht HC)
              | (go_at_call 44; refine (HC2.out).mono ?_; rintro e w8 ⟨mb, V, rfl, hV, hVo, hs⟩; have HS8 := Lib.hid (show Sep w w8 (mapR Try.prog 35 36 3 .i64 .i64 mb (rs.countP V) (visM V) :: rowR 36 1 (.slice AO Ln capo) out.length (nums out) :: adjR Try.prog 36 36 b (cutT (ptsOf fs) outq) :: rowR 36 1 (.slice AR Ln capr) Ln (nums out) :: rowR 36 1 (.slice AL Rn capl) Rn (nums rs) :: rowR 36 1 (.slice AQ Qn capq) Qn (nums outq) :: mapR Try.prog 35 36 3 .i64 .i64 mi (cn) (visM fun y => decide (y ∈ outq)) :: markR m a 2049 (C) :: arenaR a A :: blkR T 25 #[.slice A0 n0 c0, .slice A1 n1 c1] :: []) from hs); have HV := Lib.hid hV; clear hs hV hVo HC2))
            go_loopw [92] (fun i wr => ∃ (k : Nat), k ≤ Rn ∧ i = .int .i64 k ∧ Sep w wr (mapR Try.prog 35 36 3 .i64 .i64 mb (rs.countP V) (visM V) :: rowR 36 1 (.slice AO Ln capo) out.length (nums out) :: adjR Try.prog 36 36 b (cutT (ptsOf fs) outq) :: rowR 36 1 (.slice AR Ln capr) Ln (nums out) :: rowR 36 1 (.slice AL Rn capl) Rn (nums rs) :: rowR 36 1 (.slice AQ Qn capq) Qn (nums outq) :: mapR Try.prog 35 36 3 .i64 .i64 mi (cn) (visM fun y => decide (y ∈ outq)) :: markR m a 2049 (C) :: arenaR a A :: blkR T 25 #[.slice A0 n0 c0, .slice A1 n1 c1] :: [])) (fun i _ => Rn + 1 - (intOf i).toNat)
            case atStart => exact ⟨0, by omega, rfl, HS8.out⟩
            case round =>
              clear HS8
              obtain ⟨k, hk, rfl, hs⟩ := hrel
              by_cases hlt : k < Rn
              · have hltI : (k : Int) < (Rn : Int) := by omega
                obtain ⟨xr, hx⟩ : ∃ z_, rs[k]? = some z_ := ⟨_, List.getElem?_eq_getElem (by rw [HRN.out]; exact hlt)⟩
                obtain ⟨g, cap', hsl, _, _⟩ := hs.rowSome 4 rfl (by omega)
                simp only [Value.slice.injEq] at hsl
                obtain ⟨rfl, _, rfl⟩ := hsl
                have cx := hs.rowCell 4 rfl k _ (nums_get _ _ _ hx)
                have hx2 := HGR.out.lt (List.mem_of_getElem? hx)
                have HSB := Lib.hid hs
                have hmk := fun W (S : Sep w W (mapR Try.prog 35 36 3 .i64 .i64 mb (rs.countP V) (visM V) :: rowR 36 1 (.slice AO Ln capo) out.length (nums out) :: adjR Try.prog 36 36 b (cutT (ptsOf fs) outq) :: rowR 36 1 (.slice AR Ln capr) Ln (nums out) :: rowR 36 1 (.slice (some ⟨g, 0, none⟩) Rn capl) Rn (nums rs) :: rowR 36 1 (.slice AQ Qn capq) Qn (nums outq) :: mapR Try.prog 35 36 3 .i64 .i64 mi (cn) (visM fun y => decide (y ∈ outq)) :: markR m a 2049 (C) :: arenaR a A :: blkR T 25 #[.slice A0 n0 c0, .slice A1 n1 c1] :: [])) => KMarked S 7 rfl xr hx2.2
                obtain ⟨bv, hbv⟩ : ∃ b, V xr = b := ⟨_, rfl⟩
                obtain ⟨bi, hbi⟩ : ∃ b, decide (xr ∈ outq) = b := ⟨_, rfl⟩
                have hcm : C.mz xr = (bv || bi) := by
                  rw [← hbv, ← hbi, Bool.eq_iff_iff, HBE.out xr, Bool.or_eq_true, HV.out xr, decide_eq_true_eq]
                rw [hcm] at hmk
                have HVX := Lib.hid hbv
                have HIX := Lib.hid hbi
                clear hs hx hbv hbi hcm
                cases bv <;> cases bi
                · have HMK := Lib.hid hmk
                  clear hmk
                  go_wp2
                  refine region_sep HSB.out (by kernel_rfl) (by kernel_rfl) ?_
                  intro hne0
                  have ylk : ∀ x : SepW w (mapR Try.prog 35 36 3 .i64 .i64 mb (rs.countP V) (visM V) :: rowR 36 1 (.slice AO Ln capo) out.length (nums out) :: adjR Try.prog 36 36 b (cutT (ptsOf fs) outq) :: rowR 36 1 (.slice AR Ln capr) Ln (nums out) :: rowR 36 1 (.slice (some ⟨g, 0, none⟩) Rn capl) Rn (nums rs) :: rowR 36 1 (.slice AQ Qn capq) Qn (nums outq) :: mapR Try.prog 35 36 3 .i64 .i64 mi (cn) (visM fun y => decide (y ∈ outq)) :: markR m a 2049 (C) :: arenaR a A :: blkR T 25 #[.slice A0 n0 c0, .slice A1 n1 c1] :: []), (Instr.lookup 35 (.map (some mb)) (.int .i64 (xr : Int)) false).run Try.prog x.w' = .ok (.int .i64 0) x.w' := fun x => by
                    have := map_get refIntOk x.h 0 rfl (wfx (x := xr) (by omega))
                    rw [visM_at, HVX.out] at this
                    simpa using this
                  have yin : ∀ x : SepW w (mapR Try.prog 35 36 3 .i64 .i64 mb (rs.countP V) (visM V) :: rowR 36 1 (.slice AO Ln capo) out.length (nums out) :: adjR Try.prog 36 36 b (cutT (ptsOf fs) outq) :: rowR 36 1 (.slice AR Ln capr) Ln (nums out) :: rowR 36 1 (.slice (some ⟨g, 0, none⟩) Rn capl) Rn (nums rs) :: rowR 36 1 (.slice AQ Qn capq) Qn (nums outq) :: mapR Try.prog 35 36 3 .i64 .i64 mi (cn) (visM fun y => decide (y ∈ outq)) :: markR m a 2049 (C) :: arenaR a A :: blkR T 25 #[.slice A0 n0 c0, .slice A1 n1 c1] :: []), (Instr.lookup 35 (.map (some mi)) (.int .i64 (xr : Int)) false).run Try.prog x.w' = .ok (.int .i64 0) x.w' := fun x => by
                    have := map_get refIntOk x.h 6 rfl (wfx (x := xr) (by omega))
                    rw [visM_at, HIX.out] at this
                    simpa using this
                  repeat (go_big_quiet_step (first
                    | (go_at_call 27; exact sep_calls (HMK.out _ (SepW.h _)))))
                  refine wpQuiet_nil ?_
                  rintro wq ⟨⟨wqx, hs⟩, rfl⟩
                  clear ylk yin hne0
                  go_wp2
                  go_roundw
                  case rel => exact ⟨k + 1, by omega, by go_num, hs⟩
                  case measure => simp [intOf]; omega
                · have HMK := Lib.hid hmk
                  clear hmk
                  go_wp2
                  refine region_sep HSB.out (by kernel_rfl) (by kernel_rfl) ?_
                  intro hne0
                  have ylk : ∀ x : SepW w (mapR Try.prog 35 36 3 .i64 .i64 mb (rs.countP V) (visM V) :: rowR 36 1 (.slice AO Ln capo) out.length (nums out) :: adjR Try.prog 36 36 b (cutT (ptsOf fs) outq) :: rowR 36 1 (.slice AR Ln capr) Ln (nums out) :: rowR 36 1 (.slice (some ⟨g, 0, none⟩) Rn capl) Rn (nums rs) :: rowR 36 1 (.slice AQ Qn capq) Qn (nums outq) :: mapR Try.prog 35 36 3 .i64 .i64 mi (cn) (visM fun y => decide (y ∈ outq)) :: markR m a 2049 (C) :: arenaR a A :: blkR T 25 #[.slice A0 n0 c0, .slice A1 n1 c1] :: []), (Instr.lookup 35 (.map (some mb)) (.int .i64 (xr : Int)) false).run Try.prog x.w' = .ok (.int .i64 0) x.w' := fun x => by
                    have := map_get refIntOk x.h 0 rfl (wfx (x := xr) (by omega))
                    rw [visM_at, HVX.out] at this
                    simpa using this
                  have yin : ∀ x : SepW w (mapR Try.prog 35 36 3 .i64 .i64 mb (rs.countP V) (visM V) :: rowR 36 1 (.slice AO Ln capo) out.length (nums out) :: adjR Try.prog 36 36 b (cutT (ptsOf fs) outq) :: rowR 36 1 (.slice AR Ln capr) Ln (nums out) :: rowR 36 1 (.slice (some ⟨g, 0, none⟩) Rn capl) Rn (nums rs) :: rowR 36 1 (.slice AQ Qn capq) Qn (nums outq) :: mapR Try.prog 35 36 3 .i64 .i64 mi (cn) (visM fun y => decide (y ∈ outq)) :: markR m a 2049 (C) :: arenaR a A :: blkR T 25 #[.slice A0 n0 c0, .slice A1 n1 c1] :: []), (Instr.lookup 35 (.map (some mi)) (.int .i64 (xr : Int)) false).run Try.prog x.w' = .ok (.int .i64 1) x.w' := fun x => by
                    have := map_get refIntOk x.h 6 rfl (wfx (x := xr) (by omega))
                    rw [visM_at, HIX.out] at this
                    simpa using this
                  repeat (go_big_quiet_step (first
                    | (go_at_call 27; exact sep_calls (HMK.out _ (SepW.h _)))))
                  refine wpQuiet_nil ?_
                  rintro wq ⟨⟨wqx, hs⟩, rfl⟩
                  clear ylk yin hne0
                  go_wp2
                  go_roundw
                  case rel => exact ⟨k + 1, by omega, by go_num, hs⟩
                  case measure => simp [intOf]; omega
                · have HMK := Lib.hid hmk
                  clear hmk
                  go_wp2
                  refine region_sep HSB.out (by kernel_rfl) (by kernel_rfl) ?_
                  intro hne0
                  have ylk : ∀ x : SepW w (mapR Try.prog 35 36 3 .i64 .i64 mb (rs.countP V) (visM V) :: rowR 36 1 (.slice AO Ln capo) out.length (nums out) :: adjR Try.prog 36 36 b (cutT (ptsOf fs) outq) :: rowR 36 1 (.slice AR Ln capr) Ln (nums out) :: rowR 36 1 (.slice (some ⟨g, 0, none⟩) Rn capl) Rn (nums rs) :: rowR 36 1 (.slice AQ Qn capq) Qn (nums outq) :: mapR Try.prog 35 36 3 .i64 .i64 mi (cn) (visM fun y => decide (y ∈ outq)) :: markR m a 2049 (C) :: arenaR a A :: blkR T 25 #[.slice A0 n0 c0, .slice A1 n1 c1] :: []), (Instr.lookup 35 (.map (some mb)) (.int .i64 (xr : Int)) false).run Try.prog x.w' = .ok (.int .i64 1) x.w' := fun x => by
                    have := map_get refIntOk x.h 0 rfl (wfx (x := xr) (by omega))
                    rw [visM_at, HVX.out] at this
                    simpa using this
                  have yin : ∀ x : SepW w (mapR Try.prog 35 36 3 .i64 .i64 mb (rs.countP V) (visM V) :: rowR 36 1 (.slice AO Ln capo) out.length (nums out) :: adjR Try.prog 36 36 b (cutT (ptsOf fs) outq) :: rowR 36 1 (.slice AR Ln capr) Ln (nums out) :: rowR 36 1 (.slice (some ⟨g, 0, none⟩) Rn capl) Rn (nums rs) :: rowR 36 1 (.slice AQ Qn capq) Qn (nums outq) :: mapR Try.prog 35 36 3 .i64 .i64 mi (cn) (visM fun y => decide (y ∈ outq)) :: markR m a 2049 (C) :: arenaR a A :: blkR T 25 #[.slice A0 n0 c0, .slice A1 n1 c1] :: []), (Instr.lookup 35 (.map (some mi)) (.int .i64 (xr : Int)) false).run Try.prog x.w' = .ok (.int .i64 0) x.w' := fun x => by
                    have := map_get refIntOk x.h 6 rfl (wfx (x := xr) (by omega))
                    rw [visM_at, HIX.out] at this
                    simpa using this
                  repeat (go_big_quiet_step (first
                    | (go_at_call 27; exact sep_calls (HMK.out _ (SepW.h _)))))
                  refine wpQuiet_nil ?_
                  rintro wq ⟨⟨wqx, hs⟩, rfl⟩
                  clear ylk yin hne0
                  go_wp2
                  go_roundw
                  case rel => exact ⟨k + 1, by omega, by go_num, hs⟩
                  case measure => simp [intOf]; omega
                · have HMK := Lib.hid hmk
                  clear hmk
                  go_wp2
                  refine region_sep HSB.out (by kernel_rfl) (by kernel_rfl) ?_
                  intro hne0
                  have ylk : ∀ x : SepW w (mapR Try.prog 35 36 3 .i64 .i64 mb (rs.countP V) (visM V) :: rowR 36 1 (.slice AO Ln capo) out.length (nums out) :: adjR Try.prog 36 36 b (cutT (ptsOf fs) outq) :: rowR 36 1 (.slice AR Ln capr) Ln (nums out) :: rowR 36 1 (.slice (some ⟨g, 0, none⟩) Rn capl) Rn (nums rs) :: rowR 36 1 (.slice AQ Qn capq) Qn (nums outq) :: mapR Try.prog 35 36 3 .i64 .i64 mi (cn) (visM fun y => decide (y ∈ outq)) :: markR m a 2049 (C) :: arenaR a A :: blkR T 25 #[.slice A0 n0 c0, .slice A1 n1 c1] :: []), (Instr.lookup 35 (.map (some mb)) (.int .i64 (xr : Int)) false).run Try.prog x.w' = .ok (.int .i64 1) x.w' := fun x => by
                    have := map_get refIntOk x.h 0 rfl (wfx (x := xr) (by omega))
                    rw [visM_at, HVX.out] at this
                    simpa using this
                  have yin : ∀ x : SepW w (mapR Try.prog 35 36 3 .i64 .i64 mb (rs.countP V) (visM V) :: rowR 36 1 (.slice AO Ln capo) out.length (nums out) :: adjR Try.prog 36 36 b (cutT (ptsOf fs) outq) :: rowR 36 1 (.slice AR Ln capr) Ln (nums out) :: rowR 36 1 (.slice (some ⟨g, 0, none⟩) Rn capl) Rn (nums rs) :: rowR 36 1 (.slice AQ Qn capq) Qn (nums outq) :: mapR Try.prog 35 36 3 .i64 .i64 mi (cn) (visM fun y => decide (y ∈ outq)) :: markR m a 2049 (C) :: arenaR a A :: blkR T 25 #[.slice A0 n0 c0, .slice A1 n1 c1] :: []), (Instr.lookup 35 (.map (some mi)) (.int .i64 (xr : Int)) false).run Try.prog x.w' = .ok (.int .i64 1) x.w' := fun x => by
                    have := map_get refIntOk x.h 6 rfl (wfx (x := xr) (by omega))
                    rw [visM_at, HIX.out] at this
                    simpa using this
                  repeat (go_big_quiet_step (first
                    | (go_at_call 27; exact sep_calls (HMK.out _ (SepW.h _)))))
                  refine wpQuiet_nil ?_
                  rintro wq ⟨⟨wqx, hs⟩, rfl⟩
                  clear ylk yin hne0
                  go_wp2
                  go_roundw
                  case rel => exact ⟨k + 1, by omega, by go_num, hs⟩
                  case measure => simp [intOf]; omega
              · obtain rfl : Rn = k := by omega
                have HC := Lib.hid (KDrained hs 7 rfl)
                clear hs
                go_wp2_with (go_at_call 41; refine (HC.out).mono ?_; rintro e w9 ⟨bb, rfl, hb, hs⟩; obtain rfl : bb = true := hb.2 HNO.out; have HS9 := Lib.hid hs; clear hs hb HC)
                go_ret
                exact ⟨rfl, HS9.out.below⟩
  · by_cases hsm : n0 ≤ 40 ∧ n1 ≤ 120
    · have HSD := Lib.hid (show (decide (n0 ≤ 40) && decide (n1 ≤ 120)) = true by rw [decide_eq_true hsm.1, decide_eq_true hsm.2]; rfl)
      have hgt : (30 : Int) < (n3 : Int) + (n2 : Int) := by omega
      clear hsm hsmall
      go_wp2_with (first
        | (go_at_call 42; refine (fit11 _).mono ?_; rintro e w1 ⟨rfl, hC⟩; have hs1 := HS0.out.same hC; have p0 := (hs1.blk 0 rfl).cell 0; have p1 := (hs1.blk 0 rfl).cell 1; simp only [List.getElem?_toArray, List.getElem?_cons_zero, List.getElem?_cons_succ] at p0 p1; have HS1 := Lib.hid hs1; clear hC hs1 HS0)
        | (go_at_call 17; refine (Small11 _ A0 n0 c0 A1 n1 c1).mono ?_; rw [HSD.out]; rintro e w2 ⟨rfl, hC⟩; have HS2 := Lib.hid (HS1.out.same hC); clear hC HS1))
      go_ret
      exact ⟨rfl, HS2.out.below⟩
    · have HSD := Lib.hid (show (decide (n0 ≤ 40) && decide (n1 ≤ 120)) = false by
        rw [Bool.and_eq_false_iff]
        by_cases h : n0 ≤ 40
        · exact .inr (decide_eq_false fun h2 => hsm ⟨h, h2⟩)
        · exact .inl (decide_eq_false h))
      clear hsm hsmall
      go_wp2_with (first
        | (go_at_call 42; refine (fit11 _).mono ?_; rintro e w1 ⟨rfl, hC⟩; have hs1 := HS0.out.same hC; have p0 := (hs1.blk 0 rfl).cell 0; have p1 := (hs1.blk 0 rfl).cell 1; simp only [List.getElem?_toArray, List.getElem?_cons_zero, List.getElem?_cons_succ] at p0 p1; have HS1 := Lib.hid hs1; clear hC hs1 HS0)
        | (go_at_call 17; refine (Small11 _ A0 n0 c0 A1 n1 c1).mono ?_; rw [HSD.out]; rintro e w2 ⟨rfl, hC⟩; have HS2 := Lib.hid (HS1.out.same hC); clear hC HS1))
      go_ret
      exact ⟨rfl, HS2.out.below⟩
end Go.Proofs.Ytacebfocfpbkdaa
