/-
  Parts of the proof, joined: DijkstraRunsW. Conditions: as each part says.
-/
import Derived.Test.YtacebfocfpbkdaaL5
import Derived.Test.YtacebfocfpbkdaaL1

/-
  The walk of DijkstraRuns. Conditions: as the theorem says.
-/
namespace Go.Proofs.Ytacebfocfpbkdaa
set_option linter.unusedVariables false
set_option linter.unusedSimpArgs false
open Go.RowKit Go.Shelf

set_option maxRecDepth 100000 in
set_option maxHeartbeats 16000000 in
theorem dijkstraRuns_walk (A0 : Option Addr) (n0 c0 : Nat) (D0 : Nat → Nat → Int) (A1 : Option Addr) (n1 c1 : Nat) (D1 : Nat → Nat → Int) (A2 : Option Addr) (n2 c2 : Nat) (D2 : Nat → Nat → Int) (A3 : Option Addr) (n3 c3 : Nat) (D3 : Nat → Nat → Int) (w : World) (hz0 : ArgI w A0 n0 [.u8] D0) (hm0 : n0 ≤ maxLen) (hz1 : ArgI w A1 n1 [.u16, .u16, .u16] D1) (hm1 : n1 ≤ maxLen) (hz2 : ArgI w A2 n2 [.u8] D2) (hm2 : n2 ≤ maxLen) (hz3 : ArgI w A3 n3 [.u8, .u8] D3) (hm3 : n3 ≤ maxLen) :
    Calls Try.prog 3 #[.agg #[.slice A0 n0 c0, .slice A1 n1 c1], .slice A2 n2 c2, .slice A3 n3 c3] w fun e w' => e = .returned (.bool true) ∧ Below w.heap.size w w' := by
  have HZ0 := Lib.hid hz0
  have HZ1 := Lib.hid hz1
  have HZ2 := Lib.hid hz2
  have HZ3 := Lib.hid hz3
  unfold maxLen at hm0 hm1
  try unfold maxLen at hm2
  try unfold maxLen at hm3
  clear hz0 hz1 hz2 hz3
  obtain ⟨T, hT⟩ : ∃ T, w.heap.size = T := ⟨_, rfl⟩
  have hs0 := (Sep.start w).box #[.slice A0 n0 c0, .slice A1 n1 c1] 25
  rw [hT] at hs0
  have HS0 := Lib.hid hs0
  clear hs0
  have hmm := @run_makeMap Try.prog
  go_enter Try.func3, Try.ntmps3
  by_cases hsmall : (n0 ≤ 40 ∧ n1 ≤ 120) ∧ n3 ≤ 40
  · have hsd : (decide (n0 ≤ 40) && decide (n1 ≤ 120)) = true := by rw [decide_eq_true hsmall.1.1, decide_eq_true hsmall.1.2]; rfl
    have HSD := Lib.hid hsd
    obtain ⟨⟨hn0, hn1⟩, hn2⟩ := hsmall
    clear hsd
    have hgt : ¬ (40 : Int) < (n3 : Int) := by omega
    go_wp2_with (first
      | (go_at_call 16; refine (fit13 _).mono ?_; rintro e w1 ⟨rfl, hC⟩; have hs1 := HS0.out.same hC; have p0 := (hs1.blk 0 rfl).cell 0; have p1 := (hs1.blk 0 rfl).cell 1; simp only [List.getElem?_toArray, List.getElem?_cons_zero, List.getElem?_cons_succ] at p0 p1; have HS1 := Lib.hid hs1; clear hC hs1 HS0)
      | (go_at_call 17; refine (Small11 _ A0 n0 c0 A1 n1 c1).mono ?_; rw [HSD.out]; rintro e w2 ⟨rfl, hC⟩; have hs1 := HS1.out.same hC; have p0 := (hs1.blk 0 rfl).cell 0; have p1 := (hs1.blk 0 rfl).cell 1; simp only [List.getElem?_toArray, List.getElem?_cons_zero, List.getElem?_cons_succ] at p0 p1; have HS2 := Lib.hid hs1; clear hC hs1 HS1)
      | (go_at_call 18; refine (Made11 A0 n0 c0 D0 A1 n1 c1 D1 HZ0.out HZ1.out hn0 hn1 HS2.out).mono ?_; rintro e w3 ⟨a, b, v, A, rs, fs, rfl, hgr, hlen, hs⟩; have p0 := (hs.blk 3 rfl).cell 0; have p1 := (hs.blk 3 rfl).cell 1; simp only [List.getElem?_toArray, List.getElem?_cons_zero, List.getElem?_cons_succ] at p0 p1; have HGR := Lib.hid hgr; obtain ⟨AL, capl, rfl, hcapl, hmcapl⟩ := hs.rowShape 1 rfl; unfold maxLen at hmcapl; obtain ⟨Rn, hRn⟩ : ∃ Rn, rs.length = Rn := ⟨_, rfl⟩; have HRN := Lib.hid hRn; rw [hRn] at hcapl hs; try rw [hRn]; rw [hRn] at hlen; have hl40 : Rn ≤ 40 := (by omega); have HLEN := Lib.hid hlen; have HS3 := Lib.hid hs; clear hs hgr HS2 hRn hlen)
      | (go_at_call 19; refine (KNew HS3.out 0 rfl HGR.out.size (by omega) 64 (by omega)).mono ?_; rintro e w4 ⟨m, rfl, hs⟩; obtain ⟨mi, hmi⟩ : ∃ mi, w4.heap.size = mi := ⟨_, rfl⟩; have hs5 := hs.newMap Try.prog 35 36 3 .i64 .i64; rw [hmi] at hs5; have HS4 := Lib.hid (show Sep w (w4.alloc (.map #[] 0)) (mapR Try.prog 35 36 3 .i64 .i64 mi (0) (fun _ => none) :: markR m a 2049 (Col.white) :: arenaR a A :: rowR 36 1 (.slice AL Rn capl) Rn (nums rs) :: adjR Try.prog 36 36 b (ptsOf fs) :: blkR T 25 #[.slice A0 n0 c0, .slice A1 n1 c1] :: []) from hs5); clear hs hs5 HS3))
    try simp only [hmi]
    clear hmi hmm
    go_loopw [42] (fun i wr => ∃ (k : Nat) (cn : Nat) (M : Int → Option Int) (C : Col), k ≤ Rn ∧ i = .int .i64 k ∧ cn ≤ k ∧ ColM M C ∧ (∀ x, C.sc x = true → C.mz x = true) ∧ (∀ x, C.mz x = true → x ∈ rs.take k) ∧ Sep w wr (mapR Try.prog 35 36 3 .i64 .i64 mi (cn) (M) :: markR m a 2049 (C) :: arenaR a A :: rowR 36 1 (.slice AL Rn capl) Rn (nums rs) :: adjR Try.prog 36 36 b (ptsOf fs) :: blkR T 25 #[.slice A0 n0 c0, .slice A1 n1 c1] :: [])) (fun i _ => Rn + 1 - (intOf i).toNat)
    case atStart => exact ⟨0, 0, _, Col.white, by omega, rfl, by omega, colM_none, (fun _ h => by cases h), (fun _ h => by cases h), HS4.out⟩
    case round =>
      clear HS4
      obtain ⟨k, cn, M, C, hk, rfl, hcn, hcm, hsu, hin, hs⟩ := hrel
      by_cases hlt : k < Rn
      · have hltI : (k : Int) < (Rn : Int) := by omega
        obtain ⟨x, hx⟩ : ∃ z_, rs[k]? = some z_ := ⟨_, List.getElem?_eq_getElem (by rw [HRN.out]; exact hlt)⟩
        obtain ⟨g, cap', hsl, _, _⟩ := hs.rowSome 3 rfl (by omega)
        simp only [Value.slice.injEq] at hsl
        obtain ⟨rfl, _, rfl⟩ := hsl
        have cx := hs.rowCell 3 rfl k _ (nums_get _ _ _ hx)
        have hown := hs.own
        have hx2 := HGR.out.lt (List.mem_of_getElem? hx)
        have HTK := Lib.hid (show rs.take (k + 1) = rs.take k ++ [x] by rw [List.take_add_one, hx]; rfl)
        have HCM := Lib.hid hcm
        have HSU := Lib.hid hsu
        have HINV := Lib.hid hin
        have hnm : C.mz x = false := by
          cases e : C.mz x with
          | false => rfl
          | true => exact absurd (hin x e) (nodup_take HGR.out.nodup hx)
        have HNS := Lib.hid (show C.sc x = false from by
          cases e : C.sc x with
          | false => rfl
          | true => rw [hsu x e] at hnm; cases hnm)
        clear hcm hsu hin hx hnm
        by_cases hlt2 : k < n2
        · have hltI2 : (k : Int) < (n2 : Int) := by omega
          obtain ⟨ab, ao, hA0, hcell⟩ := HZ2.out.at_ hown hlt2
          subst hA0
          have hc0 := hcell 0 _ rfl
          have hwf := wf8 (HZ2.out.wf hlt2 0 .u8 rfl)
          simp at hc0
          obtain ⟨d0, h0⟩ : ∃ d, D2 k 0 = d := ⟨_, rfl⟩
          rw [h0] at hc0 hwf
          clear hcell h0
          obtain ⟨q, hq, hql⟩ : ∃ q : Nat, d0 % 3 = (q : Int) ∧ q ≤ 2 := ⟨(d0 % 3).toNat, by omega, by omega⟩
          have hqt : d0.tmod 3 = (q : Int) := by rw [Int.tmod_eq_emod_of_nonneg (by omega)]; exact hq
          clear hq hown
          have hq3 : q = 0 ∨ q = 1 ∨ q = 2 := by omega
          rcases hq3 with rfl | rfl | rfl
          · have HSK := Lib.hid hs
            clear hs
            go_wp2
            go_roundw
            case rel => exact ⟨k + 1, cn, M, C, by omega, by go_num, by omega, HCM.out, HSU.out, fun y hy => by
                rw [HTK.out, List.mem_append]
                exact .inl (HINV.out y hy), HSK.out⟩
            case measure => simp [intOf]; omega
          · have HC := Lib.hid (KShade hs 1 rfl x hx2.1 hx2.2)
            clear hs
            go_wp2_with (first
              | (go_at_call 20; refine (HC.out).mono ?_; rintro e w7 ⟨rfl, hs⟩; obtain ⟨w8, hput, hs8⟩ := map_put refIntOk hs 0 rfl (by unfold maxLen; omega) (wfx (x := x) (by omega)) (c := 1) (by decide); obtain ⟨cn2, hcn2⟩ : ∃ c, (if (M (x : Int)).isSome = true then cn else cn + 1) = c := ⟨_, rfl⟩; have hcn2l : cn2 ≤ cn + 1 := (by rw [← hcn2]; split <;> omega); rw [hcn2] at hs8; have HS8 := Lib.hid hs8; have HP := Lib.hid hput; clear hs hs8 hput hcn2; clear HC)
              | (at_mapUpdate; refine wpList_mapUpdate_run rfl _ _ _ _ rfl rfl rfl rfl HP.out ?_; clear HP))
            go_roundw
            case rel => exact ⟨k + 1, cn2, _, C.shade x, by omega, by go_num, by omega, HCM.out.upd (by rw [colN_shade_self, if_neg (by rw [HNS.out]; decide)]; rfl) (fun y hy => colN_shade_other C hy), sub_shade HSU.out x, fun y hy => by
                have hy' : (C.mz y || decide (y = x)) = true := hy
                simp only [Bool.or_eq_true, decide_eq_true_eq] at hy'
                rw [HTK.out, List.mem_append]
                rcases hy' with h | h
                · exact .inl (HINV.out y h)
                · exact .inr (by simp [h]), HS8.out⟩
            case measure => simp [intOf]; omega
          · have HC := Lib.hid (KBlacken hs 1 rfl x hx2.1 hx2.2)
            clear hs
            go_wp2_with (first
              | (go_at_call 21; refine (HC.out).mono ?_; rintro e w7 ⟨rfl, hs⟩; obtain ⟨w8, hput, hs8⟩ := map_put refIntOk hs 0 rfl (by unfold maxLen; omega) (wfx (x := x) (by omega)) (c := 2) (by decide); obtain ⟨cn2, hcn2⟩ : ∃ c, (if (M (x : Int)).isSome = true then cn else cn + 1) = c := ⟨_, rfl⟩; have hcn2l : cn2 ≤ cn + 1 := (by rw [← hcn2]; split <;> omega); rw [hcn2] at hs8; have HS8 := Lib.hid hs8; have HP := Lib.hid hput; clear hs hs8 hput hcn2; clear HC)
              | (at_mapUpdate; refine wpList_mapUpdate_run rfl _ _ _ _ rfl rfl rfl rfl HP.out ?_; clear HP))
            go_roundw
            case rel => exact ⟨k + 1, cn2, _, C.black x, by omega, by go_num, by omega, HCM.out.upd (by rw [colN_black_self]; rfl) (fun y hy => colN_black_other C hy), sub_black HSU.out x, fun y hy => by
                have hy' : (C.mz y || decide (y = x)) = true := hy
                simp only [Bool.or_eq_true, decide_eq_true_eq] at hy'
                rw [HTK.out, List.mem_append]
                rcases hy' with h | h
                · exact .inl (HINV.out y h)
                · exact .inr (by simp [h]), HS8.out⟩
            case measure => simp [intOf]; omega
        · have hltI2 : ¬ (k : Int) < (n2 : Int) := by omega
          have HSK := Lib.hid hs
          clear hs hown
          go_wp2
          go_roundw
          case rel => exact ⟨k + 1, cn, M, C, by omega, by go_num, by omega, HCM.out, HSU.out, fun y hy => by
              rw [HTK.out, List.mem_append]
              exact .inl (HINV.out y hy), HSK.out⟩
          case measure => simp [intOf]; omega
      · obtain rfl : Rn = k := by omega
        have HCM := Lib.hid hcm
        have HSU := Lib.hid hsu
        have HC := Lib.hid (DNew hs m)
        clear hs hcm hsu hin
        go_wp2_with (go_at_call 22; refine (HC.out).mono ?_; rintro e w5 ⟨bb, rfl, hs⟩; have HS5 := Lib.hid (show Sep w w5 (dijR bb m :: mapR Try.prog 35 36 3 .i64 .i64 mi (cn) (M) :: markR m a 2049 (C) :: arenaR a A :: rowR 36 1 (.slice AL Rn capl) Rn (nums rs) :: adjR Try.prog 36 36 b (ptsOf fs) :: blkR T 25 #[.slice A0 n0 c0, .slice A1 n1 c1] :: []) from hs); clear hs HC)
        go_loopw [75] (fun i wr => ∃ (k cn : Nat) (M : Int → Option Int) (C : Col), k ≤ n3 ∧ i = .int .i64 k ∧ cn ≤ 100 + k ∧ ColM M C ∧ (∀ x, C.sc x = true → C.mz x = true) ∧ Sep w wr (dijR bb m :: mapR Try.prog 35 36 3 .i64 .i64 mi (cn) (M) :: markR m a 2049 (C) :: arenaR a A :: rowR 36 1 (.slice AL Rn capl) Rn (nums rs) :: adjR Try.prog 36 36 b (ptsOf fs) :: blkR T 25 #[.slice A0 n0 c0, .slice A1 n1 c1] :: [])) (fun i _ => n3 + 1 - (intOf i).toNat)
        case atStart => exact ⟨0, cn, M, C, by omega, rfl, by omega, HCM.out, HSU.out, HS5.out⟩
        case round =>
          clear HS5 HCM HSU
          obtain ⟨k, cn, M, C, hk, rfl, hcn, hcm, hsu, hs⟩ := hrel
          have hown := hs.own
          by_cases hlt : k < n3
          · have hltI : (k : Int) < (n3 : Int) := by omega
            rcases Nat.eq_zero_or_pos Rn with hk0 | hkp
            · obtain ⟨ab, ao, hA0, hcell⟩ := HZ3.out.at_ hown hlt
              subst hA0
              have hc0 := hcell 0 _ rfl
              have hw0 := wf8 (HZ3.out.wf hlt 0 .u8 rfl)
              have hc1 := hcell 1 _ rfl
              have hw1 := wf8 (HZ3.out.wf hlt 1 .u8 rfl)
              simp at hc0 hc1
              obtain ⟨d0, h0⟩ : ∃ d, D3 k 0 = d := ⟨_, rfl⟩
              rw [h0] at hc0 hw0
              obtain ⟨d1, h1⟩ : ∃ d, D3 k 1 = d := ⟨_, rfl⟩
              rw [h1] at hc1 hw1
              clear hcell h0 h1
              have hkI : (Rn : Int) = 0 := by omega
              have hkb : ((Rn : Int) == 0) = true := by simpa using hkI
              have HSE := Lib.hid (hs.box #[.int .u8 d0, .int .u8 d1] 41).tail
              have HCM := Lib.hid hcm
              have HSU := Lib.hid hsu
              clear hs hown hk0 hcm hsu
              go_wp2_with (first
                | (go_at_call 25; refine (DRemark _ bb).mono ?_; rintro e w8 ⟨rfl, rfl⟩)
                | (go_at_call 26; refine (DReset _ bb).mono ?_; rintro e w9 ⟨rfl, rfl⟩))
              go_loopw [135] (fun i wr => ∃ (k : Nat), k ≤ Rn ∧ i = .int .i64 k ∧ Sep w wr (dijR bb m :: mapR Try.prog 35 36 3 .i64 .i64 mi (cn) (M) :: markR m a 2049 (C) :: arenaR a A :: rowR 36 1 (.slice AL Rn capl) Rn (nums rs) :: adjR Try.prog 36 36 b (ptsOf fs) :: blkR T 25 #[.slice A0 n0 c0, .slice A1 n1 c1] :: [])) (fun i _ => Rn + 1 - (intOf i).toNat)
              case atStart => exact ⟨0, by omega, rfl, HSE.out⟩
              case round =>
                clear HSE
                obtain ⟨k, hk, rfl, hs⟩ := hrel
                by_cases hlt : k < Rn
                · have hltI : (k : Int) < (Rn : Int) := by omega
                  obtain ⟨xr, hx⟩ : ∃ z_, rs[k]? = some z_ := ⟨_, List.getElem?_eq_getElem (by rw [HRN.out]; exact hlt)⟩
                  obtain ⟨g, cap', hsl, _, _⟩ := hs.rowSome 4 rfl (by omega)
                  simp only [Value.slice.injEq] at hsl
                  obtain ⟨rfl, _, rfl⟩ := hsl
                  have cx := hs.rowCell 4 rfl k _ (nums_get _ _ _ hx)
                  exact absurd hltI (by omega)
                · obtain rfl : Rn = k := by omega
                  have HS9 := Lib.hid hs
                  clear hs
                  go_wp2
                  go_ret
                  exact ⟨rfl, HS9.out.below⟩
            have hkz : ¬ (Rn : Int) = 0 := by omega
            have hkb : ((Rn : Int) == 0) = false := by simp; omega
            obtain ⟨ab, ao, hA0, hcell⟩ := HZ3.out.at_ hown hlt
            subst hA0
            have hc0 := hcell 0 _ rfl
            have hw0 := wf8 (HZ3.out.wf hlt 0 .u8 rfl)
            have hc1 := hcell 1 _ rfl
            have hw1 := wf8 (HZ3.out.wf hlt 1 .u8 rfl)
            simp at hc0 hc1
            obtain ⟨d0, h0⟩ : ∃ d, D3 k 0 = d := ⟨_, rfl⟩
            rw [h0] at hc0 hw0
            obtain ⟨d1, h1⟩ : ∃ d, D3 k 1 = d := ⟨_, rfl⟩
            rw [h1] at hc1 hw1
            clear hcell h0 h1
            obtain ⟨g, cap', hsl, _, _⟩ := hs.rowSome 4 rfl hkp
            simp only [Value.slice.injEq] at hsl
            obtain ⟨rfl, _, rfl⟩ := hsl
            obtain ⟨K1, um, ul⟩ : ∃ K1 : Nat, d0.tmod (Rn : Int) = (K1 : Int) ∧ K1 < Rn := by
              have h1 := Int.emod_nonneg d0 (show (Rn : Int) ≠ 0 by omega)
              have h2 := Int.emod_lt_of_pos d0 (show (0 : Int) < (Rn : Int) by omega)
              refine ⟨(d0 % (Rn : Int)).toNat, ?_, by omega⟩
              rw [Int.tmod_eq_emod_of_nonneg (by omega)]
              omega
            have uI : (K1 : Int) < (Rn : Int) := by omega
            have u0 : (0 : Int) ≤ (K1 : Int) := by omega
            obtain ⟨K2, vm, vl⟩ : ∃ K2 : Nat, d1.tmod (Rn : Int) = (K2 : Int) ∧ K2 < Rn := by
              have h1 := Int.emod_nonneg d1 (show (Rn : Int) ≠ 0 by omega)
              have h2 := Int.emod_lt_of_pos d1 (show (0 : Int) < (Rn : Int) by omega)
              refine ⟨(d1 % (Rn : Int)).toNat, ?_, by omega⟩
              rw [Int.tmod_eq_emod_of_nonneg (by omega)]
              omega
            have vI : (K2 : Int) < (Rn : Int) := by omega
            have v0 : (0 : Int) ≤ (K2 : Int) := by omega
            obtain ⟨rx, hx⟩ : ∃ x, rs[K1]? = some x := ⟨_, List.getElem?_eq_getElem (by rw [HRN.out]; exact ul)⟩
            obtain ⟨ry, hy⟩ : ∃ x, rs[K2]? = some x := ⟨_, List.getElem?_eq_getElem (by rw [HRN.out]; exact vl)⟩
            have hy2 := HGR.out.lt (List.mem_of_getElem? hy)
            have HX := Lib.hid hx
            have HY := Lib.hid hy
            obtain ⟨T5, hT5⟩ : ∃ T5, wr.heap.size = T5 := ⟨_, rfl⟩
            have hsb := hs.box #[.int .u8 d0, .int .u8 d1] 41
            rw [hT5] at hsb
            have HSB := Lib.hid hsb
            obtain ⟨c, hc, hc2⟩ : ∃ c, colN C ry = c ∧ c ≤ 2 := ⟨_, rfl, colN_le C ry⟩
            have HCC := Lib.hid hc
            have HCM := Lib.hid hcm
            have HSU := Lib.hid hsu
            clear hs hsb hx hy hown hc hcm hsu
            have hc3 : c = 0 ∨ c = 1 ∨ c = 2 := by omega
            clear hc2
            rcases hc3 with rfl | rfl | rfl
            · go_wp2
              refine region_sep HSB.out (by kernel_rfl) (by kernel_rfl) ?_
              intro hne0
              have yz0 : ∀ x : SepW w (blkR T5 41 #[.int .u8 d0, .int .u8 d1] :: dijR bb m :: mapR Try.prog 35 36 3 .i64 .i64 mi (cn) (M) :: markR m a 2049 (C) :: arenaR a A :: rowR 36 1 (.slice (some ⟨g, 0, none⟩) Rn capl) Rn (nums rs) :: adjR Try.prog 36 36 b (ptsOf fs) :: blkR T 25 #[.slice A0 n0 c0, .slice A1 n1 c1] :: []), x.w'.cell? ⟨T5, 0, none⟩ = some (.int .u8 d0) := fun x => by
                have := (x.h.blk 0 rfl).cell 0
                simpa using this
              have yz1 : ∀ x : SepW w (blkR T5 41 #[.int .u8 d0, .int .u8 d1] :: dijR bb m :: mapR Try.prog 35 36 3 .i64 .i64 mi (cn) (M) :: markR m a 2049 (C) :: arenaR a A :: rowR 36 1 (.slice (some ⟨g, 0, none⟩) Rn capl) Rn (nums rs) :: adjR Try.prog 36 36 b (ptsOf fs) :: blkR T 25 #[.slice A0 n0 c0, .slice A1 n1 c1] :: []), x.w'.cell? ⟨T5, 1, none⟩ = some (.int .u8 d1) := fun x => by
                have := (x.h.blk 0 rfl).cell 1
                simpa using this
              have yx : ∀ x : SepW w (blkR T5 41 #[.int .u8 d0, .int .u8 d1] :: dijR bb m :: mapR Try.prog 35 36 3 .i64 .i64 mi (cn) (M) :: markR m a 2049 (C) :: arenaR a A :: rowR 36 1 (.slice (some ⟨g, 0, none⟩) Rn capl) Rn (nums rs) :: adjR Try.prog 36 36 b (ptsOf fs) :: blkR T 25 #[.slice A0 n0 c0, .slice A1 n1 c1] :: []), x.w'.cell? ⟨g, K1, none⟩ = some (.int .i64 (rx : Int)) := fun x => x.h.rowCell 5 rfl K1 _ (nums_get _ _ _ HX.out)
              have yy : ∀ x : SepW w (blkR T5 41 #[.int .u8 d0, .int .u8 d1] :: dijR bb m :: mapR Try.prog 35 36 3 .i64 .i64 mi (cn) (M) :: markR m a 2049 (C) :: arenaR a A :: rowR 36 1 (.slice (some ⟨g, 0, none⟩) Rn capl) Rn (nums rs) :: adjR Try.prog 36 36 b (ptsOf fs) :: blkR T 25 #[.slice A0 n0 c0, .slice A1 n1 c1] :: []), x.w'.cell? ⟨g, K2, none⟩ = some (.int .i64 (ry : Int)) := fun x => x.h.rowCell 5 rfl K2 _ (nums_get _ _ _ HY.out)
              repeat (go_big_quiet_step (fail))
              refine wpQuiet_nil ?_
              rintro wq ⟨⟨wqx, hs⟩, rfl⟩
              clear yz0 yz1 yx yy hne0
              have z0 := (hs.blk 0 rfl).cell 0
              have z1 := (hs.blk 0 rfl).cell 1
              simp only [List.getElem?_toArray, List.getElem?_cons_zero, List.getElem?_cons_succ] at z0 z1
              have HS6 := Lib.hid hs
              have hx1 := and_1 d0
              have hx2 := and_1 d1
              clear hs
              go_wp2_with (first
                | (go_at_call 23; refine (DPre _ bb (rx : Int) (ry : Int)).mono ?_; rintro e w6 ⟨rfl, rfl⟩)
                | (go_at_call 24; refine (DPost HS6.out 1 3 rfl rfl (rx : Int) (rx : Int) ry _ _ hy2.1 hy2.2).mono ?_; rintro e w7 ⟨rfl, hs⟩; have HC3 := Lib.hid (DPostNil hs 1 rfl (m := m) 0 (rx : Int) false false); clear hs HS6 z0 z1 hx1 hx2)
                | (go_at_call 24; refine (HC3.out).mono ?_; rintro e w8 ⟨rfl, hs⟩; have hlk := map_get refIntOk hs 2 rfl (wfx (x := ry) (by omega)); rw [HCM.out ry, HCC.out] at hlk; have HLK := Lib.hid hlk; obtain ⟨w8, hput, hs8⟩ := map_put refIntOk hs.tail 1 rfl (by unfold maxLen; omega) (wfx (x := ry) (by omega)) (c := (1 : Int)) (by decide); obtain ⟨cn2, hcn2⟩ : ∃ c, (if (M (ry : Int)).isSome = true then cn else cn + 1) = c := ⟨_, rfl⟩; have hcn2l : cn2 ≤ cn + 1 := (by rw [← hcn2]; split <;> omega); rw [hcn2] at hs8; have HS8 := Lib.hid hs8; have HP := Lib.hid hput; clear hs hs8 hput hcn2; clear HC3 hlk)
                | (at_lookup; refine wpList_lookup_run rfl _ _ _ _ rfl rfl rfl HLK.out ?_; clear HLK)
                | (at_mapUpdate; refine wpList_mapUpdate_run rfl _ _ _ _ rfl rfl rfl rfl HP.out ?_; clear HP))
              go_roundw
              case rel => exact ⟨k + 1, cn2, _, C.shade ry, by omega, by go_num, by omega, HCM.out.upd (by rw [colN_shade_max, HCC.out]; rfl) (fun y hy => colN_shade_other C hy), sub_shade HSU.out ry, HS8.out⟩
              case measure => simp [intOf]; omega
            · go_wp2
              refine region_sep HSB.out (by kernel_rfl) (by kernel_rfl) ?_
              intro hne0
              have yz0 : ∀ x : SepW w (blkR T5 41 #[.int .u8 d0, .int .u8 d1] :: dijR bb m :: mapR Try.prog 35 36 3 .i64 .i64 mi (cn) (M) :: markR m a 2049 (C) :: arenaR a A :: rowR 36 1 (.slice (some ⟨g, 0, none⟩) Rn capl) Rn (nums rs) :: adjR Try.prog 36 36 b (ptsOf fs) :: blkR T 25 #[.slice A0 n0 c0, .slice A1 n1 c1] :: []), x.w'.cell? ⟨T5, 0, none⟩ = some (.int .u8 d0) := fun x => by
                have := (x.h.blk 0 rfl).cell 0
                simpa using this
              have yz1 : ∀ x : SepW w (blkR T5 41 #[.int .u8 d0, .int .u8 d1] :: dijR bb m :: mapR Try.prog 35 36 3 .i64 .i64 mi (cn) (M) :: markR m a 2049 (C) :: arenaR a A :: rowR 36 1 (.slice (some ⟨g, 0, none⟩) Rn capl) Rn (nums rs) :: adjR Try.prog 36 36 b (ptsOf fs) :: blkR T 25 #[.slice A0 n0 c0, .slice A1 n1 c1] :: []), x.w'.cell? ⟨T5, 1, none⟩ = some (.int .u8 d1) := fun x => by
                have := (x.h.blk 0 rfl).cell 1
                simpa using this
              have yx : ∀ x : SepW w (blkR T5 41 #[.int .u8 d0, .int .u8 d1] :: dijR bb m :: mapR Try.prog 35 36 3 .i64 .i64 mi (cn) (M) :: markR m a 2049 (C) :: arenaR a A :: rowR 36 1 (.slice (some ⟨g, 0, none⟩) Rn capl) Rn (nums rs) :: adjR Try.prog 36 36 b (ptsOf fs) :: blkR T 25 #[.slice A0 n0 c0, .slice A1 n1 c1] :: []), x.w'.cell? ⟨g, K1, none⟩ = some (.int .i64 (rx : Int)) := fun x => x.h.rowCell 5 rfl K1 _ (nums_get _ _ _ HX.out)
              have yy : ∀ x : SepW w (blkR T5 41 #[.int .u8 d0, .int .u8 d1] :: dijR bb m :: mapR Try.prog 35 36 3 .i64 .i64 mi (cn) (M) :: markR m a 2049 (C) :: arenaR a A :: rowR 36 1 (.slice (some ⟨g, 0, none⟩) Rn capl) Rn (nums rs) :: adjR Try.prog 36 36 b (ptsOf fs) :: blkR T 25 #[.slice A0 n0 c0, .slice A1 n1 c1] :: []), x.w'.cell? ⟨g, K2, none⟩ = some (.int .i64 (ry : Int)) := fun x => x.h.rowCell 5 rfl K2 _ (nums_get _ _ _ HY.out)
              repeat (go_big_quiet_step (fail))
              refine wpQuiet_nil ?_
              rintro wq ⟨⟨wqx, hs⟩, rfl⟩
              clear yz0 yz1 yx yy hne0
              have z0 := (hs.blk 0 rfl).cell 0
              have z1 := (hs.blk 0 rfl).cell 1
              simp only [List.getElem?_toArray, List.getElem?_cons_zero, List.getElem?_cons_succ] at z0 z1
              have HS6 := Lib.hid hs
              have hx1 := and_1 d0
              have hx2 := and_1 d1
              clear hs
              go_wp2_with (first
                | (go_at_call 23; refine (DPre _ bb (rx : Int) (ry : Int)).mono ?_; rintro e w6 ⟨rfl, rfl⟩)
                | (go_at_call 24; refine (DPost HS6.out 1 3 rfl rfl (rx : Int) (rx : Int) ry _ _ hy2.1 hy2.2).mono ?_; rintro e w7 ⟨rfl, hs⟩; have HC3 := Lib.hid (DPostNil hs 1 rfl (m := m) 0 (rx : Int) false false); clear hs HS6 z0 z1 hx1 hx2)
                | (go_at_call 24; refine (HC3.out).mono ?_; rintro e w8 ⟨rfl, hs⟩; have hlk := map_get refIntOk hs 2 rfl (wfx (x := ry) (by omega)); rw [HCM.out ry, HCC.out] at hlk; have HLK := Lib.hid hlk; obtain ⟨w8, hput, hs8⟩ := map_put refIntOk hs.tail 1 rfl (by unfold maxLen; omega) (wfx (x := ry) (by omega)) (c := (1 : Int)) (by decide); obtain ⟨cn2, hcn2⟩ : ∃ c, (if (M (ry : Int)).isSome = true then cn else cn + 1) = c := ⟨_, rfl⟩; have hcn2l : cn2 ≤ cn + 1 := (by rw [← hcn2]; split <;> omega); rw [hcn2] at hs8; have HS8 := Lib.hid hs8; have HP := Lib.hid hput; clear hs hs8 hput hcn2; clear HC3 hlk)
                | (at_lookup; refine wpList_lookup_run rfl _ _ _ _ rfl rfl rfl HLK.out ?_; clear HLK)
                | (at_mapUpdate; refine wpList_mapUpdate_run rfl _ _ _ _ rfl rfl rfl rfl HP.out ?_; clear HP))
              go_roundw
              case rel => exact ⟨k + 1, cn2, _, C.shade ry, by omega, by go_num, by omega, HCM.out.upd (by rw [colN_shade_max, HCC.out]; rfl) (fun y hy => colN_shade_other C hy), sub_shade HSU.out ry, HS8.out⟩
              case measure => simp [intOf]; omega
            · go_wp2
              refine region_sep HSB.out (by kernel_rfl) (by kernel_rfl) ?_
              intro hne0
              have yz0 : ∀ x : SepW w (blkR T5 41 #[.int .u8 d0, .int .u8 d1] :: dijR bb m :: mapR Try.prog 35 36 3 .i64 .i64 mi (cn) (M) :: markR m a 2049 (C) :: arenaR a A :: rowR 36 1 (.slice (some ⟨g, 0, none⟩) Rn capl) Rn (nums rs) :: adjR Try.prog 36 36 b (ptsOf fs) :: blkR T 25 #[.slice A0 n0 c0, .slice A1 n1 c1] :: []), x.w'.cell? ⟨T5, 0, none⟩ = some (.int .u8 d0) := fun x => by
                have := (x.h.blk 0 rfl).cell 0
                simpa using this
              have yz1 : ∀ x : SepW w (blkR T5 41 #[.int .u8 d0, .int .u8 d1] :: dijR bb m :: mapR Try.prog 35 36 3 .i64 .i64 mi (cn) (M) :: markR m a 2049 (C) :: arenaR a A :: rowR 36 1 (.slice (some ⟨g, 0, none⟩) Rn capl) Rn (nums rs) :: adjR Try.prog 36 36 b (ptsOf fs) :: blkR T 25 #[.slice A0 n0 c0, .slice A1 n1 c1] :: []), x.w'.cell? ⟨T5, 1, none⟩ = some (.int .u8 d1) := fun x => by
                have := (x.h.blk 0 rfl).cell 1
                simpa using this
              have yx : ∀ x : SepW w (blkR T5 41 #[.int .u8 d0, .int .u8 d1] :: dijR bb m :: mapR Try.prog 35 36 3 .i64 .i64 mi (cn) (M) :: markR m a 2049 (C) :: arenaR a A :: rowR 36 1 (.slice (some ⟨g, 0, none⟩) Rn capl) Rn (nums rs) :: adjR Try.prog 36 36 b (ptsOf fs) :: blkR T 25 #[.slice A0 n0 c0, .slice A1 n1 c1] :: []), x.w'.cell? ⟨g, K1, none⟩ = some (.int .i64 (rx : Int)) := fun x => x.h.rowCell 5 rfl K1 _ (nums_get _ _ _ HX.out)
              have yy : ∀ x : SepW w (blkR T5 41 #[.int .u8 d0, .int .u8 d1] :: dijR bb m :: mapR Try.prog 35 36 3 .i64 .i64 mi (cn) (M) :: markR m a 2049 (C) :: arenaR a A :: rowR 36 1 (.slice (some ⟨g, 0, none⟩) Rn capl) Rn (nums rs) :: adjR Try.prog 36 36 b (ptsOf fs) :: blkR T 25 #[.slice A0 n0 c0, .slice A1 n1 c1] :: []), x.w'.cell? ⟨g, K2, none⟩ = some (.int .i64 (ry : Int)) := fun x => x.h.rowCell 5 rfl K2 _ (nums_get _ _ _ HY.out)
              repeat (go_big_quiet_step (fail))
              refine wpQuiet_nil ?_
              rintro wq ⟨⟨wqx, hs⟩, rfl⟩
              clear yz0 yz1 yx yy hne0
              have z0 := (hs.blk 0 rfl).cell 0
              have z1 := (hs.blk 0 rfl).cell 1
              simp only [List.getElem?_toArray, List.getElem?_cons_zero, List.getElem?_cons_succ] at z0 z1
              have HS6 := Lib.hid hs
              have hx1 := and_1 d0
              have hx2 := and_1 d1
              clear hs
              go_wp2_with (first
                | (go_at_call 23; refine (DPre _ bb (rx : Int) (ry : Int)).mono ?_; rintro e w6 ⟨rfl, rfl⟩)
                | (go_at_call 24; refine (DPost HS6.out 1 3 rfl rfl (rx : Int) (rx : Int) ry _ _ hy2.1 hy2.2).mono ?_; rintro e w7 ⟨rfl, hs⟩; have HC3 := Lib.hid (DPostNil hs 1 rfl (m := m) 0 (rx : Int) false false); clear hs HS6 z0 z1 hx1 hx2)
                | (go_at_call 24; refine (HC3.out).mono ?_; rintro e w8 ⟨rfl, hs⟩; have hlk := map_get refIntOk hs 2 rfl (wfx (x := ry) (by omega)); rw [HCM.out ry, HCC.out] at hlk; have HLK := Lib.hid hlk; obtain ⟨w8, hput, hs8⟩ := map_put refIntOk hs.tail 1 rfl (by unfold maxLen; omega) (wfx (x := ry) (by omega)) (c := (2 : Int)) (by decide); obtain ⟨cn2, hcn2⟩ : ∃ c, (if (M (ry : Int)).isSome = true then cn else cn + 1) = c := ⟨_, rfl⟩; have hcn2l : cn2 ≤ cn + 1 := (by rw [← hcn2]; split <;> omega); rw [hcn2] at hs8; have HS8 := Lib.hid hs8; have HP := Lib.hid hput; clear hs hs8 hput hcn2; clear HC3 hlk)
                | (at_lookup; refine wpList_lookup_run rfl _ _ _ _ rfl rfl rfl HLK.out ?_; clear HLK)
                | (at_mapUpdate; refine wpList_mapUpdate_run rfl _ _ _ _ rfl rfl rfl rfl HP.out ?_; clear HP))
              go_roundw
              case rel => exact ⟨k + 1, cn2, _, C.shade ry, by omega, by go_num, by omega, HCM.out.upd (by rw [colN_shade_max, HCC.out]; rfl) (fun y hy => colN_shade_other C hy), sub_shade HSU.out ry, HS8.out⟩
              case measure => simp [intOf]; omega
          · obtain rfl : n3 = k := by omega
            have HSE := Lib.hid hs
            have HCM := Lib.hid hcm
            have HSU := Lib.hid hsu
            clear hs hown hcm hsu
            go_wp2_with (first
              | (go_at_call 25; refine (DRemark _ bb).mono ?_; rintro e w8 ⟨rfl, rfl⟩)
              | (go_at_call 26; refine (DReset _ bb).mono ?_; rintro e w9 ⟨rfl, rfl⟩))
            go_loopw [135] (fun i wr => ∃ (k : Nat), k ≤ Rn ∧ i = .int .i64 k ∧ Sep w wr (dijR bb m :: mapR Try.prog 35 36 3 .i64 .i64 mi (cn) (M) :: markR m a 2049 (C) :: arenaR a A :: rowR 36 1 (.slice AL Rn capl) Rn (nums rs) :: adjR Try.prog 36 36 b (ptsOf fs) :: blkR T 25 #[.slice A0 n0 c0, .slice A1 n1 c1] :: [])) (fun i _ => Rn + 1 - (intOf i).toNat)
            case atStart => exact ⟨0, by omega, rfl, HSE.out⟩
            case round =>
              clear HSE
              obtain ⟨k, hk, rfl, hs⟩ := hrel
              by_cases hlt : k < Rn
              · have hltI : (k : Int) < (Rn : Int) := by omega
                obtain ⟨xr, hx⟩ : ∃ z_, rs[k]? = some z_ := ⟨_, List.getElem?_eq_getElem (by rw [HRN.out]; exact hlt)⟩
                obtain ⟨g, cap', hsl, _, _⟩ := hs.rowSome 4 rfl (by omega)
                simp only [Value.slice.injEq] at hsl
                obtain ⟨rfl, _, rfl⟩ := hsl
                have cx := hs.rowCell 4 rfl k _ (nums_get _ _ _ hx)
                have hx2 := HGR.out.lt (List.mem_of_getElem? hx)
                have HSB := Lib.hid hs
                have hmk := fun W (S : Sep w W (dijR bb m :: mapR Try.prog 35 36 3 .i64 .i64 mi (cn) (M) :: markR m a 2049 (C) :: arenaR a A :: rowR 36 1 (.slice (some ⟨g, 0, none⟩) Rn capl) Rn (nums rs) :: adjR Try.prog 36 36 b (ptsOf fs) :: blkR T 25 #[.slice A0 n0 c0, .slice A1 n1 c1] :: [])) => KMarked S 2 rfl xr hx2.2
                have hsc := fun W (S : Sep w W (dijR bb m :: mapR Try.prog 35 36 3 .i64 .i64 mi (cn) (M) :: markR m a 2049 (C) :: arenaR a A :: rowR 36 1 (.slice (some ⟨g, 0, none⟩) Rn capl) Rn (nums rs) :: adjR Try.prog 36 36 b (ptsOf fs) :: blkR T 25 #[.slice A0 n0 c0, .slice A1 n1 c1] :: [])) => KScanned S 2 rfl xr hx2.2
                rw [colN_mz (HSU.out xr)] at hmk
                rw [colN_sc] at hsc
                have hvx := HCM.out xr
                obtain ⟨c, hc, hc2⟩ : ∃ c, colN C xr = c ∧ c ≤ 2 := ⟨_, rfl, colN_le C xr⟩
                rw [hc] at hmk hsc hvx
                have hc3 : c = 0 ∨ c = 1 ∨ c = 2 := by omega
                clear hs hx hc hc2
                rcases hc3 with rfl | rfl | rfl
                all_goals
                  have HVX := Lib.hid hvx
                  clear hvx
                · have HMK := Lib.hid (show ∀ W, Sep w W (dijR bb m :: mapR Try.prog 35 36 3 .i64 .i64 mi (cn) (M) :: markR m a 2049 (C) :: arenaR a A :: rowR 36 1 (.slice (some ⟨g, 0, none⟩) Rn capl) Rn (nums rs) :: adjR Try.prog 36 36 b (ptsOf fs) :: blkR T 25 #[.slice A0 n0 c0, .slice A1 n1 c1] :: []) → _ from hmk)
                  have HSC := Lib.hid (show ∀ W, Sep w W (dijR bb m :: mapR Try.prog 35 36 3 .i64 .i64 mi (cn) (M) :: markR m a 2049 (C) :: arenaR a A :: rowR 36 1 (.slice (some ⟨g, 0, none⟩) Rn capl) Rn (nums rs) :: adjR Try.prog 36 36 b (ptsOf fs) :: blkR T 25 #[.slice A0 n0 c0, .slice A1 n1 c1] :: []) → _ from hsc)
                  clear hmk hsc
                  go_wp2
                  refine region_sep HSB.out (by kernel_rfl) (by kernel_rfl) ?_
                  intro hne0
                  have ylk : ∀ x : SepW w (dijR bb m :: mapR Try.prog 35 36 3 .i64 .i64 mi (cn) (M) :: markR m a 2049 (C) :: arenaR a A :: rowR 36 1 (.slice (some ⟨g, 0, none⟩) Rn capl) Rn (nums rs) :: adjR Try.prog 36 36 b (ptsOf fs) :: blkR T 25 #[.slice A0 n0 c0, .slice A1 n1 c1] :: []), (Instr.lookup 35 (.map (some mi)) (.int .i64 (xr : Int)) false).run Try.prog x.w' = .ok (.int .i64 0) x.w' := fun x => by
                    have := map_get refIntOk x.h 1 rfl (wfx (x := xr) (by omega))
                    rw [HVX.out] at this
                    simpa using this
                  repeat (go_big_quiet_step (first
                    | (go_at_call 27; exact sep_calls (HMK.out _ (SepW.h _)))
                    | (go_at_call 28; exact sep_calls (HSC.out _ (SepW.h _)))))
                  refine wpQuiet_nil ?_
                  rintro wq ⟨⟨wqx, hs⟩, rfl⟩
                  clear ylk hne0
                  go_wp2
                  go_roundw
                  case rel => exact ⟨k + 1, by omega, by go_num, hs⟩
                  case measure => simp [intOf]; omega
                · have HMK := Lib.hid (show ∀ W, Sep w W (dijR bb m :: mapR Try.prog 35 36 3 .i64 .i64 mi (cn) (M) :: markR m a 2049 (C) :: arenaR a A :: rowR 36 1 (.slice (some ⟨g, 0, none⟩) Rn capl) Rn (nums rs) :: adjR Try.prog 36 36 b (ptsOf fs) :: blkR T 25 #[.slice A0 n0 c0, .slice A1 n1 c1] :: []) → _ from hmk)
                  have HSC := Lib.hid (show ∀ W, Sep w W (dijR bb m :: mapR Try.prog 35 36 3 .i64 .i64 mi (cn) (M) :: markR m a 2049 (C) :: arenaR a A :: rowR 36 1 (.slice (some ⟨g, 0, none⟩) Rn capl) Rn (nums rs) :: adjR Try.prog 36 36 b (ptsOf fs) :: blkR T 25 #[.slice A0 n0 c0, .slice A1 n1 c1] :: []) → _ from hsc)
                  clear hmk hsc
                  go_wp2
                  refine region_sep HSB.out (by kernel_rfl) (by kernel_rfl) ?_
                  intro hne0
                  have ylk : ∀ x : SepW w (dijR bb m :: mapR Try.prog 35 36 3 .i64 .i64 mi (cn) (M) :: markR m a 2049 (C) :: arenaR a A :: rowR 36 1 (.slice (some ⟨g, 0, none⟩) Rn capl) Rn (nums rs) :: adjR Try.prog 36 36 b (ptsOf fs) :: blkR T 25 #[.slice A0 n0 c0, .slice A1 n1 c1] :: []), (Instr.lookup 35 (.map (some mi)) (.int .i64 (xr : Int)) false).run Try.prog x.w' = .ok (.int .i64 1) x.w' := fun x => by
                    have := map_get refIntOk x.h 1 rfl (wfx (x := xr) (by omega))
                    rw [HVX.out] at this
                    simpa using this
                  repeat (go_big_quiet_step (first
                    | (go_at_call 27; exact sep_calls (HMK.out _ (SepW.h _)))
                    | (go_at_call 28; exact sep_calls (HSC.out _ (SepW.h _)))))
                  refine wpQuiet_nil ?_
                  rintro wq ⟨⟨wqx, hs⟩, rfl⟩
                  clear ylk hne0
                  go_wp2
                  go_roundw
                  case rel => exact ⟨k + 1, by omega, by go_num, hs⟩
                  case measure => simp [intOf]; omega
                · have HMK := Lib.hid (show ∀ W, Sep w W (dijR bb m :: mapR Try.prog 35 36 3 .i64 .i64 mi (cn) (M) :: markR m a 2049 (C) :: arenaR a A :: rowR 36 1 (.slice (some ⟨g, 0, none⟩) Rn capl) Rn (nums rs) :: adjR Try.prog 36 36 b (ptsOf fs) :: blkR T 25 #[.slice A0 n0 c0, .slice A1 n1 c1] :: []) → _ from hmk)
                  have HSC := Lib.hid (show ∀ W, Sep w W (dijR bb m :: mapR Try.prog 35 36 3 .i64 .i64 mi (cn) (M) :: markR m a 2049 (C) :: arenaR a A :: rowR 36 1 (.slice (some ⟨g, 0, none⟩) Rn capl) Rn (nums rs) :: adjR Try.prog 36 36 b (ptsOf fs) :: blkR T 25 #[.slice A0 n0 c0, .slice A1 n1 c1] :: []) → _ from hsc)
                  clear hmk hsc
                  go_wp2
                  refine region_sep HSB.out (by kernel_rfl) (by kernel_rfl) ?_
                  intro hne0
                  have ylk : ∀ x : SepW w (dijR bb m :: mapR Try.prog 35 36 3 .i64 .i64 mi (cn) (M) :: markR m a 2049 (C) :: arenaR a A :: rowR 36 1 (.slice (some ⟨g, 0, none⟩) Rn capl) Rn (nums rs) :: adjR Try.prog 36 36 b (ptsOf fs) :: blkR T 25 #[.slice A0 n0 c0, .slice A1 n1 c1] :: []), (Instr.lookup 35 (.map (some mi)) (.int .i64 (xr : Int)) false).run Try.prog x.w' = .ok (.int .i64 2) x.w' := fun x => by
                    have := map_get refIntOk x.h 1 rfl (wfx (x := xr) (by omega))
                    rw [HVX.out] at this
                    simpa using this
                  repeat (go_big_quiet_step (first
                    | (go_at_call 27; exact sep_calls (HMK.out _ (SepW.h _)))
                    | (go_at_call 28; exact sep_calls (HSC.out _ (SepW.h _)))))
                  refine wpQuiet_nil ?_
                  rintro wq ⟨⟨wqx, hs⟩, rfl⟩
                  clear ylk hne0
                  go_wp2
                  go_roundw
                  case rel => exact ⟨k + 1, by omega, by go_num, hs⟩
                  case measure => simp [intOf]; omega
              · obtain rfl : Rn = k := by omega
                have HS9 := Lib.hid hs
                clear hs
                go_wp2
                go_ret
                exact ⟨rfl, HS9.out.below⟩
  · by_cases hsm : n0 ≤ 40 ∧ n1 ≤ 120
    · have HSD := Lib.hid (show (decide (n0 ≤ 40) && decide (n1 ≤ 120)) = true by rw [decide_eq_true hsm.1, decide_eq_true hsm.2]; rfl)
      have hgt : (40 : Int) < (n3 : Int) := by omega
      clear hsm hsmall
      go_wp2_with (first
        | (go_at_call 16; refine (fit13 _).mono ?_; rintro e w1 ⟨rfl, hC⟩; have hs1 := HS0.out.same hC; have p0 := (hs1.blk 0 rfl).cell 0; have p1 := (hs1.blk 0 rfl).cell 1; simp only [List.getElem?_toArray, List.getElem?_cons_zero, List.getElem?_cons_succ] at p0 p1; have HS1 := Lib.hid hs1; clear hC hs1 HS0)
        | (go_at_call 17; refine (Small11 _ A0 n0 c0 A1 n1 c1).mono ?_; rw [HSD.out]; rintro e w2 ⟨rfl, hC⟩; have HS2 := Lib.hid (HS1.out.same hC); clear hC HS1))
      go_ret
      exact ⟨rfl, HS2.out.below⟩
    · have HSD := Lib.hid (show (decide (n0 ≤ 40) && decide (n1 ≤ 120)) = false by
        rw [Bool.and_eq_false_iff]
        by_cases h : n0 ≤ 40
        · exact .inr (decide_eq_false fun h2 => hsm ⟨h, h2⟩)
        · exact .inl (decide_eq_false h))
      clear hsm hsmall
      go_wp2_with (first
        | (go_at_call 16; refine (fit13 _).mono ?_; rintro e w1 ⟨rfl, hC⟩; have hs1 := HS0.out.same hC; have p0 := (hs1.blk 0 rfl).cell 0; have p1 := (hs1.blk 0 rfl).cell 1; simp only [List.getElem?_toArray, List.getElem?_cons_zero, List.getElem?_cons_succ] at p0 p1; have HS1 := Lib.hid hs1; clear hC hs1 HS0)
        | (go_at_call 17; refine (Small11 _ A0 n0 c0 A1 n1 c1).mono ?_; rw [HSD.out]; rintro e w2 ⟨rfl, hC⟩; have HS2 := Lib.hid (HS1.out.same hC); clear hC HS1))
      go_ret
      exact ⟨rfl, HS2.out.below⟩
end Go.Proofs.Ytacebfocfpbkdaa
