/-
  Parts of the proof, joined: MarkTwiceW. Conditions: as each part says.
-/
import Derived.Test.YtacebfocfpbkdaaL5
import Derived.Test.YtacebfocfpbkdaaL1

/-
  The walk of MarkTwice. Conditions: as the theorem says.
-/
namespace Go.Proofs.Ytacebfocfpbkdaa
set_option linter.unusedVariables false
set_option linter.unusedSimpArgs false
open Go.RowKit Go.Shelf

set_option maxRecDepth 100000 in
set_option maxHeartbeats 16000000 in
theorem markTwice_walk (A0 : Option Addr) (n0 c0 : Nat) (D0 : Nat → Nat → Int) (A1 : Option Addr) (n1 c1 : Nat) (D1 : Nat → Nat → Int) (A2 : Option Addr) (n2 c2 : Nat) (D2 : Nat → Nat → Int) (A3 : Option Addr) (n3 c3 : Nat) (D3 : Nat → Nat → Int) (w : World) (hz0 : ArgI w A0 n0 [.u8] D0) (hm0 : n0 ≤ maxLen) (hz1 : ArgI w A1 n1 [.u16, .u16, .u16] D1) (hm1 : n1 ≤ maxLen) (hz2 : ArgI w A2 n2 [.u8] D2) (hm2 : n2 ≤ 140737488351232) (hz3 : ArgI w A3 n3 [.u8] D3) (hm3 : n3 ≤ 140737488351232) :
    Calls Try.prog 11 #[.agg #[.slice A0 n0 c0, .slice A1 n1 c1], .slice A2 n2 c2, .slice A3 n3 c3] w fun e w' => e = .returned (.bool true) ∧ Below w.heap.size w w' := by
  have HZ0 := Lib.hid hz0
  have HZ1 := Lib.hid hz1
  have HZ2 := Lib.hid hz2
  have HZ3 := Lib.hid hz3
  unfold maxLen at hm0 hm1
  try unfold maxLen at hm2
  try unfold maxLen at hm3
  clear hz0 hz1 hz2 hz3
  obtain ⟨T, hT⟩ : ∃ T, w.heap.size = T := ⟨_, rfl⟩
  have hs0 := (Sep.start w).box #[.slice A0 n0 c0, .slice A1 n1 c1] 25
  rw [hT] at hs0
  have HS0 := Lib.hid hs0
  clear hs0
  go_enter Try.func11, Try.ntmps11
  by_cases hsmall : (n0 ≤ 40 ∧ n1 ≤ 120) ∧ n2 + n3 ≤ 30
  · have hsd : (decide (n0 ≤ 40) && decide (n1 ≤ 120)) = true := by rw [decide_eq_true hsmall.1.1, decide_eq_true hsmall.1.2]; rfl
    have HSD := Lib.hid hsd
    obtain ⟨⟨hn0, hn1⟩, hn2⟩ := hsmall
    clear hsd
    have hgt : ¬ (30 : Int) < (n2 : Int) + (n3 : Int) := by omega
    go_wp2_with (first
      | (go_at_call 42; refine (fit11 _).mono ?_; rintro e w1 ⟨rfl, hC⟩; have hs1 := HS0.out.same hC; have p0 := (hs1.blk 0 rfl).cell 0; have p1 := (hs1.blk 0 rfl).cell 1; simp only [List.getElem?_toArray, List.getElem?_cons_zero, List.getElem?_cons_succ] at p0 p1; have HS1 := Lib.hid hs1; clear hC hs1 HS0)
      | (go_at_call 17; refine (Small11 _ A0 n0 c0 A1 n1 c1).mono ?_; rw [HSD.out]; rintro e w2 ⟨rfl, hC⟩; have hs1 := HS1.out.same hC; have p0 := (hs1.blk 0 rfl).cell 0; have p1 := (hs1.blk 0 rfl).cell 1; simp only [List.getElem?_toArray, List.getElem?_cons_zero, List.getElem?_cons_succ] at p0 p1; have HS2 := Lib.hid hs1; clear hC hs1 HS1)
      | (go_at_call 18; refine (Made11 A0 n0 c0 D0 A1 n1 c1 D1 HZ0.out HZ1.out hn0 hn1 HS2.out).mono ?_; rintro e w3 ⟨a, b, v, A, rs, fs, rfl, hgr, hlen, hs⟩; have p0 := (hs.blk 3 rfl).cell 0; have p1 := (hs.blk 3 rfl).cell 1; simp only [List.getElem?_toArray, List.getElem?_cons_zero, List.getElem?_cons_succ] at p0 p1; have HGR := Lib.hid hgr; obtain ⟨AL, capl, rfl, hcapl, hmcapl⟩ := hs.rowShape 1 rfl; unfold maxLen at hmcapl; obtain ⟨Rn, hRn⟩ : ∃ Rn, rs.length = Rn := ⟨_, rfl⟩; have HRN := Lib.hid hRn; rw [hRn] at hcapl hs; try rw [hRn]; rw [hRn] at hlen; have hl40 : Rn ≤ 40 := (by omega); have HLEN := Lib.hid hlen; have HS3 := Lib.hid hs; clear hs hgr HS2 hRn hlen)
      | (go_at_call 19; refine (KNew HS3.out 0 rfl HGR.out.size (by omega) 2 (by omega)).mono ?_; rintro e w4 ⟨m, rfl, hs⟩; have HS4 := Lib.hid (show Sep w w4 (rowR 36 1 (.slice AL Rn capl) rs.length (nums rs) :: markR m a 2049 (Col.white) :: arenaR a A :: adjR Try.prog 36 36 b (ptsOf fs) :: blkR T 25 #[.slice A0 n0 c0, .slice A1 n1 c1] :: []) from by rw [HRN.out]; exact hs.front 3 [2]); clear hs HS3)
      | (go_at_call 43; refine (Some11 A3 n3 c3 D3 HZ3.out (by omega) HS4.out).mono ?_; rintro e w5 ⟨vr, outq, rfl, hol, hin, hln, hs⟩; rw [HRN.out] at hs; obtain ⟨AQ, capq, rfl, hcapq, hmcapq⟩ := hs.rowShape 0 rfl; unfold maxLen at hmcapq; obtain ⟨Qn, hQn⟩ : ∃ Qn, outq.length = Qn := ⟨_, rfl⟩; have HQN := Lib.hid hQn; rw [hQn] at hcapq hs; try rw [hQn]; rw [hQn] at hol; have HS4q := Lib.hid (show Sep w w5 (rowR 36 1 (.slice AQ Qn capq) Qn (nums outq) :: rowR 36 1 (.slice AL Rn capl) Rn (nums rs) :: markR m a 2049 (Col.white) :: arenaR a A :: adjR Try.prog 36 36 b (ptsOf fs) :: blkR T 25 #[.slice A0 n0 c0, .slice A1 n1 c1] :: []) from hs); have HINQ := Lib.hid hin; clear hs HS4 hin hln hQn))
    go_loopw [46] (fun i wr => ∃ (k : Nat), k ≤ Qn ∧ i = .int .i64 k ∧ Sep w wr (rowR 36 1 (.slice AQ Qn capq) Qn (nums outq) :: rowR 36 1 (.slice AL Rn capl) Rn (nums rs) :: markR m a 2049 (Col.white.shades (outq.take k)) :: arenaR a A :: adjR Try.prog 36 36 b (ptsOf fs) :: blkR T 25 #[.slice A0 n0 c0, .slice A1 n1 c1] :: [])) (fun i _ => Qn + 1 - (intOf i).toNat)
    case atStart => exact ⟨0, by omega, rfl, HS4q.out⟩
    case round =>
      clear HS4q
      obtain ⟨k, hk, rfl, hs⟩ := hrel
      by_cases hlt : k < Qn
      · have hltI : (k : Int) < (Qn : Int) := by omega
        obtain ⟨x, hx⟩ : ∃ x, outq[k]? = some x := ⟨_, List.getElem?_eq_getElem (by rw [HQN.out]; exact hlt)⟩
        obtain ⟨g, cap', hsl, _, _⟩ := hs.rowSome 0 rfl (by omega)
        simp only [Value.slice.injEq] at hsl
        obtain ⟨rfl, _, rfl⟩ := hsl
        have cx := hs.rowCell 0 rfl k _ (nums_get _ _ _ hx)
        have hx2 := HGR.out.lt (HINQ.out x (List.mem_of_getElem? hx))
        have HC := Lib.hid (KShade hs 2 rfl x hx2.1 hx2.2)
        have HNX := Lib.hid (shades_next (C := Col.white) hx)
        clear hs hx
        go_wp2_with (go_at_call 20; refine (HC.out).mono ?_; rintro e w7 ⟨rfl, hs⟩; rw [HNX.out] at hs; have HS7 := Lib.hid hs; clear hs HC)
        go_roundw
        case rel => exact ⟨k + 1, by omega, by go_num, HS7.out⟩
        case measure => simp [intOf]; omega
      · obtain rfl : Qn = k := by omega
        rw [shades_all HQN.out] at hs
        have hx3 := and_3 (n3 : Int)
        obtain ⟨q3, hq3, hq3l⟩ : ∃ q : Nat, (n3 : Int) % 4 = (q : Int) ∧ q ≤ 3 := ⟨n3 % 4, by omega, by omega⟩
        rw [hq3] at hx3
        have HC := Lib.hid (KTrace HGR.out.heap HGR.out.size (C := Col.white.shades outq) (fun x hx => HINQ.out x (by rw [white_shades] at hx; exact of_decide_eq_true hx)) hs 2 3 rfl rfl (by decide) q3 (by omega))
        clear hs
        go_wp2_with (first
          | (go_at_call 37; refine (HC.out).mono ?_; rintro e w7 ⟨d, C, rfl, ht, hs⟩; have HC2 := Lib.hid (KReset hs 2 rfl); clear hs ht HC)
          | (go_at_call 46; refine (HC2.out).mono ?_; rintro e w8 ⟨rfl, hs⟩; have HSW := Lib.hid (show Sep w w8 (rowR 36 1 (.slice AQ Qn capq) Qn (nums outq) :: rowR 36 1 (.slice AL Rn capl) Rn (nums rs) :: markR m a 2049 (Col.white) :: arenaR a A :: adjR Try.prog 36 36 b (ptsOf fs) :: blkR T 25 #[.slice A0 n0 c0, .slice A1 n1 c1] :: []) from hs); clear hs HC2))
        clear hx3 hq3
        go_loopw [63] (fun i wr => ∃ (k : Nat), k ≤ Rn ∧ i = .int .i64 k ∧ Sep w wr (rowR 36 1 (.slice AQ Qn capq) Qn (nums outq) :: rowR 36 1 (.slice AL Rn capl) Rn (nums rs) :: markR m a 2049 (Col.white) :: arenaR a A :: adjR Try.prog 36 36 b (ptsOf fs) :: blkR T 25 #[.slice A0 n0 c0, .slice A1 n1 c1] :: [])) (fun i _ => Rn + 1 - (intOf i).toNat)
        case atStart => exact ⟨0, by omega, rfl, HSW.out⟩
        case round =>
          clear HSW
          obtain ⟨k, hk, rfl, hs⟩ := hrel
          by_cases hlt : k < Rn
          · have hltI : (k : Int) < (Rn : Int) := by omega
            obtain ⟨x, hx⟩ : ∃ x, rs[k]? = some x := ⟨_, List.getElem?_eq_getElem (by rw [HRN.out]; exact hlt)⟩
            obtain ⟨g, cap', hsl, _, _⟩ := hs.rowSome 1 rfl (by omega)
            simp only [Value.slice.injEq] at hsl
            obtain ⟨rfl, _, rfl⟩ := hsl
            have cx := hs.rowCell 1 rfl k _ (nums_get _ _ _ hx)
            have hx2 := HGR.out.lt (List.mem_of_getElem? hx)
            have HC := Lib.hid (KMarked hs 2 rfl x hx2.2)
            clear hs hx
            go_wp2_with (first
              | (go_at_call 27; refine (HC.out).mono ?_; rw [show Col.white.mz x = false from rfl]; rintro e w7 ⟨rfl, hs⟩; have HC2 := Lib.hid (KScanned hs 2 rfl x hx2.2); clear hs HC)
              | (go_at_call 28; refine (HC2.out).mono ?_; rw [show Col.white.sc x = false from rfl]; rintro e w8 ⟨rfl, hs⟩; have HS8 := Lib.hid hs; clear hs HC2))
            go_roundw
            case rel => exact ⟨k + 1, by omega, by go_num, HS8.out⟩
            case measure => simp [intOf]; omega
          · obtain rfl : Rn = k := by omega
            have HS5 := Lib.hid (show Sep w wr (rowR 36 1 (.slice AL Rn capl) rs.length (nums rs) :: rowR 36 1 (.slice AQ Qn capq) Qn (nums outq) :: markR m a 2049 (Col.white) :: arenaR a A :: adjR Try.prog 36 36 b (ptsOf fs) :: blkR T 25 #[.slice A0 n0 c0, .slice A1 n1 c1] :: []) from by rw [HRN.out]; exact hs.front 2 [1])
            clear hs
            go_wp2_with (go_at_call 43; refine (Some11 A2 n2 c2 D2 HZ2.out (by omega) HS5.out).mono ?_; rintro e w5 ⟨vr, out, rfl, hol, hin, hln, hs⟩; rw [HRN.out] at hs; obtain ⟨AR, capr, rfl, hcapr, hmcapr⟩ := hs.rowShape 0 rfl; unfold maxLen at hmcapr; obtain ⟨Ln, hLn⟩ : ∃ Ln, out.length = Ln := ⟨_, rfl⟩; have HLN := Lib.hid hLn; rw [hLn] at hcapr hs; try rw [hLn]; rw [hLn] at hol; have HS6 := Lib.hid (show Sep w w5 (rowR 36 1 (.slice AR Ln capr) Ln (nums out) :: rowR 36 1 (.slice AL Rn capl) Rn (nums rs) :: rowR 36 1 (.slice AQ Qn capq) Qn (nums outq) :: markR m a 2049 (Col.white) :: arenaR a A :: adjR Try.prog 36 36 b (ptsOf fs) :: blkR T 25 #[.slice A0 n0 c0, .slice A1 n1 c1] :: []) from hs); have HIN := Lib.hid hin; clear hs HS5 hin hln hLn)
            go_loopw [81] (fun i wr => ∃ (k : Nat), k ≤ Ln ∧ i = .int .i64 k ∧ Sep w wr (rowR 36 1 (.slice AR Ln capr) Ln (nums out) :: rowR 36 1 (.slice AL Rn capl) Rn (nums rs) :: rowR 36 1 (.slice AQ Qn capq) Qn (nums outq) :: markR m a 2049 (Col.white.shades (out.take k)) :: arenaR a A :: adjR Try.prog 36 36 b (ptsOf fs) :: blkR T 25 #[.slice A0 n0 c0, .slice A1 n1 c1] :: [])) (fun i _ => Ln + 1 - (intOf i).toNat)
            case atStart => exact ⟨0, by omega, rfl, HS6.out⟩
            case round =>
              clear HS6
              obtain ⟨k, hk, rfl, hs⟩ := hrel
              by_cases hlt : k < Ln
              · have hltI : (k : Int) < (Ln : Int) := by omega
                obtain ⟨x, hx⟩ : ∃ x, out[k]? = some x := ⟨_, List.getElem?_eq_getElem (by rw [HLN.out]; exact hlt)⟩
                obtain ⟨g, cap', hsl, _, _⟩ := hs.rowSome 0 rfl (by omega)
                simp only [Value.slice.injEq] at hsl
                obtain ⟨rfl, _, rfl⟩ := hsl
                have cx := hs.rowCell 0 rfl k _ (nums_get _ _ _ hx)
                have hx2 := HGR.out.lt (HIN.out x (List.mem_of_getElem? hx))
                have HC := Lib.hid (KShade hs 3 rfl x hx2.1 hx2.2)
                have HNX := Lib.hid (shades_next (C := Col.white) hx)
                clear hs hx
                go_wp2_with (go_at_call 20; refine (HC.out).mono ?_; rintro e w7 ⟨rfl, hs⟩; rw [HNX.out] at hs; have HS7 := Lib.hid hs; clear hs HC)
                go_roundw
                case rel => exact ⟨k + 1, by omega, by go_num, HS7.out⟩
                case measure => simp [intOf]; omega
              · obtain rfl : Ln = k := by omega
                rw [shades_all HLN.out] at hs
                have HC := Lib.hid (Reach11 (HGR.out.field (by rw [HRN.out]; omega)) HIN.out (by rw [HLN.out]; omega) (show Sep w wr (rowR 36 1 (.slice AR Ln capr) out.length (nums out) :: adjR Try.prog 36 36 b (ptsOf fs) :: rowR 36 1 (.slice AL Rn capl) Rn (nums rs) :: rowR 36 1 (.slice AQ Qn capq) Qn (nums outq) :: markR m a 2049 (Col.white.shades out) :: arenaR a A :: blkR T 25 #[.slice A0 n0 c0, .slice A1 n1 c1] :: []) from by
                  rw [HLN.out]
                  exact hs.front 6 [0, 5]))
                clear hs
                go_wp2_with (first
                  | (go_at_call 44; refine (HC.out).mono ?_; rintro e w8 ⟨mb, V, rfl, hV, hVo, hs⟩; rw [HLN.out] at hs; have HV := Lib.hid hV; have HVO := Lib.hid hVo; have HC2 := Lib.hid (KTrace HGR.out.heap HGR.out.size (C := Col.white.shades out) (fun x hx => HIN.out x (by rw [white_shades] at hx; exact of_decide_eq_true hx)) (show Sep w w8 (mapR Try.prog 35 36 3 .i64 .i64 mb (rs.countP V) (visM V) :: rowR 36 1 (.slice AR Ln capr) Ln (nums out) :: adjR Try.prog 36 36 b (ptsOf fs) :: rowR 36 1 (.slice AL Rn capl) Rn (nums rs) :: rowR 36 1 (.slice AQ Qn capq) Qn (nums outq) :: markR m a 2049 (Col.white.shades out) :: arenaR a A :: blkR T 25 #[.slice A0 n0 c0, .slice A1 n1 c1] :: []) from hs) 5 6 rfl rfl (by decide) 1000 (by omega)); clear hs hV hVo HC)
                  | (go_at_call 37; refine (HC2.out).mono ?_; rintro e w9 ⟨d, C, rfl, ht, hs⟩; have HNO := Lib.hid (traced ht.steps HGR.out.nodup HGR.out.ptsIn (fun x hx => HIN.out x (by rw [white_shades] at hx; exact of_decide_eq_true hx)) (by rw [HRN.out]; omega) ht.end_); have HMS := Lib.hid (reach_marks ht.steps HNO.out HV.out); have hn1 := (ht.steps.most0 HGR.out.nodup HGR.out.ptsIn HIN.out).1; rw [HMS.out.2] at hn1; have HSE := Lib.hid (show Sep w w9 (mapR Try.prog 35 36 3 .i64 .i64 mb (d) (visM V) :: rowR 36 1 (.slice AR Ln capr) Ln (nums out) :: adjR Try.prog 36 36 b (ptsOf fs) :: rowR 36 1 (.slice AL Rn capl) Rn (nums rs) :: rowR 36 1 (.slice AQ Qn capq) Qn (nums outq) :: markR m a 2049 (C) :: arenaR a A :: blkR T 25 #[.slice A0 n0 c0, .slice A1 n1 c1] :: []) from by rw [← hn1]; rw [hn1]; rw [hn1] at hs; exact hs); have HLEN2 := Lib.hid (fun ty => map_len refIntOk HSE.out 0 rfl ty); clear hs ht HC2 hn1)
                  | (at_len; refine wpList_len_run rfl _ _ rfl rfl HLEN2.out ?_))
                go_loopw [99] (fun i wr => ∃ (k : Nat), k ≤ Rn ∧ i = .int .i64 k ∧ Sep w wr (mapR Try.prog 35 36 3 .i64 .i64 mb (d) (visM V) :: rowR 36 1 (.slice AR Ln capr) Ln (nums out) :: adjR Try.prog 36 36 b (ptsOf fs) :: rowR 36 1 (.slice AL Rn capl) Rn (nums rs) :: rowR 36 1 (.slice AQ Qn capq) Qn (nums outq) :: markR m a 2049 (C) :: arenaR a A :: blkR T 25 #[.slice A0 n0 c0, .slice A1 n1 c1] :: [])) (fun i _ => Rn + 1 - (intOf i).toNat)
                case atStart => exact ⟨0, by omega, rfl, HSE.out⟩
                case round =>
                  clear HSE
                  obtain ⟨k, hk, rfl, hs⟩ := hrel
                  by_cases hlt : k < Rn
                  · have hltI : (k : Int) < (Rn : Int) := by omega
                    obtain ⟨xr, hx⟩ : ∃ x, rs[k]? = some x := ⟨_, List.getElem?_eq_getElem (by rw [HRN.out]; exact hlt)⟩
                    obtain ⟨g, cap', hsl, _, _⟩ := hs.rowSome 3 rfl (by omega)
                    simp only [Value.slice.injEq] at hsl
                    obtain ⟨rfl, _, rfl⟩ := hsl
                    have cx := hs.rowCell 3 rfl k _ (nums_get _ _ _ hx)
                    have hx2 := HGR.out.lt (List.mem_of_getElem? hx)
                    have HSB := Lib.hid hs
                    obtain ⟨hmz, hsc⟩ := HMS.out
                    have hmk := fun W (S : Sep w W (mapR Try.prog 35 36 3 .i64 .i64 mb (d) (visM V) :: rowR 36 1 (.slice AR Ln capr) Ln (nums out) :: adjR Try.prog 36 36 b (ptsOf fs) :: rowR 36 1 (.slice (some ⟨g, 0, none⟩) Rn capl) Rn (nums rs) :: rowR 36 1 (.slice AQ Qn capq) Qn (nums outq) :: markR m a 2049 (C) :: arenaR a A :: blkR T 25 #[.slice A0 n0 c0, .slice A1 n1 c1] :: [])) => KMarked S 5 rfl xr hx2.2
                    rw [hmz] at hmk
                    obtain ⟨bb, hbb⟩ : ∃ bb, V xr = bb := ⟨_, rfl⟩
                    have HVX := Lib.hid hbb
                    rw [hbb] at hmk
                    clear hs hx hmz hsc hbb
                    cases bb
                    · have HMK := Lib.hid hmk
                      clear hmk
                      go_wp2
                      refine region_sep HSB.out (by kernel_rfl) (by kernel_rfl) ?_
                      intro hne0
                      have ylk : ∀ x : SepW w (mapR Try.prog 35 36 3 .i64 .i64 mb (d) (visM V) :: rowR 36 1 (.slice AR Ln capr) Ln (nums out) :: adjR Try.prog 36 36 b (ptsOf fs) :: rowR 36 1 (.slice (some ⟨g, 0, none⟩) Rn capl) Rn (nums rs) :: rowR 36 1 (.slice AQ Qn capq) Qn (nums outq) :: markR m a 2049 (C) :: arenaR a A :: blkR T 25 #[.slice A0 n0 c0, .slice A1 n1 c1] :: []), (Instr.lookup 35 (.map (some mb)) (.int .i64 (xr : Int)) false).run Try.prog x.w' = .ok (.int .i64 0) x.w' := fun x => by
                        have := map_get refIntOk x.h 0 rfl (wfx (x := xr) (by omega))
                        rw [visM_at, HVX.out] at this
                        simpa using this
                      repeat (go_big_quiet_step (first
                        | (go_at_call 27; exact sep_calls (HMK.out _ (SepW.h _)))))
                      refine wpQuiet_nil ?_
                      rintro wq ⟨⟨wqx, hs⟩, rfl⟩
                      clear ylk hne0
                      go_wp2
                      go_roundw
                      case rel => exact ⟨k + 1, by omega, by go_num, hs⟩
                      case measure => simp [intOf]; omega
                    · have HMK := Lib.hid hmk
                      clear hmk
                      go_wp2
                      refine region_sep HSB.out (by kernel_rfl) (by kernel_rfl) ?_
                      intro hne0
                      have ylk : ∀ x : SepW w (mapR Try.prog 35 36 3 .i64 .i64 mb (d) (visM V) :: rowR 36 1 (.slice AR Ln capr) Ln (nums out) :: adjR Try.prog 36 36 b (ptsOf fs) :: rowR 36 1 (.slice (some ⟨g, 0, none⟩) Rn capl) Rn (nums rs) :: rowR 36 1 (.slice AQ Qn capq) Qn (nums outq) :: markR m a 2049 (C) :: arenaR a A :: blkR T 25 #[.slice A0 n0 c0, .slice A1 n1 c1] :: []), (Instr.lookup 35 (.map (some mb)) (.int .i64 (xr : Int)) false).run Try.prog x.w' = .ok (.int .i64 1) x.w' := fun x => by
                        have := map_get refIntOk x.h 0 rfl (wfx (x := xr) (by omega))
                        rw [visM_at, HVX.out] at this
                        simpa using this
                      repeat (go_big_quiet_step (first
                        | (go_at_call 27; exact sep_calls (HMK.out _ (SepW.h _)))))
                      refine wpQuiet_nil ?_
                      rintro wq ⟨⟨wqx, hs⟩, rfl⟩
                      clear ylk hne0
                      go_wp2
                      go_roundw
                      case rel => exact ⟨k + 1, by omega, by go_num, hs⟩
                      case measure => simp [intOf]; omega
                  · obtain rfl : Rn = k := by omega
                    have HS := Lib.hid hs
                    clear hs
                    go_wp2
                    go_ret
                    exact ⟨rfl, HS.out.below⟩
  · by_cases hsm : n0 ≤ 40 ∧ n1 ≤ 120
    · have HSD := Lib.hid (show (decide (n0 ≤ 40) && decide (n1 ≤ 120)) = true by rw [decide_eq_true hsm.1, decide_eq_true hsm.2]; rfl)
      have hgt : (30 : Int) < (n2 : Int) + (n3 : Int) := by omega
      clear hsm hsmall
      go_wp2_with (first
        | (go_at_call 42; refine (fit11 _).mono ?_; rintro e w1 ⟨rfl, hC⟩; have hs1 := HS0.out.same hC; have p0 := (hs1.blk 0 rfl).cell 0; have p1 := (hs1.blk 0 rfl).cell 1; simp only [List.getElem?_toArray, List.getElem?_cons_zero, List.getElem?_cons_succ] at p0 p1; have HS1 := Lib.hid hs1; clear hC hs1 HS0)
        | (go_at_call 17; refine (Small11 _ A0 n0 c0 A1 n1 c1).mono ?_; rw [HSD.out]; rintro e w2 ⟨rfl, hC⟩; have HS2 := Lib.hid (HS1.out.same hC); clear hC HS1))
      go_ret
      exact ⟨rfl, HS2.out.below⟩
    · have HSD := Lib.hid (show (decide (n0 ≤ 40) && decide (n1 ≤ 120)) = false by
        rw [Bool.and_eq_false_iff]
        by_cases h : n0 ≤ 40
        · exact .inr (decide_eq_false fun h2 => hsm ⟨h, h2⟩)
        · exact .inl (decide_eq_false h))
      clear hsm hsmall
      go_wp2_with (first
        | (go_at_call 42; refine (fit11 _).mono ?_; rintro e w1 ⟨rfl, hC⟩; have hs1 := HS0.out.same hC; have p0 := (hs1.blk 0 rfl).cell 0; have p1 := (hs1.blk 0 rfl).cell 1; simp only [List.getElem?_toArray, List.getElem?_cons_zero, List.getElem?_cons_succ] at p0 p1; have HS1 := Lib.hid hs1; clear hC hs1 HS0)
        | (go_at_call 17; refine (Small11 _ A0 n0 c0 A1 n1 c1).mono ?_; rw [HSD.out]; rintro e w2 ⟨rfl, hC⟩; have HS2 := Lib.hid (HS1.out.same hC); clear hC HS1))
      go_ret
      exact ⟨rfl, HS2.out.below⟩
end Go.Proofs.Ytacebfocfpbkdaa
