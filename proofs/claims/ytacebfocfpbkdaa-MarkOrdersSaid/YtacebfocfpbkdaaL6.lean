/-
  Parts of the proof, joined: MarkOrdersW. Conditions: as each part says.
-/
import Derived.Test.YtacebfocfpbkdaaL5
import Derived.Test.YtacebfocfpbkdaaL1

/-
  The walk of MarkOrders. Conditions: as the theorem says.
-/
namespace Go.Proofs.Ytacebfocfpbkdaa
set_option linter.unusedVariables false
set_option linter.unusedSimpArgs false
open Go.RowKit Go.Shelf

set_option maxRecDepth 100000 in
set_option maxHeartbeats 16000000 in
theorem markOrders_walk (A0 : Option Addr) (n0 c0 : Nat) (D0 : Nat → Nat → Int) (A1 : Option Addr) (n1 c1 : Nat) (D1 : Nat → Nat → Int) (A2 : Option Addr) (n2 c2 : Nat) (D2 : Nat → Nat → Int) (A3 : Option Addr) (n3 c3 : Nat) (D3 : Nat → Nat → Int) (w : World) (hz0 : ArgI w A0 n0 [.u8] D0) (hm0 : n0 ≤ maxLen) (hz1 : ArgI w A1 n1 [.u16, .u16, .u16] D1) (hm1 : n1 ≤ maxLen) (hz2 : ArgI w A2 n2 [.u8] D2) (hm2 : n2 ≤ maxLen) (hz3 : ArgI w A3 n3 [.u8] D3) (hm3 : n3 ≤ maxLen) :
    Calls Try.prog 7 #[.agg #[.slice A0 n0 c0, .slice A1 n1 c1], .slice A2 n2 c2, .slice A3 n3 c3] w fun e w' => e = .returned (.bool true) ∧ Below w.heap.size w w' := by
  have HZ0 := Lib.hid hz0
  have HZ1 := Lib.hid hz1
  have HZ2 := Lib.hid hz2
  have HZ3 := Lib.hid hz3
  unfold maxLen at hm0 hm1 hm2 hm3
  clear hz0 hz1 hz2 hz3
  obtain ⟨T, hT⟩ : ∃ T, w.heap.size = T := ⟨_, rfl⟩
  have hs0 := (Sep.start w).box #[.slice A0 n0 c0, .slice A1 n1 c1] 25
  rw [hT] at hs0
  have HS0 := Lib.hid hs0
  clear hs0
  go_enter Try.func7, Try.ntmps7
  by_cases hsmall : (n0 ≤ 40 ∧ n1 ≤ 120) ∧ n2 ≤ 20 ∧ n3 ≤ 40
  · have hsd : (decide (n0 ≤ 40) && decide (n1 ≤ 120)) = true := by rw [decide_eq_true hsmall.1.1, decide_eq_true hsmall.1.2]; rfl
    have HSD := Lib.hid hsd
    obtain ⟨⟨hn0, hn1⟩, hn2⟩ := hsmall
    clear hsd
    obtain ⟨hn2, hn3⟩ := hn2
    have hgt : ¬ (20 : Int) < (n2 : Int) := by omega
    have hgt3 : ¬ (40 : Int) < (n3 : Int) := by omega
    go_wp2_with (first
      | (go_at_call 42; refine (fit11 _).mono ?_; rintro e w1 ⟨rfl, hC⟩; have hs1 := HS0.out.same hC; have p0 := (hs1.blk 0 rfl).cell 0; have p1 := (hs1.blk 0 rfl).cell 1; simp only [List.getElem?_toArray, List.getElem?_cons_zero, List.getElem?_cons_succ] at p0 p1; have HS1 := Lib.hid hs1; clear hC hs1 HS0)
      | (go_at_call 17; refine (Small11 _ A0 n0 c0 A1 n1 c1).mono ?_; rw [HSD.out]; rintro e w2 ⟨rfl, hC⟩; have hs1 := HS1.out.same hC; have p0 := (hs1.blk 0 rfl).cell 0; have p1 := (hs1.blk 0 rfl).cell 1; simp only [List.getElem?_toArray, List.getElem?_cons_zero, List.getElem?_cons_succ] at p0 p1; have HS2 := Lib.hid hs1; clear hC hs1 HS1)
      | (go_at_call 18; refine (Made11 A0 n0 c0 D0 A1 n1 c1 D1 HZ0.out HZ1.out hn0 hn1 HS2.out).mono ?_; rintro e w3 ⟨a, b, v, A, rs, fs, rfl, hgr, hlen, hs⟩; have p0 := (hs.blk 3 rfl).cell 0; have p1 := (hs.blk 3 rfl).cell 1; simp only [List.getElem?_toArray, List.getElem?_cons_zero, List.getElem?_cons_succ] at p0 p1; have HGR := Lib.hid hgr; obtain ⟨AL, capl, rfl, hcapl, hmcapl⟩ := hs.rowShape 1 rfl; unfold maxLen at hmcapl; obtain ⟨Rn, hRn⟩ : ∃ Rn, rs.length = Rn := ⟨_, rfl⟩; have HRN := Lib.hid hRn; rw [hRn] at hcapl hs; try rw [hRn]; rw [hRn] at hlen; have hl40 : Rn ≤ 40 := (by omega); have HLEN := Lib.hid hlen; have HS3 := Lib.hid hs; clear hs hgr HS2 hRn hlen)
      | (go_at_call 19; refine (KNew HS3.out 0 rfl HGR.out.size (by omega) 5 (by omega)).mono ?_; rintro e w4 ⟨m, rfl, hs⟩; have HC1 := Lib.hid (KNew hs 1 rfl HGR.out.size (by omega) 1 (by omega)); clear hs HS3)
      | (go_at_call 19; refine (HC1.out).mono ?_; rintro e w4 ⟨mo, rfl, hs⟩; have HS4 := Lib.hid (show Sep w w4 (rowR 36 1 (.slice AL Rn capl) rs.length (nums rs) :: markR mo a 2049 (Col.white) :: markR m a 2049 (Col.white) :: arenaR a A :: adjR Try.prog 36 36 b (ptsOf fs) :: blkR T 25 #[.slice A0 n0 c0, .slice A1 n1 c1] :: []) from by rw [HRN.out]; exact hs.front 4 [3]); clear hs HC1)
      | (go_at_call 43; refine (Some11 A2 n2 c2 D2 HZ2.out (by omega) HS4.out).mono ?_; rintro e w5 ⟨vr, out, rfl, hol, hin, hln, hs⟩; rw [HRN.out] at hs; obtain ⟨AR, capr, rfl, hcapr, hmcapr⟩ := hs.rowShape 0 rfl; unfold maxLen at hmcapr; obtain ⟨Ln, hLn⟩ : ∃ Ln, out.length = Ln := ⟨_, rfl⟩; have HLN := Lib.hid hLn; rw [hLn] at hcapr hs; try rw [hLn]; rw [hLn] at hol; have HS5 := Lib.hid (show Sep w w5 (rowR 36 1 (.slice AR Ln capr) Ln (nums out) :: rowR 36 1 (.slice AL Rn capl) Rn (nums rs) :: markR mo a 2049 (Col.white) :: markR m a 2049 (Col.white) :: arenaR a A :: adjR Try.prog 36 36 b (ptsOf fs) :: blkR T 25 #[.slice A0 n0 c0, .slice A1 n1 c1] :: []) from hs); have HIN := Lib.hid hin; clear hs HS4 hin hln hLn))
    go_loopw [49] (fun i wr => ∃ (k : Nat), k ≤ Ln ∧ i = .int .i64 k ∧ Sep w wr (rowR 36 1 (.slice AR Ln capr) Ln (nums out) :: rowR 36 1 (.slice AL Rn capl) Rn (nums rs) :: markR mo a 2049 (Col.white) :: markR m a 2049 (Col.white.shades (out.take k)) :: arenaR a A :: adjR Try.prog 36 36 b (ptsOf fs) :: blkR T 25 #[.slice A0 n0 c0, .slice A1 n1 c1] :: [])) (fun i _ => Ln + 1 - (intOf i).toNat)
    case atStart => exact ⟨0, by omega, rfl, HS5.out⟩
    case round =>
      clear HS5
      obtain ⟨k, hk, rfl, hs⟩ := hrel
      by_cases hlt : k < Ln
      · have hltI : (k : Int) < (Ln : Int) := by omega
        obtain ⟨x, hx⟩ : ∃ x, out[k]? = some x := ⟨_, List.getElem?_eq_getElem (by rw [HLN.out]; exact hlt)⟩
        obtain ⟨g, cap', hsl, _, _⟩ := hs.rowSome 0 rfl (by omega)
        simp only [Value.slice.injEq] at hsl
        obtain ⟨rfl, _, rfl⟩ := hsl
        have cx := hs.rowCell 0 rfl k _ (nums_get _ _ _ hx)
        have hx2 := HGR.out.lt (HIN.out x (List.mem_of_getElem? hx))
        have HC := Lib.hid (KShade hs 3 rfl x hx2.1 hx2.2)
        have HNX := Lib.hid (shades_next (C := Col.white) hx)
        clear hs hx
        go_wp2_with (go_at_call 20; refine (HC.out).mono ?_; rintro e w7 ⟨rfl, hs⟩; rw [HNX.out] at hs; have HS7 := Lib.hid hs; clear hs HC)
        go_roundw
        case rel => exact ⟨k + 1, by omega, by go_num, HS7.out⟩
        case measure => simp [intOf]; omega
      · obtain rfl : Ln = k := by omega
        rw [shades_all HLN.out] at hs
        have HSN := Lib.hid hs
        clear hs
        go_wp2
        go_loopw [61] (fun i wr => ∃ (k : Nat) (C : Col), k ≤ Ln ∧ i = .int .i64 k ∧ Run (ptsOf fs) (fun x => x ∈ out) C ∧ (∀ j < k, ∀ x, out[Ln - 1 - j]? = some x → C.mz x = true) ∧ Sep w wr (rowR 36 1 (.slice AR Ln capr) Ln (nums out) :: rowR 36 1 (.slice AL Rn capl) Rn (nums rs) :: markR mo a 2049 (C) :: markR m a 2049 (Col.white.shades out) :: arenaR a A :: adjR Try.prog 36 36 b (ptsOf fs) :: blkR T 25 #[.slice A0 n0 c0, .slice A1 n1 c1] :: [])) (fun i _ => Ln + 1 - (intOf i).toNat)
        case atStart => exact ⟨0, _, by omega, rfl, run_white _ _, by simp, HSN.out⟩
        case round =>
          clear HSN
          obtain ⟨k, C, hk, rfl, hrun, hall, hs⟩ := hrel
          by_cases hlt : k < Ln
          · have hltI : (k : Int) < (Ln : Int) := by omega
            obtain ⟨x, hx⟩ : ∃ x, out[k]? = some x := ⟨_, List.getElem?_eq_getElem (by rw [HLN.out]; exact hlt)⟩
            obtain ⟨g, cap', hsl, _, _⟩ := hs.rowSome 0 rfl (by omega)
            simp only [Value.slice.injEq] at hsl
            obtain ⟨rfl, _, rfl⟩ := hsl
            have cx := hs.rowCell 0 rfl k _ (nums_get _ _ _ hx)
            obtain ⟨j, hj, hjl⟩ : ∃ j : Nat, (Ln : Int) - 1 - (k : Int) = (j : Int) ∧ j = Ln - 1 - k := ⟨Ln - 1 - k, by omega, rfl⟩
            have hj0 : (j : Int) < (Ln : Int) := by omega
            have hj1 : (0 : Int) ≤ (j : Int) := by omega
            obtain ⟨y, hy⟩ : ∃ y, out[j]? = some y := ⟨_, List.getElem?_eq_getElem (by rw [HLN.out]; omega)⟩
            have cy := hs.rowCell 0 rfl j _ (nums_get _ _ _ hy)
            have hyo := List.mem_of_getElem? hy
            have hy2 := HGR.out.lt (HIN.out y hyo)
            have HC := Lib.hid (KShade hs 2 rfl y hy2.1 hy2.2)
            have HRUN := Lib.hid (hrun.shade (x := y) hyo)
            have HY := Lib.hid hy
            have HALL := Lib.hid (show ∀ j' < k + 1, ∀ x, out[Ln - 1 - j']? = some x → (C.shade y).mz x = true from fun j' hj' x hx' => by
              by_cases e : j' = k
              · subst e
                rw [← hjl, hy] at hx'
                cases hx'
                exact shade_mz C y
              · exact shade_keeps (hall j' (by omega) x hx'))
            have hown := hs.own
            clear hx cx hrun hall hjl hy
            by_cases hlt3 : k < n3
            · have hlt3I : (k : Int) < (n3 : Int) := by omega
              obtain ⟨ab, ao, hA0, hcell⟩ := HZ3.out.at_ hown hlt3
              subst hA0
              have hc0 := hcell 0 _ rfl
              have hwf := wf8 (HZ3.out.wf hlt3 0 .u8 rfl)
              simp at hc0
              obtain ⟨d0, h0⟩ : ∃ d, D3 k 0 = d := ⟨_, rfl⟩
              rw [h0] at hc0 hwf
              have HD0 := Lib.hid h0
              clear hcell h0
              obtain ⟨q, hq, hql⟩ : ∃ q : Nat, d0 % 4 = (q : Int) ∧ q ≤ 3 := ⟨(d0 % 4).toNat, by omega, by omega⟩
              have hqt : d0.tmod 4 = (q : Int) := by rw [Int.tmod_eq_emod_of_nonneg (by omega)]; exact hq
              clear hs hown
              go_wp2_with (first
                | (go_at_call 20; refine (HC.out).mono ?_; rintro e w7 ⟨rfl, hs⟩; have hc0' := hs.own; obtain ⟨ab', ao', hA', hcell'⟩ := HZ3.out.at_ hc0' hlt3; have hc0 := hcell' 0 _ rfl; simp at hA' hc0; obtain ⟨rfl, rfl⟩ := hA'; rw [HD0.out] at hc0; have HC2 := Lib.hid (KTrace HGR.out.heap HGR.out.size (C := C.shade y) (fun x hx => leads_in HIN.out HGR.out.ptsIn x (HRUN.out.within x hx)) hs 2 4 rfl rfl (by decide) q (by omega)); clear hs HC hcell' hc0')
                | (go_at_call 37; refine (HC2.out).mono ?_; rintro e w8 ⟨d, C2, rfl, ht, hs⟩; have HS8 := Lib.hid hs; have HT := Lib.hid ht; clear hs ht HC2))
              go_roundw
              case rel => exact ⟨k + 1, C2, by omega, by go_num, HRUN.out.steps HT.out.steps, fun j hj x hx => HT.out.steps.mono.1 x (HALL.out j hj x hx), HS8.out⟩
              case measure => simp [intOf]; omega
            · have hlt3I : ¬ (k : Int) < (n3 : Int) := by omega
              clear hs hown
              go_wp2_with (go_at_call 20; refine (HC.out).mono ?_; rintro e w7 ⟨rfl, hs⟩; have HS7 := Lib.hid hs; clear hs HC)
              go_roundw
              case rel => exact ⟨k + 1, _, by omega, by go_num, HRUN.out, HALL.out, HS7.out⟩
              case measure => simp [intOf]; omega
          · obtain rfl : Ln = k := by omega
            have HC := Lib.hid (KTrace HGR.out.heap HGR.out.size (C := Col.white.shades out) (fun x hx => HIN.out x (by rw [white_shades] at hx; exact of_decide_eq_true hx)) hs 3 4 rfl rfl (by decide) Rn (by omega))
            have HRUN := Lib.hid hrun
            have HALL := Lib.hid (show ∀ x ∈ out, C.mz x = true from fun x hx => by
              obtain ⟨j, hj, he⟩ := List.getElem_of_mem hx
              rw [HLN.out] at hj
              exact hall (Ln - 1 - j) (by omega) x (by rw [show Ln - 1 - (Ln - 1 - j) = j by omega, List.getElem?_eq_getElem (by rw [HLN.out]; exact hj), he]))
            clear hs hrun hall
            go_wp2_with (go_at_call 37; refine (HC.out).mono ?_; rintro e w7 ⟨d, CM, rfl, ht, hs⟩; have hr0 := run_shades (l := out) (R := fun x => x ∈ out) (fun _ h => h) (run_white (ptsOf fs) _); have HRM := Lib.hid (hr0.steps ht.steps); have HNM := Lib.hid (traced ht.steps HGR.out.nodup HGR.out.ptsIn (fun x hx => HIN.out x (by rw [white_shades] at hx; exact of_decide_eq_true hx)) (by rw [HRN.out]; omega) ht.end_); have HAM := Lib.hid (show ∀ x ∈ out, CM.mz x = true from fun x hx => ht.steps.mono.1 x (by rw [white_shades]; exact decide_eq_true hx)); have HSM := Lib.hid hs; clear hs ht HC hr0)
            go_loopw [93] (fun i wr => ∃ (k : Nat) (C : Col), k ≤ n3 ∧ i = .int .i64 k ∧ Run (ptsOf fs) (fun x => x ∈ out) C ∧ (∀ x ∈ out, C.mz x = true) ∧ Sep w wr (rowR 36 1 (.slice AR Ln capr) Ln (nums out) :: rowR 36 1 (.slice AL Rn capl) Rn (nums rs) :: markR mo a 2049 (C) :: markR m a 2049 (CM) :: arenaR a A :: adjR Try.prog 36 36 b (ptsOf fs) :: blkR T 25 #[.slice A0 n0 c0, .slice A1 n1 c1] :: [])) (fun i _ => n3 + 1 - (intOf i).toNat)
            case atStart => exact ⟨0, C, by omega, rfl, HRUN.out, HALL.out, HSM.out⟩
            case round =>
              clear HSM HALL HRUN
              obtain ⟨k, C, hk, rfl, hrun, hall, hs⟩ := hrel
              have HRUN := Lib.hid hrun
              have HALL := Lib.hid hall
              have hown := hs.own
              by_cases hlt : k < n3
              · have hltI : (k : Int) < (n3 : Int) := by omega
                obtain ⟨ab, ao, hA0, hcell⟩ := HZ3.out.at_ hown hlt
                subst hA0
                have hc0 := hcell 0 _ rfl
                have hwf := wf8 (HZ3.out.wf hlt 0 .u8 rfl)
                simp at hc0
                obtain ⟨d0, h0⟩ : ∃ d, D3 k 0 = d := ⟨_, rfl⟩
                rw [h0] at hc0 hwf
                clear hcell h0
                obtain ⟨q, hq, hql⟩ : ∃ q : Nat, d0 % 5 = (q : Int) ∧ q ≤ 4 := ⟨(d0 % 5).toNat, by omega, by omega⟩
                have hqt : d0.tmod 5 = (q : Int) := by rw [Int.tmod_eq_emod_of_nonneg (by omega)]; exact hq
                have HC := Lib.hid (KTrace HGR.out.heap HGR.out.size (C := C) (fun x hx => leads_in HIN.out HGR.out.ptsIn x (HRUN.out.within x hx)) hs 2 4 rfl rfl (by decide) q (by omega))
                clear hs hrun hall hown
                go_wp2_with (go_at_call 37; refine (HC.out).mono ?_; rintro e w7 ⟨d, C2, rfl, ht, hs⟩; have HS7 := Lib.hid hs; have HT := Lib.hid ht; clear hs ht HC)
                go_roundw
                case rel => exact ⟨k + 1, C2, by omega, by go_num, HRUN.out.steps HT.out.steps, fun x hx => HT.out.steps.mono.1 x (HALL.out x hx), HS7.out⟩
                case measure => simp [intOf]; omega
              · obtain rfl : n3 = k := by omega
                have HC := Lib.hid (KTrace HGR.out.heap HGR.out.size (C := C) (fun x hx => leads_in HIN.out HGR.out.ptsIn x (HRUN.out.within x hx)) hs 2 4 rfl rfl (by decide) Rn (by omega))
                clear hs hrun hall hown
                go_wp2_with (go_at_call 37; refine (HC.out).mono ?_; rintro e w7 ⟨d, C2, rfl, ht, hs⟩; have HNO := Lib.hid (traced ht.steps HGR.out.nodup HGR.out.ptsIn (fun x hx => leads_in HIN.out HGR.out.ptsIn x (HRUN.out.within x hx)) (by rw [HRN.out]; omega) ht.end_); have HR2 := Lib.hid (HRUN.out.steps ht.steps); have HA2 := Lib.hid (fun x hx => ht.steps.mono.1 x (HALL.out x hx)); have HS9 := Lib.hid hs; clear hs ht HC)
                clear HRUN HALL
                obtain ⟨C, hC2⟩ : ∃ C, C2 = C := ⟨_, rfl⟩
                subst hC2
                have HCMP := Lib.hid (fun x => show CM.mz x = C2.mz x from by
                  have h1 := (HRM.out.end_ HNM.out HAM.out x).1
                  have h2 := (HR2.out.end_ HNO.out HA2.out x).1
                  rw [Bool.eq_iff_iff, h1, h2])
                have HSCP := Lib.hid (fun x => show CM.sc x = C2.sc x from by
                  rw [(HRM.out.end_ HNM.out HAM.out x).2, (HR2.out.end_ HNO.out HA2.out x).2, HCMP.out x])
                go_loopw [109] (fun i wr => ∃ (k : Nat), k ≤ Rn ∧ i = .int .i64 k ∧ Sep w wr (rowR 36 1 (.slice AR Ln capr) Ln (nums out) :: rowR 36 1 (.slice AL Rn capl) Rn (nums rs) :: markR mo a 2049 (C2) :: markR m a 2049 (CM) :: arenaR a A :: adjR Try.prog 36 36 b (ptsOf fs) :: blkR T 25 #[.slice A0 n0 c0, .slice A1 n1 c1] :: [])) (fun i _ => Rn + 1 - (intOf i).toNat)
                case atStart => exact ⟨0, by omega, rfl, HS9.out⟩
                case round =>
                  clear HS9
                  obtain ⟨k, hk, rfl, hs⟩ := hrel
                  by_cases hlt : k < Rn
                  · have hltI : (k : Int) < (Rn : Int) := by omega
                    obtain ⟨x, hx⟩ : ∃ x, rs[k]? = some x := ⟨_, List.getElem?_eq_getElem (by rw [HRN.out]; exact hlt)⟩
                    obtain ⟨g, cap', hsl, _, _⟩ := hs.rowSome 1 rfl (by omega)
                    simp only [Value.slice.injEq] at hsl
                    obtain ⟨rfl, _, rfl⟩ := hsl
                    have cx := hs.rowCell 1 rfl k _ (nums_get _ _ _ hx)
                    have hx2 := HGR.out.lt (List.mem_of_getElem? hx)
                    have hcm := HCMP.out x
                    have hsm := HSCP.out x
                    obtain ⟨b1, hb1⟩ : ∃ b, C2.mz x = b := ⟨_, rfl⟩
                    obtain ⟨b2, hb2⟩ : ∃ b, C2.sc x = b := ⟨_, rfl⟩
                    rw [hb1] at hcm
                    rw [hb2] at hsm
                    have HB1 := Lib.hid hb1
                    have HB2 := Lib.hid hb2
                    have HM1 := Lib.hid hcm
                    have HM2 := Lib.hid hsm
                    have HC := Lib.hid (KMarked hs 3 rfl x hx2.2)
                    clear hs hx hcm hsm hb1 hb2
                    cases b1 <;> cases b2
                    all_goals
                      go_wp2_with (first
                        | (go_at_call 27; refine (HC.out).mono ?_; rw [HM1.out]; rintro e w7 ⟨rfl, hs⟩; have HC2 := Lib.hid (KMarked hs 2 rfl x hx2.2); clear hs HC)
                        | (go_at_call 27; refine (HC2.out).mono ?_; rw [HB1.out]; rintro e w8 ⟨rfl, hs⟩; have HC3 := Lib.hid (KScanned hs 3 rfl x hx2.2); clear hs HC2)
                        | (go_at_call 28; refine (HC3.out).mono ?_; rw [HM2.out]; rintro e w9 ⟨rfl, hs⟩; have HC4 := Lib.hid (KScanned hs 2 rfl x hx2.2); clear hs HC3)
                        | (go_at_call 28; refine (HC4.out).mono ?_; rw [HB2.out]; rintro e w10 ⟨rfl, hs⟩; have HS10 := Lib.hid hs; clear hs HC4))
                      go_roundw
                      case rel => exact ⟨k + 1, by omega, by go_num, HS10.out⟩
                      case measure => simp [intOf]; omega
                  · obtain rfl : Rn = k := by omega
                    have HC := Lib.hid (KDrained hs 3 rfl)
                    clear hs
                    go_wp2_with (first
                      | (go_at_call 41; refine (HC.out).mono ?_; rintro e w7 ⟨bb, rfl, hb, hs⟩; obtain rfl : bb = true := hb.2 HNM.out; have HC2 := Lib.hid (KDrained hs 2 rfl); clear hs hb HC)
                      | (go_at_call 41; refine (HC2.out).mono ?_; rintro e w8 ⟨bb, rfl, hb, hs⟩; obtain rfl : bb = true := hb.2 HNO.out; have HS8 := Lib.hid hs; clear hs hb HC2))
                    go_ret
                    exact ⟨rfl, HS8.out.below⟩
  · by_cases hsm : n0 ≤ 40 ∧ n1 ≤ 120
    · have HSD := Lib.hid (show (decide (n0 ≤ 40) && decide (n1 ≤ 120)) = true by rw [decide_eq_true hsm.1, decide_eq_true hsm.2]; rfl)
      have hgt : (20 : Int) < (n2 : Int) ∨ (¬ (20 : Int) < (n2 : Int) ∧ (40 : Int) < (n3 : Int)) := by omega
      rcases hgt with hgt | ⟨hgt, hgt3⟩
      all_goals
      clear hsm hsmall
      go_wp2_with (first
        | (go_at_call 42; refine (fit11 _).mono ?_; rintro e w1 ⟨rfl, hC⟩; have hs1 := HS0.out.same hC; have p0 := (hs1.blk 0 rfl).cell 0; have p1 := (hs1.blk 0 rfl).cell 1; simp only [List.getElem?_toArray, List.getElem?_cons_zero, List.getElem?_cons_succ] at p0 p1; have HS1 := Lib.hid hs1; clear hC hs1 HS0)
        | (go_at_call 17; refine (Small11 _ A0 n0 c0 A1 n1 c1).mono ?_; rw [HSD.out]; rintro e w2 ⟨rfl, hC⟩; have HS2 := Lib.hid (HS1.out.same hC); clear hC HS1))
      go_ret
      exact ⟨rfl, HS2.out.below⟩
    · have HSD := Lib.hid (show (decide (n0 ≤ 40) && decide (n1 ≤ 120)) = false by
        rw [Bool.and_eq_false_iff]
        by_cases h : n0 ≤ 40
        · exact .inr (decide_eq_false fun h2 => hsm ⟨h, h2⟩)
        · exact .inl (decide_eq_false h))
      clear hsm hsmall
      go_wp2_with (first
        | (go_at_call 42; refine (fit11 _).mono ?_; rintro e w1 ⟨rfl, hC⟩; have hs1 := HS0.out.same hC; have p0 := (hs1.blk 0 rfl).cell 0; have p1 := (hs1.blk 0 rfl).cell 1; simp only [List.getElem?_toArray, List.getElem?_cons_zero, List.getElem?_cons_succ] at p0 p1; have HS1 := Lib.hid hs1; clear hC hs1 HS0)
        | (go_at_call 17; refine (Small11 _ A0 n0 c0 A1 n1 c1).mono ?_; rw [HSD.out]; rintro e w2 ⟨rfl, hC⟩; have HS2 := Lib.hid (HS1.out.same hC); clear hC HS1))
      go_ret
      exact ⟨rfl, HS2.out.below⟩
end Go.Proofs.Ytacebfocfpbkdaa
