/-
  Parts of the proof, joined: MarkReachesW. Conditions: as each part says.
-/
import Derived.Test.YtacebfocfpbkdaaL5
import Derived.Test.YtacebfocfpbkdaaL1

/-
  The walk of MarkReaches. Conditions: as the theorem says.
-/
namespace Go.Proofs.Ytacebfocfpbkdaa
set_option linter.unusedVariables false
set_option linter.unusedSimpArgs false
open Go.RowKit Go.Shelf

set_option maxRecDepth 100000 in
set_option maxHeartbeats 16000000 in
theorem markReaches_walk (A0 : Option Addr) (n0 c0 : Nat) (D0 : Nat → Nat → Int) (A1 : Option Addr) (n1 c1 : Nat) (D1 : Nat → Nat → Int) (A2 : Option Addr) (n2 c2 : Nat) (D2 : Nat → Nat → Int) (r0 r1 : Int) (w : World) (hz0 : ArgI w A0 n0 [.u8] D0) (hm0 : n0 ≤ maxLen) (hz1 : ArgI w A1 n1 [.u16, .u16, .u16] D1) (hm1 : n1 ≤ maxLen) (hz2 : ArgI w A2 n2 [.u8] D2) (hm2 : n2 ≤ maxLen) (hr0 : (Lit.int .u8 r0).wf = true) (hr1 : (Lit.int .u8 r1).wf = true) :
    Calls Try.prog 12 #[.agg #[.slice A0 n0 c0, .slice A1 n1 c1], .slice A2 n2 c2, .agg #[.int .u8 r0, .int .u8 r1]] w fun e w' => e = .returned (.bool true) ∧ Below w.heap.size w w' := by
  have HZ0 := Lib.hid hz0
  have HZ1 := Lib.hid hz1
  have HZ2 := Lib.hid hz2
  have hw0 := wf8 hr0
  have hw1 := wf8 hr1
  unfold maxLen at hm0 hm1 hm2
  clear hz0 hz1 hz2
  obtain ⟨T, hT⟩ : ∃ T, w.heap.size = T := ⟨_, rfl⟩
  clear hr0 hr1
  have hs0 := ((Sep.start w).box #[.slice A0 n0 c0, .slice A1 n1 c1] 25).box #[.int .u8 r0, .int .u8 r1] 41
  rw [World.size_alloc, hT] at hs0
  have HS0 := Lib.hid hs0
  clear hs0
  go_enter Try.func12, Try.ntmps12
  by_cases hsmall : (n0 ≤ 40 ∧ n1 ≤ 120) ∧ n2 ≤ 20
  · have hsd : (decide (n0 ≤ 40) && decide (n1 ≤ 120)) = true := by rw [decide_eq_true hsmall.1.1, decide_eq_true hsmall.1.2]; rfl
    have HSD := Lib.hid hsd
    obtain ⟨⟨hn0, hn1⟩, hn2⟩ := hsmall
    clear hsd
    have hgt : ¬ (20 : Int) < (n2 : Int) := by omega
    go_wp2_with (first
      | (go_at_call 42; refine (fit11 _).mono ?_; rintro e w1 ⟨rfl, hC⟩; have hs1 := HS0.out.same hC; have p0 := (hs1.blk 1 rfl).cell 0; have p1 := (hs1.blk 1 rfl).cell 1; have q0 := (hs1.blk 0 rfl).cell 0; have q1 := (hs1.blk 0 rfl).cell 1; simp only [List.getElem?_toArray, List.getElem?_cons_zero, List.getElem?_cons_succ] at p0 p1 q0 q1; have HS1 := Lib.hid hs1; clear hC hs1 HS0)
      | (go_at_call 17; refine (Small11 _ A0 n0 c0 A1 n1 c1).mono ?_; rw [HSD.out]; rintro e w2 ⟨rfl, hC⟩; have hs1 := HS1.out.same hC; have p0 := (hs1.blk 1 rfl).cell 0; have p1 := (hs1.blk 1 rfl).cell 1; have q0 := (hs1.blk 0 rfl).cell 0; have q1 := (hs1.blk 0 rfl).cell 1; simp only [List.getElem?_toArray, List.getElem?_cons_zero, List.getElem?_cons_succ] at p0 p1 q0 q1; have HS2 := Lib.hid hs1; clear hC hs1 HS1)
      | (go_at_call 18; refine (Made11 A0 n0 c0 D0 A1 n1 c1 D1 HZ0.out HZ1.out hn0 hn1 HS2.out).mono ?_; rintro e w3 ⟨a, b, v, A, rs, fs, rfl, hgr, hlen, hs⟩; have p0 := (hs.blk 4 rfl).cell 0; have p1 := (hs.blk 4 rfl).cell 1; have q0 := (hs.blk 3 rfl).cell 0; have q1 := (hs.blk 3 rfl).cell 1; simp only [List.getElem?_toArray, List.getElem?_cons_zero, List.getElem?_cons_succ] at p0 p1 q0 q1; have HGR := Lib.hid hgr; obtain ⟨AL, capl, rfl, hcapl, hmcapl⟩ := hs.rowShape 1 rfl; unfold maxLen at hmcapl; obtain ⟨Rn, hRn⟩ : ∃ Rn, rs.length = Rn := ⟨_, rfl⟩; have HRN := Lib.hid hRn; rw [hRn] at hcapl hs; try rw [hRn]; rw [hRn] at hlen; have hl40 : Rn ≤ 40 := (by omega); have HLEN := Lib.hid hlen; have HS3 := Lib.hid hs; clear hs hgr HS2 hRn hlen)
      | (go_at_call 19; refine (KNew HS3.out 0 rfl HGR.out.size (by omega) _ (by omega)).mono ?_; rintro e w4 ⟨m, rfl, hs⟩; have HS4 := Lib.hid (show Sep w w4 (rowR 36 1 (.slice AL Rn capl) rs.length (nums rs) :: markR m a 2049 (Col.white) :: arenaR a A :: adjR Try.prog 36 36 b (ptsOf fs) :: blkR (T + 1) 41 #[.int .u8 r0, .int .u8 r1] :: blkR T 25 #[.slice A0 n0 c0, .slice A1 n1 c1] :: []) from by rw [HRN.out]; exact hs.front 3 [2]); clear hs HS3)
      | (go_at_call 43; refine (Some11 A2 n2 c2 D2 HZ2.out (by omega) HS4.out).mono ?_; rintro e w5 ⟨vr, out, rfl, hol, hin, hln, hs⟩; rw [HRN.out] at hs; obtain ⟨AR, capr, rfl, hcapr, hmcapr⟩ := hs.rowShape 0 rfl; unfold maxLen at hmcapr; obtain ⟨Ln, hLn⟩ : ∃ Ln, out.length = Ln := ⟨_, rfl⟩; have HLN := Lib.hid hLn; rw [hLn] at hcapr hs; try rw [hLn]; rw [hLn] at hol; have HS5 := Lib.hid (show Sep w w5 (rowR 36 1 (.slice AR Ln capr) Ln (nums out) :: rowR 36 1 (.slice AL Rn capl) Rn (nums rs) :: markR m a 2049 (Col.white) :: arenaR a A :: adjR Try.prog 36 36 b (ptsOf fs) :: blkR (T + 1) 41 #[.int .u8 r0, .int .u8 r1] :: blkR T 25 #[.slice A0 n0 c0, .slice A1 n1 c1] :: []) from hs); have HIN := Lib.hid hin; clear hs HS4 hin hln hLn))
    go_loopw [47] (fun i wr => ∃ k : Nat, k ≤ Ln ∧ i = .int .i64 k ∧ Sep w wr (rowR 36 1 (.slice AR Ln capr) Ln (nums out) :: rowR 36 1 (.slice AL Rn capl) Rn (nums rs) :: markR m a 2049 (Col.white.shades (out.take k)) :: arenaR a A :: adjR Try.prog 36 36 b (ptsOf fs) :: blkR (T + 1) 41 #[.int .u8 r0, .int .u8 r1] :: blkR T 25 #[.slice A0 n0 c0, .slice A1 n1 c1] :: [])) (fun i _ => Ln + 1 - (intOf i).toNat)
    case atStart => exact ⟨0, by omega, rfl, HS5.out⟩
    case round =>
      clear HS5
      obtain ⟨k, hk, rfl, hs⟩ := hrel
      by_cases hlt : k < Ln
      · have hltI : (k : Int) < (Ln : Int) := by omega
        obtain ⟨x, hx⟩ : ∃ x, out[k]? = some x := ⟨_, List.getElem?_eq_getElem (by rw [HLN.out]; exact hlt)⟩
        obtain ⟨g, cap', hsl, _, _⟩ := hs.rowSome 0 rfl (by omega)
        simp only [Value.slice.injEq] at hsl
        obtain ⟨rfl, _, rfl⟩ := hsl
        have cx := hs.rowCell 0 rfl k _ (nums_get _ _ _ hx)
        have hx2 := HGR.out.lt (HIN.out x (List.mem_of_getElem? hx))
        have HC := Lib.hid (KMarked hs 2 rfl x hx2.2)
        obtain ⟨bb, hbb⟩ : ∃ bb, (Col.white.shades (out.take k)).mz x = bb := ⟨_, rfl⟩
        have HBB := Lib.hid hbb
        have HNX := Lib.hid (shades_next (C := Col.white) hx)
        clear hs hbb hx
        cases bb
        all_goals
          go_wp2_with (first
            | (go_at_call 27; refine (HC.out).mono ?_; rw [HBB.out]; rintro e w6 ⟨rfl, hs⟩; have HC2 := Lib.hid (KShade hs 2 rfl x hx2.1 hx2.2); clear hs HC)
            | (go_at_call 20; refine (HC2.out).mono ?_; rw [HBB.out]; rintro e w7 ⟨rfl, hs⟩; rw [HNX.out] at hs; have HS7 := Lib.hid hs; clear hs HC2))
          go_roundw
          case rel => exact ⟨k + 1, by omega, by go_num, HS7.out⟩
          case measure => simp [intOf]; omega
      · obtain rfl : Ln = k := by omega
        rw [shades_all HLN.out] at hs
        have HC := Lib.hid (Reach11 (HGR.out.field (by rw [HRN.out]; omega)) HIN.out (by rw [HLN.out]; omega) (show Sep w wr (rowR 36 1 (.slice AR Ln capr) out.length (nums out) :: adjR Try.prog 36 36 b (ptsOf fs) :: rowR 36 1 (.slice AL Rn capl) Rn (nums rs) :: markR m a 2049 (Col.white.shades out) :: arenaR a A :: blkR (T + 1) 41 #[.int .u8 r0, .int .u8 r1] :: blkR T 25 #[.slice A0 n0 c0, .slice A1 n1 c1] :: []) from by
          rw [HLN.out]
          exact hs.front 5 [0, 4]))
        clear hs
        go_wp2_with (go_at_call 44; refine (HC.out).mono ?_; rintro e w6 ⟨mb, V, rfl, hV, hVo, hs⟩; rw [HLN.out] at hs; have HS6 := Lib.hid (show Sep w w6 (markR m a 2049 (Col.white.shades out) :: arenaR a A :: mapR Try.prog 35 36 3 .i64 .i64 mb (rs.countP V) (visM V) :: rowR 36 1 (.slice AL Rn capl) Rn (nums rs) :: rowR 36 1 (.slice AR Ln capr) Ln (nums out) :: adjR Try.prog 36 36 b (ptsOf fs) :: blkR (T + 1) 41 #[.int .u8 r0, .int .u8 r1] :: blkR T 25 #[.slice A0 n0 c0, .slice A1 n1 c1] :: []) from hs.front 6 [4, 5, 0, 3, 1, 2]); have HV := Lib.hid hV; have HVO := Lib.hid hVo; clear hs hV hVo HC)
        clear q0 q1
        go_loopw [16] (fun i wr => ∃ (d : Nat) (C : Col), d ≤ Rn ∧ i = .int .i64 d ∧ Steps (ptsOf fs) d (Col.white.shades out) C ∧ Sep w wr (markR m a 2049 (C) :: arenaR a A :: mapR Try.prog 35 36 3 .i64 .i64 mb (rs.countP V) (visM V) :: rowR 36 1 (.slice AL Rn capl) Rn (nums rs) :: rowR 36 1 (.slice AR Ln capr) Ln (nums out) :: adjR Try.prog 36 36 b (ptsOf fs) :: blkR (T + 1) 41 #[.int .u8 r0, .int .u8 r1] :: blkR T 25 #[.slice A0 n0 c0, .slice A1 n1 c1] :: [])) (fun i _ => Rn + 1 - (intOf i).toNat)
        case atStart => exact ⟨0, _, by omega, rfl, .zero _, HS6.out⟩
        case round =>
          clear HS6
          obtain ⟨d, C, hd, rfl, hst, hs⟩ := hrel
          have HST := Lib.hid hst
          have HC := Lib.hid (KDrained hs 0 rfl)
          obtain ⟨kq, hkq, hkq5⟩ : ∃ kq : Nat, r1 % 5 = (kq : Int) ∧ kq ≤ 4 := ⟨(r1 % 5).toNat, by omega, by omega⟩
          have hkt : r1.tmod 5 = (kq : Int) := by rw [Int.tmod_eq_emod_of_nonneg (by omega)]; exact hkq
          have q0 := (hs.blk 6 rfl).cell 1
          simp only [List.getElem?_toArray, List.getElem?_cons_zero, List.getElem?_cons_succ] at q0
          clear hst hs
          go_wp2_with (first
            | (go_at_call 41; refine (HC.out).mono ?_; rintro e w7 ⟨bb, rfl, hb, hs⟩; have HB := Lib.hid hb; have HS7 := Lib.hid hs; have q1 := (hs.blk 6 rfl).cell 1; simp only [List.getElem?_toArray, List.getElem?_cons_zero, List.getElem?_cons_succ] at q1; have hc2 := KTrace HGR.out.heap HGR.out.size (C := C) (HST.out.within HGR.out.ptsIn (fun x hx => HIN.out x (by rw [white_shades] at hx; exact of_decide_eq_true hx))) HS7.out 0 1 rfl rfl (by decide) (1 + kq) (by omega); push_cast at hc2; have HC2 := Lib.hid hc2; clear hc2; clear hs hb HC q0; cases bb)
            | (go_at_call 37; refine (HC2.out).mono ?_; rintro e w8 ⟨d2, C2, rfl, ht, hs⟩; have HS8 := Lib.hid hs; have hd2 : 0 < d2 := (ht.some_ (by omega) (some_grey (fun h => by have := HB.out.2 h; cases this)).choose_spec); have HT2 := Lib.hid ht; have HMO := Lib.hid ((HST.out.trans ht.steps).most0 HGR.out.nodup HGR.out.ptsIn HIN.out); clear hs ht HC2; have hd2z : ¬ (d2 : Int) = 0 := (by omega); have hd2b : ((d2 : Int) == 0) = false := (by simpa using hd2z); have hdle : d + d2 ≤ Rn := (by have := HMO.out.2; rw [HRN.out] at this; exact this); have hgt2 : ¬ (Rn : Int) < (d : Int) + (d2 : Int) := (by omega)))
          · go_roundw
            case rel => exact ⟨d + d2, C2, hdle, by push_cast; rfl, HST.out.trans HT2.out.steps, HS8.out⟩
            case measure => simp [intOf]; omega
          · have HNO := Lib.hid (HB.out.1 (by first | rfl | trivial))
            have HSD2 := HS7
            have HMS := Lib.hid (reach_marks HST.out HNO.out HV.out)
            clear HB HC2 HS7 hkq hkt q1
            go_loopw [86] (fun i wr => ∃ k : Nat, k ≤ Rn ∧ i = .int .i64 k ∧ Sep w wr (markR m a 2049 (C) :: arenaR a A :: mapR Try.prog 35 36 3 .i64 .i64 mb (rs.countP V) (visM V) :: rowR 36 1 (.slice AL Rn capl) Rn (nums rs) :: rowR 36 1 (.slice AR Ln capr) Ln (nums out) :: adjR Try.prog 36 36 b (ptsOf fs) :: blkR (T + 1) 41 #[.int .u8 r0, .int .u8 r1] :: blkR T 25 #[.slice A0 n0 c0, .slice A1 n1 c1] :: [])) (fun i _ => Rn + 1 - (intOf i).toNat)
            case atStart => exact ⟨0, by omega, rfl, HSD2.out⟩
            case round =>
              clear HSD2
              obtain ⟨k, hk, rfl, hs⟩ := hrel
              by_cases hlt : k < Rn
              · have hltI : (k : Int) < (Rn : Int) := by omega
                obtain ⟨xr, hx⟩ : ∃ x, rs[k]? = some x := ⟨_, List.getElem?_eq_getElem (by rw [HRN.out]; exact hlt)⟩
                obtain ⟨g, cap', hsl, _, _⟩ := hs.rowSome 3 rfl (by omega)
                simp only [Value.slice.injEq] at hsl
                obtain ⟨rfl, _, rfl⟩ := hsl
                have cx := hs.rowCell 3 rfl k _ (nums_get _ _ _ hx)
                have hx2 := HGR.out.lt (List.mem_of_getElem? hx)
                have HSB := Lib.hid hs
                obtain ⟨hmz, hsc⟩ := HMS.out
                have hmk := fun W (S : Sep w W (markR m a 2049 (C) :: arenaR a A :: mapR Try.prog 35 36 3 .i64 .i64 mb (rs.countP V) (visM V) :: rowR 36 1 (.slice (some ⟨g, 0, none⟩) Rn capl) Rn (nums rs) :: rowR 36 1 (.slice AR Ln capr) Ln (nums out) :: adjR Try.prog 36 36 b (ptsOf fs) :: blkR (T + 1) 41 #[.int .u8 r0, .int .u8 r1] :: blkR T 25 #[.slice A0 n0 c0, .slice A1 n1 c1] :: [])) => KMarked S 0 rfl xr hx2.2
                have hsk := fun W (S : Sep w W (markR m a 2049 (C) :: arenaR a A :: mapR Try.prog 35 36 3 .i64 .i64 mb (rs.countP V) (visM V) :: rowR 36 1 (.slice (some ⟨g, 0, none⟩) Rn capl) Rn (nums rs) :: rowR 36 1 (.slice AR Ln capr) Ln (nums out) :: adjR Try.prog 36 36 b (ptsOf fs) :: blkR (T + 1) 41 #[.int .u8 r0, .int .u8 r1] :: blkR T 25 #[.slice A0 n0 c0, .slice A1 n1 c1] :: [])) => KScanned S 0 rfl xr hx2.2
                rw [hmz] at hmk
                rw [hsc] at hsk
                obtain ⟨bb, hbb⟩ : ∃ bb, V xr = bb := ⟨_, rfl⟩
                have HVX := Lib.hid hbb
                rw [hbb] at hmk hsk
                clear hs hx hmz hsc hbb
                cases bb
                · have HMK := Lib.hid hmk
                  have HSK := Lib.hid hsk
                  clear hmk hsk
                  go_wp2
                  refine region_sep HSB.out (by kernel_rfl) (by kernel_rfl) ?_
                  intro hne0
                  have ylk : ∀ x : SepW w (markR m a 2049 (C) :: arenaR a A :: mapR Try.prog 35 36 3 .i64 .i64 mb (rs.countP V) (visM V) :: rowR 36 1 (.slice (some ⟨g, 0, none⟩) Rn capl) Rn (nums rs) :: rowR 36 1 (.slice AR Ln capr) Ln (nums out) :: adjR Try.prog 36 36 b (ptsOf fs) :: blkR (T + 1) 41 #[.int .u8 r0, .int .u8 r1] :: blkR T 25 #[.slice A0 n0 c0, .slice A1 n1 c1] :: []), (Instr.lookup 35 (.map (some mb)) (.int .i64 (xr : Int)) false).run Try.prog x.w' = .ok (.int .i64 0) x.w' := fun x => by
                    have := map_get refIntOk x.h 2 rfl (wfx (x := xr) (by omega))
                    rw [visM_at, HVX.out] at this
                    simpa using this
                  repeat (go_big_quiet_step (first
                    | (go_at_call 27; exact sep_calls (HMK.out _ (SepW.h _)))
                    | (go_at_call 28; exact sep_calls (HSK.out _ (SepW.h _)))))
                  refine wpQuiet_nil ?_
                  rintro wq ⟨⟨wqx, hs⟩, rfl⟩
                  clear ylk hne0
                  go_wp2
                  go_roundw
                  case rel => exact ⟨k + 1, by omega, by go_num, hs⟩
                  case measure => simp [intOf]; omega
                · have HMK := Lib.hid hmk
                  have HSK := Lib.hid hsk
                  clear hmk hsk
                  go_wp2
                  refine region_sep HSB.out (by kernel_rfl) (by kernel_rfl) ?_
                  intro hne0
                  have ylk : ∀ x : SepW w (markR m a 2049 (C) :: arenaR a A :: mapR Try.prog 35 36 3 .i64 .i64 mb (rs.countP V) (visM V) :: rowR 36 1 (.slice (some ⟨g, 0, none⟩) Rn capl) Rn (nums rs) :: rowR 36 1 (.slice AR Ln capr) Ln (nums out) :: adjR Try.prog 36 36 b (ptsOf fs) :: blkR (T + 1) 41 #[.int .u8 r0, .int .u8 r1] :: blkR T 25 #[.slice A0 n0 c0, .slice A1 n1 c1] :: []), (Instr.lookup 35 (.map (some mb)) (.int .i64 (xr : Int)) false).run Try.prog x.w' = .ok (.int .i64 1) x.w' := fun x => by
                    have := map_get refIntOk x.h 2 rfl (wfx (x := xr) (by omega))
                    rw [visM_at, HVX.out] at this
                    simpa using this
                  repeat (go_big_quiet_step (first
                    | (go_at_call 27; exact sep_calls (HMK.out _ (SepW.h _)))
                    | (go_at_call 28; exact sep_calls (HSK.out _ (SepW.h _)))))
                  refine wpQuiet_nil ?_
                  rintro wq ⟨⟨wqx, hs⟩, rfl⟩
                  clear ylk hne0
                  go_wp2
                  go_roundw
                  case rel => exact ⟨k + 1, by omega, by go_num, hs⟩
                  case measure => simp [intOf]; omega
              · obtain rfl : Rn = k := by omega
                obtain ⟨hmz, hsc⟩ := HMS.out
                have hn1 := (HST.out.most0 HGR.out.nodup HGR.out.ptsIn HIN.out).1
                rw [hsc] at hn1
                have hcnt : (elems 2049 C.mz).length = d := by
                  rw [hmz, elems_count HGR.out.nodup (fun x hx => (HGR.out.lt hx).2) HVO.out, hn1]
                have hsw := hs
                rw [hn1] at hsw
                have HLEN2 := Lib.hid (fun ty => map_len refIntOk hsw 2 rfl ty)
                have HC3 := Lib.hid (KCount hsw 0 rfl)
                rw [hcnt] at HC3
                clear hs hsw hmz hsc hn1 hcnt
                go_wp2_with (first
                  | (at_len; refine wpList_len_run rfl _ _ rfl rfl HLEN2.out ?_)
                  | (go_at_call 33; refine (HC3.out).mono ?_; rintro e w9 ⟨rfl, hs⟩; have HC4 := Lib.hid (KTrace HGR.out.heap HGR.out.size (C := C) (HST.out.within HGR.out.ptsIn (fun x hx => HIN.out x (by rw [white_shades] at hx; exact of_decide_eq_true hx))) hs 0 1 rfl rfl (by decide) 5 (by omega)); clear hs HC3)
                  | (go_at_call 37; refine (HC4.out).mono ?_; rintro e w10 ⟨d3, C3, rfl, ht, hs⟩; obtain ⟨rfl, rfl⟩ := ht.none_ HNO.out; have HS10 := Lib.hid hs; clear hs ht HC4))

                go_ret
                exact ⟨rfl, HS10.out.below⟩
  · by_cases hsm : n0 ≤ 40 ∧ n1 ≤ 120
    · have HSD := Lib.hid (show (decide (n0 ≤ 40) && decide (n1 ≤ 120)) = true by rw [decide_eq_true hsm.1, decide_eq_true hsm.2]; rfl)
      have hgt : (20 : Int) < (n2 : Int) := by omega
      clear hsm hsmall
      go_wp2_with (first
        | (go_at_call 42; refine (fit11 _).mono ?_; rintro e w1 ⟨rfl, hC⟩; have hs1 := HS0.out.same hC; have p0 := (hs1.blk 1 rfl).cell 0; have p1 := (hs1.blk 1 rfl).cell 1; have q0 := (hs1.blk 0 rfl).cell 0; have q1 := (hs1.blk 0 rfl).cell 1; simp only [List.getElem?_toArray, List.getElem?_cons_zero, List.getElem?_cons_succ] at p0 p1 q0 q1; have HS1 := Lib.hid hs1; clear hC hs1 HS0)
        | (go_at_call 17; refine (Small11 _ A0 n0 c0 A1 n1 c1).mono ?_; rw [HSD.out]; rintro e w2 ⟨rfl, hC⟩; have HS2 := Lib.hid (HS1.out.same hC); clear hC HS1))
      go_ret
      exact ⟨rfl, HS2.out.below⟩
    · have HSD := Lib.hid (show (decide (n0 ≤ 40) && decide (n1 ≤ 120)) = false by
        rw [Bool.and_eq_false_iff]
        by_cases h : n0 ≤ 40
        · exact .inr (decide_eq_false fun h2 => hsm ⟨h, h2⟩)
        · exact .inl (decide_eq_false h))
      clear hsm hsmall
      go_wp2_with (first
        | (go_at_call 42; refine (fit11 _).mono ?_; rintro e w1 ⟨rfl, hC⟩; have hs1 := HS0.out.same hC; have p0 := (hs1.blk 1 rfl).cell 0; have p1 := (hs1.blk 1 rfl).cell 1; have q0 := (hs1.blk 0 rfl).cell 0; have q1 := (hs1.blk 0 rfl).cell 1; simp only [List.getElem?_toArray, List.getElem?_cons_zero, List.getElem?_cons_succ] at p0 p1 q0 q1; have HS1 := Lib.hid hs1; clear hC hs1 HS0)
        | (go_at_call 17; refine (Small11 _ A0 n0 c0 A1 n1 c1).mono ?_; rw [HSD.out]; rintro e w2 ⟨rfl, hC⟩; have HS2 := Lib.hid (HS1.out.same hC); clear hC HS1))
      go_ret
      exact ⟨rfl, HS2.out.below⟩
end Go.Proofs.Ytacebfocfpbkdaa
