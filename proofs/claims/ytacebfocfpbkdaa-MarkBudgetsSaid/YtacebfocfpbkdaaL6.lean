/-
  Parts of the proof, joined: MarkBudgetsW. Conditions: as each part says.
-/
import Derived.Test.YtacebfocfpbkdaaL5
import Derived.Test.YtacebfocfpbkdaaL1

/-
  The walk of MarkBudgets. Conditions: as the theorem says.
-/
namespace Go.Proofs.Ytacebfocfpbkdaa
set_option linter.unusedVariables false
set_option linter.unusedSimpArgs false
open Go.RowKit Go.Shelf Go.Maps

theorem Traced.zero_ {pts : Nat → List Nat} {d : Nat} {C C' : Col} (h : Traced pts 0 d C C') : d = 0 ∧ C' = C := by
  obtain ⟨hs, hm, _⟩ := h
  obtain rfl : d = 0 := by omega
  cases hs
  exact ⟨rfl, rfl⟩
theorem elems_white (n : Nat) : (elems n Col.white.mz).length = 0 := by
  unfold elems
  rw [List.filter_eq_nil_iff.2 (fun x _ => by simp [Col.white])]
  rfl
theorem shut_none_w (pts : Nat → List Nat) : Col.white.shut pts := fun _ h => by cases h
theorem white_grey (x : Nat) : Col.white.grey x = false := rfl
set_option maxRecDepth 100000 in
set_option maxHeartbeats 16000000 in
theorem markBudgets_walk (A0 : Option Addr) (n0 c0 : Nat) (D0 : Nat → Nat → Int) (A1 : Option Addr) (n1 c1 : Nat) (D1 : Nat → Nat → Int) (A2 : Option Addr) (n2 c2 : Nat) (D2 : Nat → Nat → Int) (bn : Int) (w : World) (hz0 : ArgI w A0 n0 [.u8] D0) (hm0 : n0 ≤ maxLen) (hz1 : ArgI w A1 n1 [.u16, .u16, .u16] D1) (hm1 : n1 ≤ maxLen) (hz2 : ArgI w A2 n2 [.u8] D2) (hm2 : n2 ≤ maxLen) (hbn : (Lit.int .u8 bn).wf = true) :
    Calls Try.prog 14 #[.agg #[.slice A0 n0 c0, .slice A1 n1 c1], .slice A2 n2 c2, .int .u8 bn] w fun e w' => e = .returned (.bool true) ∧ Below w.heap.size w w' := by
  have HZ0 := Lib.hid hz0
  have HZ1 := Lib.hid hz1
  have HZ2 := Lib.hid hz2
  have hbw := wf8 hbn
  unfold maxLen at hm0 hm1
  try unfold maxLen at hm2
  clear hz0 hz1 hz2
  obtain ⟨T, hT⟩ : ∃ T, w.heap.size = T := ⟨_, rfl⟩
  clear hbn
  have hs0 := (Sep.start w).box #[.slice A0 n0 c0, .slice A1 n1 c1] 25
  rw [hT] at hs0
  have HS0 := Lib.hid hs0
  clear hs0
  go_enter Try.func14, Try.ntmps14
  by_cases hsmall : (n0 ≤ 40 ∧ n1 ≤ 120) ∧ n2 ≤ 20
  · have hsd : (decide (n0 ≤ 40) && decide (n1 ≤ 120)) = true := by rw [decide_eq_true hsmall.1.1, decide_eq_true hsmall.1.2]; rfl
    have HSD := Lib.hid hsd
    obtain ⟨⟨hn0, hn1⟩, hn2⟩ := hsmall
    clear hsd
    have hgt : ¬ (20 : Int) < (n2 : Int) := by omega
    go_wp2_with (first
      | (go_at_call 42; refine (fit11 _).mono ?_; rintro e w1 ⟨rfl, hC⟩; have hs1 := HS0.out.same hC; have p0 := (hs1.blk 0 rfl).cell 0; have p1 := (hs1.blk 0 rfl).cell 1; simp only [List.getElem?_toArray, List.getElem?_cons_zero, List.getElem?_cons_succ] at p0 p1; have HS1 := Lib.hid hs1; clear hC hs1 HS0)
      | (go_at_call 17; refine (Small11 _ A0 n0 c0 A1 n1 c1).mono ?_; rw [HSD.out]; rintro e w2 ⟨rfl, hC⟩; have hs1 := HS1.out.same hC; have p0 := (hs1.blk 0 rfl).cell 0; have p1 := (hs1.blk 0 rfl).cell 1; simp only [List.getElem?_toArray, List.getElem?_cons_zero, List.getElem?_cons_succ] at p0 p1; have HS2 := Lib.hid hs1; clear hC hs1 HS1)
      | (go_at_call 18; refine (Made11 A0 n0 c0 D0 A1 n1 c1 D1 HZ0.out HZ1.out hn0 hn1 HS2.out).mono ?_; rintro e w3 ⟨a, b, v, A, rs, fs, rfl, hgr, hlen, hs⟩; have p0 := (hs.blk 3 rfl).cell 0; have p1 := (hs.blk 3 rfl).cell 1; simp only [List.getElem?_toArray, List.getElem?_cons_zero, List.getElem?_cons_succ] at p0 p1; have HGR := Lib.hid hgr; obtain ⟨AL, capl, rfl, hcapl, hmcapl⟩ := hs.rowShape 1 rfl; unfold maxLen at hmcapl; obtain ⟨Rn, hRn⟩ : ∃ Rn, rs.length = Rn := ⟨_, rfl⟩; have HRN := Lib.hid hRn; rw [hRn] at hcapl hs; try rw [hRn]; rw [hRn] at hlen; have hl40 : Rn ≤ 40 := (by omega); have HLEN := Lib.hid hlen; have HS3 := Lib.hid hs; clear hs hgr HS2 hRn hlen)
      | (go_at_call 19; refine (KNew HS3.out 0 rfl HGR.out.size (by omega) 3 (by omega)).mono ?_; rintro e w4 ⟨m, rfl, hs⟩; have HC1 := Lib.hid (KNew hs 1 rfl HGR.out.size (by omega) 64 (by omega)); clear hs HS3)
      | (go_at_call 19; refine (HC1.out).mono ?_; rintro e w4 ⟨mo, rfl, hs⟩; have HS4 := Lib.hid (show Sep w w4 (rowR 36 1 (.slice AL Rn capl) rs.length (nums rs) :: markR mo a 2049 (Col.white) :: markR m a 2049 (Col.white) :: arenaR a A :: adjR Try.prog 36 36 b (ptsOf fs) :: blkR T 25 #[.slice A0 n0 c0, .slice A1 n1 c1] :: []) from by rw [HRN.out]; exact hs.front 4 [3]); clear hs HC1)
      | (go_at_call 43; refine (Some11 A2 n2 c2 D2 HZ2.out (by omega) HS4.out).mono ?_; rintro e w5 ⟨vr, out, rfl, hol, hin, hln, hs⟩; rw [HRN.out] at hs; obtain ⟨AR, capr, rfl, hcapr, hmcapr⟩ := hs.rowShape 0 rfl; unfold maxLen at hmcapr; obtain ⟨Ln, hLn⟩ : ∃ Ln, out.length = Ln := ⟨_, rfl⟩; have HLN := Lib.hid hLn; rw [hLn] at hcapr hs; try rw [hLn]; rw [hLn] at hol; have HS5 := Lib.hid (show Sep w w5 (rowR 36 1 (.slice AR Ln capr) Ln (nums out) :: rowR 36 1 (.slice AL Rn capl) Rn (nums rs) :: markR mo a 2049 (Col.white) :: markR m a 2049 (Col.white) :: arenaR a A :: adjR Try.prog 36 36 b (ptsOf fs) :: blkR T 25 #[.slice A0 n0 c0, .slice A1 n1 c1] :: []) from hs); have HIN := Lib.hid hin; clear hs HS4 hin hln hLn))
    go_loopw [47] (fun i wr => ∃ (k : Nat), k ≤ Ln ∧ i = .int .i64 k ∧ Sep w wr (rowR 36 1 (.slice AR Ln capr) Ln (nums out) :: rowR 36 1 (.slice AL Rn capl) Rn (nums rs) :: markR mo a 2049 (Col.white.shades (out.take k)) :: markR m a 2049 (Col.white.shades (out.take k)) :: arenaR a A :: adjR Try.prog 36 36 b (ptsOf fs) :: blkR T 25 #[.slice A0 n0 c0, .slice A1 n1 c1] :: [])) (fun i _ => Ln + 1 - (intOf i).toNat)
    case atStart => exact ⟨0, by omega, rfl, HS5.out⟩
    case round =>
      clear HS5
      obtain ⟨k, hk, rfl, hs⟩ := hrel
      by_cases hlt : k < Ln
      · have hltI : (k : Int) < (Ln : Int) := by omega
        obtain ⟨x, hx⟩ : ∃ z_, out[k]? = some z_ := ⟨_, List.getElem?_eq_getElem (by rw [HLN.out]; exact hlt)⟩
        obtain ⟨g, cap', hsl, _, _⟩ := hs.rowSome 0 rfl (by omega)
        simp only [Value.slice.injEq] at hsl
        obtain ⟨rfl, _, rfl⟩ := hsl
        have cx := hs.rowCell 0 rfl k _ (nums_get _ _ _ hx)
        have hx2 := HGR.out.lt (HIN.out x (List.mem_of_getElem? hx))
        have HC := Lib.hid (KShade hs 3 rfl x hx2.1 hx2.2)
        have HNX := Lib.hid (shades_next (C := Col.white) hx)
        clear hs hx
        go_wp2_with (first
          | (go_at_call 20; refine (HC.out).mono ?_; rintro e w7 ⟨rfl, hs⟩; rw [HNX.out] at hs; have HC2 := Lib.hid (KShade hs 2 rfl x hx2.1 hx2.2); clear hs HC)
          | (go_at_call 20; refine (HC2.out).mono ?_; rintro e w8 ⟨rfl, hs⟩; rw [HNX.out] at hs; have HS7 := Lib.hid hs; clear hs HC2))
        go_roundw
        case rel => exact ⟨k + 1, by omega, by go_num, HS7.out⟩
        case measure => simp [intOf]; omega
      · obtain rfl : Ln = k := by omega
        rw [shades_all HLN.out] at hs
        obtain ⟨kq, hkq, hkq8⟩ : ∃ kq : Nat, bn % 9 = (kq : Int) ∧ kq ≤ 8 := ⟨(bn % 9).toNat, by omega, by omega⟩
        have hkt : bn.tmod 9 = (kq : Int) := by rw [Int.tmod_eq_emod_of_nonneg (by omega)]; exact hkq
        have HC := Lib.hid (KTrace HGR.out.heap HGR.out.size (C := Col.white.shades out) (fun x hx => HIN.out x (by rw [white_shades] at hx; exact of_decide_eq_true hx)) hs 3 4 rfl rfl (by decide) kq (by omega))
        clear hs
        go_wp2_with (go_at_call 37; refine (HC.out).mono ?_; rintro e w7 ⟨d, C1, rfl, ht, hs⟩; have HT1 := Lib.hid ht; have HSB := Lib.hid (show Sep w w7 (rowR 36 1 (.slice AR Ln capr) Ln (nums out) :: rowR 36 1 (.slice AL Rn capl) Rn (nums rs) :: markR mo a 2049 (Col.white.shades out) :: markR m a 2049 (C1) :: arenaR a A :: adjR Try.prog 36 36 b (ptsOf fs) :: blkR T 25 #[.slice A0 n0 c0, .slice A1 n1 c1] :: []) from hs); have HOC := Lib.hid (ht.steps.within (P := fun x => x ∈ rs) HGR.out.ptsIn (fun x hx => HIN.out x (by rw [white_shades] at hx; exact of_decide_eq_true hx))); have HSH := Lib.hid (ht.steps.shut (shut_shades (shut_none_w (ptsOf fs)) out)); clear hs ht HC)
        clear hkq hkt
        go_loopw [16, 66] (fun s i wr => ∃ (k : Nat), k ≤ Rn ∧ s = .int .i64 (((rs.take k).countP C1.sc : Nat) : Int) ∧ i = .int .i64 k ∧ Sep w wr (rowR 36 1 (.slice AR Ln capr) Ln (nums out) :: rowR 36 1 (.slice AL Rn capl) Rn (nums rs) :: markR mo a 2049 (Col.white.shades out) :: markR m a 2049 (C1) :: arenaR a A :: adjR Try.prog 36 36 b (ptsOf fs) :: blkR T 25 #[.slice A0 n0 c0, .slice A1 n1 c1] :: [])) (fun _ i _ => Rn + 1 - (intOf i).toNat)
        case atStart => exact ⟨0, by omega, by simp, rfl, HSB.out⟩
        case round =>
          clear HSB
          obtain ⟨k, hk, rfl, rfl, hs⟩ := hrel
          by_cases hlt : k < Rn
          · have hltI : (k : Int) < (Rn : Int) := by omega
            obtain ⟨x, hx⟩ : ∃ z_, rs[k]? = some z_ := ⟨_, List.getElem?_eq_getElem (by rw [HRN.out]; exact hlt)⟩
            obtain ⟨g, cap', hsl, _, _⟩ := hs.rowSome 1 rfl (by omega)
            simp only [Value.slice.injEq] at hsl
            obtain ⟨rfl, _, rfl⟩ := hsl
            have cx := hs.rowCell 1 rfl k _ (nums_get _ _ _ hx)
            have hxr := List.mem_of_getElem? hx
            have hx2 := HGR.out.lt hxr
            have HC := Lib.hid (KScanned hs 3 rfl x hx2.2)
            have hcn1 : (rs.take (k + 1)).countP C1.sc = (rs.take k).countP C1.sc + if C1.sc x = true then 1 else 0 := by
              rw [List.take_add_one, hx]
              simp [List.countP_cons]
            obtain ⟨cc, hcc⟩ : ∃ cc, (rs.take k).countP C1.sc = cc := ⟨_, rfl⟩
            have hcl : cc ≤ k := by rw [← hcc]; exact Nat.le_trans List.countP_le_length (by rw [List.length_take]; omega)
            rw [hcc] at hcn1 ⊢
            obtain ⟨sx, hsx⟩ : ∃ b, C1.sc x = b := ⟨_, rfl⟩
            rw [hsx] at hcn1
            have HSC := Lib.hid hsx
            clear hx hcc hsx
            cases sx
            · simp only [Bool.false_eq_true, if_false, Nat.add_zero] at hcn1
              have HCN1 := Lib.hid hcn1
              clear hs hcn1
              go_wp2_with (go_at_call 28; refine (HC.out).mono ?_; rw [HSC.out]; rintro e w7 ⟨rfl, hs⟩; have HS7 := Lib.hid hs; clear hs HC)
              go_roundw
              case rel => exact ⟨k + 1, by omega, by rw [HCN1.out], by go_num, HS7.out⟩
              case measure => simp [intOf]; omega
            · simp only [if_true] at hcn1
              have HCN1 := Lib.hid hcn1
              clear hs hcn1
              go_wp2_with (first
                | (go_at_call 28; refine (HC.out).mono ?_; rw [HSC.out]; rintro e w7 ⟨rfl, hs⟩; obtain ⟨cnt, M, OO, hhole, hs8⟩ := adj_out (show Sep w w7 (adjR Try.prog 36 36 b (ptsOf fs) :: rowR 36 1 (.slice AR Ln capr) Ln (nums out) :: rowR 36 1 (.slice (some ⟨g, 0, none⟩) Rn capl) Rn (nums rs) :: markR mo a 2049 (Col.white.shades out) :: markR m a 2049 (C1) :: arenaR a A :: blkR T 25 #[.slice A0 n0 c0, .slice A1 n1 c1] :: []) from hs.front 6 [5]) x (by omega); have hlk := gmap_get keyRef Try.underlying30 (zeroRow _) hs8 0 rfl (keyOfRef (x := x) (by omega)); obtain ⟨vv, hvv⟩ : ∃ vv, (M (litR x)).getD (.slice none 0 0) = vv := ⟨_, rfl⟩; rw [hvv] at hlk hs8; obtain ⟨AV, capv, hvs, hcapv, hmcapv⟩ := hs8.rowShape 1 rfl; rw [hvs] at hlk hs8 hvv; obtain ⟨Pn, hPn⟩ : ∃ Pn, (ptsOf fs x).length = Pn := ⟨_, rfl⟩; have hP6 : Pn ≤ 6 := (by rw [← hPn]; exact (ptsOf_len HGR.out.heap hxr).1); rw [hPn] at hlk hs8 hvv hcapv; have HH := Lib.hid hhole; have HVV := Lib.hid hvv; have HPN := Lib.hid hPn; have HS6 := Lib.hid (show Sep w w7 (gmapR Try.prog 36 b cnt M :: rowR 36 1 (.slice AV Pn capv) Pn (nums (ptsOf fs x)) :: OO :: rowR 36 1 (.slice AR Ln capr) Ln (nums out) :: rowR 36 1 (.slice (some ⟨g, 0, none⟩) Rn capl) Rn (nums rs) :: markR mo a 2049 (Col.white.shades out) :: markR m a 2049 (C1) :: arenaR a A :: blkR T 25 #[.slice A0 n0 c0, .slice A1 n1 c1] :: []) from hs8); have HLK := Lib.hid hlk; clear hs hs8 hhole hvv hPn hlk HC; subst hvs)
                | (at_lookup; refine wpList_lookup_run rfl _ _ _ _ rfl rfl rfl HLK.out ?_; clear HLK))
              go_loopw [80] (fun i wr => ∃ (k3 : Nat), k3 ≤ Pn ∧ i = .int .i64 k3 ∧ Sep w wr (gmapR Try.prog 36 b cnt M :: rowR 36 1 (.slice AV Pn capv) Pn (nums (ptsOf fs x)) :: OO :: rowR 36 1 (.slice AR Ln capr) Ln (nums out) :: rowR 36 1 (.slice (some ⟨g, 0, none⟩) Rn capl) Rn (nums rs) :: markR mo a 2049 (Col.white.shades out) :: markR m a 2049 (C1) :: arenaR a A :: blkR T 25 #[.slice A0 n0 c0, .slice A1 n1 c1] :: [])) (fun i _ => Pn + 1 - (intOf i).toNat)
              case atStart => exact ⟨0, by omega, rfl, HS6.out⟩
              case round =>
                clear HS6
                obtain ⟨k3, hk, rfl, hs⟩ := hrel
                by_cases hlt : k3 < Pn
                · have hltI : (k3 : Int) < (Pn : Int) := by omega
                  obtain ⟨y, hy⟩ : ∃ z_, (ptsOf fs x)[k3]? = some z_ := ⟨_, List.getElem?_eq_getElem (by rw [HPN.out]; exact hlt)⟩
                  obtain ⟨g3, cap', hsl, _, _⟩ := hs.rowSome 1 rfl (by omega)
                  simp only [Value.slice.injEq] at hsl
                  obtain ⟨rfl, _, rfl⟩ := hsl
                  have cx := hs.rowCell 1 rfl k3 _ (nums_get _ _ _ hy)
                  have HLT3 := Lib.hid hlt
                  have hyr := HGR.out.ptsIn x hxr y (List.mem_of_getElem? hy)
                  have hy2 := HGR.out.lt hyr
                  have hym : C1.mz y = true := HSH.out x HSC.out y (List.mem_of_getElem? hy)
                  have HC := Lib.hid (KMarked hs 6 rfl y hy2.2)
                  have HYM := Lib.hid hym
                  clear hs hy hym
                  go_wp2_with (go_at_call 27; refine (HC.out).mono ?_; rw [HYM.out]; rintro e w8 ⟨rfl, hs⟩; have HS8 := Lib.hid hs; clear hs HC)
                  have hlt3 := HLT3.out
                  go_roundw
                  case rel => exact ⟨k3 + 1, by omega, by go_num, HS8.out⟩
                  case measure => simp [intOf]; omega
                · obtain rfl : Pn = k3 := by omega
                  have hb := HH.out.same w wr (rowR 36 1 (.slice AR Ln capr) Ln (nums out) :: rowR 36 1 (.slice (some ⟨g, 0, none⟩) Rn capl) Rn (nums rs) :: markR mo a 2049 (Col.white.shades out) :: markR m a 2049 (C1) :: arenaR a A :: blkR T 25 #[.slice A0 n0 c0, .slice A1 n1 c1] :: []) (by
                    rw [HVV.out, HPN.out]
                    exact hs)
                  have HS8 := Lib.hid ((show Sep w wr (adjR Try.prog 36 36 b (ptsOf fs) :: rowR 36 1 (.slice AR Ln capr) Ln (nums out) :: rowR 36 1 (.slice (some ⟨g, 0, none⟩) Rn capl) Rn (nums rs) :: markR mo a 2049 (Col.white.shades out) :: markR m a 2049 (C1) :: arenaR a A :: blkR T 25 #[.slice A0 n0 c0, .slice A1 n1 c1] :: []) from hb).front 7 [1, 2, 3, 4, 5, 0, 6])
                  clear hs hb
                  go_wp2
                  go_roundw
                  case rel => exact ⟨k + 1, by omega, by rw [HCN1.out]; go_num, by go_num, HS8.out⟩
                  case measure => simp [intOf]; omega
          · obtain rfl : Rn = k := by omega
            rw [show rs.take Rn = rs by rw [← HRN.out, List.take_length], (HT1.out.steps.most0 HGR.out.nodup HGR.out.ptsIn HIN.out).1]
            have hdle := HT1.out.most
            have hgt1 : ¬ (kq : Int) < (d : Int) := by omega
            by_cases hdk : d < kq
            · have hdkI : (d : Int) < (kq : Int) := by omega
              have HCD := Lib.hid (KDrained hs 3 rfl)
              clear hs
              go_wp2_with (first
                | (go_at_call 41; refine (HCD.out).mono ?_; rintro e w7 ⟨bb, rfl, hb, hs⟩; obtain rfl : bb = true := hb.2 (HT1.out.end_ hdk); have HC0 := Lib.hid (KTrace HGR.out.heap HGR.out.size (C := C1) HOC.out hs 3 4 rfl rfl (by decide) 0 (by omega)); clear hs hb HCD)
                | (go_at_call 37; refine (HC0.out).mono ?_; rintro e w8 ⟨d0, C0, rfl, ht, hs⟩; obtain ⟨hd0, hc0⟩ := ht.zero_; subst hd0; rw [hc0] at hs; have HCN := Lib.hid (KTraceNeg hs m (-5) (by omega)); clear hs ht HC0 hc0)
                | (go_at_call 37; refine (HCN.out).mono ?_; rintro e w9 ⟨rfl, hs⟩; have HCM := Lib.hid (KTrace HGR.out.heap HGR.out.size (C := C1) HOC.out hs 3 4 rfl rfl (by decide) 100 (by omega)); clear hs HCN)
                | (go_at_call 37; refine (HCM.out).mono ?_; rintro e w10 ⟨d2, C2, rfl, ht, hs⟩; have HT2 := Lib.hid ht; have HCO := Lib.hid (KTrace HGR.out.heap HGR.out.size (C := Col.white.shades out) (fun x hx => HIN.out x (by rw [white_shades] at hx; exact of_decide_eq_true hx)) hs 2 4 rfl rfl (by decide) 100 (by omega)); clear hs ht HCM)
                | (go_at_call 37; refine (HCO.out).mono ?_; rintro e w11 ⟨d3, C3, rfl, ht, hs⟩; have HT3 := Lib.hid ht; have HS9 := Lib.hid hs; clear hs ht HCO))
              have HCMP := Lib.hid (fun x => show C2.mz x = C3.mz x from by
                have hr0 := run_shades (l := out) (R := fun x => x ∈ out) (fun _ h => h) (run_white (ptsOf fs) _)
                have hr1 := hr0.steps HT1.out.steps
                have hr2 := hr1.steps HT2.out.steps
                have hr3 := hr0.steps HT3.out.steps
                have hn2 := traced HT2.out.steps HGR.out.nodup HGR.out.ptsIn HOC.out (by rw [HRN.out]; omega) HT2.out.end_
                have hn3 := traced HT3.out.steps HGR.out.nodup HGR.out.ptsIn (fun x hx => HIN.out x (by rw [white_shades] at hx; exact of_decide_eq_true hx)) (by rw [HRN.out]; omega) HT3.out.end_
                have ha : ∀ x ∈ out, (Col.white.shades out).mz x = true := fun x hx => by rw [white_shades]; exact decide_eq_true hx
                rw [Bool.eq_iff_iff, (hr2.end_ hn2 (fun x hx => HT2.out.steps.mono.1 x (HT1.out.steps.mono.1 x (ha x hx))) x).1, (hr3.end_ hn3 (fun x hx => HT3.out.steps.mono.1 x (ha x hx)) x).1])
              go_loopw [124] (fun i wr => ∃ (k : Nat), k ≤ Rn ∧ i = .int .i64 k ∧ Sep w wr (rowR 36 1 (.slice AR Ln capr) Ln (nums out) :: rowR 36 1 (.slice AL Rn capl) Rn (nums rs) :: markR mo a 2049 (C3) :: markR m a 2049 (C2) :: arenaR a A :: adjR Try.prog 36 36 b (ptsOf fs) :: blkR T 25 #[.slice A0 n0 c0, .slice A1 n1 c1] :: [])) (fun i _ => Rn + 1 - (intOf i).toNat)
              case atStart => exact ⟨0, by omega, rfl, HS9.out⟩
              case round =>
                clear HS9
                obtain ⟨k, hk, rfl, hs⟩ := hrel
                by_cases hlt : k < Rn
                · have hltI : (k : Int) < (Rn : Int) := by omega
                  obtain ⟨x, hx⟩ : ∃ z_, rs[k]? = some z_ := ⟨_, List.getElem?_eq_getElem (by rw [HRN.out]; exact hlt)⟩
                  obtain ⟨g, cap', hsl, _, _⟩ := hs.rowSome 1 rfl (by omega)
                  simp only [Value.slice.injEq] at hsl
                  obtain ⟨rfl, _, rfl⟩ := hsl
                  have cx := hs.rowCell 1 rfl k _ (nums_get _ _ _ hx)
                  have hx2 := HGR.out.lt (List.mem_of_getElem? hx)
                  have hcm := HCMP.out x
                  obtain ⟨b1, hb1⟩ : ∃ b, C3.mz x = b := ⟨_, rfl⟩
                  rw [hb1] at hcm
                  have HB1 := Lib.hid hb1
                  have HM1 := Lib.hid hcm
                  have HC := Lib.hid (KMarked hs 3 rfl x hx2.2)
                  clear hs hx hcm hb1
                  cases b1
                  all_goals
                    go_wp2_with (first
                      | (go_at_call 27; refine (HC.out).mono ?_; rw [HM1.out]; rintro e w7 ⟨rfl, hs⟩; have HC2 := Lib.hid (KMarked hs 2 rfl x hx2.2); clear hs HC)
                      | (go_at_call 27; refine (HC2.out).mono ?_; rw [HB1.out]; rintro e w8 ⟨rfl, hs⟩; have HS8 := Lib.hid hs; clear hs HC2))
                    go_roundw
                    case rel => exact ⟨k + 1, by omega, by go_num, HS8.out⟩
                    case measure => simp [intOf]; omega
                · obtain rfl : Rn = k := by omega
                  have HC := Lib.hid (KReset hs 3 rfl)
                  clear hs
                  go_wp2_with (first
                    | (go_at_call 46; refine (HC.out).mono ?_; rintro e w7 ⟨rfl, hs⟩; have HC2 := Lib.hid (KCount hs 3 rfl); clear hs HC)
                    | (go_at_call 33; refine (HC2.out).mono ?_; rw [elems_white]; rintro e w8 ⟨rfl, hs⟩; have HC3 := Lib.hid (KDrained hs 3 rfl); clear hs HC2)
                    | (go_at_call 41; refine (HC3.out).mono ?_; rintro e w9 ⟨bb, rfl, hb, hs⟩; obtain rfl : bb = true := hb.2 white_grey; have HC4 := Lib.hid (KTrace HGR.out.heap HGR.out.size (C := Col.white) (fun x hx => by cases hx) hs 3 4 rfl rfl (by decide) 9 (by omega)); clear hs hb HC3)
                    | (go_at_call 37; refine (HC4.out).mono ?_; rintro e w10 ⟨d9, C9, rfl, ht, hs⟩; obtain ⟨rfl, rfl⟩ := ht.none_ white_grey; have HS10 := Lib.hid hs; clear hs ht HC4))
                  go_ret
                  exact ⟨rfl, HS10.out.below⟩
            · have hdkI : ¬ (d : Int) < (kq : Int) := by omega
              have HC0 := Lib.hid (KTrace HGR.out.heap HGR.out.size (C := C1) HOC.out hs 3 4 rfl rfl (by decide) 0 (by omega))
              clear hs
              go_wp2_with (first
                | (go_at_call 37; refine (HC0.out).mono ?_; rintro e w8 ⟨d0, C0, rfl, ht, hs⟩; obtain ⟨hd0, hc0⟩ := ht.zero_; subst hd0; rw [hc0] at hs; have HCN := Lib.hid (KTraceNeg hs m (-5) (by omega)); clear hs ht HC0 hc0)
                | (go_at_call 37; refine (HCN.out).mono ?_; rintro e w9 ⟨rfl, hs⟩; have HCM := Lib.hid (KTrace HGR.out.heap HGR.out.size (C := C1) HOC.out hs 3 4 rfl rfl (by decide) 100 (by omega)); clear hs HCN)
                | (go_at_call 37; refine (HCM.out).mono ?_; rintro e w10 ⟨d2, C2, rfl, ht, hs⟩; have HT2 := Lib.hid ht; have HCO := Lib.hid (KTrace HGR.out.heap HGR.out.size (C := Col.white.shades out) (fun x hx => HIN.out x (by rw [white_shades] at hx; exact of_decide_eq_true hx)) hs 2 4 rfl rfl (by decide) 100 (by omega)); clear hs ht HCM)
                | (go_at_call 37; refine (HCO.out).mono ?_; rintro e w11 ⟨d3, C3, rfl, ht, hs⟩; have HT3 := Lib.hid ht; have HS9 := Lib.hid hs; clear hs ht HCO))
              have HCMP := Lib.hid (fun x => show C2.mz x = C3.mz x from by
                have hr0 := run_shades (l := out) (R := fun x => x ∈ out) (fun _ h => h) (run_white (ptsOf fs) _)
                have hr1 := hr0.steps HT1.out.steps
                have hr2 := hr1.steps HT2.out.steps
                have hr3 := hr0.steps HT3.out.steps
                have hn2 := traced HT2.out.steps HGR.out.nodup HGR.out.ptsIn HOC.out (by rw [HRN.out]; omega) HT2.out.end_
                have hn3 := traced HT3.out.steps HGR.out.nodup HGR.out.ptsIn (fun x hx => HIN.out x (by rw [white_shades] at hx; exact of_decide_eq_true hx)) (by rw [HRN.out]; omega) HT3.out.end_
                have ha : ∀ x ∈ out, (Col.white.shades out).mz x = true := fun x hx => by rw [white_shades]; exact decide_eq_true hx
                rw [Bool.eq_iff_iff, (hr2.end_ hn2 (fun x hx => HT2.out.steps.mono.1 x (HT1.out.steps.mono.1 x (ha x hx))) x).1, (hr3.end_ hn3 (fun x hx => HT3.out.steps.mono.1 x (ha x hx)) x).1])
              go_loopw [124] (fun i wr => ∃ (k : Nat), k ≤ Rn ∧ i = .int .i64 k ∧ Sep w wr (rowR 36 1 (.slice AR Ln capr) Ln (nums out) :: rowR 36 1 (.slice AL Rn capl) Rn (nums rs) :: markR mo a 2049 (C3) :: markR m a 2049 (C2) :: arenaR a A :: adjR Try.prog 36 36 b (ptsOf fs) :: blkR T 25 #[.slice A0 n0 c0, .slice A1 n1 c1] :: [])) (fun i _ => Rn + 1 - (intOf i).toNat)
              case atStart => exact ⟨0, by omega, rfl, HS9.out⟩
              case round =>
                clear HS9
                obtain ⟨k, hk, rfl, hs⟩ := hrel
                by_cases hlt : k < Rn
                · have hltI : (k : Int) < (Rn : Int) := by omega
                  obtain ⟨x, hx⟩ : ∃ z_, rs[k]? = some z_ := ⟨_, List.getElem?_eq_getElem (by rw [HRN.out]; exact hlt)⟩
                  obtain ⟨g, cap', hsl, _, _⟩ := hs.rowSome 1 rfl (by omega)
                  simp only [Value.slice.injEq] at hsl
                  obtain ⟨rfl, _, rfl⟩ := hsl
                  have cx := hs.rowCell 1 rfl k _ (nums_get _ _ _ hx)
                  have hx2 := HGR.out.lt (List.mem_of_getElem? hx)
                  have hcm := HCMP.out x
                  obtain ⟨b1, hb1⟩ : ∃ b, C3.mz x = b := ⟨_, rfl⟩
                  rw [hb1] at hcm
                  have HB1 := Lib.hid hb1
                  have HM1 := Lib.hid hcm
                  have HC := Lib.hid (KMarked hs 3 rfl x hx2.2)
                  clear hs hx hcm hb1
                  cases b1
                  all_goals
                    go_wp2_with (first
                      | (go_at_call 27; refine (HC.out).mono ?_; rw [HM1.out]; rintro e w7 ⟨rfl, hs⟩; have HC2 := Lib.hid (KMarked hs 2 rfl x hx2.2); clear hs HC)
                      | (go_at_call 27; refine (HC2.out).mono ?_; rw [HB1.out]; rintro e w8 ⟨rfl, hs⟩; have HS8 := Lib.hid hs; clear hs HC2))
                    go_roundw
                    case rel => exact ⟨k + 1, by omega, by go_num, HS8.out⟩
                    case measure => simp [intOf]; omega
                · obtain rfl : Rn = k := by omega
                  have HC := Lib.hid (KReset hs 3 rfl)
                  clear hs
                  go_wp2_with (first
                    | (go_at_call 46; refine (HC.out).mono ?_; rintro e w7 ⟨rfl, hs⟩; have HC2 := Lib.hid (KCount hs 3 rfl); clear hs HC)
                    | (go_at_call 33; refine (HC2.out).mono ?_; rw [elems_white]; rintro e w8 ⟨rfl, hs⟩; have HC3 := Lib.hid (KDrained hs 3 rfl); clear hs HC2)
                    | (go_at_call 41; refine (HC3.out).mono ?_; rintro e w9 ⟨bb, rfl, hb, hs⟩; obtain rfl : bb = true := hb.2 white_grey; have HC4 := Lib.hid (KTrace HGR.out.heap HGR.out.size (C := Col.white) (fun x hx => by cases hx) hs 3 4 rfl rfl (by decide) 9 (by omega)); clear hs hb HC3)
                    | (go_at_call 37; refine (HC4.out).mono ?_; rintro e w10 ⟨d9, C9, rfl, ht, hs⟩; obtain ⟨rfl, rfl⟩ := ht.none_ white_grey; have HS10 := Lib.hid hs; clear hs ht HC4))
                  go_ret
                  exact ⟨rfl, HS10.out.below⟩
  · by_cases hsm : n0 ≤ 40 ∧ n1 ≤ 120
    · have HSD := Lib.hid (show (decide (n0 ≤ 40) && decide (n1 ≤ 120)) = true by rw [decide_eq_true hsm.1, decide_eq_true hsm.2]; rfl)
      have hgt : (20 : Int) < (n2 : Int) := by omega
      clear hsm hsmall
      go_wp2_with (first
        | (go_at_call 42; refine (fit11 _).mono ?_; rintro e w1 ⟨rfl, hC⟩; have hs1 := HS0.out.same hC; have p0 := (hs1.blk 0 rfl).cell 0; have p1 := (hs1.blk 0 rfl).cell 1; simp only [List.getElem?_toArray, List.getElem?_cons_zero, List.getElem?_cons_succ] at p0 p1; have HS1 := Lib.hid hs1; clear hC hs1 HS0)
        | (go_at_call 17; refine (Small11 _ A0 n0 c0 A1 n1 c1).mono ?_; rw [HSD.out]; rintro e w2 ⟨rfl, hC⟩; have HS2 := Lib.hid (HS1.out.same hC); clear hC HS1))
      go_ret
      exact ⟨rfl, HS2.out.below⟩
    · have HSD := Lib.hid (show (decide (n0 ≤ 40) && decide (n1 ≤ 120)) = false by
        rw [Bool.and_eq_false_iff]
        by_cases h : n0 ≤ 40
        · exact .inr (decide_eq_false fun h2 => hsm ⟨h, h2⟩)
        · exact .inl (decide_eq_false h))
      clear hsm hsmall
      go_wp2_with (first
        | (go_at_call 42; refine (fit11 _).mono ?_; rintro e w1 ⟨rfl, hC⟩; have hs1 := HS0.out.same hC; have p0 := (hs1.blk 0 rfl).cell 0; have p1 := (hs1.blk 0 rfl).cell 1; simp only [List.getElem?_toArray, List.getElem?_cons_zero, List.getElem?_cons_succ] at p0 p1; have HS1 := Lib.hid hs1; clear hC hs1 HS0)
        | (go_at_call 17; refine (Small11 _ A0 n0 c0 A1 n1 c1).mono ?_; rw [HSD.out]; rintro e w2 ⟨rfl, hC⟩; have HS2 := Lib.hid (HS1.out.same hC); clear hC HS1))
      go_ret
      exact ⟨rfl, HS2.out.below⟩
end Go.Proofs.Ytacebfocfpbkdaa
