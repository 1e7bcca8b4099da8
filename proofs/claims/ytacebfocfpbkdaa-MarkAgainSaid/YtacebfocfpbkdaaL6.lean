/-
  Parts of the proof, joined: MarkAgainW. Conditions: as each part says.
-/
import Derived.Test.YtacebfocfpbkdaaL5
import Derived.Test.YtacebfocfpbkdaaL1
import Derived.StillTailTactics

/-
  The walk of MarkAgain. Conditions: as the theorem says.
-/
namespace Go.Proofs.Ytacebfocfpbkdaa
set_option linter.unusedVariables false
set_option linter.unusedSimpArgs false
open Go.RowKit Go.Shelf Go.Maps
attribute [local go_sem] Oper.semAt_some wide_fn round_fn wide_depth round_depth
attribute [local simp] wide_fn round_fn wide_depth round_depth

theorem shut_again {fs : Nat → List Nat} {C : Col} (hs : C.shut (ptsOf fs)) (x : Nat) (l : List Nat) : (Col.mk C.mz (fun z => C.sc z && !decide (z = x))).shut (ptsOf (updT fs x l)) := by
  intro z hz u hu
  have hz' : (C.sc z && !decide (z = x)) = true := hz
  simp only [Bool.and_eq_true, Bool.not_eq_true', decide_eq_false_iff_not] at hz'
  rw [ptsOf] at hu
  simp only [updT, hz'.2, if_false] at hu
  exact hs z hz'.1 u hu
theorem pts_again {ft T : Nat → List Nat} (h : ∀ z, ∀ u ∈ ptsOf ft z, u ∈ T z) (x j y : Nat) : ∀ z, ∀ u ∈ ptsOf (updT ft x ((ft x).set j y)) z, u ∈ updT T x (T x ++ [y]) z := by
  intro z u hu
  rw [ptsOf, List.mem_filter] at hu
  by_cases e : z = x
  · subst e
    simp only [updT, if_true] at hu ⊢
    rw [List.mem_append]
    rcases List.mem_or_eq_of_mem_set hu.1 with h1 | h1
    · exact .inl (h z u (by rw [ptsOf, List.mem_filter]; exact ⟨h1, hu.2⟩))
    · exact .inr (by simp [h1])
  · simp only [updT, e, if_false] at hu ⊢
    exact h z u (by rw [ptsOf, List.mem_filter]; exact hu)
theorem leads_again {T : Nat → List Nat} {R : Nat → Prop} (x y : Nat) : ∀ z, Leads T R z → Leads (updT T x (T x ++ [y])) R z :=
  leads_mono (fun _ h => h) (fun z u hu => by
    by_cases e : z = x
    · subst e; simp only [updT, if_true]; exact List.mem_append.2 (.inl hu)
    · simp only [updT, e, if_false]; exact hu)
theorem wp_lookup_op {P : Program} {Q : Exit → Act → World → Prop} {o : Oper} {a : Act} {w w' : World} {K : Act → World → Prop} (m x : Operand) (t : TypeId) (ok : Bool) (hop : o.op = Op.lookup t m x ok) {vm vx v : Value} (hm : a.eval m = vm) (hx : a.eval x = vx) (hrun : (Instr.lookup t vm vx ok).run P w = .ok v w') (hK : K (a.put o.dst v) w') : o.wp P a w K Q := by
  refine wp_of_run (v := v) (w' := w') ?_ hK
  simp [execOp, hop, hm, hx, hrun, Result.andThen]
theorem wp_call_any {P : Program} {Q : Exit → Act → World → Prop} {o : Oper} {a : Act} {w : World} {f : FuncId} {args : Array Value} {R : Ending → World → Prop} {K : Act → World → Prop} (hrun : (execOp a.eval o).run P w = .ok (.enter f args) w) (hc : Calls P f args w R)
    (hK : ∀ e w', R e w' → ∃ v, e = .returned v ∧ K (a.put o.dst v) w') : o.wp P a w K Q := by
  unfold Oper.wp
  rw [hrun]
  refine Calls.mono hc ?_
  intro e w' hr
  obtain ⟨v, rfl, hk⟩ := hK e w' hr
  exact hk
set_option maxRecDepth 100000 in
set_option maxHeartbeats 16000000 in
theorem markAgain_walk (A0 : Option Addr) (n0 c0 : Nat) (D0 : Nat → Nat → Int) (A1 : Option Addr) (n1 c1 : Nat) (D1 : Nat → Nat → Int) (A2 : Option Addr) (n2 c2 : Nat) (D2 : Nat → Nat → Int) (A3 : Option Addr) (n3 c3 : Nat) (D3 : Nat → Nat → Int) (w : World) (hz0 : ArgI w A0 n0 [.u8] D0) (hm0 : n0 ≤ maxLen) (hz1 : ArgI w A1 n1 [.u16, .u16, .u16] D1) (hm1 : n1 ≤ maxLen) (hz2 : ArgI w A2 n2 [.u8] D2) (hm2 : n2 ≤ maxLen) (hz3 : ArgI w A3 n3 [.u16, .u16, .u16] D3) (hm3 : n3 ≤ maxLen) :
    Calls Try.prog 10 #[.agg #[.slice A0 n0 c0, .slice A1 n1 c1], .slice A2 n2 c2, .slice A3 n3 c3] w fun e w' => e = .returned (.bool true) ∧ Below w.heap.size w w' := by
  have HZ0 := Lib.hid hz0
  have HZ1 := Lib.hid hz1
  have HZ2 := Lib.hid hz2
  have HZ3 := Lib.hid hz3
  unfold maxLen at hm0 hm1
  try unfold maxLen at hm2
  try unfold maxLen at hm3
  clear hz0 hz1 hz2 hz3
  obtain ⟨T, hT⟩ : ∃ T, w.heap.size = T := ⟨_, rfl⟩
  have hs0 := ((Sep.start w).box #[.slice A0 n0 c0, .slice A1 n1 c1] 25).box #[.bool false] 4
  rw [World.size_alloc, hT] at hs0
  have HS0 := Lib.hid hs0
  clear hs0
  refine calls_wide ?_
  refine callsIn_of_wp_marks Try.func10 rfl trivial ?_
  simp only [Try.ntmps10, List.size_toArray, List.length_cons, List.length_nil, Nat.reduceAdd, Nat.reduceSub, Array.replicate_succ, Array.replicate_zero, List.push_toArray, List.append_toArray, List.nil_append, List.cons_append]
  refine wpIn_wide.2 ?_
  by_cases hsmall : (n0 ≤ 40 ∧ n1 ≤ 120) ∧ n2 ≤ 20 ∧ n3 ≤ 30
  · have hsd : (decide (n0 ≤ 40) && decide (n1 ≤ 120)) = true := by rw [decide_eq_true hsmall.1.1, decide_eq_true hsmall.1.2]; rfl
    have HSD := Lib.hid hsd
    obtain ⟨⟨hn0, hn1⟩, hn2, hn3⟩ := hsmall
    clear hsd
    have hgt : ¬ (20 : Int) < (n2 : Int) := by omega
    have hgt2 : ¬ (30 : Int) < (n3 : Int) := by omega
    go_wp2_with (first
      | (go_at_call 42; refine (fit11 _).mono ?_; rintro e w1 ⟨rfl, hC⟩; have hs1 := HS0.out.same hC; have p0 := (hs1.blk 1 rfl).cell 0; have p1 := (hs1.blk 1 rfl).cell 1; simp only [List.getElem?_toArray, List.getElem?_cons_zero, List.getElem?_cons_succ] at p0 p1; have HS1 := Lib.hid hs1; clear hC hs1 HS0)
      | (go_at_call 17; refine (Small11 _ A0 n0 c0 A1 n1 c1).mono ?_; rw [HSD.out]; rintro e w2 ⟨rfl, hC⟩; have hs1 := HS1.out.same hC; have p0 := (hs1.blk 1 rfl).cell 0; have p1 := (hs1.blk 1 rfl).cell 1; simp only [List.getElem?_toArray, List.getElem?_cons_zero, List.getElem?_cons_succ] at p0 p1; have HS2 := Lib.hid hs1; clear hC hs1 HS1)
      | (go_at_call 18; refine (Made11 A0 n0 c0 D0 A1 n1 c1 D1 HZ0.out HZ1.out hn0 hn1 HS2.out).mono ?_; rintro e w3 ⟨a, b, v, A, rs, fs, rfl, hgr, hlen, hs⟩; have p0 := (hs.blk 4 rfl).cell 0; have p1 := (hs.blk 4 rfl).cell 1; simp only [List.getElem?_toArray, List.getElem?_cons_zero, List.getElem?_cons_succ] at p0 p1; have HGR := Lib.hid hgr; obtain ⟨AL, capl, rfl, hcapl, hmcapl⟩ := hs.rowShape 1 rfl; unfold maxLen at hmcapl; obtain ⟨Rn, hRn⟩ : ∃ Rn, rs.length = Rn := ⟨_, rfl⟩; have HRN := Lib.hid hRn; rw [hRn] at hcapl hs; try rw [hRn]; rw [hRn] at hlen; have hl40 : Rn ≤ 40 := (by omega); have HLEN := Lib.hid hlen; have HS3 := Lib.hid hs; clear hs hgr HS2 hRn hlen)
      | (go_at_call 19; refine (KNew HS3.out 0 rfl HGR.out.size (by omega) 2 (by omega)).mono ?_; rintro e w4 ⟨m, rfl, hs⟩; obtain ⟨TM, hTM⟩ : ∃ TM, w4.heap.size = TM := ⟨_, rfl⟩; have hs5 := hs.box #[.pointer (some ⟨m, 0, none⟩)] 33; rw [hTM] at hs5; have HS4 := Lib.hid (show Sep w _ (rowR 36 1 (.slice AL Rn capl) rs.length (nums rs) :: blkR TM 33 #[.pointer (some ⟨m, 0, none⟩)] :: markR m a 2049 (Col.white) :: arenaR a A :: adjR Try.prog 36 36 b (ptsOf fs) :: blkR (T + 1) 4 #[.bool false] :: blkR T 25 #[.slice A0 n0 c0, .slice A1 n1 c1] :: []) from by rw [HRN.out]; exact hs5.front 4 [3]); clear hs hs5 HS3)
      | (go_at_call 43; refine (Some11 A2 n2 c2 D2 HZ2.out (by omega) HS4.out).mono ?_; rintro e w5 ⟨vr, out, rfl, hol, hin, hln, hs⟩; rw [HRN.out] at hs; obtain ⟨AQ, capr, rfl, hcapr, hmcapr⟩ := hs.rowShape 0 rfl; unfold maxLen at hmcapr; obtain ⟨Ln, hLn⟩ : ∃ Ln, out.length = Ln := ⟨_, rfl⟩; have HLN := Lib.hid hLn; rw [hLn] at hcapr hs; try rw [hLn]; rw [hLn] at hol; have HS5 := Lib.hid (show Sep w w5 (rowR 36 1 (.slice AQ Ln capr) Ln (nums out) :: rowR 36 1 (.slice AL Rn capl) Rn (nums rs) :: blkR TM 33 #[.pointer (some ⟨m, 0, none⟩)] :: markR m a 2049 (Col.white) :: arenaR a A :: adjR Try.prog 36 36 b (ptsOf fs) :: blkR (T + 1) 4 #[.bool false] :: blkR T 25 #[.slice A0 n0 c0, .slice A1 n1 c1] :: []) from hs); have HIN := Lib.hid hin; clear hs HS4 hin hln hLn))
    try simp only [hTM]
    clear hTM
    go_loopw [50] (fun i wr => ∃ (k : Nat), k ≤ Ln ∧ i = .int .i64 k ∧ Sep w wr (rowR 36 1 (.slice AQ Ln capr) Ln (nums out) :: rowR 36 1 (.slice AL Rn capl) Rn (nums rs) :: blkR TM 33 #[.pointer (some ⟨m, 0, none⟩)] :: markR m a 2049 (Col.white.shades (out.take k)) :: arenaR a A :: adjR Try.prog 36 36 b (ptsOf fs) :: blkR (T + 1) 4 #[.bool false] :: blkR T 25 #[.slice A0 n0 c0, .slice A1 n1 c1] :: [])) (fun i _ => Ln + 1 - (intOf i).toNat)
    case atStart => exact ⟨0, by omega, rfl, HS5.out⟩
    case round =>
      clear HS5
      obtain ⟨k, hk, rfl, hs⟩ := hrel
      by_cases hlt : k < Ln
      · have hltI : (k : Int) < (Ln : Int) := by omega
        obtain ⟨x, hx⟩ : ∃ z_, out[k]? = some z_ := ⟨_, List.getElem?_eq_getElem (by rw [HLN.out]; exact hlt)⟩
        obtain ⟨g, cap', hsl, _, _⟩ := hs.rowSome 0 rfl (by omega)
        simp only [Value.slice.injEq] at hsl
        obtain ⟨rfl, _, rfl⟩ := hsl
        have cx := hs.rowCell 0 rfl k _ (nums_get _ _ _ hx)
        have hx2 := HGR.out.lt (HIN.out x (List.mem_of_getElem? hx))
        have HC := Lib.hid (KShade hs 3 rfl x hx2.1 hx2.2)
        have HNX := Lib.hid (shades_next (C := Col.white) hx)
        have ym := (hs.blk 2 rfl).cell 0
        simp only [List.getElem?_toArray, List.getElem?_cons_zero] at ym
        clear hs hx
        go_wp2_with (go_at_call 20; refine (HC.out).mono ?_; rintro e w7 ⟨rfl, hs⟩; rw [HNX.out] at hs; have HS7 := Lib.hid hs; clear hs HC ym)
        go_roundw
        case rel => exact ⟨k + 1, by omega, by go_num, HS7.out⟩
        case measure => simp [intOf]; omega
      · obtain rfl : Ln = k := by omega
        rw [shades_all HLN.out] at hs
        have HCT := Lib.hid (KTrace HGR.out.heap HGR.out.size (C := Col.white.shades out) (fun x hx => HIN.out x (by rw [white_shades] at hx; exact of_decide_eq_true hx)) hs 3 4 rfl rfl (by decide) 1000 (by omega))
        have ym := (hs.blk 2 rfl).cell 0
        simp only [List.getElem?_toArray, List.getElem?_cons_zero] at ym
        clear hs
        go_wp2_with (go_at_call 37; refine (HCT.out).mono ?_; rintro e w7 ⟨d, C1, rfl, ht, hs⟩; clear ym; have HSF := Lib.hid hs; have HSH1 := Lib.hid (ht.steps.shut (shut_shades (shut_none_w (ptsOf fs)) out)); have HMR1 := Lib.hid (ht.steps.within (P := fun x => x ∈ rs) HGR.out.ptsIn (fun x hx => HIN.out x (by rw [white_shades] at hx; exact of_decide_eq_true hx))); have HLE1 := Lib.hid (ht.steps.within (P := Leads (ptsOf fs) (fun x => x ∈ out)) (fun x hx y hy => .step hx hy) (fun x hx => .base (by rw [white_shades] at hx; exact of_decide_eq_true hx))); clear hs ht HCT)
        go_loopw [62] (fun i wr => ∃ (k : Nat) (A : AR) (ft : Nat → List Nat) (C : Col) (T3 : Nat → List Nat), k ≤ n3 ∧ i = .int .i64 k ∧ Gr A rs ft ∧ C.shut (ptsOf ft) ∧ (∀ x, C.mz x = true → x ∈ rs) ∧ (∀ x, C.mz x = true → Leads T3 (fun x => x ∈ out) x) ∧ (∀ z, ∀ u ∈ ptsOf ft z, u ∈ T3 z) ∧ (∀ x ∈ rs, ∀ y ∈ T3 x, y ∈ rs) ∧ (∀ x, (T3 x).length ≤ 6 + k) ∧ Sep w wr (rowR 36 1 (.slice AQ Ln capr) Ln (nums out) :: rowR 36 1 (.slice AL Rn capl) Rn (nums rs) :: blkR TM 33 #[.pointer (some ⟨m, 0, none⟩)] :: markR m a 2049 (C) :: arenaR a A :: adjR Try.prog 36 36 b (T3) :: blkR (T + 1) 4 #[.bool false] :: blkR T 25 #[.slice A0 n0 c0, .slice A1 n1 c1] :: [])) (fun i _ => n3 + 1 - (intOf i).toNat)
        case atStart => exact ⟨0, A, fs, C1, ptsOf fs, by omega, rfl, HGR.out, HSH1.out, HMR1.out, HLE1.out, (fun _ _ h => h), HGR.out.ptsIn, (fun x => by
            by_cases hx : x ∈ rs
            · have := (ptsOf_len HGR.out.heap hx).1; omega
            · rw [HGR.out.ptsOut hx]; simp), HSF.out⟩
        case round =>
          clear HSF HSH1 HMR1 HLE1
          obtain ⟨k, A, ft, C, T3, hk, rfl, hgr, hsh, hmr, hle, hpt, hti, htl, hs⟩ := hrel
          have HGQ := Lib.hid hgr
          have HSH := Lib.hid hsh
          have HMR := Lib.hid hmr
          have HLE := Lib.hid hle
          have HPT := Lib.hid hpt
          have HTI := Lib.hid hti
          have HTL := Lib.hid htl
          clear hgr hsh hmr hle hpt hti htl
          by_cases hlt : k < n3
          · have hltI : (k : Int) < (n3 : Int) := by omega
            rcases Nat.eq_zero_or_pos Rn with hk0 | hkp
            · obtain ⟨ab, ao, hA0, hcell⟩ := HZ3.out.at_ hs.own hlt
              subst hA0
              have hc0 := hcell 0 _ rfl
              have hw0 := wf16 (HZ3.out.wf hlt 0 .u16 rfl)
              have hc1 := hcell 1 _ rfl
              have hw1 := wf16 (HZ3.out.wf hlt 1 .u16 rfl)
              have hc2 := hcell 2 _ rfl
              have hw2 := wf16 (HZ3.out.wf hlt 2 .u16 rfl)
              simp at hc0 hc1 hc2
              obtain ⟨d0, h0⟩ : ∃ d, D3 k 0 = d := ⟨_, rfl⟩
              rw [h0] at hc0 hw0
              obtain ⟨d1, h1⟩ : ∃ d, D3 k 1 = d := ⟨_, rfl⟩
              rw [h1] at hc1 hw1
              obtain ⟨d2, h2⟩ : ∃ d, D3 k 2 = d := ⟨_, rfl⟩
              rw [h2] at hc2 hw2
              clear hcell h0 h1 h2
              have hkI : (Rn : Int) = 0 := by omega
              have hkb : ((Rn : Int) == 0) = true := by simpa using hkI
              have hs := (hs.box #[.int .u16 d0, .int .u16 d1, .int .u16 d2] 69).tail
              clear hk0
              have HCT := Lib.hid (KTrace HGQ.out.heap HGQ.out.size (C := C) HMR.out hs 3 4 rfl rfl (by decide) 1000 (by omega))
              have ym := (hs.blk 2 rfl).cell 0
              simp only [List.getElem?_toArray, List.getElem?_cons_zero] at ym
              clear hs
              go_wp2_with (first
                | (go_at_call 37; refine (HCT.out).mono ?_; rintro e w6 ⟨d2, C2, rfl, ht, hs⟩; clear ym; have HTR := Lib.hid ht; have HNO := Lib.hid (traced ht.steps HGQ.out.nodup HGQ.out.ptsIn HMR.out (by rw [HRN.out]; omega) ht.end_); have ym := (hs.blk 2 rfl).cell 0; simp only [List.getElem?_toArray, List.getElem?_cons_zero] at ym; have HCD := Lib.hid (KDrained hs 3 rfl); clear hs ht HCT)
                | (go_at_call 41; refine (HCD.out).mono ?_; rintro e w7 ⟨bq, rfl, hb, hs⟩; obtain rfl : bq = true := hb.2 HNO.out; clear ym; have HS7 := Lib.hid hs; clear hs hb HCD))
              have HSE := Lib.hid (shut_end (HTR.out.steps.shut HSH.out) HNO.out)
              have HLF := Lib.hid (HTR.out.steps.within (P := Leads T3 (fun x => x ∈ out)) (fun x hx y hy => .step hx (HPT.out x y hy)) HLE.out)
              have HFD := Lib.hid (show Field_ rs T3 from ⟨HGR.out.nodup, by rw [HRN.out]; omega, fun x hx => HGR.out.heap.pos hx, fun x => by have := HTL.out x; omega, HTI.out⟩)
              clear HTR HSH HLE HPT HTI HTL HMR
              refine (wpIn_wide (n := 0)).1 ?_
              have HSO := Lib.hid (show Sep w w7 (marksR [] :: rowR 36 1 (.slice AQ Ln capr) Ln (nums out) :: rowR 36 1 (.slice AL Rn capl) Rn (nums rs) :: blkR TM 33 #[.pointer (some ⟨m, 0, none⟩)] :: markR m a 2049 (C2) :: arenaR a A :: adjR Try.prog 36 36 b (T3) :: blkR (T + 1) 4 #[.bool false] :: blkR T 25 #[.slice A0 n0 c0, .slice A1 n1 c1] :: []) from HS7.out.noMarks)
              clear HS7
              refine wpIn_loopM (Ds := []) [20, 21, 126, 127, 128, 129, 130, 131, 132, 134, 135, 136, 137, 138, 139, 140, 141, 142, 143, 144, 145, 146, 147, 148, 149, 150, 151, 152, 153, 154] (fun u Ds1 wr2 => ∃ (q : Nat), q ≤ Rn ∧ u 126 = .int .i64 q ∧ Sep w wr2 (marksR Ds1 :: rowR 36 1 (.slice AQ Ln capr) Ln (nums out) :: rowR 36 1 (.slice AL Rn capl) Rn (nums rs) :: blkR TM 33 #[.pointer (some ⟨m, 0, none⟩)] :: markR m a 2049 (C2) :: arenaR a A :: adjR Try.prog 36 36 b (T3) :: blkR (T + 1) 4 #[.bool false] :: blkR T 25 #[.slice A0 n0 c0, .slice A1 n1 c1] :: [])) (fun u _ => Rn + 1 - (intOf (u 126)).toNat) ⟨0, by omega, rfl, HSO.out⟩ (by kernel_rfl) ?_
              clear HSO
              rintro u Ds1 wr2 ⟨q, hk, hv, hs⟩
              simp only [setS, List.foldl_cons, List.foldl_nil, List.setIfInBounds_toArray, List.set_cons_succ, List.set_cons_zero]
              simp only [hv]
              clear hv
              by_cases hltq : q < Rn
              · have hltIq : (q : Int) < (Rn : Int) := by omega
                exact absurd hltIq (by omega)
              · obtain rfl : Rn = q := by omega
                have ry1 := (hs.blk 7 rfl).frozen 0
                have ry0 := (hs.blk 7 rfl).cell 0
                simp only [List.getElem?_toArray, List.getElem?_cons_zero] at ry0
                have HSZ := Lib.hid hs
                clear hs
                gi_wp2
                go_wp2
                exact leavesM_box (HSZ.out.setCell 7 rfl 0 (.bool true)) 6 rfl rfl rfl (fun w' hs => ⟨rfl, hs.below⟩)
            have hkz : ¬ (Rn : Int) = 0 := by omega
            have hkb : ((Rn : Int) == 0) = false := by simp; omega
            obtain ⟨ab, ao, hA0, hcell⟩ := HZ3.out.at_ hs.own hlt
            subst hA0
            have hc0 := hcell 0 _ rfl
            have hw0 := wf16 (HZ3.out.wf hlt 0 .u16 rfl)
            have hc1 := hcell 1 _ rfl
            have hw1 := wf16 (HZ3.out.wf hlt 1 .u16 rfl)
            have hc2 := hcell 2 _ rfl
            have hw2 := wf16 (HZ3.out.wf hlt 2 .u16 rfl)
            simp at hc0 hc1 hc2
            obtain ⟨d0, h0⟩ : ∃ d, D3 k 0 = d := ⟨_, rfl⟩
            rw [h0] at hc0 hw0
            obtain ⟨d1, h1⟩ : ∃ d, D3 k 1 = d := ⟨_, rfl⟩
            rw [h1] at hc1 hw1
            obtain ⟨d2, h2⟩ : ∃ d, D3 k 2 = d := ⟨_, rfl⟩
            rw [h2] at hc2 hw2
            clear hcell h0 h1 h2
            obtain ⟨g, cap', hsl, _, _⟩ := hs.rowSome 1 rfl hkp
            simp only [Value.slice.injEq] at hsl
            obtain ⟨rfl, _, rfl⟩ := hsl
            obtain ⟨K1, um, ul⟩ : ∃ K1 : Nat, d0.tmod (Rn : Int) = (K1 : Int) ∧ K1 < Rn := by
              have h1 := Int.emod_nonneg d0 (show (Rn : Int) ≠ 0 by omega)
              have h2 := Int.emod_lt_of_pos d0 (show (0 : Int) < (Rn : Int) by omega)
              refine ⟨(d0 % (Rn : Int)).toNat, ?_, by omega⟩
              rw [Int.tmod_eq_emod_of_nonneg (by omega)]
              omega
            have uI : (K1 : Int) < (Rn : Int) := by omega
            have u0 : (0 : Int) ≤ (K1 : Int) := by omega
            obtain ⟨K2, vm, vl⟩ : ∃ K2 : Nat, d1.tmod (Rn : Int) = (K2 : Int) ∧ K2 < Rn := by
              have h1 := Int.emod_nonneg d1 (show (Rn : Int) ≠ 0 by omega)
              have h2 := Int.emod_lt_of_pos d1 (show (0 : Int) < (Rn : Int) by omega)
              refine ⟨(d1 % (Rn : Int)).toNat, ?_, by omega⟩
              rw [Int.tmod_eq_emod_of_nonneg (by omega)]
              omega
            have vI : (K2 : Int) < (Rn : Int) := by omega
            have v0 : (0 : Int) ≤ (K2 : Int) := by omega
            obtain ⟨rx, hx⟩ : ∃ x, rs[K1]? = some x := ⟨_, List.getElem?_eq_getElem (by rw [HRN.out]; exact ul)⟩
            obtain ⟨ry, hy⟩ : ∃ x, rs[K2]? = some x := ⟨_, List.getElem?_eq_getElem (by rw [HRN.out]; exact vl)⟩
            have hxr : rx ∈ rs := List.mem_of_getElem? hx
            have hyr : ry ∈ rs := List.mem_of_getElem? hy
            have hx2 := HGR.out.lt hxr
            have HX := Lib.hid hx
            have HY := Lib.hid hy
            obtain ⟨T5, hT5⟩ : ∃ T5, wr.heap.size = T5 := ⟨_, rfl⟩
            have hsb := hs.box #[.int .u16 d0, .int .u16 d1, .int .u16 d2] 69
            rw [hT5] at hsb
            have HSB := Lib.hid hsb
            clear hs hsb hx hy
            go_wp2
            refine region_sep HSB.out (by kernel_rfl) (by kernel_rfl) ?_
            intro hne0
            have yz0 : ∀ x : SepW w (blkR T5 69 #[.int .u16 d0, .int .u16 d1, .int .u16 d2] :: rowR 36 1 (.slice AQ Ln capr) Ln (nums out) :: rowR 36 1 (.slice (some ⟨g, 0, none⟩) Rn capl) Rn (nums rs) :: blkR TM 33 #[.pointer (some ⟨m, 0, none⟩)] :: markR m a 2049 (C) :: arenaR a A :: adjR Try.prog 36 36 b (T3) :: blkR (T + 1) 4 #[.bool false] :: blkR T 25 #[.slice A0 n0 c0, .slice A1 n1 c1] :: []), x.w'.cell? ⟨T5, 0, none⟩ = some (.int .u16 d0) := fun x => by
              have := (x.h.blk 0 rfl).cell 0
              simpa using this
            have yz1 : ∀ x : SepW w (blkR T5 69 #[.int .u16 d0, .int .u16 d1, .int .u16 d2] :: rowR 36 1 (.slice AQ Ln capr) Ln (nums out) :: rowR 36 1 (.slice (some ⟨g, 0, none⟩) Rn capl) Rn (nums rs) :: blkR TM 33 #[.pointer (some ⟨m, 0, none⟩)] :: markR m a 2049 (C) :: arenaR a A :: adjR Try.prog 36 36 b (T3) :: blkR (T + 1) 4 #[.bool false] :: blkR T 25 #[.slice A0 n0 c0, .slice A1 n1 c1] :: []), x.w'.cell? ⟨T5, 1, none⟩ = some (.int .u16 d1) := fun x => by
              have := (x.h.blk 0 rfl).cell 1
              simpa using this
            have yx : ∀ x : SepW w (blkR T5 69 #[.int .u16 d0, .int .u16 d1, .int .u16 d2] :: rowR 36 1 (.slice AQ Ln capr) Ln (nums out) :: rowR 36 1 (.slice (some ⟨g, 0, none⟩) Rn capl) Rn (nums rs) :: blkR TM 33 #[.pointer (some ⟨m, 0, none⟩)] :: markR m a 2049 (C) :: arenaR a A :: adjR Try.prog 36 36 b (T3) :: blkR (T + 1) 4 #[.bool false] :: blkR T 25 #[.slice A0 n0 c0, .slice A1 n1 c1] :: []), x.w'.cell? ⟨g, K1, none⟩ = some (.int .i64 (rx : Int)) := fun x => x.h.rowCell 2 rfl K1 _ (nums_get _ _ _ HX.out)
            have yy : ∀ x : SepW w (blkR T5 69 #[.int .u16 d0, .int .u16 d1, .int .u16 d2] :: rowR 36 1 (.slice AQ Ln capr) Ln (nums out) :: rowR 36 1 (.slice (some ⟨g, 0, none⟩) Rn capl) Rn (nums rs) :: blkR TM 33 #[.pointer (some ⟨m, 0, none⟩)] :: markR m a 2049 (C) :: arenaR a A :: adjR Try.prog 36 36 b (T3) :: blkR (T + 1) 4 #[.bool false] :: blkR T 25 #[.slice A0 n0 c0, .slice A1 n1 c1] :: []), x.w'.cell? ⟨g, K2, none⟩ = some (.int .i64 (ry : Int)) := fun x => x.h.rowCell 2 rfl K2 _ (nums_get _ _ _ HY.out)
            repeat (go_big_quiet_step (fail))
            refine wpQuiet_nil ?_
            rintro wq ⟨⟨wqx, hs⟩, rfl⟩
            clear yz0 yz1 yx yy hne0
            have HCF := Lib.hid (HFields hs 5 rfl HGQ.out.heap hxr)
            obtain ⟨Fn, hFn⟩ : ∃ Fn, (ft rx).length = Fn := ⟨_, rfl⟩
            have HFN := Lib.hid hFn
            have hF6 : Fn ≤ 6 := by rw [← hFn]; exact (ptsOf_len HGQ.out.heap hxr).2
            obtain ⟨bm, hbm⟩ : ∃ b, C.mz rx = b := ⟨_, rfl⟩
            have HBM := Lib.hid hbm
            clear hs hFn HSB hT5 HX HY hbm
            by_cases hF0 : Fn = 0
            · have hFz : (Fn : Int) = 0 := by omega
              have hFb : ((Fn : Int) == 0) = true := by simp; omega
              go_wp2_with (go_at_call 36; refine (HCF.out).mono ?_; rw [HFN.out]; rintro e w5 ⟨rfl, hs⟩; have HSK := Lib.hid hs.tail; clear hs HCF)
              go_roundw
              case rel => exact ⟨k + 1, A, ft, C, T3, by omega, by go_num, HGQ.out, HSH.out, HMR.out, HLE.out, HPT.out, HTI.out, (fun x => by have := HTL.out x; omega), HSK.out⟩
              case measure => simp [intOf]; omega
            · have hFz : ¬ (Fn : Int) = 0 := by omega
              have hFb : ((Fn : Int) == 0) = false := by simp; omega
              cases bm with
              | false =>
                go_wp2_with (first
                  | (go_at_call 36; refine (HCF.out).mono ?_; rw [HFN.out]; rintro e w5 ⟨rfl, hs⟩; have y0 := (hs.blk 3 rfl).cell 0; simp only [List.getElem?_toArray, List.getElem?_cons_zero, List.getElem?_cons_succ] at y0; have HCM := Lib.hid (KMarked hs 4 rfl rx hx2.2); clear hs HCF)
                  | (go_at_call 27; refine (HCM.out).mono ?_; rw [HBM.out]; rintro e w6 ⟨rfl, hs⟩; clear y0; have HSK := Lib.hid hs.tail; clear hs HCM))
                go_roundw
                case rel => exact ⟨k + 1, A, ft, C, T3, by omega, by go_num, HGQ.out, HSH.out, HMR.out, HLE.out, HPT.out, HTI.out, (fun x => by have := HTL.out x; omega), HSK.out⟩
                case measure => simp [intOf]; omega
              | true =>
                obtain ⟨J, tm, tl⟩ : ∃ J : Nat, d2.tmod (Fn : Int) = (J : Int) ∧ J < Fn := by
                  have h1 := Int.emod_nonneg d2 (show (Fn : Int) ≠ 0 by omega)
                  have h2 := Int.emod_lt_of_pos d2 (show (0 : Int) < (Fn : Int) by omega)
                  refine ⟨(d2 % (Fn : Int)).toNat, ?_, by omega⟩
                  rw [Int.tmod_eq_emod_of_nonneg (by omega)]
                  omega
                have tI : (J : Int) < (Fn : Int) := by omega
                have t0 : (0 : Int) ≤ (J : Int) := by omega
                go_wp2_with (first
                  | (go_at_call 36; refine (HCF.out).mono ?_; rw [HFN.out]; rintro e w5 ⟨rfl, hs⟩; have z2 := (hs.blk 0 rfl).cell 2; have y0 := (hs.blk 3 rfl).cell 0; simp only [List.getElem?_toArray, List.getElem?_cons_zero, List.getElem?_cons_succ] at z2 y0; have HCM := Lib.hid (KMarked hs 4 rfl rx hx2.2); clear hs HCF)
                  | (go_at_call 27; refine (HCM.out).mono ?_; rw [HBM.out]; rintro e w6 ⟨rfl, hs⟩; clear z2 y0; have z2 := (hs.blk 0 rfl).cell 2; simp only [List.getElem?_toArray, List.getElem?_cons_zero, List.getElem?_cons_succ] at z2; have HCS := Lib.hid (HSetField hs 5 rfl HGQ.out.heap hxr J ry (by rw [HFN.out]; exact tl) (.inr hyr)); clear hs HCM)
                  | (go_at_call 39; refine (HCS.out).mono ?_; rintro e w8 ⟨A2, rfl, hs, hS, hH⟩; have HSS := Lib.hid hS; have HHH := Lib.hid hH; obtain ⟨cnt, M, OO, hhole, hs8⟩ := adj_out (show Sep w w8 (adjR Try.prog 36 36 b (T3) :: blkR T5 69 #[.int .u16 d0, .int .u16 d1, .int .u16 d2] :: rowR 36 1 (.slice AQ Ln capr) Ln (nums out) :: rowR 36 1 (.slice (some ⟨g, 0, none⟩) Rn capl) Rn (nums rs) :: blkR TM 33 #[.pointer (some ⟨m, 0, none⟩)] :: markR m a 2049 (C) :: arenaR a A2 :: blkR (T + 1) 4 #[.bool false] :: blkR T 25 #[.slice A0 n0 c0, .slice A1 n1 c1] :: []) from hs.front 7 [6]) rx (by omega); have hlk := gmap_get keyRef Try.underlying30 (zeroRow _) hs8 0 rfl (keyOfRef (x := rx) (by omega)); obtain ⟨vv, hvv⟩ : ∃ vv, (M (litR rx)).getD (.slice none 0 0) = vv := ⟨_, rfl⟩; rw [hvv] at hlk hs8; have hs9 := hs8.box #[.int .i64 (ry : Int)] 36; obtain ⟨v9, w9, hrun, hs10⟩ := hs9.append_some (P := Try.prog) (t := 29) (ad := ⟨w8.heap.size, 0, none⟩) (m := 1) (c := 1) (us := [.int .i64 (ry : Int)]) 29 Try.underlying29 refInfo rfl (by decide) 2 rfl rfl (by
                      intro j u hj
                      match j, hj with
                      | 0, hj =>
                        simp at hj
                        subst hj
                        simp [Addr.add]) (by simp [Value.oneCell']) (by have := HTL.out rx; unfold maxLen; omega) (by have := HTL.out rx; omega); obtain ⟨w10, hput, hs11⟩ := gmap_put keyRef Try.underlying30 hs10 1 rfl (by have := hhole.few; unfold maxLen; omega) (keyOfRef (x := rx) (by omega)) v9; have h12 := hhole.back w w10 (blkR T5 69 #[.int .u16 d0, .int .u16 d1, .int .u16 d2] :: rowR 36 1 (.slice AQ Ln capr) Ln (nums out) :: rowR 36 1 (.slice (some ⟨g, 0, none⟩) Rn capl) Rn (nums rs) :: blkR TM 33 #[.pointer (some ⟨m, 0, none⟩)] :: markR m a 2049 (C) :: arenaR a A2 :: blkR (T + 1) 4 #[.bool false] :: blkR T 25 #[.slice A0 n0 c0, .slice A1 n1 c1] :: []) v9 (T3 rx ++ [ry]) (by rw [nums_append, List.length_append]; exact hs11.tail); have hs12 := (show Sep w w10 (adjR Try.prog 36 36 b (updT T3 rx (T3 rx ++ [ry])) :: blkR T5 69 #[.int .u16 d0, .int .u16 d1, .int .u16 d2] :: rowR 36 1 (.slice AQ Ln capr) Ln (nums out) :: rowR 36 1 (.slice (some ⟨g, 0, none⟩) Rn capl) Rn (nums rs) :: blkR TM 33 #[.pointer (some ⟨m, 0, none⟩)] :: markR m a 2049 (C) :: arenaR a A2 :: blkR (T + 1) 4 #[.bool false] :: blkR T 25 #[.slice A0 n0 c0, .slice A1 n1 c1] :: []) from h12).front 9 [1, 2, 3, 4, 5, 6, 0, 7, 8]; have HS12 := Lib.hid (show Sep w w10 (blkR T5 69 #[.int .u16 d0, .int .u16 d1, .int .u16 d2] :: rowR 36 1 (.slice AQ Ln capr) Ln (nums out) :: rowR 36 1 (.slice (some ⟨g, 0, none⟩) Rn capl) Rn (nums rs) :: blkR TM 33 #[.pointer (some ⟨m, 0, none⟩)] :: markR m a 2049 (C) :: arenaR a A2 :: adjR Try.prog 36 36 b (updT T3 rx (T3 rx ++ [ry])) :: blkR (T + 1) 4 #[.bool false] :: blkR T 25 #[.slice A0 n0 c0, .slice A1 n1 c1] :: []) from hs12); have HLK := Lib.hid hlk; have HRUN := Lib.hid hrun; have HPUT := Lib.hid hput; have v0 := (hs12.blk 3 rfl).cell 0; simp only [List.getElem?_toArray, List.getElem?_cons_zero, List.getElem?_cons_succ] at v0; have HCR := Lib.hid (KRegrey hs12 4 rfl rx hx2.1 hx2.2); clear hs hs8 hs9 hs10 hs11 h12 hs12 hhole hlk hvv hrun hput hS hH HCS z2)
                  | (at_lookup; refine wpList_lookup_run rfl _ _ _ _ rfl rfl rfl HLK.out ?_; clear HLK)
                  | (at_builtin; refine wpList_append_run rfl _ _ _ rfl rfl rfl HRUN.out ?_; clear HRUN)
                  | (at_mapUpdate; refine wpList_mapUpdate_run rfl _ _ _ _ rfl rfl rfl rfl HPUT.out ?_; clear HPUT)
                  | (go_at_call 45; refine (HCR.out).mono ?_; rintro e w11 ⟨rfl, hs⟩; have HS13 := Lib.hid hs.tail; clear hs HCR HS12 v0))
                go_roundw
                case rel => exact ⟨k + 1, A2, updT ft rx ((ft rx).set J ry), _, updT T3 rx (T3 rx ++ [ry]), by omega, by go_num, HGQ.out.store hxr HSS.out HHH.out, shut_again HSH.out rx _, HMR.out, (fun x hx => leads_again rx ry x (HLE.out x hx)), pts_again HPT.out rx J ry, (fun x hx y hy => by
                    by_cases e : x = rx
                    · subst e
                      simp only [updT, if_true, List.mem_append, List.mem_singleton] at hy
                      rcases hy with h | rfl
                      · exact HTI.out x hx y h
                      · exact hyr
                    · simp only [updT, e, if_false] at hy
                      exact HTI.out x hx y hy), (fun x => by
                    have := HTL.out x
                    by_cases e : x = rx
                    · subst e; simp only [updT, if_true, List.length_append, List.length_singleton]; omega
                    · simp only [updT, e, if_false]; omega), HS13.out⟩
                case measure => simp [intOf]; omega
          · obtain rfl : n3 = k := by omega
            have HCT := Lib.hid (KTrace HGQ.out.heap HGQ.out.size (C := C) HMR.out hs 3 4 rfl rfl (by decide) 1000 (by omega))
            have ym := (hs.blk 2 rfl).cell 0
            simp only [List.getElem?_toArray, List.getElem?_cons_zero] at ym
            clear hs
            go_wp2_with (first
              | (go_at_call 37; refine (HCT.out).mono ?_; rintro e w6 ⟨d2, C2, rfl, ht, hs⟩; clear ym; have HTR := Lib.hid ht; have HNO := Lib.hid (traced ht.steps HGQ.out.nodup HGQ.out.ptsIn HMR.out (by rw [HRN.out]; omega) ht.end_); have ym := (hs.blk 2 rfl).cell 0; simp only [List.getElem?_toArray, List.getElem?_cons_zero] at ym; have HCD := Lib.hid (KDrained hs 3 rfl); clear hs ht HCT)
              | (go_at_call 41; refine (HCD.out).mono ?_; rintro e w7 ⟨bq, rfl, hb, hs⟩; obtain rfl : bq = true := hb.2 HNO.out; clear ym; have HS7 := Lib.hid hs; clear hs hb HCD))
            have HSE := Lib.hid (shut_end (HTR.out.steps.shut HSH.out) HNO.out)
            have HLF := Lib.hid (HTR.out.steps.within (P := Leads T3 (fun x => x ∈ out)) (fun x hx y hy => .step hx (HPT.out x y hy)) HLE.out)
            have HFD := Lib.hid (show Field_ rs T3 from ⟨HGR.out.nodup, by rw [HRN.out]; omega, fun x hx => HGR.out.heap.pos hx, fun x => by have := HTL.out x; omega, HTI.out⟩)
            clear HTR HSH HLE HPT HTI HTL HMR
            refine (wpIn_wide (n := 0)).1 ?_
            have HSO := Lib.hid (show Sep w w7 (marksR [] :: rowR 36 1 (.slice AQ Ln capr) Ln (nums out) :: rowR 36 1 (.slice AL Rn capl) Rn (nums rs) :: blkR TM 33 #[.pointer (some ⟨m, 0, none⟩)] :: markR m a 2049 (C2) :: arenaR a A :: adjR Try.prog 36 36 b (T3) :: blkR (T + 1) 4 #[.bool false] :: blkR T 25 #[.slice A0 n0 c0, .slice A1 n1 c1] :: []) from HS7.out.noMarks)
            clear HS7
            refine wpIn_loopM (Ds := []) [20, 21, 126, 127, 128, 129, 130, 131, 132, 134, 135, 136, 137, 138, 139, 140, 141, 142, 143, 144, 145, 146, 147, 148, 149, 150, 151, 152, 153, 154] (fun u Ds1 wr2 => ∃ (q : Nat), q ≤ Rn ∧ u 126 = .int .i64 q ∧ Sep w wr2 (marksR Ds1 :: rowR 36 1 (.slice AQ Ln capr) Ln (nums out) :: rowR 36 1 (.slice AL Rn capl) Rn (nums rs) :: blkR TM 33 #[.pointer (some ⟨m, 0, none⟩)] :: markR m a 2049 (C2) :: arenaR a A :: adjR Try.prog 36 36 b (T3) :: blkR (T + 1) 4 #[.bool false] :: blkR T 25 #[.slice A0 n0 c0, .slice A1 n1 c1] :: [])) (fun u _ => Rn + 1 - (intOf (u 126)).toNat) ⟨0, by omega, rfl, HSO.out⟩ (by kernel_rfl) ?_
            clear HSO
            rintro u Ds1 wr2 ⟨q, hk, hv, hs⟩
            simp only [setS, List.foldl_cons, List.foldl_nil, List.setIfInBounds_toArray, List.set_cons_succ, List.set_cons_zero]
            simp only [hv]
            clear hv
            by_cases hltq : q < Rn
            · have hltIq : (q : Int) < (Rn : Int) := by omega
              obtain ⟨g, cap', hsl, _, _⟩ := hs.rowSome 2 rfl (by omega)
              simp only [Value.slice.injEq] at hsl
              obtain ⟨rfl, _, rfl⟩ := hsl
              obtain ⟨xr, hx⟩ : ∃ x, rs[q]? = some x := ⟨_, List.getElem?_eq_getElem (by rw [HRN.out]; exact hltq)⟩
              have cc0 := hs.rowCell 2 rfl q _ (nums_get _ _ _ hx)
              obtain ⟨T8, hT8⟩ : ∃ T8, wr2.heap.size = T8 := ⟨_, rfl⟩
              have hsb := hs.box #[.int .i64 (xr : Int)] 36
              rw [hT8] at hsb
              have y0 := (hsb.blk 0 rfl).cell 0
              simp only [List.getElem?_toArray, List.getElem?_cons_zero] at y0
              have hxr : xr ∈ rs := List.mem_of_getElem? hx
              have hx2 := HGR.out.lt hxr
              have HC := Lib.hid (CPoints hsb.swap a (xr : Int))
              clear hs hsb hx
              gi_wp2_with (gi_at_call 40; refine (calls_in (HC.out)).mono ?_; rintro e w4 ⟨rfl, hs⟩; try simp only [World.size_alloc, hT8] at hs; have HS4 := Lib.hid hs; clear hs HC)
              try simp only [World.size_alloc, hT8]
              clear cc0 y0
              obtain ⟨P2, hP2⟩ : ∃ P, T8 + 1 = P := ⟨_, rfl⟩
              have hs9 := HS4.out
              simp only [hP2] at hs9 ⊢
              have HS9 := Lib.hid (show Sep w w4 ([blkR P2 28 #[.pointer (some ⟨a, 0, none⟩)], blkR (P2 + 1) 36 #[.int .i64 (xr : Int)], arenaR a A] ++ (marksR Ds1 :: blkR T8 36 #[.int .i64 (xr : Int)] :: rowR 36 1 (.slice AQ Ln capr) Ln (nums out) :: rowR 36 1 (.slice (some ⟨g, 0, none⟩) Rn capl) Rn (nums rs) :: blkR TM 33 #[.pointer (some ⟨m, 0, none⟩)] :: markR m a 2049 (C2) :: adjR Try.prog 36 36 b (T3) :: blkR (T + 1) 4 #[.bool false] :: blkR T 25 #[.slice A0 n0 c0, .slice A1 n1 c1] :: [])) from hs9.front 9 [1, 0, 8])
              clear hs9 HS4 hP2 hT8
              refine wp_rangeM (gf := 65) (lb := #[.pointer (some ⟨P2, 0, none⟩), .pointer (some ⟨P2 + 1, 0, none⟩)]) rfl (enters_of Try.func65 (by kernel_rfl) rfl) (hpoints_iter P2 (P2 + 1) a HGQ.out.heap hxr) (fun _ => rfl) HS9.out
                (fun pre Rs => Rs = blkR T8 36 #[.int .i64 (xr : Int)] :: rowR 36 1 (.slice AQ Ln capr) Ln (nums out) :: rowR 36 1 (.slice (some ⟨g, 0, none⟩) Rn capl) Rn (nums rs) :: blkR TM 33 #[.pointer (some ⟨m, 0, none⟩)] :: markR m a 2049 (C2) :: adjR Try.prog 36 36 b (T3) :: blkR (T + 1) 4 #[.bool false] :: blkR T 25 #[.slice A0 n0 c0, .slice A1 n1 c1] :: []) (fun _ _ _ => False) rfl ?roundR2 ?doneR2 ?stopR2
              case stopR2 => rintro _ _ _ _ _ _ h; exact h.elim
              case roundR2 =>
                rintro l1 pre y _ G V1 r1 hpre rfl hS1
                simp only [List.cons_append, List.nil_append] at hS1
                have hyp : y ∈ ptsOf ft xr := hpre.subset (by simp)
                have HS1 := Lib.hid hS1
                clear hpre hS1 HS9
                gi_wp2
                refine ⟨[], HS1.out, ?_⟩
                intro r' V2 hS2
                simp only [List.cons_append, List.nil_append] at hS2
                clear HS1
                have hyr := HGQ.out.ptsIn xr hxr y hyp
                have hy2 := HGR.out.lt hyr
                have y0 := (hS2.blk 7 rfl).cell 0
                have y1 := (hS2.blk 4 rfl).cell 0
                simp only [List.getElem?_toArray, List.getElem?_cons_zero] at y0 y1
                have HC := Lib.hid (KMarked hS2 8 rfl xr hx2.2)
                obtain ⟨sb, hsb⟩ : ∃ b, C2.mz xr = b := ⟨_, rfl⟩
                have HSB := Lib.hid hsb
                clear hS2 hsb
                cases sb with
                | false =>
                  gi_wp2_with (gi_at_call 27; refine (calls_round (HC.out)).mono ?_; rw [HSB.out]; rintro e w7 ⟨rfl, hs⟩; have HS7 := Lib.hid hs; clear hs HC y0 y1)
                  exact ⟨_, rfl, HS7.out⟩
                | true =>
                  have HYM := Lib.hid (show C2.mz y = true from HSE.out xr HSB.out y hyp)
                  gi_wp2_with (first
                    | (gi_at_call 27; refine (calls_round (HC.out)).mono ?_; rw [HSB.out]; rintro e w7 ⟨rfl, hs⟩; clear y0 y1; have z0 := (hs.blk 7 rfl).cell 0; simp only [List.getElem?_toArray, List.getElem?_cons_zero] at z0; have HC2 := Lib.hid (KMarked hs 8 rfl y hy2.2); clear hs HC)
                    | (gi_at_call 27; refine (calls_round (HC2.out)).mono ?_; rw [HYM.out]; rintro e w8 ⟨rfl, hs⟩; have HS7 := Lib.hid hs; clear hs HC2))
                  exact ⟨_, rfl, HS7.out⟩
              rintro Ds2 _ V hR hS
              subst hR
              simp only [List.cons_append, List.nil_append] at hS
              have HSD := Lib.hid (show Sep w V (marksR Ds2 :: blkR T8 36 #[.int .i64 (xr : Int)] :: rowR 36 1 (.slice AQ Ln capr) Ln (nums out) :: rowR 36 1 (.slice (some ⟨g, 0, none⟩) Rn capl) Rn (nums rs) :: blkR TM 33 #[.pointer (some ⟨m, 0, none⟩)] :: markR m a 2049 (C2) :: arenaR a A :: adjR Try.prog 36 36 b (T3) :: blkR (T + 1) 4 #[.bool false] :: blkR T 25 #[.slice A0 n0 c0, .slice A1 n1 c1] :: []) from (hS.front 12 [0, 1, 3, 4, 5, 6, 7, 8, 2, 9, 10, 11]).tail.tail)
              clear hS HS9
              obtain ⟨mb_, hmb_⟩ : ∃ b, C2.mz xr = b := ⟨_, rfl⟩
              have HMB := Lib.hid hmb_
              clear hmb_
              cases mb_ with
              | false =>
                have HMK := Lib.hid (fun (W : World) (S : Sep w W (marksR Ds2 :: blkR T8 36 #[.int .i64 (xr : Int)] :: rowR 36 1 (.slice AQ Ln capr) Ln (nums out) :: rowR 36 1 (.slice (some ⟨g, 0, none⟩) Rn capl) Rn (nums rs) :: blkR TM 33 #[.pointer (some ⟨m, 0, none⟩)] :: markR m a 2049 (C2) :: arenaR a A :: adjR Try.prog 36 36 b (T3) :: blkR (T + 1) 4 #[.bool false] :: blkR T 25 #[.slice A0 n0 c0, .slice A1 n1 c1] :: [])) => (show Calls Try.prog 27 #[.pointer (some ⟨m, 0, none⟩), .int .i64 (xr : Int)] W fun e w' => e = .returned (.bool false) ∧ Sep w w' (marksR Ds2 :: blkR T8 36 #[.int .i64 (xr : Int)] :: rowR 36 1 (.slice AQ Ln capr) Ln (nums out) :: rowR 36 1 (.slice (some ⟨g, 0, none⟩) Rn capl) Rn (nums rs) :: blkR TM 33 #[.pointer (some ⟨m, 0, none⟩)] :: markR m a 2049 (C2) :: arenaR a A :: adjR Try.prog 36 36 b (T3) :: blkR (T + 1) 4 #[.bool false] :: blkR T 25 #[.slice A0 n0 c0, .slice A1 n1 c1] :: []) from by
                  have := KMarked S 5 rfl xr hx2.2
                  rw [HMB.out] at this
                  exact this))
                gi_wp2
                refine regionIn_sep HSD.out (by kernel_rfl) (by kernel_rfl) ?_
                intro hne0
                have yk1 : ∀ x : SepW w (marksR Ds2 :: blkR T8 36 #[.int .i64 (xr : Int)] :: rowR 36 1 (.slice AQ Ln capr) Ln (nums out) :: rowR 36 1 (.slice (some ⟨g, 0, none⟩) Rn capl) Rn (nums rs) :: blkR TM 33 #[.pointer (some ⟨m, 0, none⟩)] :: markR m a 2049 (C2) :: arenaR a A :: adjR Try.prog 36 36 b (T3) :: blkR (T + 1) 4 #[.bool false] :: blkR T 25 #[.slice A0 n0 c0, .slice A1 n1 c1] :: []), x.w'.cell? ⟨TM, 0, none⟩ = some (.pointer (some ⟨m, 0, none⟩)) := fun x => by
                  have := (x.h.blk 4 rfl).cell 0
                  simpa using this
                have yk2 : ∀ x : SepW w (marksR Ds2 :: blkR T8 36 #[.int .i64 (xr : Int)] :: rowR 36 1 (.slice AQ Ln capr) Ln (nums out) :: rowR 36 1 (.slice (some ⟨g, 0, none⟩) Rn capl) Rn (nums rs) :: blkR TM 33 #[.pointer (some ⟨m, 0, none⟩)] :: markR m a 2049 (C2) :: arenaR a A :: adjR Try.prog 36 36 b (T3) :: blkR (T + 1) 4 #[.bool false] :: blkR T 25 #[.slice A0 n0 c0, .slice A1 n1 c1] :: []), x.w'.cell? ⟨T8, 0, none⟩ = some (.int .i64 (xr : Int)) := fun x => by
                  have := (x.h.blk 1 rfl).cell 0
                  simpa using this
                repeat (gi_big_quiet_step (first
                  | (gi_at_call 27; exact sep_calls_in (HMK.out _ (SepW.h _)))))
                refine wpQuietIn_nil ?_
                rintro wq ⟨⟨wqx, hs⟩, rfl⟩
                clear yk1 yk2 hne0
                have HSQ := Lib.hid hs
                clear hs
                gi_wp2
                refine ⟨Ds2, rfl, by kernel_rfl, ⟨q + 1, by omega, rfl, HSQ.out.swap.tail⟩, ?_⟩
                show Rn + 1 - (intOf (.int .i64 ((q : Int) + 1))).toNat < Rn + 1 - (intOf (.int .i64 (q : Int))).toNat
                simp [intOf]
                omega
              | true =>
                gi_wp2
                obtain ⟨wd, hwd⟩ : ∃ wd, V.drew = wd := ⟨_, rfl⟩
                have hd := HSD.out.drew
                rw [hwd] at hd
                have k1 := (hd.blk 4 rfl).cell 0
                have k2 := (hd.blk 1 rfl).cell 0
                simp only [List.getElem?_toArray, List.getElem?_cons_zero] at k1 k2
                have hcm := KMarked hd 5 rfl xr hx2.2
                rw [HMB.out] at hcm
                have HCM := Lib.hid hcm
                have hro : Try.prog.follows .mixedOrders = true := by kernel_rfl
                clear hd hcm HSD
                have HCR := Lib.hid (fun (W : World) (S : Sep w W (marksR Ds2 :: blkR T8 36 #[.int .i64 (xr : Int)] :: rowR 36 1 (.slice AQ Ln capr) Ln (nums out) :: rowR 36 1 (.slice (some ⟨g, 0, none⟩) Rn capl) Rn (nums rs) :: blkR TM 33 #[.pointer (some ⟨m, 0, none⟩)] :: markR m a 2049 (C2) :: arenaR a A :: adjR Try.prog 36 36 b (T3) :: blkR (T + 1) 4 #[.bool false] :: blkR T 25 #[.slice A0 n0 c0, .slice A1 n1 c1] :: [])) => Reach11 HFD.out HIN.out (by rw [HLN.out]; omega) (show Sep w W (rowR 36 1 (.slice AQ Ln capr) out.length (nums out) :: adjR Try.prog 36 36 b (T3) :: marksR Ds2 :: blkR T8 36 #[.int .i64 (xr : Int)] :: rowR 36 1 (.slice (some ⟨g, 0, none⟩) Rn capl) Rn (nums rs) :: blkR TM 33 #[.pointer (some ⟨m, 0, none⟩)] :: markR m a 2049 (C2) :: arenaR a A :: blkR (T + 1) 4 #[.bool false] :: blkR T 25 #[.slice A0 n0 c0, .slice A1 n1 c1] :: []) from by rw [HLN.out]; exact S.front 8 [2, 7]))
                have HVE := Lib.hid (show ∀ V : Nat → Bool, (∀ x, V x = true ↔ Leads T3 (fun x => x ∈ out) x) → V xr = true from fun V hV => (hV xr).2 (HLF.out xr HMB.out))
                refine wpIn_wide.2 ?_
                refine calmP ?_
                refine wp_region_float (fun W => W.cell? ⟨TM, 0, none⟩ = some (.pointer (some ⟨m, 0, none⟩)) ∧ W.cell? ⟨T8, 0, none⟩ = some (.int .i64 (xr : Int))) hro ?_
                rw [hwd]
                clear hwd
                refine wpAnyC_take (i := 0) (v := ?v1) rfl (by kernel_rfl) (by kernel_rfl) (by kernel_rfl) (fun _ _ _ h => h) (.inl ⟨?w1, ?y1⟩) ?h1
                case w1 => kernel_rfl
                case y1 =>
                  intro W hf
                  obtain ⟨hf1, hf2⟩ := hf
                  unfold yieldsAt
                  go_simp
                  all_goals first | rfl | exact ⟨rfl, rfl⟩
                simp only [List.getElem_toArray, List.getElem_cons_zero, List.getElem_cons_succ, Act.put, List.setIfInBounds_toArray, List.set_cons_succ, List.set_cons_zero]
                refine wpAnyC_take (i := 1) (v := ?v2) rfl (by kernel_rfl) (by kernel_rfl) (by kernel_rfl) (fun _ _ _ h => h) (.inl ⟨?w2, ?y2⟩) ?h2
                case w2 => kernel_rfl
                case y2 =>
                  intro W hf
                  obtain ⟨hf1, hf2⟩ := hf
                  unfold yieldsAt
                  go_simp
                  all_goals first | rfl | exact ⟨rfl, rfl⟩
                simp only [List.getElem_toArray, List.getElem_cons_zero, List.getElem_cons_succ, Act.put, List.setIfInBounds_toArray, List.set_cons_succ, List.set_cons_zero]
                refine wpAnyC_one (i := 2) rfl (by kernel_rfl) ⟨k1, k2⟩ rfl ?_
                intro K hK
                refine wp_call_of ?hrun3 HCM.out ?hK3
                case hrun3 => go_simp
                intro w7 hs
                have m1 := (hs.blk 4 rfl).cell 0
                have m2 := (hs.blk 1 rfl).cell 0
                simp only [List.getElem?_toArray, List.getElem?_cons_zero] at m1 m2
                have HS7 := Lib.hid hs
                clear hs HCM
                refine hK _ _ ?_
                simp only [List.getElem_toArray, List.getElem_cons_zero, List.getElem_cons_succ, Act.put, List.setIfInBounds_toArray, List.set_cons_succ, List.set_cons_zero]
                refine wpAnyC_take (i := 3) (v := ?v4) rfl (by kernel_rfl) (by kernel_rfl) (by kernel_rfl) (fun _ _ _ h => h) (.inl ⟨?w4, ?y4⟩) ?h4
                case w4 => kernel_rfl
                case y4 =>
                  intro W hf
                  obtain ⟨hf1, hf2⟩ := hf
                  unfold yieldsAt
                  go_simp
                  all_goals first | rfl | exact ⟨rfl, rfl⟩
                simp only [List.getElem_toArray, List.getElem_cons_zero, List.getElem_cons_succ, Act.put, List.setIfInBounds_toArray, List.set_cons_succ, List.set_cons_zero]
                refine wpAnyC_take (i := 4) (v := ?v5) rfl (by kernel_rfl) (by kernel_rfl) (by kernel_rfl) (fun _ _ _ h => h) (.inl ⟨?w5, ?y5⟩) ?h5
                case w5 => kernel_rfl
                case y5 =>
                  intro W hf
                  obtain ⟨hf1, hf2⟩ := hf
                  unfold yieldsAt
                  go_simp
                  all_goals first | rfl | exact ⟨rfl, rfl⟩
                simp only [List.getElem_toArray, List.getElem_cons_zero, List.getElem_cons_succ, Act.put, List.setIfInBounds_toArray, List.set_cons_succ, List.set_cons_zero]
                refine wpAnyC_take (i := 5) (v := ?v6) rfl (by kernel_rfl) (by kernel_rfl) (by kernel_rfl) (fun _ _ _ h => h) (.inl ⟨?w6, ?y6⟩) ?h6
                case w6 => kernel_rfl
                case y6 =>
                  intro W hf
                  obtain ⟨hf1, hf2⟩ := hf
                  unfold yieldsAt
                  go_simp
                  all_goals first | rfl | exact ⟨rfl, rfl⟩
                simp only [List.getElem_toArray, List.getElem_cons_zero, List.getElem_cons_succ, Act.put, List.setIfInBounds_toArray, List.set_cons_succ, List.set_cons_zero]
                refine wpAnyC_take (i := 7) (v := ?v7) rfl (by kernel_rfl) (by kernel_rfl) (by kernel_rfl) (fun _ _ _ h => h) (.inl ⟨?w7, ?y7⟩) ?h7
                case w7 => kernel_rfl
                case y7 =>
                  intro W hf
                  obtain ⟨hf1, hf2⟩ := hf
                  unfold yieldsAt
                  go_simp
                  all_goals first | rfl | exact ⟨rfl, rfl⟩
                simp only [List.getElem_toArray, List.getElem_cons_zero, List.getElem_cons_succ, Act.put, List.setIfInBounds_toArray, List.set_cons_succ, List.set_cons_zero]
                refine wpAnyC_one (i := 6) rfl (by kernel_rfl) ⟨m1, m2⟩ rfl ?_
                intro K hK
                refine wp_call_any ?hrunX (HCR.out w7 HS7.out) ?hKX
                case hrunX => go_simp
                rintro e w8 ⟨mb, V, rfl, hV, hVo, hs⟩
                have hlk := map_get refIntOk hs 0 rfl (wfx (x := xr) (by omega))
                rw [visM_at, HVE.out V hV] at hlk
                simp only [if_true, Option.getD_some] at hlk
                have n1 := (hs.blk 6 rfl).cell 0
                have n2 := (hs.blk 4 rfl).cell 0
                simp only [List.getElem?_toArray, List.getElem?_cons_zero] at n1 n2
                have HLK := Lib.hid hlk
                have HS8 := Lib.hid hs
                clear hs hlk hV hVo HS7
                refine ⟨_, rfl, hK _ _ ?_⟩
                simp only [List.getElem_toArray, List.getElem_cons_zero, List.getElem_cons_succ, Act.put, List.setIfInBounds_toArray, List.set_cons_succ, List.set_cons_zero]
                refine wpAnyC_one (i := 8) rfl (by kernel_rfl) ⟨n1, n2⟩ rfl ?_
                intro K hK
                refine wp_lookup_op _ _ _ _ rfl rfl rfl HLK.out (hK _ _ ?_)
                simp only [List.getElem_toArray, List.getElem_cons_zero, List.getElem_cons_succ, Act.put, List.setIfInBounds_toArray, List.set_cons_succ, List.set_cons_zero]
                refine wpAnyC_take (i := 9) (v := ?v8) rfl (by kernel_rfl) (by kernel_rfl) (by kernel_rfl) (fun _ _ _ h => h) (.inl ⟨?w8, ?y8⟩) ?h8
                case w8 => kernel_rfl
                case y8 =>
                  intro W hf
                  obtain ⟨hf1, hf2⟩ := hf
                  unfold yieldsAt
                  go_simp
                  all_goals first | rfl | exact ⟨rfl, rfl⟩
                simp only [List.getElem_toArray, List.getElem_cons_zero, List.getElem_cons_succ, Act.put, List.setIfInBounds_toArray, List.set_cons_succ, List.set_cons_zero]
                refine wpAnyC_take (i := 10) (v := ?v9) rfl (by kernel_rfl) (by kernel_rfl) (by kernel_rfl) (fun _ _ _ h => h) (.inl ⟨?w9, ?y9⟩) ?h9
                case w9 => kernel_rfl
                case y9 =>
                  intro W hf
                  obtain ⟨hf1, hf2⟩ := hf
                  unfold yieldsAt
                  go_simp
                  all_goals first | rfl | exact ⟨rfl, rfl⟩
                simp only [List.getElem_toArray, List.getElem_cons_zero, List.getElem_cons_succ, Act.put, List.setIfInBounds_toArray, List.set_cons_succ, List.set_cons_zero]
                refine wpAnyC_done (by kernel_rfl) ⟨n1, n2⟩ ?_ _
                try simp only [List.getElem_toArray, List.getElem_cons_zero, List.getElem_cons_succ, Act.put, List.setIfInBounds_toArray, List.set_cons_succ, List.set_cons_zero]
                clear n1 n2 m1 m2 k1 k2
                have hs9 := HS8.out
                have HSQ := Lib.hid (show Sep w w8 (marksR Ds2 :: blkR T8 36 #[.int .i64 (xr : Int)] :: rowR 36 1 (.slice AQ Ln capr) Ln (nums out) :: rowR 36 1 (.slice (some ⟨g, 0, none⟩) Rn capl) Rn (nums rs) :: blkR TM 33 #[.pointer (some ⟨m, 0, none⟩)] :: markR m a 2049 (C2) :: arenaR a A :: adjR Try.prog 36 36 b (T3) :: blkR (T + 1) 4 #[.bool false] :: blkR T 25 #[.slice A0 n0 c0, .slice A1 n1 c1] :: []) from by
                  have h1 := (show Sep w w8 (mapR Try.prog 35 36 3 .i64 .i64 mb (rs.countP V) (visM V) :: rowR 36 1 (.slice AQ Ln capr) out.length (nums out) :: adjR Try.prog 36 36 b (T3) :: marksR Ds2 :: blkR T8 36 #[.int .i64 (xr : Int)] :: rowR 36 1 (.slice (some ⟨g, 0, none⟩) Rn capl) Rn (nums rs) :: blkR TM 33 #[.pointer (some ⟨m, 0, none⟩)] :: markR m a 2049 (C2) :: arenaR a A :: blkR (T + 1) 4 #[.bool false] :: blkR T 25 #[.slice A0 n0 c0, .slice A1 n1 c1] :: []) from hs9).tail
                  rw [HLN.out] at h1
                  exact h1.front 10 [2, 3, 0, 4, 5, 6, 7, 1, 8, 9])
                clear hs9 HS8
                gi_wp2
                refine ⟨Ds2, rfl, by kernel_rfl, ⟨q + 1, by omega, rfl, HSQ.out.swap.tail⟩, ?_⟩
                show Rn + 1 - (intOf (.int .i64 ((q : Int) + 1))).toNat < Rn + 1 - (intOf (.int .i64 (q : Int))).toNat
                simp [intOf]
                omega
            · obtain rfl : Rn = q := by omega
              have ry1 := (hs.blk 7 rfl).frozen 0
              have ry0 := (hs.blk 7 rfl).cell 0
              simp only [List.getElem?_toArray, List.getElem?_cons_zero] at ry0
              have HSZ := Lib.hid hs
              clear hs
              gi_wp2
              go_wp2
              exact leavesM_box (HSZ.out.setCell 7 rfl 0 (.bool true)) 6 rfl rfl rfl (fun w' hs => ⟨rfl, hs.below⟩)
  · by_cases hsm : n0 ≤ 40 ∧ n1 ≤ 120
    · have HSD := Lib.hid (show (decide (n0 ≤ 40) && decide (n1 ≤ 120)) = true by rw [decide_eq_true hsm.1, decide_eq_true hsm.2]; rfl)
      by_cases h20 : n2 ≤ 20
      · have hgt : ¬ (20 : Int) < (n2 : Int) := by omega
        have hgt2 : (30 : Int) < (n3 : Int) := by omega
        clear hsm hsmall
        go_wp2_with (first
          | (go_at_call 42; refine (fit11 _).mono ?_; rintro e w1 ⟨rfl, hC⟩; have hs1 := HS0.out.same hC; have p0 := (hs1.blk 1 rfl).cell 0; have p1 := (hs1.blk 1 rfl).cell 1; have r0 := (hs1.blk 0 rfl).cell 0; have fr0 := (hs1.blk 0 rfl).frozen 0; simp only [List.getElem?_toArray, List.getElem?_cons_zero, List.getElem?_cons_succ] at p0 p1 r0; have HS1 := Lib.hid hs1; clear hC hs1 HS0)
          | (go_at_call 17; refine (Small11 _ A0 n0 c0 A1 n1 c1).mono ?_; rw [HSD.out]; rintro e w2 ⟨rfl, hC⟩; clear p0 p1 r0 fr0; have hs1 := HS1.out.same hC; have p0 := (hs1.blk 1 rfl).cell 0; have p1 := (hs1.blk 1 rfl).cell 1; have r0 := (hs1.blk 0 rfl).cell 0; have fr0 := (hs1.blk 0 rfl).frozen 0; simp only [List.getElem?_toArray, List.getElem?_cons_zero, List.getElem?_cons_succ] at p0 p1 r0; have HS2 := Lib.hid hs1; clear hC hs1 HS1))
        exact leaves_box0 (HS2.out.setCell 0 rfl 0 (.bool true)) 0 rfl rfl rfl ⟨rfl, (HS2.out.setCell 0 rfl 0 (.bool true)).below⟩
      · have hgt : (20 : Int) < (n2 : Int) := by omega
        clear hsm hsmall
        go_wp2_with (first
          | (go_at_call 42; refine (fit11 _).mono ?_; rintro e w1 ⟨rfl, hC⟩; have hs1 := HS0.out.same hC; have p0 := (hs1.blk 1 rfl).cell 0; have p1 := (hs1.blk 1 rfl).cell 1; have r0 := (hs1.blk 0 rfl).cell 0; have fr0 := (hs1.blk 0 rfl).frozen 0; simp only [List.getElem?_toArray, List.getElem?_cons_zero, List.getElem?_cons_succ] at p0 p1 r0; have HS1 := Lib.hid hs1; clear hC hs1 HS0)
          | (go_at_call 17; refine (Small11 _ A0 n0 c0 A1 n1 c1).mono ?_; rw [HSD.out]; rintro e w2 ⟨rfl, hC⟩; clear p0 p1 r0 fr0; have hs1 := HS1.out.same hC; have p0 := (hs1.blk 1 rfl).cell 0; have p1 := (hs1.blk 1 rfl).cell 1; have r0 := (hs1.blk 0 rfl).cell 0; have fr0 := (hs1.blk 0 rfl).frozen 0; simp only [List.getElem?_toArray, List.getElem?_cons_zero, List.getElem?_cons_succ] at p0 p1 r0; have HS2 := Lib.hid hs1; clear hC hs1 HS1))
        exact leaves_box0 (HS2.out.setCell 0 rfl 0 (.bool true)) 0 rfl rfl rfl ⟨rfl, (HS2.out.setCell 0 rfl 0 (.bool true)).below⟩
    · have HSD := Lib.hid (show (decide (n0 ≤ 40) && decide (n1 ≤ 120)) = false by
        rw [Bool.and_eq_false_iff]
        by_cases h : n0 ≤ 40
        · exact .inr (decide_eq_false fun h2 => hsm ⟨h, h2⟩)
        · exact .inl (decide_eq_false h))
      clear hsm hsmall
      go_wp2_with (first
        | (go_at_call 42; refine (fit11 _).mono ?_; rintro e w1 ⟨rfl, hC⟩; have hs1 := HS0.out.same hC; have p0 := (hs1.blk 1 rfl).cell 0; have p1 := (hs1.blk 1 rfl).cell 1; have r0 := (hs1.blk 0 rfl).cell 0; have fr0 := (hs1.blk 0 rfl).frozen 0; simp only [List.getElem?_toArray, List.getElem?_cons_zero, List.getElem?_cons_succ] at p0 p1 r0; have HS1 := Lib.hid hs1; clear hC hs1 HS0)
        | (go_at_call 17; refine (Small11 _ A0 n0 c0 A1 n1 c1).mono ?_; rw [HSD.out]; rintro e w2 ⟨rfl, hC⟩; clear p0 p1 r0 fr0; have hs1 := HS1.out.same hC; have p0 := (hs1.blk 1 rfl).cell 0; have p1 := (hs1.blk 1 rfl).cell 1; have r0 := (hs1.blk 0 rfl).cell 0; have fr0 := (hs1.blk 0 rfl).frozen 0; simp only [List.getElem?_toArray, List.getElem?_cons_zero, List.getElem?_cons_succ] at p0 p1 r0; have HS2 := Lib.hid hs1; clear hC hs1 HS1))
      exact leaves_box0 (HS2.out.setCell 0 rfl 0 (.bool true)) 0 rfl rfl rfl ⟨rfl, (HS2.out.setCell 0 rfl 0 (.bool true)).below⟩
end Go.Proofs.Ytacebfocfpbkdaa
