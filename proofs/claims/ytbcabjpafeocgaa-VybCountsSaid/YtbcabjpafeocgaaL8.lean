/-
  Parts of the proof, joined: VybCountsW. Conditions: as each part says.
-/
import Derived.Test.YtbcabjpafeocgaaL7
import Derived.Test.YtbcabjpafeocgaaL1
import Derived.Test.YtbcabjpafeocgaaL4

/-
  The walk of VybCounts. Conditions: as the theorem says.
-/
namespace Go.Proofs.Ytbcabjpafeocgaa
set_option linter.unusedVariables false
set_option linter.unusedSimpArgs false
open Go.RowKit Go.Shelf

/-- The map has the counts. -/
def McI (M : Int → Option Int) (V : Vy) : Prop := ∀ x : Nat, (M (x : Int)).getD 0 = (V.cnt x : Int)
/-- The log ran over where it should have. -/
structure OvI (rq lg : Nat) (V : Vy) : Prop where
  over : V.over = decide (rq < lg)
  len : V.log.length = min lg rq
  room : V.room = (rq : Int)
theorem updM_at15 (M : Int → Option Int) (x y : Nat) (c : Int) : (updM M (x : Int) (some c) (y : Int)).getD 0 = if y = x then c else (M (y : Int)).getD 0 := by
  unfold updM
  by_cases e : y = x
  · subst e; simp
  · rw [if_neg (by omega), if_neg e]
theorem McI.up {M : Int → Option Int} {V : Vy} (h : McI M V) {x : Nat} (hx : x ≠ 0) {v : Int} (hv : v = ((min (V.cnt x + 1) 3 : Nat) : Int)) : McI (updM M (x : Int) (some v)) (V.up x) := by
  intro y
  rw [updM_at15, up_cnt, if_neg hx]
  by_cases e : y = x
  · subst e; rw [if_pos rfl, updC_same, hv]
  · rw [if_neg e, updC_other _ _ e]; exact h y
theorem McI.down {M : Int → Option Int} {V : Vy} (h : McI M V) {x : Nat} (hx : x ≠ 0 ∧ 0 < V.cnt x ∧ V.cnt x < 3) {v : Int} (hv : v = (V.cnt x : Int) - 1) : McI (updM M (x : Int) (some v)) (V.down x) := by
  intro y
  rw [updM_at15]
  unfold Vy.down
  rw [if_pos hx]
  by_cases e : y = x
  · subst e
    rw [if_pos rfl, hv]
    show _ = ((updC V.cnt y (V.cnt y - 1) y : Nat) : Int)
    rw [updC_same]
    omega
  · rw [if_neg e]
    show _ = ((updC V.cnt x (V.cnt x - 1) y : Nat) : Int)
    rw [updC_other _ _ e]
    exact h y
theorem down_not {V : Vy} {x : Nat} (h : ¬ (x ≠ 0 ∧ 0 < V.cnt x ∧ V.cnt x < 3)) : V.down x = V := by unfold Vy.down; rw [if_neg h]
theorem up_zero (V : Vy) : V.up 0 = V := by unfold Vy.up; rw [if_pos rfl]
theorem OvI.up {rq lg : Nat} {V : Vy} (h : OvI rq lg V) {x : Nat} (hx : x ≠ 0) : OvI rq (lg + 1) (V.up x) := by
  obtain ⟨h1, h2, h3⟩ := h
  unfold Vy.up
  rw [if_neg hx]
  split
  · rename_i h4
    rw [h2, h3] at h4
    refine ⟨?_, ?_, h3⟩
    · show V.over = _
      rw [h1, decide_eq_false (by omega), decide_eq_false (by omega)]
    · show (V.log ++ [x]).length = _
      rw [List.length_append, List.length_singleton, h2]
      omega
  · rename_i h4
    rw [h2, h3] at h4
    refine ⟨?_, ?_, h3⟩
    · show true = _
      rw [decide_eq_true (by omega)]
    · show V.log.length = _
      rw [h2]
      omega
theorem OvI.down {rq lg : Nat} {V : Vy} (h : OvI rq lg V) (x : Nat) : OvI rq lg (V.down x) := by
  obtain ⟨h1, h2, h3⟩ := down_rest V x
  exact ⟨by rw [h3]; exact h.over, by rw [h1]; exact h.len, by rw [h2]; exact h.room⟩
theorem ovI_new (rq : Nat) : OvI rq 0 (Vy.new (rq : Int)) := ⟨by rw [decide_eq_false (by omega)]; rfl, by simp [Vy.new], by simp only [Vy.new]; omega⟩
theorem mcI_new (room : Int) : McI (fun _ => none) (Vy.new room) := fun _ => rfl
set_option maxRecDepth 100000 in
set_option maxHeartbeats 16000000 in
theorem vybCounts_walk (A0 : Option Addr) (n0 c0 : Nat) (D0 : Nat → Nat → Int) (A1 : Option Addr) (n1 c1 : Nat) (D1 : Nat → Nat → Int) (A2 : Option Addr) (n2 c2 : Nat) (D2 : Nat → Nat → Int) (r0 : Int) (w : World) (hz0 : ArgI w A0 n0 [.u8] D0) (hm0 : n0 ≤ maxLen) (hz1 : ArgI w A1 n1 [.u16, .u16, .u16] D1) (hm1 : n1 ≤ maxLen) (hz2 : ArgI w A2 n2 [.u8, .u8, .u8, .u8] D2) (hm2 : n2 ≤ maxLen) (hr0 : (Lit.int .u8 r0).wf = true) :
    Calls Try.prog 10 #[.agg #[.slice A0 n0 c0, .slice A1 n1 c1], .slice A2 n2 c2, .int .u8 r0] w fun e w' => e = .returned (.bool true) ∧ Below w.heap.size w w' := by
  have HZ0 := Lib.hid hz0
  have HZ1 := Lib.hid hz1
  have HZ2 := Lib.hid hz2
  have hwr := wf8 hr0
  unfold maxLen at hm0 hm1
  try unfold maxLen at hm2
  clear hz0 hz1 hz2
  obtain ⟨T, hT⟩ : ∃ T, w.heap.size = T := ⟨_, rfl⟩
  clear hr0
  have hs0 := (Sep.start w).box #[.slice A0 n0 c0, .slice A1 n1 c1] 25
  rw [hT] at hs0
  have HS0 := Lib.hid hs0
  clear hs0
  obtain ⟨rq, hrq, hrql⟩ : ∃ q : Nat, r0 % 12 = (q : Int) ∧ q ≤ 11 := ⟨(r0 % 12).toNat, by omega, by omega⟩
  have hrqt : r0.tmod 12 = (rq : Int) := by rw [Int.tmod_eq_emod_of_nonneg (by omega)]; exact hrq
  have hmm := @run_makeMap Try.prog
  go_enter Try.func10, Try.ntmps10
  by_cases hsmall : (n0 ≤ 40 ∧ n1 ≤ 120) ∧ n2 ≤ 60
  · have hsd : (decide (n0 ≤ 40) && decide (n1 ≤ 120)) = true := by rw [decide_eq_true hsmall.1.1, decide_eq_true hsmall.1.2]; rfl
    have HSD := Lib.hid hsd
    obtain ⟨⟨hn0, hn1⟩, hn2⟩ := hsmall
    clear hsd
    have hgt : ¬ (60 : Int) < (n2 : Int) := by omega
    rcases Nat.eq_zero_or_pos n0 with hk0 | hkp
    · have HK0 := Lib.hid hk0
      clear hk0
      go_wp2_with (first
        | (go_at_call 27; refine (fit15 _).mono ?_; rintro e w1 ⟨rfl, hC⟩; have hs1 := HS0.out.same hC; have p0 := (hs1.blk 0 rfl).cell 0; have p1 := (hs1.blk 0 rfl).cell 1; simp only [List.getElem?_toArray, List.getElem?_cons_zero, List.getElem?_cons_succ] at p0 p1; have HS1 := Lib.hid hs1; clear hC hs1 HS0)
        | (go_at_call 13; refine (Small11 _ A0 n0 c0 A1 n1 c1).mono ?_; rw [HSD.out]; rintro e w2 ⟨rfl, hC⟩; have hs1 := HS1.out.same hC; have p0 := (hs1.blk 0 rfl).cell 0; have p1 := (hs1.blk 0 rfl).cell 1; simp only [List.getElem?_toArray, List.getElem?_cons_zero, List.getElem?_cons_succ] at p0 p1; have HS2 := Lib.hid hs1; clear hC hs1 HS1)
        | (go_at_call 14; refine (Made11 A0 n0 c0 D0 A1 n1 c1 D1 HZ0.out HZ1.out hn0 hn1 HS2.out).mono ?_; rintro e w3 ⟨a, b, v, A, rs, fs, rfl, hgr, hlen, hs⟩; have p0 := (hs.blk 3 rfl).cell 0; have p1 := (hs.blk 3 rfl).cell 1; simp only [List.getElem?_toArray, List.getElem?_cons_zero, List.getElem?_cons_succ] at p0 p1; have HGR := Lib.hid hgr; obtain ⟨AL, capl, rfl, hcapl, hmcapl⟩ := hs.rowShape 1 rfl; unfold maxLen at hmcapl; obtain ⟨Rn, hRn⟩ : ∃ Rn, rs.length = Rn := ⟨_, rfl⟩; have HRN := Lib.hid hRn; rw [hRn] at hcapl hs; try rw [hRn]; rw [hRn] at hlen; have hl40 : Rn ≤ 40 := (by omega); have HLEN := Lib.hid hlen; have hr0I : (Rn : Int) = 0 := (by have := HK0.out; omega); have hr0b : ((Rn : Int) == 0) = true := (by simpa using hr0I); have HS3 := Lib.hid hs; clear hs hgr HS2 hRn hlen))
      go_ret
      exact ⟨rfl, HS3.out.below⟩
    go_wp2_with (first
      | (go_at_call 27; refine (fit15 _).mono ?_; rintro e w1 ⟨rfl, hC⟩; have hs1 := HS0.out.same hC; have p0 := (hs1.blk 0 rfl).cell 0; have p1 := (hs1.blk 0 rfl).cell 1; simp only [List.getElem?_toArray, List.getElem?_cons_zero, List.getElem?_cons_succ] at p0 p1; have HS1 := Lib.hid hs1; clear hC hs1 HS0)
      | (go_at_call 13; refine (Small11 _ A0 n0 c0 A1 n1 c1).mono ?_; rw [HSD.out]; rintro e w2 ⟨rfl, hC⟩; have hs1 := HS1.out.same hC; have p0 := (hs1.blk 0 rfl).cell 0; have p1 := (hs1.blk 0 rfl).cell 1; simp only [List.getElem?_toArray, List.getElem?_cons_zero, List.getElem?_cons_succ] at p0 p1; have HS2 := Lib.hid hs1; clear hC hs1 HS1)
      | (go_at_call 14; refine (Made11 A0 n0 c0 D0 A1 n1 c1 D1 HZ0.out HZ1.out hn0 hn1 HS2.out).mono ?_; rintro e w3 ⟨a, b, v, A, rs, fs, rfl, hgr, hlen, hs⟩; have p0 := (hs.blk 3 rfl).cell 0; have p1 := (hs.blk 3 rfl).cell 1; simp only [List.getElem?_toArray, List.getElem?_cons_zero, List.getElem?_cons_succ] at p0 p1; have HGR := Lib.hid hgr; obtain ⟨AL, capl, rfl, hcapl, hmcapl⟩ := hs.rowShape 1 rfl; unfold maxLen at hmcapl; obtain ⟨Rn, hRn⟩ : ∃ Rn, rs.length = Rn := ⟨_, rfl⟩; have HRN := Lib.hid hRn; rw [hRn] at hcapl hs; try rw [hRn]; rw [hRn] at hlen; have hl40 : Rn ≤ 40 := (by omega); have HLEN := Lib.hid hlen; have hr0I : ¬ (Rn : Int) = 0 := (by omega); have hr0b : ((Rn : Int) == 0) = false := (by simp; omega); have hRp : 0 < Rn := (by omega); have HS3 := Lib.hid hs; clear hs hgr HS2 hRn hlen)
      | (go_at_call 15; refine (KNew HS3.out 0 rfl HGR.out.size (by omega) 64 (by omega)).mono ?_; rintro e w4 ⟨m, rfl, hs⟩; have HC := Lib.hid (VNew hs 0 1 rfl rfl HGR.out.size (by omega) (((rq : Nat) : Int)) (by omega)); clear hs HS3)
      | (go_at_call 28; refine (HC.out).mono ?_; rintro e w5 ⟨bb, rfl, hs⟩; have hs5 := (show Sep w w5 (vybR bb m 2049 (Vy.new (((rq : Nat) : Int))) :: markR m a 2049 (Col.white) :: arenaR a A :: rowR 35 1 (.slice AL Rn capl) Rn (nums rs) :: adjR Try.prog 35 35 b (ptsOf fs) :: blkR T 25 #[.slice A0 n0 c0, .slice A1 n1 c1] :: []) from hs).newMap Try.prog 51 35 3 .i64 .i64; obtain ⟨mi, hmi⟩ : ∃ mi, w5.heap.size = mi := ⟨_, rfl⟩; rw [hmi] at hs5; have HS5 := Lib.hid hs5; clear hs hs5 HC))
    obtain ⟨g, cap', hsl, _, _⟩ := HS5.out.rowSome 4 rfl hRp
    simp only [Value.slice.injEq] at hsl
    obtain ⟨rfl, _, rfl⟩ := hsl
    try simp only [hmi]
    clear hmi hmm
    have HS5m := Lib.hid (show Sep w _ (mapR Try.prog 51 35 3 .i64 .i64 mi (0) (fun _ => none) :: vybR bb m 2049 (Vy.new ((rq : Nat) : Int)) :: markR m a 2049 (Col.white) :: arenaR a A :: rowR 35 1 (.slice (some ⟨g, 0, none⟩) Rn capl) Rn (nums rs) :: adjR Try.prog 35 35 b (ptsOf fs) :: blkR T 25 #[.slice A0 n0 c0, .slice A1 n1 c1] :: []) from HS5.out)
    clear HS5
    go_loopw [13, 51] (fun s i wr => ∃ (k cn lg : Nat) (M : Int → Option Int) (V : Vy), k ≤ n2 ∧ lg ≤ k ∧ s = .int .i64 lg ∧ i = .int .i64 k ∧ cn ≤ 2 * k ∧ McI M V ∧ OvI rq lg V ∧ Sep w wr (mapR Try.prog 51 35 3 .i64 .i64 mi (cn) (M) :: vybR bb m 2049 V :: markR m a 2049 (Col.white) :: arenaR a A :: rowR 35 1 (.slice (some ⟨g, 0, none⟩) Rn capl) Rn (nums rs) :: adjR Try.prog 35 35 b (ptsOf fs) :: blkR T 25 #[.slice A0 n0 c0, .slice A1 n1 c1] :: [])) (fun _ i _ => n2 + 1 - (intOf i).toNat)
    case atStart => exact ⟨0, 0, 0, _, _, by omega, by omega, rfl, rfl, by omega, mcI_new _, ovI_new rq, HS5m.out⟩
    case round =>
      clear HS5m
      obtain ⟨k, cn, lg, M, V, hk, hlgk, rfl, rfl, hcn, hmc, hov, hs⟩ := hrel
      have HMC := Lib.hid hmc
      have HOV := Lib.hid hov
      clear hmc hov
      by_cases hlt : k < n2
      · have hltI : (k : Int) < (n2 : Int) := by omega
        obtain ⟨ab, ao, hA0, hcell⟩ := HZ2.out.at_ hs.own hlt
        subst hA0
        have hc0 := hcell 0 _ rfl
        have hw0 := wf8 (HZ2.out.wf hlt 0 .u8 rfl)
        have hc1 := hcell 1 _ rfl
        have hw1 := wf8 (HZ2.out.wf hlt 1 .u8 rfl)
        have hc2 := hcell 2 _ rfl
        have hw2 := wf8 (HZ2.out.wf hlt 2 .u8 rfl)
        have hc3 := hcell 3 _ rfl
        have hw3 := wf8 (HZ2.out.wf hlt 3 .u8 rfl)
        simp at hc0 hc1 hc2 hc3
        obtain ⟨d0, h0⟩ : ∃ d, D2 k 0 = d := ⟨_, rfl⟩
        rw [h0] at hc0 hw0
        obtain ⟨d1, h1⟩ : ∃ d, D2 k 1 = d := ⟨_, rfl⟩
        rw [h1] at hc1 hw1
        obtain ⟨d2, h2⟩ : ∃ d, D2 k 2 = d := ⟨_, rfl⟩
        rw [h2] at hc2 hw2
        obtain ⟨d3, h3⟩ : ∃ d, D2 k 3 = d := ⟨_, rfl⟩
        rw [h3] at hc3 hw3
        clear hcell h0 h1 h2 h3
        have hok := VOk hs 1 rfl
        have HOKV := Lib.hid hok
        have hsb := hs.box #[.int .u8 d0, .int .u8 d1, .int .u8 d2, .int .u8 d3] 52
        obtain ⟨T5, hT5⟩ : ∃ T5, wr.heap.size = T5 := ⟨_, rfl⟩
        rw [hT5] at hsb
        have z0 := (hsb.blk 0 rfl).cell 0
        have z1 := (hsb.blk 0 rfl).cell 1
        have z2 := (hsb.blk 0 rfl).cell 2
        have z3 := (hsb.blk 0 rfl).cell 3
        simp only [List.getElem?_toArray, List.getElem?_cons_zero, List.getElem?_cons_succ] at z0 z1 z2 z3
        obtain ⟨src, old, new, black, hsrc, hold, hnew, hcall⟩ := Write15x hsb 5 rfl HRN.out hRp (by omega) d0 d1 d2 d3 hw0 hw1 hw2 hw3
        have HCW := Lib.hid hcall
        have hol : old < 2049 := hold.elim (fun h => by omega) (fun h => (HGR.out.lt h).2)
        have hnl : new < 2049 := hnew.elim (fun h => by omega) (fun h => (HGR.out.lt h).2)
        clear hs hsb hok hcall hold hnew hsrc
        cases black with
        | false =>
          go_wp2_with (first
            | (go_at_call 29; refine (HCW.out).mono ?_; rintro e w6 ⟨rfl, hs⟩; have hs6 := hs.box #[.int .i64 (src : Int), .int .i64 (old : Int), .int .i64 (new : Int), .bool false, .bool false] 54; have q0 := (hs6.blk 0 rfl).cell 0; have q1 := (hs6.blk 0 rfl).cell 1; have q2 := (hs6.blk 0 rfl).cell 2; have q3 := (hs6.blk 0 rfl).cell 3; have q4 := (hs6.blk 0 rfl).cell 4; simp only [List.getElem?_toArray, List.getElem?_cons_zero, List.getElem?_cons_succ] at q0 q1 q2 q3 q4; have HCP := Lib.hid (VPost hs6 3 rfl (src : Int) old new false false hol hnl); clear hs hs6 HCW z0 z1 z2 z3)
            | (go_at_call 40; refine (VPre _ bb (src : Int) (old : Int)).mono ?_; rintro e w8 ⟨rfl, rfl⟩)
            | (go_at_call 30; refine (HCP.out).mono ?_; rintro e w7 ⟨rfl, hs⟩; clear q0 q1 q2 q3 q4; obtain ⟨T6, hT6⟩ : ∃ T6, w6.heap.size = T6 := ⟨_, rfl⟩; rw [hT6] at hs; have q1 := (hs.blk 0 rfl).cell 1; have q2 := (hs.blk 0 rfl).cell 2; have q3 := (hs.blk 0 rfl).cell 3; simp only [List.getElem?_toArray, List.getElem?_cons_zero, List.getElem?_cons_succ] at q1 q2 q3; have hlk2 := map_get refIntOk hs 2 rfl (wfx (x := old) (by omega)); have HL2 := Lib.hid hlk2; clear hlk2; have HSI := Lib.hid (show Sep w _ (blkR T6 54 #[.int .i64 (src : Int), .int .i64 (old : Int), .int .i64 (new : Int), .bool false, .bool false] :: blkR T5 52 #[.int .u8 d0, .int .u8 d1, .int .u8 d2, .int .u8 d3] :: mapR Try.prog 51 35 3 .i64 .i64 mi (cn) (M) :: vybR bb m 2049 (V.post false old new) :: markR m a 2049 (Col.white) :: arenaR a A :: rowR 35 1 (.slice (some ⟨g, 0, none⟩) Rn capl) Rn (nums rs) :: adjR Try.prog 35 35 b (ptsOf fs) :: blkR T 25 #[.slice A0 n0 c0, .slice A1 n1 c1] :: []) from hs); clear hs HCP)
            | (at_lookup; refine wpList_lookup_run rfl _ _ _ _ rfl rfl rfl HL2.out ?_; clear HL2))
          have HMC2 := Lib.hid (show McI M (V.post false old new) from HMC.out)
          have HOV2 := Lib.hid (show OvI rq lg (V.post false old new) from HOV.out)
          try simp only [hT6]
          clear hT6 q1 q2 q3
          go_loopw [111] (fun i wr => ∃ (q : Nat), q ≤ Rn ∧ i = .int .i64 q ∧ Sep w wr (blkR T6 54 #[.int .i64 (src : Int), .int .i64 (old : Int), .int .i64 (new : Int), .bool false, .bool false] :: blkR T5 52 #[.int .u8 d0, .int .u8 d1, .int .u8 d2, .int .u8 d3] :: mapR Try.prog 51 35 3 .i64 .i64 mi (cn) (M) :: vybR bb m 2049 (V.post false old new) :: markR m a 2049 (Col.white) :: arenaR a A :: rowR 35 1 (.slice (some ⟨g, 0, none⟩) Rn capl) Rn (nums rs) :: adjR Try.prog 35 35 b (ptsOf fs) :: blkR T 25 #[.slice A0 n0 c0, .slice A1 n1 c1] :: [])) (fun i _ => Rn + 1 - (intOf i).toNat)
          case atStart => exact ⟨0, by omega, rfl, HSI.out⟩
          case round =>
            clear HSI
            obtain ⟨q, hk, rfl, hs⟩ := hrel
            by_cases hltq : q < Rn
            · have hltJ : (q : Int) < (Rn : Int) := by omega
              obtain ⟨xr, hx⟩ : ∃ z_, rs[q]? = some z_ := ⟨_, List.getElem?_eq_getElem (by rw [HRN.out]; exact hltq)⟩
              have cx := hs.rowCell 6 rfl q _ (nums_get _ _ _ hx)
              have hx2 := HGR.out.lt (List.mem_of_getElem? hx)
              have HSB := Lib.hid hs
              have hvc := fun W (S : Sep w W (blkR T6 54 #[.int .i64 (src : Int), .int .i64 (old : Int), .int .i64 (new : Int), .bool false, .bool false] :: blkR T5 52 #[.int .u8 d0, .int .u8 d1, .int .u8 d2, .int .u8 d3] :: mapR Try.prog 51 35 3 .i64 .i64 mi (cn) (M) :: vybR bb m 2049 (V.post false old new) :: markR m a 2049 (Col.white) :: arenaR a A :: rowR 35 1 (.slice (some ⟨g, 0, none⟩) Rn capl) Rn (nums rs) :: adjR Try.prog 35 35 b (ptsOf fs) :: blkR T 25 #[.slice A0 n0 c0, .slice A1 n1 c1] :: [])) => VCount S 3 rfl xr hx2.2
              have hvx := HMC2.out xr
              obtain ⟨cx_, hcx⟩ : ∃ c, (V.post false old new).cnt xr = c := ⟨_, rfl⟩
              rw [hcx] at hvc hvx
              have HVC := Lib.hid (show ∀ W, Sep w W (blkR T6 54 #[.int .i64 (src : Int), .int .i64 (old : Int), .int .i64 (new : Int), .bool false, .bool false] :: blkR T5 52 #[.int .u8 d0, .int .u8 d1, .int .u8 d2, .int .u8 d3] :: mapR Try.prog 51 35 3 .i64 .i64 mi (cn) (M) :: vybR bb m 2049 (V.post false old new) :: markR m a 2049 (Col.white) :: arenaR a A :: rowR 35 1 (.slice (some ⟨g, 0, none⟩) Rn capl) Rn (nums rs) :: adjR Try.prog 35 35 b (ptsOf fs) :: blkR T 25 #[.slice A0 n0 c0, .slice A1 n1 c1] :: []) → _ from hvc)
              have HVX := Lib.hid hvx
              clear hs hx hvc hvx hcx
              go_wp2
              refine region_sep HSB.out (by kernel_rfl) (by kernel_rfl) ?_
              intro hne0
              have ylk : ∀ x : SepW w (blkR T6 54 #[.int .i64 (src : Int), .int .i64 (old : Int), .int .i64 (new : Int), .bool false, .bool false] :: blkR T5 52 #[.int .u8 d0, .int .u8 d1, .int .u8 d2, .int .u8 d3] :: mapR Try.prog 51 35 3 .i64 .i64 mi (cn) (M) :: vybR bb m 2049 (V.post false old new) :: markR m a 2049 (Col.white) :: arenaR a A :: rowR 35 1 (.slice (some ⟨g, 0, none⟩) Rn capl) Rn (nums rs) :: adjR Try.prog 35 35 b (ptsOf fs) :: blkR T 25 #[.slice A0 n0 c0, .slice A1 n1 c1] :: []), (Instr.lookup 51 (.map (some mi)) (.int .i64 (xr : Int)) false).run Try.prog x.w' = .ok (.int .i64 (cx_ : Int)) x.w' := fun x => by
                have := map_get refIntOk x.h 2 rfl (wfx (x := xr) (by omega))
                rw [HVX.out] at this
                simpa using this
              repeat (go_big_quiet_step (first
                | (go_at_call 33; exact same_calls (HVC.out _ (SepW.h _)))))
              refine wpQuiet_nil ?_
              rintro wq ⟨⟨wqx, hs⟩, rfl⟩
              clear ylk hne0
              go_wp2
              go_roundw
              case rel => exact ⟨q + 1, by omega, by go_num, hs⟩
              case measure => simp [intOf]; omega
            · obtain rfl : Rn = q := by omega
              have HVO := Lib.hid (VOver hs 3 rfl)
              have HKC := Lib.hid (KCount hs 4 rfl)
              clear hs
              by_cases hrl : rq < lg
              · have hrlI : (rq : Int) < ((lg : Nat) : Int) := by omega
                have HOB := Lib.hid (show (V.post false old new).over = true from by rw [HOV2.out.over]; exact decide_eq_true hrl)
                clear hrl
                try push_cast at hrlI
                go_wp2_with (first
                  | (go_at_call 34; refine (HVO.out).mono ?_; rw [HOB.out]; rintro e w13 ⟨rfl, rfl⟩; clear HVO)
                  | (go_at_call 41; refine (HKC.out).mono ?_; rw [elems_white]; rintro e w14 ⟨rfl, hs⟩; have HSX := Lib.hid hs.tail.tail; clear hs HKC))
                go_roundw
                case rel => exact ⟨k + 1, cn, lg, M, V.post false old new, by omega, by omega, by first | rfl | go_num, by go_num, by omega, HMC2.out, HOV2.out, HSX.out⟩
                case measure => simp [intOf]; omega
              · have hrlI : ¬ (rq : Int) < ((lg : Nat) : Int) := by omega
                have HOB := Lib.hid (show (V.post false old new).over = false from by rw [HOV2.out.over]; exact decide_eq_false hrl)
                clear hrl
                try push_cast at hrlI
                go_wp2_with (first
                  | (go_at_call 34; refine (HVO.out).mono ?_; rw [HOB.out]; rintro e w13 ⟨rfl, rfl⟩; clear HVO)
                  | (go_at_call 41; refine (HKC.out).mono ?_; rw [elems_white]; rintro e w14 ⟨rfl, hs⟩; have HSX := Lib.hid hs.tail.tail; clear hs HKC))
                go_roundw
                case rel => exact ⟨k + 1, cn, lg, M, V.post false old new, by omega, by omega, by first | rfl | go_num, by go_num, by omega, HMC2.out, HOV2.out, HSX.out⟩
                case measure => simp [intOf]; omega
        | true =>
          by_cases hn0 : new = 0
          · have hnb : ((new : Int) != 0) = false := by simp; omega
            have HNZ := Lib.hid hn0
            clear hn0
            obtain ⟨co, hco⟩ : ∃ c, (V.up new).cnt old = c := ⟨_, rfl⟩
            have HO := Lib.hid hco
            have hco3 : co ≤ 3 := by rw [← hco]; exact (HOKV.out.up hnl).three old
            clear hco
            by_cases ho0 : old = 0
            · have hob : ((old : Int) != 0) = false := by simp; omega
              have HOC := Lib.hid ho0
              clear ho0
              go_wp2_with (first
                | (go_at_call 29; refine (HCW.out).mono ?_; rintro e w6 ⟨rfl, hs⟩; have hs6 := hs.box #[.int .i64 (src : Int), .int .i64 (old : Int), .int .i64 (new : Int), .bool true, .bool false] 54; have q0 := (hs6.blk 0 rfl).cell 0; have q1 := (hs6.blk 0 rfl).cell 1; have q2 := (hs6.blk 0 rfl).cell 2; have q3 := (hs6.blk 0 rfl).cell 3; have q4 := (hs6.blk 0 rfl).cell 4; simp only [List.getElem?_toArray, List.getElem?_cons_zero, List.getElem?_cons_succ] at q0 q1 q2 q3 q4; have HCP := Lib.hid (VPost hs6 3 rfl (src : Int) old new true false hol hnl); clear hs hs6 HCW z0 z1 z2 z3)
                | (go_at_call 40; refine (VPre _ bb (src : Int) (old : Int)).mono ?_; rintro e w8 ⟨rfl, rfl⟩)
                | (go_at_call 30; refine (HCP.out).mono ?_; rintro e w7 ⟨rfl, hs⟩; clear q0 q1 q2 q3 q4; obtain ⟨T6, hT6⟩ : ∃ T6, w6.heap.size = T6 := ⟨_, rfl⟩; rw [hT6] at hs; have q1 := (hs.blk 0 rfl).cell 1; have q2 := (hs.blk 0 rfl).cell 2; have q3 := (hs.blk 0 rfl).cell 3; simp only [List.getElem?_toArray, List.getElem?_cons_zero, List.getElem?_cons_succ] at q1 q2 q3; have HMC1 := Lib.hid (show McI M (V.up new) from by rw [HNZ.out, up_zero]; exact HMC.out); have hlk2 := map_get refIntOk hs 2 rfl (wfx (x := old) (by omega)); rw [HMC1.out old, HO.out] at hlk2; have HL2 := Lib.hid hlk2; have HL3 := Lib.hid hlk2; clear hlk2; have HSI := Lib.hid (show Sep w _ (blkR T6 54 #[.int .i64 (src : Int), .int .i64 (old : Int), .int .i64 (new : Int), .bool true, .bool false] :: blkR T5 52 #[.int .u8 d0, .int .u8 d1, .int .u8 d2, .int .u8 d3] :: mapR Try.prog 51 35 3 .i64 .i64 mi (cn) (M) :: vybR bb m 2049 (V.post true old new) :: markR m a 2049 (Col.white) :: arenaR a A :: rowR 35 1 (.slice (some ⟨g, 0, none⟩) Rn capl) Rn (nums rs) :: adjR Try.prog 35 35 b (ptsOf fs) :: blkR T 25 #[.slice A0 n0 c0, .slice A1 n1 c1] :: []) from hs); clear hs HCP)
                | (at_lookup; refine wpList_lookup_run rfl _ _ _ _ rfl rfl rfl HL2.out ?_; clear HL2))
              have HMC2 := Lib.hid (show McI (M) (V.post true old new) from by unfold Vy.post; rw [if_pos rfl, down_not (fun h => h.1 HOC.out)]; exact HMC1.out)
              have HOV2 := Lib.hid (show OvI rq (lg) (V.post true old new) from by unfold Vy.post; rw [if_pos rfl]; exact (show OvI rq lg (V.up new) from by rw [HNZ.out, up_zero]; exact HOV.out).down old)
              try simp only [hT6]
              clear hT6 HMC1 q1 q2 q3
              go_loopw [111] (fun i wr => ∃ (q : Nat), q ≤ Rn ∧ i = .int .i64 q ∧ Sep w wr (blkR T6 54 #[.int .i64 (src : Int), .int .i64 (old : Int), .int .i64 (new : Int), .bool true, .bool false] :: blkR T5 52 #[.int .u8 d0, .int .u8 d1, .int .u8 d2, .int .u8 d3] :: mapR Try.prog 51 35 3 .i64 .i64 mi (cn) (M) :: vybR bb m 2049 (V.post true old new) :: markR m a 2049 (Col.white) :: arenaR a A :: rowR 35 1 (.slice (some ⟨g, 0, none⟩) Rn capl) Rn (nums rs) :: adjR Try.prog 35 35 b (ptsOf fs) :: blkR T 25 #[.slice A0 n0 c0, .slice A1 n1 c1] :: [])) (fun i _ => Rn + 1 - (intOf i).toNat)
              case atStart => exact ⟨0, by omega, rfl, HSI.out⟩
              case round =>
                clear HSI
                obtain ⟨q, hk, rfl, hs⟩ := hrel
                by_cases hltq : q < Rn
                · have hltJ : (q : Int) < (Rn : Int) := by omega
                  obtain ⟨xr, hx⟩ : ∃ z_, rs[q]? = some z_ := ⟨_, List.getElem?_eq_getElem (by rw [HRN.out]; exact hltq)⟩
                  have cx := hs.rowCell 6 rfl q _ (nums_get _ _ _ hx)
                  have hx2 := HGR.out.lt (List.mem_of_getElem? hx)
                  have HSB := Lib.hid hs
                  have hvc := fun W (S : Sep w W (blkR T6 54 #[.int .i64 (src : Int), .int .i64 (old : Int), .int .i64 (new : Int), .bool true, .bool false] :: blkR T5 52 #[.int .u8 d0, .int .u8 d1, .int .u8 d2, .int .u8 d3] :: mapR Try.prog 51 35 3 .i64 .i64 mi (cn) (M) :: vybR bb m 2049 (V.post true old new) :: markR m a 2049 (Col.white) :: arenaR a A :: rowR 35 1 (.slice (some ⟨g, 0, none⟩) Rn capl) Rn (nums rs) :: adjR Try.prog 35 35 b (ptsOf fs) :: blkR T 25 #[.slice A0 n0 c0, .slice A1 n1 c1] :: [])) => VCount S 3 rfl xr hx2.2
                  have hvx := HMC2.out xr
                  obtain ⟨cx_, hcx⟩ : ∃ c, (V.post true old new).cnt xr = c := ⟨_, rfl⟩
                  rw [hcx] at hvc hvx
                  have HVC := Lib.hid (show ∀ W, Sep w W (blkR T6 54 #[.int .i64 (src : Int), .int .i64 (old : Int), .int .i64 (new : Int), .bool true, .bool false] :: blkR T5 52 #[.int .u8 d0, .int .u8 d1, .int .u8 d2, .int .u8 d3] :: mapR Try.prog 51 35 3 .i64 .i64 mi (cn) (M) :: vybR bb m 2049 (V.post true old new) :: markR m a 2049 (Col.white) :: arenaR a A :: rowR 35 1 (.slice (some ⟨g, 0, none⟩) Rn capl) Rn (nums rs) :: adjR Try.prog 35 35 b (ptsOf fs) :: blkR T 25 #[.slice A0 n0 c0, .slice A1 n1 c1] :: []) → _ from hvc)
                  have HVX := Lib.hid hvx
                  clear hs hx hvc hvx hcx
                  go_wp2
                  refine region_sep HSB.out (by kernel_rfl) (by kernel_rfl) ?_
                  intro hne0
                  have ylk : ∀ x : SepW w (blkR T6 54 #[.int .i64 (src : Int), .int .i64 (old : Int), .int .i64 (new : Int), .bool true, .bool false] :: blkR T5 52 #[.int .u8 d0, .int .u8 d1, .int .u8 d2, .int .u8 d3] :: mapR Try.prog 51 35 3 .i64 .i64 mi (cn) (M) :: vybR bb m 2049 (V.post true old new) :: markR m a 2049 (Col.white) :: arenaR a A :: rowR 35 1 (.slice (some ⟨g, 0, none⟩) Rn capl) Rn (nums rs) :: adjR Try.prog 35 35 b (ptsOf fs) :: blkR T 25 #[.slice A0 n0 c0, .slice A1 n1 c1] :: []), (Instr.lookup 51 (.map (some mi)) (.int .i64 (xr : Int)) false).run Try.prog x.w' = .ok (.int .i64 (cx_ : Int)) x.w' := fun x => by
                    have := map_get refIntOk x.h 2 rfl (wfx (x := xr) (by omega))
                    rw [HVX.out] at this
                    simpa using this
                  repeat (go_big_quiet_step (first
                    | (go_at_call 33; exact same_calls (HVC.out _ (SepW.h _)))))
                  refine wpQuiet_nil ?_
                  rintro wq ⟨⟨wqx, hs⟩, rfl⟩
                  clear ylk hne0
                  go_wp2
                  go_roundw
                  case rel => exact ⟨q + 1, by omega, by go_num, hs⟩
                  case measure => simp [intOf]; omega
                · obtain rfl : Rn = q := by omega
                  have HVO := Lib.hid (VOver hs 3 rfl)
                  have HKC := Lib.hid (KCount hs 4 rfl)
                  clear hs
                  by_cases hrl : rq < lg
                  · have hrlI : (rq : Int) < ((lg : Nat) : Int) := by omega
                    have HOB := Lib.hid (show (V.post true old new).over = true from by rw [HOV2.out.over]; exact decide_eq_true hrl)
                    clear hrl
                    try push_cast at hrlI
                    go_wp2_with (first
                      | (go_at_call 34; refine (HVO.out).mono ?_; rw [HOB.out]; rintro e w13 ⟨rfl, rfl⟩; clear HVO)
                      | (go_at_call 41; refine (HKC.out).mono ?_; rw [elems_white]; rintro e w14 ⟨rfl, hs⟩; have HSX := Lib.hid hs.tail.tail; clear hs HKC))
                    go_roundw
                    case rel => exact ⟨k + 1, cn, lg, M, V.post true old new, by omega, by omega, by first | rfl | go_num, by go_num, by omega, HMC2.out, HOV2.out, HSX.out⟩
                    case measure => simp [intOf]; omega
                  · have hrlI : ¬ (rq : Int) < ((lg : Nat) : Int) := by omega
                    have HOB := Lib.hid (show (V.post true old new).over = false from by rw [HOV2.out.over]; exact decide_eq_false hrl)
                    clear hrl
                    try push_cast at hrlI
                    go_wp2_with (first
                      | (go_at_call 34; refine (HVO.out).mono ?_; rw [HOB.out]; rintro e w13 ⟨rfl, rfl⟩; clear HVO)
                      | (go_at_call 41; refine (HKC.out).mono ?_; rw [elems_white]; rintro e w14 ⟨rfl, hs⟩; have HSX := Lib.hid hs.tail.tail; clear hs HKC))
                    go_roundw
                    case rel => exact ⟨k + 1, cn, lg, M, V.post true old new, by omega, by omega, by first | rfl | go_num, by go_num, by omega, HMC2.out, HOV2.out, HSX.out⟩
                    case measure => simp [intOf]; omega
            · have hoN : ¬ (old : Int) = 0 := by omega
              have hob : ((old : Int) != 0) = true := by simp; omega
              by_cases hd : 0 < co ∧ co < 3
              · have HOC := Lib.hid (show old ≠ 0 ∧ 0 < co ∧ co < 3 from ⟨ho0, hd⟩)
                have hd2 : co = 1 ∨ co = 2 := by omega
                clear hd ho0
                rcases hd2 with rfl | rfl
                · go_wp2_with (first
                    | (go_at_call 29; refine (HCW.out).mono ?_; rintro e w6 ⟨rfl, hs⟩; have hs6 := hs.box #[.int .i64 (src : Int), .int .i64 (old : Int), .int .i64 (new : Int), .bool true, .bool false] 54; have q0 := (hs6.blk 0 rfl).cell 0; have q1 := (hs6.blk 0 rfl).cell 1; have q2 := (hs6.blk 0 rfl).cell 2; have q3 := (hs6.blk 0 rfl).cell 3; have q4 := (hs6.blk 0 rfl).cell 4; simp only [List.getElem?_toArray, List.getElem?_cons_zero, List.getElem?_cons_succ] at q0 q1 q2 q3 q4; have HCP := Lib.hid (VPost hs6 3 rfl (src : Int) old new true false hol hnl); clear hs hs6 HCW z0 z1 z2 z3)
                    | (go_at_call 40; refine (VPre _ bb (src : Int) (old : Int)).mono ?_; rintro e w8 ⟨rfl, rfl⟩)
                    | (go_at_call 30; refine (HCP.out).mono ?_; rintro e w7 ⟨rfl, hs⟩; clear q0 q1 q2 q3 q4; obtain ⟨T6, hT6⟩ : ∃ T6, w6.heap.size = T6 := ⟨_, rfl⟩; rw [hT6] at hs; have q1 := (hs.blk 0 rfl).cell 1; have q2 := (hs.blk 0 rfl).cell 2; have q3 := (hs.blk 0 rfl).cell 3; simp only [List.getElem?_toArray, List.getElem?_cons_zero, List.getElem?_cons_succ] at q1 q2 q3; have HMC1 := Lib.hid (show McI M (V.up new) from by rw [HNZ.out, up_zero]; exact HMC.out); have hlk2 := map_get refIntOk hs 2 rfl (wfx (x := old) (by omega)); rw [HMC1.out old, HO.out] at hlk2; have HL2 := Lib.hid hlk2; have HL3 := Lib.hid hlk2; clear hlk2; obtain ⟨wp2, hput, hs9⟩ := map_put refIntOk hs 2 rfl (by unfold maxLen; omega) (wfx (x := old) (by omega)) (c := 0) (by simp only [Lit.wf, Bool.and_eq_true, decide_eq_true_eq]; rw [show IntKind.i64.min = -9223372036854775808 from by decide, show IntKind.i64.max = 9223372036854775807 from by decide]; omega); obtain ⟨cn3, hcnx⟩ : ∃ cz_, (if ((M) (old : Int)).isSome = true then cn else cn + 1) = cz_ := ⟨_, rfl⟩; have hcn3 : cn3 ≤ cn + 1 := (by rw [← hcnx]; split <;> omega); rw [hcnx] at hs9; have HP2 := Lib.hid hput; clear hput hcnx; have HSI := Lib.hid (show Sep w wp2 (blkR T6 54 #[.int .i64 (src : Int), .int .i64 (old : Int), .int .i64 (new : Int), .bool true, .bool false] :: blkR T5 52 #[.int .u8 d0, .int .u8 d1, .int .u8 d2, .int .u8 d3] :: mapR Try.prog 51 35 3 .i64 .i64 mi (cn3) (updM (M) (old : Int) (some (0))) :: vybR bb m 2049 (V.post true old new) :: markR m a 2049 (Col.white) :: arenaR a A :: rowR 35 1 (.slice (some ⟨g, 0, none⟩) Rn capl) Rn (nums rs) :: adjR Try.prog 35 35 b (ptsOf fs) :: blkR T 25 #[.slice A0 n0 c0, .slice A1 n1 c1] :: []) from hs9); clear hs9; clear hs HCP)
                    | (at_lookup; refine wpList_lookup_run rfl _ _ _ _ rfl rfl rfl HL2.out ?_; clear HL2)
                    | (at_lookup; refine wpList_lookup_run rfl _ _ _ _ rfl rfl rfl HL3.out ?_; clear HL3)
                    | (at_mapUpdate; refine wpList_mapUpdate_run rfl _ _ _ _ rfl rfl rfl rfl HP2.out ?_; clear HP2))
                  have HMC2 := Lib.hid (show McI (updM (M) (old : Int) (some (0))) (V.post true old new) from by unfold Vy.post; rw [if_pos rfl]; exact HMC1.out.down (by rw [HO.out]; exact HOC.out) (by rw [HO.out]; rfl))
                  have HOV2 := Lib.hid (show OvI rq (lg) (V.post true old new) from by unfold Vy.post; rw [if_pos rfl]; exact (show OvI rq lg (V.up new) from by rw [HNZ.out, up_zero]; exact HOV.out).down old)
                  try simp only [hT6]
                  clear hT6 HMC1 q1 q2 q3
                  go_loopw [111] (fun i wr => ∃ (q : Nat), q ≤ Rn ∧ i = .int .i64 q ∧ Sep w wr (blkR T6 54 #[.int .i64 (src : Int), .int .i64 (old : Int), .int .i64 (new : Int), .bool true, .bool false] :: blkR T5 52 #[.int .u8 d0, .int .u8 d1, .int .u8 d2, .int .u8 d3] :: mapR Try.prog 51 35 3 .i64 .i64 mi (cn3) (updM (M) (old : Int) (some (0))) :: vybR bb m 2049 (V.post true old new) :: markR m a 2049 (Col.white) :: arenaR a A :: rowR 35 1 (.slice (some ⟨g, 0, none⟩) Rn capl) Rn (nums rs) :: adjR Try.prog 35 35 b (ptsOf fs) :: blkR T 25 #[.slice A0 n0 c0, .slice A1 n1 c1] :: [])) (fun i _ => Rn + 1 - (intOf i).toNat)
                  case atStart => exact ⟨0, by omega, rfl, HSI.out⟩
                  case round =>
                    clear HSI
                    obtain ⟨q, hk, rfl, hs⟩ := hrel
                    by_cases hltq : q < Rn
                    · have hltJ : (q : Int) < (Rn : Int) := by omega
                      obtain ⟨xr, hx⟩ : ∃ z_, rs[q]? = some z_ := ⟨_, List.getElem?_eq_getElem (by rw [HRN.out]; exact hltq)⟩
                      have cx := hs.rowCell 6 rfl q _ (nums_get _ _ _ hx)
                      have hx2 := HGR.out.lt (List.mem_of_getElem? hx)
                      have HSB := Lib.hid hs
                      have hvc := fun W (S : Sep w W (blkR T6 54 #[.int .i64 (src : Int), .int .i64 (old : Int), .int .i64 (new : Int), .bool true, .bool false] :: blkR T5 52 #[.int .u8 d0, .int .u8 d1, .int .u8 d2, .int .u8 d3] :: mapR Try.prog 51 35 3 .i64 .i64 mi (cn3) (updM (M) (old : Int) (some (0))) :: vybR bb m 2049 (V.post true old new) :: markR m a 2049 (Col.white) :: arenaR a A :: rowR 35 1 (.slice (some ⟨g, 0, none⟩) Rn capl) Rn (nums rs) :: adjR Try.prog 35 35 b (ptsOf fs) :: blkR T 25 #[.slice A0 n0 c0, .slice A1 n1 c1] :: [])) => VCount S 3 rfl xr hx2.2
                      have hvx := HMC2.out xr
                      obtain ⟨cx_, hcx⟩ : ∃ c, (V.post true old new).cnt xr = c := ⟨_, rfl⟩
                      rw [hcx] at hvc hvx
                      have HVC := Lib.hid (show ∀ W, Sep w W (blkR T6 54 #[.int .i64 (src : Int), .int .i64 (old : Int), .int .i64 (new : Int), .bool true, .bool false] :: blkR T5 52 #[.int .u8 d0, .int .u8 d1, .int .u8 d2, .int .u8 d3] :: mapR Try.prog 51 35 3 .i64 .i64 mi (cn3) (updM (M) (old : Int) (some (0))) :: vybR bb m 2049 (V.post true old new) :: markR m a 2049 (Col.white) :: arenaR a A :: rowR 35 1 (.slice (some ⟨g, 0, none⟩) Rn capl) Rn (nums rs) :: adjR Try.prog 35 35 b (ptsOf fs) :: blkR T 25 #[.slice A0 n0 c0, .slice A1 n1 c1] :: []) → _ from hvc)
                      have HVX := Lib.hid hvx
                      clear hs hx hvc hvx hcx
                      go_wp2
                      refine region_sep HSB.out (by kernel_rfl) (by kernel_rfl) ?_
                      intro hne0
                      have ylk : ∀ x : SepW w (blkR T6 54 #[.int .i64 (src : Int), .int .i64 (old : Int), .int .i64 (new : Int), .bool true, .bool false] :: blkR T5 52 #[.int .u8 d0, .int .u8 d1, .int .u8 d2, .int .u8 d3] :: mapR Try.prog 51 35 3 .i64 .i64 mi (cn3) (updM (M) (old : Int) (some (0))) :: vybR bb m 2049 (V.post true old new) :: markR m a 2049 (Col.white) :: arenaR a A :: rowR 35 1 (.slice (some ⟨g, 0, none⟩) Rn capl) Rn (nums rs) :: adjR Try.prog 35 35 b (ptsOf fs) :: blkR T 25 #[.slice A0 n0 c0, .slice A1 n1 c1] :: []), (Instr.lookup 51 (.map (some mi)) (.int .i64 (xr : Int)) false).run Try.prog x.w' = .ok (.int .i64 (cx_ : Int)) x.w' := fun x => by
                        have := map_get refIntOk x.h 2 rfl (wfx (x := xr) (by omega))
                        rw [HVX.out] at this
                        simpa using this
                      repeat (go_big_quiet_step (first
                        | (go_at_call 33; exact same_calls (HVC.out _ (SepW.h _)))))
                      refine wpQuiet_nil ?_
                      rintro wq ⟨⟨wqx, hs⟩, rfl⟩
                      clear ylk hne0
                      go_wp2
                      go_roundw
                      case rel => exact ⟨q + 1, by omega, by go_num, hs⟩
                      case measure => simp [intOf]; omega
                    · obtain rfl : Rn = q := by omega
                      have HVO := Lib.hid (VOver hs 3 rfl)
                      have HKC := Lib.hid (KCount hs 4 rfl)
                      clear hs
                      by_cases hrl : rq < lg
                      · have hrlI : (rq : Int) < ((lg : Nat) : Int) := by omega
                        have HOB := Lib.hid (show (V.post true old new).over = true from by rw [HOV2.out.over]; exact decide_eq_true hrl)
                        clear hrl
                        try push_cast at hrlI
                        go_wp2_with (first
                          | (go_at_call 34; refine (HVO.out).mono ?_; rw [HOB.out]; rintro e w13 ⟨rfl, rfl⟩; clear HVO)
                          | (go_at_call 41; refine (HKC.out).mono ?_; rw [elems_white]; rintro e w14 ⟨rfl, hs⟩; have HSX := Lib.hid hs.tail.tail; clear hs HKC))
                        go_roundw
                        case rel => exact ⟨k + 1, cn3, lg, updM (M) (old : Int) (some (0)), V.post true old new, by omega, by omega, by first | rfl | go_num, by go_num, by omega, HMC2.out, HOV2.out, HSX.out⟩
                        case measure => simp [intOf]; omega
                      · have hrlI : ¬ (rq : Int) < ((lg : Nat) : Int) := by omega
                        have HOB := Lib.hid (show (V.post true old new).over = false from by rw [HOV2.out.over]; exact decide_eq_false hrl)
                        clear hrl
                        try push_cast at hrlI
                        go_wp2_with (first
                          | (go_at_call 34; refine (HVO.out).mono ?_; rw [HOB.out]; rintro e w13 ⟨rfl, rfl⟩; clear HVO)
                          | (go_at_call 41; refine (HKC.out).mono ?_; rw [elems_white]; rintro e w14 ⟨rfl, hs⟩; have HSX := Lib.hid hs.tail.tail; clear hs HKC))
                        go_roundw
                        case rel => exact ⟨k + 1, cn3, lg, updM (M) (old : Int) (some (0)), V.post true old new, by omega, by omega, by first | rfl | go_num, by go_num, by omega, HMC2.out, HOV2.out, HSX.out⟩
                        case measure => simp [intOf]; omega
                · go_wp2_with (first
                    | (go_at_call 29; refine (HCW.out).mono ?_; rintro e w6 ⟨rfl, hs⟩; have hs6 := hs.box #[.int .i64 (src : Int), .int .i64 (old : Int), .int .i64 (new : Int), .bool true, .bool false] 54; have q0 := (hs6.blk 0 rfl).cell 0; have q1 := (hs6.blk 0 rfl).cell 1; have q2 := (hs6.blk 0 rfl).cell 2; have q3 := (hs6.blk 0 rfl).cell 3; have q4 := (hs6.blk 0 rfl).cell 4; simp only [List.getElem?_toArray, List.getElem?_cons_zero, List.getElem?_cons_succ] at q0 q1 q2 q3 q4; have HCP := Lib.hid (VPost hs6 3 rfl (src : Int) old new true false hol hnl); clear hs hs6 HCW z0 z1 z2 z3)
                    | (go_at_call 40; refine (VPre _ bb (src : Int) (old : Int)).mono ?_; rintro e w8 ⟨rfl, rfl⟩)
                    | (go_at_call 30; refine (HCP.out).mono ?_; rintro e w7 ⟨rfl, hs⟩; clear q0 q1 q2 q3 q4; obtain ⟨T6, hT6⟩ : ∃ T6, w6.heap.size = T6 := ⟨_, rfl⟩; rw [hT6] at hs; have q1 := (hs.blk 0 rfl).cell 1; have q2 := (hs.blk 0 rfl).cell 2; have q3 := (hs.blk 0 rfl).cell 3; simp only [List.getElem?_toArray, List.getElem?_cons_zero, List.getElem?_cons_succ] at q1 q2 q3; have HMC1 := Lib.hid (show McI M (V.up new) from by rw [HNZ.out, up_zero]; exact HMC.out); have hlk2 := map_get refIntOk hs 2 rfl (wfx (x := old) (by omega)); rw [HMC1.out old, HO.out] at hlk2; have HL2 := Lib.hid hlk2; have HL3 := Lib.hid hlk2; clear hlk2; obtain ⟨wp2, hput, hs9⟩ := map_put refIntOk hs 2 rfl (by unfold maxLen; omega) (wfx (x := old) (by omega)) (c := 1) (by simp only [Lit.wf, Bool.and_eq_true, decide_eq_true_eq]; rw [show IntKind.i64.min = -9223372036854775808 from by decide, show IntKind.i64.max = 9223372036854775807 from by decide]; omega); obtain ⟨cn3, hcnx⟩ : ∃ cz_, (if ((M) (old : Int)).isSome = true then cn else cn + 1) = cz_ := ⟨_, rfl⟩; have hcn3 : cn3 ≤ cn + 1 := (by rw [← hcnx]; split <;> omega); rw [hcnx] at hs9; have HP2 := Lib.hid hput; clear hput hcnx; have HSI := Lib.hid (show Sep w wp2 (blkR T6 54 #[.int .i64 (src : Int), .int .i64 (old : Int), .int .i64 (new : Int), .bool true, .bool false] :: blkR T5 52 #[.int .u8 d0, .int .u8 d1, .int .u8 d2, .int .u8 d3] :: mapR Try.prog 51 35 3 .i64 .i64 mi (cn3) (updM (M) (old : Int) (some (1))) :: vybR bb m 2049 (V.post true old new) :: markR m a 2049 (Col.white) :: arenaR a A :: rowR 35 1 (.slice (some ⟨g, 0, none⟩) Rn capl) Rn (nums rs) :: adjR Try.prog 35 35 b (ptsOf fs) :: blkR T 25 #[.slice A0 n0 c0, .slice A1 n1 c1] :: []) from hs9); clear hs9; clear hs HCP)
                    | (at_lookup; refine wpList_lookup_run rfl _ _ _ _ rfl rfl rfl HL2.out ?_; clear HL2)
                    | (at_lookup; refine wpList_lookup_run rfl _ _ _ _ rfl rfl rfl HL3.out ?_; clear HL3)
                    | (at_mapUpdate; refine wpList_mapUpdate_run rfl _ _ _ _ rfl rfl rfl rfl HP2.out ?_; clear HP2))
                  have HMC2 := Lib.hid (show McI (updM (M) (old : Int) (some (1))) (V.post true old new) from by unfold Vy.post; rw [if_pos rfl]; exact HMC1.out.down (by rw [HO.out]; exact HOC.out) (by rw [HO.out]; rfl))
                  have HOV2 := Lib.hid (show OvI rq (lg) (V.post true old new) from by unfold Vy.post; rw [if_pos rfl]; exact (show OvI rq lg (V.up new) from by rw [HNZ.out, up_zero]; exact HOV.out).down old)
                  try simp only [hT6]
                  clear hT6 HMC1 q1 q2 q3
                  go_loopw [111] (fun i wr => ∃ (q : Nat), q ≤ Rn ∧ i = .int .i64 q ∧ Sep w wr (blkR T6 54 #[.int .i64 (src : Int), .int .i64 (old : Int), .int .i64 (new : Int), .bool true, .bool false] :: blkR T5 52 #[.int .u8 d0, .int .u8 d1, .int .u8 d2, .int .u8 d3] :: mapR Try.prog 51 35 3 .i64 .i64 mi (cn3) (updM (M) (old : Int) (some (1))) :: vybR bb m 2049 (V.post true old new) :: markR m a 2049 (Col.white) :: arenaR a A :: rowR 35 1 (.slice (some ⟨g, 0, none⟩) Rn capl) Rn (nums rs) :: adjR Try.prog 35 35 b (ptsOf fs) :: blkR T 25 #[.slice A0 n0 c0, .slice A1 n1 c1] :: [])) (fun i _ => Rn + 1 - (intOf i).toNat)
                  case atStart => exact ⟨0, by omega, rfl, HSI.out⟩
                  case round =>
                    clear HSI
                    obtain ⟨q, hk, rfl, hs⟩ := hrel
                    by_cases hltq : q < Rn
                    · have hltJ : (q : Int) < (Rn : Int) := by omega
                      obtain ⟨xr, hx⟩ : ∃ z_, rs[q]? = some z_ := ⟨_, List.getElem?_eq_getElem (by rw [HRN.out]; exact hltq)⟩
                      have cx := hs.rowCell 6 rfl q _ (nums_get _ _ _ hx)
                      have hx2 := HGR.out.lt (List.mem_of_getElem? hx)
                      have HSB := Lib.hid hs
                      have hvc := fun W (S : Sep w W (blkR T6 54 #[.int .i64 (src : Int), .int .i64 (old : Int), .int .i64 (new : Int), .bool true, .bool false] :: blkR T5 52 #[.int .u8 d0, .int .u8 d1, .int .u8 d2, .int .u8 d3] :: mapR Try.prog 51 35 3 .i64 .i64 mi (cn3) (updM (M) (old : Int) (some (1))) :: vybR bb m 2049 (V.post true old new) :: markR m a 2049 (Col.white) :: arenaR a A :: rowR 35 1 (.slice (some ⟨g, 0, none⟩) Rn capl) Rn (nums rs) :: adjR Try.prog 35 35 b (ptsOf fs) :: blkR T 25 #[.slice A0 n0 c0, .slice A1 n1 c1] :: [])) => VCount S 3 rfl xr hx2.2
                      have hvx := HMC2.out xr
                      obtain ⟨cx_, hcx⟩ : ∃ c, (V.post true old new).cnt xr = c := ⟨_, rfl⟩
                      rw [hcx] at hvc hvx
                      have HVC := Lib.hid (show ∀ W, Sep w W (blkR T6 54 #[.int .i64 (src : Int), .int .i64 (old : Int), .int .i64 (new : Int), .bool true, .bool false] :: blkR T5 52 #[.int .u8 d0, .int .u8 d1, .int .u8 d2, .int .u8 d3] :: mapR Try.prog 51 35 3 .i64 .i64 mi (cn3) (updM (M) (old : Int) (some (1))) :: vybR bb m 2049 (V.post true old new) :: markR m a 2049 (Col.white) :: arenaR a A :: rowR 35 1 (.slice (some ⟨g, 0, none⟩) Rn capl) Rn (nums rs) :: adjR Try.prog 35 35 b (ptsOf fs) :: blkR T 25 #[.slice A0 n0 c0, .slice A1 n1 c1] :: []) → _ from hvc)
                      have HVX := Lib.hid hvx
                      clear hs hx hvc hvx hcx
                      go_wp2
                      refine region_sep HSB.out (by kernel_rfl) (by kernel_rfl) ?_
                      intro hne0
                      have ylk : ∀ x : SepW w (blkR T6 54 #[.int .i64 (src : Int), .int .i64 (old : Int), .int .i64 (new : Int), .bool true, .bool false] :: blkR T5 52 #[.int .u8 d0, .int .u8 d1, .int .u8 d2, .int .u8 d3] :: mapR Try.prog 51 35 3 .i64 .i64 mi (cn3) (updM (M) (old : Int) (some (1))) :: vybR bb m 2049 (V.post true old new) :: markR m a 2049 (Col.white) :: arenaR a A :: rowR 35 1 (.slice (some ⟨g, 0, none⟩) Rn capl) Rn (nums rs) :: adjR Try.prog 35 35 b (ptsOf fs) :: blkR T 25 #[.slice A0 n0 c0, .slice A1 n1 c1] :: []), (Instr.lookup 51 (.map (some mi)) (.int .i64 (xr : Int)) false).run Try.prog x.w' = .ok (.int .i64 (cx_ : Int)) x.w' := fun x => by
                        have := map_get refIntOk x.h 2 rfl (wfx (x := xr) (by omega))
                        rw [HVX.out] at this
                        simpa using this
                      repeat (go_big_quiet_step (first
                        | (go_at_call 33; exact same_calls (HVC.out _ (SepW.h _)))))
                      refine wpQuiet_nil ?_
                      rintro wq ⟨⟨wqx, hs⟩, rfl⟩
                      clear ylk hne0
                      go_wp2
                      go_roundw
                      case rel => exact ⟨q + 1, by omega, by go_num, hs⟩
                      case measure => simp [intOf]; omega
                    · obtain rfl : Rn = q := by omega
                      have HVO := Lib.hid (VOver hs 3 rfl)
                      have HKC := Lib.hid (KCount hs 4 rfl)
                      clear hs
                      by_cases hrl : rq < lg
                      · have hrlI : (rq : Int) < ((lg : Nat) : Int) := by omega
                        have HOB := Lib.hid (show (V.post true old new).over = true from by rw [HOV2.out.over]; exact decide_eq_true hrl)
                        clear hrl
                        try push_cast at hrlI
                        go_wp2_with (first
                          | (go_at_call 34; refine (HVO.out).mono ?_; rw [HOB.out]; rintro e w13 ⟨rfl, rfl⟩; clear HVO)
                          | (go_at_call 41; refine (HKC.out).mono ?_; rw [elems_white]; rintro e w14 ⟨rfl, hs⟩; have HSX := Lib.hid hs.tail.tail; clear hs HKC))
                        go_roundw
                        case rel => exact ⟨k + 1, cn3, lg, updM (M) (old : Int) (some (1)), V.post true old new, by omega, by omega, by first | rfl | go_num, by go_num, by omega, HMC2.out, HOV2.out, HSX.out⟩
                        case measure => simp [intOf]; omega
                      · have hrlI : ¬ (rq : Int) < ((lg : Nat) : Int) := by omega
                        have HOB := Lib.hid (show (V.post true old new).over = false from by rw [HOV2.out.over]; exact decide_eq_false hrl)
                        clear hrl
                        try push_cast at hrlI
                        go_wp2_with (first
                          | (go_at_call 34; refine (HVO.out).mono ?_; rw [HOB.out]; rintro e w13 ⟨rfl, rfl⟩; clear HVO)
                          | (go_at_call 41; refine (HKC.out).mono ?_; rw [elems_white]; rintro e w14 ⟨rfl, hs⟩; have HSX := Lib.hid hs.tail.tail; clear hs HKC))
                        go_roundw
                        case rel => exact ⟨k + 1, cn3, lg, updM (M) (old : Int) (some (1)), V.post true old new, by omega, by omega, by first | rfl | go_num, by go_num, by omega, HMC2.out, HOV2.out, HSX.out⟩
                        case measure => simp [intOf]; omega
              · have HOC := Lib.hid (show ¬ (old ≠ 0 ∧ 0 < (V.up new).cnt old ∧ (V.up new).cnt old < 3) from fun h => hd (by rw [← HO.out]; exact h.2))
                have hc1 : ¬ (co : Int) = 1 := by omega
                have hc2 : ¬ (co : Int) = 2 := by omega
                have hc1b : ((co : Int) == 1) = false := by simp; omega
                have hc2b : ((co : Int) == 2) = false := by simp; omega
                clear hd ho0
                go_wp2_with (first
                  | (go_at_call 29; refine (HCW.out).mono ?_; rintro e w6 ⟨rfl, hs⟩; have hs6 := hs.box #[.int .i64 (src : Int), .int .i64 (old : Int), .int .i64 (new : Int), .bool true, .bool false] 54; have q0 := (hs6.blk 0 rfl).cell 0; have q1 := (hs6.blk 0 rfl).cell 1; have q2 := (hs6.blk 0 rfl).cell 2; have q3 := (hs6.blk 0 rfl).cell 3; have q4 := (hs6.blk 0 rfl).cell 4; simp only [List.getElem?_toArray, List.getElem?_cons_zero, List.getElem?_cons_succ] at q0 q1 q2 q3 q4; have HCP := Lib.hid (VPost hs6 3 rfl (src : Int) old new true false hol hnl); clear hs hs6 HCW z0 z1 z2 z3)
                  | (go_at_call 40; refine (VPre _ bb (src : Int) (old : Int)).mono ?_; rintro e w8 ⟨rfl, rfl⟩)
                  | (go_at_call 30; refine (HCP.out).mono ?_; rintro e w7 ⟨rfl, hs⟩; clear q0 q1 q2 q3 q4; obtain ⟨T6, hT6⟩ : ∃ T6, w6.heap.size = T6 := ⟨_, rfl⟩; rw [hT6] at hs; have q1 := (hs.blk 0 rfl).cell 1; have q2 := (hs.blk 0 rfl).cell 2; have q3 := (hs.blk 0 rfl).cell 3; simp only [List.getElem?_toArray, List.getElem?_cons_zero, List.getElem?_cons_succ] at q1 q2 q3; have HMC1 := Lib.hid (show McI M (V.up new) from by rw [HNZ.out, up_zero]; exact HMC.out); have hlk2 := map_get refIntOk hs 2 rfl (wfx (x := old) (by omega)); rw [HMC1.out old, HO.out] at hlk2; have HL2 := Lib.hid hlk2; have HL3 := Lib.hid hlk2; clear hlk2; have HSI := Lib.hid (show Sep w _ (blkR T6 54 #[.int .i64 (src : Int), .int .i64 (old : Int), .int .i64 (new : Int), .bool true, .bool false] :: blkR T5 52 #[.int .u8 d0, .int .u8 d1, .int .u8 d2, .int .u8 d3] :: mapR Try.prog 51 35 3 .i64 .i64 mi (cn) (M) :: vybR bb m 2049 (V.post true old new) :: markR m a 2049 (Col.white) :: arenaR a A :: rowR 35 1 (.slice (some ⟨g, 0, none⟩) Rn capl) Rn (nums rs) :: adjR Try.prog 35 35 b (ptsOf fs) :: blkR T 25 #[.slice A0 n0 c0, .slice A1 n1 c1] :: []) from hs); clear hs HCP)
                  | (at_lookup; refine wpList_lookup_run rfl _ _ _ _ rfl rfl rfl HL2.out ?_; clear HL2))
                have HMC2 := Lib.hid (show McI (M) (V.post true old new) from by unfold Vy.post; rw [if_pos rfl, down_not (fun h => HOC.out h)]; exact HMC1.out)
                have HOV2 := Lib.hid (show OvI rq (lg) (V.post true old new) from by unfold Vy.post; rw [if_pos rfl]; exact (show OvI rq lg (V.up new) from by rw [HNZ.out, up_zero]; exact HOV.out).down old)
                try simp only [hT6]
                clear hT6 HMC1 q1 q2 q3
                go_loopw [111] (fun i wr => ∃ (q : Nat), q ≤ Rn ∧ i = .int .i64 q ∧ Sep w wr (blkR T6 54 #[.int .i64 (src : Int), .int .i64 (old : Int), .int .i64 (new : Int), .bool true, .bool false] :: blkR T5 52 #[.int .u8 d0, .int .u8 d1, .int .u8 d2, .int .u8 d3] :: mapR Try.prog 51 35 3 .i64 .i64 mi (cn) (M) :: vybR bb m 2049 (V.post true old new) :: markR m a 2049 (Col.white) :: arenaR a A :: rowR 35 1 (.slice (some ⟨g, 0, none⟩) Rn capl) Rn (nums rs) :: adjR Try.prog 35 35 b (ptsOf fs) :: blkR T 25 #[.slice A0 n0 c0, .slice A1 n1 c1] :: [])) (fun i _ => Rn + 1 - (intOf i).toNat)
                case atStart => exact ⟨0, by omega, rfl, HSI.out⟩
                case round =>
                  clear HSI
                  obtain ⟨q, hk, rfl, hs⟩ := hrel
                  by_cases hltq : q < Rn
                  · have hltJ : (q : Int) < (Rn : Int) := by omega
                    obtain ⟨xr, hx⟩ : ∃ z_, rs[q]? = some z_ := ⟨_, List.getElem?_eq_getElem (by rw [HRN.out]; exact hltq)⟩
                    have cx := hs.rowCell 6 rfl q _ (nums_get _ _ _ hx)
                    have hx2 := HGR.out.lt (List.mem_of_getElem? hx)
                    have HSB := Lib.hid hs
                    have hvc := fun W (S : Sep w W (blkR T6 54 #[.int .i64 (src : Int), .int .i64 (old : Int), .int .i64 (new : Int), .bool true, .bool false] :: blkR T5 52 #[.int .u8 d0, .int .u8 d1, .int .u8 d2, .int .u8 d3] :: mapR Try.prog 51 35 3 .i64 .i64 mi (cn) (M) :: vybR bb m 2049 (V.post true old new) :: markR m a 2049 (Col.white) :: arenaR a A :: rowR 35 1 (.slice (some ⟨g, 0, none⟩) Rn capl) Rn (nums rs) :: adjR Try.prog 35 35 b (ptsOf fs) :: blkR T 25 #[.slice A0 n0 c0, .slice A1 n1 c1] :: [])) => VCount S 3 rfl xr hx2.2
                    have hvx := HMC2.out xr
                    obtain ⟨cx_, hcx⟩ : ∃ c, (V.post true old new).cnt xr = c := ⟨_, rfl⟩
                    rw [hcx] at hvc hvx
                    have HVC := Lib.hid (show ∀ W, Sep w W (blkR T6 54 #[.int .i64 (src : Int), .int .i64 (old : Int), .int .i64 (new : Int), .bool true, .bool false] :: blkR T5 52 #[.int .u8 d0, .int .u8 d1, .int .u8 d2, .int .u8 d3] :: mapR Try.prog 51 35 3 .i64 .i64 mi (cn) (M) :: vybR bb m 2049 (V.post true old new) :: markR m a 2049 (Col.white) :: arenaR a A :: rowR 35 1 (.slice (some ⟨g, 0, none⟩) Rn capl) Rn (nums rs) :: adjR Try.prog 35 35 b (ptsOf fs) :: blkR T 25 #[.slice A0 n0 c0, .slice A1 n1 c1] :: []) → _ from hvc)
                    have HVX := Lib.hid hvx
                    clear hs hx hvc hvx hcx
                    go_wp2
                    refine region_sep HSB.out (by kernel_rfl) (by kernel_rfl) ?_
                    intro hne0
                    have ylk : ∀ x : SepW w (blkR T6 54 #[.int .i64 (src : Int), .int .i64 (old : Int), .int .i64 (new : Int), .bool true, .bool false] :: blkR T5 52 #[.int .u8 d0, .int .u8 d1, .int .u8 d2, .int .u8 d3] :: mapR Try.prog 51 35 3 .i64 .i64 mi (cn) (M) :: vybR bb m 2049 (V.post true old new) :: markR m a 2049 (Col.white) :: arenaR a A :: rowR 35 1 (.slice (some ⟨g, 0, none⟩) Rn capl) Rn (nums rs) :: adjR Try.prog 35 35 b (ptsOf fs) :: blkR T 25 #[.slice A0 n0 c0, .slice A1 n1 c1] :: []), (Instr.lookup 51 (.map (some mi)) (.int .i64 (xr : Int)) false).run Try.prog x.w' = .ok (.int .i64 (cx_ : Int)) x.w' := fun x => by
                      have := map_get refIntOk x.h 2 rfl (wfx (x := xr) (by omega))
                      rw [HVX.out] at this
                      simpa using this
                    repeat (go_big_quiet_step (first
                      | (go_at_call 33; exact same_calls (HVC.out _ (SepW.h _)))))
                    refine wpQuiet_nil ?_
                    rintro wq ⟨⟨wqx, hs⟩, rfl⟩
                    clear ylk hne0
                    go_wp2
                    go_roundw
                    case rel => exact ⟨q + 1, by omega, by go_num, hs⟩
                    case measure => simp [intOf]; omega
                  · obtain rfl : Rn = q := by omega
                    have HVO := Lib.hid (VOver hs 3 rfl)
                    have HKC := Lib.hid (KCount hs 4 rfl)
                    clear hs
                    by_cases hrl : rq < lg
                    · have hrlI : (rq : Int) < ((lg : Nat) : Int) := by omega
                      have HOB := Lib.hid (show (V.post true old new).over = true from by rw [HOV2.out.over]; exact decide_eq_true hrl)
                      clear hrl
                      try push_cast at hrlI
                      go_wp2_with (first
                        | (go_at_call 34; refine (HVO.out).mono ?_; rw [HOB.out]; rintro e w13 ⟨rfl, rfl⟩; clear HVO)
                        | (go_at_call 41; refine (HKC.out).mono ?_; rw [elems_white]; rintro e w14 ⟨rfl, hs⟩; have HSX := Lib.hid hs.tail.tail; clear hs HKC))
                      go_roundw
                      case rel => exact ⟨k + 1, cn, lg, M, V.post true old new, by omega, by omega, by first | rfl | go_num, by go_num, by omega, HMC2.out, HOV2.out, HSX.out⟩
                      case measure => simp [intOf]; omega
                    · have hrlI : ¬ (rq : Int) < ((lg : Nat) : Int) := by omega
                      have HOB := Lib.hid (show (V.post true old new).over = false from by rw [HOV2.out.over]; exact decide_eq_false hrl)
                      clear hrl
                      try push_cast at hrlI
                      go_wp2_with (first
                        | (go_at_call 34; refine (HVO.out).mono ?_; rw [HOB.out]; rintro e w13 ⟨rfl, rfl⟩; clear HVO)
                        | (go_at_call 41; refine (HKC.out).mono ?_; rw [elems_white]; rintro e w14 ⟨rfl, hs⟩; have HSX := Lib.hid hs.tail.tail; clear hs HKC))
                      go_roundw
                      case rel => exact ⟨k + 1, cn, lg, M, V.post true old new, by omega, by omega, by first | rfl | go_num, by go_num, by omega, HMC2.out, HOV2.out, HSX.out⟩
                      case measure => simp [intOf]; omega
          · have hnN : ¬ (new : Int) = 0 := by omega
            have hnb : ((new : Int) != 0) = true := by simp; omega
            have HNZ := Lib.hid hn0
            obtain ⟨c, hc⟩ : ∃ c, V.cnt new = c := ⟨_, rfl⟩
            have hc3 : c ≤ 3 := by rw [← hc]; exact HOKV.out.three new
            have HN := Lib.hid hc
            clear hn0 hc
            by_cases hlt3 : (c : Int) + 1 < 3
            · obtain ⟨co, hco⟩ : ∃ c, (V.up new).cnt old = c := ⟨_, rfl⟩
              have HO := Lib.hid hco
              have hco3 : co ≤ 3 := by rw [← hco]; exact (HOKV.out.up hnl).three old
              clear hco
              by_cases ho0 : old = 0
              · have hob : ((old : Int) != 0) = false := by simp; omega
                have HOC := Lib.hid ho0
                clear ho0
                go_wp2_with (first
                  | (go_at_call 29; refine (HCW.out).mono ?_; rintro e w6 ⟨rfl, hs⟩; have hs6 := hs.box #[.int .i64 (src : Int), .int .i64 (old : Int), .int .i64 (new : Int), .bool true, .bool false] 54; have q0 := (hs6.blk 0 rfl).cell 0; have q1 := (hs6.blk 0 rfl).cell 1; have q2 := (hs6.blk 0 rfl).cell 2; have q3 := (hs6.blk 0 rfl).cell 3; have q4 := (hs6.blk 0 rfl).cell 4; simp only [List.getElem?_toArray, List.getElem?_cons_zero, List.getElem?_cons_succ] at q0 q1 q2 q3 q4; have HCP := Lib.hid (VPost hs6 3 rfl (src : Int) old new true false hol hnl); clear hs hs6 HCW z0 z1 z2 z3)
                  | (go_at_call 40; refine (VPre _ bb (src : Int) (old : Int)).mono ?_; rintro e w8 ⟨rfl, rfl⟩)
                  | (go_at_call 30; refine (HCP.out).mono ?_; rintro e w7 ⟨rfl, hs⟩; clear q0 q1 q2 q3 q4; obtain ⟨T6, hT6⟩ : ∃ T6, w6.heap.size = T6 := ⟨_, rfl⟩; rw [hT6] at hs; have q1 := (hs.blk 0 rfl).cell 1; have q2 := (hs.blk 0 rfl).cell 2; have q3 := (hs.blk 0 rfl).cell 3; simp only [List.getElem?_toArray, List.getElem?_cons_zero, List.getElem?_cons_succ] at q1 q2 q3; have hlk := map_get refIntOk hs 2 rfl (wfx (x := new) (by omega)); rw [HMC.out new, HN.out] at hlk; have HL1 := Lib.hid hlk; clear hlk; obtain ⟨wp1, hput, hs8⟩ := map_put refIntOk hs 2 rfl (by unfold maxLen; omega) (wfx (x := new) (by omega)) (c := (c : Int) + 1) (by simp only [Lit.wf, Bool.and_eq_true, decide_eq_true_eq]; rw [show IntKind.i64.min = -9223372036854775808 from by decide, show IntKind.i64.max = 9223372036854775807 from by decide]; omega); obtain ⟨cn2, hcnx⟩ : ∃ cz_, (if (M (new : Int)).isSome = true then cn else cn + 1) = cz_ := ⟨_, rfl⟩; have hcn2 : cn2 ≤ cn + 1 := (by rw [← hcnx]; split <;> omega); rw [hcnx] at hs8; have HP1 := Lib.hid hput; clear hput hcnx; have p1 := (hs8.blk 0 rfl).cell 1; have p3 := (hs8.blk 0 rfl).cell 3; simp only [List.getElem?_toArray, List.getElem?_cons_zero, List.getElem?_cons_succ] at p1 p3; have HMC1 := Lib.hid (HMC.out.up HNZ.out (v := (c : Int) + 1) (by rw [HN.out]; omega)); have hlk2 := map_get refIntOk hs8 2 rfl (wfx (x := old) (by omega)); rw [HMC1.out old, HO.out] at hlk2; have HL2 := Lib.hid hlk2; have HL3 := Lib.hid hlk2; clear hlk2; have HSI := Lib.hid (show Sep w _ (blkR T6 54 #[.int .i64 (src : Int), .int .i64 (old : Int), .int .i64 (new : Int), .bool true, .bool false] :: blkR T5 52 #[.int .u8 d0, .int .u8 d1, .int .u8 d2, .int .u8 d3] :: mapR Try.prog 51 35 3 .i64 .i64 mi (cn2) (updM M (new : Int) (some ((c : Int) + 1))) :: vybR bb m 2049 (V.post true old new) :: markR m a 2049 (Col.white) :: arenaR a A :: rowR 35 1 (.slice (some ⟨g, 0, none⟩) Rn capl) Rn (nums rs) :: adjR Try.prog 35 35 b (ptsOf fs) :: blkR T 25 #[.slice A0 n0 c0, .slice A1 n1 c1] :: []) from hs8); clear hs HCP hs8)
                  | (at_lookup; refine wpList_lookup_run rfl _ _ _ _ rfl rfl rfl HL1.out ?_; clear HL1)
                  | (at_mapUpdate; refine wpList_mapUpdate_run rfl _ _ _ _ rfl rfl rfl rfl HP1.out ?_; clear HP1)
                  | (at_lookup; refine wpList_lookup_run rfl _ _ _ _ rfl rfl rfl HL2.out ?_; clear HL2))
                have HMC2 := Lib.hid (show McI (updM M (new : Int) (some ((c : Int) + 1))) (V.post true old new) from by unfold Vy.post; rw [if_pos rfl, down_not (fun h => h.1 HOC.out)]; exact HMC1.out)
                have HOV2 := Lib.hid (show OvI rq (lg + 1) (V.post true old new) from by unfold Vy.post; rw [if_pos rfl]; exact (HOV.out.up HNZ.out).down old)
                try simp only [hT6]
                clear hT6 HMC1 q1 q2 q3 p1 p3
                go_loopw [111] (fun i wr => ∃ (q : Nat), q ≤ Rn ∧ i = .int .i64 q ∧ Sep w wr (blkR T6 54 #[.int .i64 (src : Int), .int .i64 (old : Int), .int .i64 (new : Int), .bool true, .bool false] :: blkR T5 52 #[.int .u8 d0, .int .u8 d1, .int .u8 d2, .int .u8 d3] :: mapR Try.prog 51 35 3 .i64 .i64 mi (cn2) (updM M (new : Int) (some ((c : Int) + 1))) :: vybR bb m 2049 (V.post true old new) :: markR m a 2049 (Col.white) :: arenaR a A :: rowR 35 1 (.slice (some ⟨g, 0, none⟩) Rn capl) Rn (nums rs) :: adjR Try.prog 35 35 b (ptsOf fs) :: blkR T 25 #[.slice A0 n0 c0, .slice A1 n1 c1] :: [])) (fun i _ => Rn + 1 - (intOf i).toNat)
                case atStart => exact ⟨0, by omega, rfl, HSI.out⟩
                case round =>
                  clear HSI
                  obtain ⟨q, hk, rfl, hs⟩ := hrel
                  by_cases hltq : q < Rn
                  · have hltJ : (q : Int) < (Rn : Int) := by omega
                    obtain ⟨xr, hx⟩ : ∃ z_, rs[q]? = some z_ := ⟨_, List.getElem?_eq_getElem (by rw [HRN.out]; exact hltq)⟩
                    have cx := hs.rowCell 6 rfl q _ (nums_get _ _ _ hx)
                    have hx2 := HGR.out.lt (List.mem_of_getElem? hx)
                    have HSB := Lib.hid hs
                    have hvc := fun W (S : Sep w W (blkR T6 54 #[.int .i64 (src : Int), .int .i64 (old : Int), .int .i64 (new : Int), .bool true, .bool false] :: blkR T5 52 #[.int .u8 d0, .int .u8 d1, .int .u8 d2, .int .u8 d3] :: mapR Try.prog 51 35 3 .i64 .i64 mi (cn2) (updM M (new : Int) (some ((c : Int) + 1))) :: vybR bb m 2049 (V.post true old new) :: markR m a 2049 (Col.white) :: arenaR a A :: rowR 35 1 (.slice (some ⟨g, 0, none⟩) Rn capl) Rn (nums rs) :: adjR Try.prog 35 35 b (ptsOf fs) :: blkR T 25 #[.slice A0 n0 c0, .slice A1 n1 c1] :: [])) => VCount S 3 rfl xr hx2.2
                    have hvx := HMC2.out xr
                    obtain ⟨cx_, hcx⟩ : ∃ c, (V.post true old new).cnt xr = c := ⟨_, rfl⟩
                    rw [hcx] at hvc hvx
                    have HVC := Lib.hid (show ∀ W, Sep w W (blkR T6 54 #[.int .i64 (src : Int), .int .i64 (old : Int), .int .i64 (new : Int), .bool true, .bool false] :: blkR T5 52 #[.int .u8 d0, .int .u8 d1, .int .u8 d2, .int .u8 d3] :: mapR Try.prog 51 35 3 .i64 .i64 mi (cn2) (updM M (new : Int) (some ((c : Int) + 1))) :: vybR bb m 2049 (V.post true old new) :: markR m a 2049 (Col.white) :: arenaR a A :: rowR 35 1 (.slice (some ⟨g, 0, none⟩) Rn capl) Rn (nums rs) :: adjR Try.prog 35 35 b (ptsOf fs) :: blkR T 25 #[.slice A0 n0 c0, .slice A1 n1 c1] :: []) → _ from hvc)
                    have HVX := Lib.hid hvx
                    clear hs hx hvc hvx hcx
                    go_wp2
                    refine region_sep HSB.out (by kernel_rfl) (by kernel_rfl) ?_
                    intro hne0
                    have ylk : ∀ x : SepW w (blkR T6 54 #[.int .i64 (src : Int), .int .i64 (old : Int), .int .i64 (new : Int), .bool true, .bool false] :: blkR T5 52 #[.int .u8 d0, .int .u8 d1, .int .u8 d2, .int .u8 d3] :: mapR Try.prog 51 35 3 .i64 .i64 mi (cn2) (updM M (new : Int) (some ((c : Int) + 1))) :: vybR bb m 2049 (V.post true old new) :: markR m a 2049 (Col.white) :: arenaR a A :: rowR 35 1 (.slice (some ⟨g, 0, none⟩) Rn capl) Rn (nums rs) :: adjR Try.prog 35 35 b (ptsOf fs) :: blkR T 25 #[.slice A0 n0 c0, .slice A1 n1 c1] :: []), (Instr.lookup 51 (.map (some mi)) (.int .i64 (xr : Int)) false).run Try.prog x.w' = .ok (.int .i64 (cx_ : Int)) x.w' := fun x => by
                      have := map_get refIntOk x.h 2 rfl (wfx (x := xr) (by omega))
                      rw [HVX.out] at this
                      simpa using this
                    repeat (go_big_quiet_step (first
                      | (go_at_call 33; exact same_calls (HVC.out _ (SepW.h _)))))
                    refine wpQuiet_nil ?_
                    rintro wq ⟨⟨wqx, hs⟩, rfl⟩
                    clear ylk hne0
                    go_wp2
                    go_roundw
                    case rel => exact ⟨q + 1, by omega, by go_num, hs⟩
                    case measure => simp [intOf]; omega
                  · obtain rfl : Rn = q := by omega
                    have HVO := Lib.hid (VOver hs 3 rfl)
                    have HKC := Lib.hid (KCount hs 4 rfl)
                    clear hs
                    by_cases hrl : rq < lg + 1
                    · have hrlI : (rq : Int) < ((lg + 1 : Nat) : Int) := by omega
                      have HOB := Lib.hid (show (V.post true old new).over = true from by rw [HOV2.out.over]; exact decide_eq_true hrl)
                      clear hrl
                      try push_cast at hrlI
                      go_wp2_with (first
                        | (go_at_call 34; refine (HVO.out).mono ?_; rw [HOB.out]; rintro e w13 ⟨rfl, rfl⟩; clear HVO)
                        | (go_at_call 41; refine (HKC.out).mono ?_; rw [elems_white]; rintro e w14 ⟨rfl, hs⟩; have HSX := Lib.hid hs.tail.tail; clear hs HKC))
                      go_roundw
                      case rel => exact ⟨k + 1, cn2, lg + 1, updM M (new : Int) (some ((c : Int) + 1)), V.post true old new, by omega, by omega, by first | rfl | go_num, by go_num, by omega, HMC2.out, HOV2.out, HSX.out⟩
                      case measure => simp [intOf]; omega
                    · have hrlI : ¬ (rq : Int) < ((lg + 1 : Nat) : Int) := by omega
                      have HOB := Lib.hid (show (V.post true old new).over = false from by rw [HOV2.out.over]; exact decide_eq_false hrl)
                      clear hrl
                      try push_cast at hrlI
                      go_wp2_with (first
                        | (go_at_call 34; refine (HVO.out).mono ?_; rw [HOB.out]; rintro e w13 ⟨rfl, rfl⟩; clear HVO)
                        | (go_at_call 41; refine (HKC.out).mono ?_; rw [elems_white]; rintro e w14 ⟨rfl, hs⟩; have HSX := Lib.hid hs.tail.tail; clear hs HKC))
                      go_roundw
                      case rel => exact ⟨k + 1, cn2, lg + 1, updM M (new : Int) (some ((c : Int) + 1)), V.post true old new, by omega, by omega, by first | rfl | go_num, by go_num, by omega, HMC2.out, HOV2.out, HSX.out⟩
                      case measure => simp [intOf]; omega
              · have hoN : ¬ (old : Int) = 0 := by omega
                have hob : ((old : Int) != 0) = true := by simp; omega
                by_cases hd : 0 < co ∧ co < 3
                · have HOC := Lib.hid (show old ≠ 0 ∧ 0 < co ∧ co < 3 from ⟨ho0, hd⟩)
                  have hd2 : co = 1 ∨ co = 2 := by omega
                  clear hd ho0
                  rcases hd2 with rfl | rfl
                  · go_wp2_with (first
                      | (go_at_call 29; refine (HCW.out).mono ?_; rintro e w6 ⟨rfl, hs⟩; have hs6 := hs.box #[.int .i64 (src : Int), .int .i64 (old : Int), .int .i64 (new : Int), .bool true, .bool false] 54; have q0 := (hs6.blk 0 rfl).cell 0; have q1 := (hs6.blk 0 rfl).cell 1; have q2 := (hs6.blk 0 rfl).cell 2; have q3 := (hs6.blk 0 rfl).cell 3; have q4 := (hs6.blk 0 rfl).cell 4; simp only [List.getElem?_toArray, List.getElem?_cons_zero, List.getElem?_cons_succ] at q0 q1 q2 q3 q4; have HCP := Lib.hid (VPost hs6 3 rfl (src : Int) old new true false hol hnl); clear hs hs6 HCW z0 z1 z2 z3)
                      | (go_at_call 40; refine (VPre _ bb (src : Int) (old : Int)).mono ?_; rintro e w8 ⟨rfl, rfl⟩)
                      | (go_at_call 30; refine (HCP.out).mono ?_; rintro e w7 ⟨rfl, hs⟩; clear q0 q1 q2 q3 q4; obtain ⟨T6, hT6⟩ : ∃ T6, w6.heap.size = T6 := ⟨_, rfl⟩; rw [hT6] at hs; have q1 := (hs.blk 0 rfl).cell 1; have q2 := (hs.blk 0 rfl).cell 2; have q3 := (hs.blk 0 rfl).cell 3; simp only [List.getElem?_toArray, List.getElem?_cons_zero, List.getElem?_cons_succ] at q1 q2 q3; have hlk := map_get refIntOk hs 2 rfl (wfx (x := new) (by omega)); rw [HMC.out new, HN.out] at hlk; have HL1 := Lib.hid hlk; clear hlk; obtain ⟨wp1, hput, hs8⟩ := map_put refIntOk hs 2 rfl (by unfold maxLen; omega) (wfx (x := new) (by omega)) (c := (c : Int) + 1) (by simp only [Lit.wf, Bool.and_eq_true, decide_eq_true_eq]; rw [show IntKind.i64.min = -9223372036854775808 from by decide, show IntKind.i64.max = 9223372036854775807 from by decide]; omega); obtain ⟨cn2, hcnx⟩ : ∃ cz_, (if (M (new : Int)).isSome = true then cn else cn + 1) = cz_ := ⟨_, rfl⟩; have hcn2 : cn2 ≤ cn + 1 := (by rw [← hcnx]; split <;> omega); rw [hcnx] at hs8; have HP1 := Lib.hid hput; clear hput hcnx; have p1 := (hs8.blk 0 rfl).cell 1; have p3 := (hs8.blk 0 rfl).cell 3; simp only [List.getElem?_toArray, List.getElem?_cons_zero, List.getElem?_cons_succ] at p1 p3; have HMC1 := Lib.hid (HMC.out.up HNZ.out (v := (c : Int) + 1) (by rw [HN.out]; omega)); have hlk2 := map_get refIntOk hs8 2 rfl (wfx (x := old) (by omega)); rw [HMC1.out old, HO.out] at hlk2; have HL2 := Lib.hid hlk2; have HL3 := Lib.hid hlk2; clear hlk2; obtain ⟨wp2, hput, hs9⟩ := map_put refIntOk hs8 2 rfl (by unfold maxLen; omega) (wfx (x := old) (by omega)) (c := 0) (by simp only [Lit.wf, Bool.and_eq_true, decide_eq_true_eq]; rw [show IntKind.i64.min = -9223372036854775808 from by decide, show IntKind.i64.max = 9223372036854775807 from by decide]; omega); obtain ⟨cn3, hcnx⟩ : ∃ cz_, (if ((updM M (new : Int) (some ((c : Int) + 1))) (old : Int)).isSome = true then cn2 else cn2 + 1) = cz_ := ⟨_, rfl⟩; have hcn3 : cn3 ≤ cn2 + 1 := (by rw [← hcnx]; split <;> omega); rw [hcnx] at hs9; have HP2 := Lib.hid hput; clear hput hcnx; have HSI := Lib.hid (show Sep w wp2 (blkR T6 54 #[.int .i64 (src : Int), .int .i64 (old : Int), .int .i64 (new : Int), .bool true, .bool false] :: blkR T5 52 #[.int .u8 d0, .int .u8 d1, .int .u8 d2, .int .u8 d3] :: mapR Try.prog 51 35 3 .i64 .i64 mi (cn3) (updM (updM M (new : Int) (some ((c : Int) + 1))) (old : Int) (some (0))) :: vybR bb m 2049 (V.post true old new) :: markR m a 2049 (Col.white) :: arenaR a A :: rowR 35 1 (.slice (some ⟨g, 0, none⟩) Rn capl) Rn (nums rs) :: adjR Try.prog 35 35 b (ptsOf fs) :: blkR T 25 #[.slice A0 n0 c0, .slice A1 n1 c1] :: []) from hs9); clear hs9; clear hs HCP hs8)
                      | (at_lookup; refine wpList_lookup_run rfl _ _ _ _ rfl rfl rfl HL1.out ?_; clear HL1)
                      | (at_mapUpdate; refine wpList_mapUpdate_run rfl _ _ _ _ rfl rfl rfl rfl HP1.out ?_; clear HP1)
                      | (at_lookup; refine wpList_lookup_run rfl _ _ _ _ rfl rfl rfl HL2.out ?_; clear HL2)
                      | (at_lookup; refine wpList_lookup_run rfl _ _ _ _ rfl rfl rfl HL3.out ?_; clear HL3)
                      | (at_mapUpdate; refine wpList_mapUpdate_run rfl _ _ _ _ rfl rfl rfl rfl HP2.out ?_; clear HP2))
                    have HMC2 := Lib.hid (show McI (updM (updM M (new : Int) (some ((c : Int) + 1))) (old : Int) (some (0))) (V.post true old new) from by unfold Vy.post; rw [if_pos rfl]; exact HMC1.out.down (by rw [HO.out]; exact HOC.out) (by rw [HO.out]; rfl))
                    have HOV2 := Lib.hid (show OvI rq (lg + 1) (V.post true old new) from by unfold Vy.post; rw [if_pos rfl]; exact (HOV.out.up HNZ.out).down old)
                    try simp only [hT6]
                    clear hT6 HMC1 q1 q2 q3 p1 p3
                    go_loopw [111] (fun i wr => ∃ (q : Nat), q ≤ Rn ∧ i = .int .i64 q ∧ Sep w wr (blkR T6 54 #[.int .i64 (src : Int), .int .i64 (old : Int), .int .i64 (new : Int), .bool true, .bool false] :: blkR T5 52 #[.int .u8 d0, .int .u8 d1, .int .u8 d2, .int .u8 d3] :: mapR Try.prog 51 35 3 .i64 .i64 mi (cn3) (updM (updM M (new : Int) (some ((c : Int) + 1))) (old : Int) (some (0))) :: vybR bb m 2049 (V.post true old new) :: markR m a 2049 (Col.white) :: arenaR a A :: rowR 35 1 (.slice (some ⟨g, 0, none⟩) Rn capl) Rn (nums rs) :: adjR Try.prog 35 35 b (ptsOf fs) :: blkR T 25 #[.slice A0 n0 c0, .slice A1 n1 c1] :: [])) (fun i _ => Rn + 1 - (intOf i).toNat)
                    case atStart => exact ⟨0, by omega, rfl, HSI.out⟩
                    case round =>
                      clear HSI
                      obtain ⟨q, hk, rfl, hs⟩ := hrel
                      by_cases hltq : q < Rn
                      · have hltJ : (q : Int) < (Rn : Int) := by omega
                        obtain ⟨xr, hx⟩ : ∃ z_, rs[q]? = some z_ := ⟨_, List.getElem?_eq_getElem (by rw [HRN.out]; exact hltq)⟩
                        have cx := hs.rowCell 6 rfl q _ (nums_get _ _ _ hx)
                        have hx2 := HGR.out.lt (List.mem_of_getElem? hx)
                        have HSB := Lib.hid hs
                        have hvc := fun W (S : Sep w W (blkR T6 54 #[.int .i64 (src : Int), .int .i64 (old : Int), .int .i64 (new : Int), .bool true, .bool false] :: blkR T5 52 #[.int .u8 d0, .int .u8 d1, .int .u8 d2, .int .u8 d3] :: mapR Try.prog 51 35 3 .i64 .i64 mi (cn3) (updM (updM M (new : Int) (some ((c : Int) + 1))) (old : Int) (some (0))) :: vybR bb m 2049 (V.post true old new) :: markR m a 2049 (Col.white) :: arenaR a A :: rowR 35 1 (.slice (some ⟨g, 0, none⟩) Rn capl) Rn (nums rs) :: adjR Try.prog 35 35 b (ptsOf fs) :: blkR T 25 #[.slice A0 n0 c0, .slice A1 n1 c1] :: [])) => VCount S 3 rfl xr hx2.2
                        have hvx := HMC2.out xr
                        obtain ⟨cx_, hcx⟩ : ∃ c, (V.post true old new).cnt xr = c := ⟨_, rfl⟩
                        rw [hcx] at hvc hvx
                        have HVC := Lib.hid (show ∀ W, Sep w W (blkR T6 54 #[.int .i64 (src : Int), .int .i64 (old : Int), .int .i64 (new : Int), .bool true, .bool false] :: blkR T5 52 #[.int .u8 d0, .int .u8 d1, .int .u8 d2, .int .u8 d3] :: mapR Try.prog 51 35 3 .i64 .i64 mi (cn3) (updM (updM M (new : Int) (some ((c : Int) + 1))) (old : Int) (some (0))) :: vybR bb m 2049 (V.post true old new) :: markR m a 2049 (Col.white) :: arenaR a A :: rowR 35 1 (.slice (some ⟨g, 0, none⟩) Rn capl) Rn (nums rs) :: adjR Try.prog 35 35 b (ptsOf fs) :: blkR T 25 #[.slice A0 n0 c0, .slice A1 n1 c1] :: []) → _ from hvc)
                        have HVX := Lib.hid hvx
                        clear hs hx hvc hvx hcx
                        go_wp2
                        refine region_sep HSB.out (by kernel_rfl) (by kernel_rfl) ?_
                        intro hne0
                        have ylk : ∀ x : SepW w (blkR T6 54 #[.int .i64 (src : Int), .int .i64 (old : Int), .int .i64 (new : Int), .bool true, .bool false] :: blkR T5 52 #[.int .u8 d0, .int .u8 d1, .int .u8 d2, .int .u8 d3] :: mapR Try.prog 51 35 3 .i64 .i64 mi (cn3) (updM (updM M (new : Int) (some ((c : Int) + 1))) (old : Int) (some (0))) :: vybR bb m 2049 (V.post true old new) :: markR m a 2049 (Col.white) :: arenaR a A :: rowR 35 1 (.slice (some ⟨g, 0, none⟩) Rn capl) Rn (nums rs) :: adjR Try.prog 35 35 b (ptsOf fs) :: blkR T 25 #[.slice A0 n0 c0, .slice A1 n1 c1] :: []), (Instr.lookup 51 (.map (some mi)) (.int .i64 (xr : Int)) false).run Try.prog x.w' = .ok (.int .i64 (cx_ : Int)) x.w' := fun x => by
                          have := map_get refIntOk x.h 2 rfl (wfx (x := xr) (by omega))
                          rw [HVX.out] at this
                          simpa using this
                        repeat (go_big_quiet_step (first
                          | (go_at_call 33; exact same_calls (HVC.out _ (SepW.h _)))))
                        refine wpQuiet_nil ?_
                        rintro wq ⟨⟨wqx, hs⟩, rfl⟩
                        clear ylk hne0
                        go_wp2
                        go_roundw
                        case rel => exact ⟨q + 1, by omega, by go_num, hs⟩
                        case measure => simp [intOf]; omega
                      · obtain rfl : Rn = q := by omega
                        have HVO := Lib.hid (VOver hs 3 rfl)
                        have HKC := Lib.hid (KCount hs 4 rfl)
                        clear hs
                        by_cases hrl : rq < lg + 1
                        · have hrlI : (rq : Int) < ((lg + 1 : Nat) : Int) := by omega
                          have HOB := Lib.hid (show (V.post true old new).over = true from by rw [HOV2.out.over]; exact decide_eq_true hrl)
                          clear hrl
                          try push_cast at hrlI
                          go_wp2_with (first
                            | (go_at_call 34; refine (HVO.out).mono ?_; rw [HOB.out]; rintro e w13 ⟨rfl, rfl⟩; clear HVO)
                            | (go_at_call 41; refine (HKC.out).mono ?_; rw [elems_white]; rintro e w14 ⟨rfl, hs⟩; have HSX := Lib.hid hs.tail.tail; clear hs HKC))
                          go_roundw
                          case rel => exact ⟨k + 1, cn3, lg + 1, updM (updM M (new : Int) (some ((c : Int) + 1))) (old : Int) (some (0)), V.post true old new, by omega, by omega, by first | rfl | go_num, by go_num, by omega, HMC2.out, HOV2.out, HSX.out⟩
                          case measure => simp [intOf]; omega
                        · have hrlI : ¬ (rq : Int) < ((lg + 1 : Nat) : Int) := by omega
                          have HOB := Lib.hid (show (V.post true old new).over = false from by rw [HOV2.out.over]; exact decide_eq_false hrl)
                          clear hrl
                          try push_cast at hrlI
                          go_wp2_with (first
                            | (go_at_call 34; refine (HVO.out).mono ?_; rw [HOB.out]; rintro e w13 ⟨rfl, rfl⟩; clear HVO)
                            | (go_at_call 41; refine (HKC.out).mono ?_; rw [elems_white]; rintro e w14 ⟨rfl, hs⟩; have HSX := Lib.hid hs.tail.tail; clear hs HKC))
                          go_roundw
                          case rel => exact ⟨k + 1, cn3, lg + 1, updM (updM M (new : Int) (some ((c : Int) + 1))) (old : Int) (some (0)), V.post true old new, by omega, by omega, by first | rfl | go_num, by go_num, by omega, HMC2.out, HOV2.out, HSX.out⟩
                          case measure => simp [intOf]; omega
                  · go_wp2_with (first
                      | (go_at_call 29; refine (HCW.out).mono ?_; rintro e w6 ⟨rfl, hs⟩; have hs6 := hs.box #[.int .i64 (src : Int), .int .i64 (old : Int), .int .i64 (new : Int), .bool true, .bool false] 54; have q0 := (hs6.blk 0 rfl).cell 0; have q1 := (hs6.blk 0 rfl).cell 1; have q2 := (hs6.blk 0 rfl).cell 2; have q3 := (hs6.blk 0 rfl).cell 3; have q4 := (hs6.blk 0 rfl).cell 4; simp only [List.getElem?_toArray, List.getElem?_cons_zero, List.getElem?_cons_succ] at q0 q1 q2 q3 q4; have HCP := Lib.hid (VPost hs6 3 rfl (src : Int) old new true false hol hnl); clear hs hs6 HCW z0 z1 z2 z3)
                      | (go_at_call 40; refine (VPre _ bb (src : Int) (old : Int)).mono ?_; rintro e w8 ⟨rfl, rfl⟩)
                      | (go_at_call 30; refine (HCP.out).mono ?_; rintro e w7 ⟨rfl, hs⟩; clear q0 q1 q2 q3 q4; obtain ⟨T6, hT6⟩ : ∃ T6, w6.heap.size = T6 := ⟨_, rfl⟩; rw [hT6] at hs; have q1 := (hs.blk 0 rfl).cell 1; have q2 := (hs.blk 0 rfl).cell 2; have q3 := (hs.blk 0 rfl).cell 3; simp only [List.getElem?_toArray, List.getElem?_cons_zero, List.getElem?_cons_succ] at q1 q2 q3; have hlk := map_get refIntOk hs 2 rfl (wfx (x := new) (by omega)); rw [HMC.out new, HN.out] at hlk; have HL1 := Lib.hid hlk; clear hlk; obtain ⟨wp1, hput, hs8⟩ := map_put refIntOk hs 2 rfl (by unfold maxLen; omega) (wfx (x := new) (by omega)) (c := (c : Int) + 1) (by simp only [Lit.wf, Bool.and_eq_true, decide_eq_true_eq]; rw [show IntKind.i64.min = -9223372036854775808 from by decide, show IntKind.i64.max = 9223372036854775807 from by decide]; omega); obtain ⟨cn2, hcnx⟩ : ∃ cz_, (if (M (new : Int)).isSome = true then cn else cn + 1) = cz_ := ⟨_, rfl⟩; have hcn2 : cn2 ≤ cn + 1 := (by rw [← hcnx]; split <;> omega); rw [hcnx] at hs8; have HP1 := Lib.hid hput; clear hput hcnx; have p1 := (hs8.blk 0 rfl).cell 1; have p3 := (hs8.blk 0 rfl).cell 3; simp only [List.getElem?_toArray, List.getElem?_cons_zero, List.getElem?_cons_succ] at p1 p3; have HMC1 := Lib.hid (HMC.out.up HNZ.out (v := (c : Int) + 1) (by rw [HN.out]; omega)); have hlk2 := map_get refIntOk hs8 2 rfl (wfx (x := old) (by omega)); rw [HMC1.out old, HO.out] at hlk2; have HL2 := Lib.hid hlk2; have HL3 := Lib.hid hlk2; clear hlk2; obtain ⟨wp2, hput, hs9⟩ := map_put refIntOk hs8 2 rfl (by unfold maxLen; omega) (wfx (x := old) (by omega)) (c := 1) (by simp only [Lit.wf, Bool.and_eq_true, decide_eq_true_eq]; rw [show IntKind.i64.min = -9223372036854775808 from by decide, show IntKind.i64.max = 9223372036854775807 from by decide]; omega); obtain ⟨cn3, hcnx⟩ : ∃ cz_, (if ((updM M (new : Int) (some ((c : Int) + 1))) (old : Int)).isSome = true then cn2 else cn2 + 1) = cz_ := ⟨_, rfl⟩; have hcn3 : cn3 ≤ cn2 + 1 := (by rw [← hcnx]; split <;> omega); rw [hcnx] at hs9; have HP2 := Lib.hid hput; clear hput hcnx; have HSI := Lib.hid (show Sep w wp2 (blkR T6 54 #[.int .i64 (src : Int), .int .i64 (old : Int), .int .i64 (new : Int), .bool true, .bool false] :: blkR T5 52 #[.int .u8 d0, .int .u8 d1, .int .u8 d2, .int .u8 d3] :: mapR Try.prog 51 35 3 .i64 .i64 mi (cn3) (updM (updM M (new : Int) (some ((c : Int) + 1))) (old : Int) (some (1))) :: vybR bb m 2049 (V.post true old new) :: markR m a 2049 (Col.white) :: arenaR a A :: rowR 35 1 (.slice (some ⟨g, 0, none⟩) Rn capl) Rn (nums rs) :: adjR Try.prog 35 35 b (ptsOf fs) :: blkR T 25 #[.slice A0 n0 c0, .slice A1 n1 c1] :: []) from hs9); clear hs9; clear hs HCP hs8)
                      | (at_lookup; refine wpList_lookup_run rfl _ _ _ _ rfl rfl rfl HL1.out ?_; clear HL1)
                      | (at_mapUpdate; refine wpList_mapUpdate_run rfl _ _ _ _ rfl rfl rfl rfl HP1.out ?_; clear HP1)
                      | (at_lookup; refine wpList_lookup_run rfl _ _ _ _ rfl rfl rfl HL2.out ?_; clear HL2)
                      | (at_lookup; refine wpList_lookup_run rfl _ _ _ _ rfl rfl rfl HL3.out ?_; clear HL3)
                      | (at_mapUpdate; refine wpList_mapUpdate_run rfl _ _ _ _ rfl rfl rfl rfl HP2.out ?_; clear HP2))
                    have HMC2 := Lib.hid (show McI (updM (updM M (new : Int) (some ((c : Int) + 1))) (old : Int) (some (1))) (V.post true old new) from by unfold Vy.post; rw [if_pos rfl]; exact HMC1.out.down (by rw [HO.out]; exact HOC.out) (by rw [HO.out]; rfl))
                    have HOV2 := Lib.hid (show OvI rq (lg + 1) (V.post true old new) from by unfold Vy.post; rw [if_pos rfl]; exact (HOV.out.up HNZ.out).down old)
                    try simp only [hT6]
                    clear hT6 HMC1 q1 q2 q3 p1 p3
                    go_loopw [111] (fun i wr => ∃ (q : Nat), q ≤ Rn ∧ i = .int .i64 q ∧ Sep w wr (blkR T6 54 #[.int .i64 (src : Int), .int .i64 (old : Int), .int .i64 (new : Int), .bool true, .bool false] :: blkR T5 52 #[.int .u8 d0, .int .u8 d1, .int .u8 d2, .int .u8 d3] :: mapR Try.prog 51 35 3 .i64 .i64 mi (cn3) (updM (updM M (new : Int) (some ((c : Int) + 1))) (old : Int) (some (1))) :: vybR bb m 2049 (V.post true old new) :: markR m a 2049 (Col.white) :: arenaR a A :: rowR 35 1 (.slice (some ⟨g, 0, none⟩) Rn capl) Rn (nums rs) :: adjR Try.prog 35 35 b (ptsOf fs) :: blkR T 25 #[.slice A0 n0 c0, .slice A1 n1 c1] :: [])) (fun i _ => Rn + 1 - (intOf i).toNat)
                    case atStart => exact ⟨0, by omega, rfl, HSI.out⟩
                    case round =>
                      clear HSI
                      obtain ⟨q, hk, rfl, hs⟩ := hrel
                      by_cases hltq : q < Rn
                      · have hltJ : (q : Int) < (Rn : Int) := by omega
                        obtain ⟨xr, hx⟩ : ∃ z_, rs[q]? = some z_ := ⟨_, List.getElem?_eq_getElem (by rw [HRN.out]; exact hltq)⟩
                        have cx := hs.rowCell 6 rfl q _ (nums_get _ _ _ hx)
                        have hx2 := HGR.out.lt (List.mem_of_getElem? hx)
                        have HSB := Lib.hid hs
                        have hvc := fun W (S : Sep w W (blkR T6 54 #[.int .i64 (src : Int), .int .i64 (old : Int), .int .i64 (new : Int), .bool true, .bool false] :: blkR T5 52 #[.int .u8 d0, .int .u8 d1, .int .u8 d2, .int .u8 d3] :: mapR Try.prog 51 35 3 .i64 .i64 mi (cn3) (updM (updM M (new : Int) (some ((c : Int) + 1))) (old : Int) (some (1))) :: vybR bb m 2049 (V.post true old new) :: markR m a 2049 (Col.white) :: arenaR a A :: rowR 35 1 (.slice (some ⟨g, 0, none⟩) Rn capl) Rn (nums rs) :: adjR Try.prog 35 35 b (ptsOf fs) :: blkR T 25 #[.slice A0 n0 c0, .slice A1 n1 c1] :: [])) => VCount S 3 rfl xr hx2.2
                        have hvx := HMC2.out xr
                        obtain ⟨cx_, hcx⟩ : ∃ c, (V.post true old new).cnt xr = c := ⟨_, rfl⟩
                        rw [hcx] at hvc hvx
                        have HVC := Lib.hid (show ∀ W, Sep w W (blkR T6 54 #[.int .i64 (src : Int), .int .i64 (old : Int), .int .i64 (new : Int), .bool true, .bool false] :: blkR T5 52 #[.int .u8 d0, .int .u8 d1, .int .u8 d2, .int .u8 d3] :: mapR Try.prog 51 35 3 .i64 .i64 mi (cn3) (updM (updM M (new : Int) (some ((c : Int) + 1))) (old : Int) (some (1))) :: vybR bb m 2049 (V.post true old new) :: markR m a 2049 (Col.white) :: arenaR a A :: rowR 35 1 (.slice (some ⟨g, 0, none⟩) Rn capl) Rn (nums rs) :: adjR Try.prog 35 35 b (ptsOf fs) :: blkR T 25 #[.slice A0 n0 c0, .slice A1 n1 c1] :: []) → _ from hvc)
                        have HVX := Lib.hid hvx
                        clear hs hx hvc hvx hcx
                        go_wp2
                        refine region_sep HSB.out (by kernel_rfl) (by kernel_rfl) ?_
                        intro hne0
                        have ylk : ∀ x : SepW w (blkR T6 54 #[.int .i64 (src : Int), .int .i64 (old : Int), .int .i64 (new : Int), .bool true, .bool false] :: blkR T5 52 #[.int .u8 d0, .int .u8 d1, .int .u8 d2, .int .u8 d3] :: mapR Try.prog 51 35 3 .i64 .i64 mi (cn3) (updM (updM M (new : Int) (some ((c : Int) + 1))) (old : Int) (some (1))) :: vybR bb m 2049 (V.post true old new) :: markR m a 2049 (Col.white) :: arenaR a A :: rowR 35 1 (.slice (some ⟨g, 0, none⟩) Rn capl) Rn (nums rs) :: adjR Try.prog 35 35 b (ptsOf fs) :: blkR T 25 #[.slice A0 n0 c0, .slice A1 n1 c1] :: []), (Instr.lookup 51 (.map (some mi)) (.int .i64 (xr : Int)) false).run Try.prog x.w' = .ok (.int .i64 (cx_ : Int)) x.w' := fun x => by
                          have := map_get refIntOk x.h 2 rfl (wfx (x := xr) (by omega))
                          rw [HVX.out] at this
                          simpa using this
                        repeat (go_big_quiet_step (first
                          | (go_at_call 33; exact same_calls (HVC.out _ (SepW.h _)))))
                        refine wpQuiet_nil ?_
                        rintro wq ⟨⟨wqx, hs⟩, rfl⟩
                        clear ylk hne0
                        go_wp2
                        go_roundw
                        case rel => exact ⟨q + 1, by omega, by go_num, hs⟩
                        case measure => simp [intOf]; omega
                      · obtain rfl : Rn = q := by omega
                        have HVO := Lib.hid (VOver hs 3 rfl)
                        have HKC := Lib.hid (KCount hs 4 rfl)
                        clear hs
                        by_cases hrl : rq < lg + 1
                        · have hrlI : (rq : Int) < ((lg + 1 : Nat) : Int) := by omega
                          have HOB := Lib.hid (show (V.post true old new).over = true from by rw [HOV2.out.over]; exact decide_eq_true hrl)
                          clear hrl
                          try push_cast at hrlI
                          go_wp2_with (first
                            | (go_at_call 34; refine (HVO.out).mono ?_; rw [HOB.out]; rintro e w13 ⟨rfl, rfl⟩; clear HVO)
                            | (go_at_call 41; refine (HKC.out).mono ?_; rw [elems_white]; rintro e w14 ⟨rfl, hs⟩; have HSX := Lib.hid hs.tail.tail; clear hs HKC))
                          go_roundw
                          case rel => exact ⟨k + 1, cn3, lg + 1, updM (updM M (new : Int) (some ((c : Int) + 1))) (old : Int) (some (1)), V.post true old new, by omega, by omega, by first | rfl | go_num, by go_num, by omega, HMC2.out, HOV2.out, HSX.out⟩
                          case measure => simp [intOf]; omega
                        · have hrlI : ¬ (rq : Int) < ((lg + 1 : Nat) : Int) := by omega
                          have HOB := Lib.hid (show (V.post true old new).over = false from by rw [HOV2.out.over]; exact decide_eq_false hrl)
                          clear hrl
                          try push_cast at hrlI
                          go_wp2_with (first
                            | (go_at_call 34; refine (HVO.out).mono ?_; rw [HOB.out]; rintro e w13 ⟨rfl, rfl⟩; clear HVO)
                            | (go_at_call 41; refine (HKC.out).mono ?_; rw [elems_white]; rintro e w14 ⟨rfl, hs⟩; have HSX := Lib.hid hs.tail.tail; clear hs HKC))
                          go_roundw
                          case rel => exact ⟨k + 1, cn3, lg + 1, updM (updM M (new : Int) (some ((c : Int) + 1))) (old : Int) (some (1)), V.post true old new, by omega, by omega, by first | rfl | go_num, by go_num, by omega, HMC2.out, HOV2.out, HSX.out⟩
                          case measure => simp [intOf]; omega
                · have HOC := Lib.hid (show ¬ (old ≠ 0 ∧ 0 < (V.up new).cnt old ∧ (V.up new).cnt old < 3) from fun h => hd (by rw [← HO.out]; exact h.2))
                  have hc1 : ¬ (co : Int) = 1 := by omega
                  have hc2 : ¬ (co : Int) = 2 := by omega
                  have hc1b : ((co : Int) == 1) = false := by simp; omega
                  have hc2b : ((co : Int) == 2) = false := by simp; omega
                  clear hd ho0
                  go_wp2_with (first
                    | (go_at_call 29; refine (HCW.out).mono ?_; rintro e w6 ⟨rfl, hs⟩; have hs6 := hs.box #[.int .i64 (src : Int), .int .i64 (old : Int), .int .i64 (new : Int), .bool true, .bool false] 54; have q0 := (hs6.blk 0 rfl).cell 0; have q1 := (hs6.blk 0 rfl).cell 1; have q2 := (hs6.blk 0 rfl).cell 2; have q3 := (hs6.blk 0 rfl).cell 3; have q4 := (hs6.blk 0 rfl).cell 4; simp only [List.getElem?_toArray, List.getElem?_cons_zero, List.getElem?_cons_succ] at q0 q1 q2 q3 q4; have HCP := Lib.hid (VPost hs6 3 rfl (src : Int) old new true false hol hnl); clear hs hs6 HCW z0 z1 z2 z3)
                    | (go_at_call 40; refine (VPre _ bb (src : Int) (old : Int)).mono ?_; rintro e w8 ⟨rfl, rfl⟩)
                    | (go_at_call 30; refine (HCP.out).mono ?_; rintro e w7 ⟨rfl, hs⟩; clear q0 q1 q2 q3 q4; obtain ⟨T6, hT6⟩ : ∃ T6, w6.heap.size = T6 := ⟨_, rfl⟩; rw [hT6] at hs; have q1 := (hs.blk 0 rfl).cell 1; have q2 := (hs.blk 0 rfl).cell 2; have q3 := (hs.blk 0 rfl).cell 3; simp only [List.getElem?_toArray, List.getElem?_cons_zero, List.getElem?_cons_succ] at q1 q2 q3; have hlk := map_get refIntOk hs 2 rfl (wfx (x := new) (by omega)); rw [HMC.out new, HN.out] at hlk; have HL1 := Lib.hid hlk; clear hlk; obtain ⟨wp1, hput, hs8⟩ := map_put refIntOk hs 2 rfl (by unfold maxLen; omega) (wfx (x := new) (by omega)) (c := (c : Int) + 1) (by simp only [Lit.wf, Bool.and_eq_true, decide_eq_true_eq]; rw [show IntKind.i64.min = -9223372036854775808 from by decide, show IntKind.i64.max = 9223372036854775807 from by decide]; omega); obtain ⟨cn2, hcnx⟩ : ∃ cz_, (if (M (new : Int)).isSome = true then cn else cn + 1) = cz_ := ⟨_, rfl⟩; have hcn2 : cn2 ≤ cn + 1 := (by rw [← hcnx]; split <;> omega); rw [hcnx] at hs8; have HP1 := Lib.hid hput; clear hput hcnx; have p1 := (hs8.blk 0 rfl).cell 1; have p3 := (hs8.blk 0 rfl).cell 3; simp only [List.getElem?_toArray, List.getElem?_cons_zero, List.getElem?_cons_succ] at p1 p3; have HMC1 := Lib.hid (HMC.out.up HNZ.out (v := (c : Int) + 1) (by rw [HN.out]; omega)); have hlk2 := map_get refIntOk hs8 2 rfl (wfx (x := old) (by omega)); rw [HMC1.out old, HO.out] at hlk2; have HL2 := Lib.hid hlk2; have HL3 := Lib.hid hlk2; clear hlk2; have HSI := Lib.hid (show Sep w _ (blkR T6 54 #[.int .i64 (src : Int), .int .i64 (old : Int), .int .i64 (new : Int), .bool true, .bool false] :: blkR T5 52 #[.int .u8 d0, .int .u8 d1, .int .u8 d2, .int .u8 d3] :: mapR Try.prog 51 35 3 .i64 .i64 mi (cn2) (updM M (new : Int) (some ((c : Int) + 1))) :: vybR bb m 2049 (V.post true old new) :: markR m a 2049 (Col.white) :: arenaR a A :: rowR 35 1 (.slice (some ⟨g, 0, none⟩) Rn capl) Rn (nums rs) :: adjR Try.prog 35 35 b (ptsOf fs) :: blkR T 25 #[.slice A0 n0 c0, .slice A1 n1 c1] :: []) from hs8); clear hs HCP hs8)
                    | (at_lookup; refine wpList_lookup_run rfl _ _ _ _ rfl rfl rfl HL1.out ?_; clear HL1)
                    | (at_mapUpdate; refine wpList_mapUpdate_run rfl _ _ _ _ rfl rfl rfl rfl HP1.out ?_; clear HP1)
                    | (at_lookup; refine wpList_lookup_run rfl _ _ _ _ rfl rfl rfl HL2.out ?_; clear HL2))
                  have HMC2 := Lib.hid (show McI (updM M (new : Int) (some ((c : Int) + 1))) (V.post true old new) from by unfold Vy.post; rw [if_pos rfl, down_not (fun h => HOC.out h)]; exact HMC1.out)
                  have HOV2 := Lib.hid (show OvI rq (lg + 1) (V.post true old new) from by unfold Vy.post; rw [if_pos rfl]; exact (HOV.out.up HNZ.out).down old)
                  try simp only [hT6]
                  clear hT6 HMC1 q1 q2 q3 p1 p3
                  go_loopw [111] (fun i wr => ∃ (q : Nat), q ≤ Rn ∧ i = .int .i64 q ∧ Sep w wr (blkR T6 54 #[.int .i64 (src : Int), .int .i64 (old : Int), .int .i64 (new : Int), .bool true, .bool false] :: blkR T5 52 #[.int .u8 d0, .int .u8 d1, .int .u8 d2, .int .u8 d3] :: mapR Try.prog 51 35 3 .i64 .i64 mi (cn2) (updM M (new : Int) (some ((c : Int) + 1))) :: vybR bb m 2049 (V.post true old new) :: markR m a 2049 (Col.white) :: arenaR a A :: rowR 35 1 (.slice (some ⟨g, 0, none⟩) Rn capl) Rn (nums rs) :: adjR Try.prog 35 35 b (ptsOf fs) :: blkR T 25 #[.slice A0 n0 c0, .slice A1 n1 c1] :: [])) (fun i _ => Rn + 1 - (intOf i).toNat)
                  case atStart => exact ⟨0, by omega, rfl, HSI.out⟩
                  case round =>
                    clear HSI
                    obtain ⟨q, hk, rfl, hs⟩ := hrel
                    by_cases hltq : q < Rn
                    · have hltJ : (q : Int) < (Rn : Int) := by omega
                      obtain ⟨xr, hx⟩ : ∃ z_, rs[q]? = some z_ := ⟨_, List.getElem?_eq_getElem (by rw [HRN.out]; exact hltq)⟩
                      have cx := hs.rowCell 6 rfl q _ (nums_get _ _ _ hx)
                      have hx2 := HGR.out.lt (List.mem_of_getElem? hx)
                      have HSB := Lib.hid hs
                      have hvc := fun W (S : Sep w W (blkR T6 54 #[.int .i64 (src : Int), .int .i64 (old : Int), .int .i64 (new : Int), .bool true, .bool false] :: blkR T5 52 #[.int .u8 d0, .int .u8 d1, .int .u8 d2, .int .u8 d3] :: mapR Try.prog 51 35 3 .i64 .i64 mi (cn2) (updM M (new : Int) (some ((c : Int) + 1))) :: vybR bb m 2049 (V.post true old new) :: markR m a 2049 (Col.white) :: arenaR a A :: rowR 35 1 (.slice (some ⟨g, 0, none⟩) Rn capl) Rn (nums rs) :: adjR Try.prog 35 35 b (ptsOf fs) :: blkR T 25 #[.slice A0 n0 c0, .slice A1 n1 c1] :: [])) => VCount S 3 rfl xr hx2.2
                      have hvx := HMC2.out xr
                      obtain ⟨cx_, hcx⟩ : ∃ c, (V.post true old new).cnt xr = c := ⟨_, rfl⟩
                      rw [hcx] at hvc hvx
                      have HVC := Lib.hid (show ∀ W, Sep w W (blkR T6 54 #[.int .i64 (src : Int), .int .i64 (old : Int), .int .i64 (new : Int), .bool true, .bool false] :: blkR T5 52 #[.int .u8 d0, .int .u8 d1, .int .u8 d2, .int .u8 d3] :: mapR Try.prog 51 35 3 .i64 .i64 mi (cn2) (updM M (new : Int) (some ((c : Int) + 1))) :: vybR bb m 2049 (V.post true old new) :: markR m a 2049 (Col.white) :: arenaR a A :: rowR 35 1 (.slice (some ⟨g, 0, none⟩) Rn capl) Rn (nums rs) :: adjR Try.prog 35 35 b (ptsOf fs) :: blkR T 25 #[.slice A0 n0 c0, .slice A1 n1 c1] :: []) → _ from hvc)
                      have HVX := Lib.hid hvx
                      clear hs hx hvc hvx hcx
                      go_wp2
                      refine region_sep HSB.out (by kernel_rfl) (by kernel_rfl) ?_
                      intro hne0
                      have ylk : ∀ x : SepW w (blkR T6 54 #[.int .i64 (src : Int), .int .i64 (old : Int), .int .i64 (new : Int), .bool true, .bool false] :: blkR T5 52 #[.int .u8 d0, .int .u8 d1, .int .u8 d2, .int .u8 d3] :: mapR Try.prog 51 35 3 .i64 .i64 mi (cn2) (updM M (new : Int) (some ((c : Int) + 1))) :: vybR bb m 2049 (V.post true old new) :: markR m a 2049 (Col.white) :: arenaR a A :: rowR 35 1 (.slice (some ⟨g, 0, none⟩) Rn capl) Rn (nums rs) :: adjR Try.prog 35 35 b (ptsOf fs) :: blkR T 25 #[.slice A0 n0 c0, .slice A1 n1 c1] :: []), (Instr.lookup 51 (.map (some mi)) (.int .i64 (xr : Int)) false).run Try.prog x.w' = .ok (.int .i64 (cx_ : Int)) x.w' := fun x => by
                        have := map_get refIntOk x.h 2 rfl (wfx (x := xr) (by omega))
                        rw [HVX.out] at this
                        simpa using this
                      repeat (go_big_quiet_step (first
                        | (go_at_call 33; exact same_calls (HVC.out _ (SepW.h _)))))
                      refine wpQuiet_nil ?_
                      rintro wq ⟨⟨wqx, hs⟩, rfl⟩
                      clear ylk hne0
                      go_wp2
                      go_roundw
                      case rel => exact ⟨q + 1, by omega, by go_num, hs⟩
                      case measure => simp [intOf]; omega
                    · obtain rfl : Rn = q := by omega
                      have HVO := Lib.hid (VOver hs 3 rfl)
                      have HKC := Lib.hid (KCount hs 4 rfl)
                      clear hs
                      by_cases hrl : rq < lg + 1
                      · have hrlI : (rq : Int) < ((lg + 1 : Nat) : Int) := by omega
                        have HOB := Lib.hid (show (V.post true old new).over = true from by rw [HOV2.out.over]; exact decide_eq_true hrl)
                        clear hrl
                        try push_cast at hrlI
                        go_wp2_with (first
                          | (go_at_call 34; refine (HVO.out).mono ?_; rw [HOB.out]; rintro e w13 ⟨rfl, rfl⟩; clear HVO)
                          | (go_at_call 41; refine (HKC.out).mono ?_; rw [elems_white]; rintro e w14 ⟨rfl, hs⟩; have HSX := Lib.hid hs.tail.tail; clear hs HKC))
                        go_roundw
                        case rel => exact ⟨k + 1, cn2, lg + 1, updM M (new : Int) (some ((c : Int) + 1)), V.post true old new, by omega, by omega, by first | rfl | go_num, by go_num, by omega, HMC2.out, HOV2.out, HSX.out⟩
                        case measure => simp [intOf]; omega
                      · have hrlI : ¬ (rq : Int) < ((lg + 1 : Nat) : Int) := by omega
                        have HOB := Lib.hid (show (V.post true old new).over = false from by rw [HOV2.out.over]; exact decide_eq_false hrl)
                        clear hrl
                        try push_cast at hrlI
                        go_wp2_with (first
                          | (go_at_call 34; refine (HVO.out).mono ?_; rw [HOB.out]; rintro e w13 ⟨rfl, rfl⟩; clear HVO)
                          | (go_at_call 41; refine (HKC.out).mono ?_; rw [elems_white]; rintro e w14 ⟨rfl, hs⟩; have HSX := Lib.hid hs.tail.tail; clear hs HKC))
                        go_roundw
                        case rel => exact ⟨k + 1, cn2, lg + 1, updM M (new : Int) (some ((c : Int) + 1)), V.post true old new, by omega, by omega, by first | rfl | go_num, by go_num, by omega, HMC2.out, HOV2.out, HSX.out⟩
                        case measure => simp [intOf]; omega
            · obtain ⟨co, hco⟩ : ∃ c, (V.up new).cnt old = c := ⟨_, rfl⟩
              have HO := Lib.hid hco
              have hco3 : co ≤ 3 := by rw [← hco]; exact (HOKV.out.up hnl).three old
              clear hco
              by_cases ho0 : old = 0
              · have hob : ((old : Int) != 0) = false := by simp; omega
                have HOC := Lib.hid ho0
                clear ho0
                go_wp2_with (first
                  | (go_at_call 29; refine (HCW.out).mono ?_; rintro e w6 ⟨rfl, hs⟩; have hs6 := hs.box #[.int .i64 (src : Int), .int .i64 (old : Int), .int .i64 (new : Int), .bool true, .bool false] 54; have q0 := (hs6.blk 0 rfl).cell 0; have q1 := (hs6.blk 0 rfl).cell 1; have q2 := (hs6.blk 0 rfl).cell 2; have q3 := (hs6.blk 0 rfl).cell 3; have q4 := (hs6.blk 0 rfl).cell 4; simp only [List.getElem?_toArray, List.getElem?_cons_zero, List.getElem?_cons_succ] at q0 q1 q2 q3 q4; have HCP := Lib.hid (VPost hs6 3 rfl (src : Int) old new true false hol hnl); clear hs hs6 HCW z0 z1 z2 z3)
                  | (go_at_call 40; refine (VPre _ bb (src : Int) (old : Int)).mono ?_; rintro e w8 ⟨rfl, rfl⟩)
                  | (go_at_call 30; refine (HCP.out).mono ?_; rintro e w7 ⟨rfl, hs⟩; clear q0 q1 q2 q3 q4; obtain ⟨T6, hT6⟩ : ∃ T6, w6.heap.size = T6 := ⟨_, rfl⟩; rw [hT6] at hs; have q1 := (hs.blk 0 rfl).cell 1; have q2 := (hs.blk 0 rfl).cell 2; have q3 := (hs.blk 0 rfl).cell 3; simp only [List.getElem?_toArray, List.getElem?_cons_zero, List.getElem?_cons_succ] at q1 q2 q3; have hlk := map_get refIntOk hs 2 rfl (wfx (x := new) (by omega)); rw [HMC.out new, HN.out] at hlk; have HL1 := Lib.hid hlk; clear hlk; obtain ⟨wp1, hput, hs8⟩ := map_put refIntOk hs 2 rfl (by unfold maxLen; omega) (wfx (x := new) (by omega)) (c := 3) (by simp only [Lit.wf, Bool.and_eq_true, decide_eq_true_eq]; rw [show IntKind.i64.min = -9223372036854775808 from by decide, show IntKind.i64.max = 9223372036854775807 from by decide]; omega); obtain ⟨cn2, hcnx⟩ : ∃ cz_, (if (M (new : Int)).isSome = true then cn else cn + 1) = cz_ := ⟨_, rfl⟩; have hcn2 : cn2 ≤ cn + 1 := (by rw [← hcnx]; split <;> omega); rw [hcnx] at hs8; have HP1 := Lib.hid hput; clear hput hcnx; have p1 := (hs8.blk 0 rfl).cell 1; have p3 := (hs8.blk 0 rfl).cell 3; simp only [List.getElem?_toArray, List.getElem?_cons_zero, List.getElem?_cons_succ] at p1 p3; have HMC1 := Lib.hid (HMC.out.up HNZ.out (v := 3) (by rw [HN.out]; omega)); have hlk2 := map_get refIntOk hs8 2 rfl (wfx (x := old) (by omega)); rw [HMC1.out old, HO.out] at hlk2; have HL2 := Lib.hid hlk2; have HL3 := Lib.hid hlk2; clear hlk2; have HSI := Lib.hid (show Sep w _ (blkR T6 54 #[.int .i64 (src : Int), .int .i64 (old : Int), .int .i64 (new : Int), .bool true, .bool false] :: blkR T5 52 #[.int .u8 d0, .int .u8 d1, .int .u8 d2, .int .u8 d3] :: mapR Try.prog 51 35 3 .i64 .i64 mi (cn2) (updM M (new : Int) (some (3))) :: vybR bb m 2049 (V.post true old new) :: markR m a 2049 (Col.white) :: arenaR a A :: rowR 35 1 (.slice (some ⟨g, 0, none⟩) Rn capl) Rn (nums rs) :: adjR Try.prog 35 35 b (ptsOf fs) :: blkR T 25 #[.slice A0 n0 c0, .slice A1 n1 c1] :: []) from hs8); clear hs HCP hs8)
                  | (at_lookup; refine wpList_lookup_run rfl _ _ _ _ rfl rfl rfl HL1.out ?_; clear HL1)
                  | (at_mapUpdate; refine wpList_mapUpdate_run rfl _ _ _ _ rfl rfl rfl rfl HP1.out ?_; clear HP1)
                  | (at_lookup; refine wpList_lookup_run rfl _ _ _ _ rfl rfl rfl HL2.out ?_; clear HL2))
                have HMC2 := Lib.hid (show McI (updM M (new : Int) (some (3))) (V.post true old new) from by unfold Vy.post; rw [if_pos rfl, down_not (fun h => h.1 HOC.out)]; exact HMC1.out)
                have HOV2 := Lib.hid (show OvI rq (lg + 1) (V.post true old new) from by unfold Vy.post; rw [if_pos rfl]; exact (HOV.out.up HNZ.out).down old)
                try simp only [hT6]
                clear hT6 HMC1 q1 q2 q3 p1 p3
                go_loopw [111] (fun i wr => ∃ (q : Nat), q ≤ Rn ∧ i = .int .i64 q ∧ Sep w wr (blkR T6 54 #[.int .i64 (src : Int), .int .i64 (old : Int), .int .i64 (new : Int), .bool true, .bool false] :: blkR T5 52 #[.int .u8 d0, .int .u8 d1, .int .u8 d2, .int .u8 d3] :: mapR Try.prog 51 35 3 .i64 .i64 mi (cn2) (updM M (new : Int) (some (3))) :: vybR bb m 2049 (V.post true old new) :: markR m a 2049 (Col.white) :: arenaR a A :: rowR 35 1 (.slice (some ⟨g, 0, none⟩) Rn capl) Rn (nums rs) :: adjR Try.prog 35 35 b (ptsOf fs) :: blkR T 25 #[.slice A0 n0 c0, .slice A1 n1 c1] :: [])) (fun i _ => Rn + 1 - (intOf i).toNat)
                case atStart => exact ⟨0, by omega, rfl, HSI.out⟩
                case round =>
                  clear HSI
                  obtain ⟨q, hk, rfl, hs⟩ := hrel
                  by_cases hltq : q < Rn
                  · have hltJ : (q : Int) < (Rn : Int) := by omega
                    obtain ⟨xr, hx⟩ : ∃ z_, rs[q]? = some z_ := ⟨_, List.getElem?_eq_getElem (by rw [HRN.out]; exact hltq)⟩
                    have cx := hs.rowCell 6 rfl q _ (nums_get _ _ _ hx)
                    have hx2 := HGR.out.lt (List.mem_of_getElem? hx)
                    have HSB := Lib.hid hs
                    have hvc := fun W (S : Sep w W (blkR T6 54 #[.int .i64 (src : Int), .int .i64 (old : Int), .int .i64 (new : Int), .bool true, .bool false] :: blkR T5 52 #[.int .u8 d0, .int .u8 d1, .int .u8 d2, .int .u8 d3] :: mapR Try.prog 51 35 3 .i64 .i64 mi (cn2) (updM M (new : Int) (some (3))) :: vybR bb m 2049 (V.post true old new) :: markR m a 2049 (Col.white) :: arenaR a A :: rowR 35 1 (.slice (some ⟨g, 0, none⟩) Rn capl) Rn (nums rs) :: adjR Try.prog 35 35 b (ptsOf fs) :: blkR T 25 #[.slice A0 n0 c0, .slice A1 n1 c1] :: [])) => VCount S 3 rfl xr hx2.2
                    have hvx := HMC2.out xr
                    obtain ⟨cx_, hcx⟩ : ∃ c, (V.post true old new).cnt xr = c := ⟨_, rfl⟩
                    rw [hcx] at hvc hvx
                    have HVC := Lib.hid (show ∀ W, Sep w W (blkR T6 54 #[.int .i64 (src : Int), .int .i64 (old : Int), .int .i64 (new : Int), .bool true, .bool false] :: blkR T5 52 #[.int .u8 d0, .int .u8 d1, .int .u8 d2, .int .u8 d3] :: mapR Try.prog 51 35 3 .i64 .i64 mi (cn2) (updM M (new : Int) (some (3))) :: vybR bb m 2049 (V.post true old new) :: markR m a 2049 (Col.white) :: arenaR a A :: rowR 35 1 (.slice (some ⟨g, 0, none⟩) Rn capl) Rn (nums rs) :: adjR Try.prog 35 35 b (ptsOf fs) :: blkR T 25 #[.slice A0 n0 c0, .slice A1 n1 c1] :: []) → _ from hvc)
                    have HVX := Lib.hid hvx
                    clear hs hx hvc hvx hcx
                    go_wp2
                    refine region_sep HSB.out (by kernel_rfl) (by kernel_rfl) ?_
                    intro hne0
                    have ylk : ∀ x : SepW w (blkR T6 54 #[.int .i64 (src : Int), .int .i64 (old : Int), .int .i64 (new : Int), .bool true, .bool false] :: blkR T5 52 #[.int .u8 d0, .int .u8 d1, .int .u8 d2, .int .u8 d3] :: mapR Try.prog 51 35 3 .i64 .i64 mi (cn2) (updM M (new : Int) (some (3))) :: vybR bb m 2049 (V.post true old new) :: markR m a 2049 (Col.white) :: arenaR a A :: rowR 35 1 (.slice (some ⟨g, 0, none⟩) Rn capl) Rn (nums rs) :: adjR Try.prog 35 35 b (ptsOf fs) :: blkR T 25 #[.slice A0 n0 c0, .slice A1 n1 c1] :: []), (Instr.lookup 51 (.map (some mi)) (.int .i64 (xr : Int)) false).run Try.prog x.w' = .ok (.int .i64 (cx_ : Int)) x.w' := fun x => by
                      have := map_get refIntOk x.h 2 rfl (wfx (x := xr) (by omega))
                      rw [HVX.out] at this
                      simpa using this
                    repeat (go_big_quiet_step (first
                      | (go_at_call 33; exact same_calls (HVC.out _ (SepW.h _)))))
                    refine wpQuiet_nil ?_
                    rintro wq ⟨⟨wqx, hs⟩, rfl⟩
                    clear ylk hne0
                    go_wp2
                    go_roundw
                    case rel => exact ⟨q + 1, by omega, by go_num, hs⟩
                    case measure => simp [intOf]; omega
                  · obtain rfl : Rn = q := by omega
                    have HVO := Lib.hid (VOver hs 3 rfl)
                    have HKC := Lib.hid (KCount hs 4 rfl)
                    clear hs
                    by_cases hrl : rq < lg + 1
                    · have hrlI : (rq : Int) < ((lg + 1 : Nat) : Int) := by omega
                      have HOB := Lib.hid (show (V.post true old new).over = true from by rw [HOV2.out.over]; exact decide_eq_true hrl)
                      clear hrl
                      try push_cast at hrlI
                      go_wp2_with (first
                        | (go_at_call 34; refine (HVO.out).mono ?_; rw [HOB.out]; rintro e w13 ⟨rfl, rfl⟩; clear HVO)
                        | (go_at_call 41; refine (HKC.out).mono ?_; rw [elems_white]; rintro e w14 ⟨rfl, hs⟩; have HSX := Lib.hid hs.tail.tail; clear hs HKC))
                      go_roundw
                      case rel => exact ⟨k + 1, cn2, lg + 1, updM M (new : Int) (some (3)), V.post true old new, by omega, by omega, by first | rfl | go_num, by go_num, by omega, HMC2.out, HOV2.out, HSX.out⟩
                      case measure => simp [intOf]; omega
                    · have hrlI : ¬ (rq : Int) < ((lg + 1 : Nat) : Int) := by omega
                      have HOB := Lib.hid (show (V.post true old new).over = false from by rw [HOV2.out.over]; exact decide_eq_false hrl)
                      clear hrl
                      try push_cast at hrlI
                      go_wp2_with (first
                        | (go_at_call 34; refine (HVO.out).mono ?_; rw [HOB.out]; rintro e w13 ⟨rfl, rfl⟩; clear HVO)
                        | (go_at_call 41; refine (HKC.out).mono ?_; rw [elems_white]; rintro e w14 ⟨rfl, hs⟩; have HSX := Lib.hid hs.tail.tail; clear hs HKC))
                      go_roundw
                      case rel => exact ⟨k + 1, cn2, lg + 1, updM M (new : Int) (some (3)), V.post true old new, by omega, by omega, by first | rfl | go_num, by go_num, by omega, HMC2.out, HOV2.out, HSX.out⟩
                      case measure => simp [intOf]; omega
              · have hoN : ¬ (old : Int) = 0 := by omega
                have hob : ((old : Int) != 0) = true := by simp; omega
                by_cases hd : 0 < co ∧ co < 3
                · have HOC := Lib.hid (show old ≠ 0 ∧ 0 < co ∧ co < 3 from ⟨ho0, hd⟩)
                  have hd2 : co = 1 ∨ co = 2 := by omega
                  clear hd ho0
                  rcases hd2 with rfl | rfl
                  · go_wp2_with (first
                      | (go_at_call 29; refine (HCW.out).mono ?_; rintro e w6 ⟨rfl, hs⟩; have hs6 := hs.box #[.int .i64 (src : Int), .int .i64 (old : Int), .int .i64 (new : Int), .bool true, .bool false] 54; have q0 := (hs6.blk 0 rfl).cell 0; have q1 := (hs6.blk 0 rfl).cell 1; have q2 := (hs6.blk 0 rfl).cell 2; have q3 := (hs6.blk 0 rfl).cell 3; have q4 := (hs6.blk 0 rfl).cell 4; simp only [List.getElem?_toArray, List.getElem?_cons_zero, List.getElem?_cons_succ] at q0 q1 q2 q3 q4; have HCP := Lib.hid (VPost hs6 3 rfl (src : Int) old new true false hol hnl); clear hs hs6 HCW z0 z1 z2 z3)
                      | (go_at_call 40; refine (VPre _ bb (src : Int) (old : Int)).mono ?_; rintro e w8 ⟨rfl, rfl⟩)
                      | (go_at_call 30; refine (HCP.out).mono ?_; rintro e w7 ⟨rfl, hs⟩; clear q0 q1 q2 q3 q4; obtain ⟨T6, hT6⟩ : ∃ T6, w6.heap.size = T6 := ⟨_, rfl⟩; rw [hT6] at hs; have q1 := (hs.blk 0 rfl).cell 1; have q2 := (hs.blk 0 rfl).cell 2; have q3 := (hs.blk 0 rfl).cell 3; simp only [List.getElem?_toArray, List.getElem?_cons_zero, List.getElem?_cons_succ] at q1 q2 q3; have hlk := map_get refIntOk hs 2 rfl (wfx (x := new) (by omega)); rw [HMC.out new, HN.out] at hlk; have HL1 := Lib.hid hlk; clear hlk; obtain ⟨wp1, hput, hs8⟩ := map_put refIntOk hs 2 rfl (by unfold maxLen; omega) (wfx (x := new) (by omega)) (c := 3) (by simp only [Lit.wf, Bool.and_eq_true, decide_eq_true_eq]; rw [show IntKind.i64.min = -9223372036854775808 from by decide, show IntKind.i64.max = 9223372036854775807 from by decide]; omega); obtain ⟨cn2, hcnx⟩ : ∃ cz_, (if (M (new : Int)).isSome = true then cn else cn + 1) = cz_ := ⟨_, rfl⟩; have hcn2 : cn2 ≤ cn + 1 := (by rw [← hcnx]; split <;> omega); rw [hcnx] at hs8; have HP1 := Lib.hid hput; clear hput hcnx; have p1 := (hs8.blk 0 rfl).cell 1; have p3 := (hs8.blk 0 rfl).cell 3; simp only [List.getElem?_toArray, List.getElem?_cons_zero, List.getElem?_cons_succ] at p1 p3; have HMC1 := Lib.hid (HMC.out.up HNZ.out (v := 3) (by rw [HN.out]; omega)); have hlk2 := map_get refIntOk hs8 2 rfl (wfx (x := old) (by omega)); rw [HMC1.out old, HO.out] at hlk2; have HL2 := Lib.hid hlk2; have HL3 := Lib.hid hlk2; clear hlk2; obtain ⟨wp2, hput, hs9⟩ := map_put refIntOk hs8 2 rfl (by unfold maxLen; omega) (wfx (x := old) (by omega)) (c := 0) (by simp only [Lit.wf, Bool.and_eq_true, decide_eq_true_eq]; rw [show IntKind.i64.min = -9223372036854775808 from by decide, show IntKind.i64.max = 9223372036854775807 from by decide]; omega); obtain ⟨cn3, hcnx⟩ : ∃ cz_, (if ((updM M (new : Int) (some (3))) (old : Int)).isSome = true then cn2 else cn2 + 1) = cz_ := ⟨_, rfl⟩; have hcn3 : cn3 ≤ cn2 + 1 := (by rw [← hcnx]; split <;> omega); rw [hcnx] at hs9; have HP2 := Lib.hid hput; clear hput hcnx; have HSI := Lib.hid (show Sep w wp2 (blkR T6 54 #[.int .i64 (src : Int), .int .i64 (old : Int), .int .i64 (new : Int), .bool true, .bool false] :: blkR T5 52 #[.int .u8 d0, .int .u8 d1, .int .u8 d2, .int .u8 d3] :: mapR Try.prog 51 35 3 .i64 .i64 mi (cn3) (updM (updM M (new : Int) (some (3))) (old : Int) (some (0))) :: vybR bb m 2049 (V.post true old new) :: markR m a 2049 (Col.white) :: arenaR a A :: rowR 35 1 (.slice (some ⟨g, 0, none⟩) Rn capl) Rn (nums rs) :: adjR Try.prog 35 35 b (ptsOf fs) :: blkR T 25 #[.slice A0 n0 c0, .slice A1 n1 c1] :: []) from hs9); clear hs9; clear hs HCP hs8)
                      | (at_lookup; refine wpList_lookup_run rfl _ _ _ _ rfl rfl rfl HL1.out ?_; clear HL1)
                      | (at_mapUpdate; refine wpList_mapUpdate_run rfl _ _ _ _ rfl rfl rfl rfl HP1.out ?_; clear HP1)
                      | (at_lookup; refine wpList_lookup_run rfl _ _ _ _ rfl rfl rfl HL2.out ?_; clear HL2)
                      | (at_lookup; refine wpList_lookup_run rfl _ _ _ _ rfl rfl rfl HL3.out ?_; clear HL3)
                      | (at_mapUpdate; refine wpList_mapUpdate_run rfl _ _ _ _ rfl rfl rfl rfl HP2.out ?_; clear HP2))
                    have HMC2 := Lib.hid (show McI (updM (updM M (new : Int) (some (3))) (old : Int) (some (0))) (V.post true old new) from by unfold Vy.post; rw [if_pos rfl]; exact HMC1.out.down (by rw [HO.out]; exact HOC.out) (by rw [HO.out]; rfl))
                    have HOV2 := Lib.hid (show OvI rq (lg + 1) (V.post true old new) from by unfold Vy.post; rw [if_pos rfl]; exact (HOV.out.up HNZ.out).down old)
                    try simp only [hT6]
                    clear hT6 HMC1 q1 q2 q3 p1 p3
                    go_loopw [111] (fun i wr => ∃ (q : Nat), q ≤ Rn ∧ i = .int .i64 q ∧ Sep w wr (blkR T6 54 #[.int .i64 (src : Int), .int .i64 (old : Int), .int .i64 (new : Int), .bool true, .bool false] :: blkR T5 52 #[.int .u8 d0, .int .u8 d1, .int .u8 d2, .int .u8 d3] :: mapR Try.prog 51 35 3 .i64 .i64 mi (cn3) (updM (updM M (new : Int) (some (3))) (old : Int) (some (0))) :: vybR bb m 2049 (V.post true old new) :: markR m a 2049 (Col.white) :: arenaR a A :: rowR 35 1 (.slice (some ⟨g, 0, none⟩) Rn capl) Rn (nums rs) :: adjR Try.prog 35 35 b (ptsOf fs) :: blkR T 25 #[.slice A0 n0 c0, .slice A1 n1 c1] :: [])) (fun i _ => Rn + 1 - (intOf i).toNat)
                    case atStart => exact ⟨0, by omega, rfl, HSI.out⟩
                    case round =>
                      clear HSI
                      obtain ⟨q, hk, rfl, hs⟩ := hrel
                      by_cases hltq : q < Rn
                      · have hltJ : (q : Int) < (Rn : Int) := by omega
                        obtain ⟨xr, hx⟩ : ∃ z_, rs[q]? = some z_ := ⟨_, List.getElem?_eq_getElem (by rw [HRN.out]; exact hltq)⟩
                        have cx := hs.rowCell 6 rfl q _ (nums_get _ _ _ hx)
                        have hx2 := HGR.out.lt (List.mem_of_getElem? hx)
                        have HSB := Lib.hid hs
                        have hvc := fun W (S : Sep w W (blkR T6 54 #[.int .i64 (src : Int), .int .i64 (old : Int), .int .i64 (new : Int), .bool true, .bool false] :: blkR T5 52 #[.int .u8 d0, .int .u8 d1, .int .u8 d2, .int .u8 d3] :: mapR Try.prog 51 35 3 .i64 .i64 mi (cn3) (updM (updM M (new : Int) (some (3))) (old : Int) (some (0))) :: vybR bb m 2049 (V.post true old new) :: markR m a 2049 (Col.white) :: arenaR a A :: rowR 35 1 (.slice (some ⟨g, 0, none⟩) Rn capl) Rn (nums rs) :: adjR Try.prog 35 35 b (ptsOf fs) :: blkR T 25 #[.slice A0 n0 c0, .slice A1 n1 c1] :: [])) => VCount S 3 rfl xr hx2.2
                        have hvx := HMC2.out xr
                        obtain ⟨cx_, hcx⟩ : ∃ c, (V.post true old new).cnt xr = c := ⟨_, rfl⟩
                        rw [hcx] at hvc hvx
                        have HVC := Lib.hid (show ∀ W, Sep w W (blkR T6 54 #[.int .i64 (src : Int), .int .i64 (old : Int), .int .i64 (new : Int), .bool true, .bool false] :: blkR T5 52 #[.int .u8 d0, .int .u8 d1, .int .u8 d2, .int .u8 d3] :: mapR Try.prog 51 35 3 .i64 .i64 mi (cn3) (updM (updM M (new : Int) (some (3))) (old : Int) (some (0))) :: vybR bb m 2049 (V.post true old new) :: markR m a 2049 (Col.white) :: arenaR a A :: rowR 35 1 (.slice (some ⟨g, 0, none⟩) Rn capl) Rn (nums rs) :: adjR Try.prog 35 35 b (ptsOf fs) :: blkR T 25 #[.slice A0 n0 c0, .slice A1 n1 c1] :: []) → _ from hvc)
                        have HVX := Lib.hid hvx
                        clear hs hx hvc hvx hcx
                        go_wp2
                        refine region_sep HSB.out (by kernel_rfl) (by kernel_rfl) ?_
                        intro hne0
                        have ylk : ∀ x : SepW w (blkR T6 54 #[.int .i64 (src : Int), .int .i64 (old : Int), .int .i64 (new : Int), .bool true, .bool false] :: blkR T5 52 #[.int .u8 d0, .int .u8 d1, .int .u8 d2, .int .u8 d3] :: mapR Try.prog 51 35 3 .i64 .i64 mi (cn3) (updM (updM M (new : Int) (some (3))) (old : Int) (some (0))) :: vybR bb m 2049 (V.post true old new) :: markR m a 2049 (Col.white) :: arenaR a A :: rowR 35 1 (.slice (some ⟨g, 0, none⟩) Rn capl) Rn (nums rs) :: adjR Try.prog 35 35 b (ptsOf fs) :: blkR T 25 #[.slice A0 n0 c0, .slice A1 n1 c1] :: []), (Instr.lookup 51 (.map (some mi)) (.int .i64 (xr : Int)) false).run Try.prog x.w' = .ok (.int .i64 (cx_ : Int)) x.w' := fun x => by
                          have := map_get refIntOk x.h 2 rfl (wfx (x := xr) (by omega))
                          rw [HVX.out] at this
                          simpa using this
                        repeat (go_big_quiet_step (first
                          | (go_at_call 33; exact same_calls (HVC.out _ (SepW.h _)))))
                        refine wpQuiet_nil ?_
                        rintro wq ⟨⟨wqx, hs⟩, rfl⟩
                        clear ylk hne0
                        go_wp2
                        go_roundw
                        case rel => exact ⟨q + 1, by omega, by go_num, hs⟩
                        case measure => simp [intOf]; omega
                      · obtain rfl : Rn = q := by omega
                        have HVO := Lib.hid (VOver hs 3 rfl)
                        have HKC := Lib.hid (KCount hs 4 rfl)
                        clear hs
                        by_cases hrl : rq < lg + 1
                        · have hrlI : (rq : Int) < ((lg + 1 : Nat) : Int) := by omega
                          have HOB := Lib.hid (show (V.post true old new).over = true from by rw [HOV2.out.over]; exact decide_eq_true hrl)
                          clear hrl
                          try push_cast at hrlI
                          go_wp2_with (first
                            | (go_at_call 34; refine (HVO.out).mono ?_; rw [HOB.out]; rintro e w13 ⟨rfl, rfl⟩; clear HVO)
                            | (go_at_call 41; refine (HKC.out).mono ?_; rw [elems_white]; rintro e w14 ⟨rfl, hs⟩; have HSX := Lib.hid hs.tail.tail; clear hs HKC))
                          go_roundw
                          case rel => exact ⟨k + 1, cn3, lg + 1, updM (updM M (new : Int) (some (3))) (old : Int) (some (0)), V.post true old new, by omega, by omega, by first | rfl | go_num, by go_num, by omega, HMC2.out, HOV2.out, HSX.out⟩
                          case measure => simp [intOf]; omega
                        · have hrlI : ¬ (rq : Int) < ((lg + 1 : Nat) : Int) := by omega
                          have HOB := Lib.hid (show (V.post true old new).over = false from by rw [HOV2.out.over]; exact decide_eq_false hrl)
                          clear hrl
                          try push_cast at hrlI
                          go_wp2_with (first
                            | (go_at_call 34; refine (HVO.out).mono ?_; rw [HOB.out]; rintro e w13 ⟨rfl, rfl⟩; clear HVO)
                            | (go_at_call 41; refine (HKC.out).mono ?_; rw [elems_white]; rintro e w14 ⟨rfl, hs⟩; have HSX := Lib.hid hs.tail.tail; clear hs HKC))
                          go_roundw
                          case rel => exact ⟨k + 1, cn3, lg + 1, updM (updM M (new : Int) (some (3))) (old : Int) (some (0)), V.post true old new, by omega, by omega, by first | rfl | go_num, by go_num, by omega, HMC2.out, HOV2.out, HSX.out⟩
                          case measure => simp [intOf]; omega
                  · go_wp2_with (first
                      | (go_at_call 29; refine (HCW.out).mono ?_; rintro e w6 ⟨rfl, hs⟩; have hs6 := hs.box #[.int .i64 (src : Int), .int .i64 (old : Int), .int .i64 (new : Int), .bool true, .bool false] 54; have q0 := (hs6.blk 0 rfl).cell 0; have q1 := (hs6.blk 0 rfl).cell 1; have q2 := (hs6.blk 0 rfl).cell 2; have q3 := (hs6.blk 0 rfl).cell 3; have q4 := (hs6.blk 0 rfl).cell 4; simp only [List.getElem?_toArray, List.getElem?_cons_zero, List.getElem?_cons_succ] at q0 q1 q2 q3 q4; have HCP := Lib.hid (VPost hs6 3 rfl (src : Int) old new true false hol hnl); clear hs hs6 HCW z0 z1 z2 z3)
                      | (go_at_call 40; refine (VPre _ bb (src : Int) (old : Int)).mono ?_; rintro e w8 ⟨rfl, rfl⟩)
                      | (go_at_call 30; refine (HCP.out).mono ?_; rintro e w7 ⟨rfl, hs⟩; clear q0 q1 q2 q3 q4; obtain ⟨T6, hT6⟩ : ∃ T6, w6.heap.size = T6 := ⟨_, rfl⟩; rw [hT6] at hs; have q1 := (hs.blk 0 rfl).cell 1; have q2 := (hs.blk 0 rfl).cell 2; have q3 := (hs.blk 0 rfl).cell 3; simp only [List.getElem?_toArray, List.getElem?_cons_zero, List.getElem?_cons_succ] at q1 q2 q3; have hlk := map_get refIntOk hs 2 rfl (wfx (x := new) (by omega)); rw [HMC.out new, HN.out] at hlk; have HL1 := Lib.hid hlk; clear hlk; obtain ⟨wp1, hput, hs8⟩ := map_put refIntOk hs 2 rfl (by unfold maxLen; omega) (wfx (x := new) (by omega)) (c := 3) (by simp only [Lit.wf, Bool.and_eq_true, decide_eq_true_eq]; rw [show IntKind.i64.min = -9223372036854775808 from by decide, show IntKind.i64.max = 9223372036854775807 from by decide]; omega); obtain ⟨cn2, hcnx⟩ : ∃ cz_, (if (M (new : Int)).isSome = true then cn else cn + 1) = cz_ := ⟨_, rfl⟩; have hcn2 : cn2 ≤ cn + 1 := (by rw [← hcnx]; split <;> omega); rw [hcnx] at hs8; have HP1 := Lib.hid hput; clear hput hcnx; have p1 := (hs8.blk 0 rfl).cell 1; have p3 := (hs8.blk 0 rfl).cell 3; simp only [List.getElem?_toArray, List.getElem?_cons_zero, List.getElem?_cons_succ] at p1 p3; have HMC1 := Lib.hid (HMC.out.up HNZ.out (v := 3) (by rw [HN.out]; omega)); have hlk2 := map_get refIntOk hs8 2 rfl (wfx (x := old) (by omega)); rw [HMC1.out old, HO.out] at hlk2; have HL2 := Lib.hid hlk2; have HL3 := Lib.hid hlk2; clear hlk2; obtain ⟨wp2, hput, hs9⟩ := map_put refIntOk hs8 2 rfl (by unfold maxLen; omega) (wfx (x := old) (by omega)) (c := 1) (by simp only [Lit.wf, Bool.and_eq_true, decide_eq_true_eq]; rw [show IntKind.i64.min = -9223372036854775808 from by decide, show IntKind.i64.max = 9223372036854775807 from by decide]; omega); obtain ⟨cn3, hcnx⟩ : ∃ cz_, (if ((updM M (new : Int) (some (3))) (old : Int)).isSome = true then cn2 else cn2 + 1) = cz_ := ⟨_, rfl⟩; have hcn3 : cn3 ≤ cn2 + 1 := (by rw [← hcnx]; split <;> omega); rw [hcnx] at hs9; have HP2 := Lib.hid hput; clear hput hcnx; have HSI := Lib.hid (show Sep w wp2 (blkR T6 54 #[.int .i64 (src : Int), .int .i64 (old : Int), .int .i64 (new : Int), .bool true, .bool false] :: blkR T5 52 #[.int .u8 d0, .int .u8 d1, .int .u8 d2, .int .u8 d3] :: mapR Try.prog 51 35 3 .i64 .i64 mi (cn3) (updM (updM M (new : Int) (some (3))) (old : Int) (some (1))) :: vybR bb m 2049 (V.post true old new) :: markR m a 2049 (Col.white) :: arenaR a A :: rowR 35 1 (.slice (some ⟨g, 0, none⟩) Rn capl) Rn (nums rs) :: adjR Try.prog 35 35 b (ptsOf fs) :: blkR T 25 #[.slice A0 n0 c0, .slice A1 n1 c1] :: []) from hs9); clear hs9; clear hs HCP hs8)
                      | (at_lookup; refine wpList_lookup_run rfl _ _ _ _ rfl rfl rfl HL1.out ?_; clear HL1)
                      | (at_mapUpdate; refine wpList_mapUpdate_run rfl _ _ _ _ rfl rfl rfl rfl HP1.out ?_; clear HP1)
                      | (at_lookup; refine wpList_lookup_run rfl _ _ _ _ rfl rfl rfl HL2.out ?_; clear HL2)
                      | (at_lookup; refine wpList_lookup_run rfl _ _ _ _ rfl rfl rfl HL3.out ?_; clear HL3)
                      | (at_mapUpdate; refine wpList_mapUpdate_run rfl _ _ _ _ rfl rfl rfl rfl HP2.out ?_; clear HP2))
                    have HMC2 := Lib.hid (show McI (updM (updM M (new : Int) (some (3))) (old : Int) (some (1))) (V.post true old new) from by unfold Vy.post; rw [if_pos rfl]; exact HMC1.out.down (by rw [HO.out]; exact HOC.out) (by rw [HO.out]; rfl))
                    have HOV2 := Lib.hid (show OvI rq (lg + 1) (V.post true old new) from by unfold Vy.post; rw [if_pos rfl]; exact (HOV.out.up HNZ.out).down old)
                    try simp only [hT6]
                    clear hT6 HMC1 q1 q2 q3 p1 p3
                    go_loopw [111] (fun i wr => ∃ (q : Nat), q ≤ Rn ∧ i = .int .i64 q ∧ Sep w wr (blkR T6 54 #[.int .i64 (src : Int), .int .i64 (old : Int), .int .i64 (new : Int), .bool true, .bool false] :: blkR T5 52 #[.int .u8 d0, .int .u8 d1, .int .u8 d2, .int .u8 d3] :: mapR Try.prog 51 35 3 .i64 .i64 mi (cn3) (updM (updM M (new : Int) (some (3))) (old : Int) (some (1))) :: vybR bb m 2049 (V.post true old new) :: markR m a 2049 (Col.white) :: arenaR a A :: rowR 35 1 (.slice (some ⟨g, 0, none⟩) Rn capl) Rn (nums rs) :: adjR Try.prog 35 35 b (ptsOf fs) :: blkR T 25 #[.slice A0 n0 c0, .slice A1 n1 c1] :: [])) (fun i _ => Rn + 1 - (intOf i).toNat)
                    case atStart => exact ⟨0, by omega, rfl, HSI.out⟩
                    case round =>
                      clear HSI
                      obtain ⟨q, hk, rfl, hs⟩ := hrel
                      by_cases hltq : q < Rn
                      · have hltJ : (q : Int) < (Rn : Int) := by omega
                        obtain ⟨xr, hx⟩ : ∃ z_, rs[q]? = some z_ := ⟨_, List.getElem?_eq_getElem (by rw [HRN.out]; exact hltq)⟩
                        have cx := hs.rowCell 6 rfl q _ (nums_get _ _ _ hx)
                        have hx2 := HGR.out.lt (List.mem_of_getElem? hx)
                        have HSB := Lib.hid hs
                        have hvc := fun W (S : Sep w W (blkR T6 54 #[.int .i64 (src : Int), .int .i64 (old : Int), .int .i64 (new : Int), .bool true, .bool false] :: blkR T5 52 #[.int .u8 d0, .int .u8 d1, .int .u8 d2, .int .u8 d3] :: mapR Try.prog 51 35 3 .i64 .i64 mi (cn3) (updM (updM M (new : Int) (some (3))) (old : Int) (some (1))) :: vybR bb m 2049 (V.post true old new) :: markR m a 2049 (Col.white) :: arenaR a A :: rowR 35 1 (.slice (some ⟨g, 0, none⟩) Rn capl) Rn (nums rs) :: adjR Try.prog 35 35 b (ptsOf fs) :: blkR T 25 #[.slice A0 n0 c0, .slice A1 n1 c1] :: [])) => VCount S 3 rfl xr hx2.2
                        have hvx := HMC2.out xr
                        obtain ⟨cx_, hcx⟩ : ∃ c, (V.post true old new).cnt xr = c := ⟨_, rfl⟩
                        rw [hcx] at hvc hvx
                        have HVC := Lib.hid (show ∀ W, Sep w W (blkR T6 54 #[.int .i64 (src : Int), .int .i64 (old : Int), .int .i64 (new : Int), .bool true, .bool false] :: blkR T5 52 #[.int .u8 d0, .int .u8 d1, .int .u8 d2, .int .u8 d3] :: mapR Try.prog 51 35 3 .i64 .i64 mi (cn3) (updM (updM M (new : Int) (some (3))) (old : Int) (some (1))) :: vybR bb m 2049 (V.post true old new) :: markR m a 2049 (Col.white) :: arenaR a A :: rowR 35 1 (.slice (some ⟨g, 0, none⟩) Rn capl) Rn (nums rs) :: adjR Try.prog 35 35 b (ptsOf fs) :: blkR T 25 #[.slice A0 n0 c0, .slice A1 n1 c1] :: []) → _ from hvc)
                        have HVX := Lib.hid hvx
                        clear hs hx hvc hvx hcx
                        go_wp2
                        refine region_sep HSB.out (by kernel_rfl) (by kernel_rfl) ?_
                        intro hne0
                        have ylk : ∀ x : SepW w (blkR T6 54 #[.int .i64 (src : Int), .int .i64 (old : Int), .int .i64 (new : Int), .bool true, .bool false] :: blkR T5 52 #[.int .u8 d0, .int .u8 d1, .int .u8 d2, .int .u8 d3] :: mapR Try.prog 51 35 3 .i64 .i64 mi (cn3) (updM (updM M (new : Int) (some (3))) (old : Int) (some (1))) :: vybR bb m 2049 (V.post true old new) :: markR m a 2049 (Col.white) :: arenaR a A :: rowR 35 1 (.slice (some ⟨g, 0, none⟩) Rn capl) Rn (nums rs) :: adjR Try.prog 35 35 b (ptsOf fs) :: blkR T 25 #[.slice A0 n0 c0, .slice A1 n1 c1] :: []), (Instr.lookup 51 (.map (some mi)) (.int .i64 (xr : Int)) false).run Try.prog x.w' = .ok (.int .i64 (cx_ : Int)) x.w' := fun x => by
                          have := map_get refIntOk x.h 2 rfl (wfx (x := xr) (by omega))
                          rw [HVX.out] at this
                          simpa using this
                        repeat (go_big_quiet_step (first
                          | (go_at_call 33; exact same_calls (HVC.out _ (SepW.h _)))))
                        refine wpQuiet_nil ?_
                        rintro wq ⟨⟨wqx, hs⟩, rfl⟩
                        clear ylk hne0
                        go_wp2
                        go_roundw
                        case rel => exact ⟨q + 1, by omega, by go_num, hs⟩
                        case measure => simp [intOf]; omega
                      · obtain rfl : Rn = q := by omega
                        have HVO := Lib.hid (VOver hs 3 rfl)
                        have HKC := Lib.hid (KCount hs 4 rfl)
                        clear hs
                        by_cases hrl : rq < lg + 1
                        · have hrlI : (rq : Int) < ((lg + 1 : Nat) : Int) := by omega
                          have HOB := Lib.hid (show (V.post true old new).over = true from by rw [HOV2.out.over]; exact decide_eq_true hrl)
                          clear hrl
                          try push_cast at hrlI
                          go_wp2_with (first
                            | (go_at_call 34; refine (HVO.out).mono ?_; rw [HOB.out]; rintro e w13 ⟨rfl, rfl⟩; clear HVO)
                            | (go_at_call 41; refine (HKC.out).mono ?_; rw [elems_white]; rintro e w14 ⟨rfl, hs⟩; have HSX := Lib.hid hs.tail.tail; clear hs HKC))
                          go_roundw
                          case rel => exact ⟨k + 1, cn3, lg + 1, updM (updM M (new : Int) (some (3))) (old : Int) (some (1)), V.post true old new, by omega, by omega, by first | rfl | go_num, by go_num, by omega, HMC2.out, HOV2.out, HSX.out⟩
                          case measure => simp [intOf]; omega
                        · have hrlI : ¬ (rq : Int) < ((lg + 1 : Nat) : Int) := by omega
                          have HOB := Lib.hid (show (V.post true old new).over = false from by rw [HOV2.out.over]; exact decide_eq_false hrl)
                          clear hrl
                          try push_cast at hrlI
                          go_wp2_with (first
                            | (go_at_call 34; refine (HVO.out).mono ?_; rw [HOB.out]; rintro e w13 ⟨rfl, rfl⟩; clear HVO)
                            | (go_at_call 41; refine (HKC.out).mono ?_; rw [elems_white]; rintro e w14 ⟨rfl, hs⟩; have HSX := Lib.hid hs.tail.tail; clear hs HKC))
                          go_roundw
                          case rel => exact ⟨k + 1, cn3, lg + 1, updM (updM M (new : Int) (some (3))) (old : Int) (some (1)), V.post true old new, by omega, by omega, by first | rfl | go_num, by go_num, by omega, HMC2.out, HOV2.out, HSX.out⟩
                          case measure => simp [intOf]; omega
                · have HOC := Lib.hid (show ¬ (old ≠ 0 ∧ 0 < (V.up new).cnt old ∧ (V.up new).cnt old < 3) from fun h => hd (by rw [← HO.out]; exact h.2))
                  have hc1 : ¬ (co : Int) = 1 := by omega
                  have hc2 : ¬ (co : Int) = 2 := by omega
                  have hc1b : ((co : Int) == 1) = false := by simp; omega
                  have hc2b : ((co : Int) == 2) = false := by simp; omega
                  clear hd ho0
                  go_wp2_with (first
                    | (go_at_call 29; refine (HCW.out).mono ?_; rintro e w6 ⟨rfl, hs⟩; have hs6 := hs.box #[.int .i64 (src : Int), .int .i64 (old : Int), .int .i64 (new : Int), .bool true, .bool false] 54; have q0 := (hs6.blk 0 rfl).cell 0; have q1 := (hs6.blk 0 rfl).cell 1; have q2 := (hs6.blk 0 rfl).cell 2; have q3 := (hs6.blk 0 rfl).cell 3; have q4 := (hs6.blk 0 rfl).cell 4; simp only [List.getElem?_toArray, List.getElem?_cons_zero, List.getElem?_cons_succ] at q0 q1 q2 q3 q4; have HCP := Lib.hid (VPost hs6 3 rfl (src : Int) old new true false hol hnl); clear hs hs6 HCW z0 z1 z2 z3)
                    | (go_at_call 40; refine (VPre _ bb (src : Int) (old : Int)).mono ?_; rintro e w8 ⟨rfl, rfl⟩)
                    | (go_at_call 30; refine (HCP.out).mono ?_; rintro e w7 ⟨rfl, hs⟩; clear q0 q1 q2 q3 q4; obtain ⟨T6, hT6⟩ : ∃ T6, w6.heap.size = T6 := ⟨_, rfl⟩; rw [hT6] at hs; have q1 := (hs.blk 0 rfl).cell 1; have q2 := (hs.blk 0 rfl).cell 2; have q3 := (hs.blk 0 rfl).cell 3; simp only [List.getElem?_toArray, List.getElem?_cons_zero, List.getElem?_cons_succ] at q1 q2 q3; have hlk := map_get refIntOk hs 2 rfl (wfx (x := new) (by omega)); rw [HMC.out new, HN.out] at hlk; have HL1 := Lib.hid hlk; clear hlk; obtain ⟨wp1, hput, hs8⟩ := map_put refIntOk hs 2 rfl (by unfold maxLen; omega) (wfx (x := new) (by omega)) (c := 3) (by simp only [Lit.wf, Bool.and_eq_true, decide_eq_true_eq]; rw [show IntKind.i64.min = -9223372036854775808 from by decide, show IntKind.i64.max = 9223372036854775807 from by decide]; omega); obtain ⟨cn2, hcnx⟩ : ∃ cz_, (if (M (new : Int)).isSome = true then cn else cn + 1) = cz_ := ⟨_, rfl⟩; have hcn2 : cn2 ≤ cn + 1 := (by rw [← hcnx]; split <;> omega); rw [hcnx] at hs8; have HP1 := Lib.hid hput; clear hput hcnx; have p1 := (hs8.blk 0 rfl).cell 1; have p3 := (hs8.blk 0 rfl).cell 3; simp only [List.getElem?_toArray, List.getElem?_cons_zero, List.getElem?_cons_succ] at p1 p3; have HMC1 := Lib.hid (HMC.out.up HNZ.out (v := 3) (by rw [HN.out]; omega)); have hlk2 := map_get refIntOk hs8 2 rfl (wfx (x := old) (by omega)); rw [HMC1.out old, HO.out] at hlk2; have HL2 := Lib.hid hlk2; have HL3 := Lib.hid hlk2; clear hlk2; have HSI := Lib.hid (show Sep w _ (blkR T6 54 #[.int .i64 (src : Int), .int .i64 (old : Int), .int .i64 (new : Int), .bool true, .bool false] :: blkR T5 52 #[.int .u8 d0, .int .u8 d1, .int .u8 d2, .int .u8 d3] :: mapR Try.prog 51 35 3 .i64 .i64 mi (cn2) (updM M (new : Int) (some (3))) :: vybR bb m 2049 (V.post true old new) :: markR m a 2049 (Col.white) :: arenaR a A :: rowR 35 1 (.slice (some ⟨g, 0, none⟩) Rn capl) Rn (nums rs) :: adjR Try.prog 35 35 b (ptsOf fs) :: blkR T 25 #[.slice A0 n0 c0, .slice A1 n1 c1] :: []) from hs8); clear hs HCP hs8)
                    | (at_lookup; refine wpList_lookup_run rfl _ _ _ _ rfl rfl rfl HL1.out ?_; clear HL1)
                    | (at_mapUpdate; refine wpList_mapUpdate_run rfl _ _ _ _ rfl rfl rfl rfl HP1.out ?_; clear HP1)
                    | (at_lookup; refine wpList_lookup_run rfl _ _ _ _ rfl rfl rfl HL2.out ?_; clear HL2))
                  have HMC2 := Lib.hid (show McI (updM M (new : Int) (some (3))) (V.post true old new) from by unfold Vy.post; rw [if_pos rfl, down_not (fun h => HOC.out h)]; exact HMC1.out)
                  have HOV2 := Lib.hid (show OvI rq (lg + 1) (V.post true old new) from by unfold Vy.post; rw [if_pos rfl]; exact (HOV.out.up HNZ.out).down old)
                  try simp only [hT6]
                  clear hT6 HMC1 q1 q2 q3 p1 p3
                  go_loopw [111] (fun i wr => ∃ (q : Nat), q ≤ Rn ∧ i = .int .i64 q ∧ Sep w wr (blkR T6 54 #[.int .i64 (src : Int), .int .i64 (old : Int), .int .i64 (new : Int), .bool true, .bool false] :: blkR T5 52 #[.int .u8 d0, .int .u8 d1, .int .u8 d2, .int .u8 d3] :: mapR Try.prog 51 35 3 .i64 .i64 mi (cn2) (updM M (new : Int) (some (3))) :: vybR bb m 2049 (V.post true old new) :: markR m a 2049 (Col.white) :: arenaR a A :: rowR 35 1 (.slice (some ⟨g, 0, none⟩) Rn capl) Rn (nums rs) :: adjR Try.prog 35 35 b (ptsOf fs) :: blkR T 25 #[.slice A0 n0 c0, .slice A1 n1 c1] :: [])) (fun i _ => Rn + 1 - (intOf i).toNat)
                  case atStart => exact ⟨0, by omega, rfl, HSI.out⟩
                  case round =>
                    clear HSI
                    obtain ⟨q, hk, rfl, hs⟩ := hrel
                    by_cases hltq : q < Rn
                    · have hltJ : (q : Int) < (Rn : Int) := by omega
                      obtain ⟨xr, hx⟩ : ∃ z_, rs[q]? = some z_ := ⟨_, List.getElem?_eq_getElem (by rw [HRN.out]; exact hltq)⟩
                      have cx := hs.rowCell 6 rfl q _ (nums_get _ _ _ hx)
                      have hx2 := HGR.out.lt (List.mem_of_getElem? hx)
                      have HSB := Lib.hid hs
                      have hvc := fun W (S : Sep w W (blkR T6 54 #[.int .i64 (src : Int), .int .i64 (old : Int), .int .i64 (new : Int), .bool true, .bool false] :: blkR T5 52 #[.int .u8 d0, .int .u8 d1, .int .u8 d2, .int .u8 d3] :: mapR Try.prog 51 35 3 .i64 .i64 mi (cn2) (updM M (new : Int) (some (3))) :: vybR bb m 2049 (V.post true old new) :: markR m a 2049 (Col.white) :: arenaR a A :: rowR 35 1 (.slice (some ⟨g, 0, none⟩) Rn capl) Rn (nums rs) :: adjR Try.prog 35 35 b (ptsOf fs) :: blkR T 25 #[.slice A0 n0 c0, .slice A1 n1 c1] :: [])) => VCount S 3 rfl xr hx2.2
                      have hvx := HMC2.out xr
                      obtain ⟨cx_, hcx⟩ : ∃ c, (V.post true old new).cnt xr = c := ⟨_, rfl⟩
                      rw [hcx] at hvc hvx
                      have HVC := Lib.hid (show ∀ W, Sep w W (blkR T6 54 #[.int .i64 (src : Int), .int .i64 (old : Int), .int .i64 (new : Int), .bool true, .bool false] :: blkR T5 52 #[.int .u8 d0, .int .u8 d1, .int .u8 d2, .int .u8 d3] :: mapR Try.prog 51 35 3 .i64 .i64 mi (cn2) (updM M (new : Int) (some (3))) :: vybR bb m 2049 (V.post true old new) :: markR m a 2049 (Col.white) :: arenaR a A :: rowR 35 1 (.slice (some ⟨g, 0, none⟩) Rn capl) Rn (nums rs) :: adjR Try.prog 35 35 b (ptsOf fs) :: blkR T 25 #[.slice A0 n0 c0, .slice A1 n1 c1] :: []) → _ from hvc)
                      have HVX := Lib.hid hvx
                      clear hs hx hvc hvx hcx
                      go_wp2
                      refine region_sep HSB.out (by kernel_rfl) (by kernel_rfl) ?_
                      intro hne0
                      have ylk : ∀ x : SepW w (blkR T6 54 #[.int .i64 (src : Int), .int .i64 (old : Int), .int .i64 (new : Int), .bool true, .bool false] :: blkR T5 52 #[.int .u8 d0, .int .u8 d1, .int .u8 d2, .int .u8 d3] :: mapR Try.prog 51 35 3 .i64 .i64 mi (cn2) (updM M (new : Int) (some (3))) :: vybR bb m 2049 (V.post true old new) :: markR m a 2049 (Col.white) :: arenaR a A :: rowR 35 1 (.slice (some ⟨g, 0, none⟩) Rn capl) Rn (nums rs) :: adjR Try.prog 35 35 b (ptsOf fs) :: blkR T 25 #[.slice A0 n0 c0, .slice A1 n1 c1] :: []), (Instr.lookup 51 (.map (some mi)) (.int .i64 (xr : Int)) false).run Try.prog x.w' = .ok (.int .i64 (cx_ : Int)) x.w' := fun x => by
                        have := map_get refIntOk x.h 2 rfl (wfx (x := xr) (by omega))
                        rw [HVX.out] at this
                        simpa using this
                      repeat (go_big_quiet_step (first
                        | (go_at_call 33; exact same_calls (HVC.out _ (SepW.h _)))))
                      refine wpQuiet_nil ?_
                      rintro wq ⟨⟨wqx, hs⟩, rfl⟩
                      clear ylk hne0
                      go_wp2
                      go_roundw
                      case rel => exact ⟨q + 1, by omega, by go_num, hs⟩
                      case measure => simp [intOf]; omega
                    · obtain rfl : Rn = q := by omega
                      have HVO := Lib.hid (VOver hs 3 rfl)
                      have HKC := Lib.hid (KCount hs 4 rfl)
                      clear hs
                      by_cases hrl : rq < lg + 1
                      · have hrlI : (rq : Int) < ((lg + 1 : Nat) : Int) := by omega
                        have HOB := Lib.hid (show (V.post true old new).over = true from by rw [HOV2.out.over]; exact decide_eq_true hrl)
                        clear hrl
                        try push_cast at hrlI
                        go_wp2_with (first
                          | (go_at_call 34; refine (HVO.out).mono ?_; rw [HOB.out]; rintro e w13 ⟨rfl, rfl⟩; clear HVO)
                          | (go_at_call 41; refine (HKC.out).mono ?_; rw [elems_white]; rintro e w14 ⟨rfl, hs⟩; have HSX := Lib.hid hs.tail.tail; clear hs HKC))
                        go_roundw
                        case rel => exact ⟨k + 1, cn2, lg + 1, updM M (new : Int) (some (3)), V.post true old new, by omega, by omega, by first | rfl | go_num, by go_num, by omega, HMC2.out, HOV2.out, HSX.out⟩
                        case measure => simp [intOf]; omega
                      · have hrlI : ¬ (rq : Int) < ((lg + 1 : Nat) : Int) := by omega
                        have HOB := Lib.hid (show (V.post true old new).over = false from by rw [HOV2.out.over]; exact decide_eq_false hrl)
                        clear hrl
                        try push_cast at hrlI
                        go_wp2_with (first
                          | (go_at_call 34; refine (HVO.out).mono ?_; rw [HOB.out]; rintro e w13 ⟨rfl, rfl⟩; clear HVO)
                          | (go_at_call 41; refine (HKC.out).mono ?_; rw [elems_white]; rintro e w14 ⟨rfl, hs⟩; have HSX := Lib.hid hs.tail.tail; clear hs HKC))
                        go_roundw
                        case rel => exact ⟨k + 1, cn2, lg + 1, updM M (new : Int) (some (3)), V.post true old new, by omega, by omega, by first | rfl | go_num, by go_num, by omega, HMC2.out, HOV2.out, HSX.out⟩
                        case measure => simp [intOf]; omega
      · obtain rfl : n2 = k := by omega
        have HCR := Lib.hid (VReset hs 1 rfl (by omega))
        clear hs
        go_wp2_with (go_at_call 42; refine (HCR.out).mono ?_; rintro e w8 ⟨rfl, hs⟩; have HSE := Lib.hid (show Sep w w8 (mapR Try.prog 51 35 3 .i64 .i64 mi (cn) (M) :: vybR bb m 2049 V.reset :: markR m a 2049 (Col.white) :: arenaR a A :: rowR 35 1 (.slice (some ⟨g, 0, none⟩) Rn capl) Rn (nums rs) :: adjR Try.prog 35 35 b (ptsOf fs) :: blkR T 25 #[.slice A0 n0 c0, .slice A1 n1 c1] :: []) from hs); clear hs HCR)
        go_loopw [141] (fun i wr => ∃ (k : Nat), k ≤ Rn ∧ i = .int .i64 k ∧ Sep w wr (mapR Try.prog 51 35 3 .i64 .i64 mi (cn) (M) :: vybR bb m 2049 V.reset :: markR m a 2049 (Col.white) :: arenaR a A :: rowR 35 1 (.slice (some ⟨g, 0, none⟩) Rn capl) Rn (nums rs) :: adjR Try.prog 35 35 b (ptsOf fs) :: blkR T 25 #[.slice A0 n0 c0, .slice A1 n1 c1] :: [])) (fun i _ => Rn + 1 - (intOf i).toNat)
        case atStart => exact ⟨0, by omega, rfl, HSE.out⟩
        case round =>
          clear HSE
          obtain ⟨k, hk, rfl, hs⟩ := hrel
          by_cases hlt : k < Rn
          · have hltI : (k : Int) < (Rn : Int) := by omega
            obtain ⟨x, hx⟩ : ∃ z_, rs[k]? = some z_ := ⟨_, List.getElem?_eq_getElem (by rw [HRN.out]; exact hlt)⟩
            have cx := hs.rowCell 4 rfl k _ (nums_get _ _ _ hx)
            have hx2 := HGR.out.lt (List.mem_of_getElem? hx)
            have HVC := Lib.hid (VCount hs 1 rfl x hx2.2)
            have HSS := Lib.hid hs
            clear hs hx
            go_wp2_with (go_at_call 33; refine (HVC.out).mono ?_; rw [show V.reset.cnt x = 0 from rfl]; rintro e w7 ⟨rfl, rfl⟩; clear HVC)
            go_roundw
            case rel => exact ⟨k + 1, by omega, by go_num, HSS.out⟩
            case measure => simp [intOf]; omega
          · obtain rfl : Rn = k := by omega
            have HVO := Lib.hid (VOver hs 1 rfl)
            have HV0 := Lib.hid (VCount hs 1 rfl 0 (by omega))
            have HV1 := Lib.hid (VCountOut hs 1 rfl (-1) (by omega))
            have HV2 := Lib.hid (VCountOut hs 1 rfl 1099511627776 (by omega))
            have HS9 := Lib.hid hs
            clear hs
            go_wp2_with (first
              | (go_at_call 34; refine (HVO.out).mono ?_; rw [show V.reset.over = false from rfl]; rintro e w9 ⟨rfl, rfl⟩; clear HVO)
              | (go_at_call 33; refine (HV0.out).mono ?_; rw [show V.reset.cnt 0 = 0 from rfl]; rintro e w10 ⟨rfl, rfl⟩; clear HV0)
              | (go_at_call 33; refine (HV1.out).mono ?_; rintro e w11 ⟨rfl, rfl⟩; clear HV1)
              | (go_at_call 33; refine (HV2.out).mono ?_; rintro e w12 ⟨rfl, rfl⟩; clear HV2))
            go_ret
            exact ⟨rfl, HS9.out.below⟩
  · by_cases hsm : n0 ≤ 40 ∧ n1 ≤ 120
    · have HSD := Lib.hid (show (decide (n0 ≤ 40) && decide (n1 ≤ 120)) = true by rw [decide_eq_true hsm.1, decide_eq_true hsm.2]; rfl)
      have hgt : (60 : Int) < (n2 : Int) := by omega
      clear hsm hsmall
      go_wp2_with (first
        | (go_at_call 27; refine (fit15 _).mono ?_; rintro e w1 ⟨rfl, hC⟩; have hs1 := HS0.out.same hC; have p0 := (hs1.blk 0 rfl).cell 0; have p1 := (hs1.blk 0 rfl).cell 1; simp only [List.getElem?_toArray, List.getElem?_cons_zero, List.getElem?_cons_succ] at p0 p1; have HS1 := Lib.hid hs1; clear hC hs1 HS0)
        | (go_at_call 13; refine (Small11 _ A0 n0 c0 A1 n1 c1).mono ?_; rw [HSD.out]; rintro e w2 ⟨rfl, hC⟩; have HS2 := Lib.hid (HS1.out.same hC); clear hC HS1))
      go_ret
      exact ⟨rfl, HS2.out.below⟩
    · have HSD := Lib.hid (show (decide (n0 ≤ 40) && decide (n1 ≤ 120)) = false by
        rw [Bool.and_eq_false_iff]
        by_cases h : n0 ≤ 40
        · exact .inr (decide_eq_false fun h2 => hsm ⟨h, h2⟩)
        · exact .inl (decide_eq_false h))
      clear hsm hsmall
      go_wp2_with (first
        | (go_at_call 27; refine (fit15 _).mono ?_; rintro e w1 ⟨rfl, hC⟩; have hs1 := HS0.out.same hC; have p0 := (hs1.blk 0 rfl).cell 0; have p1 := (hs1.blk 0 rfl).cell 1; simp only [List.getElem?_toArray, List.getElem?_cons_zero, List.getElem?_cons_succ] at p0 p1; have HS1 := Lib.hid hs1; clear hC hs1 HS0)
        | (go_at_call 13; refine (Small11 _ A0 n0 c0 A1 n1 c1).mono ?_; rw [HSD.out]; rintro e w2 ⟨rfl, hC⟩; have HS2 := Lib.hid (HS1.out.same hC); clear hC HS1))
      go_ret
      exact ⟨rfl, HS2.out.below⟩
end Go.Proofs.Ytbcabjpafeocgaa
