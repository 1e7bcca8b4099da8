/-
  Parts of the proof, joined: DijkstraNoneW. Conditions: as each part says.
-/
import Derived.Test.YtacebfocfpbkdaaL5
import Derived.Test.YtacebfocfpbkdaaL1

/-
  The walk of DijkstraNone. Conditions: as the theorem says.
-/
namespace Go.Proofs.Ytacebfocfpbkdaa
set_option linter.unusedVariables false
set_option linter.unusedSimpArgs false
open Go.RowKit Go.Shelf

set_option maxRecDepth 100000 in
set_option maxHeartbeats 16000000 in
theorem dijkstraNone_walk (A0 : Option Addr) (n0 c0 : Nat) (D0 : Nat → Nat → Int) (A1 : Option Addr) (n1 c1 : Nat) (D1 : Nat → Nat → Int) (A2 : Option Addr) (n2 c2 : Nat) (D2 : Nat → Nat → Int) (w : World) (hz0 : ArgI w A0 n0 [.u8] D0) (hm0 : n0 ≤ maxLen) (hz1 : ArgI w A1 n1 [.u16, .u16, .u16] D1) (hm1 : n1 ≤ maxLen) (hz2 : ArgI w A2 n2 [.u8, .u8] D2) (hm2 : n2 ≤ maxLen) :
    Calls Try.prog 6 #[.agg #[.slice A0 n0 c0, .slice A1 n1 c1], .slice A2 n2 c2] w fun e w' => e = .returned (.bool true) ∧ Below w.heap.size w w' := by
  have HZ0 := Lib.hid hz0
  have HZ1 := Lib.hid hz1
  have HZ2 := Lib.hid hz2
  unfold maxLen at hm0 hm1
  try unfold maxLen at hm2
  clear hz0 hz1 hz2
  obtain ⟨T, hT⟩ : ∃ T, w.heap.size = T := ⟨_, rfl⟩
  have hs0 := (Sep.start w).box #[.slice A0 n0 c0, .slice A1 n1 c1] 25
  rw [hT] at hs0
  have HS0 := Lib.hid hs0
  clear hs0
  go_enter Try.func6, Try.ntmps6
  by_cases hsmall : (n0 ≤ 40 ∧ n1 ≤ 120) ∧ n2 ≤ 40
  · have hsd : (decide (n0 ≤ 40) && decide (n1 ≤ 120)) = true := by rw [decide_eq_true hsmall.1.1, decide_eq_true hsmall.1.2]; rfl
    have HSD := Lib.hid hsd
    obtain ⟨⟨hn0, hn1⟩, hn2⟩ := hsmall
    clear hsd
    have hgt : ¬ (40 : Int) < (n2 : Int) := by omega
    go_wp2_with (first
      | (go_at_call 16; refine (fit13 _).mono ?_; rintro e w1 ⟨rfl, hC⟩; have hs1 := HS0.out.same hC; have p0 := (hs1.blk 0 rfl).cell 0; have p1 := (hs1.blk 0 rfl).cell 1; simp only [List.getElem?_toArray, List.getElem?_cons_zero, List.getElem?_cons_succ] at p0 p1; have HS1 := Lib.hid hs1; clear hC hs1 HS0)
      | (go_at_call 17; refine (Small11 _ A0 n0 c0 A1 n1 c1).mono ?_; rw [HSD.out]; rintro e w2 ⟨rfl, hC⟩; have hs1 := HS1.out.same hC; have p0 := (hs1.blk 0 rfl).cell 0; have p1 := (hs1.blk 0 rfl).cell 1; simp only [List.getElem?_toArray, List.getElem?_cons_zero, List.getElem?_cons_succ] at p0 p1; have HS2 := Lib.hid hs1; clear hC hs1 HS1)
      | (go_at_call 18; refine (Made11 A0 n0 c0 D0 A1 n1 c1 D1 HZ0.out HZ1.out hn0 hn1 HS2.out).mono ?_; rintro e w3 ⟨a, b, v, A, rs, fs, rfl, hgr, hlen, hs⟩; have p0 := (hs.blk 3 rfl).cell 0; have p1 := (hs.blk 3 rfl).cell 1; simp only [List.getElem?_toArray, List.getElem?_cons_zero, List.getElem?_cons_succ] at p0 p1; have HGR := Lib.hid hgr; obtain ⟨AL, capl, rfl, hcapl, hmcapl⟩ := hs.rowShape 1 rfl; unfold maxLen at hmcapl; obtain ⟨Rn, hRn⟩ : ∃ Rn, rs.length = Rn := ⟨_, rfl⟩; have HRN := Lib.hid hRn; rw [hRn] at hcapl hs; try rw [hRn]; rw [hRn] at hlen; have hl40 : Rn ≤ 40 := (by omega); have HLEN := Lib.hid hlen; have HS3 := Lib.hid hs; clear hs hgr HS2 hRn hlen)
      | (go_at_call 19; refine (KNew HS3.out 0 rfl HGR.out.size (by omega) 4 (by omega)).mono ?_; rintro e w4 ⟨m, rfl, hs⟩; have HC := Lib.hid (DNew hs m); clear hs HS3)
      | (go_at_call 22; refine (HC.out).mono ?_; rintro e w5 ⟨bb, rfl, hs⟩; have HS5 := Lib.hid (show Sep w w5 (dijR bb m :: markR m a 2049 (Col.white) :: arenaR a A :: rowR 36 1 (.slice AL Rn capl) Rn (nums rs) :: adjR Try.prog 36 36 b (ptsOf fs) :: blkR T 25 #[.slice A0 n0 c0, .slice A1 n1 c1] :: []) from hs); clear hs HC))
    go_loopw [36] (fun i wr => ∃ k : Nat, k ≤ n2 ∧ i = .int .i64 k ∧ Sep w wr (dijR bb m :: markR m a 2049 (Col.white) :: arenaR a A :: rowR 36 1 (.slice AL Rn capl) Rn (nums rs) :: adjR Try.prog 36 36 b (ptsOf fs) :: blkR T 25 #[.slice A0 n0 c0, .slice A1 n1 c1] :: [])) (fun i _ => n2 + 1 - (intOf i).toNat)
    case atStart => exact ⟨0, by omega, rfl, HS5.out⟩
    case round =>
      clear HS5
      obtain ⟨k, hk, rfl, hs⟩ := hrel
      have hown := hs.own
      by_cases hlt : k < n2
      · have hltI : (k : Int) < (n2 : Int) := by omega
        rcases Nat.eq_zero_or_pos Rn with hk0 | hkp
        · obtain ⟨ab, ao, hA0, hcell⟩ := HZ2.out.at_ hown hlt
          subst hA0
          have hc0 := hcell 0 _ rfl
          have hw0 := wf8 (HZ2.out.wf hlt 0 .u8 rfl)
          have hc1 := hcell 1 _ rfl
          have hw1 := wf8 (HZ2.out.wf hlt 1 .u8 rfl)
          simp at hc0 hc1
          obtain ⟨d0, h0⟩ : ∃ d, D2 k 0 = d := ⟨_, rfl⟩
          rw [h0] at hc0 hw0
          obtain ⟨d1, h1⟩ : ∃ d, D2 k 1 = d := ⟨_, rfl⟩
          rw [h1] at hc1 hw1
          clear hcell h0 h1
          have hkI : (Rn : Int) = 0 := by omega
          have hkb : ((Rn : Int) == 0) = true := by simpa using hkI
          have HSE := Lib.hid (hs.box #[.int .u8 d0, .int .u8 d1] 41).tail
          clear hs hown hk0
          have HCC := Lib.hid (KCount HSE.out 1 rfl)
          go_wp2_with (first
            | (go_at_call 33; refine (HCC.out).mono ?_; rw [elems_white]; rintro e w9 ⟨rfl, hs⟩; have HCD := Lib.hid (KDrained hs 1 rfl); clear hs HCC HSE)
            | (go_at_call 41; refine (HCD.out).mono ?_; rintro e w10 ⟨bq, rfl, hb, hs⟩; obtain rfl : bq = true := hb.2 white_grey; have HS9 := Lib.hid hs; clear hs hb HCD))
          go_ret
          exact ⟨rfl, HS9.out.below⟩
        have hkz : ¬ (Rn : Int) = 0 := by omega
        have hkb : ((Rn : Int) == 0) = false := by simp; omega
        obtain ⟨ab, ao, hA0, hcell⟩ := HZ2.out.at_ hown hlt
        subst hA0
        have hc0 := hcell 0 _ rfl
        have hw0 := wf8 (HZ2.out.wf hlt 0 .u8 rfl)
        have hc1 := hcell 1 _ rfl
        have hw1 := wf8 (HZ2.out.wf hlt 1 .u8 rfl)
        simp at hc0 hc1
        obtain ⟨d0, h0⟩ : ∃ d, D2 k 0 = d := ⟨_, rfl⟩
        rw [h0] at hc0 hw0
        obtain ⟨d1, h1⟩ : ∃ d, D2 k 1 = d := ⟨_, rfl⟩
        rw [h1] at hc1 hw1
        clear hcell h0 h1
        obtain ⟨g, cap', hsl, _, _⟩ := hs.rowSome 3 rfl hkp
        simp only [Value.slice.injEq] at hsl
        obtain ⟨rfl, _, rfl⟩ := hsl
        obtain ⟨K1, um, ul⟩ : ∃ K1 : Nat, d0.tmod (Rn : Int) = (K1 : Int) ∧ K1 < Rn := by
          have h1 := Int.emod_nonneg d0 (show (Rn : Int) ≠ 0 by omega)
          have h2 := Int.emod_lt_of_pos d0 (show (0 : Int) < (Rn : Int) by omega)
          refine ⟨(d0 % (Rn : Int)).toNat, ?_, by omega⟩
          rw [Int.tmod_eq_emod_of_nonneg (by omega)]
          omega
        have uI : (K1 : Int) < (Rn : Int) := by omega
        have u0 : (0 : Int) ≤ (K1 : Int) := by omega
        obtain ⟨K2, vm, vl⟩ : ∃ K2 : Nat, d1.tmod (Rn : Int) = (K2 : Int) ∧ K2 < Rn := by
          have h1 := Int.emod_nonneg d1 (show (Rn : Int) ≠ 0 by omega)
          have h2 := Int.emod_lt_of_pos d1 (show (0 : Int) < (Rn : Int) by omega)
          refine ⟨(d1 % (Rn : Int)).toNat, ?_, by omega⟩
          rw [Int.tmod_eq_emod_of_nonneg (by omega)]
          omega
        have vI : (K2 : Int) < (Rn : Int) := by omega
        have v0 : (0 : Int) ≤ (K2 : Int) := by omega
        obtain ⟨rx, hx⟩ : ∃ x, rs[K1]? = some x := ⟨_, List.getElem?_eq_getElem (by rw [HRN.out]; exact ul)⟩
        obtain ⟨ry, hy⟩ : ∃ x, rs[K2]? = some x := ⟨_, List.getElem?_eq_getElem (by rw [HRN.out]; exact vl)⟩
        have HX := Lib.hid hx
        have HY := Lib.hid hy
        obtain ⟨T5, hT5⟩ : ∃ T5, wr.heap.size = T5 := ⟨_, rfl⟩
        have hsb := hs.box #[.int .u8 d0, .int .u8 d1] 41
        rw [hT5] at hsb
        have HSB := Lib.hid hsb
        clear hs hsb hx hy hown
        go_wp2
        refine region_sep HSB.out (by kernel_rfl) (by kernel_rfl) ?_
        intro hne0
        have yz0 : ∀ x : SepW w (blkR T5 41 #[.int .u8 d0, .int .u8 d1] :: dijR bb m :: markR m a 2049 (Col.white) :: arenaR a A :: rowR 36 1 (.slice (some ⟨g, 0, none⟩) Rn capl) Rn (nums rs) :: adjR Try.prog 36 36 b (ptsOf fs) :: blkR T 25 #[.slice A0 n0 c0, .slice A1 n1 c1] :: []), x.w'.cell? ⟨T5, 0, none⟩ = some (.int .u8 d0) := fun x => by
          have := (x.h.blk 0 rfl).cell 0
          simpa using this
        have yz1 : ∀ x : SepW w (blkR T5 41 #[.int .u8 d0, .int .u8 d1] :: dijR bb m :: markR m a 2049 (Col.white) :: arenaR a A :: rowR 36 1 (.slice (some ⟨g, 0, none⟩) Rn capl) Rn (nums rs) :: adjR Try.prog 36 36 b (ptsOf fs) :: blkR T 25 #[.slice A0 n0 c0, .slice A1 n1 c1] :: []), x.w'.cell? ⟨T5, 1, none⟩ = some (.int .u8 d1) := fun x => by
          have := (x.h.blk 0 rfl).cell 1
          simpa using this
        have yx : ∀ x : SepW w (blkR T5 41 #[.int .u8 d0, .int .u8 d1] :: dijR bb m :: markR m a 2049 (Col.white) :: arenaR a A :: rowR 36 1 (.slice (some ⟨g, 0, none⟩) Rn capl) Rn (nums rs) :: adjR Try.prog 36 36 b (ptsOf fs) :: blkR T 25 #[.slice A0 n0 c0, .slice A1 n1 c1] :: []), x.w'.cell? ⟨g, K1, none⟩ = some (.int .i64 (rx : Int)) := fun x => x.h.rowCell 4 rfl K1 _ (nums_get _ _ _ HX.out)
        have yy : ∀ x : SepW w (blkR T5 41 #[.int .u8 d0, .int .u8 d1] :: dijR bb m :: markR m a 2049 (Col.white) :: arenaR a A :: rowR 36 1 (.slice (some ⟨g, 0, none⟩) Rn capl) Rn (nums rs) :: adjR Try.prog 36 36 b (ptsOf fs) :: blkR T 25 #[.slice A0 n0 c0, .slice A1 n1 c1] :: []), x.w'.cell? ⟨g, K2, none⟩ = some (.int .i64 (ry : Int)) := fun x => x.h.rowCell 4 rfl K2 _ (nums_get _ _ _ HY.out)
        repeat (go_big_quiet_step (fail))
        refine wpQuiet_nil ?_
        rintro wq ⟨⟨wqx, hs⟩, rfl⟩
        clear yz0 yz1 yx yy hne0
        have z0 := (hs.blk 0 rfl).cell 0
        have z1 := (hs.blk 0 rfl).cell 1
        simp only [List.getElem?_toArray, List.getElem?_cons_zero, List.getElem?_cons_succ] at z0 z1
        have HS6 := Lib.hid hs
        have hx1 := and_1 d0
        have hx2 := and_1 d1
        clear hs
        go_wp2_with (first
          | (go_at_call 23; refine (DPre _ bb (rx : Int) (ry : Int)).mono ?_; rintro e w6 ⟨rfl, rfl⟩)
          | (go_at_call 24; refine (DPostNil HS6.out 1 rfl (m := m) _ _ _ _).mono ?_; rintro e w7 ⟨rfl, hs⟩; have HS7 := Lib.hid hs.tail; clear hs)
          | (go_at_call 25; refine (DRemark _ bb).mono ?_; rintro e w8 ⟨rfl, rfl⟩)
          | (go_at_call 26; refine (DReset _ bb).mono ?_; rintro e w9 ⟨rfl, rfl⟩))
        go_roundw
        case rel => exact ⟨k + 1, by omega, by go_num, HS7.out⟩
        case measure => simp [intOf]; omega
      · obtain rfl : n2 = k := by omega
        have HSE := Lib.hid hs
        clear hs hown
        have HCC := Lib.hid (KCount HSE.out 1 rfl)
        go_wp2_with (first
          | (go_at_call 33; refine (HCC.out).mono ?_; rw [elems_white]; rintro e w9 ⟨rfl, hs⟩; have HCD := Lib.hid (KDrained hs 1 rfl); clear hs HCC HSE)
          | (go_at_call 41; refine (HCD.out).mono ?_; rintro e w10 ⟨bq, rfl, hb, hs⟩; obtain rfl : bq = true := hb.2 white_grey; have HS9 := Lib.hid hs; clear hs hb HCD))
        go_ret
        exact ⟨rfl, HS9.out.below⟩
  · by_cases hsm : n0 ≤ 40 ∧ n1 ≤ 120
    · have HSD := Lib.hid (show (decide (n0 ≤ 40) && decide (n1 ≤ 120)) = true by rw [decide_eq_true hsm.1, decide_eq_true hsm.2]; rfl)
      have hgt : (40 : Int) < (n2 : Int) := by omega
      clear hsm hsmall
      go_wp2_with (first
        | (go_at_call 16; refine (fit13 _).mono ?_; rintro e w1 ⟨rfl, hC⟩; have hs1 := HS0.out.same hC; have p0 := (hs1.blk 0 rfl).cell 0; have p1 := (hs1.blk 0 rfl).cell 1; simp only [List.getElem?_toArray, List.getElem?_cons_zero, List.getElem?_cons_succ] at p0 p1; have HS1 := Lib.hid hs1; clear hC hs1 HS0)
        | (go_at_call 17; refine (Small11 _ A0 n0 c0 A1 n1 c1).mono ?_; rw [HSD.out]; rintro e w2 ⟨rfl, hC⟩; have HS2 := Lib.hid (HS1.out.same hC); clear hC HS1))
      go_ret
      exact ⟨rfl, HS2.out.below⟩
    · have HSD := Lib.hid (show (decide (n0 ≤ 40) && decide (n1 ≤ 120)) = false by
        rw [Bool.and_eq_false_iff]
        by_cases h : n0 ≤ 40
        · exact .inr (decide_eq_false fun h2 => hsm ⟨h, h2⟩)
        · exact .inl (decide_eq_false h))
      clear hsm hsmall
      go_wp2_with (first
        | (go_at_call 16; refine (fit13 _).mono ?_; rintro e w1 ⟨rfl, hC⟩; have hs1 := HS0.out.same hC; have p0 := (hs1.blk 0 rfl).cell 0; have p1 := (hs1.blk 0 rfl).cell 1; simp only [List.getElem?_toArray, List.getElem?_cons_zero, List.getElem?_cons_succ] at p0 p1; have HS1 := Lib.hid hs1; clear hC hs1 HS0)
        | (go_at_call 17; refine (Small11 _ A0 n0 c0 A1 n1 c1).mono ?_; rw [HSD.out]; rintro e w2 ⟨rfl, hC⟩; have HS2 := Lib.hid (HS1.out.same hC); clear hC HS1))
      go_ret
      exact ⟨rfl, HS2.out.below⟩
end Go.Proofs.Ytacebfocfpbkdaa
