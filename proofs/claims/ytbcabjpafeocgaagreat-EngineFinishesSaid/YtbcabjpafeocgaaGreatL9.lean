/-
  Parts of the proof, joined: EngineFinishesW. Conditions: as each part says.
-/
import Derived.Test.YtbcabjpafeocgaaGreatL8
import Derived.Test.YtbcabjpafeocgaaGreatL1
import Derived.Test.YtbcabjpafeocgaaGreatL5
import Derived.StillTailTactics

/-
  The walk of EngineFinishes. Conditions: as the theorem says.
-/
namespace Go.Proofs.YtbcabjpafeocgaaGreat
set_option linter.unusedVariables false
set_option linter.unusedSimpArgs false
open Go.RowKit Go.Shelf

theorem engV_is {E : Eng} {et : TypeId} (h : engT E = et) (b : Nat) : Value.iface et (.pointer (some ⟨b, 0, none⟩)) = engV b E := by unfold engV; rw [h]
theorem Eng.new_rescans {e lg : Int} : (Eng.new e lg).rescans = !decide (e = 2) := by
  unfold Eng.new
  by_cases h0 : e = 0
  · subst h0; rfl
  · by_cases h1 : e = 1
    · subst h1; rfl
    · by_cases h2 : e = 2
      · subst h2; rfl
      · rw [if_neg h0, if_neg h1, if_neg h2, decide_eq_false h2]; rfl
set_option maxRecDepth 100000 in
set_option maxHeartbeats 16000000 in
theorem engineFinishes_walk (e0 e1 e2 e3 e4 e5 : Int) (A0 : Option Addr) (n0 c0 : Nat) (D0 : Nat → Nat → Int) (A1 : Option Addr) (n1 c1 : Nat) (D1 : Nat → Nat → Int) (A2 : Option Addr) (n2 c2 : Nat) (D2 : Nat → Nat → Int) (A3 : Option Addr) (n3 c3 : Nat) (D3 : Nat → Nat → Int) (w : World) (he0 : (Lit.int .u8 e0).wf = true) (he1 : (Lit.int .u8 e1).wf = true) (he2 : (Lit.int .u8 e2).wf = true) (he3 : (Lit.int .u8 e3).wf = true) (he4 : (Lit.int .u8 e4).wf = true) (he5 : (Lit.int .u8 e5).wf = true) (hz0 : ArgI w A0 n0 [.u8] D0) (hm0 : n0 ≤ maxLen) (hz1 : ArgI w A1 n1 [.u16, .u16, .u16] D1) (hm1 : n1 ≤ maxLen) (hz2 : ArgI w A2 n2 [.u8] D2) (hm2 : n2 ≤ 140737488351232) (hz3 : ArgI w A3 n3 [.u8] D3) (hm3 : n3 ≤ 140737488351232) :
    Calls Tryz.prog 5 #[.agg #[.int .u8 e0, .int .u8 e1, .int .u8 e2, .int .u8 e3, .int .u8 e4, .int .u8 e5], .agg #[.slice A0 n0 c0, .slice A1 n1 c1], .agg #[.slice A2 n2 c2, .slice A3 n3 c3]] w fun e w' => e = .returned (.bool true) ∧ Below w.heap.size w w' := by
  have HZ0 := Lib.hid hz0
  have HZ1 := Lib.hid hz1
  have HZ2 := Lib.hid hz2
  have HZ3 := Lib.hid hz3
  unfold maxLen at hm0 hm1
  try unfold maxLen at hm2
  try unfold maxLen at hm3
  clear hz0 hz1 hz2 hz3
  obtain ⟨T, hT⟩ : ∃ T, w.heap.size = T := ⟨_, rfl⟩
  have hs0 := (((Sep.start w).box #[.int .u8 e0, .int .u8 e1, .int .u8 e2, .int .u8 e3, .int .u8 e4, .int .u8 e5] 47).box #[.slice A0 n0 c0, .slice A1 n1 c1] 30).box #[.slice A2 n2 c2, .slice A3 n3 c3] 48
  rw [World.size_alloc, World.size_alloc, hT] at hs0
  have HS0 := Lib.hid (show Sep w _ (blkR (T + 2) 48 #[.slice A2 n2 c2, .slice A3 n3 c3] :: blkR (T + 1) 30 #[.slice A0 n0 c0, .slice A1 n1 c1] :: blkR T 47 #[.int .u8 e0, .int .u8 e1, .int .u8 e2, .int .u8 e3, .int .u8 e4, .int .u8 e5] :: []) from hs0)
  clear hs0
  have hw0_ := wf8 he0
  have hw1_ := wf8 he1
  have hw2_ := wf8 he2
  have hw3_ := wf8 he3
  have hw4_ := wf8 he4
  have hw5_ := wf8 he5
  go_enter Tryz.func5, Tryz.ntmps5
  by_cases hsmall : n0 ≤ 40 ∧ n1 ≤ 120 ∧ n2 + n3 ≤ 30
  · have hsd : (decide (n0 ≤ 40) && decide (n1 ≤ 120)) = true := by rw [decide_eq_true hsmall.1, decide_eq_true hsmall.2.1]; rfl
    have HSD := Lib.hid hsd
    obtain ⟨hn0, hn1, hnl⟩ := hsmall
    have hnlI : ¬ (30 : Int) < (n2 : Int) + (n3 : Int) := by omega
    clear hsd
    by_cases hz : n0 = 0
    · have hzb : ((n0 : Int) == 0) = true := by simp; omega
      have hzd : decide ((n0 : Int) = 0) = true := decide_eq_true (by omega)
      clear hz
      go_wp2_with (first
        | (go_at_call 24; refine (fit16 _).mono ?_; rintro e w1 ⟨rfl, hC⟩; have hs1 := HS0.out.same hC; have p0 := (hs1.blk 1 rfl).cell 0; have p1 := (hs1.blk 1 rfl).cell 1; have q0 := (hs1.blk 2 rfl).cell 0; have q1 := (hs1.blk 2 rfl).cell 1; have q2 := (hs1.blk 2 rfl).cell 2; have q3 := (hs1.blk 2 rfl).cell 3; have q4 := (hs1.blk 2 rfl).cell 4; have q5 := (hs1.blk 2 rfl).cell 5; have f0 := (hs1.blk 0 rfl).cell 0; have f1 := (hs1.blk 0 rfl).cell 1; simp only [List.getElem?_toArray, List.getElem?_cons_zero, List.getElem?_cons_succ] at p0 p1 q0 q1 q2 q3 q4 q5 f0 f1; have HS1 := Lib.hid hs1; clear hC hs1 HS0)
        | (go_at_call 25; refine (Small11 _ A0 n0 c0 A1 n1 c1).mono ?_; rw [HSD.out]; rintro e w2 ⟨rfl, hC⟩; clear p0 p1 q0 q1 q2 q3 q4 q5 f0 f1; have hs1 := HS1.out.same hC; have p0 := (hs1.blk 1 rfl).cell 0; have p1 := (hs1.blk 1 rfl).cell 1; have q0 := (hs1.blk 2 rfl).cell 0; have q1 := (hs1.blk 2 rfl).cell 1; have q2 := (hs1.blk 2 rfl).cell 2; have q3 := (hs1.blk 2 rfl).cell 3; have q4 := (hs1.blk 2 rfl).cell 4; have q5 := (hs1.blk 2 rfl).cell 5; have f0 := (hs1.blk 0 rfl).cell 0; have f1 := (hs1.blk 0 rfl).cell 1; simp only [List.getElem?_toArray, List.getElem?_cons_zero, List.getElem?_cons_succ] at p0 p1 q0 q1 q2 q3 q4 q5 f0 f1; have HS2 := Lib.hid hs1; clear hC hs1 HS1)
        | (go_at_call 26; refine (Made08 _ e0 e1 e2 e3 e4 e5 (wf8 he0) (wf8 he1) (wf8 he2) (wf8 he3) (wf8 he4) (wf8 he5)).mono ?_; rintro e w2_ ⟨vc, rfl, ⟨bl, cp, ct, cr, cs, cg, cf, mk, lg, bu, rfl, hmk1, hmk2, hlg1, hlg2⟩, hC⟩; unfold confV; clear p0 p1; have hs2 := (HS2.out.same hC).box #[.int .i64 (e0 % 4), .bool bl, .int .i64 cp, .int .i64 ct, .int .i64 cr, .int .i64 cs, .int .i64 cg, .int .i64 cf, .int .i64 mk, .int .i64 lg, .int .i64 bu] 50; obtain ⟨TC, hTC⟩ : ∃ TC, w2_.heap.size = TC := ⟨_, rfl⟩; rw [hTC] at hs2; have p0 := (hs2.blk 2 rfl).cell 0; have p1 := (hs2.blk 2 rfl).cell 1; simp only [List.getElem?_toArray, List.getElem?_cons_zero, List.getElem?_cons_succ] at p0 p1; have HS2b := Lib.hid hs2; clear hC hs2 HS2)
        | (go_at_call 11; refine (Made11 A0 n0 c0 D0 A1 n1 c1 D1 HZ0.out HZ1.out hn0 hn1 HS2b.out).mono ?_; rintro e w3 ⟨a, jb, v, A, rs, fs, rfl, hgr, hlen, hs⟩; rw [hlen] at hs; obtain ⟨AL, capl, rfl, hcapl, hmcapl⟩ := hs.rowShape 1 rfl; unfold maxLen at hmcapl; clear f0 f1; have f0 := (hs.blk 4 rfl).cell 0; simp only [List.getElem?_toArray, List.getElem?_cons_zero, List.getElem?_cons_succ] at f0; have HGR := Lib.hid hgr; have HRN := Lib.hid hlen; have HS3 := Lib.hid (show Sep w w3 (arenaR a A :: rowR 34 1 (.slice AL n0 capl) n0 (nums rs) :: adjR Tryz.prog 34 34 jb (ptsOf fs) :: blkR TC 50 #[.int .i64 (e0 % 4), .bool bl, .int .i64 cp, .int .i64 ct, .int .i64 cr, .int .i64 cs, .int .i64 cg, .int .i64 cf, .int .i64 mk, .int .i64 lg, .int .i64 bu] :: blkR (T + 2) 48 #[.slice A2 n2 c2, .slice A3 n3 c3] :: blkR (T + 1) 30 #[.slice A0 n0 c0, .slice A1 n1 c1] :: blkR T 47 #[.int .u8 e0, .int .u8 e1, .int .u8 e2, .int .u8 e3, .int .u8 e4, .int .u8 e5] :: []) from hs); clear hs hgr hlen HS2b))
      go_ret
      exact ⟨rfl, HS3.out.below⟩
    · have hzb : ((n0 : Int) == 0) = false := by simp; omega
      have hzd : decide ((n0 : Int) = 0) = false := decide_eq_false (by omega)
      go_wp2_with (first
        | (go_at_call 24; refine (fit16 _).mono ?_; rintro e w1 ⟨rfl, hC⟩; have hs1 := HS0.out.same hC; have p0 := (hs1.blk 1 rfl).cell 0; have p1 := (hs1.blk 1 rfl).cell 1; have q0 := (hs1.blk 2 rfl).cell 0; have q1 := (hs1.blk 2 rfl).cell 1; have q2 := (hs1.blk 2 rfl).cell 2; have q3 := (hs1.blk 2 rfl).cell 3; have q4 := (hs1.blk 2 rfl).cell 4; have q5 := (hs1.blk 2 rfl).cell 5; have f0 := (hs1.blk 0 rfl).cell 0; have f1 := (hs1.blk 0 rfl).cell 1; simp only [List.getElem?_toArray, List.getElem?_cons_zero, List.getElem?_cons_succ] at p0 p1 q0 q1 q2 q3 q4 q5 f0 f1; have HS1 := Lib.hid hs1; clear hC hs1 HS0)
        | (go_at_call 25; refine (Small11 _ A0 n0 c0 A1 n1 c1).mono ?_; rw [HSD.out]; rintro e w2 ⟨rfl, hC⟩; clear p0 p1 q0 q1 q2 q3 q4 q5 f0 f1; have hs1 := HS1.out.same hC; have p0 := (hs1.blk 1 rfl).cell 0; have p1 := (hs1.blk 1 rfl).cell 1; have q0 := (hs1.blk 2 rfl).cell 0; have q1 := (hs1.blk 2 rfl).cell 1; have q2 := (hs1.blk 2 rfl).cell 2; have q3 := (hs1.blk 2 rfl).cell 3; have q4 := (hs1.blk 2 rfl).cell 4; have q5 := (hs1.blk 2 rfl).cell 5; have f0 := (hs1.blk 0 rfl).cell 0; have f1 := (hs1.blk 0 rfl).cell 1; simp only [List.getElem?_toArray, List.getElem?_cons_zero, List.getElem?_cons_succ] at p0 p1 q0 q1 q2 q3 q4 q5 f0 f1; have HS2 := Lib.hid hs1; clear hC hs1 HS1)
        | (go_at_call 26; refine (Made08 _ e0 e1 e2 e3 e4 e5 (wf8 he0) (wf8 he1) (wf8 he2) (wf8 he3) (wf8 he4) (wf8 he5)).mono ?_; rintro e w2_ ⟨vc, rfl, ⟨bl, cp, ct, cr, cs, cg, cf, mk, lg, bu, rfl, hmk1, hmk2, hlg1, hlg2⟩, hC⟩; unfold confV; clear p0 p1; have hs2 := (HS2.out.same hC).box #[.int .i64 (e0 % 4), .bool bl, .int .i64 cp, .int .i64 ct, .int .i64 cr, .int .i64 cs, .int .i64 cg, .int .i64 cf, .int .i64 mk, .int .i64 lg, .int .i64 bu] 50; obtain ⟨TC, hTC⟩ : ∃ TC, w2_.heap.size = TC := ⟨_, rfl⟩; rw [hTC] at hs2; have p0 := (hs2.blk 2 rfl).cell 0; have p1 := (hs2.blk 2 rfl).cell 1; simp only [List.getElem?_toArray, List.getElem?_cons_zero, List.getElem?_cons_succ] at p0 p1; have HS2b := Lib.hid hs2; clear hC hs2 HS2)
        | (go_at_call 11; refine (Made11 A0 n0 c0 D0 A1 n1 c1 D1 HZ0.out HZ1.out hn0 hn1 HS2b.out).mono ?_; rintro e w3 ⟨a, jb, v, A, rs, fs, rfl, hgr, hlen, hs⟩; rw [hlen] at hs; obtain ⟨AL, capl, rfl, hcapl, hmcapl⟩ := hs.rowShape 1 rfl; unfold maxLen at hmcapl; clear f0 f1; have f0 := (hs.blk 4 rfl).cell 0; simp only [List.getElem?_toArray, List.getElem?_cons_zero, List.getElem?_cons_succ] at f0; have HGR := Lib.hid hgr; have HRN := Lib.hid hlen; have HS3 := Lib.hid (show Sep w w3 (arenaR a A :: rowR 34 1 (.slice AL n0 capl) n0 (nums rs) :: adjR Tryz.prog 34 34 jb (ptsOf fs) :: blkR TC 50 #[.int .i64 (e0 % 4), .bool bl, .int .i64 cp, .int .i64 ct, .int .i64 cr, .int .i64 cs, .int .i64 cg, .int .i64 cf, .int .i64 mk, .int .i64 lg, .int .i64 bu] :: blkR (T + 2) 48 #[.slice A2 n2 c2, .slice A3 n3 c3] :: blkR (T + 1) 30 #[.slice A0 n0 c0, .slice A1 n1 c1] :: blkR T 47 #[.int .u8 e0, .int .u8 e1, .int .u8 e2, .int .u8 e3, .int .u8 e4, .int .u8 e5] :: []) from hs); clear hs hgr hlen HS2b))
      try simp only [hTC]
      clear hTC
      have HS4 := Lib.hid (show Sep w w3 (rowR 34 1 (.slice none 0 0) 0 (nums ([] : List Nat)) :: arenaR a A :: rowR 34 1 (.slice AL n0 capl) n0 (nums rs) :: adjR Tryz.prog 34 34 jb (ptsOf fs) :: blkR TC 50 #[.int .i64 (e0 % 4), .bool bl, .int .i64 cp, .int .i64 ct, .int .i64 cr, .int .i64 cs, .int .i64 cg, .int .i64 cf, .int .i64 mk, .int .i64 lg, .int .i64 bu] :: blkR (T + 2) 48 #[.slice A2 n2 c2, .slice A3 n3 c3] :: blkR (T + 1) 30 #[.slice A0 n0 c0, .slice A1 n1 c1] :: blkR T 47 #[.int .u8 e0, .int .u8 e1, .int .u8 e2, .int .u8 e3, .int .u8 e4, .int .u8 e5] :: []) from HS3.out.nilRow 34 1)
      clear HS3 f0
      go_loopw [11, 53] (fun fv iv wr => ∃ (k : Nat) (S1 : List Nat) (AS : Option Addr) (caps : Nat), k ≤ n2 ∧ iv = .int .i64 (k : Int) ∧ fv = .slice AS k caps ∧ (∀ x ∈ S1, x ∈ rs) ∧ S1.length = k ∧ Sep w wr (rowR 34 1 (.slice AS k caps) k (nums S1) :: arenaR a A :: rowR 34 1 (.slice AL n0 capl) n0 (nums rs) :: adjR Tryz.prog 34 34 jb (ptsOf fs) :: blkR TC 50 #[.int .i64 (e0 % 4), .bool bl, .int .i64 cp, .int .i64 ct, .int .i64 cr, .int .i64 cs, .int .i64 cg, .int .i64 cf, .int .i64 mk, .int .i64 lg, .int .i64 bu] :: blkR (T + 2) 48 #[.slice A2 n2 c2, .slice A3 n3 c3] :: blkR (T + 1) 30 #[.slice A0 n0 c0, .slice A1 n1 c1] :: blkR T 47 #[.int .u8 e0, .int .u8 e1, .int .u8 e2, .int .u8 e3, .int .u8 e4, .int .u8 e5] :: [])) (fun _ iv _ => n2 + 1 - (intOf iv).toNat)
      case atStart => exact ⟨0, [], none, 0, by omega, rfl, rfl, fun x h => by simp at h, rfl, HS4.out⟩
      case round =>
        clear HS4
        obtain ⟨k, S1, AS, caps, hk, rfl, rfl, hin, hsl_, hs⟩ := hrel
        have HINs1 := Lib.hid hin
        have HLNs1 := Lib.hid hsl_
        clear hin hsl_
        by_cases hlt : k < n2
        · have hltI : (k : Int) < (n2 : Int) := by omega
          obtain ⟨ab, ao, hA0, hcell⟩ := HZ2.out.at_ hs.own hlt
          subst hA0
          have hc0 := hcell 0 _ rfl
          have hw0 := wf8 (HZ2.out.wf hlt 0 .u8 rfl)
          simp at hc0
          obtain ⟨d0, h0⟩ : ∃ d, D2 k 0 = d := ⟨_, rfl⟩
          rw [h0] at hc0 hw0
          clear hcell h0
          obtain ⟨g, cap', hsl, _, _⟩ := hs.rowSome 2 rfl (by omega)
          simp only [Value.slice.injEq] at hsl
          obtain ⟨rfl, _, rfl⟩ := hsl
          obtain ⟨K1, um, ul⟩ : ∃ K1 : Nat, d0.tmod (n0 : Int) = (K1 : Int) ∧ K1 < n0 := by
            have h1 := Int.emod_nonneg d0 (show (n0 : Int) ≠ 0 by omega)
            have h2 := Int.emod_lt_of_pos d0 (show (0 : Int) < (n0 : Int) by omega)
            refine ⟨(d0 % (n0 : Int)).toNat, ?_, by omega⟩
            rw [Int.tmod_eq_emod_of_nonneg (by omega)]
            omega
          have uI : (K1 : Int) < (n0 : Int) := by omega
          have u0 : (0 : Int) ≤ (K1 : Int) := by omega
          obtain ⟨rx, hrx⟩ : ∃ z_, rs[K1]? = some z_ := ⟨_, List.getElem?_eq_getElem (by rw [HRN.out]; exact ul)⟩
          have cx := hs.rowCell 2 rfl K1 _ (nums_get _ _ _ hrx)
          have HXR := Lib.hid (List.mem_of_getElem? hrx)
          have HS4 := Lib.hid hs
          clear hs hrx
          go_wp2_with (at_builtin; refine wpList_append_sep rfl _ _ 25 rfl 34 (.int .i64 0) 1 8 Tryz.underlying25 refInfo rfl (by decide) HS4.out 0 rfl rfl [.int .i64 (rx : Int)] rfl (by simp [Value.oneCell']) rfl (by unfold maxLen; omega) (by omega) ?_; intro g4 cap4 w4_ hcap4 hcm4 hs4; have HS9 := Lib.hid hs4; clear hs4 HS4)
          go_roundw
          case rel => exact ⟨k + 1, S1 ++ [rx], some ⟨g4, 0, none⟩, cap4, by omega, by go_num, rfl, fun x hx => (List.mem_append.1 hx).elim (HINs1.out x) (fun h => by simp at h; subst h; exact HXR.out), by rw [List.length_append, HLNs1.out]; rfl, by rw [nums_append]; exact HS9.out⟩
          case measure => simp [intOf]; omega
        · obtain rfl : n2 = k := by omega
          have f1 := (hs.blk 5 rfl).cell 1
          simp only [List.getElem?_toArray, List.getElem?_cons_zero, List.getElem?_cons_succ] at f1
          have HS4 := Lib.hid (show Sep w wr (rowR 34 1 (.slice none 0 0) 0 (nums ([] : List Nat)) :: rowR 34 1 (.slice AS n2 caps) n2 (nums S1) :: arenaR a A :: rowR 34 1 (.slice AL n0 capl) n0 (nums rs) :: adjR Tryz.prog 34 34 jb (ptsOf fs) :: blkR TC 50 #[.int .i64 (e0 % 4), .bool bl, .int .i64 cp, .int .i64 ct, .int .i64 cr, .int .i64 cs, .int .i64 cg, .int .i64 cf, .int .i64 mk, .int .i64 lg, .int .i64 bu] :: blkR (T + 2) 48 #[.slice A2 n2 c2, .slice A3 n3 c3] :: blkR (T + 1) 30 #[.slice A0 n0 c0, .slice A1 n1 c1] :: blkR T 47 #[.int .u8 e0, .int .u8 e1, .int .u8 e2, .int .u8 e3, .int .u8 e4, .int .u8 e5] :: []) from hs.nilRow 34 1)
          clear hs
          go_wp2_with fail
          clear f1
          go_loopw [12, 72] (fun fv iv wr => ∃ (k : Nat) (S2 : List Nat) (AT : Option Addr) (capt : Nat), k ≤ n3 ∧ iv = .int .i64 (k : Int) ∧ fv = .slice AT k capt ∧ (∀ x ∈ S2, x ∈ rs) ∧ S2.length = k ∧ Sep w wr (rowR 34 1 (.slice AT k capt) k (nums S2) :: rowR 34 1 (.slice AS n2 caps) n2 (nums S1) :: arenaR a A :: rowR 34 1 (.slice AL n0 capl) n0 (nums rs) :: adjR Tryz.prog 34 34 jb (ptsOf fs) :: blkR TC 50 #[.int .i64 (e0 % 4), .bool bl, .int .i64 cp, .int .i64 ct, .int .i64 cr, .int .i64 cs, .int .i64 cg, .int .i64 cf, .int .i64 mk, .int .i64 lg, .int .i64 bu] :: blkR (T + 2) 48 #[.slice A2 n2 c2, .slice A3 n3 c3] :: blkR (T + 1) 30 #[.slice A0 n0 c0, .slice A1 n1 c1] :: blkR T 47 #[.int .u8 e0, .int .u8 e1, .int .u8 e2, .int .u8 e3, .int .u8 e4, .int .u8 e5] :: [])) (fun _ iv _ => n3 + 1 - (intOf iv).toNat)
          case atStart => exact ⟨0, [], none, 0, by omega, rfl, rfl, fun x h => by simp at h, rfl, HS4.out⟩
          case round =>
            clear HS4
            obtain ⟨k, S2, AT, capt, hk, rfl, rfl, hin, hsl_, hs⟩ := hrel
            have HINs2 := Lib.hid hin
            have HLNs2 := Lib.hid hsl_
            clear hin hsl_
            by_cases hlt : k < n3
            · have hltI : (k : Int) < (n3 : Int) := by omega
              obtain ⟨ab, ao, hA0, hcell⟩ := HZ3.out.at_ hs.own hlt
              subst hA0
              have hc0 := hcell 0 _ rfl
              have hw0 := wf8 (HZ3.out.wf hlt 0 .u8 rfl)
              simp at hc0
              obtain ⟨d0, h0⟩ : ∃ d, D3 k 0 = d := ⟨_, rfl⟩
              rw [h0] at hc0 hw0
              clear hcell h0
              obtain ⟨g, cap', hsl, _, _⟩ := hs.rowSome 3 rfl (by omega)
              simp only [Value.slice.injEq] at hsl
              obtain ⟨rfl, _, rfl⟩ := hsl
              obtain ⟨K1, um, ul⟩ : ∃ K1 : Nat, d0.tmod (n0 : Int) = (K1 : Int) ∧ K1 < n0 := by
                have h1 := Int.emod_nonneg d0 (show (n0 : Int) ≠ 0 by omega)
                have h2 := Int.emod_lt_of_pos d0 (show (0 : Int) < (n0 : Int) by omega)
                refine ⟨(d0 % (n0 : Int)).toNat, ?_, by omega⟩
                rw [Int.tmod_eq_emod_of_nonneg (by omega)]
                omega
              have uI : (K1 : Int) < (n0 : Int) := by omega
              have u0 : (0 : Int) ≤ (K1 : Int) := by omega
              obtain ⟨rx, hrx⟩ : ∃ z_, rs[K1]? = some z_ := ⟨_, List.getElem?_eq_getElem (by rw [HRN.out]; exact ul)⟩
              have cx := hs.rowCell 3 rfl K1 _ (nums_get _ _ _ hrx)
              have HXR := Lib.hid (List.mem_of_getElem? hrx)
              have HS4 := Lib.hid hs
              clear hs hrx
              go_wp2_with (at_builtin; refine wpList_append_sep rfl _ _ 25 rfl 34 (.int .i64 0) 1 8 Tryz.underlying25 refInfo rfl (by decide) HS4.out 0 rfl rfl [.int .i64 (rx : Int)] rfl (by simp [Value.oneCell']) rfl (by unfold maxLen; omega) (by omega) ?_; intro g4 cap4 w4_ hcap4 hcm4 hs4; have HS9 := Lib.hid hs4; clear hs4 HS4)
              go_roundw
              case rel => exact ⟨k + 1, S2 ++ [rx], some ⟨g4, 0, none⟩, cap4, by omega, by go_num, rfl, fun x hx => (List.mem_append.1 hx).elim (HINs2.out x) (fun h => by simp at h; subst h; exact HXR.out), by rw [List.length_append, HLNs2.out]; rfl, by rw [nums_append]; exact HS9.out⟩
              case measure => simp [intOf]; omega
            · obtain rfl : n3 = k := by omega
              have z0 := (hs.blk 5 rfl).cell 0
              have z1 := (hs.blk 5 rfl).cell 1
              have z2 := (hs.blk 5 rfl).cell 2
              have z3 := (hs.blk 5 rfl).cell 3
              have z4 := (hs.blk 5 rfl).cell 4
              have z5 := (hs.blk 5 rfl).cell 5
              have z6 := (hs.blk 5 rfl).cell 6
              have z7 := (hs.blk 5 rfl).cell 7
              have z8 := (hs.blk 5 rfl).cell 8
              have z9 := (hs.blk 5 rfl).cell 9
              have z10 := (hs.blk 5 rfl).cell 10
              simp only [List.getElem?_toArray, List.getElem?_cons_zero, List.getElem?_cons_succ] at z0 z1 z2 z3 z4 z5 z6 z7 z8 z9 z10
              have HS5 := Lib.hid hs
              clear hs
              go_wp2_with (first
                | (go_at_call 12; refine (KNew HS5.out 2 rfl HGR.out.size (by omega) mk (by omega)).mono ?_; rintro e w4 ⟨m, rfl, hs⟩; clear z0 z1 z2 z3 z4 z5 z6 z7 z8 z9 z10; have z0 := (hs.blk 6 rfl).cell 0; have z1 := (hs.blk 6 rfl).cell 1; have z2 := (hs.blk 6 rfl).cell 2; have z3 := (hs.blk 6 rfl).cell 3; have z4 := (hs.blk 6 rfl).cell 4; have z5 := (hs.blk 6 rfl).cell 5; have z6 := (hs.blk 6 rfl).cell 6; have z7 := (hs.blk 6 rfl).cell 7; have z8 := (hs.blk 6 rfl).cell 8; have z9 := (hs.blk 6 rfl).cell 9; have z10 := (hs.blk 6 rfl).cell 10; simp only [List.getElem?_toArray, List.getElem?_cons_zero, List.getElem?_cons_succ] at z0 z1 z2 z3 z4 z5 z6 z7 z8 z9 z10; have HEN := Lib.hid (ENew hs 0 3 rfl rfl HGR.out.size (by omega) (e0 % 4) bl cp ct cr cs cg cf mk lg bu (by omega)); clear hs HS5)
                | (go_at_call 27; refine (HEN.out).mono ?_; rintro e w5 ⟨b, rfl, hs⟩; clear z0 z1 z2 z3 z4 z5 z6 z7 z8 z9 z10; have z0 := (hs.blk 7 rfl).cell 0; simp only [List.getElem?_toArray, List.getElem?_cons_zero, List.getElem?_cons_succ] at z0; obtain ⟨E0, hE0⟩ : ∃ E0, Eng.new (e0 % 4) lg = E0 := ⟨_, rfl⟩; have HE0 := Lib.hid hE0; have HID := Lib.hid (show E0.idle from by rw [← hE0]; exact Eng.new_idle _ _); rw [hE0] at hs ⊢; unfold engV; obtain ⟨et, het⟩ : ∃ et, engT E0 = et := ⟨_, rfl⟩; have HEV := Lib.hid het; rw [het]; have HS6 := Lib.hid (show Sep w w5 (engR b m a A.n 2049 (E0) :: markR m a 2049 (Col.white) :: rowR 34 1 (.slice AT n3 capt) n3 (nums S2) :: rowR 34 1 (.slice AS n2 caps) n2 (nums S1) :: arenaR a A :: rowR 34 1 (.slice AL n0 capl) n0 (nums rs) :: adjR Tryz.prog 34 34 jb (ptsOf fs) :: blkR TC 50 #[.int .i64 (e0 % 4), .bool bl, .int .i64 cp, .int .i64 ct, .int .i64 cr, .int .i64 cs, .int .i64 cg, .int .i64 cf, .int .i64 mk, .int .i64 lg, .int .i64 bu] :: blkR (T + 2) 48 #[.slice A2 n2 c2, .slice A3 n3 c3] :: blkR (T + 1) 30 #[.slice A0 n0 c0, .slice A1 n1 c1] :: blkR T 47 #[.int .u8 e0, .int .u8 e1, .int .u8 e2, .int .u8 e3, .int .u8 e4, .int .u8 e5] :: []) from hs); clear hs hE0 het HEN))
              go_loopw [97] (fun iv wr => ∃ (k : Nat), k ≤ n2 ∧ iv = .int .i64 (k : Int) ∧ Sep w wr (engR b m a A.n 2049 (E0) :: markR m a 2049 (Col.white.shades (S1.take k)) :: rowR 34 1 (.slice AT n3 capt) n3 (nums S2) :: rowR 34 1 (.slice AS n2 caps) n2 (nums S1) :: arenaR a A :: rowR 34 1 (.slice AL n0 capl) n0 (nums rs) :: adjR Tryz.prog 34 34 jb (ptsOf fs) :: blkR TC 50 #[.int .i64 (e0 % 4), .bool bl, .int .i64 cp, .int .i64 ct, .int .i64 cr, .int .i64 cs, .int .i64 cg, .int .i64 cf, .int .i64 mk, .int .i64 lg, .int .i64 bu] :: blkR (T + 2) 48 #[.slice A2 n2 c2, .slice A3 n3 c3] :: blkR (T + 1) 30 #[.slice A0 n0 c0, .slice A1 n1 c1] :: blkR T 47 #[.int .u8 e0, .int .u8 e1, .int .u8 e2, .int .u8 e3, .int .u8 e4, .int .u8 e5] :: [])) (fun iv _ => n2 + 1 - (intOf iv).toNat)
              case atStart => exact ⟨0, by omega, rfl, HS6.out⟩
              case round =>
                clear HS6
                obtain ⟨k, hk, rfl, hs⟩ := hrel
                by_cases hlt : k < n2
                · have hltI : (k : Int) < (n2 : Int) := by omega
                  obtain ⟨x, hx⟩ : ∃ z_, S1[k]? = some z_ := ⟨_, List.getElem?_eq_getElem (by rw [HLNs1.out]; exact hlt)⟩
                  obtain ⟨g, cap', hsl, _, _⟩ := hs.rowSome 3 rfl (by omega)
                  simp only [Value.slice.injEq] at hsl
                  obtain ⟨rfl, _, rfl⟩ := hsl
                  have cx := hs.rowCell 3 rfl k _ (nums_get _ _ _ hx)
                  have hx2 := HGR.out.lt (HINs1.out x (List.mem_of_getElem? hx))
                  have HTX := Lib.hid (show S1.take (k + 1) = S1.take k ++ [x] by rw [List.take_add_one, hx]; rfl)
                  have HSH := Lib.hid (KShade hs 1 rfl x hx2.1 hx2.2)
                  clear hs hx
                  go_wp2_with (go_at_call 13; refine (HSH.out).mono ?_; rintro e w7 ⟨rfl, hs⟩; rw [← shades_push, ← HTX.out] at hs; have HS7 := Lib.hid hs; clear hs HSH)
                  go_roundw
                  case rel => exact ⟨k + 1, by omega, by go_num, HS7.out⟩
                  case measure => simp [intOf]; omega
                · obtain rfl : n2 = k := by omega
                  rw [List.take_of_length_le (by rw [HLNs1.out]; omega)] at hs
                  have y0 := (hs.blk 7 rfl).cell 0
                  simp only [List.getElem?_toArray, List.getElem?_cons_zero, List.getElem?_cons_succ] at y0
                  replace hs : Sep w wr (engR b m a A.n 2049 (E0) :: markR m a 2049 (Col.white.shades S1) :: rowR 34 1 (.slice AT n3 capt) n3 (nums S2) :: rowR 34 1 (.slice AS n2 caps) n2 (nums S1) :: arenaR a A :: rowR 34 1 (.slice AL n0 capl) n0 (nums rs) :: adjR Tryz.prog 34 34 jb (ptsOf fs) :: []) := (show Sep w wr ([engR b m a A.n 2049 (E0), markR m a 2049 (Col.white.shades S1), rowR 34 1 (.slice AT n3 capt) n3 (nums S2), rowR 34 1 (.slice AS n2 caps) n2 (nums S1), arenaR a A, rowR 34 1 (.slice AL n0 capl) n0 (nums rs), adjR Tryz.prog 34 34 jb (ptsOf fs)] ++ [blkR TC 50 #[.int .i64 (e0 % 4), .bool bl, .int .i64 cp, .int .i64 ct, .int .i64 cr, .int .i64 cs, .int .i64 cg, .int .i64 cf, .int .i64 mk, .int .i64 lg, .int .i64 bu], blkR (T + 2) 48 #[.slice A2 n2 c2, .slice A3 n3 c3], blkR (T + 1) 30 #[.slice A0 n0 c0, .slice A1 n1 c1], blkR T 47 #[.int .u8 e0, .int .u8 e1, .int .u8 e2, .int .u8 e3, .int .u8 e4, .int .u8 e5]]) from hs).left
                  by_cases hY : e0 % 4 = 2
                  · have HY := Lib.hid hY
                    have hYb : (e0 % 4 != 2) = false := by simpa using hY
                    clear hY
                    rcases Nat.eq_zero_or_pos n3 with h30 | h30
                    · subst h30
                      obtain rfl : S2 = [] := List.eq_nil_of_length_eq_zero HLNs2.out
                      obtain ⟨wW, hwW⟩ : ∃ W, wr = W := ⟨_, rfl⟩
                      subst hwW
                      have HSW := Lib.hid (show Sep w wr (engR b m a A.n 2049 (E0) :: markR m a 2049 (Col.white.shades S1) :: rowR 34 1 (.slice AT 0 capt) 0 (nums ([] : List Nat)) :: rowR 34 1 (.slice AS n2 caps) n2 (nums S1) :: arenaR a A :: rowR 34 1 (.slice AL n0 capl) n0 (nums rs) :: adjR Tryz.prog 34 34 jb (ptsOf fs) :: []) from hs)
                      clear hs
                      have HFX := Lib.hid (show E0.fin A ([] : List Nat) (Col.white.shades S1) = Col.white.shades S1 from by
                        rw [Eng.idle_fin HID.out, show E0.rescans = false from by rw [← HE0.out, Eng.new_rescans, decide_eq_true HY.out]; rfl]
                        rw [if_neg (by decide)])
                      have HRE := Lib.hid (Reach11 (HGR.out.field (by rw [HRN.out]; exact hn0)) (fun x hx => HINs1.out x hx) (by rw [HLNs1.out]; omega) (show Sep w wr (rowR 34 1 (.slice AS n2 caps) S1.length (nums S1) :: adjR Tryz.prog 34 34 jb (ptsOf fs) :: engR b m a A.n 2049 (E0) :: markR m a 2049 (Col.white.shades S1) :: rowR 34 1 (.slice AT 0 capt) 0 (nums ([] : List Nat)) :: arenaR a A :: rowR 34 1 (.slice AL n0 capl) n0 (nums rs) :: []) from by rw [HLNs1.out]; exact HSW.out.front 7 [3, 6]))
                      clear HSW
                      go_wp2_with (first
                        | (go_at_call 28; refine (HRE.out).mono ?_; rintro e w6 ⟨mb, V, rfl, hV, hVo, hs⟩; rw [HLNs1.out] at hs; have HV := Lib.hid hV; have HVO := Lib.hid hVo; have HRT := Lib.hid (RRoots (show Sep w w6 (mapR Tryz.prog 55 34 3 .i64 .i64 mb (rs.countP V) (visM V) :: rowR 34 1 (.slice AS n2 caps) n2 (nums S1) :: adjR Tryz.prog 34 34 jb (ptsOf fs) :: engR b m a A.n 2049 (E0) :: markR m a 2049 (Col.white.shades S1) :: rowR 34 1 (.slice AT 0 capt) 0 (nums ([] : List Nat)) :: arenaR a A :: rowR 34 1 (.slice AL n0 capl) n0 (nums rs) :: []) from hs) AT 0 capt); clear hs hV hVo HRE)
                        | (go_at_call 30; refine (HRT.out).mono ?_; rintro e w9_ ⟨B, rfl, hs⟩; have hfi := EFinish E0 (roots_iter0 B AT capt) enters_roots (fun z hz => by simp at hz) HGR.out.heap.wf HGR.out.size (by rw [HGR.out.n]; omega) (Eng.idle_ok HID.out _) HGR.out.heap HGR.out.nodup HGR.out.ptsIn (by rw [HRN.out]; omega) (fun z hz => by rw [HFX.out, white_mz] at hz; exact (fun x hx => HINs1.out x hx) z (of_decide_eq_true hz)) (show Sep w w9_ (blkR B 25 #[.slice AT 0 capt] :: engR b m a A.n 2049 (E0) :: markR m a 2049 (Col.white.shades S1) :: arenaR a A :: mapR Tryz.prog 55 34 3 .i64 .i64 mb (rs.countP V) (visM V) :: rowR 34 1 (.slice AS n2 caps) n2 (nums S1) :: adjR Tryz.prog 34 34 jb (ptsOf fs) :: rowR 34 1 (.slice AT 0 capt) 0 (nums ([] : List Nat)) :: rowR 34 1 (.slice AL n0 capl) n0 (nums rs) :: []) from (show Sep w w9_ (blkR B 25 #[.slice AT 0 capt] :: mapR Tryz.prog 55 34 3 .i64 .i64 mb (rs.countP V) (visM V) :: rowR 34 1 (.slice AS n2 caps) n2 (nums S1) :: adjR Tryz.prog 34 34 jb (ptsOf fs) :: engR b m a A.n 2049 (E0) :: markR m a 2049 (Col.white.shades S1) :: rowR 34 1 (.slice AT 0 capt) 0 (nums ([] : List Nat)) :: arenaR a A :: rowR 34 1 (.slice AL n0 capl) n0 (nums rs) :: []) from hs).front 8 [0, 4, 5, 7]); rw [← engV_is HEV.out b, HFX.out] at hfi; have HFI := Lib.hid hfi; clear hs hfi HRT)
                        | (go_at_call 29; refine (HFI.out).mono ?_; rintro e w10 ⟨d, C2, rfl, hst, hno, hs⟩; have hwe := white_end HGR.out.nodup HGR.out.ptsIn (fun x hx => HINs1.out x hx) hst hno; have hmv : ∀ x, C2.mz x = V x := (fun x => by have h1 := hwe.1 x; have h2 := HV.out x; cases e1 : C2.mz x <;> cases e2 : V x <;> simp_all); have hdv : rs.countP V = d := (by rw [← hwe.2.2]; exact List.countP_congr (fun x _ => by rw [hmv])); have HMV := Lib.hid hmv; have HSV := Lib.hid (show ∀ x, C2.sc x = V x from fun x => (hwe.2.1 x).trans (hmv x)); have HNO := Lib.hid hno; have HF2 := Lib.hid (show E0.fin A [] C2 = C2 from (by rw [Eng.idle_fin HID.out]; split <;> rfl)); have hdd : ((d : Int) != (d : Int)) = false := (by simp); have hs' := (show Sep w w10 (mapR Tryz.prog 55 34 3 .i64 .i64 mb (rs.countP V) (visM V) :: blkR B 25 #[.slice AT 0 capt] :: engR b m a A.n 2049 (E0) :: markR m a 2049 (C2) :: arenaR a A :: rowR 34 1 (.slice AS n2 caps) n2 (nums S1) :: adjR Tryz.prog 34 34 jb (ptsOf fs) :: rowR 34 1 (.slice AT 0 capt) 0 (nums ([] : List Nat)) :: rowR 34 1 (.slice AL n0 capl) n0 (nums rs) :: []) from (by have h1 := (show Sep w w10 (blkR B 25 #[.slice AT 0 capt] :: engR b m a A.n 2049 (E0.remark A (Col.white.shades S1)).1 :: markR m a 2049 (C2) :: arenaR a A :: mapR Tryz.prog 55 34 3 .i64 .i64 mb (rs.countP V) (visM V) :: rowR 34 1 (.slice AS n2 caps) n2 (nums S1) :: adjR Tryz.prog 34 34 jb (ptsOf fs) :: rowR 34 1 (.slice AT 0 capt) 0 (nums ([] : List Nat)) :: rowR 34 1 (.slice AL n0 capl) n0 (nums rs) :: []) from hs); rw [show (E0.remark A (Col.white.shades S1)).1 = E0 from by rw [Eng.idle_remark HID.out]] at h1; exact h1.front 5 [4])); have HS9 := Lib.hid hs'; have hlen := (fun ty => map_len refIntOk hs' 0 rfl ty); rw [hdv] at hlen; have HLEN2 := Lib.hid hlen; clear hs hs' hst hno hwe hmv hdv hlen HFI)
                        | (at_len; refine wpList_len_run rfl _ _ rfl rfl HLEN2.out ?_; clear HLEN2))
                      go_loopw [124] (fun i wr => ∃ k : Nat, k ≤ n0 ∧ i = .int .i64 k ∧ Sep w wr (mapR Tryz.prog 55 34 3 .i64 .i64 mb (rs.countP V) (visM V) :: blkR B 25 #[.slice AT 0 capt] :: engR b m a A.n 2049 (E0) :: markR m a 2049 (C2) :: arenaR a A :: rowR 34 1 (.slice AS n2 caps) n2 (nums S1) :: adjR Tryz.prog 34 34 jb (ptsOf fs) :: rowR 34 1 (.slice AT 0 capt) 0 (nums ([] : List Nat)) :: rowR 34 1 (.slice AL n0 capl) n0 (nums rs) :: [])) (fun i _ => n0 + 1 - (intOf i).toNat)
                      case atStart => exact ⟨0, by omega, rfl, HS9.out⟩
                      case round =>
                        clear HS9
                        obtain ⟨k, hk, rfl, hs⟩ := hrel
                        by_cases hlt : k < n0
                        · have hltI : (k : Int) < (n0 : Int) := by omega
                          obtain ⟨xr, hx⟩ : ∃ z_, rs[k]? = some z_ := ⟨_, List.getElem?_eq_getElem (by rw [HRN.out]; exact hlt)⟩
                          obtain ⟨g, cap', hsl, _, _⟩ := hs.rowSome 8 rfl (by omega)
                          simp only [Value.slice.injEq] at hsl
                          obtain ⟨rfl, _, rfl⟩ := hsl
                          have cx := hs.rowCell 8 rfl k _ (nums_get _ _ _ hx)
                          have hx2 := HGR.out.lt (List.mem_of_getElem? hx)
                          have HSB := Lib.hid hs
                          have hmk := fun W (S : Sep w W (mapR Tryz.prog 55 34 3 .i64 .i64 mb (rs.countP V) (visM V) :: blkR B 25 #[.slice AT 0 capt] :: engR b m a A.n 2049 (E0) :: markR m a 2049 (C2) :: arenaR a A :: rowR 34 1 (.slice AS n2 caps) n2 (nums S1) :: adjR Tryz.prog 34 34 jb (ptsOf fs) :: rowR 34 1 (.slice AT 0 capt) 0 (nums ([] : List Nat)) :: rowR 34 1 (.slice (some ⟨g, 0, none⟩) n0 capl) n0 (nums rs) :: [])) => KMarked S 3 rfl xr hx2.2
                          have hsk := fun W (S : Sep w W (mapR Tryz.prog 55 34 3 .i64 .i64 mb (rs.countP V) (visM V) :: blkR B 25 #[.slice AT 0 capt] :: engR b m a A.n 2049 (E0) :: markR m a 2049 (C2) :: arenaR a A :: rowR 34 1 (.slice AS n2 caps) n2 (nums S1) :: adjR Tryz.prog 34 34 jb (ptsOf fs) :: rowR 34 1 (.slice AT 0 capt) 0 (nums ([] : List Nat)) :: rowR 34 1 (.slice (some ⟨g, 0, none⟩) n0 capl) n0 (nums rs) :: [])) => KScanned S 3 rfl xr hx2.2
                          rw [HMV.out xr] at hmk
                          rw [HSV.out xr] at hsk
                          obtain ⟨bb, hbb⟩ : ∃ bb, V xr = bb := ⟨_, rfl⟩
                          have HVX := Lib.hid hbb
                          rw [hbb] at hmk hsk
                          clear hs hx hbb
                          try clear hYb
                          try clear hdd
                          cases bb
                          · have HMK := Lib.hid hmk
                            have HSK := Lib.hid hsk
                            clear hmk hsk
                            go_wp2
                            refine region_sep HSB.out (by kernel_rfl) (by kernel_rfl) ?_
                            intro hne0
                            have ylk : ∀ x : SepW w (mapR Tryz.prog 55 34 3 .i64 .i64 mb (rs.countP V) (visM V) :: blkR B 25 #[.slice AT 0 capt] :: engR b m a A.n 2049 (E0) :: markR m a 2049 (C2) :: arenaR a A :: rowR 34 1 (.slice AS n2 caps) n2 (nums S1) :: adjR Tryz.prog 34 34 jb (ptsOf fs) :: rowR 34 1 (.slice AT 0 capt) 0 (nums ([] : List Nat)) :: rowR 34 1 (.slice (some ⟨g, 0, none⟩) n0 capl) n0 (nums rs) :: []), (Instr.lookup 55 (.map (some mb)) (.int .i64 (xr : Int)) false).run Tryz.prog x.w' = .ok (.int .i64 0) x.w' := fun x => by
                              have := map_get refIntOk x.h 0 rfl (wfx (x := xr) (by omega))
                              rw [visM_at, HVX.out] at this
                              simpa using this
                            repeat (go_big_quiet_step (first
                              | (go_at_call 18; exact sep_calls (HMK.out _ (SepW.h _)))
                              | (go_at_call 19; exact sep_calls (HSK.out _ (SepW.h _)))))
                            refine wpQuiet_nil ?_
                            rintro wq ⟨⟨wqx, hs⟩, rfl⟩
                            clear ylk hne0
                            go_wp2
                            go_roundw
                            case rel => exact ⟨k + 1, by omega, by go_num, hs⟩
                            case measure => simp [intOf]; omega
                          · have HMK := Lib.hid hmk
                            have HSK := Lib.hid hsk
                            clear hmk hsk
                            go_wp2
                            refine region_sep HSB.out (by kernel_rfl) (by kernel_rfl) ?_
                            intro hne0
                            have ylk : ∀ x : SepW w (mapR Tryz.prog 55 34 3 .i64 .i64 mb (rs.countP V) (visM V) :: blkR B 25 #[.slice AT 0 capt] :: engR b m a A.n 2049 (E0) :: markR m a 2049 (C2) :: arenaR a A :: rowR 34 1 (.slice AS n2 caps) n2 (nums S1) :: adjR Tryz.prog 34 34 jb (ptsOf fs) :: rowR 34 1 (.slice AT 0 capt) 0 (nums ([] : List Nat)) :: rowR 34 1 (.slice (some ⟨g, 0, none⟩) n0 capl) n0 (nums rs) :: []), (Instr.lookup 55 (.map (some mb)) (.int .i64 (xr : Int)) false).run Tryz.prog x.w' = .ok (.int .i64 1) x.w' := fun x => by
                              have := map_get refIntOk x.h 0 rfl (wfx (x := xr) (by omega))
                              rw [visM_at, HVX.out] at this
                              simpa using this
                            repeat (go_big_quiet_step (first
                              | (go_at_call 18; exact sep_calls (HMK.out _ (SepW.h _)))
                              | (go_at_call 19; exact sep_calls (HSK.out _ (SepW.h _)))))
                            refine wpQuiet_nil ?_
                            rintro wq ⟨⟨wqx, hs⟩, rfl⟩
                            clear ylk hne0
                            go_wp2
                            go_roundw
                            case rel => exact ⟨k + 1, by omega, by go_num, hs⟩
                            case measure => simp [intOf]; omega
                        · obtain rfl : n0 = k := by omega
                          have HRT2 := Lib.hid (RRoots hs none 0 0)
                          clear hs
                          go_wp2_with (first
                            | (go_at_call 30; refine (HRT2.out).mono ?_; rintro e w11 ⟨B2, rfl, hs⟩; have hfi := EFinish E0 (roots_iter0 B2 none 0) enters_roots (fun z hz => by simp at hz) HGR.out.heap.wf HGR.out.size (by rw [HGR.out.n]; omega) (Eng.idle_ok HID.out _) HGR.out.heap HGR.out.nodup HGR.out.ptsIn (by rw [HRN.out]; omega) (fun z hz => by rw [HF2.out] at hz; exact HVO.out z (by rw [← HMV.out]; exact hz)) (show Sep w w11 (blkR B2 25 #[.slice none 0 0] :: engR b m a A.n 2049 (E0) :: markR m a 2049 (C2) :: arenaR a A :: mapR Tryz.prog 55 34 3 .i64 .i64 mb (rs.countP V) (visM V) :: blkR B 25 #[.slice AT 0 capt] :: rowR 34 1 (.slice AS n2 caps) n2 (nums S1) :: adjR Tryz.prog 34 34 jb (ptsOf fs) :: rowR 34 1 (.slice AT 0 capt) 0 (nums ([] : List Nat)) :: rowR 34 1 (.slice AL n0 capl) n0 (nums rs) :: []) from (show Sep w w11 (blkR B2 25 #[.slice none 0 0] :: mapR Tryz.prog 55 34 3 .i64 .i64 mb (rs.countP V) (visM V) :: blkR B 25 #[.slice AT 0 capt] :: engR b m a A.n 2049 (E0) :: markR m a 2049 (C2) :: arenaR a A :: rowR 34 1 (.slice AS n2 caps) n2 (nums S1) :: adjR Tryz.prog 34 34 jb (ptsOf fs) :: rowR 34 1 (.slice AT 0 capt) 0 (nums ([] : List Nat)) :: rowR 34 1 (.slice AL n0 capl) n0 (nums rs) :: []) from hs).front 6 [0, 3, 4, 5]); rw [← engV_is HEV.out b, HF2.out] at hfi; have HFI2 := Lib.hid hfi; clear hs hfi HRT2)
                            | (go_at_call 29; refine (HFI2.out).mono ?_; rintro e w12 ⟨d2, C3, rfl, hst, hno, hs⟩; obtain ⟨rfl, rfl⟩ := hst.stuck HNO.out; have HS7 := Lib.hid hs; clear hs hst hno HFI2))
                          go_ret
                          exact ⟨by first | rfl | simp, HS7.out.below⟩
                    · obtain ⟨g2, cap2_, hsl2, _, _⟩ := hs.rowSome 2 rfl h30
                      simp only [Value.slice.injEq] at hsl2
                      obtain ⟨rfl, _, rfl⟩ := hsl2
                      obtain ⟨wW, hwW⟩ : ∃ W, wr = W := ⟨_, rfl⟩
                      subst hwW
                      have HSW := Lib.hid (show Sep w wr (engR b m a A.n 2049 (E0) :: markR m a 2049 (Col.white.shades S1) :: rowR 34 1 (.slice (some ⟨g2, 0, none⟩) n3 capt) n3 (nums S2) :: rowR 34 1 (.slice AS n2 caps) n2 (nums S1) :: arenaR a A :: rowR 34 1 (.slice AL n0 capl) n0 (nums rs) :: adjR Tryz.prog 34 34 jb (ptsOf fs) :: []) from hs)
                      clear hs
                      have HFX := Lib.hid (show E0.fin A (S2.take n3) (Col.white.shades S1) = Col.white.shades S1 from by
                        rw [Eng.idle_fin HID.out, show E0.rescans = false from by rw [← HE0.out, Eng.new_rescans, decide_eq_true HY.out]; rfl]
                        rw [if_neg (by decide)])
                      have HRE := Lib.hid (Reach11 (HGR.out.field (by rw [HRN.out]; exact hn0)) (fun x hx => HINs1.out x hx) (by rw [HLNs1.out]; omega) (show Sep w wr (rowR 34 1 (.slice AS n2 caps) S1.length (nums S1) :: adjR Tryz.prog 34 34 jb (ptsOf fs) :: engR b m a A.n 2049 (E0) :: markR m a 2049 (Col.white.shades S1) :: rowR 34 1 (.slice (some ⟨g2, 0, none⟩) n3 capt) n3 (nums S2) :: arenaR a A :: rowR 34 1 (.slice AL n0 capl) n0 (nums rs) :: []) from by rw [HLNs1.out]; exact HSW.out.front 7 [3, 6]))
                      clear HSW
                      go_wp2_with (first
                        | (go_at_call 28; refine (HRE.out).mono ?_; rintro e w6 ⟨mb, V, rfl, hV, hVo, hs⟩; rw [HLNs1.out] at hs; have HV := Lib.hid hV; have HVO := Lib.hid hVo; have HRT := Lib.hid (RRoots (show Sep w w6 (mapR Tryz.prog 55 34 3 .i64 .i64 mb (rs.countP V) (visM V) :: rowR 34 1 (.slice AS n2 caps) n2 (nums S1) :: adjR Tryz.prog 34 34 jb (ptsOf fs) :: engR b m a A.n 2049 (E0) :: markR m a 2049 (Col.white.shades S1) :: rowR 34 1 (.slice (some ⟨g2, 0, none⟩) n3 capt) n3 (nums S2) :: arenaR a A :: rowR 34 1 (.slice AL n0 capl) n0 (nums rs) :: []) from hs) (some ⟨g2, 0, none⟩) n3 capt); clear hs hV hVo HRE)
                        | (go_at_call 30; refine (HRT.out).mono ?_; rintro e w9_ ⟨B, rfl, hs⟩; have hfi := EFinish E0 (roots_iter B g2 n3 capt n3 capt S2 (by omega) HLNs2.out (by omega)) enters_roots (fun z hz => HGR.out.lt (HINs2.out z (List.mem_of_mem_take hz))) HGR.out.heap.wf HGR.out.size (by rw [HGR.out.n]; omega) (Eng.idle_ok HID.out _) HGR.out.heap HGR.out.nodup HGR.out.ptsIn (by rw [HRN.out]; omega) (fun z hz => by rw [HFX.out, white_mz] at hz; exact (fun x hx => HINs1.out x hx) z (of_decide_eq_true hz)) (show Sep w w9_ (blkR B 25 #[.slice (some ⟨g2, 0, none⟩) n3 capt] :: rowR 34 1 (.slice (some ⟨g2, 0, none⟩) n3 capt) n3 (nums S2) :: engR b m a A.n 2049 (E0) :: markR m a 2049 (Col.white.shades S1) :: arenaR a A :: mapR Tryz.prog 55 34 3 .i64 .i64 mb (rs.countP V) (visM V) :: rowR 34 1 (.slice AS n2 caps) n2 (nums S1) :: adjR Tryz.prog 34 34 jb (ptsOf fs) :: rowR 34 1 (.slice AL n0 capl) n0 (nums rs) :: []) from (show Sep w w9_ (blkR B 25 #[.slice (some ⟨g2, 0, none⟩) n3 capt] :: mapR Tryz.prog 55 34 3 .i64 .i64 mb (rs.countP V) (visM V) :: rowR 34 1 (.slice AS n2 caps) n2 (nums S1) :: adjR Tryz.prog 34 34 jb (ptsOf fs) :: engR b m a A.n 2049 (E0) :: markR m a 2049 (Col.white.shades S1) :: rowR 34 1 (.slice (some ⟨g2, 0, none⟩) n3 capt) n3 (nums S2) :: arenaR a A :: rowR 34 1 (.slice AL n0 capl) n0 (nums rs) :: []) from hs).front 8 [0, 6, 4, 5, 7]); rw [← engV_is HEV.out b, HFX.out] at hfi; have HFI := Lib.hid hfi; clear hs hfi HRT)
                        | (go_at_call 29; refine (HFI.out).mono ?_; rintro e w10 ⟨d, C2, rfl, hst, hno, hs⟩; have hwe := white_end HGR.out.nodup HGR.out.ptsIn (fun x hx => HINs1.out x hx) hst hno; have hmv : ∀ x, C2.mz x = V x := (fun x => by have h1 := hwe.1 x; have h2 := HV.out x; cases e1 : C2.mz x <;> cases e2 : V x <;> simp_all); have hdv : rs.countP V = d := (by rw [← hwe.2.2]; exact List.countP_congr (fun x _ => by rw [hmv])); have HMV := Lib.hid hmv; have HSV := Lib.hid (show ∀ x, C2.sc x = V x from fun x => (hwe.2.1 x).trans (hmv x)); have HNO := Lib.hid hno; have HF2 := Lib.hid (show E0.fin A [] C2 = C2 from (by rw [Eng.idle_fin HID.out]; split <;> rfl)); have hdd : ((d : Int) != (d : Int)) = false := (by simp); have hs' := (show Sep w w10 (mapR Tryz.prog 55 34 3 .i64 .i64 mb (rs.countP V) (visM V) :: blkR B 25 #[.slice (some ⟨g2, 0, none⟩) n3 capt] :: rowR 34 1 (.slice (some ⟨g2, 0, none⟩) n3 capt) n3 (nums S2) :: engR b m a A.n 2049 (E0) :: markR m a 2049 (C2) :: arenaR a A :: rowR 34 1 (.slice AS n2 caps) n2 (nums S1) :: adjR Tryz.prog 34 34 jb (ptsOf fs) :: rowR 34 1 (.slice AL n0 capl) n0 (nums rs) :: []) from (by have h1 := (show Sep w w10 (blkR B 25 #[.slice (some ⟨g2, 0, none⟩) n3 capt] :: rowR 34 1 (.slice (some ⟨g2, 0, none⟩) n3 capt) n3 (nums S2) :: engR b m a A.n 2049 (E0.remark A (Col.white.shades S1)).1 :: markR m a 2049 (C2) :: arenaR a A :: mapR Tryz.prog 55 34 3 .i64 .i64 mb (rs.countP V) (visM V) :: rowR 34 1 (.slice AS n2 caps) n2 (nums S1) :: adjR Tryz.prog 34 34 jb (ptsOf fs) :: rowR 34 1 (.slice AL n0 capl) n0 (nums rs) :: []) from hs); rw [show (E0.remark A (Col.white.shades S1)).1 = E0 from by rw [Eng.idle_remark HID.out]] at h1; exact h1.front 6 [5])); have HS9 := Lib.hid hs'; have hlen := (fun ty => map_len refIntOk hs' 0 rfl ty); rw [hdv] at hlen; have HLEN2 := Lib.hid hlen; clear hs hs' hst hno hwe hmv hdv hlen HFI)
                        | (at_len; refine wpList_len_run rfl _ _ rfl rfl HLEN2.out ?_; clear HLEN2))
                      go_loopw [124] (fun i wr => ∃ k : Nat, k ≤ n0 ∧ i = .int .i64 k ∧ Sep w wr (mapR Tryz.prog 55 34 3 .i64 .i64 mb (rs.countP V) (visM V) :: blkR B 25 #[.slice (some ⟨g2, 0, none⟩) n3 capt] :: rowR 34 1 (.slice (some ⟨g2, 0, none⟩) n3 capt) n3 (nums S2) :: engR b m a A.n 2049 (E0) :: markR m a 2049 (C2) :: arenaR a A :: rowR 34 1 (.slice AS n2 caps) n2 (nums S1) :: adjR Tryz.prog 34 34 jb (ptsOf fs) :: rowR 34 1 (.slice AL n0 capl) n0 (nums rs) :: [])) (fun i _ => n0 + 1 - (intOf i).toNat)
                      case atStart => exact ⟨0, by omega, rfl, HS9.out⟩
                      case round =>
                        clear HS9
                        obtain ⟨k, hk, rfl, hs⟩ := hrel
                        by_cases hlt : k < n0
                        · have hltI : (k : Int) < (n0 : Int) := by omega
                          obtain ⟨xr, hx⟩ : ∃ z_, rs[k]? = some z_ := ⟨_, List.getElem?_eq_getElem (by rw [HRN.out]; exact hlt)⟩
                          obtain ⟨g, cap', hsl, _, _⟩ := hs.rowSome 8 rfl (by omega)
                          simp only [Value.slice.injEq] at hsl
                          obtain ⟨rfl, _, rfl⟩ := hsl
                          have cx := hs.rowCell 8 rfl k _ (nums_get _ _ _ hx)
                          have hx2 := HGR.out.lt (List.mem_of_getElem? hx)
                          have HSB := Lib.hid hs
                          have hmk := fun W (S : Sep w W (mapR Tryz.prog 55 34 3 .i64 .i64 mb (rs.countP V) (visM V) :: blkR B 25 #[.slice (some ⟨g2, 0, none⟩) n3 capt] :: rowR 34 1 (.slice (some ⟨g2, 0, none⟩) n3 capt) n3 (nums S2) :: engR b m a A.n 2049 (E0) :: markR m a 2049 (C2) :: arenaR a A :: rowR 34 1 (.slice AS n2 caps) n2 (nums S1) :: adjR Tryz.prog 34 34 jb (ptsOf fs) :: rowR 34 1 (.slice (some ⟨g, 0, none⟩) n0 capl) n0 (nums rs) :: [])) => KMarked S 4 rfl xr hx2.2
                          have hsk := fun W (S : Sep w W (mapR Tryz.prog 55 34 3 .i64 .i64 mb (rs.countP V) (visM V) :: blkR B 25 #[.slice (some ⟨g2, 0, none⟩) n3 capt] :: rowR 34 1 (.slice (some ⟨g2, 0, none⟩) n3 capt) n3 (nums S2) :: engR b m a A.n 2049 (E0) :: markR m a 2049 (C2) :: arenaR a A :: rowR 34 1 (.slice AS n2 caps) n2 (nums S1) :: adjR Tryz.prog 34 34 jb (ptsOf fs) :: rowR 34 1 (.slice (some ⟨g, 0, none⟩) n0 capl) n0 (nums rs) :: [])) => KScanned S 4 rfl xr hx2.2
                          rw [HMV.out xr] at hmk
                          rw [HSV.out xr] at hsk
                          obtain ⟨bb, hbb⟩ : ∃ bb, V xr = bb := ⟨_, rfl⟩
                          have HVX := Lib.hid hbb
                          rw [hbb] at hmk hsk
                          clear hs hx hbb
                          try clear hYb
                          try clear hdd
                          cases bb
                          · have HMK := Lib.hid hmk
                            have HSK := Lib.hid hsk
                            clear hmk hsk
                            go_wp2
                            refine region_sep HSB.out (by kernel_rfl) (by kernel_rfl) ?_
                            intro hne0
                            have ylk : ∀ x : SepW w (mapR Tryz.prog 55 34 3 .i64 .i64 mb (rs.countP V) (visM V) :: blkR B 25 #[.slice (some ⟨g2, 0, none⟩) n3 capt] :: rowR 34 1 (.slice (some ⟨g2, 0, none⟩) n3 capt) n3 (nums S2) :: engR b m a A.n 2049 (E0) :: markR m a 2049 (C2) :: arenaR a A :: rowR 34 1 (.slice AS n2 caps) n2 (nums S1) :: adjR Tryz.prog 34 34 jb (ptsOf fs) :: rowR 34 1 (.slice (some ⟨g, 0, none⟩) n0 capl) n0 (nums rs) :: []), (Instr.lookup 55 (.map (some mb)) (.int .i64 (xr : Int)) false).run Tryz.prog x.w' = .ok (.int .i64 0) x.w' := fun x => by
                              have := map_get refIntOk x.h 0 rfl (wfx (x := xr) (by omega))
                              rw [visM_at, HVX.out] at this
                              simpa using this
                            repeat (go_big_quiet_step (first
                              | (go_at_call 18; exact sep_calls (HMK.out _ (SepW.h _)))
                              | (go_at_call 19; exact sep_calls (HSK.out _ (SepW.h _)))))
                            refine wpQuiet_nil ?_
                            rintro wq ⟨⟨wqx, hs⟩, rfl⟩
                            clear ylk hne0
                            go_wp2
                            go_roundw
                            case rel => exact ⟨k + 1, by omega, by go_num, hs⟩
                            case measure => simp [intOf]; omega
                          · have HMK := Lib.hid hmk
                            have HSK := Lib.hid hsk
                            clear hmk hsk
                            go_wp2
                            refine region_sep HSB.out (by kernel_rfl) (by kernel_rfl) ?_
                            intro hne0
                            have ylk : ∀ x : SepW w (mapR Tryz.prog 55 34 3 .i64 .i64 mb (rs.countP V) (visM V) :: blkR B 25 #[.slice (some ⟨g2, 0, none⟩) n3 capt] :: rowR 34 1 (.slice (some ⟨g2, 0, none⟩) n3 capt) n3 (nums S2) :: engR b m a A.n 2049 (E0) :: markR m a 2049 (C2) :: arenaR a A :: rowR 34 1 (.slice AS n2 caps) n2 (nums S1) :: adjR Tryz.prog 34 34 jb (ptsOf fs) :: rowR 34 1 (.slice (some ⟨g, 0, none⟩) n0 capl) n0 (nums rs) :: []), (Instr.lookup 55 (.map (some mb)) (.int .i64 (xr : Int)) false).run Tryz.prog x.w' = .ok (.int .i64 1) x.w' := fun x => by
                              have := map_get refIntOk x.h 0 rfl (wfx (x := xr) (by omega))
                              rw [visM_at, HVX.out] at this
                              simpa using this
                            repeat (go_big_quiet_step (first
                              | (go_at_call 18; exact sep_calls (HMK.out _ (SepW.h _)))
                              | (go_at_call 19; exact sep_calls (HSK.out _ (SepW.h _)))))
                            refine wpQuiet_nil ?_
                            rintro wq ⟨⟨wqx, hs⟩, rfl⟩
                            clear ylk hne0
                            go_wp2
                            go_roundw
                            case rel => exact ⟨k + 1, by omega, by go_num, hs⟩
                            case measure => simp [intOf]; omega
                        · obtain rfl : n0 = k := by omega
                          have HRT2 := Lib.hid (RRoots hs none 0 0)
                          clear hs
                          go_wp2_with (first
                            | (go_at_call 30; refine (HRT2.out).mono ?_; rintro e w11 ⟨B2, rfl, hs⟩; have hfi := EFinish E0 (roots_iter0 B2 none 0) enters_roots (fun z hz => by simp at hz) HGR.out.heap.wf HGR.out.size (by rw [HGR.out.n]; omega) (Eng.idle_ok HID.out _) HGR.out.heap HGR.out.nodup HGR.out.ptsIn (by rw [HRN.out]; omega) (fun z hz => by rw [HF2.out] at hz; exact HVO.out z (by rw [← HMV.out]; exact hz)) (show Sep w w11 (blkR B2 25 #[.slice none 0 0] :: engR b m a A.n 2049 (E0) :: markR m a 2049 (C2) :: arenaR a A :: mapR Tryz.prog 55 34 3 .i64 .i64 mb (rs.countP V) (visM V) :: blkR B 25 #[.slice (some ⟨g2, 0, none⟩) n3 capt] :: rowR 34 1 (.slice (some ⟨g2, 0, none⟩) n3 capt) n3 (nums S2) :: rowR 34 1 (.slice AS n2 caps) n2 (nums S1) :: adjR Tryz.prog 34 34 jb (ptsOf fs) :: rowR 34 1 (.slice AL n0 capl) n0 (nums rs) :: []) from (show Sep w w11 (blkR B2 25 #[.slice none 0 0] :: mapR Tryz.prog 55 34 3 .i64 .i64 mb (rs.countP V) (visM V) :: blkR B 25 #[.slice (some ⟨g2, 0, none⟩) n3 capt] :: rowR 34 1 (.slice (some ⟨g2, 0, none⟩) n3 capt) n3 (nums S2) :: engR b m a A.n 2049 (E0) :: markR m a 2049 (C2) :: arenaR a A :: rowR 34 1 (.slice AS n2 caps) n2 (nums S1) :: adjR Tryz.prog 34 34 jb (ptsOf fs) :: rowR 34 1 (.slice AL n0 capl) n0 (nums rs) :: []) from hs).front 7 [0, 4, 5, 6]); rw [← engV_is HEV.out b, HF2.out] at hfi; have HFI2 := Lib.hid hfi; clear hs hfi HRT2)
                            | (go_at_call 29; refine (HFI2.out).mono ?_; rintro e w12 ⟨d2, C3, rfl, hst, hno, hs⟩; obtain ⟨rfl, rfl⟩ := hst.stuck HNO.out; have HS7 := Lib.hid hs; clear hs hst hno HFI2))
                          go_ret
                          exact ⟨by first | rfl | simp, HS7.out.below⟩
                  · have HY := Lib.hid hY
                    have hYb : (e0 % 4 != 2) = true := by simpa using hY
                    clear hY
                    rcases Nat.eq_zero_or_pos n3 with h30 | h30
                    · subst h30
                      obtain rfl : S2 = [] := List.eq_nil_of_length_eq_zero HLNs2.out
                      obtain ⟨v9, w9, hrun, hs9⟩ := hs.append_row (P := Tryz.prog) (t := 25) 25 Tryz.underlying25 refInfo rfl (by decide) 3 rfl 2 rfl (nums_one _) (by unfold maxLen; omega) (by omega)
                      rw [← nums_append] at hs9
                      obtain ⟨L9, hL9⟩ : ∃ L9, n2 + 0 = L9 := ⟨_, rfl⟩
                      rw [hL9] at hs9
                      obtain ⟨A9, cap9, rfl, hcap9, hcm9⟩ := hs9.rowShape 3 rfl
                      obtain ⟨W9, hW9⟩ : ∃ W9, S1 ++ [] = W9 := ⟨_, rfl⟩
                      rw [hW9] at hs9
                      have HW9 := Lib.hid hW9
                      have HWL := Lib.hid (show W9.length = L9 by rw [← hW9, List.length_append, HLNs1.out, List.length_nil, hL9])
                      have HWI := Lib.hid (show ∀ x ∈ W9, x ∈ rs from fun x hx => by rw [← hW9] at hx; exact (List.mem_append.1 hx).elim (HINs1.out x) (HINs2.out x))
                      have hL40 : L9 ≤ 60 := by omega
                      have HRUN := Lib.hid hrun
                      have HSW := Lib.hid (show Sep w w9 (engR b m a A.n 2049 (E0) :: markR m a 2049 (Col.white.shades S1) :: rowR 34 1 (.slice AT 0 capt) 0 (nums ([] : List Nat)) :: rowR 34 1 (.slice A9 L9 cap9) L9 (nums W9) :: arenaR a A :: rowR 34 1 (.slice AL n0 capl) n0 (nums rs) :: adjR Tryz.prog 34 34 jb (ptsOf fs) :: []) from hs9)
                      clear hs hs9 hrun hL9 hW9
                      have HFX := Lib.hid (show E0.fin A ([] : List Nat) (Col.white.shades S1) = Col.white.shades W9 from by
                        rw [Eng.idle_fin HID.out, show E0.rescans = true from by rw [← HE0.out, Eng.new_rescans, decide_eq_false HY.out]; rfl]
                        rw [if_pos rfl]; rw [shades_app, HW9.out])
                      have HRE := Lib.hid (Reach11 (HGR.out.field (by rw [HRN.out]; exact hn0)) (fun x hx => HWI.out x hx) (by rw [HWL.out]; omega) (show Sep w w9 (rowR 34 1 (.slice A9 L9 cap9) W9.length (nums W9) :: adjR Tryz.prog 34 34 jb (ptsOf fs) :: engR b m a A.n 2049 (E0) :: markR m a 2049 (Col.white.shades S1) :: rowR 34 1 (.slice AT 0 capt) 0 (nums ([] : List Nat)) :: arenaR a A :: rowR 34 1 (.slice AL n0 capl) n0 (nums rs) :: []) from by rw [HWL.out]; exact HSW.out.front 7 [3, 6]))
                      clear HSW
                      go_wp2_with (first
                        | (at_builtin; refine wpList_append_run rfl _ _ _ rfl rfl rfl HRUN.out ?_; clear HRUN)
                        | (go_at_call 28; refine (HRE.out).mono ?_; rintro e w6 ⟨mb, V, rfl, hV, hVo, hs⟩; rw [HWL.out] at hs; have HV := Lib.hid hV; have HVO := Lib.hid hVo; have HRT := Lib.hid (RRoots (show Sep w w6 (mapR Tryz.prog 55 34 3 .i64 .i64 mb (rs.countP V) (visM V) :: rowR 34 1 (.slice A9 L9 cap9) L9 (nums W9) :: adjR Tryz.prog 34 34 jb (ptsOf fs) :: engR b m a A.n 2049 (E0) :: markR m a 2049 (Col.white.shades S1) :: rowR 34 1 (.slice AT 0 capt) 0 (nums ([] : List Nat)) :: arenaR a A :: rowR 34 1 (.slice AL n0 capl) n0 (nums rs) :: []) from hs) AT 0 capt); clear hs hV hVo HRE)
                        | (go_at_call 30; refine (HRT.out).mono ?_; rintro e w9_ ⟨B, rfl, hs⟩; have hfi := EFinish E0 (roots_iter0 B AT capt) enters_roots (fun z hz => by simp at hz) HGR.out.heap.wf HGR.out.size (by rw [HGR.out.n]; omega) (Eng.idle_ok HID.out _) HGR.out.heap HGR.out.nodup HGR.out.ptsIn (by rw [HRN.out]; omega) (fun z hz => by rw [HFX.out, white_mz] at hz; exact (fun x hx => HWI.out x hx) z (of_decide_eq_true hz)) (show Sep w w9_ (blkR B 25 #[.slice AT 0 capt] :: engR b m a A.n 2049 (E0) :: markR m a 2049 (Col.white.shades S1) :: arenaR a A :: mapR Tryz.prog 55 34 3 .i64 .i64 mb (rs.countP V) (visM V) :: rowR 34 1 (.slice A9 L9 cap9) L9 (nums W9) :: adjR Tryz.prog 34 34 jb (ptsOf fs) :: rowR 34 1 (.slice AT 0 capt) 0 (nums ([] : List Nat)) :: rowR 34 1 (.slice AL n0 capl) n0 (nums rs) :: []) from (show Sep w w9_ (blkR B 25 #[.slice AT 0 capt] :: mapR Tryz.prog 55 34 3 .i64 .i64 mb (rs.countP V) (visM V) :: rowR 34 1 (.slice A9 L9 cap9) L9 (nums W9) :: adjR Tryz.prog 34 34 jb (ptsOf fs) :: engR b m a A.n 2049 (E0) :: markR m a 2049 (Col.white.shades S1) :: rowR 34 1 (.slice AT 0 capt) 0 (nums ([] : List Nat)) :: arenaR a A :: rowR 34 1 (.slice AL n0 capl) n0 (nums rs) :: []) from hs).front 8 [0, 4, 5, 7]); rw [← engV_is HEV.out b, HFX.out] at hfi; have HFI := Lib.hid hfi; clear hs hfi HRT)
                        | (go_at_call 29; refine (HFI.out).mono ?_; rintro e w10 ⟨d, C2, rfl, hst, hno, hs⟩; have hwe := white_end HGR.out.nodup HGR.out.ptsIn (fun x hx => HWI.out x hx) hst hno; have hmv : ∀ x, C2.mz x = V x := (fun x => by have h1 := hwe.1 x; have h2 := HV.out x; cases e1 : C2.mz x <;> cases e2 : V x <;> simp_all); have hdv : rs.countP V = d := (by rw [← hwe.2.2]; exact List.countP_congr (fun x _ => by rw [hmv])); have HMV := Lib.hid hmv; have HSV := Lib.hid (show ∀ x, C2.sc x = V x from fun x => (hwe.2.1 x).trans (hmv x)); have HNO := Lib.hid hno; have HF2 := Lib.hid (show E0.fin A [] C2 = C2 from (by rw [Eng.idle_fin HID.out]; split <;> rfl)); have hdd : ((d : Int) != (d : Int)) = false := (by simp); have hs' := (show Sep w w10 (mapR Tryz.prog 55 34 3 .i64 .i64 mb (rs.countP V) (visM V) :: blkR B 25 #[.slice AT 0 capt] :: engR b m a A.n 2049 (E0) :: markR m a 2049 (C2) :: arenaR a A :: rowR 34 1 (.slice A9 L9 cap9) L9 (nums W9) :: adjR Tryz.prog 34 34 jb (ptsOf fs) :: rowR 34 1 (.slice AT 0 capt) 0 (nums ([] : List Nat)) :: rowR 34 1 (.slice AL n0 capl) n0 (nums rs) :: []) from (by have h1 := (show Sep w w10 (blkR B 25 #[.slice AT 0 capt] :: engR b m a A.n 2049 (E0.remark A (Col.white.shades S1)).1 :: markR m a 2049 (C2) :: arenaR a A :: mapR Tryz.prog 55 34 3 .i64 .i64 mb (rs.countP V) (visM V) :: rowR 34 1 (.slice A9 L9 cap9) L9 (nums W9) :: adjR Tryz.prog 34 34 jb (ptsOf fs) :: rowR 34 1 (.slice AT 0 capt) 0 (nums ([] : List Nat)) :: rowR 34 1 (.slice AL n0 capl) n0 (nums rs) :: []) from hs); rw [show (E0.remark A (Col.white.shades S1)).1 = E0 from by rw [Eng.idle_remark HID.out]] at h1; exact h1.front 5 [4])); have HS9 := Lib.hid hs'; have hlen := (fun ty => map_len refIntOk hs' 0 rfl ty); rw [hdv] at hlen; have HLEN2 := Lib.hid hlen; clear hs hs' hst hno hwe hmv hdv hlen HFI)
                        | (at_len; refine wpList_len_run rfl _ _ rfl rfl HLEN2.out ?_; clear HLEN2))
                      go_loopw [124] (fun i wr => ∃ k : Nat, k ≤ n0 ∧ i = .int .i64 k ∧ Sep w wr (mapR Tryz.prog 55 34 3 .i64 .i64 mb (rs.countP V) (visM V) :: blkR B 25 #[.slice AT 0 capt] :: engR b m a A.n 2049 (E0) :: markR m a 2049 (C2) :: arenaR a A :: rowR 34 1 (.slice A9 L9 cap9) L9 (nums W9) :: adjR Tryz.prog 34 34 jb (ptsOf fs) :: rowR 34 1 (.slice AT 0 capt) 0 (nums ([] : List Nat)) :: rowR 34 1 (.slice AL n0 capl) n0 (nums rs) :: [])) (fun i _ => n0 + 1 - (intOf i).toNat)
                      case atStart => exact ⟨0, by omega, rfl, HS9.out⟩
                      case round =>
                        clear HS9
                        obtain ⟨k, hk, rfl, hs⟩ := hrel
                        by_cases hlt : k < n0
                        · have hltI : (k : Int) < (n0 : Int) := by omega
                          obtain ⟨xr, hx⟩ : ∃ z_, rs[k]? = some z_ := ⟨_, List.getElem?_eq_getElem (by rw [HRN.out]; exact hlt)⟩
                          obtain ⟨g, cap', hsl, _, _⟩ := hs.rowSome 8 rfl (by omega)
                          simp only [Value.slice.injEq] at hsl
                          obtain ⟨rfl, _, rfl⟩ := hsl
                          have cx := hs.rowCell 8 rfl k _ (nums_get _ _ _ hx)
                          have hx2 := HGR.out.lt (List.mem_of_getElem? hx)
                          have HSB := Lib.hid hs
                          have hmk := fun W (S : Sep w W (mapR Tryz.prog 55 34 3 .i64 .i64 mb (rs.countP V) (visM V) :: blkR B 25 #[.slice AT 0 capt] :: engR b m a A.n 2049 (E0) :: markR m a 2049 (C2) :: arenaR a A :: rowR 34 1 (.slice A9 L9 cap9) L9 (nums W9) :: adjR Tryz.prog 34 34 jb (ptsOf fs) :: rowR 34 1 (.slice AT 0 capt) 0 (nums ([] : List Nat)) :: rowR 34 1 (.slice (some ⟨g, 0, none⟩) n0 capl) n0 (nums rs) :: [])) => KMarked S 3 rfl xr hx2.2
                          have hsk := fun W (S : Sep w W (mapR Tryz.prog 55 34 3 .i64 .i64 mb (rs.countP V) (visM V) :: blkR B 25 #[.slice AT 0 capt] :: engR b m a A.n 2049 (E0) :: markR m a 2049 (C2) :: arenaR a A :: rowR 34 1 (.slice A9 L9 cap9) L9 (nums W9) :: adjR Tryz.prog 34 34 jb (ptsOf fs) :: rowR 34 1 (.slice AT 0 capt) 0 (nums ([] : List Nat)) :: rowR 34 1 (.slice (some ⟨g, 0, none⟩) n0 capl) n0 (nums rs) :: [])) => KScanned S 3 rfl xr hx2.2
                          rw [HMV.out xr] at hmk
                          rw [HSV.out xr] at hsk
                          obtain ⟨bb, hbb⟩ : ∃ bb, V xr = bb := ⟨_, rfl⟩
                          have HVX := Lib.hid hbb
                          rw [hbb] at hmk hsk
                          clear hs hx hbb
                          try clear hYb
                          try clear hdd
                          cases bb
                          · have HMK := Lib.hid hmk
                            have HSK := Lib.hid hsk
                            clear hmk hsk
                            go_wp2
                            refine region_sep HSB.out (by kernel_rfl) (by kernel_rfl) ?_
                            intro hne0
                            have ylk : ∀ x : SepW w (mapR Tryz.prog 55 34 3 .i64 .i64 mb (rs.countP V) (visM V) :: blkR B 25 #[.slice AT 0 capt] :: engR b m a A.n 2049 (E0) :: markR m a 2049 (C2) :: arenaR a A :: rowR 34 1 (.slice A9 L9 cap9) L9 (nums W9) :: adjR Tryz.prog 34 34 jb (ptsOf fs) :: rowR 34 1 (.slice AT 0 capt) 0 (nums ([] : List Nat)) :: rowR 34 1 (.slice (some ⟨g, 0, none⟩) n0 capl) n0 (nums rs) :: []), (Instr.lookup 55 (.map (some mb)) (.int .i64 (xr : Int)) false).run Tryz.prog x.w' = .ok (.int .i64 0) x.w' := fun x => by
                              have := map_get refIntOk x.h 0 rfl (wfx (x := xr) (by omega))
                              rw [visM_at, HVX.out] at this
                              simpa using this
                            repeat (go_big_quiet_step (first
                              | (go_at_call 18; exact sep_calls (HMK.out _ (SepW.h _)))
                              | (go_at_call 19; exact sep_calls (HSK.out _ (SepW.h _)))))
                            refine wpQuiet_nil ?_
                            rintro wq ⟨⟨wqx, hs⟩, rfl⟩
                            clear ylk hne0
                            go_wp2
                            go_roundw
                            case rel => exact ⟨k + 1, by omega, by go_num, hs⟩
                            case measure => simp [intOf]; omega
                          · have HMK := Lib.hid hmk
                            have HSK := Lib.hid hsk
                            clear hmk hsk
                            go_wp2
                            refine region_sep HSB.out (by kernel_rfl) (by kernel_rfl) ?_
                            intro hne0
                            have ylk : ∀ x : SepW w (mapR Tryz.prog 55 34 3 .i64 .i64 mb (rs.countP V) (visM V) :: blkR B 25 #[.slice AT 0 capt] :: engR b m a A.n 2049 (E0) :: markR m a 2049 (C2) :: arenaR a A :: rowR 34 1 (.slice A9 L9 cap9) L9 (nums W9) :: adjR Tryz.prog 34 34 jb (ptsOf fs) :: rowR 34 1 (.slice AT 0 capt) 0 (nums ([] : List Nat)) :: rowR 34 1 (.slice (some ⟨g, 0, none⟩) n0 capl) n0 (nums rs) :: []), (Instr.lookup 55 (.map (some mb)) (.int .i64 (xr : Int)) false).run Tryz.prog x.w' = .ok (.int .i64 1) x.w' := fun x => by
                              have := map_get refIntOk x.h 0 rfl (wfx (x := xr) (by omega))
                              rw [visM_at, HVX.out] at this
                              simpa using this
                            repeat (go_big_quiet_step (first
                              | (go_at_call 18; exact sep_calls (HMK.out _ (SepW.h _)))
                              | (go_at_call 19; exact sep_calls (HSK.out _ (SepW.h _)))))
                            refine wpQuiet_nil ?_
                            rintro wq ⟨⟨wqx, hs⟩, rfl⟩
                            clear ylk hne0
                            go_wp2
                            go_roundw
                            case rel => exact ⟨k + 1, by omega, by go_num, hs⟩
                            case measure => simp [intOf]; omega
                        · obtain rfl : n0 = k := by omega
                          have HRT2 := Lib.hid (RRoots hs none 0 0)
                          clear hs
                          go_wp2_with (first
                            | (go_at_call 30; refine (HRT2.out).mono ?_; rintro e w11 ⟨B2, rfl, hs⟩; have hfi := EFinish E0 (roots_iter0 B2 none 0) enters_roots (fun z hz => by simp at hz) HGR.out.heap.wf HGR.out.size (by rw [HGR.out.n]; omega) (Eng.idle_ok HID.out _) HGR.out.heap HGR.out.nodup HGR.out.ptsIn (by rw [HRN.out]; omega) (fun z hz => by rw [HF2.out] at hz; exact HVO.out z (by rw [← HMV.out]; exact hz)) (show Sep w w11 (blkR B2 25 #[.slice none 0 0] :: engR b m a A.n 2049 (E0) :: markR m a 2049 (C2) :: arenaR a A :: mapR Tryz.prog 55 34 3 .i64 .i64 mb (rs.countP V) (visM V) :: blkR B 25 #[.slice AT 0 capt] :: rowR 34 1 (.slice A9 L9 cap9) L9 (nums W9) :: adjR Tryz.prog 34 34 jb (ptsOf fs) :: rowR 34 1 (.slice AT 0 capt) 0 (nums ([] : List Nat)) :: rowR 34 1 (.slice AL n0 capl) n0 (nums rs) :: []) from (show Sep w w11 (blkR B2 25 #[.slice none 0 0] :: mapR Tryz.prog 55 34 3 .i64 .i64 mb (rs.countP V) (visM V) :: blkR B 25 #[.slice AT 0 capt] :: engR b m a A.n 2049 (E0) :: markR m a 2049 (C2) :: arenaR a A :: rowR 34 1 (.slice A9 L9 cap9) L9 (nums W9) :: adjR Tryz.prog 34 34 jb (ptsOf fs) :: rowR 34 1 (.slice AT 0 capt) 0 (nums ([] : List Nat)) :: rowR 34 1 (.slice AL n0 capl) n0 (nums rs) :: []) from hs).front 6 [0, 3, 4, 5]); rw [← engV_is HEV.out b, HF2.out] at hfi; have HFI2 := Lib.hid hfi; clear hs hfi HRT2)
                            | (go_at_call 29; refine (HFI2.out).mono ?_; rintro e w12 ⟨d2, C3, rfl, hst, hno, hs⟩; obtain ⟨rfl, rfl⟩ := hst.stuck HNO.out; have HS7 := Lib.hid hs; clear hs hst hno HFI2))
                          go_ret
                          exact ⟨by first | rfl | simp, HS7.out.below⟩
                    · obtain ⟨g2, cap2_, hsl2, _, _⟩ := hs.rowSome 2 rfl h30
                      simp only [Value.slice.injEq] at hsl2
                      obtain ⟨rfl, _, rfl⟩ := hsl2
                      obtain ⟨v9, w9, hrun, hs9⟩ := hs.append_row (P := Tryz.prog) (t := 25) 25 Tryz.underlying25 refInfo rfl (by decide) 3 rfl 2 rfl (nums_one _) (by unfold maxLen; omega) (by omega)
                      rw [← nums_append] at hs9
                      obtain ⟨L9, hL9⟩ : ∃ L9, n2 + n3 = L9 := ⟨_, rfl⟩
                      rw [hL9] at hs9
                      obtain ⟨A9, cap9, rfl, hcap9, hcm9⟩ := hs9.rowShape 3 rfl
                      obtain ⟨W9, hW9⟩ : ∃ W9, S1 ++ S2 = W9 := ⟨_, rfl⟩
                      rw [hW9] at hs9
                      have HW9 := Lib.hid hW9
                      have HWL := Lib.hid (show W9.length = L9 by rw [← hW9, List.length_append, HLNs1.out, HLNs2.out, hL9])
                      have HWI := Lib.hid (show ∀ x ∈ W9, x ∈ rs from fun x hx => by rw [← hW9] at hx; exact (List.mem_append.1 hx).elim (HINs1.out x) (HINs2.out x))
                      have hL40 : L9 ≤ 60 := by omega
                      have HRUN := Lib.hid hrun
                      have HSW := Lib.hid (show Sep w w9 (engR b m a A.n 2049 (E0) :: markR m a 2049 (Col.white.shades S1) :: rowR 34 1 (.slice (some ⟨g2, 0, none⟩) n3 capt) n3 (nums S2) :: rowR 34 1 (.slice A9 L9 cap9) L9 (nums W9) :: arenaR a A :: rowR 34 1 (.slice AL n0 capl) n0 (nums rs) :: adjR Tryz.prog 34 34 jb (ptsOf fs) :: []) from hs9)
                      clear hs hs9 hrun hL9 hW9
                      have HFX := Lib.hid (show E0.fin A (S2.take n3) (Col.white.shades S1) = Col.white.shades W9 from by
                        rw [Eng.idle_fin HID.out, show E0.rescans = true from by rw [← HE0.out, Eng.new_rescans, decide_eq_false HY.out]; rfl]
                        rw [if_pos rfl]; rw [List.take_of_length_le (by rw [HLNs2.out]; omega)]; rw [shades_app, HW9.out])
                      have HRE := Lib.hid (Reach11 (HGR.out.field (by rw [HRN.out]; exact hn0)) (fun x hx => HWI.out x hx) (by rw [HWL.out]; omega) (show Sep w w9 (rowR 34 1 (.slice A9 L9 cap9) W9.length (nums W9) :: adjR Tryz.prog 34 34 jb (ptsOf fs) :: engR b m a A.n 2049 (E0) :: markR m a 2049 (Col.white.shades S1) :: rowR 34 1 (.slice (some ⟨g2, 0, none⟩) n3 capt) n3 (nums S2) :: arenaR a A :: rowR 34 1 (.slice AL n0 capl) n0 (nums rs) :: []) from by rw [HWL.out]; exact HSW.out.front 7 [3, 6]))
                      clear HSW
                      go_wp2_with (first
                        | (at_builtin; refine wpList_append_run rfl _ _ _ rfl rfl rfl HRUN.out ?_; clear HRUN)
                        | (go_at_call 28; refine (HRE.out).mono ?_; rintro e w6 ⟨mb, V, rfl, hV, hVo, hs⟩; rw [HWL.out] at hs; have HV := Lib.hid hV; have HVO := Lib.hid hVo; have HRT := Lib.hid (RRoots (show Sep w w6 (mapR Tryz.prog 55 34 3 .i64 .i64 mb (rs.countP V) (visM V) :: rowR 34 1 (.slice A9 L9 cap9) L9 (nums W9) :: adjR Tryz.prog 34 34 jb (ptsOf fs) :: engR b m a A.n 2049 (E0) :: markR m a 2049 (Col.white.shades S1) :: rowR 34 1 (.slice (some ⟨g2, 0, none⟩) n3 capt) n3 (nums S2) :: arenaR a A :: rowR 34 1 (.slice AL n0 capl) n0 (nums rs) :: []) from hs) (some ⟨g2, 0, none⟩) n3 capt); clear hs hV hVo HRE)
                        | (go_at_call 30; refine (HRT.out).mono ?_; rintro e w9_ ⟨B, rfl, hs⟩; have hfi := EFinish E0 (roots_iter B g2 n3 capt n3 capt S2 (by omega) HLNs2.out (by omega)) enters_roots (fun z hz => HGR.out.lt (HINs2.out z (List.mem_of_mem_take hz))) HGR.out.heap.wf HGR.out.size (by rw [HGR.out.n]; omega) (Eng.idle_ok HID.out _) HGR.out.heap HGR.out.nodup HGR.out.ptsIn (by rw [HRN.out]; omega) (fun z hz => by rw [HFX.out, white_mz] at hz; exact (fun x hx => HWI.out x hx) z (of_decide_eq_true hz)) (show Sep w w9_ (blkR B 25 #[.slice (some ⟨g2, 0, none⟩) n3 capt] :: rowR 34 1 (.slice (some ⟨g2, 0, none⟩) n3 capt) n3 (nums S2) :: engR b m a A.n 2049 (E0) :: markR m a 2049 (Col.white.shades S1) :: arenaR a A :: mapR Tryz.prog 55 34 3 .i64 .i64 mb (rs.countP V) (visM V) :: rowR 34 1 (.slice A9 L9 cap9) L9 (nums W9) :: adjR Tryz.prog 34 34 jb (ptsOf fs) :: rowR 34 1 (.slice AL n0 capl) n0 (nums rs) :: []) from (show Sep w w9_ (blkR B 25 #[.slice (some ⟨g2, 0, none⟩) n3 capt] :: mapR Tryz.prog 55 34 3 .i64 .i64 mb (rs.countP V) (visM V) :: rowR 34 1 (.slice A9 L9 cap9) L9 (nums W9) :: adjR Tryz.prog 34 34 jb (ptsOf fs) :: engR b m a A.n 2049 (E0) :: markR m a 2049 (Col.white.shades S1) :: rowR 34 1 (.slice (some ⟨g2, 0, none⟩) n3 capt) n3 (nums S2) :: arenaR a A :: rowR 34 1 (.slice AL n0 capl) n0 (nums rs) :: []) from hs).front 8 [0, 6, 4, 5, 7]); rw [← engV_is HEV.out b, HFX.out] at hfi; have HFI := Lib.hid hfi; clear hs hfi HRT)
                        | (go_at_call 29; refine (HFI.out).mono ?_; rintro e w10 ⟨d, C2, rfl, hst, hno, hs⟩; have hwe := white_end HGR.out.nodup HGR.out.ptsIn (fun x hx => HWI.out x hx) hst hno; have hmv : ∀ x, C2.mz x = V x := (fun x => by have h1 := hwe.1 x; have h2 := HV.out x; cases e1 : C2.mz x <;> cases e2 : V x <;> simp_all); have hdv : rs.countP V = d := (by rw [← hwe.2.2]; exact List.countP_congr (fun x _ => by rw [hmv])); have HMV := Lib.hid hmv; have HSV := Lib.hid (show ∀ x, C2.sc x = V x from fun x => (hwe.2.1 x).trans (hmv x)); have HNO := Lib.hid hno; have HF2 := Lib.hid (show E0.fin A [] C2 = C2 from (by rw [Eng.idle_fin HID.out]; split <;> rfl)); have hdd : ((d : Int) != (d : Int)) = false := (by simp); have hs' := (show Sep w w10 (mapR Tryz.prog 55 34 3 .i64 .i64 mb (rs.countP V) (visM V) :: blkR B 25 #[.slice (some ⟨g2, 0, none⟩) n3 capt] :: rowR 34 1 (.slice (some ⟨g2, 0, none⟩) n3 capt) n3 (nums S2) :: engR b m a A.n 2049 (E0) :: markR m a 2049 (C2) :: arenaR a A :: rowR 34 1 (.slice A9 L9 cap9) L9 (nums W9) :: adjR Tryz.prog 34 34 jb (ptsOf fs) :: rowR 34 1 (.slice AL n0 capl) n0 (nums rs) :: []) from (by have h1 := (show Sep w w10 (blkR B 25 #[.slice (some ⟨g2, 0, none⟩) n3 capt] :: rowR 34 1 (.slice (some ⟨g2, 0, none⟩) n3 capt) n3 (nums S2) :: engR b m a A.n 2049 (E0.remark A (Col.white.shades S1)).1 :: markR m a 2049 (C2) :: arenaR a A :: mapR Tryz.prog 55 34 3 .i64 .i64 mb (rs.countP V) (visM V) :: rowR 34 1 (.slice A9 L9 cap9) L9 (nums W9) :: adjR Tryz.prog 34 34 jb (ptsOf fs) :: rowR 34 1 (.slice AL n0 capl) n0 (nums rs) :: []) from hs); rw [show (E0.remark A (Col.white.shades S1)).1 = E0 from by rw [Eng.idle_remark HID.out]] at h1; exact h1.front 6 [5])); have HS9 := Lib.hid hs'; have hlen := (fun ty => map_len refIntOk hs' 0 rfl ty); rw [hdv] at hlen; have HLEN2 := Lib.hid hlen; clear hs hs' hst hno hwe hmv hdv hlen HFI)
                        | (at_len; refine wpList_len_run rfl _ _ rfl rfl HLEN2.out ?_; clear HLEN2))
                      go_loopw [124] (fun i wr => ∃ k : Nat, k ≤ n0 ∧ i = .int .i64 k ∧ Sep w wr (mapR Tryz.prog 55 34 3 .i64 .i64 mb (rs.countP V) (visM V) :: blkR B 25 #[.slice (some ⟨g2, 0, none⟩) n3 capt] :: rowR 34 1 (.slice (some ⟨g2, 0, none⟩) n3 capt) n3 (nums S2) :: engR b m a A.n 2049 (E0) :: markR m a 2049 (C2) :: arenaR a A :: rowR 34 1 (.slice A9 L9 cap9) L9 (nums W9) :: adjR Tryz.prog 34 34 jb (ptsOf fs) :: rowR 34 1 (.slice AL n0 capl) n0 (nums rs) :: [])) (fun i _ => n0 + 1 - (intOf i).toNat)
                      case atStart => exact ⟨0, by omega, rfl, HS9.out⟩
                      case round =>
                        clear HS9
                        obtain ⟨k, hk, rfl, hs⟩ := hrel
                        by_cases hlt : k < n0
                        · have hltI : (k : Int) < (n0 : Int) := by omega
                          obtain ⟨xr, hx⟩ : ∃ z_, rs[k]? = some z_ := ⟨_, List.getElem?_eq_getElem (by rw [HRN.out]; exact hlt)⟩
                          obtain ⟨g, cap', hsl, _, _⟩ := hs.rowSome 8 rfl (by omega)
                          simp only [Value.slice.injEq] at hsl
                          obtain ⟨rfl, _, rfl⟩ := hsl
                          have cx := hs.rowCell 8 rfl k _ (nums_get _ _ _ hx)
                          have hx2 := HGR.out.lt (List.mem_of_getElem? hx)
                          have HSB := Lib.hid hs
                          have hmk := fun W (S : Sep w W (mapR Tryz.prog 55 34 3 .i64 .i64 mb (rs.countP V) (visM V) :: blkR B 25 #[.slice (some ⟨g2, 0, none⟩) n3 capt] :: rowR 34 1 (.slice (some ⟨g2, 0, none⟩) n3 capt) n3 (nums S2) :: engR b m a A.n 2049 (E0) :: markR m a 2049 (C2) :: arenaR a A :: rowR 34 1 (.slice A9 L9 cap9) L9 (nums W9) :: adjR Tryz.prog 34 34 jb (ptsOf fs) :: rowR 34 1 (.slice (some ⟨g, 0, none⟩) n0 capl) n0 (nums rs) :: [])) => KMarked S 4 rfl xr hx2.2
                          have hsk := fun W (S : Sep w W (mapR Tryz.prog 55 34 3 .i64 .i64 mb (rs.countP V) (visM V) :: blkR B 25 #[.slice (some ⟨g2, 0, none⟩) n3 capt] :: rowR 34 1 (.slice (some ⟨g2, 0, none⟩) n3 capt) n3 (nums S2) :: engR b m a A.n 2049 (E0) :: markR m a 2049 (C2) :: arenaR a A :: rowR 34 1 (.slice A9 L9 cap9) L9 (nums W9) :: adjR Tryz.prog 34 34 jb (ptsOf fs) :: rowR 34 1 (.slice (some ⟨g, 0, none⟩) n0 capl) n0 (nums rs) :: [])) => KScanned S 4 rfl xr hx2.2
                          rw [HMV.out xr] at hmk
                          rw [HSV.out xr] at hsk
                          obtain ⟨bb, hbb⟩ : ∃ bb, V xr = bb := ⟨_, rfl⟩
                          have HVX := Lib.hid hbb
                          rw [hbb] at hmk hsk
                          clear hs hx hbb
                          try clear hYb
                          try clear hdd
                          cases bb
                          · have HMK := Lib.hid hmk
                            have HSK := Lib.hid hsk
                            clear hmk hsk
                            go_wp2
                            refine region_sep HSB.out (by kernel_rfl) (by kernel_rfl) ?_
                            intro hne0
                            have ylk : ∀ x : SepW w (mapR Tryz.prog 55 34 3 .i64 .i64 mb (rs.countP V) (visM V) :: blkR B 25 #[.slice (some ⟨g2, 0, none⟩) n3 capt] :: rowR 34 1 (.slice (some ⟨g2, 0, none⟩) n3 capt) n3 (nums S2) :: engR b m a A.n 2049 (E0) :: markR m a 2049 (C2) :: arenaR a A :: rowR 34 1 (.slice A9 L9 cap9) L9 (nums W9) :: adjR Tryz.prog 34 34 jb (ptsOf fs) :: rowR 34 1 (.slice (some ⟨g, 0, none⟩) n0 capl) n0 (nums rs) :: []), (Instr.lookup 55 (.map (some mb)) (.int .i64 (xr : Int)) false).run Tryz.prog x.w' = .ok (.int .i64 0) x.w' := fun x => by
                              have := map_get refIntOk x.h 0 rfl (wfx (x := xr) (by omega))
                              rw [visM_at, HVX.out] at this
                              simpa using this
                            repeat (go_big_quiet_step (first
                              | (go_at_call 18; exact sep_calls (HMK.out _ (SepW.h _)))
                              | (go_at_call 19; exact sep_calls (HSK.out _ (SepW.h _)))))
                            refine wpQuiet_nil ?_
                            rintro wq ⟨⟨wqx, hs⟩, rfl⟩
                            clear ylk hne0
                            go_wp2
                            go_roundw
                            case rel => exact ⟨k + 1, by omega, by go_num, hs⟩
                            case measure => simp [intOf]; omega
                          · have HMK := Lib.hid hmk
                            have HSK := Lib.hid hsk
                            clear hmk hsk
                            go_wp2
                            refine region_sep HSB.out (by kernel_rfl) (by kernel_rfl) ?_
                            intro hne0
                            have ylk : ∀ x : SepW w (mapR Tryz.prog 55 34 3 .i64 .i64 mb (rs.countP V) (visM V) :: blkR B 25 #[.slice (some ⟨g2, 0, none⟩) n3 capt] :: rowR 34 1 (.slice (some ⟨g2, 0, none⟩) n3 capt) n3 (nums S2) :: engR b m a A.n 2049 (E0) :: markR m a 2049 (C2) :: arenaR a A :: rowR 34 1 (.slice A9 L9 cap9) L9 (nums W9) :: adjR Tryz.prog 34 34 jb (ptsOf fs) :: rowR 34 1 (.slice (some ⟨g, 0, none⟩) n0 capl) n0 (nums rs) :: []), (Instr.lookup 55 (.map (some mb)) (.int .i64 (xr : Int)) false).run Tryz.prog x.w' = .ok (.int .i64 1) x.w' := fun x => by
                              have := map_get refIntOk x.h 0 rfl (wfx (x := xr) (by omega))
                              rw [visM_at, HVX.out] at this
                              simpa using this
                            repeat (go_big_quiet_step (first
                              | (go_at_call 18; exact sep_calls (HMK.out _ (SepW.h _)))
                              | (go_at_call 19; exact sep_calls (HSK.out _ (SepW.h _)))))
                            refine wpQuiet_nil ?_
                            rintro wq ⟨⟨wqx, hs⟩, rfl⟩
                            clear ylk hne0
                            go_wp2
                            go_roundw
                            case rel => exact ⟨k + 1, by omega, by go_num, hs⟩
                            case measure => simp [intOf]; omega
                        · obtain rfl : n0 = k := by omega
                          have HRT2 := Lib.hid (RRoots hs none 0 0)
                          clear hs
                          go_wp2_with (first
                            | (go_at_call 30; refine (HRT2.out).mono ?_; rintro e w11 ⟨B2, rfl, hs⟩; have hfi := EFinish E0 (roots_iter0 B2 none 0) enters_roots (fun z hz => by simp at hz) HGR.out.heap.wf HGR.out.size (by rw [HGR.out.n]; omega) (Eng.idle_ok HID.out _) HGR.out.heap HGR.out.nodup HGR.out.ptsIn (by rw [HRN.out]; omega) (fun z hz => by rw [HF2.out] at hz; exact HVO.out z (by rw [← HMV.out]; exact hz)) (show Sep w w11 (blkR B2 25 #[.slice none 0 0] :: engR b m a A.n 2049 (E0) :: markR m a 2049 (C2) :: arenaR a A :: mapR Tryz.prog 55 34 3 .i64 .i64 mb (rs.countP V) (visM V) :: blkR B 25 #[.slice (some ⟨g2, 0, none⟩) n3 capt] :: rowR 34 1 (.slice (some ⟨g2, 0, none⟩) n3 capt) n3 (nums S2) :: rowR 34 1 (.slice A9 L9 cap9) L9 (nums W9) :: adjR Tryz.prog 34 34 jb (ptsOf fs) :: rowR 34 1 (.slice AL n0 capl) n0 (nums rs) :: []) from (show Sep w w11 (blkR B2 25 #[.slice none 0 0] :: mapR Tryz.prog 55 34 3 .i64 .i64 mb (rs.countP V) (visM V) :: blkR B 25 #[.slice (some ⟨g2, 0, none⟩) n3 capt] :: rowR 34 1 (.slice (some ⟨g2, 0, none⟩) n3 capt) n3 (nums S2) :: engR b m a A.n 2049 (E0) :: markR m a 2049 (C2) :: arenaR a A :: rowR 34 1 (.slice A9 L9 cap9) L9 (nums W9) :: adjR Tryz.prog 34 34 jb (ptsOf fs) :: rowR 34 1 (.slice AL n0 capl) n0 (nums rs) :: []) from hs).front 7 [0, 4, 5, 6]); rw [← engV_is HEV.out b, HF2.out] at hfi; have HFI2 := Lib.hid hfi; clear hs hfi HRT2)
                            | (go_at_call 29; refine (HFI2.out).mono ?_; rintro e w12 ⟨d2, C3, rfl, hst, hno, hs⟩; obtain ⟨rfl, rfl⟩ := hst.stuck HNO.out; have HS7 := Lib.hid hs; clear hs hst hno HFI2))
                          go_ret
                          exact ⟨by first | rfl | simp, HS7.out.below⟩
  · by_cases hsm : n0 ≤ 40 ∧ n1 ≤ 120
    · have HSD := Lib.hid (show (decide (n0 ≤ 40) && decide (n1 ≤ 120)) = true by rw [decide_eq_true hsm.1, decide_eq_true hsm.2]; rfl)
      have hnlI : (30 : Int) < (n2 : Int) + (n3 : Int) := by
        have : ¬ n2 + n3 ≤ 30 := fun h => hsmall ⟨hsm.1, hsm.2, h⟩
        omega
      clear hsm hsmall
      go_wp2_with (first
        | (go_at_call 24; refine (fit16 _).mono ?_; rintro e w1 ⟨rfl, hC⟩; have hs1 := HS0.out.same hC; have p0 := (hs1.blk 1 rfl).cell 0; have p1 := (hs1.blk 1 rfl).cell 1; have q0 := (hs1.blk 2 rfl).cell 0; have q1 := (hs1.blk 2 rfl).cell 1; have q2 := (hs1.blk 2 rfl).cell 2; have q3 := (hs1.blk 2 rfl).cell 3; have q4 := (hs1.blk 2 rfl).cell 4; have q5 := (hs1.blk 2 rfl).cell 5; have f0 := (hs1.blk 0 rfl).cell 0; have f1 := (hs1.blk 0 rfl).cell 1; simp only [List.getElem?_toArray, List.getElem?_cons_zero, List.getElem?_cons_succ] at p0 p1 q0 q1 q2 q3 q4 q5 f0 f1; have HS1 := Lib.hid hs1; clear hC hs1 HS0)
        | (go_at_call 25; refine (Small11 _ A0 n0 c0 A1 n1 c1).mono ?_; rw [HSD.out]; rintro e w2 ⟨rfl, hC⟩; clear p0 p1 q0 q1 q2 q3 q4 q5 f0 f1; have hs1 := HS1.out.same hC; have f0 := (hs1.blk 0 rfl).cell 0; have f1 := (hs1.blk 0 rfl).cell 1; simp only [List.getElem?_toArray, List.getElem?_cons_zero, List.getElem?_cons_succ] at f0 f1; have HS2 := Lib.hid hs1; clear hC hs1 HS1))
      go_ret
      exact ⟨rfl, HS2.out.below⟩
    · have HSD := Lib.hid (show (decide (n0 ≤ 40) && decide (n1 ≤ 120)) = false by
        rw [Bool.and_eq_false_iff]
        by_cases h : n0 ≤ 40
        · exact .inr (decide_eq_false fun h2 => hsm ⟨h, h2⟩)
        · exact .inl (decide_eq_false h))
      clear hsm hsmall
      go_wp2_with (first
        | (go_at_call 24; refine (fit16 _).mono ?_; rintro e w1 ⟨rfl, hC⟩; have hs1 := HS0.out.same hC; have p0 := (hs1.blk 1 rfl).cell 0; have p1 := (hs1.blk 1 rfl).cell 1; have q0 := (hs1.blk 2 rfl).cell 0; have q1 := (hs1.blk 2 rfl).cell 1; have q2 := (hs1.blk 2 rfl).cell 2; have q3 := (hs1.blk 2 rfl).cell 3; have q4 := (hs1.blk 2 rfl).cell 4; have q5 := (hs1.blk 2 rfl).cell 5; have f0 := (hs1.blk 0 rfl).cell 0; have f1 := (hs1.blk 0 rfl).cell 1; simp only [List.getElem?_toArray, List.getElem?_cons_zero, List.getElem?_cons_succ] at p0 p1 q0 q1 q2 q3 q4 q5 f0 f1; have HS1 := Lib.hid hs1; clear hC hs1 HS0)
        | (go_at_call 25; refine (Small11 _ A0 n0 c0 A1 n1 c1).mono ?_; rw [HSD.out]; rintro e w2 ⟨rfl, hC⟩; clear p0 p1 q0 q1 q2 q3 q4 q5 f0 f1; have HS2 := Lib.hid (HS1.out.same hC); clear hC HS1))
      go_ret
      exact ⟨rfl, HS2.out.below⟩
end Go.Proofs.YtbcabjpafeocgaaGreat
