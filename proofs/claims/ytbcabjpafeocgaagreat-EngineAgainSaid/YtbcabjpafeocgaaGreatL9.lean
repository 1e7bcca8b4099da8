/-
  Parts of the proof, joined: EngineAgainW. Conditions: as each part says.
-/
import Derived.Test.YtbcabjpafeocgaaGreatL8
import Derived.Test.YtbcabjpafeocgaaGreatL1
import Derived.Test.YtbcabjpafeocgaaGreatL5
import Derived.StillTailTactics

/-
  The walk of EngineAgain. Conditions: as the theorem says.
-/
namespace Go.Proofs.YtbcabjpafeocgaaGreat
set_option linter.unusedVariables false
set_option linter.unusedSimpArgs false
open Go.RowKit Go.Shelf

theorem Eng.post_T (E : Eng) (A : AR) (src old new : Nat) (black early : Bool) (C : Col) : engT (E.post A src old new black early C).1 = engT E := by cases E <;> rfl
theorem Eng.reset_T (E : Eng) : engT E.reset = engT E := by cases E <;> rfl
theorem engV_is {E : Eng} {et : TypeId} (h : engT E = et) (b : Nat) : Value.iface et (.pointer (some ⟨b, 0, none⟩)) = engV b E := by unfold engV; rw [h]
theorem nilAhead_post {et : TypeId} {E : Eng} (h : engT E = et) (b : Nat) (W : World) : (nilAhead (Tryz.prog.types.size + Made.depth) et (.pointer (some ⟨b, 0, none⟩)) "Post").run Tryz.prog W = .ok (some false) W := by
  subst h
  cases E <;> kernel_rfl
theorem take_in {rs : List Nat} {k x : Nat} (h : x ∈ rs.take k) : x ∈ rs := List.mem_of_mem_take h
set_option maxRecDepth 100000 in
set_option maxHeartbeats 16000000 in
theorem engineAgain_walk (e0 e1 e2 e3 e4 e5 : Int) (A0 : Option Addr) (n0 c0 : Nat) (D0 : Nat → Nat → Int) (A1 : Option Addr) (n1 c1 : Nat) (D1 : Nat → Nat → Int) (A2 : Option Addr) (n2 c2 : Nat) (D2 : Nat → Nat → Int) (w : World) (he0 : (Lit.int .u8 e0).wf = true) (he1 : (Lit.int .u8 e1).wf = true) (he2 : (Lit.int .u8 e2).wf = true) (he3 : (Lit.int .u8 e3).wf = true) (he4 : (Lit.int .u8 e4).wf = true) (he5 : (Lit.int .u8 e5).wf = true) (hz0 : ArgI w A0 n0 [.u8] D0) (hm0 : n0 ≤ maxLen) (hz1 : ArgI w A1 n1 [.u16, .u16, .u16] D1) (hm1 : n1 ≤ maxLen) (hz2 : ArgI w A2 n2 [.u8, .u8, .u8, .u8] D2) (hm2 : n2 ≤ maxLen) :
    Calls Tryz.prog 8 #[.agg #[.int .u8 e0, .int .u8 e1, .int .u8 e2, .int .u8 e3, .int .u8 e4, .int .u8 e5], .agg #[.slice A0 n0 c0, .slice A1 n1 c1], .slice A2 n2 c2] w fun e w' => e = .returned (.bool true) ∧ Below w.heap.size w w' := by
  have HZ0 := Lib.hid hz0
  have HZ1 := Lib.hid hz1
  have HZ2 := Lib.hid hz2
  unfold maxLen at hm0 hm1
  try unfold maxLen at hm2
  clear hz0 hz1 hz2
  obtain ⟨T, hT⟩ : ∃ T, w.heap.size = T := ⟨_, rfl⟩
  have hs0 := ((Sep.start w).box #[.int .u8 e0, .int .u8 e1, .int .u8 e2, .int .u8 e3, .int .u8 e4, .int .u8 e5] 47).box #[.slice A0 n0 c0, .slice A1 n1 c1] 30
  rw [World.size_alloc, hT] at hs0
  have HS0 := Lib.hid hs0
  clear hs0
  have hw0_ := wf8 he0
  have hw1_ := wf8 he1
  have hw2_ := wf8 he2
  have hw3_ := wf8 he3
  have hw4_ := wf8 he4
  have hw5_ := wf8 he5
  go_enter Tryz.func8, Tryz.ntmps8
  by_cases hsmall : n0 ≤ 40 ∧ n1 ≤ 120 ∧ n2 ≤ 60
  · have hsd : (decide (n0 ≤ 40) && decide (n1 ≤ 120)) = true := by rw [decide_eq_true hsmall.1, decide_eq_true hsmall.2.1]; rfl
    have HSD := Lib.hid hsd
    obtain ⟨hn0, hn1, hnl⟩ := hsmall
    have hnlI : ¬ (60 : Int) < (n2 : Int) := by omega
    clear hsd
    by_cases hz : n0 = 0
    · have hzb : ((n0 : Int) == 0) = true := by simp; omega
      have hzd : decide ((n0 : Int) = 0) = true := decide_eq_true (by omega)
      clear hz
      go_wp2_with (first
        | (go_at_call 24; refine (fit16 _).mono ?_; rintro e w1 ⟨rfl, hC⟩; have hs1 := HS0.out.same hC; have p0 := (hs1.blk 0 rfl).cell 0; have p1 := (hs1.blk 0 rfl).cell 1; have q0 := (hs1.blk 1 rfl).cell 0; have q1 := (hs1.blk 1 rfl).cell 1; have q2 := (hs1.blk 1 rfl).cell 2; have q3 := (hs1.blk 1 rfl).cell 3; have q4 := (hs1.blk 1 rfl).cell 4; have q5 := (hs1.blk 1 rfl).cell 5; simp only [List.getElem?_toArray, List.getElem?_cons_zero, List.getElem?_cons_succ] at p0 p1 q0 q1 q2 q3 q4 q5; have HS1 := Lib.hid hs1; clear hC hs1 HS0)
        | (go_at_call 25; refine (Small11 _ A0 n0 c0 A1 n1 c1).mono ?_; rw [HSD.out]; rintro e w2 ⟨rfl, hC⟩; clear p0 p1 q0 q1 q2 q3 q4 q5; have hs1 := HS1.out.same hC; have p0 := (hs1.blk 0 rfl).cell 0; have p1 := (hs1.blk 0 rfl).cell 1; have q0 := (hs1.blk 1 rfl).cell 0; have q1 := (hs1.blk 1 rfl).cell 1; have q2 := (hs1.blk 1 rfl).cell 2; have q3 := (hs1.blk 1 rfl).cell 3; have q4 := (hs1.blk 1 rfl).cell 4; have q5 := (hs1.blk 1 rfl).cell 5; simp only [List.getElem?_toArray, List.getElem?_cons_zero, List.getElem?_cons_succ] at p0 p1 q0 q1 q2 q3 q4 q5; have HS2 := Lib.hid hs1; clear hC hs1 HS1)
        | (go_at_call 26; refine (Made08 _ e0 e1 e2 e3 e4 e5 (wf8 he0) (wf8 he1) (wf8 he2) (wf8 he3) (wf8 he4) (wf8 he5)).mono ?_; rintro e w2_ ⟨vc, rfl, ⟨bl, cp, ct, cr, cs, cg, cf, mk, lg, bu, rfl, hmk1, hmk2, hlg1, hlg2⟩, hC⟩; unfold confV; clear p0 p1; have hs2 := (HS2.out.same hC).box #[.int .i64 (e0 % 4), .bool bl, .int .i64 cp, .int .i64 ct, .int .i64 cr, .int .i64 cs, .int .i64 cg, .int .i64 cf, .int .i64 mk, .int .i64 lg, .int .i64 bu] 50; obtain ⟨TC, hTC⟩ : ∃ TC, w2_.heap.size = TC := ⟨_, rfl⟩; rw [hTC] at hs2; have p0 := (hs2.blk 1 rfl).cell 0; have p1 := (hs2.blk 1 rfl).cell 1; have z0 := (hs2.blk 0 rfl).cell 0; have z1 := (hs2.blk 0 rfl).cell 1; have z2 := (hs2.blk 0 rfl).cell 2; have z3 := (hs2.blk 0 rfl).cell 3; have z4 := (hs2.blk 0 rfl).cell 4; have z5 := (hs2.blk 0 rfl).cell 5; have z6 := (hs2.blk 0 rfl).cell 6; have z7 := (hs2.blk 0 rfl).cell 7; have z8 := (hs2.blk 0 rfl).cell 8; have z9 := (hs2.blk 0 rfl).cell 9; have z10 := (hs2.blk 0 rfl).cell 10; simp only [List.getElem?_toArray, List.getElem?_cons_zero, List.getElem?_cons_succ] at p0 p1 z0 z1 z2 z3 z4 z5 z6 z7 z8 z9 z10; have z0f := (hs2.blk 0 rfl).frozen 0; have HS2b := Lib.hid hs2; clear hC hs2 HS2)
        | (go_at_call 11; refine (Made11 A0 n0 c0 D0 A1 n1 c1 D1 HZ0.out HZ1.out hn0 hn1 HS2b.out).mono ?_; rintro e w3 ⟨a, jb, v, A, rs, fs, rfl, hgr, hlen, hs⟩; rw [hlen] at hs; obtain ⟨AL, capl, rfl, hcapl, hmcapl⟩ := hs.rowShape 1 rfl; unfold maxLen at hmcapl; clear z0 z1 z2 z3 z4 z5 z6 z7 z8 z9 z10; have z0 := (hs.blk 3 rfl).cell 0; have z1 := (hs.blk 3 rfl).cell 1; have z2 := (hs.blk 3 rfl).cell 2; have z3 := (hs.blk 3 rfl).cell 3; have z4 := (hs.blk 3 rfl).cell 4; have z5 := (hs.blk 3 rfl).cell 5; have z6 := (hs.blk 3 rfl).cell 6; have z7 := (hs.blk 3 rfl).cell 7; have z8 := (hs.blk 3 rfl).cell 8; have z9 := (hs.blk 3 rfl).cell 9; have z10 := (hs.blk 3 rfl).cell 10; simp only [List.getElem?_toArray, List.getElem?_cons_zero, List.getElem?_cons_succ] at z0 z1 z2 z3 z4 z5 z6 z7 z8 z9 z10; have HGR := Lib.hid hgr; have HRN := Lib.hid hlen; have HS3 := Lib.hid hs; clear hs hgr hlen HS2b))
      go_ret
      exact ⟨rfl, HS3.out.below⟩
    · have hzb : ((n0 : Int) == 0) = false := by simp; omega
      have hzd : decide ((n0 : Int) = 0) = false := decide_eq_false (by omega)
      go_wp2_with (first
        | (go_at_call 24; refine (fit16 _).mono ?_; rintro e w1 ⟨rfl, hC⟩; have hs1 := HS0.out.same hC; have p0 := (hs1.blk 0 rfl).cell 0; have p1 := (hs1.blk 0 rfl).cell 1; have q0 := (hs1.blk 1 rfl).cell 0; have q1 := (hs1.blk 1 rfl).cell 1; have q2 := (hs1.blk 1 rfl).cell 2; have q3 := (hs1.blk 1 rfl).cell 3; have q4 := (hs1.blk 1 rfl).cell 4; have q5 := (hs1.blk 1 rfl).cell 5; simp only [List.getElem?_toArray, List.getElem?_cons_zero, List.getElem?_cons_succ] at p0 p1 q0 q1 q2 q3 q4 q5; have HS1 := Lib.hid hs1; clear hC hs1 HS0)
        | (go_at_call 25; refine (Small11 _ A0 n0 c0 A1 n1 c1).mono ?_; rw [HSD.out]; rintro e w2 ⟨rfl, hC⟩; clear p0 p1 q0 q1 q2 q3 q4 q5; have hs1 := HS1.out.same hC; have p0 := (hs1.blk 0 rfl).cell 0; have p1 := (hs1.blk 0 rfl).cell 1; have q0 := (hs1.blk 1 rfl).cell 0; have q1 := (hs1.blk 1 rfl).cell 1; have q2 := (hs1.blk 1 rfl).cell 2; have q3 := (hs1.blk 1 rfl).cell 3; have q4 := (hs1.blk 1 rfl).cell 4; have q5 := (hs1.blk 1 rfl).cell 5; simp only [List.getElem?_toArray, List.getElem?_cons_zero, List.getElem?_cons_succ] at p0 p1 q0 q1 q2 q3 q4 q5; have HS2 := Lib.hid hs1; clear hC hs1 HS1)
        | (go_at_call 26; refine (Made08 _ e0 e1 e2 e3 e4 e5 (wf8 he0) (wf8 he1) (wf8 he2) (wf8 he3) (wf8 he4) (wf8 he5)).mono ?_; rintro e w2_ ⟨vc, rfl, ⟨bl, cp, ct, cr, cs, cg, cf, mk, lg, bu, rfl, hmk1, hmk2, hlg1, hlg2⟩, hC⟩; unfold confV; clear p0 p1; have hs2 := (HS2.out.same hC).box #[.int .i64 (e0 % 4), .bool bl, .int .i64 cp, .int .i64 ct, .int .i64 cr, .int .i64 cs, .int .i64 cg, .int .i64 cf, .int .i64 mk, .int .i64 lg, .int .i64 bu] 50; obtain ⟨TC, hTC⟩ : ∃ TC, w2_.heap.size = TC := ⟨_, rfl⟩; rw [hTC] at hs2; have p0 := (hs2.blk 1 rfl).cell 0; have p1 := (hs2.blk 1 rfl).cell 1; have z0 := (hs2.blk 0 rfl).cell 0; have z1 := (hs2.blk 0 rfl).cell 1; have z2 := (hs2.blk 0 rfl).cell 2; have z3 := (hs2.blk 0 rfl).cell 3; have z4 := (hs2.blk 0 rfl).cell 4; have z5 := (hs2.blk 0 rfl).cell 5; have z6 := (hs2.blk 0 rfl).cell 6; have z7 := (hs2.blk 0 rfl).cell 7; have z8 := (hs2.blk 0 rfl).cell 8; have z9 := (hs2.blk 0 rfl).cell 9; have z10 := (hs2.blk 0 rfl).cell 10; simp only [List.getElem?_toArray, List.getElem?_cons_zero, List.getElem?_cons_succ] at p0 p1 z0 z1 z2 z3 z4 z5 z6 z7 z8 z9 z10; have z0f := (hs2.blk 0 rfl).frozen 0; have HS2b := Lib.hid hs2; clear hC hs2 HS2)
        | (go_at_call 11; refine (Made11 A0 n0 c0 D0 A1 n1 c1 D1 HZ0.out HZ1.out hn0 hn1 HS2b.out).mono ?_; rintro e w3 ⟨a, jb, v, A, rs, fs, rfl, hgr, hlen, hs⟩; rw [hlen] at hs; obtain ⟨AL, capl, rfl, hcapl, hmcapl⟩ := hs.rowShape 1 rfl; unfold maxLen at hmcapl; clear z0 z1 z2 z3 z4 z5 z6 z7 z8 z9 z10; have z0 := (hs.blk 3 rfl).cell 0; have z1 := (hs.blk 3 rfl).cell 1; have z2 := (hs.blk 3 rfl).cell 2; have z3 := (hs.blk 3 rfl).cell 3; have z4 := (hs.blk 3 rfl).cell 4; have z5 := (hs.blk 3 rfl).cell 5; have z6 := (hs.blk 3 rfl).cell 6; have z7 := (hs.blk 3 rfl).cell 7; have z8 := (hs.blk 3 rfl).cell 8; have z9 := (hs.blk 3 rfl).cell 9; have z10 := (hs.blk 3 rfl).cell 10; simp only [List.getElem?_toArray, List.getElem?_cons_zero, List.getElem?_cons_succ] at z0 z1 z2 z3 z4 z5 z6 z7 z8 z9 z10; have HGR := Lib.hid hgr; have HRN := Lib.hid hlen; have HS3 := Lib.hid hs; clear hs hgr hlen HS2b)
        | (go_at_call 12; refine (KNew HS3.out 0 rfl HGR.out.size (by omega) mk (by omega)).mono ?_; rintro e w4 ⟨m, rfl, hs⟩; clear z0 z1 z2 z3 z4 z5 z6 z7 z8 z9 z10; have z0 := (hs.blk 4 rfl).cell 0; have z1 := (hs.blk 4 rfl).cell 1; have z2 := (hs.blk 4 rfl).cell 2; have z3 := (hs.blk 4 rfl).cell 3; have z4 := (hs.blk 4 rfl).cell 4; have z5 := (hs.blk 4 rfl).cell 5; have z6 := (hs.blk 4 rfl).cell 6; have z7 := (hs.blk 4 rfl).cell 7; have z8 := (hs.blk 4 rfl).cell 8; have z9 := (hs.blk 4 rfl).cell 9; have z10 := (hs.blk 4 rfl).cell 10; simp only [List.getElem?_toArray, List.getElem?_cons_zero, List.getElem?_cons_succ] at z0 z1 z2 z3 z4 z5 z6 z7 z8 z9 z10; have HEN := Lib.hid (ENew hs 0 1 rfl rfl HGR.out.size (by omega) (e0 % 4) bl cp ct cr cs cg cf mk lg bu (by omega)); clear hs HS3)
        | (go_at_call 27; refine (HEN.out).mono ?_; rintro e w5 ⟨b, rfl, hs⟩; clear z0 z1 z2 z3 z4 z5 z6 z7 z8 z9 z10; obtain ⟨E0, hE0⟩ : ∃ E0, Eng.new (e0 % 4) lg = E0 := ⟨_, rfl⟩; have HID := Lib.hid (show E0.idle from by rw [← hE0]; exact Eng.new_idle _ _); rw [hE0] at hs ⊢; unfold engV; obtain ⟨et, het⟩ : ∃ et, engT E0 = et := ⟨_, rfl⟩; have HEV := Lib.hid het; rw [het]; have HS5 := Lib.hid (show Sep w w5 (engR b m a A.n 2049 (E0) :: markR m a 2049 (Col.white) :: arenaR a A :: rowR 34 1 (.slice AL n0 capl) n0 (nums rs) :: adjR Tryz.prog 34 34 jb (ptsOf fs) :: blkR T 47 #[.int .u8 e0, .int .u8 e1, .int .u8 e2, .int .u8 e3, .int .u8 e4, .int .u8 e5] :: []) from ((show Sep w w5 (engR b m a A.n 2049 (E0) :: markR m a 2049 (Col.white) :: arenaR a A :: rowR 34 1 (.slice AL n0 capl) n0 (nums rs) :: adjR Tryz.prog 34 34 jb (ptsOf fs) :: blkR TC 50 #[.int .i64 (e0 % 4), .bool bl, .int .i64 cp, .int .i64 ct, .int .i64 cr, .int .i64 cs, .int .i64 cg, .int .i64 cf, .int .i64 mk, .int .i64 lg, .int .i64 bu] :: blkR (T + 1) 30 #[.slice A0 n0 c0, .slice A1 n1 c1] :: blkR T 47 #[.int .u8 e0, .int .u8 e1, .int .u8 e2, .int .u8 e3, .int .u8 e4, .int .u8 e5] :: []) from hs).front 8 [5, 6, 0, 1, 2, 3, 4, 7]).tail.tail); clear hs hE0 het HEN))
      try simp only [hTC]
      clear hTC
      go_loopw [54] (fun iv wr => ∃ (k : Nat) (E : Eng) (C : Col), k ≤ n2 ∧ iv = .int .i64 (k : Int) ∧ engT E = et ∧ Sep w wr (engR b m a A.n 2049 (E) :: markR m a 2049 (C) :: arenaR a A :: rowR 34 1 (.slice AL n0 capl) n0 (nums rs) :: adjR Tryz.prog 34 34 jb (ptsOf fs) :: blkR T 47 #[.int .u8 e0, .int .u8 e1, .int .u8 e2, .int .u8 e3, .int .u8 e4, .int .u8 e5] :: [])) (fun iv _ => n2 + 1 - (intOf iv).toNat)
      case atStart => exact ⟨0, E0, _, by omega, rfl, HEV.out, HS5.out⟩
      case round =>
        clear HS5
        obtain ⟨k, E, C, hk, rfl, heq, hs⟩ := hrel
        by_cases hlt : k < n2
        · have hltI : (k : Int) < (n2 : Int) := by omega
          have HEQ := Lib.hid heq
          clear heq
          obtain ⟨ab, ao, hA0, hcell⟩ := HZ2.out.at_ hs.own hlt
          subst hA0
          have hc0 := hcell 0 _ rfl
          have hw0 := wf8 (HZ2.out.wf hlt 0 .u8 rfl)
          have hc1 := hcell 1 _ rfl
          have hw1 := wf8 (HZ2.out.wf hlt 1 .u8 rfl)
          have hc2 := hcell 2 _ rfl
          have hw2 := wf8 (HZ2.out.wf hlt 2 .u8 rfl)
          have hc3 := hcell 3 _ rfl
          have hw3 := wf8 (HZ2.out.wf hlt 3 .u8 rfl)
          simp at hc0 hc1 hc2 hc3
          obtain ⟨d0, h0⟩ : ∃ d, D2 k 0 = d := ⟨_, rfl⟩
          rw [h0] at hc0 hw0
          obtain ⟨d1, h1⟩ : ∃ d, D2 k 1 = d := ⟨_, rfl⟩
          rw [h1] at hc1 hw1
          obtain ⟨d2, h2⟩ : ∃ d, D2 k 2 = d := ⟨_, rfl⟩
          rw [h2] at hc2 hw2
          obtain ⟨d3, h3⟩ : ∃ d, D2 k 3 = d := ⟨_, rfl⟩
          rw [h3] at hc3 hw3
          clear hcell h0 h1 h2 h3
          obtain ⟨g, cap', hsl, _, _⟩ := hs.rowSome 3 rfl (by omega)
          simp only [Value.slice.injEq] at hsl
          obtain ⟨rfl, _, rfl⟩ := hsl
          obtain ⟨K1, um, ul⟩ : ∃ K1 : Nat, d0.tmod (n0 : Int) = (K1 : Int) ∧ K1 < n0 := by
            have h1 := Int.emod_nonneg d0 (show (n0 : Int) ≠ 0 by omega)
            have h2 := Int.emod_lt_of_pos d0 (show (0 : Int) < (n0 : Int) by omega)
            refine ⟨(d0 % (n0 : Int)).toNat, ?_, by omega⟩
            rw [Int.tmod_eq_emod_of_nonneg (by omega)]
            omega
          have uI : (K1 : Int) < (n0 : Int) := by omega
          have u0 : (0 : Int) ≤ (K1 : Int) := by omega
          obtain ⟨K2, vm, vl⟩ : ∃ K2 : Nat, d1.tmod (n0 : Int) = (K2 : Int) ∧ K2 < n0 := by
            have h1 := Int.emod_nonneg d1 (show (n0 : Int) ≠ 0 by omega)
            have h2 := Int.emod_lt_of_pos d1 (show (0 : Int) < (n0 : Int) by omega)
            refine ⟨(d1 % (n0 : Int)).toNat, ?_, by omega⟩
            rw [Int.tmod_eq_emod_of_nonneg (by omega)]
            omega
          have vI : (K2 : Int) < (n0 : Int) := by omega
          have v0 : (0 : Int) ≤ (K2 : Int) := by omega
          obtain ⟨K3, tm, tl⟩ : ∃ K3 : Nat, d2.tmod (n0 : Int) = (K3 : Int) ∧ K3 < n0 := by
            have h1 := Int.emod_nonneg d2 (show (n0 : Int) ≠ 0 by omega)
            have h2 := Int.emod_lt_of_pos d2 (show (0 : Int) < (n0 : Int) by omega)
            refine ⟨(d2 % (n0 : Int)).toNat, ?_, by omega⟩
            rw [Int.tmod_eq_emod_of_nonneg (by omega)]
            omega
          have tI : (K3 : Int) < (n0 : Int) := by omega
          have t0 : (0 : Int) ≤ (K3 : Int) := by omega
          obtain ⟨rx, hrx⟩ : ∃ z_, rs[K1]? = some z_ := ⟨_, List.getElem?_eq_getElem (by rw [HRN.out]; exact ul)⟩
          obtain ⟨ry, hry⟩ : ∃ z_, rs[K2]? = some z_ := ⟨_, List.getElem?_eq_getElem (by rw [HRN.out]; exact vl)⟩
          obtain ⟨rz, hrz⟩ : ∃ z_, rs[K3]? = some z_ := ⟨_, List.getElem?_eq_getElem (by rw [HRN.out]; exact tl)⟩
          have HX := Lib.hid hrx
          have HY := Lib.hid hry
          have HZ := Lib.hid hrz
          have hx2 := HGR.out.lt (List.mem_of_getElem? hrx)
          have hy2 := HGR.out.lt (List.mem_of_getElem? hry)
          have hz2_ := HGR.out.lt (List.mem_of_getElem? hrz)
          have hand := and8_3 hw3
          obtain ⟨T5, hT5⟩ : ∃ T5, wr.heap.size = T5 := ⟨_, rfl⟩
          have hsb := hs.box #[.int .u8 d0, .int .u8 d1, .int .u8 d2, .int .u8 d3] 64
          rw [hT5] at hsb
          have HSB := Lib.hid hsb
          clear hs hsb hrx hry hrz
          go_wp2
          refine region_sep HSB.out (by kernel_rfl) (by kernel_rfl) ?_
          intro hne0
          have yz0 : ∀ x : SepW w (blkR T5 64 #[.int .u8 d0, .int .u8 d1, .int .u8 d2, .int .u8 d3] :: engR b m a A.n 2049 (E) :: markR m a 2049 (C) :: arenaR a A :: rowR 34 1 (.slice (some ⟨g, 0, none⟩) n0 capl) n0 (nums rs) :: adjR Tryz.prog 34 34 jb (ptsOf fs) :: blkR T 47 #[.int .u8 e0, .int .u8 e1, .int .u8 e2, .int .u8 e3, .int .u8 e4, .int .u8 e5] :: []), x.w'.cell? ⟨T5, 0, none⟩ = some (.int .u8 d0) := fun x => by
            have := (x.h.blk 0 rfl).cell 0
            simpa using this
          have yz1 : ∀ x : SepW w (blkR T5 64 #[.int .u8 d0, .int .u8 d1, .int .u8 d2, .int .u8 d3] :: engR b m a A.n 2049 (E) :: markR m a 2049 (C) :: arenaR a A :: rowR 34 1 (.slice (some ⟨g, 0, none⟩) n0 capl) n0 (nums rs) :: adjR Tryz.prog 34 34 jb (ptsOf fs) :: blkR T 47 #[.int .u8 e0, .int .u8 e1, .int .u8 e2, .int .u8 e3, .int .u8 e4, .int .u8 e5] :: []), x.w'.cell? ⟨T5, 1, none⟩ = some (.int .u8 d1) := fun x => by
            have := (x.h.blk 0 rfl).cell 1
            simpa using this
          have yz2 : ∀ x : SepW w (blkR T5 64 #[.int .u8 d0, .int .u8 d1, .int .u8 d2, .int .u8 d3] :: engR b m a A.n 2049 (E) :: markR m a 2049 (C) :: arenaR a A :: rowR 34 1 (.slice (some ⟨g, 0, none⟩) n0 capl) n0 (nums rs) :: adjR Tryz.prog 34 34 jb (ptsOf fs) :: blkR T 47 #[.int .u8 e0, .int .u8 e1, .int .u8 e2, .int .u8 e3, .int .u8 e4, .int .u8 e5] :: []), x.w'.cell? ⟨T5, 2, none⟩ = some (.int .u8 d2) := fun x => by
            have := (x.h.blk 0 rfl).cell 2
            simpa using this
          have yx : ∀ x : SepW w (blkR T5 64 #[.int .u8 d0, .int .u8 d1, .int .u8 d2, .int .u8 d3] :: engR b m a A.n 2049 (E) :: markR m a 2049 (C) :: arenaR a A :: rowR 34 1 (.slice (some ⟨g, 0, none⟩) n0 capl) n0 (nums rs) :: adjR Tryz.prog 34 34 jb (ptsOf fs) :: blkR T 47 #[.int .u8 e0, .int .u8 e1, .int .u8 e2, .int .u8 e3, .int .u8 e4, .int .u8 e5] :: []), x.w'.cell? ⟨g, K1, none⟩ = some (.int .i64 (rx : Int)) := fun x => x.h.rowCell 4 rfl K1 _ (nums_get _ _ _ HX.out)
          have yy : ∀ x : SepW w (blkR T5 64 #[.int .u8 d0, .int .u8 d1, .int .u8 d2, .int .u8 d3] :: engR b m a A.n 2049 (E) :: markR m a 2049 (C) :: arenaR a A :: rowR 34 1 (.slice (some ⟨g, 0, none⟩) n0 capl) n0 (nums rs) :: adjR Tryz.prog 34 34 jb (ptsOf fs) :: blkR T 47 #[.int .u8 e0, .int .u8 e1, .int .u8 e2, .int .u8 e3, .int .u8 e4, .int .u8 e5] :: []), x.w'.cell? ⟨g, K2, none⟩ = some (.int .i64 (ry : Int)) := fun x => x.h.rowCell 4 rfl K2 _ (nums_get _ _ _ HY.out)
          have yz : ∀ x : SepW w (blkR T5 64 #[.int .u8 d0, .int .u8 d1, .int .u8 d2, .int .u8 d3] :: engR b m a A.n 2049 (E) :: markR m a 2049 (C) :: arenaR a A :: rowR 34 1 (.slice (some ⟨g, 0, none⟩) n0 capl) n0 (nums rs) :: adjR Tryz.prog 34 34 jb (ptsOf fs) :: blkR T 47 #[.int .u8 e0, .int .u8 e1, .int .u8 e2, .int .u8 e3, .int .u8 e4, .int .u8 e5] :: []), x.w'.cell? ⟨g, K3, none⟩ = some (.int .i64 (rz : Int)) := fun x => x.h.rowCell 4 rfl K3 _ (nums_get _ _ _ HZ.out)
          repeat (go_big_quiet_step (fail))
          refine wpQuiet_nil ?_
          rintro wq ⟨⟨wqx, hs⟩, rfl⟩
          clear yz0 yz1 yz2 yx yy yz hne0
          have yk3 := (hs.blk 0 rfl).cell 3
          simp only [List.getElem?_toArray, List.getElem?_cons_zero, List.getElem?_cons_succ] at yk3
          try simp only [hT5]
          clear hT5 HSB
          by_cases h0 : d3 % 4 = 0
          · have h0b : (d3 % 4 == 0) = true := by simpa using h0
            have HBK := Lib.hid (KBlacken hs 2 rfl rx hx2.1 hx2.2)
            clear hs
            go_wp2_with (go_at_call 21; refine (HBK.out).mono ?_; rintro e w6 ⟨rfl, hs⟩; have HS6 := Lib.hid (show Sep w w6 (blkR T5 64 #[.int .u8 d0, .int .u8 d1, .int .u8 d2, .int .u8 d3] :: engR b m a A.n 2049 (E) :: markR m a 2049 (C.black rx) :: arenaR a A :: rowR 34 1 (.slice (some ⟨g, 0, none⟩) n0 capl) n0 (nums rs) :: adjR Tryz.prog 34 34 jb (ptsOf fs) :: blkR T 47 #[.int .u8 e0, .int .u8 e1, .int .u8 e2, .int .u8 e3, .int .u8 e4, .int .u8 e5] :: []) from hs); clear hs HBK yk3)
            obtain ⟨wd, hwd⟩ : ∃ wd, (w6).drew = wd := ⟨_, rfl⟩
            have hd := HS6.out.drew
            rw [hwd] at hd
            obtain ⟨sb, hsb⟩ : ∃ sb, (C.black rx).sc rx = sb := ⟨_, rfl⟩
            have hks := KScanned hd 2 rfl rx hx2.2
            rw [hsb] at hks
            have HKS := Lib.hid hks
            have hmf : ∀ (fn : Fn) (first cap : Array Value) (w : World), (Instr.makeFunc fn first cap).run Tryz.prog w = .ok (.func fn first cap) w := fun _ _ _ _ => rfl
            have hna : ∀ W : World, (nilAhead 298 et (.pointer (some ⟨b, 0, none⟩)) "Post").run Tryz.prog W = .ok (some false) W := fun W => nilAhead_post HEQ.out b W
            have hro : Tryz.prog.follows .mixedOrders = true := by kernel_rfl
            clear hd hks hsb HS6
            refine calmP ?_
            refine wp_region_float (fun _ => True) hro ?_
            rw [hwd]
            clear hwd
            refine wpAnyC_take (i := 0) (v := ?v1) rfl (by kernel_rfl) (by kernel_rfl) (by kernel_rfl) (fun _ _ _ h => h) (.inl ⟨?w1, ?y1⟩) ?h1
            case w1 => kernel_rfl
            case y1 =>
              intro W hf
              obtain _ := hf
              unfold yieldsAt
              go_simp
              all_goals first | rfl | exact ⟨rfl, rfl⟩
            simp only [List.getElem_toArray, List.getElem_cons_zero, List.getElem_cons_succ, Act.put, List.setIfInBounds_toArray, List.set_cons_succ, List.set_cons_zero]
            refine wpAnyC_take (i := 1) (v := ?v2) rfl (by kernel_rfl) (by kernel_rfl) (by kernel_rfl) (fun _ _ _ h => h) (.inl ⟨?w2, ?y2⟩) ?h2
            case w2 => kernel_rfl
            case y2 =>
              intro W hf
              obtain _ := hf
              unfold yieldsAt
              go_simp
              all_goals first | rfl | exact ⟨rfl, rfl⟩
            simp only [List.getElem_toArray, List.getElem_cons_zero, List.getElem_cons_succ, Act.put, List.setIfInBounds_toArray, List.set_cons_succ, List.set_cons_zero]
            refine wpAnyC_take (i := 2) (v := ?v3) rfl (by kernel_rfl) (by kernel_rfl) (by kernel_rfl) (fun _ _ _ h => h) (.inl ⟨?w3, ?y3⟩) ?h3
            case w3 => kernel_rfl
            case y3 =>
              intro W hf
              obtain _ := hf
              unfold yieldsAt
              go_simp
              all_goals first | rfl | exact ⟨rfl, rfl⟩
            simp only [List.getElem_toArray, List.getElem_cons_zero, List.getElem_cons_succ, Act.put, List.setIfInBounds_toArray, List.set_cons_succ, List.set_cons_zero]
            refine wpAnyC_take (i := 3) (v := ?v4) rfl (by kernel_rfl) (by kernel_rfl) (by kernel_rfl) (fun _ _ _ h => h) (.inl ⟨?w4, ?y4⟩) ?h4
            case w4 => kernel_rfl
            case y4 =>
              intro W hf
              obtain _ := hf
              unfold yieldsAt
              go_simp
              all_goals first | rfl | exact ⟨rfl, rfl⟩
            simp only [List.getElem_toArray, List.getElem_cons_zero, List.getElem_cons_succ, Act.put, List.setIfInBounds_toArray, List.set_cons_succ, List.set_cons_zero]
            refine wpAnyC_take (i := 4) (v := ?v5) rfl (by kernel_rfl) (by kernel_rfl) (by kernel_rfl) (fun _ _ _ h => h) (.inl ⟨?w5, ?y5⟩) ?h5
            case w5 => kernel_rfl
            case y5 =>
              intro W hf
              obtain _ := hf
              unfold yieldsAt
              go_simp
              all_goals first | rfl | exact ⟨rfl, rfl⟩
            simp only [List.getElem_toArray, List.getElem_cons_zero, List.getElem_cons_succ, Act.put, List.setIfInBounds_toArray, List.set_cons_succ, List.set_cons_zero]
            refine wpAnyC_take (i := 5) (v := ?v6) rfl (by kernel_rfl) (by kernel_rfl) (by kernel_rfl) (fun _ _ _ h => h) (.inl ⟨?w6, ?y6⟩) ?h6
            case w6 => kernel_rfl
            case y6 =>
              intro W hf
              obtain _ := hf
              unfold yieldsAt
              go_simp
              all_goals first | rfl | exact ⟨rfl, rfl⟩
            simp only [List.getElem_toArray, List.getElem_cons_zero, List.getElem_cons_succ, Act.put, List.setIfInBounds_toArray, List.set_cons_succ, List.set_cons_zero]
            refine wpAnyC_take (i := 8) (v := ?v7) rfl (by kernel_rfl) (by kernel_rfl) (by kernel_rfl) (fun _ _ _ h => h) (.inl ⟨?w7, ?y7⟩) ?h7
            case w7 => kernel_rfl
            case y7 =>
              intro W hf
              obtain _ := hf
              unfold yieldsAt
              go_simp
              all_goals first | rfl | exact ⟨rfl, rfl⟩
            simp only [List.getElem_toArray, List.getElem_cons_zero, List.getElem_cons_succ, Act.put, List.setIfInBounds_toArray, List.set_cons_succ, List.set_cons_zero]
            refine wpAnyC_take (i := 9) (v := ?v8) rfl (by kernel_rfl) (by kernel_rfl) (by kernel_rfl) (fun _ _ _ h => h) (.inl ⟨?w8, ?y8⟩) ?h8
            case w8 => kernel_rfl
            case y8 =>
              intro W hf
              obtain _ := hf
              unfold yieldsAt
              go_simp
              all_goals first | rfl | exact ⟨rfl, rfl⟩
            simp only [List.getElem_toArray, List.getElem_cons_zero, List.getElem_cons_succ, Act.put, List.setIfInBounds_toArray, List.set_cons_succ, List.set_cons_zero]
            refine wpAnyC_take (i := 10) (v := ?v9) rfl (by kernel_rfl) (by kernel_rfl) (by kernel_rfl) (fun _ _ _ h => h) (.inl ⟨?w9, ?y9⟩) ?h9
            case w9 => kernel_rfl
            case y9 =>
              intro W hf
              obtain _ := hf
              unfold yieldsAt
              go_simp
              all_goals first | rfl | exact ⟨rfl, rfl⟩
            simp only [List.getElem_toArray, List.getElem_cons_zero, List.getElem_cons_succ, Act.put, List.setIfInBounds_toArray, List.set_cons_succ, List.set_cons_zero]
            refine wpAnyC_one (i := 6) rfl (by kernel_rfl) trivial rfl ?_
            intro K hK
            refine wp_call_of ?hrun10 HKS.out ?hK10
            case hrun10 => go_simp
            intro w7 hs
            have HS7 := Lib.hid (show Sep w w7 (blkR T5 64 #[.int .u8 d0, .int .u8 d1, .int .u8 d2, .int .u8 d3] :: engR b m a A.n 2049 (E) :: markR m a 2049 (C.black rx) :: arenaR a A :: rowR 34 1 (.slice (some ⟨g, 0, none⟩) n0 capl) n0 (nums rs) :: adjR Tryz.prog 34 34 jb (ptsOf fs) :: blkR T 47 #[.int .u8 e0, .int .u8 e1, .int .u8 e2, .int .u8 e3, .int .u8 e4, .int .u8 e5] :: []) from hs)
            clear hs HKS
            refine hK _ _ ?_
            simp only [List.getElem_toArray, List.getElem_cons_zero, List.getElem_cons_succ, Act.put, List.setIfInBounds_toArray, List.set_cons_succ, List.set_cons_zero]
            refine wpAnyC_take (i := 7) (v := ?v11) rfl (by kernel_rfl) (by kernel_rfl) (by kernel_rfl) (fun _ _ _ h => h) (.inl ⟨?w11, ?y11⟩) ?h11
            case w11 => kernel_rfl
            case y11 =>
              intro W hf
              obtain _ := hf
              unfold yieldsAt
              go_simp
              all_goals first | rfl | exact ⟨rfl, rfl⟩
            simp only [List.getElem_toArray, List.getElem_cons_zero, List.getElem_cons_succ, Act.put, List.setIfInBounds_toArray, List.set_cons_succ, List.set_cons_zero]
            have HPO := Lib.hid (EPost E HS7.out 1 2 3 rfl rfl rfl (by decide) (by decide) (by rw [HGR.out.n]; omega) (by omega) rx ry rz sb false hx2.2 hy2.2 hz2_.2)
            refine wpAnyC_one (i := 11) rfl (by kernel_rfl) trivial rfl ?_
            intro K hK
            refine wp_call_of ?hrunP HPO.out ?_
            case hrunP =>
              refine exec_Post (E := E) (b := b) (.tmp 102) (.tmp 99) #[41] rfl ?_ ?_
              · exact engV_is HEQ.out b
              · rfl
            intro w8 hs
            have HS8 := Lib.hid (show Sep w w8 (blkR T5 64 #[.int .u8 d0, .int .u8 d1, .int .u8 d2, .int .u8 d3] :: engR b m a A.n 2049 ((E.post A rx ry rz sb false (C.black rx)).1) :: markR m a 2049 ((E.post A rx ry rz sb false (C.black rx)).2) :: arenaR a A :: rowR 34 1 (.slice (some ⟨g, 0, none⟩) n0 capl) n0 (nums rs) :: adjR Tryz.prog 34 34 jb (ptsOf fs) :: blkR T 47 #[.int .u8 e0, .int .u8 e1, .int .u8 e2, .int .u8 e3, .int .u8 e4, .int .u8 e5] :: []) from hs)
            clear hs HPO HS7
            refine hK _ _ ?_
            simp only [List.getElem_toArray, List.getElem_cons_zero, List.getElem_cons_succ, Act.put, List.setIfInBounds_toArray, List.set_cons_succ, List.set_cons_zero]
            refine wpAnyC_done (by kernel_rfl) trivial ?_ _
            try simp only [List.getElem_toArray, List.getElem_cons_zero, List.getElem_cons_succ, Act.put, List.setIfInBounds_toArray, List.set_cons_succ, List.set_cons_zero]
            go_wp2_with fail
            go_roundw
            case rel => exact ⟨k + 1, (E.post A rx ry rz sb false (C.black rx)).1, _, by omega, by go_num, (Eng.post_T E A rx ry rz sb false (C.black rx)).trans HEQ.out, HS8.out.tail⟩
            case measure => simp [intOf]; omega
          · have h0b : (d3 % 4 == 0) = false := by simpa using h0
            have HS6 := Lib.hid hs
            clear hs
            go_wp2
            clear yk3
            obtain ⟨wd, hwd⟩ : ∃ wd, (wq).drew = wd := ⟨_, rfl⟩
            have hd := HS6.out.drew
            rw [hwd] at hd
            obtain ⟨sb, hsb⟩ : ∃ sb, (C).sc rx = sb := ⟨_, rfl⟩
            have hks := KScanned hd 2 rfl rx hx2.2
            rw [hsb] at hks
            have HKS := Lib.hid hks
            have hmf : ∀ (fn : Fn) (first cap : Array Value) (w : World), (Instr.makeFunc fn first cap).run Tryz.prog w = .ok (.func fn first cap) w := fun _ _ _ _ => rfl
            have hna : ∀ W : World, (nilAhead 298 et (.pointer (some ⟨b, 0, none⟩)) "Post").run Tryz.prog W = .ok (some false) W := fun W => nilAhead_post HEQ.out b W
            have hro : Tryz.prog.follows .mixedOrders = true := by kernel_rfl
            clear hd hks hsb HS6
            refine calmP ?_
            refine wp_region_float (fun _ => True) hro ?_
            rw [hwd]
            clear hwd
            refine wpAnyC_take (i := 0) (v := ?v12) rfl (by kernel_rfl) (by kernel_rfl) (by kernel_rfl) (fun _ _ _ h => h) (.inl ⟨?w12, ?y12⟩) ?h12
            case w12 => kernel_rfl
            case y12 =>
              intro W hf
              obtain _ := hf
              unfold yieldsAt
              go_simp
              all_goals first | rfl | exact ⟨rfl, rfl⟩
            simp only [List.getElem_toArray, List.getElem_cons_zero, List.getElem_cons_succ, Act.put, List.setIfInBounds_toArray, List.set_cons_succ, List.set_cons_zero]
            refine wpAnyC_take (i := 1) (v := ?v13) rfl (by kernel_rfl) (by kernel_rfl) (by kernel_rfl) (fun _ _ _ h => h) (.inl ⟨?w13, ?y13⟩) ?h13
            case w13 => kernel_rfl
            case y13 =>
              intro W hf
              obtain _ := hf
              unfold yieldsAt
              go_simp
              all_goals first | rfl | exact ⟨rfl, rfl⟩
            simp only [List.getElem_toArray, List.getElem_cons_zero, List.getElem_cons_succ, Act.put, List.setIfInBounds_toArray, List.set_cons_succ, List.set_cons_zero]
            refine wpAnyC_take (i := 2) (v := ?v14) rfl (by kernel_rfl) (by kernel_rfl) (by kernel_rfl) (fun _ _ _ h => h) (.inl ⟨?w14, ?y14⟩) ?h14
            case w14 => kernel_rfl
            case y14 =>
              intro W hf
              obtain _ := hf
              unfold yieldsAt
              go_simp
              all_goals first | rfl | exact ⟨rfl, rfl⟩
            simp only [List.getElem_toArray, List.getElem_cons_zero, List.getElem_cons_succ, Act.put, List.setIfInBounds_toArray, List.set_cons_succ, List.set_cons_zero]
            refine wpAnyC_take (i := 3) (v := ?v15) rfl (by kernel_rfl) (by kernel_rfl) (by kernel_rfl) (fun _ _ _ h => h) (.inl ⟨?w15, ?y15⟩) ?h15
            case w15 => kernel_rfl
            case y15 =>
              intro W hf
              obtain _ := hf
              unfold yieldsAt
              go_simp
              all_goals first | rfl | exact ⟨rfl, rfl⟩
            simp only [List.getElem_toArray, List.getElem_cons_zero, List.getElem_cons_succ, Act.put, List.setIfInBounds_toArray, List.set_cons_succ, List.set_cons_zero]
            refine wpAnyC_take (i := 4) (v := ?v16) rfl (by kernel_rfl) (by kernel_rfl) (by kernel_rfl) (fun _ _ _ h => h) (.inl ⟨?w16, ?y16⟩) ?h16
            case w16 => kernel_rfl
            case y16 =>
              intro W hf
              obtain _ := hf
              unfold yieldsAt
              go_simp
              all_goals first | rfl | exact ⟨rfl, rfl⟩
            simp only [List.getElem_toArray, List.getElem_cons_zero, List.getElem_cons_succ, Act.put, List.setIfInBounds_toArray, List.set_cons_succ, List.set_cons_zero]
            refine wpAnyC_take (i := 5) (v := ?v17) rfl (by kernel_rfl) (by kernel_rfl) (by kernel_rfl) (fun _ _ _ h => h) (.inl ⟨?w17, ?y17⟩) ?h17
            case w17 => kernel_rfl
            case y17 =>
              intro W hf
              obtain _ := hf
              unfold yieldsAt
              go_simp
              all_goals first | rfl | exact ⟨rfl, rfl⟩
            simp only [List.getElem_toArray, List.getElem_cons_zero, List.getElem_cons_succ, Act.put, List.setIfInBounds_toArray, List.set_cons_succ, List.set_cons_zero]
            refine wpAnyC_take (i := 8) (v := ?v18) rfl (by kernel_rfl) (by kernel_rfl) (by kernel_rfl) (fun _ _ _ h => h) (.inl ⟨?w18, ?y18⟩) ?h18
            case w18 => kernel_rfl
            case y18 =>
              intro W hf
              obtain _ := hf
              unfold yieldsAt
              go_simp
              all_goals first | rfl | exact ⟨rfl, rfl⟩
            simp only [List.getElem_toArray, List.getElem_cons_zero, List.getElem_cons_succ, Act.put, List.setIfInBounds_toArray, List.set_cons_succ, List.set_cons_zero]
            refine wpAnyC_take (i := 9) (v := ?v19) rfl (by kernel_rfl) (by kernel_rfl) (by kernel_rfl) (fun _ _ _ h => h) (.inl ⟨?w19, ?y19⟩) ?h19
            case w19 => kernel_rfl
            case y19 =>
              intro W hf
              obtain _ := hf
              unfold yieldsAt
              go_simp
              all_goals first | rfl | exact ⟨rfl, rfl⟩
            simp only [List.getElem_toArray, List.getElem_cons_zero, List.getElem_cons_succ, Act.put, List.setIfInBounds_toArray, List.set_cons_succ, List.set_cons_zero]
            refine wpAnyC_take (i := 10) (v := ?v20) rfl (by kernel_rfl) (by kernel_rfl) (by kernel_rfl) (fun _ _ _ h => h) (.inl ⟨?w20, ?y20⟩) ?h20
            case w20 => kernel_rfl
            case y20 =>
              intro W hf
              obtain _ := hf
              unfold yieldsAt
              go_simp
              all_goals first | rfl | exact ⟨rfl, rfl⟩
            simp only [List.getElem_toArray, List.getElem_cons_zero, List.getElem_cons_succ, Act.put, List.setIfInBounds_toArray, List.set_cons_succ, List.set_cons_zero]
            refine wpAnyC_one (i := 6) rfl (by kernel_rfl) trivial rfl ?_
            intro K hK
            refine wp_call_of ?hrun21 HKS.out ?hK21
            case hrun21 => go_simp
            intro w7 hs
            have HS7 := Lib.hid (show Sep w w7 (blkR T5 64 #[.int .u8 d0, .int .u8 d1, .int .u8 d2, .int .u8 d3] :: engR b m a A.n 2049 (E) :: markR m a 2049 (C) :: arenaR a A :: rowR 34 1 (.slice (some ⟨g, 0, none⟩) n0 capl) n0 (nums rs) :: adjR Tryz.prog 34 34 jb (ptsOf fs) :: blkR T 47 #[.int .u8 e0, .int .u8 e1, .int .u8 e2, .int .u8 e3, .int .u8 e4, .int .u8 e5] :: []) from hs)
            clear hs HKS
            refine hK _ _ ?_
            simp only [List.getElem_toArray, List.getElem_cons_zero, List.getElem_cons_succ, Act.put, List.setIfInBounds_toArray, List.set_cons_succ, List.set_cons_zero]
            refine wpAnyC_take (i := 7) (v := ?v22) rfl (by kernel_rfl) (by kernel_rfl) (by kernel_rfl) (fun _ _ _ h => h) (.inl ⟨?w22, ?y22⟩) ?h22
            case w22 => kernel_rfl
            case y22 =>
              intro W hf
              obtain _ := hf
              unfold yieldsAt
              go_simp
              all_goals first | rfl | exact ⟨rfl, rfl⟩
            simp only [List.getElem_toArray, List.getElem_cons_zero, List.getElem_cons_succ, Act.put, List.setIfInBounds_toArray, List.set_cons_succ, List.set_cons_zero]
            have HPO := Lib.hid (EPost E HS7.out 1 2 3 rfl rfl rfl (by decide) (by decide) (by rw [HGR.out.n]; omega) (by omega) rx ry rz sb false hx2.2 hy2.2 hz2_.2)
            refine wpAnyC_one (i := 11) rfl (by kernel_rfl) trivial rfl ?_
            intro K hK
            refine wp_call_of ?hrunP HPO.out ?_
            case hrunP =>
              refine exec_Post (E := E) (b := b) (.tmp 102) (.tmp 99) #[41] rfl ?_ ?_
              · exact engV_is HEQ.out b
              · rfl
            intro w8 hs
            have HS8 := Lib.hid (show Sep w w8 (blkR T5 64 #[.int .u8 d0, .int .u8 d1, .int .u8 d2, .int .u8 d3] :: engR b m a A.n 2049 ((E.post A rx ry rz sb false (C)).1) :: markR m a 2049 ((E.post A rx ry rz sb false (C)).2) :: arenaR a A :: rowR 34 1 (.slice (some ⟨g, 0, none⟩) n0 capl) n0 (nums rs) :: adjR Tryz.prog 34 34 jb (ptsOf fs) :: blkR T 47 #[.int .u8 e0, .int .u8 e1, .int .u8 e2, .int .u8 e3, .int .u8 e4, .int .u8 e5] :: []) from hs)
            clear hs HPO HS7
            refine hK _ _ ?_
            simp only [List.getElem_toArray, List.getElem_cons_zero, List.getElem_cons_succ, Act.put, List.setIfInBounds_toArray, List.set_cons_succ, List.set_cons_zero]
            refine wpAnyC_done (by kernel_rfl) trivial ?_ _
            try simp only [List.getElem_toArray, List.getElem_cons_zero, List.getElem_cons_succ, Act.put, List.setIfInBounds_toArray, List.set_cons_succ, List.set_cons_zero]
            go_wp2_with fail
            go_roundw
            case rel => exact ⟨k + 1, (E.post A rx ry rz sb false (C)).1, _, by omega, by go_num, (Eng.post_T E A rx ry rz sb false (C)).trans HEQ.out, HS8.out.tail⟩
            case measure => simp [intOf]; omega
        · obtain rfl : n2 = k := by omega
          have HEQ := Lib.hid heq
          obtain ⟨K9, xm, xl⟩ : ∃ K9 : Nat, e5.tmod (n0 : Int) = (K9 : Int) ∧ K9 < n0 := by
            have h1 := Int.emod_nonneg e5 (show (n0 : Int) ≠ 0 by omega)
            have h2 := Int.emod_lt_of_pos e5 (show (0 : Int) < (n0 : Int) by omega)
            refine ⟨(e5 % (n0 : Int)).toNat, ?_, by omega⟩
            rw [Int.tmod_eq_emod_of_nonneg (by omega)]
            omega
          have xI : (K9 : Int) < (n0 : Int) := by omega
          have x0 : (0 : Int) ≤ (K9 : Int) := by omega
          have HKR := Lib.hid (KReset hs 1 rfl)
          clear hs heq
          go_wp2_with (first
            | (go_at_call 36; refine (HKR.out).mono ?_; rintro e w6 ⟨rfl, hs⟩; have HRS := Lib.hid (EReset E (show Sep w w6 (engR b m a A.n 2049 (E) :: markR m a 2049 (Col.white) :: arenaR a A :: rowR 34 1 (.slice AL n0 capl) n0 (nums rs) :: adjR Tryz.prog 34 34 jb (ptsOf fs) :: blkR T 47 #[.int .u8 e0, .int .u8 e1, .int .u8 e2, .int .u8 e3, .int .u8 e4, .int .u8 e5] :: []) from hs) 0 rfl (by rw [HGR.out.n]; omega) (by omega)); have hme : ∀ W : World, (Go.method 298 et (.pointer (some ⟨b, 0, none⟩)) "Reset").run Tryz.prog W = .ok (E.resetF, .pointer (some ⟨b, 0, none⟩)) W := fun W => meth_Reset HEQ.out b W; have hcf : ∀ (args : Array Value) (W : World), (callFunc E.resetF args).run Tryz.prog W = .ok (.enter E.resetF args) W := fun args W => call_Reset E args W; clear hs HKR)
            | (refine (HRS.out).mono ?_; rintro e w7 ⟨rfl, hs⟩; clear hme hcf; have q5 := (hs.blk 5 rfl).cell 5; simp only [List.getElem?_toArray, List.getElem?_cons_zero, List.getElem?_cons_succ] at q5; have HS7 := Lib.hid (show Sep w w7 (engR b m a A.n 2049 (E.reset) :: markR m a 2049 (Col.white) :: arenaR a A :: rowR 34 1 (.slice AL n0 capl) n0 (nums rs) :: adjR Tryz.prog 34 34 jb (ptsOf fs) :: blkR T 47 #[.int .u8 e0, .int .u8 e1, .int .u8 e2, .int .u8 e3, .int .u8 e4, .int .u8 e5] :: []) from hs); clear hs HRS))
          have hs := HS7.out
          obtain ⟨g, cap', hsl, _, _⟩ := hs.rowSome 3 rfl (by omega)
          simp only [Value.slice.injEq] at hsl
          obtain ⟨rfl, _, rfl⟩ := hsl
          have HIDR := Lib.hid (Eng.reset_idle E)
          have HTR := Lib.hid ((Eng.reset_T E).trans HEQ.out)
          have HS8 := Lib.hid hs
          obtain ⟨kk, hkk⟩ : ∃ kk, 1 + K9 = kk := ⟨_, rfl⟩
          have hkI : (1 : Int) + (K9 : Int) = (kk : Int) := by omega
          rw [hkk]
          have hkn : kk ≤ n0 := by omega
          have hk1 : 1 ≤ kk := by omega
          try rw [hkI]
          have HKK := Lib.hid hkk
          clear hs HS7 hkk hkI
          go_loopw [120] (fun iv wr => ∃ (k : Nat), k ≤ kk ∧ iv = .int .i64 (k : Int) ∧ Sep w wr (engR b m a A.n 2049 (E.reset) :: markR m a 2049 (Col.white.shades (rs.take k)) :: arenaR a A :: rowR 34 1 (.slice (some ⟨g, 0, none⟩) n0 capl) n0 (nums rs) :: adjR Tryz.prog 34 34 jb (ptsOf fs) :: blkR T 47 #[.int .u8 e0, .int .u8 e1, .int .u8 e2, .int .u8 e3, .int .u8 e4, .int .u8 e5] :: [])) (fun iv _ => kk + 1 - (intOf iv).toNat)
          case atStart => exact ⟨0, by omega, rfl, HS8.out⟩
          case round =>
            clear HS8
            obtain ⟨k, hk, rfl, hs⟩ := hrel
            by_cases hlt : k < kk
            · have hltI : (k : Int) < (kk : Int) := by omega
              obtain ⟨x, hx⟩ : ∃ z_, rs[k]? = some z_ := ⟨_, List.getElem?_eq_getElem (by rw [HRN.out]; omega)⟩
              have cx := hs.rowCell 3 rfl k _ (nums_get _ _ _ hx)
              have hx2 := HGR.out.lt (List.mem_of_getElem? hx)
              have HTX := Lib.hid (show rs.take (k + 1) = rs.take k ++ [x] by rw [List.take_add_one, hx]; rfl)
              have HSH := Lib.hid (KShade hs 1 rfl x hx2.1 hx2.2)
              clear hs hx
              go_wp2_with (go_at_call 13; refine (HSH.out).mono ?_; rintro e w7 ⟨rfl, hs⟩; rw [← shades_push, ← HTX.out] at hs; have HS7 := Lib.hid hs; clear hs HSH)
              go_roundw
              case rel => exact ⟨k + 1, by omega, by go_num, HS7.out⟩
              case measure => simp [intOf]; omega
            · obtain rfl : kk = k := by omega
              have HRE := Lib.hid (ReachSub (k := kk) (cp := capl) (HGR.out.field (by rw [HRN.out]; exact hn0)) (fun x hx => hx) HRN.out hkn (by omega) (show Sep w wr (rowR 34 1 (.slice (some ⟨g, 0, none⟩) n0 capl) n0 (nums rs) :: adjR Tryz.prog 34 34 jb (ptsOf fs) :: engR b m a A.n 2049 (E.reset) :: markR m a 2049 (Col.white.shades (rs.take kk)) :: arenaR a A :: blkR T 47 #[.int .u8 e0, .int .u8 e1, .int .u8 e2, .int .u8 e3, .int .u8 e4, .int .u8 e5] :: []) from hs.front 5 [3, 4]))
              have HFX := Lib.hid (show (E.reset).fin A (rs.take kk) (Col.white.shades (rs.take kk)) = Col.white.shades (rs.take kk) from by
                rw [Eng.idle_fin HIDR.out]
                split
                · exact shades_twice _ (fun x hx => hx)
                · rfl)
              clear hs
              go_wp2_with (first
                | (go_at_call 28; refine (HRE.out).mono ?_; rintro e w6 ⟨mb, V, rfl, hV, hVo, hs⟩; have HV := Lib.hid hV; have HVO := Lib.hid hVo; have HRT := Lib.hid (RRoots (show Sep w w6 (mapR Tryz.prog 55 34 3 .i64 .i64 mb (rs.countP V) (visM V) :: rowR 34 1 (.slice (some ⟨g, 0, none⟩) n0 capl) n0 (nums rs) :: adjR Tryz.prog 34 34 jb (ptsOf fs) :: engR b m a A.n 2049 (E.reset) :: markR m a 2049 (Col.white.shades (rs.take kk)) :: arenaR a A :: blkR T 47 #[.int .u8 e0, .int .u8 e1, .int .u8 e2, .int .u8 e3, .int .u8 e4, .int .u8 e5] :: []) from hs) (some ⟨g, 0, none⟩) kk capl); clear hs hV hVo HRE)
                | (go_at_call 30; refine (HRT.out).mono ?_; rintro e w9 ⟨B, rfl, hs⟩; have hfi := EFinish (E.reset) (roots_iter B g kk capl n0 capl rs hkn HRN.out (by omega)) enters_roots (fun z hz => HGR.out.lt (List.mem_of_mem_take hz)) HGR.out.heap.wf HGR.out.size (by rw [HGR.out.n]; omega) (Eng.idle_ok HIDR.out _) HGR.out.heap HGR.out.nodup HGR.out.ptsIn (by rw [HRN.out]; omega) (fun z hz => by rw [HFX.out, white_mz] at hz; exact List.mem_of_mem_take (of_decide_eq_true hz)) (show Sep w w9 (blkR B 25 #[.slice (some ⟨g, 0, none⟩) kk capl] :: rowR 34 1 (.slice (some ⟨g, 0, none⟩) n0 capl) n0 (nums rs) :: engR b m a A.n 2049 (E.reset) :: markR m a 2049 (Col.white.shades (rs.take kk)) :: arenaR a A :: mapR Tryz.prog 55 34 3 .i64 .i64 mb (rs.countP V) (visM V) :: adjR Tryz.prog 34 34 jb (ptsOf fs) :: blkR T 47 #[.int .u8 e0, .int .u8 e1, .int .u8 e2, .int .u8 e3, .int .u8 e4, .int .u8 e5] :: []) from (show Sep w w9 (blkR B 25 #[.slice (some ⟨g, 0, none⟩) kk capl] :: mapR Tryz.prog 55 34 3 .i64 .i64 mb (rs.countP V) (visM V) :: rowR 34 1 (.slice (some ⟨g, 0, none⟩) n0 capl) n0 (nums rs) :: adjR Tryz.prog 34 34 jb (ptsOf fs) :: engR b m a A.n 2049 (E.reset) :: markR m a 2049 (Col.white.shades (rs.take kk)) :: arenaR a A :: blkR T 47 #[.int .u8 e0, .int .u8 e1, .int .u8 e2, .int .u8 e3, .int .u8 e4, .int .u8 e5] :: []) from hs).front 7 [0, 2, 4, 5, 6]); rw [← engV_is HTR.out b, HFX.out] at hfi; have HFI := Lib.hid hfi; clear hs hfi HRT)
                | (go_at_call 29; refine (HFI.out).mono ?_; rintro e w10 ⟨d, C2, rfl, hst, hno, hs⟩; have hwe := white_end HGR.out.nodup HGR.out.ptsIn (fun x hx => List.mem_of_mem_take hx) hst hno; have hmv : ∀ x, C2.mz x = V x := (fun x => by have h1 := hwe.1 x; have h2 := HV.out x; cases e1 : C2.mz x <;> cases e2 : V x <;> simp_all); have hdv : rs.countP V = d := (by rw [← hwe.2.2]; exact List.countP_congr (fun x _ => by rw [hmv])); have HMV := Lib.hid hmv; have HDV := Lib.hid hdv; have hdd : ((d : Int) != (d : Int)) = false := (by simp); have hs' := (show Sep w w10 (mapR Tryz.prog 55 34 3 .i64 .i64 mb (rs.countP V) (visM V) :: blkR B 25 #[.slice (some ⟨g, 0, none⟩) kk capl] :: rowR 34 1 (.slice (some ⟨g, 0, none⟩) n0 capl) n0 (nums rs) :: engR b m a A.n 2049 ((E.reset).remark A (Col.white.shades (rs.take kk))).1 :: markR m a 2049 (C2) :: arenaR a A :: adjR Tryz.prog 34 34 jb (ptsOf fs) :: blkR T 47 #[.int .u8 e0, .int .u8 e1, .int .u8 e2, .int .u8 e3, .int .u8 e4, .int .u8 e5] :: []) from (show Sep w w10 (blkR B 25 #[.slice (some ⟨g, 0, none⟩) kk capl] :: rowR 34 1 (.slice (some ⟨g, 0, none⟩) n0 capl) n0 (nums rs) :: engR b m a A.n 2049 ((E.reset).remark A (Col.white.shades (rs.take kk))).1 :: markR m a 2049 (C2) :: arenaR a A :: mapR Tryz.prog 55 34 3 .i64 .i64 mb (rs.countP V) (visM V) :: adjR Tryz.prog 34 34 jb (ptsOf fs) :: blkR T 47 #[.int .u8 e0, .int .u8 e1, .int .u8 e2, .int .u8 e3, .int .u8 e4, .int .u8 e5] :: []) from hs).front 6 [5]); have HS9 := Lib.hid hs'; have hlen := (fun ty => map_len refIntOk hs' 0 rfl ty); rw [hdv] at hlen; have HLEN2 := Lib.hid hlen; clear hs hs' hst hno hwe hmv hdv hlen HFI)
                | (at_len; refine wpList_len_run rfl _ _ rfl rfl HLEN2.out ?_; clear HLEN2))
              go_loopw [141] (fun i wr => ∃ k : Nat, k ≤ n0 ∧ i = .int .i64 k ∧ Sep w wr (mapR Tryz.prog 55 34 3 .i64 .i64 mb (rs.countP V) (visM V) :: blkR B 25 #[.slice (some ⟨g, 0, none⟩) kk capl] :: rowR 34 1 (.slice (some ⟨g, 0, none⟩) n0 capl) n0 (nums rs) :: engR b m a A.n 2049 ((E.reset).remark A (Col.white.shades (rs.take kk))).1 :: markR m a 2049 (C2) :: arenaR a A :: adjR Tryz.prog 34 34 jb (ptsOf fs) :: blkR T 47 #[.int .u8 e0, .int .u8 e1, .int .u8 e2, .int .u8 e3, .int .u8 e4, .int .u8 e5] :: [])) (fun i _ => n0 + 1 - (intOf i).toNat)
              case atStart => exact ⟨0, by omega, rfl, HS9.out⟩
              case round =>
                clear HS9
                obtain ⟨k, hk, rfl, hs⟩ := hrel
                by_cases hlt : k < n0
                · have hltI : (k : Int) < (n0 : Int) := by omega
                  obtain ⟨xr, hx⟩ : ∃ z_, rs[k]? = some z_ := ⟨_, List.getElem?_eq_getElem (by rw [HRN.out]; exact hlt)⟩
                  have cx := hs.rowCell 2 rfl k _ (nums_get _ _ _ hx)
                  have hx2 := HGR.out.lt (List.mem_of_getElem? hx)
                  have hxr := List.mem_of_getElem? hx
                  have HSB := Lib.hid hs
                  have hmk := fun W (S : Sep w W (mapR Tryz.prog 55 34 3 .i64 .i64 mb (rs.countP V) (visM V) :: blkR B 25 #[.slice (some ⟨g, 0, none⟩) kk capl] :: rowR 34 1 (.slice (some ⟨g, 0, none⟩) n0 capl) n0 (nums rs) :: engR b m a A.n 2049 ((E.reset).remark A (Col.white.shades (rs.take kk))).1 :: markR m a 2049 (C2) :: arenaR a A :: adjR Tryz.prog 34 34 jb (ptsOf fs) :: blkR T 47 #[.int .u8 e0, .int .u8 e1, .int .u8 e2, .int .u8 e3, .int .u8 e4, .int .u8 e5] :: [])) => KMarked S 4 rfl xr hx2.2
                  rw [HMV.out xr] at hmk
                  obtain ⟨bb, hbb⟩ : ∃ bb, V xr = bb := ⟨_, rfl⟩
                  have HVX := Lib.hid hbb
                  rw [hbb] at hmk
                  clear hs hx hbb hxr
                  cases bb
                  · have HMK := Lib.hid hmk
                    clear hmk
                    go_wp2
                    refine region_sep HSB.out (by kernel_rfl) (by kernel_rfl) ?_
                    intro hne0
                    have ylk : ∀ x : SepW w (mapR Tryz.prog 55 34 3 .i64 .i64 mb (rs.countP V) (visM V) :: blkR B 25 #[.slice (some ⟨g, 0, none⟩) kk capl] :: rowR 34 1 (.slice (some ⟨g, 0, none⟩) n0 capl) n0 (nums rs) :: engR b m a A.n 2049 ((E.reset).remark A (Col.white.shades (rs.take kk))).1 :: markR m a 2049 (C2) :: arenaR a A :: adjR Tryz.prog 34 34 jb (ptsOf fs) :: blkR T 47 #[.int .u8 e0, .int .u8 e1, .int .u8 e2, .int .u8 e3, .int .u8 e4, .int .u8 e5] :: []), (Instr.lookup 55 (.map (some mb)) (.int .i64 (xr : Int)) false).run Tryz.prog x.w' = .ok (.int .i64 0) x.w' := fun x => by
                      have := map_get refIntOk x.h 0 rfl (wfx (x := xr) (by omega))
                      rw [visM_at, HVX.out] at this
                      simpa using this
                    repeat (go_big_quiet_step (first
                      | (go_at_call 18; exact sep_calls (HMK.out _ (SepW.h _)))))
                    refine wpQuiet_nil ?_
                    rintro wq ⟨⟨wqx, hs⟩, rfl⟩
                    clear ylk hne0
                    go_wp2
                    go_roundw
                    case rel => exact ⟨k + 1, by omega, by go_num, hs⟩
                    case measure => simp [intOf]; omega
                  · have HMK := Lib.hid hmk
                    clear hmk
                    go_wp2
                    refine region_sep HSB.out (by kernel_rfl) (by kernel_rfl) ?_
                    intro hne0
                    have ylk : ∀ x : SepW w (mapR Tryz.prog 55 34 3 .i64 .i64 mb (rs.countP V) (visM V) :: blkR B 25 #[.slice (some ⟨g, 0, none⟩) kk capl] :: rowR 34 1 (.slice (some ⟨g, 0, none⟩) n0 capl) n0 (nums rs) :: engR b m a A.n 2049 ((E.reset).remark A (Col.white.shades (rs.take kk))).1 :: markR m a 2049 (C2) :: arenaR a A :: adjR Tryz.prog 34 34 jb (ptsOf fs) :: blkR T 47 #[.int .u8 e0, .int .u8 e1, .int .u8 e2, .int .u8 e3, .int .u8 e4, .int .u8 e5] :: []), (Instr.lookup 55 (.map (some mb)) (.int .i64 (xr : Int)) false).run Tryz.prog x.w' = .ok (.int .i64 1) x.w' := fun x => by
                      have := map_get refIntOk x.h 0 rfl (wfx (x := xr) (by omega))
                      rw [visM_at, HVX.out] at this
                      simpa using this
                    repeat (go_big_quiet_step (first
                      | (go_at_call 18; exact sep_calls (HMK.out _ (SepW.h _)))))
                    refine wpQuiet_nil ?_
                    rintro wq ⟨⟨wqx, hs⟩, rfl⟩
                    clear ylk hne0
                    go_wp2
                    go_roundw
                    case rel => exact ⟨k + 1, by omega, by go_num, hs⟩
                    case measure => simp [intOf]; omega
                · obtain rfl : n0 = k := by omega
                  have HS7 := Lib.hid hs
                  clear hs
                  go_wp2_with fail
                  go_ret
                  exact ⟨by first | rfl | simp, HS7.out.below⟩
  · by_cases hsm : n0 ≤ 40 ∧ n1 ≤ 120
    · have HSD := Lib.hid (show (decide (n0 ≤ 40) && decide (n1 ≤ 120)) = true by rw [decide_eq_true hsm.1, decide_eq_true hsm.2]; rfl)
      have hnlI : (60 : Int) < (n2 : Int) := by
        have : ¬ n2 ≤ 60 := fun h => hsmall ⟨hsm.1, hsm.2, h⟩
        omega
      clear hsm hsmall
      go_wp2_with (first
        | (go_at_call 24; refine (fit16 _).mono ?_; rintro e w1 ⟨rfl, hC⟩; have hs1 := HS0.out.same hC; have p0 := (hs1.blk 0 rfl).cell 0; have p1 := (hs1.blk 0 rfl).cell 1; have q0 := (hs1.blk 1 rfl).cell 0; have q1 := (hs1.blk 1 rfl).cell 1; have q2 := (hs1.blk 1 rfl).cell 2; have q3 := (hs1.blk 1 rfl).cell 3; have q4 := (hs1.blk 1 rfl).cell 4; have q5 := (hs1.blk 1 rfl).cell 5; simp only [List.getElem?_toArray, List.getElem?_cons_zero, List.getElem?_cons_succ] at p0 p1 q0 q1 q2 q3 q4 q5; have HS1 := Lib.hid hs1; clear hC hs1 HS0)
        | (go_at_call 25; refine (Small11 _ A0 n0 c0 A1 n1 c1).mono ?_; rw [HSD.out]; rintro e w2 ⟨rfl, hC⟩; have HS2 := Lib.hid (HS1.out.same hC); clear hC HS1))
      go_ret
      exact ⟨rfl, HS2.out.below⟩
    · have HSD := Lib.hid (show (decide (n0 ≤ 40) && decide (n1 ≤ 120)) = false by
        rw [Bool.and_eq_false_iff]
        by_cases h : n0 ≤ 40
        · exact .inr (decide_eq_false fun h2 => hsm ⟨h, h2⟩)
        · exact .inl (decide_eq_false h))
      clear hsm hsmall
      go_wp2_with (first
        | (go_at_call 24; refine (fit16 _).mono ?_; rintro e w1 ⟨rfl, hC⟩; have hs1 := HS0.out.same hC; have p0 := (hs1.blk 0 rfl).cell 0; have p1 := (hs1.blk 0 rfl).cell 1; have q0 := (hs1.blk 1 rfl).cell 0; have q1 := (hs1.blk 1 rfl).cell 1; have q2 := (hs1.blk 1 rfl).cell 2; have q3 := (hs1.blk 1 rfl).cell 3; have q4 := (hs1.blk 1 rfl).cell 4; have q5 := (hs1.blk 1 rfl).cell 5; simp only [List.getElem?_toArray, List.getElem?_cons_zero, List.getElem?_cons_succ] at p0 p1 q0 q1 q2 q3 q4 q5; have HS1 := Lib.hid hs1; clear hC hs1 HS0)
        | (go_at_call 25; refine (Small11 _ A0 n0 c0 A1 n1 c1).mono ?_; rw [HSD.out]; rintro e w2 ⟨rfl, hC⟩; have HS2 := Lib.hid (HS1.out.same hC); clear hC HS1))
      go_ret
      exact ⟨rfl, HS2.out.below⟩
end Go.Proofs.YtbcabjpafeocgaaGreat
