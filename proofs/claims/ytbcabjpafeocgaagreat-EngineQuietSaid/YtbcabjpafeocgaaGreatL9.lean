/-
  Parts of the proof, joined: EngineQuietW. Conditions: as each part says.
-/
import Derived.Test.YtbcabjpafeocgaaGreatL8
import Derived.Test.YtbcabjpafeocgaaGreatL1
import Derived.Test.YtbcabjpafeocgaaGreatL5
import Derived.StillTailTactics

/-
  The walk of EngineQuiet. Conditions: as the theorem says.
-/
namespace Go.Proofs.YtbcabjpafeocgaaGreat
set_option linter.unusedVariables false
set_option linter.unusedSimpArgs false
open Go.RowKit Go.Shelf

theorem engV_is {E : Eng} {et : TypeId} (h : engT E = et) (b : Nat) : Value.iface et (.pointer (some ⟨b, 0, none⟩)) = engV b E := by unfold engV; rw [h]
theorem shades_done {C : Col} {l : List Nat} (h : ∀ x ∈ l, C.mz x = true) : C.shades l = C := by
  refine Col.ext (fun x => ?_) (fun x => by rw [shades_sc])
  rw [shades_mz]
  by_cases e : x ∈ l
  · simp [e, h x e]
  · simp [e]
theorem yields_len {P : Program} {o : Oper} {a : Act} {w : World} (m : Operand) (t : TypeId) (hop : o.op = Op.call { callee := Callee.builtin Builtin.len, args := #[m], argTypes := #[t] }) {vm v : Value} (hm : a.eval m = vm) (hrun : ∀ ty, (Builtin.len_ #[t] ty #[vm]).run P w = .ok v w) : yieldsAt P o a v w := by
  unfold yieldsAt
  simp [execOp, hop, resolve, invoke, builtin, hm, hrun]
theorem wp_call_any {P : Program} {Q : Exit → Act → World → Prop} {o : Oper} {a : Act} {w : World} {f : FuncId} {args : Array Value} {R : Ending → World → Prop} {K : Act → World → Prop} (hrun : (execOp a.eval o).run P w = .ok (.enter f args) w) (hc : Calls P f args w R)
    (hK : ∀ e w', R e w' → ∃ v, e = .returned v ∧ K (a.put o.dst v) w') : o.wp P a w K Q := by
  unfold Oper.wp
  rw [hrun]
  refine Calls.mono hc ?_
  intro e w' hr
  obtain ⟨v, rfl, hk⟩ := hK e w' hr
  exact hk
attribute [local go_sem] Oper.semAt_some wide_fn round_fn wide_depth round_depth
attribute [local simp] wide_fn round_fn wide_depth round_depth
set_option maxRecDepth 100000 in
set_option maxHeartbeats 16000000 in
theorem engineQuiet_walk (e0 e1 e2 e3 e4 e5 : Int) (A0 : Option Addr) (n0 c0 : Nat) (D0 : Nat → Nat → Int) (A1 : Option Addr) (n1 c1 : Nat) (D1 : Nat → Nat → Int) (A2 : Option Addr) (n2 c2 : Nat) (D2 : Nat → Nat → Int) (w : World) (he0 : (Lit.int .u8 e0).wf = true) (he1 : (Lit.int .u8 e1).wf = true) (he2 : (Lit.int .u8 e2).wf = true) (he3 : (Lit.int .u8 e3).wf = true) (he4 : (Lit.int .u8 e4).wf = true) (he5 : (Lit.int .u8 e5).wf = true) (hz0 : ArgI w A0 n0 [.u8] D0) (hm0 : n0 ≤ maxLen) (hz1 : ArgI w A1 n1 [.u16, .u16, .u16] D1) (hm1 : n1 ≤ maxLen) (hz2 : ArgI w A2 n2 [.u8] D2) (hm2 : n2 ≤ maxLen) :
    Calls Tryz.prog 7 #[.agg #[.int .u8 e0, .int .u8 e1, .int .u8 e2, .int .u8 e3, .int .u8 e4, .int .u8 e5], .agg #[.slice A0 n0 c0, .slice A1 n1 c1], .slice A2 n2 c2] w fun e w' => e = .returned (.bool true) ∧ Below w.heap.size w w' := by
  have HZ0 := Lib.hid hz0
  have HZ1 := Lib.hid hz1
  have HZ2 := Lib.hid hz2
  unfold maxLen at hm0 hm1
  try unfold maxLen at hm2
  clear hz0 hz1 hz2
  obtain ⟨T, hT⟩ : ∃ T, w.heap.size = T := ⟨_, rfl⟩
  have hs0 := (((Sep.start w).box #[.int .u8 e0, .int .u8 e1, .int .u8 e2, .int .u8 e3, .int .u8 e4, .int .u8 e5] 47).box #[.slice A0 n0 c0, .slice A1 n1 c1] 30).box #[.bool false] 4
  rw [World.size_alloc, World.size_alloc, hT] at hs0
  have HS0 := Lib.hid (show Sep w _ (blkR (T + 2) 4 #[.bool false] :: blkR (T + 1) 30 #[.slice A0 n0 c0, .slice A1 n1 c1] :: blkR T 47 #[.int .u8 e0, .int .u8 e1, .int .u8 e2, .int .u8 e3, .int .u8 e4, .int .u8 e5] :: []) from hs0)
  clear hs0
  have hw4_ := wf8 he4
  refine calls_wide ?_
  refine callsIn_of_wp_marks Tryz.func7 rfl trivial ?_
  simp only [Tryz.ntmps7, List.size_toArray, List.length_cons, List.length_nil, Nat.reduceAdd, Nat.reduceSub, Array.replicate_succ, Array.replicate_zero, List.push_toArray, List.append_toArray, List.nil_append, List.cons_append]
  refine wpIn_wide.2 ?_
  by_cases hsmall : n0 ≤ 40 ∧ n1 ≤ 120 ∧ n2 ≤ 40
  · have hsd : (decide (n0 ≤ 40) && decide (n1 ≤ 120)) = true := by rw [decide_eq_true hsmall.1, decide_eq_true hsmall.2.1]; rfl
    have HSD := Lib.hid hsd
    obtain ⟨hn0, hn1, hnl⟩ := hsmall
    have hnlI : ¬ (40 : Int) < (n2 : Int) := by omega
    clear hsd
    by_cases hz : n0 = 0
    · have hzb : ((n0 : Int) == 0) = true := by simp; omega
      have hzd : decide ((n0 : Int) = 0) = true := decide_eq_true (by omega)
      clear hz
      go_wp2_with (first
        | (go_at_call 24; refine (fit16 _).mono ?_; rintro e w1 ⟨rfl, hC⟩; have hs1 := HS0.out.same hC; have p0 := (hs1.blk 1 rfl).cell 0; have p1 := (hs1.blk 1 rfl).cell 1; have q0 := (hs1.blk 2 rfl).cell 0; have q1 := (hs1.blk 2 rfl).cell 1; have q2 := (hs1.blk 2 rfl).cell 2; have q3 := (hs1.blk 2 rfl).cell 3; have q4 := (hs1.blk 2 rfl).cell 4; have q5 := (hs1.blk 2 rfl).cell 5; have ry0 := (hs1.blk 0 rfl).cell 0; have fry0 := (hs1.blk 0 rfl).frozen 0; simp only [List.getElem?_toArray, List.getElem?_cons_zero, List.getElem?_cons_succ] at p0 p1 q0 q1 q2 q3 q4 q5 ry0; have HS1 := Lib.hid hs1; clear hC hs1 HS0)
        | (go_at_call 25; refine (Small11 _ A0 n0 c0 A1 n1 c1).mono ?_; rw [HSD.out]; rintro e w2 ⟨rfl, hC⟩; clear p0 p1 q0 q1 q2 q3 q4 q5 ry0 fry0; have hs1 := HS1.out.same hC; have p0 := (hs1.blk 1 rfl).cell 0; have p1 := (hs1.blk 1 rfl).cell 1; have q0 := (hs1.blk 2 rfl).cell 0; have q1 := (hs1.blk 2 rfl).cell 1; have q2 := (hs1.blk 2 rfl).cell 2; have q3 := (hs1.blk 2 rfl).cell 3; have q4 := (hs1.blk 2 rfl).cell 4; have q5 := (hs1.blk 2 rfl).cell 5; have ry0 := (hs1.blk 0 rfl).cell 0; have fry0 := (hs1.blk 0 rfl).frozen 0; simp only [List.getElem?_toArray, List.getElem?_cons_zero, List.getElem?_cons_succ] at p0 p1 q0 q1 q2 q3 q4 q5 ry0; have HS2 := Lib.hid hs1; clear hC hs1 HS1)
        | (go_at_call 11; refine (Made11 A0 n0 c0 D0 A1 n1 c1 D1 HZ0.out HZ1.out hn0 hn1 HS2.out).mono ?_; rintro e w3 ⟨a, jb, v, A, rs, fs, rfl, hgr, hlen, hs⟩; clear p0 p1 q0 q1 q2 q3 q4 q5 ry0 fry0; rw [hlen] at hs; obtain ⟨AL, capl, rfl, hcapl, hmcapl⟩ := hs.rowShape 1 rfl; unfold maxLen at hmcapl; have hs := (show Sep w w3 (arenaR a A :: rowR 34 1 (.slice AL n0 capl) n0 (nums rs) :: adjR Tryz.prog 34 34 jb (ptsOf fs) :: blkR (T + 2) 4 #[.bool false] :: blkR (T + 1) 30 #[.slice A0 n0 c0, .slice A1 n1 c1] :: blkR T 47 #[.int .u8 e0, .int .u8 e1, .int .u8 e2, .int .u8 e3, .int .u8 e4, .int .u8 e5] :: []) from hs); have q0 := (hs.blk 5 rfl).cell 0; have q1 := (hs.blk 5 rfl).cell 1; have q2 := (hs.blk 5 rfl).cell 2; have q3 := (hs.blk 5 rfl).cell 3; have q4 := (hs.blk 5 rfl).cell 4; have q5 := (hs.blk 5 rfl).cell 5; have ry0 := (hs.blk 3 rfl).cell 0; have fry0 := (hs.blk 3 rfl).frozen 0; simp only [List.getElem?_toArray, List.getElem?_cons_zero, List.getElem?_cons_succ] at q0 q1 q2 q3 q4 q5 ry0; have HGR := Lib.hid hgr; have HRN := Lib.hid hlen; have HS3 := Lib.hid hs; clear hs hgr hlen HS2))
      exact leaves_box0 (HS3.out.setCell 3 rfl 0 (.bool true)) 3 rfl rfl rfl ⟨rfl, (HS3.out.setCell 3 rfl 0 (.bool true)).below⟩
    · have hzb : ((n0 : Int) == 0) = false := by simp; omega
      have hzd : decide ((n0 : Int) = 0) = false := decide_eq_false (by omega)
      have hk0 : (0 : Int) < (n0 : Int) := by omega
      obtain ⟨K9, xm, xl⟩ : ∃ K9 : Nat, e4.tmod (n0 : Int) = (K9 : Int) ∧ K9 < n0 := by
        have h1 := Int.emod_nonneg e4 (show (n0 : Int) ≠ 0 by omega)
        have h2 := Int.emod_lt_of_pos e4 (show (0 : Int) < (n0 : Int) by omega)
        refine ⟨(e4 % (n0 : Int)).toNat, ?_, by omega⟩
        rw [Int.tmod_eq_emod_of_nonneg (by omega)]
        omega
      have xI : (K9 : Int) < (n0 : Int) := by omega
      have x0 : (0 : Int) ≤ (K9 : Int) := by omega
      go_wp2_with (first
        | (go_at_call 24; refine (fit16 _).mono ?_; rintro e w1 ⟨rfl, hC⟩; have hs1 := HS0.out.same hC; have p0 := (hs1.blk 1 rfl).cell 0; have p1 := (hs1.blk 1 rfl).cell 1; have q0 := (hs1.blk 2 rfl).cell 0; have q1 := (hs1.blk 2 rfl).cell 1; have q2 := (hs1.blk 2 rfl).cell 2; have q3 := (hs1.blk 2 rfl).cell 3; have q4 := (hs1.blk 2 rfl).cell 4; have q5 := (hs1.blk 2 rfl).cell 5; have ry0 := (hs1.blk 0 rfl).cell 0; have fry0 := (hs1.blk 0 rfl).frozen 0; simp only [List.getElem?_toArray, List.getElem?_cons_zero, List.getElem?_cons_succ] at p0 p1 q0 q1 q2 q3 q4 q5 ry0; have HS1 := Lib.hid hs1; clear hC hs1 HS0)
        | (go_at_call 25; refine (Small11 _ A0 n0 c0 A1 n1 c1).mono ?_; rw [HSD.out]; rintro e w2 ⟨rfl, hC⟩; clear p0 p1 q0 q1 q2 q3 q4 q5 ry0 fry0; have hs1 := HS1.out.same hC; have p0 := (hs1.blk 1 rfl).cell 0; have p1 := (hs1.blk 1 rfl).cell 1; have q0 := (hs1.blk 2 rfl).cell 0; have q1 := (hs1.blk 2 rfl).cell 1; have q2 := (hs1.blk 2 rfl).cell 2; have q3 := (hs1.blk 2 rfl).cell 3; have q4 := (hs1.blk 2 rfl).cell 4; have q5 := (hs1.blk 2 rfl).cell 5; have ry0 := (hs1.blk 0 rfl).cell 0; have fry0 := (hs1.blk 0 rfl).frozen 0; simp only [List.getElem?_toArray, List.getElem?_cons_zero, List.getElem?_cons_succ] at p0 p1 q0 q1 q2 q3 q4 q5 ry0; have HS2 := Lib.hid hs1; clear hC hs1 HS1)
        | (go_at_call 11; refine (Made11 A0 n0 c0 D0 A1 n1 c1 D1 HZ0.out HZ1.out hn0 hn1 HS2.out).mono ?_; rintro e w3 ⟨a, jb, v, A, rs, fs, rfl, hgr, hlen, hs⟩; clear p0 p1 q0 q1 q2 q3 q4 q5 ry0 fry0; rw [hlen] at hs; obtain ⟨AL, capl, rfl, hcapl, hmcapl⟩ := hs.rowShape 1 rfl; unfold maxLen at hmcapl; have hs := (show Sep w w3 (arenaR a A :: rowR 34 1 (.slice AL n0 capl) n0 (nums rs) :: adjR Tryz.prog 34 34 jb (ptsOf fs) :: blkR (T + 2) 4 #[.bool false] :: blkR (T + 1) 30 #[.slice A0 n0 c0, .slice A1 n1 c1] :: blkR T 47 #[.int .u8 e0, .int .u8 e1, .int .u8 e2, .int .u8 e3, .int .u8 e4, .int .u8 e5] :: []) from hs); obtain ⟨g, cap', hsl, _, _⟩ := hs.rowSome 1 rfl (by omega); simp only [Value.slice.injEq] at hsl; obtain ⟨rfl, _, rfl⟩ := hsl; have q0 := (hs.blk 5 rfl).cell 0; have q1 := (hs.blk 5 rfl).cell 1; have q2 := (hs.blk 5 rfl).cell 2; have q3 := (hs.blk 5 rfl).cell 3; have q4 := (hs.blk 5 rfl).cell 4; have q5 := (hs.blk 5 rfl).cell 5; have ry0 := (hs.blk 3 rfl).cell 0; have fry0 := (hs.blk 3 rfl).frozen 0; simp only [List.getElem?_toArray, List.getElem?_cons_zero, List.getElem?_cons_succ] at q0 q1 q2 q3 q4 q5 ry0; have HGR := Lib.hid hgr; have HRN := Lib.hid hlen; have HS3 := Lib.hid hs; clear hs hgr hlen HS2)
        | (go_at_call 26; refine (Made08 _ e0 e1 e2 e3 e4 e5 (wf8 he0) (wf8 he1) (wf8 he2) (wf8 he3) (wf8 he4) (wf8 he5)).mono ?_; rintro e w2_ ⟨vc, rfl, ⟨bl, cp, ct, cr, cs, cg, cf, mk, lg, bu, rfl, hmk1, hmk2, hlg1, hlg2⟩, hC⟩; unfold confV; clear q0 q1 q2 q3 q4 q5 ry0 fry0; have hs2 := (HS3.out.same hC).box #[.int .i64 (e0 % 4), .bool bl, .int .i64 cp, .int .i64 ct, .int .i64 cr, .int .i64 cs, .int .i64 cg, .int .i64 cf, .int .i64 mk, .int .i64 lg, .int .i64 bu] 50; obtain ⟨TC, hTC⟩ : ∃ TC, w2_.heap.size = TC := ⟨_, rfl⟩; rw [hTC] at hs2; have q4 := (hs2.blk 6 rfl).cell 4; simp only [List.getElem?_toArray, List.getElem?_cons_zero, List.getElem?_cons_succ] at q4; have hre := ReachSub (k := 1 + K9) (cp := capl) (HGR.out.field (by rw [HRN.out]; exact hn0)) (fun x hx => hx) HRN.out (by omega) (by omega) (show Sep w _ (rowR 34 1 (.slice (some ⟨g, 0, none⟩) n0 capl) n0 (nums rs) :: adjR Tryz.prog 34 34 jb (ptsOf fs) :: arenaR a A :: blkR TC 50 #[.int .i64 (e0 % 4), .bool bl, .int .i64 cp, .int .i64 ct, .int .i64 cr, .int .i64 cs, .int .i64 cg, .int .i64 cf, .int .i64 mk, .int .i64 lg, .int .i64 bu] :: blkR (T + 2) 4 #[.bool false] :: []) from (hs2.front 7 [5, 6, 2, 3, 1, 0, 4]).tail.tail); have HRE := Lib.hid hre; clear hC hs2 hre HS3)
        | (go_at_call 28; refine (HRE.out).mono ?_; rintro e w6 ⟨mb, V, rfl, hV, hVo, hs⟩; have HV := Lib.hid hV; have HVO := Lib.hid hVo; clear q4; have hs2 := (show Sep w w6 (mapR Tryz.prog 55 34 3 .i64 .i64 mb (rs.countP V) (visM V) :: rowR 34 1 (.slice (some ⟨g, 0, none⟩) n0 capl) n0 (nums rs) :: adjR Tryz.prog 34 34 jb (ptsOf fs) :: arenaR a A :: blkR TC 50 #[.int .i64 (e0 % 4), .bool bl, .int .i64 cp, .int .i64 ct, .int .i64 cr, .int .i64 cs, .int .i64 cg, .int .i64 cf, .int .i64 mk, .int .i64 lg, .int .i64 bu] :: blkR (T + 2) 4 #[.bool false] :: []) from hs).box #[.map (some mb)] 55; obtain ⟨TB, hTB⟩ : ∃ TB, w6.heap.size = TB := ⟨_, rfl⟩; rw [hTB] at hs2; have HS6 := Lib.hid (show Sep w _ (blkR TB 55 #[.map (some mb)] :: mapR Tryz.prog 55 34 3 .i64 .i64 mb (rs.countP V) (visM V) :: rowR 34 1 (.slice (some ⟨g, 0, none⟩) n0 capl) n0 (nums rs) :: adjR Tryz.prog 34 34 jb (ptsOf fs) :: arenaR a A :: blkR TC 50 #[.int .i64 (e0 % 4), .bool bl, .int .i64 cp, .int .i64 ct, .int .i64 cr, .int .i64 cs, .int .i64 cg, .int .i64 cf, .int .i64 mk, .int .i64 lg, .int .i64 bu] :: blkR (T + 2) 4 #[.bool false] :: []) from hs2); clear hs hs2 hV hVo HRE))
      refine (wpIn_wide (n := 0)).1 ?_
      try simp only [hTC, hTB]
      clear hTC hTB
      obtain ⟨kk, hkk⟩ : ∃ kk, 1 + K9 = kk := ⟨_, rfl⟩
      have hkI : (1 : Int) + (K9 : Int) = (kk : Int) := by omega
      rw [hkk] at HV
      try rw [hkk]
      have hkn : kk ≤ n0 := by omega
      have hk1 : 1 ≤ kk := by omega
      try rw [hkI]
      clear hkk hkI
      obtain ⟨lw, hlw⟩ : ∃ lw, rs.countP V = lw := ⟨_, rfl⟩
      have HLW := Lib.hid hlw
      have hl40 : lw ≤ 40 := by
        have := List.countP_le_length (p := V) (l := rs)
        rw [HRN.out] at this
        omega
      clear hlw
      refine wpIn_loopM (Ds := []) [13, 14, 15, 17, 18, 20, 21, 55, 56, 57, 58, 59, 60, 61, 62, 63, 64, 65, 66, 67, 68, 69, 70, 71, 72, 73, 74, 75, 76, 77, 78, 79, 80, 81, 82, 83, 84, 85, 86, 87, 88, 89, 90, 91, 92, 93, 94, 95, 96, 97, 98, 99, 100, 101, 102, 103, 104, 105, 106, 107, 108, 109, 110, 112, 113, 114, 115, 116] (fun v Ds wr => ∃ (k : Nat) (q_ : Int) (b_ : Bool), k ≤ 4 ∧ v 55 = .int .i64 k ∧ Sep w wr (marksR Ds :: blkR TB 55 #[.map (some mb)] :: mapR Tryz.prog 55 34 3 .i64 .i64 mb (rs.countP V) (visM V) :: rowR 34 1 (.slice (some ⟨g, 0, none⟩) n0 capl) n0 (nums rs) :: adjR Tryz.prog 34 34 jb (ptsOf fs) :: arenaR a A :: blkR TC 50 #[.int .i64 q_, .bool b_, .int .i64 cp, .int .i64 ct, .int .i64 cr, .int .i64 cs, .int .i64 cg, .int .i64 cf, .int .i64 mk, .int .i64 lg, .int .i64 bu] :: blkR (T + 2) 4 #[.bool false] :: [])) (fun v _ => 4 + 1 - (intOf (v 55)).toNat) ⟨0, (e0 % 4), bl, by omega, rfl, HS6.out.noMarks⟩ (by kernel_rfl) ?_
      clear HS6
      rintro v Ds wr ⟨k, q_, b_, hk, hv, hs⟩
      simp only [setS, List.foldl_cons, List.foldl_nil, List.setIfInBounds_toArray, List.set_cons_succ, List.set_cons_zero]
      simp only [hv]
      clear hv
      by_cases hltk : k < 4
      · have hltIk : (k : Int) < (4 : Int) := by omega
        refine wpIn_wide.2 ?_
        have z0 := (hs.blk 6 rfl).cell 0
        have z1 := (hs.blk 6 rfl).cell 1
        have z2 := (hs.blk 6 rfl).cell 2
        have z3 := (hs.blk 6 rfl).cell 3
        have z4 := (hs.blk 6 rfl).cell 4
        have z5 := (hs.blk 6 rfl).cell 5
        have z6 := (hs.blk 6 rfl).cell 6
        have z7 := (hs.blk 6 rfl).cell 7
        have z8 := (hs.blk 6 rfl).cell 8
        have z9 := (hs.blk 6 rfl).cell 9
        have z10 := (hs.blk 6 rfl).cell 10
        have fz0 := (hs.blk 6 rfl).frozen 0
        have fz1 := (hs.blk 6 rfl).frozen 1
        simp only [List.getElem?_toArray, List.getElem?_cons_zero, List.getElem?_cons_succ] at z0 z1 z2 z3 z4 z5 z6 z7 z8 z9 z10
        have hsc := (hs.setCell 6 rfl 0 (.int .i64 (k : Int))).setCell 6 rfl 1 (.bool true)
        simp only [List.set_cons_succ, List.set_cons_zero, List.setIfInBounds_toArray] at hsc
        have HKN := Lib.hid (KNew hsc 5 rfl HGR.out.size (by omega) mk (by omega))
        clear hs hsc
        go_wp2_with (first
          | (go_at_call 12; refine (HKN.out).mono ?_; rintro e w4 ⟨m, rfl, hs⟩; clear z0 z1 z2 z3 z4 z5 z6 z7 z8 z9 z10 fz0 fz1; have z0 := (hs.blk 7 rfl).cell 0; have z1 := (hs.blk 7 rfl).cell 1; have z2 := (hs.blk 7 rfl).cell 2; have z3 := (hs.blk 7 rfl).cell 3; have z4 := (hs.blk 7 rfl).cell 4; have z5 := (hs.blk 7 rfl).cell 5; have z6 := (hs.blk 7 rfl).cell 6; have z7 := (hs.blk 7 rfl).cell 7; have z8 := (hs.blk 7 rfl).cell 8; have z9 := (hs.blk 7 rfl).cell 9; have z10 := (hs.blk 7 rfl).cell 10; simp only [List.getElem?_toArray, List.getElem?_cons_zero, List.getElem?_cons_succ] at z0 z1 z2 z3 z4 z5 z6 z7 z8 z9 z10; have HEN := Lib.hid (ENew hs 0 6 rfl rfl HGR.out.size (by omega) (k : Int) true cp ct cr cs cg cf mk lg bu (by omega)); clear hs HKN)
          | (go_at_call 27; refine (HEN.out).mono ?_; rintro e w5 ⟨b, rfl, hs⟩; clear z0 z1 z2 z3 z4 z5 z6 z7 z8 z9 z10; obtain ⟨E0, hE0⟩ : ∃ E0, Eng.new (k : Int) lg = E0 := ⟨_, rfl⟩; have HID := Lib.hid (show E0.idle from by rw [← hE0]; exact Eng.new_idle _ _); rw [hE0] at hs ⊢; unfold engV; obtain ⟨et, het⟩ : ∃ et, engT E0 = et := ⟨_, rfl⟩; have HEV := Lib.hid het; rw [het]; have HS5 := Lib.hid (show Sep w w5 (engR b m a A.n 2049 (E0) :: markR m a 2049 (Col.white) :: marksR Ds :: blkR TB 55 #[.map (some mb)] :: mapR Tryz.prog 55 34 3 .i64 .i64 mb (rs.countP V) (visM V) :: rowR 34 1 (.slice (some ⟨g, 0, none⟩) n0 capl) n0 (nums rs) :: adjR Tryz.prog 34 34 jb (ptsOf fs) :: arenaR a A :: blkR TC 50 #[.int .i64 (k : Int), .bool true, .int .i64 cp, .int .i64 ct, .int .i64 cr, .int .i64 cs, .int .i64 cg, .int .i64 cf, .int .i64 mk, .int .i64 lg, .int .i64 bu] :: blkR (T + 2) 4 #[.bool false] :: []) from hs); clear hs hE0 het HEN))
        go_loopw [70] (fun iv wr2 => ∃ (k2 : Nat), k2 ≤ kk ∧ iv = .int .i64 (k2 : Int) ∧ Sep w wr2 (engR b m a A.n 2049 (E0) :: markR m a 2049 (Col.white.shades (rs.take k2)) :: marksR Ds :: blkR TB 55 #[.map (some mb)] :: mapR Tryz.prog 55 34 3 .i64 .i64 mb (rs.countP V) (visM V) :: rowR 34 1 (.slice (some ⟨g, 0, none⟩) n0 capl) n0 (nums rs) :: adjR Tryz.prog 34 34 jb (ptsOf fs) :: arenaR a A :: blkR TC 50 #[.int .i64 (k : Int), .bool true, .int .i64 cp, .int .i64 ct, .int .i64 cr, .int .i64 cs, .int .i64 cg, .int .i64 cf, .int .i64 mk, .int .i64 lg, .int .i64 bu] :: blkR (T + 2) 4 #[.bool false] :: [])) (fun iv _ => kk + 1 - (intOf iv).toNat)
        case atStart => exact ⟨0, by omega, rfl, HS5.out⟩
        case round =>
          clear HS5
          obtain ⟨k2, hk2, rfl, hs⟩ := hrel
          by_cases hlt2 : k2 < kk
          · have hltI2 : (k2 : Int) < (kk : Int) := by omega
            obtain ⟨x, hx⟩ : ∃ z_, rs[k2]? = some z_ := ⟨_, List.getElem?_eq_getElem (by rw [HRN.out]; omega)⟩
            have cx := hs.rowCell 5 rfl k2 _ (nums_get _ _ _ hx)
            have hx2 := HGR.out.lt (List.mem_of_getElem? hx)
            have HTX := Lib.hid (show rs.take (k2 + 1) = rs.take k2 ++ [x] by rw [List.take_add_one, hx]; rfl)
            have HSH := Lib.hid (KShade hs 1 rfl x hx2.1 hx2.2)
            clear hs hx
            go_wp2_with (go_at_call 13; refine (HSH.out).mono ?_; rintro e w7 ⟨rfl, hs⟩; rw [← shades_push, ← HTX.out] at hs; have HS7 := Lib.hid hs; clear hs HSH)
            go_roundw
            case rel => exact ⟨k2 + 1, by omega, by go_num, HS7.out⟩
            case measure => simp [intOf]; omega
          · obtain rfl : kk = k2 := by omega
            have HS6b := Lib.hid hs
            clear hs
            go_wp2_with fail
            have HC1 := Lib.hid (show ∀ x, (Col.white.shades (rs.take kk)).mz x = true → x ∈ rs from fun x hx => by rw [white_mz] at hx; exact List.mem_of_mem_take (of_decide_eq_true hx))
            go_loopw [18, 80] (fun nv iv wq3 => ∃ (k3 d : Nat) (C : Col), k3 ≤ n2 ∧ nv = .int .i64 (d : Int) ∧ iv = .int .i64 (k3 : Int) ∧ d ≤ 40 ∧ Steps (ptsOf fs) d (Col.white.shades (rs.take kk)) C ∧ Sep w wq3 (engR b m a A.n 2049 (E0) :: markR m a 2049 (C) :: marksR Ds :: blkR TB 55 #[.map (some mb)] :: mapR Tryz.prog 55 34 3 .i64 .i64 mb (rs.countP V) (visM V) :: rowR 34 1 (.slice (some ⟨g, 0, none⟩) n0 capl) n0 (nums rs) :: adjR Tryz.prog 34 34 jb (ptsOf fs) :: arenaR a A :: blkR TC 50 #[.int .i64 (k : Int), .bool true, .int .i64 cp, .int .i64 ct, .int .i64 cr, .int .i64 cs, .int .i64 cg, .int .i64 cf, .int .i64 mk, .int .i64 lg, .int .i64 bu] :: blkR (T + 2) 4 #[.bool false] :: [])) (fun _ iv _ => n2 + 1 - (intOf iv).toNat)
            case atStart => exact ⟨0, 0, _, by omega, rfl, rfl, by omega, .zero _, HS6b.out⟩
            case round =>
              clear HS6b
              obtain ⟨k3, d, C, hk3, rfl, rfl, hd40, hst, hs⟩ := hrel
              by_cases hlt3 : k3 < n2
              · have hltI3 : (k3 : Int) < (n2 : Int) := by omega
                obtain ⟨ab, ao, hA0, hcell⟩ := HZ2.out.at_ hs.own hlt3
                subst hA0
                have hc0 := hcell 0 _ rfl
                have hw0 := wf8 (HZ2.out.wf hlt3 0 .u8 rfl)
                simp at hc0
                obtain ⟨d0, h0⟩ : ∃ d, D2 k3 0 = d := ⟨_, rfl⟩
                rw [h0] at hc0 hw0
                clear hcell h0
                obtain ⟨q, hq, hql⟩ : ∃ q : Nat, d0 % 4 = (q : Int) ∧ q ≤ 3 := ⟨(d0 % 4).toNat, by omega, by omega⟩
                have hqt : d0.tmod 4 = (q : Int) := by rw [Int.tmod_eq_emod_of_nonneg (by omega)]; exact hq
                have HIN := Lib.hid (hst.within (P := fun x => x ∈ rs) HGR.out.ptsIn HC1.out)
                have HST := Lib.hid hst
                have HKT := Lib.hid (KTrace HGR.out.heap HGR.out.size HIN.out hs 1 7 rfl rfl (by decide) q (by omega))
                clear hs hst
                go_wp2_with (go_at_call 20; refine (HKT.out).mono ?_; rintro e w8 ⟨d2, C2, rfl, ht, hs⟩; have hd4 := ht.most; have HST2 := Lib.hid (HST.out.trans ht.steps); have HS8 := Lib.hid (show Sep w w8 (engR b m a A.n 2049 (E0) :: markR m a 2049 (C2) :: marksR Ds :: blkR TB 55 #[.map (some mb)] :: mapR Tryz.prog 55 34 3 .i64 .i64 mb (rs.countP V) (visM V) :: rowR 34 1 (.slice (some ⟨g, 0, none⟩) n0 capl) n0 (nums rs) :: adjR Tryz.prog 34 34 jb (ptsOf fs) :: arenaR a A :: blkR TC 50 #[.int .i64 (k : Int), .bool true, .int .i64 cp, .int .i64 ct, .int .i64 cr, .int .i64 cs, .int .i64 cg, .int .i64 cf, .int .i64 mk, .int .i64 lg, .int .i64 bu] :: blkR (T + 2) 4 #[.bool false] :: []) from hs); clear hs ht HKT)
                have hcnt2 := HST2.out.count HGR.out.nodup HGR.out.ptsIn HC1.out
                have hdl2 : d + d2 ≤ 40 := by
                  have := List.countP_le_length (p := C2.sc) (l := rs)
                  rw [HRN.out] at this
                  omega
                clear hcnt2
                go_roundw
                case rel => exact ⟨k3 + 1, d + d2, C2, by omega, by go_num, by go_num, hdl2, HST2.out, HS8.out⟩
                case measure => simp [intOf]; omega
              · obtain rfl : n2 = k3 := by omega
                go_wp2
                have HST := Lib.hid hst
                obtain ⟨wd, hwd⟩ : ∃ wd, wr.drew = wd := ⟨_, rfl⟩
                have hd := hs.drew
                rw [hwd] at hd
                have ua := (hd.blk 3 rfl).cell 0
                simp only [List.getElem?_toArray, List.getElem?_cons_zero] at ua
                have ub := (fun ty => map_len refIntOk hd 4 rfl ty)
                rw [HLW.out] at ub
                have HRT := Lib.hid (RRoots hd (some ⟨g, 0, none⟩) kk capl)
                have hro : Tryz.prog.follows .mixedOrders = true := by kernel_rfl
                have HFX := Lib.hid (show E0.fin A (rs.take kk) C = C from by
                  rw [Eng.idle_fin HID.out]
                  split
                  · exact shades_done (fun x hx => hst.mono.1 x (by rw [white_mz]; exact decide_eq_true hx))
                  · rfl)
                have HIN := Lib.hid (hst.within (P := fun x => x ∈ rs) HGR.out.ptsIn HC1.out)
                clear hd hs hst
                refine calmP ?_
                refine wp_region_float (fun W => W.cell? ⟨TB, 0, none⟩ = some (.map (some mb)) ∧ (∀ ty, (Builtin.len_ #[55] ty #[.map (some mb)]).run Tryz.prog W = .ok (.int .i64 (lw : Int)) W)) hro ?_
                rw [hwd]
                clear hwd
                refine wpAnyC_take (i := 0) (v := ?v1) rfl (by kernel_rfl) (by kernel_rfl) (by kernel_rfl) (fun _ _ _ h => h) (.inl ⟨?w1, ?y1⟩) ?h1
                case w1 => kernel_rfl
                case y1 =>
                  intro W hf
                  obtain ⟨hf1, _⟩ := hf
                  unfold yieldsAt
                  go_simp
                  all_goals first | rfl | exact ⟨rfl, rfl⟩
                simp only [List.getElem_toArray, List.getElem_cons_zero, List.getElem_cons_succ, Act.put, List.setIfInBounds_toArray, List.set_cons_succ, List.set_cons_zero]
                refine wpAnyC_take (i := 1) (v := ?v2) rfl (by kernel_rfl) (by kernel_rfl) (by kernel_rfl) (fun _ _ _ h => h) (.inl ⟨?w2, ?y2⟩) ?h2
                case w2 => kernel_rfl
                case y2 =>
                  intro W hf
                  obtain ⟨hf1, _⟩ := hf
                  unfold yieldsAt
                  go_simp
                  all_goals first | rfl | exact ⟨rfl, rfl⟩
                simp only [List.getElem_toArray, List.getElem_cons_zero, List.getElem_cons_succ, Act.put, List.setIfInBounds_toArray, List.set_cons_succ, List.set_cons_zero]
                refine wpAnyC_take (i := 2) (v := ?v3) rfl (by kernel_rfl) (by kernel_rfl) (by kernel_rfl) (fun _ _ _ h => h) (.inl ⟨?w3, ?y3⟩) ?h3
                case w3 => kernel_rfl
                case y3 =>
                  intro W hf
                  obtain ⟨hf1, _⟩ := hf
                  unfold yieldsAt
                  go_simp
                  all_goals first | rfl | exact ⟨rfl, rfl⟩
                simp only [List.getElem_toArray, List.getElem_cons_zero, List.getElem_cons_succ, Act.put, List.setIfInBounds_toArray, List.set_cons_succ, List.set_cons_zero]
                refine wpAnyC_take (i := 3) (v := ?v4) rfl (by kernel_rfl) (by kernel_rfl) (by kernel_rfl) (fun _ _ _ h => h) (.inl ⟨?w4, ?y4⟩) ?h4
                case w4 => kernel_rfl
                case y4 =>
                  intro W hf
                  obtain ⟨hf1, _⟩ := hf
                  unfold yieldsAt
                  go_simp
                  all_goals first | rfl | exact ⟨rfl, rfl⟩
                simp only [List.getElem_toArray, List.getElem_cons_zero, List.getElem_cons_succ, Act.put, List.setIfInBounds_toArray, List.set_cons_succ, List.set_cons_zero]
                refine wpAnyC_take (i := 7) (v := ?v5) rfl (by kernel_rfl) (by kernel_rfl) (by kernel_rfl) (fun _ _ _ h => h) (.inl ⟨?w5, ?y5⟩) ?h5
                case w5 => kernel_rfl
                case y5 =>
                  intro W hf
                  obtain ⟨hf1, _⟩ := hf
                  unfold yieldsAt
                  go_simp
                  all_goals first | rfl | exact ⟨rfl, rfl⟩
                simp only [List.getElem_toArray, List.getElem_cons_zero, List.getElem_cons_succ, Act.put, List.setIfInBounds_toArray, List.set_cons_succ, List.set_cons_zero]
                refine wpAnyC_one (i := 4) rfl (by kernel_rfl) ⟨ua, ub⟩ rfl ?_
                intro K hK
                refine wp_call_any ?hrun6 HRT.out ?hK6
                case hrun6 => go_simp
                rintro e w9 ⟨B, rfl, hs⟩
                have hs' := (show Sep w w9 (blkR B 25 #[.slice (some ⟨g, 0, none⟩) kk capl] :: engR b m a A.n 2049 (E0) :: markR m a 2049 (C) :: marksR Ds :: blkR TB 55 #[.map (some mb)] :: mapR Tryz.prog 55 34 3 .i64 .i64 mb (rs.countP V) (visM V) :: rowR 34 1 (.slice (some ⟨g, 0, none⟩) n0 capl) n0 (nums rs) :: adjR Tryz.prog 34 34 jb (ptsOf fs) :: arenaR a A :: blkR TC 50 #[.int .i64 (k : Int), .bool true, .int .i64 cp, .int .i64 ct, .int .i64 cr, .int .i64 cs, .int .i64 cg, .int .i64 cf, .int .i64 mk, .int .i64 lg, .int .i64 bu] :: blkR (T + 2) 4 #[.bool false] :: []) from hs)
                have va := (hs'.blk 4 rfl).cell 0
                simp only [List.getElem?_toArray, List.getElem?_cons_zero] at va
                have vb := (fun ty => map_len refIntOk hs' 5 rfl ty)
                rw [HLW.out] at vb
                have hfi := EFinish E0 (roots_iter B g kk capl n0 capl rs (by omega) HRN.out (by omega)) enters_roots (fun z hz => HGR.out.lt (List.mem_of_mem_take hz)) HGR.out.heap.wf HGR.out.size (by rw [HGR.out.n]; omega) (Eng.idle_ok HID.out _) HGR.out.heap HGR.out.nodup HGR.out.ptsIn (by rw [HRN.out]; omega) (fun z hz => by rw [HFX.out] at hz; exact HIN.out z hz) (show Sep w w9 (blkR B 25 #[.slice (some ⟨g, 0, none⟩) kk capl] :: rowR 34 1 (.slice (some ⟨g, 0, none⟩) n0 capl) n0 (nums rs) :: engR b m a A.n 2049 (E0) :: markR m a 2049 (C) :: arenaR a A :: marksR Ds :: blkR TB 55 #[.map (some mb)] :: mapR Tryz.prog 55 34 3 .i64 .i64 mb (rs.countP V) (visM V) :: adjR Tryz.prog 34 34 jb (ptsOf fs) :: blkR TC 50 #[.int .i64 (k : Int), .bool true, .int .i64 cp, .int .i64 ct, .int .i64 cr, .int .i64 cs, .int .i64 cg, .int .i64 cf, .int .i64 mk, .int .i64 lg, .int .i64 bu] :: blkR (T + 2) 4 #[.bool false] :: []) from hs'.front 9 [0, 6, 1, 2, 8])
                rw [← engV_is HEV.out b, HFX.out] at hfi
                have HFI := Lib.hid hfi
                clear hs hs' hfi HRT ua ub
                refine ⟨_, rfl, hK _ _ ?_⟩
                simp only [List.getElem_toArray, List.getElem_cons_zero, List.getElem_cons_succ, Act.put, List.setIfInBounds_toArray, List.set_cons_succ, List.set_cons_zero]
                refine wpAnyC_one (i := 5) rfl (by kernel_rfl) ⟨va, vb⟩ rfl ?_
                intro K hK
                refine wp_call_any ?hrun7 HFI.out ?hK7
                case hrun7 => go_simp
                rintro e w10 ⟨dz, C2, rfl, hst2, hno, hs⟩
                have hs' := (show Sep w w10 (blkR B 25 #[.slice (some ⟨g, 0, none⟩) kk capl] :: rowR 34 1 (.slice (some ⟨g, 0, none⟩) n0 capl) n0 (nums rs) :: engR b m a A.n 2049 (E0.remark A C).1 :: markR m a 2049 (C2) :: arenaR a A :: marksR Ds :: blkR TB 55 #[.map (some mb)] :: mapR Tryz.prog 55 34 3 .i64 .i64 mb (rs.countP V) (visM V) :: adjR Tryz.prog 34 34 jb (ptsOf fs) :: blkR TC 50 #[.int .i64 (k : Int), .bool true, .int .i64 cp, .int .i64 ct, .int .i64 cr, .int .i64 cs, .int .i64 cg, .int .i64 cf, .int .i64 mk, .int .i64 lg, .int .i64 bu] :: blkR (T + 2) 4 #[.bool false] :: []) from hs)
                have xa := (hs'.blk 6 rfl).cell 0
                simp only [List.getElem?_toArray, List.getElem?_cons_zero] at xa
                have xb := (fun ty => map_len refIntOk hs' 7 rfl ty)
                rw [HLW.out] at xb
                have hst3 := HST.out.trans hst2
                have hwe := white_end HGR.out.nodup HGR.out.ptsIn (fun x hx => List.mem_of_mem_take hx) hst3 hno
                have hmv : ∀ x, C2.mz x = V x := (fun x => by have h1 := hwe.1 x; have h2 := HV.out x; cases e1 : C2.mz x <;> cases e2 : V x <;> simp_all)
                have hdv : d + dz = lw := (by rw [← HLW.out, ← hwe.2.2]; exact List.countP_congr (fun x _ => by rw [hmv]))
                have HMV := Lib.hid hmv
                have HS10 := Lib.hid hs'
                have hkc := KCount HS10.out 3 rfl
                rw [elems_count HGR.out.nodup (fun x hx => (HGR.out.lt hx).2) (fun x hx => HVO.out x (by rw [← hmv]; exact hx)), show rs.countP C2.mz = lw from by rw [← HLW.out]; exact List.countP_congr (fun x _ => by rw [hmv])] at hkc
                have HKC := Lib.hid hkc
                have hdI : (d : Int) + (dz : Int) = (lw : Int) := by omega
                clear hdv
                clear hs hs' hst2 hno hst3 hwe hmv hkc HFI va vb
                refine ⟨_, rfl, hK _ _ ?_⟩
                simp only [List.getElem_toArray, List.getElem_cons_zero, List.getElem_cons_succ, Act.put, List.setIfInBounds_toArray, List.set_cons_succ, List.set_cons_zero]
                refine wpAnyC_take (i := 8) (v := .int .i64 (lw : Int)) rfl (by kernel_rfl) (by kernel_rfl) (by kernel_rfl) (fun _ _ _ h => h) (.inl ⟨?w8, ?y8⟩) ?h8
                case w8 => kernel_rfl
                case y8 =>
                  intro W hf
                  obtain ⟨_, hl⟩ := hf
                  exact yields_len _ _ rfl rfl hl
                simp only [List.getElem_toArray, List.getElem_cons_zero, List.getElem_cons_succ, Act.put, List.setIfInBounds_toArray, List.set_cons_succ, List.set_cons_zero]
                refine wpAnyC_take (i := 6) (v := .int .i64 (lw : Int)) rfl (by kernel_rfl) (by kernel_rfl) (by kernel_rfl) (fun _ _ _ h => h) (.inl ⟨?w9, ?y9⟩) ?h9
                case w9 => kernel_rfl
                case y9 =>
                  intro W hf
                  unfold yieldsAt
                  go_simp
                  all_goals first | rfl | exact ⟨rfl, rfl⟩ | go_num | (rw [IntKind.wrap_i64]; omega)
                simp only [List.getElem_toArray, List.getElem_cons_zero, List.getElem_cons_succ, Act.put, List.setIfInBounds_toArray, List.set_cons_succ, List.set_cons_zero]
                refine wpAnyC_take (i := 9) (v := .bool false) rfl (by kernel_rfl) (by kernel_rfl) (by kernel_rfl) (fun _ _ _ h => h) (.inl ⟨?w10, ?y10⟩) ?h10
                case w10 => kernel_rfl
                case y10 =>
                  intro W hf
                  unfold yieldsAt
                  go_simp
                  all_goals first | rfl | exact ⟨rfl, rfl⟩ | go_num | (rw [IntKind.wrap_i64]; omega)
                simp only [List.getElem_toArray, List.getElem_cons_zero, List.getElem_cons_succ, Act.put, List.setIfInBounds_toArray, List.set_cons_succ, List.set_cons_zero]
                refine wpAnyC_take (i := 10) (v := .bool false) rfl (by kernel_rfl) (by kernel_rfl) (by kernel_rfl) (fun _ _ _ h => h) (.inl ⟨?w11, ?y11⟩) ?h11
                case w11 => kernel_rfl
                case y11 =>
                  intro W hf
                  unfold yieldsAt
                  go_simp
                  all_goals first | rfl | exact ⟨rfl, rfl⟩ | go_num | (rw [IntKind.wrap_i64]; omega)
                simp only [List.getElem_toArray, List.getElem_cons_zero, List.getElem_cons_succ, Act.put, List.setIfInBounds_toArray, List.set_cons_succ, List.set_cons_zero]
                refine wpAnyC_take (i := 11) (v := ?v12) rfl (by kernel_rfl) (by kernel_rfl) (by kernel_rfl) (fun _ _ _ h => h) (.inl ⟨?w12, ?y12⟩) ?h12
                case w12 => kernel_rfl
                case y12 =>
                  intro W hf
                  obtain ⟨hf1, _⟩ := hf
                  unfold yieldsAt
                  go_simp
                  all_goals first | rfl | exact ⟨rfl, rfl⟩
                simp only [List.getElem_toArray, List.getElem_cons_zero, List.getElem_cons_succ, Act.put, List.setIfInBounds_toArray, List.set_cons_succ, List.set_cons_zero]
                refine wpAnyC_take (i := 13) (v := ?v13) rfl (by kernel_rfl) (by kernel_rfl) (by kernel_rfl) (fun _ _ _ h => h) (.inl ⟨?w13, ?y13⟩) ?h13
                case w13 => kernel_rfl
                case y13 =>
                  intro W hf
                  obtain ⟨hf1, _⟩ := hf
                  unfold yieldsAt
                  go_simp
                  all_goals first | rfl | exact ⟨rfl, rfl⟩
                simp only [List.getElem_toArray, List.getElem_cons_zero, List.getElem_cons_succ, Act.put, List.setIfInBounds_toArray, List.set_cons_succ, List.set_cons_zero]
                refine wpAnyC_one (i := 12) rfl (by kernel_rfl) ⟨xa, xb⟩ rfl ?_
                intro K hK
                refine wp_call_any ?hrun14 HKC.out ?hK14
                case hrun14 => go_simp
                rintro e w11 ⟨rfl, hs⟩
                have hs' := (show Sep w w11 (blkR B 25 #[.slice (some ⟨g, 0, none⟩) kk capl] :: rowR 34 1 (.slice (some ⟨g, 0, none⟩) n0 capl) n0 (nums rs) :: engR b m a A.n 2049 (E0.remark A C).1 :: markR m a 2049 (C2) :: arenaR a A :: marksR Ds :: blkR TB 55 #[.map (some mb)] :: mapR Tryz.prog 55 34 3 .i64 .i64 mb (rs.countP V) (visM V) :: adjR Tryz.prog 34 34 jb (ptsOf fs) :: blkR TC 50 #[.int .i64 (k : Int), .bool true, .int .i64 cp, .int .i64 ct, .int .i64 cr, .int .i64 cs, .int .i64 cg, .int .i64 cf, .int .i64 mk, .int .i64 lg, .int .i64 bu] :: blkR (T + 2) 4 #[.bool false] :: []) from hs)
                have ya := (hs'.blk 6 rfl).cell 0
                simp only [List.getElem?_toArray, List.getElem?_cons_zero] at ya
                have yb := (fun ty => map_len refIntOk hs' 7 rfl ty)
                rw [HLW.out] at yb
                have HS11 := Lib.hid hs'
                clear hs hs' HKC xa xb
                refine ⟨_, rfl, hK _ _ ?_⟩
                simp only [List.getElem_toArray, List.getElem_cons_zero, List.getElem_cons_succ, Act.put, List.setIfInBounds_toArray, List.set_cons_succ, List.set_cons_zero]
                refine wpAnyC_take (i := 14) (v := .int .i64 (lw : Int)) rfl (by kernel_rfl) (by kernel_rfl) (by kernel_rfl) (fun _ _ _ h => h) (.inl ⟨?w15, ?y15⟩) ?h15
                case w15 => kernel_rfl
                case y15 =>
                  intro W hf
                  obtain ⟨_, hl⟩ := hf
                  exact yields_len _ _ rfl rfl hl
                simp only [List.getElem_toArray, List.getElem_cons_zero, List.getElem_cons_succ, Act.put, List.setIfInBounds_toArray, List.set_cons_succ, List.set_cons_zero]
                refine wpAnyC_take (i := 15) (v := .bool false) rfl (by kernel_rfl) (by kernel_rfl) (by kernel_rfl) (fun _ _ _ h => h) (.inl ⟨?w16, ?y16⟩) ?h16
                case w16 => kernel_rfl
                case y16 =>
                  intro W hf
                  unfold yieldsAt
                  go_simp
                  all_goals first | rfl | exact ⟨rfl, rfl⟩ | go_num | (rw [IntKind.wrap_i64]; omega)
                simp only [List.getElem_toArray, List.getElem_cons_zero, List.getElem_cons_succ, Act.put, List.setIfInBounds_toArray, List.set_cons_succ, List.set_cons_zero]
                refine wpAnyC_take (i := 16) (v := .bool false) rfl (by kernel_rfl) (by kernel_rfl) (by kernel_rfl) (fun _ _ _ h => h) (.inl ⟨?w17, ?y17⟩) ?h17
                case w17 => kernel_rfl
                case y17 =>
                  intro W hf
                  unfold yieldsAt
                  go_simp
                  all_goals first | rfl | exact ⟨rfl, rfl⟩ | go_num | (rw [IntKind.wrap_i64]; omega)
                simp only [List.getElem_toArray, List.getElem_cons_zero, List.getElem_cons_succ, Act.put, List.setIfInBounds_toArray, List.set_cons_succ, List.set_cons_zero]
                refine wpAnyC_done (by kernel_rfl) ⟨ya, yb⟩ ?_ _
                try simp only [List.getElem_toArray, List.getElem_cons_zero, List.getElem_cons_succ, Act.put, List.setIfInBounds_toArray, List.set_cons_succ, List.set_cons_zero]
                clear ya yb
                obtain ⟨o, ho, hs2⟩ := mark_open HS11.out 3 rfl
                have HO := Lib.hid ho
                have HKA := Lib.hid (KAll hs2 m)
                clear hs2 ho HS11 HS10
                obtain ⟨Y, hY⟩ : ∃ Y, w11.heap.size = Y := ⟨_, rfl⟩
                rw [hY] at HKA
                go_wp2_with (go_at_call 35; refine (HKA.out).mono ?_; rintro e w12 ⟨rfl, hs⟩; have HS12 := Lib.hid hs; clear hs HKA)
                clear hY
                refine (wpIn_wide (n := 0)).1 ?_
                have HS13 := Lib.hid (show Sep w w12 ([blkR Y 32 #[.pointer (some ⟨m, 0, none⟩)], blkR m 91 #[.pointer (some ⟨a, 0, none⟩), .pointer (some ⟨o.b1, 0, none⟩), .pointer (some ⟨o.b2, 0, none⟩), .pointer (some ⟨o.b3, 0, none⟩)], setR o.b1 ((2049 : Nat) : Int) C2.mz] ++ (marksR Ds :: setR o.b2 ((2049 : Nat) : Int) C2.sc :: greyR o.b3 (ints o.gs) (o.room : Int) o.over :: blkR B 25 #[.slice (some ⟨g, 0, none⟩) kk capl] :: rowR 34 1 (.slice (some ⟨g, 0, none⟩) n0 capl) n0 (nums rs) :: engR b m a A.n 2049 (E0.remark A C).1 :: arenaR a A :: blkR TB 55 #[.map (some mb)] :: mapR Tryz.prog 55 34 3 .i64 .i64 mb (rs.countP V) (visM V) :: adjR Tryz.prog 34 34 jb (ptsOf fs) :: blkR TC 50 #[.int .i64 (k : Int), .bool true, .int .i64 cp, .int .i64 ct, .int .i64 cr, .int .i64 cs, .int .i64 cg, .int .i64 cf, .int .i64 mk, .int .i64 lg, .int .i64 bu] :: blkR (T + 2) 4 #[.bool false] :: [])) from (show Sep w w12 (blkR Y 32 #[.pointer (some ⟨m, 0, none⟩)] :: blkR m 91 #[.pointer (some ⟨a, 0, none⟩), .pointer (some ⟨o.b1, 0, none⟩), .pointer (some ⟨o.b2, 0, none⟩), .pointer (some ⟨o.b3, 0, none⟩)] :: setR o.b1 ((2049 : Nat) : Int) C2.mz :: setR o.b2 ((2049 : Nat) : Int) C2.sc :: greyR o.b3 (ints o.gs) (o.room : Int) o.over :: blkR B 25 #[.slice (some ⟨g, 0, none⟩) kk capl] :: rowR 34 1 (.slice (some ⟨g, 0, none⟩) n0 capl) n0 (nums rs) :: engR b m a A.n 2049 (E0.remark A C).1 :: arenaR a A :: marksR Ds :: blkR TB 55 #[.map (some mb)] :: mapR Tryz.prog 55 34 3 .i64 .i64 mb (rs.countP V) (visM V) :: adjR Tryz.prog 34 34 jb (ptsOf fs) :: blkR TC 50 #[.int .i64 (k : Int), .bool true, .int .i64 cp, .int .i64 ct, .int .i64 cr, .int .i64 cs, .int .i64 cg, .int .i64 cf, .int .i64 mk, .int .i64 lg, .int .i64 bu] :: blkR (T + 2) 4 #[.bool false] :: []) from HS12.out).front 10 [0, 1, 2, 9])
                clear HS12
                refine wp_rangeM (Ds := Ds) (gf := 64) (lb := #[.pointer (some ⟨Y, 0, none⟩)]) rfl (enters_of Tryz.func64 (by kernel_rfl) rfl) (mark_iter Y m a o.b1 o.b2 o.b3 2049 C2.mz HO.out.size) (fun _ => rfl) HS13.out
                  (fun pre Rs => Rs = setR o.b2 ((2049 : Nat) : Int) C2.sc :: greyR o.b3 (ints o.gs) (o.room : Int) o.over :: blkR B 25 #[.slice (some ⟨g, 0, none⟩) kk capl] :: rowR 34 1 (.slice (some ⟨g, 0, none⟩) n0 capl) n0 (nums rs) :: engR b m a A.n 2049 (E0.remark A C).1 :: arenaR a A :: blkR TB 55 #[.map (some mb)] :: mapR Tryz.prog 55 34 3 .i64 .i64 mb (rs.countP V) (visM V) :: adjR Tryz.prog 34 34 jb (ptsOf fs) :: blkR TC 50 #[.int .i64 (k : Int), .bool true, .int .i64 cp, .int .i64 ct, .int .i64 cr, .int .i64 cs, .int .i64 cg, .int .i64 cf, .int .i64 mk, .int .i64 lg, .int .i64 bu] :: blkR (T + 2) 4 #[.bool false] :: []) (fun _ _ _ => False) rfl ?roundR1 ?doneR1 ?stopR1
                case stopR1 => rintro _ _ _ _ _ _ h; exact h.elim
                case roundR1 =>
                  rintro l1 pre x _ G V1 r1 hpre rfl hS1
                  simp only [List.cons_append, List.nil_append] at hS1
                  have HXM := Lib.hid ((mem_elems (n := 2049) (S := C2.mz)).1 (hpre.subset (show x ∈ pre ++ [x] by simp)))
                  have HS1 := Lib.hid hS1
                  clear hpre hS1 HS13
                  gi_wp2
                  refine ⟨[], HS1.out, ?_⟩
                  intro r' V2 hS2
                  simp only [List.cons_append, List.nil_append] at hS2
                  have hxm := HXM.out
                  have y0 := (hS2.blk 10 rfl).cell 0
                  simp only [List.getElem?_toArray, List.getElem?_cons_zero] at y0
                  have hlk := map_get refIntOk hS2 11 rfl (wfx (x := x) (by omega))
                  rw [visM_at, ← HMV.out, hxm.2] at hlk
                  simp only [if_true, Option.getD_some] at hlk
                  have HS2 := Lib.hid hS2
                  clear hS2 HS1 hxm
                  gi_wp2
                  exact ⟨_, rfl, HS2.out⟩
                rintro Ds2 _ V9 hR hS
                subst hR
                simp only [List.cons_append, List.nil_append] at hS
                have HS14 := Lib.hid (show Sep w V9 (marksR Ds2 :: blkR TB 55 #[.map (some mb)] :: mapR Tryz.prog 55 34 3 .i64 .i64 mb (rs.countP V) (visM V) :: rowR 34 1 (.slice (some ⟨g, 0, none⟩) n0 capl) n0 (nums rs) :: adjR Tryz.prog 34 34 jb (ptsOf fs) :: arenaR a A :: blkR TC 50 #[.int .i64 (k : Int), .bool true, .int .i64 cp, .int .i64 ct, .int .i64 cr, .int .i64 cs, .int .i64 cg, .int .i64 cf, .int .i64 mk, .int .i64 lg, .int .i64 bu] :: blkR (T + 2) 4 #[.bool false] :: []) from (hS.front 15 [0, 1, 2, 4, 5, 6, 8, 3, 10, 11, 7, 12, 9, 13, 14]).tail.tail.tail.tail.tail.tail.tail)
                clear hS HS13
                go_wp2
                refine ⟨Ds2, rfl, by kernel_rfl, ⟨k + 1, (k : Int), true, by omega, rfl, HS14.out⟩, ?_⟩
                show 4 + 1 - (intOf (.int .i64 ((k : Int) + 1))).toNat < 4 + 1 - (intOf (.int .i64 (k : Int))).toNat
                simp [intOf]
                omega
      · obtain rfl : 4 = k := by omega
        have HS9 := Lib.hid hs
        have ry1 := (hs.blk 7 rfl).frozen 0
        have ry0 := (hs.blk 7 rfl).cell 0
        simp only [List.getElem?_toArray, List.getElem?_cons_zero] at ry0
        clear hs
        gi_wp2
        go_wp2
        exact leavesM_box (HS9.out.setCell 7 rfl 0 (.bool true)) 6 rfl rfl rfl (fun w' hs => ⟨rfl, hs.below⟩)
  · by_cases hsm : n0 ≤ 40 ∧ n1 ≤ 120
    · have HSD := Lib.hid (show (decide (n0 ≤ 40) && decide (n1 ≤ 120)) = true by rw [decide_eq_true hsm.1, decide_eq_true hsm.2]; rfl)
      have hnlI : (40 : Int) < (n2 : Int) := by
        have : ¬ n2 ≤ 40 := fun h => hsmall ⟨hsm.1, hsm.2, h⟩
        omega
      clear hsm hsmall
      go_wp2_with (first
        | (go_at_call 24; refine (fit16 _).mono ?_; rintro e w1 ⟨rfl, hC⟩; have hs1 := HS0.out.same hC; have p0 := (hs1.blk 1 rfl).cell 0; have p1 := (hs1.blk 1 rfl).cell 1; have q0 := (hs1.blk 2 rfl).cell 0; have q1 := (hs1.blk 2 rfl).cell 1; have q2 := (hs1.blk 2 rfl).cell 2; have q3 := (hs1.blk 2 rfl).cell 3; have q4 := (hs1.blk 2 rfl).cell 4; have q5 := (hs1.blk 2 rfl).cell 5; have ry0 := (hs1.blk 0 rfl).cell 0; have fry0 := (hs1.blk 0 rfl).frozen 0; simp only [List.getElem?_toArray, List.getElem?_cons_zero, List.getElem?_cons_succ] at p0 p1 q0 q1 q2 q3 q4 q5 ry0; have HS1 := Lib.hid hs1; clear hC hs1 HS0)
        | (go_at_call 25; refine (Small11 _ A0 n0 c0 A1 n1 c1).mono ?_; rw [HSD.out]; rintro e w2 ⟨rfl, hC⟩; clear p0 p1 q0 q1 q2 q3 q4 q5 ry0 fry0; have hs1 := HS1.out.same hC; have p0 := (hs1.blk 1 rfl).cell 0; have p1 := (hs1.blk 1 rfl).cell 1; have q0 := (hs1.blk 2 rfl).cell 0; have q1 := (hs1.blk 2 rfl).cell 1; have q2 := (hs1.blk 2 rfl).cell 2; have q3 := (hs1.blk 2 rfl).cell 3; have q4 := (hs1.blk 2 rfl).cell 4; have q5 := (hs1.blk 2 rfl).cell 5; have ry0 := (hs1.blk 0 rfl).cell 0; have fry0 := (hs1.blk 0 rfl).frozen 0; simp only [List.getElem?_toArray, List.getElem?_cons_zero, List.getElem?_cons_succ] at p0 p1 q0 q1 q2 q3 q4 q5 ry0; have HS2 := Lib.hid hs1; clear hC hs1 HS1))
      exact leaves_box0 (HS2.out.setCell 0 rfl 0 (.bool true)) 0 rfl rfl rfl ⟨rfl, (HS2.out.setCell 0 rfl 0 (.bool true)).below⟩
    · have HSD := Lib.hid (show (decide (n0 ≤ 40) && decide (n1 ≤ 120)) = false by
        rw [Bool.and_eq_false_iff]
        by_cases h : n0 ≤ 40
        · exact .inr (decide_eq_false fun h2 => hsm ⟨h, h2⟩)
        · exact .inl (decide_eq_false h))
      clear hsm hsmall
      go_wp2_with (first
        | (go_at_call 24; refine (fit16 _).mono ?_; rintro e w1 ⟨rfl, hC⟩; have hs1 := HS0.out.same hC; have p0 := (hs1.blk 1 rfl).cell 0; have p1 := (hs1.blk 1 rfl).cell 1; have q0 := (hs1.blk 2 rfl).cell 0; have q1 := (hs1.blk 2 rfl).cell 1; have q2 := (hs1.blk 2 rfl).cell 2; have q3 := (hs1.blk 2 rfl).cell 3; have q4 := (hs1.blk 2 rfl).cell 4; have q5 := (hs1.blk 2 rfl).cell 5; have ry0 := (hs1.blk 0 rfl).cell 0; have fry0 := (hs1.blk 0 rfl).frozen 0; simp only [List.getElem?_toArray, List.getElem?_cons_zero, List.getElem?_cons_succ] at p0 p1 q0 q1 q2 q3 q4 q5 ry0; have HS1 := Lib.hid hs1; clear hC hs1 HS0)
        | (go_at_call 25; refine (Small11 _ A0 n0 c0 A1 n1 c1).mono ?_; rw [HSD.out]; rintro e w2 ⟨rfl, hC⟩; clear p0 p1 q0 q1 q2 q3 q4 q5 ry0 fry0; have hs1 := HS1.out.same hC; have p0 := (hs1.blk 1 rfl).cell 0; have p1 := (hs1.blk 1 rfl).cell 1; have q0 := (hs1.blk 2 rfl).cell 0; have q1 := (hs1.blk 2 rfl).cell 1; have q2 := (hs1.blk 2 rfl).cell 2; have q3 := (hs1.blk 2 rfl).cell 3; have q4 := (hs1.blk 2 rfl).cell 4; have q5 := (hs1.blk 2 rfl).cell 5; have ry0 := (hs1.blk 0 rfl).cell 0; have fry0 := (hs1.blk 0 rfl).frozen 0; simp only [List.getElem?_toArray, List.getElem?_cons_zero, List.getElem?_cons_succ] at p0 p1 q0 q1 q2 q3 q4 q5 ry0; have HS2 := Lib.hid hs1; clear hC hs1 HS1))
      exact leaves_box0 (HS2.out.setCell 0 rfl 0 (.bool true)) 0 rfl rfl rfl ⟨rfl, (HS2.out.setCell 0 rfl 0 (.bool true)).below⟩
end Go.Proofs.YtbcabjpafeocgaaGreat
