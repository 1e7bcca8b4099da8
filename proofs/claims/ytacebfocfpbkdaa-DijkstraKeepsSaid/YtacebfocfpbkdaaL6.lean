/-
  Parts of the proof, joined: Bits8, ResultM, DijkstraKeepsW. Conditions: as each part says.
-/
import Derived.Test.YtacebfocfpbkdaaL5
import Derived.Test.YtacebfocfpbkdaaL4
import Derived.Test.YtacebfocfpbkdaaL1
import Derived.StillTailTactics

/-
  Masks of a byte. Conditions: numbers between 0 and 255.
-/
namespace Go.Proofs.Ytacebfocfpbkdaa
set_option linter.unusedVariables false
open Go.RowKit

theorem and8_of {x : Int} (h : 0 ≤ x ∧ x ≤ 255) (m : Nat) (hm : m < 256) (f : Nat → Nat) (hf : ∀ n : Nat, n < 256 → n &&& m = f n) : bits .and .u8 x (m : Int) = (f x.toNat : Int) := by
  obtain ⟨n, rfl, hn⟩ := byte_nat h.1 h.2
  rw [u8_and_nat n m hn hm, hf n hn]
  simp
set_option maxRecDepth 10000 in
theorem and8_1 {x : Int} (h : 0 ≤ x ∧ x ≤ 255) : bits .and .u8 x 1 = x % 2 := by
  have := and8_of h 1 (by decide) (fun n => n % 2) (fun n _ => Nat.and_two_pow_sub_one_eq_mod n 1)
  rw [show ((1 : Nat) : Int) = 1 from rfl] at this
  rw [this]; omega
theorem and8_3 {x : Int} (h : 0 ≤ x ∧ x ≤ 255) : bits .and .u8 x 3 = x % 4 := by
  have := and8_of h 3 (by decide) (fun n => n % 4) (fun n _ => Nat.and_two_pow_sub_one_eq_mod n 2)
  rw [show ((3 : Nat) : Int) = 3 from rfl] at this
  rw [this]; omega
theorem and8_7 {x : Int} (h : 0 ≤ x ∧ x ≤ 255) : bits .and .u8 x 7 = x % 8 := by
  have := and8_of h 7 (by decide) (fun n => n % 8) (fun n _ => Nat.and_two_pow_sub_one_eq_mod n 3)
  rw [show ((7 : Nat) : Int) = 7 from rfl] at this
  rw [this]; omega
theorem and8_15 {x : Int} (h : 0 ≤ x ∧ x ≤ 255) : bits .and .u8 x 15 = x % 16 := by
  have := and8_of h 15 (by decide) (fun n => n % 16) (fun n _ => Nat.and_two_pow_sub_one_eq_mod n 4)
  rw [show ((15 : Nat) : Int) = 15 from rfl] at this
  rw [this]; omega
theorem all256 {p : Nat → Prop} [DecidablePred p] (h : (List.range 256).all (fun n => decide (p n)) = true) : ∀ n : Nat, n < 256 → p n := by
  intro n hn
  have := List.all_eq_true.1 h n (List.mem_range.2 hn)
  exact of_decide_eq_true this
theorem and8_4 {x : Int} (h : 0 ≤ x ∧ x ≤ 255) : bits .and .u8 x 4 = 4 * (x / 4 % 2) := by
  have := and8_of h 4 (by decide) (fun n => 4 * (n / 4 % 2)) (all256 (by decide +kernel))
  rw [show ((4 : Nat) : Int) = 4 from rfl] at this
  rw [this]; omega
theorem and8_8 {x : Int} (h : 0 ≤ x ∧ x ≤ 255) : bits .and .u8 x 8 = 8 * (x / 8 % 2) := by
  have := and8_of h 8 (by decide) (fun n => 8 * (n / 8 % 2)) (all256 (by decide +kernel))
  rw [show ((8 : Nat) : Int) = 8 from rfl] at this
  rw [this]; omega
theorem and8_16 {x : Int} (h : 0 ≤ x ∧ x ≤ 255) : bits .and .u8 x 16 = 16 * (x / 16 % 2) := by
  have := and8_of h 16 (by decide) (fun n => 16 * (n / 16 % 2)) (all256 (by decide +kernel))
  rw [show ((16 : Nat) : Int) = 16 from rfl] at this
  rw [this]; omega
theorem and8_12 {x : Int} (h : 0 ≤ x ∧ x ≤ 255) : bits .and .u8 x 12 = 4 * (x / 4 % 4) := by
  have := and8_of h 12 (by decide) (fun n => 4 * (n / 4 % 4)) (all256 (by decide +kernel))
  rw [show ((12 : Nat) : Int) = 12 from rfl] at this
  rw [this]; omega
theorem and8_24 {x : Int} (h : 0 ≤ x ∧ x ≤ 255) : bits .and .u8 x 24 = 8 * (x / 8 % 4) := by
  have := and8_of h 24 (by decide) (fun n => 8 * (n / 8 % 4)) (all256 (by decide +kernel))
  rw [show ((24 : Nat) : Int) = 24 from rfl] at this
  rw [this]; omega
end Go.Proofs.Ytacebfocfpbkdaa

/-
  The return of a function whose result lies in a box, and that held loops over functions. Conditions: as the theorem says.
-/
namespace Go.Proofs.Ytacebfocfpbkdaa
set_option linter.unusedVariables false
set_option linter.unusedSimpArgs false
open Go.RowKit Go.Shelf

theorem leavesM_box {fn : Func} {tmps : Array Value} {w0 w : World} {L : List Res} {Ds : List Nat} {Rt : Ending → World → Prop} {s : Tmp} {b : Nat} {x : Bool} (S : Sep w0 w (marksR Ds :: L)) (j : Nat) (hj : L[j]? = some (blkR b 4 #[.bool x]))
    (h : fn.results = #[.cell s 4]) (hp : tmps.getD s undef = .pointer (some ⟨b, 0, none⟩)) (hR : ∀ w', Sep w0 w' L → Rt (.returned (.bool x)) w') :
    LeavesInM Fence.wide 0 Try.prog fn tmps Rt (mk Ds) .returning w := by
  refine leavesM (L := L) (fun w' hs => ?_) Ds w S
  have hc := (hs.blk j hj).cell 0
  simp only [List.getElem?_toArray, List.getElem?_cons_zero] at hc
  exact ⟨_, results_bool h hp hc, hR w' hs⟩
end Go.Proofs.Ytacebfocfpbkdaa

/-
  The walk of DijkstraKeeps. Conditions: as the theorem says.
-/
namespace Go.Proofs.Ytacebfocfpbkdaa
set_option linter.unusedVariables false
set_option linter.unusedSimpArgs false
open Go.RowKit Go.Shelf
attribute [local go_sem] Oper.semAt_some wide_fn round_fn wide_depth round_depth
attribute [local simp] wide_fn round_fn wide_depth round_depth

theorem shut_write {fs : Nat → List Nat} {C : Col} (hs : C.shut (ptsOf fs)) (x j y : Nat) : (C.shade y).shut (ptsOf (updT fs x ((fs x).set j y))) := by
  intro z hz u hu
  show (C.mz u || decide (u = y)) = true
  rw [Bool.or_eq_true, decide_eq_true_eq]
  rw [ptsOf, List.mem_filter] at hu
  by_cases e : z = x
  · subst e
    simp only [updT, if_true] at hu
    rcases List.mem_or_eq_of_mem_set hu.1 with h | h
    · exact .inl (hs z hz u (by rw [ptsOf, List.mem_filter]; exact ⟨h, hu.2⟩))
    · exact .inr h
  · simp only [updT, e, if_false] at hu
    exact .inl (hs z hz u (by rw [ptsOf, List.mem_filter]; exact hu))
set_option maxRecDepth 100000 in
set_option maxHeartbeats 16000000 in
theorem dijkstraKeeps_walk (A0 : Option Addr) (n0 c0 : Nat) (D0 : Nat → Nat → Int) (A1 : Option Addr) (n1 c1 : Nat) (D1 : Nat → Nat → Int) (A2 : Option Addr) (n2 c2 : Nat) (D2 : Nat → Nat → Int) (w : World) (hz0 : ArgI w A0 n0 [.u8] D0) (hm0 : n0 ≤ maxLen) (hz1 : ArgI w A1 n1 [.u16, .u16, .u16] D1) (hm1 : n1 ≤ maxLen) (hz2 : ArgI w A2 n2 [.u8, .u8, .u8, .u8] D2) (hm2 : n2 ≤ maxLen) :
    Calls Try.prog 5 #[.agg #[.slice A0 n0 c0, .slice A1 n1 c1], .slice A2 n2 c2] w fun e w' => e = .returned (.bool true) ∧ Below w.heap.size w w' := by
  have HZ0 := Lib.hid hz0
  have HZ1 := Lib.hid hz1
  have HZ2 := Lib.hid hz2
  unfold maxLen at hm0 hm1
  try unfold maxLen at hm2
  clear hz0 hz1 hz2
  obtain ⟨T, hT⟩ : ∃ T, w.heap.size = T := ⟨_, rfl⟩
  have hs0 := ((Sep.start w).box #[.slice A0 n0 c0, .slice A1 n1 c1] 25).box #[.bool false] 4
  rw [World.size_alloc, hT] at hs0
  have HS0 := Lib.hid hs0
  clear hs0
  refine calls_wide ?_
  refine callsIn_of_wp_marks Try.func5 rfl trivial ?_
  simp only [Try.ntmps5, List.size_toArray, List.length_cons, List.length_nil, Nat.reduceAdd, Nat.reduceSub, Array.replicate_succ, Array.replicate_zero, List.push_toArray, List.append_toArray, List.nil_append, List.cons_append]
  by_cases hsmall : (n0 ≤ 40 ∧ n1 ≤ 120) ∧ n2 ≤ 60
  · have hsd : (decide (n0 ≤ 40) && decide (n1 ≤ 120)) = true := by rw [decide_eq_true hsmall.1.1, decide_eq_true hsmall.1.2]; rfl
    have HSD := Lib.hid hsd
    obtain ⟨⟨hn0, hn1⟩, hn2⟩ := hsmall
    clear hsd
    have hgt : ¬ (60 : Int) < (n2 : Int) := by omega
    rcases Nat.eq_zero_or_pos n0 with hk0 | hkp
    · have hkI : (n0 : Int) = 0 := by omega
      have HK0 := Lib.hid hk0
      clear hkI hk0
      gi_wp2_with (first
        | (gi_at_call 16; refine (calls_in (fit13 _)).mono ?_; rintro e w1 ⟨rfl, hC⟩; have hs1 := HS0.out.same hC; have p0 := (hs1.blk 1 rfl).cell 0; have p1 := (hs1.blk 1 rfl).cell 1; have r0 := (hs1.blk 0 rfl).cell 0; have fr0 := (hs1.blk 0 rfl).frozen 0; simp only [List.getElem?_toArray, List.getElem?_cons_zero, List.getElem?_cons_succ] at p0 p1 r0; have HS1 := Lib.hid hs1; clear hC hs1 HS0)
        | (gi_at_call 17; refine (calls_in (Small11 _ A0 n0 c0 A1 n1 c1)).mono ?_; rw [HSD.out]; rintro e w2 ⟨rfl, hC⟩; have hs1 := HS1.out.same hC; have p0 := (hs1.blk 1 rfl).cell 0; have p1 := (hs1.blk 1 rfl).cell 1; have r0 := (hs1.blk 0 rfl).cell 0; have fr0 := (hs1.blk 0 rfl).frozen 0; simp only [List.getElem?_toArray, List.getElem?_cons_zero, List.getElem?_cons_succ] at p0 p1 r0; have HS2 := Lib.hid hs1; clear hC hs1 HS1)
        | (gi_at_call 18; refine (calls_in (Made11 A0 n0 c0 D0 A1 n1 c1 D1 HZ0.out HZ1.out hn0 hn1 HS2.out)).mono ?_; rintro e w3 ⟨a, b, v, A, rs, fs, rfl, hgr, hlen, hs⟩; have p0 := (hs.blk 4 rfl).cell 0; have p1 := (hs.blk 4 rfl).cell 1; have r0 := (hs.blk 3 rfl).cell 0; have fr0 := (hs.blk 3 rfl).frozen 0; simp only [List.getElem?_toArray, List.getElem?_cons_zero, List.getElem?_cons_succ] at p0 p1 r0; have HGR := Lib.hid hgr; obtain ⟨AL, capl, rfl, hcapl, hmcapl⟩ := hs.rowShape 1 rfl; unfold maxLen at hmcapl; obtain ⟨Rn, hRn⟩ : ∃ Rn, rs.length = Rn := ⟨_, rfl⟩; have HRN := Lib.hid hRn; rw [hRn] at hcapl hs; try rw [hRn]; rw [hRn] at hlen; have hl40 : Rn ≤ 40 := (by omega); have HLEN := Lib.hid hlen; have hr0I : (Rn : Int) = 0 := (by have := HK0.out; omega); have hr0b : ((Rn : Int) == 0) = true := (by simpa using hr0I); have HS3 := Lib.hid hs; clear hs hgr HS2 hRn hlen))
      exact leaves_box0 (HS3.out.setCell 3 rfl 0 (.bool true)) 3 rfl rfl rfl ⟨rfl, (HS3.out.setCell 3 rfl 0 (.bool true)).below⟩
    gi_wp2_with (first
      | (gi_at_call 16; refine (calls_in (fit13 _)).mono ?_; rintro e w1 ⟨rfl, hC⟩; have hs1 := HS0.out.same hC; have p0 := (hs1.blk 1 rfl).cell 0; have p1 := (hs1.blk 1 rfl).cell 1; have r0 := (hs1.blk 0 rfl).cell 0; have fr0 := (hs1.blk 0 rfl).frozen 0; simp only [List.getElem?_toArray, List.getElem?_cons_zero, List.getElem?_cons_succ] at p0 p1 r0; have HS1 := Lib.hid hs1; clear hC hs1 HS0)
      | (gi_at_call 17; refine (calls_in (Small11 _ A0 n0 c0 A1 n1 c1)).mono ?_; rw [HSD.out]; rintro e w2 ⟨rfl, hC⟩; have hs1 := HS1.out.same hC; have p0 := (hs1.blk 1 rfl).cell 0; have p1 := (hs1.blk 1 rfl).cell 1; have r0 := (hs1.blk 0 rfl).cell 0; have fr0 := (hs1.blk 0 rfl).frozen 0; simp only [List.getElem?_toArray, List.getElem?_cons_zero, List.getElem?_cons_succ] at p0 p1 r0; have HS2 := Lib.hid hs1; clear hC hs1 HS1)
      | (gi_at_call 18; refine (calls_in (Made11 A0 n0 c0 D0 A1 n1 c1 D1 HZ0.out HZ1.out hn0 hn1 HS2.out)).mono ?_; rintro e w3 ⟨a, b, v, A, rs, fs, rfl, hgr, hlen, hs⟩; have p0 := (hs.blk 4 rfl).cell 0; have p1 := (hs.blk 4 rfl).cell 1; have r0 := (hs.blk 3 rfl).cell 0; have fr0 := (hs.blk 3 rfl).frozen 0; simp only [List.getElem?_toArray, List.getElem?_cons_zero, List.getElem?_cons_succ] at p0 p1 r0; have HGR := Lib.hid hgr; obtain ⟨AL, capl, rfl, hcapl, hmcapl⟩ := hs.rowShape 1 rfl; unfold maxLen at hmcapl; obtain ⟨Rn, hRn⟩ : ∃ Rn, rs.length = Rn := ⟨_, rfl⟩; have HRN := Lib.hid hRn; rw [hRn] at hcapl hs; try rw [hRn]; rw [hRn] at hlen; have hl40 : Rn ≤ 40 := (by omega); have HLEN := Lib.hid hlen; have hr0I : ¬ (Rn : Int) = 0 := (by omega); have hr0b : ((Rn : Int) == 0) = false := (by simp; omega); have hRp : 0 < Rn := (by omega); have HS3 := Lib.hid hs; clear hs hgr HS2 hRn hlen)
      | (gi_at_call 19; refine (calls_in (KNew HS3.out 0 rfl HGR.out.size (by omega) 3 (by omega))).mono ?_; rintro e w4 ⟨m, rfl, hs⟩; clear r0 fr0; have hs5 := hs.box #[.pointer (some ⟨m, 0, none⟩)] 33; have mc0 := (hs5.blk 0 rfl).cell 0; simp only [List.getElem?_toArray, List.getElem?_cons_zero, List.getElem?_cons_succ] at mc0; have HC := Lib.hid (DNew hs5 m); clear hs hs5 HS3)
      | (gi_at_call 22; refine (calls_in (HC.out)).mono ?_; rintro e w5 ⟨bb, rfl, hs⟩; have HS5 := Lib.hid hs; clear hs HC mc0))
    obtain ⟨TM, hTM⟩ : ∃ TM, w4.heap.size = TM := ⟨_, rfl⟩
    obtain ⟨g, cap', hsl, _, _⟩ := HS5.out.rowSome 4 rfl hRp
    simp only [Value.slice.injEq] at hsl
    obtain ⟨rfl, _, rfl⟩ := hsl
    obtain ⟨r0, hr0⟩ : ∃ x, rs[0]? = some x := ⟨_, List.getElem?_eq_getElem (by rw [HRN.out]; exact hRp)⟩
    have HX0 := Lib.hid hr0
    have hr2 := HGR.out.lt (List.mem_of_getElem? hr0)
    have hs5 := HS5.out
    rw [hTM] at hs5
    try simp only [hTM]
    have HS5 := Lib.hid hs5
    clear hs5 hTM hr0
    obtain ⟨wd1, hwd1⟩ : ∃ wd, (w5).drew = wd := ⟨_, rfl⟩
    have hd := HS5.out.drew
    rw [hwd1] at hd
    have x0 := (hd.blk 1 rfl).cell 0
    simp only [List.getElem?_toArray, List.getElem?_cons_zero] at x0
    have x1 := hd.rowCell 4 rfl 0 _ (nums_get _ _ _ HX0.out)
    have HS6 := Lib.hid hd
    clear hd HS5
    refine wpIn_wide.2 ?_
    refine wp_region_still_tail 4 (by kernel_rfl) (by kernel_rfl) ?_
    change wpStill _ _ (World.drew _) (fun a' => wpList _ _ _ _ a' (World.drew _)) _ _
    rw [hwd1]
    clear hwd1
    simp only [List.take_succ_cons, List.take_zero, List.drop_succ_cons, List.drop_zero]
    repeat still_step
    refine wpStill_nil ?_
    have HCS := Lib.hid (KShade HS6.out 2 rfl r0 hr2.1 hr2.2)
    clear x0 x1
    go_wp2_with (go_at_call 20; refine (HCS.out).mono ?_; rintro e w7 ⟨rfl, hs⟩; have HS7 := Lib.hid hs; clear hs HCS HS6)
    obtain ⟨C, hC⟩ : ∃ C, Col.white.shade r0 = C := ⟨_, rfl⟩
    have HSH := Lib.hid (show C.shut (ptsOf fs) from by rw [← hC]; exact shut_shade (shut_none_w _) r0)
    have HIN := Lib.hid (show ∀ x, C.mz x = true → x ∈ rs from fun x hx => by
      rw [← hC] at hx
      have hx' : (false || decide (x = r0)) = true := hx
      simp only [Bool.false_or, decide_eq_true_eq] at hx'
      rw [hx']
      exact List.mem_of_getElem? HX0.out)
    have hs7 := HS7.out
    simp only [List.set_cons_succ, List.set_cons_zero] at hs7
    rw [hC] at hs7
    have HSO := Lib.hid (show Sep w w7 (marksR [] :: dijR bb m :: blkR TM 33 #[.pointer (some ⟨m, 0, none⟩)] :: markR m a 2049 (C) :: arenaR a A :: rowR 36 1 (.slice (some ⟨g, 0, none⟩) Rn capl) Rn (nums rs) :: adjR Try.prog 36 36 b (ptsOf fs) :: blkR (T + 1) 4 #[.bool false] :: blkR T 25 #[.slice A0 n0 c0, .slice A1 n1 c1] :: []) from hs7.noMarks)
    clear HS7 hs7 hC HX0 hr2
    gi_wp2
    refine wpIn_loopM (Ds := []) [11, 12, 13, 14, 15, 16, 17, 19, 20, 51, 52, 53, 54, 55, 56, 57, 58, 59, 60, 61, 62, 63, 64, 65, 66, 67, 68, 69, 70, 71, 72, 73, 74, 75, 76, 77, 78, 79, 80, 81, 82, 83, 84, 85, 86, 87, 88, 89, 90, 91, 92, 93, 94, 95, 96, 97, 98, 99, 100, 101, 102, 103, 104, 105, 106, 107, 108, 109, 110, 111, 112, 113, 114, 115, 116, 117, 118, 119, 120, 121, 122, 123, 124, 125, 126, 127, 128, 130, 131, 132, 133, 134, 135, 136, 137, 138, 139, 140] (fun v Ds wr => ∃ (k : Nat) (A : AR) (ft : Nat → List Nat) (C : Col), k ≤ n2 ∧ v 51 = .int .i64 k ∧ Gr A rs ft ∧ C.shut (ptsOf ft) ∧ (∀ x, C.mz x = true → x ∈ rs) ∧ Sep w wr (marksR Ds :: dijR bb m :: blkR TM 33 #[.pointer (some ⟨m, 0, none⟩)] :: markR m a 2049 (C) :: arenaR a A :: rowR 36 1 (.slice (some ⟨g, 0, none⟩) Rn capl) Rn (nums rs) :: adjR Try.prog 36 36 b (ptsOf fs) :: blkR (T + 1) 4 #[.bool false] :: blkR T 25 #[.slice A0 n0 c0, .slice A1 n1 c1] :: [])) (fun v _ => n2 + 1 - (intOf (v 51)).toNat) ⟨0, A, fs, _, by omega, rfl, HGR.out, HSH.out, HIN.out, HSO.out⟩ (by kernel_rfl) ?_
    clear HSO
    rintro v Ds wr ⟨k, A, ft, C, hk, hv, hgr, hsh, hin, hs⟩
    simp only [setS, List.foldl_cons, List.foldl_nil, List.setIfInBounds_toArray, List.set_cons_succ, List.set_cons_zero]
    simp only [hv]
    clear hv
    by_cases hltk : k < n2
    · have hltIk : (k : Int) < (n2 : Int) := by omega
      have HGR := Lib.hid hgr
      have HSH := Lib.hid hsh
      have HIN := Lib.hid hin
      clear hgr hsh hin
      obtain ⟨ab, ao, hA0, hcell⟩ := HZ2.out.at_ hs.own hltk
      subst hA0
      have hc0 := hcell 0 _ rfl
      have hw0 := wf8 (HZ2.out.wf hltk 0 .u8 rfl)
      have hc1 := hcell 1 _ rfl
      have hw1 := wf8 (HZ2.out.wf hltk 1 .u8 rfl)
      have hc2 := hcell 2 _ rfl
      have hw2 := wf8 (HZ2.out.wf hltk 2 .u8 rfl)
      have hc3 := hcell 3 _ rfl
      have hw3 := wf8 (HZ2.out.wf hltk 3 .u8 rfl)
      simp at hc0 hc1 hc2 hc3
      obtain ⟨d0, h0⟩ : ∃ d, D2 k 0 = d := ⟨_, rfl⟩
      rw [h0] at hc0 hw0
      obtain ⟨d1, h1⟩ : ∃ d, D2 k 1 = d := ⟨_, rfl⟩
      rw [h1] at hc1 hw1
      obtain ⟨d2, h2⟩ : ∃ d, D2 k 2 = d := ⟨_, rfl⟩
      rw [h2] at hc2 hw2
      obtain ⟨d3, h3⟩ : ∃ d, D2 k 3 = d := ⟨_, rfl⟩
      rw [h3] at hc3 hw3
      clear hcell h0 h1 h2 h3
      obtain ⟨K1, um, ul⟩ : ∃ K1 : Nat, d0.tmod (Rn : Int) = (K1 : Int) ∧ K1 < Rn := by
        have h1 := Int.emod_nonneg d0 (show (Rn : Int) ≠ 0 by omega)
        have h2 := Int.emod_lt_of_pos d0 (show (0 : Int) < (Rn : Int) by omega)
        refine ⟨(d0 % (Rn : Int)).toNat, ?_, by omega⟩
        rw [Int.tmod_eq_emod_of_nonneg (by omega)]
        omega
      have uI : (K1 : Int) < (Rn : Int) := by omega
      have u0 : (0 : Int) ≤ (K1 : Int) := by omega
      obtain ⟨K2, vm, vl⟩ : ∃ K2 : Nat, d1.tmod (Rn : Int) = (K2 : Int) ∧ K2 < Rn := by
        have h1 := Int.emod_nonneg d1 (show (Rn : Int) ≠ 0 by omega)
        have h2 := Int.emod_lt_of_pos d1 (show (0 : Int) < (Rn : Int) by omega)
        refine ⟨(d1 % (Rn : Int)).toNat, ?_, by omega⟩
        rw [Int.tmod_eq_emod_of_nonneg (by omega)]
        omega
      have vI : (K2 : Int) < (Rn : Int) := by omega
      have v0 : (0 : Int) ≤ (K2 : Int) := by omega
      obtain ⟨rx, hx⟩ : ∃ x, rs[K1]? = some x := ⟨_, List.getElem?_eq_getElem (by rw [HRN.out]; exact ul)⟩
      obtain ⟨ry, hy⟩ : ∃ x, rs[K2]? = some x := ⟨_, List.getElem?_eq_getElem (by rw [HRN.out]; exact vl)⟩
      have hxr : rx ∈ rs := List.mem_of_getElem? hx
      have hyr : ry ∈ rs := List.mem_of_getElem? hy
      have hx2 := HGR.out.lt hxr
      have hy2 := HGR.out.lt hyr
      have HX := Lib.hid hx
      have HY := Lib.hid hy
      obtain ⟨T5, hT5⟩ : ∃ T5, wr.heap.size = T5 := ⟨_, rfl⟩
      have hsb := (hs.box #[.int .u8 d0, .int .u8 d1, .int .u8 d2, .int .u8 d3] 50).swap
      rw [hT5] at hsb
      have HSB := Lib.hid hsb
      clear hs hsb hx hy
      gi_wp2
      refine regionIn_sep HSB.out (by kernel_rfl) (by kernel_rfl) ?_
      intro hne0
      have yz0 : ∀ x : SepW w (marksR Ds :: blkR T5 50 #[.int .u8 d0, .int .u8 d1, .int .u8 d2, .int .u8 d3] :: dijR bb m :: blkR TM 33 #[.pointer (some ⟨m, 0, none⟩)] :: markR m a 2049 (C) :: arenaR a A :: rowR 36 1 (.slice (some ⟨g, 0, none⟩) Rn capl) Rn (nums rs) :: adjR Try.prog 36 36 b (ptsOf fs) :: blkR (T + 1) 4 #[.bool false] :: blkR T 25 #[.slice A0 n0 c0, .slice A1 n1 c1] :: []), x.w'.cell? ⟨T5, 0, none⟩ = some (.int .u8 d0) := fun x => by
        have := (x.h.blk 1 rfl).cell 0
        simpa using this
      have yz1 : ∀ x : SepW w (marksR Ds :: blkR T5 50 #[.int .u8 d0, .int .u8 d1, .int .u8 d2, .int .u8 d3] :: dijR bb m :: blkR TM 33 #[.pointer (some ⟨m, 0, none⟩)] :: markR m a 2049 (C) :: arenaR a A :: rowR 36 1 (.slice (some ⟨g, 0, none⟩) Rn capl) Rn (nums rs) :: adjR Try.prog 36 36 b (ptsOf fs) :: blkR (T + 1) 4 #[.bool false] :: blkR T 25 #[.slice A0 n0 c0, .slice A1 n1 c1] :: []), x.w'.cell? ⟨T5, 1, none⟩ = some (.int .u8 d1) := fun x => by
        have := (x.h.blk 1 rfl).cell 1
        simpa using this
      have yx : ∀ x : SepW w (marksR Ds :: blkR T5 50 #[.int .u8 d0, .int .u8 d1, .int .u8 d2, .int .u8 d3] :: dijR bb m :: blkR TM 33 #[.pointer (some ⟨m, 0, none⟩)] :: markR m a 2049 (C) :: arenaR a A :: rowR 36 1 (.slice (some ⟨g, 0, none⟩) Rn capl) Rn (nums rs) :: adjR Try.prog 36 36 b (ptsOf fs) :: blkR (T + 1) 4 #[.bool false] :: blkR T 25 #[.slice A0 n0 c0, .slice A1 n1 c1] :: []), x.w'.cell? ⟨g, K1, none⟩ = some (.int .i64 (rx : Int)) := fun x => x.h.rowCell 6 rfl K1 _ (nums_get _ _ _ HX.out)
      have yy : ∀ x : SepW w (marksR Ds :: blkR T5 50 #[.int .u8 d0, .int .u8 d1, .int .u8 d2, .int .u8 d3] :: dijR bb m :: blkR TM 33 #[.pointer (some ⟨m, 0, none⟩)] :: markR m a 2049 (C) :: arenaR a A :: rowR 36 1 (.slice (some ⟨g, 0, none⟩) Rn capl) Rn (nums rs) :: adjR Try.prog 36 36 b (ptsOf fs) :: blkR (T + 1) 4 #[.bool false] :: blkR T 25 #[.slice A0 n0 c0, .slice A1 n1 c1] :: []), x.w'.cell? ⟨g, K2, none⟩ = some (.int .i64 (ry : Int)) := fun x => x.h.rowCell 6 rfl K2 _ (nums_get _ _ _ HY.out)
      repeat (gi_big_quiet_step (fail))
      refine wpQuietIn_nil ?_
      rintro wq ⟨⟨wqx, hs⟩, rfl⟩
      clear yz0 yz1 yx yy hne0
      have HCF := Lib.hid (HFields hs 5 rfl HGR.out.heap hxr)
      obtain ⟨Fn, hFn⟩ : ∃ Fn, (ft rx).length = Fn := ⟨_, rfl⟩
      have HFN := Lib.hid hFn
      have hF6 : Fn ≤ 6 := by rw [← hFn]; exact (ptsOf_len HGR.out.heap hxr).2
      have hx3 := and8_3 hw3
      obtain ⟨q3, hq3, hq3l⟩ : ∃ q : Nat, d3 % 4 = (q : Int) ∧ q ≤ 3 := ⟨(d3 % 4).toNat, by omega, by omega⟩
      rw [hq3] at hx3
      obtain ⟨qt, hqt, hqtl⟩ : ∃ q : Nat, d2 % 4 = (q : Int) ∧ q ≤ 3 := ⟨(d2 % 4).toNat, by omega, by omega⟩
      have hqtt : d2.tmod 4 = (qt : Int) := by rw [Int.tmod_eq_emod_of_nonneg (by omega)]; exact hqt
      clear hs hFn hq3 hqt HSB hT5 HX HY
      by_cases hz3 : q3 = 0
      · rw [hz3] at hx3
        simp only [Int.ofNat_zero, Int.natCast_zero] at hx3
        gi_wp2_with (first
          | (gi_at_call 36; refine (calls_in (HCF.out)).mono ?_; rw [HFN.out]; rintro e w5 ⟨rfl, hs⟩; have z2 := (hs.blk 1 rfl).cell 2; have z3 := (hs.blk 1 rfl).cell 3; have y0 := (hs.blk 3 rfl).cell 0; simp only [List.getElem?_toArray, List.getElem?_cons_zero, List.getElem?_cons_succ] at z2 z3 y0; have HCT := Lib.hid (KTrace HGR.out.heap HGR.out.size (C := C) HIN.out hs 4 5 rfl rfl (by decide) qt (by omega)); clear hs HCF)
          | (gi_at_call 37; refine (calls_in (HCT.out)).mono ?_; rintro e w6 ⟨dt, C2, rfl, ht, hs⟩; have HTR := Lib.hid ht; have HSI := Lib.hid hs; clear hs ht HCT z2 z3 y0))
        have HSH2 := Lib.hid (HTR.out.steps.shut HSH.out)
        have HIN2 := Lib.hid (HTR.out.steps.within (P := fun x => x ∈ rs) HGR.out.ptsIn HIN.out)
        clear HSH HIN HTR
        refine wpIn_loopM (Ds := Ds) [19, 20, 122, 123, 124, 125, 126, 127, 128, 130, 131, 132, 133, 134, 135, 136, 137, 138, 139] (fun u Ds1 wr2 => ∃ (q : Nat), q ≤ Rn ∧ u 122 = .int .i64 q ∧ Sep w wr2 (marksR Ds1 :: blkR T5 50 #[.int .u8 d0, .int .u8 d1, .int .u8 d2, .int .u8 d3] :: dijR bb m :: blkR TM 33 #[.pointer (some ⟨m, 0, none⟩)] :: markR m a 2049 (C2) :: arenaR a A :: rowR 36 1 (.slice (some ⟨g, 0, none⟩) Rn capl) Rn (nums rs) :: adjR Try.prog 36 36 b (ptsOf fs) :: blkR (T + 1) 4 #[.bool false] :: blkR T 25 #[.slice A0 n0 c0, .slice A1 n1 c1] :: [])) (fun u _ => Rn + 1 - (intOf (u 122)).toNat) ⟨0, by omega, rfl, HSI.out⟩ (by kernel_rfl) ?_
        clear HSI
        rintro u Ds1 wr2 ⟨q, hk, hv, hs⟩
        simp only [setS, List.foldl_cons, List.foldl_nil, List.setIfInBounds_toArray, List.set_cons_succ, List.set_cons_zero]
        simp only [hv]
        clear hv
        by_cases hltq : q < Rn
        · have hltIq : (q : Int) < (Rn : Int) := by omega
          obtain ⟨xr, hx⟩ : ∃ x, rs[q]? = some x := ⟨_, List.getElem?_eq_getElem (by rw [HRN.out]; exact hltq)⟩
          have cc0 := hs.rowCell 6 rfl q _ (nums_get _ _ _ hx)
          obtain ⟨T8, hT8⟩ : ∃ T8, wr2.heap.size = T8 := ⟨_, rfl⟩
          have hsb := hs.box #[.int .i64 (xr : Int)] 36
          rw [hT8] at hsb
          have y0 := (hsb.blk 0 rfl).cell 0
          simp only [List.getElem?_toArray, List.getElem?_cons_zero] at y0
          have hxr : xr ∈ rs := List.mem_of_getElem? hx
          have hx2 := HGR.out.lt hxr
          have HC := Lib.hid (CPoints hsb.swap a (xr : Int))
          clear hs hsb hx
          gi_wp2_with (gi_at_call 40; refine (calls_in (HC.out)).mono ?_; rintro e w4 ⟨rfl, hs⟩; try simp only [World.size_alloc, hT8] at hs; have HS4 := Lib.hid hs; clear hs HC)
          try simp only [World.size_alloc, hT8]
          clear cc0 y0
          obtain ⟨P2, hP2⟩ : ∃ P, T8 + 1 = P := ⟨_, rfl⟩
          have hs9 := HS4.out
          simp only [hP2] at hs9 ⊢
          have HS9 := Lib.hid (show Sep w w4 ([blkR P2 28 #[.pointer (some ⟨a, 0, none⟩)], blkR (P2 + 1) 36 #[.int .i64 (xr : Int)], arenaR a A] ++ (marksR Ds1 :: blkR T8 36 #[.int .i64 (xr : Int)] :: blkR T5 50 #[.int .u8 d0, .int .u8 d1, .int .u8 d2, .int .u8 d3] :: dijR bb m :: blkR TM 33 #[.pointer (some ⟨m, 0, none⟩)] :: markR m a 2049 (C2) :: rowR 36 1 (.slice (some ⟨g, 0, none⟩) Rn capl) Rn (nums rs) :: adjR Try.prog 36 36 b (ptsOf fs) :: blkR (T + 1) 4 #[.bool false] :: blkR T 25 #[.slice A0 n0 c0, .slice A1 n1 c1] :: [])) from hs9.front 9 [1, 0, 8])
          clear hs9 HS4 hP2 hT8
          refine wp_rangeM (gf := 65) (lb := #[.pointer (some ⟨P2, 0, none⟩), .pointer (some ⟨P2 + 1, 0, none⟩)]) rfl (enters_of Try.func65 (by kernel_rfl) rfl) (hpoints_iter P2 (P2 + 1) a HGR.out.heap hxr) (fun _ => rfl) HS9.out
            (fun pre Rs => Rs = blkR T8 36 #[.int .i64 (xr : Int)] :: blkR T5 50 #[.int .u8 d0, .int .u8 d1, .int .u8 d2, .int .u8 d3] :: dijR bb m :: blkR TM 33 #[.pointer (some ⟨m, 0, none⟩)] :: markR m a 2049 (C2) :: rowR 36 1 (.slice (some ⟨g, 0, none⟩) Rn capl) Rn (nums rs) :: adjR Try.prog 36 36 b (ptsOf fs) :: blkR (T + 1) 4 #[.bool false] :: blkR T 25 #[.slice A0 n0 c0, .slice A1 n1 c1] :: []) (fun _ _ _ => False) rfl ?roundR2 ?doneR2 ?stopR2
          case stopR2 => rintro _ _ _ _ _ _ h; exact h.elim
          case roundR2 =>
            rintro l1 pre y _ G V1 r1 hpre rfl hS1
            simp only [List.cons_append, List.nil_append] at hS1
            have hyp : y ∈ ptsOf ft xr := hpre.subset (by simp)
            have HS1 := Lib.hid hS1
            clear hpre hS1 HS9
            gi_wp2
            refine ⟨[], HS1.out, ?_⟩
            intro r' V2 hS2
            simp only [List.cons_append, List.nil_append] at hS2
            clear HS1
            have hyr := HGR.out.ptsIn xr hxr y hyp
            have hy2 := HGR.out.lt hyr
            have y0 := (hS2.blk 7 rfl).cell 0
            have y1 := (hS2.blk 4 rfl).cell 0
            simp only [List.getElem?_toArray, List.getElem?_cons_zero] at y0 y1
            have HC := Lib.hid (KScanned hS2 8 rfl xr hx2.2)
            obtain ⟨sb, hsb⟩ : ∃ b, C2.sc xr = b := ⟨_, rfl⟩
            have HSB := Lib.hid hsb
            clear hS2 hsb
            cases sb with
            | false =>
              gi_wp2_with (gi_at_call 28; refine (calls_round (HC.out)).mono ?_; rw [HSB.out]; rintro e w7 ⟨rfl, hs⟩; have HS7 := Lib.hid hs; clear hs HC y0 y1)
              exact ⟨_, rfl, HS7.out⟩
            | true =>
              have HYM := Lib.hid (show C2.mz y = true from HSH2.out xr HSB.out y hyp)
              gi_wp2_with (first
                | (gi_at_call 28; refine (calls_round (HC.out)).mono ?_; rw [HSB.out]; rintro e w7 ⟨rfl, hs⟩; have z0 := (hs.blk 7 rfl).cell 0; simp only [List.getElem?_toArray, List.getElem?_cons_zero] at z0; have HC2 := Lib.hid (KMarked hs 8 rfl y hy2.2); clear hs HC y0 y1)
                | (gi_at_call 27; refine (calls_round (HC2.out)).mono ?_; rw [HYM.out]; rintro e w8 ⟨rfl, hs⟩; have HS7 := Lib.hid hs; clear hs HC2))
              exact ⟨_, rfl, HS7.out⟩
          rintro Ds2 _ V hR hS
          subst hR
          simp only [List.cons_append, List.nil_append] at hS
          have HSD := Lib.hid (show Sep w V (marksR Ds2 :: blkR T8 36 #[.int .i64 (xr : Int)] :: blkR T5 50 #[.int .u8 d0, .int .u8 d1, .int .u8 d2, .int .u8 d3] :: dijR bb m :: blkR TM 33 #[.pointer (some ⟨m, 0, none⟩)] :: markR m a 2049 (C2) :: arenaR a A :: rowR 36 1 (.slice (some ⟨g, 0, none⟩) Rn capl) Rn (nums rs) :: adjR Try.prog 36 36 b (ptsOf fs) :: blkR (T + 1) 4 #[.bool false] :: blkR T 25 #[.slice A0 n0 c0, .slice A1 n1 c1] :: []) from (hS.front 13 [0, 1, 3, 4, 5, 6, 7, 8, 2, 9, 10, 11, 12]).tail.tail)
          clear hS HS9
          gi_wp2
          refine ⟨Ds2, rfl, by kernel_rfl, ⟨q + 1, by omega, rfl, HSD.out.swap.tail⟩, ?_⟩
          show Rn + 1 - (intOf (.int .i64 ((q : Int) + 1))).toNat < Rn + 1 - (intOf (.int .i64 (q : Int))).toNat
          simp [intOf]
          omega
        · obtain rfl : Rn = q := by omega
          have HSN := Lib.hid hs
          clear hs
          gi_wp2
          refine ⟨Ds1, rfl, by kernel_rfl, ⟨k + 1, A, ft, C2, by omega, rfl, HGR.out, HSH2.out, HIN2.out, HSN.out.swap.tail⟩, ?_⟩
          show n2 + 1 - (intOf (.int .i64 ((k : Int) + 1))).toNat < n2 + 1 - (intOf (.int .i64 (k : Int))).toNat
          simp [intOf]
          omega
      · have hq3z : ¬ (q3 : Int) = 0 := by omega
        have hq3b : ((q3 : Int) == 0) = false := by simp; omega
        by_cases hF0 : Fn = 0
        · have hFz : (Fn : Int) = 0 := by omega
          have hFb : ((Fn : Int) == 0) = true := by simp; omega
          gi_wp2_with (first
            | (gi_at_call 36; refine (calls_in (HCF.out)).mono ?_; rw [HFN.out]; rintro e w5 ⟨rfl, hs⟩; have z2 := (hs.blk 1 rfl).cell 2; have z3 := (hs.blk 1 rfl).cell 3; have y0 := (hs.blk 3 rfl).cell 0; simp only [List.getElem?_toArray, List.getElem?_cons_zero, List.getElem?_cons_succ] at z2 z3 y0; have HCT := Lib.hid (KTrace HGR.out.heap HGR.out.size (C := C) HIN.out hs 4 5 rfl rfl (by decide) qt (by omega)); clear hs HCF)
            | (gi_at_call 37; refine (calls_in (HCT.out)).mono ?_; rintro e w6 ⟨dt, C2, rfl, ht, hs⟩; have HTR := Lib.hid ht; have HSI := Lib.hid hs; clear hs ht HCT z2 z3 y0))
          have HSH2 := Lib.hid (HTR.out.steps.shut HSH.out)
          have HIN2 := Lib.hid (HTR.out.steps.within (P := fun x => x ∈ rs) HGR.out.ptsIn HIN.out)
          clear HSH HIN HTR
          refine wpIn_loopM (Ds := Ds) [19, 20, 122, 123, 124, 125, 126, 127, 128, 130, 131, 132, 133, 134, 135, 136, 137, 138, 139] (fun u Ds1 wr2 => ∃ (q : Nat), q ≤ Rn ∧ u 122 = .int .i64 q ∧ Sep w wr2 (marksR Ds1 :: blkR T5 50 #[.int .u8 d0, .int .u8 d1, .int .u8 d2, .int .u8 d3] :: dijR bb m :: blkR TM 33 #[.pointer (some ⟨m, 0, none⟩)] :: markR m a 2049 (C2) :: arenaR a A :: rowR 36 1 (.slice (some ⟨g, 0, none⟩) Rn capl) Rn (nums rs) :: adjR Try.prog 36 36 b (ptsOf fs) :: blkR (T + 1) 4 #[.bool false] :: blkR T 25 #[.slice A0 n0 c0, .slice A1 n1 c1] :: [])) (fun u _ => Rn + 1 - (intOf (u 122)).toNat) ⟨0, by omega, rfl, HSI.out⟩ (by kernel_rfl) ?_
          clear HSI
          rintro u Ds1 wr2 ⟨q, hk, hv, hs⟩
          simp only [setS, List.foldl_cons, List.foldl_nil, List.setIfInBounds_toArray, List.set_cons_succ, List.set_cons_zero]
          simp only [hv]
          clear hv
          by_cases hltq : q < Rn
          · have hltIq : (q : Int) < (Rn : Int) := by omega
            obtain ⟨xr, hx⟩ : ∃ x, rs[q]? = some x := ⟨_, List.getElem?_eq_getElem (by rw [HRN.out]; exact hltq)⟩
            have cc0 := hs.rowCell 6 rfl q _ (nums_get _ _ _ hx)
            obtain ⟨T8, hT8⟩ : ∃ T8, wr2.heap.size = T8 := ⟨_, rfl⟩
            have hsb := hs.box #[.int .i64 (xr : Int)] 36
            rw [hT8] at hsb
            have y0 := (hsb.blk 0 rfl).cell 0
            simp only [List.getElem?_toArray, List.getElem?_cons_zero] at y0
            have hxr : xr ∈ rs := List.mem_of_getElem? hx
            have hx2 := HGR.out.lt hxr
            have HC := Lib.hid (CPoints hsb.swap a (xr : Int))
            clear hs hsb hx
            gi_wp2_with (gi_at_call 40; refine (calls_in (HC.out)).mono ?_; rintro e w4 ⟨rfl, hs⟩; try simp only [World.size_alloc, hT8] at hs; have HS4 := Lib.hid hs; clear hs HC)
            try simp only [World.size_alloc, hT8]
            clear cc0 y0
            obtain ⟨P2, hP2⟩ : ∃ P, T8 + 1 = P := ⟨_, rfl⟩
            have hs9 := HS4.out
            simp only [hP2] at hs9 ⊢
            have HS9 := Lib.hid (show Sep w w4 ([blkR P2 28 #[.pointer (some ⟨a, 0, none⟩)], blkR (P2 + 1) 36 #[.int .i64 (xr : Int)], arenaR a A] ++ (marksR Ds1 :: blkR T8 36 #[.int .i64 (xr : Int)] :: blkR T5 50 #[.int .u8 d0, .int .u8 d1, .int .u8 d2, .int .u8 d3] :: dijR bb m :: blkR TM 33 #[.pointer (some ⟨m, 0, none⟩)] :: markR m a 2049 (C2) :: rowR 36 1 (.slice (some ⟨g, 0, none⟩) Rn capl) Rn (nums rs) :: adjR Try.prog 36 36 b (ptsOf fs) :: blkR (T + 1) 4 #[.bool false] :: blkR T 25 #[.slice A0 n0 c0, .slice A1 n1 c1] :: [])) from hs9.front 9 [1, 0, 8])
            clear hs9 HS4 hP2 hT8
            refine wp_rangeM (gf := 65) (lb := #[.pointer (some ⟨P2, 0, none⟩), .pointer (some ⟨P2 + 1, 0, none⟩)]) rfl (enters_of Try.func65 (by kernel_rfl) rfl) (hpoints_iter P2 (P2 + 1) a HGR.out.heap hxr) (fun _ => rfl) HS9.out
              (fun pre Rs => Rs = blkR T8 36 #[.int .i64 (xr : Int)] :: blkR T5 50 #[.int .u8 d0, .int .u8 d1, .int .u8 d2, .int .u8 d3] :: dijR bb m :: blkR TM 33 #[.pointer (some ⟨m, 0, none⟩)] :: markR m a 2049 (C2) :: rowR 36 1 (.slice (some ⟨g, 0, none⟩) Rn capl) Rn (nums rs) :: adjR Try.prog 36 36 b (ptsOf fs) :: blkR (T + 1) 4 #[.bool false] :: blkR T 25 #[.slice A0 n0 c0, .slice A1 n1 c1] :: []) (fun _ _ _ => False) rfl ?roundR3 ?doneR3 ?stopR3
            case stopR3 => rintro _ _ _ _ _ _ h; exact h.elim
            case roundR3 =>
              rintro l1 pre y _ G V1 r1 hpre rfl hS1
              simp only [List.cons_append, List.nil_append] at hS1
              have hyp : y ∈ ptsOf ft xr := hpre.subset (by simp)
              have HS1 := Lib.hid hS1
              clear hpre hS1 HS9
              gi_wp2
              refine ⟨[], HS1.out, ?_⟩
              intro r' V2 hS2
              simp only [List.cons_append, List.nil_append] at hS2
              clear HS1
              have hyr := HGR.out.ptsIn xr hxr y hyp
              have hy2 := HGR.out.lt hyr
              have y0 := (hS2.blk 7 rfl).cell 0
              have y1 := (hS2.blk 4 rfl).cell 0
              simp only [List.getElem?_toArray, List.getElem?_cons_zero] at y0 y1
              have HC := Lib.hid (KScanned hS2 8 rfl xr hx2.2)
              obtain ⟨sb, hsb⟩ : ∃ b, C2.sc xr = b := ⟨_, rfl⟩
              have HSB := Lib.hid hsb
              clear hS2 hsb
              cases sb with
              | false =>
                gi_wp2_with (gi_at_call 28; refine (calls_round (HC.out)).mono ?_; rw [HSB.out]; rintro e w7 ⟨rfl, hs⟩; have HS7 := Lib.hid hs; clear hs HC y0 y1)
                exact ⟨_, rfl, HS7.out⟩
              | true =>
                have HYM := Lib.hid (show C2.mz y = true from HSH2.out xr HSB.out y hyp)
                gi_wp2_with (first
                  | (gi_at_call 28; refine (calls_round (HC.out)).mono ?_; rw [HSB.out]; rintro e w7 ⟨rfl, hs⟩; have z0 := (hs.blk 7 rfl).cell 0; simp only [List.getElem?_toArray, List.getElem?_cons_zero] at z0; have HC2 := Lib.hid (KMarked hs 8 rfl y hy2.2); clear hs HC y0 y1)
                  | (gi_at_call 27; refine (calls_round (HC2.out)).mono ?_; rw [HYM.out]; rintro e w8 ⟨rfl, hs⟩; have HS7 := Lib.hid hs; clear hs HC2))
                exact ⟨_, rfl, HS7.out⟩
            rintro Ds2 _ V hR hS
            subst hR
            simp only [List.cons_append, List.nil_append] at hS
            have HSD := Lib.hid (show Sep w V (marksR Ds2 :: blkR T8 36 #[.int .i64 (xr : Int)] :: blkR T5 50 #[.int .u8 d0, .int .u8 d1, .int .u8 d2, .int .u8 d3] :: dijR bb m :: blkR TM 33 #[.pointer (some ⟨m, 0, none⟩)] :: markR m a 2049 (C2) :: arenaR a A :: rowR 36 1 (.slice (some ⟨g, 0, none⟩) Rn capl) Rn (nums rs) :: adjR Try.prog 36 36 b (ptsOf fs) :: blkR (T + 1) 4 #[.bool false] :: blkR T 25 #[.slice A0 n0 c0, .slice A1 n1 c1] :: []) from (hS.front 13 [0, 1, 3, 4, 5, 6, 7, 8, 2, 9, 10, 11, 12]).tail.tail)
            clear hS HS9
            gi_wp2
            refine ⟨Ds2, rfl, by kernel_rfl, ⟨q + 1, by omega, rfl, HSD.out.swap.tail⟩, ?_⟩
            show Rn + 1 - (intOf (.int .i64 ((q : Int) + 1))).toNat < Rn + 1 - (intOf (.int .i64 (q : Int))).toNat
            simp [intOf]
            omega
          · obtain rfl : Rn = q := by omega
            have HSN := Lib.hid hs
            clear hs
            gi_wp2
            refine ⟨Ds1, rfl, by kernel_rfl, ⟨k + 1, A, ft, C2, by omega, rfl, HGR.out, HSH2.out, HIN2.out, HSN.out.swap.tail⟩, ?_⟩
            show n2 + 1 - (intOf (.int .i64 ((k : Int) + 1))).toNat < n2 + 1 - (intOf (.int .i64 (k : Int))).toNat
            simp [intOf]
            omega
        · have hFz : ¬ (Fn : Int) = 0 := by omega
          have hFb : ((Fn : Int) == 0) = false := by simp; omega
          obtain ⟨J, tm, tl⟩ : ∃ J : Nat, d2.tmod (Fn : Int) = (J : Int) ∧ J < Fn := by
            have h1 := Int.emod_nonneg d2 (show (Fn : Int) ≠ 0 by omega)
            have h2 := Int.emod_lt_of_pos d2 (show (0 : Int) < (Fn : Int) by omega)
            refine ⟨(d2 % (Fn : Int)).toNat, ?_, by omega⟩
            rw [Int.tmod_eq_emod_of_nonneg (by omega)]
            omega
          have tI : (J : Int) < (Fn : Int) := by omega
          have t0 : (0 : Int) ≤ (J : Int) := by omega
          obtain ⟨yo, hyo⟩ : ∃ z, (ft rx)[J]? = some z := ⟨_, List.getElem?_eq_getElem (by rw [HFN.out]; exact tl)⟩
          have HYO := Lib.hid hyo
          clear hyo
          gi_wp2_with (first
            | (gi_at_call 36; refine (calls_in (HCF.out)).mono ?_; rw [HFN.out]; rintro e w5 ⟨rfl, hs⟩; have z2 := (hs.blk 1 rfl).cell 2; have z3 := (hs.blk 1 rfl).cell 3; simp only [List.getElem?_toArray, List.getElem?_cons_zero, List.getElem?_cons_succ] at z2 z3; have HCG := Lib.hid (HField hs 5 rfl HGR.out.heap hxr J yo HYO.out); clear hs HCF)
            | (gi_at_call 38; refine (calls_in (HCG.out)).mono ?_; rintro e w6 ⟨rfl, hs⟩; have HS6 := Lib.hid hs; clear hs HCG z2 z3)
            | (gi_at_call 23; refine (calls_in (DPre _ bb (rx : Int) (yo : Int))).mono ?_; rintro e w7 ⟨rfl, rfl⟩; have HCS := Lib.hid (HSetField HS6.out 5 rfl HGR.out.heap hxr J ry (by rw [HFN.out]; exact tl) (.inr hyr)); clear HS6)
            | (gi_at_call 39; refine (calls_in (HCS.out)).mono ?_; rintro e w8 ⟨A2, rfl, hs, hS, hH⟩; have y0 := (hs.blk 3 rfl).cell 0; simp only [List.getElem?_toArray, List.getElem?_cons_zero, List.getElem?_cons_succ] at y0; have HST := Lib.hid hS; have HHH := Lib.hid hH; have HCN := Lib.hid (KScanned hs 4 rfl rx hx2.2); clear hs hS hH HCS)
            | (gi_at_call 28; refine (calls_in (HCN.out)).mono ?_; rintro e w9 ⟨rfl, hs⟩; clear y0; have HCP := Lib.hid (DPost hs 2 4 rfl rfl (rx : Int) (yo : Int) ry (C.sc rx) false hy2.1 hy2.2); clear hs HCN)
            | (gi_at_call 24; refine (calls_in (HCP.out)).mono ?_; rintro e w10 ⟨rfl, hs⟩; have HSI := Lib.hid hs; clear hs HCP))
          have HGR2 := Lib.hid (HGR.out.store hxr HST.out HHH.out)
          have HSH2 := Lib.hid (shut_write HSH.out rx J ry)
          have HIN2 := Lib.hid (show ∀ x, (C.shade ry).mz x = true → x ∈ rs from fun x hx => by
            have hx' : (C.mz x || decide (x = ry)) = true := hx
            simp only [Bool.or_eq_true, decide_eq_true_eq] at hx'
            rcases hx' with h | rfl
            · exact HIN.out x h
            · exact hyr)
          obtain ⟨C2, hC2⟩ : ∃ C2, C.shade ry = C2 := ⟨_, rfl⟩
          obtain ⟨ft2, hft2⟩ : ∃ f, updT ft rx ((ft rx).set J ry) = f := ⟨_, rfl⟩
          rw [hC2] at HSH2 HIN2
          rw [hft2] at HSH2 HGR2
          have hsi := HSI.out
          simp only [List.set_cons_succ, List.set_cons_zero] at hsi
          rw [hC2] at hsi
          have HSI2 := Lib.hid hsi
          clear HGR HSH HIN HST HHH HFN HYO hC2 hft2 HSI hsi
          refine wpIn_loopM (Ds := Ds) [19, 20, 122, 123, 124, 125, 126, 127, 128, 130, 131, 132, 133, 134, 135, 136, 137, 138, 139] (fun u Ds1 wr2 => ∃ (q : Nat), q ≤ Rn ∧ u 122 = .int .i64 q ∧ Sep w wr2 (marksR Ds1 :: blkR T5 50 #[.int .u8 d0, .int .u8 d1, .int .u8 d2, .int .u8 d3] :: dijR bb m :: blkR TM 33 #[.pointer (some ⟨m, 0, none⟩)] :: markR m a 2049 (C2) :: arenaR a A2 :: rowR 36 1 (.slice (some ⟨g, 0, none⟩) Rn capl) Rn (nums rs) :: adjR Try.prog 36 36 b (ptsOf fs) :: blkR (T + 1) 4 #[.bool false] :: blkR T 25 #[.slice A0 n0 c0, .slice A1 n1 c1] :: [])) (fun u _ => Rn + 1 - (intOf (u 122)).toNat) ⟨0, by omega, rfl, HSI2.out⟩ (by kernel_rfl) ?_
          clear HSI2
          rintro u Ds1 wr2 ⟨q, hk, hv, hs⟩
          simp only [setS, List.foldl_cons, List.foldl_nil, List.setIfInBounds_toArray, List.set_cons_succ, List.set_cons_zero]
          simp only [hv]
          clear hv
          by_cases hltq : q < Rn
          · have hltIq : (q : Int) < (Rn : Int) := by omega
            obtain ⟨xr, hx⟩ : ∃ x, rs[q]? = some x := ⟨_, List.getElem?_eq_getElem (by rw [HRN.out]; exact hltq)⟩
            have cc0 := hs.rowCell 6 rfl q _ (nums_get _ _ _ hx)
            obtain ⟨T8, hT8⟩ : ∃ T8, wr2.heap.size = T8 := ⟨_, rfl⟩
            have hsb := hs.box #[.int .i64 (xr : Int)] 36
            rw [hT8] at hsb
            have y0 := (hsb.blk 0 rfl).cell 0
            simp only [List.getElem?_toArray, List.getElem?_cons_zero] at y0
            have hxr : xr ∈ rs := List.mem_of_getElem? hx
            have hx2 := HGR2.out.lt hxr
            have HC := Lib.hid (CPoints hsb.swap a (xr : Int))
            clear hs hsb hx
            gi_wp2_with (gi_at_call 40; refine (calls_in (HC.out)).mono ?_; rintro e w4 ⟨rfl, hs⟩; try simp only [World.size_alloc, hT8] at hs; have HS4 := Lib.hid hs; clear hs HC)
            try simp only [World.size_alloc, hT8]
            clear cc0 y0
            obtain ⟨P2, hP2⟩ : ∃ P, T8 + 1 = P := ⟨_, rfl⟩
            have hs9 := HS4.out
            simp only [hP2] at hs9 ⊢
            have HS9 := Lib.hid (show Sep w w4 ([blkR P2 28 #[.pointer (some ⟨a, 0, none⟩)], blkR (P2 + 1) 36 #[.int .i64 (xr : Int)], arenaR a A2] ++ (marksR Ds1 :: blkR T8 36 #[.int .i64 (xr : Int)] :: blkR T5 50 #[.int .u8 d0, .int .u8 d1, .int .u8 d2, .int .u8 d3] :: dijR bb m :: blkR TM 33 #[.pointer (some ⟨m, 0, none⟩)] :: markR m a 2049 (C2) :: rowR 36 1 (.slice (some ⟨g, 0, none⟩) Rn capl) Rn (nums rs) :: adjR Try.prog 36 36 b (ptsOf fs) :: blkR (T + 1) 4 #[.bool false] :: blkR T 25 #[.slice A0 n0 c0, .slice A1 n1 c1] :: [])) from hs9.front 9 [1, 0, 8])
            clear hs9 HS4 hP2 hT8
            refine wp_rangeM (gf := 65) (lb := #[.pointer (some ⟨P2, 0, none⟩), .pointer (some ⟨P2 + 1, 0, none⟩)]) rfl (enters_of Try.func65 (by kernel_rfl) rfl) (hpoints_iter P2 (P2 + 1) a HGR2.out.heap hxr) (fun _ => rfl) HS9.out
              (fun pre Rs => Rs = blkR T8 36 #[.int .i64 (xr : Int)] :: blkR T5 50 #[.int .u8 d0, .int .u8 d1, .int .u8 d2, .int .u8 d3] :: dijR bb m :: blkR TM 33 #[.pointer (some ⟨m, 0, none⟩)] :: markR m a 2049 (C2) :: rowR 36 1 (.slice (some ⟨g, 0, none⟩) Rn capl) Rn (nums rs) :: adjR Try.prog 36 36 b (ptsOf fs) :: blkR (T + 1) 4 #[.bool false] :: blkR T 25 #[.slice A0 n0 c0, .slice A1 n1 c1] :: []) (fun _ _ _ => False) rfl ?roundR4 ?doneR4 ?stopR4
            case stopR4 => rintro _ _ _ _ _ _ h; exact h.elim
            case roundR4 =>
              rintro l1 pre y _ G V1 r1 hpre rfl hS1
              simp only [List.cons_append, List.nil_append] at hS1
              have hyp : y ∈ ptsOf ft2 xr := hpre.subset (by simp)
              have HS1 := Lib.hid hS1
              clear hpre hS1 HS9
              gi_wp2
              refine ⟨[], HS1.out, ?_⟩
              intro r' V2 hS2
              simp only [List.cons_append, List.nil_append] at hS2
              clear HS1
              have hyr := HGR2.out.ptsIn xr hxr y hyp
              have hy2 := HGR2.out.lt hyr
              have y0 := (hS2.blk 7 rfl).cell 0
              have y1 := (hS2.blk 4 rfl).cell 0
              simp only [List.getElem?_toArray, List.getElem?_cons_zero] at y0 y1
              have HC := Lib.hid (KScanned hS2 8 rfl xr hx2.2)
              obtain ⟨sb, hsb⟩ : ∃ b, C2.sc xr = b := ⟨_, rfl⟩
              have HSB := Lib.hid hsb
              clear hS2 hsb
              cases sb with
              | false =>
                gi_wp2_with (gi_at_call 28; refine (calls_round (HC.out)).mono ?_; rw [HSB.out]; rintro e w7 ⟨rfl, hs⟩; have HS7 := Lib.hid hs; clear hs HC y0 y1)
                exact ⟨_, rfl, HS7.out⟩
              | true =>
                have HYM := Lib.hid (show C2.mz y = true from HSH2.out xr HSB.out y hyp)
                gi_wp2_with (first
                  | (gi_at_call 28; refine (calls_round (HC.out)).mono ?_; rw [HSB.out]; rintro e w7 ⟨rfl, hs⟩; have z0 := (hs.blk 7 rfl).cell 0; simp only [List.getElem?_toArray, List.getElem?_cons_zero] at z0; have HC2 := Lib.hid (KMarked hs 8 rfl y hy2.2); clear hs HC y0 y1)
                  | (gi_at_call 27; refine (calls_round (HC2.out)).mono ?_; rw [HYM.out]; rintro e w8 ⟨rfl, hs⟩; have HS7 := Lib.hid hs; clear hs HC2))
                exact ⟨_, rfl, HS7.out⟩
            rintro Ds2 _ V hR hS
            subst hR
            simp only [List.cons_append, List.nil_append] at hS
            have HSD := Lib.hid (show Sep w V (marksR Ds2 :: blkR T8 36 #[.int .i64 (xr : Int)] :: blkR T5 50 #[.int .u8 d0, .int .u8 d1, .int .u8 d2, .int .u8 d3] :: dijR bb m :: blkR TM 33 #[.pointer (some ⟨m, 0, none⟩)] :: markR m a 2049 (C2) :: arenaR a A2 :: rowR 36 1 (.slice (some ⟨g, 0, none⟩) Rn capl) Rn (nums rs) :: adjR Try.prog 36 36 b (ptsOf fs) :: blkR (T + 1) 4 #[.bool false] :: blkR T 25 #[.slice A0 n0 c0, .slice A1 n1 c1] :: []) from (hS.front 13 [0, 1, 3, 4, 5, 6, 7, 8, 2, 9, 10, 11, 12]).tail.tail)
            clear hS HS9
            gi_wp2
            refine ⟨Ds2, rfl, by kernel_rfl, ⟨q + 1, by omega, rfl, HSD.out.swap.tail⟩, ?_⟩
            show Rn + 1 - (intOf (.int .i64 ((q : Int) + 1))).toNat < Rn + 1 - (intOf (.int .i64 (q : Int))).toNat
            simp [intOf]
            omega
          · obtain rfl : Rn = q := by omega
            have HSN := Lib.hid hs
            clear hs
            gi_wp2
            refine ⟨Ds1, rfl, by kernel_rfl, ⟨k + 1, A2, ft2, C2, by omega, rfl, HGR2.out, HSH2.out, HIN2.out, HSN.out.swap.tail⟩, ?_⟩
            show n2 + 1 - (intOf (.int .i64 ((k : Int) + 1))).toNat < n2 + 1 - (intOf (.int .i64 (k : Int))).toNat
            simp [intOf]
            omega
    · obtain rfl : n2 = k := by omega
      have ry1 := (hs.blk 7 rfl).frozen 0
      have ry0 := (hs.blk 7 rfl).cell 0
      simp only [List.getElem?_toArray, List.getElem?_cons_zero] at ry0
      have HSZ := Lib.hid hs
      clear hs
      gi_wp2
      exact leavesM_box (HSZ.out.setCell 7 rfl 0 (.bool true)) 6 rfl rfl rfl (fun w' hs => ⟨rfl, hs.below⟩)
  · by_cases hsm : n0 ≤ 40 ∧ n1 ≤ 120
    · have HSD := Lib.hid (show (decide (n0 ≤ 40) && decide (n1 ≤ 120)) = true by rw [decide_eq_true hsm.1, decide_eq_true hsm.2]; rfl)
      have hgt : (60 : Int) < (n2 : Int) := by omega
      clear hsm hsmall
      gi_wp2_with (first
        | (gi_at_call 16; refine (calls_in (fit13 _)).mono ?_; rintro e w1 ⟨rfl, hC⟩; have hs1 := HS0.out.same hC; have p0 := (hs1.blk 1 rfl).cell 0; have p1 := (hs1.blk 1 rfl).cell 1; have r0 := (hs1.blk 0 rfl).cell 0; have fr0 := (hs1.blk 0 rfl).frozen 0; simp only [List.getElem?_toArray, List.getElem?_cons_zero, List.getElem?_cons_succ] at p0 p1 r0; have ry0 := (hs1.blk 0 rfl).cell 0; have ry1 := (hs1.blk 0 rfl).frozen 0; simp only [List.getElem?_toArray, List.getElem?_cons_zero] at ry0; have HS1 := Lib.hid hs1; clear hC hs1 HS0)
        | (gi_at_call 17; refine (calls_in (Small11 _ A0 n0 c0 A1 n1 c1)).mono ?_; rw [HSD.out]; rintro e w2 ⟨rfl, hC⟩; clear ry0 ry1; have hs1 := HS1.out.same hC; have ry0 := (hs1.blk 0 rfl).cell 0; have ry1 := (hs1.blk 0 rfl).frozen 0; simp only [List.getElem?_toArray, List.getElem?_cons_zero] at ry0; have HS2 := Lib.hid hs1; clear hC hs1 HS1))
      exact leaves_box0 (HS2.out.setCell 0 rfl 0 (.bool true)) 0 rfl rfl rfl ⟨rfl, (HS2.out.setCell 0 rfl 0 (.bool true)).below⟩
    · have HSD := Lib.hid (show (decide (n0 ≤ 40) && decide (n1 ≤ 120)) = false by
        rw [Bool.and_eq_false_iff]
        by_cases h : n0 ≤ 40
        · exact .inr (decide_eq_false fun h2 => hsm ⟨h, h2⟩)
        · exact .inl (decide_eq_false h))
      clear hsm hsmall
      gi_wp2_with (first
        | (gi_at_call 16; refine (calls_in (fit13 _)).mono ?_; rintro e w1 ⟨rfl, hC⟩; have hs1 := HS0.out.same hC; have p0 := (hs1.blk 1 rfl).cell 0; have p1 := (hs1.blk 1 rfl).cell 1; have r0 := (hs1.blk 0 rfl).cell 0; have fr0 := (hs1.blk 0 rfl).frozen 0; simp only [List.getElem?_toArray, List.getElem?_cons_zero, List.getElem?_cons_succ] at p0 p1 r0; have ry0 := (hs1.blk 0 rfl).cell 0; have ry1 := (hs1.blk 0 rfl).frozen 0; simp only [List.getElem?_toArray, List.getElem?_cons_zero] at ry0; have HS1 := Lib.hid hs1; clear hC hs1 HS0)
        | (gi_at_call 17; refine (calls_in (Small11 _ A0 n0 c0 A1 n1 c1)).mono ?_; rw [HSD.out]; rintro e w2 ⟨rfl, hC⟩; clear ry0 ry1; have hs1 := HS1.out.same hC; have ry0 := (hs1.blk 0 rfl).cell 0; have ry1 := (hs1.blk 0 rfl).frozen 0; simp only [List.getElem?_toArray, List.getElem?_cons_zero] at ry0; have HS2 := Lib.hid hs1; clear hC hs1 HS1))
      exact leaves_box0 (HS2.out.setCell 0 rfl 0 (.bool true)) 0 rfl rfl rfl ⟨rfl, (HS2.out.setCell 0 rfl 0 (.bool true)).below⟩
end Go.Proofs.Ytacebfocfpbkdaa
