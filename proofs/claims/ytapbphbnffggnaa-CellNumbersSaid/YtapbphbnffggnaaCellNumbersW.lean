/-
  The walk of CellNumbers. Conditions: as the theorem says.
-/
import Derived.Test.YtapbphbnffggnaaOpen
import Derived.Test.YtapbphbnffggnaaFit04
import Derived.Test.YtapbphbnffggnaaObjC
import Derived.Test.YtapbphbnffggnaaResultM
namespace Go.Proofs.Ytapbphbnffggnaa
set_option linter.unusedVariables false
set_option linter.unusedSimpArgs false
open Go.RowKit Go.Shelf
attribute [local go_sem] Oper.semAt_some wide_fn round_fn wide_depth round_depth
attribute [local simp] wide_fn round_fn wide_depth round_depth

/-- k fields, of which the first i hold s. -/
def fillF (k i : Nat) (s : Int) : List Int := (List.range k).map fun j => if j < i then s else 0
theorem fillF_zero (k : Nat) (s : Int) : fillF k 0 s = List.replicate k 0 := by
  unfold fillF
  apply List.ext_getElem <;> simp
theorem fillF_all (k : Nat) (s : Int) : fillF k k s = List.replicate k s := by
  unfold fillF
  apply List.ext_getElem
  · simp
  · intro j h1 h2
    simp at h1
    simp [h1]
theorem fillF_length (k i : Nat) (s : Int) : (fillF k i s).length = k := by simp [fillF]
theorem fillF_set (k i : Nat) (s : Int) : (fillF k i s).set i s = fillF k (i + 1) s := by
  unfold fillF
  apply List.ext_getElem
  · simp
  · intro j h1 h2
    simp [List.getElem_set]
    by_cases e : i = j
    · subst e; simp
    · simp [e]
      by_cases e2 : j < i
      · simp [e2]; omega
      · simp [e2]; omega

set_option maxRecDepth 100000 in
set_option maxHeartbeats 8000000 in
theorem cellNumbers_walk (A : Option Addr) (n c : Nat) (D : Nat → Nat → Int) (kd : Int) (w : World) (hz : ArgI w A n [.i64] D) (hm : n ≤ maxLen) (hr : (Lit.int .u8 kd).wf = true) :
    Calls Try.prog 15 #[.slice A n c, .int .u8 kd] w fun e w' => e = .returned (.bool true) ∧ Below w.heap.size w w' := by
  have HZ := Lib.hid hz
  unfold maxLen at hm
  have hl8 := wf8 hr
  clear hz hr
  refine calls_wide ?_
  refine callsIn_of_wp_marks Try.func15 rfl trivial ?_
  simp only [Try.ntmps15, List.size_toArray, List.length_cons, List.length_nil, Nat.reduceAdd, Nat.reduceSub, Array.replicate_succ, Array.replicate_zero, List.push_toArray, List.append_toArray, List.nil_append, List.cons_append]
  have HSI := Lib.hid ((Sep.start w).box #[.bool false] 4)
  by_cases hn : 60 < n
  · gi_wp2_with (gi_at_call 39; refine (calls_in (fit04 _)).mono ?_; rintro e w1 ⟨rfl, hC⟩; have hs := HSI.out.same hC; clear hC; have q0 := (hs.blk 0 rfl).cell 0; have fq0 := (hs.blk 0 rfl).frozen 0; simp only [List.getElem?_toArray, List.getElem?_cons_zero, List.getElem?_cons_succ] at q0; have HS0 := Lib.hid hs; clear hs)
    exact leaves_box0 (HS0.out.setCell 0 rfl 0 (.bool true)) 0 rfl rfl rfl ⟨rfl, (HS0.out.setCell 0 rfl 0 (.bool true)).below⟩
  obtain ⟨k, hk, hk6⟩ : ∃ k : Nat, kd % 7 = (k : Int) ∧ k ≤ 6 := ⟨(kd % 7).toNat, by omega, by omega⟩
  gi_wp2_with (first
    | (gi_at_call 39; refine (calls_in (fit04 _)).mono ?_; rintro e w1 ⟨rfl, hC⟩; have HS0 := Lib.hid (HSI.out.same hC); clear hC HSI)
    | (gi_at_call 18; refine (calls_in (TANew HS0.out 2 2 (by decide))).mono ?_; rintro e w2 ⟨a, ids, rfl, hs⟩; have HS2 := Lib.hid hs; clear hs HS0; have HW := Lib.hid (AR.new_wf 2 ids (by omega)); have HT := Lib.hid (new_total 2 ids (by omega)))
    | (gi_at_call 46; refine (calls_in (ONew HS2.out 0 rfl HW.out k hk6 (by rw [HT.out.1, HT.out.2.1]; decide))).mono ?_; rintro e w3 ⟨r, A1, rfl, hs, hN⟩; have HS3 := Lib.hid hs; clear hs HS2; have HN1 := Lib.hid hN; clear hN)
    | (gi_at_call 46; refine (calls_in (ONew HS3.out 0 rfl HN1.out.wf k hk6 (by rw [HN1.out.total, HN1.out.n, HT.out.1, HT.out.2.1]; decide))).mono ?_; rintro e w4 ⟨s, A2, rfl, hs, hN⟩; have HS4 := Lib.hid hs; clear hs HS3; have HN2 := Lib.hid hN; clear hN))
  have hs := HS4.out.box #[.int .i64 (s : Int)] 26
  obtain ⟨b9, hb9⟩ : ∃ b9, w4.heap.size = b9 := ⟨_, rfl⟩
  obtain ⟨b0, hb0⟩ : ∃ b0, w.heap.size = b0 := ⟨_, rfl⟩
  simp only [hb9, hb0, List.set_cons_zero] at hs ⊢
  obtain ⟨ho1, hne⟩ := HN2.out.old _ _ _ HN1.out.obj
  have HNE := Lib.hid hne
  have HO1 := Lib.hid (show Obj A2 r (fillF k 0 (s : Int)) 0 by rw [fillF_zero]; exact ho1)
  have HO2 := Lib.hid HN2.out.obj
  have HW2 := Lib.hid HN2.out.wf
  have hsn : ¬ (s : Int) = 0 := (HN2.out.obj.pos HN2.out.wf).2.1
  have HS5 := Lib.hid hs
  clear hs hb9 ho1 hne HN1 HN2 HS4 HW HT
  gi_loopw [48] (fun i wr => ∃ (j : Nat) (B : AR), j ≤ k ∧ i = .int .i64 j ∧ B.Wf ∧ Obj B r (fillF k j (s : Int)) 0 ∧ Obj B s (List.replicate k 0) 0 ∧ Sep w wr (blkR b9 26 #[.int .i64 (s : Int)] :: arenaR a B :: blkR b0 4 #[.bool false] :: [])) (fun i _ => k + 1 - (intOf i).toNat)
  case atStart => exact ⟨0, _, by omega, rfl, HW2.out, HO1.out, HO2.out, HS5.out⟩
  case round =>
    obtain ⟨j, B, hj, rfl, hwf, hor, hos, hs⟩ := hrel
    clear HS5 HW2 HO1 HO2
    have q0 := (hs.blk 0 rfl).cell 0
    have fq0 := (hs.blk 0 rfl).frozen 0
    have g0 := (hs.blk 2 rfl).cell 0
    have fg0 := (hs.blk 2 rfl).frozen 0
    simp only [List.getElem?_toArray, List.getElem?_cons_zero, List.getElem?_cons_succ] at q0 g0
    have HS := Lib.hid hs
    have HW := Lib.hid hwf
    have HOR := Lib.hid hor
    have HOS := Lib.hid hos
    clear hs hwf hor hos
    by_cases hlt : j < k
    · gi_wp2_with (gi_at_call 44; refine (calls_in (OSetField HS.out 1 rfl HW.out HOR.out j (by rw [fillF_length]; omega) (s : Int))).mono ?_; rintro e w5 ⟨B', rfl, hs, hst, ho⟩; have HS6 := Lib.hid hs; clear hs HS; have HST := Lib.hid hst; have HO := Lib.hid ho; clear hst ho)
      go_roundw
      case rel => exact ⟨j + 1, B', by omega, by go_num, HST.out.wf, by rw [← fillF_set]; exact HO.out, HST.out.old _ _ _ (fun e => HNE.out e.symm) HOS.out, HS6.out⟩
      case measure => simp [intOf]; omega
    · obtain rfl : j = k := by omega
      have HOR2 := Lib.hid (show Obj B r (List.replicate j (s : Int)) 0 by rw [← fillF_all]; exact HOR.out)
      clear HOR hlt
      gi_wp2
      gi_loopw [59] (fun i wr => ∃ (m : Nat) (B : AR) (x : Int), m ≤ n ∧ i = .int .i64 m ∧ B.Wf ∧ Obj B r (List.replicate j (s : Int)) x ∧ Obj B s (List.replicate j 0) 0 ∧ Sep w wr (blkR b9 26 #[.int .i64 (s : Int)] :: arenaR a B :: blkR b0 4 #[.bool false] :: [])) (fun i _ => n + 1 - (intOf i).toNat)
      case atStart => exact ⟨0, _, 0, by omega, rfl, HW.out, HOR2.out, HOS.out, HS.out⟩
      case round =>
        clear HS HW HOR2 HOS
        obtain ⟨m, B, x, hmn, rfl, hwf, hor, hos, hs⟩ := hrel
        have q0 := (hs.blk 0 rfl).cell 0
        have fq0 := (hs.blk 0 rfl).frozen 0
        have g0 := (hs.blk 2 rfl).cell 0
        have fg0 := (hs.blk 2 rfl).frozen 0
        simp only [List.getElem?_toArray, List.getElem?_cons_zero, List.getElem?_cons_succ] at q0 g0
        have hown := hs.own
        have HS := Lib.hid hs
        have HW := Lib.hid hwf
        have HOR := Lib.hid hor
        have HOS := Lib.hid hos
        clear hs hwf hor hos
        by_cases hlt : m < n
        · obtain ⟨ab, ao, rfl, hcell⟩ := HZ.out.at_ hown hlt
          have hc0 := hcell 0 _ rfl
          simp at hc0
          obtain ⟨y, hy⟩ : ∃ y, D m 0 = y := ⟨_, rfl⟩
          rw [hy] at hc0
          clear hcell hown hy
          gi_wp2_with (first
            | (gi_at_call 45; refine (calls_in (OSetScalar HS.out 1 rfl HW.out HOR.out y)).mono ?_; rintro e w5 ⟨B', rfl, hs, hst, ho⟩; have q0 := (hs.blk 0 rfl).cell 0; have fq0 := (hs.blk 0 rfl).frozen 0; have g0 := (hs.blk 2 rfl).cell 0; have fg0 := (hs.blk 2 rfl).frozen 0; simp only [List.getElem?_toArray, List.getElem?_cons_zero, List.getElem?_cons_succ] at q0 g0; have HS6 := Lib.hid hs; clear hs HS; have HST := Lib.hid hst; have HO := Lib.hid ho; have HO2 := Lib.hid (hst.old _ _ _ (fun e => HNE.out e.symm) HOS.out); have HWB := Lib.hid hst.wf; clear hst ho)
            | (gi_at_call 43; refine (calls_in (OScalar HS6.out 1 rfl HWB.out HO.out)).mono ?_; rintro e w6 ⟨rfl, hs⟩; have q0 := (hs.blk 0 rfl).cell 0; have fq0 := (hs.blk 0 rfl).frozen 0; have g0 := (hs.blk 2 rfl).cell 0; have fg0 := (hs.blk 2 rfl).frozen 0; simp only [List.getElem?_toArray, List.getElem?_cons_zero, List.getElem?_cons_succ] at q0 g0; have HS7 := Lib.hid hs; clear hs HS6)
            | (gi_at_call 43; refine (calls_in (OScalar HS7.out 1 rfl HWB.out HO2.out)).mono ?_; rintro e w7 ⟨rfl, hs⟩; have q0 := (hs.blk 0 rfl).cell 0; have fq0 := (hs.blk 0 rfl).frozen 0; have g0 := (hs.blk 2 rfl).cell 0; have fg0 := (hs.blk 2 rfl).frozen 0; simp only [List.getElem?_toArray, List.getElem?_cons_zero, List.getElem?_cons_succ] at q0 g0; have HS8 := Lib.hid hs; clear hs HS7)
            | (gi_at_call 41; refine (calls_in (OFields HS8.out 1 rfl HWB.out HO.out)).mono ?_; rw [List.length_replicate]; rintro e w8 ⟨rfl, hs⟩; have q0 := (hs.blk 0 rfl).cell 0; have fq0 := (hs.blk 0 rfl).frozen 0; have g0 := (hs.blk 2 rfl).cell 0; have fg0 := (hs.blk 2 rfl).frozen 0; simp only [List.getElem?_toArray, List.getElem?_cons_zero, List.getElem?_cons_succ] at q0 g0; have HS9 := Lib.hid hs; clear hs HS8))
          go_roundw
          case rel => exact ⟨m + 1, B', y, by omega, by go_num, HWB.out, HO.out, HO2.out, HS9.out⟩
          case measure => simp [intOf]; omega
        · obtain rfl : m = n := by omega
          clear hown hlt
          have HS10 := Lib.hid (HS.out.box #[.int .i64 0] 3)
          obtain ⟨T, hT⟩ : ∃ T, wr.heap.size = T := ⟨_, rfl⟩
          rw [hT] at HS10
          gi_wp2_with (gi_at_call 47; refine (calls_in (CPoints HS10.out a (r : Int))).mono ?_; rintro e w5 ⟨rfl, hs⟩; try simp only [World.size_alloc, hT] at hs; have HS6 := Lib.hid hs; clear hs HS10)
          try simp only [World.size_alloc, hT]
          have hs : Sep w w5 (blkR (T + 1) 23 #[.pointer (some ⟨a, 0, none⟩)] :: blkR (T + 1 + 1) 26 #[.int .i64 (r : Int)] :: arenaR a B :: blkR T 3 #[.int .i64 0] :: blkR b9 26 #[.int .i64 (s : Int)] :: blkR b0 4 #[.bool false] :: []) := HS6.out.front 6 [1, 0, 4, 2, 3, 5]
          have HS7 := Lib.hid (show Sep w w5 ([blkR (T + 1) 23 #[.pointer (some ⟨a, 0, none⟩)], blkR (T + 1 + 1) 26 #[.int .i64 (r : Int)], arenaR a B] ++ (marksR [] :: blkR T 3 #[.int .i64 0] :: blkR b9 26 #[.int .i64 (s : Int)] :: blkR b0 4 #[.bool false] :: [])) from (hs.noMarks).perm (perm_mid [_] [_, _, _] _))
          clear hs HS6 HS hT q0 g0 fq0 fg0
          refine wp_rangeM (Ds := []) (gf := 60) (lb := #[.pointer (some ⟨T + 1, 0, none⟩), .pointer (some ⟨T + 1 + 1, 0, none⟩)]) rfl (enters_of Try.func60 (by kernel_rfl) rfl) (opoints_iter (T + 1) (T + 1 + 1) a B HW.out HOR.out) (fun _ => rfl) HS7.out
            (fun pre Rs => Rs = blkR T 3 #[.int .i64 (pre.length : Int)] :: blkR b9 26 #[.int .i64 (s : Int)] :: blkR b0 4 #[.bool false] :: []) (fun _ _ _ => False) rfl ?round0 ?done0 ?stop0
          case stop0 => rintro _ _ _ _ _ _ h; exact h.elim
          case round0 =>
            rintro l1 pre x _ G V1 r1 hpre rfl hS1
            simp only [List.cons_append, List.nil_append] at hS1
            obtain rfl : x = (s : Int) := by
              have := hpre.subset (show x ∈ pre ++ [x] by simp)
              simp at this
              exact this.1.2
            have hlp : pre.length < j := by
              have h1 := hpre.length_le
              have h2 := List.length_filter_le (fun v : Int => !(v == 0)) (List.replicate j (s : Int))
              rw [List.length_append] at h1
              simp at h1 h2
              omega
            have HS1 := Lib.hid hS1
            clear hpre hS1 HS7
            gi_wp2
            refine ⟨[], HS1.out, ?_⟩
            intro r' V2 hS2
            simp only [List.cons_append, List.nil_append] at hS2
            have g0 := (hS2.blk 4 rfl).cell 0
            have fg0 := (hS2.blk 4 rfl).frozen 0
            have q0 := (hS2.blk 5 rfl).cell 0
            have fq0 := (hS2.blk 5 rfl).frozen 0
            have h0 := (hS2.blk 6 rfl).cell 0
            have fh0 := (hS2.blk 6 rfl).frozen 0
            simp only [List.getElem?_toArray, List.getElem?_cons_zero, List.getElem?_cons_succ] at g0 q0 h0
            have HS2 := Lib.hid hS2
            clear hS2 HS1
            gi_wp2
            refine ⟨_, rfl, ?_⟩
            simpa using HS2.out.setCell 4 rfl 0 (.int .i64 ((pre.length : Int) + 1))
          case done0 =>
            rintro Ds _ V hR hS
            subst hR
            have hlen : ((List.replicate j (s : Int)).filter fun v : Int => !(v == 0)).length = j := by
              rw [List.filter_eq_self.2]
              · simp
              · intro v hv
                obtain ⟨_, rfl⟩ := List.mem_replicate.1 hv
                simpa using hsn
            rw [hlen] at hS
            simp only [List.cons_append, List.nil_append] at hS
            have g0 := (hS.blk 4 rfl).cell 0
            have fg0 := (hS.blk 4 rfl).frozen 0
            have q0 := (hS.blk 6 rfl).cell 0
            have fq0 := (hS.blk 6 rfl).frozen 0
            simp only [List.getElem?_toArray, List.getElem?_cons_zero, List.getElem?_cons_succ] at g0 q0
            have HS8 := Lib.hid hS
            clear hS HS7 hlen
            gi_wp2
            have hf := (HS8.out.setCell 6 rfl 0 (.bool true)).front 4 [3, 0, 1, 2]
            exact leavesM_box hf 5 rfl rfl rfl (fun w' hs => ⟨rfl, hs.below⟩)
end Go.Proofs.Ytapbphbnffggnaa
