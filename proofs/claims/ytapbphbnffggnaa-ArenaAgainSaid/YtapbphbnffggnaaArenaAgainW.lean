/-
  The walk of ArenaAgain. Conditions: as the theorem says.
-/
import Derived.Test.YtapbphbnffggnaaOpen
import Derived.Test.YtapbphbnffggnaaFit03
import Derived.Test.YtapbphbnffggnaaBits
import Derived.Test.YtapbphbnffggnaaArAgain
import Derived.Test.YtapbphbnffggnaaInfo
namespace Go.Proofs.Ytapbphbnffggnaa
set_option linter.unusedVariables false
set_option linter.unusedSimpArgs false
open Go.RowKit Go.Shelf
attribute [local go_sem] Oper.semAt_some wide_fn round_fn wide_depth round_depth
attribute [local simp] wide_fn round_fn wide_depth round_depth

set_option maxRecDepth 100000 in
set_option maxHeartbeats 4000000 in
theorem arenaAgain_walk (A : Option Addr) (n c : Nat) (D : Nat → Nat → Int) (num : Int) (w : World) (hz : ArgI w A n [.i64, .i64] D) (hm : n ≤ maxLen) (_wt : (Lit.int .i64 num).wf = true) :
    Calls Try.prog 5 #[.slice A n c, .int .i64 num] w fun e w' => e = .returned (.bool true) ∧ Below w.heap.size w w' := by
  have HZ := Lib.hid hz
  unfold maxLen at hm
  clear hz _wt
  refine calls_wide ?_
  refine callsIn_of_wp_marks Try.func5 rfl trivial ?_
  simp only [Try.ntmps5, List.size_toArray, List.length_cons, List.length_nil, Nat.reduceAdd, Nat.reduceSub, Array.replicate_succ, Array.replicate_zero, List.push_toArray, List.append_toArray, List.nil_append, List.cons_append]
  by_cases hn : 60 < n
  · gi_wp2_with (gi_at_call 17; refine (calls_in (fit03 _)).mono ?_; rintro e w1 ⟨rfl, hC⟩; have HC := Lib.hid hC; clear hC)
    exact ⟨_, results_tmp rfl _ _ _, rfl, ((Sep.start w).same HC.out).below⟩
  obtain ⟨T, hT⟩ : ∃ T : Nat, num % 65536 = (T : Int) := ⟨(num % 65536).toNat, by omega⟩
  have hand := and_65535 num
  rw [hT] at hand
  clear hT
  gi_wp2_with (first
    | (gi_at_call 17; refine (calls_in (fit03 _)).mono ?_; rintro e w1 ⟨rfl, hC⟩; have HS0 := Lib.hid ((Sep.start w).same hC); clear hC)
    | (gi_at_call 18; refine (calls_in (TANew (HS0.out.nilRow 26 1) 3 3 (by decide))).mono ?_; rintro e w2 ⟨a, ids, rfl, hs⟩; have HS2 := Lib.hid hs; clear hs HS0))
  have HW0 := Lib.hid (AR.new_wf 3 ids (by omega))
  gi_loopw [6, 24] (fun v i wr => ∃ (k : Nat) (B : AR) (all : List Nat), k ≤ n ∧ i = .int .i64 k ∧ B.Wf ∧ B.n = 3 ∧ (∀ r, B.tk r = true ↔ r ∈ all) ∧ all.length ≤ k ∧ Sep w wr [arenaR a B, rowR 26 1 v all.length (all.map fun r => Value.int .i64 ((r : Nat) : Int))]) (fun _ i _ => n + 1 - (intOf i).toNat)
  case atStart => exact ⟨0, _, [], by omega, rfl, HW0.out, rfl, by simp [AR.new], by simp, HS2.out⟩
  case round =>
    obtain ⟨k, B, all, hk, rfl, hwf, hBn, hmem, hlen, hS⟩ := hrel
    clear HS2 HW0
    obtain ⟨AA, cap, rfl, hcap, hcm⟩ := hS.rowShape 1 rfl
    have HS := Lib.hid hS
    have HWF := Lib.hid hwf
    have HBN := Lib.hid hBn
    have HMEM := Lib.hid hmem
    unfold maxLen at hcm
    clear hS hwf hBn hmem
    by_cases hlt : k < n
    · obtain ⟨ab, ao, rfl, hcell⟩ := HZ.out.at_ HS.out.own hlt
      have hc0 := hcell 0 _ rfl
      have hc1 := hcell 1 _ rfl
      simp at hc0 hc1
      have hx := and_3 (D k 0)
      have HLT := Lib.hid hlt
      have HSB := Lib.hid (HS.out.same ((Chg.refl [] _).alloc (.cells #[.int .i64 (D k 0), .int .i64 (D k 1)] 34)))
      cases ht : B.take (D k 0 % 4) with
      | none =>
        have HT := Lib.hid ht
        clear ht hcell
        gi_wp2_with (gi_at_call 22; refine (calls_in (TATake HSB.out 0 rfl HWF.out (D k 0 % 4))).mono ?_; rw [takeA_none HT.out, HT.out, takeV_none]; rintro e w3 ⟨rfl, hs⟩; have HS3 := Lib.hid hs; clear hs)
        go_roundw
        case rel => exact ⟨k + 1, B, all, HLT.out, by go_num, HWF.out, HBN.out, HMEM.out, by omega, HS3.out⟩
        case measure => have := HLT.out; simp [intOf]; omega
      | some x =>
        obtain ⟨r, B'⟩ := x
        obtain ⟨p, q, hti⟩ := HWF.out.take_spec ht
        have hr63 : r < 3000 := by
          have h1 := hti.ref
          have h2 := ref_in (p := p) hti.cell
          have h3 := hti.page
          have h4 := HWF.out.few
          omega
        have HT := Lib.hid ht
        have HTI := Lib.hid hti
        clear ht hcell hti
        gi_wp2_with (first
          | (gi_at_call 22; refine (calls_in (TATake HSB.out 0 rfl HWF.out (D k 0 % 4))).mono ?_; rw [takeA_some HT.out, HT.out, takeV_some]; rintro e w3 ⟨rfl, hs⟩; have HS3 := Lib.hid hs; clear hs)
          | (gi_at_builtin; refine wpListIn_append_sep rfl _ _ 32 rfl 26 (.int .i64 0) 1 8 Try.underlying32 refInfo rfl (by decide) HS3.out 1 rfl rfl [.int .i64 ((r : Nat) : Int)] rfl (by simp [Value.oneCell']) rfl (by unfold maxLen; omega) (by omega) ?_; intro g4 cap4 w4 hcap4 hcm4 hs4; have HS4 := Lib.hid hs4; clear hs4))
        go_roundw
        case rel =>
          refine ⟨k + 1, B', all ++ [r], HLT.out, by go_num, HTI.out.wf, HTI.out.n.trans HBN.out, ?_, by simp; omega, ?_⟩
          · intro j
            rw [HTI.out.tk]
            simp [HMEM.out j]
          · simpa using HS4.out
        case measure => have := HLT.out; simp [intOf]; omega
    · obtain rfl : k = n := by omega
      obtain ⟨Ln, hLn⟩ : ∃ Ln, all.length = Ln := ⟨_, rfl⟩
      have HLN := Lib.hid hLn
      rw [hLn] at hcap hlen HS ⊢
      clear hLn
      by_cases h0 : Ln = 0
      · subst h0
        have hnil : all = [] := List.length_eq_zero_iff.1 HLN.out
        have hfr := (HWF.out.empty (fun r => by
          cases h : B.tk r
          · rfl
          · have := (HMEM.out r).1 h
            rw [hnil] at this
            simp at this)).2.2
        rw [HBN.out] at hfr
        have HFR := Lib.hid hfr
        clear hfr hnil HMEM
        gi_wp2_with (gi_at_call 20; refine (calls_in (TAFree HS.out 0 rfl)).mono ?_; rw [HFR.out]; rintro e w' ⟨rfl, rfl⟩)
        exact ⟨_, results_tmp rfl _ _ _, rfl, HS.out.below⟩
      · obtain ⟨g, cap', hsl, _, _⟩ := HS.out.rowSome 1 rfl (by omega)
        simp only [Value.slice.injEq] at hsl
        obtain ⟨rfl, _, rfl⟩ := hsl
        obtain ⟨m, hmm⟩ : ∃ m, T % Ln = m := ⟨_, rfl⟩
        have hmod : m < Ln := by rw [← hmm]; exact Nat.mod_lt _ (by omega)
        obtain ⟨r, hr⟩ : ∃ r, all[m]? = some r := ⟨_, List.getElem?_eq_getElem (by rw [HLN.out]; exact hmod)⟩
        have hcr := HS.out.rowCell 1 rfl m (.int .i64 ((r : Nat) : Int)) (by rw [List.getElem?_map, hr]; rfl)
        have htk : B.tk r = true := (HMEM.out r).2 (List.mem_of_getElem? hr)
        have hhas : B.has (r : Int) = true := by rw [HWF.out.has]; exact htk
        obtain ⟨p, q, hp, hc0, hc2, hq, href, hpg, hcz, hdiv⟩ := HWF.out.at_ htk
        have hr63 : (r : Int) ≤ 9223372036854775807 := by
          have h1 := (HWF.out.lt htk).2.1
          have h4 := HWF.out.few
          omega
        have hcnt := HWF.out.cells_length hp
        have hc16 := (HWF.out.cnt_le hp).2
        have hagain := fun (h : B.cnt p ≠ 1) => HWF.out.again htk (by rw [hdiv]; exact h)
        rw [hpg, hcz] at hagain
        have hgive := HWF.out.give_is htk hp hdiv
        have hpgg : (B.give (r : Int)).page (r : Int) = (p : Int) := by
          unfold AR.page AR.size at hpg ⊢
          rw [give_n]
          exact hpg
        have hczg : (B.give (r : Int)).clsZ (p : Int) = (B.give (r : Int)).cls p := by
          unfold AR.clsZ
          rw [give_n, if_pos (by omega)]
          simp
        rw [← hcnt] at hagain hgive hc16
        have hrem : (T : Int).tmod (Ln : Int) = (m : Int) := by
          rw [Int.tmod_eq_emod_of_nonneg (by omega), ← hmm]
          simp
        have hne0 : ((Ln : Int) == 0) = false := by simpa using h0
        have hmI : (m : Int) < (Ln : Int) := by omega
        have hm0 : (0 : Int) ≤ (m : Int) := by omega
        have HHAS := Lib.hid hhas
        have HPG := Lib.hid hpg
        have HCZ := Lib.hid hcz
        have HAGAIN := Lib.hid hagain
        have HGIVE := Lib.hid hgive
        have HPGG := Lib.hid hpgg
        have HCZG := Lib.hid hczg
        clear hmm hr htk hhas href hpg hcz hdiv hcnt hagain hgive hpgg hczg HMEM hp hq hc0 hc2
        obtain ⟨pc, hpc⟩ : ∃ pc, B.cls p = pc := ⟨_, rfl⟩
        rw [hpc] at HCZ HAGAIN
        have HPC := Lib.hid hpc
        clear hpc
        gi_wp2_with (first
          | (gi_at_call 27; refine (calls_in (TAPage HS.out 0 rfl (r : Int) hr63)).mono ?_; rw [HPG.out]; rintro e w' ⟨rfl, rfl⟩)
          | (gi_at_call 27; refine (calls_in (TAPage (HS.out.box #[.int .i64 0] 3) 1 rfl (r : Int) hr63)).mono ?_; rw [HPG.out]; rintro e w' ⟨rfl, rfl⟩)
          | (gi_at_call 26; refine (calls_in (TAClass HS.out 0 rfl (p : Int))).mono ?_; rw [HCZ.out]; rintro e w' ⟨rfl, rfl⟩)
          | (gi_at_call 28; refine (calls_in (TACells (HS.out.box #[.int .i64 0] 3) a (p : Int))).mono ?_; rintro e w4 ⟨rfl, hs⟩; have HS4 := Lib.hid hs; clear hs))
        have hS5 := HS4.out.front 5 [1, 0, 3]
        simp only [World.size_alloc] at hS5 ⊢
        obtain ⟨Tb, hTb⟩ : ∃ Tb, wr.heap.size = Tb := ⟨_, rfl⟩
        rw [hTb] at hS5 ⊢
        have HS5 := Lib.hid (show Sep w w4 (blkR (Tb + 1) 23 #[.pointer (some ⟨a, 0, none⟩)] :: blkR (Tb + 1 + 1) 3 #[.int .i64 (p : Int)] :: arenaR a B :: blkR Tb 3 #[.int .i64 0] :: rowR 26 1 (.slice (some ⟨g, 0, none⟩) Ln cap) Ln (all.map fun r => Value.int .i64 ((r : Nat) : Int)) :: []) from hS5)
        clear hTb hS5 HS4
        refine wp_range (gf := 53) (lb := #[.pointer (some ⟨Tb + 1, 0, none⟩), .pointer (some ⟨Tb + 1 + 1, 0, none⟩)]) rfl (enters_of Try.func53 (by kernel_rfl) rfl) (cells_iter (Tb + 1) (Tb + 1 + 1) a (p : Int) B HWF.out) (fun _ => rfl) HS5.out
          (fun pre Rs => Rs = [blkR Tb 3 #[.int .i64 ((pre.length : Nat) : Int)], rowR 26 1 (.slice (some ⟨g, 0, none⟩) Ln cap) Ln (all.map fun r => Value.int .i64 ((r : Nat) : Int))]) (fun _ _ _ => False) rfl ?round ?done ?stop
        case stop => rintro _ _ _ _ _ _ h; exact h.elim
        case round =>
          rintro l1 D1 pre x _ G W1 r1 hpre rfl hS1
          simp only [List.cons_append, List.nil_append] at hS1
          have hpl : pre.length < 16 := by
            have := hpre.length_le
            simp at this
            omega
          have HS1 := Lib.hid hS1
          clear hpre hS1 HS5
          gi_wp2
          refine ⟨[], HS1.out, ?_⟩
          intro r' W2 hS2
          simp only [List.cons_append, List.nil_append] at hS2
          have ht0 := (hS2.blk 5 rfl).cell 0
          have hf0 := (hS2.blk 5 rfl).frozen 0
          simp only [List.getElem?_toArray, List.getElem?_cons_zero] at ht0
          have HS2 := Lib.hid hS2
          clear hS2
          gi_wp2
          refine ⟨_, rfl, ?_⟩
          have := HS2.out.setCell 5 rfl 0 (.int .i64 ((pre.length : Int) + 1))
          simpa using this
        case done =>
          rintro D1 _ W1 rfl hS1
          simp only [List.cons_append, List.nil_append] at hS1
          have ht0 := (hS1.blk 4 rfl).cell 0
          simp only [List.getElem?_toArray, List.getElem?_cons_zero] at ht0
          have HS6 := Lib.hid hS1
          clear hS1 HS5
          obtain ⟨M, hM⟩ : ∃ M, (B.cellsOf (p : Int)).length = M := ⟨_, rfl⟩
          rw [hM] at ht0 HAGAIN HGIVE
          have HM := Lib.hid hM
          have HWG := Lib.hid (HWF.out.give_wf (r : Int))
          by_cases hone : M = 1
          · subst hone
            have hcg : (B.give (r : Int)).cls p = -1 := by
              have := HGIVE.out
              rw [this]
              simp [updN]
            have HCG := Lib.hid hcg
            clear hcg hM
            gi_wp2_with (first
              | (gi_at_call 24; refine (calls_in (TAGive HS6.out 2 rfl HWF.out (r : Int))).mono ?_; rw [HHAS.out]; rintro e w6 ⟨rfl, hs⟩; have hv0 := (hs.blk 4 rfl).cell 0; simp only [List.getElem?_toArray, List.getElem?_cons_zero] at hv0; rw [HM.out] at hv0; have HS7 := Lib.hid hs; clear hs)
              | (gi_at_call 27; refine (calls_in (TAPage HS7.out 2 rfl (r : Int) hr63)).mono ?_; rw [HPGG.out]; rintro e w' ⟨rfl, rfl⟩)
              | (gi_at_call 26; refine (calls_in (TAClass HS7.out 2 rfl (p : Int))).mono ?_; rw [HCZG.out, HCG.out]; rintro e w' ⟨rfl, rfl⟩))
            refine leaves_mark HS7.out (i := 3) rfl (fun _ => results_tmp rfl _ _ _) ?_
            intro w' hS
            exact ⟨rfl, hS.below⟩
          · obtain ⟨x, B2, ht2, hle, hwf2, hx3, hcx⟩ := HAGAIN.out (by omega)
            have hne1 : ((M : Int) == 1) = false := by simp; omega
            have hx63 : (x : Int) ≤ 9223372036854775807 := by omega
            have HT2 := Lib.hid ht2
            have HCX := Lib.hid hcx
            clear ht2 hcx hM
            gi_wp2_with (first
              | (gi_at_call 24; refine (calls_in (TAGive HS6.out 2 rfl HWF.out (r : Int))).mono ?_; rw [HHAS.out]; rintro e w6 ⟨rfl, hs⟩; have hv0 := (hs.blk 4 rfl).cell 0; simp only [List.getElem?_toArray, List.getElem?_cons_zero] at hv0; rw [HM.out] at hv0; have HS7 := Lib.hid hs; clear hs)
              | (gi_at_call 22; refine (calls_in (TATake HS7.out 2 rfl HWG.out pc)).mono ?_; rw [takeA_some HT2.out, HT2.out, takeV_some]; rintro e w7 ⟨rfl, hs⟩; have HS8 := Lib.hid hs; clear hs)
              | (gi_at_call 27; refine (calls_in (TAPage HS8.out 2 rfl (x : Int) hx63)).mono ?_; rintro e w' ⟨rfl, rfl⟩)
              | (gi_at_call 26; refine (calls_in (TAClass HS8.out 2 rfl _)).mono ?_; rw [HCX.out]; rintro e w' ⟨rfl, rfl⟩))
            refine leaves_mark HS8.out (i := 3) rfl (fun _ => results_tmp rfl _ _ _) ?_
            intro w' hS
            exact ⟨by simp, hS.below⟩
end Go.Proofs.Ytapbphbnffggnaa
