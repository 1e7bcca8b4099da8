/-
  The walk of ArenaEmpty. Conditions: as the theorem says.
-/
import Derived.Test.YtapbphbnffggnaaOpen
import Derived.Test.YtapbphbnffggnaaFit03
import Derived.Test.YtapbphbnffggnaaBits
import Derived.Test.YtapbphbnffggnaaArTake
import Derived.Test.YtapbphbnffggnaaRow
import Derived.Test.YtapbphbnffggnaaInfo
import Derived.Test.YtapbphbnffggnaaTurn
namespace Go.Proofs.Ytapbphbnffggnaa
set_option linter.unusedVariables false
set_option linter.unusedSimpArgs false
open Go.RowKit Go.Shelf

set_option maxRecDepth 100000 in
set_option maxHeartbeats 4000000 in
theorem arenaEmpty_walk (A : Option Addr) (n c : Nat) (D : Nat → Nat → Int) (turn cls : Int) (w : World) (hz : ArgI w A n [.i64, .i64] D) (hm : n ≤ maxLen) (_wt : (Lit.int .i64 turn).wf = true) (_wc : (Lit.int .i64 cls).wf = true) :
    Calls Try.prog 4 #[.slice A n c, .int .i64 turn, .int .i64 cls] w fun e w' => e = .returned (.bool true) ∧ Below w.heap.size w w' := by
  have HZ := Lib.hid hz
  unfold maxLen at hm
  clear hz _wt _wc
  by_cases hn : 60 < n
  · go_enter Try.func4, Try.ntmps4
    go_wp2_with fail
    refine (fit03 _).mono ?_
    rintro e w1 ⟨rfl, hC⟩
    go_wp2_with fail
    go_ret
    exact ⟨rfl, ((Sep.start w).same hC).below⟩
  obtain ⟨T, hT⟩ : ∃ T : Nat, turn % 4096 = (T : Int) := ⟨(turn % 4096).toNat, by omega⟩
  have hT2 : T < 4096 := by omega
  have hand := and_4095 turn
  rw [hT] at hand
  obtain ⟨cl, hcl⟩ : ∃ cl, cls % 256 % 3 = cl := ⟨_, rfl⟩
  have hcl0 : 0 ≤ cl ∧ cl ≤ 2 := by omega
  have hcN := cN_of cl hcl0.1 hcl0.2
  have hand2 := and_255 cls
  have htm : (cls % 256).tmod 3 = cl := by rw [Int.tmod_eq_emod_of_nonneg (by omega)]; exact hcl
  have hcz := cells_cN cl
  have hcz16 := (cells_nonneg cl).2
  rw [hcz] at hcz16
  obtain ⟨C, hC⟩ : ∃ C, cN cl = C := ⟨_, rfl⟩
  rw [hC] at hcz hcz16 hcN
  have HC := Lib.hid hC
  have HCZ := Lib.hid hcz
  have HCN := Lib.hid hcN
  have hmul : IntKind.i64.wrap (3 * (C : Int)) = 3 * (C : Int) := by rw [IntKind.wrap_i64]; omega
  clear hT hcl hC hcz hcN
  go_enter Try.func4, Try.ntmps4
  go_wp2_with fail
  refine (fit03 _).mono ?_
  rintro e w1 ⟨rfl, hC⟩
  have HS0 := Lib.hid ((Sep.start w).same hC)
  clear hC
  go_wp2_with fail
  refine (TANew (HS0.out.nilRow 26 1) 3 3 (by decide)).mono ?_
  rintro e w2 ⟨a, ids, rfl, hs⟩
  have HS2 := Lib.hid hs
  have HW0 := Lib.hid (AR.new_wf 3 ids (by omega))
  clear hs HS0
  go_wp2_with fail
  go_loopw [8, 23] (fun v i wr => ∃ (k : Nat) (B : AR) (all : List Nat), k ≤ n ∧ i = .int .i64 k ∧ B.Wf ∧ B.n = 3 ∧ (∀ r, B.tk r = true ↔ r ∈ all) ∧ all.Nodup ∧ all.length ≤ k ∧ Sep w wr [arenaR a B, rowR 26 1 v all.length (all.map fun r => Value.int .i64 ((r : Nat) : Int))]) (fun _ i _ => n - (intOf i).toNat)
  case atStart => exact ⟨0, _, [], by omega, rfl, HW0.out, rfl, by simp [AR.new], List.nodup_nil, by simp, HS2.out⟩
  case round =>
    obtain ⟨k, B, all, hk, rfl, hwf, hBn, hmem, hnd, hlen, hS⟩ := hrel
    clear HS2 HW0
    obtain ⟨AA, cap, rfl, hcap, hcm⟩ := hS.rowShape 1 rfl
    have HS := Lib.hid hS
    have HWF := Lib.hid hwf
    have HBN := Lib.hid hBn
    have HMEM := Lib.hid hmem
    have HND := Lib.hid hnd
    unfold maxLen at hcm
    clear hS hwf hBn hmem hnd
    by_cases hlt : k < n
    · obtain ⟨ab, ao, rfl, hcell⟩ := HZ.out.at_ HS.out.own hlt
      have hc0 := hcell 0 _ rfl
      have hc1 := hcell 1 _ rfl
      simp at hc0 hc1
      have hx := and_3 (D k 0)
      have HLT := Lib.hid hlt
      have HSB := Lib.hid (HS.out.same ((Chg.refl [] _).alloc (.cells #[.int .i64 (D k 0), .int .i64 (D k 1)] 34)))
      cases ht : B.take (D k 0 % 4) with
      | none =>
        have HT := Lib.hid ht
        clear ht hcell
        go_wp2_with (go_at_call 22; refine (TATake HSB.out 0 rfl HWF.out (D k 0 % 4)).mono ?_; rw [takeA_none HT.out, HT.out, takeV_none]; rintro e w3 ⟨rfl, hs⟩; have HS3 := Lib.hid hs; clear hs)
        go_roundw
        case rel => exact ⟨k + 1, B, all, HLT.out, by go_num, HWF.out, HBN.out, HMEM.out, HND.out, by omega, HS3.out⟩
        case measure => have := HLT.out; simp [intOf]; omega
      | some x =>
        obtain ⟨r, B'⟩ := x
        obtain ⟨p, q, hti⟩ := HWF.out.take_spec ht
        have hr63 : r < 3000 := by
          have h1 := hti.ref
          have h2 := ref_in (p := p) hti.cell
          have h3 := hti.page
          have h4 := HWF.out.few
          omega
        have HT := Lib.hid ht
        have HTI := Lib.hid hti
        clear ht hcell hti
        go_wp2_with (first
          | (go_at_call 22; refine (TATake HSB.out 0 rfl HWF.out (D k 0 % 4)).mono ?_; rw [takeA_some HT.out, HT.out, takeV_some]; rintro e w3 ⟨rfl, hs⟩; have HS3 := Lib.hid hs; clear hs)
          | (at_builtin; refine wpList_append_sep rfl _ _ 32 rfl 26 (.int .i64 0) 1 8 Try.underlying32 refInfo rfl (by decide) HS3.out 1 rfl rfl [.int .i64 ((r : Nat) : Int)] rfl (by simp [Value.oneCell']) rfl (by unfold maxLen; omega) (by omega) ?_; intro g4 cap4 w4 hcap4 hcm4 hs4; have HS4 := Lib.hid hs4; clear hs4))
        go_roundw
        case rel =>
          refine ⟨k + 1, B', all ++ [r], HLT.out, by go_num, HTI.out.wf, HTI.out.n.trans HBN.out, ?_, ?_, by simp; omega, ?_⟩
          · intro j
            rw [HTI.out.tk]
            simp [HMEM.out j]
          · rw [List.nodup_append]
            refine ⟨HND.out, by simp, ?_⟩
            intro x hx y hy
            simp at hy
            subst hy
            rintro rfl
            have := (HMEM.out x).2 hx
            rw [HTI.out.free] at this
            cases this
          · simpa using HS4.out
        case measure => have := HLT.out; simp [intOf]; omega
    · obtain rfl : k = n := by omega
      go_wp2_with fail
      obtain ⟨Ln, hLn⟩ : ∃ Ln, all.length = Ln := ⟨_, rfl⟩
      have HLN := Lib.hid hLn
      rw [hLn] at hcap hlen HS ⊢
      have hT' : Hid (∀ r, B.tk r = true ↔ ∃ j, 0 ≤ j ∧ j < Ln ∧ all[(j + T) % Ln]? = some r) := Lib.hid (by
        intro r
        rw [HMEM.out r, ← HLN.out]
        exact turn_mem r)
      clear hLn HMEM
      go_loopw [43] (fun i wr => ∃ (k : Nat) (B : AR), k ≤ Ln ∧ i = .int .i64 k ∧ B.Wf ∧ B.n = 3 ∧ (∀ r, B.tk r = true ↔ ∃ j, k ≤ j ∧ j < Ln ∧ all[(j + T) % Ln]? = some r) ∧ Sep w wr [arenaR a B, rowR 26 1 (.slice AA Ln cap) Ln (all.map fun r => Value.int .i64 ((r : Nat) : Int))]) (fun i _ => Ln + 1 - (intOf i).toNat)
      case atStart => exact ⟨0, B, by omega, rfl, HWF.out, HBN.out, hT'.out, HS.out⟩
      case round =>
        obtain ⟨j, B2, hj, rfl, hwf2, hBn2, hmem2, hS2⟩ := hrel
        clear hT' HWF HBN HS
        have HWF := Lib.hid hwf2
        have HBN := Lib.hid hBn2
        have HMEM := Lib.hid hmem2
        have HS := Lib.hid hS2
        clear hwf2 hBn2 hmem2 hS2
        by_cases hlt : j < Ln
        · obtain ⟨g, cap', hsl, _, _⟩ := HS.out.rowSome 1 rfl (by omega)
          simp only [Value.slice.injEq] at hsl
          obtain ⟨rfl, _, rfl⟩ := hsl
          have hmod : (j + T) % Ln < Ln := Nat.mod_lt _ (by omega)
          obtain ⟨m, hmm⟩ : ∃ m, (j + T) % Ln = m := ⟨_, rfl⟩
          rw [hmm] at hmod
          obtain ⟨r, hr⟩ : ∃ r, all[m]? = some r := ⟨_, List.getElem?_eq_getElem (by rw [HLN.out]; exact hmod)⟩
          have hcr := HS.out.rowCell 1 rfl m (.int .i64 ((r : Nat) : Int)) (by rw [List.getElem?_map, hr]; rfl)
          have htk : B2.tk r = true := (HMEM.out r).2 ⟨j, Nat.le_refl _, hlt, by rw [hmm]; exact hr⟩
          have hhas : B2.has (r : Int) = true := by rw [HWF.out.has]; exact htk
          have hadd : IntKind.i64.wrap ((j : Int) + (T : Int)) = (j : Int) + (T : Int) := by rw [IntKind.wrap_i64]; omega
          have hrem : ((j : Int) + (T : Int)).tmod (Ln : Int) = (m : Int) := by
            rw [Int.tmod_eq_emod_of_nonneg (by omega), ← hmm]
            simp
          have hn0 : ¬ (Ln : Int) = 0 := by omega
          have hne0 : ((Ln : Int) == 0) = false := by simpa using hn0
          have hmI : (m : Int) < (Ln : Int) := by omega
          have hm0 : (0 : Int) ≤ (m : Int) := by omega
          have HLT := Lib.hid hlt
          have HMM := Lib.hid hmm
          have HR := Lib.hid hr
          have HHAS := Lib.hid hhas
          clear hmm hr htk hhas
          go_wp2_with (go_at_call 24; refine (TAGive HS.out 0 rfl HWF.out (r : Int)).mono ?_; rw [HHAS.out]; rintro e w3 ⟨rfl, hs⟩; have HS3 := Lib.hid hs; clear hs)
          go_roundw
          case rel =>
            refine ⟨j + 1, B2.give (r : Int), HLT.out, by go_num, HWF.out.give_wf _, (give_n _ _).trans HBN.out, ?_, HS3.out⟩
            intro x
            rw [give_tk _ _ HHAS.out]
            have h1 := turn_step (all := all) (T := T) (k := j) (r := r) HND.out (by rw [HLN.out]; exact HLT.out) (by rw [HLN.out, HMM.out]; exact HR.out) x
            rw [HLN.out] at h1
            rw [h1, ← HMEM.out x]
            simp
          case measure => have := HLT.out; simp [intOf]; omega
        · obtain rfl : j = Ln := by omega
          have hemp : ∀ r, B2.tk r = false := by
            intro r
            cases h : B2.tk r
            · rfl
            · obtain ⟨i, h1, h2, _⟩ := (HMEM.out r).1 h
              omega
          obtain ⟨he1, he2, _⟩ := HWF.out.empty hemp
          have HE1 := Lib.hid he1
          have HE2 := Lib.hid he2
          clear hemp he1 he2 HMEM
          go_wp2_with fail
          have hE : Hid (∃ k : Nat, B2.total = (k : Int) ∧ Value.int .i64 0 = .int .i64 (k : Int)) := Lib.hid ⟨0, by simpa using HE2.out, rfl⟩
          go_loopw [14] (fun s wr => ∃ (k : Nat) (B : AR), s = .int .i64 k ∧ B.Wf ∧ B.n = 3 ∧ B.total = k ∧ (∀ p, p < B.n → B.cls p = -1 ∨ B.cls p = cl) ∧ Sep w wr [arenaR a B, rowR 26 1 (.slice AA j cap) j (all.map fun r => Value.int .i64 ((r : Nat) : Int))]) (fun s _ => 100 - (intOf s).toNat)
          case atStart => exact ⟨0, B2, rfl, HWF.out, HBN.out, by simpa using HE2.out, fun p hp => .inl (HE1.out p hp), HS.out⟩
          case round =>
            obtain ⟨k2, B3, rfl, hwf3, hBn3, htot, hcl3, hS3⟩ := hrel
            clear HWF HBN HS HE1 HE2 hE
            have htl := hwf3.total_le
            rw [hBn3, htot] at htl
            have HWF := Lib.hid hwf3
            have HBN := Lib.hid hBn3
            have HTOT := Lib.hid htot
            have HCL := Lib.hid hcl3
            have HS := Lib.hid hS3
            clear hwf3 hBn3 htot hcl3 hS3
            cases ht : B3.take cl with
            | none =>
              have hful := HWF.out.full_total (c := cl) (by rw [HC.out]; exact HCN.out) HCL.out ht
              rw [HBN.out, HTOT.out, HC.out] at hful
              have HFUL := Lib.hid hful
              have HT := Lib.hid ht
              clear hful ht
              go_wp2_with (go_at_call 23; refine (TARoom HS.out 0 rfl HWF.out cl).mono ?_; rw [HT.out]; rintro e w4 ⟨rfl, hs⟩; have HS4 := Lib.hid hs; clear hs)
              refine (Cells cl _).mono ?_
              rw [HCZ.out]
              rintro e w' ⟨rfl, rfl⟩
              go_wp2_with fail
              go_ret
              refine ⟨?_, HS4.out.below⟩
              have := HFUL.out
              congr 2
              simp
              omega
            | some x =>
              obtain ⟨r, B4⟩ := x
              obtain ⟨p, q, hti⟩ := HWF.out.take_spec ht
              have htot4 := hti.total
              have htl4 := hti.wf.total_le
              rw [hti.n, HBN.out, htot4, HTOT.out] at htl4
              rw [HTOT.out] at htot4
              have h100 : k2 < 100 := by omega
              have HTOT4 := Lib.hid htot4
              have HTI := Lib.hid hti
              have HT := Lib.hid ht
              clear ht hti htot4
              go_wp2_with (first
                | (go_at_call 23; refine (TARoom HS.out 0 rfl HWF.out cl).mono ?_; rw [HT.out]; rintro e w4 ⟨rfl, hs⟩; have HS4 := Lib.hid hs; clear hs)
                | (go_at_call 22; refine (TATake HS4.out 0 rfl HWF.out cl).mono ?_; rw [takeA_some HT.out, HT.out, takeV_some]; rintro e w5 ⟨rfl, hs⟩; have HS5 := Lib.hid hs; clear hs))
              go_roundw
              case rel =>
                refine ⟨k2 + 1, B4, by go_num, HTI.out.wf, HTI.out.n.trans HBN.out, by rw [HTOT4.out]; simp, ?_, HS5.out⟩
                intro i hi
                rw [HTI.out.n] at hi
                rw [HTI.out.cls]
                by_cases e : i = p
                · subst e; right; simp [updN]
                · simp only [updN, if_neg e]; exact HCL.out i hi
              case measure => simp [intOf]; omega
end Go.Proofs.Ytapbphbnffggnaa
