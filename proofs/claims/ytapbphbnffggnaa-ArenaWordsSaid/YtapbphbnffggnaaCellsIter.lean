/-
  The arena's iterator over a page's taken cells (layer 3). Conditions: the arena is as it always is.
-/
import Derived.Test.YtapbphbnffggnaaArenaIter
namespace Go.Proofs.Ytapbphbnffggnaa
set_option linter.unusedVariables false
set_option linter.unusedSimpArgs false
open Go.RowKit Go.Shelf
attribute [local go_sem] Oper.semAt_some wide_fn round_fn wide_depth round_depth
attribute [local simp] wide_fn round_fn wide_depth round_depth

/-- The first m cells of a page, those that are taken. -/
def AR.cellsUpto (A : AR) (p : Int) (m : Nat) : List Nat := ((List.range m).map fun k => refN p.toNat (A.clsZ p) k).filter A.tk
/-- A page's taken cells, rising. -/
def AR.cellsOf (A : AR) (p : Int) : List Nat := A.cellsUpto p (cN (A.clsZ p))
theorem cellsUpto_succ (A : AR) (p : Int) (m : Nat) : A.cellsUpto p (m + 1) = A.cellsUpto p m ++ (if A.tk (refN p.toNat (A.clsZ p) m) then [refN p.toNat (A.clsZ p) m] else []) := by
  unfold AR.cellsUpto
  rw [List.range_succ, List.map_append, List.filter_append]
  cases h : A.tk (refN p.toNat (A.clsZ p) m) <;> simp [h]
theorem cellsUpto_prefix (A : AR) (p : Int) {k n : Nat} (h : k ≤ n) : A.cellsUpto p k <+: A.cellsUpto p n := by
  induction n with
  | zero => obtain rfl : k = 0 := by omega
            exact List.prefix_refl _
  | succ n ih =>
    by_cases e : k = n + 1
    · subst e; exact List.prefix_refl _
    · exact (ih (by omega)).trans (by rw [cellsUpto_succ]; exact List.prefix_append _ _)
theorem clsZ_pos {A : AR} {p : Int} (h : 0 < cN (A.clsZ p)) : 0 ≤ p ∧ p < (A.n : Int) := by
  unfold AR.clsZ at h
  by_cases h1 : 0 ≤ p ∧ p < (A.n : Int)
  · exact h1
  · rw [if_neg h1] at h
    exact absurd h (by decide)

set_option maxHeartbeats 2000000 in
theorem cells_iter (B B' a : Nat) (p : Int) (A : AR) (hw : A.Wf) :
    Iter Try.prog 53 #[.pointer (some ⟨B, 0, none⟩), .pointer (some ⟨B', 0, none⟩)] (fun i : Nat => #[.int .i64 (i : Int)]) (A.cellsOf p) (fun _ => [blkR B 23 #[.pointer (some ⟨a, 0, none⟩)], blkR B' 3 #[.int .i64 p], arenaR a A]) := by
  intro l w0 Φ Φx W R hY h0 hS
  dsimp only [List.cons_append, List.nil_append] at hY hS
  have HY := Lib.hid hY
  have HS := Lib.hid hS
  have H0 := Lib.hid h0
  have HW := Lib.hid hw
  have hb := (hS.blk 0 rfl).cell 0
  have hc := (hS.blk 1 rfl).cell 0
  simp at hb hc
  clear hY h0 hS hw
  refine calls_wide ?_
  gi_enter Try.func53, Try.ntmps53
  obtain ⟨c, hcc⟩ : ∃ c, A.clsZ p = c := ⟨_, rfl⟩
  obtain ⟨C, hC⟩ : ∃ C, cN c = C := ⟨_, rfl⟩
  have hcz : cellsZ c = (C : Int) := by rw [cells_cN, hC]
  have hC16 : C ≤ 16 := by have := (cells_nonneg c).2; rw [hcz] at this; omega
  have HCC := Lib.hid hcc
  have HC := Lib.hid hC
  have HCZ := Lib.hid hcz
  clear hcc hC hcz
  gi_wp2_with (first | (gi_at_call 26; refine (calls_in (TAClass HS.out 2 rfl p)).mono ?_; rw [HCC.out]; rintro e w' ⟨rfl, rfl⟩) | (gi_at_call 25; refine (calls_in (Cells c _)).mono ?_; rw [HCZ.out]; rintro e w' ⟨rfl, rfl⟩))
  clear hb hc
  have hpos : 0 < C → 0 ≤ p ∧ p < (A.n : Int) := fun h => clsZ_pos (A := A) (by rw [HCC.out, HC.out]; exact h)
  have HPOS := Lib.hid hpos
  clear hpos
  gi_loopw [12] (fun i wr => ∃ (k : Nat) (R' : List Res), k ≤ C ∧ i = .int .i64 k ∧ Φ (A.cellsUpto p k) R' ∧ Sep w0 wr (blkR B 23 #[.pointer (some ⟨a, 0, none⟩)] :: blkR B' 3 #[.int .i64 p] :: arenaR a A :: R')) (fun i _ => C + 1 - (intOf i).toNat)
  case atStart => exact ⟨0, R, by omega, rfl, H0.out, HS.out⟩
  case round =>
    obtain ⟨k, R', hk, rfl, hΦ, hS⟩ := hrel
    clear H0 HS
    by_cases hlt : k < C
    · have hb := (hS.blk 0 rfl).cell 0
      have hc := (hS.blk 1 rfl).cell 0
      simp at hb hc
      have HS := Lib.hid hS
      have HP := Lib.hid hΦ
      have HLT := Lib.hid hlt
      have hIn : (k : Int) < (C : Int) := by omega
      have hp0 := (HPOS.out (by omega)).1
      have hp1 : p ≤ 1000000 := by have := (HPOS.out (by omega)).2; have := HW.out.few; omega
      have hk0 : (0 : Int) ≤ (k : Int) := by omega
      have hkc : (k : Int) < cellsZ c := by rw [HCZ.out]; exact hIn
      have href : refZ p c (k : Int) = ((refN p.toNat c k : Nat) : Int) := by rw [← refZ_refN]; congr 1; omega
      have HREF := Lib.hid href
      have hup : A.cellsUpto p (k + 1) = A.cellsUpto p k ++ (if A.tk (refN p.toNat c k) then [refN p.toNat c k] else []) := by rw [cellsUpto_succ, HCC.out]
      have HUP := Lib.hid hup
      clear hS hΦ href hup
      obtain ⟨B0, hB⟩ : ∃ B0, A.tk (refN p.toNat c k) = B0 := ⟨_, rfl⟩
      obtain ⟨q, hq⟩ : ∃ q, refN p.toNat c k = q := ⟨_, rfl⟩
      rw [hq] at HREF HUP hB
      have HB := Lib.hid hB
      have HKC := Lib.hid hkc
      clear hB hq hkc
      cases B0
      · have hup : A.cellsUpto p (k + 1) = A.cellsUpto p k := by rw [HUP.out, HB.out]; simp
        have HUP2 := Lib.hid hup
        clear hup
        gi_wp2_with (first | (gi_at_call 50; refine (calls_in (ARef p c k hp0 hp1 hk0 HKC.out _)).mono ?_; rw [HREF.out]; rintro e w' ⟨rfl, rfl⟩) | (gi_at_call 36; refine (calls_in (TAHas HS.out 2 rfl _)).mono ?_; rw [HW.out.has, HB.out]; rintro e w1 ⟨rfl, hs⟩; have HS1 := Lib.hid hs; clear hs))
        go_roundw
        case rel => exact ⟨k + 1, R', HLT.out, by go_num, by rw [HUP2.out]; exact HP.out, HS1.out⟩
        case measure => have := HLT.out; simp [intOf]; omega
      · have hup : A.cellsUpto p (k + 1) = A.cellsUpto p k ++ [q] := by rw [HUP.out, HB.out]; simp
        have HUP2 := Lib.hid hup
        have hpre : A.cellsUpto p k ++ [q] <+: A.cellsOf p := by
          rw [← hup]
          unfold AR.cellsOf
          rw [HCC.out, HC.out]
          exact cellsUpto_prefix A p HLT.out
        have HPRE := Lib.hid hpre
        clear hup hpre
        gi_wp2_with (first | (gi_at_call 50; refine (calls_in (ARef p c k hp0 hp1 hk0 HKC.out _)).mono ?_; rw [HREF.out]; rintro e w' ⟨rfl, rfl⟩) | (gi_at_call 36; refine (calls_in (TAHas HS.out 2 rfl _)).mono ?_; rw [HW.out.has, HB.out]; rintro e w1 ⟨rfl, hs⟩; have HS1 := Lib.hid hs; clear hs; obtain ⟨fn, tmps, assign, body, hy, hR⟩ := HY.out (A.cellsUpto p k) q R' [] w1 HPRE.out HP.out (by simpa using HS1.out); have HR := Lib.hid hR; clear hR))
        refine HR.out.mono ?_
        simp only [List.append_nil]
        rintro e w2 (⟨rfl, R2, hΦ2, hS2⟩ | ⟨rfl, R2, hΦ2, hS2⟩)
        · have HS2 := Lib.hid hS2
          have HP2 := Lib.hid hΦ2
          clear hS2 hΦ2
          gi_wp2
          go_roundw
          case rel => exact ⟨k + 1, R2, HLT.out, by go_num, by rw [HUP2.out]; exact HP2.out, HS2.out⟩
          case measure => have := HLT.out; simp [intOf]; omega
        · have HS2 := Lib.hid hS2
          have HP2 := Lib.hid hΦ2
          clear hS2 hΦ2
          gi_wp2
          refine bodyPost_ret (results_none rfl _ _ _) rfl ?_
          exact ⟨⟨_, rfl⟩, .inr ⟨_, R2, HPRE.out, HP2.out, HS2.out⟩⟩
    · obtain rfl : k = C := by omega
      have HS := Lib.hid hS
      have hΦ' : Φ (A.cellsOf p) R' := by unfold AR.cellsOf; rw [HCC.out, HC.out]; exact hΦ
      have HP := Lib.hid hΦ'
      clear hS hΦ hΦ'
      gi_wp2
      go_end0
      exact ⟨⟨_, rfl⟩, .inl ⟨R', HP.out, HS.out⟩⟩
end Go.Proofs.Ytapbphbnffggnaa
