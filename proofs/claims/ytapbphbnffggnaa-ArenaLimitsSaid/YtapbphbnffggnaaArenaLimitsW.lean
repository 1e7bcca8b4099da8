/-
  The walk of ArenaLimits. Conditions: as the theorem says.
-/
import Derived.Test.YtapbphbnffggnaaFillTake
import Derived.Test.YtapbphbnffggnaaBits
namespace Go.Proofs.Ytapbphbnffggnaa
open Go.RowKit

set_option maxRecDepth 100000 in
set_option maxHeartbeats 4000000 in
theorem limits_at (n cls : Int) (m : Nat) (hm : (m : Int) = min (max n 0) 64) (c : Int) (C W : Nat) (hc : ClassIs c C W) (hcv : cls % 256 % 3 = c) (w : World) :
    Calls Try.prog 3 #[.int .i64 n, .int .i64 cls] w fun e w' => e = .returned (.bool true) ∧ Chg [] w w' := by
  have hm64 : m ≤ 64 := by omega
  have HM := Lib.hid hm
  have hval : (if 64 < (if n < 0 then 0 else n) then 64 else if n < 0 then 0 else n) = (m : Int) := by
    rw [hm]
    split <;> split at * <;> omega
  have hand := and_255 cls
  have htm : (cls % 256).tmod 3 = c := by rw [Int.tmod_eq_emod_of_nonneg (by omega)]; exact hcv
  have hw1 : IntKind.i64.wrap (32 * (m : Int)) = 32 * (m : Int) := by rw [IntKind.wrap_i64]; omega
  have hw2 : IntKind.i64.wrap (32 * (m : Int) + 1) = 32 * (m : Int) + 1 := by rw [IntKind.wrap_i64]; omega
  have HV := Lib.hid hval
  clear hm hval
  go_enter Try.func3, Try.ntmps3
  go_wp2_with fail
  refine (fit03 _).mono ?_
  rintro e w0 ⟨rfl, hC0⟩
  go_upto_region 4 with (fail)
  rw [HV.out]
  generalize (if n < 0 then (0 : Int) else n) = X
  go_wp2_with fail
  refine (ANew n m HM.out _).mono ?_
  rintro e w1 ⟨a, F, rfl, h1, hF1, hc1⟩
  rw [← fill_zero hc] at h1
  have H1 := Lib.hid h1
  have HF1 := Lib.hid (show ∀ x ∈ F, w.heap.size ≤ x from fun x hx => Nat.le_trans hC0.size (hF1 x hx))
  have HC1 := Lib.hid (hC0.trans hc1 (by simp))
  clear h1 hF1 hc1 hC0
  have hs1 : (fillA m c C W 0).size = 32 * (m : Int) + 1 := by unfold AR.size fillA; simp; omega
  have hf1 : (fillA m c C W 0).free = (m : Int) := by rw [fill_zero hc]; rfl
  go_wp2_with (first | (go_at_call 19; refine (APages H1.out).mono ?_; rintro e w' ⟨rfl, rfl⟩; rw [show (fillA m c C W 0).n = m from rfl]) | (go_at_call 20; refine (AFree H1.out).mono ?_; rintro e w' ⟨rfl, rfl⟩; rw [hf1]) | (go_at_call 21; refine (ASize H1.out).mono ?_; rintro e w' ⟨rfl, rfl⟩; rw [hs1]))
  clear hs1 hf1 hand htm
  go_loopw [8] (fun i wr => ∃ (k : Nat) (F : List Nat), k ≤ m * C ∧ i = .int .i64 k ∧ ArenaAt wr a (fillA m c C W k) F ∧ (∀ x ∈ F, w.heap.size ≤ x) ∧ Chg [] w wr) (fun i _ => m * C + 1 - (intOf i).toNat)
  case atStart => exact ⟨0, F, by omega, rfl, H1.out, HF1.out, HC1.out⟩
  case round =>
    obtain ⟨k, F2, hk, rfl, h2, hF2, hC2⟩ := hrel
    clear H1 HF1 HC1
    have hmc : m * C ≤ 1024 := by
      have : m * C ≤ 64 * 16 := Nat.mul_le_mul hm64 (by rcases hc.which with ⟨_, rfl, _⟩ | ⟨_, rfl, _⟩ | ⟨_, rfl, _⟩ <;> omega)
      omega
    have H2 := Lib.hid h2
    have HF2 := Lib.hid hF2
    have HC2 := Lib.hid hC2
    clear h2 hF2 hC2
    by_cases hlt : k < m * C
    · have HLT := Lib.hid hlt
      have hsz : ∀ j, (fillA m c C W j).size = 32 * (m : Int) + 1 := fun j => by unfold AR.size fillA; simp; omega
      have hle : ¬ 32 * (m : Int) + 1 ≤ ((k * W + 1 : Nat) : Int) := by
        rcases hc.which with ⟨_, rfl, rfl⟩ | ⟨_, rfl, rfl⟩ | ⟨_, rfl, rfl⟩ <;> omega
      obtain ⟨R, hR⟩ : ∃ R : Nat, k * W + 1 = R := ⟨_, rfl⟩
      rw [hR] at hle
      have HR := Lib.hid hR
      clear hR
      have hk1 : ¬ (2048 : Int) < (k : Int) + 1 := by omega
      have hkw : IntKind.i64.wrap ((k : Int) + 1) = (k : Int) + 1 := by rw [IntKind.wrap_i64]; omega
      clear hlt
      go_wp2_with (first | (go_at_call 22; refine (AFillTake H2.out hc hm64 HLT.out).mono ?_; rw [HR.out]; rintro e w3 ⟨F3, rfl, h3, hg3, hc3⟩; have H3 := Lib.hid h3; have HF3 := Lib.hid (grew_new HC2.out.size hg3 HF2.out); have HC3 := Lib.hid (sub_new HC2.out hc3 HF2.out); clear h3 hg3 hc3) | (go_at_call 21; refine (ASize H3.out).mono ?_; rw [hsz]; rintro e w' ⟨rfl, rfl⟩))
      go_roundw
      case rel => exact ⟨k + 1, F3, HLT.out, by go_num, H3.out, HF3.out, HC3.out⟩
      case measure => have := HLT.out; simp [intOf]; omega
    · obtain rfl : k = m * C := by omega
      have hroom := fill_room (m := m) (k := m * C) hc rfl
      go_wp2_with fail
      refine (ATakeNo H2.out c hroom).mono ?_
      rintro e w3 ⟨F3, rfl, h3, hg3, hc3⟩
      have H3 := Lib.hid h3
      have HF3 := Lib.hid (grew_new HC2.out.size hg3 HF2.out)
      have HC3 := Lib.hid (sub_new HC2.out hc3 HF2.out)
      clear h3 hg3 hc3 H2 HF2 HC2
      go_wp2_with fail
      refine (ATakeNo H3.out 3 (.none rfl)).mono ?_
      rintro e w4 ⟨F4, rfl, h4, hg4, hc4⟩
      have H4 := Lib.hid h4
      have HF4 := Lib.hid (grew_new HC3.out.size hg4 HF3.out)
      have HC4 := Lib.hid (sub_new HC3.out hc4 HF3.out)
      clear h4 hg4 hc4 H3 HF3 HC3
      have hf4 : (fillA m c C W (m * C)).free = 0 := by
        show ((m : Int) - (((m * C + C - 1) / C : Nat) : Int)) = 0
        rcases hc.which with ⟨_, rfl, _⟩ | ⟨_, rfl, _⟩ | ⟨_, rfl, _⟩ <;> omega
      have hsh : IntKind.i64.wrap ((m : Int) * (C : Int)) = ((m * C : Nat) : Int) := by rw [IntKind.wrap_i64]; simp; omega
      have HROOM := Lib.hid hroom
      clear hroom
      rcases hc.which with ⟨rfl, rfl, rfl⟩ | ⟨rfl, rfl, rfl⟩ | ⟨rfl, rfl, rfl⟩
      all_goals
        have hmul : IntKind.i64.wrap ((m : Int) * 16) = (m : Int) * 16 := by rw [IntKind.wrap_i64]; omega
        have hmul8 : IntKind.i64.wrap ((m : Int) * 8) = (m : Int) * 8 := by rw [IntKind.wrap_i64]; omega
        have hmul4 : IntKind.i64.wrap ((m : Int) * 4) = (m : Int) * 4 := by rw [IntKind.wrap_i64]; omega
        go_wp2_with fail
        refine (AFree H4.out).mono ?_
        rintro e w' ⟨rfl, rfl⟩
        rw [hf4]
        go_wp2_with fail
        refine (ARoom H4.out _ false HROOM.out).mono ?_
        rintro e w5 ⟨F5, rfl, h5, hg5, hc5⟩
        have H5 := Lib.hid h5
        have HF5 := Lib.hid (grew_new HC4.out.size hg5 HF4.out)
        have HC5 := Lib.hid (sub_new HC4.out hc5 HF4.out)
        clear h5 hg5 hc5
        go_wp2_with fail
        refine (ARoom H5.out (-1) false (.none rfl)).mono ?_
        rintro e w6 ⟨F6, rfl, h6, hg6, hc6⟩
        have HC6 := Lib.hid (sub_new HC5.out hc6 HF5.out)
        clear h6 hg6 hc6
        go_wp2_with fail
        go_ret
        exact ⟨by first | rfl | simp, HC6.out⟩

theorem arenaLimits_walk (n cls : Int) (w : World) (_wn : (Lit.int .i64 n).wf = true) (_wc : (Lit.int .i64 cls).wf = true) :
    Calls Try.prog 3 #[.int .i64 n, .int .i64 cls] w fun e w' => e = .returned (.bool true) ∧ Below w.heap.size w w' := by
  obtain ⟨C, W, hc⟩ := class_is (cls % 256 % 3) (by omega) (by omega)
  refine (limits_at n cls (min (max n 0) 64).toNat (by omega) _ C W hc rfl w).mono ?_
  rintro e w' ⟨rfl, hch⟩
  exact ⟨rfl, ((Own.start w).same hch).below⟩
end Go.Proofs.Ytapbphbnffggnaa
