/-
  Takes of one class alone, and the fit of layer 3. Conditions: at most 64 pages.
-/
import Derived.Test.YtapbphbnffggnaaFill
namespace Go.Proofs.Ytapbphbnffggnaa
open Go.RowKit

section
variable {w : World} {a : Nat} {F : List Nat} {m : Nat} {c : Int} {C W k : Nat}

theorem fill_ref (h : ClassIs c C W) : refZ ((k / C : Nat) : Int) c ((k % C : Nat) : Int) = ((k * W + 1 : Nat) : Int) := by
  unfold refZ
  rw [h.words]
  rcases h.which with ⟨_, rfl, rfl⟩ | ⟨_, rfl, rfl⟩ | ⟨_, rfl, rfl⟩ <;> omega

theorem AFillTake (h : ArenaAt w a (fillA m c C W k) F) (hc : ClassIs c C W) (hm : m ≤ 64) (hk : k < m * C) : Calls Try.prog 22 #[.pointer (some ⟨a, 0, none⟩), .int .i64 c] w fun e w' => ∃ F', e = .returned (.tuple #[.int .i64 ((k * W + 1 : Nat) : Int), .bool true]) ∧ ArenaAt w' a (fillA m c C W (k + 1)) F' ∧ GrewF w F F' ∧ Chg F w w' := by
  have hr := fill_ref (k := k) hc
  by_cases h0 : k % C = 0
  · obtain ⟨h1, h2, h3, h4⟩ := fill_new hc hm hk h0
    rw [h0] at hr
    have hp := fill_put hc hk true (by simp [h0])
    refine (ATakeNew h c (k / C) (by rw [hc.cells]; rcases hc.which with ⟨_, rfl, _⟩ | ⟨_, rfl, _⟩ | ⟨_, rfl, _⟩ <;> omega) h1 h3 h4 h2).mono ?_
    rintro e w' ⟨F', rfl, ha, hg, hch⟩
    have hr' : refZ ((k / C : Nat) : Int) c 0 = ((k * W + 1 : Nat) : Int) := hr
    rw [hr', Int.toNat_natCast, hp] at ha
    rw [hr']
    exact ⟨F', rfl, ha, hg, hch⟩
  · have hg := fill_gap hc hk h0
    have hp := fill_put hc hk false (by simp [h0])
    have hcnt : 0 ≤ (fillA m c C W k).cnt (k / C) ∧ (fillA m c C W k).cnt (k / C) ≤ 16 := by
      show 0 ≤ ((min C (k - k / C * C) : Nat) : Int) ∧ ((min C (k - k / C * C) : Nat) : Int) ≤ 16
      rcases hc.which with ⟨_, rfl, _⟩ | ⟨_, rfl, _⟩ | ⟨_, rfl, _⟩ <;> omega
    refine (ATakeGap h c (k / C) _ hg hcnt.1 hcnt.2).mono ?_
    rintro e w' ⟨F', rfl, ha, hg, hch⟩
    rw [hr, Int.toNat_natCast, hp] at ha
    rw [hr]
    exact ⟨F', rfl, ha, hg, hch⟩

theorem fill_room (hc : ClassIs c C W) (hk : k = m * C) : RoomIs (fillA m c C W k) c false := by
  refine .full ?_ ?_ ?_
  · rw [hc.cells]; rcases hc.which with ⟨_, rfl, _⟩ | ⟨_, rfl, _⟩ | ⟨_, rfl, _⟩ <;> omega
  · intro q hq
    refine fill_full_page hc q ?_
    rw [hk]
    exact Nat.mul_le_mul_right _ hq
  · show ((m : Int) - (((k + C - 1) / C : Nat) : Int)) ≤ 0
    rcases hc.which with ⟨_, rfl, _⟩ | ⟨_, rfl, _⟩ | ⟨_, rfl, _⟩ <;> omega

theorem sub_new {w w1 w2 : World} {F : List Nat} (h : Chg [] w w1) (k : Chg F w1 w2) (hF : ∀ x ∈ F, w.heap.size ≤ x) : Chg [] w w2 := h.trans k (fun x hx => .inr (hF x hx))
theorem grew_new {w w1 : World} {F F' : List Nat} (hs : w.heap.size ≤ w1.heap.size) (g : GrewF w1 F F') (hF : ∀ x ∈ F, w.heap.size ≤ x) : ∀ x ∈ F', w.heap.size ≤ x := fun x hx => by
  rcases g x hx with h | h
  · exact hF x h
  · omega

theorem class2 : ClassIs 2 4 8 := ⟨rfl, rfl, .inr (.inr ⟨rfl, rfl, rfl⟩)⟩

set_option maxHeartbeats 1000000 in
theorem fit03 (w : World) : Calls Try.prog 17 #[] w fun e w' => e = .returned (.bool true) ∧ Chg [] w w' := by
  go_enter Try.func17, Try.ntmps17
  go_wp2_with fail
  refine (ANew 2 2 (by decide) _).mono ?_
  rintro e w1 ⟨a, F, rfl, h1, hF1, hc1⟩
  rw [← fill_zero class2] at h1
  have H1 := Lib.hid h1
  have HF1 := Lib.hid hF1
  have HC1 := Lib.hid hc1
  clear h1 hF1 hc1
  go_wp2_with fail
  refine (AFillTake H1.out class2 (by omega) (by omega)).mono ?_
  rintro e w2 ⟨F2, rfl, h2, hg2, hc2⟩
  have H2 := Lib.hid h2
  have HF2 := Lib.hid (grew_new HC1.out.size hg2 HF1.out)
  have HC2 := Lib.hid (sub_new HC1.out hc2 HF1.out)
  clear h2 hg2 hc2 H1 HF1 HC1
  go_wp2_with fail
  refine (AFillTake H2.out class2 (by omega) (by omega)).mono ?_
  rintro e w3 ⟨F3, rfl, h3, hg3, hc3⟩
  have H3 := Lib.hid h3
  have HF3 := Lib.hid (grew_new HC2.out.size hg3 HF2.out)
  have HC3 := Lib.hid (sub_new HC2.out hc3 HF2.out)
  clear h3 hg3 hc3 H2 HF2 HC2
  have hfree : (fillA 2 2 4 8 2).free = 1 := by decide
  have hh9 : (fillA 2 2 4 8 2).has 9 = true := by decide
  have hh2 : (fillA 2 2 4 8 2).has 2 = false := by decide
  go_wp2_with fail
  refine (AFree H3.out).mono ?_
  rintro e w' ⟨rfl, rfl⟩
  rw [hfree]
  go_wp2_with fail
  refine (AHas H3.out 9).mono ?_
  rintro e w4 ⟨F4, rfl, h4, hg4, hc4⟩
  have H4 := Lib.hid h4
  have HF4 := Lib.hid (grew_new HC3.out.size hg4 HF3.out)
  have HC4 := Lib.hid (sub_new HC3.out hc4 HF3.out)
  clear h4 hg4 hc4 H3 HF3 HC3
  rw [hh9]
  go_wp2_with fail
  refine (AHas H4.out 2).mono ?_
  rintro e w5 ⟨F5, rfl, h5, hg5, hc5⟩
  have HC5 := Lib.hid (sub_new HC4.out hc5 HF4.out)
  clear h5 hg5 hc5 H4 HF4 HC4
  rw [hh2]
  go_wp2_with fail
  go_ret
  exact ⟨rfl, HC5.out⟩
end
end Go.Proofs.Ytapbphbnffggnaa
