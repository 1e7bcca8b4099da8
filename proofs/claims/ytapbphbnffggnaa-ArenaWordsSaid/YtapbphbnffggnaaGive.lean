/-
  The arena: a cell is given back (layer 3). Conditions: as each theorem says.
-/
import Derived.Test.YtapbphbnffggnaaTakeP
import Derived.Deep.QuietTactic
namespace Go.Proofs.Ytapbphbnffggnaa
set_option linter.unusedVariables false
set_option linter.unusedSimpArgs false
open Go.RowKit

/-- The cell r is given back: its page has one less; a page without is free. -/
def AR.drop (A : AR) (r : Nat) : AR :=
  { n := A.n
    cls := if A.cnt ((r - 1) / 32) = 1 then updN A.cls ((r - 1) / 32) (-1) else A.cls
    cnt := updN A.cnt ((r - 1) / 32) (A.cnt ((r - 1) / 32) - 1)
    wd := A.wd
    tk := fun j => A.tk j && !decide (j = r)
    free := if A.cnt ((r - 1) / 32) = 1 then A.free + 1 else A.free
    ids := A.ids }

section
variable {w : World} {a : Nat} {A : AR} {F : List Nat}

theorem ArenaAt.size_ (h : ArenaAt w a A F) : A.size ≤ 100000 := by
  obtain ⟨_, _, _, _, _, hp⟩ := h
  have := hp.few
  unfold AR.size
  omega

theorem AGiveNo (h : ArenaAt w a A F) (r : Int) (hr : A.has r = false) : Calls Try.prog 24 #[.pointer (some ⟨a, 0, none⟩), .int .i64 r] w fun e w' => ∃ F', e = .returned (.bool false) ∧ ArenaAt w' a A F' ∧ GrewF w F F' ∧ Chg F w w' := by
  have hsz := h.size_
  obtain ⟨pb, wb, sb, lo, rfl, hp⟩ := h
  have HP := Lib.hid hp
  have c2 := hp.top.cell 2
  simp [arenaCells] at c2
  clear hp
  go_enter Try.func24, Try.ntmps24
  go_wp2_with fail
  by_cases hin : 0 ≤ r ∧ r < A.size
  · obtain ⟨I, rfl⟩ := Int.eq_ofNat_of_zero_le hin.1
    have hS : A.tk I = false := by
      unfold AR.has at hr
      simpa [hin.2] using hr
    have hE : (fun j => A.tk j && !decide (j = I)) = A.tk := by
      funext j
      by_cases h : j = I
      · subst h; simp [hS]
      · simp [h]
    refine (SDropIn HP.out.set_ hsz I hin.2).mono ?_
    rw [hS, hE]
    rintro e w' ⟨lo', rfl, hs, hg, hc⟩
    have HF : Hid (AParts w' a A pb wb sb lo') := Lib.hid (HP.out.set hs hg hc)
    have HG := Lib.hid hg
    have HC := Lib.hid hc
    clear hs hg hc hin
    go_wp2_with fail
    go_ret
    exact ⟨_, rfl, ⟨pb, wb, sb, lo', rfl, HF.out⟩, grew_arena HG.out, HC.out.mono (by intro x hx; simp [hx])⟩
  · refine (SDropOut HP.out.set_ r (by omega)).mono ?_
    rintro e w' ⟨rfl, rfl⟩
    clear hin
    go_wp2_with fail
    go_ret
    exact ⟨_, rfl, ⟨pb, wb, sb, lo, rfl, HP.out⟩, GrewF.refl _ _, Chg.refl _ _⟩

set_option maxHeartbeats 2000000 in
theorem AGive (h : ArenaAt w a A F) (R : Nat) (hR0 : 1 ≤ R) (hR1 : (R : Int) < A.size) (hr : A.tk R = true) (hc1 : 1 ≤ A.cnt ((R - 1) / 32)) (hc2 : A.cnt ((R - 1) / 32) ≤ 16) (hf0 : 0 ≤ A.free) (hf1 : A.free ≤ 64) : Calls Try.prog 24 #[.pointer (some ⟨a, 0, none⟩), .int .i64 (R : Int)] w fun e w' => ∃ F', e = .returned (.bool true) ∧ ArenaAt w' a (A.drop R) F' ∧ GrewF w F F' ∧ Chg F w w' := by
  have hsz := h.size_
  obtain ⟨pb, wb, sb, lo, rfl, hp⟩ := h
  have HP := Lib.hid hp
  have c2 := hp.top.cell 2
  simp [arenaCells] at c2
  clear hp
  go_enter Try.func24, Try.ntmps24
  go_wp2_with fail
  refine (SDropIn HP.out.set_ hsz R hR1).mono ?_
  rw [hr]
  rintro e w3 ⟨lo3, rfl, hs3, hg3, hc3⟩
  have hp3 := HP.out.set hs3 hg3 hc3
  have HG3 := Lib.hid (grew_arena (a := a) (pb := pb) (wb := wb) hg3)
  have HC3 := Lib.hid (hc3.mono (F' := a :: pb :: wb :: setF sb lo) (by intro x hx; simp [hx]))
  obtain ⟨p, hpp⟩ : ∃ p, (R - 1) / 32 = p := ⟨_, rfl⟩
  have hpn : p < A.n := by unfold AR.size at hR1; omega
  rw [hpp] at hc1 hc2
  have d0 := hp3.top.cell 0
  simp [arenaCells, rowAt] at d0
  have hpage : ({ A with tk := fun j => A.tk j && !decide (j = R) } : AR).page (R : Int) = (p : Int) := by
    unfold AR.page
    rw [if_pos ⟨by omega, hR1⟩]
    omega
  have hq : ∀ k, ArenaAt (w3.drewN k) a { A with tk := fun j => A.tk j && !decide (j = R) } (a :: pb :: wb :: setF sb lo3) := fun k => ⟨pb, wb, sb, lo3, rfl, hp3.keep ((Chg.refl [] _).drewN k) (by simp)⟩
  have HQ := Lib.hid hq
  have HPP := Lib.hid hpp
  have HPG := Lib.hid hpage
  have HP3 := Lib.hid hp3
  have hp0 : (0 : Int) ≤ (p : Int) := by omega
  have hr63 : (R : Int) ≤ 9223372036854775807 := by omega
  clear hs3 hg3 hc3 hp3 hq hpp hpage c2
  go_wp2_with fail
  go_quiet ((go_at_call 27; refine (APage (HQ.out _) (R : Int) hr63).mono ?_; rw [HPG.out]; rintro e w' ⟨rfl, rfl⟩; exact ⟨rfl, _, rfl⟩))
  have hp4 := HP3.out.keep ((Chg.refl [] w3).drewN nq) (by simp)
  have HG4 : Hid (GrewF w (a :: pb :: wb :: setF sb lo) (a :: pb :: wb :: setF sb lo3)) := HG3
  have HC4 := Lib.hid (HC3.out.drewN nq)
  generalize w3.drewN nq = w4 at *
  obtain ⟨p0, p1⟩ := hp4.page hpn
  simp only at p0 p1
  have f0 := hp4.pages.frozen (p * 2)
  have f1 := hp4.pages.frozen (p * 2 + 1)
  have k3 := hp4.top.cell 3
  have z3 := hp4.top.frozen 3
  simp [arenaCells] at k3
  have HAP := Lib.hid hp4.ap
  have hne : ¬ pb = a := fun h => HAP.out h.symm
  have HP4 := Lib.hid hp4
  clear hp4 HQ d0
  by_cases hone : A.cnt p = 1
  · rw [hone] at p1
    have hwf : IntKind.i64.wrap (A.free + 1) = A.free + 1 := by rw [IntKind.wrap_i64]; omega
    have HONE := Lib.hid hone
    clear hone hc1 hc2
    go_wp2_with fail
    go_ret
    have e : A.drop R = { A with cls := updN A.cls p (-1), cnt := updN A.cnt p 0, tk := fun j => A.tk j && !decide (j = R), free := A.free + 1 } := by
      unfold AR.drop
      rw [HPP.out, HONE.out]
      simp
    rw [e]
    exact ⟨_, rfl, ⟨pb, wb, sb, lo3, rfl, ((HP4.out.setCnt p 0).setCls p (-1)).setFree (A.free + 1)⟩, HG4.out, ((HC4.out.setCell (.inl (by simp)) _).setCell (.inl (by simp)) _).setCell (.inl (by simp)) _⟩
  · have hwf : IntKind.i64.wrap (A.cnt p - 1) = A.cnt p - 1 := by rw [IntKind.wrap_i64]; omega
    have hnz : (A.cnt p - 1 == 0) = false := by simp; omega
    have HONE := Lib.hid hone
    clear hone
    go_wp2_with fail
    go_ret
    have e : A.drop R = { A with cnt := updN A.cnt p (A.cnt p - 1), tk := fun j => A.tk j && !decide (j = R) } := by
      unfold AR.drop
      rw [HPP.out, if_neg HONE.out, if_neg HONE.out]
    rw [e]
    exact ⟨_, rfl, ⟨pb, wb, sb, lo3, rfl, HP4.out.setCnt p (A.cnt p - 1)⟩, HG4.out, HC4.out.setCell (.inl (by simp)) _⟩
end
end Go.Proofs.Ytapbphbnffggnaa
