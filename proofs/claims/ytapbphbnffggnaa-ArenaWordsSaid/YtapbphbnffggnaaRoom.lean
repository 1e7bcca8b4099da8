/-
  The arena: is there room (layer 3). Conditions: as each theorem says.
-/
import Derived.Test.YtapbphbnffggnaaGap
namespace Go.Proofs.Ytapbphbnffggnaa
set_option linter.unusedVariables false
set_option linter.unusedSimpArgs false
open Go.RowKit

def AR.allFull (A : AR) (c : Int) : Prop := ∀ q, q < A.n → A.full c q
theorem gap_or_full (A : AR) (c : Int) : (∃ p k, IsGap A c p k) ∨ A.allFull c := by
  by_cases hg : ∃ p k, IsGap A c p k
  · exact .inl hg
  · refine .inr ?_
    intro q
    induction q using Nat.strongRecOn with
    | ind q ih =>
      intro hq
      by_cases h1 : A.cls q = c
      · by_cases h2 : A.cnt q = cellsZ c
        · exact .inr (.inl ⟨h1, h2⟩)
        · refine .inr (.inr ⟨h1, h2, ?_⟩)
          have key : ∀ m : Nat, (m : Int) < cellsZ c → A.has (refZ q c m) = true := by
            intro m
            induction m using Nat.strongRecOn with
            | ind m ihm =>
              intro hm
              cases hB : A.has (refZ q c m)
              · refine absurd ⟨q, (m : Int), ?_⟩ hg
                refine ⟨hq, h1, h2, by omega, hm, hB, ?_, fun p hp => ih p hp (by omega)⟩
                intro j hj0 hj1
                obtain ⟨i, rfl⟩ := Int.eq_ofNat_of_zero_le hj0
                exact ihm i (by omega) (by omega)
              · rfl
          intro k hk0 hk1
          obtain ⟨i, rfl⟩ := Int.eq_ofNat_of_zero_le hk0
          exact key i hk1
      · exact .inl h1

/-- Has the class room? -/
inductive RoomIs (A : AR) (c : Int) : Bool → Prop
  | none (h : cellsZ c = 0) : RoomIs A c false
  | gap (h : cellsZ c ≠ 0) (p : Nat) (k : Int) (hg : IsGap A c p k) : RoomIs A c true
  | page (h : cellsZ c ≠ 0) (hg : A.allFull c) (hf : 0 < A.free) : RoomIs A c true
  | full (h : cellsZ c ≠ 0) (hg : A.allFull c) (hf : A.free ≤ 0) : RoomIs A c false

theorem room_cases (A : AR) (c : Int) : ∃ b, RoomIs A c b := by
  by_cases h : cellsZ c = 0
  · exact ⟨_, .none h⟩
  · rcases gap_or_full A c with ⟨p, k, hg⟩ | hg
    · exact ⟨_, .gap h p k hg⟩
    · rcases Int.lt_or_le 0 A.free with hf | hf
      · exact ⟨_, .page h hg hf⟩
      · exact ⟨_, .full h hg hf⟩

section
variable {w : World} {a : Nat} {A : AR} {F : List Nat}

theorem ArenaAt.free_ (h : ArenaAt w a A F) : w.cell? ⟨a, 3, none⟩ = some (.int .i64 A.free) := by
  obtain ⟨pb, wb, sb, lo, rfl, hp⟩ := h
  have c0 := hp.top.cell 3
  simpa [arenaCells] using c0

theorem ARoom (h : ArenaAt w a A F) (c : Int) (b : Bool) (hr : RoomIs A c b) : Calls Try.prog 23 #[.pointer (some ⟨a, 0, none⟩), .int .i64 c] w fun e w' => ∃ F', e = .returned (.bool b) ∧ ArenaAt w' a A F' ∧ GrewF w F F' ∧ Chg F w w' := by
  have H := Lib.hid h
  clear h
  cases hr with
  | none h0 =>
    have H0 := Lib.hid h0
    clear h0
    go_enter Try.func23, Try.ntmps23
    go_wp2_with (go_at_call 25; refine (Cells _ _).mono ?_; rw [H0.out]; rintro e w' ⟨rfl, rfl⟩)
    go_ret
    exact ⟨F, rfl, H.out, GrewF.refl _ _, Chg.refl _ _⟩
  | gap h0 p k hg =>
    have hne : (cellsZ c == 0) = false := by simpa using h0
    have HG := Lib.hid hg
    clear hg h0
    go_enter Try.func23, Try.ntmps23
    go_wp2_with (first | (go_at_call 25; refine (Cells _ _).mono ?_; rintro e w' ⟨rfl, rfl⟩) | (go_at_call 49; refine (AGapYes H.out c p k HG.out).mono ?_; rintro e w1 ⟨F1, rfl, h1, g1, c1⟩; have H1 := Lib.hid h1; have G1 := Lib.hid g1; have C1 := Lib.hid c1; clear h1 g1 c1))
    go_ret
    exact ⟨F1, rfl, H1.out, G1.out, C1.out⟩
  | page h0 hg hf =>
    have hne : (cellsZ c == 0) = false := by simpa using h0
    have HG := Lib.hid hg
    clear hg h0
    go_enter Try.func23, Try.ntmps23
    go_wp2_with (first | (go_at_call 25; refine (Cells _ _).mono ?_; rintro e w' ⟨rfl, rfl⟩) | (go_at_call 49; refine (AGapNo H.out c HG.out).mono ?_; rintro e w1 ⟨F1, rfl, h1, g1, c1⟩; have hc := h1.free_; have H1 := Lib.hid h1; have G1 := Lib.hid g1; have C1 := Lib.hid c1; clear h1 g1 c1))
    go_ret
    exact ⟨F1, by simp, H1.out, G1.out, C1.out⟩
  | full h0 hg hf =>
    have hne : (cellsZ c == 0) = false := by simpa using h0
    have HG := Lib.hid hg
    clear hg h0
    have hnf : ¬ 0 < A.free := by omega
    go_enter Try.func23, Try.ntmps23
    go_wp2_with (first | (go_at_call 25; refine (Cells _ _).mono ?_; rintro e w' ⟨rfl, rfl⟩) | (go_at_call 49; refine (AGapNo H.out c HG.out).mono ?_; rintro e w1 ⟨F1, rfl, h1, g1, c1⟩; have hc := h1.free_; have H1 := Lib.hid h1; have G1 := Lib.hid g1; have C1 := Lib.hid c1; clear h1 g1 c1))
    go_ret
    exact ⟨F1, by simp; exact hf, H1.out, G1.out, C1.out⟩
end
end Go.Proofs.Ytapbphbnffggnaa
