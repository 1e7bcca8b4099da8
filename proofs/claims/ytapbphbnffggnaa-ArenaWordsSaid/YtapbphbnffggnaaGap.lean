/-
  The arena's search for a free cell (layer 3). Conditions: as each theorem says.
-/
import Derived.Test.YtapbphbnffggnaaArenaGets
import Derived.BigQuiet
import Derived.WalkMore
import Derived.Deep.QuietTactic
namespace Go.Proofs.Ytapbphbnffggnaa
set_option linter.unusedVariables false
set_option linter.unusedSimpArgs false
open Go.RowKit

/-- The page has no free cell of the class. -/
def AR.full (A : AR) (c : Int) (p : Nat) : Prop := A.cls p ≠ c ∨ A.cls p = c ∧ A.cnt p = cellsZ c ∨ A.cls p = c ∧ A.cnt p ≠ cellsZ c ∧ ∀ k : Int, 0 ≤ k → k < cellsZ c → A.has (refZ p c k) = true
/-- The least free cell of a page of the class. -/
structure IsGap (A : AR) (c : Int) (p : Nat) (k : Int) : Prop where
  inside : p < A.n
  cls : A.cls p = c
  cnt : A.cnt p ≠ cellsZ c
  k0 : 0 ≤ k
  k1 : k < cellsZ c
  free : A.has (refZ p c k) = false
  below : ∀ j : Int, 0 ≤ j → j < k → A.has (refZ p c j) = true
  ahead : ∀ q, q < p → A.full c q

section
variable {w : World} {a : Nat} {A : AR} {F : List Nat}

theorem ArenaAt.alloc {o : Obj} (h : ArenaAt w a A F) : ArenaAt (w.alloc o) a A F := h.keep ((Chg.refl [] w).alloc o) (by simp)

/-- What a page's two cells hold. -/
theorem AParts.page {pb wb sb : Nat} {lo : Option Nat} (h : AParts w a A pb wb sb lo) {p : Nat} (hp : p < A.n) : w.cell? ⟨pb, p * 2, none⟩ = some (.int .i64 (A.cls p)) ∧ w.cell? ⟨pb, p * 2 + 1, none⟩ = some (.int .i64 (A.cnt p)) :=
  ⟨by rw [h.pages.cell, pageCells_cls _ _ _ _ hp], by rw [h.pages.cell, pageCells_cnt _ _ _ _ hp]⟩

set_option maxHeartbeats 4000000 in
theorem AGapYes (h : ArenaAt w a A F) (c : Int) (p : Nat) (k : Int) (hg : IsGap A c p k) : Calls Try.prog 49 #[.pointer (some ⟨a, 0, none⟩), .int .i64 c] w fun e w' => ∃ F', e = .returned (.tuple #[.int .i64 (p : Int), .int .i64 k, .bool true]) ∧ ArenaAt w' a A F' ∧ GrewF w F F' ∧ Chg F w w' := by
  obtain ⟨pb, wb, sb, lo, rfl, hp⟩ := h
  have HG := Lib.hid hg
  have HP := Lib.hid hp
  have hn : p < A.n := hg.inside
  have hfew : A.n ≤ 64 := hp.few
  have c0 := hp.top.cell 0
  simp [arenaCells, rowAt] at c0
  clear hg hp
  go_enter Try.func49, Try.ntmps49
  go_wp2_with fail
  go_step3
  go_wp2
  go_step3
  go_wp2
  clear c0
  go_loopw [15] (fun i wr => ∃ (q : Nat) (lo' : Option Nat), q ≤ p ∧ i = .int .i64 q ∧ AParts wr a A pb wb sb lo' ∧ GrewF w (a :: pb :: wb :: setF sb lo) (a :: pb :: wb :: setF sb lo') ∧ Chg (a :: pb :: wb :: setF sb lo) w wr) (fun i _ => p + 1 - (intOf i).toNat)
  case atStart => exact ⟨0, lo, by omega, rfl, HP.out, GrewF.refl _ _, Chg.refl _ _⟩
  case round =>
    obtain ⟨q, lo', hq, rfl, hp, hgr, hch⟩ := hrel
    clear HP
    have hqn : q < A.n := by omega
    obtain ⟨p0, p1⟩ := hp.page hqn
    have HP := Lib.hid (hp.keep ((Chg.refl [] wr).alloc (.cells #[.int .i64 (A.cls q), .int .i64 (A.cnt q)] 90)) (by simp))
    have HGR := Lib.hid hgr
    have HCH := Lib.hid (hch.alloc (.cells #[.int .i64 (A.cls q), .int .i64 (A.cnt q)] 90))
    clear hp hgr hch
    have hb0 : (0 : Int) ≤ (q : Int) := by omega
    by_cases hc1 : A.cls q = c
    · by_cases hc2 : A.cnt q = cellsZ c
      · have hqp : q < p := by
          rcases Nat.lt_or_ge q p with h | h
          · exact h
          · obtain rfl : q = p := by omega
            exact absurd hc2 HG.out.cnt
        have HQP := Lib.hid hqp
        clear hqp
        rw [hc1] at p0 HP HCH
        rw [hc2] at p1 HP HCH
        go_wp2_with fail
        go_quiet ((go_at_call 25; refine (Cells _ _).mono ?_; rintro e w' ⟨rfl, rfl⟩; exact ⟨rfl, _, rfl⟩))
        go_wp2_with fail
        go_roundw
        case rel => exact ⟨q + 1, lo', HQP.out, by go_num, HP.out.keep ((Chg.refl [] _).drewN _) (by simp), HGR.out, HCH.out.drewN _⟩
        case measure => have := HQP.out; simp [intOf]; omega
      · rw [hc1] at p0 HP HCH
        have hb : (A.cnt q == cellsZ c) = false := by simpa using hc2
        have HALL : Hid (∀ j : Int, 0 ≤ j → j < cellsZ c → (q < p ∨ j < k) → A.has (refZ q c j) = true) := Lib.hid (by
          intro j h0 h1 h2
          rcases Nat.lt_or_ge q p with h | h
          · rcases HG.out.ahead q h with h3 | ⟨_, h3⟩ | ⟨_, _, h3⟩
            · exact absurd hc1 h3
            · exact absurd h3 hc2
            · exact h3 j h0 h1
          · obtain rfl : q = p := by omega
            exact HG.out.below j h0 (by omega))
        have hcn := cells_nonneg c
        have HC1 := Lib.hid hc1
        have HC2 := Lib.hid hc2
        clear hc1 hc2
        go_wp2_with fail
        go_quiet ((go_at_call 25; refine (Cells _ _).mono ?_; rintro e w' ⟨rfl, rfl⟩; exact ⟨rfl, _, rfl⟩))
        go_wp2_with (go_at_call 25; refine (Cells _ _).mono ?_; rintro e w' ⟨rfl, rfl⟩)
        have HP0 := Lib.hid (HP.out.keep ((Chg.refl [] _).drewN nq) (by simp))
        have HCH0 := Lib.hid (HCH.out.drewN nq)
        clear HP HCH hb p0 p1
        go_loopw [33] (fun i wx => ∃ (j : Int) (lo'' : Option Nat), 0 ≤ j ∧ j ≤ cellsZ c ∧ (q < p ∨ j ≤ k) ∧ i = .int .i64 j ∧ AParts wx a A pb wb sb lo'' ∧ GrewF w (a :: pb :: wb :: setF sb lo) (a :: pb :: wb :: setF sb lo'') ∧ Chg (a :: pb :: wb :: setF sb lo) w wx) (fun i _ => (cellsZ c - intOf i).toNat)
        case atStart => exact ⟨0, lo', by omega, by omega, .inr HG.out.k0, rfl, HP0.out, HGR.out, HCH0.out⟩
        case round =>
          obtain ⟨j, lo'', hj0, hj1, hjk, rfl, hp, hgr, hch⟩ := hrel
          clear HP0 HCH0 HGR
          have HP := Lib.hid hp
          have HGR := Lib.hid hgr
          have HCH := Lib.hid hch
          clear hp hgr hch
          by_cases hlt : j < cellsZ c
          · have hqm : (q : Int) ≤ 1000000 := by have := HP.out.few; omega
            generalize hB : A.has (refZ q c j) = B
            have HB := Lib.hid hB
            clear hB
            have HJK := Lib.hid hjk
            clear hjk
            cases B
            · go_wp2_with (first
                | (go_at_call 50; refine (ARef q c j hb0 hqm hj0 hlt _).mono ?_; rintro e w' ⟨rfl, rfl⟩)
                | (go_at_call 36; refine (AHasP HP.out _).mono ?_; rw [HB.out]; rintro e w' ⟨lo3, rfl, hp3, hg3, hc3⟩; have HP3 := Lib.hid hp3; have HG3 := Lib.hid hg3; have HC3 := Lib.hid hc3; clear hp3 hg3 hc3))
              rw [Exit.noGoto_ret]
              go_ret3
              have hbad : ¬ (q < p ∨ j < k) := fun h => by
                have := HALL.out j hj0 hlt h
                rw [HB.out] at this
                cases this
              obtain rfl : q = p := by omega
              obtain rfl : j = k := by rcases HJK.out with h | h <;> omega
              exact ⟨_, rfl, ⟨pb, wb, sb, lo3, rfl, HP3.out⟩, HGR.out.trans (grew_arena HG3.out) HCH.out.size, HCH.out.trans HC3.out (by intro x hx; exact HGR.out x (by simp [hx]))⟩
            · go_wp2_with (first
                | (go_at_call 50; refine (ARef q c j hb0 hqm hj0 hlt _).mono ?_; rintro e w' ⟨rfl, rfl⟩)
                | (go_at_call 36; refine (AHasP HP.out _).mono ?_; rw [HB.out]; rintro e w' ⟨lo3, rfl, hp3, hg3, hc3⟩; have HP3 := Lib.hid hp3; have HG3 := Lib.hid hg3; have HC3 := Lib.hid hc3; clear hp3 hg3 hc3))
              go_roundw
              case rel => exact ⟨j + 1, lo3, by omega, by omega, (by
                rcases HJK.out with h | h
                · exact .inl h
                · by_cases hjk : j = k
                  · by_cases hqp : q < p
                    · exact .inl hqp
                    · obtain rfl : q = p := by omega
                      have := HG.out.free
                      rw [← hjk, HB.out] at this
                      cases this
                  · exact .inr (by omega)), by go_num, HP3.out, HGR.out.trans (grew_arena HG3.out) HCH.out.size, HCH.out.trans HC3.out (by intro x hx; exact HGR.out x (by simp [hx]))⟩
              case measure => simp [intOf]; omega
          · have hjc : j = cellsZ c := by omega
            have HQP : Hid (q < p) := Lib.hid (by
              rcases hjk with h | h
              · exact h
              · have := HG.out.k1; omega)
            subst hjc
            clear hjk
            go_wp2_with fail
            go_roundw
            case rel => exact ⟨q + 1, lo'', HQP.out, by go_num, HP.out, HGR.out, HCH.out⟩
            case measure => have := HQP.out; simp [intOf]; omega
    · have hqp : q < p := by
        rcases Nat.lt_or_ge q p with h | h
        · exact h
        · obtain rfl : q = p := by omega
          exact absurd HG.out.cls hc1
      have HQP := Lib.hid hqp
      clear hqp
      have hne : (A.cls q != c) = true := by simpa using hc1
      go_wp2_with fail
      go_quiet ((go_at_call 25; refine (Cells _ _).mono ?_; rintro e w' ⟨rfl, rfl⟩; exact ⟨rfl, _, rfl⟩))
      go_wp2_with fail
      go_roundw
      case rel => exact ⟨q + 1, lo', HQP.out, by go_num, HP.out.keep ((Chg.refl [] _).drewN _) (by simp), HGR.out, HCH.out.drewN _⟩
      case measure => have := HQP.out; simp [intOf]; omega

set_option maxHeartbeats 4000000 in
theorem AGapNo (h : ArenaAt w a A F) (c : Int) (hg : ∀ q, q < A.n → A.full c q) : Calls Try.prog 49 #[.pointer (some ⟨a, 0, none⟩), .int .i64 c] w fun e w' => ∃ F', e = .returned (.tuple #[.int .i64 0, .int .i64 0, .bool false]) ∧ ArenaAt w' a A F' ∧ GrewF w F F' ∧ Chg F w w' := by
  obtain ⟨pb, wb, sb, lo, rfl, hp⟩ := h
  have HG := Lib.hid hg
  have HP := Lib.hid hp
  have hfew : A.n ≤ 64 := hp.few
  have c0 := hp.top.cell 0
  simp [arenaCells, rowAt] at c0
  clear hg hp
  go_enter Try.func49, Try.ntmps49
  go_wp2_with fail
  go_step3
  go_wp2
  go_step3
  go_wp2
  clear c0
  go_loopw [15] (fun i wr => ∃ (q : Nat) (lo' : Option Nat), q ≤ A.n ∧ i = .int .i64 q ∧ AParts wr a A pb wb sb lo' ∧ GrewF w (a :: pb :: wb :: setF sb lo) (a :: pb :: wb :: setF sb lo') ∧ Chg (a :: pb :: wb :: setF sb lo) w wr) (fun i _ => A.n + 1 - (intOf i).toNat)
  case atStart => exact ⟨0, lo, by omega, rfl, HP.out, GrewF.refl _ _, Chg.refl _ _⟩
  case round =>
    obtain ⟨q, lo', hq, rfl, hp, hgr, hch⟩ := hrel
    clear HP
    by_cases hqn : q < A.n
    · have HQN := Lib.hid hqn
      obtain ⟨p0, p1⟩ := hp.page hqn
      have HP := Lib.hid (hp.keep ((Chg.refl [] wr).alloc (.cells #[.int .i64 (A.cls q), .int .i64 (A.cnt q)] 90)) (by simp))
      have HGR := Lib.hid hgr
      have HCH := Lib.hid (hch.alloc (.cells #[.int .i64 (A.cls q), .int .i64 (A.cnt q)] 90))
      clear hp hgr hch
      have hb0 : (0 : Int) ≤ (q : Int) := by omega
      by_cases hc1 : A.cls q = c
      · by_cases hc2 : A.cnt q = cellsZ c
        · rw [hc1] at p0 HP HCH
          rw [hc2] at p1 HP HCH
          go_wp2_with fail
          go_quiet ((go_at_call 25; refine (Cells _ _).mono ?_; rintro e w' ⟨rfl, rfl⟩; exact ⟨rfl, _, rfl⟩))
          go_wp2_with fail
          go_roundw
          case rel => exact ⟨q + 1, lo', HQN.out, by go_num, HP.out.keep ((Chg.refl [] _).drewN _) (by simp), HGR.out, HCH.out.drewN _⟩
          case measure => have := HQN.out; simp [intOf]; omega
        · rw [hc1] at p0 HP HCH
          have hb : (A.cnt q == cellsZ c) = false := by simpa using hc2
          have HALL : Hid (∀ j : Int, 0 ≤ j → j < cellsZ c → A.has (refZ q c j) = true) := Lib.hid (by
            intro j h0 h1
            rcases HG.out q hqn with h3 | ⟨_, h3⟩ | ⟨_, _, h3⟩
            · exact absurd hc1 h3
            · exact absurd h3 hc2
            · exact h3 j h0 h1)
          have hcn := cells_nonneg c
          clear hc1 hc2
          go_wp2_with fail
          go_quiet ((go_at_call 25; refine (Cells _ _).mono ?_; rintro e w' ⟨rfl, rfl⟩; exact ⟨rfl, _, rfl⟩))
          go_wp2_with (go_at_call 25; refine (Cells _ _).mono ?_; rintro e w' ⟨rfl, rfl⟩)
          have HP0 := Lib.hid (HP.out.keep ((Chg.refl [] _).drewN nq) (by simp))
          have HCH0 := Lib.hid (HCH.out.drewN nq)
          clear HP HCH hb p0 p1
          go_loopw [33] (fun i wx => ∃ (j : Int) (lo'' : Option Nat), 0 ≤ j ∧ j ≤ cellsZ c ∧ i = .int .i64 j ∧ AParts wx a A pb wb sb lo'' ∧ GrewF w (a :: pb :: wb :: setF sb lo) (a :: pb :: wb :: setF sb lo'') ∧ Chg (a :: pb :: wb :: setF sb lo) w wx) (fun i _ => (cellsZ c - intOf i).toNat)
          case atStart => exact ⟨0, lo', by omega, by omega, rfl, HP0.out, HGR.out, HCH0.out⟩
          case round =>
            obtain ⟨j, lo'', hj0, hj1, rfl, hp, hgr, hch⟩ := hrel
            clear HP0 HCH0 HGR
            have HP := Lib.hid hp
            have HGR := Lib.hid hgr
            have HCH := Lib.hid hch
            clear hp hgr hch
            by_cases hlt : j < cellsZ c
            · have hqm : (q : Int) ≤ 1000000 := by omega
              have HB := Lib.hid (HALL.out j hj0 hlt)
              go_wp2_with (first
                | (go_at_call 50; refine (ARef q c j hb0 hqm hj0 hlt _).mono ?_; rintro e w' ⟨rfl, rfl⟩)
                | (go_at_call 36; refine (AHasP HP.out _).mono ?_; rw [HB.out]; rintro e w' ⟨lo3, rfl, hp3, hg3, hc3⟩; have HP3 := Lib.hid hp3; have HG3 := Lib.hid hg3; have HC3 := Lib.hid hc3; clear hp3 hg3 hc3))
              go_roundw
              case rel => exact ⟨j + 1, lo3, by omega, by omega, by go_num, HP3.out, HGR.out.trans (grew_arena HG3.out) HCH.out.size, HCH.out.trans HC3.out (by intro x hx; exact HGR.out x (by simp [hx]))⟩
              case measure => simp [intOf]; omega
            · have hjc : j = cellsZ c := by omega
              subst hjc
              go_wp2_with fail
              go_roundw
              case rel => exact ⟨q + 1, lo'', HQN.out, by go_num, HP.out, HGR.out, HCH.out⟩
              case measure => have := HQN.out; simp [intOf]; omega
      · have hne : (A.cls q != c) = true := by simpa using hc1
        go_wp2_with fail
        go_quiet ((go_at_call 25; refine (Cells _ _).mono ?_; rintro e w' ⟨rfl, rfl⟩; exact ⟨rfl, _, rfl⟩))
        go_wp2_with fail
        go_roundw
        case rel => exact ⟨q + 1, lo', HQN.out, by go_num, HP.out.keep ((Chg.refl [] _).drewN _) (by simp), HGR.out, HCH.out.drewN _⟩
        case measure => have := HQN.out; simp [intOf]; omega
    · obtain rfl : q = A.n := by omega
      have HP := Lib.hid hp
      have HGR := Lib.hid hgr
      have HCH := Lib.hid hch
      clear hp hgr hch
      go_wp2_with fail
      rw [Exit.noGoto_ret]
      go_ret3
      exact ⟨_, rfl, ⟨pb, wb, sb, lo', rfl, HP.out⟩, HGR.out, HCH.out⟩

end
end Go.Proofs.Ytapbphbnffggnaa
