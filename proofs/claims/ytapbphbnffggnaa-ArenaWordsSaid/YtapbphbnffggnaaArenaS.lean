/-
  The arena's methods, where memory is a list of things (layer 3). Conditions: the arena is as it always is.
-/
import Derived.Test.YtapbphbnffggnaaAr
import Derived.Test.YtapbphbnffggnaaSetIter
namespace Go.Proofs.Ytapbphbnffggnaa
set_option linter.unusedVariables false
set_option linter.unusedSimpArgs false
open Go.RowKit Go.Shelf
attribute [local go_sem] Oper.semAt_some wide_fn round_fn wide_depth round_depth
attribute [local simp] wide_fn round_fn wide_depth round_depth

/-- The arena at block a. -/
def arenaR (a : Nat) (A : AR) : Res := ⟨fun w F => ArenaAt w a A F, fun h hc hF => h.keep hc hF, fun h => h.lt⟩
def arenaParts (a : Nat) (A : AR) : List Res :=
  [blkR a 88 (arenaCells A A.ids.1 A.ids.2.1 A.ids.2.2), blkR A.ids.1 90 (pageCells A.cls A.cnt A.n), blkR A.ids.2.1 3 (intCells A.wd (A.n * 32)), setR A.ids.2.2 A.size A.tk]

theorem arena_parts {w : World} {a : Nat} {A : AR} {F : List Nat} (h : ArenaAt w a A F) : A.n ≤ 64 ∧ SepL 0 w (arenaParts a A) F := by
  obtain ⟨pb, wb, sb, lo, rfl, hp⟩ := h
  have hi := hp.ids
  unfold arenaParts
  rw [hi]
  refine ⟨hp.few, [a], _, rfl, ⟨rfl, hp.top⟩, ?_, [pb], _, rfl, ⟨rfl, hp.pages⟩, ?_, [wb], _, rfl, ⟨rfl, hp.words⟩, ?_, setF sb lo, [], (List.append_nil _).symm, ⟨lo, rfl, hp.set_⟩, fun _ _ => ⟨Nat.zero_le _, by simp⟩, rfl⟩
  · intro x hx
    simp at hx; subst hx
    simp
    exact ⟨hp.ap, hp.aw, hp.sa⟩
  · intro x hx
    simp at hx; subst hx
    simp
    exact ⟨hp.pw, hp.sp⟩
  · intro x hx
    simp at hx; subst hx
    refine ⟨Nat.zero_le _, ?_⟩
    have := hp.sw
    simpa [setF] using this
theorem arena_whole {w : World} {a : Nat} {A : AR} {F : List Nat} (hn : A.n ≤ 64) (h : SepL 0 w (arenaParts a A) F) : ArenaAt w a A F := by
  obtain ⟨_, _, rfl, ⟨rfl, h1⟩, d1, _, _, rfl, ⟨rfl, h2⟩, d2, _, _, rfl, ⟨rfl, h3⟩, d3, _, _, rfl, ⟨lo, rfl, h4⟩, d4, rfl⟩ := h
  have d1 := (d1 a (by simp)).2
  have d2 := (d2 A.ids.1 (by simp)).2
  have d3 := (d3 A.ids.2.1 (by simp)).2
  simp at d1 d2 d3
  exact ⟨A.ids.1, A.ids.2.1, A.ids.2.2, lo, by simp, ⟨h1, h2, h3, h4, d1.1, d1.2.1, d2.1, d1.2.2, d2.2, d3, hn, rfl⟩⟩

section
variable {w0 w : World} {L : List Res} {i a : Nat} {A : AR}

theorem arena_openHead {R : List Res} (S : Sep w0 w (arenaR a A :: R)) : A.n ≤ 64 ∧ Sep w0 w (arenaParts a A ++ R) := by
  obtain ⟨h1, G, F, G', rfl, hp, hd, hr⟩ := S
  obtain ⟨hn, hs⟩ := arena_parts hp
  exact ⟨hn, h1, _, SepL.append hr (SepL.mono hs (fun x hx => (hd x hx).1)) (fun x hx => (hd x hx).2)⟩
theorem arena_open (S : Sep w0 w L) (i : Nat) (hi : L[i]? = some (arenaR a A)) : A.n ≤ 64 ∧ Sep w0 w (arenaParts a A ++ L.eraseIdx i) := arena_openHead (S.lift i hi)
theorem arena_shutHead {R : List Res} (hn : A.n ≤ 64) (S : Sep w0 w (arenaParts a A ++ R)) : Sep w0 w (arenaR a A :: R) := by
  obtain ⟨h1, G, F, G', rfl, hp, hd, hr⟩ := S.shutHead
  exact ⟨h1, F ++ G', F, G', rfl, arena_whole hn hp, hd, hr⟩
theorem arena_shut {r : Res} (hn : A.n ≤ 64) (S : Sep w0 w (arenaParts a A ++ L.eraseIdx i)) (hi : L[i]? = some r) : Sep w0 w (L.set i (arenaR a A)) := (arena_shutHead hn S).perm (perm_set hi)

theorem TANew (S : Sep w0 w L) (n : Int) (m : Nat) (hm : (m : Int) = min (max n 0) 64) : Calls Try.prog 18 #[.int .i64 n] w fun e w' => ∃ a ids, e = .returned (.pointer (some ⟨a, 0, none⟩)) ∧ Sep w0 w' (arenaR a (AR.new m ids) :: L) := by
  refine (ANew n m hm w).mono ?_
  rintro e w' ⟨a, F, ids, rfl, h1, hF1, hc1⟩
  exact ⟨a, ids, rfl, S.new (r := arenaR a (AR.new m ids)) h1 hF1 hc1⟩
theorem TAPages (S : Sep w0 w L) (i : Nat) (hi : L[i]? = some (arenaR a A)) : Calls Try.prog 19 #[.pointer (some ⟨a, 0, none⟩)] w fun e w' => e = .returned (.int .i64 (A.n : Int)) ∧ w = w' :=
  S.read i hi (fun _ h => APages h)
theorem TAFree (S : Sep w0 w L) (i : Nat) (hi : L[i]? = some (arenaR a A)) : Calls Try.prog 20 #[.pointer (some ⟨a, 0, none⟩)] w fun e w' => e = .returned (.int .i64 A.free) ∧ w = w' :=
  S.read i hi (fun _ h => AFree h)
theorem TASize (S : Sep w0 w L) (i : Nat) (hi : L[i]? = some (arenaR a A)) : Calls Try.prog 21 #[.pointer (some ⟨a, 0, none⟩)] w fun e w' => e = .returned (.int .i64 A.size) ∧ w = w' :=
  S.read i hi (fun _ h => ASize h)
theorem TAClass (S : Sep w0 w L) (i : Nat) (hi : L[i]? = some (arenaR a A)) (p : Int) : Calls Try.prog 26 #[.pointer (some ⟨a, 0, none⟩), .int .i64 p] w fun e w' => e = .returned (.int .i64 (A.clsZ p)) ∧ w = w' :=
  S.read i hi (fun _ h => AClass h p)
theorem TAPage (S : Sep w0 w L) (i : Nat) (hi : L[i]? = some (arenaR a A)) (r : Int) (hr : r ≤ 9223372036854775807) : Calls Try.prog 27 #[.pointer (some ⟨a, 0, none⟩), .int .i64 r] w fun e w' => e = .returned (.int .i64 (A.page r)) ∧ w = w' :=
  S.read i hi (fun _ h => APage h r hr)
theorem TAHas (S : Sep w0 w L) (i : Nat) (hi : L[i]? = some (arenaR a A)) (r : Int) : Calls Try.prog 36 #[.pointer (some ⟨a, 0, none⟩), .int .i64 r] w fun e w' => e = .returned (.bool (A.has r)) ∧ Sep w0 w' L :=
  S.look i hi (fun _ h => (AHas h r).mono fun _ _ ⟨F', h1, h2, h3, h4⟩ => ⟨F', h1, h2, h3, h4⟩)
theorem TARoom (S : Sep w0 w L) (i : Nat) (hi : L[i]? = some (arenaR a A)) (hw : A.Wf) (c : Int) : Calls Try.prog 23 #[.pointer (some ⟨a, 0, none⟩), .int .i64 c] w fun e w' => e = .returned (.bool (A.take c).isSome) ∧ Sep w0 w' L :=
  S.look i hi (fun _ h => (ARoom h c _ (hw.room c)).mono fun _ _ ⟨F', h1, h2, h3, h4⟩ => ⟨F', h1, h2, h3, h4⟩)

def takeV : Option (Nat × AR) → Value
  | some (r, _) => .tuple #[.int .i64 (r : Int), .bool true]
  | none => .tuple #[.int .i64 0, .bool false]
theorem takeV_none : takeV none = .tuple #[.int .i64 0, .bool false] := rfl
theorem takeV_some (r : Nat) (B : AR) : takeV (some (r, B)) = .tuple #[.int .i64 (r : Int), .bool true] := rfl
theorem TATake (S : Sep w0 w L) (i : Nat) (hi : L[i]? = some (arenaR a A)) (hw : A.Wf) (c : Int) : Calls Try.prog 22 #[.pointer (some ⟨a, 0, none⟩), .int .i64 c] w fun e w' => e = .returned (takeV (A.take c)) ∧ Sep w0 w' (L.set i (arenaR a (A.takeA c))) := by
  refine S.call i hi _ (fun F h => ?_)
  have hr := hw.room c
  unfold AR.takeA
  unfold AR.take at hr ⊢
  by_cases hc : cN c = 0
  · rw [if_pos hc] at hr ⊢
    exact (ATakeNo h c hr).mono fun _ _ ⟨F', h1, h2, h3, h4⟩ => ⟨F', h1, h2, h3, h4⟩
  · rw [if_neg hc] at hr ⊢
    cases hg : A.gapP c with
    | some x =>
      obtain ⟨p, k⟩ := x
      rw [hg] at hr
      obtain ⟨hgap, hk⟩ := hw.gap_is hg
      have hb := hw.cnt_le hgap.inside
      refine (ATakeGap h c p k hgap hb.1 hb.2).mono ?_
      rw [refZ_refN]
      rintro e w' ⟨F', rfl, h2, h3, h4⟩
      exact ⟨F', rfl, h2, h3, h4⟩
    | none =>
      rw [hg] at hr
      cases hp : A.freeP with
      | some p =>
        rw [hp] at hr
        have hfp : 0 < A.free := by
          have := mt hw.free_none.2 (by rw [hp]; simp)
          omega
        have e0 := refZ_refN p c 0
        simp only [Int.natCast_zero] at e0
        refine (ATakeNew h c p (by rw [cells_cN]; omega) (hw.gap_none (by omega) hg) hfp hw.free_le.2 (hw.free_is hp)).mono ?_
        rw [e0]
        rintro e w' ⟨F', rfl, h2, h3, h4⟩
        exact ⟨F', rfl, h2, h3, h4⟩
      | none =>
        rw [hp] at hr
        exact (ATakeNo h c hr).mono fun _ _ ⟨F', h1, h2, h3, h4⟩ => ⟨F', h1, h2, h3, h4⟩
theorem TAGive (S : Sep w0 w L) (i : Nat) (hi : L[i]? = some (arenaR a A)) (hw : A.Wf) (r : Int) : Calls Try.prog 24 #[.pointer (some ⟨a, 0, none⟩), .int .i64 r] w fun e w' => e = .returned (.bool (A.has r)) ∧ Sep w0 w' (L.set i (arenaR a (A.give r))) := by
  refine S.call i hi _ (fun F h => ?_)
  unfold AR.give
  cases hr : A.has r
  · simp only [Bool.false_eq_true, if_false]
    exact (AGiveNo h r hr).mono fun _ _ ⟨F', h1, h2, h3, h4⟩ => ⟨F', h1, h2, h3, h4⟩
  · simp only [if_true]
    have hr' := hr
    unfold AR.has at hr'
    simp at hr'
    obtain ⟨⟨h0, h1⟩, h2⟩ := hr'
    obtain ⟨R, rfl⟩ := Int.eq_ofNat_of_zero_le h0
    simp only [Int.toNat_natCast] at h2 ⊢
    have hc := hw.cnt_pos h2
    have hf := hw.free_le
    exact (AGive h R (hw.lt h2).1 h1 h2 hc.1 hc.2 hf.1 hf.2).mono fun _ _ ⟨F', h1, h2, h3, h4⟩ => ⟨F', h1, h2, h3, h4⟩
end
end Go.Proofs.Ytapbphbnffggnaa
