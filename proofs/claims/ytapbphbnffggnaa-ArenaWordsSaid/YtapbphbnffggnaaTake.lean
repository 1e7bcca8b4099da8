/-
  The arena: a cell is taken (layer 3). Conditions: as each theorem says.
-/
import Derived.Test.YtapbphbnffggnaaTakeP
namespace Go.Proofs.Ytapbphbnffggnaa
set_option linter.unusedVariables false
set_option linter.unusedSimpArgs false
open Go.RowKit

theorem ref_bounds {p c k : Int} {n : Nat} (hp0 : 0 ≤ p) (hp : p < n) (h0 : 0 ≤ k) (h1 : k < cellsZ c) : p * 32 + 1 ≤ refZ p c k ∧ refZ p c k + wordsZ c ≤ p * 32 + 33 ∧ 0 < wordsZ c := by
  unfold refZ
  have : 0 < cellsZ c := by omega
  rcases class_cases c with h | rfl | rfl | rfl | h
  · rw [cellsZ_out (.inl h)] at this; omega
  · simp [cellsZ, wordsZ] at *; omega
  · simp [cellsZ, wordsZ] at *; omega
  · simp [cellsZ, wordsZ] at *; omega
  · rw [cellsZ_out (.inr h)] at this; omega

section
variable {w : World} {a : Nat} {A : AR} {F : List Nat}

theorem ATakeNo (h : ArenaAt w a A F) (c : Int) (hr : RoomIs A c false) : Calls Try.prog 22 #[.pointer (some ⟨a, 0, none⟩), .int .i64 c] w fun e w' => ∃ F', e = .returned (.tuple #[.int .i64 0, .bool false]) ∧ ArenaAt w' a A F' ∧ GrewF w F F' ∧ Chg F w w' := by
  have H := Lib.hid h
  clear h
  go_enter Try.func22, Try.ntmps22
  go_wp2_with (go_at_call 23; refine (ARoom H.out c false hr).mono ?_; rintro e w1 ⟨F1, rfl, h1, g1, c1⟩; have H1 := Lib.hid h1; have G1 := Lib.hid g1; have C1 := Lib.hid c1; clear h1 g1 c1)
  go_ret2
  exact ⟨F1, rfl, H1.out, G1.out, C1.out⟩

set_option maxHeartbeats 4000000 in
theorem ATakeGap (h : ArenaAt w a A F) (c : Int) (p : Nat) (k : Int) (hg : IsGap A c p k) (hc0 : 0 ≤ A.cnt p) (hc1 : A.cnt p ≤ 16) : Calls Try.prog 22 #[.pointer (some ⟨a, 0, none⟩), .int .i64 c] w fun e w' => ∃ F', e = .returned (.tuple #[.int .i64 (refZ p c k), .bool true]) ∧ ArenaAt w' a (A.put false c p (refZ p c k).toNat) F' ∧ GrewF w F F' ∧ Chg F w w' := by
  have hr : RoomIs A c true := .gap (by have := hg.k0; have := hg.k1; omega) p k hg
  have hin := hg.inside
  have hb := ref_bounds (p := (p : Int)) (n := A.n) (by omega) (by omega) hg.k0 hg.k1
  have HG := Lib.hid hg
  have H := Lib.hid h
  clear h hg
  go_enter Try.func22, Try.ntmps22
  go_wp2_with (first | (go_at_call 23; refine (ARoom H.out c true hr).mono ?_; rintro e w1 ⟨F1, rfl, h1, g1, c1⟩; have H1 := Lib.hid h1; have G1 := Lib.hid g1; have C1 := Lib.hid c1; clear h1 g1 c1) | (go_at_call 49; refine (AGapYes H1.out c p k HG.out).mono ?_; rintro e w2 ⟨F2, rfl, h2, g2, c2⟩; have H2 := Lib.hid h2; have G2 := Lib.hid (G1.out.trans g2 C1.out.size); have C2 := Lib.hid (C1.out.trans c2 G1.out); clear h2 g2 c2))
  have hqm : (p : Int) ≤ 1000000 := by
    obtain ⟨_, _, _, _, _, hp⟩ := H2.out
    have := hp.few
    omega
  have hp0 : (0 : Int) ≤ (p : Int) := by omega
  have hk0 := HG.out.k0
  have hk1 := HG.out.k1
  refine (ARef (p : Int) c k hp0 hqm hk0 hk1 _).mono ?_
  rintro e w' ⟨rfl, rfl⟩
  obtain ⟨pb, wb, sb, lo, rfl, hp⟩ := H2.out
  clear H2 H1 G1 C1 H
  obtain ⟨o, ho⟩ : ∃ o : Nat, refZ (p : Int) c k = ((o + 1 : Nat) : Int) := ⟨(refZ (p : Int) c k - 1).toNat, by omega⟩
  obtain ⟨n, hn⟩ : ∃ n : Nat, wordsZ c = (n : Int) := ⟨(wordsZ c).toNat, by omega⟩
  have HO := Lib.hid ho
  have HN := Lib.hid hn
  rw [ho, hn] at hb
  rw [ho]
  have hno : 0 < n := by omega
  have hle : o + n ≤ A.n * 32 := by omega
  have c2 := hp.top.cell 2
  simp [arenaCells] at c2
  have HP := Lib.hid hp
  clear hp ho hn
  go_wp2_with fail
  refine (SPutIn HP.out.set_ (by have := HP.out.few; unfold AR.size; omega) (o + 1) (by unfold AR.size; omega)).mono ?_
  rintro e w3 ⟨lo3, rfl, hs3, hg3, hc3⟩
  have hp3 := HP.out.set hs3 hg3 hc3
  have HG3 := Lib.hid (grew_arena (a := a) (pb := pb) (wb := wb) hg3)
  have HC3 := Lib.hid (hc3.mono (F' := a :: pb :: wb :: setF sb lo) (by intro x hx; simp [hx]))
  clear hs3 hg3 hc3 c2
  have d0 := hp3.top.cell 0
  have d1 := hp3.top.cell 1
  simp [arenaCells, rowAt] at d0 d1
  obtain ⟨p0, p1⟩ := hp3.page hin
  have f1 := hp3.pages.frozen (p * 2 + 1)
  simp only at p0 p1
  have hp4 := hp3.setCnt p (A.cnt p + 1)
  have hw1 : IntKind.i64.wrap (A.cnt p + 1) = A.cnt p + 1 := by rw [IntKind.wrap_i64]; omega
  have e1 := hp4.top.cell 1
  simp [arenaCells, rowAt] at e1
  have hclr : ∀ cap ty, (Builtin.clear_ #[50] ty #[.slice (some ⟨wb, o, none⟩) n cap]).run Try.prog (w3.setCell ⟨pb, p * 2 + 1, none⟩ (.int .i64 (A.cnt p + 1))).drew = .ok (.tuple #[]) ((w3.setCell ⟨pb, p * 2 + 1, none⟩ (.int .i64 (A.cnt p + 1))).drew.setCells wb o (List.replicate n (.int .i64 0))) :=
    fun cap ty => clear_words n o (A.n * 32) cap hno hle A.wd _ ty hp4.words.drew
  have HP3 := Lib.hid hp3
  have HP4 := Lib.hid hp4
  clear hp3 hp4
  have hs1 : IntKind.i64.wrap (((o + 1 : Nat) : Int) - 1) = (o : Int) := by rw [IntKind.wrap_i64]; omega
  obtain ⟨T, hT⟩ : ∃ T : Nat, o + n = T := ⟨_, rfl⟩
  obtain ⟨M, hM⟩ : ∃ M : Nat, A.n * 32 = M := ⟨_, rfl⟩
  have hs2 : IntKind.i64.wrap ((o : Int) + (n : Int)) = (T : Int) := by rw [IntKind.wrap_i64]; omega
  have hs0 : IntKind.i64.wrap (o : Int) = (o : Int) := by rw [IntKind.wrap_i64]; omega
  have hs3 : 0 ≤ (T : Int) ∧ (T : Int) ≤ (M : Int) := by omega
  have hs4 : 0 ≤ (o : Int) ∧ (o : Int) ≤ max (T : Int) 0 := by omega
  have hs5 : ¬ M = o := by omega
  have hs6 : T - o = n := by omega
  rw [hM] at d1 e1
  have HT := Lib.hid hT
  have HM := Lib.hid hM
  clear hT hM
  go_wp2_with fail
  go_region_with (go_at_call 33; refine (Words _ _).mono ?_; rw [HN.out]; rintro e w' ⟨rfl, rfl⟩)
  all_goals
    go_wp2_with fail
    go_ret2
    have e : A.put false c p (refZ (p : Int) c k).toNat = { A with cnt := updN A.cnt p (A.cnt p + 1), wd := zeroed A.wd o n, tk := fun j => A.tk j || decide (j = o + 1) } := by
      unfold AR.put
      rw [HO.out, HN.out]
      simp
    rw [e]
    refine ⟨_, ?_, ⟨pb, wb, sb, lo3, rfl, (HP4.out.keep ((Chg.refl [] _).drew) (by simp)).clear o n⟩, G2.out.trans HG3.out C2.out.size, ?_⟩
    · rw [HO.out]; simp
    · exact chg_setCells wb (G2.out wb (by simp)) _ _ _ (((C2.out.trans HC3.out G2.out).setCell (G2.out pb (by simp)) _).drew)

theorem updN_self (f : Nat → Int) (p : Nat) (x : Int) : updN f p x p = x := by simp [updN]
theorem updN_updN (f : Nat → Int) (p : Nat) (x y : Int) : updN (updN f p x) p y = updN f p y := by
  funext i
  simp only [updN]
  by_cases h : i = p <;> simp [h]

/-- The first free page. -/
structure FirstFree (A : AR) (p : Nat) : Prop where
  inside : p < A.n
  cls : A.cls p < 0
  ahead : ∀ q, q < p → 0 ≤ A.cls q

set_option maxHeartbeats 4000000 in
theorem ATakeNew (h : ArenaAt w a A F) (c : Int) (p : Nat) (hcz : cellsZ c ≠ 0) (hfull : A.allFull c) (hfree : 0 < A.free) (hfree2 : A.free ≤ 64) (hff : FirstFree A p) : Calls Try.prog 22 #[.pointer (some ⟨a, 0, none⟩), .int .i64 c] w fun e w' => ∃ F', e = .returned (.tuple #[.int .i64 (refZ p c 0), .bool true]) ∧ ArenaAt w' a (A.put true c p (refZ p c 0).toNat) F' ∧ GrewF w F F' ∧ Chg F w w' := by
  have hr : RoomIs A c true := .page hcz hfull hfree
  have hin := hff.inside
  have hk0 : (0 : Int) ≤ 0 := by omega
  have hk1 : (0 : Int) < cellsZ c := by have := cells_nonneg c; omega
  have hb := ref_bounds (p := (p : Int)) (n := A.n) (by omega) (by omega) hk0 hk1
  have HG := Lib.hid hfull
  have HF := Lib.hid hff
  have H := Lib.hid h
  clear h hff hfull
  go_enter Try.func22, Try.ntmps22
  go_wp2_with (first | (go_at_call 23; refine (ARoom H.out c true hr).mono ?_; rintro e w1 ⟨F1, rfl, h1, g1, c1⟩; have H1 := Lib.hid h1; have G1 := Lib.hid g1; have C1 := Lib.hid c1; clear h1 g1 c1) | (go_at_call 49; refine (AGapNo H1.out c HG.out).mono ?_; rintro e w2 ⟨F2, rfl, h2, g2, c2⟩; have H2 := Lib.hid h2; have G2 := Lib.hid (G1.out.trans g2 C1.out.size); have C2 := Lib.hid (C1.out.trans c2 G1.out); clear h2 g2 c2))
  have hqm : (p : Int) ≤ 1000000 := by
    obtain ⟨_, _, _, _, _, hp⟩ := H2.out
    have := hp.few
    omega
  have hp0 : (0 : Int) ≤ (p : Int) := by omega
  obtain ⟨pb, wb, sb, lo, rfl, hp⟩ := H2.out
  clear H2 H1 G1 C1 H
  have hfew := hp.few
  have d0 := hp.top.cell 0
  simp [arenaCells, rowAt] at d0
  have HP := Lib.hid hp
  clear hp
  go_loopw [6] (fun s6 wr => ∃ q : Nat, q ≤ p ∧ s6 = .int .i64 q ∧ w2 = wr) (fun s6 _ => p + 1 - (intOf s6).toNat)
  case atStart => exact ⟨0, by omega, rfl, rfl⟩
  case round =>
    obtain ⟨q, hq, rfl, rfl⟩ := hrel
    have hqn : q < A.n := by omega
    obtain ⟨p0, p1⟩ := HP.out.page hqn
    by_cases hqp : q < p
    · have hcq := HF.out.ahead q hqp
      have HQP := Lib.hid hqp
      go_wp2_with fail
      go_roundw
      case rel => exact ⟨q + 1, HQP.out, by go_num, by first | rfl | trivial⟩
      case measure => have := HQP.out; simp [intOf]; omega
    · obtain rfl : q = p := by omega
      have hcq : ¬ 0 ≤ A.cls q := by have := HF.out.cls; omega
      have f0 := HP.out.pages.frozen (q * 2)
      have f1 := HP.out.pages.frozen (q * 2 + 1)
      have k3 := HP.out.top.cell 3
      have z3 := HP.out.top.frozen 3
      simp [arenaCells] at k3
      have HAP := Lib.hid HP.out.ap
      have hne : ¬ pb = a := fun h => HAP.out h.symm
      have hwf : IntKind.i64.wrap (A.free - 1) = A.free - 1 := by rw [IntKind.wrap_i64]; omega
      have hpn := ((HP.out.setCls q c).setCnt q 0).setFree (A.free - 1)
      have HPN := Lib.hid hpn
      have d1 := hpn.top.cell 0
      simp [arenaCells, rowAt] at d1
      have k2 := hpn.top.cell 2
      simp [arenaCells] at k2
      clear hpn hqp hq
      go_wp2_with fail
      obtain ⟨A1, hA1⟩ : ∃ A1 : AR, A1 = { A with cls := updN A.cls q c, cnt := updN A.cnt q 0, free := A.free - 1 } := ⟨_, rfl⟩
      obtain ⟨w5, hw5⟩ : ∃ w5, ((w2.setCell ⟨pb, q * 2, none⟩ (.int .i64 c)).setCell ⟨pb, q * 2 + 1, none⟩ (.int .i64 0)).setCell ⟨a, 3, none⟩ (.int .i64 (A.free - 1)) = w5 := ⟨_, rfl⟩
      rw [hw5]
      have hp : AParts w5 a A1 pb wb sb lo := by rw [hA1, ← hw5]; exact HPN.out
      have C5 : Hid (Chg F w w5) := Lib.hid (by
        rw [← hw5]
        exact (((C2.out.setCell (G2.out pb (by simp)) _).setCell (G2.out pb (by simp)) _).setCell (G2.out a (by simp)) _))
      have hin1 : q < A1.n := by rw [hA1]; exact hin
      have hn1 : A1.n = A.n := by rw [hA1]
      have hc0 : 0 ≤ A1.cnt q := by rw [hA1]; simp [updN]
      have hc1 : A1.cnt q ≤ 16 := by rw [hA1]; simp [updN]
      have HA1 := Lib.hid hA1
      clear hA1 hw5 HPN HP p0 p1 f0 f1 k3 z3 d0 d1 k2 hcq hwf HAP hne
      refine (ARef (q : Int) c 0 hp0 hqm hk0 hk1 _).mono ?_
      rintro e w' ⟨rfl, rfl⟩
      obtain ⟨o, ho⟩ : ∃ o : Nat, refZ (q : Int) c 0 = ((o + 1 : Nat) : Int) := ⟨(refZ (q : Int) c 0 - 1).toNat, by omega⟩
      obtain ⟨n, hn⟩ : ∃ n : Nat, wordsZ c = (n : Int) := ⟨(wordsZ c).toNat, by omega⟩
      have HO := Lib.hid ho
      have HN := Lib.hid hn
      rw [ho, hn] at hb
      rw [ho]
      have hno : 0 < n := by omega
      have hle : o + n ≤ A1.n * 32 := by omega
      have c2 := hp.top.cell 2
      simp [arenaCells] at c2
      have HP := Lib.hid hp
      clear hp ho hn
      go_wp2_with fail
      refine (SPutIn HP.out.set_ (by have := HP.out.few; unfold AR.size; omega) (o + 1) (by unfold AR.size; omega)).mono ?_
      rintro e w3 ⟨lo3, rfl, hs3, hg3, hc3⟩
      have hp3 := HP.out.set hs3 hg3 hc3
      have HG3 := Lib.hid (grew_arena (a := a) (pb := pb) (wb := wb) hg3)
      have HC3 := Lib.hid (hc3.mono (F' := a :: pb :: wb :: setF sb lo) (by intro x hx; simp [hx]))
      clear hs3 hg3 hc3 c2
      have d0 := hp3.top.cell 0
      have d1 := hp3.top.cell 1
      simp [arenaCells, rowAt] at d0 d1
      obtain ⟨p0, p1⟩ := hp3.page hin1
      have f1 := hp3.pages.frozen (q * 2 + 1)
      simp only at p0 p1
      have hp4 := hp3.setCnt q (A1.cnt q + 1)
      have hw1 : IntKind.i64.wrap (A1.cnt q + 1) = A1.cnt q + 1 := by rw [IntKind.wrap_i64]; omega
      have e1 := hp4.top.cell 1
      simp [arenaCells, rowAt] at e1
      have hclr : ∀ cap ty, (Builtin.clear_ #[50] ty #[.slice (some ⟨wb, o, none⟩) n cap]).run Try.prog (w3.setCell ⟨pb, q * 2 + 1, none⟩ (.int .i64 (A1.cnt q + 1))).drew = .ok (.tuple #[]) ((w3.setCell ⟨pb, q * 2 + 1, none⟩ (.int .i64 (A1.cnt q + 1))).drew.setCells wb o (List.replicate n (.int .i64 0))) :=
        fun cap ty => clear_words n o (A1.n * 32) cap hno hle A1.wd _ ty hp4.words.drew
      have HP3 := Lib.hid hp3
      have HP4 := Lib.hid hp4
      clear hp3 hp4
      have hs1 : IntKind.i64.wrap (((o + 1 : Nat) : Int) - 1) = (o : Int) := by rw [IntKind.wrap_i64]; omega
      obtain ⟨T, hT⟩ : ∃ T : Nat, o + n = T := ⟨_, rfl⟩
      obtain ⟨M, hM⟩ : ∃ M : Nat, A1.n * 32 = M := ⟨_, rfl⟩
      have hs2 : IntKind.i64.wrap ((o : Int) + (n : Int)) = (T : Int) := by rw [IntKind.wrap_i64]; omega
      have hs0 : IntKind.i64.wrap (o : Int) = (o : Int) := by rw [IntKind.wrap_i64]; omega
      have hs3 : 0 ≤ (T : Int) ∧ (T : Int) ≤ (M : Int) := by omega
      have hs4 : 0 ≤ (o : Int) ∧ (o : Int) ≤ max (T : Int) 0 := by omega
      have hs5 : ¬ M = o := by omega
      have hs6 : T - o = n := by omega
      rw [hM] at d1 e1
      have HT := Lib.hid hT
      have HM := Lib.hid hM
      clear hT hM
      go_wp2_with fail
      go_region_with (go_at_call 33; refine (Words _ _).mono ?_; rw [HN.out]; rintro e w' ⟨rfl, rfl⟩)
      all_goals
        go_wp2_with fail
        go_ret2
        have e : A.put true c q (refZ (q : Int) c 0).toNat = { A1 with cnt := updN A1.cnt q (A1.cnt q + 1), wd := zeroed A1.wd o n, tk := fun j => A1.tk j || decide (j = o + 1) } := by
          unfold AR.put
          rw [HO.out, HN.out, HA1.out]
          simp [updN_self, updN_updN]
        rw [e]
        refine ⟨_, ?_, ⟨pb, wb, sb, lo3, rfl, (HP4.out.keep ((Chg.refl [] _).drew) (by simp)).clear o n⟩, G2.out.trans HG3.out C5.out.size, ?_⟩
        · rw [HO.out]; simp
        · exact chg_setCells wb (G2.out wb (by simp)) _ _ _ (((C5.out.trans HC3.out G2.out).setCell (G2.out pb (by simp)) _).drew)
end
end Go.Proofs.Ytapbphbnffggnaa
