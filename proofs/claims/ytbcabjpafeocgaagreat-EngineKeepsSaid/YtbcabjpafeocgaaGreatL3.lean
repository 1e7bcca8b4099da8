/-
  Parts of the proof, joined: Room, TakeP, Take, New, Give, Ar, ArenaS, Steele, ArenaIter, CellsIter, Row, Info, Steele2, ArTake. Conditions: as each part says.
-/
import Derived.Test.YtbcabjpafeocgaaGreatL2
import Derived.Lib.SliceRun
import Derived.Test.YtbcabjpafeocgaaGreatL1
import Derived.Deep.DeepCutAuto
import Derived.Deep.Cut
import Derived.Deep.QuietTactic
import Derived.StillTailTactics
import Derived.Outline
import Derived.OwnWalkIn
import Derived.Maps.AppendAt
import Derived.Test.YtbcabjpafeocgaaGreatRows

/-
  The arena: is there room (layer 3). Conditions: as each theorem says.
-/
namespace Go.Proofs.YtbcabjpafeocgaaGreat
set_option linter.unusedVariables false
set_option linter.unusedSimpArgs false
open Go.RowKit

def AR.allFull (A : AR) (c : Int) : Prop := ∀ q, q < A.n → A.full c q
theorem gap_or_full (A : AR) (c : Int) : (∃ p k, IsGap A c p k) ∨ A.allFull c := by
  by_cases hg : ∃ p k, IsGap A c p k
  · exact .inl hg
  · refine .inr ?_
    intro q
    induction q using Nat.strongRecOn with
    | ind q ih =>
      intro hq
      by_cases h1 : A.cls q = c
      · by_cases h2 : A.cnt q = cellsZ c
        · exact .inr (.inl ⟨h1, h2⟩)
        · refine .inr (.inr ⟨h1, h2, ?_⟩)
          have key : ∀ m : Nat, (m : Int) < cellsZ c → A.has (refZ q c m) = true := by
            intro m
            induction m using Nat.strongRecOn with
            | ind m ihm =>
              intro hm
              cases hB : A.has (refZ q c m)
              · refine absurd ⟨q, (m : Int), ?_⟩ hg
                refine ⟨hq, h1, h2, by omega, hm, hB, ?_, fun p hp => ih p hp (by omega)⟩
                intro j hj0 hj1
                obtain ⟨i, rfl⟩ := Int.eq_ofNat_of_zero_le hj0
                exact ihm i (by omega) (by omega)
              · rfl
          intro k hk0 hk1
          obtain ⟨i, rfl⟩ := Int.eq_ofNat_of_zero_le hk0
          exact key i hk1
      · exact .inl h1

/-- Has the class room? -/
inductive RoomIs (A : AR) (c : Int) : Bool → Prop
  | none (h : cellsZ c = 0) : RoomIs A c false
  | gap (h : cellsZ c ≠ 0) (p : Nat) (k : Int) (hg : IsGap A c p k) : RoomIs A c true
  | page (h : cellsZ c ≠ 0) (hg : A.allFull c) (hf : 0 < A.free) : RoomIs A c true
  | full (h : cellsZ c ≠ 0) (hg : A.allFull c) (hf : A.free ≤ 0) : RoomIs A c false

theorem room_cases (A : AR) (c : Int) : ∃ b, RoomIs A c b := by
  by_cases h : cellsZ c = 0
  · exact ⟨_, .none h⟩
  · rcases gap_or_full A c with ⟨p, k, hg⟩ | hg
    · exact ⟨_, .gap h p k hg⟩
    · rcases Int.lt_or_le 0 A.free with hf | hf
      · exact ⟨_, .page h hg hf⟩
      · exact ⟨_, .full h hg hf⟩

section
variable {w : World} {a : Nat} {A : AR} {F : List Nat}

theorem ArenaAt.free_ (h : ArenaAt w a A F) : w.cell? ⟨a, 3, none⟩ = some (.int .i64 A.free) := by
  obtain ⟨pb, wb, sb, lo, rfl, hp⟩ := h
  have c0 := hp.top.cell 3
  simpa [arenaCells] using c0

theorem ARoom (h : ArenaAt w a A F) (c : Int) (b : Bool) (hr : RoomIs A c b) : Calls Tryz.prog 95 #[.pointer (some ⟨a, 0, none⟩), .int .i64 c] w fun e w' => ∃ F', e = .returned (.bool b) ∧ ArenaAt w' a A F' ∧ GrewF w F F' ∧ Chg F w w' := by
  have H := Lib.hid h
  clear h
  cases hr with
  | none h0 =>
    have H0 := Lib.hid h0
    clear h0
    go_enter Tryz.func95, Tryz.ntmps95
    go_wp2_with (go_at_call 80; refine (Cells _ _).mono ?_; rw [H0.out]; rintro e w' ⟨rfl, rfl⟩)
    go_ret
    exact ⟨F, rfl, H.out, GrewF.refl _ _, Chg.refl _ _⟩
  | gap h0 p k hg =>
    have hne : (cellsZ c == 0) = false := by simpa using h0
    have HG := Lib.hid hg
    clear hg h0
    go_enter Tryz.func95, Tryz.ntmps95
    go_wp2_with (first | (go_at_call 80; refine (Cells _ _).mono ?_; rintro e w' ⟨rfl, rfl⟩) | (go_at_call 96; refine (AGapYes H.out c p k HG.out).mono ?_; rintro e w1 ⟨F1, rfl, h1, g1, c1⟩; have H1 := Lib.hid h1; have G1 := Lib.hid g1; have C1 := Lib.hid c1; clear h1 g1 c1))
    go_ret
    exact ⟨F1, rfl, H1.out, G1.out, C1.out⟩
  | page h0 hg hf =>
    have hne : (cellsZ c == 0) = false := by simpa using h0
    have HG := Lib.hid hg
    clear hg h0
    go_enter Tryz.func95, Tryz.ntmps95
    go_wp2_with (first | (go_at_call 80; refine (Cells _ _).mono ?_; rintro e w' ⟨rfl, rfl⟩) | (go_at_call 96; refine (AGapNo H.out c HG.out).mono ?_; rintro e w1 ⟨F1, rfl, h1, g1, c1⟩; have hc := h1.free_; have H1 := Lib.hid h1; have G1 := Lib.hid g1; have C1 := Lib.hid c1; clear h1 g1 c1))
    go_ret
    exact ⟨F1, by simp, H1.out, G1.out, C1.out⟩
  | full h0 hg hf =>
    have hne : (cellsZ c == 0) = false := by simpa using h0
    have HG := Lib.hid hg
    clear hg h0
    have hnf : ¬ 0 < A.free := by omega
    go_enter Tryz.func95, Tryz.ntmps95
    go_wp2_with (first | (go_at_call 80; refine (Cells _ _).mono ?_; rintro e w' ⟨rfl, rfl⟩) | (go_at_call 96; refine (AGapNo H.out c HG.out).mono ?_; rintro e w1 ⟨F1, rfl, h1, g1, c1⟩; have hc := h1.free_; have H1 := Lib.hid h1; have G1 := Lib.hid g1; have C1 := Lib.hid c1; clear h1 g1 c1))
    go_ret
    exact ⟨F1, by simp; exact hf, H1.out, G1.out, C1.out⟩
end
end Go.Proofs.YtbcabjpafeocgaaGreat

/-
  What a take writes (layer 3). Conditions: as each theorem says.
-/
namespace Go.Proofs.YtbcabjpafeocgaaGreat
set_option linter.unusedVariables false
set_option linter.unusedSimpArgs false
open Go.RowKit

section
variable {w : World} {a : Nat} {A : AR} {pb wb sb : Nat} {lo : Option Nat}

theorem AParts.setCnt (h : AParts w a A pb wb sb lo) (p : Nat) (v : Int) : AParts (w.setCell ⟨pb, p * 2 + 1, none⟩ (.int .i64 v)) a { A with cnt := updN A.cnt p v } pb wb sb lo := by
  have hc : Chg [pb] w (w.setCell ⟨pb, p * 2 + 1, none⟩ (.int .i64 v)) := (Chg.refl _ _).setCell (.inl (by simp)) _
  refine ⟨hc.blk h.top (by simp; exact h.ap), ?_, hc.blk h.words (by simp; exact h.pw.symm), h.set_.keep hc (fun x hx => by simp; rintro rfl; exact h.sp hx), h.ap, h.aw, h.pw, h.sa, h.sp, h.sw, h.few, h.ids⟩
  rw [← pageCells_setCnt]
  exact h.pages.set_ _ _
theorem AParts.setCls (h : AParts w a A pb wb sb lo) (p : Nat) (v : Int) : AParts (w.setCell ⟨pb, p * 2, none⟩ (.int .i64 v)) a { A with cls := updN A.cls p v } pb wb sb lo := by
  have hc : Chg [pb] w (w.setCell ⟨pb, p * 2, none⟩ (.int .i64 v)) := (Chg.refl _ _).setCell (.inl (by simp)) _
  refine ⟨hc.blk h.top (by simp; exact h.ap), ?_, hc.blk h.words (by simp; exact h.pw.symm), h.set_.keep hc (fun x hx => by simp; rintro rfl; exact h.sp hx), h.ap, h.aw, h.pw, h.sa, h.sp, h.sw, h.few, h.ids⟩
  rw [← pageCells_setCls]
  exact h.pages.set_ _ _
theorem AParts.setFree (h : AParts w a A pb wb sb lo) (v : Int) : AParts (w.setCell ⟨a, 3, none⟩ (.int .i64 v)) a { A with free := v } pb wb sb lo := by
  have hc : Chg [a] w (w.setCell ⟨a, 3, none⟩ (.int .i64 v)) := (Chg.refl _ _).setCell (.inl (by simp)) _
  refine ⟨?_, hc.blk h.pages (by simp; exact h.ap.symm), hc.blk h.words (by simp; exact h.aw.symm), h.set_.keep hc (fun x hx => by simp; rintro rfl; exact h.sa hx), h.ap, h.aw, h.pw, h.sa, h.sp, h.sw, h.few, h.ids⟩
  exact (h.top.set_ 3 _).as_ (by simp [arenaCells])

/-- n words from o on are noughts. -/
def zeroed (f : Nat → Int) (o n : Nat) : Nat → Int := fun i => if o ≤ i ∧ i < o + n then 0 else f i
theorem intCells_set (f : Nat → Int) (m k : Nat) (v : Int) : (intCells f m).setIfInBounds k (.int .i64 v) = intCells (updN f k v) m := by
  apply Array.ext_getElem?
  intro i
  rw [Array.getElem?_setIfInBounds]
  by_cases hi : i < m
  · by_cases h : k = i
    · subst h
      simp [intCells, hi, updN]
    · have h' : ¬ i = k := fun e => h e.symm
      simp [intCells, hi, updN, h, h']
  · have h1 : ∀ f, (intCells f m)[i]? = none := by intro f; simp [intCells]; omega
    rw [h1, h1]
    have : ¬ i < (intCells f m).size := by simpa [intCells] using hi
    split <;> simp_all
theorem blk_zeroed {t : TypeId} {m : Nat} : ∀ (n : Nat) (o : Nat) (f : Nat → Int) (w : World), Blk w wb t (intCells f m) → Blk (w.setCells wb o (List.replicate n (.int .i64 0))) wb t (intCells (zeroed f o n) m)
  | 0, o, f, w, h => by
    have e : zeroed f o 0 = f := by funext i; unfold zeroed; rw [if_neg (by omega)]
    rw [e]; exact h
  | n + 1, o, f, w, h => by
    have h1 := h.set_ o (.int .i64 0)
    rw [intCells_set] at h1
    have h2 := blk_zeroed n (o + 1) _ _ h1
    have e : zeroed (updN f o 0) (o + 1) n = zeroed f o (n + 1) := by
      funext i
      unfold zeroed updN
      by_cases h3 : o + 1 ≤ i ∧ i < o + 1 + n
      · rw [if_pos h3, if_pos (by omega)]
      · rw [if_neg h3]
        by_cases h4 : i = o
        · rw [if_pos h4, if_pos (by omega)]
        · rw [if_neg h4, if_neg (by omega)]
    rw [e] at h2
    exact h2
theorem chg_setCells {F : List Nat} {w0 : World} (b : Nat) (hb : b ∈ F ∨ w0.heap.size ≤ b) : ∀ (vs : List Value) (o : Nat) (w : World), Chg F w0 w → Chg F w0 (w.setCells b o vs)
  | [], _, _, h => h
  | _ :: vs, o, _, h => chg_setCells b hb vs (o + 1) _ (h.setCell hb _)
theorem AParts.clear (h : AParts w a A pb wb sb lo) (o n : Nat) : AParts (w.setCells wb o (List.replicate n (.int .i64 0))) a { A with wd := zeroed A.wd o n } pb wb sb lo := by
  have hc : Chg [wb] w (w.setCells wb o (List.replicate n (.int .i64 0))) := chg_setCells wb (by simp) _ _ _ (Chg.refl _ _)
  exact ⟨hc.blk h.top (by simp; exact h.aw), hc.blk h.pages (by simp; exact h.pw), blk_zeroed n o _ _ h.words, h.set_.keep hc (fun x hx => by simp; rintro rfl; exact h.sw hx), h.ap, h.aw, h.pw, h.sa, h.sp, h.sw, h.few, h.ids⟩

theorem clear_words (n o k : Nat) (cap : Nat) (hn : 0 < n) (hk : o + n ≤ k) (f : Nat → Int) (w : World) (ty : TypeId) (h : Blk w wb 3 (intCells f k)) :
    (Builtin.clear_ #[116] ty #[.slice (some ⟨wb, o, none⟩) n cap]).run Tryz.prog w = .ok (.tuple #[]) (w.setCells wb o (List.replicate n (.int .i64 0))) :=
  Lib.run_clear_slice w 116 3 ty (.int .i64 0) Tryz.underlying116 (fun w => by kernel_rfl) rfl rfl wb o n cap hn
    (fun j hj => by rw [h.cell, intCells_get _ _ _ (by omega)]; rfl) (fun j hj => h.frozen _)

/-- Where a taken cell is taken: the page p, of the class c; its Ref is r; new: the page was free. -/
def AR.put (A : AR) (new : Bool) (c : Int) (p r : Nat) : AR :=
  { n := A.n
    cls := if new then updN A.cls p c else A.cls
    cnt := updN A.cnt p (if new then 1 else A.cnt p + 1)
    wd := zeroed A.wd (r - 1) (wordsZ c).toNat
    tk := fun j => A.tk j || decide (j = r)
    free := if new then A.free - 1 else A.free
    ids := A.ids }
end
end Go.Proofs.YtbcabjpafeocgaaGreat

/-
  The arena: a cell is taken (layer 3). Conditions: as each theorem says.
-/
namespace Go.Proofs.YtbcabjpafeocgaaGreat
set_option linter.unusedVariables false
set_option linter.unusedSimpArgs false
open Go.RowKit

theorem ref_bounds {p c k : Int} {n : Nat} (hp0 : 0 ≤ p) (hp : p < n) (h0 : 0 ≤ k) (h1 : k < cellsZ c) : p * 32 + 1 ≤ refZ p c k ∧ refZ p c k + wordsZ c ≤ p * 32 + 33 ∧ 0 < wordsZ c := by
  unfold refZ
  have : 0 < cellsZ c := by omega
  rcases class_cases c with h | rfl | rfl | rfl | h
  · rw [cellsZ_out (.inl h)] at this; omega
  · simp [cellsZ, wordsZ] at *; omega
  · simp [cellsZ, wordsZ] at *; omega
  · simp [cellsZ, wordsZ] at *; omega
  · rw [cellsZ_out (.inr h)] at this; omega

section
variable {w : World} {a : Nat} {A : AR} {F : List Nat}

theorem ATakeNo (h : ArenaAt w a A F) (c : Int) (hr : RoomIs A c false) : Calls Tryz.prog 69 #[.pointer (some ⟨a, 0, none⟩), .int .i64 c] w fun e w' => ∃ F', e = .returned (.tuple #[.int .i64 0, .bool false]) ∧ ArenaAt w' a A F' ∧ GrewF w F F' ∧ Chg F w w' := by
  have H := Lib.hid h
  clear h
  go_enter Tryz.func69, Tryz.ntmps69
  go_wp2_with (go_at_call 95; refine (ARoom H.out c false hr).mono ?_; rintro e w1 ⟨F1, rfl, h1, g1, c1⟩; have H1 := Lib.hid h1; have G1 := Lib.hid g1; have C1 := Lib.hid c1; clear h1 g1 c1)
  go_ret2
  exact ⟨F1, rfl, H1.out, G1.out, C1.out⟩

set_option maxHeartbeats 4000000 in
theorem ATakeGap (h : ArenaAt w a A F) (c : Int) (p : Nat) (k : Int) (hg : IsGap A c p k) (hc0 : 0 ≤ A.cnt p) (hc1 : A.cnt p ≤ 16) : Calls Tryz.prog 69 #[.pointer (some ⟨a, 0, none⟩), .int .i64 c] w fun e w' => ∃ F', e = .returned (.tuple #[.int .i64 (refZ p c k), .bool true]) ∧ ArenaAt w' a (A.put false c p (refZ p c k).toNat) F' ∧ GrewF w F F' ∧ Chg F w w' := by
  have hr : RoomIs A c true := .gap (by have := hg.k0; have := hg.k1; omega) p k hg
  have hin := hg.inside
  have hb := ref_bounds (p := (p : Int)) (n := A.n) (by omega) (by omega) hg.k0 hg.k1
  have HG := Lib.hid hg
  have H := Lib.hid h
  clear h hg
  go_enter Tryz.func69, Tryz.ntmps69
  go_wp2_with (first | (go_at_call 95; refine (ARoom H.out c true hr).mono ?_; rintro e w1 ⟨F1, rfl, h1, g1, c1⟩; have H1 := Lib.hid h1; have G1 := Lib.hid g1; have C1 := Lib.hid c1; clear h1 g1 c1) | (go_at_call 96; refine (AGapYes H1.out c p k HG.out).mono ?_; rintro e w2 ⟨F2, rfl, h2, g2, c2⟩; have H2 := Lib.hid h2; have G2 := Lib.hid (G1.out.trans g2 C1.out.size); have C2 := Lib.hid (C1.out.trans c2 G1.out); clear h2 g2 c2))
  have hqm : (p : Int) ≤ 1000000 := by
    obtain ⟨_, _, _, _, _, hp⟩ := H2.out
    have := hp.few
    omega
  have hp0 : (0 : Int) ≤ (p : Int) := by omega
  have hk0 := HG.out.k0
  have hk1 := HG.out.k1
  refine (ARef (p : Int) c k hp0 hqm hk0 hk1 _).mono ?_
  rintro e w' ⟨rfl, rfl⟩
  obtain ⟨pb, wb, sb, lo, rfl, hp⟩ := H2.out
  clear H2 H1 G1 C1 H
  obtain ⟨o, ho⟩ : ∃ o : Nat, refZ (p : Int) c k = ((o + 1 : Nat) : Int) := ⟨(refZ (p : Int) c k - 1).toNat, by omega⟩
  obtain ⟨n, hn⟩ : ∃ n : Nat, wordsZ c = (n : Int) := ⟨(wordsZ c).toNat, by omega⟩
  have HO := Lib.hid ho
  have HN := Lib.hid hn
  rw [ho, hn] at hb
  rw [ho]
  have hno : 0 < n := by omega
  have hle : o + n ≤ A.n * 32 := by omega
  have c2 := hp.top.cell 2
  simp [arenaCells] at c2
  have HP := Lib.hid hp
  clear hp ho hn
  go_wp2_with fail
  refine (SPutIn HP.out.set_ (by have := HP.out.few; unfold AR.size; omega) (o + 1) (by unfold AR.size; omega)).mono ?_
  rintro e w3 ⟨lo3, rfl, hs3, hg3, hc3⟩
  have hp3 := HP.out.set hs3 hg3 hc3
  have HG3 := Lib.hid (grew_arena (a := a) (pb := pb) (wb := wb) hg3)
  have HC3 := Lib.hid (hc3.mono (F' := a :: pb :: wb :: setF sb lo) (by intro x hx; simp [hx]))
  clear hs3 hg3 hc3 c2
  have d0 := hp3.top.cell 0
  have d1 := hp3.top.cell 1
  simp [arenaCells, rowAt] at d0 d1
  obtain ⟨p0, p1⟩ := hp3.page hin
  have f1 := hp3.pages.frozen (p * 2 + 1)
  simp only at p0 p1
  have hp4 := hp3.setCnt p (A.cnt p + 1)
  have hw1 : IntKind.i64.wrap (A.cnt p + 1) = A.cnt p + 1 := by rw [IntKind.wrap_i64]; omega
  have e1 := hp4.top.cell 1
  simp [arenaCells, rowAt] at e1
  have hclr : ∀ cap ty, (Builtin.clear_ #[116] ty #[.slice (some ⟨wb, o, none⟩) n cap]).run Tryz.prog (w3.setCell ⟨pb, p * 2 + 1, none⟩ (.int .i64 (A.cnt p + 1))).drew = .ok (.tuple #[]) ((w3.setCell ⟨pb, p * 2 + 1, none⟩ (.int .i64 (A.cnt p + 1))).drew.setCells wb o (List.replicate n (.int .i64 0))) :=
    fun cap ty => clear_words n o (A.n * 32) cap hno hle A.wd _ ty hp4.words.drew
  have HP3 := Lib.hid hp3
  have HP4 := Lib.hid hp4
  clear hp3 hp4
  have hs1 : IntKind.i64.wrap (((o + 1 : Nat) : Int) - 1) = (o : Int) := by rw [IntKind.wrap_i64]; omega
  obtain ⟨T, hT⟩ : ∃ T : Nat, o + n = T := ⟨_, rfl⟩
  obtain ⟨M, hM⟩ : ∃ M : Nat, A.n * 32 = M := ⟨_, rfl⟩
  have hs2 : IntKind.i64.wrap ((o : Int) + (n : Int)) = (T : Int) := by rw [IntKind.wrap_i64]; omega
  have hs0 : IntKind.i64.wrap (o : Int) = (o : Int) := by rw [IntKind.wrap_i64]; omega
  have hs3 : 0 ≤ (T : Int) ∧ (T : Int) ≤ (M : Int) := by omega
  have hs4 : 0 ≤ (o : Int) ∧ (o : Int) ≤ max (T : Int) 0 := by omega
  have hs5 : ¬ M = o := by omega
  have hs6 : T - o = n := by omega
  rw [hM] at d1 e1
  have HT := Lib.hid hT
  have HM := Lib.hid hM
  clear hT hM
  go_wp2_with fail
  go_region_with (go_at_call 94; refine (Words _ _).mono ?_; rw [HN.out]; rintro e w' ⟨rfl, rfl⟩)
  all_goals
    go_wp2_with fail
    go_ret2
    have e : A.put false c p (refZ (p : Int) c k).toNat = { A with cnt := updN A.cnt p (A.cnt p + 1), wd := zeroed A.wd o n, tk := fun j => A.tk j || decide (j = o + 1) } := by
      unfold AR.put
      rw [HO.out, HN.out]
      simp
    rw [e]
    refine ⟨_, ?_, ⟨pb, wb, sb, lo3, rfl, (HP4.out.keep ((Chg.refl [] _).drew) (by simp)).clear o n⟩, G2.out.trans HG3.out C2.out.size, ?_⟩
    · rw [HO.out]; simp
    · exact chg_setCells wb (G2.out wb (by simp)) _ _ _ (((C2.out.trans HC3.out G2.out).setCell (G2.out pb (by simp)) _).drew)

theorem updN_self (f : Nat → Int) (p : Nat) (x : Int) : updN f p x p = x := by simp [updN]
theorem updN_updN (f : Nat → Int) (p : Nat) (x y : Int) : updN (updN f p x) p y = updN f p y := by
  funext i
  simp only [updN]
  by_cases h : i = p <;> simp [h]

/-- The first free page. -/
structure FirstFree (A : AR) (p : Nat) : Prop where
  inside : p < A.n
  cls : A.cls p < 0
  ahead : ∀ q, q < p → 0 ≤ A.cls q

set_option maxHeartbeats 4000000 in
theorem ATakeNew (h : ArenaAt w a A F) (c : Int) (p : Nat) (hcz : cellsZ c ≠ 0) (hfull : A.allFull c) (hfree : 0 < A.free) (hfree2 : A.free ≤ 64) (hff : FirstFree A p) : Calls Tryz.prog 69 #[.pointer (some ⟨a, 0, none⟩), .int .i64 c] w fun e w' => ∃ F', e = .returned (.tuple #[.int .i64 (refZ p c 0), .bool true]) ∧ ArenaAt w' a (A.put true c p (refZ p c 0).toNat) F' ∧ GrewF w F F' ∧ Chg F w w' := by
  have hr : RoomIs A c true := .page hcz hfull hfree
  have hin := hff.inside
  have hk0 : (0 : Int) ≤ 0 := by omega
  have hk1 : (0 : Int) < cellsZ c := by have := cells_nonneg c; omega
  have hb := ref_bounds (p := (p : Int)) (n := A.n) (by omega) (by omega) hk0 hk1
  have HG := Lib.hid hfull
  have HF := Lib.hid hff
  have H := Lib.hid h
  clear h hff hfull
  go_enter Tryz.func69, Tryz.ntmps69
  go_wp2_with (first | (go_at_call 95; refine (ARoom H.out c true hr).mono ?_; rintro e w1 ⟨F1, rfl, h1, g1, c1⟩; have H1 := Lib.hid h1; have G1 := Lib.hid g1; have C1 := Lib.hid c1; clear h1 g1 c1) | (go_at_call 96; refine (AGapNo H1.out c HG.out).mono ?_; rintro e w2 ⟨F2, rfl, h2, g2, c2⟩; have H2 := Lib.hid h2; have G2 := Lib.hid (G1.out.trans g2 C1.out.size); have C2 := Lib.hid (C1.out.trans c2 G1.out); clear h2 g2 c2))
  have hqm : (p : Int) ≤ 1000000 := by
    obtain ⟨_, _, _, _, _, hp⟩ := H2.out
    have := hp.few
    omega
  have hp0 : (0 : Int) ≤ (p : Int) := by omega
  obtain ⟨pb, wb, sb, lo, rfl, hp⟩ := H2.out
  clear H2 H1 G1 C1 H
  have hfew := hp.few
  have d0 := hp.top.cell 0
  simp [arenaCells, rowAt] at d0
  have HP := Lib.hid hp
  clear hp
  go_loopw [6] (fun s6 wr => ∃ q : Nat, q ≤ p ∧ s6 = .int .i64 q ∧ w2 = wr) (fun s6 _ => p + 1 - (intOf s6).toNat)
  case atStart => exact ⟨0, by omega, rfl, rfl⟩
  case round =>
    obtain ⟨q, hq, rfl, rfl⟩ := hrel
    have hqn : q < A.n := by omega
    obtain ⟨p0, p1⟩ := HP.out.page hqn
    by_cases hqp : q < p
    · have hcq := HF.out.ahead q hqp
      have HQP := Lib.hid hqp
      go_wp2_with fail
      go_roundw
      case rel => exact ⟨q + 1, HQP.out, by go_num, by first | rfl | trivial⟩
      case measure => have := HQP.out; simp [intOf]; omega
    · obtain rfl : q = p := by omega
      have hcq : ¬ 0 ≤ A.cls q := by have := HF.out.cls; omega
      have f0 := HP.out.pages.frozen (q * 2)
      have f1 := HP.out.pages.frozen (q * 2 + 1)
      have k3 := HP.out.top.cell 3
      have z3 := HP.out.top.frozen 3
      simp [arenaCells] at k3
      have HAP := Lib.hid HP.out.ap
      have hne : ¬ pb = a := fun h => HAP.out h.symm
      have hwf : IntKind.i64.wrap (A.free - 1) = A.free - 1 := by rw [IntKind.wrap_i64]; omega
      have hpn := ((HP.out.setCls q c).setCnt q 0).setFree (A.free - 1)
      have HPN := Lib.hid hpn
      have d1 := hpn.top.cell 0
      simp [arenaCells, rowAt] at d1
      have k2 := hpn.top.cell 2
      simp [arenaCells] at k2
      clear hpn hqp hq
      go_wp2_with fail
      obtain ⟨A1, hA1⟩ : ∃ A1 : AR, A1 = { A with cls := updN A.cls q c, cnt := updN A.cnt q 0, free := A.free - 1 } := ⟨_, rfl⟩
      obtain ⟨w5, hw5⟩ : ∃ w5, ((w2.setCell ⟨pb, q * 2, none⟩ (.int .i64 c)).setCell ⟨pb, q * 2 + 1, none⟩ (.int .i64 0)).setCell ⟨a, 3, none⟩ (.int .i64 (A.free - 1)) = w5 := ⟨_, rfl⟩
      rw [hw5]
      have hp : AParts w5 a A1 pb wb sb lo := by rw [hA1, ← hw5]; exact HPN.out
      have C5 : Hid (Chg F w w5) := Lib.hid (by
        rw [← hw5]
        exact (((C2.out.setCell (G2.out pb (by simp)) _).setCell (G2.out pb (by simp)) _).setCell (G2.out a (by simp)) _))
      have hin1 : q < A1.n := by rw [hA1]; exact hin
      have hn1 : A1.n = A.n := by rw [hA1]
      have hc0 : 0 ≤ A1.cnt q := by rw [hA1]; simp [updN]
      have hc1 : A1.cnt q ≤ 16 := by rw [hA1]; simp [updN]
      have HA1 := Lib.hid hA1
      clear hA1 hw5 HPN HP p0 p1 f0 f1 k3 z3 d0 d1 k2 hcq hwf HAP hne
      refine (ARef (q : Int) c 0 hp0 hqm hk0 hk1 _).mono ?_
      rintro e w' ⟨rfl, rfl⟩
      obtain ⟨o, ho⟩ : ∃ o : Nat, refZ (q : Int) c 0 = ((o + 1 : Nat) : Int) := ⟨(refZ (q : Int) c 0 - 1).toNat, by omega⟩
      obtain ⟨n, hn⟩ : ∃ n : Nat, wordsZ c = (n : Int) := ⟨(wordsZ c).toNat, by omega⟩
      have HO := Lib.hid ho
      have HN := Lib.hid hn
      rw [ho, hn] at hb
      rw [ho]
      have hno : 0 < n := by omega
      have hle : o + n ≤ A1.n * 32 := by omega
      have c2 := hp.top.cell 2
      simp [arenaCells] at c2
      have HP := Lib.hid hp
      clear hp ho hn
      go_wp2_with fail
      refine (SPutIn HP.out.set_ (by have := HP.out.few; unfold AR.size; omega) (o + 1) (by unfold AR.size; omega)).mono ?_
      rintro e w3 ⟨lo3, rfl, hs3, hg3, hc3⟩
      have hp3 := HP.out.set hs3 hg3 hc3
      have HG3 := Lib.hid (grew_arena (a := a) (pb := pb) (wb := wb) hg3)
      have HC3 := Lib.hid (hc3.mono (F' := a :: pb :: wb :: setF sb lo) (by intro x hx; simp [hx]))
      clear hs3 hg3 hc3 c2
      have d0 := hp3.top.cell 0
      have d1 := hp3.top.cell 1
      simp [arenaCells, rowAt] at d0 d1
      obtain ⟨p0, p1⟩ := hp3.page hin1
      have f1 := hp3.pages.frozen (q * 2 + 1)
      simp only at p0 p1
      have hp4 := hp3.setCnt q (A1.cnt q + 1)
      have hw1 : IntKind.i64.wrap (A1.cnt q + 1) = A1.cnt q + 1 := by rw [IntKind.wrap_i64]; omega
      have e1 := hp4.top.cell 1
      simp [arenaCells, rowAt] at e1
      have hclr : ∀ cap ty, (Builtin.clear_ #[116] ty #[.slice (some ⟨wb, o, none⟩) n cap]).run Tryz.prog (w3.setCell ⟨pb, q * 2 + 1, none⟩ (.int .i64 (A1.cnt q + 1))).drew = .ok (.tuple #[]) ((w3.setCell ⟨pb, q * 2 + 1, none⟩ (.int .i64 (A1.cnt q + 1))).drew.setCells wb o (List.replicate n (.int .i64 0))) :=
        fun cap ty => clear_words n o (A1.n * 32) cap hno hle A1.wd _ ty hp4.words.drew
      have HP3 := Lib.hid hp3
      have HP4 := Lib.hid hp4
      clear hp3 hp4
      have hs1 : IntKind.i64.wrap (((o + 1 : Nat) : Int) - 1) = (o : Int) := by rw [IntKind.wrap_i64]; omega
      obtain ⟨T, hT⟩ : ∃ T : Nat, o + n = T := ⟨_, rfl⟩
      obtain ⟨M, hM⟩ : ∃ M : Nat, A1.n * 32 = M := ⟨_, rfl⟩
      have hs2 : IntKind.i64.wrap ((o : Int) + (n : Int)) = (T : Int) := by rw [IntKind.wrap_i64]; omega
      have hs0 : IntKind.i64.wrap (o : Int) = (o : Int) := by rw [IntKind.wrap_i64]; omega
      have hs3 : 0 ≤ (T : Int) ∧ (T : Int) ≤ (M : Int) := by omega
      have hs4 : 0 ≤ (o : Int) ∧ (o : Int) ≤ max (T : Int) 0 := by omega
      have hs5 : ¬ M = o := by omega
      have hs6 : T - o = n := by omega
      rw [hM] at d1 e1
      have HT := Lib.hid hT
      have HM := Lib.hid hM
      clear hT hM
      go_wp2_with fail
      go_region_with (go_at_call 94; refine (Words _ _).mono ?_; rw [HN.out]; rintro e w' ⟨rfl, rfl⟩)
      all_goals
        go_wp2_with fail
        go_ret2
        have e : A.put true c q (refZ (q : Int) c 0).toNat = { A1 with cnt := updN A1.cnt q (A1.cnt q + 1), wd := zeroed A1.wd o n, tk := fun j => A1.tk j || decide (j = o + 1) } := by
          unfold AR.put
          rw [HO.out, HN.out, HA1.out]
          simp [updN_self, updN_updN]
        rw [e]
        refine ⟨_, ?_, ⟨pb, wb, sb, lo3, rfl, (HP4.out.keep ((Chg.refl [] _).drew) (by simp)).clear o n⟩, G2.out.trans HG3.out C5.out.size, ?_⟩
        · rw [HO.out]; simp
        · exact chg_setCells wb (G2.out wb (by simp)) _ _ _ (((C5.out.trans HC3.out G2.out).setCell (G2.out pb (by simp)) _).drew)
end
end Go.Proofs.YtbcabjpafeocgaaGreat

/-
  A new arena (layer 3). Conditions: as each theorem says.
-/
namespace Go.Proofs.YtbcabjpafeocgaaGreat
set_option linter.unusedVariables false
set_option linter.unusedSimpArgs false
open Go.RowKit

def AR.new (m : Nat) (ids : Nat × Nat × Nat) : AR := ⟨m, fun _ => -1, fun _ => 0, fun _ => 0, fun _ => false, (m : Int), ids⟩

theorem pageCells_made (m : Nat) : madeCells #[.int .i64 0, .int .i64 0] (m * 2) = pageCells (fun _ => 0) (fun _ => 0) m := by
  apply Array.ext
  · simp [pageCells, size_madeCells]
  · intro i h1 h2
    have : i % 2 = 0 ∨ i % 2 = 1 := by omega
    rcases this with h | h <;> simp [pageCells, madeCells, h]
theorem intCells_made (m : Nat) : madeCells #[.int .i64 0] m = intCells (fun _ => 0) m := by
  apply Array.ext
  · simp [intCells, size_madeCells]
  · intro i h1 h2
    simp [intCells, madeCells, Nat.mod_one]

theorem mk_pages (m : Nat) (hm : m ≤ 1000000) (w : World) : (Instr.makeSlice 115 (.int .i64 (m : Int)) (.int .i64 (m : Int))).run Tryz.prog w = .ok (rowAt w.heap.size m) (w.alloc (.cells (pageCells (fun _ => 0) (fun _ => 0) m) 120)) := by
  obtain ⟨i, hi, hh⟩ := Option.map_eq_some_iff.1 (show (Tryz.prog.info? 120).map (fun i => (i.zero, i.size, i.bytes)) = some (some (.agg #[.int .i64 0, .int .i64 0]), 2, 16) by kernel_rfl)
  simp only [Prod.mk.injEq] at hh
  obtain ⟨hz, hs, hb⟩ := hh
  have := run_make (P := Tryz.prog) w 115 120 i (.agg #[.int .i64 0, .int .i64 0]) Tryz.underlying115 hi hz .i64 .i64 m m (by omega) (Int.le_refl _) (by rw [hb]; omega) (by omega)
  rw [this, hs]
  simp [Value.cells, pageCells_made, rowAt]
theorem mk_ints (m : Nat) (hm : m ≤ 1000000) (w : World) : (Instr.makeSlice 116 (.int .i64 (m : Int)) (.int .i64 (m : Int))).run Tryz.prog w = .ok (rowAt w.heap.size m) (w.alloc (.cells (intCells (fun _ => 0) m) 3)) := by
  obtain ⟨i, hi, hh⟩ := Option.map_eq_some_iff.1 (show (Tryz.prog.info? 3).map (fun i => (i.zero, i.size, i.bytes)) = some (some (.int .i64 0), 1, 8) by kernel_rfl)
  simp only [Prod.mk.injEq] at hh
  obtain ⟨hz, hs, hb⟩ := hh
  have := run_make (P := Tryz.prog) w 116 3 i (.int .i64 0) Tryz.underlying116 hi hz .i64 .i64 m m (by omega) (Int.le_refl _) (by rw [hb]; omega) (by omega)
  rw [this, hs]
  simp [Value.cells, intCells_made, rowAt]

theorem ASizeRaw (w : World) (a pb n : Nat) (hn : n ≤ 64) (c0 : w.cell? ⟨a, 0, none⟩ = some (rowAt pb n)) : Calls Tryz.prog 47 #[.pointer (some ⟨a, 0, none⟩)] w fun e w' => e = .returned (.int .i64 ((n * 32 + 1 : Nat) : Int)) ∧ w = w' := by
  have h1 : IntKind.i64.wrap ((n : Int) * 32) = (n : Int) * 32 := by rw [IntKind.wrap_i64]; omega
  have h2 : IntKind.i64.wrap ((n : Int) * 32 + 1) = (n : Int) * 32 + 1 := by rw [IntKind.wrap_i64]; omega
  unfold rowAt at c0
  go_enter Tryz.func47, Tryz.ntmps47
  go_wp2_with fail
  go_ret
  exact ⟨by simp, rfl⟩

/-- A new arena ahead of its set: its three blocks. -/
structure Bare (w : World) (a pb wb m : Nat) (c : Nat → Int) : Prop where
  top : Blk w a 118 #[rowAt pb m, rowAt wb (m * 32), .pointer none, .int .i64 (m : Int)]
  pages : Blk w pb 120 (pageCells c (fun _ => 0) m)
  words : Blk w wb 3 (intCells (fun _ => 0) (m * 32))
  ap : a ≠ pb
  aw : a ≠ wb
  pw : pb ≠ wb

set_option maxHeartbeats 2000000 in
theorem ANew (n : Int) (m : Nat) (hm : (m : Int) = min (max n 0) 64) (w : World) : Calls Tryz.prog 42 #[.int .i64 n] w fun e w' => ∃ a F ids, e = .returned (.pointer (some ⟨a, 0, none⟩)) ∧ ArenaAt w' a (AR.new m ids) F ∧ (∀ x ∈ F, w.heap.size ≤ x) ∧ Chg [] w w' := by
  have hm64 : m ≤ 64 := by omega
  have hmk1 : ∀ w, (Instr.makeSlice 115 (.int .i64 (m : Int)) (.int .i64 (m : Int))).run Tryz.prog w = .ok (.slice (some ⟨w.heap.size, 0, none⟩) m m) (w.alloc (.cells (pageCells (fun _ => 0) (fun _ => 0) m) 120)) := mk_pages m (by omega)
  have hmk2 : ∀ w, (Instr.makeSlice 116 (.int .i64 ((m : Int) * 32)) (.int .i64 ((m : Int) * 32))).run Tryz.prog w = .ok (.slice (some ⟨w.heap.size, 0, none⟩) (m * 32) (m * 32)) (w.alloc (.cells (intCells (fun _ => 0) (m * 32)) 3)) := fun w => by
    have := mk_ints (m * 32) (by omega) w
    simpa [rowAt] using this
  have hmul : IntKind.i64.wrap ((m : Int) * 32) = (m : Int) * 32 := by rw [IntKind.wrap_i64]; omega
  go_enter Tryz.func42, Tryz.ntmps42
  go_upto_region 2 with (fail)
  have hval : (if 64 < (if n < 0 then 0 else n) then 64 else if n < 0 then 0 else n) = (m : Int) := by
    rw [hm]
    split <;> split at * <;> omega
  rw [hval]
  clear hm hval
  generalize (if n < 0 then (0 : Int) else n) = X
  go_cut [4] (fun s4 wx => ∃ a pb wb, s4 = .pointer (some ⟨a, 0, none⟩) ∧ Bare wx a pb wb m (fun _ => 0) ∧ w.heap.size ≤ a ∧ w.heap.size ≤ pb ∧ w.heap.size ≤ wb ∧ Chg [] w wx)
  case first =>
    go_region
    all_goals go_wp2_with fail
    all_goals go_meet
    · refine ⟨w.heap.size + 1 + 1, w.heap.size, w.heap.size + 1, rfl, ?_, by omega, by omega, by omega, (((Chg.refl _ _).alloc _).alloc _).alloc _ |>.drew⟩
      have h1 := ((Blk.new w 120 (pageCells (fun _ => 0) (fun _ => 0) m)).alloc (.cells (intCells (fun _ => 0) (m * 32)) 3))
      have h2 := Blk.new (w.alloc (.cells (pageCells (fun _ => 0) (fun _ => 0) m) 120)) 3 (intCells (fun _ => 0) (m * 32))
      have h3 := Blk.new ((w.alloc (.cells (pageCells (fun _ => 0) (fun _ => 0) m) 120)).alloc (.cells (intCells (fun _ => 0) (m * 32)) 3)) 118 #[rowAt w.heap.size m, rowAt (w.heap.size + 1) (m * 32), .pointer none, .int .i64 (m : Int)]
      simp at h2 h3
      exact ⟨h3.drew, (h1.alloc _).drew, (h2.alloc _).drew, by omega, by omega, by omega⟩
    · refine ⟨w.heap.size + 1 + 1, w.heap.size + 1, w.heap.size, rfl, ?_, by omega, by omega, by omega, (((Chg.refl _ _).alloc _).alloc _).alloc _ |>.drew⟩
      have h1 := ((Blk.new w 3 (intCells (fun _ => 0) (m * 32))).alloc (.cells (pageCells (fun _ => 0) (fun _ => 0) m) 120))
      have h2 := Blk.new (w.alloc (.cells (intCells (fun _ => 0) (m * 32)) 3)) 120 (pageCells (fun _ => 0) (fun _ => 0) m)
      have h3 := Blk.new ((w.alloc (.cells (intCells (fun _ => 0) (m * 32)) 3)).alloc (.cells (pageCells (fun _ => 0) (fun _ => 0) m) 120)) 118 #[rowAt (w.heap.size + 1) m, rowAt w.heap.size (m * 32), .pointer none, .int .i64 (m : Int)]
      simp at h2 h3
      exact ⟨h3.drew, (h2.alloc _).drew, (h1.alloc _).drew, by omega, by omega, by omega⟩
  case rest =>
    obtain ⟨a, pb, wb, rfl, hbare, ha, hpb, hwb, hC⟩ := hcut
    have HB := Lib.hid hbare
    have HC := Lib.hid hC
    have d0 := hbare.top.cell 0
    simp [rowAt] at d0
    clear hbare hC hmk1 hmk2 hmul
    go_wp2_with fail
    clear d0
    go_loopw [22] (fun i wr => ∃ k : Nat, k ≤ m ∧ i = .int .i64 k ∧ Bare wr a pb wb m (fun j => if j < k then -1 else 0) ∧ Chg [] w wr) (fun i _ => m - (intOf i).toNat)
    case atStart => exact ⟨0, by omega, rfl, by simpa using HB.out, HC.out⟩
    case round =>
      obtain ⟨k, hk, rfl, hb, hC⟩ := hrel
      clear HB HC
      by_cases hlt : k < m
      · have d0 := hb.top.cell 0
        simp [rowAt] at d0
        have p0 := hb.pages.cell (k * 2)
        rw [pageCells_cls _ _ _ _ hlt] at p0
        have f0 := hb.pages.frozen (k * 2)
        have hcg : Chg [pb] wr (wr.setCell ⟨pb, k * 2, none⟩ (.int .i64 (-1))) := (Chg.refl _ _).setCell (.inl (by simp)) _
        have hb2 : Bare (wr.setCell ⟨pb, k * 2, none⟩ (.int .i64 (-1))) a pb wb m (fun j => if j < k + 1 then -1 else 0) := by
          refine ⟨hcg.blk hb.top (by simp; exact hb.ap), ?_, hcg.blk hb.words (by simp; exact hb.pw.symm), hb.ap, hb.aw, hb.pw⟩
          have := hb.pages.set_ (k * 2) (.int .i64 (-1))
          rw [pageCells_setCls] at this
          refine this.as_ ?_
          congr 1
          funext j
          simp only [updN]
          by_cases h1 : j = k
          · subst h1; simp
          · rw [if_neg h1]
            by_cases h2 : j < k
            · rw [if_pos h2, if_pos (by omega)]
            · rw [if_neg h2, if_neg (by omega)]
        have HB2 := Lib.hid hb2
        have HC2 := Lib.hid (hC.setCell (p := ⟨pb, k * 2, none⟩) (.inr hpb) (.int .i64 (-1)))
        have HLT := Lib.hid hlt
        have hk0 : (0 : Int) ≤ (k : Int) := by omega
        clear hb hC hcg hb2
        go_wp2_with fail
        go_roundw
        case rel => exact ⟨k + 1, HLT.out, by go_num, HB2.out, HC2.out⟩
        case measure => have := HLT.out; simp [intOf]; omega
      · obtain rfl : k = m := by omega
        have d0 := hb.top.cell 0
        simp [rowAt] at d0
        have HB := Lib.hid hb
        have HC := Lib.hid hC
        clear hb hC
        have HTOP := Lib.hid d0
        have t2 := HB.out.top.cell 2
        have ft := HB.out.top.frozen 2
        simp at t2
        go_wp2_with fail
        refine (ASizeRaw _ a pb _ hm64 HTOP.out).mono ?_
        rintro e w' ⟨rfl, rfl⟩
        go_wp2_with fail
        refine (SNew _ (by omega) _).mono ?_
        rintro e w5 ⟨rfl, hs, hc⟩
        have hsa : a ≠ wr.heap.size := by have := HB.out.top.lt; omega
        have hsp : pb ≠ wr.heap.size := by have := HB.out.pages.lt; omega
        have hsw : wb ≠ wr.heap.size := by have := HB.out.words.lt; omega
        have top5 := hc.blk HB.out.top (by simp)
        have pg5 := hc.blk HB.out.pages (by simp)
        have wd5 := hc.blk HB.out.words (by simp)
        have t5 := top5.cell 2
        have f5 := top5.frozen 2
        simp at t5
        have d5 := top5.cell 0
        simp [rowAt] at d5
        obtain ⟨sb, hsb⟩ : ∃ sb, wr.heap.size = sb := ⟨_, rfl⟩
        rw [hsb] at hsa hsp hsw hs
        have hcg : Chg [a] w5 (w5.setCell ⟨a, 2, none⟩ (.pointer (some ⟨sb, 0, none⟩))) := (Chg.refl _ _).setCell (.inl (by simp)) _
        have hfin : AParts (w5.setCell ⟨a, 2, none⟩ (.pointer (some ⟨sb, 0, none⟩))) a (AR.new k (pb, wb, sb)) pb wb sb none := by
          refine ⟨?_, ?_, hcg.blk wd5 (by simp; exact HB.out.aw.symm), ?_, HB.out.ap, HB.out.aw, HB.out.pw, by simpa [setF] using hsa, by simpa [setF] using hsp, by simpa [setF] using hsw, hm64, rfl⟩
          · exact (top5.set_ 2 _).as_ (by simp [arenaCells, AR.new])
          · have := hcg.blk pg5 (by simp; exact HB.out.ap.symm)
            refine this.as_ ?_
            unfold AR.new
            simp only
            unfold pageCells
            congr 1
            funext i
            have : i.val / 2 < k := by omega
            simp [this]
          · refine SetIs.keep ?_ hcg (fun x hx => by simp [setF] at hx; subst hx; simp; exact fun h => hsa h.symm)
            simpa [AR.size, AR.new] using hs
        have HFIN := Lib.hid hfin
        have HCF := Lib.hid ((HC.out.trans (hc.mono (F' := []) (by simp)) (by simp)).setCell (p := ⟨a, 2, none⟩) (.inr ha) (.pointer (some ⟨sb, 0, none⟩)))
        have HSB := Lib.hid (show w.heap.size ≤ sb by have := HC.out.size; omega)
        clear hfin hcg hs hc top5 pg5 wd5 t2 ft HTOP
        rw [hsb]
        clear hsb
        go_wp2_with fail
        go_ret
        refine ⟨a, _, _, rfl, ⟨pb, wb, sb, none, rfl, HFIN.out⟩, ?_, HCF.out⟩
        intro x hx
        simp [setF] at hx
        rcases hx with rfl | rfl | rfl | rfl
        · exact ha
        · exact hpb
        · exact hwb
        · exact HSB.out
end Go.Proofs.YtbcabjpafeocgaaGreat

/-
  The arena: a cell is given back (layer 3). Conditions: as each theorem says.
-/
namespace Go.Proofs.YtbcabjpafeocgaaGreat
set_option linter.unusedVariables false
set_option linter.unusedSimpArgs false
open Go.RowKit

/-- The cell r is given back: its page has one less; a page without is free. -/
def AR.drop (A : AR) (r : Nat) : AR :=
  { n := A.n
    cls := if A.cnt ((r - 1) / 32) = 1 then updN A.cls ((r - 1) / 32) (-1) else A.cls
    cnt := updN A.cnt ((r - 1) / 32) (A.cnt ((r - 1) / 32) - 1)
    wd := A.wd
    tk := fun j => A.tk j && !decide (j = r)
    free := if A.cnt ((r - 1) / 32) = 1 then A.free + 1 else A.free
    ids := A.ids }

section
variable {w : World} {a : Nat} {A : AR} {F : List Nat}

theorem ArenaAt.size_ (h : ArenaAt w a A F) : A.size ≤ 100000 := by
  obtain ⟨_, _, _, _, _, hp⟩ := h
  have := hp.few
  unfold AR.size
  omega

end
end Go.Proofs.YtbcabjpafeocgaaGreat

/-
  The arena as plain data: what holds of it always, what a take and a give do (layer 3). Conditions: as each theorem says; no walk.
-/
namespace Go.Proofs.YtbcabjpafeocgaaGreat
set_option linter.unusedVariables false
set_option linter.unusedSimpArgs false
open Go.RowKit

def wN (c : Int) : Nat := (wordsZ c).toNat
def cN (c : Int) : Nat := (cellsZ c).toNat
def refN (p : Nat) (c : Int) (k : Nat) : Nat := p * 32 + k * wN c + 1

theorem class_nat (c : Int) (h : 0 < cN c) : c = 0 ∧ cN c = 16 ∧ wN c = 2 ∨ c = 1 ∧ cN c = 8 ∧ wN c = 4 ∨ c = 2 ∧ cN c = 4 ∧ wN c = 8 := by
  rcases class_cases c with h1 | rfl | rfl | rfl | h1
  · unfold cN at h; rw [cellsZ_out (.inl h1)] at h; simp at h
  · exact .inl ⟨rfl, rfl, rfl⟩
  · exact .inr (.inl ⟨rfl, rfl, rfl⟩)
  · exact .inr (.inr ⟨rfl, rfl, rfl⟩)
  · unfold cN at h; rw [cellsZ_out (.inr h1)] at h; simp at h
theorem cN_of (c : Int) (h0 : 0 ≤ c) (h2 : c ≤ 2) : 0 < cN c := by
  rcases (by omega : c = 0 ∨ c = 1 ∨ c = 2) with rfl | rfl | rfl <;> decide
theorem cN_out {c : Int} (h : c < 0 ∨ 3 ≤ c) : cN c = 0 := by unfold cN; rw [cellsZ_out h]; rfl
theorem cells_cN (c : Int) : cellsZ c = (cN c : Int) := by have := cells_nonneg c; unfold cN; omega
theorem words_wN (c : Int) : wordsZ c = (wN c : Int) := by have := words_nonneg c; unfold wN; omega
theorem refZ_refN (p : Nat) (c : Int) (k : Nat) : refZ (p : Int) c (k : Int) = ((refN p c k : Nat) : Int) := by
  unfold refZ refN
  rw [words_wN]
  simp
theorem ref_in {p : Nat} {c : Int} {k : Nat} (hk : k < cN c) : p * 32 + 1 ≤ refN p c k ∧ refN p c k + wN c ≤ p * 32 + 33 ∧ 0 < wN c ∧ (refN p c k - 1) / 32 = p ∧ (refN p c k - 1) % 32 = k * wN c := by
  unfold refN
  rcases class_nat c (by omega) with ⟨rfl, h1, h2⟩ | ⟨rfl, h1, h2⟩ | ⟨rfl, h1, h2⟩ <;> rw [h1] at hk <;> rw [h2] <;> omega
theorem ref_inj {p p' : Nat} {c : Int} {k k' : Nat} (hk : k < cN c) (hk' : k' < cN c) (h : refN p c k = refN p' c k') : p = p' ∧ k = k' := by
  have h1 := (ref_in (p := p) hk).2.2.2
  have h2 := (ref_in (p := p') hk').2.2.2
  rw [h] at h1
  refine ⟨by omega, ?_⟩
  have h3 : k * wN c = k' * wN c := by omega
  exact Nat.eq_of_mul_eq_mul_right (ref_in (p := p) hk).2.2.1 h3

/-- What holds of an arena always. -/
structure AR.Wf (A : AR) : Prop where
  few : A.n ≤ 64
  cls : ∀ p, p < A.n → A.cls p = -1 ∨ (0 ≤ A.cls p ∧ A.cls p ≤ 2)
  cell : ∀ r, A.tk r = true → ∃ p k, p < A.n ∧ 0 ≤ A.cls p ∧ k < cN (A.cls p) ∧ r = refN p (A.cls p) k
  cnt : ∀ p, p < A.n → A.cnt p = (((List.range (cN (A.cls p))).countP fun k => A.tk (refN p (A.cls p) k) : Nat) : Int)
  some_ : ∀ p, p < A.n → 0 ≤ A.cls p → 0 < A.cnt p
  free : A.free = (((List.range A.n).countP fun p => decide (A.cls p < 0) : Nat) : Int)

theorem countP_all {l : List Nat} {f : Nat → Bool} (h : ∀ x ∈ l, f x = true) : l.countP f = l.length := List.countP_eq_length.2 h
theorem countP_none {l : List Nat} {f : Nat → Bool} (h : ∀ x ∈ l, f x = false) : l.countP f = 0 := List.countP_eq_zero.2 (fun x hx => by simp [h x hx])
theorem countP_same {l : List Nat} {f g : Nat → Bool} (h : ∀ x ∈ l, f x = g x) : l.countP f = l.countP g := List.countP_congr (fun x hx => by simp [h x hx])
theorem countP_up {n k : Nat} {f g : Nat → Bool} (hk : k < n) (hf : f k = false) (hg : g k = true) (h : ∀ x, x < n → x ≠ k → g x = f x) : (List.range n).countP g = (List.range n).countP f + 1 := by
  induction n with
  | zero => omega
  | succ n ih =>
    rw [List.range_succ, List.countP_append, List.countP_append]
    by_cases e : k = n
    · subst e
      rw [countP_same (l := List.range k) (f := g) (g := f) (fun x hx => by simp at hx; exact h x (by omega) (by omega))]
      simp [hf, hg]
    · rw [ih (by omega) (fun x hx hne => h x (by omega) hne)]
      have := h n (by omega) (fun e' => e e'.symm)
      simp [List.countP_cons, this]
      omega

theorem AR.new_wf (m : Nat) (ids : Nat × Nat × Nat) (hm : m ≤ 64) : (AR.new m ids).Wf := by
  refine ⟨hm, fun p _ => .inl rfl, fun r h => by simp [AR.new] at h, fun p _ => ?_, fun p _ h => ?_, ?_⟩
  · rw [countP_none (by intro x _; rfl)]; rfl
  · simp [AR.new] at h
  · rw [countP_all (by intro x _; rfl)]; simp [AR.new]

variable {A : AR}

theorem AR.Wf.cnt_le (h : A.Wf) {p : Nat} (hp : p < A.n) : 0 ≤ A.cnt p ∧ A.cnt p ≤ 16 := by
  rw [h.cnt p hp]
  have h1 : (List.range (cN (A.cls p))).countP (fun k => A.tk (refN p (A.cls p) k)) ≤ _ := List.countP_le_length
  have h2 := cells_nonneg (A.cls p)
  rw [cells_cN] at h2
  simp at h1
  omega
theorem AR.Wf.free_le (h : A.Wf) : 0 ≤ A.free ∧ A.free ≤ 64 := by
  rw [h.free]
  have h1 : (List.range A.n).countP (fun p => decide (A.cls p < 0)) ≤ _ := List.countP_le_length
  have := h.few
  simp at h1
  omega
theorem AR.Wf.lt (h : A.Wf) {r : Nat} (hr : A.tk r = true) : 1 ≤ r ∧ r < A.n * 32 + 1 ∧ (r : Int) < A.size := by
  obtain ⟨p, k, hp, h0, hk, rfl⟩ := h.cell r hr
  have := ref_in (p := p) hk
  unfold AR.size
  omega
theorem AR.Wf.has (h : A.Wf) (r : Nat) : A.has (r : Int) = A.tk r := by
  unfold AR.has
  cases hr : A.tk r
  · simp [hr]
  · have := (h.lt hr).2.2
    simp [this, hr]
theorem AR.Wf.has_neg (_h : A.Wf) {r : Int} (hr : r < 0) : A.has r = false := by
  unfold AR.has
  simp
  intro h
  omega

/-- The least free cell of pages of a class. -/
def AR.cellsL (A : AR) (c : Int) : List (Nat × Nat) := (List.range A.n).flatMap fun p => if A.cls p = c then (List.range (cN c)).map fun k => (p, k) else []
def AR.gapP (A : AR) (c : Int) : Option (Nat × Nat) := (A.cellsL c).find? fun x => !A.tk (refN x.1 c x.2)
def AR.freeP (A : AR) : Option Nat := (List.range A.n).find? fun p => decide (A.cls p < 0)
/-- What a take of a class comes to. -/
def AR.take (A : AR) (c : Int) : Option (Nat × AR) :=
  if cN c = 0 then none else
  match A.gapP c with
  | some (p, k) => some (refN p c k, A.put false c p (refN p c k))
  | none => match A.freeP with
    | some p => some (refN p c 0, A.put true c p (refN p c 0))
    | none => none

def lexLt (x y : Nat × Nat) : Prop := x.1 < y.1 ∨ x.1 = y.1 ∧ x.2 < y.2
theorem find_least {α : Type} {R : α → α → Prop} {f : α → Bool} : ∀ {l : List α} {b : α}, l.Pairwise R → l.find? f = some b → b ∈ l ∧ f b = true ∧ ∀ x ∈ l, f x = true → x = b ∨ R b x
  | [], _, _, h => by simp at h
  | a :: l, b, hp, h => by
    rw [List.pairwise_cons] at hp
    rw [List.find?_cons] at h
    cases hf : f a
    · rw [hf] at h
      obtain ⟨h1, h2, h3⟩ := find_least hp.2 h
      refine ⟨List.mem_cons_of_mem _ h1, h2, fun x hx hfx => ?_⟩
      rcases List.mem_cons.1 hx with rfl | hx
      · rw [hf] at hfx; cases hfx
      · exact h3 x hx hfx
    · rw [hf] at h
      simp at h
      subst h
      refine ⟨List.mem_cons_self, hf, fun x hx _ => ?_⟩
      rcases List.mem_cons.1 hx with rfl | hx
      · exact .inl rfl
      · exact .inr (hp.1 x hx)
theorem cellsL_sorted (A : AR) (c : Int) : (A.cellsL c).Pairwise lexLt := by
  unfold AR.cellsL
  rw [List.pairwise_flatMap]
  refine ⟨fun p _ => ?_, ?_⟩
  · split
    · rw [List.pairwise_map]
      exact List.pairwise_lt_range.imp (fun h => .inr ⟨rfl, h⟩)
    · exact List.Pairwise.nil
  · refine List.pairwise_lt_range.imp ?_
    intro p q hpq x hx y hy
    split at hx
    · split at hy
      · simp at hx hy
        obtain ⟨_, _, rfl⟩ := hx
        obtain ⟨_, _, rfl⟩ := hy
        exact .inl hpq
      · simp at hy
    · simp at hx
theorem mem_cellsL {c : Int} {p k : Nat} : (p, k) ∈ A.cellsL c ↔ p < A.n ∧ A.cls p = c ∧ k < cN c := by
  unfold AR.cellsL
  simp only [List.mem_flatMap, List.mem_range]
  constructor
  · rintro ⟨q, hq, h⟩
    split at h
    · simp at h
      obtain ⟨h1, rfl⟩ := h
      exact ⟨hq, by assumption, h1⟩
    · simp at h
  · rintro ⟨h1, h2, h3⟩
    exact ⟨p, h1, by rw [if_pos h2]; simp [h3]⟩

theorem AR.Wf.full_of (h : A.Wf) {c : Int} {q : Nat} (hq : q < A.n) (hc : 0 < cN c) (ha : A.cls q = c → ∀ k, k < cN c → A.tk (refN q c k) = true) : A.full c q := by
  by_cases h1 : A.cls q = c
  · refine .inr (.inl ⟨h1, ?_⟩)
    rw [h.cnt q hq, h1, countP_all (by intro x hx; simp at hx; exact ha h1 x hx), cells_cN]
    simp
  · exact .inl h1
theorem AR.Wf.gap_is (h : A.Wf) {c : Int} {p k : Nat} (hg : A.gapP c = some (p, k)) : IsGap A c p k ∧ k < cN c := by
  obtain ⟨h1, h2, h3⟩ := find_least (cellsL_sorted A c) hg
  obtain ⟨hp, hc, hk⟩ := mem_cellsL.1 h1
  simp at h2
  have hC : 0 < cN c := by omega
  have key : ∀ q j, q < A.n → A.cls q = c → j < cN c → lexLt (q, j) (p, k) → A.tk (refN q c j) = true := by
    intro q j hq hqc hj hlt
    cases ht : A.tk (refN q c j)
    · rcases h3 (q, j) (mem_cellsL.2 ⟨hq, hqc, hj⟩) (by simp [ht]) with e | hl
      · simp at e
        obtain ⟨rfl, rfl⟩ := e
        rcases hlt with h | h <;> simp at h
      · rcases hlt with h | h <;> rcases hl with h' | h' <;> simp at h h' <;> omega
    · rfl
  refine ⟨⟨hp, hc, ?_, by omega, by rw [cells_cN]; omega, ?_, ?_, ?_⟩, hk⟩
  · rw [h.cnt p hp, hc, cells_cN]
    intro e
    have e2 : (List.range (cN c)).countP (fun j => A.tk (refN p c j)) = (List.range (cN c)).length := by simp; omega
    have := List.countP_eq_length.1 e2 k (by simp [hk])
    rw [h2] at this
    cases this
  · rw [refZ_refN, h.has]; exact h2
  · intro j hj0 hj1
    obtain ⟨j, rfl⟩ := Int.eq_ofNat_of_zero_le hj0
    rw [refZ_refN, h.has]
    exact key p j hp hc (by omega) (.inr ⟨rfl, by simp; omega⟩)
  · intro q hq
    exact h.full_of (by omega) hC (fun hqc j hj => key q j (by omega) hqc hj (.inl hq))
theorem AR.Wf.gap_none (h : A.Wf) {c : Int} (hc : 0 < cN c) (hg : A.gapP c = none) : A.allFull c := by
  intro q hq
  refine h.full_of hq hc (fun hqc k hk => ?_)
  have := List.find?_eq_none.1 hg (q, k) (mem_cellsL.2 ⟨hq, hqc, hk⟩)
  simpa using this
theorem AR.Wf.free_is (_h : A.Wf) {p : Nat} (hg : A.freeP = some p) : FirstFree A p := by
  obtain ⟨h1, h2, h3⟩ := find_least (List.pairwise_lt_range (n := A.n)) hg
  simp at h1 h2
  refine ⟨h1, h2, fun q hq => ?_⟩
  by_cases hn : A.cls q < 0
  · rcases h3 q (by simp; omega) (by simpa using hn) with e | e <;> omega
  · omega
theorem AR.Wf.free_none (h : A.Wf) : A.freeP = none ↔ A.free ≤ 0 := by
  rw [h.free]
  unfold AR.freeP
  rw [List.find?_eq_none]
  constructor
  · intro hn
    rw [countP_none (by intro x hx; simpa using hn x hx)]
    simp
  · intro hn x hx
    have h1 : (List.range A.n).countP (fun p => decide (A.cls p < 0)) = 0 := by omega
    have := List.countP_eq_zero.1 h1 x hx
    simpa using this

/-- Is there room for a cell of a class? -/
theorem AR.Wf.room (h : A.Wf) (c : Int) : RoomIs A c (A.take c).isSome := by
  unfold AR.take
  by_cases hc : cN c = 0
  · rw [if_pos hc]
    exact .none (by rw [cells_cN, hc]; rfl)
  · rw [if_neg hc]
    have hz : cellsZ c ≠ 0 := by rw [cells_cN]; omega
    cases hg : A.gapP c with
    | some x =>
      obtain ⟨p, k⟩ := x
      exact .gap hz p k (h.gap_is hg).1
    | none =>
      have hf := h.gap_none (by omega) hg
      cases hp : A.freeP with
      | some p =>
        refine .page hz hf ?_
        have h1 := mt h.free_none.2 (by rw [hp]; simp)
        omega
      | none => exact .full hz hf (h.free_none.1 hp)

theorem put_gap_wf (h : A.Wf) {c : Int} {p k : Nat} (hg : A.gapP c = some (p, k)) : (A.put false c p (refN p c k)).Wf := by
  obtain ⟨hg, hk⟩ := h.gap_is hg
  have hp := hg.inside
  have hc := hg.cls
  have ht : A.tk (refN p c k) = false := by have := hg.free; rw [refZ_refN, h.has] at this; exact this
  refine ⟨h.few, h.cls, ?_, ?_, ?_, h.free⟩
  · intro r hr
    simp [AR.put] at hr
    rcases hr with hr | rfl
    · exact h.cell r hr
    · refine ⟨p, k, hp, ?_, by simpa [AR.put, hc] using hk, by simp [AR.put, hc]⟩
      simp only [AR.put]
      rcases class_nat c (by omega) with ⟨rfl, _⟩ | ⟨rfl, _⟩ | ⟨rfl, _⟩ <;> simp [hc]
  · intro q hq
    simp only [AR.put, Bool.false_eq_true, if_false]
    by_cases e : q = p
    · subst e
      rw [updN_self, h.cnt q hp, hc]
      have := countP_up (n := cN c) (k := k) (f := fun j => A.tk (refN q c j)) (g := fun j => A.tk (refN q c j) || decide (refN q c j = refN q c k)) hk ht (by simp) (by
        intro x hx hne
        have : refN q c x ≠ refN q c k := fun e => hne (ref_inj hx hk e).2
        simp [this])
      omega
    · simp only [updN, if_neg e]
      have hq' : q < A.n := hq
      rw [h.cnt q hq']
      congr 1
      refine countP_same (fun x hx => ?_)
      simp at hx
      have : refN q (A.cls q) x ≠ refN p c k := by
        intro e2
        have h1 := (ref_in (p := q) hx).2.2.2.1
        have h2 := (ref_in (p := p) hk).2.2.2.1
        rw [e2] at h1
        omega
      simp [this]
  · intro q hq h0
    simp only [AR.put, Bool.false_eq_true, if_false] at h0 ⊢
    by_cases e : q = p
    · subst e
      rw [updN_self]
      have := (h.cnt_le hp).1
      omega
    · simp only [updN, if_neg e]
      exact h.some_ q hq h0
theorem put_new_wf (h : A.Wf) {c : Int} {p : Nat} (hc : 0 < cN c) (hp : A.freeP = some p) : (A.put true c p (refN p c 0)).Wf := by
  have hf := h.free_is hp
  have hin := hf.inside
  have hcp : A.cls p = -1 := by rcases h.cls p hin with e | e; exact e; have := hf.cls; omega
  have hc02 : 0 ≤ c ∧ c ≤ 2 := by rcases class_nat c (by omega) with ⟨rfl, _⟩ | ⟨rfl, _⟩ | ⟨rfl, _⟩ <;> simp
  have hno : ∀ k, k < cN c → A.tk (refN p c k) = false := by
    intro k hk
    cases ht : A.tk (refN p c k)
    · rfl
    · obtain ⟨q, j, hq, h0, hj, e⟩ := h.cell _ ht
      have h1 := (ref_in (p := q) hj).2.2.2.1
      have h2 := (ref_in (p := p) hk).2.2.2.1
      rw [e] at h2
      obtain rfl : q = p := by omega
      omega
  refine ⟨h.few, ?_, ?_, ?_, ?_, ?_⟩
  · intro q hq
    simp only [AR.put, if_true, updN]
    by_cases e : q = p
    · rw [if_pos e]; exact .inr hc02
    · rw [if_neg e]; exact h.cls q hq
  · intro r hr
    simp [AR.put] at hr
    rcases hr with hr | rfl
    · obtain ⟨q, k, hq, h0, hk, rfl⟩ := h.cell r hr
      have hne : q ≠ p := by rintro rfl; omega
      exact ⟨q, k, hq, by simpa [AR.put, updN, hne] using h0, by simpa [AR.put, updN, hne] using hk, by simp [AR.put, updN, hne]⟩
    · exact ⟨p, 0, hin, by simpa [AR.put, updN] using hc02.1, by simpa [AR.put, updN] using hc, by simp [AR.put, updN]⟩
  · intro q hq
    simp only [AR.put, if_true]
    by_cases e : q = p
    · subst e
      rw [updN_self, updN_self]
      have h1 := countP_up (n := cN c) (k := 0) (f := fun j => A.tk (refN q c j)) (g := fun j => A.tk (refN q c j) || decide (refN q c j = refN q c 0)) hc (hno 0 hc) (by simp) (by
        intro x hx hne
        have : refN q c x ≠ refN q c 0 := fun e => hne (ref_inj hx hc e).2
        simp [this])
      have h2 : (List.range (cN c)).countP (fun j => A.tk (refN q c j)) = 0 := countP_none (by intro x hx; simp at hx; exact hno x hx)
      omega
    · simp only [updN, if_neg e]
      have hq' : q < A.n := hq
      rw [h.cnt q hq']
      congr 1
      refine countP_same (fun x hx => ?_)
      simp at hx
      have : refN q (A.cls q) x ≠ refN p c 0 := by
        intro e2
        have h1 := (ref_in (p := q) hx).2.2.2.1
        have h2 := (ref_in (p := p) hc).2.2.2.1
        rw [e2] at h1
        omega
      simp [this]
  · intro q hq h0
    simp only [AR.put, if_true] at h0 ⊢
    by_cases e : q = p
    · subst e
      rw [updN_self]
      omega
    · simp only [updN, if_neg e] at h0 ⊢
      exact h.some_ q hq h0
  · show (if true then A.free - 1 else A.free) = _
    rw [if_pos rfl, h.free]
    rw [countP_up (n := A.n) (k := p) (f := fun q => decide ((A.put true c p (refN p c 0)).cls q < 0)) (g := fun q => decide (A.cls q < 0)) hin ?_ ?_ ?_]
    · show _ = (((List.range A.n).countP fun p_1 => decide ((A.put true c p (refN p c 0)).cls p_1 < 0) : Nat) : Int)
      omega
    · simp [AR.put, updN]; omega
    · simpa using hf.cls
    · intro x _ hne
      simp [AR.put, updN, hne]

theorem AR.Wf.take_wf (h : A.Wf) {c : Int} {r : Nat} {A' : AR} (ht : A.take c = some (r, A')) : A'.Wf := by
  unfold AR.take at ht
  by_cases hc : cN c = 0
  · rw [if_pos hc] at ht; cases ht
  · rw [if_neg hc] at ht
    cases hg : A.gapP c with
    | some x =>
      obtain ⟨p, k⟩ := x
      rw [hg] at ht
      cases ht
      exact put_gap_wf h hg
    | none =>
      rw [hg] at ht
      simp only at ht
      cases hp : A.freeP with
      | some p =>
        rw [hp] at ht
        cases ht
        exact put_new_wf h (by omega) hp
      | none => rw [hp] at ht; cases ht

theorem AR.Wf.drop_wf (h : A.Wf) {r : Nat} (hr : A.tk r = true) : (A.drop r).Wf := by
  obtain ⟨p, k, hp, h0, hk, rfl⟩ := h.cell r hr
  have hpg : (refN p (A.cls p) k - 1) / 32 = p := (ref_in hk).2.2.2.1
  have hother : ∀ q j, q < A.n → q ≠ p → j < cN (A.cls q) → refN q (A.cls q) j ≠ refN p (A.cls p) k := by
    intro q j _ hne hj e2
    have h1 := (ref_in (p := q) hj).2.2.2.1
    rw [e2] at h1
    omega
  have hcount : (List.range (cN (A.cls p))).countP (fun j => A.tk (refN p (A.cls p) j)) = (List.range (cN (A.cls p))).countP (fun j => A.tk (refN p (A.cls p) j) && !decide (refN p (A.cls p) j = refN p (A.cls p) k)) + 1 := by
    refine countP_up hk (by simp) hr ?_
    intro x hx hne
    have : refN p (A.cls p) x ≠ refN p (A.cls p) k := fun e => hne (ref_inj hx hk e).2
    simp [this]
  have hcp := h.cnt p hp
  unfold AR.drop
  rw [hpg]
  by_cases hone : A.cnt p = 1
  · simp only [if_pos hone]
    have hz : (List.range (cN (A.cls p))).countP (fun j => A.tk (refN p (A.cls p) j) && !decide (refN p (A.cls p) j = refN p (A.cls p) k)) = 0 := by omega
    refine ⟨h.few, ?_, ?_, ?_, ?_, ?_⟩
    · intro q hq
      simp only [updN]
      by_cases e : q = p
      · rw [if_pos e]; exact .inl rfl
      · rw [if_neg e]; exact h.cls q hq
    · intro r hr'
      simp at hr'
      obtain ⟨hr', hne⟩ := hr'
      obtain ⟨q, j, hq, h0', hj, rfl⟩ := h.cell r hr'
      have hqp : q ≠ p := by
        rintro rfl
        have := List.countP_eq_zero.1 hz j (by simpa using hj)
        simp [hr', hne] at this
      exact ⟨q, j, hq, by simpa [updN, hqp] using h0', by simpa [updN, hqp] using hj, by simp [updN, hqp]⟩
    · intro q hq
      by_cases e : q = p
      · subst e
        simp only [updN_self]
        rw [hone, show cN (-1) = 0 from rfl]
        rfl
      · simp only [updN, if_neg e]
        rw [h.cnt q hq]
        congr 1
        refine countP_same (fun x hx => ?_)
        simp at hx
        simp [hother q x hq e hx]
    · intro q hq h0'
      simp only [updN] at h0' ⊢
      by_cases e : q = p
      · rw [if_pos e] at h0'; omega
      · rw [if_neg e] at h0' ⊢; exact h.some_ q hq h0'
    · show A.free + 1 = (((List.range A.n).countP fun q => decide (updN A.cls p (-1) q < 0) : Nat) : Int)
      rw [h.free, countP_up (n := A.n) (k := p) (f := fun q => decide (A.cls q < 0)) (g := fun q => decide (updN A.cls p (-1) q < 0)) hp (by simp; omega) (by simp [updN])]
      · simp
      · intro x _ hne; simp [updN, hne]
  · simp only [if_neg hone]
    refine ⟨h.few, h.cls, ?_, ?_, ?_, h.free⟩
    · intro r hr'
      simp at hr'
      exact h.cell r hr'.1
    · intro q hq
      by_cases e : q = p
      · subst e
        simp only [updN_self]
        omega
      · simp only [updN, if_neg e]
        rw [h.cnt q hq]
        congr 1
        refine countP_same (fun x hx => ?_)
        simp at hx
        simp [hother q x hq e hx]
    · intro q hq h0'
      simp only [updN]
      by_cases e : q = p
      · subst e
        rw [if_pos rfl]
        have := h.some_ q hq h0'
        omega
      · rw [if_neg e]; exact h.some_ q hq h0'
theorem AR.Wf.cnt_pos (h : A.Wf) {r : Nat} (hr : A.tk r = true) : 1 ≤ A.cnt ((r - 1) / 32) ∧ A.cnt ((r - 1) / 32) ≤ 16 := by
  obtain ⟨p, k, hp, h0, hk, rfl⟩ := h.cell r hr
  rw [(ref_in hk).2.2.2.1]
  have := h.some_ p hp h0
  have := h.cnt_le hp
  omega

/-- A cell is given back, if it is taken. -/
def AR.give (A : AR) (r : Int) : AR := if A.has r then A.drop r.toNat else A
theorem AR.Wf.give_wf (h : A.Wf) (r : Int) : (A.give r).Wf := by
  unfold AR.give
  cases hr : A.has r
  · simpa using h
  · simp only [if_true]
    refine h.drop_wf ?_
    unfold AR.has at hr
    simp at hr
    exact hr.2
def AR.takeA (A : AR) (c : Int) : AR := match A.take c with | some (_, A') => A' | none => A
theorem AR.Wf.takeA_wf (h : A.Wf) (c : Int) : (A.takeA c).Wf := by
  unfold AR.takeA
  cases ht : A.take c with
  | none => exact h
  | some x => obtain ⟨r, A'⟩ := x; exact h.take_wf ht
end Go.Proofs.YtbcabjpafeocgaaGreat

/-
  The arena's methods, where memory is a list of things (layer 3). Conditions: the arena is as it always is.
-/
namespace Go.Proofs.YtbcabjpafeocgaaGreat
set_option linter.unusedVariables false
set_option linter.unusedSimpArgs false
open Go.RowKit Go.Shelf
attribute [local go_sem] Oper.semAt_some wide_fn round_fn wide_depth round_depth
attribute [local simp] wide_fn round_fn wide_depth round_depth

/-- The arena at block a. -/
def arenaR (a : Nat) (A : AR) : Res := ⟨fun w F => ArenaAt w a A F, fun h hc hF => h.keep hc hF, fun h => h.lt⟩
def arenaParts (a : Nat) (A : AR) : List Res :=
  [blkR a 118 (arenaCells A A.ids.1 A.ids.2.1 A.ids.2.2), blkR A.ids.1 120 (pageCells A.cls A.cnt A.n), blkR A.ids.2.1 3 (intCells A.wd (A.n * 32)), setR A.ids.2.2 A.size A.tk]

theorem arena_parts {w : World} {a : Nat} {A : AR} {F : List Nat} (h : ArenaAt w a A F) : A.n ≤ 64 ∧ SepL 0 w (arenaParts a A) F := by
  obtain ⟨pb, wb, sb, lo, rfl, hp⟩ := h
  have hi := hp.ids
  unfold arenaParts
  rw [hi]
  refine ⟨hp.few, [a], _, rfl, ⟨rfl, hp.top⟩, ?_, [pb], _, rfl, ⟨rfl, hp.pages⟩, ?_, [wb], _, rfl, ⟨rfl, hp.words⟩, ?_, setF sb lo, [], (List.append_nil _).symm, ⟨lo, rfl, hp.set_⟩, fun _ _ => ⟨Nat.zero_le _, by simp⟩, rfl⟩
  · intro x hx
    simp at hx; subst hx
    simp
    exact ⟨hp.ap, hp.aw, hp.sa⟩
  · intro x hx
    simp at hx; subst hx
    simp
    exact ⟨hp.pw, hp.sp⟩
  · intro x hx
    simp at hx; subst hx
    refine ⟨Nat.zero_le _, ?_⟩
    have := hp.sw
    simpa [setF] using this
theorem arena_whole {w : World} {a : Nat} {A : AR} {F : List Nat} (hn : A.n ≤ 64) (h : SepL 0 w (arenaParts a A) F) : ArenaAt w a A F := by
  obtain ⟨_, _, rfl, ⟨rfl, h1⟩, d1, _, _, rfl, ⟨rfl, h2⟩, d2, _, _, rfl, ⟨rfl, h3⟩, d3, _, _, rfl, ⟨lo, rfl, h4⟩, d4, rfl⟩ := h
  have d1 := (d1 a (by simp)).2
  have d2 := (d2 A.ids.1 (by simp)).2
  have d3 := (d3 A.ids.2.1 (by simp)).2
  simp at d1 d2 d3
  exact ⟨A.ids.1, A.ids.2.1, A.ids.2.2, lo, by simp, ⟨h1, h2, h3, h4, d1.1, d1.2.1, d2.1, d1.2.2, d2.2, d3, hn, rfl⟩⟩

section
variable {w0 w : World} {L : List Res} {i a : Nat} {A : AR}

theorem arena_openHead {R : List Res} (S : Sep w0 w (arenaR a A :: R)) : A.n ≤ 64 ∧ Sep w0 w (arenaParts a A ++ R) := by
  obtain ⟨h1, G, F, G', rfl, hp, hd, hr⟩ := S
  obtain ⟨hn, hs⟩ := arena_parts hp
  exact ⟨hn, h1, _, SepL.append hr (SepL.mono hs (fun x hx => (hd x hx).1)) (fun x hx => (hd x hx).2)⟩
theorem arena_open (S : Sep w0 w L) (i : Nat) (hi : L[i]? = some (arenaR a A)) : A.n ≤ 64 ∧ Sep w0 w (arenaParts a A ++ L.eraseIdx i) := arena_openHead (S.lift i hi)
theorem arena_shutHead {R : List Res} (hn : A.n ≤ 64) (S : Sep w0 w (arenaParts a A ++ R)) : Sep w0 w (arenaR a A :: R) := by
  obtain ⟨h1, G, F, G', rfl, hp, hd, hr⟩ := S.shutHead
  exact ⟨h1, F ++ G', F, G', rfl, arena_whole hn hp, hd, hr⟩
theorem arena_shut {r : Res} (hn : A.n ≤ 64) (S : Sep w0 w (arenaParts a A ++ L.eraseIdx i)) (hi : L[i]? = some r) : Sep w0 w (L.set i (arenaR a A)) := (arena_shutHead hn S).perm (perm_set hi)

theorem TANew (S : Sep w0 w L) (n : Int) (m : Nat) (hm : (m : Int) = min (max n 0) 64) : Calls Tryz.prog 42 #[.int .i64 n] w fun e w' => ∃ a ids, e = .returned (.pointer (some ⟨a, 0, none⟩)) ∧ Sep w0 w' (arenaR a (AR.new m ids) :: L) := by
  refine (ANew n m hm w).mono ?_
  rintro e w' ⟨a, F, ids, rfl, h1, hF1, hc1⟩
  exact ⟨a, ids, rfl, S.new (r := arenaR a (AR.new m ids)) h1 hF1 hc1⟩
theorem TAPages (S : Sep w0 w L) (i : Nat) (hi : L[i]? = some (arenaR a A)) : Calls Tryz.prog 75 #[.pointer (some ⟨a, 0, none⟩)] w fun e w' => e = .returned (.int .i64 (A.n : Int)) ∧ w = w' :=
  S.read i hi (fun _ h => APages h)
theorem TASize (S : Sep w0 w L) (i : Nat) (hi : L[i]? = some (arenaR a A)) : Calls Tryz.prog 47 #[.pointer (some ⟨a, 0, none⟩)] w fun e w' => e = .returned (.int .i64 A.size) ∧ w = w' :=
  S.read i hi (fun _ h => ASize h)
theorem TAClass (S : Sep w0 w L) (i : Nat) (hi : L[i]? = some (arenaR a A)) (p : Int) : Calls Tryz.prog 79 #[.pointer (some ⟨a, 0, none⟩), .int .i64 p] w fun e w' => e = .returned (.int .i64 (A.clsZ p)) ∧ w = w' :=
  S.read i hi (fun _ h => AClass h p)
theorem TAPage (S : Sep w0 w L) (i : Nat) (hi : L[i]? = some (arenaR a A)) (r : Int) (hr : r ≤ 9223372036854775807) : Calls Tryz.prog 22 #[.pointer (some ⟨a, 0, none⟩), .int .i64 r] w fun e w' => e = .returned (.int .i64 (A.page r)) ∧ w = w' :=
  S.read i hi (fun _ h => APage h r hr)
theorem TAHas (S : Sep w0 w L) (i : Nat) (hi : L[i]? = some (arenaR a A)) (r : Int) : Calls Tryz.prog 82 #[.pointer (some ⟨a, 0, none⟩), .int .i64 r] w fun e w' => e = .returned (.bool (A.has r)) ∧ Sep w0 w' L :=
  S.look i hi (fun _ h => (AHas h r).mono fun _ _ ⟨F', h1, h2, h3, h4⟩ => ⟨F', h1, h2, h3, h4⟩)
theorem TARoom (S : Sep w0 w L) (i : Nat) (hi : L[i]? = some (arenaR a A)) (hw : A.Wf) (c : Int) : Calls Tryz.prog 95 #[.pointer (some ⟨a, 0, none⟩), .int .i64 c] w fun e w' => e = .returned (.bool (A.take c).isSome) ∧ Sep w0 w' L :=
  S.look i hi (fun _ h => (ARoom h c _ (hw.room c)).mono fun _ _ ⟨F', h1, h2, h3, h4⟩ => ⟨F', h1, h2, h3, h4⟩)

def takeV : Option (Nat × AR) → Value
  | some (r, _) => .tuple #[.int .i64 (r : Int), .bool true]
  | none => .tuple #[.int .i64 0, .bool false]
theorem takeV_none : takeV none = .tuple #[.int .i64 0, .bool false] := rfl
theorem takeV_some (r : Nat) (B : AR) : takeV (some (r, B)) = .tuple #[.int .i64 (r : Int), .bool true] := rfl
theorem TATake (S : Sep w0 w L) (i : Nat) (hi : L[i]? = some (arenaR a A)) (hw : A.Wf) (c : Int) : Calls Tryz.prog 69 #[.pointer (some ⟨a, 0, none⟩), .int .i64 c] w fun e w' => e = .returned (takeV (A.take c)) ∧ Sep w0 w' (L.set i (arenaR a (A.takeA c))) := by
  refine S.call i hi _ (fun F h => ?_)
  have hr := hw.room c
  unfold AR.takeA
  unfold AR.take at hr ⊢
  by_cases hc : cN c = 0
  · rw [if_pos hc] at hr ⊢
    exact (ATakeNo h c hr).mono fun _ _ ⟨F', h1, h2, h3, h4⟩ => ⟨F', h1, h2, h3, h4⟩
  · rw [if_neg hc] at hr ⊢
    cases hg : A.gapP c with
    | some x =>
      obtain ⟨p, k⟩ := x
      rw [hg] at hr
      obtain ⟨hgap, hk⟩ := hw.gap_is hg
      have hb := hw.cnt_le hgap.inside
      refine (ATakeGap h c p k hgap hb.1 hb.2).mono ?_
      rw [refZ_refN]
      rintro e w' ⟨F', rfl, h2, h3, h4⟩
      exact ⟨F', rfl, h2, h3, h4⟩
    | none =>
      rw [hg] at hr
      cases hp : A.freeP with
      | some p =>
        rw [hp] at hr
        have hfp : 0 < A.free := by
          have := mt hw.free_none.2 (by rw [hp]; simp)
          omega
        have e0 := refZ_refN p c 0
        simp only [Int.natCast_zero] at e0
        refine (ATakeNew h c p (by rw [cells_cN]; omega) (hw.gap_none (by omega) hg) hfp hw.free_le.2 (hw.free_is hp)).mono ?_
        rw [e0]
        rintro e w' ⟨F', rfl, h2, h3, h4⟩
        exact ⟨F', rfl, h2, h3, h4⟩
      | none =>
        rw [hp] at hr
        exact (ATakeNo h c hr).mono fun _ _ ⟨F', h1, h2, h3, h4⟩ => ⟨F', h1, h2, h3, h4⟩
end
end Go.Proofs.YtbcabjpafeocgaaGreat

/-
  The cards of layer 5 and the barrier of layer 12: what they own, and a contract for New, Post, Reset, Dirty. Conditions: as the theorem says.
-/
namespace Go.Proofs.YtbcabjpafeocgaaGreat
set_option linter.unusedVariables false
set_option linter.unusedSimpArgs false
open Go.RowKit Go.Shelf

/-- The barrier at b; its table at o.1, its set at o.2: dirty pages. -/
def steeleParts (b m a N : Nat) (D : Nat → Bool) (o : Nat × Nat) : List Res := [blkR b 97 #[.pointer (some ⟨m, 0, none⟩), .pointer (some ⟨o.1, 0, none⟩)], blkR o.1 114 #[.pointer (some ⟨o.2, 0, none⟩), .pointer (some ⟨a, 0, none⟩)], setR o.2 (N : Int) D]
def steeleR (b m a N : Nat) (D : Nat → Bool) : Res := exR fun o : Nat × Nat => starR (steeleParts b m a N D o)
/-- A page more is dirty, where there is one. -/
def dirtied (D : Nat → Bool) (p : Int) : Nat → Bool := fun i => D i || decide ((i : Int) = p)

section
variable {w0 w : World} {L R0 : List Res} {i b m a n N s : Nat} {D : Nat → Bool} {A : AR} {C : Col}
theorem steele_open (S : Sep w0 w L) (i : Nat) (hi : L[i]? = some (steeleR b m a N D)) : ∃ o, Sep w0 w (steeleParts b m a N D o ++ L.eraseIdx i) := by
  obtain ⟨o, h1⟩ := (S.lift i hi).unex 0 rfl
  exact ⟨o, h1.openHead⟩
theorem steele_shutHead {R : List Res} {o : Nat × Nat} (S : Sep w0 w (steeleParts b m a N D o ++ R)) : Sep w0 w (steeleR b m a N D :: R) :=
  S.shutHead.set_ (i := 0) (r' := steeleR b m a N D) rfl (fun F h => ⟨o, h⟩)
theorem steele_shut {r : Res} {o : Nat × Nat} (S : Sep w0 w (steeleParts b m a N D o ++ L.eraseIdx i)) (hi : L[i]? = some r) : Sep w0 w (L.set i (steeleR b m a N D)) := (steele_shutHead S).perm (perm_set hi)
theorem dirtied_none (D : Nat → Bool) {p : Int} (h : p < 0) : dirtied D p = D := by
  funext i
  unfold dirtied
  rw [decide_eq_false (by omega), Bool.or_false]
theorem TSPutAny (h : Sep w0 w L) (i : Nat) (hi : L[i]? = some (setR s (N : Int) D)) (hn1 : (N : Int) ≤ 100000) (p : Int) (hp : p < 0 ∨ p < (N : Int)) :
    Calls Tryz.prog 49 #[.pointer (some ⟨s, 0, none⟩), .int .i64 p] w fun e w' => ∃ v, e = .returned v ∧ Sep w0 w' (L.set i (setR s (N : Int) (dirtied D p))) := by
  by_cases h0 : p < 0
  · refine (h.call i hi (setR s (N : Int) (dirtied D p)) (v := .bool false) ?_).mono (by rintro e w' ⟨rfl, hs⟩; exact ⟨_, rfl, hs⟩)
    rintro F ⟨lo, rfl, hs⟩
    refine (SPutOut hs p (.inl h0)).mono ?_
    rintro e w' ⟨rfl, rfl⟩
    exact ⟨_, rfl, by rw [dirtied_none D h0]; exact ⟨lo, rfl, hs⟩, GrewF.self _ _, Chg.refl _ _⟩
  · obtain ⟨q, rfl⟩ : ∃ q : Nat, p = (q : Int) := ⟨p.toNat, by omega⟩
    refine (TSPut h i hi hn1 q (by omega)).mono ?_
    rintro e w' ⟨rfl, hs⟩
    refine ⟨_, rfl, ?_⟩
    rw [show dirtied D (q : Int) = fun j => D j || decide (j = q) by funext j; unfold dirtied; congr 1; exact decide_eq_decide.2 ⟨fun h => by omega, fun h => by omega⟩]
    exact hs
theorem CNew (S : Sep w0 w L) (i : Nat) (hi : L[i]? = some (arenaR a A)) : Calls Tryz.prog 51 #[.pointer (some ⟨a, 0, none⟩)] w fun e w' => ∃ c s, e = .returned (.pointer (some ⟨c, 0, none⟩)) ∧ Sep w0 w' (blkR c 114 #[.pointer (some ⟨s, 0, none⟩), .pointer (some ⟨a, 0, none⟩)] :: setR s (A.n : Int) (fun _ => false) :: L) := by
  have HC := Lib.hid (TAPages S i hi)
  have HN := Lib.hid (TSNew S (A.n : Int) (by omega))
  clear S hi
  go_enter Tryz.func51, Tryz.ntmps51
  go_wp2_with (first
    | (go_at_call 75; refine (HC.out).mono ?_; rintro e w1 ⟨rfl, rfl⟩; clear HC)
    | (go_at_call 46; refine (HN.out).mono ?_; rintro e w2 ⟨rfl, hs⟩; have HS := Lib.hid (hs.box #[.pointer (some ⟨w.heap.size, 0, none⟩), .pointer (some ⟨a, 0, none⟩)] 114); clear hs HN))
  go_ret
  exact ⟨_, _, rfl, HS.out⟩
theorem CDirty {c : Nat} (S : Sep w0 w L) (i j k : Nat) (hi : L[i]? = some (blkR c 114 #[.pointer (some ⟨s, 0, none⟩), .pointer (some ⟨a, 0, none⟩)])) (hj : L[j]? = some (setR s (A.n : Int) D)) (hk : L[k]? = some (arenaR a A)) (hn : A.n ≤ 1000) (r : Int) (hr : r ≤ 9223372036854775807) :
    Calls Tryz.prog 57 #[.pointer (some ⟨c, 0, none⟩), .int .i64 r] w fun e w' => ∃ v, e = .returned v ∧ Sep w0 w' (L.set j (setR s (A.n : Int) (dirtied D (A.page r)))) := by
  have c0 := (S.blk i hi).cell 0
  have c1 := (S.blk i hi).cell 1
  simp only [List.getElem?_toArray, List.getElem?_cons_zero, List.getElem?_cons_succ] at c0 c1
  have hb : A.page r < 0 ∨ A.page r < (A.n : Int) := by
    unfold AR.page AR.size
    split
    · right; omega
    · left; omega
  have HC := Lib.hid (TAPage S k hk r hr)
  have HP := Lib.hid (TSPutAny S j hj (by omega) (A.page r) hb)
  obtain ⟨p, hp⟩ : ∃ p, A.page r = p := ⟨_, rfl⟩
  rw [hp] at HC HP ⊢
  clear S hi hj hk hp hb
  go_enter Tryz.func57, Tryz.ntmps57
  go_wp2_with (first
    | (go_at_call 22; refine (HC.out).mono ?_; rintro e w1 ⟨rfl, rfl⟩; clear HC)
    | (go_at_call 49; refine (HP.out).mono ?_; rintro e w2 ⟨v, rfl, hs⟩; have HS := Lib.hid hs; clear hs HP))
  go_ret
  exact ⟨_, rfl, HS.out⟩
theorem CClean {c : Nat} (S : Sep w0 w L) (i j : Nat) (hi : L[i]? = some (blkR c 114 #[.pointer (some ⟨s, 0, none⟩), .pointer (some ⟨a, 0, none⟩)])) (hj : L[j]? = some (setR s (N : Int) D)) (hn : N ≤ 1000) :
    Calls Tryz.prog 149 #[.pointer (some ⟨c, 0, none⟩)] w fun e w' => e = .returned (.tuple #[]) ∧ Sep w0 w' (L.set j (setR s (N : Int) (fun _ => false))) := by
  have c0 := (S.blk i hi).cell 0
  simp only [List.getElem?_toArray, List.getElem?_cons_zero, List.getElem?_cons_succ] at c0
  have HC := Lib.hid (TSReset S j hj (by omega))
  clear S hi hj
  go_enter Tryz.func149, Tryz.ntmps149
  go_wp2_with (go_at_call 66; refine (HC.out).mono ?_; rintro e w2 ⟨rfl, hs⟩; have HS := Lib.hid hs; clear hs HC)
  go_end0
  exact ⟨rfl, HS.out⟩
theorem BNew (S : Sep w0 w L) (i j : Nat) (hi : L[i]? = some (markR m a n C)) (hj : L[j]? = some (arenaR a A)) : Calls Tryz.prog 14 #[.pointer (some ⟨m, 0, none⟩)] w fun e w' => ∃ b, e = .returned (.pointer (some ⟨b, 0, none⟩)) ∧ Sep w0 w' (steeleR b m a A.n (fun _ => false) :: L) := by
  have HA := Lib.hid (KArena S i hi)
  have HC := Lib.hid (CNew S j hj)
  clear S hi hj
  go_enter Tryz.func14, Tryz.ntmps14
  go_wp2_with (first
    | (go_at_call 52; refine (HA.out).mono ?_; rintro e w1 ⟨rfl, rfl⟩; clear HA)
    | (go_at_call 51; refine (HC.out).mono ?_; rintro e w2 ⟨c, s, rfl, hs⟩; have HS := Lib.hid (hs.box #[.pointer (some ⟨m, 0, none⟩), .pointer (some ⟨c, 0, none⟩)] 97); clear hs HC))
  go_ret
  exact ⟨_, rfl, steele_shutHead (o := (c, s)) HS.out⟩
theorem BPre (w : World) (b : Nat) (x y : Int) : Calls Tryz.prog 147 #[.pointer (some ⟨b, 0, none⟩), .int .i64 x, .int .i64 y] w fun e w' => e = .returned (.tuple #[]) ∧ w = w' := by
  go_enter Tryz.func147, Tryz.ntmps147
  go_wp2
  go_end0
  exact ⟨rfl, rfl⟩
theorem BRescans (w : World) (b : Nat) : Calls Tryz.prog 40 #[.pointer (some ⟨b, 0, none⟩)] w fun e w' => e = .returned (.bool true) ∧ w = w' := by
  go_enter Tryz.func40, Tryz.ntmps40
  go_wp2
  go_ret
  exact ⟨rfl, rfl⟩
set_option maxRecDepth 100000 in
theorem BPost (S : Sep w0 w L) (i k : Nat) (hi : L[i]? = some (steeleR b m a A.n D)) (hk : L[k]? = some (arenaR a A)) (hik : i ≠ k) (hn : A.n ≤ 1000) (src old new : Int) (black early : Bool) (hr : src ≤ 9223372036854775807) :
    Calls Tryz.prog 17 #[.pointer (some ⟨b, 0, none⟩), .agg #[.int .i64 src, .int .i64 old, .int .i64 new, .bool black, .bool early]] w fun e w' => e = .returned (.tuple #[]) ∧ Sep w0 w' (L.set i (steeleR b m a A.n (dirtied D (A.page src)))) := by
  obtain ⟨o, hs⟩ := steele_open S i hi
  obtain ⟨k', hk'⟩ : ∃ k', (L.eraseIdx i)[k']? = some (arenaR a A) := by
    by_cases h : k < i
    · exact ⟨k, by rw [List.getElem?_eraseIdx_of_lt h]; exact hk⟩
    · refine ⟨k - 1, ?_⟩
      rw [List.getElem?_eraseIdx_of_ge (by omega), show k - 1 + 1 = k by omega]
      exact hk
  have HI := Lib.hid hi
  obtain ⟨T, hT⟩ : ∃ T, w.heap.size = T := ⟨_, rfl⟩
  have hb := hs.box #[.int .i64 src, .int .i64 old, .int .i64 new, .bool black, .bool early] 41
  rw [hT] at hb
  have HB := Lib.hid hb
  have HK := Lib.hid hk'
  clear S hs hi hk hb hk' hik
  go_enter Tryz.func17, Tryz.ntmps17
  go_wp2
  try simp only [hT]
  clear hT
  obtain ⟨wd1, hwd1⟩ : ∃ wd, (w.alloc (.cells #[.int .i64 src, .int .i64 old, .int .i64 new, .bool black, .bool early] 41)).drew = wd := ⟨_, rfl⟩
  have hd := HB.out.drew
  rw [hwd1] at hd
  have x0 := (hd.blk 1 rfl).cell 1
  have y0 := (hd.blk 0 rfl).cell 0
  simp only [List.getElem?_toArray, List.getElem?_cons_zero, List.getElem?_cons_succ] at x0 y0
  have HB1 := Lib.hid hd
  clear hd HB
  refine wp_region_still_tail 6 (by kernel_rfl) (by kernel_rfl) ?_
  change wpStill _ _ (World.drew _) (fun a' => wpList _ _ _ _ a' (World.drew _)) _ _
  rw [hwd1]
  clear hwd1
  simp only [List.take_succ_cons, List.take_zero, List.drop_succ_cons, List.drop_zero]
  repeat still_step
  refine wpStill_nil ?_
  have HC := Lib.hid (CDirty HB1.out 2 3 (k' + 4) rfl rfl (by have := HK.out; simpa [steeleParts] using this) hn src hr)
  clear x0 y0
  go_wp2_with (first
    | (go_at_call 57; refine (HC.out).mono ?_; rintro e w2 ⟨v, rfl, hs⟩; have HS := Lib.hid (show Sep w0 w2 (blkR T 41 #[.int .i64 src, .int .i64 old, .int .i64 new, .bool black, .bool early] :: (steeleParts b m a A.n (dirtied D (A.page src)) o ++ L.eraseIdx i)) from hs); clear hs HC))
  go_end0
  exact ⟨rfl, steele_shut HS.out.tail HI.out⟩
theorem BDirty (S : Sep w0 w L) (i : Nat) (hi : L[i]? = some (steeleR b m a N D)) (hn : N ≤ 1000) : Calls Tryz.prog 41 #[.pointer (some ⟨b, 0, none⟩)] w fun e w' => e = .returned (.int .i64 ((elems N D).length : Int)) ∧ Sep w0 w' L := by
  obtain ⟨o, hs⟩ := steele_open S i hi
  have c1 := (hs.blk 0 rfl).cell 1
  have d0 := (hs.blk 1 rfl).cell 0
  simp only [List.getElem?_toArray, List.getElem?_cons_zero, List.getElem?_cons_succ] at c1 d0
  have HC := Lib.hid (TSCount hs 2 rfl (by omega))
  have HI := Lib.hid hi
  clear S hi hs
  go_enter Tryz.func41, Tryz.ntmps41
  go_wp2_with (go_at_call 56; refine (HC.out).mono ?_; rintro e w2 ⟨rfl, hs⟩; have HS := Lib.hid hs; clear hs HC)
  go_ret
  refine ⟨rfl, ?_⟩
  have h1 := steele_shut HS.out HI.out
  rw [set_self HI.out] at h1
  exact h1
theorem BReset (S : Sep w0 w L) (i : Nat) (hi : L[i]? = some (steeleR b m a N D)) (hn : N ≤ 1000) : Calls Tryz.prog 148 #[.pointer (some ⟨b, 0, none⟩)] w fun e w' => e = .returned (.tuple #[]) ∧ Sep w0 w' (L.set i (steeleR b m a N (fun _ => false))) := by
  obtain ⟨o, hs⟩ := steele_open S i hi
  have c1 := (hs.blk 0 rfl).cell 1
  have d0 := (hs.blk 1 rfl).cell 0
  simp only [List.getElem?_toArray, List.getElem?_cons_zero, List.getElem?_cons_succ] at c1 d0
  have HC := Lib.hid (CClean hs 1 2 rfl rfl hn)
  have HI := Lib.hid hi
  clear S hi hs
  go_enter Tryz.func148, Tryz.ntmps148
  go_wp2_with (first
    | (go_at_call 149; refine (HC.out).mono ?_; rintro e w2 ⟨rfl, hs⟩; have HS := Lib.hid hs; clear hs HC))
  go_end0
  exact ⟨rfl, steele_shut HS.out HI.out⟩
end
end Go.Proofs.YtbcabjpafeocgaaGreat

/-
  The arena's iterators: all taken cells; those of a page (layer 3). Conditions: at most 64 pages.
-/
namespace Go.Proofs.YtbcabjpafeocgaaGreat
set_option linter.unusedVariables false
set_option linter.unusedSimpArgs false
open Go.RowKit Go.Shelf
attribute [local go_sem] Oper.semAt_some wide_fn round_fn wide_depth round_depth
attribute [local simp] wide_fn round_fn wide_depth round_depth

section
variable {w0 w : World} {L : List Res} {i a : Nat} {A : AR}
theorem TAAll (S : Sep w0 w L) (a : Nat) : Calls Tryz.prog 61 #[.pointer (some ⟨a, 0, none⟩)] w fun e w' => e = .returned (.func (.func 90) #[] #[.pointer (some ⟨w.heap.size, 0, none⟩)]) ∧ Sep w0 w' (blkR w.heap.size 24 #[.pointer (some ⟨a, 0, none⟩)] :: L) := by
  have hmf : ∀ (fn : Fn) (first cap : Array Value) (w : World), (Instr.makeFunc fn first cap).run Tryz.prog w = .ok (.func fn first cap) w := fun _ _ _ _ => rfl
  have H := Lib.hid S
  clear S
  go_enter Tryz.func61, Tryz.ntmps61
  go_wp2_with fail
  go_ret
  exact ⟨rfl, H.out.alloc _⟩
theorem TACells (S : Sep w0 w L) (a : Nat) (p : Int) : Calls Tryz.prog 54 #[.pointer (some ⟨a, 0, none⟩), .int .i64 p] w fun e w' => e = .returned (.func (.func 78) #[] #[.pointer (some ⟨w.heap.size, 0, none⟩), .pointer (some ⟨w.heap.size + 1, 0, none⟩)]) ∧
    Sep w0 w' (blkR (w.heap.size + 1) 3 #[.int .i64 p] :: blkR w.heap.size 24 #[.pointer (some ⟨a, 0, none⟩)] :: L) := by
  have hmf : ∀ (fn : Fn) (first cap : Array Value) (w : World), (Instr.makeFunc fn first cap).run Tryz.prog w = .ok (.func fn first cap) w := fun _ _ _ _ => rfl
  have H := Lib.hid S
  clear S
  go_enter Tryz.func54, Tryz.ntmps54
  go_wp2_with fail
  go_ret
  refine ⟨rfl, ?_⟩
  have := (H.out.alloc (.cells #[.pointer (some ⟨a, 0, none⟩)] 24)).alloc (.cells #[.int .i64 p] 3)
  rw [World.size_alloc] at this
  exact this
end

set_option maxHeartbeats 2000000 in
theorem arena_iter (B a : Nat) (A : AR) :
    Iter Tryz.prog 90 #[.pointer (some ⟨B, 0, none⟩)] (fun i : Nat => #[.int .i64 (i : Int)]) (elems (A.n * 32 + 1) A.tk) (fun _ => [blkR B 24 #[.pointer (some ⟨a, 0, none⟩)], arenaR a A]) := by
  intro l w0 Φ Φx W R hY h0 hS
  dsimp only [List.cons_append, List.nil_append] at hY hS
  obtain ⟨hn, hS2⟩ := arena_open hS 1 rfl
  simp only [arenaParts, List.cons_append, List.nil_append, List.eraseIdx_cons_succ, List.eraseIdx_cons_zero] at hS2
  have HY := Lib.hid hY
  have HS := Lib.hid hS2
  have H0 := Lib.hid h0
  have hb := (hS2.blk 4 rfl).cell 0
  have hc := (hS2.blk 0 rfl).cell 2
  have hbl := Lib.hid (hS2.blk 4 rfl).lt
  have hal := Lib.hid (hS2.blk 0 rfl).lt
  simp [arenaCells] at hb hc
  have ab : ∀ o : Go.Obj, (W.alloc o).cell? ⟨B, 0, none⟩ = some (.pointer (some ⟨a, 0, none⟩)) := fun o => (World.cell?_alloc_past _ _ _ hbl.out).trans hb
  have ac : ∀ o : Go.Obj, (W.alloc o).cell? ⟨a, 2, none⟩ = some (.pointer (some ⟨A.ids.2.2, 0, none⟩)) := fun o => (World.cell?_alloc_past _ _ _ hal.out).trans hc
  clear hY h0 hS hS2 hb hc
  refine calls_wide ?_
  refine callsIn_of_wp_marks Tryz.func90 rfl trivial ?_
  simp only [Tryz.ntmps90, List.size_toArray, List.length_cons, List.length_nil, Nat.reduceAdd, Nat.reduceSub, Array.replicate_succ, Array.replicate_zero, List.push_toArray, List.append_toArray, List.nil_append, List.cons_append]
  gi_wp2_with (gi_at_call 65; refine (calls_in (TSAll (HS.out.alloc _) A.ids.2.2)).mono ?_; rintro e w1 ⟨rfl, hs⟩; have HS1 := Lib.hid hs; clear hs)
  have hS1 := HS1.out
  simp only [World.size_alloc] at hS1 ⊢
  have HSA := Lib.hid ((hS1.lift 5 rfl).lift 1 rfl)
  clear hS1 HS1 HS ab ac hbl hal
  obtain ⟨Y, hY0⟩ : ∃ Y, W.heap.size = Y := ⟨_, rfl⟩
  rw [hY0] at HSA ⊢
  clear hY0
  refine wp_range (gf := 92) (lb := #[.pointer (some ⟨Y + 1, 0, none⟩)]) rfl (enters_of Tryz.func92 (by kernel_rfl) rfl) (set_iter (Y + 1) A.ids.2.2 (A.n * 32 + 1) A.tk (by omega)) (fun _ => rfl)
    (R := blkR Y 35 #[.func (.yield l) #[] #[]] :: blkR a 118 (arenaCells A A.ids.1 A.ids.2.1 A.ids.2.2) :: blkR A.ids.1 120 (pageCells A.cls A.cnt A.n) :: blkR A.ids.2.1 3 (intCells A.wd (A.n * 32)) :: blkR B 24 #[.pointer (some ⟨a, 0, none⟩)] :: R) HSA.out
    (fun pre Rs => ∃ R', Rs = blkR Y 35 #[.func (.yield l) #[] #[]] :: blkR a 118 (arenaCells A A.ids.1 A.ids.2.1 A.ids.2.2) :: blkR A.ids.1 120 (pageCells A.cls A.cnt A.n) :: blkR A.ids.2.1 3 (intCells A.wd (A.n * 32)) :: blkR B 24 #[.pointer (some ⟨a, 0, none⟩)] :: R' ∧ Φ pre R')
    (fun c pre Rs => c = .ret ∧ ∃ R', Rs = blkR Y 35 #[.func (.yield l) #[] #[]] :: blkR a 118 (arenaCells A A.ids.1 A.ids.2.1 A.ids.2.2) :: blkR A.ids.1 120 (pageCells A.cls A.cnt A.n) :: blkR A.ids.2.1 3 (intCells A.wd (A.n * 32)) :: blkR B 24 #[.pointer (some ⟨a, 0, none⟩)] :: R' ∧ Φx pre R')
    ⟨R, rfl, H0.out⟩ ?round ?done ?stop
  case round =>
    rintro l1 D pre x _ G W1 r hpre ⟨R1, rfl, hΦ⟩ hS1
    simp only [List.cons_append, List.nil_append] at hS1
    have HPRE := Lib.hid hpre
    have HP := Lib.hid hΦ
    have HS1 := Lib.hid hS1
    clear hpre hΦ hS1 H0 HSA
    gi_wp2
    refine ⟨[], HS1.out, ?_⟩
    intro r' W2 hS2
    simp only [List.cons_append, List.nil_append] at hS2
    have hy0 := (hS2.blk 4 rfl).cell 0
    simp at hy0
    have hS3 : Sep w0 W2 (blkR B 24 #[.pointer (some ⟨a, 0, none⟩)] :: arenaR a A :: blkR (Y + 1) 86 #[.pointer (some ⟨A.ids.2.2, 0, none⟩)] :: objR l1 (.loop r') :: objR D (.deferred (some [])) :: blkR Y 35 #[.func (.yield l) #[] #[]] :: (R1 ++ G)) := (arena_shutHead (A := A) hn (hS2.front 9 [5, 6, 7, 1, 8])).swap
    have hS4 := hS3.perm (((perm_mid [blkR (Y + 1) 86 #[.pointer (some ⟨A.ids.2.2, 0, none⟩)], objR l1 (.loop r'), objR D (.deferred (some [])), blkR Y 35 #[.func (.yield l) #[] #[]]] R1 G).cons _).cons _)
    obtain ⟨fn, tmps, assign, body, hy, hR⟩ := HY.out pre x R1 _ W2 HPRE.out HP.out hS4
    have HR := Lib.hid (show RoundIn (Fence.wide.inRound l1) 0 Tryz.prog l fn tmps assign body W2 _ from hR)
    clear hR hS2 hS3 hS4
    have back : ∀ (R2 : List Res) (W3 : World), Sep w0 W3 (blkR B 24 #[.pointer (some ⟨a, 0, none⟩)] :: arenaR a A :: (R2 ++ ([blkR (Y + 1) 86 #[.pointer (some ⟨A.ids.2.2, 0, none⟩)], objR l1 (.loop r'), objR D (.deferred (some [])), blkR Y 35 #[.func (.yield l) #[] #[]]] ++ G))) → Sep w0 W3 (blkR (Y + 1) 86 #[.pointer (some ⟨A.ids.2.2, 0, none⟩)] :: setR A.ids.2.2 A.size A.tk :: objR l1 (.loop r') :: objR D (.deferred (some [])) :: blkR Y 35 #[.func (.yield l) #[] #[]] :: blkR a 118 (arenaCells A A.ids.1 A.ids.2.1 A.ids.2.2) :: blkR A.ids.1 120 (pageCells A.cls A.cnt A.n) :: blkR A.ids.2.1 3 (intCells A.wd (A.n * 32)) :: blkR B 24 #[.pointer (some ⟨a, 0, none⟩)] :: (R2 ++ G)) := fun R2 W3 h => by
      have h1 : Sep w0 W3 (blkR B 24 #[.pointer (some ⟨a, 0, none⟩)] :: arenaR a A :: blkR (Y + 1) 86 #[.pointer (some ⟨A.ids.2.2, 0, none⟩)] :: objR l1 (.loop r') :: objR D (.deferred (some [])) :: blkR Y 35 #[.func (.yield l) #[] #[]] :: (R2 ++ G)) := h.perm (((perm_mid R2 [blkR (Y + 1) 86 #[.pointer (some ⟨A.ids.2.2, 0, none⟩)], objR l1 (.loop r'), objR D (.deferred (some [])), blkR Y 35 #[.func (.yield l) #[] #[]]] G).cons _).cons _)
      have h2 := (arena_openHead h1.swap).2
      exact h2.front 9 [5, 3, 6, 7, 8, 0, 1, 2, 4]
    have BACK := Lib.hid back
    clear back
    gi_wp2
    refine HR.out.mono ?_
    rintro e W3 (⟨rfl, R2, hΦ2, hS5⟩ | ⟨rfl, R2, hΦ2, hS5⟩)
    · have HS5 := Lib.hid (BACK.out _ _ hS5)
      have HP2 := Lib.hid hΦ2
      clear hS5 hΦ2
      gi_wp2
      exact ⟨_, ⟨R2, rfl, HP2.out⟩, HS5.out⟩
    · have HS5 := Lib.hid (BACK.out _ _ hS5)
      have HP2 := Lib.hid hΦ2
      clear hS5 hΦ2
      gi_wp2
      exact ⟨_, ⟨rfl, R2, rfl, HP2.out⟩, HS5.out⟩
  case done =>
    rintro D _ W1 ⟨R1, rfl, hΦ⟩ hS1
    gi_wp2
    refine leaves_mark hS1 (i := 2) rfl (fun _ => results_none rfl _ _ _) ?_
    intro w' hS2
    refine ⟨⟨_, rfl⟩, .inl ⟨R1, hΦ, ?_⟩⟩
    have h' : Sep w0 w' ((blkR a 118 (arenaCells A A.ids.1 A.ids.2.1 A.ids.2.2) :: blkR A.ids.1 120 (pageCells A.cls A.cnt A.n) :: blkR A.ids.2.1 3 (intCells A.wd (A.n * 32)) :: setR A.ids.2.2 A.size A.tk :: blkR B 24 #[.pointer (some ⟨a, 0, none⟩)] :: []) ++ ([blkR (Y + 1) 86 #[.pointer (some ⟨A.ids.2.2, 0, none⟩)], objR D (.deferred none), blkR Y 35 #[.func (.yield l) #[] #[]]] ++ R1)) := hS2.front 8 [4, 5, 6, 1, 7]
    exact (arena_shutHead (A := A) hn (h'.perm (perm_mid _ _ _)).right).swap
  case stop =>
    rintro D c pre _ W1 hpre ⟨rfl, R1, rfl, hΦ⟩ hS1
    gi_wp2
    refine leaves_mark hS1 (i := 2) rfl (fun _ => results_none rfl _ _ _) ?_
    intro w' hS2
    refine ⟨⟨_, rfl⟩, .inr ⟨pre, R1, hpre, hΦ, ?_⟩⟩
    have h' : Sep w0 w' ((blkR a 118 (arenaCells A A.ids.1 A.ids.2.1 A.ids.2.2) :: blkR A.ids.1 120 (pageCells A.cls A.cnt A.n) :: blkR A.ids.2.1 3 (intCells A.wd (A.n * 32)) :: setR A.ids.2.2 A.size A.tk :: blkR B 24 #[.pointer (some ⟨a, 0, none⟩)] :: []) ++ ([blkR (Y + 1) 86 #[.pointer (some ⟨A.ids.2.2, 0, none⟩)], objR D (.deferred none), blkR Y 35 #[.func (.yield l) #[] #[]]] ++ R1)) := hS2.front 8 [4, 5, 6, 1, 7]
    exact (arena_shutHead (A := A) hn (h'.perm (perm_mid _ _ _)).right).swap
end Go.Proofs.YtbcabjpafeocgaaGreat

/-
  The arena's iterator over a page's taken cells (layer 3). Conditions: the arena is as it always is.
-/
namespace Go.Proofs.YtbcabjpafeocgaaGreat
set_option linter.unusedVariables false
set_option linter.unusedSimpArgs false
open Go.RowKit Go.Shelf
attribute [local go_sem] Oper.semAt_some wide_fn round_fn wide_depth round_depth
attribute [local simp] wide_fn round_fn wide_depth round_depth

/-- The first m cells of a page, those that are taken. -/
def AR.cellsUpto (A : AR) (p : Int) (m : Nat) : List Nat := ((List.range m).map fun k => refN p.toNat (A.clsZ p) k).filter A.tk
/-- A page's taken cells, rising. -/
def AR.cellsOf (A : AR) (p : Int) : List Nat := A.cellsUpto p (cN (A.clsZ p))
theorem cellsUpto_succ (A : AR) (p : Int) (m : Nat) : A.cellsUpto p (m + 1) = A.cellsUpto p m ++ (if A.tk (refN p.toNat (A.clsZ p) m) then [refN p.toNat (A.clsZ p) m] else []) := by
  unfold AR.cellsUpto
  rw [List.range_succ, List.map_append, List.filter_append]
  cases h : A.tk (refN p.toNat (A.clsZ p) m) <;> simp [h]
theorem cellsUpto_prefix (A : AR) (p : Int) {k n : Nat} (h : k ≤ n) : A.cellsUpto p k <+: A.cellsUpto p n := by
  induction n with
  | zero => obtain rfl : k = 0 := by omega
            exact List.prefix_refl _
  | succ n ih =>
    by_cases e : k = n + 1
    · subst e; exact List.prefix_refl _
    · exact (ih (by omega)).trans (by rw [cellsUpto_succ]; exact List.prefix_append _ _)
theorem clsZ_pos {A : AR} {p : Int} (h : 0 < cN (A.clsZ p)) : 0 ≤ p ∧ p < (A.n : Int) := by
  unfold AR.clsZ at h
  by_cases h1 : 0 ≤ p ∧ p < (A.n : Int)
  · exact h1
  · rw [if_neg h1] at h
    exact absurd h (by decide)

set_option maxHeartbeats 2000000 in
theorem cells_iter (B B' a : Nat) (p : Int) (A : AR) (hw : A.Wf) :
    Iter Tryz.prog 78 #[.pointer (some ⟨B, 0, none⟩), .pointer (some ⟨B', 0, none⟩)] (fun i : Nat => #[.int .i64 (i : Int)]) (A.cellsOf p) (fun _ => [blkR B 24 #[.pointer (some ⟨a, 0, none⟩)], blkR B' 3 #[.int .i64 p], arenaR a A]) := by
  intro l w0 Φ Φx W R hY h0 hS
  dsimp only [List.cons_append, List.nil_append] at hY hS
  have HY := Lib.hid hY
  have HS := Lib.hid hS
  have H0 := Lib.hid h0
  have HW := Lib.hid hw
  have hb := (hS.blk 0 rfl).cell 0
  have hc := (hS.blk 1 rfl).cell 0
  simp at hb hc
  clear hY h0 hS hw
  refine calls_wide ?_
  gi_enter Tryz.func78, Tryz.ntmps78
  obtain ⟨c, hcc⟩ : ∃ c, A.clsZ p = c := ⟨_, rfl⟩
  obtain ⟨C, hC⟩ : ∃ C, cN c = C := ⟨_, rfl⟩
  have hcz : cellsZ c = (C : Int) := by rw [cells_cN, hC]
  have hC16 : C ≤ 16 := by have := (cells_nonneg c).2; rw [hcz] at this; omega
  have HCC := Lib.hid hcc
  have HC := Lib.hid hC
  have HCZ := Lib.hid hcz
  clear hcc hC hcz
  gi_wp2_with (first | (gi_at_call 79; refine (calls_in (TAClass HS.out 2 rfl p)).mono ?_; rw [HCC.out]; rintro e w' ⟨rfl, rfl⟩) | (gi_at_call 80; refine (calls_in (Cells c _)).mono ?_; rw [HCZ.out]; rintro e w' ⟨rfl, rfl⟩))
  clear hb hc
  have hpos : 0 < C → 0 ≤ p ∧ p < (A.n : Int) := fun h => clsZ_pos (A := A) (by rw [HCC.out, HC.out]; exact h)
  have HPOS := Lib.hid hpos
  clear hpos
  gi_loopw [12] (fun i wr => ∃ (k : Nat) (R' : List Res), k ≤ C ∧ i = .int .i64 k ∧ Φ (A.cellsUpto p k) R' ∧ Sep w0 wr (blkR B 24 #[.pointer (some ⟨a, 0, none⟩)] :: blkR B' 3 #[.int .i64 p] :: arenaR a A :: R')) (fun i _ => C + 1 - (intOf i).toNat)
  case atStart => exact ⟨0, R, by omega, rfl, H0.out, HS.out⟩
  case round =>
    obtain ⟨k, R', hk, rfl, hΦ, hS⟩ := hrel
    clear H0 HS
    by_cases hlt : k < C
    · have hb := (hS.blk 0 rfl).cell 0
      have hc := (hS.blk 1 rfl).cell 0
      simp at hb hc
      have HS := Lib.hid hS
      have HP := Lib.hid hΦ
      have HLT := Lib.hid hlt
      have hIn : (k : Int) < (C : Int) := by omega
      have hp0 := (HPOS.out (by omega)).1
      have hp1 : p ≤ 1000000 := by have := (HPOS.out (by omega)).2; have := HW.out.few; omega
      have hk0 : (0 : Int) ≤ (k : Int) := by omega
      have hkc : (k : Int) < cellsZ c := by rw [HCZ.out]; exact hIn
      have href : refZ p c (k : Int) = ((refN p.toNat c k : Nat) : Int) := by rw [← refZ_refN]; congr 1; omega
      have HREF := Lib.hid href
      have hup : A.cellsUpto p (k + 1) = A.cellsUpto p k ++ (if A.tk (refN p.toNat c k) then [refN p.toNat c k] else []) := by rw [cellsUpto_succ, HCC.out]
      have HUP := Lib.hid hup
      clear hS hΦ href hup
      obtain ⟨B0, hB⟩ : ∃ B0, A.tk (refN p.toNat c k) = B0 := ⟨_, rfl⟩
      obtain ⟨q, hq⟩ : ∃ q, refN p.toNat c k = q := ⟨_, rfl⟩
      rw [hq] at HREF HUP hB
      have HB := Lib.hid hB
      have HKC := Lib.hid hkc
      clear hB hq hkc
      cases B0
      · have hup : A.cellsUpto p (k + 1) = A.cellsUpto p k := by rw [HUP.out, HB.out]; simp
        have HUP2 := Lib.hid hup
        clear hup
        gi_wp2_with (first | (gi_at_call 81; refine (calls_in (ARef p c k hp0 hp1 hk0 HKC.out _)).mono ?_; rw [HREF.out]; rintro e w' ⟨rfl, rfl⟩) | (gi_at_call 82; refine (calls_in (TAHas HS.out 2 rfl _)).mono ?_; rw [HW.out.has, HB.out]; rintro e w1 ⟨rfl, hs⟩; have HS1 := Lib.hid hs; clear hs))
        go_roundw
        case rel => exact ⟨k + 1, R', HLT.out, by go_num, by rw [HUP2.out]; exact HP.out, HS1.out⟩
        case measure => have := HLT.out; simp [intOf]; omega
      · have hup : A.cellsUpto p (k + 1) = A.cellsUpto p k ++ [q] := by rw [HUP.out, HB.out]; simp
        have HUP2 := Lib.hid hup
        have hpre : A.cellsUpto p k ++ [q] <+: A.cellsOf p := by
          rw [← hup]
          unfold AR.cellsOf
          rw [HCC.out, HC.out]
          exact cellsUpto_prefix A p HLT.out
        have HPRE := Lib.hid hpre
        clear hup hpre
        gi_wp2_with (first | (gi_at_call 81; refine (calls_in (ARef p c k hp0 hp1 hk0 HKC.out _)).mono ?_; rw [HREF.out]; rintro e w' ⟨rfl, rfl⟩) | (gi_at_call 82; refine (calls_in (TAHas HS.out 2 rfl _)).mono ?_; rw [HW.out.has, HB.out]; rintro e w1 ⟨rfl, hs⟩; have HS1 := Lib.hid hs; clear hs; obtain ⟨fn, tmps, assign, body, hy, hR⟩ := HY.out (A.cellsUpto p k) q R' [] w1 HPRE.out HP.out (by simpa using HS1.out); have HR := Lib.hid hR; clear hR))
        refine HR.out.mono ?_
        simp only [List.append_nil]
        rintro e w2 (⟨rfl, R2, hΦ2, hS2⟩ | ⟨rfl, R2, hΦ2, hS2⟩)
        · have HS2 := Lib.hid hS2
          have HP2 := Lib.hid hΦ2
          clear hS2 hΦ2
          gi_wp2
          go_roundw
          case rel => exact ⟨k + 1, R2, HLT.out, by go_num, by rw [HUP2.out]; exact HP2.out, HS2.out⟩
          case measure => have := HLT.out; simp [intOf]; omega
        · have HS2 := Lib.hid hS2
          have HP2 := Lib.hid hΦ2
          clear hS2 hΦ2
          gi_wp2
          refine bodyPost_ret (results_none rfl _ _ _) rfl ?_
          exact ⟨⟨_, rfl⟩, .inr ⟨_, R2, HPRE.out, HP2.out, HS2.out⟩⟩
    · obtain rfl : k = C := by omega
      have HS := Lib.hid hS
      have hΦ' : Φ (A.cellsOf p) R' := by unfold AR.cellsOf; rw [HCC.out, HC.out]; exact hΦ
      have HP := Lib.hid hΦ'
      clear hS hΦ hΦ'
      gi_wp2
      go_end0
      exact ⟨⟨_, rfl⟩, .inl ⟨R', HP.out, HS.out⟩⟩
end Go.Proofs.YtbcabjpafeocgaaGreat

/-
  Slices that a function's own text makes and appends to, where memory is a list of things. Conditions: no program is named here.
-/
namespace Go.Proofs.YtbcabjpafeocgaaGreat
set_option linter.unusedVariables false
set_option linter.unusedSimpArgs false
open Go.RowKit Go.Shelf

/-- The slice value v, of elements of type e, sz cells each, n of them, whose cells are xs, in a block of its own. -/
def rowR (e : TypeId) (sz : Nat) (v : Value) (n : Nat) (xs : List Value) : Res :=
  ⟨fun w F => F = v.ownBlock.toList ∧ w.ownsRow 0 e sz v n xs, fun h hc hF => ⟨h.1, hc.row h.2 (fun k hk => hF k (by simp [h.1, hk]))⟩, fun h x hx => by
    rw [h.1] at hx
    exact row_lt h.2 (by simpa using hx)⟩

section
variable {w0 w : World} {L : List Res} {i n : Nat} {e : TypeId} {sz : Nat} {v : Value} {xs : List Value}

theorem Sep.row (S : Sep w0 w L) (hi : L[i]? = some (rowR e sz v n xs)) : w.ownsRow 0 e sz v n xs := by
  obtain ⟨F, hp, _⟩ := S.at_ hi
  exact hp.2
/-- A nil slice. -/
theorem Sep.nilRow (S : Sep w0 w L) (e : TypeId) (sz : Nat) : Sep w0 w (rowR e sz (.slice none 0 0) 0 [] :: L) :=
  S.new (r := rowR e sz (.slice none 0 0) 0 []) (F := []) ⟨rfl, ⟨by simp, .inl ⟨rfl, rfl⟩⟩⟩ (by simp) (Chg.refl _ _)
theorem Sep.rowShape (S : Sep w0 w L) (i : Nat) (hi : L[i]? = some (rowR e sz v n xs)) : ∃ A cap, v = .slice A n cap ∧ n ≤ cap ∧ cap ≤ maxLen := row_slice (S.row hi)
theorem Sep.rowSome (S : Sep w0 w L) (i : Nat) (hi : L[i]? = some (rowR e sz v n xs)) (hn : 0 < n) : ∃ g cap, v = .slice (some ⟨g, 0, none⟩) n cap ∧ n ≤ cap ∧ cap ≤ maxLen := by
  obtain ⟨g, cap, h1, h2, h3, _⟩ := row_some (S.row hi) hn
  exact ⟨g, cap, h1, h2, h3⟩
theorem Sep.rowCell {g cap : Nat} (S : Sep w0 w L) (i : Nat) (hi : L[i]? = some (rowR e sz (.slice (some ⟨g, 0, none⟩) n cap) n xs)) (j : Nat) (u : Value) (hj : xs[j]? = some u) : w.cell? ⟨g, j, none⟩ = some u := by
  have h := (S.row hi).cells (g := g) rfl j u hj
  unfold Addr.add at h
  by_cases h0 : j = 0
  · subst h0; simpa using h
  · simpa [h0] using h

theorem Sep.rowFree {g cap : Nat} (S : Sep w0 w L) (i : Nat) (hi : L[i]? = some (rowR e sz (.slice (some ⟨g, 0, none⟩) n cap) n xs)) (j : Nat) : w.frozen? ⟨g, j, none⟩ = false := by
  obtain ⟨_, h⟩ := S.row hi
  rcases h with ⟨h, _⟩ | ⟨g', cap', cur, h, _, hh, _⟩
  · cases h
  · cases h
    exact Blk.frozen (t := e) hh j
theorem Sep.rowSet {g cap : Nat} (S : Sep w0 w L) (i : Nat) (hi : L[i]? = some (rowR e sz (.slice (some ⟨g, 0, none⟩) n cap) n xs)) (j : Nat) (u : Value) : Sep w0 (w.setCell ⟨g, j, none⟩ u) (L.set i (rowR e sz (.slice (some ⟨g, 0, none⟩) n cap) n (xs.set j u))) := by
  obtain ⟨F, hp, hk⟩ := S.at_ hi
  obtain ⟨rfl, hl, h⟩ := hp
  rcases h with ⟨h, _⟩ | ⟨g', cap', cur, h, h0, hh, h1, h2, h3, h4⟩
  · cases h
  · cases h
    refine hk _ _ _ ⟨rfl, by simpa using hl, .inr ⟨g, cap, cur.setIfInBounds j u, rfl, h0, Blk.set_ (t := e) hh j u, h1, h2, by simpa using h3, ?_⟩⟩ (GrewF.self _ _) ((Chg.refl _ _).setCell (.inl (by simp [Value.ownBlock])) _)
    rw [Array.toList_setIfInBounds, List.take_set, h4]

theorem grown_sep {w' : World} {v' : Value} {n' : Nat} {xs' : List Value} {o : Go.Obj} (S : Sep w0 w L) (i : Nat) (hi : L[i]? = some (rowR e sz v n xs)) (hr : w'.ownsRow 0 e sz v' n' xs') (hg : (w.alloc o).grownBy w' v.ownBlock) (hb : v'.ownBlock = v.ownBlock ∨ v'.ownBlock = some (w.alloc o).heap.size) :
    Sep w0 w' (L.set i (rowR e sz v' n' xs')) := by
  obtain ⟨F, hp, hk⟩ := S.at_ hi
  obtain ⟨rfl, _⟩ := hp
  refine hk _ w' _ ⟨rfl, hr⟩ ?_ (Chg.grown ((Chg.refl _ w).alloc o) hg (fun k hk => .inl (by simp [hk])))
  intro x hx
  rcases hb with h | h
  · rw [h] at hx; exact .inl hx
  · rw [h] at hx; simp at hx; exact .inr (by omega)

/-- out = append(out, x), x of one element. -/
theorem wpList_append_sep {P : Program} {ops : Array Oper} {rest : List Oper} {o : Oper} {a : Act} {Q : Exit → Act → World → Prop} (hgd : o.guard = none) (s x : Operand) (t : TypeId)
    (ho : o.op = .call { callee := .builtin .append, args := #[s, x], argTypes := #[t, t] })
    (e : TypeId) (z : Value) (sz bytes : Nat) (ht : P.underlying t = some (.slice e)) (hinfo : (P.info? e).map (fun i => (i.zero, i.size, i.bytes)) = some (some z, sz, bytes)) (hzs : z.cells.size = sz) (hsz : 0 < sz)
    (S : Sep w0 w L) (i : Nat) (hi : L[i]? = some (rowR e sz v n xs)) (hs : a.eval s = v) (us : List Value) (hus : us.length = sz) (h1 : ∀ u ∈ us, u.oneCell' = true) (hx : a.eval x = .slice (some ⟨w.heap.size, 0, none⟩) 1 1)
    (h63 : n + 1 ≤ maxLen) (hbytes : (n + 1) * bytes ≤ 140737488355328)
    (h : ∀ g cap w', n + 1 ≤ cap → cap ≤ maxLen → Sep w0 w' (L.set i (rowR e sz (.slice (some ⟨g, 0, none⟩) (n + 1) cap) (n + 1) (xs ++ us))) → wpList P ops Q rest (a.put o.dst (.slice (some ⟨g, 0, none⟩) (n + 1) cap)) w') :
    wpList P ops Q (o :: rest) a (w.alloc (.cells us.toArray e)) := by
  obtain ⟨i0, hi0, hz0, hz1, hz2⟩ := info_parts hinfo
  refine wpList_append_own_at _ hgd s x t ho 0 e i0 z sz bytes ht hi0 hz0 hz1 hz2 hzs hsz v n xs hs (World.ownsRow.alloc (S.row hi) _) ⟨w.heap.size, 0, none⟩ 1 1 us hx (by omega) ?_ h1 h63 hbytes (Nat.zero_le _) ?_
  · intro j u hj
    have hb := Blk.new w e us.toArray
    have := hb.cell j
    simp only [List.getElem?_toArray] at this
    rw [hj] at this
    unfold Addr.add
    by_cases h0 : j = 0
    · subst h0; simpa using this
    · simpa [h0] using this
  · intro v' w' hown hgrow _ hblk
    obtain ⟨g, cap, rfl, h2, h3, _⟩ := row_some hown (by omega)
    exact h g cap w' h2 h3 (grown_sep S i hi hown hgrow hblk)

theorem wpListIn_append_sep {F : Fence} {k : Nat} {P : Program} {ops : Array Oper} {rest : List Oper} {o : Oper} {a : Act} {Q : Exit → Act → World → Prop} (hgd : o.guard = none) (s x : Operand) (t : TypeId)
    (ho : o.op = .call { callee := .builtin .append, args := #[s, x], argTypes := #[t, t] })
    (e : TypeId) (z : Value) (sz bytes : Nat) (ht : P.underlying t = some (.slice e)) (hinfo : (P.info? e).map (fun i => (i.zero, i.size, i.bytes)) = some (some z, sz, bytes)) (hzs : z.cells.size = sz) (hsz : 0 < sz)
    (S : Sep w0 w L) (i : Nat) (hi : L[i]? = some (rowR e sz v n xs)) (hs : a.eval s = v) (us : List Value) (hus : us.length = sz) (h1 : ∀ u ∈ us, u.oneCell' = true) (hx : a.eval x = .slice (some ⟨w.heap.size, 0, none⟩) 1 1)
    (h63 : n + 1 ≤ maxLen) (hbytes : (n + 1) * bytes ≤ 140737488355328)
    (h : ∀ g cap w', n + 1 ≤ cap → cap ≤ maxLen → Sep w0 w' (L.set i (rowR e sz (.slice (some ⟨g, 0, none⟩) (n + 1) cap) (n + 1) (xs ++ us))) → wpListIn F k P ops Q rest (a.put o.dst (.slice (some ⟨g, 0, none⟩) (n + 1) cap)) w') :
    wpListIn F k P ops Q (o :: rest) a (w.alloc (.cells us.toArray e)) := by
  obtain ⟨i0, hi0, hz0, hz1, hz2⟩ := info_parts hinfo
  refine wpListIn_plain hgd fun K hK' => ?_
  obtain ⟨v', w', hrun, hown, hgrow, _, hblk⟩ := run_append_own_at (P := P) (w := w.alloc (.cells us.toArray e)) 0 t o.type e i0 z sz bytes ht hi0 hz0 hz1 hz2 hzs hsz v n xs (World.ownsRow.alloc (S.row hi) _) ⟨w.heap.size, 0, none⟩ 1 1 us (by omega) (by
    intro j u hj
    have hb := Blk.new w e us.toArray
    have := hb.cell j
    simp only [List.getElem?_toArray] at this
    rw [hj] at this
    unfold Addr.add
    by_cases h0 : j = 0
    · subst h0; simpa using this
    · simpa [h0] using this) h1 h63 hbytes (Nat.zero_le _)
  obtain ⟨g, cap, rfl, h2, h3, _⟩ := row_some hown (by omega)
  unfold Oper.wpIn
  refine ⟨?_, ?_⟩
  · simp [Oper.about, ho, resolve, Target.leads, Sem.run_pure]
  · rw [Oper.semAt_plain F _ _ (by rw [ho]; intro c hc'; cases hc')]
    simp [execOp, ho, resolve, invoke, builtin, hs, hx, hrun, Result.andThen]
    exact hK' _ _ (h g cap w' h2 h3 (grown_sep S i hi hown hgrow hblk))
end
end Go.Proofs.YtbcabjpafeocgaaGreat

/-
  What the program's table of types says of some element types. Conditions: none.
-/
namespace Go.Proofs.YtbcabjpafeocgaaGreat
set_option linter.unusedVariables false
set_option linter.unusedSimpArgs false
theorem refInfo : (Tryz.prog.info? 34).map (fun i => (i.zero, i.size, i.bytes)) = some (some (.int .i64 0), 1, 8) := by kernel_rfl
end Go.Proofs.YtbcabjpafeocgaaGreat

/-
  The cards' iterator that takes, and the remark of layer 12. Conditions: as the theorem says.
-/
namespace Go.Proofs.YtbcabjpafeocgaaGreat
set_option linter.unusedVariables false
set_option linter.unusedSimpArgs false
open Go.RowKit Go.Shelf
attribute [local go_sem] Oper.semAt_some wide_fn round_fn wide_depth round_depth
attribute [local simp] wide_fn round_fn wide_depth round_depth

theorem CTake {w0 w : World} {L : List Res} (S : Sep w0 w L) (c : Nat) : Calls Tryz.prog 53 #[.pointer (some ⟨c, 0, none⟩)] w fun e w' => e = .returned (.func (.func 76) #[] #[.pointer (some ⟨w.heap.size, 0, none⟩)]) ∧ Sep w0 w' (blkR w.heap.size 93 #[.pointer (some ⟨c, 0, none⟩)] :: L) := by
  have hmf : ∀ (fn : Fn) (first cap : Array Value) (w : World), (Instr.makeFunc fn first cap).run Tryz.prog w = .ok (.func fn first cap) w := fun _ _ _ _ => rfl
  have H := Lib.hid S
  clear S
  go_enter Tryz.func53, Tryz.ntmps53
  go_wp2_with fail
  go_ret
  exact ⟨rfl, H.out.alloc _⟩
set_option maxHeartbeats 4000000 in
theorem take_iter (B c s a : Nat) (n : Nat) (S : Nat → Bool) (hn : n ≤ 1000) :
    Iter Tryz.prog 76 #[.pointer (some ⟨B, 0, none⟩)] (fun i : Nat => #[.int .i64 (i : Int)]) (elems n S) (fun pre => [blkR B 93 #[.pointer (some ⟨c, 0, none⟩)], blkR c 114 #[.pointer (some ⟨s, 0, none⟩), .pointer (some ⟨a, 0, none⟩)], setR s (n : Int) (without S pre)]) := by
  intro l w0 Φ Φx W R hY h0 hS
  dsimp only [List.cons_append, List.nil_append] at hY hS
  have HY := Lib.hid hY
  have HS := Lib.hid hS
  have H0 := Lib.hid h0
  have hb := (hS.blk 0 rfl).cell 0
  have hc := (hS.blk 1 rfl).cell 0
  have hbl := Lib.hid (hS.blk 0 rfl).lt
  have hal := Lib.hid (hS.blk 1 rfl).lt
  simp only [List.getElem?_toArray, List.getElem?_cons_zero, List.getElem?_cons_succ] at hb hc
  have ab : ∀ o : Go.Obj, (W.alloc o).cell? ⟨B, 0, none⟩ = some (.pointer (some ⟨c, 0, none⟩)) := fun o => (World.cell?_alloc_past _ _ _ hbl.out).trans hb
  have ac : ∀ o : Go.Obj, (W.alloc o).cell? ⟨c, 0, none⟩ = some (.pointer (some ⟨s, 0, none⟩)) := fun o => (World.cell?_alloc_past _ _ _ hal.out).trans hc
  clear hY h0 hS hb hc
  refine calls_wide ?_
  refine callsIn_of_wp_marks Tryz.func76 rfl trivial ?_
  simp only [Tryz.ntmps76, List.size_toArray, List.length_cons, List.length_nil, Nat.reduceAdd, Nat.reduceSub, Array.replicate_succ, Array.replicate_zero, List.push_toArray, List.append_toArray, List.nil_append, List.cons_append]
  gi_wp2_with (gi_at_call 65; refine (calls_in (TSAll (HS.out.alloc _) s)).mono ?_; rintro e w1 ⟨rfl, hs⟩; have HS1 := Lib.hid hs; clear hs)
  have hS1 := HS1.out
  simp only [World.size_alloc] at hS1 ⊢
  have HSA := Lib.hid ((hS1.lift 4 rfl).lift 1 rfl)
  clear hS1 HS1 HS ab ac hbl hal
  obtain ⟨Y, hY0⟩ : ∃ Y, W.heap.size = Y := ⟨_, rfl⟩
  rw [hY0] at HSA ⊢
  clear hY0
  refine wp_range2 (gf := 92) (lb := #[.pointer (some ⟨Y + 1, 0, none⟩)]) rfl (enters_of Tryz.func92 (by kernel_rfl) rfl) (set_iter2 (Y + 1) s n S (by omega)) (fun _ => rfl)
    (R := blkR Y 92 #[.func (.yield l) #[] #[]] :: blkR B 93 #[.pointer (some ⟨c, 0, none⟩)] :: blkR c 114 #[.pointer (some ⟨s, 0, none⟩), .pointer (some ⟨a, 0, none⟩)] :: R) HSA.out
    (fun pre Rs => ∃ R', Rs = blkR Y 92 #[.func (.yield l) #[] #[]] :: blkR B 93 #[.pointer (some ⟨c, 0, none⟩)] :: blkR c 114 #[.pointer (some ⟨s, 0, none⟩), .pointer (some ⟨a, 0, none⟩)] :: R' ∧ Φ pre R')
    (fun c1 pre Rs => c1 = .ret ∧ ∃ R', Rs = blkR Y 92 #[.func (.yield l) #[] #[]] :: blkR B 93 #[.pointer (some ⟨c, 0, none⟩)] :: blkR c 114 #[.pointer (some ⟨s, 0, none⟩), .pointer (some ⟨a, 0, none⟩)] :: R' ∧ Φx pre R')
    ⟨R, rfl, H0.out⟩ ?round ?done ?stop
  case round =>
    rintro l1 D pre x _ G W1 r hpre ⟨R1, rfl, hΦ⟩ hS1
    simp only [List.cons_append, List.nil_append] at hS1
    have hx : x < n := (mem_elems.1 (hpre.subset (by simp : x ∈ pre ++ [x]))).1
    have HX := Lib.hid hx
    have HPRE := Lib.hid hpre
    have HP := Lib.hid hΦ
    have HS1 := Lib.hid hS1
    clear hpre hΦ hS1 H0 HSA hx
    gi_wp2
    refine ⟨[], HS1.out, ?_⟩
    intro r' W2 hS2
    simp only [List.cons_append, List.nil_append, List.dropLast_concat] at hS2
    have hy0 := (hS2.blk 5 rfl).cell 0
    have hc0 := (hS2.blk 6 rfl).cell 0
    simp only [List.getElem?_toArray, List.getElem?_cons_zero, List.getElem?_cons_succ] at hy0 hc0
    have HD := Lib.hid (TSDrop hS2 1 rfl (by omega) x (by have := HX.out; omega))
    have back : ∀ (R2 : List Res) (W3 : World), Sep w0 W3 (blkR B 93 #[.pointer (some ⟨c, 0, none⟩)] :: blkR c 114 #[.pointer (some ⟨s, 0, none⟩), .pointer (some ⟨a, 0, none⟩)] :: setR s (n : Int) (without S (pre ++ [x])) :: (R2 ++ ([blkR (Y + 1) 86 #[.pointer (some ⟨s, 0, none⟩)], objR l1 (.loop r'), objR D (.deferred (some [])), blkR Y 92 #[.func (.yield l) #[] #[]]] ++ G))) → Sep w0 W3 (blkR (Y + 1) 86 #[.pointer (some ⟨s, 0, none⟩)] :: setR s (n : Int) (without S (pre ++ [x])) :: objR l1 (.loop r') :: objR D (.deferred (some [])) :: blkR Y 92 #[.func (.yield l) #[] #[]] :: blkR B 93 #[.pointer (some ⟨c, 0, none⟩)] :: blkR c 114 #[.pointer (some ⟨s, 0, none⟩), .pointer (some ⟨a, 0, none⟩)] :: (R2 ++ G)) := fun R2 W3 h => by
      have h1 := h.perm ((((perm_mid R2 [blkR (Y + 1) 86 #[.pointer (some ⟨s, 0, none⟩)], objR l1 (.loop r'), objR D (.deferred (some [])), blkR Y 92 #[.func (.yield l) #[] #[]]] G).cons _).cons _).cons _)
      exact (show Sep w0 W3 (blkR B 93 #[.pointer (some ⟨c, 0, none⟩)] :: blkR c 114 #[.pointer (some ⟨s, 0, none⟩), .pointer (some ⟨a, 0, none⟩)] :: setR s (n : Int) (without S (pre ++ [x])) :: blkR (Y + 1) 86 #[.pointer (some ⟨s, 0, none⟩)] :: objR l1 (.loop r') :: objR D (.deferred (some [])) :: blkR Y 92 #[.func (.yield l) #[] #[]] :: (R2 ++ G)) from h1).front 7 [3, 2, 4, 5, 6, 0, 1]
    have BACK := Lib.hid back
    clear back hS2 HS1
    gi_wp2_with (gi_at_call 77; refine (calls_round HD.out).mono ?_; rintro e w3 ⟨rfl, hs⟩; have hs3 := (show Sep w0 w3 (blkR (Y + 1) 86 #[.pointer (some ⟨s, 0, none⟩)] :: setR s (n : Int) (without S (pre ++ [x])) :: objR l1 (.loop r') :: objR D (.deferred (some [])) :: blkR Y 92 #[.func (.yield l) #[] #[]] :: blkR B 93 #[.pointer (some ⟨c, 0, none⟩)] :: blkR c 114 #[.pointer (some ⟨s, 0, none⟩), .pointer (some ⟨a, 0, none⟩)] :: (R1 ++ G)) from by rw [without_push]; exact hs); clear hs HD hy0 hc0; have hy0 := (hs3.blk 4 rfl).cell 0; simp only [List.getElem?_toArray, List.getElem?_cons_zero, List.getElem?_cons_succ] at hy0; have hs4 := (show Sep w0 w3 (blkR B 93 #[.pointer (some ⟨c, 0, none⟩)] :: blkR c 114 #[.pointer (some ⟨s, 0, none⟩), .pointer (some ⟨a, 0, none⟩)] :: setR s (n : Int) (without S (pre ++ [x])) :: ([blkR (Y + 1) 86 #[.pointer (some ⟨s, 0, none⟩)], objR l1 (.loop r'), objR D (.deferred (some [])), blkR Y 92 #[.func (.yield l) #[] #[]]] ++ (R1 ++ G))) from hs3.front 7 [5, 6, 1]).perm ((((perm_mid [blkR (Y + 1) 86 #[.pointer (some ⟨s, 0, none⟩)], objR l1 (.loop r'), objR D (.deferred (some [])), blkR Y 92 #[.func (.yield l) #[] #[]]] R1 G).cons _).cons _).cons _); obtain ⟨fn, tmps, assign, body, hy, hR⟩ := HY.out pre x R1 _ w3 HPRE.out HP.out hs4; have HR := Lib.hid (show RoundIn (Fence.wide.inRound l1) 0 Tryz.prog l fn tmps assign body w3 _ from hR); clear hR hs3 hs4)
    refine HR.out.mono ?_
    rintro e W3 (⟨rfl, R2, hΦ2, hS5⟩ | ⟨rfl, R2, hΦ2, hS5⟩)
    · have HS5 := Lib.hid (BACK.out _ _ hS5)
      have HP2 := Lib.hid hΦ2
      clear hS5 hΦ2
      gi_wp2
      exact ⟨_, ⟨R2, rfl, HP2.out⟩, HS5.out⟩
    · have HS5 := Lib.hid (BACK.out _ _ hS5)
      have HP2 := Lib.hid hΦ2
      clear hS5 hΦ2
      gi_wp2
      exact ⟨_, ⟨rfl, R2, rfl, HP2.out⟩, HS5.out⟩
  case done =>
    rintro D _ W1 ⟨R1, rfl, hΦ⟩ hS1
    gi_wp2
    refine leaves_mark hS1 (i := 2) rfl (fun _ => results_none rfl _ _ _) ?_
    intro w' hS2
    refine ⟨⟨_, rfl⟩, .inl ⟨R1, hΦ, ?_⟩⟩
    have h' : Sep w0 w' ([blkR B 93 #[.pointer (some ⟨c, 0, none⟩)], blkR c 114 #[.pointer (some ⟨s, 0, none⟩), .pointer (some ⟨a, 0, none⟩)], setR s (n : Int) (without S (elems n S))] ++ ([blkR (Y + 1) 86 #[.pointer (some ⟨s, 0, none⟩)], objR D (.deferred none), blkR Y 92 #[.func (.yield l) #[] #[]]] ++ R1)) := hS2.front 6 [4, 5, 1]
    exact (h'.perm (perm_mid _ _ _)).right
  case stop =>
    rintro D c1 pre _ W1 hpre ⟨rfl, R1, rfl, hΦ⟩ hS1
    gi_wp2
    refine leaves_mark hS1 (i := 2) rfl (fun _ => results_none rfl _ _ _) ?_
    intro w' hS2
    refine ⟨⟨_, rfl⟩, .inr ⟨pre, R1, hpre, hΦ, ?_⟩⟩
    have h' : Sep w0 w' ([blkR B 93 #[.pointer (some ⟨c, 0, none⟩)], blkR c 114 #[.pointer (some ⟨s, 0, none⟩), .pointer (some ⟨a, 0, none⟩)], setR s (n : Int) (without S pre)] ++ ([blkR (Y + 1) 86 #[.pointer (some ⟨s, 0, none⟩)], objR D (.deferred none), blkR Y 92 #[.func (.yield l) #[] #[]]] ++ R1)) := hS2.front 6 [4, 5, 1]
    exact (h'.perm (perm_mid _ _ _)).right
end Go.Proofs.YtbcabjpafeocgaaGreat

/-
  What a take and a give change of an arena, as plain data (layer 3). Conditions: the arena is as it always is; no walk.
-/
namespace Go.Proofs.YtbcabjpafeocgaaGreat
set_option linter.unusedVariables false
set_option linter.unusedSimpArgs false

/-- A takes a cell of page p, the k-th of class c. -/
structure TakeIs (A : AR) (c : Int) (r : Nat) (A' : AR) (p k : Nat) : Prop where
  wf : A'.Wf
  n : A'.n = A.n
  ids : A'.ids = A.ids
  free : A.tk r = false
  tk : A'.tk = fun j => A.tk j || decide (j = r)
  page : p < A.n
  cell : k < cN c
  ref : r = refN p c k
  was : A.cls p = c ∨ A.cls p = -1
  cls : A'.cls = updN A.cls p c
  cnt : A'.cnt = updN A.cnt p (A.cnt p + 1)
  wd : A'.wd = zeroed A.wd (r - 1) (wN c)
  /-- it is the least one -/
  least : ∀ q j, q < A.n → A.cls q = c → j < cN c → A.tk (refN q c j) = false → lexLt (p, k) (q, j) ∨ (p, k) = (q, j)
  fresh : A.cls p = -1 → k = 0 ∧ (∀ q, q < p → 0 ≤ A.cls q) ∧ ∀ q j, q < A.n → A.cls q = c → j < cN c → A.tk (refN q c j) = true

variable {A : AR}

theorem AR.Wf.take_spec (h : A.Wf) {c : Int} {r : Nat} {A' : AR} (ht : A.take c = some (r, A')) : ∃ p k, TakeIs A c r A' p k := by
  have hwf := h.take_wf ht
  unfold AR.take at ht
  by_cases hc : cN c = 0
  · rw [if_pos hc] at ht; cases ht
  · rw [if_neg hc] at ht
    have hc' : 0 < cN c := by omega
    have hc0 : 0 ≤ c := by rcases class_nat c hc' with ⟨rfl, _⟩ | ⟨rfl, _⟩ | ⟨rfl, _⟩ <;> omega
    cases hg : A.gapP c with
    | some x =>
      obtain ⟨p, k⟩ := x
      rw [hg] at ht
      cases ht
      obtain ⟨hgap, hk⟩ := h.gap_is hg
      have hp := hgap.inside
      have hcp := hgap.cls
      have hf : A.tk (refN p c k) = false := by have := hgap.free; rw [refZ_refN, h.has] at this; exact this
      have hl := (find_least (cellsL_sorted A c) hg).2.2
      refine ⟨p, k, hwf, rfl, rfl, hf, rfl, hp, hk, rfl, .inl hcp, ?_, by simp [AR.put], rfl, ?_, ?_⟩
      · funext q
        simp only [AR.put, updN]
        by_cases e : q = p
        · subst e; simp [hcp]
        · simp [e]
      · intro q j hq hqc hj htk
        rcases hl (q, j) (mem_cellsL.2 ⟨hq, hqc, hj⟩) (by simp [htk]) with e | e
        · exact .inr e.symm
        · exact .inl e
      · intro e; omega
    | none =>
      rw [hg] at ht
      simp only at ht
      cases hp : A.freeP with
      | some p =>
        rw [hp] at ht
        cases ht
        have hff := h.free_is hp
        have hin := hff.inside
        have hcp : A.cls p = -1 := by rcases h.cls p hin with e | e; exact e; have := hff.cls; omega
        have hfull : ∀ q j, q < A.n → A.cls q = c → j < cN c → A.tk (refN q c j) = true := by
          intro q j hq hqc hj
          have := List.find?_eq_none.1 hg (q, j) (mem_cellsL.2 ⟨hq, hqc, hj⟩)
          simpa using this
        have hf : A.tk (refN p c 0) = false := by
          cases hh : A.tk (refN p c 0)
          · rfl
          · obtain ⟨q, j, hq, h0, hj, e⟩ := h.cell _ hh
            have h1 := (ref_in (p := q) hj).2.2.2.1
            have h2 := (ref_in (p := p) hc').2.2.2.1
            rw [e] at h2
            obtain rfl : q = p := by omega
            omega
        have hcnt0 : A.cnt p = 0 := by rw [h.cnt p hin, hcp]; rfl
        refine ⟨p, 0, hwf, rfl, rfl, hf, rfl, hin, hc', rfl, .inr hcp, rfl, by simp [AR.put, hcnt0], rfl, ?_, fun _ => ⟨rfl, hff.ahead, hfull⟩⟩
        intro q j hq hqc hj htk
        rw [hfull q j hq hqc hj] at htk
        cases htk
      | none => rw [hp] at ht; cases ht

theorem AR.Wf.take_none (h : A.Wf) {c : Int} (ht : A.take c = none) : cN c = 0 ∨ (∀ q, q < A.n → 0 ≤ A.cls q) ∧ ∀ q j, q < A.n → A.cls q = c → j < cN c → A.tk (refN q c j) = true := by
  unfold AR.take at ht
  by_cases hc : cN c = 0
  · exact .inl hc
  · rw [if_neg hc] at ht
    refine .inr ?_
    cases hg : A.gapP c with
    | some x => rw [hg] at ht; cases ht
    | none =>
      rw [hg] at ht
      simp only at ht
      cases hp : A.freeP with
      | some p => rw [hp] at ht; cases ht
      | none =>
        constructor
        · intro q hq
          have := List.find?_eq_none.1 hp q (by simpa using hq)
          simp at this
          exact this
        · intro q j hq hqc hj
          have := List.find?_eq_none.1 hg (q, j) (mem_cellsL.2 ⟨hq, hqc, hj⟩)
          simpa using this

theorem takeA_some {c : Int} {r : Nat} {A' : AR} (ht : A.take c = some (r, A')) : A.takeA c = A' := by unfold AR.takeA; rw [ht]
theorem takeA_none {c : Int} (ht : A.take c = none) : A.takeA c = A := by unfold AR.takeA; rw [ht]

/-- What is given back. -/
theorem give_tk (A : AR) (r : Nat) (h : A.has (r : Int) = true) : (A.give (r : Int)).tk = fun j => A.tk j && !decide (j = r) := by
  unfold AR.give
  rw [if_pos h]
  rfl
theorem give_n (A : AR) (r : Int) : (A.give r).n = A.n := by
  unfold AR.give
  split <;> rfl
theorem give_ids (A : AR) (r : Int) : (A.give r).ids = A.ids := by
  unfold AR.give
  split <;> rfl

/-- All cells that are taken. -/
def sumN (f : Nat → Int) : Nat → Int
  | 0 => 0
  | n + 1 => sumN f n + f n
def AR.total (A : AR) : Int := sumN A.cnt A.n
theorem sumN_upd (f : Nat → Int) (p : Nat) (v : Int) : ∀ n, sumN (updN f p v) n = sumN f n + (if p < n then v - f p else 0)
  | 0 => by simp [sumN]
  | n + 1 => by
    simp only [sumN]
    rw [sumN_upd f p v n]
    by_cases h : p < n
    · rw [if_pos h, if_pos (by omega)]
      have : ¬ n = p := by omega
      simp [updN, this]
      omega
    · rw [if_neg h]
      by_cases e : p = n
      · subst e; simp [updN]; omega
      · have : ¬ n = p := by omega
        rw [if_neg (by omega)]
        simp [updN, this]
theorem sumN_const {f : Nat → Int} {v : Int} : ∀ n, (∀ p, p < n → f p = v) → sumN f n = (n : Int) * v
  | 0, _ => by simp [sumN]
  | n + 1, h => by
    simp only [sumN]
    rw [sumN_const n (fun p hp => h p (by omega)), h n (by omega)]
    rw [Int.natCast_add, Int.add_mul]
    simp
theorem sumN_le {f : Nat → Int} {v : Int} : ∀ n, (∀ p, p < n → f p ≤ v) → sumN f n ≤ (n : Int) * v
  | 0, _ => by simp [sumN]
  | n + 1, h => by
    simp only [sumN]
    have h1 := sumN_le n (fun p hp => h p (by omega))
    have h2 := h n (by omega)
    rw [Int.natCast_add, Int.add_mul]
    simp
    omega
theorem TakeIs.total {c : Int} {r p k : Nat} {A' : AR} (h : TakeIs A c r A' p k) : A'.total = A.total + 1 := by
  unfold AR.total
  rw [h.n, h.cnt, sumN_upd, if_pos h.page]
  omega
theorem AR.Wf.total_le (h : A.Wf) : A.total ≤ (A.n : Int) * 16 := sumN_le _ (fun p hp => (h.cnt_le hp).2)
/-- No cell is taken: no page has a class. -/
theorem AR.Wf.empty (h : A.Wf) (ht : ∀ r, A.tk r = false) : (∀ p, p < A.n → A.cls p = -1) ∧ A.total = 0 ∧ A.free = (A.n : Int) := by
  have h0 : ∀ p, p < A.n → A.cnt p = 0 := by
    intro p hp
    rw [h.cnt p hp, countP_none (by intro x _; exact ht _)]
    rfl
  have h1 : ∀ p, p < A.n → A.cls p = -1 := by
    intro p hp
    rcases h.cls p hp with e | e
    · exact e
    · have := h.some_ p hp e.1
      have := h0 p hp
      omega
  refine ⟨h1, ?_, ?_⟩
  · unfold AR.total
    rw [sumN_const (v := 0) _ h0]
    simp
  · rw [h.free, countP_all (by intro x hx; simp at hx; rw [h1 x hx]; rfl)]
    simp
/-- All is taken that one class has. -/
theorem AR.Wf.full_total (h : A.Wf) {c : Int} (hc : 0 < cN c) (ho : ∀ p, p < A.n → A.cls p = -1 ∨ A.cls p = c) (ht : A.take c = none) : A.total = (A.n : Int) * (cN c : Int) := by
  rcases h.take_none ht with e | ⟨h1, h2⟩
  · omega
  · refine sumN_const _ (fun p hp => ?_)
    have hcp : A.cls p = c := by
      rcases ho p hp with e | e
      · have := h1 p hp; omega
      · exact e
    rw [h.cnt p hp, hcp, countP_all (by intro x hx; simp at hx; exact h2 p x hp hcp hx)]
    simp
end Go.Proofs.YtbcabjpafeocgaaGreat
