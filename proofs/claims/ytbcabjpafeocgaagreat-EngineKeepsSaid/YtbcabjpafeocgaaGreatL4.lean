/-
  Parts of the proof, joined: ArAgain, ArCells, Steele3, ArenaWord, ArObj, Cell, SizeClass, Points, Obj, CellNew, ObjC, Heap, MapG, Hole, Row2, Adj, GraphP, Mark4, MarkIter, Result. Conditions: as each part says.
-/
import Derived.Test.YtbcabjpafeocgaaGreatL3
import Derived.Test.YtbcabjpafeocgaaGreatL2
import Derived.Test.YtbcabjpafeocgaaGreatL1
import Derived.Maps.OwnSet
import Derived.Maps.OwnOps
import Derived.Maps.OwnIn
import Derived.WalkSmall
import Derived.Outline
import Derived.Test.YtbcabjpafeocgaaGreatRows

/-
  What ArenaAgain leans on: a cell that was given back is free again (plain). Conditions: the arena is as it always is.
-/
namespace Go.Proofs.YtbcabjpafeocgaaGreat
set_option linter.unusedVariables false
set_option linter.unusedSimpArgs false

variable {A : AR}

/-- Where a taken cell lies. -/
theorem AR.Wf.at_ (h : A.Wf) {r : Nat} (hr : A.tk r = true) : ∃ p k, p < A.n ∧ 0 ≤ A.cls p ∧ A.cls p ≤ 2 ∧ k < cN (A.cls p) ∧ r = refN p (A.cls p) k ∧ A.page (r : Int) = (p : Int) ∧ A.clsZ (p : Int) = A.cls p ∧ (r - 1) / 32 = p := by
  obtain ⟨p, k, hp, h0, hk, e⟩ := h.cell r hr
  have hb := ref_in (p := p) hk
  rw [← e] at hb
  have hlt := (h.lt hr).2.2
  refine ⟨p, k, hp, h0, ?_, hk, e, ?_, ?_, hb.2.2.2.1⟩
  · rcases h.cls p hp with e1 | e1 <;> omega
  · unfold AR.page
    rw [if_pos ⟨by omega, hlt⟩]
    omega
  · unfold AR.clsZ
    rw [if_pos (by omega)]
    simp
theorem AR.Wf.cells_length (h : A.Wf) {p : Nat} (hp : p < A.n) : ((A.cellsOf (p : Int)).length : Int) = A.cnt p := by
  have e : A.clsZ (p : Int) = A.cls p := by unfold AR.clsZ; rw [if_pos (by omega)]; simp
  rw [h.cnt p hp]
  unfold AR.cellsOf AR.cellsUpto
  rw [e]
  rw [← List.countP_eq_length_filter, List.countP_map]
  rfl
theorem refN_mono {c : Int} {p q k j : Nat} (hk : k < cN c) (hj : j < cN c) (h : lexLt (p, k) (q, j) ∨ (p, k) = (q, j)) : refN p c k ≤ refN q c j := by
  have h1 := ref_in (p := p) hk
  have h2 := ref_in (p := q) hj
  rcases h with (h | ⟨h, h'⟩) | h
  · simp at h; omega
  · simp at h h'
    subst h
    unfold refN
    have := Nat.mul_le_mul_right (wN c) (Nat.le_of_lt h')
    omega
  · simp at h
    rw [h.1, h.2]
    exact Nat.le_refl _
theorem AR.Wf.give_is (h : A.Wf) {r p : Nat} (hr : A.tk r = true) (hp : p < A.n) (hpp : (r - 1) / 32 = p) : (A.give (r : Int)).cls = (if A.cnt p = 1 then updN A.cls p (-1) else A.cls) := by
  have hh : A.has (r : Int) = true := by rw [h.has]; exact hr
  unfold AR.give
  rw [if_pos hh]
  unfold AR.drop
  simp only [Int.toNat_natCast, hpp]
theorem AR.Wf.again (h : A.Wf) {r : Nat} (hr : A.tk r = true) (hne : A.cnt ((r - 1) / 32) ≠ 1) :
    ∃ x B, (A.give (r : Int)).take (A.clsZ (A.page (r : Int))) = some (x, B) ∧ x ≤ r ∧ B.Wf ∧ x < 3000 ∧ B.clsZ (B.page (x : Int)) = A.clsZ (A.page (r : Int)) := by
  obtain ⟨p, k, hp, h0, h2, hk, e, hpg, hcz, hdiv⟩ := h.at_ hr
  rw [hpg, hcz]
  have hcls : (A.give (r : Int)).cls = A.cls := by
    rw [h.give_is hr hp hdiv, if_neg (by rw [← hdiv]; exact hne)]
  have hwf := h.give_wf (r : Int)
  have htk := give_tk A r (by rw [h.has]; exact hr)
  have hfree : (A.give (r : Int)).tk (refN p (A.cls p) k) = false := by rw [htk, ← e]; simp
  cases ht : (A.give (r : Int)).take (A.cls p) with
  | none =>
    rcases hwf.take_none ht with h3 | ⟨_, h3⟩
    · omega
    · have := h3 p k (by rw [give_n]; exact hp) (by rw [hcls]) hk
      rw [hfree] at this
      cases this
  | some y =>
    obtain ⟨x, B⟩ := y
    obtain ⟨q, j, hti⟩ := hwf.take_spec ht
    have hl := hti.least p k (by rw [give_n]; exact hp) (by rw [hcls]) hk hfree
    have hle : x ≤ r := by rw [hti.ref, e]; exact refN_mono hti.cell hk hl
    refine ⟨x, B, rfl, hle, hti.wf, ?_, ?_⟩
    · have := (h.lt hr).2.1
      have := h.few
      omega
    · have hx : B.tk x = true := by rw [hti.tk]; simp
      obtain ⟨p', k', _, _, _, hk', e', hpg', hcz', hdiv'⟩ := hti.wf.at_ hx
      rw [hpg', hcz']
      have hq := (ref_in (p := q) hti.cell).2.2.2.1
      rw [← hti.ref] at hq
      obtain rfl : p' = q := by omega
      rw [hti.cls]
      simp [updN]
end Go.Proofs.YtbcabjpafeocgaaGreat

/-
  All taken cells are those of all pages, rising (plain). Conditions: the arena is as it always is.
-/
namespace Go.Proofs.YtbcabjpafeocgaaGreat
set_option linter.unusedVariables false
set_option linter.unusedSimpArgs false

theorem sorted_ext : ∀ {l1 l2 : List Nat}, l1.Pairwise (· < ·) → l2.Pairwise (· < ·) → (∀ x, x ∈ l1 ↔ x ∈ l2) → l1 = l2
  | [], [], _, _, _ => rfl
  | [], b :: l2, _, _, h => by have := (h b).2 (by simp); simp at this
  | a :: l1, [], _, _, h => by have := (h a).1 (by simp); simp at this
  | a :: l1, b :: l2, h1, h2, h => by
    rw [List.pairwise_cons] at h1 h2
    have hab : a = b := by
      have ha := (h a).1 (by simp)
      have hb := (h b).2 (by simp)
      simp at ha hb
      rcases ha with ha | ha
      · exact ha
      · rcases hb with hb | hb
        · exact hb.symm
        · have := h1.1 b hb
          have := h2.1 a ha
          omega
    subst hab
    congr 1
    refine sorted_ext h1.2 h2.2 (fun x => ?_)
    have hx := h x
    simp at hx
    constructor
    · intro hm
      rcases hx.1 (.inr hm) with rfl | h3
      · have := h1.1 x hm; omega
      · exact h3
    · intro hm
      rcases hx.2 (.inr hm) with rfl | h3
      · have := h2.1 x hm; omega
      · exact h3
theorem elems_sorted (n : Nat) (S : Nat → Bool) : (elems n S).Pairwise (· < ·) := List.Pairwise.filter _ List.pairwise_lt_range

variable {A : AR}

theorem mem_cellsOf (h : A.Wf) {p : Nat} (hp : p < A.n) {x : Nat} : x ∈ A.cellsOf (p : Int) ↔ A.tk x = true ∧ (x - 1) / 32 = p := by
  have e : A.clsZ (p : Int) = A.cls p := by unfold AR.clsZ; rw [if_pos (by omega)]; simp
  unfold AR.cellsOf AR.cellsUpto
  rw [e]
  simp only [List.mem_filter, List.mem_map, List.mem_range, Int.toNat_natCast]
  constructor
  · rintro ⟨⟨k, hk, rfl⟩, ht⟩
    exact ⟨ht, (ref_in hk).2.2.2.1⟩
  · rintro ⟨ht, hx⟩
    obtain ⟨q, k, hq, h0, _, hk, he, _, _, hdiv⟩ := h.at_ ht
    have : q = p := by omega
    subst this
    exact ⟨⟨k, hk, he.symm⟩, ht⟩
theorem cellsOf_sorted (A : AR) (p : Int) : (A.cellsOf p).Pairwise (· < ·) := by
  unfold AR.cellsOf AR.cellsUpto
  refine List.Pairwise.filter _ ?_
  rw [List.pairwise_map]
  refine List.pairwise_lt_range.imp_of_mem ?_
  intro a b ha hb hab
  simp at ha hb
  have hw := (ref_in (p := p.toNat) hb).2.2.1
  unfold refN
  have := Nat.mul_lt_mul_of_pos_right hab hw
  omega
theorem elems_cells (h : A.Wf) : elems (A.n * 32 + 1) A.tk = (List.range A.n).flatMap fun p : Nat => A.cellsOf (p : Int) := by
  refine sorted_ext (elems_sorted _ _) ?_ ?_
  · rw [List.pairwise_flatMap]
    refine ⟨fun p _ => cellsOf_sorted A p, ?_⟩
    refine List.pairwise_lt_range.imp_of_mem ?_
    intro p q hp hq hpq x hx y hy
    simp at hp hq
    have h1 := (mem_cellsOf h hp).1 hx
    have h2 := (mem_cellsOf h hq).1 hy
    have := h.lt h1.1
    have := h.lt h2.1
    omega
  · intro x
    rw [mem_elems, List.mem_flatMap]
    constructor
    · rintro ⟨_, ht⟩
      obtain ⟨q, k, hq, h0, _, hk, he, _, _, hdiv⟩ := h.at_ ht
      exact ⟨q, by simpa using hq, (mem_cellsOf h hq).2 ⟨ht, hdiv⟩⟩
    · rintro ⟨p, hp, hx⟩
      simp at hp
      have := (mem_cellsOf h hp).1 hx
      exact ⟨(h.lt this.1).2.1, this.1⟩
theorem flat_length (A : AR) (h : A.Wf) : ∀ m, m ≤ A.n → ((((List.range m).flatMap fun p : Nat => A.cellsOf (p : Int)).length : Nat) : Int) = sumN A.cnt m
  | 0, _ => by simp [sumN]
  | m + 1, hm => by
    rw [List.range_succ, List.flatMap_append, List.length_append]
    simp only [List.flatMap_cons, List.flatMap_nil, List.append_nil, sumN]
    have h1 := flat_length A h m (by omega)
    have h2 := h.cells_length (p := m) (by omega)
    omega
theorem elems_length (h : A.Wf) : (((elems (A.n * 32 + 1) A.tk).length : Nat) : Int) = A.total := by
  rw [elems_cells h]
  exact flat_length A h A.n (Nat.le_refl _)
end Go.Proofs.YtbcabjpafeocgaaGreat

/-
  The remark of layer 12. Conditions: as the theorem says.
-/
namespace Go.Proofs.YtbcabjpafeocgaaGreat
set_option linter.unusedVariables false
set_option linter.unusedSimpArgs false
open Go.RowKit Go.Shelf
attribute [local go_sem] Oper.semAt_some wide_fn round_fn wide_depth round_depth
attribute [local simp] wide_fn round_fn wide_depth round_depth

/-- What was black of these pages is grey. -/
def Col.greyP (C : Col) (A : AR) (l : List Nat) : Col := ⟨C.mz, fun x => C.sc x && !(A.tk x && decide ((x - 1) / 32 ∈ l))⟩
def Col.greyL (C : Col) (l : List Nat) : Col := ⟨C.mz, fun x => C.sc x && !decide (x ∈ l)⟩
/-- Behind a remark. -/
def Col.greyD (C : Col) (A : AR) (D : Nat → Bool) : Col := ⟨C.mz, fun x => C.sc x && !(A.tk x && D ((x - 1) / 32))⟩
section
variable {w0 w : World} {L R0 : List Res} {b m a n c s : Nat} {D : Nat → Bool} {A : AR} {C : Col}
theorem greyP_nil : C.greyP A [] = C := Col.ext (fun x => rfl) (fun x => by simp [Col.greyP])
theorem greyL_nil : C.greyL [] = C := Col.ext (fun x => rfl) (fun x => by simp [Col.greyL])
theorem greyL_push {l : List Nat} {x : Nat} : C.greyL (l ++ [x]) = ⟨(C.greyL l).mz, fun y => (C.greyL l).sc y && !decide (y = x)⟩ := by
  refine Col.ext (fun y => rfl) (fun y => ?_)
  by_cases h1 : y ∈ l <;> by_cases h2 : y = x <;> simp [Col.greyL, h1, h2]
theorem greyP_push (hw : A.Wf) {l : List Nat} {p : Nat} (hp : p < A.n) : C.greyP A (l ++ [p]) = (C.greyP A l).greyL (A.cellsOf (p : Int)) := by
  refine Col.ext (fun y => rfl) (fun y => ?_)
  unfold Col.greyL Col.greyP
  simp only [mem_cellsOf hw hp, List.mem_append, List.mem_singleton]
  cases e1 : A.tk y <;> by_cases h1 : (y - 1) / 32 ∈ l <;> by_cases h2 : (y - 1) / 32 = p <;> simp [h1, h2]
theorem greyP_all (hw : A.Wf) : C.greyP A (elems A.n D) = C.greyD A D := by
  refine Col.ext (fun y => rfl) (fun y => ?_)
  unfold Col.greyD Col.greyP
  cases e1 : A.tk y with
  | false => simp [e1]
  | true =>
    have hlt := (hw.lt e1)
    have h1 : (y - 1) / 32 < A.n := by omega
    simp [mem_elems, h1, e1]
set_option maxRecDepth 100000 in
set_option maxHeartbeats 8000000 in
theorem PRemark12 (hwf : A.Wf) (hn : A.size = (n : Int)) (hn2 : A.n ≤ 1000) (hD : ∀ i, D i = true → i < A.n) (S : Sep w0 w (blkR b 97 #[.pointer (some ⟨m, 0, none⟩), .pointer (some ⟨c, 0, none⟩)] :: blkR c 114 #[.pointer (some ⟨s, 0, none⟩), .pointer (some ⟨a, 0, none⟩)] :: setR s (A.n : Int) (D) :: markR m a n (C) :: arenaR a A :: R0)) :
    Calls Tryz.prog 15 #[.pointer (some ⟨b, 0, none⟩)] w fun e w' => e = .returned (.tuple #[]) ∧ Sep w0 w' (blkR b 97 #[.pointer (some ⟨m, 0, none⟩), .pointer (some ⟨c, 0, none⟩)] :: blkR c 114 #[.pointer (some ⟨s, 0, none⟩), .pointer (some ⟨a, 0, none⟩)] :: setR s (A.n : Int) (fun _ => false) :: markR m a n (C.greyD A D) :: arenaR a A :: R0) := by
  have HN := Lib.hid hn
  have HD := Lib.hid hD
  obtain ⟨T, hT⟩ : ∃ T, w.heap.size = T := ⟨_, rfl⟩
  have hb := S.box #[.pointer (some ⟨b, 0, none⟩)] 36
  rw [hT] at hb
  have x0 := (hb.blk 0 rfl).cell 0
  have x1 := (hb.blk 1 rfl).cell 1
  simp only [List.getElem?_toArray, List.getElem?_cons_zero, List.getElem?_cons_succ] at x0 x1
  have hct := CTake hb c
  simp only [World.size_alloc, hT] at hct
  have HCT := Lib.hid hct
  clear S hb hn hD hct
  refine calls_wide ?_
  refine callsIn_of_wp_marks Tryz.func15 rfl trivial ?_
  simp only [Tryz.ntmps15, List.size_toArray, List.length_cons, List.length_nil, Nat.reduceAdd, Nat.reduceSub, Array.replicate_succ, Array.replicate_zero, List.push_toArray, List.append_toArray, List.nil_append, List.cons_append]
  gi_wp2_with (gi_at_call 53; refine (calls_in (HCT.out)).mono ?_; rintro e w1 ⟨rfl, hs⟩; have HS1 := Lib.hid hs; clear hs HCT x0 x1)
  try simp only [hT]
  clear hT
  have HS2 := Lib.hid (show Sep w0 w1 ([blkR (T + 1) 93 #[.pointer (some ⟨c, 0, none⟩)], blkR c 114 #[.pointer (some ⟨s, 0, none⟩), .pointer (some ⟨a, 0, none⟩)], setR s (A.n : Int) (without D [])] ++ (blkR T 36 #[.pointer (some ⟨b, 0, none⟩)] :: blkR b 97 #[.pointer (some ⟨m, 0, none⟩), .pointer (some ⟨c, 0, none⟩)] :: markR m a n (C.greyP A []) :: arenaR a A :: R0)) from by
    rw [without_nil, greyP_nil]
    exact HS1.out.front 5 [0, 3, 4])
  clear HS1
  refine wp_range (gf := 76) (lb := #[.pointer (some ⟨T + 1, 0, none⟩)]) rfl (enters_of Tryz.func76 (by kernel_rfl) rfl) (take_iter (T + 1) c s a A.n D hn2) (fun _ => rfl) HS2.out
    (fun pre Rs => Rs = blkR T 36 #[.pointer (some ⟨b, 0, none⟩)] :: blkR b 97 #[.pointer (some ⟨m, 0, none⟩), .pointer (some ⟨c, 0, none⟩)] :: markR m a n (C.greyP A pre) :: arenaR a A :: R0) (fun _ _ _ => False) rfl ?round ?done ?stop
  case stop => rintro _ _ _ _ _ _ h; exact h.elim
  case round =>
    rintro l1 D1 pre p _ G W1 r hpre rfl hS1
    simp only [List.cons_append, List.nil_append] at hS1
    have hp : p < A.n := (mem_elems.1 (hpre.subset (by simp : p ∈ pre ++ [p]))).1
    have HP := Lib.hid hp
    have HS1 := Lib.hid hS1
    clear hpre hS1 HS2 hp
    gi_wp2
    refine ⟨[], HS1.out, ?_⟩
    intro r' W2 hS2
    simp only [List.cons_append, List.nil_append] at hS2
    have x0 := (hS2.blk 5 rfl).cell 0
    have x1 := (hS2.blk 6 rfl).cell 0
    simp only [List.getElem?_toArray, List.getElem?_cons_zero, List.getElem?_cons_succ] at x0 x1
    have HKA := Lib.hid (KArena hS2 7 rfl)
    have hce := TACells hS2 a (p : Int)
    obtain ⟨q, hq⟩ : ∃ q, W2.heap.size = q := ⟨_, rfl⟩
    rw [hq] at hce
    have HCE := Lib.hid hce
    clear hS2 HS1 hce hq
    gi_wp2_with (first
      | (gi_at_call 52; refine (calls_round (HKA.out)).mono ?_; rintro e w2 ⟨rfl, rfl⟩; clear HKA)
      | (gi_at_call 54; refine (calls_round (HCE.out)).mono ?_; rintro e w3 ⟨rfl, hs⟩; have HS3 := Lib.hid hs; clear hs HCE x0 x1))
    have HS4 := Lib.hid (show Sep w0 w3 ([blkR q 24 #[.pointer (some ⟨a, 0, none⟩)], blkR (q + 1) 3 #[.int .i64 (p : Int)], arenaR a A] ++ (blkR (T + 1) 93 #[.pointer (some ⟨c, 0, none⟩)] :: blkR c 114 #[.pointer (some ⟨s, 0, none⟩), .pointer (some ⟨a, 0, none⟩)] :: setR s (A.n : Int) (without D (pre ++ [p])) :: objR l1 (.loop r') :: objR D1 (.deferred (some [])) :: blkR T 36 #[.pointer (some ⟨b, 0, none⟩)] :: blkR b 97 #[.pointer (some ⟨m, 0, none⟩), .pointer (some ⟨c, 0, none⟩)] :: markR m a n ((C.greyP A pre).greyL []) :: (R0 ++ G))) from by
      rw [greyL_nil]
      exact HS3.out.front 11 [1, 0, 10])
    clear HS3
    refine wp_range_in (l₀ := l1) (r₀ := r') (HS4.out.obj (i := 6) rfl) (gf := 78) (lb := #[.pointer (some ⟨q, 0, none⟩), .pointer (some ⟨q + 1, 0, none⟩)]) rfl (enters_of Tryz.func78 (by kernel_rfl) rfl) (cells_iter q (q + 1) a (p : Int) A hwf) (fun _ => rfl) HS4.out
      (fun pre2 Rs => Rs = blkR (T + 1) 93 #[.pointer (some ⟨c, 0, none⟩)] :: blkR c 114 #[.pointer (some ⟨s, 0, none⟩), .pointer (some ⟨a, 0, none⟩)] :: setR s (A.n : Int) (without D (pre ++ [p])) :: objR l1 (.loop r') :: objR D1 (.deferred (some [])) :: blkR T 36 #[.pointer (some ⟨b, 0, none⟩)] :: blkR b 97 #[.pointer (some ⟨m, 0, none⟩), .pointer (some ⟨c, 0, none⟩)] :: markR m a n ((C.greyP A pre).greyL pre2) :: (R0 ++ G)) (fun _ _ _ => False) rfl ?round2 ?done2 ?stop2
    case stop2 => rintro _ _ _ _ _ h; exact h.elim
    case round2 =>
      rintro l2 pre2 x _ G2 W3 r2 hpre2 rfl hS5
      simp only [List.cons_append, List.nil_append] at hS5
      have hx := (mem_cellsOf hwf HP.out).1 (hpre2.subset (by simp : x ∈ pre2 ++ [x]))
      have hlt := hwf.lt hx.1
      have hsz := HN.out
      unfold AR.size at hsz
      have HX := Lib.hid (show 0 < x ∧ x < n by omega)
      have HS5 := Lib.hid hS5
      clear hpre2 hS5 HS4 hx hlt hsz
      gi_wp2
      refine ⟨[], HS5.out, ?_⟩
      intro r2' W4 hS6
      simp only [List.cons_append, List.nil_append] at hS6
      have x0 := (hS6.blk 9 rfl).cell 0
      have x1 := (hS6.blk 10 rfl).cell 0
      simp only [List.getElem?_toArray, List.getElem?_cons_zero, List.getElem?_cons_succ] at x0 x1
      have HRG := Lib.hid (KRegrey hS6 11 rfl x HX.out.1 HX.out.2)
      clear hS6 HS5
      gi_wp2_with (gi_at_call 55; refine (calls_round (HRG.out)).mono ?_; rintro e w4 ⟨rfl, hs⟩; have HS7 := Lib.hid hs; clear hs HRG x0 x1)
      refine ⟨_, rfl, ?_⟩
      rw [greyL_push]
      exact HS7.out
    case done2 =>
      rintro _ W5 rfl hS8
      have HS8 := Lib.hid hS8
      clear hS8 HS4
      gi_wp2
      refine ⟨_, rfl, ?_⟩
      rw [greyP_push hwf HP.out]
      exact (HS8.out.front 11 [0, 1, 3, 4, 5, 6, 7, 8, 9, 10, 2]).tail.tail
  case done =>
    rintro D1 _ W1 rfl hS1
    have HS1 := Lib.hid hS1
    clear hS1 HS2
    gi_wp2
    refine leaves_mark HS1.out (i := 3) rfl (fun _ => results_none rfl _ _ _) ?_
    intro w' hS2
    refine ⟨rfl, ?_⟩
    rw [← greyP_all hwf, ← without_all HD.out]
    exact (hS2.front 8 [0, 3, 4, 5, 1, 2, 6, 7]).tail.tail.tail
theorem BRemark (hwf : A.Wf) (hn : A.size = (n : Int)) (hn2 : A.n ≤ 1000) (hD : ∀ i, D i = true → i < A.n) (S : Sep w0 w (steeleR b m a A.n D :: markR m a n (C) :: arenaR a A :: R0)) :
    Calls Tryz.prog 15 #[.pointer (some ⟨b, 0, none⟩)] w fun e w' => e = .returned (.tuple #[]) ∧ Sep w0 w' (steeleR b m a A.n (fun _ => false) :: markR m a n (C.greyD A D) :: arenaR a A :: R0) := by
  obtain ⟨⟨c, s⟩, hs⟩ := steele_open S 0 rfl
  refine (PRemark12 hwf hn hn2 hD (show Sep w0 w (blkR b 97 #[.pointer (some ⟨m, 0, none⟩), .pointer (some ⟨c, 0, none⟩)] :: blkR c 114 #[.pointer (some ⟨s, 0, none⟩), .pointer (some ⟨a, 0, none⟩)] :: setR s (A.n : Int) (D) :: markR m a n (C) :: arenaR a A :: R0) from hs)).mono ?_
  rintro e w' ⟨rfl, h2⟩
  exact ⟨rfl, steele_shutHead (o := (c, s)) h2⟩
theorem dirtied_lt {p : Int} (h : ∀ i, D i = true → i < A.n) (hp : p < (A.n : Int)) : ∀ i, dirtied D p i = true → i < A.n := by
  intro i hi
  unfold dirtied at hi
  simp only [Bool.or_eq_true, decide_eq_true_eq] at hi
  rcases hi with hi | hi
  · exact h i hi
  · omega
end
end Go.Proofs.YtbcabjpafeocgaaGreat

/-
  The arena's words (layer 3). Conditions: the arena is as it always is.
-/
namespace Go.Proofs.YtbcabjpafeocgaaGreat
set_option linter.unusedVariables false
set_option linter.unusedSimpArgs false
open Go.RowKit Go.Shelf

/-- Has the cell r a word i? -/
def AR.okW (A : AR) (r i : Int) : Bool := A.has r && (decide (0 ≤ i) && decide (i < wordsZ (A.clsZ (A.page r))))
def AR.wordZ (A : AR) (r i : Int) : Int := if A.okW r i then A.wd (r - 1 + i).toNat else 0
def AR.setW (A : AR) (r i x : Int) : AR := if A.okW r i then { A with wd := updN A.wd (r - 1 + i).toNat x } else A

theorem AR.Wf.setW_wf {A : AR} (h : A.Wf) (r i x : Int) : (A.setW r i x).Wf := by
  unfold AR.setW
  split
  · exact ⟨h.few, h.cls, h.cell, h.cnt, h.some_, h.free⟩
  · exact h

section
variable {w0 w : World} {L : List Res} {i a : Nat} {A : AR}

theorem arena_words (S : Sep w0 w L) (i : Nat) (hi : L[i]? = some (arenaR a A)) : w.cell? ⟨a, 1, none⟩ = some (.slice (some ⟨A.ids.2.1, 0, none⟩) (A.n * 32) (A.n * 32)) := by
  have := ((arena_open S i hi).2.blk 0 rfl).cell 1
  simpa [arenaCells, rowAt] using this
theorem arena_word (S : Sep w0 w L) (i : Nat) (hi : L[i]? = some (arenaR a A)) (k : Nat) (hk : k < A.n * 32) : w.cell? ⟨A.ids.2.1, k, none⟩ = some (.int .i64 (A.wd k)) ∧ w.frozen? ⟨A.ids.2.1, k, none⟩ = false := by
  have := (arena_open S i hi).2.blk 2 rfl
  exact ⟨by rw [this.cell, intCells_get _ _ _ hk], this.frozen k⟩
theorem arena_set (S : Sep w0 w L) (i : Nat) (hi : L[i]? = some (arenaR a A)) (k : Nat) (x : Int) : Sep w0 (w.setCell ⟨A.ids.2.1, k, none⟩ (.int .i64 x)) (L.set i (arenaR a { A with wd := updN A.wd k x })) := by
  obtain ⟨hn, h⟩ := arena_open S i hi
  have h1 := h.setCell 2 rfl k (.int .i64 x)
  rw [intCells_set] at h1
  exact arena_shut (A := { A with wd := updN A.wd k x }) hn h1 hi

theorem okW_in (hw : A.Wf) {r j : Int} (h : A.okW r j = true) : ∃ k : Nat, r - 1 + j = (k : Int) ∧ k < A.n * 32 ∧ 1 ≤ r ∧ 0 ≤ j ∧ j < 8 ∧ r ≤ 100000 ∧ A.has r = true ∧ j < wordsZ (A.clsZ (A.page r)) := by
  unfold AR.okW at h
  simp at h
  obtain ⟨h1, h2, h3⟩ := h
  have h4 := h1
  unfold AR.has at h4
  simp at h4
  obtain ⟨⟨h5, h6⟩, h7⟩ := h4
  obtain ⟨R, rfl⟩ := Int.eq_ofNat_of_zero_le h5
  simp at h7
  obtain ⟨p, k, hp, h0, hk, rfl⟩ := hw.cell R h7
  have hb := ref_in (p := p) hk
  have hpg : A.page ((refN p (A.cls p) k : Nat) : Int) = (p : Int) := by
    unfold AR.page
    rw [if_pos ⟨by omega, h6⟩]
    omega
  have h3' := h3
  rw [hpg] at h3
  have hcz : A.clsZ (p : Int) = A.cls p := by unfold AR.clsZ; rw [if_pos (by omega)]; simp
  rw [hcz, words_wN] at h3
  have hf := hw.few
  have hw8 := (words_nonneg (A.cls p)).2
  rw [words_wN] at hw8
  exact ⟨(((refN p (A.cls p) k : Nat) : Int) - 1 + j).toNat, by omega, by omega, by omega, h2, by omega, by omega, h1, h3'⟩

set_option maxHeartbeats 2000000 in
theorem word_yes (S : Sep w0 w L) (i : Nat) (hi : L[i]? = some (arenaR a A)) (hw : A.Wf) (r j : Int) (h : A.okW r j = true) : Calls Tryz.prog 91 #[.pointer (some ⟨a, 0, none⟩), .int .i64 r, .int .i64 j] w fun e w' => e = .returned (.pointer (some ⟨A.ids.2.1, (r - 1 + j).toNat, none⟩)) ∧ Sep w0 w' L := by
  obtain ⟨k, hk, hkn, hr1, hj0, hj8, hr2, hhas, hjw⟩ := okW_in hw h
  have hsub : IntKind.i64.wrap (r - 1) = r - 1 := by rw [IntKind.wrap_i64]; omega
  have hadd : IntKind.i64.wrap (r - 1 + j) = (k : Int) := by rw [IntKind.wrap_i64, ← hk]; omega
  have hkt : (r - 1 + j).toNat = k := by omega
  rw [hkt]
  obtain ⟨M, hM⟩ : ∃ M, A.n * 32 = M := ⟨_, rfl⟩
  have hMI : (k : Int) < (M : Int) := by omega
  have hM0 : (0 : Int) ≤ (k : Int) := by omega
  have HS := Lib.hid S
  have HI := Lib.hid hi
  have HHAS := Lib.hid hhas
  have HM := Lib.hid hM
  have hr63 : r ≤ 9223372036854775807 := by omega
  have hnl : ¬ wordsZ (A.clsZ (A.page r)) ≤ j := by omega
  obtain ⟨x, hx⟩ : ∃ x, wordsZ (A.clsZ (A.page r)) = x := ⟨_, rfl⟩
  rw [hx] at hnl hjw
  have HX := Lib.hid hx
  clear S hi h hhas hk hkn hkt hM hx hw
  go_enter Tryz.func91, Tryz.ntmps91
  go_wp2_with (first
    | (go_at_call 82; refine (TAHas HS.out i HI.out r).mono ?_; rw [HHAS.out]; rintro e w1 ⟨rfl, hs⟩; have hcw := arena_words hs i HI.out; rw [HM.out] at hcw; have HS1 := Lib.hid hs; clear hs)
    | (go_at_call 22; refine (TAPage HS1.out i HI.out r hr63).mono ?_; rintro e w' ⟨rfl, rfl⟩)
    | (go_at_call 79; refine (TAClass HS1.out i HI.out _).mono ?_; rintro e w' ⟨rfl, rfl⟩)
    | (go_at_call 94; refine (Words _ _).mono ?_; rw [HX.out]; rintro e w' ⟨rfl, rfl⟩))
  go_ret
  exact ⟨rfl, HS1.out⟩

set_option maxHeartbeats 2000000 in
theorem word_no (S : Sep w0 w L) (i : Nat) (hi : L[i]? = some (arenaR a A)) (_hw : A.Wf) (r j : Int) (hr63 : r ≤ 9223372036854775807) (h : A.okW r j = false) : Calls Tryz.prog 91 #[.pointer (some ⟨a, 0, none⟩), .int .i64 r, .int .i64 j] w fun e w' => e = .returned (.pointer none) ∧ Sep w0 w' L := by
  have HS := Lib.hid S
  have HI := Lib.hid hi
  unfold AR.okW at h
  obtain ⟨b, hb⟩ : ∃ b, A.has r = b := ⟨_, rfl⟩
  rw [hb] at h
  have HHAS := Lib.hid hb
  clear hb S hi
  cases b with
  | false =>
    clear h
    go_enter Tryz.func91, Tryz.ntmps91
    go_wp2_with (go_at_call 82; refine (TAHas HS.out i HI.out r).mono ?_; rw [HHAS.out]; rintro e w1 ⟨rfl, hs⟩; have HS1 := Lib.hid hs; clear hs)
    go_ret
    exact ⟨rfl, HS1.out⟩
  | true =>
    simp at h
    by_cases hj : j < 0
    · clear h
      go_enter Tryz.func91, Tryz.ntmps91
      go_wp2_with (go_at_call 82; refine (TAHas HS.out i HI.out r).mono ?_; rw [HHAS.out]; rintro e w1 ⟨rfl, hs⟩; have HS1 := Lib.hid hs; clear hs)
      go_ret
      exact ⟨rfl, HS1.out⟩
    · have h' := h (by omega)
      clear h
      obtain ⟨x, hx⟩ : ∃ x, wordsZ (A.clsZ (A.page r)) = x := ⟨_, rfl⟩
      rw [hx] at h'
      have HX := Lib.hid hx
      clear hx
      go_enter Tryz.func91, Tryz.ntmps91
      go_wp2_with (first
        | (go_at_call 82; refine (TAHas HS.out i HI.out r).mono ?_; rw [HHAS.out]; rintro e w1 ⟨rfl, hs⟩; have HS1 := Lib.hid hs; clear hs)
        | (go_at_call 22; refine (TAPage HS1.out i HI.out r hr63).mono ?_; rintro e w' ⟨rfl, rfl⟩)
        | (go_at_call 79; refine (TAClass HS1.out i HI.out _).mono ?_; rintro e w' ⟨rfl, rfl⟩)
        | (go_at_call 94; refine (Words _ _).mono ?_; rw [HX.out]; rintro e w' ⟨rfl, rfl⟩))
      go_ret
      exact ⟨rfl, HS1.out⟩

theorem TAWord (S : Sep w0 w L) (i : Nat) (hi : L[i]? = some (arenaR a A)) (hw : A.Wf) (r j : Int) (hr63 : r ≤ 9223372036854775807) : Calls Tryz.prog 62 #[.pointer (some ⟨a, 0, none⟩), .int .i64 r, .int .i64 j] w fun e w' => e = .returned (.int .i64 (A.wordZ r j)) ∧ Sep w0 w' L := by
  have HS := Lib.hid S
  have HI := Lib.hid hi
  have HW := Lib.hid hw
  unfold AR.wordZ
  cases h : A.okW r j with
  | false =>
    have HOK := Lib.hid h
    clear h S hi hw
    simp only [Bool.false_eq_true, if_false]
    go_enter Tryz.func62, Tryz.ntmps62
    go_wp2_with (go_at_call 91; refine (word_no HS.out i HI.out HW.out r j hr63 HOK.out).mono ?_; rintro e w1 ⟨rfl, hs⟩; have HS1 := Lib.hid hs; clear hs)
    go_ret
    exact ⟨rfl, HS1.out⟩
  | true =>
    obtain ⟨k, hk, hkn, _⟩ := okW_in hw h
    have HOK := Lib.hid h
    have HKN := Lib.hid hkn
    have HK := Lib.hid (show (r - 1 + j).toNat = k by omega)
    clear h S hi hw hk hkn
    simp only [if_true]
    rw [HK.out]
    go_enter Tryz.func62, Tryz.ntmps62
    go_wp2_with (go_at_call 91; refine (word_yes HS.out i HI.out HW.out r j HOK.out).mono ?_; rw [HK.out]; rintro e w1 ⟨rfl, hs⟩; have hcw := (arena_word hs i HI.out k HKN.out).1; have HS1 := Lib.hid hs; clear hs)
    go_ret
    exact ⟨rfl, HS1.out⟩

theorem TASet (S : Sep w0 w L) (i : Nat) (hi : L[i]? = some (arenaR a A)) (hw : A.Wf) (r j x : Int) (hr63 : r ≤ 9223372036854775807) : Calls Tryz.prog 70 #[.pointer (some ⟨a, 0, none⟩), .int .i64 r, .int .i64 j, .int .i64 x] w fun e w' => e = .returned (.bool (A.okW r j)) ∧ Sep w0 w' (L.set i (arenaR a (A.setW r j x))) := by
  have HS := Lib.hid S
  have HI := Lib.hid hi
  have HW := Lib.hid hw
  unfold AR.setW
  cases h : A.okW r j with
  | false =>
    have HOK := Lib.hid h
    clear h S hi hw
    simp only [Bool.false_eq_true, if_false]
    rw [set_self HI.out]
    go_enter Tryz.func70, Tryz.ntmps70
    go_wp2_with (go_at_call 91; refine (word_no HS.out i HI.out HW.out r j hr63 HOK.out).mono ?_; rintro e w1 ⟨rfl, hs⟩; have HS1 := Lib.hid hs; clear hs)
    go_ret
    exact ⟨rfl, HS1.out⟩
  | true =>
    obtain ⟨k, hk, hkn, _⟩ := okW_in hw h
    have HOK := Lib.hid h
    have HKN := Lib.hid hkn
    have HK := Lib.hid (show (r - 1 + j).toNat = k by omega)
    clear h S hi hw hk hkn
    simp only [if_true]
    rw [HK.out]
    go_enter Tryz.func70, Tryz.ntmps70
    go_wp2_with (go_at_call 91; refine (word_yes HS.out i HI.out HW.out r j HOK.out).mono ?_; rw [HK.out]; rintro e w1 ⟨rfl, hs⟩; have hcw := (arena_word hs i HI.out k HKN.out).1; have hcf := (arena_word hs i HI.out k HKN.out).2; have HS1 := Lib.hid hs; clear hs)
    go_ret
    exact ⟨rfl, arena_set HS1.out i HI.out k x⟩
end
end Go.Proofs.YtbcabjpafeocgaaGreat

/-
  Words of taken cells as plain data (layer 4). Conditions: as each theorem says; no walk.
-/
namespace Go.Proofs.YtbcabjpafeocgaaGreat
set_option linter.unusedVariables false
set_option linter.unusedSimpArgs false
open Go.RowKit

variable {A : AR}

/-- The words of the cell r. -/
def AR.room (A : AR) (r : Nat) : Nat := wN (A.cls ((r - 1) / 32))

theorem AR.Wf.okW_iff (h : A.Wf) {r : Nat} (hr : A.tk r = true) (j : Int) : A.okW (r : Int) j = (decide (0 ≤ j) && decide (j < (A.room r : Int))) := by
  obtain ⟨p, q, hp, hc0, hc2, hq, href, hpg, hcz, hdiv⟩ := h.at_ hr
  unfold AR.okW AR.room
  rw [h.has, hr, hpg, hcz, hdiv, words_wN]
  simp
theorem AR.okW_none (h : A.Wf) {r : Nat} (hr : A.tk r = false) (j : Int) : A.okW (r : Int) j = false := by
  unfold AR.okW
  rw [h.has, hr]
  rfl

theorem AR.Wf.word_apart (h : A.Wf) {r r' : Nat} (hr : A.tk r = true) (hr' : A.tk r' = true) {j j' : Nat} (hj : j < A.room r) (hj' : j' < A.room r') (e : r - 1 + j = r' - 1 + j') : r = r' ∧ j = j' := by
  obtain ⟨p, q, hp, hc0, hc2, hq, href, _, _, hdiv⟩ := h.at_ hr
  obtain ⟨p', q', hp', hc0', hc2', hq', href', _, _, hdiv'⟩ := h.at_ hr'
  unfold AR.room at hj hj'
  rw [hdiv] at hj
  rw [hdiv'] at hj'
  have i1 := ref_in (p := p) hq
  have i2 := ref_in (p := p') hq'
  rw [← href] at i1
  rw [← href'] at i2
  have hpp : p = p' := by omega
  subst hpp
  have e1 : r = p * 32 + q * wN (A.cls p) + 1 := href
  have e2 : r' = p * 32 + q' * wN (A.cls p) + 1 := href'
  have hw : 0 < wN (A.cls p) := i1.2.2.1
  have hqq : q = q' := by
    have h1 : (q * wN (A.cls p) + j) / wN (A.cls p) = q := by
      rw [Nat.mul_comm, Nat.mul_add_div hw, Nat.div_eq_of_lt hj]; rfl
    have h2 : (q' * wN (A.cls p) + j') / wN (A.cls p) = q' := by
      rw [Nat.mul_comm, Nat.mul_add_div hw, Nat.div_eq_of_lt hj']; rfl
    have h3 : q * wN (A.cls p) + j = q' * wN (A.cls p) + j' := by omega
    rw [← h1, h3, h2]
  subst hqq
  omega

theorem setW_tk (A : AR) (r j x : Int) : (A.setW r j x).tk = A.tk ∧ (A.setW r j x).n = A.n ∧ (A.setW r j x).cls = A.cls ∧ (A.setW r j x).ids = A.ids ∧ (A.setW r j x).free = A.free ∧ (A.setW r j x).cnt = A.cnt := by
  unfold AR.setW
  split <;> simp
theorem setW_room (A : AR) (r j x : Int) (r' : Nat) : (A.setW r j x).room r' = A.room r' := by
  unfold AR.room
  rw [(setW_tk A r j x).2.2.1]
theorem setW_okW (A : AR) (r j x r' j' : Int) : (A.setW r j x).okW r' j' = A.okW r' j' := by
  unfold AR.setW
  split <;> rfl

/-- A word behind a store. -/
theorem AR.Wf.wordZ_setW (h : A.Wf) {r : Nat} (hr : A.tk r = true) {j : Nat} (hj : j < A.room r) (x : Int) {r' : Nat} (hr' : A.tk r' = true) (j' : Nat) :
    (A.setW (r : Int) (j : Int) x).wordZ (r' : Int) (j' : Int) = if r' = r ∧ j' = j then x else A.wordZ (r' : Int) (j' : Int) := by
  have hok : A.okW (r : Int) (j : Int) = true := by rw [h.okW_iff hr]; simp; omega
  have h1 := (h.lt hr).1
  have h1' := (h.lt hr').1
  unfold AR.wordZ
  rw [setW_okW]
  cases hok' : A.okW (r' : Int) (j' : Int) with
  | false =>
    have : ¬ (r' = r ∧ j' = j) := by
      rintro ⟨rfl, rfl⟩
      rw [hok] at hok'
      cases hok'
    simp [this]
  | true =>
    have hj' : j' < A.room r' := by
      rw [h.okW_iff hr'] at hok'
      simp at hok'
      omega
    unfold AR.setW
    rw [if_pos hok]
    simp only [if_true, updN]
    have e1 : ((r : Int) - 1 + (j : Int)).toNat = r - 1 + j := by omega
    have e2 : ((r' : Int) - 1 + (j' : Int)).toNat = r' - 1 + j' := by omega
    rw [e1, e2]
    by_cases he : r' - 1 + j' = r - 1 + j
    · obtain ⟨rfl, rfl⟩ := h.word_apart hr' hr hj' hj he
      simp
    · rw [if_neg he, if_neg (by rintro ⟨rfl, rfl⟩; exact he rfl)]

section
variable {c : Int} {r p k : Nat} {A' : AR}
theorem TakeIs.tk_new (h : TakeIs A c r A' p k) : A'.tk r = true := by rw [h.tk]; simp
theorem TakeIs.tk_old (h : TakeIs A c r A' p k) {r' : Nat} (hr' : A.tk r' = true) : A'.tk r' = true ∧ r' ≠ r := by
  refine ⟨by rw [h.tk]; simp [hr'], ?_⟩
  rintro rfl
  have := h.free
  rw [hr'] at this
  cases this
theorem TakeIs.div (h : TakeIs A c r A' p k) : (r - 1) / 32 = p := by
  have i := ref_in (p := p) h.cell
  rw [← h.ref] at i
  exact i.2.2.2.1
theorem TakeIs.room_new (h : TakeIs A c r A' p k) : A'.room r = wN c := by
  unfold AR.room
  rw [h.div, h.cls]
  simp [updN]
theorem TakeIs.room_old (h : TakeIs A c r A' p k) (hw : A.Wf) {r' : Nat} (hr' : A.tk r' = true) : A'.room r' = A.room r' := by
  obtain ⟨p', q', hp', hc0', hc2', hq', href', _, _, hdiv'⟩ := hw.at_ hr'
  unfold AR.room
  rw [hdiv', h.cls]
  unfold updN
  by_cases e : p' = p
  · subst e
    rw [if_pos rfl]
    rcases h.was with e1 | e1
    · rw [e1]
    · omega
  · rw [if_neg e]
/-- A new cell's words. -/
theorem TakeIs.word_new (h : TakeIs A c r A' p k) (j : Nat) : A'.wordZ (r : Int) (j : Int) = 0 := by
  have hr := h.tk_new
  have h1 := (h.wf.lt hr).1
  unfold AR.wordZ
  cases hok : A'.okW (r : Int) (j : Int) with
  | false => rfl
  | true =>
    rw [h.wf.okW_iff hr, h.room_new] at hok
    simp at hok
    rw [if_pos rfl, h.wd, show ((r : Int) - 1 + (j : Int)).toNat = r - 1 + j by omega]
    unfold zeroed
    rw [if_pos (by omega)]
/-- The other cells' words. -/
theorem TakeIs.word_old (h : TakeIs A c r A' p k) (hw : A.Wf) {r' : Nat} (hr' : A.tk r' = true) (j : Nat) : A'.wordZ (r' : Int) (j : Int) = A.wordZ (r' : Int) (j : Int) := by
  obtain ⟨ht', hne⟩ := h.tk_old hr'
  have h1 := (hw.lt hr').1
  have h2 := (h.wf.lt h.tk_new).1
  have hrm := h.room_old hw hr'
  unfold AR.wordZ
  rw [h.wf.okW_iff ht', hw.okW_iff hr', hrm]
  cases hok : (decide (0 ≤ (j : Int)) && decide ((j : Int) < (A.room r' : Int))) with
  | false => rfl
  | true =>
    simp at hok
    rw [if_pos rfl, if_pos rfl, h.wd, show ((r' : Int) - 1 + (j : Int)).toNat = r' - 1 + j by omega]
    unfold zeroed
    by_cases e : r - 1 ≤ r' - 1 + j ∧ r' - 1 + j < r - 1 + wN c
    · have := h.wf.word_apart ht' h.tk_new (j := j) (j' := r' - 1 + j - (r - 1)) (by rw [hrm]; omega) (by rw [h.room_new]; omega) (by omega)
      exact absurd this.1 hne
    · rw [if_neg e]
end
end Go.Proofs.YtbcabjpafeocgaaGreat

/-
  Objects in an arena (layer 4): one contract for each function. Conditions: the arena is as it always is.
-/
namespace Go.Proofs.YtbcabjpafeocgaaGreat
set_option linter.unusedVariables false
set_option linter.unusedSimpArgs false
open Go.RowKit Go.Shelf

/-- What a look for a field answers. -/
def AR.checkZ (A : AR) (r i : Int) : Int := if r = 0 then 8 else if i < 0 ∨ A.wordZ r 0 ≤ i then 6 else 0

section
variable {w0 w : World} {L : List Res} {i a : Nat} {A : AR}

theorem CFields (S : Sep w0 w L) (i : Nat) (hi : L[i]? = some (arenaR a A)) (hw : A.Wf) (r : Int) (hr63 : r ≤ 9223372036854775807) :
    Calls Tryz.prog 33 #[.pointer (some ⟨a, 0, none⟩), .int .i64 r] w fun e w' => e = .returned (.int .i64 (A.wordZ r 0)) ∧ Sep w0 w' L := by
  have HS := Lib.hid S
  have HI := Lib.hid hi
  have HW := Lib.hid hw
  clear S hi hw
  go_enter Tryz.func33, Tryz.ntmps33
  go_wp2_with (go_at_call 62; refine (TAWord HS.out i HI.out HW.out r 0 hr63).mono ?_; rintro e w' ⟨rfl, hs⟩; have HS1 := Lib.hid hs; clear hs)
  go_ret
  exact ⟨rfl, HS1.out⟩
theorem CCheck (S : Sep w0 w L) (i : Nat) (hi : L[i]? = some (arenaR a A)) (hw : A.Wf) (r j : Int) (hr63 : r ≤ 9223372036854775807) :
    Calls Tryz.prog 71 #[.pointer (some ⟨a, 0, none⟩), .int .i64 r, .int .i64 j] w fun e w' => e = .returned (.int .i64 (A.checkZ r j)) ∧ Sep w0 w' L := by
  have HS := Lib.hid S
  have HI := Lib.hid hi
  have HW := Lib.hid hw
  clear S hi hw
  go_enter Tryz.func71, Tryz.ntmps71
  by_cases h0 : r = 0
  · subst h0
    go_wp2_with fail
    go_ret
    exact ⟨by simp [AR.checkZ], HS.out⟩
  · have h0b : (r == 0) = false := by simpa using h0
    by_cases h1 : j < 0
    · go_wp2_with fail
      go_ret
      exact ⟨by simp [AR.checkZ, h0, h1], HS.out⟩
    · obtain ⟨z, hz⟩ : ∃ z, A.wordZ r 0 = z := ⟨_, rfl⟩
      have HZ := Lib.hid hz
      clear hz
      by_cases h2 : z ≤ j
      · go_wp2_with (go_at_call 33; refine (CFields HS.out i HI.out HW.out r hr63).mono ?_; rw [HZ.out]; rintro e w' ⟨rfl, hs⟩; have HS1 := Lib.hid hs; clear hs)
        go_ret
        exact ⟨by simp [AR.checkZ, h0, h1, HZ.out, h2], HS1.out⟩
      · go_wp2_with (go_at_call 33; refine (CFields HS.out i HI.out HW.out r hr63).mono ?_; rw [HZ.out]; rintro e w' ⟨rfl, hs⟩; have HS1 := Lib.hid hs; clear hs)
        go_ret
        exact ⟨by simp [AR.checkZ, h0, h1, HZ.out, h2], HS1.out⟩
theorem CFieldNo (S : Sep w0 w L) (i : Nat) (hi : L[i]? = some (arenaR a A)) (hw : A.Wf) (r j : Int) (hr63 : r ≤ 9223372036854775807) (h : ¬ A.checkZ r j = 0) :
    Calls Tryz.prog 63 #[.pointer (some ⟨a, 0, none⟩), .int .i64 r, .int .i64 j] w fun e w' => e = .returned (.tuple #[.int .i64 0, .int .i64 (A.checkZ r j)]) ∧ Sep w0 w' L := by
  have HS := Lib.hid S
  have HI := Lib.hid hi
  have HW := Lib.hid hw
  obtain ⟨z, hz⟩ : ∃ z, A.checkZ r j = z := ⟨_, rfl⟩
  rw [hz] at h ⊢
  have HZ := Lib.hid hz
  have h0b : (z == 0) = false := by simpa using h
  clear S hi hw hz
  go_enter Tryz.func63, Tryz.ntmps63
  go_wp2_with (go_at_call 71; refine (CCheck HS.out i HI.out HW.out r j hr63).mono ?_; rw [HZ.out]; rintro e w' ⟨rfl, hs⟩; have HS1 := Lib.hid hs; clear hs)
  go_ret2
  exact ⟨rfl, HS1.out⟩
theorem CFieldYes (S : Sep w0 w L) (i : Nat) (hi : L[i]? = some (arenaR a A)) (hw : A.Wf) (r j : Int) (hr63 : r ≤ 9223372036854775807) (h : A.checkZ r j = 0) (hj0 : 0 ≤ j) (hj : j ≤ 1000000) :
    Calls Tryz.prog 63 #[.pointer (some ⟨a, 0, none⟩), .int .i64 r, .int .i64 j] w fun e w' => e = .returned (.tuple #[.int .i64 (A.wordZ r (2 + j)), .int .i64 0]) ∧ Sep w0 w' L := by
  have HS := Lib.hid S
  have HI := Lib.hid hi
  have HW := Lib.hid hw
  have HZ := Lib.hid h
  clear S hi hw h
  go_enter Tryz.func63, Tryz.ntmps63
  go_wp2_with (first
    | (go_at_call 71; refine (CCheck HS.out i HI.out HW.out r j hr63).mono ?_; rw [HZ.out]; rintro e w' ⟨rfl, hs⟩; have HS1 := Lib.hid hs; clear hs)
    | (go_at_call 62; refine (TAWord HS1.out i HI.out HW.out r (2 + j) hr63).mono ?_; rintro e w' ⟨rfl, hs⟩; have HS2 := Lib.hid hs; clear hs))
  go_ret2
  exact ⟨rfl, HS2.out⟩
theorem CSetFieldNo (S : Sep w0 w L) (i : Nat) (hi : L[i]? = some (arenaR a A)) (hw : A.Wf) (r j x : Int) (hr63 : r ≤ 9223372036854775807) (h : ¬ A.checkZ r j = 0) :
    Calls Tryz.prog 44 #[.pointer (some ⟨a, 0, none⟩), .int .i64 r, .int .i64 j, .int .i64 x] w fun e w' => e = .returned (.int .i64 (A.checkZ r j)) ∧ Sep w0 w' L := by
  have HS := Lib.hid S
  have HI := Lib.hid hi
  have HW := Lib.hid hw
  obtain ⟨z, hz⟩ : ∃ z, A.checkZ r j = z := ⟨_, rfl⟩
  rw [hz] at h ⊢
  have HZ := Lib.hid hz
  have h0b : (z == 0) = false := by simpa using h
  clear S hi hw hz
  go_enter Tryz.func44, Tryz.ntmps44
  go_wp2_with (go_at_call 71; refine (CCheck HS.out i HI.out HW.out r j hr63).mono ?_; rw [HZ.out]; rintro e w' ⟨rfl, hs⟩; have HS1 := Lib.hid hs; clear hs)
  go_ret
  exact ⟨rfl, HS1.out⟩
theorem CSetFieldYes (S : Sep w0 w L) (i : Nat) (hi : L[i]? = some (arenaR a A)) (hw : A.Wf) (r j x : Int) (hr63 : r ≤ 9223372036854775807) (h : A.checkZ r j = 0) (hj0 : 0 ≤ j) (hj : j ≤ 1000000) :
    Calls Tryz.prog 44 #[.pointer (some ⟨a, 0, none⟩), .int .i64 r, .int .i64 j, .int .i64 x] w fun e w' => e = .returned (.int .i64 0) ∧ Sep w0 w' (L.set i (arenaR a (A.setW r (2 + j) x))) := by
  have HS := Lib.hid S
  have HI := Lib.hid hi
  have HW := Lib.hid hw
  have HZ := Lib.hid h
  clear S hi hw h
  go_enter Tryz.func44, Tryz.ntmps44
  go_wp2_with (first
    | (go_at_call 71; refine (CCheck HS.out i HI.out HW.out r j hr63).mono ?_; rw [HZ.out]; rintro e w' ⟨rfl, hs⟩; have HS1 := Lib.hid hs; clear hs)
    | (go_at_call 70; refine (TASet HS1.out i HI.out HW.out r (2 + j) x hr63).mono ?_; rintro e w' ⟨rfl, hs⟩; have HS2 := Lib.hid hs; clear hs))
  go_ret
  exact ⟨rfl, HS2.out⟩
theorem checkZ_nil (A : AR) (j : Int) : A.checkZ 0 j = 8 := by simp [AR.checkZ]
theorem wordZ_nil (h : A.Wf) (j : Int) : A.wordZ 0 j = 0 := by
  have h0 : A.has 0 = false := by
    have e := h.has 0
    cases hb : A.tk 0 with
    | false => rw [hb] at e; exact e
    | true => have := (h.lt hb).1; omega
  unfold AR.wordZ AR.okW
  rw [h0]
  rfl
end
end Go.Proofs.YtbcabjpafeocgaaGreat

/-
  size.Class, for this seat. Conditions: as each theorem says.
-/
namespace Go.Proofs.YtbcabjpafeocgaaGreat
set_option linter.unusedVariables false
set_option linter.unusedSimpArgs false
open Go.RowKit

theorem ClassNo (n : Int) (w : World) (h : n < 0 ∨ 6 < n) : Calls Tryz.prog 68 #[.int .i64 n] w fun e w' => e = .returned (.tuple #[.int .i64 0, .bool false]) ∧ w = w' := by
  by_cases h1 : n < 0
  · go_enter Tryz.func68, Tryz.ntmps68
    go_wp2
    go_ret2
    exact ⟨rfl, rfl⟩
  · have h2 : 6 < n := by omega
    clear h
    go_enter Tryz.func68, Tryz.ntmps68
    go_wp2
    go_ret2
    exact ⟨rfl, rfl⟩

theorem class_room (n : Int) (h0 : 0 ≤ n) (h6 : n ≤ 6) : 2 + n ≤ wordsZ (classZ n) ∧ 0 ≤ classZ n ∧ classZ n ≤ 2 ∧ ∀ c, 0 ≤ c → c < classZ n → wordsZ c < 2 + n := by
  unfold classZ wordsZ
  refine ⟨by omega, by omega, by omega, fun c h1 h2 => by omega⟩

theorem ClassYes (n : Int) (w : World) (h0 : 0 ≤ n) (h6 : n ≤ 6) : Calls Tryz.prog 68 #[.int .i64 n] w fun e w' => e = .returned (.tuple #[.int .i64 (classZ n), .bool true]) ∧ w = w' := by
  obtain ⟨hr, hc0, hc2, hl⟩ := class_room n h0 h6
  generalize hC : classZ n = C at *
  clear hC
  have HL := Lib.hid hl
  clear hl
  go_enter Tryz.func68, Tryz.ntmps68
  go_wp2
  go_loop [4] (fun v => ∃ c : Int, 0 ≤ c ∧ c ≤ C ∧ v = .int .i64 c) (fun v => (C - intOf v).toNat)
  case atStart => exact ⟨0, by omega, by omega, rfl⟩
  case round =>
    obtain ⟨c, hcc, hcC, rfl⟩ := hrel
    by_cases hlt : c < C
    · have h2 := HL.out c hcc hlt
      generalize hW : wordsZ c = W at *
      have H := Lib.hid hW
      clear hW
      go_wp2_with (go_at_call 94; refine (Words _ _).mono ?_; rintro e w' ⟨rfl, rfl⟩; rw [H.out])
      go_round
      case rel => exact ⟨c + 1, by omega, by omega, rfl⟩
      case measure => simp [intOf]; omega
    · obtain rfl : c = C := by omega
      generalize hW : wordsZ c = W at *
      have H := Lib.hid hW
      clear hW
      go_wp2_with (go_at_call 94; refine (Words _ _).mono ?_; rintro e w' ⟨rfl, rfl⟩; rw [H.out])
      go_ret2
      exact ⟨rfl, rfl⟩
end Go.Proofs.YtbcabjpafeocgaaGreat

/-
  The iterator over where an object points (layer 4). Conditions: the arena is as it always is.
-/
namespace Go.Proofs.YtbcabjpafeocgaaGreat
set_option linter.unusedVariables false
set_option linter.unusedSimpArgs false
open Go.RowKit Go.Shelf
attribute [local go_sem] Oper.semAt_some wide_fn round_fn wide_depth round_depth
attribute [local simp] wide_fn round_fn wide_depth round_depth

section
variable {w0 w : World} {L : List Res} {i a : Nat} {A : AR}
theorem CPoints (S : Sep w0 w L) (a : Nat) (r : Int) : Calls Tryz.prog 45 #[.pointer (some ⟨a, 0, none⟩), .int .i64 r] w fun e w' => e = .returned (.func (.func 72) #[] #[.pointer (some ⟨w.heap.size, 0, none⟩), .pointer (some ⟨w.heap.size + 1, 0, none⟩)]) ∧
    Sep w0 w' (blkR (w.heap.size + 1) 34 #[.int .i64 r] :: blkR w.heap.size 24 #[.pointer (some ⟨a, 0, none⟩)] :: L) := by
  have hmf : ∀ (fn : Fn) (first cap : Array Value) (w : World), (Instr.makeFunc fn first cap).run Tryz.prog w = .ok (.func fn first cap) w := fun _ _ _ _ => rfl
  have H := Lib.hid S
  clear S
  go_enter Tryz.func45, Tryz.ntmps45
  go_wp2_with fail
  go_ret
  refine ⟨rfl, ?_⟩
  have := (H.out.alloc (.cells #[.pointer (some ⟨a, 0, none⟩)] 24)).alloc (.cells #[.int .i64 r] 34)
  rw [World.size_alloc] at this
  exact this
end

/-- The first m fields of an object, those that point. -/
def AR.pointsUpto (A : AR) (r : Int) (m : Nat) : List Int := ((List.range m).map fun k : Nat => A.wordZ r (2 + (k : Int))).filter fun x => !(x == 0)
theorem pointsUpto_succ (A : AR) (r : Int) (m : Nat) : A.pointsUpto r (m + 1) = A.pointsUpto r m ++ (if A.wordZ r (2 + (m : Int)) = 0 then [] else [A.wordZ r (2 + (m : Int))]) := by
  unfold AR.pointsUpto
  rw [List.range_succ, List.map_append, List.filter_append]
  by_cases h : A.wordZ r (2 + (m : Int)) = 0 <;> simp [h]
theorem pointsUpto_prefix (A : AR) (r : Int) {k n : Nat} (h : k ≤ n) : A.pointsUpto r k <+: A.pointsUpto r n := by
  induction n with
  | zero => obtain rfl : k = 0 := by omega
            exact List.prefix_refl _
  | succ n ih =>
    by_cases e : k = n + 1
    · subst e; exact List.prefix_refl _
    · exact (ih (by omega)).trans (by rw [pointsUpto_succ]; exact List.prefix_append _ _)

set_option maxHeartbeats 2000000 in
theorem points_iter (B B' a : Nat) (r : Int) (n : Nat) (A : AR) (hw : A.Wf) (hr63 : r ≤ 9223372036854775807) (hn : A.wordZ r 0 = (n : Int)) (hn6 : n ≤ 6) (hr0 : 0 < n → ¬ r = 0) :
    Iter Tryz.prog 72 #[.pointer (some ⟨B, 0, none⟩), .pointer (some ⟨B', 0, none⟩)] (fun x : Int => #[.int .i64 x]) (A.pointsUpto r n) (fun _ => [blkR B 24 #[.pointer (some ⟨a, 0, none⟩)], blkR B' 34 #[.int .i64 r], arenaR a A]) := by
  intro l w0 Φ Φx W R hY h0 hS
  dsimp only [List.cons_append, List.nil_append] at hY hS
  have HY := Lib.hid hY
  have HS := Lib.hid hS
  have H0 := Lib.hid h0
  have HW := Lib.hid hw
  have HN := Lib.hid hn
  have HR0 := Lib.hid hr0
  have hb := (hS.blk 0 rfl).cell 0
  have hc := (hS.blk 1 rfl).cell 0
  simp at hb hc
  clear hY h0 hS hw hn hr0
  refine calls_wide ?_
  gi_enter Tryz.func72, Tryz.ntmps72
  gi_wp2_with (gi_at_call 33; refine (calls_in (CFields HS.out 2 rfl HW.out r hr63)).mono ?_; rw [HN.out]; rintro e w1 ⟨rfl, hs⟩; have HS0 := Lib.hid hs; clear hs)
  clear hb hc
  gi_loopw [10] (fun i wr => ∃ (k : Nat) (R' : List Res), k ≤ n ∧ i = .int .i64 k ∧ Φ (A.pointsUpto r k) R' ∧ Sep w0 wr (blkR B 24 #[.pointer (some ⟨a, 0, none⟩)] :: blkR B' 34 #[.int .i64 r] :: arenaR a A :: R')) (fun i _ => n + 1 - (intOf i).toNat)
  case atStart => exact ⟨0, R, by omega, rfl, H0.out, HS0.out⟩
  case round =>
    obtain ⟨k, R', hk, rfl, hΦ, hS⟩ := hrel
    clear H0 HS HS0
    by_cases hlt : k < n
    · have hb := (hS.blk 0 rfl).cell 0
      have hc := (hS.blk 1 rfl).cell 0
      simp at hb hc
      have HS := Lib.hid hS
      have HP := Lib.hid hΦ
      have HLT := Lib.hid hlt
      have hIn : (k : Int) < (n : Int) := by omega
      have hchk : A.checkZ r (k : Int) = 0 := by
        unfold AR.checkZ
        rw [if_neg (HR0.out (by omega)), HN.out, if_neg (by omega)]
      have HCHK := Lib.hid hchk
      have hup : A.pointsUpto r (k + 1) = _ := pointsUpto_succ A r k
      obtain ⟨q, hq⟩ : ∃ q, A.wordZ r (2 + (k : Int)) = q := ⟨_, rfl⟩
      rw [hq] at hup
      have HQ := Lib.hid hq
      clear hS hΦ hq hchk
      by_cases hq0 : q = 0
      · subst hq0
        rw [if_pos rfl, List.append_nil] at hup
        have HUP := Lib.hid hup
        clear hup
        gi_wp2_with (gi_at_call 63; refine (calls_in (CFieldYes HS.out 2 rfl HW.out r (k : Int) hr63 HCHK.out (by omega) (by omega))).mono ?_; rw [HQ.out]; rintro e w1 ⟨rfl, hs⟩; have HS1 := Lib.hid hs; clear hs)
        go_roundw
        case rel => exact ⟨k + 1, R', HLT.out, by go_num, by rw [HUP.out]; exact HP.out, HS1.out⟩
        case measure => have := HLT.out; simp [intOf]; omega
      · rw [if_neg hq0] at hup
        have HUP := Lib.hid hup
        have hq0b : (q == 0) = false := by simpa using hq0
        have hpre : A.pointsUpto r k ++ [q] <+: A.pointsUpto r n := by
          rw [← hup]
          exact pointsUpto_prefix A r HLT.out
        have HPRE := Lib.hid hpre
        clear hup hpre
        gi_wp2_with (gi_at_call 63; refine (calls_in (CFieldYes HS.out 2 rfl HW.out r (k : Int) hr63 HCHK.out (by omega) (by omega))).mono ?_; rw [HQ.out]; rintro e w1 ⟨rfl, hs⟩; have HS1 := Lib.hid hs; clear hs; obtain ⟨fn, tmps, assign, body, hy, hR⟩ := HY.out (A.pointsUpto r k) q R' [] w1 HPRE.out HP.out (by simpa using HS1.out); have HR := Lib.hid hR; clear hR)
        refine HR.out.mono ?_
        simp only [List.append_nil]
        rintro e w2 (⟨rfl, R2, hΦ2, hS2⟩ | ⟨rfl, R2, hΦ2, hS2⟩)
        · have HS2 := Lib.hid hS2
          have HP2 := Lib.hid hΦ2
          clear hS2 hΦ2
          gi_wp2
          go_roundw
          case rel => exact ⟨k + 1, R2, HLT.out, by go_num, by rw [HUP.out]; exact HP2.out, HS2.out⟩
          case measure => have := HLT.out; simp [intOf]; omega
        · have HS2 := Lib.hid hS2
          have HP2 := Lib.hid hΦ2
          clear hS2 hΦ2
          gi_wp2
          refine bodyPost_ret (results_none rfl _ _ _) rfl ?_
          exact ⟨⟨_, rfl⟩, .inr ⟨_, R2, HPRE.out, HP2.out, HS2.out⟩⟩
    · obtain rfl : k = n := by omega
      have HS := Lib.hid hS
      have HP := Lib.hid hΦ
      clear hS hΦ
      gi_wp2
      go_end0
      exact ⟨⟨_, rfl⟩, .inl ⟨R', HP.out, HS.out⟩⟩
end Go.Proofs.YtbcabjpafeocgaaGreat

/-
  Objects as plain data (layer 4). Conditions: as each theorem says; no walk.
-/
namespace Go.Proofs.YtbcabjpafeocgaaGreat
set_option linter.unusedVariables false
set_option linter.unusedSimpArgs false
open Go.RowKit

variable {A : AR}

/-- In the cell r stands an object of these fields and this number. -/
structure Obj (A : AR) (r : Nat) (fs : List Int) (x : Int) : Prop where
  tk : A.tk r = true
  six : fs.length ≤ 6
  room : 2 + fs.length ≤ A.room r
  count : A.wordZ (r : Int) 0 = (fs.length : Int)
  scalar : A.wordZ (r : Int) 1 = x
  field : ∀ (i : Nat) v, fs[i]? = some v → A.wordZ (r : Int) (2 + (i : Int)) = v

theorem Obj.pos {r : Nat} {fs : List Int} {x : Int} (o : Obj A r fs x) (h : A.Wf) : 1 ≤ r ∧ ¬ (r : Int) = 0 ∧ r < 3000 := by
  have h1 := h.lt o.tk
  have := h.few
  omega
theorem Obj.check {r : Nat} {fs : List Int} {x : Int} (o : Obj A r fs x) (h : A.Wf) (i : Int) : A.checkZ (r : Int) i = if 0 ≤ i ∧ i < (fs.length : Int) then 0 else 6 := by
  unfold AR.checkZ
  rw [if_neg (o.pos h).2.1, o.count]
  by_cases e : 0 ≤ i ∧ i < (fs.length : Int)
  · rw [if_pos e, if_neg (by omega)]
  · rw [if_neg e, if_pos (by omega)]
/-- A store into another cell. -/
theorem Obj.other {r r' : Nat} {fs : List Int} {x : Int} (o : Obj A r' fs x) (h : A.Wf) (hr : A.tk r = true) (hne : r' ≠ r) {j : Nat} (hj : j < A.room r) (v : Int) : Obj (A.setW (r : Int) (j : Int) v) r' fs x := by
  have hw := fun (j' : Nat) => h.wordZ_setW hr hj v o.tk j'
  refine ⟨by rw [(setW_tk A _ _ _).1]; exact o.tk, o.six, by rw [setW_room]; exact o.room, ?_, ?_, ?_⟩
  · have := hw 0
    rw [if_neg (by omega)] at this
    exact this.trans o.count
  · have := hw 1
    rw [if_neg (by omega)] at this
    exact this.trans o.scalar
  · intro i u hu
    have := hw (2 + i)
    rw [if_neg (by omega)] at this
    push_cast at this
    exact this.trans (o.field i u hu)
theorem Obj.setScalar {r : Nat} {fs : List Int} {x : Int} (o : Obj A r fs x) (h : A.Wf) (v : Int) : Obj (A.setW (r : Int) 1 v) r fs v := by
  have hrm := o.room
  have hw := fun (j' : Nat) => h.wordZ_setW o.tk (j := 1) (by omega) v o.tk j'
  refine ⟨by rw [(setW_tk A _ _ _).1]; exact o.tk, o.six, by rw [setW_room]; exact o.room, ?_, ?_, ?_⟩
  · have := hw 0
    rw [if_neg (by omega)] at this
    exact this.trans o.count
  · have := hw 1
    rw [if_pos (by omega)] at this
    exact this
  · intro i u hu
    have := hw (2 + i)
    rw [if_neg (by omega)] at this
    push_cast at this
    exact this.trans (o.field i u hu)
theorem Obj.setField {r : Nat} {fs : List Int} {x : Int} (o : Obj A r fs x) (h : A.Wf) {i : Nat} (hi : i < fs.length) (v : Int) : Obj (A.setW (r : Int) (2 + (i : Int)) v) r (fs.set i v) x := by
  have hrm := o.room
  have hw := fun (j' : Nat) => h.wordZ_setW o.tk (j := 2 + i) (by omega) v o.tk j'
  push_cast at hw
  refine ⟨by rw [(setW_tk A _ _ _).1]; exact o.tk, by simpa using o.six, by rw [setW_room]; simpa using o.room, ?_, ?_, ?_⟩
  · have := hw 0
    rw [if_neg (by omega)] at this
    simpa using this.trans o.count
  · have := hw 1
    rw [if_neg (by omega)] at this
    exact this.trans o.scalar
  · intro k u hu
    have := hw (2 + k)
    push_cast at this
    rw [List.getElem?_set] at hu
    by_cases e : i = k
    · subst e
      rw [if_pos rfl, if_pos hi] at hu
      rw [if_pos (by omega)] at this
      rw [this]
      simpa using hu
    · rw [if_neg e] at hu
      rw [if_neg (by omega)] at this
      exact this.trans (o.field k u hu)
/-- A take leaves the objects. -/
theorem Obj.taken {c : Int} {r p k : Nat} {A' : AR} (ht : TakeIs A c r A' p k) {r' : Nat} {fs : List Int} {x : Int} (o : Obj A r' fs x) (h : A.Wf) : Obj A' r' fs x ∧ r' ≠ r := by
  obtain ⟨h1, h2⟩ := ht.tk_old o.tk
  refine ⟨⟨h1, o.six, by rw [ht.room_old h o.tk]; exact o.room, ?_, ?_, ?_⟩, h2⟩
  · exact (ht.word_old h o.tk 0).trans o.count
  · exact (ht.word_old h o.tk 1).trans o.scalar
  · intro i u hu
    have := ht.word_old h o.tk (2 + i)
    push_cast at this
    exact this.trans (o.field i u hu)
/-- A new object. -/
theorem Obj.new {r p k n : Nat} {A' : AR} (hn : n ≤ 6) (ht : TakeIs A (classZ (n : Int)) r A' p k) : Obj (A'.setW (r : Int) 0 (n : Int)) r (List.replicate n 0) 0 := by
  have hroom := (class_room (n : Int) (by omega) (by omega)).1
  rw [words_wN] at hroom
  have hrm := ht.room_new
  have hw := fun (j' : Nat) => ht.wf.wordZ_setW ht.tk_new (j := 0) (by omega) (n : Int) ht.tk_new j'
  refine ⟨by rw [(setW_tk A' _ _ _).1]; exact ht.tk_new, by simpa using hn, by rw [setW_room, hrm]; simp; omega, ?_, ?_, ?_⟩
  · have := hw 0
    rw [if_pos (by omega)] at this
    simpa using this
  · have := hw 1
    rw [if_neg (by omega)] at this
    exact this.trans (ht.word_new 1)
  · intro i u hu
    have := hw (2 + i)
    rw [if_neg (by omega)] at this
    have h2 := this.trans (ht.word_new (2 + i))
    push_cast at h2
    rw [h2]
    rw [List.getElem?_replicate] at hu
    split at hu
    · simpa using hu
    · cases hu
/-- Where it points. -/
theorem Obj.points {r : Nat} {fs : List Int} {x : Int} (o : Obj A r fs x) : A.pointsUpto (r : Int) fs.length = fs.filter fun v => !(v == 0) := by
  unfold AR.pointsUpto
  congr 1
  apply List.ext_getElem?
  intro i
  rw [List.getElem?_map]
  by_cases e : i < fs.length
  · rw [List.getElem?_range e, List.getElem?_eq_getElem e]
    simp only [Option.map_some, Option.some.injEq]
    exact o.field i _ (List.getElem?_eq_getElem e)
  · rw [List.getElem?_eq_none (by simpa using e), List.getElem?_eq_none (by omega)]
    rfl
end Go.Proofs.YtbcabjpafeocgaaGreat

/-
  A new object in an arena (layer 4). Conditions: the arena is as it always is.
-/
namespace Go.Proofs.YtbcabjpafeocgaaGreat
set_option linter.unusedVariables false
set_option linter.unusedSimpArgs false
open Go.RowKit Go.Shelf

section
variable {w0 w : World} {L : List Res} {i a : Nat} {A : AR}

theorem CNewOut (S : Sep w0 w L) (n : Int) (h : n < 0 ∨ 6 < n) :
    Calls Tryz.prog 43 #[.pointer (some ⟨a, 0, none⟩), .int .i64 n] w fun e w' => e = .returned (.tuple #[.int .i64 0, .int .i64 (if n < 0 then 6 else 7)]) ∧ Sep w0 w' L := by
  have HS := Lib.hid S
  clear S
  by_cases h1 : n < 0
  · go_enter Tryz.func43, Tryz.ntmps43
    go_wp2_with (go_at_call 68; refine (ClassNo n _ (.inl h1)).mono ?_; rintro e w' ⟨rfl, rfl⟩)
    go_ret2
    exact ⟨by simp [h1], HS.out⟩
  · have h2 : 6 < n := by omega
    clear h
    go_enter Tryz.func43, Tryz.ntmps43
    go_wp2_with (go_at_call 68; refine (ClassNo n _ (.inr h2)).mono ?_; rintro e w' ⟨rfl, rfl⟩)
    go_ret2
    exact ⟨by simp [h1], HS.out⟩
theorem CNewNone (S : Sep w0 w L) (i : Nat) (hi : L[i]? = some (arenaR a A)) (hw : A.Wf) (n : Int) (h0 : 0 ≤ n) (h6 : n ≤ 6) (ht : A.take (classZ n) = none) :
    Calls Tryz.prog 43 #[.pointer (some ⟨a, 0, none⟩), .int .i64 n] w fun e w' => e = .returned (.tuple #[.int .i64 0, .int .i64 10]) ∧ Sep w0 w' L := by
  have HS := Lib.hid S
  have HI := Lib.hid hi
  have HW := Lib.hid hw
  have HT := Lib.hid ht
  clear S hi hw ht
  go_enter Tryz.func43, Tryz.ntmps43
  go_wp2_with (first
    | (go_at_call 68; refine (ClassYes n _ h0 h6).mono ?_; rintro e w' ⟨rfl, rfl⟩)
    | (go_at_call 69; refine (TATake HS.out i HI.out HW.out (classZ n)).mono ?_; rw [takeA_none HT.out, HT.out, takeV_none, set_self HI.out]; rintro e w' ⟨rfl, hs⟩; have HS1 := Lib.hid hs; clear hs))
  go_ret2
  exact ⟨rfl, HS1.out⟩
theorem CNewSome (S : Sep w0 w L) (i : Nat) (hi : L[i]? = some (arenaR a A)) (hw : A.Wf) (n : Int) (h0 : 0 ≤ n) (h6 : n ≤ 6) {r : Nat} {A' : AR} (ht : A.take (classZ n) = some (r, A')) (hr : r < 100000) :
    Calls Tryz.prog 43 #[.pointer (some ⟨a, 0, none⟩), .int .i64 n] w fun e w' => e = .returned (.tuple #[.int .i64 (r : Int), .int .i64 0]) ∧ Sep w0 w' (L.set i (arenaR a (A'.setW (r : Int) 0 n))) := by
  have HS := Lib.hid S
  have HI := Lib.hid hi
  have HW := Lib.hid hw
  have HT := Lib.hid ht
  have HW2 := Lib.hid (hw.take_wf ht)
  have HI2 := Lib.hid (show (L.set i (arenaR a A'))[i]? = some (arenaR a A') by
    obtain ⟨h, _⟩ := List.getElem?_eq_some_iff.1 hi
    simp [h])
  clear S hi hw ht
  go_enter Tryz.func43, Tryz.ntmps43
  go_wp2_with (first
    | (go_at_call 68; refine (ClassYes n _ h0 h6).mono ?_; rintro e w' ⟨rfl, rfl⟩)
    | (go_at_call 69; refine (TATake HS.out i HI.out HW.out (classZ n)).mono ?_; rw [takeA_some HT.out, HT.out, takeV_some]; rintro e w' ⟨rfl, hs⟩; have HS1 := Lib.hid hs; clear hs)
    | (go_at_call 70; refine (TASet HS1.out i HI2.out HW2.out (r : Int) 0 n (by omega)).mono ?_; rintro e w' ⟨rfl, hs⟩; have HS2 := Lib.hid hs; clear hs))
  go_ret2
  exact ⟨rfl, by simpa using HS2.out⟩
end
end Go.Proofs.YtbcabjpafeocgaaGreat

/-
  Objects in an arena: contracts of layer 4 in words of objects. Conditions: the arena is as it always is.
-/
namespace Go.Proofs.YtbcabjpafeocgaaGreat
set_option linter.unusedVariables false
set_option linter.unusedSimpArgs false
open Go.RowKit Go.Shelf

section
variable {A : AR}
/-- Fewer cells are taken than there are pages: there is room. -/
theorem AR.Wf.has_room (h : A.Wf) {c : Int} (h0 : 0 ≤ c) (h2 : c ≤ 2) (ht : A.total < (A.n : Int)) : ∃ r A', A.take c = some (r, A') := by
  cases e : A.take c with
  | some x => exact ⟨x.1, x.2, rfl⟩
  | none =>
    rcases h.take_none e with e1 | ⟨e1, _⟩
    · have := cN_of c h0 h2; omega
    · have key : ∀ m, m ≤ A.n → (m : Int) ≤ sumN A.cnt m := by
        intro m
        induction m with
        | zero => intro _; simp [sumN]
        | succ m ih =>
          intro hm
          have h1 := ih (by omega)
          have h2 := h.some_ m (by omega) (e1 m (by omega))
          unfold sumN
          push_cast
          omega
      have := key A.n (Nat.le_refl _)
      unfold AR.total at ht
      omega

theorem setW_total (A : AR) (r j x : Int) : (A.setW r j x).total = A.total := by
  unfold AR.total
  rw [(setW_tk A r j x).2.1, (setW_tk A r j x).2.2.2.2.2]

theorem new_total (m : Nat) (ids : Nat × Nat × Nat) (hm : m ≤ 64) : (AR.new m ids).total = 0 ∧ (AR.new m ids).n = m ∧ ∀ r, (AR.new m ids).tk r = false := by
  have h : ∀ r, (AR.new m ids).tk r = false := fun _ => rfl
  exact ⟨((AR.new_wf m ids hm).empty h).2.1, rfl, h⟩

/-- Cells are taken in order: pages that are in use come first; of each class at most one page isn't full. -/
structure FreshA (A : AR) : Prop where
  first : ∀ p q : Nat, p < A.n → q < p → 0 ≤ A.cls p → 0 ≤ A.cls q
  full : ∀ p q : Nat, p < A.n → q < A.n → p ≠ q → 0 ≤ A.cls p → A.cls p = A.cls q → (∀ k, k < cN (A.cls p) → A.tk (refN p (A.cls p) k) = true) ∨ (∀ k, k < cN (A.cls p) → A.tk (refN q (A.cls p) k) = true)
theorem FreshA.same {A A' : AR} (h : FreshA A) (hn : A'.n = A.n) (hc : A'.cls = A.cls) (ht : A'.tk = A.tk) : FreshA A' :=
  ⟨by rw [hn, hc]; exact h.first, by rw [hn, hc, ht]; exact h.full⟩
theorem FreshA.none {A : AR} (h : ∀ p, p < A.n → A.cls p = -1) : FreshA A :=
  ⟨fun p q hp hq h0 => by rw [h p hp] at h0; exact absurd h0 (by decide), fun p q hp hq hne h0 he => by rw [h p hp] at h0; exact absurd h0 (by decide)⟩
theorem FreshA.taken {A A' : AR} {c : Int} {r p k : Nat} (h : FreshA A) (hc0 : 0 ≤ c) (ht : TakeIs A c r A' p k) : FreshA A' := by
  have hup : ∀ x, A.tk x = true → A'.tk x = true := fun x hx => by rw [ht.tk]; show (A.tk x || _) = true; rw [hx]; rfl
  refine ⟨fun p' q hp hq h0 => ?_, fun p' q' hp hq hne h0 he => ?_⟩
  · rw [ht.n] at hp
    rw [ht.cls] at h0 ⊢
    unfold updN at h0 ⊢
    by_cases e : q = p
    · rw [if_pos e]; exact hc0
    · rw [if_neg e]
      by_cases e2 : p' = p
      · subst e2
        rcases ht.was with hw | hw
        · exact h.first p' q hp hq (by rw [hw]; exact hc0)
        · exact (ht.fresh hw).2.1 q hq
      · rw [if_neg e2] at h0
        exact h.first p' q hp hq h0
  · rw [ht.n] at hp hq
    rw [ht.cls] at h0 he ⊢
    unfold updN at h0 he ⊢
    by_cases e1 : p' = p
    · subst e1
      have e2 : ¬ q' = p' := fun e => hne e.symm
      simp only [if_true, e2, if_false] at h0 he ⊢
      rcases ht.was with hw | hw
      · rcases h.full p' q' hp hq hne (by rw [hw]; exact hc0) (by rw [hw, he]) with h1 | h1
        · rw [hw] at h1; exact .inl fun k hk => hup _ (h1 k hk)
        · rw [hw] at h1; exact .inr fun k hk => hup _ (h1 k hk)
      · exact .inr fun j hj => hup _ ((ht.fresh hw).2.2 q' j hq he.symm hj)
    · simp only [e1, if_false] at h0 he ⊢
      by_cases e2 : q' = p
      · subst e2
        simp only [if_true] at he
        rcases ht.was with hw | hw
        · rcases h.full p' q' hp hq hne h0 (by rw [hw, he]) with h1 | h1
          · exact .inl fun k hk => hup _ (h1 k hk)
          · exact .inr fun k hk => hup _ (h1 k hk)
        · refine .inl fun j hj => hup _ ?_
          have h2 := (ht.fresh hw).2.2 p' j hp he
          rw [he] at hj ⊢
          exact h2 hj
      · simp only [e2, if_false] at he
        rcases h.full p' q' hp hq hne h0 he with h1 | h1
        · exact .inl fun k hk => hup _ (h1 k hk)
        · exact .inr fun k hk => hup _ (h1 k hk)
/-- An object of n fields is new in A', at r. -/
structure NewIs (A : AR) (m : Nat) (r : Nat) (A' : AR) : Prop where
  wf : A'.Wf
  n : A'.n = A.n
  ids : A'.ids = A.ids
  total : A'.total = A.total + 1
  free : A.tk r = false
  tk : A'.tk = fun j => A.tk j || decide (j = r)
  page : (r - 1) / 32 < A.n
  cls : A'.cls = updN A.cls ((r - 1) / 32) (classZ (m : Int))
  was : A.cls ((r - 1) / 32) = classZ (m : Int) ∨ A.cls ((r - 1) / 32) = -1
  obj : Obj A' r (List.replicate m 0) 0
  old : ∀ r' fs x, Obj A r' fs x → Obj A' r' fs x ∧ r' ≠ r
  first : (∀ q, A.tk q = false) → r = 1
  fresh : FreshA A → FreshA A'

theorem NewIs.of_take {n r p k : Nat} {A' : AR} (hw : A.Wf) (hn : n ≤ 6) (ht : TakeIs A (classZ (n : Int)) r A' p k) : NewIs A n r (A'.setW (r : Int) 0 (n : Int)) := by
  have hd := ht.div
  have hrm := ht.room_new
  have hroom := (class_room (n : Int) (by omega) (by omega)).1
  rw [words_wN] at hroom
  refine ⟨ht.wf.setW_wf _ _ _, by rw [(setW_tk A' _ _ _).2.1, ht.n], by rw [(setW_tk A' _ _ _).2.2.2.1, ht.ids], by rw [setW_total, ht.total], ht.free, by rw [(setW_tk A' _ _ _).1, ht.tk], by rw [hd]; exact ht.page, by rw [(setW_tk A' _ _ _).2.2.1, ht.cls, hd], by rw [hd]; exact ht.was, Obj.new hn ht, ?_, ?_, ?_⟩
  · intro r' fs x o
    obtain ⟨h1, h2⟩ := o.taken ht hw
    exact ⟨h1.other ht.wf ht.tk_new h2 (j := 0) (by omega) (n : Int), h2⟩
  · intro he
    have hc := (hw.empty he).1
    obtain ⟨hk, hq, _⟩ := ht.fresh (hc p ht.page)
    have hp : p = 0 := by
      rcases Nat.eq_zero_or_pos p with e | e
      · exact e
      · have h1 := hq 0 e
        have h2 := hc 0 (by have := ht.page; omega)
        omega
    rw [ht.ref, hk, hp]
    simp [refN]
  · exact fun h => (h.taken (class_room (n : Int) (by omega) (by omega)).2.1 ht).same ((setW_tk A' _ _ _).2.1) ((setW_tk A' _ _ _).2.2.1) ((setW_tk A' _ _ _).1)

/-- Words of the object r are written. -/
structure StoreIs (A : AR) (r : Nat) (A' : AR) : Prop where
  wf : A'.Wf
  n : A'.n = A.n
  ids : A'.ids = A.ids
  total : A'.total = A.total
  tk : A'.tk = A.tk
  cls : A'.cls = A.cls
  old : ∀ r' fs x, r' ≠ r → Obj A r' fs x → Obj A' r' fs x

theorem StoreIs.of_set {r : Nat} {fs : List Int} {x : Int} (hw : A.Wf) (o : Obj A r fs x) {j : Nat} (hj : j < A.room r) (v : Int) : StoreIs A r (A.setW (r : Int) (j : Int) v) :=
  ⟨hw.setW_wf _ _ _, (setW_tk A _ _ _).2.1, (setW_tk A _ _ _).2.2.2.1, setW_total A _ _ _, (setW_tk A _ _ _).1, (setW_tk A _ _ _).2.2.1, fun _ _ _ hne o' => o'.other hw o.tk hne hj v⟩
end

section
variable {w0 w : World} {L : List Res} {i a : Nat} {A : AR}

theorem ONew (S : Sep w0 w L) (i : Nat) (hi : L[i]? = some (arenaR a A)) (hw : A.Wf) (n : Nat) (hn : n ≤ 6) (ht : A.total < (A.n : Int)) :
    Calls Tryz.prog 43 #[.pointer (some ⟨a, 0, none⟩), .int .i64 (n : Int)] w fun e w' => ∃ (r : Nat) (A' : AR), e = .returned (.tuple #[.int .i64 (r : Int), .int .i64 0]) ∧ Sep w0 w' (L.set i (arenaR a A')) ∧ NewIs A n r A' := by
  obtain ⟨_, h0, h2, _⟩ := class_room (n : Int) (by omega) (by omega)
  obtain ⟨r, A', hta⟩ := hw.has_room h0 h2 ht
  obtain ⟨p, k, hti⟩ := hw.take_spec hta
  have hr : r < 100000 := by
    have h1 := (hti.wf.lt hti.tk_new).2.1
    have := hti.wf.few
    omega
  refine (CNewSome S i hi hw (n : Int) (by omega) (by omega) hta hr).mono ?_
  rintro e w' ⟨rfl, hs⟩
  exact ⟨r, _, rfl, hs, NewIs.of_take hw hn hti⟩
theorem ONewAny (S : Sep w0 w L) (i : Nat) (hi : L[i]? = some (arenaR a A)) (hw : A.Wf) (n : Nat) (hn : n ≤ 6) :
    Calls Tryz.prog 43 #[.pointer (some ⟨a, 0, none⟩), .int .i64 (n : Int)] w fun e w' =>
      (A.take (classZ (n : Int)) = none ∧ e = .returned (.tuple #[.int .i64 0, .int .i64 10]) ∧ Sep w0 w' L) ∨
      ∃ (r : Nat) (A' : AR), e = .returned (.tuple #[.int .i64 (r : Int), .int .i64 0]) ∧ Sep w0 w' (L.set i (arenaR a A')) ∧ NewIs A n r A' := by
  cases hta : A.take (classZ (n : Int)) with
  | none =>
    refine (CNewNone S i hi hw (n : Int) (by omega) (by omega) hta).mono ?_
    rintro e w' ⟨rfl, hs⟩
    exact .inl ⟨rfl, rfl, hs⟩
  | some y =>
    obtain ⟨r, A'⟩ := y
    obtain ⟨p, k, hti⟩ := hw.take_spec hta
    have hr : r < 100000 := by
      have h1 := (hti.wf.lt hti.tk_new).2.1
      have := hti.wf.few
      omega
    refine (CNewSome S i hi hw (n : Int) (by omega) (by omega) hta hr).mono ?_
    rintro e w' ⟨rfl, hs⟩
    exact .inr ⟨r, _, rfl, hs, NewIs.of_take hw hn hti⟩
theorem OFields (S : Sep w0 w L) (i : Nat) (hi : L[i]? = some (arenaR a A)) (hw : A.Wf) {r : Nat} {fs : List Int} {x : Int} (o : Obj A r fs x) :
    Calls Tryz.prog 33 #[.pointer (some ⟨a, 0, none⟩), .int .i64 (r : Int)] w fun e w' => e = .returned (.int .i64 (fs.length : Int)) ∧ Sep w0 w' L := by
  have h := CFields S i hi hw (r : Int) (by have := o.pos hw; omega)
  rw [o.count] at h
  exact h
theorem OField (S : Sep w0 w L) (i : Nat) (hi : L[i]? = some (arenaR a A)) (hw : A.Wf) {r : Nat} {fs : List Int} {x : Int} (o : Obj A r fs x) (j : Nat) (v : Int) (hj : fs[j]? = some v) :
    Calls Tryz.prog 63 #[.pointer (some ⟨a, 0, none⟩), .int .i64 (r : Int), .int .i64 (j : Int)] w fun e w' => e = .returned (.tuple #[.int .i64 v, .int .i64 0]) ∧ Sep w0 w' L := by
  have hl := (List.getElem?_eq_some_iff.1 hj).1
  have h6 := o.six
  have h := CFieldYes S i hi hw (r : Int) (j : Int) (by have := o.pos hw; omega) (by rw [o.check hw, if_pos (by omega)]) (by omega) (by omega)
  rw [o.field j v hj] at h
  exact h
theorem OFieldOut (S : Sep w0 w L) (i : Nat) (hi : L[i]? = some (arenaR a A)) (hw : A.Wf) {r : Nat} {fs : List Int} {x : Int} (o : Obj A r fs x) (j : Int) (hj : ¬ (0 ≤ j ∧ j < (fs.length : Int))) :
    Calls Tryz.prog 63 #[.pointer (some ⟨a, 0, none⟩), .int .i64 (r : Int), .int .i64 j] w fun e w' => e = .returned (.tuple #[.int .i64 0, .int .i64 6]) ∧ Sep w0 w' L := by
  have hc : A.checkZ (r : Int) j = 6 := by rw [o.check hw, if_neg hj]
  have h := CFieldNo S i hi hw (r : Int) j (by have := o.pos hw; omega) (by rw [hc]; decide)
  rw [hc] at h
  exact h
theorem OSetField (S : Sep w0 w L) (i : Nat) (hi : L[i]? = some (arenaR a A)) (hw : A.Wf) {r : Nat} {fs : List Int} {x : Int} (o : Obj A r fs x) (j : Nat) (hj : j < fs.length) (v : Int) :
    Calls Tryz.prog 44 #[.pointer (some ⟨a, 0, none⟩), .int .i64 (r : Int), .int .i64 (j : Int), .int .i64 v] w fun e w' => ∃ A' : AR, e = .returned (.int .i64 0) ∧ Sep w0 w' (L.set i (arenaR a A')) ∧ StoreIs A r A' ∧ Obj A' r (fs.set j v) x := by
  have h6 := o.six
  have hrm := o.room
  refine (CSetFieldYes S i hi hw (r : Int) (j : Int) v (by have := o.pos hw; omega) (by rw [o.check hw, if_pos (by omega)]) (by omega) (by omega)).mono ?_
  rintro e w' ⟨rfl, hs⟩
  refine ⟨_, rfl, hs, ?_, o.setField hw hj v⟩
  have := StoreIs.of_set hw o (j := 2 + j) (by omega) v
  push_cast at this
  exact this
theorem OSetFieldOut (S : Sep w0 w L) (i : Nat) (hi : L[i]? = some (arenaR a A)) (hw : A.Wf) {r : Nat} {fs : List Int} {x : Int} (o : Obj A r fs x) (j : Int) (hj : ¬ (0 ≤ j ∧ j < (fs.length : Int))) (v : Int) :
    Calls Tryz.prog 44 #[.pointer (some ⟨a, 0, none⟩), .int .i64 (r : Int), .int .i64 j, .int .i64 v] w fun e w' => e = .returned (.int .i64 6) ∧ Sep w0 w' L := by
  have hc : A.checkZ (r : Int) j = 6 := by rw [o.check hw, if_neg hj]
  have h := CSetFieldNo S i hi hw (r : Int) j v (by have := o.pos hw; omega) (by rw [hc]; decide)
  rw [hc] at h
  exact h
theorem opoints_iter (B B' a : Nat) (A : AR) (hw : A.Wf) {r : Nat} {fs : List Int} {x : Int} (o : Obj A r fs x) :
    Iter Tryz.prog 72 #[.pointer (some ⟨B, 0, none⟩), .pointer (some ⟨B', 0, none⟩)] (fun x : Int => #[.int .i64 x]) (fs.filter fun v => !(v == 0)) (fun _ => [blkR B 24 #[.pointer (some ⟨a, 0, none⟩)], blkR B' 34 #[.int .i64 (r : Int)], arenaR a A]) := by
  have h := points_iter B B' a (r : Int) fs.length A hw (by have := o.pos hw; omega) o.count o.six (fun _ => (o.pos hw).2.1)
  rw [o.points] at h
  exact h
end
end Go.Proofs.YtbcabjpafeocgaaGreat

/-
  Objects that point to each other, as plain data, and the iterator over where one points, in plain numbers. Conditions: as each theorem says.
-/
namespace Go.Proofs.YtbcabjpafeocgaaGreat
set_option linter.unusedVariables false
set_option linter.unusedSimpArgs false
open Go.RowKit Go.Shelf

/-- The objects O of an arena, and their fields. -/
structure Heap (A : AR) (O : Nat → Prop) (fs : Nat → List Nat) : Prop where
  wf : A.Wf
  obj : ∀ r, O r → ∃ x, Obj A r ((fs r).map fun (y : Nat) => (y : Int)) x
  closed : ∀ r, O r → ∀ y ∈ fs r, y = 0 ∨ O y
/-- Where they point. -/
def ptsOf (fs : Nat → List Nat) (r : Nat) : List Nat := (fs r).filter fun y => !(y == 0)

section
variable {A : AR} {O : Nat → Prop} {fs : Nat → List Nat}
theorem Heap.pos (h : Heap A O fs) {r : Nat} (hr : O r) : 0 < r ∧ r < 3000 := by
  obtain ⟨x, ho⟩ := h.obj r hr
  have := ho.pos h.wf
  omega
theorem Heap.lt (h : Heap A O fs) {r : Nat} (hr : O r) : (r : Int) < A.size := by
  obtain ⟨x, ho⟩ := h.obj r hr
  exact (h.wf.lt ho.tk).2.2
theorem Heap.pts (h : Heap A O fs) {r : Nat} (hr : O r) : ∀ y ∈ ptsOf fs r, O y := by
  intro y hy
  rw [ptsOf, List.mem_filter] at hy
  rcases h.closed r hr y hy.1 with h1 | h1
  · subst h1; simp at hy
  · exact h1
theorem ptsOf_len (h : Heap A O fs) {r : Nat} (hr : O r) : (ptsOf fs r).length ≤ 6 ∧ (fs r).length ≤ 6 := by
  obtain ⟨x, ho⟩ := h.obj r hr
  have h1 := ho.six
  rw [List.length_map] at h1
  exact ⟨Nat.le_trans (List.length_filter_le _ _) h1, h1⟩

theorem prefix_map {α β : Type} {f : β → α} : ∀ {xs pre' : List β} {x : α}, pre' <+: xs → (pre'.map f ++ [x]) <+: xs.map f → ∃ x', f x' = x ∧ (pre' ++ [x']) <+: xs
  | [], [], x, _, h => by simp at h
  | a :: xs, [], x, _, h => by
    obtain ⟨t, ht⟩ := h
    simp at ht
    exact ⟨a, ht.1.symm, ⟨xs, by simp⟩⟩
  | [], b :: pre', x, h, _ => by simp at h
  | a :: xs, b :: pre', x, h1, h2 => by
    obtain ⟨t, ht⟩ := h1
    simp at ht
    obtain ⟨rfl, rfl⟩ := ht
    rw [List.map_cons, List.map_cons, List.cons_append, List.cons_prefix_cons] at h2
    obtain ⟨x', hx, hp⟩ := prefix_map (f := f) ⟨t, rfl⟩ h2.2
    exact ⟨x', hx, by rw [List.cons_append, List.cons_prefix_cons]; exact ⟨rfl, hp⟩⟩

/-- An iterator's numbers in another spelling. -/
theorem Iter.ofMap {α β : Type} {P : Program} {gf : Nat} {lb : Array Value} {encs : α → Array Value} {f : β → α} {xs : List β} {K : List Res} (h : Iter P gf lb encs (xs.map f) (fun _ => K)) : Iter P gf lb (fun x => encs (f x)) xs (fun _ => K) := by
  intro l w0 Φ Φx W R hY h0 hS
  refine (h l w0 (fun pre R => ∃ pre', pre = pre'.map f ∧ pre' <+: xs ∧ Φ pre' R) (fun pre R => ∃ pre', pre = pre'.map f ∧ pre' <+: xs ∧ Φx pre' R) W R ?_ ⟨[], rfl, List.nil_prefix, h0⟩ hS).mono ?_
  · rintro pre x R H W hpre ⟨pre', rfl, hp, hΦ⟩ hS
    obtain ⟨x', rfl, hp'⟩ := prefix_map hp hpre
    refine YieldAt.mono (hY pre' x' R H W hp' hΦ hS) ?_
    rintro e W' (⟨rfl, R', h1, h2⟩ | ⟨rfl, R', h1, h2⟩)
    · exact .inl ⟨rfl, R', ⟨pre' ++ [x'], by simp, hp', h1⟩, h2⟩
    · exact .inr ⟨rfl, R', ⟨pre' ++ [x'], by simp, hp', h1⟩, h2⟩
  · rintro e W' ⟨hv, (⟨R', ⟨pre', he, hp, hΦ⟩, hs⟩ | ⟨pre, R', _, ⟨pre', _, hp, hΦ⟩, hs⟩)⟩
    · have hl : pre'.length = xs.length := by
        have := congrArg List.length he
        simpa using this.symm
      have : pre' = xs := hp.eq_of_length hl
      subst this
      exact ⟨hv, .inl ⟨R', hΦ, hs⟩⟩
    · exact ⟨hv, .inr ⟨pre', R', hp, hΦ, hs⟩⟩

theorem hpoints_iter (B B' a : Nat) (h : Heap A O fs) {r : Nat} (hr : O r) :
    Iter Tryz.prog 72 #[.pointer (some ⟨B, 0, none⟩), .pointer (some ⟨B', 0, none⟩)] (fun x : Nat => #[.int .i64 (x : Int)]) (ptsOf fs r) (fun _ => [blkR B 24 #[.pointer (some ⟨a, 0, none⟩)], blkR B' 34 #[.int .i64 (r : Int)], arenaR a A]) := by
  obtain ⟨x, ho⟩ := h.obj r hr
  have h1 := opoints_iter B B' a A h.wf ho
  refine Iter.ofMap (f := fun (y : Nat) => (y : Int)) (encs := fun x : Int => #[.int .i64 x]) ?_
  have e : (((fs r).map fun (y : Nat) => (y : Int)).filter fun v => !(v == 0)) = (ptsOf fs r).map fun (y : Nat) => (y : Int) := by
    unfold ptsOf
    rw [List.filter_map]
    congr 1
    refine List.filter_congr (fun y _ => ?_)
    have e0 : (((y : Nat) : Int) == 0) = (y == 0) := by rw [Bool.eq_iff_iff]; simp
    show (!(((y : Nat) : Int) == 0)) = !(y == 0)
    rw [e0]
  rw [e] at h1
  exact h1
end
end Go.Proofs.YtbcabjpafeocgaaGreat

/-
  Maps that a function's own text makes, of any key that reads as a literal and of any one-word element, where memory is a list of things. Conditions: no program is named here.
-/
namespace Go.Proofs.YtbcabjpafeocgaaGreat
set_option linter.unusedVariables false
set_option linter.unusedSimpArgs false
open Go.RowKit Go.Shelf Go.Maps

/-- An element as it stands. -/
def asIs (v : Value) : Option (DataW Value × List MemPlace) := some (.held v, [])

open Classical in
noncomputable def updG (M : Lit → Option Value) (x : Lit) (c : Value) : Lit → Option Value := fun y => if y = x then some c else M y
theorem updG_same (M : Lit → Option Value) (x : Lit) (c : Value) : updG M x c x = some c := by simp [updG]
theorem updG_other (M : Lit → Option Value) {x y : Lit} (c : Value) (h : y ≠ x) : updG M x c y = M y := by simp [updG, h]

/-- The datum D reads as M. -/
structure ReadsG (D : DataW Value) (M : Lit → Option Value) : Prop where
  tidy : Tidy D
  none_ : ∀ x, WideAt.IsKeyLit x → M x = none → has D x = false
  some_ : ∀ x c, WideAt.IsKeyLit x → M x = some c → has D x = true ∧ ∀ z, D.atKey x z = .held c

theorem ReadsG.has_eq {D : DataW Value} {M : Lit → Option Value} (h : ReadsG D M) {x : Lit} (hx : WideAt.IsKeyLit x) : has D x = (M x).isSome := by
  cases e : M x with
  | none => rw [h.none_ x hx e]; rfl
  | some c => rw [(h.some_ x c hx e).1]; rfl
theorem ReadsG.at_eq {D : DataW Value} {M : Lit → Option Value} (h : ReadsG D M) {x : Lit} (hx : WideAt.IsKeyLit x) (z : Value) : D.atKey x (.held z) = .held ((M x).getD z) := by
  cases e : M x with
  | none => rw [atKey_of_not_has (h.none_ x hx e)]; rfl
  | some c => rw [(h.some_ x c hx e).2]; rfl
theorem ReadsG.put {D : DataW Value} {M : Lit → Option Value} (h : ReadsG D M) {x : Lit} (hx : WideAt.IsKeyLit x) (c : Value) : ReadsG (D.put x (.held c)) (updG M x c) := by
  refine ⟨h.tidy.put hx _, ?_, ?_⟩
  · intro y hy e
    by_cases hyx : y = x
    · subst hyx; rw [updG_same] at e; cases e
    · rw [updG_other _ _ hyx] at e
      rw [has_put_other hyx]
      exact h.none_ y hy e
  · intro y d hy e
    by_cases hyx : y = x
    · subst hyx
      rw [updG_same] at e
      cases e
      exact ⟨has_put_same h.tidy.isMap hx _, fun z => atKey_put_same h.tidy.isMap hx _ z⟩
    · rw [updG_other _ _ hyx] at e
      obtain ⟨h1, h2⟩ := h.some_ y d hy e
      exact ⟨by rw [has_put_other hyx]; exact h1, fun z => by rw [atKey_put_other hyx]; exact h2 z⟩
theorem readsG_empty : ReadsG (.map []) (fun _ => none) := ⟨tidy_empty, fun _ _ _ => rfl, fun _ _ _ e => by cases e⟩

theorem ownsMapG_heap {P : Program} {k : TypeId} {R : Value → Option (DataW Value × List MemPlace)} {w w' : World} {b n : Nat} {D : DataW Value} (h : w.ownsMap P k R b n D) (e : w'.heap[b]? = w.heap[b]?) : w'.ownsMap P k R b n D := by
  obtain ⟨es, clock, hb, rest⟩ := h
  exact ⟨es, clock, e.trans hb, rest⟩
theorem ownsMapG_tight {P : Program} {k : TypeId} {R : Value → Option (DataW Value × List MemPlace)} {w : World} {b n : Nat} {D : DataW Value} (h : w.ownsMap P k R b n D) : w.ownsMap P k R b (size D) D := by
  obtain ⟨es, clock, hb, F, _, rfl⟩ := h
  exact ⟨es, clock, hb, F, by simp [Maps.size, length_sorted], rfl⟩

/-- The map at block b has cnt entries, and reads as M. -/
def gmapR (P : Program) (k : TypeId) (b : Nat) (cnt : Nat) (M : Lit → Option Value) : Res :=
  ⟨fun w F => F = [b] ∧ ∃ D : DataW Value, w.ownsMap P k asIs b cnt D ∧ size D = cnt ∧ ReadsG D M,
   fun {w w' F G} h hc hF => by
    obtain ⟨rfl, D, h1, h2⟩ := h
    exact ⟨rfl, D, ownsMapG_heap h1 (hc.block b h1.lt (hF b (by simp))), h2⟩,
   fun {w F} h x hx => by
    obtain ⟨rfl, D, h1, _⟩ := h
    simp at hx; subst hx; exact h1.lt⟩

section
variable {P : Program} {t k e : TypeId} {w0 w : World} {L : List Res} {i b cnt : Nat} {M : Lit → Option Value}

theorem gmap_get (K : Keyed P k) (ht : P.underlying t = some (.map k e)) {z : Value} (hz : (zeroValue e).run P w = .ok z w) (S : Sep w0 w L) (i : Nat) (hi : L[i]? = some (gmapR P k b cnt M)) {x : Value} {l : Lit} (hx : keyOf P k x = some l) :
    (Instr.lookup t (.map (some b)) x false).run P w = .ok ((M l).getD z) w := by
  obtain ⟨F, ⟨rfl, D, h1, h2, h3⟩, _⟩ := S.at_ hi
  obtain ⟨v, ps, hrun, hv⟩ := h1.lookup K ht hz (zd := .held z) (zp := []) rfl hx
  rw [h3.at_eq (K.key hx)] at hv
  unfold asIs at hv
  simp only [Option.some.injEq, Prod.mk.injEq, DataW.held.injEq] at hv
  rw [hrun, hv.1]
theorem gmap_len (ht : P.underlying t = some (.map k e)) (S : Sep w0 w L) (i : Nat) (hi : L[i]? = some (gmapR P k b cnt M)) (ty : TypeId) :
    (Builtin.len_ #[t] ty #[.map (some b)]).run P w = .ok (.int .i64 (cnt : Int)) w := by
  obtain ⟨F, ⟨rfl, D, h1, h2, h3⟩, _⟩ := S.at_ hi
  rw [h1.len ht ty, h2]
theorem gmap_put (K : Keyed P k) (ht : P.underlying t = some (.map k e)) (S : Sep w0 w L) (i : Nat) (hi : L[i]? = some (gmapR P k b cnt M)) (hn : cnt < maxLen) {x : Value} {l : Lit} (hx : keyOf P k x = some l) (c : Value) :
    ∃ w', (Instr.mapUpdate t (.map (some b)) x c).run P w = .ok () w' ∧ Sep w0 w' (L.set i (gmapR P k b (if (M l).isSome then cnt else cnt + 1) (updG M l c))) := by
  obtain ⟨F, ⟨rfl, D, h1, h2, h3⟩, hk⟩ := S.at_ hi
  obtain ⟨w', hrun, r1, r2⟩ := h1.update K ht hn (d := .held c) (ps := []) hx rfl
  refine ⟨w', hrun, hk _ w' [b] ⟨rfl, _, ?_, ?_, h3.put (K.key hx) c⟩ (GrewF.self _ _) (Chg.grown (Chg.refl _ _) r2 (by rintro j hj; cases hj; simp))⟩
  · have := ownsMapG_tight r1
    rw [size_put h3.tidy, h3.has_eq (K.key hx), h2] at this
    exact this
  · rw [size_put h3.tidy, h3.has_eq (K.key hx), h2]
theorem Sep.newMapG (S : Sep w0 w L) (P : Program) (k : TypeId) : Sep w0 (w.alloc (.map #[] 0)) (gmapR P k w.heap.size 0 (fun _ => none) :: L) :=
  S.new (r := gmapR P k w.heap.size 0 (fun _ => none)) (F := [w.heap.size]) ⟨rfl, _, World.ownsMap_made w P k asIs, rfl, readsG_empty⟩ (by simp) ((Chg.refl _ _).alloc _)
end
end Go.Proofs.YtbcabjpafeocgaaGreat

/-
  One of many things taken out of their heap, and put back. Conditions: no program is named here.
-/
namespace Go.Proofs.YtbcabjpafeocgaaGreat
set_option linter.unusedVariables false
set_option linter.unusedSimpArgs false
open Go.RowKit

section
variable {w0 w : World} {K L : List Res} {r : Res} {k : Nat}
theorem Sep.outOf (S : Sep w0 w (starR K :: L)) (hk : K[k]? = some r) : Sep w0 w (r :: starR (K.eraseIdx k) :: L) := by
  have h := S.openHead.perm (List.Perm.append_right L (perm_pull hk))
  exact (Sep.shutHead (K := K.eraseIdx k) (h.perm (show ((r :: K.eraseIdx k) ++ L).Perm (K.eraseIdx k ++ (r :: L)) from by
    rw [List.cons_append]
    exact (List.perm_middle).symm))).swap
theorem Sep.backIn (S : Sep w0 w (r :: starR (K.eraseIdx k) :: L)) (hk : k < K.length) : Sep w0 w (starR (K.set k r) :: L) := by
  have h := S.swap.openHead
  refine Sep.shutHead (K := K.set k r) (h.perm ?_)
  have h2 : (r :: K.eraseIdx k).Perm (K.set k r) := perm_set (List.getElem?_eq_getElem hk)
  refine List.Perm.trans ?_ (List.Perm.append_right L h2)
  rw [List.cons_append]
  exact List.perm_middle
theorem Sep.more (S : Sep w0 w (r :: starR K :: L)) : Sep w0 w (starR (K ++ [r]) :: L) := by
  have h := S.swap.openHead
  refine Sep.shutHead (K := K ++ [r]) (h.perm ?_)
  rw [List.append_assoc]
  exact List.Perm.refl _
theorem Sep.none_ (S : Sep w0 w L) : Sep w0 w (starR [] :: L) := Sep.shutHead (K := []) S
/-- Two things brought ahead; the first one changes. -/
theorem Sep.two {L : List Res} {ri rj : Res} (S : Sep w0 w L) (i j : Nat) (hi : L[i]? = some ri) (hj : L[j]? = some rj) (hne : i ≠ j) :
    ∃ R, Sep w0 w (ri :: rj :: R) ∧ ∀ (w' : World) (ri' : Res), Sep w0 w' (ri' :: rj :: R) → Sep w0 w' (L.set i ri') := by
  have h1 := perm_pull hi
  obtain ⟨k, hk⟩ : ∃ k : Nat, (L.eraseIdx i)[k]? = some rj := by
    rcases Nat.lt_or_ge j i with hlt | hge
    · exact ⟨j, by rw [List.getElem?_eraseIdx, if_pos hlt]; exact hj⟩
    · exact ⟨j - 1, by rw [List.getElem?_eraseIdx, if_neg (by omega), show j - 1 + 1 = j by omega]; exact hj⟩
  have h2 := perm_pull hk
  exact ⟨(L.eraseIdx i).eraseIdx k, S.perm (h1.trans (h2.cons ri)), fun w' ri' h => h.perm (((h2.symm).cons ri').trans (perm_set hi))⟩
end
end Go.Proofs.YtbcabjpafeocgaaGreat

/-
  Slices of a function's own: a whole one appended to another, and the last element taken off. Conditions: no program is named here.
-/
namespace Go.Proofs.YtbcabjpafeocgaaGreat
set_option linter.unusedVariables false
set_option linter.unusedSimpArgs false
open Go.RowKit Go.Shelf

section
variable {w0 w : World} {L : List Res} {i n : Nat} {e : TypeId} {sz : Nat} {v : Value} {xs : List Value}

theorem Sep.rowPop {g cap : Nat} {last : List Value} (S : Sep w0 w L) (i : Nat) (hi : L[i]? = some (rowR e sz (.slice (some ⟨g, 0, none⟩) (n + 1) cap) (n + 1) (xs ++ last))) (hx : xs.length = n * sz) :
    Sep w0 w (L.set i (rowR e sz (.slice (some ⟨g, 0, none⟩) n cap) n xs)) :=
  S.set_ hi (fun F h => ⟨h.1, ownsRow_pop hx h.2⟩)

theorem run_append_none {P : Program} {t e ty : TypeId} {i : TypeInfo} (ht : P.underlying t = some (.slice e)) (hi : P.info? e = some i) (A : Option Addr) (n cap c : Nat) (h : n ≤ cap) (w : World) :
    (Builtin.append_ #[t, t] ty #[.slice A n cap, .slice none 0 c]).run P w = .ok (.slice A n cap) w := by
  cases A <;> simp [Builtin.append_, run_underlying ht, sizeOf, typeInfo, hi, Builtin.lenOf, Builtin.firstCells, loadCells, loadCellsFrom, storeCells, h]

/-- append(v, u...): u is a slice of one's own, or one that lies still. -/
theorem Sep.append_some {P : Program} {t : TypeId} {z : Value} {bytes m c : Nat} {ad : Addr} {us : List Value} (ty : TypeId) (ht : P.underlying t = some (.slice e)) (hinfo : (P.info? e).map (fun i => (i.zero, i.size, i.bytes)) = some (some z, sz, bytes)) (hzs : z.cells.size = sz) (hsz : 0 < sz)
    (S : Sep w0 w L) (i : Nat) (hi : L[i]? = some (rowR e sz v n xs)) (hl : us.length = m * sz) (hus : ∀ j u, us[j]? = some u → w.cell? (ad.add j) = some u) (h1 : ∀ u ∈ us, u.oneCell' = true)
    (h63 : n + m ≤ maxLen) (hbytes : (n + m) * bytes ≤ 140737488355328) :
    ∃ v' w', (Builtin.append_ #[t, t] ty #[v, .slice (some ad) m c]).run P w = .ok v' w' ∧ Sep w0 w' (L.set i (rowR e sz v' (n + m) (xs ++ us))) := by
  obtain ⟨i0, hi0, hz0, hz1, hz2⟩ := info_parts hinfo
  obtain ⟨v', w', hrun, hown, hgrow, _, hblk⟩ := run_append_own_at (P := P) (w := w) 0 t ty e i0 z sz bytes ht hi0 hz0 hz1 hz2 hzs hsz v n xs (S.row hi) ad m c us hl hus h1 h63 hbytes (Nat.zero_le _)
  refine ⟨v', w', hrun, ?_⟩
  obtain ⟨F, hp, hk⟩ := S.at_ hi
  obtain ⟨rfl, _⟩ := hp
  refine hk _ w' _ ⟨rfl, hown⟩ ?_ (Chg.grown (Chg.refl _ w) hgrow (fun k hk => .inl (by simp [hk])))
  intro x hx
  rcases hblk with h | h
  · rw [h] at hx; exact .inl hx
  · rw [h] at hx; simp at hx; exact .inr (by omega)

theorem Sep.append_row {P : Program} {t : TypeId} {z : Value} {bytes m : Nat} {u : Value} {us : List Value} (ty : TypeId) (ht : P.underlying t = some (.slice e)) (hinfo : (P.info? e).map (fun i => (i.zero, i.size, i.bytes)) = some (some z, sz, bytes)) (hzs : z.cells.size = sz) (hsz : 0 < sz)
    (S : Sep w0 w L) (i : Nat) (hi : L[i]? = some (rowR e sz v n xs)) (j : Nat) (hj : L[j]? = some (rowR e sz u m us)) (h1 : ∀ u ∈ us, u.oneCell' = true)
    (h63 : n + m ≤ maxLen) (hbytes : (n + m) * bytes ≤ 140737488355328) :
    ∃ v' w', (Builtin.append_ #[t, t] ty #[v, u]).run P w = .ok v' w' ∧ Sep w0 w' (L.set i (rowR e sz v' (n + m) (xs ++ us))) := by
  obtain ⟨A, cap, rfl, hcap, _⟩ := S.rowShape i hi
  have hr := S.row hj
  rcases hr.2 with ⟨rfl, rfl⟩ | ⟨g, cap', cur, rfl, _⟩
  · have hus : us = [] := List.eq_nil_of_length_eq_zero (by simpa using hr.1)
    subst hus
    obtain ⟨i0, hi0, hz0, hz1, hz2⟩ := info_parts hinfo
    refine ⟨_, w, run_append_none ht hi0 A n cap 0 hcap w, ?_⟩
    simp only [Nat.add_zero, List.append_nil]
    rw [set_self hi]
    exact S
  · exact S.append_some ty ht hinfo hzs hsz i hi hr.1 (hr.cells (g := g) rfl) h1 h63 hbytes
end

section
variable {P : Program} {w w' : World} {ops : Array Oper} {rest : List Oper} {o : Oper} {a : Act} {Q : Exit → Act → World → Prop} {F : Fence} {nF : Nat}
theorem wpList_append_run (hg : o.guard = none) (s x : Operand) (t : TypeId) (hop : o.op = Op.call { callee := Callee.builtin Builtin.append, args := #[s, x], argTypes := #[t, t] }) {vs vx v : Value} (hs : a.eval s = vs) (hx : a.eval x = vx) (hrun : (Builtin.append_ #[t, t] o.type #[vs, vx]).run P w = .ok v w') (hK : wpList P ops Q rest (a.put o.dst v) w') : wpList P ops Q (o :: rest) a w := by
  refine wpList_plain hg fun K' hK' => ?_
  unfold Oper.wp
  simp [execOp, hop, resolve, invoke, builtin, hs, hx, hrun, Result.andThen]
  exact hK' _ _ hK
theorem wpListIn_append_run (hg : o.guard = none) (s x : Operand) (t : TypeId) (hop : o.op = Op.call { callee := Callee.builtin Builtin.append, args := #[s, x], argTypes := #[t, t] }) {vs vx v : Value} (hs : a.eval s = vs) (hx : a.eval x = vx) (hrun : (Builtin.append_ #[t, t] o.type #[vs, vx]).run P w = .ok v w') (hK : wpListIn F nF P ops Q rest (a.put o.dst v) w') : wpListIn F nF P ops Q (o :: rest) a w := by
  refine wpListIn_plain hg fun K' hK' => ?_
  unfold Oper.wpIn
  refine ⟨by simp [Oper.about, hop, resolve, Target.leads, Sem.run_pure], ?_⟩
  rw [Oper.semAt_plain F _ _ (by rw [hop]; intro c hc'; cases hc')]
  simp [execOp, hop, resolve, invoke, builtin, hs, hx, hrun, Result.andThen]
  exact hK' _ _ hK
end
end Go.Proofs.YtbcabjpafeocgaaGreat

/-
  A map from numbers to slices of numbers, each slice in a block of its own. Conditions: no program is named here.
-/
namespace Go.Proofs.YtbcabjpafeocgaaGreat
set_option linter.unusedVariables false
set_option linter.unusedSimpArgs false
open Go.RowKit Go.Shelf Go.Maps

def litR (x : Nat) : Lit := .int .i64 (x : Int)
def nums (l : List Nat) : List Value := l.map fun (r : Nat) => Value.int .i64 (r : Int)
theorem nums_length (l : List Nat) : (nums l).length = l.length := by simp [nums]
theorem nums_append (l m : List Nat) : nums (l ++ m) = nums l ++ nums m := by simp [nums]
theorem nums_get (l : List Nat) (j : Nat) (r : Nat) (h : l[j]? = some r) : (nums l)[j]? = some (.int .i64 (r : Int)) := by simp [nums, h]
theorem nums_one (l : List Nat) : ∀ u ∈ nums l, u.oneCell' = true := by
  intro u hu
  simp only [nums, List.mem_map] at hu
  obtain ⟨r, _, rfl⟩ := hu
  rfl
theorem litR_inj {x y : Nat} (h : litR x = litR y) : x = y := by
  unfold litR at h
  injection h with _ h
  omega
def updT (T : Nat → List Nat) (x : Nat) (ys : List Nat) : Nat → List Nat := fun y => if y = x then ys else T y

/-- Which keys there are, and what lies there. -/
structure AdjOk (keys : List Nat) (v : Nat → Value) (M : Lit → Option Value) (T : Nat → List Nat) : Prop where
  nodup : keys.Nodup
  few : ∀ k ∈ keys, k < 10000
  none_ : ∀ x, x ∉ keys → T x = [] ∧ M (litR x) = none
  some_ : ∀ x ∈ keys, M (litR x) = some (v x)
def adjRow (te : TypeId) (v : Nat → Value) (T : Nat → List Nat) (k : Nat) : Res := rowR te 1 (v k) (T k).length (nums (T k))
/-- The map at block b holds T. -/
def adjR (P : Program) (tk te : TypeId) (b : Nat) (T : Nat → List Nat) : Res :=
  exR fun o : List Nat × (Nat → Value) × (Lit → Option Value) => pureR (AdjOk o.1 o.2.1 o.2.2 T) (starR (gmapR P tk b o.1.length o.2.2 :: o.1.map (adjRow te o.2.1 T)))

section
variable {P : Program} {tk te : TypeId} {w0 w : World} {L K : List Res} {a c : Res} {b x : Nat} {T : Nat → List Nat}
theorem Sep.shutAt2 (S : Sep w0 w (a :: c :: (K ++ L))) : Sep w0 w (a :: c :: starR K :: L) := (Sep.shutHead (K := K) (S.perm (perm_mid [a, c] K L))).perm (perm_mid [starR K] [a, c] L)
theorem Sep.openAt2 (S : Sep w0 w (a :: c :: starR K :: L)) : Sep w0 w (a :: c :: (K ++ L)) := ((S.perm (perm_mid [a, c] [starR K] L)).openHead).perm (perm_mid K [a, c] L)

theorem nodup_len {l : List Nat} (hn : l.Nodup) {n : Nat} (h : ∀ k ∈ l, k < n) : l.length ≤ n := by
  have h1 : l.Perm ((List.range n).filter fun x => decide (x ∈ l)) := (List.perm_ext_iff_of_nodup hn (List.Pairwise.filter _ List.nodup_range)).2 (fun x => by
    rw [List.mem_filter, List.mem_range, decide_eq_true_eq]
    exact ⟨fun hx => ⟨h x hx, hx⟩, fun hx => hx.2⟩)
  rw [h1.length_eq]
  exact Nat.le_trans (List.length_filter_le _ _) (by simp)

theorem adj_shut {keys : List Nat} {v : Nat → Value} {M : Lit → Option Value} (hok : AdjOk keys v M T) (S : Sep w0 w (gmapR P tk b keys.length M :: (keys.map (adjRow te v T) ++ L))) : Sep w0 w (adjR P tk te b T :: L) :=
  (Sep.shutHead (K := gmapR P tk b keys.length M :: keys.map (adjRow te v T)) S).set_ (i := 0) (r' := adjR P tk te b T) rfl (fun F h => ⟨(keys, v, M), hok, h⟩)
theorem adj_new (S : Sep w0 w L) (P : Program) (tk te : TypeId) : Sep w0 (w.alloc (.map #[] 0)) (adjR P tk te w.heap.size (fun _ => []) :: L) :=
  adj_shut (keys := []) (v := fun _ => undef) (M := fun _ => none) ⟨List.nodup_nil, by simp, by simp, by simp⟩ (S.newMapG P tk)

/-- One slice taken out. -/
structure AdjHole (P : Program) (tk te : TypeId) (b x : Nat) (T : Nat → List Nat) (cnt : Nat) (M : Lit → Option Value) (O : Res) : Prop where
  few : cnt ≤ 10000
  same : ∀ (w0 w : World) (L : List Res), Sep w0 w (gmapR P tk b cnt M :: rowR te 1 ((M (litR x)).getD (.slice none 0 0)) (T x).length (nums (T x)) :: O :: L) → Sep w0 w (adjR P tk te b T :: L)
  back : ∀ (w0 w : World) (L : List Res) (v : Value) (ys : List Nat), Sep w0 w (gmapR P tk b (if (M (litR x)).isSome then cnt else cnt + 1) (updG M (litR x) v) :: rowR te 1 v ys.length (nums ys) :: O :: L) → Sep w0 w (adjR P tk te b (updT T x ys) :: L)

theorem adj_out (S : Sep w0 w (adjR P tk te b T :: L)) (x : Nat) (hx : x < 10000) :
    ∃ (cnt : Nat) (M : Lit → Option Value) (O : Res), AdjHole P tk te b x T cnt M O ∧ Sep w0 w (gmapR P tk b cnt M :: rowR te 1 ((M (litR x)).getD (.slice none 0 0)) (T x).length (nums (T x)) :: O :: L) := by
  obtain ⟨⟨keys, v, M⟩, h1⟩ := S.unex 0 rfl
  obtain ⟨hok, h2⟩ := h1.unpure 0 rfl
  dsimp only at hok
  have h3 : Sep w0 w (gmapR P tk b keys.length M :: (keys.map (adjRow te v T) ++ L)) := h2.openHead
  clear h1 h2
  have hcnt := nodup_len hok.nodup hok.few
  have others : ∀ (v' : Value) (ys : List Nat) (l : List Nat), x ∉ l → l.map (adjRow te (fun k => if k = x then v' else v k) (updT T x ys)) = l.map (adjRow te v T) := by
    intro v' ys l hl
    refine List.map_congr_left (fun k hk => ?_)
    have : k ≠ x := fun e => hl (e ▸ hk)
    simp [adjRow, updT, this]
  by_cases hm : x ∈ keys
  · have hp := List.perm_cons_erase hm
    have hnd := hok.nodup
    have hnot : x ∉ keys.erase x := fun h => (List.Nodup.mem_erase_iff hnd).1 h |>.1 rfl
    have hM := hok.some_ x hm
    have hlen : (x :: keys.erase x).length = keys.length := hp.length_eq.symm
    have hO : Sep w0 w (gmapR P tk b keys.length M :: rowR te 1 (v x) (T x).length (nums (T x)) :: starR ((keys.erase x).map (adjRow te v T)) :: L) :=
      Sep.shutAt2 (h3.perm (((hp.map (adjRow te v T)).append_right L).cons _))
    refine ⟨keys.length, M, starR ((keys.erase x).map (adjRow te v T)), ⟨hcnt, ?_, ?_⟩, by rw [hM]; exact hO⟩
    · intro w0 w L h
      rw [hM] at h
      exact adj_shut hok ((Sep.openAt2 h).perm (((hp.symm.map (adjRow te v T)).append_right L).cons _))
    · intro w0 w L v' ys h
      rw [hM] at h
      simp only [Option.isSome_some, if_true] at h
      have h4 := Sep.openAt2 h
      rw [← others v' ys _ hnot] at h4
      refine adj_shut (keys := x :: keys.erase x) (v := fun k => if k = x then v' else v k) (M := updG M (litR x) v') ⟨?_, ?_, ?_, ?_⟩ ?_
      · exact hp.nodup_iff.1 hnd
      · intro k hk; exact hok.few k (hp.mem_iff.2 hk)
      · intro y hy
        have hy' : y ∉ keys := fun h => hy (hp.mem_iff.1 h)
        have hyx : y ≠ x := fun e => hy' (e ▸ hm)
        obtain ⟨h5, h6⟩ := hok.none_ y hy'
        refine ⟨by simp [updT, hyx, h5], ?_⟩
        rw [updG_other _ _ (fun e => hyx (litR_inj e))]
        exact h6
      · intro y hy
        by_cases hyx : y = x
        · subst hyx; rw [updG_same]; simp
        · rw [updG_other _ _ (fun e => hyx (litR_inj e)), if_neg hyx]
          exact hok.some_ y (hp.mem_iff.2 hy)
      · rw [hlen]
        have e : adjRow te (fun k => if k = x then v' else v k) (updT T x ys) x = rowR te 1 v' ys.length (nums ys) := by simp [adjRow, updT]
        rw [List.map_cons, e]
        exact h4
  · obtain ⟨hT, hM⟩ := hok.none_ x hm
    have h4 : Sep w0 w (gmapR P tk b keys.length M :: rowR te 1 (.slice none 0 0) 0 [] :: (keys.map (adjRow te v T) ++ L)) := (h3.nilRow te 1).swap
    refine ⟨keys.length, M, starR (keys.map (adjRow te v T)), ⟨hcnt, ?_, ?_⟩, by rw [hM, hT]; exact Sep.shutAt2 h4⟩
    · intro w0 w L h
      exact adj_shut hok ((Sep.openAt2 h).swap.tail)
    · intro w0 w L v' ys h
      rw [hM] at h
      simp only [Option.isSome_none, Bool.false_eq_true, if_false] at h
      have h4 := Sep.openAt2 h
      rw [← others v' ys _ hm] at h4
      refine adj_shut (keys := x :: keys) (v := fun k => if k = x then v' else v k) (M := updG M (litR x) v') ⟨?_, ?_, ?_, ?_⟩ ?_
      · exact List.nodup_cons.2 ⟨hm, hok.nodup⟩
      · intro k hk
        rcases List.mem_cons.1 hk with rfl | hk
        · exact hx
        · exact hok.few k hk
      · intro y hy
        rw [List.mem_cons, not_or] at hy
        obtain ⟨h5, h6⟩ := hok.none_ y hy.2
        refine ⟨by simp [updT, hy.1, h5], ?_⟩
        rw [updG_other _ _ (fun e => hy.1 (litR_inj e))]
        exact h6
      · intro y hy
        by_cases hyx : y = x
        · subst hyx; rw [updG_same]; simp
        · rw [updG_other _ _ (fun e => hyx (litR_inj e)), if_neg hyx]
          rcases List.mem_cons.1 hy with h | h
          · exact absurd h hyx
          · exact hok.some_ y h
      · have e : adjRow te (fun k => if k = x then v' else v k) (updT T x ys) x = rowR te 1 v' ys.length (nums ys) := by simp [adjRow, updT]
        rw [List.map_cons, e]
        exact h4
end
end Go.Proofs.YtbcabjpafeocgaaGreat

/-
  Graphs of objects: what layer 11's Made makes, as plain data, and the contracts of layer 4 in these words. Conditions: as each theorem says.
-/
namespace Go.Proofs.YtbcabjpafeocgaaGreat
set_option linter.unusedVariables false
set_option linter.unusedSimpArgs false
open Go.RowKit Go.Shelf

/-- The objects rs, all that there are in an arena of 64 pages, and their fields. -/
structure Gr (A : AR) (rs : List Nat) (fs : Nat → List Nat) : Prop where
  heap : Heap A (fun x => x ∈ rs) fs
  nodup : rs.Nodup
  total : A.total = rs.length
  n : A.n = 64
  out : ∀ x, x ∉ rs → fs x = []
  fresh : FreshA A
  clsf : ∀ x ∈ rs, A.cls ((x - 1) / 32) = classZ ((fs x).length : Int)

def ints2 (l : List Nat) : List Int := l.map fun (y : Nat) => (y : Int)
theorem ints2_set (l : List Nat) (j y : Nat) : ints2 (l.set j y) = (ints2 l).set j (y : Int) := by simp [ints2, List.map_set]

section
variable {A A' : AR} {O : Nat → Prop} {rs : List Nat} {fs : Nat → List Nat} {r : Nat}

theorem gr_none (ids : Nat × Nat × Nat) (hw : (AR.new 64 ids).Wf) : Gr (AR.new 64 ids) [] (fun _ => []) :=
  ⟨⟨hw, by simp, by simp⟩, List.nodup_nil, by rw [(new_total 64 ids (by omega)).1]; rfl, (new_total 64 ids (by omega)).2.1, by simp, FreshA.none ((hw.empty (new_total 64 ids (by omega)).2.2).1), by simp⟩
theorem Gr.size (h : Gr A rs fs) : A.size = ((2049 : Nat) : Int) := by
  have := h.n
  unfold AR.size
  rw [this]
theorem Gr.room (h : Gr A rs fs) (hl : rs.length < 64) : A.total < (A.n : Int) := by
  rw [h.total, h.n]
  omega
theorem Gr.born {n : Nat} (h : Gr A rs fs) (hN : NewIs A n r A') : Gr A' (rs ++ [r]) (updT fs r (List.replicate n 0)) := by
  have hr : r ∉ rs := by
    intro hm
    obtain ⟨x, ho⟩ := h.heap.obj r hm
    exact (hN.old _ _ _ ho).2 rfl
  refine ⟨⟨hN.wf, ?_, ?_⟩, ?_, ?_, hN.n.trans h.n, ?_, hN.fresh h.fresh, ?_⟩
  · intro y hy
    rcases List.mem_append.1 hy with h1 | h1
    · obtain ⟨x, ho⟩ := h.heap.obj y h1
      have hne : y ≠ r := fun e => hr (e ▸ h1)
      refine ⟨x, ?_⟩
      simp only [updT, hne, if_false]
      exact (hN.old _ _ _ ho).1
    · simp at h1; subst h1
      refine ⟨0, ?_⟩
      simp only [updT, if_true, List.map_replicate]
      exact hN.obj
  · intro y hy z hz
    rcases List.mem_append.1 hy with h1 | h1
    · have hne : y ≠ r := fun e => hr (e ▸ h1)
      simp only [updT, hne, if_false] at hz
      rcases h.heap.closed y h1 z hz with h2 | h2
      · exact .inl h2
      · exact .inr (List.mem_append.2 (.inl h2))
    · simp at h1; subst h1
      simp only [updT, if_true] at hz
      exact .inl (List.mem_replicate.1 hz).2
  · rw [List.nodup_append]
    refine ⟨h.nodup, by simp, ?_⟩
    intro y hy z hz e
    simp at hz
    subst hz
    exact hr (e ▸ hy)
  · rw [hN.total, h.total]; simp
  · intro y hy
    rw [List.mem_append, not_or] at hy
    have hne : y ≠ r := fun e => hy.2 (by simp [e])
    simp only [updT, hne, if_false]
    exact h.out y hy.1
  · intro y hy
    rw [hN.cls]
    rcases List.mem_append.1 hy with h1 | h1
    · have hne : y ≠ r := fun e => hr (e ▸ h1)
      simp only [updT, hne, if_false]
      unfold updN
      by_cases e : (y - 1) / 32 = (r - 1) / 32
      · rw [if_pos e, ← h.clsf y h1, e]
        rcases hN.was with hw | hw
        · exact hw.symm
        · obtain ⟨x, ho⟩ := h.heap.obj y h1
          obtain ⟨q, k, hq, h0, _, hk, he, _, _, hdiv⟩ := h.heap.wf.at_ ho.tk
          rw [← e, hdiv] at hw
          omega
      · rw [if_neg e]; exact h.clsf y h1
    · simp at h1; subst h1
      simp [updN, updT]

theorem Heap.store (h : Heap A O fs) (hr : O r) (hS : StoreIs A r A') {x : Int} {l : List Nat} (ho : Obj A' r (ints2 l) x) (hl : ∀ y ∈ l, y = 0 ∨ O y) : Heap A' O (updT fs r l) := by
  refine ⟨hS.wf, ?_, ?_⟩
  · intro y hy
    by_cases e : y = r
    · subst e
      refine ⟨x, ?_⟩
      simp only [updT, if_true]
      exact ho
    · obtain ⟨x', ho'⟩ := h.obj y hy
      refine ⟨x', ?_⟩
      simp only [updT, e, if_false]
      exact hS.old _ _ _ e ho'
  · intro y hy z hz
    by_cases e : y = r
    · subst e
      simp only [updT, if_true] at hz
      exact hl z hz
    · simp only [updT, e, if_false] at hz
      exact h.closed y hy z hz
theorem Gr.store (h : Gr A rs fs) (hr : r ∈ rs) (hS : StoreIs A r A') {l : List Nat} (hH : Heap A' (fun x => x ∈ rs) (updT fs r l)) (hll : l.length = (fs r).length := by simp) : Gr A' rs (updT fs r l) :=
  ⟨hH, h.nodup, hS.total.trans h.total, hS.n.trans h.n, fun x hx => by
    have hne : x ≠ r := fun e => hx (e ▸ hr)
    simp only [updT, hne, if_false]
    exact h.out x hx, h.fresh.same hS.n hS.cls hS.tk, fun x hx => by
    rw [hS.cls, h.clsf x hx]
    by_cases e : x = r
    · subst e; simp only [updT, if_true]; rw [hll]
    · simp only [updT, e, if_false]⟩
/-- The objects have as many fields as the numbers say. -/
def Lens (D : Nat → Nat → Int) (rs : List Nat) (fs : Nat → List Nat) : Prop := ∀ (j x : Nat), rs[j]? = some x → ((fs x).length : Int) = D j 0 % 7
theorem lens_nil (D : Nat → Nat → Int) (fs : Nat → List Nat) : Lens D [] fs := fun j x h => by simp at h
theorem Lens.born {D : Nat → Nat → Int} {n k : Nat} (hL : Lens D rs fs) (h : Gr A rs fs) (hN : NewIs A n r A') (hk : rs.length = k) (hd : D k 0 % 7 = (n : Int)) : Lens D (rs ++ [r]) (updT fs r (List.replicate n 0)) := by
  intro j x hx
  have hr : r ∉ rs := by
    intro hm
    obtain ⟨z, ho⟩ := h.heap.obj r hm
    exact (hN.old _ _ _ ho).2 rfl
  by_cases e : j < rs.length
  · rw [List.getElem?_append_left e] at hx
    have hne : x ≠ r := fun e2 => hr (e2 ▸ List.mem_of_getElem? hx)
    simp only [updT, hne, if_false]
    exact hL j x hx
  · rw [List.getElem?_append_right (by omega)] at hx
    obtain ⟨h1, h2⟩ := List.getElem?_eq_some_iff.1 hx
    simp at h1 h2
    have : j = k := by omega
    subst h2
    subst this
    simp [updT, hd]
theorem Lens.store {D : Nat → Nat → Int} (hL : Lens D rs fs) (r j y : Nat) : Lens D rs (updT fs r ((fs r).set j y)) := by
  intro i x hx
  by_cases e : x = r
  · subst e; simp only [updT, if_true, List.length_set]; exact hL i x hx
  · simp only [updT, e, if_false]; exact hL i x hx
theorem Gr.ptsIn (h : Gr A rs fs) : ∀ x ∈ rs, ∀ y ∈ ptsOf fs x, y ∈ rs := fun x hx => h.heap.pts hx
theorem Gr.ptsOut (h : Gr A rs fs) {x : Nat} (hx : x ∉ rs) : ptsOf fs x = [] := by unfold ptsOf; rw [h.out x hx]; rfl
end

section
variable {w0 w : World} {L : List Res} {i a : Nat} {A : AR} {O : Nat → Prop} {fs : Nat → List Nat} {r : Nat}
theorem HFields (S : Sep w0 w L) (i : Nat) (hi : L[i]? = some (arenaR a A)) (h : Heap A O fs) (hr : O r) :
    Calls Tryz.prog 33 #[.pointer (some ⟨a, 0, none⟩), .int .i64 (r : Int)] w fun e w' => e = .returned (.int .i64 ((fs r).length : Int)) ∧ Sep w0 w' L := by
  obtain ⟨x, ho⟩ := h.obj r hr
  have := OFields S i hi h.wf ho
  rw [List.length_map] at this
  exact this
theorem HField (S : Sep w0 w L) (i : Nat) (hi : L[i]? = some (arenaR a A)) (h : Heap A O fs) (hr : O r) (j y : Nat) (hj : (fs r)[j]? = some y) :
    Calls Tryz.prog 63 #[.pointer (some ⟨a, 0, none⟩), .int .i64 (r : Int), .int .i64 (j : Int)] w fun e w' => e = .returned (.tuple #[.int .i64 (y : Int), .int .i64 0]) ∧ Sep w0 w' L := by
  obtain ⟨x, ho⟩ := h.obj r hr
  exact OField S i hi h.wf ho j (y : Int) (by rw [List.getElem?_map, hj]; rfl)
theorem HSetField (S : Sep w0 w L) (i : Nat) (hi : L[i]? = some (arenaR a A)) (h : Heap A O fs) (hr : O r) (j y : Nat) (hj : j < (fs r).length) (hy : y = 0 ∨ O y) :
    Calls Tryz.prog 44 #[.pointer (some ⟨a, 0, none⟩), .int .i64 (r : Int), .int .i64 (j : Int), .int .i64 (y : Int)] w fun e w' => ∃ A' : AR, e = .returned (.int .i64 0) ∧ Sep w0 w' (L.set i (arenaR a A')) ∧ StoreIs A r A' ∧ Heap A' O (updT fs r ((fs r).set j y)) := by
  obtain ⟨x, ho⟩ := h.obj r hr
  refine (OSetField S i hi h.wf ho j (by simpa using hj) (y : Int)).mono ?_
  rintro e w' ⟨A', rfl, hs, hS, ho'⟩
  refine ⟨A', rfl, hs, hS, h.store hr hS (x := x) (l := (fs r).set j y) (by rw [ints2_set]; exact ho') ?_⟩
  intro z hz
  rcases List.mem_or_eq_of_mem_set hz with h1 | rfl
  · exact h.closed r hr z h1
  · exact hy
end
end Go.Proofs.YtbcabjpafeocgaaGreat

/-
  The marker (layer 11): all are white again. Conditions: as each contract says.
-/
namespace Go.Proofs.YtbcabjpafeocgaaGreat
set_option linter.unusedVariables false
set_option linter.unusedSimpArgs false
open Go.RowKit Go.Shelf

/-- All are white. -/
def Col.white : Col := ⟨fun _ => false, fun _ => false⟩

section
variable {w0 w : World} {L : List Res} {i m a n : Nat} {C : Col}
theorem grey_white {room : Nat} : Grey Col.white [] room false := by
  constructor <;> simp [Col.white, Col.grey]
theorem ok_white {o : Own3} (ho : MarkOk n o C) : MarkOk n { o with gs := [], over := false } Col.white :=
  ⟨grey_white, ho.room, ho.few, by simp, by simp [Col.white], by simp [Col.white], ho.size⟩
theorem KReset (S : Sep w0 w L) (i : Nat) (hi : L[i]? = some (markR m a n C)) : Calls Tryz.prog 36 #[.pointer (some ⟨m, 0, none⟩)] w fun e w' => e = .returned (.tuple #[]) ∧ Sep w0 w' (L.set i (markR m a n Col.white)) := by
  obtain ⟨o, ho, hs⟩ := mark_open S i hi
  have c1 := (hs.blk 0 rfl).cell 1
  simp only [List.getElem?_toArray, List.getElem?_cons_zero, List.getElem?_cons_succ] at c1
  have HI := Lib.hid hi
  have HO := Lib.hid ho
  have HC := Lib.hid (TSReset hs 1 rfl (by have := ho.size; omega))
  clear hs ho S hi
  go_enter Tryz.func36, Tryz.ntmps36
  go_wp2_with (first
    | (go_at_call 66; refine HC.out.mono ?_; rintro e w1 ⟨rfl, hs⟩; have c2 := (hs.blk 0 rfl).cell 2; simp only [List.getElem?_toArray, List.getElem?_cons_zero, List.getElem?_cons_succ] at c2; have HC2 := Lib.hid (TSReset hs 2 rfl (by have := HO.out.size; omega)); clear hs HC)
    | (go_at_call 66; refine HC2.out.mono ?_; rintro e w2 ⟨rfl, hs⟩; have c3 := (hs.blk 0 rfl).cell 3; simp only [List.getElem?_toArray, List.getElem?_cons_zero, List.getElem?_cons_succ] at c3; have HC3 := Lib.hid (TGReset hs 3 rfl); clear hs HC2)
    | (go_at_call 67; refine HC3.out.mono ?_; rintro e w3 ⟨rfl, hs⟩; have HS := Lib.hid hs; clear hs HC3))
  go_end0
  exact ⟨rfl, mark_shut (ok_white HO.out) HS.out HI.out⟩
end
end Go.Proofs.YtbcabjpafeocgaaGreat

/-
  The marker's iterator over what is marked (layer 11). Conditions: as the theorem says.
-/
namespace Go.Proofs.YtbcabjpafeocgaaGreat
set_option linter.unusedVariables false
set_option linter.unusedSimpArgs false
open Go.RowKit Go.Shelf
attribute [local go_sem] Oper.semAt_some wide_fn round_fn wide_depth round_depth
attribute [local simp] wide_fn round_fn wide_depth round_depth

section
variable {w0 w : World} {L : List Res}
theorem KAll (S : Sep w0 w L) (m : Nat) : Calls Tryz.prog 35 #[.pointer (some ⟨m, 0, none⟩)] w fun e w' => e = .returned (.func (.func 64) #[] #[.pointer (some ⟨w.heap.size, 0, none⟩)]) ∧ Sep w0 w' (blkR w.heap.size 32 #[.pointer (some ⟨m, 0, none⟩)] :: L) := by
  have hmf : ∀ (fn : Fn) (first cap : Array Value) (w : World), (Instr.makeFunc fn first cap).run Tryz.prog w = .ok (.func fn first cap) w := fun _ _ _ _ => rfl
  have H := Lib.hid S
  clear S
  go_enter Tryz.func35, Tryz.ntmps35
  go_wp2_with fail
  go_ret
  exact ⟨rfl, H.out.alloc _⟩
end

set_option maxHeartbeats 2000000 in
theorem mark_iter (B m a b1 b2 b3 n : Nat) (S : Nat → Bool) (hn : n ≤ 100000) :
    Iter Tryz.prog 64 #[.pointer (some ⟨B, 0, none⟩)] (fun i : Nat => #[.int .i64 (i : Int)]) (elems n S) (fun _ => [blkR B 32 #[.pointer (some ⟨m, 0, none⟩)], blkR m 91 #[.pointer (some ⟨a, 0, none⟩), .pointer (some ⟨b1, 0, none⟩), .pointer (some ⟨b2, 0, none⟩), .pointer (some ⟨b3, 0, none⟩)], setR b1 (n : Int) S]) := by
  intro l w0 Φ Φx W R hY h0 hS
  dsimp only [List.cons_append, List.nil_append] at hY hS
  have HY := Lib.hid hY
  have HS := Lib.hid hS
  have H0 := Lib.hid h0
  have hb := (hS.blk 0 rfl).cell 0
  have hc := (hS.blk 1 rfl).cell 1
  have hbl := Lib.hid (hS.blk 0 rfl).lt
  have hal := Lib.hid (hS.blk 1 rfl).lt
  simp at hb hc
  have ab : ∀ o : Go.Obj, (W.alloc o).cell? ⟨B, 0, none⟩ = some (.pointer (some ⟨m, 0, none⟩)) := fun o => (World.cell?_alloc_past _ _ _ hbl.out).trans hb
  have ac : ∀ o : Go.Obj, (W.alloc o).cell? ⟨m, 1, none⟩ = some (.pointer (some ⟨b1, 0, none⟩)) := fun o => (World.cell?_alloc_past _ _ _ hal.out).trans hc
  clear hY h0 hS hb hc
  refine calls_wide ?_
  refine callsIn_of_wp_marks Tryz.func64 rfl trivial ?_
  simp only [Tryz.ntmps64, List.size_toArray, List.length_cons, List.length_nil, Nat.reduceAdd, Nat.reduceSub, Array.replicate_succ, Array.replicate_zero, List.push_toArray, List.append_toArray, List.nil_append, List.cons_append]
  gi_wp2_with (gi_at_call 65; refine (calls_in (TSAll (HS.out.alloc _) b1)).mono ?_; rintro e w1 ⟨rfl, hs⟩; have HS1 := Lib.hid hs; clear hs)
  have hS1 := HS1.out
  simp only [World.size_alloc] at hS1 ⊢
  have HSA := Lib.hid ((hS1.lift 4 rfl).lift 1 rfl)
  clear hS1 HS1 HS ab ac hbl hal
  obtain ⟨Y, hY0⟩ : ∃ Y, W.heap.size = Y := ⟨_, rfl⟩
  rw [hY0] at HSA ⊢
  clear hY0
  refine wp_range (gf := 92) (lb := #[.pointer (some ⟨Y + 1, 0, none⟩)]) rfl (enters_of Tryz.func92 (by kernel_rfl) rfl) (set_iter (Y + 1) b1 n S hn) (fun _ => rfl)
    (R := blkR Y 35 #[.func (.yield l) #[] #[]] :: blkR B 32 #[.pointer (some ⟨m, 0, none⟩)] :: blkR m 91 #[.pointer (some ⟨a, 0, none⟩), .pointer (some ⟨b1, 0, none⟩), .pointer (some ⟨b2, 0, none⟩), .pointer (some ⟨b3, 0, none⟩)] :: R) HSA.out
    (fun pre Rs => ∃ R', Rs = blkR Y 35 #[.func (.yield l) #[] #[]] :: blkR B 32 #[.pointer (some ⟨m, 0, none⟩)] :: blkR m 91 #[.pointer (some ⟨a, 0, none⟩), .pointer (some ⟨b1, 0, none⟩), .pointer (some ⟨b2, 0, none⟩), .pointer (some ⟨b3, 0, none⟩)] :: R' ∧ Φ pre R')
    (fun c pre Rs => c = .ret ∧ ∃ R', Rs = blkR Y 35 #[.func (.yield l) #[] #[]] :: blkR B 32 #[.pointer (some ⟨m, 0, none⟩)] :: blkR m 91 #[.pointer (some ⟨a, 0, none⟩), .pointer (some ⟨b1, 0, none⟩), .pointer (some ⟨b2, 0, none⟩), .pointer (some ⟨b3, 0, none⟩)] :: R' ∧ Φx pre R')
    ⟨R, rfl, H0.out⟩ ?round ?done ?stop
  case round =>
    rintro l1 D pre x _ G W1 r hpre ⟨R1, rfl, hΦ⟩ hS1
    simp only [List.cons_append, List.nil_append] at hS1
    have HPRE := Lib.hid hpre
    have HP := Lib.hid hΦ
    have HS1 := Lib.hid hS1
    clear hpre hΦ hS1 H0 HSA
    gi_wp2
    refine ⟨[], HS1.out, ?_⟩
    intro r' W2 hS2
    simp only [List.cons_append, List.nil_append] at hS2
    have hy0 := (hS2.blk 4 rfl).cell 0
    simp at hy0
    have hS3 : Sep w0 W2 (blkR B 32 #[.pointer (some ⟨m, 0, none⟩)] :: blkR m 91 #[.pointer (some ⟨a, 0, none⟩), .pointer (some ⟨b1, 0, none⟩), .pointer (some ⟨b2, 0, none⟩), .pointer (some ⟨b3, 0, none⟩)] :: setR b1 (n : Int) S :: blkR (Y + 1) 86 #[.pointer (some ⟨b1, 0, none⟩)] :: objR l1 (.loop r') :: objR D (.deferred (some [])) :: blkR Y 35 #[.func (.yield l) #[] #[]] :: (R1 ++ G)) := hS2.front 7 [5, 6, 1, 0, 2, 3, 4]
    have hS4 := hS3.perm ((((perm_mid [blkR (Y + 1) 86 #[.pointer (some ⟨b1, 0, none⟩)], objR l1 (.loop r'), objR D (.deferred (some [])), blkR Y 35 #[.func (.yield l) #[] #[]]] R1 G).cons _).cons _).cons _)
    obtain ⟨fn, tmps, assign, body, hy, hR⟩ := HY.out pre x R1 _ W2 HPRE.out HP.out hS4
    have HR := Lib.hid (show RoundIn (Fence.wide.inRound l1) 0 Tryz.prog l fn tmps assign body W2 _ from hR)
    clear hR hS2 hS3 hS4
    have back : ∀ (R2 : List Res) (W3 : World), Sep w0 W3 (blkR B 32 #[.pointer (some ⟨m, 0, none⟩)] :: blkR m 91 #[.pointer (some ⟨a, 0, none⟩), .pointer (some ⟨b1, 0, none⟩), .pointer (some ⟨b2, 0, none⟩), .pointer (some ⟨b3, 0, none⟩)] :: setR b1 (n : Int) S :: (R2 ++ ([blkR (Y + 1) 86 #[.pointer (some ⟨b1, 0, none⟩)], objR l1 (.loop r'), objR D (.deferred (some [])), blkR Y 35 #[.func (.yield l) #[] #[]]] ++ G))) → Sep w0 W3 (blkR (Y + 1) 86 #[.pointer (some ⟨b1, 0, none⟩)] :: setR b1 (n : Int) S :: objR l1 (.loop r') :: objR D (.deferred (some [])) :: blkR Y 35 #[.func (.yield l) #[] #[]] :: blkR B 32 #[.pointer (some ⟨m, 0, none⟩)] :: blkR m 91 #[.pointer (some ⟨a, 0, none⟩), .pointer (some ⟨b1, 0, none⟩), .pointer (some ⟨b2, 0, none⟩), .pointer (some ⟨b3, 0, none⟩)] :: (R2 ++ G)) := fun R2 W3 h => by
      have h1 : Sep w0 W3 (blkR B 32 #[.pointer (some ⟨m, 0, none⟩)] :: blkR m 91 #[.pointer (some ⟨a, 0, none⟩), .pointer (some ⟨b1, 0, none⟩), .pointer (some ⟨b2, 0, none⟩), .pointer (some ⟨b3, 0, none⟩)] :: setR b1 (n : Int) S :: blkR (Y + 1) 86 #[.pointer (some ⟨b1, 0, none⟩)] :: objR l1 (.loop r') :: objR D (.deferred (some [])) :: blkR Y 35 #[.func (.yield l) #[] #[]] :: (R2 ++ G)) := h.perm ((((perm_mid R2 [blkR (Y + 1) 86 #[.pointer (some ⟨b1, 0, none⟩)], objR l1 (.loop r'), objR D (.deferred (some [])), blkR Y 35 #[.func (.yield l) #[] #[]]] G).cons _).cons _).cons _)
      exact h1.front 7 [3, 2, 4, 5, 6, 0, 1]
    have BACK := Lib.hid back
    clear back
    gi_wp2
    refine HR.out.mono ?_
    rintro e W3 (⟨rfl, R2, hΦ2, hS5⟩ | ⟨rfl, R2, hΦ2, hS5⟩)
    · have HS5 := Lib.hid (BACK.out _ _ hS5)
      have HP2 := Lib.hid hΦ2
      clear hS5 hΦ2
      gi_wp2
      exact ⟨_, ⟨R2, rfl, HP2.out⟩, HS5.out⟩
    · have HS5 := Lib.hid (BACK.out _ _ hS5)
      have HP2 := Lib.hid hΦ2
      clear hS5 hΦ2
      gi_wp2
      exact ⟨_, ⟨rfl, R2, rfl, HP2.out⟩, HS5.out⟩
  case done =>
    rintro D _ W1 ⟨R1, rfl, hΦ⟩ hS1
    gi_wp2
    refine leaves_mark hS1 (i := 2) rfl (fun _ => results_none rfl _ _ _) ?_
    intro w' hS2
    refine ⟨⟨_, rfl⟩, .inl ⟨R1, hΦ, ?_⟩⟩
    have h' : Sep w0 w' ([blkR B 32 #[.pointer (some ⟨m, 0, none⟩)], blkR m 91 #[.pointer (some ⟨a, 0, none⟩), .pointer (some ⟨b1, 0, none⟩), .pointer (some ⟨b2, 0, none⟩), .pointer (some ⟨b3, 0, none⟩)], setR b1 (n : Int) S] ++ ([blkR (Y + 1) 86 #[.pointer (some ⟨b1, 0, none⟩)], objR D (.deferred none), blkR Y 35 #[.func (.yield l) #[] #[]]] ++ R1)) := hS2.front 6 [4, 5, 1, 0, 2, 3]
    exact (h'.perm (perm_mid _ _ _)).right
  case stop =>
    rintro D c pre _ W1 hpre ⟨rfl, R1, rfl, hΦ⟩ hS1
    gi_wp2
    refine leaves_mark hS1 (i := 2) rfl (fun _ => results_none rfl _ _ _) ?_
    intro w' hS2
    refine ⟨⟨_, rfl⟩, .inr ⟨pre, R1, hpre, hΦ, ?_⟩⟩
    have h' : Sep w0 w' ([blkR B 32 #[.pointer (some ⟨m, 0, none⟩)], blkR m 91 #[.pointer (some ⟨a, 0, none⟩), .pointer (some ⟨b1, 0, none⟩), .pointer (some ⟨b2, 0, none⟩), .pointer (some ⟨b3, 0, none⟩)], setR b1 (n : Int) S] ++ ([blkR (Y + 1) 86 #[.pointer (some ⟨b1, 0, none⟩)], objR D (.deferred none), blkR Y 35 #[.func (.yield l) #[] #[]]] ++ R1)) := hS2.front 6 [4, 5, 1, 0, 2, 3]
    exact (h'.perm (perm_mid _ _ _)).right
end Go.Proofs.YtbcabjpafeocgaaGreat

/-
  The return of a function whose result lies in a box. Conditions: as each theorem says.
-/
namespace Go.Proofs.YtbcabjpafeocgaaGreat
set_option linter.unusedVariables false
set_option linter.unusedSimpArgs false
open Go.RowKit Go.Shelf

theorem results_bool {fn : Func} {s : Tmp} (h : fn.results = #[.cell s 4]) {tmps : Array Value} {w : World} {b : Nat} {x : Bool} (hp : tmps.getD s undef = .pointer (some ⟨b, 0, none⟩)) (hc : w.cell? ⟨b, 0, none⟩ = some (.bool x)) :
    (results fn tmps).run Tryz.prog w = .ok (.bool x) w := by
  have hp' : tmps[s]?.getD undef = .pointer (some ⟨b, 0, none⟩) := by simpa using hp
  simp [results, h, hp', go_sem, hc]

/-- The return of a function that held a loop over a function. -/
theorem leaves_box {fn : Func} {tmps : Array Value} {D : Nat} {w0 w : World} {L : List Res} {Rt : Ending → World → Prop} {s : Tmp} {b : Nat} {x : Bool} (S : Sep w0 w L) (i : Nat) (hi : L[i]? = some (objR D (.deferred (some [])))) (j : Nat) (hj : L[j]? = some (blkR b 4 #[.bool x])) (hne : i ≠ j)
    (h : fn.results = #[.cell s 4]) (hp : tmps.getD s undef = .pointer (some ⟨b, 0, none⟩)) (hR : ∀ w', Sep w0 w' (L.set i (objR D (.deferred none))) → Rt (.returned (.bool x)) w') :
    LeavesInM Fence.wide 0 Tryz.prog fn tmps Rt [{ target := .collected D, args := #[] }] .returning w := by
  have S' := S.putObj i hi (.deferred none)
  refine ⟨by simp, .inl ⟨D, _, rfl, run_takeDeferred (S.obj hi), ?_⟩⟩
  have hc := (S'.blk j (by rw [List.getElem?_set_ne hne]; exact hj)).cell 0
  simp only [List.getElem?_toArray, List.getElem?_cons_zero] at hc
  exact ⟨_, results_bool h hp hc, hR _ S'⟩
theorem leaves_box0 {fn : Func} {tmps : Array Value} {w0 w : World} {L : List Res} {Rt : Ending → World → Prop} {s : Tmp} {b : Nat} {x : Bool} (S : Sep w0 w L) (j : Nat) (hj : L[j]? = some (blkR b 4 #[.bool x]))
    (h : fn.results = #[.cell s 4]) (hp : tmps.getD s undef = .pointer (some ⟨b, 0, none⟩)) (hR : Rt (.returned (.bool x)) w) :
    LeavesInM Fence.wide 0 Tryz.prog fn tmps Rt [] .returning w := by
  have hc := (S.blk j hj).cell 0
  simp only [List.getElem?_toArray, List.getElem?_cons_zero] at hc
  exact ⟨_, results_bool h hp hc, hR⟩
end Go.Proofs.YtbcabjpafeocgaaGreat
