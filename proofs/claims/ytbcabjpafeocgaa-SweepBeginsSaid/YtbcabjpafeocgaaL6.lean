/-
  Parts of the proof, joined: SweepP, SweepLaw, Fit18, SweepBare, SweepBeginsW. Conditions: as each part says.
-/
import Derived.Test.YtbcabjpafeocgaaL5
import Derived.Test.YtbcabjpafeocgaaL4
import Derived.Test.YtbcabjpafeocgaaL1

/-
  What sweeping does, as plain data (layer 18). Conditions: as each theorem says; no walk.
-/
namespace Go.Proofs.Ytbcabjpafeocgaa
set_option linter.unusedVariables false
set_option linter.unusedSimpArgs false
open Go.RowKit Go.Shelf

section
variable {A : AR} {C : Col}
theorem AR.Wf.cls_none (h : A.Wf) {p : Nat} (hp : p < A.n) : A.cls p = -1 ↔ ∀ x, A.tk x = true → (x - 1) / 32 ≠ p := by
  constructor
  · intro hc x hx e
    obtain ⟨q, k, hq, h0, _, hk, he, _, _, hdiv⟩ := h.at_ hx
    have : q = p := by omega
    subst this
    omega
  · intro hx
    rcases h.cls p hp with h1 | h1
    · exact h1
    · have h2 := h.some_ p hp h1.1
      rw [h.cnt p hp, countP_none (fun k hk => ?_)] at h2
      · simp at h2
      · simp at hk
        cases e : A.tk (refN p (A.cls p) k) with
        | false => rfl
        | true => exact absurd (ref_in (p := p) hk).2.2.2.1 (hx _ e)
theorem give_total (h : A.Wf) {r : Nat} (hr : A.tk r = true) : (A.give (r : Int)).total = A.total - 1 := by
  have h1 := elems_length (h.give_wf (r : Int))
  have h2 := elems_length h
  rw [give_n, give_tk A r (by rw [h.has]; exact hr)] at h1
  have h3 := (h.lt hr).2.1
  have h4 : (elems (A.n * 32 + 1) fun j => A.tk j && !decide (j = r)).length + 1 = (elems (A.n * 32 + 1) A.tk).length := by
    unfold elems
    rw [← List.countP_eq_length_filter, ← List.countP_eq_length_filter]
    refine (countP_up h3 ?_ hr ?_).symm
    · simp
    · intro x _ hne; simp [hne]
  omega
theorem gives_cons (A : AR) (a : Nat) (l : List Nat) : A.gives (a :: l) = (A.give (a : Int)).gives l := rfl
theorem gives_tk (h : A.Wf) : ∀ {l : List Nat}, l.Nodup → (∀ x ∈ l, A.tk x = true) → ∀ x, (A.gives l).tk x = (A.tk x && !decide (x ∈ l)) := by
  intro l
  induction l generalizing A with
  | nil => intro _ _ x; simp [AR.gives]
  | cons a l ih =>
    intro hn ht x
    rw [List.nodup_cons] at hn
    have ha := ht a (by simp)
    have htk := give_tk A a (by rw [h.has]; exact ha)
    rw [gives_cons, ih (h.give_wf _) hn.2 (fun y hy => by
      rw [htk]
      have hne : y ≠ a := fun e => hn.1 (e ▸ hy)
      simp [hne, ht y (by simp [hy])]) x, htk]
    by_cases e : x = a <;> by_cases e2 : x ∈ l <;> simp [e, e2]
theorem gives_total (h : A.Wf) : ∀ {l : List Nat}, l.Nodup → (∀ x ∈ l, A.tk x = true) → (A.gives l).total = A.total - (l.length : Int) := by
  intro l
  induction l generalizing A with
  | nil => intro _ _; simp [AR.gives]
  | cons a l ih =>
    intro hn ht
    rw [List.nodup_cons] at hn
    have ha := ht a (by simp)
    have htk := give_tk A a (by rw [h.has]; exact ha)
    rw [gives_cons, ih (h.give_wf _) hn.2 (fun y hy => by
      rw [htk]
      have hne : y ≠ a := fun e => hn.1 (e ▸ hy)
      simp [hne, ht y (by simp [hy])]), give_total h ha, List.length_cons]
    push_cast
    omega
theorem gives_cls (h : A.Wf) : ∀ (l : List Nat) (q : Nat), (A.gives l).cls q = A.cls q ∨ (A.gives l).cls q = -1 := by
  intro l
  induction l generalizing A with
  | nil => intro q; exact .inl rfl
  | cons a l ih =>
    intro q
    rw [gives_cons]
    rcases ih (h.give_wf (a : Int)) q with h1 | h1
    · rw [h1]
      unfold AR.give
      split
      · unfold AR.drop
        dsimp only
        split
        · unfold updN
          split
          · exact .inr rfl
          · exact .inl rfl
        · exact .inl rfl
      · exact .inl rfl
    · exact .inr h1
theorem cells_nodup (A : AR) (p : Int) : (A.cellsOf p).Nodup := (cellsOf_sorted A p).imp fun {a b} h e => by omega
theorem whites_nodup {l : List Nat} (h : l.Nodup) : (C.whites l).Nodup := h.filter _
theorem mem_whites {l : List Nat} {x : Nat} : x ∈ C.whites l ↔ x ∈ l ∧ C.mz x = false := by unfold Col.whites; simp
theorem white_whites (l : List Nat) : Col.white.whites l = l := by
  unfold Col.whites
  refine List.filter_eq_self.2 (fun x _ => rfl)
theorem white_forgets (l : List Nat) : Col.white.forgets l = Col.white := Col.ext (fun x => rfl) (fun x => rfl)

/-- Pages below pg of A0, marked as C0 says, were swept. -/
structure Swept (A0 : AR) (C0 : Col) (A : AR) (C : Col) (pg : Nat) : Prop where
  wf : A.Wf
  n : A.n = A0.n
  ids : A.ids = A0.ids
  tk : ∀ x, A.tk x = (A0.tk x && (C0.mz x || decide (pg ≤ (x - 1) / 32)))
  mz : ∀ x, C.mz x = (C0.mz x && !(A0.tk x && decide ((x - 1) / 32 < pg)))
  sc : ∀ x, C.sc x = true → C.mz x = true
  cls : ∀ q, A.cls q = A0.cls q ∨ A.cls q = -1
variable {A0 : AR} {C0 : Col} {pg : Nat}
theorem Swept.start (h : A.Wf) (hs : ∀ x, C.sc x = true → C.mz x = true) : Swept A C A C 0 :=
  ⟨h, rfl, rfl, fun x => by simp, fun x => by simp, hs, fun q => .inl rfl⟩
theorem gives_ids (A : AR) (l : List Nat) : (A.gives l).ids = A.ids := by
  induction l generalizing A with
  | nil => rfl
  | cons a l ih => rw [gives_cons, ih, give_ids]
theorem Swept.next (h : Swept A0 C0 A C pg) (hpg : pg < A.n) : Swept A0 C0 (A.gives (C.whites (A.cellsOf (pg : Int)))) (C.forgets (A.cellsOf (pg : Int))) (pg + 1) := by
  have hnd := whites_nodup (C := C) (cells_nodup A (pg : Int))
  have hin : ∀ x ∈ C.whites (A.cellsOf (pg : Int)), A.tk x = true := fun x hx => ((mem_cellsOf h.wf hpg).1 (mem_whites.1 hx).1).1
  refine ⟨gives_wf h.wf _, (gives_n A _).trans h.n, (gives_ids A _).trans h.ids, fun x => ?_, fun x => ?_, fun x => ?_, fun q => ?_⟩
  · rw [gives_tk h.wf hnd hin x]
    have hm : x ∈ C.whites (A.cellsOf (pg : Int)) ↔ (A.tk x = true ∧ (x - 1) / 32 = pg) ∧ C.mz x = false := by rw [mem_whites, mem_cellsOf h.wf hpg]
    simp only [hm, h.tk x, h.mz x]
    cases e1 : A0.tk x <;> cases e2 : C0.mz x <;> simp
    · rcases Nat.lt_trichotomy ((x - 1) / 32) pg with h3 | h3 | h3
      · have e3 : ¬ pg ≤ (x - 1) / 32 := by omega
        have e4 : ¬ pg + 1 ≤ (x - 1) / 32 := by omega
        simp [e3, e4]
      · have e3 : pg ≤ (x - 1) / 32 := by omega
        have e4 : ¬ pg + 1 ≤ (x - 1) / 32 := by omega
        simp [e3, e4, h3]
      · have e3 : pg ≤ (x - 1) / 32 := by omega
        have e4 : pg + 1 ≤ (x - 1) / 32 := by omega
        have e5 : ¬ (x - 1) / 32 = pg := by omega
        simp [e3, e4, e5]
    · omega
  · show (C.mz x && !decide (x ∈ A.cellsOf (pg : Int))) = _
    simp only [mem_cellsOf h.wf hpg, h.tk x, h.mz x]
    cases e1 : A0.tk x <;> cases e2 : C0.mz x <;> simp
    rcases Nat.lt_trichotomy ((x - 1) / 32) pg with h3 | h3 | h3
    · have e4 : (x - 1) / 32 < pg + 1 := by omega
      simp [h3, e4]
    · have e4 : (x - 1) / 32 < pg + 1 := by omega
      simp [e4, h3]
    · have e3 : ¬ (x - 1) / 32 < pg := by omega
      have e4 : ¬ (x - 1) / 32 < pg + 1 := by omega
      have e5 : ¬ (x - 1) / 32 = pg := by omega
      simp [e3, e4, e5]
  · show (C.sc x && !(decide (x ∈ A.cellsOf (pg : Int)) && C.mz x)) = true → (C.mz x && !decide (x ∈ A.cellsOf (pg : Int))) = true
    intro h1
    simp only [Bool.and_eq_true, Bool.not_eq_true', Bool.and_eq_false_iff] at h1 ⊢
    have h2 := h.sc x h1.1
    exact ⟨h2, h1.2.resolve_right (by rw [h2]; simp)⟩
  · rcases gives_cls h.wf (C.whites (A.cellsOf (pg : Int))) q with h1 | h1
    · rw [h1]; exact h.cls q
    · exact .inr h1
theorem Swept.below (h : Swept A0 C0 A C pg) : ∀ x ∈ A.cellsOf (pg : Int), pg < A.n → x < A.n * 32 + 1 := fun x hx hp => (h.wf.lt ((mem_cellsOf h.wf hp).1 hx).1).2.1
/-- With no marks. -/
def BareP (A : AR) (pg : Nat) : Prop := ∀ x, A.tk x = true → pg ≤ (x - 1) / 32
theorem BareP.next (hw : A.Wf) (h : BareP A pg) (hpg : pg < A.n) : BareP (A.gives (A.cellsOf (pg : Int))) (pg + 1) := by
  intro x hx
  rw [gives_tk hw (cells_nodup A _) (fun y hy => ((mem_cellsOf hw hpg).1 hy).1)] at hx
  simp only [Bool.and_eq_true, Bool.not_eq_true', decide_eq_false_iff_not, mem_cellsOf hw hpg] at hx
  have h1 := h x hx.1
  have h2 : ¬ (x - 1) / 32 = pg := fun e => hx.2 ⟨hx.1, e⟩
  omega
theorem BareP.more (h : BareP A pg) {q : Nat} (hq : q ≤ pg) : BareP A q := fun x hx => Nat.le_trans hq (h x hx)
theorem BareP.total (hw : A.Wf) (h : BareP A A.n) : A.total = 0 ∧ A.free = (A.n : Int) := by
  have he : ∀ q, A.tk q = false := by
    intro q
    cases e : A.tk q with
    | false => rfl
    | true =>
      have h1 := h q e
      have h2 := (hw.lt e).2.1
      have h3 := (hw.lt e).1
      omega
  refine ⟨(hw.empty he).2.1, ?_⟩
  rw [hw.free, countP_all]
  · simp
  · intro p hp
    simp at hp
    rw [(hw.empty he).1 p hp]
    decide
end
end Go.Proofs.Ytbcabjpafeocgaa

/-
  Sweeping a graph's arena, as plain data (layer 18). Conditions: as each theorem says; no walk.
-/
namespace Go.Proofs.Ytbcabjpafeocgaa
set_option linter.unusedVariables false
set_option linter.unusedSimpArgs false
open Go.RowKit Go.Shelf

section
variable {A : AR} {C : Col} {rs : List Nat} {fs : Nat → List Nat} {x y z : Nat}
theorem Gr.tk (h : Gr A rs fs) (hx : x ∈ rs) : A.tk x = true := by
  obtain ⟨_, ho⟩ := h.heap.obj x hx
  exact ho.tk
theorem Gr.taken (h : Gr A rs fs) (hz : A.tk z = true) : z ∈ rs := by
  refine Classical.byContradiction fun hn => ?_
  have hnd : (z :: rs).Nodup := List.nodup_cons.2 ⟨hn, h.nodup⟩
  have htk : ∀ x ∈ z :: rs, A.tk x = true := by
    intro x hx
    rcases List.mem_cons.1 hx with rfl | h1
    · exact hz
    · exact h.tk h1
  have hlt : ∀ x ∈ z :: rs, x < A.n * 32 + 1 := fun x hx => (h.heap.wf.lt (htk x hx)).2.1
  have h1 := elems_count (S := fun x => decide (x ∈ z :: rs)) hnd hlt (fun x hx => by simpa using hx)
  rw [countP_all (f := fun x => decide (x ∈ z :: rs)) (fun x hx => by simpa using hx)] at h1
  have h2 := elems_length h.heap.wf
  rw [h.total] at h2
  have h3 : (elems (A.n * 32 + 1) fun x => decide (x ∈ z :: rs)).length ≤ (elems (A.n * 32 + 1) A.tk).length := by
    unfold elems
    rw [← List.countP_eq_length_filter, ← List.countP_eq_length_filter]
    exact List.countP_mono_left fun x _ hx => htk x (by simpa using hx)
  rw [List.length_cons] at h1
  omega
theorem cls_has (h : A.Wf) {p : Nat} (hp : p < A.n) (hc : 0 ≤ A.cls p) : ∃ x, A.tk x = true ∧ (x - 1) / 32 = p := by
  refine Classical.byContradiction fun hn => ?_
  have := (h.cls_none hp).2 (fun x hx e => hn ⟨x, hx, e⟩)
  omega
theorem Gr.firstTwo (h : Gr A [x, y] fs) (hx : (fs x).length = 1) (hy : (fs y).length = 1) : (x - 1) / 32 = 0 ∧ (y - 1) / 32 = 0 := by
  have hw := h.heap.wf
  have hxt := h.tk (x := x) (by simp)
  have hyt := h.tk (x := y) (by simp)
  have hne : y ≠ x := fun e => by have := h.nodup; rw [e] at this; simp at this
  have cx : A.cls ((x - 1) / 32) = 1 := by rw [h.clsf x (by simp), hx]; rfl
  have cy : A.cls ((y - 1) / 32) = 1 := by rw [h.clsf y (by simp), hy]; rfl
  have px := hw.lt hxt
  have py := hw.lt hyt
  have hin : ∀ z, A.tk z = true → z = x ∨ z = y := fun z hz => by simpa using h.taken hz
  have key : (x - 1) / 32 = (y - 1) / 32 := by
    refine Classical.byContradiction fun hpq => ?_
    have h8 : cN 1 = 8 := by decide
    rcases h.fresh.full _ _ (by omega) (by omega) hpq (by rw [cx]; decide) (cx.trans cy.symm) with hf | hf
    · rw [cx, h8] at hf
      have e0 := hf 0 (by omega)
      have e1 := hf 1 (by omega)
      have d0 := ref_in (p := (x - 1) / 32) (c := 1) (k := 0) (by rw [h8]; omega)
      have d1 := ref_in (p := (x - 1) / 32) (c := 1) (k := 1) (by rw [h8]; omega)
      have a0 : refN ((x - 1) / 32) 1 0 = x := (hin _ e0).resolve_right (fun e => hpq (by rw [← d0.2.2.2.1, e]))
      have a1 : refN ((x - 1) / 32) 1 1 = x := (hin _ e1).resolve_right (fun e => hpq (by rw [← d1.2.2.2.1, e]))
      have := (ref_inj (c := 1) (k := 0) (k' := 1) (by rw [h8]; omega) (by rw [h8]; omega) (a0.trans a1.symm)).2
      omega
    · rw [cx, h8] at hf
      have e0 := hf 0 (by omega)
      have e1 := hf 1 (by omega)
      have d0 := ref_in (p := (y - 1) / 32) (c := 1) (k := 0) (by rw [h8]; omega)
      have d1 := ref_in (p := (y - 1) / 32) (c := 1) (k := 1) (by rw [h8]; omega)
      have a0 : refN ((y - 1) / 32) 1 0 = y := (hin _ e0).resolve_left (fun e => hpq (by rw [← d0.2.2.2.1, e]))
      have a1 : refN ((y - 1) / 32) 1 1 = y := (hin _ e1).resolve_left (fun e => hpq (by rw [← d1.2.2.2.1, e]))
      have := (ref_inj (c := 1) (k := 0) (k' := 1) (by rw [h8]; omega) (by rw [h8]; omega) (a0.trans a1.symm)).2
      omega
  have hx0 : (x - 1) / 32 = 0 := by
    refine Classical.byContradiction fun hp => ?_
    have hc0 := h.fresh.first ((x - 1) / 32) 0 (by omega) (by omega) (by rw [cx]; decide)
    obtain ⟨z, hz, hz0⟩ := cls_has hw (p := 0) (by omega) hc0
    rcases hin z hz with rfl | rfl <;> omega
  exact ⟨hx0, by omega⟩
theorem black_sub (y : Nat) : ∀ x, (Col.white.black y).sc x = true → (Col.white.black y).mz x = true := fun x h => h
theorem cells_below (h : A.Wf) (hn : A.n = 64) {pg : Nat} (hp : pg < 64) : ∀ x ∈ A.cellsOf (pg : Int), x < 2049 := fun x hx => by
  have := (h.lt ((mem_cellsOf h (by omega)).1 hx).1).2.1
  omega
theorem firstTwo_cells (h : Gr A [x, y] fs) (hp : (x - 1) / 32 = 0 ∧ (y - 1) / 32 = 0) : (Col.white.black y).whites (A.cellsOf ((0 : Nat) : Int)) = [x] := by
  have hne : y ≠ x := fun e => by have := h.nodup; rw [e] at this; simp at this
  have hn : 0 < A.n := by rw [h.n]; omega
  have hm : ∀ z, z ∈ (Col.white.black y).whites (A.cellsOf ((0 : Nat) : Int)) ↔ z = x := by
    intro z
    rw [mem_whites, mem_cellsOf h.heap.wf hn]
    constructor
    · rintro ⟨⟨h1, _⟩, h2⟩
      have h3 := h.taken h1
      simp at h3
      rcases h3 with h3 | h3
      · exact h3
      · subst h3
        simp [Col.black, Col.white] at h2
    · rintro rfl
      refine ⟨⟨h.tk (by simp), hp.1⟩, ?_⟩
      simp only [Col.black, Col.white, Bool.false_or, decide_eq_false_iff_not]
      exact fun e => hne e.symm
  have hnd := whites_nodup (C := Col.white.black y) (cells_nodup A ((0 : Nat) : Int))
  generalize (Col.white.black y).whites (A.cellsOf ((0 : Nat) : Int)) = l at hm hnd
  match l, hm, hnd with
  | [], hm, _ => exact absurd ((hm x).2 rfl) (by simp)
  | [a], hm, _ => rw [(hm a).1 (by simp)]
  | a :: b :: l, hm, hnd =>
    have h1 := (hm a).1 (by simp)
    have h2 := (hm b).1 (by simp)
    rw [h1, h2] at hnd
    simp at hnd
end
end Go.Proofs.Ytbcabjpafeocgaa

/-
  fit of layer 18. Conditions: as the theorem says.
-/
namespace Go.Proofs.Ytbcabjpafeocgaa
set_option linter.unusedVariables false
set_option linter.unusedSimpArgs false
open Go.RowKit Go.Shelf

theorem ones18 (w : World) (m : Nat) (cs : List Value) (hc : cs = List.replicate m (.int .u8 1)) : ArgI (w.alloc (.cells cs.toArray 5)) (some ⟨w.heap.size, 0, none⟩) m [.u8] (fun _ _ => 1) := by
  intro i hi
  refine ⟨w.heap.size, 0, rfl, by simp, fun j q hq => ?_⟩
  match j, hq with
  | 0, hq =>
    simp at hq
    subst hq
    refine ⟨?_, show (Lit.int .u8 1).wf = true by decide⟩
    have h := (Blk.new w 5 cs.toArray).cell i
    show (w.alloc (.cells cs.toArray 5)).cell? ⟨w.heap.size, 0 + i * 1 + 0, none⟩ = some (.int .u8 1)
    rw [show 0 + i * 1 + 0 = i by omega, h, hc]
    simp [hi]
theorem argI_none18 (w : World) (qs : List IntKind) : ArgI w none 0 qs (fun _ _ => 0) := fun i hi => absurd hi (by omega)
set_option maxRecDepth 100000 in
set_option maxHeartbeats 4000000 in
theorem fit18 (w : World) : Calls Try.prog 12 #[] w fun e w' => e = .returned (.bool true) ∧ Chg [] w w' := by
  obtain ⟨W, hW⟩ : ∃ W, w.alloc (.cells #[.int .u8 1, .int .u8 1] 5) = W := ⟨_, rfl⟩
  have hz := ones18 w 2 [.int .u8 1, .int .u8 1] rfl
  simp only [List.toArray] at hz
  have hch := (Chg.refl [] w).alloc (.cells #[.int .u8 1, .int .u8 1] 5)
  rw [hW] at hch
  have hz' : ArgI W (some ⟨w.heap.size, 0, none⟩) 2 [.u8] (fun _ _ => 1) := by rw [← hW]; exact hz
  have HCH := Lib.hid hch
  have HMD := Lib.hid (Made11L (some ⟨w.heap.size, 0, none⟩) 2 2 (fun _ _ => 1) none 0 0 (fun _ _ => 0) hz' (argI_none18 W _) (by omega) (by omega) (Sep.start W))
  have hro : Try.prog.follows .mixedOrders = true := by kernel_rfl
  clear hz hz' hch
  go_enter Try.func12, Try.ntmps12
  go_wp2_with (first
    | (go_at_call 14; refine (HMD.out).mono ?_; rintro e w3 ⟨a, b, v, A, rs, fs, rfl, hgr, hlen, hle, hs⟩; obtain ⟨x, y, rfl⟩ : ∃ x y, rs = [x, y] := (by match rs, hlen with | [x, y], _ => exact ⟨x, y, rfl⟩); have HGR := Lib.hid hgr; have HLE := Lib.hid hle; obtain ⟨g, capl, hv, _, _⟩ := hs.rowSome 1 rfl (by simp); rw [hv] at hs ⊢; have HS3 := Lib.hid hs; clear hs hgr hle hlen hv HMD)
    | (go_at_call 15; refine (KNew HS3.out 0 rfl HGR.out.size (by omega) 2 (by omega)).mono ?_; rintro e w4 ⟨m, rfl, hs⟩; have HC := Lib.hid (ZNew hs m); clear hs HS3)
    | (go_at_call 18; refine (HC.out).mono ?_; rintro e w5 ⟨s, rfl, hs⟩; have hs' := (show Sep W w5 (sweepR s m 0 false :: markR m a 2049 (Col.white) :: arenaR a A :: rowR 35 1 (.slice (some ⟨g, 0, none⟩) 2 capl) 2 (nums [x, y]) :: adjR Try.prog 35 35 b (ptsOf fs) :: []) from hs); have x0 := hs'.rowCell 3 rfl 0 _ (nums_get [x, y] 0 x rfl); have x1 := hs'.rowCell 3 rfl 1 _ (nums_get [x, y] 1 y rfl); have HCB := Lib.hid (KBlacken hs' 1 rfl y (HGR.out.lt (x := y) (by simp)).1 (HGR.out.lt (x := y) (by simp)).2); clear hs hs' HC)
    | (go_at_call 16; refine (HCB.out).mono ?_; rintro e w6 ⟨rfl, hs⟩; have hs' := (show Sep W w6 (sweepR s m 0 false :: markR m a 2049 ((Col.white.black y)) :: arenaR a A :: rowR 35 1 (.slice (some ⟨g, 0, none⟩) 2 capl) 2 (nums [x, y]) :: adjR Try.prog 35 35 b (ptsOf fs) :: []) from hs); have HON := Lib.hid (ZOn hs' 0 rfl); have HPO := Lib.hid (ZPageOff hs' 0 rfl); have HBE := Lib.hid (ZBegin hs' 0 rfl); clear hs hs' HCB x0 x1)
    | (go_at_call 20; refine (HON.out).mono ?_; rintro e w7 ⟨rfl, rfl⟩; clear HON)
    | (go_at_call 22; refine (HPO.out).mono ?_; rintro e w7 ⟨rfl, rfl⟩; clear HPO)
    | (go_at_call 19; refine (HBE.out).mono ?_; rintro e w8 ⟨rfl, hs⟩; have hs' := (show Sep W w8 (sweepR s m 0 true :: markR m a 2049 ((Col.white.black y)) :: arenaR a A :: rowR 35 1 (.slice (some ⟨g, 0, none⟩) 2 capl) 2 (nums [x, y]) :: adjR Try.prog 35 35 b (ptsOf fs) :: []) from hs); have HPP := Lib.hid (PPage HGR.out.heap.wf HGR.out.size (black_sub y) (cells_nodup A _) (cells_below HGR.out.heap.wf HGR.out.n (by omega)) (by rw [HGR.out.n]; omega) (show Sep W w8 (sweepR s m 0 true :: markR m a 2049 ((Col.white.black y)) :: arenaR a A :: rowR 35 1 (.slice (some ⟨g, 0, none⟩) 2 capl) 2 (nums [x, y]) :: adjR Try.prog 35 35 b (ptsOf fs) :: []) from hs')); clear hs hs' HBE)
    | (go_at_call 22; refine (HPP.out).mono ?_; rintro e w9 ⟨v9, rfl, hs⟩; have HS8 := Lib.hid (show Sep W w9 (rowR 35 1 v9 ((Col.white.black y).whites (A.cellsOf ((0 : Nat) : Int))).length (nums ((Col.white.black y).whites (A.cellsOf ((0 : Nat) : Int)))) :: sweepR s m (0 + 1) (decide (0 + 1 < A.n)) :: markR m a 2049 (((Col.white.black y).forgets (A.cellsOf ((0 : Nat) : Int)))) :: arenaR a (A.gives ((Col.white.black y).whites (A.cellsOf ((0 : Nat) : Int)))) :: rowR 35 1 (.slice (some ⟨g, 0, none⟩) 2 capl) 2 (nums [x, y]) :: adjR Try.prog 35 35 b (ptsOf fs) :: []) from hs); clear hs HPP))
  have hlx := HLE.out 0 x rfl
  have hly := HLE.out 1 y rfl
  have hpp := HGR.out.firstTwo (by have h1 := hlx; simp at h1; omega) (by have h1 := hly; simp at h1; omega)
  have hw1 := firstTwo_cells HGR.out hpp
  have hs := HS8.out
  rw [hw1] at hs
  obtain ⟨g2, cap2, hv, _, _⟩ := hs.rowSome 0 rfl (by simp)
  replace hv : v9 = .slice (some ⟨g2, 0, none⟩) 1 cap2 := hv
  rw [hv] at hs ⊢
  obtain ⟨A2, hA2⟩ : ∃ A2, A.gives [x] = A2 := ⟨_, rfl⟩
  obtain ⟨C2, hC2⟩ : ∃ C2, (Col.white.black y).forgets (A.cellsOf ((0 : Nat) : Int)) = C2 := ⟨_, rfl⟩
  have hd1 : decide (0 + 1 < A.n) = true := decide_eq_true (by rw [HGR.out.n]; omega)
  rw [hA2, hC2, hd1] at hs
  have hxl := HGR.out.lt (x := x) (by simp)
  have hyl := HGR.out.lt (x := y) (by simp)
  have htk := gives_tk HGR.out.heap.wf (l := [x]) (by simp) (by simp; exact HGR.out.tk (by simp))
  rw [hA2] at htk
  have hA2w : A2.Wf := by rw [← hA2]; exact gives_wf HGR.out.heap.wf _
  have hA2n : A2.n = 64 := by rw [← hA2, gives_n, HGR.out.n]
  have hne : y ≠ x := fun e => by have := HGR.out.nodup; rw [e] at this; simp at this
  have hx0 : A2.has (x : Int) = false := by rw [hA2w.has, htk]; simp
  have hy1 : A2.has (y : Int) = true := by rw [hA2w.has, htk, HGR.out.tk (x := y) (by simp)]; simp [hne]
  have hm0 : C2.mz y = false := by
    rw [← hC2]
    have : y ∈ A.cellsOf ((0 : Nat) : Int) := (mem_cellsOf HGR.out.heap.wf (by rw [HGR.out.n]; omega)).2 ⟨HGR.out.tk (by simp), hpp.2⟩
    show (_ && !decide (y ∈ A.cellsOf ((0 : Nat) : Int))) = false
    rw [decide_eq_true this]
    simp
  have HX0 := Lib.hid hx0
  have HY1 := Lib.hid hy1
  have HH0 := Lib.hid (fun W' (S : Sep W W' (rowR 35 1 (.slice (some ⟨g2, 0, none⟩) 1 cap2) 1 (nums [x]) :: sweepR s m 1 true :: markR m a 2049 (C2) :: arenaR a A2 :: rowR 35 1 (.slice (some ⟨g, 0, none⟩) 2 capl) 2 (nums [x, y]) :: adjR Try.prog 35 35 b (ptsOf fs) :: [])) (r : Int) (bz : Bool) (hbz : A2.has r = bz) => by have := TAHas S 3 rfl r; rw [hbz] at this; exact this)
  have HM1 := Lib.hid (fun W' (S : Sep W W' (rowR 35 1 (.slice (some ⟨g2, 0, none⟩) 1 cap2) 1 (nums [x]) :: sweepR s m 1 true :: markR m a 2049 (C2) :: arenaR a A2 :: rowR 35 1 (.slice (some ⟨g, 0, none⟩) 2 capl) 2 (nums [x, y]) :: adjR Try.prog 35 35 b (ptsOf fs) :: [])) => by have := KMarked S 2 rfl y hyl.2; rw [hm0] at this; exact this)
  have HO1 := Lib.hid (fun W' (S : Sep W W' (rowR 35 1 (.slice (some ⟨g2, 0, none⟩) 1 cap2) 1 (nums [x]) :: sweepR s m 1 true :: markR m a 2049 (C2) :: arenaR a A2 :: rowR 35 1 (.slice (some ⟨g, 0, none⟩) 2 capl) 2 (nums [x, y]) :: adjR Try.prog 35 35 b (ptsOf fs) :: [])) => ZOn S 1 rfl)
  have HL1 := Lib.hid (fun W' (S : Sep W W' (rowR 35 1 (.slice (some ⟨g2, 0, none⟩) 1 cap2) 1 (nums [x]) :: sweepR s m 1 true :: markR m a 2049 (C2) :: arenaR a A2 :: rowR 35 1 (.slice (some ⟨g, 0, none⟩) 2 capl) 2 (nums [x, y]) :: adjR Try.prog 35 35 b (ptsOf fs) :: [])) => by have := ZLeft S 1 rfl 2 rfl 3 rfl (by omega) (by omega); rw [hA2n] at this; exact this)
  have HS9 := Lib.hid (show Sep W w9 (rowR 35 1 (.slice (some ⟨g2, 0, none⟩) 1 cap2) 1 (nums [x]) :: sweepR s m 1 true :: markR m a 2049 (C2) :: arenaR a A2 :: rowR 35 1 (.slice (some ⟨g, 0, none⟩) 2 capl) 2 (nums [x, y]) :: adjR Try.prog 35 35 b (ptsOf fs) :: []) from hs)
  clear hs HS8 hv hw1 hpp hlx hly hA2 hC2 hd1 hxl hyl htk hA2w hA2n hne hx0 hy1 hm0
  go_wp2
  refine region_sep HS9.out (by kernel_rfl) (by kernel_rfl) ?_
  intro hne0
  have yx : ∀ x_ : SepW W (rowR 35 1 (.slice (some ⟨g2, 0, none⟩) 1 cap2) 1 (nums [x]) :: sweepR s m 1 true :: markR m a 2049 (C2) :: arenaR a A2 :: rowR 35 1 (.slice (some ⟨g, 0, none⟩) 2 capl) 2 (nums [x, y]) :: adjR Try.prog 35 35 b (ptsOf fs) :: []), x_.w'.cell? ⟨g, 0, none⟩ = some (.int .i64 (x : Int))   := fun x_ => x_.h.rowCell 4 rfl 0 _ (nums_get [x, y] 0 x rfl)
  have yy : ∀ x_ : SepW W (rowR 35 1 (.slice (some ⟨g2, 0, none⟩) 1 cap2) 1 (nums [x]) :: sweepR s m 1 true :: markR m a 2049 (C2) :: arenaR a A2 :: rowR 35 1 (.slice (some ⟨g, 0, none⟩) 2 capl) 2 (nums [x, y]) :: adjR Try.prog 35 35 b (ptsOf fs) :: []), x_.w'.cell? ⟨g, 1, none⟩ = some (.int .i64 (y : Int))   := fun x_ => x_.h.rowCell 4 rfl 1 _ (nums_get [x, y] 1 y rfl)
  have yo : ∀ x_ : SepW W (rowR 35 1 (.slice (some ⟨g2, 0, none⟩) 1 cap2) 1 (nums [x]) :: sweepR s m 1 true :: markR m a 2049 (C2) :: arenaR a A2 :: rowR 35 1 (.slice (some ⟨g, 0, none⟩) 2 capl) 2 (nums [x, y]) :: adjR Try.prog 35 35 b (ptsOf fs) :: []), x_.w'.cell? ⟨g2, 0, none⟩ = some (.int .i64 (x : Int))   := fun x_ => x_.h.rowCell 0 rfl 0 _ (nums_get [x] 0 x rfl)
  repeat (go_big_quiet_step (first
    | (go_at_call 39; exact sep_calls (HH0.out _ (SepW.h _) _ _ (by first | exact HX0.out | exact HY1.out)))
    | (go_at_call 32; exact sep_calls (HM1.out _ (SepW.h _)))
    | (go_at_call 20; exact same_calls (HO1.out _ (SepW.h _)))
    | (go_at_call 26; exact sep_calls (HL1.out _ (SepW.h _)))))
  refine wpQuiet_nil ?_
  rintro wq ⟨⟨wqx, hs⟩, rfl⟩
  clear yx yy yo hne0
  go_wp2
  go_ret
  exact ⟨by rfl, HCH.out.trans hs.chg (by simp)⟩
end Go.Proofs.Ytbcabjpafeocgaa

/-
  The sweeper's Page where nothing is marked; the page that it stands at as a measure. Conditions: as each theorem says.
-/
namespace Go.Proofs.Ytbcabjpafeocgaa
set_option linter.unusedVariables false
set_option linter.unusedSimpArgs false
open Go.RowKit Go.Shelf

/-- So many pages are still to come. -/
def leftM (s : Nat) (W : World) : Nat := 65 - (match W.cell? ⟨s, 1, none⟩ with | some v => (intOf v).toNat | none => 0)
section
variable {w0 w : World} {L R0 : List Res} {s m a n pg : Nat} {C : Col} {A : AR} {on : Bool}
theorem leftM_is (S : Sep w0 w L) (i : Nat) (hi : L[i]? = some (sweepR s m pg on)) : leftM s w = 65 - pg := by
  have c1 := (S.blk i (by unfold sweepR at hi; exact hi)).cell 1
  simp only [List.getElem?_toArray, List.getElem?_cons_zero, List.getElem?_cons_succ] at c1
  unfold leftM
  rw [c1]
  simp [intOf]
theorem PageBare (hw : A.Wf) (hn : A.n = 64) (hb : BareP A pg) (hpg : pg ≤ 64) (S : Sep w0 w (sweepR s m pg (decide (pg < 64)) :: markR m a 2049 Col.white :: arenaR a A :: R0)) :
    Calls Try.prog 22 #[.pointer (some ⟨s, 0, none⟩)] w fun e w' => ∃ (Al : Option Addr) (k cap pg2 : Nat) (A2 : AR), e = .returned (.slice Al k cap) ∧ A2.Wf ∧ A2.n = 64 ∧ BareP A2 pg2 ∧ pg2 ≤ 64 ∧ pg2 = (if pg < 64 then pg + 1 else pg) ∧ k ≤ 100 ∧ (k : Int) + A2.total = A.total ∧ Sep w0 w' (sweepR s m pg2 (decide (pg2 < 64)) :: markR m a 2049 Col.white :: arenaR a A2 :: R0) := by
  by_cases hlt : pg < 64
  · rw [decide_eq_true hlt] at S
    have hnd := cells_nodup A (pg : Int)
    have hin : ∀ x ∈ A.cellsOf (pg : Int), A.tk x = true := fun x hx => ((mem_cellsOf hw (by omega)).1 hx).1
    have hsz : A.size = ((2049 : Nat) : Int) := by unfold AR.size; rw [hn]
    refine (PPage hw hsz (fun x h => h) hnd (cells_below hw hn hlt) (by omega) S).mono ?_
    rintro e w' ⟨v, rfl, hs⟩
    rw [white_whites, white_forgets, hn] at hs
    obtain ⟨Al, cap, rfl, _, _⟩ := hs.rowShape 0 rfl
    have hfew := cellsOf_few A (pg : Int)
    have ht := gives_total hw hnd hin
    exact ⟨Al, _, cap, pg + 1, A.gives (A.cellsOf (pg : Int)), rfl, gives_wf hw _, (gives_n A _).trans hn, hb.next hw (by omega), by omega, by rw [if_pos hlt], by omega, by omega, hs.tail⟩
  · rw [decide_eq_false hlt] at S
    refine (ZPageOff S 0 rfl).mono ?_
    rintro e w' ⟨rfl, rfl⟩
    exact ⟨none, 0, 0, pg, A, rfl, hw, hn, hb, hpg, by rw [if_neg hlt], by omega, by simp, by rw [decide_eq_false hlt]; exact S⟩
end
end Go.Proofs.Ytbcabjpafeocgaa

/-
  The walk of SweepBegins. Conditions: as the theorem says.
-/
namespace Go.Proofs.Ytbcabjpafeocgaa
set_option linter.unusedVariables false
set_option linter.unusedSimpArgs false
open Go.RowKit Go.Shelf

theorem sumN_nonneg18 {A : AR} (h : A.Wf) : 0 ≤ A.total := by
  have := elems_length h
  omega
set_option maxRecDepth 100000 in
set_option maxHeartbeats 16000000 in
theorem sweepBegins_walk (A0 : Option Addr) (n0 c0 : Nat) (D0 : Nat → Nat → Int) (A1 : Option Addr) (n1 c1 : Nat) (D1 : Nat → Nat → Int) (r0 r1 : Int) (w : World) (hz0 : ArgI w A0 n0 [.u8] D0) (hm0 : n0 ≤ maxLen) (hz1 : ArgI w A1 n1 [.u16, .u16, .u16] D1) (hm1 : n1 ≤ maxLen) (hr0 : (Lit.int .u8 r0).wf = true) (hr1 : (Lit.int .u8 r1).wf = true) :
    Calls Try.prog 4 #[.agg #[.slice A0 n0 c0, .slice A1 n1 c1], .int .u8 r0, .int .u8 r1] w fun e w' => e = .returned (.bool true) ∧ Below w.heap.size w w' := by
  have HZ0 := Lib.hid hz0
  have HZ1 := Lib.hid hz1
  have hwr0 := wf8 hr0
  have hwr1 := wf8 hr1
  clear hr0 hr1
  unfold maxLen at hm0 hm1
  clear hz0 hz1
  obtain ⟨T, hT⟩ : ∃ T, w.heap.size = T := ⟨_, rfl⟩
  have hs0 := (Sep.start w).box #[.slice A0 n0 c0, .slice A1 n1 c1] 25
  rw [hT] at hs0
  have HS0 := Lib.hid hs0
  clear hs0
  obtain ⟨q1, hq1, hq1l⟩ : ∃ q : Nat, r0 % 70 = (q : Int) ∧ q ≤ 69 := ⟨(r0 % 70).toNat, by omega, by omega⟩
  have hq1t : r0.tmod 70 = (q1 : Int) := by rw [Int.tmod_eq_emod_of_nonneg (by omega)]; exact hq1
  obtain ⟨q2, hq2, hq2l⟩ : ∃ q : Nat, r1 % 70 = (q : Int) ∧ q ≤ 69 := ⟨(r1 % 70).toNat, by omega, by omega⟩
  have hq2t : r1.tmod 70 = (q2 : Int) := by rw [Int.tmod_eq_emod_of_nonneg (by omega)]; exact hq2
  go_enter Try.func4, Try.ntmps4
  by_cases hsmall : n0 ≤ 40 ∧ n1 ≤ 120
  · have hsd : (decide (n0 ≤ 40) && decide (n1 ≤ 120)) = true := by rw [decide_eq_true hsmall.1, decide_eq_true hsmall.2]; rfl
    have HSD := Lib.hid hsd
    obtain ⟨hn0, hn1⟩ := hsmall
    clear hsd
    go_wp2_with (first
      | (go_at_call 12; refine (fit18 _).mono ?_; rintro e w1 ⟨rfl, hC⟩; have hs1 := HS0.out.same hC; have p0 := (hs1.blk 0 rfl).cell 0; have p1 := (hs1.blk 0 rfl).cell 1; simp only [List.getElem?_toArray, List.getElem?_cons_zero, List.getElem?_cons_succ] at p0 p1; have HS1 := Lib.hid hs1; clear hC hs1 HS0)
      | (go_at_call 13; refine (Small11 _ A0 n0 c0 A1 n1 c1).mono ?_; rw [HSD.out]; rintro e w2 ⟨rfl, hC⟩; have hs1 := HS1.out.same hC; have p0 := (hs1.blk 0 rfl).cell 0; have p1 := (hs1.blk 0 rfl).cell 1; simp only [List.getElem?_toArray, List.getElem?_cons_zero, List.getElem?_cons_succ] at p0 p1; have HS2 := Lib.hid hs1; clear hC hs1 HS1)
      | (go_at_call 14; refine (Made11 A0 n0 c0 D0 A1 n1 c1 D1 HZ0.out HZ1.out hn0 hn1 HS2.out).mono ?_; rintro e w3 ⟨a, b, v, A, rs, fs, rfl, hgr, hlen, hs⟩; have p0 := (hs.blk 3 rfl).cell 0; have p1 := (hs.blk 3 rfl).cell 1; simp only [List.getElem?_toArray, List.getElem?_cons_zero, List.getElem?_cons_succ] at p0 p1; have HGR := Lib.hid hgr; obtain ⟨AL, capl, rfl, hcapl, hmcapl⟩ := hs.rowShape 1 rfl; unfold maxLen at hmcapl; obtain ⟨Rn, hRn⟩ : ∃ Rn, rs.length = Rn := ⟨_, rfl⟩; have HRN := Lib.hid hRn; rw [hRn] at hcapl hs; try rw [hRn]; rw [hRn] at hlen; have hl40 : Rn ≤ 40 := (by omega); have HLEN := Lib.hid hlen; have HS3 := Lib.hid hs; clear hs hgr HS2 hRn hlen)
      | (go_at_call 15; refine (KNew HS3.out 0 rfl HGR.out.size (by omega) 64 (by omega)).mono ?_; rintro e w4 ⟨m, rfl, hs⟩; have HC := Lib.hid (ZNew hs m); clear hs HS3)
      | (go_at_call 18; refine (HC.out).mono ?_; rintro e w5 ⟨s, rfl, hs⟩; have HBE := Lib.hid (ZBegin hs 0 rfl); clear hs HC)
      | (go_at_call 19; refine (HBE.out).mono ?_; rintro e w6 ⟨rfl, hs⟩; have HS6 := Lib.hid (show Sep w w6 (sweepR s m 0 (decide (0 < 64)) :: markR m a 2049 (Col.white) :: arenaR a A :: rowR 35 1 (.slice AL Rn capl) Rn (nums rs) :: adjR Try.prog 35 35 b (ptsOf fs) :: blkR T 25 #[.slice A0 n0 c0, .slice A1 n1 c1] :: []) from hs); clear hs HBE))
    go_loopw [12, 32] (fun gv iv wr => ∃ (k gn pg : Nat) (AA : AR), k ≤ q1 ∧ iv = .int .u8 k ∧ gv = .int .i64 gn ∧ AA.Wf ∧ AA.n = 64 ∧ BareP AA pg ∧ pg ≤ 64 ∧ True ∧ (gn : Int) + AA.total = (Rn : Int) ∧ Sep w wr (sweepR s m pg (decide (pg < 64)) :: markR m a 2049 (Col.white) :: arenaR a AA :: rowR 35 1 (.slice AL Rn capl) Rn (nums rs) :: adjR Try.prog 35 35 b (ptsOf fs) :: blkR T 25 #[.slice A0 n0 c0, .slice A1 n1 c1] :: [])) (fun _ iv _ => q1 + 1 - (intOf iv).toNat)
    case atStart => exact ⟨0, 0, 0, A, by omega, rfl, rfl, HGR.out.heap.wf, HGR.out.n, fun x _ => Nat.zero_le _, by omega, trivial, by rw [HGR.out.total, HRN.out]; simp, HS6.out⟩
    case round =>
      clear HS6
      obtain ⟨k, gn, pg, AA, hk, rfl, rfl, hw, hn, hb, hpg, hpk, ht, hs⟩ := hrel
      have hge : 0 ≤ AA.total := sumN_nonneg18 hw
      by_cases hlt : k < q1
      · have hltI : (k : Int) < (q1 : Int) := by omega
        have HT := Lib.hid ht
        have hgn : gn ≤ 40 := by omega
        have HPG := Lib.hid (PageBare hw hn hb hpg hs)
        have HPK := Lib.hid hpk
        clear hs hw hn hb hge ht hpk
        go_wp2_with (go_at_call 22; refine (HPG.out).mono ?_; rintro e w7 ⟨Al, kk, capk, pg2, AA2, rfl, hw2, hn2, hb2, hp2, hpe, hk2, ht2, hs⟩; have HS7 := Lib.hid hs; have HW2 := Lib.hid hw2; have HN2 := Lib.hid hn2; have HB2 := Lib.hid hb2; have HT2 := Lib.hid ht2; have HPE := Lib.hid hpe; clear hs hw2 hn2 hb2 ht2 hpe HPG)
        go_roundw
        case rel => exact ⟨k + 1, gn + kk, pg2, AA2, by omega, by go_num, by go_num, HW2.out, HN2.out, HB2.out, hp2, trivial, by have h1 := HT2.out; have h2 := HT.out; push_cast; omega, HS7.out⟩
        case measure => simp [intOf]; omega
      · obtain rfl : q1 = k := by omega
        have HW2 := Lib.hid hw
        have HN2 := Lib.hid hn
        have HT := Lib.hid ht
        have HBG := Lib.hid (ZBegin hs 0 rfl)
        have hgn : gn ≤ 40 := by omega
        clear hs hw hn hb hge ht
        go_wp2_with (first
          | (go_at_call 19; refine (HBG.out).mono ?_; rintro e w7 ⟨rfl, hs⟩; have hs' := (show Sep w w7 (sweepR s m 0 true :: markR m a 2049 (Col.white) :: arenaR a AA :: rowR 35 1 (.slice AL Rn capl) Rn (nums rs) :: adjR Try.prog 35 35 b (ptsOf fs) :: blkR T 25 #[.slice A0 n0 c0, .slice A1 n1 c1] :: []) from hs); have HON := Lib.hid (ZOn hs' 0 rfl); have HLF := Lib.hid (ZLeft hs' 0 rfl 1 rfl 2 rfl (by rw [HN2.out]; omega) (by omega)); have hpa := TAPages hs' 2 rfl; clear hs hs' HBG)
          | (go_at_call 20; refine (HON.out).mono ?_; rintro e w8 ⟨rfl, rfl⟩; clear HON)
          | (go_at_call 26; refine (HLF.out).mono ?_; rw [HN2.out]; rintro e w9 ⟨rfl, hs⟩; have hpa := TAPages hs 2 rfl; rw [HN2.out] at hpa; have HPA := Lib.hid hpa; have HS8 := Lib.hid hs; clear hs hpa HLF)
          | (go_at_call 25; refine (HPA.out).mono ?_; rintro e w7 ⟨rfl, rfl⟩; clear HPA))
        go_loopw [12, 54] (fun gv iv wr => ∃ (k gn pg : Nat) (AA : AR), k ≤ q2 ∧ iv = .int .u8 k ∧ gv = .int .i64 gn ∧ AA.Wf ∧ AA.n = 64 ∧ BareP AA pg ∧ pg ≤ 64 ∧ pg = min k 64 ∧ (gn : Int) + AA.total = (Rn : Int) ∧ Sep w wr (sweepR s m pg (decide (pg < 64)) :: markR m a 2049 (Col.white) :: arenaR a AA :: rowR 35 1 (.slice AL Rn capl) Rn (nums rs) :: adjR Try.prog 35 35 b (ptsOf fs) :: blkR T 25 #[.slice A0 n0 c0, .slice A1 n1 c1] :: [])) (fun _ iv _ => q2 + 1 - (intOf iv).toNat)
        case atStart => exact ⟨0, gn, 0, AA, by omega, rfl, rfl, HW2.out, HN2.out, fun x _ => Nat.zero_le _, by omega, by omega, HT.out, HS8.out⟩
        case round =>
          clear HS8 HW2 HN2 HT
          obtain ⟨k, gn, pg, AA, hk, rfl, rfl, hw, hn, hb, hpg, hpk, ht, hs⟩ := hrel
          have hge : 0 ≤ AA.total := sumN_nonneg18 hw
          by_cases hlt : k < q2
          · have hltI : (k : Int) < (q2 : Int) := by omega
            have HT := Lib.hid ht
            have hgn : gn ≤ 40 := by omega
            have HPG := Lib.hid (PageBare hw hn hb hpg hs)
            have HPK := Lib.hid hpk
            clear hs hw hn hb hge ht hpk
            go_wp2_with (go_at_call 22; refine (HPG.out).mono ?_; rintro e w7 ⟨Al, kk, capk, pg2, AA2, rfl, hw2, hn2, hb2, hp2, hpe, hk2, ht2, hs⟩; have HS7 := Lib.hid hs; have HW2 := Lib.hid hw2; have HN2 := Lib.hid hn2; have HB2 := Lib.hid hb2; have HT2 := Lib.hid ht2; have HPE := Lib.hid hpe; clear hs hw2 hn2 hb2 ht2 hpe HPG)
            go_roundw
            case rel => exact ⟨k + 1, gn + kk, pg2, AA2, by omega, by go_num, by go_num, HW2.out, HN2.out, HB2.out, hp2, by have h1 := HPE.out; have h2 := HPK.out; split at h1 <;> omega, by have h1 := HT2.out; have h2 := HT.out; push_cast; omega, HS7.out⟩
            case measure => simp [intOf]; omega
          · obtain rfl : q2 = k := by omega
            have HS9 := Lib.hid hs
            have HW2 := Lib.hid hw
            have HN2 := Lib.hid hn
            have HB2 := Lib.hid hb
            have HT := Lib.hid ht
            have hpa := TAPages hs 2 rfl
            rw [hn] at hpa
            have HPA := Lib.hid hpa
            have hgn : gn ≤ 40 := by omega
            have HON := Lib.hid (ZOn hs 0 rfl)
            by_cases h64 : 64 ≤ q2
            · have hd64 : (64 : Int) ≤ (q2 : Int) := by omega
              obtain rfl : pg = 64 := by omega
              have HLF := Lib.hid (ZLeftOff hs 0 rfl)
              clear hs hw hn hb hge ht hpa hpk
              go_wp2_with (first
                | (go_at_call 25; refine (HPA.out).mono ?_; rintro e w7 ⟨rfl, rfl⟩; clear HPA)
                | (go_at_call 20; refine (HON.out).mono ?_; rw [show decide (64 < 64) = false from rfl]; rintro e w6 ⟨rfl, rfl⟩; clear HON)
                | (go_at_call 26; refine (HLF.out).mono ?_; rintro e w6 ⟨rfl, rfl⟩; clear HLF))
              go_loopw [12] (fun gv wr => ∃ (gn pg : Nat) (AA : AR), gv = .int .i64 gn ∧ AA.Wf ∧ AA.n = 64 ∧ BareP AA pg ∧ pg ≤ 64 ∧ (gn : Int) + AA.total = (Rn : Int) ∧ Sep w wr (sweepR s m pg (decide (pg < 64)) :: markR m a 2049 (Col.white) :: arenaR a AA :: rowR 35 1 (.slice AL Rn capl) Rn (nums rs) :: adjR Try.prog 35 35 b (ptsOf fs) :: blkR T 25 #[.slice A0 n0 c0, .slice A1 n1 c1] :: [])) (fun _ wr => leftM s wr)
              case atStart => exact ⟨gn, 64, AA, rfl, HW2.out, HN2.out, HB2.out, hpg, HT.out, HS9.out⟩
              case round =>
                clear HS9 HW2 HN2 HB2 HT
                obtain ⟨gn, pg, AA, rfl, hw, hn, hb, hpg, ht, hs⟩ := hrel
                have hge : 0 ≤ AA.total := sumN_nonneg18 hw
                have HON := Lib.hid (ZOn hs 0 rfl)
                have HT := Lib.hid ht
                have hgn : gn ≤ 40 := by omega
                by_cases hlt : pg < 64
                · have HD := Lib.hid (decide_eq_true hlt)
                  have HPG := Lib.hid (PageBare hw hn hb hpg hs)
                  have HM0 := Lib.hid (leftM_is hs 0 rfl)
                  clear hs hw hn hb hge ht
                  go_wp2_with (first
                    | (go_at_call 20; refine (HON.out).mono ?_; rw [HD.out]; rintro e w6 ⟨rfl, rfl⟩; clear HON)
                    | (go_at_call 22; refine (HPG.out).mono ?_; rintro e w7 ⟨Al, kk, capk, pg2, AA2, rfl, hw2, hn2, hb2, hp2, hpe, hk2, ht2, hs⟩; have HS7 := Lib.hid hs; have HW2 := Lib.hid hw2; have HN2 := Lib.hid hn2; have HB2 := Lib.hid hb2; have HT2 := Lib.hid ht2; have HPE := Lib.hid hpe; clear hs hw2 hn2 hb2 ht2 hpe HPG))
                  go_roundw
                  case rel => exact ⟨gn + kk, pg2, AA2, by go_num, HW2.out, HN2.out, HB2.out, hp2, by have h1 := HT2.out; have h2 := HT.out; push_cast; omega, HS7.out⟩
                  case measure =>
                    have h1 := leftM_is HS7.out 0 rfl
                    have h2 := HM0.out
                    have h3 := HPE.out
                    rw [if_pos hlt] at h3
                    show leftM s _ < leftM s _
                    omega
                · have HD := Lib.hid (decide_eq_false hlt)
                  have hbt := (hb.more (q := AA.n) (by omega)).total hw
                  have hfr := TAFree hs 2 rfl
                  rw [hbt.2, hn] at hfr
                  have hpa := TAPages hs 2 rfl
                  rw [hn] at hpa
                  have HFR := Lib.hid hfr
                  have HPA := Lib.hid hpa
                  have HS10 := Lib.hid hs
                  have hgr : (gn : Int) = (Rn : Int) := by have := hbt.1; omega
                  have HGR2 := Lib.hid hgr
                  have hgd : ((gn : Int) == (Rn : Int)) = true := by simpa using hgr
                  clear hs hw hn hb hge ht hbt hfr hpa hgr
                  go_wp2_with (first
                    | (go_at_call 20; refine (HON.out).mono ?_; rw [HD.out]; rintro e w6 ⟨rfl, rfl⟩; clear HON)
                    | (go_at_call 24; refine (HFR.out).mono ?_; rintro e w7 ⟨rfl, rfl⟩; clear HFR)
                    | (go_at_call 25; refine (HPA.out).mono ?_; rintro e w7 ⟨rfl, rfl⟩; clear HPA))
                  go_ret
                  exact ⟨by first | rfl | simp, HS10.out.below⟩
            · have hd64 : ¬ (64 : Int) ≤ (q2 : Int) := by omega
              clear hs hw hn hb hge ht hpa hpk
              go_wp2_with (go_at_call 25; refine (HPA.out).mono ?_; rintro e w7 ⟨rfl, rfl⟩; clear HPA)
              go_loopw [12] (fun gv wr => ∃ (gn pg : Nat) (AA : AR), gv = .int .i64 gn ∧ AA.Wf ∧ AA.n = 64 ∧ BareP AA pg ∧ pg ≤ 64 ∧ (gn : Int) + AA.total = (Rn : Int) ∧ Sep w wr (sweepR s m pg (decide (pg < 64)) :: markR m a 2049 (Col.white) :: arenaR a AA :: rowR 35 1 (.slice AL Rn capl) Rn (nums rs) :: adjR Try.prog 35 35 b (ptsOf fs) :: blkR T 25 #[.slice A0 n0 c0, .slice A1 n1 c1] :: [])) (fun _ wr => leftM s wr)
              case atStart => exact ⟨gn, pg, AA, rfl, HW2.out, HN2.out, HB2.out, hpg, HT.out, HS9.out⟩
              case round =>
                clear HS9 HW2 HN2 HB2 HT
                obtain ⟨gn, pg, AA, rfl, hw, hn, hb, hpg, ht, hs⟩ := hrel
                have hge : 0 ≤ AA.total := sumN_nonneg18 hw
                have HON := Lib.hid (ZOn hs 0 rfl)
                have HT := Lib.hid ht
                have hgn : gn ≤ 40 := by omega
                by_cases hlt : pg < 64
                · have HD := Lib.hid (decide_eq_true hlt)
                  have HPG := Lib.hid (PageBare hw hn hb hpg hs)
                  have HM0 := Lib.hid (leftM_is hs 0 rfl)
                  clear hs hw hn hb hge ht
                  go_wp2_with (first
                    | (go_at_call 20; refine (HON.out).mono ?_; rw [HD.out]; rintro e w6 ⟨rfl, rfl⟩; clear HON)
                    | (go_at_call 22; refine (HPG.out).mono ?_; rintro e w7 ⟨Al, kk, capk, pg2, AA2, rfl, hw2, hn2, hb2, hp2, hpe, hk2, ht2, hs⟩; have HS7 := Lib.hid hs; have HW2 := Lib.hid hw2; have HN2 := Lib.hid hn2; have HB2 := Lib.hid hb2; have HT2 := Lib.hid ht2; have HPE := Lib.hid hpe; clear hs hw2 hn2 hb2 ht2 hpe HPG))
                  go_roundw
                  case rel => exact ⟨gn + kk, pg2, AA2, by go_num, HW2.out, HN2.out, HB2.out, hp2, by have h1 := HT2.out; have h2 := HT.out; push_cast; omega, HS7.out⟩
                  case measure =>
                    have h1 := leftM_is HS7.out 0 rfl
                    have h2 := HM0.out
                    have h3 := HPE.out
                    rw [if_pos hlt] at h3
                    show leftM s _ < leftM s _
                    omega
                · have HD := Lib.hid (decide_eq_false hlt)
                  have hbt := (hb.more (q := AA.n) (by omega)).total hw
                  have hfr := TAFree hs 2 rfl
                  rw [hbt.2, hn] at hfr
                  have hpa := TAPages hs 2 rfl
                  rw [hn] at hpa
                  have HFR := Lib.hid hfr
                  have HPA := Lib.hid hpa
                  have HS10 := Lib.hid hs
                  have hgr : (gn : Int) = (Rn : Int) := by have := hbt.1; omega
                  have HGR2 := Lib.hid hgr
                  have hgd : ((gn : Int) == (Rn : Int)) = true := by simpa using hgr
                  clear hs hw hn hb hge ht hbt hfr hpa hgr
                  go_wp2_with (first
                    | (go_at_call 20; refine (HON.out).mono ?_; rw [HD.out]; rintro e w6 ⟨rfl, rfl⟩; clear HON)
                    | (go_at_call 24; refine (HFR.out).mono ?_; rintro e w7 ⟨rfl, rfl⟩; clear HFR)
                    | (go_at_call 25; refine (HPA.out).mono ?_; rintro e w7 ⟨rfl, rfl⟩; clear HPA))
                  go_ret
                  exact ⟨by first | rfl | simp, HS10.out.below⟩
  · have HSD := Lib.hid (show (decide (n0 ≤ 40) && decide (n1 ≤ 120)) = false by
      rw [Bool.and_eq_false_iff]
      by_cases h : n0 ≤ 40
      · exact .inr (decide_eq_false fun h2 => hsmall ⟨h, h2⟩)
      · exact .inl (decide_eq_false h))
    clear hsmall
    go_wp2_with (first
      | (go_at_call 12; refine (fit18 _).mono ?_; rintro e w1 ⟨rfl, hC⟩; have hs1 := HS0.out.same hC; have p0 := (hs1.blk 0 rfl).cell 0; have p1 := (hs1.blk 0 rfl).cell 1; simp only [List.getElem?_toArray, List.getElem?_cons_zero, List.getElem?_cons_succ] at p0 p1; have HS1 := Lib.hid hs1; clear hC hs1 HS0)
      | (go_at_call 13; refine (Small11 _ A0 n0 c0 A1 n1 c1).mono ?_; rw [HSD.out]; rintro e w2 ⟨rfl, hC⟩; have HS2 := Lib.hid (HS1.out.same hC); clear hC HS1))
    go_ret
    exact ⟨rfl, HS2.out.below⟩
end Go.Proofs.Ytbcabjpafeocgaa
