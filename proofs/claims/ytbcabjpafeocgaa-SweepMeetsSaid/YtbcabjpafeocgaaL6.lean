/-
  Parts of the proof, joined: SweepP, SweepLaw, Fit18, BlackP, PoolP, MeetP, SweepBare, SweepMeetsW. Conditions: as each part says.
-/
import Derived.Test.YtbcabjpafeocgaaL5
import Derived.Test.YtbcabjpafeocgaaL4
import Derived.Test.YtbcabjpafeocgaaL3
import Derived.Test.YtbcabjpafeocgaaL1

/-
  What sweeping does, as plain data (layer 18). Conditions: as each theorem says; no walk.
-/
namespace Go.Proofs.Ytbcabjpafeocgaa
set_option linter.unusedVariables false
set_option linter.unusedSimpArgs false
open Go.RowKit Go.Shelf

section
variable {A : AR} {C : Col}
theorem AR.Wf.cls_none (h : A.Wf) {p : Nat} (hp : p < A.n) : A.cls p = -1 ↔ ∀ x, A.tk x = true → (x - 1) / 32 ≠ p := by
  constructor
  · intro hc x hx e
    obtain ⟨q, k, hq, h0, _, hk, he, _, _, hdiv⟩ := h.at_ hx
    have : q = p := by omega
    subst this
    omega
  · intro hx
    rcases h.cls p hp with h1 | h1
    · exact h1
    · have h2 := h.some_ p hp h1.1
      rw [h.cnt p hp, countP_none (fun k hk => ?_)] at h2
      · simp at h2
      · simp at hk
        cases e : A.tk (refN p (A.cls p) k) with
        | false => rfl
        | true => exact absurd (ref_in (p := p) hk).2.2.2.1 (hx _ e)
theorem give_total (h : A.Wf) {r : Nat} (hr : A.tk r = true) : (A.give (r : Int)).total = A.total - 1 := by
  have h1 := elems_length (h.give_wf (r : Int))
  have h2 := elems_length h
  rw [give_n, give_tk A r (by rw [h.has]; exact hr)] at h1
  have h3 := (h.lt hr).2.1
  have h4 : (elems (A.n * 32 + 1) fun j => A.tk j && !decide (j = r)).length + 1 = (elems (A.n * 32 + 1) A.tk).length := by
    unfold elems
    rw [← List.countP_eq_length_filter, ← List.countP_eq_length_filter]
    refine (countP_up h3 ?_ hr ?_).symm
    · simp
    · intro x _ hne; simp [hne]
  omega
theorem gives_cons (A : AR) (a : Nat) (l : List Nat) : A.gives (a :: l) = (A.give (a : Int)).gives l := rfl
theorem gives_tk (h : A.Wf) : ∀ {l : List Nat}, l.Nodup → (∀ x ∈ l, A.tk x = true) → ∀ x, (A.gives l).tk x = (A.tk x && !decide (x ∈ l)) := by
  intro l
  induction l generalizing A with
  | nil => intro _ _ x; simp [AR.gives]
  | cons a l ih =>
    intro hn ht x
    rw [List.nodup_cons] at hn
    have ha := ht a (by simp)
    have htk := give_tk A a (by rw [h.has]; exact ha)
    rw [gives_cons, ih (h.give_wf _) hn.2 (fun y hy => by
      rw [htk]
      have hne : y ≠ a := fun e => hn.1 (e ▸ hy)
      simp [hne, ht y (by simp [hy])]) x, htk]
    by_cases e : x = a <;> by_cases e2 : x ∈ l <;> simp [e, e2]
theorem gives_total (h : A.Wf) : ∀ {l : List Nat}, l.Nodup → (∀ x ∈ l, A.tk x = true) → (A.gives l).total = A.total - (l.length : Int) := by
  intro l
  induction l generalizing A with
  | nil => intro _ _; simp [AR.gives]
  | cons a l ih =>
    intro hn ht
    rw [List.nodup_cons] at hn
    have ha := ht a (by simp)
    have htk := give_tk A a (by rw [h.has]; exact ha)
    rw [gives_cons, ih (h.give_wf _) hn.2 (fun y hy => by
      rw [htk]
      have hne : y ≠ a := fun e => hn.1 (e ▸ hy)
      simp [hne, ht y (by simp [hy])]), give_total h ha, List.length_cons]
    push_cast
    omega
theorem gives_cls (h : A.Wf) : ∀ (l : List Nat) (q : Nat), (A.gives l).cls q = A.cls q ∨ (A.gives l).cls q = -1 := by
  intro l
  induction l generalizing A with
  | nil => intro q; exact .inl rfl
  | cons a l ih =>
    intro q
    rw [gives_cons]
    rcases ih (h.give_wf (a : Int)) q with h1 | h1
    · rw [h1]
      unfold AR.give
      split
      · unfold AR.drop
        dsimp only
        split
        · unfold updN
          split
          · exact .inr rfl
          · exact .inl rfl
        · exact .inl rfl
      · exact .inl rfl
    · exact .inr h1
theorem cells_nodup (A : AR) (p : Int) : (A.cellsOf p).Nodup := (cellsOf_sorted A p).imp fun {a b} h e => by omega
theorem whites_nodup {l : List Nat} (h : l.Nodup) : (C.whites l).Nodup := h.filter _
theorem mem_whites {l : List Nat} {x : Nat} : x ∈ C.whites l ↔ x ∈ l ∧ C.mz x = false := by unfold Col.whites; simp
theorem white_whites (l : List Nat) : Col.white.whites l = l := by
  unfold Col.whites
  refine List.filter_eq_self.2 (fun x _ => rfl)
theorem white_forgets (l : List Nat) : Col.white.forgets l = Col.white := Col.ext (fun x => rfl) (fun x => rfl)

/-- Pages below pg of A0, marked as C0 says, were swept. -/
structure Swept (A0 : AR) (C0 : Col) (A : AR) (C : Col) (pg : Nat) : Prop where
  wf : A.Wf
  n : A.n = A0.n
  ids : A.ids = A0.ids
  tk : ∀ x, A.tk x = (A0.tk x && (C0.mz x || decide (pg ≤ (x - 1) / 32)))
  mz : ∀ x, C.mz x = (C0.mz x && !(A0.tk x && decide ((x - 1) / 32 < pg)))
  sc : ∀ x, C.sc x = true → C.mz x = true
  cls : ∀ q, A.cls q = A0.cls q ∨ A.cls q = -1
variable {A0 : AR} {C0 : Col} {pg : Nat}
theorem Swept.start (h : A.Wf) (hs : ∀ x, C.sc x = true → C.mz x = true) : Swept A C A C 0 :=
  ⟨h, rfl, rfl, fun x => by simp, fun x => by simp, hs, fun q => .inl rfl⟩
theorem gives_ids (A : AR) (l : List Nat) : (A.gives l).ids = A.ids := by
  induction l generalizing A with
  | nil => rfl
  | cons a l ih => rw [gives_cons, ih, give_ids]
theorem Swept.next (h : Swept A0 C0 A C pg) (hpg : pg < A.n) : Swept A0 C0 (A.gives (C.whites (A.cellsOf (pg : Int)))) (C.forgets (A.cellsOf (pg : Int))) (pg + 1) := by
  have hnd := whites_nodup (C := C) (cells_nodup A (pg : Int))
  have hin : ∀ x ∈ C.whites (A.cellsOf (pg : Int)), A.tk x = true := fun x hx => ((mem_cellsOf h.wf hpg).1 (mem_whites.1 hx).1).1
  refine ⟨gives_wf h.wf _, (gives_n A _).trans h.n, (gives_ids A _).trans h.ids, fun x => ?_, fun x => ?_, fun x => ?_, fun q => ?_⟩
  · rw [gives_tk h.wf hnd hin x]
    have hm : x ∈ C.whites (A.cellsOf (pg : Int)) ↔ (A.tk x = true ∧ (x - 1) / 32 = pg) ∧ C.mz x = false := by rw [mem_whites, mem_cellsOf h.wf hpg]
    simp only [hm, h.tk x, h.mz x]
    cases e1 : A0.tk x <;> cases e2 : C0.mz x <;> simp
    · rcases Nat.lt_trichotomy ((x - 1) / 32) pg with h3 | h3 | h3
      · have e3 : ¬ pg ≤ (x - 1) / 32 := by omega
        have e4 : ¬ pg + 1 ≤ (x - 1) / 32 := by omega
        simp [e3, e4]
      · have e3 : pg ≤ (x - 1) / 32 := by omega
        have e4 : ¬ pg + 1 ≤ (x - 1) / 32 := by omega
        simp [e3, e4, h3]
      · have e3 : pg ≤ (x - 1) / 32 := by omega
        have e4 : pg + 1 ≤ (x - 1) / 32 := by omega
        have e5 : ¬ (x - 1) / 32 = pg := by omega
        simp [e3, e4, e5]
    · omega
  · show (C.mz x && !decide (x ∈ A.cellsOf (pg : Int))) = _
    simp only [mem_cellsOf h.wf hpg, h.tk x, h.mz x]
    cases e1 : A0.tk x <;> cases e2 : C0.mz x <;> simp
    rcases Nat.lt_trichotomy ((x - 1) / 32) pg with h3 | h3 | h3
    · have e4 : (x - 1) / 32 < pg + 1 := by omega
      simp [h3, e4]
    · have e4 : (x - 1) / 32 < pg + 1 := by omega
      simp [e4, h3]
    · have e3 : ¬ (x - 1) / 32 < pg := by omega
      have e4 : ¬ (x - 1) / 32 < pg + 1 := by omega
      have e5 : ¬ (x - 1) / 32 = pg := by omega
      simp [e3, e4, e5]
  · show (C.sc x && !(decide (x ∈ A.cellsOf (pg : Int)) && C.mz x)) = true → (C.mz x && !decide (x ∈ A.cellsOf (pg : Int))) = true
    intro h1
    simp only [Bool.and_eq_true, Bool.not_eq_true', Bool.and_eq_false_iff] at h1 ⊢
    have h2 := h.sc x h1.1
    exact ⟨h2, h1.2.resolve_right (by rw [h2]; simp)⟩
  · rcases gives_cls h.wf (C.whites (A.cellsOf (pg : Int))) q with h1 | h1
    · rw [h1]; exact h.cls q
    · exact .inr h1
theorem Swept.below (h : Swept A0 C0 A C pg) : ∀ x ∈ A.cellsOf (pg : Int), pg < A.n → x < A.n * 32 + 1 := fun x hx hp => (h.wf.lt ((mem_cellsOf h.wf hp).1 hx).1).2.1
/-- With no marks. -/
def BareP (A : AR) (pg : Nat) : Prop := ∀ x, A.tk x = true → pg ≤ (x - 1) / 32
theorem BareP.next (hw : A.Wf) (h : BareP A pg) (hpg : pg < A.n) : BareP (A.gives (A.cellsOf (pg : Int))) (pg + 1) := by
  intro x hx
  rw [gives_tk hw (cells_nodup A _) (fun y hy => ((mem_cellsOf hw hpg).1 hy).1)] at hx
  simp only [Bool.and_eq_true, Bool.not_eq_true', decide_eq_false_iff_not, mem_cellsOf hw hpg] at hx
  have h1 := h x hx.1
  have h2 : ¬ (x - 1) / 32 = pg := fun e => hx.2 ⟨hx.1, e⟩
  omega
theorem BareP.more (h : BareP A pg) {q : Nat} (hq : q ≤ pg) : BareP A q := fun x hx => Nat.le_trans hq (h x hx)
theorem BareP.total (hw : A.Wf) (h : BareP A A.n) : A.total = 0 ∧ A.free = (A.n : Int) := by
  have he : ∀ q, A.tk q = false := by
    intro q
    cases e : A.tk q with
    | false => rfl
    | true =>
      have h1 := h q e
      have h2 := (hw.lt e).2.1
      have h3 := (hw.lt e).1
      omega
  refine ⟨(hw.empty he).2.1, ?_⟩
  rw [hw.free, countP_all]
  · simp
  · intro p hp
    simp at hp
    rw [(hw.empty he).1 p hp]
    decide
end
end Go.Proofs.Ytbcabjpafeocgaa

/-
  Sweeping a graph's arena, as plain data (layer 18). Conditions: as each theorem says; no walk.
-/
namespace Go.Proofs.Ytbcabjpafeocgaa
set_option linter.unusedVariables false
set_option linter.unusedSimpArgs false
open Go.RowKit Go.Shelf

section
variable {A : AR} {C : Col} {rs : List Nat} {fs : Nat → List Nat} {x y z : Nat}
theorem Gr.tk (h : Gr A rs fs) (hx : x ∈ rs) : A.tk x = true := by
  obtain ⟨_, ho⟩ := h.heap.obj x hx
  exact ho.tk
theorem Gr.taken (h : Gr A rs fs) (hz : A.tk z = true) : z ∈ rs := by
  refine Classical.byContradiction fun hn => ?_
  have hnd : (z :: rs).Nodup := List.nodup_cons.2 ⟨hn, h.nodup⟩
  have htk : ∀ x ∈ z :: rs, A.tk x = true := by
    intro x hx
    rcases List.mem_cons.1 hx with rfl | h1
    · exact hz
    · exact h.tk h1
  have hlt : ∀ x ∈ z :: rs, x < A.n * 32 + 1 := fun x hx => (h.heap.wf.lt (htk x hx)).2.1
  have h1 := elems_count (S := fun x => decide (x ∈ z :: rs)) hnd hlt (fun x hx => by simpa using hx)
  rw [countP_all (f := fun x => decide (x ∈ z :: rs)) (fun x hx => by simpa using hx)] at h1
  have h2 := elems_length h.heap.wf
  rw [h.total] at h2
  have h3 : (elems (A.n * 32 + 1) fun x => decide (x ∈ z :: rs)).length ≤ (elems (A.n * 32 + 1) A.tk).length := by
    unfold elems
    rw [← List.countP_eq_length_filter, ← List.countP_eq_length_filter]
    exact List.countP_mono_left fun x _ hx => htk x (by simpa using hx)
  rw [List.length_cons] at h1
  omega
theorem cls_has (h : A.Wf) {p : Nat} (hp : p < A.n) (hc : 0 ≤ A.cls p) : ∃ x, A.tk x = true ∧ (x - 1) / 32 = p := by
  refine Classical.byContradiction fun hn => ?_
  have := (h.cls_none hp).2 (fun x hx e => hn ⟨x, hx, e⟩)
  omega
theorem Gr.firstTwo (h : Gr A [x, y] fs) (hx : (fs x).length = 1) (hy : (fs y).length = 1) : (x - 1) / 32 = 0 ∧ (y - 1) / 32 = 0 := by
  have hw := h.heap.wf
  have hxt := h.tk (x := x) (by simp)
  have hyt := h.tk (x := y) (by simp)
  have hne : y ≠ x := fun e => by have := h.nodup; rw [e] at this; simp at this
  have cx : A.cls ((x - 1) / 32) = 1 := by rw [h.clsf x (by simp), hx]; rfl
  have cy : A.cls ((y - 1) / 32) = 1 := by rw [h.clsf y (by simp), hy]; rfl
  have px := hw.lt hxt
  have py := hw.lt hyt
  have hin : ∀ z, A.tk z = true → z = x ∨ z = y := fun z hz => by simpa using h.taken hz
  have key : (x - 1) / 32 = (y - 1) / 32 := by
    refine Classical.byContradiction fun hpq => ?_
    have h8 : cN 1 = 8 := by decide
    rcases h.fresh.full _ _ (by omega) (by omega) hpq (by rw [cx]; decide) (cx.trans cy.symm) with hf | hf
    · rw [cx, h8] at hf
      have e0 := hf 0 (by omega)
      have e1 := hf 1 (by omega)
      have d0 := ref_in (p := (x - 1) / 32) (c := 1) (k := 0) (by rw [h8]; omega)
      have d1 := ref_in (p := (x - 1) / 32) (c := 1) (k := 1) (by rw [h8]; omega)
      have a0 : refN ((x - 1) / 32) 1 0 = x := (hin _ e0).resolve_right (fun e => hpq (by rw [← d0.2.2.2.1, e]))
      have a1 : refN ((x - 1) / 32) 1 1 = x := (hin _ e1).resolve_right (fun e => hpq (by rw [← d1.2.2.2.1, e]))
      have := (ref_inj (c := 1) (k := 0) (k' := 1) (by rw [h8]; omega) (by rw [h8]; omega) (a0.trans a1.symm)).2
      omega
    · rw [cx, h8] at hf
      have e0 := hf 0 (by omega)
      have e1 := hf 1 (by omega)
      have d0 := ref_in (p := (y - 1) / 32) (c := 1) (k := 0) (by rw [h8]; omega)
      have d1 := ref_in (p := (y - 1) / 32) (c := 1) (k := 1) (by rw [h8]; omega)
      have a0 : refN ((y - 1) / 32) 1 0 = y := (hin _ e0).resolve_left (fun e => hpq (by rw [← d0.2.2.2.1, e]))
      have a1 : refN ((y - 1) / 32) 1 1 = y := (hin _ e1).resolve_left (fun e => hpq (by rw [← d1.2.2.2.1, e]))
      have := (ref_inj (c := 1) (k := 0) (k' := 1) (by rw [h8]; omega) (by rw [h8]; omega) (a0.trans a1.symm)).2
      omega
  have hx0 : (x - 1) / 32 = 0 := by
    refine Classical.byContradiction fun hp => ?_
    have hc0 := h.fresh.first ((x - 1) / 32) 0 (by omega) (by omega) (by rw [cx]; decide)
    obtain ⟨z, hz, hz0⟩ := cls_has hw (p := 0) (by omega) hc0
    rcases hin z hz with rfl | rfl <;> omega
  exact ⟨hx0, by omega⟩
theorem black_sub (y : Nat) : ∀ x, (Col.white.black y).sc x = true → (Col.white.black y).mz x = true := fun x h => h
theorem cells_below (h : A.Wf) (hn : A.n = 64) {pg : Nat} (hp : pg < 64) : ∀ x ∈ A.cellsOf (pg : Int), x < 2049 := fun x hx => by
  have := (h.lt ((mem_cellsOf h (by omega)).1 hx).1).2.1
  omega
theorem firstTwo_cells (h : Gr A [x, y] fs) (hp : (x - 1) / 32 = 0 ∧ (y - 1) / 32 = 0) : (Col.white.black y).whites (A.cellsOf ((0 : Nat) : Int)) = [x] := by
  have hne : y ≠ x := fun e => by have := h.nodup; rw [e] at this; simp at this
  have hn : 0 < A.n := by rw [h.n]; omega
  have hm : ∀ z, z ∈ (Col.white.black y).whites (A.cellsOf ((0 : Nat) : Int)) ↔ z = x := by
    intro z
    rw [mem_whites, mem_cellsOf h.heap.wf hn]
    constructor
    · rintro ⟨⟨h1, _⟩, h2⟩
      have h3 := h.taken h1
      simp at h3
      rcases h3 with h3 | h3
      · exact h3
      · subst h3
        simp [Col.black, Col.white] at h2
    · rintro rfl
      refine ⟨⟨h.tk (by simp), hp.1⟩, ?_⟩
      simp only [Col.black, Col.white, Bool.false_or, decide_eq_false_iff_not]
      exact fun e => hne e.symm
  have hnd := whites_nodup (C := Col.white.black y) (cells_nodup A ((0 : Nat) : Int))
  generalize (Col.white.black y).whites (A.cellsOf ((0 : Nat) : Int)) = l at hm hnd
  match l, hm, hnd with
  | [], hm, _ => exact absurd ((hm x).2 rfl) (by simp)
  | [a], hm, _ => rw [(hm a).1 (by simp)]
  | a :: b :: l, hm, hnd =>
    have h1 := (hm a).1 (by simp)
    have h2 := (hm b).1 (by simp)
    rw [h1, h2] at hnd
    simp at hnd
end
end Go.Proofs.Ytbcabjpafeocgaa

/-
  fit of layer 18. Conditions: as the theorem says.
-/
namespace Go.Proofs.Ytbcabjpafeocgaa
set_option linter.unusedVariables false
set_option linter.unusedSimpArgs false
open Go.RowKit Go.Shelf

theorem ones18 (w : World) (m : Nat) (cs : List Value) (hc : cs = List.replicate m (.int .u8 1)) : ArgI (w.alloc (.cells cs.toArray 5)) (some ⟨w.heap.size, 0, none⟩) m [.u8] (fun _ _ => 1) := by
  intro i hi
  refine ⟨w.heap.size, 0, rfl, by simp, fun j q hq => ?_⟩
  match j, hq with
  | 0, hq =>
    simp at hq
    subst hq
    refine ⟨?_, show (Lit.int .u8 1).wf = true by decide⟩
    have h := (Blk.new w 5 cs.toArray).cell i
    show (w.alloc (.cells cs.toArray 5)).cell? ⟨w.heap.size, 0 + i * 1 + 0, none⟩ = some (.int .u8 1)
    rw [show 0 + i * 1 + 0 = i by omega, h, hc]
    simp [hi]
theorem argI_none18 (w : World) (qs : List IntKind) : ArgI w none 0 qs (fun _ _ => 0) := fun i hi => absurd hi (by omega)
set_option maxRecDepth 100000 in
set_option maxHeartbeats 4000000 in
theorem fit18 (w : World) : Calls Try.prog 12 #[] w fun e w' => e = .returned (.bool true) ∧ Chg [] w w' := by
  obtain ⟨W, hW⟩ : ∃ W, w.alloc (.cells #[.int .u8 1, .int .u8 1] 5) = W := ⟨_, rfl⟩
  have hz := ones18 w 2 [.int .u8 1, .int .u8 1] rfl
  simp only [List.toArray] at hz
  have hch := (Chg.refl [] w).alloc (.cells #[.int .u8 1, .int .u8 1] 5)
  rw [hW] at hch
  have hz' : ArgI W (some ⟨w.heap.size, 0, none⟩) 2 [.u8] (fun _ _ => 1) := by rw [← hW]; exact hz
  have HCH := Lib.hid hch
  have HMD := Lib.hid (Made11L (some ⟨w.heap.size, 0, none⟩) 2 2 (fun _ _ => 1) none 0 0 (fun _ _ => 0) hz' (argI_none18 W _) (by omega) (by omega) (Sep.start W))
  have hro : Try.prog.follows .mixedOrders = true := by kernel_rfl
  clear hz hz' hch
  go_enter Try.func12, Try.ntmps12
  go_wp2_with (first
    | (go_at_call 14; refine (HMD.out).mono ?_; rintro e w3 ⟨a, b, v, A, rs, fs, rfl, hgr, hlen, hle, hs⟩; obtain ⟨x, y, rfl⟩ : ∃ x y, rs = [x, y] := (by match rs, hlen with | [x, y], _ => exact ⟨x, y, rfl⟩); have HGR := Lib.hid hgr; have HLE := Lib.hid hle; obtain ⟨g, capl, hv, _, _⟩ := hs.rowSome 1 rfl (by simp); rw [hv] at hs ⊢; have HS3 := Lib.hid hs; clear hs hgr hle hlen hv HMD)
    | (go_at_call 15; refine (KNew HS3.out 0 rfl HGR.out.size (by omega) 2 (by omega)).mono ?_; rintro e w4 ⟨m, rfl, hs⟩; have HC := Lib.hid (ZNew hs m); clear hs HS3)
    | (go_at_call 18; refine (HC.out).mono ?_; rintro e w5 ⟨s, rfl, hs⟩; have hs' := (show Sep W w5 (sweepR s m 0 false :: markR m a 2049 (Col.white) :: arenaR a A :: rowR 35 1 (.slice (some ⟨g, 0, none⟩) 2 capl) 2 (nums [x, y]) :: adjR Try.prog 35 35 b (ptsOf fs) :: []) from hs); have x0 := hs'.rowCell 3 rfl 0 _ (nums_get [x, y] 0 x rfl); have x1 := hs'.rowCell 3 rfl 1 _ (nums_get [x, y] 1 y rfl); have HCB := Lib.hid (KBlacken hs' 1 rfl y (HGR.out.lt (x := y) (by simp)).1 (HGR.out.lt (x := y) (by simp)).2); clear hs hs' HC)
    | (go_at_call 16; refine (HCB.out).mono ?_; rintro e w6 ⟨rfl, hs⟩; have hs' := (show Sep W w6 (sweepR s m 0 false :: markR m a 2049 ((Col.white.black y)) :: arenaR a A :: rowR 35 1 (.slice (some ⟨g, 0, none⟩) 2 capl) 2 (nums [x, y]) :: adjR Try.prog 35 35 b (ptsOf fs) :: []) from hs); have HON := Lib.hid (ZOn hs' 0 rfl); have HPO := Lib.hid (ZPageOff hs' 0 rfl); have HBE := Lib.hid (ZBegin hs' 0 rfl); clear hs hs' HCB x0 x1)
    | (go_at_call 20; refine (HON.out).mono ?_; rintro e w7 ⟨rfl, rfl⟩; clear HON)
    | (go_at_call 22; refine (HPO.out).mono ?_; rintro e w7 ⟨rfl, rfl⟩; clear HPO)
    | (go_at_call 19; refine (HBE.out).mono ?_; rintro e w8 ⟨rfl, hs⟩; have hs' := (show Sep W w8 (sweepR s m 0 true :: markR m a 2049 ((Col.white.black y)) :: arenaR a A :: rowR 35 1 (.slice (some ⟨g, 0, none⟩) 2 capl) 2 (nums [x, y]) :: adjR Try.prog 35 35 b (ptsOf fs) :: []) from hs); have HPP := Lib.hid (PPage HGR.out.heap.wf HGR.out.size (black_sub y) (cells_nodup A _) (cells_below HGR.out.heap.wf HGR.out.n (by omega)) (by rw [HGR.out.n]; omega) (show Sep W w8 (sweepR s m 0 true :: markR m a 2049 ((Col.white.black y)) :: arenaR a A :: rowR 35 1 (.slice (some ⟨g, 0, none⟩) 2 capl) 2 (nums [x, y]) :: adjR Try.prog 35 35 b (ptsOf fs) :: []) from hs')); clear hs hs' HBE)
    | (go_at_call 22; refine (HPP.out).mono ?_; rintro e w9 ⟨v9, rfl, hs⟩; have HS8 := Lib.hid (show Sep W w9 (rowR 35 1 v9 ((Col.white.black y).whites (A.cellsOf ((0 : Nat) : Int))).length (nums ((Col.white.black y).whites (A.cellsOf ((0 : Nat) : Int)))) :: sweepR s m (0 + 1) (decide (0 + 1 < A.n)) :: markR m a 2049 (((Col.white.black y).forgets (A.cellsOf ((0 : Nat) : Int)))) :: arenaR a (A.gives ((Col.white.black y).whites (A.cellsOf ((0 : Nat) : Int)))) :: rowR 35 1 (.slice (some ⟨g, 0, none⟩) 2 capl) 2 (nums [x, y]) :: adjR Try.prog 35 35 b (ptsOf fs) :: []) from hs); clear hs HPP))
  have hlx := HLE.out 0 x rfl
  have hly := HLE.out 1 y rfl
  have hpp := HGR.out.firstTwo (by have h1 := hlx; simp at h1; omega) (by have h1 := hly; simp at h1; omega)
  have hw1 := firstTwo_cells HGR.out hpp
  have hs := HS8.out
  rw [hw1] at hs
  obtain ⟨g2, cap2, hv, _, _⟩ := hs.rowSome 0 rfl (by simp)
  replace hv : v9 = .slice (some ⟨g2, 0, none⟩) 1 cap2 := hv
  rw [hv] at hs ⊢
  obtain ⟨A2, hA2⟩ : ∃ A2, A.gives [x] = A2 := ⟨_, rfl⟩
  obtain ⟨C2, hC2⟩ : ∃ C2, (Col.white.black y).forgets (A.cellsOf ((0 : Nat) : Int)) = C2 := ⟨_, rfl⟩
  have hd1 : decide (0 + 1 < A.n) = true := decide_eq_true (by rw [HGR.out.n]; omega)
  rw [hA2, hC2, hd1] at hs
  have hxl := HGR.out.lt (x := x) (by simp)
  have hyl := HGR.out.lt (x := y) (by simp)
  have htk := gives_tk HGR.out.heap.wf (l := [x]) (by simp) (by simp; exact HGR.out.tk (by simp))
  rw [hA2] at htk
  have hA2w : A2.Wf := by rw [← hA2]; exact gives_wf HGR.out.heap.wf _
  have hA2n : A2.n = 64 := by rw [← hA2, gives_n, HGR.out.n]
  have hne : y ≠ x := fun e => by have := HGR.out.nodup; rw [e] at this; simp at this
  have hx0 : A2.has (x : Int) = false := by rw [hA2w.has, htk]; simp
  have hy1 : A2.has (y : Int) = true := by rw [hA2w.has, htk, HGR.out.tk (x := y) (by simp)]; simp [hne]
  have hm0 : C2.mz y = false := by
    rw [← hC2]
    have : y ∈ A.cellsOf ((0 : Nat) : Int) := (mem_cellsOf HGR.out.heap.wf (by rw [HGR.out.n]; omega)).2 ⟨HGR.out.tk (by simp), hpp.2⟩
    show (_ && !decide (y ∈ A.cellsOf ((0 : Nat) : Int))) = false
    rw [decide_eq_true this]
    simp
  have HX0 := Lib.hid hx0
  have HY1 := Lib.hid hy1
  have HH0 := Lib.hid (fun W' (S : Sep W W' (rowR 35 1 (.slice (some ⟨g2, 0, none⟩) 1 cap2) 1 (nums [x]) :: sweepR s m 1 true :: markR m a 2049 (C2) :: arenaR a A2 :: rowR 35 1 (.slice (some ⟨g, 0, none⟩) 2 capl) 2 (nums [x, y]) :: adjR Try.prog 35 35 b (ptsOf fs) :: [])) (r : Int) (bz : Bool) (hbz : A2.has r = bz) => by have := TAHas S 3 rfl r; rw [hbz] at this; exact this)
  have HM1 := Lib.hid (fun W' (S : Sep W W' (rowR 35 1 (.slice (some ⟨g2, 0, none⟩) 1 cap2) 1 (nums [x]) :: sweepR s m 1 true :: markR m a 2049 (C2) :: arenaR a A2 :: rowR 35 1 (.slice (some ⟨g, 0, none⟩) 2 capl) 2 (nums [x, y]) :: adjR Try.prog 35 35 b (ptsOf fs) :: [])) => by have := KMarked S 2 rfl y hyl.2; rw [hm0] at this; exact this)
  have HO1 := Lib.hid (fun W' (S : Sep W W' (rowR 35 1 (.slice (some ⟨g2, 0, none⟩) 1 cap2) 1 (nums [x]) :: sweepR s m 1 true :: markR m a 2049 (C2) :: arenaR a A2 :: rowR 35 1 (.slice (some ⟨g, 0, none⟩) 2 capl) 2 (nums [x, y]) :: adjR Try.prog 35 35 b (ptsOf fs) :: [])) => ZOn S 1 rfl)
  have HL1 := Lib.hid (fun W' (S : Sep W W' (rowR 35 1 (.slice (some ⟨g2, 0, none⟩) 1 cap2) 1 (nums [x]) :: sweepR s m 1 true :: markR m a 2049 (C2) :: arenaR a A2 :: rowR 35 1 (.slice (some ⟨g, 0, none⟩) 2 capl) 2 (nums [x, y]) :: adjR Try.prog 35 35 b (ptsOf fs) :: [])) => by have := ZLeft S 1 rfl 2 rfl 3 rfl (by omega) (by omega); rw [hA2n] at this; exact this)
  have HS9 := Lib.hid (show Sep W w9 (rowR 35 1 (.slice (some ⟨g2, 0, none⟩) 1 cap2) 1 (nums [x]) :: sweepR s m 1 true :: markR m a 2049 (C2) :: arenaR a A2 :: rowR 35 1 (.slice (some ⟨g, 0, none⟩) 2 capl) 2 (nums [x, y]) :: adjR Try.prog 35 35 b (ptsOf fs) :: []) from hs)
  clear hs HS8 hv hw1 hpp hlx hly hA2 hC2 hd1 hxl hyl htk hA2w hA2n hne hx0 hy1 hm0
  go_wp2
  refine region_sep HS9.out (by kernel_rfl) (by kernel_rfl) ?_
  intro hne0
  have yx : ∀ x_ : SepW W (rowR 35 1 (.slice (some ⟨g2, 0, none⟩) 1 cap2) 1 (nums [x]) :: sweepR s m 1 true :: markR m a 2049 (C2) :: arenaR a A2 :: rowR 35 1 (.slice (some ⟨g, 0, none⟩) 2 capl) 2 (nums [x, y]) :: adjR Try.prog 35 35 b (ptsOf fs) :: []), x_.w'.cell? ⟨g, 0, none⟩ = some (.int .i64 (x : Int))   := fun x_ => x_.h.rowCell 4 rfl 0 _ (nums_get [x, y] 0 x rfl)
  have yy : ∀ x_ : SepW W (rowR 35 1 (.slice (some ⟨g2, 0, none⟩) 1 cap2) 1 (nums [x]) :: sweepR s m 1 true :: markR m a 2049 (C2) :: arenaR a A2 :: rowR 35 1 (.slice (some ⟨g, 0, none⟩) 2 capl) 2 (nums [x, y]) :: adjR Try.prog 35 35 b (ptsOf fs) :: []), x_.w'.cell? ⟨g, 1, none⟩ = some (.int .i64 (y : Int))   := fun x_ => x_.h.rowCell 4 rfl 1 _ (nums_get [x, y] 1 y rfl)
  have yo : ∀ x_ : SepW W (rowR 35 1 (.slice (some ⟨g2, 0, none⟩) 1 cap2) 1 (nums [x]) :: sweepR s m 1 true :: markR m a 2049 (C2) :: arenaR a A2 :: rowR 35 1 (.slice (some ⟨g, 0, none⟩) 2 capl) 2 (nums [x, y]) :: adjR Try.prog 35 35 b (ptsOf fs) :: []), x_.w'.cell? ⟨g2, 0, none⟩ = some (.int .i64 (x : Int))   := fun x_ => x_.h.rowCell 0 rfl 0 _ (nums_get [x] 0 x rfl)
  repeat (go_big_quiet_step (first
    | (go_at_call 39; exact sep_calls (HH0.out _ (SepW.h _) _ _ (by first | exact HX0.out | exact HY1.out)))
    | (go_at_call 32; exact sep_calls (HM1.out _ (SepW.h _)))
    | (go_at_call 20; exact same_calls (HO1.out _ (SepW.h _)))
    | (go_at_call 26; exact sep_calls (HL1.out _ (SepW.h _)))))
  refine wpQuiet_nil ?_
  rintro wq ⟨⟨wqx, hs⟩, rfl⟩
  clear yx yy yo hne0
  go_wp2
  go_ret
  exact ⟨by rfl, HCH.out.trans hs.chg (by simp)⟩
end Go.Proofs.Ytbcabjpafeocgaa

/-
  Plain facts for layer 11's MarkBlacks. Conditions: as each theorem says.
-/
namespace Go.Proofs.Ytbcabjpafeocgaa
set_option linter.unusedVariables false
set_option linter.unusedSimpArgs false

def Col.blacks (C : Col) (l : List Nat) : Col := l.foldl Col.black C
/-- Those of l lead nowhere. -/
def cutT (T : Nat → List Nat) (l : List Nat) : Nat → List Nat := fun x => if x ∈ l then [] else T x
section
variable {pts : Nat → List Nat} {d : Nat} {C : Col} {l out : List Nat} {k x : Nat}
theorem blacks_next (h : l[k]? = some x) : (C.blacks (l.take k)).black x = C.blacks (l.take (k + 1)) := by
  rw [List.take_add_one, h]
  simp [Col.blacks]
theorem blacks_mz (l : List Nat) : ∀ (C : Col) (x : Nat), (C.blacks l).mz x = (C.mz x || decide (x ∈ l)) ∧ (C.blacks l).sc x = (C.sc x || decide (x ∈ l)) := by
  induction l with
  | nil => intro C x; simp [Col.blacks]
  | cons a l ih =>
    intro C x
    show ((C.black a).blacks l).mz x = _ ∧ ((C.black a).blacks l).sc x = _
    rw [(ih _ x).1, (ih _ x).2]
    simp only [Col.black, List.mem_cons]
    by_cases h1 : x = a <;> by_cases h2 : x ∈ l <;> simp [h1, h2]
theorem cutT_none (T : Nat → List Nat) : cutT T [] = T := by funext x; simp [cutT]
theorem cutT_next (T : Nat → List Nat) (h : l[k]? = some x) : updT (cutT T (l.take k)) x [] = cutT T (l.take (k + 1)) := by
  funext y
  rw [List.take_add_one, h]
  by_cases e : y = x
  · subst e; simp [updT, cutT]
  · simp [updT, cutT, e]
theorem mem_next (h : l[k]? = some x) : putB (fun y => decide (y ∈ l.take k)) x = fun y => decide (y ∈ l.take (k + 1)) := by
  funext y
  rw [List.take_add_one, h]
  simp [putB]
theorem Field_.cut {objs : List Nat} {T : Nat → List Nat} (h : Field_ objs T) (l : List Nat) : Field_ objs (cutT T l) :=
  ⟨h.nodup, h.few, h.lt, fun x => by
    unfold cutT
    split
    · simp
    · exact h.short x, fun x hx y hy => by
    unfold cutT at hy
    split at hy
    · cases hy
    · exact h.into x hx y hy⟩
/-- What black ones alone lead to stays white. -/
theorem blacks_end (h : Steps pts d ((Col.white.blacks l).shades out) C) (hno : ∀ x, C.grey x = false) (x : Nat) : C.mz x = true ↔ (Leads (cutT pts l) (fun x => x ∈ out) x ∨ x ∈ l) := by
  have hsc : ∀ x, ((Col.white.blacks l).shades out).sc x = decide (x ∈ l) := fun x => by rw [shades_sc, (blacks_mz l _ x).2]; simp [Col.white]
  have hmz : ∀ x, ((Col.white.blacks l).shades out).mz x = true ↔ (x ∈ l ∨ x ∈ out) := fun x => by rw [shades_mz, (blacks_mz l _ x).1]; simp [Col.white]
  have h2 : Steps (cutT pts l) d ((Col.white.blacks l).shades out) C := h.blind (fun x hx => by
    rw [hsc] at hx
    simp only [decide_eq_false_iff_not] at hx
    simp [cutT, hx])
  rw [h2.done hno (fun y hy z hz => by
    rw [hsc] at hy
    simp only [decide_eq_true_eq] at hy
    simp [cutT, hy] at hz) x]
  constructor
  · intro hl
    induction hl with
    | base hb =>
      rcases (hmz _).1 hb with h1 | h1
      · exact .inr h1
      · exact .inl (.base h1)
    | @step x y _ hy ih =>
      rcases ih with h1 | h1
      · exact .inl (.step h1 hy)
      · simp [cutT, h1] at hy
  · rintro (hl | hl)
    · exact leads_mono (fun x hx => (hmz x).2 (.inr hx)) (fun _ _ h => h) x hl
    · exact .base ((hmz x).2 (.inl hl))
end
end Go.Proofs.Ytbcabjpafeocgaa

/-
  Which pages keep something, as plain data (law SweepPool). Conditions: as each theorem says; no walk.
-/
namespace Go.Proofs.Ytbcabjpafeocgaa
set_option linter.unusedVariables false
set_option linter.unusedSimpArgs false
open Go.RowKit Go.Shelf

/-- So many of K lie in page p. -/
def cntP (K : List Nat) (p : Nat) : Nat := K.countP fun x => decide ((x - 1) / 32 = p)
/-- So many pages bear one of K. -/
def cntK (K : List Nat) : Nat := (List.range 64).countP fun p => decide (0 < cntP K p)
section
variable {K : List Nat} {x p : Nat}
theorem cntP_push (K : List Nat) (x p : Nat) : cntP (K ++ [x]) p = cntP K p + if (x - 1) / 32 = p then 1 else 0 := by
  unfold cntP
  rw [List.countP_append]
  simp [List.countP_cons]
theorem cntK_push (K : List Nat) {x : Nat} (hx : (x - 1) / 32 < 64) : cntK (K ++ [x]) = if 0 < cntP K ((x - 1) / 32) then cntK K else cntK K + 1 := by
  unfold cntK
  split
  · rename_i h
    refine countP_same (fun p _ => ?_)
    rw [cntP_push]
    by_cases e : (x - 1) / 32 = p
    · subst e; simp [h]
    · simp [e]
  · rename_i h
    refine countP_up (k := (x - 1) / 32) hx (by simpa using h) (by rw [cntP_push]; simp) ?_
    intro p _ hne
    rw [cntP_push, if_neg (fun e => hne e.symm)]
    rfl
theorem cntK_le (K : List Nat) : cntK K ≤ 64 := by
  unfold cntK
  have := List.countP_le_length (p := fun p => decide (0 < cntP K p)) (l := List.range 64)
  simpa using this
theorem cntP_le (K : List Nat) (p : Nat) : cntP K p ≤ K.length := List.countP_le_length
end
section
variable {A0 A A' : AR} {C : Col} {K : List Nat} {p : Nat}
/-- What is taken in page p behind its sweep. -/
theorem Swept.inPage (h : Swept A0 (Col.white.blacks K) A C (p + 1)) (hK : ∀ x ∈ K, A0.tk x = true) (x : Nat) : (A.tk x = true ∧ (x - 1) / 32 = p) ↔ (x ∈ K ∧ (x - 1) / 32 = p) := by
  have hm : (Col.white.blacks K).mz x = decide (x ∈ K) := by rw [(blacks_mz K _ x).1]; simp [Col.white]
  rw [h.tk x, hm]
  constructor
  · rintro ⟨h1, h2⟩
    simp only [Bool.and_eq_true, Bool.or_eq_true, decide_eq_true_eq] at h1
    exact ⟨h1.2.resolve_right (by omega), h2⟩
  · rintro ⟨h1, h2⟩
    exact ⟨by simp [hK x h1, h1], h2⟩
theorem Swept.cells (h : Swept A0 (Col.white.blacks K) A C (p + 1)) (hK : ∀ x ∈ K, A0.tk x = true) (hn : K.Nodup) (hp : p < A.n) : (A.cellsOf (p : Int)).length = cntP K p := by
  have h1 : ∀ x, x ∈ A.cellsOf (p : Int) ↔ x ∈ K.filter fun x => decide ((x - 1) / 32 = p) := by
    intro x
    rw [mem_cellsOf h.wf hp, h.inPage hK, List.mem_filter, decide_eq_true_eq]
  have hlt : ∀ x ∈ A.cellsOf (p : Int), x < A.n * 32 + 1 := fun x hx => (h.wf.lt ((mem_cellsOf h.wf hp).1 hx).1).2.1
  have e1 := elems_count (S := fun x => decide (x ∈ A.cellsOf (p : Int))) (cells_nodup A _) hlt (fun x hx => by simpa using hx)
  have e2 := elems_count (S := fun x => decide (x ∈ A.cellsOf (p : Int))) (hn.filter fun x => decide ((x - 1) / 32 = p)) (fun x hx => hlt x ((h1 x).2 hx)) (fun x hx => (h1 x).1 (by simpa using hx))
  rw [countP_all (f := fun x => decide (x ∈ A.cellsOf (p : Int))) (fun x hx => by simpa using hx)] at e1
  rw [countP_all (f := fun x => decide (x ∈ A.cellsOf (p : Int))) (fun x hx => by simpa using (h1 x).2 hx)] at e2
  unfold cntP
  rw [List.countP_eq_length_filter]
  omega
theorem cntP_pos {p : Nat} : 0 < cntP K p ↔ ∃ x ∈ K, (x - 1) / 32 = p := by
  unfold cntP
  rw [List.countP_pos_iff]
  simp
theorem Swept.cls_at (h : Swept A0 (Col.white.blacks K) A C (p + 1)) (hK : ∀ x ∈ K, A0.tk x = true) (hp : p < A.n) : A.clsZ (p : Int) = if cntP K p = 0 then -1 else A0.clsZ (p : Int) := by
  have e1 : A.clsZ (p : Int) = A.cls p := by unfold AR.clsZ; rw [if_pos (by omega)]; simp
  have e2 : A0.clsZ (p : Int) = A0.cls p := by unfold AR.clsZ; rw [if_pos (by rw [← h.n]; omega)]; simp
  rw [e1, e2]
  split
  · rename_i h0
    refine (h.wf.cls_none hp).2 (fun x hx e => ?_)
    have := cntP_pos.2 ⟨x, ((h.inPage hK x).1 ⟨hx, e⟩).1, e⟩
    omega
  · rename_i h0
    obtain ⟨x, hx, hxp⟩ := cntP_pos.1 (Nat.pos_of_ne_zero h0)
    rcases h.cls p with h1 | h1
    · exact h1
    · exact absurd hxp ((h.wf.cls_none hp).1 h1 x ((h.inPage hK x).2 ⟨hx, hxp⟩).1)
/-- A page that is still to come is of its class still. -/
theorem Swept.cls_ahead (h : Swept A0 (Col.white.blacks K) A C p) (hw : A0.Wf) (hp : p < A.n) : A.clsZ (p : Int) = A0.clsZ (p : Int) := by
  have e1 : A.clsZ (p : Int) = A.cls p := by unfold AR.clsZ; rw [if_pos (by omega)]; simp
  have e2 : A0.clsZ (p : Int) = A0.cls p := by unfold AR.clsZ; rw [if_pos (by rw [← h.n]; omega)]; simp
  rw [e1, e2]
  rcases h.cls p with h1 | h1
  · exact h1
  · rcases hw.cls p (by rw [← h.n]; exact hp) with h2 | h2
    · rw [h1, h2]
    · obtain ⟨x, hx, hxp⟩ := cls_has hw (by rw [← h.n]; exact hp) h2.1
      have h3 : A.tk x = true := by rw [h.tk x, hx, hxp]; simp
      exact absurd hxp ((h.wf.cls_none hp).1 h1 x h3)
/-- So many pages are free in the end. -/
theorem Swept.frees (h : Swept A0 (Col.white.blacks K) A C 64) (hK : ∀ x ∈ K, A0.tk x = true) (hn : A.n = 64) : A.free = 64 - (cntK K : Int) := by
  have hm : ∀ x, (Col.white.blacks K).mz x = decide (x ∈ K) := fun x => by rw [(blacks_mz K _ x).1]; simp [Col.white]
  have htk : ∀ x, A.tk x = true ↔ x ∈ K := by
    intro x
    constructor
    · intro hx
      have hlt := (h.wf.lt hx).2.1
      rw [h.tk x, hm] at hx
      simp only [Bool.and_eq_true, Bool.or_eq_true, decide_eq_true_eq] at hx
      refine hx.2.resolve_right (fun e => ?_)
      omega
    · intro hx
      rw [h.tk x, hm, hK x hx]
      simp [hx]
  have hcls : ∀ q, q < 64 → (decide (A.cls q < 0) = !decide (0 < cntP K q)) := by
    intro q hq
    have hqn : q < A.n := by omega
    by_cases e : 0 < cntP K q
    · obtain ⟨x, hx, hxp⟩ := cntP_pos.1 e
      rcases h.wf.cls q hqn with h1 | h1
      · exact absurd hxp ((h.wf.cls_none hqn).1 h1 x ((htk x).2 hx))
      · rw [decide_eq_false (by omega), decide_eq_true e]; rfl
    · have h1 := (h.wf.cls_none hqn).2 (fun x hx hxp => e (cntP_pos.2 ⟨x, (htk x).1 hx, hxp⟩))
      rw [h1, decide_eq_false e]; rfl
  have h2 := h.wf.free
  rw [hn, countP_same (g := fun q => !decide (0 < cntP K q)) (fun q hq => hcls q (by simpa using hq))] at h2
  have h3 := List.length_eq_countP_add_countP (fun q => decide (0 < cntP K q)) (l := List.range 64)
  rw [List.length_range] at h3
  unfold cntK
  rw [h2]
  have h4 : (List.range 64).countP (fun q => !decide (0 < cntP K q)) = (List.range 64).countP (fun q => decide ¬(decide (0 < cntP K q)) = true) := countP_same (fun q _ => by by_cases e : 0 < cntP K q <;> simp [e])
  omega
end
end Go.Proofs.Ytbcabjpafeocgaa

/-
  Objects that are born while a sweep is under way, as plain data (law SweepMeets). Conditions: as each theorem says; no walk.
-/
namespace Go.Proofs.Ytbcabjpafeocgaa
set_option linter.unusedVariables false
set_option linter.unusedSimpArgs false
open Go.RowKit Go.Shelf

/-- Behind A1 just F were taken. -/
structure Met (A1 A : AR) (F : List Nat) : Prop where
  wf : A.Wf
  n : A.n = 64
  tk : ∀ x, A.tk x = true ↔ (A1.tk x = true ∨ x ∈ F)
  nodup : F.Nodup
  new : ∀ x ∈ F, A1.tk x = false
section
variable {A1 A A' : AR} {C : Col} {F : List Nat} {k : Nat}
theorem Met.start (h : A1.Wf) (hn : A1.n = 64) : Met A1 A1 [] := ⟨h, hn, fun x => by simp, List.nodup_nil, fun x hx => by simp at hx⟩
theorem Met.take (h : Met A1 A F) {c : Int} {r : Nat} (ht : A.take c = some (r, A')) : Met A1 A' (F ++ [r]) ∧ A1.tk r = false ∧ A'.tk r = true := by
  obtain ⟨p, j, ht⟩ := h.wf.take_spec ht
  have hf := ht.free
  have h1 : A1.tk r = false := by
    cases e : A1.tk r with
    | false => rfl
    | true => rw [(h.tk r).2 (.inl e)] at hf; cases hf
  have h2 : r ∉ F := fun e => by rw [(h.tk r).2 (.inr e)] at hf; cases hf
  refine ⟨⟨ht.wf, ht.n.trans h.n, fun x => ?_, List.nodup_append.2 ⟨h.nodup, by simp, fun a ha b hb e => h2 (by simp at hb; rw [← hb, ← e]; exact ha)⟩, fun x hx => ?_⟩, h1, by rw [ht.tk]; simp⟩
  · rw [ht.tk]
    simp only [Bool.or_eq_true, decide_eq_true_eq, h.tk x, List.mem_append, List.mem_singleton]
    exact or_assoc
  · rcases List.mem_append.1 hx with hx | hx
    · exact h.new x hx
    · simp at hx; subst hx; exact h1
theorem Met.at_ (h : Met A1 A F) {r : Nat} (hr : A.tk r = true) : 0 < r ∧ r < 2049 ∧ ∃ q : Nat, q < 64 ∧ A.page (r : Int) = (q : Int) ∧ (r - 1) / 32 = q := by
  obtain ⟨q, kq, hq, hz1_, hz2_, hz3_, hz4_, hpq, hz5_, hdq⟩ := h.wf.at_ hr
  have hlt := h.wf.lt hr
  have hn := h.n
  exact ⟨by omega, by omega, q, by omega, hpq, hdq⟩
/-- What is marked of these: those in pages from k on. -/
def ahead (k : Nat) (F : List Nat) : Col := Col.white.blacks (F.filter fun x => decide (k ≤ (x - 1) / 32))
theorem ahead_nil : ahead k [] = Col.white := rfl
theorem ahead_yes {r : Nat} (h : k ≤ (r - 1) / 32) : ahead k (F ++ [r]) = (ahead k F).black r := by
  unfold ahead
  rw [List.filter_append]
  simp [h, Col.blacks]
theorem ahead_no {r : Nat} (h : ¬ k ≤ (r - 1) / 32) : ahead k (F ++ [r]) = ahead k F := by
  unfold ahead
  rw [List.filter_append]
  simp [h]
theorem Met.swept (h : Met A1 A F) (hb : BareP A1 k) : Swept A (Col.white.blacks F) A (ahead k F) k := by
  have hm : ∀ (G : List Nat) (x : Nat), (Col.white.blacks G).mz x = decide (x ∈ G) := fun G x => by rw [(blacks_mz G _ x).1]; simp [Col.white]
  have hsc : ∀ (G : List Nat) (x : Nat), (Col.white.blacks G).sc x = decide (x ∈ G) := fun G x => by rw [(blacks_mz G _ x).2]; simp [Col.white]
  refine ⟨h.wf, rfl, rfl, fun x => ?_, fun x => ?_, fun x hx => ?_, fun q => .inl rfl⟩
  · rw [hm]
    cases e : A.tk x with
    | false => rfl
    | true =>
      rcases (h.tk x).1 e with h1 | h1
      · have := hb x h1; simp [this]
      · simp [h1]
  · unfold ahead
    rw [hm, hm]
    by_cases e : x ∈ F
    · have ht := (h.tk x).2 (.inr e)
      by_cases e2 : k ≤ (x - 1) / 32
      · have : ¬ (x - 1) / 32 < k := by omega
        simp [e, e2, ht, this]
      · have : (x - 1) / 32 < k := by omega
        simp [e, e2, ht, this]
    · simp [e]
  · unfold ahead at hx ⊢
    rw [hsc] at hx
    rw [hm]
    exact hx
theorem Met.done (h : Met A1 A F) (hs : Swept A (Col.white.blacks F) A' C 64) : (∀ x, A'.tk x = true ↔ x ∈ F) ∧ (∀ x ∈ F, C.mz x = false) ∧ (elems (A'.n * 32 + 1) A'.tk).length = F.length := by
  have hm : ∀ (G : List Nat) (x : Nat), (Col.white.blacks G).mz x = decide (x ∈ G) := fun G x => by rw [(blacks_mz G _ x).1]; simp [Col.white]
  have h1 : ∀ x, A'.tk x = true ↔ x ∈ F := by
    intro x
    constructor
    · intro hx
      have hx' := hx
      rw [hs.tk x, hm] at hx
      simp only [Bool.and_eq_true, Bool.or_eq_true, decide_eq_true_eq] at hx
      refine hx.2.resolve_right (fun e => ?_)
      have h3 := (h.wf.lt hx.1).2.1
      have h4 := h.n
      omega
    · intro hx
      rw [hs.tk x, hm, (h.tk x).2 (.inr hx)]
      simp [hx]
  refine ⟨h1, fun x hx => ?_, ?_⟩
  · rw [hs.mz x, hm]
    have ht := (h.tk x).2 (.inr hx)
    have h3 := (h.wf.lt ht).2.1
    have h4 := h.n
    have h5 : (x - 1) / 32 < 64 := by omega
    simp [ht, h5]
  · have hlt : ∀ x ∈ F, x < A'.n * 32 + 1 := fun x hx => (hs.wf.lt ((h1 x).2 hx)).2.1
    rw [elems_count h.nodup hlt (fun x hx => (h1 x).1 hx)]
    exact List.countP_eq_length.2 (fun x hx => (h1 x).2 hx)
end
end Go.Proofs.Ytbcabjpafeocgaa

/-
  The sweeper's Page where nothing is marked; the page that it stands at as a measure. Conditions: as each theorem says.
-/
namespace Go.Proofs.Ytbcabjpafeocgaa
set_option linter.unusedVariables false
set_option linter.unusedSimpArgs false
open Go.RowKit Go.Shelf

/-- So many pages are still to come. -/
def leftM (s : Nat) (W : World) : Nat := 65 - (match W.cell? ⟨s, 1, none⟩ with | some v => (intOf v).toNat | none => 0)
section
variable {w0 w : World} {L R0 : List Res} {s m a n pg : Nat} {C : Col} {A : AR} {on : Bool}
theorem leftM_is (S : Sep w0 w L) (i : Nat) (hi : L[i]? = some (sweepR s m pg on)) : leftM s w = 65 - pg := by
  have c1 := (S.blk i (by unfold sweepR at hi; exact hi)).cell 1
  simp only [List.getElem?_toArray, List.getElem?_cons_zero, List.getElem?_cons_succ] at c1
  unfold leftM
  rw [c1]
  simp [intOf]
theorem PageBare (hw : A.Wf) (hn : A.n = 64) (hb : BareP A pg) (hpg : pg ≤ 64) (S : Sep w0 w (sweepR s m pg (decide (pg < 64)) :: markR m a 2049 Col.white :: arenaR a A :: R0)) :
    Calls Try.prog 22 #[.pointer (some ⟨s, 0, none⟩)] w fun e w' => ∃ (Al : Option Addr) (k cap pg2 : Nat) (A2 : AR), e = .returned (.slice Al k cap) ∧ A2.Wf ∧ A2.n = 64 ∧ BareP A2 pg2 ∧ pg2 ≤ 64 ∧ pg2 = (if pg < 64 then pg + 1 else pg) ∧ k ≤ 100 ∧ (k : Int) + A2.total = A.total ∧ Sep w0 w' (sweepR s m pg2 (decide (pg2 < 64)) :: markR m a 2049 Col.white :: arenaR a A2 :: R0) := by
  by_cases hlt : pg < 64
  · rw [decide_eq_true hlt] at S
    have hnd := cells_nodup A (pg : Int)
    have hin : ∀ x ∈ A.cellsOf (pg : Int), A.tk x = true := fun x hx => ((mem_cellsOf hw (by omega)).1 hx).1
    have hsz : A.size = ((2049 : Nat) : Int) := by unfold AR.size; rw [hn]
    refine (PPage hw hsz (fun x h => h) hnd (cells_below hw hn hlt) (by omega) S).mono ?_
    rintro e w' ⟨v, rfl, hs⟩
    rw [white_whites, white_forgets, hn] at hs
    obtain ⟨Al, cap, rfl, _, _⟩ := hs.rowShape 0 rfl
    have hfew := cellsOf_few A (pg : Int)
    have ht := gives_total hw hnd hin
    exact ⟨Al, _, cap, pg + 1, A.gives (A.cellsOf (pg : Int)), rfl, gives_wf hw _, (gives_n A _).trans hn, hb.next hw (by omega), by omega, by rw [if_pos hlt], by omega, by omega, hs.tail⟩
  · rw [decide_eq_false hlt] at S
    refine (ZPageOff S 0 rfl).mono ?_
    rintro e w' ⟨rfl, rfl⟩
    exact ⟨none, 0, 0, pg, A, rfl, hw, hn, hb, hpg, by rw [if_neg hlt], by omega, by simp, by rw [decide_eq_false hlt]; exact S⟩
end
end Go.Proofs.Ytbcabjpafeocgaa

/-
  The walk of SweepMeets. Conditions: as the theorem says.
-/
namespace Go.Proofs.Ytbcabjpafeocgaa
set_option linter.unusedVariables false
set_option linter.unusedSimpArgs false
open Go.RowKit Go.Shelf
attribute [local go_sem] Oper.semAt_some wide_fn round_fn wide_depth round_depth
attribute [local simp] wide_fn round_fn wide_depth round_depth

theorem TAAllQ {w0 w : World} {L : List Res} (S : Sep w0 w L) (a : Nat) : ∃ q, Calls Try.prog 36 #[.pointer (some ⟨a, 0, none⟩)] w fun e w' => e = .returned (.func (.func 69) #[] #[.pointer (some ⟨q, 0, none⟩)]) ∧ Sep w0 w' (blkR q 27 #[.pointer (some ⟨a, 0, none⟩)] :: L) := ⟨_, TAAll S a⟩
theorem putB_in (pre : List Nat) (x : Nat) : putB (fun y => decide (y ∈ pre)) x = fun y => decide (y ∈ pre ++ [x]) := by
  funext y
  unfold putB
  by_cases h1 : y ∈ pre <;> by_cases h2 : y = x <;> simp [h1, h2]
theorem elems_in {n : Nat} {S : Nat → Bool} (h : ∀ x, S x = true → x < n) : (fun y => decide (y ∈ elems n S)) = S := by
  funext y
  cases e : S y with
  | false => exact decide_eq_false (fun h2 => by rw [(mem_elems.1 h2).2] at e; cases e)
  | true => exact decide_eq_true (mem_elems.2 ⟨h y e, e⟩)
theorem elems_few (n : Nat) (S : Nat → Bool) : (elems n S).length ≤ n := by
  unfold elems
  refine Nat.le_trans (List.length_filter_le _ _) ?_
  simp
set_option maxRecDepth 100000 in
set_option maxHeartbeats 16000000 in
theorem sweepMeets_walk (A0 : Option Addr) (n0 c0 : Nat) (D0 : Nat → Nat → Int) (A1 : Option Addr) (n1 c1 : Nat) (D1 : Nat → Nat → Int) (r0 : Int) (A2 : Option Addr) (n2 c2 : Nat) (D2 : Nat → Nat → Int) (w : World) (hz0 : ArgI w A0 n0 [.u8] D0) (hm0 : n0 ≤ maxLen) (hz1 : ArgI w A1 n1 [.u16, .u16, .u16] D1) (hm1 : n1 ≤ maxLen) (hr0 : (Lit.int .u8 r0).wf = true) (hz2 : ArgI w A2 n2 [.u8] D2) (hm2 : n2 ≤ maxLen) :
    Calls Try.prog 8 #[.agg #[.slice A0 n0 c0, .slice A1 n1 c1], .int .u8 r0, .slice A2 n2 c2] w fun e w' => e = .returned (.bool true) ∧ Below w.heap.size w w' := by
  have HZ0 := Lib.hid hz0
  have HZ1 := Lib.hid hz1
  have HZ2 := Lib.hid hz2
  have hr0w := wf8 hr0
  unfold maxLen at hm0 hm1
  try unfold maxLen at hm2
  clear hz0 hz1 hz2
  obtain ⟨T, hT⟩ : ∃ T, w.heap.size = T := ⟨_, rfl⟩
  obtain ⟨k0, hk0, hk0l⟩ : ∃ q : Nat, r0 % 10 = (q : Int) ∧ q ≤ 9 := ⟨(r0 % 10).toNat, by omega, by omega⟩
  have hk0t : r0.tmod 10 = (k0 : Int) := by rw [Int.tmod_eq_emod_of_nonneg (by omega)]; exact hk0
  have hmm := @run_makeMap Try.prog
  have hs0 := (Sep.start w).box #[.slice A0 n0 c0, .slice A1 n1 c1] 25
  rw [hT] at hs0
  have HS0 := Lib.hid hs0
  clear hs0
  refine calls_wide ?_
  refine callsIn_of_wp_marks Try.func8 rfl trivial ?_
  simp only [Try.ntmps8, List.size_toArray, List.length_cons, List.length_nil, Nat.reduceAdd, Nat.reduceSub, Array.replicate_succ, Array.replicate_zero, List.push_toArray, List.append_toArray, List.nil_append, List.cons_append]
  refine wpIn_wide.2 ?_
  by_cases hsmall : n0 ≤ 40 ∧ n1 ≤ 120 ∧ n2 ≤ 20
  · have hsd : (decide (n0 ≤ 40) && decide (n1 ≤ 120)) = true := by rw [decide_eq_true hsmall.1, decide_eq_true hsmall.2.1]; rfl
    have HSD := Lib.hid hsd
    obtain ⟨hn0, hn1, hn2⟩ := hsmall
    have hn20 : ¬ (20 : Int) < (n2 : Int) := by omega
    clear hsd
    go_wp2_with (first
      | (go_at_call 12; refine (fit18 _).mono ?_; rintro e w1 ⟨rfl, hC⟩; have hs1 := HS0.out.same hC; have p0 := (hs1.blk 0 rfl).cell 0; have p1 := (hs1.blk 0 rfl).cell 1; simp only [List.getElem?_toArray, List.getElem?_cons_zero, List.getElem?_cons_succ] at p0 p1; have HS1 := Lib.hid hs1; clear hC hs1 HS0)
      | (go_at_call 13; refine (Small11 _ A0 n0 c0 A1 n1 c1).mono ?_; rw [HSD.out]; rintro e w2 ⟨rfl, hC⟩; have hs1 := HS1.out.same hC; have p0 := (hs1.blk 0 rfl).cell 0; have p1 := (hs1.blk 0 rfl).cell 1; simp only [List.getElem?_toArray, List.getElem?_cons_zero, List.getElem?_cons_succ] at p0 p1; have HS2 := Lib.hid hs1; clear hC hs1 HS1)
      | (go_at_call 14; refine (Made11 A0 n0 c0 D0 A1 n1 c1 D1 HZ0.out HZ1.out hn0 hn1 HS2.out).mono ?_; rintro e w3 ⟨a, b, v, A, rs, fs, rfl, hgr, hlen, hs⟩; have p0 := (hs.blk 3 rfl).cell 0; have p1 := (hs.blk 3 rfl).cell 1; simp only [List.getElem?_toArray, List.getElem?_cons_zero, List.getElem?_cons_succ] at p0 p1; have HGR := Lib.hid hgr; obtain ⟨AL, capl, rfl, hcapl, hmcapl⟩ := hs.rowShape 1 rfl; unfold maxLen at hmcapl; obtain ⟨Rn, hRn⟩ : ∃ Rn, rs.length = Rn := ⟨_, rfl⟩; have HRN := Lib.hid hRn; rw [hRn] at hcapl hs; try rw [hRn]; rw [hRn] at hlen; have hl40 : Rn ≤ 40 := (by omega); have HLEN := Lib.hid hlen; have HS3 := Lib.hid hs; clear hs hgr HS2 hRn hlen)
      | (go_at_call 15; refine (KNew HS3.out 0 rfl HGR.out.size (by omega) 64 (by omega)).mono ?_; rintro e w4 ⟨m, rfl, hs⟩; have HC := Lib.hid (ZNew hs m); clear hs HS3)
      | (go_at_call 18; refine (HC.out).mono ?_; rintro e w5 ⟨s, rfl, hs⟩; have HBG := Lib.hid (ZBegin hs 0 rfl); clear hs HC)
      | (go_at_call 19; refine (HBG.out).mono ?_; rintro e w6 ⟨rfl, hs⟩; have HS6 := Lib.hid (show Sep w w6 (sweepR s m 0 true :: markR m a 2049 (Col.white) :: arenaR a A :: []) from ((show Sep w w6 (sweepR s m 0 true :: markR m a 2049 (Col.white) :: arenaR a A :: rowR 35 1 (.slice AL Rn capl) Rn (nums rs) :: adjR Try.prog 35 35 b (ptsOf fs) :: blkR T 25 #[.slice A0 n0 c0, .slice A1 n1 c1] :: []) from hs).front 6 [3, 4, 5, 0, 1, 2]).tail.tail.tail); clear hs HBG))
    go_loopw [49] (fun iv wr => ∃ (j : Nat) (AA : AR), j ≤ k0 ∧ iv = .int .i64 j ∧ AA.Wf ∧ AA.n = 64 ∧ BareP AA j ∧ Sep w wr (sweepR s m j (decide (j < 64)) :: markR m a 2049 (Col.white) :: arenaR a AA :: [])) (fun iv _ => k0 + 1 - (intOf iv).toNat)
    case atStart => exact ⟨0, A, by omega, rfl, HGR.out.heap.wf, HGR.out.n, fun x _ => Nat.zero_le _, HS6.out⟩
    case round =>
      clear HS6
      obtain ⟨j, AA, hj, rfl, hw, hn, hb, hs⟩ := hrel
      by_cases hlt : j < k0
      · have hltI : (j : Int) < (k0 : Int) := by omega
        have HPG := Lib.hid (PageBare hw hn hb (by omega) hs)
        clear hs hw hn hb
        go_wp2_with (go_at_call 22; refine (HPG.out).mono ?_; rintro e w7 ⟨Al, kk, capk, pg2, AA2, rfl, hw2, hn2_, hb2, hp2, hpe, hk2, ht2, hs⟩; rw [if_pos (by omega)] at hpe; subst hpe; have HS7 := Lib.hid hs; have HW2 := Lib.hid hw2; have HN2 := Lib.hid hn2_; have HB2 := Lib.hid hb2; clear hs hw2 hn2_ hb2 ht2 HPG)
        go_roundw
        case rel => exact ⟨j + 1, AA2, by omega, by go_num, HW2.out, HN2.out, HB2.out, HS7.out⟩
        case measure => simp [intOf]; omega
      · obtain rfl : k0 = j := by omega
        have HW2 := Lib.hid hw
        have HN2 := Lib.hid hn
        have HBB := Lib.hid hb
        rw [decide_eq_true (show k0 < 64 by omega)] at hs
        obtain ⟨mo, hmo⟩ : ∃ mi, wr.heap.size = mi := ⟨_, rfl⟩
        have hs5 := (hs.newMap Try.prog 51 35 3 .i64 .i64).box #[.map (some wr.heap.size)] 51
        rw [World.size_alloc, hmo] at hs5
        have n0_ := (hs5.blk 0 rfl).cell 0
        have n1_ := (hs5.blk 0 rfl).frozen 0
        simp only [List.getElem?_toArray, List.getElem?_cons_zero] at n0_
        obtain ⟨q, hce⟩ := TAAllQ hs5 a
        have HCE := Lib.hid hce
        clear hs hs5 hw hn hb hce
        go_wp2_with (go_at_call 36; refine (HCE.out).mono ?_; rintro e w6 ⟨rfl, hs⟩; have HS6 := Lib.hid hs; clear hs HCE n0_ n1_)
        try simp only [hmo]
        clear hmo
        have HS9 := Lib.hid (show Sep w w6 ([blkR q 27 #[.pointer (some ⟨a, 0, none⟩)], arenaR a AA] ++ (marksR [] :: blkR (mo + 1) 51 #[.map (some mo)] :: mapR Try.prog 51 35 3 .i64 .i64 mo (([] : List Nat).length) (visM (fun y => decide (y ∈ ([] : List Nat)))) :: sweepR s m k0 true :: markR m a 2049 (Col.white) :: [])) from by
          rw [show (fun y => decide (y ∈ ([] : List Nat))) = fun _ => false from by funext y; simp, visM_none]
          exact HS6.out.noMarks.front 7 [1, 6, 0])
        clear HS6
        refine (wpIn_wide (n := 0)).1 ?_
        refine wp_rangeM (Ds := []) (gf := 69) (lb := #[.pointer (some ⟨q, 0, none⟩)]) rfl (enters_of Try.func69 (by kernel_rfl) rfl) (arena_iter q a AA) (fun _ => rfl) HS9.out
          (fun pre Rs => Rs = blkR (mo + 1) 51 #[.map (some mo)] :: mapR Try.prog 51 35 3 .i64 .i64 mo (pre.length) (visM (fun y => decide (y ∈ pre))) :: sweepR s m k0 true :: markR m a 2049 (Col.white) :: []) (fun _ _ _ => False) rfl ?roundA ?doneA ?stopA
        case stopA => rintro _ _ _ _ _ _ h; exact h.elim
        case roundA =>
          rintro l1 pre y _ G V1 r1 hpre rfl hS1
          simp only [List.cons_append, List.nil_append] at hS1
          have hpl : pre.length < 3000 := by
            have h1 := hpre.length_le
            have h2 := elems_few (AA.n * 32 + 1) AA.tk
            have h3 := HN2.out
            rw [List.length_append, List.length_singleton] at h1
            omega
          have hy := mem_elems.1 (hpre.subset (by simp : y ∈ pre ++ [y]))
          have hy2 : y < 3000 := by have := HN2.out; omega
          have hyp : y ∉ pre := fun h => by
            have h1 := (elems_nodup (AA.n * 32 + 1) AA.tk).sublist hpre.sublist
            exact (List.nodup_append.1 h1).2.2 y h y (by simp) rfl
          have HYP := Lib.hid hyp
          have HS1 := Lib.hid hS1
          clear hpre hS1 HS9 hy hyp
          gi_wp2
          refine ⟨[], HS1.out, ?_⟩
          intro r' V2 hS2
          simp only [List.cons_append, List.nil_append] at hS2
          have y0 := (hS2.blk 3 rfl).cell 0
          simp only [List.getElem?_toArray, List.getElem?_cons_zero, List.getElem?_cons_succ] at y0
          obtain ⟨w8, hput, hs8⟩ := map_put refIntOk hS2 4 rfl (by unfold maxLen; omega) (wfx (x := y) (by omega)) (c := 1) (by decide)
          have HPT := Lib.hid hput
          rw [visM_put, visM_at, decide_eq_false HYP.out, putB_in] at hs8
          have HS8 := Lib.hid hs8
          clear hS2 HS1 hput hs8
          gi_wp2_with (gi_at_mapUpdate; refine wpListIn_mapUpdate_run rfl _ _ _ _ rfl rfl rfl rfl HPT.out ?_; clear HPT)
          refine ⟨_, rfl, ?_⟩
          rw [List.length_append]
          exact HS8.out
        rintro Ds _ V hR hS
        subst hR
        simp only [List.cons_append, List.nil_append] at hS
        rw [elems_in (fun x hx => (HW2.out.lt hx).2.1)] at hS
        obtain ⟨on_, hon⟩ : ∃ n, (elems (AA.n * 32 + 1) AA.tk).length = n := ⟨_, rfl⟩
        rw [hon] at hS
        have HSA := Lib.hid (show Sep w V (rowR 35 1 (.slice none 0 0) 0 (nums []) :: marksR Ds :: blkR (mo + 1) 51 #[.map (some mo)] :: mapR Try.prog 51 35 3 .i64 .i64 mo (on_) (visM (AA.tk)) :: sweepR s m k0 true :: markR m a 2049 (ahead k0 []) :: arenaR a AA :: []) from ((show Sep w V (blkR q 27 #[.pointer (some ⟨a, 0, none⟩)] :: marksR Ds :: blkR (mo + 1) 51 #[.map (some mo)] :: mapR Try.prog 51 35 3 .i64 .i64 mo (on_) (visM (AA.tk)) :: sweepR s m k0 true :: markR m a 2049 (Col.white) :: arenaR a AA :: []) from hS.front 7 [0, 2, 3, 4, 5, 6, 1]).tail).nilRow 35 1)
        clear hS HS9 hon
        go_wp2_with fail
        go_loopw [15, 62] (fun fv iv wr => ∃ (j : Nat) (F : List Nat) (AF : Option Addr) (Fn capf : Nat) (A3_ : AR), j ≤ n2 ∧ iv = .int .i64 j ∧ fv = .slice AF Fn capf ∧ Met AA A3_ F ∧ F.length = Fn ∧ Fn ≤ j ∧ Sep w wr (rowR 35 1 (.slice AF Fn capf) Fn (nums F) :: marksR Ds :: blkR (mo + 1) 51 #[.map (some mo)] :: mapR Try.prog 51 35 3 .i64 .i64 mo (on_) (visM (AA.tk)) :: sweepR s m k0 true :: markR m a 2049 (ahead k0 F) :: arenaR a A3_ :: [])) (fun _ iv _ => n2 + 1 - (intOf iv).toNat)
        case atStart => exact ⟨0, [], none, 0, 0, AA, by omega, rfl, rfl, Met.start HW2.out HN2.out, rfl, by omega, HSA.out⟩
        case round =>
          clear HSA
          obtain ⟨j, F, AF, Fn, capf, A3_, hj, rfl, rfl, hmet, hfl, hfj, hs⟩ := hrel
          by_cases hlt : j < n2
          · have hltI : (j : Int) < (n2 : Int) := by omega
            have HMET := Lib.hid hmet
            have HFL := Lib.hid hfl
            clear hmet hfl
            obtain ⟨ab, ao, hA0, hcell⟩ := HZ2.out.at_ hs.own hlt
            subst hA0
            have hc0 := hcell 0 _ rfl
            have hw0 := wf8 (HZ2.out.wf hlt 0 .u8 rfl)
            simp at hc0
            obtain ⟨d0, h0⟩ : ∃ d, D2 j 0 = d := ⟨_, rfl⟩
            rw [h0] at hc0 hw0
            clear hcell h0
            obtain ⟨c0_, hc0_, hc0_l⟩ : ∃ q : Nat, d0 % 3 = (q : Int) ∧ q ≤ 2 := ⟨(d0 % 3).toNat, by omega, by omega⟩
            have hc0_t : d0.tmod 3 = (c0_ : Int) := by rw [Int.tmod_eq_emod_of_nonneg (by omega)]; exact hc0_
            have htk := TATake hs 6 rfl HMET.out.wf (c0_ : Int)
            obtain ⟨ot, hot⟩ : ∃ ot, A3_.take (c0_ : Int) = ot := ⟨_, rfl⟩
            rcases ot with _ | ⟨r, A4_⟩
            · rw [hot, takeV_none, takeA_none hot] at htk
              have HTK := Lib.hid htk
              clear hs htk hot
              go_wp2_with (go_at_call 37; refine (HTK.out).mono ?_; rintro e w7 ⟨rfl, hs⟩; have HS8 := Lib.hid (show Sep w w7 (rowR 35 1 (.slice AF Fn capf) Fn (nums F) :: marksR Ds :: blkR (mo + 1) 51 #[.map (some mo)] :: mapR Try.prog 51 35 3 .i64 .i64 mo (on_) (visM (AA.tk)) :: sweepR s m k0 true :: markR m a 2049 (ahead k0 F) :: arenaR a A3_ :: []) from hs); clear hs HTK)
              refine leavesM (L := rowR 35 1 (.slice AF Fn capf) Fn (nums F) :: blkR (mo + 1) 51 #[.map (some mo)] :: mapR Try.prog 51 35 3 .i64 .i64 mo (on_) (visM (AA.tk)) :: sweepR s m k0 true :: markR m a 2049 (ahead k0 F) :: arenaR a A3_ :: []) (fun w' hs => ⟨_, results_tmp rfl _ _ _, rfl, hs.below⟩) Ds _ (HS8.out.front 2 [1])

            · rw [hot, takeV_some, takeA_some hot] at htk
              obtain ⟨hmet2, hnew, htr⟩ := HMET.out.take hot
              obtain ⟨hr1, hr2, q, hq64, hpq, hdiv⟩ := hmet2.at_ htr
              have HTK := Lib.hid htk
              have HMET2 := Lib.hid hmet2
              have HNEW := Lib.hid hnew
              have HPQ := Lib.hid hpq
              have HDIV := Lib.hid hdiv
              clear hs htk hot hmet2 hnew htr hpq hdiv
              by_cases hkq : k0 ≤ q
              · have HKQ := Lib.hid hkq
                have hkI : (k0 : Int) ≤ (q : Int) := by omega
                go_wp2_with (first
                  | (go_at_call 37; refine (HTK.out).mono ?_; rintro e w7 ⟨rfl, hs⟩; have hs' := (show Sep w w7 (rowR 35 1 (.slice AF Fn capf) Fn (nums F) :: marksR Ds :: blkR (mo + 1) 51 #[.map (some mo)] :: mapR Try.prog 51 35 3 .i64 .i64 mo (on_) (visM (AA.tk)) :: sweepR s m k0 true :: markR m a 2049 (ahead k0 F) :: arenaR a A4_ :: []) from hs); have b0 := (hs'.blk 2 rfl).cell 0; simp only [List.getElem?_toArray, List.getElem?_cons_zero] at b0; have hlk := map_get refIntOk hs' 3 rfl (wfx (x := r) (by omega)); rw [visM_at, HNEW.out] at hlk; simp only [Bool.false_eq_true, if_false, Option.getD_none] at hlk; have hah := ZAhead hs' 4 rfl 5 rfl 6 rfl (r : Int) (by omega); rw [HPQ.out] at hah; have HAH := Lib.hid hah; clear hs hs' hah HTK)
                  | (go_at_call 38; refine (HAH.out).mono ?_; rintro e w8 ⟨rfl, hs⟩; clear b0 hlk; have hpg := TAPage hs 6 rfl (r : Int) (by omega); rw [HPQ.out] at hpg; have HPG := Lib.hid hpg; have hah := ZAhead hs 4 rfl 5 rfl 6 rfl (r : Int) (by omega); rw [HPQ.out] at hah; have HAH2 := Lib.hid hah; clear hs hpg hah HAH)
                  | (go_at_call 17; refine (HPG.out).mono ?_; rintro e w9 ⟨rfl, rfl⟩; clear HPG)
                  | (go_at_call 38; refine (HAH2.out).mono ?_; rintro e w10 ⟨rfl, hs⟩; have HBK := Lib.hid (KBlacken hs 5 rfl r hr1 hr2); clear hs HAH2)
                  | (go_at_call 16; refine (HBK.out).mono ?_; rintro e w11 ⟨rfl, hs⟩; have HS8 := Lib.hid (show Sep w w11 (rowR 35 1 (.slice AF Fn capf) Fn (nums F) :: marksR Ds :: blkR (mo + 1) 51 #[.map (some mo)] :: mapR Try.prog 51 35 3 .i64 .i64 mo (on_) (visM (AA.tk)) :: sweepR s m k0 true :: markR m a 2049 ((ahead k0 F).black r) :: arenaR a A4_ :: []) from hs); clear hs HBK)
                  | (at_builtin; refine wpList_append_sep rfl _ _ 28 rfl 35 (.int .i64 0) 1 8 Try.underlying28 refInfo rfl (by decide) HS8.out 0 rfl rfl [.int .i64 (r : Int)] rfl (by simp [Value.oneCell']) rfl (by unfold maxLen; omega) (by omega) ?_; intro g4 cap4 w4_ hcap4 hcm4 hs4; have HS9 := Lib.hid hs4; clear hs4 HS8))
                go_roundw
                case rel => exact ⟨j + 1, F ++ [r], _, Fn + 1, _, A4_, by omega, by go_num, rfl, HMET2.out, by rw [List.length_append, HFL.out]; rfl, by omega, by
                    rw [nums_append, ahead_yes (by rw [HDIV.out]; exact HKQ.out)]
                    exact HS9.out⟩
                case measure => simp [intOf]; omega
              · have HKQ := Lib.hid hkq
                have hkI : ¬ (k0 : Int) ≤ (q : Int) := by omega
                go_wp2_with (first
                  | (go_at_call 37; refine (HTK.out).mono ?_; rintro e w7 ⟨rfl, hs⟩; have hs' := (show Sep w w7 (rowR 35 1 (.slice AF Fn capf) Fn (nums F) :: marksR Ds :: blkR (mo + 1) 51 #[.map (some mo)] :: mapR Try.prog 51 35 3 .i64 .i64 mo (on_) (visM (AA.tk)) :: sweepR s m k0 true :: markR m a 2049 (ahead k0 F) :: arenaR a A4_ :: []) from hs); have b0 := (hs'.blk 2 rfl).cell 0; simp only [List.getElem?_toArray, List.getElem?_cons_zero] at b0; have hlk := map_get refIntOk hs' 3 rfl (wfx (x := r) (by omega)); rw [visM_at, HNEW.out] at hlk; simp only [Bool.false_eq_true, if_false, Option.getD_none] at hlk; have hah := ZAhead hs' 4 rfl 5 rfl 6 rfl (r : Int) (by omega); rw [HPQ.out] at hah; have HAH := Lib.hid hah; clear hs hs' hah HTK)
                  | (go_at_call 38; refine (HAH.out).mono ?_; rintro e w8 ⟨rfl, hs⟩; clear b0 hlk; have hpg := TAPage hs 6 rfl (r : Int) (by omega); rw [HPQ.out] at hpg; have HPG := Lib.hid hpg; have hah := ZAhead hs 4 rfl 5 rfl 6 rfl (r : Int) (by omega); rw [HPQ.out] at hah; have HAH2 := Lib.hid hah; clear hs hpg hah HAH)
                  | (go_at_call 17; refine (HPG.out).mono ?_; rintro e w9 ⟨rfl, rfl⟩; clear HPG)
                  | (go_at_call 38; refine (HAH2.out).mono ?_; rintro e w10 ⟨rfl, hs⟩; have HS8 := Lib.hid hs; clear hs HAH2)
                  | (at_builtin; refine wpList_append_sep rfl _ _ 28 rfl 35 (.int .i64 0) 1 8 Try.underlying28 refInfo rfl (by decide) HS8.out 0 rfl rfl [.int .i64 (r : Int)] rfl (by simp [Value.oneCell']) rfl (by unfold maxLen; omega) (by omega) ?_; intro g4 cap4 w4_ hcap4 hcm4 hs4; have HS9 := Lib.hid hs4; clear hs4 HS8))
                go_roundw
                case rel => exact ⟨j + 1, F ++ [r], _, Fn + 1, _, A4_, by omega, by go_num, rfl, HMET2.out, by rw [List.length_append, HFL.out]; rfl, by omega, by
                    rw [nums_append, ahead_no (by rw [HDIV.out]; exact HKQ.out)]
                    exact HS9.out⟩
                case measure => simp [intOf]; omega
          · obtain rfl : n2 = j := by omega
            have HMET := Lib.hid hmet
            have HFL := Lib.hid hfl
            have HSL := Lib.hid hs
            clear hs hmet hfl
            go_wp2_with fail
            go_loopw [105] (fun _ wr => ∃ (pg : Nat) (A4_ : AR) (CC : Col), pg ≤ 64 ∧ Swept A3_ (Col.white.blacks F) A4_ CC pg ∧ Sep w wr (rowR 35 1 (.slice AF Fn capf) Fn (nums F) :: marksR Ds :: blkR (mo + 1) 51 #[.map (some mo)] :: mapR Try.prog 51 35 3 .i64 .i64 mo (on_) (visM (AA.tk)) :: sweepR s m pg (decide (pg < 64)) :: markR m a 2049 (CC) :: arenaR a A4_ :: [])) (fun _ wr => leftM s wr)
            case atStart => exact ⟨k0, A3_, _, by omega, HMET.out.swept HBB.out, by rw [decide_eq_true (show k0 < 64 by omega)]; exact HSL.out⟩
            case round =>
              clear HSL
              obtain ⟨pg, A4_, CC, hpg, hsw, hs⟩ := hrel
              have HNN := Lib.hid (show A4_.n = 64 from hsw.n.trans HMET.out.n)
              have HM0 := Lib.hid (leftM_is hs 4 rfl)
              have HON := Lib.hid (ZOn hs 4 rfl)
              by_cases hlt : pg < 64
              · have HD := Lib.hid (decide_eq_true hlt)
                have HLT := Lib.hid hlt
                have HSW := Lib.hid hsw
                rw [decide_eq_true hlt] at hs
                have HPG := Lib.hid (PPage hsw.wf (by unfold AR.size; rw [HNN.out]) hsw.sc (cells_nodup A4_ _) (fun x hx => by have := hsw.below x hx (by rw [HNN.out]; exact hlt); rw [HNN.out] at this; exact this) (by rw [HNN.out]; exact hlt) (show Sep w wr (sweepR s m pg true :: markR m a 2049 (CC) :: arenaR a A4_ :: rowR 35 1 (.slice AF Fn capf) Fn (nums F) :: marksR Ds :: blkR (mo + 1) 51 #[.map (some mo)] :: mapR Try.prog 51 35 3 .i64 .i64 mo (on_) (visM (AA.tk)) :: []) from hs.front 7 [4, 5, 6]))
                clear hs hsw
                go_wp2_with (first
                  | (go_at_call 20; refine (HON.out).mono ?_; rw [HD.out]; rintro e w6 ⟨rfl, rfl⟩; clear HON)
                  | (go_at_call 22; refine (HPG.out).mono ?_; rintro e w9 ⟨vp, rfl, hs⟩; rw [HNN.out] at hs; have hsw2 := HSW.out.next (by rw [HNN.out]; exact HLT.out); obtain ⟨A5_, hA2⟩ : ∃ A2_, A4_.gives (CC.whites (A4_.cellsOf (pg : Int))) = A2_ := ⟨_, rfl⟩; obtain ⟨C2, hC2⟩ : ∃ C2, CC.forgets (A4_.cellsOf (pg : Int)) = C2 := ⟨_, rfl⟩; rw [hA2, hC2] at hs hsw2; have HS7 := Lib.hid (show Sep w w9 (rowR 35 1 (.slice AF Fn capf) Fn (nums F) :: marksR Ds :: blkR (mo + 1) 51 #[.map (some mo)] :: mapR Try.prog 51 35 3 .i64 .i64 mo (on_) (visM (AA.tk)) :: sweepR s m (pg + 1) (decide ((pg + 1) < 64)) :: markR m a 2049 (C2) :: arenaR a A5_ :: []) from (show Sep w w9 (sweepR s m (pg + 1) (decide ((pg + 1) < 64)) :: markR m a 2049 (C2) :: arenaR a A5_ :: rowR 35 1 (.slice AF Fn capf) Fn (nums F) :: marksR Ds :: blkR (mo + 1) 51 #[.map (some mo)] :: mapR Try.prog 51 35 3 .i64 .i64 mo (on_) (visM (AA.tk)) :: []) from hs.tail).front 7 [3, 4, 5, 6, 0, 1, 2]); have HSW2 := Lib.hid hsw2; clear hs hA2 hC2 hsw2 HPG HSW))
                go_roundw
                case rel => exact ⟨pg + 1, A5_, C2, by omega, HSW2.out, HS7.out⟩
                case measure =>
                  have h1 := leftM_is HS7.out 4 rfl
                  have h2 := HM0.out
                  show leftM s _ < leftM s _
                  omega
              · obtain rfl : pg = 64 := by omega
                rw [show decide (64 < 64) = false from rfl] at HON
                have HSWE := Lib.hid hsw
                have HDN := Lib.hid (HMET.out.done hsw)
                have HS5 := Lib.hid hs
                clear hs hsw hlt hpg
                go_wp2_with (go_at_call 20; refine (HON.out).mono ?_; rintro e w6 ⟨rfl, rfl⟩; clear HON)
                go_loopw [110] (fun i wr => ∃ (k : Nat), k ≤ Fn ∧ i = .int .i64 k ∧ Sep w wr (rowR 35 1 (.slice AF Fn capf) Fn (nums F) :: marksR Ds :: blkR (mo + 1) 51 #[.map (some mo)] :: mapR Try.prog 51 35 3 .i64 .i64 mo (on_) (visM (AA.tk)) :: sweepR s m 64 (decide (64 < 64)) :: markR m a 2049 (CC) :: arenaR a A4_ :: [])) (fun i _ => Fn + 1 - (intOf i).toNat)
                case atStart => exact ⟨0, by omega, rfl, HS5.out⟩
                case round =>
                  clear HS5
                  obtain ⟨k, hk, rfl, hs⟩ := hrel
                  by_cases hlt : k < Fn
                  · have hltI : (k : Int) < (Fn : Int) := by omega
                    obtain ⟨x, hx⟩ : ∃ z_, F[k]? = some z_ := ⟨_, List.getElem?_eq_getElem (by rw [HFL.out]; exact hlt)⟩
                    obtain ⟨g, cap', hsl, _, _⟩ := hs.rowSome 0 rfl (by omega)
                    simp only [Value.slice.injEq] at hsl
                    obtain ⟨rfl, _, rfl⟩ := hsl
                    have cx := hs.rowCell 0 rfl k _ (nums_get _ _ _ hx)
                    have HHAS := TAHas hs 6 rfl (x : Int)
                    rw [HSWE.out.wf.has, (HDN.out.1 x).2 (List.mem_of_getElem? hx)] at HHAS
                    have HHA := Lib.hid HHAS
                    have hx2 := HMET.out.at_ ((HMET.out.tk x).2 (.inr (List.mem_of_getElem? hx)))
                    have HMZ := Lib.hid (HDN.out.2.1 x (List.mem_of_getElem? hx))
                    have HX2 := Lib.hid (show x < 2049 from hx2.2.1)
                    clear hs hx HHAS hx2
                    go_wp2_with (first
                      | (go_at_call 39; refine (HHA.out).mono ?_; rintro e w6 ⟨rfl, hs⟩; have hkm := KMarked hs 5 rfl x HX2.out; rw [HMZ.out] at hkm; have HKM := Lib.hid hkm; clear hs hkm HHA)
                      | (go_at_call 32; refine (HKM.out).mono ?_; rintro e w7 ⟨rfl, hs⟩; have HS7 := Lib.hid hs; clear hs HKM))
                    go_roundw
                    case rel => exact ⟨k + 1, by omega, by go_num, HS7.out⟩
                    case measure => simp [intOf]; omega
                  · obtain rfl : Fn = k := by omega
                    obtain ⟨T9, hT9⟩ : ∃ T9, wr.heap.size = T9 := ⟨_, rfl⟩
                    have hb9 := hs.box #[.int .i64 0] 3
                    rw [hT9] at hb9
                    have n0_ := (hb9.blk 0 rfl).cell 0
                    have n1_ := (hb9.blk 0 rfl).frozen 0
                    simp only [List.getElem?_toArray, List.getElem?_cons_zero] at n0_
                    obtain ⟨q, hce⟩ := TAAllQ hb9 a
                    have HCE := Lib.hid hce
                    clear hs hb9 hce
                    go_wp2_with (go_at_call 36; refine (HCE.out).mono ?_; rintro e w6 ⟨rfl, hs⟩; have HS6 := Lib.hid hs; clear hs HCE n0_ n1_)
                    try simp only [hT9]
                    clear hT9
                    have HS9 := Lib.hid (show Sep w w6 ([blkR q 27 #[.pointer (some ⟨a, 0, none⟩)], arenaR a A4_] ++ (marksR Ds :: blkR T9 3 #[.int .i64 ((([] : List Nat).length : Int))] :: rowR 35 1 (.slice AF Fn capf) Fn (nums F) :: blkR (mo + 1) 51 #[.map (some mo)] :: mapR Try.prog 51 35 3 .i64 .i64 mo (on_) (visM (AA.tk)) :: sweepR s m 64 (decide (64 < 64)) :: markR m a 2049 (CC) :: [])) from HS6.out.front 9 [0, 8, 3, 1])
                    clear HS6
                    refine (wpIn_wide (n := 0)).1 ?_
                    refine wp_rangeM (gf := 69) (lb := #[.pointer (some ⟨q, 0, none⟩)]) rfl (enters_of Try.func69 (by kernel_rfl) rfl) (arena_iter q a A4_) (fun _ => rfl) HS9.out
                      (fun pre Rs => Rs = blkR T9 3 #[.int .i64 ((pre.length : Int))] :: rowR 35 1 (.slice AF Fn capf) Fn (nums F) :: blkR (mo + 1) 51 #[.map (some mo)] :: mapR Try.prog 51 35 3 .i64 .i64 mo (on_) (visM (AA.tk)) :: sweepR s m 64 (decide (64 < 64)) :: markR m a 2049 (CC) :: []) (fun _ _ _ => False) rfl ?roundB ?doneB ?stopB
                    case stopB => rintro _ _ _ _ _ _ h; exact h.elim
                    case roundB =>
                      rintro l1 pre y _ G V1 r1 hpre rfl hS1
                      simp only [List.cons_append, List.nil_append] at hS1
                      have hpl : pre.length < 3000 := by
                        have h1 := hpre.length_le
                        have h2 := elems_few (A4_.n * 32 + 1) A4_.tk
                        have h3 := HNN.out
                        rw [List.length_append, List.length_singleton] at h1
                        omega
                      have HS1 := Lib.hid hS1
                      clear hpre hS1 HS9
                      gi_wp2
                      refine ⟨[], HS1.out, ?_⟩
                      intro r' V2 hS2
                      simp only [List.cons_append, List.nil_append] at hS2
                      have y0 := (hS2.blk 3 rfl).cell 0
                      have y1 := (hS2.blk 3 rfl).frozen 0
                      simp only [List.getElem?_toArray, List.getElem?_cons_zero, List.getElem?_cons_succ] at y0
                      obtain ⟨pl, hpl2⟩ : ∃ n, pre.length = n := ⟨_, rfl⟩
                      rw [hpl2] at hS2 y0 hpl
                      have HPL := Lib.hid hpl2
                      have HS2 := Lib.hid hS2
                      clear hS2 HS1 hpl2
                      gi_wp2
                      refine ⟨_, rfl, ?_⟩
                      have h5 := HS2.out.setCell 3 rfl 0 (.int .i64 ((pl : Int) + 1))
                      simp only [List.set_cons_succ, List.set_cons_zero, List.setIfInBounds_toArray] at h5
                      rw [List.length_append, HPL.out]
                      exact h5
                    rintro Ds2 _ V hR hS
                    subst hR
                    simp only [List.cons_append, List.nil_append] at hS
                    rw [HDN.out.2.2, HFL.out] at hS
                    have y0 := (hS.blk 3 rfl).cell 0
                    simp only [List.getElem?_toArray, List.getElem?_cons_zero, List.getElem?_cons_succ] at y0
                    have HSQ := Lib.hid (show Sep w V (marksR Ds2 :: blkR T9 3 #[.int .i64 (Fn : Int)] :: rowR 35 1 (.slice AF Fn capf) Fn (nums F) :: blkR (mo + 1) 51 #[.map (some mo)] :: mapR Try.prog 51 35 3 .i64 .i64 mo (on_) (visM (AA.tk)) :: sweepR s m 64 (decide (64 < 64)) :: markR m a 2049 (CC) :: []) from (hS.front 4 [0, 1, 2, 3]).tail.tail)
                    clear hS HS9
                    have hnn : ((Fn : Int) == (Fn : Int)) = true := by simp
                    go_wp2_with fail
                    refine leavesM (L := blkR T9 3 #[.int .i64 (Fn : Int)] :: rowR 35 1 (.slice AF Fn capf) Fn (nums F) :: blkR (mo + 1) 51 #[.map (some mo)] :: mapR Try.prog 51 35 3 .i64 .i64 mo (on_) (visM (AA.tk)) :: sweepR s m 64 (decide (64 < 64)) :: markR m a 2049 (CC) :: []) (fun w' hs => ⟨_, results_tmp rfl _ _ _, by simp, hs.below⟩) Ds2 _ HSQ.out
  · by_cases hsm : n0 ≤ 40 ∧ n1 ≤ 120
    · have HSD := Lib.hid (show (decide (n0 ≤ 40) && decide (n1 ≤ 120)) = true by rw [decide_eq_true hsm.1, decide_eq_true hsm.2]; rfl)
      have hn20 : (20 : Int) < (n2 : Int) := by
        have : ¬ n2 ≤ 20 := fun h => hsmall ⟨hsm.1, hsm.2, h⟩
        omega
      clear hsm hsmall
      go_wp2_with (first
        | (go_at_call 12; refine (fit18 _).mono ?_; rintro e w1 ⟨rfl, hC⟩; have hs1 := HS0.out.same hC; have p0 := (hs1.blk 0 rfl).cell 0; have p1 := (hs1.blk 0 rfl).cell 1; simp only [List.getElem?_toArray, List.getElem?_cons_zero, List.getElem?_cons_succ] at p0 p1; have HS1 := Lib.hid hs1; clear hC hs1 HS0)
        | (go_at_call 13; refine (Small11 _ A0 n0 c0 A1 n1 c1).mono ?_; rw [HSD.out]; rintro e w2 ⟨rfl, hC⟩; have HS2 := Lib.hid (HS1.out.same hC); clear hC HS1))
      exact ⟨_, results_tmp rfl _ _ _, rfl, HS2.out.below⟩
    · have HSD := Lib.hid (show (decide (n0 ≤ 40) && decide (n1 ≤ 120)) = false by
        rw [Bool.and_eq_false_iff]
        by_cases h : n0 ≤ 40
        · exact .inr (decide_eq_false fun h2 => hsm ⟨h, h2⟩)
        · exact .inl (decide_eq_false h))
      clear hsm hsmall
      go_wp2_with (first
        | (go_at_call 12; refine (fit18 _).mono ?_; rintro e w1 ⟨rfl, hC⟩; have hs1 := HS0.out.same hC; have p0 := (hs1.blk 0 rfl).cell 0; have p1 := (hs1.blk 0 rfl).cell 1; simp only [List.getElem?_toArray, List.getElem?_cons_zero, List.getElem?_cons_succ] at p0 p1; have HS1 := Lib.hid hs1; clear hC hs1 HS0)
        | (go_at_call 13; refine (Small11 _ A0 n0 c0 A1 n1 c1).mono ?_; rw [HSD.out]; rintro e w2 ⟨rfl, hC⟩; have HS2 := Lib.hid (HS1.out.same hC); clear hC HS1))
      exact ⟨_, results_tmp rfl _ _ _, rfl, HS2.out.below⟩
end Go.Proofs.Ytbcabjpafeocgaa
