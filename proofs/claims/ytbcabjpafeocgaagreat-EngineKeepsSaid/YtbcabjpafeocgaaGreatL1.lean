/-
  Parts of the proof, joined: Kit, Open, OpenS, Open2, GreyC, Sync, Set, Stage, SetOps, SetIs, Sep, Range. Conditions: as each part says.
-/
import Derived.WalkKit
import Derived.BigQuiet
import Derived.Deep.QuietTactic
import Derived.Deep.Quiet
import Derived.Deep.LoopGhost
import Derived.Deep.DeepFit
import Derived.Deep.DeepMust
import Derived.Lib.Hide
import Derived.WalkLawsBesides
import Derived.WalkSpells
import Derived.Laws.OwnMore
import Derived.Laws.Rows
import Derived.Maps.AppendAt
import Derived.Deep.AppendLies
import Derived.ProofKit
import Derived.OpenShut
import Derived.Deep.Slices
import Derived.Deep.Fields
import Derived.SizedLaws
import Derived.Test.YtbcabjpafeocgaaGreatRows
import Derived.Defers
import Derived.Laws.Pointers
import Derived.Laws.LoneSync
import Derived.Laws.MakeOwn
import Derived.Laws.NewBlocks
import Derived.RegionTactic
import Derived.RegionCalls
import Derived.ChangeAlike
import Derived.Deep.RegionHeld3
import Derived.BigRegion
import Derived.Deep.RegionWith
import Derived.Laws.BitsAllLaws
import Derived.Laws.ShiftsVarLaws
import Derived.RangeFuncNested
import Derived.RangeFuncBound
import Derived.RangeFuncCalls
import Derived.RangeFuncLeaves
import Derived.Shelf.Abstract
import Derived.Shelf.RegionOpen
import Derived.OwnWalkIn
import Derived.TacticsInMore
import Derived.LoopNIn
import Derived.LoopIn

/-
  Words on worlds for this seat's walks: a block that is known whole, and a change of memory that keeps all blocks but some named ones. Conditions: none; no program is named here.
-/
namespace Go.Proofs.YtbcabjpafeocgaaGreat
set_option linter.unusedVariables false
set_option linter.unusedSimpArgs false
open Go.RowKit

/-- Block g is just the cells cs, of element type t, none frozen. -/
def Blk (w : World) (g : Nat) (t : TypeId) (cs : Array Value) : Prop := w.heap[g]? = some (.cells cs t (0, 0))

section
variable {w w' : World} {g : Nat} {t : TypeId} {cs : Array Value}
theorem Blk.lt (h : Blk w g t cs) : g < w.heap.size := by
  rcases Nat.lt_or_ge g w.heap.size with hlt | hge
  · exact hlt
  · unfold Blk at h; rw [Array.getElem?_eq_none hge] at h; cases h
theorem Blk.cell (h : Blk w g t cs) (i : Nat) : w.cell? ⟨g, i, none⟩ = cs[i]? := cell_of_row w g i cs t (0, 0) h
theorem Blk.frozen (h : Blk w g t cs) (i : Nat) : w.frozen? ⟨g, i, none⟩ = false := by
  unfold Blk at h
  simp [World.frozen?, h]
theorem Blk.new (w : World) (t : TypeId) (cs : Array Value) : Blk (w.alloc (.cells cs t)) w.heap.size t cs := by
  show (w.heap.push _)[w.heap.size]? = _
  simp
theorem Blk.drew (h : Blk w g t cs) : Blk w.drew g t cs := h
theorem Blk.drewN (h : Blk w g t cs) (n : Nat) : Blk (w.drewN n) g t cs := h
theorem Blk.alloc (h : Blk w g t cs) (o : Go.Obj) : Blk (w.alloc o) g t cs := (Below.heap_alloc w o g h.lt).trans h
theorem Blk.set_ (h : Blk w g t cs) (i : Nat) (u : Value) : Blk (w.setCell ⟨g, i, none⟩ u) g t (cs.setIfInBounds i u) := by
  unfold Blk at h ⊢
  simp [World.setCell, Array.getElem?_modify, h]
theorem Blk.far (h : Blk w g t cs) {p : Addr} (hp : g ≠ p.block) (u : Value) : Blk (w.setCell p u) g t cs := (Below.heap_setCell w p u g hp).trans h
theorem Blk.ne_ {g' : Nat} {t' : TypeId} {cs' : Array Value} (h : Blk w g t cs) (h' : Blk w g' t' cs') (hne : t ≠ t') : g ≠ g' := by
  rintro rfl
  unfold Blk at h h'
  rw [h] at h'
  injection h' with h'
  injection h' with _ ht
  exact hne ht
end

/-- All blocks but those of F hold what they held; blocks come, none goes. -/
structure Chg (F : List Nat) (w w' : World) : Prop where
  os : w'.os = w.os
  tape : w'.tape = w.tape
  output : w'.output = w.output
  size : w.heap.size ≤ w'.heap.size
  block : ∀ k, k < w.heap.size → k ∉ F → w'.heap[k]? = w.heap[k]?

section
variable {F F' : List Nat} {w w1 w2 : World}
theorem Chg.refl (F : List Nat) (w : World) : Chg F w w := ⟨rfl, rfl, rfl, Nat.le_refl _, fun _ _ _ => rfl⟩
/-- F' may name blocks of F, and blocks that came behind w. -/
theorem Chg.trans (h : Chg F w w1) (k : Chg F' w1 w2) (hs : ∀ x ∈ F', x ∈ F ∨ w.heap.size ≤ x) : Chg F w w2 :=
  ⟨k.os.trans h.os, k.tape.trans h.tape, k.output.trans h.output, Nat.le_trans h.size k.size, fun i hi hn =>
    (k.block i (Nat.lt_of_lt_of_le hi h.size) (fun hm => by rcases hs i hm with h1 | h1; exact hn h1; omega)).trans (h.block i hi hn)⟩
theorem Chg.mono (h : Chg F w w1) (hs : ∀ x ∈ F, x ∈ F' ∨ w.heap.size ≤ x) : Chg F' w w1 :=
  ⟨h.os, h.tape, h.output, h.size, fun i hi hn => h.block i hi (fun hm => by rcases hs i hm with h1 | h1; exact hn h1; omega)⟩
theorem Chg.drew (h : Chg F w w1) : Chg F w w1.drew := ⟨h.os, h.tape, h.output, h.size, h.block⟩
theorem Chg.drewN (h : Chg F w w1) (n : Nat) : Chg F w (w1.drewN n) := ⟨h.os, h.tape, h.output, h.size, h.block⟩
theorem Chg.alloc (h : Chg F w w1) (o : Go.Obj) : Chg F w (w1.alloc o) :=
  ⟨h.os, h.tape, h.output, by have := h.size; simp; omega, fun i hi hn => (Below.heap_alloc _ _ _ (Nat.lt_of_lt_of_le hi h.size)).trans (h.block i hi hn)⟩
theorem Chg.setCell (h : Chg F w w1) {p : Addr} (hp : p.block ∈ F ∨ w.heap.size ≤ p.block) (u : Value) : Chg F w (w1.setCell p u) :=
  ⟨h.os, h.tape, h.output, by have := h.size; simpa [World.setCell] using this, fun i hi hn => (Below.heap_setCell _ _ _ _ (by rintro rfl; rcases hp with h1 | h1; exact hn h1; omega)).trans (h.block i hi hn)⟩
theorem Chg.grown {row : Option Nat} (h : Chg F w w1) (hg : w1.grownBy w2 row) (hr : ∀ k, row = some k → k ∈ F ∨ w.heap.size ≤ k) : Chg F w w2 :=
  ⟨hg.os.trans h.os, hg.tape.trans h.tape, hg.output.trans h.output, Nat.le_trans h.size hg.size, fun i hi hn =>
    (hg.block i (Nat.lt_of_lt_of_le hi h.size) (fun e => by rcases hr i e.symm with h1 | h1; exact hn h1; omega)).trans (h.block i hi hn)⟩
theorem Chg.below {B : Nat} (h : Chg F w w1) (hB : B ≤ w.heap.size) (hF : ∀ x ∈ F, B ≤ x) : Below B w w1 :=
  ⟨h.os, h.tape, h.output, h.size, fun k hk => h.block k (by omega) (fun hm => by have := hF k hm; omega)⟩
theorem Chg.blk {g : Nat} {t : TypeId} {cs : Array Value} (h : Chg F w w1) (hb : Blk w g t cs) (hg : g ∉ F) : Blk w1 g t cs := (h.block g hb.lt hg).trans hb
theorem Chg.heap {g : Nat} {o : Go.Obj} (h : Chg F w w1) (hb : w.heap[g]? = some o) (hg : g ∉ F) : w1.heap[g]? = some o := by
  have hlt : g < w.heap.size := by
    rcases Nat.lt_or_ge g w.heap.size with hlt | hge
    · exact hlt
    · rw [Array.getElem?_eq_none hge] at hb; cases hb
  exact (h.block g hlt hg).trans hb
theorem Chg.row {base : Nat} {e : TypeId} {size n : Nat} {v : Value} {xs : List Value} (h : Chg F w w1) (hr : w.ownsRow base e size v n xs) (hv : ∀ k, v.ownBlock = some k → k ∉ F) : w1.ownsRow base e size v n xs := by
  obtain ⟨h1, h2⟩ := hr
  refine ⟨h1, ?_⟩
  rcases h2 with h2 | ⟨g, cap, cur, rfl, hg, hh, r⟩
  · exact .inl h2
  · exact .inr ⟨g, cap, cur, rfl, hg, h.heap hh (hv g (by simp [Value.ownBlock])), r⟩
end

/-- F' holds blocks of F, and blocks that came behind w. -/
def Sub (w : World) (F' F : List Nat) : Prop := ∀ x ∈ F', x ∈ F ∨ w.heap.size ≤ x
theorem Sub.refl (w : World) (F : List Nat) : Sub w F F := fun _ h => .inl h

/-- Since w0 nothing that was there has changed, and F is all new. -/
def Own (w0 : World) (F : List Nat) (w : World) : Prop := Chg [] w0 w ∧ ∀ x ∈ F, w0.heap.size ≤ x

section
variable {F F' G : List Nat} {w0 w w1 w2 : World}
theorem Own.start (w : World) : Own w [] w := ⟨Chg.refl _ _, by simp⟩
theorem Own.step (h : Own w0 F w) (hc : Chg F w w1) (hs : Sub w F' F) : Own w0 F' w1 :=
  ⟨h.1.trans hc (fun x hx => .inr (h.2 x hx)), fun x hx => by rcases hs x hx with h1 | h1; exact h.2 x h1; have := h.1.size; omega⟩
theorem Own.same (h : Own w0 F w) (hc : Chg F w w1) : Own w0 F w1 := h.step hc (Sub.refl _ _)
theorem Own.below (h : Own w0 F w) : Below w0.heap.size w0 w := h.1.below (Nat.le_refl _) (by simp)
theorem Own.size (h : Own w0 F w) : w0.heap.size ≤ w.heap.size := h.1.size
theorem Own.cell (h : Own w0 F w) {b o : Nat} {v : Value} (hb : b < w0.heap.size) (hv : w0.cell? ⟨b, o, none⟩ = some v) : w.cell? ⟨b, o, none⟩ = some v := (h.below.cell (p := ⟨b, o, none⟩) hb).trans hv
theorem Own.join (h : Own w0 F w) (g : Own w0 G w) : Own w0 (F ++ G) w := ⟨h.1, fun x hx => by rcases List.mem_append.1 hx with h1 | h1; exact h.2 x h1; exact g.2 x h1⟩
theorem Own.part (h : Own w0 F w) (hs : ∀ x ∈ G, x ∈ F) : Own w0 G w := ⟨h.1, fun x hx => h.2 x (hs x hx)⟩
end

/-- A world that holds what w held, and perhaps new blocks. -/
structure Later (w : World) where
  w' : World
  h : Chg [] w w'
instance Later.some_ (w : World) : Nonempty (Later w) := ⟨⟨w, Chg.refl _ _⟩⟩

/-- A region that draws its order, whose operations and calls leave memory as it was but for new blocks: walked once, in the order of the text. -/
theorem wp_region_grow {P : Program} {id : Nat} {Q : Exit → Act → World → Prop} {a : Act} {w : World} {l : List Oper} (hm : P.follows .mixedOrders = true) (hB : Region.lexB .any l.toArray = true)
    (h : wpQuiet P l.toArray (fun w' => ∃ x : Later w, w' = x.w') (fun a' => ∀ w', (∃ x : Later w, w' = x.w') → Q .normal a' w') l a) : (Code.region id l.toArray true).wp P Q a w :=
  wp_region_quiet (C := fun w' => ∃ x : Later w, w' = x.w') hm hB ⟨⟨_, (Chg.refl _ _).drew⟩, rfl⟩ (by simpa using h)

theorem later_calls {P : Program} {f : FuncId} {args : Array Value} {w : World} {x : Later w} {v : Value} (h : Calls P f args x.w' fun e w' => e = .returned v ∧ Chg [] x.w' w') :
    Calls P f args x.w' fun e w'' => e = .returned v ∧ ∃ y : Later w, w'' = y.w' :=
  h.mono fun _ w'' ⟨he, hc⟩ => ⟨he, ⟨w'', x.h.trans hc (by simp)⟩, rfl⟩

/-- An owned row's block lies in the heap. -/
theorem row_lt {w : World} {base : Nat} {e : TypeId} {size n g : Nat} {v : Value} {xs : List Value} (hr : w.ownsRow base e size v n xs) (hv : v.ownBlock = some g) : g < w.heap.size := by
  obtain ⟨_, h2⟩ := hr
  rcases h2 with ⟨rfl, _⟩ | ⟨g', cap, cur, rfl, _, hh, _⟩
  · simp [Value.ownBlock] at hv
  · have : g' = g := by simpa [Value.ownBlock] using hv
    subst this
    rcases Nat.lt_or_ge g' w.heap.size with hlt | hge
    · exact hlt
    · rw [Array.getElem?_eq_none hge] at hh; cases hh

/-- An owned row is a slice value of its length. -/
theorem row_slice {w : World} {base : Nat} {e : TypeId} {size n : Nat} {v : Value} {xs : List Value} (hr : w.ownsRow base e size v n xs) : ∃ A cap, v = .slice A n cap ∧ n ≤ cap ∧ cap ≤ maxLen := by
  obtain ⟨_, h2⟩ := hr
  rcases h2 with ⟨rfl, rfl⟩ | ⟨g', cap, cur, rfl, _, _, h1, h3, _⟩
  · exact ⟨none, 0, rfl, by omega, by unfold maxLen; omega⟩
  · exact ⟨_, cap, rfl, h1, h3⟩

/-- A row that is not empty lies in a block of its own. -/
theorem row_some {w : World} {base : Nat} {e : TypeId} {size n : Nat} {v : Value} {xs : List Value} (hr : w.ownsRow base e size v n xs) (hn : 0 < n) : ∃ g cap, v = .slice (some ⟨g, 0, none⟩) n cap ∧ n ≤ cap ∧ cap ≤ maxLen ∧ g < w.heap.size := by
  obtain ⟨_, h2⟩ := hr
  rcases h2 with ⟨_, h0⟩ | ⟨g', cap, cur, rfl, _, hh, h1, h3, _⟩
  · omega
  · refine ⟨g', cap, rfl, h1, h3, ?_⟩
    rcases Nat.lt_or_ge g' w.heap.size with hlt | hge
    · exact hlt
    · rw [Array.getElem?_eq_none hge] at hh; cases hh

theorem row_cell {w : World} {base : Nat} {e : TypeId} {n g cap : Nat} {xs : List Value} (hr : w.ownsRow base e 1 (.slice (some ⟨g, 0, none⟩) n cap) n xs) (i : Nat) (u : Value) (hi : xs[i]? = some u) : w.cell? ⟨g, i, none⟩ = some u := by
  have h := hr.cells (g := g) rfl i u hi
  unfold Addr.add at h
  by_cases h0 : i = 0
  · subst h0; simpa using h
  · simpa [h0] using h

theorem row_blk_ne {w : World} {base : Nat} {e t : TypeId} {size n g : Nat} {v : Value} {xs : List Value} {cs : Array Value} (hr : w.ownsRow base e size v n xs) (hb : Blk w g t cs) (hne : e ≠ t) : v.ownBlock ≠ some g := by
  obtain ⟨_, h2⟩ := hr
  rcases h2 with ⟨rfl, _⟩ | ⟨g', cap, cur, rfl, _, hh, _⟩
  · simp [Value.ownBlock]
  · intro he
    have : g' = g := by simpa [Value.ownBlock] using he
    subst this
    exact Blk.ne_ (t := e) hh hb hne rfl

/-- The slice value '.slice A n c' of an argument reads as the one-cell values xs. -/
def Arg (w : World) (A : Option Addr) (n : Nat) (xs : List Value) : Prop :=
  xs.length = n ∧ ∀ k, k < n → ∃ b o, A = some ⟨b, o, none⟩ ∧ b < w.heap.size ∧ w.cell? ⟨b, o + k, none⟩ = xs[k]?

theorem Arg.at_ {w0 w : World} {F : List Nat} {A : Option Addr} {n k : Nat} {xs : List Value} (h : Arg w0 A n xs) (hO : Own w0 F w) (hk : k < n) : ∃ b o v, A = some ⟨b, o, none⟩ ∧ w.cell? ⟨b, o + k, none⟩ = some v ∧ xs[k]? = some v := by
  obtain ⟨b, o, e, hb, hc⟩ := h.2 k hk
  have hl : k < xs.length := by have := h.1; omega
  exact ⟨b, o, xs[k], e, hO.cell hb (by rw [hc]; exact List.getElem?_eq_getElem hl), List.getElem?_eq_getElem hl⟩

theorem Arg.int {w0 w : World} {F : List Nat} {A : Option Addr} {n k : Nat} {zs : List Int} {q : IntKind} (h : Arg w0 A n (zs.map (.int q))) (hO : Own w0 F w) (hk : k < n) : ∃ b o, A = some ⟨b, o, none⟩ ∧ w.cell? ⟨b, o + k, none⟩ = some (.int q (zs[k]?.getD 0)) := by
  obtain ⟨b, o, v, e, hc, hv⟩ := h.at_ hO hk
  refine ⟨b, o, e, ?_⟩
  rw [hc, ← hv]
  have hl : k < zs.length := by have := h.1; simp at this; omega
  simp [hl]

theorem take_succ_getD (zs : List Int) (k : Nat) (h : k < zs.length) : zs.take (k + 1) = zs.take k ++ [zs[k]?.getD 0] := by
  rw [List.take_succ_eq_append_getElem h]; simp [h]

end Go.Proofs.YtbcabjpafeocgaaGreat

/-
  Arguments that are slices of integers, or of structs or arrays of integers, opened to the cells that a walk reads. Conditions: no program is named here.
-/
namespace Go.Proofs.YtbcabjpafeocgaaGreat
set_option linter.unusedVariables false
set_option linter.unusedSimpArgs false
open Go.RowKit Go.ChangeShapes Go.WideShapes Go.Deep

/-- A type whose values are cells of these integer kinds. -/
def IntCells (P : Program) (e : TypeId) (qs : List IntKind) : Prop :=
  P.cellsOf e = qs.length ∧ ∀ (H : Type) (enc : TypeId × Value → H) (w : World) (base : Nat) (spare : Nat → Bool) (held : Bool) (fuel : Nat) (cs : List Value) (x : DataW H × List MemPlace),
    DataW.trod enc P w base spare held fuel e cs = some x → cs.length = qs.length → ∀ (j : Nat) (q : IntKind), qs[j]? = some q → ∃ n : Int, cs[j]? = some (Value.int q n) ∧ (Lit.int q n).wf = true

theorem intCells_int {P : Program} {e : TypeId} {q : IntKind} (h : P.underlying e = some (.int q)) (hc : P.cellsOf e = 1) : IntCells P e [q] := by
  refine ⟨hc, fun H enc w base spare held fuel cs x ht _ j q' hq => ?_⟩
  obtain ⟨n, rfl, _, hw⟩ := DataW.trod_int h ht
  match j, hq with
  | 0, hq => simp at hq; subst hq; exact ⟨n, rfl, hw⟩

theorem intCells_struct {P : Program} {e : TypeId} {fs : Array Field} {qs : List IntKind} (h : P.underlying e = some (.struct fs)) (hc : P.cellsOf e = qs.length) (hone : oneCellFields P fs = true) (hl : fs.size = qs.length)
    (hq : ∀ (j : Nat) (f : Field) (q : IntKind), fs[j]? = some f → qs[j]? = some q → P.underlying f.type = some (.int q)) : IntCells P e qs := by
  refine ⟨hc, fun H enc w base spare held fuel cs x ht hlc j q hj => ?_⟩
  obtain ⟨ys, n', hn', hy, hlen, hyl, hf⟩ := DataW.trod_struct h ht
  have hjl : j < qs.length := (List.getElem?_eq_some_iff.1 hj).1
  have hfj : fs[j]? = some (fs[j]'(by omega)) := Array.getElem?_eq_getElem (by omega)
  obtain ⟨ho, hk⟩ := hone_of hone j _ hfj
  have h1 := hf j _ hfj
  rw [ho, hk] at h1
  have hone' : (cs.drop j).take 1 = [cs[j]'(by omega)] := by
    rw [List.drop_eq_getElem_cons (by omega)]
    rfl
  rw [hone'] at h1
  have hys : ys[j]? = some (ys[j]'(by omega)) := List.getElem?_eq_getElem (by omega)
  rw [hys] at h1
  obtain ⟨n, hv, _, hw⟩ := DataW.trod_int (hq j _ q hfj hj) h1
  simp only [List.cons.injEq, and_true] at hv
  exact ⟨n, by rw [List.getElem?_eq_getElem (by omega), hv], hw⟩

theorem intCells_array {P : Program} {e e' : TypeId} {n : Nat} {q : IntKind} (h : P.underlying e = some (.array n e')) (hc : P.cellsOf e = n) (hc' : P.cellsOf e' = 1) (h' : P.underlying e' = some (.int q)) : IntCells P e (List.replicate n q) := by
  refine ⟨by simpa using hc, fun H enc w base spare held fuel cs x ht hlc j q' hj => ?_⟩
  obtain ⟨ys, m, hm, hy, hlen, hyl, hf⟩ := DataW.trod_array h ht
  simp only [List.length_replicate] at hlc
  have hjl : j < n := by have := (List.getElem?_eq_some_iff.1 hj).1; simpa using this
  have hqq : q' = q := by rw [List.getElem?_replicate, if_pos hjl] at hj; exact (Option.some.inj hj).symm
  subst hqq
  have h1 := hf j hjl
  rw [hc', Nat.mul_one] at h1
  have hone' : (cs.drop j).take 1 = [cs[j]'(by omega)] := by
    rw [List.drop_eq_getElem_cons (by omega)]
    rfl
  rw [hone'] at h1
  have hys : ys[j]? = some (ys[j]'(by omega)) := List.getElem?_eq_getElem (by omega)
  rw [hys] at h1
  obtain ⟨k, hv, _, hw⟩ := DataW.trod_int h' h1
  simp only [List.cons.injEq, and_true] at hv
  exact ⟨k, by rw [List.getElem?_eq_getElem (by omega), hv], hw⟩

/-- The slice value '.slice A n c' reads as n elements; cell j of element i is the integer D i j, of kind qs[j]. -/
def ArgI (w : World) (A : Option Addr) (n : Nat) (qs : List IntKind) (D : Nat → Nat → Int) : Prop :=
  ∀ i, i < n → ∃ b o, A = some ⟨b, o, none⟩ ∧ b < w.heap.size ∧ ∀ (j : Nat) (q : IntKind), qs[j]? = some q → w.cell? ⟨b, o + i * qs.length + j, none⟩ = some (.int q (D i j)) ∧ (Lit.int q (D i j)).wf = true

theorem cell_lt {w : World} {a : Addr} {v : Value} (h : w.cell? a = some v) : a.block < w.heap.size ∧ a.spot = none := by
  unfold World.cell? at h
  split at h
  · rename_i hb
    constructor
    · rcases Nat.lt_or_ge a.block w.heap.size with hlt | hge
      · exact hlt
      · rw [Array.getElem?_eq_none hge] at hb; cases hb
    · split at h
      · cases h
      · rename_i hs; simpa using hs
  · cases h

theorem open_flat {H : Type} {enc : TypeId × Value → H} {P : Program} {w : World} {base : Nat} {spare : Nat → Bool} {held : Bool} {t e : TypeId} {qs : List IntKind} {fuel : Nat} {A : Option Addr} {n c : Nat} {x : DataW H × List MemPlace}
    (ht : P.underlying t = some (.slice e)) (he : IntCells P e qs) (hpos : 0 < qs.length) (h : DataW.trod enc P w base spare held fuel t [.slice A n c] = some x) :
    n ≤ maxLen ∧ ∃ D, ArgI w A n qs D := by
  rcases open_slice ht h with ⟨h0, _⟩ | ⟨a, len, cap, m, k, D, Pl, hcs, hb, hl, hm, hmm, hx, hi⟩
  · simp only [List.cons.injEq, and_true] at h0
    cases h0
    exact ⟨by unfold maxLen; omega, fun _ _ => 0, fun i hi => absurd hi (by omega)⟩
  · simp only [List.cons.injEq, and_true] at hcs
    cases hcs
    refine ⟨by omega, fun i j => match w.cell? (a.add (i * qs.length + j)) with | some (.int _ z) => z | _ => 0, fun i hin => ?_⟩
    have key : ∀ i, i < n → ∀ j q, qs[j]? = some q → ∃ z, w.cell? (a.add (i * qs.length + j)) = some (.int q z) ∧ (Lit.int q z).wf = true := by
      intro i hin j q hj
      obtain ⟨cs', hc, ht'⟩ := hi i (by rw [hmm]; split <;> omega)
      rw [he.1] at hc
      obtain ⟨_, hcl, hat⟩ := World.cells?_some hc
      obtain ⟨z, hz, hw⟩ := he.2 H enc w base spare held k cs' _ ht' hcl j q hj
      have hjl : j < qs.length := (List.getElem?_eq_some_iff.1 hj).1
      have hcell := hat j hjl
      rw [Go.Deep.add_add] at hcell
      exact ⟨z, by rw [hcell, hz], hw⟩
    have h00 : qs[0]? = some (qs[0]'hpos) := List.getElem?_eq_getElem hpos
    obtain ⟨z0, hz0, _⟩ := key i hin 0 _ h00
    have hs : a.spot = none := by
      by_cases hi0 : i * qs.length + 0 = 0
      · rw [hi0] at hz0
        simpa [Addr.add] using (cell_lt hz0).2
      · obtain ⟨z1, hz1, _⟩ := key 0 (by omega) 0 _ h00
        have := (cell_lt hz1).2
        simpa [Addr.add] using this
    have hbl : a.block < w.heap.size := by
      have := (cell_lt hz0).1
      unfold Addr.add at this
      split at this <;> exact this
    obtain ⟨ab, ao, asp⟩ := a
    simp only at hs hbl
    subst hs
    refine ⟨ab, ao, rfl, hbl, fun j q hj => ?_⟩
    obtain ⟨z, hz, hw⟩ := key i hin j q hj
    have hadd : (⟨ab, ao, none⟩ : Addr).add (i * qs.length + j) = ⟨ab, ao + (i * qs.length + j), none⟩ := by
      unfold Addr.add
      split
      · rename_i h0; rw [h0]; simp
      · rfl
    simp only [hz]
    rw [hadd, ← Nat.add_assoc] at hz
    exact ⟨hz, hw⟩

theorem ArgI.at_ {w0 w : World} {F : List Nat} {A : Option Addr} {n i : Nat} {qs : List IntKind} {D : Nat → Nat → Int} (h : ArgI w0 A n qs D) (hO : Own w0 F w) (hi : i < n) :
    ∃ b o, A = some ⟨b, o, none⟩ ∧ ∀ (j : Nat) (q : IntKind), qs[j]? = some q → w.cell? ⟨b, o + i * qs.length + j, none⟩ = some (.int q (D i j)) := by
  obtain ⟨b, o, e, hb, hc⟩ := h i hi
  exact ⟨b, o, e, fun j q hj => hO.cell hb (hc j q hj).1⟩

theorem ArgI.wf {w : World} {A : Option Addr} {n i : Nat} {qs : List IntKind} {D : Nat → Nat → Int} (h : ArgI w A n qs D) (hi : i < n) (j : Nat) (q : IntKind) (hq : qs[j]? = some q) : (Lit.int q (D i j)).wf = true := by
  obtain ⟨_, _, _, _, hc⟩ := h i hi
  exact (hc j q hq).2

/-- One-cell elements: the elder form. -/
theorem ArgI.arg {w : World} {A : Option Addr} {n : Nat} {q : IntKind} {D : Nat → Nat → Int} (h : ArgI w A n [q] D) : Arg w A n (((List.range n).map fun i => D i 0).map (.int q)) := by
  refine ⟨by simp, fun k hk => ?_⟩
  obtain ⟨b, o, e, hb, hc⟩ := h k hk
  refine ⟨b, o, e, hb, ?_⟩
  have := (hc 0 q rfl).1
  simp at this
  rw [this]
  simp [hk]

end Go.Proofs.YtbcabjpafeocgaaGreat

/-
  How long a slice among the arguments may be: the reach that every row states. Conditions: no program is named here.
-/
namespace Go.Proofs.YtbcabjpafeocgaaGreat
set_option linter.unusedVariables false
set_option linter.unusedSimpArgs false
open Go.RowKit Go.ChangeShapes Go.WideShapes Go.Deep

theorem flat_len {H : Type} {enc : TypeId × Value → H} {P : Program} {w : World} {base : Nat} {spare : Nat → Bool} {held : Bool} {t e : TypeId} {fuel : Nat} {A : Option Addr} {n c : Nat} {d : DataW H} {p : List MemPlace}
    (ht : P.underlying t = some (.slice e)) (h : DataW.trod enc P w base spare held fuel t [.slice A n c] = some (d, p)) : n = 0 ∨ ∃ el sp, d = .slice el sp ∧ el.length = n := by
  rcases open_slice ht h with ⟨h0, _⟩ | ⟨a, len, cap, m, k, D, Pl, hcs, hb, hl, hm, hmm, hx, hi⟩
  · simp only [List.cons.injEq, and_true] at h0
    cases h0
    exact .inl rfl
  · simp only [List.cons.injEq, and_true] at hcs
    cases hcs
    simp only [Prod.mk.injEq] at hx
    exact .inr ⟨_, _, hx.1, by simp⟩

theorem flat_reach {H : Type} {P : Program} {ts : List TypeId} {ds : List (DataW H)} {j n : Nat} {t e : TypeId} {d : DataW H} (h : (DataW.weightsEach P ts ds).all (· ≤ reachBytes) = true) (ht : ts[j]? = some t) (hd : ds[j]? = some d) (hu : P.underlying t = some (.slice e))
    (hb : 0 < P.bytesOf e) (hl : n = 0 ∨ ∃ el sp, d = .slice el sp ∧ el.length = n) : n ≤ 140737488351232 := by
  rcases hl with rfl | ⟨el, sp, rfl, rfl⟩
  · omega
  · have := sized_slice h ht hd hu
    have h2 : el.length ≤ (el.length + sp.length) * P.bytesOf e := Nat.le_trans (Nat.le_add_right _ _) (Nat.le_mul_of_pos_right _ hb)
    exact Nat.le_trans h2 this

end Go.Proofs.YtbcabjpafeocgaaGreat

/-
  An argument that is a struct of two slices, opened to the cells that a walk reads. Conditions: no program is named here.
-/
namespace Go.Proofs.YtbcabjpafeocgaaGreat
set_option linter.unusedVariables false
set_option linter.unusedSimpArgs false
open Go.RowKit Go.ChangeShapes Go.WideShapes Go.Deep

theorem slice_form {H : Type} {enc : TypeId × Value → H} {P : Program} {w : World} {base : Nat} {spare : Nat → Bool} {held : Bool} {t e : TypeId} {fuel : Nat} {v : Value} {x : DataW H × List MemPlace}
    (ht : P.underlying t = some (.slice e)) (h : DataW.trod enc P w base spare held fuel t [v] = some x) : ∃ A n c, v = .slice A n c := by
  rcases open_slice ht h with ⟨h0, _⟩ | ⟨a, len, cap, m, k, D, Pl, hcs, _⟩
  · simp only [List.cons.injEq, and_true] at h0
    exact ⟨_, _, _, h0⟩
  · simp only [List.cons.injEq, and_true] at hcs
    exact ⟨_, _, _, hcs⟩

/-- A struct of two slices, each of elements of integers. -/
theorem open_two {H : Type} {enc : TypeId × Value → H} {P : Program} {w : World} {base : Nat} {spare : Nat → Bool} {held : Bool} {t : TypeId} {fs : Array Field} {f0 f1 : Field} {e0 e1 : TypeId} {q0 q1 : List IntKind} {fuel : Nat} {cs : Array Value} {x : DataW H × List MemPlace}
    (ht : P.underlying t = some (.struct fs)) (hone : oneCellFields P fs = true) (hf0 : fs[0]? = some f0) (hf1 : fs[1]? = some f1) (hc2 : cs.size = 2) (hsz : P.cellsOf t = 2)
    (h0 : P.underlying f0.type = some (.slice e0)) (h1 : P.underlying f1.type = some (.slice e1)) (i0 : IntCells P e0 q0) (i1 : IntCells P e1 q1) (p0 : 0 < q0.length) (p1 : 0 < q1.length)
    (h : DataW.trod enc P w base spare held fuel t cs.toList = some x) :
    ∃ A0 n0 c0 A1 n1 c1, cs = #[.slice A0 n0 c0, .slice A1 n1 c1] ∧ n0 ≤ maxLen ∧ (∃ D, ArgI w A0 n0 q0 D) ∧ n1 ≤ maxLen ∧ ∃ D, ArgI w A1 n1 q1 D := by
  obtain ⟨ys, n', hn', hy, hlen, hyl, hf⟩ := DataW.trod_struct ht h
  have hs0 : 0 < fs.size := (Array.getElem?_eq_some_iff.1 hf0).1
  have hs1 : 1 < fs.size := (Array.getElem?_eq_some_iff.1 hf1).1
  obtain ⟨ho0, hk0⟩ := hone_of hone 0 _ hf0
  obtain ⟨ho1, hk1⟩ := hone_of hone 1 _ hf1
  have g0 := hf 0 _ hf0
  have g1 := hf 1 _ hf1
  rw [ho0, hk0] at g0
  rw [ho1, hk1] at g1
  obtain ⟨u0, u1, rfl⟩ : ∃ u0 u1, cs = #[u0, u1] := by
    obtain ⟨l⟩ := cs
    match l, hc2 with
    | [a, b], _ => exact ⟨a, b, rfl⟩
  rw [List.getElem?_eq_getElem (by omega)] at g0 g1
  have g0' : DataW.trod enc P w base spare held n' f0.type [u0] = some _ := g0
  have g1' : DataW.trod enc P w base spare held n' f1.type [u1] = some _ := g1
  obtain ⟨A0, n0, c0, rfl⟩ := slice_form h0 g0'
  obtain ⟨A1, n1, c1, rfl⟩ := slice_form h1 g1'
  obtain ⟨m0, D0⟩ := open_flat h0 i0 p0 g0'
  obtain ⟨m1, D1⟩ := open_flat h1 i1 p1 g1'
  exact ⟨A0, n0, c0, A1, n1, c1, rfl, m0, D0, m1, D1⟩
theorem okWide_arr {P : Program} {w : World} {r : Reach} {base : Nat} {t e : TypeId} {n : Nat} {v : Value} (ht : P.underlying t = some (.array n e)) (h : Value.okWide P w r base t v) : ∃ cs, v = .agg cs ∧ cs.size = P.cellsOf t := by
  simp only [Value.okWide, ht] at h
  obtain ⟨cs, h1, h2, _⟩ := h
  exact ⟨cs, h1, h2⟩
theorem zip_ints : ∀ (qs : List IntKind) (cs : List Value), cs.length = qs.length → (∀ (j : Nat) (q : IntKind), qs[j]? = some q → ∃ n : Int, cs[j]? = some (Value.int q n) ∧ (Lit.int q n).wf = true) →
    ∃ xs : List Int, xs.length = qs.length ∧ cs = List.zipWith Value.int qs xs ∧ ∀ (j : Nat) (q : IntKind) (n : Int), qs[j]? = some q → xs[j]? = some n → (Lit.int q n).wf = true
  | [], cs, hl, _ => ⟨[], rfl, by cases cs with | nil => rfl | cons a l => simp at hl, by simp⟩
  | q :: qs, [], hl, _ => by simp at hl
  | q :: qs, c :: cs, hl, h => by
    obtain ⟨n, h1, h2⟩ := h 0 q rfl
    simp at h1
    subst h1
    obtain ⟨xs, e1, e2, e3⟩ := zip_ints qs cs (by simpa using hl) (fun j q' hq => by
      have := h (j + 1) q' (by simpa using hq)
      simpa using this)
    refine ⟨n :: xs, by simp [e1], by rw [e2]; rfl, fun j q' m hq hm => ?_⟩
    cases j with
    | zero => simp at hq hm; subst hq; subst hm; exact h2
    | succ j => exact e3 j q' m (by simpa using hq) (by simpa using hm)
/-- An array or a struct of integers. -/
theorem open_agg {H : Type} {enc : TypeId × Value → H} {P : Program} {w : World} {base : Nat} {spare : Nat → Bool} {held : Bool} {t : TypeId} {qs : List IntKind} {fuel : Nat} {cs : Array Value} {x : DataW H × List MemPlace}
    (hi : IntCells P t qs) (hc : cs.size = P.cellsOf t) (h : DataW.trod enc P w base spare held fuel t cs.toList = some x) :
    ∃ xs : List Int, xs.length = qs.length ∧ cs = (List.zipWith Value.int qs xs).toArray ∧ ∀ (j : Nat) (q : IntKind) (n : Int), qs[j]? = some q → xs[j]? = some n → (Lit.int q n).wf = true := by
  have hl : cs.toList.length = qs.length := by rw [Array.length_toList, hc, hi.1]
  obtain ⟨xs, e1, e2, e3⟩ := zip_ints qs cs.toList hl (fun j q hq => hi.2 _ _ _ _ _ _ _ _ _ h hl j q hq)
  exact ⟨xs, e1, by rw [← e2], e3⟩
end Go.Proofs.YtbcabjpafeocgaaGreat

/-
  The stack of layer 10 in memory, and a contract for each of its methods. Conditions: as each contract says.
-/
namespace Go.Proofs.YtbcabjpafeocgaaGreat
open Go.RowKit

theorem greyInfo : (Tryz.prog.info? 34).map (fun i => (i.zero, i.size, i.bytes)) = some (some (.int .i64 0), 1, 8) := by kernel_rfl

/-- A stack at block b: list, room, over; v is the slice in its field. -/
def GreyV (w : World) (b : Nat) (v : Value) (l : List Int) (room : Int) (over : Bool) : Prop :=
  Blk w b 142 #[v, .int .i64 room, .bool over] ∧ w.ownsRow 0 34 1 v l.length (l.map (.int .i64))

def GreyAt (w : World) (F : List Nat) (b : Nat) (l : List Int) (room : Int) (over : Bool) : Prop :=
  ∃ v, F = b :: v.ownBlock.toList ∧ GreyV w b v l room over

theorem over_any (b : Nat) (v : Value) (l : List Int) (room : Int) (over : Bool) (w : World) (h : GreyV w b v l room over) :
    Calls Tryz.prog 88 #[.pointer (some ⟨b, 0, none⟩)] w fun e w' => e = .returned (.bool over) ∧ w = w' := by
  have h2 := h.1.cell 2
  simp at h2
  go_enter Tryz.func88, Tryz.ntmps88
  go_wp2
  go_ret
  exact ⟨rfl, rfl⟩

theorem new_any (room : Int) (w : World) :
    Calls Tryz.prog 48 #[.int .i64 room] w fun e w' => e = .returned (.pointer (some ⟨w.heap.size, 0, none⟩)) ∧ w' = w.alloc (.cells #[.slice none 0 0, .int .i64 (max room 0), .bool false] 142) := by
  go_enter Tryz.func48, Tryz.ntmps48
  go_wp2
  all_goals go_ret
  · rw [Int.max_eq_right (by omega)]; exact ⟨rfl, rfl⟩
  · rw [Int.max_eq_left (by omega)]; exact ⟨rfl, rfl⟩

theorem settle_any (b : Nat) (v : Value) (l : List Int) (room : Int) (over : Bool) (w : World) (h : GreyV w b v l room over) :
    Calls Tryz.prog 103 #[.pointer (some ⟨b, 0, none⟩)] w fun e w' => e = .returned (.tuple #[]) ∧ GreyV w' b v l room false ∧ Chg [b] w w' := by
  have h2 := h.1.cell 2
  have f2 := h.1.frozen 2
  simp at h2
  go_enter Tryz.func103, Tryz.ntmps103
  go_wp2
  go_end0
  have hc : Chg [b] w (w.setCell ⟨b, 2, none⟩ (.bool false)) := (Chg.refl _ w).setCell (.inl (by simp)) _
  refine ⟨rfl, ⟨by simpa using h.1.set_ 2 (.bool false), hc.row h.2 (fun k hk => ?_)⟩, hc⟩
  have := row_blk_ne h.2 h.1 (by decide)
  rintro hm
  simp at hm
  subst hm
  exact this hk

theorem reset_any (b : Nat) (v : Value) (l : List Int) (room : Int) (over : Bool) (w : World) (h : GreyV w b v l room over) :
    Calls Tryz.prog 67 #[.pointer (some ⟨b, 0, none⟩)] w fun e w' => e = .returned (.tuple #[]) ∧ GreyV w' b (.slice none 0 0) [] room false ∧ Chg [b] w w' := by
  have h0 := h.1.cell 0
  have f0 := h.1.frozen 0
  have h1 := h.1.cell 1
  have f1 := h.1.frozen 1
  have h2 := h.1.cell 2
  have f2 := h.1.frozen 2
  simp at h2 h1 h0
  go_enter Tryz.func67, Tryz.ntmps67
  go_wp2
  go_end0
  refine ⟨rfl, ⟨?_, by simp, .inl ⟨rfl, rfl⟩⟩, (((Chg.refl _ w).setCell (.inl (by simp)) _).setCell (.inl (by simp)) _).setCell (.inl (by simp)) _⟩
  simpa using ((h.1.set_ 0 (.slice none 0 0)).set_ 1 (.int .i64 room)).set_ 2 (.bool false)

theorem pop_none (b : Nat) (v : Value) (room : Int) (over : Bool) (w : World) (h : GreyV w b v [] room over) :
    Calls Tryz.prog 86 #[.pointer (some ⟨b, 0, none⟩)] w fun e w' => e = .returned (.tuple #[.int .i64 0, .bool false]) ∧ w = w' := by
  have h0 := h.1.cell 0
  obtain ⟨A, cap, rfl, hn, hm⟩ := row_slice h.2
  simp at h0
  go_enter Tryz.func86, Tryz.ntmps86
  go_wp2
  go_ret2
  exact ⟨rfl, rfl⟩

theorem pop_some (b : Nat) (v : Value) (l : List Int) (r : Int) (room : Int) (over : Bool) (w : World) (h : GreyV w b v (l ++ [r]) room over) :
    Calls Tryz.prog 86 #[.pointer (some ⟨b, 0, none⟩)] w fun e w' => e = .returned (.tuple #[.int .i64 r, .bool true]) ∧ ∃ v', v'.ownBlock = v.ownBlock ∧ GreyV w' b v' l room over ∧ Chg [b] w w' := by
  have h0 := h.1.cell 0
  have f0 := h.1.frozen 0
  have hne := row_blk_ne h.2 h.1 (by decide)
  have hr := h.2
  have hB := h.1
  rw [show (l ++ [r]).length = l.length + 1 by simp] at hr
  clear h
  obtain ⟨g, cap, rfl, hn, hm, _⟩ := row_some hr (by omega)
  have hc := row_cell hr l.length (.int .i64 r) (by simp)
  have HP := Lib.hid (ownsRow_pop (n := l.length) (size := 1) (xs := l.map (.int .i64)) (last := [.int .i64 r]) (by simp) (by simpa using hr))
  have HB := Lib.hid hB
  have HN := Lib.hid hne
  clear hr hB hne
  unfold maxLen at hm
  simp at h0
  go_enter Tryz.func86, Tryz.ntmps86
  go_wp2
  go_ret2
  have hc : Chg [b] w (w.setCell ⟨b, 0, none⟩ (.slice (some ⟨g, 0, none⟩) l.length cap)) := (Chg.refl _ w).setCell (.inl (by simp)) _
  refine ⟨rfl, .slice (some ⟨g, 0, none⟩) l.length cap, rfl, ⟨by simpa using HB.out.set_ 0 (.slice (some ⟨g, 0, none⟩) l.length cap), hc.row HP.out (fun k hk => ?_)⟩, hc⟩
  rintro hm
  simp [Value.ownBlock] at hm hk
  have := HN.out
  simp [Value.ownBlock] at this
  omega

set_option maxRecDepth 100000 in
theorem push_full (b : Nat) (v : Value) (l : List Int) (r : Int) (room : Int) (over : Bool) (w : World) (h : GreyV w b v l room over) (hf : room ≤ l.length) :
    Calls Tryz.prog 50 #[.pointer (some ⟨b, 0, none⟩), .int .i64 r] w fun e w' => e = .returned (.bool false) ∧ GreyV w' b v l room true ∧ Chg [b] w w' := by
  have h0 := h.1.cell 0
  have h1 := h.1.cell 1
  have h2 := h.1.cell 2
  have f2 := h.1.frozen 2
  have hne := row_blk_ne h.2 h.1 (by decide)
  obtain ⟨A, cap, rfl, hn, hm⟩ := row_slice h.2
  simp at h0 h1 h2
  have HB := Lib.hid h
  have HN := Lib.hid hne
  clear h hne
  go_enter Tryz.func50, Tryz.ntmps50
  go_wp2
  go_quiet (fail)
  go_wp2
  go_ret
  have hc : Chg [b] w ((w.drewN nq).setCell ⟨b, 2, none⟩ (.bool true)) := ((Chg.refl _ w).drewN nq).setCell (.inl (by simp)) _
  refine ⟨rfl, ⟨by simpa using (HB.out.1.drewN nq).set_ 2 (.bool true), hc.row HB.out.2 (fun k hk => ?_)⟩, hc⟩
  rintro hm
  simp at hm
  subst hm
  exact HN.out hk

set_option maxRecDepth 100000 in
theorem push_room (b : Nat) (v : Value) (l : List Int) (r : Int) (room : Int) (over : Bool) (w : World) (h : GreyV w b v l room over) (hf : l.length < room) (hl : l.length ≤ 1000000) :
    Calls Tryz.prog 50 #[.pointer (some ⟨b, 0, none⟩), .int .i64 r] w fun e w' => e = .returned (.bool true) ∧ ∃ v', (v'.ownBlock = v.ownBlock ∨ ∃ g, v'.ownBlock = some g ∧ w.heap.size ≤ g) ∧ GreyV w' b v' (l ++ [r]) room over ∧ Chg (b :: v.ownBlock.toList) w w' := by
  have h0 := h.1.cell 0
  have h1 := h.1.cell 1
  have f0 := h.1.frozen 0
  have hne := row_blk_ne h.2 h.1 (by decide)
  obtain ⟨i0, hi, hz0, hz1, hz2⟩ := info_parts greyInfo
  obtain ⟨A, cap, rfl, hn, hm⟩ := row_slice h.2
  simp at h0 h1
  have HR := Lib.hid h.2
  have HB := Lib.hid h.1
  have HN := Lib.hid hne
  clear h hne
  go_enter Tryz.func50, Tryz.ntmps50
  go_wp2
  go_quiet (fail)
  go_wp2_with (at_builtin; refine wpList_append_own_at _ rfl _ _ 25 rfl 0 34 i0 (.int .i64 0) 1 8 Tryz.underlying25 hi hz0 hz1 hz2 rfl (by decide) _ _ _ rfl (World.ownsRow.alloc HR.out _) ⟨w.heap.size, 0, none⟩ 1 1 [.int .i64 r] rfl rfl ?c1 ?c2 ?c3 ?c4 ?c5 ?_)
  case c1 => exact cell_one_new _ _ _
  case c2 => intro u hu; simp at hu; subst hu; rfl
  case c3 => unfold maxLen; omega
  case c4 => omega
  case c5 => omega
  intro v' w1 hown hgrow _ hblk
  obtain ⟨g, cap', rfl, _, _, _⟩ := row_some hown (by omega)
  have hB1 : Blk w1 b 142 #[.slice A l.length cap, .int .i64 room, .bool over] := (hgrow.block b (by have := HB.out.lt; simp; omega) (fun e => HN.out e.symm)).trans ((HB.out.drewN nq).alloc _)
  have hC1 : Chg (b :: (Value.slice A l.length cap).ownBlock.toList) w w1 := Chg.grown (((Chg.refl _ w).drewN nq).alloc _) hgrow (fun k hk => .inl (by simp [hk]))
  have e0 := hB1.cell 0
  have e1 := hB1.frozen 0
  simp at e0
  have HB1 := Lib.hid hB1
  have HC1 := Lib.hid hC1
  have HO := Lib.hid hown
  have HK := Lib.hid hblk
  clear hB1 hC1 hown hblk hgrow
  go_wp2
  go_ret
  have hc : Chg [b] w1 (w1.setCell ⟨b, 0, none⟩ (.slice (some ⟨g, 0, none⟩) (l.length + 1) cap')) := (Chg.refl _ w1).setCell (.inl (by simp)) _
  refine ⟨rfl, .slice (some ⟨g, 0, none⟩) (l.length + 1) cap', ?_, ⟨by simpa using HB1.out.set_ 0 (.slice (some ⟨g, 0, none⟩) (l.length + 1) cap'), ?_⟩, HC1.out.trans hc (by simp)⟩
  · rcases HK.out with h | h
    · exact .inl h
    · exact .inr ⟨_, h, by simp⟩
  · have h3 : w1.ownsRow 0 34 1 (.slice (some ⟨g, 0, none⟩) (l.length + 1) cap') (l ++ [r]).length ((l ++ [r]).map (.int .i64)) := by simpa using HO.out
    refine hc.row h3 (fun k hk hm => ?_)
    simp at hm
    subst hm
    exact row_blk_ne HO.out HB1.out (by decide) hk

section
variable {w w' : World} {F G : List Nat} {b : Nat} {l : List Int} {room : Int} {over : Bool}

theorem GreyAt.mem (h : GreyAt w F b l room over) : b ∈ F := by obtain ⟨v, rfl, _⟩ := h; simp
theorem GreyAt.keep (h : GreyAt w F b l room over) (hc : Chg G w w') (hd : ∀ x ∈ F, x ∉ G) : GreyAt w' F b l room over := by
  obtain ⟨v, rfl, h1, h2⟩ := h
  exact ⟨v, rfl, hc.blk h1 (hd _ (by simp)), hc.row h2 (fun k hk => hd _ (by simp [hk]))⟩
theorem GreyAt.lt (h : GreyAt w F b l room over) : ∀ x ∈ F, x < w.heap.size := by
  obtain ⟨v, rfl, h1, h2⟩ := h
  intro x hx
  rcases List.mem_cons.1 hx with rfl | hx
  · exact h1.lt
  · exact row_lt h2 (by simpa using hx)

theorem Over (h : GreyAt w F b l room over) : Calls Tryz.prog 88 #[.pointer (some ⟨b, 0, none⟩)] w fun e w' => e = .returned (.bool over) ∧ w = w' := by
  obtain ⟨v, rfl, h1⟩ := h
  exact over_any _ _ _ _ _ _ h1
theorem New (w : World) (room : Int) : Calls Tryz.prog 48 #[.int .i64 room] w fun e w' => ∃ b, e = .returned (.pointer (some ⟨b, 0, none⟩)) ∧ b = w.heap.size ∧ GreyAt w' [b] b [] (max room 0) false ∧ Chg [] w w' := by
  refine (new_any room w).mono ?_
  rintro e w' ⟨rfl, rfl⟩
  refine ⟨_, rfl, rfl, ⟨.slice none 0 0, by simp [Value.ownBlock], Blk.new _ _ _, by simp, .inl ⟨rfl, rfl⟩⟩, (Chg.refl _ w).alloc _⟩
theorem Settle (h : GreyAt w F b l room over) : Calls Tryz.prog 103 #[.pointer (some ⟨b, 0, none⟩)] w fun e w' => e = .returned (.tuple #[]) ∧ GreyAt w' F b l room false ∧ Chg F w w' := by
  obtain ⟨v, rfl, h1⟩ := h
  refine (settle_any _ _ _ _ _ _ h1).mono ?_
  rintro e w' ⟨rfl, h2, h3⟩
  exact ⟨rfl, ⟨v, rfl, h2⟩, h3.mono (by intro x hx; simp at hx; subst hx; simp)⟩
theorem Reset (h : GreyAt w F b l room over) : Calls Tryz.prog 67 #[.pointer (some ⟨b, 0, none⟩)] w fun e w' => e = .returned (.tuple #[]) ∧ GreyAt w' [b] b [] room false ∧ Chg F w w' := by
  obtain ⟨v, rfl, h1⟩ := h
  refine (reset_any _ _ _ _ _ _ h1).mono ?_
  rintro e w' ⟨rfl, h2, h3⟩
  exact ⟨rfl, ⟨_, by simp [Value.ownBlock], h2⟩, h3.mono (by intro x hx; simp at hx; subst hx; simp)⟩
theorem PopNo (h : GreyAt w F b [] room over) : Calls Tryz.prog 86 #[.pointer (some ⟨b, 0, none⟩)] w fun e w' => e = .returned (.tuple #[.int .i64 0, .bool false]) ∧ w = w' := by
  obtain ⟨v, rfl, h1⟩ := h
  exact pop_none _ _ _ _ _ h1
theorem PopYes {r : Int} (h : GreyAt w F b (l ++ [r]) room over) : Calls Tryz.prog 86 #[.pointer (some ⟨b, 0, none⟩)] w fun e w' => e = .returned (.tuple #[.int .i64 r, .bool true]) ∧ GreyAt w' F b l room over ∧ Chg F w w' := by
  obtain ⟨v, rfl, h1⟩ := h
  refine (pop_some _ _ _ _ _ _ _ h1).mono ?_
  rintro e w' ⟨rfl, v', hv, h2, h3⟩
  exact ⟨rfl, ⟨v', by rw [hv], h2⟩, h3.mono (by intro x hx; simp at hx; subst hx; simp)⟩
theorem PushNo (h : GreyAt w F b l room over) (r : Int) (hf : room ≤ l.length) : Calls Tryz.prog 50 #[.pointer (some ⟨b, 0, none⟩), .int .i64 r] w fun e w' => e = .returned (.bool false) ∧ GreyAt w' F b l room true ∧ Chg F w w' := by
  obtain ⟨v, rfl, h1⟩ := h
  refine (push_full _ _ _ _ _ _ _ h1 hf).mono ?_
  rintro e w' ⟨rfl, h2, h3⟩
  exact ⟨rfl, ⟨v, rfl, h2⟩, h3.mono (by intro x hx; simp at hx; subst hx; simp)⟩
theorem PushYes (h : GreyAt w F b l room over) (r : Int) (hf : l.length < room) (hl : l.length ≤ 1000000) : Calls Tryz.prog 50 #[.pointer (some ⟨b, 0, none⟩), .int .i64 r] w fun e w' => ∃ F', e = .returned (.bool true) ∧ GreyAt w' F' b (l ++ [r]) room over ∧ Chg F w w' ∧ Sub w F' F := by
  obtain ⟨v, rfl, h1⟩ := h
  refine (push_room _ _ _ _ _ _ _ h1 hf hl).mono ?_
  rintro e w' ⟨rfl, v', hv, h2, h3⟩
  refine ⟨_, rfl, ⟨v', rfl, h2⟩, h3, ?_⟩
  intro x hx
  rcases List.mem_cons.1 hx with rfl | hx
  · simp
  · rcases hv with hv | ⟨g, hv, hg⟩
    · rw [hv] at hx; simp at hx; simp [hx]
    · rw [hv] at hx; simp at hx; subst hx; exact .inr hg
end
end Go.Proofs.YtbcabjpafeocgaaGreat

/-
  sync.Once and the atomic words, in the run of one goroutine, each function a contract. Conditions: as each theorem says. The pattern of the six contracts is the kit's worked example Lazy.
-/
namespace Go.Proofs.YtbcabjpafeocgaaGreat
set_option linter.unusedVariables false
set_option linter.unusedSimpArgs false
open Go.RowKit

theorem disable (w : World) : (callFunc 116 #[]).run Tryz.prog w = .ok (.value (.tuple #[])) w := run_call_mark0 Tryz.func116 (by kernel_rfl) (by kernel_rfl) (by kernel_rfl) .disable (by kernel_rfl) w
theorem enable (w : World) : (callFunc 118 #[]).run Tryz.prog w = .ok (.value (.tuple #[])) w := run_call_mark0 Tryz.func118 (by kernel_rfl) (by kernel_rfl) (by kernel_rfl) .enable (by kernel_rfl) w
theorem acquire (a : Addr) (w : World) : (callFunc 119 #[.pointer (some a)]).run Tryz.prog w = .ok (.value (.tuple #[])) w := run_call_marked Tryz.func119 (by kernel_rfl) (by kernel_rfl) (by kernel_rfl) .acquire (by kernel_rfl) a w
theorem releaseMerge (a : Addr) (w : World) : (callFunc 121 #[.pointer (some a)]).run Tryz.prog w = .ok (.value (.tuple #[])) w := run_call_marked Tryz.func121 (by kernel_rfl) (by kernel_rfl) (by kernel_rfl) .releaseMerge (by kernel_rfl) a w

theorem store_deferred (a : Addr) (x : Value) (u : FrameMode) (w : World) (hc : w.cell? a = some x) (hz : w.frozen? a = false) :
    CallsD Tryz.prog 111 #[.pointer (some a), .bool true] u w fun e u' w' => u' = u ∧ (e = .returned (.tuple #[]) ∧ w' = w.drew.setCell a (.int .u32 1)) := by
  have hc' : w.drew.cell? a = some x := by go_simp
  have hz' : w.drew.frozen? a = false := by go_simp
  have hst := run_call_store (P := Tryz.prog) Tryz.func114 (by kernel_rfl) (by kernel_rfl) (by kernel_rfl) (by kernel_rfl) (k := .u32) (y := 1) hc' hz'
  go_enter_d Tryz.func111, Tryz.ntmps111
  go_wp2
  go_region_calls
  all_goals (go_end0; exact ⟨rfl, rfl⟩)

set_option maxRecDepth 100000 in
theorem unlock_deferred (a : Addr) (u : FrameMode) (w : World) (hc : w.cell? a = some (.int .i32 1)) (hz : w.frozen? a = false) :
    CallsD Tryz.prog 110 #[.pointer (some a)] u w fun e u' w' => u' = u ∧ (e = .returned (.tuple #[]) ∧ w' = w.setCell a (.int .i32 0)) := by
  have hd := disable
  have he := enable
  have hr := releaseMerge
  have hadd := run_call_add (P := Tryz.prog) Tryz.func122 (by kernel_rfl) (by kernel_rfl) (by kernel_rfl) .i32 (by kernel_rfl) (y := -1) (s := 0) hc hz (by simp [go_sem]; rfl)
  have hcv := run_convert_to_unsafe (P := Tryz.prog) (src := 174) (dst := 178) Tryz.underlying174 Tryz.underlying178 (by kernel_rfl) hc
  go_enter_d Tryz.func110, Tryz.ntmps110
  go_wp2
  go_end0
  go_wp2
  go_end0
  exact ⟨rfl, rfl⟩

set_option maxRecDepth 100000 in
theorem lock_free (a : Addr) (w : World) (hc : w.cell? a = some (.int .i32 0)) (hz : w.frozen? a = false) :
    Calls Tryz.prog 109 #[.pointer (some a)] w fun e w' => e = .returned (.tuple #[]) ∧ w' = w.setCell a (.int .i32 1) := by
  have hd := disable
  have he := enable
  have ha := acquire
  have hcas := run_call_cas_hit (P := Tryz.prog) Tryz.func117 (by kernel_rfl) (by kernel_rfl) (by kernel_rfl) .i32 (by kernel_rfl) (y := 1) hc hz
  have hc' : (w.setCell a (.int .i32 1)).cell? a = some (.int .i32 1) := World.cell?_setCell_same w a _ hc
  have hcv := run_convert_to_unsafe (P := Tryz.prog) (src := 174) (dst := 178) Tryz.underlying174 Tryz.underlying178 (by kernel_rfl) hc'
  go_enter Tryz.func109, Tryz.ntmps109
  go_wp2
  first | go_end0 | (simp only [Exit.inBlock, Exit.then]; refine bodyPost_ret (results_none rfl _ _ _) rfl ?_) | refine bodyPost_ret (results_none rfl _ _ _) rfl ?_
  go_wp2
  go_end0
  exact ⟨rfl, rfl⟩

/-- m words. -/
def wordCells (W : Nat → Nat) (m : Nat) : Array Value := Array.ofFn (n := m) fun k => .int .u64 ((W k.val : Nat) : Int)
theorem wordCells_get (W : Nat → Nat) (m k : Nat) (h : k < m) : (wordCells W m)[k]? = some (.int .u64 ((W k : Nat) : Int)) := by simp [wordCells, h]
theorem wordCells_set (W : Nat → Nat) (m k v : Nat) : (wordCells W m).setIfInBounds k (.int .u64 ((v : Nat) : Int)) = wordCells (fun i => if i = k then v else W i) m := by
  apply Array.ext_getElem?
  intro i
  rw [Array.getElem?_setIfInBounds]
  by_cases hi : i < m
  · rw [wordCells_get _ _ _ hi]
    by_cases h : k = i
    · subst h
      have : k < (wordCells W m).size := by simpa [wordCells] using hi
      rw [wordCells_get _ _ _ hi]; simp [this]
    · have h' : ¬ i = k := fun e => h e.symm
      simp [h, h', wordCells_get _ _ _ hi]
  · have h1 : (wordCells W m)[i]? = none := by simp [wordCells]; omega
    have h2 : (wordCells (fun i => if i = k then v else W i) m)[i]? = none := by simp [wordCells]; omega
    rw [h1, h2]
    have : ¬ i < (wordCells W m).size := by simpa [wordCells] using hi
    split <;> simp_all
theorem wordCells_made (m : Nat) : madeCells #[.int .u64 0] m = wordCells (fun _ => 0) m := by
  apply Array.ext
  · simp [wordCells, size_madeCells]
  · intro i h1 h2
    simp [wordCells, madeCells, Nat.mod_one]

theorem mk_words (m : Nat) (hm : m ≤ 1000000) (w : World) : (Instr.makeSlice 138 (.int .i64 (m : Int)) (.int .i64 (m : Int))).run Tryz.prog w = .ok (.slice (some ⟨w.heap.size, 0, none⟩) m m) (w.alloc (.cells (wordCells (fun _ => 0) m) 153)) := by
  obtain ⟨i, hi, hh⟩ := Option.map_eq_some_iff.1 (show (Tryz.prog.info? 153).map (fun i => (i.zero, i.size, i.bytes)) = some (some (.agg #[.int .u64 0]), 1, 8) by kernel_rfl)
  simp only [Prod.mk.injEq] at hh
  obtain ⟨hz, hs, hb⟩ := hh
  have := run_make (P := Tryz.prog) w 138 153 i (.agg #[.int .u64 0]) Tryz.underlying138 hi hz .i64 .i64 m m (by omega) (Int.le_refl _) (by rw [hb]; omega) (by omega)
  rw [this, hs]
  simp [Value.cells, wordCells_made]
end Go.Proofs.YtbcabjpafeocgaaGreat

/-
  A set of numbers (layer 1): where it lies, and how its words are laid. Conditions: as each theorem says.
-/
namespace Go.Proofs.YtbcabjpafeocgaaGreat
set_option linter.unusedVariables false
set_option linter.unusedSimpArgs false
open Go.RowKit


theorem Blk.as_ {w : World} {g : Nat} {t : TypeId} {cs cs' : Array Value} (h : Blk w g t cs) (e : cs = cs') : Blk w g t cs' := e ▸ h

/-- How many words n numbers have. -/
def wordsOf (n : Int) : Nat := (n.toNat + 63) / 64
def nilRow : Value := .slice none 0 0
def setCells (n : Int) (done lock : Int) (l : Value) : Array Value := #[.int .i64 n, .int .u32 done, .int .i32 lock, .int .u32 0, l]
def rowAt (g m : Nat) : Value := .slice (some ⟨g, 0, none⟩) m m

/-- The set at block b: n numbers at most, its words W; lo: the block of its words, where they are laid. -/
def SetAt (w : World) (b : Nat) (n : Int) (W : Nat → Nat) : Option Nat → Prop
  | none => Blk w b 140 (setCells n 0 0 nilRow) ∧ W = fun _ => 0
  | some g => Blk w b 140 (setCells n 1 0 (rowAt g (wordsOf n))) ∧ Blk w g 153 (wordCells W (wordsOf n)) ∧ g ≠ b

section
variable {w : World} {b : Nat} {n : Int}

/-- What the closure does that words hands to Do. -/
theorem set_lay (pl : Addr) (hn0 : 0 ≤ n) (hn1 : n ≤ 100000) (hp : w.cell? pl = some (.pointer (some ⟨b, 0, none⟩))) (h : Blk w b 140 (setCells n 0 1 nilRow)) :
    Calls Tryz.prog 101 #[.pointer (some pl)] w fun e w' => e = .returned (.tuple #[]) ∧ Blk w' b 140 (setCells n 0 1 (rowAt w.heap.size (wordsOf n))) ∧ Blk w' w.heap.size 153 (wordCells (fun _ => 0) (wordsOf n)) ∧ Chg [b] w w' := by
  have HB := Lib.hid h
  have hlt := h.lt
  have c0 := h.cell 0
  have c4 := h.cell 4
  have f4 := h.frozen 4
  simp [setCells] at c0 c4
  obtain ⟨m, hm⟩ : ∃ m, wordsOf n = m := ⟨_, rfl⟩
  have hq : (n + 63) / 64 = (m : Int) := by rw [← hm]; unfold wordsOf; omega
  have hs : IntKind.i64.wrap (n + 63) = n + 63 := by rw [IntKind.wrap_i64]; omega
  have hmk := mk_words m (by omega)
  have hpl : pl.block < w.heap.size := by
    rcases Nat.lt_or_ge pl.block w.heap.size with hl | hg
    · exact hl
    · simp [World.cell?, Array.getElem?_eq_none hg] at hp
  have aA : ∀ o : Go.Obj, (w.alloc o).cell? pl = some (.pointer (some ⟨b, 0, none⟩)) := fun o => (World.cell?_alloc_lt w o pl hpl).trans hp
  have a0 : ∀ o : Go.Obj, (w.alloc o).cell? ⟨b, 0, none⟩ = some (.int .i64 n) := fun o => (World.cell?_alloc_past _ _ _ hlt).trans c0
  have a4 : ∀ o : Go.Obj, (w.alloc o).cell? ⟨b, 4, none⟩ = some nilRow := fun o => (World.cell?_alloc_past _ _ _ hlt).trans c4
  have z4 : ∀ o : Go.Obj, (w.alloc o).frozen? ⟨b, 4, none⟩ = false := fun o => (World.frozen?_alloc_past _ _ _ hlt).trans f4
  rw [hm]
  have hlt := Lib.hid hlt
  clear h hm hpl
  go_enter Tryz.func101, Tryz.ntmps101
  go_wp2_with fail
  go_region
  all_goals
    go_end0
    refine ⟨rfl, ?_, ?_, ?_⟩
    · apply Blk.as_
      · (repeat (first | with_reducible apply Blk.set_ | with_reducible apply Blk.drew | with_reducible apply Blk.drewN | with_reducible apply Blk.alloc))
        exact HB.out
      · simp [setCells, rowAt]
    · have e : (w.setCell ⟨b, 4, none⟩ (rowAt w.heap.size m)).heap.size = w.heap.size := by simp [World.setCell]
      have hw := Blk.new (w.setCell ⟨b, 4, none⟩ (rowAt w.heap.size m)) 153 (wordCells (fun _ => 0) m)
      rw [e] at hw
      repeat (with_reducible apply Blk.drew)
      exact hw
    · (repeat (first | with_reducible apply Chg.drew | with_reducible apply Chg.drewN | with_reducible apply Chg.alloc | (with_reducible apply Chg.setCell; rotate_left; exact .inl (by simp)) | exact Chg.refl _ _))

set_option maxRecDepth 100000 in
set_option maxHeartbeats 1600000 in
/-- Once's slow road, not yet done, the lock free. -/
theorem once_slow (pl : Addr) (hpb : ¬ b = pl.block) (hn0 : 0 ≤ n) (hn1 : n ≤ 100000) (hp : w.cell? pl = some (.pointer (some ⟨b, 0, none⟩))) (h : Blk w b 140 (setCells n 0 0 nilRow)) :
    Calls Tryz.prog 107 #[.pointer (some ⟨b, 1, none⟩), .func (.func 101) #[] #[.pointer (some pl)]] w fun e w' => e = .returned (.tuple #[]) ∧ SetAt w' b n (fun _ => 0) (some w.heap.size) ∧ Chg [b] w w' := by
  have HB := Lib.hid h
  have hlt := h.lt
  have c2 := h.cell 2
  have f2 := h.frozen 2
  simp [setCells] at c2
  have h1 : Blk (w.setCell ⟨b, 2, none⟩ (.int .i32 1)) b 140 (setCells n 0 1 nilRow) := (h.set_ 2 _).as_ (by simp [setCells])
  have hp1 : (w.setCell ⟨b, 2, none⟩ (.int .i32 1)).cell? pl = some (.pointer (some ⟨b, 0, none⟩)) := (World.cell?_setCell_other _ ⟨b, 2, none⟩ pl _ (fun h => hpb (by rw [← h]))).trans hp
  have hc1 : Chg [b] w (w.setCell ⟨b, 2, none⟩ (.int .i32 1)) := (Chg.refl _ _).setCell (.inl (by simp)) _
  have hsz : (w.setCell ⟨b, 2, none⟩ (.int .i32 1)).heap.size = w.heap.size := by simp [World.setCell]
  have hd0 := h1.cell 1
  simp [setCells] at hd0
  have hl := run_call_load (P := Tryz.prog) Tryz.func108 (by kernel_rfl) (by kernel_rfl) (by kernel_rfl) .u32 (by kernel_rfl) (w := w.setCell ⟨b, 2, none⟩ (.int .i32 1)) (a := ⟨b, 1, none⟩) (x := 0) hd0
  have hnot : ∀ (x : Bool) (w : World), (Op.unary .not (.bool x)).run Tryz.prog w = .ok (.bool (!x)) w := fun _ _ => rfl
  have HC1 := Lib.hid hc1
  have H1 := Lib.hid h1
  have HP1 := Lib.hid hp1
  have HSZ := Lib.hid hsz
  clear h hlt hc1 h1 hp1 hsz hp hd0
  go_enter_defers Tryz.func107, Tryz.ntmps107
  go_wp2_with (go_at_call 109; refine (lock_free ⟨b, 2, none⟩ _ c2 f2).mono ?_; rintro e w' ⟨rfl, rfl⟩)
  clear c2 f2
  go_wp2_with (first | (go_at_call 101; refine (set_lay pl hn0 hn1 HP1.out H1.out).mono ?_; rintro e w2 ⟨rfl, hb2, hg2, hc2⟩; have HB2 := Lib.hid hb2; have HG2 := Lib.hid hg2; have HC2 := Lib.hid hc2; clear hb2 hg2 hc2) | (go_at_call 106; go_in))
  have HNE := Lib.hid (show w.heap.size ≠ b by have := HB.out.lt; omega)
  have hg := HG2.out
  rw [HSZ.out] at hg
  have hb2 := HB2.out
  rw [HSZ.out] at hb2
  have k1 := hb2.cell 1
  have z1 := hb2.frozen 1
  simp [setCells] at k1
  refine leaves_cons (f := 111) (args := #[.pointer (some ⟨b, 1, none⟩), .bool true]) (by simp) (by simp [go_sem]) ?_
  refine (store_deferred ⟨b, 1, none⟩ (.int .u32 0) .returning _ k1 z1).mono ?_
  rintro e u' w'' ⟨rfl, rfl, rfl⟩
  have hb3 := hb2.drew.set_ 1 (.int .u32 1)
  have k2 := hb3.cell 2
  have z2 := hb3.frozen 2
  simp [setCells] at k2
  refine leaves_cons (f := 110) (args := #[.pointer (some ⟨b, 2, none⟩)]) (by simp [settle]) (by simp [go_sem]) ?_
  refine (unlock_deferred ⟨b, 2, none⟩ _ _ k2 z2).mono ?_
  rintro e u' w'' ⟨rfl, rfl, rfl⟩
  have hb4 := hb3.set_ 2 (.int .i32 0)
  have hg4 := (hg.drew.far (p := ⟨b, 1, none⟩) HNE.out (.int .u32 1)).far (p := ⟨b, 2, none⟩) HNE.out (.int .i32 0)
  have hc4 := (((HC1.out.trans HC2.out (by simp)).drew.setCell (p := ⟨b, 1, none⟩) (.inl (by simp)) (.int .u32 1)).setCell (p := ⟨b, 2, none⟩) (.inl (by simp)) (.int .i32 0))
  have fin : SetAt _ b n (fun _ => 0) (some w.heap.size) := ⟨hb4.as_ (by simp [setCells, rowAt]), hg4, HNE.out⟩
  have HF := Lib.hid fin
  have HC4 := Lib.hid hc4
  clear fin hc4 hg4 hb4 hb3 hb2 k1 z1 k2 z2 hg
  simp [Leaves, settle, results, Tryz.results107]
  exact ⟨HF.out, HC4.out⟩

theorem once_first (pl : Addr) (hpb : ¬ b = pl.block) (hn0 : 0 ≤ n) (hn1 : n ≤ 100000) (hp : w.cell? pl = some (.pointer (some ⟨b, 0, none⟩))) (h : Blk w b 140 (setCells n 0 0 nilRow)) :
    Calls Tryz.prog 100 #[.pointer (some ⟨b, 1, none⟩), .func (.func 101) #[] #[.pointer (some pl)]] w fun e w' => e = .returned (.tuple #[]) ∧ SetAt w' b n (fun _ => 0) (some w.heap.size) ∧ Chg [b] w w' := by
  have HP := Lib.hid hp
  have HB := Lib.hid h
  have h0 := h.cell 1
  simp [setCells] at h0
  have hl := run_call_load (P := Tryz.prog) Tryz.func108 (by kernel_rfl) (by kernel_rfl) (by kernel_rfl) .u32 (by kernel_rfl) h0
  have hnot : ∀ (x : Bool) (w : World), (Op.unary .not (.bool x)).run Tryz.prog w = .ok (.bool (!x)) w := fun _ _ => rfl
  clear h hp
  go_enter Tryz.func100, Tryz.ntmps100
  go_wp2_with (first | (go_at_call 107; refine (once_slow pl hpb hn0 hn1 HP.out HB.out).mono ?_; rintro e w' ⟨rfl, hs, hc⟩) | (go_at_call 106; go_in))
  go_end0
  exact ⟨rfl, hs, hc⟩

theorem once_done (a : Addr) (fv : Value) (h0 : w.cell? a = some (.int .u32 1)) :
    Calls Tryz.prog 100 #[.pointer (some a), fv] w fun e w' => e = .returned (.tuple #[]) ∧ w' = w := by
  have hl := run_call_load (P := Tryz.prog) Tryz.func108 (by kernel_rfl) (by kernel_rfl) (by kernel_rfl) .u32 (by kernel_rfl) h0
  have hnot : ∀ (x : Bool) (w : World), (Op.unary .not (.bool x)).run Tryz.prog w = .ok (.bool (!x)) w := fun _ _ => rfl
  go_enter Tryz.func100, Tryz.ntmps100
  go_wp2
  go_end0
  exact ⟨rfl, rfl⟩

/-- words: they are laid behind it. -/
theorem SWords {W : Nat → Nat} {lo : Option Nat} (h : SetAt w b n W lo) (hn0 : 0 ≤ n) (hn1 : n ≤ 100000) :
    Calls Tryz.prog 83 #[.pointer (some ⟨b, 0, none⟩)] w fun e w' => ∃ g, e = .returned (rowAt g (wordsOf n)) ∧ SetAt w' b n W (some g) ∧ (lo = some g ∨ w.heap.size ≤ g) ∧ Chg [b] w w' := by
  have hmf : ∀ (fn : Fn) (first cap : Array Value) (w : World), (Instr.makeFunc fn first cap).run Tryz.prog w = .ok (.func fn first cap) w := fun _ _ _ _ => rfl
  cases lo with
  | none =>
    obtain ⟨h, rfl⟩ := h
    have hlt := h.lt
    have HB := Lib.hid (h.alloc (.cells #[.pointer (some ⟨b, 0, none⟩)] 86))
    have HNE := Lib.hid (show ¬ b = w.heap.size by omega)
    have HP : Hid ((w.alloc (.cells #[.pointer (some ⟨b, 0, none⟩)] 86)).cell? ⟨w.heap.size, 0, none⟩ = some (.pointer (some ⟨b, 0, none⟩))) := Lib.hid (by simp)
    have HC0 := Lib.hid ((Chg.refl [b] w).alloc (.cells #[.pointer (some ⟨b, 0, none⟩)] 86))
    have HNB := Lib.hid (Blk.new w 86 #[.pointer (some ⟨b, 0, none⟩)])
    clear h hlt
    go_enter Tryz.func83, Tryz.ntmps83
    go_wp2_with fail
    refine (once_first ⟨w.heap.size, 0, none⟩ HNE.out hn0 hn1 HP.out HB.out).mono ?_
    rintro e w1 ⟨rfl, hs, hc⟩
    have hp1 := (hc.blk HNB.out (by simp; exact fun h => HNE.out h.symm)).cell 0
    simp at hp1
    have c4 := hs.1.cell 4
    simp [setCells] at c4
    have HS := Lib.hid hs
    have HC := Lib.hid hc
    have HSZ := Lib.hid (show w.heap.size ≤ (w.alloc (.cells #[.pointer (some ⟨b, 0, none⟩)] 86)).heap.size by simp)
    clear hs hc HB HP
    go_wp2_with fail
    go_ret
    exact ⟨w.heap.size + 1, rfl, by simpa using HS.out, .inr (by omega), HC0.out.trans HC.out (by simp)⟩
  | some g =>
    have HS := Lib.hid h
    have h1 := h.1.cell 1
    simp [setCells] at h1
    have hlt := h.1.lt
    have a1 : (w.alloc (.cells #[.pointer (some ⟨b, 0, none⟩)] 86)).cell? ⟨b, 1, none⟩ = some (.int .u32 1) := (World.cell?_alloc_past _ _ _ hlt).trans h1
    have h4 := h.1.cell 4
    simp [setCells] at h4
    have a4 : (w.alloc (.cells #[.pointer (some ⟨b, 0, none⟩)] 86)).cell? ⟨b, 4, none⟩ = some (rowAt g (wordsOf n)) := (World.cell?_alloc_past _ _ _ hlt).trans h4
    have A1 := Lib.hid a1
    have HS2 : Hid (SetAt (w.alloc (.cells #[.pointer (some ⟨b, 0, none⟩)] 86)) b n W (some g)) := Lib.hid ⟨h.1.alloc _, h.2.1.alloc _, h.2.2⟩
    have HC0 := Lib.hid ((Chg.refl [b] w).alloc (.cells #[.pointer (some ⟨b, 0, none⟩)] 86))
    clear h h1 hlt h4 a1
    go_enter Tryz.func83, Tryz.ntmps83
    go_wp2_with fail
    refine (once_done ⟨b, 1, none⟩ _ A1.out).mono ?_
    rintro e w1 ⟨rfl, rfl⟩
    go_wp2_with fail
    go_ret
    exact ⟨g, rfl, HS2.out, .inl rfl, HC0.out⟩
end
end Go.Proofs.YtbcabjpafeocgaaGreat

/-
  A region that draws its order and holds writing calls one after another, and behind them reads and calls that only make memory: the calls are taken as they come, the rest is walked once. Conditions: as each theorem says.
-/
namespace Go.Proofs.YtbcabjpafeocgaaGreat
set_option linter.unusedVariables false
set_option linter.unusedSimpArgs false
open Go.RowKit

/-- From operation k on: reads, and calls that only make memory. -/
theorem wpAny_grow {P : Program} {Q : Exit → Act → World → Prop} {a : Act} {w : World} {listed : Array Bool} {l : List Oper} (k : Nat) {fuel : Nat}
    (hs : Region.noSelect l.toArray = true) (hfu : (l.drop k).length = fuel) (hB : Region.lexFrom .any l.toArray fuel k listed = true)
    (h : wpQuiet P l.toArray (fun w' => ∃ x : Later w, w' = x.w') (fun a' => ∀ w', (∃ x : Later w, w' = x.w') → Q .normal a' w') (l.drop k) a) : wpAny P .any l.toArray Q fuel listed a w := by
  subst hfu
  exact wpAny_of_quiet (Q := fun a' => ∀ w', (∃ x : Later w, w' = x.w') → Q .normal a' w') (fun _ w' hw' h => h w' hw') _ _ _ _ ⟨⟨w, Chg.refl _ _⟩, rfl⟩
    (wpAnyQ_lex hs (l.drop k) k listed a (fun j => by simp) hB h)

end Go.Proofs.YtbcabjpafeocgaaGreat

/-
  What a set of numbers (layer 1) answers. Conditions: as each theorem says.
-/
namespace Go.Proofs.YtbcabjpafeocgaaGreat
set_option linter.unusedVariables false
set_option linter.unusedSimpArgs false
open Go.RowKit

def bitOf (W : Nat → Nat) (i : Nat) : Bool := (W (i / 64)).testBit (i % 64)

section
variable {w : World} {b : Nat} {n : Int} {W : Nat → Nat} {lo : Option Nat}

theorem SPlaceOut (h : SetAt w b n W lo) (i : Int) (hi : i < 0 ∨ n ≤ i) :
    Calls Tryz.prog 73 #[.pointer (some ⟨b, 0, none⟩), .int .i64 i] w fun e w' => e = .returned (.tuple #[.pointer none, .int .u64 0, .bool false]) ∧ w = w' := by
  have h0 : w.cell? ⟨b, 0, none⟩ = some (.int .i64 n) := by
    cases lo with
    | none => have := h.1.cell 0; simpa [setCells] using this
    | some g => have := h.1.cell 0; simpa [setCells] using this
  clear h
  by_cases h1 : i < 0
  · clear hi
    go_enter Tryz.func73, Tryz.ntmps73
    go_wp2_with fail
    go_ret3
    exact ⟨rfl, rfl⟩
  · have h2 : n ≤ i := by omega
    clear hi
    go_enter Tryz.func73, Tryz.ntmps73
    go_wp2_with fail
    go_ret3
    exact ⟨rfl, rfl⟩

theorem SPlaceIn (h : SetAt w b n W lo) (hn1 : n ≤ 100000) (I : Nat) (hi : (I : Int) < n) :
    Calls Tryz.prog 73 #[.pointer (some ⟨b, 0, none⟩), .int .i64 (I : Int)] w fun e w' => ∃ g, e = .returned (.tuple #[.pointer (some ⟨g, I / 64, none⟩), .int .u64 ((2 ^ (I % 64) : Nat) : Int), .bool true]) ∧ SetAt w' b n W (some g) ∧ (lo = some g ∨ w.heap.size ≤ g) ∧ Chg [b] w w' := by
  have h0 : w.cell? ⟨b, 0, none⟩ = some (.int .i64 n) := by
    cases lo with
    | none => have := h.1.cell 0; simpa [setCells] using this
    | some g => have := h.1.cell 0; simpa [setCells] using this
  have hi0 : (0 : Int) ≤ (I : Int) := by omega
  have HS : Hid (∀ k, SetAt (w.drewN k) b n W lo) := Lib.hid (by
    intro k
    cases lo with
    | none => exact h
    | some g => exact h)
  obtain ⟨q, hq⟩ : ∃ q, I / 64 = q := ⟨_, rfl⟩
  obtain ⟨r, hr⟩ : ∃ r, I % 64 = r := ⟨_, rfl⟩
  have hqi : (I : Int) / 64 = (q : Int) := by omega
  have hri : (I : Int) % 64 = (r : Int) := by omega
  have hr64 : r < 64 := by omega
  have hlt : q < wordsOf n := by unfold wordsOf; omega
  have hwq : IntKind.i64.wrap (q : Int) = (q : Int) := by rw [IntKind.wrap_i64]; omega
  have htm : (I : Int).tmod 64 = (r : Int) := by rw [Int.tmod_eq_emod_of_nonneg (by omega)]; omega
  have hr0 : (0 : Int) ≤ (r : Int) := by omega
  have hw2 : IntKind.u64.wrap ((2 : Int) ^ r) = ((2 ^ r : Nat) : Int) := by
    have hp : 2 ^ r < 18446744073709551616 := Nat.pow_lt_pow_right (by decide) hr64
    have e : ((2 : Int) ^ r) = ((2 ^ r : Nat) : Int) := by simp
    rw [e, IntKind.wrap_u64]
    generalize 2 ^ r = p at hp ⊢
    omega
  rw [hq, hr]
  have hn0 : 0 ≤ n := by omega
  clear h hq hr
  go_enter Tryz.func73, Tryz.ntmps73
  go_wp2_with fail
  go_region_with (go_at_call 83; refine (SWords (HS.out _) hn0 hn1).mono ?_; rintro e w1 ⟨g, rfl, hs, hg, hc⟩; have HS1 := Lib.hid hs; have HG := Lib.hid hg; have HC := Lib.hid hc; clear hs hg hc; unfold rowAt)
  all_goals go_wp2_with fail
  all_goals go_ret3
  all_goals exact ⟨g, rfl, HS1.out, HG.out, ((Chg.refl [b] w).drewN 1).trans HC.out (by simp)⟩
end

/-- Atomic Or, And, Load of one word. -/
theorem or_word (a : Addr) (x y : Nat) (hx : x < 18446744073709551616) (hy : y < 18446744073709551616) (w : World) (hc : w.cell? a = some (.int .u64 (x : Int))) (hz : w.frozen? a = false) :
    (callFunc 97 #[.pointer (some a), .int .u64 (y : Int)]).run Tryz.prog w = .ok (.value (.int .u64 (x : Int))) (w.setCell a (.int .u64 ((x ||| y : Nat) : Int))) := by
  rw [run_callFunc_extern Tryz.func97 (by kernel_rfl) (by kernel_rfl) (by kernel_rfl) (show Extern.find Tryz.f97 = some (Extern.Atomic.update (Op.intBits .or) .u64 false) by kernel_rfl)]
  change (Sem.run Tryz.prog (do
    let a' ← asAddr (.pointer (some a))
    let old ← Extern.Atomic.read (.int .u64) a'
    let new ← Op.intBits .or .u64 (← asInt old) (← asInt (.int .u64 (y : Int)))
    store a' new .atomic
    pure (if false = true then new else old)) w).andThen _ = _
  have hs : (Op.intBits .or .u64 (x : Int) (y : Int)).run Tryz.prog w = .ok (.int .u64 ((x ||| y : Nat) : Int)) w := by
    have := u64_or_nat x y hx hy
    rw [← this]
    rfl
  simp [Extern.Atomic.read, asAddr, asInt, asIntOf, hc, hz, hs, run_store Tryz.prog w a (.int .u64 ((x ||| y : Nat) : Int)) .atomic rfl, Result.andThen]

theorem and_word (a : Addr) (x y : Nat) (hx : x < 18446744073709551616) (hy : y < 18446744073709551616) (w : World) (hc : w.cell? a = some (.int .u64 (x : Int))) (hz : w.frozen? a = false) :
    (callFunc 105 #[.pointer (some a), .int .u64 (y : Int)]).run Tryz.prog w = .ok (.value (.int .u64 (x : Int))) (w.setCell a (.int .u64 ((x &&& y : Nat) : Int))) := by
  rw [run_callFunc_extern Tryz.func105 (by kernel_rfl) (by kernel_rfl) (by kernel_rfl) (show Extern.find Tryz.f105 = some (Extern.Atomic.update (Op.intBits .and) .u64 false) by kernel_rfl)]
  change (Sem.run Tryz.prog (do
    let a' ← asAddr (.pointer (some a))
    let old ← Extern.Atomic.read (.int .u64) a'
    let new ← Op.intBits .and .u64 (← asInt old) (← asInt (.int .u64 (y : Int)))
    store a' new .atomic
    pure (if false = true then new else old)) w).andThen _ = _
  have hs : (Op.intBits .and .u64 (x : Int) (y : Int)).run Tryz.prog w = .ok (.int .u64 ((x &&& y : Nat) : Int)) w := by
    have := u64_and_nat x y hx hy
    rw [← this]
    rfl
  simp [Extern.Atomic.read, asAddr, asInt, asIntOf, hc, hz, hs, run_store Tryz.prog w a (.int .u64 ((x &&& y : Nat) : Int)) .atomic rfl, Result.andThen]

/-- Atomic words, by their methods. -/
theorem ALoad (g q : Nat) (x : Int) (w : World) (hc : w.cell? ⟨g, q, none⟩ = some (.int .u64 x)) :
    Calls Tryz.prog 85 #[.pointer (some ⟨g, q, none⟩)] w fun e w' => e = .returned (.int .u64 x) ∧ w = w' := by
  have hl := run_call_load (P := Tryz.prog) Tryz.func102 (by kernel_rfl) (by kernel_rfl) (by kernel_rfl) .u64 (by kernel_rfl) hc
  go_enter Tryz.func85, Tryz.ntmps85
  go_wp2
  go_ret
  exact ⟨rfl, rfl⟩

theorem AOr (g q x y : Nat) (hx : x < 18446744073709551616) (hy : y < 18446744073709551616) (w : World) (hc : w.cell? ⟨g, q, none⟩ = some (.int .u64 (x : Int))) (hz : w.frozen? ⟨g, q, none⟩ = false) :
    Calls Tryz.prog 74 #[.pointer (some ⟨g, q, none⟩), .int .u64 (y : Int)] w fun e w' => e = .returned (.int .u64 (x : Int)) ∧ w' = w.setCell ⟨g, q, none⟩ (.int .u64 ((x ||| y : Nat) : Int)) := by
  have hl := or_word ⟨g, q, none⟩ x y hx hy w hc hz
  go_enter Tryz.func74, Tryz.ntmps74
  go_wp2
  go_ret
  exact ⟨rfl, rfl⟩

theorem AAnd (g q x y : Nat) (hx : x < 18446744073709551616) (hy : y < 18446744073709551616) (w : World) (hc : w.cell? ⟨g, q, none⟩ = some (.int .u64 (x : Int))) (hz : w.frozen? ⟨g, q, none⟩ = false) :
    Calls Tryz.prog 98 #[.pointer (some ⟨g, q, none⟩), .int .u64 (y : Int)] w fun e w' => e = .returned (.int .u64 (x : Int)) ∧ w' = w.setCell ⟨g, q, none⟩ (.int .u64 ((x &&& y : Nat) : Int)) := by
  have hl := and_word ⟨g, q, none⟩ x y hx hy w hc hz
  go_enter Tryz.func98, Tryz.ntmps98
  go_wp2
  go_ret
  exact ⟨rfl, rfl⟩

end Go.Proofs.YtbcabjpafeocgaaGreat

/-
  A set of numbers (layer 1) as what it holds: a contract for each of its methods. Conditions: at most 100000 numbers.
-/
namespace Go.Proofs.YtbcabjpafeocgaaGreat
set_option linter.unusedVariables false
set_option linter.unusedSimpArgs false
open Go.RowKit

/-- The words W hold S, of numbers below n, and no other bit. -/
def Bits (W : Nat → Nat) (n : Int) (S : Nat → Bool) : Prop := ∀ i : Nat, bitOf W i = (decide ((i : Int) < n) && S i)
theorem Bits.at_ {W : Nat → Nat} {n : Int} {S : Nat → Bool} (h : Bits W n S) {i : Nat} (hi : (i : Int) < n) : bitOf W i = S i := by
  have := h i
  rw [this]
  simp [hi]
/-- The set at block b holds S, of numbers below n. -/
def SetIs (w : World) (b : Nat) (n : Int) (S : Nat → Bool) (lo : Option Nat) : Prop :=
  ∃ W, (∀ k, W k < 18446744073709551616) ∧ Bits W n S ∧ SetAt w b n W lo
/-- The blocks that it owns. -/
def setF (b : Nat) (lo : Option Nat) : List Nat := b :: lo.toList

theorem SetAt.keep {w w' : World} {b : Nat} {n : Int} {W : Nat → Nat} {lo : Option Nat} {F : List Nat} (h : SetAt w b n W lo) (hc : Chg F w w') (hF : ∀ x ∈ setF b lo, x ∉ F) : SetAt w' b n W lo := by
  cases lo with
  | none => exact ⟨hc.blk h.1 (hF b (by simp [setF])), h.2⟩
  | some g => exact ⟨hc.blk h.1 (hF b (by simp [setF])), hc.blk h.2.1 (hF g (by simp [setF])), h.2.2⟩
theorem SetIs.keep {w w' : World} {b : Nat} {n : Int} {S : Nat → Bool} {lo : Option Nat} {F : List Nat} (h : SetIs w b n S lo) (hc : Chg F w w') (hF : ∀ x ∈ setF b lo, x ∉ F) : SetIs w' b n S lo := by
  obtain ⟨W, h1, h2, h3⟩ := h
  exact ⟨W, h1, h2, h3.keep hc hF⟩
theorem SetAt.lt {w : World} {b : Nat} {n : Int} {W : Nat → Nat} {lo : Option Nat} (h : SetAt w b n W lo) : ∀ x ∈ setF b lo, x < w.heap.size := by
  cases lo with
  | none => intro x hx; simp [setF] at hx; subst hx; exact h.1.lt
  | some g => intro x hx; simp [setF] at hx; rcases hx with rfl | rfl; exact h.1.lt; exact h.2.1.lt
theorem SetIs.lt {w : World} {b : Nat} {n : Int} {S : Nat → Bool} {lo : Option Nat} (h : SetIs w b n S lo) : ∀ x ∈ setF b lo, x < w.heap.size := by
  obtain ⟨W, h1, h2, h3⟩ := h
  exact h3.lt

/-- The blocks that a set owns behind a call, those that it owned ahead, or new ones. -/
def GrewF (w : World) (F F' : List Nat) : Prop := ∀ x ∈ F', x ∈ F ∨ w.heap.size ≤ x

theorem testBit_word (x r : Nat) : x &&& 2 ^ r = if x.testBit r then 2 ^ r else 0 := by
  apply Nat.eq_of_testBit_eq
  intro i
  rw [Nat.testBit_and, Nat.testBit_two_pow]
  by_cases h : r = i
  · subst h
    cases x.testBit r <;> simp
  · cases x.testBit r <;> simp [h, Nat.testBit_two_pow]

section
variable {w : World} {b : Nat} {n : Int} {S : Nat → Bool} {lo : Option Nat}

theorem SNew (n : Int) (hn : 0 ≤ n) (w : World) : Calls Tryz.prog 46 #[.int .i64 n] w fun e w' => e = .returned (.pointer (some ⟨w.heap.size, 0, none⟩)) ∧ SetIs w' w.heap.size n (fun _ => false) none ∧ Chg [] w w' := by
  go_enter Tryz.func46, Tryz.ntmps46
  go_wp2_with fail
  go_ret
  refine ⟨rfl, ⟨fun _ => 0, by simp, fun i => by simp [bitOf], ?_, rfl⟩, ?_⟩
  · exact (Blk.new _ _ _).as_ (by simp [setCells, nilRow]; try omega)
  · exact (Chg.refl _ _).alloc _

theorem SHasOut (h : SetIs w b n S lo) (i : Int) (hi : i < 0 ∨ n ≤ i) :
    Calls Tryz.prog 58 #[.pointer (some ⟨b, 0, none⟩), .int .i64 i] w fun e w' => e = .returned (.bool false) ∧ w = w' := by
  obtain ⟨W, h1, h2, h3⟩ := h
  go_enter Tryz.func58, Tryz.ntmps58
  go_wp2_with fail
  refine (SPlaceOut h3 i hi).mono ?_
  rintro e w' ⟨rfl, rfl⟩
  go_wp2_with fail
  go_ret
  exact ⟨rfl, rfl⟩

set_option maxHeartbeats 1000000 in
theorem SHasIn (h : SetIs w b n S lo) (hn1 : n ≤ 100000) (I : Nat) (hi : (I : Int) < n) :
    Calls Tryz.prog 58 #[.pointer (some ⟨b, 0, none⟩), .int .i64 (I : Int)] w fun e w' => ∃ lo', e = .returned (.bool (S I)) ∧ SetIs w' b n S lo' ∧ GrewF w (setF b lo) (setF b lo') ∧ Chg (setF b lo) w w' := by
  obtain ⟨W, h1, h2, h3⟩ := h
  have H1 := Lib.hid h1
  have H2 := Lib.hid h2
  have H3 := Lib.hid h3
  clear h1 h2 h3
  go_enter Tryz.func58, Tryz.ntmps58
  go_wp2_with fail
  refine (SPlaceIn H3.out hn1 I hi).mono ?_
  rintro e w1 ⟨g, rfl, hs, hg, hc⟩
  have HS := Lib.hid hs
  have HG := Lib.hid hg
  have HC := Lib.hid hc
  have hcell : w1.cell? ⟨g, I / 64, none⟩ = some (.int .u64 ((W (I / 64) : Nat) : Int)) := by
    rw [hs.2.1.cell, wordCells_get _ _ _ (by unfold wordsOf; omega)]
  have hb : bitOf W I = S I := H2.out.at_ hi
  unfold bitOf at hb
  have hx := H1.out (I / 64)
  generalize I / 64 = q at *
  generalize W q = x at *
  have hp : 2 ^ (I % 64) < 18446744073709551616 := Nat.pow_lt_pow_right (by decide) (by omega : I % 64 < 64)
  have hv := u64_and_nat x (2 ^ (I % 64)) hx hp
  rw [testBit_word, hb] at hv
  have hp0 : 0 < 2 ^ (I % 64) := Nat.pow_pos (by decide)
  generalize 2 ^ (I % 64) = p at *
  have hne : ((((if S I = true then p else 0 : Nat)) : Int) != 0) = S I := by
    cases S I
    · simp
    · simp; omega
  obtain ⟨B, hB⟩ : ∃ B, S I = B := ⟨_, rfl⟩
  rw [hB] at hv hne
  have HBB := Lib.hid hB
  clear hB
  generalize (if B = true then p else 0 : Nat) = v at *
  have HCELL := Lib.hid hcell
  clear hs hg hc hcell hb hx hp hp0
  go_wp2_with fail
  refine (ALoad g q x w1 HCELL.out).mono ?_
  rintro e w' ⟨rfl, rfl⟩
  go_wp2_with fail
  go_ret
  refine ⟨some g, ?_, ⟨W, H1.out, H2.out, HS.out⟩, ?_, HC.out.mono (by simp [setF])⟩
  · rw [HBB.out]; rfl
  · intro x hx
    simp [setF] at hx
    rcases hx with rfl | rfl
    · exact .inl (by simp [setF])
    · rcases HG.out with h | h
      · exact .inl (by simp [setF, h])
      · exact .inr h
end

theorem not_word (p : Nat) (hp : p < 18446744073709551616) : bits .xor .u64 IntKind.u64.max (p : Int) = ((18446744073709551615 - p : Nat) : Int) := by
  have h := u64_xor_nat 18446744073709551615 p (by decide) hp
  have e : 18446744073709551615 ^^^ p = 18446744073709551615 - p := by
    have e2 : 18446744073709551615 - p = 2 ^ 64 - (p + 1) := by
      show _ = 18446744073709551616 - _
      omega
    have e3 : 18446744073709551615 = 2 ^ 64 - 1 := rfl
    apply Nat.eq_of_testBit_eq
    intro i
    rw [e2, Nat.testBit_two_pow_sub_succ hp, e3, Nat.testBit_xor, Nat.testBit_two_pow_sub_one]
    by_cases hi : i < 64
    · simp [hi]
    · have hpi : p.testBit i = false := Nat.testBit_lt_two_pow (Nat.lt_of_lt_of_le hp (show 18446744073709551616 ≤ 2 ^ i from Nat.pow_le_pow_right (n := 2) (by decide) (by omega : 64 ≤ i)))
      simp [hi, hpi]
  rw [e] at h
  exact h

theorem or_words (W : Nat → Nat) (I : Nat) (S : Nat → Bool) (n : Int) (h1 : ∀ k, W k < 18446744073709551616) (h2 : Bits W n S) (hi : (I : Int) < n) :
    (∀ k, (fun i => if i = I / 64 then W (I / 64) ||| 2 ^ (I % 64) else W i) k < 18446744073709551616) ∧ Bits (fun i => if i = I / 64 then W (I / 64) ||| 2 ^ (I % 64) else W i) n (fun i => S i || decide (i = I)) := by
  constructor
  · intro k
    simp only
    split
    · exact Nat.or_lt_two_pow (n := 64) (h1 _) (Nat.pow_lt_pow_right (by decide) (by omega : I % 64 < 64))
    · exact h1 k
  · intro i
    have := h2 i
    unfold bitOf at this ⊢
    simp only
    split
    · rename_i e
      rw [e] at this
      rw [Nat.testBit_or, this, Nat.testBit_two_pow]
      by_cases hI : i = I
      · subst hI; simp [hi]
      · have : ¬ I % 64 = i % 64 := by omega
        simp [hI, this]
    · rename_i e
      rw [this]
      have : ¬ i = I := fun h => e (by rw [h])
      simp [this]

theorem and_words (W : Nat → Nat) (I : Nat) (S : Nat → Bool) (n : Int) (h1 : ∀ k, W k < 18446744073709551616) (h2 : Bits W n S) (hi : (I : Int) < n) :
    (∀ k, (fun i => if i = I / 64 then W (I / 64) &&& (18446744073709551615 - 2 ^ (I % 64)) else W i) k < 18446744073709551616) ∧ Bits (fun i => if i = I / 64 then W (I / 64) &&& (18446744073709551615 - 2 ^ (I % 64)) else W i) n (fun i => S i && !decide (i = I)) := by
  constructor
  · intro k
    simp only
    split
    · exact Nat.lt_of_le_of_lt Nat.and_le_left (h1 _)
    · exact h1 k
  · intro i
    have := h2 i
    unfold bitOf at this ⊢
    simp only
    split
    · rename_i e
      rw [e] at this
      have hp : 2 ^ (I % 64) < 2 ^ 64 := Nat.pow_lt_pow_right (by decide) (by omega : I % 64 < 64)
      have e2 : 18446744073709551615 - 2 ^ (I % 64) = 2 ^ 64 - (2 ^ (I % 64) + 1) := by
        show _ = 18446744073709551616 - _
        omega
      rw [Nat.testBit_and, this, e2, Nat.testBit_two_pow_sub_succ hp, Nat.testBit_two_pow]
      have h64 : i % 64 < 64 := Nat.mod_lt _ (by omega)
      by_cases hI : i = I
      · subst hI; simp
      · have : ¬ I % 64 = i % 64 := by omega
        simp [hI, this, h64]
    · rename_i e
      rw [this]
      have : ¬ i = I := fun h => e (by rw [h])
      simp [this]

section
variable {w : World} {b : Nat} {n : Int} {S : Nat → Bool} {lo : Option Nat}

theorem SPutOut (h : SetIs w b n S lo) (i : Int) (hi : i < 0 ∨ n ≤ i) :
    Calls Tryz.prog 49 #[.pointer (some ⟨b, 0, none⟩), .int .i64 i] w fun e w' => e = .returned (.bool false) ∧ w = w' := by
  obtain ⟨W, h1, h2, h3⟩ := h
  go_enter Tryz.func49, Tryz.ntmps49
  go_wp2_with fail
  refine (SPlaceOut h3 i hi).mono ?_
  rintro e w' ⟨rfl, rfl⟩
  go_wp2_with fail
  go_ret
  exact ⟨rfl, rfl⟩

set_option maxHeartbeats 1000000 in
theorem SPutIn (h : SetIs w b n S lo) (hn1 : n ≤ 100000) (I : Nat) (hi : (I : Int) < n) :
    Calls Tryz.prog 49 #[.pointer (some ⟨b, 0, none⟩), .int .i64 (I : Int)] w fun e w' => ∃ lo', e = .returned (.bool (!S I)) ∧ SetIs w' b n (fun j => S j || decide (j = I)) lo' ∧ GrewF w (setF b lo) (setF b lo') ∧ Chg (setF b lo) w w' := by
  obtain ⟨W, h1, h2, h3⟩ := h
  have H1 := Lib.hid h1
  have H2 := Lib.hid h2
  have H3 := Lib.hid h3
  clear h1 h2 h3
  go_enter Tryz.func49, Tryz.ntmps49
  go_wp2_with fail
  refine (SPlaceIn H3.out hn1 I hi).mono ?_
  rintro e w1 ⟨g, rfl, hs, hg, hc⟩
  have HS := Lib.hid hs
  have HG := Lib.hid hg
  have HC := Lib.hid hc
  have hcell : w1.cell? ⟨g, I / 64, none⟩ = some (.int .u64 ((W (I / 64) : Nat) : Int)) := by
    rw [hs.2.1.cell, wordCells_get _ _ _ (by unfold wordsOf; omega)]
  have HZ := Lib.hid (hs.2.1.frozen (I / 64))
  have hb : bitOf W I = S I := H2.out.at_ hi
  unfold bitOf at hb
  have hx := H1.out (I / 64)
  have hp : 2 ^ (I % 64) < 18446744073709551616 := Nat.pow_lt_pow_right (by decide) (by omega : I % 64 < 64)
  have hv := u64_and_nat (W (I / 64)) (2 ^ (I % 64)) hx hp
  rw [testBit_word, hb] at hv
  have hp0 : 0 < 2 ^ (I % 64) := Nat.pow_pos (by decide)
  have HW := Lib.hid (or_words W I S n H1.out H2.out hi)
  obtain ⟨q, hq⟩ : ∃ q, I / 64 = q := ⟨_, rfl⟩
  rw [hq] at hcell hv hx HZ HW ⊢
  obtain ⟨x, hxx⟩ : ∃ x, W q = x := ⟨_, rfl⟩
  rw [hxx] at hcell hv hx HW
  obtain ⟨p, hpp⟩ : ∃ p, 2 ^ (I % 64) = p := ⟨_, rfl⟩
  rw [hpp] at hp hv hp0 HW ⊢
  have hne : ((((if S I = true then p else 0 : Nat)) : Int) == 0) = !S I := by
    cases S I
    · simp
    · simp; omega
  obtain ⟨B, hB⟩ : ∃ B, S I = B := ⟨_, rfl⟩
  rw [hB] at hv hne
  have HBB := Lib.hid hB
  generalize (if B = true then p else 0 : Nat) = v at *
  have HCELL := Lib.hid hcell
  have HX := Lib.hid hx
  have HP := Lib.hid hp
  clear hs hg hc hcell hb hx hp hp0 hB hq hxx hpp
  go_wp2_with fail
  refine (AOr g q x p HX.out HP.out w1 HCELL.out HZ.out).mono ?_
  rintro e w' ⟨rfl, rfl⟩
  go_wp2_with fail
  go_ret
  refine ⟨some g, ?_, ⟨_, HW.out.1, HW.out.2, ⟨HS.out.1.far (by simpa using HS.out.2.2.symm) _, ?_, HS.out.2.2⟩⟩, ?_, ?_⟩
  · rw [HBB.out]; rfl
  · rw [← wordCells_set]
    exact HS.out.2.1.set_ q _
  · intro x hx
    simp [setF] at hx
    rcases hx with rfl | rfl
    · exact .inl (by simp [setF])
    · rcases HG.out with h | h
      · exact .inl (by simp [setF, h])
      · exact .inr h
  · refine (HC.out.mono (by simp [setF])).setCell ?_ _
    rcases HG.out with h | h
    · exact .inl (by simp [setF, h])
    · exact .inr h

theorem SDropOut (h : SetIs w b n S lo) (i : Int) (hi : i < 0 ∨ n ≤ i) :
    Calls Tryz.prog 77 #[.pointer (some ⟨b, 0, none⟩), .int .i64 i] w fun e w' => e = .returned (.bool false) ∧ w = w' := by
  obtain ⟨W, h1, h2, h3⟩ := h
  go_enter Tryz.func77, Tryz.ntmps77
  go_wp2_with fail
  refine (SPlaceOut h3 i hi).mono ?_
  rintro e w' ⟨rfl, rfl⟩
  go_wp2_with fail
  go_ret
  exact ⟨rfl, rfl⟩

set_option maxHeartbeats 1000000 in
theorem SDropIn (h : SetIs w b n S lo) (hn1 : n ≤ 100000) (I : Nat) (hi : (I : Int) < n) :
    Calls Tryz.prog 77 #[.pointer (some ⟨b, 0, none⟩), .int .i64 (I : Int)] w fun e w' => ∃ lo', e = .returned (.bool (S I)) ∧ SetIs w' b n (fun j => S j && !decide (j = I)) lo' ∧ GrewF w (setF b lo) (setF b lo') ∧ Chg (setF b lo) w w' := by
  obtain ⟨W, h1, h2, h3⟩ := h
  have H1 := Lib.hid h1
  have H2 := Lib.hid h2
  have H3 := Lib.hid h3
  clear h1 h2 h3
  go_enter Tryz.func77, Tryz.ntmps77
  go_wp2_with fail
  refine (SPlaceIn H3.out hn1 I hi).mono ?_
  rintro e w1 ⟨g, rfl, hs, hg, hc⟩
  have HS := Lib.hid hs
  have HG := Lib.hid hg
  have HC := Lib.hid hc
  have hcell : w1.cell? ⟨g, I / 64, none⟩ = some (.int .u64 ((W (I / 64) : Nat) : Int)) := by
    rw [hs.2.1.cell, wordCells_get _ _ _ (by unfold wordsOf; omega)]
  have HZ := Lib.hid (hs.2.1.frozen (I / 64))
  have hb : bitOf W I = S I := H2.out.at_ hi
  unfold bitOf at hb
  have hx := H1.out (I / 64)
  have hp : 2 ^ (I % 64) < 18446744073709551616 := Nat.pow_lt_pow_right (by decide) (by omega : I % 64 < 64)
  have hv := u64_and_nat (W (I / 64)) (2 ^ (I % 64)) hx hp
  rw [testBit_word, hb] at hv
  have hp0 : 0 < 2 ^ (I % 64) := Nat.pow_pos (by decide)
  have HW := Lib.hid (and_words W I S n H1.out H2.out hi)
  obtain ⟨q, hq⟩ : ∃ q, I / 64 = q := ⟨_, rfl⟩
  rw [hq] at hcell hv hx HZ HW ⊢
  obtain ⟨x, hxx⟩ : ∃ x, W q = x := ⟨_, rfl⟩
  rw [hxx] at hcell hv hx HW
  obtain ⟨p, hpp⟩ : ∃ p, 2 ^ (I % 64) = p := ⟨_, rfl⟩
  rw [hpp] at hp hv hp0 HW ⊢
  have hne : ((((if S I = true then p else 0 : Nat)) : Int) != 0) = S I := by
    cases S I
    · simp
    · simp; omega
  obtain ⟨B, hB⟩ : ∃ B, S I = B := ⟨_, rfl⟩
  rw [hB] at hv hne
  have HBB := Lib.hid hB
  obtain ⟨c, hcc⟩ : ∃ c : Nat, 18446744073709551615 - p = c := ⟨_, rfl⟩
  have HQ := Lib.hid (show c < 18446744073709551616 by omega)
  have hnot : bits .xor .u64 IntKind.u64.max (p : Int) = (c : Int) := by rw [← hcc]; exact not_word p hp
  rw [hcc] at HW
  clear hcc
  generalize (if B = true then p else 0 : Nat) = v at *
  have HCELL := Lib.hid hcell
  have HX := Lib.hid hx
  have HP := Lib.hid hp
  clear hs hg hc hcell hb hx hp hp0 hB hq hxx hpp
  go_wp2_with fail
  refine (AAnd g q x _ HX.out HQ.out w1 HCELL.out HZ.out).mono ?_
  rintro e w' ⟨rfl, rfl⟩
  go_wp2_with fail
  go_ret
  refine ⟨some g, ?_, ⟨_, HW.out.1, HW.out.2, ⟨HS.out.1.far (by simpa using HS.out.2.2.symm) _, ?_, HS.out.2.2⟩⟩, ?_, ?_⟩
  · rw [HBB.out]; rfl
  · rw [← wordCells_set]
    exact HS.out.2.1.set_ q _
  · intro x hx
    simp [setF] at hx
    rcases hx with rfl | rfl
    · exact .inl (by simp [setF])
    · rcases HG.out with h | h
      · exact .inl (by simp [setF, h])
      · exact .inr h
  · refine (HC.out.mono (by simp [setF])).setCell ?_ _
    rcases HG.out with h | h
    · exact .inl (by simp [setF, h])
    · exact .inr h
end
end Go.Proofs.YtbcabjpafeocgaaGreat

/-
  Resources: what lies in memory, each thing in blocks of its own; a list of them beside each other. Conditions: no program is named here.
-/
namespace Go.Proofs.YtbcabjpafeocgaaGreat
set_option linter.unusedVariables false
set_option linter.unusedSimpArgs false
open Go.RowKit

theorem wf64 {n : Int} (h : (Lit.int .i64 n).wf = true) : -9223372036854775808 ≤ n ∧ n ≤ 9223372036854775807 := by
  simp only [Lit.wf, Bool.and_eq_true, decide_eq_true_eq] at h
  rw [show IntKind.i64.min = -9223372036854775808 from by decide, show IntKind.i64.max = 9223372036854775807 from by decide] at h
  exact h
theorem wf8 {n : Int} (h : (Lit.int .u8 n).wf = true) : 0 ≤ n ∧ n ≤ 255 := by
  simp only [Lit.wf, Bool.and_eq_true, decide_eq_true_eq] at h
  rw [show IntKind.u8.min = 0 from by decide, show IntKind.u8.max = 255 from by decide] at h
  exact h
theorem wf16 {n : Int} (h : (Lit.int .u16 n).wf = true) : 0 ≤ n ∧ n ≤ 65535 := by
  simp only [Lit.wf, Bool.and_eq_true, decide_eq_true_eq] at h
  rw [show IntKind.u16.min = 0 from by decide, show IntKind.u16.max = 65535 from by decide] at h
  exact h

/-- A thing that lies in memory, in the blocks F. -/
structure Res where
  P : World → List Nat → Prop
  keep : ∀ {w w' : World} {F G : List Nat}, P w F → Chg G w w' → (∀ x ∈ F, x ∉ G) → P w' F
  lt : ∀ {w : World} {F : List Nat}, P w F → ∀ x ∈ F, x < w.heap.size

def objR (g : Nat) (o : Go.Obj) : Res :=
  ⟨fun w F => F = [g] ∧ w.heap[g]? = some o, fun h hc hF => ⟨h.1, hc.heap h.2 (hF g (by simp [h.1]))⟩,
   fun {w F} h x hx => by
    obtain ⟨rfl, h⟩ := h
    simp at hx; subst hx
    rcases Nat.lt_or_ge x w.heap.size with hlt | hge
    · exact hlt
    · rw [Array.getElem?_eq_none hge] at h; cases h⟩
def blkR (g : Nat) (t : TypeId) (cs : Array Value) : Res := objR g (.cells cs t (0, 0))
def unitR : Res := ⟨fun _ F => F = [], fun h _ _ => h, fun h x hx => by subst h; simp at hx⟩

/-- The things of L lie beside each other, from block base on; G: all their blocks. -/
def SepL (base : Nat) (w : World) : List Res → List Nat → Prop
  | [], G => G = []
  | r :: L, G => ∃ F G', G = F ++ G' ∧ r.P w F ∧ (∀ x ∈ F, base ≤ x ∧ x ∉ G') ∧ SepL base w L G'

theorem SepL.keep {base : Nat} {w w' : World} {H : List Nat} (hc : Chg H w w') : ∀ {L : List Res} {G : List Nat}, SepL base w L G → (∀ x ∈ G, x ∉ H) → SepL base w' L G
  | [], _, h, _ => h
  | _ :: _, _, ⟨F, G', rfl, hp, hd, hr⟩, hn => ⟨F, G', rfl, Res.keep _ hp hc (fun x hx => hn x (by simp [hx])), hd, SepL.keep hc hr (fun x hx => hn x (by simp [hx]))⟩
theorem SepL.lt {base : Nat} {w : World} : ∀ {L : List Res} {G : List Nat}, SepL base w L G → ∀ x ∈ G, x < w.heap.size
  | [], _, h, x, hx => by cases h; simp at hx
  | _ :: _, _, ⟨F, G', rfl, hp, _, hr⟩, x, hx => by
    simp at hx
    rcases hx with hx | hx
    · exact Res.lt _ hp x hx
    · exact SepL.lt hr x hx
theorem SepL.base {base : Nat} {w : World} : ∀ {L : List Res} {G : List Nat}, SepL base w L G → ∀ x ∈ G, base ≤ x
  | [], _, h, x, hx => by cases h; simp at hx
  | _ :: _, _, ⟨F, G', rfl, _, hd, hr⟩, x, hx => by
    simp at hx
    rcases hx with hx | hx
    · exact (hd x hx).1
    · exact SepL.base hr x hx
theorem SepL.mono {base base' : Nat} {w : World} : ∀ {L : List Res} {G : List Nat}, SepL base w L G → (∀ x ∈ G, base' ≤ x) → SepL base' w L G
  | [], _, h, _ => h
  | _ :: _, _, ⟨F, G', rfl, hp, hd, hr⟩, hb => ⟨F, G', rfl, hp, fun x hx => ⟨hb x (by simp [hx]), (hd x hx).2⟩, SepL.mono hr (fun x hx => hb x (by simp [hx]))⟩

theorem SepL.append {base : Nat} {w : World} {L2 : List Res} {G2 : List Nat} (h2 : SepL base w L2 G2) : ∀ {L1 : List Res} {G1 : List Nat}, SepL base w L1 G1 → (∀ x ∈ G1, x ∉ G2) → SepL base w (L1 ++ L2) (G1 ++ G2)
  | [], _, h, _ => by cases h; exact h2
  | _ :: _, _, ⟨F, G', rfl, hp, hd, hr⟩, hn => by
    refine ⟨F, G' ++ G2, by simp, hp, fun x hx => ⟨(hd x hx).1, ?_⟩, SepL.append h2 hr (fun x hx => hn x (by simp [hx]))⟩
    simp
    exact ⟨(hd x hx).2, hn x (by simp [hx])⟩
theorem SepL.split {base : Nat} {w : World} {L2 : List Res} : ∀ {L1 : List Res} {G : List Nat}, SepL base w (L1 ++ L2) G → ∃ G1 G2, G = G1 ++ G2 ∧ SepL base w L1 G1 ∧ SepL base w L2 G2 ∧ ∀ x ∈ G1, x ∉ G2
  | [], G, h => ⟨[], G, rfl, rfl, h, by simp⟩
  | _ :: L1, _, ⟨F, G', rfl, hp, hd, hr⟩ => by
    obtain ⟨G1, G2, rfl, h1, h2, h3⟩ := SepL.split (L1 := L1) hr
    refine ⟨F ++ G1, G2, by simp, ⟨F, G1, rfl, hp, fun x hx => ⟨(hd x hx).1, fun hm => (hd x hx).2 (by simp [hm])⟩, h1⟩, h2, ?_⟩
    intro x hx
    simp at hx
    rcases hx with hx | hx
    · exact fun hm => (hd x hx).2 (by simp [hm])
    · exact h3 x hx

/-- Since w0 nothing that was there has changed; the things of L lie beside each other in blocks that came since. -/
def Sep (w0 w : World) (L : List Res) : Prop := Chg [] w0 w ∧ ∃ G, SepL w0.heap.size w L G

section
variable {w0 w w' : World} {L L' R : List Res} {r r' : Res} {i : Nat}

theorem Sep.start (w : World) : Sep w w [] := ⟨Chg.refl _ _, [], rfl⟩
theorem Sep.chg (h : Sep w0 w L) : Chg [] w0 w := h.1
theorem Sep.own (h : Sep w0 w L) : Own w0 [] w := ⟨h.1, by simp⟩
theorem Sep.below (h : Sep w0 w L) : Below w0.heap.size w0 w := h.own.below
theorem Sep.same (h : Sep w0 w L) (hc : Chg [] w w') : Sep w0 w' L := by
  obtain ⟨h1, G, h2⟩ := h
  exact ⟨h1.trans hc (by simp), G, h2.keep hc (by simp)⟩
theorem Sep.drew (h : Sep w0 w L) : Sep w0 w.drew L := h.same (Chg.refl _ _).drew
theorem Sep.drewN (h : Sep w0 w L) (n : Nat) : Sep w0 (w.drewN n) L := h.same ((Chg.refl _ _).drewN n)

/-- Another order, or some of them alone. -/
theorem Sep.perm (h : Sep w0 w L) (hp : L.Perm L') : Sep w0 w L' := by
  obtain ⟨h1, G, h2⟩ := h
  refine ⟨h1, ?_⟩
  have key : ∀ {L L' : List Res}, L.Perm L' → ∀ G, SepL w0.heap.size w L G → ∃ G', SepL w0.heap.size w L' G' ∧ ∀ x, x ∈ G' ↔ x ∈ G := by
    intro L L' hp
    induction hp with
    | nil => exact fun G h => ⟨G, h, fun _ => Iff.rfl⟩
    | cons a _ ih =>
      rintro _ ⟨F, G', rfl, hp, hd, hr⟩
      obtain ⟨G2, h2, h3⟩ := ih G' hr
      exact ⟨F ++ G2, ⟨F, G2, rfl, hp, fun x hx => ⟨(hd x hx).1, fun hm => (hd x hx).2 ((h3 x).1 hm)⟩, h2⟩, by intro x; simp [h3]⟩
    | swap a b L =>
      rintro _ ⟨F, _, rfl, hp, hd, ⟨F2, G2, rfl, hp2, hd2, hr⟩⟩
      refine ⟨F2 ++ (F ++ G2), ⟨F2, F ++ G2, rfl, hp2, fun x hx => ⟨(hd2 x hx).1, ?_⟩, ⟨F, G2, rfl, hp, fun x hx => ⟨(hd x hx).1, fun hm => (hd x hx).2 (by simp [hm])⟩, hr⟩⟩, by intro x; simp [or_left_comm]⟩
      intro hm
      simp at hm
      rcases hm with hm | hm
      · exact (hd x hm).2 (by simp [hx])
      · exact (hd2 x hx).2 hm
    | trans _ _ ih1 ih2 =>
      intro G h
      obtain ⟨G1, h1, e1⟩ := ih1 G h
      obtain ⟨G2, h2, e2⟩ := ih2 G1 h1
      exact ⟨G2, h2, fun x => (e2 x).trans (e1 x)⟩
  obtain ⟨G', h3, _⟩ := key hp G h2
  exact ⟨G', h3⟩
theorem Sep.tail (h : Sep w0 w (r :: L)) : Sep w0 w L := by
  obtain ⟨h1, G, F, G', rfl, _, _, hr⟩ := h
  exact ⟨h1, G', hr⟩
theorem Sep.right (h : Sep w0 w (L ++ R)) : Sep w0 w R := by
  obtain ⟨h1, G, h2⟩ := h
  obtain ⟨G1, G2, rfl, _, h3, _⟩ := h2.split
  exact ⟨h1, G2, h3⟩
theorem Sep.swap (h : Sep w0 w (r :: r' :: L)) : Sep w0 w (r' :: r :: L) := h.perm (List.Perm.swap _ _ _)
theorem Sep.left (h : Sep w0 w (L ++ R)) : Sep w0 w L := (h.perm List.perm_append_comm).right

theorem perm_pull : ∀ {L : List Res} {i : Nat} {r : Res}, L[i]? = some r → L.Perm (r :: L.eraseIdx i)
  | [], _, _, h => by simp at h
  | a :: L, 0, r, h => by simp at h; subst h; exact List.Perm.refl _
  | a :: L, i + 1, r, h => by
    simp at h
    exact ((perm_pull h).cons a).trans (List.Perm.swap _ _ _)
theorem perm_set : ∀ {L : List Res} {i : Nat} {r r' : Res}, L[i]? = some r → (r' :: L.eraseIdx i).Perm (L.set i r')
  | [], _, _, _, h => by simp at h
  | a :: L, 0, r, r', h => by simp
  | a :: L, i + 1, r, r', h => by
    simp at h
    exact (List.Perm.swap _ _ _).trans ((perm_set h).cons a)

theorem Sep.lift (h : Sep w0 w L) (i : Nat) (hi : L[i]? = some r) : Sep w0 w (r :: L.eraseIdx i) := h.perm (perm_pull hi)

theorem range_get {α : Type} (l : List α) : ∀ k : Nat, (List.range k).filterMap (fun i => l[i]?) = l.take k
  | 0 => by simp
  | k + 1 => by
    rw [List.range_succ, List.filterMap_append, range_get l k]
    rcases Nat.lt_or_ge k l.length with h | h
    · rw [List.take_succ_eq_append_getElem h]
      simp [h]
    · rw [List.take_of_length_le h, List.take_of_length_le (by omega)]
      simp [h]
/-- Some of the first k come ahead. -/
theorem Sep.front (h : Sep w0 w L) (k : Nat) (idx : List Nat) (hi : (idx ++ (List.range k).filter (fun i => !idx.contains i)).Perm (List.range k) := by decide) :
    Sep w0 w (idx.filterMap (fun i => (L.take k)[i]?) ++ (((List.range k).filter (fun i => !idx.contains i)).filterMap (fun i => (L.take k)[i]?) ++ L.drop k)) := by
  refine h.perm ?_
  rw [← List.append_assoc, ← List.filterMap_append]
  have h1 := (hi.filterMap (fun i => (L.take k)[i]?)).symm
  rw [range_get] at h1
  have h2 : L.Perm ((L.take k).take k ++ L.drop k) := by
    rw [List.take_take, Nat.min_self, List.take_append_drop]
  exact h2.trans (h1.append_right _)

/-- The head's thing changes. -/
theorem Sep.head (h : Sep w0 w (r :: L)) : ∃ F, r.P w F ∧ ∀ (r' : Res) (w' : World) (F' : List Nat), r'.P w' F' → GrewF w F F' → Chg F w w' → Sep w0 w' (r' :: L) := by
  obtain ⟨h1, G, F, G', rfl, hp, hd, hr⟩ := h
  refine ⟨F, hp, fun r' w' F' hp' hg hc => ⟨h1.trans hc (fun x hx => .inr (hd x hx).1), F' ++ G', F', G', rfl, hp', fun x hx => ?_, hr.keep hc (fun x hx hm => (hd x hm).2 hx)⟩⟩
  rcases hg x hx with h2 | h2
  · exact hd x h2
  · refine ⟨Nat.le_trans h1.size h2, fun hm => ?_⟩
    have := hr.lt x hm
    omega
theorem Sep.at_ (h : Sep w0 w L) (hi : L[i]? = some r) : ∃ F, r.P w F ∧ ∀ (r' : Res) (w' : World) (F' : List Nat), r'.P w' F' → GrewF w F F' → Chg F w w' → Sep w0 w' (L.set i r') := by
  obtain ⟨F, hp, hk⟩ := (h.perm (perm_pull hi)).head
  exact ⟨F, hp, fun r' w' F' hp' hg hc => (hk r' w' F' hp' hg hc).perm (perm_set hi)⟩
/-- A new thing. -/
theorem Sep.new {F : List Nat} (h : Sep w0 w L) (hp : r.P w' F) (hF : ∀ x ∈ F, w.heap.size ≤ x) (hc : Chg [] w w') : Sep w0 w' (r :: L) := by
  obtain ⟨h1, G, h2⟩ := h
  refine ⟨h1.trans hc (by simp), F ++ G, F, G, rfl, hp, fun x hx => ⟨Nat.le_trans h1.size (hF x hx), fun hm => ?_⟩, h2.keep hc (by simp)⟩
  have := h2.lt x hm
  have := hF x hx
  omega
theorem Sep.set_ (h : Sep w0 w L) (hi : L[i]? = some r) (hr : ∀ F, r.P w F → r'.P w F) : Sep w0 w (L.set i r') := by
  obtain ⟨F, hp, hk⟩ := h.at_ hi
  exact hk r' w F (hr F hp) (fun _ h => .inl h) (Chg.refl _ _)

theorem GrewF.self (w : World) (F : List Nat) : GrewF w F F := fun _ h => .inl h

theorem set_self (hi : L[i]? = some r) : L.set i r = L := by
  have hlt := (List.getElem?_eq_some_iff.1 hi).1
  apply List.ext_getElem?
  intro j
  rw [List.getElem?_set]
  split
  · rename_i e; subst e; exact hi.symm
  · rfl

/-- A call of a function that knows one thing. -/
theorem Sep.call {P : Program} {f : FuncId} {args : Array Value} {v : Value} (h : Sep w0 w L) (i : Nat) (hi : L[i]? = some r) (r' : Res)
    (hc : ∀ F, r.P w F → Calls P f args w fun e w' => ∃ F', e = .returned v ∧ r'.P w' F' ∧ GrewF w F F' ∧ Chg F w w') :
    Calls P f args w fun e w' => e = .returned v ∧ Sep w0 w' (L.set i r') := by
  obtain ⟨F, hp, hk⟩ := h.at_ hi
  refine (hc F hp).mono ?_
  rintro e w' ⟨F', rfl, hp', hg, hch⟩
  exact ⟨rfl, hk r' w' F' hp' hg hch⟩
/-- The thing is behind it as it was. -/
theorem Sep.look {P : Program} {f : FuncId} {args : Array Value} {v : Value} (h : Sep w0 w L) (i : Nat) (hi : L[i]? = some r)
    (hc : ∀ F, r.P w F → Calls P f args w fun e w' => ∃ F', e = .returned v ∧ r.P w' F' ∧ GrewF w F F' ∧ Chg F w w') :
    Calls P f args w fun e w' => e = .returned v ∧ Sep w0 w' L := by
  refine (h.call i hi r hc).mono ?_
  rw [set_self hi]
  exact fun _ _ h => h
theorem Sep.read {P : Program} {f : FuncId} {args : Array Value} {v : Value} (h : Sep w0 w L) (i : Nat) (hi : L[i]? = some r)
    (hc : ∀ F, r.P w F → Calls P f args w fun e w' => e = .returned v ∧ w = w') :
    Calls P f args w fun e w' => e = .returned v ∧ w = w' := by
  obtain ⟨F, hp, _⟩ := h.at_ hi
  exact hc F hp

theorem Sep.obj {g : Nat} {o : Go.Obj} (h : Sep w0 w L) (hi : L[i]? = some (objR g o)) : w.heap[g]? = some o := by
  obtain ⟨F, hp, _⟩ := h.at_ hi
  exact hp.2
theorem Sep.blk {g : Nat} {t : TypeId} {cs : Array Value} (h : Sep w0 w L) (i : Nat) (hi : L[i]? = some (blkR g t cs)) : Blk w g t cs := h.obj hi
theorem Sep.alloc (h : Sep w0 w L) (o : Go.Obj) : Sep w0 (w.alloc o) (objR w.heap.size o :: L) :=
  h.new (r := objR w.heap.size o) (F := [w.heap.size]) ⟨rfl, World.alloc_heap_new w o⟩ (by simp) ((Chg.refl _ _).alloc o)
theorem Sep.box (h : Sep w0 w L) (cs : Array Value) (t : TypeId) : Sep w0 (w.alloc (.cells cs t)) (blkR w.heap.size t cs :: L) := h.alloc _
theorem Sep.setCell {g : Nat} {t : TypeId} {cs : Array Value} (h : Sep w0 w L) (i : Nat) (hi : L[i]? = some (blkR g t cs)) (j : Nat) (v : Value) : Sep w0 (w.setCell ⟨g, j, none⟩ v) (L.set i (blkR g t (cs.setIfInBounds j v))) := by
  obtain ⟨F, hp, hk⟩ := h.at_ hi
  obtain ⟨rfl, hp⟩ := hp
  exact hk _ _ [g] ⟨rfl, Blk.set_ hp j v⟩ (GrewF.self _ _) ((Chg.refl _ _).setCell (.inl (by simp)) _)
theorem Sep.putObj {g : Nat} {o : Go.Obj} (h : Sep w0 w L) (i : Nat) (hi : L[i]? = some (objR g o)) (o' : Go.Obj) : Sep w0 (w.putObj g o') (L.set i (objR g o')) := by
  obtain ⟨F, hp, hk⟩ := h.at_ hi
  have hlt := Res.lt _ hp
  obtain ⟨rfl, hp⟩ := hp
  refine hk _ _ [g] ⟨rfl, World.putObj_heap_same (hlt g (by simp))⟩ (GrewF.self _ _) ?_
  exact (Chg.refl [g] w).grown (row := some g) (grownBy_putObj' w g o') (by rintro k h; cases h; simp)
/-- Two blocks of two things are two. -/
theorem Sep.apart {g g' : Nat} {o o' : Go.Obj} {j : Nat} (h : Sep w0 w L) (hi : L[i]? = some (objR g o)) (hj : L[j]? = some (objR g' o')) (hne : i ≠ j) : g ≠ g' := by
  obtain ⟨_, G, F, G', rfl, hp, hd, hr⟩ := h.perm (perm_pull hi)
  have h2 : ∃ k : Nat, (L.eraseIdx i)[k]? = some (objR g' o') := by
    rcases Nat.lt_or_ge j i with hlt | hge
    · exact ⟨j, by rw [List.getElem?_eraseIdx, if_pos hlt]; exact hj⟩
    · exact ⟨j - 1, by rw [List.getElem?_eraseIdx, if_neg (by omega), show j - 1 + 1 = j by omega]; exact hj⟩
  obtain ⟨k, hk⟩ := h2
  have key : ∀ {L : List Res} {G : List Nat} {k : Nat}, SepL w0.heap.size w L G → L[k]? = some (objR g' o') → g' ∈ G := by
    intro L
    induction L with
    | nil => intro G k _ h; simp at h
    | cons a L ih =>
      rintro G k ⟨F, G', rfl, hp, _, hr⟩ hk
      cases k with
      | zero => simp at hk; subst hk; obtain ⟨rfl, _⟩ := hp; simp
      | succ k => simp at hk; have := ih hr hk; simp [this]
  have h3 := key hr hk
  obtain ⟨rfl, _⟩ := hp
  intro e
  subst e
  exact (hd g (by simp)).2 h3
end

/-- Some thing of these. -/
def exR {α : Type} (f : α → Res) : Res := ⟨fun w F => ∃ x, (f x).P w F, fun ⟨x, h⟩ hc hF => ⟨x, (f x).keep h hc hF⟩, fun ⟨x, h⟩ => (f x).lt h⟩
/-- Things beside each other, as one. -/
def starR (K : List Res) : Res := ⟨fun w F => SepL 0 w K F, fun h hc hF => SepL.keep hc h hF, fun h => SepL.lt h⟩
/-- What is said of no memory. -/
def pureR (p : Prop) (r : Res) : Res := ⟨fun w F => p ∧ r.P w F, fun h hc hF => ⟨h.1, r.keep h.2 hc hF⟩, fun h => r.lt h.2⟩

section
variable {w0 w w' : World} {L L' R K : List Res} {r r' : Res} {i : Nat}
theorem Sep.openHead (h : Sep w0 w (starR K :: L)) : Sep w0 w (K ++ L) := by
  obtain ⟨h1, G, F, G', rfl, hp, hd, hr⟩ := h
  exact ⟨h1, F ++ G', SepL.append hr (SepL.mono hp (fun x hx => (hd x hx).1)) (fun x hx => (hd x hx).2)⟩
theorem Sep.shutHead (h : Sep w0 w (K ++ L)) : Sep w0 w (starR K :: L) := by
  obtain ⟨h1, G, h2⟩ := h
  obtain ⟨G1, G2, rfl, h3, h4, h5⟩ := h2.split
  exact ⟨h1, G1 ++ G2, G1, G2, rfl, SepL.mono h3 (by simp), fun x hx => ⟨h3.base x hx, h5 x hx⟩, h4⟩
theorem Sep.open_ (h : Sep w0 w L) (i : Nat) (hi : L[i]? = some (starR K)) : Sep w0 w (K ++ L.eraseIdx i) := (h.perm (perm_pull hi)).openHead
theorem Sep.shut (h : Sep w0 w (K ++ L.eraseIdx i)) (hi : L[i]? = some r) : Sep w0 w (L.set i (starR K)) := h.shutHead.perm (perm_set hi)
theorem Sep.unpure {p : Prop} (h : Sep w0 w L) (i : Nat) (hi : L[i]? = some (pureR p r)) : p ∧ Sep w0 w (L.set i r) := by
  obtain ⟨F, hp, hk⟩ := h.at_ hi
  exact ⟨hp.1, hk r w F hp.2 (GrewF.self _ _) (Chg.refl _ _)⟩
theorem Sep.unex {α : Type} {f : α → Res} (h : Sep w0 w L) (i : Nat) (hi : L[i]? = some (exR f)) : ∃ x, Sep w0 w (L.set i (f x)) := by
  obtain ⟨F, ⟨x, hp⟩, hk⟩ := h.at_ hi
  exact ⟨x, hk (f x) w F hp (GrewF.self _ _) (Chg.refl _ _)⟩
end

/-- The set at block b holds S, of numbers below n. -/
def setR (b : Nat) (n : Int) (S : Nat → Bool) : Res :=
  ⟨fun w F => ∃ lo, F = setF b lo ∧ SetIs w b n S lo, fun ⟨lo, e, h⟩ hc hF => ⟨lo, e, h.keep hc (e ▸ hF)⟩, fun ⟨lo, e, h⟩ => e ▸ h.lt⟩
end Go.Proofs.YtbcabjpafeocgaaGreat

/-
  The loop over a function, where memory is a list of things: what an iterator promises, and the law of the loop. Conditions: no program is named here.
-/
namespace Go.Proofs.YtbcabjpafeocgaaGreat
set_option linter.unusedVariables false
set_option linter.unusedSimpArgs false
open Go.RowKit Go.Shelf

theorem calls_wide {P : Program} {f : FuncId} {args : Array Value} {w : World} {R : Ending → World → Prop} (h : CallsIn Fence.wide 0 P f args w R) : Calls P f args w R := callsIn_wide.1 h
theorem calls_in {P : Program} {f : FuncId} {args : Array Value} {w : World} {R : Ending → World → Prop} (h : Calls P f args w R) : CallsIn Fence.wide 0 P f args w R := callsIn_wide.2 h
theorem calls_round {P : Program} {f : FuncId} {args : Array Value} {w : World} {R : Ending → World → Prop} {l : Nat} (h : Calls P f args w R) : CallsIn (Fence.wide.inRound l) 0 P f args w R := CallsIn.inRound l (callsIn_wide.2 h)

theorem wide_fn (f : FuncId) : Fence.wide.fn f = True := rfl
theorem wide_depth : Fence.wide.depth = none := rfl
theorem round_depth (l : Nat) : (Fence.wide.inRound l).depth = none := rfl
theorem round_fn (l : Nat) (f : FuncId) : (Fence.wide.inRound l).fn f = True := rfl

/-- A piece of code that is left at its end alone. -/
theorem calm {P : Program} {F : Fence} {n : Nat} {c : Code} {Q : Exit → Act → World → Prop} {a : Act} {w : World} (h : c.wpIn F n P (Exit.then (Q .normal) (fun _ _ _ => False)) a w) : c.wpIn F n P Q a w :=
  wpIn_mono h (by intro e a w he; cases e <;> first | exact he | exact he.elim)

/-- The function gf, with lb captured, yields xs one behind the other; K pre: what it holds where pre have come. -/
def Iter {α : Type} (P : Program) (gf : Nat) (lb : Array Value) (encs : α → Array Value) (xs : List α) (K : List α → List Res) : Prop :=
  ∀ (l : Nat) (w0 : World) (Φ Φx : List α → List Res → Prop) (W : World) (R : List Res),
    (∀ pre x R H W, (pre ++ [x]) <+: xs → Φ pre R → Sep w0 W (K (pre ++ [x]) ++ (R ++ H)) → YieldAt Fence.wide 0 P l (encs x) W fun e W' =>
      (e = .returned (.bool true) ∧ ∃ R', Φ (pre ++ [x]) R' ∧ Sep w0 W' (K (pre ++ [x]) ++ (R' ++ H))) ∨ (e = .returned (.bool false) ∧ ∃ R', Φx (pre ++ [x]) R' ∧ Sep w0 W' (K (pre ++ [x]) ++ (R' ++ H)))) →
    Φ [] R → Sep w0 W (K [] ++ R) →
    Calls P gf (#[.func (.yield l) #[] #[]] ++ lb) W fun e W' => (∃ v, e = .returned v) ∧
      ((∃ R', Φ xs R' ∧ Sep w0 W' (K xs ++ R')) ∨ (∃ pre R', pre <+: xs ∧ Φx pre R' ∧ Sep w0 W' (K pre ++ R')))

/-- How a round's body may be left. -/
def roundS {α : Type} (w0 : World) (K : List α → List Res) (H G : List Res) (Φ : List α → List Res → Prop) (Φx : Code → List α → List Res → Prop) (pre : List α) : Exit → Act → World → Prop
  | .normal, _, W' => ∃ R', Φ pre R' ∧ Sep w0 W' (K pre ++ (H ++ (R' ++ G)))
  | .ret, _, W' => ∃ R', Φx .ret pre R' ∧ Sep w0 W' (K pre ++ (H ++ (R' ++ G)))
  | .exit id, _, W' => ∃ R', Φx (.exit id) pre R' ∧ Sep w0 W' (K pre ++ (H ++ (R' ++ G)))
  | .goto t, _, W' => ∃ R', Φx (.goto t) pre R' ∧ Sep w0 W' (K pre ++ (H ++ (R' ++ G)))
  | .panic _, _, _ => False
  | .outgrown, _, _ => False

theorem perm_mid (A B C : List Res) : (A ++ (B ++ C)).Perm (B ++ (A ++ C)) := by
  rw [← List.append_assoc, ← List.append_assoc]
  exact List.Perm.append_right C List.perm_append_comm

section
variable {P : Program} {w w0 W : World} {R H : List Res}

theorem sep_getLoop {A C : List Res} {l : Nat} {o : Go.Obj} (h : Sep w0 W (A ++ (objR l o :: C))) : W.heap[l]? = some o := by
  have := h.perm (perm_mid A [objR l o] C)
  exact this.obj (i := 0) rfl
theorem sep_putLoop {A C : List Res} {l : Nat} {o : Go.Obj} (h : Sep w0 W (A ++ (objR l o :: C))) (o' : Go.Obj) : Sep w0 (W.putObj l o') (A ++ (objR l o' :: C)) := by
  have := (h.perm (perm_mid A [objR l o] C)).putObj 0 rfl o'
  exact this.perm (perm_mid A [objR l o'] C).symm

/-- The rounds, once the record is laid. -/
theorem rounds_sep {α : Type} {g : Nat} {ps : Array Tmp} {assign body : Code} {lb : Array Value} {encs : α → Array Value} {xs : List α} {K : List α → List Res} (hit : Iter P g lb encs xs K) (hps : ∀ x, (encs x).size = ps.size)
    {l : Nat} {rec : LoopState → Option Code → Loop} {fn : FuncId} {tmps : Array Value} {df : Nat} (hrec : rec = fun st pe => { state := st, pending := pe, fn, tmps, params := ps, assign, body, defers := df }) {H : List Res}
    (S : Sep w0 W (K [] ++ (objR l (.loop (rec .ready none)) :: (H ++ R))))
    (Φ : List α → List Res → Prop) (Φx : Code → List α → List Res → Prop) (h0 : Φ [] R)
    (hround : ∀ (pre : List α) (x : α) (R G : List Res) (W : World) (r : Loop), (pre ++ [x]) <+: xs → Φ pre R → Sep w0 W (K (pre ++ [x]) ++ (objR l (.loop r) :: (H ++ (R ++ G)))) →
      assign.wpIn (Fence.wide.inRound l) 0 P (Exit.then (fun a' W' => ∃ B, Sep w0 W' (K (pre ++ [x]) ++ (objR l (.loop r) :: (H ++ (B ++ (R ++ G))))) ∧
        ∀ (r' : Loop) (W2 : World), Sep w0 W2 (K (pre ++ [x]) ++ (objR l (.loop r') :: (H ++ (B ++ (R ++ G))))) → body.wpIn (Fence.wide.inRound l) 0 P (roundS w0 K (objR l (.loop r') :: H) G Φ Φx (pre ++ [x])) a' W2) (fun _ _ _ => False))
        { tmps := (ps.zip (encs x)).foldl (fun t (p, v) => t.setIfInBounds p v) tmps, defers := [] } W) :
    Calls P g (#[.func (.yield l) #[] #[]] ++ lb) W fun e W' => ∃ v, e = .returned v ∧
      ((∃ R', Φ xs R' ∧ Sep w0 W' (K xs ++ (objR l (.loop (rec .ready none)) :: (H ++ R')))) ∨
       (∃ c pre R', pre <+: xs ∧ Φx c pre R' ∧ Sep w0 W' (K pre ++ (objR l (.loop (rec .done (some c))) :: (H ++ R'))))) := by
  refine (hit l w0 (fun pre Rs => ∃ R, Rs = objR l (.loop (rec .ready none)) :: (H ++ R) ∧ Φ pre R) (fun pre Rs => ∃ c R, Rs = objR l (.loop (rec .done (some c))) :: (H ++ R) ∧ Φx c pre R) W _ ?_ ⟨R, rfl, h0⟩ S).mono ?_
  · rintro pre x _ G W hpre ⟨R, rfl, hΦ⟩ hS
    simp only [List.cons_append, List.append_assoc] at hS
    have hl := sep_getLoop hS
    have hy := run_yield (P := P) (args := encs x) hl (by rw [hrec]; exact hps x)
    rw [hrec] at hy
    refine ⟨fn, _, assign, body, hy, roundIn_of_wpIn trivial (wpIn_mono (hround pre x R G W _ hpre hΦ hS) ?_)⟩
    rintro e a' W' he
    cases e with
    | exit _ => exact he.elim
    | goto _ => exact he.elim
    | ret => exact he.elim
    | panic _ => exact he.elim
    | outgrown => exact he.elim
    | normal =>
    obtain ⟨B, hS', hbody⟩ := he
    have hl' := sep_getLoop hS'
    refine ⟨_, run_beginRound hl' (by rw [hrec]), ?_⟩
    have hS2 := sep_putLoop hS' (.loop { rec .ready none with state := .busy })
    refine wpIn_mono (hbody _ _ hS2) ?_
    rintro e a3 W3 hp
    have fin : ∀ (jump : Option Code) {R' : List Res}, Sep w0 W3 (K (pre ++ [x]) ++ (objR l (.loop { rec .ready none with state := .busy }) :: (H ++ (R' ++ G)))) →
        (Instr.endRound l jump).run P W3 = .ok (.bool jump.isNone) (W3.putObj l (.loop (rec (if jump.isNone then .ready else .done) jump))) ∧
        Sep w0 (W3.putObj l (.loop (rec (if jump.isNone then .ready else .done) jump))) (K (pre ++ [x]) ++ (objR l (.loop (rec (if jump.isNone then .ready else .done) jump)) :: (H ++ R') ++ G)) := fun jump R' hS3 => by
      have := run_endRound (P := P) jump (sep_getLoop hS3)
      rw [hrec] at this hS3 ⊢
      simp only [List.cons_append, List.append_assoc]
      exact ⟨this, sep_putLoop hS3 _⟩
    cases e with
    | normal =>
      obtain ⟨R', hΦ', hS3⟩ := hp
      obtain ⟨hr, hS4⟩ := fin none hS3
      exact ⟨_, _, hr, .inl ⟨rfl, _, ⟨R', rfl, hΦ'⟩, hS4⟩⟩
    | ret =>
      obtain ⟨R', hΦ', hS3⟩ := hp
      obtain ⟨hr, hS4⟩ := fin (some .ret) hS3
      exact ⟨_, _, hr, .inr ⟨rfl, _, ⟨.ret, R', rfl, hΦ'⟩, hS4⟩⟩
    | exit id =>
      obtain ⟨R', hΦ', hS3⟩ := hp
      obtain ⟨hr, hS4⟩ := fin (some (.exit id)) hS3
      exact ⟨_, _, hr, .inr ⟨rfl, _, ⟨.exit id, R', rfl, hΦ'⟩, hS4⟩⟩
    | goto t =>
      obtain ⟨R', hΦ', hS3⟩ := hp
      obtain ⟨hr, hS4⟩ := fin (some (.goto t)) hS3
      exact ⟨_, _, hr, .inr ⟨rfl, _, ⟨.goto t, R', rfl, hΦ'⟩, hS4⟩⟩
    | panic ch => exact hp.elim
    | outgrown => exact hp.elim
  · rintro e W2 ⟨⟨v, rfl⟩, (⟨_, ⟨R', rfl, hΦ'⟩, hS'⟩ | ⟨pre, _, hpre, ⟨c, R', rfl, hΦ'⟩, hS'⟩)⟩
    · exact ⟨v, rfl, .inl ⟨R', hΦ', hS'⟩⟩
    · exact ⟨v, rfl, .inr ⟨c, pre, R', hpre, hΦ', hS'⟩⟩

/-- A loop over a function, in no round. -/
theorem wp_range {α : Type} {g : Operand} {ps : Array Tmp} {assign body : Code} {Q : Exit → Act → World → Prop} {a : Act}
    {gf : Nat} {lb : Array Value} (hg : a.eval g = .func (.func gf) #[] lb) (eg : ∀ args w, (callFunc gf args).run P w = .ok (.enter gf args) w)
    {encs : α → Array Value} {xs : List α} {K : List α → List Res} (hit : Iter P gf lb encs xs K) (hps : ∀ x, (encs x).size = ps.size)
    (S : Sep w0 w (K [] ++ R))
    (Φ : List α → List Res → Prop) (Φx : Code → List α → List Res → Prop) (h0 : Φ [] R)
    (hround : ∀ (l D : Nat) (pre : List α) (x : α) (R G : List Res) (W : World) (r : Loop), (pre ++ [x]) <+: xs → Φ pre R → Sep w0 W (K (pre ++ [x]) ++ (objR l (.loop r) :: objR D (.deferred (some [])) :: (R ++ G))) →
      assign.wpIn (Fence.wide.inRound l) 0 P (Exit.then (fun a' W' => ∃ B, Sep w0 W' (K (pre ++ [x]) ++ (objR l (.loop r) :: objR D (.deferred (some [])) :: (B ++ (R ++ G)))) ∧
        ∀ (r' : Loop) (W2 : World), Sep w0 W2 (K (pre ++ [x]) ++ (objR l (.loop r') :: objR D (.deferred (some [])) :: (B ++ (R ++ G)))) → body.wpIn (Fence.wide.inRound l) 0 P (roundS w0 K [objR l (.loop r'), objR D (.deferred (some []))] G Φ Φx (pre ++ [x])) a' W2) (fun _ _ _ => False))
        { tmps := (ps.zip (encs x)).foldl (fun t (p, v) => t.setIfInBounds p v) a.tmps, defers := [] } W)
    (hdone : ∀ (D : Nat) (R : List Res) (W : World), Φ xs R → Sep w0 W (K xs ++ (objR D (.deferred (some [])) :: R)) → Q .normal { a with defers := { target := .collected D, args := #[] } :: a.defers } W)
    (hstop : ∀ (D : Nat) (c : Code) (pre : List α) (R : List Res) (W : World), pre <+: xs → Φx c pre R → Sep w0 W (K pre ++ (objR D (.deferred (some [])) :: R)) → c.wpIn Fence.wide 0 P Q { a with defers := { target := .collected D, args := #[] } :: a.defers } W) :
    (Code.rangeFunc g ps assign body).wpIn Fence.wide 0 P Q a w := by
  refine wpIn_rangeFunc ?_
  intro fn _
  rw [show Fence.wide.round = none from rfl]
  obtain ⟨rec, hrec⟩ : ∃ rec : LoopState → Option Code → Loop, rec = fun st pe => { state := st, pending := pe, fn, tmps := a.tmps, params := ps, assign, body, defers := w.heap.size } := ⟨_, rfl⟩
  have S1 : Sep w0 ((w.alloc (.deferred (some []))).alloc (.loop (rec .ready none))) (K [] ++ (objR (w.heap.size + 1) (.loop (rec .ready none)) :: ([objR w.heap.size (.deferred (some []))] ++ R))) := by
    have := (S.alloc (.deferred (some []))).alloc (.loop (rec .ready none))
    rw [World.size_alloc] at this
    exact this.perm (perm_mid [objR (w.heap.size + 1) (.loop (rec .ready none)), objR w.heap.size (.deferred (some []))] (K []) R)
  obtain ⟨W1, hW1⟩ : ∃ W1, (w.alloc (.deferred (some []))).alloc (.loop (rec .ready none)) = W1 := ⟨_, rfl⟩
  refine ⟨w.heap.size + 1, [{ target := .collected w.heap.size, args := #[] }], W1, { target := .fn (.func gf) lb, args := #[.func (.yield (w.heap.size + 1)) #[] #[]] }, W1, gf,
    #[.func (.yield (w.heap.size + 1)) #[] #[]] ++ lb, W1, ?_, ?_, ?_, ?_, (by intro h; cases h), callsIn_wide.2 ?_⟩
  · rw [← hW1, hrec]; exact run_enterLoop_outer _ _ _ _ _
  · simp only [resolve, hg]
    simp [go_sem]
  · intro f' _; trivial
  · simp [invoke, go_sem, eg]
  · rw [hW1] at S1
    refine (rounds_sep hit hps hrec S1 Φ Φx h0 (fun pre x R G W r h1 h2 h3 => hround _ _ pre x R G W r h1 h2 h3)).mono ?_
    rintro e W2 ⟨v, rfl, (⟨R', hΦ', hS'⟩ | ⟨c, pre, R', hpre, hΦ', hS'⟩)⟩
    · refine ⟨none, _, by have := run_endLoop (P := P) (sep_getLoop hS') (by rw [hrec]; simp); rw [hrec] at this; exact this, ?_⟩
      refine hdone _ R' _ hΦ' ?_
      have h5 := sep_putLoop hS' (.loop { rec .ready none with state := .exhausted })
      rw [hrec] at h5
      exact (h5.perm (perm_mid _ [_] _)).tail
    · refine ⟨some c, _, by have := run_endLoop (P := P) (sep_getLoop hS') (by rw [hrec]; simp); rw [hrec] at this; exact this, ?_⟩
      refine hstop _ c pre R' _ hpre hΦ' ?_
      have h5 := sep_putLoop hS' (.loop { rec .done (some c) with state := .exhausted })
      rw [hrec] at h5
      exact (h5.perm (perm_mid _ [_] _)).tail

/-- A loop over a function, in a round of another. -/
theorem wp_range_in {α : Type} {g : Operand} {ps : Array Tmp} {assign body : Code} {Q : Exit → Act → World → Prop} {a : Act} {l₀ : Nat} {r₀ : Loop} (hl₀ : w.heap[l₀]? = some (.loop r₀))
    {gf : Nat} {lb : Array Value} (hg : a.eval g = .func (.func gf) #[] lb) (eg : ∀ args w, (callFunc gf args).run P w = .ok (.enter gf args) w)
    {encs : α → Array Value} {xs : List α} {K : List α → List Res} (hit : Iter P gf lb encs xs K) (hps : ∀ x, (encs x).size = ps.size)
    (S : Sep w0 w (K [] ++ R))
    (Φ : List α → List Res → Prop) (Φx : Code → List α → List Res → Prop) (h0 : Φ [] R)
    (hround : ∀ (l : Nat) (pre : List α) (x : α) (R G : List Res) (W : World) (r : Loop), (pre ++ [x]) <+: xs → Φ pre R → Sep w0 W (K (pre ++ [x]) ++ (objR l (.loop r) :: (R ++ G))) →
      assign.wpIn (Fence.wide.inRound l) 0 P (Exit.then (fun a' W' => ∃ B, Sep w0 W' (K (pre ++ [x]) ++ (objR l (.loop r) :: (B ++ (R ++ G)))) ∧
        ∀ (r' : Loop) (W2 : World), Sep w0 W2 (K (pre ++ [x]) ++ (objR l (.loop r') :: (B ++ (R ++ G)))) → body.wpIn (Fence.wide.inRound l) 0 P (roundS w0 K [objR l (.loop r')] G Φ Φx (pre ++ [x])) a' W2) (fun _ _ _ => False))
        { tmps := (ps.zip (encs x)).foldl (fun t (p, v) => t.setIfInBounds p v) a.tmps, defers := [] } W)
    (hdone : ∀ (R : List Res) (W : World), Φ xs R → Sep w0 W (K xs ++ R) → Q .normal a W)
    (hstop : ∀ (c : Code) (pre : List α) (R : List Res) (W : World), pre <+: xs → Φx c pre R → Sep w0 W (K pre ++ R) → c.wpIn (Fence.wide.inRound l₀) 0 P Q a W) :
    (Code.rangeFunc g ps assign body).wpIn (Fence.wide.inRound l₀) 0 P Q a w := by
  refine wpIn_rangeFunc ?_
  intro fn _
  rw [show (Fence.wide.inRound l₀).round = some l₀ from rfl]
  obtain ⟨rec, hrec⟩ : ∃ rec : LoopState → Option Code → Loop, rec = fun st pe => { state := st, pending := pe, fn, tmps := a.tmps, params := ps, assign, body, defers := r₀.defers } := ⟨_, rfl⟩
  have S1 : Sep w0 (w.alloc (.loop (rec .ready none))) (K [] ++ (objR w.heap.size (.loop (rec .ready none)) :: ([] ++ R))) := by
    have := S.alloc (.loop (rec .ready none))
    exact this.perm (perm_mid [objR w.heap.size (.loop (rec .ready none))] (K []) R)
  obtain ⟨W1, hW1⟩ : ∃ W1, w.alloc (.loop (rec .ready none)) = W1 := ⟨_, rfl⟩
  refine ⟨w.heap.size, [], W1, { target := .fn (.func gf) lb, args := #[.func (.yield w.heap.size) #[] #[]] }, W1, gf,
    #[.func (.yield w.heap.size) #[] #[]] ++ lb, W1, ?_, ?_, ?_, ?_, (by intro h; cases h), CallsIn.inRound l₀ (callsIn_wide.2 ?_)⟩
  · rw [← hW1, hrec]; exact run_enterLoop_inner hl₀ _ _ _ _ _
  · simp only [resolve, hg]
    simp [go_sem]
  · intro f' _; trivial
  · simp [invoke, go_sem, eg]
  · rw [hW1] at S1
    refine (rounds_sep hit hps hrec S1 Φ Φx h0 (fun pre x R G W r h1 h2 h3 => hround _ pre x R G W r h1 h2 h3)).mono ?_
    rintro e W2 ⟨v, rfl, (⟨R', hΦ', hS'⟩ | ⟨c, pre, R', hpre, hΦ', hS'⟩)⟩
    · refine ⟨none, _, by have := run_endLoop (P := P) (sep_getLoop hS') (by rw [hrec]; simp); rw [hrec] at this; exact this, ?_⟩
      refine hdone R' _ hΦ' ?_
      have h5 := sep_putLoop hS' (.loop { rec .ready none with state := .exhausted })
      rw [hrec] at h5
      exact (h5.perm (perm_mid _ [_] _)).tail
    · refine ⟨some c, _, by have := run_endLoop (P := P) (sep_getLoop hS') (by rw [hrec]; simp); rw [hrec] at this; exact this, ?_⟩
      refine hstop c pre R' _ hpre hΦ' ?_
      have h5 := sep_putLoop hS' (.loop { rec .done (some c) with state := .exhausted })
      rw [hrec] at h5
      exact (h5.perm (perm_mid _ [_] _)).tail

/-- The return of a function that held such a loop: the block for deferred calls is shut. -/
theorem leaves_mark {fn : Func} {tmps : Array Value} {D : Nat} {L : List Res} {Rt : Ending → World → Prop} {i : Nat} {v : Value} (S : Sep w0 w L) (hi : L[i]? = some (objR D (.deferred (some []))))
    (hv : ∀ w', (results fn tmps).run P w' = .ok v w') (h : ∀ w', Sep w0 w' (L.set i (objR D (.deferred none))) → Rt (.returned v) w') :
    LeavesInM Fence.wide 0 P fn tmps Rt [{ target := .collected D, args := #[] }] .returning w := by
  refine ⟨by simp, .inl ⟨D, _, rfl, run_takeDeferred (S.obj hi), ?_⟩⟩
  exact ⟨v, hv _, h _ (S.putObj i hi _)⟩
end
end Go.Proofs.YtbcabjpafeocgaaGreat
