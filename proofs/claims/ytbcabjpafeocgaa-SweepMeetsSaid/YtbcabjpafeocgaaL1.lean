/-
  Parts of the proof, joined: Kit, Open, OpenS, Open2, Sync, Set, Stage, SetOps, SetIs, SizeCore, Arena, ArenaGets, Gap, Room, TakeP. Conditions: as each part says.
-/
import Derived.WalkKit
import Derived.BigQuiet
import Derived.Deep.QuietTactic
import Derived.Deep.Quiet
import Derived.Deep.LoopGhost
import Derived.Deep.DeepFit
import Derived.Deep.DeepMust
import Derived.Lib.Hide
import Derived.WalkLawsBesides
import Derived.WalkSpells
import Derived.Laws.OwnMore
import Derived.Laws.Rows
import Derived.Maps.AppendAt
import Derived.Deep.AppendLies
import Derived.ProofKit
import Derived.OpenShut
import Derived.Deep.Slices
import Derived.Deep.Fields
import Derived.SizedLaws
import Derived.Test.YtbcabjpafeocgaaRows
import Derived.Defers
import Derived.Laws.Pointers
import Derived.Laws.LoneSync
import Derived.Laws.MakeOwn
import Derived.Laws.NewBlocks
import Derived.RegionTactic
import Derived.RegionCalls
import Derived.ChangeAlike
import Derived.Deep.RegionHeld3
import Derived.BigRegion
import Derived.Deep.RegionWith
import Derived.Laws.BitsAllLaws
import Derived.Laws.ShiftsVarLaws
import Derived.WalkMore
import Derived.Lib.SliceRun

/-
  Words on worlds for this seat's walks: a block that is known whole, and a change of memory that keeps all blocks but some named ones. Conditions: none; no program is named here.
-/
namespace Go.Proofs.Ytbcabjpafeocgaa
set_option linter.unusedVariables false
set_option linter.unusedSimpArgs false
open Go.RowKit

/-- Block g is just the cells cs, of element type t, none frozen. -/
def Blk (w : World) (g : Nat) (t : TypeId) (cs : Array Value) : Prop := w.heap[g]? = some (.cells cs t (0, 0))

section
variable {w w' : World} {g : Nat} {t : TypeId} {cs : Array Value}
theorem Blk.lt (h : Blk w g t cs) : g < w.heap.size := by
  rcases Nat.lt_or_ge g w.heap.size with hlt | hge
  · exact hlt
  · unfold Blk at h; rw [Array.getElem?_eq_none hge] at h; cases h
theorem Blk.cell (h : Blk w g t cs) (i : Nat) : w.cell? ⟨g, i, none⟩ = cs[i]? := cell_of_row w g i cs t (0, 0) h
theorem Blk.frozen (h : Blk w g t cs) (i : Nat) : w.frozen? ⟨g, i, none⟩ = false := by
  unfold Blk at h
  simp [World.frozen?, h]
theorem Blk.new (w : World) (t : TypeId) (cs : Array Value) : Blk (w.alloc (.cells cs t)) w.heap.size t cs := by
  show (w.heap.push _)[w.heap.size]? = _
  simp
theorem Blk.drew (h : Blk w g t cs) : Blk w.drew g t cs := h
theorem Blk.drewN (h : Blk w g t cs) (n : Nat) : Blk (w.drewN n) g t cs := h
theorem Blk.alloc (h : Blk w g t cs) (o : Go.Obj) : Blk (w.alloc o) g t cs := (Below.heap_alloc w o g h.lt).trans h
theorem Blk.set_ (h : Blk w g t cs) (i : Nat) (u : Value) : Blk (w.setCell ⟨g, i, none⟩ u) g t (cs.setIfInBounds i u) := by
  unfold Blk at h ⊢
  simp [World.setCell, Array.getElem?_modify, h]
theorem Blk.far (h : Blk w g t cs) {p : Addr} (hp : g ≠ p.block) (u : Value) : Blk (w.setCell p u) g t cs := (Below.heap_setCell w p u g hp).trans h
theorem Blk.ne_ {g' : Nat} {t' : TypeId} {cs' : Array Value} (h : Blk w g t cs) (h' : Blk w g' t' cs') (hne : t ≠ t') : g ≠ g' := by
  rintro rfl
  unfold Blk at h h'
  rw [h] at h'
  injection h' with h'
  injection h' with _ ht
  exact hne ht
end

/-- All blocks but those of F hold what they held; blocks come, none goes. -/
structure Chg (F : List Nat) (w w' : World) : Prop where
  os : w'.os = w.os
  tape : w'.tape = w.tape
  output : w'.output = w.output
  size : w.heap.size ≤ w'.heap.size
  block : ∀ k, k < w.heap.size → k ∉ F → w'.heap[k]? = w.heap[k]?

section
variable {F F' : List Nat} {w w1 w2 : World}
theorem Chg.refl (F : List Nat) (w : World) : Chg F w w := ⟨rfl, rfl, rfl, Nat.le_refl _, fun _ _ _ => rfl⟩
/-- F' may name blocks of F, and blocks that came behind w. -/
theorem Chg.trans (h : Chg F w w1) (k : Chg F' w1 w2) (hs : ∀ x ∈ F', x ∈ F ∨ w.heap.size ≤ x) : Chg F w w2 :=
  ⟨k.os.trans h.os, k.tape.trans h.tape, k.output.trans h.output, Nat.le_trans h.size k.size, fun i hi hn =>
    (k.block i (Nat.lt_of_lt_of_le hi h.size) (fun hm => by rcases hs i hm with h1 | h1; exact hn h1; omega)).trans (h.block i hi hn)⟩
theorem Chg.mono (h : Chg F w w1) (hs : ∀ x ∈ F, x ∈ F' ∨ w.heap.size ≤ x) : Chg F' w w1 :=
  ⟨h.os, h.tape, h.output, h.size, fun i hi hn => h.block i hi (fun hm => by rcases hs i hm with h1 | h1; exact hn h1; omega)⟩
theorem Chg.drew (h : Chg F w w1) : Chg F w w1.drew := ⟨h.os, h.tape, h.output, h.size, h.block⟩
theorem Chg.drewN (h : Chg F w w1) (n : Nat) : Chg F w (w1.drewN n) := ⟨h.os, h.tape, h.output, h.size, h.block⟩
theorem Chg.alloc (h : Chg F w w1) (o : Go.Obj) : Chg F w (w1.alloc o) :=
  ⟨h.os, h.tape, h.output, by have := h.size; simp; omega, fun i hi hn => (Below.heap_alloc _ _ _ (Nat.lt_of_lt_of_le hi h.size)).trans (h.block i hi hn)⟩
theorem Chg.setCell (h : Chg F w w1) {p : Addr} (hp : p.block ∈ F ∨ w.heap.size ≤ p.block) (u : Value) : Chg F w (w1.setCell p u) :=
  ⟨h.os, h.tape, h.output, by have := h.size; simpa [World.setCell] using this, fun i hi hn => (Below.heap_setCell _ _ _ _ (by rintro rfl; rcases hp with h1 | h1; exact hn h1; omega)).trans (h.block i hi hn)⟩
theorem Chg.grown {row : Option Nat} (h : Chg F w w1) (hg : w1.grownBy w2 row) (hr : ∀ k, row = some k → k ∈ F ∨ w.heap.size ≤ k) : Chg F w w2 :=
  ⟨hg.os.trans h.os, hg.tape.trans h.tape, hg.output.trans h.output, Nat.le_trans h.size hg.size, fun i hi hn =>
    (hg.block i (Nat.lt_of_lt_of_le hi h.size) (fun e => by rcases hr i e.symm with h1 | h1; exact hn h1; omega)).trans (h.block i hi hn)⟩
theorem Chg.below {B : Nat} (h : Chg F w w1) (hB : B ≤ w.heap.size) (hF : ∀ x ∈ F, B ≤ x) : Below B w w1 :=
  ⟨h.os, h.tape, h.output, h.size, fun k hk => h.block k (by omega) (fun hm => by have := hF k hm; omega)⟩
theorem Chg.blk {g : Nat} {t : TypeId} {cs : Array Value} (h : Chg F w w1) (hb : Blk w g t cs) (hg : g ∉ F) : Blk w1 g t cs := (h.block g hb.lt hg).trans hb
theorem Chg.heap {g : Nat} {o : Go.Obj} (h : Chg F w w1) (hb : w.heap[g]? = some o) (hg : g ∉ F) : w1.heap[g]? = some o := by
  have hlt : g < w.heap.size := by
    rcases Nat.lt_or_ge g w.heap.size with hlt | hge
    · exact hlt
    · rw [Array.getElem?_eq_none hge] at hb; cases hb
  exact (h.block g hlt hg).trans hb
theorem Chg.row {base : Nat} {e : TypeId} {size n : Nat} {v : Value} {xs : List Value} (h : Chg F w w1) (hr : w.ownsRow base e size v n xs) (hv : ∀ k, v.ownBlock = some k → k ∉ F) : w1.ownsRow base e size v n xs := by
  obtain ⟨h1, h2⟩ := hr
  refine ⟨h1, ?_⟩
  rcases h2 with h2 | ⟨g, cap, cur, rfl, hg, hh, r⟩
  · exact .inl h2
  · exact .inr ⟨g, cap, cur, rfl, hg, h.heap hh (hv g (by simp [Value.ownBlock])), r⟩
end

/-- F' holds blocks of F, and blocks that came behind w. -/
def Sub (w : World) (F' F : List Nat) : Prop := ∀ x ∈ F', x ∈ F ∨ w.heap.size ≤ x
theorem Sub.refl (w : World) (F : List Nat) : Sub w F F := fun _ h => .inl h

/-- Since w0 nothing that was there has changed, and F is all new. -/
def Own (w0 : World) (F : List Nat) (w : World) : Prop := Chg [] w0 w ∧ ∀ x ∈ F, w0.heap.size ≤ x

section
variable {F F' G : List Nat} {w0 w w1 w2 : World}
theorem Own.start (w : World) : Own w [] w := ⟨Chg.refl _ _, by simp⟩
theorem Own.step (h : Own w0 F w) (hc : Chg F w w1) (hs : Sub w F' F) : Own w0 F' w1 :=
  ⟨h.1.trans hc (fun x hx => .inr (h.2 x hx)), fun x hx => by rcases hs x hx with h1 | h1; exact h.2 x h1; have := h.1.size; omega⟩
theorem Own.same (h : Own w0 F w) (hc : Chg F w w1) : Own w0 F w1 := h.step hc (Sub.refl _ _)
theorem Own.below (h : Own w0 F w) : Below w0.heap.size w0 w := h.1.below (Nat.le_refl _) (by simp)
theorem Own.size (h : Own w0 F w) : w0.heap.size ≤ w.heap.size := h.1.size
theorem Own.cell (h : Own w0 F w) {b o : Nat} {v : Value} (hb : b < w0.heap.size) (hv : w0.cell? ⟨b, o, none⟩ = some v) : w.cell? ⟨b, o, none⟩ = some v := (h.below.cell (p := ⟨b, o, none⟩) hb).trans hv
theorem Own.join (h : Own w0 F w) (g : Own w0 G w) : Own w0 (F ++ G) w := ⟨h.1, fun x hx => by rcases List.mem_append.1 hx with h1 | h1; exact h.2 x h1; exact g.2 x h1⟩
theorem Own.part (h : Own w0 F w) (hs : ∀ x ∈ G, x ∈ F) : Own w0 G w := ⟨h.1, fun x hx => h.2 x (hs x hx)⟩
end

/-- A world that holds what w held, and perhaps new blocks. -/
structure Later (w : World) where
  w' : World
  h : Chg [] w w'
instance Later.some_ (w : World) : Nonempty (Later w) := ⟨⟨w, Chg.refl _ _⟩⟩

/-- A region that draws its order, whose operations and calls leave memory as it was but for new blocks: walked once, in the order of the text. -/
theorem wp_region_grow {P : Program} {id : Nat} {Q : Exit → Act → World → Prop} {a : Act} {w : World} {l : List Oper} (hm : P.follows .mixedOrders = true) (hB : Region.lexB .any l.toArray = true)
    (h : wpQuiet P l.toArray (fun w' => ∃ x : Later w, w' = x.w') (fun a' => ∀ w', (∃ x : Later w, w' = x.w') → Q .normal a' w') l a) : (Code.region id l.toArray true).wp P Q a w :=
  wp_region_quiet (C := fun w' => ∃ x : Later w, w' = x.w') hm hB ⟨⟨_, (Chg.refl _ _).drew⟩, rfl⟩ (by simpa using h)

theorem later_calls {P : Program} {f : FuncId} {args : Array Value} {w : World} {x : Later w} {v : Value} (h : Calls P f args x.w' fun e w' => e = .returned v ∧ Chg [] x.w' w') :
    Calls P f args x.w' fun e w'' => e = .returned v ∧ ∃ y : Later w, w'' = y.w' :=
  h.mono fun _ w'' ⟨he, hc⟩ => ⟨he, ⟨w'', x.h.trans hc (by simp)⟩, rfl⟩

/-- An owned row's block lies in the heap. -/
theorem row_lt {w : World} {base : Nat} {e : TypeId} {size n g : Nat} {v : Value} {xs : List Value} (hr : w.ownsRow base e size v n xs) (hv : v.ownBlock = some g) : g < w.heap.size := by
  obtain ⟨_, h2⟩ := hr
  rcases h2 with ⟨rfl, _⟩ | ⟨g', cap, cur, rfl, _, hh, _⟩
  · simp [Value.ownBlock] at hv
  · have : g' = g := by simpa [Value.ownBlock] using hv
    subst this
    rcases Nat.lt_or_ge g' w.heap.size with hlt | hge
    · exact hlt
    · rw [Array.getElem?_eq_none hge] at hh; cases hh

/-- An owned row is a slice value of its length. -/
theorem row_slice {w : World} {base : Nat} {e : TypeId} {size n : Nat} {v : Value} {xs : List Value} (hr : w.ownsRow base e size v n xs) : ∃ A cap, v = .slice A n cap ∧ n ≤ cap ∧ cap ≤ maxLen := by
  obtain ⟨_, h2⟩ := hr
  rcases h2 with ⟨rfl, rfl⟩ | ⟨g', cap, cur, rfl, _, _, h1, h3, _⟩
  · exact ⟨none, 0, rfl, by omega, by unfold maxLen; omega⟩
  · exact ⟨_, cap, rfl, h1, h3⟩

/-- A row that is not empty lies in a block of its own. -/
theorem row_some {w : World} {base : Nat} {e : TypeId} {size n : Nat} {v : Value} {xs : List Value} (hr : w.ownsRow base e size v n xs) (hn : 0 < n) : ∃ g cap, v = .slice (some ⟨g, 0, none⟩) n cap ∧ n ≤ cap ∧ cap ≤ maxLen ∧ g < w.heap.size := by
  obtain ⟨_, h2⟩ := hr
  rcases h2 with ⟨_, h0⟩ | ⟨g', cap, cur, rfl, _, hh, h1, h3, _⟩
  · omega
  · refine ⟨g', cap, rfl, h1, h3, ?_⟩
    rcases Nat.lt_or_ge g' w.heap.size with hlt | hge
    · exact hlt
    · rw [Array.getElem?_eq_none hge] at hh; cases hh

theorem row_cell {w : World} {base : Nat} {e : TypeId} {n g cap : Nat} {xs : List Value} (hr : w.ownsRow base e 1 (.slice (some ⟨g, 0, none⟩) n cap) n xs) (i : Nat) (u : Value) (hi : xs[i]? = some u) : w.cell? ⟨g, i, none⟩ = some u := by
  have h := hr.cells (g := g) rfl i u hi
  unfold Addr.add at h
  by_cases h0 : i = 0
  · subst h0; simpa using h
  · simpa [h0] using h

theorem row_blk_ne {w : World} {base : Nat} {e t : TypeId} {size n g : Nat} {v : Value} {xs : List Value} {cs : Array Value} (hr : w.ownsRow base e size v n xs) (hb : Blk w g t cs) (hne : e ≠ t) : v.ownBlock ≠ some g := by
  obtain ⟨_, h2⟩ := hr
  rcases h2 with ⟨rfl, _⟩ | ⟨g', cap, cur, rfl, _, hh, _⟩
  · simp [Value.ownBlock]
  · intro he
    have : g' = g := by simpa [Value.ownBlock] using he
    subst this
    exact Blk.ne_ (t := e) hh hb hne rfl

/-- The slice value '.slice A n c' of an argument reads as the one-cell values xs. -/
def Arg (w : World) (A : Option Addr) (n : Nat) (xs : List Value) : Prop :=
  xs.length = n ∧ ∀ k, k < n → ∃ b o, A = some ⟨b, o, none⟩ ∧ b < w.heap.size ∧ w.cell? ⟨b, o + k, none⟩ = xs[k]?

theorem Arg.at_ {w0 w : World} {F : List Nat} {A : Option Addr} {n k : Nat} {xs : List Value} (h : Arg w0 A n xs) (hO : Own w0 F w) (hk : k < n) : ∃ b o v, A = some ⟨b, o, none⟩ ∧ w.cell? ⟨b, o + k, none⟩ = some v ∧ xs[k]? = some v := by
  obtain ⟨b, o, e, hb, hc⟩ := h.2 k hk
  have hl : k < xs.length := by have := h.1; omega
  exact ⟨b, o, xs[k], e, hO.cell hb (by rw [hc]; exact List.getElem?_eq_getElem hl), List.getElem?_eq_getElem hl⟩

theorem Arg.int {w0 w : World} {F : List Nat} {A : Option Addr} {n k : Nat} {zs : List Int} {q : IntKind} (h : Arg w0 A n (zs.map (.int q))) (hO : Own w0 F w) (hk : k < n) : ∃ b o, A = some ⟨b, o, none⟩ ∧ w.cell? ⟨b, o + k, none⟩ = some (.int q (zs[k]?.getD 0)) := by
  obtain ⟨b, o, v, e, hc, hv⟩ := h.at_ hO hk
  refine ⟨b, o, e, ?_⟩
  rw [hc, ← hv]
  have hl : k < zs.length := by have := h.1; simp at this; omega
  simp [hl]

theorem take_succ_getD (zs : List Int) (k : Nat) (h : k < zs.length) : zs.take (k + 1) = zs.take k ++ [zs[k]?.getD 0] := by
  rw [List.take_succ_eq_append_getElem h]; simp [h]

end Go.Proofs.Ytbcabjpafeocgaa

/-
  Arguments that are slices of integers, or of structs or arrays of integers, opened to the cells that a walk reads. Conditions: no program is named here.
-/
namespace Go.Proofs.Ytbcabjpafeocgaa
set_option linter.unusedVariables false
set_option linter.unusedSimpArgs false
open Go.RowKit Go.ChangeShapes Go.WideShapes Go.Deep

/-- A type whose values are cells of these integer kinds. -/
def IntCells (P : Program) (e : TypeId) (qs : List IntKind) : Prop :=
  P.cellsOf e = qs.length ∧ ∀ (H : Type) (enc : TypeId × Value → H) (w : World) (base : Nat) (spare : Nat → Bool) (held : Bool) (fuel : Nat) (cs : List Value) (x : DataW H × List MemPlace),
    DataW.trod enc P w base spare held fuel e cs = some x → cs.length = qs.length → ∀ (j : Nat) (q : IntKind), qs[j]? = some q → ∃ n : Int, cs[j]? = some (Value.int q n) ∧ (Lit.int q n).wf = true

theorem intCells_int {P : Program} {e : TypeId} {q : IntKind} (h : P.underlying e = some (.int q)) (hc : P.cellsOf e = 1) : IntCells P e [q] := by
  refine ⟨hc, fun H enc w base spare held fuel cs x ht _ j q' hq => ?_⟩
  obtain ⟨n, rfl, _, hw⟩ := DataW.trod_int h ht
  match j, hq with
  | 0, hq => simp at hq; subst hq; exact ⟨n, rfl, hw⟩

theorem intCells_struct {P : Program} {e : TypeId} {fs : Array Field} {qs : List IntKind} (h : P.underlying e = some (.struct fs)) (hc : P.cellsOf e = qs.length) (hone : oneCellFields P fs = true) (hl : fs.size = qs.length)
    (hq : ∀ (j : Nat) (f : Field) (q : IntKind), fs[j]? = some f → qs[j]? = some q → P.underlying f.type = some (.int q)) : IntCells P e qs := by
  refine ⟨hc, fun H enc w base spare held fuel cs x ht hlc j q hj => ?_⟩
  obtain ⟨ys, n', hn', hy, hlen, hyl, hf⟩ := DataW.trod_struct h ht
  have hjl : j < qs.length := (List.getElem?_eq_some_iff.1 hj).1
  have hfj : fs[j]? = some (fs[j]'(by omega)) := Array.getElem?_eq_getElem (by omega)
  obtain ⟨ho, hk⟩ := hone_of hone j _ hfj
  have h1 := hf j _ hfj
  rw [ho, hk] at h1
  have hone' : (cs.drop j).take 1 = [cs[j]'(by omega)] := by
    rw [List.drop_eq_getElem_cons (by omega)]
    rfl
  rw [hone'] at h1
  have hys : ys[j]? = some (ys[j]'(by omega)) := List.getElem?_eq_getElem (by omega)
  rw [hys] at h1
  obtain ⟨n, hv, _, hw⟩ := DataW.trod_int (hq j _ q hfj hj) h1
  simp only [List.cons.injEq, and_true] at hv
  exact ⟨n, by rw [List.getElem?_eq_getElem (by omega), hv], hw⟩

theorem intCells_array {P : Program} {e e' : TypeId} {n : Nat} {q : IntKind} (h : P.underlying e = some (.array n e')) (hc : P.cellsOf e = n) (hc' : P.cellsOf e' = 1) (h' : P.underlying e' = some (.int q)) : IntCells P e (List.replicate n q) := by
  refine ⟨by simpa using hc, fun H enc w base spare held fuel cs x ht hlc j q' hj => ?_⟩
  obtain ⟨ys, m, hm, hy, hlen, hyl, hf⟩ := DataW.trod_array h ht
  simp only [List.length_replicate] at hlc
  have hjl : j < n := by have := (List.getElem?_eq_some_iff.1 hj).1; simpa using this
  have hqq : q' = q := by rw [List.getElem?_replicate, if_pos hjl] at hj; exact (Option.some.inj hj).symm
  subst hqq
  have h1 := hf j hjl
  rw [hc', Nat.mul_one] at h1
  have hone' : (cs.drop j).take 1 = [cs[j]'(by omega)] := by
    rw [List.drop_eq_getElem_cons (by omega)]
    rfl
  rw [hone'] at h1
  have hys : ys[j]? = some (ys[j]'(by omega)) := List.getElem?_eq_getElem (by omega)
  rw [hys] at h1
  obtain ⟨k, hv, _, hw⟩ := DataW.trod_int h' h1
  simp only [List.cons.injEq, and_true] at hv
  exact ⟨k, by rw [List.getElem?_eq_getElem (by omega), hv], hw⟩

/-- The slice value '.slice A n c' reads as n elements; cell j of element i is the integer D i j, of kind qs[j]. -/
def ArgI (w : World) (A : Option Addr) (n : Nat) (qs : List IntKind) (D : Nat → Nat → Int) : Prop :=
  ∀ i, i < n → ∃ b o, A = some ⟨b, o, none⟩ ∧ b < w.heap.size ∧ ∀ (j : Nat) (q : IntKind), qs[j]? = some q → w.cell? ⟨b, o + i * qs.length + j, none⟩ = some (.int q (D i j)) ∧ (Lit.int q (D i j)).wf = true

theorem cell_lt {w : World} {a : Addr} {v : Value} (h : w.cell? a = some v) : a.block < w.heap.size ∧ a.spot = none := by
  unfold World.cell? at h
  split at h
  · rename_i hb
    constructor
    · rcases Nat.lt_or_ge a.block w.heap.size with hlt | hge
      · exact hlt
      · rw [Array.getElem?_eq_none hge] at hb; cases hb
    · split at h
      · cases h
      · rename_i hs; simpa using hs
  · cases h

theorem open_flat {H : Type} {enc : TypeId × Value → H} {P : Program} {w : World} {base : Nat} {spare : Nat → Bool} {held : Bool} {t e : TypeId} {qs : List IntKind} {fuel : Nat} {A : Option Addr} {n c : Nat} {x : DataW H × List MemPlace}
    (ht : P.underlying t = some (.slice e)) (he : IntCells P e qs) (hpos : 0 < qs.length) (h : DataW.trod enc P w base spare held fuel t [.slice A n c] = some x) :
    n ≤ maxLen ∧ ∃ D, ArgI w A n qs D := by
  rcases open_slice ht h with ⟨h0, _⟩ | ⟨a, len, cap, m, k, D, Pl, hcs, hb, hl, hm, hmm, hx, hi⟩
  · simp only [List.cons.injEq, and_true] at h0
    cases h0
    exact ⟨by unfold maxLen; omega, fun _ _ => 0, fun i hi => absurd hi (by omega)⟩
  · simp only [List.cons.injEq, and_true] at hcs
    cases hcs
    refine ⟨by omega, fun i j => match w.cell? (a.add (i * qs.length + j)) with | some (.int _ z) => z | _ => 0, fun i hin => ?_⟩
    have key : ∀ i, i < n → ∀ j q, qs[j]? = some q → ∃ z, w.cell? (a.add (i * qs.length + j)) = some (.int q z) ∧ (Lit.int q z).wf = true := by
      intro i hin j q hj
      obtain ⟨cs', hc, ht'⟩ := hi i (by rw [hmm]; split <;> omega)
      rw [he.1] at hc
      obtain ⟨_, hcl, hat⟩ := World.cells?_some hc
      obtain ⟨z, hz, hw⟩ := he.2 H enc w base spare held k cs' _ ht' hcl j q hj
      have hjl : j < qs.length := (List.getElem?_eq_some_iff.1 hj).1
      have hcell := hat j hjl
      rw [Go.Deep.add_add] at hcell
      exact ⟨z, by rw [hcell, hz], hw⟩
    have h00 : qs[0]? = some (qs[0]'hpos) := List.getElem?_eq_getElem hpos
    obtain ⟨z0, hz0, _⟩ := key i hin 0 _ h00
    have hs : a.spot = none := by
      by_cases hi0 : i * qs.length + 0 = 0
      · rw [hi0] at hz0
        simpa [Addr.add] using (cell_lt hz0).2
      · obtain ⟨z1, hz1, _⟩ := key 0 (by omega) 0 _ h00
        have := (cell_lt hz1).2
        simpa [Addr.add] using this
    have hbl : a.block < w.heap.size := by
      have := (cell_lt hz0).1
      unfold Addr.add at this
      split at this <;> exact this
    obtain ⟨ab, ao, asp⟩ := a
    simp only at hs hbl
    subst hs
    refine ⟨ab, ao, rfl, hbl, fun j q hj => ?_⟩
    obtain ⟨z, hz, hw⟩ := key i hin j q hj
    have hadd : (⟨ab, ao, none⟩ : Addr).add (i * qs.length + j) = ⟨ab, ao + (i * qs.length + j), none⟩ := by
      unfold Addr.add
      split
      · rename_i h0; rw [h0]; simp
      · rfl
    simp only [hz]
    rw [hadd, ← Nat.add_assoc] at hz
    exact ⟨hz, hw⟩

theorem ArgI.at_ {w0 w : World} {F : List Nat} {A : Option Addr} {n i : Nat} {qs : List IntKind} {D : Nat → Nat → Int} (h : ArgI w0 A n qs D) (hO : Own w0 F w) (hi : i < n) :
    ∃ b o, A = some ⟨b, o, none⟩ ∧ ∀ (j : Nat) (q : IntKind), qs[j]? = some q → w.cell? ⟨b, o + i * qs.length + j, none⟩ = some (.int q (D i j)) := by
  obtain ⟨b, o, e, hb, hc⟩ := h i hi
  exact ⟨b, o, e, fun j q hj => hO.cell hb (hc j q hj).1⟩

theorem ArgI.wf {w : World} {A : Option Addr} {n i : Nat} {qs : List IntKind} {D : Nat → Nat → Int} (h : ArgI w A n qs D) (hi : i < n) (j : Nat) (q : IntKind) (hq : qs[j]? = some q) : (Lit.int q (D i j)).wf = true := by
  obtain ⟨_, _, _, _, hc⟩ := h i hi
  exact (hc j q hq).2

/-- One-cell elements: the elder form. -/
theorem ArgI.arg {w : World} {A : Option Addr} {n : Nat} {q : IntKind} {D : Nat → Nat → Int} (h : ArgI w A n [q] D) : Arg w A n (((List.range n).map fun i => D i 0).map (.int q)) := by
  refine ⟨by simp, fun k hk => ?_⟩
  obtain ⟨b, o, e, hb, hc⟩ := h k hk
  refine ⟨b, o, e, hb, ?_⟩
  have := (hc 0 q rfl).1
  simp at this
  rw [this]
  simp [hk]

end Go.Proofs.Ytbcabjpafeocgaa

/-
  How long a slice among the arguments may be: the reach that every row states. Conditions: no program is named here.
-/
namespace Go.Proofs.Ytbcabjpafeocgaa
set_option linter.unusedVariables false
set_option linter.unusedSimpArgs false
open Go.RowKit Go.ChangeShapes Go.WideShapes Go.Deep

theorem flat_len {H : Type} {enc : TypeId × Value → H} {P : Program} {w : World} {base : Nat} {spare : Nat → Bool} {held : Bool} {t e : TypeId} {fuel : Nat} {A : Option Addr} {n c : Nat} {d : DataW H} {p : List MemPlace}
    (ht : P.underlying t = some (.slice e)) (h : DataW.trod enc P w base spare held fuel t [.slice A n c] = some (d, p)) : n = 0 ∨ ∃ el sp, d = .slice el sp ∧ el.length = n := by
  rcases open_slice ht h with ⟨h0, _⟩ | ⟨a, len, cap, m, k, D, Pl, hcs, hb, hl, hm, hmm, hx, hi⟩
  · simp only [List.cons.injEq, and_true] at h0
    cases h0
    exact .inl rfl
  · simp only [List.cons.injEq, and_true] at hcs
    cases hcs
    simp only [Prod.mk.injEq] at hx
    exact .inr ⟨_, _, hx.1, by simp⟩

theorem flat_reach {H : Type} {P : Program} {ts : List TypeId} {ds : List (DataW H)} {j n : Nat} {t e : TypeId} {d : DataW H} (h : (DataW.weightsEach P ts ds).all (· ≤ reachBytes) = true) (ht : ts[j]? = some t) (hd : ds[j]? = some d) (hu : P.underlying t = some (.slice e))
    (hb : 0 < P.bytesOf e) (hl : n = 0 ∨ ∃ el sp, d = .slice el sp ∧ el.length = n) : n ≤ 140737488351232 := by
  rcases hl with rfl | ⟨el, sp, rfl, rfl⟩
  · omega
  · have := sized_slice h ht hd hu
    have h2 : el.length ≤ (el.length + sp.length) * P.bytesOf e := Nat.le_trans (Nat.le_add_right _ _) (Nat.le_mul_of_pos_right _ hb)
    exact Nat.le_trans h2 this

end Go.Proofs.Ytbcabjpafeocgaa

/-
  An argument that is a struct of two slices, opened to the cells that a walk reads. Conditions: no program is named here.
-/
namespace Go.Proofs.Ytbcabjpafeocgaa
set_option linter.unusedVariables false
set_option linter.unusedSimpArgs false
open Go.RowKit Go.ChangeShapes Go.WideShapes Go.Deep

theorem slice_form {H : Type} {enc : TypeId × Value → H} {P : Program} {w : World} {base : Nat} {spare : Nat → Bool} {held : Bool} {t e : TypeId} {fuel : Nat} {v : Value} {x : DataW H × List MemPlace}
    (ht : P.underlying t = some (.slice e)) (h : DataW.trod enc P w base spare held fuel t [v] = some x) : ∃ A n c, v = .slice A n c := by
  rcases open_slice ht h with ⟨h0, _⟩ | ⟨a, len, cap, m, k, D, Pl, hcs, _⟩
  · simp only [List.cons.injEq, and_true] at h0
    exact ⟨_, _, _, h0⟩
  · simp only [List.cons.injEq, and_true] at hcs
    exact ⟨_, _, _, hcs⟩

/-- A struct of two slices, each of elements of integers. -/
theorem open_two {H : Type} {enc : TypeId × Value → H} {P : Program} {w : World} {base : Nat} {spare : Nat → Bool} {held : Bool} {t : TypeId} {fs : Array Field} {f0 f1 : Field} {e0 e1 : TypeId} {q0 q1 : List IntKind} {fuel : Nat} {cs : Array Value} {x : DataW H × List MemPlace}
    (ht : P.underlying t = some (.struct fs)) (hone : oneCellFields P fs = true) (hf0 : fs[0]? = some f0) (hf1 : fs[1]? = some f1) (hc2 : cs.size = 2) (hsz : P.cellsOf t = 2)
    (h0 : P.underlying f0.type = some (.slice e0)) (h1 : P.underlying f1.type = some (.slice e1)) (i0 : IntCells P e0 q0) (i1 : IntCells P e1 q1) (p0 : 0 < q0.length) (p1 : 0 < q1.length)
    (h : DataW.trod enc P w base spare held fuel t cs.toList = some x) :
    ∃ A0 n0 c0 A1 n1 c1, cs = #[.slice A0 n0 c0, .slice A1 n1 c1] ∧ n0 ≤ maxLen ∧ (∃ D, ArgI w A0 n0 q0 D) ∧ n1 ≤ maxLen ∧ ∃ D, ArgI w A1 n1 q1 D := by
  obtain ⟨ys, n', hn', hy, hlen, hyl, hf⟩ := DataW.trod_struct ht h
  have hs0 : 0 < fs.size := (Array.getElem?_eq_some_iff.1 hf0).1
  have hs1 : 1 < fs.size := (Array.getElem?_eq_some_iff.1 hf1).1
  obtain ⟨ho0, hk0⟩ := hone_of hone 0 _ hf0
  obtain ⟨ho1, hk1⟩ := hone_of hone 1 _ hf1
  have g0 := hf 0 _ hf0
  have g1 := hf 1 _ hf1
  rw [ho0, hk0] at g0
  rw [ho1, hk1] at g1
  obtain ⟨u0, u1, rfl⟩ : ∃ u0 u1, cs = #[u0, u1] := by
    obtain ⟨l⟩ := cs
    match l, hc2 with
    | [a, b], _ => exact ⟨a, b, rfl⟩
  rw [List.getElem?_eq_getElem (by omega)] at g0 g1
  have g0' : DataW.trod enc P w base spare held n' f0.type [u0] = some _ := g0
  have g1' : DataW.trod enc P w base spare held n' f1.type [u1] = some _ := g1
  obtain ⟨A0, n0, c0, rfl⟩ := slice_form h0 g0'
  obtain ⟨A1, n1, c1, rfl⟩ := slice_form h1 g1'
  obtain ⟨m0, D0⟩ := open_flat h0 i0 p0 g0'
  obtain ⟨m1, D1⟩ := open_flat h1 i1 p1 g1'
  exact ⟨A0, n0, c0, A1, n1, c1, rfl, m0, D0, m1, D1⟩
theorem okWide_arr {P : Program} {w : World} {r : Reach} {base : Nat} {t e : TypeId} {n : Nat} {v : Value} (ht : P.underlying t = some (.array n e)) (h : Value.okWide P w r base t v) : ∃ cs, v = .agg cs ∧ cs.size = P.cellsOf t := by
  simp only [Value.okWide, ht] at h
  obtain ⟨cs, h1, h2, _⟩ := h
  exact ⟨cs, h1, h2⟩
theorem zip_ints : ∀ (qs : List IntKind) (cs : List Value), cs.length = qs.length → (∀ (j : Nat) (q : IntKind), qs[j]? = some q → ∃ n : Int, cs[j]? = some (Value.int q n) ∧ (Lit.int q n).wf = true) →
    ∃ xs : List Int, xs.length = qs.length ∧ cs = List.zipWith Value.int qs xs ∧ ∀ (j : Nat) (q : IntKind) (n : Int), qs[j]? = some q → xs[j]? = some n → (Lit.int q n).wf = true
  | [], cs, hl, _ => ⟨[], rfl, by cases cs with | nil => rfl | cons a l => simp at hl, by simp⟩
  | q :: qs, [], hl, _ => by simp at hl
  | q :: qs, c :: cs, hl, h => by
    obtain ⟨n, h1, h2⟩ := h 0 q rfl
    simp at h1
    subst h1
    obtain ⟨xs, e1, e2, e3⟩ := zip_ints qs cs (by simpa using hl) (fun j q' hq => by
      have := h (j + 1) q' (by simpa using hq)
      simpa using this)
    refine ⟨n :: xs, by simp [e1], by rw [e2]; rfl, fun j q' m hq hm => ?_⟩
    cases j with
    | zero => simp at hq hm; subst hq; subst hm; exact h2
    | succ j => exact e3 j q' m (by simpa using hq) (by simpa using hm)
/-- An array or a struct of integers. -/
theorem open_agg {H : Type} {enc : TypeId × Value → H} {P : Program} {w : World} {base : Nat} {spare : Nat → Bool} {held : Bool} {t : TypeId} {qs : List IntKind} {fuel : Nat} {cs : Array Value} {x : DataW H × List MemPlace}
    (hi : IntCells P t qs) (hc : cs.size = P.cellsOf t) (h : DataW.trod enc P w base spare held fuel t cs.toList = some x) :
    ∃ xs : List Int, xs.length = qs.length ∧ cs = (List.zipWith Value.int qs xs).toArray ∧ ∀ (j : Nat) (q : IntKind) (n : Int), qs[j]? = some q → xs[j]? = some n → (Lit.int q n).wf = true := by
  have hl : cs.toList.length = qs.length := by rw [Array.length_toList, hc, hi.1]
  obtain ⟨xs, e1, e2, e3⟩ := zip_ints qs cs.toList hl (fun j q hq => hi.2 _ _ _ _ _ _ _ _ _ h hl j q hq)
  exact ⟨xs, e1, by rw [← e2], e3⟩
end Go.Proofs.Ytbcabjpafeocgaa

/-
  sync.Once and the atomic words, in the run of one goroutine, each function a contract. Conditions: as each theorem says. The pattern of the six contracts is the kit's worked example Lazy.
-/
namespace Go.Proofs.Ytbcabjpafeocgaa
set_option linter.unusedVariables false
set_option linter.unusedSimpArgs false
open Go.RowKit

theorem disable (w : World) : (callFunc 118 #[]).run Try.prog w = .ok (.value (.tuple #[])) w := run_call_mark0 Try.func118 (by kernel_rfl) (by kernel_rfl) (by kernel_rfl) .disable (by kernel_rfl) w
theorem enable (w : World) : (callFunc 120 #[]).run Try.prog w = .ok (.value (.tuple #[])) w := run_call_mark0 Try.func120 (by kernel_rfl) (by kernel_rfl) (by kernel_rfl) .enable (by kernel_rfl) w
theorem acquire (a : Addr) (w : World) : (callFunc 121 #[.pointer (some a)]).run Try.prog w = .ok (.value (.tuple #[])) w := run_call_marked Try.func121 (by kernel_rfl) (by kernel_rfl) (by kernel_rfl) .acquire (by kernel_rfl) a w
theorem releaseMerge (a : Addr) (w : World) : (callFunc 123 #[.pointer (some a)]).run Try.prog w = .ok (.value (.tuple #[])) w := run_call_marked Try.func123 (by kernel_rfl) (by kernel_rfl) (by kernel_rfl) .releaseMerge (by kernel_rfl) a w

theorem store_deferred (a : Addr) (x : Value) (u : FrameMode) (w : World) (hc : w.cell? a = some x) (hz : w.frozen? a = false) :
    CallsD Try.prog 113 #[.pointer (some a), .bool true] u w fun e u' w' => u' = u ∧ (e = .returned (.tuple #[]) ∧ w' = w.drew.setCell a (.int .u32 1)) := by
  have hc' : w.drew.cell? a = some x := by go_simp
  have hz' : w.drew.frozen? a = false := by go_simp
  have hst := run_call_store (P := Try.prog) Try.func116 (by kernel_rfl) (by kernel_rfl) (by kernel_rfl) (by kernel_rfl) (k := .u32) (y := 1) hc' hz'
  go_enter_d Try.func113, Try.ntmps113
  go_wp2
  go_region_calls
  all_goals (go_end0; exact ⟨rfl, rfl⟩)

set_option maxRecDepth 100000 in
theorem unlock_deferred (a : Addr) (u : FrameMode) (w : World) (hc : w.cell? a = some (.int .i32 1)) (hz : w.frozen? a = false) :
    CallsD Try.prog 112 #[.pointer (some a)] u w fun e u' w' => u' = u ∧ (e = .returned (.tuple #[]) ∧ w' = w.setCell a (.int .i32 0)) := by
  have hd := disable
  have he := enable
  have hr := releaseMerge
  have hadd := run_call_add (P := Try.prog) Try.func124 (by kernel_rfl) (by kernel_rfl) (by kernel_rfl) .i32 (by kernel_rfl) (y := -1) (s := 0) hc hz (by simp [go_sem]; rfl)
  have hcv := run_convert_to_unsafe (P := Try.prog) (src := 165) (dst := 169) Try.underlying165 Try.underlying169 (by kernel_rfl) hc
  go_enter_d Try.func112, Try.ntmps112
  go_wp2
  go_end0
  go_wp2
  go_end0
  exact ⟨rfl, rfl⟩

set_option maxRecDepth 100000 in
theorem lock_free (a : Addr) (w : World) (hc : w.cell? a = some (.int .i32 0)) (hz : w.frozen? a = false) :
    Calls Try.prog 111 #[.pointer (some a)] w fun e w' => e = .returned (.tuple #[]) ∧ w' = w.setCell a (.int .i32 1) := by
  have hd := disable
  have he := enable
  have ha := acquire
  have hcas := run_call_cas_hit (P := Try.prog) Try.func119 (by kernel_rfl) (by kernel_rfl) (by kernel_rfl) .i32 (by kernel_rfl) (y := 1) hc hz
  have hc' : (w.setCell a (.int .i32 1)).cell? a = some (.int .i32 1) := World.cell?_setCell_same w a _ hc
  have hcv := run_convert_to_unsafe (P := Try.prog) (src := 165) (dst := 169) Try.underlying165 Try.underlying169 (by kernel_rfl) hc'
  go_enter Try.func111, Try.ntmps111
  go_wp2
  first | go_end0 | (simp only [Exit.inBlock, Exit.then]; refine bodyPost_ret (results_none rfl _ _ _) rfl ?_) | refine bodyPost_ret (results_none rfl _ _ _) rfl ?_
  go_wp2
  go_end0
  exact ⟨rfl, rfl⟩

/-- m words. -/
def wordCells (W : Nat → Nat) (m : Nat) : Array Value := Array.ofFn (n := m) fun k => .int .u64 ((W k.val : Nat) : Int)
theorem wordCells_get (W : Nat → Nat) (m k : Nat) (h : k < m) : (wordCells W m)[k]? = some (.int .u64 ((W k : Nat) : Int)) := by simp [wordCells, h]
theorem wordCells_set (W : Nat → Nat) (m k v : Nat) : (wordCells W m).setIfInBounds k (.int .u64 ((v : Nat) : Int)) = wordCells (fun i => if i = k then v else W i) m := by
  apply Array.ext_getElem?
  intro i
  rw [Array.getElem?_setIfInBounds]
  by_cases hi : i < m
  · rw [wordCells_get _ _ _ hi]
    by_cases h : k = i
    · subst h
      have : k < (wordCells W m).size := by simpa [wordCells] using hi
      rw [wordCells_get _ _ _ hi]; simp [this]
    · have h' : ¬ i = k := fun e => h e.symm
      simp [h, h', wordCells_get _ _ _ hi]
  · have h1 : (wordCells W m)[i]? = none := by simp [wordCells]; omega
    have h2 : (wordCells (fun i => if i = k then v else W i) m)[i]? = none := by simp [wordCells]; omega
    rw [h1, h2]
    have : ¬ i < (wordCells W m).size := by simpa [wordCells] using hi
    split <;> simp_all
theorem wordCells_made (m : Nat) : madeCells #[.int .u64 0] m = wordCells (fun _ => 0) m := by
  apply Array.ext
  · simp [wordCells, size_madeCells]
  · intro i h1 h2
    simp [wordCells, madeCells, Nat.mod_one]

theorem mk_words (m : Nat) (hm : m ≤ 1000000) (w : World) : (Instr.makeSlice 129 (.int .i64 (m : Int)) (.int .i64 (m : Int))).run Try.prog w = .ok (.slice (some ⟨w.heap.size, 0, none⟩) m m) (w.alloc (.cells (wordCells (fun _ => 0) m) 147)) := by
  obtain ⟨i, hi, hh⟩ := Option.map_eq_some_iff.1 (show (Try.prog.info? 147).map (fun i => (i.zero, i.size, i.bytes)) = some (some (.agg #[.int .u64 0]), 1, 8) by kernel_rfl)
  simp only [Prod.mk.injEq] at hh
  obtain ⟨hz, hs, hb⟩ := hh
  have := run_make (P := Try.prog) w 129 147 i (.agg #[.int .u64 0]) Try.underlying129 hi hz .i64 .i64 m m (by omega) (Int.le_refl _) (by rw [hb]; omega) (by omega)
  rw [this, hs]
  simp [Value.cells, wordCells_made]
end Go.Proofs.Ytbcabjpafeocgaa

/-
  A set of numbers (layer 1): where it lies, and how its words are laid. Conditions: as each theorem says.
-/
namespace Go.Proofs.Ytbcabjpafeocgaa
set_option linter.unusedVariables false
set_option linter.unusedSimpArgs false
open Go.RowKit


theorem Blk.as_ {w : World} {g : Nat} {t : TypeId} {cs cs' : Array Value} (h : Blk w g t cs) (e : cs = cs') : Blk w g t cs' := e ▸ h

/-- How many words n numbers have. -/
def wordsOf (n : Int) : Nat := (n.toNat + 63) / 64
def nilRow : Value := .slice none 0 0
def setCells (n : Int) (done lock : Int) (l : Value) : Array Value := #[.int .i64 n, .int .u32 done, .int .i32 lock, .int .u32 0, l]
def rowAt (g m : Nat) : Value := .slice (some ⟨g, 0, none⟩) m m

/-- The set at block b: n numbers at most, its words W; lo: the block of its words, where they are laid. -/
def SetAt (w : World) (b : Nat) (n : Int) (W : Nat → Nat) : Option Nat → Prop
  | none => Blk w b 131 (setCells n 0 0 nilRow) ∧ W = fun _ => 0
  | some g => Blk w b 131 (setCells n 1 0 (rowAt g (wordsOf n))) ∧ Blk w g 147 (wordCells W (wordsOf n)) ∧ g ≠ b

section
variable {w : World} {b : Nat} {n : Int}

/-- What the closure does that words hands to Do. -/
theorem set_lay (pl : Addr) (hn0 : 0 ≤ n) (hn1 : n ≤ 100000) (hp : w.cell? pl = some (.pointer (some ⟨b, 0, none⟩))) (h : Blk w b 131 (setCells n 0 1 nilRow)) :
    Calls Try.prog 104 #[.pointer (some pl)] w fun e w' => e = .returned (.tuple #[]) ∧ Blk w' b 131 (setCells n 0 1 (rowAt w.heap.size (wordsOf n))) ∧ Blk w' w.heap.size 147 (wordCells (fun _ => 0) (wordsOf n)) ∧ Chg [b] w w' := by
  have HB := Lib.hid h
  have hlt := h.lt
  have c0 := h.cell 0
  have c4 := h.cell 4
  have f4 := h.frozen 4
  simp [setCells] at c0 c4
  obtain ⟨m, hm⟩ : ∃ m, wordsOf n = m := ⟨_, rfl⟩
  have hq : (n + 63) / 64 = (m : Int) := by rw [← hm]; unfold wordsOf; omega
  have hs : IntKind.i64.wrap (n + 63) = n + 63 := by rw [IntKind.wrap_i64]; omega
  have hmk := mk_words m (by omega)
  have hpl : pl.block < w.heap.size := by
    rcases Nat.lt_or_ge pl.block w.heap.size with hl | hg
    · exact hl
    · simp [World.cell?, Array.getElem?_eq_none hg] at hp
  have aA : ∀ o : Go.Obj, (w.alloc o).cell? pl = some (.pointer (some ⟨b, 0, none⟩)) := fun o => (World.cell?_alloc_lt w o pl hpl).trans hp
  have a0 : ∀ o : Go.Obj, (w.alloc o).cell? ⟨b, 0, none⟩ = some (.int .i64 n) := fun o => (World.cell?_alloc_past _ _ _ hlt).trans c0
  have a4 : ∀ o : Go.Obj, (w.alloc o).cell? ⟨b, 4, none⟩ = some nilRow := fun o => (World.cell?_alloc_past _ _ _ hlt).trans c4
  have z4 : ∀ o : Go.Obj, (w.alloc o).frozen? ⟨b, 4, none⟩ = false := fun o => (World.frozen?_alloc_past _ _ _ hlt).trans f4
  rw [hm]
  have hlt := Lib.hid hlt
  clear h hm hpl
  go_enter Try.func104, Try.ntmps104
  go_wp2_with fail
  go_region
  all_goals
    go_end0
    refine ⟨rfl, ?_, ?_, ?_⟩
    · apply Blk.as_
      · (repeat (first | with_reducible apply Blk.set_ | with_reducible apply Blk.drew | with_reducible apply Blk.drewN | with_reducible apply Blk.alloc))
        exact HB.out
      · simp [setCells, rowAt]
    · have e : (w.setCell ⟨b, 4, none⟩ (rowAt w.heap.size m)).heap.size = w.heap.size := by simp [World.setCell]
      have hw := Blk.new (w.setCell ⟨b, 4, none⟩ (rowAt w.heap.size m)) 147 (wordCells (fun _ => 0) m)
      rw [e] at hw
      repeat (with_reducible apply Blk.drew)
      exact hw
    · (repeat (first | with_reducible apply Chg.drew | with_reducible apply Chg.drewN | with_reducible apply Chg.alloc | (with_reducible apply Chg.setCell; rotate_left; exact .inl (by simp)) | exact Chg.refl _ _))

set_option maxRecDepth 100000 in
set_option maxHeartbeats 1600000 in
/-- Once's slow road, not yet done, the lock free. -/
theorem once_slow (pl : Addr) (hpb : ¬ b = pl.block) (hn0 : 0 ≤ n) (hn1 : n ≤ 100000) (hp : w.cell? pl = some (.pointer (some ⟨b, 0, none⟩))) (h : Blk w b 131 (setCells n 0 0 nilRow)) :
    Calls Try.prog 108 #[.pointer (some ⟨b, 1, none⟩), .func (.func 104) #[] #[.pointer (some pl)]] w fun e w' => e = .returned (.tuple #[]) ∧ SetAt w' b n (fun _ => 0) (some w.heap.size) ∧ Chg [b] w w' := by
  have HB := Lib.hid h
  have hlt := h.lt
  have c2 := h.cell 2
  have f2 := h.frozen 2
  simp [setCells] at c2
  have h1 : Blk (w.setCell ⟨b, 2, none⟩ (.int .i32 1)) b 131 (setCells n 0 1 nilRow) := (h.set_ 2 _).as_ (by simp [setCells])
  have hp1 : (w.setCell ⟨b, 2, none⟩ (.int .i32 1)).cell? pl = some (.pointer (some ⟨b, 0, none⟩)) := (World.cell?_setCell_other _ ⟨b, 2, none⟩ pl _ (fun h => hpb (by rw [← h]))).trans hp
  have hc1 : Chg [b] w (w.setCell ⟨b, 2, none⟩ (.int .i32 1)) := (Chg.refl _ _).setCell (.inl (by simp)) _
  have hsz : (w.setCell ⟨b, 2, none⟩ (.int .i32 1)).heap.size = w.heap.size := by simp [World.setCell]
  have hd0 := h1.cell 1
  simp [setCells] at hd0
  have hl := run_call_load (P := Try.prog) Try.func110 (by kernel_rfl) (by kernel_rfl) (by kernel_rfl) .u32 (by kernel_rfl) (w := w.setCell ⟨b, 2, none⟩ (.int .i32 1)) (a := ⟨b, 1, none⟩) (x := 0) hd0
  have hnot : ∀ (x : Bool) (w : World), (Op.unary .not (.bool x)).run Try.prog w = .ok (.bool (!x)) w := fun _ _ => rfl
  have HC1 := Lib.hid hc1
  have H1 := Lib.hid h1
  have HP1 := Lib.hid hp1
  have HSZ := Lib.hid hsz
  clear h hlt hc1 h1 hp1 hsz hp hd0
  go_enter_defers Try.func108, Try.ntmps108
  go_wp2_with (go_at_call 111; refine (lock_free ⟨b, 2, none⟩ _ c2 f2).mono ?_; rintro e w' ⟨rfl, rfl⟩)
  clear c2 f2
  go_wp2_with (first | (go_at_call 104; refine (set_lay pl hn0 hn1 HP1.out H1.out).mono ?_; rintro e w2 ⟨rfl, hb2, hg2, hc2⟩; have HB2 := Lib.hid hb2; have HG2 := Lib.hid hg2; have HC2 := Lib.hid hc2; clear hb2 hg2 hc2) | (go_at_call 107; go_in))
  have HNE := Lib.hid (show w.heap.size ≠ b by have := HB.out.lt; omega)
  have hg := HG2.out
  rw [HSZ.out] at hg
  have hb2 := HB2.out
  rw [HSZ.out] at hb2
  have k1 := hb2.cell 1
  have z1 := hb2.frozen 1
  simp [setCells] at k1
  refine leaves_cons (f := 113) (args := #[.pointer (some ⟨b, 1, none⟩), .bool true]) (by simp) (by simp [go_sem]) ?_
  refine (store_deferred ⟨b, 1, none⟩ (.int .u32 0) .returning _ k1 z1).mono ?_
  rintro e u' w'' ⟨rfl, rfl, rfl⟩
  have hb3 := hb2.drew.set_ 1 (.int .u32 1)
  have k2 := hb3.cell 2
  have z2 := hb3.frozen 2
  simp [setCells] at k2
  refine leaves_cons (f := 112) (args := #[.pointer (some ⟨b, 2, none⟩)]) (by simp [settle]) (by simp [go_sem]) ?_
  refine (unlock_deferred ⟨b, 2, none⟩ _ _ k2 z2).mono ?_
  rintro e u' w'' ⟨rfl, rfl, rfl⟩
  have hb4 := hb3.set_ 2 (.int .i32 0)
  have hg4 := (hg.drew.far (p := ⟨b, 1, none⟩) HNE.out (.int .u32 1)).far (p := ⟨b, 2, none⟩) HNE.out (.int .i32 0)
  have hc4 := (((HC1.out.trans HC2.out (by simp)).drew.setCell (p := ⟨b, 1, none⟩) (.inl (by simp)) (.int .u32 1)).setCell (p := ⟨b, 2, none⟩) (.inl (by simp)) (.int .i32 0))
  have fin : SetAt _ b n (fun _ => 0) (some w.heap.size) := ⟨hb4.as_ (by simp [setCells, rowAt]), hg4, HNE.out⟩
  have HF := Lib.hid fin
  have HC4 := Lib.hid hc4
  clear fin hc4 hg4 hb4 hb3 hb2 k1 z1 k2 z2 hg
  simp [Leaves, settle, results, Try.results108]
  exact ⟨HF.out, HC4.out⟩

theorem once_first (pl : Addr) (hpb : ¬ b = pl.block) (hn0 : 0 ≤ n) (hn1 : n ≤ 100000) (hp : w.cell? pl = some (.pointer (some ⟨b, 0, none⟩))) (h : Blk w b 131 (setCells n 0 0 nilRow)) :
    Calls Try.prog 103 #[.pointer (some ⟨b, 1, none⟩), .func (.func 104) #[] #[.pointer (some pl)]] w fun e w' => e = .returned (.tuple #[]) ∧ SetAt w' b n (fun _ => 0) (some w.heap.size) ∧ Chg [b] w w' := by
  have HP := Lib.hid hp
  have HB := Lib.hid h
  have h0 := h.cell 1
  simp [setCells] at h0
  have hl := run_call_load (P := Try.prog) Try.func110 (by kernel_rfl) (by kernel_rfl) (by kernel_rfl) .u32 (by kernel_rfl) h0
  have hnot : ∀ (x : Bool) (w : World), (Op.unary .not (.bool x)).run Try.prog w = .ok (.bool (!x)) w := fun _ _ => rfl
  clear h hp
  go_enter Try.func103, Try.ntmps103
  go_wp2_with (first | (go_at_call 108; refine (once_slow pl hpb hn0 hn1 HP.out HB.out).mono ?_; rintro e w' ⟨rfl, hs, hc⟩) | (go_at_call 107; go_in))
  go_end0
  exact ⟨rfl, hs, hc⟩

theorem once_done (a : Addr) (fv : Value) (h0 : w.cell? a = some (.int .u32 1)) :
    Calls Try.prog 103 #[.pointer (some a), fv] w fun e w' => e = .returned (.tuple #[]) ∧ w' = w := by
  have hl := run_call_load (P := Try.prog) Try.func110 (by kernel_rfl) (by kernel_rfl) (by kernel_rfl) .u32 (by kernel_rfl) h0
  have hnot : ∀ (x : Bool) (w : World), (Op.unary .not (.bool x)).run Try.prog w = .ok (.bool (!x)) w := fun _ _ => rfl
  go_enter Try.func103, Try.ntmps103
  go_wp2
  go_end0
  exact ⟨rfl, rfl⟩

/-- words: they are laid behind it. -/
theorem SWords {W : Nat → Nat} {lo : Option Nat} (h : SetAt w b n W lo) (hn0 : 0 ≤ n) (hn1 : n ≤ 100000) :
    Calls Try.prog 95 #[.pointer (some ⟨b, 0, none⟩)] w fun e w' => ∃ g, e = .returned (rowAt g (wordsOf n)) ∧ SetAt w' b n W (some g) ∧ (lo = some g ∨ w.heap.size ≤ g) ∧ Chg [b] w w' := by
  have hmf : ∀ (fn : Fn) (first cap : Array Value) (w : World), (Instr.makeFunc fn first cap).run Try.prog w = .ok (.func fn first cap) w := fun _ _ _ _ => rfl
  cases lo with
  | none =>
    obtain ⟨h, rfl⟩ := h
    have hlt := h.lt
    have HB := Lib.hid (h.alloc (.cells #[.pointer (some ⟨b, 0, none⟩)] 80))
    have HNE := Lib.hid (show ¬ b = w.heap.size by omega)
    have HP : Hid ((w.alloc (.cells #[.pointer (some ⟨b, 0, none⟩)] 80)).cell? ⟨w.heap.size, 0, none⟩ = some (.pointer (some ⟨b, 0, none⟩))) := Lib.hid (by simp)
    have HC0 := Lib.hid ((Chg.refl [b] w).alloc (.cells #[.pointer (some ⟨b, 0, none⟩)] 80))
    have HNB := Lib.hid (Blk.new w 80 #[.pointer (some ⟨b, 0, none⟩)])
    clear h hlt
    go_enter Try.func95, Try.ntmps95
    go_wp2_with fail
    refine (once_first ⟨w.heap.size, 0, none⟩ HNE.out hn0 hn1 HP.out HB.out).mono ?_
    rintro e w1 ⟨rfl, hs, hc⟩
    have hp1 := (hc.blk HNB.out (by simp; exact fun h => HNE.out h.symm)).cell 0
    simp at hp1
    have c4 := hs.1.cell 4
    simp [setCells] at c4
    have HS := Lib.hid hs
    have HC := Lib.hid hc
    have HSZ := Lib.hid (show w.heap.size ≤ (w.alloc (.cells #[.pointer (some ⟨b, 0, none⟩)] 80)).heap.size by simp)
    clear hs hc HB HP
    go_wp2_with fail
    go_ret
    exact ⟨w.heap.size + 1, rfl, by simpa using HS.out, .inr (by omega), HC0.out.trans HC.out (by simp)⟩
  | some g =>
    have HS := Lib.hid h
    have h1 := h.1.cell 1
    simp [setCells] at h1
    have hlt := h.1.lt
    have a1 : (w.alloc (.cells #[.pointer (some ⟨b, 0, none⟩)] 80)).cell? ⟨b, 1, none⟩ = some (.int .u32 1) := (World.cell?_alloc_past _ _ _ hlt).trans h1
    have h4 := h.1.cell 4
    simp [setCells] at h4
    have a4 : (w.alloc (.cells #[.pointer (some ⟨b, 0, none⟩)] 80)).cell? ⟨b, 4, none⟩ = some (rowAt g (wordsOf n)) := (World.cell?_alloc_past _ _ _ hlt).trans h4
    have A1 := Lib.hid a1
    have HS2 : Hid (SetAt (w.alloc (.cells #[.pointer (some ⟨b, 0, none⟩)] 80)) b n W (some g)) := Lib.hid ⟨h.1.alloc _, h.2.1.alloc _, h.2.2⟩
    have HC0 := Lib.hid ((Chg.refl [b] w).alloc (.cells #[.pointer (some ⟨b, 0, none⟩)] 80))
    clear h h1 hlt h4 a1
    go_enter Try.func95, Try.ntmps95
    go_wp2_with fail
    refine (once_done ⟨b, 1, none⟩ _ A1.out).mono ?_
    rintro e w1 ⟨rfl, rfl⟩
    go_wp2_with fail
    go_ret
    exact ⟨g, rfl, HS2.out, .inl rfl, HC0.out⟩
end
end Go.Proofs.Ytbcabjpafeocgaa

/-
  A region that draws its order and holds writing calls one after another, and behind them reads and calls that only make memory: the calls are taken as they come, the rest is walked once. Conditions: as each theorem says.
-/
namespace Go.Proofs.Ytbcabjpafeocgaa
set_option linter.unusedVariables false
set_option linter.unusedSimpArgs false
open Go.RowKit

/-- From operation k on: reads, and calls that only make memory. -/
theorem wpAny_grow {P : Program} {Q : Exit → Act → World → Prop} {a : Act} {w : World} {listed : Array Bool} {l : List Oper} (k : Nat) {fuel : Nat}
    (hs : Region.noSelect l.toArray = true) (hfu : (l.drop k).length = fuel) (hB : Region.lexFrom .any l.toArray fuel k listed = true)
    (h : wpQuiet P l.toArray (fun w' => ∃ x : Later w, w' = x.w') (fun a' => ∀ w', (∃ x : Later w, w' = x.w') → Q .normal a' w') (l.drop k) a) : wpAny P .any l.toArray Q fuel listed a w := by
  subst hfu
  exact wpAny_of_quiet (Q := fun a' => ∀ w', (∃ x : Later w, w' = x.w') → Q .normal a' w') (fun _ w' hw' h => h w' hw') _ _ _ _ ⟨⟨w, Chg.refl _ _⟩, rfl⟩
    (wpAnyQ_lex hs (l.drop k) k listed a (fun j => by simp) hB h)

end Go.Proofs.Ytbcabjpafeocgaa

/-
  What a set of numbers (layer 1) answers. Conditions: as each theorem says.
-/
namespace Go.Proofs.Ytbcabjpafeocgaa
set_option linter.unusedVariables false
set_option linter.unusedSimpArgs false
open Go.RowKit

def bitOf (W : Nat → Nat) (i : Nat) : Bool := (W (i / 64)).testBit (i % 64)

section
variable {w : World} {b : Nat} {n : Int} {W : Nat → Nat} {lo : Option Nat}

theorem SPlaceOut (h : SetAt w b n W lo) (i : Int) (hi : i < 0 ∨ n ≤ i) :
    Calls Try.prog 88 #[.pointer (some ⟨b, 0, none⟩), .int .i64 i] w fun e w' => e = .returned (.tuple #[.pointer none, .int .u64 0, .bool false]) ∧ w = w' := by
  have h0 : w.cell? ⟨b, 0, none⟩ = some (.int .i64 n) := by
    cases lo with
    | none => have := h.1.cell 0; simpa [setCells] using this
    | some g => have := h.1.cell 0; simpa [setCells] using this
  clear h
  by_cases h1 : i < 0
  · clear hi
    go_enter Try.func88, Try.ntmps88
    go_wp2_with fail
    go_ret3
    exact ⟨rfl, rfl⟩
  · have h2 : n ≤ i := by omega
    clear hi
    go_enter Try.func88, Try.ntmps88
    go_wp2_with fail
    go_ret3
    exact ⟨rfl, rfl⟩

theorem SPlaceIn (h : SetAt w b n W lo) (hn1 : n ≤ 100000) (I : Nat) (hi : (I : Int) < n) :
    Calls Try.prog 88 #[.pointer (some ⟨b, 0, none⟩), .int .i64 (I : Int)] w fun e w' => ∃ g, e = .returned (.tuple #[.pointer (some ⟨g, I / 64, none⟩), .int .u64 ((2 ^ (I % 64) : Nat) : Int), .bool true]) ∧ SetAt w' b n W (some g) ∧ (lo = some g ∨ w.heap.size ≤ g) ∧ Chg [b] w w' := by
  have h0 : w.cell? ⟨b, 0, none⟩ = some (.int .i64 n) := by
    cases lo with
    | none => have := h.1.cell 0; simpa [setCells] using this
    | some g => have := h.1.cell 0; simpa [setCells] using this
  have hi0 : (0 : Int) ≤ (I : Int) := by omega
  have HS : Hid (∀ k, SetAt (w.drewN k) b n W lo) := Lib.hid (by
    intro k
    cases lo with
    | none => exact h
    | some g => exact h)
  obtain ⟨q, hq⟩ : ∃ q, I / 64 = q := ⟨_, rfl⟩
  obtain ⟨r, hr⟩ : ∃ r, I % 64 = r := ⟨_, rfl⟩
  have hqi : (I : Int) / 64 = (q : Int) := by omega
  have hri : (I : Int) % 64 = (r : Int) := by omega
  have hr64 : r < 64 := by omega
  have hlt : q < wordsOf n := by unfold wordsOf; omega
  have hwq : IntKind.i64.wrap (q : Int) = (q : Int) := by rw [IntKind.wrap_i64]; omega
  have htm : (I : Int).tmod 64 = (r : Int) := by rw [Int.tmod_eq_emod_of_nonneg (by omega)]; omega
  have hr0 : (0 : Int) ≤ (r : Int) := by omega
  have hw2 : IntKind.u64.wrap ((2 : Int) ^ r) = ((2 ^ r : Nat) : Int) := by
    have hp : 2 ^ r < 18446744073709551616 := Nat.pow_lt_pow_right (by decide) hr64
    have e : ((2 : Int) ^ r) = ((2 ^ r : Nat) : Int) := by simp
    rw [e, IntKind.wrap_u64]
    generalize 2 ^ r = p at hp ⊢
    omega
  rw [hq, hr]
  have hn0 : 0 ≤ n := by omega
  clear h hq hr
  go_enter Try.func88, Try.ntmps88
  go_wp2_with fail
  go_region_with (go_at_call 95; refine (SWords (HS.out _) hn0 hn1).mono ?_; rintro e w1 ⟨g, rfl, hs, hg, hc⟩; have HS1 := Lib.hid hs; have HG := Lib.hid hg; have HC := Lib.hid hc; clear hs hg hc; unfold rowAt)
  all_goals go_wp2_with fail
  all_goals go_ret3
  all_goals exact ⟨g, rfl, HS1.out, HG.out, ((Chg.refl [b] w).drewN 1).trans HC.out (by simp)⟩
end

/-- Atomic Or, And, Load of one word. -/
theorem or_word (a : Addr) (x y : Nat) (hx : x < 18446744073709551616) (hy : y < 18446744073709551616) (w : World) (hc : w.cell? a = some (.int .u64 (x : Int))) (hz : w.frozen? a = false) :
    (callFunc 100 #[.pointer (some a), .int .u64 (y : Int)]).run Try.prog w = .ok (.value (.int .u64 (x : Int))) (w.setCell a (.int .u64 ((x ||| y : Nat) : Int))) := by
  rw [run_callFunc_extern Try.func100 (by kernel_rfl) (by kernel_rfl) (by kernel_rfl) (show Extern.find Try.f100 = some (Extern.Atomic.update (Op.intBits .or) .u64 false) by kernel_rfl)]
  change (Sem.run Try.prog (do
    let a' ← asAddr (.pointer (some a))
    let old ← Extern.Atomic.read (.int .u64) a'
    let new ← Op.intBits .or .u64 (← asInt old) (← asInt (.int .u64 (y : Int)))
    store a' new .atomic
    pure (if false = true then new else old)) w).andThen _ = _
  have hs : (Op.intBits .or .u64 (x : Int) (y : Int)).run Try.prog w = .ok (.int .u64 ((x ||| y : Nat) : Int)) w := by
    have := u64_or_nat x y hx hy
    rw [← this]
    rfl
  simp [Extern.Atomic.read, asAddr, asInt, asIntOf, hc, hz, hs, run_store Try.prog w a (.int .u64 ((x ||| y : Nat) : Int)) .atomic rfl, Result.andThen]

theorem and_word (a : Addr) (x y : Nat) (hx : x < 18446744073709551616) (hy : y < 18446744073709551616) (w : World) (hc : w.cell? a = some (.int .u64 (x : Int))) (hz : w.frozen? a = false) :
    (callFunc 106 #[.pointer (some a), .int .u64 (y : Int)]).run Try.prog w = .ok (.value (.int .u64 (x : Int))) (w.setCell a (.int .u64 ((x &&& y : Nat) : Int))) := by
  rw [run_callFunc_extern Try.func106 (by kernel_rfl) (by kernel_rfl) (by kernel_rfl) (show Extern.find Try.f106 = some (Extern.Atomic.update (Op.intBits .and) .u64 false) by kernel_rfl)]
  change (Sem.run Try.prog (do
    let a' ← asAddr (.pointer (some a))
    let old ← Extern.Atomic.read (.int .u64) a'
    let new ← Op.intBits .and .u64 (← asInt old) (← asInt (.int .u64 (y : Int)))
    store a' new .atomic
    pure (if false = true then new else old)) w).andThen _ = _
  have hs : (Op.intBits .and .u64 (x : Int) (y : Int)).run Try.prog w = .ok (.int .u64 ((x &&& y : Nat) : Int)) w := by
    have := u64_and_nat x y hx hy
    rw [← this]
    rfl
  simp [Extern.Atomic.read, asAddr, asInt, asIntOf, hc, hz, hs, run_store Try.prog w a (.int .u64 ((x &&& y : Nat) : Int)) .atomic rfl, Result.andThen]

/-- Atomic words, by their methods. -/
theorem ALoad (g q : Nat) (x : Int) (w : World) (hc : w.cell? ⟨g, q, none⟩ = some (.int .u64 x)) :
    Calls Try.prog 93 #[.pointer (some ⟨g, q, none⟩)] w fun e w' => e = .returned (.int .u64 x) ∧ w = w' := by
  have hl := run_call_load (P := Try.prog) Try.func102 (by kernel_rfl) (by kernel_rfl) (by kernel_rfl) .u64 (by kernel_rfl) hc
  go_enter Try.func93, Try.ntmps93
  go_wp2
  go_ret
  exact ⟨rfl, rfl⟩

theorem AOr (g q x y : Nat) (hx : x < 18446744073709551616) (hy : y < 18446744073709551616) (w : World) (hc : w.cell? ⟨g, q, none⟩ = some (.int .u64 (x : Int))) (hz : w.frozen? ⟨g, q, none⟩ = false) :
    Calls Try.prog 89 #[.pointer (some ⟨g, q, none⟩), .int .u64 (y : Int)] w fun e w' => e = .returned (.int .u64 (x : Int)) ∧ w' = w.setCell ⟨g, q, none⟩ (.int .u64 ((x ||| y : Nat) : Int)) := by
  have hl := or_word ⟨g, q, none⟩ x y hx hy w hc hz
  go_enter Try.func89, Try.ntmps89
  go_wp2
  go_ret
  exact ⟨rfl, rfl⟩

theorem AAnd (g q x y : Nat) (hx : x < 18446744073709551616) (hy : y < 18446744073709551616) (w : World) (hc : w.cell? ⟨g, q, none⟩ = some (.int .u64 (x : Int))) (hz : w.frozen? ⟨g, q, none⟩ = false) :
    Calls Try.prog 101 #[.pointer (some ⟨g, q, none⟩), .int .u64 (y : Int)] w fun e w' => e = .returned (.int .u64 (x : Int)) ∧ w' = w.setCell ⟨g, q, none⟩ (.int .u64 ((x &&& y : Nat) : Int)) := by
  have hl := and_word ⟨g, q, none⟩ x y hx hy w hc hz
  go_enter Try.func101, Try.ntmps101
  go_wp2
  go_ret
  exact ⟨rfl, rfl⟩

end Go.Proofs.Ytbcabjpafeocgaa

/-
  A set of numbers (layer 1) as what it holds: a contract for each of its methods. Conditions: at most 100000 numbers.
-/
namespace Go.Proofs.Ytbcabjpafeocgaa
set_option linter.unusedVariables false
set_option linter.unusedSimpArgs false
open Go.RowKit

/-- The words W hold S, of numbers below n, and no other bit. -/
def Bits (W : Nat → Nat) (n : Int) (S : Nat → Bool) : Prop := ∀ i : Nat, bitOf W i = (decide ((i : Int) < n) && S i)
theorem Bits.at_ {W : Nat → Nat} {n : Int} {S : Nat → Bool} (h : Bits W n S) {i : Nat} (hi : (i : Int) < n) : bitOf W i = S i := by
  have := h i
  rw [this]
  simp [hi]
/-- The set at block b holds S, of numbers below n. -/
def SetIs (w : World) (b : Nat) (n : Int) (S : Nat → Bool) (lo : Option Nat) : Prop :=
  ∃ W, (∀ k, W k < 18446744073709551616) ∧ Bits W n S ∧ SetAt w b n W lo
/-- The blocks that it owns. -/
def setF (b : Nat) (lo : Option Nat) : List Nat := b :: lo.toList

theorem SetAt.keep {w w' : World} {b : Nat} {n : Int} {W : Nat → Nat} {lo : Option Nat} {F : List Nat} (h : SetAt w b n W lo) (hc : Chg F w w') (hF : ∀ x ∈ setF b lo, x ∉ F) : SetAt w' b n W lo := by
  cases lo with
  | none => exact ⟨hc.blk h.1 (hF b (by simp [setF])), h.2⟩
  | some g => exact ⟨hc.blk h.1 (hF b (by simp [setF])), hc.blk h.2.1 (hF g (by simp [setF])), h.2.2⟩
theorem SetIs.keep {w w' : World} {b : Nat} {n : Int} {S : Nat → Bool} {lo : Option Nat} {F : List Nat} (h : SetIs w b n S lo) (hc : Chg F w w') (hF : ∀ x ∈ setF b lo, x ∉ F) : SetIs w' b n S lo := by
  obtain ⟨W, h1, h2, h3⟩ := h
  exact ⟨W, h1, h2, h3.keep hc hF⟩
theorem SetAt.lt {w : World} {b : Nat} {n : Int} {W : Nat → Nat} {lo : Option Nat} (h : SetAt w b n W lo) : ∀ x ∈ setF b lo, x < w.heap.size := by
  cases lo with
  | none => intro x hx; simp [setF] at hx; subst hx; exact h.1.lt
  | some g => intro x hx; simp [setF] at hx; rcases hx with rfl | rfl; exact h.1.lt; exact h.2.1.lt
theorem SetIs.lt {w : World} {b : Nat} {n : Int} {S : Nat → Bool} {lo : Option Nat} (h : SetIs w b n S lo) : ∀ x ∈ setF b lo, x < w.heap.size := by
  obtain ⟨W, h1, h2, h3⟩ := h
  exact h3.lt

/-- The blocks that a set owns behind a call, those that it owned ahead, or new ones. -/
def GrewF (w : World) (F F' : List Nat) : Prop := ∀ x ∈ F', x ∈ F ∨ w.heap.size ≤ x

theorem testBit_word (x r : Nat) : x &&& 2 ^ r = if x.testBit r then 2 ^ r else 0 := by
  apply Nat.eq_of_testBit_eq
  intro i
  rw [Nat.testBit_and, Nat.testBit_two_pow]
  by_cases h : r = i
  · subst h
    cases x.testBit r <;> simp
  · cases x.testBit r <;> simp [h, Nat.testBit_two_pow]

section
variable {w : World} {b : Nat} {n : Int} {S : Nat → Bool} {lo : Option Nat}

theorem SNew (n : Int) (hn : 0 ≤ n) (w : World) : Calls Try.prog 56 #[.int .i64 n] w fun e w' => e = .returned (.pointer (some ⟨w.heap.size, 0, none⟩)) ∧ SetIs w' w.heap.size n (fun _ => false) none ∧ Chg [] w w' := by
  go_enter Try.func56, Try.ntmps56
  go_wp2_with fail
  go_ret
  refine ⟨rfl, ⟨fun _ => 0, by simp, fun i => by simp [bitOf], ?_, rfl⟩, ?_⟩
  · exact (Blk.new _ _ _).as_ (by simp [setCells, nilRow]; try omega)
  · exact (Chg.refl _ _).alloc _

theorem SHasOut (h : SetIs w b n S lo) (i : Int) (hi : i < 0 ∨ n ≤ i) :
    Calls Try.prog 68 #[.pointer (some ⟨b, 0, none⟩), .int .i64 i] w fun e w' => e = .returned (.bool false) ∧ w = w' := by
  obtain ⟨W, h1, h2, h3⟩ := h
  go_enter Try.func68, Try.ntmps68
  go_wp2_with fail
  refine (SPlaceOut h3 i hi).mono ?_
  rintro e w' ⟨rfl, rfl⟩
  go_wp2_with fail
  go_ret
  exact ⟨rfl, rfl⟩

set_option maxHeartbeats 1000000 in
theorem SHasIn (h : SetIs w b n S lo) (hn1 : n ≤ 100000) (I : Nat) (hi : (I : Int) < n) :
    Calls Try.prog 68 #[.pointer (some ⟨b, 0, none⟩), .int .i64 (I : Int)] w fun e w' => ∃ lo', e = .returned (.bool (S I)) ∧ SetIs w' b n S lo' ∧ GrewF w (setF b lo) (setF b lo') ∧ Chg (setF b lo) w w' := by
  obtain ⟨W, h1, h2, h3⟩ := h
  have H1 := Lib.hid h1
  have H2 := Lib.hid h2
  have H3 := Lib.hid h3
  clear h1 h2 h3
  go_enter Try.func68, Try.ntmps68
  go_wp2_with fail
  refine (SPlaceIn H3.out hn1 I hi).mono ?_
  rintro e w1 ⟨g, rfl, hs, hg, hc⟩
  have HS := Lib.hid hs
  have HG := Lib.hid hg
  have HC := Lib.hid hc
  have hcell : w1.cell? ⟨g, I / 64, none⟩ = some (.int .u64 ((W (I / 64) : Nat) : Int)) := by
    rw [hs.2.1.cell, wordCells_get _ _ _ (by unfold wordsOf; omega)]
  have hb : bitOf W I = S I := H2.out.at_ hi
  unfold bitOf at hb
  have hx := H1.out (I / 64)
  generalize I / 64 = q at *
  generalize W q = x at *
  have hp : 2 ^ (I % 64) < 18446744073709551616 := Nat.pow_lt_pow_right (by decide) (by omega : I % 64 < 64)
  have hv := u64_and_nat x (2 ^ (I % 64)) hx hp
  rw [testBit_word, hb] at hv
  have hp0 : 0 < 2 ^ (I % 64) := Nat.pow_pos (by decide)
  generalize 2 ^ (I % 64) = p at *
  have hne : ((((if S I = true then p else 0 : Nat)) : Int) != 0) = S I := by
    cases S I
    · simp
    · simp; omega
  obtain ⟨B, hB⟩ : ∃ B, S I = B := ⟨_, rfl⟩
  rw [hB] at hv hne
  have HBB := Lib.hid hB
  clear hB
  generalize (if B = true then p else 0 : Nat) = v at *
  have HCELL := Lib.hid hcell
  clear hs hg hc hcell hb hx hp hp0
  go_wp2_with fail
  refine (ALoad g q x w1 HCELL.out).mono ?_
  rintro e w' ⟨rfl, rfl⟩
  go_wp2_with fail
  go_ret
  refine ⟨some g, ?_, ⟨W, H1.out, H2.out, HS.out⟩, ?_, HC.out.mono (by simp [setF])⟩
  · rw [HBB.out]; rfl
  · intro x hx
    simp [setF] at hx
    rcases hx with rfl | rfl
    · exact .inl (by simp [setF])
    · rcases HG.out with h | h
      · exact .inl (by simp [setF, h])
      · exact .inr h
end

theorem not_word (p : Nat) (hp : p < 18446744073709551616) : bits .xor .u64 IntKind.u64.max (p : Int) = ((18446744073709551615 - p : Nat) : Int) := by
  have h := u64_xor_nat 18446744073709551615 p (by decide) hp
  have e : 18446744073709551615 ^^^ p = 18446744073709551615 - p := by
    have e2 : 18446744073709551615 - p = 2 ^ 64 - (p + 1) := by
      show _ = 18446744073709551616 - _
      omega
    have e3 : 18446744073709551615 = 2 ^ 64 - 1 := rfl
    apply Nat.eq_of_testBit_eq
    intro i
    rw [e2, Nat.testBit_two_pow_sub_succ hp, e3, Nat.testBit_xor, Nat.testBit_two_pow_sub_one]
    by_cases hi : i < 64
    · simp [hi]
    · have hpi : p.testBit i = false := Nat.testBit_lt_two_pow (Nat.lt_of_lt_of_le hp (show 18446744073709551616 ≤ 2 ^ i from Nat.pow_le_pow_right (n := 2) (by decide) (by omega : 64 ≤ i)))
      simp [hi, hpi]
  rw [e] at h
  exact h

theorem or_words (W : Nat → Nat) (I : Nat) (S : Nat → Bool) (n : Int) (h1 : ∀ k, W k < 18446744073709551616) (h2 : Bits W n S) (hi : (I : Int) < n) :
    (∀ k, (fun i => if i = I / 64 then W (I / 64) ||| 2 ^ (I % 64) else W i) k < 18446744073709551616) ∧ Bits (fun i => if i = I / 64 then W (I / 64) ||| 2 ^ (I % 64) else W i) n (fun i => S i || decide (i = I)) := by
  constructor
  · intro k
    simp only
    split
    · exact Nat.or_lt_two_pow (n := 64) (h1 _) (Nat.pow_lt_pow_right (by decide) (by omega : I % 64 < 64))
    · exact h1 k
  · intro i
    have := h2 i
    unfold bitOf at this ⊢
    simp only
    split
    · rename_i e
      rw [e] at this
      rw [Nat.testBit_or, this, Nat.testBit_two_pow]
      by_cases hI : i = I
      · subst hI; simp [hi]
      · have : ¬ I % 64 = i % 64 := by omega
        simp [hI, this]
    · rename_i e
      rw [this]
      have : ¬ i = I := fun h => e (by rw [h])
      simp [this]

theorem and_words (W : Nat → Nat) (I : Nat) (S : Nat → Bool) (n : Int) (h1 : ∀ k, W k < 18446744073709551616) (h2 : Bits W n S) (hi : (I : Int) < n) :
    (∀ k, (fun i => if i = I / 64 then W (I / 64) &&& (18446744073709551615 - 2 ^ (I % 64)) else W i) k < 18446744073709551616) ∧ Bits (fun i => if i = I / 64 then W (I / 64) &&& (18446744073709551615 - 2 ^ (I % 64)) else W i) n (fun i => S i && !decide (i = I)) := by
  constructor
  · intro k
    simp only
    split
    · exact Nat.lt_of_le_of_lt Nat.and_le_left (h1 _)
    · exact h1 k
  · intro i
    have := h2 i
    unfold bitOf at this ⊢
    simp only
    split
    · rename_i e
      rw [e] at this
      have hp : 2 ^ (I % 64) < 2 ^ 64 := Nat.pow_lt_pow_right (by decide) (by omega : I % 64 < 64)
      have e2 : 18446744073709551615 - 2 ^ (I % 64) = 2 ^ 64 - (2 ^ (I % 64) + 1) := by
        show _ = 18446744073709551616 - _
        omega
      rw [Nat.testBit_and, this, e2, Nat.testBit_two_pow_sub_succ hp, Nat.testBit_two_pow]
      have h64 : i % 64 < 64 := Nat.mod_lt _ (by omega)
      by_cases hI : i = I
      · subst hI; simp
      · have : ¬ I % 64 = i % 64 := by omega
        simp [hI, this, h64]
    · rename_i e
      rw [this]
      have : ¬ i = I := fun h => e (by rw [h])
      simp [this]

section
variable {w : World} {b : Nat} {n : Int} {S : Nat → Bool} {lo : Option Nat}

theorem SPutOut (h : SetIs w b n S lo) (i : Int) (hi : i < 0 ∨ n ≤ i) :
    Calls Try.prog 59 #[.pointer (some ⟨b, 0, none⟩), .int .i64 i] w fun e w' => e = .returned (.bool false) ∧ w = w' := by
  obtain ⟨W, h1, h2, h3⟩ := h
  go_enter Try.func59, Try.ntmps59
  go_wp2_with fail
  refine (SPlaceOut h3 i hi).mono ?_
  rintro e w' ⟨rfl, rfl⟩
  go_wp2_with fail
  go_ret
  exact ⟨rfl, rfl⟩

set_option maxHeartbeats 1000000 in
theorem SPutIn (h : SetIs w b n S lo) (hn1 : n ≤ 100000) (I : Nat) (hi : (I : Int) < n) :
    Calls Try.prog 59 #[.pointer (some ⟨b, 0, none⟩), .int .i64 (I : Int)] w fun e w' => ∃ lo', e = .returned (.bool (!S I)) ∧ SetIs w' b n (fun j => S j || decide (j = I)) lo' ∧ GrewF w (setF b lo) (setF b lo') ∧ Chg (setF b lo) w w' := by
  obtain ⟨W, h1, h2, h3⟩ := h
  have H1 := Lib.hid h1
  have H2 := Lib.hid h2
  have H3 := Lib.hid h3
  clear h1 h2 h3
  go_enter Try.func59, Try.ntmps59
  go_wp2_with fail
  refine (SPlaceIn H3.out hn1 I hi).mono ?_
  rintro e w1 ⟨g, rfl, hs, hg, hc⟩
  have HS := Lib.hid hs
  have HG := Lib.hid hg
  have HC := Lib.hid hc
  have hcell : w1.cell? ⟨g, I / 64, none⟩ = some (.int .u64 ((W (I / 64) : Nat) : Int)) := by
    rw [hs.2.1.cell, wordCells_get _ _ _ (by unfold wordsOf; omega)]
  have HZ := Lib.hid (hs.2.1.frozen (I / 64))
  have hb : bitOf W I = S I := H2.out.at_ hi
  unfold bitOf at hb
  have hx := H1.out (I / 64)
  have hp : 2 ^ (I % 64) < 18446744073709551616 := Nat.pow_lt_pow_right (by decide) (by omega : I % 64 < 64)
  have hv := u64_and_nat (W (I / 64)) (2 ^ (I % 64)) hx hp
  rw [testBit_word, hb] at hv
  have hp0 : 0 < 2 ^ (I % 64) := Nat.pow_pos (by decide)
  have HW := Lib.hid (or_words W I S n H1.out H2.out hi)
  obtain ⟨q, hq⟩ : ∃ q, I / 64 = q := ⟨_, rfl⟩
  rw [hq] at hcell hv hx HZ HW ⊢
  obtain ⟨x, hxx⟩ : ∃ x, W q = x := ⟨_, rfl⟩
  rw [hxx] at hcell hv hx HW
  obtain ⟨p, hpp⟩ : ∃ p, 2 ^ (I % 64) = p := ⟨_, rfl⟩
  rw [hpp] at hp hv hp0 HW ⊢
  have hne : ((((if S I = true then p else 0 : Nat)) : Int) == 0) = !S I := by
    cases S I
    · simp
    · simp; omega
  obtain ⟨B, hB⟩ : ∃ B, S I = B := ⟨_, rfl⟩
  rw [hB] at hv hne
  have HBB := Lib.hid hB
  generalize (if B = true then p else 0 : Nat) = v at *
  have HCELL := Lib.hid hcell
  have HX := Lib.hid hx
  have HP := Lib.hid hp
  clear hs hg hc hcell hb hx hp hp0 hB hq hxx hpp
  go_wp2_with fail
  refine (AOr g q x p HX.out HP.out w1 HCELL.out HZ.out).mono ?_
  rintro e w' ⟨rfl, rfl⟩
  go_wp2_with fail
  go_ret
  refine ⟨some g, ?_, ⟨_, HW.out.1, HW.out.2, ⟨HS.out.1.far (by simpa using HS.out.2.2.symm) _, ?_, HS.out.2.2⟩⟩, ?_, ?_⟩
  · rw [HBB.out]; rfl
  · rw [← wordCells_set]
    exact HS.out.2.1.set_ q _
  · intro x hx
    simp [setF] at hx
    rcases hx with rfl | rfl
    · exact .inl (by simp [setF])
    · rcases HG.out with h | h
      · exact .inl (by simp [setF, h])
      · exact .inr h
  · refine (HC.out.mono (by simp [setF])).setCell ?_ _
    rcases HG.out with h | h
    · exact .inl (by simp [setF, h])
    · exact .inr h

theorem SDropOut (h : SetIs w b n S lo) (i : Int) (hi : i < 0 ∨ n ≤ i) :
    Calls Try.prog 91 #[.pointer (some ⟨b, 0, none⟩), .int .i64 i] w fun e w' => e = .returned (.bool false) ∧ w = w' := by
  obtain ⟨W, h1, h2, h3⟩ := h
  go_enter Try.func91, Try.ntmps91
  go_wp2_with fail
  refine (SPlaceOut h3 i hi).mono ?_
  rintro e w' ⟨rfl, rfl⟩
  go_wp2_with fail
  go_ret
  exact ⟨rfl, rfl⟩

set_option maxHeartbeats 1000000 in
theorem SDropIn (h : SetIs w b n S lo) (hn1 : n ≤ 100000) (I : Nat) (hi : (I : Int) < n) :
    Calls Try.prog 91 #[.pointer (some ⟨b, 0, none⟩), .int .i64 (I : Int)] w fun e w' => ∃ lo', e = .returned (.bool (S I)) ∧ SetIs w' b n (fun j => S j && !decide (j = I)) lo' ∧ GrewF w (setF b lo) (setF b lo') ∧ Chg (setF b lo) w w' := by
  obtain ⟨W, h1, h2, h3⟩ := h
  have H1 := Lib.hid h1
  have H2 := Lib.hid h2
  have H3 := Lib.hid h3
  clear h1 h2 h3
  go_enter Try.func91, Try.ntmps91
  go_wp2_with fail
  refine (SPlaceIn H3.out hn1 I hi).mono ?_
  rintro e w1 ⟨g, rfl, hs, hg, hc⟩
  have HS := Lib.hid hs
  have HG := Lib.hid hg
  have HC := Lib.hid hc
  have hcell : w1.cell? ⟨g, I / 64, none⟩ = some (.int .u64 ((W (I / 64) : Nat) : Int)) := by
    rw [hs.2.1.cell, wordCells_get _ _ _ (by unfold wordsOf; omega)]
  have HZ := Lib.hid (hs.2.1.frozen (I / 64))
  have hb : bitOf W I = S I := H2.out.at_ hi
  unfold bitOf at hb
  have hx := H1.out (I / 64)
  have hp : 2 ^ (I % 64) < 18446744073709551616 := Nat.pow_lt_pow_right (by decide) (by omega : I % 64 < 64)
  have hv := u64_and_nat (W (I / 64)) (2 ^ (I % 64)) hx hp
  rw [testBit_word, hb] at hv
  have hp0 : 0 < 2 ^ (I % 64) := Nat.pow_pos (by decide)
  have HW := Lib.hid (and_words W I S n H1.out H2.out hi)
  obtain ⟨q, hq⟩ : ∃ q, I / 64 = q := ⟨_, rfl⟩
  rw [hq] at hcell hv hx HZ HW ⊢
  obtain ⟨x, hxx⟩ : ∃ x, W q = x := ⟨_, rfl⟩
  rw [hxx] at hcell hv hx HW
  obtain ⟨p, hpp⟩ : ∃ p, 2 ^ (I % 64) = p := ⟨_, rfl⟩
  rw [hpp] at hp hv hp0 HW ⊢
  have hne : ((((if S I = true then p else 0 : Nat)) : Int) != 0) = S I := by
    cases S I
    · simp
    · simp; omega
  obtain ⟨B, hB⟩ : ∃ B, S I = B := ⟨_, rfl⟩
  rw [hB] at hv hne
  have HBB := Lib.hid hB
  obtain ⟨c, hcc⟩ : ∃ c : Nat, 18446744073709551615 - p = c := ⟨_, rfl⟩
  have HQ := Lib.hid (show c < 18446744073709551616 by omega)
  have hnot : bits .xor .u64 IntKind.u64.max (p : Int) = (c : Int) := by rw [← hcc]; exact not_word p hp
  rw [hcc] at HW
  clear hcc
  generalize (if B = true then p else 0 : Nat) = v at *
  have HCELL := Lib.hid hcell
  have HX := Lib.hid hx
  have HP := Lib.hid hp
  clear hs hg hc hcell hb hx hp hp0 hB hq hxx hpp
  go_wp2_with fail
  refine (AAnd g q x _ HX.out HQ.out w1 HCELL.out HZ.out).mono ?_
  rintro e w' ⟨rfl, rfl⟩
  go_wp2_with fail
  go_ret
  refine ⟨some g, ?_, ⟨_, HW.out.1, HW.out.2, ⟨HS.out.1.far (by simpa using HS.out.2.2.symm) _, ?_, HS.out.2.2⟩⟩, ?_, ?_⟩
  · rw [HBB.out]; rfl
  · rw [← wordCells_set]
    exact HS.out.2.1.set_ q _
  · intro x hx
    simp [setF] at hx
    rcases hx with rfl | rfl
    · exact .inl (by simp [setF])
    · rcases HG.out with h | h
      · exact .inl (by simp [setF, h])
      · exact .inr h
  · refine (HC.out.mono (by simp [setF])).setCell ?_ _
    rcases HG.out with h | h
    · exact .inl (by simp [setF, h])
    · exact .inr h
end
end Go.Proofs.Ytbcabjpafeocgaa

/-
  (The part of layer 2 that layers above it use.)
  Contracts of the functions of layer 2 (size). Conditions: as each contract says.
-/
namespace Go.Proofs.Ytbcabjpafeocgaa
set_option linter.unusedVariables false
set_option linter.unusedSimpArgs false
open Go.RowKit

/-- A class's words; 0: there is no such class. -/
def wordsZ (c : Int) : Int := if c = 0 then 2 else if c = 1 then 4 else if c = 2 then 8 else 0
def cellsZ (c : Int) : Int := if c = 0 then 16 else if c = 1 then 8 else if c = 2 then 4 else 0
/-- The class of so many fields. -/
def classZ (n : Int) : Int := if n ≤ 0 then 0 else if n ≤ 2 then 1 else 2

theorem class_cases (c : Int) : c < 0 ∨ c = 0 ∨ c = 1 ∨ c = 2 ∨ 3 ≤ c := by omega
theorem wordsZ_out {c : Int} (h : c < 0 ∨ 3 ≤ c) : wordsZ c = 0 := by unfold wordsZ; rw [if_neg (by omega), if_neg (by omega), if_neg (by omega)]
theorem cellsZ_out {c : Int} (h : c < 0 ∨ 3 ≤ c) : cellsZ c = 0 := by unfold cellsZ; rw [if_neg (by omega), if_neg (by omega), if_neg (by omega)]

theorem Words (c : Int) (w : World) : Calls Try.prog 73 #[.int .i64 c] w fun e w' => e = .returned (.int .i64 (wordsZ c)) ∧ w = w' := by
  rcases class_cases c with h | rfl | rfl | rfl | h
  · rw [wordsZ_out (.inl h)]
    go_enter Try.func73, Try.ntmps73
    go_wp2
    go_ret
    exact ⟨rfl, rfl⟩
  · go_enter Try.func73, Try.ntmps73
    go_wp2
    go_ret
    exact ⟨rfl, rfl⟩
  · go_enter Try.func73, Try.ntmps73
    go_wp2
    go_ret
    exact ⟨rfl, rfl⟩
  · go_enter Try.func73, Try.ntmps73
    go_wp2
    go_ret
    exact ⟨rfl, rfl⟩
  · rw [wordsZ_out (.inr h)]
    go_enter Try.func73, Try.ntmps73
    go_wp2
    go_ret
    exact ⟨rfl, rfl⟩

theorem Cells (c : Int) (w : World) : Calls Try.prog 65 #[.int .i64 c] w fun e w' => e = .returned (.int .i64 (cellsZ c)) ∧ w = w' := by
  rcases class_cases c with h | rfl | rfl | rfl | h
  · rw [cellsZ_out (.inl h)]
    go_enter Try.func65, Try.ntmps65
    go_wp2_with (go_at_call 73; refine (Words _ _).mono ?_; rintro e w' ⟨rfl, rfl⟩; rw [wordsZ_out (.inl h)])
    go_ret
    exact ⟨rfl, rfl⟩
  · go_enter Try.func65, Try.ntmps65
    go_wp2_with (go_at_call 73; refine (Words _ _).mono ?_; rintro e w' ⟨rfl, rfl⟩; rw [show wordsZ 0 = 2 from rfl])
    go_ret
    exact ⟨rfl, rfl⟩
  · go_enter Try.func65, Try.ntmps65
    go_wp2_with (go_at_call 73; refine (Words _ _).mono ?_; rintro e w' ⟨rfl, rfl⟩; rw [show wordsZ 1 = 4 from rfl])
    go_ret
    exact ⟨rfl, rfl⟩
  · go_enter Try.func65, Try.ntmps65
    go_wp2_with (go_at_call 73; refine (Words _ _).mono ?_; rintro e w' ⟨rfl, rfl⟩; rw [show wordsZ 2 = 8 from rfl])
    go_ret
    exact ⟨rfl, rfl⟩
  · rw [cellsZ_out (.inr h)]
    go_enter Try.func65, Try.ntmps65
    go_wp2_with (go_at_call 73; refine (Words _ _).mono ?_; rintro e w' ⟨rfl, rfl⟩; rw [wordsZ_out (.inr h)])
    go_ret
    exact ⟨rfl, rfl⟩

theorem words_nonneg (c : Int) : 0 ≤ wordsZ c ∧ wordsZ c ≤ 8 := by unfold wordsZ; omega
theorem cells_nonneg (c : Int) : 0 ≤ cellsZ c ∧ cellsZ c ≤ 16 := by unfold cellsZ; omega
theorem cells_words (c : Int) (h : 0 < cellsZ c) : cellsZ c * wordsZ c = 32 ∧ 0 ≤ c ∧ c ≤ 2 := by
  rcases class_cases c with h1 | rfl | rfl | rfl | h1
  · rw [cellsZ_out (.inl h1)] at h; omega
  · decide
  · decide
  · decide
  · rw [cellsZ_out (.inr h1)] at h; omega

theorem OffsetNo (c cell : Int) (w : World) (h : cell < 0 ∨ cellsZ c ≤ cell) : Calls Try.prog 92 #[.int .i64 c, .int .i64 cell] w fun e w' => e = .returned (.tuple #[.int .i64 0, .bool false]) ∧ w = w' := by
  have hc := cells_nonneg c
  by_cases h0 : cell < 0
  · go_enter Try.func92, Try.ntmps92
    go_wp2_with (go_at_call 65; refine (Cells _ _).mono ?_; rintro e w' ⟨rfl, rfl⟩)
    go_ret2
    exact ⟨rfl, rfl⟩
  · have h1 : cellsZ c ≤ cell := by omega
    clear h
    go_enter Try.func92, Try.ntmps92
    go_wp2_with (go_at_call 65; refine (Cells _ _).mono ?_; rintro e w' ⟨rfl, rfl⟩)
    go_ret2
    exact ⟨rfl, rfl⟩

theorem OffsetYes (c cell : Int) (w : World) (h0 : 0 ≤ cell) (h1 : cell < cellsZ c) : Calls Try.prog 92 #[.int .i64 c, .int .i64 cell] w fun e w' => e = .returned (.tuple #[.int .i64 (cell * wordsZ c), .bool true]) ∧ w = w' := by
  have hc := cells_nonneg c
  have hw := words_nonneg c
  have hm : 0 ≤ cell * wordsZ c := Int.mul_nonneg h0 hw.1
  have hm2 : cell * wordsZ c ≤ 16 * 8 := Int.le_trans (Int.mul_le_mul_of_nonneg_right (by omega : cell ≤ 16) hw.1) (Int.mul_le_mul_of_nonneg_left hw.2 (by omega))
  go_enter Try.func92, Try.ntmps92
  go_wp2_with (first | (go_at_call 65; refine (Cells _ _).mono ?_; rintro e w' ⟨rfl, rfl⟩) | (go_at_call 73; refine (Words _ _).mono ?_; rintro e w' ⟨rfl, rfl⟩))
  go_ret2
  exact ⟨rfl, rfl⟩

end Go.Proofs.Ytbcabjpafeocgaa

/-
  The arena (layer 3): where it lies, as plain data, and contracts of the methods that only look. Conditions: at most 64 pages.
-/
namespace Go.Proofs.Ytbcabjpafeocgaa
set_option linter.unusedVariables false
set_option linter.unusedSimpArgs false
open Go.RowKit

/-- n pages; a page's class and how many of its cells are taken; words; the taken Refs; how many pages are free. -/
structure AR where
  n : Nat
  cls : Nat → Int
  cnt : Nat → Int
  wd : Nat → Int
  tk : Nat → Bool
  free : Int
  ids : Nat × Nat × Nat

def pageCells (c k : Nat → Int) (n : Nat) : Array Value := Array.ofFn (n := n * 2) fun i => if i.val % 2 = 0 then .int .i64 (c (i.val / 2)) else .int .i64 (k (i.val / 2))
theorem pageCells_cls (c k : Nat → Int) (n p : Nat) (h : p < n) : (pageCells c k n)[p * 2]? = some (.int .i64 (c p)) := by
  have h1 : p * 2 < n * 2 := by omega
  simp [pageCells, h1]
theorem pageCells_cnt (c k : Nat → Int) (n p : Nat) (h : p < n) : (pageCells c k n)[p * 2 + 1]? = some (.int .i64 (k p)) := by
  have h1 : p * 2 + 1 < n * 2 := by omega
  have h2 : (p * 2 + 1) / 2 = p := by omega
  simp [pageCells, h1, h2]
def updN (f : Nat → Int) (p : Nat) (v : Int) : Nat → Int := fun i => if i = p then v else f i
theorem pageCells_setCls (c k : Nat → Int) (n p : Nat) (v : Int) : (pageCells c k n).setIfInBounds (p * 2) (.int .i64 v) = pageCells (updN c p v) k n := by
  apply Array.ext_getElem?
  intro i
  rw [Array.getElem?_setIfInBounds]
  by_cases hi : i < n * 2
  · have hs : i < (pageCells c k n).size := by simpa [pageCells] using hi
    by_cases h : p * 2 = i
    · subst h
      simp [hs, pageCells, hi, updN]
    · simp [h, pageCells, hi, updN]
      split
      · rename_i he
        have : ¬ i / 2 = p := by omega
        simp [this]
      · rfl
  · have h1 : ∀ c, (pageCells c k n)[i]? = none := by intro c; simp [pageCells]; omega
    rw [h1, h1]
    have : ¬ i < (pageCells c k n).size := by simpa [pageCells] using hi
    split <;> simp_all
theorem pageCells_setCnt (c k : Nat → Int) (n p : Nat) (v : Int) : (pageCells c k n).setIfInBounds (p * 2 + 1) (.int .i64 v) = pageCells c (updN k p v) n := by
  apply Array.ext_getElem?
  intro i
  rw [Array.getElem?_setIfInBounds]
  by_cases hi : i < n * 2
  · have hs : i < (pageCells c k n).size := by simpa [pageCells] using hi
    by_cases h : p * 2 + 1 = i
    · subst h
      have h2 : (p * 2 + 1) / 2 = p := by omega
      simp [hs, pageCells, hi, updN, h2]
    · simp [h, pageCells, hi, updN]
      split
      · rfl
      · rename_i he
        have : ¬ i / 2 = p := by omega
        simp [this]
  · have h1 : ∀ k, (pageCells c k n)[i]? = none := by intro k; simp [pageCells]; omega
    rw [h1, h1]
    have : ¬ i < (pageCells c k n).size := by simpa [pageCells] using hi
    split <;> simp_all

def intCells (f : Nat → Int) (n : Nat) : Array Value := Array.ofFn (n := n) fun i => .int .i64 (f i.val)
theorem intCells_get (f : Nat → Int) (n k : Nat) (h : k < n) : (intCells f n)[k]? = some (.int .i64 (f k)) := by simp [intCells, h]

def AR.size (A : AR) : Int := ((A.n * 32 + 1 : Nat) : Int)
def arenaCells (A : AR) (pb wb sb : Nat) : Array Value := #[rowAt pb A.n, rowAt wb (A.n * 32), .pointer (some ⟨sb, 0, none⟩), .int .i64 A.free]

structure AParts (w : World) (a : Nat) (A : AR) (pb wb sb : Nat) (lo : Option Nat) : Prop where
  top : Blk w a 92 (arenaCells A pb wb sb)
  pages : Blk w pb 94 (pageCells A.cls A.cnt A.n)
  words : Blk w wb 3 (intCells A.wd (A.n * 32))
  set_ : SetIs w sb A.size A.tk lo
  ap : a ≠ pb
  aw : a ≠ wb
  pw : pb ≠ wb
  sa : a ∉ setF sb lo
  sp : pb ∉ setF sb lo
  sw : wb ∉ setF sb lo
  few : A.n ≤ 64
  ids : A.ids = (pb, wb, sb)

/-- The arena at block a; F: the blocks that it owns. -/
def ArenaAt (w : World) (a : Nat) (A : AR) (F : List Nat) : Prop := ∃ pb wb sb lo, F = a :: pb :: wb :: setF sb lo ∧ AParts w a A pb wb sb lo

theorem AParts.keep {w w' : World} {a : Nat} {A : AR} {pb wb sb : Nat} {lo : Option Nat} {F : List Nat} (h : AParts w a A pb wb sb lo) (hc : Chg F w w') (hF : ∀ x ∈ a :: pb :: wb :: setF sb lo, x ∉ F) : AParts w' a A pb wb sb lo :=
  ⟨hc.blk h.top (hF a (by simp)), hc.blk h.pages (hF pb (by simp)), hc.blk h.words (hF wb (by simp)), h.set_.keep hc (fun x hx => hF x (by simp [hx])), h.ap, h.aw, h.pw, h.sa, h.sp, h.sw, h.few, h.ids⟩
theorem ArenaAt.keep {w w' : World} {a : Nat} {A : AR} {F G : List Nat} (h : ArenaAt w a A F) (hc : Chg G w w') (hF : ∀ x ∈ F, x ∉ G) : ArenaAt w' a A F := by
  obtain ⟨pb, wb, sb, lo, rfl, hp⟩ := h
  exact ⟨pb, wb, sb, lo, rfl, hp.keep hc hF⟩
theorem ArenaAt.lt {w : World} {a : Nat} {A : AR} {F : List Nat} (h : ArenaAt w a A F) : ∀ x ∈ F, x < w.heap.size := by
  obtain ⟨pb, wb, sb, lo, rfl, hp⟩ := h
  intro x hx
  simp at hx
  rcases hx with rfl | rfl | rfl | hx
  · exact hp.top.lt
  · exact hp.pages.lt
  · exact hp.words.lt
  · exact hp.set_.lt x hx
theorem GrewF.refl (w : World) (F : List Nat) : GrewF w F F := fun _ h => .inl h
theorem GrewF.trans {w w' : World} {F F' F'' : List Nat} (h : GrewF w F F') (h' : GrewF w' F' F'') (hs : w.heap.size ≤ w'.heap.size) : GrewF w F F'' := fun x hx => by
  rcases h' x hx with h1 | h1
  · exact h x h1
  · exact .inr (by omega)

/-- A call of the arena's set. -/
theorem AParts.set {w w' : World} {a : Nat} {A : AR} {pb wb sb : Nat} {lo lo' : Option Nat} {S : Nat → Bool} (h : AParts w a A pb wb sb lo) (hs : SetIs w' sb A.size S lo') (hg : GrewF w (setF sb lo) (setF sb lo')) (hc : Chg (setF sb lo) w w') :
    AParts w' a { A with tk := S } pb wb sb lo' := by
  have fresh : ∀ x, x < w.heap.size → x ∉ setF sb lo → x ∉ setF sb lo' := fun x hx hn hm => by
    rcases hg x hm with h1 | h1
    · exact hn h1
    · omega
  exact ⟨hc.blk h.top h.sa, hc.blk h.pages h.sp, hc.blk h.words h.sw, hs, h.ap, h.aw, h.pw, fresh a h.top.lt h.sa, fresh pb h.pages.lt h.sp, fresh wb h.words.lt h.sw, h.few, h.ids⟩

section
variable {w : World} {a : Nat} {A : AR} {F : List Nat}

def AR.has (A : AR) (r : Int) : Bool := decide (0 ≤ r) && decide (r < A.size) && A.tk r.toNat

/-- What the arena owns behind a call of its set. -/
theorem grew_arena {pb wb sb : Nat} {lo lo' : Option Nat} (hg : GrewF w (setF sb lo) (setF sb lo')) : GrewF w (a :: pb :: wb :: setF sb lo) (a :: pb :: wb :: setF sb lo') := by
  intro x hx
  simp at hx
  rcases hx with rfl | rfl | rfl | hx
  · simp
  · simp
  · simp
  · rcases hg x hx with h1 | h1
    · simp [h1]
    · exact .inr h1

theorem AHasP {pb wb sb : Nat} {lo : Option Nat} (hp : AParts w a A pb wb sb lo) (r : Int) : Calls Try.prog 39 #[.pointer (some ⟨a, 0, none⟩), .int .i64 r] w fun e w' => ∃ lo', e = .returned (.bool (A.has r)) ∧ AParts w' a A pb wb sb lo' ∧ GrewF w (setF sb lo) (setF sb lo') ∧ Chg (setF sb lo) w w' := by
  have HP := Lib.hid hp
  have c2 := hp.top.cell 2
  simp [arenaCells] at c2
  clear hp
  go_enter Try.func39, Try.ntmps39
  go_wp2_with fail
  by_cases hin : 0 ≤ r ∧ r < A.size
  · obtain ⟨I, rfl⟩ := Int.eq_ofNat_of_zero_le hin.1
    refine (SHasIn HP.out.set_ (by have := HP.out.few; unfold AR.size; omega) I hin.2).mono ?_
    rintro e w' ⟨lo', rfl, hs, hg, hc⟩
    have HF := Lib.hid (HP.out.set hs hg hc)
    have HG := Lib.hid hg
    have HC := Lib.hid hc
    have HIN := Lib.hid hin
    clear hs hg hc hin
    go_wp2_with fail
    go_ret
    refine ⟨_, ?_, HF.out, HG.out, HC.out⟩
    have h1 := HIN.out.1
    have h2 := HIN.out.2
    unfold AR.has
    simp [h1, h2]
  · refine (SHasOut HP.out.set_ r (by omega)).mono ?_
    rintro e w' ⟨rfl, rfl⟩
    have HIN := Lib.hid hin
    clear hin
    go_wp2_with fail
    go_ret
    refine ⟨_, ?_, HP.out, GrewF.refl _ _, Chg.refl _ _⟩
    have h1 := HIN.out
    unfold AR.has
    simp
    intro h2 h3
    exact absurd ⟨h2, h3⟩ h1

theorem AHas (h : ArenaAt w a A F) (r : Int) : Calls Try.prog 39 #[.pointer (some ⟨a, 0, none⟩), .int .i64 r] w fun e w' => ∃ F', e = .returned (.bool (A.has r)) ∧ ArenaAt w' a A F' ∧ GrewF w F F' ∧ Chg F w w' := by
  obtain ⟨pb, wb, sb, lo, rfl, hp⟩ := h
  refine (AHasP hp r).mono ?_
  rintro e w' ⟨lo', rfl, hp', hg, hc⟩
  exact ⟨_, rfl, ⟨pb, wb, sb, lo', rfl, hp'⟩, grew_arena hg, hc.mono (by intro x hx; simp [hx])⟩

end
end Go.Proofs.Ytbcabjpafeocgaa

/-
  The arena (layer 3): contracts of the methods that only look. Conditions: at most 64 pages.
-/
namespace Go.Proofs.Ytbcabjpafeocgaa
set_option linter.unusedVariables false
set_option linter.unusedSimpArgs false
open Go.RowKit

def AR.clsZ (A : AR) (p : Int) : Int := if 0 ≤ p ∧ p < (A.n : Int) then A.cls p.toNat else -1
def AR.page (A : AR) (r : Int) : Int := if 1 ≤ r ∧ r < A.size then (r - 1) / 32 else -1
def refZ (p c cell : Int) : Int := p * 32 + cell * wordsZ c + 1

section
variable {w : World} {a : Nat} {A : AR} {F : List Nat}

theorem APages (h : ArenaAt w a A F) : Calls Try.prog 25 #[.pointer (some ⟨a, 0, none⟩)] w fun e w' => e = .returned (.int .i64 (A.n : Int)) ∧ w = w' := by
  obtain ⟨pb, wb, sb, lo, rfl, hp⟩ := h
  have c0 := hp.top.cell 0
  simp [arenaCells, rowAt] at c0
  clear hp
  go_enter Try.func25, Try.ntmps25
  go_wp2_with fail
  go_ret
  exact ⟨rfl, rfl⟩

theorem AFree (h : ArenaAt w a A F) : Calls Try.prog 24 #[.pointer (some ⟨a, 0, none⟩)] w fun e w' => e = .returned (.int .i64 A.free) ∧ w = w' := by
  obtain ⟨pb, wb, sb, lo, rfl, hp⟩ := h
  have c0 := hp.top.cell 3
  simp [arenaCells] at c0
  clear hp
  go_enter Try.func24, Try.ntmps24
  go_wp2_with fail
  go_ret
  exact ⟨rfl, rfl⟩

theorem ASize (h : ArenaAt w a A F) : Calls Try.prog 57 #[.pointer (some ⟨a, 0, none⟩)] w fun e w' => e = .returned (.int .i64 A.size) ∧ w = w' := by
  obtain ⟨pb, wb, sb, lo, rfl, hp⟩ := h
  have c0 := hp.top.cell 0
  have hf := hp.few
  simp [arenaCells, rowAt] at c0
  have hs : A.size = (A.n : Int) * 32 + 1 := by unfold AR.size; omega
  rw [hs]
  clear hp hs
  generalize A.n = n at *
  have h1 : IntKind.i64.wrap ((n : Int) * 32) = (n : Int) * 32 := by rw [IntKind.wrap_i64]; omega
  have h2 : IntKind.i64.wrap ((n : Int) * 32 + 1) = (n : Int) * 32 + 1 := by rw [IntKind.wrap_i64]; omega
  go_enter Try.func57, Try.ntmps57
  go_wp2_with fail
  go_ret
  exact ⟨rfl, rfl⟩

theorem AClass (h : ArenaAt w a A F) (p : Int) : Calls Try.prog 21 #[.pointer (some ⟨a, 0, none⟩), .int .i64 p] w fun e w' => e = .returned (.int .i64 (A.clsZ p)) ∧ w = w' := by
  obtain ⟨pb, wb, sb, lo, rfl, hp⟩ := h
  have c0 := hp.top.cell 0
  simp [arenaCells, rowAt] at c0
  by_cases h0 : p < 0
  · have e : A.clsZ p = -1 := by unfold AR.clsZ; rw [if_neg (by omega)]
    rw [e]
    clear hp e
    go_enter Try.func21, Try.ntmps21
    go_wp2_with fail
    go_ret
    exact ⟨rfl, rfl⟩
  · by_cases h1 : (A.n : Int) ≤ p
    · have e : A.clsZ p = -1 := by unfold AR.clsZ; rw [if_neg (by omega)]
      rw [e]
      clear hp e
      go_enter Try.func21, Try.ntmps21
      go_wp2_with fail
      go_ret
      exact ⟨rfl, rfl⟩
    · obtain ⟨k, rfl⟩ := Int.eq_ofNat_of_zero_le (by omega : 0 ≤ p)
      have hk : k < A.n := by omega
      have e : A.clsZ (k : Int) = A.cls k := by unfold AR.clsZ; rw [if_pos (by omega)]; simp
      rw [e]
      have c1 := hp.pages.cell (k * 2)
      rw [pageCells_cls _ _ _ _ hk] at c1
      clear hp e
      go_enter Try.func21, Try.ntmps21
      go_wp2_with fail
      go_ret
      exact ⟨rfl, rfl⟩

theorem APage (h : ArenaAt w a A F) (r : Int) (hr : r ≤ 9223372036854775807) : Calls Try.prog 17 #[.pointer (some ⟨a, 0, none⟩), .int .i64 r] w fun e w' => e = .returned (.int .i64 (A.page r)) ∧ w = w' := by
  have H := Lib.hid h
  clear h
  unfold AR.page
  by_cases h0 : r < 1
  · rw [if_neg (by omega)]
    go_enter Try.func17, Try.ntmps17
    go_wp2_with fail
    go_ret
    exact ⟨rfl, rfl⟩
  · by_cases h1 : A.size ≤ r
    · rw [if_neg (by omega)]
      go_enter Try.func17, Try.ntmps17
      go_wp2_with (go_at_call 57; refine (ASize H.out).mono ?_; rintro e w' ⟨rfl, rfl⟩)
      go_ret
      exact ⟨rfl, rfl⟩
    · rw [if_pos (by omega)]
      have h2 : IntKind.i64.wrap (r - 1) = r - 1 := by rw [IntKind.wrap_i64]; omega
      have h3 : 0 ≤ r - 1 := by omega
      go_enter Try.func17, Try.ntmps17
      go_wp2_with (go_at_call 57; refine (ASize H.out).mono ?_; rintro e w' ⟨rfl, rfl⟩)
      go_ret
      exact ⟨rfl, rfl⟩

theorem ARef (p c cell : Int) (hp0 : 0 ≤ p) (hp1 : p ≤ 1000000) (h0 : 0 ≤ cell) (h1 : cell < cellsZ c) (w : World) : Calls Try.prog 66 #[.int .i64 p, .int .i64 c, .int .i64 cell] w fun e w' => e = .returned (.int .i64 (refZ p c cell)) ∧ w = w' := by
  obtain ⟨x, hx⟩ : ∃ x, cell * wordsZ c = x := ⟨_, rfl⟩
  have hb : 0 ≤ x ∧ x ≤ 32 := by
    have hw := words_nonneg c
    obtain ⟨hcw, _⟩ := cells_words c (by omega)
    constructor
    · rw [← hx]; exact Int.mul_nonneg h0 hw.1
    · rw [← hx, ← hcw]; exact Int.mul_le_mul_of_nonneg_right (by omega) hw.1
  have h2 : IntKind.i64.wrap (p * 32) = p * 32 := by rw [IntKind.wrap_i64]; omega
  have h3 : IntKind.i64.wrap (p * 32 + x) = p * 32 + x := by rw [IntKind.wrap_i64]; omega
  have h4 : IntKind.i64.wrap (p * 32 + x + 1) = p * 32 + x + 1 := by rw [IntKind.wrap_i64]; omega
  have HX := Lib.hid hx
  have H0 := Lib.hid h0
  have H1 := Lib.hid h1
  clear hx h0 h1 hb
  go_enter Try.func66, Try.ntmps66
  go_wp2_with (go_at_call 92; refine (OffsetYes c cell _ H0.out H1.out).mono ?_; rw [HX.out]; rintro e w' ⟨rfl, rfl⟩)
  go_ret
  exact ⟨by unfold refZ; rw [HX.out]; rfl, rfl⟩

end
end Go.Proofs.Ytbcabjpafeocgaa

/-
  The arena's search for a free cell (layer 3). Conditions: as each theorem says.
-/
namespace Go.Proofs.Ytbcabjpafeocgaa
set_option linter.unusedVariables false
set_option linter.unusedSimpArgs false
open Go.RowKit

/-- The page has no free cell of the class. -/
def AR.full (A : AR) (c : Int) (p : Nat) : Prop := A.cls p ≠ c ∨ A.cls p = c ∧ A.cnt p = cellsZ c ∨ A.cls p = c ∧ A.cnt p ≠ cellsZ c ∧ ∀ k : Int, 0 ≤ k → k < cellsZ c → A.has (refZ p c k) = true
/-- The least free cell of a page of the class. -/
structure IsGap (A : AR) (c : Int) (p : Nat) (k : Int) : Prop where
  inside : p < A.n
  cls : A.cls p = c
  cnt : A.cnt p ≠ cellsZ c
  k0 : 0 ≤ k
  k1 : k < cellsZ c
  free : A.has (refZ p c k) = false
  below : ∀ j : Int, 0 ≤ j → j < k → A.has (refZ p c j) = true
  ahead : ∀ q, q < p → A.full c q

section
variable {w : World} {a : Nat} {A : AR} {F : List Nat}

theorem ArenaAt.alloc {o : Go.Obj} (h : ArenaAt w a A F) : ArenaAt (w.alloc o) a A F := h.keep ((Chg.refl [] w).alloc o) (by simp)

/-- What a page's two cells hold. -/
theorem AParts.page {pb wb sb : Nat} {lo : Option Nat} (h : AParts w a A pb wb sb lo) {p : Nat} (hp : p < A.n) : w.cell? ⟨pb, p * 2, none⟩ = some (.int .i64 (A.cls p)) ∧ w.cell? ⟨pb, p * 2 + 1, none⟩ = some (.int .i64 (A.cnt p)) :=
  ⟨by rw [h.pages.cell, pageCells_cls _ _ _ _ hp], by rw [h.pages.cell, pageCells_cnt _ _ _ _ hp]⟩

set_option maxHeartbeats 4000000 in
theorem AGapYes (h : ArenaAt w a A F) (c : Int) (p : Nat) (k : Int) (hg : IsGap A c p k) : Calls Try.prog 72 #[.pointer (some ⟨a, 0, none⟩), .int .i64 c] w fun e w' => ∃ F', e = .returned (.tuple #[.int .i64 (p : Int), .int .i64 k, .bool true]) ∧ ArenaAt w' a A F' ∧ GrewF w F F' ∧ Chg F w w' := by
  obtain ⟨pb, wb, sb, lo, rfl, hp⟩ := h
  have HG := Lib.hid hg
  have HP := Lib.hid hp
  have hn : p < A.n := hg.inside
  have hfew : A.n ≤ 64 := hp.few
  have c0 := hp.top.cell 0
  simp [arenaCells, rowAt] at c0
  clear hg hp
  go_enter Try.func72, Try.ntmps72
  go_wp2_with fail
  go_step3
  go_wp2
  go_step3
  go_wp2
  clear c0
  go_loopw [15] (fun i wr => ∃ (q : Nat) (lo' : Option Nat), q ≤ p ∧ i = .int .i64 q ∧ AParts wr a A pb wb sb lo' ∧ GrewF w (a :: pb :: wb :: setF sb lo) (a :: pb :: wb :: setF sb lo') ∧ Chg (a :: pb :: wb :: setF sb lo) w wr) (fun i _ => p + 1 - (intOf i).toNat)
  case atStart => exact ⟨0, lo, by omega, rfl, HP.out, GrewF.refl _ _, Chg.refl _ _⟩
  case round =>
    obtain ⟨q, lo', hq, rfl, hp, hgr, hch⟩ := hrel
    clear HP
    have hqn : q < A.n := by omega
    obtain ⟨p0, p1⟩ := hp.page hqn
    have HP := Lib.hid (hp.keep ((Chg.refl [] wr).alloc (.cells #[.int .i64 (A.cls q), .int .i64 (A.cnt q)] 94)) (by simp))
    have HGR := Lib.hid hgr
    have HCH := Lib.hid (hch.alloc (.cells #[.int .i64 (A.cls q), .int .i64 (A.cnt q)] 94))
    clear hp hgr hch
    have hb0 : (0 : Int) ≤ (q : Int) := by omega
    by_cases hc1 : A.cls q = c
    · by_cases hc2 : A.cnt q = cellsZ c
      · have hqp : q < p := by
          rcases Nat.lt_or_ge q p with h | h
          · exact h
          · obtain rfl : q = p := by omega
            exact absurd hc2 HG.out.cnt
        have HQP := Lib.hid hqp
        clear hqp
        rw [hc1] at p0 HP HCH
        rw [hc2] at p1 HP HCH
        go_wp2_with fail
        go_quiet ((go_at_call 65; refine (Cells _ _).mono ?_; rintro e w' ⟨rfl, rfl⟩; exact ⟨rfl, _, rfl⟩))
        go_wp2_with fail
        go_roundw
        case rel => exact ⟨q + 1, lo', HQP.out, by go_num, HP.out.keep ((Chg.refl [] _).drewN _) (by simp), HGR.out, HCH.out.drewN _⟩
        case measure => have := HQP.out; simp [intOf]; omega
      · rw [hc1] at p0 HP HCH
        have hb : (A.cnt q == cellsZ c) = false := by simpa using hc2
        have HALL : Hid (∀ j : Int, 0 ≤ j → j < cellsZ c → (q < p ∨ j < k) → A.has (refZ q c j) = true) := Lib.hid (by
          intro j h0 h1 h2
          rcases Nat.lt_or_ge q p with h | h
          · rcases HG.out.ahead q h with h3 | ⟨_, h3⟩ | ⟨_, _, h3⟩
            · exact absurd hc1 h3
            · exact absurd h3 hc2
            · exact h3 j h0 h1
          · obtain rfl : q = p := by omega
            exact HG.out.below j h0 (by omega))
        have hcn := cells_nonneg c
        have HC1 := Lib.hid hc1
        have HC2 := Lib.hid hc2
        clear hc1 hc2
        go_wp2_with fail
        go_quiet ((go_at_call 65; refine (Cells _ _).mono ?_; rintro e w' ⟨rfl, rfl⟩; exact ⟨rfl, _, rfl⟩))
        go_wp2_with (go_at_call 65; refine (Cells _ _).mono ?_; rintro e w' ⟨rfl, rfl⟩)
        have HP0 := Lib.hid (HP.out.keep ((Chg.refl [] _).drewN nq) (by simp))
        have HCH0 := Lib.hid (HCH.out.drewN nq)
        clear HP HCH hb p0 p1
        go_loopw [33] (fun i wx => ∃ (j : Int) (lo'' : Option Nat), 0 ≤ j ∧ j ≤ cellsZ c ∧ (q < p ∨ j ≤ k) ∧ i = .int .i64 j ∧ AParts wx a A pb wb sb lo'' ∧ GrewF w (a :: pb :: wb :: setF sb lo) (a :: pb :: wb :: setF sb lo'') ∧ Chg (a :: pb :: wb :: setF sb lo) w wx) (fun i _ => (cellsZ c - intOf i).toNat)
        case atStart => exact ⟨0, lo', by omega, by omega, .inr HG.out.k0, rfl, HP0.out, HGR.out, HCH0.out⟩
        case round =>
          obtain ⟨j, lo'', hj0, hj1, hjk, rfl, hp, hgr, hch⟩ := hrel
          clear HP0 HCH0 HGR
          have HP := Lib.hid hp
          have HGR := Lib.hid hgr
          have HCH := Lib.hid hch
          clear hp hgr hch
          by_cases hlt : j < cellsZ c
          · have hqm : (q : Int) ≤ 1000000 := by have := HP.out.few; omega
            generalize hB : A.has (refZ q c j) = B
            have HB := Lib.hid hB
            clear hB
            have HJK := Lib.hid hjk
            clear hjk
            cases B
            · go_wp2_with (first
                | (go_at_call 66; refine (ARef q c j hb0 hqm hj0 hlt _).mono ?_; rintro e w' ⟨rfl, rfl⟩)
                | (go_at_call 39; refine (AHasP HP.out _).mono ?_; rw [HB.out]; rintro e w' ⟨lo3, rfl, hp3, hg3, hc3⟩; have HP3 := Lib.hid hp3; have HG3 := Lib.hid hg3; have HC3 := Lib.hid hc3; clear hp3 hg3 hc3))
              rw [Exit.noGoto_ret]
              go_ret3
              have hbad : ¬ (q < p ∨ j < k) := fun h => by
                have := HALL.out j hj0 hlt h
                rw [HB.out] at this
                cases this
              obtain rfl : q = p := by omega
              obtain rfl : j = k := by rcases HJK.out with h | h <;> omega
              exact ⟨_, rfl, ⟨pb, wb, sb, lo3, rfl, HP3.out⟩, HGR.out.trans (grew_arena HG3.out) HCH.out.size, HCH.out.trans HC3.out (by intro x hx; exact HGR.out x (by simp [hx]))⟩
            · go_wp2_with (first
                | (go_at_call 66; refine (ARef q c j hb0 hqm hj0 hlt _).mono ?_; rintro e w' ⟨rfl, rfl⟩)
                | (go_at_call 39; refine (AHasP HP.out _).mono ?_; rw [HB.out]; rintro e w' ⟨lo3, rfl, hp3, hg3, hc3⟩; have HP3 := Lib.hid hp3; have HG3 := Lib.hid hg3; have HC3 := Lib.hid hc3; clear hp3 hg3 hc3))
              go_roundw
              case rel => exact ⟨j + 1, lo3, by omega, by omega, (by
                rcases HJK.out with h | h
                · exact .inl h
                · by_cases hjk : j = k
                  · by_cases hqp : q < p
                    · exact .inl hqp
                    · obtain rfl : q = p := by omega
                      have := HG.out.free
                      rw [← hjk, HB.out] at this
                      cases this
                  · exact .inr (by omega)), by go_num, HP3.out, HGR.out.trans (grew_arena HG3.out) HCH.out.size, HCH.out.trans HC3.out (by intro x hx; exact HGR.out x (by simp [hx]))⟩
              case measure => simp [intOf]; omega
          · have hjc : j = cellsZ c := by omega
            have HQP : Hid (q < p) := Lib.hid (by
              rcases hjk with h | h
              · exact h
              · have := HG.out.k1; omega)
            subst hjc
            clear hjk
            go_wp2_with fail
            go_roundw
            case rel => exact ⟨q + 1, lo'', HQP.out, by go_num, HP.out, HGR.out, HCH.out⟩
            case measure => have := HQP.out; simp [intOf]; omega
    · have hqp : q < p := by
        rcases Nat.lt_or_ge q p with h | h
        · exact h
        · obtain rfl : q = p := by omega
          exact absurd HG.out.cls hc1
      have HQP := Lib.hid hqp
      clear hqp
      have hne : (A.cls q != c) = true := by simpa using hc1
      go_wp2_with fail
      go_quiet ((go_at_call 65; refine (Cells _ _).mono ?_; rintro e w' ⟨rfl, rfl⟩; exact ⟨rfl, _, rfl⟩))
      go_wp2_with fail
      go_roundw
      case rel => exact ⟨q + 1, lo', HQP.out, by go_num, HP.out.keep ((Chg.refl [] _).drewN _) (by simp), HGR.out, HCH.out.drewN _⟩
      case measure => have := HQP.out; simp [intOf]; omega

set_option maxHeartbeats 4000000 in
theorem AGapNo (h : ArenaAt w a A F) (c : Int) (hg : ∀ q, q < A.n → A.full c q) : Calls Try.prog 72 #[.pointer (some ⟨a, 0, none⟩), .int .i64 c] w fun e w' => ∃ F', e = .returned (.tuple #[.int .i64 0, .int .i64 0, .bool false]) ∧ ArenaAt w' a A F' ∧ GrewF w F F' ∧ Chg F w w' := by
  obtain ⟨pb, wb, sb, lo, rfl, hp⟩ := h
  have HG := Lib.hid hg
  have HP := Lib.hid hp
  have hfew : A.n ≤ 64 := hp.few
  have c0 := hp.top.cell 0
  simp [arenaCells, rowAt] at c0
  clear hg hp
  go_enter Try.func72, Try.ntmps72
  go_wp2_with fail
  go_step3
  go_wp2
  go_step3
  go_wp2
  clear c0
  go_loopw [15] (fun i wr => ∃ (q : Nat) (lo' : Option Nat), q ≤ A.n ∧ i = .int .i64 q ∧ AParts wr a A pb wb sb lo' ∧ GrewF w (a :: pb :: wb :: setF sb lo) (a :: pb :: wb :: setF sb lo') ∧ Chg (a :: pb :: wb :: setF sb lo) w wr) (fun i _ => A.n + 1 - (intOf i).toNat)
  case atStart => exact ⟨0, lo, by omega, rfl, HP.out, GrewF.refl _ _, Chg.refl _ _⟩
  case round =>
    obtain ⟨q, lo', hq, rfl, hp, hgr, hch⟩ := hrel
    clear HP
    by_cases hqn : q < A.n
    · have HQN := Lib.hid hqn
      obtain ⟨p0, p1⟩ := hp.page hqn
      have HP := Lib.hid (hp.keep ((Chg.refl [] wr).alloc (.cells #[.int .i64 (A.cls q), .int .i64 (A.cnt q)] 94)) (by simp))
      have HGR := Lib.hid hgr
      have HCH := Lib.hid (hch.alloc (.cells #[.int .i64 (A.cls q), .int .i64 (A.cnt q)] 94))
      clear hp hgr hch
      have hb0 : (0 : Int) ≤ (q : Int) := by omega
      by_cases hc1 : A.cls q = c
      · by_cases hc2 : A.cnt q = cellsZ c
        · rw [hc1] at p0 HP HCH
          rw [hc2] at p1 HP HCH
          go_wp2_with fail
          go_quiet ((go_at_call 65; refine (Cells _ _).mono ?_; rintro e w' ⟨rfl, rfl⟩; exact ⟨rfl, _, rfl⟩))
          go_wp2_with fail
          go_roundw
          case rel => exact ⟨q + 1, lo', HQN.out, by go_num, HP.out.keep ((Chg.refl [] _).drewN _) (by simp), HGR.out, HCH.out.drewN _⟩
          case measure => have := HQN.out; simp [intOf]; omega
        · rw [hc1] at p0 HP HCH
          have hb : (A.cnt q == cellsZ c) = false := by simpa using hc2
          have HALL : Hid (∀ j : Int, 0 ≤ j → j < cellsZ c → A.has (refZ q c j) = true) := Lib.hid (by
            intro j h0 h1
            rcases HG.out q hqn with h3 | ⟨_, h3⟩ | ⟨_, _, h3⟩
            · exact absurd hc1 h3
            · exact absurd h3 hc2
            · exact h3 j h0 h1)
          have hcn := cells_nonneg c
          clear hc1 hc2
          go_wp2_with fail
          go_quiet ((go_at_call 65; refine (Cells _ _).mono ?_; rintro e w' ⟨rfl, rfl⟩; exact ⟨rfl, _, rfl⟩))
          go_wp2_with (go_at_call 65; refine (Cells _ _).mono ?_; rintro e w' ⟨rfl, rfl⟩)
          have HP0 := Lib.hid (HP.out.keep ((Chg.refl [] _).drewN nq) (by simp))
          have HCH0 := Lib.hid (HCH.out.drewN nq)
          clear HP HCH hb p0 p1
          go_loopw [33] (fun i wx => ∃ (j : Int) (lo'' : Option Nat), 0 ≤ j ∧ j ≤ cellsZ c ∧ i = .int .i64 j ∧ AParts wx a A pb wb sb lo'' ∧ GrewF w (a :: pb :: wb :: setF sb lo) (a :: pb :: wb :: setF sb lo'') ∧ Chg (a :: pb :: wb :: setF sb lo) w wx) (fun i _ => (cellsZ c - intOf i).toNat)
          case atStart => exact ⟨0, lo', by omega, by omega, rfl, HP0.out, HGR.out, HCH0.out⟩
          case round =>
            obtain ⟨j, lo'', hj0, hj1, rfl, hp, hgr, hch⟩ := hrel
            clear HP0 HCH0 HGR
            have HP := Lib.hid hp
            have HGR := Lib.hid hgr
            have HCH := Lib.hid hch
            clear hp hgr hch
            by_cases hlt : j < cellsZ c
            · have hqm : (q : Int) ≤ 1000000 := by omega
              have HB := Lib.hid (HALL.out j hj0 hlt)
              go_wp2_with (first
                | (go_at_call 66; refine (ARef q c j hb0 hqm hj0 hlt _).mono ?_; rintro e w' ⟨rfl, rfl⟩)
                | (go_at_call 39; refine (AHasP HP.out _).mono ?_; rw [HB.out]; rintro e w' ⟨lo3, rfl, hp3, hg3, hc3⟩; have HP3 := Lib.hid hp3; have HG3 := Lib.hid hg3; have HC3 := Lib.hid hc3; clear hp3 hg3 hc3))
              go_roundw
              case rel => exact ⟨j + 1, lo3, by omega, by omega, by go_num, HP3.out, HGR.out.trans (grew_arena HG3.out) HCH.out.size, HCH.out.trans HC3.out (by intro x hx; exact HGR.out x (by simp [hx]))⟩
              case measure => simp [intOf]; omega
            · have hjc : j = cellsZ c := by omega
              subst hjc
              go_wp2_with fail
              go_roundw
              case rel => exact ⟨q + 1, lo'', HQN.out, by go_num, HP.out, HGR.out, HCH.out⟩
              case measure => have := HQN.out; simp [intOf]; omega
      · have hne : (A.cls q != c) = true := by simpa using hc1
        go_wp2_with fail
        go_quiet ((go_at_call 65; refine (Cells _ _).mono ?_; rintro e w' ⟨rfl, rfl⟩; exact ⟨rfl, _, rfl⟩))
        go_wp2_with fail
        go_roundw
        case rel => exact ⟨q + 1, lo', HQN.out, by go_num, HP.out.keep ((Chg.refl [] _).drewN _) (by simp), HGR.out, HCH.out.drewN _⟩
        case measure => have := HQN.out; simp [intOf]; omega
    · obtain rfl : q = A.n := by omega
      have HP := Lib.hid hp
      have HGR := Lib.hid hgr
      have HCH := Lib.hid hch
      clear hp hgr hch
      go_wp2_with fail
      rw [Exit.noGoto_ret]
      go_ret3
      exact ⟨_, rfl, ⟨pb, wb, sb, lo', rfl, HP.out⟩, HGR.out, HCH.out⟩

end
end Go.Proofs.Ytbcabjpafeocgaa

/-
  The arena: is there room (layer 3). Conditions: as each theorem says.
-/
namespace Go.Proofs.Ytbcabjpafeocgaa
set_option linter.unusedVariables false
set_option linter.unusedSimpArgs false
open Go.RowKit

def AR.allFull (A : AR) (c : Int) : Prop := ∀ q, q < A.n → A.full c q
theorem gap_or_full (A : AR) (c : Int) : (∃ p k, IsGap A c p k) ∨ A.allFull c := by
  by_cases hg : ∃ p k, IsGap A c p k
  · exact .inl hg
  · refine .inr ?_
    intro q
    induction q using Nat.strongRecOn with
    | ind q ih =>
      intro hq
      by_cases h1 : A.cls q = c
      · by_cases h2 : A.cnt q = cellsZ c
        · exact .inr (.inl ⟨h1, h2⟩)
        · refine .inr (.inr ⟨h1, h2, ?_⟩)
          have key : ∀ m : Nat, (m : Int) < cellsZ c → A.has (refZ q c m) = true := by
            intro m
            induction m using Nat.strongRecOn with
            | ind m ihm =>
              intro hm
              cases hB : A.has (refZ q c m)
              · refine absurd ⟨q, (m : Int), ?_⟩ hg
                refine ⟨hq, h1, h2, by omega, hm, hB, ?_, fun p hp => ih p hp (by omega)⟩
                intro j hj0 hj1
                obtain ⟨i, rfl⟩ := Int.eq_ofNat_of_zero_le hj0
                exact ihm i (by omega) (by omega)
              · rfl
          intro k hk0 hk1
          obtain ⟨i, rfl⟩ := Int.eq_ofNat_of_zero_le hk0
          exact key i hk1
      · exact .inl h1

/-- Has the class room? -/
inductive RoomIs (A : AR) (c : Int) : Bool → Prop
  | none (h : cellsZ c = 0) : RoomIs A c false
  | gap (h : cellsZ c ≠ 0) (p : Nat) (k : Int) (hg : IsGap A c p k) : RoomIs A c true
  | page (h : cellsZ c ≠ 0) (hg : A.allFull c) (hf : 0 < A.free) : RoomIs A c true
  | full (h : cellsZ c ≠ 0) (hg : A.allFull c) (hf : A.free ≤ 0) : RoomIs A c false

theorem room_cases (A : AR) (c : Int) : ∃ b, RoomIs A c b := by
  by_cases h : cellsZ c = 0
  · exact ⟨_, .none h⟩
  · rcases gap_or_full A c with ⟨p, k, hg⟩ | hg
    · exact ⟨_, .gap h p k hg⟩
    · rcases Int.lt_or_le 0 A.free with hf | hf
      · exact ⟨_, .page h hg hf⟩
      · exact ⟨_, .full h hg hf⟩

section
variable {w : World} {a : Nat} {A : AR} {F : List Nat}

theorem ArenaAt.free_ (h : ArenaAt w a A F) : w.cell? ⟨a, 3, none⟩ = some (.int .i64 A.free) := by
  obtain ⟨pb, wb, sb, lo, rfl, hp⟩ := h
  have c0 := hp.top.cell 3
  simpa [arenaCells] using c0

theorem ARoom (h : ArenaAt w a A F) (c : Int) (b : Bool) (hr : RoomIs A c b) : Calls Try.prog 71 #[.pointer (some ⟨a, 0, none⟩), .int .i64 c] w fun e w' => ∃ F', e = .returned (.bool b) ∧ ArenaAt w' a A F' ∧ GrewF w F F' ∧ Chg F w w' := by
  have H := Lib.hid h
  clear h
  cases hr with
  | none h0 =>
    have H0 := Lib.hid h0
    clear h0
    go_enter Try.func71, Try.ntmps71
    go_wp2_with (go_at_call 65; refine (Cells _ _).mono ?_; rw [H0.out]; rintro e w' ⟨rfl, rfl⟩)
    go_ret
    exact ⟨F, rfl, H.out, GrewF.refl _ _, Chg.refl _ _⟩
  | gap h0 p k hg =>
    have hne : (cellsZ c == 0) = false := by simpa using h0
    have HG := Lib.hid hg
    clear hg h0
    go_enter Try.func71, Try.ntmps71
    go_wp2_with (first | (go_at_call 65; refine (Cells _ _).mono ?_; rintro e w' ⟨rfl, rfl⟩) | (go_at_call 72; refine (AGapYes H.out c p k HG.out).mono ?_; rintro e w1 ⟨F1, rfl, h1, g1, c1⟩; have H1 := Lib.hid h1; have G1 := Lib.hid g1; have C1 := Lib.hid c1; clear h1 g1 c1))
    go_ret
    exact ⟨F1, rfl, H1.out, G1.out, C1.out⟩
  | page h0 hg hf =>
    have hne : (cellsZ c == 0) = false := by simpa using h0
    have HG := Lib.hid hg
    clear hg h0
    go_enter Try.func71, Try.ntmps71
    go_wp2_with (first | (go_at_call 65; refine (Cells _ _).mono ?_; rintro e w' ⟨rfl, rfl⟩) | (go_at_call 72; refine (AGapNo H.out c HG.out).mono ?_; rintro e w1 ⟨F1, rfl, h1, g1, c1⟩; have hc := h1.free_; have H1 := Lib.hid h1; have G1 := Lib.hid g1; have C1 := Lib.hid c1; clear h1 g1 c1))
    go_ret
    exact ⟨F1, by simp, H1.out, G1.out, C1.out⟩
  | full h0 hg hf =>
    have hne : (cellsZ c == 0) = false := by simpa using h0
    have HG := Lib.hid hg
    clear hg h0
    have hnf : ¬ 0 < A.free := by omega
    go_enter Try.func71, Try.ntmps71
    go_wp2_with (first | (go_at_call 65; refine (Cells _ _).mono ?_; rintro e w' ⟨rfl, rfl⟩) | (go_at_call 72; refine (AGapNo H.out c HG.out).mono ?_; rintro e w1 ⟨F1, rfl, h1, g1, c1⟩; have hc := h1.free_; have H1 := Lib.hid h1; have G1 := Lib.hid g1; have C1 := Lib.hid c1; clear h1 g1 c1))
    go_ret
    exact ⟨F1, by simp; exact hf, H1.out, G1.out, C1.out⟩
end
end Go.Proofs.Ytbcabjpafeocgaa

/-
  What a take writes (layer 3). Conditions: as each theorem says.
-/
namespace Go.Proofs.Ytbcabjpafeocgaa
set_option linter.unusedVariables false
set_option linter.unusedSimpArgs false
open Go.RowKit

section
variable {w : World} {a : Nat} {A : AR} {pb wb sb : Nat} {lo : Option Nat}

theorem AParts.setCnt (h : AParts w a A pb wb sb lo) (p : Nat) (v : Int) : AParts (w.setCell ⟨pb, p * 2 + 1, none⟩ (.int .i64 v)) a { A with cnt := updN A.cnt p v } pb wb sb lo := by
  have hc : Chg [pb] w (w.setCell ⟨pb, p * 2 + 1, none⟩ (.int .i64 v)) := (Chg.refl _ _).setCell (.inl (by simp)) _
  refine ⟨hc.blk h.top (by simp; exact h.ap), ?_, hc.blk h.words (by simp; exact h.pw.symm), h.set_.keep hc (fun x hx => by simp; rintro rfl; exact h.sp hx), h.ap, h.aw, h.pw, h.sa, h.sp, h.sw, h.few, h.ids⟩
  rw [← pageCells_setCnt]
  exact h.pages.set_ _ _
theorem AParts.setCls (h : AParts w a A pb wb sb lo) (p : Nat) (v : Int) : AParts (w.setCell ⟨pb, p * 2, none⟩ (.int .i64 v)) a { A with cls := updN A.cls p v } pb wb sb lo := by
  have hc : Chg [pb] w (w.setCell ⟨pb, p * 2, none⟩ (.int .i64 v)) := (Chg.refl _ _).setCell (.inl (by simp)) _
  refine ⟨hc.blk h.top (by simp; exact h.ap), ?_, hc.blk h.words (by simp; exact h.pw.symm), h.set_.keep hc (fun x hx => by simp; rintro rfl; exact h.sp hx), h.ap, h.aw, h.pw, h.sa, h.sp, h.sw, h.few, h.ids⟩
  rw [← pageCells_setCls]
  exact h.pages.set_ _ _
theorem AParts.setFree (h : AParts w a A pb wb sb lo) (v : Int) : AParts (w.setCell ⟨a, 3, none⟩ (.int .i64 v)) a { A with free := v } pb wb sb lo := by
  have hc : Chg [a] w (w.setCell ⟨a, 3, none⟩ (.int .i64 v)) := (Chg.refl _ _).setCell (.inl (by simp)) _
  refine ⟨?_, hc.blk h.pages (by simp; exact h.ap.symm), hc.blk h.words (by simp; exact h.aw.symm), h.set_.keep hc (fun x hx => by simp; rintro rfl; exact h.sa hx), h.ap, h.aw, h.pw, h.sa, h.sp, h.sw, h.few, h.ids⟩
  exact (h.top.set_ 3 _).as_ (by simp [arenaCells])

/-- n words from o on are noughts. -/
def zeroed (f : Nat → Int) (o n : Nat) : Nat → Int := fun i => if o ≤ i ∧ i < o + n then 0 else f i
theorem intCells_set (f : Nat → Int) (m k : Nat) (v : Int) : (intCells f m).setIfInBounds k (.int .i64 v) = intCells (updN f k v) m := by
  apply Array.ext_getElem?
  intro i
  rw [Array.getElem?_setIfInBounds]
  by_cases hi : i < m
  · by_cases h : k = i
    · subst h
      simp [intCells, hi, updN]
    · have h' : ¬ i = k := fun e => h e.symm
      simp [intCells, hi, updN, h, h']
  · have h1 : ∀ f, (intCells f m)[i]? = none := by intro f; simp [intCells]; omega
    rw [h1, h1]
    have : ¬ i < (intCells f m).size := by simpa [intCells] using hi
    split <;> simp_all
theorem blk_zeroed {t : TypeId} {m : Nat} : ∀ (n : Nat) (o : Nat) (f : Nat → Int) (w : World), Blk w wb t (intCells f m) → Blk (w.setCells wb o (List.replicate n (.int .i64 0))) wb t (intCells (zeroed f o n) m)
  | 0, o, f, w, h => by
    have e : zeroed f o 0 = f := by funext i; unfold zeroed; rw [if_neg (by omega)]
    rw [e]; exact h
  | n + 1, o, f, w, h => by
    have h1 := h.set_ o (.int .i64 0)
    rw [intCells_set] at h1
    have h2 := blk_zeroed n (o + 1) _ _ h1
    have e : zeroed (updN f o 0) (o + 1) n = zeroed f o (n + 1) := by
      funext i
      unfold zeroed updN
      by_cases h3 : o + 1 ≤ i ∧ i < o + 1 + n
      · rw [if_pos h3, if_pos (by omega)]
      · rw [if_neg h3]
        by_cases h4 : i = o
        · rw [if_pos h4, if_pos (by omega)]
        · rw [if_neg h4, if_neg (by omega)]
    rw [e] at h2
    exact h2
theorem chg_setCells {F : List Nat} {w0 : World} (b : Nat) (hb : b ∈ F ∨ w0.heap.size ≤ b) : ∀ (vs : List Value) (o : Nat) (w : World), Chg F w0 w → Chg F w0 (w.setCells b o vs)
  | [], _, _, h => h
  | _ :: vs, o, _, h => chg_setCells b hb vs (o + 1) _ (h.setCell hb _)
theorem AParts.clear (h : AParts w a A pb wb sb lo) (o n : Nat) : AParts (w.setCells wb o (List.replicate n (.int .i64 0))) a { A with wd := zeroed A.wd o n } pb wb sb lo := by
  have hc : Chg [wb] w (w.setCells wb o (List.replicate n (.int .i64 0))) := chg_setCells wb (by simp) _ _ _ (Chg.refl _ _)
  exact ⟨hc.blk h.top (by simp; exact h.aw), hc.blk h.pages (by simp; exact h.pw), blk_zeroed n o _ _ h.words, h.set_.keep hc (fun x hx => by simp; rintro rfl; exact h.sw hx), h.ap, h.aw, h.pw, h.sa, h.sp, h.sw, h.few, h.ids⟩

theorem clear_words (n o k : Nat) (cap : Nat) (hn : 0 < n) (hk : o + n ≤ k) (f : Nat → Int) (w : World) (ty : TypeId) (h : Blk w wb 3 (intCells f k)) :
    (Builtin.clear_ #[90] ty #[.slice (some ⟨wb, o, none⟩) n cap]).run Try.prog w = .ok (.tuple #[]) (w.setCells wb o (List.replicate n (.int .i64 0))) :=
  Lib.run_clear_slice w 90 3 ty (.int .i64 0) Try.underlying90 (fun w => by kernel_rfl) rfl rfl wb o n cap hn
    (fun j hj => by rw [h.cell, intCells_get _ _ _ (by omega)]; rfl) (fun j hj => h.frozen _)

/-- Where a taken cell is taken: the page p, of the class c; its Ref is r; new: the page was free. -/
def AR.put (A : AR) (new : Bool) (c : Int) (p r : Nat) : AR :=
  { n := A.n
    cls := if new then updN A.cls p c else A.cls
    cnt := updN A.cnt p (if new then 1 else A.cnt p + 1)
    wd := zeroed A.wd (r - 1) (wordsZ c).toNat
    tk := fun j => A.tk j || decide (j = r)
    free := if new then A.free - 1 else A.free
    ids := A.ids }
end
end Go.Proofs.Ytbcabjpafeocgaa
