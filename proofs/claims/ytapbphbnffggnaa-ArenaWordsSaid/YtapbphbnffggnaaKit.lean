/-
  Words on worlds for this seat's walks: a block that is known whole, and a change of memory that keeps all blocks but some named ones. Conditions: none; no program is named here.
-/
import Derived.WalkKit
import Derived.BigQuiet
import Derived.Deep.QuietTactic
import Derived.Deep.Quiet
import Derived.Deep.LoopGhost
import Derived.Deep.DeepFit
import Derived.Deep.DeepMust
import Derived.Lib.Hide
import Derived.WalkLawsBesides
import Derived.WalkSpells
import Derived.Laws.OwnMore
import Derived.Laws.Rows
import Derived.Maps.AppendAt
import Derived.Deep.AppendLies
import Derived.ProofKit
namespace Go.Proofs.Ytapbphbnffggnaa
set_option linter.unusedVariables false
set_option linter.unusedSimpArgs false
open Go.RowKit

/-- Block g is just the cells cs, of element type t, none frozen. -/
def Blk (w : World) (g : Nat) (t : TypeId) (cs : Array Value) : Prop := w.heap[g]? = some (.cells cs t (0, 0))

section
variable {w w' : World} {g : Nat} {t : TypeId} {cs : Array Value}
theorem Blk.lt (h : Blk w g t cs) : g < w.heap.size := by
  rcases Nat.lt_or_ge g w.heap.size with hlt | hge
  · exact hlt
  · unfold Blk at h; rw [Array.getElem?_eq_none hge] at h; cases h
theorem Blk.cell (h : Blk w g t cs) (i : Nat) : w.cell? ⟨g, i, none⟩ = cs[i]? := cell_of_row w g i cs t (0, 0) h
theorem Blk.frozen (h : Blk w g t cs) (i : Nat) : w.frozen? ⟨g, i, none⟩ = false := by
  unfold Blk at h
  simp [World.frozen?, h]
theorem Blk.new (w : World) (t : TypeId) (cs : Array Value) : Blk (w.alloc (.cells cs t)) w.heap.size t cs := by
  show (w.heap.push _)[w.heap.size]? = _
  simp
theorem Blk.drew (h : Blk w g t cs) : Blk w.drew g t cs := h
theorem Blk.drewN (h : Blk w g t cs) (n : Nat) : Blk (w.drewN n) g t cs := h
theorem Blk.alloc (h : Blk w g t cs) (o : Obj) : Blk (w.alloc o) g t cs := (Below.heap_alloc w o g h.lt).trans h
theorem Blk.set_ (h : Blk w g t cs) (i : Nat) (u : Value) : Blk (w.setCell ⟨g, i, none⟩ u) g t (cs.setIfInBounds i u) := by
  unfold Blk at h ⊢
  simp [World.setCell, Array.getElem?_modify, h]
theorem Blk.far (h : Blk w g t cs) {p : Addr} (hp : g ≠ p.block) (u : Value) : Blk (w.setCell p u) g t cs := (Below.heap_setCell w p u g hp).trans h
theorem Blk.ne_ {g' : Nat} {t' : TypeId} {cs' : Array Value} (h : Blk w g t cs) (h' : Blk w g' t' cs') (hne : t ≠ t') : g ≠ g' := by
  rintro rfl
  unfold Blk at h h'
  rw [h] at h'
  injection h' with h'
  injection h' with _ ht
  exact hne ht
end

/-- All blocks but those of F hold what they held; blocks come, none goes. -/
structure Chg (F : List Nat) (w w' : World) : Prop where
  os : w'.os = w.os
  tape : w'.tape = w.tape
  output : w'.output = w.output
  size : w.heap.size ≤ w'.heap.size
  block : ∀ k, k < w.heap.size → k ∉ F → w'.heap[k]? = w.heap[k]?

section
variable {F F' : List Nat} {w w1 w2 : World}
theorem Chg.refl (F : List Nat) (w : World) : Chg F w w := ⟨rfl, rfl, rfl, Nat.le_refl _, fun _ _ _ => rfl⟩
/-- F' may name blocks of F, and blocks that came behind w. -/
theorem Chg.trans (h : Chg F w w1) (k : Chg F' w1 w2) (hs : ∀ x ∈ F', x ∈ F ∨ w.heap.size ≤ x) : Chg F w w2 :=
  ⟨k.os.trans h.os, k.tape.trans h.tape, k.output.trans h.output, Nat.le_trans h.size k.size, fun i hi hn =>
    (k.block i (Nat.lt_of_lt_of_le hi h.size) (fun hm => by rcases hs i hm with h1 | h1; exact hn h1; omega)).trans (h.block i hi hn)⟩
theorem Chg.mono (h : Chg F w w1) (hs : ∀ x ∈ F, x ∈ F' ∨ w.heap.size ≤ x) : Chg F' w w1 :=
  ⟨h.os, h.tape, h.output, h.size, fun i hi hn => h.block i hi (fun hm => by rcases hs i hm with h1 | h1; exact hn h1; omega)⟩
theorem Chg.drew (h : Chg F w w1) : Chg F w w1.drew := ⟨h.os, h.tape, h.output, h.size, h.block⟩
theorem Chg.drewN (h : Chg F w w1) (n : Nat) : Chg F w (w1.drewN n) := ⟨h.os, h.tape, h.output, h.size, h.block⟩
theorem Chg.alloc (h : Chg F w w1) (o : Obj) : Chg F w (w1.alloc o) :=
  ⟨h.os, h.tape, h.output, by have := h.size; simp; omega, fun i hi hn => (Below.heap_alloc _ _ _ (Nat.lt_of_lt_of_le hi h.size)).trans (h.block i hi hn)⟩
theorem Chg.setCell (h : Chg F w w1) {p : Addr} (hp : p.block ∈ F ∨ w.heap.size ≤ p.block) (u : Value) : Chg F w (w1.setCell p u) :=
  ⟨h.os, h.tape, h.output, by have := h.size; simpa [World.setCell] using this, fun i hi hn => (Below.heap_setCell _ _ _ _ (by rintro rfl; rcases hp with h1 | h1; exact hn h1; omega)).trans (h.block i hi hn)⟩
theorem Chg.grown {row : Option Nat} (h : Chg F w w1) (hg : w1.grownBy w2 row) (hr : ∀ k, row = some k → k ∈ F ∨ w.heap.size ≤ k) : Chg F w w2 :=
  ⟨hg.os.trans h.os, hg.tape.trans h.tape, hg.output.trans h.output, Nat.le_trans h.size hg.size, fun i hi hn =>
    (hg.block i (Nat.lt_of_lt_of_le hi h.size) (fun e => by rcases hr i e.symm with h1 | h1; exact hn h1; omega)).trans (h.block i hi hn)⟩
theorem Chg.below {B : Nat} (h : Chg F w w1) (hB : B ≤ w.heap.size) (hF : ∀ x ∈ F, B ≤ x) : Below B w w1 :=
  ⟨h.os, h.tape, h.output, h.size, fun k hk => h.block k (by omega) (fun hm => by have := hF k hm; omega)⟩
theorem Chg.blk {g : Nat} {t : TypeId} {cs : Array Value} (h : Chg F w w1) (hb : Blk w g t cs) (hg : g ∉ F) : Blk w1 g t cs := (h.block g hb.lt hg).trans hb
theorem Chg.heap {g : Nat} {o : Obj} (h : Chg F w w1) (hb : w.heap[g]? = some o) (hg : g ∉ F) : w1.heap[g]? = some o := by
  have hlt : g < w.heap.size := by
    rcases Nat.lt_or_ge g w.heap.size with hlt | hge
    · exact hlt
    · rw [Array.getElem?_eq_none hge] at hb; cases hb
  exact (h.block g hlt hg).trans hb
theorem Chg.row {base : Nat} {e : TypeId} {size n : Nat} {v : Value} {xs : List Value} (h : Chg F w w1) (hr : w.ownsRow base e size v n xs) (hv : ∀ k, v.ownBlock = some k → k ∉ F) : w1.ownsRow base e size v n xs := by
  obtain ⟨h1, h2⟩ := hr
  refine ⟨h1, ?_⟩
  rcases h2 with h2 | ⟨g, cap, cur, rfl, hg, hh, r⟩
  · exact .inl h2
  · exact .inr ⟨g, cap, cur, rfl, hg, h.heap hh (hv g (by simp [Value.ownBlock])), r⟩
end

/-- F' holds blocks of F, and blocks that came behind w. -/
def Sub (w : World) (F' F : List Nat) : Prop := ∀ x ∈ F', x ∈ F ∨ w.heap.size ≤ x
theorem Sub.refl (w : World) (F : List Nat) : Sub w F F := fun _ h => .inl h

/-- Since w0 nothing that was there has changed, and F is all new. -/
def Own (w0 : World) (F : List Nat) (w : World) : Prop := Chg [] w0 w ∧ ∀ x ∈ F, w0.heap.size ≤ x

section
variable {F F' G : List Nat} {w0 w w1 w2 : World}
theorem Own.start (w : World) : Own w [] w := ⟨Chg.refl _ _, by simp⟩
theorem Own.step (h : Own w0 F w) (hc : Chg F w w1) (hs : Sub w F' F) : Own w0 F' w1 :=
  ⟨h.1.trans hc (fun x hx => .inr (h.2 x hx)), fun x hx => by rcases hs x hx with h1 | h1; exact h.2 x h1; have := h.1.size; omega⟩
theorem Own.same (h : Own w0 F w) (hc : Chg F w w1) : Own w0 F w1 := h.step hc (Sub.refl _ _)
theorem Own.below (h : Own w0 F w) : Below w0.heap.size w0 w := h.1.below (Nat.le_refl _) (by simp)
theorem Own.size (h : Own w0 F w) : w0.heap.size ≤ w.heap.size := h.1.size
theorem Own.cell (h : Own w0 F w) {b o : Nat} {v : Value} (hb : b < w0.heap.size) (hv : w0.cell? ⟨b, o, none⟩ = some v) : w.cell? ⟨b, o, none⟩ = some v := (h.below.cell (p := ⟨b, o, none⟩) hb).trans hv
theorem Own.join (h : Own w0 F w) (g : Own w0 G w) : Own w0 (F ++ G) w := ⟨h.1, fun x hx => by rcases List.mem_append.1 hx with h1 | h1; exact h.2 x h1; exact g.2 x h1⟩
theorem Own.part (h : Own w0 F w) (hs : ∀ x ∈ G, x ∈ F) : Own w0 G w := ⟨h.1, fun x hx => h.2 x (hs x hx)⟩
end

/-- A world that holds what w held, and perhaps new blocks. -/
structure Later (w : World) where
  w' : World
  h : Chg [] w w'
instance Later.some_ (w : World) : Nonempty (Later w) := ⟨⟨w, Chg.refl _ _⟩⟩

/-- A region that draws its order, whose operations and calls leave memory as it was but for new blocks: walked once, in the order of the text. -/
theorem wp_region_grow {P : Program} {id : Nat} {Q : Exit → Act → World → Prop} {a : Act} {w : World} {l : List Oper} (hm : P.follows .mixedOrders = true) (hB : Region.lexB .any l.toArray = true)
    (h : wpQuiet P l.toArray (fun w' => ∃ x : Later w, w' = x.w') (fun a' => ∀ w', (∃ x : Later w, w' = x.w') → Q .normal a' w') l a) : (Code.region id l.toArray true).wp P Q a w :=
  wp_region_quiet (C := fun w' => ∃ x : Later w, w' = x.w') hm hB ⟨⟨_, (Chg.refl _ _).drew⟩, rfl⟩ (by simpa using h)

theorem later_calls {P : Program} {f : FuncId} {args : Array Value} {w : World} {x : Later w} {v : Value} (h : Calls P f args x.w' fun e w' => e = .returned v ∧ Chg [] x.w' w') :
    Calls P f args x.w' fun e w'' => e = .returned v ∧ ∃ y : Later w, w'' = y.w' :=
  h.mono fun _ w'' ⟨he, hc⟩ => ⟨he, ⟨w'', x.h.trans hc (by simp)⟩, rfl⟩

/-- An owned row's block lies in the heap. -/
theorem row_lt {w : World} {base : Nat} {e : TypeId} {size n g : Nat} {v : Value} {xs : List Value} (hr : w.ownsRow base e size v n xs) (hv : v.ownBlock = some g) : g < w.heap.size := by
  obtain ⟨_, h2⟩ := hr
  rcases h2 with ⟨rfl, _⟩ | ⟨g', cap, cur, rfl, _, hh, _⟩
  · simp [Value.ownBlock] at hv
  · have : g' = g := by simpa [Value.ownBlock] using hv
    subst this
    rcases Nat.lt_or_ge g' w.heap.size with hlt | hge
    · exact hlt
    · rw [Array.getElem?_eq_none hge] at hh; cases hh

/-- An owned row is a slice value of its length. -/
theorem row_slice {w : World} {base : Nat} {e : TypeId} {size n : Nat} {v : Value} {xs : List Value} (hr : w.ownsRow base e size v n xs) : ∃ A cap, v = .slice A n cap ∧ n ≤ cap ∧ cap ≤ maxLen := by
  obtain ⟨_, h2⟩ := hr
  rcases h2 with ⟨rfl, rfl⟩ | ⟨g', cap, cur, rfl, _, _, h1, h3, _⟩
  · exact ⟨none, 0, rfl, by omega, by unfold maxLen; omega⟩
  · exact ⟨_, cap, rfl, h1, h3⟩

/-- A row that is not empty lies in a block of its own. -/
theorem row_some {w : World} {base : Nat} {e : TypeId} {size n : Nat} {v : Value} {xs : List Value} (hr : w.ownsRow base e size v n xs) (hn : 0 < n) : ∃ g cap, v = .slice (some ⟨g, 0, none⟩) n cap ∧ n ≤ cap ∧ cap ≤ maxLen ∧ g < w.heap.size := by
  obtain ⟨_, h2⟩ := hr
  rcases h2 with ⟨_, h0⟩ | ⟨g', cap, cur, rfl, _, hh, h1, h3, _⟩
  · omega
  · refine ⟨g', cap, rfl, h1, h3, ?_⟩
    rcases Nat.lt_or_ge g' w.heap.size with hlt | hge
    · exact hlt
    · rw [Array.getElem?_eq_none hge] at hh; cases hh

theorem row_cell {w : World} {base : Nat} {e : TypeId} {n g cap : Nat} {xs : List Value} (hr : w.ownsRow base e 1 (.slice (some ⟨g, 0, none⟩) n cap) n xs) (i : Nat) (u : Value) (hi : xs[i]? = some u) : w.cell? ⟨g, i, none⟩ = some u := by
  have h := hr.cells (g := g) rfl i u hi
  unfold Addr.add at h
  by_cases h0 : i = 0
  · subst h0; simpa using h
  · simpa [h0] using h

theorem row_blk_ne {w : World} {base : Nat} {e t : TypeId} {size n g : Nat} {v : Value} {xs : List Value} {cs : Array Value} (hr : w.ownsRow base e size v n xs) (hb : Blk w g t cs) (hne : e ≠ t) : v.ownBlock ≠ some g := by
  obtain ⟨_, h2⟩ := hr
  rcases h2 with ⟨rfl, _⟩ | ⟨g', cap, cur, rfl, _, hh, _⟩
  · simp [Value.ownBlock]
  · intro he
    have : g' = g := by simpa [Value.ownBlock] using he
    subst this
    exact Blk.ne_ (t := e) hh hb hne rfl

/-- The slice value '.slice A n c' of an argument reads as the one-cell values xs. -/
def Arg (w : World) (A : Option Addr) (n : Nat) (xs : List Value) : Prop :=
  xs.length = n ∧ ∀ k, k < n → ∃ b o, A = some ⟨b, o, none⟩ ∧ b < w.heap.size ∧ w.cell? ⟨b, o + k, none⟩ = xs[k]?

theorem Arg.at_ {w0 w : World} {F : List Nat} {A : Option Addr} {n k : Nat} {xs : List Value} (h : Arg w0 A n xs) (hO : Own w0 F w) (hk : k < n) : ∃ b o v, A = some ⟨b, o, none⟩ ∧ w.cell? ⟨b, o + k, none⟩ = some v ∧ xs[k]? = some v := by
  obtain ⟨b, o, e, hb, hc⟩ := h.2 k hk
  have hl : k < xs.length := by have := h.1; omega
  exact ⟨b, o, xs[k], e, hO.cell hb (by rw [hc]; exact List.getElem?_eq_getElem hl), List.getElem?_eq_getElem hl⟩

theorem Arg.int {w0 w : World} {F : List Nat} {A : Option Addr} {n k : Nat} {zs : List Int} {q : IntKind} (h : Arg w0 A n (zs.map (.int q))) (hO : Own w0 F w) (hk : k < n) : ∃ b o, A = some ⟨b, o, none⟩ ∧ w.cell? ⟨b, o + k, none⟩ = some (.int q (zs[k]?.getD 0)) := by
  obtain ⟨b, o, v, e, hc, hv⟩ := h.at_ hO hk
  refine ⟨b, o, e, ?_⟩
  rw [hc, ← hv]
  have hl : k < zs.length := by have := h.1; simp at this; omega
  simp [hl]

theorem take_succ_getD (zs : List Int) (k : Nat) (h : k < zs.length) : zs.take (k + 1) = zs.take k ++ [zs[k]?.getD 0] := by
  rw [List.take_succ_eq_append_getElem h]; simp [h]

end Go.Proofs.Ytapbphbnffggnaa
