/-
  Parts of the proof, joined: TraceP, Heap, GraphP, GreyC, GreyS, Mark, Mark2, Ones, OnesP, Bits, OnesW, SCount, SReset, Mark3, Mark4, MarkIter, Mark5, Mark6, Mark7, Mark8, Mark9, Fit11, StillIn, Float, Quiet. Conditions: as each part says.
-/
import Derived.Test.YtbcabjpafeocgaaL1
import Derived.Test.YtbcabjpafeocgaaL3
import Derived.Test.YtbcabjpafeocgaaRows
import Derived.Test.YtbcabjpafeocgaaL2
import Derived.Outline
import Derived.StillTailTactics
import Derived.OrdersIn
import Derived.Sort.QuietIn
import Derived.Sort.BigQuietIn
import Derived.Sort.QuietThIn
import Derived.BigQuiet
import Derived.Deep.Quiet

/-
  Colours, and what tracing makes of them, as plain data (layer 11). Conditions: as each theorem says; no walk.
-/
namespace Go.Proofs.Ytbcabjpafeocgaa
set_option linter.unusedVariables false
set_option linter.unusedSimpArgs false

/-- Which are marked, which are scanned. -/
structure Col where
  mz : Nat → Bool
  sc : Nat → Bool
def Col.none : Col := ⟨fun _ => false, fun _ => false⟩
def Col.grey (C : Col) (r : Nat) : Bool := C.mz r && !C.sc r
def Col.shade (C : Col) (r : Nat) : Col := ⟨fun x => C.mz x || decide (x = r), C.sc⟩
def Col.scan (C : Col) (r : Nat) : Col := ⟨C.mz, fun x => C.sc x || decide (x = r)⟩
def Col.black (C : Col) (r : Nat) : Col := ⟨fun x => C.mz x || decide (x = r), fun x => C.sc x || decide (x = r)⟩
def Col.regrey (C : Col) (r : Nat) : Col := if C.mz r then ⟨C.mz, fun x => C.sc x && !decide (x = r)⟩ else C
def Col.forget (C : Col) (r : Nat) : Col := ⟨fun x => C.mz x && !decide (x = r), fun x => C.sc x && !decide (x = r)⟩
def Col.shades (C : Col) (l : List Nat) : Col := l.foldl Col.shade C

theorem Col.ext {C C' : Col} (h1 : ∀ x, C.mz x = C'.mz x) (h2 : ∀ x, C.sc x = C'.sc x) : C = C' := by
  cases C; cases C'
  simp only [Col.mk.injEq]
  exact ⟨funext h1, funext h2⟩
theorem shades_mz (l : List Nat) : ∀ (C : Col) (x : Nat), (C.shades l).mz x = (C.mz x || decide (x ∈ l)) := by
  induction l with
  | nil => intro C x; simp [Col.shades]
  | cons a l ih =>
    intro C x
    show ((C.shade a).shades l).mz x = _
    rw [ih]
    simp only [Col.shade, List.mem_cons]
    by_cases h1 : x = a <;> by_cases h2 : x ∈ l <;> simp [h1, h2]
theorem shades_sc (l : List Nat) : ∀ (C : Col), (C.shades l).sc = C.sc := by
  induction l with
  | nil => intro C; rfl
  | cons a l ih => intro C; show ((C.shade a).shades l).sc = _; rw [ih]; rfl
theorem shade_same {C : Col} {r : Nat} (h : C.mz r = true) : C.shade r = C := by
  refine Col.ext (fun x => ?_) (fun _ => rfl)
  show (C.mz x || decide (x = r)) = C.mz x
  by_cases e : x = r
  · subst e; simp [h]
  · simp [e]

/-- d grey ones were scanned, one behind the other. -/
inductive Steps (pts : Nat → List Nat) : Nat → Col → Col → Prop
  | zero (C : Col) : Steps pts 0 C C
  | succ {d : Nat} {C C1 : Col} (r : Nat) (h : Steps pts d C C1) (hg : C1.grey r = true) : Steps pts (d + 1) C ((C1.scan r).shades (pts r))

/-- What R leads to. -/
inductive Leads (pts : Nat → List Nat) (R : Nat → Prop) : Nat → Prop
  | base {x : Nat} (h : R x) : Leads pts R x
  | step {x y : Nat} (h : Leads pts R x) (hy : y ∈ pts x) : Leads pts R y

section
variable {pts : Nat → List Nat} {d e : Nat} {C C1 C' : Col}
theorem grey_iff {r : Nat} : C.grey r = true ↔ C.mz r = true ∧ C.sc r = false := by simp [Col.grey]
theorem Steps.trans (h : Steps pts d C C1) (k : Steps pts e C1 C') : Steps pts (d + e) C C' := by
  induction k with
  | zero => exact h
  | succ r _ hg ih => exact Steps.succ r (ih h) hg
theorem Steps.mono (h : Steps pts d C C') : (∀ x, C.mz x = true → C'.mz x = true) ∧ (∀ x, C.sc x = true → C'.sc x = true) := by
  induction h with
  | zero => exact ⟨fun _ h => h, fun _ h => h⟩
  | @succ d C C1 r hs hg ih =>
    refine ⟨fun x hx => ?_, fun x hx => ?_⟩
    · rw [shades_mz]
      show (C1.mz x || _) = true
      rw [ih.1 x hx]
      rfl
    · rw [shades_sc]
      show (C1.sc x || _) = true
      rw [ih.2 x hx]
      rfl
/-- All that is marked stays within what is closed. -/
theorem Steps.within {P : Nat → Prop} (h : Steps pts d C C') (hc : ∀ x, P x → ∀ y ∈ pts x, P y) (h0 : ∀ x, C.mz x = true → P x) : ∀ x, C'.mz x = true → P x := by
  induction h with
  | zero => exact h0
  | succ r _ hg ih =>
    intro x hx
    rw [shades_mz] at hx
    simp only [Bool.or_eq_true, decide_eq_true_eq] at hx
    rcases hx with hx | hx
    · exact ih h0 x hx
    · exact hc r (ih h0 r (grey_iff.1 hg).1) x hx
/-- What was scanned points to what is marked. -/
theorem Steps.scanned (h : Steps pts d C C') : ∀ x, C'.sc x = true → C.sc x = true ∨ ∀ y ∈ pts x, C'.mz y = true := by
  induction h with
  | zero => exact fun _ h => .inl h
  | @succ d C C1 r hs hg ih =>
    intro x hx
    rw [shades_sc] at hx
    have hx' : (C1.sc x || decide (x = r)) = true := hx
    simp only [Bool.or_eq_true, decide_eq_true_eq] at hx'
    rcases hx' with hx' | rfl
    · rcases ih x hx' with h1 | h1
      · exact .inl h1
      · right
        intro y hy
        rw [shades_mz]
        show (C1.mz y || _) = true
        rw [h1 y hy]
        rfl
    · right
      intro y hy
      rw [shades_mz]
      simp [hy]
theorem Steps.sub (h : Steps pts d C C') (h0 : ∀ x, C.sc x = true → C.mz x = true) : ∀ x, C'.sc x = true → C'.mz x = true := by
  induction h with
  | zero => exact h0
  | @succ d C C1 r hs hg ih =>
    intro x hx
    rw [shades_sc] at hx
    have hx' : (C1.sc x || decide (x = r)) = true := hx
    simp only [Bool.or_eq_true, decide_eq_true_eq] at hx'
    rw [shades_mz]
    show (C1.mz x || _) = true
    rcases hx' with hx' | rfl
    · rw [ih h0 x hx']; rfl
    · rw [(grey_iff.1 hg).1]; rfl
/-- Each step scans one more. -/
theorem Steps.count (h : Steps pts d C C') {l : List Nat} (hn : l.Nodup) (hc : ∀ x ∈ l, ∀ y ∈ pts x, y ∈ l) (h0 : ∀ x, C.mz x = true → x ∈ l) : l.countP C'.sc = l.countP C.sc + d := by
  induction h with
  | zero => rfl
  | @succ d C C1 r hs hg ih =>
    have hr : r ∈ l := hs.within (P := fun x => x ∈ l) hc h0 r (grey_iff.1 hg).1
    rw [shades_sc, ← Nat.add_assoc, ← ih h0]
    have hf := (grey_iff.1 hg).2
    clear ih h0 hc hs hg
    induction l with
    | nil => cases hr
    | cons a l ihl =>
      rw [List.nodup_cons] at hn
      rw [List.countP_cons, List.countP_cons]
      by_cases e : a = r
      · subst e
        have h1 : l.countP (C1.scan a).sc = l.countP C1.sc := List.countP_congr (fun x hx => by
          show (C1.sc x || decide (x = a)) = true ↔ _
          have : x ≠ a := fun e => hn.1 (e ▸ hx)
          simp [this])
        rw [h1, hf]
        simp [Col.scan]
      · have hr' : r ∈ l := by
          rcases List.mem_cons.1 hr with h | h
          · exact absurd h.symm e
          · exact h
        rw [ihl hn.2 hr']
        have : (C1.scan r).sc a = C1.sc a := by
          show (C1.sc a || decide (a = r)) = _
          simp [e]
        rw [this]
        omega
theorem leads_closed {R : Nat → Prop} {P : Nat → Prop} (h0 : ∀ x, R x → P x) (hc : ∀ x, P x → ∀ y ∈ pts x, P y) : ∀ x, Leads pts R x → P x := by
  intro x h
  induction h with
  | base h => exact h0 _ h
  | step _ hy ih => exact hc _ ih _ hy
/-- Traced to the end: what is marked is what leads from what was marked. -/
theorem Steps.done (h : Steps pts d C C') (hno : ∀ x, C'.grey x = false) (hcl : ∀ x, C.sc x = true → ∀ y ∈ pts x, C.mz y = true) (x : Nat) : C'.mz x = true ↔ Leads pts (fun x => C.mz x = true) x := by
  constructor
  · exact h.within (P := Leads pts _) (fun x hx y hy => .step hx hy) (fun x hx => .base hx) x
  · refine leads_closed (fun x hx => h.mono.1 x hx) (fun x hx y hy => ?_) x
    have hs : C'.sc x = true := by
      cases e : C'.sc x with
      | true => rfl
      | false =>
        have := hno x
        rw [show C'.grey x = (C'.mz x && !C'.sc x) from rfl, hx, e] at this
        cases this
    rcases h.scanned x hs with h1 | h1
    · exact h.mono.1 y (hcl x h1 y hy)
    · exact h1 y hy
theorem Steps.end_ (hno : ∀ x, C'.grey x = false) (hs : ∀ x, C'.sc x = true → C'.mz x = true) (x : Nat) : C'.sc x = C'.mz x := by
  cases e : C'.mz x with
  | true =>
    cases e2 : C'.sc x with
    | true => rfl
    | false =>
      have := hno x
      rw [show C'.grey x = (C'.mz x && !C'.sc x) from rfl, e, e2] at this
      cases this
  | false =>
    cases e2 : C'.sc x with
    | false => rfl
    | true => rw [hs x e2] at e; cases e
/-- So many steps as there are objects end it. -/
theorem Steps.enough (h : Steps pts d C C') {l : List Nat} (hn : l.Nodup) (hc : ∀ x ∈ l, ∀ y ∈ pts x, y ∈ l) (h0 : ∀ x, C.mz x = true → x ∈ l) (hd : l.length ≤ d) : ∀ x, C'.grey x = false := by
  have h1 := h.count hn hc h0
  have h2 := List.countP_le_length (p := C'.sc) (l := l)
  have h3 : l.countP C'.sc = l.length := by omega
  rw [List.countP_eq_length] at h3
  intro x
  cases e : C'.grey x with
  | false => rfl
  | true =>
    obtain ⟨e1, e2⟩ := grey_iff.1 e
    have := h3 x (h.within (P := fun x => x ∈ l) hc h0 x e1)
    rw [this] at e2
    cases e2
end

/-- The grey stack: with the sign that it ran over or without, no grey one is forgotten. -/
structure Grey (C : Col) (gs : List Nat) (room : Nat) (over : Bool) : Prop where
  some_ : over = false → ∀ r, C.grey r = true → r ∈ gs
  fits : gs.length ≤ room

section
variable {C : Col} {gs : List Nat} {room : Nat} {over : Bool}
theorem Grey.push {r : Nat} {C' : Col} (h : Grey C gs room over) (hg : ∀ x, C'.grey x = true → C.grey x = true ∨ x = r) (hr : gs.length < room) : Grey C' (gs ++ [r]) room over :=
  ⟨fun ho x hx => by
    rcases hg x hx with h1 | rfl
    · exact List.mem_append.2 (.inl (h.some_ ho x h1))
    · simp
   , by simp; omega⟩
theorem Grey.full {C' : Col} (h : Grey C gs room over) : Grey C' gs room true := ⟨fun ho => (by cases ho), h.fits⟩
theorem Grey.less {C' : Col} (h : Grey C gs room over) (hg : ∀ x, C'.grey x = true → C.grey x = true) : Grey C' gs room over := ⟨fun ho x hx => h.some_ ho x (hg x hx), h.fits⟩
theorem Grey.pop {r : Nat} (h : Grey C (gs ++ [r]) room over) (hr : C.grey r = false) : Grey C gs room over := by
  refine ⟨fun ho x hx => ?_, by have := h.fits; simp at this; omega⟩
  rcases List.mem_append.1 (h.some_ ho x hx) with h1 | h1
  · exact h1
  · simp at h1
    subst h1
    rw [hr] at hx
    cases hx
theorem Grey.popScan {r : Nat} (h : Grey C (gs ++ [r]) room over) : Grey (C.scan r) gs room over :=
  ⟨fun ho x hx => by
    have hx2 : C.mz x = true ∧ (C.sc x || decide (x = r)) = false := grey_iff.1 hx
    simp only [Bool.or_eq_false_iff, decide_eq_false_iff_not] at hx2
    rcases List.mem_append.1 (h.some_ ho x (grey_iff.2 ⟨hx2.1, hx2.2.1⟩)) with h1 | h1
    · exact h1
    · simp at h1; exact absurd h1 hx2.2.2
   , by have := h.fits; simp at this; omega⟩
theorem Grey.empty (h : Grey C [] room false) : ∀ x, C.grey x = false := fun x => by
  cases e : C.grey x with
  | false => rfl
  | true => have := h.some_ rfl x e; cases this
end
end Go.Proofs.Ytbcabjpafeocgaa

/-
  Objects that point to each other, as plain data, and the iterator over where one points, in plain numbers. Conditions: as each theorem says.
-/
namespace Go.Proofs.Ytbcabjpafeocgaa
set_option linter.unusedVariables false
set_option linter.unusedSimpArgs false
open Go.RowKit Go.Shelf

/-- The objects O of an arena, and their fields. -/
structure Heap (A : AR) (O : Nat → Prop) (fs : Nat → List Nat) : Prop where
  wf : A.Wf
  obj : ∀ r, O r → ∃ x, Obj A r ((fs r).map fun (y : Nat) => (y : Int)) x
  closed : ∀ r, O r → ∀ y ∈ fs r, y = 0 ∨ O y
/-- Where they point. -/
def ptsOf (fs : Nat → List Nat) (r : Nat) : List Nat := (fs r).filter fun y => !(y == 0)

section
variable {A : AR} {O : Nat → Prop} {fs : Nat → List Nat}
theorem Heap.pos (h : Heap A O fs) {r : Nat} (hr : O r) : 0 < r ∧ r < 3000 := by
  obtain ⟨x, ho⟩ := h.obj r hr
  have := ho.pos h.wf
  omega
theorem Heap.lt (h : Heap A O fs) {r : Nat} (hr : O r) : (r : Int) < A.size := by
  obtain ⟨x, ho⟩ := h.obj r hr
  exact (h.wf.lt ho.tk).2.2
theorem Heap.pts (h : Heap A O fs) {r : Nat} (hr : O r) : ∀ y ∈ ptsOf fs r, O y := by
  intro y hy
  rw [ptsOf, List.mem_filter] at hy
  rcases h.closed r hr y hy.1 with h1 | h1
  · subst h1; simp at hy
  · exact h1
theorem ptsOf_len (h : Heap A O fs) {r : Nat} (hr : O r) : (ptsOf fs r).length ≤ 6 ∧ (fs r).length ≤ 6 := by
  obtain ⟨x, ho⟩ := h.obj r hr
  have h1 := ho.six
  rw [List.length_map] at h1
  exact ⟨Nat.le_trans (List.length_filter_le _ _) h1, h1⟩

theorem prefix_map {α β : Type} {f : β → α} : ∀ {xs pre' : List β} {x : α}, pre' <+: xs → (pre'.map f ++ [x]) <+: xs.map f → ∃ x', f x' = x ∧ (pre' ++ [x']) <+: xs
  | [], [], x, _, h => by simp at h
  | a :: xs, [], x, _, h => by
    obtain ⟨t, ht⟩ := h
    simp at ht
    exact ⟨a, ht.1.symm, ⟨xs, by simp⟩⟩
  | [], b :: pre', x, h, _ => by simp at h
  | a :: xs, b :: pre', x, h1, h2 => by
    obtain ⟨t, ht⟩ := h1
    simp at ht
    obtain ⟨rfl, rfl⟩ := ht
    rw [List.map_cons, List.map_cons, List.cons_append, List.cons_prefix_cons] at h2
    obtain ⟨x', hx, hp⟩ := prefix_map (f := f) ⟨t, rfl⟩ h2.2
    exact ⟨x', hx, by rw [List.cons_append, List.cons_prefix_cons]; exact ⟨rfl, hp⟩⟩

/-- An iterator's numbers in another spelling. -/
theorem Iter.ofMap {α β : Type} {P : Program} {gf : Nat} {lb : Array Value} {encs : α → Array Value} {f : β → α} {xs : List β} {K : List Res} (h : Iter P gf lb encs (xs.map f) (fun _ => K)) : Iter P gf lb (fun x => encs (f x)) xs (fun _ => K) := by
  intro l w0 Φ Φx W R hY h0 hS
  refine (h l w0 (fun pre R => ∃ pre', pre = pre'.map f ∧ pre' <+: xs ∧ Φ pre' R) (fun pre R => ∃ pre', pre = pre'.map f ∧ pre' <+: xs ∧ Φx pre' R) W R ?_ ⟨[], rfl, List.nil_prefix, h0⟩ hS).mono ?_
  · rintro pre x R H W hpre ⟨pre', rfl, hp, hΦ⟩ hS
    obtain ⟨x', rfl, hp'⟩ := prefix_map hp hpre
    refine YieldAt.mono (hY pre' x' R H W hp' hΦ hS) ?_
    rintro e W' (⟨rfl, R', h1, h2⟩ | ⟨rfl, R', h1, h2⟩)
    · exact .inl ⟨rfl, R', ⟨pre' ++ [x'], by simp, hp', h1⟩, h2⟩
    · exact .inr ⟨rfl, R', ⟨pre' ++ [x'], by simp, hp', h1⟩, h2⟩
  · rintro e W' ⟨hv, (⟨R', ⟨pre', he, hp, hΦ⟩, hs⟩ | ⟨pre, R', _, ⟨pre', _, hp, hΦ⟩, hs⟩)⟩
    · have hl : pre'.length = xs.length := by
        have := congrArg List.length he
        simpa using this.symm
      have : pre' = xs := hp.eq_of_length hl
      subst this
      exact ⟨hv, .inl ⟨R', hΦ, hs⟩⟩
    · exact ⟨hv, .inr ⟨pre', R', hp, hΦ, hs⟩⟩

theorem hpoints_iter (B B' a : Nat) (h : Heap A O fs) {r : Nat} (hr : O r) :
    Iter Try.prog 86 #[.pointer (some ⟨B, 0, none⟩), .pointer (some ⟨B', 0, none⟩)] (fun x : Nat => #[.int .i64 (x : Int)]) (ptsOf fs r) (fun _ => [blkR B 27 #[.pointer (some ⟨a, 0, none⟩)], blkR B' 35 #[.int .i64 (r : Int)], arenaR a A]) := by
  obtain ⟨x, ho⟩ := h.obj r hr
  have h1 := opoints_iter B B' a A h.wf ho
  refine Iter.ofMap (f := fun (y : Nat) => (y : Int)) (encs := fun x : Int => #[.int .i64 x]) ?_
  have e : (((fs r).map fun (y : Nat) => (y : Int)).filter fun v => !(v == 0)) = (ptsOf fs r).map fun (y : Nat) => (y : Int) := by
    unfold ptsOf
    rw [List.filter_map]
    congr 1
    refine List.filter_congr (fun y _ => ?_)
    have e0 : (((y : Nat) : Int) == 0) = (y == 0) := by rw [Bool.eq_iff_iff]; simp
    show (!(((y : Nat) : Int) == 0)) = !(y == 0)
    rw [e0]
  rw [e] at h1
  exact h1
end
end Go.Proofs.Ytbcabjpafeocgaa

/-
  Graphs of objects: what layer 11's Made makes, as plain data, and the contracts of layer 4 in these words. Conditions: as each theorem says.
-/
namespace Go.Proofs.Ytbcabjpafeocgaa
set_option linter.unusedVariables false
set_option linter.unusedSimpArgs false
open Go.RowKit Go.Shelf

/-- The objects rs, all that there are in an arena of 64 pages, and their fields. -/
structure Gr (A : AR) (rs : List Nat) (fs : Nat → List Nat) : Prop where
  heap : Heap A (fun x => x ∈ rs) fs
  nodup : rs.Nodup
  total : A.total = rs.length
  n : A.n = 64
  out : ∀ x, x ∉ rs → fs x = []
  fresh : FreshA A
  clsf : ∀ x ∈ rs, A.cls ((x - 1) / 32) = classZ ((fs x).length : Int)

def ints2 (l : List Nat) : List Int := l.map fun (y : Nat) => (y : Int)
theorem ints2_set (l : List Nat) (j y : Nat) : ints2 (l.set j y) = (ints2 l).set j (y : Int) := by simp [ints2, List.map_set]

section
variable {A A' : AR} {O : Nat → Prop} {rs : List Nat} {fs : Nat → List Nat} {r : Nat}

theorem gr_none (ids : Nat × Nat × Nat) (hw : (AR.new 64 ids).Wf) : Gr (AR.new 64 ids) [] (fun _ => []) :=
  ⟨⟨hw, by simp, by simp⟩, List.nodup_nil, by rw [(new_total 64 ids (by omega)).1]; rfl, (new_total 64 ids (by omega)).2.1, by simp, FreshA.none ((hw.empty (new_total 64 ids (by omega)).2.2).1), by simp⟩
theorem Gr.size (h : Gr A rs fs) : A.size = ((2049 : Nat) : Int) := by
  have := h.n
  unfold AR.size
  rw [this]
theorem Gr.room (h : Gr A rs fs) (hl : rs.length < 64) : A.total < (A.n : Int) := by
  rw [h.total, h.n]
  omega
theorem Gr.born {n : Nat} (h : Gr A rs fs) (hN : NewIs A n r A') : Gr A' (rs ++ [r]) (updT fs r (List.replicate n 0)) := by
  have hr : r ∉ rs := by
    intro hm
    obtain ⟨x, ho⟩ := h.heap.obj r hm
    exact (hN.old _ _ _ ho).2 rfl
  refine ⟨⟨hN.wf, ?_, ?_⟩, ?_, ?_, hN.n.trans h.n, ?_, hN.fresh h.fresh, ?_⟩
  · intro y hy
    rcases List.mem_append.1 hy with h1 | h1
    · obtain ⟨x, ho⟩ := h.heap.obj y h1
      have hne : y ≠ r := fun e => hr (e ▸ h1)
      refine ⟨x, ?_⟩
      simp only [updT, hne, if_false]
      exact (hN.old _ _ _ ho).1
    · simp at h1; subst h1
      refine ⟨0, ?_⟩
      simp only [updT, if_true, List.map_replicate]
      exact hN.obj
  · intro y hy z hz
    rcases List.mem_append.1 hy with h1 | h1
    · have hne : y ≠ r := fun e => hr (e ▸ h1)
      simp only [updT, hne, if_false] at hz
      rcases h.heap.closed y h1 z hz with h2 | h2
      · exact .inl h2
      · exact .inr (List.mem_append.2 (.inl h2))
    · simp at h1; subst h1
      simp only [updT, if_true] at hz
      exact .inl (List.mem_replicate.1 hz).2
  · rw [List.nodup_append]
    refine ⟨h.nodup, by simp, ?_⟩
    intro y hy z hz e
    simp at hz
    subst hz
    exact hr (e ▸ hy)
  · rw [hN.total, h.total]; simp
  · intro y hy
    rw [List.mem_append, not_or] at hy
    have hne : y ≠ r := fun e => hy.2 (by simp [e])
    simp only [updT, hne, if_false]
    exact h.out y hy.1
  · intro y hy
    rw [hN.cls]
    rcases List.mem_append.1 hy with h1 | h1
    · have hne : y ≠ r := fun e => hr (e ▸ h1)
      simp only [updT, hne, if_false]
      unfold updN
      by_cases e : (y - 1) / 32 = (r - 1) / 32
      · rw [if_pos e, ← h.clsf y h1, e]
        rcases hN.was with hw | hw
        · exact hw.symm
        · obtain ⟨x, ho⟩ := h.heap.obj y h1
          obtain ⟨q, k, hq, h0, _, hk, he, _, _, hdiv⟩ := h.heap.wf.at_ ho.tk
          rw [← e, hdiv] at hw
          omega
      · rw [if_neg e]; exact h.clsf y h1
    · simp at h1; subst h1
      simp [updN, updT]

theorem Heap.store (h : Heap A O fs) (hr : O r) (hS : StoreIs A r A') {x : Int} {l : List Nat} (ho : Obj A' r (ints2 l) x) (hl : ∀ y ∈ l, y = 0 ∨ O y) : Heap A' O (updT fs r l) := by
  refine ⟨hS.wf, ?_, ?_⟩
  · intro y hy
    by_cases e : y = r
    · subst e
      refine ⟨x, ?_⟩
      simp only [updT, if_true]
      exact ho
    · obtain ⟨x', ho'⟩ := h.obj y hy
      refine ⟨x', ?_⟩
      simp only [updT, e, if_false]
      exact hS.old _ _ _ e ho'
  · intro y hy z hz
    by_cases e : y = r
    · subst e
      simp only [updT, if_true] at hz
      exact hl z hz
    · simp only [updT, e, if_false] at hz
      exact h.closed y hy z hz
theorem Gr.store (h : Gr A rs fs) (hr : r ∈ rs) (hS : StoreIs A r A') {l : List Nat} (hH : Heap A' (fun x => x ∈ rs) (updT fs r l)) (hll : l.length = (fs r).length := by simp) : Gr A' rs (updT fs r l) :=
  ⟨hH, h.nodup, hS.total.trans h.total, hS.n.trans h.n, fun x hx => by
    have hne : x ≠ r := fun e => hx (e ▸ hr)
    simp only [updT, hne, if_false]
    exact h.out x hx, h.fresh.same hS.n hS.cls hS.tk, fun x hx => by
    rw [hS.cls, h.clsf x hx]
    by_cases e : x = r
    · subst e; simp only [updT, if_true]; rw [hll]
    · simp only [updT, e, if_false]⟩
/-- The objects have as many fields as the numbers say. -/
def Lens (D : Nat → Nat → Int) (rs : List Nat) (fs : Nat → List Nat) : Prop := ∀ (j x : Nat), rs[j]? = some x → ((fs x).length : Int) = D j 0 % 7
theorem lens_nil (D : Nat → Nat → Int) (fs : Nat → List Nat) : Lens D [] fs := fun j x h => by simp at h
theorem Lens.born {D : Nat → Nat → Int} {n k : Nat} (hL : Lens D rs fs) (h : Gr A rs fs) (hN : NewIs A n r A') (hk : rs.length = k) (hd : D k 0 % 7 = (n : Int)) : Lens D (rs ++ [r]) (updT fs r (List.replicate n 0)) := by
  intro j x hx
  have hr : r ∉ rs := by
    intro hm
    obtain ⟨z, ho⟩ := h.heap.obj r hm
    exact (hN.old _ _ _ ho).2 rfl
  by_cases e : j < rs.length
  · rw [List.getElem?_append_left e] at hx
    have hne : x ≠ r := fun e2 => hr (e2 ▸ List.mem_of_getElem? hx)
    simp only [updT, hne, if_false]
    exact hL j x hx
  · rw [List.getElem?_append_right (by omega)] at hx
    obtain ⟨h1, h2⟩ := List.getElem?_eq_some_iff.1 hx
    simp at h1 h2
    have : j = k := by omega
    subst h2
    subst this
    simp [updT, hd]
theorem Lens.store {D : Nat → Nat → Int} (hL : Lens D rs fs) (r j y : Nat) : Lens D rs (updT fs r ((fs r).set j y)) := by
  intro i x hx
  by_cases e : x = r
  · subst e; simp only [updT, if_true, List.length_set]; exact hL i x hx
  · simp only [updT, e, if_false]; exact hL i x hx
theorem Gr.ptsIn (h : Gr A rs fs) : ∀ x ∈ rs, ∀ y ∈ ptsOf fs x, y ∈ rs := fun x hx => h.heap.pts hx
theorem Gr.ptsOut (h : Gr A rs fs) {x : Nat} (hx : x ∉ rs) : ptsOf fs x = [] := by unfold ptsOf; rw [h.out x hx]; rfl
end

section
variable {w0 w : World} {L : List Res} {i a : Nat} {A : AR} {O : Nat → Prop} {fs : Nat → List Nat} {r : Nat}
theorem HFields (S : Sep w0 w L) (i : Nat) (hi : L[i]? = some (arenaR a A)) (h : Heap A O fs) (hr : O r) :
    Calls Try.prog 53 #[.pointer (some ⟨a, 0, none⟩), .int .i64 (r : Int)] w fun e w' => e = .returned (.int .i64 ((fs r).length : Int)) ∧ Sep w0 w' L := by
  obtain ⟨x, ho⟩ := h.obj r hr
  have := OFields S i hi h.wf ho
  rw [List.length_map] at this
  exact this
theorem HField (S : Sep w0 w L) (i : Nat) (hi : L[i]? = some (arenaR a A)) (h : Heap A O fs) (hr : O r) (j y : Nat) (hj : (fs r)[j]? = some y) :
    Calls Try.prog 87 #[.pointer (some ⟨a, 0, none⟩), .int .i64 (r : Int), .int .i64 (j : Int)] w fun e w' => e = .returned (.tuple #[.int .i64 (y : Int), .int .i64 0]) ∧ Sep w0 w' L := by
  obtain ⟨x, ho⟩ := h.obj r hr
  exact OField S i hi h.wf ho j (y : Int) (by rw [List.getElem?_map, hj]; rfl)
theorem HSetField (S : Sep w0 w L) (i : Nat) (hi : L[i]? = some (arenaR a A)) (h : Heap A O fs) (hr : O r) (j y : Nat) (hj : j < (fs r).length) (hy : y = 0 ∨ O y) :
    Calls Try.prog 54 #[.pointer (some ⟨a, 0, none⟩), .int .i64 (r : Int), .int .i64 (j : Int), .int .i64 (y : Int)] w fun e w' => ∃ A' : AR, e = .returned (.int .i64 0) ∧ Sep w0 w' (L.set i (arenaR a A')) ∧ StoreIs A r A' ∧ Heap A' O (updT fs r ((fs r).set j y)) := by
  obtain ⟨x, ho⟩ := h.obj r hr
  refine (OSetField S i hi h.wf ho j (by simpa using hj) (y : Int)).mono ?_
  rintro e w' ⟨A', rfl, hs, hS, ho'⟩
  refine ⟨A', rfl, hs, hS, h.store hr hS (x := x) (l := (fs r).set j y) (by rw [ints2_set]; exact ho') ?_⟩
  intro z hz
  rcases List.mem_or_eq_of_mem_set hz with h1 | rfl
  · exact h.closed r hr z h1
  · exact hy
end
end Go.Proofs.Ytbcabjpafeocgaa

/-
  The stack of layer 10 in memory, and a contract for each of its methods. Conditions: as each contract says.
-/
namespace Go.Proofs.Ytbcabjpafeocgaa
open Go.RowKit

theorem greyInfo : (Try.prog.info? 35).map (fun i => (i.zero, i.size, i.bytes)) = some (some (.int .i64 0), 1, 8) := by kernel_rfl

/-- A stack at block b: list, room, over; v is the slice in its field. -/
def GreyV (w : World) (b : Nat) (v : Value) (l : List Int) (room : Int) (over : Bool) : Prop :=
  Blk w b 133 #[v, .int .i64 room, .bool over] ∧ w.ownsRow 0 35 1 v l.length (l.map (.int .i64))

def GreyAt (w : World) (F : List Nat) (b : Nat) (l : List Int) (room : Int) (over : Bool) : Prop :=
  ∃ v, F = b :: v.ownBlock.toList ∧ GreyV w b v l room over

theorem new_any (room : Int) (w : World) :
    Calls Try.prog 58 #[.int .i64 room] w fun e w' => e = .returned (.pointer (some ⟨w.heap.size, 0, none⟩)) ∧ w' = w.alloc (.cells #[.slice none 0 0, .int .i64 (max room 0), .bool false] 133) := by
  go_enter Try.func58, Try.ntmps58
  go_wp2
  all_goals go_ret
  · rw [Int.max_eq_right (by omega)]; exact ⟨rfl, rfl⟩
  · rw [Int.max_eq_left (by omega)]; exact ⟨rfl, rfl⟩

set_option maxRecDepth 100000 in
theorem push_full (b : Nat) (v : Value) (l : List Int) (r : Int) (room : Int) (over : Bool) (w : World) (h : GreyV w b v l room over) (hf : room ≤ l.length) :
    Calls Try.prog 76 #[.pointer (some ⟨b, 0, none⟩), .int .i64 r] w fun e w' => e = .returned (.bool false) ∧ GreyV w' b v l room true ∧ Chg [b] w w' := by
  have h0 := h.1.cell 0
  have h1 := h.1.cell 1
  have h2 := h.1.cell 2
  have f2 := h.1.frozen 2
  have hne := row_blk_ne h.2 h.1 (by decide)
  obtain ⟨A, cap, rfl, hn, hm⟩ := row_slice h.2
  simp at h0 h1 h2
  have HB := Lib.hid h
  have HN := Lib.hid hne
  clear h hne
  go_enter Try.func76, Try.ntmps76
  go_wp2
  go_quiet (fail)
  go_wp2
  go_ret
  have hc : Chg [b] w ((w.drewN nq).setCell ⟨b, 2, none⟩ (.bool true)) := ((Chg.refl _ w).drewN nq).setCell (.inl (by simp)) _
  refine ⟨rfl, ⟨by simpa using (HB.out.1.drewN nq).set_ 2 (.bool true), hc.row HB.out.2 (fun k hk => ?_)⟩, hc⟩
  rintro hm
  simp at hm
  subst hm
  exact HN.out hk

set_option maxRecDepth 100000 in
theorem push_room (b : Nat) (v : Value) (l : List Int) (r : Int) (room : Int) (over : Bool) (w : World) (h : GreyV w b v l room over) (hf : l.length < room) (hl : l.length ≤ 1000000) :
    Calls Try.prog 76 #[.pointer (some ⟨b, 0, none⟩), .int .i64 r] w fun e w' => e = .returned (.bool true) ∧ ∃ v', (v'.ownBlock = v.ownBlock ∨ ∃ g, v'.ownBlock = some g ∧ w.heap.size ≤ g) ∧ GreyV w' b v' (l ++ [r]) room over ∧ Chg (b :: v.ownBlock.toList) w w' := by
  have h0 := h.1.cell 0
  have h1 := h.1.cell 1
  have f0 := h.1.frozen 0
  have hne := row_blk_ne h.2 h.1 (by decide)
  obtain ⟨i0, hi, hz0, hz1, hz2⟩ := info_parts greyInfo
  obtain ⟨A, cap, rfl, hn, hm⟩ := row_slice h.2
  simp at h0 h1
  have HR := Lib.hid h.2
  have HB := Lib.hid h.1
  have HN := Lib.hid hne
  clear h hne
  go_enter Try.func76, Try.ntmps76
  go_wp2
  go_quiet (fail)
  go_wp2_with (at_builtin; refine wpList_append_own_at _ rfl _ _ 28 rfl 0 35 i0 (.int .i64 0) 1 8 Try.underlying28 hi hz0 hz1 hz2 rfl (by decide) _ _ _ rfl (World.ownsRow.alloc HR.out _) ⟨w.heap.size, 0, none⟩ 1 1 [.int .i64 r] rfl rfl ?c1 ?c2 ?c3 ?c4 ?c5 ?_)
  case c1 => exact cell_one_new _ _ _
  case c2 => intro u hu; simp at hu; subst hu; rfl
  case c3 => unfold maxLen; omega
  case c4 => omega
  case c5 => omega
  intro v' w1 hown hgrow _ hblk
  obtain ⟨g, cap', rfl, _, _, _⟩ := row_some hown (by omega)
  have hB1 : Blk w1 b 133 #[.slice A l.length cap, .int .i64 room, .bool over] := (hgrow.block b (by have := HB.out.lt; simp; omega) (fun e => HN.out e.symm)).trans ((HB.out.drewN nq).alloc _)
  have hC1 : Chg (b :: (Value.slice A l.length cap).ownBlock.toList) w w1 := Chg.grown (((Chg.refl _ w).drewN nq).alloc _) hgrow (fun k hk => .inl (by simp [hk]))
  have e0 := hB1.cell 0
  have e1 := hB1.frozen 0
  simp at e0
  have HB1 := Lib.hid hB1
  have HC1 := Lib.hid hC1
  have HO := Lib.hid hown
  have HK := Lib.hid hblk
  clear hB1 hC1 hown hblk hgrow
  go_wp2
  go_ret
  have hc : Chg [b] w1 (w1.setCell ⟨b, 0, none⟩ (.slice (some ⟨g, 0, none⟩) (l.length + 1) cap')) := (Chg.refl _ w1).setCell (.inl (by simp)) _
  refine ⟨rfl, .slice (some ⟨g, 0, none⟩) (l.length + 1) cap', ?_, ⟨by simpa using HB1.out.set_ 0 (.slice (some ⟨g, 0, none⟩) (l.length + 1) cap'), ?_⟩, HC1.out.trans hc (by simp)⟩
  · rcases HK.out with h | h
    · exact .inl h
    · exact .inr ⟨_, h, by simp⟩
  · have h3 : w1.ownsRow 0 35 1 (.slice (some ⟨g, 0, none⟩) (l.length + 1) cap') (l ++ [r]).length ((l ++ [r]).map (.int .i64)) := by simpa using HO.out
    refine hc.row h3 (fun k hk hm => ?_)
    simp at hm
    subst hm
    exact row_blk_ne HO.out HB1.out (by decide) hk

section
variable {w w' : World} {F G : List Nat} {b : Nat} {l : List Int} {room : Int} {over : Bool}

theorem GreyAt.mem (h : GreyAt w F b l room over) : b ∈ F := by obtain ⟨v, rfl, _⟩ := h; simp
theorem GreyAt.keep (h : GreyAt w F b l room over) (hc : Chg G w w') (hd : ∀ x ∈ F, x ∉ G) : GreyAt w' F b l room over := by
  obtain ⟨v, rfl, h1, h2⟩ := h
  exact ⟨v, rfl, hc.blk h1 (hd _ (by simp)), hc.row h2 (fun k hk => hd _ (by simp [hk]))⟩
theorem GreyAt.lt (h : GreyAt w F b l room over) : ∀ x ∈ F, x < w.heap.size := by
  obtain ⟨v, rfl, h1, h2⟩ := h
  intro x hx
  rcases List.mem_cons.1 hx with rfl | hx
  · exact h1.lt
  · exact row_lt h2 (by simpa using hx)

theorem New (w : World) (room : Int) : Calls Try.prog 58 #[.int .i64 room] w fun e w' => ∃ b, e = .returned (.pointer (some ⟨b, 0, none⟩)) ∧ b = w.heap.size ∧ GreyAt w' [b] b [] (max room 0) false ∧ Chg [] w w' := by
  refine (new_any room w).mono ?_
  rintro e w' ⟨rfl, rfl⟩
  refine ⟨_, rfl, rfl, ⟨.slice none 0 0, by simp [Value.ownBlock], Blk.new _ _ _, by simp, .inl ⟨rfl, rfl⟩⟩, (Chg.refl _ w).alloc _⟩
theorem PushNo (h : GreyAt w F b l room over) (r : Int) (hf : room ≤ l.length) : Calls Try.prog 76 #[.pointer (some ⟨b, 0, none⟩), .int .i64 r] w fun e w' => e = .returned (.bool false) ∧ GreyAt w' F b l room true ∧ Chg F w w' := by
  obtain ⟨v, rfl, h1⟩ := h
  refine (push_full _ _ _ _ _ _ _ h1 hf).mono ?_
  rintro e w' ⟨rfl, h2, h3⟩
  exact ⟨rfl, ⟨v, rfl, h2⟩, h3.mono (by intro x hx; simp at hx; subst hx; simp)⟩
theorem PushYes (h : GreyAt w F b l room over) (r : Int) (hf : l.length < room) (hl : l.length ≤ 1000000) : Calls Try.prog 76 #[.pointer (some ⟨b, 0, none⟩), .int .i64 r] w fun e w' => ∃ F', e = .returned (.bool true) ∧ GreyAt w' F' b (l ++ [r]) room over ∧ Chg F w w' ∧ Sub w F' F := by
  obtain ⟨v, rfl, h1⟩ := h
  refine (push_room _ _ _ _ _ _ _ h1 hf hl).mono ?_
  rintro e w' ⟨rfl, v', hv, h2, h3⟩
  refine ⟨_, rfl, ⟨v', rfl, h2⟩, h3, ?_⟩
  intro x hx
  rcases List.mem_cons.1 hx with rfl | hx
  · simp
  · rcases hv with hv | ⟨g, hv, hg⟩
    · rw [hv] at hx; simp at hx; simp [hx]
    · rw [hv] at hx; simp at hx; subst hx; exact .inr hg
end
end Go.Proofs.Ytbcabjpafeocgaa

/-
  Sets of numbers, and the grey stack, where memory is a list of things: a contract for each method. Conditions: as each contract says.
-/
namespace Go.Proofs.Ytbcabjpafeocgaa
set_option linter.unusedVariables false
set_option linter.unusedSimpArgs false
open Go.RowKit Go.Shelf

/-- The grey stack at block b. -/
def greyR (b : Nat) (l : List Int) (room : Int) (over : Bool) : Res := ⟨fun w F => GreyAt w F b l room over, fun h hc hF => h.keep hc hF, fun h => h.lt⟩

section
variable {w0 w : World} {L : List Res} {i b : Nat} {l : List Int} {room : Int} {over : Bool}
theorem TGNew (S : Sep w0 w L) (room : Int) : Calls Try.prog 58 #[.int .i64 room] w fun e w' => ∃ b, e = .returned (.pointer (some ⟨b, 0, none⟩)) ∧ Sep w0 w' (greyR b [] (max room 0) false :: L) := by
  refine (New w room).mono ?_
  rintro e w' ⟨b, rfl, hb, hg, hc⟩
  exact ⟨b, rfl, S.new (r := greyR b [] (max room 0) false) (F := [b]) hg (by intro x hx; simp at hx; omega) hc⟩
theorem TGPushNo (S : Sep w0 w L) (i : Nat) (hi : L[i]? = some (greyR b l room over)) (r : Int) (hf : room ≤ l.length) : Calls Try.prog 76 #[.pointer (some ⟨b, 0, none⟩), .int .i64 r] w fun e w' => e = .returned (.bool false) ∧ Sep w0 w' (L.set i (greyR b l room true)) :=
  S.call i hi _ (fun F h => (PushNo h r hf).mono fun e w' ⟨h1, h2, h3⟩ => ⟨F, h1, h2, GrewF.self _ _, h3⟩)
theorem TGPushYes (S : Sep w0 w L) (i : Nat) (hi : L[i]? = some (greyR b l room over)) (r : Int) (hf : l.length < room) (hl : l.length ≤ 1000000) : Calls Try.prog 76 #[.pointer (some ⟨b, 0, none⟩), .int .i64 r] w fun e w' => e = .returned (.bool true) ∧ Sep w0 w' (L.set i (greyR b (l ++ [r]) room over)) :=
  S.call i hi _ (fun F h => (PushYes h r hf hl).mono fun e w' ⟨F', h1, h2, h3, h4⟩ => ⟨F', h1, h2, h4, h3⟩)
/-- Either way: what the stack is behind a push. -/
theorem TGPush (S : Sep w0 w L) (i : Nat) (hi : L[i]? = some (greyR b l room over)) (r : Int) (hl : l.length ≤ 1000000) : Calls Try.prog 76 #[.pointer (some ⟨b, 0, none⟩), .int .i64 r] w fun e w' => ∃ v, e = .returned (.bool v) ∧ Sep w0 w' (L.set i (greyR b (if l.length < room then l ++ [r] else l) room (if l.length < room then over else true))) := by
  by_cases h : (l.length : Int) < room
  · refine (TGPushYes S i hi r h hl).mono ?_
    rintro e w' ⟨rfl, hs⟩
    exact ⟨_, rfl, by rw [if_pos h, if_pos h]; exact hs⟩
  · refine (TGPushNo S i hi r (by omega)).mono ?_
    rintro e w' ⟨rfl, hs⟩
    exact ⟨_, rfl, by rw [if_neg h, if_neg h]; exact hs⟩
end

section
variable {w0 w : World} {L : List Res} {i b : Nat} {n : Int} {S : Nat → Bool}
theorem TSNew (h : Sep w0 w L) (n : Int) (hn : 0 ≤ n) : Calls Try.prog 56 #[.int .i64 n] w fun e w' => e = .returned (.pointer (some ⟨w.heap.size, 0, none⟩)) ∧ Sep w0 w' (setR w.heap.size n (fun _ => false) :: L) := by
  refine (SNew n hn w).mono ?_
  rintro e w' ⟨rfl, hs, hc⟩
  exact ⟨rfl, h.new (r := setR w.heap.size n (fun _ => false)) (F := [w.heap.size]) ⟨none, rfl, hs⟩ (by simp) hc⟩
theorem TSPut (h : Sep w0 w L) (i : Nat) (hi : L[i]? = some (setR b n S)) (hn1 : n ≤ 100000) (I : Nat) (hI : (I : Int) < n) :
    Calls Try.prog 59 #[.pointer (some ⟨b, 0, none⟩), .int .i64 (I : Int)] w fun e w' => e = .returned (.bool (!S I)) ∧ Sep w0 w' (L.set i (setR b n (fun j => S j || decide (j = I)))) := by
  refine h.call i hi _ ?_
  rintro F ⟨lo, rfl, hs⟩
  refine (SPutIn hs hn1 I hI).mono ?_
  rintro e w' ⟨lo', rfl, hs', hg, hc⟩
  exact ⟨_, rfl, ⟨lo', rfl, hs'⟩, hg, hc⟩
theorem TSDrop (h : Sep w0 w L) (i : Nat) (hi : L[i]? = some (setR b n S)) (hn1 : n ≤ 100000) (I : Nat) (hI : (I : Int) < n) :
    Calls Try.prog 91 #[.pointer (some ⟨b, 0, none⟩), .int .i64 (I : Int)] w fun e w' => e = .returned (.bool (S I)) ∧ Sep w0 w' (L.set i (setR b n (fun j => S j && !decide (j = I)))) := by
  refine h.call i hi _ ?_
  rintro F ⟨lo, rfl, hs⟩
  refine (SDropIn hs hn1 I hI).mono ?_
  rintro e w' ⟨lo', rfl, hs', hg, hc⟩
  exact ⟨_, rfl, ⟨lo', rfl, hs'⟩, hg, hc⟩
end
end Go.Proofs.Ytbcabjpafeocgaa

/-
  The marker (layer 11): what it holds, and a contract for each of its short methods. Conditions: as each contract says.
-/
namespace Go.Proofs.Ytbcabjpafeocgaa
set_option linter.unusedVariables false
set_option linter.unusedSimpArgs false
open Go.RowKit Go.Shelf

/-- The numbers as the stack holds them. -/
def ints (l : List Nat) : List Int := l.map (fun (r : Nat) => (r : Int))

/-- What a marker owns: its record, its two sets, its stack. -/
structure Own3 where
  b1 : Nat
  b2 : Nat
  b3 : Nat
  gs : List Nat
  room : Nat
  over : Bool
def markParts (m a n : Nat) (o : Own3) (C : Col) : List Res :=
  [blkR m 85 #[.pointer (some ⟨a, 0, none⟩), .pointer (some ⟨o.b1, 0, none⟩), .pointer (some ⟨o.b2, 0, none⟩), .pointer (some ⟨o.b3, 0, none⟩)], setR o.b1 (n : Int) C.mz, setR o.b2 (n : Int) C.sc, greyR o.b3 (ints o.gs) (o.room : Int) o.over]
/-- The stack knows what is grey, and holds numbers of objects alone. -/
structure MarkOk (n : Nat) (o : Own3) (C : Col) : Prop where
  grey : Grey C o.gs o.room o.over
  room : 1 ≤ o.room
  few : o.room ≤ 1000000
  refs : ∀ r ∈ o.gs, 0 < r ∧ r < n
  mz : ∀ r, C.mz r = true → 0 < r ∧ r < n
  sc : ∀ r, C.sc r = true → C.mz r = true
  size : n ≤ 100000
def markR (m a n : Nat) (C : Col) : Res := exR fun o : Own3 => pureR (MarkOk n o C) (starR (markParts m a n o C))

section
variable {w0 w : World} {L : List Res} {i m a n : Nat} {C : Col}
theorem mark_open (S : Sep w0 w L) (i : Nat) (hi : L[i]? = some (markR m a n C)) : ∃ o, MarkOk n o C ∧ Sep w0 w (markParts m a n o C ++ L.eraseIdx i) := by
  obtain ⟨o, h1⟩ := (S.lift i hi).unex 0 rfl
  obtain ⟨ho, h2⟩ := h1.unpure 0 rfl
  exact ⟨o, ho, h2.openHead⟩
theorem mark_shutHead {R : List Res} {o : Own3} (ho : MarkOk n o C) (S : Sep w0 w (markParts m a n o C ++ R)) : Sep w0 w (markR m a n C :: R) :=
  S.shutHead.set_ (i := 0) (r' := markR m a n C) rfl (fun F h => ⟨o, ho, h⟩)
theorem mark_shut {r : Res} {o : Own3} (ho : MarkOk n o C) (S : Sep w0 w (markParts m a n o C ++ L.eraseIdx i)) (hi : L[i]? = some r) : Sep w0 w (L.set i (markR m a n C)) := (mark_shutHead ho S).perm (perm_set hi)

theorem KArena (S : Sep w0 w L) (i : Nat) (hi : L[i]? = some (markR m a n C)) : Calls Try.prog 60 #[.pointer (some ⟨m, 0, none⟩)] w fun e w' => e = .returned (.pointer (some ⟨a, 0, none⟩)) ∧ w = w' := by
  obtain ⟨o, ho, hs⟩ := mark_open S i hi
  have c0 := (hs.blk 0 rfl).cell 0
  simp only [List.getElem?_toArray, List.getElem?_cons_zero] at c0
  clear hs ho S hi
  go_enter Try.func60, Try.ntmps60
  go_wp2_with fail
  go_ret
  exact ⟨rfl, rfl⟩
theorem KMarked (S : Sep w0 w L) (i : Nat) (hi : L[i]? = some (markR m a n C)) (r : Nat) (hr : r < n) : Calls Try.prog 32 #[.pointer (some ⟨m, 0, none⟩), .int .i64 (r : Int)] w fun e w' => e = .returned (.bool (C.mz r)) ∧ Sep w0 w' L := by
  obtain ⟨o, ho, hs⟩ := mark_open S i hi
  have c1 := (hs.blk 0 rfl).cell 1
  simp only [List.getElem?_toArray, List.getElem?_cons_zero, List.getElem?_cons_succ] at c1
  have HI := Lib.hid hi
  have HO := Lib.hid ho
  have HC := Lib.hid (TSHas hs 1 rfl (by have := ho.size; omega) r (by omega))
  clear hs ho S hi
  go_enter Try.func32, Try.ntmps32
  go_wp2_with (go_at_call 68; refine HC.out.mono ?_; rintro e w' ⟨rfl, hs⟩; have HS := Lib.hid hs; clear hs HC)
  go_ret
  have := mark_shut HO.out HS.out HI.out
  rw [set_self HI.out] at this
  exact ⟨rfl, this⟩
theorem KScanned (S : Sep w0 w L) (i : Nat) (hi : L[i]? = some (markR m a n C)) (r : Nat) (hr : r < n) : Calls Try.prog 35 #[.pointer (some ⟨m, 0, none⟩), .int .i64 (r : Int)] w fun e w' => e = .returned (.bool (C.sc r)) ∧ Sep w0 w' L := by
  obtain ⟨o, ho, hs⟩ := mark_open S i hi
  have c1 := (hs.blk 0 rfl).cell 2
  simp only [List.getElem?_toArray, List.getElem?_cons_zero, List.getElem?_cons_succ] at c1
  have HI := Lib.hid hi
  have HO := Lib.hid ho
  have HC := Lib.hid (TSHas hs 2 rfl (by have := ho.size; omega) r (by omega))
  clear hs ho S hi
  go_enter Try.func35, Try.ntmps35
  go_wp2_with (go_at_call 68; refine HC.out.mono ?_; rintro e w' ⟨rfl, hs⟩; have HS := Lib.hid hs; clear hs HC)
  go_ret
  have := mark_shut HO.out HS.out HI.out
  rw [set_self HI.out] at this
  exact ⟨rfl, this⟩
theorem KShadeNil (w : World) (m : Nat) : Calls Try.prog 44 #[.pointer (some ⟨m, 0, none⟩), .int .i64 0] w fun e w' => e = .returned (.bool false) ∧ w = w' := by
  go_enter Try.func44, Try.ntmps44
  go_wp2_with fail
  go_ret
  exact ⟨rfl, rfl⟩
theorem ok_shade {o : Own3} (ho : MarkOk n o C) {r : Nat} (h0 : 0 < r) (hr : r < n) :
    MarkOk n { o with gs := if o.gs.length < o.room then o.gs ++ [r] else o.gs, over := if o.gs.length < o.room then o.over else true } (C.shade r) := by
  have hg : ∀ x, (C.shade r).grey x = true → C.grey x = true ∨ x = r := by
    intro x hx
    obtain ⟨h1, h2⟩ := grey_iff.1 hx
    have h1' : (C.mz x || decide (x = r)) = true := h1
    simp only [Bool.or_eq_true, decide_eq_true_eq] at h1'
    rcases h1' with h1' | h1'
    · exact .inl (grey_iff.2 ⟨h1', h2⟩)
    · exact .inr h1'
  refine ⟨?_, ho.room, ho.few, ?_, ?_, ?_, ho.size⟩
  · by_cases h : o.gs.length < o.room
    · simp only [h, if_true]; exact ho.grey.push hg h
    · simp only [h, if_false]; exact ho.grey.full
  · intro x hx
    simp only at hx
    split at hx
    · rcases List.mem_append.1 hx with h1 | h1
      · exact ho.refs x h1
      · simp at h1; subst h1; exact ⟨h0, hr⟩
    · exact ho.refs x hx
  · intro x hx
    have hx' : (C.mz x || decide (x = r)) = true := hx
    simp only [Bool.or_eq_true, decide_eq_true_eq] at hx'
    rcases hx' with h1 | rfl
    · exact ho.mz x h1
    · exact ⟨h0, hr⟩
  · intro x hx
    show (C.mz x || _) = true
    rw [ho.sc x hx]
    rfl
theorem ints_push (l : List Nat) (r : Nat) : ints (l ++ [r]) = ints l ++ [(r : Int)] := by simp [ints]
theorem ints_length (l : List Nat) : (ints l).length = l.length := by simp [ints]
theorem KShade (S : Sep w0 w L) (i : Nat) (hi : L[i]? = some (markR m a n C)) (r : Nat) (h0 : 0 < r) (hr : r < n) : Calls Try.prog 44 #[.pointer (some ⟨m, 0, none⟩), .int .i64 (r : Int)] w fun e w' => e = .returned (.bool (!C.mz r)) ∧ Sep w0 w' (L.set i (markR m a n (C.shade r))) := by
  obtain ⟨o, ho, hs⟩ := mark_open S i hi
  have c1 := (hs.blk 0 rfl).cell 1
  simp only [List.getElem?_toArray, List.getElem?_cons_zero, List.getElem?_cons_succ] at c1
  have hz : ((r : Int) == 0) = false := by simp; omega
  have hz2 : ¬ (r : Int) = 0 := by omega
  have HI := Lib.hid hi
  have HO := Lib.hid ho
  have HC := Lib.hid (TSPut hs 1 rfl (by have := ho.size; omega) r (by omega))
  obtain ⟨b, hb⟩ : ∃ b, C.mz r = b := ⟨_, rfl⟩
  have HB := Lib.hid hb
  clear hs ho S hi hb
  cases b with
  | true =>
    go_enter Try.func44, Try.ntmps44
    go_wp2_with (go_at_call 59; refine HC.out.mono ?_; rw [HB.out]; rintro e w' ⟨rfl, hs⟩; have HS := Lib.hid hs; clear hs HC)
    go_ret
    have e1 := shade_same (C := C) HB.out
    have h2 : Sep w0 _ (markParts m a n o (C.shade r) ++ L.eraseIdx i) := HS.out
    rw [e1] at h2
    rw [e1, HB.out]
    exact ⟨rfl, mark_shut HO.out h2 HI.out⟩
  | false =>
    go_enter Try.func44, Try.ntmps44
    go_wp2_with (first
      | (go_at_call 59; refine HC.out.mono ?_; rw [HB.out]; rintro e w1 ⟨rfl, hs⟩; have c3 := (hs.blk 0 rfl).cell 3; simp only [List.getElem?_toArray, List.getElem?_cons_zero, List.getElem?_cons_succ] at c3; have HC2 := Lib.hid (TGPush hs 3 rfl (r : Int) (by rw [ints_length]; have h1 := HO.out.grey.fits; have h2 := HO.out.few; omega)); clear hs HC)
      | (go_at_call 76; refine HC2.out.mono ?_; rintro e w2 ⟨v, rfl, hs⟩; have HS := Lib.hid hs; clear hs HC2))
    go_ret
    refine ⟨by rw [HB.out]; rfl, mark_shut (ok_shade HO.out h0 hr) ?_ HI.out⟩
    have h2 := HS.out
    simp only [ints_length, Int.ofNat_lt] at h2
    by_cases h : o.gs.length < o.room
    · simp only [h, if_true] at h2 ⊢
      rw [← ints_push] at h2
      exact h2
    · simp only [h, if_false] at h2 ⊢
      exact h2
end
end Go.Proofs.Ytbcabjpafeocgaa

/-
  The marker (layer 11): it blackens, makes grey again, forgets. Conditions: as each contract says.
-/
namespace Go.Proofs.Ytbcabjpafeocgaa
set_option linter.unusedVariables false
set_option linter.unusedSimpArgs false
open Go.RowKit Go.Shelf

section
variable {w0 w : World} {L : List Res} {i m a n : Nat} {C : Col}
theorem ok_black {o : Own3} (ho : MarkOk n o C) {r : Nat} (h0 : 0 < r) (hr : r < n) : MarkOk n o (C.black r) := by
  refine ⟨ho.grey.less (fun x hx => ?_), ho.room, ho.few, ho.refs, fun x hx => ?_, fun x hx => ?_, ho.size⟩
  · obtain ⟨h1, h2⟩ := grey_iff.1 hx
    have h1' : (C.mz x || decide (x = r)) = true := h1
    have h2' : (C.sc x || decide (x = r)) = false := h2
    simp only [Bool.or_eq_false_iff, decide_eq_false_iff_not] at h2'
    simp only [Bool.or_eq_true, decide_eq_true_eq] at h1'
    rcases h1' with h1' | h1'
    · exact grey_iff.2 ⟨h1', h2'.1⟩
    · exact absurd h1' h2'.2
  · have hx' : (C.mz x || decide (x = r)) = true := hx
    simp only [Bool.or_eq_true, decide_eq_true_eq] at hx'
    rcases hx' with h1 | rfl
    · exact ho.mz x h1
    · exact ⟨h0, hr⟩
  · have hx' : (C.sc x || decide (x = r)) = true := hx
    simp only [Bool.or_eq_true, decide_eq_true_eq] at hx'
    show (C.mz x || decide (x = r)) = true
    rcases hx' with h1 | rfl
    · rw [ho.sc x h1]; rfl
    · simp
theorem ok_forget {o : Own3} (ho : MarkOk n o C) (r : Nat) : MarkOk n o (C.forget r) := by
  refine ⟨ho.grey.less (fun x hx => ?_), ho.room, ho.few, ho.refs, fun x hx => ?_, fun x hx => ?_, ho.size⟩
  · obtain ⟨h1, h2⟩ := grey_iff.1 hx
    have h1' : (C.mz x && !decide (x = r)) = true := h1
    have h2' : (C.sc x && !decide (x = r)) = false := h2
    simp only [Bool.and_eq_true, Bool.not_eq_true', decide_eq_false_iff_not] at h1'
    simp [h1'.2] at h2'
    exact grey_iff.2 ⟨h1'.1, h2'⟩
  · have hx' : (C.mz x && !decide (x = r)) = true := hx
    simp only [Bool.and_eq_true] at hx'
    exact ho.mz x hx'.1
  · have hx' : (C.sc x && !decide (x = r)) = true := hx
    simp only [Bool.and_eq_true] at hx'
    show (C.mz x && !decide (x = r)) = true
    rw [ho.sc x hx'.1, hx'.2]
    rfl
theorem ok_regrey {o : Own3} (ho : MarkOk n o C) {r : Nat} (h0 : 0 < r) (hr : r < n) (hm : C.mz r = true) :
    MarkOk n { o with gs := if o.gs.length < o.room then o.gs ++ [r] else o.gs, over := if o.gs.length < o.room then o.over else true } ⟨C.mz, fun x => C.sc x && !decide (x = r)⟩ := by
  have hg : ∀ x, (Col.mk C.mz (fun x => C.sc x && !decide (x = r))).grey x = true → C.grey x = true ∨ x = r := by
    intro x hx
    obtain ⟨h1, h2⟩ := grey_iff.1 hx
    have h2' : (C.sc x && !decide (x = r)) = false := h2
    by_cases e : x = r
    · exact .inr e
    · left
      simp [e] at h2'
      exact grey_iff.2 ⟨h1, h2'⟩
  refine ⟨?_, ho.room, ho.few, ?_, ho.mz, ?_, ho.size⟩
  · by_cases h : o.gs.length < o.room
    · simp only [h, if_true]; exact ho.grey.push hg h
    · simp only [h, if_false]; exact ho.grey.full
  · intro x hx
    simp only at hx
    split at hx
    · rcases List.mem_append.1 hx with h1 | h1
      · exact ho.refs x h1
      · simp at h1; subst h1; exact ⟨h0, hr⟩
    · exact ho.refs x hx
  · intro x hx
    have hx' : (C.sc x && !decide (x = r)) = true := hx
    simp only [Bool.and_eq_true] at hx'
    exact ho.sc x hx'.1
theorem KBlacken (S : Sep w0 w L) (i : Nat) (hi : L[i]? = some (markR m a n C)) (r : Nat) (h0 : 0 < r) (hr : r < n) : Calls Try.prog 16 #[.pointer (some ⟨m, 0, none⟩), .int .i64 (r : Int)] w fun e w' => e = .returned (.tuple #[]) ∧ Sep w0 w' (L.set i (markR m a n (C.black r))) := by
  obtain ⟨o, ho, hs⟩ := mark_open S i hi
  have c1 := (hs.blk 0 rfl).cell 1
  simp only [List.getElem?_toArray, List.getElem?_cons_zero, List.getElem?_cons_succ] at c1
  have hz : ((r : Int) == 0) = false := by simp; omega
  have hz2 : ¬ (r : Int) = 0 := by omega
  have hz3 : ((r : Int) != 0) = true := by simp; omega
  have hsz := ho.size
  have HI := Lib.hid hi
  have HO := Lib.hid ho
  have HC := Lib.hid (TSPut hs 1 rfl (by omega) r (by omega))
  clear hs ho S hi
  go_enter Try.func16, Try.ntmps16
  go_wp2_with (first
    | (go_at_call 59; refine HC.out.mono ?_; rintro e w1 ⟨rfl, hs⟩; have c2 := (hs.blk 0 rfl).cell 2; simp only [List.getElem?_toArray, List.getElem?_cons_zero, List.getElem?_cons_succ] at c2; have HC2 := Lib.hid (TSPut hs 2 rfl (by omega) r (by omega)); clear hs HC)
    | (go_at_call 59; refine HC2.out.mono ?_; rintro e w2 ⟨rfl, hs⟩; have HS := Lib.hid hs; clear hs HC2))
  go_end0
  exact ⟨rfl, mark_shut (ok_black HO.out h0 hr) HS.out HI.out⟩
theorem KForget (S : Sep w0 w L) (i : Nat) (hi : L[i]? = some (markR m a n C)) (r : Nat) (hr : r < n) : Calls Try.prog 62 #[.pointer (some ⟨m, 0, none⟩), .int .i64 (r : Int)] w fun e w' => e = .returned (.tuple #[]) ∧ Sep w0 w' (L.set i (markR m a n (C.forget r))) := by
  obtain ⟨o, ho, hs⟩ := mark_open S i hi
  have c1 := (hs.blk 0 rfl).cell 1
  simp only [List.getElem?_toArray, List.getElem?_cons_zero, List.getElem?_cons_succ] at c1
  have hsz := ho.size
  have HI := Lib.hid hi
  have HO := Lib.hid ho
  have HC := Lib.hid (TSDrop hs 1 rfl (by omega) r (by omega))
  clear hs ho S hi
  go_enter Try.func62, Try.ntmps62
  go_wp2_with (first
    | (go_at_call 91; refine HC.out.mono ?_; rintro e w1 ⟨rfl, hs⟩; have c2 := (hs.blk 0 rfl).cell 2; simp only [List.getElem?_toArray, List.getElem?_cons_zero, List.getElem?_cons_succ] at c2; have HC2 := Lib.hid (TSDrop hs 2 rfl (by omega) r (by omega)); clear hs HC)
    | (go_at_call 91; refine HC2.out.mono ?_; rintro e w2 ⟨rfl, hs⟩; have HS := Lib.hid hs; clear hs HC2))
  go_end0
  exact ⟨rfl, mark_shut (ok_forget HO.out r) HS.out HI.out⟩
end
end Go.Proofs.Ytbcabjpafeocgaa

/-
  The number of one bits of a word, as the library reckons it (plain). Conditions: as each theorem says; no walk.
-/
namespace Go.Proofs.Ytbcabjpafeocgaa
set_option linter.unusedVariables false
set_option linter.unusedSimpArgs false

theorem and_split (k hi lo M m : Nat) (hlo : lo < 2 ^ k) (hm : m < 2 ^ k) : (2 ^ k * hi + lo) &&& (2 ^ k * M + m) = 2 ^ k * (hi &&& M) + (lo &&& m) := by
  apply Nat.eq_of_testBit_eq
  intro j
  rw [Nat.testBit_and, Nat.testBit_two_pow_mul_add _ hlo, Nat.testBit_two_pow_mul_add _ hm, Nat.testBit_two_pow_mul_add _ (Nat.and_lt_two_pow _ hm)]
  split <;> rw [Nat.testBit_and]
theorem and_byte64 (b v c M : Nat) (hb : b < 256) (hc : c < 256) : (b + 256 * v) &&& (c + 256 * M) = (b &&& c) + 256 * (v &&& M) := by
  have := and_split 8 v b M c hb hc
  rw [show (2 : Nat) ^ 8 = 256 from rfl] at this
  rw [Nat.add_comm b, Nat.add_comm c, this, Nat.add_comm]

/-- n times the byte c. -/
def maskN (c : Nat) : Nat → Nat
  | 0 => 0
  | n + 1 => c + 256 * maskN c n
/-- f at each byte. -/
def lanes (f : Nat → Nat) : Nat → Nat → Nat
  | 0, _ => 0
  | n + 1, x => f (x % 256) + 256 * lanes f n (x / 256)

def s1 (b : Nat) : Nat := ((b / 2) &&& 85) + (b &&& 85)
def s2 (b : Nat) : Nat := ((b / 4) &&& 51) + (b &&& 51)
def s3 (b : Nat) : Nat := (b / 16 + b) &&& 15
def pop8 (b : Nat) : Nat := (List.range 8).countP b.testBit

theorem lanes_mod {f : Nat → Nat} (hf : ∀ b, b < 256 → f b < 256) (n x : Nat) : lanes f (n + 1) x % 256 = f (x % 256) ∧ lanes f (n + 1) x / 256 = lanes f n (x / 256) := by
  have h := hf (x % 256) (Nat.mod_lt _ (by omega))
  show (f (x % 256) + 256 * lanes f n (x / 256)) % 256 = _ ∧ (f (x % 256) + 256 * lanes f n (x / 256)) / 256 = _
  omega
theorem lanes_comp {f g : Nat → Nat} (hf : ∀ b, b < 256 → f b < 256) : ∀ n x, lanes g n (lanes f n x) = lanes (fun b => g (f b)) n x
  | 0, _ => rfl
  | n + 1, x => by
    obtain ⟨h1, h2⟩ := lanes_mod hf n x
    show g (lanes f (n + 1) x % 256) + 256 * lanes g n (lanes f (n + 1) x / 256) = _
    rw [h1, h2, lanes_comp hf n]
    rfl
theorem lanes_congr {f g : Nat → Nat} (h : ∀ b, b < 256 → f b = g b) : ∀ n x, lanes f n x = lanes g n x
  | 0, _ => rfl
  | n + 1, x => by
    show f (x % 256) + 256 * lanes f n (x / 256) = g (x % 256) + 256 * lanes g n (x / 256)
    rw [h _ (Nat.mod_lt _ (by omega)), lanes_congr h n]

theorem mask1 : ∀ b, b < 256 → ∀ t, t < 2 → (b / 2 + 128 * t) &&& 85 = (b / 2) &&& 85 := by decide +kernel
theorem mask2 : ∀ b, b < 256 → ∀ t, t < 4 → (b / 4 + 64 * t) &&& 51 = (b / 4) &&& 51 := by decide +kernel
theorem mask3 : ∀ b, b < 128 → ∀ t, t < 8 → (b + 16 * t) &&& 15 = b &&& 15 := by decide +kernel

theorem step1 : ∀ n x, x < 256 ^ n → ((x / 2) &&& maskN 85 n) + (x &&& maskN 85 n) = lanes s1 n x
  | 0, x, h => by simp [maskN, lanes]
  | n + 1, x, h => by
    obtain ⟨b, v, rfl, hb⟩ : ∃ b v, x = b + 256 * v ∧ b < 256 := ⟨x % 256, x / 256, by omega, Nat.mod_lt _ (by omega)⟩
    have hv : v < 256 ^ n := by rw [Nat.pow_succ] at h; omega
    have ih := step1 n v hv
    have e : (b + 256 * v) / 2 = (b / 2 + 128 * (v % 2)) + 256 * (v / 2) := by omega
    show ((b + 256 * v) / 2 &&& (85 + 256 * maskN 85 n)) + (b + 256 * v &&& (85 + 256 * maskN 85 n)) = s1 ((b + 256 * v) % 256) + 256 * lanes s1 n ((b + 256 * v) / 256)
    rw [e, and_byte64 _ _ _ _ (by omega) (by omega), and_byte64 _ _ _ _ hb (by omega), mask1 b hb _ (Nat.mod_lt _ (by omega)), show (b + 256 * v) % 256 = b by omega, show (b + 256 * v) / 256 = v by omega, ← ih]
    unfold s1
    omega
theorem step2 : ∀ n x, x < 256 ^ n → ((x / 4) &&& maskN 51 n) + (x &&& maskN 51 n) = lanes s2 n x
  | 0, x, h => by simp [maskN, lanes]
  | n + 1, x, h => by
    obtain ⟨b, v, rfl, hb⟩ : ∃ b v, x = b + 256 * v ∧ b < 256 := ⟨x % 256, x / 256, by omega, Nat.mod_lt _ (by omega)⟩
    have hv : v < 256 ^ n := by rw [Nat.pow_succ] at h; omega
    have ih := step2 n v hv
    have e : (b + 256 * v) / 4 = (b / 4 + 64 * (v % 4)) + 256 * (v / 4) := by omega
    show ((b + 256 * v) / 4 &&& (51 + 256 * maskN 51 n)) + (b + 256 * v &&& (51 + 256 * maskN 51 n)) = s2 ((b + 256 * v) % 256) + 256 * lanes s2 n ((b + 256 * v) / 256)
    rw [e, and_byte64 _ _ _ _ (by omega) (by omega), and_byte64 _ _ _ _ hb (by omega), mask2 b hb _ (Nat.mod_lt _ (by omega)), show (b + 256 * v) % 256 = b by omega, show (b + 256 * v) / 256 = v by omega, ← ih]
    unfold s2
    omega
/-- Both halves of each byte are at most four. -/
def small (b : Nat) : Bool := decide (b % 16 ≤ 4) && decide (b / 16 ≤ 4)
theorem step3 {f : Nat → Nat} (hf : ∀ b, b < 256 → small (f b) = true) : ∀ n x, ((lanes f n x / 16 + lanes f n x) &&& maskN 15 n) = lanes (fun b => s3 (f b)) n x
  | 0, x => by simp [maskN, lanes]
  | n + 1, x => by
    have hb := hf (x % 256) (Nat.mod_lt _ (by omega))
    have ih := step3 hf n (x / 256)
    have hv16 : lanes f n (x / 256) % 16 ≤ 4 := by
      cases n with
      | zero => show 0 % 16 ≤ 4; omega
      | succ m =>
        have h2 := hf (x / 256 % 256) (Nat.mod_lt _ (by omega))
        unfold small at h2
        simp at h2
        show (f (x / 256 % 256) + 256 * _) % 16 ≤ 4
        omega
    obtain ⟨b, hbe⟩ : ∃ b, f (x % 256) = b := ⟨_, rfl⟩
    obtain ⟨v, hve⟩ : ∃ v, lanes f n (x / 256) = v := ⟨_, rfl⟩
    rw [hve] at hv16 ih
    rw [hbe] at hb
    unfold small at hb
    simp at hb
    show ((f (x % 256) + 256 * lanes f n (x / 256)) / 16 + (f (x % 256) + 256 * lanes f n (x / 256)) &&& (15 + 256 * maskN 15 n)) = s3 (f (x % 256)) + 256 * lanes (fun b => s3 (f b)) n (x / 256)
    rw [hbe, hve, show (b + 256 * v) / 16 + (b + 256 * v) = (b / 16 + b + 16 * (v % 16)) + 256 * (v / 16 + v) by omega, and_byte64 _ _ _ _ (by omega) (by omega), mask3 _ (by omega) _ (by omega), ih]
    rfl

theorem s1_lt : ∀ b, b < 256 → s1 b < 256 := by decide +kernel
theorem s12_small : ∀ b, b < 256 → small (s2 (s1 b)) = true := by decide +kernel
theorem s123 : ∀ b, b < 256 → s3 (s2 (s1 b)) = pop8 b := by decide +kernel
theorem pop8_le : ∀ b, b < 256 → pop8 b ≤ 8 := by decide +kernel

/-- How many of the first 8n bits are set. -/
def onesN (n x : Nat) : Nat := (List.range (8 * n)).countP x.testBit
theorem testBit_byte (b v : Nat) (hb : b < 256) (j : Nat) : (b + 256 * v).testBit j = if j < 8 then b.testBit j else v.testBit (j - 8) := by
  have := Nat.testBit_two_pow_mul_add v (i := 8) hb j
  rw [show (2 : Nat) ^ 8 = 256 from rfl] at this
  rw [Nat.add_comm, this]
theorem onesN_succ (n b v : Nat) (hb : b < 256) : onesN (n + 1) (b + 256 * v) = pop8 b + onesN n v := by
  unfold onesN pop8
  rw [show 8 * (n + 1) = 8 + 8 * n by omega, List.range_add, List.countP_append, List.countP_map]
  congr 1
  · refine List.countP_congr (fun j hj => ?_)
    rw [testBit_byte b v hb, if_pos (by simpa using hj)]
  · refine List.countP_congr (fun j hj => ?_)
    simp only [Function.comp]
    rw [testBit_byte b v hb, if_neg (by omega), show 8 + j - 8 = j by omega]

def m0 : Nat := 6148914691236517205
def m1 : Nat := 3689348814741910323
def m2 : Nat := 1085102592571150095
/-- What the library reckons. -/
def popA (x : Nat) : Nat := ((x / 2) &&& m0) + (x &&& m0)
def popB (a : Nat) : Nat := ((a / 4) &&& m1) + (a &&& m1)
def popC (b : Nat) : Nat := (b / 16 + b) &&& m2

theorem pop_lanes (x : Nat) (hx : x < 256 ^ 8) : popC (popB (popA x)) = lanes pop8 8 x := by
  have e1 : popA x = lanes s1 8 x := step1 8 x hx
  have hl : ∀ n y, lanes s1 n y < 256 ^ n := by
    intro n
    induction n with
    | zero => intro y; show 0 < 1; omega
    | succ n ih =>
      intro y
      have h1 := s1_lt (y % 256) (Nat.mod_lt _ (by omega))
      have h2 := ih (y / 256)
      show s1 (y % 256) + 256 * lanes s1 n (y / 256) < 256 ^ (n + 1)
      rw [Nat.pow_succ]
      omega
  have e2 : popB (popA x) = lanes (fun b => s2 (s1 b)) 8 x := by
    rw [e1, ← lanes_comp s1_lt]
    exact step2 8 _ (hl 8 x)
  have e3 : popC (popB (popA x)) = lanes (fun b => s3 (s2 (s1 b))) 8 x := by
    rw [e2]
    exact step3 s12_small 8 x
  rw [e3]
  exact lanes_congr s123 8 x

/-- The last sums. -/
theorem pop_sum (x : Nat) (hx : x < 256 ^ 8) {c d e f : Nat} (hc : c = lanes pop8 8 x) (hd : d = c + c / 256) (he : e = d + d / 65536) (hf : f = e + e / 4294967296) : d < 18446744073709551616 ∧ e < 18446744073709551616 ∧ f < 18446744073709551616 ∧ f % 128 = onesN 8 x := by
  have key : ∀ n y, y < 256 ^ (n + 1) → ∃ b v, y = b + 256 * v ∧ b < 256 ∧ v < 256 ^ n := fun n y hy => ⟨y % 256, y / 256, by omega, Nat.mod_lt _ (by omega), by rw [Nat.pow_succ] at hy; omega⟩
  obtain ⟨b0, x1, rfl, h0, hx1⟩ := key 7 x hx
  obtain ⟨b1, x2, rfl, h1, hx2⟩ := key 6 x1 hx1
  obtain ⟨b2, x3, rfl, h2, hx3⟩ := key 5 x2 hx2
  obtain ⟨b3, x4, rfl, h3, hx4⟩ := key 4 x3 hx3
  obtain ⟨b4, x5, rfl, h4, hx5⟩ := key 3 x4 hx4
  obtain ⟨b5, x6, rfl, h5, hx6⟩ := key 2 x5 hx5
  obtain ⟨b6, x7, rfl, h6, hx7⟩ := key 1 x6 hx6
  obtain ⟨b7, x8, rfl, h7, hx8⟩ := key 0 x7 hx7
  obtain rfl : x8 = 0 := by simpa using hx8
  have hstep : ∀ n b v, b < 256 → lanes pop8 (n + 1) (b + 256 * v) = pop8 b + 256 * lanes pop8 n v := by
    intro n b v hb
    show pop8 ((b + 256 * v) % 256) + 256 * lanes pop8 n ((b + 256 * v) / 256) = _
    rw [show (b + 256 * v) % 256 = b by omega, show (b + 256 * v) / 256 = v by omega]
  rw [hstep 7 _ _ h0, hstep 6 _ _ h1, hstep 5 _ _ h2, hstep 4 _ _ h3, hstep 3 _ _ h4, hstep 2 _ _ h5, hstep 1 _ _ h6, hstep 0 _ _ h7, show lanes pop8 0 0 = 0 from rfl] at hc
  rw [onesN_succ 7 _ _ h0, onesN_succ 6 _ _ h1, onesN_succ 5 _ _ h2, onesN_succ 4 _ _ h3, onesN_succ 3 _ _ h4, onesN_succ 2 _ _ h5, onesN_succ 1 _ _ h6, onesN_succ 0 _ _ h7, show onesN 0 0 = 0 from rfl]
  have p0 := pop8_le b0 h0
  have p1 := pop8_le b1 h1
  have p2 := pop8_le b2 h2
  have p3 := pop8_le b3 h3
  have p4 := pop8_le b4 h4
  have p5 := pop8_le b5 h5
  have p6 := pop8_le b6 h6
  have p7 := pop8_le b7 h7
  generalize pop8 b0 = q0 at *
  generalize pop8 b1 = q1 at *
  generalize pop8 b2 = q2 at *
  generalize pop8 b3 = q3 at *
  generalize pop8 b4 = q4 at *
  generalize pop8 b5 = q5 at *
  generalize pop8 b6 = q6 at *
  generalize pop8 b7 = q7 at *
  clear hx hx1 hx2 hx3 hx4 hx5 hx6 hx7 h0 h1 h2 h3 h4 h5 h6 h7 key hstep
  have hd2 : d = q0 + q1 + 256 * (q1 + q2 + 256 * (q2 + q3 + 256 * (q3 + q4 + 256 * (q4 + q5 + 256 * (q5 + q6 + 256 * (q6 + q7 + 256 * q7)))))) := by omega
  have he2 : e = q0 + q1 + q2 + q3 + 256 * (q1 + q2 + q3 + q4 + 256 * (q2 + q3 + q4 + q5 + 256 * (q3 + q4 + q5 + q6 + 256 * (q4 + q5 + q6 + q7 + 256 * (q5 + q6 + q7 + 256 * (q6 + q7 + 256 * q7)))))) := by omega
  have hf2 : f = q0 + q1 + q2 + q3 + q4 + q5 + q6 + q7 + 256 * (q1 + q2 + q3 + q4 + q5 + q6 + q7 + 256 * (q2 + q3 + q4 + q5 + q6 + q7 + 256 * (q3 + q4 + q5 + q6 + q7 + 256 * (q4 + q5 + q6 + q7 + 256 * (q5 + q6 + q7 + 256 * (q6 + q7 + 256 * q7)))))) := by omega
  omega
end Go.Proofs.Ytbcabjpafeocgaa

/-
  How many numbers a set has, out of its words (plain). Conditions: as each theorem says; no walk.
-/
namespace Go.Proofs.Ytbcabjpafeocgaa
set_option linter.unusedVariables false
set_option linter.unusedSimpArgs false

/-- The one bits of the first m words. -/
def sumOnes (W : Nat → Nat) : Nat → Nat
  | 0 => 0
  | m + 1 => sumOnes W m + onesN 8 (W m)
theorem sumOnes_eq (W : Nat → Nat) : ∀ m, sumOnes W m = (List.range (64 * m)).countP (bitOf W)
  | 0 => rfl
  | m + 1 => by
    unfold sumOnes
    rw [sumOnes_eq W m, show 64 * (m + 1) = 64 * m + 64 by omega, List.range_add, List.countP_append, List.countP_map]
    congr 1
    unfold onesN
    refine List.countP_congr (fun j hj => ?_)
    have hj' : j < 64 := by simpa using hj
    simp only [Function.comp]
    unfold bitOf
    rw [show (64 * m + j) / 64 = m by omega, show (64 * m + j) % 64 = j by omega]
theorem count_bits {W : Nat → Nat} {n m : Nat} {S : Nat → Bool} (h : Bits W (n : Int) S) (hm : n ≤ 64 * m) : sumOnes W m = (elems n S).length := by
  rw [sumOnes_eq]
  unfold elems
  rw [← List.countP_eq_length_filter]
  obtain ⟨d, hd⟩ : ∃ d, 64 * m = n + d := ⟨64 * m - n, by omega⟩
  rw [hd, List.range_add, List.countP_append, List.countP_map]
  have h1 : (List.range n).countP (bitOf W) = (List.range n).countP S := List.countP_congr (fun j hj => by
    have hj' : j < n := by simpa using hj
    rw [h.at_ (by omega)])
  have h2 : (List.range d).countP (bitOf W ∘ fun x => n + x) = 0 := by
    rw [List.countP_eq_zero]
    intro j hj
    simp only [Function.comp]
    rw [h (n + j)]
    simp
    intro h3
    omega
  omega
theorem sumOnes_le {W : Nat → Nat} : ∀ m, sumOnes W m ≤ 64 * m
  | 0 => Nat.le_refl _
  | m + 1 => by
    have h := sumOnes_le (W := W) m
    have h2 : onesN 8 (W m) ≤ 64 := by
      unfold onesN
      have := List.countP_le_length (p := (W m).testBit) (l := List.range (8 * 8))
      simpa using this
    unfold sumOnes
    omega
end Go.Proofs.Ytbcabjpafeocgaa

/-
  Masks of an int: n & (2^k - 1) is n modulo 2^k, whatever n is. Conditions: k at most 32.
-/
namespace Go.Proofs.Ytbcabjpafeocgaa
set_option linter.unusedVariables false
set_option linter.unusedSimpArgs false
open Go.RowKit

theorem ofInt_toNat (n : Int) : ((BitVec.ofInt 64 n).toNat : Int) = n % 18446744073709551616 := by
  rw [BitVec.toNat_ofInt]
  have h : 0 ≤ n % ((2 : Int) ^ 64) := Int.emod_nonneg _ (by decide)
  have e : ((2 : Int) ^ 64) = 18446744073709551616 := by decide
  rw [e] at h
  show ((n % ((2 ^ 64 : Nat) : Int)).toNat : Int) = _
  rw [show (((2 ^ 64 : Nat) : Int)) = 18446744073709551616 from by decide]
  omega

theorem and_nat (n : Int) (m : Nat) (hm : m < 4294967296) : bits .and .i64 n (m : Int) = (((BitVec.ofInt 64 n).toNat &&& m : Nat) : Int) := by
  have h2 : (BitVec.ofInt 64 (m : Int)).toNat = m := by
    rw [BitVec.ofInt_natCast, BitVec.toNat_ofNat]; exact Nat.mod_eq_of_lt (by omega)
  have hx : (BitVec.ofInt 64 n).toNat &&& m ≤ m := Nat.and_le_right
  show IntKind.i64.wrap ((BitVec.ofInt 64 n &&& BitVec.ofInt 64 (m : Int)).toNat : Int) = _
  rw [BitVec.toNat_and, h2, IntKind.wrap_i64]
  omega

theorem mask (n : Int) (k : Nat) (hk : k ≤ 32) : bits .and .i64 n (((2 ^ k - 1 : Nat)) : Int) = n % ((2 ^ k : Nat) : Int) := by
  have hp : 2 ^ k ≤ 2 ^ 32 := Nat.pow_le_pow_right (by omega) hk
  have hp0 : 0 < 2 ^ k := Nat.pow_pos (by omega)
  rw [and_nat n _ (by omega), Nat.and_two_pow_sub_one_eq_mod]
  have h := ofInt_toNat n
  have hd : ((2 ^ k : Nat) : Int) ∣ 18446744073709551616 := by
    refine ⟨((2 ^ (64 - k) : Nat) : Int), ?_⟩
    rw [← Int.natCast_mul, ← Nat.pow_add, show k + (64 - k) = 64 by omega]
    decide
  rw [Int.natCast_emod, h, Int.emod_emod_of_dvd _ hd]

theorem and_1 (n : Int) : bits .and .i64 n 1 = n % 2 := mask n 1 (by omega)
theorem and_3 (n : Int) : bits .and .i64 n 3 = n % 4 := mask n 2 (by omega)
theorem and_7 (n : Int) : bits .and .i64 n 7 = n % 8 := mask n 3 (by omega)
theorem and_15 (n : Int) : bits .and .i64 n 15 = n % 16 := mask n 4 (by omega)
theorem and_31 (n : Int) : bits .and .i64 n 31 = n % 32 := mask n 5 (by omega)
theorem and_255 (n : Int) : bits .and .i64 n 255 = n % 256 := mask n 8 (by omega)
theorem and_4095 (n : Int) : bits .and .i64 n 4095 = n % 4096 := mask n 12 (by omega)
theorem and_65535 (n : Int) : bits .and .i64 n 65535 = n % 65536 := mask n 16 (by omega)

end Go.Proofs.Ytbcabjpafeocgaa

/-
  The library's population count. Conditions: none.
-/
namespace Go.Proofs.Ytbcabjpafeocgaa
set_option linter.unusedVariables false
set_option linter.unusedSimpArgs false
open Go.RowKit

theorem u64and (x m : Nat) (hx : x < 18446744073709551616) (hm : m < 18446744073709551616) : bits .and .u64 (x : Int) (m : Int) = ((x &&& m : Nat) : Int) := u64_and_nat x m hx hm

theorem and_le (x m : Nat) : x &&& m ≤ m := Nat.and_le_right
theorem popA_eq (x : Nat) (hx : x < 18446744073709551616) : IntKind.u64.wrap (bits .and .u64 ((x : Int) / 2) 6148914691236517205 + bits .and .u64 (x : Int) 6148914691236517205) = ((popA x : Nat) : Int) ∧ popA x ≤ 12297829382473034410 := by
  have h1 := u64and (x / 2) m0 (by omega) (by decide)
  have h2 := u64and x m0 hx (by decide)
  rw [show (((x / 2 : Nat)) : Int) = (x : Int) / 2 by omega, show ((m0 : Nat) : Int) = 6148914691236517205 from rfl] at h1
  rw [show ((m0 : Nat) : Int) = 6148914691236517205 from rfl] at h2
  have l1 := and_le (x / 2) m0
  have l2 := and_le x m0
  have hm : m0 = 6148914691236517205 := rfl
  rw [h1, h2, IntKind.wrap_u64]
  unfold popA
  omega
theorem popB_eq (x : Nat) (hx : x < 18446744073709551616) : IntKind.u64.wrap (bits .and .u64 ((x : Int) / 4) 3689348814741910323 + bits .and .u64 (x : Int) 3689348814741910323) = ((popB x : Nat) : Int) ∧ popB x ≤ 7378697629483820646 := by
  have h1 := u64and (x / 4) m1 (by omega) (by decide)
  have h2 := u64and x m1 hx (by decide)
  rw [show (((x / 4 : Nat)) : Int) = (x : Int) / 4 by omega, show ((m1 : Nat) : Int) = 3689348814741910323 from rfl] at h1
  rw [show ((m1 : Nat) : Int) = 3689348814741910323 from rfl] at h2
  have l1 := and_le (x / 4) m1
  have l2 := and_le x m1
  have hm : m1 = 3689348814741910323 := rfl
  rw [h1, h2, IntKind.wrap_u64]
  unfold popB
  omega
theorem popC_eq (x : Nat) (hx : x ≤ 7378697629483820646) : bits .and .u64 ((x : Int) / 16 + (x : Int)) 1085102592571150095 = ((popC x : Nat) : Int) := by
  have h1 := u64and (x / 16 + x) m2 (by omega) (by decide)
  rw [show (((x / 16 + x : Nat)) : Int) = (x : Int) / 16 + (x : Int) by omega, show ((m2 : Nat) : Int) = 1085102592571150095 from rfl] at h1
  rw [h1]
  rfl
theorem add_eq (c k : Nat) (h : c + c / k < 18446744073709551616) : IntKind.u64.wrap ((c : Int) + (c : Int) / (k : Int)) = ((c + c / k : Nat) : Int) := by
  rw [show (c : Int) + (c : Int) / (k : Int) = ((c + c / k : Nat) : Int) by push_cast; rfl, IntKind.wrap_u64]
  exact Int.emod_eq_of_lt (Int.natCast_nonneg _) (Int.ofNat_lt.mpr h)

set_option maxRecDepth 100000 in
theorem Ones64 (x : Nat) (hx : x < 18446744073709551616) (w : World) :
    Calls Try.prog 96 #[.int .u64 (x : Int)] w fun e w' => e = .returned (.int .i64 (onesN 8 x : Int)) ∧ w = w' := by
  obtain ⟨eA, lA⟩ := popA_eq x hx
  obtain ⟨eB, lB⟩ := popB_eq (popA x) (by omega)
  have eC := popC_eq (popB (popA x)) lB
  obtain ⟨hd, he, hf, hmod⟩ := pop_sum x (by omega) (pop_lanes x (by omega)) rfl rfl rfl
  have e1 := add_eq _ 256 hd
  have e2 := add_eq _ 65536 he
  have e3 := add_eq _ 4294967296 hf
  have hC : popC (popB (popA x)) ≤ 1085102592571150095 := and_le _ m2
  have em := mask ((popC (popB (popA x)) + popC (popB (popA x)) / 256 + (popC (popB (popA x)) + popC (popB (popA x)) / 256) / 65536 + (popC (popB (popA x)) + popC (popB (popA x)) / 256 + (popC (popB (popA x)) + popC (popB (popA x)) / 256) / 65536) / 4294967296 : Nat) : Int) 7 (by omega)
  have em2 := em.trans (show _ = ((onesN 8 x : Nat) : Int) by rw [← hmod]; rfl)
  rw [show (((2 ^ 7 - 1 : Nat)) : Int) = 127 from rfl] at em2
  simp only [Int.natCast_add, Int.natCast_ediv, show (((256 : Nat)) : Int) = 256 from rfl, show (((65536 : Nat)) : Int) = 65536 from rfl, show (((4294967296 : Nat)) : Int) = 4294967296 from rfl] at em2
  clear em
  simp only [show (((256 : Nat)) : Int) = 256 from rfl, show (((65536 : Nat)) : Int) = 65536 from rfl, show (((4294967296 : Nat)) : Int) = 4294967296 from rfl] at e1 e2 e3
  go_enter Try.func96, Try.ntmps96
  go_wp2_with fail
  first | (go_ret; done) | (go_ret; exact ⟨rfl, rfl⟩) | fail "x"
end Go.Proofs.Ytbcabjpafeocgaa

/-
  Set.Count: how many numbers a set has. Conditions: at most 100000 numbers.
-/
namespace Go.Proofs.Ytbcabjpafeocgaa
set_option linter.unusedVariables false
set_option linter.unusedSimpArgs false
open Go.RowKit Go.Shelf
attribute [local go_sem] Oper.semAt_some wide_fn round_fn wide_depth round_depth
attribute [local simp] wide_fn round_fn wide_depth round_depth

section
variable {w : World} {b : Nat} {n : Nat} {S : Nat → Bool} {lo : Option Nat}

theorem OnesWord {W : Nat → Nat} (hW : ∀ k, W k < 18446744073709551616) (k : Nat) (w : World) : Calls Try.prog 96 #[.int .u64 ((W k : Nat) : Int)] w fun e w' => e = .returned (.int .i64 (onesN 8 (W k) : Int)) ∧ w = w' := Ones64 (W k) (hW k) w

set_option maxRecDepth 100000 in
set_option maxHeartbeats 2000000 in
theorem SCount (h : SetIs w b (n : Int) S lo) (hn1 : n ≤ 100000) :
    Calls Try.prog 74 #[.pointer (some ⟨b, 0, none⟩)] w fun e w' => ∃ lo', e = .returned (.int .i64 ((elems n S).length : Int)) ∧ SetIs w' b (n : Int) S lo' ∧ GrewF w (setF b lo) (setF b lo') ∧ Chg (setF b lo) w w' := by
  obtain ⟨W, h1, h2, h3⟩ := h
  have hm : n ≤ 64 * wordsOf (n : Int) := by unfold wordsOf; omega
  have hm2 : wordsOf (n : Int) ≤ 100000 := by unfold wordsOf; omega
  have hcount := count_bits h2 hm
  obtain ⟨m, hmm⟩ : ∃ m, wordsOf (n : Int) = m := ⟨_, rfl⟩
  have HM := Lib.hid hmm
  rw [hmm] at hm2 hcount
  have HC := Lib.hid hcount
  have H1 := Lib.hid h1
  have H2 := Lib.hid h2
  have H3 := Lib.hid h3
  clear h1 h2 h3 hm hmm hcount
  refine calls_wide ?_
  gi_enter Try.func74, Try.ntmps74
  gi_wp2_with (gi_at_call 95; refine (calls_in (SWords H3.out (by omega) (by omega))).mono ?_; rw [HM.out]; rintro e w1 ⟨g, rfl, hs, hg, hc⟩; have HS := Lib.hid hs; have HG := Lib.hid hg; have HCH := Lib.hid hc; clear hs hg hc; unfold rowAt)
  gi_loopw [3, 10] (fun s i wr => ∃ k : Nat, k ≤ m ∧ s = .int .i64 ((sumOnes W k : Nat) : Int) ∧ i = .int .i64 k ∧ SetAt wr b n W (some g) ∧ Chg [b] w wr) (fun _ i _ => m + 1 - (intOf i).toNat)
  case atStart => exact ⟨0, by omega, rfl, rfl, HS.out, HCH.out⟩
  case round =>
    obtain ⟨k, hk, rfl, rfl, hS, hC⟩ := hrel
    clear HS HCH
    have hsum : sumOnes W (k + 1) = sumOnes W k + onesN 8 (W k) := rfl
    have hsl := sumOnes_le (W := W) (k + 1)
    by_cases hlt : k < m
    · have hcell : wr.cell? ⟨g, k, none⟩ = some (.int .u64 ((W k : Nat) : Int)) := by
        rw [hS.2.1.cell, wordCells_get _ _ _ (by rw [HM.out]; exact hlt)]
      have HCELL := Lib.hid hcell
      have HS := Lib.hid hS
      have HCH := Lib.hid hC
      have HLT := Lib.hid hlt
      have HSUM := Lib.hid hsum
      rw [hsum] at hsl
      clear hS hC hcell hsum
      gi_wp2_with (first | (gi_at_call 93; refine (calls_in (ALoad g k _ _ HCELL.out)).mono ?_; rintro e w2 ⟨rfl, rfl⟩) | (gi_at_call 96; refine (calls_in (OnesWord H1.out k _)).mono ?_; rintro e w2 ⟨rfl, rfl⟩))
      go_roundw
      case rel => exact ⟨k + 1, HLT.out, by rw [HSUM.out]; go_num, by go_num, HS.out, HCH.out⟩
      case measure => have := HLT.out; simp [intOf]; omega
    · obtain rfl : k = m := by omega
      have HS := Lib.hid hS
      have HCH := Lib.hid hC
      clear hS hC hsum
      gi_wp2
      go_ret
      refine ⟨some g, by rw [← HC.out]; rfl, ⟨W, H1.out, H2.out, HS.out⟩, ?_, ?_⟩
      · intro x hx
        simp [setF] at hx
        rcases hx with rfl | rfl
        · exact .inl (by simp [setF])
        · rcases HG.out with h | h
          · exact .inl (by simp [setF, h])
          · exact .inr h
      · exact HCH.out.mono (by simp [setF])
end
end Go.Proofs.Ytbcabjpafeocgaa

/-
  Set.Reset: it has none. Conditions: at most 100000 numbers.
-/
namespace Go.Proofs.Ytbcabjpafeocgaa
set_option linter.unusedVariables false
set_option linter.unusedSimpArgs false
open Go.RowKit Go.Shelf
attribute [local go_sem] Oper.semAt_some wide_fn round_fn wide_depth round_depth
attribute [local simp] wide_fn round_fn wide_depth round_depth

theorem AStore (g q : Nat) (x : Value) (y : Int) (w : World) (hc : w.cell? ⟨g, q, none⟩ = some x) (hz : w.frozen? ⟨g, q, none⟩ = false) :
    Calls Try.prog 105 #[.pointer (some ⟨g, q, none⟩), .int .u64 y] w fun e w' => e = .returned (.tuple #[]) ∧ w' = w.setCell ⟨g, q, none⟩ (.int .u64 y) := by
  have hst := run_call_store (P := Try.prog) Try.func109 (by kernel_rfl) (by kernel_rfl) (by kernel_rfl) (by kernel_rfl) (k := .u64) (y := y) hc hz
  go_enter Try.func105, Try.ntmps105
  go_wp2
  go_end0
  exact ⟨rfl, rfl⟩

section
variable {w : World} {b : Nat} {n : Nat} {S : Nat → Bool} {lo : Option Nat}

/-- The words with the first k of them zero. -/
def zeroTo (W : Nat → Nat) (k : Nat) : Nat → Nat := fun i => if i < k then 0 else W i
theorem zeroTo_succ (W : Nat → Nat) (k : Nat) : (fun i => if i = k then 0 else zeroTo W k i) = zeroTo W (k + 1) := by
  funext i
  unfold zeroTo
  by_cases h : i = k
  · subst h; simp
  · by_cases h2 : i < k
    · rw [if_neg h, if_pos h2, if_pos (by omega)]
    · rw [if_neg h, if_neg h2, if_neg (by omega)]
theorem zeroTo_bits {W : Nat → Nat} {n : Nat} {S : Nat → Bool} (h : Bits W (n : Int) S) : Bits (zeroTo W (wordsOf (n : Int))) (n : Int) (fun _ => false) := by
  intro i
  have h2 := h i
  unfold bitOf zeroTo at *
  by_cases hi : i / 64 < wordsOf (n : Int)
  · rw [if_pos hi]; simp
  · rw [if_neg hi, h2]
    unfold wordsOf at hi
    have : ¬ ((i : Int) < (n : Int)) := by omega
    simp [this]

set_option maxRecDepth 100000 in
set_option maxHeartbeats 2000000 in
theorem SReset (h : SetIs w b (n : Int) S lo) (hn1 : n ≤ 100000) :
    Calls Try.prog 98 #[.pointer (some ⟨b, 0, none⟩)] w fun e w' => ∃ lo', e = .returned (.tuple #[]) ∧ SetIs w' b (n : Int) (fun _ => false) lo' ∧ GrewF w (setF b lo) (setF b lo') ∧ Chg (setF b lo) w w' := by
  obtain ⟨W, h1, h2, h3⟩ := h
  have hm2 : wordsOf (n : Int) ≤ 100000 := by unfold wordsOf; omega
  have hzb := zeroTo_bits h2
  obtain ⟨m, hmm⟩ : ∃ m, wordsOf (n : Int) = m := ⟨_, rfl⟩
  have HM := Lib.hid hmm
  rw [hmm] at hm2 hzb
  have HZB := Lib.hid hzb
  have H1 := Lib.hid h1
  have H3 := Lib.hid h3
  clear h1 h2 h3 hmm hzb
  refine calls_wide ?_
  gi_enter Try.func98, Try.ntmps98
  gi_wp2_with (gi_at_call 95; refine (calls_in (SWords H3.out (by omega) (by omega))).mono ?_; rw [HM.out]; rintro e w1 ⟨g, rfl, hs, hg, hc⟩; have HS := Lib.hid hs; have HG := Lib.hid hg; have HCH := Lib.hid hc; clear hs hg hc; unfold rowAt)
  gi_loopw [8] (fun i wr => ∃ k : Nat, k ≤ m ∧ i = .int .i64 k ∧ SetAt wr b n (zeroTo W k) (some g) ∧ Chg (setF b lo) w wr) (fun i _ => m + 1 - (intOf i).toNat)
  case atStart => exact ⟨0, by omega, rfl, by have := HS.out; unfold zeroTo; simpa using this, HCH.out.mono (by simp [setF])⟩
  case round =>
    obtain ⟨k, hk, rfl, hS, hC⟩ := hrel
    clear HS HCH
    by_cases hlt : k < m
    · have hcell : wr.cell? ⟨g, k, none⟩ = some (.int .u64 ((zeroTo W k k : Nat) : Int)) := by
        rw [hS.2.1.cell, wordCells_get _ _ _ (by rw [HM.out]; exact hlt)]
      have HCELL := Lib.hid hcell
      have HZ := Lib.hid (hS.2.1.frozen k)
      have HS := Lib.hid hS
      have HCH := Lib.hid hC
      have HLT := Lib.hid hlt
      clear hS hC hcell
      gi_wp2_with (gi_at_call 105; refine (calls_in (AStore g k _ 0 _ HCELL.out HZ.out)).mono ?_; rintro e w2 ⟨rfl, rfl⟩)
      go_roundw
      case rel =>
        refine ⟨k + 1, HLT.out, by go_num, ⟨HS.out.1.far (by simpa using HS.out.2.2.symm) _, ?_, HS.out.2.2⟩, ?_⟩
        · rw [← zeroTo_succ, ← wordCells_set]
          exact HS.out.2.1.set_ k _
        · refine HCH.out.setCell ?_ _
          rcases HG.out with h | h
          · exact .inl (by simp [setF, h])
          · exact .inr h
      case measure => have := HLT.out; simp [intOf]; omega
    · obtain rfl : k = m := by omega
      have HS := Lib.hid hS
      have HCH := Lib.hid hC
      clear hS hC
      gi_wp2
      go_end0
      refine ⟨some g, rfl, ⟨_, ?_, HZB.out, HS.out⟩, ?_, HCH.out⟩
      · intro i
        have := H1.out i
        unfold zeroTo
        split <;> omega
      · intro x hx
        simp [setF] at hx
        rcases hx with rfl | rfl
        · exact .inl (by simp [setF])
        · rcases HG.out with h | h
          · exact .inl (by simp [setF, h])
          · exact .inr h
end

section
variable {w0 w : World} {L : List Res} {b : Nat} {n : Nat} {S : Nat → Bool}
theorem TSCount (h : Sep w0 w L) (i : Nat) (hi : L[i]? = some (setR b (n : Int) S)) (hn1 : n ≤ 100000) :
    Calls Try.prog 74 #[.pointer (some ⟨b, 0, none⟩)] w fun e w' => e = .returned (.int .i64 ((elems n S).length : Int)) ∧ Sep w0 w' L := by
  refine h.look i hi ?_
  rintro F ⟨lo, rfl, hs⟩
  refine (SCount hs hn1).mono ?_
  rintro e w' ⟨lo', rfl, hs', hg, hc⟩
  exact ⟨_, rfl, ⟨lo', rfl, hs'⟩, hg, hc⟩
theorem TSReset (h : Sep w0 w L) (i : Nat) (hi : L[i]? = some (setR b (n : Int) S)) (hn1 : n ≤ 100000) :
    Calls Try.prog 98 #[.pointer (some ⟨b, 0, none⟩)] w fun e w' => e = .returned (.tuple #[]) ∧ Sep w0 w' (L.set i (setR b (n : Int) (fun _ => false))) := by
  refine h.call i hi _ ?_
  rintro F ⟨lo, rfl, hs⟩
  refine (SReset hs hn1).mono ?_
  rintro e w' ⟨lo', rfl, hs', hg, hc⟩
  exact ⟨_, rfl, ⟨lo', rfl, hs'⟩, hg, hc⟩
end
end Go.Proofs.Ytbcabjpafeocgaa

/-
  The marker (layer 11): it counts. Conditions: as each contract says.
-/
namespace Go.Proofs.Ytbcabjpafeocgaa
set_option linter.unusedVariables false
set_option linter.unusedSimpArgs false
open Go.RowKit Go.Shelf

section
variable {w0 w : World} {L : List Res} {i m a n : Nat} {C : Col}
theorem KCount (S : Sep w0 w L) (i : Nat) (hi : L[i]? = some (markR m a n C)) : Calls Try.prog 41 #[.pointer (some ⟨m, 0, none⟩)] w fun e w' => e = .returned (.int .i64 ((elems n C.mz).length : Int)) ∧ Sep w0 w' L := by
  obtain ⟨o, ho, hs⟩ := mark_open S i hi
  have c1 := (hs.blk 0 rfl).cell 1
  simp only [List.getElem?_toArray, List.getElem?_cons_zero, List.getElem?_cons_succ] at c1
  have HI := Lib.hid hi
  have HO := Lib.hid ho
  have HC := Lib.hid (TSCount hs 1 rfl (by have := ho.size; omega))
  clear hs ho S hi
  go_enter Try.func41, Try.ntmps41
  go_wp2_with (go_at_call 74; refine HC.out.mono ?_; rintro e w' ⟨rfl, hs⟩; have HS := Lib.hid hs; clear hs HC)
  go_ret
  have := mark_shut HO.out HS.out HI.out
  rw [set_self HI.out] at this
  exact ⟨rfl, this⟩
theorem drop_same {S : Nat → Bool} {r : Nat} (h : S r = false) : (fun j => S j && !decide (j = r)) = S := by
  funext j
  by_cases e : j = r
  · subst e; simp [h]
  · simp [e]
theorem KRegrey (S : Sep w0 w L) (i : Nat) (hi : L[i]? = some (markR m a n C)) (r : Nat) (h0 : 0 < r) (hr : r < n) : Calls Try.prog 80 #[.pointer (some ⟨m, 0, none⟩), .int .i64 (r : Int)] w fun e w' => e = .returned (.bool (C.sc r)) ∧ Sep w0 w' (L.set i (markR m a n ⟨C.mz, fun x => C.sc x && !decide (x = r)⟩)) := by
  have hz : ((r : Int) == 0) = false := by simp; omega
  have hz2 : ¬ (r : Int) = 0 := by omega
  have HI := Lib.hid hi
  have HSELF := Lib.hid (set_self hi)
  obtain ⟨b, hb⟩ : ∃ b, C.mz r = b := ⟨_, rfl⟩
  have HB := Lib.hid hb
  have HK := Lib.hid (KMarked S i hi r hr)
  obtain ⟨o0, ho0, _⟩ := mark_open S i hi
  cases b with
  | false =>
    have hsc : C.sc r = false := by
      cases h : C.sc r with
      | false => rfl
      | true => rw [ho0.sc r h] at hb; cases hb
    have HSC := Lib.hid hsc
    clear S hi hb ho0 hsc
    go_enter Try.func80, Try.ntmps80
    go_wp2_with (go_at_call 32; refine HK.out.mono ?_; rw [HB.out]; rintro e w' ⟨rfl, hs⟩; have HS := Lib.hid hs; clear hs HK)
    go_ret
    rw [drop_same HSC.out, HSELF.out, HSC.out]
    exact ⟨rfl, HS.out⟩
  | true =>
    obtain ⟨c, hc⟩ : ∃ c, C.sc r = c := ⟨_, rfl⟩
    have HSC := Lib.hid hc
    have HM := Lib.hid hb
    clear S hi hb ho0 hc
    cases c with
    | false =>
      go_enter Try.func80, Try.ntmps80
      go_wp2_with (first
        | (go_at_call 32; refine HK.out.mono ?_; rw [HB.out]; rintro e w' ⟨rfl, hs⟩; obtain ⟨o, ho, hs⟩ := mark_open hs i HI.out; have c2 := (hs.blk 0 rfl).cell 2; simp only [List.getElem?_toArray, List.getElem?_cons_zero, List.getElem?_cons_succ] at c2; have HO := Lib.hid ho; have HC := Lib.hid (TSDrop hs 2 rfl (by have := ho.size; omega) r (by omega)); clear hs ho HK)
        | (go_at_call 91; refine HC.out.mono ?_; rw [HSC.out]; rintro e w' ⟨rfl, hs⟩; have HS := Lib.hid hs; clear hs HC))
      go_ret
      have h2 := HS.out
      rw [drop_same HSC.out] at h2
      rw [drop_same HSC.out, HSC.out]
      exact ⟨rfl, mark_shut HO.out h2 HI.out⟩
    | true =>
      go_enter Try.func80, Try.ntmps80
      go_wp2_with (first
        | (go_at_call 32; refine HK.out.mono ?_; rw [HB.out]; rintro e w' ⟨rfl, hs⟩; obtain ⟨o, ho, hs⟩ := mark_open hs i HI.out; have c2 := (hs.blk 0 rfl).cell 2; simp only [List.getElem?_toArray, List.getElem?_cons_zero, List.getElem?_cons_succ] at c2; have HO := Lib.hid ho; have HC := Lib.hid (TSDrop hs 2 rfl (by have := ho.size; omega) r (by omega)); clear hs ho HK)
        | (go_at_call 91; refine HC.out.mono ?_; rw [HSC.out]; rintro e w1 ⟨rfl, hs⟩; have c3 := (hs.blk 0 rfl).cell 3; simp only [List.getElem?_toArray, List.getElem?_cons_zero, List.getElem?_cons_succ] at c3; have HC2 := Lib.hid (TGPush hs 3 rfl (r : Int) (by rw [ints_length]; have h1 := HO.out.grey.fits; have h2 := HO.out.few; omega)); clear hs HC)
        | (go_at_call 76; refine HC2.out.mono ?_; rintro e w2 ⟨v, rfl, hs⟩; have HS := Lib.hid hs; clear hs HC2))
      go_ret
      refine ⟨by rw [HSC.out]; rfl, mark_shut (ok_regrey HO.out h0 hr HM.out) ?_ HI.out⟩
      have h2 := HS.out
      simp only [ints_length, Int.ofNat_lt] at h2
      by_cases h : o.gs.length < o.room
      · simp only [h, if_true] at h2 ⊢
        rw [← ints_push] at h2
        exact h2
      · simp only [h, if_false] at h2 ⊢
        exact h2
end
end Go.Proofs.Ytbcabjpafeocgaa

/-
  The marker (layer 11): all are white again. Conditions: as each contract says.
-/
namespace Go.Proofs.Ytbcabjpafeocgaa
set_option linter.unusedVariables false
set_option linter.unusedSimpArgs false
open Go.RowKit Go.Shelf

/-- All are white. -/
def Col.white : Col := ⟨fun _ => false, fun _ => false⟩

section
variable {w0 w : World} {L : List Res} {i m a n : Nat} {C : Col}
theorem grey_white {room : Nat} : Grey Col.white [] room false := by
  constructor <;> simp [Col.white, Col.grey]
theorem ok_white {o : Own3} (ho : MarkOk n o C) : MarkOk n { o with gs := [], over := false } Col.white :=
  ⟨grey_white, ho.room, ho.few, by simp, by simp [Col.white], by simp [Col.white], ho.size⟩
end
end Go.Proofs.Ytbcabjpafeocgaa

/-
  The marker's iterator over what is marked (layer 11). Conditions: as the theorem says.
-/
namespace Go.Proofs.Ytbcabjpafeocgaa
set_option linter.unusedVariables false
set_option linter.unusedSimpArgs false
open Go.RowKit Go.Shelf
attribute [local go_sem] Oper.semAt_some wide_fn round_fn wide_depth round_depth
attribute [local simp] wide_fn round_fn wide_depth round_depth

section
variable {w0 w : World} {L : List Res}
end

end Go.Proofs.Ytbcabjpafeocgaa

/-
  The marker (layer 11): a new one; is an object grey; all grey ones onto the stack. Conditions: as each contract says.
-/
namespace Go.Proofs.Ytbcabjpafeocgaa
set_option linter.unusedVariables false
set_option linter.unusedSimpArgs false
open Go.RowKit Go.Shelf

section
variable {w0 w : World} {L : List Res} {m a n : Nat} {C : Col}

theorem KNew {A : AR} (S : Sep w0 w L) (i : Nat) (hi : L[i]? = some (arenaR a A)) (hn : A.size = (n : Int)) (hn5 : n ≤ 100000) (room : Int) (hroom : room ≤ 1000000) :
    Calls Try.prog 15 #[.pointer (some ⟨a, 0, none⟩), .int .i64 room] w fun e w' => ∃ m, e = .returned (.pointer (some ⟨m, 0, none⟩)) ∧ Sep w0 w' (markR m a n Col.white :: L) := by
  have HC0 := Lib.hid (TASize S i hi)
  have HN := Lib.hid hn
  have HS := Lib.hid S
  have HI := Lib.hid hi
  clear S hi hn
  go_enter Try.func15, Try.ntmps15
  go_wp2_with (first
    | (go_at_call 57; refine HC0.out.mono ?_; rw [HN.out]; rintro e w1 ⟨rfl, rfl⟩; have HC1 := Lib.hid (TSNew HS.out (n : Int) (by omega)); clear HC0)
    | (go_at_call 56; refine HC1.out.mono ?_; rintro e w2 ⟨rfl, hs⟩; have HC2 := Lib.hid (TASize hs (i + 1) (by simpa using HI.out)); have HS2 := Lib.hid hs; clear hs HC1)
    | (go_at_call 57; refine HC2.out.mono ?_; rw [HN.out]; rintro e w3 ⟨rfl, rfl⟩; have HC3 := Lib.hid (TSNew HS2.out (n : Int) (by omega)); clear HC2)
    | (go_at_call 56; refine HC3.out.mono ?_; rintro e w4 ⟨rfl, hs⟩; have HC4 := Lib.hid (TGNew hs); clear hs HC3)
    | (go_at_call 58; refine (HC4.out _).mono ?_; rintro e w5 ⟨b, rfl, hs⟩; have HS5 := Lib.hid hs; clear hs HC4))
  all_goals
    go_ret
    refine ⟨w5.heap.size, rfl, ?_⟩
    have h1 := HS5.out.box #[.pointer (some ⟨a, 0, none⟩), .pointer (some ⟨w.heap.size, 0, none⟩), .pointer (some ⟨w2.heap.size, 0, none⟩), .pointer (some ⟨b, 0, none⟩)] 85
    have h2 := h1.front 4 [0, 3, 2, 1]
    rw [show max (if room < 1 then (1 : Int) else room) 0 = ((max room 1).toNat : Int) by split <;> omega] at h2
    exact mark_shutHead (o := ⟨w.heap.size, w2.heap.size, b, [], (max room 1).toNat, false⟩) ⟨grey_white, by show 1 ≤ (max room 1).toNat; omega, by show (max room 1).toNat ≤ _; omega, by simp, by simp [Col.white], by simp [Col.white], hn5⟩ h2

theorem PMarked (S : Sep w0 w L) (i j : Nat) {b1 b2 b3 : Nat} {Z : Nat → Bool} (hi : L[i]? = some (blkR m 85 #[.pointer (some ⟨a, 0, none⟩), .pointer (some ⟨b1, 0, none⟩), .pointer (some ⟨b2, 0, none⟩), .pointer (some ⟨b3, 0, none⟩)])) (hj : L[j]? = some (setR b1 (n : Int) Z)) (hn : n ≤ 100000) (r : Nat) (hr : r < n) :
    Calls Try.prog 32 #[.pointer (some ⟨m, 0, none⟩), .int .i64 (r : Int)] w fun e w' => e = .returned (.bool (Z r)) ∧ Sep w0 w' L := by
  have c1 := (S.blk i hi).cell 1
  simp only [List.getElem?_toArray, List.getElem?_cons_zero, List.getElem?_cons_succ] at c1
  have HC := Lib.hid (TSHas S j hj (by omega) r (by omega))
  clear S hi hj
  go_enter Try.func32, Try.ntmps32
  go_wp2_with (go_at_call 68; refine HC.out.mono ?_; rintro e w' ⟨rfl, hs⟩; have HS := Lib.hid hs; clear hs HC)
  go_ret
  exact ⟨rfl, HS.out⟩
theorem PScanned (S : Sep w0 w L) (i j : Nat) {b1 b2 b3 : Nat} {Z : Nat → Bool} (hi : L[i]? = some (blkR m 85 #[.pointer (some ⟨a, 0, none⟩), .pointer (some ⟨b1, 0, none⟩), .pointer (some ⟨b2, 0, none⟩), .pointer (some ⟨b3, 0, none⟩)])) (hj : L[j]? = some (setR b2 (n : Int) Z)) (hn : n ≤ 100000) (r : Nat) (hr : r < n) :
    Calls Try.prog 35 #[.pointer (some ⟨m, 0, none⟩), .int .i64 (r : Int)] w fun e w' => e = .returned (.bool (Z r)) ∧ Sep w0 w' L := by
  have c1 := (S.blk i hi).cell 2
  simp only [List.getElem?_toArray, List.getElem?_cons_zero, List.getElem?_cons_succ] at c1
  have HC := Lib.hid (TSHas S j hj (by omega) r (by omega))
  clear S hi hj
  go_enter Try.func35, Try.ntmps35
  go_wp2_with (go_at_call 68; refine HC.out.mono ?_; rintro e w' ⟨rfl, hs⟩; have HS := Lib.hid hs; clear hs HC)
  go_ret
  exact ⟨rfl, HS.out⟩
end
end Go.Proofs.Ytbcabjpafeocgaa

/-
  The marker (layer 11): grey ones onto the stack again; is none grey. Conditions: as the theorem says.
-/
namespace Go.Proofs.Ytbcabjpafeocgaa
set_option linter.unusedVariables false
set_option linter.unusedSimpArgs false
open Go.RowKit Go.Shelf
attribute [local go_sem] Oper.semAt_some wide_fn round_fn wide_depth round_depth
attribute [local simp] wide_fn round_fn wide_depth round_depth

/-- What the stack holds where those of pre were looked at. -/
structure Refill (C : Col) (pre gs : List Nat) (room : Nat) (ov : Bool) : Prop where
  some_ : ov = false → ∀ x ∈ pre, C.grey x = true → x ∈ gs
  fits : gs.length ≤ room
  grey : ∀ x ∈ gs, C.grey x = true
  full : ov = true → gs.length = room
theorem refill_none (C : Col) (room : Nat) : Refill C [] [] room false := ⟨by simp, by simp, by simp, by simp⟩
theorem Refill.skip {C : Col} {pre gs : List Nat} {room : Nat} {ov : Bool} {x : Nat} (h : Refill C pre gs room ov) (hx : C.grey x = false) : Refill C (pre ++ [x]) gs room ov :=
  ⟨fun ho y hy hg => (by
    rcases List.mem_append.1 hy with h1 | h1
    · exact h.some_ ho y h1 hg
    · simp at h1; subst h1; rw [hx] at hg; cases hg), h.fits, h.grey, h.full⟩
theorem Refill.push {C : Col} {pre gs : List Nat} {room : Nat} {ov : Bool} {x : Nat} (h : Refill C pre gs room ov) (hx : C.grey x = true) : Refill C (pre ++ [x]) (if gs.length < room then gs ++ [x] else gs) room (if gs.length < room then ov else true) := by
  by_cases hl : gs.length < room
  · simp only [hl, if_true]
    refine ⟨fun ho y hy hg => ?_, by simp; omega, fun y hy => ?_, fun ho => ?_⟩
    · rcases List.mem_append.1 hy with h1 | h1
      · exact List.mem_append.2 (.inl (h.some_ ho y h1 hg))
      · exact List.mem_append.2 (.inr h1)
    · rcases List.mem_append.1 hy with h1 | h1
      · exact h.grey y h1
      · simp at h1; subst h1; exact hx
    · have := h.full ho
      omega
  · simp only [hl, if_false]
    exact ⟨fun ho => (by cases ho), h.fits, h.grey, fun _ => (by have := h.fits; omega)⟩
theorem Refill.ok {C : Col} {gs : List Nat} {o : Own3} {n : Nat} {ov : Bool} (h : Refill C (elems n C.mz) gs o.room ov) (ho : MarkOk n o C) : MarkOk n { o with gs := gs, over := ov } C := by
  refine ⟨⟨fun hv r hr => ?_, h.fits⟩, ho.room, ho.few, fun r hr => ?_, ho.mz, ho.sc, ho.size⟩
  · have hm := (grey_iff.1 hr).1
    exact h.some_ hv r (mem_elems.2 ⟨(ho.mz r hm).2, hm⟩) hr
  · exact ho.mz r (grey_iff.1 (h.grey r hr)).1

section
variable {w0 w : World} {L R0 : List Res} {m a n : Nat} {C : Col}
end
end Go.Proofs.Ytbcabjpafeocgaa

/-
  The marker (layer 11): the next grey one. Conditions: as the theorem says.
-/
namespace Go.Proofs.Ytbcabjpafeocgaa
set_option linter.unusedVariables false
set_option linter.unusedSimpArgs false
open Go.RowKit Go.Shelf

/-- The least number of those that p holds of. -/
noncomputable def leastN (p : Nat → Prop) : Nat := open Classical in if h : ∃ k, p k ∧ ∀ j, p j → k ≤ j then h.choose else 0
theorem leastN_is {p : Nat → Prop} (h : ∃ k, p k) : p (leastN p) ∧ ∀ j, p j → leastN p ≤ j := by
  have h1 : ∃ k, p k ∧ ∀ j, p j → k ≤ j := by
    obtain ⟨k, hk⟩ := h
    induction k using Nat.strongRecOn with
    | _ k ih =>
      by_cases e : ∃ j, j < k ∧ p j
      · obtain ⟨j, h1, h2⟩ := e
        exact ih j h1 h2
      · exact ⟨k, hk, fun j hj => Nat.le_of_not_lt fun hl => e ⟨j, hl, hj⟩⟩
  unfold leastN
  rw [dif_pos h1]
  exact h1.choose_spec
theorem leastN_lt {p q : Nat → Prop} {k : Nat} (h : ∃ k, p k) (hq : q k) (hk : k < leastN p) : leastN q < leastN p :=
  Nat.lt_of_le_of_lt ((leastN_is ⟨k, hq⟩).2 k hq) hk

/-- How far the search for a grey one is from its end. -/
inductive NextK (C : Col) (o : Own3) : Nat → Prop
  | any : NextK C o (o.gs.length + 2)
  | fresh (h : ∀ x ∈ o.gs, C.grey x = true) (hv : o.over = true → o.gs ≠ []) : NextK C o 1

section
variable {w0 w : World} {L R0 : List Res} {m a n : Nat} {C : Col}
def NextJ (w0 : World) (m a n : Nat) (C : Col) (R0 : List Res) (w : World) (k : Nat) : Prop := ∃ o, MarkOk n o C ∧ NextK C o k ∧ Sep w0 w (markParts m a n o C ++ R0)
theorem ok_popGrey {o : Own3} {l : List Nat} {r : Nat} (ho : MarkOk n o C) (h : o.gs = l ++ [r]) (hg : C.grey r = true) : MarkOk n { o with gs := l } (C.scan r) := by
  have hG := ho.grey
  rw [h] at hG
  refine ⟨hG.popScan, ho.room, ho.few, fun x hx => ho.refs x (by rw [h]; exact List.mem_append.2 (.inl hx)), ho.mz, fun x hx => ?_, ho.size⟩
  have hx' : (C.sc x || decide (x = r)) = true := hx
  simp only [Bool.or_eq_true, decide_eq_true_eq] at hx'
  rcases hx' with h1 | rfl
  · exact ho.sc x h1
  · exact (grey_iff.1 hg).1
theorem ok_popOther {o : Own3} {l : List Nat} {r : Nat} (ho : MarkOk n o C) (h : o.gs = l ++ [r]) (hg : C.grey r = false) : MarkOk n { o with gs := l } C := by
  have hG := ho.grey
  rw [h] at hG
  exact ⟨hG.pop hg, ho.room, ho.few, fun x hx => ho.refs x (by rw [h]; exact List.mem_append.2 (.inl hx)), ho.mz, ho.sc, ho.size⟩

end
end Go.Proofs.Ytbcabjpafeocgaa

/-
  The marker (layer 11): so many grey ones are scanned. Conditions: as the theorem says.
-/
namespace Go.Proofs.Ytbcabjpafeocgaa
set_option linter.unusedVariables false
set_option linter.unusedSimpArgs false
open Go.RowKit Go.Shelf
attribute [local go_sem] Oper.semAt_some wide_fn round_fn wide_depth round_depth
attribute [local simp] wide_fn round_fn wide_depth round_depth

theorem shades_push (C : Col) (l : List Nat) (x : Nat) : C.shades (l ++ [x]) = (C.shades l).shade x := by simp [Col.shades]

section
variable {w0 w : World} {L R0 : List Res} {m a n : Nat} {C : Col}
/-- What a trace of k comes to. -/
structure Traced (pts : Nat → List Nat) (k : Nat) (d : Nat) (C C' : Col) : Prop where
  steps : Steps pts d C C'
  most : d ≤ k
  end_ : d < k → ∀ x, C'.grey x = false
end
end Go.Proofs.Ytbcabjpafeocgaa

/-
  The marker (layer 11): Trace, wherever marker and arena lie; and of less than nothing. Conditions: as the theorem says.
-/
namespace Go.Proofs.Ytbcabjpafeocgaa
set_option linter.unusedVariables false
set_option linter.unusedSimpArgs false
open Go.RowKit Go.Shelf
attribute [local go_sem] Oper.semAt_some wide_fn round_fn wide_depth round_depth
attribute [local simp] wide_fn round_fn wide_depth round_depth

section
variable {w0 w : World} {L R0 : List Res} {m a n : Nat} {C : Col}
end
end Go.Proofs.Ytbcabjpafeocgaa

/-
  fit of layer 11. Conditions: as the theorem says.
-/
namespace Go.Proofs.Ytbcabjpafeocgaa
set_option linter.unusedVariables false
set_option linter.unusedSimpArgs false
open Go.RowKit Go.Shelf

theorem Heap.born {A A' : AR} {O : Nat → Prop} {fs : Nat → List Nat} {r n : Nat} (h : Heap A O fs) (hN : NewIs A n r A') : Heap A' (fun y => O y ∨ y = r) (updT fs r (List.replicate n 0)) := by
  have hr : ∀ y, O y → y ≠ r := by
    intro y hy
    obtain ⟨x, ho⟩ := h.obj y hy
    exact (hN.old _ _ _ ho).2
  refine ⟨hN.wf, ?_, ?_⟩
  · intro y hy
    rcases hy with h1 | rfl
    · obtain ⟨x, ho⟩ := h.obj y h1
      refine ⟨x, ?_⟩
      simp only [updT, hr y h1, if_false]
      exact (hN.old _ _ _ ho).1
    · refine ⟨0, ?_⟩
      simp only [updT, if_true, List.map_replicate]
      exact hN.obj
  · intro y hy z hz
    rcases hy with h1 | rfl
    · simp only [updT, hr y h1, if_false] at hz
      rcases h.closed y h1 z hz with h2 | h2
      · exact .inl h2
      · exact .inr (.inl h2)
    · simp only [updT, if_true] at hz
      exact .inl (List.mem_replicate.1 hz).2
theorem heap_new (m : Nat) (ids : Nat × Nat × Nat) (hm : m ≤ 64) : Heap (AR.new m ids) (fun _ => False) (fun _ => []) := ⟨AR.new_wf m ids hm, fun _ h => h.elim, fun _ h => h.elim⟩
theorem size_n {A : AR} {m : Nat} (h : A.n = m) : A.size = ((m * 32 + 1 : Nat) : Int) := by
  unfold AR.size
  rw [h]
/-- One grey one is scanned. -/
theorem trace_one {pts : Nat → List Nat} {d x : Nat} {C' : Col} (h : Traced pts 1 d (Col.white.shade x) C') : d = 1 ∧ C' = ((Col.white.shade x).scan x).shades (pts x) := by
  obtain ⟨hs, hm, he⟩ := h
  have hg : ∀ r, (Col.white.shade x).grey r = true → r = x := by
    intro r hr
    obtain ⟨h1, _⟩ := grey_iff.1 hr
    simpa [Col.white, Col.shade] using h1
  have hx : (Col.white.shade x).grey x = true := by simp [Col.white, Col.shade, Col.grey]
  cases hs with
  | zero => have := he (by omega) x; rw [hx] at this; cases this
  | @succ d' _ C1 r hs hr =>
    have hd : d' = 0 := by omega
    subst hd
    cases hs with
    | zero =>
      have := hg r hr
      subst this
      exact ⟨rfl, rfl⟩
end Go.Proofs.Ytbcabjpafeocgaa

/-
  A region that draws its order, in a round of a loop over a function: reads in any order, and then the rest, one behind the other. Conditions: no program is named here.
-/
namespace Go.Proofs.Ytbcabjpafeocgaa
set_option linter.unusedVariables false
set_option linter.unusedSimpArgs false
open Go.RowKit Go.Shelf

section
variable {P : Program} {ops : Array Oper} {Q : Exit → Act → World → Prop} {md : Region.Mode} {l₀ : Nat}

theorem rowsIn_of {row : String} {args : Array Value} {w : World} {R : Value → World → Prop} (h : Rows P row args w R) : RowsIn (Fence.wide.inRound l₀) 0 P row args w R :=
  fun c cs _ => let ⟨v, w', r, s⟩ := h c cs; ⟨v, w', r, stepsIn_wide.2 s⟩
theorem wpIn_of_wp {o : Oper} {a : Act} {w : World} {K : Act → World → Prop} (hnd : ∀ c, o.op ≠ .defer c) (h : o.wp P a w K Q) : o.wpIn (Fence.wide.inRound l₀) 0 P a w K Q := by
  unfold Oper.wp at h
  unfold Oper.wpIn
  refine ⟨fun f _ => trivial, ?_⟩
  rw [Oper.semAt_eq _ _ _ hnd]
  generalize (execOp a.eval o).run P w = r at *
  cases r with
  | ok x w' =>
    have hd : Fence.wide.depth.isSome = true → 1 ≤ 0 := fun hd => (by have h0 : (Option.isSome (none : Option Nat)) = true := hd; cases h0)
    cases x <;> first
      | exact h
      | exact ⟨hd, calls_round h⟩
      | exact ⟨hd, rowsIn_of h⟩
      | exact h.elim
  | halt x w' => cases x <;> exact h
theorem wpAnyIn_of_wpAny (hnd : ∀ (i : Nat) (o : Oper), ops[i]? = some o → ∀ c, o.op ≠ .defer c) (hout : ∀ a w, ¬ Q .outgrown a w) :
    ∀ (fuel : Nat) (listed : Array Bool) (a : Act) (w : World), wpAny P md ops Q fuel listed a w → wpAnyIn (Fence.wide.inRound l₀) 0 P md ops Q fuel listed a w
  | 0, _, _, _, h => h
  | fuel + 1, listed, a, w, h => by
    refine ⟨h.1, fun i hi => ?_⟩
    have h2 := h.2 i hi
    unfold wpOp at h2
    unfold wpOpIn
    cases ho : ops[i]? with
    | none =>
      simp only [ho] at h2 ⊢
      exact wpAnyIn_of_wpAny hnd hout fuel _ _ _ h2
    | some o =>
      simp only [ho] at h2 ⊢
      split
      · rename_i hw
      
        rw [if_pos hw] at h2
        rcases h2 with h3 | ⟨_, a', w', h3⟩
        · exact wpIn_of_wp (hnd i o ho) (Oper.wp_mono (fun a w => wpAnyIn_of_wpAny hnd hout fuel _ a w) h3)
        · exact absurd h3 (hout a' w')
      · rename_i hw
        rw [if_neg hw] at h2
        exact ⟨fun f _ => trivial, wpAnyIn_of_wpAny hnd hout fuel _ _ _ h2⟩

theorem wpIn_region_still_tail {id : Nat} {a : Act} {w : World} {l : List Oper} (n : Nat) (hm : P.follows .mixedOrders = true) (hB : Region.lexTailB .any l.toArray n = true)
    (hnd : (l.all fun o => match o.op with | .defer _ => false | _ => true) = true) (hout : ∀ a w, ¬ Q .outgrown a w)
    (h : wpStill P l.toArray { w with drawn := w.drawn + 1 } (fun a' => wpList P l.toArray Q (l.drop n) a' { w with drawn := w.drawn + 1 }) (l.take n) a) : (Code.region id l.toArray true).wpIn (Fence.wide.inRound l₀) 0 P Q a w := by
  simp only [Region.lexTailB, Bool.and_eq_true, decide_eq_true_eq] at hB
  obtain ⟨⟨⟨⟨hsel, hn⟩, hs⟩, hc⟩, hlex⟩ := hB
  have hn' : n < l.length := by simpa using hn
  have htl : (l.take n).length = n := by simp; omega
  have hdl : (l.drop n).length = l.toArray.size - n := by simp
  have inv0 : HeadInv .any l.toArray n (Array.replicate l.toArray.size false) :=
    ⟨by simp, fun j oj _ hl => (by rw [getD_replicate_false] at hl; cases hl), fun t _ ht => getD_in (by simpa using ht) (getD_replicate_false _ _)⟩
  have H := wpAnyL_lex (md := .any) (g := l.toArray.size - n) hsel hs hc hn (l.take n) 0 _ a (fun j hj => by
    have hj' : j < n := by rw [htl] at hj; exact hj
    simp [hj']) (by simpa using htl) inv0 (by rw [htl]; exact hlex) h
  refine wpIn_region_any hm (wpAnyIn_of_wpAny ?_ hout _ _ _ _ ?_)
  · intro i o ho c he
    have hmem : o ∈ l := by
      rw [List.getElem?_toArray] at ho
      exact List.mem_of_getElem? ho
    have := List.all_eq_true.1 hnd o hmem
    rw [he] at this
    cases this
  · have := wpAny_of_head (Q' := Q) (g := l.toArray.size - n) (fun listed a' hL => by
      have := wpAny_of_seq (md := .any) (Q' := Q) (l.drop n) n listed a' { w with drawn := w.drawn + 1 } (fun j => by simp [List.getElem?_drop]) (by rw [hdl]; exact hL.1) hL.2
      rwa [hdl] at this) _ _ _ H
    rw [htl, show n + (l.toArray.size - n) = l.toArray.size by omega] at this
    exact this
end
end Go.Proofs.Ytbcabjpafeocgaa

/-
  A region that draws its order: reads that may come up at any time, and a chain of operations that change memory. Conditions: no program is named here.
-/
namespace Go.Proofs.Ytbcabjpafeocgaa
set_option linter.unusedVariables false
set_option linter.unusedSimpArgs false
open Go.RowKit Go.Shelf

section
variable {P : Program} {ops : Array Oper} {Q : Exit → Act → World → Prop} {md : Region.Mode} {C : World → Prop} {l₀ : Nat}

/-- In state a and world w the operation yields v, and leaves the world as it is. -/
def yieldsAt (P : Program) (o : Oper) (a : Act) (v : Value) (w : World) : Prop :=
  match (execOp a.eval o).run P w with
  | .ok (.value u) w' => u = v ∧ w' = w
  | .ok (.enter f args) w' => w' = w ∧ Calls P f args w (fun e w'' => e = .returned v ∧ w'' = w)
  | _ => False
def YieldsC (C : World → Prop) (P : Program) (ops : Array Oper) (o : Oper) (v : Value) (a : Act) : Prop :=
  (Region.wanted o (yielded ops a.tmps) = true ∧ ∀ w, C w → yieldsAt P o a v w) ∨ (Region.wanted o (yielded ops a.tmps) = false ∧ v = undef)

theorem YieldsC.wpOp {i : Nat} {o : Oper} {v : Value} {a : Act} (hi : ops[i]? = some o) (hy : YieldsC C P ops o v a)
    {K : Act → World → Prop} {w : World} (hC : C w) (h : K (a.put o.dst v) w) : wpOp P ops Q i K a w := by
  unfold Go.wpOp
  simp only [hi]
  rcases hy with ⟨hw, hv⟩ | ⟨hw, rfl⟩
  · simp only [hw, if_true]
    left
    have h1 := hv w hC
    unfold yieldsAt at h1
    unfold Oper.wp
    generalize (execOp a.eval o).run P w = r at *
    cases r with
    | ok x w' =>
      cases x with
      | value u => obtain ⟨rfl, rfl⟩ := h1; exact h
      | enter f args =>
        obtain ⟨rfl, hc⟩ := h1
        refine Calls.mono hc ?_
        rintro e w'' ⟨rfl, rfl⟩
        exact h
      | _ => exact h1.elim
    | halt x w' => exact h1.elim
  · simp only [hw, Bool.false_eq_true, if_false]; exact h
theorem YieldsC.of_same {o : Oper} {v : Value} {a a' : Act} (hy : YieldsC C P ops o v a) (he : execOp a'.eval o = execOp a.eval o)
    (hw : Region.wanted o (yielded ops a'.tmps) = Region.wanted o (yielded ops a.tmps)) : YieldsC C P ops o v a' := by
  unfold YieldsC yieldsAt at *
  rw [he, hw]
  exact hy
theorem wpOp_putC {j : Nat} {oi oj : Oper} {v : Value} (hj : ops[j]? = some oj) (hap : oi.apart ops oj = true)
    (hsi : ∀ cs b, oi.op ≠ .select cs b) (hsj : ∀ cs b, oj.op ≠ .select cs b)
    (hQ : ∀ c a w, Q (.panic c) (a.put oi.dst v) w → Q (.panic c) a w) {K : Act → World → Prop} {a : Act} {w : World}
    (hy : YieldsC C P ops oi v a) (h : wpOp P ops Q j K (a.put oi.dst v) w) :
    wpOp P ops Q j (fun a' w' => YieldsC C P ops oi v a' ∧ K (a'.put oi.dst v) w') a w := by
  obtain ⟨h1, h2, h3⟩ := Oper.apart_spec hap
  have keep : ∀ (a : Act), YieldsC C P ops oi v a → ∀ u, YieldsC C P ops oi v (a.put oj.dst u) := fun a hy u =>
    hy.of_same (execOp_put oi hsi a oj.dst u h3) (wanted_put oi a oj.dst u h3)
  have keepD : ∀ d, YieldsC C P ops oi v { a with defers := d :: a.defers } := fun d => hy.of_same rfl rfl
  unfold wpOp at *
  simp only [hj] at *
  rw [wanted_put oj a oi.dst v h1] at h
  split
  · rename_i hw
    simp only [hw, if_true] at h
    rcases h with h | ⟨hasks, hlets⟩
    case inr => exact .inr ⟨by unfold Oper.asks at *; rw [execOp_put oj hsj a oi.dst v h1] at hasks; exact hasks, hlets⟩
    refine .inl ?_
    unfold Oper.wp at *
    rw [execOp_put oj hsj a oi.dst v h1] at h
    generalize (execOp a.eval oj).run P w = r at *
    cases r with
    | ok n w' =>
      cases n <;> simp only [Oper.upon] at h ⊢
      case value u => exact ⟨keep a hy u, by rw [← Act.put_comm a v u h2]; exact h⟩
      case skip => exact ⟨keep a hy _, by rw [← Act.put_comm a v undef h2]; exact h⟩
      case «defer» d =>
        refine ⟨keep _ (keepD d) _, ?_⟩
        rw [← Act.put_comm _ v undef h2, ← Act.put_defers]
        exact h
      case enter f args =>
        refine Calls.mono h fun e w'' he => ?_
        cases e with
        | returned u => exact ⟨keep a hy u, by rw [← Act.put_comm a v u h2]; exact he⟩
        | panicked c => exact hQ _ _ _ he
        | outgrown => exact he
      case row row args => exact Rows.mono h fun u w'' he => ⟨keep a hy u, by rw [← Act.put_comm a v u h2]; exact he⟩
    | halt x w' =>
      cases x <;> simp only [Oper.upon] at h ⊢
      case panic u => exact hQ _ _ _ h
  · rename_i hw
    simp only [hw] at h
    exact ⟨keep a hy _, by rw [← Act.put_comm a v undef h2]; exact h⟩

/-- Whatever order is picked from here on, in worlds of the class. -/
def wpAnyC (C : World → Prop) (P : Program) (md : Region.Mode) (ops : Array Oper) (Q : Exit → Act → World → Prop) : Nat → Array Bool → Act → World → Prop
  | 0, listed, a, w => C w ∧ Region.ready md ops listed = [] ∧ Q .normal a w
  | fuel + 1, listed, a, w => C w ∧ (Region.ready md ops listed = [] → Q .normal a w) ∧
    ∀ i ∈ Region.ready md ops listed, wpOp P ops Q i (wpAnyC C P md ops Q fuel (listed.setIfInBounds i true)) a w
theorem wpAnyC.cls : ∀ {fuel : Nat} {listed : Array Bool} {a : Act} {w : World}, wpAnyC C P md ops Q fuel listed a w → C w
  | 0, _, _, _, h => h.1
  | _ + 1, _, _, _, h => h.1
theorem wpAnyC.any : ∀ (fuel : Nat) (listed : Array Bool) (a : Act) (w : World), wpAnyC C P md ops Q fuel listed a w → wpAny P md ops Q fuel listed a w
  | 0, _, _, _, h => h.2
  | fuel + 1, listed, a, w, h => ⟨h.2.1, fun i hi => wpOp_mono (fun a' w' => wpAnyC.any fuel _ a' w') (h.2.2 i hi)⟩
theorem wpAnyC_first {i : Nat} {oi : Oper} {v : Value} (hi : ops[i]? = some oi) (hsel : ∀ (j : Nat) (o : Oper) cs b, ops[j]? = some o → o.op ≠ .select cs b)
    (hQ : ∀ c a w, Q (.panic c) (a.put oi.dst v) w → Q (.panic c) a w) :
    ∀ (fuel : Nat) (listed : Array Bool) (a : Act) (w : World),
      (∀ j oj, ops[j]? = some oj → j ≠ i → listed.getD j true = false → (∀ e ∈ oj.after, Region.binds md e = true → e.on ≠ i) → oi.apart ops oj = true) →
      i ∈ Region.ready md ops listed → YieldsC C P ops oi v a →
      wpAnyC C P md ops Q fuel (listed.setIfInBounds i true) (a.put oi.dst v) w → wpAnyC C P md ops Q (fuel + 1) listed a w := by
  intro fuel
  induction fuel with
  | zero =>
    intro listed a w _ hr hy H
    refine ⟨H.cls, fun h => (by rw [h] at hr; cases hr), fun j hj => ?_⟩
    by_cases hji : j = i
    · subst hji; exact hy.wpOp hi H.cls H
    · have := ready_mono hj hji
      rw [H.2.1] at this
      cases this
  | succ fuel ih =>
    intro listed a w hfree hr hy H
    refine ⟨H.cls, fun h => (by rw [h] at hr; cases hr), fun j hj => ?_⟩
    by_cases hji : j = i
    · subst hji; exact hy.wpOp hi H.cls H
    · have h1 := H.2.2 j (ready_mono hj hji)
      obtain ⟨hjun, oj, hoj, hall⟩ := mem_ready.1 hj
      have hnot : ∀ e ∈ oj.after, Region.binds md e = true → e.on ≠ i := fun e he hb heq => by
        have h1 := hall e he hb
        have h0 := (mem_ready.1 hr).1
        rw [heq] at h1
        rcases Nat.lt_or_ge i listed.size with h' | h'
        · simp [h'] at h0 h1; rw [h0] at h1; cases h1
        · simp [Array.getElem?_eq_none h'] at h1
      have h2 := wpOp_putC hoj (hfree j oj hoj hji hjun hnot) (fun cs b => hsel i oi cs b hi) (fun cs b => hsel j oj cs b hoj) hQ hy h1
      have hfree' : ∀ k ok, ops[k]? = some ok → k ≠ i → (listed.setIfInBounds j true).getD k true = false →
          (∀ e ∈ ok.after, Region.binds md e = true → e.on ≠ i) → oi.apart ops ok = true := fun k ok hk hki hun hno => by
        refine hfree k ok hk hki ?_ hno
        by_cases hjk : j = k
        · subst hjk; exact hjun
        · rw [getD_set_ne true hjk] at hun; exact hun
      refine wpOp_mono (fun a' w' h3 => ih (listed.setIfInBounds j true) a' w' hfree' (ready_mono hr (Ne.symm hji)) h3.1 ?_) h2
      rw [Array.setIfInBounds_comm _ _ hji]
      exact h3.2
/-- A read is taken first. -/
theorem wpAnyC_take {i : Nat} {oi : Oper} {v : Value} {fuel : Nat} {listed : Array Bool} {a : Act} {w : World} (hi : ops[i]? = some oi)
    (hs : Region.noSelect ops = true) (hf : Region.free md ops listed i = true) (hr : (Region.ready md ops listed).contains i = true)
    (hQ : ∀ c a w, Q (.panic c) (a.put oi.dst v) w → Q (.panic c) a w) (hy : YieldsC C P ops oi v a)
    (h : wpAnyC C P md ops Q fuel (listed.setIfInBounds i true) (a.put oi.dst v) w) : wpAnyC C P md ops Q (fuel + 1) listed a w :=
  wpAnyC_first hi (Region.noSelect_spec hs) hQ fuel listed a w (Region.free_spec hi hf) (by simpa using hr) hy h
/-- One operation alone may come up. -/
theorem wpAnyC_one {i : Nat} {oi : Oper} {fuel : Nat} {listed : Array Bool} {a : Act} {w : World} (hi : ops[i]? = some oi) (hr : Region.ready md ops listed = [i]) (hC : C w)
    (hw : Region.wanted oi (yielded ops a.tmps) = true) (h : ∀ K : Act → World → Prop, (∀ a w, wpAnyC C P md ops Q fuel (listed.setIfInBounds i true) a w → K a w) → oi.wp P a w K Q) : wpAnyC C P md ops Q (fuel + 1) listed a w := by
  refine ⟨hC, fun h0 => (by rw [hr] at h0; cases h0), fun j hj => ?_⟩
  rw [hr] at hj
  simp at hj
  subst hj
  unfold wpOp
  simp only [hi, hw, if_true]
  exact .inl (h _ (fun _ _ h => h))
/-- Two operations may come up. -/
theorem wpAnyC_two {i j : Nat} {oi oj : Oper} {fuel : Nat} {listed : Array Bool} {a : Act} {w : World} (hi : ops[i]? = some oi) (hj : ops[j]? = some oj) (hr : Region.ready md ops listed = [i, j]) (hC : C w)
    (hwi : Region.wanted oi (yielded ops a.tmps) = true) (hwj : Region.wanted oj (yielded ops a.tmps) = true)
    (h : ∀ K : Act → World → Prop, (∀ a w, wpAnyC C P md ops Q fuel (listed.setIfInBounds i true) a w → K a w) → oi.wp P a w K Q) (h2 : ∀ K : Act → World → Prop, (∀ a w, wpAnyC C P md ops Q fuel (listed.setIfInBounds j true) a w → K a w) → oj.wp P a w K Q) : wpAnyC C P md ops Q (fuel + 1) listed a w := by
  refine ⟨hC, fun h0 => (by rw [hr] at h0; cases h0), fun k hk => ?_⟩
  rw [hr] at hk
  simp at hk
  rcases hk with rfl | rfl
  · unfold wpOp
    simp only [hi, hwi, if_true]
    exact .inl (h _ (fun _ _ h => h))
  · unfold wpOp
    simp only [hj, hwj, if_true]
    exact .inl (h2 _ (fun _ _ h => h))
theorem wpAnyC_done {listed : Array Bool} {a : Act} {w : World} (hr : Region.ready md ops listed = []) (hC : C w) (h : Q .normal a w) : ∀ fuel, wpAnyC C P md ops Q fuel listed a w
  | 0 => ⟨hC, hr, h⟩
  | _ + 1 => ⟨hC, fun _ => h, by rw [hr]; simp⟩
theorem wp_region_float (C : World → Prop) {id : Nat} {a : Act} {w : World} (hm : P.follows .mixedOrders = true)
    (h : wpAnyC C P .any ops Q ops.size (Array.replicate ops.size false) a w.drew) : (Code.region id ops true).wp P Q a w :=
  wp_region_any hm (wpAnyC.any _ _ _ _ h)
theorem wpIn_region_float (C : World → Prop) {id : Nat} {a : Act} {w : World} {l : List Oper} (hm : P.follows .mixedOrders = true)
    (hnd : (l.all fun o => match o.op with | .defer _ => false | _ => true) = true) (hout : ∀ a w, ¬ Q .outgrown a w)
    (h : wpAnyC C P .any l.toArray Q l.length (Array.replicate l.length false) a w.drew) : (Code.region id l.toArray true).wpIn (Fence.wide.inRound l₀) 0 P Q a w := by
  refine wpIn_region_any hm (wpAnyIn_of_wpAny ?_ hout _ _ _ _ (wpAnyC.any (C := C) _ _ _ _ ?_))
  · intro i o ho c he
    have hmem : o ∈ l := by
      rw [List.getElem?_toArray] at ho
      exact List.mem_of_getElem? ho
    have := List.all_eq_true.1 hnd o hmem
    rw [he] at this
    cases this
  · exact h
theorem calmP {c : Code} {a : Act} {w : World} (h : c.wp P (Exit.then (Q .normal) (fun _ _ _ => False)) a w) : c.wp P Q a w := wpIn_wide.1 (calm (n := 0) (wpIn_wide.2 h))
/-- A call whose contract is known. -/
theorem wp_call_of {o : Oper} {a : Act} {w : World} {f : FuncId} {args : Array Value} {v : Value} {R : World → Prop} {K : Act → World → Prop} (hrun : (execOp a.eval o).run P w = .ok (.enter f args) w) (hc : Calls P f args w fun e w' => e = .returned v ∧ R w')
    (hK : ∀ w', R w' → K (a.put o.dst v) w') : o.wp P a w K Q := by
  unfold Oper.wp
  rw [hrun]
  refine Calls.mono hc ?_
  rintro e w' ⟨rfl, hr⟩
  exact hK w' hr
/-- An operation whose run is known. -/
theorem wp_of_run {o : Oper} {a : Act} {w w' : World} {v : Value} {K : Act → World → Prop} (hrun : (execOp a.eval o).run P w = .ok (.value v) w') (hK : K (a.put o.dst v) w') : o.wp P a w K Q := by
  unfold Oper.wp
  rw [hrun]
  exact hK
theorem wp_append_run {o : Oper} {a : Act} {w w' : World} {K : Act → World → Prop} (s x : Operand) (t : TypeId) (hop : o.op = Op.call { callee := Callee.builtin Builtin.append, args := #[s, x], argTypes := #[t, t] }) {vs vx v : Value} (hs : a.eval s = vs) (hx : a.eval x = vx) (hrun : (Builtin.append_ #[t, t] o.type #[vs, vx]).run P w = .ok v w') (hK : K (a.put o.dst v) w') : o.wp P a w K Q := by
  refine wp_of_run (v := v) (w' := w') ?_ hK
  simp [execOp, hop, resolve, invoke, builtin, hs, hx, hrun, Result.andThen]
theorem wp_mapUpdate_run {o : Oper} {a : Act} {w w' : World} {K : Act → World → Prop} (m x y : Operand) (t : TypeId) (hop : o.op = Op.mapUpdate t m x y) {vm vx vy : Value} (hm : a.eval m = vm) (hx : a.eval x = vx) (hy : a.eval y = vy) (hrun : (Instr.mapUpdate t vm vx vy).run P w = .ok () w') (hK : K (a.put o.dst undef) w') : o.wp P a w K Q := by
  unfold Oper.wp
  simp [execOp, hop, hm, hx, hy, hrun, Result.andThen]
  exact hK
end
end Go.Proofs.Ytbcabjpafeocgaa

/-
  Regions that draw their order, whose operations and calls leave the things in memory as they were. Conditions: no program is named here.
-/
namespace Go.Proofs.Ytbcabjpafeocgaa
set_option linter.unusedVariables false
set_option linter.unusedSimpArgs false
open Go.RowKit Go.Shelf

/-- A world in which these things lie. -/
structure SepW (w0 : World) (L : List Res) where
  w' : World
  h : Sep w0 w' L

section
variable {P : Program} {id : Nat} {Q : Exit → Act → World → Prop} {a : Act} {w w0 : World} {L : List Res} {l : List Oper}

theorem region_sep (S : Sep w0 w L) (hm : P.follows .mixedOrders = true) (hB : Region.lexB .any l.toArray = true)
    (h : Nonempty (SepW w0 L) → wpQuiet P l.toArray (fun w' => ∃ x : SepW w0 L, w' = x.w') (fun a' => ∀ w', (∃ x : SepW w0 L, w' = x.w') → Q .normal a' w') l a) : (Code.region id l.toArray true).wp P Q a w :=
  wp_region_quiet (C := fun w' => ∃ x : SepW w0 L, w' = x.w') hm hB ⟨⟨_, S.drew⟩, rfl⟩ (by simpa using h ⟨⟨_, S⟩⟩)
theorem regionIn_sep (S : Sep w0 w L) (hm : P.follows .mixedOrders = true) (hB : Region.lexB .any l.toArray = true)
    (h : Nonempty (SepW w0 L) → wpQuietIn Fence.wide 0 P l.toArray (fun w' => ∃ x : SepW w0 L, w' = x.w') (fun a' => ∀ w', (∃ x : SepW w0 L, w' = x.w') → Q .normal a' w') l a) : (Code.region id l.toArray true).wpIn Fence.wide 0 P Q a w :=
  wpIn_region_quiet (C := fun w' => ∃ x : SepW w0 L, w' = x.w') rfl hm hB ⟨⟨_, S.drew⟩, rfl⟩ (by simpa using h ⟨⟨_, S⟩⟩)

theorem sep_calls {f : FuncId} {args : Array Value} {x : SepW w0 L} {v : Value} (h : Calls P f args x.w' fun e w' => e = .returned v ∧ Sep w0 w' L) :
    Calls P f args x.w' fun e w'' => e = .returned v ∧ ∃ y : SepW w0 L, w'' = y.w' :=
  h.mono fun _ w'' ⟨he, hc⟩ => ⟨he, ⟨w'', hc⟩, rfl⟩
theorem same_calls {f : FuncId} {args : Array Value} {x : SepW w0 L} {v : Value} (h : Calls P f args x.w' fun e w' => e = .returned v ∧ x.w' = w') :
    Calls P f args x.w' fun e w'' => e = .returned v ∧ ∃ y : SepW w0 L, w'' = y.w' :=
  h.mono fun _ w'' ⟨he, hc⟩ => ⟨he, x, hc.symm⟩
theorem sep_calls_in {f : FuncId} {args : Array Value} {x : SepW w0 L} {v : Value} (h : Calls P f args x.w' fun e w' => e = .returned v ∧ Sep w0 w' L) :
    CallsIn Fence.wide 0 P f args x.w' fun e w'' => e = .returned v ∧ ∃ y : SepW w0 L, w'' = y.w' := calls_in (sep_calls h)
theorem same_calls_in {f : FuncId} {args : Array Value} {x : SepW w0 L} {v : Value} (h : Calls P f args x.w' fun e w' => e = .returned v ∧ x.w' = w') :
    CallsIn Fence.wide 0 P f args x.w' fun e w'' => e = .returned v ∧ ∃ y : SepW w0 L, w'' = y.w' := calls_in (same_calls h)
end
end Go.Proofs.Ytbcabjpafeocgaa
