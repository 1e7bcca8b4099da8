/-
  Arguments that are slices of integers, or of structs or arrays of integers, opened to the cells that a walk reads. Conditions: no program is named here.
-/
import Derived.Test.YtapbphbnffggnaaKit
import Derived.OpenShut
import Derived.Deep.Slices
import Derived.Deep.Fields
namespace Go.Proofs.Ytapbphbnffggnaa
set_option linter.unusedVariables false
set_option linter.unusedSimpArgs false
open Go.RowKit Go.ChangeShapes Go.WideShapes Go.Deep

/-- A type whose values are cells of these integer kinds. -/
def IntCells (P : Program) (e : TypeId) (qs : List IntKind) : Prop :=
  P.cellsOf e = qs.length ∧ ∀ (H : Type) (enc : TypeId × Value → H) (w : World) (base : Nat) (spare : Nat → Bool) (held : Bool) (fuel : Nat) (cs : List Value) (x : DataW H × List MemPlace),
    DataW.trod enc P w base spare held fuel e cs = some x → cs.length = qs.length → ∀ (j : Nat) (q : IntKind), qs[j]? = some q → ∃ n : Int, cs[j]? = some (Value.int q n) ∧ (Lit.int q n).wf = true

theorem intCells_int {P : Program} {e : TypeId} {q : IntKind} (h : P.underlying e = some (.int q)) (hc : P.cellsOf e = 1) : IntCells P e [q] := by
  refine ⟨hc, fun H enc w base spare held fuel cs x ht _ j q' hq => ?_⟩
  obtain ⟨n, rfl, _, hw⟩ := DataW.trod_int h ht
  match j, hq with
  | 0, hq => simp at hq; subst hq; exact ⟨n, rfl, hw⟩

theorem intCells_struct {P : Program} {e : TypeId} {fs : Array Field} {qs : List IntKind} (h : P.underlying e = some (.struct fs)) (hc : P.cellsOf e = qs.length) (hone : oneCellFields P fs = true) (hl : fs.size = qs.length)
    (hq : ∀ (j : Nat) (f : Field) (q : IntKind), fs[j]? = some f → qs[j]? = some q → P.underlying f.type = some (.int q)) : IntCells P e qs := by
  refine ⟨hc, fun H enc w base spare held fuel cs x ht hlc j q hj => ?_⟩
  obtain ⟨ys, n', hn', hy, hlen, hyl, hf⟩ := DataW.trod_struct h ht
  have hjl : j < qs.length := (List.getElem?_eq_some_iff.1 hj).1
  have hfj : fs[j]? = some (fs[j]'(by omega)) := Array.getElem?_eq_getElem (by omega)
  obtain ⟨ho, hk⟩ := hone_of hone j _ hfj
  have h1 := hf j _ hfj
  rw [ho, hk] at h1
  have hone' : (cs.drop j).take 1 = [cs[j]'(by omega)] := by
    rw [List.drop_eq_getElem_cons (by omega)]
    rfl
  rw [hone'] at h1
  have hys : ys[j]? = some (ys[j]'(by omega)) := List.getElem?_eq_getElem (by omega)
  rw [hys] at h1
  obtain ⟨n, hv, _, hw⟩ := DataW.trod_int (hq j _ q hfj hj) h1
  simp only [List.cons.injEq, and_true] at hv
  exact ⟨n, by rw [List.getElem?_eq_getElem (by omega), hv], hw⟩

theorem intCells_array {P : Program} {e e' : TypeId} {n : Nat} {q : IntKind} (h : P.underlying e = some (.array n e')) (hc : P.cellsOf e = n) (hc' : P.cellsOf e' = 1) (h' : P.underlying e' = some (.int q)) : IntCells P e (List.replicate n q) := by
  refine ⟨by simpa using hc, fun H enc w base spare held fuel cs x ht hlc j q' hj => ?_⟩
  obtain ⟨ys, m, hm, hy, hlen, hyl, hf⟩ := DataW.trod_array h ht
  simp only [List.length_replicate] at hlc
  have hjl : j < n := by have := (List.getElem?_eq_some_iff.1 hj).1; simpa using this
  have hqq : q' = q := by rw [List.getElem?_replicate, if_pos hjl] at hj; exact (Option.some.inj hj).symm
  subst hqq
  have h1 := hf j hjl
  rw [hc', Nat.mul_one] at h1
  have hone' : (cs.drop j).take 1 = [cs[j]'(by omega)] := by
    rw [List.drop_eq_getElem_cons (by omega)]
    rfl
  rw [hone'] at h1
  have hys : ys[j]? = some (ys[j]'(by omega)) := List.getElem?_eq_getElem (by omega)
  rw [hys] at h1
  obtain ⟨k, hv, _, hw⟩ := DataW.trod_int h' h1
  simp only [List.cons.injEq, and_true] at hv
  exact ⟨k, by rw [List.getElem?_eq_getElem (by omega), hv], hw⟩

/-- The slice value '.slice A n c' reads as n elements; cell j of element i is the integer D i j, of kind qs[j]. -/
def ArgI (w : World) (A : Option Addr) (n : Nat) (qs : List IntKind) (D : Nat → Nat → Int) : Prop :=
  ∀ i, i < n → ∃ b o, A = some ⟨b, o, none⟩ ∧ b < w.heap.size ∧ ∀ (j : Nat) (q : IntKind), qs[j]? = some q → w.cell? ⟨b, o + i * qs.length + j, none⟩ = some (.int q (D i j)) ∧ (Lit.int q (D i j)).wf = true

theorem cell_lt {w : World} {a : Addr} {v : Value} (h : w.cell? a = some v) : a.block < w.heap.size ∧ a.spot = none := by
  unfold World.cell? at h
  split at h
  · rename_i hb
    constructor
    · rcases Nat.lt_or_ge a.block w.heap.size with hlt | hge
      · exact hlt
      · rw [Array.getElem?_eq_none hge] at hb; cases hb
    · split at h
      · cases h
      · rename_i hs; simpa using hs
  · cases h

theorem open_flat {H : Type} {enc : TypeId × Value → H} {P : Program} {w : World} {base : Nat} {spare : Nat → Bool} {held : Bool} {t e : TypeId} {qs : List IntKind} {fuel : Nat} {A : Option Addr} {n c : Nat} {x : DataW H × List MemPlace}
    (ht : P.underlying t = some (.slice e)) (he : IntCells P e qs) (hpos : 0 < qs.length) (h : DataW.trod enc P w base spare held fuel t [.slice A n c] = some x) :
    n ≤ maxLen ∧ ∃ D, ArgI w A n qs D := by
  rcases open_slice ht h with ⟨h0, _⟩ | ⟨a, len, cap, m, k, D, Pl, hcs, hb, hl, hm, hmm, hx, hi⟩
  · simp only [List.cons.injEq, and_true] at h0
    cases h0
    exact ⟨by unfold maxLen; omega, fun _ _ => 0, fun i hi => absurd hi (by omega)⟩
  · simp only [List.cons.injEq, and_true] at hcs
    cases hcs
    refine ⟨by omega, fun i j => match w.cell? (a.add (i * qs.length + j)) with | some (.int _ z) => z | _ => 0, fun i hin => ?_⟩
    have key : ∀ i, i < n → ∀ j q, qs[j]? = some q → ∃ z, w.cell? (a.add (i * qs.length + j)) = some (.int q z) ∧ (Lit.int q z).wf = true := by
      intro i hin j q hj
      obtain ⟨cs', hc, ht'⟩ := hi i (by rw [hmm]; split <;> omega)
      rw [he.1] at hc
      obtain ⟨_, hcl, hat⟩ := World.cells?_some hc
      obtain ⟨z, hz, hw⟩ := he.2 H enc w base spare held k cs' _ ht' hcl j q hj
      have hjl : j < qs.length := (List.getElem?_eq_some_iff.1 hj).1
      have hcell := hat j hjl
      rw [Go.Deep.add_add] at hcell
      exact ⟨z, by rw [hcell, hz], hw⟩
    have h00 : qs[0]? = some (qs[0]'hpos) := List.getElem?_eq_getElem hpos
    obtain ⟨z0, hz0, _⟩ := key i hin 0 _ h00
    have hs : a.spot = none := by
      by_cases hi0 : i * qs.length + 0 = 0
      · rw [hi0] at hz0
        simpa [Addr.add] using (cell_lt hz0).2
      · obtain ⟨z1, hz1, _⟩ := key 0 (by omega) 0 _ h00
        have := (cell_lt hz1).2
        simpa [Addr.add] using this
    have hbl : a.block < w.heap.size := by
      have := (cell_lt hz0).1
      unfold Addr.add at this
      split at this <;> exact this
    obtain ⟨ab, ao, asp⟩ := a
    simp only at hs hbl
    subst hs
    refine ⟨ab, ao, rfl, hbl, fun j q hj => ?_⟩
    obtain ⟨z, hz, hw⟩ := key i hin j q hj
    have hadd : (⟨ab, ao, none⟩ : Addr).add (i * qs.length + j) = ⟨ab, ao + (i * qs.length + j), none⟩ := by
      unfold Addr.add
      split
      · rename_i h0; rw [h0]; simp
      · rfl
    simp only [hz]
    rw [hadd, ← Nat.add_assoc] at hz
    exact ⟨hz, hw⟩

theorem ArgI.at_ {w0 w : World} {F : List Nat} {A : Option Addr} {n i : Nat} {qs : List IntKind} {D : Nat → Nat → Int} (h : ArgI w0 A n qs D) (hO : Own w0 F w) (hi : i < n) :
    ∃ b o, A = some ⟨b, o, none⟩ ∧ ∀ (j : Nat) (q : IntKind), qs[j]? = some q → w.cell? ⟨b, o + i * qs.length + j, none⟩ = some (.int q (D i j)) := by
  obtain ⟨b, o, e, hb, hc⟩ := h i hi
  exact ⟨b, o, e, fun j q hj => hO.cell hb (hc j q hj).1⟩

theorem ArgI.wf {w : World} {A : Option Addr} {n i : Nat} {qs : List IntKind} {D : Nat → Nat → Int} (h : ArgI w A n qs D) (hi : i < n) (j : Nat) (q : IntKind) (hq : qs[j]? = some q) : (Lit.int q (D i j)).wf = true := by
  obtain ⟨_, _, _, _, hc⟩ := h i hi
  exact (hc j q hq).2

/-- One-cell elements: the elder form. -/
theorem ArgI.arg {w : World} {A : Option Addr} {n : Nat} {q : IntKind} {D : Nat → Nat → Int} (h : ArgI w A n [q] D) : Arg w A n (((List.range n).map fun i => D i 0).map (.int q)) := by
  refine ⟨by simp, fun k hk => ?_⟩
  obtain ⟨b, o, e, hb, hc⟩ := h k hk
  refine ⟨b, o, e, hb, ?_⟩
  have := (hc 0 q rfl).1
  simp at this
  rw [this]
  simp [hk]

end Go.Proofs.Ytapbphbnffggnaa
