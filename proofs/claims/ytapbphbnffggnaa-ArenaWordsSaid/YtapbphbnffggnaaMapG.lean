/-
  Maps that a function's own text makes, of any key that reads as a literal and of any one-word element, where memory is a list of things. Conditions: no program is named here.
-/
import Derived.Test.YtapbphbnffggnaaRange
import Derived.Maps.OwnSet
import Derived.Maps.OwnOps
import Derived.Maps.OwnIn
namespace Go.Proofs.Ytapbphbnffggnaa
set_option linter.unusedVariables false
set_option linter.unusedSimpArgs false
open Go.RowKit Go.Shelf Go.Maps

/-- An element as it stands. -/
def asIs (v : Value) : Option (DataW Value × List MemPlace) := some (.held v, [])

open Classical in
noncomputable def updG (M : Lit → Option Value) (x : Lit) (c : Value) : Lit → Option Value := fun y => if y = x then some c else M y
theorem updG_same (M : Lit → Option Value) (x : Lit) (c : Value) : updG M x c x = some c := by simp [updG]
theorem updG_other (M : Lit → Option Value) {x y : Lit} (c : Value) (h : y ≠ x) : updG M x c y = M y := by simp [updG, h]

/-- The datum D reads as M. -/
structure ReadsG (D : DataW Value) (M : Lit → Option Value) : Prop where
  tidy : Tidy D
  none_ : ∀ x, WideAt.IsKeyLit x → M x = none → has D x = false
  some_ : ∀ x c, WideAt.IsKeyLit x → M x = some c → has D x = true ∧ ∀ z, D.atKey x z = .held c

theorem ReadsG.has_eq {D : DataW Value} {M : Lit → Option Value} (h : ReadsG D M) {x : Lit} (hx : WideAt.IsKeyLit x) : has D x = (M x).isSome := by
  cases e : M x with
  | none => rw [h.none_ x hx e]; rfl
  | some c => rw [(h.some_ x c hx e).1]; rfl
theorem ReadsG.at_eq {D : DataW Value} {M : Lit → Option Value} (h : ReadsG D M) {x : Lit} (hx : WideAt.IsKeyLit x) (z : Value) : D.atKey x (.held z) = .held ((M x).getD z) := by
  cases e : M x with
  | none => rw [atKey_of_not_has (h.none_ x hx e)]; rfl
  | some c => rw [(h.some_ x c hx e).2]; rfl
theorem ReadsG.put {D : DataW Value} {M : Lit → Option Value} (h : ReadsG D M) {x : Lit} (hx : WideAt.IsKeyLit x) (c : Value) : ReadsG (D.put x (.held c)) (updG M x c) := by
  refine ⟨h.tidy.put hx _, ?_, ?_⟩
  · intro y hy e
    by_cases hyx : y = x
    · subst hyx; rw [updG_same] at e; cases e
    · rw [updG_other _ _ hyx] at e
      rw [has_put_other hyx]
      exact h.none_ y hy e
  · intro y d hy e
    by_cases hyx : y = x
    · subst hyx
      rw [updG_same] at e
      cases e
      exact ⟨has_put_same h.tidy.isMap hx _, fun z => atKey_put_same h.tidy.isMap hx _ z⟩
    · rw [updG_other _ _ hyx] at e
      obtain ⟨h1, h2⟩ := h.some_ y d hy e
      exact ⟨by rw [has_put_other hyx]; exact h1, fun z => by rw [atKey_put_other hyx]; exact h2 z⟩
theorem readsG_empty : ReadsG (.map []) (fun _ => none) := ⟨tidy_empty, fun _ _ _ => rfl, fun _ _ _ e => by cases e⟩

theorem ownsMapG_heap {P : Program} {k : TypeId} {R : Value → Option (DataW Value × List MemPlace)} {w w' : World} {b n : Nat} {D : DataW Value} (h : w.ownsMap P k R b n D) (e : w'.heap[b]? = w.heap[b]?) : w'.ownsMap P k R b n D := by
  obtain ⟨es, clock, hb, rest⟩ := h
  exact ⟨es, clock, e.trans hb, rest⟩
theorem ownsMapG_tight {P : Program} {k : TypeId} {R : Value → Option (DataW Value × List MemPlace)} {w : World} {b n : Nat} {D : DataW Value} (h : w.ownsMap P k R b n D) : w.ownsMap P k R b (size D) D := by
  obtain ⟨es, clock, hb, F, _, rfl⟩ := h
  exact ⟨es, clock, hb, F, by simp [Maps.size, length_sorted], rfl⟩

/-- The map at block b has cnt entries, and reads as M. -/
def gmapR (P : Program) (k : TypeId) (b : Nat) (cnt : Nat) (M : Lit → Option Value) : Res :=
  ⟨fun w F => F = [b] ∧ ∃ D : DataW Value, w.ownsMap P k asIs b cnt D ∧ size D = cnt ∧ ReadsG D M,
   fun {w w' F G} h hc hF => by
    obtain ⟨rfl, D, h1, h2⟩ := h
    exact ⟨rfl, D, ownsMapG_heap h1 (hc.block b h1.lt (hF b (by simp))), h2⟩,
   fun {w F} h x hx => by
    obtain ⟨rfl, D, h1, _⟩ := h
    simp at hx; subst hx; exact h1.lt⟩

section
variable {P : Program} {t k e : TypeId} {w0 w : World} {L : List Res} {i b cnt : Nat} {M : Lit → Option Value}

theorem gmap_get (K : Keyed P k) (ht : P.underlying t = some (.map k e)) {z : Value} (hz : (zeroValue e).run P w = .ok z w) (S : Sep w0 w L) (i : Nat) (hi : L[i]? = some (gmapR P k b cnt M)) {x : Value} {l : Lit} (hx : keyOf P k x = some l) :
    (Instr.lookup t (.map (some b)) x false).run P w = .ok ((M l).getD z) w := by
  obtain ⟨F, ⟨rfl, D, h1, h2, h3⟩, _⟩ := S.at_ hi
  obtain ⟨v, ps, hrun, hv⟩ := h1.lookup K ht hz (zd := .held z) (zp := []) rfl hx
  rw [h3.at_eq (K.key hx)] at hv
  unfold asIs at hv
  simp only [Option.some.injEq, Prod.mk.injEq, DataW.held.injEq] at hv
  rw [hrun, hv.1]
theorem gmap_len (ht : P.underlying t = some (.map k e)) (S : Sep w0 w L) (i : Nat) (hi : L[i]? = some (gmapR P k b cnt M)) (ty : TypeId) :
    (Builtin.len_ #[t] ty #[.map (some b)]).run P w = .ok (.int .i64 (cnt : Int)) w := by
  obtain ⟨F, ⟨rfl, D, h1, h2, h3⟩, _⟩ := S.at_ hi
  rw [h1.len ht ty, h2]
theorem gmap_put (K : Keyed P k) (ht : P.underlying t = some (.map k e)) (S : Sep w0 w L) (i : Nat) (hi : L[i]? = some (gmapR P k b cnt M)) (hn : cnt < maxLen) {x : Value} {l : Lit} (hx : keyOf P k x = some l) (c : Value) :
    ∃ w', (Instr.mapUpdate t (.map (some b)) x c).run P w = .ok () w' ∧ Sep w0 w' (L.set i (gmapR P k b (if (M l).isSome then cnt else cnt + 1) (updG M l c))) := by
  obtain ⟨F, ⟨rfl, D, h1, h2, h3⟩, hk⟩ := S.at_ hi
  obtain ⟨w', hrun, r1, r2⟩ := h1.update K ht hn (d := .held c) (ps := []) hx rfl
  refine ⟨w', hrun, hk _ w' [b] ⟨rfl, _, ?_, ?_, h3.put (K.key hx) c⟩ (GrewF.self _ _) (Chg.grown (Chg.refl _ _) r2 (by rintro j hj; cases hj; simp))⟩
  · have := ownsMapG_tight r1
    rw [size_put h3.tidy, h3.has_eq (K.key hx), h2] at this
    exact this
  · rw [size_put h3.tidy, h3.has_eq (K.key hx), h2]
theorem Sep.newMapG (S : Sep w0 w L) (P : Program) (k : TypeId) : Sep w0 (w.alloc (.map #[] 0)) (gmapR P k w.heap.size 0 (fun _ => none) :: L) :=
  S.new (r := gmapR P k w.heap.size 0 (fun _ => none)) (F := [w.heap.size]) ⟨rfl, _, World.ownsMap_made w P k asIs, rfl, readsG_empty⟩ (by simp) ((Chg.refl _ _).alloc _)
end
end Go.Proofs.Ytapbphbnffggnaa
