/-
  Objects as plain data (layer 4). Conditions: as each theorem says; no walk.
-/
import Derived.Test.YtapbphbnffggnaaArObj
import Derived.Test.YtapbphbnffggnaaCell
import Derived.Test.YtapbphbnffggnaaSizeClass
import Derived.Test.YtapbphbnffggnaaPoints
namespace Go.Proofs.Ytapbphbnffggnaa
set_option linter.unusedVariables false
set_option linter.unusedSimpArgs false
open Go.RowKit

variable {A : AR}

/-- In the cell r stands an object of these fields and this number. -/
structure Obj (A : AR) (r : Nat) (fs : List Int) (x : Int) : Prop where
  tk : A.tk r = true
  six : fs.length ≤ 6
  room : 2 + fs.length ≤ A.room r
  count : A.wordZ (r : Int) 0 = (fs.length : Int)
  scalar : A.wordZ (r : Int) 1 = x
  field : ∀ (i : Nat) v, fs[i]? = some v → A.wordZ (r : Int) (2 + (i : Int)) = v

theorem Obj.pos {r : Nat} {fs : List Int} {x : Int} (o : Obj A r fs x) (h : A.Wf) : 1 ≤ r ∧ ¬ (r : Int) = 0 ∧ r < 3000 := by
  have h1 := h.lt o.tk
  have := h.few
  omega
theorem Obj.check {r : Nat} {fs : List Int} {x : Int} (o : Obj A r fs x) (h : A.Wf) (i : Int) : A.checkZ (r : Int) i = if 0 ≤ i ∧ i < (fs.length : Int) then 0 else 6 := by
  unfold AR.checkZ
  rw [if_neg (o.pos h).2.1, o.count]
  by_cases e : 0 ≤ i ∧ i < (fs.length : Int)
  · rw [if_pos e, if_neg (by omega)]
  · rw [if_neg e, if_pos (by omega)]
/-- A store into another cell. -/
theorem Obj.other {r r' : Nat} {fs : List Int} {x : Int} (o : Obj A r' fs x) (h : A.Wf) (hr : A.tk r = true) (hne : r' ≠ r) {j : Nat} (hj : j < A.room r) (v : Int) : Obj (A.setW (r : Int) (j : Int) v) r' fs x := by
  have hw := fun (j' : Nat) => h.wordZ_setW hr hj v o.tk j'
  refine ⟨by rw [(setW_tk A _ _ _).1]; exact o.tk, o.six, by rw [setW_room]; exact o.room, ?_, ?_, ?_⟩
  · have := hw 0
    rw [if_neg (by omega)] at this
    exact this.trans o.count
  · have := hw 1
    rw [if_neg (by omega)] at this
    exact this.trans o.scalar
  · intro i u hu
    have := hw (2 + i)
    rw [if_neg (by omega)] at this
    push_cast at this
    exact this.trans (o.field i u hu)
theorem Obj.setScalar {r : Nat} {fs : List Int} {x : Int} (o : Obj A r fs x) (h : A.Wf) (v : Int) : Obj (A.setW (r : Int) 1 v) r fs v := by
  have hrm := o.room
  have hw := fun (j' : Nat) => h.wordZ_setW o.tk (j := 1) (by omega) v o.tk j'
  refine ⟨by rw [(setW_tk A _ _ _).1]; exact o.tk, o.six, by rw [setW_room]; exact o.room, ?_, ?_, ?_⟩
  · have := hw 0
    rw [if_neg (by omega)] at this
    exact this.trans o.count
  · have := hw 1
    rw [if_pos (by omega)] at this
    exact this
  · intro i u hu
    have := hw (2 + i)
    rw [if_neg (by omega)] at this
    push_cast at this
    exact this.trans (o.field i u hu)
theorem Obj.setField {r : Nat} {fs : List Int} {x : Int} (o : Obj A r fs x) (h : A.Wf) {i : Nat} (hi : i < fs.length) (v : Int) : Obj (A.setW (r : Int) (2 + (i : Int)) v) r (fs.set i v) x := by
  have hrm := o.room
  have hw := fun (j' : Nat) => h.wordZ_setW o.tk (j := 2 + i) (by omega) v o.tk j'
  push_cast at hw
  refine ⟨by rw [(setW_tk A _ _ _).1]; exact o.tk, by simpa using o.six, by rw [setW_room]; simpa using o.room, ?_, ?_, ?_⟩
  · have := hw 0
    rw [if_neg (by omega)] at this
    simpa using this.trans o.count
  · have := hw 1
    rw [if_neg (by omega)] at this
    exact this.trans o.scalar
  · intro k u hu
    have := hw (2 + k)
    push_cast at this
    rw [List.getElem?_set] at hu
    by_cases e : i = k
    · subst e
      rw [if_pos rfl, if_pos hi] at hu
      rw [if_pos (by omega)] at this
      rw [this]
      simpa using hu
    · rw [if_neg e] at hu
      rw [if_neg (by omega)] at this
      exact this.trans (o.field k u hu)
/-- A take leaves the objects. -/
theorem Obj.taken {c : Int} {r p k : Nat} {A' : AR} (ht : TakeIs A c r A' p k) {r' : Nat} {fs : List Int} {x : Int} (o : Obj A r' fs x) (h : A.Wf) : Obj A' r' fs x ∧ r' ≠ r := by
  obtain ⟨h1, h2⟩ := ht.tk_old o.tk
  refine ⟨⟨h1, o.six, by rw [ht.room_old h o.tk]; exact o.room, ?_, ?_, ?_⟩, h2⟩
  · exact (ht.word_old h o.tk 0).trans o.count
  · exact (ht.word_old h o.tk 1).trans o.scalar
  · intro i u hu
    have := ht.word_old h o.tk (2 + i)
    push_cast at this
    exact this.trans (o.field i u hu)
/-- A new object. -/
theorem Obj.new {r p k n : Nat} {A' : AR} (hn : n ≤ 6) (ht : TakeIs A (classZ (n : Int)) r A' p k) : Obj (A'.setW (r : Int) 0 (n : Int)) r (List.replicate n 0) 0 := by
  have hroom := (class_room (n : Int) (by omega) (by omega)).1
  rw [words_wN] at hroom
  have hrm := ht.room_new
  have hw := fun (j' : Nat) => ht.wf.wordZ_setW ht.tk_new (j := 0) (by omega) (n : Int) ht.tk_new j'
  refine ⟨by rw [(setW_tk A' _ _ _).1]; exact ht.tk_new, by simpa using hn, by rw [setW_room, hrm]; simp; omega, ?_, ?_, ?_⟩
  · have := hw 0
    rw [if_pos (by omega)] at this
    simpa using this
  · have := hw 1
    rw [if_neg (by omega)] at this
    exact this.trans (ht.word_new 1)
  · intro i u hu
    have := hw (2 + i)
    rw [if_neg (by omega)] at this
    have h2 := this.trans (ht.word_new (2 + i))
    push_cast at h2
    rw [h2]
    rw [List.getElem?_replicate] at hu
    split at hu
    · simpa using hu
    · cases hu
/-- Where it points. -/
theorem Obj.points {r : Nat} {fs : List Int} {x : Int} (o : Obj A r fs x) : A.pointsUpto (r : Int) fs.length = fs.filter fun v => !(v == 0) := by
  unfold AR.pointsUpto
  congr 1
  apply List.ext_getElem?
  intro i
  rw [List.getElem?_map]
  by_cases e : i < fs.length
  · rw [List.getElem?_range e, List.getElem?_eq_getElem e]
    simp only [Option.map_some, Option.some.injEq]
    exact o.field i _ (List.getElem?_eq_getElem e)
  · rw [List.getElem?_eq_none (by simpa using e), List.getElem?_eq_none (by omega)]
    rfl
end Go.Proofs.Ytapbphbnffggnaa
