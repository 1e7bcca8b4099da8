/-
  The objects of layer 4's model: a record, and its fields, each in a block of its own. Conditions: as each theorem says.
-/
import Derived.Test.YtapbphbnffggnaaObjC
import Derived.Test.YtapbphbnffggnaaHole
import Derived.Test.YtapbphbnffggnaaNew
import Derived.Test.YtapbphbnffggnaaRow
import Derived.Test.YtapbphbnffggnaaInfo
namespace Go.Proofs.Ytapbphbnffggnaa
set_option linter.unusedVariables false
set_option linter.unusedSimpArgs false
open Go.RowKit Go.Shelf

/-- A record of the model: its block, its fields' block, its cell, its fields, its number. -/
structure Thing where
  g : Nat
  h : Nat
  r : Nat
  fs : List Int
  x : Int
def fieldCells (fs : List Int) : Array Value := (fs.map (Value.int .i64)).toArray
def thingL (t : Thing) : List Res :=
  [blkR t.g 69 #[.int .i64 (t.r : Int), .slice (some ⟨t.h, 0, none⟩) t.fs.length t.fs.length, .int .i64 t.x], blkR t.h 26 (fieldCells t.fs)]
def thingR (t : Thing) : Res := starR (thingL t)
def thingsR (ts : List Thing) : Res := starR (ts.map thingR)
def encT (t : Thing) : Value := .pointer (some ⟨t.g, 0, none⟩)

theorem mk_refs (m : Nat) (hm : m ≤ 1000000) (w : World) : (Instr.makeSlice 32 (.int .i64 (m : Int)) (.int .i64 (m : Int))).run Try.prog w = .ok (.slice (some ⟨w.heap.size, 0, none⟩) m m) (w.alloc (.cells (fieldCells (List.replicate m 0)) 26)) := by
  obtain ⟨i, hi, hh⟩ := Option.map_eq_some_iff.1 (show (Try.prog.info? 26).map (fun i => (i.zero, i.size, i.bytes)) = some (some (.int .i64 0), 1, 8) by kernel_rfl)
  simp only [Prod.mk.injEq] at hh
  obtain ⟨hz, hs, hb⟩ := hh
  have := run_make (P := Try.prog) w 32 26 i (.int .i64 0) Try.underlying32 hi hz .i64 .i64 m m (by omega) (Int.le_refl _) (by rw [hb]; omega) (by omega)
  rw [this, hs]
  have hc : madeCells #[.int .i64 0] m = fieldCells (List.replicate m 0) := by
    apply Array.ext
    · simp [fieldCells, size_madeCells]
    · intro i h1 h2
      simp [fieldCells, madeCells, Nat.mod_one]
  simp [Value.cells, hc]

section
variable {w0 w : World} {L : List Res} {ts : List Thing} {t : Thing} {k : Nat}
theorem Sep.thingOut (S : Sep w0 w (thingsR ts :: L)) (hk : ts[k]? = some t) : Sep w0 w (thingL t ++ (starR ((ts.map thingR).eraseIdx k) :: L)) :=
  (Sep.outOf (K := ts.map thingR) (r := thingR t) (k := k) S (by rw [List.getElem?_map, hk]; rfl)).openHead
theorem Sep.thingBack (t' : Thing) (S : Sep w0 w (thingL t' ++ (starR ((ts.map thingR).eraseIdx k) :: L))) (hk : k < ts.length) : Sep w0 w (thingsR (ts.set k t') :: L) := by
  have h := Sep.backIn (K := ts.map thingR) (r := thingR t') (k := k) (Sep.shutHead (K := thingL t') S) (by simpa using hk)
  rw [show (ts.map thingR).set k (thingR t') = (ts.set k t').map thingR by rw [List.map_set]] at h
  exact h
theorem Sep.thingNew (t' : Thing) (S : Sep w0 w (thingL t' ++ (thingsR ts :: L))) : Sep w0 w (thingsR (ts ++ [t']) :: L) := by
  have h := Sep.more (K := ts.map thingR) (r := thingR t') (Sep.shutHead (K := thingL t') S)
  rw [show ts.map thingR ++ [thingR t'] = (ts ++ [t']).map thingR by simp] at h
  exact h
end

theorem encT_set {ts : List Thing} {k : Nat} {t t' : Thing} (hk : ts[k]? = some t) (hg : t'.g = t.g) : (ts.set k t').map encT = ts.map encT := by
  apply List.ext_getElem?
  intro j
  rw [List.getElem?_map, List.getElem?_map, List.getElem?_set]
  by_cases e : k = j
  · subst e
    have hlt := (List.getElem?_eq_some_iff.1 hk).1
    rw [if_pos rfl, if_pos hlt, hk]
    simp [encT, hg]
  · rw [if_neg e]
theorem fieldCells_set (fs : List Int) (j : Nat) (v : Int) : (fieldCells fs).setIfInBounds j (.int .i64 v) = fieldCells (fs.set j v) := by
  unfold fieldCells
  rw [List.map_set, List.setIfInBounds_toArray]
/-- A record of the model is written. -/
theorem Sep.thingSet {w0 w w' : World} {L : List Res} {ts : List Thing} {t t' : Thing} {k : Nat} (S : Sep w0 w (thingsR ts :: L)) (hk : ts[k]? = some t) (h : Sep w0 w (thingL t ++ (starR ((ts.map thingR).eraseIdx k) :: L)) → Sep w0 w' (thingL t' ++ (starR ((ts.map thingR).eraseIdx k) :: L))) : Sep w0 w' (thingsR (ts.set k t') :: L) :=
  Sep.thingBack t' (h (S.thingOut hk)) (List.getElem?_eq_some_iff.1 hk).1

/-- The model's records are the arena's objects. -/
structure Like (B : AR) (ts : List Thing) : Prop where
  wf : B.Wf
  obj : ∀ (k : Nat) t, ts[k]? = some t → Obj B t.r t.fs t.x
  dist : ∀ (j k : Nat) t t', ts[j]? = some t → ts[k]? = some t' → t.r = t'.r → j = k
  ptr : ∀ (k : Nat) t, ts[k]? = some t → ∀ v ∈ t.fs, v = 0 ∨ ∃ r : Nat, v = (r : Int) ∧ 0 < r

theorem Like.store {B B' : AR} {ts : List Thing} {k : Nat} {t t' : Thing} (h : Like B ts) (hk : ts[k]? = some t) (hr : t'.r = t.r) (hs : StoreIs B t.r B') (ho : Obj B' t.r t'.fs t'.x) (hp : ∀ v ∈ t'.fs, v = 0 ∨ ∃ r : Nat, v = (r : Int) ∧ 0 < r) : Like B' (ts.set k t') := by
  have hlt := (List.getElem?_eq_some_iff.1 hk).1
  have key : ∀ (j : Nat) u, (ts.set k t')[j]? = some u → (j = k ∧ u = t') ∨ (j ≠ k ∧ ts[j]? = some u) := by
    intro j u hu
    rw [List.getElem?_set] at hu
    by_cases e : k = j
    · subst e
      rw [if_pos rfl, if_pos hlt] at hu
      exact .inl ⟨rfl, (Option.some.inj hu).symm⟩
    · rw [if_neg e] at hu
      exact .inr ⟨fun e' => e e'.symm, hu⟩
  refine ⟨hs.wf, ?_, ?_, ?_⟩
  · intro j u hu
    rcases key j u hu with ⟨rfl, rfl⟩ | ⟨hne, hu⟩
    · rw [hr]; exact ho
    · exact hs.old _ _ _ (fun e => hne (h.dist j k u t hu hk e)) (h.obj j u hu)
  · intro i j u u' hu hu' he
    rcases key i u hu with ⟨rfl, rfl⟩ | ⟨hne, hv⟩ <;> rcases key j u' hu' with ⟨rfl, rfl⟩ | ⟨hne', hv'⟩
    · rfl
    · exact h.dist i j t u' hk hv' (by rw [← hr]; exact he)
    · exact h.dist i j u t hv hk (by rw [← hr]; exact he)
    · exact h.dist i j u u' hv hv' he
  · intro j u hu
    rcases key j u hu with ⟨rfl, rfl⟩ | ⟨hne, hu⟩
    · exact hp
    · exact h.ptr j u hu
theorem Like.born {B B' : AR} {ts : List Thing} {n : Nat} (h : Like B ts) {t' : Thing} (hN : NewIs B n t'.r B') (hf : t'.fs = List.replicate n 0) (hx : t'.x = 0) : Like B' (ts ++ [t']) := by
  have key : ∀ (j : Nat) u, (ts ++ [t'])[j]? = some u → (j = ts.length ∧ u = t') ∨ (j < ts.length ∧ ts[j]? = some u) := by
    intro j u hu
    rw [List.getElem?_append] at hu
    by_cases e : j < ts.length
    · rw [if_pos e] at hu; exact .inr ⟨e, hu⟩
    · rw [if_neg e] at hu
      have h1 := (List.getElem?_eq_some_iff.1 hu).1
      simp at h1
      have h2 : j - ts.length = 0 := by omega
      rw [h2] at hu
      simp at hu
      exact .inl ⟨by omega, hu.symm⟩
  refine ⟨hN.wf, ?_, ?_, ?_⟩
  · intro j u hu
    rcases key j u hu with ⟨rfl, rfl⟩ | ⟨_, hu⟩
    · rw [hf, hx]; exact hN.obj
    · exact (hN.old _ _ _ (h.obj j u hu)).1
  · intro i j u u' hu hu' he
    rcases key i u hu with ⟨rfl, rfl⟩ | ⟨h1, hv⟩ <;> rcases key j u' hu' with ⟨rfl, rfl⟩ | ⟨h2, hv'⟩
    · rfl
    · exact absurd he.symm (hN.old _ _ _ (h.obj j u' hv')).2
    · exact absurd he (hN.old _ _ _ (h.obj i u hv)).2
    · exact h.dist i j u u' hv hv' he
  · intro j u hu
    rcases key j u hu with ⟨rfl, rfl⟩ | ⟨_, hu⟩
    · rw [hf]
      intro v hv
      exact .inl (List.mem_replicate.1 hv).2
    · exact h.ptr j u hu
theorem like_none (B : AR) (h : B.Wf) : Like B [] := ⟨h, by simp, by simp, by simp⟩
end Go.Proofs.Ytapbphbnffggnaa
