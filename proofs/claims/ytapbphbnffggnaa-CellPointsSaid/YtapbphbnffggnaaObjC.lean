/-
  Objects in an arena: contracts of layer 4 in words of objects. Conditions: the arena is as it always is.
-/
import Derived.Test.YtapbphbnffggnaaObj
import Derived.Test.YtapbphbnffggnaaCellNew
import Derived.Test.YtapbphbnffggnaaPoints
namespace Go.Proofs.Ytapbphbnffggnaa
set_option linter.unusedVariables false
set_option linter.unusedSimpArgs false
open Go.RowKit Go.Shelf

section
variable {A : AR}
/-- Fewer cells are taken than there are pages: there is room. -/
theorem AR.Wf.has_room (h : A.Wf) {c : Int} (h0 : 0 ≤ c) (h2 : c ≤ 2) (ht : A.total < (A.n : Int)) : ∃ r A', A.take c = some (r, A') := by
  cases e : A.take c with
  | some x => exact ⟨x.1, x.2, rfl⟩
  | none =>
    rcases h.take_none e with e1 | ⟨e1, _⟩
    · have := cN_of c h0 h2; omega
    · have key : ∀ m, m ≤ A.n → (m : Int) ≤ sumN A.cnt m := by
        intro m
        induction m with
        | zero => intro _; simp [sumN]
        | succ m ih =>
          intro hm
          have h1 := ih (by omega)
          have h2 := h.some_ m (by omega) (e1 m (by omega))
          unfold sumN
          push_cast
          omega
      have := key A.n (Nat.le_refl _)
      unfold AR.total at ht
      omega

theorem setW_total (A : AR) (r j x : Int) : (A.setW r j x).total = A.total := by
  unfold AR.total
  rw [(setW_tk A r j x).2.1, (setW_tk A r j x).2.2.2.2.2]

theorem new_total (m : Nat) (ids : Nat × Nat × Nat) (hm : m ≤ 64) : (AR.new m ids).total = 0 ∧ (AR.new m ids).n = m ∧ ∀ r, (AR.new m ids).tk r = false := by
  have h : ∀ r, (AR.new m ids).tk r = false := fun _ => rfl
  exact ⟨((AR.new_wf m ids hm).empty h).2.1, rfl, h⟩

/-- An object of n fields is new in A', at r. -/
structure NewIs (A : AR) (m : Nat) (r : Nat) (A' : AR) : Prop where
  wf : A'.Wf
  n : A'.n = A.n
  ids : A'.ids = A.ids
  total : A'.total = A.total + 1
  free : A.tk r = false
  tk : A'.tk = fun j => A.tk j || decide (j = r)
  page : (r - 1) / 32 < A.n
  cls : A'.cls = updN A.cls ((r - 1) / 32) (classZ (m : Int))
  was : A.cls ((r - 1) / 32) = classZ (m : Int) ∨ A.cls ((r - 1) / 32) = -1
  obj : Obj A' r (List.replicate m 0) 0
  old : ∀ r' fs x, Obj A r' fs x → Obj A' r' fs x ∧ r' ≠ r
  first : (∀ q, A.tk q = false) → r = 1

theorem NewIs.of_take {n r p k : Nat} {A' : AR} (hw : A.Wf) (hn : n ≤ 6) (ht : TakeIs A (classZ (n : Int)) r A' p k) : NewIs A n r (A'.setW (r : Int) 0 (n : Int)) := by
  have hd := ht.div
  have hrm := ht.room_new
  have hroom := (class_room (n : Int) (by omega) (by omega)).1
  rw [words_wN] at hroom
  refine ⟨ht.wf.setW_wf _ _ _, by rw [(setW_tk A' _ _ _).2.1, ht.n], by rw [(setW_tk A' _ _ _).2.2.2.1, ht.ids], by rw [setW_total, ht.total], ht.free, by rw [(setW_tk A' _ _ _).1, ht.tk], by rw [hd]; exact ht.page, by rw [(setW_tk A' _ _ _).2.2.1, ht.cls, hd], by rw [hd]; exact ht.was, Obj.new hn ht, ?_, ?_⟩
  · intro r' fs x o
    obtain ⟨h1, h2⟩ := o.taken ht hw
    exact ⟨h1.other ht.wf ht.tk_new h2 (j := 0) (by omega) (n : Int), h2⟩
  · intro he
    have hc := (hw.empty he).1
    obtain ⟨hk, hq, _⟩ := ht.fresh (hc p ht.page)
    have hp : p = 0 := by
      rcases Nat.eq_zero_or_pos p with e | e
      · exact e
      · have h1 := hq 0 e
        have h2 := hc 0 (by have := ht.page; omega)
        omega
    rw [ht.ref, hk, hp]
    simp [refN]

/-- Words of the object r are written. -/
structure StoreIs (A : AR) (r : Nat) (A' : AR) : Prop where
  wf : A'.Wf
  n : A'.n = A.n
  ids : A'.ids = A.ids
  total : A'.total = A.total
  tk : A'.tk = A.tk
  cls : A'.cls = A.cls
  old : ∀ r' fs x, r' ≠ r → Obj A r' fs x → Obj A' r' fs x

theorem StoreIs.of_set {r : Nat} {fs : List Int} {x : Int} (hw : A.Wf) (o : Obj A r fs x) {j : Nat} (hj : j < A.room r) (v : Int) : StoreIs A r (A.setW (r : Int) (j : Int) v) :=
  ⟨hw.setW_wf _ _ _, (setW_tk A _ _ _).2.1, (setW_tk A _ _ _).2.2.2.1, setW_total A _ _ _, (setW_tk A _ _ _).1, (setW_tk A _ _ _).2.2.1, fun _ _ _ hne o' => o'.other hw o.tk hne hj v⟩
end

section
variable {w0 w : World} {L : List Res} {i a : Nat} {A : AR}

theorem ONew (S : Sep w0 w L) (i : Nat) (hi : L[i]? = some (arenaR a A)) (hw : A.Wf) (n : Nat) (hn : n ≤ 6) (ht : A.total < (A.n : Int)) :
    Calls Try.prog 46 #[.pointer (some ⟨a, 0, none⟩), .int .i64 (n : Int)] w fun e w' => ∃ (r : Nat) (A' : AR), e = .returned (.tuple #[.int .i64 (r : Int), .int .i64 0]) ∧ Sep w0 w' (L.set i (arenaR a A')) ∧ NewIs A n r A' := by
  obtain ⟨_, h0, h2, _⟩ := class_room (n : Int) (by omega) (by omega)
  obtain ⟨r, A', hta⟩ := hw.has_room h0 h2 ht
  obtain ⟨p, k, hti⟩ := hw.take_spec hta
  have hr : r < 100000 := by
    have h1 := (hti.wf.lt hti.tk_new).2.1
    have := hti.wf.few
    omega
  refine (CNewSome S i hi hw (n : Int) (by omega) (by omega) hta hr).mono ?_
  rintro e w' ⟨rfl, hs⟩
  exact ⟨r, _, rfl, hs, NewIs.of_take hw hn hti⟩
theorem ONewAny (S : Sep w0 w L) (i : Nat) (hi : L[i]? = some (arenaR a A)) (hw : A.Wf) (n : Nat) (hn : n ≤ 6) :
    Calls Try.prog 46 #[.pointer (some ⟨a, 0, none⟩), .int .i64 (n : Int)] w fun e w' =>
      (A.take (classZ (n : Int)) = none ∧ e = .returned (.tuple #[.int .i64 0, .int .i64 10]) ∧ Sep w0 w' L) ∨
      ∃ (r : Nat) (A' : AR), e = .returned (.tuple #[.int .i64 (r : Int), .int .i64 0]) ∧ Sep w0 w' (L.set i (arenaR a A')) ∧ NewIs A n r A' := by
  cases hta : A.take (classZ (n : Int)) with
  | none =>
    refine (CNewNone S i hi hw (n : Int) (by omega) (by omega) hta).mono ?_
    rintro e w' ⟨rfl, hs⟩
    exact .inl ⟨rfl, rfl, hs⟩
  | some y =>
    obtain ⟨r, A'⟩ := y
    obtain ⟨p, k, hti⟩ := hw.take_spec hta
    have hr : r < 100000 := by
      have h1 := (hti.wf.lt hti.tk_new).2.1
      have := hti.wf.few
      omega
    refine (CNewSome S i hi hw (n : Int) (by omega) (by omega) hta hr).mono ?_
    rintro e w' ⟨rfl, hs⟩
    exact .inr ⟨r, _, rfl, hs, NewIs.of_take hw hn hti⟩
theorem OFields (S : Sep w0 w L) (i : Nat) (hi : L[i]? = some (arenaR a A)) (hw : A.Wf) {r : Nat} {fs : List Int} {x : Int} (o : Obj A r fs x) :
    Calls Try.prog 41 #[.pointer (some ⟨a, 0, none⟩), .int .i64 (r : Int)] w fun e w' => e = .returned (.int .i64 (fs.length : Int)) ∧ Sep w0 w' L := by
  have h := CFields S i hi hw (r : Int) (by have := o.pos hw; omega)
  rw [o.count] at h
  exact h
theorem OField (S : Sep w0 w L) (i : Nat) (hi : L[i]? = some (arenaR a A)) (hw : A.Wf) {r : Nat} {fs : List Int} {x : Int} (o : Obj A r fs x) (j : Nat) (v : Int) (hj : fs[j]? = some v) :
    Calls Try.prog 42 #[.pointer (some ⟨a, 0, none⟩), .int .i64 (r : Int), .int .i64 (j : Int)] w fun e w' => e = .returned (.tuple #[.int .i64 v, .int .i64 0]) ∧ Sep w0 w' L := by
  have hl := (List.getElem?_eq_some_iff.1 hj).1
  have h6 := o.six
  have h := CFieldYes S i hi hw (r : Int) (j : Int) (by have := o.pos hw; omega) (by rw [o.check hw, if_pos (by omega)]) (by omega) (by omega)
  rw [o.field j v hj] at h
  exact h
theorem OFieldOut (S : Sep w0 w L) (i : Nat) (hi : L[i]? = some (arenaR a A)) (hw : A.Wf) {r : Nat} {fs : List Int} {x : Int} (o : Obj A r fs x) (j : Int) (hj : ¬ (0 ≤ j ∧ j < (fs.length : Int))) :
    Calls Try.prog 42 #[.pointer (some ⟨a, 0, none⟩), .int .i64 (r : Int), .int .i64 j] w fun e w' => e = .returned (.tuple #[.int .i64 0, .int .i64 6]) ∧ Sep w0 w' L := by
  have hc : A.checkZ (r : Int) j = 6 := by rw [o.check hw, if_neg hj]
  have h := CFieldNo S i hi hw (r : Int) j (by have := o.pos hw; omega) (by rw [hc]; decide)
  rw [hc] at h
  exact h
theorem OSetField (S : Sep w0 w L) (i : Nat) (hi : L[i]? = some (arenaR a A)) (hw : A.Wf) {r : Nat} {fs : List Int} {x : Int} (o : Obj A r fs x) (j : Nat) (hj : j < fs.length) (v : Int) :
    Calls Try.prog 44 #[.pointer (some ⟨a, 0, none⟩), .int .i64 (r : Int), .int .i64 (j : Int), .int .i64 v] w fun e w' => ∃ A' : AR, e = .returned (.int .i64 0) ∧ Sep w0 w' (L.set i (arenaR a A')) ∧ StoreIs A r A' ∧ Obj A' r (fs.set j v) x := by
  have h6 := o.six
  have hrm := o.room
  refine (CSetFieldYes S i hi hw (r : Int) (j : Int) v (by have := o.pos hw; omega) (by rw [o.check hw, if_pos (by omega)]) (by omega) (by omega)).mono ?_
  rintro e w' ⟨rfl, hs⟩
  refine ⟨_, rfl, hs, ?_, o.setField hw hj v⟩
  have := StoreIs.of_set hw o (j := 2 + j) (by omega) v
  push_cast at this
  exact this
theorem OSetFieldOut (S : Sep w0 w L) (i : Nat) (hi : L[i]? = some (arenaR a A)) (hw : A.Wf) {r : Nat} {fs : List Int} {x : Int} (o : Obj A r fs x) (j : Int) (hj : ¬ (0 ≤ j ∧ j < (fs.length : Int))) (v : Int) :
    Calls Try.prog 44 #[.pointer (some ⟨a, 0, none⟩), .int .i64 (r : Int), .int .i64 j, .int .i64 v] w fun e w' => e = .returned (.int .i64 6) ∧ Sep w0 w' L := by
  have hc : A.checkZ (r : Int) j = 6 := by rw [o.check hw, if_neg hj]
  have h := CSetFieldNo S i hi hw (r : Int) j v (by have := o.pos hw; omega) (by rw [hc]; decide)
  rw [hc] at h
  exact h
theorem OScalar (S : Sep w0 w L) (i : Nat) (hi : L[i]? = some (arenaR a A)) (hw : A.Wf) {r : Nat} {fs : List Int} {x : Int} (o : Obj A r fs x) :
    Calls Try.prog 43 #[.pointer (some ⟨a, 0, none⟩), .int .i64 (r : Int)] w fun e w' => e = .returned (.tuple #[.int .i64 x, .int .i64 0]) ∧ Sep w0 w' L := by
  have h := CScalar S i hi hw (r : Int) (by have := o.pos hw; omega) (o.pos hw).2.1
  rw [o.scalar] at h
  exact h
theorem OSetScalar (S : Sep w0 w L) (i : Nat) (hi : L[i]? = some (arenaR a A)) (hw : A.Wf) {r : Nat} {fs : List Int} {x : Int} (o : Obj A r fs x) (v : Int) :
    Calls Try.prog 45 #[.pointer (some ⟨a, 0, none⟩), .int .i64 (r : Int), .int .i64 v] w fun e w' => ∃ A' : AR, e = .returned (.int .i64 0) ∧ Sep w0 w' (L.set i (arenaR a A')) ∧ StoreIs A r A' ∧ Obj A' r fs v := by
  have hrm := o.room
  refine (CSetScalar S i hi hw (r : Int) v (by have := o.pos hw; omega) (o.pos hw).2.1).mono ?_
  rintro e w' ⟨rfl, hs⟩
  exact ⟨_, rfl, hs, StoreIs.of_set hw o (j := 1) (by omega) v, o.setScalar hw v⟩
theorem opoints_iter (B B' a : Nat) (A : AR) (hw : A.Wf) {r : Nat} {fs : List Int} {x : Int} (o : Obj A r fs x) :
    Iter Try.prog 60 #[.pointer (some ⟨B, 0, none⟩), .pointer (some ⟨B', 0, none⟩)] (fun x : Int => #[.int .i64 x]) (fs.filter fun v => !(v == 0)) (fun _ => [blkR B 23 #[.pointer (some ⟨a, 0, none⟩)], blkR B' 26 #[.int .i64 (r : Int)], arenaR a A]) := by
  have h := points_iter B B' a (r : Int) fs.length A hw (by have := o.pos hw; omega) o.count o.six (fun _ => (o.pos hw).2.1)
  rw [o.points] at h
  exact h
end
end Go.Proofs.Ytapbphbnffggnaa
