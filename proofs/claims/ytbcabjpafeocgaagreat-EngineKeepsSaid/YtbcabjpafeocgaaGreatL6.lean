/-
  Parts of the proof, joined: Map, Reach11, Some11, MarkP, Small11, Shade0, VybP, Vyb. Conditions: as each part says.
-/
import Derived.Test.YtbcabjpafeocgaaGreatL1
import Derived.Maps.OwnSet
import Derived.Maps.OwnOps
import Derived.Maps.OwnIn
import Derived.Maps.RangeWalk
import Derived.Test.YtbcabjpafeocgaaGreatL5
import Derived.Test.YtbcabjpafeocgaaGreatL2
import Derived.Test.YtbcabjpafeocgaaGreatL3

/-
  Maps from integers to integers that a function's own text makes, where memory is a list of things. Conditions: no program is named here.
-/
namespace Go.Proofs.YtbcabjpafeocgaaGreat
set_option linter.unusedVariables false
set_option linter.unusedSimpArgs false
open Go.RowKit Go.Shelf Go.Maps

/-- The types of a map's keys and elements. -/
structure MapOk (P : Program) (t k e : TypeId) (qk qe : IntKind) : Prop where
  ht : P.underlying t = some (.map k e)
  hk : P.underlying k = some (.int qk)
  he : P.underlying e = some (.int qe)
  hz : ∀ w, (zeroValue e).run P w = .ok (.int qe 0) w

def updM (M : Int → Option Int) (x : Int) (c : Option Int) : Int → Option Int := fun y => if y = x then c else M y

/-- The datum D reads as M. -/
structure Reads (qk qe : IntKind) (D : DataW Unit) (M : Int → Option Int) : Prop where
  tidy : Tidy D
  none_ : ∀ x, (Lit.int qk x).wf = true → M x = none → has D (.int qk x) = false
  some_ : ∀ x c, (Lit.int qk x).wf = true → M x = some c → has D (.int qk x) = true ∧ ∀ z, D.atKey (.int qk x) z = .lit (.int qe c)

theorem isKey (q : IntKind) (x : Int) : WideAt.IsKeyLit (.int q x) := trivial
theorem lit_ne {q : IntKind} {x y : Int} (h : x ≠ y) : Lit.int q x ≠ Lit.int q y := by intro e; injection e with _ e; exact h e

section
variable {qk qe : IntKind} {D : DataW Unit} {M : Int → Option Int}
theorem Reads.has_eq (h : Reads qk qe D M) {x : Int} (hx : (Lit.int qk x).wf = true) : has D (.int qk x) = (M x).isSome := by
  cases e : M x with
  | none => rw [h.none_ x hx e]; rfl
  | some c => rw [(h.some_ x c hx e).1]; rfl
theorem Reads.at_eq (h : Reads qk qe D M) {x : Int} (hx : (Lit.int qk x).wf = true) : D.atKey (.int qk x) (.lit (.int qe 0)) = .lit (.int qe ((M x).getD 0)) := by
  cases e : M x with
  | none => rw [atKey_of_not_has (h.none_ x hx e)]; rfl
  | some c => rw [(h.some_ x c hx e).2]; rfl
theorem Reads.put (h : Reads qk qe D M) {x : Int} (hx : (Lit.int qk x).wf = true) (c : Int) : Reads qk qe (D.put (.int qk x) (.lit (.int qe c))) (updM M x (some c)) := by
  refine ⟨h.tidy.put (isKey _ _) _, ?_, ?_⟩
  · intro y hy e
    unfold updM at e
    by_cases hyx : y = x
    · rw [if_pos hyx] at e; cases e
    · rw [if_neg hyx] at e
      rw [has_put_other (lit_ne hyx)]
      exact h.none_ y hy e
  · intro y d hy e
    unfold updM at e
    by_cases hyx : y = x
    · rw [if_pos hyx] at e
      cases e
      subst hyx
      exact ⟨has_put_same h.tidy.isMap (isKey _ _) _, fun z => atKey_put_same h.tidy.isMap (isKey _ _) _ z⟩
    · rw [if_neg hyx] at e
      obtain ⟨h1, h2⟩ := h.some_ y d hy e
      exact ⟨by rw [has_put_other (lit_ne hyx)]; exact h1, fun z => by rw [atKey_put_other (lit_ne hyx)]; exact h2 z⟩
theorem Reads.del (h : Reads qk qe D M) (x : Int) : Reads qk qe (D.del (.int qk x)) (updM M x none) := by
  refine ⟨h.tidy.del _, ?_, ?_⟩
  · intro y hy e
    unfold updM at e
    by_cases hyx : y = x
    · subst hyx
      exact has_del_same
    · rw [if_neg hyx] at e
      rw [has_del_other (lit_ne hyx)]
      exact h.none_ y hy e
  · intro y d hy e
    unfold updM at e
    by_cases hyx : y = x
    · rw [if_pos hyx] at e; cases e
    · rw [if_neg hyx] at e
      obtain ⟨h1, h2⟩ := h.some_ y d hy e
      exact ⟨by rw [has_del_other (lit_ne hyx)]; exact h1, fun z => by rw [atKey_del_other (lit_ne hyx)]; exact h2 z⟩
theorem reads_empty : Reads qk qe (.map []) (fun _ => none) := ⟨tidy_empty, fun _ _ _ => rfl, fun _ _ _ e => by cases e⟩
end

theorem ownsMap_heap {P : Program} {k : TypeId} {R : Value → Option (DataW Unit × List MemPlace)} {w w' : World} {b n : Nat} {D : DataW Unit} (h : w.ownsMap P k R b n D) (e : w'.heap[b]? = w.heap[b]?) : w'.ownsMap P k R b n D := by
  obtain ⟨es, clock, hb, rest⟩ := h
  exact ⟨es, clock, e.trans hb, rest⟩
theorem ownsMap_tight {P : Program} {k : TypeId} {R : Value → Option (DataW Unit × List MemPlace)} {w : World} {b n : Nat} {D : DataW Unit} (h : w.ownsMap P k R b n D) : w.ownsMap P k R b (size D) D := by
  obtain ⟨es, clock, hb, F, _, rfl⟩ := h
  exact ⟨es, clock, hb, F, by simp [Maps.size, length_sorted], rfl⟩

/-- The map at block b has cnt entries, and reads as M. -/
def mapR (P : Program) (t k e : TypeId) (qk qe : IntKind) (b : Nat) (cnt : Nat) (M : Int → Option Int) : Res :=
  ⟨fun w F => F = [b] ∧ ∃ D : DataW Unit, w.ownsMap P k (plainElem P e) b cnt D ∧ size D = cnt ∧ Reads qk qe D M,
   fun {w w' F G} h hc hF => by
    obtain ⟨rfl, D, h1, h2⟩ := h
    exact ⟨rfl, D, ownsMap_heap h1 (hc.block b h1.lt (hF b (by simp))), h2⟩,
   fun {w F} h x hx => by
    obtain ⟨rfl, D, h1, _⟩ := h
    simp at hx; subst hx; exact h1.lt⟩

section
variable {P : Program} {t k e : TypeId} {qk qe : IntKind} {w0 w : World} {L : List Res} {i b cnt : Nat} {M : Int → Option Int}

theorem map_look (Y : MapOk P t k e qk qe) (S : Sep w0 w L) (i : Nat) (hi : L[i]? = some (mapR P t k e qk qe b cnt M)) {x : Int} (hx : (Lit.int qk x).wf = true) :
    (Instr.lookup t (.map (some b)) (.int qk x) true).run P w = .ok (.tuple #[.int qe ((M x).getD 0), .bool (M x).isSome]) w := by
  obtain ⟨F, ⟨rfl, D, h1, h2, h3⟩, _⟩ := S.at_ hi
  obtain ⟨v, ps, hrun, hv⟩ := h1.look_ok (int_keyed Y.hk) Y.ht (Y.hz w) (plainElem_int (H := Unit) Y.he (by cases qe <;> decide)) (keyOf_int_mk Y.hk hx)
  rw [h3.at_eq hx] at hv
  obtain ⟨c, rfl, hc, hwc⟩ := plainElem_int_inv Y.he hv
  rw [hrun, h3.has_eq hx]
  have := congrArg Prod.fst hc
  simp at this
  rw [this]
theorem map_get (Y : MapOk P t k e qk qe) (S : Sep w0 w L) (i : Nat) (hi : L[i]? = some (mapR P t k e qk qe b cnt M)) {x : Int} (hx : (Lit.int qk x).wf = true) :
    (Instr.lookup t (.map (some b)) (.int qk x) false).run P w = .ok (.int qe ((M x).getD 0)) w := by
  obtain ⟨F, ⟨rfl, D, h1, h2, h3⟩, _⟩ := S.at_ hi
  obtain ⟨c, hrun, hat, _⟩ := h1.lookup_int (int_keyed Y.hk) Y.ht Y.he (Y.hz w) (keyOf_int_mk Y.hk hx)
  rw [hrun]
  rw [h3.at_eq hx] at hat
  simp at hat
  rw [hat]
theorem map_len (Y : MapOk P t k e qk qe) (S : Sep w0 w L) (i : Nat) (hi : L[i]? = some (mapR P t k e qk qe b cnt M)) (ty : TypeId) :
    (Builtin.len_ #[t] ty #[.map (some b)]).run P w = .ok (.int .i64 (cnt : Int)) w := by
  obtain ⟨F, ⟨rfl, D, h1, h2, h3⟩, _⟩ := S.at_ hi
  rw [h1.len Y.ht ty, h2]
theorem map_put (Y : MapOk P t k e qk qe) (S : Sep w0 w L) (i : Nat) (hi : L[i]? = some (mapR P t k e qk qe b cnt M)) (hn : cnt < maxLen) {x c : Int} (hx : (Lit.int qk x).wf = true) (hc : (Lit.int qe c).wf = true) :
    ∃ w', (Instr.mapUpdate t (.map (some b)) (.int qk x) (.int qe c)).run P w = .ok () w' ∧ Sep w0 w' (L.set i (mapR P t k e qk qe b (if (M x).isSome then cnt else cnt + 1) (updM M x (some c)))) := by
  obtain ⟨F, ⟨rfl, D, h1, h2, h3⟩, hk⟩ := S.at_ hi
  obtain ⟨w', hrun, r1, r2⟩ := h1.update (int_keyed Y.hk) Y.ht hn (keyOf_int_mk Y.hk hx) (plainElem_int (H := Unit) Y.he hc)
  refine ⟨w', hrun, hk _ w' [b] ⟨rfl, _, ?_, ?_, h3.put hx c⟩ (GrewF.self _ _) (Chg.grown (Chg.refl _ _) r2 (by rintro j hj; cases hj; simp))⟩
  · have := ownsMap_tight r1
    rw [size_put h3.tidy, h3.has_eq hx, h2] at this
    exact this
  · rw [size_put h3.tidy, h3.has_eq hx, h2]
theorem map_del (Y : MapOk P t k e qk qe) (S : Sep w0 w L) (i : Nat) (hi : L[i]? = some (mapR P t k e qk qe b cnt M)) {x : Int} (hx : (Lit.int qk x).wf = true) :
    ∃ w', (∀ ty, (Builtin.delete_ #[t, k] ty #[.map (some b), .int qk x]).run P w = .ok (.tuple #[]) w') ∧ Sep w0 w' (L.set i (mapR P t k e qk qe b (if (M x).isSome then cnt - 1 else cnt) (updM M x none))) := by
  obtain ⟨F, ⟨rfl, D, h1, h2, h3⟩, hk⟩ := S.at_ hi
  obtain ⟨w', hrun, r1, r2⟩ := h1.drop (int_keyed Y.hk) Y.ht (keyOf_int_mk Y.hk hx) 0
  have hsz : size (D.del (.int qk x)) = if (M x).isSome then cnt - 1 else cnt := by
    have := size_del (k := .int qk x) h3.tidy
    rw [h3.has_eq hx, h2] at this
    split at this <;> split <;> simp_all <;> omega
  have hg : w.grownBy w' (some b) := by
    obtain ⟨es, clock, es', clock', hb, rfl⟩ := r2
    exact grownBy_putObj' w b _
  refine ⟨w', fun _ => hrun, hk _ w' [b] ⟨rfl, _, ?_, hsz, h3.del x⟩ (GrewF.self _ _) (Chg.grown (Chg.refl _ _) hg (by rintro j hj; cases hj; simp))⟩
  have := ownsMap_tight r1
  rw [hsz] at this
  exact this
theorem Sep.newMap (S : Sep w0 w L) (P : Program) (t k e : TypeId) (qk qe : IntKind) : Sep w0 (w.alloc (.map #[] 0)) (mapR P t k e qk qe w.heap.size 0 (fun _ => none) :: L) :=
  S.new (r := mapR P t k e qk qe w.heap.size 0 (fun _ => none)) (F := [w.heap.size]) ⟨rfl, _, World.ownsMap_made w P k (plainElem P e), rfl, reads_empty⟩ (by simp) ((Chg.refl _ _).alloc _)

/-- A loop over the map at block b is under way, at block r; left: which keys are still to come; at most m. -/
def rangeR (P : Program) (t k e : TypeId) (qk qe : IntKind) (b r : Nat) (cnt : Nat) (M : Int → Option Int) (left : Int → Bool) (m : Nat) : Res :=
  ⟨fun w F => F = [b, r] ∧ ∃ (D : DataW Unit) (lf : Lit → Bool), w.ranges P k (plainElem P e) b r cnt D lf m ∧ size D = cnt ∧ Reads qk qe D M ∧ ∀ x, (Lit.int qk x).wf = true → lf (.int qk x) = left x,
   fun {w w' F G} h hc hF => by
    obtain ⟨rfl, D, lf, h1, h2⟩ := h
    refine ⟨rfl, D, lf, ?_, h2⟩
    have e1 := hc.block b h1.owns.lt (hF b (by simp))
    have e2 := hc.block r h1.lt (hF r (by simp))
    obtain ⟨es, clock, since, seen, c0, hb, hf, hs, hD, hr, rest⟩ := h1
    exact ⟨es, clock, since, seen, c0, e1.trans hb, hf, hs, hD, e2.trans hr, rest⟩,
   fun {w F} h x hx => by
    obtain ⟨rfl, D, lf, h1, _⟩ := h
    simp at hx
    rcases hx with rfl | rfl
    · exact h1.owns.lt
    · exact h1.lt⟩

theorem map_range (Y : MapOk P t k e qk qe) (S : Sep w0 w L) (i : Nat) (hi : L[i]? = some (mapR P t k e qk qe b cnt M)) :
    ∃ w', (Instr.range t (.map (some b))).run P w = .ok (.pointer (some ⟨w.heap.size, 0, none⟩)) w' ∧ Sep w0 w' (L.set i (rangeR P t k e qk qe b w.heap.size cnt M (fun x => (M x).isSome) cnt)) := by
  obtain ⟨F, ⟨rfl, D, h1, h2, h3⟩, hk⟩ := S.at_ hi
  obtain ⟨w', hrun, r1, r2, r3⟩ := h1.range (int_keyed Y.hk) Y.ht
  refine ⟨w', hrun, hk _ w' [b, w.heap.size] ⟨rfl, D, _, ?_, h2, h3, fun x hx => h3.has_eq hx⟩ ?_ (Chg.grown (Chg.refl _ _) r2 (by rintro j hj; cases hj))⟩
  · rw [h2] at r1; exact r1
  · intro x hx
    simp at hx
    rcases hx with rfl | rfl
    · exact .inl (by simp)
    · exact .inr (Nat.le_refl _)
theorem map_next (Y : MapOk P t k e qk qe) {r m : Nat} {left : Int → Bool} (S : Sep w0 w L) (i : Nat) (hi : L[i]? = some (rangeR P t k e qk qe b r cnt M left m)) :
    ((∀ x, (Lit.int qk x).wf = true → left x = false) ∧ ∀ ty, (Instr.next (.pointer (some ⟨r, 0, none⟩)) false ty).run P w = .ok (.tuple #[.bool false]) w) ∨
    ∃ x c w' m', (Lit.int qk x).wf = true ∧ left x = true ∧ M x = some c ∧ (∀ ty, (Instr.next (.pointer (some ⟨r, 0, none⟩)) false ty).run P w = .ok (.tuple #[.bool true, .int qk x, .int qe c]) w') ∧ m' < m ∧
      (Instr.entry (.pointer (some ⟨r, 0, none⟩))).run P w' = .ok (.tuple #[.int qk x, .int qe c]) w' ∧ Sep w0 w' (L.set i (rangeR P t k e qk qe b r cnt M (fun y => left y && !decide (y = x)) m')) := by
  obtain ⟨F, ⟨rfl, D, lf, h1, h2, h3, h4⟩, hk⟩ := S.at_ hi
  rcases h1.next (int_keyed Y.hk) 0 with ⟨_, hl, hrun⟩ | ⟨key, v, kl, y, w', m', hkey, hlk, hv, hat, hrun, hrg, hlt, hgr, hsz, hen⟩
  · exact .inl ⟨fun x hx => by rw [← h4 x hx]; exact hl _, fun _ => hrun⟩
  · obtain ⟨x, rfl, rfl, hwx⟩ := keyOf_int_inv Y.hk hkey
    obtain ⟨c, rfl, rfl, hwc⟩ := plainElem_int_inv Y.he hv
    have hM : M x = some c := by
      cases e1 : M x with
      | none =>
        have h5 := atKey_of_not_has (h3.none_ x hwx e1) (DataW.lit (.int qe (c + 1)))
        rw [hat] at h5
        simp at h5
        omega
      | some d =>
        have h5 := (h3.some_ x d hwx e1).2 (.lit (.int qe 0))
        rw [hat] at h5
        simp at h5
        rw [h5]
    refine .inr ⟨x, c, w', m', hwx, by rw [← h4 x hwx]; exact hlk, hM, fun _ => hrun, hlt, hen, hk _ w' [b, r] ⟨rfl, D, _, hrg, h2, h3, fun y hy => ?_⟩ (GrewF.self _ _) (Chg.grown (Chg.refl _ _) hgr (by rintro j hj; cases hj; simp))⟩
    rw [h4 y hy]
    congr 2
    by_cases e1 : y = x
    · subst e1; simp [Lit.sameKey]
    · simp [Lit.sameKey, e1]
theorem rangeLeft_eq {r m : Nat} {left : Int → Bool} (S : Sep w0 w L) (i : Nat) (hi : L[i]? = some (rangeR P t k e qk qe b r cnt M left m)) : w.rangeLeft b r = m := by
  obtain ⟨F, ⟨rfl, D, lf, h1, h2, h3, h4⟩, _⟩ := S.at_ hi
  exact h1.left_eq
theorem range_end {r m : Nat} {left : Int → Bool} (S : Sep w0 w L) (i : Nat) (hi : L[i]? = some (rangeR P t k e qk qe b r cnt M left m)) : Sep w0 w (L.set i (mapR P t k e qk qe b cnt M)) := by
  obtain ⟨F, ⟨rfl, D, lf, h1, h2, h3, h4⟩, hk⟩ := S.at_ hi
  exact hk _ w [b] ⟨rfl, D, h1.owns, h2, h3⟩ (by intro x hx; simp at hx; subst hx; exact .inl (by simp)) (Chg.refl _ _)
end

section
variable {P : Program} {w w' : World} {ops : Array Oper} {rest : List Oper} {o : Oper} {a : Act} {Q : Exit → Act → World → Prop} {F : Fence} {nF : Nat}
theorem wpList_lookup_run (hg : o.guard = none) (m x : Operand) (t : TypeId) (ok : Bool) (hop : o.op = Op.lookup t m x ok) {vm vx v : Value} (hm : a.eval m = vm) (hx : a.eval x = vx) (hrun : (Instr.lookup t vm vx ok).run P w = .ok v w') (hK : wpList P ops Q rest (a.put o.dst v) w') : wpList P ops Q (o :: rest) a w := by
  refine wpList_plain hg fun K' hK' => ?_
  unfold Oper.wp
  simp [execOp, hop, hm, hx, hrun, Result.andThen]
  exact hK' _ _ hK
theorem wpListIn_lookup_run (hg : o.guard = none) (m x : Operand) (t : TypeId) (ok : Bool) (hop : o.op = Op.lookup t m x ok) {vm vx v : Value} (hm : a.eval m = vm) (hx : a.eval x = vx) (hrun : (Instr.lookup t vm vx ok).run P w = .ok v w') (hK : wpListIn F nF P ops Q rest (a.put o.dst v) w') : wpListIn F nF P ops Q (o :: rest) a w := by
  refine wpListIn_plain hg fun K' hK' => ?_
  unfold Oper.wpIn
  refine ⟨by simp [Oper.about, hop, resolve, Target.leads, Sem.run_pure], ?_⟩
  rw [Oper.semAt_plain F _ _ (by rw [hop]; intro c hc'; cases hc')]
  simp [execOp, hop, hm, hx, hrun, Result.andThen]
  exact hK' _ _ hK
theorem wpList_mapUpdate_run (hg : o.guard = none) (m x y : Operand) (t : TypeId) (hop : o.op = Op.mapUpdate t m x y) {vm vx vy : Value} (hm : a.eval m = vm) (hx : a.eval x = vx) (hy : a.eval y = vy) (hrun : (Instr.mapUpdate t vm vx vy).run P w = .ok () w') (hK : wpList P ops Q rest (a.put o.dst undef) w') : wpList P ops Q (o :: rest) a w := by
  refine wpList_plain hg fun K' hK' => ?_
  unfold Oper.wp
  simp [execOp, hop, hm, hx, hy, hrun, Result.andThen]
  exact hK' _ _ hK
theorem wpListIn_mapUpdate_run (hg : o.guard = none) (m x y : Operand) (t : TypeId) (hop : o.op = Op.mapUpdate t m x y) {vm vx vy : Value} (hm : a.eval m = vm) (hx : a.eval x = vx) (hy : a.eval y = vy) (hrun : (Instr.mapUpdate t vm vx vy).run P w = .ok () w') (hK : wpListIn F nF P ops Q rest (a.put o.dst undef) w') : wpListIn F nF P ops Q (o :: rest) a w := by
  refine wpListIn_plain hg fun K' hK' => ?_
  unfold Oper.wpIn
  refine ⟨by simp [Oper.about, hop, resolve, Target.leads, Sem.run_pure], ?_⟩
  rw [Oper.semAt_plain F _ _ (by rw [hop]; intro c hc'; cases hc')]
  simp [execOp, hop, hm, hx, hy, hrun, Result.andThen]
  exact hK' _ _ hK
theorem wpList_delete_run (hg : o.guard = none) (m x : Operand) (t k : TypeId) (hop : o.op = Op.call { callee := Callee.builtin Builtin.delete, args := #[m, x], argTypes := #[t, k] }) {vm vx : Value} (hm : a.eval m = vm) (hx : a.eval x = vx) (hrun : ∀ ty, (Builtin.delete_ #[t, k] ty #[vm, vx]).run P w = .ok (.tuple #[]) w') (hK : wpList P ops Q rest (a.put o.dst (.tuple #[])) w') : wpList P ops Q (o :: rest) a w := by
  refine wpList_plain hg fun K' hK' => ?_
  unfold Oper.wp
  simp [execOp, hop, resolve, invoke, builtin, hm, hx, hrun, Result.andThen]
  exact hK' _ _ hK
theorem wpListIn_delete_run (hg : o.guard = none) (m x : Operand) (t k : TypeId) (hop : o.op = Op.call { callee := Callee.builtin Builtin.delete, args := #[m, x], argTypes := #[t, k] }) {vm vx : Value} (hm : a.eval m = vm) (hx : a.eval x = vx) (hrun : ∀ ty, (Builtin.delete_ #[t, k] ty #[vm, vx]).run P w = .ok (.tuple #[]) w') (hK : wpListIn F nF P ops Q rest (a.put o.dst (.tuple #[])) w') : wpListIn F nF P ops Q (o :: rest) a w := by
  refine wpListIn_plain hg fun K' hK' => ?_
  unfold Oper.wpIn
  refine ⟨by simp [Oper.about, hop, resolve, Target.leads, Sem.run_pure], ?_⟩
  rw [Oper.semAt_plain F _ _ (by rw [hop]; intro c hc'; cases hc')]
  simp [execOp, hop, resolve, invoke, builtin, hm, hx, hrun, Result.andThen]
  exact hK' _ _ hK
theorem wpList_len_run (hg : o.guard = none) (m : Operand) (t : TypeId) (hop : o.op = Op.call { callee := Callee.builtin Builtin.len, args := #[m], argTypes := #[t] }) {vm v : Value} (hm : a.eval m = vm) (hrun : ∀ ty, (Builtin.len_ #[t] ty #[vm]).run P w = .ok v w') (hK : wpList P ops Q rest (a.put o.dst v) w') : wpList P ops Q (o :: rest) a w := by
  refine wpList_plain hg fun K' hK' => ?_
  unfold Oper.wp
  simp [execOp, hop, resolve, invoke, builtin, hm, hrun, Result.andThen]
  exact hK' _ _ hK
theorem wpListIn_len_run (hg : o.guard = none) (m : Operand) (t : TypeId) (hop : o.op = Op.call { callee := Callee.builtin Builtin.len, args := #[m], argTypes := #[t] }) {vm v : Value} (hm : a.eval m = vm) (hrun : ∀ ty, (Builtin.len_ #[t] ty #[vm]).run P w = .ok v w') (hK : wpListIn F nF P ops Q rest (a.put o.dst v) w') : wpListIn F nF P ops Q (o :: rest) a w := by
  refine wpListIn_plain hg fun K' hK' => ?_
  unfold Oper.wpIn
  refine ⟨by simp [Oper.about, hop, resolve, Target.leads, Sem.run_pure], ?_⟩
  rw [Oper.semAt_plain F _ _ (by rw [hop]; intro c hc'; cases hc')]
  simp [execOp, hop, resolve, invoke, builtin, hm, hrun, Result.andThen]
  exact hK' _ _ hK
theorem wpList_range_run (hg : o.guard = none) (m : Operand) (t : TypeId) (hop : o.op = Op.range t m) {vm v : Value} (hm : a.eval m = vm) (hrun : (Instr.range t vm).run P w = .ok v w') (hK : wpList P ops Q rest (a.put o.dst v) w') : wpList P ops Q (o :: rest) a w := by
  refine wpList_plain hg fun K' hK' => ?_
  unfold Oper.wp
  simp [execOp, hop, hm, hrun, Result.andThen]
  exact hK' _ _ hK
theorem wpListIn_range_run (hg : o.guard = none) (m : Operand) (t : TypeId) (hop : o.op = Op.range t m) {vm v : Value} (hm : a.eval m = vm) (hrun : (Instr.range t vm).run P w = .ok v w') (hK : wpListIn F nF P ops Q rest (a.put o.dst v) w') : wpListIn F nF P ops Q (o :: rest) a w := by
  refine wpListIn_plain hg fun K' hK' => ?_
  unfold Oper.wpIn
  refine ⟨by simp [Oper.about, hop, resolve, Target.leads, Sem.run_pure], ?_⟩
  rw [Oper.semAt_plain F _ _ (by rw [hop]; intro c hc'; cases hc')]
  simp [execOp, hop, hm, hrun, Result.andThen]
  exact hK' _ _ hK
theorem wpList_next_run (hg : o.guard = none) (m : Operand) (hop : o.op = Op.next m false) {vm v : Value} (hm : a.eval m = vm) (hrun : ∀ ty, (Instr.next vm false ty).run P w = .ok v w') (hK : wpList P ops Q rest (a.put o.dst v) w') : wpList P ops Q (o :: rest) a w := by
  refine wpList_plain hg fun K' hK' => ?_
  unfold Oper.wp
  simp [execOp, hop, hm, hrun, Result.andThen]
  exact hK' _ _ hK
theorem wpListIn_next_run (hg : o.guard = none) (m : Operand) (hop : o.op = Op.next m false) {vm v : Value} (hm : a.eval m = vm) (hrun : ∀ ty, (Instr.next vm false ty).run P w = .ok v w') (hK : wpListIn F nF P ops Q rest (a.put o.dst v) w') : wpListIn F nF P ops Q (o :: rest) a w := by
  refine wpListIn_plain hg fun K' hK' => ?_
  unfold Oper.wpIn
  refine ⟨by simp [Oper.about, hop, resolve, Target.leads, Sem.run_pure], ?_⟩
  rw [Oper.semAt_plain F _ _ (by rw [hop]; intro c hc'; cases hc')]
  simp [execOp, hop, hm, hrun, Result.andThen]
  exact hK' _ _ hK
end
end Go.Proofs.YtbcabjpafeocgaaGreat

/-
  The contract of layer 11's Reach. Conditions: as the theorem says.
-/
namespace Go.Proofs.YtbcabjpafeocgaaGreat
set_option linter.unusedVariables false
set_option linter.unusedSimpArgs false
open Go.RowKit Go.Shelf Go.Maps

theorem refIntOk : MapOk Tryz.prog 55 34 3 .i64 .i64 :=
  ⟨Tryz.underlying55, Tryz.underlying34, Tryz.underlying3, fun w => by
    obtain ⟨i, hi, hz⟩ := Option.map_eq_some_iff.1 (show (Tryz.prog.info? 3).map (fun i => i.zero) = some (some (.int .i64 0)) by kernel_rfl)
    simp [zeroValue, typeInfo, hi, hz]⟩
/-- Those that were looked at, as the program's map has them. -/
def visM (V : Nat → Bool) : Int → Option Int := fun z => if 0 ≤ z ∧ V z.toNat = true then some 1 else none
theorem visM_none : visM (fun _ => false) = fun _ => none := by funext z; simp [visM]
theorem visM_at (V : Nat → Bool) (x : Nat) : visM V (x : Int) = if V x = true then some 1 else none := by simp [visM]
theorem visM_put (V : Nat → Bool) (x : Nat) : updM (visM V) (x : Int) (some 1) = visM (putB V x) := by
  funext z
  unfold updM visM putB
  by_cases e : z = (x : Int)
  · subst e; simp
  · by_cases h0 : 0 ≤ z
    · have : ¬ z.toNat = x := by omega
      simp [e, this]
    · simp [e, h0]
theorem wfx {x : Nat} (hx : x < 10000) : (Lit.int .i64 (x : Int)).wf = true := by
  simp only [Lit.wf, Bool.and_eq_true, decide_eq_true_eq]
  rw [show IntKind.i64.min = -9223372036854775808 from by decide, show IntKind.i64.max = 9223372036854775807 from by decide]
  omega

/-- What Reach needs to know of objects and of where they point. -/
structure Field_ (objs : List Nat) (T : Nat → List Nat) : Prop where
  nodup : objs.Nodup
  few : objs.length ≤ 64
  lt : ∀ x ∈ objs, 0 < x ∧ x < 3000
  short : ∀ x, (T x).length ≤ 40
  into : ∀ x ∈ objs, ∀ y ∈ T x, y ∈ objs
theorem todoN_le {T : Nat → List Nat} (h : ∀ x, (T x).length ≤ 40) (V : Nat → Bool) : ∀ l : List Nat, todoN T V l ≤ 40 * l.length
  | [] => by simp [todoN]
  | a :: l => by
    have h1 := todoN_le h V l
    have h2 := h a
    unfold todoN
    rw [List.length_cons]
    split <;> omega

section
variable {w0 w : World} {R0 : List Res} {b : Nat} {T : Nat → List Nat} {objs from_ : List Nat} {v0 : Value}
/-- The search is under way: k is how much is still to do. -/
def ReachJ (w0 : World) (R0 : List Res) (b mb : Nat) (T : Nat → List Nat) (objs from_ : List Nat) (v0 v : Value) (w : World) (k : Nat) : Prop :=
  ∃ (V : Nat → Bool) (l : List Nat), Seek T from_ V l ∧ (∀ x ∈ l, x ∈ objs) ∧ (∀ x, V x = true → x ∈ objs) ∧ k = l.length + todoN T V objs ∧ k ≤ 3000 ∧
    Sep w0 w (rowR 34 1 v l.length (nums l) :: mapR Tryz.prog 55 34 3 .i64 .i64 mb (objs.countP V) (visM V) :: rowR 34 1 v0 from_.length (nums from_) :: adjR Tryz.prog 34 34 b T :: R0)
set_option maxHeartbeats 4000000 in
theorem Reach11 (hF : Field_ objs T) (hfrom : ∀ x ∈ from_, x ∈ objs) (hfl : from_.length ≤ 100) (S : Sep w0 w (rowR 34 1 v0 from_.length (nums from_) :: adjR Tryz.prog 34 34 b T :: R0)) :
    Calls Tryz.prog 28 #[v0, .map (some b)] w fun e w' => ∃ (mb : Nat) (V : Nat → Bool), e = .returned (.map (some mb)) ∧ (∀ x, V x = true ↔ Leads T (fun x => x ∈ from_) x) ∧ (∀ x, V x = true → x ∈ objs) ∧
      Sep w0 w' (mapR Tryz.prog 55 34 3 .i64 .i64 mb (objs.countP V) (visM V) :: rowR 34 1 v0 from_.length (nums from_) :: adjR Tryz.prog 34 34 b T :: R0) := by
  obtain ⟨mb, hmb⟩ : ∃ mb, w.heap.size = mb := ⟨_, rfl⟩
  have hmm := @run_makeMap Tryz.prog
  have h1 := S.newMap Tryz.prog 55 34 3 .i64 .i64
  rw [hmb] at h1
  have h2 : Sep w0 (w.alloc (.map #[] 0)) (rowR 34 1 (.slice none 0 0) 0 [] :: mapR Tryz.prog 55 34 3 .i64 .i64 mb (objs.countP (fun _ => false)) (visM (fun _ => false)) :: rowR 34 1 v0 from_.length (nums from_) :: adjR Tryz.prog 34 34 b T :: R0) := by
    rw [visM_none, List.countP_eq_zero.2 (by simp)]
    exact h1.nilRow 34 1
  obtain ⟨AA, cap, rfl, _, _⟩ := S.rowShape 0 rfl
  obtain ⟨v1, w1, hrun, hs1⟩ := h2.append_row (P := Tryz.prog) (t := 25) 25 Tryz.underlying25 refInfo rfl (by decide) 0 rfl 2 rfl (nums_one _) (by unfold maxLen; omega) (by omega)
  have H1 := Lib.hid (show ReachJ w0 R0 b mb T objs from_ _ v1 w1 (from_.length + todoN T (fun _ => false) objs) from ⟨fun _ => false, from_, seek_start T from_, hfrom, by simp, rfl, by have := todoN_le hF.short (fun _ => false) objs; have := hF.few; omega, by
    simpa using hs1⟩)
  obtain ⟨v0, hv0⟩ : ∃ v, Value.slice AA from_.length cap = v := ⟨_, rfl⟩
  rw [hv0] at H1 hrun ⊢
  have HRUN := Lib.hid hrun
  have HF := Lib.hid hF
  clear S h1 h2 hs1 hrun hF hfrom hv0
  go_enter Tryz.func28, Tryz.ntmps28
  go_wp2_with (at_builtin; refine wpList_append_run rfl _ _ _ rfl rfl rfl HRUN.out ?_)
  try simp only [hmb]
  clear hmb hmm HRUN
  go_loopw [6] (fun v wr => ∃ k, ReachJ w0 R0 b mb T objs from_ v0 v wr k) (fun v wr => leastN (ReachJ w0 R0 b mb T objs from_ v0 v wr))
  case atStart => exact ⟨_, H1.out⟩
  case round =>
    clear H1
    have HREL := Lib.hid hrel
    obtain ⟨V, l, hseek, hl, hV, hk, hk3, hs⟩ := (leastN_is hrel).1
    obtain ⟨kk, hkk⟩ : ∃ kk, leastN (ReachJ w0 R0 b mb T objs from_ v0 u6 wr) = kk := ⟨_, rfl⟩
    rw [hkk] at hk hk3
    have HKK := Lib.hid hkk
    have HK := Lib.hid hk
    have HSK := Lib.hid hseek
    have HL := Lib.hid hl
    have HVO := Lib.hid hV
    clear hrel hkk hk hseek hl hV
    rcases List.eq_nil_or_concat l with rfl | ⟨l, x, hlx⟩
    · obtain ⟨AL, cl, rfl, _, _⟩ := hs.rowShape 0 rfl
      have HS := Lib.hid hs
      clear hs
      go_wp2
      go_ret
      exact ⟨mb, V, rfl, HSK.out.done, HVO.out, HS.out.tail⟩
    · rw [List.concat_eq_append] at hlx
      subst hlx
      have hxo : x ∈ objs := HL.out x (by simp)
      have hx3 := HF.out.lt x hxo
      obtain ⟨Ln, hLn⟩ : ∃ Ln, l.length = Ln := ⟨_, rfl⟩
      have HLN := Lib.hid hLn
      rw [show (l ++ [x]).length = Ln + 1 by simp [hLn], nums_append] at hs
      clear hLn
      obtain ⟨g, cl, rfl, hcl, hcm⟩ := hs.rowSome 0 rfl (by omega)
      have cx := hs.rowCell 0 rfl Ln (.int .i64 (x : Int)) (by rw [← HLN.out, ← nums_length l]; simp [nums])
      have hlk := map_get refIntOk hs 1 rfl (wfx (x := x) (by omega))
      rw [visM_at] at hlk
      have hLI : (0 : Int) < (Ln : Int) + 1 := by omega
      have hxz : ¬ (x : Int) = 0 := by omega
      have hxb : ((x : Int) == 0) = false := by simp; omega
      have hkl : Ln + 1 + todoN T V objs ≤ 3000 := by have := HK.out; rw [List.length_append, HLN.out] at this; simp at this; omega
      have hpop := hs.rowPop (n := Ln) (xs := nums l) (last := nums [x]) 0 rfl (by rw [nums_length, HLN.out]; omega)
      cases hVx : V x with
      | true =>
        rw [hVx] at hlk
        simp only [if_true, Option.getD_some] at hlk
        have HVX := Lib.hid hVx
        have HP := Lib.hid hpop
        clear hs hpop hVx
        go_wp2
        have hJ : ReachJ w0 R0 b mb T objs from_ v0 (.slice (some ⟨g, 0, none⟩) Ln cl) wr (l.length + todoN T V objs) := ⟨V, l, HSK.out.old HVX.out, fun y hy => HL.out y (List.mem_append.2 (.inl hy)), HVO.out, rfl, by rw [HLN.out]; omega, by rw [HLN.out]; exact HP.out⟩
        go_roundw
        case rel => exact ⟨_, by first | exact hJ | simpa using hJ⟩
        case measure =>
          refine leastN_lt HREL.out (by first | exact hJ | simpa using hJ) ?_
          rw [HKK.out, HK.out]
          simp
      | false =>
        rw [hVx] at hlk
        simp only [Bool.false_eq_true, if_false, Option.getD_none] at hlk
        have HVX := Lib.hid hVx
        obtain ⟨w2, hput, hs2⟩ := map_put refIntOk hpop 1 rfl (by unfold maxLen; have := List.countP_le_length (p := V) (l := objs); have := HF.out.few; omega) (wfx (x := x) (by omega)) (c := 1) (by decide)
        rw [visM_put, visM_at, hVx] at hs2
        simp only [Bool.false_eq_true, if_false, Option.isSome_none] at hs2
        rw [← countP_put V HF.out.nodup hxo hVx] at hs2
        have hs3 : Sep w0 w2 (adjR Tryz.prog 34 34 b T :: rowR 34 1 (.slice (some ⟨g, 0, none⟩) Ln cl) Ln (nums l) :: mapR Tryz.prog 55 34 3 .i64 .i64 mb (objs.countP (putB V x)) (visM (putB V x)) :: rowR 34 1 v0 from_.length (nums from_) :: R0) := hs2.front 4 [3, 0, 1, 2]
        obtain ⟨cnt, M, O, hhole, hs4⟩ := adj_out hs3 x (by omega)
        have hlk2 := gmap_get keyRef Tryz.underlying26 (zeroRow _) hs4 0 rfl (keyOfRef (x := x) (by omega))
        have hTx := HF.out.short x
        obtain ⟨v9, w9, hrun, hs9⟩ := hs4.append_row (P := Tryz.prog) (t := 25) 25 Tryz.underlying25 refInfo rfl (by decide) 3 rfl 1 rfl (nums_one _) (by unfold maxLen; omega) (by omega)
        have hs10 := hhole.same w0 w9 _ hs9
        have HPUT := Lib.hid hput
        have HRUN := Lib.hid hrun
        have HS10 := Lib.hid hs10
        clear hs hpop hs2 hs3 hs4 hs9 hs10 hput hrun hVx hhole
        go_wp2_with (first
          | (at_mapUpdate; refine wpList_mapUpdate_run rfl _ _ _ _ rfl rfl rfl rfl HPUT.out ?_)
          | (at_builtin; refine wpList_append_run rfl _ _ _ rfl rfl rfl HRUN.out ?_))
        have hput := todoN_put T V HF.out.nodup hxo HVX.out
        have hJ : ReachJ w0 R0 b mb T objs from_ v0 v9 w9 ((l ++ T x).length + todoN T (putB V x) objs) := ⟨putB V x, l ++ T x, HSK.out.new, fun y hy => by
            rcases List.mem_append.1 hy with h | h
            · exact HL.out y (List.mem_append.2 (.inl h))
            · exact HF.out.into x hxo y h, fun y hy => by
            simp only [putB, Bool.or_eq_true, decide_eq_true_eq] at hy
            rcases hy with h | rfl
            · exact HVO.out y h
            · exact hxo, rfl, by rw [List.length_append, HLN.out]; omega, by
            rw [List.length_append, HLN.out, nums_append]
            exact HS10.out.front 4 [1, 2, 3, 0]⟩
        go_roundw
        case rel => exact ⟨_, hJ⟩
        case measure =>
          refine leastN_lt HREL.out hJ ?_
          rw [HKK.out, HK.out, List.length_append, List.length_append]
          simp
          omega
end
end Go.Proofs.YtbcabjpafeocgaaGreat

/-
  The contract of layer 11's some. Conditions: as the theorem says.
-/
namespace Go.Proofs.YtbcabjpafeocgaaGreat
set_option linter.unusedVariables false
set_option linter.unusedSimpArgs false
open Go.RowKit Go.Shelf

section
variable {w0 w : World} {R0 : List Res} {rs : List Nat} {v0 : Value}
end
end Go.Proofs.YtbcabjpafeocgaaGreat

/-
  What layer 11's statements come to, as plain data. Conditions: as each theorem says; no walk.
-/
namespace Go.Proofs.YtbcabjpafeocgaaGreat
set_option linter.unusedVariables false
set_option linter.unusedSimpArgs false

theorem elems_nodup (n : Nat) (S : Nat → Bool) : (elems n S).Nodup := List.Pairwise.filter _ List.nodup_range
/-- As many as there are of them among the objects. -/
theorem elems_count {n : Nat} {S : Nat → Bool} {l : List Nat} (hn : l.Nodup) (hl : ∀ x ∈ l, x < n) (hS : ∀ x, S x = true → x ∈ l) : (elems n S).length = l.countP S := by
  rw [List.countP_eq_length_filter]
  refine List.Perm.length_eq ((List.perm_ext_iff_of_nodup (elems_nodup n S) (List.Pairwise.filter _ hn)).2 (fun x => ?_))
  rw [mem_elems, List.mem_filter]
  constructor
  · rintro ⟨_, h⟩; exact ⟨hS x h, h⟩
  · rintro ⟨h1, h2⟩; exact ⟨hl x h1, h2⟩

section
variable {pts : Nat → List Nat} {d : Nat} {C C' : Col} {l : List Nat}
/-- What was scanned points to what is marked. -/
def Col.shut (C : Col) (pts : Nat → List Nat) : Prop := ∀ x, C.sc x = true → ∀ y ∈ pts x, C.mz y = true
theorem shut_none (pts : Nat → List Nat) : Col.none.shut pts := fun _ h => by cases h
theorem Steps.shut (h : Steps pts d C C') (hs : C.shut pts) : C'.shut pts := by
  intro x hx y hy
  rcases h.scanned x hx with h1 | h1
  · exact h.mono.1 y (hs x h1 y hy)
  · exact h1 y hy
theorem shut_shade (hs : C.shut pts) (r : Nat) : (C.shade r).shut pts := by
  intro x hx y hy
  show (C.mz y || _) = true
  rw [hs x hx y hy]
  rfl
theorem shut_shades (hs : C.shut pts) (rs : List Nat) : (C.shades rs).shut pts := by
  intro x hx y hy
  rw [shades_sc] at hx
  rw [shades_mz, hs x hx y hy]
  rfl
/-- Its fields are others now, and it is scanned no more. -/
theorem shut_regrey {pts' : Nat → List Nat} {r : Nat} (hs : C.shut pts) (hm : C.mz r = true) (hp : ∀ x, x ≠ r → pts' x = pts x) : (C.regrey r).shut pts' := by
  intro x hx y hy
  unfold Col.regrey at hx ⊢
  rw [if_pos hm] at hx ⊢
  simp only [Bool.and_eq_true, Bool.not_eq_true', decide_eq_false_iff_not] at hx
  rw [hp x hx.2] at hy
  exact hs x hx.1 y hy
theorem regrey_mz (C : Col) (r : Nat) : (C.regrey r).mz = C.mz := by unfold Col.regrey; split <;> rfl
theorem regrey_sub {r : Nat} (hs : ∀ x, C.sc x = true → C.mz x = true) : ∀ x, (C.regrey r).sc x = true → (C.regrey r).mz x = true := by
  intro x hx
  rw [regrey_mz]
  unfold Col.regrey at hx
  split at hx
  · simp only [Bool.and_eq_true] at hx
    exact hs x hx.1
  · exact hs x hx
/-- All that is marked is scanned: what is marked points to what is marked. -/
theorem shut_end (hs : C.shut pts) (hno : ∀ x, C.grey x = false) : ∀ x, C.mz x = true → ∀ y ∈ pts x, C.mz y = true := by
  intro x hx y hy
  refine hs x ?_ y hy
  cases e : C.sc x with
  | true => rfl
  | false =>
    have := hno x
    rw [show C.grey x = (C.mz x && !C.sc x) from rfl, hx, e] at this
    cases this
/-- Steps scan none of those that were scanned ahead: where these point plays no part. -/
theorem Steps.blind {pts' : Nat → List Nat} (h : Steps pts d C C') (hp : ∀ x, C.sc x = false → pts' x = pts x) : Steps pts' d C C' := by
  induction h with
  | zero => exact .zero _
  | @succ d C C1 r hs hg ih =>
    have hr : C.sc r = false := by
      cases e : C.sc r with
      | false => rfl
      | true =>
        have h1 := hs.mono.2 r e
        have h2 := (grey_iff.1 hg).2
        rw [h1] at h2
        cases h2
    rw [← hp r hr]
    exact .succ r (ih hp) hg
/-- What so many steps, or the end, come to. -/
theorem traced (h : Steps pts d C C') (hn : l.Nodup) (hc : ∀ x ∈ l, ∀ y ∈ pts x, y ∈ l) (h0 : ∀ x, C.mz x = true → x ∈ l) {k : Nat} (hk : l.length ≤ k) (hd : d < k → ∀ x, C'.grey x = false) : ∀ x, C'.grey x = false := by
  by_cases e : d < k
  · exact hd e
  · exact h.enough hn hc h0 (by omega)
/-- The number of those scanned, from none on. -/
theorem Steps.count0 (h : Steps pts d C C') (hn : l.Nodup) (hc : ∀ x ∈ l, ∀ y ∈ pts x, y ∈ l) (h0 : ∀ x, C.mz x = true → x ∈ l) (hs : ∀ x, C.sc x = false) : l.countP C'.sc = d := by
  rw [h.count hn hc h0, List.countP_eq_zero.2 (fun x _ => by rw [hs x]; decide)]
  omega
theorem leads_in {R : Nat → Prop} (hR : ∀ x, R x → x ∈ l) (hc : ∀ x ∈ l, ∀ y ∈ pts x, y ∈ l) : ∀ x, Leads pts R x → x ∈ l := leads_closed hR hc
theorem leads_mono {R R' : Nat → Prop} {pts' : Nat → List Nat} (hR : ∀ x, R x → R' x) (hp : ∀ x, ∀ y ∈ pts x, y ∈ pts' x) : ∀ x, Leads pts R x → Leads pts' R' x := by
  intro x h
  induction h with
  | base h => exact .base (hR _ h)
  | step _ hy ih => exact .step ih (hp _ _ hy)
end
end Go.Proofs.YtbcabjpafeocgaaGreat

/-
  Small of layer 11, and plain facts of tracing that the laws ask for. Conditions: as each theorem says.
-/
namespace Go.Proofs.YtbcabjpafeocgaaGreat
set_option linter.unusedVariables false
set_option linter.unusedSimpArgs false
open Go.RowKit Go.Shelf

theorem elems_white (n : Nat) : (elems n Col.white.mz).length = 0 := by
  unfold elems
  rw [List.filter_eq_nil_iff.2 (fun x _ => by simp [Col.white])]
  rfl
theorem white_grey (x : Nat) : Col.white.grey x = false := rfl
theorem shut_none_w (pts : Nat → List Nat) : Col.white.shut pts := fun _ h => by cases h
theorem Small11 (w : World) (A0 : Option Addr) (n0 c0 : Nat) (A1 : Option Addr) (n1 c1 : Nat) : Calls Tryz.prog 25 #[.agg #[.slice A0 n0 c0, .slice A1 n1 c1]] w fun e w' => e = .returned (.bool (decide (n0 ≤ 40) && decide (n1 ≤ 120))) ∧ Chg [] w w' := by
  by_cases h0 : n0 ≤ 40
  · have h0I : (n0 : Int) ≤ 40 := by omega
    by_cases h1 : n1 ≤ 120
    · have h1I : (n1 : Int) ≤ 120 := by omega
      have H0 := Lib.hid h0
      have H1 := Lib.hid h1
      clear h0 h1
      go_enter Tryz.func25, Tryz.ntmps25
      go_wp2
      go_ret
      refine ⟨?_, (Chg.refl _ _).alloc _⟩
      rw [decide_eq_true H0.out, decide_eq_true H1.out]
      rfl
    · have h1I : ¬ (n1 : Int) ≤ 120 := by omega
      have H0 := Lib.hid h0
      have H1 := Lib.hid h1
      clear h0 h1
      go_enter Tryz.func25, Tryz.ntmps25
      go_wp2
      go_ret
      refine ⟨?_, (Chg.refl _ _).alloc _⟩
      rw [decide_eq_true H0.out, decide_eq_false H1.out]
      rfl
  · have h0I : ¬ (n0 : Int) ≤ 40 := by omega
    have H0 := Lib.hid h0
    clear h0
    go_enter Tryz.func25, Tryz.ntmps25
    go_wp2
    go_ret
    refine ⟨?_, (Chg.refl _ _).alloc _⟩
    rw [decide_eq_false H0.out]
    rfl

section
variable {pts : Nat → List Nat} {d k : Nat} {C C' : Col} {l : List Nat} {A : AR} {rs : List Nat} {fs : Nat → List Nat}
theorem Gr.field (h : Gr A rs fs) (hl : rs.length ≤ 40) : Field_ rs (ptsOf fs) :=
  ⟨h.nodup, by omega, fun x hx => h.heap.pos hx, fun x => by
    by_cases hx : x ∈ rs
    · have := (ptsOf_len h.heap hx).1; omega
    · rw [h.ptsOut hx]; simp, h.ptsIn⟩
theorem Gr.lt (h : Gr A rs fs) {x : Nat} (hx : x ∈ rs) : 0 < x ∧ x < 2049 := by
  have h1 := h.heap.lt hx
  rw [h.size] at h1
  exact ⟨(h.heap.pos hx).1, by omega⟩
theorem Steps.none_ (h : Steps pts d C C') (hno : ∀ x, C.grey x = false) : d = 0 ∧ C' = C := by
  induction h with
  | zero => exact ⟨rfl, rfl⟩
  | succ r hs hg ih =>
    obtain ⟨_, rfl⟩ := ih hno
    rw [hno r] at hg
    cases hg
theorem Traced.none_ (h : Traced pts k d C C') (hno : ∀ x, C.grey x = false) : d = 0 ∧ C' = C := h.steps.none_ hno
theorem Traced.some_ (h : Traced pts k d C C') (hk : 0 < k) {x : Nat} (hx : C.grey x = true) : 0 < d := by
  rcases Nat.eq_zero_or_pos d with h0 | h0
  · subst h0
    have h1 := h.end_ hk x
    cases h.steps with
    | zero => rw [h1] at hx; cases hx
  · exact h0
theorem white_shades (l : List Nat) (x : Nat) : (Col.white.shades l).mz x = decide (x ∈ l) := by rw [shades_mz]; simp [Col.white]
theorem white_shades_sc (l : List Nat) (x : Nat) : (Col.white.shades l).sc x = false := by rw [shades_sc]; rfl
theorem shades_next {C : Col} {l : List Nat} {k x : Nat} (h : l[k]? = some x) : (C.shades (l.take k)).shade x = C.shades (l.take (k + 1)) := by
  rw [List.take_add_one, h]
  simp [Col.shades]
theorem shades_all {C : Col} {l : List Nat} {n : Nat} (h : l.length = n) : C.shades (l.take n) = C.shades l := by rw [← h, List.take_length]
/-- Traced to the end, just what can be reached is marked, and scanned. -/
theorem reach_marks {out : List Nat} {V : Nat → Bool} (h : Steps pts d (Col.white.shades out) C) (hno : ∀ x, C.grey x = false) (hV : ∀ x, V x = true ↔ Leads pts (fun x => x ∈ out) x) : C.mz = V ∧ C.sc = V := by
  have e : (fun x => (Col.white.shades out).mz x = true) = fun x => x ∈ out := funext fun x => by
    rw [white_shades]
    exact propext decide_eq_true_iff
  have hmz : C.mz = V := by
    funext x
    rw [Bool.eq_iff_iff, h.done hno (fun x hx => by rw [white_shades_sc] at hx; cases hx) x, hV x, e]
  have hsub := h.sub (fun x hx => by rw [white_shades_sc] at hx; cases hx)
  refine ⟨hmz, ?_⟩
  funext x
  rw [Steps.end_ hno hsub x, hmz]
/-- Shades of R's objects and steps of tracing, in any order, from white on. -/
structure Run (pts : Nat → List Nat) (R : Nat → Prop) (C : Col) : Prop where
  within : ∀ x, C.mz x = true → Leads pts R x
  shut : C.shut pts
  sub : ∀ x, C.sc x = true → C.mz x = true
theorem run_white (pts : Nat → List Nat) (R : Nat → Prop) : Run pts R Col.white := ⟨fun _ h => (by cases h), fun _ h => (by cases h), fun _ h => (by cases h)⟩
theorem Run.shade {R : Nat → Prop} (h : Run pts R C) {x : Nat} (hx : R x) : Run pts R (C.shade x) :=
  ⟨fun y hy => by
    have hy' : (C.mz y || decide (y = x)) = true := hy
    simp only [Bool.or_eq_true, decide_eq_true_eq] at hy'
    rcases hy' with h1 | rfl
    · exact h.within y h1
    · exact .base hx, shut_shade h.shut x, fun y hy => by
    show (C.mz y || _) = true
    rw [h.sub y hy]
    rfl⟩
theorem Run.steps {R : Nat → Prop} (h : Run pts R C) (hs : Steps pts d C C') : Run pts R C' :=
  ⟨hs.within (P := Leads pts R) (fun x hx y hy => .step hx hy) h.within, hs.shut h.shut, hs.sub h.sub⟩
theorem Run.end_ {R : Nat → Prop} (h : Run pts R C) (hno : ∀ x, C.grey x = false) (hR : ∀ x, R x → C.mz x = true) (x : Nat) : (C.mz x = true ↔ Leads pts R x) ∧ C.sc x = C.mz x :=
  ⟨⟨h.within x, leads_closed hR (fun x hx y hy => shut_end h.shut hno x hx y hy) x⟩, Steps.end_ hno h.sub x⟩
theorem run_shades {R : Nat → Prop} (hl : ∀ x ∈ l, R x) : ∀ {C : Col}, Run pts R C → Run pts R (C.shades l) := by
  induction l with
  | nil => exact fun h => h
  | cons a l ih => exact fun h => ih (fun x hx => hl x (List.mem_cons_of_mem _ hx)) (h.shade (hl a (by simp)))
theorem shade_mz (C : Col) (x : Nat) : (C.shade x).mz x = true := by simp [Col.shade]
theorem shade_keeps {x y : Nat} (h : C.mz y = true) : (C.shade x).mz y = true := by
  show (C.mz y || _) = true
  rw [h]
  rfl
theorem some_grey (h : ¬ ∀ x, C.grey x = false) : ∃ x, C.grey x = true := by
  apply Classical.byContradiction
  intro hn
  exact h fun x => by
    cases e : C.grey x with
    | false => rfl
    | true => exact absurd ⟨x, e⟩ hn
theorem Steps.most0 (h : Steps pts d (Col.white.shades l) C) {out : List Nat} (hn : out.Nodup) (hc : ∀ x ∈ out, ∀ y ∈ pts x, y ∈ out) (h0 : ∀ x ∈ l, x ∈ out) : out.countP C.sc = d ∧ d ≤ out.length := by
  have h1 := h.count0 hn hc (fun x hx => h0 x (by rw [white_shades] at hx; exact of_decide_eq_true hx)) (white_shades_sc l)
  exact ⟨h1, by have := List.countP_le_length (p := C.sc) (l := out); omega⟩
end
end Go.Proofs.YtbcabjpafeocgaaGreat

/-
  Shade (layer 11) of whatever number: of nothing nothing is done. Conditions: as each theorem says.
-/
namespace Go.Proofs.YtbcabjpafeocgaaGreat
set_option linter.unusedVariables false
set_option linter.unusedSimpArgs false
open Go.RowKit Go.Shelf

def Col.shade0 (C : Col) (r : Nat) : Col := if r = 0 then C else C.shade r
section
variable {w0 w : World} {L : List Res} {m a n : Nat} {C : Col}
theorem shade0_zero (C : Col) : C.shade0 0 = C := by simp [Col.shade0]
theorem shade0_pos {r : Nat} (h : 0 < r) : C.shade0 r = C.shade r := by unfold Col.shade0; rw [if_neg (by omega)]
theorem shade0_mz (C : Col) (r x : Nat) : (C.shade0 r).mz x = (C.mz x || (decide (x = r) && decide (r ≠ 0))) := by
  unfold Col.shade0
  by_cases h : r = 0
  · rw [if_pos h]; simp [h]
  · rw [if_neg h]; simp [Col.shade, h]
theorem shade0_sc (C : Col) (r : Nat) : (C.shade0 r).sc = C.sc := by
  unfold Col.shade0
  split <;> rfl
theorem KShade0 (S : Sep w0 w L) (i : Nat) (hi : L[i]? = some (markR m a n C)) (r : Nat) (hr : r < n) : Calls Tryz.prog 13 #[.pointer (some ⟨m, 0, none⟩), .int .i64 (r : Int)] w fun e w' => e = .returned (.bool (decide (0 < r) && !C.mz r)) ∧ Sep w0 w' (L.set i (markR m a n (C.shade0 r))) := by
  rcases Nat.eq_zero_or_pos r with rfl | h
  · refine (KShadeNil w m).mono ?_
    rintro e w' ⟨rfl, rfl⟩
    rw [shade0_zero, set_self hi]
    exact ⟨rfl, S⟩
  · refine (KShade S i hi r h hr).mono ?_
    rintro e w' ⟨rfl, hs⟩
    rw [shade0_pos h, decide_eq_true h]
    exact ⟨rfl, hs⟩
end
end Go.Proofs.YtbcabjpafeocgaaGreat

/-
  Counts (layer 15) as plain data: what writes make of them. Conditions: as each theorem says; no walk.
-/
namespace Go.Proofs.YtbcabjpafeocgaaGreat
set_option linter.unusedVariables false
set_option linter.unusedSimpArgs false

/-- Counts, the log, its room, and whether it ran over. -/
structure Vy where
  cnt : Nat → Nat
  log : List Nat
  room : Int
  over : Bool
def updC (f : Nat → Nat) (x v : Nat) : Nat → Nat := fun y => if y = x then v else f y
def Vy.new (room : Int) : Vy := ⟨fun _ => 0, [], max room 0, false⟩
/-- A black object was made to point to one. -/
def Vy.up (V : Vy) (x : Nat) : Vy :=
  if x = 0 then V else if (V.log.length : Int) < V.room then { V with cnt := updC V.cnt x (min (V.cnt x + 1) 3), log := V.log ++ [x] } else { V with cnt := updC V.cnt x (min (V.cnt x + 1) 3), over := true }
/-- It points to one no more. -/
def Vy.down (V : Vy) (x : Nat) : Vy := if x ≠ 0 ∧ 0 < V.cnt x ∧ V.cnt x < 3 then { V with cnt := updC V.cnt x (V.cnt x - 1) } else V
def Vy.post (V : Vy) (black : Bool) (old new : Nat) : Vy := if black = true then (V.up new).down old else V
def Vy.reset (V : Vy) : Vy := { V with cnt := fun _ => 0, log := [], over := false }
/-- What counts is shaded. -/
def Vy.what (V : Vy) (all : List Nat) : List Nat := (if V.over = true then all else V.log).filter fun r => decide (0 < V.cnt r)

structure VyOk (n : Nat) (V : Vy) : Prop where
  three : ∀ x, V.cnt x ≤ 3
  log : ∀ r ∈ V.log, 0 < r ∧ r < n
  fits : (V.log.length : Int) ≤ max V.room 0
  few : V.room ≤ 1000000
  size : n ≤ 100000
  some_ : V.over = false → ∀ r, 0 < V.cnt r → r ∈ V.log
  pos : ∀ r, 0 < V.cnt r → 0 < r ∧ r < n

section
variable {n : Nat} {V : Vy} {x y : Nat}
theorem updC_same (f : Nat → Nat) (x v : Nat) : updC f x v x = v := by simp [updC]
theorem updC_other (f : Nat → Nat) {x y : Nat} (v : Nat) (h : y ≠ x) : updC f x v y = f y := by simp [updC, h]
theorem up_cnt (V : Vy) (x : Nat) : (V.up x).cnt = if x = 0 then V.cnt else updC V.cnt x (min (V.cnt x + 1) 3) := by
  unfold Vy.up
  split
  · rfl
  · split <;> rfl
theorem up_room (V : Vy) (x : Nat) : (V.up x).room = V.room := by
  unfold Vy.up
  split
  · rfl
  · split <;> rfl
theorem down_rest (V : Vy) (x : Nat) : (V.down x).log = V.log ∧ (V.down x).room = V.room ∧ (V.down x).over = V.over := by
  unfold Vy.down
  split <;> exact ⟨rfl, rfl, rfl⟩
theorem down_le (V : Vy) (x : Nat) : ∀ y, (V.down x).cnt y ≤ V.cnt y := by
  intro y
  unfold Vy.down
  split
  · by_cases e : y = x
    · subst e
      show updC _ _ _ _ ≤ _
      rw [updC_same]; omega
    · show updC _ _ _ _ ≤ _
      rw [updC_other _ _ e]
      exact Nat.le_refl _
  · exact Nat.le_refl _
theorem VyOk.new (hn : n ≤ 100000) {room : Int} (hr : room ≤ 1000000) : VyOk n (Vy.new room) :=
  ⟨fun _ => Nat.zero_le _, by simp [Vy.new], by simp [Vy.new]; omega, by simp [Vy.new]; omega, hn, fun _ r h => absurd h (by simp [Vy.new]), fun r h => absurd h (by simp [Vy.new])⟩
theorem VyOk.up (h : VyOk n V) (hx : x < n) : VyOk n (V.up x) := by
  unfold Vy.up
  split
  · exact h
  · rename_i h0
    have h3 : ∀ y, updC V.cnt x (min (V.cnt x + 1) 3) y ≤ 3 := fun y => by
      by_cases e : y = x
      · subst e; rw [updC_same]; omega
      · rw [updC_other _ _ e]; exact h.three y
    have hp : ∀ r, 0 < updC V.cnt x (min (V.cnt x + 1) 3) r → 0 < r ∧ r < n := fun r hr => by
      by_cases e : r = x
      · subst e; exact ⟨by omega, hx⟩
      · rw [updC_other _ _ e] at hr; exact h.pos r hr
    split
    · rename_i h1
      refine ⟨h3, ?_, ?_, h.few, h.size, ?_, hp⟩
      · intro r hr
        rcases List.mem_append.1 hr with h2 | h2
        · exact h.log r h2
        · simp at h2; subst h2; exact ⟨by omega, hx⟩
      · show (((V.log ++ [x]).length : Nat) : Int) ≤ max V.room 0
        rw [List.length_append, List.length_singleton]
        push_cast
        omega
      · intro ho r hr
        by_cases e : r = x
        · subst e; simp
        · have hr' : 0 < updC V.cnt x (min (V.cnt x + 1) 3) r := hr
          rw [updC_other _ _ e] at hr'
          exact List.mem_append.2 (.inl (h.some_ ho r hr'))
    · exact ⟨h3, h.log, h.fits, h.few, h.size, fun ho => (by cases ho), hp⟩
theorem VyOk.down (h : VyOk n V) : VyOk n (V.down x) := by
  obtain ⟨h1, h2, h3⟩ := down_rest V x
  have hle := down_le V x
  refine ⟨fun y => Nat.le_trans (hle y) (h.three y), by rw [h1]; exact h.log, by rw [h1, h2]; exact h.fits, by rw [h2]; exact h.few, h.size, fun ho r hr => ?_, fun r hr => ?_⟩
  · rw [h3] at ho
    rw [h1]
    exact h.some_ ho r (by have := hle r; omega)
  · exact h.pos r (by have := hle r; omega)
theorem VyOk.post (h : VyOk n V) {black : Bool} {old new : Nat} (hn : new < n) : VyOk n (V.post black old new) := by
  unfold Vy.post
  split
  · exact (h.up hn).down
  · exact h
theorem VyOk.reset (h : VyOk n V) : VyOk n V.reset :=
  ⟨fun _ => Nat.zero_le _, by simp [Vy.reset], by simp [Vy.reset]; omega, h.few, h.size, fun _ r hr => absurd hr (by simp [Vy.reset]), fun r hr => absurd hr (by simp [Vy.reset])⟩
theorem post_room (V : Vy) (b : Bool) (old new : Nat) : (V.post b old new).room = V.room := by
  unfold Vy.post
  split
  · rw [(down_rest _ _).2.1, up_room]
  · rfl
/-- What is shaded is what counts. -/
theorem mem_what (h : VyOk n V) {all : List Nat} {x : Nat} (ha : 0 < V.cnt x → x ∈ all) : x ∈ V.what all ↔ 0 < V.cnt x := by
  unfold Vy.what
  rw [List.mem_filter, decide_eq_true_eq]
  constructor
  · exact fun h => h.2
  · intro hx
    refine ⟨?_, hx⟩
    split
    · exact ha hx
    · rename_i ho
      refine h.some_ ?_ x hx
      cases e : V.over with
      | false => rfl
      | true => exact absurd e ho
end
end Go.Proofs.YtbcabjpafeocgaaGreat

/-
  The barrier of layer 15: what it owns, and a contract for New, Post, Count and the like. Conditions: as the theorem says.
-/
namespace Go.Proofs.YtbcabjpafeocgaaGreat
set_option linter.unusedVariables false
set_option linter.unusedSimpArgs false
open Go.RowKit Go.Shelf

def byteCells (f : Nat → Nat) (n : Nat) : Array Value := Array.ofFn (n := n) fun i => .int .u8 ((f i.val : Nat) : Int)
theorem byteCells_get (f : Nat → Nat) (n k : Nat) (h : k < n) : (byteCells f n)[k]? = some (.int .u8 (f k : Int)) := by simp [byteCells, h]
theorem byteCells_set (f : Nat → Nat) (n k v : Nat) : (byteCells f n).setIfInBounds k (.int .u8 (v : Int)) = byteCells (updC f k v) n := by
  apply Array.ext_getElem?
  intro i
  rw [Array.getElem?_setIfInBounds]
  by_cases hi : i < n
  · by_cases e : k = i
    · subst e
      simp [byteCells, hi, updC]
    · have e' : ¬ i = k := fun h => e h.symm
      simp [byteCells, hi, e, e', updC]
  · by_cases e : k = i
    · subst e; simp [byteCells, hi]
    · simp [byteCells, hi, e]
theorem byteCells_made (m : Nat) : madeCells #[.int .u8 0] m = byteCells (fun _ => 0) m := by
  apply Array.ext
  · simp [byteCells, size_madeCells]
  · intro i h1 h2
    simp [byteCells, madeCells, Nat.mod_one]
theorem mk_bytes (m : Nat) (hm : m ≤ 1000000) (w : World) : (Instr.makeSlice 22 (.int .i64 (m : Int)) (.int .i64 (m : Int))).run Tryz.prog w = .ok (.slice (some ⟨w.heap.size, 0, none⟩) m m) (w.alloc (.cells (byteCells (fun _ => 0) m) 5)) := by
  obtain ⟨i, hi, hh⟩ := Option.map_eq_some_iff.1 (show (Tryz.prog.info? 5).map (fun i => (i.zero, i.size, i.bytes)) = some (some (.int .u8 0), 1, 1) by kernel_rfl)
  simp only [Prod.mk.injEq] at hh
  obtain ⟨hz, hs, hb⟩ := hh
  have := run_make (P := Tryz.prog) w 22 5 i (.int .u8 0) Tryz.underlying22 hi hz .i64 .i64 m m (by omega) (Int.le_refl _) (by rw [hb]; omega) (by omega)
  rw [this, hs]
  simp [Value.cells, byteCells_made]

def vybTop (b m cb : Nat) (v : Value) (n : Nat) (V : Vy) : Res := blkR b 112 #[.pointer (some ⟨m, 0, none⟩), .slice (some ⟨cb, 0, none⟩) n n, v, .int .i64 V.room, .bool V.over]
def vybParts (b m n : Nat) (V : Vy) (o : Nat × Value) : List Res := [vybTop b m o.1 o.2 n V, blkR o.1 5 (byteCells V.cnt n), rowR 34 1 o.2 V.log.length (nums V.log)]
/-- A barrier in memory: its marker lies at m, its numbers are below n. -/
def vybR (b m n : Nat) (V : Vy) : Res := exR fun o : Nat × Value => pureR (VyOk n V) (starR (vybParts b m n V o))

section
variable {w0 w : World} {L R0 : List Res} {i b m a n : Nat} {V : Vy}
theorem vyb_open (S : Sep w0 w L) (i : Nat) (hi : L[i]? = some (vybR b m n V)) : ∃ o, VyOk n V ∧ Sep w0 w (vybParts b m n V o ++ L.eraseIdx i) := by
  obtain ⟨o, h1⟩ := (S.lift i hi).unex 0 rfl
  obtain ⟨ho, h2⟩ := h1.unpure 0 rfl
  exact ⟨o, ho, h2.openHead⟩
theorem vyb_shutHead {R : List Res} {o : Nat × Value} (ho : VyOk n V) (S : Sep w0 w (vybParts b m n V o ++ R)) : Sep w0 w (vybR b m n V :: R) :=
  S.shutHead.set_ (i := 0) (r' := vybR b m n V) rfl (fun F h => ⟨o, ho, h⟩)
theorem vyb_shut {r : Res} {o : Nat × Value} (ho : VyOk n V) (S : Sep w0 w (vybParts b m n V o ++ L.eraseIdx i)) (hi : L[i]? = some r) : Sep w0 w (L.set i (vybR b m n V)) := (vyb_shutHead ho S).perm (perm_set hi)
theorem VPre (w : World) (b : Nat) (x y : Int) : Calls Tryz.prog 161 #[.pointer (some ⟨b, 0, none⟩), .int .i64 x, .int .i64 y] w fun e w' => e = .returned (.tuple #[]) ∧ w = w' := by
  go_enter Tryz.func161, Tryz.ntmps161
  go_wp2
  go_end0
  exact ⟨rfl, rfl⟩
theorem VRescans (w : World) (b : Nat) : Calls Tryz.prog 163 #[.pointer (some ⟨b, 0, none⟩)] w fun e w' => e = .returned (.bool true) ∧ w = w' := by
  go_enter Tryz.func163, Tryz.ntmps163
  go_wp2
  go_ret
  exact ⟨rfl, rfl⟩
theorem VCount (S : Sep w0 w L) (i : Nat) (hi : L[i]? = some (vybR b m n V)) (r : Nat) (hr : r < n) : Calls Tryz.prog 165 #[.pointer (some ⟨b, 0, none⟩), .int .i64 (r : Int)] w fun e w' => e = .returned (.int .i64 (V.cnt r : Int)) ∧ w = w' := by
  obtain ⟨o, ho, hs⟩ := vyb_open S i hi
  have c1 := (hs.blk 0 rfl).cell 1
  have c2 := (hs.blk 1 rfl).cell r
  rw [byteCells_get _ _ _ hr] at c2
  simp only [List.getElem?_toArray, List.getElem?_cons_zero, List.getElem?_cons_succ] at c1
  have hc := ho.three r
  obtain ⟨c, hcc⟩ : ∃ c, V.cnt r = c := ⟨_, rfl⟩
  rw [hcc] at c2 hc ⊢
  have h0 : ¬ (r : Int) < 0 := by omega
  have h1 : ¬ (n : Int) ≤ (r : Int) := by omega
  have h2 : (r : Int) < (n : Int) := by omega
  have hsz := ho.size
  clear hs ho S hi hcc
  go_enter Tryz.func165, Tryz.ntmps165
  go_wp2
  go_ret
  exact ⟨rfl, rfl⟩
theorem VCountOut (S : Sep w0 w L) (i : Nat) (hi : L[i]? = some (vybR b m n V)) (r : Int) (hr : r < 0 ∨ (n : Int) ≤ r) : Calls Tryz.prog 165 #[.pointer (some ⟨b, 0, none⟩), .int .i64 r] w fun e w' => e = .returned (.int .i64 0) ∧ w = w' := by
  obtain ⟨o, ho, hs⟩ := vyb_open S i hi
  have c1 := (hs.blk 0 rfl).cell 1
  simp only [List.getElem?_toArray, List.getElem?_cons_zero, List.getElem?_cons_succ] at c1
  have hsz := ho.size
  clear hs ho S hi
  by_cases h0 : r < 0
  · clear hr
    go_enter Tryz.func165, Tryz.ntmps165
    go_wp2
    go_ret
    exact ⟨rfl, rfl⟩
  · have h1 : (n : Int) ≤ r := by omega
    clear hr
    go_enter Tryz.func165, Tryz.ntmps165
    go_wp2
    go_ret
    exact ⟨rfl, rfl⟩
theorem VNew {C : Col} {A : AR} (S : Sep w0 w L) (i j : Nat) (hi : L[i]? = some (markR m a n C)) (hj : L[j]? = some (arenaR a A)) (hn : A.size = (n : Int)) (hn5 : n ≤ 100000) (room : Int) (hroom : room ≤ 1000000) :
    Calls Tryz.prog 39 #[.pointer (some ⟨m, 0, none⟩), .int .i64 room] w fun e w' => ∃ b, e = .returned (.pointer (some ⟨b, 0, none⟩)) ∧ Sep w0 w' (vybR b m n (Vy.new room) :: L) := by
  have HS := Lib.hid S
  have HC1 := Lib.hid (KArena S i hi)
  have HC2 := Lib.hid (TASize S j hj)
  have HN := Lib.hid hn
  have hmk := mk_bytes n (by omega)
  clear S hi hj hn
  by_cases hr0 : 0 ≤ room
  · have hr1 : ¬ room < 0 := by omega
    go_enter Tryz.func39, Tryz.ntmps39
    go_wp2_with (first
      | (go_at_call 52; refine (HC1.out).mono ?_; rintro e w1 ⟨rfl, rfl⟩; clear HC1)
      | (go_at_call 47; refine (HC2.out).mono ?_; rw [HN.out]; rintro e w2 ⟨rfl, rfl⟩; clear HC2))
    go_ret
    refine ⟨w.heap.size + 1, by first | rfl | simp, ?_⟩
    have h1 := ((HS.out.box (byteCells (fun _ => 0) n) 5).box #[.pointer (some ⟨m, 0, none⟩), .slice (some ⟨w.heap.size, 0, none⟩) n n, .slice none 0 0, .int .i64 room, .bool false] 112).nilRow 34 1
    rw [World.size_alloc] at h1
    have h2 := h1.front 3 [1, 2, 0]
    have e : Vy.new room = ⟨fun _ => 0, [], room, false⟩ := by unfold Vy.new; rw [show max room 0 = room by omega]
    refine vyb_shutHead (V := Vy.new room) (o := (w.heap.size, .slice none 0 0)) (VyOk.new hn5 hroom) ?_
    rw [e]
    exact h2
  · have hr1 : room < 0 := by omega
    go_enter Tryz.func39, Tryz.ntmps39
    go_wp2_with (first
      | (go_at_call 52; refine (HC1.out).mono ?_; rintro e w1 ⟨rfl, rfl⟩; clear HC1)
      | (go_at_call 47; refine (HC2.out).mono ?_; rw [HN.out]; rintro e w2 ⟨rfl, rfl⟩; clear HC2))
    go_ret
    refine ⟨w.heap.size + 1, by first | rfl | simp, ?_⟩
    have h1 := ((HS.out.box (byteCells (fun _ => 0) n) 5).box #[.pointer (some ⟨m, 0, none⟩), .slice (some ⟨w.heap.size, 0, none⟩) n n, .slice none 0 0, .int .i64 0, .bool false] 112).nilRow 34 1
    rw [World.size_alloc] at h1
    have h2 := h1.front 3 [1, 2, 0]
    have e : Vy.new room = ⟨fun _ => 0, [], 0, false⟩ := by unfold Vy.new; rw [show max room 0 = 0 by omega]
    refine vyb_shutHead (V := Vy.new room) (o := (w.heap.size, .slice none 0 0)) (VyOk.new hn5 hroom) ?_
    rw [e]
    exact h2
end
end Go.Proofs.YtbcabjpafeocgaaGreat
