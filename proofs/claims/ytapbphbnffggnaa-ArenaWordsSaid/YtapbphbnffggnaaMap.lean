/-
  Maps from integers to integers that a function's own text makes, where memory is a list of things. Conditions: no program is named here.
-/
import Derived.Test.YtapbphbnffggnaaRange
import Derived.Maps.OwnSet
import Derived.Maps.OwnOps
import Derived.Maps.OwnIn
import Derived.Maps.RangeWalk
namespace Go.Proofs.Ytapbphbnffggnaa
set_option linter.unusedVariables false
set_option linter.unusedSimpArgs false
open Go.RowKit Go.Shelf Go.Maps

/-- The types of a map's keys and elements. -/
structure MapOk (P : Program) (t k e : TypeId) (qk qe : IntKind) : Prop where
  ht : P.underlying t = some (.map k e)
  hk : P.underlying k = some (.int qk)
  he : P.underlying e = some (.int qe)
  hz : ∀ w, (zeroValue e).run P w = .ok (.int qe 0) w

def updM (M : Int → Option Int) (x : Int) (c : Option Int) : Int → Option Int := fun y => if y = x then c else M y

/-- The datum D reads as M. -/
structure Reads (qk qe : IntKind) (D : DataW Unit) (M : Int → Option Int) : Prop where
  tidy : Tidy D
  none_ : ∀ x, (Lit.int qk x).wf = true → M x = none → has D (.int qk x) = false
  some_ : ∀ x c, (Lit.int qk x).wf = true → M x = some c → has D (.int qk x) = true ∧ ∀ z, D.atKey (.int qk x) z = .lit (.int qe c)

theorem isKey (q : IntKind) (x : Int) : WideAt.IsKeyLit (.int q x) := trivial
theorem lit_ne {q : IntKind} {x y : Int} (h : x ≠ y) : Lit.int q x ≠ Lit.int q y := by intro e; injection e with _ e; exact h e

section
variable {qk qe : IntKind} {D : DataW Unit} {M : Int → Option Int}
theorem Reads.has_eq (h : Reads qk qe D M) {x : Int} (hx : (Lit.int qk x).wf = true) : has D (.int qk x) = (M x).isSome := by
  cases e : M x with
  | none => rw [h.none_ x hx e]; rfl
  | some c => rw [(h.some_ x c hx e).1]; rfl
theorem Reads.at_eq (h : Reads qk qe D M) {x : Int} (hx : (Lit.int qk x).wf = true) : D.atKey (.int qk x) (.lit (.int qe 0)) = .lit (.int qe ((M x).getD 0)) := by
  cases e : M x with
  | none => rw [atKey_of_not_has (h.none_ x hx e)]; rfl
  | some c => rw [(h.some_ x c hx e).2]; rfl
theorem Reads.put (h : Reads qk qe D M) {x : Int} (hx : (Lit.int qk x).wf = true) (c : Int) : Reads qk qe (D.put (.int qk x) (.lit (.int qe c))) (updM M x (some c)) := by
  refine ⟨h.tidy.put (isKey _ _) _, ?_, ?_⟩
  · intro y hy e
    unfold updM at e
    by_cases hyx : y = x
    · rw [if_pos hyx] at e; cases e
    · rw [if_neg hyx] at e
      rw [has_put_other (lit_ne hyx)]
      exact h.none_ y hy e
  · intro y d hy e
    unfold updM at e
    by_cases hyx : y = x
    · rw [if_pos hyx] at e
      cases e
      subst hyx
      exact ⟨has_put_same h.tidy.isMap (isKey _ _) _, fun z => atKey_put_same h.tidy.isMap (isKey _ _) _ z⟩
    · rw [if_neg hyx] at e
      obtain ⟨h1, h2⟩ := h.some_ y d hy e
      exact ⟨by rw [has_put_other (lit_ne hyx)]; exact h1, fun z => by rw [atKey_put_other (lit_ne hyx)]; exact h2 z⟩
theorem Reads.del (h : Reads qk qe D M) (x : Int) : Reads qk qe (D.del (.int qk x)) (updM M x none) := by
  refine ⟨h.tidy.del _, ?_, ?_⟩
  · intro y hy e
    unfold updM at e
    by_cases hyx : y = x
    · subst hyx
      exact has_del_same
    · rw [if_neg hyx] at e
      rw [has_del_other (lit_ne hyx)]
      exact h.none_ y hy e
  · intro y d hy e
    unfold updM at e
    by_cases hyx : y = x
    · rw [if_pos hyx] at e; cases e
    · rw [if_neg hyx] at e
      obtain ⟨h1, h2⟩ := h.some_ y d hy e
      exact ⟨by rw [has_del_other (lit_ne hyx)]; exact h1, fun z => by rw [atKey_del_other (lit_ne hyx)]; exact h2 z⟩
theorem reads_empty : Reads qk qe (.map []) (fun _ => none) := ⟨tidy_empty, fun _ _ _ => rfl, fun _ _ _ e => by cases e⟩
end

theorem ownsMap_heap {P : Program} {k : TypeId} {R : Value → Option (DataW Unit × List MemPlace)} {w w' : World} {b n : Nat} {D : DataW Unit} (h : w.ownsMap P k R b n D) (e : w'.heap[b]? = w.heap[b]?) : w'.ownsMap P k R b n D := by
  obtain ⟨es, clock, hb, rest⟩ := h
  exact ⟨es, clock, e.trans hb, rest⟩
theorem ownsMap_tight {P : Program} {k : TypeId} {R : Value → Option (DataW Unit × List MemPlace)} {w : World} {b n : Nat} {D : DataW Unit} (h : w.ownsMap P k R b n D) : w.ownsMap P k R b (size D) D := by
  obtain ⟨es, clock, hb, F, _, rfl⟩ := h
  exact ⟨es, clock, hb, F, by simp [Maps.size, length_sorted], rfl⟩

/-- The map at block b has cnt entries, and reads as M. -/
def mapR (P : Program) (t k e : TypeId) (qk qe : IntKind) (b : Nat) (cnt : Nat) (M : Int → Option Int) : Res :=
  ⟨fun w F => F = [b] ∧ ∃ D : DataW Unit, w.ownsMap P k (plainElem P e) b cnt D ∧ size D = cnt ∧ Reads qk qe D M,
   fun {w w' F G} h hc hF => by
    obtain ⟨rfl, D, h1, h2⟩ := h
    exact ⟨rfl, D, ownsMap_heap h1 (hc.block b h1.lt (hF b (by simp))), h2⟩,
   fun {w F} h x hx => by
    obtain ⟨rfl, D, h1, _⟩ := h
    simp at hx; subst hx; exact h1.lt⟩

section
variable {P : Program} {t k e : TypeId} {qk qe : IntKind} {w0 w : World} {L : List Res} {i b cnt : Nat} {M : Int → Option Int}

theorem map_look (Y : MapOk P t k e qk qe) (S : Sep w0 w L) (i : Nat) (hi : L[i]? = some (mapR P t k e qk qe b cnt M)) {x : Int} (hx : (Lit.int qk x).wf = true) :
    (Instr.lookup t (.map (some b)) (.int qk x) true).run P w = .ok (.tuple #[.int qe ((M x).getD 0), .bool (M x).isSome]) w := by
  obtain ⟨F, ⟨rfl, D, h1, h2, h3⟩, _⟩ := S.at_ hi
  obtain ⟨v, ps, hrun, hv⟩ := h1.look_ok (int_keyed Y.hk) Y.ht (Y.hz w) (plainElem_int (H := Unit) Y.he (by cases qe <;> decide)) (keyOf_int_mk Y.hk hx)
  rw [h3.at_eq hx] at hv
  obtain ⟨c, rfl, hc, hwc⟩ := plainElem_int_inv Y.he hv
  rw [hrun, h3.has_eq hx]
  have := congrArg Prod.fst hc
  simp at this
  rw [this]
theorem map_get (Y : MapOk P t k e qk qe) (S : Sep w0 w L) (i : Nat) (hi : L[i]? = some (mapR P t k e qk qe b cnt M)) {x : Int} (hx : (Lit.int qk x).wf = true) :
    (Instr.lookup t (.map (some b)) (.int qk x) false).run P w = .ok (.int qe ((M x).getD 0)) w := by
  obtain ⟨F, ⟨rfl, D, h1, h2, h3⟩, _⟩ := S.at_ hi
  obtain ⟨c, hrun, hat, _⟩ := h1.lookup_int (int_keyed Y.hk) Y.ht Y.he (Y.hz w) (keyOf_int_mk Y.hk hx)
  rw [hrun]
  rw [h3.at_eq hx] at hat
  simp at hat
  rw [hat]
theorem map_len (Y : MapOk P t k e qk qe) (S : Sep w0 w L) (i : Nat) (hi : L[i]? = some (mapR P t k e qk qe b cnt M)) (ty : TypeId) :
    (Builtin.len_ #[t] ty #[.map (some b)]).run P w = .ok (.int .i64 (cnt : Int)) w := by
  obtain ⟨F, ⟨rfl, D, h1, h2, h3⟩, _⟩ := S.at_ hi
  rw [h1.len Y.ht ty, h2]
theorem map_put (Y : MapOk P t k e qk qe) (S : Sep w0 w L) (i : Nat) (hi : L[i]? = some (mapR P t k e qk qe b cnt M)) (hn : cnt < maxLen) {x c : Int} (hx : (Lit.int qk x).wf = true) (hc : (Lit.int qe c).wf = true) :
    ∃ w', (Instr.mapUpdate t (.map (some b)) (.int qk x) (.int qe c)).run P w = .ok () w' ∧ Sep w0 w' (L.set i (mapR P t k e qk qe b (if (M x).isSome then cnt else cnt + 1) (updM M x (some c)))) := by
  obtain ⟨F, ⟨rfl, D, h1, h2, h3⟩, hk⟩ := S.at_ hi
  obtain ⟨w', hrun, r1, r2⟩ := h1.update (int_keyed Y.hk) Y.ht hn (keyOf_int_mk Y.hk hx) (plainElem_int (H := Unit) Y.he hc)
  refine ⟨w', hrun, hk _ w' [b] ⟨rfl, _, ?_, ?_, h3.put hx c⟩ (GrewF.self _ _) (Chg.grown (Chg.refl _ _) r2 (by rintro j hj; cases hj; simp))⟩
  · have := ownsMap_tight r1
    rw [size_put h3.tidy, h3.has_eq hx, h2] at this
    exact this
  · rw [size_put h3.tidy, h3.has_eq hx, h2]
theorem map_del (Y : MapOk P t k e qk qe) (S : Sep w0 w L) (i : Nat) (hi : L[i]? = some (mapR P t k e qk qe b cnt M)) {x : Int} (hx : (Lit.int qk x).wf = true) :
    ∃ w', (∀ ty, (Builtin.delete_ #[t, k] ty #[.map (some b), .int qk x]).run P w = .ok (.tuple #[]) w') ∧ Sep w0 w' (L.set i (mapR P t k e qk qe b (if (M x).isSome then cnt - 1 else cnt) (updM M x none))) := by
  obtain ⟨F, ⟨rfl, D, h1, h2, h3⟩, hk⟩ := S.at_ hi
  obtain ⟨w', hrun, r1, r2⟩ := h1.drop (int_keyed Y.hk) Y.ht (keyOf_int_mk Y.hk hx) 0
  have hsz : size (D.del (.int qk x)) = if (M x).isSome then cnt - 1 else cnt := by
    have := size_del (k := .int qk x) h3.tidy
    rw [h3.has_eq hx, h2] at this
    split at this <;> split <;> simp_all <;> omega
  have hg : w.grownBy w' (some b) := by
    obtain ⟨es, clock, es', clock', hb, rfl⟩ := r2
    exact grownBy_putObj' w b _
  refine ⟨w', fun _ => hrun, hk _ w' [b] ⟨rfl, _, ?_, hsz, h3.del x⟩ (GrewF.self _ _) (Chg.grown (Chg.refl _ _) hg (by rintro j hj; cases hj; simp))⟩
  have := ownsMap_tight r1
  rw [hsz] at this
  exact this
theorem Sep.newMap (S : Sep w0 w L) (P : Program) (t k e : TypeId) (qk qe : IntKind) : Sep w0 (w.alloc (.map #[] 0)) (mapR P t k e qk qe w.heap.size 0 (fun _ => none) :: L) :=
  S.new (r := mapR P t k e qk qe w.heap.size 0 (fun _ => none)) (F := [w.heap.size]) ⟨rfl, _, World.ownsMap_made w P k (plainElem P e), rfl, reads_empty⟩ (by simp) ((Chg.refl _ _).alloc _)

/-- A loop over the map at block b is under way, at block r; left: which keys are still to come; at most m. -/
def rangeR (P : Program) (t k e : TypeId) (qk qe : IntKind) (b r : Nat) (cnt : Nat) (M : Int → Option Int) (left : Int → Bool) (m : Nat) : Res :=
  ⟨fun w F => F = [b, r] ∧ ∃ (D : DataW Unit) (lf : Lit → Bool), w.ranges P k (plainElem P e) b r cnt D lf m ∧ size D = cnt ∧ Reads qk qe D M ∧ ∀ x, (Lit.int qk x).wf = true → lf (.int qk x) = left x,
   fun {w w' F G} h hc hF => by
    obtain ⟨rfl, D, lf, h1, h2⟩ := h
    refine ⟨rfl, D, lf, ?_, h2⟩
    have e1 := hc.block b h1.owns.lt (hF b (by simp))
    have e2 := hc.block r h1.lt (hF r (by simp))
    obtain ⟨es, clock, since, seen, c0, hb, hf, hs, hD, hr, rest⟩ := h1
    exact ⟨es, clock, since, seen, c0, e1.trans hb, hf, hs, hD, e2.trans hr, rest⟩,
   fun {w F} h x hx => by
    obtain ⟨rfl, D, lf, h1, _⟩ := h
    simp at hx
    rcases hx with rfl | rfl
    · exact h1.owns.lt
    · exact h1.lt⟩

theorem map_range (Y : MapOk P t k e qk qe) (S : Sep w0 w L) (i : Nat) (hi : L[i]? = some (mapR P t k e qk qe b cnt M)) :
    ∃ w', (Instr.range t (.map (some b))).run P w = .ok (.pointer (some ⟨w.heap.size, 0, none⟩)) w' ∧ Sep w0 w' (L.set i (rangeR P t k e qk qe b w.heap.size cnt M (fun x => (M x).isSome) cnt)) := by
  obtain ⟨F, ⟨rfl, D, h1, h2, h3⟩, hk⟩ := S.at_ hi
  obtain ⟨w', hrun, r1, r2, r3⟩ := h1.range (int_keyed Y.hk) Y.ht
  refine ⟨w', hrun, hk _ w' [b, w.heap.size] ⟨rfl, D, _, ?_, h2, h3, fun x hx => h3.has_eq hx⟩ ?_ (Chg.grown (Chg.refl _ _) r2 (by rintro j hj; cases hj))⟩
  · rw [h2] at r1; exact r1
  · intro x hx
    simp at hx
    rcases hx with rfl | rfl
    · exact .inl (by simp)
    · exact .inr (Nat.le_refl _)
theorem map_next (Y : MapOk P t k e qk qe) {r m : Nat} {left : Int → Bool} (S : Sep w0 w L) (i : Nat) (hi : L[i]? = some (rangeR P t k e qk qe b r cnt M left m)) :
    ((∀ x, (Lit.int qk x).wf = true → left x = false) ∧ ∀ ty, (Instr.next (.pointer (some ⟨r, 0, none⟩)) false ty).run P w = .ok (.tuple #[.bool false]) w) ∨
    ∃ x c w' m', (Lit.int qk x).wf = true ∧ left x = true ∧ M x = some c ∧ (∀ ty, (Instr.next (.pointer (some ⟨r, 0, none⟩)) false ty).run P w = .ok (.tuple #[.bool true, .int qk x, .int qe c]) w') ∧ m' < m ∧
      (Instr.entry (.pointer (some ⟨r, 0, none⟩))).run P w' = .ok (.tuple #[.int qk x, .int qe c]) w' ∧ Sep w0 w' (L.set i (rangeR P t k e qk qe b r cnt M (fun y => left y && !decide (y = x)) m')) := by
  obtain ⟨F, ⟨rfl, D, lf, h1, h2, h3, h4⟩, hk⟩ := S.at_ hi
  rcases h1.next (int_keyed Y.hk) 0 with ⟨_, hl, hrun⟩ | ⟨key, v, kl, y, w', m', hkey, hlk, hv, hat, hrun, hrg, hlt, hgr, hsz, hen⟩
  · exact .inl ⟨fun x hx => by rw [← h4 x hx]; exact hl _, fun _ => hrun⟩
  · obtain ⟨x, rfl, rfl, hwx⟩ := keyOf_int_inv Y.hk hkey
    obtain ⟨c, rfl, rfl, hwc⟩ := plainElem_int_inv Y.he hv
    have hM : M x = some c := by
      cases e1 : M x with
      | none =>
        have h5 := atKey_of_not_has (h3.none_ x hwx e1) (DataW.lit (.int qe (c + 1)))
        rw [hat] at h5
        simp at h5
        omega
      | some d =>
        have h5 := (h3.some_ x d hwx e1).2 (.lit (.int qe 0))
        rw [hat] at h5
        simp at h5
        rw [h5]
    refine .inr ⟨x, c, w', m', hwx, by rw [← h4 x hwx]; exact hlk, hM, fun _ => hrun, hlt, hen, hk _ w' [b, r] ⟨rfl, D, _, hrg, h2, h3, fun y hy => ?_⟩ (GrewF.self _ _) (Chg.grown (Chg.refl _ _) hgr (by rintro j hj; cases hj; simp))⟩
    rw [h4 y hy]
    congr 2
    by_cases e1 : y = x
    · subst e1; simp [Lit.sameKey]
    · simp [Lit.sameKey, e1]
theorem rangeLeft_eq {r m : Nat} {left : Int → Bool} (S : Sep w0 w L) (i : Nat) (hi : L[i]? = some (rangeR P t k e qk qe b r cnt M left m)) : w.rangeLeft b r = m := by
  obtain ⟨F, ⟨rfl, D, lf, h1, h2, h3, h4⟩, _⟩ := S.at_ hi
  exact h1.left_eq
theorem range_end {r m : Nat} {left : Int → Bool} (S : Sep w0 w L) (i : Nat) (hi : L[i]? = some (rangeR P t k e qk qe b r cnt M left m)) : Sep w0 w (L.set i (mapR P t k e qk qe b cnt M)) := by
  obtain ⟨F, ⟨rfl, D, lf, h1, h2, h3, h4⟩, hk⟩ := S.at_ hi
  exact hk _ w [b] ⟨rfl, D, h1.owns, h2, h3⟩ (by intro x hx; simp at hx; subst hx; exact .inl (by simp)) (Chg.refl _ _)
end

section
variable {P : Program} {w w' : World} {ops : Array Oper} {rest : List Oper} {o : Oper} {a : Act} {Q : Exit → Act → World → Prop} {F : Fence} {nF : Nat}
theorem wpList_lookup_run (hg : o.guard = none) (m x : Operand) (t : TypeId) (ok : Bool) (hop : o.op = Op.lookup t m x ok) {vm vx v : Value} (hm : a.eval m = vm) (hx : a.eval x = vx) (hrun : (Instr.lookup t vm vx ok).run P w = .ok v w') (hK : wpList P ops Q rest (a.put o.dst v) w') : wpList P ops Q (o :: rest) a w := by
  refine wpList_plain hg fun K' hK' => ?_
  unfold Oper.wp
  simp [execOp, hop, hm, hx, hrun, Result.andThen]
  exact hK' _ _ hK
theorem wpListIn_lookup_run (hg : o.guard = none) (m x : Operand) (t : TypeId) (ok : Bool) (hop : o.op = Op.lookup t m x ok) {vm vx v : Value} (hm : a.eval m = vm) (hx : a.eval x = vx) (hrun : (Instr.lookup t vm vx ok).run P w = .ok v w') (hK : wpListIn F nF P ops Q rest (a.put o.dst v) w') : wpListIn F nF P ops Q (o :: rest) a w := by
  refine wpListIn_plain hg fun K' hK' => ?_
  unfold Oper.wpIn
  refine ⟨by simp [Oper.about, hop, resolve, Target.leads, Sem.run_pure], ?_⟩
  rw [Oper.semAt_plain F _ _ (by rw [hop]; intro c hc'; cases hc')]
  simp [execOp, hop, hm, hx, hrun, Result.andThen]
  exact hK' _ _ hK
theorem wpList_mapUpdate_run (hg : o.guard = none) (m x y : Operand) (t : TypeId) (hop : o.op = Op.mapUpdate t m x y) {vm vx vy : Value} (hm : a.eval m = vm) (hx : a.eval x = vx) (hy : a.eval y = vy) (hrun : (Instr.mapUpdate t vm vx vy).run P w = .ok () w') (hK : wpList P ops Q rest (a.put o.dst undef) w') : wpList P ops Q (o :: rest) a w := by
  refine wpList_plain hg fun K' hK' => ?_
  unfold Oper.wp
  simp [execOp, hop, hm, hx, hy, hrun, Result.andThen]
  exact hK' _ _ hK
theorem wpListIn_mapUpdate_run (hg : o.guard = none) (m x y : Operand) (t : TypeId) (hop : o.op = Op.mapUpdate t m x y) {vm vx vy : Value} (hm : a.eval m = vm) (hx : a.eval x = vx) (hy : a.eval y = vy) (hrun : (Instr.mapUpdate t vm vx vy).run P w = .ok () w') (hK : wpListIn F nF P ops Q rest (a.put o.dst undef) w') : wpListIn F nF P ops Q (o :: rest) a w := by
  refine wpListIn_plain hg fun K' hK' => ?_
  unfold Oper.wpIn
  refine ⟨by simp [Oper.about, hop, resolve, Target.leads, Sem.run_pure], ?_⟩
  rw [Oper.semAt_plain F _ _ (by rw [hop]; intro c hc'; cases hc')]
  simp [execOp, hop, hm, hx, hy, hrun, Result.andThen]
  exact hK' _ _ hK
theorem wpList_delete_run (hg : o.guard = none) (m x : Operand) (t k : TypeId) (hop : o.op = Op.call { callee := Callee.builtin Builtin.delete, args := #[m, x], argTypes := #[t, k] }) {vm vx : Value} (hm : a.eval m = vm) (hx : a.eval x = vx) (hrun : ∀ ty, (Builtin.delete_ #[t, k] ty #[vm, vx]).run P w = .ok (.tuple #[]) w') (hK : wpList P ops Q rest (a.put o.dst (.tuple #[])) w') : wpList P ops Q (o :: rest) a w := by
  refine wpList_plain hg fun K' hK' => ?_
  unfold Oper.wp
  simp [execOp, hop, resolve, invoke, builtin, hm, hx, hrun, Result.andThen]
  exact hK' _ _ hK
theorem wpListIn_delete_run (hg : o.guard = none) (m x : Operand) (t k : TypeId) (hop : o.op = Op.call { callee := Callee.builtin Builtin.delete, args := #[m, x], argTypes := #[t, k] }) {vm vx : Value} (hm : a.eval m = vm) (hx : a.eval x = vx) (hrun : ∀ ty, (Builtin.delete_ #[t, k] ty #[vm, vx]).run P w = .ok (.tuple #[]) w') (hK : wpListIn F nF P ops Q rest (a.put o.dst (.tuple #[])) w') : wpListIn F nF P ops Q (o :: rest) a w := by
  refine wpListIn_plain hg fun K' hK' => ?_
  unfold Oper.wpIn
  refine ⟨by simp [Oper.about, hop, resolve, Target.leads, Sem.run_pure], ?_⟩
  rw [Oper.semAt_plain F _ _ (by rw [hop]; intro c hc'; cases hc')]
  simp [execOp, hop, resolve, invoke, builtin, hm, hx, hrun, Result.andThen]
  exact hK' _ _ hK
theorem wpList_len_run (hg : o.guard = none) (m : Operand) (t : TypeId) (hop : o.op = Op.call { callee := Callee.builtin Builtin.len, args := #[m], argTypes := #[t] }) {vm v : Value} (hm : a.eval m = vm) (hrun : ∀ ty, (Builtin.len_ #[t] ty #[vm]).run P w = .ok v w') (hK : wpList P ops Q rest (a.put o.dst v) w') : wpList P ops Q (o :: rest) a w := by
  refine wpList_plain hg fun K' hK' => ?_
  unfold Oper.wp
  simp [execOp, hop, resolve, invoke, builtin, hm, hrun, Result.andThen]
  exact hK' _ _ hK
theorem wpListIn_len_run (hg : o.guard = none) (m : Operand) (t : TypeId) (hop : o.op = Op.call { callee := Callee.builtin Builtin.len, args := #[m], argTypes := #[t] }) {vm v : Value} (hm : a.eval m = vm) (hrun : ∀ ty, (Builtin.len_ #[t] ty #[vm]).run P w = .ok v w') (hK : wpListIn F nF P ops Q rest (a.put o.dst v) w') : wpListIn F nF P ops Q (o :: rest) a w := by
  refine wpListIn_plain hg fun K' hK' => ?_
  unfold Oper.wpIn
  refine ⟨by simp [Oper.about, hop, resolve, Target.leads, Sem.run_pure], ?_⟩
  rw [Oper.semAt_plain F _ _ (by rw [hop]; intro c hc'; cases hc')]
  simp [execOp, hop, resolve, invoke, builtin, hm, hrun, Result.andThen]
  exact hK' _ _ hK
theorem wpList_range_run (hg : o.guard = none) (m : Operand) (t : TypeId) (hop : o.op = Op.range t m) {vm v : Value} (hm : a.eval m = vm) (hrun : (Instr.range t vm).run P w = .ok v w') (hK : wpList P ops Q rest (a.put o.dst v) w') : wpList P ops Q (o :: rest) a w := by
  refine wpList_plain hg fun K' hK' => ?_
  unfold Oper.wp
  simp [execOp, hop, hm, hrun, Result.andThen]
  exact hK' _ _ hK
theorem wpListIn_range_run (hg : o.guard = none) (m : Operand) (t : TypeId) (hop : o.op = Op.range t m) {vm v : Value} (hm : a.eval m = vm) (hrun : (Instr.range t vm).run P w = .ok v w') (hK : wpListIn F nF P ops Q rest (a.put o.dst v) w') : wpListIn F nF P ops Q (o :: rest) a w := by
  refine wpListIn_plain hg fun K' hK' => ?_
  unfold Oper.wpIn
  refine ⟨by simp [Oper.about, hop, resolve, Target.leads, Sem.run_pure], ?_⟩
  rw [Oper.semAt_plain F _ _ (by rw [hop]; intro c hc'; cases hc')]
  simp [execOp, hop, hm, hrun, Result.andThen]
  exact hK' _ _ hK
theorem wpList_next_run (hg : o.guard = none) (m : Operand) (hop : o.op = Op.next m false) {vm v : Value} (hm : a.eval m = vm) (hrun : ∀ ty, (Instr.next vm false ty).run P w = .ok v w') (hK : wpList P ops Q rest (a.put o.dst v) w') : wpList P ops Q (o :: rest) a w := by
  refine wpList_plain hg fun K' hK' => ?_
  unfold Oper.wp
  simp [execOp, hop, hm, hrun, Result.andThen]
  exact hK' _ _ hK
theorem wpListIn_next_run (hg : o.guard = none) (m : Operand) (hop : o.op = Op.next m false) {vm v : Value} (hm : a.eval m = vm) (hrun : ∀ ty, (Instr.next vm false ty).run P w = .ok v w') (hK : wpListIn F nF P ops Q rest (a.put o.dst v) w') : wpListIn F nF P ops Q (o :: rest) a w := by
  refine wpListIn_plain hg fun K' hK' => ?_
  unfold Oper.wpIn
  refine ⟨by simp [Oper.about, hop, resolve, Target.leads, Sem.run_pure], ?_⟩
  rw [Oper.semAt_plain F _ _ (by rw [hop]; intro c hc'; cases hc')]
  simp [execOp, hop, hm, hrun, Result.andThen]
  exact hK' _ _ hK
end
end Go.Proofs.Ytapbphbnffggnaa
