/-
  Parts of the proof, joined: Float, Marks, Quiet, Made11, Mark4, MarkIter, Result, Mark5, Mark6, Mark7, Mark8, Mark9, Fit11, ReachP, Map, Reach11, Some11, MarkP, Small11. Conditions: as each part says.
-/
import Derived.Test.YtbcabjpafeocgaaL4
import Derived.Test.YtbcabjpafeocgaaL1
import Derived.Sort.QuietIn
import Derived.Sort.BigQuietIn
import Derived.Sort.QuietThIn
import Derived.BigQuiet
import Derived.Deep.Quiet
import Derived.Test.YtbcabjpafeocgaaL3
import Derived.Test.YtbcabjpafeocgaaL2
import Derived.StillTailTactics
import Derived.Outline
import Derived.Test.YtbcabjpafeocgaaRows
import Derived.Maps.OwnSet
import Derived.Maps.OwnOps
import Derived.Maps.OwnIn
import Derived.Maps.RangeWalk

/-
  A region that draws its order: reads that may come up at any time, and a chain of operations that change memory. Conditions: no program is named here.
-/
namespace Go.Proofs.Ytbcabjpafeocgaa
set_option linter.unusedVariables false
set_option linter.unusedSimpArgs false
open Go.RowKit Go.Shelf

section
variable {P : Program} {ops : Array Oper} {Q : Exit → Act → World → Prop} {md : Region.Mode} {C : World → Prop} {l₀ : Nat}

/-- In state a and world w the operation yields v, and leaves the world as it is. -/
def yieldsAt (P : Program) (o : Oper) (a : Act) (v : Value) (w : World) : Prop :=
  match (execOp a.eval o).run P w with
  | .ok (.value u) w' => u = v ∧ w' = w
  | .ok (.enter f args) w' => w' = w ∧ Calls P f args w (fun e w'' => e = .returned v ∧ w'' = w)
  | _ => False
def YieldsC (C : World → Prop) (P : Program) (ops : Array Oper) (o : Oper) (v : Value) (a : Act) : Prop :=
  (Region.wanted o (yielded ops a.tmps) = true ∧ ∀ w, C w → yieldsAt P o a v w) ∨ (Region.wanted o (yielded ops a.tmps) = false ∧ v = undef)

theorem YieldsC.wpOp {i : Nat} {o : Oper} {v : Value} {a : Act} (hi : ops[i]? = some o) (hy : YieldsC C P ops o v a)
    {K : Act → World → Prop} {w : World} (hC : C w) (h : K (a.put o.dst v) w) : wpOp P ops Q i K a w := by
  unfold Go.wpOp
  simp only [hi]
  rcases hy with ⟨hw, hv⟩ | ⟨hw, rfl⟩
  · simp only [hw, if_true]
    left
    have h1 := hv w hC
    unfold yieldsAt at h1
    unfold Oper.wp
    generalize (execOp a.eval o).run P w = r at *
    cases r with
    | ok x w' =>
      cases x with
      | value u => obtain ⟨rfl, rfl⟩ := h1; exact h
      | enter f args =>
        obtain ⟨rfl, hc⟩ := h1
        refine Calls.mono hc ?_
        rintro e w'' ⟨rfl, rfl⟩
        exact h
      | _ => exact h1.elim
    | halt x w' => exact h1.elim
  · simp only [hw, Bool.false_eq_true, if_false]; exact h
theorem YieldsC.of_same {o : Oper} {v : Value} {a a' : Act} (hy : YieldsC C P ops o v a) (he : execOp a'.eval o = execOp a.eval o)
    (hw : Region.wanted o (yielded ops a'.tmps) = Region.wanted o (yielded ops a.tmps)) : YieldsC C P ops o v a' := by
  unfold YieldsC yieldsAt at *
  rw [he, hw]
  exact hy
theorem wpOp_putC {j : Nat} {oi oj : Oper} {v : Value} (hj : ops[j]? = some oj) (hap : oi.apart ops oj = true)
    (hsi : ∀ cs b, oi.op ≠ .select cs b) (hsj : ∀ cs b, oj.op ≠ .select cs b)
    (hQ : ∀ c a w, Q (.panic c) (a.put oi.dst v) w → Q (.panic c) a w) {K : Act → World → Prop} {a : Act} {w : World}
    (hy : YieldsC C P ops oi v a) (h : wpOp P ops Q j K (a.put oi.dst v) w) :
    wpOp P ops Q j (fun a' w' => YieldsC C P ops oi v a' ∧ K (a'.put oi.dst v) w') a w := by
  obtain ⟨h1, h2, h3⟩ := Oper.apart_spec hap
  have keep : ∀ (a : Act), YieldsC C P ops oi v a → ∀ u, YieldsC C P ops oi v (a.put oj.dst u) := fun a hy u =>
    hy.of_same (execOp_put oi hsi a oj.dst u h3) (wanted_put oi a oj.dst u h3)
  have keepD : ∀ d, YieldsC C P ops oi v { a with defers := d :: a.defers } := fun d => hy.of_same rfl rfl
  unfold wpOp at *
  simp only [hj] at *
  rw [wanted_put oj a oi.dst v h1] at h
  split
  · rename_i hw
    simp only [hw, if_true] at h
    rcases h with h | ⟨hasks, hlets⟩
    case inr => exact .inr ⟨by unfold Oper.asks at *; rw [execOp_put oj hsj a oi.dst v h1] at hasks; exact hasks, hlets⟩
    refine .inl ?_
    unfold Oper.wp at *
    rw [execOp_put oj hsj a oi.dst v h1] at h
    generalize (execOp a.eval oj).run P w = r at *
    cases r with
    | ok n w' =>
      cases n <;> simp only [Oper.upon] at h ⊢
      case value u => exact ⟨keep a hy u, by rw [← Act.put_comm a v u h2]; exact h⟩
      case skip => exact ⟨keep a hy _, by rw [← Act.put_comm a v undef h2]; exact h⟩
      case «defer» d =>
        refine ⟨keep _ (keepD d) _, ?_⟩
        rw [← Act.put_comm _ v undef h2, ← Act.put_defers]
        exact h
      case enter f args =>
        refine Calls.mono h fun e w'' he => ?_
        cases e with
        | returned u => exact ⟨keep a hy u, by rw [← Act.put_comm a v u h2]; exact he⟩
        | panicked c => exact hQ _ _ _ he
        | outgrown => exact he
      case row row args => exact Rows.mono h fun u w'' he => ⟨keep a hy u, by rw [← Act.put_comm a v u h2]; exact he⟩
    | halt x w' =>
      cases x <;> simp only [Oper.upon] at h ⊢
      case panic u => exact hQ _ _ _ h
  · rename_i hw
    simp only [hw] at h
    exact ⟨keep a hy _, by rw [← Act.put_comm a v undef h2]; exact h⟩

/-- Whatever order is picked from here on, in worlds of the class. -/
def wpAnyC (C : World → Prop) (P : Program) (md : Region.Mode) (ops : Array Oper) (Q : Exit → Act → World → Prop) : Nat → Array Bool → Act → World → Prop
  | 0, listed, a, w => C w ∧ Region.ready md ops listed = [] ∧ Q .normal a w
  | fuel + 1, listed, a, w => C w ∧ (Region.ready md ops listed = [] → Q .normal a w) ∧
    ∀ i ∈ Region.ready md ops listed, wpOp P ops Q i (wpAnyC C P md ops Q fuel (listed.setIfInBounds i true)) a w
theorem wpAnyC.cls : ∀ {fuel : Nat} {listed : Array Bool} {a : Act} {w : World}, wpAnyC C P md ops Q fuel listed a w → C w
  | 0, _, _, _, h => h.1
  | _ + 1, _, _, _, h => h.1
theorem wpAnyC.any : ∀ (fuel : Nat) (listed : Array Bool) (a : Act) (w : World), wpAnyC C P md ops Q fuel listed a w → wpAny P md ops Q fuel listed a w
  | 0, _, _, _, h => h.2
  | fuel + 1, listed, a, w, h => ⟨h.2.1, fun i hi => wpOp_mono (fun a' w' => wpAnyC.any fuel _ a' w') (h.2.2 i hi)⟩
theorem wpAnyC_first {i : Nat} {oi : Oper} {v : Value} (hi : ops[i]? = some oi) (hsel : ∀ (j : Nat) (o : Oper) cs b, ops[j]? = some o → o.op ≠ .select cs b)
    (hQ : ∀ c a w, Q (.panic c) (a.put oi.dst v) w → Q (.panic c) a w) :
    ∀ (fuel : Nat) (listed : Array Bool) (a : Act) (w : World),
      (∀ j oj, ops[j]? = some oj → j ≠ i → listed.getD j true = false → (∀ e ∈ oj.after, Region.binds md e = true → e.on ≠ i) → oi.apart ops oj = true) →
      i ∈ Region.ready md ops listed → YieldsC C P ops oi v a →
      wpAnyC C P md ops Q fuel (listed.setIfInBounds i true) (a.put oi.dst v) w → wpAnyC C P md ops Q (fuel + 1) listed a w := by
  intro fuel
  induction fuel with
  | zero =>
    intro listed a w _ hr hy H
    refine ⟨H.cls, fun h => (by rw [h] at hr; cases hr), fun j hj => ?_⟩
    by_cases hji : j = i
    · subst hji; exact hy.wpOp hi H.cls H
    · have := ready_mono hj hji
      rw [H.2.1] at this
      cases this
  | succ fuel ih =>
    intro listed a w hfree hr hy H
    refine ⟨H.cls, fun h => (by rw [h] at hr; cases hr), fun j hj => ?_⟩
    by_cases hji : j = i
    · subst hji; exact hy.wpOp hi H.cls H
    · have h1 := H.2.2 j (ready_mono hj hji)
      obtain ⟨hjun, oj, hoj, hall⟩ := mem_ready.1 hj
      have hnot : ∀ e ∈ oj.after, Region.binds md e = true → e.on ≠ i := fun e he hb heq => by
        have h1 := hall e he hb
        have h0 := (mem_ready.1 hr).1
        rw [heq] at h1
        rcases Nat.lt_or_ge i listed.size with h' | h'
        · simp [h'] at h0 h1; rw [h0] at h1; cases h1
        · simp [Array.getElem?_eq_none h'] at h1
      have h2 := wpOp_putC hoj (hfree j oj hoj hji hjun hnot) (fun cs b => hsel i oi cs b hi) (fun cs b => hsel j oj cs b hoj) hQ hy h1
      have hfree' : ∀ k ok, ops[k]? = some ok → k ≠ i → (listed.setIfInBounds j true).getD k true = false →
          (∀ e ∈ ok.after, Region.binds md e = true → e.on ≠ i) → oi.apart ops ok = true := fun k ok hk hki hun hno => by
        refine hfree k ok hk hki ?_ hno
        by_cases hjk : j = k
        · subst hjk; exact hjun
        · rw [getD_set_ne true hjk] at hun; exact hun
      refine wpOp_mono (fun a' w' h3 => ih (listed.setIfInBounds j true) a' w' hfree' (ready_mono hr (Ne.symm hji)) h3.1 ?_) h2
      rw [Array.setIfInBounds_comm _ _ hji]
      exact h3.2
/-- A read is taken first. -/
theorem wpAnyC_take {i : Nat} {oi : Oper} {v : Value} {fuel : Nat} {listed : Array Bool} {a : Act} {w : World} (hi : ops[i]? = some oi)
    (hs : Region.noSelect ops = true) (hf : Region.free md ops listed i = true) (hr : (Region.ready md ops listed).contains i = true)
    (hQ : ∀ c a w, Q (.panic c) (a.put oi.dst v) w → Q (.panic c) a w) (hy : YieldsC C P ops oi v a)
    (h : wpAnyC C P md ops Q fuel (listed.setIfInBounds i true) (a.put oi.dst v) w) : wpAnyC C P md ops Q (fuel + 1) listed a w :=
  wpAnyC_first hi (Region.noSelect_spec hs) hQ fuel listed a w (Region.free_spec hi hf) (by simpa using hr) hy h
/-- One operation alone may come up. -/
theorem wpAnyC_one {i : Nat} {oi : Oper} {fuel : Nat} {listed : Array Bool} {a : Act} {w : World} (hi : ops[i]? = some oi) (hr : Region.ready md ops listed = [i]) (hC : C w)
    (hw : Region.wanted oi (yielded ops a.tmps) = true) (h : ∀ K : Act → World → Prop, (∀ a w, wpAnyC C P md ops Q fuel (listed.setIfInBounds i true) a w → K a w) → oi.wp P a w K Q) : wpAnyC C P md ops Q (fuel + 1) listed a w := by
  refine ⟨hC, fun h0 => (by rw [hr] at h0; cases h0), fun j hj => ?_⟩
  rw [hr] at hj
  simp at hj
  subst hj
  unfold wpOp
  simp only [hi, hw, if_true]
  exact .inl (h _ (fun _ _ h => h))
/-- Two operations may come up. -/
theorem wpAnyC_two {i j : Nat} {oi oj : Oper} {fuel : Nat} {listed : Array Bool} {a : Act} {w : World} (hi : ops[i]? = some oi) (hj : ops[j]? = some oj) (hr : Region.ready md ops listed = [i, j]) (hC : C w)
    (hwi : Region.wanted oi (yielded ops a.tmps) = true) (hwj : Region.wanted oj (yielded ops a.tmps) = true)
    (h : ∀ K : Act → World → Prop, (∀ a w, wpAnyC C P md ops Q fuel (listed.setIfInBounds i true) a w → K a w) → oi.wp P a w K Q) (h2 : ∀ K : Act → World → Prop, (∀ a w, wpAnyC C P md ops Q fuel (listed.setIfInBounds j true) a w → K a w) → oj.wp P a w K Q) : wpAnyC C P md ops Q (fuel + 1) listed a w := by
  refine ⟨hC, fun h0 => (by rw [hr] at h0; cases h0), fun k hk => ?_⟩
  rw [hr] at hk
  simp at hk
  rcases hk with rfl | rfl
  · unfold wpOp
    simp only [hi, hwi, if_true]
    exact .inl (h _ (fun _ _ h => h))
  · unfold wpOp
    simp only [hj, hwj, if_true]
    exact .inl (h2 _ (fun _ _ h => h))
theorem wpAnyC_done {listed : Array Bool} {a : Act} {w : World} (hr : Region.ready md ops listed = []) (hC : C w) (h : Q .normal a w) : ∀ fuel, wpAnyC C P md ops Q fuel listed a w
  | 0 => ⟨hC, hr, h⟩
  | _ + 1 => ⟨hC, fun _ => h, by rw [hr]; simp⟩
theorem wp_region_float (C : World → Prop) {id : Nat} {a : Act} {w : World} (hm : P.follows .mixedOrders = true)
    (h : wpAnyC C P .any ops Q ops.size (Array.replicate ops.size false) a w.drew) : (Code.region id ops true).wp P Q a w :=
  wp_region_any hm (wpAnyC.any _ _ _ _ h)
theorem wpIn_region_float (C : World → Prop) {id : Nat} {a : Act} {w : World} {l : List Oper} (hm : P.follows .mixedOrders = true)
    (hnd : (l.all fun o => match o.op with | .defer _ => false | _ => true) = true) (hout : ∀ a w, ¬ Q .outgrown a w)
    (h : wpAnyC C P .any l.toArray Q l.length (Array.replicate l.length false) a w.drew) : (Code.region id l.toArray true).wpIn (Fence.wide.inRound l₀) 0 P Q a w := by
  refine wpIn_region_any hm (wpAnyIn_of_wpAny ?_ hout _ _ _ _ (wpAnyC.any (C := C) _ _ _ _ ?_))
  · intro i o ho c he
    have hmem : o ∈ l := by
      rw [List.getElem?_toArray] at ho
      exact List.mem_of_getElem? ho
    have := List.all_eq_true.1 hnd o hmem
    rw [he] at this
    cases this
  · exact h
theorem calmP {c : Code} {a : Act} {w : World} (h : c.wp P (Exit.then (Q .normal) (fun _ _ _ => False)) a w) : c.wp P Q a w := wpIn_wide.1 (calm (n := 0) (wpIn_wide.2 h))
/-- A call whose contract is known. -/
theorem wp_call_of {o : Oper} {a : Act} {w : World} {f : FuncId} {args : Array Value} {v : Value} {R : World → Prop} {K : Act → World → Prop} (hrun : (execOp a.eval o).run P w = .ok (.enter f args) w) (hc : Calls P f args w fun e w' => e = .returned v ∧ R w')
    (hK : ∀ w', R w' → K (a.put o.dst v) w') : o.wp P a w K Q := by
  unfold Oper.wp
  rw [hrun]
  refine Calls.mono hc ?_
  rintro e w' ⟨rfl, hr⟩
  exact hK w' hr
/-- An operation whose run is known. -/
theorem wp_of_run {o : Oper} {a : Act} {w w' : World} {v : Value} {K : Act → World → Prop} (hrun : (execOp a.eval o).run P w = .ok (.value v) w') (hK : K (a.put o.dst v) w') : o.wp P a w K Q := by
  unfold Oper.wp
  rw [hrun]
  exact hK
theorem wp_append_run {o : Oper} {a : Act} {w w' : World} {K : Act → World → Prop} (s x : Operand) (t : TypeId) (hop : o.op = Op.call { callee := Callee.builtin Builtin.append, args := #[s, x], argTypes := #[t, t] }) {vs vx v : Value} (hs : a.eval s = vs) (hx : a.eval x = vx) (hrun : (Builtin.append_ #[t, t] o.type #[vs, vx]).run P w = .ok v w') (hK : K (a.put o.dst v) w') : o.wp P a w K Q := by
  refine wp_of_run (v := v) (w' := w') ?_ hK
  simp [execOp, hop, resolve, invoke, builtin, hs, hx, hrun, Result.andThen]
theorem wp_mapUpdate_run {o : Oper} {a : Act} {w w' : World} {K : Act → World → Prop} (m x y : Operand) (t : TypeId) (hop : o.op = Op.mapUpdate t m x y) {vm vx vy : Value} (hm : a.eval m = vm) (hx : a.eval x = vx) (hy : a.eval y = vy) (hrun : (Instr.mapUpdate t vm vx vy).run P w = .ok () w') (hK : K (a.put o.dst undef) w') : o.wp P a w K Q := by
  unfold Oper.wp
  simp [execOp, hop, hm, hx, hy, hrun, Result.andThen]
  exact hK
end
end Go.Proofs.Ytbcabjpafeocgaa

/-
  Loops over functions that run in a loop: the marks that they leave in the frame, as one thing. Conditions: no program is named here.
-/
namespace Go.Proofs.Ytbcabjpafeocgaa
set_option linter.unusedVariables false
set_option linter.unusedSimpArgs false
open Go.RowKit Go.Shelf

/-- The marks of the loops over functions that ran. -/
def mk (Ds : List Nat) : List Deferred := Ds.map fun D => { target := .collected D, args := #[] }
/-- Their blocks: no call is put off. -/
def marksR (Ds : List Nat) : Res := starR (Ds.map fun D => objR D (.deferred (some [])))

section
variable {P : Program} {w w0 W : World} {R H L : List Res} {Ds : List Nat} {D : Nat}

theorem Sep.noMarks (S : Sep w0 w L) : Sep w0 w (marksR [] :: L) := Sep.shutHead (K := []) S
theorem Sep.addMark (S : Sep w0 w (objR D (.deferred (some [])) :: marksR Ds :: L)) : Sep w0 w (marksR (D :: Ds) :: L) :=
  Sep.shutHead (K := objR D (.deferred (some [])) :: Ds.map fun D => objR D (.deferred (some []))) (S.swap.openHead.perm (perm_mid _ [_] _))
theorem Sep.popMark (S : Sep w0 w (marksR (D :: Ds) :: L)) : Sep w0 w (objR D (.deferred (some [])) :: marksR Ds :: L) :=
  (Sep.shutHead (K := Ds.map fun D => objR D (.deferred (some []))) ((Sep.openHead S).perm (perm_mid [_] _ L))).swap

/-- A loop over a function, in no round, beside marks. -/
theorem wp_rangeM {α : Type} {g : Operand} {ps : Array Tmp} {assign body : Code} {Q : Exit → Act → World → Prop} {t : Array Value}
    {gf : Nat} {lb : Array Value} (hg : (Act.mk t (mk Ds)).eval g = .func (.func gf) #[] lb) (eg : ∀ args w, (callFunc gf args).run P w = .ok (.enter gf args) w)
    {encs : α → Array Value} {xs : List α} {K : List α → List Res} (hit : Iter P gf lb encs xs K) (hps : ∀ x, (encs x).size = ps.size)
    (S : Sep w0 w (K [] ++ (marksR Ds :: R)))
    (Φ : List α → List Res → Prop) (Φx : Code → List α → List Res → Prop) (h0 : Φ [] R)
    (hround : ∀ (l : Nat) (pre : List α) (x : α) (R G : List Res) (W : World) (r : Loop), (pre ++ [x]) <+: xs → Φ pre R → Sep w0 W (K (pre ++ [x]) ++ (objR l (.loop r) :: (R ++ G))) →
      assign.wpIn (Fence.wide.inRound l) 0 P (Exit.then (fun a' W' => ∃ B, Sep w0 W' (K (pre ++ [x]) ++ (objR l (.loop r) :: (B ++ (R ++ G)))) ∧
        ∀ (r' : Loop) (W2 : World), Sep w0 W2 (K (pre ++ [x]) ++ (objR l (.loop r') :: (B ++ (R ++ G)))) → body.wpIn (Fence.wide.inRound l) 0 P (roundS w0 K [objR l (.loop r')] G Φ Φx (pre ++ [x])) a' W2) (fun _ _ _ => False))
        { tmps := (ps.zip (encs x)).foldl (fun t (p, v) => t.setIfInBounds p v) t, defers := [] } W)
    (hdone : ∀ (Ds : List Nat) (R : List Res) (W : World), Φ xs R → Sep w0 W (K xs ++ (marksR Ds :: R)) → Q .normal { tmps := t, defers := mk Ds } W)
    (hstop : ∀ (Ds : List Nat) (c : Code) (pre : List α) (R : List Res) (W : World), pre <+: xs → Φx c pre R → Sep w0 W (K pre ++ (marksR Ds :: R)) → c.wpIn Fence.wide 0 P Q { tmps := t, defers := mk Ds } W) :
    (Code.rangeFunc g ps assign body).wpIn Fence.wide 0 P Q { tmps := t, defers := mk Ds } w := by
  refine wp_range hg eg hit hps S (fun pre Rs => ∃ R, Rs = marksR Ds :: R ∧ Φ pre R) (fun c pre Rs => ∃ R, Rs = marksR Ds :: R ∧ Φx c pre R) ⟨R, rfl, h0⟩ ?_ ?_ ?_
  · rintro l D pre x _ G W r hpre ⟨R, rfl, hΦ⟩ hS
    refine wpIn_mono (hround l pre x R (objR D (.deferred (some [])) :: marksR Ds :: G) W r hpre hΦ ?_) ?_
    · exact hS.perm (List.Perm.append_left _ (List.Perm.cons _ (perm_mid [_, _] R G)))
    · rintro e a' W' he
      cases e with
      | exit _ => exact he
      | goto _ => exact he
      | ret => exact he
      | panic _ => exact he
      | outgrown => exact he
      | normal =>
      obtain ⟨B, hS', hb⟩ := he
      refine ⟨B, hS'.perm (List.Perm.append_left _ (List.Perm.cons _ ?_)), fun r' W2 hS2 => wpIn_mono (hb r' W2 (hS2.perm (List.Perm.append_left _ (List.Perm.cons _ ?_)))) ?_⟩
      · exact (List.Perm.append_left B (perm_mid R [_, _] G)).trans (perm_mid B [_] (marksR Ds :: (R ++ G)))
      · exact (perm_mid [_] B (marksR Ds :: (R ++ G))).trans (List.Perm.append_left B (perm_mid [_, _] R G))
      · rintro e a3 W3 he
        have key : ∀ {R' : List Res}, Sep w0 W3 (K (pre ++ [x]) ++ ([objR l (.loop r')] ++ (R' ++ (objR D (.deferred (some [])) :: marksR Ds :: G)))) → Sep w0 W3 (K (pre ++ [x]) ++ ([objR l (.loop r'), objR D (.deferred (some []))] ++ ((marksR Ds :: R') ++ G))) :=
          fun h => h.perm (List.Perm.append_left _ (List.Perm.cons _ (perm_mid _ [_, _] G)))
        cases e with
        | normal => obtain ⟨R', h1, h2⟩ := he; exact ⟨_, ⟨R', rfl, h1⟩, key h2⟩
        | exit _ => obtain ⟨R', h1, h2⟩ := he; exact ⟨_, ⟨R', rfl, h1⟩, key h2⟩
        | goto _ => obtain ⟨R', h1, h2⟩ := he; exact ⟨_, ⟨R', rfl, h1⟩, key h2⟩
        | ret => obtain ⟨R', h1, h2⟩ := he; exact ⟨_, ⟨R', rfl, h1⟩, key h2⟩
        | panic _ => exact he
        | outgrown => exact he
  · rintro D _ W ⟨R, rfl, hΦ⟩ hS
    exact hdone (D :: Ds) R W hΦ (((hS.perm (perm_mid (K xs) [_, _] R)).addMark).perm (perm_mid [_] (K xs) R))
  · rintro D c pre _ W hpre ⟨R, rfl, hΦ⟩ hS
    exact hstop (D :: Ds) c pre R W hpre hΦ (((hS.perm (perm_mid (K pre) [_, _] R)).addMark).perm (perm_mid [_] (K pre) R))

/-- The return of a function that held such loops. -/
theorem leavesM {fn : Func} {tmps : Array Value} {Rt : Ending → World → Prop} (h : ∀ w', Sep w0 w' L → ∃ v, (results fn tmps).run P w' = .ok v w' ∧ Rt (.returned v) w') :
    ∀ (Ds : List Nat) (w : World), Sep w0 w (marksR Ds :: L) → LeavesInM Fence.wide 0 P fn tmps Rt (mk Ds) .returning w
  | [], w, S => h w (Sep.openHead (K := []) S)
  | D :: Ds, w, S => ⟨by simp, .inl ⟨D, _, rfl, run_takeDeferred (S.popMark.obj (i := 0) rfl), leavesM h Ds _ (S.popMark.putObj 0 rfl (.deferred none)).tail⟩⟩

/-- The slots of S hold what v says. -/
def setS (S : List Nat) (v : Nat → Value) (t : Array Value) : Array Value := S.foldl (fun t n => t.setIfInBounds n (v n)) t

/-- A loop whose rounds write the slots of S, and leave marks. -/
theorem wpIn_loopM {c : Code} {F : Fence} {n : Nat} {Q : Exit → Act → World → Prop} {t : Array Value} (S : List Nat) (J : (Nat → Value) → List Nat → World → Prop) (μ : (Nat → Value) → World → Nat)
    (h0 : J (fun n => t.getD n undef) Ds w) (ht : t = setS S (fun n => t.getD n undef) t)
    (round : ∀ v Ds w, J v Ds w → c.wpIn F n P (Exit.then (fun a' w' => ∃ Ds', a'.defers = mk Ds' ∧ a'.tmps = setS S (fun n => a'.tmps.getD n undef) t ∧ J (fun n => a'.tmps.getD n undef) Ds' w' ∧ μ (fun n => a'.tmps.getD n undef) w' < μ v w) Q) { tmps := setS S v t, defers := mk Ds } w) :
    (Code.loop c).wpIn F n P Q { tmps := t, defers := mk Ds } w := by
  refine wpIn_loop (fun a w => ∃ Ds, a.defers = mk Ds ∧ a.tmps = setS S (fun n => a.tmps.getD n undef) t ∧ J (fun n => a.tmps.getD n undef) Ds w) (fun a w => μ (fun n => a.tmps.getD n undef) w) ⟨Ds, rfl, ht, h0⟩ ?_
  rintro ⟨t', ds'⟩ w ⟨Ds, hd, ht', hJ⟩
  simp only at hd ht' hJ
  subst hd
  have h := round _ Ds w hJ
  rw [← ht'] at h
  refine wpIn_mono h ?_
  rintro e a' w' he
  cases e with
  | normal => obtain ⟨Ds', h1, h2, h3, h4⟩ := he; exact ⟨⟨Ds', h1, h2, h3⟩, h4⟩
  | exit _ => exact he
  | goto _ => exact he
  | ret => exact he
  | panic _ => exact he
  | outgrown => exact he
end
end Go.Proofs.Ytbcabjpafeocgaa

/-
  Regions that draw their order, whose operations and calls leave the things in memory as they were. Conditions: no program is named here.
-/
namespace Go.Proofs.Ytbcabjpafeocgaa
set_option linter.unusedVariables false
set_option linter.unusedSimpArgs false
open Go.RowKit Go.Shelf

/-- A world in which these things lie. -/
structure SepW (w0 : World) (L : List Res) where
  w' : World
  h : Sep w0 w' L

section
variable {P : Program} {id : Nat} {Q : Exit → Act → World → Prop} {a : Act} {w w0 : World} {L : List Res} {l : List Oper}

theorem region_sep (S : Sep w0 w L) (hm : P.follows .mixedOrders = true) (hB : Region.lexB .any l.toArray = true)
    (h : Nonempty (SepW w0 L) → wpQuiet P l.toArray (fun w' => ∃ x : SepW w0 L, w' = x.w') (fun a' => ∀ w', (∃ x : SepW w0 L, w' = x.w') → Q .normal a' w') l a) : (Code.region id l.toArray true).wp P Q a w :=
  wp_region_quiet (C := fun w' => ∃ x : SepW w0 L, w' = x.w') hm hB ⟨⟨_, S.drew⟩, rfl⟩ (by simpa using h ⟨⟨_, S⟩⟩)
theorem regionIn_sep (S : Sep w0 w L) (hm : P.follows .mixedOrders = true) (hB : Region.lexB .any l.toArray = true)
    (h : Nonempty (SepW w0 L) → wpQuietIn Fence.wide 0 P l.toArray (fun w' => ∃ x : SepW w0 L, w' = x.w') (fun a' => ∀ w', (∃ x : SepW w0 L, w' = x.w') → Q .normal a' w') l a) : (Code.region id l.toArray true).wpIn Fence.wide 0 P Q a w :=
  wpIn_region_quiet (C := fun w' => ∃ x : SepW w0 L, w' = x.w') rfl hm hB ⟨⟨_, S.drew⟩, rfl⟩ (by simpa using h ⟨⟨_, S⟩⟩)

theorem sep_calls {f : FuncId} {args : Array Value} {x : SepW w0 L} {v : Value} (h : Calls P f args x.w' fun e w' => e = .returned v ∧ Sep w0 w' L) :
    Calls P f args x.w' fun e w'' => e = .returned v ∧ ∃ y : SepW w0 L, w'' = y.w' :=
  h.mono fun _ w'' ⟨he, hc⟩ => ⟨he, ⟨w'', hc⟩, rfl⟩
theorem same_calls {f : FuncId} {args : Array Value} {x : SepW w0 L} {v : Value} (h : Calls P f args x.w' fun e w' => e = .returned v ∧ x.w' = w') :
    Calls P f args x.w' fun e w'' => e = .returned v ∧ ∃ y : SepW w0 L, w'' = y.w' :=
  h.mono fun _ w'' ⟨he, hc⟩ => ⟨he, x, hc.symm⟩
theorem sep_calls_in {f : FuncId} {args : Array Value} {x : SepW w0 L} {v : Value} (h : Calls P f args x.w' fun e w' => e = .returned v ∧ Sep w0 w' L) :
    CallsIn Fence.wide 0 P f args x.w' fun e w'' => e = .returned v ∧ ∃ y : SepW w0 L, w'' = y.w' := calls_in (sep_calls h)
theorem same_calls_in {f : FuncId} {args : Array Value} {x : SepW w0 L} {v : Value} (h : Calls P f args x.w' fun e w' => e = .returned v ∧ x.w' = w') :
    CallsIn Fence.wide 0 P f args x.w' fun e w'' => e = .returned v ∧ ∃ y : SepW w0 L, w'' = y.w' := calls_in (same_calls h)
end
end Go.Proofs.Ytbcabjpafeocgaa

/-
  The contract of layer 11's Made. Conditions: as the theorem says.
-/
namespace Go.Proofs.Ytbcabjpafeocgaa
set_option linter.unusedVariables false
set_option linter.unusedSimpArgs false
open Go.RowKit Go.Shelf Go.Maps
attribute [local go_sem] Oper.semAt_some wide_fn round_fn wide_depth round_depth
attribute [local simp] wide_fn round_fn wide_depth round_depth

theorem keyRef : Keyed Try.prog 35 := int_keyed (q := .i64) Try.underlying35
theorem keyOfRef {x : Nat} (hx : x ≤ 1000000) : keyOf Try.prog 35 (.int .i64 (x : Int)) = some (litR x) :=
  keyOf_int_mk Try.underlying35 (by
    simp only [Lit.wf, Bool.and_eq_true, decide_eq_true_eq]
    rw [show IntKind.i64.min = -9223372036854775808 from by decide, show IntKind.i64.max = 9223372036854775807 from by decide]
    omega)
theorem zeroRow (w : World) : (zeroValue 28).run Try.prog w = .ok (.slice none 0 0) w := by
  obtain ⟨i, hi, hz⟩ := Option.map_eq_some_iff.1 (show (Try.prog.info? 28).map (fun i => i.zero) = some (some (.slice none 0 0)) by kernel_rfl)
  simp [zeroValue, typeInfo, hi, hz]

/-- Where those of the first q point. -/
def seen (rs : List Nat) (fs : Nat → List Nat) (q : Nat) : Nat → List Nat := fun x => if x ∈ rs.take q then ptsOf fs x else []
theorem seen_none (rs : List Nat) (fs : Nat → List Nat) : seen rs fs 0 = fun _ => [] := by funext x; simp [seen]
theorem take_succ_mem {rs : List Nat} {q x : Nat} (h : rs[q]? = some x) (y : Nat) : y ∈ rs.take (q + 1) ↔ y ∈ rs.take q ∨ y = x := by
  rw [List.take_add_one, h]; simp
theorem nodup_take {rs : List Nat} {q x : Nat} (hn : rs.Nodup) (h : rs[q]? = some x) : x ∉ rs.take q := by
  intro hm
  obtain ⟨j, hj, he⟩ := List.getElem_of_mem hm
  rw [List.length_take] at hj
  rw [List.getElem_take] at he
  obtain ⟨hq, hx⟩ := List.getElem?_eq_some_iff.1 h
  have := (List.getElem_inj (h₀ := by omega) (h₁ := hq) hn).1 (he.trans hx.symm)
  omega
theorem seen_new {rs : List Nat} {q x : Nat} (hn : rs.Nodup) (h : rs[q]? = some x) (fs : Nat → List Nat) : updT (seen rs fs q) x [] = seen rs fs q := by
  funext y
  by_cases e : y = x
  · subst e; simp [updT, seen, nodup_take hn h]
  · simp [updT, e]
theorem seen_next {rs : List Nat} {q x : Nat} (hn : rs.Nodup) (h : rs[q]? = some x) (fs : Nat → List Nat) : updT (seen rs fs q) x (ptsOf fs x) = seen rs fs (q + 1) := by
  funext y
  by_cases e : y = x
  · subst e; simp [updT, seen, (take_succ_mem h y).2]
  · simp [updT, e, seen, take_succ_mem h]
theorem seen_all {A : AR} {rs : List Nat} {fs : Nat → List Nat} (h : Gr A rs fs) {n : Nat} (hl : rs.length = n) : seen rs fs n = ptsOf fs := by
  funext y
  unfold seen
  rw [← hl, List.take_length]
  by_cases hy : y ∈ rs
  · rw [if_pos hy]
  · rw [if_neg hy, h.ptsOut hy]
theorem updT_twice (T : Nat → List Nat) (x : Nat) (a b : List Nat) : updT (updT T x a) x b = updT T x b := by funext y; by_cases e : y = x <;> simp [updT, e]

section
variable {w0 w : World} {L : List Res}
set_option maxRecDepth 100000 in
set_option maxHeartbeats 8000000 in
theorem Made11L (A0 : Option Addr) (n0 c0 : Nat) (D0 : Nat → Nat → Int) (A1 : Option Addr) (n1 c1 : Nat) (D1 : Nat → Nat → Int) (hz0 : ArgI w0 A0 n0 [.u8] D0) (hz1 : ArgI w0 A1 n1 [.u16, .u16, .u16] D1) (hn0 : n0 ≤ 40) (hn1 : n1 ≤ 120) (S : Sep w0 w L) :
    Calls Try.prog 14 #[.agg #[.slice A0 n0 c0, .slice A1 n1 c1]] w fun e w' => ∃ (a b : Nat) (v : Value) (A : AR) (rs : List Nat) (fs : Nat → List Nat),
      e = .returned (.tuple #[.pointer (some ⟨a, 0, none⟩), v, .map (some b)]) ∧ Gr A rs fs ∧ rs.length = n0 ∧ Lens D0 rs fs ∧ Sep w0 w' (arenaR a A :: rowR 35 1 v rs.length (nums rs) :: adjR Try.prog 35 35 b (ptsOf fs) :: L) := by
  have HZ0 := Lib.hid hz0
  have HZ1 := Lib.hid hz1
  have hmm := @run_makeMap Try.prog
  obtain ⟨T, hT⟩ : ∃ T, w.heap.size = T := ⟨_, rfl⟩
  have hs := S.box #[.slice A0 n0 c0, .slice A1 n1 c1] 25
  rw [hT] at hs
  have HS1 := Lib.hid hs
  clear hz0 hz1 hs S
  refine calls_wide ?_
  refine callsIn_of_wp_marks Try.func14 rfl trivial ?_
  simp only [Try.ntmps14, List.size_toArray, List.length_cons, List.length_nil, Nat.reduceAdd, Nat.reduceSub, Array.replicate_succ, Array.replicate_zero, List.push_toArray, List.append_toArray, List.nil_append, List.cons_append]
  gi_wp2_with (gi_at_call 51; refine (calls_in (TANew HS1.out 64 64 (by decide))).mono ?_; rintro e w2 ⟨a, ids, rfl, hs⟩; obtain ⟨mb, hmb⟩ : ∃ mb, w2.heap.size = mb := ⟨_, rfl⟩; have hs1 := adj_new hs Try.prog 35 35; rw [hmb] at hs1; have hs2 := hs1.box #[.map (some mb)] 29; rw [World.size_alloc, hmb] at hs2; have z0 := (hs2.blk 3 rfl).cell 0; simp only [List.getElem?_toArray, List.getElem?_cons_zero, List.getElem?_cons_succ] at z0; have HS2 := Lib.hid (show Sep w0 _ (arenaR a (AR.new 64 ids) :: rowR 35 1 (.slice none 0 0) 0 (nums ([] : List Nat)) :: blkR T 25 #[.slice A0 n0 c0, .slice A1 n1 c1] :: blkR (mb + 1) 29 #[.map (some mb)] :: adjR Try.prog 35 35 mb (fun _ => []) :: L) from (hs2.nilRow 35 1).front 5 [3, 0, 4, 1, 2]); clear hs hs1 hs2 HS1; have HW := Lib.hid (gr_none ids (AR.new_wf 64 ids (by omega))))
  try simp only [hmb]
  clear hmb hmm z0
  obtain ⟨TM, hTM⟩ : ∃ TM, mb + 1 = TM := ⟨_, rfl⟩
  rw [hTM] at HS2
  try simp only [hTM]
  clear hTM
  gi_loopw [6, 25] (fun v i wr => ∃ (k : Nat) (A : AR) (rs : List Nat) (fs : Nat → List Nat), k ≤ n0 ∧ i = .int .i64 k ∧ rs.length = k ∧ Lens D0 rs fs ∧ Gr A rs fs ∧ Sep w0 wr (arenaR a A :: rowR 35 1 v rs.length (nums rs) :: blkR T 25 #[.slice A0 n0 c0, .slice A1 n1 c1] :: blkR TM 29 #[.map (some mb)] :: adjR Try.prog 35 35 mb (fun _ => []) :: L)) (fun _ i _ => n0 + 1 - (intOf i).toNat)
  case atStart => exact ⟨0, _, [], _, by omega, rfl, rfl, lens_nil _ _, HW.out, HS2.out⟩
  case round =>
    clear HS2 HW
    obtain ⟨k, A, rs, fs, hk, rfl, hlen, hle, hgr, hs⟩ := hrel
    have HLE := Lib.hid hle
    obtain ⟨AA, cap, rfl, hcap, hcm⟩ := hs.rowShape 1 rfl
    unfold maxLen at hcm
    have hown := hs.own
    have HGR := Lib.hid hgr
    have HLN := Lib.hid hlen
    rw [hlen] at hs hcap ⊢
    by_cases hlt : k < n0
    · obtain ⟨ab, ao, hA0, hcell⟩ := HZ0.out.at_ hown hlt
      subst hA0
      have hc0 := hcell 0 _ rfl
      have hwf := wf8 (HZ0.out.wf hlt 0 .u8 rfl)
      simp at hc0
      obtain ⟨d0, h0⟩ : ∃ d, D0 k 0 = d := ⟨_, rfl⟩
      rw [h0] at hc0 hwf
      obtain ⟨m, hm, hm6⟩ : ∃ m : Nat, d0 % 7 = (m : Int) ∧ m ≤ 6 := ⟨(d0 % 7).toNat, by omega, by omega⟩
      have hmt : d0.tmod 7 = (m : Int) := by rw [Int.tmod_eq_emod_of_nonneg (by omega)]; exact hm
      have HC := Lib.hid (ONew hs 0 rfl HGR.out.heap.wf m hm6 (HGR.out.room (by rw [HLN.out]; omega)))
      have hltI : (k : Int) < (n0 : Int) := by omega
      have HDM := Lib.hid (show D0 k 0 % 7 = (m : Int) from by rw [h0]; exact hm)
      clear hcell h0 hs hgr hlen hown hle
      gi_wp2_with (first
        | (gi_at_call 52; refine (calls_in (HC.out)).mono ?_; rintro e w3 ⟨r, A2, rfl, hs, hN⟩; have HN := Lib.hid hN; have hr0 : ((r : Int) == 0) = false := (by have := (hN.obj.pos hN.wf).2.1; simpa using this); have hr1 : ¬ (r : Int) = 0 := (hN.obj.pos hN.wf).2.1; have HS3 := Lib.hid hs; clear hs hN HC)
        | (gi_at_builtin; refine wpListIn_append_sep rfl _ _ 28 rfl 35 (.int .i64 0) 1 8 Try.underlying28 refInfo rfl (by decide) HS3.out 1 rfl rfl [.int .i64 (r : Int)] rfl (by simp [Value.oneCell']) rfl (by unfold maxLen; omega) (by omega) ?_; intro g4 cap4 w4 hcap4 hcm4 hs4; have HS4 := Lib.hid hs4; clear hs4))
      go_roundw
      case rel => exact ⟨k + 1, A2, rs ++ [r], updT fs r (List.replicate m 0), by omega, by go_num, by simp [HLN.out], HLE.out.born HGR.out HN.out HLN.out HDM.out, HGR.out.born HN.out, by
        rw [List.length_append, HLN.out, nums_append]
        exact HS4.out⟩
      case measure => simp [intOf]; omega
    · obtain rfl : n0 = k := by omega
      have z1 := (hs.blk 2 rfl).cell 1
      simp only [List.getElem?_toArray, List.getElem?_cons_zero, List.getElem?_cons_succ] at z1
      have HS5 := Lib.hid hs
      clear hs hgr hlen hown hle
      gi_wp2
      clear z1
      rcases Nat.eq_zero_or_pos n0 with hk0 | hkp
      · subst hk0
        obtain rfl : rs = [] := List.eq_nil_of_length_eq_zero HLN.out
        gi_loopw [53] (fun i wr => i = .int .i64 0 ∧ Sep w0 wr (arenaR a A :: rowR 35 1 (.slice AA 0 cap) 0 (nums ([] : List Nat)) :: blkR T 25 #[.slice A0 0 c0, .slice A1 n1 c1] :: blkR TM 29 #[.map (some mb)] :: adjR Try.prog 35 35 mb (fun _ => []) :: L)) (fun _ _ => 0)
        case atStart => exact ⟨rfl, HS5.out⟩
        case round =>
          clear HS5
          obtain ⟨rfl, hs⟩ := hrel
          have hown := hs.own
          by_cases hlt2 : 0 < n1
          · obtain ⟨ab, ao, hA1, hcell⟩ := HZ1.out.at_ hown hlt2
            subst hA1
            have hc0 := hcell 0 _ rfl
            have hc1 := hcell 1 _ rfl
            have hc2 := hcell 2 _ rfl
            have hw0 := wf16 (HZ1.out.wf hlt2 0 .u16 rfl)
            have hw1 := wf16 (HZ1.out.wf hlt2 1 .u16 rfl)
            have hw2 := wf16 (HZ1.out.wf hlt2 2 .u16 rfl)
            simp at hc0 hc1 hc2
            obtain ⟨d0, h0⟩ : ∃ d, D1 0 0 = d := ⟨_, rfl⟩
            obtain ⟨d1, h1⟩ : ∃ d, D1 0 1 = d := ⟨_, rfl⟩
            obtain ⟨d2, h2⟩ : ∃ d, D1 0 2 = d := ⟨_, rfl⟩
            rw [h0] at hc0 hw0
            rw [h1] at hc1 hw1
            rw [h2] at hc2 hw2
            have hltI : (0 : Int) < (n1 : Int) := by omega
            obtain ⟨T5, hT5⟩ : ∃ T5, wr.heap.size = T5 := ⟨_, rfl⟩
            have hsb := hs.box #[.int .u16 d0, .int .u16 d1, .int .u16 d2] 76
            have HSF := Lib.hid hsb.tail
            clear hs hsb hcell h0 h1 h2 hown
            gi_wp2
            gi_loopw [95] (fun i wr => i = .int .i64 0 ∧ Sep w0 wr (arenaR a A :: rowR 35 1 (.slice AA 0 cap) 0 (nums ([] : List Nat)) :: blkR T 25 #[.slice A0 0 c0, .slice (some ⟨ab, ao, none⟩) n1 c1] :: blkR TM 29 #[.map (some mb)] :: adjR Try.prog 35 35 mb (fun _ => []) :: L)) (fun _ _ => 0)
            case atStart => exact ⟨rfl, HSF.out⟩
            case round =>
              clear HSF
              obtain ⟨rfl, hs⟩ := hrel
              have y0 := (hs.blk 3 rfl).cell 0
              simp only [List.getElem?_toArray, List.getElem?_cons_zero] at y0
              have HSF := Lib.hid hs
              clear hs
              gi_wp2
              refine regionIn_sep HSF.out (by kernel_rfl) (by kernel_rfl) ?_
              intro hne0
              have yy : ∀ x : SepW w0 (arenaR a A :: rowR 35 1 (.slice AA 0 cap) 0 (nums ([] : List Nat)) :: blkR T 25 #[.slice A0 0 c0, .slice (some ⟨ab, ao, none⟩) n1 c1] :: blkR TM 29 #[.map (some mb)] :: adjR Try.prog 35 35 mb (fun _ => []) :: L), x.w'.cell? ⟨TM, 0, none⟩ = some (.map (some mb)) := fun x => by
                have := (x.h.blk 3 rfl).cell 0
                simpa using this
              repeat (gi_big_quiet_step (fail))
              refine wpQuietIn_nil ?_
              rintro wq ⟨⟨wqx, hs⟩, rfl⟩
              clear yy hne0
              gi_wp2
              refine leavesM (L := arenaR a A :: rowR 35 1 (.slice AA 0 cap) 0 (nums ([] : List Nat)) :: blkR T 25 #[.slice A0 0 c0, .slice (some ⟨ab, ao, none⟩) n1 c1] :: blkR TM 29 #[.map (some mb)] :: adjR Try.prog 35 35 mb (fun _ => []) :: L) (fun w' hs => ⟨_, results_tmp3 rfl _ _ _, a, mb, _, A, ([] : List Nat), fs, rfl, HGR.out, rfl, lens_nil _ _, ?_⟩) [] _ hs.noMarks
              have e : ptsOf fs = fun _ => [] := funext fun x => HGR.out.ptsOut (by simp)
              rw [e]
              exact ((hs.front 5 [0, 1, 4, 2, 3]).perm (show _ from (perm_mid [_, _, _] [_, _] L))).right
          · have hltI : ¬ (0 : Int) < (n1 : Int) := by omega
            have HSF := Lib.hid hs
            clear hs hown
            gi_wp2
            gi_loopw [95] (fun i wr => i = .int .i64 0 ∧ Sep w0 wr (arenaR a A :: rowR 35 1 (.slice AA 0 cap) 0 (nums ([] : List Nat)) :: blkR T 25 #[.slice A0 0 c0, .slice A1 n1 c1] :: blkR TM 29 #[.map (some mb)] :: adjR Try.prog 35 35 mb (fun _ => []) :: L)) (fun _ _ => 0)
            case atStart => exact ⟨rfl, HSF.out⟩
            case round =>
              clear HSF
              obtain ⟨rfl, hs⟩ := hrel
              have y0 := (hs.blk 3 rfl).cell 0
              simp only [List.getElem?_toArray, List.getElem?_cons_zero] at y0
              have HSF := Lib.hid hs
              clear hs
              gi_wp2
              refine regionIn_sep HSF.out (by kernel_rfl) (by kernel_rfl) ?_
              intro hne0
              have yy : ∀ x : SepW w0 (arenaR a A :: rowR 35 1 (.slice AA 0 cap) 0 (nums ([] : List Nat)) :: blkR T 25 #[.slice A0 0 c0, .slice A1 n1 c1] :: blkR TM 29 #[.map (some mb)] :: adjR Try.prog 35 35 mb (fun _ => []) :: L), x.w'.cell? ⟨TM, 0, none⟩ = some (.map (some mb)) := fun x => by
                have := (x.h.blk 3 rfl).cell 0
                simpa using this
              repeat (gi_big_quiet_step (fail))
              refine wpQuietIn_nil ?_
              rintro wq ⟨⟨wqx, hs⟩, rfl⟩
              clear yy hne0
              gi_wp2
              refine leavesM (L := arenaR a A :: rowR 35 1 (.slice AA 0 cap) 0 (nums ([] : List Nat)) :: blkR T 25 #[.slice A0 0 c0, .slice A1 n1 c1] :: blkR TM 29 #[.map (some mb)] :: adjR Try.prog 35 35 mb (fun _ => []) :: L) (fun w' hs => ⟨_, results_tmp3 rfl _ _ _, a, mb, _, A, ([] : List Nat), fs, rfl, HGR.out, rfl, lens_nil _ _, ?_⟩) [] _ hs.noMarks
              have e : ptsOf fs = fun _ => [] := funext fun x => HGR.out.ptsOut (by simp)
              rw [e]
              exact ((hs.front 5 [0, 1, 4, 2, 3]).perm (show _ from (perm_mid [_, _, _] [_, _] L))).right
      obtain ⟨g, cap', hsl, _, _⟩ := HS5.out.rowSome 1 rfl hkp
      simp only [Value.slice.injEq] at hsl
      obtain ⟨rfl, _, rfl⟩ := hsl
      have hkb : ((n0 : Int) == 0) = false := by simp; omega
      have hkz : ¬ (n0 : Int) = 0 := by omega
      gi_loopw [53] (fun i wr => ∃ (q : Nat) (A : AR) (fs : Nat → List Nat), q ≤ n1 ∧ i = .int .i64 q ∧ Gr A rs fs ∧ Lens D0 rs fs ∧ Sep w0 wr (arenaR a A :: rowR 35 1 (.slice (some ⟨g, 0, none⟩) n0 cap) n0 (nums rs) :: blkR T 25 #[.slice A0 n0 c0, .slice A1 n1 c1] :: blkR TM 29 #[.map (some mb)] :: adjR Try.prog 35 35 mb (fun _ => []) :: L)) (fun i _ => n1 + 1 - (intOf i).toNat)
      case atStart => exact ⟨0, A, fs, by omega, rfl, HGR.out, HLE.out, HS5.out⟩
      case round =>
        clear HS5 HGR HLE
        obtain ⟨q, A, fs, hq, rfl, hgr, hle, hs⟩ := hrel
        have HLE := Lib.hid hle
        have hown := hs.own
        have HGR := Lib.hid hgr
        by_cases hlt2 : q < n1
        · obtain ⟨ab, ao, hA1, hcell⟩ := HZ1.out.at_ hown hlt2
          subst hA1
          have hc0 := hcell 0 _ rfl
          have hc1 := hcell 1 _ rfl
          have hc2 := hcell 2 _ rfl
          have hw0 := wf16 (HZ1.out.wf hlt2 0 .u16 rfl)
          have hw1 := wf16 (HZ1.out.wf hlt2 1 .u16 rfl)
          have hw2 := wf16 (HZ1.out.wf hlt2 2 .u16 rfl)
          simp at hc0 hc1 hc2
          obtain ⟨d0, h0⟩ : ∃ d, D1 q 0 = d := ⟨_, rfl⟩
          obtain ⟨d1, h1⟩ : ∃ d, D1 q 1 = d := ⟨_, rfl⟩
          obtain ⟨d2, h2⟩ : ∃ d, D1 q 2 = d := ⟨_, rfl⟩
          rw [h0] at hc0 hw0
          rw [h1] at hc1 hw1
          rw [h2] at hc2 hw2
          have hltI : (q : Int) < (n1 : Int) := by omega
          clear hcell h0 h1 h2 hgr hown hle
          obtain ⟨K1, um, ul⟩ : ∃ K1 : Nat, d0.tmod (n0 : Int) = (K1 : Int) ∧ K1 < n0 := by
            have h1 := Int.emod_nonneg d0 (show (n0 : Int) ≠ 0 by omega)
            have h2 := Int.emod_lt_of_pos d0 (show (0 : Int) < (n0 : Int) by omega)
            refine ⟨(d0 % (n0 : Int)).toNat, ?_, by omega⟩
            rw [Int.tmod_eq_emod_of_nonneg (by omega)]
            omega
          have uI : (K1 : Int) < (n0 : Int) := by omega
          have u0 : (0 : Int) ≤ (K1 : Int) := by omega
          obtain ⟨K2, vm, vl⟩ : ∃ K2 : Nat, d1.tmod (n0 : Int) = (K2 : Int) ∧ K2 < n0 := by
            have h1 := Int.emod_nonneg d1 (show (n0 : Int) ≠ 0 by omega)
            have h2 := Int.emod_lt_of_pos d1 (show (0 : Int) < (n0 : Int) by omega)
            refine ⟨(d1 % (n0 : Int)).toNat, ?_, by omega⟩
            rw [Int.tmod_eq_emod_of_nonneg (by omega)]
            omega
          have vI : (K2 : Int) < (n0 : Int) := by omega
          have v0 : (0 : Int) ≤ (K2 : Int) := by omega
          obtain ⟨rx, hx⟩ : ∃ x, rs[K1]? = some x := ⟨_, List.getElem?_eq_getElem (by rw [HLN.out]; exact ul)⟩
          obtain ⟨ry, hy⟩ : ∃ x, rs[K2]? = some x := ⟨_, List.getElem?_eq_getElem (by rw [HLN.out]; exact vl)⟩
          have HX := Lib.hid hx
          have HY := Lib.hid hy
          obtain ⟨T5, hT5⟩ : ∃ T5, wr.heap.size = T5 := ⟨_, rfl⟩
          have hsb := hs.box #[.int .u16 d0, .int .u16 d1, .int .u16 d2] 76
          rw [hT5] at hsb
          have HSB := Lib.hid hsb
          clear hs hsb hx hy
          gi_wp2
          refine regionIn_sep HSB.out (by kernel_rfl) (by kernel_rfl) ?_
          intro hne0
          have yz0 : ∀ x : SepW w0 (blkR T5 76 #[.int .u16 d0, .int .u16 d1, .int .u16 d2] :: arenaR a A :: rowR 35 1 (.slice (some ⟨g, 0, none⟩) n0 cap) n0 (nums rs) :: blkR T 25 #[.slice A0 n0 c0, .slice (some ⟨ab, ao, none⟩) n1 c1] :: blkR TM 29 #[.map (some mb)] :: adjR Try.prog 35 35 mb (fun _ => []) :: L), x.w'.cell? ⟨T5, 0, none⟩ = some (.int .u16 d0) := fun x => by
            have := (x.h.blk 0 rfl).cell 0
            simpa using this
          have yz1 : ∀ x : SepW w0 (blkR T5 76 #[.int .u16 d0, .int .u16 d1, .int .u16 d2] :: arenaR a A :: rowR 35 1 (.slice (some ⟨g, 0, none⟩) n0 cap) n0 (nums rs) :: blkR T 25 #[.slice A0 n0 c0, .slice (some ⟨ab, ao, none⟩) n1 c1] :: blkR TM 29 #[.map (some mb)] :: adjR Try.prog 35 35 mb (fun _ => []) :: L), x.w'.cell? ⟨T5, 1, none⟩ = some (.int .u16 d1) := fun x => by
            have := (x.h.blk 0 rfl).cell 1
            simpa using this
          have yx : ∀ x : SepW w0 (blkR T5 76 #[.int .u16 d0, .int .u16 d1, .int .u16 d2] :: arenaR a A :: rowR 35 1 (.slice (some ⟨g, 0, none⟩) n0 cap) n0 (nums rs) :: blkR T 25 #[.slice A0 n0 c0, .slice (some ⟨ab, ao, none⟩) n1 c1] :: blkR TM 29 #[.map (some mb)] :: adjR Try.prog 35 35 mb (fun _ => []) :: L), x.w'.cell? ⟨g, K1, none⟩ = some (.int .i64 (rx : Int)) := fun x => x.h.rowCell 2 rfl K1 _ (nums_get _ _ _ HX.out)
          have yy : ∀ x : SepW w0 (blkR T5 76 #[.int .u16 d0, .int .u16 d1, .int .u16 d2] :: arenaR a A :: rowR 35 1 (.slice (some ⟨g, 0, none⟩) n0 cap) n0 (nums rs) :: blkR T 25 #[.slice A0 n0 c0, .slice (some ⟨ab, ao, none⟩) n1 c1] :: blkR TM 29 #[.map (some mb)] :: adjR Try.prog 35 35 mb (fun _ => []) :: L), x.w'.cell? ⟨g, K2, none⟩ = some (.int .i64 (ry : Int)) := fun x => x.h.rowCell 2 rfl K2 _ (nums_get _ _ _ HY.out)
          repeat (gi_big_quiet_step (fail))
          refine wpQuietIn_nil ?_
          rintro wq ⟨⟨wqx, hs⟩, rfl⟩
          clear yz0 yz1 yx yy hne0
          have hxr : rx ∈ rs := List.mem_of_getElem? HX.out
          have hyr : ry ∈ rs := List.mem_of_getElem? HY.out
          have HSQ := Lib.hid hs
          have HC := Lib.hid (HFields hs 1 rfl HGR.out.heap hxr)
          clear hs HSB hT5
          obtain ⟨Fn, hFn⟩ : ∃ Fn, (fs rx).length = Fn := ⟨_, rfl⟩
          have HFN := Lib.hid hFn
          have hF6 : Fn ≤ 6 := by rw [← hFn]; exact (ptsOf_len HGR.out.heap hxr).2
          clear hFn
          by_cases hF0 : Fn = 0
          · have hFI : ¬ (0 : Int) < (Fn : Int) := by omega
            gi_wp2_with (gi_at_call 53; refine (calls_in (HC.out)).mono ?_; rw [HFN.out]; rintro e w5 ⟨rfl, hs⟩; have HS7 := Lib.hid hs.tail; clear hs HC)
            go_roundw
            case rel => exact ⟨q + 1, A, fs, hlt2, by go_num, HGR.out, HLE.out, HS7.out⟩
            case measure => simp [intOf]; omega
          · have hFI : (0 : Int) < (Fn : Int) := by omega
            have hFz : ¬ (Fn : Int) = 0 := by omega
            have hFb : ((Fn : Int) == 0) = false := by simp; omega
            obtain ⟨J, tm, tl⟩ : ∃ J : Nat, d2.tmod (Fn : Int) = (J : Int) ∧ J < Fn := by
              have h1 := Int.emod_nonneg d2 (show (Fn : Int) ≠ 0 by omega)
              have h2 := Int.emod_lt_of_pos d2 (show (0 : Int) < (Fn : Int) by omega)
              refine ⟨(d2 % (Fn : Int)).toNat, ?_, by omega⟩
              rw [Int.tmod_eq_emod_of_nonneg (by omega)]
              omega
            have tI : (J : Int) < (Fn : Int) := by omega
            have t0 : (0 : Int) ≤ (J : Int) := by omega
            gi_wp2_with (first
              | (gi_at_call 53; refine (calls_in (HC.out)).mono ?_; rw [HFN.out]; rintro e w5 ⟨rfl, hs⟩; have o2 := (hs.blk 0 rfl).cell 2; simp only [List.getElem?_toArray, List.getElem?_cons_zero, List.getElem?_cons_succ] at o2; have HC2 := Lib.hid (HSetField hs 1 rfl HGR.out.heap hxr J ry (by rw [HFN.out]; exact tl) (.inr hyr)); clear hs HC)
              | (gi_at_call 54; refine (calls_in (HC2.out)).mono ?_; rintro e w6 ⟨A2, rfl, hs, hS, hH⟩; have HS7 := Lib.hid hs.tail; have HST := Lib.hid hS; have HH2 := Lib.hid hH; clear hs hS hH HC2))
            go_roundw
            case rel => exact ⟨q + 1, A2, _, hlt2, by go_num, HGR.out.store hxr HST.out HH2.out, HLE.out.store _ _ _, HS7.out⟩
            case measure => simp [intOf]; omega
        · obtain rfl : n1 = q := by omega
          have HSM := Lib.hid (show Sep w0 wr (marksR [] :: arenaR a A :: rowR 35 1 (.slice (some ⟨g, 0, none⟩) n0 cap) n0 (nums rs) :: blkR T 25 #[.slice A0 n0 c0, .slice A1 n1 c1] :: blkR TM 29 #[.map (some mb)] :: adjR Try.prog 35 35 mb (seen rs fs 0) :: L) from by
            rw [seen_none]
            exact hs.noMarks)
          have HGR := Lib.hid hgr
          clear hs hgr hle
          gi_wp2
          refine wpIn_loopM (Ds := []) [18, 19, 95, 96, 97, 98, 99, 100, 101, 103, 104, 105, 106, 107, 108, 109, 110, 111] (fun v Ds wr => ∃ q : Nat, q ≤ n0 ∧ v 95 = .int .i64 q ∧ Sep w0 wr (marksR Ds :: arenaR a A :: rowR 35 1 (.slice (some ⟨g, 0, none⟩) n0 cap) n0 (nums rs) :: blkR T 25 #[.slice A0 n0 c0, .slice A1 n1 c1] :: blkR TM 29 #[.map (some mb)] :: adjR Try.prog 35 35 mb (seen rs fs q) :: L)) (fun v _ => n0 + 1 - (intOf (v 95)).toNat) ⟨0, by omega, rfl, HSM.out⟩ (by kernel_rfl) ?_
          clear HSM
          rintro v Ds wr ⟨q, hq3, hv, hs⟩
          simp only [setS, List.foldl_cons, List.foldl_nil, List.setIfInBounds_toArray, List.set_cons_succ, List.set_cons_zero]
          simp only [hv]
          by_cases hlt3 : q < n0
          · have hltI : (q : Int) < (n0 : Int) := by omega
            obtain ⟨rx, hx⟩ : ∃ x, rs[q]? = some x := ⟨_, List.getElem?_eq_getElem (by rw [HLN.out]; exact hlt3)⟩
            have cc0 := hs.rowCell 2 rfl q _ (nums_get _ _ _ hx)
            obtain ⟨T8, hT8⟩ : ∃ T8, wr.heap.size = T8 := ⟨_, rfl⟩
            have hsb := hs.box #[.int .i64 (rx : Int)] 35
            rw [hT8] at hsb
            have y0 := (hsb.blk 0 rfl).cell 0
            simp only [List.getElem?_toArray, List.getElem?_cons_zero] at y0
            have HX := Lib.hid hx
            have hxr : rx ∈ rs := List.mem_of_getElem? hx
            have HC := Lib.hid (CPoints hsb a (rx : Int))
            clear hs hsb hx
            gi_wp2_with (gi_at_call 55; refine (calls_in (HC.out)).mono ?_; rintro e w4 ⟨rfl, hs⟩; try simp only [World.size_alloc, hT8] at hs; have HS4 := Lib.hid hs; clear hs HC)
            try simp only [World.size_alloc, hT8]
            obtain ⟨P2, hP2⟩ : ∃ P, T8 + 1 = P := ⟨_, rfl⟩
            have hs9 := HS4.out
            simp only [hP2] at hs9 ⊢
            have hnew := seen_new HGR.out.nodup HX.out fs
            have HS9 := Lib.hid (show Sep w0 w4 ([blkR P2 27 #[.pointer (some ⟨a, 0, none⟩)], blkR (P2 + 1) 35 #[.int .i64 (rx : Int)], arenaR a A] ++ (marksR Ds :: blkR T8 35 #[.int .i64 (rx : Int)] :: rowR 35 1 (.slice (some ⟨g, 0, none⟩) n0 cap) n0 (nums rs) :: blkR T 25 #[.slice A0 n0 c0, .slice A1 n1 c1] :: blkR TM 29 #[.map (some mb)] :: adjR Try.prog 35 35 mb (updT (seen rs fs q) rx []) :: L)) from by
              rw [hnew]
              exact hs9.front 6 [1, 0, 4, 3, 2, 5])
            clear hs9 HS4 cc0 y0 hnew hT8 hP2
            refine wp_rangeM (gf := 86) (lb := #[.pointer (some ⟨P2, 0, none⟩), .pointer (some ⟨P2 + 1, 0, none⟩)]) rfl (enters_of Try.func86 (by kernel_rfl) rfl) (hpoints_iter P2 (P2 + 1) a HGR.out.heap hxr) (fun _ => rfl) HS9.out
              (fun pre Rs => Rs = blkR T8 35 #[.int .i64 (rx : Int)] :: rowR 35 1 (.slice (some ⟨g, 0, none⟩) n0 cap) n0 (nums rs) :: blkR T 25 #[.slice A0 n0 c0, .slice A1 n1 c1] :: blkR TM 29 #[.map (some mb)] :: adjR Try.prog 35 35 mb (updT (seen rs fs q) rx pre) :: L) (fun _ _ _ => False) rfl ?round ?done ?stop
            case stop => rintro _ _ _ _ _ _ h; exact h.elim
            case round =>
              rintro l1 pre y _ G V1 r1 hpre rfl hS1
              simp only [List.cons_append, List.nil_append] at hS1
              have hrx4 := (HGR.out.heap.pos hxr).2
              have hpl : pre.length < 6 := by
                have h1 := hpre.length_le
                have h2 := (ptsOf_len HGR.out.heap hxr).1
                rw [List.length_append] at h1
                simp at h1
                omega
              have HS1 := Lib.hid hS1
              clear hpre hS1 HS9
              gi_wp2
              refine ⟨[], HS1.out, ?_⟩
              intro r' V2 hS2
              simp only [List.cons_append, List.nil_append] at hS2
              clear HS1
              obtain ⟨cnt, M, OO, hhole, hS3⟩ := adj_out (show Sep w0 V2 (adjR Try.prog 35 35 mb (updT (seen rs fs q) rx pre) :: blkR P2 27 #[.pointer (some ⟨a, 0, none⟩)] :: blkR (P2 + 1) 35 #[.int .i64 (rx : Int)] :: arenaR a A :: objR l1 (.loop r') :: blkR T8 35 #[.int .i64 (rx : Int)] :: rowR 35 1 (.slice (some ⟨g, 0, none⟩) n0 cap) n0 (nums rs) :: blkR T 25 #[.slice A0 n0 c0, .slice A1 n1 c1] :: blkR TM 29 #[.map (some mb)] :: (L ++ G)) from hS2.front 9 [8]) rx (by omega)
              have hTx : updT (seen rs fs q) rx pre rx = pre := by simp [updT]
              rw [hTx] at hS3
              obtain ⟨V3, hV3⟩ : ∃ V3, V2.drew = V3 := ⟨_, rfl⟩
              have hS4 := hS3.drew
              rw [hV3] at hS4
              have hlk := gmap_get keyRef Try.underlying29 (zeroRow _) hS4 0 rfl (keyOfRef (x := rx) (by omega))
              obtain ⟨vv, hvv⟩ : ∃ vv, (M (litR rx)).getD (.slice none 0 0) = vv := ⟨_, rfl⟩
              rw [hvv] at hlk hS4
              have y0 := (hS4.blk 7 rfl).cell 0
              have y1 := (hS4.blk 10 rfl).cell 0
              simp only [List.getElem?_toArray, List.getElem?_cons_zero] at y0 y1
              obtain ⟨Pn, hPn⟩ : ∃ Pn, pre.length = Pn := ⟨_, rfl⟩
              rw [hPn] at hS4 hpl
              have HH := Lib.hid hhole
              have HVV := Lib.hid hvv
              have HPN := Lib.hid hPn
              have HS4 := Lib.hid hS4
              clear hS2 hS3 hS4 hTx hhole hPn
              clear hvv
              have hro : Try.prog.follows .mixedOrders = true := by kernel_rfl
              gi_wp2
              refine calm ?_
              have hro : Try.prog.follows .mixedOrders = true := by kernel_rfl
              refine wpIn_region_float (fun W => W.cell? ⟨T8, 0, none⟩ = some (.int .i64 (rx : Int)) ∧ W.cell? ⟨TM, 0, none⟩ = some (.map (some mb))) hro (by kernel_rfl) (fun _ _ h => h) ?_
              rw [hV3]
              clear hV3
              refine wpAnyC_take (i := 0) (v := ?v0) rfl (by kernel_rfl) (by kernel_rfl) (by kernel_rfl) (fun _ _ _ h => h) (.inl ⟨?w0, ?y0⟩) ?h0
              case w0 => rfl
              case y0 =>
                intro W hf
                obtain ⟨hf1, hf2⟩ := hf
                unfold yieldsAt
                go_simp
                first | rfl | exact ⟨rfl, rfl⟩
              refine wpAnyC_take (i := 1) (v := ?v1) rfl (by kernel_rfl) (by kernel_rfl) (by kernel_rfl) (fun _ _ _ h => h) (.inl ⟨?w1, ?y1⟩) ?h1
              case w1 => rfl
              case y1 =>
                intro W hf
                obtain ⟨hf1, hf2⟩ := hf
                unfold yieldsAt
                go_simp
                first | rfl | exact ⟨rfl, rfl⟩
              refine wpAnyC_take (i := 2) (v := ?v2) rfl (by kernel_rfl) (by kernel_rfl) (by kernel_rfl) (fun _ _ _ h => h) (.inl ⟨?w2, ?y2⟩) ?h2
              case w2 => rfl
              case y2 =>
                intro W hf
                obtain ⟨hf1, hf2⟩ := hf
                unfold yieldsAt
                go_simp
                first | rfl | exact ⟨rfl, rfl⟩
              refine wpAnyC_take (i := 3) (v := ?v3) rfl (by kernel_rfl) (by kernel_rfl) (by kernel_rfl) (fun _ _ _ h => h) (.inl ⟨?w3, ?y3⟩) ?h3
              case w3 => rfl
              case y3 =>
                intro W hf
                obtain ⟨hf1, hf2⟩ := hf
                unfold yieldsAt
                go_simp
                first | rfl | exact ⟨rfl, rfl⟩
              refine wpAnyC_take (i := 5) (v := ?v5) rfl (by kernel_rfl) (by kernel_rfl) (by kernel_rfl) (fun _ _ _ h => h) (.inl ⟨?w5, ?y5⟩) ?h5
              case w5 => rfl
              case y5 =>
                intro W hf
                obtain ⟨hf1, hf2⟩ := hf
                unfold yieldsAt
                go_simp
                first | rfl | exact ⟨rfl, rfl⟩
              have hS5 := HS4.out.box #[.int .i64 (y : Int)] 35
              have hlk2 := gmap_get keyRef Try.underlying29 (zeroRow _) hS5 1 rfl (keyOfRef (x := rx) (by omega))
              rw [HVV.out] at hlk2
              have z0 := (hS5.blk 8 rfl).cell 0
              have z1 := (hS5.blk 11 rfl).cell 0
              have zz := (hS5.blk 0 rfl).cell 0
              simp only [List.getElem?_toArray, List.getElem?_cons_zero] at z0 z1 zz
              obtain ⟨v9, w9, hrun, hs9⟩ := hS5.append_some (P := Try.prog) (t := 28) (ad := ⟨V3.heap.size, 0, none⟩) (m := 1) (c := 1) (us := [.int .i64 (y : Int)]) 28 Try.underlying28 refInfo rfl (by decide) 2 rfl rfl (by
                intro j u hj
                match j, hj with
                | 0, hj =>
                  simp at hj
                  subst hj
                  simp [Addr.add]) (by simp [Value.oneCell']) (by unfold maxLen; omega) (by omega)
              have x0 := (hs9.blk 8 rfl).cell 0
              have x1 := (hs9.blk 11 rfl).cell 0
              simp only [List.getElem?_toArray, List.getElem?_cons_zero] at x0 x1
              obtain ⟨w10, hput, hs10⟩ := gmap_put keyRef Try.underlying29 hs9 1 rfl (by have := HH.out.few; unfold maxLen; omega) (keyOfRef (x := rx) (by omega)) v9
              have X0 := (hs10.blk 8 rfl).cell 0
              have X1 := (hs10.blk 11 rfl).cell 0
              simp only [List.getElem?_toArray, List.getElem?_cons_zero] at X0 X1
              have HRUN := Lib.hid hrun
              have HPUT := Lib.hid hput
              have HS10 := Lib.hid hs10
              clear hS5 zz hrun hput hs10 hs9 HS4
              refine wpAnyC_two (i := 4) (j := 6) rfl rfl (by kernel_rfl) ⟨y0, y1⟩ rfl rfl ?_ ?_
              · intro K hK
                go_simp
                refine hK _ _ ?_
                refine wpAnyC_one (i := 6) rfl (by kernel_rfl) ⟨y0, y1⟩ rfl ?_
                intro K hK
                go_simp
                refine hK _ _ ?_
                refine wpAnyC_one (i := 7) rfl (by kernel_rfl) ⟨z0, z1⟩ rfl ?_
                intro K hK
                refine wp_append_run _ _ _ rfl rfl rfl HRUN.out (hK _ _ ?_)
                refine wpAnyC_one (i := 8) rfl (by kernel_rfl) ⟨x0, x1⟩ rfl ?_
                intro K hK
                refine wp_mapUpdate_run _ _ _ _ rfl rfl rfl rfl HPUT.out (hK _ _ ?_)
                refine wpAnyC_done (by kernel_rfl) ⟨X0, X1⟩ ?_ _
                refine ⟨_, rfl, ?_⟩
                have h11 := HS10.out.tail
                have hvv1 := HVV.out
                have h12 := HH.out.back w0 w10 _ v9 (pre ++ [y]) (by
                  rw [nums_append, List.length_append, HPN.out]
                  exact h11)
                rw [updT_twice] at h12
                exact h12.front 9 [1, 2, 3, 4, 5, 6, 7, 8, 0]
              · intro K hK
                go_simp
                refine hK _ _ ?_
                refine wpAnyC_one (i := 4) rfl (by kernel_rfl) ⟨z0, z1⟩ rfl ?_
                intro K hK
                go_simp
                refine hK _ _ ?_
                refine wpAnyC_one (i := 7) rfl (by kernel_rfl) ⟨z0, z1⟩ rfl ?_
                intro K hK
                refine wp_append_run _ _ _ rfl rfl rfl HRUN.out (hK _ _ ?_)
                refine wpAnyC_one (i := 8) rfl (by kernel_rfl) ⟨x0, x1⟩ rfl ?_
                intro K hK
                refine wp_mapUpdate_run _ _ _ _ rfl rfl rfl rfl HPUT.out (hK _ _ ?_)
                refine wpAnyC_done (by kernel_rfl) ⟨X0, X1⟩ ?_ _
                refine ⟨_, rfl, ?_⟩
                have h11 := HS10.out.tail
                have hvv1 := HVV.out
                have h12 := HH.out.back w0 w10 _ v9 (pre ++ [y]) (by
                  rw [nums_append, List.length_append, HPN.out]
                  exact h11)
                rw [updT_twice] at h12
                exact h12.front 9 [1, 2, 3, 4, 5, 6, 7, 8, 0]
            rintro Ds2 _ V hR hS
            subst hR
            simp only [List.cons_append, List.nil_append] at hS
            have hnx := seen_next HGR.out.nodup HX.out fs
            rw [hnx] at hS
            have HSD := Lib.hid hS
            clear hS HS9 hnx
            gi_wp2
            refine ⟨Ds2, rfl, by kernel_rfl, ⟨q + 1, hlt3, rfl, ?_⟩, ?_⟩
            · exact (HSD.out.front 9 [0, 1, 4, 3, 2, 5, 6, 7, 8]).tail.tail.tail
            · show n0 + 1 - (intOf (.int .i64 ((q : Int) + 1))).toNat < n0 + 1 - (intOf (.int .i64 (q : Int))).toNat
              simp [intOf]
              omega
          · obtain rfl : n0 = q := by omega
            have hall := seen_all HGR.out HLN.out
            rw [hall] at hs
            have HSF := Lib.hid hs
            clear hs hall
            gi_wp2
            refine regionIn_sep HSF.out (by kernel_rfl) (by kernel_rfl) ?_
            intro hne0
            have yy : ∀ x : SepW w0 (marksR Ds :: arenaR a A :: rowR 35 1 (.slice (some ⟨g, 0, none⟩) n0 cap) n0 (nums rs) :: blkR T 25 #[.slice A0 n0 c0, .slice A1 n1 c1] :: blkR TM 29 #[.map (some mb)] :: adjR Try.prog 35 35 mb (ptsOf fs) :: L), x.w'.cell? ⟨TM, 0, none⟩ = some (.map (some mb)) := fun x => by
              have := (x.h.blk 4 rfl).cell 0
              simpa using this
            repeat (gi_big_quiet_step (fail))
            refine wpQuietIn_nil ?_
            rintro wq ⟨⟨wqx, hs⟩, rfl⟩
            clear yy hne0
            gi_wp2
            refine leavesM (L := arenaR a A :: rowR 35 1 (.slice (some ⟨g, 0, none⟩) n0 cap) n0 (nums rs) :: blkR T 25 #[.slice A0 n0 c0, .slice A1 n1 c1] :: blkR TM 29 #[.map (some mb)] :: adjR Try.prog 35 35 mb (ptsOf fs) :: L) (fun w' hs => ⟨_, results_tmp3 rfl _ _ _, a, mb, _, A, rs, fs, rfl, HGR.out, HLN.out, HLE.out, ?_⟩) Ds _ hs
            rw [HLN.out]
            exact (hs.front 5 [2, 3, 0, 1, 4]).tail.tail
theorem Made11 (A0 : Option Addr) (n0 c0 : Nat) (D0 : Nat → Nat → Int) (A1 : Option Addr) (n1 c1 : Nat) (D1 : Nat → Nat → Int) (hz0 : ArgI w0 A0 n0 [.u8] D0) (hz1 : ArgI w0 A1 n1 [.u16, .u16, .u16] D1) (hn0 : n0 ≤ 40) (hn1 : n1 ≤ 120) (S : Sep w0 w L) :
    Calls Try.prog 14 #[.agg #[.slice A0 n0 c0, .slice A1 n1 c1]] w fun e w' => ∃ (a b : Nat) (v : Value) (A : AR) (rs : List Nat) (fs : Nat → List Nat),
      e = .returned (.tuple #[.pointer (some ⟨a, 0, none⟩), v, .map (some b)]) ∧ Gr A rs fs ∧ rs.length = n0 ∧ Sep w0 w' (arenaR a A :: rowR 35 1 v rs.length (nums rs) :: adjR Try.prog 35 35 b (ptsOf fs) :: L) :=
  (Made11L A0 n0 c0 D0 A1 n1 c1 D1 hz0 hz1 hn0 hn1 S).mono (fun e w' ⟨a, b, v, A, rs, fs, h1, h2, h3, _, h4⟩ => ⟨a, b, v, A, rs, fs, h1, h2, h3, h4⟩)
end
end Go.Proofs.Ytbcabjpafeocgaa

/-
  The marker (layer 11): all are white again. Conditions: as each contract says.
-/
namespace Go.Proofs.Ytbcabjpafeocgaa
set_option linter.unusedVariables false
set_option linter.unusedSimpArgs false
open Go.RowKit Go.Shelf

/-- All are white. -/
def Col.white : Col := ⟨fun _ => false, fun _ => false⟩

section
variable {w0 w : World} {L : List Res} {i m a n : Nat} {C : Col}
theorem grey_white {room : Nat} : Grey Col.white [] room false := by
  constructor <;> simp [Col.white, Col.grey]
theorem ok_white {o : Own3} (ho : MarkOk n o C) : MarkOk n { o with gs := [], over := false } Col.white :=
  ⟨grey_white, ho.room, ho.few, by simp, by simp [Col.white], by simp [Col.white], ho.size⟩
end
end Go.Proofs.Ytbcabjpafeocgaa

/-
  The marker's iterator over what is marked (layer 11). Conditions: as the theorem says.
-/
namespace Go.Proofs.Ytbcabjpafeocgaa
set_option linter.unusedVariables false
set_option linter.unusedSimpArgs false
open Go.RowKit Go.Shelf
attribute [local go_sem] Oper.semAt_some wide_fn round_fn wide_depth round_depth
attribute [local simp] wide_fn round_fn wide_depth round_depth

section
variable {w0 w : World} {L : List Res}
end

end Go.Proofs.Ytbcabjpafeocgaa

/-
  The return of a function whose result lies in a box. Conditions: as each theorem says.
-/
namespace Go.Proofs.Ytbcabjpafeocgaa
set_option linter.unusedVariables false
set_option linter.unusedSimpArgs false
open Go.RowKit Go.Shelf

theorem results_bool {fn : Func} {s : Tmp} (h : fn.results = #[.cell s 4]) {tmps : Array Value} {w : World} {b : Nat} {x : Bool} (hp : tmps.getD s undef = .pointer (some ⟨b, 0, none⟩)) (hc : w.cell? ⟨b, 0, none⟩ = some (.bool x)) :
    (results fn tmps).run Try.prog w = .ok (.bool x) w := by
  have hp' : tmps[s]?.getD undef = .pointer (some ⟨b, 0, none⟩) := by simpa using hp
  simp [results, h, hp', go_sem, hc]

/-- The return of a function that held a loop over a function. -/
theorem leaves_box {fn : Func} {tmps : Array Value} {D : Nat} {w0 w : World} {L : List Res} {Rt : Ending → World → Prop} {s : Tmp} {b : Nat} {x : Bool} (S : Sep w0 w L) (i : Nat) (hi : L[i]? = some (objR D (.deferred (some [])))) (j : Nat) (hj : L[j]? = some (blkR b 4 #[.bool x])) (hne : i ≠ j)
    (h : fn.results = #[.cell s 4]) (hp : tmps.getD s undef = .pointer (some ⟨b, 0, none⟩)) (hR : ∀ w', Sep w0 w' (L.set i (objR D (.deferred none))) → Rt (.returned (.bool x)) w') :
    LeavesInM Fence.wide 0 Try.prog fn tmps Rt [{ target := .collected D, args := #[] }] .returning w := by
  have S' := S.putObj i hi (.deferred none)
  refine ⟨by simp, .inl ⟨D, _, rfl, run_takeDeferred (S.obj hi), ?_⟩⟩
  have hc := (S'.blk j (by rw [List.getElem?_set_ne hne]; exact hj)).cell 0
  simp only [List.getElem?_toArray, List.getElem?_cons_zero] at hc
  exact ⟨_, results_bool h hp hc, hR _ S'⟩
theorem leaves_box0 {fn : Func} {tmps : Array Value} {w0 w : World} {L : List Res} {Rt : Ending → World → Prop} {s : Tmp} {b : Nat} {x : Bool} (S : Sep w0 w L) (j : Nat) (hj : L[j]? = some (blkR b 4 #[.bool x]))
    (h : fn.results = #[.cell s 4]) (hp : tmps.getD s undef = .pointer (some ⟨b, 0, none⟩)) (hR : Rt (.returned (.bool x)) w) :
    LeavesInM Fence.wide 0 Try.prog fn tmps Rt [] .returning w := by
  have hc := (S.blk j hj).cell 0
  simp only [List.getElem?_toArray, List.getElem?_cons_zero] at hc
  exact ⟨_, results_bool h hp hc, hR⟩
end Go.Proofs.Ytbcabjpafeocgaa

/-
  The marker (layer 11): a new one; is an object grey; all grey ones onto the stack. Conditions: as each contract says.
-/
namespace Go.Proofs.Ytbcabjpafeocgaa
set_option linter.unusedVariables false
set_option linter.unusedSimpArgs false
open Go.RowKit Go.Shelf

section
variable {w0 w : World} {L : List Res} {m a n : Nat} {C : Col}

theorem KNew {A : AR} (S : Sep w0 w L) (i : Nat) (hi : L[i]? = some (arenaR a A)) (hn : A.size = (n : Int)) (hn5 : n ≤ 100000) (room : Int) (hroom : room ≤ 1000000) :
    Calls Try.prog 15 #[.pointer (some ⟨a, 0, none⟩), .int .i64 room] w fun e w' => ∃ m, e = .returned (.pointer (some ⟨m, 0, none⟩)) ∧ Sep w0 w' (markR m a n Col.white :: L) := by
  have HC0 := Lib.hid (TASize S i hi)
  have HN := Lib.hid hn
  have HS := Lib.hid S
  have HI := Lib.hid hi
  clear S hi hn
  go_enter Try.func15, Try.ntmps15
  go_wp2_with (first
    | (go_at_call 57; refine HC0.out.mono ?_; rw [HN.out]; rintro e w1 ⟨rfl, rfl⟩; have HC1 := Lib.hid (TSNew HS.out (n : Int) (by omega)); clear HC0)
    | (go_at_call 56; refine HC1.out.mono ?_; rintro e w2 ⟨rfl, hs⟩; have HC2 := Lib.hid (TASize hs (i + 1) (by simpa using HI.out)); have HS2 := Lib.hid hs; clear hs HC1)
    | (go_at_call 57; refine HC2.out.mono ?_; rw [HN.out]; rintro e w3 ⟨rfl, rfl⟩; have HC3 := Lib.hid (TSNew HS2.out (n : Int) (by omega)); clear HC2)
    | (go_at_call 56; refine HC3.out.mono ?_; rintro e w4 ⟨rfl, hs⟩; have HC4 := Lib.hid (TGNew hs); clear hs HC3)
    | (go_at_call 58; refine (HC4.out _).mono ?_; rintro e w5 ⟨b, rfl, hs⟩; have HS5 := Lib.hid hs; clear hs HC4))
  all_goals
    go_ret
    refine ⟨w5.heap.size, rfl, ?_⟩
    have h1 := HS5.out.box #[.pointer (some ⟨a, 0, none⟩), .pointer (some ⟨w.heap.size, 0, none⟩), .pointer (some ⟨w2.heap.size, 0, none⟩), .pointer (some ⟨b, 0, none⟩)] 85
    have h2 := h1.front 4 [0, 3, 2, 1]
    rw [show max (if room < 1 then (1 : Int) else room) 0 = ((max room 1).toNat : Int) by split <;> omega] at h2
    exact mark_shutHead (o := ⟨w.heap.size, w2.heap.size, b, [], (max room 1).toNat, false⟩) ⟨grey_white, by show 1 ≤ (max room 1).toNat; omega, by show (max room 1).toNat ≤ _; omega, by simp, by simp [Col.white], by simp [Col.white], hn5⟩ h2

theorem PMarked (S : Sep w0 w L) (i j : Nat) {b1 b2 b3 : Nat} {Z : Nat → Bool} (hi : L[i]? = some (blkR m 85 #[.pointer (some ⟨a, 0, none⟩), .pointer (some ⟨b1, 0, none⟩), .pointer (some ⟨b2, 0, none⟩), .pointer (some ⟨b3, 0, none⟩)])) (hj : L[j]? = some (setR b1 (n : Int) Z)) (hn : n ≤ 100000) (r : Nat) (hr : r < n) :
    Calls Try.prog 32 #[.pointer (some ⟨m, 0, none⟩), .int .i64 (r : Int)] w fun e w' => e = .returned (.bool (Z r)) ∧ Sep w0 w' L := by
  have c1 := (S.blk i hi).cell 1
  simp only [List.getElem?_toArray, List.getElem?_cons_zero, List.getElem?_cons_succ] at c1
  have HC := Lib.hid (TSHas S j hj (by omega) r (by omega))
  clear S hi hj
  go_enter Try.func32, Try.ntmps32
  go_wp2_with (go_at_call 68; refine HC.out.mono ?_; rintro e w' ⟨rfl, hs⟩; have HS := Lib.hid hs; clear hs HC)
  go_ret
  exact ⟨rfl, HS.out⟩
theorem PScanned (S : Sep w0 w L) (i j : Nat) {b1 b2 b3 : Nat} {Z : Nat → Bool} (hi : L[i]? = some (blkR m 85 #[.pointer (some ⟨a, 0, none⟩), .pointer (some ⟨b1, 0, none⟩), .pointer (some ⟨b2, 0, none⟩), .pointer (some ⟨b3, 0, none⟩)])) (hj : L[j]? = some (setR b2 (n : Int) Z)) (hn : n ≤ 100000) (r : Nat) (hr : r < n) :
    Calls Try.prog 35 #[.pointer (some ⟨m, 0, none⟩), .int .i64 (r : Int)] w fun e w' => e = .returned (.bool (Z r)) ∧ Sep w0 w' L := by
  have c1 := (S.blk i hi).cell 2
  simp only [List.getElem?_toArray, List.getElem?_cons_zero, List.getElem?_cons_succ] at c1
  have HC := Lib.hid (TSHas S j hj (by omega) r (by omega))
  clear S hi hj
  go_enter Try.func35, Try.ntmps35
  go_wp2_with (go_at_call 68; refine HC.out.mono ?_; rintro e w' ⟨rfl, hs⟩; have HS := Lib.hid hs; clear hs HC)
  go_ret
  exact ⟨rfl, HS.out⟩
end
end Go.Proofs.Ytbcabjpafeocgaa

/-
  The marker (layer 11): grey ones onto the stack again; is none grey. Conditions: as the theorem says.
-/
namespace Go.Proofs.Ytbcabjpafeocgaa
set_option linter.unusedVariables false
set_option linter.unusedSimpArgs false
open Go.RowKit Go.Shelf
attribute [local go_sem] Oper.semAt_some wide_fn round_fn wide_depth round_depth
attribute [local simp] wide_fn round_fn wide_depth round_depth

/-- What the stack holds where those of pre were looked at. -/
structure Refill (C : Col) (pre gs : List Nat) (room : Nat) (ov : Bool) : Prop where
  some_ : ov = false → ∀ x ∈ pre, C.grey x = true → x ∈ gs
  fits : gs.length ≤ room
  grey : ∀ x ∈ gs, C.grey x = true
  full : ov = true → gs.length = room
theorem refill_none (C : Col) (room : Nat) : Refill C [] [] room false := ⟨by simp, by simp, by simp, by simp⟩
theorem Refill.skip {C : Col} {pre gs : List Nat} {room : Nat} {ov : Bool} {x : Nat} (h : Refill C pre gs room ov) (hx : C.grey x = false) : Refill C (pre ++ [x]) gs room ov :=
  ⟨fun ho y hy hg => (by
    rcases List.mem_append.1 hy with h1 | h1
    · exact h.some_ ho y h1 hg
    · simp at h1; subst h1; rw [hx] at hg; cases hg), h.fits, h.grey, h.full⟩
theorem Refill.push {C : Col} {pre gs : List Nat} {room : Nat} {ov : Bool} {x : Nat} (h : Refill C pre gs room ov) (hx : C.grey x = true) : Refill C (pre ++ [x]) (if gs.length < room then gs ++ [x] else gs) room (if gs.length < room then ov else true) := by
  by_cases hl : gs.length < room
  · simp only [hl, if_true]
    refine ⟨fun ho y hy hg => ?_, by simp; omega, fun y hy => ?_, fun ho => ?_⟩
    · rcases List.mem_append.1 hy with h1 | h1
      · exact List.mem_append.2 (.inl (h.some_ ho y h1 hg))
      · exact List.mem_append.2 (.inr h1)
    · rcases List.mem_append.1 hy with h1 | h1
      · exact h.grey y h1
      · simp at h1; subst h1; exact hx
    · have := h.full ho
      omega
  · simp only [hl, if_false]
    exact ⟨fun ho => (by cases ho), h.fits, h.grey, fun _ => (by have := h.fits; omega)⟩
theorem Refill.ok {C : Col} {gs : List Nat} {o : Own3} {n : Nat} {ov : Bool} (h : Refill C (elems n C.mz) gs o.room ov) (ho : MarkOk n o C) : MarkOk n { o with gs := gs, over := ov } C := by
  refine ⟨⟨fun hv r hr => ?_, h.fits⟩, ho.room, ho.few, fun r hr => ?_, ho.mz, ho.sc, ho.size⟩
  · have hm := (grey_iff.1 hr).1
    exact h.some_ hv r (mem_elems.2 ⟨(ho.mz r hm).2, hm⟩) hr
  · exact ho.mz r (grey_iff.1 (h.grey r hr)).1

section
variable {w0 w : World} {L R0 : List Res} {m a n : Nat} {C : Col}
end
end Go.Proofs.Ytbcabjpafeocgaa

/-
  The marker (layer 11): the next grey one. Conditions: as the theorem says.
-/
namespace Go.Proofs.Ytbcabjpafeocgaa
set_option linter.unusedVariables false
set_option linter.unusedSimpArgs false
open Go.RowKit Go.Shelf

/-- The least number of those that p holds of. -/
noncomputable def leastN (p : Nat → Prop) : Nat := open Classical in if h : ∃ k, p k ∧ ∀ j, p j → k ≤ j then h.choose else 0
theorem leastN_is {p : Nat → Prop} (h : ∃ k, p k) : p (leastN p) ∧ ∀ j, p j → leastN p ≤ j := by
  have h1 : ∃ k, p k ∧ ∀ j, p j → k ≤ j := by
    obtain ⟨k, hk⟩ := h
    induction k using Nat.strongRecOn with
    | _ k ih =>
      by_cases e : ∃ j, j < k ∧ p j
      · obtain ⟨j, h1, h2⟩ := e
        exact ih j h1 h2
      · exact ⟨k, hk, fun j hj => Nat.le_of_not_lt fun hl => e ⟨j, hl, hj⟩⟩
  unfold leastN
  rw [dif_pos h1]
  exact h1.choose_spec
theorem leastN_lt {p q : Nat → Prop} {k : Nat} (h : ∃ k, p k) (hq : q k) (hk : k < leastN p) : leastN q < leastN p :=
  Nat.lt_of_le_of_lt ((leastN_is ⟨k, hq⟩).2 k hq) hk

/-- How far the search for a grey one is from its end. -/
inductive NextK (C : Col) (o : Own3) : Nat → Prop
  | any : NextK C o (o.gs.length + 2)
  | fresh (h : ∀ x ∈ o.gs, C.grey x = true) (hv : o.over = true → o.gs ≠ []) : NextK C o 1

section
variable {w0 w : World} {L R0 : List Res} {m a n : Nat} {C : Col}
def NextJ (w0 : World) (m a n : Nat) (C : Col) (R0 : List Res) (w : World) (k : Nat) : Prop := ∃ o, MarkOk n o C ∧ NextK C o k ∧ Sep w0 w (markParts m a n o C ++ R0)
theorem ok_popGrey {o : Own3} {l : List Nat} {r : Nat} (ho : MarkOk n o C) (h : o.gs = l ++ [r]) (hg : C.grey r = true) : MarkOk n { o with gs := l } (C.scan r) := by
  have hG := ho.grey
  rw [h] at hG
  refine ⟨hG.popScan, ho.room, ho.few, fun x hx => ho.refs x (by rw [h]; exact List.mem_append.2 (.inl hx)), ho.mz, fun x hx => ?_, ho.size⟩
  have hx' : (C.sc x || decide (x = r)) = true := hx
  simp only [Bool.or_eq_true, decide_eq_true_eq] at hx'
  rcases hx' with h1 | rfl
  · exact ho.sc x h1
  · exact (grey_iff.1 hg).1
theorem ok_popOther {o : Own3} {l : List Nat} {r : Nat} (ho : MarkOk n o C) (h : o.gs = l ++ [r]) (hg : C.grey r = false) : MarkOk n { o with gs := l } C := by
  have hG := ho.grey
  rw [h] at hG
  exact ⟨hG.pop hg, ho.room, ho.few, fun x hx => ho.refs x (by rw [h]; exact List.mem_append.2 (.inl hx)), ho.mz, ho.sc, ho.size⟩

end
end Go.Proofs.Ytbcabjpafeocgaa

/-
  The marker (layer 11): so many grey ones are scanned. Conditions: as the theorem says.
-/
namespace Go.Proofs.Ytbcabjpafeocgaa
set_option linter.unusedVariables false
set_option linter.unusedSimpArgs false
open Go.RowKit Go.Shelf
attribute [local go_sem] Oper.semAt_some wide_fn round_fn wide_depth round_depth
attribute [local simp] wide_fn round_fn wide_depth round_depth

theorem shades_push (C : Col) (l : List Nat) (x : Nat) : C.shades (l ++ [x]) = (C.shades l).shade x := by simp [Col.shades]

section
variable {w0 w : World} {L R0 : List Res} {m a n : Nat} {C : Col}
/-- What a trace of k comes to. -/
structure Traced (pts : Nat → List Nat) (k : Nat) (d : Nat) (C C' : Col) : Prop where
  steps : Steps pts d C C'
  most : d ≤ k
  end_ : d < k → ∀ x, C'.grey x = false
end
end Go.Proofs.Ytbcabjpafeocgaa

/-
  The marker (layer 11): Trace, wherever marker and arena lie; and of less than nothing. Conditions: as the theorem says.
-/
namespace Go.Proofs.Ytbcabjpafeocgaa
set_option linter.unusedVariables false
set_option linter.unusedSimpArgs false
open Go.RowKit Go.Shelf
attribute [local go_sem] Oper.semAt_some wide_fn round_fn wide_depth round_depth
attribute [local simp] wide_fn round_fn wide_depth round_depth

section
variable {w0 w : World} {L R0 : List Res} {m a n : Nat} {C : Col}
end
end Go.Proofs.Ytbcabjpafeocgaa

/-
  fit of layer 11. Conditions: as the theorem says.
-/
namespace Go.Proofs.Ytbcabjpafeocgaa
set_option linter.unusedVariables false
set_option linter.unusedSimpArgs false
open Go.RowKit Go.Shelf

theorem Heap.born {A A' : AR} {O : Nat → Prop} {fs : Nat → List Nat} {r n : Nat} (h : Heap A O fs) (hN : NewIs A n r A') : Heap A' (fun y => O y ∨ y = r) (updT fs r (List.replicate n 0)) := by
  have hr : ∀ y, O y → y ≠ r := by
    intro y hy
    obtain ⟨x, ho⟩ := h.obj y hy
    exact (hN.old _ _ _ ho).2
  refine ⟨hN.wf, ?_, ?_⟩
  · intro y hy
    rcases hy with h1 | rfl
    · obtain ⟨x, ho⟩ := h.obj y h1
      refine ⟨x, ?_⟩
      simp only [updT, hr y h1, if_false]
      exact (hN.old _ _ _ ho).1
    · refine ⟨0, ?_⟩
      simp only [updT, if_true, List.map_replicate]
      exact hN.obj
  · intro y hy z hz
    rcases hy with h1 | rfl
    · simp only [updT, hr y h1, if_false] at hz
      rcases h.closed y h1 z hz with h2 | h2
      · exact .inl h2
      · exact .inr (.inl h2)
    · simp only [updT, if_true] at hz
      exact .inl (List.mem_replicate.1 hz).2
theorem heap_new (m : Nat) (ids : Nat × Nat × Nat) (hm : m ≤ 64) : Heap (AR.new m ids) (fun _ => False) (fun _ => []) := ⟨AR.new_wf m ids hm, fun _ h => h.elim, fun _ h => h.elim⟩
theorem size_n {A : AR} {m : Nat} (h : A.n = m) : A.size = ((m * 32 + 1 : Nat) : Int) := by
  unfold AR.size
  rw [h]
/-- One grey one is scanned. -/
theorem trace_one {pts : Nat → List Nat} {d x : Nat} {C' : Col} (h : Traced pts 1 d (Col.white.shade x) C') : d = 1 ∧ C' = ((Col.white.shade x).scan x).shades (pts x) := by
  obtain ⟨hs, hm, he⟩ := h
  have hg : ∀ r, (Col.white.shade x).grey r = true → r = x := by
    intro r hr
    obtain ⟨h1, _⟩ := grey_iff.1 hr
    simpa [Col.white, Col.shade] using h1
  have hx : (Col.white.shade x).grey x = true := by simp [Col.white, Col.shade, Col.grey]
  cases hs with
  | zero => have := he (by omega) x; rw [hx] at this; cases this
  | @succ d' _ C1 r hs hr =>
    have hd : d' = 0 := by omega
    subst hd
    cases hs with
    | zero =>
      have := hg r hr
      subst this
      exact ⟨rfl, rfl⟩
end Go.Proofs.Ytbcabjpafeocgaa

/-
  What objects lead to, found by a list of those still to be looked at (plain). Conditions: as each theorem says; no walk.
-/
namespace Go.Proofs.Ytbcabjpafeocgaa
set_option linter.unusedVariables false
set_option linter.unusedSimpArgs false

/-- V was looked at, l is still to come. -/
structure Seek (pts : Nat → List Nat) (from_ : List Nat) (V : Nat → Bool) (l : List Nat) : Prop where
  start : ∀ x ∈ from_, V x = true ∨ x ∈ l
  next : ∀ x, V x = true → ∀ y ∈ pts x, V y = true ∨ y ∈ l
  seen : ∀ x, V x = true → Leads pts (fun x => x ∈ from_) x
  todo : ∀ x ∈ l, Leads pts (fun x => x ∈ from_) x

def putB (V : Nat → Bool) (r : Nat) : Nat → Bool := fun x => V x || decide (x = r)

section
variable {pts : Nat → List Nat} {from_ : List Nat} {V : Nat → Bool} {l : List Nat} {x : Nat}
theorem seek_start (pts : Nat → List Nat) (from_ : List Nat) : Seek pts from_ (fun _ => false) from_ :=
  ⟨fun _ h => .inr h, fun _ h => (by cases h), fun _ h => (by cases h), fun _ h => .base h⟩
theorem Seek.old (h : Seek pts from_ V (l ++ [x])) (hx : V x = true) : Seek pts from_ V l := by
  refine ⟨fun y hy => ?_, fun y hy z hz => ?_, h.seen, fun y hy => h.todo y (List.mem_append.2 (.inl hy))⟩
  · rcases h.start y hy with h1 | h1
    · exact .inl h1
    · rcases List.mem_append.1 h1 with h2 | h2
      · exact .inr h2
      · simp at h2; subst h2; exact .inl hx
  · rcases h.next y hy z hz with h1 | h1
    · exact .inl h1
    · rcases List.mem_append.1 h1 with h2 | h2
      · exact .inr h2
      · simp at h2; subst h2; exact .inl hx
theorem Seek.new (h : Seek pts from_ V (l ++ [x])) : Seek pts from_ (putB V x) (l ++ pts x) := by
  have hlx := h.todo x (by simp)
  refine ⟨fun y hy => ?_, fun y hy z hz => ?_, fun y hy => ?_, fun y hy => ?_⟩
  · rcases h.start y hy with h1 | h1
    · left; simp [putB, h1]
    · rcases List.mem_append.1 h1 with h2 | h2
      · right; exact List.mem_append.2 (.inl h2)
      · left; simp at h2; simp [putB, h2]
  · simp only [putB, Bool.or_eq_true, decide_eq_true_eq] at hy
    rcases hy with hy | rfl
    · rcases h.next y hy z hz with h1 | h1
      · left; simp [putB, h1]
      · rcases List.mem_append.1 h1 with h2 | h2
        · right; exact List.mem_append.2 (.inl h2)
        · left; simp at h2; simp [putB, h2]
    · right; exact List.mem_append.2 (.inr hz)
  · simp only [putB, Bool.or_eq_true, decide_eq_true_eq] at hy
    rcases hy with hy | rfl
    · exact h.seen y hy
    · exact hlx
  · rcases List.mem_append.1 hy with h2 | h2
    · exact h.todo y (List.mem_append.2 (.inl h2))
    · exact .step hlx h2
theorem Seek.done (h : Seek pts from_ V []) (x : Nat) : V x = true ↔ Leads pts (fun x => x ∈ from_) x := by
  constructor
  · exact h.seen x
  · refine leads_closed (P := fun y => V y = true) (fun y hy => ?_) (fun y hy z hz => ?_) x
    · rcases h.start y hy with h1 | h1
      · exact h1
      · cases h1
    · rcases h.next y hy z hz with h1 | h1
      · exact h1
      · cases h1

/-- How much is still to do, at most: what is on the list, and what those not looked at would add. -/
def todoN (pts : Nat → List Nat) (V : Nat → Bool) : List Nat → Nat
  | [] => 0
  | r :: rs => (if V r then 0 else (pts r).length) + todoN pts V rs
theorem todoN_put (pts : Nat → List Nat) (V : Nat → Bool) {objs : List Nat} (hn : objs.Nodup) (hx : x ∈ objs) (hV : V x = false) : todoN pts (putB V x) objs + (pts x).length = todoN pts V objs := by
  induction objs with
  | nil => cases hx
  | cons a rs ih =>
    rw [List.nodup_cons] at hn
    unfold todoN
    by_cases e : a = x
    · subst e
      have h1 : ∀ l : List Nat, (∀ r ∈ l, r ≠ a) → todoN pts (putB V a) l = todoN pts V l := by
        intro l
        induction l with
        | nil => intro _; rfl
        | cons b l ihl =>
          intro h
          unfold todoN
          rw [ihl (fun r hr => h r (List.mem_cons_of_mem _ hr))]
          have : putB V a b = V b := by
            have := h b (by simp)
            simp [putB, this]
          rw [this]
      rw [h1 rs (fun r hr e => hn.1 (e ▸ hr)), hV]
      simp [putB]
      omega
    · have hx' : x ∈ rs := by
        rcases List.mem_cons.1 hx with h | h
        · exact absurd h.symm e
        · exact h
      have := ih hn.2 hx'
      have hb : putB V x a = V a := by simp [putB, e]
      rw [hb]
      omega
theorem countP_put (V : Nat → Bool) {objs : List Nat} (hn : objs.Nodup) (hx : x ∈ objs) (hV : V x = false) : objs.countP (putB V x) = objs.countP V + 1 := by
  induction objs with
  | nil => cases hx
  | cons a rs ih =>
    rw [List.nodup_cons] at hn
    rw [List.countP_cons, List.countP_cons]
    by_cases e : a = x
    · subst e
      have h1 : rs.countP (putB V a) = rs.countP V := List.countP_congr (fun r hr => by
        have : r ≠ a := fun e => hn.1 (e ▸ hr)
        simp [putB, this])
      rw [h1, hV]
      simp [putB]
    · have hx' : x ∈ rs := by
        rcases List.mem_cons.1 hx with h | h
        · exact absurd h.symm e
        · exact h
      rw [ih hn.2 hx']
      have hb : putB V x a = V a := by simp [putB, e]
      rw [hb]
      omega
end
end Go.Proofs.Ytbcabjpafeocgaa

/-
  Maps from integers to integers that a function's own text makes, where memory is a list of things. Conditions: no program is named here.
-/
namespace Go.Proofs.Ytbcabjpafeocgaa
set_option linter.unusedVariables false
set_option linter.unusedSimpArgs false
open Go.RowKit Go.Shelf Go.Maps

/-- The types of a map's keys and elements. -/
structure MapOk (P : Program) (t k e : TypeId) (qk qe : IntKind) : Prop where
  ht : P.underlying t = some (.map k e)
  hk : P.underlying k = some (.int qk)
  he : P.underlying e = some (.int qe)
  hz : ∀ w, (zeroValue e).run P w = .ok (.int qe 0) w

def updM (M : Int → Option Int) (x : Int) (c : Option Int) : Int → Option Int := fun y => if y = x then c else M y

/-- The datum D reads as M. -/
structure Reads (qk qe : IntKind) (D : DataW Unit) (M : Int → Option Int) : Prop where
  tidy : Tidy D
  none_ : ∀ x, (Lit.int qk x).wf = true → M x = none → has D (.int qk x) = false
  some_ : ∀ x c, (Lit.int qk x).wf = true → M x = some c → has D (.int qk x) = true ∧ ∀ z, D.atKey (.int qk x) z = .lit (.int qe c)

theorem isKey (q : IntKind) (x : Int) : WideAt.IsKeyLit (.int q x) := trivial
theorem lit_ne {q : IntKind} {x y : Int} (h : x ≠ y) : Lit.int q x ≠ Lit.int q y := by intro e; injection e with _ e; exact h e

section
variable {qk qe : IntKind} {D : DataW Unit} {M : Int → Option Int}
theorem Reads.has_eq (h : Reads qk qe D M) {x : Int} (hx : (Lit.int qk x).wf = true) : has D (.int qk x) = (M x).isSome := by
  cases e : M x with
  | none => rw [h.none_ x hx e]; rfl
  | some c => rw [(h.some_ x c hx e).1]; rfl
theorem Reads.at_eq (h : Reads qk qe D M) {x : Int} (hx : (Lit.int qk x).wf = true) : D.atKey (.int qk x) (.lit (.int qe 0)) = .lit (.int qe ((M x).getD 0)) := by
  cases e : M x with
  | none => rw [atKey_of_not_has (h.none_ x hx e)]; rfl
  | some c => rw [(h.some_ x c hx e).2]; rfl
theorem Reads.put (h : Reads qk qe D M) {x : Int} (hx : (Lit.int qk x).wf = true) (c : Int) : Reads qk qe (D.put (.int qk x) (.lit (.int qe c))) (updM M x (some c)) := by
  refine ⟨h.tidy.put (isKey _ _) _, ?_, ?_⟩
  · intro y hy e
    unfold updM at e
    by_cases hyx : y = x
    · rw [if_pos hyx] at e; cases e
    · rw [if_neg hyx] at e
      rw [has_put_other (lit_ne hyx)]
      exact h.none_ y hy e
  · intro y d hy e
    unfold updM at e
    by_cases hyx : y = x
    · rw [if_pos hyx] at e
      cases e
      subst hyx
      exact ⟨has_put_same h.tidy.isMap (isKey _ _) _, fun z => atKey_put_same h.tidy.isMap (isKey _ _) _ z⟩
    · rw [if_neg hyx] at e
      obtain ⟨h1, h2⟩ := h.some_ y d hy e
      exact ⟨by rw [has_put_other (lit_ne hyx)]; exact h1, fun z => by rw [atKey_put_other (lit_ne hyx)]; exact h2 z⟩
theorem Reads.del (h : Reads qk qe D M) (x : Int) : Reads qk qe (D.del (.int qk x)) (updM M x none) := by
  refine ⟨h.tidy.del _, ?_, ?_⟩
  · intro y hy e
    unfold updM at e
    by_cases hyx : y = x
    · subst hyx
      exact has_del_same
    · rw [if_neg hyx] at e
      rw [has_del_other (lit_ne hyx)]
      exact h.none_ y hy e
  · intro y d hy e
    unfold updM at e
    by_cases hyx : y = x
    · rw [if_pos hyx] at e; cases e
    · rw [if_neg hyx] at e
      obtain ⟨h1, h2⟩ := h.some_ y d hy e
      exact ⟨by rw [has_del_other (lit_ne hyx)]; exact h1, fun z => by rw [atKey_del_other (lit_ne hyx)]; exact h2 z⟩
theorem reads_empty : Reads qk qe (.map []) (fun _ => none) := ⟨tidy_empty, fun _ _ _ => rfl, fun _ _ _ e => by cases e⟩
end

theorem ownsMap_heap {P : Program} {k : TypeId} {R : Value → Option (DataW Unit × List MemPlace)} {w w' : World} {b n : Nat} {D : DataW Unit} (h : w.ownsMap P k R b n D) (e : w'.heap[b]? = w.heap[b]?) : w'.ownsMap P k R b n D := by
  obtain ⟨es, clock, hb, rest⟩ := h
  exact ⟨es, clock, e.trans hb, rest⟩
theorem ownsMap_tight {P : Program} {k : TypeId} {R : Value → Option (DataW Unit × List MemPlace)} {w : World} {b n : Nat} {D : DataW Unit} (h : w.ownsMap P k R b n D) : w.ownsMap P k R b (size D) D := by
  obtain ⟨es, clock, hb, F, _, rfl⟩ := h
  exact ⟨es, clock, hb, F, by simp [Maps.size, length_sorted], rfl⟩

/-- The map at block b has cnt entries, and reads as M. -/
def mapR (P : Program) (t k e : TypeId) (qk qe : IntKind) (b : Nat) (cnt : Nat) (M : Int → Option Int) : Res :=
  ⟨fun w F => F = [b] ∧ ∃ D : DataW Unit, w.ownsMap P k (plainElem P e) b cnt D ∧ size D = cnt ∧ Reads qk qe D M,
   fun {w w' F G} h hc hF => by
    obtain ⟨rfl, D, h1, h2⟩ := h
    exact ⟨rfl, D, ownsMap_heap h1 (hc.block b h1.lt (hF b (by simp))), h2⟩,
   fun {w F} h x hx => by
    obtain ⟨rfl, D, h1, _⟩ := h
    simp at hx; subst hx; exact h1.lt⟩

section
variable {P : Program} {t k e : TypeId} {qk qe : IntKind} {w0 w : World} {L : List Res} {i b cnt : Nat} {M : Int → Option Int}

theorem map_look (Y : MapOk P t k e qk qe) (S : Sep w0 w L) (i : Nat) (hi : L[i]? = some (mapR P t k e qk qe b cnt M)) {x : Int} (hx : (Lit.int qk x).wf = true) :
    (Instr.lookup t (.map (some b)) (.int qk x) true).run P w = .ok (.tuple #[.int qe ((M x).getD 0), .bool (M x).isSome]) w := by
  obtain ⟨F, ⟨rfl, D, h1, h2, h3⟩, _⟩ := S.at_ hi
  obtain ⟨v, ps, hrun, hv⟩ := h1.look_ok (int_keyed Y.hk) Y.ht (Y.hz w) (plainElem_int (H := Unit) Y.he (by cases qe <;> decide)) (keyOf_int_mk Y.hk hx)
  rw [h3.at_eq hx] at hv
  obtain ⟨c, rfl, hc, hwc⟩ := plainElem_int_inv Y.he hv
  rw [hrun, h3.has_eq hx]
  have := congrArg Prod.fst hc
  simp at this
  rw [this]
theorem map_get (Y : MapOk P t k e qk qe) (S : Sep w0 w L) (i : Nat) (hi : L[i]? = some (mapR P t k e qk qe b cnt M)) {x : Int} (hx : (Lit.int qk x).wf = true) :
    (Instr.lookup t (.map (some b)) (.int qk x) false).run P w = .ok (.int qe ((M x).getD 0)) w := by
  obtain ⟨F, ⟨rfl, D, h1, h2, h3⟩, _⟩ := S.at_ hi
  obtain ⟨c, hrun, hat, _⟩ := h1.lookup_int (int_keyed Y.hk) Y.ht Y.he (Y.hz w) (keyOf_int_mk Y.hk hx)
  rw [hrun]
  rw [h3.at_eq hx] at hat
  simp at hat
  rw [hat]
theorem map_len (Y : MapOk P t k e qk qe) (S : Sep w0 w L) (i : Nat) (hi : L[i]? = some (mapR P t k e qk qe b cnt M)) (ty : TypeId) :
    (Builtin.len_ #[t] ty #[.map (some b)]).run P w = .ok (.int .i64 (cnt : Int)) w := by
  obtain ⟨F, ⟨rfl, D, h1, h2, h3⟩, _⟩ := S.at_ hi
  rw [h1.len Y.ht ty, h2]
theorem map_put (Y : MapOk P t k e qk qe) (S : Sep w0 w L) (i : Nat) (hi : L[i]? = some (mapR P t k e qk qe b cnt M)) (hn : cnt < maxLen) {x c : Int} (hx : (Lit.int qk x).wf = true) (hc : (Lit.int qe c).wf = true) :
    ∃ w', (Instr.mapUpdate t (.map (some b)) (.int qk x) (.int qe c)).run P w = .ok () w' ∧ Sep w0 w' (L.set i (mapR P t k e qk qe b (if (M x).isSome then cnt else cnt + 1) (updM M x (some c)))) := by
  obtain ⟨F, ⟨rfl, D, h1, h2, h3⟩, hk⟩ := S.at_ hi
  obtain ⟨w', hrun, r1, r2⟩ := h1.update (int_keyed Y.hk) Y.ht hn (keyOf_int_mk Y.hk hx) (plainElem_int (H := Unit) Y.he hc)
  refine ⟨w', hrun, hk _ w' [b] ⟨rfl, _, ?_, ?_, h3.put hx c⟩ (GrewF.self _ _) (Chg.grown (Chg.refl _ _) r2 (by rintro j hj; cases hj; simp))⟩
  · have := ownsMap_tight r1
    rw [size_put h3.tidy, h3.has_eq hx, h2] at this
    exact this
  · rw [size_put h3.tidy, h3.has_eq hx, h2]
theorem map_del (Y : MapOk P t k e qk qe) (S : Sep w0 w L) (i : Nat) (hi : L[i]? = some (mapR P t k e qk qe b cnt M)) {x : Int} (hx : (Lit.int qk x).wf = true) :
    ∃ w', (∀ ty, (Builtin.delete_ #[t, k] ty #[.map (some b), .int qk x]).run P w = .ok (.tuple #[]) w') ∧ Sep w0 w' (L.set i (mapR P t k e qk qe b (if (M x).isSome then cnt - 1 else cnt) (updM M x none))) := by
  obtain ⟨F, ⟨rfl, D, h1, h2, h3⟩, hk⟩ := S.at_ hi
  obtain ⟨w', hrun, r1, r2⟩ := h1.drop (int_keyed Y.hk) Y.ht (keyOf_int_mk Y.hk hx) 0
  have hsz : size (D.del (.int qk x)) = if (M x).isSome then cnt - 1 else cnt := by
    have := size_del (k := .int qk x) h3.tidy
    rw [h3.has_eq hx, h2] at this
    split at this <;> split <;> simp_all <;> omega
  have hg : w.grownBy w' (some b) := by
    obtain ⟨es, clock, es', clock', hb, rfl⟩ := r2
    exact grownBy_putObj' w b _
  refine ⟨w', fun _ => hrun, hk _ w' [b] ⟨rfl, _, ?_, hsz, h3.del x⟩ (GrewF.self _ _) (Chg.grown (Chg.refl _ _) hg (by rintro j hj; cases hj; simp))⟩
  have := ownsMap_tight r1
  rw [hsz] at this
  exact this
theorem Sep.newMap (S : Sep w0 w L) (P : Program) (t k e : TypeId) (qk qe : IntKind) : Sep w0 (w.alloc (.map #[] 0)) (mapR P t k e qk qe w.heap.size 0 (fun _ => none) :: L) :=
  S.new (r := mapR P t k e qk qe w.heap.size 0 (fun _ => none)) (F := [w.heap.size]) ⟨rfl, _, World.ownsMap_made w P k (plainElem P e), rfl, reads_empty⟩ (by simp) ((Chg.refl _ _).alloc _)

/-- A loop over the map at block b is under way, at block r; left: which keys are still to come; at most m. -/
def rangeR (P : Program) (t k e : TypeId) (qk qe : IntKind) (b r : Nat) (cnt : Nat) (M : Int → Option Int) (left : Int → Bool) (m : Nat) : Res :=
  ⟨fun w F => F = [b, r] ∧ ∃ (D : DataW Unit) (lf : Lit → Bool), w.ranges P k (plainElem P e) b r cnt D lf m ∧ size D = cnt ∧ Reads qk qe D M ∧ ∀ x, (Lit.int qk x).wf = true → lf (.int qk x) = left x,
   fun {w w' F G} h hc hF => by
    obtain ⟨rfl, D, lf, h1, h2⟩ := h
    refine ⟨rfl, D, lf, ?_, h2⟩
    have e1 := hc.block b h1.owns.lt (hF b (by simp))
    have e2 := hc.block r h1.lt (hF r (by simp))
    obtain ⟨es, clock, since, seen, c0, hb, hf, hs, hD, hr, rest⟩ := h1
    exact ⟨es, clock, since, seen, c0, e1.trans hb, hf, hs, hD, e2.trans hr, rest⟩,
   fun {w F} h x hx => by
    obtain ⟨rfl, D, lf, h1, _⟩ := h
    simp at hx
    rcases hx with rfl | rfl
    · exact h1.owns.lt
    · exact h1.lt⟩

theorem map_range (Y : MapOk P t k e qk qe) (S : Sep w0 w L) (i : Nat) (hi : L[i]? = some (mapR P t k e qk qe b cnt M)) :
    ∃ w', (Instr.range t (.map (some b))).run P w = .ok (.pointer (some ⟨w.heap.size, 0, none⟩)) w' ∧ Sep w0 w' (L.set i (rangeR P t k e qk qe b w.heap.size cnt M (fun x => (M x).isSome) cnt)) := by
  obtain ⟨F, ⟨rfl, D, h1, h2, h3⟩, hk⟩ := S.at_ hi
  obtain ⟨w', hrun, r1, r2, r3⟩ := h1.range (int_keyed Y.hk) Y.ht
  refine ⟨w', hrun, hk _ w' [b, w.heap.size] ⟨rfl, D, _, ?_, h2, h3, fun x hx => h3.has_eq hx⟩ ?_ (Chg.grown (Chg.refl _ _) r2 (by rintro j hj; cases hj))⟩
  · rw [h2] at r1; exact r1
  · intro x hx
    simp at hx
    rcases hx with rfl | rfl
    · exact .inl (by simp)
    · exact .inr (Nat.le_refl _)
theorem map_next (Y : MapOk P t k e qk qe) {r m : Nat} {left : Int → Bool} (S : Sep w0 w L) (i : Nat) (hi : L[i]? = some (rangeR P t k e qk qe b r cnt M left m)) :
    ((∀ x, (Lit.int qk x).wf = true → left x = false) ∧ ∀ ty, (Instr.next (.pointer (some ⟨r, 0, none⟩)) false ty).run P w = .ok (.tuple #[.bool false]) w) ∨
    ∃ x c w' m', (Lit.int qk x).wf = true ∧ left x = true ∧ M x = some c ∧ (∀ ty, (Instr.next (.pointer (some ⟨r, 0, none⟩)) false ty).run P w = .ok (.tuple #[.bool true, .int qk x, .int qe c]) w') ∧ m' < m ∧
      (Instr.entry (.pointer (some ⟨r, 0, none⟩))).run P w' = .ok (.tuple #[.int qk x, .int qe c]) w' ∧ Sep w0 w' (L.set i (rangeR P t k e qk qe b r cnt M (fun y => left y && !decide (y = x)) m')) := by
  obtain ⟨F, ⟨rfl, D, lf, h1, h2, h3, h4⟩, hk⟩ := S.at_ hi
  rcases h1.next (int_keyed Y.hk) 0 with ⟨_, hl, hrun⟩ | ⟨key, v, kl, y, w', m', hkey, hlk, hv, hat, hrun, hrg, hlt, hgr, hsz, hen⟩
  · exact .inl ⟨fun x hx => by rw [← h4 x hx]; exact hl _, fun _ => hrun⟩
  · obtain ⟨x, rfl, rfl, hwx⟩ := keyOf_int_inv Y.hk hkey
    obtain ⟨c, rfl, rfl, hwc⟩ := plainElem_int_inv Y.he hv
    have hM : M x = some c := by
      cases e1 : M x with
      | none =>
        have h5 := atKey_of_not_has (h3.none_ x hwx e1) (DataW.lit (.int qe (c + 1)))
        rw [hat] at h5
        simp at h5
        omega
      | some d =>
        have h5 := (h3.some_ x d hwx e1).2 (.lit (.int qe 0))
        rw [hat] at h5
        simp at h5
        rw [h5]
    refine .inr ⟨x, c, w', m', hwx, by rw [← h4 x hwx]; exact hlk, hM, fun _ => hrun, hlt, hen, hk _ w' [b, r] ⟨rfl, D, _, hrg, h2, h3, fun y hy => ?_⟩ (GrewF.self _ _) (Chg.grown (Chg.refl _ _) hgr (by rintro j hj; cases hj; simp))⟩
    rw [h4 y hy]
    congr 2
    by_cases e1 : y = x
    · subst e1; simp [Lit.sameKey]
    · simp [Lit.sameKey, e1]
theorem rangeLeft_eq {r m : Nat} {left : Int → Bool} (S : Sep w0 w L) (i : Nat) (hi : L[i]? = some (rangeR P t k e qk qe b r cnt M left m)) : w.rangeLeft b r = m := by
  obtain ⟨F, ⟨rfl, D, lf, h1, h2, h3, h4⟩, _⟩ := S.at_ hi
  exact h1.left_eq
theorem range_end {r m : Nat} {left : Int → Bool} (S : Sep w0 w L) (i : Nat) (hi : L[i]? = some (rangeR P t k e qk qe b r cnt M left m)) : Sep w0 w (L.set i (mapR P t k e qk qe b cnt M)) := by
  obtain ⟨F, ⟨rfl, D, lf, h1, h2, h3, h4⟩, hk⟩ := S.at_ hi
  exact hk _ w [b] ⟨rfl, D, h1.owns, h2, h3⟩ (by intro x hx; simp at hx; subst hx; exact .inl (by simp)) (Chg.refl _ _)
end

section
variable {P : Program} {w w' : World} {ops : Array Oper} {rest : List Oper} {o : Oper} {a : Act} {Q : Exit → Act → World → Prop} {F : Fence} {nF : Nat}
theorem wpList_lookup_run (hg : o.guard = none) (m x : Operand) (t : TypeId) (ok : Bool) (hop : o.op = Op.lookup t m x ok) {vm vx v : Value} (hm : a.eval m = vm) (hx : a.eval x = vx) (hrun : (Instr.lookup t vm vx ok).run P w = .ok v w') (hK : wpList P ops Q rest (a.put o.dst v) w') : wpList P ops Q (o :: rest) a w := by
  refine wpList_plain hg fun K' hK' => ?_
  unfold Oper.wp
  simp [execOp, hop, hm, hx, hrun, Result.andThen]
  exact hK' _ _ hK
theorem wpListIn_lookup_run (hg : o.guard = none) (m x : Operand) (t : TypeId) (ok : Bool) (hop : o.op = Op.lookup t m x ok) {vm vx v : Value} (hm : a.eval m = vm) (hx : a.eval x = vx) (hrun : (Instr.lookup t vm vx ok).run P w = .ok v w') (hK : wpListIn F nF P ops Q rest (a.put o.dst v) w') : wpListIn F nF P ops Q (o :: rest) a w := by
  refine wpListIn_plain hg fun K' hK' => ?_
  unfold Oper.wpIn
  refine ⟨by simp [Oper.about, hop, resolve, Target.leads, Sem.run_pure], ?_⟩
  rw [Oper.semAt_plain F _ _ (by rw [hop]; intro c hc'; cases hc')]
  simp [execOp, hop, hm, hx, hrun, Result.andThen]
  exact hK' _ _ hK
theorem wpList_mapUpdate_run (hg : o.guard = none) (m x y : Operand) (t : TypeId) (hop : o.op = Op.mapUpdate t m x y) {vm vx vy : Value} (hm : a.eval m = vm) (hx : a.eval x = vx) (hy : a.eval y = vy) (hrun : (Instr.mapUpdate t vm vx vy).run P w = .ok () w') (hK : wpList P ops Q rest (a.put o.dst undef) w') : wpList P ops Q (o :: rest) a w := by
  refine wpList_plain hg fun K' hK' => ?_
  unfold Oper.wp
  simp [execOp, hop, hm, hx, hy, hrun, Result.andThen]
  exact hK' _ _ hK
theorem wpListIn_mapUpdate_run (hg : o.guard = none) (m x y : Operand) (t : TypeId) (hop : o.op = Op.mapUpdate t m x y) {vm vx vy : Value} (hm : a.eval m = vm) (hx : a.eval x = vx) (hy : a.eval y = vy) (hrun : (Instr.mapUpdate t vm vx vy).run P w = .ok () w') (hK : wpListIn F nF P ops Q rest (a.put o.dst undef) w') : wpListIn F nF P ops Q (o :: rest) a w := by
  refine wpListIn_plain hg fun K' hK' => ?_
  unfold Oper.wpIn
  refine ⟨by simp [Oper.about, hop, resolve, Target.leads, Sem.run_pure], ?_⟩
  rw [Oper.semAt_plain F _ _ (by rw [hop]; intro c hc'; cases hc')]
  simp [execOp, hop, hm, hx, hy, hrun, Result.andThen]
  exact hK' _ _ hK
theorem wpList_delete_run (hg : o.guard = none) (m x : Operand) (t k : TypeId) (hop : o.op = Op.call { callee := Callee.builtin Builtin.delete, args := #[m, x], argTypes := #[t, k] }) {vm vx : Value} (hm : a.eval m = vm) (hx : a.eval x = vx) (hrun : ∀ ty, (Builtin.delete_ #[t, k] ty #[vm, vx]).run P w = .ok (.tuple #[]) w') (hK : wpList P ops Q rest (a.put o.dst (.tuple #[])) w') : wpList P ops Q (o :: rest) a w := by
  refine wpList_plain hg fun K' hK' => ?_
  unfold Oper.wp
  simp [execOp, hop, resolve, invoke, builtin, hm, hx, hrun, Result.andThen]
  exact hK' _ _ hK
theorem wpListIn_delete_run (hg : o.guard = none) (m x : Operand) (t k : TypeId) (hop : o.op = Op.call { callee := Callee.builtin Builtin.delete, args := #[m, x], argTypes := #[t, k] }) {vm vx : Value} (hm : a.eval m = vm) (hx : a.eval x = vx) (hrun : ∀ ty, (Builtin.delete_ #[t, k] ty #[vm, vx]).run P w = .ok (.tuple #[]) w') (hK : wpListIn F nF P ops Q rest (a.put o.dst (.tuple #[])) w') : wpListIn F nF P ops Q (o :: rest) a w := by
  refine wpListIn_plain hg fun K' hK' => ?_
  unfold Oper.wpIn
  refine ⟨by simp [Oper.about, hop, resolve, Target.leads, Sem.run_pure], ?_⟩
  rw [Oper.semAt_plain F _ _ (by rw [hop]; intro c hc'; cases hc')]
  simp [execOp, hop, resolve, invoke, builtin, hm, hx, hrun, Result.andThen]
  exact hK' _ _ hK
theorem wpList_len_run (hg : o.guard = none) (m : Operand) (t : TypeId) (hop : o.op = Op.call { callee := Callee.builtin Builtin.len, args := #[m], argTypes := #[t] }) {vm v : Value} (hm : a.eval m = vm) (hrun : ∀ ty, (Builtin.len_ #[t] ty #[vm]).run P w = .ok v w') (hK : wpList P ops Q rest (a.put o.dst v) w') : wpList P ops Q (o :: rest) a w := by
  refine wpList_plain hg fun K' hK' => ?_
  unfold Oper.wp
  simp [execOp, hop, resolve, invoke, builtin, hm, hrun, Result.andThen]
  exact hK' _ _ hK
theorem wpListIn_len_run (hg : o.guard = none) (m : Operand) (t : TypeId) (hop : o.op = Op.call { callee := Callee.builtin Builtin.len, args := #[m], argTypes := #[t] }) {vm v : Value} (hm : a.eval m = vm) (hrun : ∀ ty, (Builtin.len_ #[t] ty #[vm]).run P w = .ok v w') (hK : wpListIn F nF P ops Q rest (a.put o.dst v) w') : wpListIn F nF P ops Q (o :: rest) a w := by
  refine wpListIn_plain hg fun K' hK' => ?_
  unfold Oper.wpIn
  refine ⟨by simp [Oper.about, hop, resolve, Target.leads, Sem.run_pure], ?_⟩
  rw [Oper.semAt_plain F _ _ (by rw [hop]; intro c hc'; cases hc')]
  simp [execOp, hop, resolve, invoke, builtin, hm, hrun, Result.andThen]
  exact hK' _ _ hK
theorem wpList_range_run (hg : o.guard = none) (m : Operand) (t : TypeId) (hop : o.op = Op.range t m) {vm v : Value} (hm : a.eval m = vm) (hrun : (Instr.range t vm).run P w = .ok v w') (hK : wpList P ops Q rest (a.put o.dst v) w') : wpList P ops Q (o :: rest) a w := by
  refine wpList_plain hg fun K' hK' => ?_
  unfold Oper.wp
  simp [execOp, hop, hm, hrun, Result.andThen]
  exact hK' _ _ hK
theorem wpListIn_range_run (hg : o.guard = none) (m : Operand) (t : TypeId) (hop : o.op = Op.range t m) {vm v : Value} (hm : a.eval m = vm) (hrun : (Instr.range t vm).run P w = .ok v w') (hK : wpListIn F nF P ops Q rest (a.put o.dst v) w') : wpListIn F nF P ops Q (o :: rest) a w := by
  refine wpListIn_plain hg fun K' hK' => ?_
  unfold Oper.wpIn
  refine ⟨by simp [Oper.about, hop, resolve, Target.leads, Sem.run_pure], ?_⟩
  rw [Oper.semAt_plain F _ _ (by rw [hop]; intro c hc'; cases hc')]
  simp [execOp, hop, hm, hrun, Result.andThen]
  exact hK' _ _ hK
theorem wpList_next_run (hg : o.guard = none) (m : Operand) (hop : o.op = Op.next m false) {vm v : Value} (hm : a.eval m = vm) (hrun : ∀ ty, (Instr.next vm false ty).run P w = .ok v w') (hK : wpList P ops Q rest (a.put o.dst v) w') : wpList P ops Q (o :: rest) a w := by
  refine wpList_plain hg fun K' hK' => ?_
  unfold Oper.wp
  simp [execOp, hop, hm, hrun, Result.andThen]
  exact hK' _ _ hK
theorem wpListIn_next_run (hg : o.guard = none) (m : Operand) (hop : o.op = Op.next m false) {vm v : Value} (hm : a.eval m = vm) (hrun : ∀ ty, (Instr.next vm false ty).run P w = .ok v w') (hK : wpListIn F nF P ops Q rest (a.put o.dst v) w') : wpListIn F nF P ops Q (o :: rest) a w := by
  refine wpListIn_plain hg fun K' hK' => ?_
  unfold Oper.wpIn
  refine ⟨by simp [Oper.about, hop, resolve, Target.leads, Sem.run_pure], ?_⟩
  rw [Oper.semAt_plain F _ _ (by rw [hop]; intro c hc'; cases hc')]
  simp [execOp, hop, hm, hrun, Result.andThen]
  exact hK' _ _ hK
end
end Go.Proofs.Ytbcabjpafeocgaa

/-
  The contract of layer 11's Reach. Conditions: as the theorem says.
-/
namespace Go.Proofs.Ytbcabjpafeocgaa
set_option linter.unusedVariables false
set_option linter.unusedSimpArgs false
open Go.RowKit Go.Shelf Go.Maps

theorem refIntOk : MapOk Try.prog 51 35 3 .i64 .i64 :=
  ⟨Try.underlying51, Try.underlying35, Try.underlying3, fun w => by
    obtain ⟨i, hi, hz⟩ := Option.map_eq_some_iff.1 (show (Try.prog.info? 3).map (fun i => i.zero) = some (some (.int .i64 0)) by kernel_rfl)
    simp [zeroValue, typeInfo, hi, hz]⟩
/-- Those that were looked at, as the program's map has them. -/
def visM (V : Nat → Bool) : Int → Option Int := fun z => if 0 ≤ z ∧ V z.toNat = true then some 1 else none
theorem visM_none : visM (fun _ => false) = fun _ => none := by funext z; simp [visM]
theorem visM_at (V : Nat → Bool) (x : Nat) : visM V (x : Int) = if V x = true then some 1 else none := by simp [visM]
theorem visM_put (V : Nat → Bool) (x : Nat) : updM (visM V) (x : Int) (some 1) = visM (putB V x) := by
  funext z
  unfold updM visM putB
  by_cases e : z = (x : Int)
  · subst e; simp
  · by_cases h0 : 0 ≤ z
    · have : ¬ z.toNat = x := by omega
      simp [e, this]
    · simp [e, h0]
theorem wfx {x : Nat} (hx : x < 10000) : (Lit.int .i64 (x : Int)).wf = true := by
  simp only [Lit.wf, Bool.and_eq_true, decide_eq_true_eq]
  rw [show IntKind.i64.min = -9223372036854775808 from by decide, show IntKind.i64.max = 9223372036854775807 from by decide]
  omega

/-- What Reach needs to know of objects and of where they point. -/
structure Field_ (objs : List Nat) (T : Nat → List Nat) : Prop where
  nodup : objs.Nodup
  few : objs.length ≤ 64
  lt : ∀ x ∈ objs, 0 < x ∧ x < 3000
  short : ∀ x, (T x).length ≤ 40
  into : ∀ x ∈ objs, ∀ y ∈ T x, y ∈ objs
theorem todoN_le {T : Nat → List Nat} (h : ∀ x, (T x).length ≤ 40) (V : Nat → Bool) : ∀ l : List Nat, todoN T V l ≤ 40 * l.length
  | [] => by simp [todoN]
  | a :: l => by
    have h1 := todoN_le h V l
    have h2 := h a
    unfold todoN
    rw [List.length_cons]
    split <;> omega

section
variable {w0 w : World} {R0 : List Res} {b : Nat} {T : Nat → List Nat} {objs from_ : List Nat} {v0 : Value}
/-- The search is under way: k is how much is still to do. -/
def ReachJ (w0 : World) (R0 : List Res) (b mb : Nat) (T : Nat → List Nat) (objs from_ : List Nat) (v0 v : Value) (w : World) (k : Nat) : Prop :=
  ∃ (V : Nat → Bool) (l : List Nat), Seek T from_ V l ∧ (∀ x ∈ l, x ∈ objs) ∧ (∀ x, V x = true → x ∈ objs) ∧ k = l.length + todoN T V objs ∧ k ≤ 3000 ∧
    Sep w0 w (rowR 35 1 v l.length (nums l) :: mapR Try.prog 51 35 3 .i64 .i64 mb (objs.countP V) (visM V) :: rowR 35 1 v0 from_.length (nums from_) :: adjR Try.prog 35 35 b T :: R0)
end
end Go.Proofs.Ytbcabjpafeocgaa

/-
  The contract of layer 11's some. Conditions: as the theorem says.
-/
namespace Go.Proofs.Ytbcabjpafeocgaa
set_option linter.unusedVariables false
set_option linter.unusedSimpArgs false
open Go.RowKit Go.Shelf

section
variable {w0 w : World} {R0 : List Res} {rs : List Nat} {v0 : Value}
end
end Go.Proofs.Ytbcabjpafeocgaa

/-
  What layer 11's statements come to, as plain data. Conditions: as each theorem says; no walk.
-/
namespace Go.Proofs.Ytbcabjpafeocgaa
set_option linter.unusedVariables false
set_option linter.unusedSimpArgs false

theorem elems_nodup (n : Nat) (S : Nat → Bool) : (elems n S).Nodup := List.Pairwise.filter _ List.nodup_range
/-- As many as there are of them among the objects. -/
theorem elems_count {n : Nat} {S : Nat → Bool} {l : List Nat} (hn : l.Nodup) (hl : ∀ x ∈ l, x < n) (hS : ∀ x, S x = true → x ∈ l) : (elems n S).length = l.countP S := by
  rw [List.countP_eq_length_filter]
  refine List.Perm.length_eq ((List.perm_ext_iff_of_nodup (elems_nodup n S) (List.Pairwise.filter _ hn)).2 (fun x => ?_))
  rw [mem_elems, List.mem_filter]
  constructor
  · rintro ⟨_, h⟩; exact ⟨hS x h, h⟩
  · rintro ⟨h1, h2⟩; exact ⟨hl x h1, h2⟩

section
variable {pts : Nat → List Nat} {d : Nat} {C C' : Col} {l : List Nat}
/-- What was scanned points to what is marked. -/
def Col.shut (C : Col) (pts : Nat → List Nat) : Prop := ∀ x, C.sc x = true → ∀ y ∈ pts x, C.mz y = true
theorem shut_none (pts : Nat → List Nat) : Col.none.shut pts := fun _ h => by cases h
theorem Steps.shut (h : Steps pts d C C') (hs : C.shut pts) : C'.shut pts := by
  intro x hx y hy
  rcases h.scanned x hx with h1 | h1
  · exact h.mono.1 y (hs x h1 y hy)
  · exact h1 y hy
theorem shut_shade (hs : C.shut pts) (r : Nat) : (C.shade r).shut pts := by
  intro x hx y hy
  show (C.mz y || _) = true
  rw [hs x hx y hy]
  rfl
theorem shut_shades (hs : C.shut pts) (rs : List Nat) : (C.shades rs).shut pts := by
  intro x hx y hy
  rw [shades_sc] at hx
  rw [shades_mz, hs x hx y hy]
  rfl
/-- Its fields are others now, and it is scanned no more. -/
theorem shut_regrey {pts' : Nat → List Nat} {r : Nat} (hs : C.shut pts) (hm : C.mz r = true) (hp : ∀ x, x ≠ r → pts' x = pts x) : (C.regrey r).shut pts' := by
  intro x hx y hy
  unfold Col.regrey at hx ⊢
  rw [if_pos hm] at hx ⊢
  simp only [Bool.and_eq_true, Bool.not_eq_true', decide_eq_false_iff_not] at hx
  rw [hp x hx.2] at hy
  exact hs x hx.1 y hy
theorem regrey_mz (C : Col) (r : Nat) : (C.regrey r).mz = C.mz := by unfold Col.regrey; split <;> rfl
theorem regrey_sub {r : Nat} (hs : ∀ x, C.sc x = true → C.mz x = true) : ∀ x, (C.regrey r).sc x = true → (C.regrey r).mz x = true := by
  intro x hx
  rw [regrey_mz]
  unfold Col.regrey at hx
  split at hx
  · simp only [Bool.and_eq_true] at hx
    exact hs x hx.1
  · exact hs x hx
/-- All that is marked is scanned: what is marked points to what is marked. -/
theorem shut_end (hs : C.shut pts) (hno : ∀ x, C.grey x = false) : ∀ x, C.mz x = true → ∀ y ∈ pts x, C.mz y = true := by
  intro x hx y hy
  refine hs x ?_ y hy
  cases e : C.sc x with
  | true => rfl
  | false =>
    have := hno x
    rw [show C.grey x = (C.mz x && !C.sc x) from rfl, hx, e] at this
    cases this
/-- Steps scan none of those that were scanned ahead: where these point plays no part. -/
theorem Steps.blind {pts' : Nat → List Nat} (h : Steps pts d C C') (hp : ∀ x, C.sc x = false → pts' x = pts x) : Steps pts' d C C' := by
  induction h with
  | zero => exact .zero _
  | @succ d C C1 r hs hg ih =>
    have hr : C.sc r = false := by
      cases e : C.sc r with
      | false => rfl
      | true =>
        have h1 := hs.mono.2 r e
        have h2 := (grey_iff.1 hg).2
        rw [h1] at h2
        cases h2
    rw [← hp r hr]
    exact .succ r (ih hp) hg
/-- What so many steps, or the end, come to. -/
theorem traced (h : Steps pts d C C') (hn : l.Nodup) (hc : ∀ x ∈ l, ∀ y ∈ pts x, y ∈ l) (h0 : ∀ x, C.mz x = true → x ∈ l) {k : Nat} (hk : l.length ≤ k) (hd : d < k → ∀ x, C'.grey x = false) : ∀ x, C'.grey x = false := by
  by_cases e : d < k
  · exact hd e
  · exact h.enough hn hc h0 (by omega)
/-- The number of those scanned, from none on. -/
theorem Steps.count0 (h : Steps pts d C C') (hn : l.Nodup) (hc : ∀ x ∈ l, ∀ y ∈ pts x, y ∈ l) (h0 : ∀ x, C.mz x = true → x ∈ l) (hs : ∀ x, C.sc x = false) : l.countP C'.sc = d := by
  rw [h.count hn hc h0, List.countP_eq_zero.2 (fun x _ => by rw [hs x]; decide)]
  omega
theorem leads_in {R : Nat → Prop} (hR : ∀ x, R x → x ∈ l) (hc : ∀ x ∈ l, ∀ y ∈ pts x, y ∈ l) : ∀ x, Leads pts R x → x ∈ l := leads_closed hR hc
theorem leads_mono {R R' : Nat → Prop} {pts' : Nat → List Nat} (hR : ∀ x, R x → R' x) (hp : ∀ x, ∀ y ∈ pts x, y ∈ pts' x) : ∀ x, Leads pts R x → Leads pts' R' x := by
  intro x h
  induction h with
  | base h => exact .base (hR _ h)
  | step _ hy ih => exact .step ih (hp _ _ hy)
end
end Go.Proofs.Ytbcabjpafeocgaa

/-
  Small of layer 11, and plain facts of tracing that the laws ask for. Conditions: as each theorem says.
-/
namespace Go.Proofs.Ytbcabjpafeocgaa
set_option linter.unusedVariables false
set_option linter.unusedSimpArgs false
open Go.RowKit Go.Shelf

theorem elems_white (n : Nat) : (elems n Col.white.mz).length = 0 := by
  unfold elems
  rw [List.filter_eq_nil_iff.2 (fun x _ => by simp [Col.white])]
  rfl
theorem white_grey (x : Nat) : Col.white.grey x = false := rfl
theorem shut_none_w (pts : Nat → List Nat) : Col.white.shut pts := fun _ h => by cases h
theorem Small11 (w : World) (A0 : Option Addr) (n0 c0 : Nat) (A1 : Option Addr) (n1 c1 : Nat) : Calls Try.prog 13 #[.agg #[.slice A0 n0 c0, .slice A1 n1 c1]] w fun e w' => e = .returned (.bool (decide (n0 ≤ 40) && decide (n1 ≤ 120))) ∧ Chg [] w w' := by
  by_cases h0 : n0 ≤ 40
  · have h0I : (n0 : Int) ≤ 40 := by omega
    by_cases h1 : n1 ≤ 120
    · have h1I : (n1 : Int) ≤ 120 := by omega
      have H0 := Lib.hid h0
      have H1 := Lib.hid h1
      clear h0 h1
      go_enter Try.func13, Try.ntmps13
      go_wp2
      go_ret
      refine ⟨?_, (Chg.refl _ _).alloc _⟩
      rw [decide_eq_true H0.out, decide_eq_true H1.out]
      rfl
    · have h1I : ¬ (n1 : Int) ≤ 120 := by omega
      have H0 := Lib.hid h0
      have H1 := Lib.hid h1
      clear h0 h1
      go_enter Try.func13, Try.ntmps13
      go_wp2
      go_ret
      refine ⟨?_, (Chg.refl _ _).alloc _⟩
      rw [decide_eq_true H0.out, decide_eq_false H1.out]
      rfl
  · have h0I : ¬ (n0 : Int) ≤ 40 := by omega
    have H0 := Lib.hid h0
    clear h0
    go_enter Try.func13, Try.ntmps13
    go_wp2
    go_ret
    refine ⟨?_, (Chg.refl _ _).alloc _⟩
    rw [decide_eq_false H0.out]
    rfl

section
variable {pts : Nat → List Nat} {d k : Nat} {C C' : Col} {l : List Nat} {A : AR} {rs : List Nat} {fs : Nat → List Nat}
theorem Gr.field (h : Gr A rs fs) (hl : rs.length ≤ 40) : Field_ rs (ptsOf fs) :=
  ⟨h.nodup, by omega, fun x hx => h.heap.pos hx, fun x => by
    by_cases hx : x ∈ rs
    · have := (ptsOf_len h.heap hx).1; omega
    · rw [h.ptsOut hx]; simp, h.ptsIn⟩
theorem Gr.lt (h : Gr A rs fs) {x : Nat} (hx : x ∈ rs) : 0 < x ∧ x < 2049 := by
  have h1 := h.heap.lt hx
  rw [h.size] at h1
  exact ⟨(h.heap.pos hx).1, by omega⟩
theorem Steps.none_ (h : Steps pts d C C') (hno : ∀ x, C.grey x = false) : d = 0 ∧ C' = C := by
  induction h with
  | zero => exact ⟨rfl, rfl⟩
  | succ r hs hg ih =>
    obtain ⟨_, rfl⟩ := ih hno
    rw [hno r] at hg
    cases hg
theorem Traced.none_ (h : Traced pts k d C C') (hno : ∀ x, C.grey x = false) : d = 0 ∧ C' = C := h.steps.none_ hno
theorem Traced.some_ (h : Traced pts k d C C') (hk : 0 < k) {x : Nat} (hx : C.grey x = true) : 0 < d := by
  rcases Nat.eq_zero_or_pos d with h0 | h0
  · subst h0
    have h1 := h.end_ hk x
    cases h.steps with
    | zero => rw [h1] at hx; cases hx
  · exact h0
theorem white_shades (l : List Nat) (x : Nat) : (Col.white.shades l).mz x = decide (x ∈ l) := by rw [shades_mz]; simp [Col.white]
theorem white_shades_sc (l : List Nat) (x : Nat) : (Col.white.shades l).sc x = false := by rw [shades_sc]; rfl
theorem shades_next {C : Col} {l : List Nat} {k x : Nat} (h : l[k]? = some x) : (C.shades (l.take k)).shade x = C.shades (l.take (k + 1)) := by
  rw [List.take_add_one, h]
  simp [Col.shades]
theorem shades_all {C : Col} {l : List Nat} {n : Nat} (h : l.length = n) : C.shades (l.take n) = C.shades l := by rw [← h, List.take_length]
/-- Traced to the end, just what can be reached is marked, and scanned. -/
theorem reach_marks {out : List Nat} {V : Nat → Bool} (h : Steps pts d (Col.white.shades out) C) (hno : ∀ x, C.grey x = false) (hV : ∀ x, V x = true ↔ Leads pts (fun x => x ∈ out) x) : C.mz = V ∧ C.sc = V := by
  have e : (fun x => (Col.white.shades out).mz x = true) = fun x => x ∈ out := funext fun x => by
    rw [white_shades]
    exact propext decide_eq_true_iff
  have hmz : C.mz = V := by
    funext x
    rw [Bool.eq_iff_iff, h.done hno (fun x hx => by rw [white_shades_sc] at hx; cases hx) x, hV x, e]
  have hsub := h.sub (fun x hx => by rw [white_shades_sc] at hx; cases hx)
  refine ⟨hmz, ?_⟩
  funext x
  rw [Steps.end_ hno hsub x, hmz]
/-- Shades of R's objects and steps of tracing, in any order, from white on. -/
structure Run (pts : Nat → List Nat) (R : Nat → Prop) (C : Col) : Prop where
  within : ∀ x, C.mz x = true → Leads pts R x
  shut : C.shut pts
  sub : ∀ x, C.sc x = true → C.mz x = true
theorem run_white (pts : Nat → List Nat) (R : Nat → Prop) : Run pts R Col.white := ⟨fun _ h => (by cases h), fun _ h => (by cases h), fun _ h => (by cases h)⟩
theorem Run.shade {R : Nat → Prop} (h : Run pts R C) {x : Nat} (hx : R x) : Run pts R (C.shade x) :=
  ⟨fun y hy => by
    have hy' : (C.mz y || decide (y = x)) = true := hy
    simp only [Bool.or_eq_true, decide_eq_true_eq] at hy'
    rcases hy' with h1 | rfl
    · exact h.within y h1
    · exact .base hx, shut_shade h.shut x, fun y hy => by
    show (C.mz y || _) = true
    rw [h.sub y hy]
    rfl⟩
theorem Run.steps {R : Nat → Prop} (h : Run pts R C) (hs : Steps pts d C C') : Run pts R C' :=
  ⟨hs.within (P := Leads pts R) (fun x hx y hy => .step hx hy) h.within, hs.shut h.shut, hs.sub h.sub⟩
theorem Run.end_ {R : Nat → Prop} (h : Run pts R C) (hno : ∀ x, C.grey x = false) (hR : ∀ x, R x → C.mz x = true) (x : Nat) : (C.mz x = true ↔ Leads pts R x) ∧ C.sc x = C.mz x :=
  ⟨⟨h.within x, leads_closed hR (fun x hx y hy => shut_end h.shut hno x hx y hy) x⟩, Steps.end_ hno h.sub x⟩
theorem run_shades {R : Nat → Prop} (hl : ∀ x ∈ l, R x) : ∀ {C : Col}, Run pts R C → Run pts R (C.shades l) := by
  induction l with
  | nil => exact fun h => h
  | cons a l ih => exact fun h => ih (fun x hx => hl x (List.mem_cons_of_mem _ hx)) (h.shade (hl a (by simp)))
theorem shade_mz (C : Col) (x : Nat) : (C.shade x).mz x = true := by simp [Col.shade]
theorem shade_keeps {x y : Nat} (h : C.mz y = true) : (C.shade x).mz y = true := by
  show (C.mz y || _) = true
  rw [h]
  rfl
theorem some_grey (h : ¬ ∀ x, C.grey x = false) : ∃ x, C.grey x = true := by
  apply Classical.byContradiction
  intro hn
  exact h fun x => by
    cases e : C.grey x with
    | false => rfl
    | true => exact absurd ⟨x, e⟩ hn
theorem Steps.most0 (h : Steps pts d (Col.white.shades l) C) {out : List Nat} (hn : out.Nodup) (hc : ∀ x ∈ out, ∀ y ∈ pts x, y ∈ out) (h0 : ∀ x ∈ l, x ∈ out) : out.countP C.sc = d ∧ d ≤ out.length := by
  have h1 := h.count0 hn hc (fun x hx => h0 x (by rw [white_shades] at hx; exact of_decide_eq_true hx)) (white_shades_sc l)
  exact ⟨h1, by have := List.countP_le_length (p := C.sc) (l := out); omega⟩
end
end Go.Proofs.Ytbcabjpafeocgaa
