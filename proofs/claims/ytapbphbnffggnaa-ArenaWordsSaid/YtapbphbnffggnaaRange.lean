/-
  The loop over a function, where memory is a list of things: what an iterator promises, and the law of the loop. Conditions: no program is named here.
-/
import Derived.Test.YtapbphbnffggnaaSep
import Derived.RangeFuncNested
import Derived.RangeFuncBound
import Derived.RangeFuncCalls
import Derived.RangeFuncLeaves
import Derived.Shelf.Abstract
import Derived.Shelf.RegionOpen
import Derived.WalkKit
import Derived.OwnWalkIn
import Derived.TacticsInMore
import Derived.LoopNIn
import Derived.LoopIn
namespace Go.Proofs.Ytapbphbnffggnaa
set_option linter.unusedVariables false
set_option linter.unusedSimpArgs false
open Go.RowKit Go.Shelf

theorem calls_wide {P : Program} {f : FuncId} {args : Array Value} {w : World} {R : Ending → World → Prop} (h : CallsIn Fence.wide 0 P f args w R) : Calls P f args w R := callsIn_wide.1 h
theorem calls_in {P : Program} {f : FuncId} {args : Array Value} {w : World} {R : Ending → World → Prop} (h : Calls P f args w R) : CallsIn Fence.wide 0 P f args w R := callsIn_wide.2 h
theorem calls_round {P : Program} {f : FuncId} {args : Array Value} {w : World} {R : Ending → World → Prop} {l : Nat} (h : Calls P f args w R) : CallsIn (Fence.wide.inRound l) 0 P f args w R := CallsIn.inRound l (callsIn_wide.2 h)

theorem wide_fn (f : FuncId) : Fence.wide.fn f = True := rfl
theorem wide_depth : Fence.wide.depth = none := rfl
theorem round_depth (l : Nat) : (Fence.wide.inRound l).depth = none := rfl
theorem round_fn (l : Nat) (f : FuncId) : (Fence.wide.inRound l).fn f = True := rfl

/-- A piece of code that is left at its end alone. -/
theorem calm {P : Program} {F : Fence} {n : Nat} {c : Code} {Q : Exit → Act → World → Prop} {a : Act} {w : World} (h : c.wpIn F n P (Exit.then (Q .normal) (fun _ _ _ => False)) a w) : c.wpIn F n P Q a w :=
  wpIn_mono h (by intro e a w he; cases e <;> first | exact he | exact he.elim)

/-- The function gf, with lb captured, yields xs one behind the other; K pre: what it holds where pre have come. -/
def Iter {α : Type} (P : Program) (gf : Nat) (lb : Array Value) (encs : α → Array Value) (xs : List α) (K : List α → List Res) : Prop :=
  ∀ (l : Nat) (w0 : World) (Φ Φx : List α → List Res → Prop) (W : World) (R : List Res),
    (∀ pre x R H W, (pre ++ [x]) <+: xs → Φ pre R → Sep w0 W (K (pre ++ [x]) ++ (R ++ H)) → YieldAt Fence.wide 0 P l (encs x) W fun e W' =>
      (e = .returned (.bool true) ∧ ∃ R', Φ (pre ++ [x]) R' ∧ Sep w0 W' (K (pre ++ [x]) ++ (R' ++ H))) ∨ (e = .returned (.bool false) ∧ ∃ R', Φx (pre ++ [x]) R' ∧ Sep w0 W' (K (pre ++ [x]) ++ (R' ++ H)))) →
    Φ [] R → Sep w0 W (K [] ++ R) →
    Calls P gf (#[.func (.yield l) #[] #[]] ++ lb) W fun e W' => (∃ v, e = .returned v) ∧
      ((∃ R', Φ xs R' ∧ Sep w0 W' (K xs ++ R')) ∨ (∃ pre R', pre <+: xs ∧ Φx pre R' ∧ Sep w0 W' (K pre ++ R')))

/-- How a round's body may be left. -/
def roundS {α : Type} (w0 : World) (K : List α → List Res) (H G : List Res) (Φ : List α → List Res → Prop) (Φx : Code → List α → List Res → Prop) (pre : List α) : Exit → Act → World → Prop
  | .normal, _, W' => ∃ R', Φ pre R' ∧ Sep w0 W' (K pre ++ (H ++ (R' ++ G)))
  | .ret, _, W' => ∃ R', Φx .ret pre R' ∧ Sep w0 W' (K pre ++ (H ++ (R' ++ G)))
  | .exit id, _, W' => ∃ R', Φx (.exit id) pre R' ∧ Sep w0 W' (K pre ++ (H ++ (R' ++ G)))
  | .goto t, _, W' => ∃ R', Φx (.goto t) pre R' ∧ Sep w0 W' (K pre ++ (H ++ (R' ++ G)))
  | .panic _, _, _ => False
  | .outgrown, _, _ => False

theorem perm_mid (A B C : List Res) : (A ++ (B ++ C)).Perm (B ++ (A ++ C)) := by
  rw [← List.append_assoc, ← List.append_assoc]
  exact List.Perm.append_right C List.perm_append_comm

section
variable {P : Program} {w w0 W : World} {R H : List Res}

theorem sep_getLoop {A C : List Res} {l : Nat} {o : Obj} (h : Sep w0 W (A ++ (objR l o :: C))) : W.heap[l]? = some o := by
  have := h.perm (perm_mid A [objR l o] C)
  exact this.obj (i := 0) rfl
theorem sep_putLoop {A C : List Res} {l : Nat} {o : Obj} (h : Sep w0 W (A ++ (objR l o :: C))) (o' : Obj) : Sep w0 (W.putObj l o') (A ++ (objR l o' :: C)) := by
  have := (h.perm (perm_mid A [objR l o] C)).putObj 0 rfl o'
  exact this.perm (perm_mid A [objR l o'] C).symm

/-- The rounds, once the record is laid. -/
theorem rounds_sep {α : Type} {g : Nat} {ps : Array Tmp} {assign body : Code} {lb : Array Value} {encs : α → Array Value} {xs : List α} {K : List α → List Res} (hit : Iter P g lb encs xs K) (hps : ∀ x, (encs x).size = ps.size)
    {l : Nat} {rec : LoopState → Option Code → Loop} {fn : FuncId} {tmps : Array Value} {df : Nat} (hrec : rec = fun st pe => { state := st, pending := pe, fn, tmps, params := ps, assign, body, defers := df }) {H : List Res}
    (S : Sep w0 W (K [] ++ (objR l (.loop (rec .ready none)) :: (H ++ R))))
    (Φ : List α → List Res → Prop) (Φx : Code → List α → List Res → Prop) (h0 : Φ [] R)
    (hround : ∀ (pre : List α) (x : α) (R G : List Res) (W : World) (r : Loop), (pre ++ [x]) <+: xs → Φ pre R → Sep w0 W (K (pre ++ [x]) ++ (objR l (.loop r) :: (H ++ (R ++ G)))) →
      assign.wpIn (Fence.wide.inRound l) 0 P (Exit.then (fun a' W' => ∃ B, Sep w0 W' (K (pre ++ [x]) ++ (objR l (.loop r) :: (H ++ (B ++ (R ++ G))))) ∧
        ∀ (r' : Loop) (W2 : World), Sep w0 W2 (K (pre ++ [x]) ++ (objR l (.loop r') :: (H ++ (B ++ (R ++ G))))) → body.wpIn (Fence.wide.inRound l) 0 P (roundS w0 K (objR l (.loop r') :: H) G Φ Φx (pre ++ [x])) a' W2) (fun _ _ _ => False))
        { tmps := (ps.zip (encs x)).foldl (fun t (p, v) => t.setIfInBounds p v) tmps, defers := [] } W) :
    Calls P g (#[.func (.yield l) #[] #[]] ++ lb) W fun e W' => ∃ v, e = .returned v ∧
      ((∃ R', Φ xs R' ∧ Sep w0 W' (K xs ++ (objR l (.loop (rec .ready none)) :: (H ++ R')))) ∨
       (∃ c pre R', pre <+: xs ∧ Φx c pre R' ∧ Sep w0 W' (K pre ++ (objR l (.loop (rec .done (some c))) :: (H ++ R'))))) := by
  refine (hit l w0 (fun pre Rs => ∃ R, Rs = objR l (.loop (rec .ready none)) :: (H ++ R) ∧ Φ pre R) (fun pre Rs => ∃ c R, Rs = objR l (.loop (rec .done (some c))) :: (H ++ R) ∧ Φx c pre R) W _ ?_ ⟨R, rfl, h0⟩ S).mono ?_
  · rintro pre x _ G W hpre ⟨R, rfl, hΦ⟩ hS
    simp only [List.cons_append, List.append_assoc] at hS
    have hl := sep_getLoop hS
    have hy := run_yield (P := P) (args := encs x) hl (by rw [hrec]; exact hps x)
    rw [hrec] at hy
    refine ⟨fn, _, assign, body, hy, roundIn_of_wpIn trivial (wpIn_mono (hround pre x R G W _ hpre hΦ hS) ?_)⟩
    rintro e a' W' he
    cases e with
    | exit _ => exact he.elim
    | goto _ => exact he.elim
    | ret => exact he.elim
    | panic _ => exact he.elim
    | outgrown => exact he.elim
    | normal =>
    obtain ⟨B, hS', hbody⟩ := he
    have hl' := sep_getLoop hS'
    refine ⟨_, run_beginRound hl' (by rw [hrec]), ?_⟩
    have hS2 := sep_putLoop hS' (.loop { rec .ready none with state := .busy })
    refine wpIn_mono (hbody _ _ hS2) ?_
    rintro e a3 W3 hp
    have fin : ∀ (jump : Option Code) {R' : List Res}, Sep w0 W3 (K (pre ++ [x]) ++ (objR l (.loop { rec .ready none with state := .busy }) :: (H ++ (R' ++ G)))) →
        (Instr.endRound l jump).run P W3 = .ok (.bool jump.isNone) (W3.putObj l (.loop (rec (if jump.isNone then .ready else .done) jump))) ∧
        Sep w0 (W3.putObj l (.loop (rec (if jump.isNone then .ready else .done) jump))) (K (pre ++ [x]) ++ (objR l (.loop (rec (if jump.isNone then .ready else .done) jump)) :: (H ++ R') ++ G)) := fun jump R' hS3 => by
      have := run_endRound (P := P) jump (sep_getLoop hS3)
      rw [hrec] at this hS3 ⊢
      simp only [List.cons_append, List.append_assoc]
      exact ⟨this, sep_putLoop hS3 _⟩
    cases e with
    | normal =>
      obtain ⟨R', hΦ', hS3⟩ := hp
      obtain ⟨hr, hS4⟩ := fin none hS3
      exact ⟨_, _, hr, .inl ⟨rfl, _, ⟨R', rfl, hΦ'⟩, hS4⟩⟩
    | ret =>
      obtain ⟨R', hΦ', hS3⟩ := hp
      obtain ⟨hr, hS4⟩ := fin (some .ret) hS3
      exact ⟨_, _, hr, .inr ⟨rfl, _, ⟨.ret, R', rfl, hΦ'⟩, hS4⟩⟩
    | exit id =>
      obtain ⟨R', hΦ', hS3⟩ := hp
      obtain ⟨hr, hS4⟩ := fin (some (.exit id)) hS3
      exact ⟨_, _, hr, .inr ⟨rfl, _, ⟨.exit id, R', rfl, hΦ'⟩, hS4⟩⟩
    | goto t =>
      obtain ⟨R', hΦ', hS3⟩ := hp
      obtain ⟨hr, hS4⟩ := fin (some (.goto t)) hS3
      exact ⟨_, _, hr, .inr ⟨rfl, _, ⟨.goto t, R', rfl, hΦ'⟩, hS4⟩⟩
    | panic ch => exact hp.elim
    | outgrown => exact hp.elim
  · rintro e W2 ⟨⟨v, rfl⟩, (⟨_, ⟨R', rfl, hΦ'⟩, hS'⟩ | ⟨pre, _, hpre, ⟨c, R', rfl, hΦ'⟩, hS'⟩)⟩
    · exact ⟨v, rfl, .inl ⟨R', hΦ', hS'⟩⟩
    · exact ⟨v, rfl, .inr ⟨c, pre, R', hpre, hΦ', hS'⟩⟩

/-- A loop over a function, in no round. -/
theorem wp_range {α : Type} {g : Operand} {ps : Array Tmp} {assign body : Code} {Q : Exit → Act → World → Prop} {a : Act}
    {gf : Nat} {lb : Array Value} (hg : a.eval g = .func (.func gf) #[] lb) (eg : ∀ args w, (callFunc gf args).run P w = .ok (.enter gf args) w)
    {encs : α → Array Value} {xs : List α} {K : List α → List Res} (hit : Iter P gf lb encs xs K) (hps : ∀ x, (encs x).size = ps.size)
    (S : Sep w0 w (K [] ++ R))
    (Φ : List α → List Res → Prop) (Φx : Code → List α → List Res → Prop) (h0 : Φ [] R)
    (hround : ∀ (l D : Nat) (pre : List α) (x : α) (R G : List Res) (W : World) (r : Loop), (pre ++ [x]) <+: xs → Φ pre R → Sep w0 W (K (pre ++ [x]) ++ (objR l (.loop r) :: objR D (.deferred (some [])) :: (R ++ G))) →
      assign.wpIn (Fence.wide.inRound l) 0 P (Exit.then (fun a' W' => ∃ B, Sep w0 W' (K (pre ++ [x]) ++ (objR l (.loop r) :: objR D (.deferred (some [])) :: (B ++ (R ++ G)))) ∧
        ∀ (r' : Loop) (W2 : World), Sep w0 W2 (K (pre ++ [x]) ++ (objR l (.loop r') :: objR D (.deferred (some [])) :: (B ++ (R ++ G)))) → body.wpIn (Fence.wide.inRound l) 0 P (roundS w0 K [objR l (.loop r'), objR D (.deferred (some []))] G Φ Φx (pre ++ [x])) a' W2) (fun _ _ _ => False))
        { tmps := (ps.zip (encs x)).foldl (fun t (p, v) => t.setIfInBounds p v) a.tmps, defers := [] } W)
    (hdone : ∀ (D : Nat) (R : List Res) (W : World), Φ xs R → Sep w0 W (K xs ++ (objR D (.deferred (some [])) :: R)) → Q .normal { a with defers := { target := .collected D, args := #[] } :: a.defers } W)
    (hstop : ∀ (D : Nat) (c : Code) (pre : List α) (R : List Res) (W : World), pre <+: xs → Φx c pre R → Sep w0 W (K pre ++ (objR D (.deferred (some [])) :: R)) → c.wpIn Fence.wide 0 P Q { a with defers := { target := .collected D, args := #[] } :: a.defers } W) :
    (Code.rangeFunc g ps assign body).wpIn Fence.wide 0 P Q a w := by
  refine wpIn_rangeFunc ?_
  intro fn _
  rw [show Fence.wide.round = none from rfl]
  obtain ⟨rec, hrec⟩ : ∃ rec : LoopState → Option Code → Loop, rec = fun st pe => { state := st, pending := pe, fn, tmps := a.tmps, params := ps, assign, body, defers := w.heap.size } := ⟨_, rfl⟩
  have S1 : Sep w0 ((w.alloc (.deferred (some []))).alloc (.loop (rec .ready none))) (K [] ++ (objR (w.heap.size + 1) (.loop (rec .ready none)) :: ([objR w.heap.size (.deferred (some []))] ++ R))) := by
    have := (S.alloc (.deferred (some []))).alloc (.loop (rec .ready none))
    rw [World.size_alloc] at this
    exact this.perm (perm_mid [objR (w.heap.size + 1) (.loop (rec .ready none)), objR w.heap.size (.deferred (some []))] (K []) R)
  obtain ⟨W1, hW1⟩ : ∃ W1, (w.alloc (.deferred (some []))).alloc (.loop (rec .ready none)) = W1 := ⟨_, rfl⟩
  refine ⟨w.heap.size + 1, [{ target := .collected w.heap.size, args := #[] }], W1, { target := .fn (.func gf) lb, args := #[.func (.yield (w.heap.size + 1)) #[] #[]] }, W1, gf,
    #[.func (.yield (w.heap.size + 1)) #[] #[]] ++ lb, W1, ?_, ?_, ?_, ?_, (by intro h; cases h), callsIn_wide.2 ?_⟩
  · rw [← hW1, hrec]; exact run_enterLoop_outer _ _ _ _ _
  · simp only [resolve, hg]
    simp [go_sem]
  · intro f' _; trivial
  · simp [invoke, go_sem, eg]
  · rw [hW1] at S1
    refine (rounds_sep hit hps hrec S1 Φ Φx h0 (fun pre x R G W r h1 h2 h3 => hround _ _ pre x R G W r h1 h2 h3)).mono ?_
    rintro e W2 ⟨v, rfl, (⟨R', hΦ', hS'⟩ | ⟨c, pre, R', hpre, hΦ', hS'⟩)⟩
    · refine ⟨none, _, by have := run_endLoop (P := P) (sep_getLoop hS') (by rw [hrec]; simp); rw [hrec] at this; exact this, ?_⟩
      refine hdone _ R' _ hΦ' ?_
      have h5 := sep_putLoop hS' (.loop { rec .ready none with state := .exhausted })
      rw [hrec] at h5
      exact (h5.perm (perm_mid _ [_] _)).tail
    · refine ⟨some c, _, by have := run_endLoop (P := P) (sep_getLoop hS') (by rw [hrec]; simp); rw [hrec] at this; exact this, ?_⟩
      refine hstop _ c pre R' _ hpre hΦ' ?_
      have h5 := sep_putLoop hS' (.loop { rec .done (some c) with state := .exhausted })
      rw [hrec] at h5
      exact (h5.perm (perm_mid _ [_] _)).tail

/-- A loop over a function, in a round of another. -/
theorem wp_range_in {α : Type} {g : Operand} {ps : Array Tmp} {assign body : Code} {Q : Exit → Act → World → Prop} {a : Act} {l₀ : Nat} {r₀ : Loop} (hl₀ : w.heap[l₀]? = some (.loop r₀))
    {gf : Nat} {lb : Array Value} (hg : a.eval g = .func (.func gf) #[] lb) (eg : ∀ args w, (callFunc gf args).run P w = .ok (.enter gf args) w)
    {encs : α → Array Value} {xs : List α} {K : List α → List Res} (hit : Iter P gf lb encs xs K) (hps : ∀ x, (encs x).size = ps.size)
    (S : Sep w0 w (K [] ++ R))
    (Φ : List α → List Res → Prop) (Φx : Code → List α → List Res → Prop) (h0 : Φ [] R)
    (hround : ∀ (l : Nat) (pre : List α) (x : α) (R G : List Res) (W : World) (r : Loop), (pre ++ [x]) <+: xs → Φ pre R → Sep w0 W (K (pre ++ [x]) ++ (objR l (.loop r) :: (R ++ G))) →
      assign.wpIn (Fence.wide.inRound l) 0 P (Exit.then (fun a' W' => ∃ B, Sep w0 W' (K (pre ++ [x]) ++ (objR l (.loop r) :: (B ++ (R ++ G)))) ∧
        ∀ (r' : Loop) (W2 : World), Sep w0 W2 (K (pre ++ [x]) ++ (objR l (.loop r') :: (B ++ (R ++ G)))) → body.wpIn (Fence.wide.inRound l) 0 P (roundS w0 K [objR l (.loop r')] G Φ Φx (pre ++ [x])) a' W2) (fun _ _ _ => False))
        { tmps := (ps.zip (encs x)).foldl (fun t (p, v) => t.setIfInBounds p v) a.tmps, defers := [] } W)
    (hdone : ∀ (R : List Res) (W : World), Φ xs R → Sep w0 W (K xs ++ R) → Q .normal a W)
    (hstop : ∀ (c : Code) (pre : List α) (R : List Res) (W : World), pre <+: xs → Φx c pre R → Sep w0 W (K pre ++ R) → c.wpIn (Fence.wide.inRound l₀) 0 P Q a W) :
    (Code.rangeFunc g ps assign body).wpIn (Fence.wide.inRound l₀) 0 P Q a w := by
  refine wpIn_rangeFunc ?_
  intro fn _
  rw [show (Fence.wide.inRound l₀).round = some l₀ from rfl]
  obtain ⟨rec, hrec⟩ : ∃ rec : LoopState → Option Code → Loop, rec = fun st pe => { state := st, pending := pe, fn, tmps := a.tmps, params := ps, assign, body, defers := r₀.defers } := ⟨_, rfl⟩
  have S1 : Sep w0 (w.alloc (.loop (rec .ready none))) (K [] ++ (objR w.heap.size (.loop (rec .ready none)) :: ([] ++ R))) := by
    have := S.alloc (.loop (rec .ready none))
    exact this.perm (perm_mid [objR w.heap.size (.loop (rec .ready none))] (K []) R)
  obtain ⟨W1, hW1⟩ : ∃ W1, w.alloc (.loop (rec .ready none)) = W1 := ⟨_, rfl⟩
  refine ⟨w.heap.size, [], W1, { target := .fn (.func gf) lb, args := #[.func (.yield w.heap.size) #[] #[]] }, W1, gf,
    #[.func (.yield w.heap.size) #[] #[]] ++ lb, W1, ?_, ?_, ?_, ?_, (by intro h; cases h), CallsIn.inRound l₀ (callsIn_wide.2 ?_)⟩
  · rw [← hW1, hrec]; exact run_enterLoop_inner hl₀ _ _ _ _ _
  · simp only [resolve, hg]
    simp [go_sem]
  · intro f' _; trivial
  · simp [invoke, go_sem, eg]
  · rw [hW1] at S1
    refine (rounds_sep hit hps hrec S1 Φ Φx h0 (fun pre x R G W r h1 h2 h3 => hround _ pre x R G W r h1 h2 h3)).mono ?_
    rintro e W2 ⟨v, rfl, (⟨R', hΦ', hS'⟩ | ⟨c, pre, R', hpre, hΦ', hS'⟩)⟩
    · refine ⟨none, _, by have := run_endLoop (P := P) (sep_getLoop hS') (by rw [hrec]; simp); rw [hrec] at this; exact this, ?_⟩
      refine hdone R' _ hΦ' ?_
      have h5 := sep_putLoop hS' (.loop { rec .ready none with state := .exhausted })
      rw [hrec] at h5
      exact (h5.perm (perm_mid _ [_] _)).tail
    · refine ⟨some c, _, by have := run_endLoop (P := P) (sep_getLoop hS') (by rw [hrec]; simp); rw [hrec] at this; exact this, ?_⟩
      refine hstop c pre R' _ hpre hΦ' ?_
      have h5 := sep_putLoop hS' (.loop { rec .done (some c) with state := .exhausted })
      rw [hrec] at h5
      exact (h5.perm (perm_mid _ [_] _)).tail

/-- The return of a function that held such a loop: the block for deferred calls is shut. -/
theorem leaves_mark {fn : Func} {tmps : Array Value} {D : Nat} {L : List Res} {Rt : Ending → World → Prop} {i : Nat} {v : Value} (S : Sep w0 w L) (hi : L[i]? = some (objR D (.deferred (some []))))
    (hv : ∀ w', (results fn tmps).run P w' = .ok v w') (h : ∀ w', Sep w0 w' (L.set i (objR D (.deferred none))) → Rt (.returned v) w') :
    LeavesInM Fence.wide 0 P fn tmps Rt [{ target := .collected D, args := #[] }] .returning w := by
  refine ⟨by simp, .inl ⟨D, _, rfl, run_takeDeferred (S.obj hi), ?_⟩⟩
  exact ⟨v, hv _, h _ (S.putObj i hi _)⟩
end
end Go.Proofs.Ytapbphbnffggnaa
