/-
  Loops over functions that run in a loop: the marks that they leave in the frame, as one thing. Conditions: no program is named here.
-/
import Derived.Test.YtapbphbnffggnaaRange
namespace Go.Proofs.Ytapbphbnffggnaa
set_option linter.unusedVariables false
set_option linter.unusedSimpArgs false
open Go.RowKit Go.Shelf

/-- The marks of the loops over functions that ran. -/
def mk (Ds : List Nat) : List Deferred := Ds.map fun D => { target := .collected D, args := #[] }
/-- Their blocks: no call is put off. -/
def marksR (Ds : List Nat) : Res := starR (Ds.map fun D => objR D (.deferred (some [])))

section
variable {P : Program} {w w0 W : World} {R H L : List Res} {Ds : List Nat} {D : Nat}

theorem Sep.noMarks (S : Sep w0 w L) : Sep w0 w (marksR [] :: L) := Sep.shutHead (K := []) S
theorem Sep.addMark (S : Sep w0 w (objR D (.deferred (some [])) :: marksR Ds :: L)) : Sep w0 w (marksR (D :: Ds) :: L) :=
  Sep.shutHead (K := objR D (.deferred (some [])) :: Ds.map fun D => objR D (.deferred (some []))) (S.swap.openHead.perm (perm_mid _ [_] _))
theorem Sep.popMark (S : Sep w0 w (marksR (D :: Ds) :: L)) : Sep w0 w (objR D (.deferred (some [])) :: marksR Ds :: L) :=
  (Sep.shutHead (K := Ds.map fun D => objR D (.deferred (some []))) ((Sep.openHead S).perm (perm_mid [_] _ L))).swap

/-- A loop over a function, in no round, beside marks. -/
theorem wp_rangeM {α : Type} {g : Operand} {ps : Array Tmp} {assign body : Code} {Q : Exit → Act → World → Prop} {t : Array Value}
    {gf : Nat} {lb : Array Value} (hg : (Act.mk t (mk Ds)).eval g = .func (.func gf) #[] lb) (eg : ∀ args w, (callFunc gf args).run P w = .ok (.enter gf args) w)
    {encs : α → Array Value} {xs : List α} {K : List α → List Res} (hit : Iter P gf lb encs xs K) (hps : ∀ x, (encs x).size = ps.size)
    (S : Sep w0 w (K [] ++ (marksR Ds :: R)))
    (Φ : List α → List Res → Prop) (Φx : Code → List α → List Res → Prop) (h0 : Φ [] R)
    (hround : ∀ (l : Nat) (pre : List α) (x : α) (R G : List Res) (W : World) (r : Loop), (pre ++ [x]) <+: xs → Φ pre R → Sep w0 W (K (pre ++ [x]) ++ (objR l (.loop r) :: (R ++ G))) →
      assign.wpIn (Fence.wide.inRound l) 0 P (Exit.then (fun a' W' => ∃ B, Sep w0 W' (K (pre ++ [x]) ++ (objR l (.loop r) :: (B ++ (R ++ G)))) ∧
        ∀ (r' : Loop) (W2 : World), Sep w0 W2 (K (pre ++ [x]) ++ (objR l (.loop r') :: (B ++ (R ++ G)))) → body.wpIn (Fence.wide.inRound l) 0 P (roundS w0 K [objR l (.loop r')] G Φ Φx (pre ++ [x])) a' W2) (fun _ _ _ => False))
        { tmps := (ps.zip (encs x)).foldl (fun t (p, v) => t.setIfInBounds p v) t, defers := [] } W)
    (hdone : ∀ (Ds : List Nat) (R : List Res) (W : World), Φ xs R → Sep w0 W (K xs ++ (marksR Ds :: R)) → Q .normal { tmps := t, defers := mk Ds } W)
    (hstop : ∀ (Ds : List Nat) (c : Code) (pre : List α) (R : List Res) (W : World), pre <+: xs → Φx c pre R → Sep w0 W (K pre ++ (marksR Ds :: R)) → c.wpIn Fence.wide 0 P Q { tmps := t, defers := mk Ds } W) :
    (Code.rangeFunc g ps assign body).wpIn Fence.wide 0 P Q { tmps := t, defers := mk Ds } w := by
  refine wp_range hg eg hit hps S (fun pre Rs => ∃ R, Rs = marksR Ds :: R ∧ Φ pre R) (fun c pre Rs => ∃ R, Rs = marksR Ds :: R ∧ Φx c pre R) ⟨R, rfl, h0⟩ ?_ ?_ ?_
  · rintro l D pre x _ G W r hpre ⟨R, rfl, hΦ⟩ hS
    refine wpIn_mono (hround l pre x R (objR D (.deferred (some [])) :: marksR Ds :: G) W r hpre hΦ ?_) ?_
    · exact hS.perm (List.Perm.append_left _ (List.Perm.cons _ (perm_mid [_, _] R G)))
    · rintro e a' W' he
      cases e with
      | exit _ => exact he
      | goto _ => exact he
      | ret => exact he
      | panic _ => exact he
      | outgrown => exact he
      | normal =>
      obtain ⟨B, hS', hb⟩ := he
      refine ⟨B, hS'.perm (List.Perm.append_left _ (List.Perm.cons _ ?_)), fun r' W2 hS2 => wpIn_mono (hb r' W2 (hS2.perm (List.Perm.append_left _ (List.Perm.cons _ ?_)))) ?_⟩
      · exact (List.Perm.append_left B (perm_mid R [_, _] G)).trans (perm_mid B [_] (marksR Ds :: (R ++ G)))
      · exact (perm_mid [_] B (marksR Ds :: (R ++ G))).trans (List.Perm.append_left B (perm_mid [_, _] R G))
      · rintro e a3 W3 he
        have key : ∀ {R' : List Res}, Sep w0 W3 (K (pre ++ [x]) ++ ([objR l (.loop r')] ++ (R' ++ (objR D (.deferred (some [])) :: marksR Ds :: G)))) → Sep w0 W3 (K (pre ++ [x]) ++ ([objR l (.loop r'), objR D (.deferred (some []))] ++ ((marksR Ds :: R') ++ G))) :=
          fun h => h.perm (List.Perm.append_left _ (List.Perm.cons _ (perm_mid _ [_, _] G)))
        cases e with
        | normal => obtain ⟨R', h1, h2⟩ := he; exact ⟨_, ⟨R', rfl, h1⟩, key h2⟩
        | exit _ => obtain ⟨R', h1, h2⟩ := he; exact ⟨_, ⟨R', rfl, h1⟩, key h2⟩
        | goto _ => obtain ⟨R', h1, h2⟩ := he; exact ⟨_, ⟨R', rfl, h1⟩, key h2⟩
        | ret => obtain ⟨R', h1, h2⟩ := he; exact ⟨_, ⟨R', rfl, h1⟩, key h2⟩
        | panic _ => exact he
        | outgrown => exact he
  · rintro D _ W ⟨R, rfl, hΦ⟩ hS
    exact hdone (D :: Ds) R W hΦ (((hS.perm (perm_mid (K xs) [_, _] R)).addMark).perm (perm_mid [_] (K xs) R))
  · rintro D c pre _ W hpre ⟨R, rfl, hΦ⟩ hS
    exact hstop (D :: Ds) c pre R W hpre hΦ (((hS.perm (perm_mid (K pre) [_, _] R)).addMark).perm (perm_mid [_] (K pre) R))

/-- The return of a function that held such loops. -/
theorem leavesM {fn : Func} {tmps : Array Value} {Rt : Ending → World → Prop} (h : ∀ w', Sep w0 w' L → ∃ v, (results fn tmps).run P w' = .ok v w' ∧ Rt (.returned v) w') :
    ∀ (Ds : List Nat) (w : World), Sep w0 w (marksR Ds :: L) → LeavesInM Fence.wide 0 P fn tmps Rt (mk Ds) .returning w
  | [], w, S => h w (Sep.openHead (K := []) S)
  | D :: Ds, w, S => ⟨by simp, .inl ⟨D, _, rfl, run_takeDeferred (S.popMark.obj (i := 0) rfl), leavesM h Ds _ (S.popMark.putObj 0 rfl (.deferred none)).tail⟩⟩

/-- The slots of S hold what v says. -/
def setS (S : List Nat) (v : Nat → Value) (t : Array Value) : Array Value := S.foldl (fun t n => t.setIfInBounds n (v n)) t

/-- A loop whose rounds write the slots of S, and leave marks. -/
theorem wpIn_loopM {c : Code} {F : Fence} {n : Nat} {Q : Exit → Act → World → Prop} {t : Array Value} (S : List Nat) (J : (Nat → Value) → List Nat → World → Prop) (μ : (Nat → Value) → World → Nat)
    (h0 : J (fun n => t.getD n undef) Ds w) (ht : t = setS S (fun n => t.getD n undef) t)
    (round : ∀ v Ds w, J v Ds w → c.wpIn F n P (Exit.then (fun a' w' => ∃ Ds', a'.defers = mk Ds' ∧ a'.tmps = setS S (fun n => a'.tmps.getD n undef) t ∧ J (fun n => a'.tmps.getD n undef) Ds' w' ∧ μ (fun n => a'.tmps.getD n undef) w' < μ v w) Q) { tmps := setS S v t, defers := mk Ds } w) :
    (Code.loop c).wpIn F n P Q { tmps := t, defers := mk Ds } w := by
  refine wpIn_loop (fun a w => ∃ Ds, a.defers = mk Ds ∧ a.tmps = setS S (fun n => a.tmps.getD n undef) t ∧ J (fun n => a.tmps.getD n undef) Ds w) (fun a w => μ (fun n => a.tmps.getD n undef) w) ⟨Ds, rfl, ht, h0⟩ ?_
  rintro ⟨t', ds'⟩ w ⟨Ds, hd, ht', hJ⟩
  simp only at hd ht' hJ
  subst hd
  have h := round _ Ds w hJ
  rw [← ht'] at h
  refine wpIn_mono h ?_
  rintro e a' w' he
  cases e with
  | normal => obtain ⟨Ds', h1, h2, h3, h4⟩ := he; exact ⟨⟨Ds', h1, h2, h3⟩, h4⟩
  | exit _ => exact he
  | goto _ => exact he
  | ret => exact he
  | panic _ => exact he
  | outgrown => exact he
end
end Go.Proofs.Ytapbphbnffggnaa
