/-
  Parts of the proof, joined: ReachP, Map, Reach11, Some11, MarkP, Small11, BlackP, Fit12, SteeleP, ByteBits, Bits8, SteeleWhiteW. Conditions: as each part says.
-/
import Derived.Test.YtbcabjpafeocgaaGreatL2
import Derived.Test.YtbcabjpafeocgaaGreatL1
import Derived.Maps.OwnSet
import Derived.Maps.OwnOps
import Derived.Maps.OwnIn
import Derived.Maps.RangeWalk
import Derived.Test.YtbcabjpafeocgaaGreatL5
import Derived.Test.YtbcabjpafeocgaaGreatL4
import Derived.StillTailTactics
import Derived.Laws.BitsAllLaws

/-
  What objects lead to, found by a list of those still to be looked at (plain). Conditions: as each theorem says; no walk.
-/
namespace Go.Proofs.YtbcabjpafeocgaaGreat
set_option linter.unusedVariables false
set_option linter.unusedSimpArgs false

/-- V was looked at, l is still to come. -/
structure Seek (pts : Nat → List Nat) (from_ : List Nat) (V : Nat → Bool) (l : List Nat) : Prop where
  start : ∀ x ∈ from_, V x = true ∨ x ∈ l
  next : ∀ x, V x = true → ∀ y ∈ pts x, V y = true ∨ y ∈ l
  seen : ∀ x, V x = true → Leads pts (fun x => x ∈ from_) x
  todo : ∀ x ∈ l, Leads pts (fun x => x ∈ from_) x

def putB (V : Nat → Bool) (r : Nat) : Nat → Bool := fun x => V x || decide (x = r)

section
variable {pts : Nat → List Nat} {from_ : List Nat} {V : Nat → Bool} {l : List Nat} {x : Nat}
theorem seek_start (pts : Nat → List Nat) (from_ : List Nat) : Seek pts from_ (fun _ => false) from_ :=
  ⟨fun _ h => .inr h, fun _ h => (by cases h), fun _ h => (by cases h), fun _ h => .base h⟩
theorem Seek.old (h : Seek pts from_ V (l ++ [x])) (hx : V x = true) : Seek pts from_ V l := by
  refine ⟨fun y hy => ?_, fun y hy z hz => ?_, h.seen, fun y hy => h.todo y (List.mem_append.2 (.inl hy))⟩
  · rcases h.start y hy with h1 | h1
    · exact .inl h1
    · rcases List.mem_append.1 h1 with h2 | h2
      · exact .inr h2
      · simp at h2; subst h2; exact .inl hx
  · rcases h.next y hy z hz with h1 | h1
    · exact .inl h1
    · rcases List.mem_append.1 h1 with h2 | h2
      · exact .inr h2
      · simp at h2; subst h2; exact .inl hx
theorem Seek.new (h : Seek pts from_ V (l ++ [x])) : Seek pts from_ (putB V x) (l ++ pts x) := by
  have hlx := h.todo x (by simp)
  refine ⟨fun y hy => ?_, fun y hy z hz => ?_, fun y hy => ?_, fun y hy => ?_⟩
  · rcases h.start y hy with h1 | h1
    · left; simp [putB, h1]
    · rcases List.mem_append.1 h1 with h2 | h2
      · right; exact List.mem_append.2 (.inl h2)
      · left; simp at h2; simp [putB, h2]
  · simp only [putB, Bool.or_eq_true, decide_eq_true_eq] at hy
    rcases hy with hy | rfl
    · rcases h.next y hy z hz with h1 | h1
      · left; simp [putB, h1]
      · rcases List.mem_append.1 h1 with h2 | h2
        · right; exact List.mem_append.2 (.inl h2)
        · left; simp at h2; simp [putB, h2]
    · right; exact List.mem_append.2 (.inr hz)
  · simp only [putB, Bool.or_eq_true, decide_eq_true_eq] at hy
    rcases hy with hy | rfl
    · exact h.seen y hy
    · exact hlx
  · rcases List.mem_append.1 hy with h2 | h2
    · exact h.todo y (List.mem_append.2 (.inl h2))
    · exact .step hlx h2
theorem Seek.done (h : Seek pts from_ V []) (x : Nat) : V x = true ↔ Leads pts (fun x => x ∈ from_) x := by
  constructor
  · exact h.seen x
  · refine leads_closed (P := fun y => V y = true) (fun y hy => ?_) (fun y hy z hz => ?_) x
    · rcases h.start y hy with h1 | h1
      · exact h1
      · cases h1
    · rcases h.next y hy z hz with h1 | h1
      · exact h1
      · cases h1

/-- How much is still to do, at most: what is on the list, and what those not looked at would add. -/
def todoN (pts : Nat → List Nat) (V : Nat → Bool) : List Nat → Nat
  | [] => 0
  | r :: rs => (if V r then 0 else (pts r).length) + todoN pts V rs
theorem todoN_put (pts : Nat → List Nat) (V : Nat → Bool) {objs : List Nat} (hn : objs.Nodup) (hx : x ∈ objs) (hV : V x = false) : todoN pts (putB V x) objs + (pts x).length = todoN pts V objs := by
  induction objs with
  | nil => cases hx
  | cons a rs ih =>
    rw [List.nodup_cons] at hn
    unfold todoN
    by_cases e : a = x
    · subst e
      have h1 : ∀ l : List Nat, (∀ r ∈ l, r ≠ a) → todoN pts (putB V a) l = todoN pts V l := by
        intro l
        induction l with
        | nil => intro _; rfl
        | cons b l ihl =>
          intro h
          unfold todoN
          rw [ihl (fun r hr => h r (List.mem_cons_of_mem _ hr))]
          have : putB V a b = V b := by
            have := h b (by simp)
            simp [putB, this]
          rw [this]
      rw [h1 rs (fun r hr e => hn.1 (e ▸ hr)), hV]
      simp [putB]
      omega
    · have hx' : x ∈ rs := by
        rcases List.mem_cons.1 hx with h | h
        · exact absurd h.symm e
        · exact h
      have := ih hn.2 hx'
      have hb : putB V x a = V a := by simp [putB, e]
      rw [hb]
      omega
theorem countP_put (V : Nat → Bool) {objs : List Nat} (hn : objs.Nodup) (hx : x ∈ objs) (hV : V x = false) : objs.countP (putB V x) = objs.countP V + 1 := by
  induction objs with
  | nil => cases hx
  | cons a rs ih =>
    rw [List.nodup_cons] at hn
    rw [List.countP_cons, List.countP_cons]
    by_cases e : a = x
    · subst e
      have h1 : rs.countP (putB V a) = rs.countP V := List.countP_congr (fun r hr => by
        have : r ≠ a := fun e => hn.1 (e ▸ hr)
        simp [putB, this])
      rw [h1, hV]
      simp [putB]
    · have hx' : x ∈ rs := by
        rcases List.mem_cons.1 hx with h | h
        · exact absurd h.symm e
        · exact h
      rw [ih hn.2 hx']
      have hb : putB V x a = V a := by simp [putB, e]
      rw [hb]
      omega
end
end Go.Proofs.YtbcabjpafeocgaaGreat

/-
  Maps from integers to integers that a function's own text makes, where memory is a list of things. Conditions: no program is named here.
-/
namespace Go.Proofs.YtbcabjpafeocgaaGreat
set_option linter.unusedVariables false
set_option linter.unusedSimpArgs false
open Go.RowKit Go.Shelf Go.Maps

/-- The types of a map's keys and elements. -/
structure MapOk (P : Program) (t k e : TypeId) (qk qe : IntKind) : Prop where
  ht : P.underlying t = some (.map k e)
  hk : P.underlying k = some (.int qk)
  he : P.underlying e = some (.int qe)
  hz : ∀ w, (zeroValue e).run P w = .ok (.int qe 0) w

def updM (M : Int → Option Int) (x : Int) (c : Option Int) : Int → Option Int := fun y => if y = x then c else M y

/-- The datum D reads as M. -/
structure Reads (qk qe : IntKind) (D : DataW Unit) (M : Int → Option Int) : Prop where
  tidy : Tidy D
  none_ : ∀ x, (Lit.int qk x).wf = true → M x = none → has D (.int qk x) = false
  some_ : ∀ x c, (Lit.int qk x).wf = true → M x = some c → has D (.int qk x) = true ∧ ∀ z, D.atKey (.int qk x) z = .lit (.int qe c)

theorem isKey (q : IntKind) (x : Int) : WideAt.IsKeyLit (.int q x) := trivial
theorem lit_ne {q : IntKind} {x y : Int} (h : x ≠ y) : Lit.int q x ≠ Lit.int q y := by intro e; injection e with _ e; exact h e

section
variable {qk qe : IntKind} {D : DataW Unit} {M : Int → Option Int}
theorem Reads.has_eq (h : Reads qk qe D M) {x : Int} (hx : (Lit.int qk x).wf = true) : has D (.int qk x) = (M x).isSome := by
  cases e : M x with
  | none => rw [h.none_ x hx e]; rfl
  | some c => rw [(h.some_ x c hx e).1]; rfl
theorem Reads.at_eq (h : Reads qk qe D M) {x : Int} (hx : (Lit.int qk x).wf = true) : D.atKey (.int qk x) (.lit (.int qe 0)) = .lit (.int qe ((M x).getD 0)) := by
  cases e : M x with
  | none => rw [atKey_of_not_has (h.none_ x hx e)]; rfl
  | some c => rw [(h.some_ x c hx e).2]; rfl
theorem Reads.put (h : Reads qk qe D M) {x : Int} (hx : (Lit.int qk x).wf = true) (c : Int) : Reads qk qe (D.put (.int qk x) (.lit (.int qe c))) (updM M x (some c)) := by
  refine ⟨h.tidy.put (isKey _ _) _, ?_, ?_⟩
  · intro y hy e
    unfold updM at e
    by_cases hyx : y = x
    · rw [if_pos hyx] at e; cases e
    · rw [if_neg hyx] at e
      rw [has_put_other (lit_ne hyx)]
      exact h.none_ y hy e
  · intro y d hy e
    unfold updM at e
    by_cases hyx : y = x
    · rw [if_pos hyx] at e
      cases e
      subst hyx
      exact ⟨has_put_same h.tidy.isMap (isKey _ _) _, fun z => atKey_put_same h.tidy.isMap (isKey _ _) _ z⟩
    · rw [if_neg hyx] at e
      obtain ⟨h1, h2⟩ := h.some_ y d hy e
      exact ⟨by rw [has_put_other (lit_ne hyx)]; exact h1, fun z => by rw [atKey_put_other (lit_ne hyx)]; exact h2 z⟩
theorem Reads.del (h : Reads qk qe D M) (x : Int) : Reads qk qe (D.del (.int qk x)) (updM M x none) := by
  refine ⟨h.tidy.del _, ?_, ?_⟩
  · intro y hy e
    unfold updM at e
    by_cases hyx : y = x
    · subst hyx
      exact has_del_same
    · rw [if_neg hyx] at e
      rw [has_del_other (lit_ne hyx)]
      exact h.none_ y hy e
  · intro y d hy e
    unfold updM at e
    by_cases hyx : y = x
    · rw [if_pos hyx] at e; cases e
    · rw [if_neg hyx] at e
      obtain ⟨h1, h2⟩ := h.some_ y d hy e
      exact ⟨by rw [has_del_other (lit_ne hyx)]; exact h1, fun z => by rw [atKey_del_other (lit_ne hyx)]; exact h2 z⟩
theorem reads_empty : Reads qk qe (.map []) (fun _ => none) := ⟨tidy_empty, fun _ _ _ => rfl, fun _ _ _ e => by cases e⟩
end

theorem ownsMap_heap {P : Program} {k : TypeId} {R : Value → Option (DataW Unit × List MemPlace)} {w w' : World} {b n : Nat} {D : DataW Unit} (h : w.ownsMap P k R b n D) (e : w'.heap[b]? = w.heap[b]?) : w'.ownsMap P k R b n D := by
  obtain ⟨es, clock, hb, rest⟩ := h
  exact ⟨es, clock, e.trans hb, rest⟩
theorem ownsMap_tight {P : Program} {k : TypeId} {R : Value → Option (DataW Unit × List MemPlace)} {w : World} {b n : Nat} {D : DataW Unit} (h : w.ownsMap P k R b n D) : w.ownsMap P k R b (size D) D := by
  obtain ⟨es, clock, hb, F, _, rfl⟩ := h
  exact ⟨es, clock, hb, F, by simp [Maps.size, length_sorted], rfl⟩

/-- The map at block b has cnt entries, and reads as M. -/
def mapR (P : Program) (t k e : TypeId) (qk qe : IntKind) (b : Nat) (cnt : Nat) (M : Int → Option Int) : Res :=
  ⟨fun w F => F = [b] ∧ ∃ D : DataW Unit, w.ownsMap P k (plainElem P e) b cnt D ∧ size D = cnt ∧ Reads qk qe D M,
   fun {w w' F G} h hc hF => by
    obtain ⟨rfl, D, h1, h2⟩ := h
    exact ⟨rfl, D, ownsMap_heap h1 (hc.block b h1.lt (hF b (by simp))), h2⟩,
   fun {w F} h x hx => by
    obtain ⟨rfl, D, h1, _⟩ := h
    simp at hx; subst hx; exact h1.lt⟩

section
variable {P : Program} {t k e : TypeId} {qk qe : IntKind} {w0 w : World} {L : List Res} {i b cnt : Nat} {M : Int → Option Int}

theorem map_look (Y : MapOk P t k e qk qe) (S : Sep w0 w L) (i : Nat) (hi : L[i]? = some (mapR P t k e qk qe b cnt M)) {x : Int} (hx : (Lit.int qk x).wf = true) :
    (Instr.lookup t (.map (some b)) (.int qk x) true).run P w = .ok (.tuple #[.int qe ((M x).getD 0), .bool (M x).isSome]) w := by
  obtain ⟨F, ⟨rfl, D, h1, h2, h3⟩, _⟩ := S.at_ hi
  obtain ⟨v, ps, hrun, hv⟩ := h1.look_ok (int_keyed Y.hk) Y.ht (Y.hz w) (plainElem_int (H := Unit) Y.he (by cases qe <;> decide)) (keyOf_int_mk Y.hk hx)
  rw [h3.at_eq hx] at hv
  obtain ⟨c, rfl, hc, hwc⟩ := plainElem_int_inv Y.he hv
  rw [hrun, h3.has_eq hx]
  have := congrArg Prod.fst hc
  simp at this
  rw [this]
theorem map_get (Y : MapOk P t k e qk qe) (S : Sep w0 w L) (i : Nat) (hi : L[i]? = some (mapR P t k e qk qe b cnt M)) {x : Int} (hx : (Lit.int qk x).wf = true) :
    (Instr.lookup t (.map (some b)) (.int qk x) false).run P w = .ok (.int qe ((M x).getD 0)) w := by
  obtain ⟨F, ⟨rfl, D, h1, h2, h3⟩, _⟩ := S.at_ hi
  obtain ⟨c, hrun, hat, _⟩ := h1.lookup_int (int_keyed Y.hk) Y.ht Y.he (Y.hz w) (keyOf_int_mk Y.hk hx)
  rw [hrun]
  rw [h3.at_eq hx] at hat
  simp at hat
  rw [hat]
theorem map_len (Y : MapOk P t k e qk qe) (S : Sep w0 w L) (i : Nat) (hi : L[i]? = some (mapR P t k e qk qe b cnt M)) (ty : TypeId) :
    (Builtin.len_ #[t] ty #[.map (some b)]).run P w = .ok (.int .i64 (cnt : Int)) w := by
  obtain ⟨F, ⟨rfl, D, h1, h2, h3⟩, _⟩ := S.at_ hi
  rw [h1.len Y.ht ty, h2]
theorem map_put (Y : MapOk P t k e qk qe) (S : Sep w0 w L) (i : Nat) (hi : L[i]? = some (mapR P t k e qk qe b cnt M)) (hn : cnt < maxLen) {x c : Int} (hx : (Lit.int qk x).wf = true) (hc : (Lit.int qe c).wf = true) :
    ∃ w', (Instr.mapUpdate t (.map (some b)) (.int qk x) (.int qe c)).run P w = .ok () w' ∧ Sep w0 w' (L.set i (mapR P t k e qk qe b (if (M x).isSome then cnt else cnt + 1) (updM M x (some c)))) := by
  obtain ⟨F, ⟨rfl, D, h1, h2, h3⟩, hk⟩ := S.at_ hi
  obtain ⟨w', hrun, r1, r2⟩ := h1.update (int_keyed Y.hk) Y.ht hn (keyOf_int_mk Y.hk hx) (plainElem_int (H := Unit) Y.he hc)
  refine ⟨w', hrun, hk _ w' [b] ⟨rfl, _, ?_, ?_, h3.put hx c⟩ (GrewF.self _ _) (Chg.grown (Chg.refl _ _) r2 (by rintro j hj; cases hj; simp))⟩
  · have := ownsMap_tight r1
    rw [size_put h3.tidy, h3.has_eq hx, h2] at this
    exact this
  · rw [size_put h3.tidy, h3.has_eq hx, h2]
theorem map_del (Y : MapOk P t k e qk qe) (S : Sep w0 w L) (i : Nat) (hi : L[i]? = some (mapR P t k e qk qe b cnt M)) {x : Int} (hx : (Lit.int qk x).wf = true) :
    ∃ w', (∀ ty, (Builtin.delete_ #[t, k] ty #[.map (some b), .int qk x]).run P w = .ok (.tuple #[]) w') ∧ Sep w0 w' (L.set i (mapR P t k e qk qe b (if (M x).isSome then cnt - 1 else cnt) (updM M x none))) := by
  obtain ⟨F, ⟨rfl, D, h1, h2, h3⟩, hk⟩ := S.at_ hi
  obtain ⟨w', hrun, r1, r2⟩ := h1.drop (int_keyed Y.hk) Y.ht (keyOf_int_mk Y.hk hx) 0
  have hsz : size (D.del (.int qk x)) = if (M x).isSome then cnt - 1 else cnt := by
    have := size_del (k := .int qk x) h3.tidy
    rw [h3.has_eq hx, h2] at this
    split at this <;> split <;> simp_all <;> omega
  have hg : w.grownBy w' (some b) := by
    obtain ⟨es, clock, es', clock', hb, rfl⟩ := r2
    exact grownBy_putObj' w b _
  refine ⟨w', fun _ => hrun, hk _ w' [b] ⟨rfl, _, ?_, hsz, h3.del x⟩ (GrewF.self _ _) (Chg.grown (Chg.refl _ _) hg (by rintro j hj; cases hj; simp))⟩
  have := ownsMap_tight r1
  rw [hsz] at this
  exact this
theorem Sep.newMap (S : Sep w0 w L) (P : Program) (t k e : TypeId) (qk qe : IntKind) : Sep w0 (w.alloc (.map #[] 0)) (mapR P t k e qk qe w.heap.size 0 (fun _ => none) :: L) :=
  S.new (r := mapR P t k e qk qe w.heap.size 0 (fun _ => none)) (F := [w.heap.size]) ⟨rfl, _, World.ownsMap_made w P k (plainElem P e), rfl, reads_empty⟩ (by simp) ((Chg.refl _ _).alloc _)

/-- A loop over the map at block b is under way, at block r; left: which keys are still to come; at most m. -/
def rangeR (P : Program) (t k e : TypeId) (qk qe : IntKind) (b r : Nat) (cnt : Nat) (M : Int → Option Int) (left : Int → Bool) (m : Nat) : Res :=
  ⟨fun w F => F = [b, r] ∧ ∃ (D : DataW Unit) (lf : Lit → Bool), w.ranges P k (plainElem P e) b r cnt D lf m ∧ size D = cnt ∧ Reads qk qe D M ∧ ∀ x, (Lit.int qk x).wf = true → lf (.int qk x) = left x,
   fun {w w' F G} h hc hF => by
    obtain ⟨rfl, D, lf, h1, h2⟩ := h
    refine ⟨rfl, D, lf, ?_, h2⟩
    have e1 := hc.block b h1.owns.lt (hF b (by simp))
    have e2 := hc.block r h1.lt (hF r (by simp))
    obtain ⟨es, clock, since, seen, c0, hb, hf, hs, hD, hr, rest⟩ := h1
    exact ⟨es, clock, since, seen, c0, e1.trans hb, hf, hs, hD, e2.trans hr, rest⟩,
   fun {w F} h x hx => by
    obtain ⟨rfl, D, lf, h1, _⟩ := h
    simp at hx
    rcases hx with rfl | rfl
    · exact h1.owns.lt
    · exact h1.lt⟩

theorem map_range (Y : MapOk P t k e qk qe) (S : Sep w0 w L) (i : Nat) (hi : L[i]? = some (mapR P t k e qk qe b cnt M)) :
    ∃ w', (Instr.range t (.map (some b))).run P w = .ok (.pointer (some ⟨w.heap.size, 0, none⟩)) w' ∧ Sep w0 w' (L.set i (rangeR P t k e qk qe b w.heap.size cnt M (fun x => (M x).isSome) cnt)) := by
  obtain ⟨F, ⟨rfl, D, h1, h2, h3⟩, hk⟩ := S.at_ hi
  obtain ⟨w', hrun, r1, r2, r3⟩ := h1.range (int_keyed Y.hk) Y.ht
  refine ⟨w', hrun, hk _ w' [b, w.heap.size] ⟨rfl, D, _, ?_, h2, h3, fun x hx => h3.has_eq hx⟩ ?_ (Chg.grown (Chg.refl _ _) r2 (by rintro j hj; cases hj))⟩
  · rw [h2] at r1; exact r1
  · intro x hx
    simp at hx
    rcases hx with rfl | rfl
    · exact .inl (by simp)
    · exact .inr (Nat.le_refl _)
theorem map_next (Y : MapOk P t k e qk qe) {r m : Nat} {left : Int → Bool} (S : Sep w0 w L) (i : Nat) (hi : L[i]? = some (rangeR P t k e qk qe b r cnt M left m)) :
    ((∀ x, (Lit.int qk x).wf = true → left x = false) ∧ ∀ ty, (Instr.next (.pointer (some ⟨r, 0, none⟩)) false ty).run P w = .ok (.tuple #[.bool false]) w) ∨
    ∃ x c w' m', (Lit.int qk x).wf = true ∧ left x = true ∧ M x = some c ∧ (∀ ty, (Instr.next (.pointer (some ⟨r, 0, none⟩)) false ty).run P w = .ok (.tuple #[.bool true, .int qk x, .int qe c]) w') ∧ m' < m ∧
      (Instr.entry (.pointer (some ⟨r, 0, none⟩))).run P w' = .ok (.tuple #[.int qk x, .int qe c]) w' ∧ Sep w0 w' (L.set i (rangeR P t k e qk qe b r cnt M (fun y => left y && !decide (y = x)) m')) := by
  obtain ⟨F, ⟨rfl, D, lf, h1, h2, h3, h4⟩, hk⟩ := S.at_ hi
  rcases h1.next (int_keyed Y.hk) 0 with ⟨_, hl, hrun⟩ | ⟨key, v, kl, y, w', m', hkey, hlk, hv, hat, hrun, hrg, hlt, hgr, hsz, hen⟩
  · exact .inl ⟨fun x hx => by rw [← h4 x hx]; exact hl _, fun _ => hrun⟩
  · obtain ⟨x, rfl, rfl, hwx⟩ := keyOf_int_inv Y.hk hkey
    obtain ⟨c, rfl, rfl, hwc⟩ := plainElem_int_inv Y.he hv
    have hM : M x = some c := by
      cases e1 : M x with
      | none =>
        have h5 := atKey_of_not_has (h3.none_ x hwx e1) (DataW.lit (.int qe (c + 1)))
        rw [hat] at h5
        simp at h5
        omega
      | some d =>
        have h5 := (h3.some_ x d hwx e1).2 (.lit (.int qe 0))
        rw [hat] at h5
        simp at h5
        rw [h5]
    refine .inr ⟨x, c, w', m', hwx, by rw [← h4 x hwx]; exact hlk, hM, fun _ => hrun, hlt, hen, hk _ w' [b, r] ⟨rfl, D, _, hrg, h2, h3, fun y hy => ?_⟩ (GrewF.self _ _) (Chg.grown (Chg.refl _ _) hgr (by rintro j hj; cases hj; simp))⟩
    rw [h4 y hy]
    congr 2
    by_cases e1 : y = x
    · subst e1; simp [Lit.sameKey]
    · simp [Lit.sameKey, e1]
theorem rangeLeft_eq {r m : Nat} {left : Int → Bool} (S : Sep w0 w L) (i : Nat) (hi : L[i]? = some (rangeR P t k e qk qe b r cnt M left m)) : w.rangeLeft b r = m := by
  obtain ⟨F, ⟨rfl, D, lf, h1, h2, h3, h4⟩, _⟩ := S.at_ hi
  exact h1.left_eq
theorem range_end {r m : Nat} {left : Int → Bool} (S : Sep w0 w L) (i : Nat) (hi : L[i]? = some (rangeR P t k e qk qe b r cnt M left m)) : Sep w0 w (L.set i (mapR P t k e qk qe b cnt M)) := by
  obtain ⟨F, ⟨rfl, D, lf, h1, h2, h3, h4⟩, hk⟩ := S.at_ hi
  exact hk _ w [b] ⟨rfl, D, h1.owns, h2, h3⟩ (by intro x hx; simp at hx; subst hx; exact .inl (by simp)) (Chg.refl _ _)
end

section
variable {P : Program} {w w' : World} {ops : Array Oper} {rest : List Oper} {o : Oper} {a : Act} {Q : Exit → Act → World → Prop} {F : Fence} {nF : Nat}
theorem wpList_lookup_run (hg : o.guard = none) (m x : Operand) (t : TypeId) (ok : Bool) (hop : o.op = Op.lookup t m x ok) {vm vx v : Value} (hm : a.eval m = vm) (hx : a.eval x = vx) (hrun : (Instr.lookup t vm vx ok).run P w = .ok v w') (hK : wpList P ops Q rest (a.put o.dst v) w') : wpList P ops Q (o :: rest) a w := by
  refine wpList_plain hg fun K' hK' => ?_
  unfold Oper.wp
  simp [execOp, hop, hm, hx, hrun, Result.andThen]
  exact hK' _ _ hK
theorem wpListIn_lookup_run (hg : o.guard = none) (m x : Operand) (t : TypeId) (ok : Bool) (hop : o.op = Op.lookup t m x ok) {vm vx v : Value} (hm : a.eval m = vm) (hx : a.eval x = vx) (hrun : (Instr.lookup t vm vx ok).run P w = .ok v w') (hK : wpListIn F nF P ops Q rest (a.put o.dst v) w') : wpListIn F nF P ops Q (o :: rest) a w := by
  refine wpListIn_plain hg fun K' hK' => ?_
  unfold Oper.wpIn
  refine ⟨by simp [Oper.about, hop, resolve, Target.leads, Sem.run_pure], ?_⟩
  rw [Oper.semAt_plain F _ _ (by rw [hop]; intro c hc'; cases hc')]
  simp [execOp, hop, hm, hx, hrun, Result.andThen]
  exact hK' _ _ hK
theorem wpList_mapUpdate_run (hg : o.guard = none) (m x y : Operand) (t : TypeId) (hop : o.op = Op.mapUpdate t m x y) {vm vx vy : Value} (hm : a.eval m = vm) (hx : a.eval x = vx) (hy : a.eval y = vy) (hrun : (Instr.mapUpdate t vm vx vy).run P w = .ok () w') (hK : wpList P ops Q rest (a.put o.dst undef) w') : wpList P ops Q (o :: rest) a w := by
  refine wpList_plain hg fun K' hK' => ?_
  unfold Oper.wp
  simp [execOp, hop, hm, hx, hy, hrun, Result.andThen]
  exact hK' _ _ hK
theorem wpListIn_mapUpdate_run (hg : o.guard = none) (m x y : Operand) (t : TypeId) (hop : o.op = Op.mapUpdate t m x y) {vm vx vy : Value} (hm : a.eval m = vm) (hx : a.eval x = vx) (hy : a.eval y = vy) (hrun : (Instr.mapUpdate t vm vx vy).run P w = .ok () w') (hK : wpListIn F nF P ops Q rest (a.put o.dst undef) w') : wpListIn F nF P ops Q (o :: rest) a w := by
  refine wpListIn_plain hg fun K' hK' => ?_
  unfold Oper.wpIn
  refine ⟨by simp [Oper.about, hop, resolve, Target.leads, Sem.run_pure], ?_⟩
  rw [Oper.semAt_plain F _ _ (by rw [hop]; intro c hc'; cases hc')]
  simp [execOp, hop, hm, hx, hy, hrun, Result.andThen]
  exact hK' _ _ hK
theorem wpList_delete_run (hg : o.guard = none) (m x : Operand) (t k : TypeId) (hop : o.op = Op.call { callee := Callee.builtin Builtin.delete, args := #[m, x], argTypes := #[t, k] }) {vm vx : Value} (hm : a.eval m = vm) (hx : a.eval x = vx) (hrun : ∀ ty, (Builtin.delete_ #[t, k] ty #[vm, vx]).run P w = .ok (.tuple #[]) w') (hK : wpList P ops Q rest (a.put o.dst (.tuple #[])) w') : wpList P ops Q (o :: rest) a w := by
  refine wpList_plain hg fun K' hK' => ?_
  unfold Oper.wp
  simp [execOp, hop, resolve, invoke, builtin, hm, hx, hrun, Result.andThen]
  exact hK' _ _ hK
theorem wpListIn_delete_run (hg : o.guard = none) (m x : Operand) (t k : TypeId) (hop : o.op = Op.call { callee := Callee.builtin Builtin.delete, args := #[m, x], argTypes := #[t, k] }) {vm vx : Value} (hm : a.eval m = vm) (hx : a.eval x = vx) (hrun : ∀ ty, (Builtin.delete_ #[t, k] ty #[vm, vx]).run P w = .ok (.tuple #[]) w') (hK : wpListIn F nF P ops Q rest (a.put o.dst (.tuple #[])) w') : wpListIn F nF P ops Q (o :: rest) a w := by
  refine wpListIn_plain hg fun K' hK' => ?_
  unfold Oper.wpIn
  refine ⟨by simp [Oper.about, hop, resolve, Target.leads, Sem.run_pure], ?_⟩
  rw [Oper.semAt_plain F _ _ (by rw [hop]; intro c hc'; cases hc')]
  simp [execOp, hop, resolve, invoke, builtin, hm, hx, hrun, Result.andThen]
  exact hK' _ _ hK
theorem wpList_len_run (hg : o.guard = none) (m : Operand) (t : TypeId) (hop : o.op = Op.call { callee := Callee.builtin Builtin.len, args := #[m], argTypes := #[t] }) {vm v : Value} (hm : a.eval m = vm) (hrun : ∀ ty, (Builtin.len_ #[t] ty #[vm]).run P w = .ok v w') (hK : wpList P ops Q rest (a.put o.dst v) w') : wpList P ops Q (o :: rest) a w := by
  refine wpList_plain hg fun K' hK' => ?_
  unfold Oper.wp
  simp [execOp, hop, resolve, invoke, builtin, hm, hrun, Result.andThen]
  exact hK' _ _ hK
theorem wpListIn_len_run (hg : o.guard = none) (m : Operand) (t : TypeId) (hop : o.op = Op.call { callee := Callee.builtin Builtin.len, args := #[m], argTypes := #[t] }) {vm v : Value} (hm : a.eval m = vm) (hrun : ∀ ty, (Builtin.len_ #[t] ty #[vm]).run P w = .ok v w') (hK : wpListIn F nF P ops Q rest (a.put o.dst v) w') : wpListIn F nF P ops Q (o :: rest) a w := by
  refine wpListIn_plain hg fun K' hK' => ?_
  unfold Oper.wpIn
  refine ⟨by simp [Oper.about, hop, resolve, Target.leads, Sem.run_pure], ?_⟩
  rw [Oper.semAt_plain F _ _ (by rw [hop]; intro c hc'; cases hc')]
  simp [execOp, hop, resolve, invoke, builtin, hm, hrun, Result.andThen]
  exact hK' _ _ hK
theorem wpList_range_run (hg : o.guard = none) (m : Operand) (t : TypeId) (hop : o.op = Op.range t m) {vm v : Value} (hm : a.eval m = vm) (hrun : (Instr.range t vm).run P w = .ok v w') (hK : wpList P ops Q rest (a.put o.dst v) w') : wpList P ops Q (o :: rest) a w := by
  refine wpList_plain hg fun K' hK' => ?_
  unfold Oper.wp
  simp [execOp, hop, hm, hrun, Result.andThen]
  exact hK' _ _ hK
theorem wpListIn_range_run (hg : o.guard = none) (m : Operand) (t : TypeId) (hop : o.op = Op.range t m) {vm v : Value} (hm : a.eval m = vm) (hrun : (Instr.range t vm).run P w = .ok v w') (hK : wpListIn F nF P ops Q rest (a.put o.dst v) w') : wpListIn F nF P ops Q (o :: rest) a w := by
  refine wpListIn_plain hg fun K' hK' => ?_
  unfold Oper.wpIn
  refine ⟨by simp [Oper.about, hop, resolve, Target.leads, Sem.run_pure], ?_⟩
  rw [Oper.semAt_plain F _ _ (by rw [hop]; intro c hc'; cases hc')]
  simp [execOp, hop, hm, hrun, Result.andThen]
  exact hK' _ _ hK
theorem wpList_next_run (hg : o.guard = none) (m : Operand) (hop : o.op = Op.next m false) {vm v : Value} (hm : a.eval m = vm) (hrun : ∀ ty, (Instr.next vm false ty).run P w = .ok v w') (hK : wpList P ops Q rest (a.put o.dst v) w') : wpList P ops Q (o :: rest) a w := by
  refine wpList_plain hg fun K' hK' => ?_
  unfold Oper.wp
  simp [execOp, hop, hm, hrun, Result.andThen]
  exact hK' _ _ hK
theorem wpListIn_next_run (hg : o.guard = none) (m : Operand) (hop : o.op = Op.next m false) {vm v : Value} (hm : a.eval m = vm) (hrun : ∀ ty, (Instr.next vm false ty).run P w = .ok v w') (hK : wpListIn F nF P ops Q rest (a.put o.dst v) w') : wpListIn F nF P ops Q (o :: rest) a w := by
  refine wpListIn_plain hg fun K' hK' => ?_
  unfold Oper.wpIn
  refine ⟨by simp [Oper.about, hop, resolve, Target.leads, Sem.run_pure], ?_⟩
  rw [Oper.semAt_plain F _ _ (by rw [hop]; intro c hc'; cases hc')]
  simp [execOp, hop, hm, hrun, Result.andThen]
  exact hK' _ _ hK
end
end Go.Proofs.YtbcabjpafeocgaaGreat

/-
  The contract of layer 11's Reach. Conditions: as the theorem says.
-/
namespace Go.Proofs.YtbcabjpafeocgaaGreat
set_option linter.unusedVariables false
set_option linter.unusedSimpArgs false
open Go.RowKit Go.Shelf Go.Maps

theorem refIntOk : MapOk Tryz.prog 55 34 3 .i64 .i64 :=
  ⟨Tryz.underlying55, Tryz.underlying34, Tryz.underlying3, fun w => by
    obtain ⟨i, hi, hz⟩ := Option.map_eq_some_iff.1 (show (Tryz.prog.info? 3).map (fun i => i.zero) = some (some (.int .i64 0)) by kernel_rfl)
    simp [zeroValue, typeInfo, hi, hz]⟩
/-- Those that were looked at, as the program's map has them. -/
def visM (V : Nat → Bool) : Int → Option Int := fun z => if 0 ≤ z ∧ V z.toNat = true then some 1 else none
theorem visM_none : visM (fun _ => false) = fun _ => none := by funext z; simp [visM]
theorem visM_at (V : Nat → Bool) (x : Nat) : visM V (x : Int) = if V x = true then some 1 else none := by simp [visM]
theorem visM_put (V : Nat → Bool) (x : Nat) : updM (visM V) (x : Int) (some 1) = visM (putB V x) := by
  funext z
  unfold updM visM putB
  by_cases e : z = (x : Int)
  · subst e; simp
  · by_cases h0 : 0 ≤ z
    · have : ¬ z.toNat = x := by omega
      simp [e, this]
    · simp [e, h0]
theorem wfx {x : Nat} (hx : x < 10000) : (Lit.int .i64 (x : Int)).wf = true := by
  simp only [Lit.wf, Bool.and_eq_true, decide_eq_true_eq]
  rw [show IntKind.i64.min = -9223372036854775808 from by decide, show IntKind.i64.max = 9223372036854775807 from by decide]
  omega

/-- What Reach needs to know of objects and of where they point. -/
structure Field_ (objs : List Nat) (T : Nat → List Nat) : Prop where
  nodup : objs.Nodup
  few : objs.length ≤ 64
  lt : ∀ x ∈ objs, 0 < x ∧ x < 3000
  short : ∀ x, (T x).length ≤ 40
  into : ∀ x ∈ objs, ∀ y ∈ T x, y ∈ objs
theorem todoN_le {T : Nat → List Nat} (h : ∀ x, (T x).length ≤ 40) (V : Nat → Bool) : ∀ l : List Nat, todoN T V l ≤ 40 * l.length
  | [] => by simp [todoN]
  | a :: l => by
    have h1 := todoN_le h V l
    have h2 := h a
    unfold todoN
    rw [List.length_cons]
    split <;> omega

section
variable {w0 w : World} {R0 : List Res} {b : Nat} {T : Nat → List Nat} {objs from_ : List Nat} {v0 : Value}
/-- The search is under way: k is how much is still to do. -/
def ReachJ (w0 : World) (R0 : List Res) (b mb : Nat) (T : Nat → List Nat) (objs from_ : List Nat) (v0 v : Value) (w : World) (k : Nat) : Prop :=
  ∃ (V : Nat → Bool) (l : List Nat), Seek T from_ V l ∧ (∀ x ∈ l, x ∈ objs) ∧ (∀ x, V x = true → x ∈ objs) ∧ k = l.length + todoN T V objs ∧ k ≤ 3000 ∧
    Sep w0 w (rowR 34 1 v l.length (nums l) :: mapR Tryz.prog 55 34 3 .i64 .i64 mb (objs.countP V) (visM V) :: rowR 34 1 v0 from_.length (nums from_) :: adjR Tryz.prog 34 34 b T :: R0)
set_option maxHeartbeats 4000000 in
theorem Reach11 (hF : Field_ objs T) (hfrom : ∀ x ∈ from_, x ∈ objs) (hfl : from_.length ≤ 100) (S : Sep w0 w (rowR 34 1 v0 from_.length (nums from_) :: adjR Tryz.prog 34 34 b T :: R0)) :
    Calls Tryz.prog 28 #[v0, .map (some b)] w fun e w' => ∃ (mb : Nat) (V : Nat → Bool), e = .returned (.map (some mb)) ∧ (∀ x, V x = true ↔ Leads T (fun x => x ∈ from_) x) ∧ (∀ x, V x = true → x ∈ objs) ∧
      Sep w0 w' (mapR Tryz.prog 55 34 3 .i64 .i64 mb (objs.countP V) (visM V) :: rowR 34 1 v0 from_.length (nums from_) :: adjR Tryz.prog 34 34 b T :: R0) := by
  obtain ⟨mb, hmb⟩ : ∃ mb, w.heap.size = mb := ⟨_, rfl⟩
  have hmm := @run_makeMap Tryz.prog
  have h1 := S.newMap Tryz.prog 55 34 3 .i64 .i64
  rw [hmb] at h1
  have h2 : Sep w0 (w.alloc (.map #[] 0)) (rowR 34 1 (.slice none 0 0) 0 [] :: mapR Tryz.prog 55 34 3 .i64 .i64 mb (objs.countP (fun _ => false)) (visM (fun _ => false)) :: rowR 34 1 v0 from_.length (nums from_) :: adjR Tryz.prog 34 34 b T :: R0) := by
    rw [visM_none, List.countP_eq_zero.2 (by simp)]
    exact h1.nilRow 34 1
  obtain ⟨AA, cap, rfl, _, _⟩ := S.rowShape 0 rfl
  obtain ⟨v1, w1, hrun, hs1⟩ := h2.append_row (P := Tryz.prog) (t := 25) 25 Tryz.underlying25 refInfo rfl (by decide) 0 rfl 2 rfl (nums_one _) (by unfold maxLen; omega) (by omega)
  have H1 := Lib.hid (show ReachJ w0 R0 b mb T objs from_ _ v1 w1 (from_.length + todoN T (fun _ => false) objs) from ⟨fun _ => false, from_, seek_start T from_, hfrom, by simp, rfl, by have := todoN_le hF.short (fun _ => false) objs; have := hF.few; omega, by
    simpa using hs1⟩)
  obtain ⟨v0, hv0⟩ : ∃ v, Value.slice AA from_.length cap = v := ⟨_, rfl⟩
  rw [hv0] at H1 hrun ⊢
  have HRUN := Lib.hid hrun
  have HF := Lib.hid hF
  clear S h1 h2 hs1 hrun hF hfrom hv0
  go_enter Tryz.func28, Tryz.ntmps28
  go_wp2_with (at_builtin; refine wpList_append_run rfl _ _ _ rfl rfl rfl HRUN.out ?_)
  try simp only [hmb]
  clear hmb hmm HRUN
  go_loopw [6] (fun v wr => ∃ k, ReachJ w0 R0 b mb T objs from_ v0 v wr k) (fun v wr => leastN (ReachJ w0 R0 b mb T objs from_ v0 v wr))
  case atStart => exact ⟨_, H1.out⟩
  case round =>
    clear H1
    have HREL := Lib.hid hrel
    obtain ⟨V, l, hseek, hl, hV, hk, hk3, hs⟩ := (leastN_is hrel).1
    obtain ⟨kk, hkk⟩ : ∃ kk, leastN (ReachJ w0 R0 b mb T objs from_ v0 u6 wr) = kk := ⟨_, rfl⟩
    rw [hkk] at hk hk3
    have HKK := Lib.hid hkk
    have HK := Lib.hid hk
    have HSK := Lib.hid hseek
    have HL := Lib.hid hl
    have HVO := Lib.hid hV
    clear hrel hkk hk hseek hl hV
    rcases List.eq_nil_or_concat l with rfl | ⟨l, x, hlx⟩
    · obtain ⟨AL, cl, rfl, _, _⟩ := hs.rowShape 0 rfl
      have HS := Lib.hid hs
      clear hs
      go_wp2
      go_ret
      exact ⟨mb, V, rfl, HSK.out.done, HVO.out, HS.out.tail⟩
    · rw [List.concat_eq_append] at hlx
      subst hlx
      have hxo : x ∈ objs := HL.out x (by simp)
      have hx3 := HF.out.lt x hxo
      obtain ⟨Ln, hLn⟩ : ∃ Ln, l.length = Ln := ⟨_, rfl⟩
      have HLN := Lib.hid hLn
      rw [show (l ++ [x]).length = Ln + 1 by simp [hLn], nums_append] at hs
      clear hLn
      obtain ⟨g, cl, rfl, hcl, hcm⟩ := hs.rowSome 0 rfl (by omega)
      have cx := hs.rowCell 0 rfl Ln (.int .i64 (x : Int)) (by rw [← HLN.out, ← nums_length l]; simp [nums])
      have hlk := map_get refIntOk hs 1 rfl (wfx (x := x) (by omega))
      rw [visM_at] at hlk
      have hLI : (0 : Int) < (Ln : Int) + 1 := by omega
      have hxz : ¬ (x : Int) = 0 := by omega
      have hxb : ((x : Int) == 0) = false := by simp; omega
      have hkl : Ln + 1 + todoN T V objs ≤ 3000 := by have := HK.out; rw [List.length_append, HLN.out] at this; simp at this; omega
      have hpop := hs.rowPop (n := Ln) (xs := nums l) (last := nums [x]) 0 rfl (by rw [nums_length, HLN.out]; omega)
      cases hVx : V x with
      | true =>
        rw [hVx] at hlk
        simp only [if_true, Option.getD_some] at hlk
        have HVX := Lib.hid hVx
        have HP := Lib.hid hpop
        clear hs hpop hVx
        go_wp2
        have hJ : ReachJ w0 R0 b mb T objs from_ v0 (.slice (some ⟨g, 0, none⟩) Ln cl) wr (l.length + todoN T V objs) := ⟨V, l, HSK.out.old HVX.out, fun y hy => HL.out y (List.mem_append.2 (.inl hy)), HVO.out, rfl, by rw [HLN.out]; omega, by rw [HLN.out]; exact HP.out⟩
        go_roundw
        case rel => exact ⟨_, by first | exact hJ | simpa using hJ⟩
        case measure =>
          refine leastN_lt HREL.out (by first | exact hJ | simpa using hJ) ?_
          rw [HKK.out, HK.out]
          simp
      | false =>
        rw [hVx] at hlk
        simp only [Bool.false_eq_true, if_false, Option.getD_none] at hlk
        have HVX := Lib.hid hVx
        obtain ⟨w2, hput, hs2⟩ := map_put refIntOk hpop 1 rfl (by unfold maxLen; have := List.countP_le_length (p := V) (l := objs); have := HF.out.few; omega) (wfx (x := x) (by omega)) (c := 1) (by decide)
        rw [visM_put, visM_at, hVx] at hs2
        simp only [Bool.false_eq_true, if_false, Option.isSome_none] at hs2
        rw [← countP_put V HF.out.nodup hxo hVx] at hs2
        have hs3 : Sep w0 w2 (adjR Tryz.prog 34 34 b T :: rowR 34 1 (.slice (some ⟨g, 0, none⟩) Ln cl) Ln (nums l) :: mapR Tryz.prog 55 34 3 .i64 .i64 mb (objs.countP (putB V x)) (visM (putB V x)) :: rowR 34 1 v0 from_.length (nums from_) :: R0) := hs2.front 4 [3, 0, 1, 2]
        obtain ⟨cnt, M, O, hhole, hs4⟩ := adj_out hs3 x (by omega)
        have hlk2 := gmap_get keyRef Tryz.underlying26 (zeroRow _) hs4 0 rfl (keyOfRef (x := x) (by omega))
        have hTx := HF.out.short x
        obtain ⟨v9, w9, hrun, hs9⟩ := hs4.append_row (P := Tryz.prog) (t := 25) 25 Tryz.underlying25 refInfo rfl (by decide) 3 rfl 1 rfl (nums_one _) (by unfold maxLen; omega) (by omega)
        have hs10 := hhole.same w0 w9 _ hs9
        have HPUT := Lib.hid hput
        have HRUN := Lib.hid hrun
        have HS10 := Lib.hid hs10
        clear hs hpop hs2 hs3 hs4 hs9 hs10 hput hrun hVx hhole
        go_wp2_with (first
          | (at_mapUpdate; refine wpList_mapUpdate_run rfl _ _ _ _ rfl rfl rfl rfl HPUT.out ?_)
          | (at_builtin; refine wpList_append_run rfl _ _ _ rfl rfl rfl HRUN.out ?_))
        have hput := todoN_put T V HF.out.nodup hxo HVX.out
        have hJ : ReachJ w0 R0 b mb T objs from_ v0 v9 w9 ((l ++ T x).length + todoN T (putB V x) objs) := ⟨putB V x, l ++ T x, HSK.out.new, fun y hy => by
            rcases List.mem_append.1 hy with h | h
            · exact HL.out y (List.mem_append.2 (.inl h))
            · exact HF.out.into x hxo y h, fun y hy => by
            simp only [putB, Bool.or_eq_true, decide_eq_true_eq] at hy
            rcases hy with h | rfl
            · exact HVO.out y h
            · exact hxo, rfl, by rw [List.length_append, HLN.out]; omega, by
            rw [List.length_append, HLN.out, nums_append]
            exact HS10.out.front 4 [1, 2, 3, 0]⟩
        go_roundw
        case rel => exact ⟨_, hJ⟩
        case measure =>
          refine leastN_lt HREL.out hJ ?_
          rw [HKK.out, HK.out, List.length_append, List.length_append]
          simp
          omega
end
end Go.Proofs.YtbcabjpafeocgaaGreat

/-
  The contract of layer 11's some. Conditions: as the theorem says.
-/
namespace Go.Proofs.YtbcabjpafeocgaaGreat
set_option linter.unusedVariables false
set_option linter.unusedSimpArgs false
open Go.RowKit Go.Shelf

section
variable {w0 w : World} {R0 : List Res} {rs : List Nat} {v0 : Value}
end
end Go.Proofs.YtbcabjpafeocgaaGreat

/-
  What layer 11's statements come to, as plain data. Conditions: as each theorem says; no walk.
-/
namespace Go.Proofs.YtbcabjpafeocgaaGreat
set_option linter.unusedVariables false
set_option linter.unusedSimpArgs false

theorem elems_nodup (n : Nat) (S : Nat → Bool) : (elems n S).Nodup := List.Pairwise.filter _ List.nodup_range
/-- As many as there are of them among the objects. -/
theorem elems_count {n : Nat} {S : Nat → Bool} {l : List Nat} (hn : l.Nodup) (hl : ∀ x ∈ l, x < n) (hS : ∀ x, S x = true → x ∈ l) : (elems n S).length = l.countP S := by
  rw [List.countP_eq_length_filter]
  refine List.Perm.length_eq ((List.perm_ext_iff_of_nodup (elems_nodup n S) (List.Pairwise.filter _ hn)).2 (fun x => ?_))
  rw [mem_elems, List.mem_filter]
  constructor
  · rintro ⟨_, h⟩; exact ⟨hS x h, h⟩
  · rintro ⟨h1, h2⟩; exact ⟨hl x h1, h2⟩

section
variable {pts : Nat → List Nat} {d : Nat} {C C' : Col} {l : List Nat}
/-- What was scanned points to what is marked. -/
def Col.shut (C : Col) (pts : Nat → List Nat) : Prop := ∀ x, C.sc x = true → ∀ y ∈ pts x, C.mz y = true
theorem shut_none (pts : Nat → List Nat) : Col.none.shut pts := fun _ h => by cases h
theorem Steps.shut (h : Steps pts d C C') (hs : C.shut pts) : C'.shut pts := by
  intro x hx y hy
  rcases h.scanned x hx with h1 | h1
  · exact h.mono.1 y (hs x h1 y hy)
  · exact h1 y hy
theorem shut_shade (hs : C.shut pts) (r : Nat) : (C.shade r).shut pts := by
  intro x hx y hy
  show (C.mz y || _) = true
  rw [hs x hx y hy]
  rfl
theorem shut_shades (hs : C.shut pts) (rs : List Nat) : (C.shades rs).shut pts := by
  intro x hx y hy
  rw [shades_sc] at hx
  rw [shades_mz, hs x hx y hy]
  rfl
/-- Its fields are others now, and it is scanned no more. -/
theorem shut_regrey {pts' : Nat → List Nat} {r : Nat} (hs : C.shut pts) (hm : C.mz r = true) (hp : ∀ x, x ≠ r → pts' x = pts x) : (C.regrey r).shut pts' := by
  intro x hx y hy
  unfold Col.regrey at hx ⊢
  rw [if_pos hm] at hx ⊢
  simp only [Bool.and_eq_true, Bool.not_eq_true', decide_eq_false_iff_not] at hx
  rw [hp x hx.2] at hy
  exact hs x hx.1 y hy
theorem regrey_mz (C : Col) (r : Nat) : (C.regrey r).mz = C.mz := by unfold Col.regrey; split <;> rfl
theorem regrey_sub {r : Nat} (hs : ∀ x, C.sc x = true → C.mz x = true) : ∀ x, (C.regrey r).sc x = true → (C.regrey r).mz x = true := by
  intro x hx
  rw [regrey_mz]
  unfold Col.regrey at hx
  split at hx
  · simp only [Bool.and_eq_true] at hx
    exact hs x hx.1
  · exact hs x hx
/-- All that is marked is scanned: what is marked points to what is marked. -/
theorem shut_end (hs : C.shut pts) (hno : ∀ x, C.grey x = false) : ∀ x, C.mz x = true → ∀ y ∈ pts x, C.mz y = true := by
  intro x hx y hy
  refine hs x ?_ y hy
  cases e : C.sc x with
  | true => rfl
  | false =>
    have := hno x
    rw [show C.grey x = (C.mz x && !C.sc x) from rfl, hx, e] at this
    cases this
/-- Steps scan none of those that were scanned ahead: where these point plays no part. -/
theorem Steps.blind {pts' : Nat → List Nat} (h : Steps pts d C C') (hp : ∀ x, C.sc x = false → pts' x = pts x) : Steps pts' d C C' := by
  induction h with
  | zero => exact .zero _
  | @succ d C C1 r hs hg ih =>
    have hr : C.sc r = false := by
      cases e : C.sc r with
      | false => rfl
      | true =>
        have h1 := hs.mono.2 r e
        have h2 := (grey_iff.1 hg).2
        rw [h1] at h2
        cases h2
    rw [← hp r hr]
    exact .succ r (ih hp) hg
/-- What so many steps, or the end, come to. -/
theorem traced (h : Steps pts d C C') (hn : l.Nodup) (hc : ∀ x ∈ l, ∀ y ∈ pts x, y ∈ l) (h0 : ∀ x, C.mz x = true → x ∈ l) {k : Nat} (hk : l.length ≤ k) (hd : d < k → ∀ x, C'.grey x = false) : ∀ x, C'.grey x = false := by
  by_cases e : d < k
  · exact hd e
  · exact h.enough hn hc h0 (by omega)
/-- The number of those scanned, from none on. -/
theorem Steps.count0 (h : Steps pts d C C') (hn : l.Nodup) (hc : ∀ x ∈ l, ∀ y ∈ pts x, y ∈ l) (h0 : ∀ x, C.mz x = true → x ∈ l) (hs : ∀ x, C.sc x = false) : l.countP C'.sc = d := by
  rw [h.count hn hc h0, List.countP_eq_zero.2 (fun x _ => by rw [hs x]; decide)]
  omega
theorem leads_in {R : Nat → Prop} (hR : ∀ x, R x → x ∈ l) (hc : ∀ x ∈ l, ∀ y ∈ pts x, y ∈ l) : ∀ x, Leads pts R x → x ∈ l := leads_closed hR hc
theorem leads_mono {R R' : Nat → Prop} {pts' : Nat → List Nat} (hR : ∀ x, R x → R' x) (hp : ∀ x, ∀ y ∈ pts x, y ∈ pts' x) : ∀ x, Leads pts R x → Leads pts' R' x := by
  intro x h
  induction h with
  | base h => exact .base (hR _ h)
  | step _ hy ih => exact .step ih (hp _ _ hy)
end
end Go.Proofs.YtbcabjpafeocgaaGreat

/-
  Small of layer 11, and plain facts of tracing that the laws ask for. Conditions: as each theorem says.
-/
namespace Go.Proofs.YtbcabjpafeocgaaGreat
set_option linter.unusedVariables false
set_option linter.unusedSimpArgs false
open Go.RowKit Go.Shelf

theorem elems_white (n : Nat) : (elems n Col.white.mz).length = 0 := by
  unfold elems
  rw [List.filter_eq_nil_iff.2 (fun x _ => by simp [Col.white])]
  rfl
theorem white_grey (x : Nat) : Col.white.grey x = false := rfl
theorem shut_none_w (pts : Nat → List Nat) : Col.white.shut pts := fun _ h => by cases h
theorem Small11 (w : World) (A0 : Option Addr) (n0 c0 : Nat) (A1 : Option Addr) (n1 c1 : Nat) : Calls Tryz.prog 25 #[.agg #[.slice A0 n0 c0, .slice A1 n1 c1]] w fun e w' => e = .returned (.bool (decide (n0 ≤ 40) && decide (n1 ≤ 120))) ∧ Chg [] w w' := by
  by_cases h0 : n0 ≤ 40
  · have h0I : (n0 : Int) ≤ 40 := by omega
    by_cases h1 : n1 ≤ 120
    · have h1I : (n1 : Int) ≤ 120 := by omega
      have H0 := Lib.hid h0
      have H1 := Lib.hid h1
      clear h0 h1
      go_enter Tryz.func25, Tryz.ntmps25
      go_wp2
      go_ret
      refine ⟨?_, (Chg.refl _ _).alloc _⟩
      rw [decide_eq_true H0.out, decide_eq_true H1.out]
      rfl
    · have h1I : ¬ (n1 : Int) ≤ 120 := by omega
      have H0 := Lib.hid h0
      have H1 := Lib.hid h1
      clear h0 h1
      go_enter Tryz.func25, Tryz.ntmps25
      go_wp2
      go_ret
      refine ⟨?_, (Chg.refl _ _).alloc _⟩
      rw [decide_eq_true H0.out, decide_eq_false H1.out]
      rfl
  · have h0I : ¬ (n0 : Int) ≤ 40 := by omega
    have H0 := Lib.hid h0
    clear h0
    go_enter Tryz.func25, Tryz.ntmps25
    go_wp2
    go_ret
    refine ⟨?_, (Chg.refl _ _).alloc _⟩
    rw [decide_eq_false H0.out]
    rfl

section
variable {pts : Nat → List Nat} {d k : Nat} {C C' : Col} {l : List Nat} {A : AR} {rs : List Nat} {fs : Nat → List Nat}
theorem Gr.field (h : Gr A rs fs) (hl : rs.length ≤ 40) : Field_ rs (ptsOf fs) :=
  ⟨h.nodup, by omega, fun x hx => h.heap.pos hx, fun x => by
    by_cases hx : x ∈ rs
    · have := (ptsOf_len h.heap hx).1; omega
    · rw [h.ptsOut hx]; simp, h.ptsIn⟩
theorem Gr.lt (h : Gr A rs fs) {x : Nat} (hx : x ∈ rs) : 0 < x ∧ x < 2049 := by
  have h1 := h.heap.lt hx
  rw [h.size] at h1
  exact ⟨(h.heap.pos hx).1, by omega⟩
theorem Steps.none_ (h : Steps pts d C C') (hno : ∀ x, C.grey x = false) : d = 0 ∧ C' = C := by
  induction h with
  | zero => exact ⟨rfl, rfl⟩
  | succ r hs hg ih =>
    obtain ⟨_, rfl⟩ := ih hno
    rw [hno r] at hg
    cases hg
theorem Traced.none_ (h : Traced pts k d C C') (hno : ∀ x, C.grey x = false) : d = 0 ∧ C' = C := h.steps.none_ hno
theorem Traced.some_ (h : Traced pts k d C C') (hk : 0 < k) {x : Nat} (hx : C.grey x = true) : 0 < d := by
  rcases Nat.eq_zero_or_pos d with h0 | h0
  · subst h0
    have h1 := h.end_ hk x
    cases h.steps with
    | zero => rw [h1] at hx; cases hx
  · exact h0
theorem white_shades (l : List Nat) (x : Nat) : (Col.white.shades l).mz x = decide (x ∈ l) := by rw [shades_mz]; simp [Col.white]
theorem white_shades_sc (l : List Nat) (x : Nat) : (Col.white.shades l).sc x = false := by rw [shades_sc]; rfl
theorem shades_next {C : Col} {l : List Nat} {k x : Nat} (h : l[k]? = some x) : (C.shades (l.take k)).shade x = C.shades (l.take (k + 1)) := by
  rw [List.take_add_one, h]
  simp [Col.shades]
theorem shades_all {C : Col} {l : List Nat} {n : Nat} (h : l.length = n) : C.shades (l.take n) = C.shades l := by rw [← h, List.take_length]
/-- Traced to the end, just what can be reached is marked, and scanned. -/
theorem reach_marks {out : List Nat} {V : Nat → Bool} (h : Steps pts d (Col.white.shades out) C) (hno : ∀ x, C.grey x = false) (hV : ∀ x, V x = true ↔ Leads pts (fun x => x ∈ out) x) : C.mz = V ∧ C.sc = V := by
  have e : (fun x => (Col.white.shades out).mz x = true) = fun x => x ∈ out := funext fun x => by
    rw [white_shades]
    exact propext decide_eq_true_iff
  have hmz : C.mz = V := by
    funext x
    rw [Bool.eq_iff_iff, h.done hno (fun x hx => by rw [white_shades_sc] at hx; cases hx) x, hV x, e]
  have hsub := h.sub (fun x hx => by rw [white_shades_sc] at hx; cases hx)
  refine ⟨hmz, ?_⟩
  funext x
  rw [Steps.end_ hno hsub x, hmz]
/-- Shades of R's objects and steps of tracing, in any order, from white on. -/
structure Run (pts : Nat → List Nat) (R : Nat → Prop) (C : Col) : Prop where
  within : ∀ x, C.mz x = true → Leads pts R x
  shut : C.shut pts
  sub : ∀ x, C.sc x = true → C.mz x = true
theorem run_white (pts : Nat → List Nat) (R : Nat → Prop) : Run pts R Col.white := ⟨fun _ h => (by cases h), fun _ h => (by cases h), fun _ h => (by cases h)⟩
theorem Run.shade {R : Nat → Prop} (h : Run pts R C) {x : Nat} (hx : R x) : Run pts R (C.shade x) :=
  ⟨fun y hy => by
    have hy' : (C.mz y || decide (y = x)) = true := hy
    simp only [Bool.or_eq_true, decide_eq_true_eq] at hy'
    rcases hy' with h1 | rfl
    · exact h.within y h1
    · exact .base hx, shut_shade h.shut x, fun y hy => by
    show (C.mz y || _) = true
    rw [h.sub y hy]
    rfl⟩
theorem Run.steps {R : Nat → Prop} (h : Run pts R C) (hs : Steps pts d C C') : Run pts R C' :=
  ⟨hs.within (P := Leads pts R) (fun x hx y hy => .step hx hy) h.within, hs.shut h.shut, hs.sub h.sub⟩
theorem Run.end_ {R : Nat → Prop} (h : Run pts R C) (hno : ∀ x, C.grey x = false) (hR : ∀ x, R x → C.mz x = true) (x : Nat) : (C.mz x = true ↔ Leads pts R x) ∧ C.sc x = C.mz x :=
  ⟨⟨h.within x, leads_closed hR (fun x hx y hy => shut_end h.shut hno x hx y hy) x⟩, Steps.end_ hno h.sub x⟩
theorem run_shades {R : Nat → Prop} (hl : ∀ x ∈ l, R x) : ∀ {C : Col}, Run pts R C → Run pts R (C.shades l) := by
  induction l with
  | nil => exact fun h => h
  | cons a l ih => exact fun h => ih (fun x hx => hl x (List.mem_cons_of_mem _ hx)) (h.shade (hl a (by simp)))
theorem shade_mz (C : Col) (x : Nat) : (C.shade x).mz x = true := by simp [Col.shade]
theorem shade_keeps {x y : Nat} (h : C.mz y = true) : (C.shade x).mz y = true := by
  show (C.mz y || _) = true
  rw [h]
  rfl
theorem some_grey (h : ¬ ∀ x, C.grey x = false) : ∃ x, C.grey x = true := by
  apply Classical.byContradiction
  intro hn
  exact h fun x => by
    cases e : C.grey x with
    | false => rfl
    | true => exact absurd ⟨x, e⟩ hn
theorem Steps.most0 (h : Steps pts d (Col.white.shades l) C) {out : List Nat} (hn : out.Nodup) (hc : ∀ x ∈ out, ∀ y ∈ pts x, y ∈ out) (h0 : ∀ x ∈ l, x ∈ out) : out.countP C.sc = d ∧ d ≤ out.length := by
  have h1 := h.count0 hn hc (fun x hx => h0 x (by rw [white_shades] at hx; exact of_decide_eq_true hx)) (white_shades_sc l)
  exact ⟨h1, by have := List.countP_le_length (p := C.sc) (l := out); omega⟩
end
end Go.Proofs.YtbcabjpafeocgaaGreat

/-
  Plain facts for layer 11's MarkBlacks. Conditions: as each theorem says.
-/
namespace Go.Proofs.YtbcabjpafeocgaaGreat
set_option linter.unusedVariables false
set_option linter.unusedSimpArgs false

def Col.blacks (C : Col) (l : List Nat) : Col := l.foldl Col.black C
/-- Those of l lead nowhere. -/
def cutT (T : Nat → List Nat) (l : List Nat) : Nat → List Nat := fun x => if x ∈ l then [] else T x
section
variable {pts : Nat → List Nat} {d : Nat} {C : Col} {l out : List Nat} {k x : Nat}
theorem blacks_next (h : l[k]? = some x) : (C.blacks (l.take k)).black x = C.blacks (l.take (k + 1)) := by
  rw [List.take_add_one, h]
  simp [Col.blacks]
theorem blacks_mz (l : List Nat) : ∀ (C : Col) (x : Nat), (C.blacks l).mz x = (C.mz x || decide (x ∈ l)) ∧ (C.blacks l).sc x = (C.sc x || decide (x ∈ l)) := by
  induction l with
  | nil => intro C x; simp [Col.blacks]
  | cons a l ih =>
    intro C x
    show ((C.black a).blacks l).mz x = _ ∧ ((C.black a).blacks l).sc x = _
    rw [(ih _ x).1, (ih _ x).2]
    simp only [Col.black, List.mem_cons]
    by_cases h1 : x = a <;> by_cases h2 : x ∈ l <;> simp [h1, h2]
theorem cutT_none (T : Nat → List Nat) : cutT T [] = T := by funext x; simp [cutT]
theorem cutT_next (T : Nat → List Nat) (h : l[k]? = some x) : updT (cutT T (l.take k)) x [] = cutT T (l.take (k + 1)) := by
  funext y
  rw [List.take_add_one, h]
  by_cases e : y = x
  · subst e; simp [updT, cutT]
  · simp [updT, cutT, e]
theorem mem_next (h : l[k]? = some x) : putB (fun y => decide (y ∈ l.take k)) x = fun y => decide (y ∈ l.take (k + 1)) := by
  funext y
  rw [List.take_add_one, h]
  simp [putB]
theorem Field_.cut {objs : List Nat} {T : Nat → List Nat} (h : Field_ objs T) (l : List Nat) : Field_ objs (cutT T l) :=
  ⟨h.nodup, h.few, h.lt, fun x => by
    unfold cutT
    split
    · simp
    · exact h.short x, fun x hx y hy => by
    unfold cutT at hy
    split at hy
    · cases hy
    · exact h.into x hx y hy⟩
/-- What black ones alone lead to stays white. -/
theorem blacks_end (h : Steps pts d ((Col.white.blacks l).shades out) C) (hno : ∀ x, C.grey x = false) (x : Nat) : C.mz x = true ↔ (Leads (cutT pts l) (fun x => x ∈ out) x ∨ x ∈ l) := by
  have hsc : ∀ x, ((Col.white.blacks l).shades out).sc x = decide (x ∈ l) := fun x => by rw [shades_sc, (blacks_mz l _ x).2]; simp [Col.white]
  have hmz : ∀ x, ((Col.white.blacks l).shades out).mz x = true ↔ (x ∈ l ∨ x ∈ out) := fun x => by rw [shades_mz, (blacks_mz l _ x).1]; simp [Col.white]
  have h2 : Steps (cutT pts l) d ((Col.white.blacks l).shades out) C := h.blind (fun x hx => by
    rw [hsc] at hx
    simp only [decide_eq_false_iff_not] at hx
    simp [cutT, hx])
  rw [h2.done hno (fun y hy z hz => by
    rw [hsc] at hy
    simp only [decide_eq_true_eq] at hy
    simp [cutT, hy] at hz) x]
  constructor
  · intro hl
    induction hl with
    | base hb =>
      rcases (hmz _).1 hb with h1 | h1
      · exact .inr h1
      · exact .inl (.base h1)
    | @step x y _ hy ih =>
      rcases ih with h1 | h1
      · exact .inl (.step h1 hy)
      · simp [cutT, h1] at hy
  · rintro (hl | hl)
    · exact leads_mono (fun x hx => (hmz x).2 (.inr hx)) (fun _ _ h => h) x hl
    · exact .base ((hmz x).2 (.inl hl))
end
end Go.Proofs.YtbcabjpafeocgaaGreat

/-
  fit of layer 12. Conditions: as the theorem says.
-/
namespace Go.Proofs.YtbcabjpafeocgaaGreat
set_option linter.unusedVariables false
set_option linter.unusedSimpArgs false
open Go.RowKit Go.Shelf

theorem twos12 (w : World) (m : Nat) (cs : List Value) (hc : cs = List.replicate m (.int .u8 2)) : ArgI (w.alloc (.cells cs.toArray 5)) (some ⟨w.heap.size, 0, none⟩) m [.u8] (fun _ _ => 2) := by
  intro i hi
  refine ⟨w.heap.size, 0, rfl, by simp, fun j q hq => ?_⟩
  match j, hq with
  | 0, hq =>
    simp at hq
    subst hq
    refine ⟨?_, show (Lit.int .u8 2).wf = true by decide⟩
    have h := (Blk.new w 5 cs.toArray).cell i
    show (w.alloc (.cells cs.toArray 5)).cell? ⟨w.heap.size, 0 + i * 1 + 0, none⟩ = some (.int .u8 2)
    rw [show 0 + i * 1 + 0 = i by omega, h, hc]
    simp [hi]
theorem argI_none12 (w : World) (qs : List IntKind) : ArgI w none 0 qs (fun _ _ => 0) := fun i hi => absurd hi (by omega)
theorem elems_none (n : Nat) : (elems n (fun _ => false)).length = 0 := by unfold elems; simp
theorem Gr.tk12 {A : AR} {rs : List Nat} {fs : Nat → List Nat} (h : Gr A rs fs) {x : Nat} (hx : x ∈ rs) : A.tk x = true := by
  obtain ⟨_, ho⟩ := h.heap.obj x hx
  exact ho.tk
theorem Gr.pageZ {A : AR} {rs : List Nat} {fs : Nat → List Nat} (h : Gr A rs fs) {x : Nat} (hx : x ∈ rs) : A.page (x : Int) = (((x - 1) / 32 : Nat) : Int) ∧ (x - 1) / 32 < 64 := by
  obtain ⟨q, kq, hq, _, _, _, _, hpq, _, hdq⟩ := h.heap.wf.at_ (h.tk12 hx)
  rw [hdq]
  exact ⟨hpq, by rw [← h.n]; exact hq⟩
set_option maxRecDepth 100000 in
set_option maxHeartbeats 4000000 in
theorem fit12 (w : World) : Calls Tryz.prog 10 #[] w fun e w' => e = .returned (.bool true) ∧ Chg [] w w' := by
  obtain ⟨W, hW⟩ : ∃ W, w.alloc (.cells #[.int .u8 2, .int .u8 2] 5) = W := ⟨_, rfl⟩
  have hz := twos12 w 2 [.int .u8 2, .int .u8 2] rfl
  simp only [List.toArray] at hz
  have hch := (Chg.refl [] w).alloc (.cells #[.int .u8 2, .int .u8 2] 5)
  rw [hW] at hch
  have hz' : ArgI W (some ⟨w.heap.size, 0, none⟩) 2 [.u8] (fun _ _ => 2) := by rw [← hW]; exact hz
  have HCH := Lib.hid hch
  have HMD := Lib.hid (Made11 (some ⟨w.heap.size, 0, none⟩) 2 2 (fun _ _ => 2) none 0 0 (fun _ _ => 0) hz' (argI_none12 W _) (by omega) (by omega) (Sep.start W))
  have hro : Tryz.prog.follows .mixedOrders = true := by kernel_rfl
  clear hz hz' hch
  go_enter Tryz.func10, Tryz.ntmps10
  go_wp2_with (first
    | (go_at_call 11; refine (HMD.out).mono ?_; rintro e w3 ⟨a, b, v, A, rs, fs, rfl, hgr, hlen, hs⟩; obtain ⟨x, y, rfl⟩ : ∃ x y, rs = [x, y] := (by match rs, hlen with | [x, y], _ => exact ⟨x, y, rfl⟩); have HGR := Lib.hid hgr; obtain ⟨g, capl, hv, _, _⟩ := hs.rowSome 1 rfl (by simp); rw [hv] at hs ⊢; have HX2 := Lib.hid (hgr.lt (x := x) (by simp)); have HY2 := Lib.hid (hgr.lt (x := y) (by simp)); have HN := Lib.hid (show A.n ≤ 1000 by rw [hgr.n]; omega); have HS3 := Lib.hid hs; clear hs hgr hlen hv HMD)
    | (go_at_call 12; refine (KNew HS3.out 0 rfl HGR.out.size (by omega) 4 (by omega)).mono ?_; rintro e w4 ⟨m, rfl, hs⟩; have HC := Lib.hid (BNew hs 0 1 rfl rfl); clear hs HS3)
    | (go_at_call 14; refine (HC.out).mono ?_; rintro e w5 ⟨bb, rfl, hs⟩; have hs' := (show Sep W w5 (steeleR bb m a A.n (fun _ => false) :: markR m a 2049 (Col.white) :: arenaR a A :: rowR 34 1 (.slice (some ⟨g, 0, none⟩) 2 capl) 2 (nums [x, y]) :: adjR Tryz.prog 34 34 b (ptsOf fs) :: []) from hs); have x0 := hs'.rowCell 3 rfl 0 _ (nums_get [x, y] 0 x rfl); have x1 := hs'.rowCell 3 rfl 1 _ (nums_get [x, y] 1 y rfl); have HCB := Lib.hid (KBlacken hs' 1 rfl x HX2.out.1 HX2.out.2); clear hs hs' HC)
    | (go_at_call 21; refine (HCB.out).mono ?_; rintro e w6 ⟨rfl, hs⟩; clear x0 x1; have hs' := (show Sep W w6 (steeleR bb m a A.n (fun _ => false) :: markR m a 2049 (Col.white.black x) :: arenaR a A :: rowR 34 1 (.slice (some ⟨g, 0, none⟩) 2 capl) 2 (nums [x, y]) :: adjR Tryz.prog 34 34 b (ptsOf fs) :: []) from hs); have x0 := hs'.rowCell 3 rfl 0 _ (nums_get [x, y] 0 x rfl); have x1 := hs'.rowCell 3 rfl 1 _ (nums_get [x, y] 1 y rfl); have hsc := KScanned hs' 1 rfl x HX2.out.2; rw [show (Col.white.black x).sc x = true by simp [Col.black]] at hsc; have HSC := Lib.hid hsc; clear hs hs' hsc HCB)
    | (go_at_call 40; refine (BRescans _ bb).mono ?_; rintro e w6_ ⟨rfl, rfl⟩)
    | (go_at_call 19; refine (HSC.out).mono ?_; rintro e w7 ⟨rfl, hs⟩; clear x0 x1; have HS7 := Lib.hid (show Sep W w7 (steeleR bb m a A.n (fun _ => false) :: markR m a 2049 (Col.white.black x) :: arenaR a A :: rowR 34 1 (.slice (some ⟨g, 0, none⟩) 2 capl) 2 (nums [x, y]) :: adjR Tryz.prog 34 34 b (ptsOf fs) :: []) from hs); clear hs HSC))
  obtain ⟨wd1, hwd1⟩ : ∃ wd, (w7).drew = wd := ⟨_, rfl⟩
  have hd := HS7.out.drew
  rw [hwd1] at hd
  have x0 := hd.rowCell 3 rfl 0 _ (nums_get [x, y] 0 x rfl)
  have x1 := hd.rowCell 3 rfl 1 _ (nums_get [x, y] 1 y rfl)
  have HS8 := Lib.hid hd
  clear hd HS7
  refine wp_region_still_tail 8 (by kernel_rfl) (by kernel_rfl) ?_
  change wpStill _ _ (World.drew _) (fun a' => wpList _ _ _ _ a' (World.drew _)) _ _
  rw [hwd1]
  clear hwd1
  simp only [List.take_succ_cons, List.take_zero, List.drop_succ_cons, List.drop_zero]
  repeat still_step
  refine wpStill_nil ?_
  have HPO := Lib.hid (BPost HS8.out 0 2 rfl rfl (by decide) HN.out (x : Int) 0 (y : Int) false false (by have := HX2.out; omega))
  clear x0 x1
  have hpg := HGR.out.pageZ (x := x) (by simp)
  have HDL := Lib.hid (dirtied_lt (A := A) (D := fun _ => false) (p := A.page (x : Int)) (fun i h => by cases h) (by rw [hpg.1, HGR.out.n]; omega))
  have HG1 := Lib.hid (show ((Col.white.black x).greyD A (dirtied (fun _ => false) (A.page (x : Int)))).sc x = false by
    unfold Col.greyD dirtied
    rw [hpg.1]
    simp [HGR.out.tk12 (x := x) (by simp)])
  have HG2 := Lib.hid (show ((Col.white.black x).greyD A (dirtied (fun _ => false) (A.page (x : Int)))).mz x = true by simp [Col.greyD, Col.black])
  have HG3 := Lib.hid (show ((Col.white.black x).greyD A (dirtied (fun _ => false) (A.page (x : Int)))).mz y = false by
    have hne : y ≠ x := fun e => by have := HGR.out.nodup; rw [e] at this; simp at this
    simp [Col.greyD, Col.black, Col.white, hne])
  clear hpg
  go_wp2_with (first
    | (go_at_call 17; refine (HPO.out).mono ?_; rintro e w8 ⟨rfl, hs⟩; have hs' := (show Sep W w8 (steeleR bb m a A.n (dirtied (fun _ => false) (A.page (x : Int))) :: markR m a 2049 (Col.white.black x) :: arenaR a A :: rowR 34 1 (.slice (some ⟨g, 0, none⟩) 2 capl) 2 (nums [x, y]) :: adjR Tryz.prog 34 34 b (ptsOf fs) :: []) from hs); have HRM := Lib.hid (BRemark HGR.out.heap.wf HGR.out.size HN.out HDL.out hs'); clear hs hs' HPO)
    | (go_at_call 15; refine (HRM.out).mono ?_; rintro e w9 ⟨rfl, hs⟩; have hs' := (show Sep W w9 (steeleR bb m a A.n (fun _ => false) :: markR m a 2049 ((Col.white.black x).greyD A (dirtied (fun _ => false) (A.page (x : Int)))) :: arenaR a A :: rowR 34 1 (.slice (some ⟨g, 0, none⟩) 2 capl) 2 (nums [x, y]) :: adjR Tryz.prog 34 34 b (ptsOf fs) :: []) from hs); have x0 := hs'.rowCell 3 rfl 0 _ (nums_get [x, y] 0 x rfl); have x1 := hs'.rowCell 3 rfl 1 _ (nums_get [x, y] 1 y rfl); have hsc := KScanned hs' 1 rfl x HX2.out.2; rw [HG1.out] at hsc; have HSC := Lib.hid hsc; clear hs hs' hsc HRM)
    | (go_at_call 19; refine (HSC.out).mono ?_; rintro e w10 ⟨rfl, hs⟩; clear x0 x1; have hs' := (show Sep W w10 (steeleR bb m a A.n (fun _ => false) :: markR m a 2049 ((Col.white.black x).greyD A (dirtied (fun _ => false) (A.page (x : Int)))) :: arenaR a A :: rowR 34 1 (.slice (some ⟨g, 0, none⟩) 2 capl) 2 (nums [x, y]) :: adjR Tryz.prog 34 34 b (ptsOf fs) :: []) from hs); have x0 := hs'.rowCell 3 rfl 0 _ (nums_get [x, y] 0 x rfl); have x1 := hs'.rowCell 3 rfl 1 _ (nums_get [x, y] 1 y rfl); have hsc := KMarked hs' 1 rfl x HX2.out.2; rw [HG2.out] at hsc; have HM1 := Lib.hid hsc; clear hs hs' hsc HSC)
    | (go_at_call 18; refine (HM1.out).mono ?_; rintro e w11 ⟨rfl, hs⟩; clear x0 x1; have hs' := (show Sep W w11 (steeleR bb m a A.n (fun _ => false) :: markR m a 2049 ((Col.white.black x).greyD A (dirtied (fun _ => false) (A.page (x : Int)))) :: arenaR a A :: rowR 34 1 (.slice (some ⟨g, 0, none⟩) 2 capl) 2 (nums [x, y]) :: adjR Tryz.prog 34 34 b (ptsOf fs) :: []) from hs); have x0 := hs'.rowCell 3 rfl 0 _ (nums_get [x, y] 0 x rfl); have x1 := hs'.rowCell 3 rfl 1 _ (nums_get [x, y] 1 y rfl); have hsc := KMarked hs' 1 rfl y HY2.out.2; rw [HG3.out] at hsc; have HM2 := Lib.hid hsc; clear hs hs' hsc HM1)
    | (go_at_call 18; refine (HM2.out).mono ?_; rintro e w12 ⟨rfl, hs⟩; clear x0 x1; have hs' := (show Sep W w12 (steeleR bb m a A.n (fun _ => false) :: markR m a 2049 ((Col.white.black x).greyD A (dirtied (fun _ => false) (A.page (x : Int)))) :: arenaR a A :: rowR 34 1 (.slice (some ⟨g, 0, none⟩) 2 capl) 2 (nums [x, y]) :: adjR Tryz.prog 34 34 b (ptsOf fs) :: []) from hs); have hsc := BDirty hs' 0 rfl HN.out; rw [elems_none] at hsc; have HDI := Lib.hid hsc; clear hs hs' hsc HM2)
    | (go_at_call 41; refine (HDI.out).mono ?_; rintro e w13 ⟨rfl, hs⟩; have HS9 := Lib.hid hs; clear hs HDI))
  go_ret
  exact ⟨by first | rfl | simp, HCH.out.trans HS9.out.chg (by simp)⟩
end Go.Proofs.YtbcabjpafeocgaaGreat

/-
  Which of a list were chosen, and what a trace does where nothing points anywhere (laws SteeleWhite, SteelePages). Conditions: as each theorem says; no walk.
-/
namespace Go.Proofs.YtbcabjpafeocgaaGreat
set_option linter.unusedVariables false
set_option linter.unusedSimpArgs false
open Go.RowKit Go.Shelf

/-- Byte i says so. -/
def gB (n : Nat) (D : Nat → Nat → Int) (i : Nat) : Bool := decide (i < n) && decide (D i 0 % 2 = 1)
/-- K are those of the first k that the bytes name. -/
structure Picked (rs : List Nat) (n : Nat) (D : Nat → Nat → Int) (k : Nat) (K : List Nat) : Prop where
  nodup : K.Nodup
  sub : ∀ x ∈ K, x ∈ rs.take k
  le : K.length ≤ k
  iff : ∀ i x, rs[i]? = some x → i < k → (decide (x ∈ K) = gB n D i)
section
variable {rs K : List Nat} {n k x : Nat} {D : Nat → Nat → Int} {C C' : Col} {A : AR} {fs : Nat → List Nat}
theorem Picked.start : Picked rs n D 0 [] := ⟨List.nodup_nil, fun x h => by simp at h, by simp, fun i x _ h => by omega⟩
theorem Picked.fresh (h : Picked rs n D k K) (hn : rs.Nodup) (hx : rs[k]? = some x) : x ∉ K := fun hm => nodup_take hn hx (h.sub x hm)
theorem Picked.yes (h : Picked rs n D k K) (hn : rs.Nodup) (hx : rs[k]? = some x) (hg : gB n D k = true) : Picked rs n D (k + 1) (K ++ [x]) := by
  have hf := h.fresh hn hx
  refine ⟨List.nodup_append.2 ⟨h.nodup, by simp, fun a ha b hb e => hf (by simp at hb; rw [← hb, ← e]; exact ha)⟩, fun y hy => ?_, by rw [List.length_append]; have := h.le; simp; omega, fun i y hy hi => ?_⟩
  · rw [take_succ_mem hx]
    exact (List.mem_append.1 hy).imp (h.sub y) (fun e => by simpa using e)
  · by_cases e : i = k
    · subst e
      rw [hx] at hy
      cases hy
      rw [hg]
      simp
    · have hne : y ≠ x := fun e2 => by
        subst e2
        obtain ⟨h1, h2⟩ := List.getElem?_eq_some_iff.1 hy
        obtain ⟨h3, h4⟩ := List.getElem?_eq_some_iff.1 hx
        exact e ((List.getElem_inj hn).1 (h2.trans h4.symm))
      rw [← h.iff i y hy (by omega)]
      simp [hne]
theorem Picked.no (h : Picked rs n D k K) (hn : rs.Nodup) (hx : rs[k]? = some x) (hg : gB n D k = false) : Picked rs n D (k + 1) K := by
  refine ⟨h.nodup, fun y hy => by rw [take_succ_mem hx]; exact .inl (h.sub y hy), by have := h.le; omega, fun i y hy hi => ?_⟩
  by_cases e : i = k
  · subst e
    rw [hx] at hy
    cases hy
    rw [hg]
    exact decide_eq_false (h.fresh hn hx)
  · exact h.iff i y hy (by omega)
theorem Picked.in_ (h : Picked rs n D k K) : ∀ x ∈ K, x ∈ rs := fun x hx => List.mem_of_mem_take (h.sub x hx)
theorem blacks_push (C : Col) (K : List Nat) (x : Nat) : C.blacks (K ++ [x]) = (C.blacks K).black x := by simp [Col.blacks]
theorem white_mz (K : List Nat) (x : Nat) : (Col.white.shades K).mz x = decide (x ∈ K) := by rw [shades_mz]; simp [Col.white]
theorem white_sc (K : List Nat) (x : Nat) : (Col.white.shades K).sc x = false := by rw [shades_sc]; rfl
theorem greyD_white (h : ∀ x, C.sc x = false) (D : Nat → Bool) : C.greyD A D = C := Col.ext (fun _ => rfl) (fun x => by simp [Col.greyD, h x])
theorem greyD_none : C.greyD A (fun _ => false) = C := Col.ext (fun _ => rfl) (fun x => by simp [Col.greyD])
theorem white_count (hn : K.Nodup) {N : Nat} (hl : ∀ x ∈ K, x < N) : (elems N (Col.white.shades K).mz).length = K.length := by
  rw [elems_count hn hl (fun x hx => by rw [white_mz] at hx; exact of_decide_eq_true hx)]
  exact List.countP_eq_length.2 (fun x hx => by rw [white_mz]; exact decide_eq_true hx)
/-- A trace to the end, where nothing points anywhere. -/
theorem bare_trace {pts : Nat → List Nat} {d : Nat} (hb : ∀ x, pts x = []) (hr : rs.Nodup) (hK : K.Nodup) (hin : ∀ x ∈ K, x ∈ rs) (h : Steps pts d (Col.white.shades K) C') (hno : ∀ x, C'.grey x = false) : d = K.length := by
  have hsub : ∀ x, C'.sc x = true → C'.mz x = true := h.sub (fun x hx => by rw [white_sc] at hx; cases hx)
  have hend := Steps.end_ hno hsub
  have hwi := h.within (P := fun x => x ∈ K) (fun x _ y hy => by rw [hb] at hy; simp at hy) (fun x hx => by rw [white_mz] at hx; exact of_decide_eq_true hx)
  have hmo := h.mono.1
  have hc := h.count hK (fun x _ y hy => by rw [hb] at hy; simp at hy) (fun x hx => by rw [white_mz] at hx; exact of_decide_eq_true hx)
  rw [List.countP_eq_length.2 (fun x hx => by rw [hend]; exact hmo x (by rw [white_mz]; exact decide_eq_true hx)), List.countP_eq_zero.2 (fun x _ => by rw [white_sc]; simp)] at hc
  omega
/-- All of rs are black but those of page q, which are grey: so many are scanned. -/
theorem page_trace {pts : Nat → List Nat} {d q : Nat} (hr : rs.Nodup) (hc : ∀ x ∈ rs, ∀ y ∈ pts x, y ∈ rs) (hm : ∀ x, C.mz x = true ↔ x ∈ rs) (hs : ∀ x ∈ rs, C.sc x = !decide ((x - 1) / 32 = q)) (hs2 : ∀ x, C.sc x = true → C.mz x = true) (h : Steps pts d C C') (hno : ∀ x, C'.grey x = false) : d = rs.countP fun x => decide ((x - 1) / 32 = q) := by
  have hend := Steps.end_ hno (h.sub hs2)
  have h1 := h.count hr hc (fun x hx => (hm x).1 hx)
  rw [List.countP_eq_length.2 (fun x hx => by rw [hend]; exact h.mono.1 x ((hm x).2 hx)), List.countP_congr (fun x hx => by rw [hs x hx])] at h1
  have h2 := List.length_eq_countP_add_countP (fun x => decide ((x - 1) / 32 = q)) (l := rs)
  have h3 : rs.countP (fun x => !decide ((x - 1) / 32 = q)) = rs.countP (fun x => decide ¬(decide ((x - 1) / 32 = q)) = true) := List.countP_congr (fun x _ => by by_cases e : (x - 1) / 32 = q <;> simp [e])
  omega
end
end Go.Proofs.YtbcabjpafeocgaaGreat

/-
  The bits of a byte, as the walk spells them. Conditions: numbers between 0 and 255.
-/
namespace Go.Proofs.YtbcabjpafeocgaaGreat
open Go.RowKit

/-- Bit t of x. -/
def bitZ (x t : Int) : Bool := bits .and .u8 (x / 2 ^ t.toNat) 1 == 1

theorem bit_nat (x t : Nat) (hx : x < 256) : bitZ (x : Int) (t : Int) = x.testBit t := by
  have hd : x / 2 ^ t < 256 := Nat.lt_of_le_of_lt (Nat.div_le_self _ _) hx
  unfold bitZ
  rw [Int.toNat_natCast]
  have h1 : ((x : Int) / 2 ^ t) = ((x / 2 ^ t : Nat) : Int) := by simp
  rw [h1]
  have h2 := u8_and_nat (x / 2 ^ t) 1 hd (by omega)
  rw [show ((1 : Nat) : Int) = 1 from rfl] at h2
  rw [h2, Nat.and_one_is_mod, Nat.testBit_eq_decide_div_mod_eq]
  rw [Bool.eq_iff_iff]
  simp
  omega

theorem byte_nat {x : Int} (h0 : 0 ≤ x) (h1 : x ≤ 255) : ∃ n : Nat, x = n ∧ n < 256 := ⟨x.toNat, by omega, by omega⟩

theorem bit_and {x y t : Int} (hx0 : 0 ≤ x) (hx1 : x ≤ 255) (hy0 : 0 ≤ y) (hy1 : y ≤ 255) (ht : 0 ≤ t) : bitZ (bits .and .u8 x y) t = (bitZ x t && bitZ y t) := by
  obtain ⟨a, rfl, ha⟩ := byte_nat hx0 hx1
  obtain ⟨b, rfl, hb⟩ := byte_nat hy0 hy1
  obtain ⟨k, rfl⟩ := Int.eq_ofNat_of_zero_le ht
  rw [u8_and_nat a b ha hb, bit_nat _ _ (Nat.lt_of_le_of_lt Nat.and_le_left ha), bit_nat _ _ ha, bit_nat _ _ hb, Nat.testBit_and]

theorem or_lt {a b : Nat} (ha : a < 256) (hb : b < 256) : a ||| b < 256 := Nat.or_lt_two_pow (n := 8) ha hb

theorem bit_or {x y t : Int} (hx0 : 0 ≤ x) (hx1 : x ≤ 255) (hy0 : 0 ≤ y) (hy1 : y ≤ 255) (ht : 0 ≤ t) : bitZ (bits .or .u8 x y) t = (bitZ x t || bitZ y t) := by
  obtain ⟨a, rfl, ha⟩ := byte_nat hx0 hx1
  obtain ⟨b, rfl, hb⟩ := byte_nat hy0 hy1
  obtain ⟨k, rfl⟩ := Int.eq_ofNat_of_zero_le ht
  rw [u8_or_nat a b ha hb, bit_nat _ _ (or_lt ha hb), bit_nat _ _ ha, bit_nat _ _ hb, Nat.testBit_or]

theorem and_byte {x y : Int} (hx0 : 0 ≤ x) (hx1 : x ≤ 255) (hy0 : 0 ≤ y) (hy1 : y ≤ 255) : 0 ≤ bits .and .u8 x y ∧ bits .and .u8 x y ≤ 255 := by
  obtain ⟨a, rfl, ha⟩ := byte_nat hx0 hx1
  obtain ⟨b, rfl, hb⟩ := byte_nat hy0 hy1
  rw [u8_and_nat a b ha hb]
  have : a &&& b ≤ a := Nat.and_le_left
  omega

theorem or_byte {x y : Int} (hx0 : 0 ≤ x) (hx1 : x ≤ 255) (hy0 : 0 ≤ y) (hy1 : y ≤ 255) : 0 ≤ bits .or .u8 x y ∧ bits .or .u8 x y ≤ 255 := by
  obtain ⟨a, rfl, ha⟩ := byte_nat hx0 hx1
  obtain ⟨b, rfl, hb⟩ := byte_nat hy0 hy1
  rw [u8_or_nat a b ha hb]
  have := or_lt ha hb
  omega

theorem bit_0 (x : Int) : (bits .and .u8 x 1 == 1) = bitZ x 0 := by unfold bitZ; simp
theorem bit_1 (x : Int) : (bits .and .u8 (x / 2) 1 == 1) = bitZ x 1 := rfl
theorem bit_2 (x : Int) : (bits .and .u8 (x / 4) 1 == 1) = bitZ x 2 := rfl
theorem bit_3 (x : Int) : (bits .and .u8 (x / 8) 1 == 1) = bitZ x 3 := rfl

theorem bit_zero (x : Int) (t : Nat) (h0 : 0 ≤ x) (h1 : x ≤ 255) : (bits .and .u8 (x / 2 ^ t) 1 == 0) = !bitZ x t := by
  obtain ⟨a, rfl, ha⟩ := byte_nat h0 h1
  have hd : a / 2 ^ t < 256 := Nat.lt_of_le_of_lt (Nat.div_le_self _ _) ha
  have e : ((a : Int) / 2 ^ t) = ((a / 2 ^ t : Nat) : Int) := by simp
  have h2 := u8_and_nat (a / 2 ^ t) 1 hd (by omega)
  rw [show ((1 : Nat) : Int) = 1 from rfl] at h2
  unfold bitZ
  rw [Int.toNat_natCast, e, h2, Nat.and_one_is_mod]
  rw [Bool.eq_iff_iff]
  simp
  omega
theorem bitz_0 (x : Int) (h0 : 0 ≤ x) (h1 : x ≤ 255) : (bits .and .u8 x 1 == 0) = !bitZ x 0 := by simpa using bit_zero x 0 h0 h1
theorem bitz_1 (x : Int) (h0 : 0 ≤ x) (h1 : x ≤ 255) : (bits .and .u8 (x / 2) 1 == 0) = !bitZ x 1 := bit_zero x 1 h0 h1
theorem bitz_2 (x : Int) (h0 : 0 ≤ x) (h1 : x ≤ 255) : (bits .and .u8 (x / 4) 1 == 0) = !bitZ x 2 := bit_zero x 2 h0 h1
theorem bitz_3 (x : Int) (h0 : 0 ≤ x) (h1 : x ≤ 255) : (bits .and .u8 (x / 8) 1 == 0) = !bitZ x 3 := bit_zero x 3 h0 h1

end Go.Proofs.YtbcabjpafeocgaaGreat

/-
  Masks of a byte. Conditions: numbers between 0 and 255.
-/
namespace Go.Proofs.YtbcabjpafeocgaaGreat
set_option linter.unusedVariables false
open Go.RowKit

theorem and8_of {x : Int} (h : 0 ≤ x ∧ x ≤ 255) (m : Nat) (hm : m < 256) (f : Nat → Nat) (hf : ∀ n : Nat, n < 256 → n &&& m = f n) : bits .and .u8 x (m : Int) = (f x.toNat : Int) := by
  obtain ⟨n, rfl, hn⟩ := byte_nat h.1 h.2
  rw [u8_and_nat n m hn hm, hf n hn]
  simp
set_option maxRecDepth 10000 in
theorem and8_1 {x : Int} (h : 0 ≤ x ∧ x ≤ 255) : bits .and .u8 x 1 = x % 2 := by
  have := and8_of h 1 (by decide) (fun n => n % 2) (fun n _ => Nat.and_two_pow_sub_one_eq_mod n 1)
  rw [show ((1 : Nat) : Int) = 1 from rfl] at this
  rw [this]; omega
theorem and8_3 {x : Int} (h : 0 ≤ x ∧ x ≤ 255) : bits .and .u8 x 3 = x % 4 := by
  have := and8_of h 3 (by decide) (fun n => n % 4) (fun n _ => Nat.and_two_pow_sub_one_eq_mod n 2)
  rw [show ((3 : Nat) : Int) = 3 from rfl] at this
  rw [this]; omega
theorem and8_7 {x : Int} (h : 0 ≤ x ∧ x ≤ 255) : bits .and .u8 x 7 = x % 8 := by
  have := and8_of h 7 (by decide) (fun n => n % 8) (fun n _ => Nat.and_two_pow_sub_one_eq_mod n 3)
  rw [show ((7 : Nat) : Int) = 7 from rfl] at this
  rw [this]; omega
theorem and8_15 {x : Int} (h : 0 ≤ x ∧ x ≤ 255) : bits .and .u8 x 15 = x % 16 := by
  have := and8_of h 15 (by decide) (fun n => n % 16) (fun n _ => Nat.and_two_pow_sub_one_eq_mod n 4)
  rw [show ((15 : Nat) : Int) = 15 from rfl] at this
  rw [this]; omega
theorem all256 {p : Nat → Prop} [DecidablePred p] (h : (List.range 256).all (fun n => decide (p n)) = true) : ∀ n : Nat, n < 256 → p n := by
  intro n hn
  have := List.all_eq_true.1 h n (List.mem_range.2 hn)
  exact of_decide_eq_true this
theorem and8_4 {x : Int} (h : 0 ≤ x ∧ x ≤ 255) : bits .and .u8 x 4 = 4 * (x / 4 % 2) := by
  have := and8_of h 4 (by decide) (fun n => 4 * (n / 4 % 2)) (all256 (by decide +kernel))
  rw [show ((4 : Nat) : Int) = 4 from rfl] at this
  rw [this]; omega
theorem and8_8 {x : Int} (h : 0 ≤ x ∧ x ≤ 255) : bits .and .u8 x 8 = 8 * (x / 8 % 2) := by
  have := and8_of h 8 (by decide) (fun n => 8 * (n / 8 % 2)) (all256 (by decide +kernel))
  rw [show ((8 : Nat) : Int) = 8 from rfl] at this
  rw [this]; omega
theorem and8_16 {x : Int} (h : 0 ≤ x ∧ x ≤ 255) : bits .and .u8 x 16 = 16 * (x / 16 % 2) := by
  have := and8_of h 16 (by decide) (fun n => 16 * (n / 16 % 2)) (all256 (by decide +kernel))
  rw [show ((16 : Nat) : Int) = 16 from rfl] at this
  rw [this]; omega
theorem and8_12 {x : Int} (h : 0 ≤ x ∧ x ≤ 255) : bits .and .u8 x 12 = 4 * (x / 4 % 4) := by
  have := and8_of h 12 (by decide) (fun n => 4 * (n / 4 % 4)) (all256 (by decide +kernel))
  rw [show ((12 : Nat) : Int) = 12 from rfl] at this
  rw [this]; omega
theorem and8_24 {x : Int} (h : 0 ≤ x ∧ x ≤ 255) : bits .and .u8 x 24 = 8 * (x / 8 % 4) := by
  have := and8_of h 24 (by decide) (fun n => 8 * (n / 8 % 4)) (all256 (by decide +kernel))
  rw [show ((24 : Nat) : Int) = 24 from rfl] at this
  rw [this]; omega
end Go.Proofs.YtbcabjpafeocgaaGreat

/-
  The walk of SteeleWhite. Conditions: as the theorem says.
-/
namespace Go.Proofs.YtbcabjpafeocgaaGreat
set_option linter.unusedVariables false
set_option linter.unusedSimpArgs false
open Go.RowKit Go.Shelf

set_option maxRecDepth 100000 in
set_option maxHeartbeats 16000000 in
theorem steeleWhite_walk (A0 : Option Addr) (n0 c0 : Nat) (D0 : Nat → Nat → Int) (A1 : Option Addr) (n1 c1 : Nat) (D1 : Nat → Nat → Int) (r0 : Int) (w : World) (hz0 : ArgI w A0 n0 [.u8] D0) (hm0 : n0 ≤ maxLen) (hz1 : ArgI w A1 n1 [.u8] D1) (hm1 : n1 ≤ maxLen) (hr0 : (Lit.int .u8 r0).wf = true) :
    Calls Tryz.prog 3 #[.slice A0 n0 c0, .slice A1 n1 c1, .int .u8 r0] w fun e w' => e = .returned (.bool true) ∧ Below w.heap.size w w' := by
  have HZ0 := Lib.hid hz0
  have HZ1 := Lib.hid hz1
  have hr0w := wf8 hr0
  unfold maxLen at hm0 hm1
  clear hz0 hz1
  go_enter Tryz.func3, Tryz.ntmps3
  by_cases hz : n0 = 0
  · have hzb : ((n0 : Int) == 0) = true := by simp; omega
    have hzd : decide ((n0 : Int) = 0) = true := decide_eq_true (by omega)
    clear hz
    go_wp2_with (go_at_call 10; refine (fit12 _).mono ?_; rintro e w1 ⟨rfl, hC⟩; have HS1 := Lib.hid ((Sep.start w).same hC); clear hC)
    go_ret
    exact ⟨rfl, HS1.out.below⟩
  · have hzb : ((n0 : Int) == 0) = false := by simp; omega
    have hzd : decide ((n0 : Int) = 0) = false := decide_eq_false (by omega)
    by_cases hbig : 30 < n0
    · have hbI : (30 : Int) < (n0 : Int) := by omega
      go_wp2_with (go_at_call 10; refine (fit12 _).mono ?_; rintro e w1 ⟨rfl, hC⟩; have HS1 := Lib.hid ((Sep.start w).same hC); clear hC)
      go_ret
      exact ⟨rfl, HS1.out.below⟩
    · have hbI : ¬ (30 : Int) < (n0 : Int) := by omega
      have hnn : ((n0 : Int) != (n0 : Int)) = false := by simp
      go_wp2_with (first
        | (go_at_call 10; refine (fit12 _).mono ?_; rintro e w1 ⟨rfl, hC⟩; have HS1 := Lib.hid ((Sep.start w).same hC); clear hC)
        | (go_at_call 11; refine (Made11E A0 n0 c0 D0 none 0 0 (fun _ _ => 0) HZ0.out (argI_none12 w _) (by omega) (by omega) HS1.out).mono ?_; rintro e w3 ⟨a, b, v, A, rs, fs, rfl, hgr, hlen, hle, hs⟩; have HGR := Lib.hid hgr; have HBARE := Lib.hid (show ∀ x, ptsOf fs x = [] from hle.2 rfl); rw [hlen] at hs; obtain ⟨AL, capl, rfl, hcapl, hmcapl⟩ := hs.rowShape 1 rfl; unfold maxLen at hmcapl; have HRN := Lib.hid hlen; have HS3 := Lib.hid hs; clear hs hgr hle HS1 hlen)
        | (go_at_call 12; refine (KNew HS3.out 0 rfl HGR.out.size (by omega) 64 (by omega)).mono ?_; rintro e w4 ⟨m, rfl, hs⟩; have HS5 := Lib.hid hs; clear hs HS3))
      go_loopw [11, 43] (fun nv iv wr => ∃ (k : Nat) (K : List Nat), k ≤ n0 ∧ iv = .int .i64 k ∧ nv = .int .i64 (K.length : Int) ∧ Picked rs n1 D1 k K ∧ Sep w wr (markR m a 2049 (Col.white.shades K) :: arenaR a A :: rowR 34 1 (.slice AL n0 capl) n0 (nums rs) :: adjR Tryz.prog 34 34 b (ptsOf fs) :: [])) (fun _ iv _ => n0 + 1 - (intOf iv).toNat)
      case atStart => exact ⟨0, [], by omega, rfl, rfl, Picked.start, HS5.out⟩
      case round =>
        clear HS5
        obtain ⟨k, K, hk, rfl, rfl, hpk, hs⟩ := hrel
        by_cases hlt : k < n0
        · have hltI : (k : Int) < (n0 : Int) := by omega
          obtain ⟨x, hx⟩ : ∃ z_, rs[k]? = some z_ := ⟨_, List.getElem?_eq_getElem (by rw [HRN.out]; exact hlt)⟩
          obtain ⟨g, cap', hsl, _, _⟩ := hs.rowSome 2 rfl (by omega)
          simp only [Value.slice.injEq] at hsl
          obtain ⟨rfl, _, rfl⟩ := hsl
          have cx := hs.rowCell 2 rfl k _ (nums_get _ _ _ hx)
          have HPK := Lib.hid hpk
          have HX := Lib.hid hx
          have hKl : K.length ≤ 30 := by have := hpk.le; omega
          have hx2 := HGR.out.lt (List.mem_of_getElem? hx)
          clear hpk
          by_cases hlt2 : k < n1
          · have hlt2I : (k : Int) < (n1 : Int) := by omega
            obtain ⟨ab, ao, hA0, hcell⟩ := HZ1.out.at_ hs.own hlt2
            subst hA0
            have hc0 := hcell 0 _ rfl
            have hw0 := wf8 (HZ1.out.wf hlt2 0 .u8 rfl)
            simp at hc0
            obtain ⟨d0, h0⟩ : ∃ d, D1 k 0 = d := ⟨_, rfl⟩
            rw [h0] at hc0 hw0
            have hd0 := h0
            clear hcell h0
            have hand := and8_1 hw0
            by_cases h1 : d0 % 2 = 1
            · have h1b : (d0 % 2 == 1) = true := by simpa using h1
              have HSH := Lib.hid (KShade hs 0 rfl x hx2.1 hx2.2)
              have HGB := Lib.hid (show gB n1 D1 k = true by unfold gB; rw [hd0, decide_eq_true hlt2, decide_eq_true h1]; rfl)
              clear hs hx hd0
              go_wp2_with (go_at_call 13; refine (HSH.out).mono ?_; rintro e w7 ⟨rfl, hs⟩; have HS7 := Lib.hid (show Sep w w7 (markR m a 2049 (Col.white.shades (K ++ [x])) :: arenaR a A :: rowR 34 1 (.slice (some ⟨g, 0, none⟩) n0 capl) n0 (nums rs) :: adjR Tryz.prog 34 34 b (ptsOf fs) :: []) from (by rw [shades_push]; exact hs)); clear hs HSH)
              go_roundw
              case rel => exact ⟨k + 1, K ++ [x], by omega, by go_num, by rw [List.length_append]; rfl, HPK.out.yes HGR.out.nodup HX.out HGB.out, HS7.out⟩
              case measure => simp [intOf]; omega
            · have h1b : (d0 % 2 == 1) = false := by simpa using h1
              have HGB := Lib.hid (show gB n1 D1 k = false by unfold gB; rw [hd0, decide_eq_false h1]; simp)
              clear hd0
              have HS7 := Lib.hid hs
              clear hs hx
              go_wp2
              go_roundw
              case rel => exact ⟨k + 1, K, by omega, by go_num, rfl, HPK.out.no HGR.out.nodup HX.out HGB.out, HS7.out⟩
              case measure => simp [intOf]; omega
          · have hlt2I : ¬ (k : Int) < (n1 : Int) := by omega
            have HGB := Lib.hid (show gB n1 D1 k = false by unfold gB; rw [decide_eq_false hlt2]; rfl)
            have HS7 := Lib.hid hs
            clear hs hx
            go_wp2
            go_roundw
            case rel => exact ⟨k + 1, K, by omega, by go_num, rfl, HPK.out.no HGR.out.nodup HX.out HGB.out, HS7.out⟩
            case measure => simp [intOf]; omega
        · obtain rfl : n0 = k := by omega
          have HPK := Lib.hid hpk
          have hKl : K.length ≤ 30 := by have := hpk.le; omega
          obtain ⟨kn, hkn⟩ : ∃ kn, K.length = kn := ⟨_, rfl⟩
          obtain ⟨g, cap', hsl, _, _⟩ := hs.rowSome 2 rfl (by omega)
          simp only [Value.slice.injEq] at hsl
          obtain ⟨rfl, _, rfl⟩ := hsl
          obtain ⟨K1, um, ul⟩ : ∃ K1 : Nat, r0.tmod (n0 : Int) = (K1 : Int) ∧ K1 < n0 := by
            have h1 := Int.emod_nonneg r0 (show (n0 : Int) ≠ 0 by omega)
            have h2 := Int.emod_lt_of_pos r0 (show (0 : Int) < (n0 : Int) by omega)
            refine ⟨(r0 % (n0 : Int)).toNat, ?_, by omega⟩
            rw [Int.tmod_eq_emod_of_nonneg (by omega)]
            omega
          have uI : (K1 : Int) < (n0 : Int) := by omega
          have u0 : (0 : Int) ≤ (K1 : Int) := by omega
          obtain ⟨xr, hxr⟩ : ∃ z_, rs[K1]? = some z_ := ⟨_, List.getElem?_eq_getElem (by rw [HRN.out]; exact ul)⟩
          obtain ⟨xz, hxz⟩ : ∃ z_, rs[0]? = some z_ := ⟨_, List.getElem?_eq_getElem (by rw [HRN.out]; omega)⟩
          have HXR := Lib.hid hxr
          have HX0 := Lib.hid hxz
          have hkk0 : ((K.length : Int) != (K.length : Int)) = false := by simp
          have HB := Lib.hid (BNew hs 0 1 rfl rfl)
          clear hs hpk hxr hxz hkn
          go_wp2_with (first
            | (go_at_call 14; refine (HB.out).mono ?_; rintro e w5 ⟨bb, rfl, hs⟩; have HRM := Lib.hid (BRemark HGR.out.heap.wf HGR.out.size (by rw [HGR.out.n]; omega) (fun i h => by cases h) (show Sep w w5 (steeleR bb m a A.n (fun _ => false) :: markR m a 2049 (Col.white.shades K) :: arenaR a A :: rowR 34 1 (.slice (some ⟨g, 0, none⟩) n0 capl) n0 (nums rs) :: adjR Tryz.prog 34 34 b (ptsOf fs) :: []) from hs)); clear hs HB)
            | (go_at_call 15; refine (HRM.out).mono ?_; rintro e w6 ⟨rfl, hs⟩; rw [greyD_none] at hs; have hs' := (show Sep w w6 (steeleR bb m a A.n (fun _ => false) :: markR m a 2049 (Col.white.shades K) :: arenaR a A :: rowR 34 1 (.slice (some ⟨g, 0, none⟩) n0 capl) n0 (nums rs) :: adjR Tryz.prog 34 34 b (ptsOf fs) :: []) from hs); have hkc := KCount hs' 1 rfl; rw [white_count HPK.out.nodup (fun x hx => (HGR.out.lt (HPK.out.in_ x hx)).2)] at hkc; have HKC := Lib.hid hkc; clear hkc; clear hs hs' HRM)
            | (go_at_call 16; refine (HKC.out).mono ?_; rintro e w7 ⟨rfl, hs⟩; have HS7 := Lib.hid hs; clear hs HKC))
          obtain ⟨wd1, hwd1⟩ : ∃ wd, (w7).drew = wd := ⟨_, rfl⟩
          have hd := HS7.out.drew
          rw [hwd1] at hd
          have h0n : (0 : Int) < (n0 : Int) := by omega
          have h0m : 0 < n0 := by omega
          have hwr : IntKind.i64.wrap r0 = r0 := by rw [IntKind.wrap_i64]; omega
          have hwk : IntKind.i64.wrap (K1 : Int) = (K1 : Int) := by rw [IntKind.wrap_i64]; omega
          have x0 := hd.rowCell 3 rfl K1 _ (nums_get _ _ _ HXR.out)
          have x1 := hd.rowCell 3 rfl 0 _ (nums_get _ _ _ HX0.out)
          have HS8 := Lib.hid hd
          clear hd HS7
          refine wp_region_still_tail 13 (by kernel_rfl) (by kernel_rfl) ?_
          change wpStill _ _ (World.drew _) (fun a' => wpList _ _ _ _ a' (World.drew _)) _ _
          rw [hwd1]
          clear hwd1
          simp only [List.take_succ_cons, List.take_zero, List.drop_succ_cons, List.drop_zero]
          repeat still_step
          refine wpStill_nil ?_
          have hpz := HGR.out.pageZ (List.mem_of_getElem? HXR.out)
          have HDL := Lib.hid (dirtied_lt (A := A) (D := fun _ => false) (p := A.page (xr : Int)) (fun i h => by cases h) (by rw [hpz.1, HGR.out.n]; omega))
          have hx3 := HGR.out.lt (List.mem_of_getElem? HXR.out)
          have HPO := Lib.hid (BPost HS8.out 0 2 rfl rfl (by decide) (by rw [HGR.out.n]; omega) (xr : Int) 0 (xz : Int) false false (by omega))
          clear x0 x1 hwr hwk hpz h0n h0m
          go_wp2_with (first
            | (go_at_call 17; refine (HPO.out).mono ?_; rintro e w8 ⟨rfl, hs⟩; have HRM := Lib.hid (BRemark HGR.out.heap.wf HGR.out.size (by rw [HGR.out.n]; omega) (HDL.out) (show Sep w w8 (steeleR bb m a A.n (dirtied (fun _ => false) (A.page (xr : Int))) :: markR m a 2049 (Col.white.shades K) :: arenaR a A :: rowR 34 1 (.slice (some ⟨g, 0, none⟩) n0 capl) n0 (nums rs) :: adjR Tryz.prog 34 34 b (ptsOf fs) :: []) from hs)); clear hs HPO)
            | (go_at_call 15; refine (HRM.out).mono ?_; rintro e w9 ⟨rfl, hs⟩; rw [greyD_white (white_sc K)] at hs; have HS5 := Lib.hid (show Sep w w9 (steeleR bb m a A.n (fun _ => false) :: markR m a 2049 (Col.white.shades K) :: arenaR a A :: rowR 34 1 (.slice (some ⟨g, 0, none⟩) n0 capl) n0 (nums rs) :: adjR Tryz.prog 34 34 b (ptsOf fs) :: []) from hs); clear hs HRM))
          go_loopw [92] (fun i wr => ∃ (k : Nat), k ≤ n0 ∧ i = .int .i64 k ∧ Sep w wr (steeleR bb m a A.n (fun _ => false) :: markR m a 2049 (Col.white.shades K) :: arenaR a A :: rowR 34 1 (.slice (some ⟨g, 0, none⟩) n0 capl) n0 (nums rs) :: adjR Tryz.prog 34 34 b (ptsOf fs) :: [])) (fun i _ => n0 + 1 - (intOf i).toNat)
          case atStart => exact ⟨0, by omega, rfl, HS5.out⟩
          case round =>
            clear HS5
            obtain ⟨k, hk, rfl, hs⟩ := hrel
            by_cases hlt : k < n0
            · have hltI : (k : Int) < (n0 : Int) := by omega
              obtain ⟨x, hx⟩ : ∃ z_, rs[k]? = some z_ := ⟨_, List.getElem?_eq_getElem (by rw [HRN.out]; exact hlt)⟩
              have cx := hs.rowCell 3 rfl k _ (nums_get _ _ _ hx)
              have hx2 := HGR.out.lt (List.mem_of_getElem? hx)
              by_cases hlt2 : k < n1
              · have hlt2I : (k : Int) < (n1 : Int) := by omega
                obtain ⟨ab, ao, hA0, hcell⟩ := HZ1.out.at_ hs.own hlt2
                subst hA0
                have hc0 := hcell 0 _ rfl
                have hw0 := wf8 (HZ1.out.wf hlt2 0 .u8 rfl)
                simp at hc0
                obtain ⟨d0, h0⟩ : ∃ d, D1 k 0 = d := ⟨_, rfl⟩
                rw [h0] at hc0 hw0
                have hd0 := h0
                clear hcell h0
                have hand := and8_1 hw0
                by_cases h1 : d0 % 2 = 1
                · have h1b : (d0 % 2 == 1) = true := by simpa using h1
                  have HGB := Lib.hid (show gB n1 D1 k = true by unfold gB; rw [hd0, decide_eq_true hlt2, decide_eq_true h1]; rfl)
                  have HD0 := Lib.hid hd0
                  clear hd0
                  have hkm := KMarked hs 1 rfl x hx2.2
                  rw [white_mz, HPK.out.iff k x hx hlt, HGB.out] at hkm
                  have HKM := Lib.hid hkm
                  clear hs hx hkm
                  go_wp2_with (first
                    | (go_at_call 18; refine (HKM.out).mono ?_; rintro e w7 ⟨rfl, hs⟩; have hks := KScanned (show Sep w w7 (steeleR bb m a A.n (fun _ => false) :: markR m a 2049 (Col.white.shades K) :: arenaR a A :: rowR 34 1 (.slice (some ⟨g, 0, none⟩) n0 capl) n0 (nums rs) :: adjR Tryz.prog 34 34 b (ptsOf fs) :: []) from hs) 1 rfl x hx2.2; rw [white_sc] at hks; have HKS := Lib.hid hks; obtain ⟨ab2, ao2, hA2, hcell2⟩ := HZ1.out.at_ hs.own hlt2; cases hA2; have hcW := hcell2 0 _ rfl; simp at hcW; rw [HD0.out] at hcW; clear hc0 hcell2; clear hs hks HKM)
                    | (go_at_call 19; refine (HKS.out).mono ?_; rintro e w8 ⟨rfl, hs⟩; have HS7 := Lib.hid hs; clear hs HKS))
                  go_roundw
                  case rel => exact ⟨k + 1, by omega, by go_num, HS7.out⟩
                  case measure => simp [intOf]; omega
                · have h1b : (d0 % 2 == 1) = false := by simpa using h1
                  have HGB := Lib.hid (show gB n1 D1 k = false by unfold gB; rw [hd0, decide_eq_false h1]; simp)
                  have HD0 := Lib.hid hd0
                  clear hd0
                  have hkm := KMarked hs 1 rfl x hx2.2
                  rw [white_mz, HPK.out.iff k x hx hlt, HGB.out] at hkm
                  have HKM := Lib.hid hkm
                  clear hs hx hkm
                  go_wp2_with (first
                    | (go_at_call 18; refine (HKM.out).mono ?_; rintro e w7 ⟨rfl, hs⟩; have hks := KScanned (show Sep w w7 (steeleR bb m a A.n (fun _ => false) :: markR m a 2049 (Col.white.shades K) :: arenaR a A :: rowR 34 1 (.slice (some ⟨g, 0, none⟩) n0 capl) n0 (nums rs) :: adjR Tryz.prog 34 34 b (ptsOf fs) :: []) from hs) 1 rfl x hx2.2; rw [white_sc] at hks; have HKS := Lib.hid hks; obtain ⟨ab2, ao2, hA2, hcell2⟩ := HZ1.out.at_ hs.own hlt2; cases hA2; have hcW := hcell2 0 _ rfl; simp at hcW; rw [HD0.out] at hcW; clear hc0 hcell2; clear hs hks HKM)
                    | (go_at_call 19; refine (HKS.out).mono ?_; rintro e w8 ⟨rfl, hs⟩; have HS7 := Lib.hid hs; clear hs HKS))
                  go_roundw
                  case rel => exact ⟨k + 1, by omega, by go_num, HS7.out⟩
                  case measure => simp [intOf]; omega
              · have hlt2I : ¬ (k : Int) < (n1 : Int) := by omega
                have HGB := Lib.hid (show gB n1 D1 k = false by unfold gB; rw [decide_eq_false hlt2]; rfl)
                have hkm := KMarked hs 1 rfl x hx2.2
                rw [white_mz, HPK.out.iff k x hx hlt, HGB.out] at hkm
                have HKM := Lib.hid hkm
                clear hs hx hkm
                go_wp2_with (first
                  | (go_at_call 18; refine (HKM.out).mono ?_; rintro e w7 ⟨rfl, hs⟩; have hks := KScanned (show Sep w w7 (steeleR bb m a A.n (fun _ => false) :: markR m a 2049 (Col.white.shades K) :: arenaR a A :: rowR 34 1 (.slice (some ⟨g, 0, none⟩) n0 capl) n0 (nums rs) :: adjR Tryz.prog 34 34 b (ptsOf fs) :: []) from hs) 1 rfl x hx2.2; rw [white_sc] at hks; have HKS := Lib.hid hks; clear hs hks HKM)
                  | (go_at_call 19; refine (HKS.out).mono ?_; rintro e w8 ⟨rfl, hs⟩; have HS7 := Lib.hid hs; clear hs HKS))
                go_roundw
                case rel => exact ⟨k + 1, by omega, by go_num, HS7.out⟩
                case measure => simp [intOf]; omega
            · obtain rfl : n0 = k := by omega
              have hkc := KCount hs 1 rfl; rw [white_count HPK.out.nodup (fun x hx => (HGR.out.lt (HPK.out.in_ x hx)).2)] at hkc; have HKC := Lib.hid hkc; clear hkc
              have hkk : ((K.length : Int) == (K.length : Int)) = true := by simp
              clear hs
              go_wp2_with (first
                | (go_at_call 16; refine (HKC.out).mono ?_; rintro e w6 ⟨rfl, hs⟩; have HTR := Lib.hid (KTrace HGR.out.heap HGR.out.size (fun x hx => HPK.out.in_ x (by rw [white_mz] at hx; exact of_decide_eq_true hx)) (show Sep w w6 (steeleR bb m a A.n (fun _ => false) :: markR m a 2049 (Col.white.shades K) :: arenaR a A :: rowR 34 1 (.slice (some ⟨g, 0, none⟩) n0 capl) n0 (nums rs) :: adjR Tryz.prog 34 34 b (ptsOf fs) :: []) from hs) 1 2 rfl rfl (by decide) 1000 (by omega)); clear hs HKC)
                | (go_at_call 20; refine (HTR.out).mono ?_; rintro e w7 ⟨d, C2, rfl, ht, hs⟩; obtain rfl : d = K.length := bare_trace HBARE.out HGR.out.nodup HPK.out.nodup HPK.out.in_ ht.steps (traced ht.steps HGR.out.nodup HGR.out.ptsIn (fun x hx => HPK.out.in_ x (by rw [white_mz] at hx; exact of_decide_eq_true hx)) (by rw [HRN.out]; omega) ht.end_); have HS7 := Lib.hid hs; clear hs ht HTR))
              go_ret
              exact ⟨by first | rfl | simp, HS7.out.below⟩
end Go.Proofs.YtbcabjpafeocgaaGreat
