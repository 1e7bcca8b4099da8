/-
  Resources: what lies in memory, each thing in blocks of its own; a list of them beside each other. Conditions: no program is named here.
-/
import Derived.Test.YtapbphbnffggnaaSetIs
import Derived.RangeFuncNested
namespace Go.Proofs.Ytapbphbnffggnaa
set_option linter.unusedVariables false
set_option linter.unusedSimpArgs false
open Go.RowKit

theorem wf64 {n : Int} (h : (Lit.int .i64 n).wf = true) : -9223372036854775808 ≤ n ∧ n ≤ 9223372036854775807 := by
  simp only [Lit.wf, Bool.and_eq_true, decide_eq_true_eq] at h
  rw [show IntKind.i64.min = -9223372036854775808 from by decide, show IntKind.i64.max = 9223372036854775807 from by decide] at h
  exact h
theorem wf8 {n : Int} (h : (Lit.int .u8 n).wf = true) : 0 ≤ n ∧ n ≤ 255 := by
  simp only [Lit.wf, Bool.and_eq_true, decide_eq_true_eq] at h
  rw [show IntKind.u8.min = 0 from by decide, show IntKind.u8.max = 255 from by decide] at h
  exact h
theorem wf16 {n : Int} (h : (Lit.int .u16 n).wf = true) : 0 ≤ n ∧ n ≤ 65535 := by
  simp only [Lit.wf, Bool.and_eq_true, decide_eq_true_eq] at h
  rw [show IntKind.u16.min = 0 from by decide, show IntKind.u16.max = 65535 from by decide] at h
  exact h

/-- A thing that lies in memory, in the blocks F. -/
structure Res where
  P : World → List Nat → Prop
  keep : ∀ {w w' : World} {F G : List Nat}, P w F → Chg G w w' → (∀ x ∈ F, x ∉ G) → P w' F
  lt : ∀ {w : World} {F : List Nat}, P w F → ∀ x ∈ F, x < w.heap.size

def objR (g : Nat) (o : Obj) : Res :=
  ⟨fun w F => F = [g] ∧ w.heap[g]? = some o, fun h hc hF => ⟨h.1, hc.heap h.2 (hF g (by simp [h.1]))⟩,
   fun {w F} h x hx => by
    obtain ⟨rfl, h⟩ := h
    simp at hx; subst hx
    rcases Nat.lt_or_ge x w.heap.size with hlt | hge
    · exact hlt
    · rw [Array.getElem?_eq_none hge] at h; cases h⟩
def blkR (g : Nat) (t : TypeId) (cs : Array Value) : Res := objR g (.cells cs t (0, 0))
def unitR : Res := ⟨fun _ F => F = [], fun h _ _ => h, fun h x hx => by subst h; simp at hx⟩

/-- The things of L lie beside each other, from block base on; G: all their blocks. -/
def SepL (base : Nat) (w : World) : List Res → List Nat → Prop
  | [], G => G = []
  | r :: L, G => ∃ F G', G = F ++ G' ∧ r.P w F ∧ (∀ x ∈ F, base ≤ x ∧ x ∉ G') ∧ SepL base w L G'

theorem SepL.keep {base : Nat} {w w' : World} {H : List Nat} (hc : Chg H w w') : ∀ {L : List Res} {G : List Nat}, SepL base w L G → (∀ x ∈ G, x ∉ H) → SepL base w' L G
  | [], _, h, _ => h
  | _ :: _, _, ⟨F, G', rfl, hp, hd, hr⟩, hn => ⟨F, G', rfl, Res.keep _ hp hc (fun x hx => hn x (by simp [hx])), hd, SepL.keep hc hr (fun x hx => hn x (by simp [hx]))⟩
theorem SepL.lt {base : Nat} {w : World} : ∀ {L : List Res} {G : List Nat}, SepL base w L G → ∀ x ∈ G, x < w.heap.size
  | [], _, h, x, hx => by cases h; simp at hx
  | _ :: _, _, ⟨F, G', rfl, hp, _, hr⟩, x, hx => by
    simp at hx
    rcases hx with hx | hx
    · exact Res.lt _ hp x hx
    · exact SepL.lt hr x hx
theorem SepL.base {base : Nat} {w : World} : ∀ {L : List Res} {G : List Nat}, SepL base w L G → ∀ x ∈ G, base ≤ x
  | [], _, h, x, hx => by cases h; simp at hx
  | _ :: _, _, ⟨F, G', rfl, _, hd, hr⟩, x, hx => by
    simp at hx
    rcases hx with hx | hx
    · exact (hd x hx).1
    · exact SepL.base hr x hx
theorem SepL.mono {base base' : Nat} {w : World} : ∀ {L : List Res} {G : List Nat}, SepL base w L G → (∀ x ∈ G, base' ≤ x) → SepL base' w L G
  | [], _, h, _ => h
  | _ :: _, _, ⟨F, G', rfl, hp, hd, hr⟩, hb => ⟨F, G', rfl, hp, fun x hx => ⟨hb x (by simp [hx]), (hd x hx).2⟩, SepL.mono hr (fun x hx => hb x (by simp [hx]))⟩

theorem SepL.append {base : Nat} {w : World} {L2 : List Res} {G2 : List Nat} (h2 : SepL base w L2 G2) : ∀ {L1 : List Res} {G1 : List Nat}, SepL base w L1 G1 → (∀ x ∈ G1, x ∉ G2) → SepL base w (L1 ++ L2) (G1 ++ G2)
  | [], _, h, _ => by cases h; exact h2
  | _ :: _, _, ⟨F, G', rfl, hp, hd, hr⟩, hn => by
    refine ⟨F, G' ++ G2, by simp, hp, fun x hx => ⟨(hd x hx).1, ?_⟩, SepL.append h2 hr (fun x hx => hn x (by simp [hx]))⟩
    simp
    exact ⟨(hd x hx).2, hn x (by simp [hx])⟩
theorem SepL.split {base : Nat} {w : World} {L2 : List Res} : ∀ {L1 : List Res} {G : List Nat}, SepL base w (L1 ++ L2) G → ∃ G1 G2, G = G1 ++ G2 ∧ SepL base w L1 G1 ∧ SepL base w L2 G2 ∧ ∀ x ∈ G1, x ∉ G2
  | [], G, h => ⟨[], G, rfl, rfl, h, by simp⟩
  | _ :: L1, _, ⟨F, G', rfl, hp, hd, hr⟩ => by
    obtain ⟨G1, G2, rfl, h1, h2, h3⟩ := SepL.split (L1 := L1) hr
    refine ⟨F ++ G1, G2, by simp, ⟨F, G1, rfl, hp, fun x hx => ⟨(hd x hx).1, fun hm => (hd x hx).2 (by simp [hm])⟩, h1⟩, h2, ?_⟩
    intro x hx
    simp at hx
    rcases hx with hx | hx
    · exact fun hm => (hd x hx).2 (by simp [hm])
    · exact h3 x hx

/-- Since w0 nothing that was there has changed; the things of L lie beside each other in blocks that came since. -/
def Sep (w0 w : World) (L : List Res) : Prop := Chg [] w0 w ∧ ∃ G, SepL w0.heap.size w L G

section
variable {w0 w w' : World} {L L' R : List Res} {r r' : Res} {i : Nat}

theorem Sep.start (w : World) : Sep w w [] := ⟨Chg.refl _ _, [], rfl⟩
theorem Sep.chg (h : Sep w0 w L) : Chg [] w0 w := h.1
theorem Sep.own (h : Sep w0 w L) : Own w0 [] w := ⟨h.1, by simp⟩
theorem Sep.below (h : Sep w0 w L) : Below w0.heap.size w0 w := h.own.below
theorem Sep.same (h : Sep w0 w L) (hc : Chg [] w w') : Sep w0 w' L := by
  obtain ⟨h1, G, h2⟩ := h
  exact ⟨h1.trans hc (by simp), G, h2.keep hc (by simp)⟩
theorem Sep.drew (h : Sep w0 w L) : Sep w0 w.drew L := h.same (Chg.refl _ _).drew
theorem Sep.drewN (h : Sep w0 w L) (n : Nat) : Sep w0 (w.drewN n) L := h.same ((Chg.refl _ _).drewN n)

/-- Another order, or some of them alone. -/
theorem Sep.perm (h : Sep w0 w L) (hp : L.Perm L') : Sep w0 w L' := by
  obtain ⟨h1, G, h2⟩ := h
  refine ⟨h1, ?_⟩
  have key : ∀ {L L' : List Res}, L.Perm L' → ∀ G, SepL w0.heap.size w L G → ∃ G', SepL w0.heap.size w L' G' ∧ ∀ x, x ∈ G' ↔ x ∈ G := by
    intro L L' hp
    induction hp with
    | nil => exact fun G h => ⟨G, h, fun _ => Iff.rfl⟩
    | cons a _ ih =>
      rintro _ ⟨F, G', rfl, hp, hd, hr⟩
      obtain ⟨G2, h2, h3⟩ := ih G' hr
      exact ⟨F ++ G2, ⟨F, G2, rfl, hp, fun x hx => ⟨(hd x hx).1, fun hm => (hd x hx).2 ((h3 x).1 hm)⟩, h2⟩, by intro x; simp [h3]⟩
    | swap a b L =>
      rintro _ ⟨F, _, rfl, hp, hd, ⟨F2, G2, rfl, hp2, hd2, hr⟩⟩
      refine ⟨F2 ++ (F ++ G2), ⟨F2, F ++ G2, rfl, hp2, fun x hx => ⟨(hd2 x hx).1, ?_⟩, ⟨F, G2, rfl, hp, fun x hx => ⟨(hd x hx).1, fun hm => (hd x hx).2 (by simp [hm])⟩, hr⟩⟩, by intro x; simp [or_left_comm]⟩
      intro hm
      simp at hm
      rcases hm with hm | hm
      · exact (hd x hm).2 (by simp [hx])
      · exact (hd2 x hx).2 hm
    | trans _ _ ih1 ih2 =>
      intro G h
      obtain ⟨G1, h1, e1⟩ := ih1 G h
      obtain ⟨G2, h2, e2⟩ := ih2 G1 h1
      exact ⟨G2, h2, fun x => (e2 x).trans (e1 x)⟩
  obtain ⟨G', h3, _⟩ := key hp G h2
  exact ⟨G', h3⟩
theorem Sep.tail (h : Sep w0 w (r :: L)) : Sep w0 w L := by
  obtain ⟨h1, G, F, G', rfl, _, _, hr⟩ := h
  exact ⟨h1, G', hr⟩
theorem Sep.right (h : Sep w0 w (L ++ R)) : Sep w0 w R := by
  obtain ⟨h1, G, h2⟩ := h
  obtain ⟨G1, G2, rfl, _, h3, _⟩ := h2.split
  exact ⟨h1, G2, h3⟩
theorem Sep.swap (h : Sep w0 w (r :: r' :: L)) : Sep w0 w (r' :: r :: L) := h.perm (List.Perm.swap _ _ _)
theorem Sep.left (h : Sep w0 w (L ++ R)) : Sep w0 w L := (h.perm List.perm_append_comm).right

theorem perm_pull : ∀ {L : List Res} {i : Nat} {r : Res}, L[i]? = some r → L.Perm (r :: L.eraseIdx i)
  | [], _, _, h => by simp at h
  | a :: L, 0, r, h => by simp at h; subst h; exact List.Perm.refl _
  | a :: L, i + 1, r, h => by
    simp at h
    exact ((perm_pull h).cons a).trans (List.Perm.swap _ _ _)
theorem perm_set : ∀ {L : List Res} {i : Nat} {r r' : Res}, L[i]? = some r → (r' :: L.eraseIdx i).Perm (L.set i r')
  | [], _, _, _, h => by simp at h
  | a :: L, 0, r, r', h => by simp
  | a :: L, i + 1, r, r', h => by
    simp at h
    exact (List.Perm.swap _ _ _).trans ((perm_set h).cons a)

theorem Sep.lift (h : Sep w0 w L) (i : Nat) (hi : L[i]? = some r) : Sep w0 w (r :: L.eraseIdx i) := h.perm (perm_pull hi)

theorem range_get {α : Type} (l : List α) : ∀ k : Nat, (List.range k).filterMap (fun i => l[i]?) = l.take k
  | 0 => by simp
  | k + 1 => by
    rw [List.range_succ, List.filterMap_append, range_get l k]
    rcases Nat.lt_or_ge k l.length with h | h
    · rw [List.take_succ_eq_append_getElem h]
      simp [h]
    · rw [List.take_of_length_le h, List.take_of_length_le (by omega)]
      simp [h]
/-- Some of the first k come ahead. -/
theorem Sep.front (h : Sep w0 w L) (k : Nat) (idx : List Nat) (hi : (idx ++ (List.range k).filter (fun i => !idx.contains i)).Perm (List.range k) := by decide) :
    Sep w0 w (idx.filterMap (fun i => (L.take k)[i]?) ++ (((List.range k).filter (fun i => !idx.contains i)).filterMap (fun i => (L.take k)[i]?) ++ L.drop k)) := by
  refine h.perm ?_
  rw [← List.append_assoc, ← List.filterMap_append]
  have h1 := (hi.filterMap (fun i => (L.take k)[i]?)).symm
  rw [range_get] at h1
  have h2 : L.Perm ((L.take k).take k ++ L.drop k) := by
    rw [List.take_take, Nat.min_self, List.take_append_drop]
  exact h2.trans (h1.append_right _)

/-- The head's thing changes. -/
theorem Sep.head (h : Sep w0 w (r :: L)) : ∃ F, r.P w F ∧ ∀ (r' : Res) (w' : World) (F' : List Nat), r'.P w' F' → GrewF w F F' → Chg F w w' → Sep w0 w' (r' :: L) := by
  obtain ⟨h1, G, F, G', rfl, hp, hd, hr⟩ := h
  refine ⟨F, hp, fun r' w' F' hp' hg hc => ⟨h1.trans hc (fun x hx => .inr (hd x hx).1), F' ++ G', F', G', rfl, hp', fun x hx => ?_, hr.keep hc (fun x hx hm => (hd x hm).2 hx)⟩⟩
  rcases hg x hx with h2 | h2
  · exact hd x h2
  · refine ⟨Nat.le_trans h1.size h2, fun hm => ?_⟩
    have := hr.lt x hm
    omega
theorem Sep.at_ (h : Sep w0 w L) (hi : L[i]? = some r) : ∃ F, r.P w F ∧ ∀ (r' : Res) (w' : World) (F' : List Nat), r'.P w' F' → GrewF w F F' → Chg F w w' → Sep w0 w' (L.set i r') := by
  obtain ⟨F, hp, hk⟩ := (h.perm (perm_pull hi)).head
  exact ⟨F, hp, fun r' w' F' hp' hg hc => (hk r' w' F' hp' hg hc).perm (perm_set hi)⟩
/-- A new thing. -/
theorem Sep.new {F : List Nat} (h : Sep w0 w L) (hp : r.P w' F) (hF : ∀ x ∈ F, w.heap.size ≤ x) (hc : Chg [] w w') : Sep w0 w' (r :: L) := by
  obtain ⟨h1, G, h2⟩ := h
  refine ⟨h1.trans hc (by simp), F ++ G, F, G, rfl, hp, fun x hx => ⟨Nat.le_trans h1.size (hF x hx), fun hm => ?_⟩, h2.keep hc (by simp)⟩
  have := h2.lt x hm
  have := hF x hx
  omega
theorem Sep.set_ (h : Sep w0 w L) (hi : L[i]? = some r) (hr : ∀ F, r.P w F → r'.P w F) : Sep w0 w (L.set i r') := by
  obtain ⟨F, hp, hk⟩ := h.at_ hi
  exact hk r' w F (hr F hp) (fun _ h => .inl h) (Chg.refl _ _)

theorem GrewF.self (w : World) (F : List Nat) : GrewF w F F := fun _ h => .inl h

theorem set_self (hi : L[i]? = some r) : L.set i r = L := by
  have hlt := (List.getElem?_eq_some_iff.1 hi).1
  apply List.ext_getElem?
  intro j
  rw [List.getElem?_set]
  split
  · rename_i e; subst e; exact hi.symm
  · rfl

/-- A call of a function that knows one thing. -/
theorem Sep.call {P : Program} {f : FuncId} {args : Array Value} {v : Value} (h : Sep w0 w L) (i : Nat) (hi : L[i]? = some r) (r' : Res)
    (hc : ∀ F, r.P w F → Calls P f args w fun e w' => ∃ F', e = .returned v ∧ r'.P w' F' ∧ GrewF w F F' ∧ Chg F w w') :
    Calls P f args w fun e w' => e = .returned v ∧ Sep w0 w' (L.set i r') := by
  obtain ⟨F, hp, hk⟩ := h.at_ hi
  refine (hc F hp).mono ?_
  rintro e w' ⟨F', rfl, hp', hg, hch⟩
  exact ⟨rfl, hk r' w' F' hp' hg hch⟩
/-- The thing is behind it as it was. -/
theorem Sep.look {P : Program} {f : FuncId} {args : Array Value} {v : Value} (h : Sep w0 w L) (i : Nat) (hi : L[i]? = some r)
    (hc : ∀ F, r.P w F → Calls P f args w fun e w' => ∃ F', e = .returned v ∧ r.P w' F' ∧ GrewF w F F' ∧ Chg F w w') :
    Calls P f args w fun e w' => e = .returned v ∧ Sep w0 w' L := by
  refine (h.call i hi r hc).mono ?_
  rw [set_self hi]
  exact fun _ _ h => h
theorem Sep.read {P : Program} {f : FuncId} {args : Array Value} {v : Value} (h : Sep w0 w L) (i : Nat) (hi : L[i]? = some r)
    (hc : ∀ F, r.P w F → Calls P f args w fun e w' => e = .returned v ∧ w = w') :
    Calls P f args w fun e w' => e = .returned v ∧ w = w' := by
  obtain ⟨F, hp, _⟩ := h.at_ hi
  exact hc F hp

theorem Sep.obj {g : Nat} {o : Obj} (h : Sep w0 w L) (hi : L[i]? = some (objR g o)) : w.heap[g]? = some o := by
  obtain ⟨F, hp, _⟩ := h.at_ hi
  exact hp.2
theorem Sep.blk {g : Nat} {t : TypeId} {cs : Array Value} (h : Sep w0 w L) (i : Nat) (hi : L[i]? = some (blkR g t cs)) : Blk w g t cs := h.obj hi
theorem Sep.alloc (h : Sep w0 w L) (o : Obj) : Sep w0 (w.alloc o) (objR w.heap.size o :: L) :=
  h.new (r := objR w.heap.size o) (F := [w.heap.size]) ⟨rfl, World.alloc_heap_new w o⟩ (by simp) ((Chg.refl _ _).alloc o)
theorem Sep.box (h : Sep w0 w L) (cs : Array Value) (t : TypeId) : Sep w0 (w.alloc (.cells cs t)) (blkR w.heap.size t cs :: L) := h.alloc _
theorem Sep.setCell {g : Nat} {t : TypeId} {cs : Array Value} (h : Sep w0 w L) (i : Nat) (hi : L[i]? = some (blkR g t cs)) (j : Nat) (v : Value) : Sep w0 (w.setCell ⟨g, j, none⟩ v) (L.set i (blkR g t (cs.setIfInBounds j v))) := by
  obtain ⟨F, hp, hk⟩ := h.at_ hi
  obtain ⟨rfl, hp⟩ := hp
  exact hk _ _ [g] ⟨rfl, Blk.set_ hp j v⟩ (GrewF.self _ _) ((Chg.refl _ _).setCell (.inl (by simp)) _)
theorem Sep.putObj {g : Nat} {o : Obj} (h : Sep w0 w L) (i : Nat) (hi : L[i]? = some (objR g o)) (o' : Obj) : Sep w0 (w.putObj g o') (L.set i (objR g o')) := by
  obtain ⟨F, hp, hk⟩ := h.at_ hi
  have hlt := Res.lt _ hp
  obtain ⟨rfl, hp⟩ := hp
  refine hk _ _ [g] ⟨rfl, World.putObj_heap_same (hlt g (by simp))⟩ (GrewF.self _ _) ?_
  exact (Chg.refl [g] w).grown (row := some g) (grownBy_putObj' w g o') (by rintro k h; cases h; simp)
/-- Two blocks of two things are two. -/
theorem Sep.apart {g g' : Nat} {o o' : Obj} {j : Nat} (h : Sep w0 w L) (hi : L[i]? = some (objR g o)) (hj : L[j]? = some (objR g' o')) (hne : i ≠ j) : g ≠ g' := by
  obtain ⟨_, G, F, G', rfl, hp, hd, hr⟩ := h.perm (perm_pull hi)
  have h2 : ∃ k : Nat, (L.eraseIdx i)[k]? = some (objR g' o') := by
    rcases Nat.lt_or_ge j i with hlt | hge
    · exact ⟨j, by rw [List.getElem?_eraseIdx, if_pos hlt]; exact hj⟩
    · exact ⟨j - 1, by rw [List.getElem?_eraseIdx, if_neg (by omega), show j - 1 + 1 = j by omega]; exact hj⟩
  obtain ⟨k, hk⟩ := h2
  have key : ∀ {L : List Res} {G : List Nat} {k : Nat}, SepL w0.heap.size w L G → L[k]? = some (objR g' o') → g' ∈ G := by
    intro L
    induction L with
    | nil => intro G k _ h; simp at h
    | cons a L ih =>
      rintro G k ⟨F, G', rfl, hp, _, hr⟩ hk
      cases k with
      | zero => simp at hk; subst hk; obtain ⟨rfl, _⟩ := hp; simp
      | succ k => simp at hk; have := ih hr hk; simp [this]
  have h3 := key hr hk
  obtain ⟨rfl, _⟩ := hp
  intro e
  subst e
  exact (hd g (by simp)).2 h3
end

/-- Some thing of these. -/
def exR {α : Type} (f : α → Res) : Res := ⟨fun w F => ∃ x, (f x).P w F, fun ⟨x, h⟩ hc hF => ⟨x, (f x).keep h hc hF⟩, fun ⟨x, h⟩ => (f x).lt h⟩
/-- Things beside each other, as one. -/
def starR (K : List Res) : Res := ⟨fun w F => SepL 0 w K F, fun h hc hF => SepL.keep hc h hF, fun h => SepL.lt h⟩
/-- What is said of no memory. -/
def pureR (p : Prop) (r : Res) : Res := ⟨fun w F => p ∧ r.P w F, fun h hc hF => ⟨h.1, r.keep h.2 hc hF⟩, fun h => r.lt h.2⟩

section
variable {w0 w w' : World} {L L' R K : List Res} {r r' : Res} {i : Nat}
theorem Sep.openHead (h : Sep w0 w (starR K :: L)) : Sep w0 w (K ++ L) := by
  obtain ⟨h1, G, F, G', rfl, hp, hd, hr⟩ := h
  exact ⟨h1, F ++ G', SepL.append hr (SepL.mono hp (fun x hx => (hd x hx).1)) (fun x hx => (hd x hx).2)⟩
theorem Sep.shutHead (h : Sep w0 w (K ++ L)) : Sep w0 w (starR K :: L) := by
  obtain ⟨h1, G, h2⟩ := h
  obtain ⟨G1, G2, rfl, h3, h4, h5⟩ := h2.split
  exact ⟨h1, G1 ++ G2, G1, G2, rfl, SepL.mono h3 (by simp), fun x hx => ⟨h3.base x hx, h5 x hx⟩, h4⟩
theorem Sep.open_ (h : Sep w0 w L) (i : Nat) (hi : L[i]? = some (starR K)) : Sep w0 w (K ++ L.eraseIdx i) := (h.perm (perm_pull hi)).openHead
theorem Sep.shut (h : Sep w0 w (K ++ L.eraseIdx i)) (hi : L[i]? = some r) : Sep w0 w (L.set i (starR K)) := h.shutHead.perm (perm_set hi)
theorem Sep.unpure {p : Prop} (h : Sep w0 w L) (i : Nat) (hi : L[i]? = some (pureR p r)) : p ∧ Sep w0 w (L.set i r) := by
  obtain ⟨F, hp, hk⟩ := h.at_ hi
  exact ⟨hp.1, hk r w F hp.2 (GrewF.self _ _) (Chg.refl _ _)⟩
theorem Sep.unex {α : Type} {f : α → Res} (h : Sep w0 w L) (i : Nat) (hi : L[i]? = some (exR f)) : ∃ x, Sep w0 w (L.set i (f x)) := by
  obtain ⟨F, ⟨x, hp⟩, hk⟩ := h.at_ hi
  exact ⟨x, hk (f x) w F hp (GrewF.self _ _) (Chg.refl _ _)⟩
end

/-- The set at block b holds S, of numbers below n. -/
def setR (b : Nat) (n : Int) (S : Nat → Bool) : Res :=
  ⟨fun w F => ∃ lo, F = setF b lo ∧ SetIs w b n S lo, fun ⟨lo, e, h⟩ hc hF => ⟨lo, e, h.keep hc (e ▸ hF)⟩, fun ⟨lo, e, h⟩ => e ▸ h.lt⟩
end Go.Proofs.Ytapbphbnffggnaa
