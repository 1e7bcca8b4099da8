/-
  Slices that a function's own text makes and appends to, where memory is a list of things. Conditions: no program is named here.
-/
import Derived.Test.YtapbphbnffggnaaRange
import Derived.OwnWalkIn
import Derived.Maps.AppendAt
namespace Go.Proofs.Ytapbphbnffggnaa
set_option linter.unusedVariables false
set_option linter.unusedSimpArgs false
open Go.RowKit Go.Shelf

/-- The slice value v, of elements of type e, sz cells each, n of them, whose cells are xs, in a block of its own. -/
def rowR (e : TypeId) (sz : Nat) (v : Value) (n : Nat) (xs : List Value) : Res :=
  ⟨fun w F => F = v.ownBlock.toList ∧ w.ownsRow 0 e sz v n xs, fun h hc hF => ⟨h.1, hc.row h.2 (fun k hk => hF k (by simp [h.1, hk]))⟩, fun h x hx => by
    rw [h.1] at hx
    exact row_lt h.2 (by simpa using hx)⟩

section
variable {w0 w : World} {L : List Res} {i n : Nat} {e : TypeId} {sz : Nat} {v : Value} {xs : List Value}

theorem Sep.row (S : Sep w0 w L) (hi : L[i]? = some (rowR e sz v n xs)) : w.ownsRow 0 e sz v n xs := by
  obtain ⟨F, hp, _⟩ := S.at_ hi
  exact hp.2
/-- A nil slice. -/
theorem Sep.nilRow (S : Sep w0 w L) (e : TypeId) (sz : Nat) : Sep w0 w (rowR e sz (.slice none 0 0) 0 [] :: L) :=
  S.new (r := rowR e sz (.slice none 0 0) 0 []) (F := []) ⟨rfl, ⟨by simp, .inl ⟨rfl, rfl⟩⟩⟩ (by simp) (Chg.refl _ _)
theorem Sep.rowShape (S : Sep w0 w L) (i : Nat) (hi : L[i]? = some (rowR e sz v n xs)) : ∃ A cap, v = .slice A n cap ∧ n ≤ cap ∧ cap ≤ maxLen := row_slice (S.row hi)
theorem Sep.rowSome (S : Sep w0 w L) (i : Nat) (hi : L[i]? = some (rowR e sz v n xs)) (hn : 0 < n) : ∃ g cap, v = .slice (some ⟨g, 0, none⟩) n cap ∧ n ≤ cap ∧ cap ≤ maxLen := by
  obtain ⟨g, cap, h1, h2, h3, _⟩ := row_some (S.row hi) hn
  exact ⟨g, cap, h1, h2, h3⟩
theorem Sep.rowCell {g cap : Nat} (S : Sep w0 w L) (i : Nat) (hi : L[i]? = some (rowR e sz (.slice (some ⟨g, 0, none⟩) n cap) n xs)) (j : Nat) (u : Value) (hj : xs[j]? = some u) : w.cell? ⟨g, j, none⟩ = some u := by
  have h := (S.row hi).cells (g := g) rfl j u hj
  unfold Addr.add at h
  by_cases h0 : j = 0
  · subst h0; simpa using h
  · simpa [h0] using h

theorem Sep.rowFree {g cap : Nat} (S : Sep w0 w L) (i : Nat) (hi : L[i]? = some (rowR e sz (.slice (some ⟨g, 0, none⟩) n cap) n xs)) (j : Nat) : w.frozen? ⟨g, j, none⟩ = false := by
  obtain ⟨_, h⟩ := S.row hi
  rcases h with ⟨h, _⟩ | ⟨g', cap', cur, h, _, hh, _⟩
  · cases h
  · cases h
    exact Blk.frozen (t := e) hh j
theorem Sep.rowSet {g cap : Nat} (S : Sep w0 w L) (i : Nat) (hi : L[i]? = some (rowR e sz (.slice (some ⟨g, 0, none⟩) n cap) n xs)) (j : Nat) (u : Value) : Sep w0 (w.setCell ⟨g, j, none⟩ u) (L.set i (rowR e sz (.slice (some ⟨g, 0, none⟩) n cap) n (xs.set j u))) := by
  obtain ⟨F, hp, hk⟩ := S.at_ hi
  obtain ⟨rfl, hl, h⟩ := hp
  rcases h with ⟨h, _⟩ | ⟨g', cap', cur, h, h0, hh, h1, h2, h3, h4⟩
  · cases h
  · cases h
    refine hk _ _ _ ⟨rfl, by simpa using hl, .inr ⟨g, cap, cur.setIfInBounds j u, rfl, h0, Blk.set_ (t := e) hh j u, h1, h2, by simpa using h3, ?_⟩⟩ (GrewF.self _ _) ((Chg.refl _ _).setCell (.inl (by simp [Value.ownBlock])) _)
    rw [Array.toList_setIfInBounds, List.take_set, h4]

theorem grown_sep {w' : World} {v' : Value} {n' : Nat} {xs' : List Value} {o : Obj} (S : Sep w0 w L) (i : Nat) (hi : L[i]? = some (rowR e sz v n xs)) (hr : w'.ownsRow 0 e sz v' n' xs') (hg : (w.alloc o).grownBy w' v.ownBlock) (hb : v'.ownBlock = v.ownBlock ∨ v'.ownBlock = some (w.alloc o).heap.size) :
    Sep w0 w' (L.set i (rowR e sz v' n' xs')) := by
  obtain ⟨F, hp, hk⟩ := S.at_ hi
  obtain ⟨rfl, _⟩ := hp
  refine hk _ w' _ ⟨rfl, hr⟩ ?_ (Chg.grown ((Chg.refl _ w).alloc o) hg (fun k hk => .inl (by simp [hk])))
  intro x hx
  rcases hb with h | h
  · rw [h] at hx; exact .inl hx
  · rw [h] at hx; simp at hx; exact .inr (by omega)

/-- out = append(out, x), x of one element. -/
theorem wpList_append_sep {P : Program} {ops : Array Oper} {rest : List Oper} {o : Oper} {a : Act} {Q : Exit → Act → World → Prop} (hgd : o.guard = none) (s x : Operand) (t : TypeId)
    (ho : o.op = .call { callee := .builtin .append, args := #[s, x], argTypes := #[t, t] })
    (e : TypeId) (z : Value) (sz bytes : Nat) (ht : P.underlying t = some (.slice e)) (hinfo : (P.info? e).map (fun i => (i.zero, i.size, i.bytes)) = some (some z, sz, bytes)) (hzs : z.cells.size = sz) (hsz : 0 < sz)
    (S : Sep w0 w L) (i : Nat) (hi : L[i]? = some (rowR e sz v n xs)) (hs : a.eval s = v) (us : List Value) (hus : us.length = sz) (h1 : ∀ u ∈ us, u.oneCell' = true) (hx : a.eval x = .slice (some ⟨w.heap.size, 0, none⟩) 1 1)
    (h63 : n + 1 ≤ maxLen) (hbytes : (n + 1) * bytes ≤ 140737488355328)
    (h : ∀ g cap w', n + 1 ≤ cap → cap ≤ maxLen → Sep w0 w' (L.set i (rowR e sz (.slice (some ⟨g, 0, none⟩) (n + 1) cap) (n + 1) (xs ++ us))) → wpList P ops Q rest (a.put o.dst (.slice (some ⟨g, 0, none⟩) (n + 1) cap)) w') :
    wpList P ops Q (o :: rest) a (w.alloc (.cells us.toArray e)) := by
  obtain ⟨i0, hi0, hz0, hz1, hz2⟩ := info_parts hinfo
  refine wpList_append_own_at _ hgd s x t ho 0 e i0 z sz bytes ht hi0 hz0 hz1 hz2 hzs hsz v n xs hs (World.ownsRow.alloc (S.row hi) _) ⟨w.heap.size, 0, none⟩ 1 1 us hx (by omega) ?_ h1 h63 hbytes (Nat.zero_le _) ?_
  · intro j u hj
    have hb := Blk.new w e us.toArray
    have := hb.cell j
    simp only [List.getElem?_toArray] at this
    rw [hj] at this
    unfold Addr.add
    by_cases h0 : j = 0
    · subst h0; simpa using this
    · simpa [h0] using this
  · intro v' w' hown hgrow _ hblk
    obtain ⟨g, cap, rfl, h2, h3, _⟩ := row_some hown (by omega)
    exact h g cap w' h2 h3 (grown_sep S i hi hown hgrow hblk)

theorem wpListIn_append_sep {F : Fence} {k : Nat} {P : Program} {ops : Array Oper} {rest : List Oper} {o : Oper} {a : Act} {Q : Exit → Act → World → Prop} (hgd : o.guard = none) (s x : Operand) (t : TypeId)
    (ho : o.op = .call { callee := .builtin .append, args := #[s, x], argTypes := #[t, t] })
    (e : TypeId) (z : Value) (sz bytes : Nat) (ht : P.underlying t = some (.slice e)) (hinfo : (P.info? e).map (fun i => (i.zero, i.size, i.bytes)) = some (some z, sz, bytes)) (hzs : z.cells.size = sz) (hsz : 0 < sz)
    (S : Sep w0 w L) (i : Nat) (hi : L[i]? = some (rowR e sz v n xs)) (hs : a.eval s = v) (us : List Value) (hus : us.length = sz) (h1 : ∀ u ∈ us, u.oneCell' = true) (hx : a.eval x = .slice (some ⟨w.heap.size, 0, none⟩) 1 1)
    (h63 : n + 1 ≤ maxLen) (hbytes : (n + 1) * bytes ≤ 140737488355328)
    (h : ∀ g cap w', n + 1 ≤ cap → cap ≤ maxLen → Sep w0 w' (L.set i (rowR e sz (.slice (some ⟨g, 0, none⟩) (n + 1) cap) (n + 1) (xs ++ us))) → wpListIn F k P ops Q rest (a.put o.dst (.slice (some ⟨g, 0, none⟩) (n + 1) cap)) w') :
    wpListIn F k P ops Q (o :: rest) a (w.alloc (.cells us.toArray e)) := by
  obtain ⟨i0, hi0, hz0, hz1, hz2⟩ := info_parts hinfo
  refine wpListIn_plain hgd fun K hK' => ?_
  obtain ⟨v', w', hrun, hown, hgrow, _, hblk⟩ := run_append_own_at (P := P) (w := w.alloc (.cells us.toArray e)) 0 t o.type e i0 z sz bytes ht hi0 hz0 hz1 hz2 hzs hsz v n xs (World.ownsRow.alloc (S.row hi) _) ⟨w.heap.size, 0, none⟩ 1 1 us (by omega) (by
    intro j u hj
    have hb := Blk.new w e us.toArray
    have := hb.cell j
    simp only [List.getElem?_toArray] at this
    rw [hj] at this
    unfold Addr.add
    by_cases h0 : j = 0
    · subst h0; simpa using this
    · simpa [h0] using this) h1 h63 hbytes (Nat.zero_le _)
  obtain ⟨g, cap, rfl, h2, h3, _⟩ := row_some hown (by omega)
  unfold Oper.wpIn
  refine ⟨?_, ?_⟩
  · simp [Oper.about, ho, resolve, Target.leads, Sem.run_pure]
  · rw [Oper.semAt_plain F _ _ (by rw [ho]; intro c hc'; cases hc')]
    simp [execOp, ho, resolve, invoke, builtin, hs, hx, hrun, Result.andThen]
    exact hK' _ _ (h g cap w' h2 h3 (grown_sep S i hi hown hgrow hblk))
end
end Go.Proofs.Ytapbphbnffggnaa
