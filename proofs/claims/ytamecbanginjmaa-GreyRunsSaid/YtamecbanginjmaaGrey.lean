/-
  The stack of layer 10 in memory, and a contract for each of its methods. Conditions: as each contract says.
-/
import Derived.Test.YtamecbanginjmaaRows
import Derived.Test.YtamecbanginjmaaKit
namespace Go.Proofs.Ytamecbanginjmaa
open Go.RowKit

theorem refInfo : (Try.prog.info? 26).map (fun i => (i.zero, i.size, i.bytes)) = some (some (.int .i64 0), 1, 8) := by kernel_rfl

/-- A stack at block b: list, room, over; v is the slice in its field. -/
def GreyV (w : World) (b : Nat) (v : Value) (l : List Int) (room : Int) (over : Bool) : Prop :=
  Blk w b 62 #[v, .int .i64 room, .bool over] ∧ w.ownsRow 0 26 1 v l.length (l.map (.int .i64))

def GreyAt (w : World) (F : List Nat) (b : Nat) (l : List Int) (room : Int) (over : Bool) : Prop :=
  ∃ v, F = b :: v.ownBlock.toList ∧ GreyV w b v l room over

theorem over_any (b : Nat) (v : Value) (l : List Int) (room : Int) (over : Bool) (w : World) (h : GreyV w b v l room over) :
    Calls Try.prog 22 #[.pointer (some ⟨b, 0, none⟩)] w fun e w' => e = .returned (.bool over) ∧ w = w' := by
  have h2 := h.1.cell 2
  simp at h2
  go_enter Try.func22, Try.ntmps22
  go_wp2
  go_ret
  exact ⟨rfl, rfl⟩

theorem len_any (b : Nat) (v : Value) (l : List Int) (room : Int) (over : Bool) (w : World) (h : GreyV w b v l room over) :
    Calls Try.prog 23 #[.pointer (some ⟨b, 0, none⟩)] w fun e w' => e = .returned (.int .i64 l.length) ∧ w = w' := by
  have h0 := h.1.cell 0
  obtain ⟨A, cap, rfl, hn, hm⟩ := row_slice h.2
  simp at h0
  go_enter Try.func23, Try.ntmps23
  go_wp2
  go_ret
  exact ⟨rfl, rfl⟩

theorem new_any (room : Int) (w : World) :
    Calls Try.prog 20 #[.int .i64 room] w fun e w' => e = .returned (.pointer (some ⟨w.heap.size, 0, none⟩)) ∧ w' = w.alloc (.cells #[.slice none 0 0, .int .i64 (max room 0), .bool false] 62) := by
  go_enter Try.func20, Try.ntmps20
  go_wp2
  all_goals go_ret
  · rw [Int.max_eq_right (by omega)]; exact ⟨rfl, rfl⟩
  · rw [Int.max_eq_left (by omega)]; exact ⟨rfl, rfl⟩

theorem settle_any (b : Nat) (v : Value) (l : List Int) (room : Int) (over : Bool) (w : World) (h : GreyV w b v l room over) :
    Calls Try.prog 25 #[.pointer (some ⟨b, 0, none⟩)] w fun e w' => e = .returned (.tuple #[]) ∧ GreyV w' b v l room false ∧ Chg [b] w w' := by
  have h2 := h.1.cell 2
  have f2 := h.1.frozen 2
  simp at h2
  go_enter Try.func25, Try.ntmps25
  go_wp2
  go_end0
  have hc : Chg [b] w (w.setCell ⟨b, 2, none⟩ (.bool false)) := (Chg.refl _ w).setCell (.inl (by simp)) _
  refine ⟨rfl, ⟨by simpa using h.1.set_ 2 (.bool false), hc.row h.2 (fun k hk => ?_)⟩, hc⟩
  have := row_blk_ne h.2 h.1 (by decide)
  rintro hm
  simp at hm
  subst hm
  exact this hk

theorem reset_any (b : Nat) (v : Value) (l : List Int) (room : Int) (over : Bool) (w : World) (h : GreyV w b v l room over) :
    Calls Try.prog 26 #[.pointer (some ⟨b, 0, none⟩)] w fun e w' => e = .returned (.tuple #[]) ∧ GreyV w' b (.slice none 0 0) [] room false ∧ Chg [b] w w' := by
  have h0 := h.1.cell 0
  have f0 := h.1.frozen 0
  have h1 := h.1.cell 1
  have f1 := h.1.frozen 1
  have h2 := h.1.cell 2
  have f2 := h.1.frozen 2
  simp at h2 h1 h0
  go_enter Try.func26, Try.ntmps26
  go_wp2
  go_end0
  refine ⟨rfl, ⟨?_, by simp, .inl ⟨rfl, rfl⟩⟩, (((Chg.refl _ w).setCell (.inl (by simp)) _).setCell (.inl (by simp)) _).setCell (.inl (by simp)) _⟩
  simpa using ((h.1.set_ 0 (.slice none 0 0)).set_ 1 (.int .i64 room)).set_ 2 (.bool false)

theorem pop_none (b : Nat) (v : Value) (room : Int) (over : Bool) (w : World) (h : GreyV w b v [] room over) :
    Calls Try.prog 24 #[.pointer (some ⟨b, 0, none⟩)] w fun e w' => e = .returned (.tuple #[.int .i64 0, .bool false]) ∧ w = w' := by
  have h0 := h.1.cell 0
  obtain ⟨A, cap, rfl, hn, hm⟩ := row_slice h.2
  simp at h0
  go_enter Try.func24, Try.ntmps24
  go_wp2
  go_ret2
  exact ⟨rfl, rfl⟩

theorem pop_some (b : Nat) (v : Value) (l : List Int) (r : Int) (room : Int) (over : Bool) (w : World) (h : GreyV w b v (l ++ [r]) room over) :
    Calls Try.prog 24 #[.pointer (some ⟨b, 0, none⟩)] w fun e w' => e = .returned (.tuple #[.int .i64 r, .bool true]) ∧ ∃ v', v'.ownBlock = v.ownBlock ∧ GreyV w' b v' l room over ∧ Chg [b] w w' := by
  have h0 := h.1.cell 0
  have f0 := h.1.frozen 0
  have hne := row_blk_ne h.2 h.1 (by decide)
  have hr := h.2
  have hB := h.1
  rw [show (l ++ [r]).length = l.length + 1 by simp] at hr
  clear h
  obtain ⟨g, cap, rfl, hn, hm, _⟩ := row_some hr (by omega)
  have hc := row_cell hr l.length (.int .i64 r) (by simp)
  have HP := Lib.hid (ownsRow_pop (n := l.length) (size := 1) (xs := l.map (.int .i64)) (last := [.int .i64 r]) (by simp) (by simpa using hr))
  have HB := Lib.hid hB
  have HN := Lib.hid hne
  clear hr hB hne
  unfold maxLen at hm
  simp at h0
  go_enter Try.func24, Try.ntmps24
  go_wp2
  go_ret2
  have hc : Chg [b] w (w.setCell ⟨b, 0, none⟩ (.slice (some ⟨g, 0, none⟩) l.length cap)) := (Chg.refl _ w).setCell (.inl (by simp)) _
  refine ⟨rfl, .slice (some ⟨g, 0, none⟩) l.length cap, rfl, ⟨by simpa using HB.out.set_ 0 (.slice (some ⟨g, 0, none⟩) l.length cap), hc.row HP.out (fun k hk => ?_)⟩, hc⟩
  rintro hm
  simp [Value.ownBlock] at hm hk
  have := HN.out
  simp [Value.ownBlock] at this
  omega

theorem push_full (b : Nat) (v : Value) (l : List Int) (r : Int) (room : Int) (over : Bool) (w : World) (h : GreyV w b v l room over) (hf : room ≤ l.length) :
    Calls Try.prog 21 #[.pointer (some ⟨b, 0, none⟩), .int .i64 r] w fun e w' => e = .returned (.bool false) ∧ GreyV w' b v l room true ∧ Chg [b] w w' := by
  have h0 := h.1.cell 0
  have h1 := h.1.cell 1
  have h2 := h.1.cell 2
  have f2 := h.1.frozen 2
  have hne := row_blk_ne h.2 h.1 (by decide)
  obtain ⟨A, cap, rfl, hn, hm⟩ := row_slice h.2
  simp at h0 h1 h2
  have HB := Lib.hid h
  have HN := Lib.hid hne
  clear h hne
  go_enter Try.func21, Try.ntmps21
  go_wp2
  go_quiet (fail)
  go_wp2
  go_ret
  have hc : Chg [b] w ((w.drewN nq).setCell ⟨b, 2, none⟩ (.bool true)) := ((Chg.refl _ w).drewN nq).setCell (.inl (by simp)) _
  refine ⟨rfl, ⟨by simpa using (HB.out.1.drewN nq).set_ 2 (.bool true), hc.row HB.out.2 (fun k hk => ?_)⟩, hc⟩
  rintro hm
  simp at hm
  subst hm
  exact HN.out hk

theorem push_room (b : Nat) (v : Value) (l : List Int) (r : Int) (room : Int) (over : Bool) (w : World) (h : GreyV w b v l room over) (hf : l.length < room) (hl : l.length ≤ 1000000) :
    Calls Try.prog 21 #[.pointer (some ⟨b, 0, none⟩), .int .i64 r] w fun e w' => e = .returned (.bool true) ∧ ∃ v', (v'.ownBlock = v.ownBlock ∨ ∃ g, v'.ownBlock = some g ∧ w.heap.size ≤ g) ∧ GreyV w' b v' (l ++ [r]) room over ∧ Chg (b :: v.ownBlock.toList) w w' := by
  have h0 := h.1.cell 0
  have h1 := h.1.cell 1
  have f0 := h.1.frozen 0
  have hne := row_blk_ne h.2 h.1 (by decide)
  obtain ⟨i0, hi, hz0, hz1, hz2⟩ := info_parts refInfo
  obtain ⟨A, cap, rfl, hn, hm⟩ := row_slice h.2
  simp at h0 h1
  have HR := Lib.hid h.2
  have HB := Lib.hid h.1
  have HN := Lib.hid hne
  clear h hne
  go_enter Try.func21, Try.ntmps21
  go_wp2
  go_quiet (fail)
  go_wp2_with (at_builtin; refine wpList_append_own_at _ rfl _ _ 22 rfl 0 26 i0 (.int .i64 0) 1 8 Try.underlying22 hi hz0 hz1 hz2 rfl (by decide) _ _ _ rfl (World.ownsRow.alloc HR.out _) ⟨w.heap.size, 0, none⟩ 1 1 [.int .i64 r] rfl rfl ?c1 ?c2 ?c3 ?c4 ?c5 ?_)
  case c1 => exact cell_one_new _ _ _
  case c2 => intro u hu; simp at hu; subst hu; rfl
  case c3 => unfold maxLen; omega
  case c4 => omega
  case c5 => omega
  intro v' w1 hown hgrow _ hblk
  obtain ⟨g, cap', rfl, _, _, _⟩ := row_some hown (by omega)
  have hB1 : Blk w1 b 62 #[.slice A l.length cap, .int .i64 room, .bool over] := (hgrow.block b (by have := HB.out.lt; simp; omega) (fun e => HN.out e.symm)).trans ((HB.out.drewN nq).alloc _)
  have hC1 : Chg (b :: (Value.slice A l.length cap).ownBlock.toList) w w1 := Chg.grown (((Chg.refl _ w).drewN nq).alloc _) hgrow (fun k hk => .inl (by simp [hk]))
  have e0 := hB1.cell 0
  have e1 := hB1.frozen 0
  simp at e0
  have HB1 := Lib.hid hB1
  have HC1 := Lib.hid hC1
  have HO := Lib.hid hown
  have HK := Lib.hid hblk
  clear hB1 hC1 hown hblk hgrow
  go_wp2
  go_ret
  have hc : Chg [b] w1 (w1.setCell ⟨b, 0, none⟩ (.slice (some ⟨g, 0, none⟩) (l.length + 1) cap')) := (Chg.refl _ w1).setCell (.inl (by simp)) _
  refine ⟨rfl, .slice (some ⟨g, 0, none⟩) (l.length + 1) cap', ?_, ⟨by simpa using HB1.out.set_ 0 (.slice (some ⟨g, 0, none⟩) (l.length + 1) cap'), ?_⟩, HC1.out.trans hc (by simp)⟩
  · rcases HK.out with h | h
    · exact .inl h
    · exact .inr ⟨_, h, by simp⟩
  · have h3 : w1.ownsRow 0 26 1 (.slice (some ⟨g, 0, none⟩) (l.length + 1) cap') (l ++ [r]).length ((l ++ [r]).map (.int .i64)) := by simpa using HO.out
    refine hc.row h3 (fun k hk hm => ?_)
    simp at hm
    subst hm
    exact row_blk_ne HO.out HB1.out (by decide) hk

section
variable {w w' : World} {F G : List Nat} {b : Nat} {l : List Int} {room : Int} {over : Bool}

theorem GreyAt.mem (h : GreyAt w F b l room over) : b ∈ F := by obtain ⟨v, rfl, _⟩ := h; simp
theorem GreyAt.keep (h : GreyAt w F b l room over) (hc : Chg G w w') (hd : ∀ x ∈ F, x ∉ G) : GreyAt w' F b l room over := by
  obtain ⟨v, rfl, h1, h2⟩ := h
  exact ⟨v, rfl, hc.blk h1 (hd _ (by simp)), hc.row h2 (fun k hk => hd _ (by simp [hk]))⟩
theorem GreyAt.lt (h : GreyAt w F b l room over) : ∀ x ∈ F, x < w.heap.size := by
  obtain ⟨v, rfl, h1, h2⟩ := h
  intro x hx
  rcases List.mem_cons.1 hx with rfl | hx
  · exact h1.lt
  · exact row_lt h2 (by simpa using hx)

theorem Over (h : GreyAt w F b l room over) : Calls Try.prog 22 #[.pointer (some ⟨b, 0, none⟩)] w fun e w' => e = .returned (.bool over) ∧ w = w' := by
  obtain ⟨v, rfl, h1⟩ := h
  exact over_any _ _ _ _ _ _ h1
theorem Len (h : GreyAt w F b l room over) : Calls Try.prog 23 #[.pointer (some ⟨b, 0, none⟩)] w fun e w' => e = .returned (.int .i64 l.length) ∧ w = w' := by
  obtain ⟨v, rfl, h1⟩ := h
  exact len_any _ _ _ _ _ _ h1
theorem New (w : World) (room : Int) : Calls Try.prog 20 #[.int .i64 room] w fun e w' => ∃ b, e = .returned (.pointer (some ⟨b, 0, none⟩)) ∧ b = w.heap.size ∧ GreyAt w' [b] b [] (max room 0) false ∧ Chg [] w w' := by
  refine (new_any room w).mono ?_
  rintro e w' ⟨rfl, rfl⟩
  refine ⟨_, rfl, rfl, ⟨.slice none 0 0, by simp [Value.ownBlock], Blk.new _ _ _, by simp, .inl ⟨rfl, rfl⟩⟩, (Chg.refl _ w).alloc _⟩
theorem Settle (h : GreyAt w F b l room over) : Calls Try.prog 25 #[.pointer (some ⟨b, 0, none⟩)] w fun e w' => e = .returned (.tuple #[]) ∧ GreyAt w' F b l room false ∧ Chg F w w' := by
  obtain ⟨v, rfl, h1⟩ := h
  refine (settle_any _ _ _ _ _ _ h1).mono ?_
  rintro e w' ⟨rfl, h2, h3⟩
  exact ⟨rfl, ⟨v, rfl, h2⟩, h3.mono (by intro x hx; simp at hx; subst hx; simp)⟩
theorem Reset (h : GreyAt w F b l room over) : Calls Try.prog 26 #[.pointer (some ⟨b, 0, none⟩)] w fun e w' => e = .returned (.tuple #[]) ∧ GreyAt w' [b] b [] room false ∧ Chg F w w' := by
  obtain ⟨v, rfl, h1⟩ := h
  refine (reset_any _ _ _ _ _ _ h1).mono ?_
  rintro e w' ⟨rfl, h2, h3⟩
  exact ⟨rfl, ⟨_, by simp [Value.ownBlock], h2⟩, h3.mono (by intro x hx; simp at hx; subst hx; simp)⟩
theorem PopNo (h : GreyAt w F b [] room over) : Calls Try.prog 24 #[.pointer (some ⟨b, 0, none⟩)] w fun e w' => e = .returned (.tuple #[.int .i64 0, .bool false]) ∧ w = w' := by
  obtain ⟨v, rfl, h1⟩ := h
  exact pop_none _ _ _ _ _ h1
theorem PopYes {r : Int} (h : GreyAt w F b (l ++ [r]) room over) : Calls Try.prog 24 #[.pointer (some ⟨b, 0, none⟩)] w fun e w' => e = .returned (.tuple #[.int .i64 r, .bool true]) ∧ GreyAt w' F b l room over ∧ Chg F w w' := by
  obtain ⟨v, rfl, h1⟩ := h
  refine (pop_some _ _ _ _ _ _ _ h1).mono ?_
  rintro e w' ⟨rfl, v', hv, h2, h3⟩
  exact ⟨rfl, ⟨v', by rw [hv], h2⟩, h3.mono (by intro x hx; simp at hx; subst hx; simp)⟩
theorem PushNo (h : GreyAt w F b l room over) (r : Int) (hf : room ≤ l.length) : Calls Try.prog 21 #[.pointer (some ⟨b, 0, none⟩), .int .i64 r] w fun e w' => e = .returned (.bool false) ∧ GreyAt w' F b l room true ∧ Chg F w w' := by
  obtain ⟨v, rfl, h1⟩ := h
  refine (push_full _ _ _ _ _ _ _ h1 hf).mono ?_
  rintro e w' ⟨rfl, h2, h3⟩
  exact ⟨rfl, ⟨v, rfl, h2⟩, h3.mono (by intro x hx; simp at hx; subst hx; simp)⟩
theorem PushYes (h : GreyAt w F b l room over) (r : Int) (hf : l.length < room) (hl : l.length ≤ 1000000) : Calls Try.prog 21 #[.pointer (some ⟨b, 0, none⟩), .int .i64 r] w fun e w' => ∃ F', e = .returned (.bool true) ∧ GreyAt w' F' b (l ++ [r]) room over ∧ Chg F w w' ∧ Sub w F' F := by
  obtain ⟨v, rfl, h1⟩ := h
  refine (push_room _ _ _ _ _ _ _ h1 hf hl).mono ?_
  rintro e w' ⟨rfl, v', hv, h2, h3⟩
  refine ⟨_, rfl, ⟨v', rfl, h2⟩, h3, ?_⟩
  intro x hx
  rcases List.mem_cons.1 hx with rfl | hx
  · simp
  · rcases hv with hv | ⟨g, hv, hg⟩
    · rw [hv] at hx; simp at hx; simp [hx]
    · rw [hv] at hx; simp at hx; subst hx; exact .inr hg
end

theorem fit10 (w : World) : Calls Try.prog 19 #[] w fun e w' => e = .returned (.bool true) ∧ Chg [] w w' := by
  have hO := Own.start w
  go_enter Try.func19, Try.ntmps19
  go_wp2_with fail
  refine (New _ _).mono ?_
  rintro e w1 ⟨b, rfl, hb, hG, hC⟩
  replace hO := hO.step hC (F' := [b]) (by intro x hx; simp at hx; omega)
  clear hC
  have HO := Lib.hid hb
  clear hb
  go_wp2_with fail
  refine (PushYes hG _ (by decide) (by simp)).mono ?_
  rintro e w2 ⟨F2, rfl, hG2, hC, hS⟩
  replace hO := hO.step hC hS
  clear hC hS hG
  go_wp2_with fail
  refine (Over hG2).mono ?_
  rintro e w' ⟨rfl, rfl⟩
  go_wp2_with fail
  refine (PushNo hG2 _ (by decide)).mono ?_
  rintro e w3 ⟨rfl, hG3, hC⟩
  replace hO := hO.same hC
  clear hC hG2
  go_wp2_with fail
  refine (Over hG3).mono ?_
  rintro e w' ⟨rfl, rfl⟩
  go_wp2_with fail
  refine (PopYes (l := []) hG3).mono ?_
  rintro e w4 ⟨rfl, hG4, hC⟩
  replace hO := hO.same hC
  clear hC hG3
  go_wp2_with fail
  refine (Len hG4).mono ?_
  rintro e w' ⟨rfl, rfl⟩
  go_wp2_with fail
  refine (Over hG4).mono ?_
  rintro e w' ⟨rfl, rfl⟩
  go_wp2_with fail
  go_ret
  exact ⟨rfl, hO.1⟩

end Go.Proofs.Ytamecbanginjmaa
