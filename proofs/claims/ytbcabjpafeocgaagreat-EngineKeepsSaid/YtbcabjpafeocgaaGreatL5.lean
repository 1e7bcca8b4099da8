/-
  Parts of the proof, joined: Mark5, Mark6, Mark7, Marks, Mark8, Mark9, Fit11, StillIn, Float, Quiet, Made11, ReachP. Conditions: as each part says.
-/
import Derived.Test.YtbcabjpafeocgaaGreatL4
import Derived.Test.YtbcabjpafeocgaaGreatL3
import Derived.Outline
import Derived.Test.YtbcabjpafeocgaaGreatL1
import Derived.StillTailTactics
import Derived.OrdersIn
import Derived.Sort.QuietIn
import Derived.Sort.BigQuietIn
import Derived.Sort.QuietThIn
import Derived.BigQuiet
import Derived.Deep.Quiet
import Derived.Test.YtbcabjpafeocgaaGreatL2

/-
  The marker (layer 11): a new one; is an object grey; all grey ones onto the stack. Conditions: as each contract says.
-/
namespace Go.Proofs.YtbcabjpafeocgaaGreat
set_option linter.unusedVariables false
set_option linter.unusedSimpArgs false
open Go.RowKit Go.Shelf

section
variable {w0 w : World} {L : List Res} {m a n : Nat} {C : Col}

theorem KNew {A : AR} (S : Sep w0 w L) (i : Nat) (hi : L[i]? = some (arenaR a A)) (hn : A.size = (n : Int)) (hn5 : n ≤ 100000) (room : Int) (hroom : room ≤ 1000000) :
    Calls Tryz.prog 12 #[.pointer (some ⟨a, 0, none⟩), .int .i64 room] w fun e w' => ∃ m, e = .returned (.pointer (some ⟨m, 0, none⟩)) ∧ Sep w0 w' (markR m a n Col.white :: L) := by
  have HC0 := Lib.hid (TASize S i hi)
  have HN := Lib.hid hn
  have HS := Lib.hid S
  have HI := Lib.hid hi
  clear S hi hn
  go_enter Tryz.func12, Tryz.ntmps12
  go_wp2_with (first
    | (go_at_call 47; refine HC0.out.mono ?_; rw [HN.out]; rintro e w1 ⟨rfl, rfl⟩; have HC1 := Lib.hid (TSNew HS.out (n : Int) (by omega)); clear HC0)
    | (go_at_call 46; refine HC1.out.mono ?_; rintro e w2 ⟨rfl, hs⟩; have HC2 := Lib.hid (TASize hs (i + 1) (by simpa using HI.out)); have HS2 := Lib.hid hs; clear hs HC1)
    | (go_at_call 47; refine HC2.out.mono ?_; rw [HN.out]; rintro e w3 ⟨rfl, rfl⟩; have HC3 := Lib.hid (TSNew HS2.out (n : Int) (by omega)); clear HC2)
    | (go_at_call 46; refine HC3.out.mono ?_; rintro e w4 ⟨rfl, hs⟩; have HC4 := Lib.hid (TGNew hs); clear hs HC3)
    | (go_at_call 48; refine (HC4.out _).mono ?_; rintro e w5 ⟨b, rfl, hs⟩; have HS5 := Lib.hid hs; clear hs HC4))
  all_goals
    go_ret
    refine ⟨w5.heap.size, rfl, ?_⟩
    have h1 := HS5.out.box #[.pointer (some ⟨a, 0, none⟩), .pointer (some ⟨w.heap.size, 0, none⟩), .pointer (some ⟨w2.heap.size, 0, none⟩), .pointer (some ⟨b, 0, none⟩)] 91
    have h2 := h1.front 4 [0, 3, 2, 1]
    rw [show max (if room < 1 then (1 : Int) else room) 0 = ((max room 1).toNat : Int) by split <;> omega] at h2
    exact mark_shutHead (o := ⟨w.heap.size, w2.heap.size, b, [], (max room 1).toNat, false⟩) ⟨grey_white, by show 1 ≤ (max room 1).toNat; omega, by show (max room 1).toNat ≤ _; omega, by simp, by simp [Col.white], by simp [Col.white], hn5⟩ h2

theorem PMarked (S : Sep w0 w L) (i j : Nat) {b1 b2 b3 : Nat} {Z : Nat → Bool} (hi : L[i]? = some (blkR m 91 #[.pointer (some ⟨a, 0, none⟩), .pointer (some ⟨b1, 0, none⟩), .pointer (some ⟨b2, 0, none⟩), .pointer (some ⟨b3, 0, none⟩)])) (hj : L[j]? = some (setR b1 (n : Int) Z)) (hn : n ≤ 100000) (r : Nat) (hr : r < n) :
    Calls Tryz.prog 18 #[.pointer (some ⟨m, 0, none⟩), .int .i64 (r : Int)] w fun e w' => e = .returned (.bool (Z r)) ∧ Sep w0 w' L := by
  have c1 := (S.blk i hi).cell 1
  simp only [List.getElem?_toArray, List.getElem?_cons_zero, List.getElem?_cons_succ] at c1
  have HC := Lib.hid (TSHas S j hj (by omega) r (by omega))
  clear S hi hj
  go_enter Tryz.func18, Tryz.ntmps18
  go_wp2_with (go_at_call 58; refine HC.out.mono ?_; rintro e w' ⟨rfl, hs⟩; have HS := Lib.hid hs; clear hs HC)
  go_ret
  exact ⟨rfl, HS.out⟩
theorem PScanned (S : Sep w0 w L) (i j : Nat) {b1 b2 b3 : Nat} {Z : Nat → Bool} (hi : L[i]? = some (blkR m 91 #[.pointer (some ⟨a, 0, none⟩), .pointer (some ⟨b1, 0, none⟩), .pointer (some ⟨b2, 0, none⟩), .pointer (some ⟨b3, 0, none⟩)])) (hj : L[j]? = some (setR b2 (n : Int) Z)) (hn : n ≤ 100000) (r : Nat) (hr : r < n) :
    Calls Tryz.prog 19 #[.pointer (some ⟨m, 0, none⟩), .int .i64 (r : Int)] w fun e w' => e = .returned (.bool (Z r)) ∧ Sep w0 w' L := by
  have c1 := (S.blk i hi).cell 2
  simp only [List.getElem?_toArray, List.getElem?_cons_zero, List.getElem?_cons_succ] at c1
  have HC := Lib.hid (TSHas S j hj (by omega) r (by omega))
  clear S hi hj
  go_enter Tryz.func19, Tryz.ntmps19
  go_wp2_with (go_at_call 58; refine HC.out.mono ?_; rintro e w' ⟨rfl, hs⟩; have HS := Lib.hid hs; clear hs HC)
  go_ret
  exact ⟨rfl, HS.out⟩
theorem PGrey (S : Sep w0 w L) (i j k : Nat) {b1 b2 b3 : Nat} (hi : L[i]? = some (blkR m 91 #[.pointer (some ⟨a, 0, none⟩), .pointer (some ⟨b1, 0, none⟩), .pointer (some ⟨b2, 0, none⟩), .pointer (some ⟨b3, 0, none⟩)])) (hj : L[j]? = some (setR b1 (n : Int) C.mz)) (hk : L[k]? = some (setR b2 (n : Int) C.sc)) (hn : n ≤ 100000) (r : Nat) (hr : r < n) :
    Calls Tryz.prog 87 #[.pointer (some ⟨m, 0, none⟩), .int .i64 (r : Int)] w fun e w' => e = .returned (.bool (C.grey r)) ∧ Sep w0 w' L := by
  have HC := Lib.hid (PMarked S i j hi hj hn r hr)
  have HI := Lib.hid hi
  have HK := Lib.hid hk
  obtain ⟨x, hx⟩ : ∃ x, C.mz r = x := ⟨_, rfl⟩
  have HX := Lib.hid hx
  clear S hi hj hk hx
  cases x with
  | false =>
    have hg : C.grey r = false := by unfold Col.grey; rw [HX.out]; rfl
    have HG := Lib.hid hg
    clear hg
    go_enter Tryz.func87, Tryz.ntmps87
    go_wp2_with (go_at_call 18; refine HC.out.mono ?_; rw [HX.out]; rintro e w' ⟨rfl, hs⟩; have HS := Lib.hid hs; clear hs HC)
    go_ret
    refine ⟨?_, HS.out⟩
    rw [HG.out]
    rfl
  | true =>
    have hg : C.grey r = !C.sc r := by unfold Col.grey; rw [HX.out]; rfl
    have HG := Lib.hid hg
    clear hg
    go_enter Tryz.func87, Tryz.ntmps87
    go_wp2_with (first
      | (go_at_call 18; refine HC.out.mono ?_; rw [HX.out]; rintro e w' ⟨rfl, hs⟩; have HC2 := Lib.hid (PScanned hs i k HI.out HK.out hn r hr); clear hs HC)
      | (go_at_call 19; refine HC2.out.mono ?_; rintro e w' ⟨rfl, hs⟩; have HS := Lib.hid hs; clear hs HC2))
    go_ret
    refine ⟨?_, HS.out⟩
    rw [HG.out]
    rfl
end
end Go.Proofs.YtbcabjpafeocgaaGreat

/-
  The marker (layer 11): grey ones onto the stack again; is none grey. Conditions: as the theorem says.
-/
namespace Go.Proofs.YtbcabjpafeocgaaGreat
set_option linter.unusedVariables false
set_option linter.unusedSimpArgs false
open Go.RowKit Go.Shelf
attribute [local go_sem] Oper.semAt_some wide_fn round_fn wide_depth round_depth
attribute [local simp] wide_fn round_fn wide_depth round_depth

/-- What the stack holds where those of pre were looked at. -/
structure Refill (C : Col) (pre gs : List Nat) (room : Nat) (ov : Bool) : Prop where
  some_ : ov = false → ∀ x ∈ pre, C.grey x = true → x ∈ gs
  fits : gs.length ≤ room
  grey : ∀ x ∈ gs, C.grey x = true
  full : ov = true → gs.length = room
theorem refill_none (C : Col) (room : Nat) : Refill C [] [] room false := ⟨by simp, by simp, by simp, by simp⟩
theorem Refill.skip {C : Col} {pre gs : List Nat} {room : Nat} {ov : Bool} {x : Nat} (h : Refill C pre gs room ov) (hx : C.grey x = false) : Refill C (pre ++ [x]) gs room ov :=
  ⟨fun ho y hy hg => (by
    rcases List.mem_append.1 hy with h1 | h1
    · exact h.some_ ho y h1 hg
    · simp at h1; subst h1; rw [hx] at hg; cases hg), h.fits, h.grey, h.full⟩
theorem Refill.push {C : Col} {pre gs : List Nat} {room : Nat} {ov : Bool} {x : Nat} (h : Refill C pre gs room ov) (hx : C.grey x = true) : Refill C (pre ++ [x]) (if gs.length < room then gs ++ [x] else gs) room (if gs.length < room then ov else true) := by
  by_cases hl : gs.length < room
  · simp only [hl, if_true]
    refine ⟨fun ho y hy hg => ?_, by simp; omega, fun y hy => ?_, fun ho => ?_⟩
    · rcases List.mem_append.1 hy with h1 | h1
      · exact List.mem_append.2 (.inl (h.some_ ho y h1 hg))
      · exact List.mem_append.2 (.inr h1)
    · rcases List.mem_append.1 hy with h1 | h1
      · exact h.grey y h1
      · simp at h1; subst h1; exact hx
    · have := h.full ho
      omega
  · simp only [hl, if_false]
    exact ⟨fun ho => (by cases ho), h.fits, h.grey, fun _ => (by have := h.fits; omega)⟩
theorem Refill.ok {C : Col} {gs : List Nat} {o : Own3} {n : Nat} {ov : Bool} (h : Refill C (elems n C.mz) gs o.room ov) (ho : MarkOk n o C) : MarkOk n { o with gs := gs, over := ov } C := by
  refine ⟨⟨fun hv r hr => ?_, h.fits⟩, ho.room, ho.few, fun r hr => ?_, ho.mz, ho.sc, ho.size⟩
  · have hm := (grey_iff.1 hr).1
    exact h.some_ hv r (mem_elems.2 ⟨(ho.mz r hm).2, hm⟩) hr
  · exact ho.mz r (grey_iff.1 (h.grey r hr)).1

section
variable {w0 w : World} {L R0 : List Res} {m a n : Nat} {C : Col}
set_option maxHeartbeats 2000000 in
theorem KRefill {o : Own3} (ho : MarkOk n o C) (hgs : o.gs = []) (S : Sep w0 w (markParts m a n o C ++ R0)) :
    Calls Tryz.prog 89 #[.pointer (some ⟨m, 0, none⟩)] w fun e w' => e = .returned (.tuple #[]) ∧ ∃ gs ov, Refill C (elems n C.mz) gs o.room ov ∧ Sep w0 w' (markParts m a n { o with gs := gs, over := ov } C ++ R0) := by
  obtain ⟨T, hT⟩ : ∃ T, w.heap.size = T := ⟨_, rfl⟩
  have hb : Sep w0 (w.alloc (.cells #[.pointer (some ⟨m, 0, none⟩)] 32)) (blkR T 32 #[.pointer (some ⟨m, 0, none⟩)] :: blkR m 91 #[.pointer (some ⟨a, 0, none⟩), .pointer (some ⟨o.b1, 0, none⟩), .pointer (some ⟨o.b2, 0, none⟩), .pointer (some ⟨o.b3, 0, none⟩)] :: setR o.b1 (n : Int) C.mz :: setR o.b2 (n : Int) C.sc :: greyR o.b3 (ints []) (o.room : Int) o.over :: R0) := by
    have := S.box #[.pointer (some ⟨m, 0, none⟩)] 32
    rw [hT] at this
    unfold markParts at this
    rw [hgs] at this
    exact this
  have z0 := (hb.blk 0 rfl).cell 0
  have z1 := (hb.blk 1 rfl).cell 3
  simp only [List.getElem?_toArray, List.getElem?_cons_zero, List.getElem?_cons_succ] at z0 z1
  have HB := Lib.hid hb
  have HO := Lib.hid ho
  clear hb S ho hgs
  refine calls_wide ?_
  refine callsIn_of_wp_marks Tryz.func89 rfl trivial ?_
  simp only [Tryz.ntmps89, List.size_toArray, List.length_cons, List.length_nil, Nat.reduceAdd, Nat.reduceSub, Array.replicate_succ, Array.replicate_zero, List.push_toArray, List.append_toArray, List.nil_append, List.cons_append]
  gi_wp2_with (first
    | (gi_at_call 103; refine (calls_in (TGSettle HB.out 4 rfl)).mono ?_; rintro e w1 ⟨rfl, hs⟩; have y0 := (hs.blk 0 rfl).cell 0; simp only [List.getElem?_toArray, List.getElem?_cons_zero, List.getElem?_cons_succ] at y0; have HS1 := Lib.hid hs; clear hs HB)
    | (gi_at_call 35; refine (calls_in (KAll HS1.out m)).mono ?_; rintro e w2 ⟨rfl, hs⟩; have HS2 := Lib.hid hs; clear hs HS1))
  obtain ⟨Y, hY⟩ : ∃ Y, w1.heap.size = Y := ⟨_, rfl⟩
  have hS2 := HS2.out
  rw [hY] at hS2
  have HS3 := Lib.hid (show Sep w0 w2 (blkR Y 32 #[.pointer (some ⟨m, 0, none⟩)] :: blkR m 91 #[.pointer (some ⟨a, 0, none⟩), .pointer (some ⟨o.b1, 0, none⟩), .pointer (some ⟨o.b2, 0, none⟩), .pointer (some ⟨o.b3, 0, none⟩)] :: setR o.b1 (n : Int) C.mz :: blkR T 32 #[.pointer (some ⟨m, 0, none⟩)] :: setR o.b2 (n : Int) C.sc :: greyR o.b3 (ints []) (o.room : Int) false :: R0) from hS2.front 6 [0, 2, 3])
  clear hS2 HS2
  refine wp_range (gf := 64) (lb := #[.pointer (some ⟨Y, 0, none⟩)]) (by rw [← hY]; rfl) (enters_of Tryz.func64 (by kernel_rfl) rfl) (mark_iter Y m a o.b1 o.b2 o.b3 n C.mz HO.out.size) (fun _ => rfl) HS3.out
    (fun pre Rs => ∃ gs ov, Refill C pre gs o.room ov ∧ Rs = blkR T 32 #[.pointer (some ⟨m, 0, none⟩)] :: setR o.b2 (n : Int) C.sc :: greyR o.b3 (ints gs) (o.room : Int) ov :: R0) (fun _ _ _ => False) ⟨[], false, refill_none _ _, rfl⟩ ?round ?done ?stop
  case stop => rintro _ _ _ _ _ _ h; exact h.elim
  case round =>
    rintro l1 D pre x _ G W1 r hpre ⟨gs, ov, hinv, rfl⟩ hS1
    simp only [List.cons_append, List.nil_append] at hS1
    have hxn : x < n := (mem_elems.1 (hpre.subset (by simp))).1
    have HINV := Lib.hid hinv
    have HS1 := Lib.hid hS1
    clear hpre hinv hS1 HS3 hY y0 z0 z1
    gi_wp2
    refine ⟨[], HS1.out, ?_⟩
    intro r' W2 hS2
    simp only [List.cons_append, List.nil_append] at hS2
    have y0 := (hS2.blk 5 rfl).cell 0
    simp only [List.getElem?_toArray, List.getElem?_cons_zero, List.getElem?_cons_succ] at y0
    have HC := Lib.hid (PGrey hS2 1 2 6 rfl rfl rfl HO.out.size x hxn)
    clear hS2 HS1
    obtain ⟨g, hg⟩ : ∃ g, C.grey x = g := ⟨_, rfl⟩
    have HG := Lib.hid hg
    clear hg
    cases g with
    | false =>
      gi_wp2_with (gi_at_call 87; refine (calls_round (HC.out)).mono ?_; rw [HG.out]; rintro e w4 ⟨rfl, hs⟩; have HS4 := Lib.hid hs; clear hs HC)
      exact ⟨_, ⟨gs, ov, HINV.out.skip HG.out, rfl⟩, HS4.out⟩
    | true =>
      gi_wp2_with (first
        | (gi_at_call 87; refine (calls_round (HC.out)).mono ?_; rw [HG.out]; rintro e w4 ⟨rfl, hs⟩; have y0 := (hs.blk 5 rfl).cell 0; have v3 := (hs.blk 1 rfl).cell 3; simp only [List.getElem?_toArray, List.getElem?_cons_zero, List.getElem?_cons_succ] at y0 v3; have HS4 := Lib.hid hs; clear hs HC)
        | (gi_at_call 50; refine (calls_round (TGPush HS4.out 7 rfl (x : Int) (by rw [ints_length]; have h1 := HINV.out.fits; have h2 := HO.out.few; omega))).mono ?_; rintro e w5 ⟨v, rfl, hs⟩; have HS5 := Lib.hid hs; clear hs HS4))
      refine ⟨_, ⟨_, _, HINV.out.push HG.out, rfl⟩, ?_⟩
      have h2 := HS5.out
      simp only [ints_length, Int.ofNat_lt] at h2
      by_cases h : gs.length < o.room
      · simp only [h, if_true] at h2 ⊢
        rw [← ints_push] at h2
        exact h2
      · simp only [h, if_false] at h2 ⊢
        exact h2
  rintro D _ W1 ⟨gs, ov, hinv, rfl⟩ hS1
  have HINV := Lib.hid hinv
  have HS1 := Lib.hid hS1
  clear hinv hS1 HS3
  gi_wp2
  refine leaves_mark HS1.out (i := 3) rfl (fun _ => results_none rfl _ _ _) ?_
  intro w' hS2
  refine ⟨rfl, gs, ov, HINV.out, ?_⟩
  have h5 : Sep w0 w' (blkR m 91 #[.pointer (some ⟨a, 0, none⟩), .pointer (some ⟨o.b1, 0, none⟩), .pointer (some ⟨o.b2, 0, none⟩), .pointer (some ⟨o.b3, 0, none⟩)] :: setR o.b1 (n : Int) C.mz :: setR o.b2 (n : Int) C.sc :: greyR o.b3 (ints gs) (o.room : Int) ov :: blkR Y 32 #[.pointer (some ⟨m, 0, none⟩)] :: objR D (.deferred none) :: blkR T 32 #[.pointer (some ⟨m, 0, none⟩)] :: R0) := hS2.front 7 [1, 2, 5, 6, 0, 3, 4]
  exact (h5.perm (perm_mid [_, _, _, _] [_, _, _] R0)).right

set_option maxHeartbeats 2000000 in
theorem PDrained {o : Own3} (ho : MarkOk n o C) (S : Sep w0 w (markParts m a n o C ++ R0)) :
    Calls Tryz.prog 23 #[.pointer (some ⟨m, 0, none⟩)] w fun e w' => ∃ b, e = .returned (.bool b) ∧ (b = true ↔ ∀ x, C.grey x = false) ∧ Sep w0 w' (markParts m a n o C ++ R0) := by
  obtain ⟨T, hT⟩ : ∃ T, w.heap.size = T := ⟨_, rfl⟩
  have hb : Sep w0 ((w.alloc (.cells #[.pointer (some ⟨m, 0, none⟩)] 32)).alloc (.cells #[.bool false] 4)) (blkR (T + 1) 4 #[.bool false] :: blkR T 32 #[.pointer (some ⟨m, 0, none⟩)] :: blkR m 91 #[.pointer (some ⟨a, 0, none⟩), .pointer (some ⟨o.b1, 0, none⟩), .pointer (some ⟨o.b2, 0, none⟩), .pointer (some ⟨o.b3, 0, none⟩)] :: setR o.b1 (n : Int) C.mz :: setR o.b2 (n : Int) C.sc :: greyR o.b3 (ints o.gs) (o.room : Int) o.over :: R0) := by
    have := (S.box #[.pointer (some ⟨m, 0, none⟩)] 32).box #[.bool false] 4
    rw [World.size_alloc, hT] at this
    unfold markParts at this
    exact this
  have z0 := (hb.blk 1 rfl).cell 0
  simp only [List.getElem?_toArray, List.getElem?_cons_zero, List.getElem?_cons_succ] at z0
  have HB := Lib.hid hb
  have HO := Lib.hid ho
  clear hb S ho
  refine calls_wide ?_
  refine callsIn_of_wp_marks Tryz.func23 rfl trivial ?_
  simp only [Tryz.ntmps23, List.size_toArray, List.length_cons, List.length_nil, Nat.reduceAdd, Nat.reduceSub, Array.replicate_succ, Array.replicate_zero, List.push_toArray, List.append_toArray, List.nil_append, List.cons_append]
  gi_wp2_with (gi_at_call 35; refine (calls_in (KAll HB.out m)).mono ?_; rintro e w2 ⟨rfl, hs⟩; have HS2 := Lib.hid hs; clear hs HB)
  obtain ⟨Y, hY⟩ : ∃ Y, T + 1 + 1 = Y := ⟨_, rfl⟩
  have hS2 := HS2.out
  simp only [World.size_alloc] at hS2
  rw [hT, hY] at hS2
  have HS3 := Lib.hid (show Sep w0 w2 (blkR Y 32 #[.pointer (some ⟨m, 0, none⟩)] :: blkR m 91 #[.pointer (some ⟨a, 0, none⟩), .pointer (some ⟨o.b1, 0, none⟩), .pointer (some ⟨o.b2, 0, none⟩), .pointer (some ⟨o.b3, 0, none⟩)] :: setR o.b1 (n : Int) C.mz :: blkR (T + 1) 4 #[.bool false] :: blkR T 32 #[.pointer (some ⟨m, 0, none⟩)] :: setR o.b2 (n : Int) C.sc :: greyR o.b3 (ints o.gs) (o.room : Int) o.over :: R0) from hS2.front 7 [0, 3, 4])
  clear hS2 HS2
  refine wp_range (gf := 64) (lb := #[.pointer (some ⟨Y, 0, none⟩)]) (by rw [← hY]; rfl) (enters_of Tryz.func64 (by kernel_rfl) rfl) (mark_iter Y m a o.b1 o.b2 o.b3 n C.mz HO.out.size) (fun _ => rfl) HS3.out
    (fun pre Rs => (∀ x ∈ pre, C.sc x = true) ∧ Rs = blkR (T + 1) 4 #[.bool false] :: blkR T 32 #[.pointer (some ⟨m, 0, none⟩)] :: setR o.b2 (n : Int) C.sc :: greyR o.b3 (ints o.gs) (o.room : Int) o.over :: R0)
    (fun c pre Rs => c = .ret ∧ (∃ x, C.grey x = true) ∧ Rs = blkR (T + 1) 4 #[.bool false] :: blkR T 32 #[.pointer (some ⟨m, 0, none⟩)] :: setR o.b2 (n : Int) C.sc :: greyR o.b3 (ints o.gs) (o.room : Int) o.over :: R0) ⟨by simp, rfl⟩ ?round ?done ?stop
  case round =>
    rintro l1 D pre x _ G W1 r hpre ⟨hinv, rfl⟩ hS1
    simp only [List.cons_append, List.nil_append] at hS1
    have hxn := mem_elems.1 (hpre.subset (show x ∈ pre ++ [x] by simp))
    have hx2 := hxn.1
    have HXN := Lib.hid hxn
    have HINV := Lib.hid hinv
    have HS1 := Lib.hid hS1
    clear hpre hinv hS1 HS3 hY z0 hxn
    gi_wp2
    refine ⟨[], HS1.out, ?_⟩
    intro r' W2 hS2
    simp only [List.cons_append, List.nil_append] at hS2
    have y0 := (hS2.blk 6 rfl).cell 0
    simp only [List.getElem?_toArray, List.getElem?_cons_zero, List.getElem?_cons_succ] at y0
    have HC := Lib.hid (PScanned hS2 1 7 rfl rfl HO.out.size x hx2)
    clear hS2 HS1
    obtain ⟨g, hg⟩ : ∃ g, C.sc x = g := ⟨_, rfl⟩
    have HG := Lib.hid hg
    clear hg
    cases g with
    | true =>
      gi_wp2_with (gi_at_call 19; refine (calls_round (HC.out)).mono ?_; rw [HG.out]; rintro e w4 ⟨rfl, hs⟩; have HS4 := Lib.hid hs; clear hs HC)
      refine ⟨_, ⟨?_, rfl⟩, HS4.out⟩
      intro y hy
      rcases List.mem_append.1 hy with h | h
      · exact HINV.out y h
      · simp at h; subst h; exact HG.out
    | false =>
      gi_wp2_with (gi_at_call 19; refine (calls_round (HC.out)).mono ?_; rw [HG.out]; rintro e w4 ⟨rfl, hs⟩; have y0 := (hs.blk 5 rfl).cell 0; have fy0 := (hs.blk 5 rfl).frozen 0; simp only [List.getElem?_toArray, List.getElem?_cons_zero, List.getElem?_cons_succ] at y0; have HS4 := Lib.hid hs; clear hs HC)
      refine ⟨_, ⟨rfl, ⟨x, grey_iff.2 ⟨HXN.out.2, HG.out⟩⟩, rfl⟩, ?_⟩
      have := HS4.out.setCell 5 rfl 0 (.bool false)
      simpa using this
  case stop =>
    rintro D c pre _ W1 hpre ⟨rfl, hgr, rfl⟩ hS1
    have HGR := Lib.hid hgr
    have HS1 := Lib.hid hS1
    clear hpre hgr hS1 HS3
    gi_wp2
    refine leaves_box HS1.out 3 rfl 4 rfl (by decide) rfl rfl ?_
    intro w' hS2
    refine ⟨false, rfl, ?_, ?_⟩
    · obtain ⟨x, hx⟩ := HGR.out
      constructor
      · intro h; cases h
      · intro h; rw [h x] at hx; cases hx
    · have h5 : Sep w0 w' (blkR m 91 #[.pointer (some ⟨a, 0, none⟩), .pointer (some ⟨o.b1, 0, none⟩), .pointer (some ⟨o.b2, 0, none⟩), .pointer (some ⟨o.b3, 0, none⟩)] :: setR o.b1 (n : Int) C.mz :: setR o.b2 (n : Int) C.sc :: greyR o.b3 (ints o.gs) (o.room : Int) o.over :: blkR Y 32 #[.pointer (some ⟨m, 0, none⟩)] :: objR D (.deferred none) :: blkR (T + 1) 4 #[.bool false] :: blkR T 32 #[.pointer (some ⟨m, 0, none⟩)] :: R0) := hS2.front 8 [1, 2, 6, 7, 0, 3, 4, 5]
      exact (h5.perm (perm_mid [_, _, _, _] [_, _, _, _] R0)).right
  rintro D _ W1 ⟨hinv, rfl⟩ hS1
  have y0 := (hS1.blk 4 rfl).cell 0
  have fy0 := (hS1.blk 4 rfl).frozen 0
  simp only [List.getElem?_toArray, List.getElem?_cons_zero, List.getElem?_cons_succ] at y0
  have HINV := Lib.hid hinv
  have HS1 := Lib.hid hS1
  clear hinv hS1 HS3
  gi_wp2
  refine leaves_box (HS1.out.setCell 4 rfl 0 (.bool true)) 3 rfl 4 rfl (by decide) rfl rfl ?_
  intro w' hS2
  refine ⟨true, rfl, ?_, ?_⟩
  · refine ⟨fun _ x => ?_, fun _ => rfl⟩
    cases e : C.grey x with
    | false => rfl
    | true =>
      obtain ⟨h1, h2⟩ := grey_iff.1 e
      have := HINV.out x (mem_elems.2 ⟨(HO.out.mz x h1).2, h1⟩)
      rw [this] at h2
      cases h2
  · have h5 : Sep w0 w' (blkR m 91 #[.pointer (some ⟨a, 0, none⟩), .pointer (some ⟨o.b1, 0, none⟩), .pointer (some ⟨o.b2, 0, none⟩), .pointer (some ⟨o.b3, 0, none⟩)] :: setR o.b1 (n : Int) C.mz :: setR o.b2 (n : Int) C.sc :: greyR o.b3 (ints o.gs) (o.room : Int) o.over :: blkR Y 32 #[.pointer (some ⟨m, 0, none⟩)] :: objR D (.deferred none) :: blkR (T + 1) 4 #[.bool true] :: blkR T 32 #[.pointer (some ⟨m, 0, none⟩)] :: R0) := hS2.front 8 [1, 2, 6, 7, 0, 3, 4, 5]
    exact (h5.perm (perm_mid [_, _, _, _] [_, _, _, _] R0)).right
theorem KDrained (S : Sep w0 w L) (i : Nat) (hi : L[i]? = some (markR m a n C)) : Calls Tryz.prog 23 #[.pointer (some ⟨m, 0, none⟩)] w fun e w' => ∃ b, e = .returned (.bool b) ∧ (b = true ↔ ∀ x, C.grey x = false) ∧ Sep w0 w' L := by
  obtain ⟨o, ho, hs⟩ := mark_open S i hi
  refine (PDrained ho hs).mono ?_
  rintro e w' ⟨b, rfl, hb, hs2⟩
  have := mark_shut ho hs2 hi
  rw [set_self hi] at this
  exact ⟨b, rfl, hb, this⟩
end
end Go.Proofs.YtbcabjpafeocgaaGreat

/-
  The marker (layer 11): the next grey one. Conditions: as the theorem says.
-/
namespace Go.Proofs.YtbcabjpafeocgaaGreat
set_option linter.unusedVariables false
set_option linter.unusedSimpArgs false
open Go.RowKit Go.Shelf

/-- The least number of those that p holds of. -/
noncomputable def leastN (p : Nat → Prop) : Nat := open Classical in if h : ∃ k, p k ∧ ∀ j, p j → k ≤ j then h.choose else 0
theorem leastN_is {p : Nat → Prop} (h : ∃ k, p k) : p (leastN p) ∧ ∀ j, p j → leastN p ≤ j := by
  have h1 : ∃ k, p k ∧ ∀ j, p j → k ≤ j := by
    obtain ⟨k, hk⟩ := h
    induction k using Nat.strongRecOn with
    | _ k ih =>
      by_cases e : ∃ j, j < k ∧ p j
      · obtain ⟨j, h1, h2⟩ := e
        exact ih j h1 h2
      · exact ⟨k, hk, fun j hj => Nat.le_of_not_lt fun hl => e ⟨j, hl, hj⟩⟩
  unfold leastN
  rw [dif_pos h1]
  exact h1.choose_spec
theorem leastN_lt {p q : Nat → Prop} {k : Nat} (h : ∃ k, p k) (hq : q k) (hk : k < leastN p) : leastN q < leastN p :=
  Nat.lt_of_le_of_lt ((leastN_is ⟨k, hq⟩).2 k hq) hk

/-- How far the search for a grey one is from its end. -/
inductive NextK (C : Col) (o : Own3) : Nat → Prop
  | any : NextK C o (o.gs.length + 2)
  | fresh (h : ∀ x ∈ o.gs, C.grey x = true) (hv : o.over = true → o.gs ≠ []) : NextK C o 1

section
variable {w0 w : World} {L R0 : List Res} {m a n : Nat} {C : Col}
def NextJ (w0 : World) (m a n : Nat) (C : Col) (R0 : List Res) (w : World) (k : Nat) : Prop := ∃ o, MarkOk n o C ∧ NextK C o k ∧ Sep w0 w (markParts m a n o C ++ R0)
theorem ok_popGrey {o : Own3} {l : List Nat} {r : Nat} (ho : MarkOk n o C) (h : o.gs = l ++ [r]) (hg : C.grey r = true) : MarkOk n { o with gs := l } (C.scan r) := by
  have hG := ho.grey
  rw [h] at hG
  refine ⟨hG.popScan, ho.room, ho.few, fun x hx => ho.refs x (by rw [h]; exact List.mem_append.2 (.inl hx)), ho.mz, fun x hx => ?_, ho.size⟩
  have hx' : (C.sc x || decide (x = r)) = true := hx
  simp only [Bool.or_eq_true, decide_eq_true_eq] at hx'
  rcases hx' with h1 | rfl
  · exact ho.sc x h1
  · exact (grey_iff.1 hg).1
theorem ok_popOther {o : Own3} {l : List Nat} {r : Nat} (ho : MarkOk n o C) (h : o.gs = l ++ [r]) (hg : C.grey r = false) : MarkOk n { o with gs := l } C := by
  have hG := ho.grey
  rw [h] at hG
  exact ⟨hG.pop hg, ho.room, ho.few, fun x hx => ho.refs x (by rw [h]; exact List.mem_append.2 (.inl hx)), ho.mz, ho.sc, ho.size⟩

set_option maxHeartbeats 2000000 in
theorem PNext {o : Own3} (ho : MarkOk n o C) (S : Sep w0 w (markParts m a n o C ++ R0)) :
    Calls Tryz.prog 59 #[.pointer (some ⟨m, 0, none⟩)] w fun e w' =>
      (∃ (r : Nat) (o : Own3), e = .returned (.tuple #[.int .i64 (r : Int), .bool true]) ∧ C.grey r = true ∧ MarkOk n o (C.scan r) ∧ Sep w0 w' (markParts m a n o C ++ R0)) ∨
      (e = .returned (.tuple #[.int .i64 0, .bool false]) ∧ (∀ x, C.grey x = false) ∧ ∃ o, MarkOk n o C ∧ Sep w0 w' (markParts m a n o C ++ R0)) := by
  have H0 := Lib.hid (show NextJ w0 m a n C R0 w (o.gs.length + 2) from ⟨o, ho, .any, S⟩)
  clear S ho
  go_enter Tryz.func59, Tryz.ntmps59
  go_wp2_with fail
  go_loopw [4] (fun _ wr => ∃ k, NextJ w0 m a n C R0 wr k) (fun _ wr => leastN (NextJ w0 m a n C R0 wr))
  case atStart => exact ⟨_, H0.out⟩
  case round =>
    have HREL := Lib.hid hrel
    obtain ⟨o, ho, hk, hs⟩ := (leastN_is hrel).1
    clear hrel H0
    obtain ⟨kk, hkk⟩ : ∃ kk, leastN (NextJ w0 m a n C R0 wr) = kk := ⟨_, rfl⟩
    rw [hkk] at hk
    have HKK := Lib.hid hkk
    have HK := Lib.hid hk
    have HO := Lib.hid ho
    have c3 := (hs.blk 0 rfl).cell 3
    simp only [List.getElem?_toArray, List.getElem?_cons_zero, List.getElem?_cons_succ] at c3
    obtain ⟨gs, hgs⟩ : ∃ gs, o.gs = gs := ⟨_, rfl⟩
    have HGS := Lib.hid hgs
    unfold markParts at hs
    rw [hgs] at hs
    clear hkk hk ho hgs
    rcases List.eq_nil_or_concat gs with rfl | ⟨l, r, hlr⟩
    · have HC := Lib.hid (TGPopNo hs 3 rfl)
      obtain ⟨ov, hov⟩ : ∃ ov, o.over = ov := ⟨_, rfl⟩
      have HOV := Lib.hid hov
      rw [hov] at hs
      have HS := Lib.hid hs
      have HC2 := Lib.hid (TGOver hs 3 rfl)
      clear hs hov
      cases ov with
      | false =>
        go_wp2_with (first
          | (go_at_call 86; refine (HC.out).mono ?_; rintro e w1 ⟨rfl, rfl⟩; clear HC)
          | (go_at_call 88; refine (HC2.out).mono ?_; rintro e w1 ⟨rfl, rfl⟩; clear HC2))
        go_ret2
        right
        refine ⟨rfl, ?_, o, HO.out, ?_⟩
        · have hG := HO.out.grey
          rw [HGS.out, HOV.out] at hG
          exact hG.empty
        · have := HS.out
          rw [← HOV.out] at this
          unfold markParts
          rw [HGS.out]
          exact this
      | true =>
        have HC3 := Lib.hid (KRefill (w0 := w0) (w := wr) (m := m) (a := a) (R0 := R0) HO.out HGS.out (by
          have := HS.out
          rw [← HOV.out] at this
          unfold markParts
          rw [HGS.out]
          exact this))
        go_wp2_with (first
          | (go_at_call 86; refine (HC.out).mono ?_; rintro e w1 ⟨rfl, rfl⟩; clear HC)
          | (go_at_call 88; refine (HC2.out).mono ?_; rintro e w1 ⟨rfl, rfl⟩; clear HC2)
          | (go_at_call 89; refine (HC3.out).mono ?_; rintro e w2 ⟨rfl, gs, ov, hr, hs⟩; have HR := Lib.hid hr; have HS2 := Lib.hid hs; clear hs hr HC3))
        have hJ : NextJ w0 m a n C R0 w2 1 := ⟨_, HR.out.ok HO.out, .fresh HR.out.grey (fun hv => by
          have h1 := HR.out.full hv
          have h2 := HO.out.room
          intro e
          dsimp only at e
          rw [e] at h1
          simp at h1
          omega), HS2.out⟩
        go_roundw
        case rel => exact ⟨1, hJ⟩
        case measure =>
          refine leastN_lt HREL.out hJ ?_
          rw [HKK.out]
          cases HK.out with
          | any => omega
          | fresh h hv => exact absurd HGS.out (hv HOV.out)
    · rw [List.concat_eq_append] at hlr
      subst hlr
      rw [ints_push] at hs
      have HC := Lib.hid (TGPopYes hs 3 rfl)
      have hrn : r < n := (HO.out.refs r (by rw [HGS.out]; simp)).2
      clear hs
      obtain ⟨g, hg⟩ : ∃ g, C.grey r = g := ⟨_, rfl⟩
      have HG := Lib.hid hg
      clear hg
      cases g with
      | true =>
        go_wp2_with (first
          | (go_at_call 86; refine (HC.out).mono ?_; rintro e w1 ⟨rfl, hs⟩; have HC2 := Lib.hid (PGrey hs 0 1 2 rfl rfl rfl HO.out.size r hrn); clear HC hs)
          | (go_at_call 87; refine (HC2.out).mono ?_; rw [HG.out]; rintro e w2 ⟨rfl, hs⟩; have HS2 := Lib.hid hs; clear hs HC2))
        go_ret2
        exact .inl ⟨r, { o with gs := l }, rfl, HG.out, ok_popGrey HO.out HGS.out HG.out, HS2.out⟩
      | false =>
        go_wp2_with (first
          | (go_at_call 86; refine (HC.out).mono ?_; rintro e w1 ⟨rfl, hs⟩; have HC2 := Lib.hid (PGrey hs 0 1 2 rfl rfl rfl HO.out.size r hrn); clear HC hs)
          | (go_at_call 87; refine (HC2.out).mono ?_; rw [HG.out]; rintro e w2 ⟨rfl, hs⟩; have HS2 := Lib.hid hs; clear hs HC2))
        have hJ : NextJ w0 m a n C R0 w2 (l.length + 2) := ⟨_, ok_popOther HO.out HGS.out HG.out, .any, HS2.out⟩
        go_roundw
        case rel => exact ⟨_, hJ⟩
        case measure =>
          refine leastN_lt HREL.out hJ ?_
          rw [HKK.out]
          cases HK.out with
          | any => rw [HGS.out]; simp
          | fresh h hv =>
            have := h r (by rw [HGS.out]; simp)
            rw [HG.out] at this
            cases this
end
end Go.Proofs.YtbcabjpafeocgaaGreat

/-
  Loops over functions that run in a loop: the marks that they leave in the frame, as one thing. Conditions: no program is named here.
-/
namespace Go.Proofs.YtbcabjpafeocgaaGreat
set_option linter.unusedVariables false
set_option linter.unusedSimpArgs false
open Go.RowKit Go.Shelf

/-- The marks of the loops over functions that ran. -/
def mk (Ds : List Nat) : List Deferred := Ds.map fun D => { target := .collected D, args := #[] }
/-- Their blocks: no call is put off. -/
def marksR (Ds : List Nat) : Res := starR (Ds.map fun D => objR D (.deferred (some [])))

section
variable {P : Program} {w w0 W : World} {R H L : List Res} {Ds : List Nat} {D : Nat}

theorem Sep.noMarks (S : Sep w0 w L) : Sep w0 w (marksR [] :: L) := Sep.shutHead (K := []) S
theorem Sep.addMark (S : Sep w0 w (objR D (.deferred (some [])) :: marksR Ds :: L)) : Sep w0 w (marksR (D :: Ds) :: L) :=
  Sep.shutHead (K := objR D (.deferred (some [])) :: Ds.map fun D => objR D (.deferred (some []))) (S.swap.openHead.perm (perm_mid _ [_] _))
theorem Sep.popMark (S : Sep w0 w (marksR (D :: Ds) :: L)) : Sep w0 w (objR D (.deferred (some [])) :: marksR Ds :: L) :=
  (Sep.shutHead (K := Ds.map fun D => objR D (.deferred (some []))) ((Sep.openHead S).perm (perm_mid [_] _ L))).swap

/-- A loop over a function, in no round, beside marks. -/
theorem wp_rangeM {α : Type} {g : Operand} {ps : Array Tmp} {assign body : Code} {Q : Exit → Act → World → Prop} {t : Array Value}
    {gf : Nat} {lb : Array Value} (hg : (Act.mk t (mk Ds)).eval g = .func (.func gf) #[] lb) (eg : ∀ args w, (callFunc gf args).run P w = .ok (.enter gf args) w)
    {encs : α → Array Value} {xs : List α} {K : List α → List Res} (hit : Iter P gf lb encs xs K) (hps : ∀ x, (encs x).size = ps.size)
    (S : Sep w0 w (K [] ++ (marksR Ds :: R)))
    (Φ : List α → List Res → Prop) (Φx : Code → List α → List Res → Prop) (h0 : Φ [] R)
    (hround : ∀ (l : Nat) (pre : List α) (x : α) (R G : List Res) (W : World) (r : Loop), (pre ++ [x]) <+: xs → Φ pre R → Sep w0 W (K (pre ++ [x]) ++ (objR l (.loop r) :: (R ++ G))) →
      assign.wpIn (Fence.wide.inRound l) 0 P (Exit.then (fun a' W' => ∃ B, Sep w0 W' (K (pre ++ [x]) ++ (objR l (.loop r) :: (B ++ (R ++ G)))) ∧
        ∀ (r' : Loop) (W2 : World), Sep w0 W2 (K (pre ++ [x]) ++ (objR l (.loop r') :: (B ++ (R ++ G)))) → body.wpIn (Fence.wide.inRound l) 0 P (roundS w0 K [objR l (.loop r')] G Φ Φx (pre ++ [x])) a' W2) (fun _ _ _ => False))
        { tmps := (ps.zip (encs x)).foldl (fun t (p, v) => t.setIfInBounds p v) t, defers := [] } W)
    (hdone : ∀ (Ds : List Nat) (R : List Res) (W : World), Φ xs R → Sep w0 W (K xs ++ (marksR Ds :: R)) → Q .normal { tmps := t, defers := mk Ds } W)
    (hstop : ∀ (Ds : List Nat) (c : Code) (pre : List α) (R : List Res) (W : World), pre <+: xs → Φx c pre R → Sep w0 W (K pre ++ (marksR Ds :: R)) → c.wpIn Fence.wide 0 P Q { tmps := t, defers := mk Ds } W) :
    (Code.rangeFunc g ps assign body).wpIn Fence.wide 0 P Q { tmps := t, defers := mk Ds } w := by
  refine wp_range hg eg hit hps S (fun pre Rs => ∃ R, Rs = marksR Ds :: R ∧ Φ pre R) (fun c pre Rs => ∃ R, Rs = marksR Ds :: R ∧ Φx c pre R) ⟨R, rfl, h0⟩ ?_ ?_ ?_
  · rintro l D pre x _ G W r hpre ⟨R, rfl, hΦ⟩ hS
    refine wpIn_mono (hround l pre x R (objR D (.deferred (some [])) :: marksR Ds :: G) W r hpre hΦ ?_) ?_
    · exact hS.perm (List.Perm.append_left _ (List.Perm.cons _ (perm_mid [_, _] R G)))
    · rintro e a' W' he
      cases e with
      | exit _ => exact he
      | goto _ => exact he
      | ret => exact he
      | panic _ => exact he
      | outgrown => exact he
      | normal =>
      obtain ⟨B, hS', hb⟩ := he
      refine ⟨B, hS'.perm (List.Perm.append_left _ (List.Perm.cons _ ?_)), fun r' W2 hS2 => wpIn_mono (hb r' W2 (hS2.perm (List.Perm.append_left _ (List.Perm.cons _ ?_)))) ?_⟩
      · exact (List.Perm.append_left B (perm_mid R [_, _] G)).trans (perm_mid B [_] (marksR Ds :: (R ++ G)))
      · exact (perm_mid [_] B (marksR Ds :: (R ++ G))).trans (List.Perm.append_left B (perm_mid [_, _] R G))
      · rintro e a3 W3 he
        have key : ∀ {R' : List Res}, Sep w0 W3 (K (pre ++ [x]) ++ ([objR l (.loop r')] ++ (R' ++ (objR D (.deferred (some [])) :: marksR Ds :: G)))) → Sep w0 W3 (K (pre ++ [x]) ++ ([objR l (.loop r'), objR D (.deferred (some []))] ++ ((marksR Ds :: R') ++ G))) :=
          fun h => h.perm (List.Perm.append_left _ (List.Perm.cons _ (perm_mid _ [_, _] G)))
        cases e with
        | normal => obtain ⟨R', h1, h2⟩ := he; exact ⟨_, ⟨R', rfl, h1⟩, key h2⟩
        | exit _ => obtain ⟨R', h1, h2⟩ := he; exact ⟨_, ⟨R', rfl, h1⟩, key h2⟩
        | goto _ => obtain ⟨R', h1, h2⟩ := he; exact ⟨_, ⟨R', rfl, h1⟩, key h2⟩
        | ret => obtain ⟨R', h1, h2⟩ := he; exact ⟨_, ⟨R', rfl, h1⟩, key h2⟩
        | panic _ => exact he
        | outgrown => exact he
  · rintro D _ W ⟨R, rfl, hΦ⟩ hS
    exact hdone (D :: Ds) R W hΦ (((hS.perm (perm_mid (K xs) [_, _] R)).addMark).perm (perm_mid [_] (K xs) R))
  · rintro D c pre _ W hpre ⟨R, rfl, hΦ⟩ hS
    exact hstop (D :: Ds) c pre R W hpre hΦ (((hS.perm (perm_mid (K pre) [_, _] R)).addMark).perm (perm_mid [_] (K pre) R))

/-- The return of a function that held such loops. -/
theorem leavesM {fn : Func} {tmps : Array Value} {Rt : Ending → World → Prop} (h : ∀ w', Sep w0 w' L → ∃ v, (results fn tmps).run P w' = .ok v w' ∧ Rt (.returned v) w') :
    ∀ (Ds : List Nat) (w : World), Sep w0 w (marksR Ds :: L) → LeavesInM Fence.wide 0 P fn tmps Rt (mk Ds) .returning w
  | [], w, S => h w (Sep.openHead (K := []) S)
  | D :: Ds, w, S => ⟨by simp, .inl ⟨D, _, rfl, run_takeDeferred (S.popMark.obj (i := 0) rfl), leavesM h Ds _ (S.popMark.putObj 0 rfl (.deferred none)).tail⟩⟩

/-- The slots of S hold what v says. -/
def setS (S : List Nat) (v : Nat → Value) (t : Array Value) : Array Value := S.foldl (fun t n => t.setIfInBounds n (v n)) t

/-- A loop whose rounds write the slots of S, and leave marks. -/
theorem wpIn_loopM {c : Code} {F : Fence} {n : Nat} {Q : Exit → Act → World → Prop} {t : Array Value} (S : List Nat) (J : (Nat → Value) → List Nat → World → Prop) (μ : (Nat → Value) → World → Nat)
    (h0 : J (fun n => t.getD n undef) Ds w) (ht : t = setS S (fun n => t.getD n undef) t)
    (round : ∀ v Ds w, J v Ds w → c.wpIn F n P (Exit.then (fun a' w' => ∃ Ds', a'.defers = mk Ds' ∧ a'.tmps = setS S (fun n => a'.tmps.getD n undef) t ∧ J (fun n => a'.tmps.getD n undef) Ds' w' ∧ μ (fun n => a'.tmps.getD n undef) w' < μ v w) Q) { tmps := setS S v t, defers := mk Ds } w) :
    (Code.loop c).wpIn F n P Q { tmps := t, defers := mk Ds } w := by
  refine wpIn_loop (fun a w => ∃ Ds, a.defers = mk Ds ∧ a.tmps = setS S (fun n => a.tmps.getD n undef) t ∧ J (fun n => a.tmps.getD n undef) Ds w) (fun a w => μ (fun n => a.tmps.getD n undef) w) ⟨Ds, rfl, ht, h0⟩ ?_
  rintro ⟨t', ds'⟩ w ⟨Ds, hd, ht', hJ⟩
  simp only at hd ht' hJ
  subst hd
  have h := round _ Ds w hJ
  rw [← ht'] at h
  refine wpIn_mono h ?_
  rintro e a' w' he
  cases e with
  | normal => obtain ⟨Ds', h1, h2, h3, h4⟩ := he; exact ⟨⟨Ds', h1, h2, h3⟩, h4⟩
  | exit _ => exact he
  | goto _ => exact he
  | ret => exact he
  | panic _ => exact he
  | outgrown => exact he
end
end Go.Proofs.YtbcabjpafeocgaaGreat

/-
  The marker (layer 11): so many grey ones are scanned. Conditions: as the theorem says.
-/
namespace Go.Proofs.YtbcabjpafeocgaaGreat
set_option linter.unusedVariables false
set_option linter.unusedSimpArgs false
open Go.RowKit Go.Shelf
attribute [local go_sem] Oper.semAt_some wide_fn round_fn wide_depth round_depth
attribute [local simp] wide_fn round_fn wide_depth round_depth

theorem shades_push (C : Col) (l : List Nat) (x : Nat) : C.shades (l ++ [x]) = (C.shades l).shade x := by simp [Col.shades]

section
variable {w0 w : World} {L R0 : List Res} {m a n : Nat} {C : Col}
/-- What a trace of k comes to. -/
structure Traced (pts : Nat → List Nat) (k : Nat) (d : Nat) (C C' : Col) : Prop where
  steps : Steps pts d C C'
  most : d ≤ k
  end_ : d < k → ∀ x, C'.grey x = false
set_option maxRecDepth 100000 in
set_option maxHeartbeats 4000000 in
theorem PTrace {A : AR} {O : Nat → Prop} {fs : Nat → List Nat} (hH : Heap A O fs) (hn : A.size = (n : Int)) (hO : ∀ x, C.mz x = true → O x) (S : Sep w0 w (markR m a n C :: arenaR a A :: R0)) (k : Nat) (hk : k ≤ 1000000) :
    Calls Tryz.prog 20 #[.pointer (some ⟨m, 0, none⟩), .int .i64 (k : Int)] w fun e w' => ∃ (d : Nat) (C' : Col), e = .returned (.int .i64 (d : Int)) ∧ Traced (ptsOf fs) k d C C' ∧ Sep w0 w' (markR m a n C' :: arenaR a A :: R0) := by
  obtain ⟨T, hT⟩ : ∃ T, w.heap.size = T := ⟨_, rfl⟩
  have hb : Sep w0 (w.alloc (.cells #[.pointer (some ⟨m, 0, none⟩)] 32)) (marksR [] :: blkR T 32 #[.pointer (some ⟨m, 0, none⟩)] :: markR m a n C :: arenaR a A :: R0) := by
    have := S.box #[.pointer (some ⟨m, 0, none⟩)] 32
    rw [hT] at this
    exact this.noMarks
  have HB := Lib.hid hb
  have HH := Lib.hid hH
  have HN := Lib.hid hn
  have HO := Lib.hid hO
  have hk0 : ¬ (k : Int) < 0 := by omega
  have hk1 : (0 : Int) ≤ (k : Int) := by omega
  clear S hH hn hO hb
  refine calls_wide ?_
  refine callsIn_of_wp_marks Tryz.func20 rfl trivial ?_
  simp only [Tryz.ntmps20, List.size_toArray, List.length_cons, List.length_nil, Nat.reduceAdd, Nat.reduceSub, Array.replicate_succ, Array.replicate_zero, List.push_toArray, List.append_toArray, List.nil_append, List.cons_append]
  gi_wp2
  refine wpIn_loopM (Ds := []) [4, 5, 6, 7, 8, 11, 12, 13, 14, 15, 16, 17, 18, 19, 20, 21, 22, 23, 24, 25, 26, 27, 28, 29, 30, 31, 32, 33, 35, 36, 37, 38] (fun v Ds wr => ∃ (d : Nat) (C1 : Col), d ≤ k ∧ v 11 = .int .i64 d ∧ Steps (ptsOf fs) d C C1 ∧ Sep w0 wr (marksR Ds :: blkR T 32 #[.pointer (some ⟨m, 0, none⟩)] :: markR m a n C1 :: arenaR a A :: R0)) (fun v _ => k + 1 - (intOf (v 11)).toNat) ⟨0, C, by omega, rfl, .zero C, HB.out⟩ (by kernel_rfl) ?_
  clear HB
  rintro v Ds wr ⟨d, C1, hd, hv, hst, hs⟩
  simp only [setS, List.foldl_cons, List.foldl_nil, List.setIfInBounds_toArray, List.set_cons_succ, List.set_cons_zero]
  simp only [hv, hT]
  have z0 := (hs.blk 1 rfl).cell 0
  simp only [List.getElem?_toArray, List.getElem?_cons_zero] at z0
  have HST := Lib.hid hst
  by_cases hlt : d < k
  · have hltI : (d : Int) < (k : Int) := by omega
    obtain ⟨o, ho, hso⟩ := mark_open hs 2 rfl
    have HC := Lib.hid (PNext ho hso)
    clear hst hs ho hso
    gi_wp2_with (first
      | (gi_at_call 59; refine (calls_in HC.out).mono ?_; rintro e w2 hres; rcases hres with ⟨r, o, rfl, hg, ho, hs⟩ | ⟨rfl, hno, o, ho, hs⟩; all_goals (have HOK := Lib.hid ho; have y0 := (hs.blk 5 rfl).cell 0; have s2 := (hs.blk 0 rfl).cell 2; simp only [List.getElem?_toArray, List.getElem?_cons_zero, List.getElem?_cons_succ] at y0 s2; clear ho HC z0))
      | (gi_at_call 49; have hOr : O r := HST.out.within (fun x hx => HH.out.pts hx) HO.out r (grey_iff.1 hg).1; have hrn : r < n := (by have := HH.out.lt hOr; rw [HN.out] at this; omega); have HG := Lib.hid hg; have HOR := Lib.hid hOr; clear hg hOr; refine (calls_in (TSPut hs 2 rfl (by have := HOK.out.size; omega) r (by omega))).mono ?_; clear hs y0 s2; rintro e w3 ⟨rfl, hs⟩; have u0 := (hs.blk 5 rfl).cell 0; have t0 := (hs.blk 0 rfl).cell 0; simp only [List.getElem?_toArray, List.getElem?_cons_zero, List.getElem?_cons_succ] at u0 t0; have HC3 := Lib.hid (CPoints (mark_shutHead HOK.out (show Sep w0 w3 (markParts m a n o (C1.scan r) ++ _) from hs)) a (r : Int)); clear hs)
      | (gi_at_call 45; refine (calls_in HC3.out).mono ?_; rintro e w4 ⟨rfl, hs⟩; have HS4 := Lib.hid hs; clear hs HC3))
    · obtain ⟨P2, hP2⟩ : ∃ P, w3.heap.size = P := ⟨_, rfl⟩
      have hs9 := HS4.out
      simp only [hP2] at hs9 ⊢
      have HS9 := Lib.hid (show Sep w0 w4 ([blkR P2 24 #[.pointer (some ⟨a, 0, none⟩)], blkR (P2 + 1) 34 #[.int .i64 (r : Int)], arenaR a A] ++ (marksR Ds :: blkR T 32 #[.pointer (some ⟨m, 0, none⟩)] :: markR m a n (C1.scan r) :: R0)) from hs9.front 6 [1, 0, 5, 3, 4, 2])
      clear hs9 HS4 u0 t0
      refine wp_rangeM (gf := 72) (lb := #[.pointer (some ⟨P2, 0, none⟩), .pointer (some ⟨P2 + 1, 0, none⟩)]) rfl (enters_of Tryz.func72 (by kernel_rfl) rfl) (hpoints_iter P2 (P2 + 1) a HH.out HOR.out) (fun _ => rfl) HS9.out
        (fun pre Rs => Rs = blkR T 32 #[.pointer (some ⟨m, 0, none⟩)] :: markR m a n ((C1.scan r).shades pre) :: R0) (fun _ _ _ => False) rfl ?round ?done ?stop
      case stop => rintro _ _ _ _ _ _ h; exact h.elim
      case round =>
        rintro l1 pre x _ G V1 r1 hpre rfl hS1
        simp only [List.cons_append, List.nil_append] at hS1
        have hx : O x := HH.out.pts HOR.out x (hpre.subset (by simp))
        have hxn : x < n := by have := HH.out.lt hx; rw [HN.out] at this; omega
        have hx0 : 0 < x := (HH.out.pos hx).1
        have HS1 := Lib.hid hS1
        clear hpre hS1 HS9 hx
        gi_wp2
        refine ⟨[], HS1.out, ?_⟩
        intro r' V2 hS2
        simp only [List.cons_append, List.nil_append] at hS2
        have y0 := (hS2.blk 4 rfl).cell 0
        simp only [List.getElem?_toArray, List.getElem?_cons_zero, List.getElem?_cons_succ] at y0
        have HC := Lib.hid (KShade hS2 5 rfl x hx0 hxn)
        clear hS2 HS1
        gi_wp2_with (gi_at_call 13; refine (calls_round (HC.out)).mono ?_; rintro e w5 ⟨rfl, hs⟩; have HS5 := Lib.hid hs; clear hs HC)
        refine ⟨_, rfl, ?_⟩
        rw [shades_push]
        exact HS5.out
      rintro Ds2 _ V hR hS
      subst hR
      simp only [List.cons_append, List.nil_append] at hS
      have HSD := Lib.hid hS
      clear hS HS9
      gi_wp2
      refine ⟨Ds2, rfl, by kernel_rfl, ⟨d + 1, (C1.scan r).shades (ptsOf fs r), hlt, rfl, HST.out.succ r HG.out, ?_⟩, ?_⟩
      · exact (HSD.out.front 6 [0, 1, 3, 4, 5, 2]).tail.tail
      · show k + 1 - (intOf (.int .i64 ((d : Int) + 1))).toNat < k + 1 - (intOf (.int .i64 (d : Int))).toNat
        simp [intOf]
        omega
    · have HNO := Lib.hid hno
      have HS2 := Lib.hid hs
      clear hs hno y0 s2
      refine leavesM (L := blkR T 32 #[.pointer (some ⟨m, 0, none⟩)] :: markR m a n C1 :: arenaR a A :: R0) (fun w' hs => ⟨_, results_tmp rfl _ _ _, d, C1, rfl, ⟨HST.out, hd, fun _ => HNO.out⟩, hs.tail⟩) Ds w2 ?_
      have := mark_shutHead HOK.out HS2.out
      exact this.front 3 [1, 2, 0]
  · obtain rfl : d = k := by omega
    have HS := Lib.hid hs
    clear hs hst
    gi_wp2
    refine leavesM (L := blkR T 32 #[.pointer (some ⟨m, 0, none⟩)] :: markR m a n C1 :: arenaR a A :: R0) (fun w' hs => ⟨_, results_tmp rfl _ _ _, d, C1, rfl, ⟨HST.out, hd, fun h => absurd h (by omega)⟩, hs.tail⟩) Ds wr HS.out
end
end Go.Proofs.YtbcabjpafeocgaaGreat

/-
  The marker (layer 11): Trace, wherever marker and arena lie; and of less than nothing. Conditions: as the theorem says.
-/
namespace Go.Proofs.YtbcabjpafeocgaaGreat
set_option linter.unusedVariables false
set_option linter.unusedSimpArgs false
open Go.RowKit Go.Shelf
attribute [local go_sem] Oper.semAt_some wide_fn round_fn wide_depth round_depth
attribute [local simp] wide_fn round_fn wide_depth round_depth

section
variable {w0 w : World} {L R0 : List Res} {m a n : Nat} {C : Col}
theorem KTrace {A : AR} {O : Nat → Prop} {fs : Nat → List Nat} (hH : Heap A O fs) (hn : A.size = (n : Int)) (hO : ∀ x, C.mz x = true → O x) (S : Sep w0 w L) (i j : Nat) (hi : L[i]? = some (markR m a n C)) (hj : L[j]? = some (arenaR a A)) (hne : i ≠ j) (k : Nat) (hk : k ≤ 1000000) :
    Calls Tryz.prog 20 #[.pointer (some ⟨m, 0, none⟩), .int .i64 (k : Int)] w fun e w' => ∃ (d : Nat) (C' : Col), e = .returned (.int .i64 (d : Int)) ∧ Traced (ptsOf fs) k d C C' ∧ Sep w0 w' (L.set i (markR m a n C')) := by
  obtain ⟨R, hs, hback⟩ := S.two i j hi hj hne
  refine (PTrace hH hn hO hs k hk).mono ?_
  rintro e w' ⟨d, C', rfl, ht, hs'⟩
  exact ⟨d, C', rfl, ht, hback _ _ hs'⟩
set_option maxRecDepth 100000 in
theorem KTraceNeg (S : Sep w0 w L) (m : Nat) (k : Int) (hk : k < 0) :
    Calls Tryz.prog 20 #[.pointer (some ⟨m, 0, none⟩), .int .i64 k] w fun e w' => e = .returned (.int .i64 0) ∧ Sep w0 w' L := by
  have hb := (S.box #[.pointer (some ⟨m, 0, none⟩)] 32).noMarks
  have hnk : ¬ 0 ≤ k := by omega
  have HB := Lib.hid hb
  clear S hb
  refine calls_wide ?_
  refine callsIn_of_wp_marks Tryz.func20 rfl trivial ?_
  simp only [Tryz.ntmps20, List.size_toArray, List.length_cons, List.length_nil, Nat.reduceAdd, Nat.reduceSub, Array.replicate_succ, Array.replicate_zero, List.push_toArray, List.append_toArray, List.nil_append, List.cons_append]
  gi_wp2
  refine wpIn_loopM (Ds := []) [4, 5, 6, 7, 8, 11, 12, 13, 14, 15, 16, 17, 18, 19, 20, 21, 22, 23, 24, 25, 26, 27, 28, 29, 30, 31, 32, 33, 35, 36, 37, 38] (fun v Ds wr => v 11 = .int .i64 0 ∧ Sep w0 wr (marksR Ds :: blkR w.heap.size 32 #[.pointer (some ⟨m, 0, none⟩)] :: L)) (fun v _ => 0) ⟨rfl, HB.out⟩ (by kernel_rfl) ?_
  clear HB
  rintro v Ds wr ⟨hv, hs⟩
  simp only [setS, List.foldl_cons, List.foldl_nil, List.setIfInBounds_toArray, List.set_cons_succ, List.set_cons_zero]
  simp only [hv]
  have HS := Lib.hid hs
  clear hs
  gi_wp2
  exact leavesM (L := blkR w.heap.size 32 #[.pointer (some ⟨m, 0, none⟩)] :: L) (fun w' hs => ⟨_, results_tmp rfl _ _ _, rfl, hs.tail⟩) Ds wr HS.out
end
end Go.Proofs.YtbcabjpafeocgaaGreat

/-
  fit of layer 11. Conditions: as the theorem says.
-/
namespace Go.Proofs.YtbcabjpafeocgaaGreat
set_option linter.unusedVariables false
set_option linter.unusedSimpArgs false
open Go.RowKit Go.Shelf

theorem Heap.born {A A' : AR} {O : Nat → Prop} {fs : Nat → List Nat} {r n : Nat} (h : Heap A O fs) (hN : NewIs A n r A') : Heap A' (fun y => O y ∨ y = r) (updT fs r (List.replicate n 0)) := by
  have hr : ∀ y, O y → y ≠ r := by
    intro y hy
    obtain ⟨x, ho⟩ := h.obj y hy
    exact (hN.old _ _ _ ho).2
  refine ⟨hN.wf, ?_, ?_⟩
  · intro y hy
    rcases hy with h1 | rfl
    · obtain ⟨x, ho⟩ := h.obj y h1
      refine ⟨x, ?_⟩
      simp only [updT, hr y h1, if_false]
      exact (hN.old _ _ _ ho).1
    · refine ⟨0, ?_⟩
      simp only [updT, if_true, List.map_replicate]
      exact hN.obj
  · intro y hy z hz
    rcases hy with h1 | rfl
    · simp only [updT, hr y h1, if_false] at hz
      rcases h.closed y h1 z hz with h2 | h2
      · exact .inl h2
      · exact .inr (.inl h2)
    · simp only [updT, if_true] at hz
      exact .inl (List.mem_replicate.1 hz).2
theorem heap_new (m : Nat) (ids : Nat × Nat × Nat) (hm : m ≤ 64) : Heap (AR.new m ids) (fun _ => False) (fun _ => []) := ⟨AR.new_wf m ids hm, fun _ h => h.elim, fun _ h => h.elim⟩
theorem size_n {A : AR} {m : Nat} (h : A.n = m) : A.size = ((m * 32 + 1 : Nat) : Int) := by
  unfold AR.size
  rw [h]
/-- One grey one is scanned. -/
theorem trace_one {pts : Nat → List Nat} {d x : Nat} {C' : Col} (h : Traced pts 1 d (Col.white.shade x) C') : d = 1 ∧ C' = ((Col.white.shade x).scan x).shades (pts x) := by
  obtain ⟨hs, hm, he⟩ := h
  have hg : ∀ r, (Col.white.shade x).grey r = true → r = x := by
    intro r hr
    obtain ⟨h1, _⟩ := grey_iff.1 hr
    simpa [Col.white, Col.shade] using h1
  have hx : (Col.white.shade x).grey x = true := by simp [Col.white, Col.shade, Col.grey]
  cases hs with
  | zero => have := he (by omega) x; rw [hx] at this; cases this
  | @succ d' _ C1 r hs hr =>
    have hd : d' = 0 := by omega
    subst hd
    cases hs with
    | zero =>
      have := hg r hr
      subst this
      exact ⟨rfl, rfl⟩
end Go.Proofs.YtbcabjpafeocgaaGreat

/-
  A region that draws its order, in a round of a loop over a function: reads in any order, and then the rest, one behind the other. Conditions: no program is named here.
-/
namespace Go.Proofs.YtbcabjpafeocgaaGreat
set_option linter.unusedVariables false
set_option linter.unusedSimpArgs false
open Go.RowKit Go.Shelf

section
variable {P : Program} {ops : Array Oper} {Q : Exit → Act → World → Prop} {md : Region.Mode} {l₀ : Nat}

theorem rowsIn_of {row : String} {args : Array Value} {w : World} {R : Value → World → Prop} (h : Rows P row args w R) : RowsIn (Fence.wide.inRound l₀) 0 P row args w R :=
  fun c cs _ => let ⟨v, w', r, s⟩ := h c cs; ⟨v, w', r, stepsIn_wide.2 s⟩
theorem wpIn_of_wp {o : Oper} {a : Act} {w : World} {K : Act → World → Prop} (hnd : ∀ c, o.op ≠ .defer c) (h : o.wp P a w K Q) : o.wpIn (Fence.wide.inRound l₀) 0 P a w K Q := by
  unfold Oper.wp at h
  unfold Oper.wpIn
  refine ⟨fun f _ => trivial, ?_⟩
  rw [Oper.semAt_eq _ _ _ hnd]
  generalize (execOp a.eval o).run P w = r at *
  cases r with
  | ok x w' =>
    have hd : Fence.wide.depth.isSome = true → 1 ≤ 0 := fun hd => (by have h0 : (Option.isSome (none : Option Nat)) = true := hd; cases h0)
    cases x <;> first
      | exact h
      | exact ⟨hd, calls_round h⟩
      | exact ⟨hd, rowsIn_of h⟩
      | exact h.elim
  | halt x w' => cases x <;> exact h
theorem wpAnyIn_of_wpAny (hnd : ∀ (i : Nat) (o : Oper), ops[i]? = some o → ∀ c, o.op ≠ .defer c) (hout : ∀ a w, ¬ Q .outgrown a w) :
    ∀ (fuel : Nat) (listed : Array Bool) (a : Act) (w : World), wpAny P md ops Q fuel listed a w → wpAnyIn (Fence.wide.inRound l₀) 0 P md ops Q fuel listed a w
  | 0, _, _, _, h => h
  | fuel + 1, listed, a, w, h => by
    refine ⟨h.1, fun i hi => ?_⟩
    have h2 := h.2 i hi
    unfold wpOp at h2
    unfold wpOpIn
    cases ho : ops[i]? with
    | none =>
      simp only [ho] at h2 ⊢
      exact wpAnyIn_of_wpAny hnd hout fuel _ _ _ h2
    | some o =>
      simp only [ho] at h2 ⊢
      split
      · rename_i hw
      
        rw [if_pos hw] at h2
        rcases h2 with h3 | ⟨_, a', w', h3⟩
        · exact wpIn_of_wp (hnd i o ho) (Oper.wp_mono (fun a w => wpAnyIn_of_wpAny hnd hout fuel _ a w) h3)
        · exact absurd h3 (hout a' w')
      · rename_i hw
        rw [if_neg hw] at h2
        exact ⟨fun f _ => trivial, wpAnyIn_of_wpAny hnd hout fuel _ _ _ h2⟩

theorem wpIn_region_still_tail {id : Nat} {a : Act} {w : World} {l : List Oper} (n : Nat) (hm : P.follows .mixedOrders = true) (hB : Region.lexTailB .any l.toArray n = true)
    (hnd : (l.all fun o => match o.op with | .defer _ => false | _ => true) = true) (hout : ∀ a w, ¬ Q .outgrown a w)
    (h : wpStill P l.toArray { w with drawn := w.drawn + 1 } (fun a' => wpList P l.toArray Q (l.drop n) a' { w with drawn := w.drawn + 1 }) (l.take n) a) : (Code.region id l.toArray true).wpIn (Fence.wide.inRound l₀) 0 P Q a w := by
  simp only [Region.lexTailB, Bool.and_eq_true, decide_eq_true_eq] at hB
  obtain ⟨⟨⟨⟨hsel, hn⟩, hs⟩, hc⟩, hlex⟩ := hB
  have hn' : n < l.length := by simpa using hn
  have htl : (l.take n).length = n := by simp; omega
  have hdl : (l.drop n).length = l.toArray.size - n := by simp
  have inv0 : HeadInv .any l.toArray n (Array.replicate l.toArray.size false) :=
    ⟨by simp, fun j oj _ hl => (by rw [getD_replicate_false] at hl; cases hl), fun t _ ht => getD_in (by simpa using ht) (getD_replicate_false _ _)⟩
  have H := wpAnyL_lex (md := .any) (g := l.toArray.size - n) hsel hs hc hn (l.take n) 0 _ a (fun j hj => by
    have hj' : j < n := by rw [htl] at hj; exact hj
    simp [hj']) (by simpa using htl) inv0 (by rw [htl]; exact hlex) h
  refine wpIn_region_any hm (wpAnyIn_of_wpAny ?_ hout _ _ _ _ ?_)
  · intro i o ho c he
    have hmem : o ∈ l := by
      rw [List.getElem?_toArray] at ho
      exact List.mem_of_getElem? ho
    have := List.all_eq_true.1 hnd o hmem
    rw [he] at this
    cases this
  · have := wpAny_of_head (Q' := Q) (g := l.toArray.size - n) (fun listed a' hL => by
      have := wpAny_of_seq (md := .any) (Q' := Q) (l.drop n) n listed a' { w with drawn := w.drawn + 1 } (fun j => by simp [List.getElem?_drop]) (by rw [hdl]; exact hL.1) hL.2
      rwa [hdl] at this) _ _ _ H
    rw [htl, show n + (l.toArray.size - n) = l.toArray.size by omega] at this
    exact this
end
end Go.Proofs.YtbcabjpafeocgaaGreat

/-
  A region that draws its order: reads that may come up at any time, and a chain of operations that change memory. Conditions: no program is named here.
-/
namespace Go.Proofs.YtbcabjpafeocgaaGreat
set_option linter.unusedVariables false
set_option linter.unusedSimpArgs false
open Go.RowKit Go.Shelf

section
variable {P : Program} {ops : Array Oper} {Q : Exit → Act → World → Prop} {md : Region.Mode} {C : World → Prop} {l₀ : Nat}

/-- In state a and world w the operation yields v, and leaves the world as it is. -/
def yieldsAt (P : Program) (o : Oper) (a : Act) (v : Value) (w : World) : Prop :=
  match (execOp a.eval o).run P w with
  | .ok (.value u) w' => u = v ∧ w' = w
  | .ok (.enter f args) w' => w' = w ∧ Calls P f args w (fun e w'' => e = .returned v ∧ w'' = w)
  | _ => False
def YieldsC (C : World → Prop) (P : Program) (ops : Array Oper) (o : Oper) (v : Value) (a : Act) : Prop :=
  (Region.wanted o (yielded ops a.tmps) = true ∧ ∀ w, C w → yieldsAt P o a v w) ∨ (Region.wanted o (yielded ops a.tmps) = false ∧ v = undef)

theorem YieldsC.wpOp {i : Nat} {o : Oper} {v : Value} {a : Act} (hi : ops[i]? = some o) (hy : YieldsC C P ops o v a)
    {K : Act → World → Prop} {w : World} (hC : C w) (h : K (a.put o.dst v) w) : wpOp P ops Q i K a w := by
  unfold Go.wpOp
  simp only [hi]
  rcases hy with ⟨hw, hv⟩ | ⟨hw, rfl⟩
  · simp only [hw, if_true]
    left
    have h1 := hv w hC
    unfold yieldsAt at h1
    unfold Oper.wp
    generalize (execOp a.eval o).run P w = r at *
    cases r with
    | ok x w' =>
      cases x with
      | value u => obtain ⟨rfl, rfl⟩ := h1; exact h
      | enter f args =>
        obtain ⟨rfl, hc⟩ := h1
        refine Calls.mono hc ?_
        rintro e w'' ⟨rfl, rfl⟩
        exact h
      | _ => exact h1.elim
    | halt x w' => exact h1.elim
  · simp only [hw, Bool.false_eq_true, if_false]; exact h
theorem YieldsC.of_same {o : Oper} {v : Value} {a a' : Act} (hy : YieldsC C P ops o v a) (he : execOp a'.eval o = execOp a.eval o)
    (hw : Region.wanted o (yielded ops a'.tmps) = Region.wanted o (yielded ops a.tmps)) : YieldsC C P ops o v a' := by
  unfold YieldsC yieldsAt at *
  rw [he, hw]
  exact hy
theorem wpOp_putC {j : Nat} {oi oj : Oper} {v : Value} (hj : ops[j]? = some oj) (hap : oi.apart ops oj = true)
    (hsi : ∀ cs b, oi.op ≠ .select cs b) (hsj : ∀ cs b, oj.op ≠ .select cs b)
    (hQ : ∀ c a w, Q (.panic c) (a.put oi.dst v) w → Q (.panic c) a w) {K : Act → World → Prop} {a : Act} {w : World}
    (hy : YieldsC C P ops oi v a) (h : wpOp P ops Q j K (a.put oi.dst v) w) :
    wpOp P ops Q j (fun a' w' => YieldsC C P ops oi v a' ∧ K (a'.put oi.dst v) w') a w := by
  obtain ⟨h1, h2, h3⟩ := Oper.apart_spec hap
  have keep : ∀ (a : Act), YieldsC C P ops oi v a → ∀ u, YieldsC C P ops oi v (a.put oj.dst u) := fun a hy u =>
    hy.of_same (execOp_put oi hsi a oj.dst u h3) (wanted_put oi a oj.dst u h3)
  have keepD : ∀ d, YieldsC C P ops oi v { a with defers := d :: a.defers } := fun d => hy.of_same rfl rfl
  unfold wpOp at *
  simp only [hj] at *
  rw [wanted_put oj a oi.dst v h1] at h
  split
  · rename_i hw
    simp only [hw, if_true] at h
    rcases h with h | ⟨hasks, hlets⟩
    case inr => exact .inr ⟨by unfold Oper.asks at *; rw [execOp_put oj hsj a oi.dst v h1] at hasks; exact hasks, hlets⟩
    refine .inl ?_
    unfold Oper.wp at *
    rw [execOp_put oj hsj a oi.dst v h1] at h
    generalize (execOp a.eval oj).run P w = r at *
    cases r with
    | ok n w' =>
      cases n <;> simp only [Oper.upon] at h ⊢
      case value u => exact ⟨keep a hy u, by rw [← Act.put_comm a v u h2]; exact h⟩
      case skip => exact ⟨keep a hy _, by rw [← Act.put_comm a v undef h2]; exact h⟩
      case «defer» d =>
        refine ⟨keep _ (keepD d) _, ?_⟩
        rw [← Act.put_comm _ v undef h2, ← Act.put_defers]
        exact h
      case enter f args =>
        refine Calls.mono h fun e w'' he => ?_
        cases e with
        | returned u => exact ⟨keep a hy u, by rw [← Act.put_comm a v u h2]; exact he⟩
        | panicked c => exact hQ _ _ _ he
        | outgrown => exact he
      case row row args => exact Rows.mono h fun u w'' he => ⟨keep a hy u, by rw [← Act.put_comm a v u h2]; exact he⟩
    | halt x w' =>
      cases x <;> simp only [Oper.upon] at h ⊢
      case panic u => exact hQ _ _ _ h
  · rename_i hw
    simp only [hw] at h
    exact ⟨keep a hy _, by rw [← Act.put_comm a v undef h2]; exact h⟩

/-- Whatever order is picked from here on, in worlds of the class. -/
def wpAnyC (C : World → Prop) (P : Program) (md : Region.Mode) (ops : Array Oper) (Q : Exit → Act → World → Prop) : Nat → Array Bool → Act → World → Prop
  | 0, listed, a, w => C w ∧ Region.ready md ops listed = [] ∧ Q .normal a w
  | fuel + 1, listed, a, w => C w ∧ (Region.ready md ops listed = [] → Q .normal a w) ∧
    ∀ i ∈ Region.ready md ops listed, wpOp P ops Q i (wpAnyC C P md ops Q fuel (listed.setIfInBounds i true)) a w
theorem wpAnyC.cls : ∀ {fuel : Nat} {listed : Array Bool} {a : Act} {w : World}, wpAnyC C P md ops Q fuel listed a w → C w
  | 0, _, _, _, h => h.1
  | _ + 1, _, _, _, h => h.1
theorem wpAnyC.any : ∀ (fuel : Nat) (listed : Array Bool) (a : Act) (w : World), wpAnyC C P md ops Q fuel listed a w → wpAny P md ops Q fuel listed a w
  | 0, _, _, _, h => h.2
  | fuel + 1, listed, a, w, h => ⟨h.2.1, fun i hi => wpOp_mono (fun a' w' => wpAnyC.any fuel _ a' w') (h.2.2 i hi)⟩
theorem wpAnyC_first {i : Nat} {oi : Oper} {v : Value} (hi : ops[i]? = some oi) (hsel : ∀ (j : Nat) (o : Oper) cs b, ops[j]? = some o → o.op ≠ .select cs b)
    (hQ : ∀ c a w, Q (.panic c) (a.put oi.dst v) w → Q (.panic c) a w) :
    ∀ (fuel : Nat) (listed : Array Bool) (a : Act) (w : World),
      (∀ j oj, ops[j]? = some oj → j ≠ i → listed.getD j true = false → (∀ e ∈ oj.after, Region.binds md e = true → e.on ≠ i) → oi.apart ops oj = true) →
      i ∈ Region.ready md ops listed → YieldsC C P ops oi v a →
      wpAnyC C P md ops Q fuel (listed.setIfInBounds i true) (a.put oi.dst v) w → wpAnyC C P md ops Q (fuel + 1) listed a w := by
  intro fuel
  induction fuel with
  | zero =>
    intro listed a w _ hr hy H
    refine ⟨H.cls, fun h => (by rw [h] at hr; cases hr), fun j hj => ?_⟩
    by_cases hji : j = i
    · subst hji; exact hy.wpOp hi H.cls H
    · have := ready_mono hj hji
      rw [H.2.1] at this
      cases this
  | succ fuel ih =>
    intro listed a w hfree hr hy H
    refine ⟨H.cls, fun h => (by rw [h] at hr; cases hr), fun j hj => ?_⟩
    by_cases hji : j = i
    · subst hji; exact hy.wpOp hi H.cls H
    · have h1 := H.2.2 j (ready_mono hj hji)
      obtain ⟨hjun, oj, hoj, hall⟩ := mem_ready.1 hj
      have hnot : ∀ e ∈ oj.after, Region.binds md e = true → e.on ≠ i := fun e he hb heq => by
        have h1 := hall e he hb
        have h0 := (mem_ready.1 hr).1
        rw [heq] at h1
        rcases Nat.lt_or_ge i listed.size with h' | h'
        · simp [h'] at h0 h1; rw [h0] at h1; cases h1
        · simp [Array.getElem?_eq_none h'] at h1
      have h2 := wpOp_putC hoj (hfree j oj hoj hji hjun hnot) (fun cs b => hsel i oi cs b hi) (fun cs b => hsel j oj cs b hoj) hQ hy h1
      have hfree' : ∀ k ok, ops[k]? = some ok → k ≠ i → (listed.setIfInBounds j true).getD k true = false →
          (∀ e ∈ ok.after, Region.binds md e = true → e.on ≠ i) → oi.apart ops ok = true := fun k ok hk hki hun hno => by
        refine hfree k ok hk hki ?_ hno
        by_cases hjk : j = k
        · subst hjk; exact hjun
        · rw [getD_set_ne true hjk] at hun; exact hun
      refine wpOp_mono (fun a' w' h3 => ih (listed.setIfInBounds j true) a' w' hfree' (ready_mono hr (Ne.symm hji)) h3.1 ?_) h2
      rw [Array.setIfInBounds_comm _ _ hji]
      exact h3.2
/-- A read is taken first. -/
theorem wpAnyC_take {i : Nat} {oi : Oper} {v : Value} {fuel : Nat} {listed : Array Bool} {a : Act} {w : World} (hi : ops[i]? = some oi)
    (hs : Region.noSelect ops = true) (hf : Region.free md ops listed i = true) (hr : (Region.ready md ops listed).contains i = true)
    (hQ : ∀ c a w, Q (.panic c) (a.put oi.dst v) w → Q (.panic c) a w) (hy : YieldsC C P ops oi v a)
    (h : wpAnyC C P md ops Q fuel (listed.setIfInBounds i true) (a.put oi.dst v) w) : wpAnyC C P md ops Q (fuel + 1) listed a w :=
  wpAnyC_first hi (Region.noSelect_spec hs) hQ fuel listed a w (Region.free_spec hi hf) (by simpa using hr) hy h
/-- One operation alone may come up. -/
theorem wpAnyC_one {i : Nat} {oi : Oper} {fuel : Nat} {listed : Array Bool} {a : Act} {w : World} (hi : ops[i]? = some oi) (hr : Region.ready md ops listed = [i]) (hC : C w)
    (hw : Region.wanted oi (yielded ops a.tmps) = true) (h : ∀ K : Act → World → Prop, (∀ a w, wpAnyC C P md ops Q fuel (listed.setIfInBounds i true) a w → K a w) → oi.wp P a w K Q) : wpAnyC C P md ops Q (fuel + 1) listed a w := by
  refine ⟨hC, fun h0 => (by rw [hr] at h0; cases h0), fun j hj => ?_⟩
  rw [hr] at hj
  simp at hj
  subst hj
  unfold wpOp
  simp only [hi, hw, if_true]
  exact .inl (h _ (fun _ _ h => h))
/-- Two operations may come up. -/
theorem wpAnyC_two {i j : Nat} {oi oj : Oper} {fuel : Nat} {listed : Array Bool} {a : Act} {w : World} (hi : ops[i]? = some oi) (hj : ops[j]? = some oj) (hr : Region.ready md ops listed = [i, j]) (hC : C w)
    (hwi : Region.wanted oi (yielded ops a.tmps) = true) (hwj : Region.wanted oj (yielded ops a.tmps) = true)
    (h : ∀ K : Act → World → Prop, (∀ a w, wpAnyC C P md ops Q fuel (listed.setIfInBounds i true) a w → K a w) → oi.wp P a w K Q) (h2 : ∀ K : Act → World → Prop, (∀ a w, wpAnyC C P md ops Q fuel (listed.setIfInBounds j true) a w → K a w) → oj.wp P a w K Q) : wpAnyC C P md ops Q (fuel + 1) listed a w := by
  refine ⟨hC, fun h0 => (by rw [hr] at h0; cases h0), fun k hk => ?_⟩
  rw [hr] at hk
  simp at hk
  rcases hk with rfl | rfl
  · unfold wpOp
    simp only [hi, hwi, if_true]
    exact .inl (h _ (fun _ _ h => h))
  · unfold wpOp
    simp only [hj, hwj, if_true]
    exact .inl (h2 _ (fun _ _ h => h))
theorem wpAnyC_done {listed : Array Bool} {a : Act} {w : World} (hr : Region.ready md ops listed = []) (hC : C w) (h : Q .normal a w) : ∀ fuel, wpAnyC C P md ops Q fuel listed a w
  | 0 => ⟨hC, hr, h⟩
  | _ + 1 => ⟨hC, fun _ => h, by rw [hr]; simp⟩
theorem wp_region_float (C : World → Prop) {id : Nat} {a : Act} {w : World} (hm : P.follows .mixedOrders = true)
    (h : wpAnyC C P .any ops Q ops.size (Array.replicate ops.size false) a w.drew) : (Code.region id ops true).wp P Q a w :=
  wp_region_any hm (wpAnyC.any _ _ _ _ h)
theorem wpIn_region_float (C : World → Prop) {id : Nat} {a : Act} {w : World} {l : List Oper} (hm : P.follows .mixedOrders = true)
    (hnd : (l.all fun o => match o.op with | .defer _ => false | _ => true) = true) (hout : ∀ a w, ¬ Q .outgrown a w)
    (h : wpAnyC C P .any l.toArray Q l.length (Array.replicate l.length false) a w.drew) : (Code.region id l.toArray true).wpIn (Fence.wide.inRound l₀) 0 P Q a w := by
  refine wpIn_region_any hm (wpAnyIn_of_wpAny ?_ hout _ _ _ _ (wpAnyC.any (C := C) _ _ _ _ ?_))
  · intro i o ho c he
    have hmem : o ∈ l := by
      rw [List.getElem?_toArray] at ho
      exact List.mem_of_getElem? ho
    have := List.all_eq_true.1 hnd o hmem
    rw [he] at this
    cases this
  · exact h
theorem calmP {c : Code} {a : Act} {w : World} (h : c.wp P (Exit.then (Q .normal) (fun _ _ _ => False)) a w) : c.wp P Q a w := wpIn_wide.1 (calm (n := 0) (wpIn_wide.2 h))
/-- A call whose contract is known. -/
theorem wp_call_of {o : Oper} {a : Act} {w : World} {f : FuncId} {args : Array Value} {v : Value} {R : World → Prop} {K : Act → World → Prop} (hrun : (execOp a.eval o).run P w = .ok (.enter f args) w) (hc : Calls P f args w fun e w' => e = .returned v ∧ R w')
    (hK : ∀ w', R w' → K (a.put o.dst v) w') : o.wp P a w K Q := by
  unfold Oper.wp
  rw [hrun]
  refine Calls.mono hc ?_
  rintro e w' ⟨rfl, hr⟩
  exact hK w' hr
/-- An operation whose run is known. -/
theorem wp_of_run {o : Oper} {a : Act} {w w' : World} {v : Value} {K : Act → World → Prop} (hrun : (execOp a.eval o).run P w = .ok (.value v) w') (hK : K (a.put o.dst v) w') : o.wp P a w K Q := by
  unfold Oper.wp
  rw [hrun]
  exact hK
theorem wp_append_run {o : Oper} {a : Act} {w w' : World} {K : Act → World → Prop} (s x : Operand) (t : TypeId) (hop : o.op = Op.call { callee := Callee.builtin Builtin.append, args := #[s, x], argTypes := #[t, t] }) {vs vx v : Value} (hs : a.eval s = vs) (hx : a.eval x = vx) (hrun : (Builtin.append_ #[t, t] o.type #[vs, vx]).run P w = .ok v w') (hK : K (a.put o.dst v) w') : o.wp P a w K Q := by
  refine wp_of_run (v := v) (w' := w') ?_ hK
  simp [execOp, hop, resolve, invoke, builtin, hs, hx, hrun, Result.andThen]
theorem wp_mapUpdate_run {o : Oper} {a : Act} {w w' : World} {K : Act → World → Prop} (m x y : Operand) (t : TypeId) (hop : o.op = Op.mapUpdate t m x y) {vm vx vy : Value} (hm : a.eval m = vm) (hx : a.eval x = vx) (hy : a.eval y = vy) (hrun : (Instr.mapUpdate t vm vx vy).run P w = .ok () w') (hK : K (a.put o.dst undef) w') : o.wp P a w K Q := by
  unfold Oper.wp
  simp [execOp, hop, hm, hx, hy, hrun, Result.andThen]
  exact hK
end
end Go.Proofs.YtbcabjpafeocgaaGreat

/-
  Regions that draw their order, whose operations and calls leave the things in memory as they were. Conditions: no program is named here.
-/
namespace Go.Proofs.YtbcabjpafeocgaaGreat
set_option linter.unusedVariables false
set_option linter.unusedSimpArgs false
open Go.RowKit Go.Shelf

/-- A world in which these things lie. -/
structure SepW (w0 : World) (L : List Res) where
  w' : World
  h : Sep w0 w' L

section
variable {P : Program} {id : Nat} {Q : Exit → Act → World → Prop} {a : Act} {w w0 : World} {L : List Res} {l : List Oper}

theorem region_sep (S : Sep w0 w L) (hm : P.follows .mixedOrders = true) (hB : Region.lexB .any l.toArray = true)
    (h : Nonempty (SepW w0 L) → wpQuiet P l.toArray (fun w' => ∃ x : SepW w0 L, w' = x.w') (fun a' => ∀ w', (∃ x : SepW w0 L, w' = x.w') → Q .normal a' w') l a) : (Code.region id l.toArray true).wp P Q a w :=
  wp_region_quiet (C := fun w' => ∃ x : SepW w0 L, w' = x.w') hm hB ⟨⟨_, S.drew⟩, rfl⟩ (by simpa using h ⟨⟨_, S⟩⟩)
theorem regionIn_sep (S : Sep w0 w L) (hm : P.follows .mixedOrders = true) (hB : Region.lexB .any l.toArray = true)
    (h : Nonempty (SepW w0 L) → wpQuietIn Fence.wide 0 P l.toArray (fun w' => ∃ x : SepW w0 L, w' = x.w') (fun a' => ∀ w', (∃ x : SepW w0 L, w' = x.w') → Q .normal a' w') l a) : (Code.region id l.toArray true).wpIn Fence.wide 0 P Q a w :=
  wpIn_region_quiet (C := fun w' => ∃ x : SepW w0 L, w' = x.w') rfl hm hB ⟨⟨_, S.drew⟩, rfl⟩ (by simpa using h ⟨⟨_, S⟩⟩)

theorem sep_calls {f : FuncId} {args : Array Value} {x : SepW w0 L} {v : Value} (h : Calls P f args x.w' fun e w' => e = .returned v ∧ Sep w0 w' L) :
    Calls P f args x.w' fun e w'' => e = .returned v ∧ ∃ y : SepW w0 L, w'' = y.w' :=
  h.mono fun _ w'' ⟨he, hc⟩ => ⟨he, ⟨w'', hc⟩, rfl⟩
theorem same_calls {f : FuncId} {args : Array Value} {x : SepW w0 L} {v : Value} (h : Calls P f args x.w' fun e w' => e = .returned v ∧ x.w' = w') :
    Calls P f args x.w' fun e w'' => e = .returned v ∧ ∃ y : SepW w0 L, w'' = y.w' :=
  h.mono fun _ w'' ⟨he, hc⟩ => ⟨he, x, hc.symm⟩
theorem sep_calls_in {f : FuncId} {args : Array Value} {x : SepW w0 L} {v : Value} (h : Calls P f args x.w' fun e w' => e = .returned v ∧ Sep w0 w' L) :
    CallsIn Fence.wide 0 P f args x.w' fun e w'' => e = .returned v ∧ ∃ y : SepW w0 L, w'' = y.w' := calls_in (sep_calls h)
theorem same_calls_in {f : FuncId} {args : Array Value} {x : SepW w0 L} {v : Value} (h : Calls P f args x.w' fun e w' => e = .returned v ∧ x.w' = w') :
    CallsIn Fence.wide 0 P f args x.w' fun e w'' => e = .returned v ∧ ∃ y : SepW w0 L, w'' = y.w' := calls_in (same_calls h)
end
end Go.Proofs.YtbcabjpafeocgaaGreat

/-
  The contract of layer 11's Made. Conditions: as the theorem says.
-/
namespace Go.Proofs.YtbcabjpafeocgaaGreat
set_option linter.unusedVariables false
set_option linter.unusedSimpArgs false
open Go.RowKit Go.Shelf Go.Maps
attribute [local go_sem] Oper.semAt_some wide_fn round_fn wide_depth round_depth
attribute [local simp] wide_fn round_fn wide_depth round_depth

theorem keyRef : Keyed Tryz.prog 34 := int_keyed (q := .i64) Tryz.underlying34
theorem keyOfRef {x : Nat} (hx : x ≤ 1000000) : keyOf Tryz.prog 34 (.int .i64 (x : Int)) = some (litR x) :=
  keyOf_int_mk Tryz.underlying34 (by
    simp only [Lit.wf, Bool.and_eq_true, decide_eq_true_eq]
    rw [show IntKind.i64.min = -9223372036854775808 from by decide, show IntKind.i64.max = 9223372036854775807 from by decide]
    omega)
theorem zeroRow (w : World) : (zeroValue 25).run Tryz.prog w = .ok (.slice none 0 0) w := by
  obtain ⟨i, hi, hz⟩ := Option.map_eq_some_iff.1 (show (Tryz.prog.info? 25).map (fun i => i.zero) = some (some (.slice none 0 0)) by kernel_rfl)
  simp [zeroValue, typeInfo, hi, hz]

/-- Where those of the first q point. -/
def seen (rs : List Nat) (fs : Nat → List Nat) (q : Nat) : Nat → List Nat := fun x => if x ∈ rs.take q then ptsOf fs x else []
theorem seen_none (rs : List Nat) (fs : Nat → List Nat) : seen rs fs 0 = fun _ => [] := by funext x; simp [seen]
theorem take_succ_mem {rs : List Nat} {q x : Nat} (h : rs[q]? = some x) (y : Nat) : y ∈ rs.take (q + 1) ↔ y ∈ rs.take q ∨ y = x := by
  rw [List.take_add_one, h]; simp
theorem nodup_take {rs : List Nat} {q x : Nat} (hn : rs.Nodup) (h : rs[q]? = some x) : x ∉ rs.take q := by
  intro hm
  obtain ⟨j, hj, he⟩ := List.getElem_of_mem hm
  rw [List.length_take] at hj
  rw [List.getElem_take] at he
  obtain ⟨hq, hx⟩ := List.getElem?_eq_some_iff.1 h
  have := (List.getElem_inj (h₀ := by omega) (h₁ := hq) hn).1 (he.trans hx.symm)
  omega
theorem seen_new {rs : List Nat} {q x : Nat} (hn : rs.Nodup) (h : rs[q]? = some x) (fs : Nat → List Nat) : updT (seen rs fs q) x [] = seen rs fs q := by
  funext y
  by_cases e : y = x
  · subst e; simp [updT, seen, nodup_take hn h]
  · simp [updT, e]
theorem seen_next {rs : List Nat} {q x : Nat} (hn : rs.Nodup) (h : rs[q]? = some x) (fs : Nat → List Nat) : updT (seen rs fs q) x (ptsOf fs x) = seen rs fs (q + 1) := by
  funext y
  by_cases e : y = x
  · subst e; simp [updT, seen, (take_succ_mem h y).2]
  · simp [updT, e, seen, take_succ_mem h]
theorem seen_all {A : AR} {rs : List Nat} {fs : Nat → List Nat} (h : Gr A rs fs) {n : Nat} (hl : rs.length = n) : seen rs fs n = ptsOf fs := by
  funext y
  unfold seen
  rw [← hl, List.take_length]
  by_cases hy : y ∈ rs
  · rw [if_pos hy]
  · rw [if_neg hy, h.ptsOut hy]
theorem updT_twice (T : Nat → List Nat) (x : Nat) (a b : List Nat) : updT (updT T x a) x b = updT T x b := by funext y; by_cases e : y = x <;> simp [updT, e]

/-- So many fields as was asked; and no object points anywhere yet, where that is said. -/
def LensB (D : Nat → Nat → Int) (bare : Bool) (rs : List Nat) (fs : Nat → List Nat) : Prop := Lens D rs fs ∧ (bare = true → ∀ x, ptsOf fs x = [])
theorem pts_born {fs : Nat → List Nat} (h : ∀ x, ptsOf fs x = []) (r m : Nat) : ∀ x, ptsOf (updT fs r (List.replicate m 0)) x = [] := by
  intro x
  by_cases e : x = r
  · subst e
    unfold ptsOf updT
    simp
  · have := h x
    unfold ptsOf at this ⊢
    simpa [updT, e] using this

section
variable {w0 w : World} {L : List Res}
set_option maxRecDepth 100000 in
set_option maxHeartbeats 8000000 in
theorem Made11E (A0 : Option Addr) (n0 c0 : Nat) (D0 : Nat → Nat → Int) (A1 : Option Addr) (n1 c1 : Nat) (D1 : Nat → Nat → Int) (hz0 : ArgI w0 A0 n0 [.u8] D0) (hz1 : ArgI w0 A1 n1 [.u16, .u16, .u16] D1) (hn0 : n0 ≤ 40) (hn1 : n1 ≤ 120) (S : Sep w0 w L) :
    Calls Tryz.prog 11 #[.agg #[.slice A0 n0 c0, .slice A1 n1 c1]] w fun e w' => ∃ (a b : Nat) (v : Value) (A : AR) (rs : List Nat) (fs : Nat → List Nat),
      e = .returned (.tuple #[.pointer (some ⟨a, 0, none⟩), v, .map (some b)]) ∧ Gr A rs fs ∧ rs.length = n0 ∧ LensB D0 (decide (n1 = 0)) rs fs ∧ Sep w0 w' (arenaR a A :: rowR 34 1 v rs.length (nums rs) :: adjR Tryz.prog 34 34 b (ptsOf fs) :: L) := by
  have HZ0 := Lib.hid hz0
  have HZ1 := Lib.hid hz1
  have hmm := @run_makeMap Tryz.prog
  obtain ⟨T, hT⟩ : ∃ T, w.heap.size = T := ⟨_, rfl⟩
  have hs := S.box #[.slice A0 n0 c0, .slice A1 n1 c1] 30
  rw [hT] at hs
  have HS1 := Lib.hid hs
  clear hz0 hz1 hs S
  refine calls_wide ?_
  refine callsIn_of_wp_marks Tryz.func11 rfl trivial ?_
  simp only [Tryz.ntmps11, List.size_toArray, List.length_cons, List.length_nil, Nat.reduceAdd, Nat.reduceSub, Array.replicate_succ, Array.replicate_zero, List.push_toArray, List.append_toArray, List.nil_append, List.cons_append]
  gi_wp2_with (gi_at_call 42; refine (calls_in (TANew HS1.out 64 64 (by decide))).mono ?_; rintro e w2 ⟨a, ids, rfl, hs⟩; obtain ⟨mb, hmb⟩ : ∃ mb, w2.heap.size = mb := ⟨_, rfl⟩; have hs1 := adj_new hs Tryz.prog 34 34; rw [hmb] at hs1; have hs2 := hs1.box #[.map (some mb)] 26; rw [World.size_alloc, hmb] at hs2; have z0 := (hs2.blk 3 rfl).cell 0; simp only [List.getElem?_toArray, List.getElem?_cons_zero, List.getElem?_cons_succ] at z0; have HS2 := Lib.hid (show Sep w0 _ (arenaR a (AR.new 64 ids) :: rowR 34 1 (.slice none 0 0) 0 (nums ([] : List Nat)) :: blkR T 30 #[.slice A0 n0 c0, .slice A1 n1 c1] :: blkR (mb + 1) 26 #[.map (some mb)] :: adjR Tryz.prog 34 34 mb (fun _ => []) :: L) from (hs2.nilRow 34 1).front 5 [3, 0, 4, 1, 2]); clear hs hs1 hs2 HS1; have HW := Lib.hid (gr_none ids (AR.new_wf 64 ids (by omega))))
  try simp only [hmb]
  clear hmb hmm z0
  obtain ⟨TM, hTM⟩ : ∃ TM, mb + 1 = TM := ⟨_, rfl⟩
  rw [hTM] at HS2
  try simp only [hTM]
  clear hTM
  gi_loopw [6, 25] (fun v i wr => ∃ (k : Nat) (A : AR) (rs : List Nat) (fs : Nat → List Nat), k ≤ n0 ∧ i = .int .i64 k ∧ rs.length = k ∧ LensB D0 true rs fs ∧ Gr A rs fs ∧ Sep w0 wr (arenaR a A :: rowR 34 1 v rs.length (nums rs) :: blkR T 30 #[.slice A0 n0 c0, .slice A1 n1 c1] :: blkR TM 26 #[.map (some mb)] :: adjR Tryz.prog 34 34 mb (fun _ => []) :: L)) (fun _ i _ => n0 + 1 - (intOf i).toNat)
  case atStart => exact ⟨0, _, [], _, by omega, rfl, rfl, ⟨lens_nil _ _, fun _ x => HW.out.ptsOut (by simp)⟩, HW.out, HS2.out⟩
  case round =>
    clear HS2 HW
    obtain ⟨k, A, rs, fs, hk, rfl, hlen, hle, hgr, hs⟩ := hrel
    have HLE := Lib.hid hle
    obtain ⟨AA, cap, rfl, hcap, hcm⟩ := hs.rowShape 1 rfl
    unfold maxLen at hcm
    have hown := hs.own
    have HGR := Lib.hid hgr
    have HLN := Lib.hid hlen
    rw [hlen] at hs hcap ⊢
    by_cases hlt : k < n0
    · obtain ⟨ab, ao, hA0, hcell⟩ := HZ0.out.at_ hown hlt
      subst hA0
      have hc0 := hcell 0 _ rfl
      have hwf := wf8 (HZ0.out.wf hlt 0 .u8 rfl)
      simp at hc0
      obtain ⟨d0, h0⟩ : ∃ d, D0 k 0 = d := ⟨_, rfl⟩
      rw [h0] at hc0 hwf
      obtain ⟨m, hm, hm6⟩ : ∃ m : Nat, d0 % 7 = (m : Int) ∧ m ≤ 6 := ⟨(d0 % 7).toNat, by omega, by omega⟩
      have hmt : d0.tmod 7 = (m : Int) := by rw [Int.tmod_eq_emod_of_nonneg (by omega)]; exact hm
      have HC := Lib.hid (ONew hs 0 rfl HGR.out.heap.wf m hm6 (HGR.out.room (by rw [HLN.out]; omega)))
      have hltI : (k : Int) < (n0 : Int) := by omega
      have HDM := Lib.hid (show D0 k 0 % 7 = (m : Int) from by rw [h0]; exact hm)
      clear hcell h0 hs hgr hlen hown hle
      gi_wp2_with (first
        | (gi_at_call 43; refine (calls_in (HC.out)).mono ?_; rintro e w3 ⟨r, A2, rfl, hs, hN⟩; have HN := Lib.hid hN; have hr0 : ((r : Int) == 0) = false := (by have := (hN.obj.pos hN.wf).2.1; simpa using this); have hr1 : ¬ (r : Int) = 0 := (hN.obj.pos hN.wf).2.1; have HS3 := Lib.hid hs; clear hs hN HC)
        | (gi_at_builtin; refine wpListIn_append_sep rfl _ _ 25 rfl 34 (.int .i64 0) 1 8 Tryz.underlying25 refInfo rfl (by decide) HS3.out 1 rfl rfl [.int .i64 (r : Int)] rfl (by simp [Value.oneCell']) rfl (by unfold maxLen; omega) (by omega) ?_; intro g4 cap4 w4 hcap4 hcm4 hs4; have HS4 := Lib.hid hs4; clear hs4))
      go_roundw
      case rel => exact ⟨k + 1, A2, rs ++ [r], updT fs r (List.replicate m 0), by omega, by go_num, by simp [HLN.out], ⟨HLE.out.1.born HGR.out HN.out HLN.out HDM.out, fun h => pts_born (HLE.out.2 h) r m⟩, HGR.out.born HN.out, by
        rw [List.length_append, HLN.out, nums_append]
        exact HS4.out⟩
      case measure => simp [intOf]; omega
    · obtain rfl : n0 = k := by omega
      have z1 := (hs.blk 2 rfl).cell 1
      simp only [List.getElem?_toArray, List.getElem?_cons_zero, List.getElem?_cons_succ] at z1
      have HS5 := Lib.hid hs
      clear hs hgr hlen hown hle
      gi_wp2
      clear z1
      rcases Nat.eq_zero_or_pos n0 with hk0 | hkp
      · subst hk0
        obtain rfl : rs = [] := List.eq_nil_of_length_eq_zero HLN.out
        gi_loopw [53] (fun i wr => i = .int .i64 0 ∧ Sep w0 wr (arenaR a A :: rowR 34 1 (.slice AA 0 cap) 0 (nums ([] : List Nat)) :: blkR T 30 #[.slice A0 0 c0, .slice A1 n1 c1] :: blkR TM 26 #[.map (some mb)] :: adjR Tryz.prog 34 34 mb (fun _ => []) :: L)) (fun _ _ => 0)
        case atStart => exact ⟨rfl, HS5.out⟩
        case round =>
          clear HS5
          obtain ⟨rfl, hs⟩ := hrel
          have hown := hs.own
          by_cases hlt2 : 0 < n1
          · obtain ⟨ab, ao, hA1, hcell⟩ := HZ1.out.at_ hown hlt2
            subst hA1
            have hc0 := hcell 0 _ rfl
            have hc1 := hcell 1 _ rfl
            have hc2 := hcell 2 _ rfl
            have hw0 := wf16 (HZ1.out.wf hlt2 0 .u16 rfl)
            have hw1 := wf16 (HZ1.out.wf hlt2 1 .u16 rfl)
            have hw2 := wf16 (HZ1.out.wf hlt2 2 .u16 rfl)
            simp at hc0 hc1 hc2
            obtain ⟨d0, h0⟩ : ∃ d, D1 0 0 = d := ⟨_, rfl⟩
            obtain ⟨d1, h1⟩ : ∃ d, D1 0 1 = d := ⟨_, rfl⟩
            obtain ⟨d2, h2⟩ : ∃ d, D1 0 2 = d := ⟨_, rfl⟩
            rw [h0] at hc0 hw0
            rw [h1] at hc1 hw1
            rw [h2] at hc2 hw2
            have hltI : (0 : Int) < (n1 : Int) := by omega
            obtain ⟨T5, hT5⟩ : ∃ T5, wr.heap.size = T5 := ⟨_, rfl⟩
            have hsb := hs.box #[.int .u16 d0, .int .u16 d1, .int .u16 d2] 83
            have HSF := Lib.hid hsb.tail
            clear hs hsb hcell h0 h1 h2 hown
            gi_wp2
            gi_loopw [95] (fun i wr => i = .int .i64 0 ∧ Sep w0 wr (arenaR a A :: rowR 34 1 (.slice AA 0 cap) 0 (nums ([] : List Nat)) :: blkR T 30 #[.slice A0 0 c0, .slice (some ⟨ab, ao, none⟩) n1 c1] :: blkR TM 26 #[.map (some mb)] :: adjR Tryz.prog 34 34 mb (fun _ => []) :: L)) (fun _ _ => 0)
            case atStart => exact ⟨rfl, HSF.out⟩
            case round =>
              clear HSF
              obtain ⟨rfl, hs⟩ := hrel
              have y0 := (hs.blk 3 rfl).cell 0
              simp only [List.getElem?_toArray, List.getElem?_cons_zero] at y0
              have HSF := Lib.hid hs
              clear hs
              gi_wp2
              refine regionIn_sep HSF.out (by kernel_rfl) (by kernel_rfl) ?_
              intro hne0
              have yy : ∀ x : SepW w0 (arenaR a A :: rowR 34 1 (.slice AA 0 cap) 0 (nums ([] : List Nat)) :: blkR T 30 #[.slice A0 0 c0, .slice (some ⟨ab, ao, none⟩) n1 c1] :: blkR TM 26 #[.map (some mb)] :: adjR Tryz.prog 34 34 mb (fun _ => []) :: L), x.w'.cell? ⟨TM, 0, none⟩ = some (.map (some mb)) := fun x => by
                have := (x.h.blk 3 rfl).cell 0
                simpa using this
              repeat (gi_big_quiet_step (fail))
              refine wpQuietIn_nil ?_
              rintro wq ⟨⟨wqx, hs⟩, rfl⟩
              clear yy hne0
              gi_wp2
              refine leavesM (L := arenaR a A :: rowR 34 1 (.slice AA 0 cap) 0 (nums ([] : List Nat)) :: blkR T 30 #[.slice A0 0 c0, .slice (some ⟨ab, ao, none⟩) n1 c1] :: blkR TM 26 #[.map (some mb)] :: adjR Tryz.prog 34 34 mb (fun _ => []) :: L) (fun w' hs => ⟨_, results_tmp3 rfl _ _ _, a, mb, _, A, ([] : List Nat), fs, rfl, HGR.out, rfl, ⟨lens_nil _ _, fun _ x => HGR.out.ptsOut (by simp)⟩, ?_⟩) [] _ hs.noMarks
              have e : ptsOf fs = fun _ => [] := funext fun x => HGR.out.ptsOut (by simp)
              rw [e]
              exact ((hs.front 5 [0, 1, 4, 2, 3]).perm (show _ from (perm_mid [_, _, _] [_, _] L))).right
          · have hltI : ¬ (0 : Int) < (n1 : Int) := by omega
            have HSF := Lib.hid hs
            clear hs hown
            gi_wp2
            gi_loopw [95] (fun i wr => i = .int .i64 0 ∧ Sep w0 wr (arenaR a A :: rowR 34 1 (.slice AA 0 cap) 0 (nums ([] : List Nat)) :: blkR T 30 #[.slice A0 0 c0, .slice A1 n1 c1] :: blkR TM 26 #[.map (some mb)] :: adjR Tryz.prog 34 34 mb (fun _ => []) :: L)) (fun _ _ => 0)
            case atStart => exact ⟨rfl, HSF.out⟩
            case round =>
              clear HSF
              obtain ⟨rfl, hs⟩ := hrel
              have y0 := (hs.blk 3 rfl).cell 0
              simp only [List.getElem?_toArray, List.getElem?_cons_zero] at y0
              have HSF := Lib.hid hs
              clear hs
              gi_wp2
              refine regionIn_sep HSF.out (by kernel_rfl) (by kernel_rfl) ?_
              intro hne0
              have yy : ∀ x : SepW w0 (arenaR a A :: rowR 34 1 (.slice AA 0 cap) 0 (nums ([] : List Nat)) :: blkR T 30 #[.slice A0 0 c0, .slice A1 n1 c1] :: blkR TM 26 #[.map (some mb)] :: adjR Tryz.prog 34 34 mb (fun _ => []) :: L), x.w'.cell? ⟨TM, 0, none⟩ = some (.map (some mb)) := fun x => by
                have := (x.h.blk 3 rfl).cell 0
                simpa using this
              repeat (gi_big_quiet_step (fail))
              refine wpQuietIn_nil ?_
              rintro wq ⟨⟨wqx, hs⟩, rfl⟩
              clear yy hne0
              gi_wp2
              refine leavesM (L := arenaR a A :: rowR 34 1 (.slice AA 0 cap) 0 (nums ([] : List Nat)) :: blkR T 30 #[.slice A0 0 c0, .slice A1 n1 c1] :: blkR TM 26 #[.map (some mb)] :: adjR Tryz.prog 34 34 mb (fun _ => []) :: L) (fun w' hs => ⟨_, results_tmp3 rfl _ _ _, a, mb, _, A, ([] : List Nat), fs, rfl, HGR.out, rfl, ⟨lens_nil _ _, fun _ x => HGR.out.ptsOut (by simp)⟩, ?_⟩) [] _ hs.noMarks
              have e : ptsOf fs = fun _ => [] := funext fun x => HGR.out.ptsOut (by simp)
              rw [e]
              exact ((hs.front 5 [0, 1, 4, 2, 3]).perm (show _ from (perm_mid [_, _, _] [_, _] L))).right
      obtain ⟨g, cap', hsl, _, _⟩ := HS5.out.rowSome 1 rfl hkp
      simp only [Value.slice.injEq] at hsl
      obtain ⟨rfl, _, rfl⟩ := hsl
      have hkb : ((n0 : Int) == 0) = false := by simp; omega
      have hkz : ¬ (n0 : Int) = 0 := by omega
      gi_loopw [53] (fun i wr => ∃ (q : Nat) (A : AR) (fs : Nat → List Nat), q ≤ n1 ∧ i = .int .i64 q ∧ Gr A rs fs ∧ LensB D0 (decide (q = 0)) rs fs ∧ Sep w0 wr (arenaR a A :: rowR 34 1 (.slice (some ⟨g, 0, none⟩) n0 cap) n0 (nums rs) :: blkR T 30 #[.slice A0 n0 c0, .slice A1 n1 c1] :: blkR TM 26 #[.map (some mb)] :: adjR Tryz.prog 34 34 mb (fun _ => []) :: L)) (fun i _ => n1 + 1 - (intOf i).toNat)
      case atStart => exact ⟨0, A, fs, by omega, rfl, HGR.out, HLE.out, HS5.out⟩
      case round =>
        clear HS5 HGR HLE
        obtain ⟨q, A, fs, hq, rfl, hgr, hle, hs⟩ := hrel
        have HLE := Lib.hid hle
        have hown := hs.own
        have HGR := Lib.hid hgr
        by_cases hlt2 : q < n1
        · obtain ⟨ab, ao, hA1, hcell⟩ := HZ1.out.at_ hown hlt2
          subst hA1
          have hc0 := hcell 0 _ rfl
          have hc1 := hcell 1 _ rfl
          have hc2 := hcell 2 _ rfl
          have hw0 := wf16 (HZ1.out.wf hlt2 0 .u16 rfl)
          have hw1 := wf16 (HZ1.out.wf hlt2 1 .u16 rfl)
          have hw2 := wf16 (HZ1.out.wf hlt2 2 .u16 rfl)
          simp at hc0 hc1 hc2
          obtain ⟨d0, h0⟩ : ∃ d, D1 q 0 = d := ⟨_, rfl⟩
          obtain ⟨d1, h1⟩ : ∃ d, D1 q 1 = d := ⟨_, rfl⟩
          obtain ⟨d2, h2⟩ : ∃ d, D1 q 2 = d := ⟨_, rfl⟩
          rw [h0] at hc0 hw0
          rw [h1] at hc1 hw1
          rw [h2] at hc2 hw2
          have hltI : (q : Int) < (n1 : Int) := by omega
          clear hcell h0 h1 h2 hgr hown hle
          obtain ⟨K1, um, ul⟩ : ∃ K1 : Nat, d0.tmod (n0 : Int) = (K1 : Int) ∧ K1 < n0 := by
            have h1 := Int.emod_nonneg d0 (show (n0 : Int) ≠ 0 by omega)
            have h2 := Int.emod_lt_of_pos d0 (show (0 : Int) < (n0 : Int) by omega)
            refine ⟨(d0 % (n0 : Int)).toNat, ?_, by omega⟩
            rw [Int.tmod_eq_emod_of_nonneg (by omega)]
            omega
          have uI : (K1 : Int) < (n0 : Int) := by omega
          have u0 : (0 : Int) ≤ (K1 : Int) := by omega
          obtain ⟨K2, vm, vl⟩ : ∃ K2 : Nat, d1.tmod (n0 : Int) = (K2 : Int) ∧ K2 < n0 := by
            have h1 := Int.emod_nonneg d1 (show (n0 : Int) ≠ 0 by omega)
            have h2 := Int.emod_lt_of_pos d1 (show (0 : Int) < (n0 : Int) by omega)
            refine ⟨(d1 % (n0 : Int)).toNat, ?_, by omega⟩
            rw [Int.tmod_eq_emod_of_nonneg (by omega)]
            omega
          have vI : (K2 : Int) < (n0 : Int) := by omega
          have v0 : (0 : Int) ≤ (K2 : Int) := by omega
          obtain ⟨rx, hx⟩ : ∃ x, rs[K1]? = some x := ⟨_, List.getElem?_eq_getElem (by rw [HLN.out]; exact ul)⟩
          obtain ⟨ry, hy⟩ : ∃ x, rs[K2]? = some x := ⟨_, List.getElem?_eq_getElem (by rw [HLN.out]; exact vl)⟩
          have HX := Lib.hid hx
          have HY := Lib.hid hy
          obtain ⟨T5, hT5⟩ : ∃ T5, wr.heap.size = T5 := ⟨_, rfl⟩
          have hsb := hs.box #[.int .u16 d0, .int .u16 d1, .int .u16 d2] 83
          rw [hT5] at hsb
          have HSB := Lib.hid hsb
          clear hs hsb hx hy
          gi_wp2
          refine regionIn_sep HSB.out (by kernel_rfl) (by kernel_rfl) ?_
          intro hne0
          have yz0 : ∀ x : SepW w0 (blkR T5 83 #[.int .u16 d0, .int .u16 d1, .int .u16 d2] :: arenaR a A :: rowR 34 1 (.slice (some ⟨g, 0, none⟩) n0 cap) n0 (nums rs) :: blkR T 30 #[.slice A0 n0 c0, .slice (some ⟨ab, ao, none⟩) n1 c1] :: blkR TM 26 #[.map (some mb)] :: adjR Tryz.prog 34 34 mb (fun _ => []) :: L), x.w'.cell? ⟨T5, 0, none⟩ = some (.int .u16 d0) := fun x => by
            have := (x.h.blk 0 rfl).cell 0
            simpa using this
          have yz1 : ∀ x : SepW w0 (blkR T5 83 #[.int .u16 d0, .int .u16 d1, .int .u16 d2] :: arenaR a A :: rowR 34 1 (.slice (some ⟨g, 0, none⟩) n0 cap) n0 (nums rs) :: blkR T 30 #[.slice A0 n0 c0, .slice (some ⟨ab, ao, none⟩) n1 c1] :: blkR TM 26 #[.map (some mb)] :: adjR Tryz.prog 34 34 mb (fun _ => []) :: L), x.w'.cell? ⟨T5, 1, none⟩ = some (.int .u16 d1) := fun x => by
            have := (x.h.blk 0 rfl).cell 1
            simpa using this
          have yx : ∀ x : SepW w0 (blkR T5 83 #[.int .u16 d0, .int .u16 d1, .int .u16 d2] :: arenaR a A :: rowR 34 1 (.slice (some ⟨g, 0, none⟩) n0 cap) n0 (nums rs) :: blkR T 30 #[.slice A0 n0 c0, .slice (some ⟨ab, ao, none⟩) n1 c1] :: blkR TM 26 #[.map (some mb)] :: adjR Tryz.prog 34 34 mb (fun _ => []) :: L), x.w'.cell? ⟨g, K1, none⟩ = some (.int .i64 (rx : Int)) := fun x => x.h.rowCell 2 rfl K1 _ (nums_get _ _ _ HX.out)
          have yy : ∀ x : SepW w0 (blkR T5 83 #[.int .u16 d0, .int .u16 d1, .int .u16 d2] :: arenaR a A :: rowR 34 1 (.slice (some ⟨g, 0, none⟩) n0 cap) n0 (nums rs) :: blkR T 30 #[.slice A0 n0 c0, .slice (some ⟨ab, ao, none⟩) n1 c1] :: blkR TM 26 #[.map (some mb)] :: adjR Tryz.prog 34 34 mb (fun _ => []) :: L), x.w'.cell? ⟨g, K2, none⟩ = some (.int .i64 (ry : Int)) := fun x => x.h.rowCell 2 rfl K2 _ (nums_get _ _ _ HY.out)
          repeat (gi_big_quiet_step (fail))
          refine wpQuietIn_nil ?_
          rintro wq ⟨⟨wqx, hs⟩, rfl⟩
          clear yz0 yz1 yx yy hne0
          have hxr : rx ∈ rs := List.mem_of_getElem? HX.out
          have hyr : ry ∈ rs := List.mem_of_getElem? HY.out
          have HSQ := Lib.hid hs
          have HC := Lib.hid (HFields hs 1 rfl HGR.out.heap hxr)
          clear hs HSB hT5
          obtain ⟨Fn, hFn⟩ : ∃ Fn, (fs rx).length = Fn := ⟨_, rfl⟩
          have HFN := Lib.hid hFn
          have hF6 : Fn ≤ 6 := by rw [← hFn]; exact (ptsOf_len HGR.out.heap hxr).2
          clear hFn
          by_cases hF0 : Fn = 0
          · have hFI : ¬ (0 : Int) < (Fn : Int) := by omega
            gi_wp2_with (gi_at_call 33; refine (calls_in (HC.out)).mono ?_; rw [HFN.out]; rintro e w5 ⟨rfl, hs⟩; have HS7 := Lib.hid hs.tail; clear hs HC)
            go_roundw
            case rel => exact ⟨q + 1, A, fs, hlt2, by go_num, HGR.out, ⟨HLE.out.1, fun h => by simp at h⟩, HS7.out⟩
            case measure => simp [intOf]; omega
          · have hFI : (0 : Int) < (Fn : Int) := by omega
            have hFz : ¬ (Fn : Int) = 0 := by omega
            have hFb : ((Fn : Int) == 0) = false := by simp; omega
            obtain ⟨J, tm, tl⟩ : ∃ J : Nat, d2.tmod (Fn : Int) = (J : Int) ∧ J < Fn := by
              have h1 := Int.emod_nonneg d2 (show (Fn : Int) ≠ 0 by omega)
              have h2 := Int.emod_lt_of_pos d2 (show (0 : Int) < (Fn : Int) by omega)
              refine ⟨(d2 % (Fn : Int)).toNat, ?_, by omega⟩
              rw [Int.tmod_eq_emod_of_nonneg (by omega)]
              omega
            have tI : (J : Int) < (Fn : Int) := by omega
            have t0 : (0 : Int) ≤ (J : Int) := by omega
            gi_wp2_with (first
              | (gi_at_call 33; refine (calls_in (HC.out)).mono ?_; rw [HFN.out]; rintro e w5 ⟨rfl, hs⟩; have o2 := (hs.blk 0 rfl).cell 2; simp only [List.getElem?_toArray, List.getElem?_cons_zero, List.getElem?_cons_succ] at o2; have HC2 := Lib.hid (HSetField hs 1 rfl HGR.out.heap hxr J ry (by rw [HFN.out]; exact tl) (.inr hyr)); clear hs HC)
              | (gi_at_call 44; refine (calls_in (HC2.out)).mono ?_; rintro e w6 ⟨A2, rfl, hs, hS, hH⟩; have HS7 := Lib.hid hs.tail; have HST := Lib.hid hS; have HH2 := Lib.hid hH; clear hs hS hH HC2))
            go_roundw
            case rel => exact ⟨q + 1, A2, _, hlt2, by go_num, HGR.out.store hxr HST.out HH2.out, ⟨HLE.out.1.store _ _ _, fun h => by simp at h⟩, HS7.out⟩
            case measure => simp [intOf]; omega
        · obtain rfl : n1 = q := by omega
          have HSM := Lib.hid (show Sep w0 wr (marksR [] :: arenaR a A :: rowR 34 1 (.slice (some ⟨g, 0, none⟩) n0 cap) n0 (nums rs) :: blkR T 30 #[.slice A0 n0 c0, .slice A1 n1 c1] :: blkR TM 26 #[.map (some mb)] :: adjR Tryz.prog 34 34 mb (seen rs fs 0) :: L) from by
            rw [seen_none]
            exact hs.noMarks)
          have HGR := Lib.hid hgr
          clear hs hgr hle
          gi_wp2
          refine wpIn_loopM (Ds := []) [18, 19, 95, 96, 97, 98, 99, 100, 101, 103, 104, 105, 106, 107, 108, 109, 110, 111] (fun v Ds wr => ∃ q : Nat, q ≤ n0 ∧ v 95 = .int .i64 q ∧ Sep w0 wr (marksR Ds :: arenaR a A :: rowR 34 1 (.slice (some ⟨g, 0, none⟩) n0 cap) n0 (nums rs) :: blkR T 30 #[.slice A0 n0 c0, .slice A1 n1 c1] :: blkR TM 26 #[.map (some mb)] :: adjR Tryz.prog 34 34 mb (seen rs fs q) :: L)) (fun v _ => n0 + 1 - (intOf (v 95)).toNat) ⟨0, by omega, rfl, HSM.out⟩ (by kernel_rfl) ?_
          clear HSM
          rintro v Ds wr ⟨q, hq3, hv, hs⟩
          simp only [setS, List.foldl_cons, List.foldl_nil, List.setIfInBounds_toArray, List.set_cons_succ, List.set_cons_zero]
          simp only [hv]
          by_cases hlt3 : q < n0
          · have hltI : (q : Int) < (n0 : Int) := by omega
            obtain ⟨rx, hx⟩ : ∃ x, rs[q]? = some x := ⟨_, List.getElem?_eq_getElem (by rw [HLN.out]; exact hlt3)⟩
            have cc0 := hs.rowCell 2 rfl q _ (nums_get _ _ _ hx)
            obtain ⟨T8, hT8⟩ : ∃ T8, wr.heap.size = T8 := ⟨_, rfl⟩
            have hsb := hs.box #[.int .i64 (rx : Int)] 34
            rw [hT8] at hsb
            have y0 := (hsb.blk 0 rfl).cell 0
            simp only [List.getElem?_toArray, List.getElem?_cons_zero] at y0
            have HX := Lib.hid hx
            have hxr : rx ∈ rs := List.mem_of_getElem? hx
            have HC := Lib.hid (CPoints hsb a (rx : Int))
            clear hs hsb hx
            gi_wp2_with (gi_at_call 45; refine (calls_in (HC.out)).mono ?_; rintro e w4 ⟨rfl, hs⟩; try simp only [World.size_alloc, hT8] at hs; have HS4 := Lib.hid hs; clear hs HC)
            try simp only [World.size_alloc, hT8]
            obtain ⟨P2, hP2⟩ : ∃ P, T8 + 1 = P := ⟨_, rfl⟩
            have hs9 := HS4.out
            simp only [hP2] at hs9 ⊢
            have hnew := seen_new HGR.out.nodup HX.out fs
            have HS9 := Lib.hid (show Sep w0 w4 ([blkR P2 24 #[.pointer (some ⟨a, 0, none⟩)], blkR (P2 + 1) 34 #[.int .i64 (rx : Int)], arenaR a A] ++ (marksR Ds :: blkR T8 34 #[.int .i64 (rx : Int)] :: rowR 34 1 (.slice (some ⟨g, 0, none⟩) n0 cap) n0 (nums rs) :: blkR T 30 #[.slice A0 n0 c0, .slice A1 n1 c1] :: blkR TM 26 #[.map (some mb)] :: adjR Tryz.prog 34 34 mb (updT (seen rs fs q) rx []) :: L)) from by
              rw [hnew]
              exact hs9.front 6 [1, 0, 4, 3, 2, 5])
            clear hs9 HS4 cc0 y0 hnew hT8 hP2
            refine wp_rangeM (gf := 72) (lb := #[.pointer (some ⟨P2, 0, none⟩), .pointer (some ⟨P2 + 1, 0, none⟩)]) rfl (enters_of Tryz.func72 (by kernel_rfl) rfl) (hpoints_iter P2 (P2 + 1) a HGR.out.heap hxr) (fun _ => rfl) HS9.out
              (fun pre Rs => Rs = blkR T8 34 #[.int .i64 (rx : Int)] :: rowR 34 1 (.slice (some ⟨g, 0, none⟩) n0 cap) n0 (nums rs) :: blkR T 30 #[.slice A0 n0 c0, .slice A1 n1 c1] :: blkR TM 26 #[.map (some mb)] :: adjR Tryz.prog 34 34 mb (updT (seen rs fs q) rx pre) :: L) (fun _ _ _ => False) rfl ?round ?done ?stop
            case stop => rintro _ _ _ _ _ _ h; exact h.elim
            case round =>
              rintro l1 pre y _ G V1 r1 hpre rfl hS1
              simp only [List.cons_append, List.nil_append] at hS1
              have hrx4 := (HGR.out.heap.pos hxr).2
              have hpl : pre.length < 6 := by
                have h1 := hpre.length_le
                have h2 := (ptsOf_len HGR.out.heap hxr).1
                rw [List.length_append] at h1
                simp at h1
                omega
              have HS1 := Lib.hid hS1
              clear hpre hS1 HS9
              gi_wp2
              refine ⟨[], HS1.out, ?_⟩
              intro r' V2 hS2
              simp only [List.cons_append, List.nil_append] at hS2
              clear HS1
              obtain ⟨cnt, M, OO, hhole, hS3⟩ := adj_out (show Sep w0 V2 (adjR Tryz.prog 34 34 mb (updT (seen rs fs q) rx pre) :: blkR P2 24 #[.pointer (some ⟨a, 0, none⟩)] :: blkR (P2 + 1) 34 #[.int .i64 (rx : Int)] :: arenaR a A :: objR l1 (.loop r') :: blkR T8 34 #[.int .i64 (rx : Int)] :: rowR 34 1 (.slice (some ⟨g, 0, none⟩) n0 cap) n0 (nums rs) :: blkR T 30 #[.slice A0 n0 c0, .slice A1 n1 c1] :: blkR TM 26 #[.map (some mb)] :: (L ++ G)) from hS2.front 9 [8]) rx (by omega)
              have hTx : updT (seen rs fs q) rx pre rx = pre := by simp [updT]
              rw [hTx] at hS3
              obtain ⟨V3, hV3⟩ : ∃ V3, V2.drew = V3 := ⟨_, rfl⟩
              have hS4 := hS3.drew
              rw [hV3] at hS4
              have hlk := gmap_get keyRef Tryz.underlying26 (zeroRow _) hS4 0 rfl (keyOfRef (x := rx) (by omega))
              obtain ⟨vv, hvv⟩ : ∃ vv, (M (litR rx)).getD (.slice none 0 0) = vv := ⟨_, rfl⟩
              rw [hvv] at hlk hS4
              have y0 := (hS4.blk 7 rfl).cell 0
              have y1 := (hS4.blk 10 rfl).cell 0
              simp only [List.getElem?_toArray, List.getElem?_cons_zero] at y0 y1
              obtain ⟨Pn, hPn⟩ : ∃ Pn, pre.length = Pn := ⟨_, rfl⟩
              rw [hPn] at hS4 hpl
              have HH := Lib.hid hhole
              have HVV := Lib.hid hvv
              have HPN := Lib.hid hPn
              have HS4 := Lib.hid hS4
              clear hS2 hS3 hS4 hTx hhole hPn
              clear hvv
              have hro : Tryz.prog.follows .mixedOrders = true := by kernel_rfl
              gi_wp2
              refine calm ?_
              have hro : Tryz.prog.follows .mixedOrders = true := by kernel_rfl
              refine wpIn_region_float (fun W => W.cell? ⟨T8, 0, none⟩ = some (.int .i64 (rx : Int)) ∧ W.cell? ⟨TM, 0, none⟩ = some (.map (some mb))) hro (by kernel_rfl) (fun _ _ h => h) ?_
              rw [hV3]
              clear hV3
              refine wpAnyC_take (i := 0) (v := ?v0) rfl (by kernel_rfl) (by kernel_rfl) (by kernel_rfl) (fun _ _ _ h => h) (.inl ⟨?w0, ?y0⟩) ?h0
              case w0 => rfl
              case y0 =>
                intro W hf
                obtain ⟨hf1, hf2⟩ := hf
                unfold yieldsAt
                go_simp
                first | rfl | exact ⟨rfl, rfl⟩
              refine wpAnyC_take (i := 1) (v := ?v1) rfl (by kernel_rfl) (by kernel_rfl) (by kernel_rfl) (fun _ _ _ h => h) (.inl ⟨?w1, ?y1⟩) ?h1
              case w1 => rfl
              case y1 =>
                intro W hf
                obtain ⟨hf1, hf2⟩ := hf
                unfold yieldsAt
                go_simp
                first | rfl | exact ⟨rfl, rfl⟩
              refine wpAnyC_take (i := 2) (v := ?v2) rfl (by kernel_rfl) (by kernel_rfl) (by kernel_rfl) (fun _ _ _ h => h) (.inl ⟨?w2, ?y2⟩) ?h2
              case w2 => rfl
              case y2 =>
                intro W hf
                obtain ⟨hf1, hf2⟩ := hf
                unfold yieldsAt
                go_simp
                first | rfl | exact ⟨rfl, rfl⟩
              refine wpAnyC_take (i := 3) (v := ?v3) rfl (by kernel_rfl) (by kernel_rfl) (by kernel_rfl) (fun _ _ _ h => h) (.inl ⟨?w3, ?y3⟩) ?h3
              case w3 => rfl
              case y3 =>
                intro W hf
                obtain ⟨hf1, hf2⟩ := hf
                unfold yieldsAt
                go_simp
                first | rfl | exact ⟨rfl, rfl⟩
              refine wpAnyC_take (i := 5) (v := ?v5) rfl (by kernel_rfl) (by kernel_rfl) (by kernel_rfl) (fun _ _ _ h => h) (.inl ⟨?w5, ?y5⟩) ?h5
              case w5 => rfl
              case y5 =>
                intro W hf
                obtain ⟨hf1, hf2⟩ := hf
                unfold yieldsAt
                go_simp
                first | rfl | exact ⟨rfl, rfl⟩
              have hS5 := HS4.out.box #[.int .i64 (y : Int)] 34
              have hlk2 := gmap_get keyRef Tryz.underlying26 (zeroRow _) hS5 1 rfl (keyOfRef (x := rx) (by omega))
              rw [HVV.out] at hlk2
              have z0 := (hS5.blk 8 rfl).cell 0
              have z1 := (hS5.blk 11 rfl).cell 0
              have zz := (hS5.blk 0 rfl).cell 0
              simp only [List.getElem?_toArray, List.getElem?_cons_zero] at z0 z1 zz
              obtain ⟨v9, w9, hrun, hs9⟩ := hS5.append_some (P := Tryz.prog) (t := 25) (ad := ⟨V3.heap.size, 0, none⟩) (m := 1) (c := 1) (us := [.int .i64 (y : Int)]) 25 Tryz.underlying25 refInfo rfl (by decide) 2 rfl rfl (by
                intro j u hj
                match j, hj with
                | 0, hj =>
                  simp at hj
                  subst hj
                  simp [Addr.add]) (by simp [Value.oneCell']) (by unfold maxLen; omega) (by omega)
              have x0 := (hs9.blk 8 rfl).cell 0
              have x1 := (hs9.blk 11 rfl).cell 0
              simp only [List.getElem?_toArray, List.getElem?_cons_zero] at x0 x1
              obtain ⟨w10, hput, hs10⟩ := gmap_put keyRef Tryz.underlying26 hs9 1 rfl (by have := HH.out.few; unfold maxLen; omega) (keyOfRef (x := rx) (by omega)) v9
              have X0 := (hs10.blk 8 rfl).cell 0
              have X1 := (hs10.blk 11 rfl).cell 0
              simp only [List.getElem?_toArray, List.getElem?_cons_zero] at X0 X1
              have HRUN := Lib.hid hrun
              have HPUT := Lib.hid hput
              have HS10 := Lib.hid hs10
              clear hS5 zz hrun hput hs10 hs9 HS4
              refine wpAnyC_two (i := 4) (j := 6) rfl rfl (by kernel_rfl) ⟨y0, y1⟩ rfl rfl ?_ ?_
              · intro K hK
                go_simp
                refine hK _ _ ?_
                refine wpAnyC_one (i := 6) rfl (by kernel_rfl) ⟨y0, y1⟩ rfl ?_
                intro K hK
                go_simp
                refine hK _ _ ?_
                refine wpAnyC_one (i := 7) rfl (by kernel_rfl) ⟨z0, z1⟩ rfl ?_
                intro K hK
                refine wp_append_run _ _ _ rfl rfl rfl HRUN.out (hK _ _ ?_)
                refine wpAnyC_one (i := 8) rfl (by kernel_rfl) ⟨x0, x1⟩ rfl ?_
                intro K hK
                refine wp_mapUpdate_run _ _ _ _ rfl rfl rfl rfl HPUT.out (hK _ _ ?_)
                refine wpAnyC_done (by kernel_rfl) ⟨X0, X1⟩ ?_ _
                refine ⟨_, rfl, ?_⟩
                have h11 := HS10.out.tail
                have hvv1 := HVV.out
                have h12 := HH.out.back w0 w10 _ v9 (pre ++ [y]) (by
                  rw [nums_append, List.length_append, HPN.out]
                  exact h11)
                rw [updT_twice] at h12
                exact h12.front 9 [1, 2, 3, 4, 5, 6, 7, 8, 0]
              · intro K hK
                go_simp
                refine hK _ _ ?_
                refine wpAnyC_one (i := 4) rfl (by kernel_rfl) ⟨z0, z1⟩ rfl ?_
                intro K hK
                go_simp
                refine hK _ _ ?_
                refine wpAnyC_one (i := 7) rfl (by kernel_rfl) ⟨z0, z1⟩ rfl ?_
                intro K hK
                refine wp_append_run _ _ _ rfl rfl rfl HRUN.out (hK _ _ ?_)
                refine wpAnyC_one (i := 8) rfl (by kernel_rfl) ⟨x0, x1⟩ rfl ?_
                intro K hK
                refine wp_mapUpdate_run _ _ _ _ rfl rfl rfl rfl HPUT.out (hK _ _ ?_)
                refine wpAnyC_done (by kernel_rfl) ⟨X0, X1⟩ ?_ _
                refine ⟨_, rfl, ?_⟩
                have h11 := HS10.out.tail
                have hvv1 := HVV.out
                have h12 := HH.out.back w0 w10 _ v9 (pre ++ [y]) (by
                  rw [nums_append, List.length_append, HPN.out]
                  exact h11)
                rw [updT_twice] at h12
                exact h12.front 9 [1, 2, 3, 4, 5, 6, 7, 8, 0]
            rintro Ds2 _ V hR hS
            subst hR
            simp only [List.cons_append, List.nil_append] at hS
            have hnx := seen_next HGR.out.nodup HX.out fs
            rw [hnx] at hS
            have HSD := Lib.hid hS
            clear hS HS9 hnx
            gi_wp2
            refine ⟨Ds2, rfl, by kernel_rfl, ⟨q + 1, hlt3, rfl, ?_⟩, ?_⟩
            · exact (HSD.out.front 9 [0, 1, 4, 3, 2, 5, 6, 7, 8]).tail.tail.tail
            · show n0 + 1 - (intOf (.int .i64 ((q : Int) + 1))).toNat < n0 + 1 - (intOf (.int .i64 (q : Int))).toNat
              simp [intOf]
              omega
          · obtain rfl : n0 = q := by omega
            have hall := seen_all HGR.out HLN.out
            rw [hall] at hs
            have HSF := Lib.hid hs
            clear hs hall
            gi_wp2
            refine regionIn_sep HSF.out (by kernel_rfl) (by kernel_rfl) ?_
            intro hne0
            have yy : ∀ x : SepW w0 (marksR Ds :: arenaR a A :: rowR 34 1 (.slice (some ⟨g, 0, none⟩) n0 cap) n0 (nums rs) :: blkR T 30 #[.slice A0 n0 c0, .slice A1 n1 c1] :: blkR TM 26 #[.map (some mb)] :: adjR Tryz.prog 34 34 mb (ptsOf fs) :: L), x.w'.cell? ⟨TM, 0, none⟩ = some (.map (some mb)) := fun x => by
              have := (x.h.blk 4 rfl).cell 0
              simpa using this
            repeat (gi_big_quiet_step (fail))
            refine wpQuietIn_nil ?_
            rintro wq ⟨⟨wqx, hs⟩, rfl⟩
            clear yy hne0
            gi_wp2
            refine leavesM (L := arenaR a A :: rowR 34 1 (.slice (some ⟨g, 0, none⟩) n0 cap) n0 (nums rs) :: blkR T 30 #[.slice A0 n0 c0, .slice A1 n1 c1] :: blkR TM 26 #[.map (some mb)] :: adjR Tryz.prog 34 34 mb (ptsOf fs) :: L) (fun w' hs => ⟨_, results_tmp3 rfl _ _ _, a, mb, _, A, rs, fs, rfl, HGR.out, HLN.out, HLE.out, ?_⟩) Ds _ hs
            rw [HLN.out]
            exact (hs.front 5 [2, 3, 0, 1, 4]).tail.tail
theorem Made11L (A0 : Option Addr) (n0 c0 : Nat) (D0 : Nat → Nat → Int) (A1 : Option Addr) (n1 c1 : Nat) (D1 : Nat → Nat → Int) (hz0 : ArgI w0 A0 n0 [.u8] D0) (hz1 : ArgI w0 A1 n1 [.u16, .u16, .u16] D1) (hn0 : n0 ≤ 40) (hn1 : n1 ≤ 120) (S : Sep w0 w L) :
    Calls Tryz.prog 11 #[.agg #[.slice A0 n0 c0, .slice A1 n1 c1]] w fun e w' => ∃ (a b : Nat) (v : Value) (A : AR) (rs : List Nat) (fs : Nat → List Nat),
      e = .returned (.tuple #[.pointer (some ⟨a, 0, none⟩), v, .map (some b)]) ∧ Gr A rs fs ∧ rs.length = n0 ∧ Lens D0 rs fs ∧ Sep w0 w' (arenaR a A :: rowR 34 1 v rs.length (nums rs) :: adjR Tryz.prog 34 34 b (ptsOf fs) :: L) :=
  (Made11E A0 n0 c0 D0 A1 n1 c1 D1 hz0 hz1 hn0 hn1 S).mono (fun e w' ⟨a, b, v, A, rs, fs, h1, h2, h3, h5, h4⟩ => ⟨a, b, v, A, rs, fs, h1, h2, h3, h5.1, h4⟩)
theorem Made11 (A0 : Option Addr) (n0 c0 : Nat) (D0 : Nat → Nat → Int) (A1 : Option Addr) (n1 c1 : Nat) (D1 : Nat → Nat → Int) (hz0 : ArgI w0 A0 n0 [.u8] D0) (hz1 : ArgI w0 A1 n1 [.u16, .u16, .u16] D1) (hn0 : n0 ≤ 40) (hn1 : n1 ≤ 120) (S : Sep w0 w L) :
    Calls Tryz.prog 11 #[.agg #[.slice A0 n0 c0, .slice A1 n1 c1]] w fun e w' => ∃ (a b : Nat) (v : Value) (A : AR) (rs : List Nat) (fs : Nat → List Nat),
      e = .returned (.tuple #[.pointer (some ⟨a, 0, none⟩), v, .map (some b)]) ∧ Gr A rs fs ∧ rs.length = n0 ∧ Sep w0 w' (arenaR a A :: rowR 34 1 v rs.length (nums rs) :: adjR Tryz.prog 34 34 b (ptsOf fs) :: L) :=
  (Made11L A0 n0 c0 D0 A1 n1 c1 D1 hz0 hz1 hn0 hn1 S).mono (fun e w' ⟨a, b, v, A, rs, fs, h1, h2, h3, _, h4⟩ => ⟨a, b, v, A, rs, fs, h1, h2, h3, h4⟩)
end
end Go.Proofs.YtbcabjpafeocgaaGreat

/-
  What objects lead to, found by a list of those still to be looked at (plain). Conditions: as each theorem says; no walk.
-/
namespace Go.Proofs.YtbcabjpafeocgaaGreat
set_option linter.unusedVariables false
set_option linter.unusedSimpArgs false

/-- V was looked at, l is still to come. -/
structure Seek (pts : Nat → List Nat) (from_ : List Nat) (V : Nat → Bool) (l : List Nat) : Prop where
  start : ∀ x ∈ from_, V x = true ∨ x ∈ l
  next : ∀ x, V x = true → ∀ y ∈ pts x, V y = true ∨ y ∈ l
  seen : ∀ x, V x = true → Leads pts (fun x => x ∈ from_) x
  todo : ∀ x ∈ l, Leads pts (fun x => x ∈ from_) x

def putB (V : Nat → Bool) (r : Nat) : Nat → Bool := fun x => V x || decide (x = r)

section
variable {pts : Nat → List Nat} {from_ : List Nat} {V : Nat → Bool} {l : List Nat} {x : Nat}
theorem seek_start (pts : Nat → List Nat) (from_ : List Nat) : Seek pts from_ (fun _ => false) from_ :=
  ⟨fun _ h => .inr h, fun _ h => (by cases h), fun _ h => (by cases h), fun _ h => .base h⟩
theorem Seek.old (h : Seek pts from_ V (l ++ [x])) (hx : V x = true) : Seek pts from_ V l := by
  refine ⟨fun y hy => ?_, fun y hy z hz => ?_, h.seen, fun y hy => h.todo y (List.mem_append.2 (.inl hy))⟩
  · rcases h.start y hy with h1 | h1
    · exact .inl h1
    · rcases List.mem_append.1 h1 with h2 | h2
      · exact .inr h2
      · simp at h2; subst h2; exact .inl hx
  · rcases h.next y hy z hz with h1 | h1
    · exact .inl h1
    · rcases List.mem_append.1 h1 with h2 | h2
      · exact .inr h2
      · simp at h2; subst h2; exact .inl hx
theorem Seek.new (h : Seek pts from_ V (l ++ [x])) : Seek pts from_ (putB V x) (l ++ pts x) := by
  have hlx := h.todo x (by simp)
  refine ⟨fun y hy => ?_, fun y hy z hz => ?_, fun y hy => ?_, fun y hy => ?_⟩
  · rcases h.start y hy with h1 | h1
    · left; simp [putB, h1]
    · rcases List.mem_append.1 h1 with h2 | h2
      · right; exact List.mem_append.2 (.inl h2)
      · left; simp at h2; simp [putB, h2]
  · simp only [putB, Bool.or_eq_true, decide_eq_true_eq] at hy
    rcases hy with hy | rfl
    · rcases h.next y hy z hz with h1 | h1
      · left; simp [putB, h1]
      · rcases List.mem_append.1 h1 with h2 | h2
        · right; exact List.mem_append.2 (.inl h2)
        · left; simp at h2; simp [putB, h2]
    · right; exact List.mem_append.2 (.inr hz)
  · simp only [putB, Bool.or_eq_true, decide_eq_true_eq] at hy
    rcases hy with hy | rfl
    · exact h.seen y hy
    · exact hlx
  · rcases List.mem_append.1 hy with h2 | h2
    · exact h.todo y (List.mem_append.2 (.inl h2))
    · exact .step hlx h2
theorem Seek.done (h : Seek pts from_ V []) (x : Nat) : V x = true ↔ Leads pts (fun x => x ∈ from_) x := by
  constructor
  · exact h.seen x
  · refine leads_closed (P := fun y => V y = true) (fun y hy => ?_) (fun y hy z hz => ?_) x
    · rcases h.start y hy with h1 | h1
      · exact h1
      · cases h1
    · rcases h.next y hy z hz with h1 | h1
      · exact h1
      · cases h1

/-- How much is still to do, at most: what is on the list, and what those not looked at would add. -/
def todoN (pts : Nat → List Nat) (V : Nat → Bool) : List Nat → Nat
  | [] => 0
  | r :: rs => (if V r then 0 else (pts r).length) + todoN pts V rs
theorem todoN_put (pts : Nat → List Nat) (V : Nat → Bool) {objs : List Nat} (hn : objs.Nodup) (hx : x ∈ objs) (hV : V x = false) : todoN pts (putB V x) objs + (pts x).length = todoN pts V objs := by
  induction objs with
  | nil => cases hx
  | cons a rs ih =>
    rw [List.nodup_cons] at hn
    unfold todoN
    by_cases e : a = x
    · subst e
      have h1 : ∀ l : List Nat, (∀ r ∈ l, r ≠ a) → todoN pts (putB V a) l = todoN pts V l := by
        intro l
        induction l with
        | nil => intro _; rfl
        | cons b l ihl =>
          intro h
          unfold todoN
          rw [ihl (fun r hr => h r (List.mem_cons_of_mem _ hr))]
          have : putB V a b = V b := by
            have := h b (by simp)
            simp [putB, this]
          rw [this]
      rw [h1 rs (fun r hr e => hn.1 (e ▸ hr)), hV]
      simp [putB]
      omega
    · have hx' : x ∈ rs := by
        rcases List.mem_cons.1 hx with h | h
        · exact absurd h.symm e
        · exact h
      have := ih hn.2 hx'
      have hb : putB V x a = V a := by simp [putB, e]
      rw [hb]
      omega
theorem countP_put (V : Nat → Bool) {objs : List Nat} (hn : objs.Nodup) (hx : x ∈ objs) (hV : V x = false) : objs.countP (putB V x) = objs.countP V + 1 := by
  induction objs with
  | nil => cases hx
  | cons a rs ih =>
    rw [List.nodup_cons] at hn
    rw [List.countP_cons, List.countP_cons]
    by_cases e : a = x
    · subst e
      have h1 : rs.countP (putB V a) = rs.countP V := List.countP_congr (fun r hr => by
        have : r ≠ a := fun e => hn.1 (e ▸ hr)
        simp [putB, this])
      rw [h1, hV]
      simp [putB]
    · have hx' : x ∈ rs := by
        rcases List.mem_cons.1 hx with h | h
        · exact absurd h.symm e
        · exact h
      rw [ih hn.2 hx']
      have hb : putB V x a = V a := by simp [putB, e]
      rw [hb]
      omega
end
end Go.Proofs.YtbcabjpafeocgaaGreat
