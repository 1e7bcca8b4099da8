/-
  The arena's iterators: all taken cells; those of a page (layer 3). Conditions: at most 64 pages.
-/
import Derived.Test.YtapbphbnffggnaaArenaS
import Derived.Outline
namespace Go.Proofs.Ytapbphbnffggnaa
set_option linter.unusedVariables false
set_option linter.unusedSimpArgs false
open Go.RowKit Go.Shelf
attribute [local go_sem] Oper.semAt_some wide_fn round_fn wide_depth round_depth
attribute [local simp] wide_fn round_fn wide_depth round_depth

section
variable {w0 w : World} {L : List Res} {i a : Nat} {A : AR}
theorem TAAll (S : Sep w0 w L) (a : Nat) : Calls Try.prog 35 #[.pointer (some ⟨a, 0, none⟩)] w fun e w' => e = .returned (.func (.func 54) #[] #[.pointer (some ⟨w.heap.size, 0, none⟩)]) ∧ Sep w0 w' (blkR w.heap.size 23 #[.pointer (some ⟨a, 0, none⟩)] :: L) := by
  have hmf : ∀ (fn : Fn) (first cap : Array Value) (w : World), (Instr.makeFunc fn first cap).run Try.prog w = .ok (.func fn first cap) w := fun _ _ _ _ => rfl
  have H := Lib.hid S
  clear S
  go_enter Try.func35, Try.ntmps35
  go_wp2_with fail
  go_ret
  exact ⟨rfl, H.out.alloc _⟩
theorem TACells (S : Sep w0 w L) (a : Nat) (p : Int) : Calls Try.prog 28 #[.pointer (some ⟨a, 0, none⟩), .int .i64 p] w fun e w' => e = .returned (.func (.func 53) #[] #[.pointer (some ⟨w.heap.size, 0, none⟩), .pointer (some ⟨w.heap.size + 1, 0, none⟩)]) ∧
    Sep w0 w' (blkR (w.heap.size + 1) 3 #[.int .i64 p] :: blkR w.heap.size 23 #[.pointer (some ⟨a, 0, none⟩)] :: L) := by
  have hmf : ∀ (fn : Fn) (first cap : Array Value) (w : World), (Instr.makeFunc fn first cap).run Try.prog w = .ok (.func fn first cap) w := fun _ _ _ _ => rfl
  have H := Lib.hid S
  clear S
  go_enter Try.func28, Try.ntmps28
  go_wp2_with fail
  go_ret
  refine ⟨rfl, ?_⟩
  have := (H.out.alloc (.cells #[.pointer (some ⟨a, 0, none⟩)] 23)).alloc (.cells #[.int .i64 p] 3)
  rw [World.size_alloc] at this
  exact this
end

set_option maxHeartbeats 2000000 in
theorem arena_iter (B a : Nat) (A : AR) :
    Iter Try.prog 54 #[.pointer (some ⟨B, 0, none⟩)] (fun i : Nat => #[.int .i64 (i : Int)]) (elems (A.n * 32 + 1) A.tk) (fun _ => [blkR B 23 #[.pointer (some ⟨a, 0, none⟩)], arenaR a A]) := by
  intro l w0 Φ Φx W R hY h0 hS
  dsimp only [List.cons_append, List.nil_append] at hY hS
  obtain ⟨hn, hS2⟩ := arena_open hS 1 rfl
  simp only [arenaParts, List.cons_append, List.nil_append, List.eraseIdx_cons_succ, List.eraseIdx_cons_zero] at hS2
  have HY := Lib.hid hY
  have HS := Lib.hid hS2
  have H0 := Lib.hid h0
  have hb := (hS2.blk 4 rfl).cell 0
  have hc := (hS2.blk 0 rfl).cell 2
  have hbl := Lib.hid (hS2.blk 4 rfl).lt
  have hal := Lib.hid (hS2.blk 0 rfl).lt
  simp [arenaCells] at hb hc
  have ab : ∀ o : Obj, (W.alloc o).cell? ⟨B, 0, none⟩ = some (.pointer (some ⟨a, 0, none⟩)) := fun o => (World.cell?_alloc_past _ _ _ hbl.out).trans hb
  have ac : ∀ o : Obj, (W.alloc o).cell? ⟨a, 2, none⟩ = some (.pointer (some ⟨A.ids.2.2, 0, none⟩)) := fun o => (World.cell?_alloc_past _ _ _ hal.out).trans hc
  clear hY h0 hS hS2 hb hc
  refine calls_wide ?_
  refine callsIn_of_wp_marks Try.func54 rfl trivial ?_
  simp only [Try.ntmps54, List.size_toArray, List.length_cons, List.length_nil, Nat.reduceAdd, Nat.reduceSub, Array.replicate_succ, Array.replicate_zero, List.push_toArray, List.append_toArray, List.nil_append, List.cons_append]
  gi_wp2_with (gi_at_call 55; refine (calls_in (TSAll (HS.out.alloc _) A.ids.2.2)).mono ?_; rintro e w1 ⟨rfl, hs⟩; have HS1 := Lib.hid hs; clear hs)
  have hS1 := HS1.out
  simp only [World.size_alloc] at hS1 ⊢
  have HSA := Lib.hid ((hS1.lift 5 rfl).lift 1 rfl)
  clear hS1 HS1 HS ab ac hbl hal
  obtain ⟨Y, hY0⟩ : ∃ Y, W.heap.size = Y := ⟨_, rfl⟩
  rw [hY0] at HSA ⊢
  clear hY0
  refine wp_range (gf := 65) (lb := #[.pointer (some ⟨Y + 1, 0, none⟩)]) rfl (enters_of Try.func65 (by kernel_rfl) rfl) (set_iter (Y + 1) A.ids.2.2 (A.n * 32 + 1) A.tk (by omega)) (fun _ => rfl)
    (R := blkR Y 35 #[.func (.yield l) #[] #[]] :: blkR a 88 (arenaCells A A.ids.1 A.ids.2.1 A.ids.2.2) :: blkR A.ids.1 90 (pageCells A.cls A.cnt A.n) :: blkR A.ids.2.1 3 (intCells A.wd (A.n * 32)) :: blkR B 23 #[.pointer (some ⟨a, 0, none⟩)] :: R) HSA.out
    (fun pre Rs => ∃ R', Rs = blkR Y 35 #[.func (.yield l) #[] #[]] :: blkR a 88 (arenaCells A A.ids.1 A.ids.2.1 A.ids.2.2) :: blkR A.ids.1 90 (pageCells A.cls A.cnt A.n) :: blkR A.ids.2.1 3 (intCells A.wd (A.n * 32)) :: blkR B 23 #[.pointer (some ⟨a, 0, none⟩)] :: R' ∧ Φ pre R')
    (fun c pre Rs => c = .ret ∧ ∃ R', Rs = blkR Y 35 #[.func (.yield l) #[] #[]] :: blkR a 88 (arenaCells A A.ids.1 A.ids.2.1 A.ids.2.2) :: blkR A.ids.1 90 (pageCells A.cls A.cnt A.n) :: blkR A.ids.2.1 3 (intCells A.wd (A.n * 32)) :: blkR B 23 #[.pointer (some ⟨a, 0, none⟩)] :: R' ∧ Φx pre R')
    ⟨R, rfl, H0.out⟩ ?round ?done ?stop
  case round =>
    rintro l1 D pre x _ G W1 r hpre ⟨R1, rfl, hΦ⟩ hS1
    simp only [List.cons_append, List.nil_append] at hS1
    have HPRE := Lib.hid hpre
    have HP := Lib.hid hΦ
    have HS1 := Lib.hid hS1
    clear hpre hΦ hS1 H0 HSA
    gi_wp2
    refine ⟨[], HS1.out, ?_⟩
    intro r' W2 hS2
    simp only [List.cons_append, List.nil_append] at hS2
    have hy0 := (hS2.blk 4 rfl).cell 0
    simp at hy0
    have hS3 : Sep w0 W2 (blkR B 23 #[.pointer (some ⟨a, 0, none⟩)] :: arenaR a A :: blkR (Y + 1) 86 #[.pointer (some ⟨A.ids.2.2, 0, none⟩)] :: objR l1 (.loop r') :: objR D (.deferred (some [])) :: blkR Y 35 #[.func (.yield l) #[] #[]] :: (R1 ++ G)) := (arena_shutHead (A := A) hn (hS2.front 9 [5, 6, 7, 1, 8])).swap
    have hS4 := hS3.perm (((perm_mid [blkR (Y + 1) 86 #[.pointer (some ⟨A.ids.2.2, 0, none⟩)], objR l1 (.loop r'), objR D (.deferred (some [])), blkR Y 35 #[.func (.yield l) #[] #[]]] R1 G).cons _).cons _)
    obtain ⟨fn, tmps, assign, body, hy, hR⟩ := HY.out pre x R1 _ W2 HPRE.out HP.out hS4
    have HR := Lib.hid (show RoundIn (Fence.wide.inRound l1) 0 Try.prog l fn tmps assign body W2 _ from hR)
    clear hR hS2 hS3 hS4
    have back : ∀ (R2 : List Res) (W3 : World), Sep w0 W3 (blkR B 23 #[.pointer (some ⟨a, 0, none⟩)] :: arenaR a A :: (R2 ++ ([blkR (Y + 1) 86 #[.pointer (some ⟨A.ids.2.2, 0, none⟩)], objR l1 (.loop r'), objR D (.deferred (some [])), blkR Y 35 #[.func (.yield l) #[] #[]]] ++ G))) → Sep w0 W3 (blkR (Y + 1) 86 #[.pointer (some ⟨A.ids.2.2, 0, none⟩)] :: setR A.ids.2.2 A.size A.tk :: objR l1 (.loop r') :: objR D (.deferred (some [])) :: blkR Y 35 #[.func (.yield l) #[] #[]] :: blkR a 88 (arenaCells A A.ids.1 A.ids.2.1 A.ids.2.2) :: blkR A.ids.1 90 (pageCells A.cls A.cnt A.n) :: blkR A.ids.2.1 3 (intCells A.wd (A.n * 32)) :: blkR B 23 #[.pointer (some ⟨a, 0, none⟩)] :: (R2 ++ G)) := fun R2 W3 h => by
      have h1 : Sep w0 W3 (blkR B 23 #[.pointer (some ⟨a, 0, none⟩)] :: arenaR a A :: blkR (Y + 1) 86 #[.pointer (some ⟨A.ids.2.2, 0, none⟩)] :: objR l1 (.loop r') :: objR D (.deferred (some [])) :: blkR Y 35 #[.func (.yield l) #[] #[]] :: (R2 ++ G)) := h.perm (((perm_mid R2 [blkR (Y + 1) 86 #[.pointer (some ⟨A.ids.2.2, 0, none⟩)], objR l1 (.loop r'), objR D (.deferred (some [])), blkR Y 35 #[.func (.yield l) #[] #[]]] G).cons _).cons _)
      have h2 := (arena_openHead h1.swap).2
      exact h2.front 9 [5, 3, 6, 7, 8, 0, 1, 2, 4]
    have BACK := Lib.hid back
    clear back
    gi_wp2
    refine HR.out.mono ?_
    rintro e W3 (⟨rfl, R2, hΦ2, hS5⟩ | ⟨rfl, R2, hΦ2, hS5⟩)
    · have HS5 := Lib.hid (BACK.out _ _ hS5)
      have HP2 := Lib.hid hΦ2
      clear hS5 hΦ2
      gi_wp2
      exact ⟨_, ⟨R2, rfl, HP2.out⟩, HS5.out⟩
    · have HS5 := Lib.hid (BACK.out _ _ hS5)
      have HP2 := Lib.hid hΦ2
      clear hS5 hΦ2
      gi_wp2
      exact ⟨_, ⟨rfl, R2, rfl, HP2.out⟩, HS5.out⟩
  case done =>
    rintro D _ W1 ⟨R1, rfl, hΦ⟩ hS1
    gi_wp2
    refine leaves_mark hS1 (i := 2) rfl (fun _ => results_none rfl _ _ _) ?_
    intro w' hS2
    refine ⟨⟨_, rfl⟩, .inl ⟨R1, hΦ, ?_⟩⟩
    have h' : Sep w0 w' ((blkR a 88 (arenaCells A A.ids.1 A.ids.2.1 A.ids.2.2) :: blkR A.ids.1 90 (pageCells A.cls A.cnt A.n) :: blkR A.ids.2.1 3 (intCells A.wd (A.n * 32)) :: setR A.ids.2.2 A.size A.tk :: blkR B 23 #[.pointer (some ⟨a, 0, none⟩)] :: []) ++ ([blkR (Y + 1) 86 #[.pointer (some ⟨A.ids.2.2, 0, none⟩)], objR D (.deferred none), blkR Y 35 #[.func (.yield l) #[] #[]]] ++ R1)) := hS2.front 8 [4, 5, 6, 1, 7]
    exact (arena_shutHead (A := A) hn (h'.perm (perm_mid _ _ _)).right).swap
  case stop =>
    rintro D c pre _ W1 hpre ⟨rfl, R1, rfl, hΦ⟩ hS1
    gi_wp2
    refine leaves_mark hS1 (i := 2) rfl (fun _ => results_none rfl _ _ _) ?_
    intro w' hS2
    refine ⟨⟨_, rfl⟩, .inr ⟨pre, R1, hpre, hΦ, ?_⟩⟩
    have h' : Sep w0 w' ((blkR a 88 (arenaCells A A.ids.1 A.ids.2.1 A.ids.2.2) :: blkR A.ids.1 90 (pageCells A.cls A.cnt A.n) :: blkR A.ids.2.1 3 (intCells A.wd (A.n * 32)) :: setR A.ids.2.2 A.size A.tk :: blkR B 23 #[.pointer (some ⟨a, 0, none⟩)] :: []) ++ ([blkR (Y + 1) 86 #[.pointer (some ⟨A.ids.2.2, 0, none⟩)], objR D (.deferred none), blkR Y 35 #[.func (.yield l) #[] #[]]] ++ R1)) := hS2.front 8 [4, 5, 6, 1, 7]
    exact (arena_shutHead (A := A) hn (h'.perm (perm_mid _ _ _)).right).swap
end Go.Proofs.Ytapbphbnffggnaa
