/-
  The iterator over where an object points (layer 4). Conditions: the arena is as it always is.
-/
import Derived.Test.YtapbphbnffggnaaArenaIter
import Derived.Test.YtapbphbnffggnaaCell
namespace Go.Proofs.Ytapbphbnffggnaa
set_option linter.unusedVariables false
set_option linter.unusedSimpArgs false
open Go.RowKit Go.Shelf
attribute [local go_sem] Oper.semAt_some wide_fn round_fn wide_depth round_depth
attribute [local simp] wide_fn round_fn wide_depth round_depth

section
variable {w0 w : World} {L : List Res} {i a : Nat} {A : AR}
theorem CPoints (S : Sep w0 w L) (a : Nat) (r : Int) : Calls Try.prog 47 #[.pointer (some ⟨a, 0, none⟩), .int .i64 r] w fun e w' => e = .returned (.func (.func 60) #[] #[.pointer (some ⟨w.heap.size, 0, none⟩), .pointer (some ⟨w.heap.size + 1, 0, none⟩)]) ∧
    Sep w0 w' (blkR (w.heap.size + 1) 26 #[.int .i64 r] :: blkR w.heap.size 23 #[.pointer (some ⟨a, 0, none⟩)] :: L) := by
  have hmf : ∀ (fn : Fn) (first cap : Array Value) (w : World), (Instr.makeFunc fn first cap).run Try.prog w = .ok (.func fn first cap) w := fun _ _ _ _ => rfl
  have H := Lib.hid S
  clear S
  go_enter Try.func47, Try.ntmps47
  go_wp2_with fail
  go_ret
  refine ⟨rfl, ?_⟩
  have := (H.out.alloc (.cells #[.pointer (some ⟨a, 0, none⟩)] 23)).alloc (.cells #[.int .i64 r] 26)
  rw [World.size_alloc] at this
  exact this
end

/-- The first m fields of an object, those that point. -/
def AR.pointsUpto (A : AR) (r : Int) (m : Nat) : List Int := ((List.range m).map fun k : Nat => A.wordZ r (2 + (k : Int))).filter fun x => !(x == 0)
theorem pointsUpto_succ (A : AR) (r : Int) (m : Nat) : A.pointsUpto r (m + 1) = A.pointsUpto r m ++ (if A.wordZ r (2 + (m : Int)) = 0 then [] else [A.wordZ r (2 + (m : Int))]) := by
  unfold AR.pointsUpto
  rw [List.range_succ, List.map_append, List.filter_append]
  by_cases h : A.wordZ r (2 + (m : Int)) = 0 <;> simp [h]
theorem pointsUpto_prefix (A : AR) (r : Int) {k n : Nat} (h : k ≤ n) : A.pointsUpto r k <+: A.pointsUpto r n := by
  induction n with
  | zero => obtain rfl : k = 0 := by omega
            exact List.prefix_refl _
  | succ n ih =>
    by_cases e : k = n + 1
    · subst e; exact List.prefix_refl _
    · exact (ih (by omega)).trans (by rw [pointsUpto_succ]; exact List.prefix_append _ _)

set_option maxHeartbeats 2000000 in
theorem points_iter (B B' a : Nat) (r : Int) (n : Nat) (A : AR) (hw : A.Wf) (hr63 : r ≤ 9223372036854775807) (hn : A.wordZ r 0 = (n : Int)) (hn6 : n ≤ 6) (hr0 : 0 < n → ¬ r = 0) :
    Iter Try.prog 60 #[.pointer (some ⟨B, 0, none⟩), .pointer (some ⟨B', 0, none⟩)] (fun x : Int => #[.int .i64 x]) (A.pointsUpto r n) (fun _ => [blkR B 23 #[.pointer (some ⟨a, 0, none⟩)], blkR B' 26 #[.int .i64 r], arenaR a A]) := by
  intro l w0 Φ Φx W R hY h0 hS
  dsimp only [List.cons_append, List.nil_append] at hY hS
  have HY := Lib.hid hY
  have HS := Lib.hid hS
  have H0 := Lib.hid h0
  have HW := Lib.hid hw
  have HN := Lib.hid hn
  have HR0 := Lib.hid hr0
  have hb := (hS.blk 0 rfl).cell 0
  have hc := (hS.blk 1 rfl).cell 0
  simp at hb hc
  clear hY h0 hS hw hn hr0
  refine calls_wide ?_
  gi_enter Try.func60, Try.ntmps60
  gi_wp2_with (gi_at_call 41; refine (calls_in (CFields HS.out 2 rfl HW.out r hr63)).mono ?_; rw [HN.out]; rintro e w1 ⟨rfl, hs⟩; have HS0 := Lib.hid hs; clear hs)
  clear hb hc
  gi_loopw [10] (fun i wr => ∃ (k : Nat) (R' : List Res), k ≤ n ∧ i = .int .i64 k ∧ Φ (A.pointsUpto r k) R' ∧ Sep w0 wr (blkR B 23 #[.pointer (some ⟨a, 0, none⟩)] :: blkR B' 26 #[.int .i64 r] :: arenaR a A :: R')) (fun i _ => n + 1 - (intOf i).toNat)
  case atStart => exact ⟨0, R, by omega, rfl, H0.out, HS0.out⟩
  case round =>
    obtain ⟨k, R', hk, rfl, hΦ, hS⟩ := hrel
    clear H0 HS HS0
    by_cases hlt : k < n
    · have hb := (hS.blk 0 rfl).cell 0
      have hc := (hS.blk 1 rfl).cell 0
      simp at hb hc
      have HS := Lib.hid hS
      have HP := Lib.hid hΦ
      have HLT := Lib.hid hlt
      have hIn : (k : Int) < (n : Int) := by omega
      have hchk : A.checkZ r (k : Int) = 0 := by
        unfold AR.checkZ
        rw [if_neg (HR0.out (by omega)), HN.out, if_neg (by omega)]
      have HCHK := Lib.hid hchk
      have hup : A.pointsUpto r (k + 1) = _ := pointsUpto_succ A r k
      obtain ⟨q, hq⟩ : ∃ q, A.wordZ r (2 + (k : Int)) = q := ⟨_, rfl⟩
      rw [hq] at hup
      have HQ := Lib.hid hq
      clear hS hΦ hq hchk
      by_cases hq0 : q = 0
      · subst hq0
        rw [if_pos rfl, List.append_nil] at hup
        have HUP := Lib.hid hup
        clear hup
        gi_wp2_with (gi_at_call 42; refine (calls_in (CFieldYes HS.out 2 rfl HW.out r (k : Int) hr63 HCHK.out (by omega) (by omega))).mono ?_; rw [HQ.out]; rintro e w1 ⟨rfl, hs⟩; have HS1 := Lib.hid hs; clear hs)
        go_roundw
        case rel => exact ⟨k + 1, R', HLT.out, by go_num, by rw [HUP.out]; exact HP.out, HS1.out⟩
        case measure => have := HLT.out; simp [intOf]; omega
      · rw [if_neg hq0] at hup
        have HUP := Lib.hid hup
        have hq0b : (q == 0) = false := by simpa using hq0
        have hpre : A.pointsUpto r k ++ [q] <+: A.pointsUpto r n := by
          rw [← hup]
          exact pointsUpto_prefix A r HLT.out
        have HPRE := Lib.hid hpre
        clear hup hpre
        gi_wp2_with (gi_at_call 42; refine (calls_in (CFieldYes HS.out 2 rfl HW.out r (k : Int) hr63 HCHK.out (by omega) (by omega))).mono ?_; rw [HQ.out]; rintro e w1 ⟨rfl, hs⟩; have HS1 := Lib.hid hs; clear hs; obtain ⟨fn, tmps, assign, body, hy, hR⟩ := HY.out (A.pointsUpto r k) q R' [] w1 HPRE.out HP.out (by simpa using HS1.out); have HR := Lib.hid hR; clear hR)
        refine HR.out.mono ?_
        simp only [List.append_nil]
        rintro e w2 (⟨rfl, R2, hΦ2, hS2⟩ | ⟨rfl, R2, hΦ2, hS2⟩)
        · have HS2 := Lib.hid hS2
          have HP2 := Lib.hid hΦ2
          clear hS2 hΦ2
          gi_wp2
          go_roundw
          case rel => exact ⟨k + 1, R2, HLT.out, by go_num, by rw [HUP.out]; exact HP2.out, HS2.out⟩
          case measure => have := HLT.out; simp [intOf]; omega
        · have HS2 := Lib.hid hS2
          have HP2 := Lib.hid hΦ2
          clear hS2 hΦ2
          gi_wp2
          refine bodyPost_ret (results_none rfl _ _ _) rfl ?_
          exact ⟨⟨_, rfl⟩, .inr ⟨_, R2, HPRE.out, HP2.out, HS2.out⟩⟩
    · obtain rfl : k = n := by omega
      have HS := Lib.hid hS
      have HP := Lib.hid hΦ
      clear hS hΦ
      gi_wp2
      go_end0
      exact ⟨⟨_, rfl⟩, .inl ⟨R', HP.out, HS.out⟩⟩
end Go.Proofs.Ytapbphbnffggnaa
