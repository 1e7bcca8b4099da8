/-
  A set of numbers: its methods and its iterator, where memory is a list of things. Conditions: at most 100000 numbers.
-/
import Derived.Test.YtapbphbnffggnaaRange
import Derived.Outline
namespace Go.Proofs.Ytapbphbnffggnaa
set_option linter.unusedVariables false
set_option linter.unusedSimpArgs false
open Go.RowKit Go.Shelf
attribute [local go_sem] Oper.semAt_some wide_fn round_fn wide_depth round_depth
attribute [local simp] wide_fn round_fn wide_depth round_depth

/-- The numbers of a set, rising. -/
def elems (n : Nat) (S : Nat → Bool) : List Nat := (List.range n).filter S
theorem elems_succ (n : Nat) (S : Nat → Bool) : elems (n + 1) S = elems n S ++ (if S n then [n] else []) := by
  unfold elems
  rw [List.range_succ, List.filter_append]
  cases h : S n <;> simp [h]
theorem elems_prefix (S : Nat → Bool) {k n : Nat} (h : k ≤ n) : elems k S <+: elems n S := by
  induction n with
  | zero => obtain rfl : k = 0 := by omega
            exact List.prefix_refl _
  | succ n ih =>
    by_cases e : k = n + 1
    · subst e; exact List.prefix_refl _
    · exact (ih (by omega)).trans (by rw [elems_succ]; exact List.prefix_append _ _)
theorem mem_elems {n : Nat} {S : Nat → Bool} {i : Nat} : i ∈ elems n S ↔ i < n ∧ S i = true := by simp [elems]

section
variable {w0 w : World} {L : List Res} {b : Nat} {n : Int} {S : Nat → Bool}

theorem set_n (h : Sep w0 w L) (i : Nat) (hi : L[i]? = some (setR b n S)) : w.cell? ⟨b, 0, none⟩ = some (.int .i64 n) := by
  obtain ⟨F, ⟨lo, rfl, W, _, _, hs⟩, _⟩ := h.at_ hi
  cases lo with
  | none => have := hs.1.cell 0; simpa [setCells] using this
  | some g => have := hs.1.cell 0; simpa [setCells] using this
theorem TSHas (h : Sep w0 w L) (i : Nat) (hi : L[i]? = some (setR b n S)) (hn1 : n ≤ 100000) (I : Nat) (hI : (I : Int) < n) :
    Calls Try.prog 56 #[.pointer (some ⟨b, 0, none⟩), .int .i64 (I : Int)] w fun e w' => e = .returned (.bool (S I)) ∧ Sep w0 w' L := by
  refine h.look i hi ?_
  rintro F ⟨lo, rfl, hs⟩
  refine (SHasIn hs hn1 I hI).mono ?_
  rintro e w' ⟨lo', rfl, hs', hg, hc⟩
  exact ⟨_, rfl, ⟨lo', rfl, hs'⟩, hg, hc⟩
theorem TSAll (h : Sep w0 w L) (b : Nat) : Calls Try.prog 55 #[.pointer (some ⟨b, 0, none⟩)] w fun e w' => e = .returned (.func (.func 65) #[] #[.pointer (some ⟨w.heap.size, 0, none⟩)]) ∧ Sep w0 w' (blkR w.heap.size 86 #[.pointer (some ⟨b, 0, none⟩)] :: L) := by
  have hmf : ∀ (fn : Fn) (first cap : Array Value) (w : World), (Instr.makeFunc fn first cap).run Try.prog w = .ok (.func fn first cap) w := fun _ _ _ _ => rfl
  have H := Lib.hid h
  clear h
  go_enter Try.func55, Try.ntmps55
  go_wp2_with fail
  go_ret
  exact ⟨rfl, H.out.alloc _⟩
end

set_option maxHeartbeats 2000000 in
theorem set_iter (B b : Nat) (n : Nat) (S : Nat → Bool) (hn : n ≤ 100000) :
    Iter Try.prog 65 #[.pointer (some ⟨B, 0, none⟩)] (fun i : Nat => #[.int .i64 (i : Int)]) (elems n S) (fun _ => [blkR B 86 #[.pointer (some ⟨b, 0, none⟩)], setR b n S]) := by
  intro l w0 Φ Φx W R hY h0 hS
  dsimp only [List.cons_append, List.nil_append] at hY hS
  have HY := Lib.hid hY
  have HS := Lib.hid hS
  have H0 := Lib.hid h0
  have hb := (hS.blk 0 rfl).cell 0
  have hn0 := set_n hS 1 rfl
  simp at hb
  clear hY h0 hS
  refine calls_wide ?_
  gi_enter Try.func65, Try.ntmps65
  gi_wp2
  clear hn0 hb
  gi_loopw [8] (fun i wr => ∃ (k : Nat) (R' : List Res), k ≤ n ∧ i = .int .i64 k ∧ Φ (elems k S) R' ∧ Sep w0 wr (blkR B 86 #[.pointer (some ⟨b, 0, none⟩)] :: setR b n S :: R')) (fun i _ => n + 1 - (intOf i).toNat)
  case atStart => exact ⟨0, R, by omega, rfl, H0.out, HS.out⟩
  case round =>
    obtain ⟨k, R', hk, rfl, hΦ, hS⟩ := hrel
    clear H0 HS
    by_cases hlt : k < n
    · have hb := (hS.blk 0 rfl).cell 0
      simp at hb
      have HS := Lib.hid hS
      have HP := Lib.hid hΦ
      have HLT := Lib.hid hlt
      have hIn : (k : Int) < (n : Int) := by omega
      have hn1 : (n : Int) ≤ 100000 := by omega
      clear hS hΦ
      obtain ⟨B', hB⟩ : ∃ B', S k = B' := ⟨_, rfl⟩
      have HB := Lib.hid hB
      clear hB
      cases B'
      · gi_wp2_with (gi_at_call 56; refine (calls_in (TSHas HS.out 1 rfl hn1 k hIn)).mono ?_; rw [HB.out]; rintro e w1 ⟨rfl, hs⟩; have HS1 := Lib.hid hs; clear hs)
        go_roundw
        case rel => exact ⟨k + 1, R', HLT.out, by go_num, by rw [elems_succ, HB.out]; simpa using HP.out, HS1.out⟩
        case measure => have := HLT.out; simp [intOf]; omega
      · gi_wp2_with (gi_at_call 56; refine (calls_in (TSHas HS.out 1 rfl hn1 k hIn)).mono ?_; rw [HB.out]; rintro e w1 ⟨rfl, hs⟩; have HS1 := Lib.hid hs; clear hs; obtain ⟨fn, tmps, assign, body, hy, hR⟩ := HY.out (elems k S) k R' [] w1 (by rw [show elems k S ++ [k] = elems (k + 1) S by rw [elems_succ, HB.out]; rfl]; exact elems_prefix S HLT.out) HP.out (by simpa using HS1.out); have HR := Lib.hid hR; clear hR)
        refine HR.out.mono ?_
        simp only [List.append_nil]
        rintro e w2 (⟨rfl, R2, hΦ2, hS2⟩ | ⟨rfl, R2, hΦ2, hS2⟩)
        · have HS2 := Lib.hid hS2
          have HP2 := Lib.hid hΦ2
          clear hS2 hΦ2
          gi_wp2
          go_roundw
          case rel => exact ⟨k + 1, R2, HLT.out, by go_num, by rw [elems_succ, HB.out]; exact HP2.out, HS2.out⟩
          case measure => have := HLT.out; simp [intOf]; omega
        · have HS2 := Lib.hid hS2
          have HP2 := Lib.hid hΦ2
          clear hS2 hΦ2
          gi_wp2
          refine bodyPost_ret (results_none rfl _ _ _) rfl ?_
          exact ⟨⟨_, rfl⟩, .inr ⟨elems k S ++ [k], R2, by rw [show elems k S ++ [k] = elems (k + 1) S by rw [elems_succ, HB.out]; rfl]; exact elems_prefix S HLT.out, HP2.out, HS2.out⟩⟩
    · obtain rfl : k = n := by omega
      have HS := Lib.hid hS
      have HP := Lib.hid hΦ
      clear hS hΦ
      gi_wp2
      go_end0
      exact ⟨⟨_, rfl⟩, .inl ⟨R', HP.out, HS.out⟩⟩
end Go.Proofs.Ytapbphbnffggnaa
