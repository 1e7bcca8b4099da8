/-
  What a set of numbers (layer 1) answers. Conditions: as each theorem says.
-/
import Derived.Test.YtapbphbnffggnaaSet
import Derived.Laws.BitsAllLaws
import Derived.Laws.ShiftsVarLaws
import Derived.Deep.RegionWith
import Derived.Test.YtapbphbnffggnaaStage
namespace Go.Proofs.Ytapbphbnffggnaa
set_option linter.unusedVariables false
set_option linter.unusedSimpArgs false
open Go.RowKit

def bitOf (W : Nat → Nat) (i : Nat) : Bool := (W (i / 64)).testBit (i % 64)

section
variable {w : World} {b : Nat} {n : Int} {W : Nat → Nat} {lo : Option Nat}

theorem SPlaceOut (h : SetAt w b n W lo) (i : Int) (hi : i < 0 ∨ n ≤ i) :
    Calls Try.prog 62 #[.pointer (some ⟨b, 0, none⟩), .int .i64 i] w fun e w' => e = .returned (.tuple #[.pointer none, .int .u64 0, .bool false]) ∧ w = w' := by
  have h0 : w.cell? ⟨b, 0, none⟩ = some (.int .i64 n) := by
    cases lo with
    | none => have := h.1.cell 0; simpa [setCells] using this
    | some g => have := h.1.cell 0; simpa [setCells] using this
  clear h
  by_cases h1 : i < 0
  · clear hi
    go_enter Try.func62, Try.ntmps62
    go_wp2_with fail
    go_ret3
    exact ⟨rfl, rfl⟩
  · have h2 : n ≤ i := by omega
    clear hi
    go_enter Try.func62, Try.ntmps62
    go_wp2_with fail
    go_ret3
    exact ⟨rfl, rfl⟩

theorem SPlaceIn (h : SetAt w b n W lo) (hn1 : n ≤ 100000) (I : Nat) (hi : (I : Int) < n) :
    Calls Try.prog 62 #[.pointer (some ⟨b, 0, none⟩), .int .i64 (I : Int)] w fun e w' => ∃ g, e = .returned (.tuple #[.pointer (some ⟨g, I / 64, none⟩), .int .u64 ((2 ^ (I % 64) : Nat) : Int), .bool true]) ∧ SetAt w' b n W (some g) ∧ (lo = some g ∨ w.heap.size ≤ g) ∧ Chg [b] w w' := by
  have h0 : w.cell? ⟨b, 0, none⟩ = some (.int .i64 n) := by
    cases lo with
    | none => have := h.1.cell 0; simpa [setCells] using this
    | some g => have := h.1.cell 0; simpa [setCells] using this
  have hi0 : (0 : Int) ≤ (I : Int) := by omega
  have HS : Hid (∀ k, SetAt (w.drewN k) b n W lo) := Lib.hid (by
    intro k
    cases lo with
    | none => exact h
    | some g => exact h)
  obtain ⟨q, hq⟩ : ∃ q, I / 64 = q := ⟨_, rfl⟩
  obtain ⟨r, hr⟩ : ∃ r, I % 64 = r := ⟨_, rfl⟩
  have hqi : (I : Int) / 64 = (q : Int) := by omega
  have hri : (I : Int) % 64 = (r : Int) := by omega
  have hr64 : r < 64 := by omega
  have hlt : q < wordsOf n := by unfold wordsOf; omega
  have hwq : IntKind.i64.wrap (q : Int) = (q : Int) := by rw [IntKind.wrap_i64]; omega
  have htm : (I : Int).tmod 64 = (r : Int) := by rw [Int.tmod_eq_emod_of_nonneg (by omega)]; omega
  have hr0 : (0 : Int) ≤ (r : Int) := by omega
  have hw2 : IntKind.u64.wrap ((2 : Int) ^ r) = ((2 ^ r : Nat) : Int) := by
    have hp : 2 ^ r < 18446744073709551616 := Nat.pow_lt_pow_right (by decide) hr64
    have e : ((2 : Int) ^ r) = ((2 ^ r : Nat) : Int) := by simp
    rw [e, IntKind.wrap_u64]
    generalize 2 ^ r = p at hp ⊢
    omega
  rw [hq, hr]
  have hn0 : 0 ≤ n := by omega
  clear h hq hr
  go_enter Try.func62, Try.ntmps62
  go_wp2_with fail
  go_region_with (go_at_call 67; refine (SWords (HS.out _) hn0 hn1).mono ?_; rintro e w1 ⟨g, rfl, hs, hg, hc⟩; have HS1 := Lib.hid hs; have HG := Lib.hid hg; have HC := Lib.hid hc; clear hs hg hc; unfold rowAt)
  all_goals go_wp2_with fail
  all_goals go_ret3
  all_goals exact ⟨g, rfl, HS1.out, HG.out, ((Chg.refl [b] w).drewN 1).trans HC.out (by simp)⟩
end

/-- Atomic Or, And, Load of one word. -/
theorem or_word (a : Addr) (x y : Nat) (hx : x < 18446744073709551616) (hy : y < 18446744073709551616) (w : World) (hc : w.cell? a = some (.int .u64 (x : Int))) (hz : w.frozen? a = false) :
    (callFunc 68 #[.pointer (some a), .int .u64 (y : Int)]).run Try.prog w = .ok (.value (.int .u64 (x : Int))) (w.setCell a (.int .u64 ((x ||| y : Nat) : Int))) := by
  rw [run_callFunc_extern Try.func68 (by kernel_rfl) (by kernel_rfl) (by kernel_rfl) (show Extern.find Try.f68 = some (Extern.Atomic.update (Op.intBits .or) .u64 false) by kernel_rfl)]
  change (Sem.run Try.prog (do
    let a' ← asAddr (.pointer (some a))
    let old ← Extern.Atomic.read (.int .u64) a'
    let new ← Op.intBits .or .u64 (← asInt old) (← asInt (.int .u64 (y : Int)))
    store a' new .atomic
    pure (if false = true then new else old)) w).andThen _ = _
  have hs : (Op.intBits .or .u64 (x : Int) (y : Int)).run Try.prog w = .ok (.int .u64 ((x ||| y : Nat) : Int)) w := by
    have := u64_or_nat x y hx hy
    rw [← this]
    rfl
  simp [Extern.Atomic.read, asAddr, asInt, asIntOf, hc, hz, hs, run_store Try.prog w a (.int .u64 ((x ||| y : Nat) : Int)) .atomic rfl, Result.andThen]

theorem and_word (a : Addr) (x y : Nat) (hx : x < 18446744073709551616) (hy : y < 18446744073709551616) (w : World) (hc : w.cell? a = some (.int .u64 (x : Int))) (hz : w.frozen? a = false) :
    (callFunc 69 #[.pointer (some a), .int .u64 (y : Int)]).run Try.prog w = .ok (.value (.int .u64 (x : Int))) (w.setCell a (.int .u64 ((x &&& y : Nat) : Int))) := by
  rw [run_callFunc_extern Try.func69 (by kernel_rfl) (by kernel_rfl) (by kernel_rfl) (show Extern.find Try.f69 = some (Extern.Atomic.update (Op.intBits .and) .u64 false) by kernel_rfl)]
  change (Sem.run Try.prog (do
    let a' ← asAddr (.pointer (some a))
    let old ← Extern.Atomic.read (.int .u64) a'
    let new ← Op.intBits .and .u64 (← asInt old) (← asInt (.int .u64 (y : Int)))
    store a' new .atomic
    pure (if false = true then new else old)) w).andThen _ = _
  have hs : (Op.intBits .and .u64 (x : Int) (y : Int)).run Try.prog w = .ok (.int .u64 ((x &&& y : Nat) : Int)) w := by
    have := u64_and_nat x y hx hy
    rw [← this]
    rfl
  simp [Extern.Atomic.read, asAddr, asInt, asIntOf, hc, hz, hs, run_store Try.prog w a (.int .u64 ((x &&& y : Nat) : Int)) .atomic rfl, Result.andThen]

/-- Atomic words, by their methods. -/
theorem ALoad (g q : Nat) (x : Int) (w : World) (hc : w.cell? ⟨g, q, none⟩ = some (.int .u64 x)) :
    Calls Try.prog 66 #[.pointer (some ⟨g, q, none⟩)] w fun e w' => e = .returned (.int .u64 x) ∧ w = w' := by
  have hl := run_call_load (P := Try.prog) Try.func70 (by kernel_rfl) (by kernel_rfl) (by kernel_rfl) .u64 (by kernel_rfl) hc
  go_enter Try.func66, Try.ntmps66
  go_wp2
  go_ret
  exact ⟨rfl, rfl⟩

theorem AOr (g q x y : Nat) (hx : x < 18446744073709551616) (hy : y < 18446744073709551616) (w : World) (hc : w.cell? ⟨g, q, none⟩ = some (.int .u64 (x : Int))) (hz : w.frozen? ⟨g, q, none⟩ = false) :
    Calls Try.prog 63 #[.pointer (some ⟨g, q, none⟩), .int .u64 (y : Int)] w fun e w' => e = .returned (.int .u64 (x : Int)) ∧ w' = w.setCell ⟨g, q, none⟩ (.int .u64 ((x ||| y : Nat) : Int)) := by
  have hl := or_word ⟨g, q, none⟩ x y hx hy w hc hz
  go_enter Try.func63, Try.ntmps63
  go_wp2
  go_ret
  exact ⟨rfl, rfl⟩

theorem AAnd (g q x y : Nat) (hx : x < 18446744073709551616) (hy : y < 18446744073709551616) (w : World) (hc : w.cell? ⟨g, q, none⟩ = some (.int .u64 (x : Int))) (hz : w.frozen? ⟨g, q, none⟩ = false) :
    Calls Try.prog 64 #[.pointer (some ⟨g, q, none⟩), .int .u64 (y : Int)] w fun e w' => e = .returned (.int .u64 (x : Int)) ∧ w' = w.setCell ⟨g, q, none⟩ (.int .u64 ((x &&& y : Nat) : Int)) := by
  have hl := and_word ⟨g, q, none⟩ x y hx hy w hc hz
  go_enter Try.func64, Try.ntmps64
  go_wp2
  go_ret
  exact ⟨rfl, rfl⟩

end Go.Proofs.Ytapbphbnffggnaa
