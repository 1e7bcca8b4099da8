/-
  sync.Once and the atomic words, in the run of one goroutine, each function a contract. Conditions: as each theorem says. The pattern of the six contracts is the kit's worked example Lazy.
-/
import Derived.Test.YtapbphbnffggnaaRows
import Derived.Test.YtapbphbnffggnaaKit
import Derived.Defers
import Derived.Laws.Pointers
import Derived.Laws.LoneSync
import Derived.Laws.MakeOwn
import Derived.Laws.NewBlocks
import Derived.RegionTactic
import Derived.RegionCalls
import Derived.ChangeAlike
namespace Go.Proofs.Ytapbphbnffggnaa
set_option linter.unusedVariables false
set_option linter.unusedSimpArgs false
open Go.RowKit

theorem disable (w : World) : (callFunc 83 #[]).run Try.prog w = .ok (.value (.tuple #[])) w := run_call_mark0 Try.func83 (by kernel_rfl) (by kernel_rfl) (by kernel_rfl) .disable (by kernel_rfl) w
theorem enable (w : World) : (callFunc 85 #[]).run Try.prog w = .ok (.value (.tuple #[])) w := run_call_mark0 Try.func85 (by kernel_rfl) (by kernel_rfl) (by kernel_rfl) .enable (by kernel_rfl) w
theorem acquire (a : Addr) (w : World) : (callFunc 86 #[.pointer (some a)]).run Try.prog w = .ok (.value (.tuple #[])) w := run_call_marked Try.func86 (by kernel_rfl) (by kernel_rfl) (by kernel_rfl) .acquire (by kernel_rfl) a w
theorem releaseMerge (a : Addr) (w : World) : (callFunc 88 #[.pointer (some a)]).run Try.prog w = .ok (.value (.tuple #[])) w := run_call_marked Try.func88 (by kernel_rfl) (by kernel_rfl) (by kernel_rfl) .releaseMerge (by kernel_rfl) a w

theorem store_deferred (a : Addr) (x : Value) (u : FrameMode) (w : World) (hc : w.cell? a = some x) (hz : w.frozen? a = false) :
    CallsD Try.prog 78 #[.pointer (some a), .bool true] u w fun e u' w' => u' = u ∧ (e = .returned (.tuple #[]) ∧ w' = w.drew.setCell a (.int .u32 1)) := by
  have hc' : w.drew.cell? a = some x := by go_simp
  have hz' : w.drew.frozen? a = false := by go_simp
  have hst := run_call_store (P := Try.prog) Try.func81 (by kernel_rfl) (by kernel_rfl) (by kernel_rfl) (by kernel_rfl) (k := .u32) (y := 1) hc' hz'
  go_enter_d Try.func78, Try.ntmps78
  go_wp2
  go_region_calls
  all_goals (go_end0; exact ⟨rfl, rfl⟩)

set_option maxRecDepth 100000 in
theorem unlock_deferred (a : Addr) (u : FrameMode) (w : World) (hc : w.cell? a = some (.int .i32 1)) (hz : w.frozen? a = false) :
    CallsD Try.prog 77 #[.pointer (some a)] u w fun e u' w' => u' = u ∧ (e = .returned (.tuple #[]) ∧ w' = w.setCell a (.int .i32 0)) := by
  have hd := disable
  have he := enable
  have hr := releaseMerge
  have hadd := run_call_add (P := Try.prog) Try.func89 (by kernel_rfl) (by kernel_rfl) (by kernel_rfl) .i32 (by kernel_rfl) (y := -1) (s := 0) hc hz (by simp [go_sem]; rfl)
  have hcv := run_convert_to_unsafe (P := Try.prog) (src := 142) (dst := 146) Try.underlying142 Try.underlying146 (by kernel_rfl) hc
  go_enter_d Try.func77, Try.ntmps77
  go_wp2
  go_end0
  go_wp2
  go_end0
  exact ⟨rfl, rfl⟩

set_option maxRecDepth 100000 in
theorem lock_free (a : Addr) (w : World) (hc : w.cell? a = some (.int .i32 0)) (hz : w.frozen? a = false) :
    Calls Try.prog 76 #[.pointer (some a)] w fun e w' => e = .returned (.tuple #[]) ∧ w' = w.setCell a (.int .i32 1) := by
  have hd := disable
  have he := enable
  have ha := acquire
  have hcas := run_call_cas_hit (P := Try.prog) Try.func84 (by kernel_rfl) (by kernel_rfl) (by kernel_rfl) .i32 (by kernel_rfl) (y := 1) hc hz
  have hc' : (w.setCell a (.int .i32 1)).cell? a = some (.int .i32 1) := World.cell?_setCell_same w a _ hc
  have hcv := run_convert_to_unsafe (P := Try.prog) (src := 142) (dst := 146) Try.underlying142 Try.underlying146 (by kernel_rfl) hc'
  go_enter Try.func76, Try.ntmps76
  go_wp2
  first | go_end0 | (simp only [Exit.inBlock, Exit.then]; refine bodyPost_ret (results_none rfl _ _ _) rfl ?_) | refine bodyPost_ret (results_none rfl _ _ _) rfl ?_
  go_wp2
  go_end0
  exact ⟨rfl, rfl⟩

/-- m words. -/
def wordCells (W : Nat → Nat) (m : Nat) : Array Value := Array.ofFn (n := m) fun k => .int .u64 ((W k.val : Nat) : Int)
theorem wordCells_get (W : Nat → Nat) (m k : Nat) (h : k < m) : (wordCells W m)[k]? = some (.int .u64 ((W k : Nat) : Int)) := by simp [wordCells, h]
theorem wordCells_set (W : Nat → Nat) (m k v : Nat) : (wordCells W m).setIfInBounds k (.int .u64 ((v : Nat) : Int)) = wordCells (fun i => if i = k then v else W i) m := by
  apply Array.ext_getElem?
  intro i
  rw [Array.getElem?_setIfInBounds]
  by_cases hi : i < m
  · rw [wordCells_get _ _ _ hi]
    by_cases h : k = i
    · subst h
      have : k < (wordCells W m).size := by simpa [wordCells] using hi
      rw [wordCells_get _ _ _ hi]; simp [this]
    · have h' : ¬ i = k := fun e => h e.symm
      simp [h, h', wordCells_get _ _ _ hi]
  · have h1 : (wordCells W m)[i]? = none := by simp [wordCells]; omega
    have h2 : (wordCells (fun i => if i = k then v else W i) m)[i]? = none := by simp [wordCells]; omega
    rw [h1, h2]
    have : ¬ i < (wordCells W m).size := by simpa [wordCells] using hi
    split <;> simp_all
theorem wordCells_made (m : Nat) : madeCells #[.int .u64 0] m = wordCells (fun _ => 0) m := by
  apply Array.ext
  · simp [wordCells, size_madeCells]
  · intro i h1 h2
    simp [wordCells, madeCells, Nat.mod_one]

theorem mk_words (m : Nat) (hm : m ≤ 1000000) (w : World) : (Instr.makeSlice 116 (.int .i64 (m : Int)) (.int .i64 (m : Int))).run Try.prog w = .ok (.slice (some ⟨w.heap.size, 0, none⟩) m m) (w.alloc (.cells (wordCells (fun _ => 0) m) 128)) := by
  obtain ⟨i, hi, hh⟩ := Option.map_eq_some_iff.1 (show (Try.prog.info? 128).map (fun i => (i.zero, i.size, i.bytes)) = some (some (.agg #[.int .u64 0]), 1, 8) by kernel_rfl)
  simp only [Prod.mk.injEq] at hh
  obtain ⟨hz, hs, hb⟩ := hh
  have := run_make (P := Try.prog) w 116 128 i (.agg #[.int .u64 0]) Try.underlying116 hi hz .i64 .i64 m m (by omega) (Int.le_refl _) (by rw [hb]; omega) (by omega)
  rw [this, hs]
  simp [Value.cells, wordCells_made]
end Go.Proofs.Ytapbphbnffggnaa
