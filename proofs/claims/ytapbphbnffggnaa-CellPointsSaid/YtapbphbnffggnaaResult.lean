/-
  The return of a function whose result lies in a box. Conditions: as each theorem says.
-/
import Derived.Test.YtapbphbnffggnaaRows
import Derived.Test.YtapbphbnffggnaaRange
namespace Go.Proofs.Ytapbphbnffggnaa
set_option linter.unusedVariables false
set_option linter.unusedSimpArgs false
open Go.RowKit Go.Shelf

theorem results_bool {fn : Func} {s : Tmp} (h : fn.results = #[.cell s 4]) {tmps : Array Value} {w : World} {b : Nat} {x : Bool} (hp : tmps.getD s undef = .pointer (some ⟨b, 0, none⟩)) (hc : w.cell? ⟨b, 0, none⟩ = some (.bool x)) :
    (results fn tmps).run Try.prog w = .ok (.bool x) w := by
  have hp' : tmps[s]?.getD undef = .pointer (some ⟨b, 0, none⟩) := by simpa using hp
  simp [results, h, hp', go_sem, hc]

/-- The return of a function that held a loop over a function. -/
theorem leaves_box {fn : Func} {tmps : Array Value} {D : Nat} {w0 w : World} {L : List Res} {Rt : Ending → World → Prop} {s : Tmp} {b : Nat} {x : Bool} (S : Sep w0 w L) (i : Nat) (hi : L[i]? = some (objR D (.deferred (some [])))) (j : Nat) (hj : L[j]? = some (blkR b 4 #[.bool x])) (hne : i ≠ j)
    (h : fn.results = #[.cell s 4]) (hp : tmps.getD s undef = .pointer (some ⟨b, 0, none⟩)) (hR : ∀ w', Sep w0 w' (L.set i (objR D (.deferred none))) → Rt (.returned (.bool x)) w') :
    LeavesInM Fence.wide 0 Try.prog fn tmps Rt [{ target := .collected D, args := #[] }] .returning w := by
  have S' := S.putObj i hi (.deferred none)
  refine ⟨by simp, .inl ⟨D, _, rfl, run_takeDeferred (S.obj hi), ?_⟩⟩
  have hc := (S'.blk j (by rw [List.getElem?_set_ne hne]; exact hj)).cell 0
  simp only [List.getElem?_toArray, List.getElem?_cons_zero] at hc
  exact ⟨_, results_bool h hp hc, hR _ S'⟩
theorem leaves_box0 {fn : Func} {tmps : Array Value} {w0 w : World} {L : List Res} {Rt : Ending → World → Prop} {s : Tmp} {b : Nat} {x : Bool} (S : Sep w0 w L) (j : Nat) (hj : L[j]? = some (blkR b 4 #[.bool x]))
    (h : fn.results = #[.cell s 4]) (hp : tmps.getD s undef = .pointer (some ⟨b, 0, none⟩)) (hR : Rt (.returned (.bool x)) w) :
    LeavesInM Fence.wide 0 Try.prog fn tmps Rt [] .returning w := by
  have hc := (S.blk j hj).cell 0
  simp only [List.getElem?_toArray, List.getElem?_cons_zero] at hc
  exact ⟨_, results_bool h hp hc, hR⟩
end Go.Proofs.Ytapbphbnffggnaa
