/-
  The return of a function whose result lies in a box, and that held loops over functions. Conditions: as the theorem says.
-/
import Derived.Test.YtapbphbnffggnaaResult
import Derived.Test.YtapbphbnffggnaaMarks
namespace Go.Proofs.Ytapbphbnffggnaa
set_option linter.unusedVariables false
set_option linter.unusedSimpArgs false
open Go.RowKit Go.Shelf

theorem leavesM_box {fn : Func} {tmps : Array Value} {w0 w : World} {L : List Res} {Ds : List Nat} {Rt : Ending → World → Prop} {s : Tmp} {b : Nat} {x : Bool} (S : Sep w0 w (marksR Ds :: L)) (j : Nat) (hj : L[j]? = some (blkR b 4 #[.bool x]))
    (h : fn.results = #[.cell s 4]) (hp : tmps.getD s undef = .pointer (some ⟨b, 0, none⟩)) (hR : ∀ w', Sep w0 w' L → Rt (.returned (.bool x)) w') :
    LeavesInM Fence.wide 0 Try.prog fn tmps Rt (mk Ds) .returning w := by
  refine leavesM (L := L) (fun w' hs => ?_) Ds w S
  have hc := (hs.blk j hj).cell 0
  simp only [List.getElem?_toArray, List.getElem?_cons_zero] at hc
  exact ⟨_, results_bool h hp hc, hR w' hs⟩
end Go.Proofs.Ytapbphbnffggnaa
