/-
  A region that draws its order and holds writing calls one after another, and behind them reads and calls that only make memory: the calls are taken as they come, the rest is walked once. Conditions: as each theorem says.
-/
import Derived.Test.YtapbphbnffggnaaKit
import Derived.RegionTactic
import Derived.Deep.RegionWith
import Derived.BigQuiet
namespace Go.Proofs.Ytapbphbnffggnaa
set_option linter.unusedVariables false
set_option linter.unusedSimpArgs false
open Go.RowKit

/-- From operation k on: reads, and calls that only make memory. -/
theorem wpAny_grow {P : Program} {Q : Exit → Act → World → Prop} {a : Act} {w : World} {listed : Array Bool} {l : List Oper} (k : Nat) {fuel : Nat}
    (hs : Region.noSelect l.toArray = true) (hfu : (l.drop k).length = fuel) (hB : Region.lexFrom .any l.toArray fuel k listed = true)
    (h : wpQuiet P l.toArray (fun w' => ∃ x : Later w, w' = x.w') (fun a' => ∀ w', (∃ x : Later w, w' = x.w') → Q .normal a' w') (l.drop k) a) : wpAny P .any l.toArray Q fuel listed a w := by
  subst hfu
  exact wpAny_of_quiet (Q := fun a' => ∀ w', (∃ x : Later w, w' = x.w') → Q .normal a' w') (fun _ w' hw' h => h w' hw') _ _ _ _ ⟨⟨w, Chg.refl _ _⟩, rfl⟩
    (wpAnyQ_lex hs (l.drop k) k listed a (fun j => by simp) hB h)

end Go.Proofs.Ytapbphbnffggnaa
