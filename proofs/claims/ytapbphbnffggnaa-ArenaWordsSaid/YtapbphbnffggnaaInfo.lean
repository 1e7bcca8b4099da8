/-
  What the program's table of types says of some element types. Conditions: none.
-/
import Derived.Test.YtapbphbnffggnaaRows
import Derived.Test.YtapbphbnffggnaaRow
namespace Go.Proofs.Ytapbphbnffggnaa
set_option linter.unusedVariables false
set_option linter.unusedSimpArgs false
theorem refInfo : (Try.prog.info? 26).map (fun i => (i.zero, i.size, i.bytes)) = some (some (.int .i64 0), 1, 8) := by kernel_rfl
end Go.Proofs.Ytapbphbnffggnaa
