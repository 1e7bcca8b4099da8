/-
  Walks of laws of layer 2. Conditions: each number fits its kind.
-/
import Derived.Test.YtamecbanginjmaaSizeCells0W
import Derived.Test.YtamecbanginjmaaSizeCells1W
import Derived.Test.YtamecbanginjmaaSizeCells2W
import Derived.Test.YtamecbanginjmaaSizeCellsOutW
namespace Go.Proofs.Ytamecbanginjmaa
open Go.RowKit

set_option maxRecDepth 100000 in
set_option maxHeartbeats 2000000 in
theorem sizeCells_walk (c : Int) (cell : Int) (offset : Int) (w : World) (_wc : (Lit.int .i64 c).wf = true) (_wcell : (Lit.int .i64 cell).wf = true) (_woffset : (Lit.int .i64 offset).wf = true) :
    Calls Try.prog 9 #[.int .i64 c, .int .i64 cell, .int .i64 offset] w fun e w' => e = .returned (.bool true) ∧ Below w.heap.size w w' := by
  rcases class_cases c with h | h | h | h | h
  · exact sizeCells_out c cell offset w _wc _wcell _woffset (.inl h)
  · exact sizeCells_0 c cell offset w _wc _wcell _woffset h
  · exact sizeCells_1 c cell offset w _wc _wcell _woffset h
  · exact sizeCells_2 c cell offset w _wc _wcell _woffset h
  · exact sizeCells_out c cell offset w _wc _wcell _woffset (.inr h)


end Go.Proofs.Ytamecbanginjmaa
