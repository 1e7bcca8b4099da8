/-
  Regions that draw their order, whose operations and calls leave the things in memory as they were. Conditions: no program is named here.
-/
import Derived.Test.YtapbphbnffggnaaRange
import Derived.Sort.QuietIn
import Derived.Sort.BigQuietIn
import Derived.Sort.QuietThIn
import Derived.BigQuiet
import Derived.Deep.Quiet
namespace Go.Proofs.Ytapbphbnffggnaa
set_option linter.unusedVariables false
set_option linter.unusedSimpArgs false
open Go.RowKit Go.Shelf

/-- A world in which these things lie. -/
structure SepW (w0 : World) (L : List Res) where
  w' : World
  h : Sep w0 w' L

section
variable {P : Program} {id : Nat} {Q : Exit → Act → World → Prop} {a : Act} {w w0 : World} {L : List Res} {l : List Oper}

theorem region_sep (S : Sep w0 w L) (hm : P.follows .mixedOrders = true) (hB : Region.lexB .any l.toArray = true)
    (h : Nonempty (SepW w0 L) → wpQuiet P l.toArray (fun w' => ∃ x : SepW w0 L, w' = x.w') (fun a' => ∀ w', (∃ x : SepW w0 L, w' = x.w') → Q .normal a' w') l a) : (Code.region id l.toArray true).wp P Q a w :=
  wp_region_quiet (C := fun w' => ∃ x : SepW w0 L, w' = x.w') hm hB ⟨⟨_, S.drew⟩, rfl⟩ (by simpa using h ⟨⟨_, S⟩⟩)
theorem regionIn_sep (S : Sep w0 w L) (hm : P.follows .mixedOrders = true) (hB : Region.lexB .any l.toArray = true)
    (h : Nonempty (SepW w0 L) → wpQuietIn Fence.wide 0 P l.toArray (fun w' => ∃ x : SepW w0 L, w' = x.w') (fun a' => ∀ w', (∃ x : SepW w0 L, w' = x.w') → Q .normal a' w') l a) : (Code.region id l.toArray true).wpIn Fence.wide 0 P Q a w :=
  wpIn_region_quiet (C := fun w' => ∃ x : SepW w0 L, w' = x.w') rfl hm hB ⟨⟨_, S.drew⟩, rfl⟩ (by simpa using h ⟨⟨_, S⟩⟩)

theorem sep_calls {f : FuncId} {args : Array Value} {x : SepW w0 L} {v : Value} (h : Calls P f args x.w' fun e w' => e = .returned v ∧ Sep w0 w' L) :
    Calls P f args x.w' fun e w'' => e = .returned v ∧ ∃ y : SepW w0 L, w'' = y.w' :=
  h.mono fun _ w'' ⟨he, hc⟩ => ⟨he, ⟨w'', hc⟩, rfl⟩
theorem same_calls {f : FuncId} {args : Array Value} {x : SepW w0 L} {v : Value} (h : Calls P f args x.w' fun e w' => e = .returned v ∧ x.w' = w') :
    Calls P f args x.w' fun e w'' => e = .returned v ∧ ∃ y : SepW w0 L, w'' = y.w' :=
  h.mono fun _ w'' ⟨he, hc⟩ => ⟨he, x, hc.symm⟩
theorem sep_calls_in {f : FuncId} {args : Array Value} {x : SepW w0 L} {v : Value} (h : Calls P f args x.w' fun e w' => e = .returned v ∧ Sep w0 w' L) :
    CallsIn Fence.wide 0 P f args x.w' fun e w'' => e = .returned v ∧ ∃ y : SepW w0 L, w'' = y.w' := calls_in (sep_calls h)
theorem same_calls_in {f : FuncId} {args : Array Value} {x : SepW w0 L} {v : Value} (h : Calls P f args x.w' fun e w' => e = .returned v ∧ x.w' = w') :
    CallsIn Fence.wide 0 P f args x.w' fun e w'' => e = .returned v ∧ ∃ y : SepW w0 L, w'' = y.w' := calls_in (same_calls h)
end
end Go.Proofs.Ytapbphbnffggnaa
