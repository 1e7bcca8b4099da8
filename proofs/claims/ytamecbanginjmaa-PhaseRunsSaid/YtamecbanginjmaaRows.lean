/-
  No cell of these rows narrows 'for every input' (looked for: loops, veiled, ifaces, maps, wideKeys, modest, calm, conditions, laid).
  DERIVED. THE GIVEN ROWS OF THIS SEAT. 16 by the template 'for every input the law returns true; each argument reads behind the call as it read before'; 0 by the template 'total and deterministic' (their statements: YtamecbanginjmaaTotals.lean).
  GIVEN WITH THE SEED: the statements are not yours to turn. If you find one false, say at which input.
  Laid BY PROGRAM, IN A SANDBOX (cutbox-rows.mjs): the forced cells as the released guide's own fill.sh prints them over the translation 2b5b704bcb76a692… (all of the seat's roots in one cut). By AI agents, Wed Nov 11 2026. No macro, syntax, notation, axiom, sorry.
-/
import Derived.Test.YtamecbanginjmaaChecked
import GoSem.Claim
import GoSem.ClaimJoined
import GoSem.ClaimMapViews
import Derived.JoinedTies
import Derived.KernelRfl
namespace Go.Proofs.Ytamecbanginjmaa
/- THE CELL 'sum', in the pinned program and in every row, IS THE sha256 OF THE DUMP (.gsa) THAT YtamecbanginjmaaProg.lean LOADS. Nothing in Lean hashes anything: it is a label: what it is worth is what the hold of that sum in a sandbox is worth. -/
noncomputable def Try.pinned : Pinned := { name := "ytamecbanginjmaa", sum := "2b5b704bcb76a692f0eed5b7809d3630bc178ebca91ed5ff0ba4f86ce0af7408", checked := Try.checked }
namespace Rows
def none {H : Type} : Left H := { results := [], args := [] }

/-- 'hawthornlaw10.GreyTurns': WHATEVER THE INPUT: true; the input reads as it did. -/
def greyTurnsSpec : ChangeSpec := { name := "greyTurns", fn := fun _ => fun
  | [d1, d2] => { results := [.lit (.bool true)], args := [d1, d2] }
  | _ => none }
def greyTurnsRow : OpenClaim := { program := "ytamecbanginjmaa", sum := "2b5b704bcb76a692f0eed5b7809d3630bc178ebca91ed5ff0ba4f86ce0af7408", func := "hawthorn/hawthornlaw10.GreyTurns", spec := "greyTurns", apart := false }
def GreyTurnsSaid : Prop := greyTurnsRow.holds Try.pinned (OpenSpec.ofChange greyTurnsSpec)

/-- ITS FALSE NEIGHBOUR: 'it returns false'. Refute it at one input. -/
def greyTurnsWrong : ChangeSpec := { name := "greyTurns", fn := fun _ => fun
  | [d1, d2] => { results := [.lit (.bool false)], args := [d1, d2] }
  | _ => none }
def GreyTurnsWrongFalsely : Prop := greyTurnsRow.holds Try.pinned (OpenSpec.ofChange greyTurnsWrong)

/-- 'hawthornlaw10.GreyAgain': WHATEVER THE INPUT: true; the input reads as it did. -/
def greyAgainSpec : ChangeSpec := { name := "greyAgain", fn := fun _ => fun
  | [d1, d2] => { results := [.lit (.bool true)], args := [d1, d2] }
  | _ => none }
def greyAgainRow : OpenClaim := { program := "ytamecbanginjmaa", sum := "2b5b704bcb76a692f0eed5b7809d3630bc178ebca91ed5ff0ba4f86ce0af7408", func := "hawthorn/hawthornlaw10.GreyAgain", spec := "greyAgain", apart := false }
def GreyAgainSaid : Prop := greyAgainRow.holds Try.pinned (OpenSpec.ofChange greyAgainSpec)

/-- ITS FALSE NEIGHBOUR: 'it returns false'. Refute it at one input. -/
def greyAgainWrong : ChangeSpec := { name := "greyAgain", fn := fun _ => fun
  | [d1, d2] => { results := [.lit (.bool false)], args := [d1, d2] }
  | _ => none }
def GreyAgainWrongFalsely : Prop := greyAgainRow.holds Try.pinned (OpenSpec.ofChange greyAgainWrong)

/-- 'hawthornlaw10.GreyNone': WHATEVER THE INPUT: true; the input reads as it did. -/
def greyNoneSpec : ChangeSpec := { name := "greyNone", fn := fun _ => fun
  | [d1, d2] => { results := [.lit (.bool true)], args := [d1, d2] }
  | _ => none }
def greyNoneRow : OpenClaim := { program := "ytamecbanginjmaa", sum := "2b5b704bcb76a692f0eed5b7809d3630bc178ebca91ed5ff0ba4f86ce0af7408", func := "hawthorn/hawthornlaw10.GreyNone", spec := "greyNone", apart := false }
def GreyNoneSaid : Prop := greyNoneRow.holds Try.pinned (OpenSpec.ofChange greyNoneSpec)

/-- ITS FALSE NEIGHBOUR: 'it returns false'. Refute it at one input. -/
def greyNoneWrong : ChangeSpec := { name := "greyNone", fn := fun _ => fun
  | [d1, d2] => { results := [.lit (.bool false)], args := [d1, d2] }
  | _ => none }
def GreyNoneWrongFalsely : Prop := greyNoneRow.holds Try.pinned (OpenSpec.ofChange greyNoneWrong)

/-- 'hawthornlaw10.GreyRuns': WHATEVER THE INPUT: true; the input reads as it did. -/
def greyRunsSpec : ChangeSpec := { name := "greyRuns", fn := fun _ => fun
  | [d1, d2] => { results := [.lit (.bool true)], args := [d1, d2] }
  | _ => none }
def greyRunsRow : OpenClaim := { program := "ytamecbanginjmaa", sum := "2b5b704bcb76a692f0eed5b7809d3630bc178ebca91ed5ff0ba4f86ce0af7408", func := "hawthorn/hawthornlaw10.GreyRuns", spec := "greyRuns", apart := false }
def GreyRunsSaid : Prop := greyRunsRow.holds Try.pinned (OpenSpec.ofChange greyRunsSpec)

/-- ITS FALSE NEIGHBOUR: 'it returns false'. Refute it at one input. -/
def greyRunsWrong : ChangeSpec := { name := "greyRuns", fn := fun _ => fun
  | [d1, d2] => { results := [.lit (.bool false)], args := [d1, d2] }
  | _ => none }
def GreyRunsWrongFalsely : Prop := greyRunsRow.holds Try.pinned (OpenSpec.ofChange greyRunsWrong)

/-- 'hawthornlaw02.SizeClasses': WHATEVER THE INPUT: true; the input reads as it did. -/
def sizeClassesSpec : ChangeSpec := { name := "sizeClasses", fn := fun _ => fun
  | [d] => { results := [.lit (.bool true)], args := [d] }
  | _ => none }
def sizeClassesRow : OpenClaim := { program := "ytamecbanginjmaa", sum := "2b5b704bcb76a692f0eed5b7809d3630bc178ebca91ed5ff0ba4f86ce0af7408", func := "hawthorn/hawthornlaw02.SizeClasses", spec := "sizeClasses", apart := false }
def SizeClassesSaid : Prop := sizeClassesRow.holds Try.pinned (OpenSpec.ofChange sizeClassesSpec)

/-- ITS FALSE NEIGHBOUR: 'it returns false'. Refute it at one input. -/
def sizeClassesWrong : ChangeSpec := { name := "sizeClasses", fn := fun _ => fun
  | [d] => { results := [.lit (.bool false)], args := [d] }
  | _ => none }
def SizeClassesWrongFalsely : Prop := sizeClassesRow.holds Try.pinned (OpenSpec.ofChange sizeClassesWrong)

/-- 'hawthornlaw02.SizeWhole': WHATEVER THE INPUT: true; the input reads as it did. -/
def sizeWholeSpec : ChangeSpec := { name := "sizeWhole", fn := fun _ => fun
  | [d] => { results := [.lit (.bool true)], args := [d] }
  | _ => none }
def sizeWholeRow : OpenClaim := { program := "ytamecbanginjmaa", sum := "2b5b704bcb76a692f0eed5b7809d3630bc178ebca91ed5ff0ba4f86ce0af7408", func := "hawthorn/hawthornlaw02.SizeWhole", spec := "sizeWhole", apart := false }
def SizeWholeSaid : Prop := sizeWholeRow.holds Try.pinned (OpenSpec.ofChange sizeWholeSpec)

/-- ITS FALSE NEIGHBOUR: 'it returns false'. Refute it at one input. -/
def sizeWholeWrong : ChangeSpec := { name := "sizeWhole", fn := fun _ => fun
  | [d] => { results := [.lit (.bool false)], args := [d] }
  | _ => none }
def SizeWholeWrongFalsely : Prop := sizeWholeRow.holds Try.pinned (OpenSpec.ofChange sizeWholeWrong)

/-- 'hawthornlaw02.SizeCells': WHATEVER THE INPUT: true; the input reads as it did. -/
def sizeCellsSpec : ChangeSpec := { name := "sizeCells", fn := fun _ => fun
  | [d1, d2, d3] => { results := [.lit (.bool true)], args := [d1, d2, d3] }
  | _ => none }
def sizeCellsRow : OpenClaim := { program := "ytamecbanginjmaa", sum := "2b5b704bcb76a692f0eed5b7809d3630bc178ebca91ed5ff0ba4f86ce0af7408", func := "hawthorn/hawthornlaw02.SizeCells", spec := "sizeCells", apart := false }
def SizeCellsSaid : Prop := sizeCellsRow.holds Try.pinned (OpenSpec.ofChange sizeCellsSpec)

/-- ITS FALSE NEIGHBOUR: 'it returns false'. Refute it at one input. -/
def sizeCellsWrong : ChangeSpec := { name := "sizeCells", fn := fun _ => fun
  | [d1, d2, d3] => { results := [.lit (.bool false)], args := [d1, d2, d3] }
  | _ => none }
def SizeCellsWrongFalsely : Prop := sizeCellsRow.holds Try.pinned (OpenSpec.ofChange sizeCellsWrong)

/-- 'hawthornlaw02.SizeSteps': WHATEVER THE INPUT: true; the input reads as it did. -/
def sizeStepsSpec : ChangeSpec := { name := "sizeSteps", fn := fun _ => fun
  | [d1, d2] => { results := [.lit (.bool true)], args := [d1, d2] }
  | _ => none }
def sizeStepsRow : OpenClaim := { program := "ytamecbanginjmaa", sum := "2b5b704bcb76a692f0eed5b7809d3630bc178ebca91ed5ff0ba4f86ce0af7408", func := "hawthorn/hawthornlaw02.SizeSteps", spec := "sizeSteps", apart := false }
def SizeStepsSaid : Prop := sizeStepsRow.holds Try.pinned (OpenSpec.ofChange sizeStepsSpec)

/-- ITS FALSE NEIGHBOUR: 'it returns false'. Refute it at one input. -/
def sizeStepsWrong : ChangeSpec := { name := "sizeSteps", fn := fun _ => fun
  | [d1, d2] => { results := [.lit (.bool false)], args := [d1, d2] }
  | _ => none }
def SizeStepsWrongFalsely : Prop := sizeStepsRow.holds Try.pinned (OpenSpec.ofChange sizeStepsWrong)

/-- 'hawthornlaw02.SizeInner': WHATEVER THE INPUT: true; the input reads as it did. -/
def sizeInnerSpec : ChangeSpec := { name := "sizeInner", fn := fun _ => fun
  | [d1, d2, d3] => { results := [.lit (.bool true)], args := [d1, d2, d3] }
  | _ => none }
def sizeInnerRow : OpenClaim := { program := "ytamecbanginjmaa", sum := "2b5b704bcb76a692f0eed5b7809d3630bc178ebca91ed5ff0ba4f86ce0af7408", func := "hawthorn/hawthornlaw02.SizeInner", spec := "sizeInner", apart := false }
def SizeInnerSaid : Prop := sizeInnerRow.holds Try.pinned (OpenSpec.ofChange sizeInnerSpec)

/-- ITS FALSE NEIGHBOUR: 'it returns false'. Refute it at one input. -/
def sizeInnerWrong : ChangeSpec := { name := "sizeInner", fn := fun _ => fun
  | [d1, d2, d3] => { results := [.lit (.bool false)], args := [d1, d2, d3] }
  | _ => none }
def SizeInnerWrongFalsely : Prop := sizeInnerRow.holds Try.pinned (OpenSpec.ofChange sizeInnerWrong)

/-- 'hawthornlaw02.SizeNone': WHATEVER THE INPUT: true; the input reads as it did. -/
def sizeNoneSpec : ChangeSpec := { name := "sizeNone", fn := fun _ => fun
  | [d1, d2] => { results := [.lit (.bool true)], args := [d1, d2] }
  | _ => none }
def sizeNoneRow : OpenClaim := { program := "ytamecbanginjmaa", sum := "2b5b704bcb76a692f0eed5b7809d3630bc178ebca91ed5ff0ba4f86ce0af7408", func := "hawthorn/hawthornlaw02.SizeNone", spec := "sizeNone", apart := false }
def SizeNoneSaid : Prop := sizeNoneRow.holds Try.pinned (OpenSpec.ofChange sizeNoneSpec)

/-- ITS FALSE NEIGHBOUR: 'it returns false'. Refute it at one input. -/
def sizeNoneWrong : ChangeSpec := { name := "sizeNone", fn := fun _ => fun
  | [d1, d2] => { results := [.lit (.bool false)], args := [d1, d2] }
  | _ => none }
def SizeNoneWrongFalsely : Prop := sizeNoneRow.holds Try.pinned (OpenSpec.ofChange sizeNoneWrong)

/-- 'hawthornlaw17.PhaseLeaves': WHATEVER THE INPUT: true; the input reads as it did. -/
def phaseLeavesSpec : ChangeSpec := { name := "phaseLeaves", fn := fun _ => fun
  | [d1, d2, d3] => { results := [.lit (.bool true)], args := [d1, d2, d3] }
  | _ => none }
def phaseLeavesRow : OpenClaim := { program := "ytamecbanginjmaa", sum := "2b5b704bcb76a692f0eed5b7809d3630bc178ebca91ed5ff0ba4f86ce0af7408", func := "hawthorn/hawthornlaw17.PhaseLeaves", spec := "phaseLeaves", apart := false }
def PhaseLeavesSaid : Prop := phaseLeavesRow.holds Try.pinned (OpenSpec.ofChange phaseLeavesSpec)

/-- ITS FALSE NEIGHBOUR: 'it returns false'. Refute it at one input. -/
def phaseLeavesWrong : ChangeSpec := { name := "phaseLeaves", fn := fun _ => fun
  | [d1, d2, d3] => { results := [.lit (.bool false)], args := [d1, d2, d3] }
  | _ => none }
def PhaseLeavesWrongFalsely : Prop := phaseLeavesRow.holds Try.pinned (OpenSpec.ofChange phaseLeavesWrong)

/-- 'hawthornlaw17.PhaseCycles': WHATEVER THE INPUT: true; the input reads as it did. -/
def phaseCyclesSpec : ChangeSpec := { name := "phaseCycles", fn := fun _ => fun
  | [d1, d2] => { results := [.lit (.bool true)], args := [d1, d2] }
  | _ => none }
def phaseCyclesRow : OpenClaim := { program := "ytamecbanginjmaa", sum := "2b5b704bcb76a692f0eed5b7809d3630bc178ebca91ed5ff0ba4f86ce0af7408", func := "hawthorn/hawthornlaw17.PhaseCycles", spec := "phaseCycles", apart := false }
def PhaseCyclesSaid : Prop := phaseCyclesRow.holds Try.pinned (OpenSpec.ofChange phaseCyclesSpec)

/-- ITS FALSE NEIGHBOUR: 'it returns false'. Refute it at one input. -/
def phaseCyclesWrong : ChangeSpec := { name := "phaseCycles", fn := fun _ => fun
  | [d1, d2] => { results := [.lit (.bool false)], args := [d1, d2] }
  | _ => none }
def PhaseCyclesWrongFalsely : Prop := phaseCyclesRow.holds Try.pinned (OpenSpec.ofChange phaseCyclesWrong)

/-- 'hawthornlaw17.PhaseRounds': WHATEVER THE INPUT: true; the input reads as it did. -/
def phaseRoundsSpec : ChangeSpec := { name := "phaseRounds", fn := fun _ => fun
  | [d1, d2] => { results := [.lit (.bool true)], args := [d1, d2] }
  | _ => none }
def phaseRoundsRow : OpenClaim := { program := "ytamecbanginjmaa", sum := "2b5b704bcb76a692f0eed5b7809d3630bc178ebca91ed5ff0ba4f86ce0af7408", func := "hawthorn/hawthornlaw17.PhaseRounds", spec := "phaseRounds", apart := false }
def PhaseRoundsSaid : Prop := phaseRoundsRow.holds Try.pinned (OpenSpec.ofChange phaseRoundsSpec)

/-- ITS FALSE NEIGHBOUR: 'it returns false'. Refute it at one input. -/
def phaseRoundsWrong : ChangeSpec := { name := "phaseRounds", fn := fun _ => fun
  | [d1, d2] => { results := [.lit (.bool false)], args := [d1, d2] }
  | _ => none }
def PhaseRoundsWrongFalsely : Prop := phaseRoundsRow.holds Try.pinned (OpenSpec.ofChange phaseRoundsWrong)

/-- 'hawthornlaw17.PhaseRuns': WHATEVER THE INPUT: true; the input reads as it did. -/
def phaseRunsSpec : ChangeSpec := { name := "phaseRuns", fn := fun _ => fun
  | [d] => { results := [.lit (.bool true)], args := [d] }
  | _ => none }
def phaseRunsRow : OpenClaim := { program := "ytamecbanginjmaa", sum := "2b5b704bcb76a692f0eed5b7809d3630bc178ebca91ed5ff0ba4f86ce0af7408", func := "hawthorn/hawthornlaw17.PhaseRuns", spec := "phaseRuns", apart := false }
def PhaseRunsSaid : Prop := phaseRunsRow.holds Try.pinned (OpenSpec.ofChange phaseRunsSpec)

/-- ITS FALSE NEIGHBOUR: 'it returns false'. Refute it at one input. -/
def phaseRunsWrong : ChangeSpec := { name := "phaseRuns", fn := fun _ => fun
  | [d] => { results := [.lit (.bool false)], args := [d] }
  | _ => none }
def PhaseRunsWrongFalsely : Prop := phaseRunsRow.holds Try.pinned (OpenSpec.ofChange phaseRunsWrong)

/-- 'hawthornlaw17.PhaseArms': WHATEVER THE INPUT: true; the input reads as it did. -/
def phaseArmsSpec : ChangeSpec := { name := "phaseArms", fn := fun _ => fun
  | [d] => { results := [.lit (.bool true)], args := [d] }
  | _ => none }
def phaseArmsRow : OpenClaim := { program := "ytamecbanginjmaa", sum := "2b5b704bcb76a692f0eed5b7809d3630bc178ebca91ed5ff0ba4f86ce0af7408", func := "hawthorn/hawthornlaw17.PhaseArms", spec := "phaseArms", apart := false }
def PhaseArmsSaid : Prop := phaseArmsRow.holds Try.pinned (OpenSpec.ofChange phaseArmsSpec)

/-- ITS FALSE NEIGHBOUR: 'it returns false'. Refute it at one input. -/
def phaseArmsWrong : ChangeSpec := { name := "phaseArms", fn := fun _ => fun
  | [d] => { results := [.lit (.bool false)], args := [d] }
  | _ => none }
def PhaseArmsWrongFalsely : Prop := phaseArmsRow.holds Try.pinned (OpenSpec.ofChange phaseArmsWrong)

/-- 'hawthornlaw17.PhaseQuiet': WHATEVER THE INPUT: true; the input reads as it did. -/
def phaseQuietSpec : ChangeSpec := { name := "phaseQuiet", fn := fun _ => fun
  | [d1, d2] => { results := [.lit (.bool true)], args := [d1, d2] }
  | _ => none }
def phaseQuietRow : OpenClaim := { program := "ytamecbanginjmaa", sum := "2b5b704bcb76a692f0eed5b7809d3630bc178ebca91ed5ff0ba4f86ce0af7408", func := "hawthorn/hawthornlaw17.PhaseQuiet", spec := "phaseQuiet", apart := false }
def PhaseQuietSaid : Prop := phaseQuietRow.holds Try.pinned (OpenSpec.ofChange phaseQuietSpec)

/-- ITS FALSE NEIGHBOUR: 'it returns false'. Refute it at one input. -/
def phaseQuietWrong : ChangeSpec := { name := "phaseQuiet", fn := fun _ => fun
  | [d1, d2] => { results := [.lit (.bool false)], args := [d1, d2] }
  | _ => none }
def PhaseQuietWrongFalsely : Prop := phaseQuietRow.holds Try.pinned (OpenSpec.ofChange phaseQuietWrong)

/- THE SECOND FORM. 'bulk': how many values and letters a reading holds, each counted each time it is reached (what is shared counts as often as it is met; a slice's spare places count too). A statement '..UptoSaid' is the law's where the arguments, and the package variables that the reading takes, are together of bulk at most 1048576: NARROWER than '..Said'. Prove '..Said' where nothing that the law and all that it calls make is longer than what came in: it says more and counts as full. Else prove '..UptoSaid'. A law counts once. -/
mutual
def uptoBulk {H : Type} : DataW H → Nat
  | .lit (.string bytes) => bytes.length + 1
  | .lit _ => 1
  | .nil => 1
  | .ptr d => uptoBulk d + 1
  | .slice elems spare => uptoBulkAll elems + uptoBulkAll spare + 1
  | .agg parts => uptoBulkAll parts + 1
  | .iface _ d => uptoBulk d + 1
  | .map entries => uptoBulkEntries entries + 1
  | .held _ => 1
def uptoBulkAll {H : Type} : List (DataW H) → Nat
  | [] => 0
  | d :: r => uptoBulk d + uptoBulkAll r
def uptoBulkEntries {H : Type} : List (Lit × DataW H) → Nat
  | [] => 0
  | x :: r => uptoBulkEntry x + uptoBulkEntries r
def uptoBulkEntry {H : Type} : Lit × DataW H → Nat
  | (.string bytes, d) => bytes.length + uptoBulk d + 1
  | (_, d) => uptoBulk d + 1
 end
def uptoSmall : (H : Type) → List (DataW H) → Bool := fun _ ds => decide (uptoBulkAll ds ≤ 1048576)
def OpenSpec.upto (s : _root_.Go.ChangeSpec) : _root_.Go.OpenSpec := { _root_.Go.OpenSpec.ofChange s with cond := some uptoSmall }

/-- 'hawthornlaw10.GreyTurns', WHERE WHAT IT READS IS OF BULK AT MOST 1048576: true; the input reads as it did. -/
def greyTurnsUptoRow : OpenClaim := { program := "ytamecbanginjmaa", sum := "2b5b704bcb76a692f0eed5b7809d3630bc178ebca91ed5ff0ba4f86ce0af7408", func := "hawthorn/hawthornlaw10.GreyTurns", spec := "greyTurns", apart := false, narrowed := true }
def GreyTurnsUptoSaid : Prop := greyTurnsUptoRow.holds Try.pinned (OpenSpec.upto greyTurnsSpec)

/-- 'hawthornlaw10.GreyAgain', WHERE WHAT IT READS IS OF BULK AT MOST 1048576: true; the input reads as it did. -/
def greyAgainUptoRow : OpenClaim := { program := "ytamecbanginjmaa", sum := "2b5b704bcb76a692f0eed5b7809d3630bc178ebca91ed5ff0ba4f86ce0af7408", func := "hawthorn/hawthornlaw10.GreyAgain", spec := "greyAgain", apart := false, narrowed := true }
def GreyAgainUptoSaid : Prop := greyAgainUptoRow.holds Try.pinned (OpenSpec.upto greyAgainSpec)

/-- 'hawthornlaw10.GreyNone', WHERE WHAT IT READS IS OF BULK AT MOST 1048576: true; the input reads as it did. -/
def greyNoneUptoRow : OpenClaim := { program := "ytamecbanginjmaa", sum := "2b5b704bcb76a692f0eed5b7809d3630bc178ebca91ed5ff0ba4f86ce0af7408", func := "hawthorn/hawthornlaw10.GreyNone", spec := "greyNone", apart := false, narrowed := true }
def GreyNoneUptoSaid : Prop := greyNoneUptoRow.holds Try.pinned (OpenSpec.upto greyNoneSpec)

/-- 'hawthornlaw10.GreyRuns', WHERE WHAT IT READS IS OF BULK AT MOST 1048576: true; the input reads as it did. -/
def greyRunsUptoRow : OpenClaim := { program := "ytamecbanginjmaa", sum := "2b5b704bcb76a692f0eed5b7809d3630bc178ebca91ed5ff0ba4f86ce0af7408", func := "hawthorn/hawthornlaw10.GreyRuns", spec := "greyRuns", apart := false, narrowed := true }
def GreyRunsUptoSaid : Prop := greyRunsUptoRow.holds Try.pinned (OpenSpec.upto greyRunsSpec)

/-- 'hawthornlaw02.SizeClasses', WHERE WHAT IT READS IS OF BULK AT MOST 1048576: true; the input reads as it did. -/
def sizeClassesUptoRow : OpenClaim := { program := "ytamecbanginjmaa", sum := "2b5b704bcb76a692f0eed5b7809d3630bc178ebca91ed5ff0ba4f86ce0af7408", func := "hawthorn/hawthornlaw02.SizeClasses", spec := "sizeClasses", apart := false, narrowed := true }
def SizeClassesUptoSaid : Prop := sizeClassesUptoRow.holds Try.pinned (OpenSpec.upto sizeClassesSpec)

/-- 'hawthornlaw02.SizeWhole', WHERE WHAT IT READS IS OF BULK AT MOST 1048576: true; the input reads as it did. -/
def sizeWholeUptoRow : OpenClaim := { program := "ytamecbanginjmaa", sum := "2b5b704bcb76a692f0eed5b7809d3630bc178ebca91ed5ff0ba4f86ce0af7408", func := "hawthorn/hawthornlaw02.SizeWhole", spec := "sizeWhole", apart := false, narrowed := true }
def SizeWholeUptoSaid : Prop := sizeWholeUptoRow.holds Try.pinned (OpenSpec.upto sizeWholeSpec)

/-- 'hawthornlaw02.SizeCells', WHERE WHAT IT READS IS OF BULK AT MOST 1048576: true; the input reads as it did. -/
def sizeCellsUptoRow : OpenClaim := { program := "ytamecbanginjmaa", sum := "2b5b704bcb76a692f0eed5b7809d3630bc178ebca91ed5ff0ba4f86ce0af7408", func := "hawthorn/hawthornlaw02.SizeCells", spec := "sizeCells", apart := false, narrowed := true }
def SizeCellsUptoSaid : Prop := sizeCellsUptoRow.holds Try.pinned (OpenSpec.upto sizeCellsSpec)

/-- 'hawthornlaw02.SizeSteps', WHERE WHAT IT READS IS OF BULK AT MOST 1048576: true; the input reads as it did. -/
def sizeStepsUptoRow : OpenClaim := { program := "ytamecbanginjmaa", sum := "2b5b704bcb76a692f0eed5b7809d3630bc178ebca91ed5ff0ba4f86ce0af7408", func := "hawthorn/hawthornlaw02.SizeSteps", spec := "sizeSteps", apart := false, narrowed := true }
def SizeStepsUptoSaid : Prop := sizeStepsUptoRow.holds Try.pinned (OpenSpec.upto sizeStepsSpec)

/-- 'hawthornlaw02.SizeInner', WHERE WHAT IT READS IS OF BULK AT MOST 1048576: true; the input reads as it did. -/
def sizeInnerUptoRow : OpenClaim := { program := "ytamecbanginjmaa", sum := "2b5b704bcb76a692f0eed5b7809d3630bc178ebca91ed5ff0ba4f86ce0af7408", func := "hawthorn/hawthornlaw02.SizeInner", spec := "sizeInner", apart := false, narrowed := true }
def SizeInnerUptoSaid : Prop := sizeInnerUptoRow.holds Try.pinned (OpenSpec.upto sizeInnerSpec)

/-- 'hawthornlaw02.SizeNone', WHERE WHAT IT READS IS OF BULK AT MOST 1048576: true; the input reads as it did. -/
def sizeNoneUptoRow : OpenClaim := { program := "ytamecbanginjmaa", sum := "2b5b704bcb76a692f0eed5b7809d3630bc178ebca91ed5ff0ba4f86ce0af7408", func := "hawthorn/hawthornlaw02.SizeNone", spec := "sizeNone", apart := false, narrowed := true }
def SizeNoneUptoSaid : Prop := sizeNoneUptoRow.holds Try.pinned (OpenSpec.upto sizeNoneSpec)

/-- 'hawthornlaw17.PhaseLeaves', WHERE WHAT IT READS IS OF BULK AT MOST 1048576: true; the input reads as it did. -/
def phaseLeavesUptoRow : OpenClaim := { program := "ytamecbanginjmaa", sum := "2b5b704bcb76a692f0eed5b7809d3630bc178ebca91ed5ff0ba4f86ce0af7408", func := "hawthorn/hawthornlaw17.PhaseLeaves", spec := "phaseLeaves", apart := false, narrowed := true }
def PhaseLeavesUptoSaid : Prop := phaseLeavesUptoRow.holds Try.pinned (OpenSpec.upto phaseLeavesSpec)

/-- 'hawthornlaw17.PhaseCycles', WHERE WHAT IT READS IS OF BULK AT MOST 1048576: true; the input reads as it did. -/
def phaseCyclesUptoRow : OpenClaim := { program := "ytamecbanginjmaa", sum := "2b5b704bcb76a692f0eed5b7809d3630bc178ebca91ed5ff0ba4f86ce0af7408", func := "hawthorn/hawthornlaw17.PhaseCycles", spec := "phaseCycles", apart := false, narrowed := true }
def PhaseCyclesUptoSaid : Prop := phaseCyclesUptoRow.holds Try.pinned (OpenSpec.upto phaseCyclesSpec)

/-- 'hawthornlaw17.PhaseRounds', WHERE WHAT IT READS IS OF BULK AT MOST 1048576: true; the input reads as it did. -/
def phaseRoundsUptoRow : OpenClaim := { program := "ytamecbanginjmaa", sum := "2b5b704bcb76a692f0eed5b7809d3630bc178ebca91ed5ff0ba4f86ce0af7408", func := "hawthorn/hawthornlaw17.PhaseRounds", spec := "phaseRounds", apart := false, narrowed := true }
def PhaseRoundsUptoSaid : Prop := phaseRoundsUptoRow.holds Try.pinned (OpenSpec.upto phaseRoundsSpec)

/-- 'hawthornlaw17.PhaseRuns', WHERE WHAT IT READS IS OF BULK AT MOST 1048576: true; the input reads as it did. -/
def phaseRunsUptoRow : OpenClaim := { program := "ytamecbanginjmaa", sum := "2b5b704bcb76a692f0eed5b7809d3630bc178ebca91ed5ff0ba4f86ce0af7408", func := "hawthorn/hawthornlaw17.PhaseRuns", spec := "phaseRuns", apart := false, narrowed := true }
def PhaseRunsUptoSaid : Prop := phaseRunsUptoRow.holds Try.pinned (OpenSpec.upto phaseRunsSpec)

/-- 'hawthornlaw17.PhaseArms', WHERE WHAT IT READS IS OF BULK AT MOST 1048576: true; the input reads as it did. -/
def phaseArmsUptoRow : OpenClaim := { program := "ytamecbanginjmaa", sum := "2b5b704bcb76a692f0eed5b7809d3630bc178ebca91ed5ff0ba4f86ce0af7408", func := "hawthorn/hawthornlaw17.PhaseArms", spec := "phaseArms", apart := false, narrowed := true }
def PhaseArmsUptoSaid : Prop := phaseArmsUptoRow.holds Try.pinned (OpenSpec.upto phaseArmsSpec)

/-- 'hawthornlaw17.PhaseQuiet', WHERE WHAT IT READS IS OF BULK AT MOST 1048576: true; the input reads as it did. -/
def phaseQuietUptoRow : OpenClaim := { program := "ytamecbanginjmaa", sum := "2b5b704bcb76a692f0eed5b7809d3630bc178ebca91ed5ff0ba4f86ce0af7408", func := "hawthorn/hawthornlaw17.PhaseQuiet", spec := "phaseQuiet", apart := false, narrowed := true }
def PhaseQuietUptoSaid : Prop := phaseQuietUptoRow.holds Try.pinned (OpenSpec.upto phaseQuietSpec)

end Rows
end Go.Proofs.Ytamecbanginjmaa
