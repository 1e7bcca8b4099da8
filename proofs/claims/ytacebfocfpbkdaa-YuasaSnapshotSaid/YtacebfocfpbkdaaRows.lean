/-
  No cell of these rows narrows 'for every input' (looked for: loops, veiled, ifaces, maps, wideKeys, modest, calm, conditions, laid).
  DERIVED. THE GIVEN ROWS OF THIS SEAT. 13 by the template 'for every input the law returns true; each argument reads behind the call as it read before'; 0 by the template 'total and deterministic' (their statements: YtacebfocfpbkdaaTotals.lean).
  GIVEN WITH THE SEED: the statements are not yours to turn. If you find one false, say at which input.
  Laid BY PROGRAM, IN A SANDBOX (cutbox-rows.mjs): the forced cells as the released guide's own fill.sh prints them over the translation 0535e7ef5bf4f265… (all of the seat's roots in one cut). By AI agents, Wed Nov 11 2026. No macro, syntax, notation, axiom, sorry.
-/
import Derived.Test.YtacebfocfpbkdaaChecked
import GoSem.Claim
import GoSem.ClaimJoined
import GoSem.ClaimMapViews
import Derived.JoinedTies
import Derived.KernelRfl
namespace Go.Proofs.Ytacebfocfpbkdaa
/- THE CELL 'sum', in the pinned program and in every row, IS THE sha256 OF THE DUMP (.gsa) THAT YtacebfocfpbkdaaProg.lean LOADS. Nothing in Lean hashes anything: it is a label: what it is worth is what the hold of that sum in a sandbox is worth. -/
noncomputable def Try.pinned : Pinned := { name := "ytacebfocfpbkdaa", sum := "0535e7ef5bf4f265a8992b7dd0beee4db3398a022a845fec8daa116ad9977616", checked := Try.checked }
namespace Rows
def none {H : Type} : Left H := { results := [], args := [] }

/-- 'hawthornlaw13.DijkstraRuns': WHATEVER THE INPUT: true; the input reads as it did. -/
def dijkstraRunsSpec : ChangeSpec := { name := "dijkstraRuns", fn := fun _ => fun
  | [d1, d2, d3] => { results := [.lit (.bool true)], args := [d1, d2, d3] }
  | _ => none }
def dijkstraRunsRow : OpenClaim := { program := "ytacebfocfpbkdaa", sum := "0535e7ef5bf4f265a8992b7dd0beee4db3398a022a845fec8daa116ad9977616", func := "hawthorn/hawthornlaw13.DijkstraRuns", spec := "dijkstraRuns", inPlace := ["sync/atomic.LoadUint32", "(*internal/sync.Mutex).Lock", "internal/race.Disable", "sync/atomic.CompareAndSwapInt32", "internal/race.Enable", "internal/race.Acquire", "(*internal/sync.Mutex).lockSlow", "internal/sync.runtime_canSpin", "internal/sync.runtime_doSpin", "internal/sync.throw", "internal/sync.runtime_nanotime", "internal/sync.runtime_SemacquireMutex", "sync/atomic.AddInt32", "(*internal/sync.Mutex).Unlock", "internal/race.ReleaseMerge", "(*internal/sync.Mutex).unlockSlow", "internal/sync.fatal", "internal/sync.runtime_Semrelease", "sync/atomic.StoreUint32", "sync/atomic.LoadUint64", "sync/atomic.OrUint64"], unfollowed := true, recurses := true, apart := false }
def DijkstraRunsSaid : Prop := dijkstraRunsRow.holds Try.pinned (OpenSpec.ofChange dijkstraRunsSpec)

/-- ITS FALSE NEIGHBOUR: 'it returns false'. Refute it at one input. -/
def dijkstraRunsWrong : ChangeSpec := { name := "dijkstraRuns", fn := fun _ => fun
  | [d1, d2, d3] => { results := [.lit (.bool false)], args := [d1, d2, d3] }
  | _ => none }
def DijkstraRunsWrongFalsely : Prop := dijkstraRunsRow.holds Try.pinned (OpenSpec.ofChange dijkstraRunsWrong)

/-- 'hawthornlaw14.YuasaRuns': WHATEVER THE INPUT: true; the input reads as it did. -/
def yuasaRunsSpec : ChangeSpec := { name := "yuasaRuns", fn := fun _ => fun
  | [d1, d2] => { results := [.lit (.bool true)], args := [d1, d2] }
  | _ => none }
def yuasaRunsRow : OpenClaim := { program := "ytacebfocfpbkdaa", sum := "0535e7ef5bf4f265a8992b7dd0beee4db3398a022a845fec8daa116ad9977616", func := "hawthorn/hawthornlaw14.YuasaRuns", spec := "yuasaRuns", inPlace := ["sync/atomic.LoadUint32", "(*internal/sync.Mutex).Lock", "internal/race.Disable", "sync/atomic.CompareAndSwapInt32", "internal/race.Enable", "internal/race.Acquire", "(*internal/sync.Mutex).lockSlow", "internal/sync.runtime_canSpin", "internal/sync.runtime_doSpin", "internal/sync.throw", "internal/sync.runtime_nanotime", "internal/sync.runtime_SemacquireMutex", "sync/atomic.AddInt32", "(*internal/sync.Mutex).Unlock", "internal/race.ReleaseMerge", "(*internal/sync.Mutex).unlockSlow", "internal/sync.fatal", "internal/sync.runtime_Semrelease", "sync/atomic.StoreUint32", "sync/atomic.LoadUint64", "sync/atomic.OrUint64"], unfollowed := true, recurses := true, apart := false }
def YuasaRunsSaid : Prop := yuasaRunsRow.holds Try.pinned (OpenSpec.ofChange yuasaRunsSpec)

/-- ITS FALSE NEIGHBOUR: 'it returns false'. Refute it at one input. -/
def yuasaRunsWrong : ChangeSpec := { name := "yuasaRuns", fn := fun _ => fun
  | [d1, d2] => { results := [.lit (.bool false)], args := [d1, d2] }
  | _ => none }
def YuasaRunsWrongFalsely : Prop := yuasaRunsRow.holds Try.pinned (OpenSpec.ofChange yuasaRunsWrong)

/-- 'hawthornlaw13.DijkstraKeeps': WHATEVER THE INPUT: true; the input reads as it did. -/
def dijkstraKeepsSpec : ChangeSpec := { name := "dijkstraKeeps", fn := fun _ => fun
  | [d1, d2] => { results := [.lit (.bool true)], args := [d1, d2] }
  | _ => none }
def dijkstraKeepsRow : OpenClaim := { program := "ytacebfocfpbkdaa", sum := "0535e7ef5bf4f265a8992b7dd0beee4db3398a022a845fec8daa116ad9977616", func := "hawthorn/hawthornlaw13.DijkstraKeeps", spec := "dijkstraKeeps", inPlace := ["sync/atomic.LoadUint32", "(*internal/sync.Mutex).Lock", "internal/race.Disable", "sync/atomic.CompareAndSwapInt32", "internal/race.Enable", "internal/race.Acquire", "(*internal/sync.Mutex).lockSlow", "internal/sync.runtime_canSpin", "internal/sync.runtime_doSpin", "internal/sync.throw", "internal/sync.runtime_nanotime", "internal/sync.runtime_SemacquireMutex", "sync/atomic.AddInt32", "(*internal/sync.Mutex).Unlock", "internal/race.ReleaseMerge", "(*internal/sync.Mutex).unlockSlow", "internal/sync.fatal", "internal/sync.runtime_Semrelease", "sync/atomic.StoreUint32", "sync/atomic.LoadUint64", "sync/atomic.OrUint64"], unfollowed := true, recurses := true, apart := false }
def DijkstraKeepsSaid : Prop := dijkstraKeepsRow.holds Try.pinned (OpenSpec.ofChange dijkstraKeepsSpec)

/-- ITS FALSE NEIGHBOUR: 'it returns false'. Refute it at one input. -/
def dijkstraKeepsWrong : ChangeSpec := { name := "dijkstraKeeps", fn := fun _ => fun
  | [d1, d2] => { results := [.lit (.bool false)], args := [d1, d2] }
  | _ => none }
def DijkstraKeepsWrongFalsely : Prop := dijkstraKeepsRow.holds Try.pinned (OpenSpec.ofChange dijkstraKeepsWrong)

/-- 'hawthornlaw13.DijkstraNone': WHATEVER THE INPUT: true; the input reads as it did. -/
def dijkstraNoneSpec : ChangeSpec := { name := "dijkstraNone", fn := fun _ => fun
  | [d1, d2] => { results := [.lit (.bool true)], args := [d1, d2] }
  | _ => none }
def dijkstraNoneRow : OpenClaim := { program := "ytacebfocfpbkdaa", sum := "0535e7ef5bf4f265a8992b7dd0beee4db3398a022a845fec8daa116ad9977616", func := "hawthorn/hawthornlaw13.DijkstraNone", spec := "dijkstraNone", inPlace := ["sync/atomic.LoadUint32", "(*internal/sync.Mutex).Lock", "internal/race.Disable", "sync/atomic.CompareAndSwapInt32", "internal/race.Enable", "internal/race.Acquire", "(*internal/sync.Mutex).lockSlow", "internal/sync.runtime_canSpin", "internal/sync.runtime_doSpin", "internal/sync.throw", "internal/sync.runtime_nanotime", "internal/sync.runtime_SemacquireMutex", "sync/atomic.AddInt32", "(*internal/sync.Mutex).Unlock", "internal/race.ReleaseMerge", "(*internal/sync.Mutex).unlockSlow", "internal/sync.fatal", "internal/sync.runtime_Semrelease", "sync/atomic.StoreUint32", "sync/atomic.LoadUint64", "sync/atomic.OrUint64"], unfollowed := true, recurses := true, apart := false }
def DijkstraNoneSaid : Prop := dijkstraNoneRow.holds Try.pinned (OpenSpec.ofChange dijkstraNoneSpec)

/-- ITS FALSE NEIGHBOUR: 'it returns false'. Refute it at one input. -/
def dijkstraNoneWrong : ChangeSpec := { name := "dijkstraNone", fn := fun _ => fun
  | [d1, d2] => { results := [.lit (.bool false)], args := [d1, d2] }
  | _ => none }
def DijkstraNoneWrongFalsely : Prop := dijkstraNoneRow.holds Try.pinned (OpenSpec.ofChange dijkstraNoneWrong)

/-- 'hawthornlaw11.MarkOrders': WHATEVER THE INPUT: true; the input reads as it did. -/
def markOrdersSpec : ChangeSpec := { name := "markOrders", fn := fun _ => fun
  | [d1, d2, d3] => { results := [.lit (.bool true)], args := [d1, d2, d3] }
  | _ => none }
def markOrdersRow : OpenClaim := { program := "ytacebfocfpbkdaa", sum := "0535e7ef5bf4f265a8992b7dd0beee4db3398a022a845fec8daa116ad9977616", func := "hawthorn/hawthornlaw11.MarkOrders", spec := "markOrders", inPlace := ["sync/atomic.LoadUint32", "(*internal/sync.Mutex).Lock", "internal/race.Disable", "sync/atomic.CompareAndSwapInt32", "internal/race.Enable", "internal/race.Acquire", "(*internal/sync.Mutex).lockSlow", "internal/sync.runtime_canSpin", "internal/sync.runtime_doSpin", "internal/sync.throw", "internal/sync.runtime_nanotime", "internal/sync.runtime_SemacquireMutex", "sync/atomic.AddInt32", "(*internal/sync.Mutex).Unlock", "internal/race.ReleaseMerge", "(*internal/sync.Mutex).unlockSlow", "internal/sync.fatal", "internal/sync.runtime_Semrelease", "sync/atomic.StoreUint32", "sync/atomic.LoadUint64", "sync/atomic.OrUint64"], unfollowed := true, recurses := true, apart := false }
def MarkOrdersSaid : Prop := markOrdersRow.holds Try.pinned (OpenSpec.ofChange markOrdersSpec)

/-- ITS FALSE NEIGHBOUR: 'it returns false'. Refute it at one input. -/
def markOrdersWrong : ChangeSpec := { name := "markOrders", fn := fun _ => fun
  | [d1, d2, d3] => { results := [.lit (.bool false)], args := [d1, d2, d3] }
  | _ => none }
def MarkOrdersWrongFalsely : Prop := markOrdersRow.holds Try.pinned (OpenSpec.ofChange markOrdersWrong)

/-- 'hawthornlaw11.MarkBlacks': WHATEVER THE INPUT: true; the input reads as it did. -/
def markBlacksSpec : ChangeSpec := { name := "markBlacks", fn := fun _ => fun
  | [d1, d2, d3] => { results := [.lit (.bool true)], args := [d1, d2, d3] }
  | _ => none }
def markBlacksRow : OpenClaim := { program := "ytacebfocfpbkdaa", sum := "0535e7ef5bf4f265a8992b7dd0beee4db3398a022a845fec8daa116ad9977616", func := "hawthorn/hawthornlaw11.MarkBlacks", spec := "markBlacks", inPlace := ["sync/atomic.LoadUint32", "(*internal/sync.Mutex).Lock", "internal/race.Disable", "sync/atomic.CompareAndSwapInt32", "internal/race.Enable", "internal/race.Acquire", "(*internal/sync.Mutex).lockSlow", "internal/sync.runtime_canSpin", "internal/sync.runtime_doSpin", "internal/sync.throw", "internal/sync.runtime_nanotime", "internal/sync.runtime_SemacquireMutex", "sync/atomic.AddInt32", "(*internal/sync.Mutex).Unlock", "internal/race.ReleaseMerge", "(*internal/sync.Mutex).unlockSlow", "internal/sync.fatal", "internal/sync.runtime_Semrelease", "sync/atomic.StoreUint32", "sync/atomic.LoadUint64", "sync/atomic.OrUint64"], unfollowed := true, recurses := true, apart := false }
def MarkBlacksSaid : Prop := markBlacksRow.holds Try.pinned (OpenSpec.ofChange markBlacksSpec)

/-- ITS FALSE NEIGHBOUR: 'it returns false'. Refute it at one input. -/
def markBlacksWrong : ChangeSpec := { name := "markBlacks", fn := fun _ => fun
  | [d1, d2, d3] => { results := [.lit (.bool false)], args := [d1, d2, d3] }
  | _ => none }
def MarkBlacksWrongFalsely : Prop := markBlacksRow.holds Try.pinned (OpenSpec.ofChange markBlacksWrong)

/-- 'hawthornlaw14.YuasaSnapshot': WHATEVER THE INPUT: true; the input reads as it did. -/
def yuasaSnapshotSpec : ChangeSpec := { name := "yuasaSnapshot", fn := fun _ => fun
  | [d1, d2, d3] => { results := [.lit (.bool true)], args := [d1, d2, d3] }
  | _ => none }
def yuasaSnapshotRow : OpenClaim := { program := "ytacebfocfpbkdaa", sum := "0535e7ef5bf4f265a8992b7dd0beee4db3398a022a845fec8daa116ad9977616", func := "hawthorn/hawthornlaw14.YuasaSnapshot", spec := "yuasaSnapshot", inPlace := ["sync/atomic.LoadUint32", "(*internal/sync.Mutex).Lock", "internal/race.Disable", "sync/atomic.CompareAndSwapInt32", "internal/race.Enable", "internal/race.Acquire", "(*internal/sync.Mutex).lockSlow", "internal/sync.runtime_canSpin", "internal/sync.runtime_doSpin", "internal/sync.throw", "internal/sync.runtime_nanotime", "internal/sync.runtime_SemacquireMutex", "sync/atomic.AddInt32", "(*internal/sync.Mutex).Unlock", "internal/race.ReleaseMerge", "(*internal/sync.Mutex).unlockSlow", "internal/sync.fatal", "internal/sync.runtime_Semrelease", "sync/atomic.StoreUint32", "sync/atomic.LoadUint64", "sync/atomic.OrUint64"], unfollowed := true, recurses := true, apart := false }
def YuasaSnapshotSaid : Prop := yuasaSnapshotRow.holds Try.pinned (OpenSpec.ofChange yuasaSnapshotSpec)

/-- ITS FALSE NEIGHBOUR: 'it returns false'. Refute it at one input. -/
def yuasaSnapshotWrong : ChangeSpec := { name := "yuasaSnapshot", fn := fun _ => fun
  | [d1, d2, d3] => { results := [.lit (.bool false)], args := [d1, d2, d3] }
  | _ => none }
def YuasaSnapshotWrongFalsely : Prop := yuasaSnapshotRow.holds Try.pinned (OpenSpec.ofChange yuasaSnapshotWrong)

/-- 'hawthornlaw11.MarkAgain': WHATEVER THE INPUT: true; the input reads as it did. -/
def markAgainSpec : ChangeSpec := { name := "markAgain", fn := fun _ => fun
  | [d1, d2, d3] => { results := [.lit (.bool true)], args := [d1, d2, d3] }
  | _ => none }
def markAgainRow : OpenClaim := { program := "ytacebfocfpbkdaa", sum := "0535e7ef5bf4f265a8992b7dd0beee4db3398a022a845fec8daa116ad9977616", func := "hawthorn/hawthornlaw11.MarkAgain", spec := "markAgain", inPlace := ["sync/atomic.LoadUint32", "(*internal/sync.Mutex).Lock", "internal/race.Disable", "sync/atomic.CompareAndSwapInt32", "internal/race.Enable", "internal/race.Acquire", "(*internal/sync.Mutex).lockSlow", "internal/sync.runtime_canSpin", "internal/sync.runtime_doSpin", "internal/sync.throw", "internal/sync.runtime_nanotime", "internal/sync.runtime_SemacquireMutex", "sync/atomic.AddInt32", "(*internal/sync.Mutex).Unlock", "internal/race.ReleaseMerge", "(*internal/sync.Mutex).unlockSlow", "internal/sync.fatal", "internal/sync.runtime_Semrelease", "sync/atomic.StoreUint32", "sync/atomic.LoadUint64", "sync/atomic.OrUint64", "sync/atomic.AndUint64"], unfollowed := true, recurses := true, apart := false }
def MarkAgainSaid : Prop := markAgainRow.holds Try.pinned (OpenSpec.ofChange markAgainSpec)

/-- ITS FALSE NEIGHBOUR: 'it returns false'. Refute it at one input. -/
def markAgainWrong : ChangeSpec := { name := "markAgain", fn := fun _ => fun
  | [d1, d2, d3] => { results := [.lit (.bool false)], args := [d1, d2, d3] }
  | _ => none }
def MarkAgainWrongFalsely : Prop := markAgainRow.holds Try.pinned (OpenSpec.ofChange markAgainWrong)

/-- 'hawthornlaw11.MarkTwice': WHATEVER THE INPUT: true; the input reads as it did. -/
def markTwiceSpec : ChangeSpec := { name := "markTwice", fn := fun _ => fun
  | [d1, d2, d3] => { results := [.lit (.bool true)], args := [d1, d2, d3] }
  | _ => none }
def markTwiceRow : OpenClaim := { program := "ytacebfocfpbkdaa", sum := "0535e7ef5bf4f265a8992b7dd0beee4db3398a022a845fec8daa116ad9977616", func := "hawthorn/hawthornlaw11.MarkTwice", spec := "markTwice", inPlace := ["sync/atomic.LoadUint32", "(*internal/sync.Mutex).Lock", "internal/race.Disable", "sync/atomic.CompareAndSwapInt32", "internal/race.Enable", "internal/race.Acquire", "(*internal/sync.Mutex).lockSlow", "internal/sync.runtime_canSpin", "internal/sync.runtime_doSpin", "internal/sync.throw", "internal/sync.runtime_nanotime", "internal/sync.runtime_SemacquireMutex", "sync/atomic.AddInt32", "(*internal/sync.Mutex).Unlock", "internal/race.ReleaseMerge", "(*internal/sync.Mutex).unlockSlow", "internal/sync.fatal", "internal/sync.runtime_Semrelease", "sync/atomic.StoreUint32", "sync/atomic.LoadUint64", "sync/atomic.OrUint64", "sync/atomic.StoreUint64"], unfollowed := true, recurses := true, apart := false }
def MarkTwiceSaid : Prop := markTwiceRow.holds Try.pinned (OpenSpec.ofChange markTwiceSpec)

/-- ITS FALSE NEIGHBOUR: 'it returns false'. Refute it at one input. -/
def markTwiceWrong : ChangeSpec := { name := "markTwice", fn := fun _ => fun
  | [d1, d2, d3] => { results := [.lit (.bool false)], args := [d1, d2, d3] }
  | _ => none }
def MarkTwiceWrongFalsely : Prop := markTwiceRow.holds Try.pinned (OpenSpec.ofChange markTwiceWrong)

/-- 'hawthornlaw11.MarkReaches': WHATEVER THE INPUT: true; the input reads as it did. -/
def markReachesSpec : ChangeSpec := { name := "markReaches", fn := fun _ => fun
  | [d1, d2, d3] => { results := [.lit (.bool true)], args := [d1, d2, d3] }
  | _ => none }
def markReachesRow : OpenClaim := { program := "ytacebfocfpbkdaa", sum := "0535e7ef5bf4f265a8992b7dd0beee4db3398a022a845fec8daa116ad9977616", func := "hawthorn/hawthornlaw11.MarkReaches", spec := "markReaches", inPlace := ["sync/atomic.LoadUint32", "(*internal/sync.Mutex).Lock", "internal/race.Disable", "sync/atomic.CompareAndSwapInt32", "internal/race.Enable", "internal/race.Acquire", "(*internal/sync.Mutex).lockSlow", "internal/sync.runtime_canSpin", "internal/sync.runtime_doSpin", "internal/sync.throw", "internal/sync.runtime_nanotime", "internal/sync.runtime_SemacquireMutex", "sync/atomic.AddInt32", "(*internal/sync.Mutex).Unlock", "internal/race.ReleaseMerge", "(*internal/sync.Mutex).unlockSlow", "internal/sync.fatal", "internal/sync.runtime_Semrelease", "sync/atomic.StoreUint32", "sync/atomic.LoadUint64", "sync/atomic.OrUint64"], unfollowed := true, recurses := true, apart := false }
def MarkReachesSaid : Prop := markReachesRow.holds Try.pinned (OpenSpec.ofChange markReachesSpec)

/-- ITS FALSE NEIGHBOUR: 'it returns false'. Refute it at one input. -/
def markReachesWrong : ChangeSpec := { name := "markReaches", fn := fun _ => fun
  | [d1, d2, d3] => { results := [.lit (.bool false)], args := [d1, d2, d3] }
  | _ => none }
def MarkReachesWrongFalsely : Prop := markReachesRow.holds Try.pinned (OpenSpec.ofChange markReachesWrong)

/-- 'hawthornlaw14.YuasaQuiet': WHATEVER THE INPUT: true; the input reads as it did. -/
def yuasaQuietSpec : ChangeSpec := { name := "yuasaQuiet", fn := fun _ => fun
  | [d1, d2] => { results := [.lit (.bool true)], args := [d1, d2] }
  | _ => none }
def yuasaQuietRow : OpenClaim := { program := "ytacebfocfpbkdaa", sum := "0535e7ef5bf4f265a8992b7dd0beee4db3398a022a845fec8daa116ad9977616", func := "hawthorn/hawthornlaw14.YuasaQuiet", spec := "yuasaQuiet", inPlace := ["sync/atomic.LoadUint32", "(*internal/sync.Mutex).Lock", "internal/race.Disable", "sync/atomic.CompareAndSwapInt32", "internal/race.Enable", "internal/race.Acquire", "(*internal/sync.Mutex).lockSlow", "internal/sync.runtime_canSpin", "internal/sync.runtime_doSpin", "internal/sync.throw", "internal/sync.runtime_nanotime", "internal/sync.runtime_SemacquireMutex", "sync/atomic.AddInt32", "(*internal/sync.Mutex).Unlock", "internal/race.ReleaseMerge", "(*internal/sync.Mutex).unlockSlow", "internal/sync.fatal", "internal/sync.runtime_Semrelease", "sync/atomic.StoreUint32", "sync/atomic.LoadUint64", "sync/atomic.OrUint64"], unfollowed := true, recurses := true, apart := false }
def YuasaQuietSaid : Prop := yuasaQuietRow.holds Try.pinned (OpenSpec.ofChange yuasaQuietSpec)

/-- ITS FALSE NEIGHBOUR: 'it returns false'. Refute it at one input. -/
def yuasaQuietWrong : ChangeSpec := { name := "yuasaQuiet", fn := fun _ => fun
  | [d1, d2] => { results := [.lit (.bool false)], args := [d1, d2] }
  | _ => none }
def YuasaQuietWrongFalsely : Prop := yuasaQuietRow.holds Try.pinned (OpenSpec.ofChange yuasaQuietWrong)

/-- 'hawthornlaw11.MarkBudgets': WHATEVER THE INPUT: true; the input reads as it did. -/
def markBudgetsSpec : ChangeSpec := { name := "markBudgets", fn := fun _ => fun
  | [d1, d2, d3] => { results := [.lit (.bool true)], args := [d1, d2, d3] }
  | _ => none }
def markBudgetsRow : OpenClaim := { program := "ytacebfocfpbkdaa", sum := "0535e7ef5bf4f265a8992b7dd0beee4db3398a022a845fec8daa116ad9977616", func := "hawthorn/hawthornlaw11.MarkBudgets", spec := "markBudgets", inPlace := ["sync/atomic.LoadUint32", "(*internal/sync.Mutex).Lock", "internal/race.Disable", "sync/atomic.CompareAndSwapInt32", "internal/race.Enable", "internal/race.Acquire", "(*internal/sync.Mutex).lockSlow", "internal/sync.runtime_canSpin", "internal/sync.runtime_doSpin", "internal/sync.throw", "internal/sync.runtime_nanotime", "internal/sync.runtime_SemacquireMutex", "sync/atomic.AddInt32", "(*internal/sync.Mutex).Unlock", "internal/race.ReleaseMerge", "(*internal/sync.Mutex).unlockSlow", "internal/sync.fatal", "internal/sync.runtime_Semrelease", "sync/atomic.StoreUint32", "sync/atomic.LoadUint64", "sync/atomic.OrUint64", "sync/atomic.StoreUint64"], unfollowed := true, recurses := true, apart := false }
def MarkBudgetsSaid : Prop := markBudgetsRow.holds Try.pinned (OpenSpec.ofChange markBudgetsSpec)

/-- ITS FALSE NEIGHBOUR: 'it returns false'. Refute it at one input. -/
def markBudgetsWrong : ChangeSpec := { name := "markBudgets", fn := fun _ => fun
  | [d1, d2, d3] => { results := [.lit (.bool false)], args := [d1, d2, d3] }
  | _ => none }
def MarkBudgetsWrongFalsely : Prop := markBudgetsRow.holds Try.pinned (OpenSpec.ofChange markBudgetsWrong)

/-- 'hawthornlaw11.MarkColours': WHATEVER THE INPUT: true; the input reads as it did. -/
def markColoursSpec : ChangeSpec := { name := "markColours", fn := fun _ => fun
  | [d1, d2] => { results := [.lit (.bool true)], args := [d1, d2] }
  | _ => none }
def markColoursRow : OpenClaim := { program := "ytacebfocfpbkdaa", sum := "0535e7ef5bf4f265a8992b7dd0beee4db3398a022a845fec8daa116ad9977616", func := "hawthorn/hawthornlaw11.MarkColours", spec := "markColours", inPlace := ["sync/atomic.LoadUint32", "(*internal/sync.Mutex).Lock", "internal/race.Disable", "sync/atomic.CompareAndSwapInt32", "internal/race.Enable", "internal/race.Acquire", "(*internal/sync.Mutex).lockSlow", "internal/sync.runtime_canSpin", "internal/sync.runtime_doSpin", "internal/sync.throw", "internal/sync.runtime_nanotime", "internal/sync.runtime_SemacquireMutex", "sync/atomic.AddInt32", "(*internal/sync.Mutex).Unlock", "internal/race.ReleaseMerge", "(*internal/sync.Mutex).unlockSlow", "internal/sync.fatal", "internal/sync.runtime_Semrelease", "sync/atomic.StoreUint32", "sync/atomic.LoadUint64", "sync/atomic.OrUint64", "sync/atomic.AndUint64"], unfollowed := true, recurses := true, apart := false }
def MarkColoursSaid : Prop := markColoursRow.holds Try.pinned (OpenSpec.ofChange markColoursSpec)

/-- ITS FALSE NEIGHBOUR: 'it returns false'. Refute it at one input. -/
def markColoursWrong : ChangeSpec := { name := "markColours", fn := fun _ => fun
  | [d1, d2] => { results := [.lit (.bool false)], args := [d1, d2] }
  | _ => none }
def MarkColoursWrongFalsely : Prop := markColoursRow.holds Try.pinned (OpenSpec.ofChange markColoursWrong)

/- THE SECOND FORM. 'bulk': how many values and letters a reading holds, each counted each time it is reached (what is shared counts as often as it is met; a slice's spare places count too). A statement '..UptoSaid' is the law's where the arguments, and the package variables that the reading takes, are together of bulk at most 1048576: NARROWER than '..Said'. Prove '..Said' where nothing that the law and all that it calls make is longer than what came in: it says more and counts as full. Else prove '..UptoSaid'. A law counts once. -/
mutual
def uptoBulk {H : Type} : DataW H → Nat
  | .lit (.string bytes) => bytes.length + 1
  | .lit _ => 1
  | .nil => 1
  | .ptr d => uptoBulk d + 1
  | .slice elems spare => uptoBulkAll elems + uptoBulkAll spare + 1
  | .agg parts => uptoBulkAll parts + 1
  | .iface _ d => uptoBulk d + 1
  | .map entries => uptoBulkEntries entries + 1
  | .held _ => 1
def uptoBulkAll {H : Type} : List (DataW H) → Nat
  | [] => 0
  | d :: r => uptoBulk d + uptoBulkAll r
def uptoBulkEntries {H : Type} : List (Lit × DataW H) → Nat
  | [] => 0
  | x :: r => uptoBulkEntry x + uptoBulkEntries r
def uptoBulkEntry {H : Type} : Lit × DataW H → Nat
  | (.string bytes, d) => bytes.length + uptoBulk d + 1
  | (_, d) => uptoBulk d + 1
 end
def uptoSmall : (H : Type) → List (DataW H) → Bool := fun _ ds => decide (uptoBulkAll ds ≤ 1048576)
def OpenSpec.upto (s : _root_.Go.ChangeSpec) : _root_.Go.OpenSpec := { _root_.Go.OpenSpec.ofChange s with cond := some uptoSmall }

/-- 'hawthornlaw13.DijkstraRuns', WHERE WHAT IT READS IS OF BULK AT MOST 1048576: true; the input reads as it did. -/
def dijkstraRunsUptoRow : OpenClaim := { program := "ytacebfocfpbkdaa", sum := "0535e7ef5bf4f265a8992b7dd0beee4db3398a022a845fec8daa116ad9977616", func := "hawthorn/hawthornlaw13.DijkstraRuns", spec := "dijkstraRuns", inPlace := ["sync/atomic.LoadUint32", "(*internal/sync.Mutex).Lock", "internal/race.Disable", "sync/atomic.CompareAndSwapInt32", "internal/race.Enable", "internal/race.Acquire", "(*internal/sync.Mutex).lockSlow", "internal/sync.runtime_canSpin", "internal/sync.runtime_doSpin", "internal/sync.throw", "internal/sync.runtime_nanotime", "internal/sync.runtime_SemacquireMutex", "sync/atomic.AddInt32", "(*internal/sync.Mutex).Unlock", "internal/race.ReleaseMerge", "(*internal/sync.Mutex).unlockSlow", "internal/sync.fatal", "internal/sync.runtime_Semrelease", "sync/atomic.StoreUint32", "sync/atomic.LoadUint64", "sync/atomic.OrUint64"], unfollowed := true, recurses := true, apart := false, narrowed := true }
def DijkstraRunsUptoSaid : Prop := dijkstraRunsUptoRow.holds Try.pinned (OpenSpec.upto dijkstraRunsSpec)

/-- 'hawthornlaw14.YuasaRuns', WHERE WHAT IT READS IS OF BULK AT MOST 1048576: true; the input reads as it did. -/
def yuasaRunsUptoRow : OpenClaim := { program := "ytacebfocfpbkdaa", sum := "0535e7ef5bf4f265a8992b7dd0beee4db3398a022a845fec8daa116ad9977616", func := "hawthorn/hawthornlaw14.YuasaRuns", spec := "yuasaRuns", inPlace := ["sync/atomic.LoadUint32", "(*internal/sync.Mutex).Lock", "internal/race.Disable", "sync/atomic.CompareAndSwapInt32", "internal/race.Enable", "internal/race.Acquire", "(*internal/sync.Mutex).lockSlow", "internal/sync.runtime_canSpin", "internal/sync.runtime_doSpin", "internal/sync.throw", "internal/sync.runtime_nanotime", "internal/sync.runtime_SemacquireMutex", "sync/atomic.AddInt32", "(*internal/sync.Mutex).Unlock", "internal/race.ReleaseMerge", "(*internal/sync.Mutex).unlockSlow", "internal/sync.fatal", "internal/sync.runtime_Semrelease", "sync/atomic.StoreUint32", "sync/atomic.LoadUint64", "sync/atomic.OrUint64"], unfollowed := true, recurses := true, apart := false, narrowed := true }
def YuasaRunsUptoSaid : Prop := yuasaRunsUptoRow.holds Try.pinned (OpenSpec.upto yuasaRunsSpec)

/-- 'hawthornlaw13.DijkstraKeeps', WHERE WHAT IT READS IS OF BULK AT MOST 1048576: true; the input reads as it did. -/
def dijkstraKeepsUptoRow : OpenClaim := { program := "ytacebfocfpbkdaa", sum := "0535e7ef5bf4f265a8992b7dd0beee4db3398a022a845fec8daa116ad9977616", func := "hawthorn/hawthornlaw13.DijkstraKeeps", spec := "dijkstraKeeps", inPlace := ["sync/atomic.LoadUint32", "(*internal/sync.Mutex).Lock", "internal/race.Disable", "sync/atomic.CompareAndSwapInt32", "internal/race.Enable", "internal/race.Acquire", "(*internal/sync.Mutex).lockSlow", "internal/sync.runtime_canSpin", "internal/sync.runtime_doSpin", "internal/sync.throw", "internal/sync.runtime_nanotime", "internal/sync.runtime_SemacquireMutex", "sync/atomic.AddInt32", "(*internal/sync.Mutex).Unlock", "internal/race.ReleaseMerge", "(*internal/sync.Mutex).unlockSlow", "internal/sync.fatal", "internal/sync.runtime_Semrelease", "sync/atomic.StoreUint32", "sync/atomic.LoadUint64", "sync/atomic.OrUint64"], unfollowed := true, recurses := true, apart := false, narrowed := true }
def DijkstraKeepsUptoSaid : Prop := dijkstraKeepsUptoRow.holds Try.pinned (OpenSpec.upto dijkstraKeepsSpec)

/-- 'hawthornlaw13.DijkstraNone', WHERE WHAT IT READS IS OF BULK AT MOST 1048576: true; the input reads as it did. -/
def dijkstraNoneUptoRow : OpenClaim := { program := "ytacebfocfpbkdaa", sum := "0535e7ef5bf4f265a8992b7dd0beee4db3398a022a845fec8daa116ad9977616", func := "hawthorn/hawthornlaw13.DijkstraNone", spec := "dijkstraNone", inPlace := ["sync/atomic.LoadUint32", "(*internal/sync.Mutex).Lock", "internal/race.Disable", "sync/atomic.CompareAndSwapInt32", "internal/race.Enable", "internal/race.Acquire", "(*internal/sync.Mutex).lockSlow", "internal/sync.runtime_canSpin", "internal/sync.runtime_doSpin", "internal/sync.throw", "internal/sync.runtime_nanotime", "internal/sync.runtime_SemacquireMutex", "sync/atomic.AddInt32", "(*internal/sync.Mutex).Unlock", "internal/race.ReleaseMerge", "(*internal/sync.Mutex).unlockSlow", "internal/sync.fatal", "internal/sync.runtime_Semrelease", "sync/atomic.StoreUint32", "sync/atomic.LoadUint64", "sync/atomic.OrUint64"], unfollowed := true, recurses := true, apart := false, narrowed := true }
def DijkstraNoneUptoSaid : Prop := dijkstraNoneUptoRow.holds Try.pinned (OpenSpec.upto dijkstraNoneSpec)

/-- 'hawthornlaw11.MarkOrders', WHERE WHAT IT READS IS OF BULK AT MOST 1048576: true; the input reads as it did. -/
def markOrdersUptoRow : OpenClaim := { program := "ytacebfocfpbkdaa", sum := "0535e7ef5bf4f265a8992b7dd0beee4db3398a022a845fec8daa116ad9977616", func := "hawthorn/hawthornlaw11.MarkOrders", spec := "markOrders", inPlace := ["sync/atomic.LoadUint32", "(*internal/sync.Mutex).Lock", "internal/race.Disable", "sync/atomic.CompareAndSwapInt32", "internal/race.Enable", "internal/race.Acquire", "(*internal/sync.Mutex).lockSlow", "internal/sync.runtime_canSpin", "internal/sync.runtime_doSpin", "internal/sync.throw", "internal/sync.runtime_nanotime", "internal/sync.runtime_SemacquireMutex", "sync/atomic.AddInt32", "(*internal/sync.Mutex).Unlock", "internal/race.ReleaseMerge", "(*internal/sync.Mutex).unlockSlow", "internal/sync.fatal", "internal/sync.runtime_Semrelease", "sync/atomic.StoreUint32", "sync/atomic.LoadUint64", "sync/atomic.OrUint64"], unfollowed := true, recurses := true, apart := false, narrowed := true }
def MarkOrdersUptoSaid : Prop := markOrdersUptoRow.holds Try.pinned (OpenSpec.upto markOrdersSpec)

/-- 'hawthornlaw11.MarkBlacks', WHERE WHAT IT READS IS OF BULK AT MOST 1048576: true; the input reads as it did. -/
def markBlacksUptoRow : OpenClaim := { program := "ytacebfocfpbkdaa", sum := "0535e7ef5bf4f265a8992b7dd0beee4db3398a022a845fec8daa116ad9977616", func := "hawthorn/hawthornlaw11.MarkBlacks", spec := "markBlacks", inPlace := ["sync/atomic.LoadUint32", "(*internal/sync.Mutex).Lock", "internal/race.Disable", "sync/atomic.CompareAndSwapInt32", "internal/race.Enable", "internal/race.Acquire", "(*internal/sync.Mutex).lockSlow", "internal/sync.runtime_canSpin", "internal/sync.runtime_doSpin", "internal/sync.throw", "internal/sync.runtime_nanotime", "internal/sync.runtime_SemacquireMutex", "sync/atomic.AddInt32", "(*internal/sync.Mutex).Unlock", "internal/race.ReleaseMerge", "(*internal/sync.Mutex).unlockSlow", "internal/sync.fatal", "internal/sync.runtime_Semrelease", "sync/atomic.StoreUint32", "sync/atomic.LoadUint64", "sync/atomic.OrUint64"], unfollowed := true, recurses := true, apart := false, narrowed := true }
def MarkBlacksUptoSaid : Prop := markBlacksUptoRow.holds Try.pinned (OpenSpec.upto markBlacksSpec)

/-- 'hawthornlaw14.YuasaSnapshot', WHERE WHAT IT READS IS OF BULK AT MOST 1048576: true; the input reads as it did. -/
def yuasaSnapshotUptoRow : OpenClaim := { program := "ytacebfocfpbkdaa", sum := "0535e7ef5bf4f265a8992b7dd0beee4db3398a022a845fec8daa116ad9977616", func := "hawthorn/hawthornlaw14.YuasaSnapshot", spec := "yuasaSnapshot", inPlace := ["sync/atomic.LoadUint32", "(*internal/sync.Mutex).Lock", "internal/race.Disable", "sync/atomic.CompareAndSwapInt32", "internal/race.Enable", "internal/race.Acquire", "(*internal/sync.Mutex).lockSlow", "internal/sync.runtime_canSpin", "internal/sync.runtime_doSpin", "internal/sync.throw", "internal/sync.runtime_nanotime", "internal/sync.runtime_SemacquireMutex", "sync/atomic.AddInt32", "(*internal/sync.Mutex).Unlock", "internal/race.ReleaseMerge", "(*internal/sync.Mutex).unlockSlow", "internal/sync.fatal", "internal/sync.runtime_Semrelease", "sync/atomic.StoreUint32", "sync/atomic.LoadUint64", "sync/atomic.OrUint64"], unfollowed := true, recurses := true, apart := false, narrowed := true }
def YuasaSnapshotUptoSaid : Prop := yuasaSnapshotUptoRow.holds Try.pinned (OpenSpec.upto yuasaSnapshotSpec)

/-- 'hawthornlaw11.MarkAgain', WHERE WHAT IT READS IS OF BULK AT MOST 1048576: true; the input reads as it did. -/
def markAgainUptoRow : OpenClaim := { program := "ytacebfocfpbkdaa", sum := "0535e7ef5bf4f265a8992b7dd0beee4db3398a022a845fec8daa116ad9977616", func := "hawthorn/hawthornlaw11.MarkAgain", spec := "markAgain", inPlace := ["sync/atomic.LoadUint32", "(*internal/sync.Mutex).Lock", "internal/race.Disable", "sync/atomic.CompareAndSwapInt32", "internal/race.Enable", "internal/race.Acquire", "(*internal/sync.Mutex).lockSlow", "internal/sync.runtime_canSpin", "internal/sync.runtime_doSpin", "internal/sync.throw", "internal/sync.runtime_nanotime", "internal/sync.runtime_SemacquireMutex", "sync/atomic.AddInt32", "(*internal/sync.Mutex).Unlock", "internal/race.ReleaseMerge", "(*internal/sync.Mutex).unlockSlow", "internal/sync.fatal", "internal/sync.runtime_Semrelease", "sync/atomic.StoreUint32", "sync/atomic.LoadUint64", "sync/atomic.OrUint64", "sync/atomic.AndUint64"], unfollowed := true, recurses := true, apart := false, narrowed := true }
def MarkAgainUptoSaid : Prop := markAgainUptoRow.holds Try.pinned (OpenSpec.upto markAgainSpec)

/-- 'hawthornlaw11.MarkTwice', WHERE WHAT IT READS IS OF BULK AT MOST 1048576: true; the input reads as it did. -/
def markTwiceUptoRow : OpenClaim := { program := "ytacebfocfpbkdaa", sum := "0535e7ef5bf4f265a8992b7dd0beee4db3398a022a845fec8daa116ad9977616", func := "hawthorn/hawthornlaw11.MarkTwice", spec := "markTwice", inPlace := ["sync/atomic.LoadUint32", "(*internal/sync.Mutex).Lock", "internal/race.Disable", "sync/atomic.CompareAndSwapInt32", "internal/race.Enable", "internal/race.Acquire", "(*internal/sync.Mutex).lockSlow", "internal/sync.runtime_canSpin", "internal/sync.runtime_doSpin", "internal/sync.throw", "internal/sync.runtime_nanotime", "internal/sync.runtime_SemacquireMutex", "sync/atomic.AddInt32", "(*internal/sync.Mutex).Unlock", "internal/race.ReleaseMerge", "(*internal/sync.Mutex).unlockSlow", "internal/sync.fatal", "internal/sync.runtime_Semrelease", "sync/atomic.StoreUint32", "sync/atomic.LoadUint64", "sync/atomic.OrUint64", "sync/atomic.StoreUint64"], unfollowed := true, recurses := true, apart := false, narrowed := true }
def MarkTwiceUptoSaid : Prop := markTwiceUptoRow.holds Try.pinned (OpenSpec.upto markTwiceSpec)

/-- 'hawthornlaw11.MarkReaches', WHERE WHAT IT READS IS OF BULK AT MOST 1048576: true; the input reads as it did. -/
def markReachesUptoRow : OpenClaim := { program := "ytacebfocfpbkdaa", sum := "0535e7ef5bf4f265a8992b7dd0beee4db3398a022a845fec8daa116ad9977616", func := "hawthorn/hawthornlaw11.MarkReaches", spec := "markReaches", inPlace := ["sync/atomic.LoadUint32", "(*internal/sync.Mutex).Lock", "internal/race.Disable", "sync/atomic.CompareAndSwapInt32", "internal/race.Enable", "internal/race.Acquire", "(*internal/sync.Mutex).lockSlow", "internal/sync.runtime_canSpin", "internal/sync.runtime_doSpin", "internal/sync.throw", "internal/sync.runtime_nanotime", "internal/sync.runtime_SemacquireMutex", "sync/atomic.AddInt32", "(*internal/sync.Mutex).Unlock", "internal/race.ReleaseMerge", "(*internal/sync.Mutex).unlockSlow", "internal/sync.fatal", "internal/sync.runtime_Semrelease", "sync/atomic.StoreUint32", "sync/atomic.LoadUint64", "sync/atomic.OrUint64"], unfollowed := true, recurses := true, apart := false, narrowed := true }
def MarkReachesUptoSaid : Prop := markReachesUptoRow.holds Try.pinned (OpenSpec.upto markReachesSpec)

/-- 'hawthornlaw14.YuasaQuiet', WHERE WHAT IT READS IS OF BULK AT MOST 1048576: true; the input reads as it did. -/
def yuasaQuietUptoRow : OpenClaim := { program := "ytacebfocfpbkdaa", sum := "0535e7ef5bf4f265a8992b7dd0beee4db3398a022a845fec8daa116ad9977616", func := "hawthorn/hawthornlaw14.YuasaQuiet", spec := "yuasaQuiet", inPlace := ["sync/atomic.LoadUint32", "(*internal/sync.Mutex).Lock", "internal/race.Disable", "sync/atomic.CompareAndSwapInt32", "internal/race.Enable", "internal/race.Acquire", "(*internal/sync.Mutex).lockSlow", "internal/sync.runtime_canSpin", "internal/sync.runtime_doSpin", "internal/sync.throw", "internal/sync.runtime_nanotime", "internal/sync.runtime_SemacquireMutex", "sync/atomic.AddInt32", "(*internal/sync.Mutex).Unlock", "internal/race.ReleaseMerge", "(*internal/sync.Mutex).unlockSlow", "internal/sync.fatal", "internal/sync.runtime_Semrelease", "sync/atomic.StoreUint32", "sync/atomic.LoadUint64", "sync/atomic.OrUint64"], unfollowed := true, recurses := true, apart := false, narrowed := true }
def YuasaQuietUptoSaid : Prop := yuasaQuietUptoRow.holds Try.pinned (OpenSpec.upto yuasaQuietSpec)

/-- 'hawthornlaw11.MarkBudgets', WHERE WHAT IT READS IS OF BULK AT MOST 1048576: true; the input reads as it did. -/
def markBudgetsUptoRow : OpenClaim := { program := "ytacebfocfpbkdaa", sum := "0535e7ef5bf4f265a8992b7dd0beee4db3398a022a845fec8daa116ad9977616", func := "hawthorn/hawthornlaw11.MarkBudgets", spec := "markBudgets", inPlace := ["sync/atomic.LoadUint32", "(*internal/sync.Mutex).Lock", "internal/race.Disable", "sync/atomic.CompareAndSwapInt32", "internal/race.Enable", "internal/race.Acquire", "(*internal/sync.Mutex).lockSlow", "internal/sync.runtime_canSpin", "internal/sync.runtime_doSpin", "internal/sync.throw", "internal/sync.runtime_nanotime", "internal/sync.runtime_SemacquireMutex", "sync/atomic.AddInt32", "(*internal/sync.Mutex).Unlock", "internal/race.ReleaseMerge", "(*internal/sync.Mutex).unlockSlow", "internal/sync.fatal", "internal/sync.runtime_Semrelease", "sync/atomic.StoreUint32", "sync/atomic.LoadUint64", "sync/atomic.OrUint64", "sync/atomic.StoreUint64"], unfollowed := true, recurses := true, apart := false, narrowed := true }
def MarkBudgetsUptoSaid : Prop := markBudgetsUptoRow.holds Try.pinned (OpenSpec.upto markBudgetsSpec)

/-- 'hawthornlaw11.MarkColours', WHERE WHAT IT READS IS OF BULK AT MOST 1048576: true; the input reads as it did. -/
def markColoursUptoRow : OpenClaim := { program := "ytacebfocfpbkdaa", sum := "0535e7ef5bf4f265a8992b7dd0beee4db3398a022a845fec8daa116ad9977616", func := "hawthorn/hawthornlaw11.MarkColours", spec := "markColours", inPlace := ["sync/atomic.LoadUint32", "(*internal/sync.Mutex).Lock", "internal/race.Disable", "sync/atomic.CompareAndSwapInt32", "internal/race.Enable", "internal/race.Acquire", "(*internal/sync.Mutex).lockSlow", "internal/sync.runtime_canSpin", "internal/sync.runtime_doSpin", "internal/sync.throw", "internal/sync.runtime_nanotime", "internal/sync.runtime_SemacquireMutex", "sync/atomic.AddInt32", "(*internal/sync.Mutex).Unlock", "internal/race.ReleaseMerge", "(*internal/sync.Mutex).unlockSlow", "internal/sync.fatal", "internal/sync.runtime_Semrelease", "sync/atomic.StoreUint32", "sync/atomic.LoadUint64", "sync/atomic.OrUint64", "sync/atomic.AndUint64"], unfollowed := true, recurses := true, apart := false, narrowed := true }
def MarkColoursUptoSaid : Prop := markColoursUptoRow.holds Try.pinned (OpenSpec.upto markColoursSpec)

end Rows
end Go.Proofs.Ytacebfocfpbkdaa
