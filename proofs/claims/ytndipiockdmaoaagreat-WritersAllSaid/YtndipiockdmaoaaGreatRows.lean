/-
  No cell of these rows narrows 'for every input' (looked for: loops, veiled, ifaces, maps, wideKeys, modest, calm, conditions, laid).
  DERIVED. THE GIVEN ROWS OF THIS SEAT. 7 by the template 'for every input the law returns true; each argument reads behind the call as it read before'; 0 by the template 'total and deterministic' (their statements: YtndipiockdmaoaaGreatTotals.lean).
  GIVEN WITH THE SEED: the statements are not yours to turn. If you find one false, say at which input.
  Laid BY PROGRAM, IN A SANDBOX (cutbox-rows.mjs): the forced cells as the released guide's own fill.sh prints them over the translation acb66cc4fe55c7ee… (all of the seat's roots in one cut). By AI agents, Wed Nov 11 2026. No macro, syntax, notation, axiom, sorry.
-/
import Derived.Test.YtndipiockdmaoaaGreatChecked
import GoSem.Claim
import GoSem.ClaimJoined
import GoSem.ClaimMapViews
import Derived.JoinedTies
import Derived.KernelRfl
namespace Go.Proofs.YtndipiockdmaoaaGreat
/- THE CELL 'sum', in the pinned program and in every row, IS THE sha256 OF THE DUMP (.gsa) THAT YtndipiockdmaoaaGreatProg.lean LOADS. Nothing in Lean hashes anything: it is a label: what it is worth is what the hold of that sum in a sandbox is worth. -/
noncomputable def Tryz.pinned : Pinned := { name := "ytndipiockdmaoaagreat", sum := "acb66cc4fe55c7ee2ebe50bf4389bb9630a852450d1431485090530c7851466c", checked := Tryz.checked }
namespace Rows
def none {H : Type} : Left H := { results := [], args := [] }

/-- 'kissgatelaw45.FamilyDoorway': WHATEVER THE INPUT: true; the input reads as it did. -/
def familyDoorwaySpec : ChangeSpec := { name := "familyDoorway", fn := fun _ => fun
  | [d1, d2] => { results := [.lit (.bool true)], args := [d1, d2] }
  | _ => none }
def familyDoorwayRow : OpenClaim := { program := "ytndipiockdmaoaagreat", sum := "acb66cc4fe55c7ee2ebe50bf4389bb9630a852450d1431485090530c7851466c", func := "kissgate/kissgatelaw45.FamilyDoorway", spec := "familyDoorway", inPlace := ["sync/atomic.LoadUint32", "(*internal/sync.Mutex).Lock", "internal/race.Disable", "sync/atomic.CompareAndSwapInt32", "internal/race.Enable", "internal/race.Acquire", "(*internal/sync.Mutex).lockSlow", "internal/sync.runtime_canSpin", "internal/sync.runtime_doSpin", "internal/sync.throw", "internal/sync.runtime_nanotime", "internal/sync.runtime_SemacquireMutex", "sync/atomic.AddInt32", "(*internal/sync.Mutex).Unlock", "internal/race.ReleaseMerge", "(*internal/sync.Mutex).unlockSlow", "internal/sync.fatal", "internal/sync.runtime_Semrelease", "sync/atomic.StoreUint32", "sync/atomic.StoreInt64", "sync/atomic.LoadInt64"], unfollowed := true, recurses := true, apart := false }
def FamilyDoorwaySaid : Prop := familyDoorwayRow.holds Tryz.pinned (OpenSpec.ofChange familyDoorwaySpec)

/-- ITS FALSE NEIGHBOUR: 'it returns false'. Refute it at one input. -/
def familyDoorwayWrong : ChangeSpec := { name := "familyDoorway", fn := fun _ => fun
  | [d1, d2] => { results := [.lit (.bool false)], args := [d1, d2] }
  | _ => none }
def FamilyDoorwayWrongFalsely : Prop := familyDoorwayRow.holds Tryz.pinned (OpenSpec.ofChange familyDoorwayWrong)

/-- 'kissgatelaw36.NeutralSafe': WHATEVER THE INPUT: true; the input reads as it did. -/
def neutralSafeSpec : ChangeSpec := { name := "neutralSafe", fn := fun _ => fun
  | [d1, d2, d3] => { results := [.lit (.bool true)], args := [d1, d2, d3] }
  | _ => none }
def neutralSafeRow : OpenClaim := { program := "ytndipiockdmaoaagreat", sum := "acb66cc4fe55c7ee2ebe50bf4389bb9630a852450d1431485090530c7851466c", func := "kissgate/kissgatelaw36.NeutralSafe", spec := "neutralSafe", inPlace := ["sync/atomic.LoadUint32", "(*internal/sync.Mutex).Lock", "internal/race.Disable", "sync/atomic.CompareAndSwapInt32", "internal/race.Enable", "internal/race.Acquire", "(*internal/sync.Mutex).lockSlow", "internal/sync.runtime_canSpin", "internal/sync.runtime_doSpin", "internal/sync.throw", "internal/sync.runtime_nanotime", "internal/sync.runtime_SemacquireMutex", "sync/atomic.AddInt32", "(*internal/sync.Mutex).Unlock", "internal/race.ReleaseMerge", "(*internal/sync.Mutex).unlockSlow", "internal/sync.fatal", "internal/sync.runtime_Semrelease", "sync/atomic.StoreUint32", "sync/atomic.StoreInt64", "sync/atomic.LoadInt64", "sync/atomic.AddInt64"], unfollowed := true, recurses := true, apart := false }
def NeutralSafeSaid : Prop := neutralSafeRow.holds Tryz.pinned (OpenSpec.ofChange neutralSafeSpec)

/-- ITS FALSE NEIGHBOUR: 'it returns false'. Refute it at one input. -/
def neutralSafeWrong : ChangeSpec := { name := "neutralSafe", fn := fun _ => fun
  | [d1, d2, d3] => { results := [.lit (.bool false)], args := [d1, d2, d3] }
  | _ => none }
def NeutralSafeWrongFalsely : Prop := neutralSafeRow.holds Tryz.pinned (OpenSpec.ofChange neutralSafeWrong)

/-- 'kissgatelaw37.ReadersSafe': WHATEVER THE INPUT: true; the input reads as it did. -/
def readersSafeSpec : ChangeSpec := { name := "readersSafe", fn := fun _ => fun
  | [d1, d2, d3] => { results := [.lit (.bool true)], args := [d1, d2, d3] }
  | _ => none }
def readersSafeRow : OpenClaim := { program := "ytndipiockdmaoaagreat", sum := "acb66cc4fe55c7ee2ebe50bf4389bb9630a852450d1431485090530c7851466c", func := "kissgate/kissgatelaw37.ReadersSafe", spec := "readersSafe", inPlace := ["sync/atomic.LoadUint32", "(*internal/sync.Mutex).Lock", "internal/race.Disable", "sync/atomic.CompareAndSwapInt32", "internal/race.Enable", "internal/race.Acquire", "(*internal/sync.Mutex).lockSlow", "internal/sync.runtime_canSpin", "internal/sync.runtime_doSpin", "internal/sync.throw", "internal/sync.runtime_nanotime", "internal/sync.runtime_SemacquireMutex", "sync/atomic.AddInt32", "(*internal/sync.Mutex).Unlock", "internal/race.ReleaseMerge", "(*internal/sync.Mutex).unlockSlow", "internal/sync.fatal", "internal/sync.runtime_Semrelease", "sync/atomic.StoreUint32", "sync/atomic.StoreInt64", "sync/atomic.AddInt64", "sync/atomic.LoadInt64"], unfollowed := true, recurses := true, apart := false }
def ReadersSafeSaid : Prop := readersSafeRow.holds Tryz.pinned (OpenSpec.ofChange readersSafeSpec)

/-- ITS FALSE NEIGHBOUR: 'it returns false'. Refute it at one input. -/
def readersSafeWrong : ChangeSpec := { name := "readersSafe", fn := fun _ => fun
  | [d1, d2, d3] => { results := [.lit (.bool false)], args := [d1, d2, d3] }
  | _ => none }
def ReadersSafeWrongFalsely : Prop := readersSafeRow.holds Tryz.pinned (OpenSpec.ofChange readersSafeWrong)

/-- 'kissgatelaw38.WritersSafe': WHATEVER THE INPUT: true; the input reads as it did. -/
def writersSafeSpec : ChangeSpec := { name := "writersSafe", fn := fun _ => fun
  | [d1, d2, d3] => { results := [.lit (.bool true)], args := [d1, d2, d3] }
  | _ => none }
def writersSafeRow : OpenClaim := { program := "ytndipiockdmaoaagreat", sum := "acb66cc4fe55c7ee2ebe50bf4389bb9630a852450d1431485090530c7851466c", func := "kissgate/kissgatelaw38.WritersSafe", spec := "writersSafe", inPlace := ["sync/atomic.LoadUint32", "(*internal/sync.Mutex).Lock", "internal/race.Disable", "sync/atomic.CompareAndSwapInt32", "internal/race.Enable", "internal/race.Acquire", "(*internal/sync.Mutex).lockSlow", "internal/sync.runtime_canSpin", "internal/sync.runtime_doSpin", "internal/sync.throw", "internal/sync.runtime_nanotime", "internal/sync.runtime_SemacquireMutex", "sync/atomic.AddInt32", "(*internal/sync.Mutex).Unlock", "internal/race.ReleaseMerge", "(*internal/sync.Mutex).unlockSlow", "internal/sync.fatal", "internal/sync.runtime_Semrelease", "sync/atomic.StoreUint32", "sync/atomic.StoreInt64", "sync/atomic.AddInt64", "sync/atomic.LoadInt64"], unfollowed := true, recurses := true, apart := false }
def WritersSafeSaid : Prop := writersSafeRow.holds Tryz.pinned (OpenSpec.ofChange writersSafeSpec)

/-- ITS FALSE NEIGHBOUR: 'it returns false'. Refute it at one input. -/
def writersSafeWrong : ChangeSpec := { name := "writersSafe", fn := fun _ => fun
  | [d1, d2, d3] => { results := [.lit (.bool false)], args := [d1, d2, d3] }
  | _ => none }
def WritersSafeWrongFalsely : Prop := writersSafeRow.holds Tryz.pinned (OpenSpec.ofChange writersSafeWrong)

/-- 'kissgatelaw36.NeutralAll': WHATEVER THE INPUT: true; the input reads as it did. -/
def neutralAllSpec : ChangeSpec := { name := "neutralAll", fn := fun _ => fun
  | [d1, d2, d3] => { results := [.lit (.bool true)], args := [d1, d2, d3] }
  | _ => none }
def neutralAllRow : OpenClaim := { program := "ytndipiockdmaoaagreat", sum := "acb66cc4fe55c7ee2ebe50bf4389bb9630a852450d1431485090530c7851466c", func := "kissgate/kissgatelaw36.NeutralAll", spec := "neutralAll", inPlace := ["sync/atomic.LoadUint32", "(*internal/sync.Mutex).Lock", "internal/race.Disable", "sync/atomic.CompareAndSwapInt32", "internal/race.Enable", "internal/race.Acquire", "(*internal/sync.Mutex).lockSlow", "internal/sync.runtime_canSpin", "internal/sync.runtime_doSpin", "internal/sync.throw", "internal/sync.runtime_nanotime", "internal/sync.runtime_SemacquireMutex", "sync/atomic.AddInt32", "(*internal/sync.Mutex).Unlock", "internal/race.ReleaseMerge", "(*internal/sync.Mutex).unlockSlow", "internal/sync.fatal", "internal/sync.runtime_Semrelease", "sync/atomic.StoreUint32", "sync/atomic.StoreInt64", "sync/atomic.LoadInt64", "sync/atomic.AddInt64"], unfollowed := true, recurses := true, apart := false }
def NeutralAllSaid : Prop := neutralAllRow.holds Tryz.pinned (OpenSpec.ofChange neutralAllSpec)

/-- ITS FALSE NEIGHBOUR: 'it returns false'. Refute it at one input. -/
def neutralAllWrong : ChangeSpec := { name := "neutralAll", fn := fun _ => fun
  | [d1, d2, d3] => { results := [.lit (.bool false)], args := [d1, d2, d3] }
  | _ => none }
def NeutralAllWrongFalsely : Prop := neutralAllRow.holds Tryz.pinned (OpenSpec.ofChange neutralAllWrong)

/-- 'kissgatelaw37.ReadersAll': WHATEVER THE INPUT: true; the input reads as it did. -/
def readersAllSpec : ChangeSpec := { name := "readersAll", fn := fun _ => fun
  | [d1, d2, d3] => { results := [.lit (.bool true)], args := [d1, d2, d3] }
  | _ => none }
def readersAllRow : OpenClaim := { program := "ytndipiockdmaoaagreat", sum := "acb66cc4fe55c7ee2ebe50bf4389bb9630a852450d1431485090530c7851466c", func := "kissgate/kissgatelaw37.ReadersAll", spec := "readersAll", inPlace := ["sync/atomic.LoadUint32", "(*internal/sync.Mutex).Lock", "internal/race.Disable", "sync/atomic.CompareAndSwapInt32", "internal/race.Enable", "internal/race.Acquire", "(*internal/sync.Mutex).lockSlow", "internal/sync.runtime_canSpin", "internal/sync.runtime_doSpin", "internal/sync.throw", "internal/sync.runtime_nanotime", "internal/sync.runtime_SemacquireMutex", "sync/atomic.AddInt32", "(*internal/sync.Mutex).Unlock", "internal/race.ReleaseMerge", "(*internal/sync.Mutex).unlockSlow", "internal/sync.fatal", "internal/sync.runtime_Semrelease", "sync/atomic.StoreUint32", "sync/atomic.StoreInt64", "sync/atomic.AddInt64", "sync/atomic.LoadInt64"], unfollowed := true, recurses := true, apart := false }
def ReadersAllSaid : Prop := readersAllRow.holds Tryz.pinned (OpenSpec.ofChange readersAllSpec)

/-- ITS FALSE NEIGHBOUR: 'it returns false'. Refute it at one input. -/
def readersAllWrong : ChangeSpec := { name := "readersAll", fn := fun _ => fun
  | [d1, d2, d3] => { results := [.lit (.bool false)], args := [d1, d2, d3] }
  | _ => none }
def ReadersAllWrongFalsely : Prop := readersAllRow.holds Tryz.pinned (OpenSpec.ofChange readersAllWrong)

/-- 'kissgatelaw38.WritersAll': WHATEVER THE INPUT: true; the input reads as it did. -/
def writersAllSpec : ChangeSpec := { name := "writersAll", fn := fun _ => fun
  | [d1, d2, d3] => { results := [.lit (.bool true)], args := [d1, d2, d3] }
  | _ => none }
def writersAllRow : OpenClaim := { program := "ytndipiockdmaoaagreat", sum := "acb66cc4fe55c7ee2ebe50bf4389bb9630a852450d1431485090530c7851466c", func := "kissgate/kissgatelaw38.WritersAll", spec := "writersAll", inPlace := ["sync/atomic.LoadUint32", "(*internal/sync.Mutex).Lock", "internal/race.Disable", "sync/atomic.CompareAndSwapInt32", "internal/race.Enable", "internal/race.Acquire", "(*internal/sync.Mutex).lockSlow", "internal/sync.runtime_canSpin", "internal/sync.runtime_doSpin", "internal/sync.throw", "internal/sync.runtime_nanotime", "internal/sync.runtime_SemacquireMutex", "sync/atomic.AddInt32", "(*internal/sync.Mutex).Unlock", "internal/race.ReleaseMerge", "(*internal/sync.Mutex).unlockSlow", "internal/sync.fatal", "internal/sync.runtime_Semrelease", "sync/atomic.StoreUint32", "sync/atomic.StoreInt64", "sync/atomic.AddInt64", "sync/atomic.LoadInt64"], unfollowed := true, recurses := true, apart := false }
def WritersAllSaid : Prop := writersAllRow.holds Tryz.pinned (OpenSpec.ofChange writersAllSpec)

/-- ITS FALSE NEIGHBOUR: 'it returns false'. Refute it at one input. -/
def writersAllWrong : ChangeSpec := { name := "writersAll", fn := fun _ => fun
  | [d1, d2, d3] => { results := [.lit (.bool false)], args := [d1, d2, d3] }
  | _ => none }
def WritersAllWrongFalsely : Prop := writersAllRow.holds Tryz.pinned (OpenSpec.ofChange writersAllWrong)

/- THE SECOND FORM. 'bulk': how many values and letters a reading holds, each counted each time it is reached (what is shared counts as often as it is met; a slice's spare places count too). A statement '..UptoSaid' is the law's where the arguments, and the package variables that the reading takes, are together of bulk at most 1048576: NARROWER than '..Said'. Prove '..Said' where nothing that the law and all that it calls make is longer than what came in: it says more and counts as full. Else prove '..UptoSaid'. A law counts once. -/
mutual
def uptoBulk {H : Type} : DataW H → Nat
  | .lit (.string bytes) => bytes.length + 1
  | .lit _ => 1
  | .nil => 1
  | .ptr d => uptoBulk d + 1
  | .slice elems spare => uptoBulkAll elems + uptoBulkAll spare + 1
  | .agg parts => uptoBulkAll parts + 1
  | .iface _ d => uptoBulk d + 1
  | .map entries => uptoBulkEntries entries + 1
  | .held _ => 1
def uptoBulkAll {H : Type} : List (DataW H) → Nat
  | [] => 0
  | d :: r => uptoBulk d + uptoBulkAll r
def uptoBulkEntries {H : Type} : List (Lit × DataW H) → Nat
  | [] => 0
  | x :: r => uptoBulkEntry x + uptoBulkEntries r
def uptoBulkEntry {H : Type} : Lit × DataW H → Nat
  | (.string bytes, d) => bytes.length + uptoBulk d + 1
  | (_, d) => uptoBulk d + 1
 end
def uptoSmall : (H : Type) → List (DataW H) → Bool := fun _ ds => decide (uptoBulkAll ds ≤ 1048576)
def OpenSpec.upto (s : _root_.Go.ChangeSpec) : _root_.Go.OpenSpec := { _root_.Go.OpenSpec.ofChange s with cond := some uptoSmall }

/-- 'kissgatelaw45.FamilyDoorway', WHERE WHAT IT READS IS OF BULK AT MOST 1048576: true; the input reads as it did. -/
def familyDoorwayUptoRow : OpenClaim := { program := "ytndipiockdmaoaagreat", sum := "acb66cc4fe55c7ee2ebe50bf4389bb9630a852450d1431485090530c7851466c", func := "kissgate/kissgatelaw45.FamilyDoorway", spec := "familyDoorway", inPlace := ["sync/atomic.LoadUint32", "(*internal/sync.Mutex).Lock", "internal/race.Disable", "sync/atomic.CompareAndSwapInt32", "internal/race.Enable", "internal/race.Acquire", "(*internal/sync.Mutex).lockSlow", "internal/sync.runtime_canSpin", "internal/sync.runtime_doSpin", "internal/sync.throw", "internal/sync.runtime_nanotime", "internal/sync.runtime_SemacquireMutex", "sync/atomic.AddInt32", "(*internal/sync.Mutex).Unlock", "internal/race.ReleaseMerge", "(*internal/sync.Mutex).unlockSlow", "internal/sync.fatal", "internal/sync.runtime_Semrelease", "sync/atomic.StoreUint32", "sync/atomic.StoreInt64", "sync/atomic.LoadInt64"], unfollowed := true, recurses := true, apart := false, narrowed := true }
def FamilyDoorwayUptoSaid : Prop := familyDoorwayUptoRow.holds Tryz.pinned (OpenSpec.upto familyDoorwaySpec)

/-- 'kissgatelaw36.NeutralSafe', WHERE WHAT IT READS IS OF BULK AT MOST 1048576: true; the input reads as it did. -/
def neutralSafeUptoRow : OpenClaim := { program := "ytndipiockdmaoaagreat", sum := "acb66cc4fe55c7ee2ebe50bf4389bb9630a852450d1431485090530c7851466c", func := "kissgate/kissgatelaw36.NeutralSafe", spec := "neutralSafe", inPlace := ["sync/atomic.LoadUint32", "(*internal/sync.Mutex).Lock", "internal/race.Disable", "sync/atomic.CompareAndSwapInt32", "internal/race.Enable", "internal/race.Acquire", "(*internal/sync.Mutex).lockSlow", "internal/sync.runtime_canSpin", "internal/sync.runtime_doSpin", "internal/sync.throw", "internal/sync.runtime_nanotime", "internal/sync.runtime_SemacquireMutex", "sync/atomic.AddInt32", "(*internal/sync.Mutex).Unlock", "internal/race.ReleaseMerge", "(*internal/sync.Mutex).unlockSlow", "internal/sync.fatal", "internal/sync.runtime_Semrelease", "sync/atomic.StoreUint32", "sync/atomic.StoreInt64", "sync/atomic.LoadInt64", "sync/atomic.AddInt64"], unfollowed := true, recurses := true, apart := false, narrowed := true }
def NeutralSafeUptoSaid : Prop := neutralSafeUptoRow.holds Tryz.pinned (OpenSpec.upto neutralSafeSpec)

/-- 'kissgatelaw37.ReadersSafe', WHERE WHAT IT READS IS OF BULK AT MOST 1048576: true; the input reads as it did. -/
def readersSafeUptoRow : OpenClaim := { program := "ytndipiockdmaoaagreat", sum := "acb66cc4fe55c7ee2ebe50bf4389bb9630a852450d1431485090530c7851466c", func := "kissgate/kissgatelaw37.ReadersSafe", spec := "readersSafe", inPlace := ["sync/atomic.LoadUint32", "(*internal/sync.Mutex).Lock", "internal/race.Disable", "sync/atomic.CompareAndSwapInt32", "internal/race.Enable", "internal/race.Acquire", "(*internal/sync.Mutex).lockSlow", "internal/sync.runtime_canSpin", "internal/sync.runtime_doSpin", "internal/sync.throw", "internal/sync.runtime_nanotime", "internal/sync.runtime_SemacquireMutex", "sync/atomic.AddInt32", "(*internal/sync.Mutex).Unlock", "internal/race.ReleaseMerge", "(*internal/sync.Mutex).unlockSlow", "internal/sync.fatal", "internal/sync.runtime_Semrelease", "sync/atomic.StoreUint32", "sync/atomic.StoreInt64", "sync/atomic.AddInt64", "sync/atomic.LoadInt64"], unfollowed := true, recurses := true, apart := false, narrowed := true }
def ReadersSafeUptoSaid : Prop := readersSafeUptoRow.holds Tryz.pinned (OpenSpec.upto readersSafeSpec)

/-- 'kissgatelaw38.WritersSafe', WHERE WHAT IT READS IS OF BULK AT MOST 1048576: true; the input reads as it did. -/
def writersSafeUptoRow : OpenClaim := { program := "ytndipiockdmaoaagreat", sum := "acb66cc4fe55c7ee2ebe50bf4389bb9630a852450d1431485090530c7851466c", func := "kissgate/kissgatelaw38.WritersSafe", spec := "writersSafe", inPlace := ["sync/atomic.LoadUint32", "(*internal/sync.Mutex).Lock", "internal/race.Disable", "sync/atomic.CompareAndSwapInt32", "internal/race.Enable", "internal/race.Acquire", "(*internal/sync.Mutex).lockSlow", "internal/sync.runtime_canSpin", "internal/sync.runtime_doSpin", "internal/sync.throw", "internal/sync.runtime_nanotime", "internal/sync.runtime_SemacquireMutex", "sync/atomic.AddInt32", "(*internal/sync.Mutex).Unlock", "internal/race.ReleaseMerge", "(*internal/sync.Mutex).unlockSlow", "internal/sync.fatal", "internal/sync.runtime_Semrelease", "sync/atomic.StoreUint32", "sync/atomic.StoreInt64", "sync/atomic.AddInt64", "sync/atomic.LoadInt64"], unfollowed := true, recurses := true, apart := false, narrowed := true }
def WritersSafeUptoSaid : Prop := writersSafeUptoRow.holds Tryz.pinned (OpenSpec.upto writersSafeSpec)

/-- 'kissgatelaw36.NeutralAll', WHERE WHAT IT READS IS OF BULK AT MOST 1048576: true; the input reads as it did. -/
def neutralAllUptoRow : OpenClaim := { program := "ytndipiockdmaoaagreat", sum := "acb66cc4fe55c7ee2ebe50bf4389bb9630a852450d1431485090530c7851466c", func := "kissgate/kissgatelaw36.NeutralAll", spec := "neutralAll", inPlace := ["sync/atomic.LoadUint32", "(*internal/sync.Mutex).Lock", "internal/race.Disable", "sync/atomic.CompareAndSwapInt32", "internal/race.Enable", "internal/race.Acquire", "(*internal/sync.Mutex).lockSlow", "internal/sync.runtime_canSpin", "internal/sync.runtime_doSpin", "internal/sync.throw", "internal/sync.runtime_nanotime", "internal/sync.runtime_SemacquireMutex", "sync/atomic.AddInt32", "(*internal/sync.Mutex).Unlock", "internal/race.ReleaseMerge", "(*internal/sync.Mutex).unlockSlow", "internal/sync.fatal", "internal/sync.runtime_Semrelease", "sync/atomic.StoreUint32", "sync/atomic.StoreInt64", "sync/atomic.LoadInt64", "sync/atomic.AddInt64"], unfollowed := true, recurses := true, apart := false, narrowed := true }
def NeutralAllUptoSaid : Prop := neutralAllUptoRow.holds Tryz.pinned (OpenSpec.upto neutralAllSpec)

/-- 'kissgatelaw37.ReadersAll', WHERE WHAT IT READS IS OF BULK AT MOST 1048576: true; the input reads as it did. -/
def readersAllUptoRow : OpenClaim := { program := "ytndipiockdmaoaagreat", sum := "acb66cc4fe55c7ee2ebe50bf4389bb9630a852450d1431485090530c7851466c", func := "kissgate/kissgatelaw37.ReadersAll", spec := "readersAll", inPlace := ["sync/atomic.LoadUint32", "(*internal/sync.Mutex).Lock", "internal/race.Disable", "sync/atomic.CompareAndSwapInt32", "internal/race.Enable", "internal/race.Acquire", "(*internal/sync.Mutex).lockSlow", "internal/sync.runtime_canSpin", "internal/sync.runtime_doSpin", "internal/sync.throw", "internal/sync.runtime_nanotime", "internal/sync.runtime_SemacquireMutex", "sync/atomic.AddInt32", "(*internal/sync.Mutex).Unlock", "internal/race.ReleaseMerge", "(*internal/sync.Mutex).unlockSlow", "internal/sync.fatal", "internal/sync.runtime_Semrelease", "sync/atomic.StoreUint32", "sync/atomic.StoreInt64", "sync/atomic.AddInt64", "sync/atomic.LoadInt64"], unfollowed := true, recurses := true, apart := false, narrowed := true }
def ReadersAllUptoSaid : Prop := readersAllUptoRow.holds Tryz.pinned (OpenSpec.upto readersAllSpec)

/-- 'kissgatelaw38.WritersAll', WHERE WHAT IT READS IS OF BULK AT MOST 1048576: true; the input reads as it did. -/
def writersAllUptoRow : OpenClaim := { program := "ytndipiockdmaoaagreat", sum := "acb66cc4fe55c7ee2ebe50bf4389bb9630a852450d1431485090530c7851466c", func := "kissgate/kissgatelaw38.WritersAll", spec := "writersAll", inPlace := ["sync/atomic.LoadUint32", "(*internal/sync.Mutex).Lock", "internal/race.Disable", "sync/atomic.CompareAndSwapInt32", "internal/race.Enable", "internal/race.Acquire", "(*internal/sync.Mutex).lockSlow", "internal/sync.runtime_canSpin", "internal/sync.runtime_doSpin", "internal/sync.throw", "internal/sync.runtime_nanotime", "internal/sync.runtime_SemacquireMutex", "sync/atomic.AddInt32", "(*internal/sync.Mutex).Unlock", "internal/race.ReleaseMerge", "(*internal/sync.Mutex).unlockSlow", "internal/sync.fatal", "internal/sync.runtime_Semrelease", "sync/atomic.StoreUint32", "sync/atomic.StoreInt64", "sync/atomic.AddInt64", "sync/atomic.LoadInt64"], unfollowed := true, recurses := true, apart := false, narrowed := true }
def WritersAllUptoSaid : Prop := writersAllUptoRow.holds Tryz.pinned (OpenSpec.upto writersAllSpec)

end Rows
end Go.Proofs.YtndipiockdmaoaaGreat
