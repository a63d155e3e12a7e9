/-
  No cell of these rows narrows 'for every input' (looked for: loops, veiled, ifaces, maps, wideKeys, modest, calm, conditions, laid).
  DERIVED. THE GIVEN ROWS OF THIS SEAT. 7 by the template 'for every input the law returns true; each argument reads behind the call as it read before'; 0 by the template 'total and deterministic' (their statements: YtglokdbiggbkjaaGreatTotals.lean).
  GIVEN WITH THE SEED: the statements are not yours to turn. If you find one false, say at which input.
  Laid BY PROGRAM, IN A SANDBOX (cutbox-rows.mjs): the forced cells as the released guide's own fill.sh prints them over the translation de838131dff3c2e3… (all of the seat's roots in one cut). By AI agents, Wed Nov 11 2026. No macro, syntax, notation, axiom, sorry.
-/
import Derived.Test.YtglokdbiggbkjaaGreatChecked
import GoSem.Claim
import GoSem.ClaimJoined
import GoSem.ClaimMapViews
import Derived.JoinedTies
import Derived.KernelRfl
namespace Go.Proofs.YtglokdbiggbkjaaGreat
/- THE CELL 'sum', in the pinned program and in every row, IS THE sha256 OF THE DUMP (.gsa) THAT YtglokdbiggbkjaaGreatProg.lean LOADS. Nothing in Lean hashes anything: it is a label: what it is worth is what the hold of that sum in a sandbox is worth. -/
noncomputable def Tryz.pinned : Pinned := { name := "ytglokdbiggbkjaagreat", sum := "de838131dff3c2e3b366da8ff01085c38abe7673e9673a843a0f08fb1f164589", checked := Tryz.checked }
namespace Rows
def none {H : Type} : Left H := { results := [], args := [] }

/-- 'kissgatelaw40.LocksSafe': WHATEVER THE INPUT: true; the input reads as it did. -/
def locksSafeSpec : ChangeSpec := { name := "locksSafe", fn := fun _ => fun
  | [d1, d2, d3] => { results := [.lit (.bool true)], args := [d1, d2, d3] }
  | _ => none }
def locksSafeRow : OpenClaim := { program := "ytglokdbiggbkjaagreat", sum := "de838131dff3c2e3b366da8ff01085c38abe7673e9673a843a0f08fb1f164589", func := "kissgate/kissgatelaw40.LocksSafe", spec := "locksSafe", inPlace := ["sync/atomic.LoadUint32", "(*internal/sync.Mutex).Lock", "internal/race.Disable", "sync/atomic.CompareAndSwapInt32", "internal/race.Enable", "internal/race.Acquire", "(*internal/sync.Mutex).lockSlow", "internal/sync.runtime_canSpin", "internal/sync.runtime_doSpin", "internal/sync.throw", "internal/sync.runtime_nanotime", "internal/sync.runtime_SemacquireMutex", "sync/atomic.AddInt32", "(*internal/sync.Mutex).Unlock", "internal/race.ReleaseMerge", "(*internal/sync.Mutex).unlockSlow", "internal/sync.fatal", "internal/sync.runtime_Semrelease", "sync/atomic.StoreUint32", "sync/atomic.StoreInt64", "sync/atomic.LoadInt64"], unfollowed := true, recurses := true, apart := false }
def LocksSafeSaid : Prop := locksSafeRow.holds Tryz.pinned (OpenSpec.ofChange locksSafeSpec)

/-- ITS FALSE NEIGHBOUR: 'it returns false'. Refute it at one input. -/
def locksSafeWrong : ChangeSpec := { name := "locksSafe", fn := fun _ => fun
  | [d1, d2, d3] => { results := [.lit (.bool false)], args := [d1, d2, d3] }
  | _ => none }
def LocksSafeWrongFalsely : Prop := locksSafeRow.holds Tryz.pinned (OpenSpec.ofChange locksSafeWrong)

/-- 'kissgatelaw41.WorldTrace': WHATEVER THE INPUT: true; the input reads as it did. -/
def worldTraceSpec : ChangeSpec := { name := "worldTrace", fn := fun _ => fun
  | [d1, d2, d3] => { results := [.lit (.bool true)], args := [d1, d2, d3] }
  | _ => none }
def worldTraceRow : OpenClaim := { program := "ytglokdbiggbkjaagreat", sum := "de838131dff3c2e3b366da8ff01085c38abe7673e9673a843a0f08fb1f164589", func := "kissgate/kissgatelaw41.WorldTrace", spec := "worldTrace", inPlace := ["sync/atomic.LoadUint32", "(*internal/sync.Mutex).Lock", "internal/race.Disable", "sync/atomic.CompareAndSwapInt32", "internal/race.Enable", "internal/race.Acquire", "(*internal/sync.Mutex).lockSlow", "internal/sync.runtime_canSpin", "internal/sync.runtime_doSpin", "internal/sync.throw", "internal/sync.runtime_nanotime", "internal/sync.runtime_SemacquireMutex", "sync/atomic.AddInt32", "(*internal/sync.Mutex).Unlock", "internal/race.ReleaseMerge", "(*internal/sync.Mutex).unlockSlow", "internal/sync.fatal", "internal/sync.runtime_Semrelease", "sync/atomic.StoreUint32", "sync/atomic.StoreInt64", "sync/atomic.LoadInt64"], unfollowed := true, recurses := true, apart := false }
def WorldTraceSaid : Prop := worldTraceRow.holds Tryz.pinned (OpenSpec.ofChange worldTraceSpec)

/-- ITS FALSE NEIGHBOUR: 'it returns false'. Refute it at one input. -/
def worldTraceWrong : ChangeSpec := { name := "worldTrace", fn := fun _ => fun
  | [d1, d2, d3] => { results := [.lit (.bool false)], args := [d1, d2, d3] }
  | _ => none }
def WorldTraceWrongFalsely : Prop := worldTraceRow.holds Tryz.pinned (OpenSpec.ofChange worldTraceWrong)

/-- 'kissgatelaw47.BoltLoops': WHATEVER THE INPUT: true; the input reads as it did. -/
def boltLoopsSpec : ChangeSpec := { name := "boltLoops", fn := fun _ => fun
  | [d1, d2, d3] => { results := [.lit (.bool true)], args := [d1, d2, d3] }
  | _ => none }
def boltLoopsRow : OpenClaim := { program := "ytglokdbiggbkjaagreat", sum := "de838131dff3c2e3b366da8ff01085c38abe7673e9673a843a0f08fb1f164589", func := "kissgate/kissgatelaw47.BoltLoops", spec := "boltLoops", inPlace := ["sync/atomic.LoadUint32", "(*internal/sync.Mutex).Lock", "internal/race.Disable", "sync/atomic.CompareAndSwapInt32", "internal/race.Enable", "internal/race.Acquire", "(*internal/sync.Mutex).lockSlow", "internal/sync.runtime_canSpin", "internal/sync.runtime_doSpin", "internal/sync.throw", "internal/sync.runtime_nanotime", "internal/sync.runtime_SemacquireMutex", "sync/atomic.AddInt32", "(*internal/sync.Mutex).Unlock", "internal/race.ReleaseMerge", "(*internal/sync.Mutex).unlockSlow", "internal/sync.fatal", "internal/sync.runtime_Semrelease", "sync/atomic.StoreUint32", "sync/atomic.StoreInt64", "sync/atomic.LoadInt64"], unfollowed := true, recurses := true, apart := false }
def BoltLoopsSaid : Prop := boltLoopsRow.holds Tryz.pinned (OpenSpec.ofChange boltLoopsSpec)

/-- ITS FALSE NEIGHBOUR: 'it returns false'. Refute it at one input. -/
def boltLoopsWrong : ChangeSpec := { name := "boltLoops", fn := fun _ => fun
  | [d1, d2, d3] => { results := [.lit (.bool false)], args := [d1, d2, d3] }
  | _ => none }
def BoltLoopsWrongFalsely : Prop := boltLoopsRow.holds Tryz.pinned (OpenSpec.ofChange boltLoopsWrong)

/-- 'kissgatelaw46.ExploreSafe': WHATEVER THE INPUT: true; the input reads as it did. -/
def exploreSafeSpec : ChangeSpec := { name := "exploreSafe", fn := fun _ => fun
  | [d1, d2, d3] => { results := [.lit (.bool true)], args := [d1, d2, d3] }
  | _ => none }
def exploreSafeRow : OpenClaim := { program := "ytglokdbiggbkjaagreat", sum := "de838131dff3c2e3b366da8ff01085c38abe7673e9673a843a0f08fb1f164589", func := "kissgate/kissgatelaw46.ExploreSafe", spec := "exploreSafe", inPlace := ["sync/atomic.LoadUint32", "(*internal/sync.Mutex).Lock", "internal/race.Disable", "sync/atomic.CompareAndSwapInt32", "internal/race.Enable", "internal/race.Acquire", "(*internal/sync.Mutex).lockSlow", "internal/sync.runtime_canSpin", "internal/sync.runtime_doSpin", "internal/sync.throw", "internal/sync.runtime_nanotime", "internal/sync.runtime_SemacquireMutex", "sync/atomic.AddInt32", "(*internal/sync.Mutex).Unlock", "internal/race.ReleaseMerge", "(*internal/sync.Mutex).unlockSlow", "internal/sync.fatal", "internal/sync.runtime_Semrelease", "sync/atomic.StoreUint32", "sync/atomic.StoreInt64", "sync/atomic.LoadInt64"], unfollowed := true, recurses := true, apart := false }
def ExploreSafeSaid : Prop := exploreSafeRow.holds Tryz.pinned (OpenSpec.ofChange exploreSafeSpec)

/-- ITS FALSE NEIGHBOUR: 'it returns false'. Refute it at one input. -/
def exploreSafeWrong : ChangeSpec := { name := "exploreSafe", fn := fun _ => fun
  | [d1, d2, d3] => { results := [.lit (.bool false)], args := [d1, d2, d3] }
  | _ => none }
def ExploreSafeWrongFalsely : Prop := exploreSafeRow.holds Tryz.pinned (OpenSpec.ofChange exploreSafeWrong)

/-- 'kissgatetop.WholeRefuses': WHATEVER THE INPUT: true; the input reads as it did. -/
def wholeRefusesSpec : ChangeSpec := { name := "wholeRefuses", fn := fun _ => fun
  | [d1, d2, d3] => { results := [.lit (.bool true)], args := [d1, d2, d3] }
  | _ => none }
def wholeRefusesRow : OpenClaim := { program := "ytglokdbiggbkjaagreat", sum := "de838131dff3c2e3b366da8ff01085c38abe7673e9673a843a0f08fb1f164589", func := "kissgate/kissgatetop.WholeRefuses", spec := "wholeRefuses", inPlace := ["sync/atomic.LoadUint32", "(*internal/sync.Mutex).Lock", "internal/race.Disable", "sync/atomic.CompareAndSwapInt32", "internal/race.Enable", "internal/race.Acquire", "(*internal/sync.Mutex).lockSlow", "internal/sync.runtime_canSpin", "internal/sync.runtime_doSpin", "internal/sync.throw", "internal/sync.runtime_nanotime", "internal/sync.runtime_SemacquireMutex", "sync/atomic.AddInt32", "(*internal/sync.Mutex).Unlock", "internal/race.ReleaseMerge", "(*internal/sync.Mutex).unlockSlow", "internal/sync.fatal", "internal/sync.runtime_Semrelease", "sync/atomic.StoreUint32", "sync/atomic.StoreInt64", "sync/atomic.LoadInt64"], unfollowed := true, recurses := true, apart := false }
def WholeRefusesSaid : Prop := wholeRefusesRow.holds Tryz.pinned (OpenSpec.ofChange wholeRefusesSpec)

/-- ITS FALSE NEIGHBOUR: 'it returns false'. Refute it at one input. -/
def wholeRefusesWrong : ChangeSpec := { name := "wholeRefuses", fn := fun _ => fun
  | [d1, d2, d3] => { results := [.lit (.bool false)], args := [d1, d2, d3] }
  | _ => none }
def WholeRefusesWrongFalsely : Prop := wholeRefusesRow.holds Tryz.pinned (OpenSpec.ofChange wholeRefusesWrong)

/-- 'kissgatelaw41.WorldAgain': WHATEVER THE INPUT: true; the input reads as it did. -/
def worldAgainSpec : ChangeSpec := { name := "worldAgain", fn := fun _ => fun
  | [d1, d2, d3] => { results := [.lit (.bool true)], args := [d1, d2, d3] }
  | _ => none }
def worldAgainRow : OpenClaim := { program := "ytglokdbiggbkjaagreat", sum := "de838131dff3c2e3b366da8ff01085c38abe7673e9673a843a0f08fb1f164589", func := "kissgate/kissgatelaw41.WorldAgain", spec := "worldAgain", inPlace := ["sync/atomic.LoadUint32", "(*internal/sync.Mutex).Lock", "internal/race.Disable", "sync/atomic.CompareAndSwapInt32", "internal/race.Enable", "internal/race.Acquire", "(*internal/sync.Mutex).lockSlow", "internal/sync.runtime_canSpin", "internal/sync.runtime_doSpin", "internal/sync.throw", "internal/sync.runtime_nanotime", "internal/sync.runtime_SemacquireMutex", "sync/atomic.AddInt32", "(*internal/sync.Mutex).Unlock", "internal/race.ReleaseMerge", "(*internal/sync.Mutex).unlockSlow", "internal/sync.fatal", "internal/sync.runtime_Semrelease", "sync/atomic.StoreUint32", "sync/atomic.StoreInt64", "sync/atomic.LoadInt64"], unfollowed := true, recurses := true, apart := false }
def WorldAgainSaid : Prop := worldAgainRow.holds Tryz.pinned (OpenSpec.ofChange worldAgainSpec)

/-- ITS FALSE NEIGHBOUR: 'it returns false'. Refute it at one input. -/
def worldAgainWrong : ChangeSpec := { name := "worldAgain", fn := fun _ => fun
  | [d1, d2, d3] => { results := [.lit (.bool false)], args := [d1, d2, d3] }
  | _ => none }
def WorldAgainWrongFalsely : Prop := worldAgainRow.holds Tryz.pinned (OpenSpec.ofChange worldAgainWrong)

/-- 'kissgatelaw43.JudgeWorlds': WHATEVER THE INPUT: true; the input reads as it did. -/
def judgeWorldsSpec : ChangeSpec := { name := "judgeWorlds", fn := fun _ => fun
  | [d1, d2, d3] => { results := [.lit (.bool true)], args := [d1, d2, d3] }
  | _ => none }
def judgeWorldsRow : OpenClaim := { program := "ytglokdbiggbkjaagreat", sum := "de838131dff3c2e3b366da8ff01085c38abe7673e9673a843a0f08fb1f164589", func := "kissgate/kissgatelaw43.JudgeWorlds", spec := "judgeWorlds", inPlace := ["internal/abi.NoEscape", "internal/bytealg.MakeNoZero", "sync/atomic.LoadUint32", "(*internal/sync.Mutex).Lock", "internal/race.Disable", "sync/atomic.CompareAndSwapInt32", "internal/race.Enable", "internal/race.Acquire", "(*internal/sync.Mutex).lockSlow", "internal/sync.runtime_canSpin", "internal/sync.runtime_doSpin", "internal/sync.throw", "internal/sync.runtime_nanotime", "internal/sync.runtime_SemacquireMutex", "sync/atomic.AddInt32", "(*internal/sync.Mutex).Unlock", "internal/race.ReleaseMerge", "(*internal/sync.Mutex).unlockSlow", "internal/sync.fatal", "internal/sync.runtime_Semrelease", "sync/atomic.StoreUint32", "sync/atomic.StoreInt64", "sync/atomic.LoadInt64"], unfollowed := true, recurses := true, apart := false }
def JudgeWorldsSaid : Prop := judgeWorldsRow.holds Tryz.pinned (OpenSpec.ofChange judgeWorldsSpec)

/-- ITS FALSE NEIGHBOUR: 'it returns false'. Refute it at one input. -/
def judgeWorldsWrong : ChangeSpec := { name := "judgeWorlds", fn := fun _ => fun
  | [d1, d2, d3] => { results := [.lit (.bool false)], args := [d1, d2, d3] }
  | _ => none }
def JudgeWorldsWrongFalsely : Prop := judgeWorldsRow.holds Tryz.pinned (OpenSpec.ofChange judgeWorldsWrong)

/- THE SECOND FORM. 'bulk': how many values and letters a reading holds, each counted each time it is reached (what is shared counts as often as it is met; a slice's spare places count too). A statement '..UptoSaid' is the law's where the arguments, and the package variables that the reading takes, are together of bulk at most 1048576: NARROWER than '..Said'. Prove '..Said' where nothing that the law and all that it calls make is longer than what came in: it says more and counts as full. Else prove '..UptoSaid'. A law counts once. -/
mutual
def uptoBulk {H : Type} : DataW H → Nat
  | .lit (.string bytes) => bytes.length + 1
  | .lit _ => 1
  | .nil => 1
  | .ptr d => uptoBulk d + 1
  | .slice elems spare => uptoBulkAll elems + uptoBulkAll spare + 1
  | .agg parts => uptoBulkAll parts + 1
  | .iface _ d => uptoBulk d + 1
  | .map entries => uptoBulkEntries entries + 1
  | .held _ => 1
def uptoBulkAll {H : Type} : List (DataW H) → Nat
  | [] => 0
  | d :: r => uptoBulk d + uptoBulkAll r
def uptoBulkEntries {H : Type} : List (Lit × DataW H) → Nat
  | [] => 0
  | x :: r => uptoBulkEntry x + uptoBulkEntries r
def uptoBulkEntry {H : Type} : Lit × DataW H → Nat
  | (.string bytes, d) => bytes.length + uptoBulk d + 1
  | (_, d) => uptoBulk d + 1
 end
def uptoSmall : (H : Type) → List (DataW H) → Bool := fun _ ds => decide (uptoBulkAll ds ≤ 1048576)
def OpenSpec.upto (s : _root_.Go.ChangeSpec) : _root_.Go.OpenSpec := { _root_.Go.OpenSpec.ofChange s with cond := some uptoSmall }

/-- 'kissgatelaw40.LocksSafe', WHERE WHAT IT READS IS OF BULK AT MOST 1048576: true; the input reads as it did. -/
def locksSafeUptoRow : OpenClaim := { program := "ytglokdbiggbkjaagreat", sum := "de838131dff3c2e3b366da8ff01085c38abe7673e9673a843a0f08fb1f164589", func := "kissgate/kissgatelaw40.LocksSafe", spec := "locksSafe", inPlace := ["sync/atomic.LoadUint32", "(*internal/sync.Mutex).Lock", "internal/race.Disable", "sync/atomic.CompareAndSwapInt32", "internal/race.Enable", "internal/race.Acquire", "(*internal/sync.Mutex).lockSlow", "internal/sync.runtime_canSpin", "internal/sync.runtime_doSpin", "internal/sync.throw", "internal/sync.runtime_nanotime", "internal/sync.runtime_SemacquireMutex", "sync/atomic.AddInt32", "(*internal/sync.Mutex).Unlock", "internal/race.ReleaseMerge", "(*internal/sync.Mutex).unlockSlow", "internal/sync.fatal", "internal/sync.runtime_Semrelease", "sync/atomic.StoreUint32", "sync/atomic.StoreInt64", "sync/atomic.LoadInt64"], unfollowed := true, recurses := true, apart := false, narrowed := true }
def LocksSafeUptoSaid : Prop := locksSafeUptoRow.holds Tryz.pinned (OpenSpec.upto locksSafeSpec)

/-- 'kissgatelaw41.WorldTrace', WHERE WHAT IT READS IS OF BULK AT MOST 1048576: true; the input reads as it did. -/
def worldTraceUptoRow : OpenClaim := { program := "ytglokdbiggbkjaagreat", sum := "de838131dff3c2e3b366da8ff01085c38abe7673e9673a843a0f08fb1f164589", func := "kissgate/kissgatelaw41.WorldTrace", spec := "worldTrace", inPlace := ["sync/atomic.LoadUint32", "(*internal/sync.Mutex).Lock", "internal/race.Disable", "sync/atomic.CompareAndSwapInt32", "internal/race.Enable", "internal/race.Acquire", "(*internal/sync.Mutex).lockSlow", "internal/sync.runtime_canSpin", "internal/sync.runtime_doSpin", "internal/sync.throw", "internal/sync.runtime_nanotime", "internal/sync.runtime_SemacquireMutex", "sync/atomic.AddInt32", "(*internal/sync.Mutex).Unlock", "internal/race.ReleaseMerge", "(*internal/sync.Mutex).unlockSlow", "internal/sync.fatal", "internal/sync.runtime_Semrelease", "sync/atomic.StoreUint32", "sync/atomic.StoreInt64", "sync/atomic.LoadInt64"], unfollowed := true, recurses := true, apart := false, narrowed := true }
def WorldTraceUptoSaid : Prop := worldTraceUptoRow.holds Tryz.pinned (OpenSpec.upto worldTraceSpec)

/-- 'kissgatelaw47.BoltLoops', WHERE WHAT IT READS IS OF BULK AT MOST 1048576: true; the input reads as it did. -/
def boltLoopsUptoRow : OpenClaim := { program := "ytglokdbiggbkjaagreat", sum := "de838131dff3c2e3b366da8ff01085c38abe7673e9673a843a0f08fb1f164589", func := "kissgate/kissgatelaw47.BoltLoops", spec := "boltLoops", inPlace := ["sync/atomic.LoadUint32", "(*internal/sync.Mutex).Lock", "internal/race.Disable", "sync/atomic.CompareAndSwapInt32", "internal/race.Enable", "internal/race.Acquire", "(*internal/sync.Mutex).lockSlow", "internal/sync.runtime_canSpin", "internal/sync.runtime_doSpin", "internal/sync.throw", "internal/sync.runtime_nanotime", "internal/sync.runtime_SemacquireMutex", "sync/atomic.AddInt32", "(*internal/sync.Mutex).Unlock", "internal/race.ReleaseMerge", "(*internal/sync.Mutex).unlockSlow", "internal/sync.fatal", "internal/sync.runtime_Semrelease", "sync/atomic.StoreUint32", "sync/atomic.StoreInt64", "sync/atomic.LoadInt64"], unfollowed := true, recurses := true, apart := false, narrowed := true }
def BoltLoopsUptoSaid : Prop := boltLoopsUptoRow.holds Tryz.pinned (OpenSpec.upto boltLoopsSpec)

/-- 'kissgatelaw46.ExploreSafe', WHERE WHAT IT READS IS OF BULK AT MOST 1048576: true; the input reads as it did. -/
def exploreSafeUptoRow : OpenClaim := { program := "ytglokdbiggbkjaagreat", sum := "de838131dff3c2e3b366da8ff01085c38abe7673e9673a843a0f08fb1f164589", func := "kissgate/kissgatelaw46.ExploreSafe", spec := "exploreSafe", inPlace := ["sync/atomic.LoadUint32", "(*internal/sync.Mutex).Lock", "internal/race.Disable", "sync/atomic.CompareAndSwapInt32", "internal/race.Enable", "internal/race.Acquire", "(*internal/sync.Mutex).lockSlow", "internal/sync.runtime_canSpin", "internal/sync.runtime_doSpin", "internal/sync.throw", "internal/sync.runtime_nanotime", "internal/sync.runtime_SemacquireMutex", "sync/atomic.AddInt32", "(*internal/sync.Mutex).Unlock", "internal/race.ReleaseMerge", "(*internal/sync.Mutex).unlockSlow", "internal/sync.fatal", "internal/sync.runtime_Semrelease", "sync/atomic.StoreUint32", "sync/atomic.StoreInt64", "sync/atomic.LoadInt64"], unfollowed := true, recurses := true, apart := false, narrowed := true }
def ExploreSafeUptoSaid : Prop := exploreSafeUptoRow.holds Tryz.pinned (OpenSpec.upto exploreSafeSpec)

/-- 'kissgatetop.WholeRefuses', WHERE WHAT IT READS IS OF BULK AT MOST 1048576: true; the input reads as it did. -/
def wholeRefusesUptoRow : OpenClaim := { program := "ytglokdbiggbkjaagreat", sum := "de838131dff3c2e3b366da8ff01085c38abe7673e9673a843a0f08fb1f164589", func := "kissgate/kissgatetop.WholeRefuses", spec := "wholeRefuses", inPlace := ["sync/atomic.LoadUint32", "(*internal/sync.Mutex).Lock", "internal/race.Disable", "sync/atomic.CompareAndSwapInt32", "internal/race.Enable", "internal/race.Acquire", "(*internal/sync.Mutex).lockSlow", "internal/sync.runtime_canSpin", "internal/sync.runtime_doSpin", "internal/sync.throw", "internal/sync.runtime_nanotime", "internal/sync.runtime_SemacquireMutex", "sync/atomic.AddInt32", "(*internal/sync.Mutex).Unlock", "internal/race.ReleaseMerge", "(*internal/sync.Mutex).unlockSlow", "internal/sync.fatal", "internal/sync.runtime_Semrelease", "sync/atomic.StoreUint32", "sync/atomic.StoreInt64", "sync/atomic.LoadInt64"], unfollowed := true, recurses := true, apart := false, narrowed := true }
def WholeRefusesUptoSaid : Prop := wholeRefusesUptoRow.holds Tryz.pinned (OpenSpec.upto wholeRefusesSpec)

/-- 'kissgatelaw41.WorldAgain', WHERE WHAT IT READS IS OF BULK AT MOST 1048576: true; the input reads as it did. -/
def worldAgainUptoRow : OpenClaim := { program := "ytglokdbiggbkjaagreat", sum := "de838131dff3c2e3b366da8ff01085c38abe7673e9673a843a0f08fb1f164589", func := "kissgate/kissgatelaw41.WorldAgain", spec := "worldAgain", inPlace := ["sync/atomic.LoadUint32", "(*internal/sync.Mutex).Lock", "internal/race.Disable", "sync/atomic.CompareAndSwapInt32", "internal/race.Enable", "internal/race.Acquire", "(*internal/sync.Mutex).lockSlow", "internal/sync.runtime_canSpin", "internal/sync.runtime_doSpin", "internal/sync.throw", "internal/sync.runtime_nanotime", "internal/sync.runtime_SemacquireMutex", "sync/atomic.AddInt32", "(*internal/sync.Mutex).Unlock", "internal/race.ReleaseMerge", "(*internal/sync.Mutex).unlockSlow", "internal/sync.fatal", "internal/sync.runtime_Semrelease", "sync/atomic.StoreUint32", "sync/atomic.StoreInt64", "sync/atomic.LoadInt64"], unfollowed := true, recurses := true, apart := false, narrowed := true }
def WorldAgainUptoSaid : Prop := worldAgainUptoRow.holds Tryz.pinned (OpenSpec.upto worldAgainSpec)

/-- 'kissgatelaw43.JudgeWorlds', WHERE WHAT IT READS IS OF BULK AT MOST 1048576: true; the input reads as it did. -/
def judgeWorldsUptoRow : OpenClaim := { program := "ytglokdbiggbkjaagreat", sum := "de838131dff3c2e3b366da8ff01085c38abe7673e9673a843a0f08fb1f164589", func := "kissgate/kissgatelaw43.JudgeWorlds", spec := "judgeWorlds", inPlace := ["internal/abi.NoEscape", "internal/bytealg.MakeNoZero", "sync/atomic.LoadUint32", "(*internal/sync.Mutex).Lock", "internal/race.Disable", "sync/atomic.CompareAndSwapInt32", "internal/race.Enable", "internal/race.Acquire", "(*internal/sync.Mutex).lockSlow", "internal/sync.runtime_canSpin", "internal/sync.runtime_doSpin", "internal/sync.throw", "internal/sync.runtime_nanotime", "internal/sync.runtime_SemacquireMutex", "sync/atomic.AddInt32", "(*internal/sync.Mutex).Unlock", "internal/race.ReleaseMerge", "(*internal/sync.Mutex).unlockSlow", "internal/sync.fatal", "internal/sync.runtime_Semrelease", "sync/atomic.StoreUint32", "sync/atomic.StoreInt64", "sync/atomic.LoadInt64"], unfollowed := true, recurses := true, apart := false, narrowed := true }
def JudgeWorldsUptoSaid : Prop := judgeWorldsUptoRow.holds Tryz.pinned (OpenSpec.upto judgeWorldsSpec)

end Rows
end Go.Proofs.YtglokdbiggbkjaaGreat
