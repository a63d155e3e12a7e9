/-
  No cell of these rows narrows 'for every input' (looked for: loops, veiled, ifaces, maps, wideKeys, modest, calm, conditions, laid).
  DERIVED. THE GIVEN ROWS OF THIS SEAT. 11 by the template 'for every input the law returns true; each argument reads behind the call as it read before'; 0 by the template 'total and deterministic' (their statements: YtfbiejkdeadheaaTotals.lean).
  GIVEN WITH THE SEED: the statements are not yours to turn. If you find one false, say at which input.
  Laid BY PROGRAM, IN A SANDBOX (cutbox-rows.mjs): the forced cells as the released guide's own fill.sh prints them over the translation db0b3c319ebe37d4… (all of the seat's roots in one cut). By AI agents, Wed Nov 11 2026. No macro, syntax, notation, axiom, sorry.
-/
import Derived.Test.YtfbiejkdeadheaaChecked
import GoSem.Claim
import GoSem.ClaimJoined
import GoSem.ClaimMapViews
import Derived.JoinedTies
import Derived.KernelRfl
namespace Go.Proofs.Ytfbiejkdeadheaa
/- THE CELL 'sum', in the pinned program and in every row, IS THE sha256 OF THE DUMP (.gsa) THAT YtfbiejkdeadheaaProg.lean LOADS. Nothing in Lean hashes anything: it is a label: what it is worth is what the hold of that sum in a sandbox is worth. -/
noncomputable def Try.pinned : Pinned := { name := "ytfbiejkdeadheaa", sum := "db0b3c319ebe37d4699ffbc33d73255caf8f6f6161f3a4b81cb3bd275cd298f5", checked := Try.checked }
namespace Rows
def none {H : Type} : Left H := { results := [], args := [] }

/-- 'kissgatelaw45.FamilySays': WHATEVER THE INPUT: true; the input reads as it did. -/
def familySaysSpec : ChangeSpec := { name := "familySays", fn := fun _ => fun
  | [d1, d2] => { results := [.lit (.bool true)], args := [d1, d2] }
  | _ => none }
def familySaysRow : OpenClaim := { program := "ytfbiejkdeadheaa", sum := "db0b3c319ebe37d4699ffbc33d73255caf8f6f6161f3a4b81cb3bd275cd298f5", func := "kissgate/kissgatelaw45.FamilySays", spec := "familySays", unfollowed := true, recurses := true, apart := false }
def FamilySaysSaid : Prop := familySaysRow.holds Try.pinned (OpenSpec.ofChange familySaysSpec)

/-- ITS FALSE NEIGHBOUR: 'it returns false'. Refute it at one input. -/
def familySaysWrong : ChangeSpec := { name := "familySays", fn := fun _ => fun
  | [d1, d2] => { results := [.lit (.bool false)], args := [d1, d2] }
  | _ => none }
def FamilySaysWrongFalsely : Prop := familySaysRow.holds Try.pinned (OpenSpec.ofChange familySaysWrong)

/-- 'kissgatelaw14.BypassSays': WHATEVER THE INPUT: true; the input reads as it did. -/
def bypassSaysSpec : ChangeSpec := { name := "bypassSays", fn := fun _ => fun
  | [d1, d2, d3] => { results := [.lit (.bool true)], args := [d1, d2, d3] }
  | _ => none }
def bypassSaysRow : OpenClaim := { program := "ytfbiejkdeadheaa", sum := "db0b3c319ebe37d4699ffbc33d73255caf8f6f6161f3a4b81cb3bd275cd298f5", func := "kissgate/kissgatelaw14.BypassSays", spec := "bypassSays", unfollowed := true, recurses := true, apart := false }
def BypassSaysSaid : Prop := bypassSaysRow.holds Try.pinned (OpenSpec.ofChange bypassSaysSpec)

/-- ITS FALSE NEIGHBOUR: 'it returns false'. Refute it at one input. -/
def bypassSaysWrong : ChangeSpec := { name := "bypassSays", fn := fun _ => fun
  | [d1, d2, d3] => { results := [.lit (.bool false)], args := [d1, d2, d3] }
  | _ => none }
def BypassSaysWrongFalsely : Prop := bypassSaysRow.holds Try.pinned (OpenSpec.ofChange bypassSaysWrong)

/-- 'kissgatelaw14.BypassAdds': WHATEVER THE INPUT: true; the input reads as it did. -/
def bypassAddsSpec : ChangeSpec := { name := "bypassAdds", fn := fun _ => fun
  | [d1, d2, d3] => { results := [.lit (.bool true)], args := [d1, d2, d3] }
  | _ => none }
def bypassAddsRow : OpenClaim := { program := "ytfbiejkdeadheaa", sum := "db0b3c319ebe37d4699ffbc33d73255caf8f6f6161f3a4b81cb3bd275cd298f5", func := "kissgate/kissgatelaw14.BypassAdds", spec := "bypassAdds", unfollowed := true, recurses := true, apart := false }
def BypassAddsSaid : Prop := bypassAddsRow.holds Try.pinned (OpenSpec.ofChange bypassAddsSpec)

/-- ITS FALSE NEIGHBOUR: 'it returns false'. Refute it at one input. -/
def bypassAddsWrong : ChangeSpec := { name := "bypassAdds", fn := fun _ => fun
  | [d1, d2, d3] => { results := [.lit (.bool false)], args := [d1, d2, d3] }
  | _ => none }
def BypassAddsWrongFalsely : Prop := bypassAddsRow.holds Try.pinned (OpenSpec.ofChange bypassAddsWrong)

/-- 'kissgatelaw14.BypassFifo': WHATEVER THE INPUT: true; the input reads as it did. -/
def bypassFifoSpec : ChangeSpec := { name := "bypassFifo", fn := fun _ => fun
  | [d] => { results := [.lit (.bool true)], args := [d] }
  | _ => none }
def bypassFifoRow : OpenClaim := { program := "ytfbiejkdeadheaa", sum := "db0b3c319ebe37d4699ffbc33d73255caf8f6f6161f3a4b81cb3bd275cd298f5", func := "kissgate/kissgatelaw14.BypassFifo", spec := "bypassFifo", unfollowed := true, recurses := true, apart := false }
def BypassFifoSaid : Prop := bypassFifoRow.holds Try.pinned (OpenSpec.ofChange bypassFifoSpec)

/-- ITS FALSE NEIGHBOUR: 'it returns false'. Refute it at one input. -/
def bypassFifoWrong : ChangeSpec := { name := "bypassFifo", fn := fun _ => fun
  | [d] => { results := [.lit (.bool false)], args := [d] }
  | _ => none }
def BypassFifoWrongFalsely : Prop := bypassFifoRow.holds Try.pinned (OpenSpec.ofChange bypassFifoWrong)

/-- 'kissgatelaw07.PathFar': WHATEVER THE INPUT: true; the input reads as it did. -/
def pathFarSpec : ChangeSpec := { name := "pathFar", fn := fun _ => fun
  | [d1, d2] => { results := [.lit (.bool true)], args := [d1, d2] }
  | _ => none }
def pathFarRow : OpenClaim := { program := "ytfbiejkdeadheaa", sum := "db0b3c319ebe37d4699ffbc33d73255caf8f6f6161f3a4b81cb3bd275cd298f5", func := "kissgate/kissgatelaw07.PathFar", spec := "pathFar", inPlace := ["sync/atomic.LoadUint32", "(*internal/sync.Mutex).Lock", "internal/race.Disable", "sync/atomic.CompareAndSwapInt32", "internal/race.Enable", "internal/race.Acquire", "(*internal/sync.Mutex).lockSlow", "internal/sync.runtime_canSpin", "internal/sync.runtime_doSpin", "internal/sync.throw", "internal/sync.runtime_nanotime", "internal/sync.runtime_SemacquireMutex", "sync/atomic.AddInt32", "(*internal/sync.Mutex).Unlock", "internal/race.ReleaseMerge", "(*internal/sync.Mutex).unlockSlow", "internal/sync.fatal", "internal/sync.runtime_Semrelease", "sync/atomic.StoreUint32"], unfollowed := true, recurses := true, apart := false }
def PathFarSaid : Prop := pathFarRow.holds Try.pinned (OpenSpec.ofChange pathFarSpec)

/-- ITS FALSE NEIGHBOUR: 'it returns false'. Refute it at one input. -/
def pathFarWrong : ChangeSpec := { name := "pathFar", fn := fun _ => fun
  | [d1, d2] => { results := [.lit (.bool false)], args := [d1, d2] }
  | _ => none }
def PathFarWrongFalsely : Prop := pathFarRow.holds Try.pinned (OpenSpec.ofChange pathFarWrong)

/-- 'kissgatelaw07.PathCounts': WHATEVER THE INPUT: true; the input reads as it did. -/
def pathCountsSpec : ChangeSpec := { name := "pathCounts", fn := fun _ => fun
  | [d] => { results := [.lit (.bool true)], args := [d] }
  | _ => none }
def pathCountsRow : OpenClaim := { program := "ytfbiejkdeadheaa", sum := "db0b3c319ebe37d4699ffbc33d73255caf8f6f6161f3a4b81cb3bd275cd298f5", func := "kissgate/kissgatelaw07.PathCounts", spec := "pathCounts", inPlace := ["sync/atomic.LoadUint32", "(*internal/sync.Mutex).Lock", "internal/race.Disable", "sync/atomic.CompareAndSwapInt32", "internal/race.Enable", "internal/race.Acquire", "(*internal/sync.Mutex).lockSlow", "internal/sync.runtime_canSpin", "internal/sync.runtime_doSpin", "internal/sync.throw", "internal/sync.runtime_nanotime", "internal/sync.runtime_SemacquireMutex", "sync/atomic.AddInt32", "(*internal/sync.Mutex).Unlock", "internal/race.ReleaseMerge", "(*internal/sync.Mutex).unlockSlow", "internal/sync.fatal", "internal/sync.runtime_Semrelease", "sync/atomic.StoreUint32"], unfollowed := true, recurses := true, apart := false }
def PathCountsSaid : Prop := pathCountsRow.holds Try.pinned (OpenSpec.ofChange pathCountsSpec)

/-- ITS FALSE NEIGHBOUR: 'it returns false'. Refute it at one input. -/
def pathCountsWrong : ChangeSpec := { name := "pathCounts", fn := fun _ => fun
  | [d] => { results := [.lit (.bool false)], args := [d] }
  | _ => none }
def PathCountsWrongFalsely : Prop := pathCountsRow.holds Try.pinned (OpenSpec.ofChange pathCountsWrong)

/-- 'kissgatelaw07.PathSays': WHATEVER THE INPUT: true; the input reads as it did. -/
def pathSaysSpec : ChangeSpec := { name := "pathSays", fn := fun _ => fun
  | [d1, d2, d3] => { results := [.lit (.bool true)], args := [d1, d2, d3] }
  | _ => none }
def pathSaysRow : OpenClaim := { program := "ytfbiejkdeadheaa", sum := "db0b3c319ebe37d4699ffbc33d73255caf8f6f6161f3a4b81cb3bd275cd298f5", func := "kissgate/kissgatelaw07.PathSays", spec := "pathSays", inPlace := ["sync/atomic.LoadUint32", "(*internal/sync.Mutex).Lock", "internal/race.Disable", "sync/atomic.CompareAndSwapInt32", "internal/race.Enable", "internal/race.Acquire", "(*internal/sync.Mutex).lockSlow", "internal/sync.runtime_canSpin", "internal/sync.runtime_doSpin", "internal/sync.throw", "internal/sync.runtime_nanotime", "internal/sync.runtime_SemacquireMutex", "sync/atomic.AddInt32", "(*internal/sync.Mutex).Unlock", "internal/race.ReleaseMerge", "(*internal/sync.Mutex).unlockSlow", "internal/sync.fatal", "internal/sync.runtime_Semrelease", "sync/atomic.StoreUint32"], unfollowed := true, recurses := true, apart := false }
def PathSaysSaid : Prop := pathSaysRow.holds Try.pinned (OpenSpec.ofChange pathSaysSpec)

/-- ITS FALSE NEIGHBOUR: 'it returns false'. Refute it at one input. -/
def pathSaysWrong : ChangeSpec := { name := "pathSays", fn := fun _ => fun
  | [d1, d2, d3] => { results := [.lit (.bool false)], args := [d1, d2, d3] }
  | _ => none }
def PathSaysWrongFalsely : Prop := pathSaysRow.holds Try.pinned (OpenSpec.ofChange pathSaysWrong)

/-- 'kissgatelaw07.PathNone': WHATEVER THE INPUT: true; the input reads as it did. -/
def pathNoneSpec : ChangeSpec := { name := "pathNone", fn := fun _ => fun
  | [d1, d2] => { results := [.lit (.bool true)], args := [d1, d2] }
  | _ => none }
def pathNoneRow : OpenClaim := { program := "ytfbiejkdeadheaa", sum := "db0b3c319ebe37d4699ffbc33d73255caf8f6f6161f3a4b81cb3bd275cd298f5", func := "kissgate/kissgatelaw07.PathNone", spec := "pathNone", inPlace := ["sync/atomic.LoadUint32", "(*internal/sync.Mutex).Lock", "internal/race.Disable", "sync/atomic.CompareAndSwapInt32", "internal/race.Enable", "internal/race.Acquire", "(*internal/sync.Mutex).lockSlow", "internal/sync.runtime_canSpin", "internal/sync.runtime_doSpin", "internal/sync.throw", "internal/sync.runtime_nanotime", "internal/sync.runtime_SemacquireMutex", "sync/atomic.AddInt32", "(*internal/sync.Mutex).Unlock", "internal/race.ReleaseMerge", "(*internal/sync.Mutex).unlockSlow", "internal/sync.fatal", "internal/sync.runtime_Semrelease", "sync/atomic.StoreUint32"], unfollowed := true, recurses := true, apart := false }
def PathNoneSaid : Prop := pathNoneRow.holds Try.pinned (OpenSpec.ofChange pathNoneSpec)

/-- ITS FALSE NEIGHBOUR: 'it returns false'. Refute it at one input. -/
def pathNoneWrong : ChangeSpec := { name := "pathNone", fn := fun _ => fun
  | [d1, d2] => { results := [.lit (.bool false)], args := [d1, d2] }
  | _ => none }
def PathNoneWrongFalsely : Prop := pathNoneRow.holds Try.pinned (OpenSpec.ofChange pathNoneWrong)

/-- 'kissgatelaw12.TallySays': WHATEVER THE INPUT: true; the input reads as it did. -/
def tallySaysSpec : ChangeSpec := { name := "tallySays", fn := fun _ => fun
  | [d] => { results := [.lit (.bool true)], args := [d] }
  | _ => none }
def tallySaysRow : OpenClaim := { program := "ytfbiejkdeadheaa", sum := "db0b3c319ebe37d4699ffbc33d73255caf8f6f6161f3a4b81cb3bd275cd298f5", func := "kissgate/kissgatelaw12.TallySays", spec := "tallySays", unfollowed := true, recurses := true, apart := false }
def TallySaysSaid : Prop := tallySaysRow.holds Try.pinned (OpenSpec.ofChange tallySaysSpec)

/-- ITS FALSE NEIGHBOUR: 'it returns false'. Refute it at one input. -/
def tallySaysWrong : ChangeSpec := { name := "tallySays", fn := fun _ => fun
  | [d] => { results := [.lit (.bool false)], args := [d] }
  | _ => none }
def TallySaysWrongFalsely : Prop := tallySaysRow.holds Try.pinned (OpenSpec.ofChange tallySaysWrong)

/-- 'kissgatelaw12.TallyRises': WHATEVER THE INPUT: true; the input reads as it did. -/
def tallyRisesSpec : ChangeSpec := { name := "tallyRises", fn := fun _ => fun
  | [d] => { results := [.lit (.bool true)], args := [d] }
  | _ => none }
def tallyRisesRow : OpenClaim := { program := "ytfbiejkdeadheaa", sum := "db0b3c319ebe37d4699ffbc33d73255caf8f6f6161f3a4b81cb3bd275cd298f5", func := "kissgate/kissgatelaw12.TallyRises", spec := "tallyRises", unfollowed := true, recurses := true, apart := false }
def TallyRisesSaid : Prop := tallyRisesRow.holds Try.pinned (OpenSpec.ofChange tallyRisesSpec)

/-- ITS FALSE NEIGHBOUR: 'it returns false'. Refute it at one input. -/
def tallyRisesWrong : ChangeSpec := { name := "tallyRises", fn := fun _ => fun
  | [d] => { results := [.lit (.bool false)], args := [d] }
  | _ => none }
def TallyRisesWrongFalsely : Prop := tallyRisesRow.holds Try.pinned (OpenSpec.ofChange tallyRisesWrong)

/-- 'kissgatelaw12.TallyAll': WHATEVER THE INPUT: true; the input reads as it did. -/
def tallyAllSpec : ChangeSpec := { name := "tallyAll", fn := fun _ => fun
  | [d] => { results := [.lit (.bool true)], args := [d] }
  | _ => none }
def tallyAllRow : OpenClaim := { program := "ytfbiejkdeadheaa", sum := "db0b3c319ebe37d4699ffbc33d73255caf8f6f6161f3a4b81cb3bd275cd298f5", func := "kissgate/kissgatelaw12.TallyAll", spec := "tallyAll", unfollowed := true, recurses := true, apart := false }
def TallyAllSaid : Prop := tallyAllRow.holds Try.pinned (OpenSpec.ofChange tallyAllSpec)

/-- ITS FALSE NEIGHBOUR: 'it returns false'. Refute it at one input. -/
def tallyAllWrong : ChangeSpec := { name := "tallyAll", fn := fun _ => fun
  | [d] => { results := [.lit (.bool false)], args := [d] }
  | _ => none }
def TallyAllWrongFalsely : Prop := tallyAllRow.holds Try.pinned (OpenSpec.ofChange tallyAllWrong)

/- THE SECOND FORM. 'bulk': how many values and letters a reading holds, each counted each time it is reached (what is shared counts as often as it is met; a slice's spare places count too). A statement '..UptoSaid' is the law's where the arguments, and the package variables that the reading takes, are together of bulk at most 1048576: NARROWER than '..Said'. Prove '..Said' where nothing that the law and all that it calls make is longer than what came in: it says more and counts as full. Else prove '..UptoSaid'. A law counts once. -/
mutual
def uptoBulk {H : Type} : DataW H → Nat
  | .lit (.string bytes) => bytes.length + 1
  | .lit _ => 1
  | .nil => 1
  | .ptr d => uptoBulk d + 1
  | .slice elems spare => uptoBulkAll elems + uptoBulkAll spare + 1
  | .agg parts => uptoBulkAll parts + 1
  | .iface _ d => uptoBulk d + 1
  | .map entries => uptoBulkEntries entries + 1
  | .held _ => 1
def uptoBulkAll {H : Type} : List (DataW H) → Nat
  | [] => 0
  | d :: r => uptoBulk d + uptoBulkAll r
def uptoBulkEntries {H : Type} : List (Lit × DataW H) → Nat
  | [] => 0
  | x :: r => uptoBulkEntry x + uptoBulkEntries r
def uptoBulkEntry {H : Type} : Lit × DataW H → Nat
  | (.string bytes, d) => bytes.length + uptoBulk d + 1
  | (_, d) => uptoBulk d + 1
 end
def uptoSmall : (H : Type) → List (DataW H) → Bool := fun _ ds => decide (uptoBulkAll ds ≤ 1048576)
def OpenSpec.upto (s : _root_.Go.ChangeSpec) : _root_.Go.OpenSpec := { _root_.Go.OpenSpec.ofChange s with cond := some uptoSmall }

/-- 'kissgatelaw45.FamilySays', WHERE WHAT IT READS IS OF BULK AT MOST 1048576: true; the input reads as it did. -/
def familySaysUptoRow : OpenClaim := { program := "ytfbiejkdeadheaa", sum := "db0b3c319ebe37d4699ffbc33d73255caf8f6f6161f3a4b81cb3bd275cd298f5", func := "kissgate/kissgatelaw45.FamilySays", spec := "familySays", unfollowed := true, recurses := true, apart := false, narrowed := true }
def FamilySaysUptoSaid : Prop := familySaysUptoRow.holds Try.pinned (OpenSpec.upto familySaysSpec)

/-- 'kissgatelaw14.BypassSays', WHERE WHAT IT READS IS OF BULK AT MOST 1048576: true; the input reads as it did. -/
def bypassSaysUptoRow : OpenClaim := { program := "ytfbiejkdeadheaa", sum := "db0b3c319ebe37d4699ffbc33d73255caf8f6f6161f3a4b81cb3bd275cd298f5", func := "kissgate/kissgatelaw14.BypassSays", spec := "bypassSays", unfollowed := true, recurses := true, apart := false, narrowed := true }
def BypassSaysUptoSaid : Prop := bypassSaysUptoRow.holds Try.pinned (OpenSpec.upto bypassSaysSpec)

/-- 'kissgatelaw14.BypassAdds', WHERE WHAT IT READS IS OF BULK AT MOST 1048576: true; the input reads as it did. -/
def bypassAddsUptoRow : OpenClaim := { program := "ytfbiejkdeadheaa", sum := "db0b3c319ebe37d4699ffbc33d73255caf8f6f6161f3a4b81cb3bd275cd298f5", func := "kissgate/kissgatelaw14.BypassAdds", spec := "bypassAdds", unfollowed := true, recurses := true, apart := false, narrowed := true }
def BypassAddsUptoSaid : Prop := bypassAddsUptoRow.holds Try.pinned (OpenSpec.upto bypassAddsSpec)

/-- 'kissgatelaw14.BypassFifo', WHERE WHAT IT READS IS OF BULK AT MOST 1048576: true; the input reads as it did. -/
def bypassFifoUptoRow : OpenClaim := { program := "ytfbiejkdeadheaa", sum := "db0b3c319ebe37d4699ffbc33d73255caf8f6f6161f3a4b81cb3bd275cd298f5", func := "kissgate/kissgatelaw14.BypassFifo", spec := "bypassFifo", unfollowed := true, recurses := true, apart := false, narrowed := true }
def BypassFifoUptoSaid : Prop := bypassFifoUptoRow.holds Try.pinned (OpenSpec.upto bypassFifoSpec)

/-- 'kissgatelaw07.PathFar', WHERE WHAT IT READS IS OF BULK AT MOST 1048576: true; the input reads as it did. -/
def pathFarUptoRow : OpenClaim := { program := "ytfbiejkdeadheaa", sum := "db0b3c319ebe37d4699ffbc33d73255caf8f6f6161f3a4b81cb3bd275cd298f5", func := "kissgate/kissgatelaw07.PathFar", spec := "pathFar", inPlace := ["sync/atomic.LoadUint32", "(*internal/sync.Mutex).Lock", "internal/race.Disable", "sync/atomic.CompareAndSwapInt32", "internal/race.Enable", "internal/race.Acquire", "(*internal/sync.Mutex).lockSlow", "internal/sync.runtime_canSpin", "internal/sync.runtime_doSpin", "internal/sync.throw", "internal/sync.runtime_nanotime", "internal/sync.runtime_SemacquireMutex", "sync/atomic.AddInt32", "(*internal/sync.Mutex).Unlock", "internal/race.ReleaseMerge", "(*internal/sync.Mutex).unlockSlow", "internal/sync.fatal", "internal/sync.runtime_Semrelease", "sync/atomic.StoreUint32"], unfollowed := true, recurses := true, apart := false, narrowed := true }
def PathFarUptoSaid : Prop := pathFarUptoRow.holds Try.pinned (OpenSpec.upto pathFarSpec)

/-- 'kissgatelaw07.PathCounts', WHERE WHAT IT READS IS OF BULK AT MOST 1048576: true; the input reads as it did. -/
def pathCountsUptoRow : OpenClaim := { program := "ytfbiejkdeadheaa", sum := "db0b3c319ebe37d4699ffbc33d73255caf8f6f6161f3a4b81cb3bd275cd298f5", func := "kissgate/kissgatelaw07.PathCounts", spec := "pathCounts", inPlace := ["sync/atomic.LoadUint32", "(*internal/sync.Mutex).Lock", "internal/race.Disable", "sync/atomic.CompareAndSwapInt32", "internal/race.Enable", "internal/race.Acquire", "(*internal/sync.Mutex).lockSlow", "internal/sync.runtime_canSpin", "internal/sync.runtime_doSpin", "internal/sync.throw", "internal/sync.runtime_nanotime", "internal/sync.runtime_SemacquireMutex", "sync/atomic.AddInt32", "(*internal/sync.Mutex).Unlock", "internal/race.ReleaseMerge", "(*internal/sync.Mutex).unlockSlow", "internal/sync.fatal", "internal/sync.runtime_Semrelease", "sync/atomic.StoreUint32"], unfollowed := true, recurses := true, apart := false, narrowed := true }
def PathCountsUptoSaid : Prop := pathCountsUptoRow.holds Try.pinned (OpenSpec.upto pathCountsSpec)

/-- 'kissgatelaw07.PathSays', WHERE WHAT IT READS IS OF BULK AT MOST 1048576: true; the input reads as it did. -/
def pathSaysUptoRow : OpenClaim := { program := "ytfbiejkdeadheaa", sum := "db0b3c319ebe37d4699ffbc33d73255caf8f6f6161f3a4b81cb3bd275cd298f5", func := "kissgate/kissgatelaw07.PathSays", spec := "pathSays", inPlace := ["sync/atomic.LoadUint32", "(*internal/sync.Mutex).Lock", "internal/race.Disable", "sync/atomic.CompareAndSwapInt32", "internal/race.Enable", "internal/race.Acquire", "(*internal/sync.Mutex).lockSlow", "internal/sync.runtime_canSpin", "internal/sync.runtime_doSpin", "internal/sync.throw", "internal/sync.runtime_nanotime", "internal/sync.runtime_SemacquireMutex", "sync/atomic.AddInt32", "(*internal/sync.Mutex).Unlock", "internal/race.ReleaseMerge", "(*internal/sync.Mutex).unlockSlow", "internal/sync.fatal", "internal/sync.runtime_Semrelease", "sync/atomic.StoreUint32"], unfollowed := true, recurses := true, apart := false, narrowed := true }
def PathSaysUptoSaid : Prop := pathSaysUptoRow.holds Try.pinned (OpenSpec.upto pathSaysSpec)

/-- 'kissgatelaw07.PathNone', WHERE WHAT IT READS IS OF BULK AT MOST 1048576: true; the input reads as it did. -/
def pathNoneUptoRow : OpenClaim := { program := "ytfbiejkdeadheaa", sum := "db0b3c319ebe37d4699ffbc33d73255caf8f6f6161f3a4b81cb3bd275cd298f5", func := "kissgate/kissgatelaw07.PathNone", spec := "pathNone", inPlace := ["sync/atomic.LoadUint32", "(*internal/sync.Mutex).Lock", "internal/race.Disable", "sync/atomic.CompareAndSwapInt32", "internal/race.Enable", "internal/race.Acquire", "(*internal/sync.Mutex).lockSlow", "internal/sync.runtime_canSpin", "internal/sync.runtime_doSpin", "internal/sync.throw", "internal/sync.runtime_nanotime", "internal/sync.runtime_SemacquireMutex", "sync/atomic.AddInt32", "(*internal/sync.Mutex).Unlock", "internal/race.ReleaseMerge", "(*internal/sync.Mutex).unlockSlow", "internal/sync.fatal", "internal/sync.runtime_Semrelease", "sync/atomic.StoreUint32"], unfollowed := true, recurses := true, apart := false, narrowed := true }
def PathNoneUptoSaid : Prop := pathNoneUptoRow.holds Try.pinned (OpenSpec.upto pathNoneSpec)

/-- 'kissgatelaw12.TallySays', WHERE WHAT IT READS IS OF BULK AT MOST 1048576: true; the input reads as it did. -/
def tallySaysUptoRow : OpenClaim := { program := "ytfbiejkdeadheaa", sum := "db0b3c319ebe37d4699ffbc33d73255caf8f6f6161f3a4b81cb3bd275cd298f5", func := "kissgate/kissgatelaw12.TallySays", spec := "tallySays", unfollowed := true, recurses := true, apart := false, narrowed := true }
def TallySaysUptoSaid : Prop := tallySaysUptoRow.holds Try.pinned (OpenSpec.upto tallySaysSpec)

/-- 'kissgatelaw12.TallyRises', WHERE WHAT IT READS IS OF BULK AT MOST 1048576: true; the input reads as it did. -/
def tallyRisesUptoRow : OpenClaim := { program := "ytfbiejkdeadheaa", sum := "db0b3c319ebe37d4699ffbc33d73255caf8f6f6161f3a4b81cb3bd275cd298f5", func := "kissgate/kissgatelaw12.TallyRises", spec := "tallyRises", unfollowed := true, recurses := true, apart := false, narrowed := true }
def TallyRisesUptoSaid : Prop := tallyRisesUptoRow.holds Try.pinned (OpenSpec.upto tallyRisesSpec)

/-- 'kissgatelaw12.TallyAll', WHERE WHAT IT READS IS OF BULK AT MOST 1048576: true; the input reads as it did. -/
def tallyAllUptoRow : OpenClaim := { program := "ytfbiejkdeadheaa", sum := "db0b3c319ebe37d4699ffbc33d73255caf8f6f6161f3a4b81cb3bd275cd298f5", func := "kissgate/kissgatelaw12.TallyAll", spec := "tallyAll", unfollowed := true, recurses := true, apart := false, narrowed := true }
def TallyAllUptoSaid : Prop := tallyAllUptoRow.holds Try.pinned (OpenSpec.upto tallyAllSpec)

end Rows
end Go.Proofs.Ytfbiejkdeadheaa
