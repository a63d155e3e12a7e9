/-
  No cell of these rows narrows 'for every input' (looked for: loops, veiled, ifaces, maps, wideKeys, modest, calm, conditions, laid).
  DERIVED. THE GIVEN ROWS OF THIS SEAT. 8 by the template 'for every input the law returns true; each argument reads behind the call as it read before'; 0 by the template 'total and deterministic' (their statements: YtkdaiomjbkpedaaGreatTotals.lean).
  GIVEN WITH THE SEED: the statements are not yours to turn. If you find one false, say at which input.
  Laid BY PROGRAM, IN A SANDBOX (cutbox-rows.mjs): the forced cells as the released guide's own fill.sh prints them over the translation e27eb1008dae8785… (all of the seat's roots in one cut). By AI agents, Wed Nov 11 2026. No macro, syntax, notation, axiom, sorry.
-/
import Derived.Test.YtkdaiomjbkpedaaGreatChecked
import GoSem.Claim
import GoSem.ClaimJoined
import GoSem.ClaimMapViews
import Derived.JoinedTies
import Derived.KernelRfl
namespace Go.Proofs.YtkdaiomjbkpedaaGreat
/- THE CELL 'sum', in the pinned program and in every row, IS THE sha256 OF THE DUMP (.gsa) THAT YtkdaiomjbkpedaaGreatProg.lean LOADS. Nothing in Lean hashes anything: it is a label: what it is worth is what the hold of that sum in a sandbox is worth. -/
noncomputable def Tryz.pinned : Pinned := { name := "ytkdaiomjbkpedaagreat", sum := "e27eb1008dae8785aa2dc5de8969390a3b8258ea70a8ee69657cf4d3c79e69ee", checked := Tryz.checked }
namespace Rows
def none {H : Type} : Left H := { results := [], args := [] }

/-- 'kissgatelaw29.HclhPassed': WHATEVER THE INPUT: true; the input reads as it did. -/
def hclhPassedSpec : ChangeSpec := { name := "hclhPassed", fn := fun _ => fun
  | [d1, d2, d3] => { results := [.lit (.bool true)], args := [d1, d2, d3] }
  | _ => none }
def hclhPassedRow : OpenClaim := { program := "ytkdaiomjbkpedaagreat", sum := "e27eb1008dae8785aa2dc5de8969390a3b8258ea70a8ee69657cf4d3c79e69ee", func := "kissgate/kissgatelaw29.HclhPassed", spec := "hclhPassed", inPlace := ["sync/atomic.LoadUint32", "(*internal/sync.Mutex).Lock", "internal/race.Disable", "sync/atomic.CompareAndSwapInt32", "internal/race.Enable", "internal/race.Acquire", "(*internal/sync.Mutex).lockSlow", "internal/sync.runtime_canSpin", "internal/sync.runtime_doSpin", "internal/sync.throw", "internal/sync.runtime_nanotime", "internal/sync.runtime_SemacquireMutex", "sync/atomic.AddInt32", "(*internal/sync.Mutex).Unlock", "internal/race.ReleaseMerge", "(*internal/sync.Mutex).unlockSlow", "internal/sync.fatal", "internal/sync.runtime_Semrelease", "sync/atomic.StoreUint32", "sync/atomic.SwapInt64", "sync/atomic.LoadInt64", "sync/atomic.AddInt64"], unfollowed := true, recurses := true, apart := false }
def HclhPassedSaid : Prop := hclhPassedRow.holds Tryz.pinned (OpenSpec.ofChange hclhPassedSpec)

/-- ITS FALSE NEIGHBOUR: 'it returns false'. Refute it at one input. -/
def hclhPassedWrong : ChangeSpec := { name := "hclhPassed", fn := fun _ => fun
  | [d1, d2, d3] => { results := [.lit (.bool false)], args := [d1, d2, d3] }
  | _ => none }
def HclhPassedWrongFalsely : Prop := hclhPassedRow.holds Tryz.pinned (OpenSpec.ofChange hclhPassedWrong)

/-- 'kissgatelaw29.HclhOne': WHATEVER THE INPUT: true; the input reads as it did. -/
def hclhOneSpec : ChangeSpec := { name := "hclhOne", fn := fun _ => fun
  | [d1, d2, d3] => { results := [.lit (.bool true)], args := [d1, d2, d3] }
  | _ => none }
def hclhOneRow : OpenClaim := { program := "ytkdaiomjbkpedaagreat", sum := "e27eb1008dae8785aa2dc5de8969390a3b8258ea70a8ee69657cf4d3c79e69ee", func := "kissgate/kissgatelaw29.HclhOne", spec := "hclhOne", inPlace := ["sync/atomic.LoadUint32", "(*internal/sync.Mutex).Lock", "internal/race.Disable", "sync/atomic.CompareAndSwapInt32", "internal/race.Enable", "internal/race.Acquire", "(*internal/sync.Mutex).lockSlow", "internal/sync.runtime_canSpin", "internal/sync.runtime_doSpin", "internal/sync.throw", "internal/sync.runtime_nanotime", "internal/sync.runtime_SemacquireMutex", "sync/atomic.AddInt32", "(*internal/sync.Mutex).Unlock", "internal/race.ReleaseMerge", "(*internal/sync.Mutex).unlockSlow", "internal/sync.fatal", "internal/sync.runtime_Semrelease", "sync/atomic.StoreUint32", "sync/atomic.SwapInt64", "sync/atomic.LoadInt64", "sync/atomic.AddInt64"], unfollowed := true, recurses := true, apart := false }
def HclhOneSaid : Prop := hclhOneRow.holds Tryz.pinned (OpenSpec.ofChange hclhOneSpec)

/-- ITS FALSE NEIGHBOUR: 'it returns false'. Refute it at one input. -/
def hclhOneWrong : ChangeSpec := { name := "hclhOne", fn := fun _ => fun
  | [d1, d2, d3] => { results := [.lit (.bool false)], args := [d1, d2, d3] }
  | _ => none }
def HclhOneWrongFalsely : Prop := hclhOneRow.holds Tryz.pinned (OpenSpec.ofChange hclhOneWrong)

/-- 'kissgatelaw31.CnaPassed': WHATEVER THE INPUT: true; the input reads as it did. -/
def cnaPassedSpec : ChangeSpec := { name := "cnaPassed", fn := fun _ => fun
  | [d1, d2, d3] => { results := [.lit (.bool true)], args := [d1, d2, d3] }
  | _ => none }
def cnaPassedRow : OpenClaim := { program := "ytkdaiomjbkpedaagreat", sum := "e27eb1008dae8785aa2dc5de8969390a3b8258ea70a8ee69657cf4d3c79e69ee", func := "kissgate/kissgatelaw31.CnaPassed", spec := "cnaPassed", inPlace := ["sync/atomic.LoadUint32", "(*internal/sync.Mutex).Lock", "internal/race.Disable", "sync/atomic.CompareAndSwapInt32", "internal/race.Enable", "internal/race.Acquire", "(*internal/sync.Mutex).lockSlow", "internal/sync.runtime_canSpin", "internal/sync.runtime_doSpin", "internal/sync.throw", "internal/sync.runtime_nanotime", "internal/sync.runtime_SemacquireMutex", "sync/atomic.AddInt32", "(*internal/sync.Mutex).Unlock", "internal/race.ReleaseMerge", "(*internal/sync.Mutex).unlockSlow", "internal/sync.fatal", "internal/sync.runtime_Semrelease", "sync/atomic.StoreUint32", "sync/atomic.LoadInt64", "sync/atomic.StoreInt64", "sync/atomic.SwapInt64", "sync/atomic.CompareAndSwapInt64", "sync/atomic.AddInt64"], unfollowed := true, recurses := true, apart := false }
def CnaPassedSaid : Prop := cnaPassedRow.holds Tryz.pinned (OpenSpec.ofChange cnaPassedSpec)

/-- ITS FALSE NEIGHBOUR: 'it returns false'. Refute it at one input. -/
def cnaPassedWrong : ChangeSpec := { name := "cnaPassed", fn := fun _ => fun
  | [d1, d2, d3] => { results := [.lit (.bool false)], args := [d1, d2, d3] }
  | _ => none }
def CnaPassedWrongFalsely : Prop := cnaPassedRow.holds Tryz.pinned (OpenSpec.ofChange cnaPassedWrong)

/-- 'kissgatelaw31.CnaAll': WHATEVER THE INPUT: true; the input reads as it did. -/
def cnaAllSpec : ChangeSpec := { name := "cnaAll", fn := fun _ => fun
  | [d1, d2, d3] => { results := [.lit (.bool true)], args := [d1, d2, d3] }
  | _ => none }
def cnaAllRow : OpenClaim := { program := "ytkdaiomjbkpedaagreat", sum := "e27eb1008dae8785aa2dc5de8969390a3b8258ea70a8ee69657cf4d3c79e69ee", func := "kissgate/kissgatelaw31.CnaAll", spec := "cnaAll", inPlace := ["sync/atomic.LoadUint32", "(*internal/sync.Mutex).Lock", "internal/race.Disable", "sync/atomic.CompareAndSwapInt32", "internal/race.Enable", "internal/race.Acquire", "(*internal/sync.Mutex).lockSlow", "internal/sync.runtime_canSpin", "internal/sync.runtime_doSpin", "internal/sync.throw", "internal/sync.runtime_nanotime", "internal/sync.runtime_SemacquireMutex", "sync/atomic.AddInt32", "(*internal/sync.Mutex).Unlock", "internal/race.ReleaseMerge", "(*internal/sync.Mutex).unlockSlow", "internal/sync.fatal", "internal/sync.runtime_Semrelease", "sync/atomic.StoreUint32", "sync/atomic.LoadInt64", "sync/atomic.StoreInt64", "sync/atomic.SwapInt64", "sync/atomic.CompareAndSwapInt64", "sync/atomic.AddInt64"], unfollowed := true, recurses := true, apart := false }
def CnaAllSaid : Prop := cnaAllRow.holds Tryz.pinned (OpenSpec.ofChange cnaAllSpec)

/-- ITS FALSE NEIGHBOUR: 'it returns false'. Refute it at one input. -/
def cnaAllWrong : ChangeSpec := { name := "cnaAll", fn := fun _ => fun
  | [d1, d2, d3] => { results := [.lit (.bool false)], args := [d1, d2, d3] }
  | _ => none }
def CnaAllWrongFalsely : Prop := cnaAllRow.holds Tryz.pinned (OpenSpec.ofChange cnaAllWrong)

/-- 'kissgatelaw31.CnaOne': WHATEVER THE INPUT: true; the input reads as it did. -/
def cnaOneSpec : ChangeSpec := { name := "cnaOne", fn := fun _ => fun
  | [d1, d2, d3] => { results := [.lit (.bool true)], args := [d1, d2, d3] }
  | _ => none }
def cnaOneRow : OpenClaim := { program := "ytkdaiomjbkpedaagreat", sum := "e27eb1008dae8785aa2dc5de8969390a3b8258ea70a8ee69657cf4d3c79e69ee", func := "kissgate/kissgatelaw31.CnaOne", spec := "cnaOne", inPlace := ["sync/atomic.LoadUint32", "(*internal/sync.Mutex).Lock", "internal/race.Disable", "sync/atomic.CompareAndSwapInt32", "internal/race.Enable", "internal/race.Acquire", "(*internal/sync.Mutex).lockSlow", "internal/sync.runtime_canSpin", "internal/sync.runtime_doSpin", "internal/sync.throw", "internal/sync.runtime_nanotime", "internal/sync.runtime_SemacquireMutex", "sync/atomic.AddInt32", "(*internal/sync.Mutex).Unlock", "internal/race.ReleaseMerge", "(*internal/sync.Mutex).unlockSlow", "internal/sync.fatal", "internal/sync.runtime_Semrelease", "sync/atomic.StoreUint32", "sync/atomic.LoadInt64", "sync/atomic.StoreInt64", "sync/atomic.SwapInt64", "sync/atomic.CompareAndSwapInt64", "sync/atomic.AddInt64"], unfollowed := true, recurses := true, apart := false }
def CnaOneSaid : Prop := cnaOneRow.holds Tryz.pinned (OpenSpec.ofChange cnaOneSpec)

/-- ITS FALSE NEIGHBOUR: 'it returns false'. Refute it at one input. -/
def cnaOneWrong : ChangeSpec := { name := "cnaOne", fn := fun _ => fun
  | [d1, d2, d3] => { results := [.lit (.bool false)], args := [d1, d2, d3] }
  | _ => none }
def CnaOneWrongFalsely : Prop := cnaOneRow.holds Tryz.pinned (OpenSpec.ofChange cnaOneWrong)

/-- 'kissgatelaw27.HmcsAll': WHATEVER THE INPUT: true; the input reads as it did. -/
def hmcsAllSpec : ChangeSpec := { name := "hmcsAll", fn := fun _ => fun
  | [d1, d2, d3] => { results := [.lit (.bool true)], args := [d1, d2, d3] }
  | _ => none }
def hmcsAllRow : OpenClaim := { program := "ytkdaiomjbkpedaagreat", sum := "e27eb1008dae8785aa2dc5de8969390a3b8258ea70a8ee69657cf4d3c79e69ee", func := "kissgate/kissgatelaw27.HmcsAll", spec := "hmcsAll", inPlace := ["sync/atomic.LoadUint32", "(*internal/sync.Mutex).Lock", "internal/race.Disable", "sync/atomic.CompareAndSwapInt32", "internal/race.Enable", "internal/race.Acquire", "(*internal/sync.Mutex).lockSlow", "internal/sync.runtime_canSpin", "internal/sync.runtime_doSpin", "internal/sync.throw", "internal/sync.runtime_nanotime", "internal/sync.runtime_SemacquireMutex", "sync/atomic.AddInt32", "(*internal/sync.Mutex).Unlock", "internal/race.ReleaseMerge", "(*internal/sync.Mutex).unlockSlow", "internal/sync.fatal", "internal/sync.runtime_Semrelease", "sync/atomic.StoreUint32", "sync/atomic.StoreInt64", "sync/atomic.SwapInt64", "sync/atomic.LoadInt64", "sync/atomic.CompareAndSwapInt64"], unfollowed := true, recurses := true, apart := false }
def HmcsAllSaid : Prop := hmcsAllRow.holds Tryz.pinned (OpenSpec.ofChange hmcsAllSpec)

/-- ITS FALSE NEIGHBOUR: 'it returns false'. Refute it at one input. -/
def hmcsAllWrong : ChangeSpec := { name := "hmcsAll", fn := fun _ => fun
  | [d1, d2, d3] => { results := [.lit (.bool false)], args := [d1, d2, d3] }
  | _ => none }
def HmcsAllWrongFalsely : Prop := hmcsAllRow.holds Tryz.pinned (OpenSpec.ofChange hmcsAllWrong)

/-- 'kissgatelaw27.HmcsOne': WHATEVER THE INPUT: true; the input reads as it did. -/
def hmcsOneSpec : ChangeSpec := { name := "hmcsOne", fn := fun _ => fun
  | [d1, d2, d3] => { results := [.lit (.bool true)], args := [d1, d2, d3] }
  | _ => none }
def hmcsOneRow : OpenClaim := { program := "ytkdaiomjbkpedaagreat", sum := "e27eb1008dae8785aa2dc5de8969390a3b8258ea70a8ee69657cf4d3c79e69ee", func := "kissgate/kissgatelaw27.HmcsOne", spec := "hmcsOne", inPlace := ["sync/atomic.LoadUint32", "(*internal/sync.Mutex).Lock", "internal/race.Disable", "sync/atomic.CompareAndSwapInt32", "internal/race.Enable", "internal/race.Acquire", "(*internal/sync.Mutex).lockSlow", "internal/sync.runtime_canSpin", "internal/sync.runtime_doSpin", "internal/sync.throw", "internal/sync.runtime_nanotime", "internal/sync.runtime_SemacquireMutex", "sync/atomic.AddInt32", "(*internal/sync.Mutex).Unlock", "internal/race.ReleaseMerge", "(*internal/sync.Mutex).unlockSlow", "internal/sync.fatal", "internal/sync.runtime_Semrelease", "sync/atomic.StoreUint32", "sync/atomic.StoreInt64", "sync/atomic.SwapInt64", "sync/atomic.LoadInt64", "sync/atomic.CompareAndSwapInt64"], unfollowed := true, recurses := true, apart := false }
def HmcsOneSaid : Prop := hmcsOneRow.holds Tryz.pinned (OpenSpec.ofChange hmcsOneSpec)

/-- ITS FALSE NEIGHBOUR: 'it returns false'. Refute it at one input. -/
def hmcsOneWrong : ChangeSpec := { name := "hmcsOne", fn := fun _ => fun
  | [d1, d2, d3] => { results := [.lit (.bool false)], args := [d1, d2, d3] }
  | _ => none }
def HmcsOneWrongFalsely : Prop := hmcsOneRow.holds Tryz.pinned (OpenSpec.ofChange hmcsOneWrong)

/-- 'kissgatelaw27.HmcsTenure': WHATEVER THE INPUT: true; the input reads as it did. -/
def hmcsTenureSpec : ChangeSpec := { name := "hmcsTenure", fn := fun _ => fun
  | [d1, d2, d3] => { results := [.lit (.bool true)], args := [d1, d2, d3] }
  | _ => none }
def hmcsTenureRow : OpenClaim := { program := "ytkdaiomjbkpedaagreat", sum := "e27eb1008dae8785aa2dc5de8969390a3b8258ea70a8ee69657cf4d3c79e69ee", func := "kissgate/kissgatelaw27.HmcsTenure", spec := "hmcsTenure", inPlace := ["sync/atomic.LoadUint32", "(*internal/sync.Mutex).Lock", "internal/race.Disable", "sync/atomic.CompareAndSwapInt32", "internal/race.Enable", "internal/race.Acquire", "(*internal/sync.Mutex).lockSlow", "internal/sync.runtime_canSpin", "internal/sync.runtime_doSpin", "internal/sync.throw", "internal/sync.runtime_nanotime", "internal/sync.runtime_SemacquireMutex", "sync/atomic.AddInt32", "(*internal/sync.Mutex).Unlock", "internal/race.ReleaseMerge", "(*internal/sync.Mutex).unlockSlow", "internal/sync.fatal", "internal/sync.runtime_Semrelease", "sync/atomic.StoreUint32", "sync/atomic.StoreInt64", "sync/atomic.SwapInt64", "sync/atomic.LoadInt64", "sync/atomic.CompareAndSwapInt64"], unfollowed := true, recurses := true, apart := false }
def HmcsTenureSaid : Prop := hmcsTenureRow.holds Tryz.pinned (OpenSpec.ofChange hmcsTenureSpec)

/-- ITS FALSE NEIGHBOUR: 'it returns false'. Refute it at one input. -/
def hmcsTenureWrong : ChangeSpec := { name := "hmcsTenure", fn := fun _ => fun
  | [d1, d2, d3] => { results := [.lit (.bool false)], args := [d1, d2, d3] }
  | _ => none }
def HmcsTenureWrongFalsely : Prop := hmcsTenureRow.holds Tryz.pinned (OpenSpec.ofChange hmcsTenureWrong)

/- THE SECOND FORM. 'bulk': how many values and letters a reading holds, each counted each time it is reached (what is shared counts as often as it is met; a slice's spare places count too). A statement '..UptoSaid' is the law's where the arguments, and the package variables that the reading takes, are together of bulk at most 1048576: NARROWER than '..Said'. Prove '..Said' where nothing that the law and all that it calls make is longer than what came in: it says more and counts as full. Else prove '..UptoSaid'. A law counts once. -/
mutual
def uptoBulk {H : Type} : DataW H → Nat
  | .lit (.string bytes) => bytes.length + 1
  | .lit _ => 1
  | .nil => 1
  | .ptr d => uptoBulk d + 1
  | .slice elems spare => uptoBulkAll elems + uptoBulkAll spare + 1
  | .agg parts => uptoBulkAll parts + 1
  | .iface _ d => uptoBulk d + 1
  | .map entries => uptoBulkEntries entries + 1
  | .held _ => 1
def uptoBulkAll {H : Type} : List (DataW H) → Nat
  | [] => 0
  | d :: r => uptoBulk d + uptoBulkAll r
def uptoBulkEntries {H : Type} : List (Lit × DataW H) → Nat
  | [] => 0
  | x :: r => uptoBulkEntry x + uptoBulkEntries r
def uptoBulkEntry {H : Type} : Lit × DataW H → Nat
  | (.string bytes, d) => bytes.length + uptoBulk d + 1
  | (_, d) => uptoBulk d + 1
 end
def uptoSmall : (H : Type) → List (DataW H) → Bool := fun _ ds => decide (uptoBulkAll ds ≤ 1048576)
def OpenSpec.upto (s : _root_.Go.ChangeSpec) : _root_.Go.OpenSpec := { _root_.Go.OpenSpec.ofChange s with cond := some uptoSmall }

/-- 'kissgatelaw29.HclhPassed', WHERE WHAT IT READS IS OF BULK AT MOST 1048576: true; the input reads as it did. -/
def hclhPassedUptoRow : OpenClaim := { program := "ytkdaiomjbkpedaagreat", sum := "e27eb1008dae8785aa2dc5de8969390a3b8258ea70a8ee69657cf4d3c79e69ee", func := "kissgate/kissgatelaw29.HclhPassed", spec := "hclhPassed", inPlace := ["sync/atomic.LoadUint32", "(*internal/sync.Mutex).Lock", "internal/race.Disable", "sync/atomic.CompareAndSwapInt32", "internal/race.Enable", "internal/race.Acquire", "(*internal/sync.Mutex).lockSlow", "internal/sync.runtime_canSpin", "internal/sync.runtime_doSpin", "internal/sync.throw", "internal/sync.runtime_nanotime", "internal/sync.runtime_SemacquireMutex", "sync/atomic.AddInt32", "(*internal/sync.Mutex).Unlock", "internal/race.ReleaseMerge", "(*internal/sync.Mutex).unlockSlow", "internal/sync.fatal", "internal/sync.runtime_Semrelease", "sync/atomic.StoreUint32", "sync/atomic.SwapInt64", "sync/atomic.LoadInt64", "sync/atomic.AddInt64"], unfollowed := true, recurses := true, apart := false, narrowed := true }
def HclhPassedUptoSaid : Prop := hclhPassedUptoRow.holds Tryz.pinned (OpenSpec.upto hclhPassedSpec)

/-- 'kissgatelaw29.HclhOne', WHERE WHAT IT READS IS OF BULK AT MOST 1048576: true; the input reads as it did. -/
def hclhOneUptoRow : OpenClaim := { program := "ytkdaiomjbkpedaagreat", sum := "e27eb1008dae8785aa2dc5de8969390a3b8258ea70a8ee69657cf4d3c79e69ee", func := "kissgate/kissgatelaw29.HclhOne", spec := "hclhOne", inPlace := ["sync/atomic.LoadUint32", "(*internal/sync.Mutex).Lock", "internal/race.Disable", "sync/atomic.CompareAndSwapInt32", "internal/race.Enable", "internal/race.Acquire", "(*internal/sync.Mutex).lockSlow", "internal/sync.runtime_canSpin", "internal/sync.runtime_doSpin", "internal/sync.throw", "internal/sync.runtime_nanotime", "internal/sync.runtime_SemacquireMutex", "sync/atomic.AddInt32", "(*internal/sync.Mutex).Unlock", "internal/race.ReleaseMerge", "(*internal/sync.Mutex).unlockSlow", "internal/sync.fatal", "internal/sync.runtime_Semrelease", "sync/atomic.StoreUint32", "sync/atomic.SwapInt64", "sync/atomic.LoadInt64", "sync/atomic.AddInt64"], unfollowed := true, recurses := true, apart := false, narrowed := true }
def HclhOneUptoSaid : Prop := hclhOneUptoRow.holds Tryz.pinned (OpenSpec.upto hclhOneSpec)

/-- 'kissgatelaw31.CnaPassed', WHERE WHAT IT READS IS OF BULK AT MOST 1048576: true; the input reads as it did. -/
def cnaPassedUptoRow : OpenClaim := { program := "ytkdaiomjbkpedaagreat", sum := "e27eb1008dae8785aa2dc5de8969390a3b8258ea70a8ee69657cf4d3c79e69ee", func := "kissgate/kissgatelaw31.CnaPassed", spec := "cnaPassed", inPlace := ["sync/atomic.LoadUint32", "(*internal/sync.Mutex).Lock", "internal/race.Disable", "sync/atomic.CompareAndSwapInt32", "internal/race.Enable", "internal/race.Acquire", "(*internal/sync.Mutex).lockSlow", "internal/sync.runtime_canSpin", "internal/sync.runtime_doSpin", "internal/sync.throw", "internal/sync.runtime_nanotime", "internal/sync.runtime_SemacquireMutex", "sync/atomic.AddInt32", "(*internal/sync.Mutex).Unlock", "internal/race.ReleaseMerge", "(*internal/sync.Mutex).unlockSlow", "internal/sync.fatal", "internal/sync.runtime_Semrelease", "sync/atomic.StoreUint32", "sync/atomic.LoadInt64", "sync/atomic.StoreInt64", "sync/atomic.SwapInt64", "sync/atomic.CompareAndSwapInt64", "sync/atomic.AddInt64"], unfollowed := true, recurses := true, apart := false, narrowed := true }
def CnaPassedUptoSaid : Prop := cnaPassedUptoRow.holds Tryz.pinned (OpenSpec.upto cnaPassedSpec)

/-- 'kissgatelaw31.CnaAll', WHERE WHAT IT READS IS OF BULK AT MOST 1048576: true; the input reads as it did. -/
def cnaAllUptoRow : OpenClaim := { program := "ytkdaiomjbkpedaagreat", sum := "e27eb1008dae8785aa2dc5de8969390a3b8258ea70a8ee69657cf4d3c79e69ee", func := "kissgate/kissgatelaw31.CnaAll", spec := "cnaAll", inPlace := ["sync/atomic.LoadUint32", "(*internal/sync.Mutex).Lock", "internal/race.Disable", "sync/atomic.CompareAndSwapInt32", "internal/race.Enable", "internal/race.Acquire", "(*internal/sync.Mutex).lockSlow", "internal/sync.runtime_canSpin", "internal/sync.runtime_doSpin", "internal/sync.throw", "internal/sync.runtime_nanotime", "internal/sync.runtime_SemacquireMutex", "sync/atomic.AddInt32", "(*internal/sync.Mutex).Unlock", "internal/race.ReleaseMerge", "(*internal/sync.Mutex).unlockSlow", "internal/sync.fatal", "internal/sync.runtime_Semrelease", "sync/atomic.StoreUint32", "sync/atomic.LoadInt64", "sync/atomic.StoreInt64", "sync/atomic.SwapInt64", "sync/atomic.CompareAndSwapInt64", "sync/atomic.AddInt64"], unfollowed := true, recurses := true, apart := false, narrowed := true }
def CnaAllUptoSaid : Prop := cnaAllUptoRow.holds Tryz.pinned (OpenSpec.upto cnaAllSpec)

/-- 'kissgatelaw31.CnaOne', WHERE WHAT IT READS IS OF BULK AT MOST 1048576: true; the input reads as it did. -/
def cnaOneUptoRow : OpenClaim := { program := "ytkdaiomjbkpedaagreat", sum := "e27eb1008dae8785aa2dc5de8969390a3b8258ea70a8ee69657cf4d3c79e69ee", func := "kissgate/kissgatelaw31.CnaOne", spec := "cnaOne", inPlace := ["sync/atomic.LoadUint32", "(*internal/sync.Mutex).Lock", "internal/race.Disable", "sync/atomic.CompareAndSwapInt32", "internal/race.Enable", "internal/race.Acquire", "(*internal/sync.Mutex).lockSlow", "internal/sync.runtime_canSpin", "internal/sync.runtime_doSpin", "internal/sync.throw", "internal/sync.runtime_nanotime", "internal/sync.runtime_SemacquireMutex", "sync/atomic.AddInt32", "(*internal/sync.Mutex).Unlock", "internal/race.ReleaseMerge", "(*internal/sync.Mutex).unlockSlow", "internal/sync.fatal", "internal/sync.runtime_Semrelease", "sync/atomic.StoreUint32", "sync/atomic.LoadInt64", "sync/atomic.StoreInt64", "sync/atomic.SwapInt64", "sync/atomic.CompareAndSwapInt64", "sync/atomic.AddInt64"], unfollowed := true, recurses := true, apart := false, narrowed := true }
def CnaOneUptoSaid : Prop := cnaOneUptoRow.holds Tryz.pinned (OpenSpec.upto cnaOneSpec)

/-- 'kissgatelaw27.HmcsAll', WHERE WHAT IT READS IS OF BULK AT MOST 1048576: true; the input reads as it did. -/
def hmcsAllUptoRow : OpenClaim := { program := "ytkdaiomjbkpedaagreat", sum := "e27eb1008dae8785aa2dc5de8969390a3b8258ea70a8ee69657cf4d3c79e69ee", func := "kissgate/kissgatelaw27.HmcsAll", spec := "hmcsAll", inPlace := ["sync/atomic.LoadUint32", "(*internal/sync.Mutex).Lock", "internal/race.Disable", "sync/atomic.CompareAndSwapInt32", "internal/race.Enable", "internal/race.Acquire", "(*internal/sync.Mutex).lockSlow", "internal/sync.runtime_canSpin", "internal/sync.runtime_doSpin", "internal/sync.throw", "internal/sync.runtime_nanotime", "internal/sync.runtime_SemacquireMutex", "sync/atomic.AddInt32", "(*internal/sync.Mutex).Unlock", "internal/race.ReleaseMerge", "(*internal/sync.Mutex).unlockSlow", "internal/sync.fatal", "internal/sync.runtime_Semrelease", "sync/atomic.StoreUint32", "sync/atomic.StoreInt64", "sync/atomic.SwapInt64", "sync/atomic.LoadInt64", "sync/atomic.CompareAndSwapInt64"], unfollowed := true, recurses := true, apart := false, narrowed := true }
def HmcsAllUptoSaid : Prop := hmcsAllUptoRow.holds Tryz.pinned (OpenSpec.upto hmcsAllSpec)

/-- 'kissgatelaw27.HmcsOne', WHERE WHAT IT READS IS OF BULK AT MOST 1048576: true; the input reads as it did. -/
def hmcsOneUptoRow : OpenClaim := { program := "ytkdaiomjbkpedaagreat", sum := "e27eb1008dae8785aa2dc5de8969390a3b8258ea70a8ee69657cf4d3c79e69ee", func := "kissgate/kissgatelaw27.HmcsOne", spec := "hmcsOne", inPlace := ["sync/atomic.LoadUint32", "(*internal/sync.Mutex).Lock", "internal/race.Disable", "sync/atomic.CompareAndSwapInt32", "internal/race.Enable", "internal/race.Acquire", "(*internal/sync.Mutex).lockSlow", "internal/sync.runtime_canSpin", "internal/sync.runtime_doSpin", "internal/sync.throw", "internal/sync.runtime_nanotime", "internal/sync.runtime_SemacquireMutex", "sync/atomic.AddInt32", "(*internal/sync.Mutex).Unlock", "internal/race.ReleaseMerge", "(*internal/sync.Mutex).unlockSlow", "internal/sync.fatal", "internal/sync.runtime_Semrelease", "sync/atomic.StoreUint32", "sync/atomic.StoreInt64", "sync/atomic.SwapInt64", "sync/atomic.LoadInt64", "sync/atomic.CompareAndSwapInt64"], unfollowed := true, recurses := true, apart := false, narrowed := true }
def HmcsOneUptoSaid : Prop := hmcsOneUptoRow.holds Tryz.pinned (OpenSpec.upto hmcsOneSpec)

/-- 'kissgatelaw27.HmcsTenure', WHERE WHAT IT READS IS OF BULK AT MOST 1048576: true; the input reads as it did. -/
def hmcsTenureUptoRow : OpenClaim := { program := "ytkdaiomjbkpedaagreat", sum := "e27eb1008dae8785aa2dc5de8969390a3b8258ea70a8ee69657cf4d3c79e69ee", func := "kissgate/kissgatelaw27.HmcsTenure", spec := "hmcsTenure", inPlace := ["sync/atomic.LoadUint32", "(*internal/sync.Mutex).Lock", "internal/race.Disable", "sync/atomic.CompareAndSwapInt32", "internal/race.Enable", "internal/race.Acquire", "(*internal/sync.Mutex).lockSlow", "internal/sync.runtime_canSpin", "internal/sync.runtime_doSpin", "internal/sync.throw", "internal/sync.runtime_nanotime", "internal/sync.runtime_SemacquireMutex", "sync/atomic.AddInt32", "(*internal/sync.Mutex).Unlock", "internal/race.ReleaseMerge", "(*internal/sync.Mutex).unlockSlow", "internal/sync.fatal", "internal/sync.runtime_Semrelease", "sync/atomic.StoreUint32", "sync/atomic.StoreInt64", "sync/atomic.SwapInt64", "sync/atomic.LoadInt64", "sync/atomic.CompareAndSwapInt64"], unfollowed := true, recurses := true, apart := false, narrowed := true }
def HmcsTenureUptoSaid : Prop := hmcsTenureUptoRow.holds Tryz.pinned (OpenSpec.upto hmcsTenureSpec)

end Rows
end Go.Proofs.YtkdaiomjbkpedaaGreat
