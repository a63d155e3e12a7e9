/-
  No cell of these rows narrows 'for every input' (looked for: loops, veiled, ifaces, maps, wideKeys, modest, calm, conditions, laid).
  DERIVED. THE GIVEN ROWS OF THIS SEAT. 5 by the template 'for every input the law returns true; each argument reads behind the call as it read before'; 0 by the template 'total and deterministic' (their statements: YthgpjiebeinamaaTotals.lean).
  GIVEN WITH THE SEED: the statements are not yours to turn. If you find one false, say at which input.
  Laid BY PROGRAM, IN A SANDBOX (cutbox-rows.mjs): the forced cells as the released guide's own fill.sh prints them over the translation b9c6020ad5bbb48c… (all of the seat's roots in one cut). By AI agents, Wed Nov 11 2026. No macro, syntax, notation, axiom, sorry.
-/
import Derived.Test.YthgpjiebeinamaaChecked
import GoSem.Claim
import GoSem.ClaimJoined
import GoSem.ClaimMapViews
import Derived.JoinedTies
import Derived.KernelRfl
namespace Go.Proofs.Ythgpjiebeinamaa
/- THE CELL 'sum', in the pinned program and in every row, IS THE sha256 OF THE DUMP (.gsa) THAT YthgpjiebeinamaaProg.lean LOADS. Nothing in Lean hashes anything: it is a label: what it is worth is what the hold of that sum in a sandbox is worth. -/
noncomputable def Try.pinned : Pinned := { name := "ythgpjiebeinamaa", sum := "b9c6020ad5bbb48c2f2f09c613a5575fd239d6f1b456517b9c0b2d1f39fd39bd", checked := Try.checked }
namespace Rows
def none {H : Type} : Left H := { results := [], args := [] }

/-- 'kissgatelaw26.RungGives': WHATEVER THE INPUT: true; the input reads as it did. -/
def rungGivesSpec : ChangeSpec := { name := "rungGives", fn := fun _ => fun
  | [d] => { results := [.lit (.bool true)], args := [d] }
  | _ => none }
def rungGivesRow : OpenClaim := { program := "ythgpjiebeinamaa", sum := "b9c6020ad5bbb48c2f2f09c613a5575fd239d6f1b456517b9c0b2d1f39fd39bd", func := "kissgate/kissgatelaw26.RungGives", spec := "rungGives", inPlace := ["sync/atomic.StoreInt64", "sync/atomic.SwapInt64", "sync/atomic.LoadInt64", "sync/atomic.CompareAndSwapInt64"], apart := false }
def RungGivesSaid : Prop := rungGivesRow.holds Try.pinned (OpenSpec.ofChange rungGivesSpec)

/-- ITS FALSE NEIGHBOUR: 'it returns false'. Refute it at one input. -/
def rungGivesWrong : ChangeSpec := { name := "rungGives", fn := fun _ => fun
  | [d] => { results := [.lit (.bool false)], args := [d] }
  | _ => none }
def RungGivesWrongFalsely : Prop := rungGivesRow.holds Try.pinned (OpenSpec.ofChange rungGivesWrong)

/-- 'kissgatelaw26.RungOne': WHATEVER THE INPUT: true; the input reads as it did. -/
def rungOneSpec : ChangeSpec := { name := "rungOne", fn := fun _ => fun
  | [d1, d2] => { results := [.lit (.bool true)], args := [d1, d2] }
  | _ => none }
def rungOneRow : OpenClaim := { program := "ythgpjiebeinamaa", sum := "b9c6020ad5bbb48c2f2f09c613a5575fd239d6f1b456517b9c0b2d1f39fd39bd", func := "kissgate/kissgatelaw26.RungOne", spec := "rungOne", inPlace := ["sync/atomic.StoreInt64", "sync/atomic.SwapInt64", "sync/atomic.LoadInt64", "sync/atomic.CompareAndSwapInt64"], apart := false }
def RungOneSaid : Prop := rungOneRow.holds Try.pinned (OpenSpec.ofChange rungOneSpec)

/-- ITS FALSE NEIGHBOUR: 'it returns false'. Refute it at one input. -/
def rungOneWrong : ChangeSpec := { name := "rungOne", fn := fun _ => fun
  | [d1, d2] => { results := [.lit (.bool false)], args := [d1, d2] }
  | _ => none }
def RungOneWrongFalsely : Prop := rungOneRow.holds Try.pinned (OpenSpec.ofChange rungOneWrong)

/-- 'kissgatelaw26.RungPlays': WHATEVER THE INPUT: true; the input reads as it did. -/
def rungPlaysSpec : ChangeSpec := { name := "rungPlays", fn := fun _ => fun
  | [d1, d2] => { results := [.lit (.bool true)], args := [d1, d2] }
  | _ => none }
def rungPlaysRow : OpenClaim := { program := "ythgpjiebeinamaa", sum := "b9c6020ad5bbb48c2f2f09c613a5575fd239d6f1b456517b9c0b2d1f39fd39bd", func := "kissgate/kissgatelaw26.RungPlays", spec := "rungPlays", inPlace := ["sync/atomic.StoreInt64", "sync/atomic.SwapInt64", "sync/atomic.LoadInt64", "sync/atomic.CompareAndSwapInt64"], apart := false }
def RungPlaysSaid : Prop := rungPlaysRow.holds Try.pinned (OpenSpec.ofChange rungPlaysSpec)

/-- ITS FALSE NEIGHBOUR: 'it returns false'. Refute it at one input. -/
def rungPlaysWrong : ChangeSpec := { name := "rungPlays", fn := fun _ => fun
  | [d1, d2] => { results := [.lit (.bool false)], args := [d1, d2] }
  | _ => none }
def RungPlaysWrongFalsely : Prop := rungPlaysRow.holds Try.pinned (OpenSpec.ofChange rungPlaysWrong)

/-- 'kissgatelaw44.SpecSays': WHATEVER THE INPUT: true; the input reads as it did. -/
def specSaysSpec : ChangeSpec := { name := "specSays", fn := fun _ => fun
  | [d1, d2, d3] => { results := [.lit (.bool true)], args := [d1, d2, d3] }
  | _ => none }
def specSaysRow : OpenClaim := { program := "ythgpjiebeinamaa", sum := "b9c6020ad5bbb48c2f2f09c613a5575fd239d6f1b456517b9c0b2d1f39fd39bd", func := "kissgate/kissgatelaw44.SpecSays", spec := "specSays", unfollowed := true, recurses := true, apart := false }
def SpecSaysSaid : Prop := specSaysRow.holds Try.pinned (OpenSpec.ofChange specSaysSpec)

/-- ITS FALSE NEIGHBOUR: 'it returns false'. Refute it at one input. -/
def specSaysWrong : ChangeSpec := { name := "specSays", fn := fun _ => fun
  | [d1, d2, d3] => { results := [.lit (.bool false)], args := [d1, d2, d3] }
  | _ => none }
def SpecSaysWrongFalsely : Prop := specSaysRow.holds Try.pinned (OpenSpec.ofChange specSaysWrong)

/-- 'kissgatelaw44.SpecGrows': WHATEVER THE INPUT: true; the input reads as it did. -/
def specGrowsSpec : ChangeSpec := { name := "specGrows", fn := fun _ => fun
  | [d1, d2, d3] => { results := [.lit (.bool true)], args := [d1, d2, d3] }
  | _ => none }
def specGrowsRow : OpenClaim := { program := "ythgpjiebeinamaa", sum := "b9c6020ad5bbb48c2f2f09c613a5575fd239d6f1b456517b9c0b2d1f39fd39bd", func := "kissgate/kissgatelaw44.SpecGrows", spec := "specGrows", unfollowed := true, recurses := true, apart := false }
def SpecGrowsSaid : Prop := specGrowsRow.holds Try.pinned (OpenSpec.ofChange specGrowsSpec)

/-- ITS FALSE NEIGHBOUR: 'it returns false'. Refute it at one input. -/
def specGrowsWrong : ChangeSpec := { name := "specGrows", fn := fun _ => fun
  | [d1, d2, d3] => { results := [.lit (.bool false)], args := [d1, d2, d3] }
  | _ => none }
def SpecGrowsWrongFalsely : Prop := specGrowsRow.holds Try.pinned (OpenSpec.ofChange specGrowsWrong)

/- THE SECOND FORM. 'bulk': how many values and letters a reading holds, each counted each time it is reached (what is shared counts as often as it is met; a slice's spare places count too). A statement '..UptoSaid' is the law's where the arguments, and the package variables that the reading takes, are together of bulk at most 1048576: NARROWER than '..Said'. Prove '..Said' where nothing that the law and all that it calls make is longer than what came in: it says more and counts as full. Else prove '..UptoSaid'. A law counts once. -/
mutual
def uptoBulk {H : Type} : DataW H → Nat
  | .lit (.string bytes) => bytes.length + 1
  | .lit _ => 1
  | .nil => 1
  | .ptr d => uptoBulk d + 1
  | .slice elems spare => uptoBulkAll elems + uptoBulkAll spare + 1
  | .agg parts => uptoBulkAll parts + 1
  | .iface _ d => uptoBulk d + 1
  | .map entries => uptoBulkEntries entries + 1
  | .held _ => 1
def uptoBulkAll {H : Type} : List (DataW H) → Nat
  | [] => 0
  | d :: r => uptoBulk d + uptoBulkAll r
def uptoBulkEntries {H : Type} : List (Lit × DataW H) → Nat
  | [] => 0
  | x :: r => uptoBulkEntry x + uptoBulkEntries r
def uptoBulkEntry {H : Type} : Lit × DataW H → Nat
  | (.string bytes, d) => bytes.length + uptoBulk d + 1
  | (_, d) => uptoBulk d + 1
 end
def uptoSmall : (H : Type) → List (DataW H) → Bool := fun _ ds => decide (uptoBulkAll ds ≤ 1048576)
def OpenSpec.upto (s : _root_.Go.ChangeSpec) : _root_.Go.OpenSpec := { _root_.Go.OpenSpec.ofChange s with cond := some uptoSmall }

/-- 'kissgatelaw26.RungGives', WHERE WHAT IT READS IS OF BULK AT MOST 1048576: true; the input reads as it did. -/
def rungGivesUptoRow : OpenClaim := { program := "ythgpjiebeinamaa", sum := "b9c6020ad5bbb48c2f2f09c613a5575fd239d6f1b456517b9c0b2d1f39fd39bd", func := "kissgate/kissgatelaw26.RungGives", spec := "rungGives", inPlace := ["sync/atomic.StoreInt64", "sync/atomic.SwapInt64", "sync/atomic.LoadInt64", "sync/atomic.CompareAndSwapInt64"], apart := false, narrowed := true }
def RungGivesUptoSaid : Prop := rungGivesUptoRow.holds Try.pinned (OpenSpec.upto rungGivesSpec)

/-- 'kissgatelaw26.RungOne', WHERE WHAT IT READS IS OF BULK AT MOST 1048576: true; the input reads as it did. -/
def rungOneUptoRow : OpenClaim := { program := "ythgpjiebeinamaa", sum := "b9c6020ad5bbb48c2f2f09c613a5575fd239d6f1b456517b9c0b2d1f39fd39bd", func := "kissgate/kissgatelaw26.RungOne", spec := "rungOne", inPlace := ["sync/atomic.StoreInt64", "sync/atomic.SwapInt64", "sync/atomic.LoadInt64", "sync/atomic.CompareAndSwapInt64"], apart := false, narrowed := true }
def RungOneUptoSaid : Prop := rungOneUptoRow.holds Try.pinned (OpenSpec.upto rungOneSpec)

/-- 'kissgatelaw26.RungPlays', WHERE WHAT IT READS IS OF BULK AT MOST 1048576: true; the input reads as it did. -/
def rungPlaysUptoRow : OpenClaim := { program := "ythgpjiebeinamaa", sum := "b9c6020ad5bbb48c2f2f09c613a5575fd239d6f1b456517b9c0b2d1f39fd39bd", func := "kissgate/kissgatelaw26.RungPlays", spec := "rungPlays", inPlace := ["sync/atomic.StoreInt64", "sync/atomic.SwapInt64", "sync/atomic.LoadInt64", "sync/atomic.CompareAndSwapInt64"], apart := false, narrowed := true }
def RungPlaysUptoSaid : Prop := rungPlaysUptoRow.holds Try.pinned (OpenSpec.upto rungPlaysSpec)

/-- 'kissgatelaw44.SpecSays', WHERE WHAT IT READS IS OF BULK AT MOST 1048576: true; the input reads as it did. -/
def specSaysUptoRow : OpenClaim := { program := "ythgpjiebeinamaa", sum := "b9c6020ad5bbb48c2f2f09c613a5575fd239d6f1b456517b9c0b2d1f39fd39bd", func := "kissgate/kissgatelaw44.SpecSays", spec := "specSays", unfollowed := true, recurses := true, apart := false, narrowed := true }
def SpecSaysUptoSaid : Prop := specSaysUptoRow.holds Try.pinned (OpenSpec.upto specSaysSpec)

/-- 'kissgatelaw44.SpecGrows', WHERE WHAT IT READS IS OF BULK AT MOST 1048576: true; the input reads as it did. -/
def specGrowsUptoRow : OpenClaim := { program := "ythgpjiebeinamaa", sum := "b9c6020ad5bbb48c2f2f09c613a5575fd239d6f1b456517b9c0b2d1f39fd39bd", func := "kissgate/kissgatelaw44.SpecGrows", spec := "specGrows", unfollowed := true, recurses := true, apart := false, narrowed := true }
def SpecGrowsUptoSaid : Prop := specGrowsUptoRow.holds Try.pinned (OpenSpec.upto specGrowsSpec)

end Rows
end Go.Proofs.Ythgpjiebeinamaa
