/- Joined texts. -/
import Derived.Test.YtglokdbiggbkjaaGreatRows
import Derived.RegionCalls
import Derived.Laws.Strings
import Derived.WideShapes
import Derived.Test.YtglokdbiggbkjaaGreatMgBoltLoops0
import Derived.Test.YtglokdbiggbkjaaGreatMgBoltLoops2
import Derived.Test.YtglokdbiggbkjaaGreatMgBoltLoops7
set_option linter.unusedVariables false
set_option linter.unusedSimpArgs false
set_option linter.defProp false
set_option maxRecDepth 100000
set_option maxHeartbeats 16000000
open Go.Proofs.Tryz
namespace Go.Proofs.YtglokdbiggbkjaaGreat
open Go.IntKind(i64)
open Go.Value(int bool slice agg tuple pointer)
open Go.Ending(returned)
open Go.Obj(cells)
section
open Go.RowKit Go.WideShapes
def ud(w:World)(n:Int):E 43 #[J n] w λe w'=>e= returned (.string (uc n))/\Below w.heap.size w w':=by
 rcases(show n<0\/14<=n\/n=0\/n=1\/n=2\/n=3\/n=4\/n=5\/n=6\/n=7\/n=8\/n=9\/n=10\/n=11\/n=12\/n=13 by omega)with h|h|rfl|rfl|rfl|rfl|rfl|rfl|rfl|rfl|rfl|rfl|rfl|rfl|rfl|rfl
 .have e:uc n=⟨#[]⟩:=by unfold uc;rw[show n.toNat=0 by omega];rfl
  exact acD
 .have e:uc n=⟨#[]⟩:=Ez ahB;exact acD
 all_goals go_enter func43,ntmps43;go_wp2;go_ret;exact⟨rfl,(Below.refl _ _).alloc (Nat.le_refl _) _⟩
end
end Go.Proofs.YtglokdbiggbkjaaGreat
