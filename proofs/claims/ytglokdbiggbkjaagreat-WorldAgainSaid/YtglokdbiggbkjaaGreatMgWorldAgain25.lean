/- Joined texts. -/
import Derived.Test.YtglokdbiggbkjaaGreatMgWorldAgain0
import Derived.Test.YtglokdbiggbkjaaGreatMgWorldAgain7
set_option linter.unusedVariables false
set_option linter.unusedSimpArgs false
set_option linter.defProp false
set_option maxRecDepth 100000
set_option maxHeartbeats 16000000
open Go.Proofs.Tryz
namespace Go.Proofs.YtglokdbiggbkjaaGreat
open Go.IntKind(i64)
open Go.Value(int bool slice agg tuple pointer)
open Go.Ending(returned)
open Go.Obj(cells)
variable{R:Bool->World->Prop}
section
open Go Go.RowKit
section
variable{w:World}{q l:Nat}{Q:Ending->World->Prop}
def m8(I:Blk w q 273 #[J 1,.iface 274 ↑l]):E 357 #[↑q] w λe w'=>e= returned (bool true)/\w=w':=by have c0:w.cell? q=some (J 1):=I.cell 0;exact ab1
def DI(JX:Blk w q 273 #[J 1,.iface 274 ↑l])(i:Int)(p:Sp)(H:∀W,Below w.heap.size w W->E 364 #[↑l,J i] W λe w'=>e= returned (aC p)/\Below W.heap.size W w'):E 355 #[↑q,J i] w λe w'=>e= returned (aC p)/\Below w.heap.size w w':=by have h:=JX.lt;refine aiU ?_;intro b1;have h1:=JX.below b1 h;have c1:(w.alloc (cells #[J 0,J 0,J 0,J 0] 113)).cell? ⟨q,1,none⟩=some (.iface 274 ↑l):=h1.cell 1;have HM:=qh (m8 h1);exact ab2
def DL(I:Blk w q 273 #[J 1,.iface 274 ↑l])(i:Int)(hD:E 365 #[↑l,J i] w (BR R)):E 356 #[↑q,J i] w (BR R):=by have HM:=qh (m8 I);have c1:Z w q 1 (.iface 274 ↑l):=I.cell 1;exact ab3
def AR(I:Blk w q 273 #[J 1,.iface 274 ↑l])(i:Int)(hD:E 362 #[↑l,J i] w (BR R)):E 353 #[↑q,J i] w (BR R):=by have HM:=qh (m8 I);have c1:Z w q 1 (.iface 274 ↑l):=I.cell 1;exact ab4
def FH(I:Blk w q 273 #[J 1,.iface 274 ↑l])(i:Int)(r:Bool)(hD:E 361 #[↑l,J i,.bool r] w (BR R)):E 352 #[↑q,J i,.bool r] w (BR R):=by have HM:=qh (m8 I);have c1:Z w q 1 (.iface 274 ↑l):=I.cell 1;exact ab5
def m9(I:Blk w q 273 #[J 2,.iface 277 ↑l]):E 357 #[↑q] w λe w'=>e= returned (bool true)/\w=w':=by have c0:w.cell? q=some (J 2):=I.cell 0;exact ab1
def DJ(JX:Blk w q 273 #[J 2,.iface 277 ↑l])(i:Int)(p:Sp)(H:∀W,Below w.heap.size w W->E 388 #[↑l,J i] W λe w'=>e= returned (aC p)/\Below W.heap.size W w'):E 355 #[↑q,J i] w λe w'=>e= returned (aC p)/\Below w.heap.size w w':=by have h:=JX.lt;refine aiU ?_;intro b1;have h1:=JX.below b1 h;have c1:(w.alloc (cells #[J 0,J 0,J 0,J 0] 113)).cell? ⟨q,1,none⟩=some (.iface 277 ↑l):=h1.cell 1;have HM:=qh (m9 h1);exact ab2
def DM(I:Blk w q 273 #[J 2,.iface 277 ↑l])(i:Int)(hD:E 389 #[↑l,J i] w (BR R)):E 356 #[↑q,J i] w (BR R):=by have HM:=qh (m9 I);have c1:Z w q 1 (.iface 277 ↑l):=I.cell 1;exact ab3
def AX(I:Blk w q 273 #[J 2,.iface 277 ↑l])(i:Int)(hD:E 386 #[↑l,J i] w (BR R)):E 353 #[↑q,J i] w (BR R):=by have HM:=qh (m9 I);have c1:Z w q 1 (.iface 277 ↑l):=I.cell 1;exact ab4
def FI(I:Blk w q 273 #[J 2,.iface 277 ↑l])(i:Int)(r:Bool)(hD:E 385 #[↑l,J i,.bool r] w (BR R)):E 352 #[↑q,J i,.bool r] w (BR R):=by have HM:=qh (m9 I);have c1:Z w q 1 (.iface 277 ↑l):=I.cell 1;exact ab5
def nh(I:Blk w q 273 #[J 3,.iface 280 ↑l]):E 357 #[↑q] w λe w'=>e= returned (bool true)/\w=w':=by have c0:w.cell? q=some (J 3):=I.cell 0;exact ab1
def DK(JX:Blk w q 273 #[J 3,.iface 280 ↑l])(i:Int)(p:Sp)(H:∀W,Below w.heap.size w W->E 399 #[↑l,J i] W λe w'=>e= returned (aC p)/\Below W.heap.size W w'):E 355 #[↑q,J i] w λe w'=>e= returned (aC p)/\Below w.heap.size w w':=by have h:=JX.lt;refine aiU ?_;intro b1;have h1:=JX.below b1 h;have c1:(w.alloc (cells #[J 0,J 0,J 0,J 0] 113)).cell? ⟨q,1,none⟩=some (.iface 280 ↑l):=h1.cell 1;have HM:=qh (nh h1);exact ab2
def DN(I:Blk w q 273 #[J 3,.iface 280 ↑l])(i:Int)(hD:E 400 #[↑l,J i] w (BR R)):E 356 #[↑q,J i] w (BR R):=by have HM:=qh (nh I);have c1:Z w q 1 (.iface 280 ↑l):=I.cell 1;exact ab3
def AY(I:Blk w q 273 #[J 3,.iface 280 ↑l])(i:Int)(hD:E 397 #[↑l,J i] w (BR R)):E 353 #[↑q,J i] w (BR R):=by have HM:=qh (nh I);have c1:Z w q 1 (.iface 280 ↑l):=I.cell 1;exact ab4
def FJ(I:Blk w q 273 #[J 3,.iface 280 ↑l])(i:Int)(r:Bool)(hD:E 396 #[↑l,J i,.bool r] w (BR R)):E 352 #[↑q,J i,.bool r] w (BR R):=by have HM:=qh (nh I);have c1:Z w q 1 (.iface 280 ↑l):=I.cell 1;exact ab5
end
end
end Go.Proofs.YtglokdbiggbkjaaGreat
