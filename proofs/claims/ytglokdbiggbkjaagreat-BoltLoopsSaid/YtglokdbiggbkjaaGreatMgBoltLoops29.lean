/- Joined texts. -/
import Derived.Test.YtglokdbiggbkjaaGreatMgBoltLoops0
import Derived.Test.YtglokdbiggbkjaaGreatMgBoltLoops11
set_option linter.unusedVariables false
set_option linter.unusedSimpArgs false
set_option linter.defProp false
set_option maxRecDepth 100000
set_option maxHeartbeats 16000000
open Go.Proofs.Tryz
namespace Go.Proofs.YtglokdbiggbkjaaGreat
open Go.IntKind(i64)
open Go.Value(int bool slice agg tuple pointer)
open Go.Ending(returned)
open Go.Obj(cells)
variable{R:Bool->World->Prop}
section
open Go Go.RowKit
section
variable{w:World}{q l:Nat}{Q:Ending->World->Prop}
def nw(hb:Blk w q 273 #[J 1,.iface 274 ↑l]):E 357 #[↑q] w λe w'=>e= returned (bool true)/\w=w':=by have c0:w.cell? q=some (J 1):=hb.cell 0;exact ab6
def DT(Kk:Blk w q 273 #[J 1,.iface 274 ↑l])(i:Int)(p:Sp)(H:∀W,Below w.heap.size w W->E 364 #[↑l,J i] W λe w'=>e= returned (aF p)/\Below W.heap.size W w'):E 355 #[↑q,J i] w λe w'=>e= returned (aF p)/\Below w.heap.size w w':=by have h:=Kk.lt;refine ai7 ?_;intro b1;have h1:=Kk.below b1 h;have c1:(w.alloc (cells #[J 0,J 0,J 0,J 0] 113)).cell? ⟨q,1,none⟩=some (.iface 274 ↑l):=h1.cell 1;have HM:=qh (nw h1);exact ab7
def DW(hb:Blk w q 273 #[J 1,.iface 274 ↑l])(i:Int)(hD:E 365 #[↑l,J i] w (BR R)):E 356 #[↑q,J i] w (BR R):=by refine akn ?_;intro HM c1;exact ab8
def Bo(hb:Blk w q 273 #[J 1,.iface 274 ↑l])(i:Int)(hD:E 362 #[↑l,J i] w (BR R)):E 353 #[↑q,J i] w (BR R):=by refine akn ?_;intro HM c1;exact ab9
def F2(hb:Blk w q 273 #[J 1,.iface 274 ↑l])(i:Int)(r:Bool)(hD:E 361 #[↑l,J i,.bool r] w (BR R)):E 352 #[↑q,J i,.bool r] w (BR R):=by refine akn ?_;intro HM c1;exact aca
def ny(hb:Blk w q 273 #[J 2,.iface 277 ↑l]):E 357 #[↑q] w λe w'=>e= returned (bool true)/\w=w':=by have c0:w.cell? q=some (J 2):=hb.cell 0;exact ab6
def DU(Kk:Blk w q 273 #[J 2,.iface 277 ↑l])(i:Int)(p:Sp)(H:∀W,Below w.heap.size w W->E 388 #[↑l,J i] W λe w'=>e= returned (aF p)/\Below W.heap.size W w'):E 355 #[↑q,J i] w λe w'=>e= returned (aF p)/\Below w.heap.size w w':=by have h:=Kk.lt;refine ai7 ?_;intro b1;have h1:=Kk.below b1 h;have c1:(w.alloc (cells #[J 0,J 0,J 0,J 0] 113)).cell? ⟨q,1,none⟩=some (.iface 277 ↑l):=h1.cell 1;have HM:=qh (ny h1);exact ab7
def DX(hb:Blk w q 273 #[J 2,.iface 277 ↑l])(i:Int)(hD:E 389 #[↑l,J i] w (BR R)):E 356 #[↑q,J i] w (BR R):=by refine ako ?_;intro HM c1;exact ab8
def Bp(hb:Blk w q 273 #[J 2,.iface 277 ↑l])(i:Int)(hD:E 386 #[↑l,J i] w (BR R)):E 353 #[↑q,J i] w (BR R):=by refine ako ?_;intro HM c1;exact ab9
def F3(hb:Blk w q 273 #[J 2,.iface 277 ↑l])(i:Int)(r:Bool)(hD:E 385 #[↑l,J i,.bool r] w (BR R)):E 352 #[↑q,J i,.bool r] w (BR R):=by refine ako ?_;intro HM c1;exact aca
def nz(hb:Blk w q 273 #[J 3,.iface 280 ↑l]):E 357 #[↑q] w λe w'=>e= returned (bool true)/\w=w':=by have c0:w.cell? q=some (J 3):=hb.cell 0;exact ab6
def DV(Kk:Blk w q 273 #[J 3,.iface 280 ↑l])(i:Int)(p:Sp)(H:∀W,Below w.heap.size w W->E 399 #[↑l,J i] W λe w'=>e= returned (aF p)/\Below W.heap.size W w'):E 355 #[↑q,J i] w λe w'=>e= returned (aF p)/\Below w.heap.size w w':=by have h:=Kk.lt;refine ai7 ?_;intro b1;have h1:=Kk.below b1 h;have c1:(w.alloc (cells #[J 0,J 0,J 0,J 0] 113)).cell? ⟨q,1,none⟩=some (.iface 280 ↑l):=h1.cell 1;have HM:=qh (nz h1);exact ab7
def DY(hb:Blk w q 273 #[J 3,.iface 280 ↑l])(i:Int)(hD:E 400 #[↑l,J i] w (BR R)):E 356 #[↑q,J i] w (BR R):=by refine akp ?_;intro HM c1;exact ab8
def Bq(hb:Blk w q 273 #[J 3,.iface 280 ↑l])(i:Int)(hD:E 397 #[↑l,J i] w (BR R)):E 353 #[↑q,J i] w (BR R):=by refine akp ?_;intro HM c1;exact ab9
def F4(hb:Blk w q 273 #[J 3,.iface 280 ↑l])(i:Int)(r:Bool)(hD:E 396 #[↑l,J i,.bool r] w (BR R)):E 352 #[↑q,J i,.bool r] w (BR R):=by refine akp ?_;intro HM c1;exact aca
end
end
end Go.Proofs.YtglokdbiggbkjaaGreat
