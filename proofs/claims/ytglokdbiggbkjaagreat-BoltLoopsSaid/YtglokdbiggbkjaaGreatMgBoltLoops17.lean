/- Joined texts. -/
import Derived.Deep.RegionLaw
import Derived.Test.YtglokdbiggbkjaaGreatMgBoltLoops0
import Derived.Test.YtglokdbiggbkjaaGreatMgBoltLoops2
import Derived.Test.YtglokdbiggbkjaaGreatMgBoltLoops3
import Derived.Test.YtglokdbiggbkjaaGreatMgBoltLoops9
import Derived.Test.YtglokdbiggbkjaaGreatMgBoltLoops16
set_option linter.unusedVariables false
set_option linter.unusedSimpArgs false
set_option linter.defProp false
set_option maxRecDepth 100000
set_option maxHeartbeats 16000000
open Go.Proofs.Tryz
namespace Go.Proofs.YtglokdbiggbkjaaGreat
open Go.IntKind(i64)
open Go.Value(int bool slice agg tuple pointer)
open Go.Ending(returned)
open Go.Obj(cells)
section
open Go.RowKit
variable{w w':World}
def gx(P T:List Int)(n:Nat):Nat:=(fQ (ac P) (T.getD n 0)).toNat
def aa.cellQ{S:List Nat}(k:aa S w w'){p:Addr}{u:Value}(h:w.cell? p=some u)(hS:p.block∉S):w'.cell? p=some u:=by exact aa6
def aa.grownByQ{row:Option Nat}(h:w.grownBy w' row):aa row.toList w w':=
 ⟨h.os,h.tape,h.output,h.size,λi hi hn=>h.block i hi aih⟩
def rL(u:Value)(n:Nat):(madeCells #[u,u,u,u] n).toList=List.replicate n u:=by exact aaA
def wC(n:Nat):(List.replicate n Sp.zero).flatMap bi=List.replicate (n*4) (J 0):=by exact aaB
theorem Tryz.infoNd:(prog.info? 243).map (λi=>(i.zero,i.size,i.bytes))=some (some (agg #[.pointer none,J 0]),2,16):=by kernel_rfl
def qx(B:Nat->Prop)(w:World)(b:Nat)(P T:List Int)(hc:a5 P T=0)(h:ip B w b P T):E 137 #[↑b] w λe w'=>e= returned (J ((ac P).length:Nat))/\eX (λi=>B i\/w.heap.size<=i) w' b P T/\aa [b] w w':=
  wt w b P T (λw'=>eX (λi=>B i\/w.heap.size<=i) w' b P T/\aa [b] w w') (λ_ h=>h.1.f) (jq B w b P T hc h)
def lH(w:World)(b:Nat)(P T:List Int)(h:iK w b P T):E 137 #[↑b] w λe w'=>e= returned (J ((ac P).length:Nat))/\w=w':=
  wt w b P T (λw'=>w=w') (λ_ e=>e ▸ h) (fe w b P T h)
def coC(a b:Nat)(G L par bud:Int)(gp nd sp:Value):Array Value:=#[↑a,↑b,J G,J L,J par,J bud,gp,nd,sp]
end
end Go.Proofs.YtglokdbiggbkjaaGreat
