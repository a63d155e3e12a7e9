/- Joined texts. -/
import Derived.Test.YtglokdbiggbkjaaGreatRows
import Derived.Test.YtglokdbiggbkjaaGreatMgWorldTrace0
import Derived.Test.YtglokdbiggbkjaaGreatMgWorldTrace2
set_option linter.unusedVariables false
set_option linter.unusedSimpArgs false
set_option linter.defProp false
set_option maxRecDepth 100000
set_option maxHeartbeats 16000000
open Go.Proofs.Tryz
namespace Go.Proofs.YtglokdbiggbkjaaGreat
open Go.IntKind(i64)
open Go.Value(int bool slice agg tuple pointer)
open Go.Ending(returned)
open Go.Obj(cells)
section
open Go.RowKit
def CM(w:World)(v1 v2:Value)(a:List Ev)(h1:RdL w v1 4 encE a)(h2:RdL w v2 4 encE a):E 36 #[v1,v2] w λe w'=>e= returned (bool true)/\Qt w w':=by
  obtain⟨A1,c1,rfl,l1,m1,V⟩:=h1;obtain⟨A2,c2,rfl,l2,m2,Y⟩:=h2;go_enter func36,ntmps36;go_wp2_with fail;go_loopw [5] (λi w'=>∃k n:Nat,k<=a.length/\i= J k/\w'=w.drewN n) (λi _=>a.length-(intOf i).toNat);case atStart=>exact⟨0,0,by omega,rfl,rfl⟩
  case round=>
    obtain⟨k,n,hk,rfl,rfl⟩:=hrel;by_cases C':k<a.length
    . obtain⟨b1,o1,rfl,KI,H⟩:=V ahy;obtain⟨b2,o2,rfl,Nv,I⟩:=Y ahy;obtain⟨⟨x0,x1,x2,x3⟩,h⟩:=ai C';have p0:=H k _ h 0 _ rfl;have p1:=H k _ h 1 _ rfl;have p2:=H k _ h 2 _ rfl;have p3:=H k _ h 3 _ rfl;have O:=I k _ h 0 _ rfl;have q1:=I k _ h 1 _ rfl;have q2:=I k _ h 2 _ rfl;have q3:=I k _ h 3 _ rfl;simp only[Nat.add_zero]at p0 O;dsimp only at p0 O p1 q1 p2 q2 p3 q3;clear V Y H I h;go_wp2;go_quiet (fail);go_wp2;go_roundw;case rel=>exact⟨k+1,n+nq,by omega,by go_num,by first|rfl|rw[World.drewN_drewN]⟩
      case measure=>simp[intOf];omega
    . obtain rfl:k=a.length:=by omega
      go_wp2;go_ret;exact⟨rfl,n,rfl⟩
end
end Go.Proofs.YtglokdbiggbkjaaGreat
