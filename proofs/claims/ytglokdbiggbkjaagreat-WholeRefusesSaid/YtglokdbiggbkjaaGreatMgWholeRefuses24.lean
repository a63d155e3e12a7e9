/- Joined texts. -/
import Derived.Test.YtglokdbiggbkjaaGreatRows
import Derived.RegionCalls
import Derived.Laws.Strings
import Derived.WideShapes
import Derived.Test.YtglokdbiggbkjaaGreatMgWholeRefuses0
import Derived.Test.YtglokdbiggbkjaaGreatMgWholeRefuses1
import Derived.Test.YtglokdbiggbkjaaGreatMgWholeRefuses7
set_option linter.unusedVariables false
set_option linter.unusedSimpArgs false
set_option linter.defProp false
set_option maxRecDepth 100000
set_option maxHeartbeats 16000000
open Go.Proofs.Tryz
namespace Go.Proofs.YtglokdbiggbkjaaGreat
open Go.IntKind(i64)
open Go.Value(int bool slice agg tuple pointer)
open Go.Ending(returned)
open Go.Obj(cells)
section
open Go.RowKit Go.WideShapes
def ov(w:World)(n:Int):E 43 #[J n] w λe w'=>e= returned (.string (jH n))/\Below w.heap.size w w':=by
 rcases(show n<0\/14<=n\/n=0\/n=1\/n=2\/n=3\/n=4\/n=5\/n=6\/n=7\/n=8\/n=9\/n=10\/n=11\/n=12\/n=13 by omega)with h|h|rfl|rfl|rfl|rfl|rfl|rfl|rfl|rfl|rfl|rfl|rfl|rfl|rfl|rfl
 .have e:jH n=⟨#[]⟩:=by unfold jH;rw[show n.toNat=0 by omega];rfl
  exact acC
 .have e:jH n=⟨#[]⟩:=wS ahE;exact acC
 all_goals go_enter func43,ntmps43;go_wp2;go_ret;exact⟨rfl,(Below.refl _ _).alloc (Nat.le_refl _) _⟩
end
section
open Go.RowKit
def mA(w:World)(v1 v2:Value)(a b:List (Int))(h1:RdL w v1 1 encI a)(h2:RdL w v2 1 encI b):E 27 #[v1,v2] w λe w'=>e= returned (bool (decide (a=b)))/\Qt w w':=by
  obtain⟨A1,c1,rfl,l1,m1,r1⟩:=h1;obtain⟨A2,c2,rfl,l2,m2,r2⟩:=h2;by_cases O:a.length=b.length
  . have ab:((a.length:Int)==(b.length:Int))=true:=(by rw[beq_iff_eq];omega);have N5:((a.length:Int) !=(b.length:Int))=false:=(by rw[bne_eq_false_iff_eq];omega);have H:=qh O;clear O;go_enter func27,ntmps27;go_wp2_with fail;go_loopw [5] (λi w'=>∃k n:Nat,k<=a.length/\i= J k/\w'=w.drewN n/\a.take k=b.take k) (λi _=>a.length-(intOf i).toNat);case atStart=>exact⟨0,0,by omega,rfl,rfl,rfl⟩
    case round=>
      obtain⟨k,n,hk,rfl,rfl,U0⟩:=hrel;have HA:=qh U0;clear U0;by_cases I':k<a.length
      . have Te:k<b.length:=(by have:=H.o;omega);obtain⟨b1,o1,rfl,JY,Lc⟩:=r1 ahE;obtain⟨b2,o2,rfl,Ma,Lt⟩:=r2 ahE;obtain⟨x0,Y⟩:=ak I';obtain⟨y0,hy⟩:=ak Te;have p0:=Lc k _ Y 0 _ rfl;have q0:=Lt k _ hy 0 _ rfl;simp only[Nat.add_zero,Nat.mul_one]at p0 q0;have HX:=qh Y;have HY:=qh hy;clear r1 r2 Lc Lt Y hy;by_cases V:x0=y0
        . subst V;go_wp2;go_quiet (fail);go_wp2;go_roundw;case rel=>exact⟨k+1,n+nq,by omega,by go_num,by first|rfl|rw[World.drewN_drewN],by rw[cj HX.o,cj HY.o,HA.o]⟩
          case measure=>simp[intOf];omega
        . have I:(x0==y0)=false:=(by simpa using V);have HE:=qh V;go_wp2;go_quiet (fail);go_wp2;go_ret;refine⟨aA (Eq.symm (decide_eq_false λe=>HE.o ?_)),n+nq,by first|rfl|rw[World.drewN_drewN]⟩;have h:=HX.o;rw[e,HY.o]at h;exact(Option.some.inj h).symm
      . obtain rfl:k=a.length:=by omega
        go_wp2;go_ret;exact⟨aA (Eq.symm (decide_eq_true (uy H.o HA.o))),n,rfl⟩
  . have ab:((a.length:Int)==(b.length:Int))=false:=(by rw[beq_eq_false_iff_ne];omega);have N5:((a.length:Int) !=(b.length:Int))=true:=(by rw[bne_iff_ne];omega);have H:=qh O;clear O r1 r2;go_enter func27,ntmps27;go_wp2;go_ret;exact⟨aA (Eq.symm (decide_eq_false λe=>H.o (by rw[e]))),Qt.refl w⟩
end
end Go.Proofs.YtglokdbiggbkjaaGreat
