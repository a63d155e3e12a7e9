/- Joined texts. -/
import Derived.RowKit
import Derived.Test.YtglokdbiggbkjaaGreatRows
import Derived.Test.YtglokdbiggbkjaaGreatMgWholeRefuses0
import Derived.Test.YtglokdbiggbkjaaGreatMgWholeRefuses1
import Derived.Test.YtglokdbiggbkjaaGreatMgWholeRefuses3
set_option linter.unusedVariables false
set_option linter.unusedSimpArgs false
set_option linter.defProp false
set_option maxRecDepth 100000
set_option maxHeartbeats 16000000
open Go.Proofs.Tryz
namespace Go.Proofs.YtglokdbiggbkjaaGreat
open Go.IntKind(i64)
open Go.Value(int bool slice agg tuple pointer)
open Go.Ending(returned)
open Go.Obj(cells)
variable{v K j k a b c g:Nat}{bud:Int}{hb O':Nat->Nat->Option Nat}{w w':World}
section
open Go Go.RowKit
def nxA(t x:Int):Int:=wrap64 (wrap64 (t+wrap64 (2*x))-1)
def stA(t x:Int):Int:=wrap64 (t+wrap64 (2*x))
def iN(s:Ar)(t x:Int)(p:Sp):Ar×Sp:=
 if p.pc=1 then(ae s (nxA t x) 0,{p with pc:=2})
 else if p.pc=2 then(ae s (stA t x) 0,{p with pc:=3})
 else if p.pc=3 then(ch s t x,{p with a:=ldW s.W t,pc:=if ldW s.W t=0 then 6 else 4})
 else if p.pc=4 then(ae s (nxA t p.a) x,{p with pc:=5})
 else if p.pc=5 then(af s (stA t x),if 0<ldW s.W (stA t x)then {p with a:=ldW s.W (stA t x),b:=0,pc:=10} else if ldW s.W (stA t x)<0 then {p with a:=ldW s.W (stA t x),pc:=6} else {p with a:=ldW s.W (stA t x),pc:=5})
 else(ae s (stA t x) 1,{p with a:=1,b:=1,pc:=10})
def eB(s:Ar)(t x:Int)(p:Sp):Ar×Sp:=
 if p.pc=12 then(dR s t x 0,{p with pc:=if cG s t x then 0 else 13})
 else if p.pc=14 then(ae s (stA t p.a) p.c,{p with pc:=0})
 else if p.pc=15 then(af s (nxA t x),{p with b:=ldW s.W (nxA t x),pc:=if ldW s.W (nxA t x)=0 then 10 else 16})
 else if p.pc=16 then(ae s (stA t p.b) p.c,{p with pc:=0})
 else(af s (nxA t x),{p with a:=ldW s.W (nxA t x),pc:=if ldW s.W (nxA t x)≠0 then 14 else if p.pc=11 then 12 else 13})
def da(s:Ar)(t x:Int)(p:Sp):Ar×Sp:=if p.pc<10 then iN s t x p else eB s t x p
end
section
open Go
variable{ar:Ar}{p:Sp}{r:Ar×Sp}
def rN(W:List Int)(x:Int):Int:=if 1<=x then ldW W (2*x)else 0
def rS(W:List Int)(x:Int):Int:=if 1<=x then ldW W (2*x+1)else 0
abbrev F4(S:Int->Int)(σ:Nat->Sp):Nat->Prop:=i6 6 (λv=>v≠0) S σ
structure RtI(n:Nat)(t:Int)(N S:Int->Int)(σ:Nat->Sp):Prop where
 tk:ja n (F4 S σ) (t=0)
 vt:0<=t/\t<=n
 pcs:∀i,i<n->(0<=(σ i).pc/\(σ i).pc<=6)\/(10<=(σ i).pc/\(σ i).pc<=16)
 z:∀i,i<n->(σ i).pc=3\/(σ i).pc=4->S (numT i)=0
 n2:∀i,i<n->(σ i).pc=2\/(σ i).pc=3->N (numT i)=0
 tl:∀i,i<n->t=numT i->4<=(σ i).pc/\N t=0
 l:∀i,i<n->(σ i).pc=4->(1<=(σ i).a/\(σ i).a<=n)/\t≠(σ i).a/\N (σ i).a=0/\∀j,j<n->numT j=(σ i).a->4<=(σ j).pc/\j≠i
 u4:∀i j,i<n->j<n->(σ i).pc=4->(σ j).pc=4->(σ i).a=(σ j).a->i=j
 nx:∀j,j<n->4<=(σ j).pc->N (numT j)≠0->(1<=N (numT j)/\N (numT j)<=n)/\∀i,i<n->numT i=N (numT j)->(σ i).pc=5/\S (numT i)=0
 u:∀j k,j<n->k<n->4<=(σ j).pc->4<=(σ k).pc->N (numT j)≠0->N (numT j)=N (numT k)->j=k
 s14:∀i,i<n->(σ i).pc=14->N (numT i)=(σ i).a/\(σ i).a≠0
 s16:∀i,i<n->(σ i).pc=16->N (numT i)=(σ i).b/\(σ i).b≠0
structure RtS(n:Nat)(W:List Int)(S:List Sp):Prop where
 i:RtI n (ldW W 1) (rN W) (rS W) (sv S)
 len:S.length=n
 wln:W.length=2*n+1
section
variable{n:Nat}{W:List Int}
def qO{m:Nat}(wl:W.length=m)(a v b:Int):ldW (stW W a v) b=if b=a/\1<=a/\a<=m then v else ldW W b:=by exact abj
theorem tx(wl:W.length=2*n+1)(x v:Int)(h1:1<=x)(h:x<=n):ldW (stW W (2*x) v) 1=ldW W 1/\rN (stW W (2*x) v)=updF (rN W) x v/\rS (stW W (2*x) v)=rS W:=by exact abq
theorem p5(wl:W.length=2*n+1)(x v:Int)(h1:1<=x)(h:x<=n):ldW (stW W (2*x+1) v) 1=ldW W 1/\rN (stW W (2*x+1) v)=rN W/\rS (stW W (2*x+1) v)=updF (rS W) x v:=by exact abq
theorem wY(wl:W.length=2*n+1)(v:Int):ldW (stW W 1 v) 1=v/\rN (stW W 1 v)=rN W/\rS (stW W 1 v)=rS W:=by simp only[funext_iff,rN,rS,qO wl];exact aaY
end
def BJ(j:Nat):1<=numT j:=by unfold numT;omega
theorem RtS.go{n i:Nat}{S:List Sp}(k:RtS n ar.W S)(hn:n<=32)(hi:i<n)(hp:p=sv S i)(h0:¬(p.pc=0\/p.pc=10))(V:r=da ar 1 (numT i) p):RtS n r.1.W (S.set i r.2):=by
 have hs:∀q,sv (S.set i q)=λj=>if j=i then q else sv S j:=λq=>by funext j;rw[ba];grind [k.len]
 refine ajG ?_;intro lN lS LD inj;have LN:=BJ;obtain⟨⟨tk,vt,pcs,z,n2,tl,l,u4,nx,u,s14,s16⟩,len,wln⟩:=k;have J9:1<=numT i/\numT i<=n:=by unfold numT;omega
 have hA:∀x:Int,1<=x->x<=n->nxA 1 x=2*x/\stA 1 x=2*x+1:=λx h1 h2=>by unfold nxA stA RowKit.wrap64;omega
 have h2:=pcs i hi;have Y:=l i hi;have Lf:=s14 i hi;have L9:=s16 i hi;have O:=nx i hi;rw[<-hp]at h2 Y Lf L9 O;obtain⟨pc,a,b,c⟩:=p;simp only at h0 h2 Y Lf L9 O;have hc:pc=1\/pc=2\/pc=3\/pc=4\/pc=5\/pc=6\/pc=11\/pc=12\/pc=13\/pc=14\/pc=15\/pc=16:=by omega
 rcases hc with rfl|rfl|rfl|rfl|rfl|rfl|rfl|rfl|rfl|rfl|rfl|rfl
 all_goals simp[da,iN,eB,hA (numT i) J9.1 J9.2,LD,lN (numT i) J9.1,lS (numT i) J9.1]at V;repeat' split at V
 all_goals
  try rw[(hA a ahE ahE).1]at V
  try rw[(hA a ahE ahE).2]at V
  try rw[(hA b ahE ahE).2]at V
  subst V;refine⟨?_,by simp[len],?_⟩
 all_goals try simp only[aw,aP,dK,gL]
 all_goals try simp only[LD,decide_eq_true_eq]
 all_goals try first|rw[if_pos ahW]|rw[if_neg ahW]
 all_goals try first|(simp only[bI,wln];done)
 all_goals rw[hs]
 all_goals try first
  |rw[(tx wln _ _ ahE ahE).1,(tx wln _ _ ahE ahE).2.1,(tx wln _ _ ahE ahE).2.2]
  |rw[(p5 wln _ _ ahE ahE).1,(p5 wln _ _ ahE ahE).2.1,(p5 wln _ _ ahE ahE).2.2]
  |rw[(wY wln _).1,(wY wln _).2.1,(wY wln _).2.2]
 all_goals have Nf:=congrArg Sp.pc hp.symm;have Oa:=congrArg Sp.a hp.symm;dsimp only at Nf Oa;clear hs lN lS LD hp wln len hA hn;generalize P9:(λj=>if j=i then _ else sv S j)=σ';have H:=λj=>(congrFun P9 j).symm;clear P9;generalize sv S=σ at *;generalize ldW ar.W 1=t at *;generalize rN ar.W=N at *;generalize rS ar.W=G at *;have hx:∀x:Int,1<=x->x<=n->∃j,j<n/\numT j=x:=λx h1 h2=>⟨(x-1).toNat,by omega,by unfold numT;omega⟩
 all_goals
  refine⟨?_,by omega,λj I=>?_,λj I=>?_,λj I=>?_,λj I=>?_,λj I=>?_,λj k I hk=>?_,λj I=>?_,λj k I hk=>?_,λj I=>?_,λj I=>?_⟩;.first|exact tk.own hi H ahE aim air|exact tk.o hi H ahE ahG ahS ait|exact tk.low hi H aiM ahG aim|exact tk.door hi H ahE ahS ahE|exact tk.ent hi H ahE (show G (numT i)≠0 by omega)
  .have e:=H j;have:=pcs j I;clear tk vt pcs z n2 tl l u4 nx u s14 s16 h2 Y Lf L9 O inj LN hx H;grind
  .have e:=H j;have:=z j I;have h1:=λa b=>(O a b).2 j I;have h3:=inj j i;clear tk vt pcs z n2 tl l u4 nx u s14 s16 h2 Y O inj LN hx H;exact abr
  .have e:=H j;have:=n2 j I;have h3:=inj j i;have h1:=λh=>(Y h).2.2.2 j I;clear tk vt pcs z n2 tl l u4 nx u s14 s16 h2 Y Lf L9 O inj LN hx H;exact abr
  .have e:=H j;have h1:=tl j I;have hq:=LN j;have h3:=inj j i;have h5:=n2 i hi;clear tk vt pcs z n2 tl l u4 nx u s14 s16 h2 O inj LN hx H;exact abr
  .have e:=H j;have h1:=l j I;have h5:=n2 i hi;have h7:=tl i hi;have h8:=u4 j i I hi;intro q;have hl:∀k,k<n->numT k=(σ' j).a->4<=(σ' k).pc/\k≠j:=(by intro k hk h;have ek:=H k;have h9:=λa=>(h1 a).2.2.2 k hk;have h10:=tl k hk;clear u4 nx u s14 s16 pcs z O n2 tk H tl l hx inj;grind);refine⟨?_,?_,?_,hl⟩;all_goals clear u4 nx u s14 s16 pcs z O n2 tk H l hl inj;grind [updF]
  .have e:=H j;have ek:=H k;have h1:=u4 j k I hk;have h2:=l j I;have h3:=l k hk;clear tk vt pcs z n2 tl l u4 nx u s14 s16 Y Lf L9 O inj LN hx H;grind
  .have e:=H j;have h1:=nx j I;have h5:=n2 i hi;have h6:=inj j i;have h7:=u j i I hi;have h8:=z i hi;clear u4 nx u s14 s16 pcs z n2 tk tl l;exact abr
  .have e:=H j;have ek:=H k;have h1:=u j k I hk;have h5:=n2 i hi;have h6:=inj j i;have h7:=inj k i;have h8:=inj j k;have h9:=λa b=>(nx j I a b).2 i hi;have h10:=λa b=>(nx k hk a b).2 i hi;clear u4 nx u s14 s16 pcs z n2 tk tl l H O inj hx Y Lf L9;first|grind [updF]|(intros;simp only[updF]at *;grind)
  .have e:=H j;have h1:=s14 j I;have h3:=inj j i;have h5:=λh=>(Y h).2.2.1;clear tk vt pcs z n2 tl l u4 nx u s14 s16 h2 Y L9 O inj LN hx H;exact abr
  .have e:=H j;have h1:=s16 j I;have h3:=inj j i;have h5:=λh=>(Y h).2.2.1;clear tk vt pcs z n2 tl l u4 nx u s14 s16 h2 Y Lf O inj LN hx H;exact abr
theorem RtS.beg{n i:Nat}{W:List Int}{S:List Sp}(k:RtS n W S)(hi:i<n){p':Sp}(hp:((sv S i).pc=10/\(p'.pc=11\/p'.pc=15))\/((sv S i).pc=0/\p'.pc=1)):RtS n W (S.set i p'):=by
 obtain⟨⟨tk,vt,pcs,z,n2,tl,l,u4,nx,u,s14,s16⟩,len,wln⟩:=k;refine⟨?_,by simp[len],wln⟩;have he:∀j,sv (S.set i p') j=if j=i then p' else sv S j:=λj=>by rw[ba];grind
 generalize sv (S.set i p')=σ' at *;generalize sv S=σ at *;refine⟨?_,vt,?_,?_,?_,?_,?_,?_,?_,?_,?_,?_⟩;.exact aaZ
 .intro j H;have e:=he j;have q:=pcs j H;clear tk pcs z n2 tl l u4 nx u s14 s16 he;grind
 .intro j H;have e:=he j;have q:=z j H;clear tk pcs z n2 tl l u4 nx u s14 s16 he;grind
 .intro j H;have e:=he j;have q:=n2 j H;clear tk pcs z n2 tl l u4 nx u s14 s16 he;grind
 .intro j H;have e:=he j;have q:=tl j H;clear tk pcs z n2 tl l u4 nx u s14 s16 he;grind
 .intro j H Y;have e:=he j;have LR:j≠i:=λh=>by rw[if_pos h]at e;rw[e]at Y;omega
  rw[if_neg LR]at e;obtain⟨q1,q2,q3,q4⟩:=l j H (by rw[<-e];exact Y);rw[e];refine⟨q1,q2,q3,λk I O=>?_⟩;have:=q4 k I O;have:=he k;exact abs
 .intro j k H I;have e:=he j;have e2:=he k;have q:=u4 j k H I;clear tk pcs z n2 tl l u4 nx u s14 s16 he;grind
 .intro j H Y h5;have e:=he j;have h6:4<=(σ j).pc:=by clear tk pcs z n2 tl l u4 nx u s14 s16 he;grind
  have:=nx j H h6 h5;refine⟨this.1,λk I O=>?_⟩;have q:=this.2 k I O;have:=he k;exact abs
 .intro j k H I h1 h2;have e:=he j;have e2:=he k;have q:=u j k H I;exact abs
 .intro j H;have e:=he j;have q:=s14 j H;clear tk pcs z n2 tl l u4 nx u s14 s16 he;grind
 .intro j H;have e:=he j;have q:=s16 j H;clear tk pcs z n2 tl l u4 nx u s14 s16 he;grind
theorem RtS.reach{n i:Nat}{W:List Int}{S:List Sp}(k:RtS n W S)(hi:i<n):((sv S i).pc=4\/(sv S i).pc=14->1<=(sv S i).a/\(sv S i).a<=n)/\((sv S i).pc=16->1<=(sv S i).b/\(sv S i).b<=n):=by have h1:=k.i.l i hi;have h:=k.i.s14 i hi;have H:=k.i.s16 i hi;have I:=k.i.nx i hi;grind
inductive RC(n:Nat)(W W':List Int)(S:List Sp)(i:Nat)(p p':Sp):Prop where
 |come (h:(1<=p.pc/\p.pc<=6)/\(1<=p'.pc/\p'.pc<=6)/\(p'.pc=5->rS W' (numT i)=0)/\¬(p.pc=5/\0<rS W (numT i)))
 |told (h:p.pc=5/\p'.pc=10/\0<rS W (numT i)/\p'.a=rS W (numT i)/\p'.b=0)
 |hold (h:p.pc=6/\p'.pc=10/\p'.a=1/\p'.b=1)
 |o (h:(11<=p.pc/\p.pc<=13)/\(12<=p'.pc/\p'.pc<=14)/\p'.c=p.c)
 |free (h:p.pc=12/\p'.pc=0)
 |give (s:Nat) (h:(p.pc=14\/p.pc=16)/\p'.pc=0/\(s<n/\s≠i)/\(sv S s).pc=5/\rS W (numT s)=0/\rS W' (numT s)=p.c/\∀j,j≠s->rS W' (numT j)=rS W (numT j))
 |look (h:p.pc=15/\(p'.pc=10\/p'.pc=16)/\p'.a=p.a/\p'.c=p.c)
def RtS.case{n i:Nat}{S:List Sp}(k:RtS n ar.W S)(hn:n<=32)(hi:i<n)(hp:p=sv S i)(h0:¬(p.pc=0\/p.pc=10))(V:r=da ar 1 (numT i) p):RC n ar.W r.1.W S i p r.2/\(¬(p.pc=14\/p.pc=16)->∀j,j≠i->rS r.1.W (numT j)=rS ar.W (numT j)):=by
  refine ajG ?_;intro lN lS LD inj;have Y:1<=numT i/\numT i<=n:=by unfold numT;omega
  have hA:∀x:Int,1<=x->x<=n->nxA 1 x=2*x/\stA 1 x=2*x+1:=λx h1 H=>by unfold nxA stA RowKit.wrap64;omega
  have wln:=k.wln;have NG:=k.reach hi;have hz:=k.i.z i hi;have Lf:=k.i.s14 i hi;have L9:=k.i.s16 i hi;have JG:=k.i.nx i hi;have H:=k.i.pcs i hi;rw[<-hp]at NG hz Lf L9 JG H;have Nf:=congrArg Sp.pc hp.symm;obtain⟨pc,a,b,c⟩:=p;simp only at h0 NG hz Lf L9 JG H Nf;have hc:pc=1\/pc=2\/pc=3\/pc=4\/pc=5\/pc=6\/pc=11\/pc=12\/pc=13\/pc=14\/pc=15\/pc=16:=by omega
  have gv:∀y:Int,1<=y->y<=n->rN ar.W (numT i)=y->4<=pc->pc≠5->∃s,(s<n/\s≠i)/\numT s=y/\(sv S s).pc=5/\rS ar.W (numT s)=0/\rS (stW ar.W (2*y+1) c) (numT s)=c/\∀j,j≠s->rS (stW ar.W (2*y+1) c) (numT j)=rS ar.W (numT j):=λy h1 H h3 h4 h5=>by
    obtain⟨q1,q2⟩:=JG h4 ahE;have h:numT (y-1).toNat=y:=(by unfold numT;omega);obtain⟨I,O⟩:=q2 (y-1).toNat (by unfold numT at h;omega) (by rw[h,h3]);refine⟨(y-1).toNat,⟨by unfold numT at h;omega,λe=>h5 (by rw[<-Nf,<-e];exact I)⟩,h,I,O,?_,λj hj=>?_⟩;. rw[h,(p5 wln y c h1 H).2.2,gI]
    . rw[(p5 wln y c h1 H).2.2,eu _ (λe=>hj (inj _ _ (e.trans h.symm)))]
  rcases hc with rfl|rfl|rfl|rfl|rfl|rfl|rfl|rfl|rfl|rfl|rfl|rfl
  all_goals simp[da,iN,eB,hA (numT i) Y.1 Y.2,LD,lN (numT i) Y.1,lS (numT i) Y.1]at V;repeat' split at V
  all_goals
    try rw[(hA a ahE ahE).1]at V
    try rw[(hA a ahE ahE).2]at V
    try rw[(hA b ahE ahE).2]at V
    subst V
  all_goals try simp only[aw,aP,dK,gL]
  all_goals try simp only[LD,decide_eq_true_eq]
  all_goals try first|rw[if_pos ahW]|rw[if_neg ahW]
  all_goals refine⟨?_,λhh j hj=>?_⟩
  all_goals try first
    | exact .told ⟨rfl,rfl,by assumption,rfl,rfl⟩
    | exact .hold ⟨rfl,rfl,rfl,rfl⟩
    | exact .look ⟨rfl,by first|exact .inl rfl|exact .inr rfl,rfl,rfl⟩
    | exact .free ⟨rfl,rfl⟩
    | exact .o ⟨by dsimp only;omega,by dsimp only;omega,rfl⟩
    | exact .come ⟨by dsimp only;omega,by dsimp only;omega,λe=>by first|(exfalso;revert e;simp;done)|(rw[(tx wln _ _ ahE ahE).2.2];exact hz ahE)|omega,λe=>by first|omega|(have:=e.1;omega)|(have:=e.2;omega)⟩
    | (obtain⟨s,q1,q2,I,O,q5,q6⟩:=gv a ahE ahE (Lf rfl).1 ahE ahE;exact .give s ⟨.inl rfl,rfl,q1,I,O,q5,q6⟩)
    | (obtain⟨s,q1,q2,I,O,q5,q6⟩:=gv b ahE ahE (L9 rfl).1 ahE ahE;exact .give s ⟨.inr rfl,rfl,q1,I,O,q5,q6⟩)
    | rfl
    | rw[(tx wln _ _ ahE ahE).2.2]
    | rw[(p5 wln _ _ ahE ahE).2.2,eu _ (λe=>hj (inj _ _ e))]
    | rw[(wY wln _).2.2]
    | trivial
    | (exfalso;omega)
  all_goals refine .come ⟨by dsimp only;omega,by dsimp only;omega,λe=>?_,λe=>?_⟩
  all_goals simp at e
end
section
open Go.RowKit
def arW(W:List Int):Ar:=⟨W,0,0,0,0,false⟩
section
variable{A W C:List Int}{n:Nat}
def qK{z:Int}(h1:1<=z)(h:z<=W.length):inR (A++W++C) (A.length+z)=true/\inR W z=true:=by refine⟨aR.2 ⟨by omega,?_⟩,aR.2 ⟨h1,h⟩⟩;simp only[List.length_append];omega
def qP{z:Int}(h1:1<=z)(I:z<=W.length):ldW (A++W++C) (A.length+z)=ldW W z:=by obtain⟨h,H⟩:=qK (A:=A) (C:=C) h1 I;rw[jg h,jg H,show((A.length:Int)+z).toNat-1=A.length+(z.toNat-1)by omega];rw[List.getD_eq_getElem?_getD,List.getD_eq_getElem?_getD,List.append_assoc,List.getElem?_append_right ahE,Nat.add_sub_cancel_left,List.getElem?_append_left ahE]
def rt{z:Int}(v:Int)(h1:1<=z)(I:z<=W.length):stW (A++W++C) (A.length+z) v=A++stW W z v++C:=by obtain⟨h,H⟩:=qK (A:=A) (C:=C) h1 I;unfold stW;rw[if_pos h,if_pos H,show((A.length:Int)+z).toNat-1=A.length+(z.toNat-1)by omega];rw[List.append_assoc,List.set_append_right _ _ ahE,Nat.add_sub_cancel_left,List.set_append_left _ _ ahE,List.append_assoc]
def DP{x:Int}(H:1<=x/\x<=32)(h:A.length<=5000):nxA ((A.length:Int)+1) x=A.length+2*x/\nxA 1 x=2*x:=by unfold nxA wrap64;omega
def D2{x:Int}(H:1<=x/\x<=32)(h:A.length<=5000):stA ((A.length:Int)+1) x=A.length+(2*x+1)/\stA 1 x=2*x+1:=by unfold stA wrap64;omega
def CM{s:Ar}(hs:s.W=A++W++C){z old v:Int}(h1:1<=z)(h:z<=W.length):cG s (A.length+z) old=cG (arW W) z old/\(dR s (A.length+z) old v).W=A++(dR (arW W) z old v).W++C:=by
 obtain⟨H,O⟩:=qK (A:=A) (C:=C) h1 h;have I:cG s (A.length+z) old=cG (arW W) z old:=by unfold cG;rw[hs,H,qP h1 h];show _=(inR W z&&decide (ldW W z=old));rw[O]
 refine⟨I,?_⟩;rw[gL,gL,I,hs];show(if cG (arW W) z old=true then stW (A++W++C) (A.length+z) v else A++W++C)=A++(if cG (arW W) z old=true then stW W z v else W)++C;split;.exact rt v h1 h
 .rfl
def yP{s:Ar}(hs:s.W=A++W++C)(hW:W.length=2*n+1)(hn:n<=32)(hA:A.length<=5000){x:Int}(O:1<=x/\x<=n){p:Sp}(h4:p.pc=4\/p.pc=14->1<=p.a/\p.a<=n)(L9:p.pc=16->1<=p.b/\p.b<=n):(da s ((A.length:Int)+1) x p).1.W=A++(da (arW W) 1 x p).1.W++C/\(da s ((A.length:Int)+1) x p).2=(da (arW W) 1 x p).2:=by
  have nx:∀y:Int,1<=y->y<=n->(∀v,stW (A++W++C) (nxA ((A.length:Int)+1) y) v=A++stW W (nxA 1 y) v++C)/\ldW (A++W++C) (nxA ((A.length:Int)+1) y)=ldW W (nxA 1 y):=λy h1 h2=>by obtain⟨e1,e2⟩:=DP (x:=y) (A:=A) ahE hA;exact abt
  have st:∀y:Int,1<=y->y<=n->(∀v,stW (A++W++C) (stA ((A.length:Int)+1) y) v=A++stW W (stA 1 y) v++C)/\ldW (A++W++C) (stA ((A.length:Int)+1) y)=ldW W (stA 1 y):=λy h1 h2=>by obtain⟨e1,e2⟩:=D2 (x:=y) (A:=A) ahE hA;exact abt
  have tl:=qP (A:=A) (W:=W) (C:=C) (z:=1) ahE ahE;have Zt:=λv=>rt (A:=A) (W:=W) (C:=C) (z:=1) v ahE ahE;have tc:=λv=>CM (s:=s) hs (z:=1) (old:=x) (v:=v) ahE ahE;obtain⟨Zh,We⟩:=nx x O.1 O.2;obtain⟨Ps,Zm⟩:=st x O.1 O.2;unfold da;by_cases I:p.pc<10
  . rw[if_pos I,if_pos I];unfold iN;by_cases c1:p.pc=1;. simp only[if_pos c1,aw,hs];exact⟨Zh 0,trivial⟩
    by_cases c2:p.pc=2;. simp only[if_neg c1,if_pos c2,aw,hs];exact⟨Ps 0,trivial⟩
    by_cases c3:p.pc=3;. simp only[if_neg c1,if_neg c2,if_pos c3,dK,hs,tl];exact⟨Zt x,rfl⟩
    by_cases c4:p.pc=4;. obtain⟨e1,e2⟩:=h4 (.inl c4);simp only[if_neg c1,if_neg c2,if_neg c3,if_pos c4,aw,hs];exact⟨(nx p.a e1 e2).1 x,trivial⟩
    by_cases c5:p.pc=5;. simp only[if_neg c1,if_neg c2,if_neg c3,if_neg c4,if_pos c5,aP,hs,Zm];exact⟨rfl,rfl⟩
    . simp only[if_neg c1,if_neg c2,if_neg c3,if_neg c4,if_neg c5,aw,hs];exact⟨Ps 1,trivial⟩
  . rw[if_neg I,if_neg I];unfold eB;by_cases H:p.pc=12;. simp only[if_pos H,(tc 0).1,(tc 0).2];exact⟨trivial,trivial⟩
    by_cases h:p.pc=14;. obtain⟨e1,e2⟩:=h4 (.inr h);simp only[if_neg H,if_pos h,aw,hs];exact⟨(st p.a e1 e2).1 p.c,trivial⟩
    by_cases V:p.pc=15;. simp only[if_neg H,if_neg h,if_pos V,aP,hs,We];exact⟨rfl,rfl⟩
    by_cases Y:p.pc=16;. obtain⟨e1,e2⟩:=L9 Y;simp only[if_neg H,if_neg h,if_neg V,if_pos Y,aw,hs];exact⟨(st p.b e1 e2).1 p.c,trivial⟩
    . simp only[if_neg H,if_neg h,if_neg V,if_neg Y,aP,hs,We];exact⟨rfl,rfl⟩
end
end
section
open Go.RowKit
variable{α:Type}{s:Sp}
structure HTr where
 D:Nat
 n:Nat
 np:Nat
 pl:Nat->Nat->Nat
 sl:Nat->Nat->Nat
 nv:Nat->Nat
 lev:Nat->Nat
structure HTr.Ok(T:HTr):Prop where
 d1:1<=T.D
 plt:∀t k,t<T.n->k<T.D->T.pl t k<T.np
 slt:∀t k,t<T.n->k<T.D->T.sl t k<T.nv (T.pl t k)
 nv32:∀v,v<T.np->T.nv v<=32
 lv:∀t k,t<T.n->k<T.D->T.lev (T.pl t k)=k
 up:∀t u k,t<T.n->u<T.n->k+1<T.D->T.pl t k=T.pl u k->T.pl t (k+1)=T.pl u (k+1)/\T.sl t (k+1)=T.sl u (k+1)
 dn:∀t u k,t<T.n->u<T.n->k+1<T.D->T.pl t (k+1)=T.pl u (k+1)->T.sl t (k+1)=T.sl u (k+1)->T.pl t k=T.pl u k
 root:∀t u,t<T.n->u<T.n->T.pl t (T.D-1)=T.pl u (T.D-1)
 leaf:∀t u,t<T.n->u<T.n->T.pl t 0=T.pl u 0->T.sl t 0=T.sl u 0->t=u
structure Hm where
 W:Nat->List Int
 P:Nat->List Sp
 S:List Sp
def Hm.sp(m:Hm)(v j:Nat):Sp:=sv (m.P v) j
def Hm.sg(m:Hm)(v j:Nat):Int:=rS (m.W v) (numT j)
abbrev Hm.hd(m:Hm)(v j:Nat):Prop:=F4 (rS (m.W v)) (sv (m.P v)) j
def aX{α:Type}(f:Nat->α)(v:Nat)(x:α):Nat->α:=λu=>if u=v then x else f u
def aW(f:Nat->α)(v:Nat)(x:α):aX f v x v=x:=by unfold aX;rw[if_pos rfl]
def aY(f:Nat->α){u:Nat}(x:α)(h:u≠v):aX f v x u=f u:=by unfold aX;rw[if_neg h]
def Hm.slot(m:Hm)(v j:Nat)(p:Sp):Hm:={m with P:=aX m.P v ((m.P v).set j p)}
def Hm.thr(m:Hm)(i:Nat)(s:Sp):Hm:={m with S:=m.S.set i s}
def eI(m:Hm)(v j:Nat)(u c:Int):Hm:=if (m.sp v j).pc=10 then m.slot v j {m.sp v j with pc:=u,c:=c} else m
def iE(m:Hm)(v j:Nat):Hm:=if (m.sp v j).pc=0 then m.slot v j {m.sp v j with pc:=1} else m
def gr(T:HTr)(bud:Int):Nat->Hm->Nat->Nat->Hm
 |0,m,_,_=>m
 |f+1,m,i,k=>
  if k+1=T.D then(eI m (T.pl i k) (T.sl i k) 11 1).thr i {sv m.S i with pc:=12,c:=k}
  else if (m.sp (T.pl i k) (T.sl i k)).a<=bud then(eI m (T.pl i k) (T.sl i k) 15 ((m.sp (T.pl i k) (T.sl i k)).a+1)).thr i {sv m.S i with pc:=11,c:=k}
  else gr T bud f m i (k+1)
def jy(T:HTr)(m:Hm)(i k:Nat):Hm:=
 if (m.sp (T.pl i k) (T.sl i k)).b=0\/k+1=T.D then m.thr i {sv m.S i with pc:=10}
 else(iE m (T.pl i (k+1)) (T.sl i (k+1))).thr i {sv m.S i with c:=(k:Int)+1}
def jz(T:HTr)(m:Hm)(i k:Nat):Hm:=
 if k=0 then m.thr i {sv m.S i with pc:=0}
 else(eI m (T.pl i (k-1)) (T.sl i (k-1)) 11 (-1)).thr i {sv m.S i with pc:=12,c:=(k:Int)-1}
def rstH(m:Hm)(v j:Nat):Hm:={m with W:=aX m.W v (da (arW (m.W v)) 1 ((j:Int)+1) (m.sp v j)).1.W,P:=aX m.P v ((m.P v).set j (da (arW (m.W v)) 1 ((j:Int)+1) (m.sp v j)).2)}
def jQ(T:HTr)(bud:Int)(m:Hm)(i:Nat):Hm:=
 if (sv m.S i).pc=0\/(sv m.S i).pc=10 then m else
 let k:=(sv m.S i).c.toNat
 let v:=T.pl i k
 let j:=T.sl i k
 if (m.sp v j).pc=0\/(m.sp v j).pc=10 then m else
 let m1:=rstH m v j
 if ¬((m1.sp v j).pc=0\/(m1.sp v j).pc=10)then m1
 else if (sv m.S i).pc=1 then jy T m1 i k
 else if (m1.sp v j).pc=0 then jz T m1 i k
 else gr T bud T.D m1 i (k+1)
def pJ(T:HTr)(m:Hm)(i:Nat):Hm:=if (sv m.S i).pc=0 then(iE m (T.pl i 0) (T.sl i 0)).thr i ⟨1,0,0,0⟩else m
def j7(T:HTr)(bud:Int)(m:Hm)(i:Nat):Hm:=if (sv m.S i).pc=10 then gr T bud T.D m i 0 else m
inductive TSt(T:HTr)(sp:Nat->Nat->Sp)(sg:Nat->Nat->Int)(i:Nat)(s:Sp):Nat->Prop
 |rest (h:s.pc=0):TSt T sp sg i s 0
 |come (c:Nat) (h:s.pc=1/\s.c=c/\c<T.D) (ha:1<=(sp (T.pl i c) (T.sl i c)).pc/\(sp (T.pl i c) (T.sl i c)).pc<=6) (hg:(sp (T.pl i c) (T.sl i c)).pc=5->¬0<sg (T.pl i c) (T.sl i c)) (I:∀k,k<c->(sp (T.pl i k) (T.sl i k)).pc=10):TSt T sp sg i s (c+1)
 |granted (c:Nat) (h:s.pc=1/\s.c=c/\c<T.D) (ha:(sp (T.pl i c) (T.sl i c)).pc=5/\0<sg (T.pl i c) (T.sl i c)) (I:∀k,k<T.D->k≠c->(sp (T.pl i k) (T.sl i k)).pc=10):TSt T sp sg i s T.D
 |hold (h:s.pc=10) (I:∀k,k<T.D->(sp (T.pl i k) (T.sl i k)).pc=10):TSt T sp sg i s T.D
 |pass (c:Nat) (h:s.pc=11/\s.c=c/\c+1<T.D) (ha:(sp (T.pl i c) (T.sl i c)).pc=15\/(sp (T.pl i c) (T.sl i c)).pc=16) (I:∀k,k<T.D->k≠c->(sp (T.pl i k) (T.sl i k)).pc=10):TSt T sp sg i s T.D
 |leave (c:Nat) (h:s.pc=12/\s.c=c/\c<T.D) (ha:11<=(sp (T.pl i c) (T.sl i c)).pc/\(sp (T.pl i c) (T.sl i c)).pc<=14) (hc:(sp (T.pl i c) (T.sl i c)).c=if c+1=T.D then 1 else -1) (I:∀k,k<c->(sp (T.pl i k) (T.sl i k)).pc=10):TSt T sp sg i s (c+1)
def xt(bud:Int)(p:Sp):Prop:=(p.pc=10\/p.pc=15\/p.pc=16->1<=p.a/\p.a<=bud+1)/\(p.pc=15\/p.pc=16->p.c=p.a+1/\p.a<=bud)
structure HX(T:HTr)(bud:Int)(m:Hm)(hb:Nat->Nat->Option Nat)(i:Nat):Prop where
 rg:∀v,v<T.np->RtS (T.nv v) (m.W v) (m.P v)
 sl:m.S.length=T.n
 ow:∀v j t,hb v j=some t->t<T.n/\∃k,k<T.D/\v=T.pl t k/\j=T.sl t k
 fr:∀v j,v<T.np->j<T.nv v->hb v j=none->(m.sp v j).pc=0
 th:∀t,t<T.n->t≠i->∃K,TSt T m.sp m.sg t (sv m.S t) K/\∀k,k<T.D->(hb (T.pl t k) (T.sl t k)=some t↔k<K)
 va:∀v j,v<T.np->j<T.nv v->xt bud (m.sp v j)
 sa:∀v j,v<T.np->j<T.nv v->(m.sp v j).pc=5->m.sg v j=0\/m.sg v j= -1\/(1<=m.sg v j/\m.sg v j<=bud+1)
def rK(T:HTr)(m:Hm)(hb:Nat->Nat->Option Nat)(t:Nat):Prop:=∃K,TSt T m.sp m.sg t (sv m.S t) K/\∀k,k<T.D->(hb (T.pl t k) (T.sl t k)=some t↔k<K)
structure d9(T:HTr)(bud:Int)(m:Hm)(hb:Nat->Nat->Option Nat):Prop where
 x:∀i,HX T bud m hb i
 t:∀t,t<T.n->rK T m hb t
section
variable{T:HTr}{m m':Hm}{i:Nat}
def d9.of(h:HX T bud m hb i)(O:rK T m hb i):d9 T bud m hb:=by
 have I:∀t,t<T.n->rK T m hb t:=λt H=>by
  by_cases e:t=i;.subst e;exact O
  .exact h.th t H e
 exact⟨λj=>⟨h.rg,h.sl,h.ow,h.fr,λt H _=>I t H,h.va,h.sa⟩,I⟩
def TSt.keep{sp Wj:Nat->Nat->Sp}{sg Y:Nat->Nat->Int}(h:TSt T sp sg i s K)(h1:∀k,k<K->k<T.D->Wj (T.pl i k) (T.sl i k)=sp (T.pl i k) (T.sl i k))(h2:∀k,k<K->k<T.D->(sp (T.pl i k) (T.sl i k)).pc=5->Y (T.pl i k) (T.sl i k)=sg (T.pl i k) (T.sl i k)):TSt T Wj Y i s K:=by
 cases h with
 |rest h=>exact .rest h
 |come c h O hg I=>
  have e:=h1 c (Nat.lt_succ_self _) h.2.2;refine .come c h (by rw[e];exact O) (λe5=>?_) λk H=>?_;.rw[e]at e5;rw[h2 c (Nat.lt_succ_self _) h.2.2 e5];exact hg e5
  .rw[h1 k ahE ahE];exact I k H
 |granted c h O I=>have e:=h1 c h.2.2 h.2.2;refine .granted c h ⟨by rw[e];exact O.1,by rw[h2 c h.2.2 h.2.2 O.1];exact O.2⟩ λk H V=>?_;rw[h1 k H H];exact I k H V
 |hold h I=>exact .hold h λk H=>by rw[h1 k H H];exact I k H
 |pass c h O I=>refine .pass c h (by rw[h1 c ahE ahE];exact O) λk H V=>?_;rw[h1 k H H];exact I k H V
 |leave c h O hc I=>have e:=h1 c (Nat.lt_succ_self _) h.2.2;refine .leave c h (by rw[e];exact O) (by rw[e];exact hc) λk H=>?_;rw[h1 k ahE ahE];exact I k H
def fX(m:Hm)(v j:Nat)(p:Sp)(I:j<(m.P v).length)(u k:Nat):(m.slot v j p).sp u k=if u=v/\k=j then p else m.sp u k:=by
 unfold Hm.sp Hm.slot;show sv (aX m.P v ((m.P v).set j p) u) k=_;by_cases e:u=v
 .subst e;rw[aW,ba];by_cases H:k=j;.subst H;rw[if_pos ⟨rfl,I⟩,if_pos ⟨rfl,rfl⟩]
  .rw[if_neg (λh=>H h.1.symm),if_neg (λh=>H h.2)]
 .rw[aY _ _ e,if_neg (λh=>e h.1)]
def HX.len(h:HX T bud m hb i)(O:v<T.np):(m.P v).length=T.nv v:=(h.rg v O).len
def HX.hd1(h:HX T bud m hb i)(O:v<T.np)(I:j<T.nv v)(V:k<T.nv v)(h1:m.hd v j)(H:m.hd v k):j=k:=(h.rg v O).i.tk.one j k I V h1 H
def TSt.hd{t:Nat}(k:TSt T m.sp m.sg t s K){l:Nat}(O:l+1<K):m.hd (T.pl t l) (T.sl t l):=by
 have f:∀p:Sp,p=m.sp (T.pl t l) (T.sl t l)->6<=p.pc->m.hd (T.pl t l) (T.sl t l):=λp e h=> .inl (by rw[e]at h;exact h);cases k with
 |rest _=>omega
 |come c _ _ _ I=>exact f _ rfl (by rw[I l ahE];decide)
 |granted c hc H I=>
  by_cases e:l=c
  .subst e;refine .inr ⟨?_,?_⟩;.show 3<=(m.sp (T.pl t l) (T.sl t l)).pc;omega
   .have:=H.2;show m.sg (T.pl t l) (T.sl t l)≠0;omega
  .exact f _ rfl (by rw[I l ahE e];decide)
 |hold _ I=>exact f _ rfl (by rw[I l ahE];decide)
 |pass c _ H I=>
  by_cases e:l=c;.subst e;exact f _ rfl ahE
  .exact f _ rfl (by rw[I l ahE e];decide)
 |leave c _ _ _ I=>exact f _ rfl (by rw[I l ahE];decide)
def TSt.of10{sp:Nat->Nat->Sp}{sg:Nat->Nat->Int}(h:TSt T sp sg i s K)(e:s.pc=10):K=T.D/\∀k,k<T.D->(sp (T.pl i k) (T.sl i k)).pc=10:=by
 cases h with
 |rest h=>omega
 |come c h=>omega
 |granted c h=>omega
 |hold h I=>exact⟨rfl,I⟩
 |pass c h=>omega
 |leave c h=>omega
def d9.one(h:d9 T bud m hb)(H:T.Ok)(V:a<T.n)(I:b<T.n)(h1:(sv m.S a).pc=10)(h2:(sv m.S b).pc=10):a=b:=by obtain⟨Ka,ka,oa⟩:=h.t a V;obtain⟨Kb,kb,ob⟩:=h.t b I;obtain⟨rfl,pa⟩:=ka.of10 h1;obtain⟨rfl,pb⟩:=kb.of10 h2;have hd:=H.d1;have O:=H.root a b V I;have Y:T.sl a (T.D-1)=T.sl b (T.D-1):=(h.x a).hd1 (H.plt b (T.D-1) I ahE) (by rw[<-O];exact H.slt a (T.D-1) V ahE) (H.slt b (T.D-1) I ahE) (by rw[<-O];exact .inl (by have:=pa (T.D-1) ahE;show 6<=(m.sp _ _).pc;omega)) (.inl (by have:=pb (T.D-1) ahE;show 6<=(m.sp _ _).pc;omega));have o1:=(oa (T.D-1) ahE).2 ahE;have o2:=(ob (T.D-1) ahE).2 ahE;rw[O,Y,o2]at o1;injection o1 with o1;exact o1.symm
end
end
section
open Go.RowKit
section
variable{T:HTr}{m m':Hm}{i:Nat}
def HX.thr(h:HX T bud m hb i)(s:Sp):HX T bud (m.thr i s) hb i:=by
 refine⟨h.rg,by show(m.S.set i s).length=T.n;rw[List.length_set];exact h.sl,h.ow,h.fr,λt I H=>?_,h.va,h.sa⟩;have e:sv (m.thr i s).S t=sv m.S t:=by show sv (m.S.set i s) t=_;rw[ba,if_neg (λh=>H h.1.symm)]
 rw[e];exact h.th t I H
def F1(m:Hm){i:Nat}(s:Sp)(hi:i<m.S.length):sv (m.thr i s).S i=s:=by show sv (m.S.set i s) i=_;rw[ba,if_pos ⟨rfl,hi⟩]
def rj{t:Nat}(Y:hb v j=some i)(H:t≠i)(h:hb (T.pl t k) (T.sl t k)=some t):¬(T.pl t k=v/\T.sl t k=j):=by rintro⟨rfl,rfl⟩;rw[h]at Y;injection Y with Y;exact H Y
def HX.wth(h:HX T bud m hb i)(O:v<T.np)(hj:j<T.nv v)(Y:hb v j=some i)(h10:(m.sp v j).pc=10)(p':Sp)(hu:p'.pc=11\/p'.pc=15)(Ky:xt bud p'):HX T bud (m.slot v j p') hb i:=by
 have hl:=h.len O;have Jr:=fX m v j p' (by rw[hl];exact hj);refine⟨λu Pg=>?_,h.sl,h.ow,λa b H I JD=>?_,λt ht V=>?_,λa b H I=>?_,λa b H I h5=>?_⟩
 .show RtS (T.nv u) (m.W u) (aX m.P v ((m.P v).set j p') u);by_cases e:u=v;.subst e;rw[aW];exact(h.rg u Pg).beg hj (.inl ⟨h10,hu⟩)
  .rw[aY _ _ e];exact h.rg u Pg
 .rw[Jr,if_neg (λe=>by rw[e.1,e.2,Y]at JD;cases JD)];exact h.fr a b H I JD
 .obtain⟨K,k,o⟩:=h.th t ht V;refine⟨K,k.keep (λl Lp hD=>?_) (λ_ _ _ _=>rfl),o⟩;rw[Jr,if_neg (rj Y V ((o l hD).2 Lp))]
 .rw[Jr];split;.exact Ky
  .exact h.va a b H I
 .rw[Jr]at h5;by_cases e:a=v/\b=j;.rw[if_pos e]at h5;omega
  .rw[if_neg e]at h5;exact h.sa a b H I h5
def yJ(hb:Nat->Nat->Option Nat)(v j:Nat)(x:Option Nat):Nat->Nat->Option Nat:=λa b=>if a=v/\b=j then x else hb a b
def fV(hb:Nat->Nat->Option Nat)(v j:Nat)(x:Option Nat):yJ hb v j x v j=x:=by unfold yJ;rw[if_pos ⟨rfl,rfl⟩]
def fm{x:Option Nat}(h:¬(a=v/\b=j)):yJ hb v j x a b=hb a b:=by unfold yJ;rw[if_neg h]
def HX.ask(h:HX T bud m hb i)(hi:i<T.n)(hk:k<T.D)(hT:T.Ok)(Y:hb (T.pl i k) (T.sl i k)=none)(p':Sp)(hp:p'.pc=1):HX T bud (m.slot (T.pl i k) (T.sl i k) p') (yJ hb (T.pl i k) (T.sl i k) (some i)) i:=by
 have O:=hT.plt i k hi hk;have hj:=hT.slt i k hi hk;have h0:=h.fr _ _ O hj Y;have hl:=h.len O;have Jr:=fX m (T.pl i k) (T.sl i k) p' (by rw[hl];exact hj);refine⟨λu Pg=>?_,h.sl,λa b t H=>?_,λa b ha I H=>?_,λt ht ab=>?_,λa b ha I=>?_,λa b ha I h5=>?_⟩
 .show RtS (T.nv u) (m.W u) (aX m.P (T.pl i k) ((m.P (T.pl i k)).set (T.sl i k) p') u);by_cases e:u=T.pl i k;.subst e;rw[aW];exact(h.rg _ O).beg hj (.inr ⟨h0,hp⟩)
  .rw[aY _ _ e];exact h.rg u Pg
 .by_cases e:a=T.pl i k/\b=T.sl i k;.rw[e.1,e.2,fV]at H;injection H with H;subst H;exact⟨hi,k,hk,e.1,e.2⟩
  .rw[fm e]at H;exact h.ow a b t H
 .by_cases e:a=T.pl i k/\b=T.sl i k;.rw[e.1,e.2,fV]at H;cases H
  .rw[fm e]at H;rw[Jr,if_neg e];exact h.fr a b ha I H
 .obtain⟨K,kk,o⟩:=h.th t ht ab;have hd:∀l,hb (T.pl t l) (T.sl t l)=some t->¬(T.pl t l=T.pl i k/\T.sl t l=T.sl i k):=λl V e=>by rw[e.1,e.2,Y]at V;cases V
  refine⟨K,kk.keep (λl V hD=>?_) (λ_ _ _ _=>rfl),λl hD=>?_⟩;.rw[Jr,if_neg (hd l ((o l hD).2 V))]
  .by_cases e:T.pl t l=T.pl i k/\T.sl t l=T.sl i k;.rw[e.1,e.2,fV];refine⟨λhe=>?_,λV=>absurd e (hd l ((o l hD).2 V))⟩;injection he with he;exact absurd he.symm ab
   .rw[fm e];exact o l hD
 .rw[Jr];split;.exact⟨λe=>by omega,λe=>by omega⟩
  .exact h.va a b ha I
 .rw[Jr]at h5;by_cases e:a=T.pl i k/\b=T.sl i k;.rw[if_pos e]at h5;omega
  .rw[if_neg e]at h5;exact h.sa a b ha I h5
def HX.release(h:HX T bud m hb i)(h0:(m.sp v j).pc=0)(Y:hb v j=some i):HX T bud m (yJ hb v j none) i:=by
 refine⟨h.rg,h.sl,λa b t H=>?_,λa b ha I H=>?_,λt ht V=>?_,h.va,h.sa⟩
 .by_cases e:a=v/\b=j;.rw[e.1,e.2,fV]at H;cases H
  .rw[fm e]at H;exact h.ow a b t H
 .by_cases e:a=v/\b=j;.rw[e.1,e.2];exact h0
  .rw[fm e]at H;exact h.fr a b ha I H
 .obtain⟨K,kk,o⟩:=h.th t ht V;refine⟨K,kk,λl hD=>?_⟩;by_cases e:T.pl t l=v/\T.sl t l=j;.rw[<-o l hD,e.1,e.2,fV,Y];refine⟨λO=>by(cases O),λO=>?_⟩;injection O with O;exact absurd O.symm V
  .rw[fm e];exact o l hD
def HX.rung(h:HX T bud m hb i)(O:v<T.np)(hj:j<T.nv v)(Y:hb v j=some i)(W':List Int)(p':Sp)(V:RtS (T.nv v) W' ((m.P v).set j p'))(JA:∀k,k≠j->rS W' (numT k)=rS (m.W v) (numT k))(Ky:xt bud p')(h5:p'.pc=5->rS W' (numT j)=0):HX T bud {m with W:=aX m.W v W',P:=aX m.P v ((m.P v).set j p')} hb i:=by
  have hl:=h.len O;have Jr:∀u k,Hm.sp {m with W:=aX m.W v W',P:=aX m.P v ((m.P v).set j p')} u k=if u=v/\k=j then p' else m.sp u k:=fX m v j p' (by rw[hl];exact hj)
  have Qn:∀u k,¬(u=v/\k=j)->Hm.sg {m with W:=aX m.W v W',P:=aX m.P v ((m.P v).set j p')} u k=m.sg u k:=λu k H=>by
    show rS (aX m.W v W' u) (numT k)=rS (m.W u) (numT k);by_cases e:u=v;. subst e;rw[aW];exact JA k λe2=>H ⟨rfl,e2⟩
    . rw[aY _ _ e]
  refine⟨λu Pg=>?_,h.sl,h.ow,λa b ha I JD=>?_,λt ht H=>?_,λa b ha I=>?_,λa b ha I PQ=>?_⟩
  . show RtS (T.nv u) (aX m.W v W' u) (aX m.P v ((m.P v).set j p') u);by_cases e:u=v;. subst e;rw[aW,aW];exact V
    . rw[aY _ _ e,aY _ _ e];exact h.rg u Pg
  . rw[Jr,if_neg (λe=>by rw[e.1,e.2,Y]at JD;cases JD)];exact h.fr a b ha I JD
  . obtain⟨K,k,o⟩:=h.th t ht H;refine⟨K,k.keep (λl Lp hD=>?_) (λl Lp hD _=>?_),o⟩;. rw[Jr,if_neg (rj Y H ((o l hD).2 Lp))]
    . exact Qn _ _ (rj Y H ((o l hD).2 Lp))
  . rw[Jr];split;. exact Ky
    . exact h.va a b ha I
  . rw[Jr]at PQ;by_cases e:a=v/\b=j;. rw[if_pos e]at PQ;obtain⟨rfl,rfl⟩:=e;left;show rS (aX m.W a W' a) (numT b)=0;rw[aW];exact h5 PQ
    . rw[if_neg e]at PQ;rw[Qn a b e];exact h.sa a b ha I PQ
def upO(T:HTr)(hb:Nat->Nat->Option Nat)(u c:Nat):Nat->Nat->Option Nat:=λa b=>if (List.range T.D).any (λk=>decide (c<k/\a=T.pl u k/\b=T.sl u k))=true then some u else hb a b
def Cp{u:Nat}:(List.range T.D).any (λk=>decide (c<k/\a=T.pl u k/\b=T.sl u k))=true↔∃k,c<k/\k<T.D/\a=T.pl u k/\b=T.sl u k:=by
 rw[List.any_eq_true];constructor;.rintro⟨k,V,h⟩;obtain⟨h1,H,I⟩:=of_decide_eq_true h;exact⟨k,h1,List.mem_range.1 V,H,I⟩
 .rintro⟨k,h1,H,I,O⟩;exact⟨k,List.mem_range.2 H,decide_eq_true ⟨h1,I,O⟩⟩
def pn{u:Nat}(hc:c<k)(h:k<T.D):upO T hb u c (T.pl u k) (T.sl u k)=some u:=by unfold upO;rw[if_pos (Cp.2 ⟨k,hc,h,rfl,rfl⟩)]
def jq{u:Nat}(h:¬∃k,c<k/\k<T.D/\a=T.pl u k/\b=T.sl u k):upO T hb u c a b=hb a b:=by unfold upO;rw[if_neg (λe=>h (Cp.1 e))]
def HX.give(h:HX T bud m hb i)(hT:T.Ok){s u:Nat}(O:v<T.np)(hj:j<T.nv v)(Y:hb v j=some i)(H:List Int)(p':Sp)(JW:p'.pc=0)(Pf:s<T.nv v)(Pe:s≠j)(V:RtS (T.nv v) H ((m.P v).set j p'))(MU:(m.sp v s).pc=5)(OE:m.sg v s=0)(JA:∀k,k≠s->rS H (numT k)=rS (m.W v) (numT k))(Lc:rS H (numT s)= -1\/(1<=rS H (numT s)/\rS H (numT s)<=bud+1))(Rv:hb v s=some u)(J7:c<T.D)(NJ:v=T.pl u c)(Nd:s=T.sl u c)(Lq:0<rS H (numT s)->∀k,c<k->k<T.D->(m.sp (T.pl u k) (T.sl u k)).pc=10/\hb (T.pl u k) (T.sl u k)=some i):u<T.n/\u≠i/\∃O',HX T bud {m with W:=aX m.W v H,P:=aX m.P v ((m.P v).set j p')} O' i/\(0<rS H (numT s)->O'=upO T hb u c)/\(¬0<rS H (numT s)->O'=hb):=by
  obtain⟨Lh,_⟩:=h.ow v s u Rv;have hl:=h.len O;have Jr:∀a b,Hm.sp {m with W:=aX m.W v H,P:=aX m.P v ((m.P v).set j p')} a b=if a=v/\b=j then p' else m.sp a b:=fX m v j p' (by rw[hl];exact hj)
  have Qn:∀a b,¬(a=v/\b=s)->Hm.sg {m with W:=aX m.W v H,P:=aX m.P v ((m.P v).set j p')} a b=m.sg a b:=λa b N5=>by
    show rS (aX m.W v H a) (numT b)=rS (m.W a) (numT b);by_cases e:a=v;. subst e;rw[aW];exact JA b (λe2=>N5 ⟨rfl,e2⟩)
    . rw[aY _ _ e]
  have Tt:Hm.sg {m with W:=aX m.W v H,P:=aX m.P v ((m.P v).set j p')} v s=rS H (numT s):=by show rS (aX m.W v H v) (numT s)=_;rw[aW]
  obtain⟨_,ki,MO,YX,LR⟩:=h.ow v j i Y;obtain⟨ab,_⟩:=h.ow v j i Y;have Yh:ki=c:=by have e1:=hT.lv i ki ab MO;have e2:=hT.lv u c Lh J7;rw[<-YX]at e1;rw[<-NJ]at e2;omega
  have Ob:u≠i:=λe=>by subst e Yh;rw[<-Nd]at LR;exact Pe LR.symm
  have Nc:∀k,k<T.D->T.pl u k=v->k=c:=λk hk e=>by have e1:=hT.lv u k Lh hk;have e2:=hT.lv u c Lh J7;rw[e]at e1;rw[<-NJ]at e2;omega
  have MC:∀k,k<T.D->k≠c->Hm.sp {m with W:=aX m.W v H,P:=aX m.P v ((m.P v).set j p')} (T.pl u k) (T.sl u k)=m.sp (T.pl u k) (T.sl u k):=λk hk NX=>by rw[Jr,if_neg (λe=>NX (Nc k hk e.1))]
  have VP:Hm.sp {m with W:=aX m.W v H,P:=aX m.P v ((m.P v).set j p')} v s=m.sp v s:=by rw[Jr,if_neg (λe=>Pe e.2)]
  obtain⟨K,kk,o⟩:=h.th u Lh Ob;have Q9:c<K:=by rw[<-o c J7,<-NJ,<-Nd];exact Rv
  have X0:K=c+1/\((sv m.S u).pc=1/\(sv m.S u).c=c/\c<T.D)/\∀k,k<c->(m.sp (T.pl u k) (T.sl u k)).pc=10:=by
    have ZU:(m.sp (T.pl u c) (T.sl u c)).pc=5:=(by rw[<-NJ,<-Nd];exact MU);cases kk with
    | rest h=>omega
    | come c' h ha hg I=>
      by_cases e:c=c';. subst e;exact⟨rfl,h,I⟩
      . have:=I c ahE;omega
    | granted c' h' ha I=>
      by_cases e:c=c';. subst e;have:=ha.2;rw[<-NJ,<-Nd]at this;omega
      . have:=I c J7 e;omega
    | hold h I=>have:=I c J7;omega
    | pass c' h ha I=>
      by_cases e:c=c';. subst e;omega
      . have:=I c J7 e;omega
    | leave c' h ha hc I=>
      by_cases e:c=c';. subst e;omega
      . have:=I c ahE;omega
  obtain⟨rfl,Ph,OG⟩:=X0;have Lw:∀a b,(∃k,c<k/\k<T.D/\a=T.pl u k/\b=T.sl u k)->0<rS H (numT s)->hb a b=some i:=λa b ⟨k,h1,h2,h3,h4⟩ hp=>by rw[h3,h4];exact(Lq hp k h1 h2).2
  have Rw:∀(O1:Nat->Nat->Option Nat) (O5:∀a b,O1 a b=hb a b\/(O1 a b=some u/\hb a b=some i)) (t:Nat),t<T.n->t≠i->t≠u->∃K,TSt T (Hm.sp {m with W:=aX m.W v H,P:=aX m.P v ((m.P v).set j p')}) (Hm.sg {m with W:=aX m.W v H,P:=aX m.P v ((m.P v).set j p')}) t (sv m.S t) K/\∀k,k<T.D->(O1 (T.pl t k) (T.sl t k)=some t↔k<K):=λO1 O5 t ht Ng VT=>by
    obtain⟨K',k',o'⟩:=h.th t ht Ng;refine⟨K',k'.keep (λl Lp hD=>?_) (λl Lp hD _=>?_),λl hD=>?_⟩;. rw[Jr,if_neg (rj Y Ng ((o' l hD).2 Lp))]
    . refine Qn _ _ λe=>?_;have:=(o' l hD).2 Lp;rw[e.1,e.2,Rv]at this;injection this with this;exact VT this.symm
    . rcases O5 (T.pl t l) (T.sl t l)with e|⟨e1,e2⟩
      . rw[e];exact o' l hD
      . rw[<-o' l hD,e1,e2];refine⟨λhe=>?_,λhe=>?_⟩;. injection he with he;exact absurd he.symm VT
        . injection he with he;exact absurd he.symm Ng
  have VN:∀w,w<T.np->RtS (T.nv w) (aX m.W v H w) (aX m.P v ((m.P v).set j p') w):=λw hw=>by
    by_cases e:w=v;. subst e;rw[aW,aW];exact V
    . rw[aY _ _ e,aY _ _ e];exact h.rg w hw
  have Ky:∀a b,a<T.np->b<T.nv a->xt bud (Hm.sp {m with W:=aX m.W v H,P:=aX m.P v ((m.P v).set j p')} a b):=λa b ha I=>by
    rw[Jr];split;. exact⟨λe=>by omega,λe=>by omega⟩
    . exact h.va a b ha I
  have Oa:∀a b,a<T.np->b<T.nv a->(Hm.sp {m with W:=aX m.W v H,P:=aX m.P v ((m.P v).set j p')} a b).pc=5->Hm.sg {m with W:=aX m.W v H,P:=aX m.P v ((m.P v).set j p')} a b=0\/Hm.sg {m with W:=aX m.W v H,P:=aX m.P v ((m.P v).set j p')} a b= -1\/(1<=Hm.sg {m with W:=aX m.W v H,P:=aX m.P v ((m.P v).set j p')} a b/\Hm.sg {m with W:=aX m.W v H,P:=aX m.P v ((m.P v).set j p')} a b<=bud+1):=λa b ha I h5=>by
    by_cases e:a=v/\b=s;. rw[e.1,e.2,Tt];exact .inr Lc
    . rw[Qn a b e];rw[Jr]at h5;refine h.sa a b ha I ?_;split at h5;. omega
      . exact h5
  refine⟨Lh,Ob,?_⟩;by_cases LK:0<rS H (numT s)
  . refine⟨upO T hb u c,⟨VN,h.sl,λa b t JD=>?_,λa b ha I JD=>?_,λt ht Ng=>?_,Ky,Oa⟩,λ_=>rfl,λhn=>absurd LK hn⟩
    . by_cases e:∃k,c<k/\k<T.D/\a=T.pl u k/\b=T.sl u k;. obtain⟨k,h1,h2,rfl,rfl⟩:=e;rw[pn h1 h2]at JD;injection JD with JD;subst JD;exact⟨Lh,k,h2,rfl,rfl⟩
      . rw[jq e]at JD;exact h.ow a b t JD
    . by_cases e:∃k,c<k/\k<T.D/\a=T.pl u k/\b=T.sl u k;. obtain⟨k,h1,h2,rfl,rfl⟩:=e;rw[pn h1 h2]at JD;cases JD
      . rw[jq e]at JD;rw[Jr];split;. exact JW
        . exact h.fr a b ha I JD
    . by_cases e:t=u
      . subst e;refine⟨T.D,.granted c Ph ⟨?_,?_⟩ λk hk NX=>?_,λk hk=>⟨λ_=>hk,λ_=>?_⟩⟩;. rw[<-NJ,<-Nd,VP];exact MU
        . rw[<-NJ,<-Nd,Tt];exact LK
        . rw[MC k hk NX];rcases Nat.lt_or_ge k c with h1|h1
          . exact OG k h1
          . exact(Lq LK k ahE hk).1
        . rcases Nat.lt_or_ge c k with h1|h1
          . exact pn h1 hk
          . rw[jq];. exact(o k hk).2 ahE
            . rintro⟨k',h2,h3,h4,_⟩;have e1:=hT.lv t k Lh hk;have e2:=hT.lv t k' Lh h3;rw[h4]at e1;omega
      . refine Rw _ (λa b=>?_) t ht Ng e;by_cases e2:∃k,c<k/\k<T.D/\a=T.pl u k/\b=T.sl u k;. refine .inr ⟨?_,Lw a b e2 LK⟩;obtain⟨k,h1,h2,rfl,rfl⟩:=e2;exact pn h1 h2
        . exact .inl (jq e2)
  . refine⟨hb,⟨VN,h.sl,h.ow,λa b ha I JD=>?_,λt ht Ng=>?_,Ky,Oa⟩,λhp=>absurd hp LK,λ_=>rfl⟩
    . rw[Jr];split;. exact JW
      . exact h.fr a b ha I JD
    . by_cases e:t=u
      . subst e;refine⟨c+1,.come c Ph ?_ (λ_=>?_) λk hk=>?_,o⟩;. rw[<-NJ,<-Nd,VP,MU];decide
        . rw[<-NJ,<-Nd,Tt];exact LK
        . rw[MC k ahE ahE];exact OG k hk
      . exact Rw hb (λa b=> .inl rfl) t ht Ng e
end
end
section
open Go.RowKit
section
variable{T:HTr}{m m':Hm}{i:Nat}
def HX.upNone(h:HX T bud m hb i)(H:T.Ok)(hi:i<T.n)(hc:c+1<T.D)(hd:m.hd (T.pl i c) (T.sl i c))(Y:hb (T.pl i c) (T.sl i c)=some i)(hn:hb (T.pl i (c+1)) (T.sl i (c+1))≠some i):hb (T.pl i (c+1)) (T.sl i (c+1))=none:=by
 cases V:hb (T.pl i (c+1)) (T.sl i (c+1))with
 |none=>rfl
 |some u=>
  exfalso;have Ob:u≠i:=λe=>hn (by rw[V,e]);obtain⟨I,k,hk,h1,h2⟩:=h.ow _ _ u V;have e1:=H.lv i (c+1) hi hc;have e2:=H.lv u k I hk;rw[h1]at e1;obtain rfl:k=c+1:=by omega
  obtain⟨K,kk,o⟩:=h.th u I Ob;have hK:c+1<K:=by rw[<-o (c+1) hc,<-h1,<-h2];exact V
  have hp:=H.dn i u c hi I hc h1 h2;have hh:T.sl i c=T.sl u c:=h.hd1 (H.plt i c hi ahE) (H.slt i c hi ahE) (by rw[hp];exact H.slt u c I ahE) hd (by rw[hp];exact kk.hd hK);have O:=(o c ahE).2 ahE;rw[<-hp,<-hh,Y]at O;injection O with O;exact Ob O.symm
def sF(h:HX T bud m hb i)(hi:i<T.n):i<m.S.length:=by rw[h.sl];exact hi
def ir{s:Sp}(h:i<m.S.length)(k:TSt T m.sp m.sg i s K)(o:∀k,k<T.D->(hb (T.pl i k) (T.sl i k)=some i↔k<K)):rK T (m.thr i s) hb i:=by refine⟨K,?_,o⟩;rw[F1 m s h];exact k
def vW(hT:T.Ok)(hi:i<T.n):∀(f:Nat) (m:Hm) (k0:Nat),HX T bud m hb i->(∀k,k<T.D->hb (T.pl i k) (T.sl i k)=some i)->(∀k,k<T.D->(m.sp (T.pl i k) (T.sl i k)).pc=10)->k0<T.D->T.D<=k0+f->d9 T bud (gr T bud f m i k0) hb:=by
 intro f;induction f with
 |zero=>intro m k0 _ _ _ h1 h2;omega
 |succ f ih=>
  intro m k0 h Y h10 H hf;unfold gr;have O:=hT.plt i k0 hi H;have hj:=hT.slt i k0 hi H;have J4:T.sl i k0<(m.P (T.pl i k0)).length:=by rw[h.len O];exact hj
  have Nc:∀k,k<T.D->k≠k0->¬(T.pl i k=T.pl i k0/\T.sl i k=T.sl i k0):=λk I V e=>by have e1:=hT.lv i k hi I;have e2:=hT.lv i k0 hi H;rw[e.1]at e1;omega
  have own:∀(k:Nat),k<T.D->(hb (T.pl i k) (T.sl i k)=some i↔k<T.D):=λk I=>⟨λ_=>I,λ_=>Y k I⟩;by_cases c1:k0+1=T.D
  .rw[if_pos c1];have e:eI m (T.pl i k0) (T.sl i k0) 11 1=m.slot (T.pl i k0) (T.sl i k0) {m.sp (T.pl i k0) (T.sl i k0)with pc:=11,c:=1}:=(by unfold eI;rw[if_pos (h10 k0 H)]);rw[e];have h1:=h.wth O hj (Y k0 H) (h10 k0 H) {m.sp (T.pl i k0) (T.sl i k0)with pc:=11,c:=1} (.inl rfl) ⟨λe=>absurd e aiQ,λe=>absurd e (by show ¬((11:Int)=15\/(11:Int)=16);decide)⟩;have Jr:=fX m (T.pl i k0) (T.sl i k0) {m.sp (T.pl i k0) (T.sl i k0)with pc:=11,c:=1} J4;refine .of (h1.thr _) (ir (K:=k0+1) (sF h1 hi) (.leave k0 ⟨rfl,rfl,H⟩ ?_ ?_ λk I=>?_) λk I=>by rw[c1];exact own k I);.exact abu
   .rw[Jr,if_pos ⟨rfl,rfl⟩,if_pos c1]
   .rw[Jr,if_neg (Nc k ahE ahE)];exact h10 k ahE
  .rw[if_neg c1];by_cases c2:(m.sp (T.pl i k0) (T.sl i k0)).a<=bud
   .rw[if_pos c2];have Ky:=(h.va _ _ O hj).1 (.inl (h10 k0 H));have e:eI m (T.pl i k0) (T.sl i k0) 15 ((m.sp (T.pl i k0) (T.sl i k0)).a+1)=m.slot (T.pl i k0) (T.sl i k0) {m.sp (T.pl i k0) (T.sl i k0)with pc:=15,c:=(m.sp (T.pl i k0) (T.sl i k0)).a+1}:=(by unfold eI;rw[if_pos (h10 k0 H)]);rw[e];have h1:=h.wth O hj (Y k0 H) (h10 k0 H) {m.sp (T.pl i k0) (T.sl i k0)with pc:=15,c:=(m.sp (T.pl i k0) (T.sl i k0)).a+1} (.inr rfl) ⟨λ_=>Ky,λ_=>⟨rfl,c2⟩⟩;have Jr:=fX m (T.pl i k0) (T.sl i k0) {m.sp (T.pl i k0) (T.sl i k0)with pc:=15,c:=(m.sp (T.pl i k0) (T.sl i k0)).a+1} J4;refine .of (h1.thr _) (ir (K:=T.D) (sF h1 hi) (.pass k0 ⟨rfl,rfl,by omega⟩ ?_ λk I V=>?_) own);.rw[Jr,if_pos ⟨rfl,rfl⟩];exact .inl rfl
    .rw[Jr,if_neg (Nc k I V)];exact h10 k I
   .rw[if_neg c2];exact ih m (k0+1) h Y h10 ahE ahE
def nU(h:HX T bud m hb i)(H:T.Ok)(hi:i<T.n)(hc:c<T.D)(Y:∀k,k<T.D->(hb (T.pl i k) (T.sl i k)=some i↔k<c))(h10:∀k,k<c->(m.sp (T.pl i k) (T.sl i k)).pc=10):d9 T bud (jz T m i c) hb:=by
 unfold jz;by_cases c0:c=0;.rw[if_pos c0];subst c0;exact .of (h.thr _) (ir (sF h hi) (.rest rfl) Y)
 .rw[if_neg c0];obtain⟨d,rfl⟩:∃d,c=d+1:=⟨c-1,by omega⟩;simp only[Nat.add_sub_cancel];have hd:d<T.D:=by omega
  have O:=H.plt i d hi hd;have I:=H.slt i d hi hd;have V:T.sl i d<(m.P (T.pl i d)).length:=by rw[h.len O];exact I
  have e:eI m (T.pl i d) (T.sl i d) 11 (-1)=m.slot (T.pl i d) (T.sl i d) {m.sp (T.pl i d) (T.sl i d)with pc:=11,c:= -1}:=by unfold eI;rw[if_pos (h10 d ahE)]
  rw[e];have h1:=h.wth O I ((Y d hd).2 ahE) (h10 d ahE) {m.sp (T.pl i d) (T.sl i d)with pc:=11,c:= -1} (.inl rfl) ⟨λe=>absurd e aiQ,λe=>absurd e (by show ¬((11:Int)=15\/(11:Int)=16);decide)⟩;have Jr:=fX m (T.pl i d) (T.sl i d) {m.sp (T.pl i d) (T.sl i d)with pc:=11,c:= -1} V;refine .of (h1.thr _) (ir (sF h1 hi) (.leave d ⟨rfl,by show((d+1:Nat):Int)-1=d;omega,hd⟩ ?_ ?_ λk JS=>?_) Y);.exact abu
  .rw[Jr,if_pos ⟨rfl,rfl⟩,if_neg ahE]
  .rw[Jr,if_neg];.exact h10 k ahE
   .intro e;have e1:=H.lv i k hi ahE;have e2:=H.lv i d hi hd;rw[e.1]at e1;omega
def d9.ask(h:d9 T bud m hb)(H:T.Ok)(hi:i<T.n):∃O',d9 T bud (pJ T m i) O':=by
 unfold pJ;by_cases c0:(sv m.S i).pc=0
 .rw[if_pos c0];have hd:=H.d1;have I:=h.x i;obtain⟨K,k,o⟩:=h.t i hi;have hK:K=0:=by cases k<;>first|rfl|omega
  subst hK
  have hn:hb (T.pl i 0) (T.sl i 0)=none:=by
   cases hO:hb (T.pl i 0) (T.sl i 0)with
   |none=>rfl
   |some u=>
    exfalso;obtain⟨hu,k',JS,h1,h2⟩:=I.ow _ _ u hO;have V:=H.lv i 0 hi ahE;have e2:=H.lv u k' hu JS;rw[h1]at V;obtain rfl:k'=0:=by omega
    obtain rfl:i=u:=H.leaf i u hi hu h1 h2;have:=(o 0 ahE).1 hO;omega
  have O:=H.plt i 0 hi ahE;have hj:=H.slt i 0 hi ahE;have h0:=I.fr _ _ O hj hn;have e:iE m (T.pl i 0) (T.sl i 0)=m.slot (T.pl i 0) (T.sl i 0) {m.sp (T.pl i 0) (T.sl i 0)with pc:=1}:=by unfold iE;rw[if_pos h0]
  rw[e];have h1:=I.ask hi (k:=0) ahE H hn {m.sp (T.pl i 0) (T.sl i 0)with pc:=1} rfl;have Jr:=fX m (T.pl i 0) (T.sl i 0) {m.sp (T.pl i 0) (T.sl i 0)with pc:=1} (by rw[I.len O];exact hj);refine⟨_,.of (h1.thr _) (ir (sF h1 hi) (.come 0 ⟨rfl,rfl,by omega⟩ ?_ (λe5=>?_) λk Y=>by omega) λk Y=>?_)⟩;.rw[Jr,if_pos ⟨rfl,rfl⟩];exact⟨by show(1:Int)<=1;decide,by show(1:Int)<=6;decide⟩
  .rw[Jr,if_pos ⟨rfl,rfl⟩]at e5;exact absurd e5 (by show ¬(1:Int)=5;decide)
  .by_cases e:k=0;.subst e;rw[fV];exact⟨λ_=>by omega,λ_=>rfl⟩
   .rw[fm (λe'=>by
     have V:=H.lv i k hi Y;have e2:=H.lv i 0 hi ahE
     rw[e'.1]at V;omega)]
    rw[o k Y];exact⟨λh=>by omega,λh=>by omega⟩
 .rw[if_neg c0];exact⟨hb,h⟩
def d9.leave(h:d9 T bud m hb)(H:T.Ok)(hi:i<T.n):d9 T bud (j7 T bud m i) hb:=by
 unfold j7;by_cases c0:(sv m.S i).pc=10;.rw[if_pos c0];have hd:=H.d1;obtain⟨K,k,o⟩:=h.t i hi;obtain⟨rfl,h10⟩:=k.of10 c0;exact vW H hi T.D m 0 (h.x i) (λk I=>(o k I).2 I) h10 ahE ahE
 .rw[if_neg c0];exact h
end
end
section
open Go.RowKit
section
variable{T:HTr}{m m':Hm}{i:Nat}
def rK.act{s:Sp}{sp:Nat->Nat->Sp}{sg:Nat->Nat->Int}(k:TSt T sp sg i s K)(O:¬(s.pc=0\/s.pc=10)):∃c:Nat,s.c=c/\c<T.D/\c<K/\(sp (T.pl i c) (T.sl i c)).pc≠0/\(sp (T.pl i c) (T.sl i c)).pc≠10:=by
 cases k with
 |rest h=>exact absurd (.inl h) O
 |come c h H hg I=>exact⟨c,h.2.1,h.2.2,Nat.lt_succ_self _,by omega,by omega⟩
 |granted c h H I=>exact⟨c,h.2.1,h.2.2,h.2.2,by omega,by omega⟩
 |hold h I=>exact absurd (.inr h) O
 |pass c h H I=>exact⟨c,h.2.1,by omega,by omega,by omega,by omega⟩
 |leave c h H hc I=>exact⟨c,h.2.1,h.2.2,Nat.lt_succ_self _,by omega,by omega⟩
def xn(H:T.Ok){i u c:Nat}(hi:i<T.n)(I:u<T.n)(h:T.pl i c=T.pl u c):∀d,c+d+1<T.D->T.pl i (c+d+1)=T.pl u (c+d+1)/\T.sl i (c+d+1)=T.sl u (c+d+1)
 |0,hd=>H.up i u c hi I hd h
 |d+1,hd=>H.up i u (c+d+1) hi I hd (xn H hi I h d ahE).1
def d9.step(h:d9 T bud m hb)(hT:T.Ok)(Jt:0<=bud)(hi:i<T.n):∃O',d9 T bud (jQ T bud m i) O':=by
 unfold jQ;by_cases c0:(sv m.S i).pc=0\/(sv m.S i).pc=10;.rw[if_pos c0];exact⟨hb,h⟩
 rw[if_neg c0];have hx:=h.x i;obtain⟨K,kk,o⟩:=h.t i hi;obtain⟨c,hc,J7,Q9,a0,Om⟩:=rK.act kk c0;rw[hc];simp only[Int.toNat_natCast];have O:=hT.plt i c hi J7;have hj:=hT.slt i c hi J7;have Y:hb (T.pl i c) (T.sl i c)=some i:=(o c J7).2 Q9;have Nc:∀k,k<T.D->k≠c->T.pl i k≠T.pl i c:=λk hk ab e=>by have V:=hT.lv i k hi hk;have e2:=hT.lv i c hi J7;rw[e]at V;omega
 obtain⟨v,KI⟩:=LE (T.pl i c);obtain⟨j,KV⟩:=LE (T.sl i c);have Ky:=hx.va _ _ O hj;rw[<-KI]at O hj Y Ky a0 Om Nc ⊢;rw[<-KV]at hj Y Ky a0 Om ⊢;rw[if_neg (λe=>e.elim a0 Om)];have h0:¬((m.sp v j).pc=0\/(m.sp v j).pc=10):=λe=>e.elim a0 Om;obtain⟨x,TF⟩:=LE (da (arW (m.W v)) 1 ((j:Int)+1) (sv (m.P v) j));have Ri:RtS (T.nv v) x.1.W ((m.P v).set j x.2):=RtS.go (ar:=arW (m.W v)) (hx.rg v O) (hT.nv32 v O) hj rfl h0 TF;obtain⟨R',Rs⟩:=RtS.case (ar:=arW (m.W v)) (hx.rg v O) (hT.nv32 v O) hj rfl h0 TF;have R:RC (T.nv v) (m.W v) x.1.W (m.P v) j (m.sp v j) x.2:=R';clear R';have JQ:rstH m v j={m with W:=aX m.W v x.1.W,P:=aX m.P v ((m.P v).set j x.2)}:=by rw[TF];rfl
 have J4:j<(m.P v).length:=by rw[hx.len O];exact hj
 have Jr:∀a b,(rstH m v j).sp a b=if a=v/\b=j then x.2 else m.sp a b:=λa b=>by rw[JQ];exact fX m v j x.2 J4 a b
 have Ju:(rstH m v j).sp v j=x.2:=by rw[Jr,if_pos ⟨rfl,rfl⟩]
 have YQ:(rstH m v j).sg v j=rS x.1.W (numT j):=by rw[JQ];show rS (aX m.W v x.1.W v) (numT j)=_;rw[aW]
 rw[Ju];have hS:(rstH m v j).S=m.S:=rfl;have MC:∀k,k<T.D->k≠c->(rstH m v j).sp (T.pl i k) (T.sl i k)=m.sp (T.pl i k) (T.sl i k):=λk hk ab=>by rw[Jr,if_neg (λe=>Nc k hk ab e.1)]
 have ng:¬((m.sp v j).pc=14\/(m.sp v j).pc=16)->xt bud x.2->(x.2.pc=5->rS x.1.W (numT j)=0)->HX T bud (rstH m v j) hb i:=λV e2 e3=>by rw[JQ];exact hx.rung O hj Y x.1.W x.2 Ri (Rs V) e2 e3
 have Nw:∀{K:Nat},HX T bud (rstH m v j) hb i->TSt T (rstH m v j).sp (rstH m v j).sg i (sv m.S i) K->(∀k,k<T.D->(hb (T.pl i k) (T.sl i k)=some i↔k<K))->∃O',d9 T bud (rstH m v j) O':=λJ9 k1 o1=>⟨_,.of J9 ⟨_,k1,o1⟩⟩;have QD:∀p:Sp,¬(p.pc=10\/p.pc=15\/p.pc=16)->xt bud p:=λp hp=>⟨λe=>absurd e hp,λe=>absurd (.inr e) hp⟩;cases kk with
 |rest H=>exact absurd (.inl H) c0
 |hold H _=>exact absurd (.inr H) c0
 |come c' H ha hg I=>
  obtain rfl:c=c':=by have:=H.2.1;omega
  rw[<-KI,<-KV]at ha hg
  have stay:1<=x.2.pc->x.2.pc<=6->(x.2.pc=5->¬0<rS x.1.W (numT j))->TSt T (rstH m v j).sp (rstH m v j).sg i (sv m.S i) (c+1):=λV e2 e3=>by
   refine .come c H ?_ (λe5=>?_) λk hk=>?_;.rw[<-KI,<-KV,Ju];exact⟨V,e2⟩
   .rw[<-KI,<-KV]at e5 ⊢;rw[Ju]at e5;rw[YQ];exact e3 e5
   .exact abv
  cases R with
  |come e=>obtain⟨V,e2,e3,e4⟩:=e;rw[if_pos ahE];exact Nw (ng ahE (QD _ ahE) e3) (stay e2.1 e2.2 (λe=>by rw[e3 e];decide)) o
  |told e=>exact absurd e.2.2.1 (hg e.1)
  |hold e=>
   obtain⟨V,e2,e3,e4⟩:=e;rw[if_neg (λhn=>hn (.inr e2)),if_pos H.1];have J9:=ng ahE ⟨λ_=>by omega,λe=>by omega⟩ (λ_=>by omega);unfold jy;rw[<-KI,<-KV,Ju,hS]
   have low:∀k,k<=c->((rstH m v j).sp (T.pl i k) (T.sl i k)).pc=10:=λk hk=>by
    by_cases e:k=c;.subst e;rw[<-KI,<-KV,Ju];exact e2
    .rw[MC k ahE e];exact I k ahE
   by_cases hD:c+1=T.D;.rw[if_pos (.inr hD)];exact⟨_,.of (J9.thr _) (ir (K:=T.D) (sF J9 hi) (.hold rfl λk hk=>low k ahE) λk hk=>by rw[o k hk];omega)⟩
   .rw[if_neg ahE];have Ot:c+1<T.D:=(by omega);have hn:hb (T.pl i (c+1)) (T.sl i (c+1))=none:=J9.upNone hT hi Ot (.inl (by have:=low c (Nat.le_refl _);show 6<=((rstH m v j).sp _ _).pc;omega)) (by rw[<-KI,<-KV];exact Y) (λe=>by have:=(o (c+1) Ot).1 e;omega);have Pj:=hT.plt i (c+1) hi Ot;have Tb:=hT.slt i (c+1) hi Ot;have h0:=J9.fr _ _ Pj Tb hn;have e:iE (rstH m v j) (T.pl i (c+1)) (T.sl i (c+1))=(rstH m v j).slot (T.pl i (c+1)) (T.sl i (c+1)) {(rstH m v j).sp (T.pl i (c+1)) (T.sl i (c+1))with pc:=1}:=(by unfold iE;rw[if_pos h0]);rw[e];have h2:=J9.ask hi Ot hT hn {(rstH m v j).sp (T.pl i (c+1)) (T.sl i (c+1))with pc:=1} rfl;have Tu:=fX (rstH m v j) (T.pl i (c+1)) (T.sl i (c+1)) {(rstH m v j).sp (T.pl i (c+1)) (T.sl i (c+1))with pc:=1} (by rw[J9.len Pj];exact Tb);have Lg:∀k,k<T.D->k≠c+1->¬(T.pl i k=T.pl i (c+1)/\T.sl i k=T.sl i (c+1)):=λk hk ab e=>by have V:=hT.lv i k hi hk;have e2:=hT.lv i (c+1) hi Ot;rw[e.1]at V;omega
    refine⟨_,.of (h2.thr _) (ir (K:=c+1+1) (sF h2 hi) (.come (c+1) ⟨H.1,by show(c:Int)+1=((c+1:Nat):Int);omega,Ot⟩ ?_ (λe5=>?_) λk hk=>?_) λk hk=>?_)⟩;.rw[Tu,if_pos ⟨rfl,rfl⟩];exact⟨by show(1:Int)<=1;decide,by show(1:Int)<=6;decide⟩
    .rw[Tu,if_pos ⟨rfl,rfl⟩]at e5;exact absurd e5 (by show ¬(1:Int)=5;decide)
    .rw[Tu,if_neg (Lg k ahE ahE)];exact low k ahE
    .by_cases e:k=c+1;.subst e;rw[fV];exact⟨λ_=>by omega,λ_=>rfl⟩
     .rw[fm (Lg k hk e),o k hk];omega
  |o e=>have:=e.1;omega
  |free e=>have:=e.1;omega
  |give s e=>have:=e.1;omega
  |look e=>have:=e.1;omega
 |granted c' H ha I=>
  obtain rfl:c=c':=by have:=H.2.1;omega
  rw[<-KI,<-KV]at ha;have XV:0<rS (m.W v) (numT j):=ha.2;cases R with
  |told e=>obtain⟨V,e2,e3,e4,e5⟩:=e;rw[if_neg (λhn=>hn (.inr e2)),if_pos H.1];have Oa:=hx.sa v j O hj ha.1;have al:rS (m.W v) (numT j)=0\/rS (m.W v) (numT j)= -1\/(1<=rS (m.W v) (numT j)/\rS (m.W v) (numT j)<=bud+1):=Oa;have J9:=ng ahE ⟨λ_=>by omega,λe=>by omega⟩ (λ_=>by omega);unfold jy;rw[<-KI,<-KV,Ju,hS,if_pos (.inl e5)];refine⟨_,.of (J9.thr _) (ir (K:=T.D) (sF J9 hi) (.hold rfl λk hk=>?_) o)⟩;exact abw
  |come e=>exact absurd ⟨ha.1,XV⟩ e.2.2.2
  |hold e=>have:=e.1;omega
  |o e=>have:=e.1;omega
  |free e=>have:=e.1;omega
  |give s e=>have:=e.1;omega
  |look e=>have:=e.1;omega
 |pass c' H ha I=>
  obtain rfl:c=c':=by have:=H.2.1;omega
  rw[<-KI,<-KV]at ha;cases R with
  |look e=>
   obtain⟨V,e2,e3,e4⟩:=e;have v1:=Ky.1 (.inr (.inl V));have v2:=Ky.2 (.inl V);have J9:=ng ahE ⟨λ_=>by omega,λ_=>by omega⟩ (λ_=>by omega);rcases e2 with e2|e2
   .rw[if_neg (λhn=>hn (.inr e2)),if_neg ahE,if_neg ahE];refine⟨_,vW hT hi T.D _ (c+1) J9 (λk hk=>(o k hk).2 hk) (λk hk=>?_) H.2.2 ahE⟩;exact abw
   .rw[if_pos ahE];refine Nw J9 (.pass c H ?_ λk hk ab=>?_) o;.rw[<-KI,<-KV,Ju];exact .inr e2
    .rw[MC k hk ab];exact I k hk ab
  |give s e=>
   obtain⟨V,e2,⟨Pf,Pe⟩,e5,SI,e6,e7⟩:=e;have SH:(m.sp v j).pc=16:=(by omega);have v1:=Ky.1 (.inr (.inr SH));have v2:=Ky.2 (.inr SH);obtain⟨u,hu⟩:∃u,hb v s=some u:=by exact abx
   obtain⟨Lh,k,hk,h1,h2⟩:=hx.ow v s u hu;obtain rfl:c=k:=by exact aby
   have Lq:∀k,c<k->k<T.D->T.pl i k=T.pl u k/\T.sl i k=T.sl u k:=λk JE JN=>by obtain⟨d,rfl⟩:∃d,k=c+d+1:=⟨k-c-1,by omega⟩;exact xn hT hi Lh (by rw[<-KI];exact h1) d JN
   have LK:0<rS x.1.W (numT s):=by omega
   obtain⟨_,Ob,O',hg,S5,_⟩:=hx.give hT O hj Y x.1.W x.2 e2 Pf Pe Ri e5 SI e7 (.inr ahE) hu J7 h1 h2 (λ_ k JE JN=>by
    rw[<-(Lq k JE JN).1,<-(Lq k JE JN).2]
    exact⟨I k JN ahE,(o k JN).2 JN⟩)
   rw[<-JQ]at hg;have QZ:=S5 LK;rw[if_neg (λhn=>hn (.inl e2)),if_neg ahE,if_pos e2];have Od:∀k,k<=c->¬∃k',c<k'/\k'<T.D/\T.pl i k=T.pl u k'/\T.sl i k=T.sl u k':=λk NX ⟨k',h3,h4,h5,_⟩=>by have l1:=hT.lv i k hi ahE;have l2:=hT.lv u k' Lh h4;rw[h5]at l1;omega
   have YF:O' v j=some i:=(by rw[QZ,KI,KV,jq (Od c (Nat.le_refl _)),<-KI,<-KV];exact Y);have hrel:=hg.release (by rw[Ju];exact e2) YF;refine⟨_,nU hrel hT hi J7 (λk hk=>?_) λk hk=>?_⟩
   .by_cases e:k=c;.exact abz
    .rw[fm (λe'=>Nc k hk e e'.1),QZ];rcases Nat.lt_or_ge k c with h3|h3
     .rw[jq (Od k ahE),o k hk];omega
     .rw[(Lq k ahE hk).1,(Lq k ahE hk).2,pn ahE hk];exact⟨λh=>(by injection h with h;exact absurd h Ob),λh=>by omega⟩
   .rw[MC k ahE ahE];exact I k ahE ahE
  |come e=>have:=e.1;omega
  |told e=>have:=e.1;omega
  |hold e=>have:=e.1;omega
  |free e=>have:=e.1;omega
  |o e=>have:=e.1;omega
 |leave c' H ha MM I=>
  obtain rfl:c=c':=by have:=H.2.1;omega
  rw[<-KI,<-KV]at ha MM;cases R with
  |o e=>
   obtain⟨V,e6,e3⟩:=e;rw[if_pos ahE];refine Nw (ng ahE (QD _ ahE) (λ_=>by omega)) (.leave c H ?_ ?_ λk hk=>?_) o;.rw[<-KI,<-KV,Ju];exact⟨by omega,e6.2⟩
   .rw[<-KI,<-KV,Ju,e3];exact MM
   .exact abv
  |free e=>obtain⟨V,e2⟩:=e;rw[if_neg (λhn=>hn (.inl e2)),if_neg ahE,if_pos e2];have J9:=ng ahE (QD _ ahE) (λ_=>by omega);have hrel:=J9.release (by rw[Ju];exact e2) Y;exact abA
  |give s e=>
   obtain⟨V,e2,⟨Pf,Pe⟩,e5,SI,e6,e7⟩:=e;have SH:(m.sp v j).pc=14:=(by omega);obtain⟨u,hu⟩:∃u,hb v s=some u:=by exact abx
   obtain⟨Lh,k,hk,h1,h2⟩:=hx.ow v s u hu;obtain rfl:c=k:=by exact aby
   have ad:(c+1=T.D/\rS x.1.W (numT s)=1)\/(c+1≠T.D/\rS x.1.W (numT s)= -1):=by
    rw[e6,MM];by_cases e:c+1=T.D;.exact .inl ⟨e,by rw[if_pos e]⟩
    .exact .inr ⟨e,by rw[if_neg e]⟩
   obtain⟨_,Ob,O',hg,S5,X'⟩:=hx.give hT O hj Y x.1.W x.2 e2 Pf Pe Ri e5 SI e7 ahE hu J7 h1 h2 (λhp k JE JN=>by omega);rw[<-JQ]at hg
   have QZ:O'=hb:=by
    rcases ad with⟨e7,e8⟩|⟨e7,e8⟩
    .rw[S5 ahE];funext a b;exact jq fun⟨k',h3,h4,_⟩=>by omega
    .exact X' ahE
   rw[QZ]at hg;rw[if_neg (λhn=>hn (.inl e2)),if_neg ahE,if_pos e2];have hrel:=hg.release (by rw[Ju];exact e2) Y;exact abA
  |come e=>have:=e.1;omega
  |told e=>have:=e.1;omega
  |hold e=>have:=e.1;omega
  |look e=>have:=e.1;omega
end
end
section
open Go.RowKit
def hm0(T:HTr):Hm:=⟨λv=>List.replicate (2*T.nv v+1) 0,λv=>List.replicate (T.nv v) Sp.zero,List.replicate T.n Sp.zero⟩
def ry(n i:Nat):sv (List.replicate n Sp.zero) i=Sp.zero:=by exact abB
def RtS.start(n:Nat):RtS n (List.replicate (2*n+1) 0) (List.replicate n Sp.zero):=by
 have H:∀x,ldW (List.replicate (2*n+1) 0) x=0:=λx=>by
  unfold ldW;split;.rw[List.getD_eq_getElem?_getD,List.getElem?_replicate];split<;>rfl
  .rfl
 have hN:∀x,rN (List.replicate (2*n+1) 0) x=0:=λx=>by unfold rN;split<;>first|exact H _|rfl
 have I:∀x,rS (List.replicate (2*n+1) 0) x=0:=λx=>by unfold rS;split<;>first|exact H _|rfl
 have hs:∀i,sv (List.replicate n Sp.zero) i=Sp.zero:=λi=>ry _ _
 have O:∀i,¬F4 (rS (List.replicate (2*n+1) 0)) (sv (List.replicate n Sp.zero)) i:=λi h=>by
  rcases h with h|h
  .rw[hs]at h;exact absurd h ahG
  .exact h.2 (I _)
 have z:∀i,(sv (List.replicate n Sp.zero) i).pc=0:=λi=>by rw[hs];rfl
 refine⟨⟨⟨λi j _ _ h=>absurd h (O i),λ_ i _=>O i⟩,by rw[H];omega,λi _=>by rw[z];omega,λi _ _=>I _,λi _ _=>hN _,λi _ h=>?_,λi _ h=>?_,λi j _ _ h=>?_,λj _ h=>?_,λj k _ _ h=>?_,λi _ h=>?_,λi _ h=>?_⟩,by simp,by simp⟩;.rw[H]at h;exact absurd h (by unfold numT;omega)
 all_goals rw[z]at h;omega
def d9.start(T:HTr)(bud:Int):d9 T bud (hm0 T) (λ_ _=>none):=by have hs:∀v j,(hm0 T).sp v j=Sp.zero:=λv j=>ry _ _;have I:∀t,sv (hm0 T).S t=Sp.zero:=λt=>ry _ _;have H:∀t,rK T (hm0 T) (λ_ _=>none) t:=λt=>⟨0,.rest (by rw[I];rfl),λk V=>⟨λh=>(by cases h),λh=>absurd h (Nat.not_lt_zero _)⟩⟩;refine⟨λi=>⟨λv O=>RtS.start _,by simp[hm0],λv j t h=>(by cases h),λv j _ _ _=>by rw[hs];rfl,λt _ _=>H t,λv j _ _=>?_,λv j _ _ h=>by rw[hs]at h;exact absurd h ahG⟩,λt _=>H t⟩;rw[hs];exact⟨λe=>absurd e ahG,λe=>absurd e ahG⟩
def rE(m:Hm)(v j:Nat)(u c:Int):(eI m v j u c).S=m.S:=by unfold eI;split<;>rfl
def EN(m:Hm)(v j:Nat):(iE m v j).S=m.S:=by unfold iE;split<;>rfl
end
section
open Go.RowKit
variable{l q:Nat}{t i f u:Int}
structure Rg where
 ar:Ar
 S:List Sp
def mo(r:Rg)(t i:Int):Rg×Bool:=
 if okI r.S i/\(getS r.S i).pc≠0/\(getS r.S i).pc≠10 then
  (⟨(da r.ar t (i+1) (getS r.S i)).1,r.S.set i.toNat (da r.ar t (i+1) (getS r.S i)).2⟩,decide ((da r.ar t (i+1) (getS r.S i)).2.pc=0\/(da r.ar t (i+1) (getS r.S i)).2.pc=10))
 else(r,false)
def df(r:Rg)(i JR Jv:Int):Rg×Bool:=
 if okI r.S i/\(getS r.S i).pc=JR then(⟨r.ar,r.S.set i.toNat {getS r.S i with pc:=Jv}⟩,true)else(r,false)
def hJ(r:Rg)(i Jv v:Int):Rg×Bool:=
 if okI r.S i/\(getS r.S i).pc=10 then(⟨r.ar,r.S.set i.toNat {getS r.S i with pc:=Jv,c:=v}⟩,true)else(r,false)
structure cW(w:World)(l a g q:Nat)(t:Int)(r:Rg):Prop where
 ar:aB w a g r.ar
 lk:Blk w l 319 #[↑a,int i64 t,slice (some ⟨q,0,none⟩) r.S.length r.S.length]
 sp:dy w q r.S
 la:l≠a
 lg:l≠g
 lq:l≠q
 qa:q≠a
 qg:q≠g
 len:r.S.length<=32
def cW.turns{r:Rg}{T:List Nat}(h:cW w l a g q t r)(k:aa T w w')(h1:l∉T)(H:a∉T)(I:g∉T)(O:q∉T):cW w' l a g q t r:=
 ⟨h.ar.turns k H I,k.blk h.lk h1,h.sp.turns k O,h.la,h.lg,h.lq,h.qa,h.qg,h.len⟩
def cW.below{r:Rg}(h:cW w l a g q t r)(k:Below w.heap.size w w'):cW w' l a g q t r:=
 h.turns (T:=[]) (aa.of_below k) ahF ahF ahF ahF
def iZ{r:Rg}(h:cW w l a g q t r):E 263 #[↑l] w λe w'=>e= returned (J r.S.length)/\w=w':=by refine akb ?_;intro c2;clear h;go_enter func263,ntmps263;go_wp2;go_ret;exact⟨rfl,rfl⟩
def oO{r:Rg}(h:cW w l a g q t r)(i:Int):E 257 #[↑l,J i] w λe w'=>e= returned (aF (getS r.S i))/\Below w.heap.size w w':=by
  have Y:=h.len;by_cases hi:okI r.S i;. have hp:=dG hi;obtain⟨p,O⟩:=LE (getS r.S i);rw[<-O]at hp ⊢;refine akb ?_;intro c2;refine ai1 ?_;intro a0 a1 a2 a3;obtain⟨I,h1⟩:=hi;obtain⟨n,rfl⟩:=Int.eq_ofNat_of_zero_le I;simp only[Int.toNat_natCast]at a0 a1 a2 a3;have Ju:=h.lk.lt;have Jx:=h.sp.lt;have t2:¬(n:Int)<0:=(by omega);have V:¬((r.S.length:Nat):Int)<=(n:Int):=(by omega);have t4:n<r.S.length:=(by omega);have H:Kq (cW (w.alloc (cells #[J 0,J 0,J 0,J 0] 113)) l a g q t r):=qh (h.below ((Below.refl _ _).alloc (Nat.le_refl _) _));clear h hp O I h1;go_enter func257,ntmps257;go_wp2_with (go_at_call 263;refine(iZ H.o).mono ?_;rintro e w' ⟨rfl,rfl⟩);exact bodyPost_ret (results_cell_row ahI _ _ w.heap.size 113 _ (0,0) _ ahI (heap_alloc_new w _) Tryz.underlying113 rfl ahH) rfl ⟨rfl,(Below.refl _ _).alloc (Nat.le_refl _) _⟩
  . have H:Kq (cW (w.alloc (cells #[J 0,J 0,J 0,J 0] 113)) l a g q t r):=qh (h.below ((Below.refl _ _).alloc (Nat.le_refl _) _));rw[dz hi];unfold okI at hi;clear h;by_cases I:i<0;. go_enter func257,ntmps257;go_wp2;exact bodyPost_ret (results_cell_row ahI _ _ w.heap.size 113 _ (0,0) _ ahI (heap_alloc_new w _) Tryz.underlying113 rfl ahH) rfl ⟨rfl,(Below.refl _ _).alloc (Nat.le_refl _) _⟩
    . have V:((r.S.length:Nat):Int)<=i:=(by omega);clear hi;go_enter func257,ntmps257;go_wp2_with (go_at_call 263;refine(iZ H.o).mono ?_;rintro e w' ⟨rfl,rfl⟩);exact bodyPost_ret (results_cell_row ahI _ _ w.heap.size 113 _ (0,0) _ ahI (heap_alloc_new w _) Tryz.underlying113 rfl ahH) rfl ⟨rfl,(Below.refl _ _).alloc (Nat.le_refl _) _⟩
def rF(w:World)(l a g q:Nat)(t:Int)(x:Rg×Bool)(e:Ending)(w':World):Prop:=e= returned (.bool x.2)/\cW w' l a g q t x.1/\aa [q] w w'
def cW.spot{r:Rg}(h:cW w l a g q t r){H:List Sp}(hs:dy w' q H)(I:H.length=r.S.length)(k:aa [q] w w'):cW w' l a g q t ⟨r.ar,H⟩:=
 ⟨h.ar.turns k (by simpa using λe=>h.qa e.symm) (by simpa using λe=>h.qg e.symm),by
  have:=k.blk h.lk (by simpa using h.lq)
  show Blk w' l _ #[↑a,J t,slice (some ⟨q,0,none⟩) H.length H.length]
  rw[I];exact this,hs,h.la,h.lg,h.lq,h.qa,h.qg,by show H.length<=32;rw[I];exact h.len⟩
def pM{r:Rg}(h:cW w l a g q t r)(i O V:Int):E 262 #[↑l,J i,J O,J V] w (rF w l a g q t (df r i O V)):=by
  have H:=qh h;have J4:=h.len;by_cases hi:okI r.S i
  . have hp:=dG hi;obtain⟨p,i'⟩:=LE (getS r.S i);rw[<-i']at hp;refine akb ?_;intro c2;refine akf ?_;intro a0;have f0:=h.sp.free (i.toNat*4);obtain⟨h0,h1⟩:=id hi;obtain⟨n,rfl⟩:=Int.eq_ofNat_of_zero_le h0;simp only[Int.toNat_natCast]at a0 f0 hp;have t2:¬(n:Int)<0:=(by omega);have t3:¬((r.S.length:Nat):Int)<=(n:Int):=(by omega);have t4:n<r.S.length:=(by omega);have Y:=qh (And.intro hi (And.intro i' hp));clear h hp i' h0 h1 hi;cases hc:(p.pc !=O)
    . have I:Kq (df r n O V=(⟨r.ar,r.S.set n {p with pc:=V}⟩,true)):=qh (by
        unfold df;have e:p.pc=O:=by simpa using hc
        rw[<-Y.o.2.1,if_pos ⟨Y.o.1,e⟩];simp)
      go_enter func262,ntmps262;go_wp2_with (go_at_call 263;refine(iZ H.o).mono ?_;rintro e w' ⟨rfl,rfl⟩);go_ret;rw[I.o];have ht:aa [q] w (w.setCell ⟨q,n*4,none⟩ (J V)):=(aa.refl _ _).setCell (.inl ahF) _;exact⟨rfl,H.o.spot (H.o.sp.put Y.o.2.2 (j:=0) ahG rfl) ahF ht,ht⟩
    . have I:Kq (df r n O V=(r,false)):=qh (by
        unfold df;have e:¬p.pc=O:=by simpa using hc
        rw[<-Y.o.2.1,if_neg (λh=>e h.2)])
      go_enter func262,ntmps262;go_wp2_with (go_at_call 263;refine(iZ H.o).mono ?_;rintro e w' ⟨rfl,rfl⟩);go_ret;rw[I.o];exact⟨rfl,H.o,aa.refl _ _⟩
  . have I:Kq (df r i O V=(r,false)):=qh (by
      unfold df
      rw[if_neg (λh=>hi h.1)])
    unfold okI at hi;clear h;by_cases h0:i<0;. go_enter func262,ntmps262;go_wp2;go_ret;rw[I.o];exact⟨rfl,H.o,aa.refl _ _⟩
    . have t3:((r.S.length:Nat):Int)<=i:=(by omega);clear hi;go_enter func262,ntmps262;go_wp2_with (go_at_call 263;refine(iZ H.o).mono ?_;rintro e w' ⟨rfl,rfl⟩);go_ret;rw[I.o];exact⟨rfl,H.o,aa.refl _ _⟩
def CD{r:Rg}(h:cW w l a g q t r)(i:Int):E 256 #[↑l,J i] w (rF w l a g q t (df r i 0 1)):=by go_enter func256,ntmps256;have H:=qh h;clear h;go_wp2_with fail;refine Op (pM H.o i 0 1) λw1 H1=>?_;obtain⟨b,I⟩:=LE ((df r i 0 1).2);rw[<-I];have O:=qh I;clear I;go_wp2;go_ret;exact⟨by rw[O.o];rfl,H1.o.1,H1.o.2⟩
theorem uh{r:Rg}(h:(df r i f u).2=true):okI r.S i/\(getS r.S i).pc=f/\(df r i f u).1=⟨r.ar,r.S.set i.toNat {getS r.S i with pc:=u}⟩:=by
 unfold df at *;split at h;.rename_i hc;rw[if_pos hc];exact⟨hc.1,hc.2,rfl⟩
 .cases h
theorem rX{r:Rg}(h:(df r i f u).2=false):¬(okI r.S i/\(getS r.S i).pc=f)/\(df r i f u).1=r:=by
 unfold df at *;split at h;.cases h
 .rename_i hc;rw[if_neg hc];exact⟨hc,rfl⟩
def tV{r:Rg}(h:cW w l a g q t r)(i O v:Int):E 268 #[↑l,J i,J O,J v] w (rF w l a g q t (hJ r i O v)):=by
  have H:=qh h;clear h;go_enter func268,ntmps268;go_wp2_with fail;refine(pM H.o i 10 O).mono ?_;rintro en w1 ⟨rfl,h1,t1⟩;cases I:(df r i 10 O).2;. obtain⟨hc,V⟩:=rX I;rw[V]at h1;have Y:Kq (hJ r i O v=(r,false)):=qh (by unfold hJ;rw[if_neg hc]);have H1:=qh (And.intro h1 t1);clear h1 t1 I hc V;go_wp2;go_ret;rw[Y.o];exact⟨rfl,H1.o.1,H1.o.2⟩
  . obtain⟨hi,hc,V⟩:=uh I;rw[V]at h1;have JW:=dG hi;have J4:=h1.len;simp only[List.length_set]at J4;obtain⟨h0,h9⟩:=id hi;obtain⟨n,rfl⟩:=Int.eq_ofNat_of_zero_le h0;simp only[Int.toNat_natCast]at h1 JW;have hp:(r.S.set n {getS r.S n with pc:=O})[n]? =some {getS r.S n with pc:=O}:=(by have:n<r.S.length:=(by omega);simp[this]);have c2:Z w1 l 2 (slice (some ⟨q,0,none⟩) r.S.length r.S.length):=(by have:=h1.lk.cell 2;simpa using this);have a3:=h1.sp.cell hp 3 _ rfl;have f3:=h1.sp.free (n*4+3);have t4:n<r.S.length:=(by omega);have t5:(n:Int)<r.S.length:=(by omega);have Y:Kq (hJ r n O v=(⟨r.ar,r.S.set n {getS r.S n with pc:=O,c:=v}⟩,true)):=qh (by unfold hJ;rw[if_pos ⟨hi,hc⟩];simp);have H1:=qh (And.intro h1 (And.intro t1 hp));clear h1 t1 I hc V hp hi JW h0 h9;go_wp2;go_ret;rw[Y.o];have ht:aa [q] w1 (w1.setCell ⟨q,n*4+3,none⟩ (J v)):=(aa.refl _ _).setCell (.inl ahF) _;refine⟨rfl,?_,H1.o.2.1.trans ht⟩;have h2:=H1.o.1.spot (H1.o.1.sp.put H1.o.2.2 (j:=3) (u:= J v) (p':={getS r.S n with pc:=O,c:=v}) ahG rfl) ahF ht;simpa using h2
def yg{r:Rg}(h:cW w l a g q t r)(i v:Int):E 264 #[↑l,J i,J v] w (rF w l a g q t (hJ r i 11 v)):=by have H:=qh h;clear h;go_enter func264,ntmps264;go_wp2_with fail;refine Op (tV H.o i 11 v) λw1 H1=>?_;obtain⟨b,I⟩:=LE ((hJ r i 11 v).2);rw[<-I];have O:=qh I;clear I;go_wp2;go_ret;exact⟨by rw[O.o];rfl,H1.o.1,H1.o.2⟩
def BN{r:Rg}(h:cW w l a g q t r)(i v:Int):E 265 #[↑l,J i,J v] w (rF w l a g q t (hJ r i 15 v)):=by have H:=qh h;clear h;go_enter func265,ntmps265;go_wp2_with fail;refine Op (tV H.o i 15 v) λw1 H1=>?_;obtain⟨b,I⟩:=LE ((hJ r i 15 v).2);rw[<-I];have O:=qh I;clear I;go_wp2;go_ret;exact⟨by rw[O.o];rfl,H1.o.1,H1.o.2⟩
def jI{r:Rg}(h:cW w l a g q t r)(x:Int):E 269 #[↑l,J x] w λe w'=>e= returned (J (nxA t x))/\w=w':=by have c1:Z w l 1 (J t):=h.lk.cell 1;clear h;go_enter func269,ntmps269;go_wp2;go_ret;exact⟨rfl,rfl⟩
def jP{r:Rg}(h:cW w l a g q t r)(x:Int):E 270 #[↑l,J x] w λe w'=>e= returned (J (stA t x))/\w=w':=by have c1:Z w l 1 (J t):=h.lk.cell 1;clear h;go_enter func270,ntmps270;go_wp2;go_ret;exact⟨rfl,rfl⟩
end
section
open Go.RowKit
def gaC(a N:Nat):Array Value:=#[↑a,J 1,J N]
def AJ{s:Ar}(h:aB w a g s)(N:Nat)(h1:1<=N)(O:N<=32)(hs:s.W=[])(V:s.room=4096):E 174 #[↑a,J N] w λe w'=>∃gg,e= returned (tuple #[pointer (some ⟨gg,0,none⟩),J 0])/\w.heap.size<=gg/\Blk w' gg 365 (gaC a N)/\aB w' a g (bp s (2*N))/\aa [a] w w':=by
  have H:=mD h (2*N) (by rw[hs,V];simp;omega);rw[hs]at H;have I:=qh H;have Y:IntKind.i64.wrap (2*(N:Int))=((2*N:Nat):Int):=by rw[IntWalk.i64_in _ ahE];omega
  have t1:¬(N:Int)<1:=by omega
  have t2:¬32<(N:Int):=by omega
  clear h hs V H;go_enter func174,ntmps174;go_wp2_with fail;refine Op I.o λw1 H1=>?_;clear I;go_wp2;go_ret2;have s1:=H1.o.2.size;refine⟨w1.heap.size,by simp,s1,?_,H1.o.1.turns (S:=[]) ((aa.refl _ _).alloc _) ahF ahF,H1.o.2.alloc _⟩;have:=Blk.new w1 365 (gaC a N);simpa[gaC]using this
section
variable{gg N:Nat}{s:Ar}
def Dk(h:Blk w gg 365 (gaC a N)):E 383 #[↑gg] w λe w'=>e= returned (J N)/\w=w':=by have c2:Z w gg 2 (J N):=h.cell 2;clear h;go_enter func383,ntmps383;exact aaa
def AI(h:Blk w gg 365 (gaC a N))(nd:Nat)(I:nd<N)(hN:N<=32):E 380 #[↑gg,J nd] w λe w'=>e= returned (J (2*(nd:Int)+1))/\w=w':=by
 have c1:Z w gg 1 (J 1):=h.cell 1;have H:=qh (Dk h);have t1:¬(nd:Int)<0:=by omega
 have t2:¬(N:Int)<=(nd:Int):=by omega
 have O:IntKind.i64.wrap (2*(nd:Int))=2*(nd:Int):=IntWalk.i64_in _ ahE;have V:IntKind.i64.wrap (1+2*(nd:Int))=2*(nd:Int)+1:=by rw[IntWalk.i64_in _ ahE];omega
 clear h;go_enter func380,ntmps380;go_wp2_with fail;refine LT H.o ?_;exact aaa
def Er(h:Blk w gg 365 (gaC a N))(V:aB w a g s)(nd:Nat)(hn:nd<N)(hN:N<=32)(k:Nat)(hk:k<=1)(Y:s.ops+1<=1000000000000):E 375 #[↑gg,J nd,J k] w λe w'=>e= returned (tuple #[])/\aB w' a g (addA s (2*(nd:Int)+1+k) 1)/\aa [a,g] w w':=by
 have c0:w.cell? gg=some ↑a:=h.cell 0;have I:=qh (AI h nd hn hN);have t1:(0:Int)<2*(nd:Int)+1:=by omega
 have x1:IntKind.i64.wrap (2*(nd:Int)+1+(k:Int))=2*(nd:Int)+1+(k:Int):=IntWalk.i64_in _ ahE;obtain⟨o,O⟩:∃o:Int,o=2*(nd:Int)+1:=⟨_,rfl⟩;rw[<-O]at I t1 x1 ⊢;have H:=qh (ii V (o+(k:Int)) 1 Y);clear h V O;go_enter func375,ntmps375;go_wp2_with fail;refine LT I.o ?_;go_wp2_with fail;refine Op H.o λw1 H1=>?_;clear H;go_wp2;all_goals go_end0;exact⟨rfl,H1.o.1,H1.o.2⟩
def qI(h:Blk w gg 365 (gaC a N))(I:aB w a g s)(nd:Nat)(O:nd<N)(hN:N<=32)(Y:s.ops+1<=1000000000000):E 371 #[↑gg,J nd] w λe w'=>e= returned (tuple #[])/\aB w' a g (addA s (2*(nd:Int)+1) 1)/\aa [a,g] w w':=by have H:=Er h I nd O hN 0 ahE Y;rw[show 2*(nd:Int)+1+((0:Nat):Int)=2*(nd:Int)+1 by omega]at H;have HA:=qh H;clear h I H;go_enter func371,ntmps371;exact abI
def qJ(h:Blk w gg 365 (gaC a N))(I:aB w a g s)(nd:Nat)(O:nd<N)(hN:N<=32)(Y:s.ops+1<=1000000000000):E 372 #[↑gg,J nd] w λe w'=>e= returned (tuple #[])/\aB w' a g (addA s (2*(nd:Int)+1+1) 1)/\aa [a,g] w w':=by have H:=Er h I nd O hN 1 ahE Y;rw[show 2*(nd:Int)+1+((1:Nat):Int)=2*(nd:Int)+1+1 by omega]at H;have HA:=qh H;clear h I H;go_enter func372,ntmps372;exact abI
end
end
section
open Go Go.RowKit
theorem Tryz.infoAtS:(prog.info? 129).map (λi=>(i.zero,i.size,i.bytes))=some (some (agg #[J 0,bool false]),2,16):=by kernel_rfl
def py(x:Int×Bool):List Value:=[J x.1,.bool x.2]
def kM(x:Int×Bool):(py x).length=2:=rfl
structure gc(w:World)(sb ab:Nat)(L:List (Int×Bool)):Prop where
 lk:Blk w sb 124 #[slice (some ⟨ab,0,none⟩) L.length L.length]
 row:Blk w ab 129 (L.flatMap py).toArray
 ne:sb≠ab
 n32:L.length<=32
section
variable{sb ab:Nat}{L:List (Int×Bool)}{S:List Nat}
def gc.far(h:gc w sb ab L)(t:aa S w w')(h1:sb∉S)(H:ab∉S):gc w' sb ab L:=⟨t.blk h.lk h1,t.blk h.row H,h.ne,h.n32⟩
def gc.below(h:gc w sb ab L)(b:Below w.heap.size w w'):gc w' sb ab L:=h.far (aa.of_below (S:=[]) b) ahF ahF
def gc.cell(h:gc w sb ab L){i:Nat}{x:Int×Bool}(H:L[i]? =some x):Z w ab (i*2) (J x.1)/\Z w ab (i*2+1) (.bool x.2):=by
 rw[h.row.cell,h.row.cell];constructor;.simpa using bX py 2 kM L i x 0 _ H rfl
 .simpa using bX py 2 kM L i x 1 _ H rfl
def gc.put(h:gc w sb ab L){i:Nat}{x:Int×Bool}(I:L[i]? =some x)(y:Int×Bool):gc ((w.setCell ⟨ab,i*2,none⟩ (J y.1)).setCell ⟨ab,i*2+1,none⟩ (.bool y.2)) sb ab (L.set i y):=by
 refine⟨?_,?_,h.ne,by simpa using h.n32⟩;.rw[List.length_set];exact(h.lk.far h.ne _).far h.ne _
 .have h1:=(h.row.set_ (i*2) (J y.1)).set_ (i*2+1) (.bool y.2);rw[List.setIfInBounds_toArray,List.setIfInBounds_toArray]at h1;have H:=mQ py 2 kM L i x (y.1,x.2) 0 (J y.1) I ahG rfl;rw[Nat.add_zero]at H;rw[H]at h1;have O:=(List.getElem?_eq_some_iff.1 I).1;rw[mQ py 2 kM (L.set i (y.1,x.2)) i (y.1,x.2) y 1 (.bool y.2) (by rw[List.getElem?_set_self O]) ahG rfl,List.set_set]at h1;exact h1
def Ge(n:Nat):(madeCells #[Value.int .i64 0,bool false] (n*2)).toList=(List.replicate n ((0:Int),false)).flatMap py:=by
 have e:∀m,(List.replicate m ((0:Int),false)).flatMap py=(List.range (m*2)).map (λi=>if i%2=0 then Value.int .i64 0 else bool false):=by
  intro m;induction m with
  |zero=>rfl
  |succ m h=>rw[List.replicate_succ',List.flatMap_append,h,show(m+1)*2=m*2+1+1 by omega,List.range_succ,List.range_succ,List.map_append,List.map_append,List.append_assoc];congr 1;simp[py]
 rw[e];unfold madeCells;rw[Array.toList_map,Array.toList_range];refine List.map_congr_left λi _=>?_;have:i%2=0\/i%2=1:=by omega
 rcases this with e|e<;>simp[e]
def Hi(w:World)(n:Nat)(h1:1<=n)(h2:n<=32):E 22 #[J n] w λe w'=>∃sb ab,e= returned (pointer (some ⟨sb,0,none⟩))/\gc w' sb ab (List.replicate n (0,false))/\w.heap.size<=sb/\w.heap.size<=ab/\Below w.heap.size w w':=by
  obtain⟨i0,hi,Y,JH,h⟩:=info_parts Tryz.infoAtS;go_enter func22,ntmps22;go_wp2_with (refine wpList_make_full _ rfl _ _ 122 rfl w.heap.size 129 i0 (agg #[J 0,bool false]) 2 Tryz.underlying122 hi Y JH .i64 .i64 n n n rfl rfl rfl rfl ?b2 ?b3 (Nat.le_refl _) ?_);case b2=>rw[h];omega
  case b3=>unfold maxLen;omega
  intro w2 O hg;have b2:=(Below.refl w.heap.size w).grown hg (Nat.le_refl _) (λj hj=>by cases hj);have I:Blk w2 w.heap.size 129 ((List.replicate n ((0:Int),false)).flatMap py).toArray:=by have H:=fU O;have e:(madeCells #[Value.int .i64 0,bool false] (n*2)).toList=_:=Ge n;rw[e]at H;exact H
  have V:=qh (show ∃sb ab,(Ending.returned ↑w2.heap.size)= returned (pointer (some ⟨sb,0,none⟩))/\gc (w2.alloc (cells #[slice (some ⟨w.heap.size,0,none⟩) n n] 124)) sb ab (List.replicate n (0,false))/\w.heap.size<=sb/\w.heap.size<=ab/\Below w.heap.size w (w2.alloc (cells #[slice (some ⟨w.heap.size,0,none⟩) n n] 124))from by
    have hl:=I.lt;refine⟨w2.heap.size,w.heap.size,rfl,⟨?_,I.alloc _,by omega,by simpa using h2⟩,by omega,Nat.le_refl _,b2.alloc ahE _⟩;rw[List.length_replicate]
    exact Blk.new w2 _ _)
  clear O hg b2 I;go_wp2;go_ret;exact V.o
end
end
section
open Go.RowKit
def uA(P T:List Int):Bool:=decide (P.length<=60/\T.length<=60)
def wD(w:World)(O V:Value)(P T:List Int)(b:Bool)(I:uA P T=b)(Y:RdL w O 1 encI P)(hT:RdL w V 1 encI T):E 40 #[agg #[O,V]] w λe w'=>e= returned (.bool b)/\Below w.heap.size w w':=by
  obtain⟨AP,cP,rfl,TK,TL,_⟩:=Y;obtain⟨AT,cT,rfl,Qr,Qs,_⟩:=hT;have h:=qh I;clear I;go_enter func40,ntmps40;by_cases h1:P.length<=60
  . by_cases H:T.length<=60;. go_wp2;go_ret;exact⟨aA (by rw[<-h.o];simp[uA,h1,H];omega),(Below.refl _ _).alloc (Nat.le_refl _) _⟩
    . go_wp2;go_ret;exact⟨aA (by rw[<-h.o];simp[uA,H];omega),(Below.refl _ _).alloc (Nat.le_refl _) _⟩
  . go_wp2;go_ret;exact⟨aA (by rw[<-h.o];simp[uA,h1]),(Below.refl _ _).alloc (Nat.le_refl _) _⟩
end
end Go.Proofs.YtglokdbiggbkjaaGreat
