/- Joined texts. -/
import Derived.RowKit
import Derived.Test.YtglokdbiggbkjaaGreatMgWorldTrace0
import Derived.Test.YtglokdbiggbkjaaGreatMgWorldTrace2
import Derived.Test.YtglokdbiggbkjaaGreatMgWorldTrace3
set_option linter.unusedVariables false
set_option linter.unusedSimpArgs false
set_option linter.defProp false
set_option maxRecDepth 100000
set_option maxHeartbeats 16000000
open Go.Proofs.Tryz
namespace Go.Proofs.YtglokdbiggbkjaaGreat
open Go.IntKind(i64)
open Go.Value(int bool slice agg tuple pointer)
open Go.Ending(returned)
open Go.Obj(cells)
variable{v K j k a b c:Nat}{bud:Int}{hb O':Nat->Nat->Option Nat}
section
open Go Go.RowKit
def nxA(t x:Int):Int:=wrap64 (wrap64 (t+wrap64 (2*x))-1)
def stA(t x:Int):Int:=wrap64 (t+wrap64 (2*x))
def iU(s:Ar)(t x:Int)(p:Sp):Ar×Sp:=
 if p.pc=1 then(ae s (nxA t x) 0,{p with pc:=2})
 else if p.pc=2 then(ae s (stA t x) 0,{p with pc:=3})
 else if p.pc=3 then(cz s t x,{p with a:=ldW s.W t,pc:=if ldW s.W t=0 then 6 else 4})
 else if p.pc=4 then(ae s (nxA t p.a) x,{p with pc:=5})
 else if p.pc=5 then(af s (stA t x),if 0<ldW s.W (stA t x)then {p with a:=ldW s.W (stA t x),b:=0,pc:=10} else if ldW s.W (stA t x)<0 then {p with a:=ldW s.W (stA t x),pc:=6} else {p with a:=ldW s.W (stA t x),pc:=5})
 else(ae s (stA t x) 1,{p with a:=1,b:=1,pc:=10})
def eJ(s:Ar)(t x:Int)(p:Sp):Ar×Sp:=
 if p.pc=12 then(dY s t x 0,{p with pc:=if cK s t x then 0 else 13})
 else if p.pc=14 then(ae s (stA t p.a) p.c,{p with pc:=0})
 else if p.pc=15 then(af s (nxA t x),{p with b:=ldW s.W (nxA t x),pc:=if ldW s.W (nxA t x)=0 then 10 else 16})
 else if p.pc=16 then(ae s (stA t p.b) p.c,{p with pc:=0})
 else(af s (nxA t x),{p with a:=ldW s.W (nxA t x),pc:=if ldW s.W (nxA t x)≠0 then 14 else if p.pc=11 then 12 else 13})
def df(s:Ar)(t x:Int)(p:Sp):Ar×Sp:=if p.pc<10 then iU s t x p else eJ s t x p
end
section
open Go
variable{ar:Ar}{p:Sp}{r:Ar×Sp}
def rN(W:List Int)(x:Int):Int:=if 1<=x then ldW W (2*x)else 0
def rS(W:List Int)(x:Int):Int:=if 1<=x then ldW W (2*x+1)else 0
abbrev GV(S:Int->Int)(σ:Nat->Sp):Nat->Prop:=jh 6 (λv=>v≠0) S σ
structure RtI(n:Nat)(t:Int)(N S:Int->Int)(σ:Nat->Sp):Prop where
 tk:jm n (GV S σ) (t=0)
 vt:0<=t/\t<=n
 pcs:∀i,i<n->(0<=(σ i).pc/\(σ i).pc<=6)\/(10<=(σ i).pc/\(σ i).pc<=16)
 z:∀i,i<n->(σ i).pc=3\/(σ i).pc=4->S (numT i)=0
 n2:∀i,i<n->(σ i).pc=2\/(σ i).pc=3->N (numT i)=0
 tl:∀i,i<n->t=numT i->4<=(σ i).pc/\N t=0
 l:∀i,i<n->(σ i).pc=4->(1<=(σ i).a/\(σ i).a<=n)/\t≠(σ i).a/\N (σ i).a=0/\∀j,j<n->numT j=(σ i).a->4<=(σ j).pc/\j≠i
 u4:∀i j,i<n->j<n->(σ i).pc=4->(σ j).pc=4->(σ i).a=(σ j).a->i=j
 nx:∀j,j<n->4<=(σ j).pc->N (numT j)≠0->(1<=N (numT j)/\N (numT j)<=n)/\∀i,i<n->numT i=N (numT j)->(σ i).pc=5/\S (numT i)=0
 u:∀j k,j<n->k<n->4<=(σ j).pc->4<=(σ k).pc->N (numT j)≠0->N (numT j)=N (numT k)->j=k
 s14:∀i,i<n->(σ i).pc=14->N (numT i)=(σ i).a/\(σ i).a≠0
 s16:∀i,i<n->(σ i).pc=16->N (numT i)=(σ i).b/\(σ i).b≠0
structure RtS(n:Nat)(W:List Int)(S:List Sp):Prop where
 i:RtI n (ldW W 1) (rN W) (rS W) (sv S)
 len:S.length=n
 wln:W.length=2*n+1
section
variable{n:Nat}{W:List Int}
def ru{m:Nat}(wl:W.length=m)(a v b:Int):ldW (stW W a v) b=if b=a/\1<=a/\a<=m then v else ldW W b:=by exact abi
theorem uf(wl:W.length=2*n+1)(x v:Int)(h1:1<=x)(h:x<=n):ldW (stW W (2*x) v) 1=ldW W 1/\rN (stW W (2*x) v)=updF (rN W) x v/\rS (stW W (2*x) v)=rS W:=by exact abp
theorem qD(wl:W.length=2*n+1)(x v:Int)(h1:1<=x)(h:x<=n):ldW (stW W (2*x+1) v) 1=ldW W 1/\rN (stW W (2*x+1) v)=rN W/\rS (stW W (2*x+1) v)=updF (rS W) x v:=by exact abp
theorem xQ(wl:W.length=2*n+1)(v:Int):ldW (stW W 1 v) 1=v/\rN (stW W 1 v)=rN W/\rS (stW W 1 v)=rS W:=by simp only[funext_iff,rN,rS,ru wl];exact aaZ
end
def Cv(j:Nat):1<=numT j:=by unfold numT;omega
theorem RtS.go{n i:Nat}{S:List Sp}(k:RtS n ar.W S)(hn:n<=32)(hi:i<n)(hp:p=sv S i)(h0:¬(p.pc=0\/p.pc=10))(V:r=df ar 1 (numT i) p):RtS n r.1.W (S.set i r.2):=by
 have hs:∀q,sv (S.set i q)=λj=>if j=i then q else sv S j:=λq=>by funext j;rw[bh];grind [k.len]
 refine ajG ?_;intro lN lS MJ inj;have MP:=Cv;obtain⟨⟨tk,vt,pcs,z,n2,tl,l,u4,nx,u,s14,s16⟩,len,wln⟩:=k;have Ld:1<=numT i/\numT i<=n:=by unfold numT;omega
 have hA:∀x:Int,1<=x->x<=n->nxA 1 x=2*x/\stA 1 x=2*x+1:=λx h1 h2=>by unfold nxA stA RowKit.wrap64;omega
 have h2:=pcs i hi;have Y:=l i hi;have Mn:=s14 i hi;have M9:=s16 i hi;have O:=nx i hi;rw[<-hp]at h2 Y Mn M9 O;obtain⟨pc,a,b,c⟩:=p;simp only at h0 h2 Y Mn M9 O;have hc:pc=1\/pc=2\/pc=3\/pc=4\/pc=5\/pc=6\/pc=11\/pc=12\/pc=13\/pc=14\/pc=15\/pc=16:=by omega
 rcases hc with rfl|rfl|rfl|rfl|rfl|rfl|rfl|rfl|rfl|rfl|rfl|rfl
 all_goals simp[df,iU,eJ,hA (numT i) Ld.1 Ld.2,MJ,lN (numT i) Ld.1,lS (numT i) Ld.1]at V;repeat' split at V
 all_goals
  try rw[(hA a ahy ahy).1]at V
  try rw[(hA a ahy ahy).2]at V
  try rw[(hA b ahy ahy).2]at V
  subst V;refine⟨?_,by simp[len],?_⟩
 all_goals try simp only[ay,aQ,dQ,gX]
 all_goals try simp only[MJ,decide_eq_true_eq]
 all_goals try first|rw[if_pos ahR]|rw[if_neg ahR]
 all_goals try first|(simp only[bQ,wln];done)
 all_goals rw[hs]
 all_goals try first
  |rw[(uf wln _ _ ahy ahy).1,(uf wln _ _ ahy ahy).2.1,(uf wln _ _ ahy ahy).2.2]
  |rw[(qD wln _ _ ahy ahy).1,(qD wln _ _ ahy ahy).2.1,(qD wln _ _ ahy ahy).2.2]
  |rw[(xQ wln _).1,(xQ wln _).2.1,(xQ wln _).2.2]
 all_goals have Ou:=congrArg Sp.pc hp.symm;have Pp:=congrArg Sp.a hp.symm;dsimp only at Ou Pp;clear hs lN lS MJ hp wln len hA hn;generalize Rp:(λj=>if j=i then _ else sv S j)=σ';have H:=λj=>(congrFun Rp j).symm;clear Rp;generalize sv S=σ at *;generalize ldW ar.W 1=t at *;generalize rN ar.W=N at *;generalize rS ar.W=G at *;have hx:∀x:Int,1<=x->x<=n->∃j,j<n/\numT j=x:=λx h1 h2=>⟨(x-1).toNat,by omega,by unfold numT;omega⟩
 all_goals
  refine⟨?_,by omega,λj I=>?_,λj I=>?_,λj I=>?_,λj I=>?_,λj I=>?_,λj k I hk=>?_,λj I=>?_,λj k I hk=>?_,λj I=>?_,λj I=>?_⟩;.first|exact tk.own hi H ahy aii aip|exact tk.o hi H ahy ahA ahM aiq|exact tk.low hi H aiJ ahA aii|exact tk.door hi H ahy ahM ahy|exact tk.ent hi H ahy (show G (numT i)≠0 by omega)
  .have e:=H j;have:=pcs j I;clear tk vt pcs z n2 tl l u4 nx u s14 s16 h2 Y Mn M9 O inj MP hx H;grind
  .have e:=H j;have:=z j I;have h1:=λa b=>(O a b).2 j I;have h3:=inj j i;clear tk vt pcs z n2 tl l u4 nx u s14 s16 h2 Y O inj MP hx H;exact abq
  .have e:=H j;have:=n2 j I;have h3:=inj j i;have h1:=λh=>(Y h).2.2.2 j I;clear tk vt pcs z n2 tl l u4 nx u s14 s16 h2 Y Mn M9 O inj MP hx H;exact abq
  .have e:=H j;have h1:=tl j I;have hq:=MP j;have h3:=inj j i;have h5:=n2 i hi;clear tk vt pcs z n2 tl l u4 nx u s14 s16 h2 O inj MP hx H;exact abq
  .have e:=H j;have h1:=l j I;have h5:=n2 i hi;have h7:=tl i hi;have h8:=u4 j i I hi;intro q;have hl:∀k,k<n->numT k=(σ' j).a->4<=(σ' k).pc/\k≠j:=(by intro k hk h;have ek:=H k;have h9:=λa=>(h1 a).2.2.2 k hk;have h10:=tl k hk;clear u4 nx u s14 s16 pcs z O n2 tk H tl l hx inj;grind);refine⟨?_,?_,?_,hl⟩;all_goals clear u4 nx u s14 s16 pcs z O n2 tk H l hl inj;grind [updF]
  .have e:=H j;have ek:=H k;have h1:=u4 j k I hk;have h2:=l j I;have h3:=l k hk;clear tk vt pcs z n2 tl l u4 nx u s14 s16 Y Mn M9 O inj MP hx H;grind
  .have e:=H j;have h1:=nx j I;have h5:=n2 i hi;have h6:=inj j i;have h7:=u j i I hi;have h8:=z i hi;clear u4 nx u s14 s16 pcs z n2 tk tl l;exact abq
  .have e:=H j;have ek:=H k;have h1:=u j k I hk;have h5:=n2 i hi;have h6:=inj j i;have h7:=inj k i;have h8:=inj j k;have h9:=λa b=>(nx j I a b).2 i hi;have h10:=λa b=>(nx k hk a b).2 i hi;clear u4 nx u s14 s16 pcs z n2 tk tl l H O inj hx Y Mn M9;first|grind [updF]|(intros;simp only[updF]at *;grind)
  .have e:=H j;have h1:=s14 j I;have h3:=inj j i;have h5:=λh=>(Y h).2.2.1;clear tk vt pcs z n2 tl l u4 nx u s14 s16 h2 Y M9 O inj MP hx H;exact abq
  .have e:=H j;have h1:=s16 j I;have h3:=inj j i;have h5:=λh=>(Y h).2.2.1;clear tk vt pcs z n2 tl l u4 nx u s14 s16 h2 Y Mn O inj MP hx H;exact abq
theorem RtS.beg{n i:Nat}{W:List Int}{S:List Sp}(k:RtS n W S)(hi:i<n){p':Sp}(hp:((sv S i).pc=10/\(p'.pc=11\/p'.pc=15))\/((sv S i).pc=0/\p'.pc=1)):RtS n W (S.set i p'):=by
 obtain⟨⟨tk,vt,pcs,z,n2,tl,l,u4,nx,u,s14,s16⟩,len,wln⟩:=k;refine⟨?_,by simp[len],wln⟩;have he:∀j,sv (S.set i p') j=if j=i then p' else sv S j:=λj=>by rw[bh];grind
 generalize sv (S.set i p')=σ' at *;generalize sv S=σ at *;refine⟨?_,vt,?_,?_,?_,?_,?_,?_,?_,?_,?_,?_⟩;.exact aa0
 .intro j H;have e:=he j;have q:=pcs j H;clear tk pcs z n2 tl l u4 nx u s14 s16 he;grind
 .intro j H;have e:=he j;have q:=z j H;clear tk pcs z n2 tl l u4 nx u s14 s16 he;grind
 .intro j H;have e:=he j;have q:=n2 j H;clear tk pcs z n2 tl l u4 nx u s14 s16 he;grind
 .intro j H;have e:=he j;have q:=tl j H;clear tk pcs z n2 tl l u4 nx u s14 s16 he;grind
 .intro j H Y;have e:=he j;have MV:j≠i:=λh=>by rw[if_pos h]at e;rw[e]at Y;omega
  rw[if_neg MV]at e;obtain⟨q1,q2,q3,q4⟩:=l j H (by rw[<-e];exact Y);rw[e];refine⟨q1,q2,q3,λk I O=>?_⟩;have:=q4 k I O;have:=he k;exact abr
 .intro j k H I;have e:=he j;have e2:=he k;have q:=u4 j k H I;clear tk pcs z n2 tl l u4 nx u s14 s16 he;grind
 .intro j H Y h5;have e:=he j;have h6:4<=(σ j).pc:=by clear tk pcs z n2 tl l u4 nx u s14 s16 he;grind
  have:=nx j H h6 h5;refine⟨this.1,λk I O=>?_⟩;have q:=this.2 k I O;have:=he k;exact abr
 .intro j k H I h1 h2;have e:=he j;have e2:=he k;have q:=u j k H I;exact abr
 .intro j H;have e:=he j;have q:=s14 j H;clear tk pcs z n2 tl l u4 nx u s14 s16 he;grind
 .intro j H;have e:=he j;have q:=s16 j H;clear tk pcs z n2 tl l u4 nx u s14 s16 he;grind
theorem RtS.reach{n i:Nat}{W:List Int}{S:List Sp}(k:RtS n W S)(hi:i<n):((sv S i).pc=4\/(sv S i).pc=14->1<=(sv S i).a/\(sv S i).a<=n)/\((sv S i).pc=16->1<=(sv S i).b/\(sv S i).b<=n):=by have h1:=k.i.l i hi;have h:=k.i.s14 i hi;have H:=k.i.s16 i hi;have I:=k.i.nx i hi;grind
inductive RC(n:Nat)(W W':List Int)(S:List Sp)(i:Nat)(p p':Sp):Prop where
 |come (h:(1<=p.pc/\p.pc<=6)/\(1<=p'.pc/\p'.pc<=6)/\(p'.pc=5->rS W' (numT i)=0)/\¬(p.pc=5/\0<rS W (numT i)))
 |told (h:p.pc=5/\p'.pc=10/\0<rS W (numT i)/\p'.a=rS W (numT i)/\p'.b=0)
 |hold (h:p.pc=6/\p'.pc=10/\p'.a=1/\p'.b=1)
 |o (h:(11<=p.pc/\p.pc<=13)/\(12<=p'.pc/\p'.pc<=14)/\p'.c=p.c)
 |free (h:p.pc=12/\p'.pc=0)
 |give (s:Nat) (h:(p.pc=14\/p.pc=16)/\p'.pc=0/\(s<n/\s≠i)/\(sv S s).pc=5/\rS W (numT s)=0/\rS W' (numT s)=p.c/\∀j,j≠s->rS W' (numT j)=rS W (numT j))
 |look (h:p.pc=15/\(p'.pc=10\/p'.pc=16)/\p'.a=p.a/\p'.c=p.c)
def RtS.case{n i:Nat}{S:List Sp}(k:RtS n ar.W S)(hn:n<=32)(hi:i<n)(hp:p=sv S i)(h0:¬(p.pc=0\/p.pc=10))(V:r=df ar 1 (numT i) p):RC n ar.W r.1.W S i p r.2/\(¬(p.pc=14\/p.pc=16)->∀j,j≠i->rS r.1.W (numT j)=rS ar.W (numT j)):=by
  refine ajG ?_;intro lN lS MJ inj;have Y:1<=numT i/\numT i<=n:=by unfold numT;omega
  have hA:∀x:Int,1<=x->x<=n->nxA 1 x=2*x/\stA 1 x=2*x+1:=λx h1 H=>by unfold nxA stA RowKit.wrap64;omega
  have wln:=k.wln;have ON:=k.reach hi;have hz:=k.i.z i hi;have Mn:=k.i.s14 i hi;have M9:=k.i.s16 i hi;have Kz:=k.i.nx i hi;have H:=k.i.pcs i hi;rw[<-hp]at ON hz Mn M9 Kz H;have Ou:=congrArg Sp.pc hp.symm;obtain⟨pc,a,b,c⟩:=p;simp only at h0 ON hz Mn M9 Kz H Ou;have hc:pc=1\/pc=2\/pc=3\/pc=4\/pc=5\/pc=6\/pc=11\/pc=12\/pc=13\/pc=14\/pc=15\/pc=16:=by omega
  have gv:∀y:Int,1<=y->y<=n->rN ar.W (numT i)=y->4<=pc->pc≠5->∃s,(s<n/\s≠i)/\numT s=y/\(sv S s).pc=5/\rS ar.W (numT s)=0/\rS (stW ar.W (2*y+1) c) (numT s)=c/\∀j,j≠s->rS (stW ar.W (2*y+1) c) (numT j)=rS ar.W (numT j):=λy h1 H h3 h4 h5=>by
    obtain⟨q1,q2⟩:=Kz h4 ahy;have h:numT (y-1).toNat=y:=(by unfold numT;omega);obtain⟨I,O⟩:=q2 (y-1).toNat (by unfold numT at h;omega) (by rw[h,h3]);refine⟨(y-1).toNat,⟨by unfold numT at h;omega,λe=>h5 (by rw[<-Ou,<-e];exact I)⟩,h,I,O,?_,λj hj=>?_⟩;. rw[h,(qD wln y c h1 H).2.2,gR]
    . rw[(qD wln y c h1 H).2.2,eF _ (λe=>hj (inj _ _ (e.trans h.symm)))]
  rcases hc with rfl|rfl|rfl|rfl|rfl|rfl|rfl|rfl|rfl|rfl|rfl|rfl
  all_goals simp[df,iU,eJ,hA (numT i) Y.1 Y.2,MJ,lN (numT i) Y.1,lS (numT i) Y.1]at V;repeat' split at V
  all_goals
    try rw[(hA a ahy ahy).1]at V
    try rw[(hA a ahy ahy).2]at V
    try rw[(hA b ahy ahy).2]at V
    subst V
  all_goals try simp only[ay,aQ,dQ,gX]
  all_goals try simp only[MJ,decide_eq_true_eq]
  all_goals try first|rw[if_pos ahR]|rw[if_neg ahR]
  all_goals refine⟨?_,λhh j hj=>?_⟩
  all_goals try first
    | exact .told ⟨rfl,rfl,by assumption,rfl,rfl⟩
    | exact .hold ⟨rfl,rfl,rfl,rfl⟩
    | exact .look ⟨rfl,by first|exact .inl rfl|exact .inr rfl,rfl,rfl⟩
    | exact .free ⟨rfl,rfl⟩
    | exact .o ⟨by dsimp only;omega,by dsimp only;omega,rfl⟩
    | exact .come ⟨by dsimp only;omega,by dsimp only;omega,λe=>by first|(exfalso;revert e;simp;done)|(rw[(uf wln _ _ ahy ahy).2.2];exact hz ahy)|omega,λe=>by first|omega|(have:=e.1;omega)|(have:=e.2;omega)⟩
    | (obtain⟨s,q1,q2,I,O,q5,q6⟩:=gv a ahy ahy (Mn rfl).1 ahy ahy;exact .give s ⟨.inl rfl,rfl,q1,I,O,q5,q6⟩)
    | (obtain⟨s,q1,q2,I,O,q5,q6⟩:=gv b ahy ahy (M9 rfl).1 ahy ahy;exact .give s ⟨.inr rfl,rfl,q1,I,O,q5,q6⟩)
    | rfl
    | rw[(uf wln _ _ ahy ahy).2.2]
    | rw[(qD wln _ _ ahy ahy).2.2,eF _ (λe=>hj (inj _ _ e))]
    | rw[(xQ wln _).2.2]
    | trivial
    | (exfalso;omega)
  all_goals refine .come ⟨by dsimp only;omega,by dsimp only;omega,λe=>?_,λe=>?_⟩
  all_goals simp at e
end
section
open Go.RowKit
def arW(W:List Int):Ar:=⟨W,0,0,0,0,false⟩
section
variable{A W C:List Int}{n:Nat}
def rp{z:Int}(h1:1<=z)(h:z<=W.length):inR (A++W++C) (A.length+z)=true/\inR W z=true:=by refine⟨aT.2 ⟨by omega,?_⟩,aT.2 ⟨h1,h⟩⟩;simp only[List.length_append];omega
def rv{z:Int}(h1:1<=z)(I:z<=W.length):ldW (A++W++C) (A.length+z)=ldW W z:=by obtain⟨h,H⟩:=rp (A:=A) (C:=C) h1 I;rw[jt h,jt H,show((A.length:Int)+z).toNat-1=A.length+(z.toNat-1)by omega];rw[List.getD_eq_getElem?_getD,List.getD_eq_getElem?_getD,List.append_assoc,List.getElem?_append_right ahy,Nat.add_sub_cancel_left,List.getElem?_append_left ahy]
def rZ{z:Int}(v:Int)(h1:1<=z)(I:z<=W.length):stW (A++W++C) (A.length+z) v=A++stW W z v++C:=by obtain⟨h,H⟩:=rp (A:=A) (C:=C) h1 I;unfold stW;rw[if_pos h,if_pos H,show((A.length:Int)+z).toNat-1=A.length+(z.toNat-1)by omega];rw[List.append_assoc,List.set_append_right _ _ ahy,Nat.add_sub_cancel_left,List.set_append_left _ _ ahy,List.append_assoc]
def EC{x:Int}(H:1<=x/\x<=32)(h:A.length<=5000):nxA ((A.length:Int)+1) x=A.length+2*x/\nxA 1 x=2*x:=by unfold nxA wrap64;omega
def EP{x:Int}(H:1<=x/\x<=32)(h:A.length<=5000):stA ((A.length:Int)+1) x=A.length+(2*x+1)/\stA 1 x=2*x+1:=by unfold stA wrap64;omega
def Dv{s:Ar}(hs:s.W=A++W++C){z old v:Int}(h1:1<=z)(h:z<=W.length):cK s (A.length+z) old=cK (arW W) z old/\(dY s (A.length+z) old v).W=A++(dY (arW W) z old v).W++C:=by
 obtain⟨H,O⟩:=rp (A:=A) (C:=C) h1 h;have I:cK s (A.length+z) old=cK (arW W) z old:=by unfold cK;rw[hs,H,rv h1 h];show _=(inR W z&&decide (ldW W z=old));rw[O]
 refine⟨I,?_⟩;rw[gX,gX,I,hs];show(if cK (arW W) z old=true then stW (A++W++C) (A.length+z) v else A++W++C)=A++(if cK (arW W) z old=true then stW W z v else W)++C;split;.exact rZ v h1 h
 .rfl
def zB{s:Ar}(hs:s.W=A++W++C)(hW:W.length=2*n+1)(hn:n<=32)(hA:A.length<=5000){x:Int}(O:1<=x/\x<=n){p:Sp}(h4:p.pc=4\/p.pc=14->1<=p.a/\p.a<=n)(M9:p.pc=16->1<=p.b/\p.b<=n):(df s ((A.length:Int)+1) x p).1.W=A++(df (arW W) 1 x p).1.W++C/\(df s ((A.length:Int)+1) x p).2=(df (arW W) 1 x p).2:=by
  have nx:∀y:Int,1<=y->y<=n->(∀v,stW (A++W++C) (nxA ((A.length:Int)+1) y) v=A++stW W (nxA 1 y) v++C)/\ldW (A++W++C) (nxA ((A.length:Int)+1) y)=ldW W (nxA 1 y):=λy h1 h2=>by obtain⟨e1,e2⟩:=EC (x:=y) (A:=A) ahy hA;exact abs
  have st:∀y:Int,1<=y->y<=n->(∀v,stW (A++W++C) (stA ((A.length:Int)+1) y) v=A++stW W (stA 1 y) v++C)/\ldW (A++W++C) (stA ((A.length:Int)+1) y)=ldW W (stA 1 y):=λy h1 h2=>by obtain⟨e1,e2⟩:=EP (x:=y) (A:=A) ahy hA;exact abs
  have tl:=rv (A:=A) (W:=W) (C:=C) (z:=1) ahy ahy;have al:=λv=>rZ (A:=A) (W:=W) (C:=C) (z:=1) v ahy ahy;have tc:=λv=>Dv (s:=s) hs (z:=1) (old:=x) (v:=v) ahy ahy;obtain⟨ab,XC⟩:=nx x O.1 O.2;obtain⟨QC,ad⟩:=st x O.1 O.2;unfold df;by_cases I:p.pc<10
  . rw[if_pos I,if_pos I];unfold iU;by_cases c1:p.pc=1;. simp only[if_pos c1,ay,hs];exact⟨ab 0,trivial⟩
    by_cases c2:p.pc=2;. simp only[if_neg c1,if_pos c2,ay,hs];exact⟨QC 0,trivial⟩
    by_cases c3:p.pc=3;. simp only[if_neg c1,if_neg c2,if_pos c3,dQ,hs,tl];exact⟨al x,rfl⟩
    by_cases c4:p.pc=4;. obtain⟨e1,e2⟩:=h4 (.inl c4);simp only[if_neg c1,if_neg c2,if_neg c3,if_pos c4,ay,hs];exact⟨(nx p.a e1 e2).1 x,trivial⟩
    by_cases c5:p.pc=5;. simp only[if_neg c1,if_neg c2,if_neg c3,if_neg c4,if_pos c5,aQ,hs,ad];exact⟨rfl,rfl⟩
    . simp only[if_neg c1,if_neg c2,if_neg c3,if_neg c4,if_neg c5,ay,hs];exact⟨QC 1,trivial⟩
  . rw[if_neg I,if_neg I];unfold eJ;by_cases H:p.pc=12;. simp only[if_pos H,(tc 0).1,(tc 0).2];exact⟨trivial,trivial⟩
    by_cases h:p.pc=14;. obtain⟨e1,e2⟩:=h4 (.inr h);simp only[if_neg H,if_pos h,ay,hs];exact⟨(st p.a e1 e2).1 p.c,trivial⟩
    by_cases V:p.pc=15;. simp only[if_neg H,if_neg h,if_pos V,aQ,hs,XC];exact⟨rfl,rfl⟩
    by_cases Y:p.pc=16;. obtain⟨e1,e2⟩:=M9 Y;simp only[if_neg H,if_neg h,if_neg V,if_pos Y,ay,hs];exact⟨(st p.b e1 e2).1 p.c,trivial⟩
    . simp only[if_neg H,if_neg h,if_neg V,if_neg Y,aQ,hs,XC];exact⟨rfl,rfl⟩
end
end
section
open Go.RowKit
variable{α:Type}{s:Sp}
structure HTr where
 D:Nat
 n:Nat
 np:Nat
 pl:Nat->Nat->Nat
 sl:Nat->Nat->Nat
 nv:Nat->Nat
 lev:Nat->Nat
structure HTr.Ok(T:HTr):Prop where
 d1:1<=T.D
 plt:∀t k,t<T.n->k<T.D->T.pl t k<T.np
 slt:∀t k,t<T.n->k<T.D->T.sl t k<T.nv (T.pl t k)
 nv32:∀v,v<T.np->T.nv v<=32
 lv:∀t k,t<T.n->k<T.D->T.lev (T.pl t k)=k
 up:∀t u k,t<T.n->u<T.n->k+1<T.D->T.pl t k=T.pl u k->T.pl t (k+1)=T.pl u (k+1)/\T.sl t (k+1)=T.sl u (k+1)
 dn:∀t u k,t<T.n->u<T.n->k+1<T.D->T.pl t (k+1)=T.pl u (k+1)->T.sl t (k+1)=T.sl u (k+1)->T.pl t k=T.pl u k
 root:∀t u,t<T.n->u<T.n->T.pl t (T.D-1)=T.pl u (T.D-1)
 leaf:∀t u,t<T.n->u<T.n->T.pl t 0=T.pl u 0->T.sl t 0=T.sl u 0->t=u
structure Hm where
 W:Nat->List Int
 P:Nat->List Sp
 S:List Sp
def Hm.sp(m:Hm)(v j:Nat):Sp:=sv (m.P v) j
def Hm.sg(m:Hm)(v j:Nat):Int:=rS (m.W v) (numT j)
abbrev Hm.hd(m:Hm)(v j:Nat):Prop:=GV (rS (m.W v)) (sv (m.P v)) j
def aY{α:Type}(f:Nat->α)(v:Nat)(x:α):Nat->α:=λu=>if u=v then x else f u
def aX(f:Nat->α)(v:Nat)(x:α):aY f v x v=x:=by unfold aY;rw[if_pos rfl]
def aZ(f:Nat->α){u:Nat}(x:α)(h:u≠v):aY f v x u=f u:=by unfold aY;rw[if_neg h]
def Hm.slot(m:Hm)(v j:Nat)(p:Sp):Hm:={m with P:=aY m.P v ((m.P v).set j p)}
def Hm.thr(m:Hm)(i:Nat)(s:Sp):Hm:={m with S:=m.S.set i s}
def eQ(m:Hm)(v j:Nat)(u c:Int):Hm:=if (m.sp v j).pc=10 then m.slot v j {m.sp v j with pc:=u,c:=c} else m
def iK(m:Hm)(v j:Nat):Hm:=if (m.sp v j).pc=0 then m.slot v j {m.sp v j with pc:=1} else m
def gy(T:HTr)(bud:Int):Nat->Hm->Nat->Nat->Hm
 |0,m,_,_=>m
 |f+1,m,i,k=>
  if k+1=T.D then(eQ m (T.pl i k) (T.sl i k) 11 1).thr i {sv m.S i with pc:=12,c:=k}
  else if (m.sp (T.pl i k) (T.sl i k)).a<=bud then(eQ m (T.pl i k) (T.sl i k) 15 ((m.sp (T.pl i k) (T.sl i k)).a+1)).thr i {sv m.S i with pc:=11,c:=k}
  else gy T bud f m i (k+1)
def jM(T:HTr)(m:Hm)(i k:Nat):Hm:=
 if (m.sp (T.pl i k) (T.sl i k)).b=0\/k+1=T.D then m.thr i {sv m.S i with pc:=10}
 else(iK m (T.pl i (k+1)) (T.sl i (k+1))).thr i {sv m.S i with c:=(k:Int)+1}
def jN(T:HTr)(m:Hm)(i k:Nat):Hm:=
 if k=0 then m.thr i {sv m.S i with pc:=0}
 else(eQ m (T.pl i (k-1)) (T.sl i (k-1)) 11 (-1)).thr i {sv m.S i with pc:=12,c:=(k:Int)-1}
def rstH(m:Hm)(v j:Nat):Hm:={m with W:=aY m.W v (df (arW (m.W v)) 1 ((j:Int)+1) (m.sp v j)).1.W,P:=aY m.P v ((m.P v).set j (df (arW (m.W v)) 1 ((j:Int)+1) (m.sp v j)).2)}
def kf(T:HTr)(bud:Int)(m:Hm)(i:Nat):Hm:=
 if (sv m.S i).pc=0\/(sv m.S i).pc=10 then m else
 let k:=(sv m.S i).c.toNat
 let v:=T.pl i k
 let j:=T.sl i k
 if (m.sp v j).pc=0\/(m.sp v j).pc=10 then m else
 let m1:=rstH m v j
 if ¬((m1.sp v j).pc=0\/(m1.sp v j).pc=10)then m1
 else if (sv m.S i).pc=1 then jM T m1 i k
 else if (m1.sp v j).pc=0 then jN T m1 i k
 else gy T bud T.D m1 i (k+1)
def qi(T:HTr)(m:Hm)(i:Nat):Hm:=if (sv m.S i).pc=0 then(iK m (T.pl i 0) (T.sl i 0)).thr i ⟨1,0,0,0⟩else m
def kE(T:HTr)(bud:Int)(m:Hm)(i:Nat):Hm:=if (sv m.S i).pc=10 then gy T bud T.D m i 0 else m
inductive TSt(T:HTr)(sp:Nat->Nat->Sp)(sg:Nat->Nat->Int)(i:Nat)(s:Sp):Nat->Prop
 |rest (h:s.pc=0):TSt T sp sg i s 0
 |come (c:Nat) (h:s.pc=1/\s.c=c/\c<T.D) (ha:1<=(sp (T.pl i c) (T.sl i c)).pc/\(sp (T.pl i c) (T.sl i c)).pc<=6) (hg:(sp (T.pl i c) (T.sl i c)).pc=5->¬0<sg (T.pl i c) (T.sl i c)) (I:∀k,k<c->(sp (T.pl i k) (T.sl i k)).pc=10):TSt T sp sg i s (c+1)
 |granted (c:Nat) (h:s.pc=1/\s.c=c/\c<T.D) (ha:(sp (T.pl i c) (T.sl i c)).pc=5/\0<sg (T.pl i c) (T.sl i c)) (I:∀k,k<T.D->k≠c->(sp (T.pl i k) (T.sl i k)).pc=10):TSt T sp sg i s T.D
 |hold (h:s.pc=10) (I:∀k,k<T.D->(sp (T.pl i k) (T.sl i k)).pc=10):TSt T sp sg i s T.D
 |pass (c:Nat) (h:s.pc=11/\s.c=c/\c+1<T.D) (ha:(sp (T.pl i c) (T.sl i c)).pc=15\/(sp (T.pl i c) (T.sl i c)).pc=16) (I:∀k,k<T.D->k≠c->(sp (T.pl i k) (T.sl i k)).pc=10):TSt T sp sg i s T.D
 |leave (c:Nat) (h:s.pc=12/\s.c=c/\c<T.D) (ha:11<=(sp (T.pl i c) (T.sl i c)).pc/\(sp (T.pl i c) (T.sl i c)).pc<=14) (hc:(sp (T.pl i c) (T.sl i c)).c=if c+1=T.D then 1 else -1) (I:∀k,k<c->(sp (T.pl i k) (T.sl i k)).pc=10):TSt T sp sg i s (c+1)
def ye(bud:Int)(p:Sp):Prop:=(p.pc=10\/p.pc=15\/p.pc=16->1<=p.a/\p.a<=bud+1)/\(p.pc=15\/p.pc=16->p.c=p.a+1/\p.a<=bud)
structure HX(T:HTr)(bud:Int)(m:Hm)(hb:Nat->Nat->Option Nat)(i:Nat):Prop where
 rg:∀v,v<T.np->RtS (T.nv v) (m.W v) (m.P v)
 sl:m.S.length=T.n
 ow:∀v j t,hb v j=some t->t<T.n/\∃k,k<T.D/\v=T.pl t k/\j=T.sl t k
 fr:∀v j,v<T.np->j<T.nv v->hb v j=none->(m.sp v j).pc=0
 th:∀t,t<T.n->t≠i->∃K,TSt T m.sp m.sg t (sv m.S t) K/\∀k,k<T.D->(hb (T.pl t k) (T.sl t k)=some t↔k<K)
 va:∀v j,v<T.np->j<T.nv v->ye bud (m.sp v j)
 sa:∀v j,v<T.np->j<T.nv v->(m.sp v j).pc=5->m.sg v j=0\/m.sg v j= -1\/(1<=m.sg v j/\m.sg v j<=bud+1)
def su(T:HTr)(m:Hm)(hb:Nat->Nat->Option Nat)(t:Nat):Prop:=∃K,TSt T m.sp m.sg t (sv m.S t) K/\∀k,k<T.D->(hb (T.pl t k) (T.sl t k)=some t↔k<K)
structure eu(T:HTr)(bud:Int)(m:Hm)(hb:Nat->Nat->Option Nat):Prop where
 x:∀i,HX T bud m hb i
 t:∀t,t<T.n->su T m hb t
section
variable{T:HTr}{m m':Hm}{i:Nat}
def eu.of(h:HX T bud m hb i)(O:su T m hb i):eu T bud m hb:=by
 have I:∀t,t<T.n->su T m hb t:=λt H=>by
  by_cases e:t=i;.subst e;exact O
  .exact h.th t H e
 exact⟨λj=>⟨h.rg,h.sl,h.ow,h.fr,λt H _=>I t H,h.va,h.sa⟩,I⟩
def TSt.keep{sp XJ:Nat->Nat->Sp}{sg Y:Nat->Nat->Int}(h:TSt T sp sg i s K)(h1:∀k,k<K->k<T.D->XJ (T.pl i k) (T.sl i k)=sp (T.pl i k) (T.sl i k))(h2:∀k,k<K->k<T.D->(sp (T.pl i k) (T.sl i k)).pc=5->Y (T.pl i k) (T.sl i k)=sg (T.pl i k) (T.sl i k)):TSt T XJ Y i s K:=by
 cases h with
 |rest h=>exact .rest h
 |come c h O hg I=>
  have e:=h1 c (Nat.lt_succ_self _) h.2.2;refine .come c h (by rw[e];exact O) (λe5=>?_) λk H=>?_;.rw[e]at e5;rw[h2 c (Nat.lt_succ_self _) h.2.2 e5];exact hg e5
  .rw[h1 k ahy ahy];exact I k H
 |granted c h O I=>have e:=h1 c h.2.2 h.2.2;refine .granted c h ⟨by rw[e];exact O.1,by rw[h2 c h.2.2 h.2.2 O.1];exact O.2⟩ λk H V=>?_;rw[h1 k H H];exact I k H V
 |hold h I=>exact .hold h λk H=>by rw[h1 k H H];exact I k H
 |pass c h O I=>refine .pass c h (by rw[h1 c ahy ahy];exact O) λk H V=>?_;rw[h1 k H H];exact I k H V
 |leave c h O hc I=>have e:=h1 c (Nat.lt_succ_self _) h.2.2;refine .leave c h (by rw[e];exact O) (by rw[e];exact hc) λk H=>?_;rw[h1 k ahy ahy];exact I k H
def gc(m:Hm)(v j:Nat)(p:Sp)(I:j<(m.P v).length)(u k:Nat):(m.slot v j p).sp u k=if u=v/\k=j then p else m.sp u k:=by
 unfold Hm.sp Hm.slot;show sv (aY m.P v ((m.P v).set j p) u) k=_;by_cases e:u=v
 .subst e;rw[aX,bh];by_cases H:k=j;.subst H;rw[if_pos ⟨rfl,I⟩,if_pos ⟨rfl,rfl⟩]
  .rw[if_neg (λh=>H h.1.symm),if_neg (λh=>H h.2)]
 .rw[aZ _ _ e,if_neg (λh=>e h.1)]
def HX.len(h:HX T bud m hb i)(O:v<T.np):(m.P v).length=T.nv v:=(h.rg v O).len
def HX.hd1(h:HX T bud m hb i)(O:v<T.np)(I:j<T.nv v)(V:k<T.nv v)(h1:m.hd v j)(H:m.hd v k):j=k:=(h.rg v O).i.tk.one j k I V h1 H
def TSt.hd{t:Nat}(k:TSt T m.sp m.sg t s K){l:Nat}(O:l+1<K):m.hd (T.pl t l) (T.sl t l):=by
 have f:∀p:Sp,p=m.sp (T.pl t l) (T.sl t l)->6<=p.pc->m.hd (T.pl t l) (T.sl t l):=λp e h=> .inl (by rw[e]at h;exact h);cases k with
 |rest _=>omega
 |come c _ _ _ I=>exact f _ rfl (by rw[I l ahy];decide)
 |granted c hc H I=>
  by_cases e:l=c
  .subst e;refine .inr ⟨?_,?_⟩;.show 3<=(m.sp (T.pl t l) (T.sl t l)).pc;omega
   .have:=H.2;show m.sg (T.pl t l) (T.sl t l)≠0;omega
  .exact f _ rfl (by rw[I l ahy e];decide)
 |hold _ I=>exact f _ rfl (by rw[I l ahy];decide)
 |pass c _ H I=>
  by_cases e:l=c;.subst e;exact f _ rfl ahy
  .exact f _ rfl (by rw[I l ahy e];decide)
 |leave c _ _ _ I=>exact f _ rfl (by rw[I l ahy];decide)
def TSt.of10{sp:Nat->Nat->Sp}{sg:Nat->Nat->Int}(h:TSt T sp sg i s K)(e:s.pc=10):K=T.D/\∀k,k<T.D->(sp (T.pl i k) (T.sl i k)).pc=10:=by
 cases h with
 |rest h=>omega
 |come c h=>omega
 |granted c h=>omega
 |hold h I=>exact⟨rfl,I⟩
 |pass c h=>omega
 |leave c h=>omega
def eu.one(h:eu T bud m hb)(H:T.Ok)(V:a<T.n)(I:b<T.n)(h1:(sv m.S a).pc=10)(h2:(sv m.S b).pc=10):a=b:=by obtain⟨Ka,ka,oa⟩:=h.t a V;obtain⟨Kb,kb,ob⟩:=h.t b I;obtain⟨rfl,pa⟩:=ka.of10 h1;obtain⟨rfl,pb⟩:=kb.of10 h2;have hd:=H.d1;have O:=H.root a b V I;have Y:T.sl a (T.D-1)=T.sl b (T.D-1):=(h.x a).hd1 (H.plt b (T.D-1) I ahy) (by rw[<-O];exact H.slt a (T.D-1) V ahy) (H.slt b (T.D-1) I ahy) (by rw[<-O];exact .inl (by have:=pa (T.D-1) ahy;show 6<=(m.sp _ _).pc;omega)) (.inl (by have:=pb (T.D-1) ahy;show 6<=(m.sp _ _).pc;omega));have o1:=(oa (T.D-1) ahy).2 ahy;have o2:=(ob (T.D-1) ahy).2 ahy;rw[O,Y,o2]at o1;injection o1 with o1;exact o1.symm
end
end
section
open Go.RowKit
section
variable{T:HTr}{m m':Hm}{i:Nat}
def HX.thr(h:HX T bud m hb i)(s:Sp):HX T bud (m.thr i s) hb i:=by
 refine⟨h.rg,by show(m.S.set i s).length=T.n;rw[List.length_set];exact h.sl,h.ow,h.fr,λt I H=>?_,h.va,h.sa⟩;have e:sv (m.thr i s).S t=sv m.S t:=by show sv (m.S.set i s) t=_;rw[bh,if_neg (λh=>H h.1.symm)]
 rw[e];exact h.th t I H
def GT(m:Hm){i:Nat}(s:Sp)(hi:i<m.S.length):sv (m.thr i s).S i=s:=by show sv (m.S.set i s) i=_;rw[bh,if_pos ⟨rfl,hi⟩]
def rR{t:Nat}(Y:hb v j=some i)(H:t≠i)(h:hb (T.pl t k) (T.sl t k)=some t):¬(T.pl t k=v/\T.sl t k=j):=by rintro⟨rfl,rfl⟩;rw[h]at Y;injection Y with Y;exact H Y
def HX.wth(h:HX T bud m hb i)(O:v<T.np)(hj:j<T.nv v)(Y:hb v j=some i)(h10:(m.sp v j).pc=10)(p':Sp)(hu:p'.pc=11\/p'.pc=15)(LD:ye bud p'):HX T bud (m.slot v j p') hb i:=by
 have hl:=h.len O;have J':=gc m v j p' (by rw[hl];exact hj);refine⟨λu Qr=>?_,h.sl,h.ow,λa b H I Ky=>?_,λt ht V=>?_,λa b H I=>?_,λa b H I h5=>?_⟩
 .show RtS (T.nv u) (m.W u) (aY m.P v ((m.P v).set j p') u);by_cases e:u=v;.subst e;rw[aX];exact(h.rg u Qr).beg hj (.inl ⟨h10,hu⟩)
  .rw[aZ _ _ e];exact h.rg u Qr
 .rw[J',if_neg (λe=>by rw[e.1,e.2,Y]at Ky;cases Ky)];exact h.fr a b H I Ky
 .obtain⟨K,k,o⟩:=h.th t ht V;refine⟨K,k.keep (λl Mv hD=>?_) (λ_ _ _ _=>rfl),o⟩;rw[J',if_neg (rR Y V ((o l hD).2 Mv))]
 .rw[J'];split;.exact LD
  .exact h.va a b H I
 .rw[J']at h5;by_cases e:a=v/\b=j;.rw[if_pos e]at h5;omega
  .rw[if_neg e]at h5;exact h.sa a b H I h5
def zu(hb:Nat->Nat->Option Nat)(v j:Nat)(x:Option Nat):Nat->Nat->Option Nat:=λa b=>if a=v/\b=j then x else hb a b
def gb(hb:Nat->Nat->Option Nat)(v j:Nat)(x:Option Nat):zu hb v j x v j=x:=by unfold zu;rw[if_pos ⟨rfl,rfl⟩]
def fo{x:Option Nat}(h:¬(a=v/\b=j)):zu hb v j x a b=hb a b:=by unfold zu;rw[if_neg h]
def HX.ask(h:HX T bud m hb i)(hi:i<T.n)(hk:k<T.D)(hT:T.Ok)(Y:hb (T.pl i k) (T.sl i k)=none)(p':Sp)(hp:p'.pc=1):HX T bud (m.slot (T.pl i k) (T.sl i k) p') (zu hb (T.pl i k) (T.sl i k) (some i)) i:=by
 have O:=hT.plt i k hi hk;have hj:=hT.slt i k hi hk;have h0:=h.fr _ _ O hj Y;have hl:=h.len O;have J':=gc m (T.pl i k) (T.sl i k) p' (by rw[hl];exact hj);refine⟨λu Qr=>?_,h.sl,λa b t H=>?_,λa b ha I H=>?_,λt ht ab=>?_,λa b ha I=>?_,λa b ha I h5=>?_⟩
 .show RtS (T.nv u) (m.W u) (aY m.P (T.pl i k) ((m.P (T.pl i k)).set (T.sl i k) p') u);by_cases e:u=T.pl i k;.subst e;rw[aX];exact(h.rg _ O).beg hj (.inr ⟨h0,hp⟩)
  .rw[aZ _ _ e];exact h.rg u Qr
 .by_cases e:a=T.pl i k/\b=T.sl i k;.rw[e.1,e.2,gb]at H;injection H with H;subst H;exact⟨hi,k,hk,e.1,e.2⟩
  .rw[fo e]at H;exact h.ow a b t H
 .by_cases e:a=T.pl i k/\b=T.sl i k;.rw[e.1,e.2,gb]at H;cases H
  .rw[fo e]at H;rw[J',if_neg e];exact h.fr a b ha I H
 .obtain⟨K,kk,o⟩:=h.th t ht ab;have hd:∀l,hb (T.pl t l) (T.sl t l)=some t->¬(T.pl t l=T.pl i k/\T.sl t l=T.sl i k):=λl V e=>by rw[e.1,e.2,Y]at V;cases V
  refine⟨K,kk.keep (λl V hD=>?_) (λ_ _ _ _=>rfl),λl hD=>?_⟩;.rw[J',if_neg (hd l ((o l hD).2 V))]
  .by_cases e:T.pl t l=T.pl i k/\T.sl t l=T.sl i k;.rw[e.1,e.2,gb];refine⟨λhe=>?_,λV=>absurd e (hd l ((o l hD).2 V))⟩;injection he with he;exact absurd he.symm ab
   .rw[fo e];exact o l hD
 .rw[J'];split;.exact⟨λe=>by omega,λe=>by omega⟩
  .exact h.va a b ha I
 .rw[J']at h5;by_cases e:a=T.pl i k/\b=T.sl i k;.rw[if_pos e]at h5;omega
  .rw[if_neg e]at h5;exact h.sa a b ha I h5
def HX.release(h:HX T bud m hb i)(h0:(m.sp v j).pc=0)(Y:hb v j=some i):HX T bud m (zu hb v j none) i:=by
 refine⟨h.rg,h.sl,λa b t H=>?_,λa b ha I H=>?_,λt ht V=>?_,h.va,h.sa⟩
 .by_cases e:a=v/\b=j;.rw[e.1,e.2,gb]at H;cases H
  .rw[fo e]at H;exact h.ow a b t H
 .by_cases e:a=v/\b=j;.rw[e.1,e.2];exact h0
  .rw[fo e]at H;exact h.fr a b ha I H
 .obtain⟨K,kk,o⟩:=h.th t ht V;refine⟨K,kk,λl hD=>?_⟩;by_cases e:T.pl t l=v/\T.sl t l=j;.rw[<-o l hD,e.1,e.2,gb,Y];refine⟨λO=>by(cases O),λO=>?_⟩;injection O with O;exact absurd O.symm V
  .rw[fo e];exact o l hD
def HX.rung(h:HX T bud m hb i)(O:v<T.np)(hj:j<T.nv v)(Y:hb v j=some i)(W':List Int)(p':Sp)(V:RtS (T.nv v) W' ((m.P v).set j p'))(Kp:∀k,k≠j->rS W' (numT k)=rS (m.W v) (numT k))(LD:ye bud p')(h5:p'.pc=5->rS W' (numT j)=0):HX T bud {m with W:=aY m.W v W',P:=aY m.P v ((m.P v).set j p')} hb i:=by
  have hl:=h.len O;have J':∀u k,Hm.sp {m with W:=aY m.W v W',P:=aY m.P v ((m.P v).set j p')} u k=if u=v/\k=j then p' else m.sp u k:=gc m v j p' (by rw[hl];exact hj)
  have RI:∀u k,¬(u=v/\k=j)->Hm.sg {m with W:=aY m.W v W',P:=aY m.P v ((m.P v).set j p')} u k=m.sg u k:=λu k H=>by
    show rS (aY m.W v W' u) (numT k)=rS (m.W u) (numT k);by_cases e:u=v;. subst e;rw[aX];exact Kp k λe2=>H ⟨rfl,e2⟩
    . rw[aZ _ _ e]
  refine⟨λu Qr=>?_,h.sl,h.ow,λa b ha I Ky=>?_,λt ht H=>?_,λa b ha I=>?_,λa b ha I Q0=>?_⟩
  . show RtS (T.nv u) (aY m.W v W' u) (aY m.P v ((m.P v).set j p') u);by_cases e:u=v;. subst e;rw[aX,aX];exact V
    . rw[aZ _ _ e,aZ _ _ e];exact h.rg u Qr
  . rw[J',if_neg (λe=>by rw[e.1,e.2,Y]at Ky;cases Ky)];exact h.fr a b ha I Ky
  . obtain⟨K,k,o⟩:=h.th t ht H;refine⟨K,k.keep (λl Mv hD=>?_) (λl Mv hD _=>?_),o⟩;. rw[J',if_neg (rR Y H ((o l hD).2 Mv))]
    . exact RI _ _ (rR Y H ((o l hD).2 Mv))
  . rw[J'];split;. exact LD
    . exact h.va a b ha I
  . rw[J']at Q0;by_cases e:a=v/\b=j;. rw[if_pos e]at Q0;obtain⟨rfl,rfl⟩:=e;left;show rS (aY m.W a W' a) (numT b)=0;rw[aX];exact h5 Q0
    . rw[if_neg e]at Q0;rw[RI a b e];exact h.sa a b ha I Q0
def upO(T:HTr)(hb:Nat->Nat->Option Nat)(u c:Nat):Nat->Nat->Option Nat:=λa b=>if (List.range T.D).any (λk=>decide (c<k/\a=T.pl u k/\b=T.sl u k))=true then some u else hb a b
def C6{u:Nat}:(List.range T.D).any (λk=>decide (c<k/\a=T.pl u k/\b=T.sl u k))=true↔∃k,c<k/\k<T.D/\a=T.pl u k/\b=T.sl u k:=by
 rw[List.any_eq_true];constructor;.rintro⟨k,V,h⟩;obtain⟨h1,H,I⟩:=of_decide_eq_true h;exact⟨k,h1,List.mem_range.1 V,H,I⟩
 .rintro⟨k,h1,H,I,O⟩;exact⟨k,List.mem_range.2 H,decide_eq_true ⟨h1,I,O⟩⟩
def pR{u:Nat}(hc:c<k)(h:k<T.D):upO T hb u c (T.pl u k) (T.sl u k)=some u:=by unfold upO;rw[if_pos (C6.2 ⟨k,hc,h,rfl,rfl⟩)]
def jC{u:Nat}(h:¬∃k,c<k/\k<T.D/\a=T.pl u k/\b=T.sl u k):upO T hb u c a b=hb a b:=by unfold upO;rw[if_neg (λe=>h (C6.1 e))]
def HX.give(h:HX T bud m hb i)(hT:T.Ok){s u:Nat}(O:v<T.np)(hj:j<T.nv v)(Y:hb v j=some i)(H:List Int)(p':Sp)(KK:p'.pc=0)(Qp:s<T.nv v)(Qo:s≠j)(V:RtS (T.nv v) H ((m.P v).set j p'))(NF:(m.sp v s).pc=5)(PW:m.sg v s=0)(Kp:∀k,k≠s->rS H (numT k)=rS (m.W v) (numT k))(LJ:rS H (numT s)= -1\/(1<=rS H (numT s)/\rS H (numT s)<=bud+1))(SV:hb v s=some u)(Lb:c<T.D)(OR:v=T.pl u c)(Ot:s=T.sl u c)(My:0<rS H (numT s)->∀k,c<k->k<T.D->(m.sp (T.pl u k) (T.sl u k)).pc=10/\hb (T.pl u k) (T.sl u k)=some i):u<T.n/\u≠i/\∃O',HX T bud {m with W:=aY m.W v H,P:=aY m.P v ((m.P v).set j p')} O' i/\(0<rS H (numT s)->O'=upO T hb u c)/\(¬0<rS H (numT s)->O'=hb):=by
  obtain⟨Mp,_⟩:=h.ow v s u SV;have hl:=h.len O;have J':∀a b,Hm.sp {m with W:=aY m.W v H,P:=aY m.P v ((m.P v).set j p')} a b=if a=v/\b=j then p' else m.sp a b:=gc m v j p' (by rw[hl];exact hj)
  have RI:∀a b,¬(a=v/\b=s)->Hm.sg {m with W:=aY m.W v H,P:=aY m.P v ((m.P v).set j p')} a b=m.sg a b:=λa b SO=>by
    show rS (aY m.W v H a) (numT b)=rS (m.W a) (numT b);by_cases e:a=v;. subst e;rw[aX];exact Kp b (λe2=>SO ⟨rfl,e2⟩)
    . rw[aZ _ _ e]
  have UN:Hm.sg {m with W:=aY m.W v H,P:=aY m.P v ((m.P v).set j p')} v s=rS H (numT s):=by show rS (aY m.W v H v) (numT s)=_;rw[aX]
  obtain⟨_,ki,NU,ad,MV⟩:=h.ow v j i Y;obtain⟨ab,_⟩:=h.ow v j i Y;have ZG:ki=c:=by have e1:=hT.lv i ki ab NU;have e2:=hT.lv u c Mp Lb;rw[<-ad]at e1;rw[<-OR]at e2;omega
  have Pq:u≠i:=λe=>by subst e ZG;rw[<-Ot]at MV;exact Qo MV.symm
  have Oq:∀k,k<T.D->T.pl u k=v->k=c:=λk hk e=>by have e1:=hT.lv u k Mp hk;have e2:=hT.lv u c Mp Lb;rw[e]at e1;rw[<-OR]at e2;omega
  have NG:∀k,k<T.D->k≠c->Hm.sp {m with W:=aY m.W v H,P:=aY m.P v ((m.P v).set j p')} (T.pl u k) (T.sl u k)=m.sp (T.pl u k) (T.sl u k):=λk hk Pj=>by rw[J',if_neg (λe=>Pj (Oq k hk e.1))]
  have Xc:Hm.sp {m with W:=aY m.W v H,P:=aY m.P v ((m.P v).set j p')} v s=m.sp v s:=by rw[J',if_neg (λe=>Qo e.2)]
  obtain⟨K,kk,o⟩:=h.th u Mp Pq;have Sx:c<K:=by rw[<-o c Lb,<-OR,<-Ot];exact SV
  have Zn:K=c+1/\((sv m.S u).pc=1/\(sv m.S u).c=c/\c<T.D)/\∀k,k<c->(m.sp (T.pl u k) (T.sl u k)).pc=10:=by
    have al:(m.sp (T.pl u c) (T.sl u c)).pc=5:=(by rw[<-OR,<-Ot];exact NF);cases kk with
    | rest h=>omega
    | come c' h ha hg I=>
      by_cases e:c=c';. subst e;exact⟨rfl,h,I⟩
      . have:=I c ahy;omega
    | granted c' h' ha I=>
      by_cases e:c=c';. subst e;have:=ha.2;rw[<-OR,<-Ot]at this;omega
      . have:=I c Lb e;omega
    | hold h I=>have:=I c Lb;omega
    | pass c' h ha I=>
      by_cases e:c=c';. subst e;omega
      . have:=I c Lb e;omega
    | leave c' h ha hc I=>
      by_cases e:c=c';. subst e;omega
      . have:=I c ahy;omega
  obtain⟨rfl,Qs,PZ⟩:=Zn;have MC:∀a b,(∃k,c<k/\k<T.D/\a=T.pl u k/\b=T.sl u k)->0<rS H (numT s)->hb a b=some i:=λa b ⟨k,h1,h2,h3,h4⟩ hp=>by rw[h3,h4];exact(My hp k h1 h2).2
  have SW:∀(O1:Nat->Nat->Option Nat) (Qh:∀a b,O1 a b=hb a b\/(O1 a b=some u/\hb a b=some i)) (t:Nat),t<T.n->t≠i->t≠u->∃K,TSt T (Hm.sp {m with W:=aY m.W v H,P:=aY m.P v ((m.P v).set j p')}) (Hm.sg {m with W:=aY m.W v H,P:=aY m.P v ((m.P v).set j p')}) t (sv m.S t) K/\∀k,k<T.D->(O1 (T.pl t k) (T.sl t k)=some t↔k<K):=λO1 Qh t ht Ov Xg=>by
    obtain⟨K',k',o'⟩:=h.th t ht Ov;refine⟨K',k'.keep (λl Mv hD=>?_) (λl Mv hD _=>?_),λl hD=>?_⟩;. rw[J',if_neg (rR Y Ov ((o' l hD).2 Mv))]
    . refine RI _ _ λe=>?_;have:=(o' l hD).2 Mv;rw[e.1,e.2,SV]at this;injection this with this;exact Xg this.symm
    . rcases Qh (T.pl t l) (T.sl t l)with e|⟨e1,e2⟩
      . rw[e];exact o' l hD
      . rw[<-o' l hD,e1,e2];refine⟨λhe=>?_,λhe=>?_⟩;. injection he with he;exact absurd he.symm Xg
        . injection he with he;exact absurd he.symm Ov
  have W9:∀w,w<T.np->RtS (T.nv w) (aY m.W v H w) (aY m.P v ((m.P v).set j p') w):=λw hw=>by
    by_cases e:w=v;. subst e;rw[aX,aX];exact V
    . rw[aZ _ _ e,aZ _ _ e];exact h.rg w hw
  have LD:∀a b,a<T.np->b<T.nv a->ye bud (Hm.sp {m with W:=aY m.W v H,P:=aY m.P v ((m.P v).set j p')} a b):=λa b ha I=>by
    rw[J'];split;. exact⟨λe=>by omega,λe=>by omega⟩
    . exact h.va a b ha I
  have Pp:∀a b,a<T.np->b<T.nv a->(Hm.sp {m with W:=aY m.W v H,P:=aY m.P v ((m.P v).set j p')} a b).pc=5->Hm.sg {m with W:=aY m.W v H,P:=aY m.P v ((m.P v).set j p')} a b=0\/Hm.sg {m with W:=aY m.W v H,P:=aY m.P v ((m.P v).set j p')} a b= -1\/(1<=Hm.sg {m with W:=aY m.W v H,P:=aY m.P v ((m.P v).set j p')} a b/\Hm.sg {m with W:=aY m.W v H,P:=aY m.P v ((m.P v).set j p')} a b<=bud+1):=λa b ha I h5=>by
    by_cases e:a=v/\b=s;. rw[e.1,e.2,UN];exact .inr LJ
    . rw[RI a b e];rw[J']at h5;refine h.sa a b ha I ?_;split at h5;. omega
      . exact h5
  refine⟨Mp,Pq,?_⟩;by_cases Mw:0<rS H (numT s)
  . refine⟨upO T hb u c,⟨W9,h.sl,λa b t Ky=>?_,λa b ha I Ky=>?_,λt ht Ov=>?_,LD,Pp⟩,λ_=>rfl,λhn=>absurd Mw hn⟩
    . by_cases e:∃k,c<k/\k<T.D/\a=T.pl u k/\b=T.sl u k;. obtain⟨k,h1,h2,rfl,rfl⟩:=e;rw[pR h1 h2]at Ky;injection Ky with Ky;subst Ky;exact⟨Mp,k,h2,rfl,rfl⟩
      . rw[jC e]at Ky;exact h.ow a b t Ky
    . by_cases e:∃k,c<k/\k<T.D/\a=T.pl u k/\b=T.sl u k;. obtain⟨k,h1,h2,rfl,rfl⟩:=e;rw[pR h1 h2]at Ky;cases Ky
      . rw[jC e]at Ky;rw[J'];split;. exact KK
        . exact h.fr a b ha I Ky
    . by_cases e:t=u
      . subst e;refine⟨T.D,.granted c Qs ⟨?_,?_⟩ λk hk Pj=>?_,λk hk=>⟨λ_=>hk,λ_=>?_⟩⟩;. rw[<-OR,<-Ot,Xc];exact NF
        . rw[<-OR,<-Ot,UN];exact Mw
        . rw[NG k hk Pj];rcases Nat.lt_or_ge k c with h1|h1
          . exact PZ k h1
          . exact(My Mw k ahy hk).1
        . rcases Nat.lt_or_ge c k with h1|h1
          . exact pR h1 hk
          . rw[jC];. exact(o k hk).2 ahy
            . rintro⟨k',h2,h3,h4,_⟩;have e1:=hT.lv t k Mp hk;have e2:=hT.lv t k' Mp h3;rw[h4]at e1;omega
      . refine SW _ (λa b=>?_) t ht Ov e;by_cases e2:∃k,c<k/\k<T.D/\a=T.pl u k/\b=T.sl u k;. refine .inr ⟨?_,MC a b e2 Mw⟩;obtain⟨k,h1,h2,rfl,rfl⟩:=e2;exact pR h1 h2
        . exact .inl (jC e2)
  . refine⟨hb,⟨W9,h.sl,h.ow,λa b ha I Ky=>?_,λt ht Ov=>?_,LD,Pp⟩,λhp=>absurd hp Mw,λ_=>rfl⟩
    . rw[J'];split;. exact KK
      . exact h.fr a b ha I Ky
    . by_cases e:t=u
      . subst e;refine⟨c+1,.come c Qs ?_ (λ_=>?_) λk hk=>?_,o⟩;. rw[<-OR,<-Ot,Xc,NF];decide
        . rw[<-OR,<-Ot,UN];exact Mw
        . rw[NG k ahy ahy];exact PZ k hk
      . exact SW hb (λa b=> .inl rfl) t ht Ov e
end
end
section
open Go.RowKit
section
variable{T:HTr}{m m':Hm}{i:Nat}
def HX.upNone(h:HX T bud m hb i)(H:T.Ok)(hi:i<T.n)(hc:c+1<T.D)(hd:m.hd (T.pl i c) (T.sl i c))(Y:hb (T.pl i c) (T.sl i c)=some i)(hn:hb (T.pl i (c+1)) (T.sl i (c+1))≠some i):hb (T.pl i (c+1)) (T.sl i (c+1))=none:=by
 cases V:hb (T.pl i (c+1)) (T.sl i (c+1))with
 |none=>rfl
 |some u=>
  exfalso;have Pq:u≠i:=λe=>hn (by rw[V,e]);obtain⟨I,k,hk,h1,h2⟩:=h.ow _ _ u V;have e1:=H.lv i (c+1) hi hc;have e2:=H.lv u k I hk;rw[h1]at e1;obtain rfl:k=c+1:=by omega
  obtain⟨K,kk,o⟩:=h.th u I Pq;have hK:c+1<K:=by rw[<-o (c+1) hc,<-h1,<-h2];exact V
  have hp:=H.dn i u c hi I hc h1 h2;have hh:T.sl i c=T.sl u c:=h.hd1 (H.plt i c hi ahy) (H.slt i c hi ahy) (by rw[hp];exact H.slt u c I ahy) hd (by rw[hp];exact kk.hd hK);have O:=(o c ahy).2 ahy;rw[<-hp,<-hh,Y]at O;injection O with O;exact Pq O.symm
def tF(h:HX T bud m hb i)(hi:i<T.n):i<m.S.length:=by rw[h.sl];exact hi
def iA{s:Sp}(h:i<m.S.length)(k:TSt T m.sp m.sg i s K)(o:∀k,k<T.D->(hb (T.pl i k) (T.sl i k)=some i↔k<K)):su T (m.thr i s) hb i:=by refine⟨K,?_,o⟩;rw[GT m s h];exact k
def wZ(hT:T.Ok)(hi:i<T.n):∀(f:Nat) (m:Hm) (k0:Nat),HX T bud m hb i->(∀k,k<T.D->hb (T.pl i k) (T.sl i k)=some i)->(∀k,k<T.D->(m.sp (T.pl i k) (T.sl i k)).pc=10)->k0<T.D->T.D<=k0+f->eu T bud (gy T bud f m i k0) hb:=by
 intro f;induction f with
 |zero=>intro m k0 _ _ _ h1 h2;omega
 |succ f ih=>
  intro m k0 h Y h10 H hf;unfold gy;have O:=hT.plt i k0 hi H;have hj:=hT.slt i k0 hi H;have KX:T.sl i k0<(m.P (T.pl i k0)).length:=by rw[h.len O];exact hj
  have Oq:∀k,k<T.D->k≠k0->¬(T.pl i k=T.pl i k0/\T.sl i k=T.sl i k0):=λk I V e=>by have e1:=hT.lv i k hi I;have e2:=hT.lv i k0 hi H;rw[e.1]at e1;omega
  have own:∀(k:Nat),k<T.D->(hb (T.pl i k) (T.sl i k)=some i↔k<T.D):=λk I=>⟨λ_=>I,λ_=>Y k I⟩;by_cases c1:k0+1=T.D
  .rw[if_pos c1];have e:eQ m (T.pl i k0) (T.sl i k0) 11 1=m.slot (T.pl i k0) (T.sl i k0) {m.sp (T.pl i k0) (T.sl i k0)with pc:=11,c:=1}:=(by unfold eQ;rw[if_pos (h10 k0 H)]);rw[e];have h1:=h.wth O hj (Y k0 H) (h10 k0 H) {m.sp (T.pl i k0) (T.sl i k0)with pc:=11,c:=1} (.inl rfl) ⟨λe=>absurd e aiN,λe=>absurd e (by show ¬((11:Int)=15\/(11:Int)=16);decide)⟩;have J':=gc m (T.pl i k0) (T.sl i k0) {m.sp (T.pl i k0) (T.sl i k0)with pc:=11,c:=1} KX;refine .of (h1.thr _) (iA (K:=k0+1) (tF h1 hi) (.leave k0 ⟨rfl,rfl,H⟩ ?_ ?_ λk I=>?_) λk I=>by rw[c1];exact own k I);.exact abt
   .rw[J',if_pos ⟨rfl,rfl⟩,if_pos c1]
   .rw[J',if_neg (Oq k ahy ahy)];exact h10 k ahy
  .rw[if_neg c1];by_cases c2:(m.sp (T.pl i k0) (T.sl i k0)).a<=bud
   .rw[if_pos c2];have LD:=(h.va _ _ O hj).1 (.inl (h10 k0 H));have e:eQ m (T.pl i k0) (T.sl i k0) 15 ((m.sp (T.pl i k0) (T.sl i k0)).a+1)=m.slot (T.pl i k0) (T.sl i k0) {m.sp (T.pl i k0) (T.sl i k0)with pc:=15,c:=(m.sp (T.pl i k0) (T.sl i k0)).a+1}:=(by unfold eQ;rw[if_pos (h10 k0 H)]);rw[e];have h1:=h.wth O hj (Y k0 H) (h10 k0 H) {m.sp (T.pl i k0) (T.sl i k0)with pc:=15,c:=(m.sp (T.pl i k0) (T.sl i k0)).a+1} (.inr rfl) ⟨λ_=>LD,λ_=>⟨rfl,c2⟩⟩;have J':=gc m (T.pl i k0) (T.sl i k0) {m.sp (T.pl i k0) (T.sl i k0)with pc:=15,c:=(m.sp (T.pl i k0) (T.sl i k0)).a+1} KX;refine .of (h1.thr _) (iA (K:=T.D) (tF h1 hi) (.pass k0 ⟨rfl,rfl,by omega⟩ ?_ λk I V=>?_) own);.rw[J',if_pos ⟨rfl,rfl⟩];exact .inl rfl
    .rw[J',if_neg (Oq k I V)];exact h10 k I
   .rw[if_neg c2];exact ih m (k0+1) h Y h10 ahy ahy
def oO(h:HX T bud m hb i)(H:T.Ok)(hi:i<T.n)(hc:c<T.D)(Y:∀k,k<T.D->(hb (T.pl i k) (T.sl i k)=some i↔k<c))(h10:∀k,k<c->(m.sp (T.pl i k) (T.sl i k)).pc=10):eu T bud (jN T m i c) hb:=by
 unfold jN;by_cases c0:c=0;.rw[if_pos c0];subst c0;exact .of (h.thr _) (iA (tF h hi) (.rest rfl) Y)
 .rw[if_neg c0];obtain⟨d,rfl⟩:∃d,c=d+1:=⟨c-1,by omega⟩;simp only[Nat.add_sub_cancel];have hd:d<T.D:=by omega
  have O:=H.plt i d hi hd;have I:=H.slt i d hi hd;have V:T.sl i d<(m.P (T.pl i d)).length:=by rw[h.len O];exact I
  have e:eQ m (T.pl i d) (T.sl i d) 11 (-1)=m.slot (T.pl i d) (T.sl i d) {m.sp (T.pl i d) (T.sl i d)with pc:=11,c:= -1}:=by unfold eQ;rw[if_pos (h10 d ahy)]
  rw[e];have h1:=h.wth O I ((Y d hd).2 ahy) (h10 d ahy) {m.sp (T.pl i d) (T.sl i d)with pc:=11,c:= -1} (.inl rfl) ⟨λe=>absurd e aiN,λe=>absurd e (by show ¬((11:Int)=15\/(11:Int)=16);decide)⟩;have J':=gc m (T.pl i d) (T.sl i d) {m.sp (T.pl i d) (T.sl i d)with pc:=11,c:= -1} V;refine .of (h1.thr _) (iA (tF h1 hi) (.leave d ⟨rfl,by show((d+1:Nat):Int)-1=d;omega,hd⟩ ?_ ?_ λk KO=>?_) Y);.exact abt
  .rw[J',if_pos ⟨rfl,rfl⟩,if_neg ahy]
  .rw[J',if_neg];.exact h10 k ahy
   .intro e;have e1:=H.lv i k hi ahy;have e2:=H.lv i d hi hd;rw[e.1]at e1;omega
def eu.ask(h:eu T bud m hb)(H:T.Ok)(hi:i<T.n):∃O',eu T bud (qi T m i) O':=by
 unfold qi;by_cases c0:(sv m.S i).pc=0
 .rw[if_pos c0];have hd:=H.d1;have I:=h.x i;obtain⟨K,k,o⟩:=h.t i hi;have hK:K=0:=by cases k<;>first|rfl|omega
  subst hK
  have hn:hb (T.pl i 0) (T.sl i 0)=none:=by
   cases hO:hb (T.pl i 0) (T.sl i 0)with
   |none=>rfl
   |some u=>
    exfalso;obtain⟨hu,k',KO,h1,h2⟩:=I.ow _ _ u hO;have V:=H.lv i 0 hi ahy;have e2:=H.lv u k' hu KO;rw[h1]at V;obtain rfl:k'=0:=by omega
    obtain rfl:i=u:=H.leaf i u hi hu h1 h2;have:=(o 0 ahy).1 hO;omega
  have O:=H.plt i 0 hi ahy;have hj:=H.slt i 0 hi ahy;have h0:=I.fr _ _ O hj hn;have e:iK m (T.pl i 0) (T.sl i 0)=m.slot (T.pl i 0) (T.sl i 0) {m.sp (T.pl i 0) (T.sl i 0)with pc:=1}:=by unfold iK;rw[if_pos h0]
  rw[e];have h1:=I.ask hi (k:=0) ahy H hn {m.sp (T.pl i 0) (T.sl i 0)with pc:=1} rfl;have J':=gc m (T.pl i 0) (T.sl i 0) {m.sp (T.pl i 0) (T.sl i 0)with pc:=1} (by rw[I.len O];exact hj);refine⟨_,.of (h1.thr _) (iA (tF h1 hi) (.come 0 ⟨rfl,rfl,by omega⟩ ?_ (λe5=>?_) λk Y=>by omega) λk Y=>?_)⟩;.rw[J',if_pos ⟨rfl,rfl⟩];exact⟨by show(1:Int)<=1;decide,by show(1:Int)<=6;decide⟩
  .rw[J',if_pos ⟨rfl,rfl⟩]at e5;exact absurd e5 (by show ¬(1:Int)=5;decide)
  .by_cases e:k=0;.subst e;rw[gb];exact⟨λ_=>by omega,λ_=>rfl⟩
   .rw[fo (λe'=>by
     have V:=H.lv i k hi Y;have e2:=H.lv i 0 hi ahy
     rw[e'.1]at V;omega)]
    rw[o k Y];exact⟨λh=>by omega,λh=>by omega⟩
 .rw[if_neg c0];exact⟨hb,h⟩
def eu.leave(h:eu T bud m hb)(H:T.Ok)(hi:i<T.n):eu T bud (kE T bud m i) hb:=by
 unfold kE;by_cases c0:(sv m.S i).pc=10;.rw[if_pos c0];have hd:=H.d1;obtain⟨K,k,o⟩:=h.t i hi;obtain⟨rfl,h10⟩:=k.of10 c0;exact wZ H hi T.D m 0 (h.x i) (λk I=>(o k I).2 I) h10 ahy ahy
 .rw[if_neg c0];exact h
end
end
section
open Go.RowKit
section
variable{T:HTr}{m m':Hm}{i:Nat}
def su.act{s:Sp}{sp:Nat->Nat->Sp}{sg:Nat->Nat->Int}(k:TSt T sp sg i s K)(O:¬(s.pc=0\/s.pc=10)):∃c:Nat,s.c=c/\c<T.D/\c<K/\(sp (T.pl i c) (T.sl i c)).pc≠0/\(sp (T.pl i c) (T.sl i c)).pc≠10:=by
 cases k with
 |rest h=>exact absurd (.inl h) O
 |come c h H hg I=>exact⟨c,h.2.1,h.2.2,Nat.lt_succ_self _,by omega,by omega⟩
 |granted c h H I=>exact⟨c,h.2.1,h.2.2,h.2.2,by omega,by omega⟩
 |hold h I=>exact absurd (.inr h) O
 |pass c h H I=>exact⟨c,h.2.1,by omega,by omega,by omega,by omega⟩
 |leave c h H hc I=>exact⟨c,h.2.1,h.2.2,Nat.lt_succ_self _,by omega,by omega⟩
def yb(H:T.Ok){i u c:Nat}(hi:i<T.n)(I:u<T.n)(h:T.pl i c=T.pl u c):∀d,c+d+1<T.D->T.pl i (c+d+1)=T.pl u (c+d+1)/\T.sl i (c+d+1)=T.sl u (c+d+1)
 |0,hd=>H.up i u c hi I hd h
 |d+1,hd=>H.up i u (c+d+1) hi I hd (yb H hi I h d ahy).1
def eu.step(h:eu T bud m hb)(hT:T.Ok)(Kn:0<=bud)(hi:i<T.n):∃O',eu T bud (kf T bud m i) O':=by
 unfold kf;by_cases c0:(sv m.S i).pc=0\/(sv m.S i).pc=10;.rw[if_pos c0];exact⟨hb,h⟩
 rw[if_neg c0];have hx:=h.x i;obtain⟨K,kk,o⟩:=h.t i hi;obtain⟨c,hc,Lb,Sx,a0,PI⟩:=su.act kk c0;rw[hc];simp only[Int.toNat_natCast];have O:=hT.plt i c hi Lb;have hj:=hT.slt i c hi Lb;have Y:hb (T.pl i c) (T.sl i c)=some i:=(o c Lb).2 Sx;have Oq:∀k,k<T.D->k≠c->T.pl i k≠T.pl i c:=λk hk ab e=>by have V:=hT.lv i k hi hk;have e2:=hT.lv i c hi Lb;rw[e]at V;omega
 obtain⟨v,LP⟩:=LE (T.pl i c);obtain⟨j,L5⟩:=LE (T.sl i c);have LD:=hx.va _ _ O hj;rw[<-LP]at O hj Y LD a0 PI Oq ⊢;rw[<-L5]at hj Y LD a0 PI ⊢;rw[if_neg (λe=>e.elim a0 PI)];have h0:¬((m.sp v j).pc=0\/(m.sp v j).pc=10):=λe=>e.elim a0 PI;obtain⟨x,U2⟩:=LE (df (arW (m.W v)) 1 ((j:Int)+1) (sv (m.P v) j));have Ri:RtS (T.nv v) x.1.W ((m.P v).set j x.2):=RtS.go (ar:=arW (m.W v)) (hx.rg v O) (hT.nv32 v O) hj rfl h0 U2;obtain⟨R',Rs⟩:=RtS.case (ar:=arW (m.W v)) (hx.rg v O) (hT.nv32 v O) hj rfl h0 U2;have R:RC (T.nv v) (m.W v) x.1.W (m.P v) j (m.sp v j) x.2:=R';clear R';have ad:rstH m v j={m with W:=aY m.W v x.1.W,P:=aY m.P v ((m.P v).set j x.2)}:=by rw[U2];rfl
 have KX:j<(m.P v).length:=by rw[hx.len O];exact hj
 have J':∀a b,(rstH m v j).sp a b=if a=v/\b=j then x.2 else m.sp a b:=λa b=>by rw[ad];exact gc m v j x.2 KX a b
 have Kl:(rstH m v j).sp v j=x.2:=by rw[J',if_pos ⟨rfl,rfl⟩]
 have ba:(rstH m v j).sg v j=rS x.1.W (numT j):=by rw[ad];show rS (aY m.W v x.1.W v) (numT j)=_;rw[aX]
 rw[Kl];have hS:(rstH m v j).S=m.S:=rfl;have NG:∀k,k<T.D->k≠c->(rstH m v j).sp (T.pl i k) (T.sl i k)=m.sp (T.pl i k) (T.sl i k):=λk hk ab=>by rw[J',if_neg (λe=>Oq k hk ab e.1)]
 have ng:¬((m.sp v j).pc=14\/(m.sp v j).pc=16)->ye bud x.2->(x.2.pc=5->rS x.1.W (numT j)=0)->HX T bud (rstH m v j) hb i:=λV e2 e3=>by rw[ad];exact hx.rung O hj Y x.1.W x.2 Ri (Rs V) e2 e3
 have OF:∀{K:Nat},HX T bud (rstH m v j) hb i->TSt T (rstH m v j).sp (rstH m v j).sg i (sv m.S i) K->(∀k,k<T.D->(hb (T.pl i k) (T.sl i k)=some i↔k<K))->∃O',eu T bud (rstH m v j) O':=λLd k1 o1=>⟨_,.of Ld ⟨_,k1,o1⟩⟩;have RZ:∀p:Sp,¬(p.pc=10\/p.pc=15\/p.pc=16)->ye bud p:=λp hp=>⟨λe=>absurd e hp,λe=>absurd (.inr e) hp⟩;cases kk with
 |rest H=>exact absurd (.inl H) c0
 |hold H _=>exact absurd (.inr H) c0
 |come c' H ha hg I=>
  obtain rfl:c=c':=by have:=H.2.1;omega
  rw[<-LP,<-L5]at ha hg
  have stay:1<=x.2.pc->x.2.pc<=6->(x.2.pc=5->¬0<rS x.1.W (numT j))->TSt T (rstH m v j).sp (rstH m v j).sg i (sv m.S i) (c+1):=λV e2 e3=>by
   refine .come c H ?_ (λe5=>?_) λk hk=>?_;.rw[<-LP,<-L5,Kl];exact⟨V,e2⟩
   .rw[<-LP,<-L5]at e5 ⊢;rw[Kl]at e5;rw[ba];exact e3 e5
   .exact abu
  cases R with
  |come e=>obtain⟨V,e2,e3,e4⟩:=e;rw[if_pos ahy];exact OF (ng ahy (RZ _ ahy) e3) (stay e2.1 e2.2 (λe=>by rw[e3 e];decide)) o
  |told e=>exact absurd e.2.2.1 (hg e.1)
  |hold e=>
   obtain⟨V,e2,e3,e4⟩:=e;rw[if_neg (λhn=>hn (.inr e2)),if_pos H.1];have Ld:=ng ahy ⟨λ_=>by omega,λe=>by omega⟩ (λ_=>by omega);unfold jM;rw[<-LP,<-L5,Kl,hS]
   have low:∀k,k<=c->((rstH m v j).sp (T.pl i k) (T.sl i k)).pc=10:=λk hk=>by
    by_cases e:k=c;.subst e;rw[<-LP,<-L5,Kl];exact e2
    .rw[NG k ahy e];exact I k ahy
   by_cases hD:c+1=T.D;.rw[if_pos (.inr hD)];exact⟨_,.of (Ld.thr _) (iA (K:=T.D) (tF Ld hi) (.hold rfl λk hk=>low k ahy) λk hk=>by rw[o k hk];omega)⟩
   .rw[if_neg ahy];have PL:c+1<T.D:=(by omega);have hn:hb (T.pl i (c+1)) (T.sl i (c+1))=none:=Ld.upNone hT hi PL (.inl (by have:=low c (Nat.le_refl _);show 6<=((rstH m v j).sp _ _).pc;omega)) (by rw[<-LP,<-L5];exact Y) (λe=>by have:=(o (c+1) PL).1 e;omega);have Qu:=hT.plt i (c+1) hi PL;have ax:=hT.slt i (c+1) hi PL;have h0:=Ld.fr _ _ Qu ax hn;have e:iK (rstH m v j) (T.pl i (c+1)) (T.sl i (c+1))=(rstH m v j).slot (T.pl i (c+1)) (T.sl i (c+1)) {(rstH m v j).sp (T.pl i (c+1)) (T.sl i (c+1))with pc:=1}:=(by unfold iK;rw[if_pos h0]);rw[e];have h2:=Ld.ask hi PL hT hn {(rstH m v j).sp (T.pl i (c+1)) (T.sl i (c+1))with pc:=1} rfl;have UO:=gc (rstH m v j) (T.pl i (c+1)) (T.sl i (c+1)) {(rstH m v j).sp (T.pl i (c+1)) (T.sl i (c+1))with pc:=1} (by rw[Ld.len Qu];exact ax);have Mo:∀k,k<T.D->k≠c+1->¬(T.pl i k=T.pl i (c+1)/\T.sl i k=T.sl i (c+1)):=λk hk ab e=>by have V:=hT.lv i k hi hk;have e2:=hT.lv i (c+1) hi PL;rw[e.1]at V;omega
    refine⟨_,.of (h2.thr _) (iA (K:=c+1+1) (tF h2 hi) (.come (c+1) ⟨H.1,by show(c:Int)+1=((c+1:Nat):Int);omega,PL⟩ ?_ (λe5=>?_) λk hk=>?_) λk hk=>?_)⟩;.rw[UO,if_pos ⟨rfl,rfl⟩];exact⟨by show(1:Int)<=1;decide,by show(1:Int)<=6;decide⟩
    .rw[UO,if_pos ⟨rfl,rfl⟩]at e5;exact absurd e5 (by show ¬(1:Int)=5;decide)
    .rw[UO,if_neg (Mo k ahy ahy)];exact low k ahy
    .by_cases e:k=c+1;.subst e;rw[gb];exact⟨λ_=>by omega,λ_=>rfl⟩
     .rw[fo (Mo k hk e),o k hk];omega
  |o e=>have:=e.1;omega
  |free e=>have:=e.1;omega
  |give s e=>have:=e.1;omega
  |look e=>have:=e.1;omega
 |granted c' H ha I=>
  obtain rfl:c=c':=by have:=H.2.1;omega
  rw[<-LP,<-L5]at ha;have Zg:0<rS (m.W v) (numT j):=ha.2;cases R with
  |told e=>obtain⟨V,e2,e3,e4,e5⟩:=e;rw[if_neg (λhn=>hn (.inr e2)),if_pos H.1];have Pp:=hx.sa v j O hj ha.1;have bw:rS (m.W v) (numT j)=0\/rS (m.W v) (numT j)= -1\/(1<=rS (m.W v) (numT j)/\rS (m.W v) (numT j)<=bud+1):=Pp;have Ld:=ng ahy ⟨λ_=>by omega,λe=>by omega⟩ (λ_=>by omega);unfold jM;rw[<-LP,<-L5,Kl,hS,if_pos (.inl e5)];refine⟨_,.of (Ld.thr _) (iA (K:=T.D) (tF Ld hi) (.hold rfl λk hk=>?_) o)⟩;exact abv
  |come e=>exact absurd ⟨ha.1,Zg⟩ e.2.2.2
  |hold e=>have:=e.1;omega
  |o e=>have:=e.1;omega
  |free e=>have:=e.1;omega
  |give s e=>have:=e.1;omega
  |look e=>have:=e.1;omega
 |pass c' H ha I=>
  obtain rfl:c=c':=by have:=H.2.1;omega
  rw[<-LP,<-L5]at ha;cases R with
  |look e=>
   obtain⟨V,e2,e3,e4⟩:=e;have v1:=LD.1 (.inr (.inl V));have v2:=LD.2 (.inl V);have Ld:=ng ahy ⟨λ_=>by omega,λ_=>by omega⟩ (λ_=>by omega);rcases e2 with e2|e2
   .rw[if_neg (λhn=>hn (.inr e2)),if_neg ahy,if_neg ahy];refine⟨_,wZ hT hi T.D _ (c+1) Ld (λk hk=>(o k hk).2 hk) (λk hk=>?_) H.2.2 ahy⟩;exact abv
   .rw[if_pos ahy];refine OF Ld (.pass c H ?_ λk hk ab=>?_) o;.rw[<-LP,<-L5,Kl];exact .inr e2
    .rw[NG k hk ab];exact I k hk ab
  |give s e=>
   obtain⟨V,e2,⟨Qp,Qo⟩,e5,TW,e6,e7⟩:=e;have Sn:(m.sp v j).pc=16:=(by omega);have v1:=LD.1 (.inr (.inr Sn));have v2:=LD.2 (.inr Sn);obtain⟨u,hu⟩:∃u,hb v s=some u:=by exact abw
   obtain⟨Mp,k,hk,h1,h2⟩:=hx.ow v s u hu;obtain rfl:c=k:=by exact abx
   have My:∀k,c<k->k<T.D->T.pl i k=T.pl u k/\T.sl i k=T.sl u k:=λk al KJ=>by obtain⟨d,rfl⟩:∃d,k=c+d+1:=⟨k-c-1,by omega⟩;exact yb hT hi Mp (by rw[<-LP];exact h1) d KJ
   have Mw:0<rS x.1.W (numT s):=by omega
   obtain⟨_,Pq,O',hg,Ut,_⟩:=hx.give hT O hj Y x.1.W x.2 e2 Qp Qo Ri e5 TW e7 (.inr ahy) hu Lb h1 h2 (λ_ k al KJ=>by
    rw[<-(My k al KJ).1,<-(My k al KJ).2]
    exact⟨I k KJ ahy,(o k KJ).2 KJ⟩)
   rw[<-ad]at hg;have Sr:=Ut Mw;rw[if_neg (λhn=>hn (.inl e2)),if_neg ahy,if_pos e2];have Ps:∀k,k<=c->¬∃k',c<k'/\k'<T.D/\T.pl i k=T.pl u k'/\T.sl i k=T.sl u k':=λk Pj ⟨k',h3,h4,h5,_⟩=>by have l1:=hT.lv i k hi ahy;have l2:=hT.lv u k' Mp h4;rw[h5]at l1;omega
   have Z4:O' v j=some i:=(by rw[Sr,LP,L5,jC (Ps c (Nat.le_refl _)),<-LP,<-L5];exact Y);have hrel:=hg.release (by rw[Kl];exact e2) Z4;refine⟨_,oO hrel hT hi Lb (λk hk=>?_) λk hk=>?_⟩
   .by_cases e:k=c;.exact aby
    .rw[fo (λe'=>Oq k hk e e'.1),Sr];rcases Nat.lt_or_ge k c with h3|h3
     .rw[jC (Ps k ahy),o k hk];omega
     .rw[(My k ahy hk).1,(My k ahy hk).2,pR ahy hk];exact⟨λh=>(by injection h with h;exact absurd h Pq),λh=>by omega⟩
   .rw[NG k ahy ahy];exact I k ahy ahy
  |come e=>have:=e.1;omega
  |told e=>have:=e.1;omega
  |hold e=>have:=e.1;omega
  |free e=>have:=e.1;omega
  |o e=>have:=e.1;omega
 |leave c' H ha NR I=>
  obtain rfl:c=c':=by have:=H.2.1;omega
  rw[<-LP,<-L5]at ha NR;cases R with
  |o e=>
   obtain⟨V,e6,e3⟩:=e;rw[if_pos ahy];refine OF (ng ahy (RZ _ ahy) (λ_=>by omega)) (.leave c H ?_ ?_ λk hk=>?_) o;.rw[<-LP,<-L5,Kl];exact⟨by omega,e6.2⟩
   .rw[<-LP,<-L5,Kl,e3];exact NR
   .exact abu
  |free e=>obtain⟨V,e2⟩:=e;rw[if_neg (λhn=>hn (.inl e2)),if_neg ahy,if_pos e2];have Ld:=ng ahy (RZ _ ahy) (λ_=>by omega);have hrel:=Ld.release (by rw[Kl];exact e2) Y;exact abz
  |give s e=>
   obtain⟨V,e2,⟨Qp,Qo⟩,e5,TW,e6,e7⟩:=e;have Sn:(m.sp v j).pc=14:=(by omega);obtain⟨u,hu⟩:∃u,hb v s=some u:=by exact abw
   obtain⟨Mp,k,hk,h1,h2⟩:=hx.ow v s u hu;obtain rfl:c=k:=by exact abx
   have bc:(c+1=T.D/\rS x.1.W (numT s)=1)\/(c+1≠T.D/\rS x.1.W (numT s)= -1):=by
    rw[e6,NR];by_cases e:c+1=T.D;.exact .inl ⟨e,by rw[if_pos e]⟩
    .exact .inr ⟨e,by rw[if_neg e]⟩
   obtain⟨_,Pq,O',hg,Ut,Zx⟩:=hx.give hT O hj Y x.1.W x.2 e2 Qp Qo Ri e5 TW e7 ahy hu Lb h1 h2 (λhp k al KJ=>by omega);rw[<-ad]at hg
   have Sr:O'=hb:=by
    rcases bc with⟨e7,e8⟩|⟨e7,e8⟩
    .rw[Ut ahy];funext a b;exact jC fun⟨k',h3,h4,_⟩=>by omega
    .exact Zx ahy
   rw[Sr]at hg;rw[if_neg (λhn=>hn (.inl e2)),if_neg ahy,if_pos e2];have hrel:=hg.release (by rw[Kl];exact e2) Y;exact abz
  |come e=>have:=e.1;omega
  |told e=>have:=e.1;omega
  |hold e=>have:=e.1;omega
  |look e=>have:=e.1;omega
end
end
section
open Go.RowKit
def hm0(T:HTr):Hm:=⟨λv=>List.replicate (2*T.nv v+1) 0,λv=>List.replicate (T.nv v) Sp.zero,List.replicate T.n Sp.zero⟩
def r8(n i:Nat):sv (List.replicate n Sp.zero) i=Sp.zero:=by exact abA
def RtS.start(n:Nat):RtS n (List.replicate (2*n+1) 0) (List.replicate n Sp.zero):=by
 have H:∀x,ldW (List.replicate (2*n+1) 0) x=0:=λx=>by
  unfold ldW;split;.rw[List.getD_eq_getElem?_getD,List.getElem?_replicate];split<;>rfl
  .rfl
 have hN:∀x,rN (List.replicate (2*n+1) 0) x=0:=λx=>by unfold rN;split<;>first|exact H _|rfl
 have I:∀x,rS (List.replicate (2*n+1) 0) x=0:=λx=>by unfold rS;split<;>first|exact H _|rfl
 have hs:∀i,sv (List.replicate n Sp.zero) i=Sp.zero:=λi=>r8 _ _
 have O:∀i,¬GV (rS (List.replicate (2*n+1) 0)) (sv (List.replicate n Sp.zero)) i:=λi h=>by
  rcases h with h|h
  .rw[hs]at h;exact absurd h ahA
  .exact h.2 (I _)
 have z:∀i,(sv (List.replicate n Sp.zero) i).pc=0:=λi=>by rw[hs];rfl
 refine⟨⟨⟨λi j _ _ h=>absurd h (O i),λ_ i _=>O i⟩,by rw[H];omega,λi _=>by rw[z];omega,λi _ _=>I _,λi _ _=>hN _,λi _ h=>?_,λi _ h=>?_,λi j _ _ h=>?_,λj _ h=>?_,λj k _ _ h=>?_,λi _ h=>?_,λi _ h=>?_⟩,by simp,by simp⟩;.rw[H]at h;exact absurd h (by unfold numT;omega)
 all_goals rw[z]at h;omega
def eu.start(T:HTr)(bud:Int):eu T bud (hm0 T) (λ_ _=>none):=by have hs:∀v j,(hm0 T).sp v j=Sp.zero:=λv j=>r8 _ _;have I:∀t,sv (hm0 T).S t=Sp.zero:=λt=>r8 _ _;have H:∀t,su T (hm0 T) (λ_ _=>none) t:=λt=>⟨0,.rest (by rw[I];rfl),λk V=>⟨λh=>(by cases h),λh=>absurd h (Nat.not_lt_zero _)⟩⟩;refine⟨λi=>⟨λv O=>RtS.start _,by simp[hm0],λv j t h=>(by cases h),λv j _ _ _=>by rw[hs];rfl,λt _ _=>H t,λv j _ _=>?_,λv j _ _ h=>by rw[hs]at h;exact absurd h ahA⟩,λt _=>H t⟩;rw[hs];exact⟨λe=>absurd e ahA,λe=>absurd e ahA⟩
def sk(m:Hm)(v j:Nat)(u c:Int):(eQ m v j u c).S=m.S:=by unfold eQ;split<;>rfl
def Fz(m:Hm)(v j:Nat):(iK m v j).S=m.S:=by unfold iK;split<;>rfl
end
end Go.Proofs.YtglokdbiggbkjaaGreat
