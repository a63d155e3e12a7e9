/- Joined texts. -/
import Derived.RowKit
import Derived.Test.YtglokdbiggbkjaaGreatMgBoltLoops0
import Derived.Test.YtglokdbiggbkjaaGreatMgBoltLoops2
import Derived.Test.YtglokdbiggbkjaaGreatMgBoltLoops14
set_option linter.unusedVariables false
set_option linter.unusedSimpArgs false
set_option linter.defProp false
set_option maxRecDepth 100000
set_option maxHeartbeats 16000000
open Go.Proofs.Tryz
namespace Go.Proofs.YtglokdbiggbkjaaGreat
open Go.IntKind(i64)
open Go.Value(int bool slice agg tuple pointer)
open Go.Ending(returned)
open Go.Obj(cells)
variable{v K j k a b c:Nat}{bud:Int}{ho O':Nat->Nat->Option Nat}
section
open Go Go.RowKit
def nxA(t x:Int):Int:=wrap64 (wrap64 (t+wrap64 (2*x))-1)
def stA(t x:Int):Int:=wrap64 (t+wrap64 (2*x))
def iU(s:Ar)(t x:Int)(p:Sp):Ar×Sp:=
 if p.pc=1 then(ae s (nxA t x) 0,{p with pc:=2})
 else if p.pc=2 then(ae s (stA t x) 0,{p with pc:=3})
 else if p.pc=3 then(cr s t x,{p with a:=ldW s.W t,pc:=if ldW s.W t=0 then 6 else 4})
 else if p.pc=4 then(ae s (nxA t p.a) x,{p with pc:=5})
 else if p.pc=5 then(af s (stA t x),if 0<ldW s.W (stA t x)then {p with a:=ldW s.W (stA t x),b:=0,pc:=10} else if ldW s.W (stA t x)<0 then {p with a:=ldW s.W (stA t x),pc:=6} else {p with a:=ldW s.W (stA t x),pc:=5})
 else(ae s (stA t x) 1,{p with a:=1,b:=1,pc:=10})
def eK(s:Ar)(t x:Int)(p:Sp):Ar×Sp:=
 if p.pc=12 then(dX s t x 0,{p with pc:=if cJ s t x then 0 else 13})
 else if p.pc=14 then(ae s (stA t p.a) p.c,{p with pc:=0})
 else if p.pc=15 then(af s (nxA t x),{p with b:=ldW s.W (nxA t x),pc:=if ldW s.W (nxA t x)=0 then 10 else 16})
 else if p.pc=16 then(ae s (stA t p.b) p.c,{p with pc:=0})
 else(af s (nxA t x),{p with a:=ldW s.W (nxA t x),pc:=if ldW s.W (nxA t x)≠0 then 14 else if p.pc=11 then 12 else 13})
def de(s:Ar)(t x:Int)(p:Sp):Ar×Sp:=if p.pc<10 then iU s t x p else eK s t x p
end
section
open Go
variable{ar:Ar}{p:Sp}{r:Ar×Sp}
def rN(W:List Int)(x:Int):Int:=if 1<=x then ldW W (2*x)else 0
def rS(W:List Int)(x:Int):Int:=if 1<=x then ldW W (2*x+1)else 0
abbrev G2(S:Int->Int)(σ:Nat->Sp):Nat->Prop:=jg 6 (λv=>v≠0) S σ
structure RtI(n:Nat)(t:Int)(N S:Int->Int)(σ:Nat->Sp):Prop where
 tk:jl n (G2 S σ) (t=0)
 vt:0<=t/\t<=n
 pcs:∀i,i<n->(0<=(σ i).pc/\(σ i).pc<=6)\/(10<=(σ i).pc/\(σ i).pc<=16)
 z:∀i,i<n->(σ i).pc=3\/(σ i).pc=4->S (numT i)=0
 n2:∀i,i<n->(σ i).pc=2\/(σ i).pc=3->N (numT i)=0
 tl:∀i,i<n->t=numT i->4<=(σ i).pc/\N t=0
 l:∀i,i<n->(σ i).pc=4->(1<=(σ i).a/\(σ i).a<=n)/\t≠(σ i).a/\N (σ i).a=0/\∀j,j<n->numT j=(σ i).a->4<=(σ j).pc/\j≠i
 u4:∀i j,i<n->j<n->(σ i).pc=4->(σ j).pc=4->(σ i).a=(σ j).a->i=j
 nx:∀j,j<n->4<=(σ j).pc->N (numT j)≠0->(1<=N (numT j)/\N (numT j)<=n)/\∀i,i<n->numT i=N (numT j)->(σ i).pc=5/\S (numT i)=0
 u:∀j k,j<n->k<n->4<=(σ j).pc->4<=(σ k).pc->N (numT j)≠0->N (numT j)=N (numT k)->j=k
 s14:∀i,i<n->(σ i).pc=14->N (numT i)=(σ i).a/\(σ i).a≠0
 s16:∀i,i<n->(σ i).pc=16->N (numT i)=(σ i).b/\(σ i).b≠0
structure RtS(n:Nat)(W:List Int)(S:List Sp):Prop where
 i:RtI n (ldW W 1) (rN W) (rS W) (sv S)
 len:S.length=n
 wln:W.length=2*n+1
section
variable{n:Nat}{W:List Int}
def rj{m:Nat}(wl:W.length=m)(a v b:Int):ldW (stW W a v) b=if b=a/\1<=a/\a<=m then v else ldW W b:=by exact abl
theorem ul(wl:W.length=2*n+1)(x v:Int)(h1:1<=x)(h:x<=n):ldW (stW W (2*x) v) 1=ldW W 1/\rN (stW W (2*x) v)=updF (rN W) x v/\rS (stW W (2*x) v)=rS W:=by exact abs
theorem qz(wl:W.length=2*n+1)(x v:Int)(h1:1<=x)(h:x<=n):ldW (stW W (2*x+1) v) 1=ldW W 1/\rN (stW W (2*x+1) v)=rN W/\rS (stW W (2*x+1) v)=updF (rS W) x v:=by exact abs
theorem xU(wl:W.length=2*n+1)(v:Int):ldW (stW W 1 v) 1=v/\rN (stW W 1 v)=rN W/\rS (stW W 1 v)=rS W:=by simp only[funext_iff,rN,rS,rj wl];exact aa2
end
def CH(j:Nat):1<=numT j:=by unfold numT;omega
theorem RtS.go{n i:Nat}{S:List Sp}(k:RtS n ar.W S)(hn:n<=32)(hi:i<n)(hp:p=sv S i)(h0:¬(p.pc=0\/p.pc=10))(I:r=de ar 1 (numT i) p):RtS n r.1.W (S.set i r.2):=by
 have hs:∀q,sv (S.set i q)=λj=>if j=i then q else sv S j:=λq=>by funext j;rw[be];grind [k.len]
 refine ajF ?_;intro lN lS MI inj;have MR:=CH;obtain⟨⟨tk,vt,pcs,z,n2,tl,l,u4,nx,u,s14,s16⟩,len,wln⟩:=k;have KY:1<=numT i/\numT i<=n:=by unfold numT;omega
 have hA:∀x:Int,1<=x->x<=n->nxA 1 x=2*x/\stA 1 x=2*x+1:=λx h1 h2=>by unfold nxA stA RowKit.wrap64;omega
 have h2:=pcs i hi;have Y:=l i hi;have Mh:=s14 i hi;have M':=s16 i hi;have V:=nx i hi;rw[<-hp]at h2 Y Mh M' V;obtain⟨pc,a,b,c⟩:=p;simp only at h0 h2 Y Mh M' V;have hc:pc=1\/pc=2\/pc=3\/pc=4\/pc=5\/pc=6\/pc=11\/pc=12\/pc=13\/pc=14\/pc=15\/pc=16:=by omega
 rcases hc with rfl|rfl|rfl|rfl|rfl|rfl|rfl|rfl|rfl|rfl|rfl|rfl
 all_goals simp[de,iU,eK,hA (numT i) KY.1 KY.2,MI,lN (numT i) KY.1,lS (numT i) KY.1]at I;repeat' split at I
 all_goals
  try rw[(hA a ahB ahB).1]at I
  try rw[(hA a ahB ahB).2]at I
  try rw[(hA b ahB ahB).2]at I
  subst I;refine⟨?_,by simp[len],?_⟩
 all_goals try simp only[ay,aQ,dP,gW]
 all_goals try simp only[MI,decide_eq_true_eq]
 all_goals try first|rw[if_pos ahU]|rw[if_neg ahU]
 all_goals try first|(simp only[bM,wln];done)
 all_goals rw[hs]
 all_goals try first
  |rw[(ul wln _ _ ahB ahB).1,(ul wln _ _ ahB ahB).2.1,(ul wln _ _ ahB ahB).2.2]
  |rw[(qz wln _ _ ahB ahB).1,(qz wln _ _ ahB ahB).2.1,(qz wln _ _ ahB ahB).2.2]
  |rw[(xU wln _).1,(xU wln _).2.1,(xU wln _).2.2]
 all_goals have Oz:=congrArg Sp.pc hp.symm;have Pr:=congrArg Sp.a hp.symm;dsimp only at Oz Pr;clear hs lN lS MI hp wln len hA hn;generalize Rc:(λj=>if j=i then _ else sv S j)=σ';have H:=λj=>(congrFun Rc j).symm;clear Rc;generalize sv S=σ at *;generalize ldW ar.W 1=t at *;generalize rN ar.W=N at *;generalize rS ar.W=G at *;have hx:∀x:Int,1<=x->x<=n->∃j,j<n/\numT j=x:=λx h1 h2=>⟨(x-1).toNat,by omega,by unfold numT;omega⟩
 all_goals
  refine⟨?_,by omega,λj O=>?_,λj O=>?_,λj O=>?_,λj O=>?_,λj O=>?_,λj k O hk=>?_,λj O=>?_,λj k O hk=>?_,λj O=>?_,λj O=>?_⟩;.first|exact tk.own hi H ahB ain ait|exact tk.o hi H ahB ahD ahP aiu|exact tk.low hi H aiM ahD ain|exact tk.door hi H ahB ahP ahB|exact tk.ent hi H ahB (show G (numT i)≠0 by omega)
  .have e:=H j;have:=pcs j O;clear tk vt pcs z n2 tl l u4 nx u s14 s16 h2 Y Mh M' V inj MR hx H;grind
  .have e:=H j;have:=z j O;have h1:=λa b=>(V a b).2 j O;have h3:=inj j i;clear tk vt pcs z n2 tl l u4 nx u s14 s16 h2 Y V inj MR hx H;exact abt
  .have e:=H j;have:=n2 j O;have h3:=inj j i;have h1:=λh=>(Y h).2.2.2 j O;clear tk vt pcs z n2 tl l u4 nx u s14 s16 h2 Y Mh M' V inj MR hx H;exact abt
  .have e:=H j;have h1:=tl j O;have hq:=MR j;have h3:=inj j i;have h5:=n2 i hi;clear tk vt pcs z n2 tl l u4 nx u s14 s16 h2 V inj MR hx H;exact abt
  .have e:=H j;have h1:=l j O;have h5:=n2 i hi;have h7:=tl i hi;have h8:=u4 j i O hi;intro q;have hl:∀k,k<n->numT k=(σ' j).a->4<=(σ' k).pc/\k≠j:=(by intro k hk h;have ek:=H k;have h9:=λa=>(h1 a).2.2.2 k hk;have h10:=tl k hk;clear u4 nx u s14 s16 pcs z V n2 tk H tl l hx inj;grind);refine⟨?_,?_,?_,hl⟩;all_goals clear u4 nx u s14 s16 pcs z V n2 tk H l hl inj;grind [updF]
  .have e:=H j;have ek:=H k;have h1:=u4 j k O hk;have h2:=l j O;have h3:=l k hk;clear tk vt pcs z n2 tl l u4 nx u s14 s16 Y Mh M' V inj MR hx H;grind
  .have e:=H j;have h1:=nx j O;have h5:=n2 i hi;have h6:=inj j i;have h7:=u j i O hi;have h8:=z i hi;clear u4 nx u s14 s16 pcs z n2 tk tl l;exact abt
  .have e:=H j;have ek:=H k;have h1:=u j k O hk;have h5:=n2 i hi;have h6:=inj j i;have h7:=inj k i;have h8:=inj j k;have h9:=λa b=>(nx j O a b).2 i hi;have h10:=λa b=>(nx k hk a b).2 i hi;clear u4 nx u s14 s16 pcs z n2 tk tl l H V inj hx Y Mh M';first|grind [updF]|(intros;simp only[updF]at *;grind)
  .have e:=H j;have h1:=s14 j O;have h3:=inj j i;have h5:=λh=>(Y h).2.2.1;clear tk vt pcs z n2 tl l u4 nx u s14 s16 h2 Y M' V inj MR hx H;exact abt
  .have e:=H j;have h1:=s16 j O;have h3:=inj j i;have h5:=λh=>(Y h).2.2.1;clear tk vt pcs z n2 tl l u4 nx u s14 s16 h2 Y Mh V inj MR hx H;exact abt
theorem RtS.beg{n i:Nat}{W:List Int}{S:List Sp}(k:RtS n W S)(hi:i<n){p':Sp}(hp:((sv S i).pc=10/\(p'.pc=11\/p'.pc=15))\/((sv S i).pc=0/\p'.pc=1)):RtS n W (S.set i p'):=by
 obtain⟨⟨tk,vt,pcs,z,n2,tl,l,u4,nx,u,s14,s16⟩,len,wln⟩:=k;refine⟨?_,by simp[len],wln⟩;have he:∀j,sv (S.set i p') j=if j=i then p' else sv S j:=λj=>by rw[be];grind
 generalize sv (S.set i p')=σ' at *;generalize sv S=σ at *;refine⟨?_,vt,?_,?_,?_,?_,?_,?_,?_,?_,?_,?_⟩;.exact aa3
 .intro j H;have e:=he j;have q:=pcs j H;clear tk pcs z n2 tl l u4 nx u s14 s16 he;grind
 .intro j H;have e:=he j;have q:=z j H;clear tk pcs z n2 tl l u4 nx u s14 s16 he;grind
 .intro j H;have e:=he j;have q:=n2 j H;clear tk pcs z n2 tl l u4 nx u s14 s16 he;grind
 .intro j H;have e:=he j;have q:=tl j H;clear tk pcs z n2 tl l u4 nx u s14 s16 he;grind
 .intro j H Y;have e:=he j;have MW:j≠i:=λh=>by rw[if_pos h]at e;rw[e]at Y;omega
  rw[if_neg MW]at e;obtain⟨q1,q2,q3,q4⟩:=l j H (by rw[<-e];exact Y);rw[e];refine⟨q1,q2,q3,λk O V=>?_⟩;have:=q4 k O V;have:=he k;exact abu
 .intro j k H O;have e:=he j;have e2:=he k;have q:=u4 j k H O;clear tk pcs z n2 tl l u4 nx u s14 s16 he;grind
 .intro j H Y h5;have e:=he j;have h6:4<=(σ j).pc:=by clear tk pcs z n2 tl l u4 nx u s14 s16 he;grind
  have:=nx j H h6 h5;refine⟨this.1,λk O V=>?_⟩;have q:=this.2 k O V;have:=he k;exact abu
 .intro j k H O h1 h2;have e:=he j;have e2:=he k;have q:=u j k H O;exact abu
 .intro j H;have e:=he j;have q:=s14 j H;clear tk pcs z n2 tl l u4 nx u s14 s16 he;grind
 .intro j H;have e:=he j;have q:=s16 j H;clear tk pcs z n2 tl l u4 nx u s14 s16 he;grind
theorem RtS.reach{n i:Nat}{W:List Int}{S:List Sp}(k:RtS n W S)(hi:i<n):((sv S i).pc=4\/(sv S i).pc=14->1<=(sv S i).a/\(sv S i).a<=n)/\((sv S i).pc=16->1<=(sv S i).b/\(sv S i).b<=n):=by have h1:=k.i.l i hi;have h:=k.i.s14 i hi;have H:=k.i.s16 i hi;have I:=k.i.nx i hi;grind
inductive RC(n:Nat)(W W':List Int)(S:List Sp)(i:Nat)(p p':Sp):Prop where
 |come (h:(1<=p.pc/\p.pc<=6)/\(1<=p'.pc/\p'.pc<=6)/\(p'.pc=5->rS W' (numT i)=0)/\¬(p.pc=5/\0<rS W (numT i)))
 |told (h:p.pc=5/\p'.pc=10/\0<rS W (numT i)/\p'.a=rS W (numT i)/\p'.b=0)
 |hold (h:p.pc=6/\p'.pc=10/\p'.a=1/\p'.b=1)
 |o (h:(11<=p.pc/\p.pc<=13)/\(12<=p'.pc/\p'.pc<=14)/\p'.c=p.c)
 |free (h:p.pc=12/\p'.pc=0)
 |give (s:Nat) (h:(p.pc=14\/p.pc=16)/\p'.pc=0/\(s<n/\s≠i)/\(sv S s).pc=5/\rS W (numT s)=0/\rS W' (numT s)=p.c/\∀j,j≠s->rS W' (numT j)=rS W (numT j))
 |look (h:p.pc=15/\(p'.pc=10\/p'.pc=16)/\p'.a=p.a/\p'.c=p.c)
def RtS.case{n i:Nat}{S:List Sp}(k:RtS n ar.W S)(hn:n<=32)(hi:i<n)(hp:p=sv S i)(h0:¬(p.pc=0\/p.pc=10))(I:r=de ar 1 (numT i) p):RC n ar.W r.1.W S i p r.2/\(¬(p.pc=14\/p.pc=16)->∀j,j≠i->rS r.1.W (numT j)=rS ar.W (numT j)):=by
  refine ajF ?_;intro lN lS MI inj;have Y:1<=numT i/\numT i<=n:=by unfold numT;omega
  have hA:∀x:Int,1<=x->x<=n->nxA 1 x=2*x/\stA 1 x=2*x+1:=λx h1 H=>by unfold nxA stA RowKit.wrap64;omega
  have wln:=k.wln;have OT:=k.reach hi;have hz:=k.i.z i hi;have Mh:=k.i.s14 i hi;have M':=k.i.s16 i hi;have Kz:=k.i.nx i hi;have H:=k.i.pcs i hi;rw[<-hp]at OT hz Mh M' Kz H;have Oz:=congrArg Sp.pc hp.symm;obtain⟨pc,a,b,c⟩:=p;simp only at h0 OT hz Mh M' Kz H Oz;have hc:pc=1\/pc=2\/pc=3\/pc=4\/pc=5\/pc=6\/pc=11\/pc=12\/pc=13\/pc=14\/pc=15\/pc=16:=by omega
  have gv:∀y:Int,1<=y->y<=n->rN ar.W (numT i)=y->4<=pc->pc≠5->∃s,(s<n/\s≠i)/\numT s=y/\(sv S s).pc=5/\rS ar.W (numT s)=0/\rS (stW ar.W (2*y+1) c) (numT s)=c/\∀j,j≠s->rS (stW ar.W (2*y+1) c) (numT j)=rS ar.W (numT j):=λy h1 H h3 h4 h5=>by
    obtain⟨q1,q2⟩:=Kz h4 ahB;have h:numT (y-1).toNat=y:=(by unfold numT;omega);obtain⟨O,V⟩:=q2 (y-1).toNat (by unfold numT at h;omega) (by rw[h,h3]);refine⟨(y-1).toNat,⟨by unfold numT at h;omega,λe=>h5 (by rw[<-Oz,<-e];exact O)⟩,h,O,V,?_,λj hj=>?_⟩;. rw[h,(qz wln y c h1 H).2.2,gS]
    . rw[(qz wln y c h1 H).2.2,eG _ (λe=>hj (inj _ _ (e.trans h.symm)))]
  rcases hc with rfl|rfl|rfl|rfl|rfl|rfl|rfl|rfl|rfl|rfl|rfl|rfl
  all_goals simp[de,iU,eK,hA (numT i) Y.1 Y.2,MI,lN (numT i) Y.1,lS (numT i) Y.1]at I;repeat' split at I
  all_goals
    try rw[(hA a ahB ahB).1]at I
    try rw[(hA a ahB ahB).2]at I
    try rw[(hA b ahB ahB).2]at I
    subst I
  all_goals try simp only[ay,aQ,dP,gW]
  all_goals try simp only[MI,decide_eq_true_eq]
  all_goals try first|rw[if_pos ahU]|rw[if_neg ahU]
  all_goals refine⟨?_,λhh j hj=>?_⟩
  all_goals try first
    | exact .told ⟨rfl,rfl,by assumption,rfl,rfl⟩
    | exact .hold ⟨rfl,rfl,rfl,rfl⟩
    | exact .look ⟨rfl,by first|exact .inl rfl|exact .inr rfl,rfl,rfl⟩
    | exact .free ⟨rfl,rfl⟩
    | exact .o ⟨by dsimp only;omega,by dsimp only;omega,rfl⟩
    | exact .come ⟨by dsimp only;omega,by dsimp only;omega,λe=>by first|(exfalso;revert e;simp;done)|(rw[(ul wln _ _ ahB ahB).2.2];exact hz ahB)|omega,λe=>by first|omega|(have:=e.1;omega)|(have:=e.2;omega)⟩
    | (obtain⟨s,q1,q2,O,V,q5,q6⟩:=gv a ahB ahB (Mh rfl).1 ahB ahB;exact .give s ⟨.inl rfl,rfl,q1,O,V,q5,q6⟩)
    | (obtain⟨s,q1,q2,O,V,q5,q6⟩:=gv b ahB ahB (M' rfl).1 ahB ahB;exact .give s ⟨.inr rfl,rfl,q1,O,V,q5,q6⟩)
    | rfl
    | rw[(ul wln _ _ ahB ahB).2.2]
    | rw[(qz wln _ _ ahB ahB).2.2,eG _ (λe=>hj (inj _ _ e))]
    | rw[(xU wln _).2.2]
    | trivial
    | (exfalso;omega)
  all_goals refine .come ⟨by dsimp only;omega,by dsimp only;omega,λe=>?_,λe=>?_⟩
  all_goals simp at e
end
section
open Go.RowKit
def arW(W:List Int):Ar:=⟨W,0,0,0,0,false⟩
section
variable{A W C:List Int}{n:Nat}
def re{z:Int}(h1:1<=z)(h:z<=W.length):inR (A++W++C) (A.length+z)=true/\inR W z=true:=by refine⟨aT.2 ⟨by omega,?_⟩,aT.2 ⟨h1,h⟩⟩;simp only[List.length_append];omega
def rl{z:Int}(h1:1<=z)(I:z<=W.length):ldW (A++W++C) (A.length+z)=ldW W z:=by obtain⟨h,H⟩:=re (A:=A) (C:=C) h1 I;rw[js h,js H,show((A.length:Int)+z).toNat-1=A.length+(z.toNat-1)by omega];rw[List.getD_eq_getElem?_getD,List.getD_eq_getElem?_getD,List.append_assoc,List.getElem?_append_right ahB,Nat.add_sub_cancel_left,List.getElem?_append_left ahB]
def rV{z:Int}(v:Int)(h1:1<=z)(I:z<=W.length):stW (A++W++C) (A.length+z) v=A++stW W z v++C:=by obtain⟨h,H⟩:=re (A:=A) (C:=C) h1 I;unfold stW;rw[if_pos h,if_pos H,show((A.length:Int)+z).toNat-1=A.length+(z.toNat-1)by omega];rw[List.append_assoc,List.set_append_right _ _ ahB,Nat.add_sub_cancel_left,List.set_append_left _ _ ahB,List.append_assoc]
def EC{x:Int}(H:1<=x/\x<=32)(h:A.length<=5000):nxA ((A.length:Int)+1) x=A.length+2*x/\nxA 1 x=2*x:=by unfold nxA wrap64;omega
def EP{x:Int}(H:1<=x/\x<=32)(h:A.length<=5000):stA ((A.length:Int)+1) x=A.length+(2*x+1)/\stA 1 x=2*x+1:=by unfold stA wrap64;omega
def Dz{s:Ar}(hs:s.W=A++W++C){z old v:Int}(h1:1<=z)(h:z<=W.length):cJ s (A.length+z) old=cJ (arW W) z old/\(dX s (A.length+z) old v).W=A++(dX (arW W) z old v).W++C:=by
 obtain⟨H,I⟩:=re (A:=A) (C:=C) h1 h;have hb:cJ s (A.length+z) old=cJ (arW W) z old:=by unfold cJ;rw[hs,H,rl h1 h];show _=(inR W z&&decide (ldW W z=old));rw[I]
 refine⟨hb,?_⟩;rw[gW,gW,hb,hs];show(if cJ (arW W) z old=true then stW (A++W++C) (A.length+z) v else A++W++C)=A++(if cJ (arW W) z old=true then stW W z v else W)++C;split;.exact rV v h1 h
 .rfl
def zG{s:Ar}(hs:s.W=A++W++C)(hW:W.length=2*n+1)(hn:n<=32)(hA:A.length<=5000){x:Int}(O:1<=x/\x<=n){p:Sp}(h4:p.pc=4\/p.pc=14->1<=p.a/\p.a<=n)(M':p.pc=16->1<=p.b/\p.b<=n):(de s ((A.length:Int)+1) x p).1.W=A++(de (arW W) 1 x p).1.W++C/\(de s ((A.length:Int)+1) x p).2=(de (arW W) 1 x p).2:=by
  have nx:∀y:Int,1<=y->y<=n->(∀v,stW (A++W++C) (nxA ((A.length:Int)+1) y) v=A++stW W (nxA 1 y) v++C)/\ldW (A++W++C) (nxA ((A.length:Int)+1) y)=ldW W (nxA 1 y):=λy h1 h2=>by obtain⟨e1,e2⟩:=EC (x:=y) (A:=A) ahB hA;exact abv
  have st:∀y:Int,1<=y->y<=n->(∀v,stW (A++W++C) (stA ((A.length:Int)+1) y) v=A++stW W (stA 1 y) v++C)/\ldW (A++W++C) (stA ((A.length:Int)+1) y)=ldW W (stA 1 y):=λy h1 h2=>by obtain⟨e1,e2⟩:=EP (x:=y) (A:=A) ahB hA;exact abv
  have tl:=rl (A:=A) (W:=W) (C:=C) (z:=1) ahB ahB;have al:=λv=>rV (A:=A) (W:=W) (C:=C) (z:=1) v ahB ahB;have tc:=λv=>Dz (s:=s) hs (z:=1) (old:=x) (v:=v) ahB ahB;obtain⟨ab,Xt⟩:=nx x O.1 O.2;obtain⟨Qr,ad⟩:=st x O.1 O.2;unfold de;by_cases I:p.pc<10
  . rw[if_pos I,if_pos I];unfold iU;by_cases c1:p.pc=1;. simp only[if_pos c1,ay,hs];exact⟨ab 0,trivial⟩
    by_cases c2:p.pc=2;. simp only[if_neg c1,if_pos c2,ay,hs];exact⟨Qr 0,trivial⟩
    by_cases c3:p.pc=3;. simp only[if_neg c1,if_neg c2,if_pos c3,dP,hs,tl];exact⟨al x,rfl⟩
    by_cases c4:p.pc=4;. obtain⟨e1,e2⟩:=h4 (.inl c4);simp only[if_neg c1,if_neg c2,if_neg c3,if_pos c4,ay,hs];exact⟨(nx p.a e1 e2).1 x,trivial⟩
    by_cases c5:p.pc=5;. simp only[if_neg c1,if_neg c2,if_neg c3,if_neg c4,if_pos c5,aQ,hs,ad];exact⟨rfl,rfl⟩
    . simp only[if_neg c1,if_neg c2,if_neg c3,if_neg c4,if_neg c5,ay,hs];exact⟨Qr 1,trivial⟩
  . rw[if_neg I,if_neg I];unfold eK;by_cases H:p.pc=12;. simp only[if_pos H,(tc 0).1,(tc 0).2];exact⟨trivial,trivial⟩
    by_cases h:p.pc=14;. obtain⟨e1,e2⟩:=h4 (.inr h);simp only[if_neg H,if_pos h,ay,hs];exact⟨(st p.a e1 e2).1 p.c,trivial⟩
    by_cases V:p.pc=15;. simp only[if_neg H,if_neg h,if_pos V,aQ,hs,Xt];exact⟨rfl,rfl⟩
    by_cases Y:p.pc=16;. obtain⟨e1,e2⟩:=M' Y;simp only[if_neg H,if_neg h,if_neg V,if_pos Y,ay,hs];exact⟨(st p.b e1 e2).1 p.c,trivial⟩
    . simp only[if_neg H,if_neg h,if_neg V,if_neg Y,aQ,hs,Xt];exact⟨rfl,rfl⟩
end
end
section
open Go.RowKit
variable{α:Type}{s:Sp}
structure HTr where
 D:Nat
 n:Nat
 np:Nat
 pl:Nat->Nat->Nat
 sl:Nat->Nat->Nat
 nv:Nat->Nat
 lev:Nat->Nat
structure HTr.Ok(T:HTr):Prop where
 d1:1<=T.D
 plt:∀t k,t<T.n->k<T.D->T.pl t k<T.np
 slt:∀t k,t<T.n->k<T.D->T.sl t k<T.nv (T.pl t k)
 nv32:∀v,v<T.np->T.nv v<=32
 lv:∀t k,t<T.n->k<T.D->T.lev (T.pl t k)=k
 up:∀t u k,t<T.n->u<T.n->k+1<T.D->T.pl t k=T.pl u k->T.pl t (k+1)=T.pl u (k+1)/\T.sl t (k+1)=T.sl u (k+1)
 dn:∀t u k,t<T.n->u<T.n->k+1<T.D->T.pl t (k+1)=T.pl u (k+1)->T.sl t (k+1)=T.sl u (k+1)->T.pl t k=T.pl u k
 root:∀t u,t<T.n->u<T.n->T.pl t (T.D-1)=T.pl u (T.D-1)
 leaf:∀t u,t<T.n->u<T.n->T.pl t 0=T.pl u 0->T.sl t 0=T.sl u 0->t=u
structure Hm where
 W:Nat->List Int
 P:Nat->List Sp
 S:List Sp
def Hm.sp(m:Hm)(v j:Nat):Sp:=sv (m.P v) j
def Hm.sg(m:Hm)(v j:Nat):Int:=rS (m.W v) (numT j)
abbrev Hm.hd(m:Hm)(v j:Nat):Prop:=G2 (rS (m.W v)) (sv (m.P v)) j
def aY{α:Type}(f:Nat->α)(v:Nat)(x:α):Nat->α:=λu=>if u=v then x else f u
def aX(f:Nat->α)(v:Nat)(x:α):aY f v x v=x:=by unfold aY;rw[if_pos rfl]
def aZ(f:Nat->α){u:Nat}(x:α)(h:u≠v):aY f v x u=f u:=by unfold aY;rw[if_neg h]
def Hm.slot(m:Hm)(v j:Nat)(p:Sp):Hm:={m with P:=aY m.P v ((m.P v).set j p)}
def Hm.thr(m:Hm)(i:Nat)(s:Sp):Hm:={m with S:=m.S.set i s}
def eT(m:Hm)(v j:Nat)(u c:Int):Hm:=if (m.sp v j).pc=10 then m.slot v j {m.sp v j with pc:=u,c:=c} else m
def iL(m:Hm)(v j:Nat):Hm:=if (m.sp v j).pc=0 then m.slot v j {m.sp v j with pc:=1} else m
def gB(T:HTr)(bud:Int):Nat->Hm->Nat->Nat->Hm
 |0,m,_,_=>m
 |f+1,m,i,k=>
  if k+1=T.D then(eT m (T.pl i k) (T.sl i k) 11 1).thr i {sv m.S i with pc:=12,c:=k}
  else if (m.sp (T.pl i k) (T.sl i k)).a<=bud then(eT m (T.pl i k) (T.sl i k) 15 ((m.sp (T.pl i k) (T.sl i k)).a+1)).thr i {sv m.S i with pc:=11,c:=k}
  else gB T bud f m i (k+1)
def jJ(T:HTr)(m:Hm)(i k:Nat):Hm:=
 if (m.sp (T.pl i k) (T.sl i k)).b=0\/k+1=T.D then m.thr i {sv m.S i with pc:=10}
 else(iL m (T.pl i (k+1)) (T.sl i (k+1))).thr i {sv m.S i with c:=(k:Int)+1}
def jK(T:HTr)(m:Hm)(i k:Nat):Hm:=
 if k=0 then m.thr i {sv m.S i with pc:=0}
 else(eT m (T.pl i (k-1)) (T.sl i (k-1)) 11 (-1)).thr i {sv m.S i with pc:=12,c:=(k:Int)-1}
def rstH(m:Hm)(v j:Nat):Hm:={m with W:=aY m.W v (de (arW (m.W v)) 1 ((j:Int)+1) (m.sp v j)).1.W,P:=aY m.P v ((m.P v).set j (de (arW (m.W v)) 1 ((j:Int)+1) (m.sp v j)).2)}
def j7(T:HTr)(bud:Int)(m:Hm)(i:Nat):Hm:=
 if (sv m.S i).pc=0\/(sv m.S i).pc=10 then m else
 let k:=(sv m.S i).c.toNat
 let v:=T.pl i k
 let j:=T.sl i k
 if (m.sp v j).pc=0\/(m.sp v j).pc=10 then m else
 let m1:=rstH m v j
 if ¬((m1.sp v j).pc=0\/(m1.sp v j).pc=10)then m1
 else if (sv m.S i).pc=1 then jJ T m1 i k
 else if (m1.sp v j).pc=0 then jK T m1 i k
 else gB T bud T.D m1 i (k+1)
def qc(T:HTr)(m:Hm)(i:Nat):Hm:=if (sv m.S i).pc=0 then(iL m (T.pl i 0) (T.sl i 0)).thr i ⟨1,0,0,0⟩else m
def kA(T:HTr)(bud:Int)(m:Hm)(i:Nat):Hm:=if (sv m.S i).pc=10 then gB T bud T.D m i 0 else m
inductive TSt(T:HTr)(sp:Nat->Nat->Sp)(sg:Nat->Nat->Int)(i:Nat)(s:Sp):Nat->Prop
 |rest (h:s.pc=0):TSt T sp sg i s 0
 |come (c:Nat) (h:s.pc=1/\s.c=c/\c<T.D) (ha:1<=(sp (T.pl i c) (T.sl i c)).pc/\(sp (T.pl i c) (T.sl i c)).pc<=6) (hg:(sp (T.pl i c) (T.sl i c)).pc=5->¬0<sg (T.pl i c) (T.sl i c)) (hb:∀k,k<c->(sp (T.pl i k) (T.sl i k)).pc=10):TSt T sp sg i s (c+1)
 |granted (c:Nat) (h:s.pc=1/\s.c=c/\c<T.D) (ha:(sp (T.pl i c) (T.sl i c)).pc=5/\0<sg (T.pl i c) (T.sl i c)) (hb:∀k,k<T.D->k≠c->(sp (T.pl i k) (T.sl i k)).pc=10):TSt T sp sg i s T.D
 |hold (h:s.pc=10) (hb:∀k,k<T.D->(sp (T.pl i k) (T.sl i k)).pc=10):TSt T sp sg i s T.D
 |pass (c:Nat) (h:s.pc=11/\s.c=c/\c+1<T.D) (ha:(sp (T.pl i c) (T.sl i c)).pc=15\/(sp (T.pl i c) (T.sl i c)).pc=16) (hb:∀k,k<T.D->k≠c->(sp (T.pl i k) (T.sl i k)).pc=10):TSt T sp sg i s T.D
 |leave (c:Nat) (h:s.pc=12/\s.c=c/\c<T.D) (ha:11<=(sp (T.pl i c) (T.sl i c)).pc/\(sp (T.pl i c) (T.sl i c)).pc<=14) (hc:(sp (T.pl i c) (T.sl i c)).c=if c+1=T.D then 1 else -1) (hb:∀k,k<c->(sp (T.pl i k) (T.sl i k)).pc=10):TSt T sp sg i s (c+1)
def yg(bud:Int)(p:Sp):Prop:=(p.pc=10\/p.pc=15\/p.pc=16->1<=p.a/\p.a<=bud+1)/\(p.pc=15\/p.pc=16->p.c=p.a+1/\p.a<=bud)
structure HX(T:HTr)(bud:Int)(m:Hm)(ho:Nat->Nat->Option Nat)(i:Nat):Prop where
 rg:∀v,v<T.np->RtS (T.nv v) (m.W v) (m.P v)
 sl:m.S.length=T.n
 ow:∀v j t,ho v j=some t->t<T.n/\∃k,k<T.D/\v=T.pl t k/\j=T.sl t k
 fr:∀v j,v<T.np->j<T.nv v->ho v j=none->(m.sp v j).pc=0
 th:∀t,t<T.n->t≠i->∃K,TSt T m.sp m.sg t (sv m.S t) K/\∀k,k<T.D->(ho (T.pl t k) (T.sl t k)=some t↔k<K)
 va:∀v j,v<T.np->j<T.nv v->yg bud (m.sp v j)
 sa:∀v j,v<T.np->j<T.nv v->(m.sp v j).pc=5->m.sg v j=0\/m.sg v j= -1\/(1<=m.sg v j/\m.sg v j<=bud+1)
def sw(T:HTr)(m:Hm)(ho:Nat->Nat->Option Nat)(t:Nat):Prop:=∃K,TSt T m.sp m.sg t (sv m.S t) K/\∀k,k<T.D->(ho (T.pl t k) (T.sl t k)=some t↔k<K)
structure ew(T:HTr)(bud:Int)(m:Hm)(ho:Nat->Nat->Option Nat):Prop where
 x:∀i,HX T bud m ho i
 t:∀t,t<T.n->sw T m ho t
section
variable{T:HTr}{m m':Hm}{i:Nat}
def ew.of(h:HX T bud m ho i)(O:sw T m ho i):ew T bud m ho:=by
 have I:∀t,t<T.n->sw T m ho t:=λt H=>by
  by_cases e:t=i;.subst e;exact O
  .exact h.th t H e
 exact⟨λj=>⟨h.rg,h.sl,h.ow,h.fr,λt H _=>I t H,h.va,h.sa⟩,I⟩
def TSt.keep{sp Y:Nat->Nat->Sp}{sg V:Nat->Nat->Int}(h:TSt T sp sg i s K)(h1:∀k,k<K->k<T.D->Y (T.pl i k) (T.sl i k)=sp (T.pl i k) (T.sl i k))(h2:∀k,k<K->k<T.D->(sp (T.pl i k) (T.sl i k)).pc=5->V (T.pl i k) (T.sl i k)=sg (T.pl i k) (T.sl i k)):TSt T Y V i s K:=by
 cases h with
 |rest h=>exact .rest h
 |come c h I hg hb=>
  have e:=h1 c (Nat.lt_succ_self _) h.2.2;refine .come c h (by rw[e];exact I) (λe5=>?_) λk H=>?_;.rw[e]at e5;rw[h2 c (Nat.lt_succ_self _) h.2.2 e5];exact hg e5
  .rw[h1 k ahB ahB];exact hb k H
 |granted c h I hb=>have e:=h1 c h.2.2 h.2.2;refine .granted c h ⟨by rw[e];exact I.1,by rw[h2 c h.2.2 h.2.2 I.1];exact I.2⟩ λk H O=>?_;rw[h1 k H H];exact hb k H O
 |hold h hb=>exact .hold h λk H=>by rw[h1 k H H];exact hb k H
 |pass c h I hb=>refine .pass c h (by rw[h1 c ahB ahB];exact I) λk H O=>?_;rw[h1 k H H];exact hb k H O
 |leave c h I hc hb=>have e:=h1 c (Nat.lt_succ_self _) h.2.2;refine .leave c h (by rw[e];exact I) (by rw[e];exact hc) λk H=>?_;rw[h1 k ahB ahB];exact hb k H
def gi(m:Hm)(v j:Nat)(p:Sp)(I:j<(m.P v).length)(u k:Nat):(m.slot v j p).sp u k=if u=v/\k=j then p else m.sp u k:=by
 unfold Hm.sp Hm.slot;show sv (aY m.P v ((m.P v).set j p) u) k=_;by_cases e:u=v
 .subst e;rw[aX,be];by_cases H:k=j;.subst H;rw[if_pos ⟨rfl,I⟩,if_pos ⟨rfl,rfl⟩]
  .rw[if_neg (λh=>H h.1.symm),if_neg (λh=>H h.2)]
 .rw[aZ _ _ e,if_neg (λh=>e h.1)]
def HX.len(h:HX T bud m ho i)(O:v<T.np):(m.P v).length=T.nv v:=(h.rg v O).len
def HX.hd1(h:HX T bud m ho i)(O:v<T.np)(I:j<T.nv v)(V:k<T.nv v)(h1:m.hd v j)(H:m.hd v k):j=k:=(h.rg v O).i.tk.one j k I V h1 H
def TSt.hd{t:Nat}(k:TSt T m.sp m.sg t s K){l:Nat}(I:l+1<K):m.hd (T.pl t l) (T.sl t l):=by
 have f:∀p:Sp,p=m.sp (T.pl t l) (T.sl t l)->6<=p.pc->m.hd (T.pl t l) (T.sl t l):=λp e h=> .inl (by rw[e]at h;exact h);cases k with
 |rest _=>omega
 |come c _ _ _ hb=>exact f _ rfl aix
 |granted c hc H hb=>
  by_cases e:l=c
  .subst e;refine .inr ⟨?_,?_⟩;.show 3<=(m.sp (T.pl t l) (T.sl t l)).pc;omega
   .have:=H.2;show m.sg (T.pl t l) (T.sl t l)≠0;omega
  .exact f _ rfl (by rw[hb l ahB e];decide)
 |hold _ hb=>exact f _ rfl aix
 |pass c _ H hb=>
  by_cases e:l=c;.subst e;exact f _ rfl ahB
  .exact f _ rfl (by rw[hb l ahB e];decide)
 |leave c _ _ _ hb=>exact f _ rfl aix
def TSt.of10{sp:Nat->Nat->Sp}{sg:Nat->Nat->Int}(h:TSt T sp sg i s K)(e:s.pc=10):K=T.D/\∀k,k<T.D->(sp (T.pl i k) (T.sl i k)).pc=10:=by
 cases h with
 |rest h=>omega
 |come c h=>omega
 |granted c h=>omega
 |hold h hb=>exact⟨rfl,hb⟩
 |pass c h=>omega
 |leave c h=>omega
def ew.one(h:ew T bud m ho)(H:T.Ok)(O:a<T.n)(hb:b<T.n)(h1:(sv m.S a).pc=10)(Y:(sv m.S b).pc=10):a=b:=by obtain⟨Ka,ka,oa⟩:=h.t a O;obtain⟨Kb,kb,ob⟩:=h.t b hb;obtain⟨rfl,pa⟩:=ka.of10 h1;obtain⟨rfl,pb⟩:=kb.of10 Y;have hd:=H.d1;have I:=H.root a b O hb;have V:T.sl a (T.D-1)=T.sl b (T.D-1):=(h.x a).hd1 (H.plt b (T.D-1) hb ahB) (by rw[<-I];exact H.slt a (T.D-1) O ahB) (H.slt b (T.D-1) hb ahB) (by rw[<-I];exact .inl (by have:=pa (T.D-1) ahB;show 6<=(m.sp _ _).pc;omega)) (.inl (by have:=pb (T.D-1) ahB;show 6<=(m.sp _ _).pc;omega));have o1:=(oa (T.D-1) ahB).2 ahB;have o2:=(ob (T.D-1) ahB).2 ahB;rw[I,V,o2]at o1;injection o1 with o1;exact o1.symm
end
end
section
open Go.RowKit
section
variable{T:HTr}{m m':Hm}{i:Nat}
def HX.thr(h:HX T bud m ho i)(s:Sp):HX T bud (m.thr i s) ho i:=by
 refine⟨h.rg,by show(m.S.set i s).length=T.n;rw[List.length_set];exact h.sl,h.ow,h.fr,λt I H=>?_,h.va,h.sa⟩;have e:sv (m.thr i s).S t=sv m.S t:=by show sv (m.S.set i s) t=_;rw[be,if_neg (λh=>H h.1.symm)]
 rw[e];exact h.th t I H
def GZ(m:Hm){i:Nat}(s:Sp)(hi:i<m.S.length):sv (m.thr i s).S i=s:=by show sv (m.S.set i s) i=_;rw[be,if_pos ⟨rfl,hi⟩]
def rJ{t:Nat}(V:ho v j=some i)(H:t≠i)(h:ho (T.pl t k) (T.sl t k)=some t):¬(T.pl t k=v/\T.sl t k=j):=by rintro⟨rfl,rfl⟩;rw[h]at V;injection V with V;exact H V
def HX.wth(h:HX T bud m ho i)(O:v<T.np)(hj:j<T.nv v)(V:ho v j=some i)(h10:(m.sp v j).pc=10)(p':Sp)(hu:p'.pc=11\/p'.pc=15)(LA:yg bud p'):HX T bud (m.slot v j p') ho i:=by
 have hl:=h.len O;have Y:=gi m v j p' (by rw[hl];exact hj);refine⟨λu OA=>?_,h.sl,h.ow,λa b H hb Ky=>?_,λt ht I=>?_,λa b H hb=>?_,λa b H hb h5=>?_⟩
 .show RtS (T.nv u) (m.W u) (aY m.P v ((m.P v).set j p') u);by_cases e:u=v;.subst e;rw[aX];exact(h.rg u OA).beg hj (.inl ⟨h10,hu⟩)
  .rw[aZ _ _ e];exact h.rg u OA
 .rw[Y,if_neg (λe=>by rw[e.1,e.2,V]at Ky;cases Ky)];exact h.fr a b H hb Ky
 .obtain⟨K,k,o⟩:=h.th t ht I;refine⟨K,k.keep (λl Mr hD=>?_) (λ_ _ _ _=>rfl),o⟩;rw[Y,if_neg (rJ V I ((o l hD).2 Mr))]
 .rw[Y];split;.exact LA
  .exact h.va a b H hb
 .rw[Y]at h5;by_cases e:a=v/\b=j;.rw[if_pos e]at h5;omega
  .rw[if_neg e]at h5;exact h.sa a b H hb h5
def zA(ho:Nat->Nat->Option Nat)(v j:Nat)(x:Option Nat):Nat->Nat->Option Nat:=λa b=>if a=v/\b=j then x else ho a b
def gh(ho:Nat->Nat->Option Nat)(v j:Nat)(x:Option Nat):zA ho v j x v j=x:=by unfold zA;rw[if_pos ⟨rfl,rfl⟩]
def fw{x:Option Nat}(h:¬(a=v/\b=j)):zA ho v j x a b=ho a b:=by unfold zA;rw[if_neg h]
def HX.ask(h:HX T bud m ho i)(hi:i<T.n)(hk:k<T.D)(hT:T.Ok)(V:ho (T.pl i k) (T.sl i k)=none)(p':Sp)(hp:p'.pc=1):HX T bud (m.slot (T.pl i k) (T.sl i k) p') (zA ho (T.pl i k) (T.sl i k) (some i)) i:=by
 have O:=hT.plt i k hi hk;have hj:=hT.slt i k hi hk;have h0:=h.fr _ _ O hj V;have hl:=h.len O;have Kj:=gi m (T.pl i k) (T.sl i k) p' (by rw[hl];exact hj);refine⟨λu OA=>?_,h.sl,λa b t H=>?_,λa b Y hb H=>?_,λt ht ab=>?_,λa b Y hb=>?_,λa b Y hb h5=>?_⟩
 .show RtS (T.nv u) (m.W u) (aY m.P (T.pl i k) ((m.P (T.pl i k)).set (T.sl i k) p') u);by_cases e:u=T.pl i k;.subst e;rw[aX];exact(h.rg _ O).beg hj (.inr ⟨h0,hp⟩)
  .rw[aZ _ _ e];exact h.rg u OA
 .by_cases e:a=T.pl i k/\b=T.sl i k;.rw[e.1,e.2,gh]at H;injection H with H;subst H;exact⟨hi,k,hk,e.1,e.2⟩
  .rw[fw e]at H;exact h.ow a b t H
 .by_cases e:a=T.pl i k/\b=T.sl i k;.rw[e.1,e.2,gh]at H;cases H
  .rw[fw e]at H;rw[Kj,if_neg e];exact h.fr a b Y hb H
 .obtain⟨K,kk,o⟩:=h.th t ht ab;have hd:∀l,ho (T.pl t l) (T.sl t l)=some t->¬(T.pl t l=T.pl i k/\T.sl t l=T.sl i k):=λl I e=>by rw[e.1,e.2,V]at I;cases I
  refine⟨K,kk.keep (λl I hD=>?_) (λ_ _ _ _=>rfl),λl hD=>?_⟩;.rw[Kj,if_neg (hd l ((o l hD).2 I))]
  .by_cases e:T.pl t l=T.pl i k/\T.sl t l=T.sl i k;.rw[e.1,e.2,gh];refine⟨λhe=>?_,λI=>absurd e (hd l ((o l hD).2 I))⟩;injection he with he;exact absurd he.symm ab
   .rw[fw e];exact o l hD
 .rw[Kj];split;.exact⟨λe=>by omega,λe=>by omega⟩
  .exact h.va a b Y hb
 .rw[Kj]at h5;by_cases e:a=T.pl i k/\b=T.sl i k;.rw[if_pos e]at h5;omega
  .rw[if_neg e]at h5;exact h.sa a b Y hb h5
def HX.release(h:HX T bud m ho i)(h0:(m.sp v j).pc=0)(V:ho v j=some i):HX T bud m (zA ho v j none) i:=by
 refine⟨h.rg,h.sl,λa b t H=>?_,λa b ha hb H=>?_,λt ht O=>?_,h.va,h.sa⟩
 .by_cases e:a=v/\b=j;.rw[e.1,e.2,gh]at H;cases H
  .rw[fw e]at H;exact h.ow a b t H
 .by_cases e:a=v/\b=j;.rw[e.1,e.2];exact h0
  .rw[fw e]at H;exact h.fr a b ha hb H
 .obtain⟨K,kk,o⟩:=h.th t ht O;refine⟨K,kk,λl Y=>?_⟩;by_cases e:T.pl t l=v/\T.sl t l=j;.rw[<-o l Y,e.1,e.2,gh,V];refine⟨λI=>by(cases I),λI=>?_⟩;injection I with I;exact absurd I.symm O
  .rw[fw e];exact o l Y
def HX.rung(h:HX T bud m ho i)(O:v<T.np)(hj:j<T.nv v)(V:ho v j=some i)(Y:List Int)(p':Sp)(I:RtS (T.nv v) Y ((m.P v).set j p'))(Kh:∀k,k≠j->rS Y (numT k)=rS (m.W v) (numT k))(LA:yg bud p')(h5:p'.pc=5->rS Y (numT j)=0):HX T bud {m with W:=aY m.W v Y,P:=aY m.P v ((m.P v).set j p')} ho i:=by
  have hl:=h.len O;have Kj:∀u k,Hm.sp {m with W:=aY m.W v Y,P:=aY m.P v ((m.P v).set j p')} u k=if u=v/\k=j then p' else m.sp u k:=gi m v j p' (by rw[hl];exact hj)
  have Rr:∀u k,¬(u=v/\k=j)->Hm.sg {m with W:=aY m.W v Y,P:=aY m.P v ((m.P v).set j p')} u k=m.sg u k:=λu k H=>by
    show rS (aY m.W v Y u) (numT k)=rS (m.W u) (numT k);by_cases e:u=v;. subst e;rw[aX];exact Kh k λe2=>H ⟨rfl,e2⟩
    . rw[aZ _ _ e]
  refine⟨λu OA=>?_,h.sl,h.ow,λa b ha hb Ky=>?_,λt ht H=>?_,λa b ha hb=>?_,λa b ha hb QR=>?_⟩
  . show RtS (T.nv u) (aY m.W v Y u) (aY m.P v ((m.P v).set j p') u);by_cases e:u=v;. subst e;rw[aX,aX];exact I
    . rw[aZ _ _ e,aZ _ _ e];exact h.rg u OA
  . rw[Kj,if_neg (λe=>by rw[e.1,e.2,V]at Ky;cases Ky)];exact h.fr a b ha hb Ky
  . obtain⟨K,k,o⟩:=h.th t ht H;refine⟨K,k.keep (λl Mr hD=>?_) (λl Mr hD _=>?_),o⟩;. rw[Kj,if_neg (rJ V H ((o l hD).2 Mr))]
    . exact Rr _ _ (rJ V H ((o l hD).2 Mr))
  . rw[Kj];split;. exact LA
    . exact h.va a b ha hb
  . rw[Kj]at QR;by_cases e:a=v/\b=j;. rw[if_pos e]at QR;obtain⟨rfl,rfl⟩:=e;left;show rS (aY m.W a Y a) (numT b)=0;rw[aX];exact h5 QR
    . rw[if_neg e]at QR;rw[Rr a b e];exact h.sa a b ha hb QR
def upO(T:HTr)(ho:Nat->Nat->Option Nat)(u c:Nat):Nat->Nat->Option Nat:=λa b=>if (List.range T.D).any (λk=>decide (c<k/\a=T.pl u k/\b=T.sl u k))=true then some u else ho a b
def Dc{u:Nat}:(List.range T.D).any (λk=>decide (c<k/\a=T.pl u k/\b=T.sl u k))=true↔∃k,c<k/\k<T.D/\a=T.pl u k/\b=T.sl u k:=by
 rw[List.any_eq_true];constructor;.rintro⟨k,V,h⟩;obtain⟨h1,H,I⟩:=of_decide_eq_true h;exact⟨k,h1,List.mem_range.1 V,H,I⟩
 .rintro⟨k,h1,H,I,O⟩;exact⟨k,List.mem_range.2 H,decide_eq_true ⟨h1,I,O⟩⟩
def pP{u:Nat}(hc:c<k)(h:k<T.D):upO T ho u c (T.pl u k) (T.sl u k)=some u:=by unfold upO;rw[if_pos (Dc.2 ⟨k,hc,h,rfl,rfl⟩)]
def jA{u:Nat}(h:¬∃k,c<k/\k<T.D/\a=T.pl u k/\b=T.sl u k):upO T ho u c a b=ho a b:=by unfold upO;rw[if_neg (λe=>h (Dc.1 e))]
def HX.give(h:HX T bud m ho i)(hT:T.Ok){s u:Nat}(O:v<T.np)(hj:j<T.nv v)(V:ho v j=some i)(H:List Int)(p':Sp)(KF:p'.pc=0)(Qh:s<T.nv v)(Qg:s≠j)(I:RtS (T.nv v) H ((m.P v).set j p'))(Ox:(m.sp v s).pc=5)(MZ:m.sg v s=0)(Kh:∀k,k≠s->rS H (numT k)=rS (m.W v) (numT k))(LD:rS H (numT s)= -1\/(1<=rS H (numT s)/\rS H (numT s)<=bud+1))(SC:ho v s=some u)(K9:c<T.D)(OW:v=T.pl u c)(Oy:s=T.sl u c)(Mt:0<rS H (numT s)->∀k,c<k->k<T.D->(m.sp (T.pl u k) (T.sl u k)).pc=10/\ho (T.pl u k) (T.sl u k)=some i):u<T.n/\u≠i/\∃O',HX T bud {m with W:=aY m.W v H,P:=aY m.P v ((m.P v).set j p')} O' i/\(0<rS H (numT s)->O'=upO T ho u c)/\(¬0<rS H (numT s)->O'=ho):=by
  obtain⟨Mj,_⟩:=h.ow v s u SC;have hl:=h.len O;have Kj:∀a b,Hm.sp {m with W:=aY m.W v H,P:=aY m.P v ((m.P v).set j p')} a b=if a=v/\b=j then p' else m.sp a b:=gi m v j p' (by rw[hl];exact hj)
  have Rr:∀a b,¬(a=v/\b=s)->Hm.sg {m with W:=aY m.W v H,P:=aY m.P v ((m.P v).set j p')} a b=m.sg a b:=λa b Sw=>by
    show rS (aY m.W v H a) (numT b)=rS (m.W a) (numT b);by_cases e:a=v;. subst e;rw[aX];exact Kh b (λe2=>Sw ⟨rfl,e2⟩)
    . rw[aZ _ _ e]
  have UF:Hm.sg {m with W:=aY m.W v H,P:=aY m.P v ((m.P v).set j p')} v s=rS H (numT s):=by show rS (aY m.W v H v) (numT s)=_;rw[aX]
  obtain⟨_,ki,NQ,ad,MW⟩:=h.ow v j i V;obtain⟨ab,_⟩:=h.ow v j i V;have ZL:ki=c:=by have e1:=hT.lv i ki ab NQ;have e2:=hT.lv u c Mj K9;rw[<-ad]at e1;rw[<-OW]at e2;omega
  have Ps:u≠i:=λe=>by subst e ZL;rw[<-Oy]at MW;exact Qg MW.symm
  have Ov:∀k,k<T.D->T.pl u k=v->k=c:=λk hk e=>by have e1:=hT.lv u k Mj hk;have e2:=hT.lv u c Mj K9;rw[e]at e1;rw[<-OW]at e2;omega
  have NE:∀k,k<T.D->k≠c->Hm.sp {m with W:=aY m.W v H,P:=aY m.P v ((m.P v).set j p')} (T.pl u k) (T.sl u k)=m.sp (T.pl u k) (T.sl u k):=λk hk NR=>by rw[Kj,if_neg (λe=>NR (Ov k hk e.1))]
  have W3:Hm.sp {m with W:=aY m.W v H,P:=aY m.P v ((m.P v).set j p')} v s=m.sp v s:=by rw[Kj,if_neg (λe=>Qg e.2)]
  obtain⟨K,kk,o⟩:=h.th u Mj Ps;have Sg:c<K:=by rw[<-o c K9,<-OW,<-Oy];exact SC
  have Zr:K=c+1/\((sv m.S u).pc=1/\(sv m.S u).c=c/\c<T.D)/\∀k,k<c->(m.sp (T.pl u k) (T.sl u k)).pc=10:=by
    have al:(m.sp (T.pl u c) (T.sl u c)).pc=5:=(by rw[<-OW,<-Oy];exact Ox);cases kk with
    | rest h=>omega
    | come c' h ha hg hb=>
      by_cases e:c=c';. subst e;exact⟨rfl,h,hb⟩
      . have:=hb c ahB;omega
    | granted c' h' ha hb=>
      by_cases e:c=c';. subst e;have:=ha.2;rw[<-OW,<-Oy]at this;omega
      . have:=hb c K9 e;omega
    | hold h hb=>have:=hb c K9;omega
    | pass c' h ha hb=>
      by_cases e:c=c';. subst e;omega
      . have:=hb c K9 e;omega
    | leave c' h ha hc hb=>
      by_cases e:c=c';. subst e;omega
      . have:=hb c ahB;omega
  obtain⟨rfl,Qi,PM⟩:=Zr;have MC:∀a b,(∃k,c<k/\k<T.D/\a=T.pl u k/\b=T.sl u k)->0<rS H (numT s)->ho a b=some i:=λa b ⟨k,h1,h2,h3,h4⟩ hp=>by rw[h3,h4];exact(Mt hp k h1 h2).2
  have SD:∀(O1:Nat->Nat->Option Nat) (WN:∀a b,O1 a b=ho a b\/(O1 a b=some u/\ho a b=some i)) (t:Nat),t<T.n->t≠i->t≠u->∃K,TSt T (Hm.sp {m with W:=aY m.W v H,P:=aY m.P v ((m.P v).set j p')}) (Hm.sg {m with W:=aY m.W v H,P:=aY m.P v ((m.P v).set j p')}) t (sv m.S t) K/\∀k,k<T.D->(O1 (T.pl t k) (T.sl t k)=some t↔k<K):=λO1 WN t ht NZ W8=>by
    obtain⟨K',k',o'⟩:=h.th t ht NZ;refine⟨K',k'.keep (λl Mr hD=>?_) (λl Mr hD _=>?_),λl hD=>?_⟩;. rw[Kj,if_neg (rJ V NZ ((o' l hD).2 Mr))]
    . refine Rr _ _ λe=>?_;have:=(o' l hD).2 Mr;rw[e.1,e.2,SC]at this;injection this with this;exact W8 this.symm
    . rcases WN (T.pl t l) (T.sl t l)with e|⟨e1,e2⟩
      . rw[e];exact o' l hD
      . rw[<-o' l hD,e1,e2];refine⟨λhe=>?_,λhe=>?_⟩;. injection he with he;exact absurd he.symm W8
        . injection he with he;exact absurd he.symm NZ
  have WY:∀w,w<T.np->RtS (T.nv w) (aY m.W v H w) (aY m.P v ((m.P v).set j p') w):=λw hw=>by
    by_cases e:w=v;. subst e;rw[aX,aX];exact I
    . rw[aZ _ _ e,aZ _ _ e];exact h.rg w hw
  have LA:∀a b,a<T.np->b<T.nv a->yg bud (Hm.sp {m with W:=aY m.W v H,P:=aY m.P v ((m.P v).set j p')} a b):=λa b ha hb=>by
    rw[Kj];split;. exact⟨λe=>by omega,λe=>by omega⟩
    . exact h.va a b ha hb
  have Pr:∀a b,a<T.np->b<T.nv a->(Hm.sp {m with W:=aY m.W v H,P:=aY m.P v ((m.P v).set j p')} a b).pc=5->Hm.sg {m with W:=aY m.W v H,P:=aY m.P v ((m.P v).set j p')} a b=0\/Hm.sg {m with W:=aY m.W v H,P:=aY m.P v ((m.P v).set j p')} a b= -1\/(1<=Hm.sg {m with W:=aY m.W v H,P:=aY m.P v ((m.P v).set j p')} a b/\Hm.sg {m with W:=aY m.W v H,P:=aY m.P v ((m.P v).set j p')} a b<=bud+1):=λa b ha hb h5=>by
    by_cases e:a=v/\b=s;. rw[e.1,e.2,UF];exact .inr LD
    . rw[Rr a b e];rw[Kj]at h5;refine h.sa a b ha hb ?_;split at h5;. omega
      . exact h5
  refine⟨Mj,Ps,?_⟩;by_cases Ms:0<rS H (numT s)
  . refine⟨upO T ho u c,⟨WY,h.sl,λa b t Y=>?_,λa b ha hb Y=>?_,λt ht NZ=>?_,LA,Pr⟩,λ_=>rfl,λhn=>absurd Ms hn⟩
    . by_cases e:∃k,c<k/\k<T.D/\a=T.pl u k/\b=T.sl u k;. obtain⟨k,h1,h2,rfl,rfl⟩:=e;rw[pP h1 h2]at Y;injection Y with Y;subst Y;exact⟨Mj,k,h2,rfl,rfl⟩
      . rw[jA e]at Y;exact h.ow a b t Y
    . by_cases e:∃k,c<k/\k<T.D/\a=T.pl u k/\b=T.sl u k;. obtain⟨k,h1,h2,rfl,rfl⟩:=e;rw[pP h1 h2]at Y;cases Y
      . rw[jA e]at Y;rw[Kj];split;. exact KF
        . exact h.fr a b ha hb Y
    . by_cases e:t=u
      . subst e;refine⟨T.D,.granted c Qi ⟨?_,?_⟩ λk hk NR=>?_,λk hk=>⟨λ_=>hk,λ_=>?_⟩⟩;. rw[<-OW,<-Oy,W3];exact Ox
        . rw[<-OW,<-Oy,UF];exact Ms
        . rw[NE k hk NR];rcases Nat.lt_or_ge k c with h1|h1
          . exact PM k h1
          . exact(Mt Ms k ahB hk).1
        . rcases Nat.lt_or_ge c k with h1|h1
          . exact pP h1 hk
          . rw[jA];. exact(o k hk).2 ahB
            . rintro⟨k',h2,h3,h4,_⟩;have e1:=hT.lv t k Mj hk;have e2:=hT.lv t k' Mj h3;rw[h4]at e1;omega
      . refine SD _ (λa b=>?_) t ht NZ e;by_cases e2:∃k,c<k/\k<T.D/\a=T.pl u k/\b=T.sl u k;. refine .inr ⟨?_,MC a b e2 Ms⟩;obtain⟨k,h1,h2,rfl,rfl⟩:=e2;exact pP h1 h2
        . exact .inl (jA e2)
  . refine⟨ho,⟨WY,h.sl,h.ow,λa b ha hb Y=>?_,λt ht NZ=>?_,LA,Pr⟩,λhp=>absurd hp Ms,λ_=>rfl⟩
    . rw[Kj];split;. exact KF
      . exact h.fr a b ha hb Y
    . by_cases e:t=u
      . subst e;refine⟨c+1,.come c Qi ?_ (λ_=>?_) λk hk=>?_,o⟩;. rw[<-OW,<-Oy,W3,Ox];decide
        . rw[<-OW,<-Oy,UF];exact Ms
        . rw[NE k ahB ahB];exact PM k hk
      . exact SD ho (λa b=> .inl rfl) t ht NZ e
end
end
section
open Go.RowKit
section
variable{T:HTr}{m m':Hm}{i:Nat}
def HX.upNone(h:HX T bud m ho i)(H:T.Ok)(hi:i<T.n)(hc:c+1<T.D)(hd:m.hd (T.pl i c) (T.sl i c))(V:ho (T.pl i c) (T.sl i c)=some i)(hn:ho (T.pl i (c+1)) (T.sl i (c+1))≠some i):ho (T.pl i (c+1)) (T.sl i (c+1))=none:=by
 cases Y:ho (T.pl i (c+1)) (T.sl i (c+1))with
 |none=>rfl
 |some u=>
  exfalso;have Ps:u≠i:=λe=>hn (by rw[Y,e]);obtain⟨I,k,hk,h1,h2⟩:=h.ow _ _ u Y;have e1:=H.lv i (c+1) hi hc;have e2:=H.lv u k I hk;rw[h1]at e1;obtain rfl:k=c+1:=by omega
  obtain⟨K,kk,o⟩:=h.th u I Ps;have hK:c+1<K:=by rw[<-o (c+1) hc,<-h1,<-h2];exact Y
  have hp:=H.dn i u c hi I hc h1 h2;have hh:T.sl i c=T.sl u c:=h.hd1 (H.plt i c hi ahB) (H.slt i c hi ahB) (by rw[hp];exact H.slt u c I ahB) hd (by rw[hp];exact kk.hd hK);have O:=(o c ahB).2 ahB;rw[<-hp,<-hh,V]at O;injection O with O;exact Ps O.symm
def tI(h:HX T bud m ho i)(hi:i<T.n):i<m.S.length:=by rw[h.sl];exact hi
def iA{s:Sp}(h:i<m.S.length)(k:TSt T m.sp m.sg i s K)(o:∀k,k<T.D->(ho (T.pl i k) (T.sl i k)=some i↔k<K)):sw T (m.thr i s) ho i:=by refine⟨K,?_,o⟩;rw[GZ m s h];exact k
def xi(hT:T.Ok)(hi:i<T.n):∀(f:Nat) (m:Hm) (k0:Nat),HX T bud m ho i->(∀k,k<T.D->ho (T.pl i k) (T.sl i k)=some i)->(∀k,k<T.D->(m.sp (T.pl i k) (T.sl i k)).pc=10)->k0<T.D->T.D<=k0+f->ew T bud (gB T bud f m i k0) ho:=by
 intro f;induction f with
 |zero=>intro m k0 _ _ _ h1 h2;omega
 |succ f ih=>
  intro m k0 h V h10 H hf;unfold gB;have O:=hT.plt i k0 hi H;have hj:=hT.slt i k0 hi H;have KW:T.sl i k0<(m.P (T.pl i k0)).length:=by rw[h.len O];exact hj
  have Ov:∀k,k<T.D->k≠k0->¬(T.pl i k=T.pl i k0/\T.sl i k=T.sl i k0):=λk I Y e=>by have e1:=hT.lv i k hi I;have e2:=hT.lv i k0 hi H;rw[e.1]at e1;omega
  have own:∀(k:Nat),k<T.D->(ho (T.pl i k) (T.sl i k)=some i↔k<T.D):=λk I=>⟨λ_=>I,λ_=>V k I⟩;by_cases c1:k0+1=T.D
  .rw[if_pos c1];have e:eT m (T.pl i k0) (T.sl i k0) 11 1=m.slot (T.pl i k0) (T.sl i k0) {m.sp (T.pl i k0) (T.sl i k0)with pc:=11,c:=1}:=(by unfold eT;rw[if_pos (h10 k0 H)]);rw[e];have h1:=h.wth O hj (V k0 H) (h10 k0 H) {m.sp (T.pl i k0) (T.sl i k0)with pc:=11,c:=1} (.inl rfl) ⟨λe=>absurd e aiQ,λe=>absurd e (by show ¬((11:Int)=15\/(11:Int)=16);decide)⟩;have Kj:=gi m (T.pl i k0) (T.sl i k0) {m.sp (T.pl i k0) (T.sl i k0)with pc:=11,c:=1} KW;refine .of (h1.thr _) (iA (K:=k0+1) (tI h1 hi) (.leave k0 ⟨rfl,rfl,H⟩ ?_ ?_ λk I=>?_) λk I=>by rw[c1];exact own k I);.exact abw
   .rw[Kj,if_pos ⟨rfl,rfl⟩,if_pos c1]
   .rw[Kj,if_neg (Ov k ahB ahB)];exact h10 k ahB
  .rw[if_neg c1];by_cases c2:(m.sp (T.pl i k0) (T.sl i k0)).a<=bud
   .rw[if_pos c2];have LA:=(h.va _ _ O hj).1 (.inl (h10 k0 H));have e:eT m (T.pl i k0) (T.sl i k0) 15 ((m.sp (T.pl i k0) (T.sl i k0)).a+1)=m.slot (T.pl i k0) (T.sl i k0) {m.sp (T.pl i k0) (T.sl i k0)with pc:=15,c:=(m.sp (T.pl i k0) (T.sl i k0)).a+1}:=(by unfold eT;rw[if_pos (h10 k0 H)]);rw[e];have h1:=h.wth O hj (V k0 H) (h10 k0 H) {m.sp (T.pl i k0) (T.sl i k0)with pc:=15,c:=(m.sp (T.pl i k0) (T.sl i k0)).a+1} (.inr rfl) ⟨λ_=>LA,λ_=>⟨rfl,c2⟩⟩;have Kj:=gi m (T.pl i k0) (T.sl i k0) {m.sp (T.pl i k0) (T.sl i k0)with pc:=15,c:=(m.sp (T.pl i k0) (T.sl i k0)).a+1} KW;refine .of (h1.thr _) (iA (K:=T.D) (tI h1 hi) (.pass k0 ⟨rfl,rfl,by omega⟩ ?_ λk I Y=>?_) own);.rw[Kj,if_pos ⟨rfl,rfl⟩];exact .inl rfl
    .rw[Kj,if_neg (Ov k I Y)];exact h10 k I
   .rw[if_neg c2];exact ih m (k0+1) h V h10 ahB ahB
def oF(h:HX T bud m ho i)(H:T.Ok)(hi:i<T.n)(hc:c<T.D)(V:∀k,k<T.D->(ho (T.pl i k) (T.sl i k)=some i↔k<c))(h10:∀k,k<c->(m.sp (T.pl i k) (T.sl i k)).pc=10):ew T bud (jK T m i c) ho:=by
 unfold jK;by_cases c0:c=0;.rw[if_pos c0];subst c0;exact .of (h.thr _) (iA (tI h hi) (.rest rfl) V)
 .rw[if_neg c0];obtain⟨d,rfl⟩:∃d,c=d+1:=⟨c-1,by omega⟩;simp only[Nat.add_sub_cancel];have hd:d<T.D:=by omega
  have O:=H.plt i d hi hd;have I:=H.slt i d hi hd;have Y:T.sl i d<(m.P (T.pl i d)).length:=by rw[h.len O];exact I
  have e:eT m (T.pl i d) (T.sl i d) 11 (-1)=m.slot (T.pl i d) (T.sl i d) {m.sp (T.pl i d) (T.sl i d)with pc:=11,c:= -1}:=by unfold eT;rw[if_pos (h10 d ahB)]
  rw[e];have h1:=h.wth O I ((V d hd).2 ahB) (h10 d ahB) {m.sp (T.pl i d) (T.sl i d)with pc:=11,c:= -1} (.inl rfl) ⟨λe=>absurd e aiQ,λe=>absurd e (by show ¬((11:Int)=15\/(11:Int)=16);decide)⟩;have Kj:=gi m (T.pl i d) (T.sl i d) {m.sp (T.pl i d) (T.sl i d)with pc:=11,c:= -1} Y;refine .of (h1.thr _) (iA (tI h1 hi) (.leave d ⟨rfl,by show((d+1:Nat):Int)-1=d;omega,hd⟩ ?_ ?_ λk KL=>?_) V);.exact abw
  .rw[Kj,if_pos ⟨rfl,rfl⟩,if_neg ahB]
  .rw[Kj,if_neg];.exact h10 k ahB
   .intro e;have e1:=H.lv i k hi ahB;have e2:=H.lv i d hi hd;rw[e.1]at e1;omega
def ew.ask(h:ew T bud m ho)(H:T.Ok)(hi:i<T.n):∃O',ew T bud (qc T m i) O':=by
 unfold qc;by_cases c0:(sv m.S i).pc=0
 .rw[if_pos c0];have hd:=H.d1;have I:=h.x i;obtain⟨K,k,o⟩:=h.t i hi;have hK:K=0:=by cases k<;>first|rfl|omega
  subst hK
  have hn:ho (T.pl i 0) (T.sl i 0)=none:=by
   cases hO:ho (T.pl i 0) (T.sl i 0)with
   |none=>rfl
   |some u=>
    exfalso;obtain⟨hu,k',KL,h1,h2⟩:=I.ow _ _ u hO;have V:=H.lv i 0 hi ahB;have e2:=H.lv u k' hu KL;rw[h1]at V;obtain rfl:k'=0:=by omega
    obtain rfl:i=u:=H.leaf i u hi hu h1 h2;have:=(o 0 ahB).1 hO;omega
  have O:=H.plt i 0 hi ahB;have hj:=H.slt i 0 hi ahB;have h0:=I.fr _ _ O hj hn;have e:iL m (T.pl i 0) (T.sl i 0)=m.slot (T.pl i 0) (T.sl i 0) {m.sp (T.pl i 0) (T.sl i 0)with pc:=1}:=by unfold iL;rw[if_pos h0]
  rw[e];have h1:=I.ask hi (k:=0) ahB H hn {m.sp (T.pl i 0) (T.sl i 0)with pc:=1} rfl;have Kj:=gi m (T.pl i 0) (T.sl i 0) {m.sp (T.pl i 0) (T.sl i 0)with pc:=1} (by rw[I.len O];exact hj);refine⟨_,.of (h1.thr _) (iA (tI h1 hi) (.come 0 ⟨rfl,rfl,by omega⟩ ?_ (λe5=>?_) λk Y=>by omega) λk Y=>?_)⟩;.rw[Kj,if_pos ⟨rfl,rfl⟩];exact⟨by show(1:Int)<=1;decide,by show(1:Int)<=6;decide⟩
  .rw[Kj,if_pos ⟨rfl,rfl⟩]at e5;exact absurd e5 (by show ¬(1:Int)=5;decide)
  .by_cases e:k=0;.subst e;rw[gh];exact⟨λ_=>by omega,λ_=>rfl⟩
   .rw[fw (λe'=>by
     have V:=H.lv i k hi Y;have e2:=H.lv i 0 hi ahB
     rw[e'.1]at V;omega)]
    rw[o k Y];exact⟨λh=>by omega,λh=>by omega⟩
 .rw[if_neg c0];exact⟨ho,h⟩
def ew.leave(h:ew T bud m ho)(H:T.Ok)(hi:i<T.n):ew T bud (kA T bud m i) ho:=by
 unfold kA;by_cases c0:(sv m.S i).pc=10;.rw[if_pos c0];have hd:=H.d1;obtain⟨K,k,o⟩:=h.t i hi;obtain⟨rfl,h10⟩:=k.of10 c0;exact xi H hi T.D m 0 (h.x i) (λk I=>(o k I).2 I) h10 ahB ahB
 .rw[if_neg c0];exact h
end
end
section
open Go.RowKit
section
variable{T:HTr}{m m':Hm}{i:Nat}
def sw.act{s:Sp}{sp:Nat->Nat->Sp}{sg:Nat->Nat->Int}(k:TSt T sp sg i s K)(I:¬(s.pc=0\/s.pc=10)):∃c:Nat,s.c=c/\c<T.D/\c<K/\(sp (T.pl i c) (T.sl i c)).pc≠0/\(sp (T.pl i c) (T.sl i c)).pc≠10:=by
 cases k with
 |rest h=>exact absurd (.inl h) I
 |come c h H hg hb=>exact⟨c,h.2.1,h.2.2,Nat.lt_succ_self _,by omega,by omega⟩
 |granted c h H hb=>exact⟨c,h.2.1,h.2.2,h.2.2,by omega,by omega⟩
 |hold h hb=>exact absurd (.inr h) I
 |pass c h H hb=>exact⟨c,h.2.1,by omega,by omega,by omega,by omega⟩
 |leave c h H hc hb=>exact⟨c,h.2.1,h.2.2,Nat.lt_succ_self _,by omega,by omega⟩
def yd(H:T.Ok){i u c:Nat}(hi:i<T.n)(I:u<T.n)(h:T.pl i c=T.pl u c):∀d,c+d+1<T.D->T.pl i (c+d+1)=T.pl u (c+d+1)/\T.sl i (c+d+1)=T.sl u (c+d+1)
 |0,hd=>H.up i u c hi I hd h
 |d+1,hd=>H.up i u (c+d+1) hi I hd (yd H hi I h d ahB).1
def ew.step(h:ew T bud m ho)(hT:T.Ok)(Kk:0<=bud)(hi:i<T.n):∃O',ew T bud (j7 T bud m i) O':=by
 unfold j7;by_cases c0:(sv m.S i).pc=0\/(sv m.S i).pc=10;.rw[if_pos c0];exact⟨ho,h⟩
 rw[if_neg c0];have hx:=h.x i;obtain⟨K,kk,o⟩:=h.t i hi;obtain⟨c,hc,K9,Sg,a0,PD⟩:=sw.act kk c0;rw[hc];simp only[Int.toNat_natCast];have O:=hT.plt i c hi K9;have hj:=hT.slt i c hi K9;have V:ho (T.pl i c) (T.sl i c)=some i:=(o c K9).2 Sg;have Ov:∀k,k<T.D->k≠c->T.pl i k≠T.pl i c:=λk hk ab e=>by have I:=hT.lv i k hi hk;have e2:=hT.lv i c hi K9;rw[e]at I;omega
 obtain⟨v,LL⟩:=LE (T.pl i c);obtain⟨j,L2⟩:=LE (T.sl i c);have LA:=hx.va _ _ O hj;rw[<-LL]at O hj V LA a0 PD Ov ⊢;rw[<-L2]at hj V LA a0 PD ⊢;rw[if_neg (λe=>e.elim a0 PD)];have h0:¬((m.sp v j).pc=0\/(m.sp v j).pc=10):=λe=>e.elim a0 PD;obtain⟨x,UQ⟩:=LE (de (arW (m.W v)) 1 ((j:Int)+1) (sv (m.P v) j));have Ri:RtS (T.nv v) x.1.W ((m.P v).set j x.2):=RtS.go (ar:=arW (m.W v)) (hx.rg v O) (hT.nv32 v O) hj rfl h0 UQ;obtain⟨R',Rs⟩:=RtS.case (ar:=arW (m.W v)) (hx.rg v O) (hT.nv32 v O) hj rfl h0 UQ;have R:RC (T.nv v) (m.W v) x.1.W (m.P v) j (m.sp v j) x.2:=R';clear R';have ad:rstH m v j={m with W:=aY m.W v x.1.W,P:=aY m.P v ((m.P v).set j x.2)}:=by rw[UQ];rfl
 have KW:j<(m.P v).length:=by rw[hx.len O];exact hj
 have Kj:∀a b,(rstH m v j).sp a b=if a=v/\b=j then x.2 else m.sp a b:=λa b=>by rw[ad];exact gi m v j x.2 KW a b
 have Kl:(rstH m v j).sp v j=x.2:=by rw[Kj,if_pos ⟨rfl,rfl⟩]
 have bc:(rstH m v j).sg v j=rS x.1.W (numT j):=by rw[ad];show rS (aY m.W v x.1.W v) (numT j)=_;rw[aX]
 rw[Kl];have hS:(rstH m v j).S=m.S:=rfl;have NE:∀k,k<T.D->k≠c->(rstH m v j).sp (T.pl i k) (T.sl i k)=m.sp (T.pl i k) (T.sl i k):=λk hk ab=>by rw[Kj,if_neg (λe=>Ov k hk ab e.1)]
 have ng:¬((m.sp v j).pc=14\/(m.sp v j).pc=16)->yg bud x.2->(x.2.pc=5->rS x.1.W (numT j)=0)->HX T bud (rstH m v j) ho i:=λI e2 e3=>by rw[ad];exact hx.rung O hj V x.1.W x.2 Ri (Rs I) e2 e3
 have OJ:∀{K:Nat},HX T bud (rstH m v j) ho i->TSt T (rstH m v j).sp (rstH m v j).sg i (sv m.S i) K->(∀k,k<T.D->(ho (T.pl i k) (T.sl i k)=some i↔k<K))->∃O',ew T bud (rstH m v j) O':=λY k1 o1=>⟨_,.of Y ⟨_,k1,o1⟩⟩;have RH:∀p:Sp,¬(p.pc=10\/p.pc=15\/p.pc=16)->yg bud p:=λp hp=>⟨λe=>absurd e hp,λe=>absurd (.inr e) hp⟩;cases kk with
 |rest H=>exact absurd (.inl H) c0
 |hold H _=>exact absurd (.inr H) c0
 |come c' H ha hg hb=>
  obtain rfl:c=c':=by have:=H.2.1;omega
  rw[<-LL,<-L2]at ha hg
  have stay:1<=x.2.pc->x.2.pc<=6->(x.2.pc=5->¬0<rS x.1.W (numT j))->TSt T (rstH m v j).sp (rstH m v j).sg i (sv m.S i) (c+1):=λI e2 e3=>by
   refine .come c H ?_ (λe5=>?_) λk hk=>?_;.rw[<-LL,<-L2,Kl];exact⟨I,e2⟩
   .rw[<-LL,<-L2]at e5 ⊢;rw[Kl]at e5;rw[bc];exact e3 e5
   .exact abx
  cases R with
  |come e=>obtain⟨I,e2,e3,e4⟩:=e;rw[if_pos ahB];exact OJ (ng ahB (RH _ ahB) e3) (stay e2.1 e2.2 (λe=>by rw[e3 e];decide)) o
  |told e=>exact absurd e.2.2.1 (hg e.1)
  |hold e=>
   obtain⟨I,e2,e3,e4⟩:=e;rw[if_neg (λhn=>hn (.inr e2)),if_pos H.1];have Y:=ng ahB ⟨λ_=>by omega,λe=>by omega⟩ (λ_=>by omega);unfold jJ;rw[<-LL,<-L2,Kl,hS]
   have low:∀k,k<=c->((rstH m v j).sp (T.pl i k) (T.sl i k)).pc=10:=λk hk=>by
    by_cases e:k=c;.subst e;rw[<-LL,<-L2,Kl];exact e2
    .rw[NE k ahB e];exact hb k ahB
   by_cases hD:c+1=T.D;.rw[if_pos (.inr hD)];exact⟨_,.of (Y.thr _) (iA (K:=T.D) (tI Y hi) (.hold rfl λk hk=>low k ahB) λk hk=>by rw[o k hk];omega)⟩
   .rw[if_neg ahB];have PG:c+1<T.D:=(by omega);have hn:ho (T.pl i (c+1)) (T.sl i (c+1))=none:=Y.upNone hT hi PG (.inl (by have:=low c (Nat.le_refl _);show 6<=((rstH m v j).sp _ _).pc;omega)) (by rw[<-LL,<-L2];exact V) (λe=>by have:=(o (c+1) PG).1 e;omega);have Qj:=hT.plt i (c+1) hi PG;have ax:=hT.slt i (c+1) hi PG;have h0:=Y.fr _ _ Qj ax hn;have e:iL (rstH m v j) (T.pl i (c+1)) (T.sl i (c+1))=(rstH m v j).slot (T.pl i (c+1)) (T.sl i (c+1)) {(rstH m v j).sp (T.pl i (c+1)) (T.sl i (c+1))with pc:=1}:=(by unfold iL;rw[if_pos h0]);rw[e];have h2:=Y.ask hi PG hT hn {(rstH m v j).sp (T.pl i (c+1)) (T.sl i (c+1))with pc:=1} rfl;have UG:=gi (rstH m v j) (T.pl i (c+1)) (T.sl i (c+1)) {(rstH m v j).sp (T.pl i (c+1)) (T.sl i (c+1))with pc:=1} (by rw[Y.len Qj];exact ax);have Mi:∀k,k<T.D->k≠c+1->¬(T.pl i k=T.pl i (c+1)/\T.sl i k=T.sl i (c+1)):=λk hk ab e=>by have I:=hT.lv i k hi hk;have e2:=hT.lv i (c+1) hi PG;rw[e.1]at I;omega
    refine⟨_,.of (h2.thr _) (iA (K:=c+1+1) (tI h2 hi) (.come (c+1) ⟨H.1,by show(c:Int)+1=((c+1:Nat):Int);omega,PG⟩ ?_ (λe5=>?_) λk hk=>?_) λk hk=>?_)⟩;.rw[UG,if_pos ⟨rfl,rfl⟩];exact⟨by show(1:Int)<=1;decide,by show(1:Int)<=6;decide⟩
    .rw[UG,if_pos ⟨rfl,rfl⟩]at e5;exact absurd e5 (by show ¬(1:Int)=5;decide)
    .rw[UG,if_neg (Mi k ahB ahB)];exact low k ahB
    .by_cases e:k=c+1;.subst e;rw[gh];exact⟨λ_=>by omega,λ_=>rfl⟩
     .rw[fw (Mi k hk e),o k hk];omega
  |o e=>have:=e.1;omega
  |free e=>have:=e.1;omega
  |give s e=>have:=e.1;omega
  |look e=>have:=e.1;omega
 |granted c' H ha hb=>
  obtain rfl:c=c':=by have:=H.2.1;omega
  rw[<-LL,<-L2]at ha;have Zm:0<rS (m.W v) (numT j):=ha.2;cases R with
  |told e=>obtain⟨I,e2,e3,e4,e5⟩:=e;rw[if_neg (λhn=>hn (.inr e2)),if_pos H.1];have Pr:=hx.sa v j O hj ha.1;have bA:rS (m.W v) (numT j)=0\/rS (m.W v) (numT j)= -1\/(1<=rS (m.W v) (numT j)/\rS (m.W v) (numT j)<=bud+1):=Pr;have Y:=ng ahB ⟨λ_=>by omega,λe=>by omega⟩ (λ_=>by omega);unfold jJ;rw[<-LL,<-L2,Kl,hS,if_pos (.inl e5)];refine⟨_,.of (Y.thr _) (iA (K:=T.D) (tI Y hi) (.hold rfl λk hk=>?_) o)⟩;exact aby
  |come e=>exact absurd ⟨ha.1,Zm⟩ e.2.2.2
  |hold e=>have:=e.1;omega
  |o e=>have:=e.1;omega
  |free e=>have:=e.1;omega
  |give s e=>have:=e.1;omega
  |look e=>have:=e.1;omega
 |pass c' H ha hb=>
  obtain rfl:c=c':=by have:=H.2.1;omega
  rw[<-LL,<-L2]at ha;cases R with
  |look e=>
   obtain⟨I,e2,e3,e4⟩:=e;have v1:=LA.1 (.inr (.inl I));have v2:=LA.2 (.inl I);have Y:=ng ahB ⟨λ_=>by omega,λ_=>by omega⟩ (λ_=>by omega);rcases e2 with e2|e2
   .rw[if_neg (λhn=>hn (.inr e2)),if_neg ahB,if_neg ahB];refine⟨_,xi hT hi T.D _ (c+1) Y (λk hk=>(o k hk).2 hk) (λk hk=>?_) H.2.2 ahB⟩;exact aby
   .rw[if_pos ahB];refine OJ Y (.pass c H ?_ λk hk ab=>?_) o;.rw[<-LL,<-L2,Kl];exact .inr e2
    .rw[NE k hk ab];exact hb k hk ab
  |give s e=>
   obtain⟨I,e2,⟨Qh,Qg⟩,e5,TM,e6,e7⟩:=e;have R4:(m.sp v j).pc=16:=(by omega);have v1:=LA.1 (.inr (.inr R4));have v2:=LA.2 (.inr R4);obtain⟨u,hu⟩:∃u,ho v s=some u:=by exact abz
   obtain⟨Mj,k,hk,h1,h2⟩:=hx.ow v s u hu;obtain rfl:c=k:=by exact abA
   have Mt:∀k,c<k->k<T.D->T.pl i k=T.pl u k/\T.sl i k=T.sl u k:=λk al KE=>by obtain⟨d,rfl⟩:∃d,k=c+d+1:=⟨k-c-1,by omega⟩;exact yd hT hi Mj (by rw[<-LL];exact h1) d KE
   have Ms:0<rS x.1.W (numT s):=by omega
   obtain⟨_,Ps,O',hg,Ui,_⟩:=hx.give hT O hj V x.1.W x.2 e2 Qh Qg Ri e5 TM e7 (.inr ahB) hu K9 h1 h2 (λ_ k al KE=>by
    rw[<-(Mt k al KE).1,<-(Mt k al KE).2]
    exact⟨hb k KE ahB,(o k KE).2 KE⟩)
   rw[<-ad]at hg;have Sa:=Ui Ms;rw[if_neg (λhn=>hn (.inl e2)),if_neg ahB,if_pos e2];have Pt:∀k,k<=c->¬∃k',c<k'/\k'<T.D/\T.pl i k=T.pl u k'/\T.sl i k=T.sl u k':=λk NR ⟨k',h3,h4,h5,_⟩=>by have l1:=hT.lv i k hi ahB;have l2:=hT.lv u k' Mj h4;rw[h5]at l1;omega
   have Z8:O' v j=some i:=(by rw[Sa,LL,L2,jA (Pt c (Nat.le_refl _)),<-LL,<-L2];exact V);have hrel:=hg.release (by rw[Kl];exact e2) Z8;refine⟨_,oF hrel hT hi K9 (λk hk=>?_) λk hk=>?_⟩
   .by_cases e:k=c;.exact abB
    .rw[fw (λe'=>Ov k hk e e'.1),Sa];rcases Nat.lt_or_ge k c with h3|h3
     .rw[jA (Pt k ahB),o k hk];omega
     .rw[(Mt k ahB hk).1,(Mt k ahB hk).2,pP ahB hk];exact⟨λh=>(by injection h with h;exact absurd h Ps),λh=>by omega⟩
   .rw[NE k ahB ahB];exact hb k ahB ahB
  |come e=>have:=e.1;omega
  |told e=>have:=e.1;omega
  |hold e=>have:=e.1;omega
  |free e=>have:=e.1;omega
  |o e=>have:=e.1;omega
 |leave c' H ha NO hb=>
  obtain rfl:c=c':=by have:=H.2.1;omega
  rw[<-LL,<-L2]at ha NO;cases R with
  |o e=>
   obtain⟨I,e6,e3⟩:=e;rw[if_pos ahB];refine OJ (ng ahB (RH _ ahB) (λ_=>by omega)) (.leave c H ?_ ?_ λk hk=>?_) o;.rw[<-LL,<-L2,Kl];exact⟨by omega,e6.2⟩
   .rw[<-LL,<-L2,Kl,e3];exact NO
   .exact abx
  |free e=>obtain⟨I,e2⟩:=e;rw[if_neg (λhn=>hn (.inl e2)),if_neg ahB,if_pos e2];have Y:=ng ahB (RH _ ahB) (λ_=>by omega);have hrel:=Y.release (by rw[Kl];exact e2) V;exact abC
  |give s e=>
   obtain⟨I,e2,⟨Qh,Qg⟩,e5,TM,e6,e7⟩:=e;have R4:(m.sp v j).pc=14:=(by omega);obtain⟨u,hu⟩:∃u,ho v s=some u:=by exact abz
   obtain⟨Mj,k,hk,h1,h2⟩:=hx.ow v s u hu;obtain rfl:c=k:=by exact abA
   have bw:(c+1=T.D/\rS x.1.W (numT s)=1)\/(c+1≠T.D/\rS x.1.W (numT s)= -1):=by
    rw[e6,NO];by_cases e:c+1=T.D;.exact .inl ⟨e,by rw[if_pos e]⟩
    .exact .inr ⟨e,by rw[if_neg e]⟩
   obtain⟨_,Ps,O',hg,Ui,ZC⟩:=hx.give hT O hj V x.1.W x.2 e2 Qh Qg Ri e5 TM e7 ahB hu K9 h1 h2 (λhp k al KE=>by omega);rw[<-ad]at hg
   have Sa:O'=ho:=by
    rcases bw with⟨e7,e8⟩|⟨e7,e8⟩
    .rw[Ui ahB];funext a b;exact jA fun⟨k',h3,h4,_⟩=>by omega
    .exact ZC ahB
   rw[Sa]at hg;rw[if_neg (λhn=>hn (.inl e2)),if_neg ahB,if_pos e2];have hrel:=hg.release (by rw[Kl];exact e2) V;exact abC
  |come e=>have:=e.1;omega
  |told e=>have:=e.1;omega
  |hold e=>have:=e.1;omega
  |look e=>have:=e.1;omega
end
end
section
open Go.RowKit
def hm0(T:HTr):Hm:=⟨λv=>List.replicate (2*T.nv v+1) 0,λv=>List.replicate (T.nv v) Sp.zero,List.replicate T.n Sp.zero⟩
def rY(n i:Nat):sv (List.replicate n Sp.zero) i=Sp.zero:=by exact abD
def RtS.start(n:Nat):RtS n (List.replicate (2*n+1) 0) (List.replicate n Sp.zero):=by
 have H:∀x,ldW (List.replicate (2*n+1) 0) x=0:=λx=>by
  unfold ldW;split;.rw[List.getD_eq_getElem?_getD,List.getElem?_replicate];split<;>rfl
  .rfl
 have hN:∀x,rN (List.replicate (2*n+1) 0) x=0:=λx=>by unfold rN;split<;>first|exact H _|rfl
 have I:∀x,rS (List.replicate (2*n+1) 0) x=0:=λx=>by unfold rS;split<;>first|exact H _|rfl
 have hs:∀i,sv (List.replicate n Sp.zero) i=Sp.zero:=λi=>rY _ _
 have O:∀i,¬G2 (rS (List.replicate (2*n+1) 0)) (sv (List.replicate n Sp.zero)) i:=λi h=>by
  rcases h with h|h
  .rw[hs]at h;exact absurd h ahD
  .exact h.2 (I _)
 have z:∀i,(sv (List.replicate n Sp.zero) i).pc=0:=λi=>by rw[hs];rfl
 refine⟨⟨⟨λi j _ _ h=>absurd h (O i),λ_ i _=>O i⟩,by rw[H];omega,λi _=>by rw[z];omega,λi _ _=>I _,λi _ _=>hN _,λi _ h=>?_,λi _ h=>?_,λi j _ _ h=>?_,λj _ h=>?_,λj k _ _ h=>?_,λi _ h=>?_,λi _ h=>?_⟩,by simp,by simp⟩;.rw[H]at h;exact absurd h (by unfold numT;omega)
 all_goals rw[z]at h;omega
def ew.start(T:HTr)(bud:Int):ew T bud (hm0 T) (λ_ _=>none):=by have hs:∀v j,(hm0 T).sp v j=Sp.zero:=λv j=>rY _ _;have I:∀t,sv (hm0 T).S t=Sp.zero:=λt=>rY _ _;have H:∀t,sw T (hm0 T) (λ_ _=>none) t:=λt=>⟨0,.rest (by rw[I];rfl),λk V=>⟨λh=>(by cases h),λh=>absurd h (Nat.not_lt_zero _)⟩⟩;refine⟨λi=>⟨λv O=>RtS.start _,by simp[hm0],λv j t h=>(by cases h),λv j _ _ _=>by rw[hs];rfl,λt _ _=>H t,λv j _ _=>?_,λv j _ _ h=>by rw[hs]at h;exact absurd h ahD⟩,λt _=>H t⟩;rw[hs];exact⟨λe=>absurd e ahD,λe=>absurd e ahD⟩
def si(m:Hm)(v j:Nat)(u c:Int):(eT m v j u c).S=m.S:=by unfold eT;split<;>rfl
def FC(m:Hm)(v j:Nat):(iL m v j).S=m.S:=by unfold iL;split<;>rfl
end
end Go.Proofs.YtglokdbiggbkjaaGreat
