/- Joined texts. -/
import Derived.StillTailTactics
import Derived.IntWalk
import Derived.Deep.RegionHeld3
import Derived.Test.YtglokdbiggbkjaaGreatMgWholeRefuses0
import Derived.Test.YtglokdbiggbkjaaGreatMgWholeRefuses1
import Derived.Test.YtglokdbiggbkjaaGreatMgWholeRefuses3
set_option linter.unusedVariables false
set_option linter.unusedSimpArgs false
set_option linter.defProp false
set_option maxRecDepth 100000
set_option maxHeartbeats 16000000
open Go.Proofs.Tryz
namespace Go.Proofs.YtglokdbiggbkjaaGreat
open Go.IntKind(i64)
open Go.Value(int bool slice agg tuple pointer)
open Go.Ending(returned)
open Go.Obj(cells)
variable{n j a g base k m:Nat}{t x v:Int}{f f' N:Int->Int}{w:World}{W:List Int}
section
open Go
variable{p:Sp}
def fN(t:Int)(n:Nat)(f:Int->Int)(x:Int):Int:=if 1<=x/\x<=n then f (mNx t x)else 0
def fW(t:Int)(n:Nat)(f:Int->Int)(x:Int):Int:=if 1<=x/\x<=n then f (mWt t x)else 0
abbrev EE(S:Int->Int)(σ:Nat->Sp):Nat->Prop:=i6 10 (λv=>v=0) S σ
structure McA(n:Nat)(t:Int)(N S:Int->Int)(σ:Nat->Sp):Prop where
 tk:ja n (EE S σ) (t=0)
 vt:0<=t/\t<=n
 z:∀i,i<n->(σ i).pc=3\/(σ i).pc=4->S (numT i)=1
 n2:∀i,i<n->(σ i).pc=2\/(σ i).pc=3->N (numT i)=0
 tl:∀i,i<n->t=numT i->4<=(σ i).pc/\N t=0
 l:∀i,i<n->(σ i).pc=4->(1<=(σ i).a/\(σ i).a<=n)/\t≠(σ i).a/\N (σ i).a=0/\∀j,j<n->numT j=(σ i).a->4<=(σ j).pc/\j≠i
 u4:∀i j,i<n->j<n->(σ i).pc=4->(σ j).pc=4->(σ i).a=(σ j).a->i=j
 nx:∀j,j<n->4<=(σ j).pc->N (numT j)≠0->(1<=N (numT j)/\N (numT j)<=n)/\∀i,i<n->numT i=N (numT j)->(σ i).pc=5/\S (numT i)=1
 u:∀j k,j<n->k<n->4<=(σ j).pc->4<=(σ k).pc->N (numT j)≠0->N (numT j)=N (numT k)->j=k
 s14:∀i,i<n->(σ i).pc=14->N (numT i)=(σ i).a/\(σ i).a≠0
section
theorem pR(hf:∀y,f' y=if y=mNx t x then v else f y)(h:1<=x/\x<=n):f' t=f t/\fN t n f'=updF (fN t n f) x v/\fW t n f'=fW t n f:=by exact aaX
theorem pS(hf:∀y,f' y=if y=mWt t x then v else f y)(h:1<=x/\x<=n):f' t=f t/\fN t n f'=fN t n f/\fW t n f'=updF (fW t n f) x v:=by exact aaX
theorem Ay(h:∀y,f' y=if y=t then v else f y):f' t=v/\fN t n f'=fN t n f/\fW t n f'=fW t n f:=by simp only[funext_iff,fN,fW,h,mNx,mWt];exact aaY
def Ax(h:∀y,t<=y->y<t+(1+2*(n:Int))->f' y=f y):fN t n f'=fN t n f/\fW t n f'=fW t n f:=by
 refine⟨funext λx=>?_,funext λx=>?_⟩
 .unfold fN mNx;split;.exact h _ ahE ahE
  .rfl
 .unfold fW mWt;split;.exact h _ ahE ahE
  .rfl
end
theorem McA.beg{i:Nat}{S:Int->Int}{σ O:Nat->Sp}(k:McA n t N S σ)(hi:i<n)(he:∀j,O j=if j=i then p else σ j)(hp:((σ i).pc=10/\p.pc=11)\/((σ i).pc=0/\p.pc=1)):McA n t N S O:=by
 obtain⟨tk,vt,z,n2,tl,l,u4,nx,u,s14⟩:=k;refine⟨?_,vt,?_,?_,?_,?_,?_,?_,?_,?_⟩;.exact aaZ
 .intro j H;have e:=he j;have q:=z j H;clear tk z n2 tl l u4 nx u s14 he;grind
 .intro j H;have e:=he j;have q:=n2 j H;clear tk z n2 tl l u4 nx u s14 he;grind
 .intro j H;have e:=he j;have q:=tl j H;clear tk z n2 tl l u4 nx u s14 he;grind
 .intro j H h4;have e:=he j;have LR:j≠i:=λh=>by rw[if_pos h]at e;rw[e]at h4;omega
  rw[if_neg LR]at e;obtain⟨q1,q2,q3,q4⟩:=l j H (by rw[<-e];exact h4);rw[e];refine⟨q1,q2,q3,λk I Y=>?_⟩;have:=q4 k I Y;have:=he k;clear tk z n2 tl l u4 nx u s14 he;grind
 .intro j k H I;have e:=he j;have e2:=he k;have q:=u4 j k H I;clear tk z n2 tl l u4 nx u s14 he;grind
 .intro j H h4 h5;have e:=he j;have h6:4<=(σ j).pc:=by clear tk z n2 tl l u4 nx u s14 he;grind
  have:=nx j H h6 h5;refine⟨this.1,λk I Y=>?_⟩;have q:=this.2 k I Y;have:=he k;clear tk z n2 tl l u4 nx u s14 he;grind
 .intro j k H I h1 h2;have e:=he j;have e2:=he k;have q:=u j k H I;clear tk z n2 tl l u4 nx u s14 he;grind
 .intro j H;have e:=he j;have q:=s14 j H;clear tk z n2 tl l u4 nx u s14 he;grind
theorem McA.go{i:Nat}{s:Ar}{S:List Sp}(k:McA n (ldW s.W t) (fN t n (ldW s.W)) (fW t n (ldW s.W)) (sv S))(hi:i<n)(len:S.length=n)(own:∀x v,t<=x->x<=t+2*n->∀y,ldW (stW s.W x v) y=if y=x then v else ldW s.W y)(ab:inR s.W t=true)(hp:p=sv S i)(hc:(0<=p.pc/\p.pc<=5)\/(10<=p.pc/\p.pc<=14)){r:Ar×Sp}(V:r=mg t s i p):McA n (ldW r.1.W t) (fN t n (ldW r.1.W)) (fW t n (ldW r.1.W)) (sv (S.set i r.2))/\∀y,¬(t<=y/\y<=t+2*n)->ldW r.1.W y=ldW s.W y:=by
  have hs:∀q,sv (S.set i q)=λj=>if j=i then q else sv S j:=λq=>by funext j;rw[ba];grind
  have ex:((i:Nat):Int)+1=numT i:=rfl;have J9:1<=numT i/\numT i<=n:=by unfold numT;omega
  have LD:cG s t (numT i)=decide (ldW s.W t=numT i):=by unfold cG;rw[ab];rfl
  have lN:ldW s.W (mNx t (numT i))=fN t n (ldW s.W) (numT i):=by unfold fN;rw[if_pos J9]
  have lW:ldW s.W (mWt t (numT i))=fW t n (ldW s.W) (numT i):=by unfold fW;rw[if_pos J9]
  have inj:=λj k=>@iW j k;have LN:∀j,1<=numT j:=λj=>by unfold numT;omega
  have oN:∀x v:Int,1<=x/\x<=n->∀y,ldW (stW s.W (mNx t x) v) y=if y=mNx t x then v else ldW s.W y:=λx v h=>own _ v (by unfold mNx;omega) (by unfold mNx;omega)
  have oW:∀x v:Int,1<=x/\x<=n->∀y,ldW (stW s.W (mWt t x) v) y=if y=mWt t x then v else ldW s.W y:=λx v h=>own _ v (by unfold mWt;omega) (by unfold mWt;omega)
  have o1:=λv=>own t v (Int.le_refl _) ahE;obtain⟨tk,vt,z,n2,tl,l,u4,nx,u,s14⟩:=k;have h4:=l i hi;have Lf:=s14 i hi;have O:=nx i hi;rw[<-hp]at h4 Lf O;obtain⟨pc,a,b,c⟩:=p;simp only at hc h4 Lf O;have Y:(pc=4->1<=a/\a<=n)/\(pc=14->1<=a/\a<=n):=⟨λh=>(h4 h).1,λh=>by have e:=Lf h;have:=(O ahE (by rw[e.1];exact e.2)).1;omega⟩;have SX:(pc=0\/pc=10)\/pc=1\/pc=2\/pc=3\/pc=4\/pc=5\/pc=11\/pc=12\/pc=13\/pc=14:=by omega
  rcases SX with h|rfl|rfl|rfl|rfl|rfl|rfl|rfl|rfl|rfl
  . have e:r=(s,⟨pc,a,b,c⟩):=(by rw[V];unfold mg;rcases h with rfl|rfl<;>simp);rw[e];refine⟨?_,λ_ _=>rfl⟩;have e2:sv (S.set i ⟨pc,a,b,c⟩)=sv S:=(by rw[hs];funext j;split<;>simp_all);show McA n (ldW s.W t) (fN t n (ldW s.W)) (fW t n (ldW s.W)) (sv (S.set i ⟨pc,a,b,c⟩));rw[e2];exact⟨tk,vt,z,n2,tl,l,u4,nx,u,s14⟩
  all_goals simp[mg,eH,dH,ex,LD,lN,lW]at V;repeat' split at V
  all_goals subst V;refine⟨?_,?_⟩
  all_goals try simp only[aw,aP,dK,gL]
  all_goals try simp only[LD,decide_eq_true_eq]
  all_goals try first|rw[if_pos ahW]|rw[if_neg ahW]
  all_goals try first
    | exact λ_ _=>rfl
    | exact λ_ _=>trivial
    | (intro y hy;rw[oN _ _ ahE,if_neg (by unfold mNx;omega)];done)
    | (intro y hy;rw[oW _ _ ahE,if_neg (by unfold mWt;omega)];done)
    | (intro y hy;rw[o1,if_neg ahE];done)
  all_goals rw[hs]
  all_goals try first
    | rw[(pS (oW a _ (Y.2 rfl)) (Y.2 rfl)).1,(pS (oW a _ (Y.2 rfl)) (Y.2 rfl)).2.1,(pS (oW a _ (Y.2 rfl)) (Y.2 rfl)).2.2]
    | rw[(pR (oN a _ (Y.1 rfl)) (Y.1 rfl)).1,(pR (oN a _ (Y.1 rfl)) (Y.1 rfl)).2.1,(pR (oN a _ (Y.1 rfl)) (Y.1 rfl)).2.2]
    | rw[(pR (oN _ _ ahE) ahE).1,(pR (oN _ _ ahE) ahE).2.1,(pR (oN _ _ ahE) ahE).2.2]
    | rw[(pS (oW _ _ ahE) ahE).1,(pS (oW _ _ ahE) ahE).2.1,(pS (oW _ _ ahE) ahE).2.2]
    | rw[(Ay (n:=n) (o1 _)).1,(Ay (n:=n) (o1 _)).2.1,(Ay (n:=n) (o1 _)).2.2]
  all_goals have Nf:=congrArg Sp.pc hp.symm;have Oa:=congrArg Sp.a hp.symm;dsimp only at Nf Oa;clear hs lN lW LD hp len own oN oW o1 ex ab;generalize P9:(λj=>if j=i then _ else sv S j)=σ';have H:=λj=>(congrFun P9 j).symm;clear P9;generalize sv S=σ at *;generalize fN t n (ldW s.W)=N at *;generalize fW t n (ldW s.W)=G at *;generalize ldW s.W t=t at *;have hx:∀x:Int,1<=x->x<=n->∃j,j<n/\numT j=x:=λx h1 h2=>⟨(x-1).toNat,by omega,by unfold numT;omega⟩
  all_goals
    refine⟨?_,by omega,λj I=>?_,λj I=>?_,λj I=>?_,λj I=>?_,λj k I hk=>?_,λj I=>?_,λj k I hk=>?_,λj I=>?_⟩;. first| exact tk.own hi H ahE aim air| exact tk.o hi H ahE ahG ahS ait| exact tk.low hi H aiM ahG aim| exact tk.door hi H ahE ahS ahE| exact tk.ent hi H ahE (show G (numT i)=0 by omega)
    . have e:=H j;have:=z j I;have h1:=λa b=>(O a b).2 j I;have h3:=inj j i;clear tk vt z n2 tl l u4 nx u s14 h4 O inj LN hx H;first|grind [updF]|(intros;grind [updF])
    . have e:=H j;have:=n2 j I;have h3:=inj j i;have h1:=λh=>(h4 h).2.2.2 j I;clear tk vt z n2 tl l u4 nx u s14 h4 Lf O inj LN hx H;first|grind [updF]|(intros;grind [updF])
    . have e:=H j;have h1:=tl j I;have hq:=LN j;have h3:=inj j i;have h5:=n2 i hi;clear tk vt z n2 tl l u4 nx u s14 O inj LN hx H;first|grind [updF]|(intros;grind [updF])
    . have e:=H j;have h1:=l j I;have h5:=n2 i hi;have h7:=tl i hi;have h8:=u4 j i I hi;intro q;have hl:∀k,k<n->numT k=(σ' j).a->4<=(σ' k).pc/\k≠j:=(by intro k hk h;have ek:=H k;have h9:=λa=>(h1 a).2.2.2 k hk;have h10:=tl k hk;clear u4 nx u s14 z O n2 tk H tl l hx inj;grind);refine⟨?_,?_,?_,hl⟩;all_goals clear u4 nx u s14 z O n2 tk H l hl inj;grind [updF]
    . have e:=H j;have ek:=H k;have h1:=u4 j k I hk;have h2:=l j I;have h3:=l k hk;clear tk vt z n2 tl l u4 nx u s14 h4 Lf O inj LN hx H;grind
    . have e:=H j;have h1:=nx j I;have h5:=n2 i hi;have h6:=inj j i;have h7:=u j i I hi;have h8:=z i hi;clear u4 nx u s14 z n2 tk tl l;first|grind [updF]|(intros;grind [updF])
    . have e:=H j;have ek:=H k;have h1:=u j k I hk;have h5:=n2 i hi;have h6:=inj j i;have h7:=inj k i;have h8:=inj j k;have h9:=λa b=>(nx j I a b).2 i hi;have h10:=λa b=>(nx k hk a b).2 i hi;clear u4 nx u s14 z n2 tk tl l H O inj hx h4 Lf;first|grind [updF]|(intros;simp only[updF]at *;grind)
    . have e:=H j;have h1:=s14 j I;have h3:=inj j i;have h5:=λh=>(h4 h).2.2.1;clear tk vt z n2 tl l u4 nx u s14 h4 O inj LN hx H;first|grind [updF]|(intros;grind [updF])
end
section
open Go
def fC(t:Int)(n:Nat)(f:Int->Int)(x:Int):Int:=if 1<=x/\x<=(n:Int)+1 then f (t+x)else 0
structure ClA(n:Nat)(t:Int)(g:Int->Int)(σ:Nat->Sp)(e:Int):Prop where
 e0:1<=e/\e<=(n:Int)+1
 a0:∀i,i<n->1<=(σ i).a/\(σ i).a<=(n:Int)+1
 inj:∀i j,i<n->j<n->(σ i).a=(σ j).a->i=j
 ne:∀i,i<n->(σ i).a≠e
 f0:g e=0
 f1:∀i,i<n->2<=(σ i).pc->g (σ i).a=1
 bq:∀i,i<n->3<=(σ i).pc->(σ i).b=e\/∃j,j<n/\(σ i).b=(σ j).a/\3<=(σ j).pc
 bu:∀i j,i<n->j<n->3<=(σ i).pc->3<=(σ j).pc->(σ i).b=(σ j).b->i=j
 tl:t=e\/∃j,j<n/\t=(σ j).a/\3<=(σ j).pc
 tb:∀k,k<n->3<=(σ k).pc->(σ k).b≠t
 h10:∀i,i<n->10<=(σ i).pc->(σ i).b=e
section
variable{e:Int}{g g':Int->Int}{σ σ':Nat->Sp}{i:Nat}{p:Sp}
theorem Eo(H:∀y,f' y=if y=t+x then v else f y)(h:1<=x/\x<=(n:Int)+1):f' t=f t/\fC t n f'=updF (fC t n f) x v:=by simp only[funext_iff,updF,fC,H];refine⟨?_,λy=>?_⟩<;>grind
theorem Fc(h:∀y,f' y=if y=t then v else f y):f' t=v/\fC t n f'=fC t n f:=by simp only[funext_iff,fC,h];refine⟨?_,λy=>?_⟩<;>grind
def Aw(h:∀y,t<=y->y<t+((n:Int)+2)->f' y=f y):fC t n f'=fC t n f:=by
 funext x;unfold fC;split;.exact h _ ahE ahE
 .rfl
def ClA.one(k:ClA n t g σ e){i:Nat}(hi:i<n)(h:j<n)(h1:(σ i).pc=10)(H:(σ j).pc=10):i=j:=
 k.bu i j hi h ahE ahE (by rw[k.h10 i hi ahE,k.h10 j h ahE])
theorem ClA.put(k:ClA n t g σ e)(hi:i<n)(hs:∀j,σ' j=if j=i then p else σ j)(ha:p.a=(σ i).a)(hg:∀y,y≠(σ i).a->g' y=g y)(h1:2<=p.pc->g' (σ i).a=1)(hq:((σ i).pc<3/\p.pc<3)\/(3<=(σ i).pc/\3<=p.pc/\p.b=(σ i).b/\(10<=p.pc->(σ i).b=e))):ClA n t g' σ' e:=by
 obtain⟨e0,a0,inj,ne,f0,f1,bq,bu,tl,tb,h10⟩:=k;have ei:=hs i;rw[if_pos rfl]at ei;have V:∀x,(∃j,j<n/\x=(σ j).a/\3<=(σ j).pc)->∃j,j<n/\x=(σ' j).a/\3<=(σ' j).pc:=λx ⟨j,h1,O,h3⟩=>⟨j,h1,by rw[hs];split<;>simp_all,by rw[hs];split<;>(try subst j)<;>omega⟩;refine⟨e0,λj H=>?_,λj l H I=>?_,λj H=>?_,?_,λj H=>?_,λj H h=>?_,λj l H I=>?_,tl.imp id (V t),λj H=>?_,λj H=>?_⟩;.have:=a0 j H;have:=hs j;grind
 .have:=inj j l H I;have:=hs j;have:=hs l;grind
 .have:=ne j H;have:=hs j;grind
 .rw[hg _ (λh=>ne i hi h.symm)];exact f0
 .have:=f1 j H;have:=hs j;have:=inj j i H hi;grind
 .have O:=bq j H;have h3:=hs j;have Y:3<=(σ j).pc/\(σ' j).b=(σ j).b:=by grind
  rw[Y.2];exact(O Y.1).imp id (V _)
 .have:=bu j l H I;have:=hs j;have:=hs l;grind
 .have:=tb j H;have:=hs j;grind
 .have:=h10 j H;have:=hs j;grind
theorem ClA.swap(k:ClA n t g σ e)(hi:i<n)(hs:∀j,σ' j=if j=i then p else σ j)(h2:(σ i).pc=2)(hp:p.pc=3)(ha:p.a=(σ i).a)(I:p.b=t):ClA n (σ i).a g σ' e:=by
 obtain⟨e0,a0,inj,ne,f0,f1,bq,bu,tl,tb,h10⟩:=k
 have V:∀x,(∃j,j<n/\x=(σ j).a/\3<=(σ j).pc)->(∃j,j<n/\x=(σ' j).a/\3<=(σ' j).pc)/\x≠(σ i).a:=λx ⟨j,h1,h3,h4⟩=>by
  have:j≠i:=λe=>by subst e;omega
  exact⟨⟨j,h1,by rw[hs,if_neg this];exact h3,by rw[hs,if_neg this];exact h4⟩,λe=>this (inj j i h1 hi (h3.symm.trans e))⟩
 have O:=hs i;rw[if_pos rfl]at O;refine⟨e0,λj H=>?_,λj l H Y=>?_,λj H=>?_,f0,λj H=>?_,λj H h=>?_,λj l H Y=>?_,.inr ⟨i,hi,by rw[O,ha],by rw[O];omega⟩,λj H h=>?_,λj H=>?_⟩;.have:=a0 j H;have:=hs j;grind
 .have:=inj j l H Y;have:=hs j;have:=hs l;grind
 .have:=ne j H;have:=hs j;grind
 .have:=f1 j H;have:=hs j;grind
 .by_cases c:j=i;.rw[c,O,I];exact tl.imp id λh=>(V _ h).1
  .rw[hs,if_neg c]at h ⊢;exact(bq j H h).imp id λh=>(V _ h).1
 .have:=bu j l H Y;have:=hs j;have:=hs l;have:=tb j H;have:=tb l Y;grind
 .have hn:=ne i hi;by_cases c:j=i;.rw[c,O,I];exact tl.elim (λh=>by rw[h];exact λh=>hn h.symm) λh=>(V _ h).2
  .rw[hs,if_neg c]at h ⊢;exact(bq j H h).elim (λh=>by rw[h];exact λh=>hn h.symm) λh=>(V _ h).2
 .have:=h10 j H;have:=hs j;grind
theorem ClA.o(k:ClA n t g σ e)(hi:i<n)(hs:∀j,σ' j=if j=i then p else σ j)(Nx:10<=(σ i).pc)(hp:p.pc=0)(ha:p.a=(σ i).b)(hg:g'=updF g (σ i).a 0):ClA n t g' σ' (σ i).a:=by
 obtain⟨e0,a0,inj,ne,f0,f1,bq,bu,tl,tb,h10⟩:=k;have I:=h10 i hi Nx;have VA:∀j,j<n->3<=(σ j).pc->j≠i->(σ j).b≠e:=λj H Y LR h=>LR (bu j i H hi Y ahE (by rw[h,I]))
 have V:∀x,(∃j,j<n/\x=(σ j).a/\3<=(σ j).pc)->x=(σ i).a\/∃j,j<n/\x=(σ' j).a/\3<=(σ' j).pc:=λx ⟨j,h1,Y,h4⟩=>by
  by_cases c:j=i;.exact .inl (by rw[Y,c])
  .exact .inr ⟨j,h1,by rw[hs,if_neg c];exact Y,by rw[hs,if_neg c];exact h4⟩
 have O:=hs i;rw[if_pos rfl]at O;refine⟨a0 i hi,λj H=>?_,λj l H hl=>?_,λj H=>?_,by rw[hg,gI],λj H=>?_,λj H h=>?_,λj l H hl=>?_,tl.elim (λh=>absurd (by rw[I,h]) (tb i hi ahE)) (V t),λj H=>?_,λj H h=>?_⟩;.have:=a0 j H;have:=hs j;grind
 .have:=inj j l H hl;have:=hs j;have:=hs l;have:=ne j H;have:=ne l hl;grind
 .have:=ne i hi;have:=inj j i H hi;have:=hs j;grind
 .by_cases c:j=i;.rw[c,O];intro h;omega
  .rw[hs,if_neg c,hg,eu _ (λh=>c (inj j i H hi h))];exact f1 j H
 .have c:j≠i:=λc=>by rw[c,O]at h;omega
  rw[hs,if_neg c]at h ⊢;exact(bq j H h).elim (λh2=>absurd h2 (VA j H h c)) (V _)
 .have:=bu j l H hl;have:=hs j;have:=hs l;grind
 .have:=tb j H;have:=hs j;grind
 .have c:j≠i:=λc=>by rw[c,O]at h;omega
  rw[hs,if_neg c]at h ⊢;exact absurd (h10 j H h) (VA j H ahE c)
end
end
section
open Go.RowKit
variable{s:Ar}
def qF(u:Value)(n:Nat):(madeCells #[u,u,u,u] n).toList=List.replicate n u:=by exact aaw
def uB(n:Nat):(List.replicate n Sp.zero).flatMap bf=List.replicate (n*4) (J 0):=by exact aax
def jN{q:Nat}(h:w.ownsRow base 113 4 (slice (some ⟨q,0,none⟩) n n) n (madeCells #[Value.int .i64 0,J 0,J 0,J 0] (n*4)).toList):SpR w q (List.replicate n Sp.zero):=by have:=fU h;refine⟨[],?_⟩;rw[List.append_nil,uB];have e:(madeCells #[Value.int .i64 0,J 0,J 0,J 0] (n*4)).toList=List.replicate (n*4) (J 0):=qF _ _;exact aa2
def szK(k n m:Nat):Nat:=if k=1 then 1 else if k=2 then 2 else if k=3 then 1+m else if k=4 then 1+2*n else n+2
def aG(k:Nat)(s:Ar)(n m:Nat):Ar:=
 if k=3 then ae (bp s (szK k n m)) ((s.W.length:Int)+2) 1 else if k=5 then ae (bp s (szK k n m)) ((s.W.length:Int)+1) ((n:Int)+1)else bp s (szK k n m)
def a5(k n:Nat):List Sp:=if k=5 then(List.range n).map fun(i:Nat)=>(⟨0,(i:Int)+1,0,0⟩:Sp)else List.replicate n Sp.zero
def zn(w:World)(a g k:Nat)(s:Ar)(n m:Nat)(e:Ending)(w':World):Prop:=
 ∃x:Fx,e= returned (tuple #[↑x.l,J 0])/\KIs w' a g k x (aG k s n m) (a5 k n)/\(w.heap.size<=x.l/\w.heap.size<=x.q/\x.n=n/\x.m=m/\x.t=s.W.length+1/\x.k=k)/\aa [a,g] w w'
def vG(h:aB w a g s)(n:Nat)(h1:1<=n)(h2:n<=32)(m:Nat)(JQ:1<=m)(H:m<=1024)(V:s.W.length+(2)<=s.room):E 152 #[↑a,J n] w (zn w a g 2 s n m):=by
  obtain⟨i0,hi,JF,JH,O⟩:=info_parts Tryz.infoSpF;have HT:=qh (mD h (2) V);refine ajQ ?_;intro t1 t2 HR HG;clear h V;go_enter func152,ntmps152;go_wp2_with fail;refine Op HT.o λw1 H1=>?_;clear HT;go_wp2_with (refine wpList_make_full _ rfl _ _ 237 rfl w1.heap.size 113 i0 (agg #[J 0,J 0,J 0,J 0]) 4 Tryz.underlying237 hi JF JH .i64 .i64 n n n rfl rfl rfl rfl ?b2 ?b3 (Nat.le_refl _) ?_);case b2=>rw[O];omega
  case b3=>unfold maxLen;omega
  intro w2 r' hg;refine ajt ?_;intro Kf H2;have Y:=qh (jN r');clear r' hg Kf;go_wp2;go_ret2;have k2:=H1.o.1.turns H2.o ahF ahF;have s1:=H1.o.2.size;have s2:=H2.o.size;have hq:=Y.o.lt;have Ov:=HG.o;have LW:=HR.o;have tA:aa [] w2 (w2.alloc (.cells (lkC 2 a ⟨0,w2.heap.size,w1.heap.size,2,s.W.length+1,m,n,n⟩) (lkT 2))):=(aa.refl _ _).alloc _;have I:=Blk.new w2 (lkT 2) (lkC 2 a ⟨0,w2.heap.size,w1.heap.size,2,s.W.length+1,m,n,n⟩);refine⟨⟨0,w2.heap.size,w1.heap.size,2,s.W.length+1,m,n,n⟩,rfl,?_,⟨by show w.heap.size<=w2.heap.size;omega,by show w.heap.size<=w1.heap.size;omega,rfl,rfl,rfl,rfl⟩,((H1.o.2.mono ahF).trans (H2.o.mono ahF)).alloc _⟩;exact⟨k2.turns tA ahF ahF,I,Y.o.turns tA ahF,by show(List.replicate n Sp.zero).length=n;simp,by show w2.heap.size≠a;omega,by show w2.heap.size≠g;omega,by show w2.heap.size≠w1.heap.size;omega,by show w1.heap.size≠a;omega,by show w1.heap.size≠g;omega,h2,by show 1<=s.W.length+1;omega,by show s.W.length+1<=5000;omega,JQ,H,Nat.le_refl _⟩
def DJ(h:aB w a g s)(n:Nat)(h1:1<=n)(h2:n<=32)(m:Nat)(JQ:1<=m)(H:m<=1024)(V:s.W.length+(1+2*n)<=s.room):E 154 #[↑a,J n] w (zn w a g 4 s n m):=by
  obtain⟨i0,hi,JF,JH,O⟩:=info_parts Tryz.infoSpF;have HT:=qh (mD h (1+2*n) V);refine ajQ ?_;intro t1 t2 HR HG;have x1:IntKind.i64.wrap (2*(n:Int))=2*(n:Int):=IntWalk.i64_in _ ahE;have x2:IntKind.i64.wrap (1+2*(n:Int))=((1+2*n:Nat):Int):=by rw[IntWalk.i64_in _ ahE];omega
  clear h V;go_enter func154,ntmps154;go_wp2_with fail;refine Op HT.o λw1 H1=>?_;clear HT;go_wp2_with (refine wpList_make_full _ rfl _ _ 237 rfl w1.heap.size 113 i0 (agg #[J 0,J 0,J 0,J 0]) 4 Tryz.underlying237 hi JF JH .i64 .i64 n n n rfl rfl rfl rfl ?b2 ?b3 (Nat.le_refl _) ?_);case b2=>rw[O];omega
  case b3=>unfold maxLen;omega
  intro w2 r' hg;refine ajt ?_;intro Kf H2;have Y:=qh (jN r');clear r' hg Kf;go_wp2;go_ret2;have k2:=H1.o.1.turns H2.o ahF ahF;have s1:=H1.o.2.size;have s2:=H2.o.size;have hq:=Y.o.lt;have Ov:=HG.o;have LW:=HR.o;have tA:aa [] w2 (w2.alloc (.cells (lkC 4 a ⟨0,w2.heap.size,w1.heap.size,4,s.W.length+1,m,n,n⟩) (lkT 4))):=(aa.refl _ _).alloc _;have I:=Blk.new w2 (lkT 4) (lkC 4 a ⟨0,w2.heap.size,w1.heap.size,4,s.W.length+1,m,n,n⟩);refine⟨⟨0,w2.heap.size,w1.heap.size,4,s.W.length+1,m,n,n⟩,rfl,?_,⟨by show w.heap.size<=w2.heap.size;omega,by show w.heap.size<=w1.heap.size;omega,rfl,rfl,rfl,rfl⟩,((H1.o.2.mono ahF).trans (H2.o.mono ahF)).alloc _⟩;exact⟨k2.turns tA ahF ahF,I,Y.o.turns tA ahF,by show(List.replicate n Sp.zero).length=n;simp,by show w2.heap.size≠a;omega,by show w2.heap.size≠g;omega,by show w2.heap.size≠w1.heap.size;omega,by show w1.heap.size≠a;omega,by show w1.heap.size≠g;omega,h2,by show 1<=s.W.length+1;omega,by show s.W.length+1<=5000;omega,JQ,H,Nat.le_refl _⟩
def Ea(h:aB w a g s)(n:Nat)(h1:1<=n)(h2:n<=32)(m:Nat)(JQ:1<=m)(H:m<=1024)(V:s.W.length+(1)<=s.room):E 151 #[↑a,J n,J m] w (zn w a g 1 s n m):=by
  obtain⟨i0,hi,JF,JH,O⟩:=info_parts Tryz.infoSpF;have HT:=qh (mD h (1) V);refine ajQ ?_;intro t1 t2 HR HG;have t3:¬(m:Int)<1:=by omega
  have t4:¬1024<(m:Int):=by omega
  clear h V;go_enter func151,ntmps151;go_wp2_with fail;refine Op HT.o λw1 H1=>?_;clear HT;go_wp2_with (refine wpList_make_full _ rfl _ _ 237 rfl w1.heap.size 113 i0 (agg #[J 0,J 0,J 0,J 0]) 4 Tryz.underlying237 hi JF JH .i64 .i64 n n n rfl rfl rfl rfl ?b2 ?b3 (Nat.le_refl _) ?_);case b2=>rw[O];omega
  case b3=>unfold maxLen;omega
  intro w2 r' hg;refine ajt ?_;intro Kf H2;have Y:=qh (jN r');clear r' hg Kf;go_wp2;go_ret2;have k2:=H1.o.1.turns H2.o ahF ahF;have s1:=H1.o.2.size;have s2:=H2.o.size;have hq:=Y.o.lt;have Ov:=HG.o;have LW:=HR.o;have tA:aa [] w2 (w2.alloc (.cells (lkC 1 a ⟨0,w2.heap.size,w1.heap.size,1,s.W.length+1,m,n,n⟩) (lkT 1))):=(aa.refl _ _).alloc _;have I:=Blk.new w2 (lkT 1) (lkC 1 a ⟨0,w2.heap.size,w1.heap.size,1,s.W.length+1,m,n,n⟩);refine⟨⟨0,w2.heap.size,w1.heap.size,1,s.W.length+1,m,n,n⟩,rfl,?_,⟨by show w.heap.size<=w2.heap.size;omega,by show w.heap.size<=w1.heap.size;omega,rfl,rfl,rfl,rfl⟩,((H1.o.2.mono ahF).trans (H2.o.mono ahF)).alloc _⟩;exact⟨k2.turns tA ahF ahF,I,Y.o.turns tA ahF,by show(List.replicate n Sp.zero).length=n;simp,by show w2.heap.size≠a;omega,by show w2.heap.size≠g;omega,by show w2.heap.size≠w1.heap.size;omega,by show w1.heap.size≠a;omega,by show w1.heap.size≠g;omega,h2,by show 1<=s.W.length+1;omega,by show s.W.length+1<=5000;omega,JQ,H,Nat.le_refl _⟩
end
section
open Go.RowKit
variable{s:Ar}
def tp{e:TypeId}{sz:Nat}{v:Value}{xs:List Value}(h:w.ownsRow base e sz v n xs)(hn:1<=n):∃q cap,v= slice (some ⟨q,0,none⟩) n cap/\n<=cap/\base<=q/\∃V:List Value,Blk w q e (xs++V).toArray:=by
 rcases h.2 with⟨_,h0⟩|⟨q,cap,H,rfl,I,Y,O,P4,JP,ht⟩
 .omega
 .refine⟨q,cap,rfl,O,I,H.toList.drop (n*sz),?_⟩;rw[<-ht,List.take_append_drop,Array.toArray_toList];exact Y
def uW(k:Nat):(a5 5 k).length=k:=by unfold a5;simp
def zU(k:Nat):(a5 5 (k+1)).flatMap bf=(a5 5 k).flatMap bf++[J 0,J ((k:Int)+1),J 0,J 0]:=by unfold a5;rw[if_pos rfl,if_pos rfl,List.range_succ,List.map_append,List.flatMap_append];rfl
def vh(h:aB w a g s)(n:Nat)(h1:1<=n)(h2:n<=32)(m:Nat)(JQ:1<=m)(ad:m<=32)(V:s.W.length+(1+m)<=s.room)(Y:s.ops+1<=1000000000000):E 153 #[↑a,J n,J m] w (zn w a g 3 s n m):=by
  obtain⟨i0,hi,JF,JH,ab⟩:=info_parts Tryz.infoSpF;have HT:=qh (mD h (1+m) V);have x1:IntKind.i64.wrap (1+(m:Int))=((1+m:Nat):Int):=by rw[IntWalk.i64_in _ ahE];omega
  have J4:s.W.length<=4096:=by have:=h.le;have:=h.room;omega
  have KL:=h.blk.lt;have KZ:=h.wds.lt;have HO:=qh Y;clear h V Y;go_enter func153,ntmps153;go_wp2_with fail;refine LT (Fp _ n h1 h2) ?_;go_wp2_with fail;refine(Fp _ m JQ ahE).mono ?_;rintro en w0 ⟨rfl,rfl⟩;go_wp2_with fail;refine Op HT.o λw1 H1=>?_;clear HT;go_wp2_with (refine wpList_make_full _ rfl _ _ 237 rfl w1.heap.size 113 i0 (agg #[J 0,J 0,J 0,J 0]) 4 Tryz.underlying237 hi JF JH .i64 .i64 n n n rfl rfl rfl rfl ?b2 ?b3 (Nat.le_refl _) ?_);case b2=>rw[ab];omega
  case b3=>unfold maxLen;omega
  intro w2 r' hg;refine ajt ?_;intro Kf H2;have Ll:=qh (jN r');clear r' hg Kf;go_upto_region 7 with fail;obtain⟨l,hl⟩:=LE w2.heap.size;obtain⟨nx,JG⟩:∃x:Nat,x=s.W.length+1:=⟨_,rfl⟩;have Qj:((s.W.length:Int)+1)=(nx:Int):=by omega
  obtain⟨w3,H⟩:=LE (w2.alloc (cells #[↑a,J nx,J m,slice (some ⟨w1.heap.size,0,none⟩) n n] 345));rw[Qj,<-H,<-hl];have HB:=qh (show Blk w3 l 345 #[↑a,J nx,J m,slice (some ⟨w1.heap.size,0,none⟩) n n]from by rw[H,hl];exact Blk.new _ _ _);have PC:=qh (show aa [a] w w3 from by rw[H];exact(H1.o.2.trans (H2.o.mono ahF)).alloc _);have RW:=qh (show aB w3 a g (bp s (1+m))from by rw[H];exact(H1.o.1.turns H2.o ahF ahF).turns (S:=[]) ((aa.refl _ _).alloc _) ahF ahF);have W4:=qh (show SpR w3 w1.heap.size (List.replicate n Sp.zero)from by rw[H];exact Ll.o.turns ((aa.refl [] _).alloc _) ahF);have HL:=qh (show w.heap.size<=l/\nx=s.W.length+1/\w1.heap.size<l/\w.heap.size<=w1.heap.size from by have:=H1.o.2.size;have:=H2.o.size;have:=Ll.o.lt;omega);clear hl H JG Qj;go_wp2_with fail;refine Op (FM nx m JQ (by have:=HL.o.2.1;omega) HB.o) λw4 b4=>?_;have Pv:=qh (And.intro (RW.o.turns (aa.of_below (S:=[]) b4.o) ahF ahF) b4.o);go_wp2_with fail;refine(am Pv.o.1 ((nx:Int)+1) 1 (by show s.ops+1<=_;have:=HO.o;omega)).mono ?_;rintro en w5 ⟨rfl,k5,t5⟩;have O:=qh (And.intro k5 t5);clear k5 t5;go_wp2;go_ret2;have s3:=PC.o.size;have s4:=Pv.o.2.size;have s5:=O.o.2.size;have I:=HB.o.lt;have hL:=HL.o;have e3:((nx:Int)+1)=(s.W.length:Int)+2:=by omega
  have tt:aa [a,g] w3 w5:=(aa.of_below Pv.o.2).trans O.o.2;have ka:=O.o.1;rw[e3]at ka;refine⟨⟨0,l,w1.heap.size,3,nx,m,n,n⟩,rfl,?_,⟨by show w.heap.size<=l;omega,by show w.heap.size<=w1.heap.size;omega,rfl,rfl,hL.2.1,rfl⟩,(PC.o.mono ahF).trans tt⟩;exact⟨ka,tt.blk HB.o ahJ,W4.o.turns tt ahJ,by show(List.replicate n Sp.zero).length=n;simp,by show l≠a;omega,by show l≠g;omega,by show l≠w1.heap.size;omega,by show w1.heap.size≠a;omega,by show w1.heap.size≠g;omega,h2,by show 1<=nx;omega,by show nx<=5000;omega,JQ,by show m<=1024;omega,Nat.le_refl _⟩
def CO(h:aB w a g s)(n:Nat)(h1:1<=n)(h2:n<=32)(m:Nat)(JQ:1<=m)(ad:m<=1024)(V:s.W.length+(n+2)<=s.room)(Y:s.ops+1<=1000000000000):E 155 #[↑a,J n] w (zn w a g 5 s n m):=by
  obtain⟨i0,hi,JF,JH,ab⟩:=info_parts Tryz.infoSpF;have HI:=qh (And.intro hi (And.intro JF (And.intro JH ab)));have HT:=qh (mD h (n+2) V);have t1:¬(n:Int)<1:=by omega
  have t2:¬32<(n:Int):=by omega
  have x1:IntKind.i64.wrap ((n:Int)+2)=((n+2:Nat):Int):=by rw[IntWalk.i64_in _ ahE];omega
  have x2:IntKind.i64.wrap ((n:Int)+1)=((n+1:Nat):Int):=by rw[IntWalk.i64_in _ ahE];omega
  have J4:s.W.length<=4096:=by have:=h.le;have:=h.room;omega
  have HG:=qh (And.intro h.blk.lt h.wds.lt);have HO:=qh Y;clear h V Y hi JF JH ab;go_enter func155,ntmps155;go_wp2_with fail;refine Op HT.o λw1 H1=>?_;clear HT;go_upto_region 7 with fail;obtain⟨l,hl⟩:=LE w1.heap.size;obtain⟨nx,JG⟩:∃x:Nat,x=s.W.length+1:=⟨_,rfl⟩;have Qj:((s.W.length:Int)+1)=(nx:Int):=by omega
  obtain⟨w3,LY⟩:=LE (w1.alloc (cells #[↑a,J nx,.slice none 0 0] 350));rw[Qj,<-LY,<-hl];have HB:=qh (show Blk w3 l 350 #[↑a,J nx,.slice none 0 0]from by rw[LY,hl];exact Blk.new _ _ _);have PC:=qh (show aa [a] w w3 from by rw[LY];exact H1.o.2.alloc _);have RW:=qh (show aB w3 a g (bp s (n+2))from by rw[LY];exact H1.o.1.turns (S:=[]) ((aa.refl _ _).alloc _) ahF ahF);have HL:=qh (show w.heap.size<=l/\nx=s.W.length+1/\w3.heap.size=l+1 from by have:=H1.o.2.size;rw[LY];simp;omega);clear hl LY JG Qj;go_wp2;go_loopw [31] (λi wr=>∃(k:Nat) (v:Value),i= J k/\k<=n/\Blk wr l 350 #[↑a,J nx,v]/\wr.ownsRow w3.heap.size 113 4 v k ((a5 5 k).flatMap bf)/\aa [l] w3 wr) (λi _=>n-(intOf i).toNat);case atStart=>exact⟨0,_,rfl,by omega,HB.o,World.ownsRow_nil _ _ _ _,aa.refl _ _⟩
  case round=>
    obtain⟨k,v,rfl,hk,I,r',ht⟩:=hrel;have PH:=qh (zU k);obtain⟨xs,OH⟩:=LE ((a5 5 k).flatMap bf);rw[<-OH]at r' PH;have Xi:=qh OH;clear OH;obtain⟨wo,rfl⟩:∃wo:World,wo=wr:=⟨_,rfl⟩;by_cases I':k<n
    . obtain⟨A,cap,rfl⟩:=bO r';have c2:Z wo l 2 (.slice A k cap):=I.cell 2;have KD:=I.lt;have Kp:=ht.size;have H:=qh (And.intro I (And.intro r' ht));have LJ:(Value.slice A k cap).ownBlock≠some l:=λe=>by have:=(r'.lt l e).1;have:=HL.o.2.2;omega
      clear I r' ht;go_wp2_with (at_builtin;refine wpList_append_lies _ rfl _ _ 237 rfl w3.heap.size 113 i0 (agg #[J 0,J 0,J 0,J 0]) 4 32 Tryz.underlying237 HI.o.1 HI.o.2.1 HI.o.2.2.1 HI.o.2.2.2 rfl ahG _ _ _ rfl (H.o.2.1.alloc _) ⟨wo.heap.size,0,none⟩ 1 1 [J 0,J ((k:Int)+1),J 0,J 0] rfl rfl (nB _ _ _) ah6 ahG ?c3 ?c4 ?c5 _ rfl ?_);case c3=>unfold maxLen;omega
      case c4=>omega
      case c5=>simp;omega
      intro g3 Ks w7 h3 O MP Tf;have L7:=(H.o.1.alloc (cells #[J 0,J ((k:Int)+1),J 0,J 0] 113)).grown O (λe=>LJ e.symm);have ZF:Z w7 l 2 (.slice A k cap):=L7.cell 2;have ax:=L7.free 2;have ts:aa [l] w7 (w7.setCell ⟨l,2,none⟩ (slice (some ⟨g3,0,none⟩) (k+1) Ks)):=(aa.refl _ _).setCell (.inl ahF) _
      have M2:=qh (show Blk (w7.setCell ⟨l,2,none⟩ (slice (some ⟨g3,0,none⟩) (k+1) Ks)) l 350 #[↑a,J nx,slice (some ⟨g3,0,none⟩) (k+1) Ks]/\(w7.setCell ⟨l,2,none⟩ (slice (some ⟨g3,0,none⟩) (k+1) Ks)).ownsRow w3.heap.size 113 4 (slice (some ⟨g3,0,none⟩) (k+1) Ks) (k+1) (xs++[J 0,J ((k:Int)+1),J 0,J 0])/\aa [l] w3 (w7.setCell ⟨l,2,none⟩ (slice (some ⟨g3,0,none⟩) (k+1) Ks))from by
        have Vf:=(h3.lt g3 rfl).1;have al:=HL.o.2.2;refine⟨L7.set_ 2 _,aa.own h3 ts (λx hx=>by injection hx with hx;subst hx;simp;omega),?_⟩
        have Zq:aa [l] w3 w7:=⟨O.os.trans H.o.2.2.os,O.tape.trans H.o.2.2.tape,O.output.trans H.o.2.2.output,by have:=O.size;simp at this;omega,λi hi hn=>by
          have h9:=O.block i ahJ (λe=>by have:=(H.o.2.1.lt i e.symm).1;omega);rw[h9];have h8:=((aa.refl [l] wo).alloc (cells #[J 0,J ((k:Int)+1),J 0,J 0] 113)).block i ahE hn;rw[h8]
          exact H.o.2.2.block i hi hn⟩
        exact Zq.trans ts)
      clear h3 O MP L7 H;go_wp2;go_roundw;case rel=>exact⟨k+1,_,by go_num,by omega,M2.o.1,by rw[PH.o];exact M2.o.2.1,M2.o.2.2⟩
      case measure=>simp[intOf];omega
    . obtain rfl:k=n:=by omega
      obtain⟨q,cap,rfl,Ny,RA,Ze,hZ⟩:=tp r' h1;have H:=qh (And.intro I ht);have HZ:=qh (show SpR wo q (a5 5 k)from⟨Ze,by rw[<-Xi.o];exact hZ⟩);clear I r' ht hZ;have Pv:=qh (RW.o.turns H.o.2 (by have:=HG.o;have:=HL.o;simp;omega) (by have:=HG.o;have:=HL.o;simp;omega));go_wp2_with fail;refine(am Pv.o (nx:Int) ((k+1:Nat):Int) (by show s.ops+1<=_;have:=HO.o;omega)).mono ?_;rintro en w5 ⟨rfl,k5,t5⟩;have H5:=qh (And.intro k5 t5);clear k5 t5;go_wp2;go_ret2;have s3:=PC.o.size;have s5:=H5.o.2.size;have I:=H.o.1.lt;have s6:=H.o.2.size;have hL:=HL.o;have hG:=HG.o;have e3:(nx:Int)=(s.W.length:Int)+1:=(by omega);have ka:=H5.o.1;rw[e3,show(((k+1:Nat):Nat):Int)=(k:Int)+1 by omega]at ka;have t9:aa [a,g,l] w w5:=((PC.o.mono ahF).trans (H.o.2.mono ahF)).trans (H5.o.2.mono ahF);refine⟨⟨0,l,q,5,nx,m,k,cap⟩,rfl,?_,⟨by show w.heap.size<=l;omega,by show w.heap.size<=q;omega,rfl,rfl,hL.2.1,rfl⟩,t9.fresh λi hi=>by simp at hi ⊢;omega⟩;exact⟨ka,H5.o.2.blk H.o.1 ahJ,HZ.o.turns H5.o.2 ahJ,uW k,by show l≠a;omega,by show l≠g;omega,by show l≠q;omega,by show q≠a;omega,by show q≠g;omega,h2,by show 1<=nx;omega,by show nx<=5000;omega,JQ,ad,Ny⟩
end
section
open Go
structure Wk where
 node:Int
 way:Bool
 passed:Int
 last:Int
 found:Int
structure Cn where
 ar:Ar
 wk:Wk
 S:List Sp
def dM(n:Nat)(node:Nat->Int)(w:Wk)(x:Int):Wk:=
 if ¬(1<=x/\x<=n)\/w.passed=n then {w with way:=false}
 else if node (x-1).toNat=w.node then {w with way:=false,found:=x}
 else {w with way:=true,last:=x,passed:=w.passed+1}
def gK(n:Nat)(node:Nat->Int)(w:Wk)(x v:Int):Wk:=dM n node {w with node:=v,passed:=0,last:=0,found:=0} x
def cN(x:Int):Int:=3*x
def cS(x:Int):Int:=3*x+1
def cL(x:Int):Int:=3*x+2
def inC(s:Ar)(x:Int)(p:Sp):Ar×Sp:=
 if p.pc=1 then(ae s (cN x) 0,{p with pc:=2})
 else if p.pc=2 then(ae s (cS x) 0,{p with pc:=3})
 else if p.pc=3 then(ch s 1 x,{p with a:=ldW s.W 1,pc:=if ldW s.W 1=0 then 6 else 4})
 else if p.pc=4 then(ae s (cN p.a) x,{p with pc:=5})
 else if p.pc=5 then(af s (cS x),{p with a:=ldW s.W (cS x),pc:=if ldW s.W (cS x)≠0 then 10 else 5})
 else(ae s (cS x) (-1),{p with pc:=10})
def jA(s:Ar)(x:Int)(p:Sp):Ar×Sp:=
 if p.pc=11 then(af s (cS x),{p with b:=ldW s.W (cS x),pc:=12})
 else if p.pc=12 then(af s (cN x),{p with a:=ldW s.W (cN x),pc:=if ldW s.W (cN x)≠0 then 17 else if 0<p.b then 14 else 13})
 else if p.pc=13 then(dR s 1 x 0,{p with pc:=if cG s 1 x then 0 else 16})
 else if p.pc=14 then(af s (cL p.b),{p with c:=ldW s.W (cL p.b),pc:=15})
 else if p.pc=15 then(dR s 1 x p.c,{p with pc:=if cG s 1 x then 28 else 16})
 else(af s (cN x),{p with a:=ldW s.W (cN x),pc:=if ldW s.W (cN x)≠0 then 17 else 16})
def ez(p:Sp):Sp:={p with pc:=if 0<p.b then 25 else 29}
def me(n:Nat)(node:Nat->Int)(bud:Int)(s:Ar)(w:Wk)(i:Nat)(p:Sp):Ar×Wk×Sp:=
 if p.pc=18 then
  if w.way then
   (af s (cN w.last),dM n node w (ldW s.W (cN w.last)),
    if (dM n node w (ldW s.W (cN w.last))).way then {p with pc:=18} else if (dM n node w (ldW s.W (cN w.last))).found≠0 then {p with pc:=19} else ez p)
  else(s,w,{p with pc:=18})
 else if bud<=ldW s.W 2 then(af s 2,w,ez {p with c:=ldW s.W 2})
 else(af s 2,gK n node w p.a (node i),{p with c:=ldW s.W 2,pc:=if (gK n node w p.a (node i)).way then 18 else 23})
def dU(s:Ar)(w:Wk)(p:Sp):Ar×Sp:=
 if p.pc=19 then(ae s (cN w.last) 0,if 0<p.b then {p with pc:=20} else {p with b:=p.a,pc:=22})
 else if p.pc=20 then(af s (cL p.b),{p with c:=ldW s.W (cL p.b),pc:=21})
 else if p.pc=25 then(af s (cL p.b),{p with c:=ldW s.W (cL p.b),pc:=26})
 else if p.pc=21 then(ae s (cN p.c) p.a,{p with pc:=22})
 else if p.pc=26 then(ae s (cN p.c) p.a,{p with pc:=27})
 else if p.pc=22 then(ae s (cL p.b) w.last,{p with a:=w.found,pc:=23})
 else if p.pc=23 then(addA s 2 1,{p with pc:=24})
 else if p.pc=24 then(ae s (cS p.a) p.b,{p with pc:=0})
 else if p.pc=27 then(ae s 2 0,{p with pc:=28})
 else if p.pc=29 then(ae s 2 0,{p with pc:=30})
 else if p.pc=28 then(ae s (cS p.b) (-1),{p with pc:=0})
 else(ae s (cS p.a) (-1),{p with pc:=0})
def ah(n:Nat)(node:Nat->Int)(bud:Int)(h:Cn)(i:Nat)(p:Sp):Ar×Wk×Sp:=
 if p.pc<10 then((inC h.ar (i+1) p).1,h.wk,(inC h.ar (i+1) p).2)
 else if p.pc<=16 then((jA h.ar (i+1) p).1,h.wk,(jA h.ar (i+1) p).2)
 else if p.pc<=18 then me n node bud h.ar h.wk i p
 else((dU h.ar h.wk p).1,h.wk,(dU h.ar h.wk p).2)
def fD(n:Nat)(node:Nat->Int)(bud:Int)(h:Cn)(i:Int):Cn×Bool:=
 if okI h.S i/\(getS h.S i).pc≠0/\(getS h.S i).pc≠10 then
  (⟨(ah n node bud h i.toNat (getS h.S i)).1,(ah n node bud h i.toNat (getS h.S i)).2.1,h.S.set i.toNat (ah n node bud h i.toNat (getS h.S i)).2.2⟩,
   decide ((ah n node bud h i.toNat (getS h.S i)).2.2.pc=0\/(ah n node bud h i.toNat (getS h.S i)).2.2.pc=10))
 else(h,false)
def bN(h:Cn)(i JR Jv:Int):Cn×Bool:=
 if okI h.S i/\(getS h.S i).pc=JR then(⟨h.ar,h.wk,h.S.set i.toNat {getS h.S i with pc:=Jv}⟩,true)else(h,false)
def num(t:Nat):Int:=(t:Int)+1
section
variable{t:Nat}
end
section
variable{P:Nat->Nat->Prop}{l m:List Nat}
end
end
section
open Go.RowKit
def wkC(J6:Value)(n1 n:Nat)(x:Wk):Array Value:=#[J6,slice (some ⟨n1,0,none⟩) n n,J x.node,.bool x.way,J x.passed,J x.last,J x.found]
structure cK(w:World)(k n1:Nat)(J6:Value)(nd:List Int)(x:Wk):Prop where
 blk:Blk w k 324 (wkC J6 n1 nd.length x)
 row:Blk w n1 3 (nd.map (Value.int .i64)).toArray
 ne:k≠n1
 n32:nd.length<=32
def ndf(nd:List Int)(t:Nat):Int:=nd.getD t 0
section
variable{w':World}{n1:Nat}{J6:Value}{nd:List Int}{x:Wk}
def cK.c0(h:cK w k n1 J6 nd x):w.cell? k=some J6:=h.blk.cell 0
def cK.c1(h:cK w k n1 J6 nd x):Z w k 1 (slice (some ⟨n1,0,none⟩) nd.length nd.length):=h.blk.cell 1
def cK.c2(h:cK w k n1 J6 nd x):Z w k 2 (J x.node):=h.blk.cell 2
def cK.c3(h:cK w k n1 J6 nd x):Z w k 3 (.bool x.way):=h.blk.cell 3
def cK.c4(h:cK w k n1 J6 nd x):Z w k 4 (J x.passed):=h.blk.cell 4
def cK.c5(h:cK w k n1 J6 nd x):Z w k 5 (J x.last):=h.blk.cell 5
def cK.c6(h:cK w k n1 J6 nd x):Z w k 6 (J x.found):=h.blk.cell 6
def cK.nat(h:cK w k n1 J6 nd x)(hm:m<nd.length):Z w n1 m (J (ndf nd m)):=by rw[h.row.cell m];unfold ndf;simp[List.getD_eq_getElem?_getD,List.getElem?_eq_getElem hm]
def cK.turns{S:List Nat}(h:cK w k n1 J6 nd x)(t:aa S w w')(h1:k∉S)(H:n1∉S):cK w' k n1 J6 nd x:=⟨t.blk h.blk h1,t.blk h.row H,h.ne,h.n32⟩
def cK.below(h:cK w k n1 J6 nd x)(t:Below w.heap.size w w'):cK w' k n1 J6 nd x:=h.turns (aa.of_below (S:=[]) t) ahF ahF
def cK.put(h:cK w k n1 J6 nd x){i:Nat}{v:Value}{x':Wk}(e:(wkC J6 n1 nd.length x).setIfInBounds i v=wkC J6 n1 nd.length x'):cK (w.setCell ⟨k,i,none⟩ v) k n1 J6 nd x':=by refine⟨?_,h.row.far (λe=>h.ne e.symm) _,h.ne,h.n32⟩;have:=h.blk.set_ i v;exact aa2
def fw(w:World)(i:Nat)(v:Value):aa [k] w (w.setCell ⟨k,i,none⟩ v):=(aa.refl _ _).setCell (.inl ahF) _
def isW(h:cK w k n1 J6 nd x)(y:Int)(b:Bool)(I:decide (1<=y/\y<=nd.length)=b):E 329 #[↑k,J y] w λe w'=>e= returned (.bool b)/\w=w':=by
 have c1:=h.c1;have HB:=qh I;clear h I;by_cases h1:1<=y;.go_enter func329,ntmps329;go_wp2;go_ret;exact⟨aA (by rw[<-HB.o];simp[h1]),rfl⟩
 .go_enter func329,ntmps329;exact aap
def Ej(w:World)(k n1:Nat)(J6:Value)(nd:List Int)(x':Wk)(e:Ending)(w':World):Prop:=e= returned (bool (!x'.way))/\cK w' k n1 J6 nd x'/\aa [k] w w'
def Ci(h:cK w k n1 J6 nd x)(V:0<=x.passed/\x.passed<=32)(y:Int):E 327 #[↑k,J y] w (Ej w k n1 J6 nd (dM nd.length (ndf nd) x y)):=by
 have hd:=qh (λm=>h.below (Qt.below ⟨m,rfl⟩ _));obtain⟨JW,ab⟩:=V;have hk:=h.blk.lt;have hn:=h.n32;by_cases h1:1<=y/\y<=nd.length
 .have HI:=qh (λW (h:cK W k n1 J6 nd x)=>isW h y true (decide_eq_true h1));have c1:=h.c1;have c3:=h.c3;have c4:=h.c4;have c5:=h.c5;have c6:=h.c6;have z3:=h.blk.free 3;by_cases H:x.passed=nd.length;.have Y:(x.passed==(nd.length:Int))=true:=(by simpa using H);have HT:Kq (dM nd.length (ndf nd) x y={x with way:=false}):=qh (by unfold dM;rw[if_pos (.inr H)]);clear h H;exact abf
  .have Y:(x.passed==(nd.length:Int))=false:=(by simpa using H);obtain⟨ZQ,ZR⟩:=h1;obtain⟨m,rfl⟩:∃m:Nat,y=(m:Int)+1:=⟨(y-1).toNat,by omega⟩;have hm:m<nd.length:=(by omega);have Rm:(m:Int)<(nd.length:Int):=(by omega);have c2:=h.c2;have cn:=h.nat hm;have z4:=h.blk.free 4;have z5:=h.blk.free 5;have z6:=h.blk.free 6;have kn:=h.ne;have x1:IntKind.i64.wrap (x.passed+1)=x.passed+1:=IntWalk.i64_in _ ahE;by_cases I:ndf nd m=x.node;.have t5:(ndf nd m==x.node)=true:=(by simpa using I);have HT:Kq (dM nd.length (ndf nd) x ((m:Int)+1)={x with way:=false,found:=(m:Int)+1}):=qh (by unfold dM;rw[if_neg ahE,if_pos (by rw[show((m:Int)+1-1).toNat=m by omega];exact I)]);have O:=qh h;clear h H I;go_enter func327,ntmps327;go_wp2_with fail;go_quiet ((go_at_call 329;exact bG (HI.o _ (hd.o _))));go_wp2;go_quiet (fail);go_wp2;go_ret;rw[HT.o];refine⟨rfl,?_,((aa.of_qt ⟨_,rfl⟩).trans (fw _ _ _)).trans (fw _ _ _)⟩;exact(cK.put (x':={x with way:=false}) (hd.o _) rfl).put rfl
   .have t5:(ndf nd m==x.node)=false:=(by simpa using I);have HT:Kq (dM nd.length (ndf nd) x ((m:Int)+1)={x with way:=true,last:=(m:Int)+1,passed:=x.passed+1}):=qh (by unfold dM;rw[if_neg ahE,if_neg (by rw[show((m:Int)+1-1).toNat=m by omega];exact I)]);have O:=qh h;clear h H I;go_enter func327,ntmps327;go_wp2_with fail;go_quiet ((go_at_call 329;exact bG (HI.o _ (hd.o _))));go_wp2;go_quiet (fail);go_wp2;go_ret;rw[HT.o];refine⟨rfl,?_,(((aa.of_qt ⟨_,rfl⟩).trans (fw _ _ _)).trans (fw _ _ _)).trans (fw _ _ _)⟩;exact(cK.put (x':={x with way:=true,last:=(m:Int)+1}) (cK.put (x':={x with way:=true}) (hd.o _) rfl) rfl).put rfl
 .have HI:=qh (λW (h:cK W k n1 J6 nd x)=>isW h y false (decide_eq_false h1));have c3:=h.c3;have z3:=h.blk.free 3;have HT:Kq (dM nd.length (ndf nd) x y={x with way:=false}):=qh (by unfold dM;rw[if_pos (.inl h1)]);clear h h1;exact abf
def CG(h:cK w k n1 J6 nd x)(y v:Int):E 323 #[↑k,J y,J v] w (Ej w k n1 J6 nd (gK nd.length (ndf nd) x y v)):=by have H:cK (w.setCell ⟨k,2,none⟩ (J v)) k n1 J6 nd {x with node:=v}:=h.put rfl;have I:cK _ k n1 J6 nd {x with node:=v,passed:=0}:=H.put (i:=4) (v:= J 0) rfl;have O:cK _ k n1 J6 nd {x with node:=v,passed:=0,last:=0}:=I.put (i:=5) (v:= J 0) rfl;have V:cK _ k n1 J6 nd {x with node:=v,passed:=0,last:=0,found:=0}:=O.put (i:=6) (v:= J 0) rfl;have Y:=qh V;have z2:=h.blk.free 2;have z4:=h.blk.free 4;have z5:=h.blk.free 5;have z6:=h.blk.free 6;have hk:=h.blk.lt;have c2:=h.c2;have c4:=h.c4;have c5:=h.c5;have c6:=h.c6;clear h H I O V;go_enter func323,ntmps323;go_wp2_with fail;refine Op (Ci Y.o ⟨Int.le_refl _,by show(0:Int)<=32;decide⟩ y) λw1 h1=>?_;have H1:=qh (And.intro h1.o.1 ((((fw (k:=k) w 2 (J v)).trans (fw _ 4 (J 0))).trans (fw _ 5 (J 0))).trans (fw _ 6 (J 0)) |>.trans h1.o.2));exact abg
def Hz(h:cK w k n1 J6 nd x):E 328 #[↑k] w λe w'=>e= returned (bool (!x.way))/\w=w':=by have c3:=h.c3;clear h;go_enter func328,ntmps328;exact aaa
def qG(h:cK w k n1 J6 nd x):E 325 #[↑k] w λe w'=>e= returned (J x.found)/\w=w':=by have c3:=h.c6;clear h;go_enter func325,ntmps325;exact aaa
def uK(h:cK w k n1 J6 nd x):E 326 #[↑k] w λe w'=>e= returned (J x.last)/\w=w':=by have c3:=h.c5;clear h;go_enter func326,ntmps326;exact aaa
end
end
section
open Go
variable{h:Cn}
def aN(W:List Int)(x:Int):Int:=if 1<=x then ldW W (cN x)else 0
def aS(W:List Int)(x:Int):Int:=if 1<=x then ldW W (cS x)else 0
def aL(W:List Int)(x:Int):Int:=if 1<=x then ldW W (cL x)else 0
def WkB(n:Nat)(w:Wk):Prop:=(0<=w.last/\w.last<=n)/\(0<=w.found/\w.found<=n)/\0<=w.passed/\w.passed<=n
theorem tQ{node:Nat->Int}{w:Wk}(hw:WkB n w)(x:Int):WkB n (dM n node w x)/\((dM n node w x).way=true->1<=(dM n node w x).last)/\(1<=w.last->1<=(dM n node w x).last):=by
 unfold dM;repeat' split
 all_goals grind [WkB]
abbrev F3(S:Int->Int)(σ:Nat->Sp):Nat->Prop:=i6 6 (λv=>v≠0) S σ
structure CtI(n:Nat)(t:Int)(N S L:Int->Int)(w:Wk)(σ:Nat->Sp):Prop where
 tk:ja n (F3 S σ) (t=0)
 v1:0<=t/\t<=n
 vN:∀x:Int,1<=x->x<=n->0<=N x/\N x<=n
 vL:∀x:Int,1<=x->x<=n->0<=L x/\L x<=n
 vS:∀x:Int,1<=x->x<=n->-1<=S x/\S x<=n/\(0<S x->1<=L (S x))
 wb:WkB n w
 pcs:∀i,i<n->(0<=(σ i).pc/\(σ i).pc<=6)\/(10<=(σ i).pc/\(σ i).pc<=30)
 sp:∀i,i<n->(-1<=(σ i).a/\(σ i).a<=n)/\(-1<=(σ i).b/\(σ i).b<=n)
 a1:∀i,i<n->(σ i).pc=4\/(17<=(σ i).pc/\(σ i).pc≠28)->1<=(σ i).a
 b1:∀i,i<n->(14<=(σ i).pc/\(σ i).pc<=15)\/(20<=(σ i).pc/\(σ i).pc<=22)\/(25<=(σ i).pc/\(σ i).pc<=28)->1<=(σ i).b
 c1:∀i,i<n->(σ i).pc=15\/(σ i).pc=21\/(σ i).pc=26->1<=(σ i).c/\(σ i).c<=n
 gd:∀i,i<n->12<=(σ i).pc/\(σ i).pc≠22->0<(σ i).b->1<=L (σ i).b
 w1:∀i,i<n->18<=(σ i).pc/\(σ i).pc<=22->1<=w.last
 w3:∀i,i<n->(σ i).pc=18->w.way=true
 w2:∀i,i<n->19<=(σ i).pc/\(σ i).pc<=22->1<=w.found
structure CtS(n:Nat)(h:Cn):Prop where
 i:CtI n (ldW h.ar.W 1) (aN h.ar.W) (aS h.ar.W) (aL h.ar.W) h.wk (sv h.S)
 len:h.S.length=n
 wln:h.ar.W.length=2+3*n
section
variable{t':Int}{N' S S' L L':Int->Int}{w w':Wk}{σ σ':Nat->Sp}
theorem CtI.upd(h:CtI n t N S L w σ){i:Nat}{p:Sp}(hi:i<n)(hs:∀j,σ' j=if j=i then p else σ j)(ht:ja n (F3 S' σ') (t'=0))(v1:0<=t'/\t'<=n)(vN:∀x:Int,1<=x->x<=n->N' x=N x\/(0<=N' x/\N' x<=n))(vL:∀x:Int,1<=x->x<=n->L' x=L x\/(1<=L' x/\L' x<=n))(vS:∀x:Int,1<=x->x<=n->S' x=S x\/(-1<=S' x/\S' x<=n/\(0<S' x->1<=L (S' x))))(hw:WkB n w')(H':(0<=p.pc/\p.pc<=6)\/(10<=p.pc/\p.pc<=30))(hp:(-1<=p.a/\p.a<=n)/\(-1<=p.b/\p.b<=n))(ha:p.pc=4\/(17<=p.pc/\p.pc≠28)->1<=p.a)(I:(14<=p.pc/\p.pc<=15)\/(20<=p.pc/\p.pc<=22)\/(25<=p.pc/\p.pc<=28)->1<=p.b)(hc:p.pc=15\/p.pc=21\/p.pc=26->1<=p.c/\p.c<=n)(hg:12<=p.pc/\p.pc≠22->0<p.b->1<=L' p.b)(Ni:18<=p.pc/\p.pc<=22->1<=w'.last)(LY:p.pc=18->w'.way=true)(TC:19<=p.pc/\p.pc<=22->1<=w'.found)(ab:w'=w\/10<=(σ i).pc):CtI n t' N' S' L' w' σ':=by
  have Y:σ' i=p:=by rw[hs,if_pos rfl]
  have V:∀j,j≠i->σ' j=σ j:=λj e=>by rw[hs,if_neg e]
  refine⟨ht,v1,λx h1 O=>?_,λx h1 O=>?_,λx h1 O=>?_,hw,?_,?_,?_,?_,?_,?_,?_,?_,?_⟩;. grind [h.vN x h1 O]
  . grind [h.vL x h1 O]
  . have h3:=h.vS x h1 O;have h4:=vL (S' x);have h5:=vS x h1 O;grind
  all_goals
    intro j H;have h1:=h.sp j H;have O:=h.pcs j H;have h3:=h.a1 j H;have h4:=h.b1 j H;have h5:=h.c1 j H;have h6:=h.gd j H;have h7:=h.w1 j H;have h8:=h.w2 j H;have Nx:=h.w3 j H;have h9:=vL (σ j).b;have h10:=h.tk.one i j hi H;by_cases e:j=i;. subst e;rw[Y];grind
    . rw[V j e];grind [i6]
def n4(wl:W.length=m)(a v b:Int):ldW (stW W a v) b=if b=a/\1<=a/\a<=m then v else ldW W b:=by exact abj
theorem wq(wl:W.length=2+3*n)(x v:Int)(h1:1<=x)(H:x<=n):ldW (stW W (cN x) v) 1=ldW W 1/\aN (stW W (cN x) v)=updF (aN W) x v/\aS (stW W (cN x) v)=aS W/\aL (stW W (cN x) v)=aL W:=by simp only[funext_iff,updF,aN,aS,aL,n4 wl,cN,cS,cL];refine⟨?_,λy=>?_,λy=>?_,λy=>?_⟩<;>grind
theorem wt(wl:W.length=2+3*n)(x v:Int)(h1:1<=x)(H:x<=n):ldW (stW W (cS x) v) 1=ldW W 1/\aN (stW W (cS x) v)=aN W/\aS (stW W (cS x) v)=updF (aS W) x v/\aL (stW W (cS x) v)=aL W:=by simp only[funext_iff,updF,aN,aS,aL,n4 wl,cN,cS,cL];refine⟨?_,λy=>?_,λy=>?_,λy=>?_⟩<;>grind
theorem wj(wl:W.length=2+3*n)(x v:Int)(h1:1<=x)(H:x<=n):ldW (stW W (cL x) v) 1=ldW W 1/\aN (stW W (cL x) v)=aN W/\aS (stW W (cL x) v)=aS W/\aL (stW W (cL x) v)=updF (aL W) x v:=by simp only[funext_iff,updF,aN,aS,aL,n4 wl,cN,cS,cL];refine⟨?_,λy=>?_,λy=>?_,λy=>?_⟩<;>grind
theorem wg(wl:W.length=2+3*n)(v:Int):ldW (stW W 1 v) 1=v/\aN (stW W 1 v)=aN W/\aS (stW W 1 v)=aS W/\aL (stW W 1 v)=aL W:=by simp only[funext_iff,aN,aS,aL,n4 wl,cN,cS,cL];refine⟨?_,λy=>?_,λy=>?_,λy=>?_⟩<;>grind
theorem wh(wl:W.length=2+3*n)(v:Int):ldW (stW W 2 v) 1=ldW W 1/\aN (stW W 2 v)=aN W/\aS (stW W 2 v)=aS W/\aL (stW W 2 v)=aL W:=by simp only[funext_iff,aN,aS,aL,n4 wl,cN,cS,cL];refine⟨?_,λy=>?_,λy=>?_,λy=>?_⟩<;>grind
theorem CtS.go(k:CtS n h)(node:Nat->Int)(bud:Int){i:Nat}(hi:i<n){p:Sp}(O:p=sv h.S i)(h0:¬(p.pc=0\/p.pc=10)){r:Ar×Wk×Sp}(V:r=ah n node bud h i p):CtS n ⟨r.1,r.2.1,h.S.set i r.2.2⟩:=by
 have H:=k.i;have hs:∀q,sv (h.S.set i q)=λj=>if j=i then q else sv h.S j:=λq=>by funext j;rw[ba];grind [k.len]
 have lN:∀x,1<=x->ldW h.ar.W (cN x)=aN h.ar.W x:=λx hx=>by unfold aN;rw[if_pos hx]
 have lS:∀x,1<=x->ldW h.ar.W (cS x)=aS h.ar.W x:=λx hx=>by unfold aS;rw[if_pos hx]
 have lL:∀x,1<=x->ldW h.ar.W (cL x)=aL h.ar.W x:=λx hx=>by unfold aL;rw[if_pos hx]
 have h1:=H.sp i hi;have h2:=H.pcs i hi;have h3:=H.a1 i hi;have h4:=H.b1 i hi;have h5:=H.c1 i hi;have h6:=H.gd i hi;have h7:=H.w1 i hi;have h8:=H.w2 i hi;have h9:=H.w3 i hi;have v1:=H.v1;have wb:=H.wb;have ab:=wb.1;have ad:=wb.2.1;have tk:=tQ (node:=node) wb;have bk:∀x v,WkB n (gK n node h.wk x v)/\((gK n node h.wk x v).way=true->1<=(gK n node h.wk x v).last):=λx v=>by have:=tQ (n:=n) (node:=node) (w:={h.wk with node:=v,passed:=0,last:=0,found:=0}) (by unfold WkB;simp) x;unfold gK;exact⟨this.1,this.2.1⟩
 have Y:∀y,cG h.ar 1 y=decide (ldW h.ar.W 1=y):=λy=>by unfold cG;rw[aR.2 (by rw[k.wln];omega)];rfl
 obtain⟨x,hx⟩:=LE (numT i);have YZ:(i:Int)+1=x:=hx.symm;have I:1<=x/\x<=n:=by unfold numT at hx;omega
 have fN:=H.vN x I.1 I.2;have fS:=H.vS x I.1 I.2;have fL:=H.vL p.b;rw[<-O]at h1 h2 h3 h4 h5 h6 h7 h8 h9;have hq:(sv h.S i).pc=p.pc:=by rw[O]
 obtain⟨pc,a,b,z⟩:=p;simp only at h1 h2 h3 h4 h5 h6 h7 h8 h9 h0 fL hq;have hc:pc=1\/pc=2\/pc=3\/pc=4\/pc=5\/pc=6\/pc=11\/pc=12\/pc=13\/pc=14\/pc=15\/pc=16\/pc=17\/pc=18\/pc=19\/pc=20\/pc=21\/pc=22\/pc=23\/pc=24\/pc=25\/pc=26\/pc=27\/pc=28\/pc=29\/pc=30:=by omega
 rcases hc with rfl|rfl|rfl|rfl|rfl|rfl|rfl|rfl|rfl|rfl|rfl|rfl|rfl|rfl|rfl|rfl|rfl|rfl|rfl|rfl|rfl|rfl|rfl|rfl|rfl|rfl
 all_goals simp[ah,inC,jA,me,dU,ez,YZ,Y,lN x I.1,lS x I.1]at V;repeat' split at V
 all_goals subst V;refine⟨?_,by simp[k.len],?_⟩
 all_goals try simp only[aw,aP,dK,dT,gL]
 all_goals try first|(simp only[bI,k.wln];done)|(split<;>simp only[bI,k.wln];done)
 all_goals clear O
 all_goals try simp only[Y,decide_eq_true_eq]
 all_goals try first|rw[if_pos ahW]|rw[if_neg ahW]
 all_goals try first
  |rw[(wq k.wln _ _ ahE ahE).1,(wq k.wln _ _ ahE ahE).2.1,(wq k.wln _ _ ahE ahE).2.2.1,(wq k.wln _ _ ahE ahE).2.2.2]
  |rw[(wt k.wln _ _ ahE ahE).1,(wt k.wln _ _ ahE ahE).2.1,(wt k.wln _ _ ahE ahE).2.2.1,(wt k.wln _ _ ahE ahE).2.2.2]
  |rw[(wj k.wln _ _ ahE ahE).1,(wj k.wln _ _ ahE ahE).2.1,(wj k.wln _ _ ahE ahE).2.2.1,(wj k.wln _ _ ahE ahE).2.2.2]
  |rw[(wg k.wln _).1,(wg k.wln _).2.1,(wg k.wln _).2.2.1,(wg k.wln _).2.2.2]
  |rw[(wh k.wln _).1,(wh k.wln _).2.1,(wh k.wln _).2.2.1,(wh k.wln _).2.2.2]
 all_goals try rw[lL b ahE]
 all_goals refine H.upd hi (λj=>congrFun (hs _) j) ?_ ?_ ?_ ?_ ?_ ?_ ?_ ?_ ?_ ?_ ?_ ?_ ?_ ?_ ?_ ?_
 all_goals try dsimp only
 all_goals try omega
 all_goals try exact λ_ _ _=> .inl rfl
 all_goals try (intro y _ _;simp only[updF];split;(right;omega);exact .inl rfl)
 all_goals try first|exact .inl rfl|(right;omega)
 all_goals try first
  |exact H.tk.own hi (λj=>congrFun (hs _) j) ahE aiP air
  |exact H.tk.o hi (λj=>congrFun (hs _) j) ahE ahG ahS ait
  |exact H.tk.low hi (λj=>congrFun (hs _) j) (by first|exact .inl ahS|exact .inr (.inl ⟨by dsimp only;omega,by rw[<-hx,gI];simp⟩)|exact .inr (.inr ⟨by omega,by dsimp only;omega,rfl⟩)) ahG aiP
  |exact H.tk.door hi (λj=>congrFun (hs _) j) ahE ahS ahE
  |exact H.tk.ent hi (λj=>congrFun (hs _) j) ahE (by rw[<-hx];assumption)
 all_goals grind [dM,gK,updF]
def gF{S:List Sp}{i:Nat}(h:i<S.length):getS S (i:Int)=sv S i:=by unfold getS sv;rw[if_pos ⟨by omega,by omega⟩,Int.toNat_natCast]
def CtS.step(k:CtS n h)(node:Nat->Int)(bud:Int){i:Nat}(hi:i<n):CtS n (fD n node bud h i).1:=by
 unfold fD;split;.rename_i hc;rw[gF (by rw[k.len];exact hi),Int.toNat_natCast]at *;exact k.go node bud hi rfl ahE rfl
 .exact k
theorem CtS.beg(k:CtS n h){i:Nat}(hi:i<n){u:Int}(H:(u=0/\v=1)\/(u=10/\v=11)):CtS n (bN h i u v).1:=by
 unfold bN;split
 .rename_i hc;rw[gF (by rw[k.len];exact hi),Int.toNat_natCast]at *;have hs:∀j,sv (h.S.set i {sv h.S i with pc:=v}) j=if j=i then {sv h.S i with pc:=v} else sv h.S j:=λj=>by rw[ba];grind [k.len]
  refine⟨?_,by simp[k.len],k.wln⟩;refine k.i.upd hi hs ?_ k.i.v1 (λ_ _ _=> .inl rfl) (λ_ _ _=> .inl rfl) (λ_ _ _=> .inl rfl) k.i.wb ahS (k.i.sp i hi) ?_ ?_ ?_ ?_ ?_ ?_ ?_ (.inl rfl)
  .rcases H with⟨rfl,rfl⟩|⟨rfl,rfl⟩
   .exact k.i.tk.low hi hs (.inl ahS) ahG (λ_ _=>rfl)
   .exact k.i.tk.own hi hs ahE (λ_ _=>rfl) (.inl rfl)
  all_goals (dsimp only;intros;omega)
 .exact k
def CtS.one(k:CtS n h){i:Nat}(hi:i<n)(H:j<n)(h1:(sv h.S i).pc=10)(I:(sv h.S j).pc=10):i=j:=k.i.tk.one i j hi H (.inl ahE) (.inl ahE)
end
end
end Go.Proofs.YtglokdbiggbkjaaGreat
