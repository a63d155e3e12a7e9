/- Joined texts. -/
import Derived.Test.YtglokdbiggbkjaaGreatMgBoltLoops0
import Derived.Test.YtglokdbiggbkjaaGreatMgBoltLoops2
import Derived.Test.YtglokdbiggbkjaaGreatMgBoltLoops6
set_option linter.unusedVariables false
set_option linter.unusedSimpArgs false
set_option linter.defProp false
set_option maxRecDepth 100000
set_option maxHeartbeats 16000000
open Go.Proofs.Tryz
namespace Go.Proofs.YtglokdbiggbkjaaGreat
open Go.IntKind(i64)
open Go.Value(int bool slice agg tuple pointer)
open Go.Ending(returned)
open Go.Obj(cells)
variable{n i j:Nat}{t x v:Int}{S f f':Int->Int}
section
open Go
structure jl(n:Nat)(T:Nat->Prop)(t0:Prop):Prop where
 one:∀i j,i<n->j<n->T i->T j->i=j
 tl:t0->∀i,i<n->¬T i
def numT(t:Nat):Int:=(t:Int)+1
def jg(lo:Int)(G:Int->Prop)(S:Int->Int)(σ:Nat->Sp)(i:Nat):Prop:=lo<=(σ i).pc\/(3<=(σ i).pc/\G (S (numT i)))
def updF(f:Int->Int)(x v y:Int):Int:=if y=x then v else f y
section
variable{lo t':Int}{G:Int->Prop}{S':Int->Int}{σ σ':Nat->Sp}{p:Sp}
def i7{i j:Nat}(h:numT i=numT j):i=j:=by unfold numT at h;omega
theorem jl.own(h:jl n (jg lo G S σ) (t=0))(hi:i<n)(hs:∀j,σ' j=if j=i then p else σ j)(h1:lo<=(σ i).pc)(V:∀k,k≠numT i->S' k=S k)(Y:t'=t\/t'≠0):jl n (jg lo G S' σ') (t'=0):=by have H:=h.one;have I:=h.tl;have O:=λj=>@i7 j i;refine⟨?_,?_⟩<;>grind [jg]
theorem jl.o(h:jl n (jg lo G S σ) (t=0))(hi:i<n)(hs:∀j,σ' j=if j=i then p else σ j)(h1:lo<=(σ i).pc)(H:3<=lo)(hp:p.pc<3)(Y:(∀k,S' k=S k)\/((∃y,∀k,k≠y->S' k=S k)/\t'=t)):jl n (jg lo G S' σ') (t'=0):=by have I:=h.one;have O:=h.tl;have V:=λj k=>@i7 j k;refine⟨?_,?_⟩<;>grind [jg]
theorem jl.low(h:jl n (jg lo G S σ) (t=0))(hi:i<n)(hs:∀j,σ' j=if j=i then p else σ j)(h1:p.pc<3\/(p.pc<lo/\¬G (S' (numT i)))\/(3<=(σ i).pc/\p.pc<lo/\S' (numT i)=S (numT i)))(H:3<=lo)(Y:∀k,k≠numT i->S' k=S k):jl n (jg lo G S' σ') (t=0):=by have I:=h.one;have O:=h.tl;have V:=λj=>@i7 j i;refine⟨?_,?_⟩<;>grind [jg]
theorem jl.door(h:jl n (jg lo G S σ) (t=0))(hi:i<n)(hs:∀j,σ' j=if j=i then p else σ j)(h1:3<=(σ i).pc)(O:t≠0->p.pc<lo)(V:t'≠0):jl n (jg lo G S σ') (t'=0):=by have H:=h.one;have I:=h.tl;refine⟨?_,?_⟩<;>grind [jg]
theorem jl.ent(h:jl n (jg lo G S σ) (t=0))(hi:i<n)(hs:∀j,σ' j=if j=i then p else σ j)(h1:3<=(σ i).pc)(hg:G (S (numT i))):jl n (jg lo G S σ') (t=0):=by have H:=h.one;have I:=h.tl;refine⟨?_,?_⟩<;>grind [jg]
def gS(f:Int->Int)(x v:Int):updF f x v x=v:=if_pos rfl
def eG(f:Int->Int){y:Int}(h:y≠x):updF f x v y=f y:=if_neg h
end
end
section
open Go
variable{p:Sp}
def fN(t:Int)(n:Nat)(f:Int->Int)(x:Int):Int:=if 1<=x/\x<=n then f (mNx t x)else 0
def fW(t:Int)(n:Nat)(f:Int->Int)(x:Int):Int:=if 1<=x/\x<=n then f (mWt t x)else 0
abbrev Fs(S:Int->Int)(σ:Nat->Sp):Nat->Prop:=jg 10 (λv=>v=0) S σ
structure McA(n:Nat)(t:Int)(N S:Int->Int)(σ:Nat->Sp):Prop where
 tk:jl n (Fs S σ) (t=0)
 vt:0<=t/\t<=n
 z:∀i,i<n->(σ i).pc=3\/(σ i).pc=4->S (numT i)=1
 n2:∀i,i<n->(σ i).pc=2\/(σ i).pc=3->N (numT i)=0
 tl:∀i,i<n->t=numT i->4<=(σ i).pc/\N t=0
 l:∀i,i<n->(σ i).pc=4->(1<=(σ i).a/\(σ i).a<=n)/\t≠(σ i).a/\N (σ i).a=0/\∀j,j<n->numT j=(σ i).a->4<=(σ j).pc/\j≠i
 u4:∀i j,i<n->j<n->(σ i).pc=4->(σ j).pc=4->(σ i).a=(σ j).a->i=j
 nx:∀j,j<n->4<=(σ j).pc->N (numT j)≠0->(1<=N (numT j)/\N (numT j)<=n)/\∀i,i<n->numT i=N (numT j)->(σ i).pc=5/\S (numT i)=1
 u:∀j k,j<n->k<n->4<=(σ j).pc->4<=(σ k).pc->N (numT j)≠0->N (numT j)=N (numT k)->j=k
 s14:∀i,i<n->(σ i).pc=14->N (numT i)=(σ i).a/\(σ i).a≠0
section
theorem qm(hf:∀y,f' y=if y=mNx t x then v else f y)(h:1<=x/\x<=n):f' t=f t/\fN t n f'=updF (fN t n f) x v/\fW t n f'=fW t n f:=by exact aa1
theorem qo(hf:∀y,f' y=if y=mWt t x then v else f y)(h:1<=x/\x<=n):f' t=f t/\fN t n f'=fN t n f/\fW t n f'=updF (fW t n f) x v:=by exact aa1
theorem By(h:∀y,f' y=if y=t then v else f y):f' t=v/\fN t n f'=fN t n f/\fW t n f'=fW t n f:=by simp only[funext_iff,fN,fW,h,mNx,mWt];exact aa2
def Bw(h:∀y,t<=y->y<t+(1+2*(n:Int))->f' y=f y):fN t n f'=fN t n f/\fW t n f'=fW t n f:=by
 refine⟨funext λx=>?_,funext λx=>?_⟩
 .unfold fN mNx;split;.exact h _ ahB ahB
  .rfl
 .unfold fW mWt;split;.exact h _ ahB ahB
  .rfl
end
theorem McA.beg{N:Int->Int}{σ V:Nat->Sp}(k:McA n t N S σ)(hi:i<n)(he:∀j,V j=if j=i then p else σ j)(hp:((σ i).pc=10/\p.pc=11)\/((σ i).pc=0/\p.pc=1)):McA n t N S V:=by
 obtain⟨tk,vt,z,n2,tl,l,u4,nx,u,s14⟩:=k;refine⟨?_,vt,?_,?_,?_,?_,?_,?_,?_,?_⟩;.exact aa3
 .intro j H;have e:=he j;have q:=z j H;clear tk z n2 tl l u4 nx u s14 he;grind
 .intro j H;have e:=he j;have q:=n2 j H;clear tk z n2 tl l u4 nx u s14 he;grind
 .intro j H;have e:=he j;have q:=tl j H;clear tk z n2 tl l u4 nx u s14 he;grind
 .intro j H h4;have e:=he j;have MW:j≠i:=λh=>by rw[if_pos h]at e;rw[e]at h4;omega
  rw[if_neg MW]at e;obtain⟨q1,q2,q3,q4⟩:=l j H (by rw[<-e];exact h4);rw[e];refine⟨q1,q2,q3,λk O Y=>?_⟩;have:=q4 k O Y;have:=he k;clear tk z n2 tl l u4 nx u s14 he;grind
 .intro j k H O;have e:=he j;have e2:=he k;have q:=u4 j k H O;clear tk z n2 tl l u4 nx u s14 he;grind
 .intro j H h4 h5;have e:=he j;have h6:4<=(σ j).pc:=by clear tk z n2 tl l u4 nx u s14 he;grind
  have:=nx j H h6 h5;refine⟨this.1,λk O Y=>?_⟩;have q:=this.2 k O Y;have:=he k;clear tk z n2 tl l u4 nx u s14 he;grind
 .intro j k H O h1 h2;have e:=he j;have e2:=he k;have q:=u j k H O;clear tk z n2 tl l u4 nx u s14 he;grind
 .intro j H;have e:=he j;have q:=s14 j H;clear tk z n2 tl l u4 nx u s14 he;grind
theorem McA.go{s:Ar}{S:List Sp}(k:McA n (ldW s.W t) (fN t n (ldW s.W)) (fW t n (ldW s.W)) (sv S))(hi:i<n)(len:S.length=n)(own:∀x v,t<=x->x<=t+2*n->∀y,ldW (stW s.W x v) y=if y=x then v else ldW s.W y)(ab:inR s.W t=true)(hp:p=sv S i)(hc:(0<=p.pc/\p.pc<=5)\/(10<=p.pc/\p.pc<=14)){r:Ar×Sp}(I:r=mF t s i p):McA n (ldW r.1.W t) (fN t n (ldW r.1.W)) (fW t n (ldW r.1.W)) (sv (S.set i r.2))/\∀y,¬(t<=y/\y<=t+2*n)->ldW r.1.W y=ldW s.W y:=by
  have hs:∀q,sv (S.set i q)=λj=>if j=i then q else sv S j:=λq=>by funext j;rw[be];grind
  have ex:((i:Nat):Int)+1=numT i:=rfl;have KY:1<=numT i/\numT i<=n:=by unfold numT;omega
  have MI:cJ s t (numT i)=decide (ldW s.W t=numT i):=by unfold cJ;rw[ab];rfl
  have lN:ldW s.W (mNx t (numT i))=fN t n (ldW s.W) (numT i):=by unfold fN;rw[if_pos KY]
  have lW:ldW s.W (mWt t (numT i))=fW t n (ldW s.W) (numT i):=by unfold fW;rw[if_pos KY]
  have inj:=λj k=>@i7 j k;have MR:∀j,1<=numT j:=λj=>by unfold numT;omega
  have oN:∀x v:Int,1<=x/\x<=n->∀y,ldW (stW s.W (mNx t x) v) y=if y=mNx t x then v else ldW s.W y:=λx v h=>own _ v (by unfold mNx;omega) (by unfold mNx;omega)
  have oW:∀x v:Int,1<=x/\x<=n->∀y,ldW (stW s.W (mWt t x) v) y=if y=mWt t x then v else ldW s.W y:=λx v h=>own _ v (by unfold mWt;omega) (by unfold mWt;omega)
  have o1:=λv=>own t v (Int.le_refl _) ahB;obtain⟨tk,vt,z,n2,tl,l,u4,nx,u,s14⟩:=k;have h4:=l i hi;have Mh:=s14 i hi;have V:=nx i hi;rw[<-hp]at h4 Mh V;obtain⟨pc,a,b,c⟩:=p;simp only at hc h4 Mh V;have Y:(pc=4->1<=a/\a<=n)/\(pc=14->1<=a/\a<=n):=⟨λh=>(h4 h).1,λh=>by have e:=Mh h;have:=(V ahB (by rw[e.1];exact e.2)).1;omega⟩;have Uc:(pc=0\/pc=10)\/pc=1\/pc=2\/pc=3\/pc=4\/pc=5\/pc=11\/pc=12\/pc=13\/pc=14:=by omega
  rcases Uc with h|rfl|rfl|rfl|rfl|rfl|rfl|rfl|rfl|rfl
  . have e:r=(s,⟨pc,a,b,c⟩):=(by rw[I];unfold mF;rcases h with rfl|rfl<;>simp);rw[e];refine⟨?_,λ_ _=>rfl⟩;have e2:sv (S.set i ⟨pc,a,b,c⟩)=sv S:=(by rw[hs];funext j;split<;>simp_all);show McA n (ldW s.W t) (fN t n (ldW s.W)) (fW t n (ldW s.W)) (sv (S.set i ⟨pc,a,b,c⟩));rw[e2];exact⟨tk,vt,z,n2,tl,l,u4,nx,u,s14⟩
  all_goals simp[mF,eQ,dM,ex,MI,lN,lW]at I;repeat' split at I
  all_goals subst I;refine⟨?_,?_⟩
  all_goals try simp only[ay,aQ,dP,gW]
  all_goals try simp only[MI,decide_eq_true_eq]
  all_goals try first|rw[if_pos ahU]|rw[if_neg ahU]
  all_goals try first
    | exact λ_ _=>rfl
    | exact λ_ _=>trivial
    | (intro y hy;rw[oN _ _ ahB,if_neg (by unfold mNx;omega)];done)
    | (intro y hy;rw[oW _ _ ahB,if_neg (by unfold mWt;omega)];done)
    | (intro y hy;rw[o1,if_neg ahB];done)
  all_goals rw[hs]
  all_goals try first
    | rw[(qo (oW a _ (Y.2 rfl)) (Y.2 rfl)).1,(qo (oW a _ (Y.2 rfl)) (Y.2 rfl)).2.1,(qo (oW a _ (Y.2 rfl)) (Y.2 rfl)).2.2]
    | rw[(qm (oN a _ (Y.1 rfl)) (Y.1 rfl)).1,(qm (oN a _ (Y.1 rfl)) (Y.1 rfl)).2.1,(qm (oN a _ (Y.1 rfl)) (Y.1 rfl)).2.2]
    | rw[(qm (oN _ _ ahB) ahB).1,(qm (oN _ _ ahB) ahB).2.1,(qm (oN _ _ ahB) ahB).2.2]
    | rw[(qo (oW _ _ ahB) ahB).1,(qo (oW _ _ ahB) ahB).2.1,(qo (oW _ _ ahB) ahB).2.2]
    | rw[(By (n:=n) (o1 _)).1,(By (n:=n) (o1 _)).2.1,(By (n:=n) (o1 _)).2.2]
  all_goals have Oz:=congrArg Sp.pc hp.symm;have Pr:=congrArg Sp.a hp.symm;dsimp only at Oz Pr;clear hs lN lW MI hp len own oN oW o1 ex ab;generalize Rc:(λj=>if j=i then _ else sv S j)=σ';have H:=λj=>(congrFun Rc j).symm;clear Rc;generalize sv S=σ at *;generalize fN t n (ldW s.W)=N at *;generalize fW t n (ldW s.W)=G at *;generalize ldW s.W t=t at *;have hx:∀x:Int,1<=x->x<=n->∃j,j<n/\numT j=x:=λx h1 h2=>⟨(x-1).toNat,by omega,by unfold numT;omega⟩
  all_goals
    refine⟨?_,by omega,λj O=>?_,λj O=>?_,λj O=>?_,λj O=>?_,λj k O hk=>?_,λj O=>?_,λj k O hk=>?_,λj O=>?_⟩;. first| exact tk.own hi H ahB ain ait| exact tk.o hi H ahB ahD ahP aiu| exact tk.low hi H aiM ahD ain| exact tk.door hi H ahB ahP ahB| exact tk.ent hi H ahB (show G (numT i)=0 by omega)
    . have e:=H j;have:=z j O;have h1:=λa b=>(V a b).2 j O;have h3:=inj j i;clear tk vt z n2 tl l u4 nx u s14 h4 V inj MR hx H;first|grind [updF]|(intros;grind [updF])
    . have e:=H j;have:=n2 j O;have h3:=inj j i;have h1:=λh=>(h4 h).2.2.2 j O;clear tk vt z n2 tl l u4 nx u s14 h4 Mh V inj MR hx H;first|grind [updF]|(intros;grind [updF])
    . have e:=H j;have h1:=tl j O;have hq:=MR j;have h3:=inj j i;have h5:=n2 i hi;clear tk vt z n2 tl l u4 nx u s14 V inj MR hx H;first|grind [updF]|(intros;grind [updF])
    . have e:=H j;have h1:=l j O;have h5:=n2 i hi;have h7:=tl i hi;have h8:=u4 j i O hi;intro q;have hl:∀k,k<n->numT k=(σ' j).a->4<=(σ' k).pc/\k≠j:=(by intro k hk h;have ek:=H k;have h9:=λa=>(h1 a).2.2.2 k hk;have h10:=tl k hk;clear u4 nx u s14 z V n2 tk H tl l hx inj;grind);refine⟨?_,?_,?_,hl⟩;all_goals clear u4 nx u s14 z V n2 tk H l hl inj;grind [updF]
    . have e:=H j;have ek:=H k;have h1:=u4 j k O hk;have h2:=l j O;have h3:=l k hk;clear tk vt z n2 tl l u4 nx u s14 h4 Mh V inj MR hx H;grind
    . have e:=H j;have h1:=nx j O;have h5:=n2 i hi;have h6:=inj j i;have h7:=u j i O hi;have h8:=z i hi;clear u4 nx u s14 z n2 tk tl l;first|grind [updF]|(intros;grind [updF])
    . have e:=H j;have ek:=H k;have h1:=u j k O hk;have h5:=n2 i hi;have h6:=inj j i;have h7:=inj k i;have h8:=inj j k;have h9:=λa b=>(nx j O a b).2 i hi;have h10:=λa b=>(nx k hk a b).2 i hi;clear u4 nx u s14 z n2 tk tl l H V inj hx h4 Mh;first|grind [updF]|(intros;simp only[updF]at *;grind)
    . have e:=H j;have h1:=s14 j O;have h3:=inj j i;have h5:=λh=>(h4 h).2.2.1;clear tk vt z n2 tl l u4 nx u s14 h4 V inj MR hx H;first|grind [updF]|(intros;grind [updF])
end
section
open Go
def fC(t:Int)(n:Nat)(f:Int->Int)(x:Int):Int:=if 1<=x/\x<=(n:Int)+1 then f (t+x)else 0
structure ClA(n:Nat)(t:Int)(g:Int->Int)(σ:Nat->Sp)(e:Int):Prop where
 e0:1<=e/\e<=(n:Int)+1
 a0:∀i,i<n->1<=(σ i).a/\(σ i).a<=(n:Int)+1
 inj:∀i j,i<n->j<n->(σ i).a=(σ j).a->i=j
 ne:∀i,i<n->(σ i).a≠e
 f0:g e=0
 f1:∀i,i<n->2<=(σ i).pc->g (σ i).a=1
 bq:∀i,i<n->3<=(σ i).pc->(σ i).b=e\/∃j,j<n/\(σ i).b=(σ j).a/\3<=(σ j).pc
 bu:∀i j,i<n->j<n->3<=(σ i).pc->3<=(σ j).pc->(σ i).b=(σ j).b->i=j
 tl:t=e\/∃j,j<n/\t=(σ j).a/\3<=(σ j).pc
 tb:∀k,k<n->3<=(σ k).pc->(σ k).b≠t
 h10:∀i,i<n->10<=(σ i).pc->(σ i).b=e
section
variable{e:Int}{g g':Int->Int}{σ σ':Nat->Sp}{p:Sp}
theorem E9(H:∀y,f' y=if y=t+x then v else f y)(h:1<=x/\x<=(n:Int)+1):f' t=f t/\fC t n f'=updF (fC t n f) x v:=by simp only[funext_iff,updF,fC,H];refine⟨?_,λy=>?_⟩<;>grind
theorem F6(h:∀y,f' y=if y=t then v else f y):f' t=v/\fC t n f'=fC t n f:=by simp only[funext_iff,fC,h];refine⟨?_,λy=>?_⟩<;>grind
def Bv(h:∀y,t<=y->y<t+((n:Int)+2)->f' y=f y):fC t n f'=fC t n f:=by
 funext x;unfold fC;split;.exact h _ ahB ahB
 .rfl
def ClA.one(k:ClA n t g σ e)(hi:i<n)(h:j<n)(h1:(σ i).pc=10)(H:(σ j).pc=10):i=j:=
 k.bu i j hi h ahB ahB (by rw[k.h10 i hi ahB,k.h10 j h ahB])
theorem ClA.put(k:ClA n t g σ e)(hi:i<n)(hs:∀j,σ' j=if j=i then p else σ j)(ha:p.a=(σ i).a)(hg:∀y,y≠(σ i).a->g' y=g y)(h1:2<=p.pc->g' (σ i).a=1)(hq:((σ i).pc<3/\p.pc<3)\/(3<=(σ i).pc/\3<=p.pc/\p.b=(σ i).b/\(10<=p.pc->(σ i).b=e))):ClA n t g' σ' e:=by
 obtain⟨e0,a0,inj,ne,f0,f1,bq,bu,tl,tb,h10⟩:=k;have ei:=hs i;rw[if_pos rfl]at ei;have I:∀x,(∃j,j<n/\x=(σ j).a/\3<=(σ j).pc)->∃j,j<n/\x=(σ' j).a/\3<=(σ' j).pc:=λx ⟨j,h1,V,h3⟩=>⟨j,h1,by rw[hs];split<;>simp_all,by rw[hs];split<;>(try subst j)<;>omega⟩;refine⟨e0,λj H=>?_,λj l H O=>?_,λj H=>?_,?_,λj H=>?_,λj H h=>?_,λj l H O=>?_,tl.imp id (I t),λj H=>?_,λj H=>?_⟩;.have:=a0 j H;have:=hs j;grind
 .have:=inj j l H O;have:=hs j;have:=hs l;grind
 .have:=ne j H;have:=hs j;grind
 .rw[hg _ (λh=>ne i hi h.symm)];exact f0
 .have:=f1 j H;have:=hs j;have:=inj j i H hi;grind
 .have V:=bq j H;have h3:=hs j;have Y:3<=(σ j).pc/\(σ' j).b=(σ j).b:=by grind
  rw[Y.2];exact(V Y.1).imp id (I _)
 .have:=bu j l H O;have:=hs j;have:=hs l;grind
 .have:=tb j H;have:=hs j;grind
 .have:=h10 j H;have:=hs j;grind
theorem ClA.swap(k:ClA n t g σ e)(hi:i<n)(hs:∀j,σ' j=if j=i then p else σ j)(h2:(σ i).pc=2)(hp:p.pc=3)(ha:p.a=(σ i).a)(hb:p.b=t):ClA n (σ i).a g σ' e:=by
 obtain⟨e0,a0,inj,ne,f0,f1,bq,bu,tl,tb,h10⟩:=k
 have I:∀x,(∃j,j<n/\x=(σ j).a/\3<=(σ j).pc)->(∃j,j<n/\x=(σ' j).a/\3<=(σ' j).pc)/\x≠(σ i).a:=λx ⟨j,h1,Y,h4⟩=>by
  have:j≠i:=λe=>by subst e;omega
  exact⟨⟨j,h1,by rw[hs,if_neg this];exact Y,by rw[hs,if_neg this];exact h4⟩,λe=>this (inj j i h1 hi (Y.symm.trans e))⟩
 have O:=hs i;rw[if_pos rfl]at O;refine⟨e0,λj H=>?_,λj l H V=>?_,λj H=>?_,f0,λj H=>?_,λj H h=>?_,λj l H V=>?_,.inr ⟨i,hi,by rw[O,ha],by rw[O];omega⟩,λj H h=>?_,λj H=>?_⟩;.have:=a0 j H;have:=hs j;grind
 .have:=inj j l H V;have:=hs j;have:=hs l;grind
 .have:=ne j H;have:=hs j;grind
 .have:=f1 j H;have:=hs j;grind
 .by_cases c:j=i;.rw[c,O,hb];exact tl.imp id λh=>(I _ h).1
  .rw[hs,if_neg c]at h ⊢;exact(bq j H h).imp id λh=>(I _ h).1
 .have:=bu j l H V;have:=hs j;have:=hs l;have:=tb j H;have:=tb l V;grind
 .have hn:=ne i hi;by_cases c:j=i;.rw[c,O,hb];exact tl.elim (λh=>by rw[h];exact λh=>hn h.symm) λh=>(I _ h).2
  .rw[hs,if_neg c]at h ⊢;exact(bq j H h).elim (λh=>by rw[h];exact λh=>hn h.symm) λh=>(I _ h).2
 .have:=h10 j H;have:=hs j;grind
theorem ClA.o(k:ClA n t g σ e)(hi:i<n)(hs:∀j,σ' j=if j=i then p else σ j)(Ns:10<=(σ i).pc)(hp:p.pc=0)(ha:p.a=(σ i).b)(hg:g'=updF g (σ i).a 0):ClA n t g' σ' (σ i).a:=by
 obtain⟨e0,a0,inj,ne,f0,f1,bq,bu,tl,tb,h10⟩:=k;have hb:=h10 i hi Ns;have WK:∀j,j<n->3<=(σ j).pc->j≠i->(σ j).b≠e:=λj H V MW h=>MW (bu j i H hi V ahB (by rw[h,hb]))
 have I:∀x,(∃j,j<n/\x=(σ j).a/\3<=(σ j).pc)->x=(σ i).a\/∃j,j<n/\x=(σ' j).a/\3<=(σ' j).pc:=λx ⟨j,h1,V,h4⟩=>by
  by_cases c:j=i;.exact .inl (by rw[V,c])
  .exact .inr ⟨j,h1,by rw[hs,if_neg c];exact V,by rw[hs,if_neg c];exact h4⟩
 have O:=hs i;rw[if_pos rfl]at O;refine⟨a0 i hi,λj H=>?_,λj l H Y=>?_,λj H=>?_,by rw[hg,gS],λj H=>?_,λj H h=>?_,λj l H Y=>?_,tl.elim (λh=>absurd (by rw[hb,h]) (tb i hi ahB)) (I t),λj H=>?_,λj H h=>?_⟩;.have:=a0 j H;have:=hs j;grind
 .have:=inj j l H Y;have:=hs j;have:=hs l;have:=ne j H;have:=ne l Y;grind
 .have:=ne i hi;have:=inj j i H hi;have:=hs j;grind
 .by_cases c:j=i;.rw[c,O];intro h;omega
  .rw[hs,if_neg c,hg,eG _ (λh=>c (inj j i H hi h))];exact f1 j H
 .have c:j≠i:=λc=>by rw[c,O]at h;omega
  rw[hs,if_neg c]at h ⊢;exact(bq j H h).elim (λh2=>absurd h2 (WK j H h c)) (I _)
 .have:=bu j l H Y;have:=hs j;have:=hs l;grind
 .have:=tb j H;have:=hs j;grind
 .have c:j≠i:=λc=>by rw[c,O]at h;omega
  rw[hs,if_neg c]at h ⊢;exact absurd (h10 j H h) (WK j H ahB c)
end
end
end Go.Proofs.YtglokdbiggbkjaaGreat
