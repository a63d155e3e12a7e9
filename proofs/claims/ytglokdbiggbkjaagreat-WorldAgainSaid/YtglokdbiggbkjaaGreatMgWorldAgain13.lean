/- Joined texts. -/
import Derived.Test.YtglokdbiggbkjaaGreatMgWorldAgain0
import Derived.Test.YtglokdbiggbkjaaGreatMgWorldAgain3
import Derived.Test.YtglokdbiggbkjaaGreatMgWorldAgain8
set_option linter.unusedVariables false
set_option linter.unusedSimpArgs false
set_option linter.defProp false
set_option maxRecDepth 100000
set_option maxHeartbeats 16000000
open Go.Proofs.Tryz
namespace Go.Proofs.YtglokdbiggbkjaaGreat
open Go.IntKind(i64)
open Go.Value(int bool slice agg tuple pointer)
open Go.Ending(returned)
open Go.Obj(cells)
variable{n i:Nat}{t x v:Int}{f f':Int->Int}
section
open Go
variable{p:Sp}
def fN(t:Int)(n:Nat)(f:Int->Int)(x:Int):Int:=if 1<=x/\x<=n then f (mNx t x)else 0
def fW(t:Int)(n:Nat)(f:Int->Int)(x:Int):Int:=if 1<=x/\x<=n then f (mWt t x)else 0
abbrev Fb(S:Int->Int)(σ:Nat->Sp):Nat->Prop:=i8 10 (λv=>v=0) S σ
structure McA(n:Nat)(t:Int)(N S:Int->Int)(σ:Nat->Sp):Prop where
 tk:ja n (Fb S σ) (t=0)
 vt:0<=t/\t<=n
 z:∀i,i<n->(σ i).pc=3\/(σ i).pc=4->S (numT i)=1
 n2:∀i,i<n->(σ i).pc=2\/(σ i).pc=3->N (numT i)=0
 tl:∀i,i<n->t=numT i->4<=(σ i).pc/\N t=0
 l:∀i,i<n->(σ i).pc=4->(1<=(σ i).a/\(σ i).a<=n)/\t≠(σ i).a/\N (σ i).a=0/\∀j,j<n->numT j=(σ i).a->4<=(σ j).pc/\j≠i
 u4:∀i j,i<n->j<n->(σ i).pc=4->(σ j).pc=4->(σ i).a=(σ j).a->i=j
 nx:∀j,j<n->4<=(σ j).pc->N (numT j)≠0->(1<=N (numT j)/\N (numT j)<=n)/\∀i,i<n->numT i=N (numT j)->(σ i).pc=5/\S (numT i)=1
 u:∀j k,j<n->k<n->4<=(σ j).pc->4<=(σ k).pc->N (numT j)≠0->N (numT j)=N (numT k)->j=k
 s14:∀i,i<n->(σ i).pc=14->N (numT i)=(σ i).a/\(σ i).a≠0
section
def p6(hf:∀y,f' y=if y=mNx t x then v else f y)(h:1<=x/\x<=n):f' t=f t/\fN t n f'=updF (fN t n f) x v/\fW t n f'=fW t n f:=by exact aaW
def p7(hf:∀y,f' y=if y=mWt t x then v else f y)(h:1<=x/\x<=n):f' t=f t/\fN t n f'=fN t n f/\fW t n f'=updF (fW t n f) x v:=by exact aaW
def Bd(h:∀y,f' y=if y=t then v else f y):f' t=v/\fN t n f'=fN t n f/\fW t n f'=fW t n f:=by simp only[funext_iff,fN,fW,h,mNx,mWt];exact aaX
def Bc(h:∀y,t<=y->y<t+(1+2*(n:Int))->f' y=f y):fN t n f'=fN t n f/\fW t n f'=fW t n f:=by
 refine⟨funext λx=>?_,funext λx=>?_⟩
 .unfold fN mNx;split;.exact h _ ahp ahp
  .rfl
 .unfold fW mWt;split;.exact h _ ahp ahp
  .rfl
end
def McA.beg{N S:Int->Int}{σ O:Nat->Sp}(k:McA n t N S σ)(hi:i<n)(he:∀j,O j=if j=i then p else σ j)(hp:((σ i).pc=10/\p.pc=11)\/((σ i).pc=0/\p.pc=1)):McA n t N S O:=by
 obtain⟨tk,vt,z,n2,tl,l,u4,nx,u,s14⟩:=k;refine⟨?_,vt,?_,?_,?_,?_,?_,?_,?_,?_⟩;.exact aaY
 .intro j H;have e:=he j;have q:=z j H;clear tk z n2 tl l u4 nx u s14 he;grind
 .intro j H;have e:=he j;have q:=n2 j H;clear tk z n2 tl l u4 nx u s14 he;grind
 .intro j H;have e:=he j;have q:=tl j H;clear tk z n2 tl l u4 nx u s14 he;grind
 .intro j H h4;have e:=he j;have Mw:j≠i:=λh=>by rw[if_pos h]at e;rw[e]at h4;omega
  rw[if_neg Mw]at e;obtain⟨q1,q2,q3,q4⟩:=l j H (by rw[<-e];exact h4);rw[e];refine⟨q1,q2,q3,λk I Y=>?_⟩;have:=q4 k I Y;have:=he k;clear tk z n2 tl l u4 nx u s14 he;grind
 .intro j k H I;have e:=he j;have e2:=he k;have q:=u4 j k H I;clear tk z n2 tl l u4 nx u s14 he;grind
 .intro j H h4 h5;have e:=he j;have h6:4<=(σ j).pc:=by clear tk z n2 tl l u4 nx u s14 he;grind
  have:=nx j H h6 h5;refine⟨this.1,λk I Y=>?_⟩;have q:=this.2 k I Y;have:=he k;clear tk z n2 tl l u4 nx u s14 he;grind
 .intro j k H I h1 h2;have e:=he j;have e2:=he k;have q:=u j k H I;clear tk z n2 tl l u4 nx u s14 he;grind
 .intro j H;have e:=he j;have q:=s14 j H;clear tk z n2 tl l u4 nx u s14 he;grind
def McA.go{s:Ar}{S:List Sp}(k:McA n (ldW s.W t) (fN t n (ldW s.W)) (fW t n (ldW s.W)) (sv S))(hi:i<n)(len:S.length=n)(own:∀x v,t<=x->x<=t+2*n->∀y,ldW (stW s.W x v) y=if y=x then v else ldW s.W y)(ab:inR s.W t=true)(hp:p=sv S i)(hc:(0<=p.pc/\p.pc<=5)\/(10<=p.pc/\p.pc<=14)){r:Ar×Sp}(V:r=mr t s i p):McA n (ldW r.1.W t) (fN t n (ldW r.1.W)) (fW t n (ldW r.1.W)) (sv (S.set i r.2))/\∀y,¬(t<=y/\y<=t+2*n)->ldW r.1.W y=ldW s.W y:=by
  have hs:∀q,sv (S.set i q)=λj=>if j=i then q else sv S j:=λq=>by funext j;rw[cJ];grind
  have ex:((i:Nat):Int)+1=numT i:=rfl;have KC:1<=numT i/\numT i<=n:=by unfold numT;omega
  have Mi:cB s t (numT i)=decide (ldW s.W t=numT i):=by unfold cB;rw[ab];rfl
  have lN:ldW s.W (mNx t (numT i))=fN t n (ldW s.W) (numT i):=by unfold fN;rw[if_pos KC]
  have lW:ldW s.W (mWt t (numT i))=fW t n (ldW s.W) (numT i):=by unfold fW;rw[if_pos KC]
  have inj:=λj k=>@iY j k;have Mo:∀j,1<=numT j:=λj=>by unfold numT;omega
  have oN:∀x v:Int,1<=x/\x<=n->∀y,ldW (stW s.W (mNx t x) v) y=if y=mNx t x then v else ldW s.W y:=λx v h=>own _ v (by unfold mNx;omega) (by unfold mNx;omega)
  have oW:∀x v:Int,1<=x/\x<=n->∀y,ldW (stW s.W (mWt t x) v) y=if y=mWt t x then v else ldW s.W y:=λx v h=>own _ v (by unfold mWt;omega) (by unfold mWt;omega)
  have o1:=λv=>own t v (Int.le_refl _) ahp;obtain⟨tk,vt,z,n2,tl,l,u4,nx,u,s14⟩:=k;have h4:=l i hi;have LY:=s14 i hi;have O:=nx i hi;rw[<-hp]at h4 LY O;obtain⟨pc,a,b,c⟩:=p;simp only at hc h4 LY O;have Y:(pc=4->1<=a/\a<=n)/\(pc=14->1<=a/\a<=n):=⟨λh=>(h4 h).1,λh=>by have e:=LY h;have:=(O ahp (by rw[e.1];exact e.2)).1;omega⟩;have Pp:(pc=0\/pc=10)\/pc=1\/pc=2\/pc=3\/pc=4\/pc=5\/pc=11\/pc=12\/pc=13\/pc=14:=by omega
  rcases Pp with h|rfl|rfl|rfl|rfl|rfl|rfl|rfl|rfl|rfl
  . have e:r=(s,⟨pc,a,b,c⟩):=(by rw[V];unfold mr;rcases h with rfl|rfl<;>simp);rw[e];refine⟨?_,λ_ _=>rfl⟩;have e2:sv (S.set i ⟨pc,a,b,c⟩)=sv S:=(by rw[hs];funext j;split<;>simp_all);show McA n (ldW s.W t) (fN t n (ldW s.W)) (fW t n (ldW s.W)) (sv (S.set i ⟨pc,a,b,c⟩));rw[e2];exact⟨tk,vt,z,n2,tl,l,u4,nx,u,s14⟩
  all_goals simp[mr,eG,dK,ex,Mi,lN,lW]at V;repeat' split at V
  all_goals subst V;refine⟨?_,?_⟩
  all_goals try simp only[ay,aP,dN,gO]
  all_goals try simp only[Mi,decide_eq_true_eq]
  all_goals try first|rw[if_pos ahI]|rw[if_neg ahI]
  all_goals try first
    | exact λ_ _=>rfl
    | exact λ_ _=>trivial
    | (intro y hy;rw[oN _ _ ahp,if_neg (by unfold mNx;omega)];done)
    | (intro y hy;rw[oW _ _ ahp,if_neg (by unfold mWt;omega)];done)
    | (intro y hy;rw[o1,if_neg ahp];done)
  all_goals rw[hs]
  all_goals try first
    | rw[(p7 (oW a _ (Y.2 rfl)) (Y.2 rfl)).1,(p7 (oW a _ (Y.2 rfl)) (Y.2 rfl)).2.1,(p7 (oW a _ (Y.2 rfl)) (Y.2 rfl)).2.2]
    | rw[(p6 (oN a _ (Y.1 rfl)) (Y.1 rfl)).1,(p6 (oN a _ (Y.1 rfl)) (Y.1 rfl)).2.1,(p6 (oN a _ (Y.1 rfl)) (Y.1 rfl)).2.2]
    | rw[(p6 (oN _ _ ahp) ahp).1,(p6 (oN _ _ ahp) ahp).2.1,(p6 (oN _ _ ahp) ahp).2.2]
    | rw[(p7 (oW _ _ ahp) ahp).1,(p7 (oW _ _ ahp) ahp).2.1,(p7 (oW _ _ ahp) ahp).2.2]
    | rw[(Bd (n:=n) (o1 _)).1,(Bd (n:=n) (o1 _)).2.1,(Bd (n:=n) (o1 _)).2.2]
  all_goals have N7:=congrArg Sp.pc hp.symm;have OZ:=congrArg Sp.a hp.symm;dsimp only at N7 OZ;clear hs lN lW Mi hp len own oN oW o1 ex ab;generalize QW:(λj=>if j=i then _ else sv S j)=σ';have H:=λj=>(congrFun QW j).symm;clear QW;generalize sv S=σ at *;generalize fN t n (ldW s.W)=N at *;generalize fW t n (ldW s.W)=G at *;generalize ldW s.W t=t at *;have hx:∀x:Int,1<=x->x<=n->∃j,j<n/\numT j=x:=λx h1 h2=>⟨(x-1).toNat,by omega,by unfold numT;omega⟩
  all_goals
    refine⟨?_,by omega,λj I=>?_,λj I=>?_,λj I=>?_,λj I=>?_,λj k I hk=>?_,λj I=>?_,λj k I hk=>?_,λj I=>?_⟩;. first| exact tk.own hi H ahp ah8 aie| exact tk.o hi H ahp ahr ahD aif| exact tk.low hi H aiy ahr ah8| exact tk.door hi H ahp ahD ahp| exact tk.ent hi H ahp (show G (numT i)=0 by omega)
    . have e:=H j;have:=z j I;have h1:=λa b=>(O a b).2 j I;have h3:=inj j i;clear tk vt z n2 tl l u4 nx u s14 h4 O inj Mo hx H;first|grind [updF]|(intros;grind [updF])
    . have e:=H j;have:=n2 j I;have h3:=inj j i;have h1:=λh=>(h4 h).2.2.2 j I;clear tk vt z n2 tl l u4 nx u s14 h4 LY O inj Mo hx H;first|grind [updF]|(intros;grind [updF])
    . have e:=H j;have h1:=tl j I;have hq:=Mo j;have h3:=inj j i;have h5:=n2 i hi;clear tk vt z n2 tl l u4 nx u s14 O inj Mo hx H;first|grind [updF]|(intros;grind [updF])
    . have e:=H j;have h1:=l j I;have h5:=n2 i hi;have h7:=tl i hi;have h8:=u4 j i I hi;intro q;have hl:∀k,k<n->numT k=(σ' j).a->4<=(σ' k).pc/\k≠j:=(by intro k hk h;have ek:=H k;have h9:=λa=>(h1 a).2.2.2 k hk;have h10:=tl k hk;clear u4 nx u s14 z O n2 tk H tl l hx inj;grind);refine⟨?_,?_,?_,hl⟩;all_goals clear u4 nx u s14 z O n2 tk H l hl inj;grind [updF]
    . have e:=H j;have ek:=H k;have h1:=u4 j k I hk;have h2:=l j I;have h3:=l k hk;clear tk vt z n2 tl l u4 nx u s14 h4 LY O inj Mo hx H;grind
    . have e:=H j;have h1:=nx j I;have h5:=n2 i hi;have h6:=inj j i;have h7:=u j i I hi;have h8:=z i hi;clear u4 nx u s14 z n2 tk tl l;first|grind [updF]|(intros;grind [updF])
    . have e:=H j;have ek:=H k;have h1:=u j k I hk;have h5:=n2 i hi;have h6:=inj j i;have h7:=inj k i;have h8:=inj j k;have h9:=λa b=>(nx j I a b).2 i hi;have h10:=λa b=>(nx k hk a b).2 i hi;clear u4 nx u s14 z n2 tk tl l H O inj hx h4 LY;first|grind [updF]|(intros;simp only[updF]at *;grind)
    . have e:=H j;have h1:=s14 j I;have h3:=inj j i;have h5:=λh=>(h4 h).2.2.1;clear tk vt z n2 tl l u4 nx u s14 h4 O inj Mo hx H;first|grind [updF]|(intros;grind [updF])
end
section
open Go
def fC(t:Int)(n:Nat)(f:Int->Int)(x:Int):Int:=if 1<=x/\x<=(n:Int)+1 then f (t+x)else 0
structure ClA(n:Nat)(t:Int)(g:Int->Int)(σ:Nat->Sp)(e:Int):Prop where
 e0:1<=e/\e<=(n:Int)+1
 a0:∀i,i<n->1<=(σ i).a/\(σ i).a<=(n:Int)+1
 inj:∀i j,i<n->j<n->(σ i).a=(σ j).a->i=j
 ne:∀i,i<n->(σ i).a≠e
 f0:g e=0
 f1:∀i,i<n->2<=(σ i).pc->g (σ i).a=1
 bq:∀i,i<n->3<=(σ i).pc->(σ i).b=e\/∃j,j<n/\(σ i).b=(σ j).a/\3<=(σ j).pc
 bu:∀i j,i<n->j<n->3<=(σ i).pc->3<=(σ j).pc->(σ i).b=(σ j).b->i=j
 tl:t=e\/∃j,j<n/\t=(σ j).a/\3<=(σ j).pc
 tb:∀k,k<n->3<=(σ k).pc->(σ k).b≠t
 h10:∀i,i<n->10<=(σ i).pc->(σ i).b=e
section
variable{e:Int}{g g':Int->Int}{σ σ':Nat->Sp}{p:Sp}
def EX(H:∀y,f' y=if y=t+x then v else f y)(h:1<=x/\x<=(n:Int)+1):f' t=f t/\fC t n f'=updF (fC t n f) x v:=by simp only[funext_iff,updF,fC,H];refine⟨?_,λy=>?_⟩<;>grind
def FM(h:∀y,f' y=if y=t then v else f y):f' t=v/\fC t n f'=fC t n f:=by simp only[funext_iff,fC,h];refine⟨?_,λy=>?_⟩<;>grind
def Bb(h:∀y,t<=y->y<t+((n:Int)+2)->f' y=f y):fC t n f'=fC t n f:=by
 funext x;unfold fC;split;.exact h _ ahp ahp
 .rfl
def ClA.one(k:ClA n t g σ e){j:Nat}(hi:i<n)(h:j<n)(h1:(σ i).pc=10)(H:(σ j).pc=10):i=j:=
 k.bu i j hi h ahp ahp (by rw[k.h10 i hi ahp,k.h10 j h ahp])
def ClA.put(k:ClA n t g σ e)(hi:i<n)(hs:∀j,σ' j=if j=i then p else σ j)(ha:p.a=(σ i).a)(hg:∀y,y≠(σ i).a->g' y=g y)(h1:2<=p.pc->g' (σ i).a=1)(hq:((σ i).pc<3/\p.pc<3)\/(3<=(σ i).pc/\3<=p.pc/\p.b=(σ i).b/\(10<=p.pc->(σ i).b=e))):ClA n t g' σ' e:=by
 obtain⟨e0,a0,inj,ne,f0,f1,bq,bu,tl,tb,h10⟩:=k;have ei:=hs i;rw[if_pos rfl]at ei;have V:∀x,(∃j,j<n/\x=(σ j).a/\3<=(σ j).pc)->∃j,j<n/\x=(σ' j).a/\3<=(σ' j).pc:=λx ⟨j,h1,O,h3⟩=>⟨j,h1,by rw[hs];split<;>simp_all,by rw[hs];split<;>(try subst j)<;>omega⟩;refine⟨e0,λj H=>?_,λj l H I=>?_,λj H=>?_,?_,λj H=>?_,λj H h=>?_,λj l H I=>?_,tl.imp id (V t),λj H=>?_,λj H=>?_⟩;.have:=a0 j H;have:=hs j;grind
 .have:=inj j l H I;have:=hs j;have:=hs l;grind
 .have:=ne j H;have:=hs j;grind
 .rw[hg _ (λh=>ne i hi h.symm)];exact f0
 .have:=f1 j H;have:=hs j;have:=inj j i H hi;grind
 .have O:=bq j H;have h3:=hs j;have Y:3<=(σ j).pc/\(σ' j).b=(σ j).b:=by grind
  rw[Y.2];exact(O Y.1).imp id (V _)
 .have:=bu j l H I;have:=hs j;have:=hs l;grind
 .have:=tb j H;have:=hs j;grind
 .have:=h10 j H;have:=hs j;grind
def ClA.swap(k:ClA n t g σ e)(hi:i<n)(hs:∀j,σ' j=if j=i then p else σ j)(h2:(σ i).pc=2)(hp:p.pc=3)(ha:p.a=(σ i).a)(I:p.b=t):ClA n (σ i).a g σ' e:=by
 obtain⟨e0,a0,inj,ne,f0,f1,bq,bu,tl,tb,h10⟩:=k
 have V:∀x,(∃j,j<n/\x=(σ j).a/\3<=(σ j).pc)->(∃j,j<n/\x=(σ' j).a/\3<=(σ' j).pc)/\x≠(σ i).a:=λx ⟨j,h1,h3,h4⟩=>by
  have:j≠i:=λe=>by subst e;omega
  exact⟨⟨j,h1,by rw[hs,if_neg this];exact h3,by rw[hs,if_neg this];exact h4⟩,λe=>this (inj j i h1 hi (h3.symm.trans e))⟩
 have O:=hs i;rw[if_pos rfl]at O;refine⟨e0,λj H=>?_,λj l H Y=>?_,λj H=>?_,f0,λj H=>?_,λj H h=>?_,λj l H Y=>?_,.inr ⟨i,hi,by rw[O,ha],by rw[O];omega⟩,λj H h=>?_,λj H=>?_⟩;.have:=a0 j H;have:=hs j;grind
 .have:=inj j l H Y;have:=hs j;have:=hs l;grind
 .have:=ne j H;have:=hs j;grind
 .have:=f1 j H;have:=hs j;grind
 .by_cases c:j=i;.rw[c,O,I];exact tl.imp id λh=>(V _ h).1
  .rw[hs,if_neg c]at h ⊢;exact(bq j H h).imp id λh=>(V _ h).1
 .have:=bu j l H Y;have:=hs j;have:=hs l;have:=tb j H;have:=tb l Y;grind
 .have hn:=ne i hi;by_cases c:j=i;.rw[c,O,I];exact tl.elim (λh=>by rw[h];exact λh=>hn h.symm) λh=>(V _ h).2
  .rw[hs,if_neg c]at h ⊢;exact(bq j H h).elim (λh=>by rw[h];exact λh=>hn h.symm) λh=>(V _ h).2
 .have:=h10 j H;have:=hs j;grind
def ClA.o(k:ClA n t g σ e)(hi:i<n)(hs:∀j,σ' j=if j=i then p else σ j)(Oh:10<=(σ i).pc)(hp:p.pc=0)(ha:p.a=(σ i).b)(hg:g'=updF g (σ i).a 0):ClA n t g' σ' (σ i).a:=by
 obtain⟨e0,a0,inj,ne,f0,f1,bq,bu,tl,tb,h10⟩:=k;have I:=h10 i hi Oh;have WB:∀j,j<n->3<=(σ j).pc->j≠i->(σ j).b≠e:=λj H Y Mw h=>Mw (bu j i H hi Y ahp (by rw[h,I]))
 have V:∀x,(∃j,j<n/\x=(σ j).a/\3<=(σ j).pc)->x=(σ i).a\/∃j,j<n/\x=(σ' j).a/\3<=(σ' j).pc:=λx ⟨j,h1,Y,h4⟩=>by
  by_cases c:j=i;.exact .inl (by rw[Y,c])
  .exact .inr ⟨j,h1,by rw[hs,if_neg c];exact Y,by rw[hs,if_neg c];exact h4⟩
 have O:=hs i;rw[if_pos rfl]at O;refine⟨a0 i hi,λj H=>?_,λj l H hl=>?_,λj H=>?_,by rw[hg,gI],λj H=>?_,λj H h=>?_,λj l H hl=>?_,tl.elim (λh=>absurd (by rw[I,h]) (tb i hi ahp)) (V t),λj H=>?_,λj H h=>?_⟩;.have:=a0 j H;have:=hs j;grind
 .have:=inj j l H hl;have:=hs j;have:=hs l;have:=ne j H;have:=ne l hl;grind
 .have:=ne i hi;have:=inj j i H hi;have:=hs j;grind
 .by_cases c:j=i;.rw[c,O];intro h;omega
  .rw[hs,if_neg c,hg,eu _ (λh=>c (inj j i H hi h))];exact f1 j H
 .have c:j≠i:=λc=>by rw[c,O]at h;omega
  rw[hs,if_neg c]at h ⊢;exact(bq j H h).elim (λh2=>absurd h2 (WB j H h c)) (V _)
 .have:=bu j l H hl;have:=hs j;have:=hs l;grind
 .have:=tb j H;have:=hs j;grind
 .have c:j≠i:=λc=>by rw[c,O]at h;omega
  rw[hs,if_neg c]at h ⊢;exact absurd (h10 j H h) (WB j H ahp c)
end
end
end Go.Proofs.YtglokdbiggbkjaaGreat
