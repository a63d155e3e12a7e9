/- Joined texts. -/
import Derived.StillTailTactics
import Derived.IntWalk
import Derived.Deep.RegionHeld3
import Derived.ScopeJumps
import Derived.WalkMore
import Derived.Deep.RegionLaw
import Derived.Deep.AppendLies
import Derived.Deep.DeepCutAuto
import Derived.Test.YtglokdbiggbkjaaGreatMgWorldAgain0
import Derived.Test.YtglokdbiggbkjaaGreatMgWorldAgain2
import Derived.Test.YtglokdbiggbkjaaGreatMgWorldAgain4
import Derived.Test.YtglokdbiggbkjaaGreatMgWorldAgain6
import Derived.Test.YtglokdbiggbkjaaGreatMgWorldAgain11
import Derived.Test.YtglokdbiggbkjaaGreatMgWorldAgain15
import Derived.Test.YtglokdbiggbkjaaGreatMgWorldAgain16
set_option linter.unusedVariables false
set_option linter.unusedSimpArgs false
set_option linter.defProp false
set_option maxRecDepth 100000
set_option maxHeartbeats 16000000
open Go.Proofs.Tryz
namespace Go.Proofs.YtglokdbiggbkjaaGreat
open Go.IntKind(i64)
open Go.Value(int bool slice agg tuple pointer)
open Go.Ending(returned)
open Go.Obj(cells)
variable{k v i u b j n c cap Y:Nat}{P T:List Int}{p x bud z:Int}{S:List Nat}{w w' w5:World}{W:Nat->List Int}{B B0:Nat->Prop}{hb:Nat->Nat->Option Nat}{vR:Value}{A:Option Addr}{o:Obj}
section
open Go.RowKit
def mR(P:List Int)(p:Int)(k:Nat):List Int:=((List.range k).map Int.ofNat).filter λv=>decide (P.getD v.toNat 0=p)
def chL(P:List Int)(p:Int):List Int:=mR P p P.length
def nvT(P T:List Int)(v:Nat):Nat:=if chL P v=[]then max 1 (T.count (v:Int))else(chL P v).length
def plX(P:List Int)(x:Int)(k:Nat):Int:=(upL P x).getD k 0
def slX(P T:List Int)(i:Nat)(x:Int):Nat->Int
 |0=>cE T i
 |k+1=>fD (chL P (plX P x (k+1))) (plX P x k)
def cr(P T:List Int):HTr:=⟨(je P T).toNat,T.length,P.length,λt k=>(plX P (T.getD t 0) k).toNat,λt k=>(slX P T t (T.getD t 0) k).toNat,nvT P T,λv=>(je P T).toNat-depL P v⟩
def yu(P:List Int)(p:Int){q:Int}(h:P[k]? =some q):mR P p (k+1)=if q=p then mR P p k++[(k:Int)]else mR P p k:=by
 unfold mR;rw[List.range_succ,List.map_append,List.filter_append];show _++List.filter _ [(k:Int)]=_;have e:P.getD (k:Int).toNat 0=q:=by rw[Int.toNat_natCast,bh h]
 by_cases H:q=p;.rw[if_pos H,List.filter_cons_of_pos (by simpa only[decide_eq_true_eq,e]using H)];rfl
 .have:¬P.getD (k:Int).toNat 0=p:=by rw[e];exact H
  rw[if_neg H,List.filter_cons_of_neg (by simpa only[decide_eq_true_eq]using this)];simp
def kS(P:List Int)(p:Int)(k:Nat):(mR P p k).length<=k:=by unfold mR;have:=List.length_filter_le (λv:Int=>decide (P.getD v.toNat 0=p)) ((List.range k).map Int.ofNat);simpa using this
def Ce(h:P[v]? =some p):(v:Int)∈chL P p:=by unfold chL mR;rw[List.mem_filter];have:=(List.getElem?_eq_some_iff.1 h).1;refine⟨List.mem_map.2 ⟨v,List.mem_range.2 this,rfl⟩,?_⟩;simp only[decide_eq_true_eq,Int.toNat_natCast];exact bh h
def Fr{v:Int}(h:v∈chL P p):∃n:Nat,v=n/\P[n]? =some p:=by unfold chL mR at h;rw[List.mem_filter,List.mem_map]at h;obtain⟨⟨a,O,rfl⟩,H⟩:=h;have V:=List.mem_range.1 O;refine⟨a,rfl,?_⟩;simp only[decide_eq_true_eq]at H;have e:(Int.ofNat a).toNat=a:=rfl;rw[e]at H;obtain⟨q,I⟩:=ai V;rw[bh I]at H;rw[I,H]
def xr(h:dk P x=true):chL P x=[]:=by
 cases hc:chL P x with
 |nil=>rfl
 |cons a l=>obtain⟨n,rfl,H⟩:=Fr (P:=P) (p:=x) (v:=a) (by rw[hc];simp);exact absurd (List.mem_of_getElem? H) (ji h).2.2
structure XAt(P T:List Int)(i:Nat)(x:Int):Prop where
 at_:T[i]? =some x
 leaf:dk P x=true
 len:(upL P x).length=(je P T).toNat
 up:∀k,k<(je P T).toNat->∃v:Nat,(upL P x)[k]? =some (v:Int)/\v<P.length/\plX P x k=v/\depL P v+k=(je P T).toNat/\(upL P x).drop k=upL P v
def xAt(h:a5 P T=0)(hi:i<T.length):∃x,XAt P T i x/\T.getD i 0=x:=by
 obtain⟨x,I⟩:=ai hi;have hm:=jo (aQ h).2.2.2 I;have O:=fE.1 hm;have a:=ji O;have d:=DB h hm;have d':(je P T).toNat=depL P x:=by omega
 obtain⟨h1,Y⟩:=pG (aQ h).2.1 a.1 a.2.1;refine⟨x,⟨I,O,by rw[h1,d'],λk hk=>?_⟩,bh I⟩;obtain⟨u,H⟩:=ai (show k<(upL P x).length by omega);obtain⟨a1,a2,V,a4⟩:=Y k u H;obtain⟨v,rfl⟩:=Int.eq_ofNat_of_zero_le a1;exact⟨v,H,by omega,by unfold plX;rw[bh H],by omega,V⟩
section
def XAt.par(h:a5 P T=0)(a:XAt P T i x)(Y:k+1<(je P T).toNat)(O:plX P x k=v)(hu:plX P x (k+1)=u):P[v]? =some (u:Int):=by
 obtain⟨v',b1,b2,b3,b4,I⟩:=a.up k ahp;obtain⟨u',c1,c2,c3,c4,c5⟩:=a.up (k+1) Y;obtain rfl:v'=v:=by omega
 obtain rfl:u'=u:=by omega
 obtain⟨p,H⟩:=ai b2;rw[gi (aQ h).2.1 H]at I;have e:=congrArg (λl=>l[1]?) I;simp only[List.getElem?_drop,List.getElem?_cons_succ]at e;rw[c1]at e;by_cases V:0<=p;.obtain⟨n,rfl⟩:=Int.eq_ofNat_of_zero_le V;have Pw:=gC (aQ h).2.1 H;obtain⟨q,hq⟩:=ai (show n<P.length by omega);rw[gi (aQ h).2.1 hq]at e;simp at e;rw[H,e]
 .rw[wH ahp]at e;simp at e
def XAt.above(h:a5 P T=0)(a:XAt P T i x)(I:k+1<(je P T).toNat):∃v u j:Nat,plX P x k=v/\plX P x (k+1)=u/\v<P.length/\u<P.length/\slX P T i x (k+1)=j/\(chL P u)[j]? =some (v:Int):=by obtain⟨v,b1,b2,b3,O,V⟩:=a.up k ahp;obtain⟨u,c1,c2,c3,c4,c5⟩:=a.up (k+1) I;have hm:=Ce (a.par h I b3 c3);obtain⟨j,H⟩:=Int.eq_ofNat_of_zero_le ((eO (chL P u) v).1.2 hm);refine⟨v,u,j,b3,c3,b2,c2,?_,ni hm H⟩;show fD (chL P (plX P x (k+1))) (plX P x k)=j;rw[b3,c3];exact H
def n5(hi:T[i]? =some x)(h:i<u):(T.take i).count x<(T.take u).count x:=by
 have e:T.take u=T.take (i+1)++(T.drop (i+1)).take (u-(i+1)):=by rw[<-List.take_add];congr 1;omega
 rw[e,a7 hi,List.count_append,List.count_append];simp;omega
def j4(h:a5 P T=0):(cr P T).Ok:=by
 have Kx:=bi (aQ h).1;have UI:∀t,t<T.length->∀x,T.getD t 0=x->slX P T t x 0=(((T.take t).count x:Nat):Int):=λt H x hx=>by show cE T t=_;unfold cE;rw[hx]
 have hD:1<=(je P T).toNat:=by obtain⟨x,a,_⟩:=xAt h (show 0<T.length by omega);have b:=ji a.leaf;obtain⟨h1,h2⟩:=qo (aQ h).2.1 b.1 b.2.1;rw[<-a.len,(pG (aQ h).2.1 b.1 b.2.1).1];exact h1
 refine⟨hD,λt k H V=>?_,λt k H V=>?_,λv O=>?_,λt k H V=>?_,λt u k H Y V e=>?_,λt u k H Y V e e2=>?_,λt u H Y=>?_,λt u H Y e e2=>?_⟩;.obtain⟨x,a,ex⟩:=xAt h H;obtain⟨v,b1,b2,b3,_⟩:=a.up k V;show(plX P (T.getD t 0) k).toNat<P.length;rw[ex,b3];exact b2
 .obtain⟨x,a,ex⟩:=xAt h H;show(slX P T t (T.getD t 0) k).toNat<nvT P T (plX P (T.getD t 0) k).toNat;rw[ex];cases k with
  |zero=>have a0:=ji a.leaf;obtain⟨n,rfl⟩:=Int.eq_ofNat_of_zero_le a0.1;obtain⟨v,b1,b2,b3,b4,b5⟩:=a.up 0 V;have e:plX P (n:Int) 0=n:=(by obtain⟨p,hp⟩:=ai (show n<P.length by omega);unfold plX;rw[gi (aQ h).2.1 hp];rfl);rw[e,UI t H _ ex,Int.toNat_natCast,Int.toNat_natCast];have c:=n5 a.at_ (show t<T.length from H);rw[List.take_length]at c;unfold nvT;rw[if_pos (xr a.leaf)];omega
  |succ k=>obtain⟨v,u,j,b1,b2,b3,b4,b5,b6⟩:=a.above h V;rw[b5,b2,Int.toNat_natCast,Int.toNat_natCast];have:=(List.getElem?_eq_some_iff.1 b6).1;unfold nvT;rw[if_neg (λe=>by rw[e]at this;exact absurd this (Nat.not_lt_zero _))];exact this
 .show nvT P T v<=32;unfold nvT;have h1:=kS P v P.length;have h2:=List.count_le_length (a:=(v:Int)) (l:=T);split;.omega
  .show(mR P v P.length).length<=32;omega
 .obtain⟨x,a,ex⟩:=xAt h H;obtain⟨v,b1,b2,b3,b4,_⟩:=a.up k V;show(je P T).toNat-depL P (((plX P (T.getD t 0) k).toNat:Nat):Int)=k;rw[ex,b3,Int.toNat_natCast];omega
 .obtain⟨x,a,ex⟩:=xAt h H;obtain⟨y,b,I⟩:=xAt h Y;have Ko:k+1<(je P T).toNat:=V;obtain⟨v,b1,b2,b3,b4,b5⟩:=a.up k ahp;obtain⟨v',c1,c2,c3,c4,c5⟩:=b.up k ahp;have e':(plX P (T.getD t 0) k).toNat=(plX P (T.getD u 0) k).toNat:=e;rw[ex,I,b3,c3,Int.toNat_natCast,Int.toNat_natCast]at e';subst e';have f:(upL P x).drop k=(upL P y).drop k:=by rw[b5,c5]
  have f2:=congrArg (λl=>l[1]?) f;simp only[List.getElem?_drop]at f2;have f3:plX P x (k+1)=plX P y (k+1):=by unfold plX;rw[List.getD_eq_getElem?_getD,List.getD_eq_getElem?_getD,f2]
  constructor;.show(plX P (T.getD t 0) (k+1)).toNat=(plX P (T.getD u 0) (k+1)).toNat;rw[ex,I,f3]
  .show(fD (chL P (plX P (T.getD t 0) (k+1))) (plX P (T.getD t 0) k)).toNat=(fD (chL P (plX P (T.getD u 0) (k+1))) (plX P (T.getD u 0) k)).toNat;rw[ex,I,f3,b3,c3]
 .obtain⟨x,a,ex⟩:=xAt h H;obtain⟨y,b,I⟩:=xAt h Y;obtain⟨v,w,j,b1,b2,b3,b4,b5,b6⟩:=a.above h V;obtain⟨v',w',j',c1,c2,c3,c4,c5,c6⟩:=b.above h V;have e':(plX P (T.getD t 0) (k+1)).toNat=(plX P (T.getD u 0) (k+1)).toNat:=e;have RY:(slX P T t (T.getD t 0) (k+1)).toNat=(slX P T u (T.getD u 0) (k+1)).toNat:=e2;rw[ex,I,b2,c2,Int.toNat_natCast,Int.toNat_natCast]at e';rw[ex,I,b5,c5,Int.toNat_natCast,Int.toNat_natCast]at RY;subst e';subst RY;rw[b6]at c6;show(plX P (T.getD t 0) k).toNat=(plX P (T.getD u 0) k).toNat;rw[ex,I,b1,c1];injection c6 with c6;omega
 .obtain⟨x,a,ex⟩:=xAt h H;obtain⟨y,b,I⟩:=xAt h Y;have r:∀{i:Nat} {z:Int},XAt P T i z->plX P z ((je P T).toNat-1)=0:=λ{i z} c=>by have q:=ji c.leaf;obtain⟨_,h2⟩:=qo (aQ h).2.1 q.1 q.2.1;have hl:=c.len;rw[(pG (aQ h).2.1 q.1 q.2.1).1]at hl;rw[hl]at h2;unfold plX;rw[bh h2]
  show(plX P (T.getD t 0) ((je P T).toNat-1)).toNat=(plX P (T.getD u 0) ((je P T).toNat-1)).toNat;rw[ex,I,r a,r b]
 .obtain⟨x,a,ex⟩:=xAt h H;obtain⟨y,b,I⟩:=xAt h Y;have z:∀{i:Nat} {z:Int},XAt P T i z->plX P z 0=z/\0<=z:=λ{i z} c=>by have q:=ji c.leaf;obtain⟨n,rfl⟩:=Int.eq_ofNat_of_zero_le q.1;obtain⟨p,hp⟩:=ai (show n<P.length by omega);exact⟨by unfold plX;rw[gi (aQ h).2.1 hp];rfl,q.1⟩
  have e':(plX P (T.getD t 0) 0).toNat=(plX P (T.getD u 0) 0).toNat:=e;have RY:(slX P T t (T.getD t 0) 0).toNat=(slX P T u (T.getD u 0) 0).toNat:=e2;rw[ex,I,(z a).1,(z b).1]at e';have Ni:x=y:=by have:=(z a).2;have:=(z b).2;omega
  subst Ni;rw[ex,I,UI t H _ ex,UI u Y _ I,Int.toNat_natCast,Int.toNat_natCast]at RY;rcases Nat.lt_trichotomy t u with F'|he|F'
  .have:=n5 a.at_ F';omega
  .exact he
  .have:=n5 b.at_ F';omega
def xN(h:a5 P T=0):(cr P T).D<=5:=by have O:=bi (aQ h).1;obtain⟨x,a,ex⟩:=xAt h (show 0<T.length by omega);have H:=(aQ h).2.2.1;unfold ky at H;rw[List.all_eq_true]at H;have I:=H x (fE.2 a.leaf);simp only[decide_eq_true_eq]at I;have b:=ji a.leaf;have:=a.len;rw[(pG (aQ h).2.1 b.1 b.2.1).1]at this;show(je P T).toNat<=5;omega
end
end
section
open Go.RowKit
structure Hx where
 l:Nat
 a:Nat
 g:Nat
 q:Nat
 lb:Nat->Nat
 qb:Nat->Nat
 bR:Nat
 oR:Nat
 kR:Nat
 bL:Nat
 oL:Nat
 kL:Nat
 ub:Nat->Nat
 uo:Nat->Nat
 uk:Nat->Nat
def dw(W:Nat->List Int):Nat->List Int
 |0=>[]
 |n+1=>dw W n++W n
def mvL(x:Hx)(T:HTr):List Nat:=[x.a,x.g,x.q]++(List.range T.np).map x.qb
structure uu(B:Nat->Prop)(x:Hx)(T:HTr):Prop where
 bl:B x.l
 br:B x.bR
 bL:B x.bL
 bu:∀t,t<T.n->B (x.ub t)
 bb:∀v,v<T.np->B (x.lb v)
 nm:∀i∈mvL x T,¬B i
 qa:x.q≠x.a
 qg:x.q≠x.g
 va:∀v,v<T.np->x.qb v≠x.a
 vg:∀v,v<T.np->x.qb v≠x.g
 vq:∀v,v<T.np->x.qb v≠x.q
 inj:∀v u,v<T.np->u<T.np->x.qb v=x.qb u->v=u
 n32:T.n<=32
 p32:T.np<=32
 d5:T.D<=5
 v32:∀v,v<T.np->T.nv v<=32
 kR:T.np<=x.kR
 kL:T.n<=x.kL
 uk:∀t,t<T.n->T.D<=x.uk t
structure aU(B:Nat->Prop)(w:World)(x:Hx)(T:HTr)(bud:Int)(s:Ar)(m:Hm):Prop where
 fx:uu B x T
 ar:aB w x.a x.g s
 cat:s.W=dw m.W T.np
 wl:∀v,v<T.np->(m.W v).length=2*T.nv v+1
 lk:Blk w x.l 247 #[int i64 bud,slice (some ⟨x.bR,x.oR,none⟩) T.np x.kR,slice (some ⟨x.bL,x.oL,none⟩) T.n x.kL,slice (some ⟨x.q,0,none⟩) T.n T.n]
 sn:m.S.length=T.n
 ss:dA w x.q m.S
 rk:∀v,v<T.np->Blk w (x.lb v) 319 #[↑x.a,int i64 ((dw m.W v).length+1),slice (some ⟨x.qb v,0,none⟩) (m.P v).length (m.P v).length]
 rn:∀v,v<T.np->(m.P v).length=T.nv v
 rs:∀v,v<T.np->dA w (x.qb v) (m.P v)
 cR:∀v,v<T.np->w.cell? ⟨x.bR,x.oR+v,none⟩=some (pointer (some ⟨x.lb v,0,none⟩))
 cL:∀t,t<T.n->w.cell? ⟨x.bL,x.oL+t,none⟩=some (slice (some ⟨x.ub t,x.uo t,none⟩) T.D (x.uk t))
 cP:∀t k,t<T.n->k<T.D->w.cell? ⟨x.ub t,x.uo t+k*2,none⟩=some (pointer (some ⟨x.lb (T.pl t k),0,none⟩))
 cS:∀t k,t<T.n->k<T.D->w.cell? ⟨x.ub t,x.uo t+k*2+1,none⟩=some (int i64 (T.sl t k))
 bd:∀i,B i->i<w.heap.size
def aa.cell(k:aa S w w'){p:Addr}{u:Value}(h:w.cell? p=some u)(hS:p.block∉S):w'.cell? p=some u:=by exact aa1
def sr(W:Nat->List Int)(v:Nat)(X:List Int):∀n,n<=v->dw (aX W v X) n=dw W n
 |0,_=>rfl
 |n+1,h=>by show dw (aX W v X) n++aX W v X n=dw W n++W n;rw[sr W v X n ahp,aY _ _ ahp]
def sq{W H:Nat->List Int}:∀n,(∀v,v<n->(W v).length=(H v).length)->(dw W n).length=(dw H n).length
 |0,_=>rfl
 |n+1,h=>by show(dw W n++W n).length=(dw H n++H n).length;rw[List.length_append,List.length_append,sq n (λv O=>h v ahp),h n ahp]
def nM(W:Nat->List Int)(v:Nat):∀d,∃C,dw W (v+1+d)=dw W v++W v++C/\∀X,dw (aX W v X) (v+1+d)=dw W v++X++C
 |0=>⟨[],by show dw W v++W v=_;simp,λX=>by show dw (aX W v X) v++aX W v X v=_;rw[sr W v X v (Nat.le_refl _),aW];simp⟩
 |d+1=>by
  obtain⟨C,h1,h⟩:=nM W v d;refine⟨C++W (v+1+d),?_,λX=>?_⟩;.show dw W (v+1+d)++W (v+1+d)=_;rw[h1];simp
  .show dw (aX W v X) (v+1+d)++aX W v X (v+1+d)=_;rw[h,aY _ _ ahp];simp
def qI{W:Nat->List Int}{b:Nat}:∀n,(∀v,v<n->(W v).length<=b)->(dw W n).length<=n*b
 |0,_=>by simp[dw]
 |n+1,h=>by have h1:=qI n λv O=>h v ahp;have H:=h n ahp;show(dw W n++W n).length<=(n+1)*b;rw[List.length_append,Nat.add_mul,Nat.one_mul];omega
section
variable{x:Hx}{T:HTr}{s s':Ar}{m:Hm}
def uu.mv(f:uu B x T)(h:B i):i∉mvL x T:=λhm=>f.nm i hm h
def uu.qbm(_:uu B x T)(O:v<T.np):x.qb v∈mvL x T:=List.mem_append_right _ (List.mem_map.2 ⟨v,List.mem_range.2 O,rfl⟩)
def uu.lm(f:uu B x T)(h:B i):i≠x.a/\i≠x.g/\i≠x.q/\∀v,v<T.np->i≠x.qb v:=by have:=f.mv h;refine⟨λe=>this (by simp[mvL,e]),λe=>this (by simp[mvL,e]),λe=>this (by simp[mvL,e]),λv O e=>this (by rw[e];exact f.qbm O)⟩
def aU.turns(h:aU B w x T bud s m)(k:aa S w w')(h1:∀i∈S,¬B i)(h2:∀i∈S,i∉mvL x T):aU B w' x T bud s m:=by
 have V:∀i,B i->i∉S:=λi I hm=>h1 i hm I;have Y:∀i,i∈mvL x T->i∉S:=λi I hm=>h2 i hm I
 exact⟨h.fx,h.ar.turns k (Y _ (by simp[mvL])) (Y _ (by simp[mvL])),h.cat,h.wl,k.blk h.lk (V _ h.fx.bl),h.sn,h.ss.turns k (Y _ (by simp[mvL])),λv O=>k.blk (h.rk v O) (V _ (h.fx.bb v O)),h.rn,λv O=>(h.rs v O).turns k (Y _ (h.fx.qbm O)),
  λv O=>k.cell (h.cR v O) (V _ h.fx.br),λt H=>k.cell (h.cL t H) (V _ h.fx.bL),λt i H hi=>k.cell (h.cP t i H hi) (V _ (h.fx.bu t H)),λt i H hi=>k.cell (h.cS t i H hi) (V _ (h.fx.bu t H)),λi I=>Nat.lt_of_lt_of_le (h.bd i I) k.size⟩
def aU.below(h:aU B w x T bud s m)(k:Below w.heap.size w w'):aU B w' x T bud s m:=h.turns (S:=[]) (aa.of_below k) ahq ahq
def aU.new(h:aU B w x T bud s m):¬B w.heap.size/\w.heap.size∉mvL x T:=by
 refine⟨λI=>absurd (h.bd _ I) (Nat.lt_irrefl _),λhm=>?_⟩;unfold mvL at hm;have h1:=h.ar.blk.lt;have H:=h.ar.wds.lt;have V:=h.ss.lt;rcases List.mem_append.1 hm with hm|hm
 .simp at hm;omega
 .obtain⟨v,O,e⟩:=List.mem_map.1 hm;have:=(h.rs v (List.mem_range.1 O)).lt;omega
def aU.rg(h:aU B w x T bud s m)(O:v<T.np):cX w (x.lb v) x.a x.g (x.qb v) ((dw m.W v).length+1) ⟨s,m.P v⟩:=by have f:=h.fx;obtain⟨H,I,e3,e4⟩:=f.lm (f.bb v O);exact⟨h.ar,h.rk v O,h.rs v O,H,I,e4 v O,f.va v O,f.vg v O,by show(m.P v).length<=32;rw[h.rn v O];exact f.v32 v O⟩
def aU.rgTurn(h:aU B w x T bud s m)(O:v<T.np){X:List Int}{Y:List Sp}(V:cX w' (x.lb v) x.a x.g (x.qb v) ((dw m.W v).length+1) ⟨s',Y⟩)(hc:s'.W=dw (aX m.W v X) T.np)(hX:X.length=2*T.nv v+1)(hP:Y.length=T.nv v)(k:aa [x.a,x.g,x.qb v] w w'):aU B w' x T bud s' {m with W:=aX m.W v X,P:=aX m.P v Y}:=by
  have f:=h.fx;have hB:∀i,B i->i∉[x.a,x.g,x.qb v]:=λi I=>by obtain⟨e1,e2,e3,e4⟩:=f.lm I;simp[e1,e2,e4 v O]
  have hq:x.q∉[x.a,x.g,x.qb v]:=by simp only[List.mem_cons,List.not_mem_nil,or_false,not_or];exact⟨f.qa,f.qg,λe=>f.vq v O e.symm⟩
  have hl:∀u,(dw (aX m.W v X) u).length=(dw m.W u).length:=λu=>sq u λy _=>by
    by_cases e:y=v;. subst e;rw[aW,hX,h.wl y O]
    . rw[aY _ _ e]
  refine⟨f,V.ar,hc,λu H=>?_,k.blk h.lk (hB _ f.bl),h.sn,h.ss.turns k hq,λu H=>?_,λu H=>?_,λu H=>?_,
    λu H=>k.cell (h.cR u H) (hB _ f.br),λt ht=>k.cell (h.cL t ht) (hB _ f.bL),λt i ht hi=>k.cell (h.cP t i ht hi) (hB _ (f.bu t ht)),λt i ht hi=>k.cell (h.cS t i ht hi) (hB _ (f.bu t ht)),λi I=>Nat.lt_of_lt_of_le (h.bd i I) k.size⟩
  . show(aX m.W v X u).length=_;by_cases e:u=v;. subst e;rw[aW];exact hX
    . rw[aY _ _ e];exact h.wl u H
  . show Blk w' (x.lb u) _ #[_,J ((dw (aX m.W v X) u).length+1),.slice _ (aX m.P v Y u).length (aX m.P v Y u).length];rw[hl u];by_cases e:u=v;. subst e;rw[aW];exact V.lk
    . rw[aY _ _ e];exact k.blk (h.rk u H) (hB _ (f.bb u H))
  . show(aX m.P v Y u).length=_;by_cases e:u=v;. subst e;rw[aW];exact hP
    . rw[aY _ _ e];exact h.rn u H
  . show dA w' (x.qb u) (aX m.P v Y u);by_cases e:u=v;. subst e;rw[aW];exact V.sp
    . rw[aY _ _ e];exact(h.rs u H).turns k (by simp only[List.mem_cons,List.not_mem_nil,or_false,not_or];exact⟨f.va u H,f.vg u H,λe'=>e (f.inj u v H O e')⟩)
def aU.spTurn(h:aU B w x T bud s m){Y:List Sp}(hs:dA w' x.q Y)(hl:Y.length=T.n)(k:aa [x.q] w w'):aU B w' x T bud s {m with S:=Y}:=by
 have f:=h.fx;have V:∀i,B i->i∉[x.q]:=λi I=>by simp[(f.lm I).2.2.1]
 exact⟨f,h.ar.turns k (by simpa using λe=>f.qa e.symm) (by simpa using λe=>f.qg e.symm),h.cat,h.wl,k.blk h.lk (V _ f.bl),hl,hs,λv O=>k.blk (h.rk v O) (V _ (f.bb v O)),h.rn,λv O=>(h.rs v O).turns k (by simpa using f.vq v O),
  λv O=>k.cell (h.cR v O) (V _ f.br),λt H=>k.cell (h.cL t H) (V _ f.bL),λt i H hi=>k.cell (h.cP t i H hi) (V _ (f.bu t H)),λt i H hi=>k.cell (h.cS t i H hi) (V _ (f.bu t H)),λi I=>Nat.lt_of_lt_of_le (h.bd i I) k.size⟩
def aU.l0(k:aU B w x T bud s m):w.cell? x.l=some (J bud):=k.lk.cell 0
def aU.l2(k:aU B w x T bud s m):Z w x.l 2 (slice (some ⟨x.bL,x.oL,none⟩) T.n x.kL):=k.lk.cell 2
def aU.l3(k:aU B w x T bud s m):Z w x.l 3 (slice (some ⟨x.q,0,none⟩) T.n T.n):=k.lk.cell 3
def i7(k:aU B w x T bud s m):E 255 #[↑x.l] w λe w'=>e= returned (J T.n)/\w=w':=by have c5:=k.l3;clear k;go_enter func255,ntmps255;exact aab
def jQ(k:aU B w x T bud s m)(i:Int):E 253 #[↑x.l,J i] w λe w'=>e= returned (aC (getS m.S i))/\Below w.heap.size w w':=by
  have HN:=k.fx.n32;have O:=k.sn;by_cases I:okI m.S i;. have h:=dJ I;obtain⟨p,Y⟩:=LE (getS m.S i);rw[<-Y]at h ⊢;have c2:=k.l3;have a0:=aaa (k.ss.cell h 0 _ rfl);have a1:=k.ss.cell h 1 _ rfl;have a2:=k.ss.cell h 2 _ rfl;have a3:=k.ss.cell h 3 _ rfl;obtain⟨V,h1⟩:=I;rw[O]at h1;obtain⟨n,rfl⟩:=Int.eq_ofNat_of_zero_le V;simp only[Int.toNat_natCast]at a0 a1 a2 a3;have JZ:=k.lk.lt;have JY:=k.ss.lt;refine ajh ?_;intro t2 t3;have t4:n<T.n:=(by omega);have H:Kq (aU B (w.alloc (cells #[J 0,J 0,J 0,J 0] 113)) x T bud s m):=qh (k.below ((Below.refl _ _).alloc (Nat.le_refl _) _));clear k h Y V h1 O;go_enter func253,ntmps253;go_wp2_with (go_at_call 255;refine(i7 H.o).mono ?_;rintro e w' ⟨rfl,rfl⟩);exact bodyPost_ret (results_cell_row aht _ _ w.heap.size 113 _ (0,0) _ aht (heap_alloc_new w _) Tryz.underlying113 rfl ahs) rfl ⟨rfl,(Below.refl _ _).alloc (Nat.le_refl _) _⟩
  . have H:Kq (aU B (w.alloc (cells #[J 0,J 0,J 0,J 0] 113)) x T bud s m):=qh (k.below ((Below.refl _ _).alloc (Nat.le_refl _) _));rw[dC I];unfold okI at I;rw[O]at I;clear k O;by_cases V:i<0;. go_enter func253,ntmps253;go_wp2;exact bodyPost_ret (results_cell_row aht _ _ w.heap.size 113 _ (0,0) _ aht (heap_alloc_new w _) Tryz.underlying113 rfl ahs) rfl ⟨rfl,(Below.refl _ _).alloc (Nat.le_refl _) _⟩
    . have t3:((T.n:Nat):Int)<=i:=(by omega);clear I;go_enter func253,ntmps253;go_wp2_with (go_at_call 255;refine(i7 H.o).mono ?_;rintro e w' ⟨rfl,rfl⟩);exact bodyPost_ret (results_cell_row aht _ _ w.heap.size 113 _ (0,0) _ aht (heap_alloc_new w _) Tryz.underlying113 rfl ahs) rfl ⟨rfl,(Below.refl _ _).alloc (Nat.le_refl _) _⟩
end
end
section
open Go.RowKit
variable{S:List Sp}
def fM{α:Type}(f:Nat->α)(v:Nat):aX f v (f v)=f:=by
 funext u;unfold aX;split;.rename_i h;rw[h]
 .rfl
def dO(h:j<S.length):getS S (j:Int)=sv S j:=by unfold getS sv;rw[if_pos ahp,Int.toNat_natCast]
def gB(h:j<S.length):S[j]? =some (sv S j):=by unfold sv;rw[List.getD_eq_getElem?_getD,List.getElem?_eq_getElem h];rfl
section
variable{x:Hx}{T:HTr}{s s':Ar}{m:Hm}
def aU.sub1(h:aU B w x T bud s m)(O:v<T.np):∀i∈[x.qb v],i∈mvL x T:=by intro i hi;simp only[List.mem_cons,List.not_mem_nil,or_false]at hi;rw[hi];exact h.fx.qbm O
def aU.sub3(h:aU B w x T bud s m)(O:v<T.np):∀i∈[x.a,x.g,x.qb v],i∈mvL x T:=by
 intro i hi;simp only[List.mem_cons,List.not_mem_nil,or_false]at hi;rcases hi with rfl|rfl|rfl
 .simp[mvL]
 .simp[mvL]
 .exact h.fx.qbm O
def aU.spot1(h:aU B w x T bud s m)(O:v<T.np)(H:j<T.nv v):E 257 #[pointer (some ⟨x.lb v,0,none⟩),J j] w λe w'=>e= returned (aC (m.sp v j))/\Below w.heap.size w w':=by have e:getS (m.P v) (j:Int)=m.sp v j:=dO (by rw[h.rn v O];exact H);rw[<-e];exact po (h.rg O) j
def aU.put1(h:aU B w x T bud s m)(O:v<T.np){H:List Sp}(V:cX w' (x.lb v) x.a x.g (x.qb v) ((dw m.W v).length+1) ⟨s,H⟩)(I:H.length=T.nv v)(k:aa [x.qb v] w w'):aU B w' x T bud s {m with P:=aX m.P v H}:=by have:=h.rgTurn O (X:=m.W v) V (by rw[fM];exact h.cat) (h.wl v O) I (k.mono ahq);rw[fM]at this;exact this
def H1(B:Nat->Prop)(w:World)(x:Hx)(T:HTr)(bud:Int)(s:Ar)(m':Hm)(e:Ending)(w':World):Prop:=∃b,e= returned (.bool b)/\aU B w' x T bud s m'/\aa (mvL x T) w w'
def aU.ask1(h:aU B w x T bud s m)(O:v<T.np)(Y:j<T.nv v):E 256 #[pointer (some ⟨x.lb v,0,none⟩),J j] w (H1 B w x T bud s (kE m v j)):=by
 have H:=h.rn v O;have I:j<(m.P v).length:=by omega
 refine(De (h.rg O) j).mono ?_;rintro e w' ⟨rfl,V,t⟩;refine⟨_,rfl,?_,t.mono (h.sub1 O)⟩;unfold kE;have e:getS (m.P v) (j:Int)=m.sp v j:=dO I;unfold dg at V;simp only[e]at V;by_cases c:(m.sp v j).pc=0;.rw[if_pos ⟨⟨by omega,by show((j:Nat):Int)<(m.P v).length;omega⟩,c⟩]at V;rw[if_pos c];exact h.put1 O V (by simp[H]) t
 .rw[if_neg (λh=>c h.2)]at V;rw[if_neg c];have:=h.put1 O V H t;rw[fM]at this;exact this
def aU.wth0(h:aU B w x T bud s m)(O:v<T.np)(Y:j<T.nv v)(u c:Int)(V:cX w' (x.lb v) x.a x.g (x.qb v) ((dw m.W v).length+1) (ia ⟨s,m.P v⟩ j u c).1)(t:aa [x.qb v] w w'):aU B w' x T bud s (gn m v j u c):=by
 have H:=h.rn v O;have I:j<(m.P v).length:=by omega
 unfold gn;have e:getS (m.P v) (j:Int)=m.sp v j:=dO I;unfold ia at V;simp only[e]at V;by_cases cc:(m.sp v j).pc=10;.rw[if_pos ⟨⟨by omega,by show((j:Nat):Int)<(m.P v).length;omega⟩,cc⟩]at V;rw[if_pos cc];exact h.put1 O V (by simp[H]) t
 .rw[if_neg (λh=>cc h.2)]at V;rw[if_neg cc];have:=h.put1 O V H t;rw[fM]at this;exact this
def aU.leave1(h:aU B w x T bud s m)(O:v<T.np)(H:j<T.nv v)(c:Int):E 264 #[pointer (some ⟨x.lb v,0,none⟩),J j,J c] w (H1 B w x T bud s (gn m v j 11 c)):=
 (yG (h.rg O) j c).mono λ_ _ ⟨e,V,t⟩=>⟨_,e,h.wth0 O H 11 c V t,t.mono (h.sub1 O)⟩
def aU.pass1(h:aU B w x T bud s m)(O:v<T.np)(H:j<T.nv v)(c:Int):E 265 #[pointer (some ⟨x.lb v,0,none⟩),J j,J c] w (H1 B w x T bud s (gn m v j 15 c)):=
 (Cq (h.rg O) j c).mono λ_ _ ⟨e,V,t⟩=>⟨_,e,h.wth0 O H 15 c V t,t.mono (h.sub1 O)⟩
def RtS.pcO{W:List Int}(r:RtS n W S):∀p∈S,Gl p:=by
 intro p H;obtain⟨i,hi⟩:=List.getElem?_of_mem H;have h:i<S.length:=(List.getElem?_eq_some_iff.1 hi).1;have e:sv S i=p:=by rw[gB h]at hi;injection hi
 rw[<-e];exact r.i.pcs i (by rw[<-r.len];exact h)
def zm(s:Ar)(t y:Int)(p:Sp):(dc s t y p).1.W.length=s.W.length:=by
 unfold dc;split
 .unfold iM;repeat' split
  all_goals simp only[ay,dN,aP,bJ]
 .unfold eB;repeat' split
  all_goals simp only[ay,gO,aP,bJ]
  all_goals (try split)<;>simp only[bJ]
def S1(B:Nat->Prop)(w:World)(x:Hx)(T:HTr)(bud:Int)(s s':Ar)(m':Hm)(b:Bool)(e:Ending)(w':World):Prop:=e= returned (.bool b)/\aU B w' x T bud s' m'/\s'.ops<=s.ops+1/\aa (mvL x T) w w'
def Bw(s:Ar)(m:Hm)(v j:Nat):Ar:=(dc s (((dw m.W v).length:Nat)+1) ((j:Int)+1) (m.sp v j)).1
def aU.step1(h:aU B w x T bud s m)(O:v<T.np)(hj:j<T.nv v)(V:RtS (T.nv v) (m.W v) (m.P v))(Y:s.ops+1<=1000000000000):E 259 #[pointer (some ⟨x.lb v,0,none⟩),J j] w
      (S1 B w x T bud s (if (m.sp v j).pc=0\/(m.sp v j).pc=10 then s else Bw s m v j) (if (m.sp v j).pc=0\/(m.sp v j).pc=10 then m else dV m v j) (if (m.sp v j).pc=0\/(m.sp v j).pc=10 then false else decide (((dV m v j).sp v j).pc=0\/((dV m v j).sp v j).pc=10))):=by
  have hl:=h.rn v O;have I:j<(m.P v).length:=by omega
  have e0:getS (m.P v) (j:Int)=m.sp v j:=dO I;refine(CR (h.rg O) j Y V.pcO).mono ?_;rintro e w' ⟨rfl,hg,t⟩;unfold mA at hg ⊢;simp only[e0]at hg ⊢;by_cases c:(m.sp v j).pc=0\/(m.sp v j).pc=10
  . rw[if_pos c,if_pos c,if_pos c]
    have H:¬(okI (m.P v) (j:Int)/\(m.sp v j).pc≠0/\(m.sp v j).pc≠10):=λh=>by
      rcases c with c|c
      . exact h.2.1 c
      . exact h.2.2 c
    rw[if_neg H]at hg ⊢;refine⟨rfl,?_,by omega,t.mono (h.sub3 O)⟩;have:=h.rgTurn O (X:=m.W v) hg (by rw[fM];exact h.cat) (h.wl v O) hl t;rw[fM,fM]at this;exact this
  . rw[if_neg c,if_neg c,if_neg c];have H:okI (m.P v) (j:Int)/\(m.sp v j).pc≠0/\(m.sp v j).pc≠10:=⟨⟨by omega,by omega⟩,λe=>c (.inl e),λe=>c (.inr e)⟩;rw[if_pos H]at hg ⊢;simp only[Int.toNat_natCast]at hg;obtain⟨C,h1,h2⟩:=nM m.W v (T.np-(v+1));rw[show v+1+(T.np-(v+1))=T.np by omega]at h1 h2
    have hA:(dw m.W v).length<=5000:=by
      have f:=h.fx;have:=qI (W:=m.W) (b:=65) v λu hu=>by have:=h.wl u ahp;have:=f.v32 u ahp;omega
      have:=f.p32;omega
    have hq:=V.reach hj;have JV:(m.sp v j)=sv (m.P v) j:=rfl;obtain⟨g1,g2⟩:=zn (s:=s) (A:=dw m.W v) (W:=m.W v) (C:=C) (n:=T.nv v) (h.cat.trans h1) (h.wl v O) (h.fx.v32 v O) hA (x:=(j:Int)+1) ⟨by omega,by omega⟩ (p:=m.sp v j) hq.1 hq.2;rw[g2]at hg ⊢;have hs:(dV m v j).sp v j=(dc (arW (m.W v)) 1 ((j:Int)+1) (m.sp v j)).2:=(by unfold Hm.sp dV;show sv (aX m.P v _ v) j=_;rw[aW,cJ,if_pos ⟨rfl,I⟩];rfl);rw[hs];refine⟨rfl,?_,qv s _ _ _,t.mono (h.sub3 O)⟩;exact h.rgTurn O hg (by unfold Bw;rw[g1,h2]) (by rw[zm];exact h.wl v O) (by simp[hl]) t
end
end
section
open Go.RowKit
section
variable{x:Hx}{T:HTr}{s s':Ar}{m:Hm}
def mQ(T:HTr)(m:Hm)(i:Int):Hm:=if okI m.S i then sh T m i.toNat else m
def aU.sc(h:aU B w x T bud s m){p:Sp}(H:m.S[n]? =some p):Z w x.q (n*4) (J p.pc)/\Z w x.q (n*4+1) (J p.a)/\Z w x.q (n*4+2) (J p.b)/\Z w x.q (n*4+3) (J p.c):=by have a0:=aaa (h.ss.cell H 0 _ rfl);exact⟨a0,h.ss.cell H 1 _ rfl,h.ss.cell H 2 _ rfl,h.ss.cell H 3 _ rfl⟩
def aU.put4(h:aU B w x T bud s m)(hn:n<T.n)(p':Sp):aU B ((((w.setCell ⟨x.q,n*4,none⟩ (J p'.pc)).setCell ⟨x.q,n*4+1,none⟩ (J p'.a)).setCell ⟨x.q,n*4+2,none⟩ (J p'.b)).setCell ⟨x.q,n*4+3,none⟩ (J p'.c)) x T bud s (m.thr n p'):=by
 have H:n<m.S.length:=by rw[h.sn];exact hn
 have O:=gB H;obtain⟨p,e⟩:=LE (sv m.S n);rw[<-e]at O;have g:∀(S:List Sp) (y:Sp),n<S.length->(S.set n y)[n]? =some y:=λS y h=>by simp[h]
 have h1:=h.ss.put O (j:=0) (u:= J p'.pc) (p':=⟨p'.pc,p.a,p.b,p.c⟩) ahr rfl;have V:=h1.put (g _ _ H) (j:=1) (u:= J p'.a) (p':=⟨p'.pc,p'.a,p.b,p.c⟩) ahr rfl;have Y:=V.put (g _ _ (by simpa using H)) (j:=2) (u:= J p'.b) (p':=⟨p'.pc,p'.a,p'.b,p.c⟩) ahr rfl;have I:=Y.put (g _ _ (by simpa using H)) (j:=3) (u:= J p'.c) (p':=p') ahr rfl;simp only[List.set_set,Nat.add_zero]at I
 have t:aa [x.q] w ((((w.setCell ⟨x.q,n*4,none⟩ (J p'.pc)).setCell ⟨x.q,n*4+1,none⟩ (J p'.a)).setCell ⟨x.q,n*4+2,none⟩ (J p'.b)).setCell ⟨x.q,n*4+3,none⟩ (J p'.c)):=
  ((((aa.refl _ w).setCell (.inl ahq) _).setCell (.inl ahq) _).setCell (.inl ahq) _).setCell (.inl ahq) _
 exact h.spTurn I (by simp[h.sn]) t
def da{q:Nat}(k:aa S w w')(h:q∈S)(i:Nat)(u:Value):aa S w (w'.setCell ⟨q,i,none⟩ u):=k.setCell (.inl h) _
def q_mv(x:Hx)(T:HTr):x.q∈mvL x T:=by simp[mvL]
def aU.alloc(k:aU B w x T bud s m)(o:Obj):aU B (w.alloc o) x T bud s m:=k.below ((Below.refl _ _).alloc (Nat.le_refl _) _)
def zK(B:Nat->Prop)(w:World)(x:Hx)(T:HTr)(bud:Int)(s:Ar)(m:Hm)(i:Int)(e:Ending)(w':World):Prop:=e= returned (bool (decide (okI m.S i/\(getS m.S i).pc=0)))/\aU B w' x T bud s (mQ T m i)/\aa (mvL x T) w w'
def GY(k:aU B w x T bud s m)(hT:T.Ok)(i:Int):E 250 #[↑x.l,J i] w (zK B w x T bud s m i):=by
 have H:=qh k;have HN:=k.fx.n32;have J6:=k.sn;have hd:=hT.d1;have QT:=k.fx.d5;by_cases O:okI m.S i
 .have Y:=dJ O;obtain⟨p,V⟩:=LE (getS m.S i);rw[<-V]at Y;have c2:=k.l3;have a0:=aaa (k.ss.cell Y 0 _ rfl);obtain⟨I,h1⟩:=id O;rw[J6]at h1;obtain⟨n,rfl⟩:=Int.eq_ofNat_of_zero_le I;simp only[Int.toNat_natCast]at a0 Y;refine ajh ?_;intro t2 t3;have t4:n<T.n:=by omega
  have JZ:=k.lk.lt;have JY:=k.ss.lt;by_cases I:p.pc=0
  .have y0:(p.pc==0)=true:=(by simpa using I);have y1:(p.pc !=0)=false:=(by simpa using I);have MH:=k.l2;have cL:=k.cL n t4;have cP:=k.cP n 0 t4 ahp;have cS:=k.cS n 0 t4 ahp;simp only[Nat.zero_mul,Nat.add_zero]at cP cS;have g1:(0:Int)<T.D:=(by omega);have g2:0<T.D:=by omega
   have HA:Kq (mQ T m n=(kE m (T.pl n 0) (T.sl n 0)).thr n ⟨1,0,0,0⟩):=qh (by
    unfold mQ sh
    rw[if_pos O,Int.toNat_natCast,<-dO ahp,<-V,if_pos I])
   have HR:Kq (decide (okI m.S n/\(getS m.S n).pc=0)=true):=qh (decide_eq_true ⟨O,by rw[<-V];exact I⟩);have HV:=qh (And.intro (hT.plt n 0 t4 ahp) (hT.slt n 0 t4 ahp));have Lk:=qh Y;clear k Y V I h1 O;go_enter func250,ntmps250;go_wp2_with (go_at_call 255;refine(i7 H.o).mono ?_;rintro e w' ⟨rfl,rfl⟩);refine((H.o.alloc _).ask1 HV.o.1 HV.o.2).mono ?_;rintro en w1 ⟨b,rfl,h1,t1⟩;have c2:=h1.l3;have f1:∀j,w1.frozen? ⟨x.q,j,none⟩=false:=λj=>h1.ss.free j;obtain⟨b0,b1,b2,b3⟩:=h1.sc (n:=n) (p:=p) (by rw[Fk];exact Lk.o);have H1:=qh (And.intro h1 (aa.trans ((aa.refl _ w).alloc _) t1));have JY:=h1.ss.lt;clear h1 t1;go_wp2;go_ret;unfold zK;rw[HR.o,HA.o];exact⟨rfl,H1.o.1.put4 t4 ⟨1,0,0,0⟩,da (da (da (da H1.o.2 (q_mv x T) _ _) (q_mv x T) _ _) (q_mv x T) _ _) (q_mv x T) _ _⟩
  .have y1:(p.pc !=0)=true:=by simpa using I
   have HA:Kq (mQ T m n=m):=qh (by
    unfold mQ sh
    rw[if_pos O,Int.toNat_natCast,<-dO ahp,<-V,if_neg I])
   have HR:Kq (decide (okI m.S n/\(getS m.S n).pc=0)=false):=qh (decide_eq_false λh=>I (by rw[V];exact h.2));clear k Y V I h1 O;exact abz
 .have HA:Kq (mQ T m i=m):=qh (by unfold mQ;rw[if_neg O]);have HR:Kq (decide (okI m.S i/\(getS m.S i).pc=0)=false):=qh (decide_eq_false λh=>O h.1);unfold okI at O;rw[J6]at O;clear k;by_cases I:i<0;.go_enter func250,ntmps250;go_wp2;exact abA
  .have t3:((T.n:Nat):Int)<=i:=(by omega);clear O;exact abz
end
end
section
open Go.RowKit
section
variable{x:Hx}{T:HTr}{s s':Ar}{m:Hm}
def pK(m:Hm)(v j n:Nat)(u c:Int)(p:Sp):gn (m.thr n p) v j u c=(gn m v j u c).thr n p:=by unfold gn;have e:(m.thr n p).sp v j=m.sp v j:=rfl;rw[e];split<;>rfl
def zX(m:Hm)(v j n:Nat)(p:Sp):kE (m.thr n p) v j=(kE m v j).thr n p:=by unfold kE;have e:(m.thr n p).sp v j=m.sp v j:=rfl;rw[e];split<;>rfl
def ny(m:Hm)(n:Nat)(p p':Sp):(m.thr n p).thr n p'=m.thr n p':=by unfold Hm.thr;simp
def aU.put1c(h:aU B w x T bud s m){p p':Sp}(O:m.S[n]? =some p){u:Value}(I:j<4)(H:(bf p).set j u=bf p'):aU B (w.setCell ⟨x.q,n*4+j,none⟩ u) x T bud s (m.thr n p'):=
 h.spTurn (h.ss.put O I H) (by simp[h.sn]) ((aa.refl _ w).setCell (.inl ahq) _)
def aU.gt(h:aU B w x T bud s m)(H:n<T.n)(p:Sp):(m.thr n p).S[n]? =some p:=by
 have:n<m.S.length:=by rw[h.sn];exact H
 show(m.S.set n p)[n]? =some p;simp[this]
def aU.drewN(h:aU B w x T bud s m)(n:Nat):aU B (w.drewN n) x T bud s m:=h.below (Qt.below ⟨n,rfl⟩ _)
def VD(B:Nat->Prop)(w:World)(x:Hx)(T:HTr)(bud:Int)(s:Ar)(m':Hm)(e:Ending)(w':World):Prop:=e= returned (tuple #[])/\aU B w' x T bud s m'/\aa (mvL x T) w w'
def aU.lev(h:aU B w x T bud s m)(H:n<T.n)(hc:c<T.D):Z w x.l 2 (slice (some ⟨x.bL,x.oL,none⟩) T.n x.kL)/\Z w x.bL (x.oL+n) (slice (some ⟨x.ub n,x.uo n,none⟩) T.D (x.uk n))/\Z w (x.ub n) (x.uo n+c*2) (pointer (some ⟨x.lb (T.pl n c),0,none⟩))/\Z w (x.ub n) (x.uo n+c*2+1) (J (T.sl n c)):=⟨h.l2,h.cL n H,h.cP n c H hc,h.cS n c H hc⟩
def aU.lt4(h:aU B w x T bud s m)(H:n<T.n)(hc:c<T.D):x.l<w.heap.size/\x.bL<w.heap.size/\x.ub n<w.heap.size/\x.q<w.heap.size:=⟨h.lk.lt,aM (h.cL n H),aM (h.cP n c H hc),h.ss.lt⟩
def FE(k:aU B w x T bud s m)(hT:T.Ok)(I:n<T.n)(hc:(sv m.S n).c=c)(KA:c<T.D):E 261 #[↑x.l,J n] w (VD B w x T bud s (kw T m n c)):=by
 refine ajO ?_;intro H HN QT J6 p i' hp;rw[<-i']at hc;have c3:=k.l3;obtain⟨b0,b1,b2,b3⟩:=k.sc hp;rw[hc]at b3;have f1:∀j,w.frozen? ⟨x.q,j,none⟩=false:=λj=>k.ss.free j;refine ajh ?_;intro t2 t3;have V:=qh (And.intro hp (And.intro i' hc));by_cases h0:c=0
 .subst h0;clear k hp i' hc;go_enter func261,ntmps261;go_wp2;go_end0;have e:kw T m n 0=m.thr n {p with pc:=0}:=by unfold kw;rw[if_pos rfl,<-V.o.2.1]
  rw[e];exact⟨rfl,H.o.put1c V.o.1 (j:=0) ahr rfl,da (aa.refl _ w) (q_mv x T) _ _⟩
 .obtain⟨d,rfl⟩:∃d,c=d+1:=⟨c-1,by omega⟩;have O:d<T.D:=by omega
  obtain⟨MH,cL,cP,cS⟩:=k.lev I O;have y0:(((d+1:Nat):Int)==0)=false:=by simp;omega
  clear k hp i' hc h0;go_enter func261,ntmps261;go_wp2;have h:=(H.o.put1c V.o.1 (j:=3) (u:= J d) (p':={p with c:=d}) ahr rfl).put1c (H.o.gt I _) (j:=0) (u:= J 12) (p':={p with pc:=12,c:=d}) ahr rfl;rw[ny]at h;simp only[Nat.add_zero]at h;have Y:=da (da (aa.refl (mvL x T) w) (q_mv x T) (n*4+3) (J d)) (q_mv x T) (n*4) (J 12);obtain⟨w2,UB⟩:=LE ((w.setCell ⟨x.q,n*4+3,none⟩ (J d)).setCell ⟨x.q,n*4,none⟩ (J 12));rw[<-UB]at h Y ⊢;have H2:=qh (And.intro h Y);clear UB b0 b1 b2 b3 c3 MH cL cP cS f1;obtain⟨MH,cL,cP,cS⟩:=h.lev I O;obtain⟨_,_,_,b3⟩:=h.sc (H.o.gt I _);obtain⟨z1,z2,z3,z4⟩:=h.lt4 I O;have HV:=qh (And.intro (hT.plt n d I O) (hT.slt n d I O));clear h Y;go_region;all_goals go_wp2_with fail;refine(((H2.o.1.alloc _).drewN _).leave1 HV.o.1 HV.o.2 (-1)).mono ?_;rintro en w3 ⟨b,rfl,h3,t3⟩;have H3:=qh (And.intro h3 (H2.o.2.trans (((aa.refl _ _).alloc _).drewN _ |>.trans t3)));clear h3 t3;go_wp2;go_end0;have e:kw T m n (d+1)=gn (m.thr n {p with pc:=12,c:=d}) (T.pl n d) (T.sl n d) 11 (-1):=(by unfold kw;rw[if_neg ahp,pK,<-V.o.2.1];have q:((d+1:Nat):Int)-1=d:=(by omega);rw[q];rfl);unfold VD;rw[e];exact⟨rfl,H3.o.1,H3.o.2⟩
end
end
section
open Go.RowKit
def xh(a b c d:Int)(w:World):(Instr.field 113 (agg #[J a,J b,J c,J d]) 1).run prog w= .ok (J b) w:=by kernel_rfl
def DP(a b c d:Int)(w:World):(Instr.field 113 (agg #[J a,J b,J c,J d]) 2).run prog w= .ok (J c) w:=by kernel_rfl
def aa.transNew{M:List Nat}{a b c:World}(h:aa M a b)(k:aa S b c)(H:∀i∈S,a.heap.size<=i):aa M a c:=
 ⟨k.os.trans h.os,k.tape.trans h.tape,k.output.trans h.output,Nat.le_trans h.size k.size,λi hi I=>(k.block i (Nat.lt_of_lt_of_le hi h.size) (λhm=>absurd (H i hm) ahp)).trans (h.block i hi I)⟩
section
variable{x:Hx}{T:HTr}{s s':Ar}{m:Hm}
def FA(k:aU B w x T bud s m)(hT:T.Ok)(O:n<T.n)(hc:(sv m.S n).c=c)(KA:c<T.D):E 260 #[↑x.l,J n] w (VD B w x T bud s (kv T m n c)):=by
 have Ll:=DP;refine ajO ?_;intro H HN QT J6 p i' hp;rw[<-i']at hc;have Lk:=qh (And.intro hp (And.intro i' hc));have c3:=k.l3;obtain⟨b0,b1,b2,b3⟩:=k.sc hp;rw[hc]at b3;obtain⟨MH,cL,cP,cS⟩:=k.lev O KA;obtain⟨z1,z2,z3,z4⟩:=k.lt4 O KA;have HV:=qh (And.intro (hT.plt n c O KA) (hT.slt n c O KA));obtain⟨u,hu⟩:=LE (m.sp (T.pl n c) (T.sl n c));have HU:=qh hu;refine ajh ?_;intro t2 t3;have g2:¬((T.D:Nat):Int)<=(c:Int):=by omega
 by_cases V:u.b=0\/c+1=T.D
 .have HE:Kq (kv T m n c=m.thr n {p with pc:=10}):=qh (by unfold kv;rw[if_pos (by rw[<-hu];exact V),<-i']);clear k hp i' hc hu;go_enter func260,ntmps260;go_wp2;go_region
  all_goals
   go_wp2_with fail;refine ST (((H.o.alloc _).drewN _).spot1 HV.o.1 HV.o.2) λw3 k3=>?_;rw[<-HU.o];unfold aC;have h:=((H.o.alloc _).drewN _).below k3;obtain⟨b0,b1,b2,b3⟩:=h.sc Lk.o.1;rw[Lk.o.2.2]at b3;have f1:∀j,w3.frozen? ⟨x.q,j,none⟩=false:=λj=>h.ss.free j;have H3:=qh (And.intro h (((aa.refl (mvL x T) _).alloc _).drewN _ |>.trans (aa.of_below k3)));clear h k3;by_cases I:u.b=0;.have y:(u.b==0)=true:=(by simpa using I);clear V I;exact abB
   .have y:(u.b==0)=false:=(by simpa using I);have hD:c+1=T.D:=V.resolve_left I;have y2:((c:Int)==(T.D:Int)-1)=true:=(by simp;omega);clear V I hD;exact abB
 .have TQ:c+1<T.D:=by omega
  have y:(u.b==0)=false:=by simpa using λe=>V (.inl e)
  have y2:((c:Int)==(T.D:Int)-1)=false:=by simp;omega
  have HE:Kq (kv T m n c=kE (m.thr n {p with c:=(c:Int)+1}) (T.pl n (c+1)) (T.sl n (c+1))):=qh (by unfold kv;rw[if_neg (by rw[<-hu];exact V),zX,<-i']);have Vo:=qh (And.intro (hT.plt n (c+1) O TQ) (hT.slt n (c+1) O TQ));clear k hp i' hc hu V;go_enter func260,ntmps260;go_wp2;go_region;all_goals go_wp2_with fail;refine ST (((H.o.alloc _).drewN _).spot1 HV.o.1 HV.o.2) λw3 k3=>?_;rw[<-HU.o];unfold aC;have h:=((H.o.alloc _).drewN _).below k3;have hx:Blk w3 w.heap.size 255 #[pointer (some ⟨x.lb (T.pl n c),0,none⟩),J (T.sl n c)]:=(aa.of_below (S:=[]) k3).blk (heap_alloc_new w _) ahq;clear b0 b1 b2 b3 MH cL cP cS c3;obtain⟨b0,b1,b2,b3⟩:=h.sc Lk.o.1;rw[Lk.o.2.2]at b3;have f1:∀j,w3.frozen? ⟨x.q,j,none⟩=false:=λj=>h.ss.free j;have h4:=h.put1c Lk.o.1 (j:=3) (u:= J ((c:Int)+1)) (p':={p with c:=(c:Int)+1}) ahr rfl;have Uo:x.q≠w.heap.size:=(by omega);have t4:=da (((aa.refl (mvL x T) _).alloc _).drewN _ |>.trans (aa.of_below k3)) (q_mv x T) (n*4+3) (J ((c:Int)+1));have Y:=hx.far (λe=>Uo e.symm) (p:=⟨x.q,n*4+3,none⟩) (J ((c:Int)+1));have H4:=qh (And.intro h4 (And.intro t4 Y));have ab:=(h4.sc (H.o.gt O _)).2.2.2;obtain⟨MH,cL,cP,cS⟩:=h4.lev O TQ;have x0:=Y.cell 0;have x1:=Y.cell 1;have y0:=Y.free 0;have y1:=Y.free 1;clear h k3 h4 t4 hx Y;go_wp2_with fail;have t5:aa [w.heap.size] (w3.setCell ⟨x.q,n*4+3,none⟩ (J ((c:Int)+1))) (((w3.setCell ⟨x.q,n*4+3,none⟩ (J ((c:Int)+1))).setCell ⟨w.heap.size,0,none⟩ (pointer (some ⟨x.lb (T.pl n (c+1)),0,none⟩))).setCell ⟨w.heap.size,1,none⟩ (J (T.sl n (c+1)))):=da (da (aa.refl _ _) ahq _ _) ahq _ _;have h5:=H4.o.1.turns t5 (λi hi=>by simp at hi;rw[hi];exact H.o.new.1) (λi hi=>by simp at hi;rw[hi];exact H.o.new.2);refine(h5.ask1 Vo.o.1 Vo.o.2).mono ?_;rintro en w6 ⟨b,rfl,h6,t6⟩;have H6:=qh (And.intro h6 ((H4.o.2.1.transNew t5 λi hi=>by simp at hi;omega).trans t6));clear h5 h6 t5 t6;go_wp2;go_end0;unfold VD;rw[HE.o];exact⟨rfl,H6.o.1,H6.o.2⟩
end
end
section
open Go.RowKit
def pJ{P:Program}{a:Act}{Q:Exit->Act->World->Prop}{c rest:Code}(l:Nat)(hf:findLabel c l=some rest)(first:c.wp P (Exit.jump l (λa' w'=>rest.wp P (Exit.noGoto Q) a' w') Q) a w):(Code.scope c).wp P Q a w:=by exact abg
section
variable{x:Hx}{T:HTr}{s s':Ar}{m:Hm}
def j9(T:HTr)(bud:Int)(m:Hm)(n:Nat):∀(f g k:Nat),T.D-k<=f->T.D-k<=g->k<T.D->ib T bud f m n k=ib T bud g m n k
 |0,_,k,h,_,H=>by omega
 |_+1,0,k,_,h,H=>by omega
 |f+1,g+1,k,h1,I,H=>by
  unfold ib;by_cases c:k+1=T.D;.rw[if_pos c,if_pos c]
  .rw[if_neg c,if_neg c];split;.rfl
   .exact j9 T bud m n f g (k+1) ahp ahp ahp
def x8(T:HTr)(bud:Int)(m:Hm)(n:Nat)(h:k+1=T.D):ib T bud T.D m n k=(gn m (T.pl n k) (T.sl n k) 11 1).thr n {sv m.S n with pc:=12,c:=k}:=by rw[j9 T bud m n T.D 1 k ahp ahp ahp];unfold ib;rw[if_pos h]
def ya(T:HTr)(bud:Int)(m:Hm)(n:Nat)(h:k+1<T.D)(O:(m.sp (T.pl n k) (T.sl n k)).a<=bud):ib T bud T.D m n k=(gn m (T.pl n k) (T.sl n k) 15 ((m.sp (T.pl n k) (T.sl n k)).a+1)).thr n {sv m.S n with pc:=11,c:=k}:=by obtain⟨d,hd⟩:∃d,T.D=d+1:=⟨T.D-1,by omega⟩;rw[j9 T bud m n T.D (d+1) k ahp ahp ahp];unfold ib;rw[if_neg ahp,if_pos O]
def x9(T:HTr)(bud:Int)(m:Hm)(n:Nat)(h:k+1<T.D)(O:¬(m.sp (T.pl n k) (T.sl n k)).a<=bud):ib T bud T.D m n k=ib T bud T.D m n (k+1):=by
 rw[j9 T bud m n T.D (T.D+1) k ahp ahp ahp];conv=>lhs;unfold ib
 rw[if_neg ahp,if_neg O]
def wP(k:aU B w x T bud s m)(hT:T.Ok){k0:Nat}(hn:n<T.n)(V:k0<T.D)(QP:0<=bud/\bud<=1000)(Ld:∀k,k0<=k->k<T.D->0<=(m.sp (T.pl n k) (T.sl n k)).a/\(m.sp (T.pl n k) (T.sl n k)).a<=2000):E 258 #[↑x.l,J n,J k0] w (VD B w x T bud s (ib T bud T.D m n k0)):=by
  have Ll:=xh;refine ajO ?_;intro H HN QT J6 p i' hp;have Lk:=qh (And.intro hp i');have Yn:=qh Ld;have c3:=k.l3;obtain⟨MH,cL,cP,cS⟩:=k.lev hn V;obtain⟨z1,z2,z3,z4⟩:=k.lt4 hn V;refine ajh ?_;intro t2 t3;obtain⟨JX,Kg⟩:=QP;clear k hp i' Ld;go_enter func258,ntmps258;go_wp2;refine pJ 0 rfl ?_;go_wp2;go_region
  all_goals
    go_wp2;go_step3;clear c3 MH cL cP cS z1 z2 z3 z4;go_wp2;go_loopw [2] (λc wr=>∃(k:Nat) (z:Int),c= J k/\k<T.D/\k0<=k/\aU B wr x T bud s (m.thr n {p with c:=z})/\aa (mvL x T) w wr/\ib T bud T.D m n k=ib T bud T.D m n k0) (λc _=>T.D-(intOf c).toNat);case atStart=>refine⟨k0,p.c,rfl,V,by omega,?_,(aa.refl _ _).drewN 1,rfl⟩;have e:m.thr n {p with c:=p.c}=m:=(by unfold Hm.thr;have:m.S.set n p=m.S:=ua Lk.o.1;show({m with S:=m.S.set n p}:Hm)=m;rw[this]);rw[e];exact H.o.drewN 1
    case round=>
      obtain⟨k,z,rfl,Nz,hk,hI,ht,hE⟩:=hrel;have HW:=qh (And.intro hI (And.intro ht hE));have HV:=qh (And.intro (hT.plt n k hn Nz) (hT.slt n k hn Nz));obtain⟨u,hu⟩:=LE (m.sp (T.pl n k) (T.sl n k));have HU:=qh hu;obtain⟨MH,cL,cP,cS⟩:=hI.lev hn Nz;obtain⟨z1,z2,z3,z4⟩:=hI.lt4 hn Nz;have g2:¬((T.D:Nat):Int)<=(k:Int):=(by omega);clear hI ht hE hu;go_wp2_with fail;refine ST ((HW.o.1.alloc _).spot1 HV.o.1 HV.o.2) λw3 k3=>?_;rw[show(m.thr n {p with c:=z}).sp (T.pl n k) (T.sl n k)=u from HU.o.symm];unfold aC;have h3:=(HW.o.1.alloc _).below k3;have hx:Blk w3 wr.heap.size 255 #[pointer (some ⟨x.lb (T.pl n k),0,none⟩),J (T.sl n k)]:=(aa.of_below (S:=[]) k3).blk (heap_alloc_new wr _) ahq;clear MH cL cP cS;have c3:=(h3.sc (H.o.gt hn _)).2.2.2;have f1:∀j,w3.frozen? ⟨x.q,j,none⟩=false:=λj=>h3.ss.free j;have h4:=h3.put1c (H.o.gt hn _) (j:=3) (u:= J (k:Int)) (p':={p with c:=(k:Int)}) ahr rfl;rw[ny]at h4;have Uo:x.q≠wr.heap.size:=(by omega);have t4:=da (HW.o.2.1.trans (((aa.refl (mvL x T) _).alloc _).trans (aa.of_below k3))) (q_mv x T) (n*4+3) (J (k:Int));have N9:=hx.far (λe=>Uo e.symm) (p:=⟨x.q,n*4+3,none⟩) (J (k:Int));have Y:=qh (And.intro h4 t4);have x0:=N9.cell 0;have x1:=N9.cell 1;have l0:=h4.l0;clear h3 k3 h4 t4 hx N9;by_cases hD:k+1=T.D;. have y:((k:Int)==(T.D:Int)-1)=true:=(by simp;omega);have HE:=qh (HW.o.2.2.symm.trans (x8 T bud m n hD));clear hD;go_wp2_with fail;refine(Y.o.1.leave1 HV.o.1 HV.o.2 1).mono ?_;rintro en w5 ⟨b,rfl,h,t5⟩;rw[pK]at h;have c0:=(h.sc (p:={p with c:=(k:Int)}) ah9).1;have f0:∀j,w5.frozen? ⟨x.q,j,none⟩=false:=λj=>h.ss.free j;have I:=h.put1c (n:=n) (p:={p with c:=(k:Int)}) ah9 (j:=0) (u:= J 12) (p':={p with pc:=12,c:=(k:Int)}) ahr rfl;rw[ny]at I;have H6:=qh (And.intro I (da (Y.o.2.trans t5) (q_mv x T) (n*4) (J 12)));clear h I t5;go_wp2;go_end0;unfold VD;rw[HE.o,<-Lk.o.2];exact⟨rfl,H6.o.1,H6.o.2⟩
      . have VH:k+1<T.D:=(by omega);have y:((k:Int)==(T.D:Int)-1)=false:=(by simp;omega);obtain⟨Rz,ab⟩:=Yn.o k hk Nz;rw[<-HU.o]at Rz ab;by_cases O:u.a<=bud;. have HE:=qh (HW.o.2.2.symm.trans (ya T bud m n VH (by rw[<-HU.o];exact O)));go_wp2_with fail;refine(Y.o.1.pass1 HV.o.1 HV.o.2 (u.a+1)).mono ?_;rintro en w5 ⟨b,rfl,h,t5⟩;rw[pK]at h;have c0:=(h.sc (p:={p with c:=(k:Int)}) ah9).1;have f0:∀j,w5.frozen? ⟨x.q,j,none⟩=false:=λj=>h.ss.free j;have I:=h.put1c (n:=n) (p:={p with c:=(k:Int)}) ah9 (j:=0) (u:= J 11) (p':={p with pc:=11,c:=(k:Int)}) ahr rfl;rw[ny]at I;have H6:=qh (And.intro I (da (Y.o.2.trans t5) (q_mv x T) (n*4) (J 11)));clear h I t5;go_wp2;go_end0;unfold VD;rw[HE.o,<-Lk.o.2,<-HU.o];exact⟨rfl,H6.o.1,H6.o.2⟩
        . have HE:=qh ((x9 T bud m n VH (by rw[<-HU.o];exact O)).symm.trans HW.o.2.2);go_wp2;go_roundw;case rel=>exact⟨k+1,k,by go_num,by omega,by omega,Y.o.1,Y.o.2,HE.o⟩
          case measure=>simp[intOf];omega
end
end
section
open Go.RowKit
section
variable{x:Hx}{T:HTr}{s s':Ar}{m:Hm}
def Ew(m:Hm)(h:j<(m.P v).length):(dV m v j).sp v j=(dc (arW (m.W v)) 1 ((j:Int)+1) (m.sp v j)).2:=by unfold Hm.sp dV;show sv (aX m.P v _ v) j=_;rw[aW,cJ,if_pos ⟨rfl,h⟩];rfl
def Ex(m:Hm)(h:u≠v):(dV m v j).sp u k=m.sp u k:=by unfold Hm.sp dV;show sv (aX m.P v _ u) k=_;rw[aY _ _ h]
def ed.va10(h:ed T bud m hb)(H:T.Ok)(I:0<=bud/\bud<=1000)(V:n<T.n)(O:k<T.D)(h10:(m.sp (T.pl n k) (T.sl n k)).pc=10):0<=(m.sp (T.pl n k) (T.sl n k)).a/\(m.sp (T.pl n k) (T.sl n k)).a<=2000:=by have:=((h.x n).va (T.pl n k) (T.sl n k) (H.plt n k V O) (H.slt n k V O)).1 (.inl h10);omega
def ed.vaHold(h:ed T bud m hb)(V:T.Ok)(I:0<=bud/\bud<=1000)(O:n<T.n)(h10:(sv m.S n).pc=10):∀k,0<=k->k<T.D->0<=(m.sp (T.pl n k) (T.sl n k)).a/\(m.sp (T.pl n k) (T.sl n k)).a<=2000:=by obtain⟨K,Y,_⟩:=h.t n O;exact λk _ H=>h.va10 V I O H ((Y.of10 h10).2 k H)
def ed.stepUp(h:ed T bud m hb)(V:T.Ok)(I:0<=bud/\bud<=1000)(Y:n<T.n)(h0:¬((sv m.S n).pc=0\/(sv m.S n).pc=10))(hc:(sv m.S n).c=c)(h1:(sv m.S n).pc≠1)(hp:((dV m (T.pl n c) (T.sl n c)).sp (T.pl n c) (T.sl n c)).pc=10):c+1<T.D/\∀k,c+1<=k->k<T.D->0<=((dV m (T.pl n c) (T.sl n c)).sp (T.pl n k) (T.sl n k)).a/\((dV m (T.pl n c) (T.sl n c)).sp (T.pl n k) (T.sl n k)).a<=2000:=by
  obtain⟨K,kk,o⟩:=h.t n Y;cases kk with
  | rest H=>exact absurd (.inl H) h0
  | come c' H _ _ _=>exact absurd H.1 h1
  | granted c' H _ _=>exact absurd H.1 h1
  | hold H _=>exact absurd (.inr H) h0
  | pass c' H ha M7=>
    obtain rfl:c=c':=by have:=H.2.1;omega
    refine⟨H.2.2,λk hk Nz=>?_⟩;have E':T.pl n k≠T.pl n c:=λe=>by have e1:=V.lv n k Y Nz;have e2:=V.lv n c Y ahp;rw[e]at e1;omega
    rw[Ex m E'];exact h.va10 V I Y Nz (M7 k Nz ahp)
  | leave c' H ha Pp M7=>
    obtain rfl:c=c':=by have:=H.2.1;omega
    exfalso;have KA:=H.2.2;have O:=V.plt n c Y KA;have hj:=V.slt n c Y KA;have r:=(h.x n).rg _ O;have Nc:T.sl n c<(m.P (T.pl n c)).length:=(by rw[(h.x n).len O];exact hj);rw[Ew m Nc]at hp;have K7:11<=(sv (m.P (T.pl n c)) (T.sl n c)).pc/\(sv (m.P (T.pl n c)) (T.sl n c)).pc<=14:=ha;have Nt:(sv (m.P (T.pl n c)) (T.sl n c)).c=if c+1=T.D then 1 else -1:=Pp
    obtain⟨ro,_⟩:=RtS.case (ar:=arW (m.W (T.pl n c))) r (V.nv32 _ O) hj rfl ahp rfl;have Ky:(dc (arW (m.W (T.pl n c))) 1 (numT (T.sl n c)) (sv (m.P (T.pl n c)) (T.sl n c))).2.pc=10:=hp;cases ro with
    | come h=>have:=h.1;omega
    | told h=>have:=h.1;omega
    | hold h=>have:=h.1;omega
    | o h=>have:=h.2.1;omega
    | free h=>have:=h.2;omega
    | give s h=>have:=h.2.1;omega
    | look h=>have:=h.1;omega
def jj(T:HTr)(bud:Int)(m:Hm)(i:Int):Hm:=if okI m.S i then k7 T bud m i.toNat else m
def aU.okn(k:aU B w x T bud s m){i:Int}(h:okI m.S i):∃n:Nat,i=n/\n<T.n/\getS m.S i=sv m.S n/\n<m.S.length:=by
 obtain⟨I,h1⟩:=h;obtain⟨n,rfl⟩:=Int.eq_ofNat_of_zero_le I;have H:n<m.S.length:=by omega
 exact⟨n,rfl,by rw[<-k.sn];exact H,dO H,H⟩
def D3(k:aU B w x T bud s m)(V:T.Ok)(hI:ed T bud m hb)(I:0<=bud/\bud<=1000)(i:Int):E 252 #[↑x.l,J i] w λe w'=>e= returned (bool (decide ((getS m.S i).pc=10)))/\aU B w' x T bud s (jj T bud m i)/\aa (mvL x T) w w':=by
 have Ll:=aO;have H:=qh k;obtain⟨p,i'⟩:=LE (getS m.S i);have HP:=qh i';by_cases h10:p.pc=10
 .have h:okI m.S i:=by exact abC
  obtain⟨n,rfl,hn,hg,hl⟩:=k.okn h;have hs:(sv m.S n).pc=10:=by rw[<-hg,<-i'];exact h10
  have hd:=V.d1;have HB:=qh (λW (k':aU B W x T bud s m)=>wP k' V hn (k0:=0) ahp I (hI.vaHold V I hn hs));have O:Kq (jj T bud m n=ib T bud T.D m n 0):=qh (by unfold jj k7;rw[if_pos h,Int.toNat_natCast,if_pos hs]);have y:(p.pc !=10)=false:=by simpa using h10
  clear k i' h hI hg hs;go_enter func252,ntmps252;go_wp2_with fail;refine ST (jQ H.o n) λw1 b1=>?_;refine ajm ?_;intro H1;clear b1;go_wp2_with fail;refine Pi (HB.o _ H1.o.1) λw2 h2=>?_;have Y:=qh (And.intro h2.o.1 ((aa.of_below H1.o.2).trans h2.o.2));go_wp2;go_ret;rw[O.o];exact⟨(rfl:_=Ending.returned (bool true)).trans (by rw[<-HP.o,h10];rfl),Y.o.1,Y.o.2⟩
 .have y:(p.pc !=10)=true:=by simpa using h10
  have O:Kq (jj T bud m i=m):=qh (by
   unfold jj;by_cases h:okI m.S i;.obtain⟨n,rfl,hn,hg,hl⟩:=k.okn h;rw[if_pos h,Int.toNat_natCast];unfold k7;rw[if_neg (by rw[<-hg,<-i'];exact h10)]
   .rw[if_neg h])
  have XV:=qh h10;clear k i' h10;go_enter func252,ntmps252;go_wp2_with fail;refine ST (jQ H.o i) λw1 b1=>?_;refine ajm ?_;intro H1;clear b1;go_wp2;go_ret;rw[O.o];exact⟨(rfl:_=Ending.returned (bool false)).trans (by rw[<-HP.o,decide_eq_false XV.o]),H1.o.1,aa.of_below H1.o.2⟩
end
end
section
open Go.RowKit
section
variable{x:Hx}{T:HTr}{s s':Ar}{m:Hm}
def stepI(T:HTr)(bud:Int)(m:Hm)(i:Int):Hm:=if okI m.S i then kO T bud m i.toNat else m
def jF(T:HTr)(s:Ar)(m:Hm)(i:Int):Ar:=if (getS m.S i).pc=0\/(getS m.S i).pc=10 then s else Bw s m (T.pl i.toNat (getS m.S i).c.toNat) (T.sl i.toNat (getS m.S i).c.toNat)
def Ap(z p:Int):Bool:=decide ((z=10\/z=0)/\p≠0/\p≠10)
def uG(H:¬(p=0\/p=10))(h:(z==10)=true):true=Ap z p:=by have:=eq_of_beq h;exact(decide_eq_true ahp).symm
def uH(H:¬(p=0\/p=10))(h:(z==0)=true):true=Ap z p:=by have:=eq_of_beq h;exact(decide_eq_true ahp).symm
def uI(p:Int)(h:(z==10)=false)(H:(z==0)=false):false=Ap z p:=by simp only[beq_eq_false_iff_ne]at h H;exact(decide_eq_false ahp).symm
def OpX(B:Nat->Prop)(w:World)(x:Hx)(T:HTr)(bud:Int)(s:Ar)(m:Hm)(i:Int)(e:Ending)(w':World):Prop:=
 e= returned (bool (Ap (getS (stepI T bud m i).S i).pc (getS m.S i).pc))/\aU B w' x T bud (jF T s m i) (stepI T bud m i)/\(jF T s m i).ops<=s.ops+1/\aa (mvL x T) w w'
def OpX.mk'{i:Int}{s1:Ar}{m1:Hm}{b:Bool}(H:b=Ap (getS m1.S i).pc (getS m.S i).pc)(hm:stepI T bud m i=m1)(h:aU B w' x T bud s1 m1)(hs:s1=jF T s m i)(Y:s1.ops<=s.ops+1)(t:aa (mvL x T) w w'):OpX B w x T bud s m i (returned (.bool b)) w':=by subst hm;subst hs;subst H;exact⟨rfl,h,Y,t⟩
def ws(T:HTr)(bud:Int)(m:Hm)(h:¬((sv m.S n).pc=0\/(sv m.S n).pc=10))(hc:(sv m.S n).c=c)(V:¬((m.sp (T.pl n c) (T.sl n c)).pc=0\/(m.sp (T.pl n c) (T.sl n c)).pc=10)){m1:Hm}(h1:m1=dV m (T.pl n c) (T.sl n c)):kO T bud m n=if ¬((m1.sp (T.pl n c) (T.sl n c)).pc=0\/(m1.sp (T.pl n c) (T.sl n c)).pc=10)then m1 else if (sv m.S n).pc=1 then kv T m1 n c else if (m1.sp (T.pl n c) (T.sl n c)).pc=0 then kw T m1 n c else ib T bud T.D m1 n (c+1):=by unfold kO;rw[if_neg h,hc];simp only[Int.toNat_natCast];rw[if_neg V,<-h1]
def GB(k:aU B w x T bud s m)(hT:T.Ok)(hI:ed T bud m hb)(I:0<=bud/\bud<=1000)(Y:s.ops+1<=1000000000000)(i:Int):E 254 #[↑x.l,J i] w (OpX B w x T bud s m i):=by
 have Ll:=aO;have H:=qh k;have HN:=k.fx.n32;have QT:=k.fx.d5;obtain⟨p,V⟩:=LE (getS m.S i);have HP:=qh V;by_cases h0:p.pc=0\/p.pc=10
 .have HE:Kq (stepI T bud m i=m):=qh (by
   unfold stepI;by_cases mP:okI m.S i;.obtain⟨n,rfl,hn,hg,hl⟩:=k.okn mP;rw[if_pos mP,Int.toNat_natCast];unfold kO;rw[if_pos (by rw[<-hg,<-V];exact h0)]
   .rw[if_neg mP])
  clear k V;have Og:∀w',Below w.heap.size w w'->OpX B w x T bud s m i (returned (bool false)) w':=λw' b=>OpX.mk' (by rw[<-HP.o];exact(decide_eq_false ahp).symm) HE.o (H.o.below b) (by unfold jF;rw[<-HP.o,if_pos h0]) ahp (aa.of_below b);have HF:=qh Og;clear Og;by_cases QA:p.pc=0;.have y:(p.pc==0)=true:=(by simpa using QA);clear h0 QA;exact abD
  .have h1:p.pc=10:=h0.resolve_left QA;have y:(p.pc==0)=false:=(by simpa using QA);have y1:(p.pc==10)=true:=(by simpa using h1);clear h0 QA h1;exact abD
 .have mP:okI m.S i:=by apply Classical.byContradiction;intro hn;rw[dC hn]at V;exact h0 (.inl (by rw[V];rfl))
  obtain⟨n,rfl,hn,hg,hl⟩:=k.okn mP;rw[hg]at V HP;have Kc:¬((sv m.S n).pc=0\/(sv m.S n).pc=10):=by rw[<-V];exact h0
  obtain⟨K,kk,oo⟩:=hI.t n hn;obtain⟨c,hc,KA,Sd,a0,Pk⟩:=r6.act kk Kc;clear kk oo Sd;have O:=hT.plt n c hn KA;have hj:=hT.slt n c hn KA;have QM:¬((m.sp (T.pl n c) (T.sl n c)).pc=0\/(m.sp (T.pl n c) (T.sl n c)).pc=10):=λh=>h.elim a0 Pk;obtain⟨m1,ab⟩:=LE (dV m (T.pl n c) (T.sl n c));have VS:m1.S=m.S:=by rw[ab];rfl
  have Qh:=ws T bud m Kc hc QM ab;rw[show kO T bud m n=stepI T bud m n by unfold stepI;rw[if_pos mP,Int.toNat_natCast]]at Qh;have L9:=fun(e1:(sv m.S n).pc≠1) (e2:(m1.sp (T.pl n c) (T.sl n c)).pc=10)=>hI.stepUp hT I hn Kc hc e1 (by rw[<-ab];exact e2);rw[<-ab]at L9;have I':∀W,aU B W x T bud s m->E 259 #[pointer (some ⟨x.lb (T.pl n c),0,none⟩),J (T.sl n c)] W (S1 B W x T bud s (Bw s m (T.pl n c) (T.sl n c)) m1 (decide ((m1.sp (T.pl n c) (T.sl n c)).pc=0\/(m1.sp (T.pl n c) (T.sl n c)).pc=10))):=λW k=>by have:=k.step1 O hj ((hI.x n).rg _ O) Y;rw[if_neg QM,if_neg QM,if_neg QM,<-ab]at this;exact this
  obtain⟨s',ND⟩:=LE (Bw s m (T.pl n c) (T.sl n c));rw[<-ND]at I';have HA:Kq (s'=jF T s m n):=qh (by unfold jF;rw[hg,<-V,if_neg h0,V,hc,ND];rfl);have HG:Kq ((getS m.S (n:Int)).pc=p.pc/\∀m2:Hm,m2.S.length=m.S.length->getS m2.S (n:Int)=sv m2.S n):=qh ⟨by rw[hg,<-V],λm2 h2=>dO ahp⟩;clear ND;obtain⟨u,hu⟩:=LE (m1.sp (T.pl n c) (T.sl n c));rw[<-hu]at I' L9 Qh;have y0:(p.pc==0)=false:=by simpa using λe=>h0 (.inl e)
  have ad:(p.pc==10)=false:=by simpa using λe=>h0 (.inr e)
  rw[<-V]at L9 Qh hc;refine ajh ?_;intro t2 t3;have g2:¬((T.D:Nat):Int)<=(c:Int):=by omega
  have HC:=qh (And.intro V (And.intro hc (And.intro VS (And.intro O hj))));have HU:=qh hu;have HM:=qh L9;have HS:=qh I';have HE:=qh Qh;have Rf:m.S[n]? =some p:=by rw[V];exact gB hl
  clear I' Qh L9 hu VS ab QM a0 Pk Kc k V hg mP hl hI;go_enter func254,ntmps254;go_wp2_with fail;refine ST (jQ H.o n) λw1 b1=>?_;rw[show getS m.S (n:Int)=p from by rw[HC.o.1];exact dO (by have:=(List.getElem?_eq_some_iff.1 Rf).1;exact this)];unfold aC;have k1:=H.o.below b1;have K1:=qh (And.intro k1 (aa.of_below (S:=mvL x T) b1));have c3:=k1.l3;have b3:=(k1.sc Rf).2.2.2;rw[HC.o.2.1]at b3;obtain⟨MH,cL,cP,cS⟩:=k1.lev hn KA;obtain⟨z1,z2,z3,z4⟩:=k1.lt4 hn KA;clear k1 b1;go_wp2;go_region
  all_goals
   go_wp2_with fail;refine Pi (HS.o _ ((K1.o.1.alloc _).drewN _)) λw2 k2=>?_;have hx:Blk w2 w1.heap.size 255 #[pointer (some ⟨x.lb (T.pl n c),0,none⟩),J (T.sl n c)]:=k2.o.2.2.blk (heap_alloc_new w1 _) K1.o.1.new.2;have K2:=qh (And.intro k2.o.1 (And.intro (K1.o.2.trans ((((aa.refl (mvL x T) _).alloc _).drewN _).trans k2.o.2.2)) k2.o.2.1));have x0:=hx.cell 0;have x1:=hx.cell 1;clear hx c3 b3 MH cL cP cS z1 z2 z3 z4;by_cases e:u.pc=0\/u.pc=10
   .rw[decide_eq_true e];go_wp2_with fail;refine ST (K2.o.1.spot1 HC.o.2.2.2.1 HC.o.2.2.2.2) λw3 b3=>?_;rw[<-HU.o];unfold aC;have k3:=K2.o.1.below b3;have K3:=qh (And.intro k3 (And.intro (K2.o.2.1.trans (aa.of_below b3)) K2.o.2.2));have QS:(sv m1.S n).c=c:=(by rw[HC.o.2.2.1,<-HC.o.1];exact HC.o.2.1);have N6:=(k3.sc (p:=p) (by rw[HC.o.2.2.1];exact Rf)).2.2.2;rw[HC.o.2.1]at N6;clear k3 b3;have ne:=not_not_intro e;by_cases e1:p.pc=1
    .have y1:(p.pc==1)=true:=(by simpa using e1);go_wp2_with fail;refine Pi (FA K3.o.1 hT hn QS KA) λw4 h4=>?_;refine ajo ?_;intro H4 c0;obtain⟨zz,hz⟩:=LE ((sv (kv T m1 n c).S n).pc);rw[<-hz]at c0;have HZ:=qh hz;clear hz;cases f1:(zz==10)
     .cases f2:(zz==0);.go_wp2;go_ret;exact OpX.mk' (b:=false) aik ail H4.o.1 HA.o K3.o.2.2 H4.o.2.1
      .go_wp2;go_ret;exact OpX.mk' (b:=true) aim ail H4.o.1 HA.o K3.o.2.2 H4.o.2.1
     .go_wp2;go_ret;exact OpX.mk' (b:=true) ain ail H4.o.1 HA.o K3.o.2.2 H4.o.2.1
    .have y1:(p.pc==1)=false:=(by simpa using e1);by_cases e2:u.pc=0
     .have y2:(u.pc==0)=true:=(by simpa using e2);go_wp2_with fail;refine Pi (FE K3.o.1 hT hn QS KA) λw4 h4=>?_;refine ajo ?_;intro H4 c0;obtain⟨zz,hz⟩:=LE ((sv (kw T m1 n c).S n).pc);rw[<-hz]at c0;have HZ:=qh hz;clear hz;cases f1:(zz==10)
      .cases f2:(zz==0);.go_wp2;go_ret;exact OpX.mk' (b:=false) aik aio H4.o.1 HA.o K3.o.2.2 H4.o.2.1
       .go_wp2;go_ret;exact OpX.mk' (b:=true) aim aio H4.o.1 HA.o K3.o.2.2 H4.o.2.1
      .go_wp2;go_ret;exact OpX.mk' (b:=true) ain aio H4.o.1 HA.o K3.o.2.2 H4.o.2.1
     .have y2:(u.pc==0)=false:=(by simpa using e2);obtain⟨Lh,Ld⟩:=HM.o e1 (e.resolve_left e2);have XI:=qh (show E 258 #[↑x.l,J n,J ((c:Int)+1)] w3 (VD B w3 x T bud s' (ib T bud T.D m1 n (c+1)))from wP K3.o.1 hT hn (k0:=c+1) Lh I Ld);clear Ld;go_wp2_with fail;refine Pi XI.o λw4 h4=>?_;refine ajo ?_;intro H4 c0;obtain⟨zz,hz⟩:=LE ((sv (ib T bud T.D m1 n (c+1)).S n).pc);rw[<-hz]at c0;have HZ:=qh hz;clear hz;cases f1:(zz==10)
      .cases f2:(zz==0);.go_wp2;go_ret;exact OpX.mk' (b:=false) aik aip H4.o.1 HA.o K3.o.2.2 H4.o.2.1
       .go_wp2;go_ret;exact OpX.mk' (b:=true) aim aip H4.o.1 HA.o K3.o.2.2 H4.o.2.1
      .go_wp2;go_ret;exact OpX.mk' (b:=true) ain aip H4.o.1 HA.o K3.o.2.2 H4.o.2.1
   .rw[decide_eq_false e];go_wp2;go_ret;exact OpX.mk' (b:=false) (by rw[HG.o.1,HG.o.2 _ (by rw[HC.o.2.2.1]),HC.o.2.2.1,<-HC.o.1];exact(decide_eq_false ahp).symm) (by rw[HE.o,if_pos e]) K2.o.1 HA.o K2.o.2.2 K2.o.2.1
end
end
section
open Go.RowKit
def EU(T:HTr)(bud:Int)(m:Hm)(k i:Int):Hm:=if k=0 then stepI T bud m i else if k=1 then mQ T m i else if k=2 then jj T bud m i else m
section
variable{w0:World}{x:Hx}{T:HTr}{s s':Ar}{m m':Hm}{N M:Nat}
def ed.act(h:ed T bud m hb)(V:T.Ok)(I:0<=bud)(k i:Int):∃O,ed T bud (EU T bud m k i) O:=by
 have hi:∀j,okI m.S j->j.toNat<T.n:=λj hj=>by have:=(h.x 0).sl;obtain⟨h0,h1⟩:=hj;omega
 unfold EU;split
 .unfold stepI;split;.rename_i H;exact h.step V I (hi _ H)
  .exact⟨hb,h⟩
 .split
  .unfold mQ;split;.rename_i H;obtain⟨O,Y⟩:=h.ask V (hi _ H);exact⟨O,Y⟩
   .exact⟨hb,h⟩
  .split
   .unfold jj;split;.rename_i H;exact⟨hb,h.leave V (hi _ H)⟩
    .exact⟨hb,h⟩
   .exact⟨hb,h⟩
end
end
section
open Go.RowKit
def wQ(w:World)(vP Y:Value)(P:List Int)(h:RdL w vP 1 encI P)(Nq:P.length<=1000)(p:Int):E 140 #[agg #[vP,Y],J p] w λe w'=>∃v',e= returned v'/\w'.ownsRow w.heap.size 3 1 v' (chL P p).length ((chL P p).flatMap encI)/\Below w.heap.size w w':=by
  obtain⟨i0,hi,J5,J7,J2⟩:=info_parts Tryz.infoIn;refine ajg ?_;intro HI;have hR:=h.alloc (cells #[vP,Y] 24);obtain⟨A,cap,rfl,l1,l2,V⟩:=hR;have HR:=qh V;have PA:(w.alloc (cells #[.slice A P.length cap,Y] 24)).heap.size=w.heap.size+1:=by simp
  have HB:=qh ((Below.refl w.heap.size w).alloc (Nat.le_refl _) (cells #[.slice A P.length cap,Y] 24));have b0:(w.alloc (cells #[.slice A P.length cap,Y] 24)).cell? w.heap.size=some (.slice A P.length cap):=by simp[World.cell?_alloc_new]
  obtain⟨w1,PE⟩:=LE (w.alloc (cells #[.slice A P.length cap,Y] 24));clear hi J5 J7 J2 h V;go_enter func140,ntmps140;rw[<-PE]at HR HB b0 PA;have HZ:=qh PA;clear PA;go_wp2;rw[<-PE];clear PE;go_loopw [5,11] (λo i wr=>∃k:Nat,i= J k/\k<=P.length/\wr.ownsRow w1.heap.size 3 1 o (mR P p k).length ((mR P p k).flatMap encI)/\Below w1.heap.size w1 wr) (λ_ i _=>P.length-(intOf i).toNat);case atStart=>exact⟨0,rfl,by omega,World.ownsRow_nil _ _ _ _,Below.refl _ _⟩
  case round=>
    obtain⟨k,rfl,hk,I,O⟩:=hrel;by_cases F':k<P.length
    . obtain⟨q,hq⟩:=ai F';obtain⟨bl,off,rfl,KP,hc⟩:=HR.o ahp;have c0:=(O.cell (p:=⟨bl,off+k*1+0,none⟩) KP).trans (hc k _ hq 0 _ rfl);simp only[Nat.add_zero,Nat.mul_one]at c0;have Lc:=kS P p k;have Ki:=O.size;have HS:=qh (yu P p hq);have H:=qh (And.intro I O);obtain⟨A9,c9,rfl⟩:=a8 I;clear hc O;cases hm:(q==p)
      . have HM:Kq (¬q=p):=qh ah1;clear I;go_wp2;go_roundw;case rel=>exact⟨k+1,by go_num,by omega,by rw[HS.o,if_neg HM.o];exact H.o.1,H.o.2⟩
        case measure=>simp[intOf];omega
      . have HM:Kq (q=p):=qh ah1;go_wp2_with (at_builtin;refine wpList_append_own _ rfl _ _ 22 rfl w1.heap.size 3 i0 (J 0) 1 8 Tryz.underlying22 HI.o.1 HI.o.2.1 HI.o.2.2.1 HI.o.2.2.2 rfl ahr _ _ _ rfl (I.alloc _) ⟨wr.heap.size,0,none⟩ 1 1 (encI k) rfl rfl (cell_one_new _ _ _) (io _) ?c3 ?c4 ?c5 ?_);case c3=>unfold maxLen;omega
        case c4=>omega
        case c5=>simp;omega
        intro v' w' Nf Nb Pv;have HN:=qh (And.intro Nf Nb);clear Nf Nb Pv I;go_wp2;go_roundw;case rel=>exact⟨k+1,by go_num,by omega,by rw[HS.o,if_pos HM.o,iJ,List.length_append];exact HN.o.1,(H.o.2.alloc Ki _).grown HN.o.2 ahu (λj hj=>(H.o.1.lt j hj).1)⟩
        case measure=>simp[intOf];omega
    . obtain rfl:k=P.length:=by omega
      have H:=qh (And.intro I O);clear I O;go_wp2;go_ret;exact⟨_,rfl,de H.o.1 (by have:=HZ.o;omega),HB.o.trans (H.o.2.mono (by have:=HZ.o;omega))⟩
end
section
open Go.RowKit
theorem Tryz.infoHs:(prog.info? 255).map (λi=>(i.zero,i.size,i.bytes))=some (some (agg #[.pointer none,J 0]),2,16):=by kernel_rfl
theorem Tryz.infoHr:(prog.info? 249).map (λi=>(i.zero,i.size,i.bytes))=some (some (.pointer none),1,8):=by kernel_rfl
theorem Tryz.infoHl:(prog.info? 252).map (λi=>(i.zero,i.size,i.bytes))=some (some (.slice none 0 0),1,24):=by kernel_rfl
def fU(lb:Nat->Nat)(T:HTr)(t c:Nat):List Value:=(List.range c).flatMap λk=>[pointer (some ⟨lb (T.pl t k),0,none⟩),J (T.sl t k)]
def jn(lb:Nat->Nat)(T:HTr)(t c:Nat):fU lb T t (c+1)=fU lb T t c++[pointer (some ⟨lb (T.pl t c),0,none⟩),J (T.sl t c)]:=by unfold fU;rw[List.range_succ,List.flatMap_append];simp
def gX(lb:Nat->Nat)(k:Nat):List Value:=(List.range k).map λv=> pointer (some ⟨lb v,0,none⟩)
def tU(lb:Nat->Nat)(k:Nat):gX lb (k+1)=gX lb k++[pointer (some ⟨lb k,0,none⟩)]:=by unfold gX;rw[List.range_succ,List.map_append];rfl
end
section
open Go.RowKit
def uY(bud:Int)(vR vL:Value)(q n:Nat):Array Value:=#[J bud,vR,vL,slice (some ⟨q,0,none⟩) n n]
def TBr(l a:Nat)(B0:Nat->Prop)(w:World)(b:Nat)(P T:List Int)(k:Nat)(vR:Value):Prop:=
 (ak P k=[]/\gL B0 w b P T)\/∃B',dz B' w b P T/\(∀i,B' i->i≠l/\i≠a/\i<w.heap.size)/\∀g,vR.ownBlock=some g->¬B' g
structure NwR(w5 wr:World)(l b a g q:Nat)(bud:Int)(P T:List Int)(tr:HTr)(B0:Nat->Prop)(k:Nat)(vR:Value)(lb qb:Nat->Nat)(s:Ar):Prop where
 tn:aa [l,b,a] w5 wr
 blk:Blk wr l 247 (uY bud vR (.slice none 0 0) q tr.n)
 own:wr.ownsRow w5.heap.size 249 1 vR k (gX lb k)
 ar:aB wr a g s
 cat:s.W=dw (hm0 tr).W k
 room:s=⟨s.W,s.room,0,0,0,false⟩/\∀v,v<tr.np->(dw (hm0 tr).W v).length+(2*tr.nv v+1)<=s.room
 rk:∀v,v<k->Blk wr (lb v) 319 #[↑a,int i64 ((dw (hm0 tr).W v).length+1),slice (some ⟨qb v,0,none⟩) (tr.nv v) (tr.nv v)]
 rs:∀v,v<k->dA wr (qb v) (List.replicate (tr.nv v) Sp.zero)
 lo:∀v,v<k->w5.heap.size<=lb v/\w5.heap.size<=qb v/\vR.ownBlock≠some (lb v)/\vR.ownBlock≠some (qb v)
 ne:∀v u,v<k->u<k->lb v≠qb u
 inj:∀v u,v<k->u<k->qb v=qb u->v=u
 tab:TBr l a B0 wr b P T k vR
def aa.grownByH{row:Option Nat}(h:w.grownBy w' row):aa row.toList w w':=
 ⟨h.os,h.tape,h.output,h.size,λi hi hn=>h.block i hi aii⟩
def vK(lb:Nat->Nat)(x:Nat):∀k,gX (aX lb k x) k=gX lb k:=λk=>by
 unfold gX
 refine List.map_congr_left λv O=>?_
 rw[aY _ _ (by have:=List.mem_range.1 O;omega)]
section
variable{wr:World}{l a g q:Nat}{tr:HTr}{lb qb:Nat->Nat}{s:Ar}
def NwR.move(h:NwR w5 wr l b a g q bud P T tr B0 k vR lb qb s)(t:aa [b] wr w')(I:b<w5.heap.size)(V:b≠l)(H:b≠a)(hg:b≠g)(Y:TBr l a B0 w' b P T k vR):NwR w5 w' l b a g q bud P T tr B0 k vR lb qb s:=by
 refine⟨h.tn.trans (t.mono ahq),t.blk h.blk (by simpa using λe=>V e.symm),aa.own h.own t (λx hx=>?_),h.ar.turns t (by simpa using λe=>H e.symm) (by simpa using λe=>hg e.symm),h.cat,h.room,λv O=>t.blk (h.rk v O) ?_,λv O=>(h.rs v O).turns t ?_,h.lo,h.ne,h.inj,Y⟩;.have:=(h.own.lt x hx).1;simp;omega
 .have:=(h.lo v O).1;simp;omega
 .have:=(h.lo v O).2.1;simp;omega
def TBr.turns0(h:TBr l a B0 wr b P T k vR)(t:aa [] wr w'):TBr l a B0 w' b P T k vR:=by
 rcases h with⟨H,h1⟩|⟨I,H,h1,O⟩
 .exact .inl ⟨H,h1.turns t ahq⟩
 .exact .inr ⟨I,H.turns t ahq,λi hi=>⟨(h1 i hi).1,(h1 i hi).2.1,Nat.lt_of_lt_of_le (h1 i hi).2.2 t.size⟩,O⟩
def NwR.below(h:NwR w5 wr l b a g q bud P T tr B0 k vR lb qb s)(t:Below wr.heap.size wr w')(I:b<w5.heap.size)(O:b≠l)(H:b≠a)(hg:b≠g):NwR w5 w' l b a g q bud P T tr B0 k vR lb qb s:=
 h.move (aa.of_below t) I O H hg (h.tab.turns0 (aa.of_below t))
def Dc(l a:Nat)(w:World)(b:Nat)(P T:List Int)(vR:Value):Prop:=∃B',dz B' w b P T/\(∀i,B' i->i≠l/\i≠a/\i<w.heap.size)/\∀g,vR.ownBlock=some g->¬B' g
def NwR.mates(h:NwR w5 wr l b a g q bud P T tr B0 k vR lb qb s)(hc:a5 P T=0)(I:b<w5.heap.size)(hl:b≠l)(ha:b≠a)(hg:b≠g)(V:∀i,B0 i->i≠l/\i≠a/\i<w5.heap.size)(Y:(ac P)[j]? =some x):E 138 #[↑b,J j] wr λe w'=>e= returned (J ((T.count x:Nat):Int))/\NwR w5 w' l b a g q bud P T tr B0 k vR lb qb s/\Dc l a w' b P T vR/\aa [b] wr w':=by
  have Lc:=h.blk.lt;have Ns:=h.ar.blk.lt;rcases h.tab with⟨_,t0⟩|tf
  . refine(Cb B0 wr b P T hc t0 Y).mono ?_;rintro e w' ⟨O,ht,tn⟩;have hs:=h.tn.size
    have F:Dc l a w' b P T vR:=⟨_,ht.lt,λi hi=>by
      rcases hi.1 with H|H
      . have:=V i H;exact⟨this.1,this.2.1,hi.2⟩
      . exact⟨by omega,by omega,hi.2⟩,λg' Na hB=>by
      have:=h.own.lt g' Na;rcases hB.1 with H|H
      . have:=(V _ H).2.2;omega
      . omega⟩
    exact⟨O,h.move tn I hl ha hg (.inr F),F,tn⟩
  . obtain⟨B',t1,t2,t3⟩:=tf;refine(Ca wr b P T t1.f Y).mono ?_;rintro e w' ⟨O,rfl⟩;exact⟨O,h,⟨B',t1,t2,t3⟩,aa.refl _ _⟩
def NwR.step{w2 w3 w4:World}{l' q' H:Nat}(h:NwR w5 w2 l b a g q bud P T tr B0 k (.slice A k cap) lb qb s)(hT:Dc l a w2 b P T (.slice A k cap)\/(ak P (k+1)=[]/\gL B0 w2 b P T))(h0:∀i,B0 i->i≠l/\i≠a/\i<w5.heap.size)(NZ:l<w5.heap.size)(TL:a<w5.heap.size)(Mu:g<w5.heap.size)(Ud:l≠a)(ZJ:l≠g){s':Ar}(ND:s'={s with W:=s.W++List.replicate (2*tr.nv k+1) 0})(V:cX w3 l' a g q' (s.W.length+1) ⟨s',List.replicate (tr.nv k) Sp.zero⟩)(L6:w2.heap.size<=l')(P2:w2.heap.size<=q')(t3:aa [a] w2 w3)(h4:w4.ownsRow w5.heap.size 249 1 (slice (some ⟨Y,0,none⟩) (k+1) H) (k+1) (gX lb k++[pointer (some ⟨l',0,none⟩)]))(hg:(w3.alloc o).grownBy w4 (Value.slice A k cap).ownBlock)(Kr:(Value.slice A k cap).ownBlock=some Y\/Y=(w3.alloc o).heap.size):NwR w5 (w4.setCell ⟨l,1,none⟩ (slice (some ⟨Y,0,none⟩) (k+1) H)) l b a g q bud P T tr B0 (k+1) (slice (some ⟨Y,0,none⟩) (k+1) H) (aX lb k l') (aX qb k q') s':=by
  have Mm:∀x,(Value.slice A k cap).ownBlock=some x->w5.heap.size<=x/\x<w2.heap.size:=λx hx=>h.own.lt x hx;have tg:aa (Value.slice A k cap).ownBlock.toList (w3.alloc o) w4:=aa.grownByH hg;have nS:∀x,(Value.slice A k cap).ownBlock≠some x->x∉(Value.slice A k cap).ownBlock.toList:=λx hx hm=>hx ah1;have KI:w2.heap.size<=w3.heap.size:=t3.size;have LU:w3.heap.size+1<=w4.heap.size:=by have:=tg.size;simpa using this
  have ab:w5.heap.size<=w2.heap.size:=h.tn.size;have NA:l'<w3.heap.size:=V.lk.lt;have Z4:q'<w3.heap.size:=V.sp.lt;have Wg:w5.heap.size<=Y:=(h4.lt Y rfl).1;have ts:aa [l] w4 (w4.setCell ⟨l,1,none⟩ (slice (some ⟨Y,0,none⟩) (k+1) H)):=(aa.refl _ _).setCell (.inl ahq) _
  have SR:aa (l :: (Value.slice A k cap).ownBlock.toList) w3 (w4.setCell ⟨l,1,none⟩ (slice (some ⟨Y,0,none⟩) (k+1) H)):=
    (((aa.refl _ _).alloc o).trans (tg.mono λi hi=>List.mem_cons_of_mem _ hi)).trans (ts.mono ahq)
  have Rv:aa (a :: l :: (Value.slice A k cap).ownBlock.toList) w2 (w4.setCell ⟨l,1,none⟩ (slice (some ⟨Y,0,none⟩) (k+1) H)):=
    (t3.mono ahq).trans (SR.mono λi hi=>List.mem_cons_of_mem _ hi)
  have hA:(Value.slice A k cap).ownBlock≠some a:=λe=>by have:=Mm a e;omega
  have hL:(Value.slice A k cap).ownBlock≠some l:=λe=>by have:=Mm l e;omega
  have hG:(Value.slice A k cap).ownBlock≠some g:=λe=>by have:=Mm g e;omega
  have VJ:(Value.slice A k cap).ownBlock≠some l':=λe=>by have:=Mm l' e;omega
  have VQ:(Value.slice A k cap).ownBlock≠some q':=λe=>by have:=Mm q' e;omega
  have Ro:∀x,x≠l->(Value.slice A k cap).ownBlock≠some x->x∉l :: (Value.slice A k cap).ownBlock.toList:=λx h1 h2 hm=>by
    rcases List.mem_cons.1 hm with e|e
    . exact h1 e
    . exact nS x h2 e
  have Xm:∀x,x≠a->x≠l->(Value.slice A k cap).ownBlock≠some x->x∉a :: l :: (Value.slice A k cap).ownBlock.toList:=λx h0 h1 h2 hm=>by
    rcases List.mem_cons.1 hm with e|e
    . exact h0 e
    . exact Ro x h1 h2 e
  have Pn:∀x,x<w3.heap.size->(Value.slice A k cap).ownBlock≠some x->Y≠x:=λx h1 h2 e=>by
    subst e;rcases Kr with e|e
    . exact h2 e
    . have e9:(w3.alloc o).heap.size=w3.heap.size+1:=(by simp);omega
  have Rn:∀v,v<k->lb v<w2.heap.size/\qb v<w2.heap.size:=λv O=>⟨(h.rk v O).lt,(h.rs v O).lt⟩;have V9:s.W.length=(dw (hm0 tr).W k).length:=by rw[h.cat]
  subst ND;refine⟨?_,?_,?_,?_,?_,⟨congrArg (λz:Ar=>{z with W:=s.W++List.replicate (2*tr.nv k+1) 0}) h.room.1,h.room.2⟩,λv O=>?_,λv O=>?_,λv O=>?_,λv u O hu=>?_,λv u O hu e=>?_,?_⟩
  . refine((h.tn.mono (T:=l :: b :: a :: (Value.slice A k cap).ownBlock.toList) ahq).trans (Rv.mono λi hi=>?_)).fresh λi hi=>?_
    . rcases List.mem_cons.1 hi with e|hi
      . simp[e]
      . rcases List.mem_cons.1 hi with e|hi
        . simp[e]
        . exact List.mem_cons_of_mem _ (List.mem_cons_of_mem _ (List.mem_cons_of_mem _ hi))
    . rcases List.mem_cons.1 hi with e|hi
      . exact .inl (by simp[e])
      . rcases List.mem_cons.1 hi with e|hi
        . exact .inl (by simp[e])
        . rcases List.mem_cons.1 hi with e|hi
          . exact .inl (by simp[e])
          . exact .inr (Mm i ahQ).1
  . exact(tg.blk ((t3.blk h.blk (by simpa using Ud)).alloc o) (nS l hL)).set_ 1 _
  . rw[tU,aW,vK]
    exact aa.own h4 ts (λx hx=>by
      injection hx with hx;subst hx
      simp;omega)
  . exact V.ar.turns SR (Ro a (λe=>Ud e.symm) hA) (Ro g (λe=>ZJ e.symm) hG)
  . show s.W++_=dw (hm0 tr).W k++(hm0 tr).W k;rw[h.cat];rfl
  . by_cases e:v=k;. subst e;rw[aW,aW,<-V9];have:=V.lk;simp only[List.length_replicate]at this;exact SR.blk this (Ro l' ahp VJ)
    . have LB:v<k:=(by omega);rw[aY _ _ e,aY _ _ e];have h1:=h.lo v LB;exact Rv.blk (h.rk v LB) (Xm _ ahp ahp h1.2.2.1)
  . by_cases e:v=k;. subst e;rw[aW];exact V.sp.turns SR (Ro q' ahp VQ)
    . have LB:v<k:=(by omega);rw[aY _ _ e];have h1:=h.lo v LB;exact(h.rs v LB).turns Rv (Xm _ ahp ahp h1.2.2.2)
  . by_cases e:v=k
    . subst e;rw[aW,aW];refine⟨by omega,by omega,λe=>?_,λe=>?_⟩;. injection e with e;exact Pn l' NA VJ e
      . injection e with e;exact Pn q' Z4 VQ e
    . have LB:v<k:=(by omega);rw[aY _ _ e,aY _ _ e];have h1:=h.lo v LB;have h2:=Rn v LB;refine⟨h1.1,h1.2.1,λe=>?_,λe=>?_⟩;. injection e with e;exact Pn _ ahp h1.2.2.1 e
      . injection e with e;exact Pn _ ahp h1.2.2.2 e
  . by_cases e:v=k
    . subst e;rw[aW];by_cases I:u=v;. subst I;rw[aW];exact V.lq
      . rw[aY _ _ I];have:=Rn u ahp;omega
    . rw[aY _ _ e];by_cases I:u=k;. subst I;rw[aW];have:=Rn v ahp;omega
      . rw[aY _ _ I];exact h.ne v u ahp ahp
  . by_cases e1:v=k
    . by_cases I:u=k;. rw[e1,I]
      . rw[e1,aW,aY _ _ I]at e;have:=Rn u ahp;omega
    . by_cases I:u=k;. rw[I,aW,aY _ _ e1]at e;have:=Rn v ahp;omega
      . rw[aY _ _ e1,aY _ _ I]at e;exact h.inj v u ahp ahp e
  . rcases hT with⟨B',k1,k2,k3⟩|⟨k1,k2⟩
    . refine .inr ⟨B',k1.turns Rv λi hi hB=>?_,λi hB=>⟨(k2 i hB).1,(k2 i hB).2.1,?_⟩,λx hx hB=>?_⟩
      . have:=k2 i hB;simp at hi;rcases hi with e|e|e
        . exact this.2.1 e
        . exact this.1 e
        . exact k3 i e hB
      . have:=(k2 i hB).2.2;have:=ts.size;omega
      . injection hx with hx;subst hx;rcases Kr with e|e
        . exact k3 _ e hB
        . have:=(k2 _ hB).2.2;rw[e]at this;simp at this;omega
    . refine .inl ⟨k1,k2.turns Rv λi hi hB=>?_⟩;have:=h0 i hB;simp at hi;rcases hi with e|e|e
      . omega
      . omega
      . have:=(Mm i e).1;omega
end
end
section
open Go.RowKit
def iz(ub uk:Nat->Nat)(D m:Nat):List Value:=(List.range m).map λt=> slice (some ⟨ub t,0,none⟩) D (uk t)
def tX(ub uk:Nat->Nat)(D m:Nat):iz ub uk D (m+1)=iz ub uk D m++[slice (some ⟨ub m,0,none⟩) D (uk m)]:=by unfold iz;rw[List.range_succ,List.map_append];rfl
def we(ub uk:Nat->Nat)(D x y:Nat):∀m,iz (aX ub m x) (aX uk m y) D m=iz ub uk D m:=λm=>by
 unfold iz
 refine List.map_congr_left λv O=>?_
 have:=List.mem_range.1 O
 rw[aY _ _ ahp,aY _ _ ahp]
def mL(lb:Nat->Nat)(T:HTr)(t:Nat):∀c,(fU lb T t c).length=c*2
 |0=>rfl
 |c+1=>by rw[jn,List.length_append,mL lb T t c];show c*2+2=_;omega
def jV(lb:Nat->Nat)(T:HTr)(t:Nat):∀c k,k<c->(fU lb T t c)[k*2]? =some (pointer (some ⟨lb (T.pl t k),0,none⟩))/\(fU lb T t c)[k*2+1]? =some (J (T.sl t k))
 |0,k,h=>by omega
 |c+1,k,h=>by
  have H:=mL lb T t c;rw[jn];by_cases e:k=c;.subst e;rw[List.getElem?_append_right ahp,List.getElem?_append_right ahp,H,Nat.sub_self,show k*2+1-k*2=1 by omega];exact abE
  .rw[List.getElem?_append_left ahp,List.getElem?_append_left ahp];exact jV lb T t c k ahp
def oZ(lb:Nat->Nat)(n v:Nat)(h:v<n):(gX lb n)[v]? =some (pointer (some ⟨lb v,0,none⟩)):=by unfold gX;simp[h]
def vZ(ub uk:Nat->Nat)(D m t:Nat)(h:t<m):(iz ub uk D m)[t]? =some (slice (some ⟨ub t,0,none⟩) D (uk t)):=by unfold iz;simp[h]
structure NwL(w6 wl:World)(l q:Nat)(bud:Int)(tr:HTr)(vR:Value)(lb:Nat->Nat)(m:Nat)(vL:Value)(ub uk:Nat->Nat):Prop where
 tn:aa [l] w6 wl
 blk:Blk wl l 247 (uY bud vR vL q tr.n)
 own:wl.ownsRow w6.heap.size 252 1 vL m (iz ub uk tr.D m)
 rs:∀t,t<m->wl.ownsRow w6.heap.size 255 2 (slice (some ⟨ub t,0,none⟩) tr.D (uk t)) tr.D (fU lb tr t tr.D)
 lo:∀t,t<m->vL.ownBlock≠some (ub t)
section
variable{w6 wl w8 w9:World}{l a g q:Nat}{tr:HTr}{m:Nat}{lb qb ub uk:Nat->Nat}{s:Ar}
def NwL.below{vL:Value}(h:NwL w6 wl l q bud tr vR lb m vL ub uk)(k:Below wl.heap.size wl w8):NwL w6 w8 l q bud tr vR lb m vL ub uk:=
 have t:aa [] wl w8:=aa.of_below k
 ⟨h.tn.trans (t.mono ahq),t.blk h.blk ahq,aa.own h.own t ahq,λu H=>aa.own (h.rs u H) t ahq,h.lo⟩
def NwL.step{nb cv O:Nat}(h:NwL w6 wl l q bud tr vR lb m (.slice A m cap) ub uk)(Q1:l<w6.heap.size)(hd:1<=tr.D)(I:Below wl.heap.size wl w8)(h8:w8.ownsRow wl.heap.size 255 2 (slice (some ⟨nb,0,none⟩) tr.D cv) tr.D (fU lb tr m tr.D))(h9:w9.ownsRow w6.heap.size 252 1 (slice (some ⟨O,0,none⟩) (m+1) Y) (m+1) (iz ub uk tr.D m++[slice (some ⟨nb,0,none⟩) tr.D cv]))(hg:(w8.alloc o).grownBy w9 (Value.slice A m cap).ownBlock)(OS:(Value.slice A m cap).ownBlock=some O\/O=(w8.alloc o).heap.size):NwL w6 (w9.setCell ⟨l,2,none⟩ (slice (some ⟨O,0,none⟩) (m+1) Y)) l q bud tr vR lb (m+1) (slice (some ⟨O,0,none⟩) (m+1) Y) (aX ub m nb) (aX uk m cv):=by
  have TF:=h.below I;have Mm:∀x,(Value.slice A m cap).ownBlock=some x->w6.heap.size<=x/\x<wl.heap.size:=λx H=>h.own.lt x H;have tg:aa (Value.slice A m cap).ownBlock.toList (w8.alloc o) w9:=aa.grownByH hg;have nS:∀x,(Value.slice A m cap).ownBlock≠some x->x∉(Value.slice A m cap).ownBlock.toList:=λx H hm=>H ah1;have WS:wl.heap.size<=w8.heap.size:=I.size;have VF:w6.heap.size<=wl.heap.size:=h.tn.size;have ab:w6.heap.size<=O:=(h9.lt O rfl).1;have OV:=h8.lt nb rfl;have hL:(Value.slice A m cap).ownBlock≠some l:=λe=>by have:=Mm l e;omega
  have VN:(Value.slice A m cap).ownBlock≠some nb:=λe=>by have:=Mm nb e;omega
  have ts:aa [l] w9 (w9.setCell ⟨l,2,none⟩ (slice (some ⟨O,0,none⟩) (m+1) Y)):=(aa.refl _ _).setCell (.inl ahq) _
  have UK:aa (l :: (Value.slice A m cap).ownBlock.toList) w8 (w9.setCell ⟨l,2,none⟩ (slice (some ⟨O,0,none⟩) (m+1) Y)):=
    (((aa.refl _ _).alloc o).trans (tg.mono λi hi=>List.mem_cons_of_mem _ hi)).trans (ts.mono ahq)
  have nF:∀x,x≠l->(Value.slice A m cap).ownBlock≠some x->x∉l :: (Value.slice A m cap).ownBlock.toList:=λx h1 h2 hm=>by
    rcases List.mem_cons.1 hm with e|e
    . exact h1 e
    . exact nS x h2 e
  have QG:∀x,x<w8.heap.size->(Value.slice A m cap).ownBlock≠some x->O≠x:=λx h1 h2 e=>by
    subst e;rcases OS with e|e
    . exact h2 e
    . have e9:(w8.alloc o).heap.size=w8.heap.size+1:=(by simp);omega
  refine⟨?_,?_,?_,λt ht=>?_,λt ht=>?_⟩
  . refine((TF.tn.mono (T:=l :: (Value.slice A m cap).ownBlock.toList) ahq).trans UK).fresh λi hi=>?_;rcases List.mem_cons.1 hi with e|e
    . exact .inl (by simp[e])
    . exact .inr (Mm i ahE).1
  . exact(tg.blk (TF.blk.alloc o) (nS l hL)).set_ 2 _
  . rw[tX,aW,aW,we]
    exact aa.own h9 ts (λx H=>by
      injection H with H;subst H
      simp;omega)
  . by_cases e:t=m;. subst e;rw[aW,aW];refine aa.own (de h8 VF) UK λx H=>?_;injection H with H;subst H;exact nF _ (by have:=OV.1;show nb≠l;omega) VN
    . have V:t<m:=(by omega);rw[aY _ _ e,aY _ _ e];refine aa.own (TF.rs t V) UK λx H=>?_;injection H with H;subst H;have:=((h.rs t V).lt (ub t) rfl).1;exact nF _ (by show ub t≠l;omega) (h.lo t V)
  . by_cases e:t=m;. subst e;rw[aW];intro e;injection e with e;exact QG nb OV.2 VN e
    . have V:t<m:=(by omega);rw[aY _ _ e];intro e;injection e with e;have:=((h.rs t V).lt (ub t) rfl).2;exact QG _ ahp (h.lo t V) e
def Hr(l a g q:Nat)(lb qb:Nat->Nat)(bR kR bL kL:Nat)(ub uk:Nat->Nat):Hx:=⟨l,a,g,q,lb,qb,bR,0,kR,bL,0,kL,ub,λ_=>0,uk⟩
def hxB(l bR bL:Nat)(lb ub:Nat->Nat)(T:HTr)(i:Nat):Prop:=i=l\/i=bR\/i=bL\/(∃t,t<T.n/\i=ub t)\/∃v,v<T.np/\i=lb v
def JC{bR kR bL kL lo:Nat}(hN:NwR w5 w6 l b a g q bud P T tr B0 tr.np (slice (some ⟨bR,0,none⟩) tr.np kR) lb qb s)(I:NwL w6 wl l q bud tr (slice (some ⟨bR,0,none⟩) tr.np kR) lb tr.n (slice (some ⟨bL,0,none⟩) tr.n kL) ub uk)(hq:dA w6 q (List.replicate tr.n Sp.zero))(mP:tr.Ok)(h5:tr.D<=5)(hn:tr.n<=32)(hp:tr.np<=32)(hl:lo<=l/\l<w5.heap.size)(bw:lo<=q/\q<w5.heap.size)(ha:a<lo)(hg:g<lo)(bc:l≠q):aU (hxB l bR bL lb ub tr) wl (Hr l a g q lb qb bR kR bL kL ub uk) tr bud s (hm0 tr)/\∀i,hxB l bR bL lb ub tr i->lo<=i:=by
  have ad:=hN.tn.size;have VF:=I.tn.size;have ax:=hN.own.lt bR rfl;have al:=I.own.lt bL rfl;have PD:∀t,t<tr.n->w6.heap.size<=ub t/\ub t<wl.heap.size:=λt ht=>(I.rs t ht).lt (ub t) rfl;have MN:∀v,v<tr.np->lb v<w6.heap.size/\qb v<w6.heap.size:=λv O=>⟨(hN.rk v O).lt,(hN.rs v O).lt⟩;have V:∀v,v<tr.np->w5.heap.size<=lb v/\w5.heap.size<=qb v/\bR≠lb v/\bR≠qb v:=λv O=>by obtain⟨a1,a2,a3,a4⟩:=hN.lo v O;exact⟨a1,a2,λe=>a3 (by rw[<-e];rfl),λe=>a4 (by rw[<-e];rfl)⟩
  have hd:=mP.d1;have t:=I.tn;have VP:∀v,((hm0 tr).P v).length=tr.nv v:=λv=>by simp[hm0]
  have Y5:∀v,((hm0 tr).W v).length=2*tr.nv v+1:=λv=>by simp[hm0]
  have ZC:tr.np<=kR:=by
    rcases hN.own.2 with⟨e,_⟩|⟨_,_,_,e,_,_,h1,_⟩
    . simp at e
    . injection e with _ _ e;omega
  have ZB:tr.n<=kL:=by
    rcases I.own.2 with⟨e,_⟩|⟨_,_,_,e,_,_,h1,_⟩
    . simp at e
    . injection e with _ _ e;omega
  have ab:∀u,u<tr.n->tr.D<=uk u:=λu h=>by
    rcases(I.rs u h).2 with⟨e,_⟩|⟨_,_,_,e,_,_,h1,_⟩
    . simp at e
    . injection e with _ _ e;omega
  refine⟨⟨⟨.inl rfl,.inr (.inl rfl),.inr (.inr (.inl rfl)),λu h=> .inr (.inr (.inr (.inl ⟨u,h,rfl⟩))),λv O=> .inr (.inr (.inr (.inr ⟨v,O,rfl⟩))),?_,?_,?_,λv O=>?_,λv O=>?_,λv O=>?_,hN.inj,hn,hp,h5,mP.nv32,ZC,ZB,ab⟩,
    ?_,hN.cat,λv _=>Y5 v,I.blk,by simp[hm0],?_,λv O=>?_,λv _=>VP v,λv O=>?_,λv O=>?_,λu h=>?_,λu k h hk=>?_,λu k h hk=>?_,λi hi=>?_⟩,λi hi=>?_⟩
  . intro i hi hB
    have Y:i=a\/i=g\/i=q\/∃v,v<tr.np/\qb v=i:=by
      unfold mvL Hr at hi;rcases List.mem_append.1 hi with hi|hi
      . simp at hi;omega
      . obtain⟨v,O,e⟩:=List.mem_map.1 hi;exact .inr (.inr (.inr ⟨v,List.mem_range.1 O,e⟩))
    rcases hB with e|e|e|⟨u,h,e⟩|⟨u,h,e⟩
    . rcases Y with H|H|H|⟨v,O,H⟩
      . omega
      . omega
      . omega
      . have:=V v O;omega
    . rcases Y with H|H|H|⟨v,O,H⟩
      . omega
      . omega
      . omega
      . have:=V v O;omega
    . rcases Y with H|H|H|⟨v,O,H⟩
      . omega
      . omega
      . omega
      . have:=MN v O;omega
    . have:=PD u h;rcases Y with H|H|H|⟨v,O,H⟩
      . omega
      . omega
      . omega
      . have:=MN v O;omega
    . have:=V u h;rcases Y with H|H|H|⟨v,O,H⟩
      . omega
      . omega
      . omega
      . exact hN.ne u v h O ahp
  . show q≠a;omega
  . show q≠g;omega
  . show qb v≠a;have:=V v O;omega
  . show qb v≠g;have:=V v O;omega
  . show qb v≠q;have:=V v O;omega
  . exact hN.ar.turns t ahu ahu
  . exact hq.turns t ahu
  . show Blk wl (lb v) _ #[_,_,.slice _ ((hm0 tr).P v).length ((hm0 tr).P v).length];rw[VP];exact t.blk (hN.rk v O) (by have:=V v O;simp;omega)
  . exact(hN.rs v O).turns t (by have:=V v O;simp;omega)
  . have c:=hN.own.cellAt v ahp;rw[oZ _ _ _ O]at c;show wl.cell? ⟨bR,0+v,none⟩=_;rw[Nat.zero_add];exact t.cell c ahu
  . have c:=I.own.cellAt u ahp;rw[vZ _ _ _ _ _ h]at c;show wl.cell? ⟨bL,0+u,none⟩=_;rw[Nat.zero_add];exact c
  . have c:=(I.rs u h).cellAt (k*2) ahp;rw[(jV lb tr u tr.D k hk).1]at c;show wl.cell? ⟨ub u,0+k*2,none⟩=_;rw[Nat.zero_add];exact c
  . have c:=(I.rs u h).cellAt (k*2+1) ahp;rw[(jV lb tr u tr.D k hk).2]at c;show wl.cell? ⟨ub u,0+k*2+1,none⟩=_;rw[Nat.zero_add];exact c
  . rcases hi with e|e|e|⟨u,h,e⟩|⟨u,h,e⟩
    . omega
    . omega
    . omega
    . have:=PD u h;omega
    . have:=MN u h;omega
  . rcases hi with e|e|e|⟨u,h,e⟩|⟨u,h,e⟩
    . omega
    . omega
    . omega
    . have:=PD u h;omega
    . have:=V u h;omega
end
end
section
open Go.RowKit
def te(I:k<P.length):chL P k=[]↔dk P k=true:=by refine⟨λh=>?_,xr⟩;unfold dk;rw[decide_eq_true_eq];refine⟨by omega,by omega,λhm=>?_⟩;obtain⟨n,H⟩:=List.getElem?_of_mem hm;have:=Ce H;rw[h]at this;cases this
def D0(I:k<P.length)(h:dk P k=true):(ac P)[(ak P k).length]? =some (k:Int):=by
 have key:∀d,(ak P (k+1+d))[(ak P k).length]? =some (k:Int)/\(ak P k).length<(ak P (k+1+d)).length:=by
  intro d;induction d with
  |zero=>have e:ak P (k+1)=ak P k++[(k:Int)]:=(by rw[cz,if_pos h]);show(ak P (k+1))[_]? =_/\_<(ak P (k+1)).length;rw[e];exact⟨by simp,by simp⟩
  |succ d H=>
   show(ak P (k+1+d+1))[_]? =_/\_<(ak P (k+1+d+1)).length;rw[cz P (k+1+d)];split;.exact⟨by rw[List.getElem?_append_left H.2];exact H.1,by simp;omega⟩
   .exact H
 have:=(key (P.length-(k+1))).1;rwa [show k+1+(P.length-(k+1))=P.length by omega]at this
def vG(h:a5 P T=0)(H:k<P.length):1<=nvT P T k/\nvT P T k<=32:=by
 refine⟨?_,(j4 h).nv32 k H⟩;unfold nvT;split;.omega
 .rename_i I;have:=List.length_pos_iff.2 I;omega
def As(h:a5 P T=0)(I:k<=P.length):(dw (hm0 (cr P T)).W k).length<=2080:=by
 have H:=bi (aQ h).1
 have h1:=qI (W:=(hm0 (cr P T)).W) (b:=65) k λv O=>by
  have:=(vG h (show v<P.length by omega)).2;have e:((hm0 (cr P T)).W v).length=2*nvT P T v+1:=by simp[hm0,cr]
  omega
 omega
def slT(h:a5 P T=0){t:Nat}(O:t<T.length)(a:XAt P T t x)(I:k<(je P T).toNat):(((cr P T).sl t k:Nat):Int)=slX P T t x k:=by
 have ex:T.getD t 0=x:=bh a.at_;show(((slX P T t (T.getD t 0) k).toNat:Nat):Int)=_;rw[ex];cases k with
 |zero=>
  have:0<=slX P T t x 0:=by show 0<=cE T t;unfold cE;omega
  omega
 |succ k=>obtain⟨v,u,j,_,_,_,_,H,_⟩:=a.above h I;rw[H];omega
def Gq(h:a5 P T=0):∀v,v<P.length->(dw (hm0 (cr P T)).W v).length+(2*(cr P T).nv v+1)<=4096:=λv O=>by
 have h1:=As h (Nat.le_of_lt O)
 have H:(cr P T).nv v<=32:=(vG h O).2
 omega
def CD{a g:Nat}{s:Ar}(h:aB w a g s)(n:Nat)(h1:1<=n)(H:n<=32)(V:s.W.length+(2*n+1)<=s.room):E 141 #[↑a,J n] w λe w'=>∃l q,e= returned (tuple #[pointer (some ⟨l,0,none⟩),J 0])/\cX w' l a g q (s.W.length+1) ⟨{s with W:=s.W++List.replicate (2*n+1) 0},List.replicate n Sp.zero⟩/\w.heap.size<=l/\w.heap.size<=q/\aa [a] w w':=by
  refine(yY h n).mono ?_;intro e w' hN;have e0:fP s n=0:=by unfold fP;rw[if_neg ahp,if_neg ahp]
  unfold pV at hN;rw[if_pos e0]at hN;obtain⟨l,q,k1,k2,k3⟩:=hN;rw[show(2*(n:Int)+1).toNat=2*n+1 by omega,Int.toNat_natCast]at k2;exact⟨l,q,k1,k2,k3⟩
def Bk(l:List Int):l.flatMap encI=l.map (Value.int .i64):=by
 induction l with
 |nil=>rfl
 |cons a l h=>rw[List.flatMap_cons,h];rfl
def qJ(w:World)(x y:Value)(t:TypeId):∀j u,[x,y][j]? =some u->(w.alloc (cells #[x,y] t)).cell? ((⟨w.heap.size,0,none⟩:Addr).add j)=some u:=by
 intro j u h;match j,h with
 |0,h=>simp at h;subst h;simp[Addr.add,World.cell?_alloc_new]
 |1,h=>simp at h;subst h;simp[Addr.add,World.cell?_alloc_new]
 |n+2,h=>simp at h
end
section
open Go.RowKit
def GQ(w:World)(a g:Nat)(s:Ar)(bud:Int)(P T:List Int)(e:Ending)(w':World):Prop:=
 ∃(B:Nat->Prop) (x:Hx) (s':Ar),x.a=a/\x.g=g/\e= returned (tuple #[↑x.l,J 0])/\aU B w' x (cr P T) bud s' (hm0 (cr P T))/\s'=⟨dw (hm0 (cr P T)).W P.length,s.room,0,0,0,false⟩/\(∀i,B i->w.heap.size<=i)/\w.heap.size<=x.q/\(∀v,v<P.length->w.heap.size<=x.qb v)/\aa [a] w w'
def Iu{a g:Nat}{s:Ar}(h:aB w a g s)(hs:s.W=[])(Lz:a≠g)(AP:Option Addr)(cP:Nat)(vT:Value)(P T:List Int)(hP:RdL w (.slice AP P.length cP) 1 encI P)(Nr:∀i,(Value.slice AP P.length cP).ownBlock=some i->i≠a/\i<w.heap.size)(hT:RdL w vT 1 encI T)(hc:a5 P T=0)(bud:Int)(MK:0<=bud)(hd1:bud<=1000)(V:s=⟨[],s.room,0,0,0,false⟩/\∀v,v<P.length->(dw (hm0 (cr P T)).W v).length+(2*(cr P T).nv v+1)<=s.room):E 104 #[↑a,agg #[.slice AP P.length cP,vT],J bud] w (GQ w a g s bud P T):=by
  obtain⟨i0,hi,J5,J7,J2⟩:=info_parts Tryz.infoSp;obtain⟨j0,hj,PG,PH,OB⟩:=info_parts Tryz.infoHr;have HJ:=qh (And.intro hj (And.intro PG (And.intro PH OB)));obtain⟨j1,Ml,W9,Xb,Xd⟩:=info_parts Tryz.infoHs;have RJ:=qh (And.intro Ml (And.intro W9 (And.intro Xb Xd)));obtain⟨j2,Wo,Xa,Xc,Xe⟩:=info_parts Tryz.infoHl;have RK:=qh (And.intro Wo (And.intro Xa (And.intro Xc Xe)));clear hj PG PH OB Ml W9 Xb Xd Wo Xa Xc Xe;have Kx:=bi (aQ hc).1;refine ajn ?_;intro Lq LM Mg Ma;obtain⟨NQ,Y2⟩:1<=P.length/\P.length<=32:=⟨Kx.1,Kx.2.1⟩;have H:=qh (And.intro h (And.intro Lq (And.intro LM Lz)));have HN:=qh (iU (w.alloc (cells #[.slice AP P.length cP,vT] 24)) (.slice AP P.length cP) vT P T (hP.alloc _) (hT.alloc _) hc);have HS:=qh (And.intro hs V);have KM:=qh hc;have Vb:=qh (And.intro hP Nr);have HR:=qh (λW=>pe bud W MK hd1);have Kp:(w.alloc (cells #[.slice AP P.length cP,vT] 24)).heap.size=w.heap.size+1:=by simp
  have B0:=qh ((Below.refl w.heap.size w).alloc (Nat.le_refl _) (cells #[.slice AP P.length cP,vT] 24));have BX:=qh (Blk.new w 24 #[.slice AP P.length cP,vT]);clear h hs hP Nr hT MK hd1 V Kx Lq LM Lz hc;go_enter func104,ntmps104;go_wp2_with fail;refine HN.o.mono ?_;rintro en w1 ⟨b,rfl,I,t1,b1⟩;rw[Kp]at I t1 b1;refine aj4 ?_;intro K1;clear t1 b1 I HN;go_wp2_with fail;refine LT (HR.o _) ?_;go_wp2_with fail;refine LT (d9 _ _ _ _ (K1.o.1.tab KM.o)) ?_;go_wp2_with (refine wpList_make_full _ rfl (.tmp 37) (.tmp 37) 237 rfl w1.heap.size 113 i0 (agg #[J 0,J 0,J 0,J 0]) 4 Tryz.underlying237 hi J5 J7 .i64 .i64 T.length T.length T.length rfl rfl rfl rfl ?b2 ?b3 (Nat.le_refl _) ?_);case b2=>rw[J2];omega
  case b3=>unfold maxLen;omega
  intro w4 r' hg;have I:dA w4 w1.heap.size (List.replicate T.length Sp.zero):=by unfold dA;rw[pd];have:=gA r';have e:(madeCells #[Value.int .i64 0,J 0,J 0,J 0] (T.length*4)).toList=List.replicate (T.length*4) (J 0):=ly _ _;exact aa0
  have t4:aa [] w1 w4:=aa.of_below ((Below.refl w1.heap.size w1).grown hg (Nat.le_refl _) (λj hj=>by cases hj));have LU:=I.lt;have H4:=qh (And.intro I (And.intro t4 LU));clear r' hg I t4 LU;go_upto_region 7 with fail;obtain⟨q,hq⟩:=LE w1.heap.size;rw[<-hq]at H4 ⊢;have HQ:=qh hq;clear hq;obtain⟨l,hl⟩:=LE w4.heap.size;obtain⟨w5,KV⟩:=LE (w4.alloc (.cells (uY bud (.slice none 0 0) (.slice none 0 0) q T.length) 247));have NH:=KV;unfold uY at NH;rw[<-NH,<-hl];have t5:aa [] w4 w5:=by rw[KV];exact(aa.refl _ _).alloc _
  have NE:w5.heap.size=l+1:=by rw[KV,hl];simp
  have MJ:Blk w5 l 247 (uY bud (.slice none 0 0) (.slice none 0 0) q T.length):=by rw[KV,hl];exact Blk.new _ _ _
  have HO:=qh (show a<w.heap.size/\g<w.heap.size/\a≠g/\w.heap.size+1<=b/\b<w1.heap.size/\w1.heap.size=q/\q<l/\w5.heap.size=l+1/\w.heap.size+1<=w1.heap.size from by
    have e1:b<w1.heap.size:=K1.o.1.low.2;have e2:=K1.o.2.2.2;have e3:=H4.o.2.2;have e4:=H.o;have e5:=HQ.o
    omega)
  have T5:=qh (show aa [] w1 w5 from H4.o.2.1.trans t5);have S2:Kq (∀W,aa [l,b,a] w5 W->W.cell? w.heap.size=some (.slice AP P.length cP)/\Z W w.heap.size 1 vT/\RdL W (.slice AP P.length cP) 1 encI P):=qh λW Y=>by have o:=HO.o;have k1:aa [l,b,a] w1 W:=(T5.o.mono ahq).trans Y;have bx:=k1.blk K1.o.2.2.1 ahu;refine⟨bx.cell 0,bx.cell 1,?_⟩;have k0:RdL w1 (.slice AP P.length cP) 1 encI P:=Vb.o.1.below K1.o.2.1 (Nat.le_refl _);exact k0.turns k1 λg' Na hm=>by have:=Vb.o.2 g' Na;simp at hm;omega
  have Ti:=qh (H4.o.1.turns (T:=[]) t5 ahq)
  have HI:=qh (show NwR w5 w5 l b a g q bud P T (cr P T) (λi=>w.heap.size+1<=i/\i<w1.heap.size) 0 (.slice none 0 0) (λ_=>0) (λ_=>0) s from by
    have o:=HO.o;refine⟨aa.refl _ _,MJ,World.ownsRow_nil _ _ _ _,?_,?_,⟨by rw[HS.o.1];exact HS.o.2.1,HS.o.2.2⟩,λv O=>absurd O (Nat.not_lt_zero _),λv O=>absurd O (Nat.not_lt_zero _),λv O=>absurd O (Nat.not_lt_zero _),λv u O=>absurd O (Nat.not_lt_zero _),λv u O=>absurd O (Nat.not_lt_zero _),.inl ⟨rfl,K1.o.1.turns T5.o ahq⟩⟩;. exact(H.o.1.turns (aa.of_below (S:=[]) K1.o.2.1) ahq ahq).turns T5.o ahq ahq
    . rw[HS.o.1];rfl)
  have h0:Kq (∀i,(w.heap.size+1<=i/\i<w1.heap.size)->i≠l/\i≠a/\i<w5.heap.size):=qh λi hi=>by have o:=HO.o;omega
  clear KV NH t5 NE MJ hl H4;obtain⟨f0,f1,_⟩:=S2.o _ (aa.refl _ _);go_wp2;clear f0 f1;go_loopw [11,44] (λlf i wr=>∃(k:Nat) (vR:Value) (lb qb:Nat->Nat) (s1:Ar),lf= J ((ak P k).length:Nat)/\i= J k/\k<=P.length/\NwR w5 wr l b a g q bud P T (cr P T) (λi=>w.heap.size+1<=i/\i<w1.heap.size) k vR lb qb s1/\s1.room=s.room) (λ_ i _=>P.length-(intOf i).toNat);case atStart=>exact⟨0,_,_,_,_,rfl,rfl,by omega,HI.o,rfl⟩
  case round=>
    clear HI;obtain⟨k,vR,lb,qb,s1,rfl,rfl,hk,Y,MP⟩:=hrel;obtain⟨wo,rfl⟩:∃wo:World,wo=wr:=⟨_,rfl⟩;by_cases F':k<P.length
    . obtain⟨A,cap,rfl⟩:=a8 Y.own;have HW:=qh (And.intro Y MP);obtain⟨f0,f1,f2⟩:=S2.o _ Y.tn;have Pb:=qh (wQ wo (.slice AP P.length cP) vT P f2 ahp (k:Int));obtain⟨n0,ad⟩:=LE ((chL P k).length);rw[<-ad]at Pb;have Pd:=qh ad;have Lc:=a6 P k;clear Y MP f2 ad;go_wp2_with fail;refine Pb.o.mono ?_;rintro en w2 ⟨v2,rfl,o2,b2⟩;obtain⟨A2,c2,rfl⟩:=a8 o2;have My:n0<=32:=(by have:=kS P k P.length;have:=Pd.o;unfold chL at this;omega);have Qr:=qh (And.intro (HW.o.1.below b2 ahS ahS ahS ahS) HW.o.2);clear b2 o2 f0 f1 HW Pb;go_upto_if 52 with fail;go_cut [11,13] (λs11 s13 wx=>s11= J ((ak P (k+1)).length:Nat)/\s13= J (nvT P T k:Nat)/\NwR w5 wx l b a g q bud P T (cr P T) (λi=>w.heap.size+1<=i/\i<w1.heap.size) k (.slice A k cap) lb qb s1/\(Dc l a wx b P T (.slice A k cap)\/(ak P (k+1)=[]/\gL (λi=>w.heap.size+1<=i/\i<w1.heap.size) wx b P T)))
      case first=>
        by_cases OQ:chL P k=[]
        . have Lw:=(te F').1 OQ;have HM:=qh (Qr.o.1.mates KM.o ahS ahS ahS ahS h0.o (D0 F' Lw));have HV:=qh (show((ak P (k+1)).length=(ak P k).length+1)/\nvT P T k=max 1 (T.count (k:Int))from⟨by rw[cz,if_pos Lw];simp,by unfold nvT;rw[if_pos OQ]⟩);have Y4:T.count (k:Int)<=32:=Nat.le_trans List.count_le_length Ma;obtain⟨ct,Mt⟩:=LE (T.count (k:Int));rw[<-Mt]at HM HV Y4;have e0:n0=0:=(by rw[Pd.o,OQ];rfl);subst e0;clear OQ Lw Mt;go_wp2_with fail;refine Pi HM.o λw3 OL=>?_;have H3:=qh (And.intro OL.o.1 OL.o.2.1);clear HM;go_wp2
          all_goals
            go_meet
            case rel=>
              refine⟨?_,?_,H3.o.1,.inl H3.o.2⟩;. rw[HV.o.1];go_num
              . rw[HV.o.2];exact congrArg (Value.int .i64) ahp
        . have Lw:¬dk P k=true:=λe=>OQ ((te F').2 e);have HV:=qh (show ak P (k+1)=ak P k/\nvT P T k=n0 from⟨by rw[cz,if_neg Lw],by unfold nvT;rw[if_neg OQ,Pd.o]⟩);have e0:0<n0:=(by rw[Pd.o];exact List.length_pos_iff.2 OQ);have e1:¬(n0:Int)=0:=(by omega);have e2:((n0:Int)==0)=false:=(by simpa using e1);clear OQ Lw;go_wp2;go_meet
          case rel=>
            refine⟨by rw[HV.o.1],by rw[HV.o.2],Qr.o.1,?_⟩;rcases Qr.o.1.tab with⟨q1,q2⟩|q1
            . exact .inr ⟨by rw[HV.o.1];exact q1,q2⟩
            . exact .inl q1
      case rest=>
        obtain⟨rfl,rfl,OL,VV⟩:=hcut;obtain⟨w3,rfl⟩:∃w3:World,w3=wc:=⟨_,rfl⟩;obtain⟨nv,Oo⟩:=LE (nvT P T k);rw[<-Oo];have U3:=qh Oo;have WC:1<=nv/\nv<=32:=(by rw[Oo];exact vG KM.o F');have Vf:=qh (CD OL.ar nv WC.1 WC.2 (by have h9:=OL.room.2 k F';rw[OL.cat,Oo];exact h9));have H3:=qh (And.intro OL (And.intro VV Qr.o.2));clear OL VV Qr Oo Pd My;go_wp2_with fail;refine Vf.o.mono ?_;rintro en w4 ⟨l',q',rfl,Up,Wq,WM,t4⟩;have o:=HO.o;have OJ:Blk w4 l 247 (uY bud (.slice A k cap) (.slice none 0 0) q T.length):=t4.blk H3.o.1.blk ahu;have o4:w4.ownsRow w5.heap.size 249 1 (.slice A k cap) k (gX lb k):=aa.own H3.o.1.own t4 (λx hx=>by have:=(H3.o.1.own.lt x hx).1;simp;omega);have PP:Z w4 l 1 (.slice A k cap):=OJ.cell 1;have ea:w5.heap.size<=w4.heap.size:=Nat.le_trans H3.o.1.tn.size t4.size;have cT:l<w4.heap.size:=OJ.lt;have Q5:(Value.slice A k cap).ownBlock≠some l:=(λe=>by have:=(H3.o.1.own.lt l e).1;omega);have H4:=qh (And.intro Up (And.intro Wq (And.intro WM t4)));have U6:=qh o4;have UR:=qh OJ;clear Up Wq WM t4 o4 OJ Vf o;go_wp2_with (at_builtin;refine wpList_append_lies _ rfl _ _ 244 rfl w5.heap.size 249 j0 (.pointer none) 1 8 Tryz.underlying244 HJ.o.1 HJ.o.2.1 HJ.o.2.2.1 HJ.o.2.2.2 rfl ahr _ _ _ rfl (U6.o.alloc _) ⟨w4.heap.size,0,none⟩ 1 1 [pointer (some ⟨l',0,none⟩)] rfl rfl (cell_one_new _ _ _) ahU ahr ?c3 ?c4 ?c5 _ rfl ?_);case c3=>unfold maxLen;omega
        case c4=>omega
        case c5=>simp;omega
        intro g3 ab w7 h3 Kr NA Uf;have MG:=(UR.o.alloc (cells #[↑l'] 249)).grown Kr (λe=>Q5 e.symm);have cV:Z w7 l 1 (.slice A k cap):=MG.cell 1;have ej:=MG.free 1
        have LX:=qh (show NwR w5 (w7.setCell ⟨l,1,none⟩ (slice (some ⟨g3,0,none⟩) (k+1) ab)) l b a g q bud P T (cr P T) (λi=>w.heap.size+1<=i/\i<w1.heap.size) (k+1) (slice (some ⟨g3,0,none⟩) (k+1) ab) (aX lb k l') (aX qb k q') {s1 with W:=s1.W++List.replicate (2*nv+1) 0} from by
          have o:=HO.o;obtain rfl:=U3.o
          exact H3.o.1.step H3.o.2.1 h0.o ahp ahp ahp ahp ahp rfl H4.o.1 H4.o.2.1 H4.o.2.2.1 H4.o.2.2.2 h3 Kr (by simpa using NA))
        have X1:=qh H3.o.2.2;clear h3 Kr NA MG UR U6 H4 H3 U3;go_wp2;go_roundw;case rel=>exact⟨k+1,_,_,_,_,rfl,by go_num,by omega,LX.o,X1.o⟩
        case measure=>simp[intOf];omega
    . obtain rfl:k=P.length:=by omega
      obtain⟨bR,cR,rfl,bP,bT⟩:=gG Y.own ahp;have c3:Z wo l 3 (slice (some ⟨q,0,none⟩) T.length T.length):=Y.blk.cell 3
      have Yl:Kq (∃B',dz B' wo b P T/\∀i,B' i->i≠l):=qh (by
        rcases Y.tab with⟨q1,_⟩|⟨B',q1,q2,_⟩
        . exfalso;obtain⟨x,a',_⟩:=xAt KM.o (show 0<T.length by omega);have:=fE.2 a'.leaf;unfold ac at this;rw[q1]at this;cases this
        . exact⟨B',q1,λi hi=>(q2 i hi).1⟩)
      have X9:=qh (Ti.o.turns Y.tn ahy)
      have KT:=qh (show NwL wo wo l q bud (cr P T) (slice (some ⟨bR,0,none⟩) P.length cR) lb 0 (.slice none 0 0) (λ_=>0) (λ_=>0)from
        ⟨aa.refl _ _,Y.blk,World.ownsRow_nil _ _ _ _,λt ht=>absurd ht (Nat.not_lt_zero _),λt ht=>absurd ht (Nat.not_lt_zero _)⟩)
      have YP:w5.heap.size<=wo.heap.size:=Y.tn.size;have HW:=qh (And.intro Y MP);clear Y MP;go_wp2;clear c3;go_loopw [84] (λi wl=>∃(m:Nat) (vL:Value) (ub uk:Nat->Nat),i= J m/\m<=T.length/\NwL wo wl l q bud (cr P T) (slice (some ⟨bR,0,none⟩) P.length cR) lb m vL ub uk) (λi _=>T.length-(intOf i).toNat);case atStart=>exact⟨0,_,_,_,rfl,by omega,KT.o⟩
      case round=>
        clear KT;obtain⟨m,vL,ub,uk,rfl,hm,hL⟩:=hrel;obtain⟨wl,rfl⟩:∃wl:World,wl=wr:=⟨_,rfl⟩;by_cases So:m<T.length
        . obtain⟨x,ax,ex⟩:=xAt KM.o So;obtain⟨A,cap,rfl⟩:=a8 hL.own;have Pj:Kq (∀W,Below wl.heap.size wl W->iC W b P T/\Blk W l 247 (uY bud (slice (some ⟨bR,0,none⟩) P.length cR) (.slice A m cap) q T.length)/\(W.cell? w.heap.size=some (.slice AP P.length cP)/\Z W w.heap.size 1 vT/\RdL W (.slice AP P.length cP) 1 encI P)/\∀v,v<P.length->Z W bR v (pointer (some ⟨lb v,0,none⟩))):=qh λW Y=>by obtain⟨B',k1,k2⟩:=Yl.o;have tw:aa [l] wo W:=hL.tn.trans (aa.of_below Y);have o:=HO.o;refine⟨(k1.turns tw λi hi hB=>k2 i hB ahQ).f,(hL.below Y).blk,S2.o _ (HW.o.1.tn.trans (tw.mono ahq)),λv O=>?_⟩;have c:=HW.o.1.own.cellAt v ahp;rw[oZ _ _ _ O]at c;exact tw.cell c ahu
          have KO:l<wl.heap.size:=hL.blk.lt;obtain⟨D,hD⟩:=LE ((je P T).toNat);have ec:1<=D/\D<=5:=(by rw[hD];exact⟨(j4 KM.o).d1,xN KM.o⟩);have Tn:=JP wl b P T m x ax.at_ (Pj.o wl (Below.refl _ _)).1;rw[ax.len,<-hD]at Tn;have HU:=qh Tn;have HL:=qh hL;have HX:=qh (And.intro ax (And.intro ex hD));clear hL ax ex hD Tn;go_wp2_with fail;refine HU.o.mono ?_;rintro en w7 ⟨v7,rfl,o7,b7⟩;obtain⟨bu,cu,rfl,bW,Za⟩:=gG o7 ahp;have Vm:Kq (∀W,Below w7.heap.size w7 W->∀c,c<D->Z W bu c (J (plX P x c))):=qh λW Y c KA=>by have e:=o7.cellAt c ahp;have Wc:(upL P x)[c]? =some (plX P x c):=(by obtain⟨u,hu⟩:=ai (show c<(upL P x).length by rw[HX.o.1.len,<-HX.o.2.2];exact KA);rw[hu];unfold plX;rw[bh hu]);have e2:((upL P x).flatMap encI)[c]? =some (J (plX P x c)):=(by have:(upL P x).flatMap encI=(upL P x).map (Value.int .i64):=Bk _;rw[this,List.getElem?_map,Wc];rfl);rw[e2]at e;exact(Y.cell (p:=⟨bu,c,none⟩) Za).trans e
          have H7:=qh b7;have QC:wl.heap.size<=w7.heap.size:=b7.size;clear o7 b7 HU;go_wp2;go_loopw [17,92] (λlv i wi=>∃(c:Nat),i= J c/\c<=D/\Below w7.heap.size w7 wi/\wi.ownsRow w7.heap.size 255 2 lv c (fU lb (cr P T) m c)) (λ_ i _=>D-(intOf i).toNat);case atStart=>exact⟨0,rfl,by omega,Below.refl _ _,World.ownsRow_nil _ _ _ _⟩
          case round=>
            obtain⟨c,rfl,KA,PW,P0⟩:=hrel;obtain⟨wi,rfl⟩:∃wi:World,wi=wr:=⟨_,rfl⟩;by_cases TR:c<D
            . obtain⟨v,_,al,UA,_,_⟩:=HX.o.1.up c (by rw[<-HX.o.2.2];exact TR);have YG:=Vm.o wi PW c TR;have X3:=qh (show(cr P T).pl m c=v from by show(plX P (T.getD m 0) c).toNat=v;rw[HX.o.2.1,UA,Int.toNat_natCast]);rw[UA]at YG;obtain⟨g0,g1,⟨g2,g3,g4⟩,g5⟩:=Pj.o wi (H7.o.trans (PW.mono QC));have Vg:=qh (E5 wi b P T m So g0);obtain⟨A3,c3,rfl⟩:=a8 P0;have HI:=qh (And.intro PW P0);have HV:=qh UA;clear g0 g1 g2 g3 g4 g5 PW P0;go_wp2_with fail;refine LT Vg.o ?_;clear Vg;go_upto_if 101 with fail;go_cut [21] (λbc wx=>bc= J ((cr P T).sl m c:Nat)/\Below wi.heap.size wi wx)
              case first=>
                by_cases hc0:c=0;. subst hc0;have I':=qh (slT KM.o So HX.o.1 (k:=0) (by rw[<-HX.o.2.2];omega));go_wp2;go_meet;case rel=>exact⟨by rw[I'.o];rfl,Below.refl _ _⟩
                . obtain⟨d,rfl⟩:∃d,c=d+1:=⟨c-1,by omega⟩;obtain⟨c,hc⟩:=LE (d+1);obtain⟨v0,_,cU,W3,_,_⟩:=HX.o.1.up d (by rw[<-HX.o.2.2];omega)
                  have I':=qh (show(((cr P T).sl m (d+1):Nat):Int)=fD (chL P v) v0 from by
                    rw[slT KM.o So HX.o.1 (k:=d+1) (by rw[<-HX.o.2.2];exact TR)];show fD (chL P (plX P x (d+1))) (plX P x d)=_
                    rw[HV.o,W3])
                  have Tz:=Vm.o wi HI.o.1 d ahp;rw[W3]at Tz;obtain⟨g0,g1,⟨g2,g3,g4⟩,g5⟩:=Pj.o wi (H7.o.trans (HI.o.1.mono QC));have Pb:=qh (wQ wi.drew (.slice AP P.length cP) vT P (show RdL wi.drew (.slice AP P.length cP) 1 encI P from g4) ahp (v:Int));have Ut:w.heap.size<wi.heap.size:=(by have:=HO.o;have:=HI.o.1.size;omega);have K9:bu<wi.heap.size:=(by have:=HI.o.1.size;omega);have cM:(chL P v).length<=32:=(by have:=kS P v P.length;unfold chL;omega);have x1:IntKind.i64.wrap (((d:Nat):Int)+1-1)=(d:Int):=(by rw[Int.add_sub_cancel];exact IntWalk.i64_in _ ahp);have x2:(d:Int)<(D:Int):=(by omega);have x4:IntKind.i64.wrap (d:Int)=(d:Int):=IntWalk.i64_in _ ahp;have x5:¬(d:Int)<0:=(by omega);have x6:¬(D:Int)<=(d:Int):=(by omega);have x3:d<D:=(by omega);clear g0 g1 g4 g5 hc;go_wp2
                  go_region_held3 (λW=>W.cell? w.heap.size=some (.slice AP P.length cP)/\Z W w.heap.size 1 vT/\Z W bu d (J v0))
                    (first|exact⟨g2,g3,Tz⟩|exact K8.o)
                    (first
                      | (go_at_call 140;go_loud (refine Pb.o.mono ?_);rintro en w8 ⟨v8,rfl,o8,b8⟩;have B8:=qh (show Below wi.heap.size wi w8 from⟨b8.os,b8.tape,b8.output,b8.size,b8.block⟩);have K8:=qh (And.intro ((B8.o.cell (p:=w.heap.size) Ut).trans g2) (And.intro ((B8.o.cell (p:=⟨w.heap.size,1,none⟩) Ut).trans g3) ((B8.o.cell (p:=⟨bu,d,none⟩) K9).trans Tz)));have RI:=qh (mj w8 v8 (chL P v) v0 (dM o8 ahp));clear o8 b8)
                      | (go_at_call 119;go_loud (refine LT RI.o ?_)))
                  all_goals go_wp2;go_meet;case rel=>exact⟨by rw[I'.o],B8.o⟩
              case rest=>
                obtain⟨rfl,LK⟩:=hcut;obtain⟨wx,rfl⟩:∃wx:World,wx=wc:=⟨_,rfl⟩;have PX:Below w7.heap.size w7 wx:=HI.o.1.trans (LK.mono HI.o.1.size);have WK:wx.ownsRow w7.heap.size 255 2 (.slice A3 c c3) c (fU lb (cr P T) m c):=aa.own HI.o.2 (aa.of_below (S:=[]) LK) ahq;obtain⟨g0,g1,_,g5⟩:=Pj.o wx (H7.o.trans (PX.mono QC));have c1:Z wx l 1 (slice (some ⟨bR,0,none⟩) P.length cR):=g1.cell 1;have g6:=g5 v al;have HY:=qh (And.intro PX WK);have YR:w7.heap.size<=wx.heap.size:=PX.size;have ei:l<wx.heap.size:=(by omega);have cp:bR<wx.heap.size:=(by have:=aM g6;exact this);have y1:(v:Int)<(P.length:Int):=(by omega);have y2:¬(v:Int)<0:=(by omega);clear g0 g1 g5 PX WK LK HI;go_wp2_with (at_builtin;refine wpList_append_lies _ rfl _ _ 252 rfl w7.heap.size 255 j1 (agg #[.pointer none,J 0]) 2 16 Tryz.underlying252 RJ.o.1 RJ.o.2.1 RJ.o.2.2.1 RJ.o.2.2.2 rfl ahr _ _ _ rfl (HY.o.2.alloc _) ⟨wx.heap.size,0,none⟩ 1 1 [pointer (some ⟨lb v,0,none⟩),J ((cr P T).sl m c:Nat)] rfl rfl (qJ _ _ _ _) ahU ahr ?c3 ?c4 ?c5 _ rfl ?_);case c3=>unfold maxLen;omega
                case c4=>omega
                case c5=>first|(simp;omega)|omega
                intro g3 ab w9 h9 OS Sk ZM;have H9:=qh (And.intro h9 OS);clear h9 OS Sk;go_wp2;go_roundw;case rel=>exact⟨c+1,by go_num,by omega,(HY.o.1.alloc YR _).grown H9.o.2 ahu (λj hj=>(HY.o.2.lt j hj).1),by rw[jn,X3.o];exact H9.o.1⟩
                case measure=>simp[intOf];omega
            . obtain rfl:c=D:=by omega
              obtain⟨nb,cv,rfl,ZT,ZU⟩:=gG P0 ahp;have QQ:Below wl.heap.size wl wi:=H7.o.trans (PW.mono QC);obtain⟨_,g1,_,_⟩:=Pj.o wi QQ;have c2:Z wi l 2 (.slice A m cap):=g1.cell 2;have HY:=qh (And.intro QQ (And.intro (de P0 QC) (And.intro g1 (HL.o.below QQ).own)));have Sy:wo.heap.size<=wi.heap.size:=Nat.le_trans HL.o.tn.size QQ.size;have Q8:l<wi.heap.size:=g1.lt;have Q5:(Value.slice A m cap).ownBlock≠some l:=(λe=>by have:=(HL.o.own.lt l e).1;have:=HO.o;omega);clear PW P0 g1 QQ;go_wp2_with (at_builtin;refine wpList_append_lies _ rfl _ _ 245 rfl wo.heap.size 252 j2 (.slice none 0 0) 1 24 Tryz.underlying245 RK.o.1 RK.o.2.1 RK.o.2.2.1 RK.o.2.2.2 rfl ahr _ _ _ rfl (HY.o.2.2.2.alloc _) ⟨wi.heap.size,0,none⟩ 1 1 [slice (some ⟨nb,0,none⟩) c cv] rfl rfl (cell_one_new _ _ _) ahU ahr ?c3 ?c4 ?c5 _ rfl ?_);case c3=>unfold maxLen;omega
              case c4=>omega
              case c5=>simp;omega
              intro g9 c9 w9 h9 OS Sk ZM;have L5:=(HY.o.2.2.1.alloc (cells #[slice (some ⟨nb,0,none⟩) c cv] 252)).grown OS (λe=>Q5 e.symm);have ds:Z w9 l 2 (.slice A m cap):=L5.cell 2;have ek:=L5.free 2
              have XT:=qh (show NwL wo (w9.setCell ⟨l,2,none⟩ (slice (some ⟨g9,0,none⟩) (m+1) c9)) l q bud (cr P T) (slice (some ⟨bR,0,none⟩) P.length cR) lb (m+1) (slice (some ⟨g9,0,none⟩) (m+1) c9) (aX ub m nb) (aX uk m cv)from by
                have o:=HO.o;obtain rfl:=HX.o.2.2
                exact HL.o.step ahp (j4 KM.o).d1 HY.o.1 HY.o.2.1 h9 OS (by simpa using Sk))
              clear h9 OS Sk L5 HY;go_wp2;go_roundw;case rel=>exact⟨m+1,_,_,_,by go_num,by omega,XT.o⟩
              case measure=>simp[intOf];omega
        . obtain rfl:m=T.length:=by omega
          obtain⟨bL,cL,rfl,bA,bF⟩:=gG hL.own ahp;have HL:=qh hL;clear hL;go_wp2;go_ret2;have o:=HO.o;obtain⟨K,KB⟩:=JC (lo:=w.heap.size) HW.o.1 HL.o X9.o (j4 KM.o) (xN KM.o) Ma Y2 ahp ahp ahp ahp ahp;refine⟨_,_,s1,rfl,rfl,rfl,K,by have e:=HW.o.1.room.1;rw[HW.o.1.cat,HW.o.2]at e;exact e,KB,by show w.heap.size<=q;omega,λv O=>?_,?_⟩;. have:=(HW.o.1.lo v O).2.1;show w.heap.size<=qb v;omega
          . have bw:aa [a,l,b] w w5:=(aa.of_below (S:=[a,l,b]) K1.o.2.1).trans (T5.o.mono ahq);have SS:aa [a,l,b] w wl:=(bw.trans (HW.o.1.tn.mono ahq)).trans (HL.o.tn.mono ahq);exact SS.fresh λi hi=>by simp at hi ⊢;omega
end
end Go.Proofs.YtglokdbiggbkjaaGreat
