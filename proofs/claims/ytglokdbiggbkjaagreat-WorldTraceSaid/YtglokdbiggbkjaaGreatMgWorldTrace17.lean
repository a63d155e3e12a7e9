/- Joined texts. -/
import Derived.Deep.RegionLaw
import Derived.StillTailTactics
import Derived.IntWalk
import Derived.Deep.RegionHeld3
import Derived.ScopeJumps
import Derived.WalkMore
import Derived.Test.YtglokdbiggbkjaaGreatMgWorldTrace0
import Derived.Test.YtglokdbiggbkjaaGreatMgWorldTrace2
import Derived.Test.YtglokdbiggbkjaaGreatMgWorldTrace4
import Derived.Test.YtglokdbiggbkjaaGreatMgWorldTrace5
import Derived.Test.YtglokdbiggbkjaaGreatMgWorldTrace7
import Derived.Test.YtglokdbiggbkjaaGreatMgWorldTrace15
import Derived.Test.YtglokdbiggbkjaaGreatMgWorldTrace16
set_option linter.unusedVariables false
set_option linter.unusedSimpArgs false
set_option linter.defProp false
set_option maxRecDepth 100000
set_option maxHeartbeats 16000000
open Go.Proofs.Tryz
namespace Go.Proofs.YtglokdbiggbkjaaGreat
open Go.IntKind(i64)
open Go.Value(int bool slice agg tuple pointer)
open Go.Ending(returned)
open Go.Obj(cells)
variable{w w':World}{S:List Nat}{p x bud z:Int}{u:Value}{k v i j n c:Nat}{P T:List Int}{W:Nat->List Int}{B:Nat->Prop}{hb:Nat->Nat->Option Nat}
section
open Go.RowKit
def gr(P T:List Int)(n:Nat):Nat:=(fM (ac P) (T.getD n 0)).toNat
def aa.cellQ(k:aa S w w'){p:Addr}(h:w.cell? p=some u)(hS:p.block∉S):w'.cell? p=some u:=by exact aa3
def aa.grownByQ{row:Option Nat}(h:w.grownBy w' row):aa row.toList w w':=
 ⟨h.os,h.tape,h.output,h.size,λi hi hn=>h.block i hi aiu⟩
def rU(u:Value)(n:Nat):(madeCells #[u,u,u,u] n).toList=List.replicate n u:=by exact aax
def wj(n:Nat):(List.replicate n Sp.zero).flatMap bm=List.replicate (n*4) (J 0):=by exact aay
theorem Tryz.infoNd:(prog.info? 243).map (λi=>(i.zero,i.size,i.bytes))=some (some (agg #[.pointer none,J 0]),2,16):=by kernel_rfl
def qB(B:Nat->Prop)(w:World)(b:Nat)(P T:List Int)(hc:a5 P T=0)(h:gV B w b P T):E 137 #[↑b] w λe w'=>e= returned (J ((ac P).length:Nat))/\dD (λi=>B i\/w.heap.size<=i) w' b P T/\aa [b] w w':=
  vW w b P T (λw'=>dD (λi=>B i\/w.heap.size<=i) w' b P T/\aa [b] w w') (λ_ h=>h.1.f) (jr B w b P T hc h)
def lK(w:World)(b:Nat)(P T:List Int)(h:iJ w b P T):E 137 #[↑b] w λe w'=>e= returned (J ((ac P).length:Nat))/\w=w':=
  vW w b P T (λw'=>w=w') (λ_ e=>e ▸ h) (eZ w b P T h)
def coC(a b:Nat)(G L par bud:Int)(gp nd sp:Value):Array Value:=#[↑a,↑b,J G,J L,J par,J bud,gp,nd,sp]
end
section
open Go.RowKit
variable{u:Nat}
def nj(P:List Int)(p:Int)(k:Nat):List Int:=((List.range k).map Int.ofNat).filter λv=>decide (P.getD v.toNat 0=p)
def chL(P:List Int)(p:Int):List Int:=nj P p P.length
def nvT(P T:List Int)(v:Nat):Nat:=if chL P v=[]then max 1 (T.count (v:Int))else(chL P v).length
def plX(P:List Int)(x:Int)(k:Nat):Int:=(upL P x).getD k 0
def slX(P T:List Int)(i:Nat)(x:Int):Nat->Int
 |0=>cQ T i
 |k+1=>fM (chL P (plX P x (k+1))) (plX P x k)
def cE(P T:List Int):HTr:=⟨(jq P T).toNat,T.length,P.length,λt k=>(plX P (T.getD t 0) k).toNat,λt k=>(slX P T t (T.getD t 0) k).toNat,nvT P T,λv=>(jq P T).toNat-depL P v⟩
def yF(P:List Int)(p:Int){q:Int}(h:P[k]? =some q):nj P p (k+1)=if q=p then nj P p k++[(k:Int)]else nj P p k:=by
 unfold nj;rw[List.range_succ,List.map_append,List.filter_append];show _++List.filter _ [(k:Int)]=_;have e:P.getD (k:Int).toNat 0=q:=by rw[Int.toNat_natCast,bp h]
 by_cases H:q=p;.rw[if_pos H,List.filter_cons_of_pos (by simpa only[decide_eq_true_eq,e]using H)];rfl
 .have:¬P.getD (k:Int).toNat 0=p:=by rw[e];exact H
  rw[if_neg H,List.filter_cons_of_neg (by simpa only[decide_eq_true_eq]using this)];simp
def lj(P:List Int)(p:Int)(k:Nat):(nj P p k).length<=k:=by unfold nj;have:=List.length_filter_le (λv:Int=>decide (P.getD v.toNat 0=p)) ((List.range k).map Int.ofNat);simpa using this
def Cp(h:P[v]? =some p):(v:Int)∈chL P p:=by unfold chL nj;rw[List.mem_filter];have:=(List.getElem?_eq_some_iff.1 h).1;refine⟨List.mem_map.2 ⟨v,List.mem_range.2 this,rfl⟩,?_⟩;simp only[decide_eq_true_eq,Int.toNat_natCast];exact bp h
def FG{v:Int}(h:v∈chL P p):∃n:Nat,v=n/\P[n]? =some p:=by unfold chL nj at h;rw[List.mem_filter,List.mem_map]at h;obtain⟨⟨a,O,rfl⟩,H⟩:=h;have V:=List.mem_range.1 O;refine⟨a,rfl,?_⟩;simp only[decide_eq_true_eq]at H;have e:(Int.ofNat a).toNat=a:=rfl;rw[e]at H;obtain⟨q,I⟩:=ai V;rw[bp I]at H;rw[I,H]
def xE(h:dq P x=true):chL P x=[]:=by
 cases hc:chL P x with
 |nil=>rfl
 |cons a l=>obtain⟨n,rfl,H⟩:=FG (P:=P) (p:=x) (v:=a) (by rw[hc];simp);exact absurd (List.mem_of_getElem? H) (ju h).2.2
structure XAt(P T:List Int)(i:Nat)(x:Int):Prop where
 at_:T[i]? =some x
 leaf:dq P x=true
 len:(upL P x).length=(jq P T).toNat
 up:∀k,k<(jq P T).toNat->∃v:Nat,(upL P x)[k]? =some (v:Int)/\v<P.length/\plX P x k=v/\depL P v+k=(jq P T).toNat/\(upL P x).drop k=upL P v
def xAt(h:a5 P T=0)(hi:i<T.length):∃x,XAt P T i x/\T.getD i 0=x:=by
 obtain⟨x,I⟩:=ai hi;have hm:=jA (aR h).2.2.2 I;have O:=fO.1 hm;have a:=ju O;have d:=DI h hm;have d':(jq P T).toNat=depL P x:=by omega
 obtain⟨h1,Y⟩:=pS (aR h).2.1 a.1 a.2.1;refine⟨x,⟨I,O,by rw[h1,d'],λk hk=>?_⟩,bp I⟩;obtain⟨u,H⟩:=ai (show k<(upL P x).length by omega);obtain⟨a1,a2,V,a4⟩:=Y k u H;obtain⟨v,rfl⟩:=Int.eq_ofNat_of_zero_le a1;exact⟨v,H,by omega,by unfold plX;rw[bp H],by omega,V⟩
section
def XAt.par(h:a5 P T=0)(a:XAt P T i x)(Y:k+1<(jq P T).toNat)(O:plX P x k=v)(hu:plX P x (k+1)=u):P[v]? =some (u:Int):=by
 obtain⟨v',b1,b2,b3,b4,I⟩:=a.up k ahy;obtain⟨u',c1,c2,c3,c4,c5⟩:=a.up (k+1) Y;obtain rfl:v'=v:=by omega
 obtain rfl:u'=u:=by omega
 obtain⟨p,H⟩:=ai b2;rw[gx (aR h).2.1 H]at I;have e:=congrArg (λl=>l[1]?) I;simp only[List.getElem?_drop,List.getElem?_cons_succ]at e;rw[c1]at e;by_cases V:0<=p;.obtain⟨n,rfl⟩:=Int.eq_ofNat_of_zero_le V;have PS:=gJ (aR h).2.1 H;obtain⟨q,hq⟩:=ai (show n<P.length by omega);rw[gx (aR h).2.1 hq]at e;simp at e;rw[H,e]
 .rw[wT ahy]at e;simp at e
def XAt.above(h:a5 P T=0)(a:XAt P T i x)(I:k+1<(jq P T).toNat):∃v u j:Nat,plX P x k=v/\plX P x (k+1)=u/\v<P.length/\u<P.length/\slX P T i x (k+1)=j/\(chL P u)[j]? =some (v:Int):=by obtain⟨v,b1,b2,b3,O,V⟩:=a.up k ahy;obtain⟨u,c1,c2,c3,c4,c5⟩:=a.up (k+1) I;have hm:=Cp (a.par h I b3 c3);obtain⟨j,H⟩:=Int.eq_ofNat_of_zero_le ((eV (chL P u) v).1.2 hm);refine⟨v,u,j,b3,c3,b2,c2,?_,nK hm H⟩;show fM (chL P (plX P x (k+1))) (plX P x k)=j;rw[b3,c3];exact H
def oF(hi:T[i]? =some x)(h:i<u):(T.take i).count x<(T.take u).count x:=by
 have e:T.take u=T.take (i+1)++(T.drop (i+1)).take (u-(i+1)):=by rw[<-List.take_add];congr 1;omega
 rw[e,a9 hi,List.count_append,List.count_append];simp;omega
def ji(h:a5 P T=0):(cE P T).Ok:=by
 have KY:=bj (aR h).1;have U5:∀t,t<T.length->∀x,T.getD t 0=x->slX P T t x 0=(((T.take t).count x:Nat):Int):=λt H x hx=>by show cQ T t=_;unfold cQ;rw[hx]
 have hD:1<=(jq P T).toNat:=by obtain⟨x,a,_⟩:=xAt h (show 0<T.length by omega);have b:=ju a.leaf;obtain⟨h1,h2⟩:=qG (aR h).2.1 b.1 b.2.1;rw[<-a.len,(pS (aR h).2.1 b.1 b.2.1).1];exact h1
 refine⟨hD,λt k H V=>?_,λt k H V=>?_,λv O=>?_,λt k H V=>?_,λt u k H Y V e=>?_,λt u k H Y V e e2=>?_,λt u H Y=>?_,λt u H Y e e2=>?_⟩;.obtain⟨x,a,ex⟩:=xAt h H;obtain⟨v,b1,b2,b3,_⟩:=a.up k V;show(plX P (T.getD t 0) k).toNat<P.length;rw[ex,b3];exact b2
 .obtain⟨x,a,ex⟩:=xAt h H;show(slX P T t (T.getD t 0) k).toNat<nvT P T (plX P (T.getD t 0) k).toNat;rw[ex];cases k with
  |zero=>have a0:=ju a.leaf;obtain⟨n,rfl⟩:=Int.eq_ofNat_of_zero_le a0.1;obtain⟨v,b1,b2,b3,b4,b5⟩:=a.up 0 V;have e:plX P (n:Int) 0=n:=(by obtain⟨p,hp⟩:=ai (show n<P.length by omega);unfold plX;rw[gx (aR h).2.1 hp];rfl);rw[e,U5 t H _ ex,Int.toNat_natCast,Int.toNat_natCast];have c:=oF a.at_ (show t<T.length from H);rw[List.take_length]at c;unfold nvT;rw[if_pos (xE a.leaf)];omega
  |succ k=>obtain⟨v,u,j,b1,b2,b3,b4,b5,b6⟩:=a.above h V;rw[b5,b2,Int.toNat_natCast,Int.toNat_natCast];have:=(List.getElem?_eq_some_iff.1 b6).1;unfold nvT;rw[if_neg (λe=>by rw[e]at this;exact absurd this (Nat.not_lt_zero _))];exact this
 .show nvT P T v<=32;unfold nvT;have h1:=lj P v P.length;have h2:=List.count_le_length (a:=(v:Int)) (l:=T);split;.omega
  .show(nj P v P.length).length<=32;omega
 .obtain⟨x,a,ex⟩:=xAt h H;obtain⟨v,b1,b2,b3,b4,_⟩:=a.up k V;show(jq P T).toNat-depL P (((plX P (T.getD t 0) k).toNat:Nat):Int)=k;rw[ex,b3,Int.toNat_natCast];omega
 .obtain⟨x,a,ex⟩:=xAt h H;obtain⟨y,b,I⟩:=xAt h Y;have KO:k+1<(jq P T).toNat:=V;obtain⟨v,b1,b2,b3,b4,b5⟩:=a.up k ahy;obtain⟨v',c1,c2,c3,c4,c5⟩:=b.up k ahy;have e':(plX P (T.getD t 0) k).toNat=(plX P (T.getD u 0) k).toNat:=e;rw[ex,I,b3,c3,Int.toNat_natCast,Int.toNat_natCast]at e';subst e';have f:(upL P x).drop k=(upL P y).drop k:=by rw[b5,c5]
  have f2:=congrArg (λl=>l[1]?) f;simp only[List.getElem?_drop]at f2;have f3:plX P x (k+1)=plX P y (k+1):=by unfold plX;rw[List.getD_eq_getElem?_getD,List.getD_eq_getElem?_getD,f2]
  constructor;.show(plX P (T.getD t 0) (k+1)).toNat=(plX P (T.getD u 0) (k+1)).toNat;rw[ex,I,f3]
  .show(fM (chL P (plX P (T.getD t 0) (k+1))) (plX P (T.getD t 0) k)).toNat=(fM (chL P (plX P (T.getD u 0) (k+1))) (plX P (T.getD u 0) k)).toNat;rw[ex,I,f3,b3,c3]
 .obtain⟨x,a,ex⟩:=xAt h H;obtain⟨y,b,I⟩:=xAt h Y;obtain⟨v,w,j,b1,b2,b3,b4,b5,b6⟩:=a.above h V;obtain⟨v',w',j',c1,c2,c3,c4,c5,c6⟩:=b.above h V;have e':(plX P (T.getD t 0) (k+1)).toNat=(plX P (T.getD u 0) (k+1)).toNat:=e;have So:(slX P T t (T.getD t 0) (k+1)).toNat=(slX P T u (T.getD u 0) (k+1)).toNat:=e2;rw[ex,I,b2,c2,Int.toNat_natCast,Int.toNat_natCast]at e';rw[ex,I,b5,c5,Int.toNat_natCast,Int.toNat_natCast]at So;subst e';subst So;rw[b6]at c6;show(plX P (T.getD t 0) k).toNat=(plX P (T.getD u 0) k).toNat;rw[ex,I,b1,c1];injection c6 with c6;omega
 .obtain⟨x,a,ex⟩:=xAt h H;obtain⟨y,b,I⟩:=xAt h Y;have r:∀{i:Nat} {z:Int},XAt P T i z->plX P z ((jq P T).toNat-1)=0:=λ{i z} c=>by have q:=ju c.leaf;obtain⟨_,h2⟩:=qG (aR h).2.1 q.1 q.2.1;have hl:=c.len;rw[(pS (aR h).2.1 q.1 q.2.1).1]at hl;rw[hl]at h2;unfold plX;rw[bp h2]
  show(plX P (T.getD t 0) ((jq P T).toNat-1)).toNat=(plX P (T.getD u 0) ((jq P T).toNat-1)).toNat;rw[ex,I,r a,r b]
 .obtain⟨x,a,ex⟩:=xAt h H;obtain⟨y,b,I⟩:=xAt h Y;have z:∀{i:Nat} {z:Int},XAt P T i z->plX P z 0=z/\0<=z:=λ{i z} c=>by have q:=ju c.leaf;obtain⟨n,rfl⟩:=Int.eq_ofNat_of_zero_le q.1;obtain⟨p,hp⟩:=ai (show n<P.length by omega);exact⟨by unfold plX;rw[gx (aR h).2.1 hp];rfl,q.1⟩
  have e':(plX P (T.getD t 0) 0).toNat=(plX P (T.getD u 0) 0).toNat:=e;have So:(slX P T t (T.getD t 0) 0).toNat=(slX P T u (T.getD u 0) 0).toNat:=e2;rw[ex,I,(z a).1,(z b).1]at e';have NH:x=y:=by have:=(z a).2;have:=(z b).2;omega
  subst NH;rw[ex,I,U5 t H _ ex,U5 u Y _ I,Int.toNat_natCast,Int.toNat_natCast]at So;rcases Nat.lt_trichotomy t u with C'|he|C'
  .have:=oF a.at_ C';omega
  .exact he
  .have:=oF b.at_ C';omega
def xZ(h:a5 P T=0):(cE P T).D<=5:=by have O:=bj (aR h).1;obtain⟨x,a,ex⟩:=xAt h (show 0<T.length by omega);have H:=(aR h).2.2.1;unfold kJ at H;rw[List.all_eq_true]at H;have I:=H x (fO.2 a.leaf);simp only[decide_eq_true_eq]at I;have b:=ju a.leaf;have:=a.len;rw[(pS (aR h).2.1 b.1 b.2.1).1]at this;show(jq P T).toNat<=5;omega
end
end
section
open Go.RowKit
structure Hx where
 l:Nat
 a:Nat
 g:Nat
 q:Nat
 lb:Nat->Nat
 qb:Nat->Nat
 bR:Nat
 oR:Nat
 kR:Nat
 bL:Nat
 oL:Nat
 kL:Nat
 ub:Nat->Nat
 uo:Nat->Nat
 uk:Nat->Nat
def dz(W:Nat->List Int):Nat->List Int
 |0=>[]
 |n+1=>dz W n++W n
def mvL(x:Hx)(T:HTr):List Nat:=[x.a,x.g,x.q]++(List.range T.np).map x.qb
structure uJ(B:Nat->Prop)(x:Hx)(T:HTr):Prop where
 bl:B x.l
 br:B x.bR
 bL:B x.bL
 bu:∀t,t<T.n->B (x.ub t)
 bb:∀v,v<T.np->B (x.lb v)
 nm:∀i∈mvL x T,¬B i
 qa:x.q≠x.a
 qg:x.q≠x.g
 va:∀v,v<T.np->x.qb v≠x.a
 vg:∀v,v<T.np->x.qb v≠x.g
 vq:∀v,v<T.np->x.qb v≠x.q
 inj:∀v u,v<T.np->u<T.np->x.qb v=x.qb u->v=u
 n32:T.n<=32
 p32:T.np<=32
 d5:T.D<=5
 v32:∀v,v<T.np->T.nv v<=32
 kR:T.np<=x.kR
 kL:T.n<=x.kL
 uk:∀t,t<T.n->T.D<=x.uk t
structure aV(B:Nat->Prop)(w:World)(x:Hx)(T:HTr)(bud:Int)(s:Ar)(m:Hm):Prop where
 fx:uJ B x T
 ar:aB w x.a x.g s
 cat:s.W=dz m.W T.np
 wl:∀v,v<T.np->(m.W v).length=2*T.nv v+1
 lk:Blk w x.l 247 #[int i64 bud,slice (some ⟨x.bR,x.oR,none⟩) T.np x.kR,slice (some ⟨x.bL,x.oL,none⟩) T.n x.kL,slice (some ⟨x.q,0,none⟩) T.n T.n]
 sn:m.S.length=T.n
 ss:dE w x.q m.S
 rk:∀v,v<T.np->Blk w (x.lb v) 319 #[↑x.a,int i64 ((dz m.W v).length+1),slice (some ⟨x.qb v,0,none⟩) (m.P v).length (m.P v).length]
 rn:∀v,v<T.np->(m.P v).length=T.nv v
 rs:∀v,v<T.np->dE w (x.qb v) (m.P v)
 cR:∀v,v<T.np->w.cell? ⟨x.bR,x.oR+v,none⟩=some (pointer (some ⟨x.lb v,0,none⟩))
 cL:∀t,t<T.n->w.cell? ⟨x.bL,x.oL+t,none⟩=some (slice (some ⟨x.ub t,x.uo t,none⟩) T.D (x.uk t))
 cP:∀t k,t<T.n->k<T.D->w.cell? ⟨x.ub t,x.uo t+k*2,none⟩=some (pointer (some ⟨x.lb (T.pl t k),0,none⟩))
 cS:∀t k,t<T.n->k<T.D->w.cell? ⟨x.ub t,x.uo t+k*2+1,none⟩=some (int i64 (T.sl t k))
 bd:∀i,B i->i<w.heap.size
def aa.cell(k:aa S w w'){p:Addr}(h:w.cell? p=some u)(hS:p.block∉S):w'.cell? p=some u:=by exact aa3
def sK(W:Nat->List Int)(v:Nat)(X:List Int):∀n,n<=v->dz (aY W v X) n=dz W n
 |0,_=>rfl
 |n+1,h=>by show dz (aY W v X) n++aY W v X n=dz W n++W n;rw[sK W v X n ahy,aZ _ _ ahy]
def sJ{W H:Nat->List Int}:∀n,(∀v,v<n->(W v).length=(H v).length)->(dz W n).length=(dz H n).length
 |0,_=>rfl
 |n+1,h=>by show(dz W n++W n).length=(dz H n++H n).length;rw[List.length_append,List.length_append,sJ n (λv O=>h v ahy),h n ahy]
def om(W:Nat->List Int)(v:Nat):∀d,∃C,dz W (v+1+d)=dz W v++W v++C/\∀X,dz (aY W v X) (v+1+d)=dz W v++X++C
 |0=>⟨[],by show dz W v++W v=_;simp,λX=>by show dz (aY W v X) v++aY W v X v=_;rw[sK W v X v (Nat.le_refl _),aX];simp⟩
 |d+1=>by
  obtain⟨C,h1,h⟩:=om W v d;refine⟨C++W (v+1+d),?_,λX=>?_⟩;.show dz W (v+1+d)++W (v+1+d)=_;rw[h1];simp
  .show dz (aY W v X) (v+1+d)++aY W v X (v+1+d)=_;rw[h,aZ _ _ ahy];simp
def q8{W:Nat->List Int}{b:Nat}:∀n,(∀v,v<n->(W v).length<=b)->(dz W n).length<=n*b
 |0,_=>by simp[dz]
 |n+1,h=>by have h1:=q8 n λv O=>h v ahy;have H:=h n ahy;show(dz W n++W n).length<=(n+1)*b;rw[List.length_append,Nat.add_mul,Nat.one_mul];omega
section
variable{x:Hx}{T:HTr}{s s':Ar}{m:Hm}
def uJ.mv(f:uJ B x T)(h:B i):i∉mvL x T:=λhm=>f.nm i hm h
def uJ.qbm(_:uJ B x T)(O:v<T.np):x.qb v∈mvL x T:=List.mem_append_right _ (List.mem_map.2 ⟨v,List.mem_range.2 O,rfl⟩)
def uJ.lm(f:uJ B x T)(h:B i):i≠x.a/\i≠x.g/\i≠x.q/\∀v,v<T.np->i≠x.qb v:=by have:=f.mv h;refine⟨λe=>this (by simp[mvL,e]),λe=>this (by simp[mvL,e]),λe=>this (by simp[mvL,e]),λv O e=>this (by rw[e];exact f.qbm O)⟩
def aV.turns(h:aV B w x T bud s m)(k:aa S w w')(h1:∀i∈S,¬B i)(h2:∀i∈S,i∉mvL x T):aV B w' x T bud s m:=by
 have V:∀i,B i->i∉S:=λi I hm=>h1 i hm I;have Y:∀i,i∈mvL x T->i∉S:=λi I hm=>h2 i hm I
 exact⟨h.fx,h.ar.turns k (Y _ (by simp[mvL])) (Y _ (by simp[mvL])),h.cat,h.wl,k.blk h.lk (V _ h.fx.bl),h.sn,h.ss.turns k (Y _ (by simp[mvL])),λv O=>k.blk (h.rk v O) (V _ (h.fx.bb v O)),h.rn,λv O=>(h.rs v O).turns k (Y _ (h.fx.qbm O)),
  λv O=>k.cell (h.cR v O) (V _ h.fx.br),λt H=>k.cell (h.cL t H) (V _ h.fx.bL),λt i H hi=>k.cell (h.cP t i H hi) (V _ (h.fx.bu t H)),λt i H hi=>k.cell (h.cS t i H hi) (V _ (h.fx.bu t H)),λi I=>Nat.lt_of_lt_of_le (h.bd i I) k.size⟩
def aV.below(h:aV B w x T bud s m)(k:Below w.heap.size w w'):aV B w' x T bud s m:=h.turns (S:=[]) (aa.of_below k) ahz ahz
def aV.new(h:aV B w x T bud s m):¬B w.heap.size/\w.heap.size∉mvL x T:=by
 refine⟨λI=>absurd (h.bd _ I) (Nat.lt_irrefl _),λhm=>?_⟩;unfold mvL at hm;have h1:=h.ar.blk.lt;have H:=h.ar.wds.lt;have V:=h.ss.lt;rcases List.mem_append.1 hm with hm|hm
 .simp at hm;omega
 .obtain⟨v,O,e⟩:=List.mem_map.1 hm;have:=(h.rs v (List.mem_range.1 O)).lt;omega
def aV.rg(h:aV B w x T bud s m)(O:v<T.np):da w (x.lb v) x.a x.g (x.qb v) ((dz m.W v).length+1) ⟨s,m.P v⟩:=by have f:=h.fx;obtain⟨H,I,e3,e4⟩:=f.lm (f.bb v O);exact⟨h.ar,h.rk v O,h.rs v O,H,I,e4 v O,f.va v O,f.vg v O,by show(m.P v).length<=32;rw[h.rn v O];exact f.v32 v O⟩
def aV.rgTurn(h:aV B w x T bud s m)(O:v<T.np){X:List Int}{Y:List Sp}(V:da w' (x.lb v) x.a x.g (x.qb v) ((dz m.W v).length+1) ⟨s',Y⟩)(hc:s'.W=dz (aY m.W v X) T.np)(hX:X.length=2*T.nv v+1)(hP:Y.length=T.nv v)(k:aa [x.a,x.g,x.qb v] w w'):aV B w' x T bud s' {m with W:=aY m.W v X,P:=aY m.P v Y}:=by
  have f:=h.fx;have hB:∀i,B i->i∉[x.a,x.g,x.qb v]:=λi I=>by obtain⟨e1,e2,e3,e4⟩:=f.lm I;simp[e1,e2,e4 v O]
  have hq:x.q∉[x.a,x.g,x.qb v]:=by simp only[List.mem_cons,List.not_mem_nil,or_false,not_or];exact⟨f.qa,f.qg,λe=>f.vq v O e.symm⟩
  have hl:∀u,(dz (aY m.W v X) u).length=(dz m.W u).length:=λu=>sJ u λy _=>by
    by_cases e:y=v;. subst e;rw[aX,hX,h.wl y O]
    . rw[aZ _ _ e]
  refine⟨f,V.ar,hc,λu H=>?_,k.blk h.lk (hB _ f.bl),h.sn,h.ss.turns k hq,λu H=>?_,λu H=>?_,λu H=>?_,
    λu H=>k.cell (h.cR u H) (hB _ f.br),λt ht=>k.cell (h.cL t ht) (hB _ f.bL),λt i ht hi=>k.cell (h.cP t i ht hi) (hB _ (f.bu t ht)),λt i ht hi=>k.cell (h.cS t i ht hi) (hB _ (f.bu t ht)),λi I=>Nat.lt_of_lt_of_le (h.bd i I) k.size⟩
  . show(aY m.W v X u).length=_;by_cases e:u=v;. subst e;rw[aX];exact hX
    . rw[aZ _ _ e];exact h.wl u H
  . show Blk w' (x.lb u) _ #[_,J ((dz (aY m.W v X) u).length+1),.slice _ (aY m.P v Y u).length (aY m.P v Y u).length];rw[hl u];by_cases e:u=v;. subst e;rw[aX];exact V.lk
    . rw[aZ _ _ e];exact k.blk (h.rk u H) (hB _ (f.bb u H))
  . show(aY m.P v Y u).length=_;by_cases e:u=v;. subst e;rw[aX];exact hP
    . rw[aZ _ _ e];exact h.rn u H
  . show dE w' (x.qb u) (aY m.P v Y u);by_cases e:u=v;. subst e;rw[aX];exact V.sp
    . rw[aZ _ _ e];exact(h.rs u H).turns k (by simp only[List.mem_cons,List.not_mem_nil,or_false,not_or];exact⟨f.va u H,f.vg u H,λe'=>e (f.inj u v H O e')⟩)
def aV.spTurn(h:aV B w x T bud s m){Y:List Sp}(hs:dE w' x.q Y)(hl:Y.length=T.n)(k:aa [x.q] w w'):aV B w' x T bud s {m with S:=Y}:=by
 have f:=h.fx;have V:∀i,B i->i∉[x.q]:=λi I=>by simp[(f.lm I).2.2.1]
 exact⟨f,h.ar.turns k (by simpa using λe=>f.qa e.symm) (by simpa using λe=>f.qg e.symm),h.cat,h.wl,k.blk h.lk (V _ f.bl),hl,hs,λv O=>k.blk (h.rk v O) (V _ (f.bb v O)),h.rn,λv O=>(h.rs v O).turns k (by simpa using f.vq v O),
  λv O=>k.cell (h.cR v O) (V _ f.br),λt H=>k.cell (h.cL t H) (V _ f.bL),λt i H hi=>k.cell (h.cP t i H hi) (V _ (f.bu t H)),λt i H hi=>k.cell (h.cS t i H hi) (V _ (f.bu t H)),λi I=>Nat.lt_of_lt_of_le (h.bd i I) k.size⟩
def aV.l0(k:aV B w x T bud s m):w.cell? x.l=some (J bud):=k.lk.cell 0
def aV.l2(k:aV B w x T bud s m):Z w x.l 2 (slice (some ⟨x.bL,x.oL,none⟩) T.n x.kL):=k.lk.cell 2
def aV.l3(k:aV B w x T bud s m):Z w x.l 3 (slice (some ⟨x.q,0,none⟩) T.n T.n):=k.lk.cell 3
def jg(k:aV B w x T bud s m):E 255 #[↑x.l] w λe w'=>e= returned (J T.n)/\w=w':=by have c5:=k.l3;clear k;go_enter func255,ntmps255;exact aab
def j7(k:aV B w x T bud s m)(i:Int):E 253 #[↑x.l,J i] w λe w'=>e= returned (aC (getS m.S i))/\Below w.heap.size w w':=by
  have HN:=k.fx.n32;have O:=k.sn;by_cases I:okI m.S i;. have h:=dM I;obtain⟨p,Y⟩:=LE (getS m.S i);rw[<-Y]at h ⊢;have c2:=k.l3;have a0:=aaa (k.ss.cell h 0 _ rfl);have a1:=k.ss.cell h 1 _ rfl;have a2:=k.ss.cell h 2 _ rfl;have a3:=k.ss.cell h 3 _ rfl;obtain⟨V,h1⟩:=I;rw[O]at h1;obtain⟨n,rfl⟩:=Int.eq_ofNat_of_zero_le V;simp only[Int.toNat_natCast]at a0 a1 a2 a3;have Kl:=k.lk.lt;have Ko:=k.ss.lt;refine ajt ?_;intro t2 t3;have t4:n<T.n:=(by omega);have H:Kq (aV B (w.alloc (cells #[J 0,J 0,J 0,J 0] 113)) x T bud s m):=qh (k.below ((Below.refl _ _).alloc (Nat.le_refl _) _));clear k h Y V h1 O;go_enter func253,ntmps253;go_wp2_with (go_at_call 255;refine(jg H.o).mono ?_;rintro e w' ⟨rfl,rfl⟩);exact bodyPost_ret (results_cell_row ahC _ _ w.heap.size 113 _ (0,0) _ ahC (heap_alloc_new w _) Tryz.underlying113 rfl ahB) rfl ⟨rfl,(Below.refl _ _).alloc (Nat.le_refl _) _⟩
  . have H:Kq (aV B (w.alloc (cells #[J 0,J 0,J 0,J 0] 113)) x T bud s m):=qh (k.below ((Below.refl _ _).alloc (Nat.le_refl _) _));rw[dF I];unfold okI at I;rw[O]at I;clear k O;by_cases V:i<0;. go_enter func253,ntmps253;go_wp2;exact bodyPost_ret (results_cell_row ahC _ _ w.heap.size 113 _ (0,0) _ ahC (heap_alloc_new w _) Tryz.underlying113 rfl ahB) rfl ⟨rfl,(Below.refl _ _).alloc (Nat.le_refl _) _⟩
    . have t3:((T.n:Nat):Int)<=i:=(by omega);clear I;go_enter func253,ntmps253;go_wp2_with (go_at_call 255;refine(jg H.o).mono ?_;rintro e w' ⟨rfl,rfl⟩);exact bodyPost_ret (results_cell_row ahC _ _ w.heap.size 113 _ (0,0) _ ahC (heap_alloc_new w _) Tryz.underlying113 rfl ahB) rfl ⟨rfl,(Below.refl _ _).alloc (Nat.le_refl _) _⟩
end
end
section
open Go.RowKit
variable{S:List Sp}
def fU{α:Type}(f:Nat->α)(v:Nat):aY f v (f v)=f:=by
 funext u;unfold aY;split;.rename_i h;rw[h]
 .rfl
def dR(h:j<S.length):getS S (j:Int)=sv S j:=by unfold getS sv;rw[if_pos ahy,Int.toNat_natCast]
def gI(h:j<S.length):S[j]? =some (sv S j):=by unfold sv;rw[List.getD_eq_getElem?_getD,List.getElem?_eq_getElem h];rfl
section
variable{x:Hx}{T:HTr}{s s':Ar}{m:Hm}
def aV.sub1(h:aV B w x T bud s m)(O:v<T.np):∀i∈[x.qb v],i∈mvL x T:=by intro i hi;simp only[List.mem_cons,List.not_mem_nil,or_false]at hi;rw[hi];exact h.fx.qbm O
def aV.sub3(h:aV B w x T bud s m)(O:v<T.np):∀i∈[x.a,x.g,x.qb v],i∈mvL x T:=by
 intro i hi;simp only[List.mem_cons,List.not_mem_nil,or_false]at hi;rcases hi with rfl|rfl|rfl
 .simp[mvL]
 .simp[mvL]
 .exact h.fx.qbm O
def aV.spot1(h:aV B w x T bud s m)(O:v<T.np)(H:j<T.nv v):E 257 #[pointer (some ⟨x.lb v,0,none⟩),J j] w λe w'=>e= returned (aC (m.sp v j))/\Below w.heap.size w w':=by have e:getS (m.P v) (j:Int)=m.sp v j:=dR (by rw[h.rn v O];exact H);rw[<-e];exact pD (h.rg O) j
def aV.put1(h:aV B w x T bud s m)(O:v<T.np){H:List Sp}(V:da w' (x.lb v) x.a x.g (x.qb v) ((dz m.W v).length+1) ⟨s,H⟩)(I:H.length=T.nv v)(k:aa [x.qb v] w w'):aV B w' x T bud s {m with P:=aY m.P v H}:=by have:=h.rgTurn O (X:=m.W v) V (by rw[fU];exact h.cat) (h.wl v O) I (k.mono ahz);rw[fU]at this;exact this
def H1(B:Nat->Prop)(w:World)(x:Hx)(T:HTr)(bud:Int)(s:Ar)(m':Hm)(e:Ending)(w':World):Prop:=∃b,e= returned (.bool b)/\aV B w' x T bud s m'/\aa (mvL x T) w w'
def aV.ask1(h:aV B w x T bud s m)(O:v<T.np)(Y:j<T.nv v):E 256 #[pointer (some ⟨x.lb v,0,none⟩),J j] w (H1 B w x T bud s (iK m v j)):=by
 have H:=h.rn v O;have I:j<(m.P v).length:=by omega
 refine(Dk (h.rg O) j).mono ?_;rintro e w' ⟨rfl,V,t⟩;refine⟨_,rfl,?_,t.mono (h.sub1 O)⟩;unfold iK;have e:getS (m.P v) (j:Int)=m.sp v j:=dR I;unfold dk at V;simp only[e]at V;by_cases c:(m.sp v j).pc=0;.rw[if_pos ⟨⟨by omega,by show((j:Nat):Int)<(m.P v).length;omega⟩,c⟩]at V;rw[if_pos c];exact h.put1 O V (by simp[H]) t
 .rw[if_neg (λh=>c h.2)]at V;rw[if_neg c];have:=h.put1 O V H t;rw[fU]at this;exact this
def aV.wth0(h:aV B w x T bud s m)(O:v<T.np)(Y:j<T.nv v)(u c:Int)(V:da w' (x.lb v) x.a x.g (x.qb v) ((dz m.W v).length+1) (ik ⟨s,m.P v⟩ j u c).1)(t:aa [x.qb v] w w'):aV B w' x T bud s (eQ m v j u c):=by
 have H:=h.rn v O;have I:j<(m.P v).length:=by omega
 unfold eQ;have e:getS (m.P v) (j:Int)=m.sp v j:=dR I;unfold ik at V;simp only[e]at V;by_cases cc:(m.sp v j).pc=10;.rw[if_pos ⟨⟨by omega,by show((j:Nat):Int)<(m.P v).length;omega⟩,cc⟩]at V;rw[if_pos cc];exact h.put1 O V (by simp[H]) t
 .rw[if_neg (λh=>cc h.2)]at V;rw[if_neg cc];have:=h.put1 O V H t;rw[fU]at this;exact this
def aV.leave1(h:aV B w x T bud s m)(O:v<T.np)(H:j<T.nv v)(c:Int):E 264 #[pointer (some ⟨x.lb v,0,none⟩),J j,J c] w (H1 B w x T bud s (eQ m v j 11 c)):=
 (yS (h.rg O) j c).mono λ_ _ ⟨e,V,t⟩=>⟨_,e,h.wth0 O H 11 c V t,t.mono (h.sub1 O)⟩
def aV.pass1(h:aV B w x T bud s m)(O:v<T.np)(H:j<T.nv v)(c:Int):E 265 #[pointer (some ⟨x.lb v,0,none⟩),J j,J c] w (H1 B w x T bud s (eQ m v j 15 c)):=
 (CA (h.rg O) j c).mono λ_ _ ⟨e,V,t⟩=>⟨_,e,h.wth0 O H 15 c V t,t.mono (h.sub1 O)⟩
def RtS.pcO{W:List Int}(r:RtS n W S):∀p∈S,Gy p:=by
 intro p H;obtain⟨i,hi⟩:=List.getElem?_of_mem H;have h:i<S.length:=(List.getElem?_eq_some_iff.1 hi).1;have e:sv S i=p:=by rw[gI h]at hi;injection hi
 rw[<-e];exact r.i.pcs i (by rw[<-r.len];exact h)
def zA(s:Ar)(t y:Int)(p:Sp):(df s t y p).1.W.length=s.W.length:=by
 unfold df;split
 .unfold iU;repeat' split
  all_goals simp only[ay,dQ,aQ,bQ]
 .unfold eJ;repeat' split
  all_goals simp only[ay,gX,aQ,bQ]
  all_goals (try split)<;>simp only[bQ]
def S1(B:Nat->Prop)(w:World)(x:Hx)(T:HTr)(bud:Int)(s s':Ar)(m':Hm)(b:Bool)(e:Ending)(w':World):Prop:=e= returned (.bool b)/\aV B w' x T bud s' m'/\s'.ops<=s.ops+1/\aa (mvL x T) w w'
def BJ(s:Ar)(m:Hm)(v j:Nat):Ar:=(df s (((dz m.W v).length:Nat)+1) ((j:Int)+1) (m.sp v j)).1
def aV.step1(h:aV B w x T bud s m)(O:v<T.np)(hj:j<T.nv v)(V:RtS (T.nv v) (m.W v) (m.P v))(Y:s.ops+1<=1000000000000):E 259 #[pointer (some ⟨x.lb v,0,none⟩),J j] w
      (S1 B w x T bud s (if (m.sp v j).pc=0\/(m.sp v j).pc=10 then s else BJ s m v j) (if (m.sp v j).pc=0\/(m.sp v j).pc=10 then m else rstH m v j) (if (m.sp v j).pc=0\/(m.sp v j).pc=10 then false else decide (((rstH m v j).sp v j).pc=0\/((rstH m v j).sp v j).pc=10))):=by
  have hl:=h.rn v O;have I:j<(m.P v).length:=by omega
  have e0:getS (m.P v) (j:Int)=m.sp v j:=dR I;refine(CY (h.rg O) j Y V.pcO).mono ?_;rintro e w' ⟨rfl,hg,t⟩;unfold mQ at hg ⊢;simp only[e0]at hg ⊢;by_cases c:(m.sp v j).pc=0\/(m.sp v j).pc=10
  . rw[if_pos c,if_pos c,if_pos c]
    have H:¬(okI (m.P v) (j:Int)/\(m.sp v j).pc≠0/\(m.sp v j).pc≠10):=λh=>by
      rcases c with c|c
      . exact h.2.1 c
      . exact h.2.2 c
    rw[if_neg H]at hg ⊢;refine⟨rfl,?_,by omega,t.mono (h.sub3 O)⟩;have:=h.rgTurn O (X:=m.W v) hg (by rw[fU];exact h.cat) (h.wl v O) hl t;rw[fU,fU]at this;exact this
  . rw[if_neg c,if_neg c,if_neg c];have H:okI (m.P v) (j:Int)/\(m.sp v j).pc≠0/\(m.sp v j).pc≠10:=⟨⟨by omega,by omega⟩,λe=>c (.inl e),λe=>c (.inr e)⟩;rw[if_pos H]at hg ⊢;simp only[Int.toNat_natCast]at hg;obtain⟨C,h1,h2⟩:=om m.W v (T.np-(v+1));rw[show v+1+(T.np-(v+1))=T.np by omega]at h1 h2
    have hA:(dz m.W v).length<=5000:=by
      have f:=h.fx;have:=q8 (W:=m.W) (b:=65) v λu hu=>by have:=h.wl u ahy;have:=f.v32 u ahy;omega
      have:=f.p32;omega
    have hq:=V.reach hj;have J':(m.sp v j)=sv (m.P v) j:=rfl;obtain⟨g1,g2⟩:=zB (s:=s) (A:=dz m.W v) (W:=m.W v) (C:=C) (n:=T.nv v) (h.cat.trans h1) (h.wl v O) (h.fx.v32 v O) hA (x:=(j:Int)+1) ⟨by omega,by omega⟩ (p:=m.sp v j) hq.1 hq.2;rw[g2]at hg ⊢;have hs:(rstH m v j).sp v j=(df (arW (m.W v)) 1 ((j:Int)+1) (m.sp v j)).2:=(by unfold Hm.sp rstH;show sv (aY m.P v _ v) j=_;rw[aX,bh,if_pos ⟨rfl,I⟩];rfl);rw[hs];refine⟨rfl,?_,qK s _ _ _,t.mono (h.sub3 O)⟩;exact h.rgTurn O hg (by unfold BJ;rw[g1,h2]) (by rw[zA];exact h.wl v O) (by simp[hl]) t
end
end
section
open Go.RowKit
section
variable{x:Hx}{T:HTr}{s s':Ar}{m:Hm}
def li(T:HTr)(m:Hm)(i:Int):Hm:=if okI m.S i then qi T m i.toNat else m
def aV.sc(h:aV B w x T bud s m){p:Sp}(H:m.S[n]? =some p):Z w x.q (n*4) (J p.pc)/\Z w x.q (n*4+1) (J p.a)/\Z w x.q (n*4+2) (J p.b)/\Z w x.q (n*4+3) (J p.c):=by have a0:=aaa (h.ss.cell H 0 _ rfl);exact⟨a0,h.ss.cell H 1 _ rfl,h.ss.cell H 2 _ rfl,h.ss.cell H 3 _ rfl⟩
def aV.put4(h:aV B w x T bud s m)(hn:n<T.n)(p':Sp):aV B ((((w.setCell ⟨x.q,n*4,none⟩ (J p'.pc)).setCell ⟨x.q,n*4+1,none⟩ (J p'.a)).setCell ⟨x.q,n*4+2,none⟩ (J p'.b)).setCell ⟨x.q,n*4+3,none⟩ (J p'.c)) x T bud s (m.thr n p'):=by
 have H:n<m.S.length:=by rw[h.sn];exact hn
 have O:=gI H;obtain⟨p,e⟩:=LE (sv m.S n);rw[<-e]at O;have g:∀(S:List Sp) (y:Sp),n<S.length->(S.set n y)[n]? =some y:=λS y h=>by simp[h]
 have h1:=h.ss.put O (j:=0) (u:= J p'.pc) (p':=⟨p'.pc,p.a,p.b,p.c⟩) ahA rfl;have V:=h1.put (g _ _ H) (j:=1) (u:= J p'.a) (p':=⟨p'.pc,p'.a,p.b,p.c⟩) ahA rfl;have Y:=V.put (g _ _ (by simpa using H)) (j:=2) (u:= J p'.b) (p':=⟨p'.pc,p'.a,p'.b,p.c⟩) ahA rfl;have I:=Y.put (g _ _ (by simpa using H)) (j:=3) (u:= J p'.c) (p':=p') ahA rfl;simp only[List.set_set,Nat.add_zero]at I
 have t:aa [x.q] w ((((w.setCell ⟨x.q,n*4,none⟩ (J p'.pc)).setCell ⟨x.q,n*4+1,none⟩ (J p'.a)).setCell ⟨x.q,n*4+2,none⟩ (J p'.b)).setCell ⟨x.q,n*4+3,none⟩ (J p'.c)):=
  ((((aa.refl _ w).setCell (.inl ahz) _).setCell (.inl ahz) _).setCell (.inl ahz) _).setCell (.inl ahz) _
 exact h.spTurn I (by simp[h.sn]) t
def de{q:Nat}(k:aa S w w')(h:q∈S)(i:Nat)(u:Value):aa S w (w'.setCell ⟨q,i,none⟩ u):=k.setCell (.inl h) _
def q_mv(x:Hx)(T:HTr):x.q∈mvL x T:=by simp[mvL]
def aV.alloc(k:aV B w x T bud s m)(o:Obj):aV B (w.alloc o) x T bud s m:=k.below ((Below.refl _ _).alloc (Nat.le_refl _) _)
def zX(B:Nat->Prop)(w:World)(x:Hx)(T:HTr)(bud:Int)(s:Ar)(m:Hm)(i:Int)(e:Ending)(w':World):Prop:=e= returned (bool (decide (okI m.S i/\(getS m.S i).pc=0)))/\aV B w' x T bud s (li T m i)/\aa (mvL x T) w w'
def Hd(k:aV B w x T bud s m)(hT:T.Ok)(i:Int):E 250 #[↑x.l,J i] w (zX B w x T bud s m i):=by
 have H:=qh k;have HN:=k.fx.n32;have Ku:=k.sn;have hd:=hT.d1;have Rm:=k.fx.d5;by_cases O:okI m.S i
 .have Y:=dM O;obtain⟨p,V⟩:=LE (getS m.S i);rw[<-V]at Y;have c2:=k.l3;have a0:=aaa (k.ss.cell Y 0 _ rfl);obtain⟨I,h1⟩:=id O;rw[Ku]at h1;obtain⟨n,rfl⟩:=Int.eq_ofNat_of_zero_le I;simp only[Int.toNat_natCast]at a0 Y;refine ajt ?_;intro t2 t3;have t4:n<T.n:=by omega
  have Kl:=k.lk.lt;have Ko:=k.ss.lt;by_cases I:p.pc=0
  .have y0:(p.pc==0)=true:=(by simpa using I);have y1:(p.pc !=0)=false:=(by simpa using I);have M8:=k.l2;have cL:=k.cL n t4;have cP:=k.cP n 0 t4 ahy;have cS:=k.cS n 0 t4 ahy;simp only[Nat.zero_mul,Nat.add_zero]at cP cS;have g1:(0:Int)<T.D:=(by omega);have g2:0<T.D:=by omega
   have HA:Kq (li T m n=(iK m (T.pl n 0) (T.sl n 0)).thr n ⟨1,0,0,0⟩):=qh (by
    unfold li qi
    rw[if_pos O,Int.toNat_natCast,<-dR ahy,<-V,if_pos I])
   have HR:Kq (decide (okI m.S n/\(getS m.S n).pc=0)=true):=qh (decide_eq_true ⟨O,by rw[<-V];exact I⟩);have HV:=qh (And.intro (hT.plt n 0 t4 ahy) (hT.slt n 0 t4 ahy));have LM:=qh Y;clear k Y V I h1 O;go_enter func250,ntmps250;go_wp2_with (go_at_call 255;refine(jg H.o).mono ?_;rintro e w' ⟨rfl,rfl⟩);refine((H.o.alloc _).ask1 HV.o.1 HV.o.2).mono ?_;rintro en w1 ⟨b,rfl,h1,t1⟩;have c2:=h1.l3;have f1:∀j,w1.frozen? ⟨x.q,j,none⟩=false:=λj=>h1.ss.free j;obtain⟨b0,b1,b2,b3⟩:=h1.sc (n:=n) (p:=p) (by rw[Fz];exact LM.o);have H1:=qh (And.intro h1 (aa.trans ((aa.refl _ w).alloc _) t1));have Ko:=h1.ss.lt;clear h1 t1;go_wp2;go_ret;unfold zX;rw[HR.o,HA.o];exact⟨rfl,H1.o.1.put4 t4 ⟨1,0,0,0⟩,de (de (de (de H1.o.2 (q_mv x T) _ _) (q_mv x T) _ _) (q_mv x T) _ _) (q_mv x T) _ _⟩
  .have y1:(p.pc !=0)=true:=by simpa using I
   have HA:Kq (li T m n=m):=qh (by
    unfold li qi
    rw[if_pos O,Int.toNat_natCast,<-dR ahy,<-V,if_neg I])
   have HR:Kq (decide (okI m.S n/\(getS m.S n).pc=0)=false):=qh (decide_eq_false λh=>I (by rw[V];exact h.2));clear k Y V I h1 O;exact abB
 .have HA:Kq (li T m i=m):=qh (by unfold li;rw[if_neg O]);have HR:Kq (decide (okI m.S i/\(getS m.S i).pc=0)=false):=qh (decide_eq_false λh=>O h.1);unfold okI at O;rw[Ku]at O;clear k;by_cases I:i<0;.go_enter func250,ntmps250;go_wp2;exact abC
  .have t3:((T.n:Nat):Int)<=i:=(by omega);clear O;exact abB
end
end
section
open Go.RowKit
section
variable{x:Hx}{T:HTr}{s s':Ar}{m:Hm}
def pW(m:Hm)(v j n:Nat)(u c:Int)(p:Sp):eQ (m.thr n p) v j u c=(eQ m v j u c).thr n p:=by unfold eQ;have e:(m.thr n p).sp v j=m.sp v j:=rfl;rw[e];split<;>rfl
def Al(m:Hm)(v j n:Nat)(p:Sp):iK (m.thr n p) v j=(iK m v j).thr n p:=by unfold iK;have e:(m.thr n p).sp v j=m.sp v j:=rfl;rw[e];split<;>rfl
def nR(m:Hm)(n:Nat)(p p':Sp):(m.thr n p).thr n p'=m.thr n p':=by unfold Hm.thr;simp
def aV.put1c(h:aV B w x T bud s m){p p':Sp}(O:m.S[n]? =some p)(I:j<4)(H:(bm p).set j u=bm p'):aV B (w.setCell ⟨x.q,n*4+j,none⟩ u) x T bud s (m.thr n p'):=
 h.spTurn (h.ss.put O I H) (by simp[h.sn]) ((aa.refl _ w).setCell (.inl ahz) _)
def aV.gt(h:aV B w x T bud s m)(H:n<T.n)(p:Sp):(m.thr n p).S[n]? =some p:=by
 have:n<m.S.length:=by rw[h.sn];exact H
 show(m.S.set n p)[n]? =some p;simp[this]
def aV.drewN(h:aV B w x T bud s m)(n:Nat):aV B (w.drewN n) x T bud s m:=h.below (Qt.below ⟨n,rfl⟩ _)
def VD(B:Nat->Prop)(w:World)(x:Hx)(T:HTr)(bud:Int)(s:Ar)(m':Hm)(e:Ending)(w':World):Prop:=e= returned (tuple #[])/\aV B w' x T bud s m'/\aa (mvL x T) w w'
def aV.lev(h:aV B w x T bud s m)(H:n<T.n)(hc:c<T.D):Z w x.l 2 (slice (some ⟨x.bL,x.oL,none⟩) T.n x.kL)/\Z w x.bL (x.oL+n) (slice (some ⟨x.ub n,x.uo n,none⟩) T.D (x.uk n))/\Z w (x.ub n) (x.uo n+c*2) (pointer (some ⟨x.lb (T.pl n c),0,none⟩))/\Z w (x.ub n) (x.uo n+c*2+1) (J (T.sl n c)):=⟨h.l2,h.cL n H,h.cP n c H hc,h.cS n c H hc⟩
def aV.lt4(h:aV B w x T bud s m)(H:n<T.n)(hc:c<T.D):x.l<w.heap.size/\x.bL<w.heap.size/\x.ub n<w.heap.size/\x.q<w.heap.size:=⟨h.lk.lt,aM (h.cL n H),aM (h.cP n c H hc),h.ss.lt⟩
def FT(k:aV B w x T bud s m)(hT:T.Ok)(I:n<T.n)(hc:(sv m.S n).c=c)(Lb:c<T.D):E 261 #[↑x.l,J n] w (VD B w x T bud s (jN T m n c)):=by
 refine aj2 ?_;intro H HN Rm Ku p i' hp;rw[<-i']at hc;have c3:=k.l3;obtain⟨b0,b1,b2,b3⟩:=k.sc hp;rw[hc]at b3;have f1:∀j,w.frozen? ⟨x.q,j,none⟩=false:=λj=>k.ss.free j;refine ajt ?_;intro t2 t3;have V:=qh (And.intro hp (And.intro i' hc));by_cases h0:c=0
 .subst h0;clear k hp i' hc;go_enter func261,ntmps261;go_wp2;go_end0;have e:jN T m n 0=m.thr n {p with pc:=0}:=by unfold jN;rw[if_pos rfl,<-V.o.2.1]
  rw[e];exact⟨rfl,H.o.put1c V.o.1 (j:=0) ahA rfl,de (aa.refl _ w) (q_mv x T) _ _⟩
 .obtain⟨d,rfl⟩:∃d,c=d+1:=⟨c-1,by omega⟩;have O:d<T.D:=by omega
  obtain⟨M8,cL,cP,cS⟩:=k.lev I O;have y0:(((d+1:Nat):Int)==0)=false:=by simp;omega
  clear k hp i' hc h0;go_enter func261,ntmps261;go_wp2;have h:=(H.o.put1c V.o.1 (j:=3) (u:= J d) (p':={p with c:=d}) ahA rfl).put1c (H.o.gt I _) (j:=0) (u:= J 12) (p':={p with pc:=12,c:=d}) ahA rfl;rw[nR]at h;simp only[Nat.add_zero]at h;have Y:=de (de (aa.refl (mvL x T) w) (q_mv x T) (n*4+3) (J d)) (q_mv x T) (n*4) (J 12);obtain⟨w2,UW⟩:=LE ((w.setCell ⟨x.q,n*4+3,none⟩ (J d)).setCell ⟨x.q,n*4,none⟩ (J 12));rw[<-UW]at h Y ⊢;have H2:=qh (And.intro h Y);clear UW b0 b1 b2 b3 c3 M8 cL cP cS f1;obtain⟨M8,cL,cP,cS⟩:=h.lev I O;obtain⟨_,_,_,b3⟩:=h.sc (H.o.gt I _);obtain⟨z1,z2,z3,z4⟩:=h.lt4 I O;have HV:=qh (And.intro (hT.plt n d I O) (hT.slt n d I O));clear h Y;go_region;all_goals go_wp2_with fail;refine(((H2.o.1.alloc _).drewN _).leave1 HV.o.1 HV.o.2 (-1)).mono ?_;rintro en w3 ⟨b,rfl,h3,t3⟩;have H3:=qh (And.intro h3 (H2.o.2.trans (((aa.refl _ _).alloc _).drewN _ |>.trans t3)));clear h3 t3;go_wp2;go_end0;have e:jN T m n (d+1)=eQ (m.thr n {p with pc:=12,c:=d}) (T.pl n d) (T.sl n d) 11 (-1):=(by unfold jN;rw[if_neg ahy,pW,<-V.o.2.1];have q:((d+1:Nat):Int)-1=d:=(by omega);rw[q];rfl);unfold VD;rw[e];exact⟨rfl,H3.o.1,H3.o.2⟩
end
end
section
open Go.RowKit
def xx(a b c d:Int)(w:World):(Instr.field 113 (agg #[J a,J b,J c,J d]) 1).run prog w= .ok (J b) w:=by kernel_rfl
def DX(a b c d:Int)(w:World):(Instr.field 113 (agg #[J a,J b,J c,J d]) 2).run prog w= .ok (J c) w:=by kernel_rfl
def aa.transNew{M:List Nat}{a b c:World}(h:aa M a b)(k:aa S b c)(H:∀i∈S,a.heap.size<=i):aa M a c:=
 ⟨k.os.trans h.os,k.tape.trans h.tape,k.output.trans h.output,Nat.le_trans h.size k.size,λi hi I=>(k.block i (Nat.lt_of_lt_of_le hi h.size) (λhm=>absurd (H i hm) ahy)).trans (h.block i hi I)⟩
section
variable{x:Hx}{T:HTr}{s s':Ar}{m:Hm}
def FP(k:aV B w x T bud s m)(hT:T.Ok)(O:n<T.n)(hc:(sv m.S n).c=c)(Lb:c<T.D):E 260 #[↑x.l,J n] w (VD B w x T bud s (jM T m n c)):=by
 have LN:=DX;refine aj2 ?_;intro H HN Rm Ku p i' hp;rw[<-i']at hc;have LM:=qh (And.intro hp (And.intro i' hc));have c3:=k.l3;obtain⟨b0,b1,b2,b3⟩:=k.sc hp;rw[hc]at b3;obtain⟨M8,cL,cP,cS⟩:=k.lev O Lb;obtain⟨z1,z2,z3,z4⟩:=k.lt4 O Lb;have HV:=qh (And.intro (hT.plt n c O Lb) (hT.slt n c O Lb));obtain⟨u,hu⟩:=LE (m.sp (T.pl n c) (T.sl n c));have HU:=qh hu;refine ajt ?_;intro t2 t3;have g2:¬((T.D:Nat):Int)<=(c:Int):=by omega
 by_cases V:u.b=0\/c+1=T.D
 .have HE:Kq (jM T m n c=m.thr n {p with pc:=10}):=qh (by unfold jM;rw[if_pos (by rw[<-hu];exact V),<-i']);clear k hp i' hc hu;go_enter func260,ntmps260;go_wp2;go_region
  all_goals
   go_wp2_with fail;refine ST (((H.o.alloc _).drewN _).spot1 HV.o.1 HV.o.2) λw3 k3=>?_;rw[<-HU.o];unfold aC;have h:=((H.o.alloc _).drewN _).below k3;obtain⟨b0,b1,b2,b3⟩:=h.sc LM.o.1;rw[LM.o.2.2]at b3;have f1:∀j,w3.frozen? ⟨x.q,j,none⟩=false:=λj=>h.ss.free j;have H3:=qh (And.intro h (((aa.refl (mvL x T) _).alloc _).drewN _ |>.trans (aa.of_below k3)));clear h k3;by_cases I:u.b=0;.have y:(u.b==0)=true:=(by simpa using I);clear V I;exact abD
   .have y:(u.b==0)=false:=(by simpa using I);have hD:c+1=T.D:=V.resolve_left I;have y2:((c:Int)==(T.D:Int)-1)=true:=(by simp;omega);clear V I hD;exact abD
 .have Ul:c+1<T.D:=by omega
  have y:(u.b==0)=false:=by simpa using λe=>V (.inl e)
  have y2:((c:Int)==(T.D:Int)-1)=false:=by simp;omega
  have HE:Kq (jM T m n c=iK (m.thr n {p with c:=(c:Int)+1}) (T.pl n (c+1)) (T.sl n (c+1))):=qh (by unfold jM;rw[if_neg (by rw[<-hu];exact V),Al,<-i']);have VM:=qh (And.intro (hT.plt n (c+1) O Ul) (hT.slt n (c+1) O Ul));clear k hp i' hc hu V;go_enter func260,ntmps260;go_wp2;go_region;all_goals go_wp2_with fail;refine ST (((H.o.alloc _).drewN _).spot1 HV.o.1 HV.o.2) λw3 k3=>?_;rw[<-HU.o];unfold aC;have h:=((H.o.alloc _).drewN _).below k3;have hx:Blk w3 w.heap.size 255 #[pointer (some ⟨x.lb (T.pl n c),0,none⟩),J (T.sl n c)]:=(aa.of_below (S:=[]) k3).blk (heap_alloc_new w _) ahz;clear b0 b1 b2 b3 M8 cL cP cS c3;obtain⟨b0,b1,b2,b3⟩:=h.sc LM.o.1;rw[LM.o.2.2]at b3;have f1:∀j,w3.frozen? ⟨x.q,j,none⟩=false:=λj=>h.ss.free j;have h4:=h.put1c LM.o.1 (j:=3) (u:= J ((c:Int)+1)) (p':={p with c:=(c:Int)+1}) ahA rfl;have UK:x.q≠w.heap.size:=(by omega);have t4:=de (((aa.refl (mvL x T) _).alloc _).drewN _ |>.trans (aa.of_below k3)) (q_mv x T) (n*4+3) (J ((c:Int)+1));have Y:=hx.far (λe=>UK e.symm) (p:=⟨x.q,n*4+3,none⟩) (J ((c:Int)+1));have H4:=qh (And.intro h4 (And.intro t4 Y));have ab:=(h4.sc (H.o.gt O _)).2.2.2;obtain⟨M8,cL,cP,cS⟩:=h4.lev O Ul;have x0:=Y.cell 0;have x1:=Y.cell 1;have y0:=Y.free 0;have y1:=Y.free 1;clear h k3 h4 t4 hx Y;go_wp2_with fail;have t5:aa [w.heap.size] (w3.setCell ⟨x.q,n*4+3,none⟩ (J ((c:Int)+1))) (((w3.setCell ⟨x.q,n*4+3,none⟩ (J ((c:Int)+1))).setCell ⟨w.heap.size,0,none⟩ (pointer (some ⟨x.lb (T.pl n (c+1)),0,none⟩))).setCell ⟨w.heap.size,1,none⟩ (J (T.sl n (c+1)))):=de (de (aa.refl _ _) ahz _ _) ahz _ _;have h5:=H4.o.1.turns t5 (λi hi=>by simp at hi;rw[hi];exact H.o.new.1) (λi hi=>by simp at hi;rw[hi];exact H.o.new.2);refine(h5.ask1 VM.o.1 VM.o.2).mono ?_;rintro en w6 ⟨b,rfl,h6,t6⟩;have H6:=qh (And.intro h6 ((H4.o.2.1.transNew t5 λi hi=>by simp at hi;omega).trans t6));clear h5 h6 t5 t6;go_wp2;go_end0;unfold VD;rw[HE.o];exact⟨rfl,H6.o.1,H6.o.2⟩
end
end
section
open Go.RowKit
def pV{P:Program}{a:Act}{Q:Exit->Act->World->Prop}{c rest:Code}(l:Nat)(hf:findLabel c l=some rest)(first:c.wp P (Exit.jump l (λa' w'=>rest.wp P (Exit.noGoto Q) a' w') Q) a w):(Code.scope c).wp P Q a w:=by exact abh
section
variable{x:Hx}{T:HTr}{s s':Ar}{m:Hm}
def kz(T:HTr)(bud:Int)(m:Hm)(n:Nat):∀(f g k:Nat),T.D-k<=f->T.D-k<=g->k<T.D->gy T bud f m n k=gy T bud g m n k
 |0,_,k,h,_,H=>by omega
 |_+1,0,k,_,h,H=>by omega
 |f+1,g+1,k,h1,I,H=>by
  unfold gy;by_cases c:k+1=T.D;.rw[if_pos c,if_pos c]
  .rw[if_neg c,if_neg c];split;.rfl
   .exact kz T bud m n f g (k+1) ahy ahy ahy
def yk(T:HTr)(bud:Int)(m:Hm)(n:Nat)(h:k+1=T.D):gy T bud T.D m n k=(eQ m (T.pl n k) (T.sl n k) 11 1).thr n {sv m.S n with pc:=12,c:=k}:=by rw[kz T bud m n T.D 1 k ahy ahy ahy];unfold gy;rw[if_pos h]
def ym(T:HTr)(bud:Int)(m:Hm)(n:Nat)(h:k+1<T.D)(O:(m.sp (T.pl n k) (T.sl n k)).a<=bud):gy T bud T.D m n k=(eQ m (T.pl n k) (T.sl n k) 15 ((m.sp (T.pl n k) (T.sl n k)).a+1)).thr n {sv m.S n with pc:=11,c:=k}:=by obtain⟨d,hd⟩:∃d,T.D=d+1:=⟨T.D-1,by omega⟩;rw[kz T bud m n T.D (d+1) k ahy ahy ahy];unfold gy;rw[if_neg ahy,if_pos O]
def yl(T:HTr)(bud:Int)(m:Hm)(n:Nat)(h:k+1<T.D)(O:¬(m.sp (T.pl n k) (T.sl n k)).a<=bud):gy T bud T.D m n k=gy T bud T.D m n (k+1):=by
 rw[kz T bud m n T.D (T.D+1) k ahy ahy ahy];conv=>lhs;unfold gy
 rw[if_neg ahy,if_neg O]
def xd(k:aV B w x T bud s m)(hT:T.Ok){k0:Nat}(hn:n<T.n)(V:k0<T.D)(Rj:0<=bud/\bud<=1000)(LD:∀k,k0<=k->k<T.D->0<=(m.sp (T.pl n k) (T.sl n k)).a/\(m.sp (T.pl n k) (T.sl n k)).a<=2000):E 258 #[↑x.l,J n,J k0] w (VD B w x T bud s (gy T bud T.D m n k0)):=by
  have LN:=xx;refine aj2 ?_;intro H HN Rm Ku p i' hp;have LM:=qh (And.intro hp i');have Yz:=qh LD;have c3:=k.l3;obtain⟨M8,cL,cP,cS⟩:=k.lev hn V;obtain⟨z1,z2,z3,z4⟩:=k.lt4 hn V;refine ajt ?_;intro t2 t3;obtain⟨Kn,KI⟩:=Rj;clear k hp i' LD;go_enter func258,ntmps258;go_wp2;refine pV 0 rfl ?_;go_wp2;go_region
  all_goals
    go_wp2;go_step3;clear c3 M8 cL cP cS z1 z2 z3 z4;go_wp2;go_loopw [2] (λc wr=>∃(k:Nat) (z:Int),c= J k/\k<T.D/\k0<=k/\aV B wr x T bud s (m.thr n {p with c:=z})/\aa (mvL x T) w wr/\gy T bud T.D m n k=gy T bud T.D m n k0) (λc _=>T.D-(intOf c).toNat);case atStart=>refine⟨k0,p.c,rfl,V,by omega,?_,(aa.refl _ _).drewN 1,rfl⟩;have e:m.thr n {p with c:=p.c}=m:=(by unfold Hm.thr;have:m.S.set n p=m.S:=uw LM.o.1;show({m with S:=m.S.set n p}:Hm)=m;rw[this]);rw[e];exact H.o.drewN 1
    case round=>
      obtain⟨k,z,rfl,NU,hk,hI,ht,hE⟩:=hrel;have HW:=qh (And.intro hI (And.intro ht hE));have HV:=qh (And.intro (hT.plt n k hn NU) (hT.slt n k hn NU));obtain⟨u,hu⟩:=LE (m.sp (T.pl n k) (T.sl n k));have HU:=qh hu;obtain⟨M8,cL,cP,cS⟩:=hI.lev hn NU;obtain⟨z1,z2,z3,z4⟩:=hI.lt4 hn NU;have g2:¬((T.D:Nat):Int)<=(k:Int):=(by omega);clear hI ht hE hu;go_wp2_with fail;refine ST ((HW.o.1.alloc _).spot1 HV.o.1 HV.o.2) λw3 k3=>?_;rw[show(m.thr n {p with c:=z}).sp (T.pl n k) (T.sl n k)=u from HU.o.symm];unfold aC;have h3:=(HW.o.1.alloc _).below k3;have hx:Blk w3 wr.heap.size 255 #[pointer (some ⟨x.lb (T.pl n k),0,none⟩),J (T.sl n k)]:=(aa.of_below (S:=[]) k3).blk (heap_alloc_new wr _) ahz;clear M8 cL cP cS;have c3:=(h3.sc (H.o.gt hn _)).2.2.2;have f1:∀j,w3.frozen? ⟨x.q,j,none⟩=false:=λj=>h3.ss.free j;have h4:=h3.put1c (H.o.gt hn _) (j:=3) (u:= J (k:Int)) (p':={p with c:=(k:Int)}) ahA rfl;rw[nR]at h4;have UK:x.q≠wr.heap.size:=(by omega);have t4:=de (HW.o.2.1.trans (((aa.refl (mvL x T) _).alloc _).trans (aa.of_below k3))) (q_mv x T) (n*4+3) (J (k:Int));have Ox:=hx.far (λe=>UK e.symm) (p:=⟨x.q,n*4+3,none⟩) (J (k:Int));have Y:=qh (And.intro h4 t4);have x0:=Ox.cell 0;have x1:=Ox.cell 1;have l0:=h4.l0;clear h3 k3 h4 t4 hx Ox;by_cases hD:k+1=T.D;. have y:((k:Int)==(T.D:Int)-1)=true:=(by simp;omega);have HE:=qh (HW.o.2.2.symm.trans (yk T bud m n hD));clear hD;go_wp2_with fail;refine(Y.o.1.leave1 HV.o.1 HV.o.2 1).mono ?_;rintro en w5 ⟨b,rfl,h,t5⟩;rw[pW]at h;have c0:=(h.sc (p:={p with c:=(k:Int)}) aij).1;have f0:∀j,w5.frozen? ⟨x.q,j,none⟩=false:=λj=>h.ss.free j;have I:=h.put1c (n:=n) (p:={p with c:=(k:Int)}) aij (j:=0) (u:= J 12) (p':={p with pc:=12,c:=(k:Int)}) ahA rfl;rw[nR]at I;have H6:=qh (And.intro I (de (Y.o.2.trans t5) (q_mv x T) (n*4) (J 12)));clear h I t5;go_wp2;go_end0;unfold VD;rw[HE.o,<-LM.o.2];exact⟨rfl,H6.o.1,H6.o.2⟩
      . have V6:k+1<T.D:=(by omega);have y:((k:Int)==(T.D:Int)-1)=false:=(by simp;omega);obtain⟨RZ,ab⟩:=Yz.o k hk NU;rw[<-HU.o]at RZ ab;by_cases O:u.a<=bud;. have HE:=qh (HW.o.2.2.symm.trans (ym T bud m n V6 (by rw[<-HU.o];exact O)));go_wp2_with fail;refine(Y.o.1.pass1 HV.o.1 HV.o.2 (u.a+1)).mono ?_;rintro en w5 ⟨b,rfl,h,t5⟩;rw[pW]at h;have c0:=(h.sc (p:={p with c:=(k:Int)}) aij).1;have f0:∀j,w5.frozen? ⟨x.q,j,none⟩=false:=λj=>h.ss.free j;have I:=h.put1c (n:=n) (p:={p with c:=(k:Int)}) aij (j:=0) (u:= J 11) (p':={p with pc:=11,c:=(k:Int)}) ahA rfl;rw[nR]at I;have H6:=qh (And.intro I (de (Y.o.2.trans t5) (q_mv x T) (n*4) (J 11)));clear h I t5;go_wp2;go_end0;unfold VD;rw[HE.o,<-LM.o.2,<-HU.o];exact⟨rfl,H6.o.1,H6.o.2⟩
        . have HE:=qh ((yl T bud m n V6 (by rw[<-HU.o];exact O)).symm.trans HW.o.2.2);go_wp2;go_roundw;case rel=>exact⟨k+1,k,by go_num,by omega,by omega,Y.o.1,Y.o.2,HE.o⟩
          case measure=>simp[intOf];omega
end
end
section
open Go.RowKit
section
variable{x:Hx}{T:HTr}{s s':Ar}{m:Hm}
def EL(m:Hm)(h:j<(m.P v).length):(rstH m v j).sp v j=(df (arW (m.W v)) 1 ((j:Int)+1) (m.sp v j)).2:=by unfold Hm.sp rstH;show sv (aY m.P v _ v) j=_;rw[aX,bh,if_pos ⟨rfl,h⟩];rfl
def EM(m:Hm){u:Nat}(h:u≠v):(rstH m v j).sp u k=m.sp u k:=by unfold Hm.sp rstH;show sv (aY m.P v _ u) k=_;rw[aZ _ _ h]
def eu.va10(h:eu T bud m hb)(H:T.Ok)(I:0<=bud/\bud<=1000)(V:n<T.n)(O:k<T.D)(h10:(m.sp (T.pl n k) (T.sl n k)).pc=10):0<=(m.sp (T.pl n k) (T.sl n k)).a/\(m.sp (T.pl n k) (T.sl n k)).a<=2000:=by have:=((h.x n).va (T.pl n k) (T.sl n k) (H.plt n k V O) (H.slt n k V O)).1 (.inl h10);omega
def eu.vaHold(h:eu T bud m hb)(V:T.Ok)(I:0<=bud/\bud<=1000)(O:n<T.n)(h10:(sv m.S n).pc=10):∀k,0<=k->k<T.D->0<=(m.sp (T.pl n k) (T.sl n k)).a/\(m.sp (T.pl n k) (T.sl n k)).a<=2000:=by obtain⟨K,Y,_⟩:=h.t n O;exact λk _ H=>h.va10 V I O H ((Y.of10 h10).2 k H)
def eu.stepUp(h:eu T bud m hb)(V:T.Ok)(I:0<=bud/\bud<=1000)(Y:n<T.n)(h0:¬((sv m.S n).pc=0\/(sv m.S n).pc=10))(hc:(sv m.S n).c=c)(h1:(sv m.S n).pc≠1)(hp:((rstH m (T.pl n c) (T.sl n c)).sp (T.pl n c) (T.sl n c)).pc=10):c+1<T.D/\∀k,c+1<=k->k<T.D->0<=((rstH m (T.pl n c) (T.sl n c)).sp (T.pl n k) (T.sl n k)).a/\((rstH m (T.pl n c) (T.sl n c)).sp (T.pl n k) (T.sl n k)).a<=2000:=by
  obtain⟨K,kk,o⟩:=h.t n Y;cases kk with
  | rest H=>exact absurd (.inl H) h0
  | come c' H _ _ _=>exact absurd H.1 h1
  | granted c' H _ _=>exact absurd H.1 h1
  | hold H _=>exact absurd (.inr H) h0
  | pass c' H ha Nw=>
    obtain rfl:c=c':=by have:=H.2.1;omega
    refine⟨H.2.2,λk hk NU=>?_⟩;have ab:T.pl n k≠T.pl n c:=λe=>by have e1:=V.lv n k Y NU;have e2:=V.lv n c Y ahy;rw[e]at e1;omega
    rw[EM m ab];exact h.va10 V I Y NU (Nw k NU ahy)
  | leave c' H ha Um Nw=>
    obtain rfl:c=c':=by have:=H.2.1;omega
    exfalso;have Lb:=H.2.2;have O:=V.plt n c Y Lb;have hj:=V.slt n c Y Lb;have r:=(h.x n).rg _ O;have NC:T.sl n c<(m.P (T.pl n c)).length:=(by rw[(h.x n).len O];exact hj);rw[EL m NC]at hp;have Lz:11<=(sv (m.P (T.pl n c)) (T.sl n c)).pc/\(sv (m.P (T.pl n c)) (T.sl n c)).pc<=14:=ha;have MI:(sv (m.P (T.pl n c)) (T.sl n c)).c=if c+1=T.D then 1 else -1:=Um
    obtain⟨ro,_⟩:=RtS.case (ar:=arW (m.W (T.pl n c))) r (V.nv32 _ O) hj rfl ahy rfl;have KP:(df (arW (m.W (T.pl n c))) 1 (numT (T.sl n c)) (sv (m.P (T.pl n c)) (T.sl n c))).2.pc=10:=hp;cases ro with
    | come h=>have:=h.1;omega
    | told h=>have:=h.1;omega
    | hold h=>have:=h.1;omega
    | o h=>have:=h.2.1;omega
    | free h=>have:=h.2;omega
    | give s h=>have:=h.2.1;omega
    | look h=>have:=h.1;omega
def gA(T:HTr)(bud:Int)(m:Hm)(i:Int):Hm:=if okI m.S i then kE T bud m i.toNat else m
def aV.okn(k:aV B w x T bud s m){i:Int}(h:okI m.S i):∃n:Nat,i=n/\n<T.n/\getS m.S i=sv m.S n/\n<m.S.length:=by
 obtain⟨I,h1⟩:=h;obtain⟨n,rfl⟩:=Int.eq_ofNat_of_zero_le I;have H:n<m.S.length:=by omega
 exact⟨n,rfl,by rw[<-k.sn];exact H,dR H,H⟩
def Ec(k:aV B w x T bud s m)(V:T.Ok)(hI:eu T bud m hb)(I:0<=bud/\bud<=1000)(i:Int):E 252 #[↑x.l,J i] w λe w'=>e= returned (bool (decide ((getS m.S i).pc=10)))/\aV B w' x T bud s (gA T bud m i)/\aa (mvL x T) w w':=by
 have LN:=aP;have H:=qh k;obtain⟨p,i'⟩:=LE (getS m.S i);have HP:=qh i';by_cases h10:p.pc=10
 .have h:okI m.S i:=by exact abE
  obtain⟨n,rfl,hn,hg,hl⟩:=k.okn h;have hs:(sv m.S n).pc=10:=by rw[<-hg,<-i'];exact h10
  have hd:=V.d1;have HB:=qh (λW (k':aV B W x T bud s m)=>xd k' V hn (k0:=0) ahy I (hI.vaHold V I hn hs));have O:Kq (gA T bud m n=gy T bud T.D m n 0):=qh (by unfold gA kE;rw[if_pos h,Int.toNat_natCast,if_pos hs]);have y:(p.pc !=10)=false:=by simpa using h10
  clear k i' h hI hg hs;go_enter func252,ntmps252;go_wp2_with fail;refine ST (j7 H.o n) λw1 b1=>?_;refine ajy ?_;intro H1;clear b1;go_wp2_with fail;refine Pi (HB.o _ H1.o.1) λw2 h2=>?_;have Y:=qh (And.intro h2.o.1 ((aa.of_below H1.o.2).trans h2.o.2));go_wp2;go_ret;rw[O.o];exact⟨(rfl:_=Ending.returned (bool true)).trans (by rw[<-HP.o,h10];rfl),Y.o.1,Y.o.2⟩
 .have y:(p.pc !=10)=true:=by simpa using h10
  have O:Kq (gA T bud m i=m):=qh (by
   unfold gA;by_cases h:okI m.S i;.obtain⟨n,rfl,hn,hg,hl⟩:=k.okn h;rw[if_pos h,Int.toNat_natCast];unfold kE;rw[if_neg (by rw[<-hg,<-i'];exact h10)]
   .rw[if_neg h])
  have X':=qh h10;clear k i' h10;go_enter func252,ntmps252;go_wp2_with fail;refine ST (j7 H.o i) λw1 b1=>?_;refine ajy ?_;intro H1;clear b1;go_wp2;go_ret;rw[O.o];exact⟨(rfl:_=Ending.returned (bool false)).trans (by rw[<-HP.o,decide_eq_false X'.o]),H1.o.1,aa.of_below H1.o.2⟩
end
end
section
open Go.RowKit
section
variable{x:Hx}{T:HTr}{s s':Ar}{m:Hm}
def stepI(T:HTr)(bud:Int)(m:Hm)(i:Int):Hm:=if okI m.S i then kf T bud m i.toNat else m
def jR(T:HTr)(s:Ar)(m:Hm)(i:Int):Ar:=if (getS m.S i).pc=0\/(getS m.S i).pc=10 then s else BJ s m (T.pl i.toNat (getS m.S i).c.toNat) (T.sl i.toNat (getS m.S i).c.toNat)
def AC(z p:Int):Bool:=decide ((z=10\/z=0)/\p≠0/\p≠10)
def uV(H:¬(p=0\/p=10))(h:(z==10)=true):true=AC z p:=by have:=eq_of_beq h;exact(decide_eq_true ahy).symm
def uW(H:¬(p=0\/p=10))(h:(z==0)=true):true=AC z p:=by have:=eq_of_beq h;exact(decide_eq_true ahy).symm
def uX(p:Int)(h:(z==10)=false)(H:(z==0)=false):false=AC z p:=by simp only[beq_eq_false_iff_ne]at h H;exact(decide_eq_false ahy).symm
def OpX(B:Nat->Prop)(w:World)(x:Hx)(T:HTr)(bud:Int)(s:Ar)(m:Hm)(i:Int)(e:Ending)(w':World):Prop:=
 e= returned (bool (AC (getS (stepI T bud m i).S i).pc (getS m.S i).pc))/\aV B w' x T bud (jR T s m i) (stepI T bud m i)/\(jR T s m i).ops<=s.ops+1/\aa (mvL x T) w w'
def OpX.mk'{i:Int}{s1:Ar}{m1:Hm}{b:Bool}(H:b=AC (getS m1.S i).pc (getS m.S i).pc)(hm:stepI T bud m i=m1)(h:aV B w' x T bud s1 m1)(hs:s1=jR T s m i)(Y:s1.ops<=s.ops+1)(t:aa (mvL x T) w w'):OpX B w x T bud s m i (returned (.bool b)) w':=by subst hm;subst hs;subst H;exact⟨rfl,h,Y,t⟩
def wI(T:HTr)(bud:Int)(m:Hm)(h:¬((sv m.S n).pc=0\/(sv m.S n).pc=10))(hc:(sv m.S n).c=c)(V:¬((m.sp (T.pl n c) (T.sl n c)).pc=0\/(m.sp (T.pl n c) (T.sl n c)).pc=10)){m1:Hm}(h1:m1=rstH m (T.pl n c) (T.sl n c)):kf T bud m n=if ¬((m1.sp (T.pl n c) (T.sl n c)).pc=0\/(m1.sp (T.pl n c) (T.sl n c)).pc=10)then m1 else if (sv m.S n).pc=1 then jM T m1 n c else if (m1.sp (T.pl n c) (T.sl n c)).pc=0 then jN T m1 n c else gy T bud T.D m1 n (c+1):=by unfold kf;rw[if_neg h,hc];simp only[Int.toNat_natCast];rw[if_neg V,<-h1]
def GQ(k:aV B w x T bud s m)(hT:T.Ok)(hI:eu T bud m hb)(I:0<=bud/\bud<=1000)(Y:s.ops+1<=1000000000000)(i:Int):E 254 #[↑x.l,J i] w (OpX B w x T bud s m i):=by
 have LN:=aP;have H:=qh k;have HN:=k.fx.n32;have Rm:=k.fx.d5;obtain⟨p,V⟩:=LE (getS m.S i);have HP:=qh V;by_cases h0:p.pc=0\/p.pc=10
 .have HE:Kq (stepI T bud m i=m):=qh (by
   unfold stepI;by_cases mP:okI m.S i;.obtain⟨n,rfl,hn,hg,hl⟩:=k.okn mP;rw[if_pos mP,Int.toNat_natCast];unfold kf;rw[if_pos (by rw[<-hg,<-V];exact h0)]
   .rw[if_neg mP])
  clear k V;have OF:∀w',Below w.heap.size w w'->OpX B w x T bud s m i (returned (bool false)) w':=λw' b=>OpX.mk' (by rw[<-HP.o];exact(decide_eq_false ahy).symm) HE.o (H.o.below b) (by unfold jR;rw[<-HP.o,if_pos h0]) ahy (aa.of_below b);have HF:=qh OF;clear OF;by_cases QZ:p.pc=0;.have y:(p.pc==0)=true:=(by simpa using QZ);clear h0 QZ;exact abF
  .have h1:p.pc=10:=h0.resolve_left QZ;have y:(p.pc==0)=false:=(by simpa using QZ);have y1:(p.pc==10)=true:=(by simpa using h1);clear h0 QZ h1;exact abF
 .have mP:okI m.S i:=by apply Classical.byContradiction;intro hn;rw[dF hn]at V;exact h0 (.inl (by rw[V];rfl))
  obtain⟨n,rfl,hn,hg,hl⟩:=k.okn mP;rw[hg]at V HP;have KC:¬((sv m.S n).pc=0\/(sv m.S n).pc=10):=by rw[<-V];exact h0
  obtain⟨K,kk,oo⟩:=hI.t n hn;obtain⟨c,hc,Lb,Sx,a0,PI⟩:=su.act kk KC;clear kk oo Sx;have O:=hT.plt n c hn Lb;have hj:=hT.slt n c hn Lb;have Re:¬((m.sp (T.pl n c) (T.sl n c)).pc=0\/(m.sp (T.pl n c) (T.sl n c)).pc=10):=λh=>h.elim a0 PI;obtain⟨m1,ab⟩:=LE (rstH m (T.pl n c) (T.sl n c));have Wh:m1.S=m.S:=by rw[ab];rfl
  have QG:=wI T bud m KC hc Re ab;rw[show kf T bud m n=stepI T bud m n by unfold stepI;rw[if_pos mP,Int.toNat_natCast]]at QG;have My:=fun(e1:(sv m.S n).pc≠1) (e2:(m1.sp (T.pl n c) (T.sl n c)).pc=10)=>hI.stepUp hT I hn KC hc e1 (by rw[<-ab];exact e2);rw[<-ab]at My;have H':∀W,aV B W x T bud s m->E 259 #[pointer (some ⟨x.lb (T.pl n c),0,none⟩),J (T.sl n c)] W (S1 B W x T bud s (BJ s m (T.pl n c) (T.sl n c)) m1 (decide ((m1.sp (T.pl n c) (T.sl n c)).pc=0\/(m1.sp (T.pl n c) (T.sl n c)).pc=10))):=λW k=>by have:=k.step1 O hj ((hI.x n).rg _ O) Y;rw[if_neg Re,if_neg Re,if_neg Re,<-ab]at this;exact this
  obtain⟨s',MB⟩:=LE (BJ s m (T.pl n c) (T.sl n c));rw[<-MB]at H';have HA:Kq (s'=jR T s m n):=qh (by unfold jR;rw[hg,<-V,if_neg h0,V,hc,MB];rfl);have HG:Kq ((getS m.S (n:Int)).pc=p.pc/\∀m2:Hm,m2.S.length=m.S.length->getS m2.S (n:Int)=sv m2.S n):=qh ⟨by rw[hg,<-V],λm2 h2=>dR ahy⟩;clear MB;obtain⟨u,hu⟩:=LE (m1.sp (T.pl n c) (T.sl n c));rw[<-hu]at H' My QG;have y0:(p.pc==0)=false:=by simpa using λe=>h0 (.inl e)
  have ad:(p.pc==10)=false:=by simpa using λe=>h0 (.inr e)
  rw[<-V]at My QG hc;refine ajt ?_;intro t2 t3;have g2:¬((T.D:Nat):Int)<=(c:Int):=by omega
  have HC:=qh (And.intro V (And.intro hc (And.intro Wh (And.intro O hj))));have HU:=qh hu;have HM:=qh My;have HS:=qh H';have HE:=qh QG;have RG:m.S[n]? =some p:=by rw[V];exact gI hl
  clear H' QG My hu Wh ab Re a0 PI KC k V hg mP hl hI;go_enter func254,ntmps254;go_wp2_with fail;refine ST (j7 H.o n) λw1 b1=>?_;rw[show getS m.S (n:Int)=p from by rw[HC.o.1];exact dR (by have:=(List.getElem?_eq_some_iff.1 RG).1;exact this)];unfold aC;have k1:=H.o.below b1;have K1:=qh (And.intro k1 (aa.of_below (S:=mvL x T) b1));have c3:=k1.l3;have b3:=(k1.sc RG).2.2.2;rw[HC.o.2.1]at b3;obtain⟨M8,cL,cP,cS⟩:=k1.lev hn Lb;obtain⟨z1,z2,z3,z4⟩:=k1.lt4 hn Lb;clear k1 b1;go_wp2;go_region
  all_goals
   go_wp2_with fail;refine Pi (HS.o _ ((K1.o.1.alloc _).drewN _)) λw2 k2=>?_;have hx:Blk w2 w1.heap.size 255 #[pointer (some ⟨x.lb (T.pl n c),0,none⟩),J (T.sl n c)]:=k2.o.2.2.blk (heap_alloc_new w1 _) K1.o.1.new.2;have K2:=qh (And.intro k2.o.1 (And.intro (K1.o.2.trans ((((aa.refl (mvL x T) _).alloc _).drewN _).trans k2.o.2.2)) k2.o.2.1));have x0:=hx.cell 0;have x1:=hx.cell 1;clear hx c3 b3 M8 cL cP cS z1 z2 z3 z4;by_cases e:u.pc=0\/u.pc=10
   .rw[decide_eq_true e];go_wp2_with fail;refine ST (K2.o.1.spot1 HC.o.2.2.2.1 HC.o.2.2.2.2) λw3 b3=>?_;rw[<-HU.o];unfold aC;have k3:=K2.o.1.below b3;have K3:=qh (And.intro k3 (And.intro (K2.o.2.1.trans (aa.of_below b3)) K2.o.2.2));have Rl:(sv m1.S n).c=c:=(by rw[HC.o.2.2.1,<-HC.o.1];exact HC.o.2.1);have Ot:=(k3.sc (p:=p) (by rw[HC.o.2.2.1];exact RG)).2.2.2;rw[HC.o.2.1]at Ot;clear k3 b3;have ne:=not_not_intro e;by_cases e1:p.pc=1
    .have y1:(p.pc==1)=true:=(by simpa using e1);go_wp2_with fail;refine Pi (FP K3.o.1 hT hn Rl Lb) λw4 h4=>?_;refine ajA ?_;intro H4 c0;obtain⟨zz,hz⟩:=LE ((sv (jM T m1 n c).S n).pc);rw[<-hz]at c0;have HZ:=qh hz;clear hz;cases f1:(zz==10)
     .cases f2:(zz==0);.go_wp2;go_ret;exact OpX.mk' (b:=false) aiw aix H4.o.1 HA.o K3.o.2.2 H4.o.2.1
      .go_wp2;go_ret;exact OpX.mk' (b:=true) aiy aix H4.o.1 HA.o K3.o.2.2 H4.o.2.1
     .go_wp2;go_ret;exact OpX.mk' (b:=true) aiz aix H4.o.1 HA.o K3.o.2.2 H4.o.2.1
    .have y1:(p.pc==1)=false:=(by simpa using e1);by_cases e2:u.pc=0
     .have y2:(u.pc==0)=true:=(by simpa using e2);go_wp2_with fail;refine Pi (FT K3.o.1 hT hn Rl Lb) λw4 h4=>?_;refine ajA ?_;intro H4 c0;obtain⟨zz,hz⟩:=LE ((sv (jN T m1 n c).S n).pc);rw[<-hz]at c0;have HZ:=qh hz;clear hz;cases f1:(zz==10)
      .cases f2:(zz==0);.go_wp2;go_ret;exact OpX.mk' (b:=false) aiw aiA H4.o.1 HA.o K3.o.2.2 H4.o.2.1
       .go_wp2;go_ret;exact OpX.mk' (b:=true) aiy aiA H4.o.1 HA.o K3.o.2.2 H4.o.2.1
      .go_wp2;go_ret;exact OpX.mk' (b:=true) aiz aiA H4.o.1 HA.o K3.o.2.2 H4.o.2.1
     .have y2:(u.pc==0)=false:=(by simpa using e2);obtain⟨LJ,LD⟩:=HM.o e1 (e.resolve_left e2);have XX:=qh (show E 258 #[↑x.l,J n,J ((c:Int)+1)] w3 (VD B w3 x T bud s' (gy T bud T.D m1 n (c+1)))from xd K3.o.1 hT hn (k0:=c+1) LJ I LD);clear LD;go_wp2_with fail;refine Pi XX.o λw4 h4=>?_;refine ajA ?_;intro H4 c0;obtain⟨zz,hz⟩:=LE ((sv (gy T bud T.D m1 n (c+1)).S n).pc);rw[<-hz]at c0;have HZ:=qh hz;clear hz;cases f1:(zz==10)
      .cases f2:(zz==0);.go_wp2;go_ret;exact OpX.mk' (b:=false) aiw aiB H4.o.1 HA.o K3.o.2.2 H4.o.2.1
       .go_wp2;go_ret;exact OpX.mk' (b:=true) aiy aiB H4.o.1 HA.o K3.o.2.2 H4.o.2.1
      .go_wp2;go_ret;exact OpX.mk' (b:=true) aiz aiB H4.o.1 HA.o K3.o.2.2 H4.o.2.1
   .rw[decide_eq_false e];go_wp2;go_ret;exact OpX.mk' (b:=false) (by rw[HG.o.1,HG.o.2 _ (by rw[HC.o.2.2.1]),HC.o.2.2.1,<-HC.o.1];exact(decide_eq_false ahy).symm) (by rw[HE.o,if_pos e]) K2.o.1 HA.o K2.o.2.2 K2.o.2.1
end
end
section
open Go.RowKit
section
variable{x:Hx}{T:HTr}{s s':Ar}{m:Hm}
def kT(T:HTr)(m:Hm)(i:Int):Int:=if okI m.S i/\(getS m.S i).pc=10 then(m.sp (T.pl i.toNat 0) (T.sl i.toNat 0)).a else 0
def DF(k:aV B w x T bud s m)(V:T.Ok)(i:Int):E 251 #[↑x.l,J i] w λe w'=>e= returned (J (kT T m i))/\Below w.heap.size w w':=by
 have LN:=aP;have I:=xx;have H:=qh k;have HN:=k.fx.n32;have Rm:=k.fx.d5;have hd:=V.d1;obtain⟨p,i'⟩:=LE (getS m.S i);have HP:=qh i';by_cases h10:p.pc=10
 .have mP:okI m.S i:=by exact abE
  obtain⟨n,rfl,hn,hg,hl⟩:=k.okn mP;have HV:=qh (And.intro (V.plt n 0 hn ahy) (V.slt n 0 hn ahy));obtain⟨u,Y⟩:=LE (m.sp (T.pl n 0) (T.sl n 0));have HU:=qh Y;have O:Kq (kT T m n=u.a):=qh (by unfold kT;rw[if_pos ⟨mP,by rw[<-i'];exact h10⟩,Int.toNat_natCast,<-Y]);have y:(p.pc !=10)=false:=by simpa using h10
  refine ajt ?_;intro t2 t3;have g1:(0:Int)<T.D:=by omega
  have g2:0<T.D:=by omega
  clear k i' mP hg hl Y h10;go_enter func251,ntmps251;go_wp2_with fail;refine ST (j7 H.o n) λw1 b1=>?_;rw[<-HP.o];unfold aC;have k1:=H.o.below b1;obtain⟨M8,cL,cP,cS⟩:=k1.lev hn (show 0<T.D by omega);simp only[Nat.zero_mul,Nat.add_zero]at cP cS;have H1:=qh (And.intro k1 b1);clear k1 b1;go_wp2_with fail;refine ST ((H1.o.1.alloc _).spot1 HV.o.1 HV.o.2) λw2 b2=>?_;rw[<-HU.o];unfold aC;have H2:=qh ((H1.o.2.alloc H1.o.2.size _).trans (b2.mono (Nat.le_trans H1.o.2.size ahz)));clear b2;go_wp2;go_ret;exact⟨aU O.o.symm,H2.o⟩
 .have y:(p.pc !=10)=true:=by simpa using h10
  have O:Kq (kT T m i=0):=qh (by unfold kT;rw[if_neg (λh=>h10 (by rw[i'];exact h.2))]);clear k i' h10;go_enter func251,ntmps251;go_wp2_with fail;refine ST (j7 H.o i) λw1 b1=>?_;rw[<-HP.o];unfold aC;have H1:=qh b1;clear b1;go_wp2;go_ret;exact⟨aU O.o.symm,H1.o⟩
end
end
end Go.Proofs.YtglokdbiggbkjaaGreat
