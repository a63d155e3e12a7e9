/- Joined texts. -/
import Derived.StillTailTactics
import Derived.Deep.RegionHeld3
import Derived.IntWalk
import Derived.ScopeJumps
import Derived.WalkMore
import Derived.Test.YtglokdbiggbkjaaGreatMgBoltLoops0
import Derived.Test.YtglokdbiggbkjaaGreatMgBoltLoops2
import Derived.Test.YtglokdbiggbkjaaGreatMgBoltLoops3
import Derived.Test.YtglokdbiggbkjaaGreatMgBoltLoops4
import Derived.Test.YtglokdbiggbkjaaGreatMgBoltLoops8
import Derived.Test.YtglokdbiggbkjaaGreatMgBoltLoops23
set_option linter.unusedVariables false
set_option linter.unusedSimpArgs false
set_option linter.defProp false
set_option maxRecDepth 100000
set_option maxHeartbeats 16000000
open Go.Proofs.Tryz
namespace Go.Proofs.YtglokdbiggbkjaaGreat
open Go.IntKind(i64)
open Go.Value(int bool slice agg tuple pointer)
open Go.Ending(returned)
open Go.Obj(cells)
variable{k v i n j c:Nat}{P T:List Int}{p x t bud:Int}{w w':World}{u:Value}{W:Nat->List Int}{B:Nat->Prop}
section
open Go.RowKit
variable{u:Nat}
def m7(P:List Int)(p:Int)(k:Nat):List Int:=((List.range k).map Int.ofNat).filter λv=>decide (P.getD v.toNat 0=p)
def chL(P:List Int)(p:Int):List Int:=m7 P p P.length
def nvT(P T:List Int)(v:Nat):Nat:=if chL P v=[]then max 1 (T.count (v:Int))else(chL P v).length
def plX(P:List Int)(x:Int)(k:Nat):Int:=(upL P x).getD k 0
def slX(P T:List Int)(i:Nat)(x:Int):Nat->Int
 |0=>cO T i
 |k+1=>fQ (chL P (plX P x (k+1))) (plX P x k)
def cB(P T:List Int):HTr:=⟨(jp P T).toNat,T.length,P.length,λt k=>(plX P (T.getD t 0) k).toNat,λt k=>(slX P T t (T.getD t 0) k).toNat,nvT P T,λv=>(jp P T).toNat-depL P v⟩
def yI(P:List Int)(p:Int){q:Int}(h:P[k]? =some q):m7 P p (k+1)=if q=p then m7 P p k++[(k:Int)]else m7 P p k:=by
 unfold m7;rw[List.range_succ,List.map_append,List.filter_append];show _++List.filter _ [(k:Int)]=_;have e:P.getD (k:Int).toNat 0=q:=by rw[Int.toNat_natCast,bm h]
 by_cases H:q=p;.rw[if_pos H,List.filter_cons_of_pos (by simpa only[decide_eq_true_eq,e]using H)];rfl
 .have:¬P.getD (k:Int).toNat 0=p:=by rw[e];exact H
  rw[if_neg H,List.filter_cons_of_neg (by simpa only[decide_eq_true_eq]using this)];simp
def li(P:List Int)(p:Int)(k:Nat):(m7 P p k).length<=k:=by unfold m7;have:=List.length_filter_le (λv:Int=>decide (P.getD v.toNat 0=p)) ((List.range k).map Int.ofNat);simpa using this
def CA(h:P[v]? =some p):(v:Int)∈chL P p:=by unfold chL m7;rw[List.mem_filter];have:=(List.getElem?_eq_some_iff.1 h).1;refine⟨List.mem_map.2 ⟨v,List.mem_range.2 this,rfl⟩,?_⟩;simp only[decide_eq_true_eq,Int.toNat_natCast];exact bm h
def FM{v:Int}(h:v∈chL P p):∃n:Nat,v=n/\P[n]? =some p:=by unfold chL m7 at h;rw[List.mem_filter,List.mem_map]at h;obtain⟨⟨a,O,rfl⟩,H⟩:=h;have V:=List.mem_range.1 O;refine⟨a,rfl,?_⟩;simp only[decide_eq_true_eq]at H;have e:(Int.ofNat a).toNat=a:=rfl;rw[e]at H;obtain⟨q,I⟩:=ai V;rw[bm I]at H;rw[I,H]
def xJ(h:dm P x=true):chL P x=[]:=by
 cases hc:chL P x with
 |nil=>rfl
 |cons a l=>obtain⟨n,rfl,H⟩:=FM (P:=P) (p:=x) (v:=a) (by rw[hc];simp);exact absurd (List.mem_of_getElem? H) (jt h).2.2
structure XAt(P T:List Int)(i:Nat)(x:Int):Prop where
 at_:T[i]? =some x
 leaf:dm P x=true
 len:(upL P x).length=(jp P T).toNat
 up:∀k,k<(jp P T).toNat->∃v:Nat,(upL P x)[k]? =some (v:Int)/\v<P.length/\plX P x k=v/\depL P v+k=(jp P T).toNat/\(upL P x).drop k=upL P v
def xAt(h:a5 P T=0)(hi:i<T.length):∃x,XAt P T i x/\T.getD i 0=x:=by
 obtain⟨x,I⟩:=ai hi;have hm:=jy (aR h).2.2.2 I;have O:=fR.1 hm;have a:=jt O;have d:=DM h hm;have d':(jp P T).toNat=depL P x:=by omega
 obtain⟨h1,Y⟩:=pQ (aR h).2.1 a.1 a.2.1;refine⟨x,⟨I,O,by rw[h1,d'],λk hk=>?_⟩,bm I⟩;obtain⟨u,H⟩:=ai (show k<(upL P x).length by omega);obtain⟨a1,a2,V,a4⟩:=Y k u H;obtain⟨v,rfl⟩:=Int.eq_ofNat_of_zero_le a1;exact⟨v,H,by omega,by unfold plX;rw[bm H],by omega,V⟩
section
def XAt.par(h:a5 P T=0)(a:XAt P T i x)(Y:k+1<(jp P T).toNat)(O:plX P x k=v)(hu:plX P x (k+1)=u):P[v]? =some (u:Int):=by
 obtain⟨v',b1,b2,b3,b4,I⟩:=a.up k ahB;obtain⟨u',c1,c2,c3,c4,c5⟩:=a.up (k+1) Y;obtain rfl:v'=v:=by omega
 obtain rfl:u'=u:=by omega
 obtain⟨p,H⟩:=ai b2;rw[gA (aR h).2.1 H]at I;have e:=congrArg (λl=>l[1]?) I;simp only[List.getElem?_drop,List.getElem?_cons_succ]at e;rw[c1]at e;by_cases V:0<=p;.obtain⟨n,rfl⟩:=Int.eq_ofNat_of_zero_le V;have NU:=gL (aR h).2.1 H;obtain⟨q,hq⟩:=ai (show n<P.length by omega);rw[gA (aR h).2.1 hq]at e;simp at e;rw[H,e]
 .rw[wZ ahB]at e;simp at e
def XAt.above(h:a5 P T=0)(a:XAt P T i x)(I:k+1<(jp P T).toNat):∃v u j:Nat,plX P x k=v/\plX P x (k+1)=u/\v<P.length/\u<P.length/\slX P T i x (k+1)=j/\(chL P u)[j]? =some (v:Int):=by obtain⟨v,b1,b2,b3,O,V⟩:=a.up k ahB;obtain⟨u,c1,c2,c3,c4,c5⟩:=a.up (k+1) I;have hm:=CA (a.par h I b3 c3);obtain⟨j,H⟩:=Int.eq_ofNat_of_zero_le ((eZ (chL P u) v).1.2 hm);refine⟨v,u,j,b3,c3,b2,c2,?_,nB hm H⟩;show fQ (chL P (plX P x (k+1))) (plX P x k)=j;rw[b3,c3];exact H
def oy(hi:T[i]? =some x)(h:i<u):(T.take i).count x<(T.take u).count x:=by
 have e:T.take u=T.take (i+1)++(T.drop (i+1)).take (u-(i+1)):=by rw[<-List.take_add];congr 1;omega
 rw[e,bJ hi,List.count_append,List.count_append];simp;omega
def jh(h:a5 P T=0):(cB P T).Ok:=by
 have KX:=bh (aR h).1;have US:∀t,t<T.length->∀x,T.getD t 0=x->slX P T t x 0=(((T.take t).count x:Nat):Int):=λt H x hx=>by show cO T t=_;unfold cO;rw[hx]
 have hD:1<=(jp P T).toNat:=by obtain⟨x,a,_⟩:=xAt h (show 0<T.length by omega);have b:=jt a.leaf;obtain⟨h1,h2⟩:=qC (aR h).2.1 b.1 b.2.1;rw[<-a.len,(pQ (aR h).2.1 b.1 b.2.1).1];exact h1
 refine⟨hD,λt k H V=>?_,λt k H V=>?_,λv O=>?_,λt k H V=>?_,λt u k H Y V e=>?_,λt u k H Y V e e2=>?_,λt u H Y=>?_,λt u H Y e e2=>?_⟩;.obtain⟨x,a,ex⟩:=xAt h H;obtain⟨v,b1,b2,b3,_⟩:=a.up k V;show(plX P (T.getD t 0) k).toNat<P.length;rw[ex,b3];exact b2
 .obtain⟨x,a,ex⟩:=xAt h H;show(slX P T t (T.getD t 0) k).toNat<nvT P T (plX P (T.getD t 0) k).toNat;rw[ex];cases k with
  |zero=>have a0:=jt a.leaf;obtain⟨n,rfl⟩:=Int.eq_ofNat_of_zero_le a0.1;obtain⟨v,b1,b2,b3,b4,b5⟩:=a.up 0 V;have e:plX P (n:Int) 0=n:=(by obtain⟨p,hp⟩:=ai (show n<P.length by omega);unfold plX;rw[gA (aR h).2.1 hp];rfl);rw[e,US t H _ ex,Int.toNat_natCast,Int.toNat_natCast];have c:=oy a.at_ (show t<T.length from H);rw[List.take_length]at c;unfold nvT;rw[if_pos (xJ a.leaf)];omega
  |succ k=>obtain⟨v,u,j,b1,b2,b3,b4,b5,b6⟩:=a.above h V;rw[b5,b2,Int.toNat_natCast,Int.toNat_natCast];have:=(List.getElem?_eq_some_iff.1 b6).1;unfold nvT;rw[if_neg (λe=>by rw[e]at this;exact absurd this (Nat.not_lt_zero _))];exact this
 .show nvT P T v<=32;unfold nvT;have h1:=li P v P.length;have h2:=List.count_le_length (a:=(v:Int)) (l:=T);split;.omega
  .show(m7 P v P.length).length<=32;omega
 .obtain⟨x,a,ex⟩:=xAt h H;obtain⟨v,b1,b2,b3,b4,_⟩:=a.up k V;show(jp P T).toNat-depL P (((plX P (T.getD t 0) k).toNat:Nat):Int)=k;rw[ex,b3,Int.toNat_natCast];omega
 .obtain⟨x,a,ex⟩:=xAt h H;obtain⟨y,b,I⟩:=xAt h Y;have KL:k+1<(jp P T).toNat:=V;obtain⟨v,b1,b2,b3,b4,b5⟩:=a.up k ahB;obtain⟨v',c1,c2,c3,c4,c5⟩:=b.up k ahB;have e':(plX P (T.getD t 0) k).toNat=(plX P (T.getD u 0) k).toNat:=e;rw[ex,I,b3,c3,Int.toNat_natCast,Int.toNat_natCast]at e';subst e';have f:(upL P x).drop k=(upL P y).drop k:=by rw[b5,c5]
  have f2:=congrArg (λl=>l[1]?) f;simp only[List.getElem?_drop]at f2;have f3:plX P x (k+1)=plX P y (k+1):=by unfold plX;rw[List.getD_eq_getElem?_getD,List.getD_eq_getElem?_getD,f2]
  constructor;.show(plX P (T.getD t 0) (k+1)).toNat=(plX P (T.getD u 0) (k+1)).toNat;rw[ex,I,f3]
  .show(fQ (chL P (plX P (T.getD t 0) (k+1))) (plX P (T.getD t 0) k)).toNat=(fQ (chL P (plX P (T.getD u 0) (k+1))) (plX P (T.getD u 0) k)).toNat;rw[ex,I,f3,b3,c3]
 .obtain⟨x,a,ex⟩:=xAt h H;obtain⟨y,b,I⟩:=xAt h Y;obtain⟨v,w,j,b1,b2,b3,b4,b5,b6⟩:=a.above h V;obtain⟨v',w',j',c1,c2,c3,c4,c5,c6⟩:=b.above h V;have e':(plX P (T.getD t 0) (k+1)).toNat=(plX P (T.getD u 0) (k+1)).toNat:=e;have R7:(slX P T t (T.getD t 0) (k+1)).toNat=(slX P T u (T.getD u 0) (k+1)).toNat:=e2;rw[ex,I,b2,c2,Int.toNat_natCast,Int.toNat_natCast]at e';rw[ex,I,b5,c5,Int.toNat_natCast,Int.toNat_natCast]at R7;subst e';subst R7;rw[b6]at c6;show(plX P (T.getD t 0) k).toNat=(plX P (T.getD u 0) k).toNat;rw[ex,I,b1,c1];injection c6 with c6;omega
 .obtain⟨x,a,ex⟩:=xAt h H;obtain⟨y,b,I⟩:=xAt h Y;have r:∀{i:Nat} {z:Int},XAt P T i z->plX P z ((jp P T).toNat-1)=0:=λ{i z} c=>by have q:=jt c.leaf;obtain⟨_,h2⟩:=qC (aR h).2.1 q.1 q.2.1;have hl:=c.len;rw[(pQ (aR h).2.1 q.1 q.2.1).1]at hl;rw[hl]at h2;unfold plX;rw[bm h2]
  show(plX P (T.getD t 0) ((jp P T).toNat-1)).toNat=(plX P (T.getD u 0) ((jp P T).toNat-1)).toNat;rw[ex,I,r a,r b]
 .obtain⟨x,a,ex⟩:=xAt h H;obtain⟨y,b,I⟩:=xAt h Y;have z:∀{i:Nat} {z:Int},XAt P T i z->plX P z 0=z/\0<=z:=λ{i z} c=>by have q:=jt c.leaf;obtain⟨n,rfl⟩:=Int.eq_ofNat_of_zero_le q.1;obtain⟨p,hp⟩:=ai (show n<P.length by omega);exact⟨by unfold plX;rw[gA (aR h).2.1 hp];rfl,q.1⟩
  have e':(plX P (T.getD t 0) 0).toNat=(plX P (T.getD u 0) 0).toNat:=e;have R7:(slX P T t (T.getD t 0) 0).toNat=(slX P T u (T.getD u 0) 0).toNat:=e2;rw[ex,I,(z a).1,(z b).1]at e';have NF:x=y:=by have:=(z a).2;have:=(z b).2;omega
  subst NF;rw[ex,I,US t H _ ex,US u Y _ I,Int.toNat_natCast,Int.toNat_natCast]at R7;rcases Nat.lt_trichotomy t u with I'|he|I'
  .have:=oy a.at_ I';omega
  .exact he
  .have:=oy b.at_ I';omega
def x9(h:a5 P T=0):(cB P T).D<=5:=by have O:=bh (aR h).1;obtain⟨x,a,ex⟩:=xAt h (show 0<T.length by omega);have H:=(aR h).2.2.1;unfold kJ at H;rw[List.all_eq_true]at H;have I:=H x (fR.2 a.leaf);simp only[decide_eq_true_eq]at I;have b:=jt a.leaf;have:=a.len;rw[(pQ (aR h).2.1 b.1 b.2.1).1]at this;show(jp P T).toNat<=5;omega
end
end
section
open Go.RowKit
variable{l a g q:Nat}{i f u:Int}
structure Rg where
 ar:Ar
 S:List Sp
def mL(r:Rg)(t i:Int):Rg×Bool:=
 if okI r.S i/\(getS r.S i).pc≠0/\(getS r.S i).pc≠10 then
  (⟨(de r.ar t (i+1) (getS r.S i)).1,r.S.set i.toNat (de r.ar t (i+1) (getS r.S i)).2⟩,decide ((de r.ar t (i+1) (getS r.S i)).2.pc=0\/(de r.ar t (i+1) (getS r.S i)).2.pc=10))
 else(r,false)
def dh(r:Rg)(i KK Kn:Int):Rg×Bool:=
 if okI r.S i/\(getS r.S i).pc=KK then(⟨r.ar,r.S.set i.toNat {getS r.S i with pc:=Kn}⟩,true)else(r,false)
def ik(r:Rg)(i Kn v:Int):Rg×Bool:=
 if okI r.S i/\(getS r.S i).pc=10 then(⟨r.ar,r.S.set i.toNat {getS r.S i with pc:=Kn,c:=v}⟩,true)else(r,false)
structure cZ(w:World)(l a g q:Nat)(t:Int)(r:Rg):Prop where
 ar:aB w a g r.ar
 lk:Blk w l 319 #[↑a,int i64 t,slice (some ⟨q,0,none⟩) r.S.length r.S.length]
 sp:dD w q r.S
 la:l≠a
 lg:l≠g
 lq:l≠q
 qa:q≠a
 qg:q≠g
 len:r.S.length<=32
def cZ.turns{r:Rg}{T:List Nat}(h:cZ w l a g q t r)(k:aa T w w')(h1:l∉T)(H:a∉T)(I:g∉T)(O:q∉T):cZ w' l a g q t r:=
 ⟨h.ar.turns k H I,k.blk h.lk h1,h.sp.turns k O,h.la,h.lg,h.lq,h.qa,h.qg,h.len⟩
def cZ.below{r:Rg}(h:cZ w l a g q t r)(k:Below w.heap.size w w'):cZ w' l a g q t r:=
 h.turns (T:=[]) (aa.of_below k) ahC ahC ahC ahC
def ja{r:Rg}(h:cZ w l a g q t r):E 263 #[↑l] w λe w'=>e= returned (J r.S.length)/\w=w':=by refine akd ?_;intro c2;clear h;go_enter func263,ntmps263;go_wp2;go_ret;exact⟨rfl,rfl⟩
def pw{r:Rg}(h:cZ w l a g q t r)(i:Int):E 257 #[↑l,J i] w λe w'=>e= returned (aF (getS r.S i))/\Below w.heap.size w w':=by
  have V:=h.len;by_cases hi:okI r.S i;. have hp:=dL hi;obtain⟨p,O⟩:=LE (getS r.S i);rw[<-O]at hp ⊢;refine akd ?_;intro c2;refine ai0 ?_;intro a0 a1 a2 a3;obtain⟨I,h1⟩:=hi;obtain⟨n,rfl⟩:=Int.eq_ofNat_of_zero_le I;simp only[Int.toNat_natCast]at a0 a1 a2 a3;have Kl:=h.lk.lt;have Kp:=h.sp.lt;have t2:¬(n:Int)<0:=(by omega);have Y:¬((r.S.length:Nat):Int)<=(n:Int):=(by omega);have t4:n<r.S.length:=(by omega);have H:Kq (cZ (w.alloc (cells #[J 0,J 0,J 0,J 0] 113)) l a g q t r):=qh (h.below ((Below.refl _ _).alloc (Nat.le_refl _) _));clear h hp O I h1;go_enter func257,ntmps257;go_wp2_with (go_at_call 263;refine(ja H.o).mono ?_;rintro e w' ⟨rfl,rfl⟩);exact bodyPost_ret (results_cell_row ahF _ _ w.heap.size 113 _ (0,0) _ ahF (heap_alloc_new w _) Tryz.underlying113 rfl ahE) rfl ⟨rfl,(Below.refl _ _).alloc (Nat.le_refl _) _⟩
  . have H:Kq (cZ (w.alloc (cells #[J 0,J 0,J 0,J 0] 113)) l a g q t r):=qh (h.below ((Below.refl _ _).alloc (Nat.le_refl _) _));rw[dE hi];unfold okI at hi;clear h;by_cases I:i<0;. go_enter func257,ntmps257;go_wp2;exact bodyPost_ret (results_cell_row ahF _ _ w.heap.size 113 _ (0,0) _ ahF (heap_alloc_new w _) Tryz.underlying113 rfl ahE) rfl ⟨rfl,(Below.refl _ _).alloc (Nat.le_refl _) _⟩
    . have Y:((r.S.length:Nat):Int)<=i:=(by omega);clear hi;go_enter func257,ntmps257;go_wp2_with (go_at_call 263;refine(ja H.o).mono ?_;rintro e w' ⟨rfl,rfl⟩);exact bodyPost_ret (results_cell_row ahF _ _ w.heap.size 113 _ (0,0) _ ahF (heap_alloc_new w _) Tryz.underlying113 rfl ahE) rfl ⟨rfl,(Below.refl _ _).alloc (Nat.le_refl _) _⟩
def sk(w:World)(l a g q:Nat)(t:Int)(x:Rg×Bool)(e:Ending)(w':World):Prop:=e= returned (.bool x.2)/\cZ w' l a g q t x.1/\aa [q] w w'
def cZ.spot{r:Rg}(h:cZ w l a g q t r){H:List Sp}(hs:dD w' q H)(I:H.length=r.S.length)(k:aa [q] w w'):cZ w' l a g q t ⟨r.ar,H⟩:=
 ⟨h.ar.turns k (by simpa using λe=>h.qa e.symm) (by simpa using λe=>h.qg e.symm),by
  have:=k.blk h.lk (by simpa using h.lq)
  show Blk w' l _ #[↑a,J t,slice (some ⟨q,0,none⟩) H.length H.length]
  rw[I];exact this,hs,h.la,h.lg,h.lq,h.qa,h.qg,by show H.length<=32;rw[I];exact h.len⟩
def qe{r:Rg}(h:cZ w l a g q t r)(i I O:Int):E 262 #[↑l,J i,J I,J O] w (sk w l a g q t (dh r i I O)):=by
  have H:=qh h;have KW:=h.len;by_cases hi:okI r.S i
  . have hp:=dL hi;obtain⟨p,mP⟩:=LE (getS r.S i);rw[<-mP]at hp;refine akd ?_;intro c2;refine akg ?_;intro a0;have f0:=h.sp.free (i.toNat*4);obtain⟨h0,h1⟩:=id hi;obtain⟨n,rfl⟩:=Int.eq_ofNat_of_zero_le h0;simp only[Int.toNat_natCast]at a0 f0 hp;have t2:¬(n:Int)<0:=(by omega);have Y:¬((r.S.length:Nat):Int)<=(n:Int):=(by omega);have t4:n<r.S.length:=(by omega);have V:=qh (And.intro hi (And.intro mP hp));clear h hp mP h0 h1 hi;cases hc:(p.pc !=I)
    . have hb:Kq (dh r n I O=(⟨r.ar,r.S.set n {p with pc:=O}⟩,true)):=qh (by
        unfold dh;have e:p.pc=I:=by simpa using hc
        rw[<-V.o.2.1,if_pos ⟨V.o.1,e⟩];simp)
      go_enter func262,ntmps262;go_wp2_with (go_at_call 263;refine(ja H.o).mono ?_;rintro e w' ⟨rfl,rfl⟩);go_ret;rw[hb.o];have ht:aa [q] w (w.setCell ⟨q,n*4,none⟩ (J O)):=(aa.refl _ _).setCell (.inl ahC) _;exact⟨rfl,H.o.spot (H.o.sp.put V.o.2.2 (j:=0) ahD rfl) ahC ht,ht⟩
    . have hb:Kq (dh r n I O=(r,false)):=qh (by
        unfold dh;have e:¬p.pc=I:=by simpa using hc
        rw[<-V.o.2.1,if_neg (λh=>e h.2)])
      go_enter func262,ntmps262;go_wp2_with (go_at_call 263;refine(ja H.o).mono ?_;rintro e w' ⟨rfl,rfl⟩);go_ret;rw[hb.o];exact⟨rfl,H.o,aa.refl _ _⟩
  . have hb:Kq (dh r i I O=(r,false)):=qh (by
      unfold dh
      rw[if_neg (λh=>hi h.1)])
    unfold okI at hi;clear h;by_cases h0:i<0;. go_enter func262,ntmps262;go_wp2;go_ret;rw[hb.o];exact⟨rfl,H.o,aa.refl _ _⟩
    . have Y:((r.S.length:Nat):Int)<=i:=(by omega);clear hi;go_enter func262,ntmps262;go_wp2_with (go_at_call 263;refine(ja H.o).mono ?_;rintro e w' ⟨rfl,rfl⟩);go_ret;rw[hb.o];exact⟨rfl,H.o,aa.refl _ _⟩
def Dq{r:Rg}(h:cZ w l a g q t r)(i:Int):E 256 #[↑l,J i] w (sk w l a g q t (dh r i 0 1)):=by go_enter func256,ntmps256;have H:=qh h;clear h;go_wp2_with fail;refine Op (qe H.o i 0 1) λw1 H1=>?_;obtain⟨b,hb⟩:=LE ((dh r i 0 1).2);rw[<-hb];have I:=qh hb;clear hb;go_wp2;go_ret;exact⟨by rw[I.o];rfl,H1.o.1,H1.o.2⟩
theorem uZ{r:Rg}(h:(dh r i f u).2=true):okI r.S i/\(getS r.S i).pc=f/\(dh r i f u).1=⟨r.ar,r.S.set i.toNat {getS r.S i with pc:=u}⟩:=by
 unfold dh at *;split at h;.rename_i hc;rw[if_pos hc];exact⟨hc.1,hc.2,rfl⟩
 .cases h
theorem sI{r:Rg}(h:(dh r i f u).2=false):¬(okI r.S i/\(getS r.S i).pc=f)/\(dh r i f u).1=r:=by
 unfold dh at *;split at h;.cases h
 .rename_i hc;rw[if_neg hc];exact⟨hc,rfl⟩
def uP{r:Rg}(h:cZ w l a g q t r)(i I v:Int):E 268 #[↑l,J i,J I,J v] w (sk w l a g q t (ik r i I v)):=by
  have H:=qh h;clear h;go_enter func268,ntmps268;go_wp2_with fail;refine(qe H.o i 10 I).mono ?_;rintro en w1 ⟨rfl,h1,t1⟩;cases hb:(dh r i 10 I).2;. obtain⟨hc,O⟩:=sI hb;rw[O]at h1;have V:Kq (ik r i I v=(r,false)):=qh (by unfold ik;rw[if_neg hc]);have H1:=qh (And.intro h1 t1);clear h1 t1 hb hc O;go_wp2;go_ret;rw[V.o];exact⟨rfl,H1.o.1,H1.o.2⟩
  . obtain⟨hi,hc,O⟩:=uZ hb;rw[O]at h1;have KF:=dL hi;have KW:=h1.len;simp only[List.length_set]at KW;obtain⟨h0,h9⟩:=id hi;obtain⟨n,rfl⟩:=Int.eq_ofNat_of_zero_le h0;simp only[Int.toNat_natCast]at h1 KF;have Y:(r.S.set n {getS r.S n with pc:=I})[n]? =some {getS r.S n with pc:=I}:=(by have:n<r.S.length:=(by omega);simp[this]);have c2:Z w1 l 2 (slice (some ⟨q,0,none⟩) r.S.length r.S.length):=(by have:=h1.lk.cell 2;simpa using this);have a3:=h1.sp.cell Y 3 _ rfl;have f3:=h1.sp.free (n*4+3);have t4:n<r.S.length:=(by omega);have t5:(n:Int)<r.S.length:=(by omega);have V:Kq (ik r n I v=(⟨r.ar,r.S.set n {getS r.S n with pc:=I,c:=v}⟩,true)):=qh (by unfold ik;rw[if_pos ⟨hi,hc⟩];simp);have H1:=qh (And.intro h1 (And.intro t1 Y));clear h1 t1 hb hc O Y hi KF h0 h9;go_wp2;go_ret;rw[V.o];have ht:aa [q] w1 (w1.setCell ⟨q,n*4+3,none⟩ (J v)):=(aa.refl _ _).setCell (.inl ahC) _;refine⟨rfl,?_,H1.o.2.1.trans ht⟩;have h2:=H1.o.1.spot (H1.o.1.sp.put H1.o.2.2 (j:=3) (u:= J v) (p':={getS r.S n with pc:=I,c:=v}) ahD rfl) ahC ht;simpa using h2
def yW{r:Rg}(h:cZ w l a g q t r)(i v:Int):E 264 #[↑l,J i,J v] w (sk w l a g q t (ik r i 11 v)):=by have H:=qh h;clear h;go_enter func264,ntmps264;go_wp2_with fail;refine Op (uP H.o i 11 v) λw1 H1=>?_;obtain⟨b,hb⟩:=LE ((ik r i 11 v).2);rw[<-hb];have I:=qh hb;clear hb;go_wp2;go_ret;exact⟨by rw[I.o];rfl,H1.o.1,H1.o.2⟩
def CL{r:Rg}(h:cZ w l a g q t r)(i v:Int):E 265 #[↑l,J i,J v] w (sk w l a g q t (ik r i 15 v)):=by have H:=qh h;clear h;go_enter func265,ntmps265;go_wp2_with fail;refine Op (uP H.o i 15 v) λw1 H1=>?_;obtain⟨b,hb⟩:=LE ((ik r i 15 v).2);rw[<-hb];have I:=qh hb;clear hb;go_wp2;go_ret;exact⟨by rw[I.o];rfl,H1.o.1,H1.o.2⟩
def jT{r:Rg}(h:cZ w l a g q t r)(x:Int):E 269 #[↑l,J x] w λe w'=>e= returned (J (nxA t x))/\w=w':=by have c1:Z w l 1 (J t):=h.lk.cell 1;clear h;go_enter func269,ntmps269;go_wp2;go_ret;exact⟨rfl,rfl⟩
def j6{r:Rg}(h:cZ w l a g q t r)(x:Int):E 270 #[↑l,J x] w λe w'=>e= returned (J (stA t x))/\w=w':=by have c1:Z w l 1 (J t):=h.lk.cell 1;clear h;go_enter func270,ntmps270;go_wp2;go_ret;exact⟨rfl,rfl⟩
end
section
open Go.RowKit
variable{p:Sp}{s:Ar}{Q:Prop}
def An(w:World)(l a g q:Nat)(t:Int)(n:Nat)(r:Rg)(p:Sp)(x:Ar×Sp)(e:Ending)(w':World):Prop:=
 e= returned (J x.2.pc)/\cZ w' l a g q t ⟨x.1,r.S.set n {x.2 with pc:=p.pc}⟩/\aa [a,g,q] w w'
def fV{P:Program}{f:FuncId}{args:Array Value}{v:Value}(h:Calls P f args w λe w'=>e= returned v/\w=w'):Calls P f args w λe w'=>e= returned v/\w'=w:=
 h.mono λ_ _ ⟨a,b⟩=>⟨a,b.symm⟩
def cZ.ar_{l a g q:Nat}{r:Rg}(h:cZ w l a g q t r){s':Ar}(hs:aB w' a g s')(k:aa [a,g] w w'):cZ w' l a g q t ⟨s',r.S⟩:=
 ⟨hs,k.blk h.lk (by simp[h.la,h.lg]),h.sp.turns k (by simp[h.qa,h.qg]),h.la,h.lg,h.lq,h.qa,h.qg,h.len⟩
def cZ.drew{l a g q:Nat}{r:Rg}(h:cZ w l a g q t r):cZ w.drew l a g q t r:=h.turns (T:=[]) ((aa.refl _ _).drew) ahC ahC ahC ahC
def uD{S:List Sp}(h:S[n]? =some p):S.set n p=S:=by obtain⟨H,rfl⟩:=List.getElem?_eq_some_iff.1 h;simp
def zP{a g:Nat}(h:aB w a g s)(x v r:Int)(I:r=ldW s.W x)(V:s.ops+1<=1000000000000):E 271 #[↑a,J x,J v] w (fk w a g (cr s x v) (J r)):=by rw[I];exact fD h x v V
def kB{a g:Nat}(h:aB w a g s)(x r:Int)(I:r=ldW s.W x)(V:s.ops+1<=1000000000000):E 173 #[↑a,J x] w (fk w a g (af s x) (J r)):=by rw[I];exact aD h x V
def AK{a g:Nat}(h:aB w a g s)(x old v:Int)(b:Bool)(hb:cJ s x old=b)(V:s.ops+1<=1000000000000):E 272 #[↑a,J x,J old,J v] w (fk w a g (dX s x old v) (.bool b)):=by rw[<-hb];exact jn h x old v V
def cZ.put1{l a g q:Nat}{r:Rg}(h:cZ w l a g q t r){p':Sp}(V:r.S[n]? =some p)(O:j<4)(I:(bi p).set j u=bi p'):cZ (w.setCell ⟨q,n*4+j,none⟩ u) l a g q t ⟨r.ar,r.S.set n p'⟩/\aa [q] w (w.setCell ⟨q,n*4+j,none⟩ u):=by have H:aa [q] w (w.setCell ⟨q,n*4+j,none⟩ u):=(aa.refl _ _).setCell (.inl ahC) _;exact⟨h.spot (h.sp.put V O I) ahC H,H⟩
def rgA(h:Q:=by
    go_wp2
    go_ret
    rw[HE.o]
    refine⟨rfl,?_,H1.o.2.mono ahC⟩
    dsimp only
    rw[uD HP.o]
    exact H1.o.1):Q:=h
def rgB(h:Q:=by
    go_wp2
    go_ret
    rw[HE.o]
    first
      | rw[if_pos HZ.o]
      | rw[if_neg HZ.o]
      | skip
    refine⟨rfl,?_,(H1.o.2.mono ahC).trans (HG.o.2.mono ahC)⟩
    first
      | exact HG.o.1
      | simpa using HG.o.1):Q:=h
def rgS(h:Q:=by
    simp only[List.take_succ_cons,List.take_zero,List.drop_succ_cons,List.drop_zero]
    change wpStill _ _ (World.drew _) _ _ _
    repeat still_step
    try still_call HC.o
    repeat still_step
    refine wpStill_nil ?_
    change wpList _ _ _ _ _ (World.drew w)
    go_wp2_with fail
    refine HO.o.mono ?_
    rintro en w1 ⟨rfl,h1,t1⟩
    have H1:=qh (And.intro (HD.o.ar_ h1 t1) (aa.trans ((aa.refl _ _).drew) t1))
    first
      | exact rgA
      | (have Ml:=qh (HJ.o _ H1.o.1)
         have M6:=Ml.o.1.put1 (n:=n) (j:=2) (u:= J 1) (p:=⟨6,1,pb,pz⟩) (p':=⟨6,1,1,pz⟩) aiR ahD rfl
         have HG:=qh (And.intro M6.1 (Ml.o.2.trans M6.2))
         have Kj:=H1.o.1.sp
         have d1:=Kj.cell HP.o 1 _ rfl
         have d2:=Kj.cell HP.o 2 _ rfl
         have f1:=Kj.free (n*4+1)
         have f2:=Kj.free (n*4+2)
         clear h1 t1 Kj M6
         exact rgB)):Q:=h
def rgL(h:Q:=by
    go_region_held3 (λW=>W.cell? l=some ↑a/\Z W l 1 (J t))
      (first|exact⟨c0,c1⟩|exact⟨k0,k1⟩|exact hk.o _ _)
      (first
        | (go_at_call 271;go_loud (refine HO.o.mono ?_);rintro en w1 ⟨rfl,h1,t1⟩;have H1:=qh (And.intro (HD.o.ar_ h1 t1) (aa.trans ((aa.refl _ _).drew) t1));have k0:w1.cell? l=some ↑a:=H1.o.1.lk.cell 0;have k1:Z w1 l 1 (J t):=H1.o.1.lk.cell 1;have hk:Kq (∀(o:Nat) (u:Value),(w1.setCell ⟨q,o,none⟩ u).cell? l=some ↑a/\(w1.setCell ⟨q,o,none⟩ u).cell? ⟨l,1,none⟩=some (J t)):=qh λo u=>⟨(H1.o.1.lk.far (p:=⟨q,o,none⟩) H1.o.1.lq u).cell 0,(H1.o.1.lk.far (p:=⟨q,o,none⟩) H1.o.1.lq u).cell 1⟩;have d0:=H1.o.1.sp.cell HP.o 0 _ rfl;simp only[Nat.add_zero]at d0;have d1:=H1.o.1.sp.cell HP.o 1 _ rfl;have d2:=H1.o.1.sp.cell HP.o 2 _ rfl;have f1:=H1.o.1.sp.free (n*4+1);have f2:=H1.o.1.sp.free (n*4+2))
        | (go_at_call 173;go_loud (refine HO.o.mono ?_);rintro en w1 ⟨rfl,h1,t1⟩;have H1:=qh (And.intro (HD.o.ar_ h1 t1) (aa.trans ((aa.refl _ _).drew) t1));have k0:w1.cell? l=some ↑a:=H1.o.1.lk.cell 0;have k1:Z w1 l 1 (J t):=H1.o.1.lk.cell 1;have hk:Kq (∀(o:Nat) (u:Value),(w1.setCell ⟨q,o,none⟩ u).cell? l=some ↑a/\(w1.setCell ⟨q,o,none⟩ u).cell? ⟨l,1,none⟩=some (J t)):=qh λo u=>⟨(H1.o.1.lk.far (p:=⟨q,o,none⟩) H1.o.1.lq u).cell 0,(H1.o.1.lk.far (p:=⟨q,o,none⟩) H1.o.1.lq u).cell 1⟩;have d0:=H1.o.1.sp.cell HP.o 0 _ rfl;simp only[Nat.add_zero]at d0;have d1:=H1.o.1.sp.cell HP.o 1 _ rfl;have d2:=H1.o.1.sp.cell HP.o 2 _ rfl;have f1:=H1.o.1.sp.free (n*4+1);have f2:=H1.o.1.sp.free (n*4+2))
        | (go_at_call 270;go_loud (refine LT HC.o ?_))
        | (go_at_call 269;go_loud (refine LT HC.o ?_)))
    all_goals clear h1 t1
    have HG:=qh (HJ.o _ H1.o.1)
    cases hz:(v==0)
    . have HZ:Kq (¬v=0):=qh ah2
      exact rgB
    . have HZ:Kq (v=0):=qh ah2
      exact rgB):Q:=h
def J2(h:Q:=by
    go_region_held3 (λW=>W.cell? l=some ↑a/\Z W l 1 (J t))
      (first|exact⟨c0,c1⟩|exact⟨k0,k1⟩|exact hk.o _ _)
      (first
        | (go_at_call 173;go_loud (refine HO.o.mono ?_);rintro en w1 ⟨rfl,h1,t1⟩;have H1:=qh (And.intro (HD.o.ar_ h1 t1) (aa.trans ((aa.refl _ _).drew) t1));have k0:w1.cell? l=some ↑a:=H1.o.1.lk.cell 0;have k1:Z w1 l 1 (J t):=H1.o.1.lk.cell 1;have hk:Kq (∀(o:Nat) (u:Value),(w1.setCell ⟨q,o,none⟩ u).cell? l=some ↑a/\(w1.setCell ⟨q,o,none⟩ u).cell? ⟨l,1,none⟩=some (J t)):=qh λo u=>⟨(H1.o.1.lk.far (p:=⟨q,o,none⟩) H1.o.1.lq u).cell 0,(H1.o.1.lk.far (p:=⟨q,o,none⟩) H1.o.1.lq u).cell 1⟩;have d0:=H1.o.1.sp.cell HP.o 0 _ rfl;simp only[Nat.add_zero]at d0;have d1:=H1.o.1.sp.cell HP.o 1 _ rfl;have d2:=H1.o.1.sp.cell HP.o 2 _ rfl;have f1:=H1.o.1.sp.free (n*4+1);have f2:=H1.o.1.sp.free (n*4+2))
        | (go_at_call 270;go_loud (refine LT HC.o ?_)))
    all_goals clear h1 t1
    have Ml:=qh (HJ.o _ H1.o.1)
    by_cases hz:0<v
    . have HZ:=qh hz
      have M6:=Ml.o.1.put1 (n:=n) (j:=2) (u:= J 0) (p:=⟨5,v,pb,pz⟩) (p':=⟨5,v,0,pz⟩) aiR ahD rfl
      have HG:=qh (And.intro M6.1 (Ml.o.2.trans M6.2))
      clear M6
      rw[if_pos hz]at HE
      exact rgB
    . by_cases hz2:v<0
      . have HG:=Ml
        rw[if_neg hz,if_pos hz2]at HE
        exact rgB
      . have HG:=Ml
        rw[if_neg hz,if_neg hz2]at HE
        exact rgB):Q:=h
section
variable{l a g q:Nat}{r:Rg}
def BY(h:cZ w l a g q t r)(n:Nat)(p:Sp)(hp:r.S[n]? =some p)(x:Int)(V:r.ar.ops+1<=1000000000000)(h1:1<=p.pc)(h6:p.pc<=6):E 266 #[↑l,pointer (some ⟨q,n*4,none⟩),J x] w (An w l a g q t n r p (iU r.ar t x p)):=by
  have c0:w.cell? l=some ↑a:=h.lk.cell 0;have c1:Z w l 1 (J t):=h.lk.cell 1;refine ai0 ?_;intro a0 a1 a2 a3;have Y:p.pc=1\/p.pc=2\/p.pc=3\/p.pc=4\/p.pc=5\/p.pc=6:=by omega
  have H:=qh h;have HD:=qh h.drew;have I:=qh hp;obtain⟨pc,pa,pb,pz⟩:=p;simp only at Y a0 a1 a2 a3;clear h hp h1 h6;rcases Y with rfl|rfl|rfl|rfl|rfl|rfl
  all_goals have HP:=qh I.o;clear I;go_enter func266,ntmps266;go_wp2
  . have HE:Kq (iU r.ar t x ⟨1,pa,pb,pz⟩=(ae r.ar (nxA t x) 0,⟨2,pa,pb,pz⟩)):=qh ahF;have HC:=qh (fV (jT HD.o x));have HO:=qh (an HD.o.ar (nxA t x) 0 V);refine wp_region_still_tail 7 ahE ahE ?_;exact rgS
  . have HE:Kq (iU r.ar t x ⟨2,pa,pb,pz⟩=(ae r.ar (stA t x) 0,⟨3,pa,pb,pz⟩)):=qh ahF;have HC:=qh (fV (j6 HD.o x));have HO:=qh (an HD.o.ar (stA t x) 0 V);refine wp_region_still_tail 7 ahE ahE ?_;exact rgS
  . obtain⟨v,O⟩:∃v,v=ldW r.ar.W t:=⟨_,rfl⟩;have HE:Kq (iU r.ar t x ⟨3,pa,pb,pz⟩=(cr r.ar t x,⟨if v=0 then 6 else 4,v,pb,pz⟩)):=qh (by rw[O];rfl);have HO:=qh (zP HD.o.ar t x v O V);have HJ:=qh (λW (h:cZ W l a g q t ⟨cr r.ar t x,r.S⟩)=>h.put1 HP.o (j:=1) (u:= J v) (p':=⟨3,v,pb,pz⟩) ahD rfl);clear O;exact rgL
  . have HE:Kq (iU r.ar t x ⟨4,pa,pb,pz⟩=(ae r.ar (nxA t pa) x,⟨5,pa,pb,pz⟩)):=qh ahF;have HC:=qh (fV (jT HD.o pa));have HO:=qh (an HD.o.ar (nxA t pa) x V);refine wp_region_still_tail 11 ahE ahE ?_;exact rgS
  . obtain⟨v,O⟩:∃v,v=ldW r.ar.W (stA t x):=⟨_,rfl⟩;have HE:Kq (iU r.ar t x ⟨5,pa,pb,pz⟩=(af r.ar (stA t x),if 0<v then⟨10,v,0,pz⟩else if v<0 then⟨6,v,pb,pz⟩else⟨5,v,pb,pz⟩)):=qh (by rw[O];rfl);have HC:=qh (j6 HD.o x);have HO:=qh (kB HD.o.ar (stA t x) v O V);have HJ:=qh (λW (h:cZ W l a g q t ⟨af r.ar (stA t x),r.S⟩)=>h.put1 HP.o (j:=1) (u:= J v) (p':=⟨5,v,pb,pz⟩) ahD rfl);clear O;exact J2
  . have HE:Kq (iU r.ar t x ⟨6,pa,pb,pz⟩=(ae r.ar (stA t x) 1,⟨10,1,1,pz⟩)):=qh ahF;have HC:=qh (fV (j6 HD.o x));have HO:=qh (an HD.o.ar (stA t x) 1 V);have HJ:=qh (λW (h:cZ W l a g q t ⟨ae r.ar (stA t x) 1,r.S⟩)=>h.put1 HP.o (j:=1) (u:= J 1) (p':=⟨6,1,pb,pz⟩) ahD rfl);refine wp_region_still_tail 7 ahE ahE ?_;exact rgS
def ED(h:cZ w l a g q t r)(n:Nat)(p:Sp)(hp:r.S[n]? =some p)(x:Int)(V:r.ar.ops+1<=1000000000000)(h1:11<=p.pc)(h6:p.pc<=16):E 267 #[↑l,pointer (some ⟨q,n*4,none⟩),J x] w (An w l a g q t n r p (eK r.ar t x p)):=by
  have c0:w.cell? l=some ↑a:=h.lk.cell 0;have c1:Z w l 1 (J t):=h.lk.cell 1;refine ai0 ?_;intro a0 a1 a2 a3;have Y:p.pc=11\/p.pc=12\/p.pc=13\/p.pc=14\/p.pc=15\/p.pc=16:=by omega
  have H:=qh h;have HD:=qh h.drew;have I:=qh hp;obtain⟨pc,pa,pb,pz⟩:=p;simp only at Y a0 a1 a2 a3;clear h hp h1 h6;rcases Y with rfl|rfl|rfl|rfl|rfl|rfl
  all_goals have HP:=qh I.o;clear I;go_enter func267,ntmps267;go_wp2
  . obtain⟨v,O⟩:∃v,v=ldW r.ar.W (nxA t x):=⟨_,rfl⟩;have HE:Kq (eK r.ar t x ⟨11,pa,pb,pz⟩=(af r.ar (nxA t x),⟨if v=0 then 12 else 14,v,pb,pz⟩)):=qh aiy;have HC:=qh (jT HD.o x);have HO:=qh (kB HD.o.ar (nxA t x) v O V);have HJ:=qh (λW (h:cZ W l a g q t ⟨af r.ar (nxA t x),r.S⟩)=>h.put1 HP.o (j:=1) (u:= J v) (p':=⟨11,v,pb,pz⟩) ahD rfl);clear O;exact rgL
  . cases hb:cJ r.ar t x;all_goals have HE:Kq (eK r.ar t x ⟨12,pa,pb,pz⟩=(dX r.ar t x 0,⟨if cJ r.ar t x then 0 else 13,pa,pb,pz⟩)):=qh rfl;rw[hb]at HE;have HO:=qh (AK HD.o.ar t x 0 _ hb V);clear hb;refine wp_region_still_tail 9 ahE ahE ?_;exact rgS
  . obtain⟨v,O⟩:∃v,v=ldW r.ar.W (nxA t x):=⟨_,rfl⟩;have HE:Kq (eK r.ar t x ⟨13,pa,pb,pz⟩=(af r.ar (nxA t x),⟨if v=0 then 13 else 14,v,pb,pz⟩)):=qh aiy;have HC:=qh (jT HD.o x);have HO:=qh (kB HD.o.ar (nxA t x) v O V);have HJ:=qh (λW (h:cZ W l a g q t ⟨af r.ar (nxA t x),r.S⟩)=>h.put1 HP.o (j:=1) (u:= J v) (p':=⟨13,v,pb,pz⟩) ahD rfl);clear O;exact rgL
  . have HE:Kq (eK r.ar t x ⟨14,pa,pb,pz⟩=(ae r.ar (stA t pa) pz,⟨0,pa,pb,pz⟩)):=qh ahF;have HC:=qh (fV (j6 HD.o pa));have HO:=qh (an HD.o.ar (stA t pa) pz V);refine wp_region_still_tail 14 ahE ahE ?_;exact rgS
  . obtain⟨v,O⟩:∃v,v=ldW r.ar.W (nxA t x):=⟨_,rfl⟩;have HE:Kq (eK r.ar t x ⟨15,pa,pb,pz⟩=(af r.ar (nxA t x),⟨if v=0 then 10 else 16,pa,v,pz⟩)):=qh aiy;have HC:=qh (jT HD.o x);have HO:=qh (kB HD.o.ar (nxA t x) v O V);have HJ:=qh (λW (h:cZ W l a g q t ⟨af r.ar (nxA t x),r.S⟩)=>h.put1 HP.o (j:=2) (u:= J v) (p':=⟨15,pa,v,pz⟩) ahD rfl);clear O;exact rgL
  . have HE:Kq (eK r.ar t x ⟨16,pa,pb,pz⟩=(ae r.ar (stA t pb) pz,⟨0,pa,pb,pz⟩)):=qh ahF;have HC:=qh (fV (j6 HD.o pb));have HO:=qh (an HD.o.ar (stA t pb) pz V);refine wp_region_still_tail 14 ahE ahE ?_;exact rgS
end
end
section
open Go.RowKit
def GG(p:Sp):Prop:=(0<=p.pc/\p.pc<=6)\/(10<=p.pc/\p.pc<=16)
def JI(w:World)(l a g q:Nat)(t:Int)(x:Rg×Bool)(e:Ending)(w':World):Prop:=e= returned (.bool x.2)/\cZ w' l a g q t x.1/\aa [a,g,q] w w'
def C3{l a g q:Nat}{r:Rg}(h:cZ w l a g q t r)(i:Int)(V:r.ar.ops+1<=1000000000000)(Ki:∀p∈r.S,GG p):E 259 #[↑l,J i] w (JI w l a g q t (mL r t i)):=by
  have LI:=aP;have H:=qh h;have KW:=h.len;obtain⟨p,hp⟩:=LE (getS r.S i);have HP:=qh hp;by_cases hc:okI r.S i/\p.pc≠0/\p.pc≠10
  . obtain⟨hi,I,ht⟩:=hc;have KV:=dL hi;rw[<-hp]at KV;have mT:=Ki p (List.mem_of_getElem? KV);obtain⟨h0,h9⟩:=id hi;obtain⟨n,rfl⟩:=Int.eq_ofNat_of_zero_le h0;simp only[Int.toNat_natCast]at KV;have t0:(p.pc==0)=false:=(by simpa using I);have ab:(p.pc==10)=false:=(by simpa using ht);have hn:n<r.S.length:=(by omega);have OQ:(n:Int)<r.S.length:=(by omega);have hx:(n:Int)+1<=33:=by omega
    have O:Kq (mL r t n=(⟨(de r.ar t (n+1) p).1,r.S.set n (de r.ar t (n+1) p).2⟩,decide ((de r.ar t (n+1) p).2.pc=0\/(de r.ar t (n+1) p).2.pc=10))):=qh (by
      unfold mL
      rw[<-HP.o,if_pos ⟨hi,I,ht⟩];rfl)
    have HG:=qh (And.intro KV hi);have HB:Kq ((1<=p.pc/\p.pc<=6)\/(11<=p.pc/\p.pc<=16)):=qh (by unfold GG at mT;omega);clear h hp I ht KV h0 h9 hi Ki mT;go_enter func259,ntmps259;go_wp2_with fail;refine Pi (pw H.o n) λw1 b1=>?_;rw[<-HP.o];unfold aF;have h1:=H.o.below b1;have H1:=qh (And.intro h1 b1);have c2:Z w1 l 2 (slice (some ⟨q,0,none⟩) r.S.length r.S.length):=h1.lk.cell 2;clear h1 b1;by_cases h10:p.pc<10
    all_goals
      go_wp2_with fail;first| refine(BY H1.o.1 n p HG.o.1 _ V (by have:=HB.o;omega) (by have:=HB.o;omega)).mono ?_| refine(ED H1.o.1 n p HG.o.1 _ V (by have:=HB.o;omega) (by have:=HB.o;omega)).mono ?_
      rintro en w2 ⟨rfl,Y,t2⟩;obtain⟨y,hy⟩:=LE (de r.ar t (n+1) p);have Rv:=hy;unfold de at Rv;first| rw[if_pos h10]at Rv| rw[if_neg ahB]at Rv
      rw[<-Rv]at Y ⊢;rw[<-hy]at O;clear hy Rv;have LQ:(r.S.set n {y.2 with pc:=p.pc})[n]? =some {y.2 with pc:=p.pc}:=(by simp[hn]);have d0:=ST (Y.sp.cell LQ 0 _ rfl);have f0:=Y.sp.free (n*4);have hq:=Y.sp.lt;have h3:=Y.sp.put LQ (j:=0) (u:= J y.2.pc) (p':=y.2) ahD rfl;simp only[Nat.add_zero,List.set_set]at h3;have UI:aa [q] w2 (w2.setCell ⟨q,n*4,none⟩ (J y.2.pc)):=(aa.refl _ _).setCell (.inl ahC) _;have h4:=Y.spot h3 ahC UI;have H2:=qh (And.intro h4 (((aa.of_below H1.o.2).trans t2).trans (UI.mono ahC)));clear Y t2 LQ h3 UI h4;cases z0:(y.2.pc==0)
      . cases z1:(y.2.pc==10);. have HD:Kq (decide (y.2.pc=0\/y.2.pc=10)=false):=qh aij;go_wp2;go_ret;rw[O.o];exact⟨az HD.o.symm,H2.o.1,H2.o.2⟩
        . have HD:Kq (decide (y.2.pc=0\/y.2.pc=10)=true):=qh aik;go_wp2;go_ret;rw[O.o];exact⟨az HD.o.symm,H2.o.1,H2.o.2⟩
      . have HD:Kq (decide (y.2.pc=0\/y.2.pc=10)=true):=qh ail;go_wp2;go_ret;rw[O.o];exact⟨az HD.o.symm,H2.o.1,H2.o.2⟩
  . have O:Kq (mL r t i=(r,false)):=qh (by unfold mL;rw[<-hp,if_neg hc])
    have I:p.pc=0\/p.pc=10:=by
      by_cases hi:okI r.S i
      . by_cases h0:p.pc=0;. exact .inl h0
        . by_cases h10:p.pc=10;. exact .inr h10
          . exact absurd ⟨hi,h0,h10⟩ hc
      . rw[hp,dE hi];exact .inl rfl
    clear h hp hc Ki;go_enter func259,ntmps259;go_wp2_with fail;refine Pi (pw H.o i) λw1 b1=>?_;refine ajy ?_;intro H1;clear b1;rcases I with I|I
    . have t0:(p.pc==0)=true:=(by rw[I];rfl);clear I;go_wp2;go_ret;rw[O.o];exact⟨rfl,H1.o.1,aa.of_below H1.o.2⟩
    . have t0:(p.pc==0)=false:=(by rw[I];rfl);have t1:(p.pc==10)=true:=(by rw[I];rfl);clear I;go_wp2;go_ret;rw[O.o];exact⟨rfl,H1.o.1,aa.of_below H1.o.2⟩
end
section
open Go.RowKit
theorem Tryz.infoSpR:(prog.info? 113).map (λi=>(i.zero,i.size,i.bytes))=some (some (agg #[J 0,J 0,J 0,J 0]),4,32):=by kernel_rfl
def lY(u:Value)(n:Nat):(madeCells #[u,u,u,u] n).toList=List.replicate n u:=by exact aaA
def po(n:Nat):(List.replicate n Sp.zero).flatMap bi=List.replicate (n*4) (J 0):=by exact aaB
def gb(s:Ar)(n:Int):Int:=if n<1\/32<n then 1 else if (s.room:Int)-s.W.length<2*n+1 then 3 else 0
def p8(w:World)(a g:Nat)(s:Ar)(n:Int)(e:Ending)(w':World):Prop:=
 if gb s n=0 then ∃l q,e= returned (tuple #[pointer (some ⟨l,0,none⟩),J 0])/\cZ w' l a g q (s.W.length+1) ⟨{s with W:=s.W++List.replicate (2*n+1).toNat 0},List.replicate n.toNat Sp.zero⟩/\w.heap.size<=l/\w.heap.size<=q/\aa [a] w w'
 else e= returned (tuple #[.pointer none,J (gb s n)])/\aB w' a g s/\aa [a] w w'
def zn{a g:Nat}{s:Ar}(h:aB w a g s)(n:Int):E 141 #[↑a,J n] w (p8 w a g s n):=by
  obtain⟨i0,hi,Kr,Ku,ab⟩:=info_parts Tryz.infoSpR;have H:=qh h;have OO:=h.le;have OU:=h.room;clear h;by_cases I:n<1\/32<n
  . have V:Kq (gb s n=1):=qh (by unfold gb;rw[if_pos I]);by_cases h1:n<1;. clear I;go_enter func141,ntmps141;go_wp2;go_ret2;unfold p8;rw[V.o,if_neg ahD];exact⟨rfl,H.o,aa.refl _ _⟩
    . have h2:32<n:=(by omega);clear I;go_enter func141,ntmps141;go_wp2;go_ret2;unfold p8;rw[V.o,if_neg ahD];exact⟨rfl,H.o,aa.refl _ _⟩
  . obtain⟨m,rfl⟩:=Int.eq_ofNat_of_zero_le (show 0<=n by omega);have h1:¬(m:Int)<1:=(by omega);have h2:¬32<(m:Int):=(by omega);have hm:m<=32:=(by omega);by_cases Y:(s.room:Int)-s.W.length<2*m+1;. have V:Kq (gb s m=3):=qh (by unfold gb;rw[if_neg I,if_pos Y]);have HT:Kq (eh s (2*m+1)=(s,(0:Int),(3:Int))):=qh (by unfold eh;rw[if_neg ahB,if_pos Y]);clear I Y;go_enter func141,ntmps141;go_wp2_with fail;refine(gz H.o (2*m+1)).mono ?_;rintro en w1 ⟨rfl,O,t1⟩;rw[HT.o]at O ⊢;have H1:=qh (And.intro O t1);clear O t1;go_wp2;go_ret2;unfold p8;rw[V.o,if_neg ahD];exact⟨rfl,H1.o.1,H1.o.2⟩
    . have V:Kq (gb s m=0):=qh (by unfold gb;rw[if_neg I,if_neg Y]);have HT:Kq (eh s (2*m+1)=({s with W:=s.W++List.replicate (2*(m:Int)+1).toNat 0},(s.W.length:Int)+1,(0:Int))):=qh (by unfold eh;rw[if_neg ahB,if_neg Y]);clear I Y;go_enter func141,ntmps141;go_wp2_with fail;refine(gz H.o (2*m+1)).mono ?_;rintro en w1 ⟨rfl,O,t1⟩;rw[HT.o]at O ⊢;have H1:=qh (And.intro O t1);clear O t1;go_wp2_with (refine wpList_make_full _ rfl (.tmp 27) (.tmp 27) 237 rfl w1.heap.size 113 i0 (agg #[J 0,J 0,J 0,J 0]) 4 Tryz.underlying237 hi Kr Ku .i64 .i64 m m m rfl rfl rfl rfl ?b2 ?b3 (Nat.le_refl _) ?_);case b2=>rw[ab];omega
      case b3=>unfold maxLen;omega
      intro w2 t3 hg;have hb:dD w2 w1.heap.size (List.replicate m Sp.zero):=(by unfold dD;rw[po];have:=gc t3;have e:(madeCells #[Value.int .i64 0,J 0,J 0,J 0] (m*4)).toList=List.replicate (m*4) (J 0):=lY _ _;exact aa5);have t2:aa [] w1 w2:=aa.of_below ((Below.refl w1.heap.size w1).grown hg (Nat.le_refl _) (λj hj=>by cases hj));have Kp:=hb.lt;have H2:=qh (And.intro hb t2);clear t3 hg hb t2;go_wp2;go_ret2;unfold p8;rw[V.o,if_pos rfl];have Kl:=H1.o.2.size;have UH:=H2.o.2.size;have hk:=(H1.o.1.turns H2.o.2 ahC ahC);have ad:=hk.blk.lt;have LG:=hk.wds.lt;have Sc:=H1.o.1.blk.lt;have Re:=H1.o.1.wds.lt;refine⟨w2.heap.size,w1.heap.size,rfl,⟨?_,?_,?_,?_,?_,?_,?_,?_,?_⟩,?_,?_,?_⟩;. exact hk.turns (S:=[]) ((aa.refl _ _).alloc _) ahC ahC
      . have:=Blk.new w2 319 #[↑a,J (s.W.length+1),slice (some ⟨w1.heap.size,0,none⟩) m m];simpa using this
      . simpa using H2.o.1.turns (T:=[]) ((aa.refl _ _).alloc _) ahC
      all_goals (try simp only[List.length_replicate,Int.toNat_natCast])
      all_goals first
        | omega
        | exact(((H1.o.2.trans (H2.o.2.mono ahC)).alloc _))
def qE(s:Ar)(t x:Int)(p:Sp):(de s t x p).1.ops<=s.ops+1:=by
 unfold de iU eK ae cr af dX wrA;split
 .repeat' split
  all_goals exact fT _ _ _ _
 .repeat' split
  all_goals exact fT _ _ _ _
end
section
open Go.RowKit
structure Hx where
 l:Nat
 a:Nat
 g:Nat
 q:Nat
 lb:Nat->Nat
 qb:Nat->Nat
 bR:Nat
 oR:Nat
 kR:Nat
 bL:Nat
 oL:Nat
 kL:Nat
 ub:Nat->Nat
 uo:Nat->Nat
 uk:Nat->Nat
def dy(W:Nat->List Int):Nat->List Int
 |0=>[]
 |n+1=>dy W n++W n
def mvL(x:Hx)(T:HTr):List Nat:=[x.a,x.g,x.q]++(List.range T.np).map x.qb
structure uS(B:Nat->Prop)(x:Hx)(T:HTr):Prop where
 bl:B x.l
 br:B x.bR
 bL:B x.bL
 bu:∀t,t<T.n->B (x.ub t)
 bb:∀v,v<T.np->B (x.lb v)
 nm:∀i∈mvL x T,¬B i
 qa:x.q≠x.a
 qg:x.q≠x.g
 va:∀v,v<T.np->x.qb v≠x.a
 vg:∀v,v<T.np->x.qb v≠x.g
 vq:∀v,v<T.np->x.qb v≠x.q
 inj:∀v u,v<T.np->u<T.np->x.qb v=x.qb u->v=u
 n32:T.n<=32
 p32:T.np<=32
 d5:T.D<=5
 v32:∀v,v<T.np->T.nv v<=32
 kR:T.np<=x.kR
 kL:T.n<=x.kL
 uk:∀t,t<T.n->T.D<=x.uk t
structure aV(B:Nat->Prop)(w:World)(x:Hx)(T:HTr)(bud:Int)(s:Ar)(m:Hm):Prop where
 fx:uS B x T
 ar:aB w x.a x.g s
 cat:s.W=dy m.W T.np
 wl:∀v,v<T.np->(m.W v).length=2*T.nv v+1
 lk:Blk w x.l 247 #[int i64 bud,slice (some ⟨x.bR,x.oR,none⟩) T.np x.kR,slice (some ⟨x.bL,x.oL,none⟩) T.n x.kL,slice (some ⟨x.q,0,none⟩) T.n T.n]
 sn:m.S.length=T.n
 ss:dD w x.q m.S
 rk:∀v,v<T.np->Blk w (x.lb v) 319 #[↑x.a,int i64 ((dy m.W v).length+1),slice (some ⟨x.qb v,0,none⟩) (m.P v).length (m.P v).length]
 rn:∀v,v<T.np->(m.P v).length=T.nv v
 rs:∀v,v<T.np->dD w (x.qb v) (m.P v)
 cR:∀v,v<T.np->w.cell? ⟨x.bR,x.oR+v,none⟩=some (pointer (some ⟨x.lb v,0,none⟩))
 cL:∀t,t<T.n->w.cell? ⟨x.bL,x.oL+t,none⟩=some (slice (some ⟨x.ub t,x.uo t,none⟩) T.D (x.uk t))
 cP:∀t k,t<T.n->k<T.D->w.cell? ⟨x.ub t,x.uo t+k*2,none⟩=some (pointer (some ⟨x.lb (T.pl t k),0,none⟩))
 cS:∀t k,t<T.n->k<T.D->w.cell? ⟨x.ub t,x.uo t+k*2+1,none⟩=some (int i64 (T.sl t k))
 bd:∀i,B i->i<w.heap.size
def aa.cell{S:List Nat}(k:aa S w w'){p:Addr}(h:w.cell? p=some u)(hS:p.block∉S):w'.cell? p=some u:=by exact aa6
def sM(W:Nat->List Int)(v:Nat)(X:List Int):∀n,n<=v->dy (aY W v X) n=dy W n
 |0,_=>rfl
 |n+1,h=>by show dy (aY W v X) n++aY W v X n=dy W n++W n;rw[sM W v X n ahB,aZ _ _ ahB]
def sK{W H:Nat->List Int}:∀n,(∀v,v<n->(W v).length=(H v).length)->(dy W n).length=(dy H n).length
 |0,_=>rfl
 |n+1,h=>by show(dy W n++W n).length=(dy H n++H n).length;rw[List.length_append,List.length_append,sK n (λv O=>h v ahB),h n ahB]
def nY(W:Nat->List Int)(v:Nat):∀d,∃C,dy W (v+1+d)=dy W v++W v++C/\∀X,dy (aY W v X) (v+1+d)=dy W v++X++C
 |0=>⟨[],by show dy W v++W v=_;simp,λX=>by show dy (aY W v X) v++aY W v X v=_;rw[sM W v X v (Nat.le_refl _),aX];simp⟩
 |d+1=>by
  obtain⟨C,h1,h⟩:=nY W v d;refine⟨C++W (v+1+d),?_,λX=>?_⟩;.show dy W (v+1+d)++W (v+1+d)=_;rw[h1];simp
  .show dy (aY W v X) (v+1+d)++aY W v X (v+1+d)=_;rw[h,aZ _ _ ahB];simp
def qV{W:Nat->List Int}{b:Nat}:∀n,(∀v,v<n->(W v).length<=b)->(dy W n).length<=n*b
 |0,_=>by simp[dy]
 |n+1,h=>by have h1:=qV n λv O=>h v ahB;have H:=h n ahB;show(dy W n++W n).length<=(n+1)*b;rw[List.length_append,Nat.add_mul,Nat.one_mul];omega
section
variable{x:Hx}{T:HTr}{s s':Ar}{m:Hm}
def uS.mv(f:uS B x T)(h:B i):i∉mvL x T:=λhm=>f.nm i hm h
def uS.qbm(_:uS B x T)(O:v<T.np):x.qb v∈mvL x T:=List.mem_append_right _ (List.mem_map.2 ⟨v,List.mem_range.2 O,rfl⟩)
def uS.lm(f:uS B x T)(h:B i):i≠x.a/\i≠x.g/\i≠x.q/\∀v,v<T.np->i≠x.qb v:=by have:=f.mv h;refine⟨λe=>this (by simp[mvL,e]),λe=>this (by simp[mvL,e]),λe=>this (by simp[mvL,e]),λv O e=>this (by rw[e];exact f.qbm O)⟩
def aV.turns{S:List Nat}(h:aV B w x T bud s m)(k:aa S w w')(h1:∀i∈S,¬B i)(Y:∀i∈S,i∉mvL x T):aV B w' x T bud s m:=by
 have I:∀i,B i->i∉S:=λi hb hm=>h1 i hm hb;have V:∀i,i∈mvL x T->i∉S:=λi hb hm=>Y i hm hb
 exact⟨h.fx,h.ar.turns k (V _ (by simp[mvL])) (V _ (by simp[mvL])),h.cat,h.wl,k.blk h.lk (I _ h.fx.bl),h.sn,h.ss.turns k (V _ (by simp[mvL])),λv O=>k.blk (h.rk v O) (I _ (h.fx.bb v O)),h.rn,λv O=>(h.rs v O).turns k (V _ (h.fx.qbm O)),
  λv O=>k.cell (h.cR v O) (I _ h.fx.br),λt H=>k.cell (h.cL t H) (I _ h.fx.bL),λt i H hi=>k.cell (h.cP t i H hi) (I _ (h.fx.bu t H)),λt i H hi=>k.cell (h.cS t i H hi) (I _ (h.fx.bu t H)),λi hb=>Nat.lt_of_lt_of_le (h.bd i hb) k.size⟩
def aV.below(h:aV B w x T bud s m)(k:Below w.heap.size w w'):aV B w' x T bud s m:=h.turns (S:=[]) (aa.of_below k) ahC ahC
def aV.new(h:aV B w x T bud s m):¬B w.heap.size/\w.heap.size∉mvL x T:=by
 refine⟨λhb=>absurd (h.bd _ hb) (Nat.lt_irrefl _),λhm=>?_⟩;unfold mvL at hm;have h1:=h.ar.blk.lt;have H:=h.ar.wds.lt;have I:=h.ss.lt;rcases List.mem_append.1 hm with hm|hm
 .simp at hm;omega
 .obtain⟨v,O,e⟩:=List.mem_map.1 hm;have:=(h.rs v (List.mem_range.1 O)).lt;omega
def aV.rg(h:aV B w x T bud s m)(O:v<T.np):cZ w (x.lb v) x.a x.g (x.qb v) ((dy m.W v).length+1) ⟨s,m.P v⟩:=by have f:=h.fx;obtain⟨H,I,e3,e4⟩:=f.lm (f.bb v O);exact⟨h.ar,h.rk v O,h.rs v O,H,I,e4 v O,f.va v O,f.vg v O,by show(m.P v).length<=32;rw[h.rn v O];exact f.v32 v O⟩
def aV.rgTurn(h:aV B w x T bud s m)(O:v<T.np){X:List Int}{V:List Sp}(I:cZ w' (x.lb v) x.a x.g (x.qb v) ((dy m.W v).length+1) ⟨s',V⟩)(hc:s'.W=dy (aY m.W v X) T.np)(hX:X.length=2*T.nv v+1)(hP:V.length=T.nv v)(k:aa [x.a,x.g,x.qb v] w w'):aV B w' x T bud s' {m with W:=aY m.W v X,P:=aY m.P v V}:=by
  have f:=h.fx;have hB:∀i,B i->i∉[x.a,x.g,x.qb v]:=λi hb=>by obtain⟨e1,e2,e3,e4⟩:=f.lm hb;simp[e1,e2,e4 v O]
  have hq:x.q∉[x.a,x.g,x.qb v]:=by simp only[List.mem_cons,List.not_mem_nil,or_false,not_or];exact⟨f.qa,f.qg,λe=>f.vq v O e.symm⟩
  have hl:∀u,(dy (aY m.W v X) u).length=(dy m.W u).length:=λu=>sK u λy _=>by
    by_cases e:y=v;. subst e;rw[aX,hX,h.wl y O]
    . rw[aZ _ _ e]
  refine⟨f,I.ar,hc,λu H=>?_,k.blk h.lk (hB _ f.bl),h.sn,h.ss.turns k hq,λu H=>?_,λu H=>?_,λu H=>?_,
    λu H=>k.cell (h.cR u H) (hB _ f.br),λt Y=>k.cell (h.cL t Y) (hB _ f.bL),λt i Y hi=>k.cell (h.cP t i Y hi) (hB _ (f.bu t Y)),λt i Y hi=>k.cell (h.cS t i Y hi) (hB _ (f.bu t Y)),λi hb=>Nat.lt_of_lt_of_le (h.bd i hb) k.size⟩
  . show(aY m.W v X u).length=_;by_cases e:u=v;. subst e;rw[aX];exact hX
    . rw[aZ _ _ e];exact h.wl u H
  . show Blk w' (x.lb u) _ #[_,J ((dy (aY m.W v X) u).length+1),.slice _ (aY m.P v V u).length (aY m.P v V u).length];rw[hl u];by_cases e:u=v;. subst e;rw[aX];exact I.lk
    . rw[aZ _ _ e];exact k.blk (h.rk u H) (hB _ (f.bb u H))
  . show(aY m.P v V u).length=_;by_cases e:u=v;. subst e;rw[aX];exact hP
    . rw[aZ _ _ e];exact h.rn u H
  . show dD w' (x.qb u) (aY m.P v V u);by_cases e:u=v;. subst e;rw[aX];exact I.sp
    . rw[aZ _ _ e];exact(h.rs u H).turns k (by simp only[List.mem_cons,List.not_mem_nil,or_false,not_or];exact⟨f.va u H,f.vg u H,λe'=>e (f.inj u v H O e')⟩)
def aV.spTurn(h:aV B w x T bud s m){V:List Sp}(hs:dD w' x.q V)(Y:V.length=T.n)(k:aa [x.q] w w'):aV B w' x T bud s {m with S:=V}:=by
 have f:=h.fx;have I:∀i,B i->i∉[x.q]:=λi hb=>by simp[(f.lm hb).2.2.1]
 exact⟨f,h.ar.turns k (by simpa using λe=>f.qa e.symm) (by simpa using λe=>f.qg e.symm),h.cat,h.wl,k.blk h.lk (I _ f.bl),Y,hs,λv O=>k.blk (h.rk v O) (I _ (f.bb v O)),h.rn,λv O=>(h.rs v O).turns k (by simpa using f.vq v O),
  λv O=>k.cell (h.cR v O) (I _ f.br),λt H=>k.cell (h.cL t H) (I _ f.bL),λt i H hi=>k.cell (h.cP t i H hi) (I _ (f.bu t H)),λt i H hi=>k.cell (h.cS t i H hi) (I _ (f.bu t H)),λi hb=>Nat.lt_of_lt_of_le (h.bd i hb) k.size⟩
def aV.l0(k:aV B w x T bud s m):w.cell? x.l=some (J bud):=k.lk.cell 0
def aV.l2(k:aV B w x T bud s m):Z w x.l 2 (slice (some ⟨x.bL,x.oL,none⟩) T.n x.kL):=k.lk.cell 2
def aV.l3(k:aV B w x T bud s m):Z w x.l 3 (slice (some ⟨x.q,0,none⟩) T.n T.n):=k.lk.cell 3
def jf(k:aV B w x T bud s m):E 255 #[↑x.l] w λe w'=>e= returned (J T.n)/\w=w':=by have c5:=k.l3;clear k;go_enter func255,ntmps255;exact aaa
def j3(k:aV B w x T bud s m)(i:Int):E 253 #[↑x.l,J i] w λe w'=>e= returned (aF (getS m.S i))/\Below w.heap.size w w':=by
  have HN:=k.fx.n32;have O:=k.sn;by_cases I:okI m.S i;. have h:=dL I;obtain⟨p,mP⟩:=LE (getS m.S i);rw[<-mP]at h ⊢;have c2:=k.l3;have a0:=ST (k.ss.cell h 0 _ rfl);have a1:=k.ss.cell h 1 _ rfl;have a2:=k.ss.cell h 2 _ rfl;have a3:=k.ss.cell h 3 _ rfl;obtain⟨V,h1⟩:=I;rw[O]at h1;obtain⟨n,rfl⟩:=Int.eq_ofNat_of_zero_le V;simp only[Int.toNat_natCast]at a0 a1 a2 a3;have Kl:=k.lk.lt;have Kp:=k.ss.lt;refine aju ?_;intro t2 Y;have t4:n<T.n:=(by omega);have H:Kq (aV B (w.alloc (cells #[J 0,J 0,J 0,J 0] 113)) x T bud s m):=qh (k.below ((Below.refl _ _).alloc (Nat.le_refl _) _));clear k h mP V h1 O;go_enter func253,ntmps253;go_wp2_with (go_at_call 255;refine(jf H.o).mono ?_;rintro e w' ⟨rfl,rfl⟩);exact bodyPost_ret (results_cell_row ahF _ _ w.heap.size 113 _ (0,0) _ ahF (heap_alloc_new w _) Tryz.underlying113 rfl ahE) rfl ⟨rfl,(Below.refl _ _).alloc (Nat.le_refl _) _⟩
  . have H:Kq (aV B (w.alloc (cells #[J 0,J 0,J 0,J 0] 113)) x T bud s m):=qh (k.below ((Below.refl _ _).alloc (Nat.le_refl _) _));rw[dE I];unfold okI at I;rw[O]at I;clear k O;by_cases V:i<0;. go_enter func253,ntmps253;go_wp2;exact bodyPost_ret (results_cell_row ahF _ _ w.heap.size 113 _ (0,0) _ ahF (heap_alloc_new w _) Tryz.underlying113 rfl ahE) rfl ⟨rfl,(Below.refl _ _).alloc (Nat.le_refl _) _⟩
    . have Y:((T.n:Nat):Int)<=i:=(by omega);clear I;go_enter func253,ntmps253;go_wp2_with (go_at_call 255;refine(jf H.o).mono ?_;rintro e w' ⟨rfl,rfl⟩);exact bodyPost_ret (results_cell_row ahF _ _ w.heap.size 113 _ (0,0) _ ahF (heap_alloc_new w _) Tryz.underlying113 rfl ahE) rfl ⟨rfl,(Below.refl _ _).alloc (Nat.le_refl _) _⟩
end
end
section
open Go.RowKit
variable{S:List Sp}
def fY{α:Type}(f:Nat->α)(v:Nat):aY f v (f v)=f:=by
 funext u;unfold aY;split;.rename_i h;rw[h]
 .rfl
def dQ(h:j<S.length):getS S (j:Int)=sv S j:=by unfold getS sv;rw[if_pos ahB,Int.toNat_natCast]
def gK(h:j<S.length):S[j]? =some (sv S j):=by unfold sv;rw[List.getD_eq_getElem?_getD,List.getElem?_eq_getElem h];rfl
section
variable{x:Hx}{T:HTr}{s s':Ar}{m:Hm}
def aV.sub1(h:aV B w x T bud s m)(O:v<T.np):∀i∈[x.qb v],i∈mvL x T:=by intro i hi;simp only[List.mem_cons,List.not_mem_nil,or_false]at hi;rw[hi];exact h.fx.qbm O
def aV.sub3(h:aV B w x T bud s m)(O:v<T.np):∀i∈[x.a,x.g,x.qb v],i∈mvL x T:=by
 intro i hi;simp only[List.mem_cons,List.not_mem_nil,or_false]at hi;rcases hi with rfl|rfl|rfl
 .simp[mvL]
 .simp[mvL]
 .exact h.fx.qbm O
def aV.spot1(h:aV B w x T bud s m)(O:v<T.np)(H:j<T.nv v):E 257 #[pointer (some ⟨x.lb v,0,none⟩),J j] w λe w'=>e= returned (aF (m.sp v j))/\Below w.heap.size w w':=by have e:getS (m.P v) (j:Int)=m.sp v j:=dQ (by rw[h.rn v O];exact H);rw[<-e];exact pw (h.rg O) j
def aV.put1(h:aV B w x T bud s m)(O:v<T.np){H:List Sp}(I:cZ w' (x.lb v) x.a x.g (x.qb v) ((dy m.W v).length+1) ⟨s,H⟩)(V:H.length=T.nv v)(k:aa [x.qb v] w w'):aV B w' x T bud s {m with P:=aY m.P v H}:=by have:=h.rgTurn O (X:=m.W v) I (by rw[fY];exact h.cat) (h.wl v O) V (k.mono ahC);rw[fY]at this;exact this
def H1(B:Nat->Prop)(w:World)(x:Hx)(T:HTr)(bud:Int)(s:Ar)(m':Hm)(e:Ending)(w':World):Prop:=∃b,e= returned (.bool b)/\aV B w' x T bud s m'/\aa (mvL x T) w w'
def aV.ask1(h:aV B w x T bud s m)(O:v<T.np)(Y:j<T.nv v):E 256 #[pointer (some ⟨x.lb v,0,none⟩),J j] w (H1 B w x T bud s (iL m v j)):=by
 have H:=h.rn v O;have V:j<(m.P v).length:=by omega
 refine(Dq (h.rg O) j).mono ?_;rintro e w' ⟨rfl,I,t⟩;refine⟨_,rfl,?_,t.mono (h.sub1 O)⟩;unfold iL;have e:getS (m.P v) (j:Int)=m.sp v j:=dQ V;unfold dh at I;simp only[e]at I;by_cases c:(m.sp v j).pc=0;.rw[if_pos ⟨⟨by omega,by show((j:Nat):Int)<(m.P v).length;omega⟩,c⟩]at I;rw[if_pos c];exact h.put1 O I (by simp[H]) t
 .rw[if_neg (λh=>c h.2)]at I;rw[if_neg c];have:=h.put1 O I H t;rw[fY]at this;exact this
def aV.wth0(h:aV B w x T bud s m)(O:v<T.np)(Y:j<T.nv v)(u c:Int)(I:cZ w' (x.lb v) x.a x.g (x.qb v) ((dy m.W v).length+1) (ik ⟨s,m.P v⟩ j u c).1)(t:aa [x.qb v] w w'):aV B w' x T bud s (eT m v j u c):=by
 have H:=h.rn v O;have V:j<(m.P v).length:=by omega
 unfold eT;have e:getS (m.P v) (j:Int)=m.sp v j:=dQ V;unfold ik at I;simp only[e]at I;by_cases cc:(m.sp v j).pc=10;.rw[if_pos ⟨⟨by omega,by show((j:Nat):Int)<(m.P v).length;omega⟩,cc⟩]at I;rw[if_pos cc];exact h.put1 O I (by simp[H]) t
 .rw[if_neg (λh=>cc h.2)]at I;rw[if_neg cc];have:=h.put1 O I H t;rw[fY]at this;exact this
def aV.leave1(h:aV B w x T bud s m)(O:v<T.np)(H:j<T.nv v)(c:Int):E 264 #[pointer (some ⟨x.lb v,0,none⟩),J j,J c] w (H1 B w x T bud s (eT m v j 11 c)):=
 (yW (h.rg O) j c).mono λ_ _ ⟨e,I,t⟩=>⟨_,e,h.wth0 O H 11 c I t,t.mono (h.sub1 O)⟩
def aV.pass1(h:aV B w x T bud s m)(O:v<T.np)(H:j<T.nv v)(c:Int):E 265 #[pointer (some ⟨x.lb v,0,none⟩),J j,J c] w (H1 B w x T bud s (eT m v j 15 c)):=
 (CL (h.rg O) j c).mono λ_ _ ⟨e,I,t⟩=>⟨_,e,h.wth0 O H 15 c I t,t.mono (h.sub1 O)⟩
def RtS.pcO{W:List Int}(r:RtS n W S):∀p∈S,GG p:=by
 intro p H;obtain⟨i,hi⟩:=List.getElem?_of_mem H;have h:i<S.length:=(List.getElem?_eq_some_iff.1 hi).1;have e:sv S i=p:=by rw[gK h]at hi;injection hi
 rw[<-e];exact r.i.pcs i (by rw[<-r.len];exact h)
def zF(s:Ar)(t y:Int)(p:Sp):(de s t y p).1.W.length=s.W.length:=by
 unfold de;split
 .unfold iU;repeat' split
  all_goals simp only[ay,dP,aQ,bM]
 .unfold eK;repeat' split
  all_goals simp only[ay,gW,aQ,bM]
  all_goals (try split)<;>simp only[bM]
def S1(B:Nat->Prop)(w:World)(x:Hx)(T:HTr)(bud:Int)(s s':Ar)(m':Hm)(b:Bool)(e:Ending)(w':World):Prop:=e= returned (.bool b)/\aV B w' x T bud s' m'/\s'.ops<=s.ops+1/\aa (mvL x T) w w'
def BU(s:Ar)(m:Hm)(v j:Nat):Ar:=(de s (((dy m.W v).length:Nat)+1) ((j:Int)+1) (m.sp v j)).1
def aV.step1(h:aV B w x T bud s m)(O:v<T.np)(hj:j<T.nv v)(I:RtS (T.nv v) (m.W v) (m.P v))(V:s.ops+1<=1000000000000):E 259 #[pointer (some ⟨x.lb v,0,none⟩),J j] w
      (S1 B w x T bud s (if (m.sp v j).pc=0\/(m.sp v j).pc=10 then s else BU s m v j) (if (m.sp v j).pc=0\/(m.sp v j).pc=10 then m else rstH m v j) (if (m.sp v j).pc=0\/(m.sp v j).pc=10 then false else decide (((rstH m v j).sp v j).pc=0\/((rstH m v j).sp v j).pc=10))):=by
  have hl:=h.rn v O;have Y:j<(m.P v).length:=by omega
  have e0:getS (m.P v) (j:Int)=m.sp v j:=dQ Y;refine(C3 (h.rg O) j V I.pcO).mono ?_;rintro e w' ⟨rfl,hg,t⟩;unfold mL at hg ⊢;simp only[e0]at hg ⊢;by_cases c:(m.sp v j).pc=0\/(m.sp v j).pc=10
  . rw[if_pos c,if_pos c,if_pos c]
    have H:¬(okI (m.P v) (j:Int)/\(m.sp v j).pc≠0/\(m.sp v j).pc≠10):=λh=>by
      rcases c with c|c
      . exact h.2.1 c
      . exact h.2.2 c
    rw[if_neg H]at hg ⊢;refine⟨rfl,?_,by omega,t.mono (h.sub3 O)⟩;have:=h.rgTurn O (X:=m.W v) hg (by rw[fY];exact h.cat) (h.wl v O) hl t;rw[fY,fY]at this;exact this
  . rw[if_neg c,if_neg c,if_neg c];have H:okI (m.P v) (j:Int)/\(m.sp v j).pc≠0/\(m.sp v j).pc≠10:=⟨⟨by omega,by omega⟩,λe=>c (.inl e),λe=>c (.inr e)⟩;rw[if_pos H]at hg ⊢;simp only[Int.toNat_natCast]at hg;obtain⟨C,h1,h2⟩:=nY m.W v (T.np-(v+1));rw[show v+1+(T.np-(v+1))=T.np by omega]at h1 h2
    have hA:(dy m.W v).length<=5000:=by
      have f:=h.fx;have:=qV (W:=m.W) (b:=65) v λu hu=>by have:=h.wl u ahB;have:=f.v32 u ahB;omega
      have:=f.p32;omega
    have hq:=I.reach hj;have Kj:(m.sp v j)=sv (m.P v) j:=rfl;obtain⟨g1,g2⟩:=zG (s:=s) (A:=dy m.W v) (W:=m.W v) (C:=C) (n:=T.nv v) (h.cat.trans h1) (h.wl v O) (h.fx.v32 v O) hA (x:=(j:Int)+1) ⟨by omega,by omega⟩ (p:=m.sp v j) hq.1 hq.2;rw[g2]at hg ⊢;have hs:(rstH m v j).sp v j=(de (arW (m.W v)) 1 ((j:Int)+1) (m.sp v j)).2:=(by unfold Hm.sp rstH;show sv (aY m.P v _ v) j=_;rw[aX,be,if_pos ⟨rfl,Y⟩];rfl);rw[hs];refine⟨rfl,?_,qE s _ _ _,t.mono (h.sub3 O)⟩;exact h.rgTurn O hg (by unfold BU;rw[g1,h2]) (by rw[zF];exact h.wl v O) (by simp[hl]) t
end
end
section
open Go.RowKit
section
variable{x:Hx}{T:HTr}{s s':Ar}{m:Hm}
def lh(T:HTr)(m:Hm)(i:Int):Hm:=if okI m.S i then qc T m i.toNat else m
def aV.sc(h:aV B w x T bud s m){p:Sp}(H:m.S[n]? =some p):Z w x.q (n*4) (J p.pc)/\Z w x.q (n*4+1) (J p.a)/\Z w x.q (n*4+2) (J p.b)/\Z w x.q (n*4+3) (J p.c):=by have a0:=ST (h.ss.cell H 0 _ rfl);exact⟨a0,h.ss.cell H 1 _ rfl,h.ss.cell H 2 _ rfl,h.ss.cell H 3 _ rfl⟩
def aV.put4(h:aV B w x T bud s m)(hn:n<T.n)(p':Sp):aV B ((((w.setCell ⟨x.q,n*4,none⟩ (J p'.pc)).setCell ⟨x.q,n*4+1,none⟩ (J p'.a)).setCell ⟨x.q,n*4+2,none⟩ (J p'.b)).setCell ⟨x.q,n*4+3,none⟩ (J p'.c)) x T bud s (m.thr n p'):=by
 have H:n<m.S.length:=by rw[h.sn];exact hn
 have O:=gK H;obtain⟨p,e⟩:=LE (sv m.S n);rw[<-e]at O;have g:∀(S:List Sp) (y:Sp),n<S.length->(S.set n y)[n]? =some y:=λS y h=>by simp[h]
 have h1:=h.ss.put O (j:=0) (u:= J p'.pc) (p':=⟨p'.pc,p.a,p.b,p.c⟩) ahD rfl;have V:=h1.put (g _ _ H) (j:=1) (u:= J p'.a) (p':=⟨p'.pc,p'.a,p.b,p.c⟩) ahD rfl;have Y:=V.put (g _ _ (by simpa using H)) (j:=2) (u:= J p'.b) (p':=⟨p'.pc,p'.a,p'.b,p.c⟩) ahD rfl;have I:=Y.put (g _ _ (by simpa using H)) (j:=3) (u:= J p'.c) (p':=p') ahD rfl;simp only[List.set_set,Nat.add_zero]at I
 have t:aa [x.q] w ((((w.setCell ⟨x.q,n*4,none⟩ (J p'.pc)).setCell ⟨x.q,n*4+1,none⟩ (J p'.a)).setCell ⟨x.q,n*4+2,none⟩ (J p'.b)).setCell ⟨x.q,n*4+3,none⟩ (J p'.c)):=
  ((((aa.refl _ w).setCell (.inl ahC) _).setCell (.inl ahC) _).setCell (.inl ahC) _).setCell (.inl ahC) _
 exact h.spTurn I (by simp[h.sn]) t
def dc{S:List Nat}{q:Nat}(k:aa S w w')(h:q∈S)(i:Nat)(u:Value):aa S w (w'.setCell ⟨q,i,none⟩ u):=k.setCell (.inl h) _
def q_mv(x:Hx)(T:HTr):x.q∈mvL x T:=by simp[mvL]
def aV.alloc(k:aV B w x T bud s m)(o:Obj):aV B (w.alloc o) x T bud s m:=k.below ((Below.refl _ _).alloc (Nat.le_refl _) _)
def Ad(B:Nat->Prop)(w:World)(x:Hx)(T:HTr)(bud:Int)(s:Ar)(m:Hm)(i:Int)(e:Ending)(w':World):Prop:=e= returned (bool (decide (okI m.S i/\(getS m.S i).pc=0)))/\aV B w' x T bud s (lh T m i)/\aa (mvL x T) w w'
def Hg(k:aV B w x T bud s m)(hT:T.Ok)(i:Int):E 250 #[↑x.l,J i] w (Ad B w x T bud s m i):=by
 have H:=qh k;have HN:=k.fx.n32;have Ks:=k.sn;have hd:=hT.d1;have Q9:=k.fx.d5;by_cases O:okI m.S i
 .have hp:=dL O;obtain⟨p,V⟩:=LE (getS m.S i);rw[<-V]at hp;have c2:=k.l3;have a0:=ST (k.ss.cell hp 0 _ rfl);obtain⟨I,h1⟩:=id O;rw[Ks]at h1;obtain⟨n,rfl⟩:=Int.eq_ofNat_of_zero_le I;simp only[Int.toNat_natCast]at a0 hp;refine aju ?_;intro t2 Y;have t4:n<T.n:=by omega
  have Kl:=k.lk.lt;have Kp:=k.ss.lt;by_cases I:p.pc=0
  .have y0:(p.pc==0)=true:=(by simpa using I);have y1:(p.pc !=0)=false:=(by simpa using I);have M9:=k.l2;have cL:=k.cL n t4;have cP:=k.cP n 0 t4 ahB;have cS:=k.cS n 0 t4 ahB;simp only[Nat.zero_mul,Nat.add_zero]at cP cS;have g1:(0:Int)<T.D:=(by omega);have g2:0<T.D:=by omega
   have HA:Kq (lh T m n=(iL m (T.pl n 0) (T.sl n 0)).thr n ⟨1,0,0,0⟩):=qh (by
    unfold lh qc
    rw[if_pos O,Int.toNat_natCast,<-dQ ahB,<-V,if_pos I])
   have HR:Kq (decide (okI m.S n/\(getS m.S n).pc=0)=true):=qh (decide_eq_true ⟨O,by rw[<-V];exact I⟩);have HV:=qh (And.intro (hT.plt n 0 t4 ahB) (hT.slt n 0 t4 ahB));have Mg:=qh hp;clear k hp V I h1 O;go_enter func250,ntmps250;go_wp2_with (go_at_call 255;refine(jf H.o).mono ?_;rintro e w' ⟨rfl,rfl⟩);refine((H.o.alloc _).ask1 HV.o.1 HV.o.2).mono ?_;rintro en w1 ⟨b,rfl,h1,t1⟩;have c2:=h1.l3;have f1:∀j,w1.frozen? ⟨x.q,j,none⟩=false:=λj=>h1.ss.free j;obtain⟨b0,b1,b2,b3⟩:=h1.sc (n:=n) (p:=p) (by rw[FC];exact Mg.o);have H1:=qh (And.intro h1 (aa.trans ((aa.refl _ w).alloc _) t1));have Kp:=h1.ss.lt;clear h1 t1;go_wp2;go_ret;unfold Ad;rw[HR.o,HA.o];exact⟨rfl,H1.o.1.put4 t4 ⟨1,0,0,0⟩,dc (dc (dc (dc H1.o.2 (q_mv x T) _ _) (q_mv x T) _ _) (q_mv x T) _ _) (q_mv x T) _ _⟩
  .have y1:(p.pc !=0)=true:=by simpa using I
   have HA:Kq (lh T m n=m):=qh (by
    unfold lh qc
    rw[if_pos O,Int.toNat_natCast,<-dQ ahB,<-V,if_neg I])
   have HR:Kq (decide (okI m.S n/\(getS m.S n).pc=0)=false):=qh (decide_eq_false λh=>I (by rw[V];exact h.2));clear k hp V I h1 O;exact abE
 .have HA:Kq (lh T m i=m):=qh (by unfold lh;rw[if_neg O]);have HR:Kq (decide (okI m.S i/\(getS m.S i).pc=0)=false):=qh (decide_eq_false λh=>O h.1);unfold okI at O;rw[Ks]at O;clear k;by_cases I:i<0;.go_enter func250,ntmps250;go_wp2;exact abF
  .have Y:((T.n:Nat):Int)<=i:=(by omega);clear O;exact abE
end
end
section
open Go.RowKit
section
variable{x:Hx}{T:HTr}{s s':Ar}{m:Hm}
def pU(m:Hm)(v j n:Nat)(u c:Int)(p:Sp):eT (m.thr n p) v j u c=(eT m v j u c).thr n p:=by unfold eT;have e:(m.thr n p).sp v j=m.sp v j:=rfl;rw[e];split<;>rfl
def As(m:Hm)(v j n:Nat)(p:Sp):iL (m.thr n p) v j=(iL m v j).thr n p:=by unfold iL;have e:(m.thr n p).sp v j=m.sp v j:=rfl;rw[e];split<;>rfl
def nH(m:Hm)(n:Nat)(p p':Sp):(m.thr n p).thr n p'=m.thr n p':=by unfold Hm.thr;simp
def aV.put1c(h:aV B w x T bud s m){p p':Sp}(O:m.S[n]? =some p)(I:j<4)(H:(bi p).set j u=bi p'):aV B (w.setCell ⟨x.q,n*4+j,none⟩ u) x T bud s (m.thr n p'):=
 h.spTurn (h.ss.put O I H) (by simp[h.sn]) ((aa.refl _ w).setCell (.inl ahC) _)
def aV.gt(h:aV B w x T bud s m)(H:n<T.n)(p:Sp):(m.thr n p).S[n]? =some p:=by
 have:n<m.S.length:=by rw[h.sn];exact H
 show(m.S.set n p)[n]? =some p;simp[this]
def aV.drewN(h:aV B w x T bud s m)(n:Nat):aV B (w.drewN n) x T bud s m:=h.below (Qt.below ⟨n,rfl⟩ _)
def VD(B:Nat->Prop)(w:World)(x:Hx)(T:HTr)(bud:Int)(s:Ar)(m':Hm)(e:Ending)(w':World):Prop:=e= returned (tuple #[])/\aV B w' x T bud s m'/\aa (mvL x T) w w'
def aV.lev(h:aV B w x T bud s m)(H:n<T.n)(hc:c<T.D):Z w x.l 2 (slice (some ⟨x.bL,x.oL,none⟩) T.n x.kL)/\Z w x.bL (x.oL+n) (slice (some ⟨x.ub n,x.uo n,none⟩) T.D (x.uk n))/\Z w (x.ub n) (x.uo n+c*2) (pointer (some ⟨x.lb (T.pl n c),0,none⟩))/\Z w (x.ub n) (x.uo n+c*2+1) (J (T.sl n c)):=⟨h.l2,h.cL n H,h.cP n c H hc,h.cS n c H hc⟩
def aV.lt4(h:aV B w x T bud s m)(H:n<T.n)(hc:c<T.D):x.l<w.heap.size/\x.bL<w.heap.size/\x.ub n<w.heap.size/\x.q<w.heap.size:=⟨h.lk.lt,aI (h.cL n H),aI (h.cP n c H hc),h.ss.lt⟩
def FZ(k:aV B w x T bud s m)(hT:T.Ok)(I:n<T.n)(hc:(sv m.S n).c=c)(K9:c<T.D):E 261 #[↑x.l,J n] w (VD B w x T bud s (jK T m n c)):=by
 refine ajZ ?_;intro H HN Q9 Ks p mP hp;rw[<-mP]at hc;have c3:=k.l3;obtain⟨b0,b1,b2,b3⟩:=k.sc hp;rw[hc]at b3;have f1:∀j,w.frozen? ⟨x.q,j,none⟩=false:=λj=>k.ss.free j;refine aju ?_;intro t2 Y;have V:=qh (And.intro hp (And.intro mP hc));by_cases h0:c=0
 .subst h0;clear k hp mP hc;go_enter func261,ntmps261;go_wp2;go_end0;have e:jK T m n 0=m.thr n {p with pc:=0}:=by unfold jK;rw[if_pos rfl,<-V.o.2.1]
  rw[e];exact⟨rfl,H.o.put1c V.o.1 (j:=0) ahD rfl,dc (aa.refl _ w) (q_mv x T) _ _⟩
 .obtain⟨d,rfl⟩:∃d,c=d+1:=⟨c-1,by omega⟩;have O:d<T.D:=by omega
  obtain⟨M9,cL,cP,cS⟩:=k.lev I O;have y0:(((d+1:Nat):Int)==0)=false:=by simp;omega
  clear k hp mP hc h0;go_enter func261,ntmps261;go_wp2;have h:=(H.o.put1c V.o.1 (j:=3) (u:= J d) (p':={p with c:=d}) ahD rfl).put1c (H.o.gt I _) (j:=0) (u:= J 12) (p':={p with pc:=12,c:=d}) ahD rfl;rw[nH]at h;simp only[Nat.add_zero]at h;have Le:=dc (dc (aa.refl (mvL x T) w) (q_mv x T) (n*4+3) (J d)) (q_mv x T) (n*4) (J 12);obtain⟨w2,Ni⟩:=LE ((w.setCell ⟨x.q,n*4+3,none⟩ (J d)).setCell ⟨x.q,n*4,none⟩ (J 12));rw[<-Ni]at h Le ⊢;have H2:=qh (And.intro h Le);clear Ni b0 b1 b2 b3 c3 M9 cL cP cS f1;obtain⟨M9,cL,cP,cS⟩:=h.lev I O;obtain⟨_,_,_,b3⟩:=h.sc (H.o.gt I _);obtain⟨z1,z2,z3,z4⟩:=h.lt4 I O;have HV:=qh (And.intro (hT.plt n d I O) (hT.slt n d I O));clear h Le;go_region;all_goals go_wp2_with fail;refine(((H2.o.1.alloc _).drewN _).leave1 HV.o.1 HV.o.2 (-1)).mono ?_;rintro en w3 ⟨b,rfl,h3,Y⟩;have H3:=qh (And.intro h3 (H2.o.2.trans (((aa.refl _ _).alloc _).drewN _ |>.trans Y)));clear h3 Y;go_wp2;go_end0;have e:jK T m n (d+1)=eT (m.thr n {p with pc:=12,c:=d}) (T.pl n d) (T.sl n d) 11 (-1):=(by unfold jK;rw[if_neg ahB,pU,<-V.o.2.1];have q:((d+1:Nat):Int)-1=d:=(by omega);rw[q];rfl);unfold VD;rw[e];exact⟨rfl,H3.o.1,H3.o.2⟩
end
end
section
open Go.RowKit
def xC(a b c d:Int)(w:World):(Instr.field 113 (agg #[J a,J b,J c,J d]) 1).run prog w= .ok (J b) w:=by kernel_rfl
def DZ(a b c d:Int)(w:World):(Instr.field 113 (agg #[J a,J b,J c,J d]) 2).run prog w= .ok (J c) w:=by kernel_rfl
def aa.transNew{M S:List Nat}{a b c:World}(h:aa M a b)(k:aa S b c)(H:∀i∈S,a.heap.size<=i):aa M a c:=
 ⟨k.os.trans h.os,k.tape.trans h.tape,k.output.trans h.output,Nat.le_trans h.size k.size,λi hi I=>(k.block i (Nat.lt_of_lt_of_le hi h.size) (λhm=>absurd (H i hm) ahB)).trans (h.block i hi I)⟩
section
variable{x:Hx}{T:HTr}{s s':Ar}{m:Hm}
def FV(k:aV B w x T bud s m)(hT:T.Ok)(I:n<T.n)(hc:(sv m.S n).c=c)(K9:c<T.D):E 260 #[↑x.l,J n] w (VD B w x T bud s (jJ T m n c)):=by
 have LI:=DZ;refine ajZ ?_;intro H HN Q9 Ks p mP hp;rw[<-mP]at hc;have Mg:=qh (And.intro hp (And.intro mP hc));have c3:=k.l3;obtain⟨b0,b1,b2,b3⟩:=k.sc hp;rw[hc]at b3;obtain⟨M9,cL,cP,cS⟩:=k.lev I K9;obtain⟨z1,z2,z3,z4⟩:=k.lt4 I K9;have HV:=qh (And.intro (hT.plt n c I K9) (hT.slt n c I K9));obtain⟨u,hu⟩:=LE (m.sp (T.pl n c) (T.sl n c));have HU:=qh hu;refine aju ?_;intro t2 Y;have g2:¬((T.D:Nat):Int)<=(c:Int):=by omega
 by_cases V:u.b=0\/c+1=T.D
 .have HE:Kq (jJ T m n c=m.thr n {p with pc:=10}):=qh (by unfold jJ;rw[if_pos (by rw[<-hu];exact V),<-mP]);clear k hp mP hc hu;go_enter func260,ntmps260;go_wp2;go_region
  all_goals
   go_wp2_with fail;refine Pi (((H.o.alloc _).drewN _).spot1 HV.o.1 HV.o.2) λw3 O=>?_;rw[<-HU.o];unfold aF;have h:=((H.o.alloc _).drewN _).below O;obtain⟨b0,b1,b2,b3⟩:=h.sc Mg.o.1;rw[Mg.o.2.2]at b3;have f1:∀j,w3.frozen? ⟨x.q,j,none⟩=false:=λj=>h.ss.free j;have H3:=qh (And.intro h (((aa.refl (mvL x T) _).alloc _).drewN _ |>.trans (aa.of_below O)));clear h O;by_cases hb:u.b=0;.have y:(u.b==0)=true:=(by simpa using hb);clear V hb;exact abG
   .have y:(u.b==0)=false:=(by simpa using hb);have hD:c+1=T.D:=V.resolve_left hb;have y2:((c:Int)==(T.D:Int)-1)=true:=(by simp;omega);clear V hb hD;exact abG
 .have Ub:c+1<T.D:=by omega
  have y:(u.b==0)=false:=by simpa using λe=>V (.inl e)
  have y2:((c:Int)==(T.D:Int)-1)=false:=by simp;omega
  have HE:Kq (jJ T m n c=iL (m.thr n {p with c:=(c:Int)+1}) (T.pl n (c+1)) (T.sl n (c+1))):=qh (by unfold jJ;rw[if_neg (by rw[<-hu];exact V),As,<-mP]);have VE:=qh (And.intro (hT.plt n (c+1) I Ub) (hT.slt n (c+1) I Ub));clear k hp mP hc hu V;go_enter func260,ntmps260;go_wp2;go_region;all_goals go_wp2_with fail;refine Pi (((H.o.alloc _).drewN _).spot1 HV.o.1 HV.o.2) λw3 O=>?_;rw[<-HU.o];unfold aF;have h:=((H.o.alloc _).drewN _).below O;have hx:Blk w3 w.heap.size 255 #[pointer (some ⟨x.lb (T.pl n c),0,none⟩),J (T.sl n c)]:=(aa.of_below (S:=[]) O).blk (heap_alloc_new w _) ahC;clear b0 b1 b2 b3 M9 cL cP cS c3;obtain⟨b0,b1,b2,b3⟩:=h.sc Mg.o.1;rw[Mg.o.2.2]at b3;have f1:∀j,w3.frozen? ⟨x.q,j,none⟩=false:=λj=>h.ss.free j;have h4:=h.put1c Mg.o.1 (j:=3) (u:= J ((c:Int)+1)) (p':={p with c:=(c:Int)+1}) ahD rfl;have UB:x.q≠w.heap.size:=(by omega);have t4:=dc (((aa.refl (mvL x T) _).alloc _).drewN _ |>.trans (aa.of_below O)) (q_mv x T) (n*4+3) (J ((c:Int)+1));have OB:=hx.far (λe=>UB e.symm) (p:=⟨x.q,n*4+3,none⟩) (J ((c:Int)+1));have H4:=qh (And.intro h4 (And.intro t4 OB));have ab:=(h4.sc (H.o.gt I _)).2.2.2;obtain⟨M9,cL,cP,cS⟩:=h4.lev I Ub;have x0:=OB.cell 0;have x1:=OB.cell 1;have y0:=OB.free 0;have y1:=OB.free 1;clear h O h4 t4 hx OB;go_wp2_with fail;have t5:aa [w.heap.size] (w3.setCell ⟨x.q,n*4+3,none⟩ (J ((c:Int)+1))) (((w3.setCell ⟨x.q,n*4+3,none⟩ (J ((c:Int)+1))).setCell ⟨w.heap.size,0,none⟩ (pointer (some ⟨x.lb (T.pl n (c+1)),0,none⟩))).setCell ⟨w.heap.size,1,none⟩ (J (T.sl n (c+1)))):=dc (dc (aa.refl _ _) ahC _ _) ahC _ _;have h5:=H4.o.1.turns t5 (λi hi=>by simp at hi;rw[hi];exact H.o.new.1) (λi hi=>by simp at hi;rw[hi];exact H.o.new.2);refine(h5.ask1 VE.o.1 VE.o.2).mono ?_;rintro en w6 ⟨b,rfl,h6,t6⟩;have H6:=qh (And.intro h6 ((H4.o.2.1.transNew t5 λi hi=>by simp at hi;omega).trans t6));clear h5 h6 t5 t6;go_wp2;go_end0;unfold VD;rw[HE.o];exact⟨rfl,H6.o.1,H6.o.2⟩
end
end
section
open Go.RowKit
def pT{P:Program}{a:Act}{Q:Exit->Act->World->Prop}{c rest:Code}(l:Nat)(hf:findLabel c l=some rest)(first:c.wp P (Exit.jump l (λa' w'=>rest.wp P (Exit.noGoto Q) a' w') Q) a w):(Code.scope c).wp P Q a w:=by exact abk
section
variable{x:Hx}{T:HTr}{s s':Ar}{m:Hm}
def kv(T:HTr)(bud:Int)(m:Hm)(n:Nat):∀(f g k:Nat),T.D-k<=f->T.D-k<=g->k<T.D->gB T bud f m n k=gB T bud g m n k
 |0,_,k,h,_,H=>by omega
 |_+1,0,k,_,h,H=>by omega
 |f+1,g+1,k,h1,I,H=>by
  unfold gB;by_cases c:k+1=T.D;.rw[if_pos c,if_pos c]
  .rw[if_neg c,if_neg c];split;.rfl
   .exact kv T bud m n f g (k+1) ahB ahB ahB
def yn(T:HTr)(bud:Int)(m:Hm)(n:Nat)(h:k+1=T.D):gB T bud T.D m n k=(eT m (T.pl n k) (T.sl n k) 11 1).thr n {sv m.S n with pc:=12,c:=k}:=by rw[kv T bud m n T.D 1 k ahB ahB ahB];unfold gB;rw[if_pos h]
def yp(T:HTr)(bud:Int)(m:Hm)(n:Nat)(h:k+1<T.D)(O:(m.sp (T.pl n k) (T.sl n k)).a<=bud):gB T bud T.D m n k=(eT m (T.pl n k) (T.sl n k) 15 ((m.sp (T.pl n k) (T.sl n k)).a+1)).thr n {sv m.S n with pc:=11,c:=k}:=by obtain⟨d,hd⟩:∃d,T.D=d+1:=⟨T.D-1,by omega⟩;rw[kv T bud m n T.D (d+1) k ahB ahB ahB];unfold gB;rw[if_neg ahB,if_pos O]
def yo(T:HTr)(bud:Int)(m:Hm)(n:Nat)(h:k+1<T.D)(O:¬(m.sp (T.pl n k) (T.sl n k)).a<=bud):gB T bud T.D m n k=gB T bud T.D m n (k+1):=by
 rw[kv T bud m n T.D (T.D+1) k ahB ahB ahB];conv=>lhs;unfold gB
 rw[if_neg ahB,if_neg O]
def xm(k:aV B w x T bud s m)(hT:T.Ok){k0:Nat}(hn:n<T.n)(V:k0<T.D)(Q5:0<=bud/\bud<=1000)(LA:∀k,k0<=k->k<T.D->0<=(m.sp (T.pl n k) (T.sl n k)).a/\(m.sp (T.pl n k) (T.sl n k)).a<=2000):E 258 #[↑x.l,J n,J k0] w (VD B w x T bud s (gB T bud T.D m n k0)):=by
  have LI:=xC;refine ajZ ?_;intro H HN Q9 Ks p mP hp;have Mg:=qh (And.intro hp mP);have Yy:=qh LA;have c3:=k.l3;obtain⟨M9,cL,cP,cS⟩:=k.lev hn V;obtain⟨z1,z2,z3,z4⟩:=k.lt4 hn V;refine aju ?_;intro t2 Y;obtain⟨Kk,KP⟩:=Q5;clear k hp mP LA;go_enter func258,ntmps258;go_wp2;refine pT 0 rfl ?_;go_wp2;go_region
  all_goals
    go_wp2;go_step3;clear c3 M9 cL cP cS z1 z2 z3 z4;go_wp2;go_loopw [2] (λc wr=>∃(k:Nat) (z:Int),c= J k/\k<T.D/\k0<=k/\aV B wr x T bud s (m.thr n {p with c:=z})/\aa (mvL x T) w wr/\gB T bud T.D m n k=gB T bud T.D m n k0) (λc _=>T.D-(intOf c).toNat);case atStart=>refine⟨k0,p.c,rfl,V,by omega,?_,(aa.refl _ _).drewN 1,rfl⟩;have e:m.thr n {p with c:=p.c}=m:=(by unfold Hm.thr;have:m.S.set n p=m.S:=uD Mg.o.1;show({m with S:=m.S.set n p}:Hm)=m;rw[this]);rw[e];exact H.o.drewN 1
    case round=>
      obtain⟨k,z,rfl,NQ,hk,hI,ht,hE⟩:=hrel;have HW:=qh (And.intro hI (And.intro ht hE));have HV:=qh (And.intro (hT.plt n k hn NQ) (hT.slt n k hn NQ));obtain⟨u,hu⟩:=LE (m.sp (T.pl n k) (T.sl n k));have HU:=qh hu;obtain⟨M9,cL,cP,cS⟩:=hI.lev hn NQ;obtain⟨z1,z2,z3,z4⟩:=hI.lt4 hn NQ;have g2:¬((T.D:Nat):Int)<=(k:Int):=(by omega);clear hI ht hE hu;go_wp2_with fail;refine Pi ((HW.o.1.alloc _).spot1 HV.o.1 HV.o.2) λw3 k3=>?_;rw[show(m.thr n {p with c:=z}).sp (T.pl n k) (T.sl n k)=u from HU.o.symm];unfold aF;have h3:=(HW.o.1.alloc _).below k3;have hx:Blk w3 wr.heap.size 255 #[pointer (some ⟨x.lb (T.pl n k),0,none⟩),J (T.sl n k)]:=(aa.of_below (S:=[]) k3).blk (heap_alloc_new wr _) ahC;clear M9 cL cP cS;have c3:=(h3.sc (H.o.gt hn _)).2.2.2;have f1:∀j,w3.frozen? ⟨x.q,j,none⟩=false:=λj=>h3.ss.free j;have h4:=h3.put1c (H.o.gt hn _) (j:=3) (u:= J (k:Int)) (p':={p with c:=(k:Int)}) ahD rfl;rw[nH]at h4;have UB:x.q≠wr.heap.size:=(by omega);have t4:=dc (HW.o.2.1.trans (((aa.refl (mvL x T) _).alloc _).trans (aa.of_below k3))) (q_mv x T) (n*4+3) (J (k:Int));have OB:=hx.far (λe=>UB e.symm) (p:=⟨x.q,n*4+3,none⟩) (J (k:Int));have H4:=qh (And.intro h4 t4);have x0:=OB.cell 0;have x1:=OB.cell 1;have l0:=h4.l0;clear h3 k3 h4 t4 hx OB;by_cases hD:k+1=T.D;. have y:((k:Int)==(T.D:Int)-1)=true:=(by simp;omega);have HE:=qh (HW.o.2.2.symm.trans (yn T bud m n hD));clear hD;go_wp2_with fail;refine(H4.o.1.leave1 HV.o.1 HV.o.2 1).mono ?_;rintro en w5 ⟨b,rfl,h,t5⟩;rw[pU]at h;have c0:=(h.sc (p:={p with c:=(k:Int)}) aio).1;have f0:∀j,w5.frozen? ⟨x.q,j,none⟩=false:=λj=>h.ss.free j;have I:=h.put1c (n:=n) (p:={p with c:=(k:Int)}) aio (j:=0) (u:= J 12) (p':={p with pc:=12,c:=(k:Int)}) ahD rfl;rw[nH]at I;have H6:=qh (And.intro I (dc (H4.o.2.trans t5) (q_mv x T) (n*4) (J 12)));clear h I t5;go_wp2;go_end0;unfold VD;rw[HE.o,<-Mg.o.2];exact⟨rfl,H6.o.1,H6.o.2⟩
      . have VT:k+1<T.D:=(by omega);have y:((k:Int)==(T.D:Int)-1)=false:=(by simp;omega);obtain⟨RH,ab⟩:=Yy.o k hk NQ;rw[<-HU.o]at RH ab;by_cases O:u.a<=bud;. have HE:=qh (HW.o.2.2.symm.trans (yp T bud m n VT (by rw[<-HU.o];exact O)));go_wp2_with fail;refine(H4.o.1.pass1 HV.o.1 HV.o.2 (u.a+1)).mono ?_;rintro en w5 ⟨b,rfl,h,t5⟩;rw[pU]at h;have c0:=(h.sc (p:={p with c:=(k:Int)}) aio).1;have f0:∀j,w5.frozen? ⟨x.q,j,none⟩=false:=λj=>h.ss.free j;have I:=h.put1c (n:=n) (p:={p with c:=(k:Int)}) aio (j:=0) (u:= J 11) (p':={p with pc:=11,c:=(k:Int)}) ahD rfl;rw[nH]at I;have H6:=qh (And.intro I (dc (H4.o.2.trans t5) (q_mv x T) (n*4) (J 11)));clear h I t5;go_wp2;go_end0;unfold VD;rw[HE.o,<-Mg.o.2,<-HU.o];exact⟨rfl,H6.o.1,H6.o.2⟩
        . have HE:=qh ((yo T bud m n VT (by rw[<-HU.o];exact O)).symm.trans HW.o.2.2);go_wp2;go_roundw;case rel=>exact⟨k+1,k,by go_num,by omega,by omega,H4.o.1,H4.o.2,HE.o⟩
          case measure=>simp[intOf];omega
end
end
end Go.Proofs.YtglokdbiggbkjaaGreat
