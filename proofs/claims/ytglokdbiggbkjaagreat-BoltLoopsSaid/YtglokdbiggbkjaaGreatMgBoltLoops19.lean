/- Joined texts. -/
import Derived.Test.YtglokdbiggbkjaaGreatMgBoltLoops0
import Derived.Test.YtglokdbiggbkjaaGreatMgBoltLoops18
set_option linter.unusedVariables false
set_option linter.unusedSimpArgs false
set_option linter.defProp false
set_option maxRecDepth 100000
set_option maxHeartbeats 16000000
open Go.Proofs.Tryz
namespace Go.Proofs.YtglokdbiggbkjaaGreat
open Go.IntKind(i64)
open Go.Value(int bool slice agg tuple pointer)
open Go.Ending(returned)
open Go.Obj(cells)
variable{k kl par i a g lo kg l:Nat}{f o0 o:Nat->Nat}{P T:List Int}{w:World}{gs q:List Nat}
section
open Go.RowKit
variable{t:TypeId}{cs:Array Value}
def mtQ(P T:List Int)(n:Nat):Nat:=max 1 (T.count ((ac P).getD n 0))
def aK(kl par:Nat)(f:Nat->Nat)(s:Ar):Nat->Ar
 |0=>s
 |k+1=>bz (aG kl (aK kl par f s k) (f k) par) 1
def cwN(kl par:Nat)(f:Nat->Nat)(s:Ar)(n:Nat):Nat:=(aG kl (aK kl par f s n) (f n) par).W.length+1
def iB(kl:Nat)(f:Nat->Nat)(N:Nat):List (List Sp):=(List.range N).map λn=>a9 kl (f n)
def pH(s:Ar)(x v:Int):(ae s x v).W.length=s.W.length:=by rw[ay,bM]
def mY(s:Ar)(x v:Int):(ae s x v).room=s.room:=by unfold ae wrA fH;split<;>rfl
def eF(s:Ar)(n:Nat):(bz s n).W.length=s.W.length+n:=by unfold bz;simp
def bf(k:Nat)(s:Ar)(n m:Nat):(aG k s n m).W.length=s.W.length+szK k n m:=by
 unfold aG;split;.rw[pH,eF]
 split;.rw[pH,eF]
 .rw[eF]
def kV(k:Nat)(s:Ar)(n m:Nat):(aG k s n m).room=s.room:=by
 unfold aG;split;.rw[mY];rfl
 split;.rw[mY];rfl
 .rfl
def ke{n m:Nat}(h:n<=32)(hm:m<=4):szK k n m<=65:=by exact aa7
def ic(k n:Nat):(a9 k n).length=n:=by unfold a9;split<;>simp
def pj(s:Ar)(x v:Int):(ae s x v).ops<=s.ops+1:=ij _ _ _
def kE(k:Nat)(s:Ar)(n m:Nat):(aG k s n m).ops<=s.ops+1:=by
 unfold aG;split;.exact pj _ _ _
 split;.exact pj _ _ _
 .show s.ops<=_;omega
def ph(kl par:Nat)(f:Nat->Nat)(s:Ar)(k:Nat):(aK kl par f s k).ops<=s.ops+k:=by
 induction k with
 |zero=>exact Nat.le_refl _
 |succ k h=>have:=kE kl (aK kl par f s k) (f k) par;show(aG _ _ _ _).ops<=_;omega
section
variable{s:Ar}
def sQ(k:Nat):(aK kl par f s k).room=s.room:=by
 induction k with
 |zero=>rfl
 |succ k h=>show(aG _ _ _ _).room=_;rw[kV,h]
def oq(h:∀n,f n<=32)(H:par<=4)(k:Nat):(aK kl par f s k).W.length<=s.W.length+66*k:=by
 induction k with
 |zero=>exact Nat.le_refl _
 |succ k I=>show(bz (aG _ _ _ _) 1).W.length<=_;rw[eF,bf];have:=ke (k:=kl) (h k) H;omega
def oZ(h:T.length<=32)(n:Nat):1<=mtQ P T n/\mtQ P T n<=32:=by have:T.count ((ac P).getD n 0)<=T.length:=List.count_le_length;unfold mtQ;omega
end
def fm(kg kl par:Nat)(bud:Int)(P T:List Int)(s:Ar):CoC:=
 ⟨kg,kl,(s.W.length+1:Nat),(par:Int),bud,gx P T,λi=>(cO T i).toNat,λn=>((aK kl par (mtQ P T) (aG kg s (ac P).length par) n).W.length+1:Nat),λn=>(cwN kl par (mtQ P T) (aG kg s (ac P).length par) n:Nat)⟩
def bG(kg kl par:Nat)(P T:List Int)(s:Ar):Co:=
 ⟨aK kl par (mtQ P T) (aG kg s (ac P).length par) (ac P).length,a9 kg (ac P).length,iB kl (mtQ P T) (ac P).length,List.replicate T.length Sp.zero⟩
def vf{j:Nat}{u:TypeId}{H:Array Value}(h:Blk w i t cs)(k:Blk w j u H)(I:t≠u):i≠j:=by rintro rfl;have e:=h.symm.trans k;simp only[Option.some.injEq,Obj.cells.injEq]at e;exact I e.2.1
def Dm(t:TypeId):Prop:=t=240\/t=243
def Gf(k:Nat)(h:Dm t):t≠lkT k:=by unfold lkT;rcases h with rfl|rfl<;>split<;>decide
def dx.away{x:Fx}{s:Ar}{S:List Sp}(h:dx w a g k x s S)(hb:Blk w i t cs)(H:Dm t):i≠x.p/\i≠x.l/\i≠x.q:=by
 obtain⟨I,z⟩:=h.ki.sp;refine⟨vf hb h.p ?_,vf hb h.ki.lk (Gf k H),vf hb z ?_⟩;.rcases H with rfl|rfl<;>decide
 .rcases H with rfl|rfl<;>decide
structure NwQ(w:World)(a g lo:Nat)(o0:Nat->Nat)(kg kl par N:Nat)(f:Nat->Nat)(s7:Ar)(xg:Fx)(k:Nat)(X:List Fx)(gs:List Nat)(o:Nat->Nat):Prop where
 ar:aB w a g (aK kl par f s7 k)
 gl:dx w a g kg xg (aK kl par f s7 k) (a9 kg N)
 ls:∀(n:Nat) (y:Fx),X[n]? =some y->dx w a g kl y (aK kl par f s7 k) (a9 kl (f n))/\y.t=(aK kl par f s7 n).W.length+1/\y.m=par/\(o y.p=5+n/\o y.l=5+n/\o y.q=5+n)/\lo<=y.p/\lo<=y.l/\lo<=y.q
 v:∀n v,gs[n]? =some v->v=cwN kl par f s7 n
 lX:X.length=k
 lV:gs.length=k
 oo:∀i,i<lo->o i=o0 i
section
variable{w1 w2 w3 w4:World}{N:Nat}{s7:Ar}{xg:Fx}{X:List Fx}
def dx.beside{x:Fx}{s s':Ar}{S:List Sp}(h:dx w1 a g k x s S)(t2:aa [a,g] w1 w3)(I:aB w3 a g s')(Y:aa q w3 w4)(O:a∉q)(hg:g∉q)(V:∀i∈q,∃t cs,Blk w3 i t cs/\Dm t):dx w4 a g k x s' S:=by have H:dx w3 a g k x s' S:=h.oth t2 I (by simp[h.pa,h.pg]) (by simp[h.ki.la,h.ki.lg]) (by simp[h.ki.qa,h.ki.qg]);refine H.turns Y ?_ ?_ O hg ?_;all_goals intro hm;obtain⟨t,cs,hb,ht⟩:=V _ hm;have:=H.away hb ht;omega
def NwQ.step(h:NwQ w1 a g lo o0 kg kl par N f s7 xg k X gs o)(ab:lo<=w1.heap.size){y:Fx}(hy:dx w2 a g kl y (aG kl (aK kl par f s7 k) (f k) par) (a9 kl (f k)))(t1:aa [a,g] w1 w2)(hf:w1.heap.size<=y.p/\w1.heap.size<=y.l/\w1.heap.size<=y.q)(ht:y.t=(aK kl par f s7 k).W.length+1)(hm:y.m=par)(t2:aa [a] w2 w3)(V:aB w3 a g (bz (aG kl (aK kl par f s7 k) (f k) par) 1))(Y:aa q w3 w4)(ha:a∉q)(hg:g∉q)(hq:∀i∈q,∃t cs,Blk w3 i t cs/\Dm t):NwQ w4 a g lo o0 kg kl par N f s7 xg (k+1) (X++[y]) (gs++[cwN kl par f s7 k]) (λi=>if w1.heap.size<=i then 5+k else o i):=by
  have Le:aa [a,g] w2 w3:=t2.mono ahC;have XD:=t1.trans Le;refine⟨V.turns Y ha hg,h.gl.beside XD V Y ha hg hq,?_,?_,by simp[h.lX],by simp[h.lV],λi hi=>by rw[if_neg ahB];exact h.oo i hi⟩
  . intro n z H;by_cases hn:n<k;. rw[List.getElem?_append_left (by rw[h.lX];exact hn)]at H;obtain⟨I,e2,e3,e4,e5⟩:=h.ls n z H;have l1:=I.p.lt;have l2:=I.ki.lk.lt;have l3:=I.ki.sp.lt;exact⟨I.beside XD V Y ha hg hq,e2,e3,⟨by rw[if_neg ahB];exact e4.1,by rw[if_neg ahB];exact e4.2.1,by rw[if_neg ahB];exact e4.2.2⟩,e5⟩
    . have I':=(List.getElem?_eq_some_iff.1 H).1;simp only[List.length_append,List.length_cons,List.length_nil,h.lX]at I';obtain rfl:n=k:=by omega
      rw[List.getElem?_append_right (by rw[h.lX];omega),h.lX]at H;simp only[Nat.sub_self,List.getElem?_cons_zero,Option.some.injEq]at H;subst H;exact⟨hy.beside Le V Y ha hg hq,ht,hm,⟨by rw[if_pos hf.1],by rw[if_pos hf.2.1],by rw[if_pos hf.2.2]⟩,by omega,by omega,by omega⟩
  . intro n v O;by_cases hn:n<k;. rw[List.getElem?_append_left (by rw[h.lV];exact hn)]at O;exact h.v n v O
    . have I':=(List.getElem?_eq_some_iff.1 O).1;simp only[List.length_append,List.length_cons,List.length_nil,h.lV]at I';obtain rfl:n=k:=by omega
      rw[List.getElem?_append_right (by rw[h.lV];omega),h.lV]at O;simp only[Nat.sub_self,List.getElem?_cons_zero,Option.some.injEq]at O;exact O.symm
def NwQ.start(H:aB w1 a g s7)(h:dx w1 a g kg xg s7 (a9 kg N)):NwQ w1 a g lo o0 kg kl par N f s7 xg 0 [] [] o0:=
 ⟨H,h,by intro n y I;simp at I,by intro n v O;simp at O,rfl,rfl,λ_ _=>rfl⟩
end
def Dl(X:List Fx)(gs:List Nat)(y:Fx)(v:Nat)(h:X.length=gs.length):((X++[y]).zip (gs++[v])).flatMap ndE=(X.zip gs).flatMap ndE++[pointer (some ⟨y.p,0,none⟩),J v]:=by rw[List.zip_append h];simp[List.flatMap_append,ndE]
def eE(hc:a5 P T=0)(hi:i<T.length):gx P T i<(ac P).length/\(ac P).getD (gx P T i) 0=T.getD i 0/\0<=cO T i/\(cO T i).toNat<mtQ P T (gx P T i):=by
 obtain⟨y,h⟩:=ai hi;have hm:=jy (aR hc).2.2.2 h;obtain⟨k,H⟩:=Int.eq_ofNat_of_zero_le ((eZ (ac P) y).1.2 hm);have hg:=nB hm H;have e:gx P T i=k:=by unfold gx;rw[bm h,H];rfl
 rw[e,bm hg,bm h];refine⟨(List.getElem?_eq_some_iff.1 hg).1,rfl,by unfold cO;omega,?_⟩;unfold cO mtQ;rw[bm h,bm hg,Int.toNat_natCast];have I:T=T.take i++T.drop i:=(List.take_append_drop i T).symm;have e3:T.drop i=y :: T.drop (i+1):=by rw[List.drop_eq_getElem_cons hi];congr 1;have:=List.getElem?_eq_getElem hi;rw[h]at this;injection this with this;exact this.symm
 have:T.count y=(T.take i).count y+1+(T.drop (i+1)).count y:=by
  conv=>lhs;rw[I,List.count_append,e3,List.count_cons_self]
  omega
 omega
def DI{B:Nat->Prop}{b qs:Nat}{bud:Int}{s:Ar}{xg:Fx}{X:List Fx}{v:Value}(h:NwQ w a g lo o0 kg kl par (ac P).length (mtQ P T) (aG kg s (ac P).length par) xg (ac P).length X gs o)(hc:a5 P T=0)(LG:KOk kg)(LB:KOk kl)(hp:1<=par/\par<=4)(hb:0<=bud/\bud<=1000)(hN:1<=(ac P).length)(hl:Blk w l 240 (coC a b (kg:Int) (kl:Int) par bud ↑xg.p v (slice (some ⟨qs,0,none⟩) T.length T.length)))(O:w.ownsRow lo 243 2 v (ac P).length ((X.zip gs).flatMap ndE))(V:eX B w b P T)(Kj:SpR w qs (List.replicate T.length Sp.zero))(ht:xg.t=s.W.length+1)(hm:xg.m=par)(KW:s.W.length<=100)(o1:o0 l=1)(o2:o0 qs=2)(o3:o0 a=3/\o0 g=3)(o4:o0 xg.p=4/\o0 xg.l=4/\o0 xg.q=4)(oB:∀i,B i->o0 i=0)(ll:l<lo)(lq:qs<lo)(la:a<lo)(lg:g<lo)(lG:xg.p<lo/\xg.l<lo/\xg.q<lo)(lB:∀i,B i->i<lo):∃x:Cox,x.l=l/\x.qs=qs/\x.g=xg/\x.X=X/\lo<=x.qn/\aC B w a g x (fm kg kl par bud P T s) P T (bG kg kl par P T s):=by
  obtain⟨qn,cap,rfl,OL,hq,Zz,hZ⟩:=ui O hN;have KX:=bh (aR hc).1;have My:T.length<=32:=KX.2.2.2;have MF:(ac P).length<=32:=by exact aaC
  have H:∀i,i<lo->(if i=qn then 1 else o i)=o0 i:=λi hi=>by rw[if_neg ahB];exact h.oo i hi
  refine⟨⟨l,b,qn,qs,T.length,(ac P).length,cap,par,xg,X,gs,λi=>if i=qn then 1 else o i⟩,rfl,rfl,rfl,rfl,hq,?_⟩;refine {fx:=?_,ar:=h.ar,lk:=hl,tb:=V,nd:=⟨Zz,hZ⟩,sp:=Kj,gl:=h.gl,lo:=?_,lL:=?_,lG:=ic _ _,lS:=by simp[bG],sl:=?_}
  . refine {ck:=hc,nT:=rfl,nN:=rfl,lX:=h.lX,lW:=h.lV,cap:=OL,cn:=?_,tg:=?_,tl:=?_,gm:=by show(xg.m:Int)=(par:Int);rw[hm],pm:=rfl,cc:=?_,kg:=LG,kl:=LB,bud:=hb,par:=hp,ol:=?_,on:=by simp,os:=?_,oa:=?_,og:=?_,oG:=?_,oL:=?_,oB:=?_};. intro i hi;refine⟨rfl,?_⟩;have:=(eE hc hi).2.2.1;show(((cO T i).toNat:Nat):Int)=_;omega
    . show((s.W.length+1:Nat):Int)=_;rw[ht]
    . intro n y I;obtain⟨_,e2,e3,_⟩:=h.ls n y I;refine⟨?_,by show(y.m:Int)=(par:Int);rw[e3]⟩;show(((aK _ _ _ _ n).W.length+1:Nat):Int)=_;rw[e2]
    . intro n v O;have hn:n<(ac P).length:=(by have:=(List.getElem?_eq_some_iff.1 O).1;rw[h.lV]at this;exact this);have e:=h.v n v O;refine⟨by show((cwN _ _ _ _ n:Nat):Int)=_;rw[e],?_⟩;rw[e];unfold cwN;rw[bf];have h1:=oq (kl:=kl) (par:=par) (f:=mtQ P T) (s:=aG kg s (ac P).length par) (λn=>(oZ My n).2) hp.2 n;rw[bf]at h1;have h2:=ke (k:=kg) MF hp.2;have h3:=ke (k:=kl) (oZ (P:=P) My n).2 hp.2;omega
    . show(if _ then 1 else _)=1;rw[H _ ll,o1]
    . show(if _ then 1 else _)=2;rw[H _ lq,o2]
    . show(if _ then 1 else _)=3;rw[H _ la,o3.1]
    . show(if _ then 1 else _)=3;rw[H _ lg,o3.2]
    . refine⟨?_,?_,?_⟩;. show(if _ then 1 else _)=4;rw[H _ lG.1,o4.1]
      . show(if _ then 1 else _)=4;rw[H _ lG.2.1,o4.2.1]
      . show(if _ then 1 else _)=4;rw[H _ lG.2.2,o4.2.2]
    . intro n y I;obtain⟨e1,_,_,e4,_⟩:=h.ls n y I;have:=e1.away hZ (.inr rfl);refine⟨?_,?_,?_⟩;. show(if _ then 1 else _)=_;rw[if_neg ahB];exact e4.1
      . show(if _ then 1 else _)=_;rw[if_neg ahB];exact e4.2.1
      . show(if _ then 1 else _)=_;rw[if_neg ahB];exact e4.2.2
    . intro i hi;show(if _ then 1 else _)=0;rw[H _ (lB i hi),oB i hi]
  . intro n y S I Y;have e:=(h.ls n y I).1;have hn:n<(ac P).length:=(by have:=(List.getElem?_eq_some_iff.1 I).1;rw[h.lX]at this;exact this);have:S=a9 kl (mtQ P T n):=(by simp only[bG,iB,List.getElem?_map,List.getElem?_range hn,Option.map_some,Option.some.injEq]at Y;exact Y.symm);rw[this];exact e
  . show(iB _ _ _).length=_;simp[iB]
  . intro i S hi Y;obtain⟨h1,_,h3,h4⟩:=eE hc (show i<T.length from hi);have:S=a9 kl (mtQ P T (gx P T i)):=(by have P2:(iB kl (mtQ P T) (ac P).length)[gx P T i]? =some S:=Y;simp only[iB,List.getElem?_map,List.getElem?_range h1,Option.map_some,Option.some.injEq]at P2;exact P2.symm);rw[this,ic];exact h4
end
section
open Go.RowKit
def fb(x:Cox)(B:Nat->Prop)(i:Nat):Prop:=i=x.l\/i=x.qn\/i=x.qs\/(i=x.g.p\/i=x.g.l\/i=x.g.q)\/(∃y∈x.X,i=y.p\/i=y.l\/i=y.q)\/B i
def G7(w:World)(a g:Nat)(s:Ar)(kg kl par:Nat)(bud:Int)(P T:List Int)(e:Ending)(w':World):Prop:=
 ∃(x:Cox) (B:Nat->Prop),e= returned (tuple #[↑x.l,J 0])/\aC B w' a g x (fm kg kl par bud P T s) P T (bG kg kl par P T s)/\(∀i,fb x B i->w.heap.size<=i/\i<w'.heap.size)/\aa [a,g] w w'
def J1{H:Nat}(h:H=l):Ending.returned (tuple #[↑l,J 0])= returned (tuple #[↑H,J 0]):=by rw[h]
def ox{s:Ar}(h:aB w a g s)(vP vT:Value)(P T:List Int)(hP:RdL w vP 1 encI P)(hT:RdL w vT 1 encI T)(hc:a5 P T=0)(kg kl:Nat)(LG:KOk kg)(LB:KOk kl)(par:Nat)(hp:1<=par/\par<=4)(bud:Int)(hb:0<=bud/\bud<=1000)(I:s.W.length+2500<=s.room)(WZ:s.W.length<=100)(V:s.ops+100<=1000000000000):E 103 #[↑a,agg #[vP,vT],agg #[J (kg:Int),J (kl:Int),J par,J bud]] w (G7 w a g s kg kl par bud P T):=by
  obtain⟨i0,hi,Kr,Ku,al⟩:=info_parts Tryz.infoSpF;obtain⟨j0,hj,PO,PP,O0⟩:=info_parts Tryz.infoNd;have HJ:=qh (And.intro hj (And.intro PO (And.intro PP O0)));clear hj PO PP O0;have KX:=bh (aR hc).1;refine ajz ?_;intro LP L9 Mp My;have MF:(ac P).length<=32:=by exact aaC
  have P1:1<=(ac P).length:=by exact aa8
  have Y:=qh (And.intro LG (And.intro LB (And.intro hp hb)));have H:=qh (And.intro h (And.intro LP L9));refine ajN ?_;intro HN Lg;have HS:=qh (And.intro I (And.intro WZ V));have HR:=qh (λW=>pp bud W hb.1 ahB);refine ai9 ?_;intro hlo B0 L8;rw[show(w.alloc (cells #[vP,vT] 24)).heap.size=w.heap.size+1 by simp]at L8;have BX:=qh L8;clear h hP hT I WZ V KX LP L9 hc L8 LG LB hp hb;go_enter func103,ntmps103;go_wp2_with fail;refine HN.o.mono ?_;rintro en w1 ⟨b,rfl,hb,t1,b1⟩;rw[hlo]at hb t1 b1;refine akc ?_;intro K1;clear t1 b1 hb HN BX B0;have p3:Z w1 (w.heap.size+1) 3 (J bud):=K1.o.2.2.1.cell 3;go_wp2_with fail;refine LT (HR.o _) ?_;have p0:Z w1 (w.heap.size+1) 0 (J (kg:Int)):=K1.o.2.2.1.cell 0;have p1:Z w1 (w.heap.size+1) 1 (J (kl:Int)):=K1.o.2.2.1.cell 1;have p2:Z w1 (w.heap.size+1) 2 (J par):=K1.o.2.2.1.cell 2;have NU:w.heap.size+1<w1.heap.size:=K1.o.2.2.1.lt;have Vz:=qh (eo w1.drew b P T ((K1.o.1.turns ((aa.refl (S:=[]) _).drew) ahC).tab Lg.o));obtain⟨w4,ab,t3,hg⟩:=run_makeSlice_full (P:=prog) w1.drew w1.heap.size 237 113 i0 (agg #[J 0,J 0,J 0,J 0]) 4 Tryz.underlying237 hi Kr Ku .i64 .i64 T.length ahB (by rw[al];omega) aif (Nat.le_refl _);have H4:=qh (show aa [] w1 w4 from((aa.refl _ _).drew).trans (aa.of_below ((Below.refl _ _).grown hg (Nat.le_refl _) (λj hj=>by cases hj))));have Vv:=qh (j4 t3);have q0:=H4.o.cellQ p0 ahC;have q1:=H4.o.cellQ p1 ahC;have q2:=H4.o.cellQ p2 ahC;have q3:=H4.o.cellQ p3 ahC;have Qk:w1.heap.size<=w4.heap.size:=H4.o.size;clear t3 hg;go_wp2_with fail
  have Vm:=qh (λo:Obj=>show(w4.alloc o).cell? ⟨w.heap.size+1,0,none⟩=some (J (kg:Int))/\(w4.alloc o).cell? ⟨w.heap.size+1,1,none⟩=some (J (kl:Int))/\(w4.alloc o).cell? ⟨w.heap.size+1,2,none⟩=some (J par)/\(w4.alloc o).cell? ⟨w.heap.size+1,3,none⟩=some (J bud)from by
    have t:aa [] w4 (w4.alloc o):=(aa.refl _ _).alloc o
    exact⟨t.cellQ q0 ahC,t.cellQ q1 ahC,t.cellQ q2 ahC,t.cellQ q3 ahC⟩)
  go_region_held3 (λW=>Z W (w.heap.size+1) 0 (J (kg:Int))/\Z W (w.heap.size+1) 1 (J (kl:Int))/\Z W (w.heap.size+1) 2 (J par)/\Z W (w.heap.size+1) 3 (J bud))
    (first|exact⟨p0,p1,p2,p3⟩|exact⟨q0,q1,q2,q3⟩|exact Vm.o _)
    (first|(go_at_call 136;go_loud (refine LT Vz.o ?_)))
  obtain⟨l,hl⟩:=LE w4.heap.size;obtain⟨w5,Lp⟩:=LE (w4.alloc (.cells (coC a b (kg:Int) (kl:Int) par bud (.pointer none) (.slice none 0 0) (slice (some ⟨w1.heap.size,0,none⟩) T.length T.length)) 240));have N5:=Lp;unfold coC at N5;rw[<-N5,<-hl];have RJ:=qh (show Blk w5 l 240 (coC a b (kg:Int) (kl:Int) par bud (.pointer none) (.slice none 0 0) (slice (some ⟨w1.heap.size,0,none⟩) T.length T.length))from by rw[Lp,hl];exact Blk.new _ _ _);have H5:=qh (show aa [] w1 w5 from by rw[Lp];exact H4.o.alloc _);have Yr:=qh (show SpR w5 w1.heap.size (List.replicate T.length Sp.zero)from by rw[Lp];exact Vv.o.turns ((aa.refl [] _).alloc _) ahC);have WW:=Vv.o.lt;have Yi:=qh (show w1.heap.size<w4.heap.size from WW);clear WW
  have HO:=qh (show a<w.heap.size/\g<w.heap.size/\w.heap.size+2<=b/\b<w1.heap.size/\w1.heap.size<l/\w5.heap.size=l+1 from by
    have e1:b<w1.heap.size:=K1.o.1.low.2;have e2:=K1.o.2.2.2;have e4:=H.o;have e5:=Yi.o;rw[Lp,hl];simp
    omega)
  have OG:Kq (∀W,aa [l,b,a,g] w5 W->Z W (w.heap.size+1) 0 (J (kg:Int))/\Z W (w.heap.size+1) 1 (J (kl:Int))/\Z W (w.heap.size+1) 2 (J par)/\Z W (w.heap.size+1) 3 (J bud)):=qh λW hW=>by have o:=HO.o;have t:aa [l,b,a,g] w1 W:=(H5.o.mono ahC).trans hW;have n:w.heap.size+1∉[l,b,a,g]:=(by simp;omega);exact⟨t.cellQ p0 n,t.cellQ p1 n,t.cellQ p2 n,t.cellQ p3 n⟩
  obtain⟨N,hN⟩:=LE ((ac P).length);rw[<-hN]at MF P1;have Pz:=qx (λi=>w.heap.size+2<=i/\i<w1.heap.size) w5.drew b P T Lg.o ((K1.o.1.turns H5.o ahC).turns ((aa.refl (S:=[]) _).drew) ahC);rw[<-hN]at Pz;have OF:=qh Pz;have Mv:=qh hN;have S5:=qh ((H.o.1.turns (aa.of_below (S:=[]) K1.o.2.1) ahC ahC).turns H5.o ahC ahC);have XZ:=qh (λW (hA:aB W a g s)=>BF hA kg Y.o.1 N P1 MF par Y.o.2.2.1.1 Y.o.2.2.1.2 (by have:=HS.o;have:=ke (k:=kg) MF Y.o.2.2.1.2;omega) (by have:=HS.o;omega));have Xn:=OG.o w5 (aa.refl _ _);have Ou:l<w5.heap.size:=RJ.o.lt;clear Lp N5 hl hN Pz p0 p1 p2 p3 q0 q1 q2 q3 ab Vm Vz H4 Qk;go_wp2_with fail
  go_region_held3 (λW=>Z W (w.heap.size+1) 0 (J (kg:Int))/\Z W (w.heap.size+1) 1 (J (kl:Int))/\Z W (w.heap.size+1) 2 (J par)/\Z W (w.heap.size+1) 3 (J bud))
    (first|exact Xn|exact OG.o _ T6.o|exact OG.o _ T7.o|exact OG.o _ T8.o)
    (first
      | (go_at_call 137;go_loud (refine Op OF.o λw6 t6=>?_);have T6:=qh (show aa [l,b,a,g] w5 w6 from((aa.refl _ _).drew).trans (t6.o.2.mono ahC));have Q6:=qh t6.o.1.lt;have A6:=qh (S5.o.turns (show aa [b] w5 w6 from((aa.refl _ _).drew).trans t6.o.2) ahK ahK);have B6:=qh (show Blk w6 l _ _ from(show aa [b] w5 w6 from((aa.refl _ _).drew).trans t6.o.2).blk RJ.o ahK))
      | (go_at_call 109;go_loud (refine(XZ.o w6 A6.o).mono ?_);rintro en w7 ⟨O,rfl,e1,e2,e5⟩;have T7:=qh (T6.o.trans (e5.mono ahC));have B7:=qh (e5.blk B6.o ahK);have c6:Z w7 l 6 (.pointer none):=B7.o.cell 6;have z6:=B7.o.free 6;have T8:=qh (T7.o.trans ((aa.refl [l,b,a,g] w7).setCell (p:=⟨l,6,none⟩) (.inl ahC) ↑O.p));have H7:=qh (And.intro e1 (And.intro e2 e5));clear e1 e2 e5))
  obtain⟨w8,OY⟩:=LE (w7.setCell ⟨l,6,none⟩ ↑O.p);rw[<-OY]at T8 ⊢;have OC:aa [l] w7 w8:=by rw[OY];exact(aa.refl _ _).setCell (.inl ahC) _
  have PQ:=qh (show Blk w8 l 240 (coC a b (kg:Int) (kl:Int) par bud ↑O.p (.slice none 0 0) (slice (some ⟨w1.heap.size,0,none⟩) T.length T.length))from by rw[OY];exact B7.o.set_ 6 _);have M7:=qh (H7.o.1.turns OC (by have:=HO.o;have:=H7.o.2.1;have:=Q6.o;have:=T6.o.size;simp;omega) aiO ahK ahK aiO);have VF:=qh (show w6.heap.size<=O.p/\w6.heap.size<=O.l/\w6.heap.size<=O.q/\O.m=par/\O.t=s.W.length+1/\w5.heap.size<=w6.heap.size from⟨H7.o.2.1.1,H7.o.2.1.2.1,H7.o.2.1.2.2.1,H7.o.2.1.2.2.2.2.1,H7.o.2.1.2.2.2.2.2,T6.o.size⟩);have UZ:=qh M7.o.ki.ar
  have Tr:=qh (show eX (λi=>((w.heap.size+2<=i/\i<w1.heap.size)\/w5.drew.heap.size<=i)/\i<w6.heap.size) w8 b P T from by
    have o:=HO.o;refine(Q6.o.turns H7.o.2.2 (λi hi hB=>?_)).turns OC (λi hi hB=>?_);. have e:w5.drew.heap.size=w5.heap.size:=rfl;simp at hi;omega
    . have e:w5.drew.heap.size=w5.heap.size:=rfl;simp at hi
      omega)
  have W0:w5.heap.size<=w8.heap.size:=T8.o.size;have ZN:l<w8.heap.size:=by omega
  obtain⟨o0,WM⟩:∃o:Nat->Nat,o=λi=>if i=l then 1 else if i=w1.heap.size then 2 else if i=a\/i=g then 3 else if w6.heap.size<=i then 4 else 0:=⟨_,rfl⟩
  have i':=qh (show o0 l=1/\o0 w1.heap.size=2/\(o0 a=3/\o0 g=3)/\(o0 O.p=4/\o0 O.l=4/\o0 O.q=4)/\(∀i,((w.heap.size+2<=i/\i<w1.heap.size)\/w5.drew.heap.size<=i)/\i<w6.heap.size->o0 i=0)from by
    have o:=HO.o;have x:=VF.o;have e:w5.drew.heap.size=w5.heap.size:=rfl;have ev:∀i,o0 i=if i=l then 1 else if i=w1.heap.size then 2 else if i=a\/i=g then 3 else if w6.heap.size<=i then 4 else 0:=λi=>by rw[WM]
    refine⟨?_,?_,⟨?_,?_⟩,⟨?_,?_,?_⟩,λi hi=>?_⟩<;>rw[ev]<;>(repeat' split)<;>omega)
  clear WM;have QH:=qh (show w7.heap.size<=w8.heap.size from OC.size);have YI:=qh (show O.p<w8.heap.size/\O.l<w8.heap.size/\O.q<w8.heap.size from⟨M7.o.p.lt,M7.o.ki.lk.lt,M7.o.ki.sp.lt⟩);have Ys:=qh (Yr.o.turns T8.o ahK);obtain⟨s7,MP⟩:=LE (aG kg s N par);have PB:=qh (And.intro MP (show s7.room=s.room/\s7.W.length<=s.W.length+65 from by rw[MP,kV,bf];have:=ke (k:=kg) MF Y.o.2.2.1.2;omega));have M7:=qh (show dx w8 a g kg O s7 (a9 kg N)from by rw[MP];exact M7.o);clear MP;clear OY c6 z6 OC B7 B6 H7 Xn;have Tk:=lH w8 b P T Tr.o.f;rw[<-Mv.o]at Tk;have X9:=qh Tk;clear Tk;go_wp2_with fail;refine LT X9.o ?_;go_wp2;go_loopw [56] (λi wr=>∃(k:Nat) (v:Value) (X:List Fx) (gs:List Nat) (o:Nat->Nat),i= J k/\k<=N/\Blk wr l 240 (coC a b (kg:Int) (kl:Int) par bud ↑O.p v (slice (some ⟨w1.heap.size,0,none⟩) T.length T.length))/\wr.ownsRow w8.heap.size 243 2 v k ((X.zip gs).flatMap ndE)/\NwQ wr a g w8.heap.size o0 kg kl par N (mtQ P T) s7 O k X gs o/\aa [l,a,g] w8 wr) (λi _=>N-(intOf i).toNat);case atStart=>exact⟨0,_,[],[],o0,rfl,by omega,PQ.o,World.ownsRow_nil _ _ _ _,NwQ.start M7.o.ki.ar M7.o,aa.refl _ _⟩
  case round=>
    obtain⟨k,v,X,gs,o,rfl,hk,hb,t3,hQ,ht⟩:=hrel;obtain⟨wo,rfl⟩:∃wo:World,wo=wr:=⟨_,rfl⟩;obtain⟨xs,PN⟩:=LE ((X.zip gs).flatMap ndE);rw[<-PN]at t3;have QK:=qh PN;clear PN;have H:=qh (And.intro hb (And.intro t3 (And.intro hQ ht)));have Y5:=ht.size;by_cases I':k<N
    . obtain⟨A,cap,rfl⟩:=bE t3
      have Yj:=qh (show eX (λi=>((w.heap.size+2<=i/\i<w1.heap.size)\/w5.drew.heap.size<=i)/\i<w6.heap.size) wo.drew b P T from by
        have o:=HO.o;have e:w5.drew.heap.size=w5.heap.size:=rfl
        exact(Tr.o.turns ht (λi hi hB=>by simp at hi;omega)).turns ((aa.refl (S:=[]) _).drew) ahC)
      obtain⟨x,hx⟩:=ai (show k<(ac P).length by rw[<-Mv.o];exact I');have Tf:=qh (Cv wo.drew b P T Yj.o.f hx);have Nz:T.count x<=32:=Nat.le_trans List.count_le_length My;have bF:=qh hx;have Mk:=qh (show mtQ P T k=max 1 (T.count x)from by unfold mtQ;rw[bm hx]);obtain⟨ct,Uf⟩:=LE (T.count x);rw[<-Uf]at Mk;rw[<-Uf]at Tf Nz;obtain⟨s',MA⟩:=LE (aK kl par (mtQ P T) s7 k);have hA:=hQ.ar;rw[<-MA]at hA;have Ro:aa [l,b,a,g] w5 wo:=T8.o.trans (ht.mono ahC);have Yd:=qh (OG.o wo Ro);obtain⟨p0,p1,p2,p3⟩:=OG.o wo Ro;have KW:s'.W.length+100<=s'.room/\s'.ops+1<=1000000000000:=(by have h5:=ph kl par (mtQ P T) s7 k;have h6:=kE kg s N par;rw[<-PB.o.1]at h6;rw[<-MA]at h5;have h1:=oq (kl:=kl) (par:=par) (f:=mtQ P T) (s:=s7) (λn=>(oZ My n).2) Y.o.2.2.1.2 k;have h2:=sQ (kl:=kl) (par:=par) (f:=mtQ P T) (s:=s7) k;rw[<-MA]at h1 h2;have h3:=PB.o.2;have h4:=HS.o;omega);have Tv:=qh MA;have XY:=qh (λn (h1:1<=n) (h2:n<=32)=>BF (w:=wo.drew) (hA.turns ((aa.refl (S:=[]) _).drew) ahC ahC) kl Y.o.2.1 n h1 h2 par Y.o.2.2.1.1 Y.o.2.2.1.2 (by have:=ke (k:=kl) h2 Y.o.2.2.1.2;omega) ahB);have bA:=hb.lt;have Ro:=qh Ro;clear hb t3 hA hQ ht hx Uf MA;obtain⟨z,hz⟩:∃z:Int,z=(ct:Int):=⟨_,rfl⟩;rw[<-hz]at Tf;obtain⟨n,hn⟩:∃n:Nat,n=max 1 ct:=⟨_,rfl⟩;have bV:(if 1<z then z else 1)=(n:Int):=(by split<;>omega);have XV:=qh (XY.o n ahB ahB);have Tj:=qh (show mtQ P T k=n from by rw[Mk.o,hn]);have X5:=qh (show n<=32 from by omega);clear hn;clear hz Nz;go_wp2_with fail
      go_region_held3 (λW=>Z W (w.heap.size+1) 0 (J (kg:Int))/\Z W (w.heap.size+1) 1 (J (kl:Int))/\Z W (w.heap.size+1) 2 (J par)/\Z W (w.heap.size+1) 3 (J bud))
        (first|exact Yd.o|exact Ya.o)
        (first
          | (go_at_call 138;go_loud (refine LT Tf.o ?_))
          | (go_at_call 109;go_loud (refine XV.o.mono ?_);rintro en w7' ⟨y,rfl,e1,e2,e5⟩;have TF:=qh (show aa [a,g] wo w7' from((aa.refl _ _).drew).trans e5);have Ya:=qh (OG.o w7' (Ro.o.trans (TF.o.mono ahC)));have UX:=qh (And.intro e1 e2);clear e1 e2 e5))
      all_goals
        obtain⟨s2,Kp⟩:=LE (aG kl s' n par);have Mw:=qh Kp;have ZQ:s2.W.length+1<=s2.room:=(by have h1:=bf kl s' n par;have h2:=kV kl s' n par;rw[<-Kp]at h1 h2;have h3:=ke (k:=kl) X5.o Y.o.2.2.1.2;omega);have XK:=qh (show aB w7' a g s2 from by rw[Kp];exact UX.o.1.ki.ar);clear Kp;go_wp2_with fail;refine(mZ XK.o 1 ZQ).mono ?_;rintro en w9 ⟨rfl,k9,t9⟩;have T9:=qh (TF.o.trans (t9.mono ahC));have H9:=qh k9;have Rm:l∉[a,g]:=(by have:=HO.o;simp;omega);have Mo:Blk w9 l 240 (coC a b (kg:Int) (kl:Int) par bud ↑O.p (.slice A k cap) (slice (some ⟨w1.heap.size,0,none⟩) T.length T.length)):=T9.o.blk H.o.1 Rm;have o9:w9.ownsRow w8.heap.size 243 2 (.slice A k cap) k xs:=aa.own H.o.2.1 T9.o (λx hx=>by have:=(H.o.2.1.lt x hx).1;have:=HO.o;simp;omega);have c7:Z w9 l 7 (.slice A k cap):=Mo.cell 7;have cp:wo.heap.size<=w9.heap.size:=T9.o.size;have bw:=Mo.lt;have MN:(Value.slice A k cap).ownBlock≠some l:=λe=>by have:=(H.o.2.1.lt l e).1;omega
        have S7:=qh Mo;have Yv:=qh t9
        have XM:=qh (show ∀q,(Value.slice A k cap).ownBlock=some q->∃cs,Blk w9 q 243 cs from λq hq=>by
          rcases o9.2 with⟨e,_⟩|⟨g',c',bP,e,_,ad,_⟩
          . injection e with e1 e2 e3;subst e1;simp[Value.ownBlock]at hq
          . injection e with e1 e2 e3;subst e1;simp only[Value.ownBlock,Option.some.injEq]at hq;subst hq
            exact⟨_,ad⟩)
        have Vj:=qh o9;clear k9 t9 Mo o9 Rm;go_wp2_with (at_builtin;refine wpList_append_lies _ rfl _ _ 238 rfl w8.heap.size 243 j0 (agg #[.pointer none,J 0]) 2 16 Tryz.underlying238 HJ.o.1 HJ.o.2.1 HJ.o.2.2.1 HJ.o.2.2.2 rfl ahD _ _ _ rfl (Vj.o.alloc _) ⟨w9.heap.size,0,none⟩ 1 1 [pointer (some ⟨y.p,0,none⟩),J ((s2.W.length:Int)+1)] rfl rfl (nZ _ _ _) ah4 ahD ?c3 ?c4 ?c5 _ rfl ?_);case c3=>unfold maxLen;omega
        case c4=>omega
        case c5=>simp;omega
        intro g3 Lq w10 h3 Ly NS Up;have RZ:=(S7.o.alloc (cells #[↑y.p,J ((s2.W.length:Int)+1)] 243)).grown Ly (λe=>MN e.symm);have PZ:Z w10 l 7 (.slice A k cap):=RZ.cell 7;have cv:=RZ.free 7;obtain⟨w11,Ru⟩:=LE (w10.setCell ⟨l,7,none⟩ (slice (some ⟨g3,0,none⟩) (k+1) Lq));have tr:aa (l :: (Value.slice A k cap).ownBlock.toList) w9 w11:=(by rw[Ru];exact(((aa.refl _ _).alloc _).trans ((aa.grownByQ Ly).mono λi hi=>List.mem_cons_of_mem _ hi)).trans ((aa.refl _ _).setCell (.inl ahC) _));have Vn:=qh (show Blk w11 l 240 (coC a b (kg:Int) (kl:Int) par bud ↑O.p (slice (some ⟨g3,0,none⟩) (k+1) Lq) (slice (some ⟨w1.heap.size,0,none⟩) T.length T.length))from by rw[Ru];exact RZ.set_ 7 _)
        have Vo:=qh (show w11.ownsRow w8.heap.size 243 2 (slice (some ⟨g3,0,none⟩) (k+1) Lq) (k+1) (xs++[pointer (some ⟨y.p,0,none⟩),J ((s2.W.length:Int)+1)])from by
          rw[Ru];have bc:=(h3.lt g3 rfl).1
          exact aa.own h3 ((aa.refl [l] _).setCell (.inl ahC) _) (λx hx=>by injection hx with hx;subst hx;simp;omega))
        have VR:∀r,r<w8.heap.size->r≠l->r∉l :: (Value.slice A k cap).ownBlock.toList:=λr I Nf hm=>by
          rcases List.mem_cons.1 hm with e|e
          . exact Nf e
          . have:=(H.o.2.1.lt r ahQ).1;omega
        have Py:=qh (show NwQ w11 a g w8.heap.size o0 kg kl par N (mtQ P T) s7 O (k+1) (X++[y]) (gs++[cwN kl par (mtQ P T) s7 k]) (λi=>if wo.heap.size<=i then 5+k else o i)from by
          have e7:=UX.o;rw[<-Tj.o,Tv.o]at e7;have e9:aB w9 a g (bz (aG kl (aK kl par (mtQ P T) s7 k) (mtQ P T k) par) 1):=(by rw[<-Tv.o,Tj.o,<-Mw.o];exact H9.o);have bW:=HO.o;refine H.o.2.2.1.step Y5 e7.1 TF.o ⟨e7.2.1,e7.2.2.1,e7.2.2.2.1⟩ e7.2.2.2.2.2.2 e7.2.2.2.2.2.1 Yv.o e9 tr (VR a ahB ahB) (VR g ahB ahB) (λi hi=>?_);rcases List.mem_cons.1 hi with e|e
          . subst e;exact⟨_,_,S7.o,.inl rfl⟩
          . obtain⟨cs,KJ⟩:=XM.o i ahQ
            exact⟨_,cs,KJ,.inr rfl⟩)
        have YH:=qh (show((X++[y]).zip (gs++[cwN kl par (mtQ P T) s7 k])).flatMap ndE=xs++[pointer (some ⟨y.p,0,none⟩),J ((s2.W.length:Int)+1)]from by
          rw[Dl _ _ _ _ (by rw[H.o.2.2.1.lX,H.o.2.2.1.lV]),<-QK.o];have:((cwN kl par (mtQ P T) s7 k:Nat):Int)=(s2.W.length:Int)+1:=by unfold cwN;rw[<-Tv.o,Tj.o,<-Mw.o];omega
          rw[this])
        have WF:∀x,(Value.slice A k cap).ownBlock=some x->w8.heap.size<=x:=λx hx=>(H.o.2.1.lt x hx).1
        have Ts:=qh (show aa [l,a,g] w8 w11 from by
          have t1:aa ([l,a,g]++(Value.slice A k cap).ownBlock.toList) w8 w11:=((H.o.2.2.2.mono λi hi=>List.mem_append_left _ hi).trans (T9.o.mono λi hi=>List.mem_append_left _ (by simp at hi ⊢;omega))).trans (tr.mono λi hi=>by
            rcases List.mem_cons.1 hi with e|e
            . exact List.mem_append_left _ (by simp[e])
            . exact List.mem_append_right _ e)
          refine t1.fresh λi hi=>?_;rcases List.mem_append.1 hi with hi|hi
          . exact .inl hi
          . exact .inr (WF i ah6))
        rw[Ru]at Vn Vo Py Ts;clear h3 Ly NS RZ S7 Vj H9 tr Ru WF;go_wp2;go_roundw;case rel=>exact⟨k+1,_,_,_,_,by go_num,by omega,Vn.o,by rw[YH.o];exact Vo.o,Py.o,Ts.o⟩
        case measure=>simp[intOf];omega
    . obtain rfl:k=N:=by omega
      clear hb t3 hQ ht;go_wp2;go_ret2;have o':=HO.o;have s8:=T8.o.size;have s1:=K1.o.2.1.size;have cu:=H5.o.size;have Xe:=VF.o;have M2:=YI.o;have Ry:=i'.o;have bT:=T8.o.size;have Zz:=H.o;rw[PB.o.1,QK.o,Mv.o]at Zz
      have hQ:=Tr.o.turns H.o.2.2.2 (λi hi hB=>by
        have e:w5.drew.heap.size=w5.heap.size:=rfl;simp at hi
        omega)
      have ax:w6.heap.size<=w8.heap.size:=by omega
      obtain⟨x,e1,e2,e3,e4,e5,Sj⟩:=DI (bud:=bud) Zz.2.2.1 Lg.o Y.o.1 Y.o.2.1 Y.o.2.2.1 Y.o.2.2.2 (by rw[<-Mv.o];exact P1) Zz.1 Zz.2.1 hQ (Ys.o.turns H.o.2.2.2 ahK) Xe.2.2.2.2.1 Xe.2.2.2.1 HS.o.2.1
        Ry.1 Ry.2.1 Ry.2.2.1 Ry.2.2.2.1 Ry.2.2.2.2 ahB ahB ahB ahB ahB (λi hi=>by omega)
      refine⟨x,_,J1 e1,Sj,λi hi=>?_,?_⟩
      . have e:w5.drew.heap.size=w5.heap.size:=rfl;have u8:=H.o.2.2.2.size;rcases hi with hi|hi|hi|hi|⟨y,hy,hi⟩|hi
        . have:=Sj.lk.lt;omega
        . obtain⟨Zz,z⟩:=Sj.nd;have:=z.lt;omega
        . have:=Sj.sp.lt;omega
        . rw[e3]at hi;omega
        . rw[e4]at hy;obtain⟨n,hn,rfl⟩:=List.getElem_of_mem hy;have e9:=H.o.2.2.1.ls n _ (List.getElem?_eq_getElem hn);have l1:=e9.1.p.lt;have l2:=e9.1.ki.lk.lt;have l3:=e9.1.ki.sp.lt;have Ln:=e9.2.2.2.2;clear e9;omega
        . omega
      . have t:aa [l,b,a,g] w wo:=(((aa.of_below (S:=[l,b,a,g]) K1.o.2.1).trans (H5.o.mono ahC)).trans T8.o).trans (H.o.2.2.2.mono ahC);exact t.fresh λi hi=>by simp at hi ⊢;omega
end
end Go.Proofs.YtglokdbiggbkjaaGreat
