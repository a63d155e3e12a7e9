/- Joined texts. -/
import Derived.Test.YtglokdbiggbkjaaGreatMgWorldAgain0
import Derived.Test.YtglokdbiggbkjaaGreatMgWorldAgain7
import Derived.Test.YtglokdbiggbkjaaGreatMgWorldAgain8
import Derived.Test.YtglokdbiggbkjaaGreatMgWorldAgain14
import Derived.Test.YtglokdbiggbkjaaGreatMgWorldAgain18
import Derived.Test.YtglokdbiggbkjaaGreatMgWorldAgain19
import Derived.Test.YtglokdbiggbkjaaGreatMgWorldAgain22
set_option linter.unusedVariables false
set_option linter.unusedSimpArgs false
set_option linter.defProp false
set_option maxRecDepth 100000
set_option maxHeartbeats 16000000
open Go.Proofs.Tryz
namespace Go.Proofs.YtglokdbiggbkjaaGreat
open Go.IntKind(i64)
open Go.Value(int bool slice agg tuple pointer)
open Go.Ending(returned)
open Go.Obj(cells)
variable{n kl par j lo kg N L:Nat}{f o0 ml:Nat->Nat}{P T:List Int}{gs S:List Nat}{bud y:Int}{w':World}{ty:TypeId}{BC:Nat->Prop}{u:Value}
section
open Go.RowKit
variable{t:TypeId}{cs:Array Value}
def mtQ(P T:List Int)(n:Nat):Nat:=max 1 (T.count ((ac P).getD n 0))
def aI(kl par:Nat)(f:Nat->Nat)(s:Ar):Nat->Ar
 |0=>s
 |k+1=>bp (aF kl (aI kl par f s k) (f k) par) 1
def cwN(kl par:Nat)(f:Nat->Nat)(s:Ar)(n:Nat):Nat:=(aF kl (aI kl par f s n) (f n) par).W.length+1
def JT(kl:Nat)(f:Nat->Nat)(N:Nat):List (List Sp):=(List.range N).map λn=>ba kl (f n)
def pw(s:Ar)(x v:Int):(ae s x v).W.length=s.W.length:=by rw[ay,bJ]
def mM(s:Ar)(x v:Int):(ae s x v).room=s.room:=by unfold ae wrA fm;split<;>rfl
def eo(s:Ar)(n:Nat):(bp s n).W.length=s.W.length+n:=by unfold bp;simp
def a9(k:Nat)(s:Ar)(n m:Nat):(aF k s n m).W.length=s.W.length+szK k n m:=by
 unfold aF;split;.rw[pw,eo]
 split;.rw[pw,eo]
 .rw[eo]
def kJ(k:Nat)(s:Ar)(n m:Nat):(aF k s n m).room=s.room:=by
 unfold aF;split;.rw[mM];rfl
 split;.rw[mM];rfl
 .rfl
def jX{k m:Nat}(h:n<=32)(hm:m<=4):szK k n m<=65:=by exact aa2
def gW(k n:Nat):(ba k n).length=n:=by unfold ba;split<;>simp
def oX(s:Ar)(x v:Int):(ae s x v).ops<=s.ops+1:=hY _ _ _
def kr(k:Nat)(s:Ar)(n m:Nat):(aF k s n m).ops<=s.ops+1:=by
 unfold aF;split;.exact oX _ _ _
 split;.exact oX _ _ _
 .show s.ops<=_;omega
def oV(kl par:Nat)(f:Nat->Nat)(s:Ar)(k:Nat):(aI kl par f s k).ops<=s.ops+k:=by
 induction k with
 |zero=>exact Nat.le_refl _
 |succ k h=>have:=kr kl (aI kl par f s k) (f k) par;show(aF _ _ _ _).ops<=_;omega
section
variable{s:Ar}
def sw(k:Nat):(aI kl par f s k).room=s.room:=by
 induction k with
 |zero=>rfl
 |succ k h=>show(aF _ _ _ _).room=_;rw[kJ,h]
def nX(h:∀n,f n<=32)(H:par<=4)(k:Nat):(aI kl par f s k).W.length<=s.W.length+66*k:=by
 induction k with
 |zero=>exact Nat.le_refl _
 |succ k I=>show(bp (aF _ _ _ _) 1).W.length<=_;rw[eo,a9];have:=jX (k:=kl) (h k) H;omega
def oO(h:T.length<=32)(n:Nat):1<=mtQ P T n/\mtQ P T n<=32:=by have:T.count ((ac P).getD n 0)<=T.length:=List.count_le_length;unfold mtQ;omega
end
def eZ(kg kl par:Nat)(bud:Int)(P T:List Int)(s:Ar):CoC:=
 ⟨kg,kl,(s.W.length+1:Nat),(par:Int),bud,gc P T,λi=>(cE T i).toNat,λn=>((aI kl par (mtQ P T) (aF kg s (ac P).length par) n).W.length+1:Nat),λn=>(cwN kl par (mtQ P T) (aF kg s (ac P).length par) n:Nat)⟩
def bE(kg kl par:Nat)(P T:List Int)(s:Ar):Co:=
 ⟨aI kl par (mtQ P T) (aF kg s (ac P).length par) (ac P).length,ba kg (ac P).length,JT kl (mtQ P T) (ac P).length,List.replicate T.length Sp.zero⟩
def uD{w:World}{i:Nat}{u:TypeId}{H:Array Value}(h:Blk w i t cs)(k:Blk w j u H)(I:t≠u):i≠j:=by rintro rfl;have e:=h.symm.trans k;simp only[Option.some.injEq,Obj.cells.injEq]at e;exact I e.2.1
def Db(t:TypeId):Prop:=t=240\/t=243
def FZ(k:Nat)(h:Db t):t≠lkT k:=by unfold lkT;rcases h with rfl|rfl<;>split<;>decide
def du.away{w:World}{a g k:Nat}{x:Fx}{s:Ar}{S:List Sp}(h:du w a g k x s S){i:Nat}(I:Blk w i t cs)(H:Db t):i≠x.p/\i≠x.l/\i≠x.q:=by
 obtain⟨O,z⟩:=h.ki.sp;refine⟨uD I h.p ?_,uD I h.ki.lk (FZ k H),uD I z ?_⟩;.rcases H with rfl|rfl<;>decide
 .rcases H with rfl|rfl<;>decide
structure NwQ(w:World)(a g lo:Nat)(o0:Nat->Nat)(kg kl par N:Nat)(f:Nat->Nat)(s7:Ar)(xg:Fx)(k:Nat)(X:List Fx)(gs:List Nat)(o:Nat->Nat):Prop where
 ar:aB w a g (aI kl par f s7 k)
 gl:du w a g kg xg (aI kl par f s7 k) (ba kg N)
 ls:∀(n:Nat) (y:Fx),X[n]? =some y->du w a g kl y (aI kl par f s7 k) (ba kl (f n))/\y.t=(aI kl par f s7 n).W.length+1/\y.m=par/\(o y.p=5+n/\o y.l=5+n/\o y.q=5+n)/\lo<=y.p/\lo<=y.l/\lo<=y.q
 v:∀n v,gs[n]? =some v->v=cwN kl par f s7 n
 lX:X.length=k
 lV:gs.length=k
 oo:∀i,i<lo->o i=o0 i
section
variable{w1 w2 w3 w4:World}{a g:Nat}{o:Nat->Nat}{s7:Ar}{xg:Fx}{k:Nat}{X:List Fx}
def du.beside{k:Nat}{x:Fx}{s s':Ar}{S:List Sp}(h:du w1 a g k x s S)(t2:aa [a,g] w1 w3)(O:aB w3 a g s'){q:List Nat}(t3:aa q w3 w4)(V:a∉q)(hg:g∉q)(Y:∀i∈q,∃t cs,Blk w3 i t cs/\Db t):du w4 a g k x s' S:=by have H:du w3 a g k x s' S:=h.oth t2 O (by simp[h.pa,h.pg]) (by simp[h.ki.la,h.ki.lg]) (by simp[h.ki.qa,h.ki.qg]);refine H.turns t3 ?_ ?_ V hg ?_;all_goals intro hm;obtain⟨t,cs,I,ht⟩:=Y _ hm;have:=H.away I ht;omega
def NwQ.step(h:NwQ w1 a g lo o0 kg kl par N f s7 xg k X gs o)(Kp:lo<=w1.heap.size){y:Fx}(hy:du w2 a g kl y (aF kl (aI kl par f s7 k) (f k) par) (ba kl (f k)))(t1:aa [a,g] w1 w2)(hf:w1.heap.size<=y.p/\w1.heap.size<=y.l/\w1.heap.size<=y.q)(ht:y.t=(aI kl par f s7 k).W.length+1)(hm:y.m=par)(t2:aa [a] w2 w3)(V:aB w3 a g (bp (aF kl (aI kl par f s7 k) (f k) par) 1)){q:List Nat}(t3:aa q w3 w4)(Y:a∉q)(hg:g∉q)(hq:∀i∈q,∃t cs,Blk w3 i t cs/\Db t):NwQ w4 a g lo o0 kg kl par N f s7 xg (k+1) (X++[y]) (gs++[cwN kl par f s7 k]) (λi=>if w1.heap.size<=i then 5+k else o i):=by
  have KK:aa [a,g] w2 w3:=t2.mono ahq;have Ru:=t1.trans KK;refine⟨V.turns t3 Y hg,h.gl.beside Ru V t3 Y hg hq,?_,?_,by simp[h.lX],by simp[h.lV],λi hi=>by rw[if_neg ahp];exact h.oo i hi⟩
  . intro n z H;by_cases hn:n<k;. rw[List.getElem?_append_left (by rw[h.lX];exact hn)]at H;obtain⟨I,e2,e3,e4,e5⟩:=h.ls n z H;have l1:=I.p.lt;have l2:=I.ki.lk.lt;have l3:=I.ki.sp.lt;exact⟨I.beside Ru V t3 Y hg hq,e2,e3,⟨by rw[if_neg ahp];exact e4.1,by rw[if_neg ahp];exact e4.2.1,by rw[if_neg ahp];exact e4.2.2⟩,e5⟩
    . have F':=(List.getElem?_eq_some_iff.1 H).1;simp only[List.length_append,List.length_cons,List.length_nil,h.lX]at F';obtain rfl:n=k:=by omega
      rw[List.getElem?_append_right (by rw[h.lX];omega),h.lX]at H;simp only[Nat.sub_self,List.getElem?_cons_zero,Option.some.injEq]at H;subst H;exact⟨hy.beside KK V t3 Y hg hq,ht,hm,⟨by rw[if_pos hf.1],by rw[if_pos hf.2.1],by rw[if_pos hf.2.2]⟩,by omega,by omega,by omega⟩
  . intro n v O;by_cases hn:n<k;. rw[List.getElem?_append_left (by rw[h.lV];exact hn)]at O;exact h.v n v O
    . have F':=(List.getElem?_eq_some_iff.1 O).1;simp only[List.length_append,List.length_cons,List.length_nil,h.lV]at F';obtain rfl:n=k:=by omega
      rw[List.getElem?_append_right (by rw[h.lV];omega),h.lV]at O;simp only[Nat.sub_self,List.getElem?_cons_zero,Option.some.injEq]at O;exact O.symm
def NwQ.start(H:aB w1 a g s7)(h:du w1 a g kg xg s7 (ba kg N)):NwQ w1 a g lo o0 kg kl par N f s7 xg 0 [] [] o0:=
 ⟨H,h,by intro n y I;simp at I,by intro n v O;simp at O,rfl,rfl,λ_ _=>rfl⟩
end
def Da(X:List Fx)(gs:List Nat)(y:Fx)(v:Nat)(h:X.length=gs.length):((X++[y]).zip (gs++[v])).flatMap ndE=(X.zip gs).flatMap ndE++[pointer (some ⟨y.p,0,none⟩),J v]:=by rw[List.zip_append h];simp[List.flatMap_append,ndE]
def eH(hc:a5 P T=0){i:Nat}(hi:i<T.length):gc P T i<(ac P).length/\(ac P).getD (gc P T i) 0=T.getD i 0/\0<=cE T i/\(cE T i).toNat<mtQ P T (gc P T i):=by
 obtain⟨y,h⟩:=ai hi;have hm:=jo (aQ hc).2.2.2 h;obtain⟨k,H⟩:=Int.eq_ofNat_of_zero_le ((eO (ac P) y).1.2 hm);have hg:=ni hm H;have e:gc P T i=k:=by unfold gc;rw[bh h,H];rfl
 rw[e,bh hg,bh h];refine⟨(List.getElem?_eq_some_iff.1 hg).1,rfl,by unfold cE;omega,?_⟩;unfold cE mtQ;rw[bh h,bh hg,Int.toNat_natCast];have I:T=T.take i++T.drop i:=(List.take_append_drop i T).symm;have e3:T.drop i=y :: T.drop (i+1):=by rw[List.drop_eq_getElem_cons hi];congr 1;have:=List.getElem?_eq_getElem hi;rw[h]at this;injection this with this;exact this.symm
 have:T.count y=(T.take i).count y+1+(T.drop (i+1)).count y:=by
  conv=>lhs;rw[I,List.count_append,e3,List.count_cons_self]
  omega
 omega
def Dx{B:Nat->Prop}{w:World}{a g l b qs:Nat}{o:Nat->Nat}{s:Ar}{xg:Fx}{X:List Fx}{v:Value}(h:NwQ w a g lo o0 kg kl par (ac P).length (mtQ P T) (aF kg s (ac P).length par) xg (ac P).length X gs o)(hc:a5 P T=0)(Li:KOk kg)(Lf:KOk kl)(hp:1<=par/\par<=4)(I:0<=bud/\bud<=1000)(hN:1<=(ac P).length)(hl:Blk w l 240 (coC a b (kg:Int) (kl:Int) par bud ↑xg.p v (slice (some ⟨qs,0,none⟩) T.length T.length)))(O:w.ownsRow lo 243 2 v (ac P).length ((X.zip gs).flatMap ndE))(Y:dz B w b P T)(JV:SpR w qs (List.replicate T.length Sp.zero))(ht:xg.t=s.W.length+1)(hm:xg.m=par)(Kw:s.W.length<=100)(o1:o0 l=1)(o2:o0 qs=2)(o3:o0 a=3/\o0 g=3)(o4:o0 xg.p=4/\o0 xg.l=4/\o0 xg.q=4)(oB:∀i,B i->o0 i=0)(ll:l<lo)(lq:qs<lo)(la:a<lo)(lg:g<lo)(lG:xg.p<lo/\xg.l<lo/\xg.q<lo)(lB:∀i,B i->i<lo):∃x:Cox,x.l=l/\x.qs=qs/\x.g=xg/\x.X=X/\lo<=x.qn/\aD B w a g x (eZ kg kl par bud P T s) P T (bE kg kl par P T s):=by
  obtain⟨qn,cap,rfl,Oi,hq,Zz,hZ⟩:=tT O hN;have Kx:=bi (aQ hc).1;have Ma:T.length<=32:=Kx.2.2.2;have Mf:(ac P).length<=32:=by exact aax
  have H:∀i,i<lo->(if i=qn then 1 else o i)=o0 i:=λi hi=>by rw[if_neg ahp];exact h.oo i hi
  refine⟨⟨l,b,qn,qs,T.length,(ac P).length,cap,par,xg,X,gs,λi=>if i=qn then 1 else o i⟩,rfl,rfl,rfl,rfl,hq,?_⟩;refine {fx:=?_,ar:=h.ar,lk:=hl,tb:=Y,nd:=⟨Zz,hZ⟩,sp:=JV,gl:=h.gl,lo:=?_,lL:=?_,lG:=gW _ _,lS:=by simp[bE],sl:=?_}
  . refine {ck:=hc,nT:=rfl,nN:=rfl,lX:=h.lX,lW:=h.lV,cap:=Oi,cn:=?_,tg:=?_,tl:=?_,gm:=by show(xg.m:Int)=(par:Int);rw[hm],pm:=rfl,cc:=?_,kg:=Li,kl:=Lf,bud:=I,par:=hp,ol:=?_,on:=by simp,os:=?_,oa:=?_,og:=?_,oG:=?_,oL:=?_,oB:=?_};. intro i hi;refine⟨rfl,?_⟩;have:=(eH hc hi).2.2.1;show(((cE T i).toNat:Nat):Int)=_;omega
    . show((s.W.length+1:Nat):Int)=_;rw[ht]
    . intro n y V;obtain⟨_,e2,e3,_⟩:=h.ls n y V;refine⟨?_,by show(y.m:Int)=(par:Int);rw[e3]⟩;show(((aI _ _ _ _ n).W.length+1:Nat):Int)=_;rw[e2]
    . intro n v O;have hn:n<(ac P).length:=(by have:=(List.getElem?_eq_some_iff.1 O).1;rw[h.lV]at this;exact this);have e:=h.v n v O;refine⟨by show((cwN _ _ _ _ n:Nat):Int)=_;rw[e],?_⟩;rw[e];unfold cwN;rw[a9];have h1:=nX (kl:=kl) (par:=par) (f:=mtQ P T) (s:=aF kg s (ac P).length par) (λn=>(oO Ma n).2) hp.2 n;rw[a9]at h1;have h2:=jX (k:=kg) Mf hp.2;have h3:=jX (k:=kl) (oO (P:=P) Ma n).2 hp.2;omega
    . show(if _ then 1 else _)=1;rw[H _ ll,o1]
    . show(if _ then 1 else _)=2;rw[H _ lq,o2]
    . show(if _ then 1 else _)=3;rw[H _ la,o3.1]
    . show(if _ then 1 else _)=3;rw[H _ lg,o3.2]
    . refine⟨?_,?_,?_⟩;. show(if _ then 1 else _)=4;rw[H _ lG.1,o4.1]
      . show(if _ then 1 else _)=4;rw[H _ lG.2.1,o4.2.1]
      . show(if _ then 1 else _)=4;rw[H _ lG.2.2,o4.2.2]
    . intro n y V;obtain⟨e1,_,_,e4,_⟩:=h.ls n y V;have:=e1.away hZ (.inr rfl);refine⟨?_,?_,?_⟩;. show(if _ then 1 else _)=_;rw[if_neg ahp];exact e4.1
      . show(if _ then 1 else _)=_;rw[if_neg ahp];exact e4.2.1
      . show(if _ then 1 else _)=_;rw[if_neg ahp];exact e4.2.2
    . intro i hi;show(if _ then 1 else _)=0;rw[H _ (lB i hi),oB i hi]
  . intro n y S V hS;have e:=(h.ls n y V).1;have hn:n<(ac P).length:=(by have:=(List.getElem?_eq_some_iff.1 V).1;rw[h.lX]at this;exact this);have:S=ba kl (mtQ P T n):=(by simp only[bE,JT,List.getElem?_map,List.getElem?_range hn,Option.map_some,Option.some.injEq]at hS;exact hS.symm);rw[this];exact e
  . show(JT _ _ _).length=_;simp[JT]
  . intro i S hi hS;obtain⟨h1,_,h3,h4⟩:=eH hc (show i<T.length from hi);have:S=ba kl (mtQ P T (gc P T i)):=(by have PS:(JT kl (mtQ P T) (ac P).length)[gc P T i]? =some S:=hS;simp only[JT,List.getElem?_map,List.getElem?_range h1,Option.map_some,Option.some.injEq]at PS;exact PS.symm);rw[this,gW];exact h4
end
section
open Go.RowKit
def eQ(x:Cox)(B:Nat->Prop)(i:Nat):Prop:=i=x.l\/i=x.qn\/i=x.qs\/(i=x.g.p\/i=x.g.l\/i=x.g.q)\/(∃y∈x.X,i=y.p\/i=y.l\/i=y.q)\/B i
def GP(w:World)(a g:Nat)(s:Ar)(kg kl par:Nat)(bud:Int)(P T:List Int)(e:Ending)(w':World):Prop:=
 ∃(x:Cox) (B:Nat->Prop),e= returned (tuple #[↑x.l,J 0])/\aD B w' a g x (eZ kg kl par bud P T s) P T (bE kg kl par P T s)/\(∀i,eQ x B i->w.heap.size<=i/\i<w'.heap.size)/\aa [a,g] w w'
def JF{l H:Nat}(h:H=l):Ending.returned (tuple #[↑l,J 0])= returned (tuple #[↑H,J 0]):=by rw[h]
def n4{w:World}{a g:Nat}{s:Ar}(h:aB w a g s)(vP vT:Value)(P T:List Int)(hP:RdL w vP 1 encI P)(hT:RdL w vT 1 encI T)(hc:a5 P T=0)(kg kl:Nat)(Li:KOk kg)(Lf:KOk kl)(par:Nat)(hp:1<=par/\par<=4)(bud:Int)(I:0<=bud/\bud<=1000)(V:s.W.length+2500<=s.room)(WR:s.W.length<=100)(Y:s.ops+100<=1000000000000):E 103 #[↑a,agg #[vP,vT],agg #[J (kg:Int),J (kl:Int),J par,J bud]] w (GP w a g s kg kl par bud P T):=by
  obtain⟨i0,hi,J5,J7,J2⟩:=info_parts Tryz.infoSpF;obtain⟨j0,hj,PG,PH,OB⟩:=info_parts Tryz.infoNd;have HJ:=qh (And.intro hj (And.intro PG (And.intro PH OB)));clear hj PG PH OB;have Kx:=bi (aQ hc).1;refine ajn ?_;intro Lq LM Mg Ma;have Mf:(ac P).length<=32:=by exact aax
  have PQ:1<=(ac P).length:=by exact aa3
  have LG:=qh (And.intro Li (And.intro Lf (And.intro hp I)));have H:=qh (And.intro h (And.intro Lq LM));refine ajA ?_;intro HN KM;have HS:=qh (And.intro V (And.intro WR Y));have HR:=qh (λW=>pe bud W I.1 ahp);refine aiV ?_;intro Kp B0 LK;rw[show(w.alloc (cells #[vP,vT] 24)).heap.size=w.heap.size+1 by simp]at LK;have BX:=qh LK;clear h hP hT V WR Y Kx Lq LM hc LK Li Lf hp I;go_enter func103,ntmps103;go_wp2_with fail;refine HN.o.mono ?_;rintro en w1 ⟨b,rfl,I,t1,b1⟩;rw[Kp]at I t1 b1;refine aj4 ?_;intro K1;clear t1 b1 I HN BX B0;have p3:Z w1 (w.heap.size+1) 3 (J bud):=K1.o.2.2.1.cell 3;go_wp2_with fail;refine LT (HR.o _) ?_;have p0:Z w1 (w.heap.size+1) 0 (J (kg:Int)):=K1.o.2.2.1.cell 0;have p1:Z w1 (w.heap.size+1) 1 (J (kl:Int)):=K1.o.2.2.1.cell 1;have p2:Z w1 (w.heap.size+1) 2 (J par):=K1.o.2.2.1.cell 2;have Pw:w.heap.size+1<w1.heap.size:=K1.o.2.2.1.lt;have Vk:=qh (d9 w1.drew b P T ((K1.o.1.turns ((aa.refl (S:=[]) _).drew) ahq).tab KM.o));obtain⟨w4,Z6,r',hg⟩:=run_makeSlice_full (P:=prog) w1.drew w1.heap.size 237 113 i0 (agg #[J 0,J 0,J 0,J 0]) 4 Tryz.underlying237 hi J5 J7 .i64 .i64 T.length ahp (by rw[J2];omega) (by unfold maxLen;omega) (Nat.le_refl _);have H4:=qh (show aa [] w1 w4 from((aa.refl _ _).drew).trans (aa.of_below ((Below.refl _ _).grown hg (Nat.le_refl _) (λj hj=>by cases hj))));have Vi:=qh (jR r');have q0:=H4.o.cellQ p0 ahq;have q1:=H4.o.cellQ p1 ahq;have q2:=H4.o.cellQ p2 ahq;have q3:=H4.o.cellQ p3 ahq;have P7:w1.heap.size<=w4.heap.size:=H4.o.size;clear r' hg;go_wp2_with fail
  have Vc:=qh (λo:Obj=>show(w4.alloc o).cell? ⟨w.heap.size+1,0,none⟩=some (J (kg:Int))/\(w4.alloc o).cell? ⟨w.heap.size+1,1,none⟩=some (J (kl:Int))/\(w4.alloc o).cell? ⟨w.heap.size+1,2,none⟩=some (J par)/\(w4.alloc o).cell? ⟨w.heap.size+1,3,none⟩=some (J bud)from by
    have t:aa [] w4 (w4.alloc o):=(aa.refl _ _).alloc o
    exact⟨t.cellQ q0 ahq,t.cellQ q1 ahq,t.cellQ q2 ahq,t.cellQ q3 ahq⟩)
  go_region_held3 (λW=>Z W (w.heap.size+1) 0 (J (kg:Int))/\Z W (w.heap.size+1) 1 (J (kl:Int))/\Z W (w.heap.size+1) 2 (J par)/\Z W (w.heap.size+1) 3 (J bud))
    (first|exact⟨p0,p1,p2,p3⟩|exact⟨q0,q1,q2,q3⟩|exact Vc.o _)
    (first|(go_at_call 136;go_loud (refine LT Vk.o ?_)))
  obtain⟨l,hl⟩:=LE w4.heap.size;obtain⟨w5,KV⟩:=LE (w4.alloc (.cells (coC a b (kg:Int) (kl:Int) par bud (.pointer none) (.slice none 0 0) (slice (some ⟨w1.heap.size,0,none⟩) T.length T.length)) 240));have NH:=KV;unfold coC at NH;rw[<-NH,<-hl];have RD:=qh (show Blk w5 l 240 (coC a b (kg:Int) (kl:Int) par bud (.pointer none) (.slice none 0 0) (slice (some ⟨w1.heap.size,0,none⟩) T.length T.length))from by rw[KV,hl];exact Blk.new _ _ _);have H5:=qh (show aa [] w1 w5 from by rw[KV];exact H4.o.alloc _);have Yh:=qh (show SpR w5 w1.heap.size (List.replicate T.length Sp.zero)from by rw[KV];exact Vi.o.turns ((aa.refl [] _).alloc _) ahq);have WO:=Vi.o.lt;have X':=qh (show w1.heap.size<w4.heap.size from WO);clear WO
  have HO:=qh (show a<w.heap.size/\g<w.heap.size/\w.heap.size+2<=b/\b<w1.heap.size/\w1.heap.size<l/\w5.heap.size=l+1 from by
    have e1:b<w1.heap.size:=K1.o.1.low.2;have e2:=K1.o.2.2.2;have e4:=H.o;have e5:=X'.o;rw[KV,hl];simp
    omega)
  have Od:Kq (∀W,aa [l,b,a,g] w5 W->Z W (w.heap.size+1) 0 (J (kg:Int))/\Z W (w.heap.size+1) 1 (J (kl:Int))/\Z W (w.heap.size+1) 2 (J par)/\Z W (w.heap.size+1) 3 (J bud)):=qh λW hW=>by have o:=HO.o;have t:aa [l,b,a,g] w1 W:=(H5.o.mono ahq).trans hW;have n:w.heap.size+1∉[l,b,a,g]:=(by simp;omega);exact⟨t.cellQ p0 n,t.cellQ p1 n,t.cellQ p2 n,t.cellQ p3 n⟩
  obtain⟨N,hN⟩:=LE ((ac P).length);rw[<-hN]at Mf PQ;have Pf:=qi (λi=>w.heap.size+2<=i/\i<w1.heap.size) w5.drew b P T KM.o ((K1.o.1.turns H5.o ahq).turns ((aa.refl (S:=[]) _).drew) ahq);rw[<-hN]at Pf;have Oc:=qh Pf;have LW:=qh hN;have SX:=qh ((H.o.1.turns (aa.of_below (S:=[]) K1.o.2.1) ahq ahq).turns H5.o ahq ahq);have XQ:=qh (λW (hA:aB W a g s)=>Bh hA kg LG.o.1 N PQ Mf par LG.o.2.2.1.1 LG.o.2.2.1.2 (by have:=HS.o;have:=jX (k:=kg) Mf LG.o.2.2.1.2;omega) (by have:=HS.o;omega));have Xj:=Od.o w5 (aa.refl _ _);have NZ:l<w5.heap.size:=RD.o.lt;clear KV NH hl hN Pf p0 p1 p2 p3 q0 q1 q2 q3 Z6 Vc Vk H4 P7;go_wp2_with fail
  go_region_held3 (λW=>Z W (w.heap.size+1) 0 (J (kg:Int))/\Z W (w.heap.size+1) 1 (J (kl:Int))/\Z W (w.heap.size+1) 2 (J par)/\Z W (w.heap.size+1) 3 (J bud))
    (first|exact Xj|exact Od.o _ T6.o|exact Od.o _ T7.o|exact Od.o _ T8.o)
    (first
      | (go_at_call 137;go_loud (refine Pi Oc.o λw6 t6=>?_);have T6:=qh (show aa [l,b,a,g] w5 w6 from((aa.refl _ _).drew).trans (t6.o.2.mono ahq));have Q6:=qh t6.o.1.lt;have A6:=qh (SX.o.turns (show aa [b] w5 w6 from((aa.refl _ _).drew).trans t6.o.2) ahy ahy);have B6:=qh (show Blk w6 l _ _ from(show aa [b] w5 w6 from((aa.refl _ _).drew).trans t6.o.2).blk RD.o ahy))
      | (go_at_call 109;go_loud (refine(XQ.o w6 A6.o).mono ?_);rintro en w7 ⟨O,rfl,e1,e2,e5⟩;have T7:=qh (T6.o.trans (e5.mono ahq));have B7:=qh (e5.blk B6.o ahy);have c6:Z w7 l 6 (.pointer none):=B7.o.cell 6;have z6:=B7.o.free 6;have T8:=qh (T7.o.trans ((aa.refl [l,b,a,g] w7).setCell (p:=⟨l,6,none⟩) (.inl ahq) ↑O.p));have H7:=qh (And.intro e1 (And.intro e2 e5));clear e1 e2 e5))
  obtain⟨w8,OA⟩:=LE (w7.setCell ⟨l,6,none⟩ ↑O.p);rw[<-OA]at T8 ⊢;have Oa:aa [l] w7 w8:=by rw[OA];exact(aa.refl _ _).setCell (.inl ahq) _
  have RE:=qh (show Blk w8 l 240 (coC a b (kg:Int) (kl:Int) par bud ↑O.p (.slice none 0 0) (slice (some ⟨w1.heap.size,0,none⟩) T.length T.length))from by rw[OA];exact B7.o.set_ 6 _);have MD:=qh (H7.o.1.turns Oa (by have:=HO.o;have:=H7.o.2.1;have:=Q6.o;have:=T6.o.size;simp;omega) aiA ahy ahy aiA);have Vq:=qh (show w6.heap.size<=O.p/\w6.heap.size<=O.l/\w6.heap.size<=O.q/\O.m=par/\O.t=s.W.length+1/\w5.heap.size<=w6.heap.size from⟨H7.o.2.1.1,H7.o.2.1.2.1,H7.o.2.1.2.2.1,H7.o.2.1.2.2.2.2.1,H7.o.2.1.2.2.2.2.2,T6.o.size⟩);have UO:=qh MD.o.ki.ar
  have Tf:=qh (show dz (λi=>((w.heap.size+2<=i/\i<w1.heap.size)\/w5.drew.heap.size<=i)/\i<w6.heap.size) w8 b P T from by
    have o:=HO.o;refine(Q6.o.turns H7.o.2.2 (λi hi hB=>?_)).turns Oa (λi hi hB=>?_);. have e:w5.drew.heap.size=w5.heap.size:=rfl;simp at hi;omega
    . have e:w5.drew.heap.size=w5.heap.size:=rfl;simp at hi
      omega)
  have WS:w5.heap.size<=w8.heap.size:=T8.o.size;have ZF:l<w8.heap.size:=by omega
  obtain⟨o0,WD⟩:∃o:Nat->Nat,o=λi=>if i=l then 1 else if i=w1.heap.size then 2 else if i=a\/i=g then 3 else if w6.heap.size<=i then 4 else 0:=⟨_,rfl⟩
  have hv:=qh (show o0 l=1/\o0 w1.heap.size=2/\(o0 a=3/\o0 g=3)/\(o0 O.p=4/\o0 O.l=4/\o0 O.q=4)/\(∀i,((w.heap.size+2<=i/\i<w1.heap.size)\/w5.drew.heap.size<=i)/\i<w6.heap.size->o0 i=0)from by
    have o:=HO.o;have x:=Vq.o;have e:w5.drew.heap.size=w5.heap.size:=rfl;have ev:∀i,o0 i=if i=l then 1 else if i=w1.heap.size then 2 else if i=a\/i=g then 3 else if w6.heap.size<=i then 4 else 0:=λi=>by rw[WD]
    refine⟨?_,?_,⟨?_,?_⟩,⟨?_,?_,?_⟩,λi hi=>?_⟩<;>rw[ev]<;>(repeat' split)<;>omega)
  clear WD;have Qp:=qh (show w7.heap.size<=w8.heap.size from Oa.size);have Yt:=qh (show O.p<w8.heap.size/\O.l<w8.heap.size/\O.q<w8.heap.size from⟨MD.o.p.lt,MD.o.ki.lk.lt,MD.o.ki.sp.lt⟩);have Yi:=qh (Yh.o.turns T8.o ahy);obtain⟨s7,L8⟩:=LE (aF kg s N par);have Th:=qh (And.intro L8 (show s7.room=s.room/\s7.W.length<=s.W.length+65 from by rw[L8,kJ,a9];have:=jX (k:=kg) Mf LG.o.2.2.1.2;omega));have MD:=qh (show du w8 a g kg O s7 (ba kg N)from by rw[L8];exact MD.o);clear L8;clear OA c6 z6 Oa B7 B6 H7 Xj;have S9:=lp w8 b P T Tf.o.f;rw[<-LW.o]at S9;have XZ:=qh S9;clear S9;go_wp2_with fail;refine LT XZ.o ?_;go_wp2;go_loopw [56] (λi wr=>∃(k:Nat) (v:Value) (X:List Fx) (gs:List Nat) (o:Nat->Nat),i= J k/\k<=N/\Blk wr l 240 (coC a b (kg:Int) (kl:Int) par bud ↑O.p v (slice (some ⟨w1.heap.size,0,none⟩) T.length T.length))/\wr.ownsRow w8.heap.size 243 2 v k ((X.zip gs).flatMap ndE)/\NwQ wr a g w8.heap.size o0 kg kl par N (mtQ P T) s7 O k X gs o/\aa [l,a,g] w8 wr) (λi _=>N-(intOf i).toNat);case atStart=>exact⟨0,_,[],[],o0,rfl,by omega,RE.o,World.ownsRow_nil _ _ _ _,NwQ.start MD.o.ki.ar MD.o,aa.refl _ _⟩
  case round=>
    obtain⟨k,v,X,gs,o,rfl,hk,I,r',hQ,ht⟩:=hrel;obtain⟨wo,rfl⟩:∃wo:World,wo=wr:=⟨_,rfl⟩;obtain⟨xs,PF⟩:=LE ((X.zip gs).flatMap ndE);rw[<-PF]at r';have Qs:=qh PF;clear PF;have H:=qh (And.intro I (And.intro r' (And.intro hQ ht)));have YS:=ht.size;by_cases F':k<N
    . obtain⟨A,cap,rfl⟩:=a8 r'
      have Ya:=qh (show dz (λi=>((w.heap.size+2<=i/\i<w1.heap.size)\/w5.drew.heap.size<=i)/\i<w6.heap.size) wo.drew b P T from by
        have o:=HO.o;have e:w5.drew.heap.size=w5.heap.size:=rfl
        exact(Tf.o.turns ht (λi hi hB=>by simp at hi;omega)).turns ((aa.refl (S:=[]) _).drew) ahq)
      obtain⟨x,hx⟩:=ai (show k<(ac P).length by rw[<-LW.o];exact F');have S5:=qh (Ca wo.drew b P T Ya.o.f hx);have Mt:T.count x<=32:=Nat.le_trans List.count_le_length Ma;have bA:=qh hx;have L2:=qh (show mtQ P T k=max 1 (T.count x)from by unfold mtQ;rw[bh hx]);obtain⟨ct,TT⟩:=LE (T.count x);rw[<-TT]at L2;rw[<-TT]at S5 Mt;obtain⟨s',ND⟩:=LE (aI kl par (mtQ P T) s7 k);have hA:=hQ.ar;rw[<-ND]at hA;have Rc:aa [l,b,a,g] w5 wo:=T8.o.trans (ht.mono ahq);have X5:=qh (Od.o wo Rc);obtain⟨p0,p1,p2,p3⟩:=Od.o wo Rc;have Kw:s'.W.length+100<=s'.room/\s'.ops+1<=1000000000000:=(by have h5:=oV kl par (mtQ P T) s7 k;have h6:=kr kg s N par;rw[<-Th.o.1]at h6;rw[<-ND]at h5;have h1:=nX (kl:=kl) (par:=par) (f:=mtQ P T) (s:=s7) (λn=>(oO Ma n).2) LG.o.2.2.1.2 k;have h2:=sw (kl:=kl) (par:=par) (f:=mtQ P T) (s:=s7) k;rw[<-ND]at h1 h2;have h3:=Th.o.2;have h4:=HS.o;omega);have Tj:=qh ND;have XP:=qh (λn (h1:1<=n) (h2:n<=32)=>Bh (w:=wo.drew) (hA.turns ((aa.refl (S:=[]) _).drew) ahq ahq) kl LG.o.2.1 n h1 h2 par LG.o.2.2.1.1 LG.o.2.2.1.2 (by have:=jX (k:=kl) h2 LG.o.2.2.1.2;omega) ahp);have bw:=I.lt;have Rc:=qh Rc;clear I r' hA hQ ht hx TT ND;obtain⟨z,hz⟩:∃z:Int,z=(ct:Int):=⟨_,rfl⟩;rw[<-hz]at S5;obtain⟨n,hn⟩:∃n:Nat,n=max 1 ct:=⟨_,rfl⟩;have bT:(if 1<z then z else 1)=(n:Int):=(by split<;>omega);have XM:=qh (XP.o n ahp ahp);have S8:=qh (show mtQ P T k=n from by rw[L2.o,hn]);have XW:=qh (show n<=32 from by omega);clear hn;clear hz Mt;go_wp2_with fail
      go_region_held3 (λW=>Z W (w.heap.size+1) 0 (J (kg:Int))/\Z W (w.heap.size+1) 1 (J (kl:Int))/\Z W (w.heap.size+1) 2 (J par)/\Z W (w.heap.size+1) 3 (J bud))
        (first|exact X5.o|exact X2.o)
        (first
          | (go_at_call 138;go_loud (refine LT S5.o ?_))
          | (go_at_call 109;go_loud (refine XM.o.mono ?_);rintro en w7' ⟨y,rfl,e1,e2,e5⟩;have Tt:=qh (show aa [a,g] wo w7' from((aa.refl _ _).drew).trans e5);have X2:=qh (Od.o w7' (Rc.o.trans (Tt.o.mono ahq)));have UM:=qh (And.intro e1 e2);clear e1 e2 e5))
      all_goals
        obtain⟨s2,JY⟩:=LE (aF kl s' n par);have ME:=qh JY;have ZI:s2.W.length+1<=s2.room:=(by have h1:=a9 kl s' n par;have h2:=kJ kl s' n par;rw[<-JY]at h1 h2;have h3:=jX (k:=kl) XW.o LG.o.2.2.1.2;omega);have XD:=qh (show aB w7' a g s2 from by rw[JY];exact UM.o.1.ki.ar);clear JY;go_wp2_with fail;refine(mN XD.o 1 ZI).mono ?_;rintro en w9 ⟨rfl,k9,t9⟩;have T9:=qh (Tt.o.trans (t9.mono ahq));have H9:=qh k9;have Ra:l∉[a,g]:=(by have:=HO.o;simp;omega);have L5:Blk w9 l 240 (coC a b (kg:Int) (kl:Int) par bud ↑O.p (.slice A k cap) (slice (some ⟨w1.heap.size,0,none⟩) T.length T.length)):=T9.o.blk H.o.1 Ra;have o9:w9.ownsRow w8.heap.size 243 2 (.slice A k cap) k xs:=aa.own H.o.2.1 T9.o (λx hx=>by have:=(H.o.2.1.lt x hx).1;have:=HO.o;simp;omega);have c7:Z w9 l 7 (.slice A k cap):=L5.cell 7;have Z7:wo.heap.size<=w9.heap.size:=T9.o.size;have bc:=L5.lt;have Mm:(Value.slice A k cap).ownBlock≠some l:=λe=>by have:=(H.o.2.1.lt l e).1;omega
        have S0:=qh L5;have Yk:=qh t9
        have XF:=qh (show ∀q,(Value.slice A k cap).ownBlock=some q->∃cs,Blk w9 q 243 cs from λq hq=>by
          rcases o9.2 with⟨e,_⟩|⟨g',c',bF,e,_,ad,_⟩
          . injection e with e1 e2 e3;subst e1;simp[Value.ownBlock]at hq
          . injection e with e1 e2 e3;subst e1;simp only[Value.ownBlock,Option.some.injEq]at hq;subst hq
            exact⟨_,ad⟩)
        have U7:=qh o9;clear k9 t9 L5 o9 Ra;go_wp2_with (at_builtin;refine wpList_append_lies _ rfl _ _ 238 rfl w8.heap.size 243 j0 (agg #[.pointer none,J 0]) 2 16 Tryz.underlying238 HJ.o.1 HJ.o.2.1 HJ.o.2.2.1 HJ.o.2.2.2 rfl ahr _ _ _ rfl (U7.o.alloc _) ⟨w9.heap.size,0,none⟩ 1 1 [pointer (some ⟨y.p,0,none⟩),J ((s2.W.length:Int)+1)] rfl rfl (nQ _ _ _) ahU ahr ?c3 ?c4 ?c5 _ rfl ?_);case c3=>unfold maxLen;omega
        case c4=>omega
        case c5=>simp;omega
        intro g3 ab w10 h3 Kr NA Uf;have RU:=(S0.o.alloc (cells #[↑y.p,J ((s2.W.length:Int)+1)] 243)).grown Kr (λe=>Mm e.symm);have Qv:Z w10 l 7 (.slice A k cap):=RU.cell 7;have cu:=RU.free 7;obtain⟨w11,Rl⟩:=LE (w10.setCell ⟨l,7,none⟩ (slice (some ⟨g3,0,none⟩) (k+1) ab));have tr:aa (l :: (Value.slice A k cap).ownBlock.toList) w9 w11:=(by rw[Rl];exact(((aa.refl _ _).alloc _).trans ((aa.grownByQ Kr).mono λi hi=>List.mem_cons_of_mem _ hi)).trans ((aa.refl _ _).setCell (.inl ahq) _));have Vd:=qh (show Blk w11 l 240 (coC a b (kg:Int) (kl:Int) par bud ↑O.p (slice (some ⟨g3,0,none⟩) (k+1) ab) (slice (some ⟨w1.heap.size,0,none⟩) T.length T.length))from by rw[Rl];exact RU.set_ 7 _)
        have Ve:=qh (show w11.ownsRow w8.heap.size 243 2 (slice (some ⟨g3,0,none⟩) (k+1) ab) (k+1) (xs++[pointer (some ⟨y.p,0,none⟩),J ((s2.W.length:Int)+1)])from by
          rw[Rl];have ax:=(h3.lt g3 rfl).1
          exact aa.own h3 ((aa.refl [l] _).setCell (.inl ahq) _) (λx hx=>by injection hx with hx;subst hx;simp;omega))
        have VG:∀r,r<w8.heap.size->r≠l->r∉l :: (Value.slice A k cap).ownBlock.toList:=λr V MQ hm=>by
          rcases List.mem_cons.1 hm with e|e
          . exact MQ e
          . have:=(H.o.2.1.lt r ahE).1;omega
        have Pe:=qh (show NwQ w11 a g w8.heap.size o0 kg kl par N (mtQ P T) s7 O (k+1) (X++[y]) (gs++[cwN kl par (mtQ P T) s7 k]) (λi=>if wo.heap.size<=i then 5+k else o i)from by
          have e7:=UM.o;rw[<-S8.o,Tj.o]at e7;have e9:aB w9 a g (bp (aF kl (aI kl par (mtQ P T) s7 k) (mtQ P T k) par) 1):=(by rw[<-Tj.o,S8.o,<-ME.o];exact H9.o);have bW:=HO.o;refine H.o.2.2.1.step YS e7.1 Tt.o ⟨e7.2.1,e7.2.2.1,e7.2.2.2.1⟩ e7.2.2.2.2.2.2 e7.2.2.2.2.2.1 Yk.o e9 tr (VG a ahp ahp) (VG g ahp ahp) (λi hi=>?_);rcases List.mem_cons.1 hi with e|e
          . subst e;exact⟨_,_,S0.o,.inl rfl⟩
          . obtain⟨cs,Kf⟩:=XF.o i ahE
            exact⟨_,cs,Kf,.inr rfl⟩)
        have Ys:=qh (show((X++[y]).zip (gs++[cwN kl par (mtQ P T) s7 k])).flatMap ndE=xs++[pointer (some ⟨y.p,0,none⟩),J ((s2.W.length:Int)+1)]from by
          rw[Da _ _ _ _ (by rw[H.o.2.2.1.lX,H.o.2.2.1.lV]),<-Qs.o];have:((cwN kl par (mtQ P T) s7 k:Nat):Int)=(s2.W.length:Int)+1:=by unfold cwN;rw[<-Tj.o,S8.o,<-ME.o];omega
          rw[this])
        have Wv:∀x,(Value.slice A k cap).ownBlock=some x->w8.heap.size<=x:=λx hx=>(H.o.2.1.lt x hx).1
        have Tg:=qh (show aa [l,a,g] w8 w11 from by
          have t1:aa ([l,a,g]++(Value.slice A k cap).ownBlock.toList) w8 w11:=((H.o.2.2.2.mono λi hi=>List.mem_append_left _ hi).trans (T9.o.mono λi hi=>List.mem_append_left _ (by simp at hi ⊢;omega))).trans (tr.mono λi hi=>by
            rcases List.mem_cons.1 hi with e|e
            . exact List.mem_append_left _ (by simp[e])
            . exact List.mem_append_right _ e)
          refine t1.fresh λi hi=>?_;rcases List.mem_append.1 hi with hi|hi
          . exact .inl hi
          . exact .inr (Wv i ahQ))
        rw[Rl]at Vd Ve Pe Tg;clear h3 Kr NA RU S0 U7 H9 tr Rl Wv;go_wp2;go_roundw;case rel=>exact⟨k+1,_,_,_,_,by go_num,by omega,Vd.o,by rw[Ys.o];exact Ve.o,Pe.o,Tg.o⟩
        case measure=>simp[intOf];omega
    . obtain rfl:k=N:=by omega
      clear I r' hQ ht;go_wp2;go_ret2;have o':=HO.o;have s8:=T8.o.size;have s1:=K1.o.2.1.size;have cp:=H5.o.size;have W7:=Vq.o;have Mc:=Yt.o;have Rp:=hv.o;have bP:=T8.o.size;have Zz:=H.o;rw[Th.o.1,Qs.o,LW.o]at Zz
      have hQ:=Tf.o.turns H.o.2.2.2 (λi hi hB=>by
        have e:w5.drew.heap.size=w5.heap.size:=rfl;simp at hi
        omega)
      have al:w6.heap.size<=w8.heap.size:=by omega
      obtain⟨x,e1,e2,e3,e4,e5,Sf⟩:=Dx (bud:=bud) Zz.2.2.1 KM.o LG.o.1 LG.o.2.1 LG.o.2.2.1 LG.o.2.2.2 (by rw[<-LW.o];exact PQ) Zz.1 Zz.2.1 hQ (Yi.o.turns H.o.2.2.2 ahy) W7.2.2.2.2.1 W7.2.2.2.1 HS.o.2.1
        Rp.1 Rp.2.1 Rp.2.2.1 Rp.2.2.2.1 Rp.2.2.2.2 ahp ahp ahp ahp ahp (λi hi=>by omega)
      refine⟨x,_,JF e1,Sf,λi hi=>?_,?_⟩
      . have e:w5.drew.heap.size=w5.heap.size:=rfl;have u8:=H.o.2.2.2.size;rcases hi with hi|hi|hi|hi|⟨y,hy,hi⟩|hi
        . have:=Sf.lk.lt;omega
        . obtain⟨Zz,z⟩:=Sf.nd;have:=z.lt;omega
        . have:=Sf.sp.lt;omega
        . rw[e3]at hi;omega
        . rw[e4]at hy;obtain⟨n,hn,rfl⟩:=List.getElem_of_mem hy;have e9:=H.o.2.2.1.ls n _ (List.getElem?_eq_getElem hn);have l1:=e9.1.p.lt;have l2:=e9.1.ki.lk.lt;have l3:=e9.1.ki.sp.lt;have KU:=e9.2.2.2.2;clear e9;omega
        . omega
      . have t:aa [l,b,a,g] w wo:=(((aa.of_below (S:=[l,b,a,g]) K1.o.2.1).trans (H5.o.mono ahq)).trans T8.o).trans (H.o.2.2.2.mono ahq);exact t.fresh λi hi=>by simp at hi ⊢;omega
end
section
open Go.RowKit
structure kP(c:CoC)(n N L:Nat):Prop where
 k:(1<=c.kg/\c.kg<=5)/\1<=c.kl/\c.kl<=5
 inj:Inj c n
 nd:∀i,i<n->c.node i<N/\c.slot i<32
 N32:N<=32
 m:1<=c.m/\c.m<=4
 tg:1<=c.tg/\c.tg<=L
 tl:∀j,j<N->1<=c.tl j/\c.tl j<=L
structure bM(c:CoC)(n L:Nat)(B:Int)(o:Nat)(st:Co):Prop where
 bd:CoB c B st
 v:CoV c n st
 len:st.s.W.length=L
 ops:st.s.ops<=o
section
variable{c:CoC}{o:Nat}{B:Int}{st:Co}
def bM.step(h:bM c n L B o st)(k:kP c n N L)(Y:40<=B)(I:B<=10000000000000){i:Nat}(hi:i<n):bM c n L (B+2) (o+1) (am c st i):=by have h1:=k.nd i hi;have O:=k.N32;have V:=k.m;have H:=mH (c:=c) (st:=st) i;exact⟨yx h.bd ahp I i ahp ahp ahp,sB h.v k.inj k.k hi,by rw[H.2,h.len],by have:=H.1;have:=h.ops;omega⟩
def bM.ask(h:bM c n L B o st)(k:kP c n N L)(I:40<=B){i:Nat}(hi:i<n):bM c n L (B+2) (o+1) (bI c st i):=by have H:=vz (c:=c) (st:=st) i;exact⟨Aw h.bd ahp i,xa h.v k.inj hi,by rw[H.2,h.len],by have:=H.1;have:=h.ops;omega⟩
def bM.leave(h:bM c n L B o st)(k:kP c n N L)(I:40<=B){i:Nat}(hi:i<n):bM c n L (B+2) (o+1) (aA st i):=by have H:=rv (st:=st) i;exact⟨uK h.bd ahp i,pZ h.v k.inj hi,by rw[H.2,h.len],by have:=H.1;have:=h.ops;omega⟩
def bM.mono(h:bM c n L B o st){C:Int}(H:B<=C):bM c n L C o st:=⟨h.bd.mono H,h.v,h.len,h.ops⟩
end
section
variable{BD:Nat->Prop}{w:World}{a g:Nat}{x:Cox}{c:CoC}{st:Co}{o:Nat}{B:Int}
def bM.pre(h:bM c x.n L B o st)(k:kP c x.n x.N L)(f:xT BD a g x c P T)(V:40<=B)(I:B<=10000000000)(Y:o+1<=1000000000000):df B x c st:=by
 refine⟨by have:=h.ops;omega,h.bd,by omega,I,?_,λn y H=>?_,h.v⟩;.rw[<-f.tg];exact aR.2 (by rw[h.len];exact k.tg)
 .rw[<-(f.tl n y H).1];have O:n<x.N:=by rw[<-f.lX];exact(List.getElem?_eq_some_iff.1 H).1
  exact aR.2 (by rw[h.len];exact k.tl n O)
end
def nH{s:Ar}{k m:Nat}{B:Int}(h:WdB B s)(V:40<=B)(Y:n<=32):WdB B (aF k s n m):=by
 have h1:∀j,WdB B (bp s j):=λj v O=>by
  have I:v∈s.W++List.replicate j 0:=O;rcases List.mem_append.1 I with H|H
  .exact h v H
  .rw[(List.mem_replicate.1 H).2];omega
 unfold aF;split;.exact(h1 _).store _ _ ahp
 split;.exact(h1 _).store _ _ ahp
 .exact h1 _
def xZ{s:Ar}{B:Int}(h:WdB B s)(V:40<=B)(Y:∀n,f n<=32)(k:Nat):WdB B (aI kl par f s k):=by
 induction k with
 |zero=>exact h
 |succ k ih=>
  have h1:=nH (k:=kl) (m:=par) ih V (Y k);intro v O;have I:v∈(aF kl (aI kl par f s k) (f k) par).W++List.replicate 1 0:=O;rcases List.mem_append.1 I with H|H
  .exact h1 v H
  .rw[(List.mem_replicate.1 H).2];omega
def iT(k n:Nat):∀p∈ba k n,p.pc=0/\0<=p.a/\p.a<=n/\p.b=0:=by
 intro p h;unfold ba at h;split at h;.obtain⟨i,hi,rfl⟩:=List.mem_map.1 h;have:=List.mem_range.1 hi;exact⟨rfl,by show(0:Int)<=(i:Int)+1;omega,by show(i:Int)+1<=n;omega,rfl⟩
 .rw[(List.mem_replicate.1 h).2];exact⟨rfl,Int.le_refl _,by show(0:Int)<=n;omega,rfl⟩
def Gk(k:Nat){p:Sp}(h:p.pc=0):pcK k p:=by unfold pcK iQ;rw[h];exact aaI
def wh{k:Nat}{B:Int}(V:n<=32)(O:40<=B):∀p∈ba k n,SpB k B p:=λp h=>by
 obtain⟨_,h1,H,I⟩:=iT k n p h
 exact⟨h1,by omega,by omega,by omega,λ_=>by omega⟩
def fZ(kl par:Nat)(f:Nat->Nat)(s:Ar){k:Nat}(h:j<=k):(aI kl par f s j).W.length<=(aI kl par f s k).W.length:=by
 induction k with
 |zero=>obtain rfl:j=0:=ahp;exact Nat.le_refl _
 |succ k H=>
  by_cases e:j=k+1;.subst e;exact Nat.le_refl _
  .have:=H ahp;show _<=(bp (aF _ _ _ _) 1).W.length;rw[eo,a9];omega
def kf(kl par:Nat)(f:Nat->Nat)(s:Ar){k:Nat}(h:j<k):(aI kl par f s j).W.length+szK kl (f j) par+1<=(aI kl par f s k).W.length:=by refine Nat.le_trans ?_ (fZ kl par f s (show j+1<=k from h));show _<=(bp (aF _ _ _ _) 1).W.length;rw[eo,a9];omega
def EK(k n m:Nat):1<=szK k n m:=by exact aa2
def sH{k:Nat}(h:T[k]? =some y)(x:Int):(T.take (k+1)).count x=(T.take k).count x+if y==x then 1 else 0:=by rw[List.take_add_one,h,List.count_append,Option.toList_some,List.count_cons,List.count_nil,Nat.zero_add]
def CI(hc:a5 P T=0){i:Nat}(hi:i<T.length)(V:j<T.length)(h1:gc P T i=gc P T j)(O:cE T i=cE T j):i=j:=by
 have e:T.getD i 0=T.getD j 0:=by rw[<-(eH hc hi).2.1,<-(eH hc V).2.1,h1]
 obtain⟨y,H⟩:=ai hi;obtain⟨z,I⟩:=ai V;rw[bh H,bh I]at e;subst e;unfold cE at O;rw[bh H,bh I]at O
 have key:∀(i j:Nat),i<j->T[i]? =some y->(T.take i).count y<(T.take j).count y:=λi j Wn H=>by
  have Y:=sH H y;simp only[beq_self_eq_true,↓reduceIte]at Y;have e2:(T.take (i+1)).count y<=(T.take j).count y:=by have:(T.take (i+1)).Sublist (T.take j):=(List.take_prefix_take_left ahp).sublist;exact this.count_le y
  omega
 rcases Nat.lt_trichotomy i j with h|h|h
 .have:=key i j h H;omega
 .exact h
 .have:=key j i h I;omega
section
variable{s:Ar}
def vC(hc:a5 P T=0)(V:1<=kg/\kg<=5)(O:1<=kl/\kl<=5)(hp:1<=par/\par<=4):kP (eZ kg kl par bud P T s) T.length (ac P).length (bE kg kl par P T s).s.W.length:=by
  have I:=bi (aQ hc).1;have Y:T.length<=32:=I.2.2.2;have Mf:(ac P).length<=32:=by exact aax
  refine⟨⟨V,O⟩,λi j hi h h1 H=>?_,λi hi=>?_,Mf,?_,?_,λj h=>?_⟩;. have e1:=(eH hc hi).2.2.1;have e2:=(eH hc h).2.2.1;have TE:(cE T i).toNat=(cE T j).toNat:=H;exact CI hc hi h h1 ahp
  . obtain⟨h1,_,h3,h4⟩:=eH hc hi;have:=(oO (P:=P) Y (gc P T i)).2;exact⟨h1,by show(cE T i).toNat<32;omega⟩
  . show 1<=(par:Int)/\(par:Int)<=4;omega
  . show 1<=((s.W.length+1:Nat):Int)/\((s.W.length+1:Nat):Int)<=((aI _ _ _ _ _).W.length:Int);have h1:=fZ kl par (mtQ P T) (aF kg s (ac P).length par) (Nat.zero_le (ac P).length);have H:(aI kl par (mtQ P T) (aF kg s (ac P).length par) 0).W.length=s.W.length+szK kg (ac P).length par:=a9 _ _ _ _;have h3:=EK kg (ac P).length par;omega
  . show 1<=(((aI _ _ _ _ j).W.length+1:Nat):Int)/\(((aI _ _ _ _ j).W.length+1:Nat):Int)<=((aI _ _ _ _ _).W.length:Int);have h1:=kf kl par (mtQ P T) (aF kg s (ac P).length par) h;omega
def oQ(hc:a5 P T=0)(hs:WdB 40 s):bM (eZ kg kl par bud P T s) T.length (bE kg kl par P T s).s.W.length 40 (s.ops+40) (bE kg kl par P T s):=by
  have Kx:=bi (aQ hc).1;have Ma:T.length<=32:=Kx.2.2.2;have V:(ac P).length<=32:=by exact aax
  have hf:∀n,mtQ P T n<=32:=λn=>(oO Ma n).2;have Y:∀x∈(bE kg kl par P T s).L,∃n,x=ba kl (mtQ P T n):=λx I=>by obtain⟨n,_,rfl⟩:=List.mem_map.1 I;exact⟨n,rfl⟩
  have Kw:(bE kg kl par P T s).L.length=(ac P).length:=by simp[bE,JT]
  have O:∀n,n<(ac P).length->(bE kg kl par P T s).L.getD n []=ba kl (mtQ P T n):=λn hn=>by rw[List.getD_eq_getElem?_getD];simp[bE,JT,hn]
  refine⟨⟨xZ (nH hs ahp V) ahp hf _,wh V ahp,λx I=>?_,λp h=>?_⟩,⟨λp h=>Gk _ (iT _ _ p h).1,λx I p h=>?_,λi hi=>?_,by simp[bE],λi hi=>?_,λi hi=>?_⟩,rfl,?_⟩;. obtain⟨n,rfl⟩:=Y x I;exact wh (hf n) ahp
  . rw[(List.mem_replicate.1 h).2];exact⟨Int.le_refl _,by show(0:Int)<=40;omega⟩
  . obtain⟨n,rfl⟩:=Y x I;exact Gk _ (iT _ _ p h).1
  . left;refine⟨?_,?_⟩;. show(sv (List.replicate T.length Sp.zero) i).pc=0;unfold sv;rw[List.getD_eq_getElem?_getD,List.getElem?_replicate];split<;>rfl
    . have H:=eH hc hi;show(((bE kg kl par P T s).L.getD (gc P T i) []).getD (cE T i).toNat Sp.zero).pc=0;rw[O _ H.1];exact iK (P:=λp=>p.pc=0) (λp h=>(iT _ _ p h).1) rfl _
  . show gc P T i<(ba _ _).length;rw[gW];exact(eH hc hi).1
  . show gc P T i<_/\(cE T i).toNat<_;have H:=eH hc hi;rw[Kw];refine⟨H.1,?_⟩;show _<((bE kg kl par P T s).L.getD (gc P T i) []).length;rw[O _ H.1,gW];exact H.2.2.2
  . have h1:=oV kl par (mtQ P T) (aF kg s (ac P).length par) (ac P).length;have h2:=kr kg s (ac P).length par;show(aI _ _ _ _ _).ops<=_;omega
end
end
section
open Go
def qX(W X:List Int)(I:y<=(W.length:Int)):ldW (W++X) y=ldW W y:=by
 by_cases h:1<=y;.have h1:inR W y=true:=aR.2 ⟨h,I⟩;have H:inR (W++X) y=true:=aR.2 ⟨h,by rw[List.length_append];omega⟩;rw[jh h1,jh H,List.getD_eq_getElem?_getD,List.getElem?_append_left ahp,<-List.getD_eq_getElem?_getD]
 .rw[kY (iN.2 ahp),kY (iN.2 ahp)]
def xq(W:List Int)(j:Nat)(I:(W.length:Int)<y):ldW (W++List.replicate j 0) y=0:=by
 unfold ldW;split;.rw[List.getD_eq_getElem?_getD];rename_i h;have H:=aR.1 h;rw[List.getElem?_append_right ahp,List.getElem?_replicate];split<;>rfl
 .rfl
def kq(k:Nat)(s:Ar)(n m:Nat)(H:y<=(s.W.length:Int)):ldW (aF k s n m).W y=ldW s.W y:=by
 have e:ldW (bp s (szK k n m)).W y=ldW s.W y:=qX _ _ H
 have key:∀x v:Int,(s.W.length:Int)<x->ldW (ae (bp s (szK k n m)) x v).W y=ldW s.W y:=λx v I=>by
  rw[ay,<-e];unfold stW;split;.rename_i h;have:=gj h v y;unfold stW at this;rw[if_pos h]at this;rw[this,if_neg ahp]
  .rfl
 unfold aF;split;.exact key _ _ ahp
 split;.exact key _ _ ahp
 .exact e
section
variable{s:Ar}
def fB{k:Nat}(h:j<=k)(O:y<=((aI kl par f s j).W.length:Int)):ldW (aI kl par f s k).W y=ldW (aI kl par f s j).W y:=by
 induction k with
 |zero=>obtain rfl:j=0:=ahp;rfl
 |succ k I=>
  by_cases e:j=k+1;.subst e;rfl
  .have H:j<=k:=(by omega);have hm:=fZ kl par f s H;rw[<-I H];show ldW (bp (aF kl (aI kl par f s k) (f k) par) 1).W y=_;have h1:ldW (bp (aF kl (aI kl par f s k) (f k) par) 1).W y=ldW (aF kl (aI kl par f s k) (f k) par).W y:=qX _ _ (by rw[a9];omega);rw[h1];exact kq _ _ _ _ ahp
def uL{k:Nat}(h:j<k):ldW (aI kl par f s k).W (cwN kl par f s j:Nat)=0:=by
 rw[fB (j:=j+1) (k:=k) h];.show ldW (bp (aF kl (aI kl par f s j) (f j) par) 1).W _=0;exact xq _ _ (by unfold cwN;omega)
 .show _<=((bp (aF kl (aI kl par f s j) (f j) par) 1).W.length:Int);rw[eo];unfold cwN;omega
end
def qz{k m:Nat}:szI k n (m:Int)=(szK k n m:Nat):=by
 unfold szI szK;split;.rfl
 split;.rfl
 exact aaI
def qf(k n i:Nat):(sv (ba k n) i).pc=0:=iK (P:=λp=>p.pc=0) (λp h=>(iT k n p h).1) rfl i
def oA{k:Nat}(hk:1<=k/\k<=5)(s:Ar){m:Nat}(hm:1<=m):cj k (s.W.length+1:Nat) (m:Int) n (aF k s n m).W (ba k n):=by
 have hz:=a9 k s n m;refine⟨gW k n,by omega,by omega,by rw[hz,qz];omega,?_⟩;have p0:=qf k n;have V:∀y:Int,(s.W.length:Int)<y->y<=s.W.length+szK k n m->inR (bp s (szK k n m)).W y=true:=λy h1 h2=>aR.2 ⟨by omega,by rw[eo];omega⟩;have H:∀y:Int,(s.W.length:Int)<y->ldW (bp s (szK k n m)).W y=0:=λy hy=>xq _ _ hy;have Ko:k=1\/k=2\/k=3\/k=4\/k=5:=by omega
 rcases Ko with rfl|rfl|rfl|rfl|rfl
 .show gu _ n _ _;intro i hi hc;rw[p0]at hc;omega
 .show dG _ n (ldW (bp s 2).W) _;refine⟨?_,λi hi hc=>by rw[p0]at hc;omega,λi hi hc=>by rw[p0]at hc;omega,λi j hi O Y hc _=>by rw[p0]at hc;omega⟩;have e1:=H ((s.W.length+1:Nat)+1) ahp;have e2:=H (s.W.length+1:Nat) ahp;show ldW (bp s (szK 2 n m)).W _<=ldW (bp s (szK 2 n m)).W _;rw[e1,e2];exact Int.le_refl _
 .show ∃v,dW _ _ n (ldW (ae (bp s (szK 3 n m)) ((s.W.length:Int)+2) 1).W) _ v;rw[ay];have hw:=gj (V ((s.W.length:Int)+2) ahp (by show(s.W.length:Int)+2<=s.W.length+(1+m:Nat);omega)) 1;refine⟨0,Int.le_refl _,?_,λi hi hc=>by rw[p0]at hc;omega,λi hi hc=>by rw[p0]at hc;omega,λi j hi O Y hc _=>by rw[p0]at hc;omega,λq q0 q1=>?_,?_⟩;.rw[hw,if_neg ahp,H _ ahp];exact Int.le_refl _
  .rw[hw];split;.omega
   .rw[H _ ahp];omega
  .rw[hw,if_pos (by unfold pPl;rw[Int.zero_emod];omega)];rfl
 .have eN:∀x,fN (s.W.length+1:Nat) n (ldW (bp s (szK 4 n m)).W) x=0:=λx=>by unfold fN mNx;split<;>first|exact H _ ahp|rfl
  have nk:∀i,¬Fb (fW (s.W.length+1:Nat) n (ldW (bp s (szK 4 n m)).W)) (sv (ba 4 n)) i:=λi h=>by have h:10<=(sv (ba 4 n) i).pc\/(3<=(sv (ba 4 n) i).pc/\_):=h;rw[p0]at h;omega
  show McA n (ldW (bp s (szK 4 n m)).W _) (fN _ n (ldW (bp s (szK 4 n m)).W)) (fW _ n (ldW (bp s (szK 4 n m)).W)) _;refine⟨⟨λi j _ _ h=>absurd h (nk i),λ_ i _=>nk i⟩,by rw[H _ ahp];omega,?_,?_,λi _ hc=>by rw[H _ ahp]at hc;unfold numT at hc;omega,?_,λi j _ _ hc=>by rw[p0]at hc;omega,?_,λi j _ _ hc=>by rw[p0]at hc;omega,?_⟩;all_goals intro i _ hc;rw[p0]at hc;omega
 .show ∃e,ClA n (ldW (ae (bp s (szK 5 n m)) ((s.W.length:Int)+1) ((n:Int)+1)).W _) (fC _ n (ldW (ae (bp s (szK 5 n m)) ((s.W.length:Int)+1) ((n:Int)+1)).W)) _ e;rw[ay];have hw:=gj (V ((s.W.length:Int)+1) ahp (by show(s.W.length:Int)+1<=s.W.length+(n+2:Nat);omega)) ((n:Int)+1);have I:∀i,i<n->(sv (ba 5 n) i).a=(i:Int)+1:=λi hi=>by unfold sv ba;rw[List.getD_eq_getElem?_getD];simp[hi]
  refine⟨(n:Int)+1,by omega,λi hi=>by rw[I i hi];omega,λi j hi O Y=>by rw[I i hi,I j O]at Y;omega,λi hi=>by rw[I i hi];omega,?_,?_,?_,λi j _ _ hc=>by rw[p0]at hc;omega,.inl (by rw[hw,if_pos ahp]),?_,?_⟩
  .unfold fC;split;.rw[hw,if_neg ahp,H _ ahp]
   .rfl
  all_goals intro i _ hc;rw[p0]at hc;omega
def cj.grow{k:Nat}{t m:Int}{W H:List Int}{S:List Sp}(h:cj k t m n W S)(O:W.length<=H.length)(I:∀y,t<=y->y<t+szI k n m->ldW H y=ldW W y):cj k t m n H S:=
 ⟨h.len,h.m1,h.t1,by have:=h.t2;omega,h.i.congr h.m1 I⟩
section
variable{s:Ar}
def vl(hc:a5 P T=0)(Li:1<=kg/\kg<=5)(Lf:1<=kl/\kl<=5)(hp:1<=par/\par<=4):cD (eZ kg kl par bud P T s) T.length (ac P).length (mtQ P T):=by
 have h0:=vC (bud:=bud) (s:=s) hc Li Lf hp;obtain⟨s7,H⟩:=LE (aF kg s (ac P).length par);have Y:∀a,(eZ kg kl par bud P T s).cw a=((cwN kl par (mtQ P T) s7 a:Nat):Int):=λa=>by rw[H];rfl
 have O:∀a,(eZ kg kl par bud P T s).tl a=(((aI kl par (mtQ P T) s7 a).W.length+1:Nat):Int):=λa=>by rw[H];rfl
 have NV:∀a,(eZ kg kl par bud P T s).cw a=(eZ kg kl par bud P T s).tl a+(szK kl (mtQ P T a) par:Nat):=λa=>by rw[Y,O];unfold cwN;rw[a9];omega
 refine⟨h0.k,h0.inj,λi hi=>?_,λa V=>?_,λa V=>?_,λa V=>?_,λa b V I hn=>?_⟩;.have:=eH hc hi;exact⟨this.1,this.2.2.2⟩
 .rw[NV];show _=_+szI kl (mtQ P T a) ((par:Nat):Int);rw[qz]
 .show((s.W.length+1:Nat):Int)+szI kg (ac P).length ((par:Nat):Int)<=_;rw[qz,O];have h1:=fZ kl par (mtQ P T) s7 (Nat.zero_le a);have h2:(aI kl par (mtQ P T) s7 0).W.length=s.W.length+szK kg (ac P).length par:=by rw[H];exact a9 _ _ _ _
  omega
 .show 0<=szI kl (mtQ P T a) ((par:Nat):Int);rw[qz];omega
 .have key:∀a b,a<b->(eZ kg kl par bud P T s).cw a<(eZ kg kl par bud P T s).tl b:=λa b h=>by rw[Y,O];have:=kf kl par (mtQ P T) s7 h;unfold cwN;rw[a9];omega
  rcases Nat.lt_or_gt_of_ne hn with h|h
  .exact .inl (key a b h)
  .exact .inr (key b a h)
def xu(hc:a5 P T=0)(Li:1<=kg/\kg<=5)(Lf:1<=kl/\kl<=5)(hp:1<=par/\par<=4)(hs:WdB 40 s):CoM (eZ kg kl par bud P T s) T.length (ac P).length (mtQ P T) (bE kg kl par P T s):=by
 have mP:=oQ (kg:=kg) (kl:=kl) (par:=par) (bud:=bud) hc hs;have y:=vl (bud:=bud) (s:=s) hc Li Lf hp;obtain⟨s7,H⟩:=LE (aF kg s (ac P).length par);have O:(bE kg kl par P T s).s=aI kl par (mtQ P T) s7 (ac P).length:=by rw[H];rfl
 have ZH:(aI kl par (mtQ P T) s7 0).W.length=s.W.length+szK kg (ac P).length par:=by rw[H];exact a9 _ _ _ _
 have Kv:∀n,n<(ac P).length->(bE kg kl par P T s).L.getD n []=ba kl (mtQ P T n):=λn hn=>by rw[List.getD_eq_getElem?_getD];simp[bE,JT,hn]
 have QJ:∀j,(sv (bE kg kl par P T s).T j).pc=0:=λj=>by show(sv (List.replicate T.length Sp.zero) j).pc=0;exact aa4
 have OV:∀j,¬cO (sv (bE kg kl par P T s).T j):=λj I=>by unfold cO at I;rw[QJ]at I;omega
 refine⟨?_,λa h=>?_,by simp[bE,JT],λa h=>?_,mP.v,λj hj=>jS (OV j),λa h _=>?_⟩
 .have h1:=oA Li s (n:=(ac P).length) hp.1;rw[O];refine h1.grow ?_ (λx h2 Y=>?_);.have:=fZ kl par (mtQ P T) s7 (Nat.zero_le (ac P).length);rw[a9];omega
  .rw[qz]at Y;rw[fB (Nat.zero_le _) (by rw[ZH];omega),H];rfl
 .rw[Kv a h,O];have h1:=oA Lf (aI kl par (mtQ P T) s7 a) (n:=mtQ P T a) hp.1;have et:(eZ kg kl par bud P T s).tl a=(((aI kl par (mtQ P T) s7 a).W.length+1:Nat):Int):=by rw[H];rfl
  rw[et];refine h1.grow ?_ (λx h2 Y=>?_);.have:=kf kl par (mtQ P T) s7 h;rw[a9];omega
  .rw[qz]at Y;have e1:((aI kl par (mtQ P T) s7 (a+1)).W.length:Int)=(aI kl par (mtQ P T) s7 a).W.length+szK kl (mtQ P T a) par+1:=(by show((bp (aF _ _ _ _) 1).W.length:Int)=_;rw[eo,a9];omega);rw[fB (j:=a+1) h ahp];show ldW (bp (aF kl (aI kl par (mtQ P T) s7 a) (mtQ P T a) par) 1).W x=_;exact qX _ _ (by rw[a9];omega)
 .have V:(eZ kg kl par bud P T s).cw a=((cwN kl par (mtQ P T) s7 a:Nat):Int):=by rw[H];rfl
  rw[V,O];have:=kf kl par (mtQ P T) s7 h;unfold cwN;rw[a9];omega
 .have V:(eZ kg kl par bud P T s).cw a=((cwN kl par (mtQ P T) s7 a:Nat):Int):=by rw[H];rfl
  rw[V,O,uL h];show FrP (sv (ba kg (ac P).length) a) 0;unfold FrP;rw[qf];rfl
end
end
section
open Go Go.RowKit
def flV(l:Nat):Value:= .iface 181 (agg #[.iface 193 ↑l])
def bdF(N:Nat):Int:=40+2*(N:Int)
structure ir(k n m:Nat)(st:Ar×List Sp)(N:Nat):Prop where
 i:cj k 1 m n st.1.W st.2
 w:WdB (bdF N) st.1
 p:∀p∈st.2,SpB k (bdF N) p/\pcK k p
 o:st.1.ops<=N+1
def flS(k m:Nat)(st:Ar×List Sp)(i:Nat):Ar×List Sp:=((bK k 1 m st.1 i (sv st.2 i)).1,st.2.set i (bK k 1 m st.1 i (sv st.2 i)).2)
structure FlB where
 x:Fx
 hi:Nat
 bt:Nat
 a:Nat
 g:Nat
def FW(k n m:Nat):LkM n where
 σ:=Ar×List Sp
 β:=FlB
 ok:=λst N=>ir k n m st N
 ar:=λst=>st.1
 sp:=λst i=>sv st.2 i
 cn:=λst i=>if (sv st.2 i).pc=10 then 1 else 0
 rd:=false
 step:=flS k m
 ask:=λst i r=>if r then st else(st.1,st.2.set i (askK k (sv st.2 i)))
 leave:=λst i=>(st.1,st.2.set i (bm (sv st.2 i)))
 bt:=λb=>b.bt
 hi:=λb=>b.hi
 fp:=λb=>[b.a,b.g,b.x.q]
 is:=λb w a g lb st=>du w a g k b.x st.1 st.2/\(b.a=a/\b.g=g/\b.x.n=n/\b.x.m=m/\b.x.t=1)/\jy w lb n k (flV b.x.p) [b.a,b.g,b.x.q] b.bt b.hi/\(b.bt<=b.x.p/\b.x.p<b.hi)/\b.bt<=b.x.l/\b.x.l<b.hi
section
variable{k m:Nat}{st:Ar×List Sp}
def ir.at(h:ir k n m st N){i:Nat}(hi:i<n):SpB k (bdF N) (sv st.2 i)/\pcK k (sv st.2 i):=by
 have H:i<st.2.length:=by rw[h.i.len];exact hi
 exact h.p _ (List.mem_of_getElem? (qy H))
def ir.mono(h:ir k n m st N):ir k n m st (N+1):=⟨h.i,h.w.mono ahL,λp H=>⟨(h.p p H).1.mono ahL,(h.p p H).2⟩,by have:=h.o;omega⟩
def ir.set{s':Ar}{H:List Sp}(h:ir k n m st N){i:Nat}{q:Sp}(hi:cj k 1 m n s'.W H)(O:H=st.2.set i q)(hw:WdB (bdF N+2) s')(V:SpB k (bdF N+2) q/\pcK k q)(Y:s'.ops<=N+2):ir k n m (s',H) (N+1):=by
 have e:bdF (N+1)=bdF N+2:=by unfold bdF;omega
 refine⟨hi,by rw[e];exact hw,λp I=>?_,Y⟩;rw[e];rw[O]at I;rcases List.mem_or_eq_of_mem_set I with h1|rfl
 .exact⟨(h.p p h1).1.mono ahp,(h.p p h1).2⟩
 .exact V
def ir.pre(h:ir k n m st N)(hN:N<lkB)(V:1<=k/\k<=5){x:Fx}(I:x.n=n/\x.m=m/\x.t=1):kQ k x st.1 st.2 (bdF N):=
 ⟨by have:=h.o;unfold lkB at hN;omega,h.w,λp H=>(h.p p H).1,by unfold bdF;omega,by unfold bdF;unfold lkB at hN;omega,aR.2 (by
  have O:=h.i.t2
  have hm:=h.i.m1
  have Y:(1:Int)<=szI k n m:=by unfold szI;(repeat' split)<;>omega
  rw[I.2.2];omega)⟩
end
def yM{k m:Nat}(Y:1<=k/\k<=5)(hn:1<=n/\n<=32)(hm:1<=m/\m<=4):(FW k n m).Good where
 n32:=hn
 okS:=fun(st:Ar×List Sp) N i h hN hi=>by
  show ir k n m (flS k m st i) (N+1)
  replace h:ir k n m st N:=h
  obtain⟨hp,hc⟩:=h.at hi
  have I:bdF N<=10000000000000:=by unfold bdF;unfold lkB at hN;omega
  have J0:=qE (t:=1) (m:=m) (i:=(i:Int)) h.w hp ahL I ahL ahL
  exact h.set (h.i.step Y h.w ahL I hi hc).1 rfl J0.1 ⟨J0.2,(jU Y hc).1⟩ (Nat.le_trans (cZ k 1 m st.1 i _).1 (by have:=h.o;omega))
 okA:=fun(st:Ar×List Sp) N i r h _ hi=>by
  replace h:ir k n m st N:=h
  cases r
  .obtain⟨hp,hc⟩:=h.at hi
   exact h.set (h.i.ask Y hi) rfl (h.w.mono ahp) ⟨(uA hp ahL).mono ahp,nE hc⟩ (by have:=h.o;omega)
  .exact h.mono
 okL:=fun(st:Ar×List Sp) N i h _ hi=>by
  replace h:ir k n m st N:=h
  obtain⟨hp,hc⟩:=h.at hi
  exact h.set (h.i.leave Y hi) rfl (h.w.mono ahp) ⟨(nG hp).mono ahp,jk hc⟩ (by have:=h.o;omega)
 okm:=fun(st:Ar×List Sp) N (h:ir k n m st N)=>h.mono
 one:=fun(st:Ar×List Sp) N i j (h:ir k n m st N) hi hj h1 h2 _=>h.i.one Y hi hj h1 h2
 pcs:=fun(st:Ar×List Sp) N i (h:ir k n m st N) hi=>by
  have:=(h.at hi).2
  show 0<=(sv st.2 i).pc
  unfold pcK iQ at this
  (repeat' split at this)<;>omega
 cnt:=fun(st:Ar×List Sp) N i h hi=>by
  show(sv st.2 i).pc=10↔0<(if (sv st.2 i).pc=10 then(1:Int)else 0)
  split<;>simp[*]
 opsS:=fun(st:Ar×List Sp) N i _ _ _=>(cZ k 1 m st.1 i _).1
 arA:=fun(st:Ar×List Sp) i r=>by cases r<;>rfl
 arL:=fun(st:Ar×List Sp) i=>rfl
 ais:=fun(b:FlB) w a g lb (st:Ar×List Sp) h=>h.1.ki.ar
 lk:=fun(b:FlB) w a g lb (st:Ar×List Sp) h=>h.2.2.1.c1
 kd:=fun(b:FlB) w a g lb (st:Ar×List Sp) h=>⟨k,h.2.2.1.blk.cell 0,(decide_eq_false ahp).symm⟩
 fpa:=fun(b:FlB) w a g lb (st:Ar×List Sp) h=>⟨λx hx=>(h.2.2.1.fl x hx).2,h.2.2.1.hw⟩
 far:=fun(b:FlB) w a g lb (st:Ar×List Sp) w' S h t hS=>by
  obtain⟨k1,⟨rfl,rfl,hc⟩,hd,hp,hl⟩:=h
  have h9:∀x∈S,b.hi<=x\/x<b.bt:=hS
  have ha:=hd.fl b.a ahq
  have hg:=hd.fl b.g ahq
  have hq:=hd.fl b.x.q ahq
  exact⟨k1.turns t (λm=>by have:=h9 _ m;omega) (λm=>by have:=h9 _ m;omega) (λm=>by have:=h9 _ m;omega) (λm=>by have:=h9 _ m;omega) (λm=>by have:=h9 _ m;omega),⟨rfl,rfl,hc⟩,hd.far t h9,hp,hl⟩
 cS:=fun(b:FlB) w a g lb (st:Ar×List Sp) N i h O hN hi=>by
  obtain⟨k1,⟨rfl,rfl,hc⟩,hd,hp,hl⟩:=h
  replace O:ir k n m st N:=O
  have L0:i<st.2.length:=by rw[O.i.len];exact hi
  refine(om .fl hd.c1 hd.c2 hi (R:=λr w'=>r=dB (sv st.2 i) (sv (flS k m st i).2 i)/\du w' b.a b.g k b.x (flS k m st i).1 (flS k m st i).2/\aa [b.a,b.g,b.x.q] w w') λW H=>?_).mono ?_
  .have hx:=qO (k1.below H) (KOk.of Y) i _ (qy L0) (O.pre hN Y hc) (O.at hi).2
   unfold zO at hx
   rw[hc.2.2,hc.2.1]at hx
   refine hx.mono ?_
   rintro e w' ⟨rfl,k2,t2⟩
   refine⟨_,rfl,?_,k2,(aa.of_below H).trans t2⟩
   rw[show(flS k m st i).2=st.2.set i (bK k 1 m st.1 i (sv st.2 i)).2 from rfl,fV L0,if_pos rfl]
   rfl
  .exact aa5
 cA:=fun(b:FlB) w a g lb (st:Ar×List Sp) N i r h O hN hi=>by
  obtain⟨k1,⟨rfl,rfl,hc⟩,hd,hp,hl⟩:=h
  replace O:ir k n m st N:=O
  have L0:i<st.2.length:=by rw[O.i.len];exact hi
  have tq:∀{w w':World},aa [b.x.q] w w'->aa [b.a,b.g,b.x.q] w w':=λt=>t.mono ahq
  refine(yz .fl hd.c1 hd.c2 hi r (R:=λq w'=>q=decide ((sv st.2 i).pc=0/\(r=true->(false:Bool)=true))/\du w' b.a b.g k b.x (if r then st else(st.1,st.2.set i (askK k (sv st.2 i)))).1 (if r then st else(st.1,st.2.set i (askK k (sv st.2 i)))).2/\aa [b.a,b.g,b.x.q] w w') (λV W H=>?_) (λV W H=>?_)).mono ?_
  .subst V
   refine(uV (k1.below H) (KOk.of Y) i _ (qy L0)).mono ?_
   rintro e w' ⟨rfl,k2,t2⟩
   exact⟨_,rfl,by simp,k2,(aa.of_below H).trans (tq t2)⟩
  .subst V
   exact⟨by simp,k1.below H,aa.of_below H⟩
  .exact aa5
 cL:=fun(b:FlB) w a g lb (st:Ar×List Sp) N i h O hN hi=>by
  obtain⟨k1,⟨rfl,rfl,hc⟩,hd,hp,hl⟩:=h
  replace O:ir k n m st N:=O
  have L0:i<st.2.length:=by rw[O.i.len];exact hi
  have tq:∀{w w':World},aa [b.x.q] w w'->aa [b.a,b.g,b.x.q] w w':=λt=>t.mono ahq
  refine(kH .fl hd.c1 hd.c2 hi (R:=λq w'=>q=decide ((sv st.2 i).pc=10)/\du w' b.a b.g k b.x st.1 (st.2.set i (bm (sv st.2 i)))/\aa [b.a,b.g,b.x.q] w w') λW H=>?_).mono ?_
  .refine(oC (k1.below H) (KOk.of Y) i _ (qy L0)).mono ?_
   rintro e w' ⟨rfl,k2,t2⟩
   exact⟨_,rfl,rfl,k2,(aa.of_below H).trans (tq t2)⟩
  .exact aa5
 cP:=fun(b:FlB) w a g lb (st:Ar×List Sp) i h hi=>oj .fl h.2.2.1.c1 h.2.2.1.c2 hi _ λW H=>xi (h.1.below H) (KOk.of Y) i _ (qy (by rw[h.1.ki.n,h.2.1.2.2.1];exact hi))
 cC:=fun(b:FlB) w a g lb (st:Ar×List Sp) i h hi=>oe .fl h.2.2.1.c1 h.2.2.1.c2 hi _ λW H=>xi (h.1.below H) (KOk.of Y) i _ (qy (by rw[h.1.ki.n,h.2.1.2.2.1];exact hi))
end
section
open Go Go.RowKit
variable{w:World}{c:CoC}{st:Co}
def Ay(xl:Nat):Value:= .iface 173 (agg #[.iface 169 ↑xl])
structure nC where
 x:Cox
 B:Nat->Prop
 a:Nat
 g:Nat
 bt:Nat
 hi:Nat
def GN(c:CoC)(n Nn:Nat)(ml:Nat->Nat)(L:Nat)(st:Co)(N:Nat):Prop:=
 CoM c n Nn ml st/\bM c n L (40+2*N) (N+40) st/\∀i,(sv st.T i).pc=10->0<(sv st.T i).a
def FV(c:CoC)(P T:List Int)(L:Nat):LkM T.length where
 σ:=Co
 β:=nC
 ok:=GN c T.length (ac P).length (mtQ P T) L
 ar:=λst=>st.s
 sp:=λst i=>sv st.T i
 cn:=λst i=>if (sv st.T i).pc=10 then(sv st.T i).a else 0
 rd:=false
 step:=am c
 ask:=λst i r=>if r then st else bI c st i
 leave:=aA
 bt:=λb=>b.bt
 hi:=λb=>b.hi
 fp:=λb=>CoS b.a b.g b.x
 is:=λb w a g lb st=>aD b.B w a g b.x c P T st/\(b.a=a/\b.g=g)/\jy w lb T.length 6 (Ay b.x.l) (CoS b.a b.g b.x) b.bt b.hi/\∀i,eQ b.x b.B i->b.bt<=i/\i<b.hi
def aD.farK{B:Nat->Prop}{a g:Nat}{x:Cox}(h:aD B w a g x c P T st)(t:aa S w w')(ha:a∉S)(hg:g∉S)(hS:∀i∈S,¬eQ x B i):aD B w' a g x c P T st:=by
 have ar:=h.ar.turns t ha hg;have nb:∀r,eQ x B r->r∉S:=λr I hm=>hS r hm I;obtain⟨Y,z⟩:=h.nd
 refine⟨h.fx,ar,t.blk h.lk (nb _ (.inl rfl)),h.tb.turns t (λi hi I=>nb i (.inr (.inr (.inr (.inr (.inr I))))) hi),⟨Y,t.blk z (nb _ (.inr (.inl rfl)))⟩,
  h.sp.turns t (nb _ (.inr (.inr (.inl rfl)))),
  h.gl.oth t ar (nb _ (.inr (.inr (.inr (.inl (.inl rfl)))))) (nb _ (.inr (.inr (.inr (.inl (.inr (.inl rfl))))))) (nb _ (.inr (.inr (.inr (.inl (.inr (.inr rfl))))))),
  λn y V H O=>?_,h.lL,h.lG,h.lS,h.sl⟩
 have hm:y∈x.X:=List.mem_of_getElem? H;exact(h.lo n y V H O).oth t ar (nb _ (.inr (.inr (.inr (.inr (.inl ⟨y,hm,.inl rfl⟩)))))) (nb _ (.inr (.inr (.inr (.inr (.inl ⟨y,hm,.inr (.inl rfl)⟩)))))) (nb _ (.inr (.inr (.inr (.inr (.inl ⟨y,hm,.inr (.inr rfl)⟩))))))
def Az(c:CoC)(st:Co)(i:Nat)(p:Sp)(H:p.pc≠10)(h:(db c st i p).2.2.2.pc=10):0<(db c st i p).2.2.2.a:=by
 revert h;unfold db Ax sA;repeat' split
 all_goals (intro h;simp only at h ⊢;omega)
def Ft(st:Co)(i:Nat)(q:Sp)(j:Nat)(h:(sv st.T j).pc=10->0<(sv st.T j).a)(H:q.pc=10->0<q.a):(sv (st.T.set i q) j).pc=10->0<(sv (st.T.set i q) j).a:=by
 rw[cJ];split;.exact H
 .exact h
def AI{B:Nat->Prop}{a g:Nat}{x:Cox}(h:aD B w a g x c P T st)(i:Nat)(hi:i<x.n):E 234 #[↑x.l,J i] w λe w'=>e= returned (J (if (sv st.T i).pc=10 then(sv st.T i).a else 0))/\Below w.heap.size w w':=by
  have Y:=aO;have H:=qh (λw' (b:Below w.heap.size w w')=>mx (h.below b) i hi);obtain⟨p,V⟩:=LE (sv st.T i);rw[<-V]at H ⊢;clear h V;obtain⟨pc,u,b,z⟩:=p;unfold aC at H;simp only;by_cases O:pc=10;. subst O;rw[if_pos rfl];go_enter func234,ntmps234;go_wp2_with fail;refine Pi (H.o _ (Below.refl _ _)) λw1 b1=>?_;have I:=qh (((((b1.o.alloc b1.o.size (cells #[J 10,J u,J b,J z] 113))))));go_wp2;go_ret;exact⟨rfl,I.o⟩
  . rw[if_neg O];have t0:(pc !=10)=true:=(by simpa using O);go_enter func234,ntmps234;go_wp2_with fail;refine Pi (H.o _ (Below.refl _ _)) λw1 b1=>?_;have I:=qh (((((b1.o.alloc b1.o.size (cells #[J pc,J u,J b,J z] 113))))));go_wp2;go_ret;exact⟨rfl,I.o⟩
def yL(hc:a5 P T=0)(hy:cD c T.length (ac P).length (mtQ P T))(O:kP c T.length (ac P).length L):(FV c P T L).Good where
 n32:=by have:=bi (aQ hc).1;exact⟨this.2.2.1,this.2.2.2⟩
 okS:=fun(st:Co) N i h hN hi=>by
  unfold lkB at hN
  obtain⟨h1,h2,h3⟩:=h
  have k2:=h2.step O ahp ahp hi
  refine⟨h1.step hy h2.bd ahp ahp hi,⟨k2.bd.mono ahM,k2.v,k2.len,by have:=k2.ops;show(am c st i).s.ops<=_;omega⟩,λj=>?_⟩
  show(sv (am c st i).T j).pc=10->0<(sv (am c st i).T j).a
  unfold am
  split
  .exact h3 j
  .rename_i e
   exact Ft st i _ j (h3 j) (Az c st i _ ahp)
 okA:=fun(st:Co) N i r h hN hi=>by
  unfold lkB at hN
  obtain⟨h1,h2,h3⟩:=h
  cases r
  .have k2:=h2.ask O ahp hi
   refine⟨h1.ask hy hi,⟨k2.bd.mono ahM,k2.v,k2.len,by have:=k2.ops;show(bI c st i).s.ops<=_;omega⟩,λj=>?_⟩
   show(sv (bI c st i).T j).pc=10->0<(sv (bI c st i).T j).a
   unfold bI
   exact abk
  .exact⟨h1,⟨h2.bd.mono ahM,h2.v,h2.len,by have:=h2.ops;show st.s.ops<=_;omega⟩,h3⟩
 okL:=fun(st:Co) N i h hN hi=>by
  unfold lkB at hN
  obtain⟨h1,h2,h3⟩:=h
  have k2:=h2.leave O ahp hi
  refine⟨h1.leave hy hi,⟨k2.bd.mono ahM,k2.v,k2.len,by have:=k2.ops;show(aA st i).s.ops<=_;omega⟩,λj=>?_⟩
  show(sv (aA st i).T j).pc=10->0<(sv (aA st i).T j).a
  unfold aA
  exact abk
 okm:=fun(st:Co) N h=>⟨h.1,⟨h.2.1.bd.mono ahM,h.2.1.v,h.2.1.len,by have:=h.2.1.ops;show st.s.ops<=_;omega⟩,h.2.2⟩
 one:=fun(st:Co) N i j h hi hj h1 h2 _=>h.1.one hy hi hj (by have e:(sv st.T i).pc=10:=h1;omega) (by have e:(sv st.T j).pc=10:=h2;omega)
 pcs:=fun(st:Co) N i h hi=>by
  have:=h.1.v.k i hi
  unfold dm at this
  show 0<=(sv st.T i).pc
  omega
 cnt:=fun(st:Co) N i h hi=>by
  show(sv st.T i).pc=10↔0<(if (sv st.T i).pc=10 then(sv st.T i).a else 0)
  have:=h.2.2 i
  split
  .rename_i e;exact⟨λ_=>this e,λ_=>e⟩
  .rename_i e;exact⟨λq=>absurd q e,λq=>by omega⟩
 opsS:=fun(st:Co) N i _ _ _=>(mH i).1
 arA:=fun(st:Co) i r=>by
  cases r
  .show(bI c st i).s=st.s
   unfold bI;split<;>rfl
  .rfl
 arL:=fun(st:Co) i=>by
  show(aA st i).s=st.s
  unfold aA;split<;>rfl
 ais:=fun(b:nC) w a g lb (st:Co) h=>h.1.ar
 lk:=fun(b:nC) w a g lb (st:Co) h=>h.2.2.1.c1
 kd:=fun(b:nC) w a g lb (st:Co) h=>⟨6,h.2.2.1.blk.cell 0,rfl⟩
 fpa:=fun(b:nC) w a g lb (st:Co) h=>⟨λx hx=>(h.2.2.1.fl x hx).2,h.2.2.1.hw⟩
 far:=fun(b:nC) w a g lb (st:Co) w' S h t hS=>by
  obtain⟨k,⟨rfl,rfl⟩,hd,hl⟩:=h
  have Y:∀x∈S,b.hi<=x\/x<b.bt:=hS
  have hf:=hd.fl
  refine⟨k.farK t (λm=>?_) (λm=>?_) (λi m I=>?_),⟨rfl,rfl⟩,hd.far t Y,hl⟩
  .have:=Y _ m;have:=hf b.a ah0;omega
  .have:=Y _ m;have:=hf b.g ah0;omega
  .have:=Y _ m;have:=hl _ I;omega
 cS:=fun(b:nC) w a g lb (st:Co) N i h hk hN hi=>by
  unfold lkB at hN
  obtain⟨k,⟨rfl,rfl⟩,hd,hl⟩:=h
  have en:=k.fx.nT
  have eN:=k.fx.nN
  have C:=(en ▸ hk.2.1:bM c b.x.n L (40+2*N) (N+40) st).pre (by rw[en,eN];exact O) k.fx ahp ahp ahp
  have H:i<b.x.n:=by rw[en];exact hi
  refine(om .co hd.c1 hd.c2 hi (R:=λr w'=>r=dB (sv st.T i) (sv (am c st i).T i)/\aD b.B w' b.a b.g b.x c P T (am c st i)/\aa (CoS b.a b.g b.x) w w') λW bw=>?_).mono ?_
  .refine(mz (k.below bw) C i H).mono ?_
   exact abl
  .exact abm
 cA:=fun(b:nC) w a g lb (st:Co) N i r h hk hN hi=>by
  obtain⟨k,⟨rfl,rfl⟩,hd,hl⟩:=h
  have H:i<b.x.n:=by rw[k.fx.nT];exact hi
  refine(yz .co hd.c1 hd.c2 hi r (R:=λq w'=>q=decide ((sv st.T i).pc=0/\(r=true->(false:Bool)=true))/\aD b.B w' b.a b.g b.x c P T (if r then st else bI c st i)/\aa (CoS b.a b.g b.x) w w') (λV W bw=>?_) (λV W bw=>?_)).mono ?_
  .subst V
   refine(sf (k.below bw) i H).mono ?_
   exact abn
  .exact aaD
  .exact abm
 cL:=fun(b:nC) w a g lb (st:Co) N i h hk hN hi=>by
  obtain⟨k,⟨rfl,rfl⟩,hd,hl⟩:=h
  have H:i<b.x.n:=by rw[k.fx.nT];exact hi
  refine(kH .co hd.c1 hd.c2 hi (R:=λq w'=>q=decide ((sv st.T i).pc=10)/\aD b.B w' b.a b.g b.x c P T (aA st i)/\aa (CoS b.a b.g b.x) w w') λW bw=>?_).mono ?_
  .refine(kZ (k.below bw) i H).mono ?_
   exact abl
  .exact abm
 cP:=fun(b:nC) w a g lb (st:Co) i h hi=>oj .co h.2.2.1.c1 h.2.2.1.c2 hi _ λW bw=>mx (h.1.below bw) i (by rw[h.1.fx.nT];exact hi)
 cC:=fun(b:nC) w a g lb (st:Co) i h hi=>sI .co h.2.2.1.c1 h.2.2.1.c2 hi _ λW bw=>AI (h.1.below bw) i (by rw[h.1.fx.nT];exact hi)
end
section
open Go Go.RowKit
def qB(w:World)(a g n:Nat)(k:Int)(v:Value)(ms:MS n)(w':World):Prop:=
 ∀(w2:World) (lb:Nat),aa [lb] w' w2->lb<w.heap.size->lb≠a->lb≠g->Blk w2 lb 110 #[J k,J n,v]->∃b:ms.1.β,ms.1.Good/\ms.1.ok ms.2 0/\ms.1.is b w2 a g lb ms.2/\(∀x∈ms.1.fp b,w.heap.size<=x\/x=a\/x=g)/\min lb (min a g)<=ms.1.bt b
section
variable{w:World}{a g:Nat}{s:Ar}
def Hy(O:1<=n/\n<=32)(hs:s.ops=0){c:Mx}(k:bN w' c bud (ma0 s n))(hc:c.b.a=a/\c.b.g=g/\c.b.n=n/\(c.b.F:Int)=maF n)(h1:w.heap.size<=c.l)(Y:w.heap.size<=c.q)(h3:w.heap.size<=c.b.k):qB w a g n 10 (maV c.l) ⟨BO n bud,ma0 s n⟩ w':=by
 intro w2 lb t V ha hg I;have H:∀x∈mS c,w.heap.size<=x\/x=a\/x=g:=λx h=>by unfold mS at h;simp at h;omega
 have k2:=k.far t (λx h m=>by have:=H x h;simp at m;omega);have l1:=k2.lk.lt;have l2:=k2.sp.lt;have l3:=k2.bn.blk.lt;have l4:=k2.bn.ar.blk.lt;have l5:=k2.bn.ar.wds.lt;exact⟨(c,min lb (min a g),w2.heap.size),vj bud O,⟨Ik _ O.1,by show s.ops<=0;omega⟩,⟨k2,hc,I,λm=>by have:=H _ m;omega,⟨Nat.min_le_left _ _,I.lt⟩,λx h=>by unfold mS at h;simp at h;show min lb (min a g)<=x/\x<w2.heap.size;omega,Nat.le_refl _⟩,H,Nat.le_refl _⟩
def Hv(hc:a5 P T=0)(hd:0<=bud/\bud<=3)(hs:s.ops=0){l q b u hi:Nat}(k:bB w' l a g q b u lo hi bud P T (hc0 s (ac P).length T.length))(h1:w.heap.size<=l)(h2:w.heap.size<=q)(h4:w.heap.size<=u)(h5:w.heap.size<=lo):qB w a g T.length 8 (hcV l) ⟨FX bud P T,hc0 s (ac P).length T.length⟩ w':=by
 intro w2 lb t Y ha hg I;have O:1<=T.length/\T.length<=32:=by have:=bi (aQ hc).1;exact⟨this.2.2.1,this.2.2.2⟩
 have H:∀x∈[a,g,q,u],w.heap.size<=x\/x=a\/x=g:=λx h=>by simp at h;omega
 have k2:=k.far t (λx h m=>by simp at h m;omega) (λx m=>by simp at m;omega);have l1:=k2.lk.lt;have l2:=k2.sp.lt;have l3:=k2.tu.blk.lt;have l4:=k2.ar.blk.lt;have l5:=k2.ar.wds.lt;refine⟨⟨l,a,g,q,b,u,lo,hi,min lb (min a g),w2.heap.size⟩,yN hc hd,⟨⟨_,HOk.start _ O.2 (λt V=>(tQ k V).2) hs rfl⟩,λi=>?_⟩,⟨k2,⟨rfl,rfl⟩,⟨I,λm=>by have:=H _ m;omega,⟨Nat.min_le_left _ _,I.lt⟩,λx h=>by simp at h;show min lb (min a g)<=x/\x<w2.heap.size;omega,Nat.le_refl _⟩,⟨by show min lb (min a g)<=l;omega,l1⟩,by show min lb (min a g)<=lo;omega,k2.hs⟩,H,Nat.le_refl _⟩;show kW (sv (List.replicate T.length Sp.zero) i);rw[rJ];unfold kW Sp.zero;simp
def ct0(s:Ar):CtS n (cn0 s n):=by
 have e:∀i,sv (List.replicate n Sp.zero) i=Sp.zero:=λi=>rJ n i
 have w0:∀y,ldW (List.replicate (2+3*n) (0:Int)) y=0:=λy=>by
  unfold ldW;split;.exact iL _ _ _
  .rfl
 have H:∀x,aN (List.replicate (2+3*n) (0:Int)) x=0:=λx=>by unfold aN;rw[w0];split<;>rfl
 have I:∀x,aS (List.replicate (2+3*n) (0:Int)) x=0:=λx=>by unfold aS;rw[w0];split<;>rfl
 have h:∀x,aL (List.replicate (2+3*n) (0:Int)) x=0:=λx=>by unfold aL;rw[w0];split<;>rfl
 refine⟨⟨?_,?_,?_,?_,?_,?_,?_,?_,?_,?_,?_,?_,?_,?_,?_⟩,by simp[cn0],by simp[cn0]⟩;all_goals simp only[cn0,e,w0,H,I,h,WkB]
 .refine⟨?_,?_⟩<;>intros<;>simp_all [GH,i8,Sp.zero]
 all_goals try simp only[Sp.zero]
 all_goals first|omega|(intros;omega)
def Hs(nd:List Int)(hs:s.ops=0){c:Cx}{cap:Nat}(k:aq w' c cap bud nd (cn0 s nd.length))(hc:c.a=a/\c.g=g)(h1:w.heap.size<=c.l)(h2:w.heap.size<=c.q)(h3:w.heap.size<=c.k)(O:∀x∈[c.n1,c.nb,c.b0,c.b1,c.b2],w.heap.size<=x):qB w a g nd.length 9 (cnV c.l) ⟨BN bud nd nd.length,cn0 s nd.length⟩ w':=by
 intro w2 lb t MN ha hg I;simp only[List.mem_cons,List.not_mem_nil,or_false,forall_eq_or_imp,forall_eq]at O;have k2:=k.far t (λx h m=>by simp at h m;omega) (λx h m=>by simp at h m;omega);have l1:=k2.lk.lt;have l2:=k2.sp.lt;have l3:=k2.wk.blk.lt;have l4:=k2.ar.blk.lt;have l5:=k2.ar.wds.lt;have l6:=k2.wk.row.lt;have V:=aM (k2.row 0 (by have:=k2.n32;omega));have Y:=k2.p0.lt;have l9:=k2.p1.lt;have l0:=k2.p2.lt;have H:∀x∈cnF ⟨c,cap,min lb (min a g),w2.heap.size⟩,(w.heap.size<=x\/x=a\/x=g)/\x<w2.heap.size:=λx h=>by unfold cnF at h;simp at h;omega
 refine⟨⟨c,cap,min lb (min a g),w2.heap.size⟩,vi k2.n32,⟨ct0 s,by show s.ops<=0;omega⟩,⟨k2,hc,⟨I,λm=>by have:=H _ m;omega,⟨Nat.min_le_left _ _,I.lt⟩,λx h=>by have:=H x h;show min lb (min a g)<=x/\x<w2.heap.size;omega,Nat.le_refl _⟩,λx h=>by simp at h V Y l9 l0;show min lb (min a g)<=x/\x<w2.heap.size;omega⟩,λx h=>(H x h).1,Nat.le_refl _⟩
end
end
section
open Go.RowKit
structure SmX where
 l:Nat
 q:Nat
 b:Nat
 gg:Nat
 dd:Nat
 x:Cox
def smC(a:Nat)(X:SmX)(N n:Nat):Array Value:=#[↑a,↑X.b,↑X.gg,↑X.dd,J (2*(N:Int)+1),↑X.x.l,slice (some ⟨X.q,0,none⟩) n n]
structure aw(ty:TypeId)(B BC:Nat->Prop)(w:World)(a g:Nat)(X:SmX)(c:CoC)(P T:List Int)(st:Co)(d:Dr)(U:List Sp):Prop where
 lk:Blk w X.l ty (smC a X (ac P).length T.length)
 gd:GD w a g X.gg X.dd (ac P).length st.s d
 tb:dz B w X.b P T
 sp:SpR w X.q U
 co:aD BC w a g X.x c P T st
 lU:U.length=T.length
 o1:∀i∈CoS a g X.x,i≠X.l/\i≠X.q/\i≠X.gg/\i≠X.dd/\¬B i
 o2:¬eQ X.x BC X.q/\¬eQ X.x BC X.dd
 o3:X.q≠X.l/\X.q≠X.gg/\X.q≠X.dd/\¬B X.q
 o4:X.dd≠X.l/\X.dd≠X.gg/\¬B X.dd
section
variable{B:Nat->Prop}{w:World}{a g:Nat}{X:SmX}{x:Cox}{c:CoC}{st C':Co}{d d':Dr}{U:List Sp}{s':Ar}
def aD.arAway(h:aD BC w a g x c P T st)(t:aa S w w')(O:aB w' a g s')(hS:∀i∈S,i=a\/i=g\/¬eQ x BC i):aD BC w' a g x c P T {st with s:=s'}:=by
 have nb:∀r u,x.o r=u->u≠3->eQ x BC r->r∉S:=λr u e hu I hm=>by
  rcases hS r hm with H|H|H
  .rw[H,h.fx.oa]at e;exact hu e.symm
  .rw[H,h.fx.og]at e;exact hu e.symm
  .exact H I
 obtain⟨Zz,z⟩:=h.nd
 refine⟨h.fx,O,t.blk h.lk (nb _ _ h.fx.ol ahr (.inl rfl)),h.tb.turns t (λi hi I=>nb i _ (h.fx.oB i I) ahr (.inr (.inr (.inr (.inr (.inr I))))) hi),⟨Zz,t.blk z (nb _ _ h.fx.on ahr (.inr (.inl rfl)))⟩,
  h.sp.turns t (nb _ _ h.fx.os ahr (.inr (.inr (.inl rfl)))),
  h.gl.oth t O (nb _ _ h.fx.oG.1 ahr (.inr (.inr (.inr (.inl (.inl rfl)))))) (nb _ _ h.fx.oG.2.1 ahr (.inr (.inr (.inr (.inl (.inr (.inl rfl))))))) (nb _ _ h.fx.oG.2.2 ahr (.inr (.inr (.inr (.inl (.inr (.inr rfl))))))),
  λn y S' V PS=>?_,h.lL,h.lG,h.lS,h.sl⟩
 have hm:y∈x.X:=List.mem_of_getElem? V;have Y:=h.fx.oL n y V;exact(h.lo n y S' V PS).oth t O (nb _ _ Y.1 ahp (.inr (.inr (.inr (.inr (.inl ⟨y,hm,.inl rfl⟩)))))) (nb _ _ Y.2.1 ahp (.inr (.inr (.inr (.inr (.inl ⟨y,hm,.inr (.inl rfl)⟩)))))) (nb _ _ Y.2.2 ahp (.inr (.inr (.inr (.inr (.inl ⟨y,hm,.inr (.inr rfl)⟩))))))
def aw.agS(h:aw ty B BC w a g X c P T st d U):(a≠X.l/\a≠X.q/\a≠X.gg/\a≠X.dd/\¬B a)/\(g≠X.l/\g≠X.q/\g≠X.gg/\g≠X.dd/\¬B g):=
 ⟨h.o1 a ah0,h.o1 g ah0⟩
def aw.coT(h:aw ty B BC w a g X c P T st d U)(t:aa (CoS a g X.x) w w')(k:aD BC w' a g X.x c P T C'):aw ty B BC w' a g X c P T C' d U:=
 {h with lk:=t.blk h.lk (λm=>(h.o1 _ m).1 rfl),gd:={h.gd with ar:=k.ar,ga:=t.blk h.gd.ga (λm=>(h.o1 _ m).2.2.1 rfl),dr:=t.blk h.gd.dr (λm=>(h.o1 _ m).2.2.2.1 rfl)},tb:=h.tb.turns t (λi hi=>(h.o1 i hi).2.2.2.2),sp:=h.sp.turns t (λm=>(h.o1 _ m).2.1 rfl),co:=k}
def aw.gdT(h:aw ty B BC w a g X c P T st d U)(t:aa [a,g,X.dd] w w')(k:GD w' a g X.gg X.dd (ac P).length s' d'):aw ty B BC w' a g X c P T {st with s:=s'} d' U:=by
 obtain⟨H,hg⟩:=h.agS;have hm:∀r,r≠a->r≠g->r≠X.dd->r∉[a,g,X.dd]:=λr h1 O V=>by simp[h1,O,V]
 refine {h with lk:=t.blk h.lk (hm _ (λe=>H.1 e.symm) (λe=>hg.1 e.symm) (λe=>h.o4.1 e.symm)),gd:=k,tb:=h.tb.turns t (λi hi I=>?_),sp:=h.sp.turns t (hm _ (λe=>H.2.1 e.symm) (λe=>hg.2.1 e.symm) h.o3.2.2.1),co:=h.co.arAway t k.ar (λi hi=>?_)}
 .simp at hi;rcases hi with rfl|rfl|rfl
  .exact H.2.2.2.2 I
  .exact hg.2.2.2.2 I
  .exact h.o4.2.2 I
 .simp at hi;rcases hi with rfl|rfl|rfl
  .exact .inl rfl
  .exact .inr (.inl rfl)
  .exact .inr (.inr h.o2.2)
def aw.arT(h:aw ty B BC w a g X c P T st d U)(t:aa [a,g] w w')(H:aB w' a g s'):aw ty B BC w' a g X c P T {st with s:=s'} d U:=
 h.gdT (aJ t) (h.gd.op t H)
def aw.put(h:aw ty B BC w a g X c P T st d U){i:Nat}{p p':Sp}(Y:U[i]? =some p)(V:j<4)(O:(bf p).set j u=bf p'):aw ty B BC (w.setCell ⟨X.q,i*4+j,none⟩ u) a g X c P T st d (U.set i p'):=by obtain⟨I,hg⟩:=h.agS;have t:aa [X.q] w (w.setCell ⟨X.q,i*4+j,none⟩ u):=aV _ _ _;have H:=h.gd.ar.turns t (by simp;exact I.2.1) (by simp;exact hg.2.1);have k:=h.co.arAway t (s':=st.s) H (λi hi=> .inr (.inr (by simp at hi;rw[hi];exact h.o2.1)));refine {h with lk:=t.blk h.lk (by simp;exact λe=>h.o3.1 e.symm),gd:={h.gd with ar:=H,ga:=t.blk h.gd.ga (by simp;exact λe=>h.o3.2.1 e.symm),dr:=t.blk h.gd.dr (by simp;exact λe=>h.o3.2.2.1 e.symm)},tb:=h.tb.turns t (λi hi=>by simp at hi;rw[hi];exact h.o3.2.2.2),sp:=h.sp.put Y V O,co:=k,lU:=by rw[List.length_set];exact h.lU}
def aw.put0(h:aw ty B BC w a g X c P T st d U){i:Nat}{p p':Sp}(I:U[i]? =some p)(H:(bf p).set 0 u=bf p'):aw ty B BC (w.setCell ⟨X.q,i*4,none⟩ u) a g X c P T st d (U.set i p'):=h.put I (j:=0) ahr H
def aw.below(h:aw ty B BC w a g X c P T st d U)(b:Below w.heap.size w w'):aw ty B BC w' a g X c P T st d U:=
 have t:aa [] w w':=aa.of_below b
 {h with lk:=t.blk h.lk ahq,gd:=h.gd.below b,tb:=h.tb.turns t ahq,sp:=h.sp.turns t ahq,co:=h.co.below b}
def aw.nT(h:aw ty B BC w a g X c P T st d U):X.x.n=T.length/\X.x.N=(ac P).length/\T.length<=32/\(ac P).length<=32:=by have:=h.co.fx.n32;have H:=h.co.fx.nT;have I:=h.co.fx.nN;exact⟨H,I,by omega,by omega⟩
def aw.thr(h:aw ty B BC w a g X c P T st d U){i:Nat}(hi:i<T.length):U[i]? =some (sv U i):=by
 have:i<U.length:=by rw[h.lU];exact hi
 exact aat
def aw.cs(h:aw ty B BC w a g X c P T st d U):w.cell? X.l=some ↑a/\Z w X.l 1 ↑X.b/\Z w X.l 2 ↑X.gg/\Z w X.l 3 ↑X.dd/\Z w X.l 4 (J (2*((ac P).length:Int)+1))/\Z w X.l 5 ↑X.x.l/\Z w X.l 6 (slice (some ⟨X.q,0,none⟩) T.length T.length):=
 ⟨h.lk.cell 0,h.lk.cell 1,h.lk.cell 2,h.lk.cell 3,h.lk.cell 4,h.lk.cell 5,h.lk.cell 6⟩
def SmS(a g:Nat)(X:SmX):List Nat:=X.q :: X.dd :: CoS a g X.x
def gZ(t:aa (CoS a g X.x) w w'):aa (SmS a g X) w w':=t.mono (λi hi=>by unfold SmS;simp[hi])
def jm(t:aa [a,g,X.dd] w w'):aa (SmS a g X) w w':=t.mono (λi hi=>by unfold SmS CoS;simp at hi ⊢;rcases hi with rfl|rfl|rfl<;>simp)
def ff(t:aa [a,g] w w'):aa (SmS a g X) w w':=t.mono (λi hi=>by unfold SmS CoS;simp at hi ⊢;rcases hi with rfl|rfl<;>simp)
def dZ(i:Nat)(u:Value):aa (SmS a g X) w (w.setCell ⟨X.q,i,none⟩ u):=(aV _ _ _).mono (λi hi=>by unfold SmS;simp at hi;simp[hi])
end
end
section
open Go.RowKit
section
variable{B:Nat->Prop}{w:World}{a g:Nat}{X:SmX}{c:CoC}{st C':Co}{d d':Dr}{U:List Sp}{s':Ar}
def Jd(h:aw 330 B BC w a g X c P T st d U):E 366 #[↑X.l] w λe w'=>e= returned (J T.length)/\w=w':=by have c6:=h.cs.2.2.2.2.2.2;clear h;go_enter func366,ntmps366;exact aab
def Bt(h:aw 330 B BC w a g X c P T st d U)(i:Int)(r:Bool)(V:r=decide (okI U i)):E 367 #[↑X.l,J i] w λe w'=>e= returned (.bool r)/\w=w':=by
 have HT:=qh (Jd h);have J6:=h.lU;clear h;by_cases h0:0<=i
 .by_cases h1:i<T.length;.refine aj2 ?_;intro e;subst e;clear V;go_enter func367,ntmps367;exact aae
  .have e:r=false:=(by rw[V];exact decide_eq_false (λk=>h1 aiq));subst e;clear V;go_enter func367,ntmps367;exact abJ
 .have e:r=false:=by rw[V];exact decide_eq_false (λk=>h0 k.1)
  subst e;clear V;go_enter func367,ntmps367;exact aab
def pp(h:aw 330 B BC w a g X c P T st d U)(i:Int):E 364 #[↑X.l,J i] w λe w'=>e= returned (aC (getS U i))/\Below w.heap.size w w':=by
  refine ajb ?_;intro I H JZ JY J6;by_cases O:okI U i;. have V:=qh (Bt I i true (decide_eq_true O).symm);have hp:=dJ O;obtain⟨p,i'⟩:=LE (getS U i);rw[<-i']at hp ⊢;have c6:=h.cs.2.2.2.2.2.2;refine aiM ?_;intro a0 a1 a2 a3;obtain⟨Y,h1⟩:=id O;rw[J6]at h1;obtain⟨n,rfl⟩:=Int.eq_ofNat_of_zero_le Y;simp only[Int.toNat_natCast]at a0 a1 a2 a3;have t2:¬(n:Int)<0:=(by omega);have t4:n<T.length:=(by omega);clear h I hp i' Y h1 O J6;go_enter func364,ntmps364;go_wp2_with (go_at_call 367;refine V.o.mono ?_;rintro e w' ⟨rfl,rfl⟩);exact bodyPost_ret (results_cell_row aht _ _ w.heap.size 113 _ (0,0) _ aht (heap_alloc_new w _) Tryz.underlying113 rfl ahs) rfl ⟨rfl,(Below.refl _ _).alloc (Nat.le_refl _) _⟩
  . have V:=qh (Bt I i false (decide_eq_false O).symm);rw[dC O];clear h I O J6;go_enter func364,ntmps364;go_wp2_with (go_at_call 367;refine V.o.mono ?_;rintro e w' ⟨rfl,rfl⟩);exact bodyPost_ret (results_cell_row aht _ _ w.heap.size 113 _ (0,0) _ aht (heap_alloc_new w _) Tryz.underlying113 rfl ahs) rfl ⟨rfl,(Below.refl _ _).alloc (Nat.le_refl _) _⟩
end
end
section
open Go
def jd(n:Nat)(P:Nat->Bool):Nat:=(List.range n).countP P
def mc(n:Nat)(P:Nat->Bool):jd (n+1) P=jd n P+if P n then 1 else 0:=by unfold jd;rw[List.range_succ,List.countP_append,List.countP_singleton]
def jA{P Q:Nat->Bool}{i:Nat}(H:∀j,j≠i->Q j=P j):∀n,i<n->jd n Q+(if P i then 1 else 0)=jd n P+(if Q i then 1 else 0)
 |0,h=>by omega
 |n+1,h=>by
  rw[mc,mc];by_cases e:i=n;.subst e;have:jd i Q=jd i P:=(by unfold jd;refine List.countP_congr (λx O=>?_);rw[H x (by have:=List.mem_range.1 O;omega)]);rw[this];omega
  .have V:=jA (P:=P) (Q:=Q) H n ahp;rw[H n (λI=>e I.symm)];omega
def jB{P:Nat->Bool}:∀{n i:Nat},i<n->P i=true->0<jd n P
 |0,i,h,_=>by omega
 |n+1,i,h,H=>by
  rw[mc];by_cases e:i=n;.subst e;rw[H];simp
  .have:=jB (n:=n) (P:=P) (i:=i) ahp H;omega
section
variable{c:CoC}{st C':Co}
def CV(k n:Nat){m:Int}(h:1<=m):0<=szI k n m:=by unfold szI;(repeat' split)<;>omega
def CoM.low(h:CoM c n N ml st)(y:cD c n N ml){s':Ar}(V:s'.W.length=st.s.W.length)(I:∀x,c.tg<=x->ldW s'.W x=ldW st.s.W x)(O:CoV c n {st with s:=s'}):CoM c n N ml {st with s:=s'}:=by
 have hz:=CV c.kg N h.fG.m1;have hc:∀a,a<N->ldW s'.W (c.cw a)=ldW st.s.W (c.cw a):=λa H=>I _ (by have:=y.gl a H;have:=y.cw a H;have:=y.sz a H;omega);refine⟨h.fG.frame V (λx h1 _=>I x h1),λa H=>(h.fL a H).frame V (λx h1 _=>I x (by have:=y.gl a H;omega)),h.lL,λa H=>by show 1<=_/\_<=(s'.W.length:Int);rw[V];exact h.lW a H,O,λj Y=>?_,λa H hq=>?_⟩;.show StP _ _ (ldW s'.W _);rw[hc _ (y.nd j Y).1];exact h.sj j Y
 .show FrP _ (ldW s'.W _);rw[hc a H];exact h.fr a H hq
def CoV.ars(h:CoV c n st)(s':Ar):CoV c n {st with s:=s'}:=⟨h.g,h.l,h.k,h.lT,h.lG,h.lL⟩
def CoM.stepLow(h:CoM c n N ml st)(y:cD c n N ml){B:Int}(O:CoB c B st)(Kd:1<=B)(I:B<=10000000000000){i:Nat}(hi:i<n):∀x,x<c.tg->ldW (am c st i).s.W x=ldW st.s.W x:=by
  intro x hx;have H:=y.nd i hi;have hz:=CV c.kg N h.fG.m1;have g1:=y.gl _ H.1;have c1:=y.cw _ H.1;have s1:=y.sz _ H.1;have LS:=((h.fL _ H.1).step y.k.2 O.w ahp I H.2 (h.v.lpc hi)).2 x ahp;have Y:=(h.fG.step y.k.1 O.w ahp I H.1 (h.v.gpc hi)).2 x ahp;have V:∀u,ldW (stW st.s.W (c.cw (c.node i)) u) x=ldW st.s.W x:=λu=>by rw[gj (aR.2 (h.lW _ H.1)),if_neg ahp]
  have key:∀p,ldW (db c st i p).1.W x=ldW st.s.W x:=λp=>by
    unfold db Ax sA
    (repeat' split)<;>(try dsimp only)<;>first
      | rfl
      | exact LS
      | exact Y
      | (rw[aP])
      | (rw[ay];exact V _)
      | (unfold cy
         (repeat' split)<;>first|rfl|rw[aP])
  unfold am;split;. rfl
  . exact key _
def gx(c:CoC)(st:Co)(i:Nat):(bI c st i).s=st.s:=by unfold bI;split<;>rfl
def fz(st:Co)(i:Nat):(aA st i).s=st.s:=by unfold aA;split<;>rfl
def nY(h:CoV c n st){i:Nat}(hi:i<n)(H:j≠i):sv (am c st i).T j=sv st.T j:=by
 unfold am;split;.rfl
 .show sv (st.T.set i _) j=_;rw[svS (by have:=h.lT;omega),if_neg H]
def ii(h:CoV c n st){i:Nat}(hi:i<n):(j≠i->sv (bI c st i).T j=sv st.T j)/\((sv st.T i).pc=0->(sv (bI c st i).T i).pc=1):=by
 unfold bI;have hl:i<st.T.length:=by have:=h.lT;omega
 constructor;.exact abK
 .intro H;rw[if_pos H];show(sv (st.T.set i _) i).pc=1;rw[svS hl,if_pos rfl]
def eR(h:CoV c n st){i:Nat}(hi:i<n):(j≠i->sv (aA st i).T j=sv st.T j)/\((sv st.T i).pc=10->(sv (aA st i).T i).pc=11):=by
 unfold aA;have hl:i<st.T.length:=by have:=h.lT;omega
 constructor;.exact abK
 .intro H;rw[if_pos H];show(sv (st.T.set i _) i).pc=11;rw[svS hl,if_pos rfl]
def me(h:CoV c n st){i:Nat}(hi:i<n):(0<(sv st.T i).pc/\(sv st.T i).pc<10->(0<(sv (am c st i).T i).pc/\(sv (am c st i).T i).pc<=10)/\bo (sv st.T i) (sv (am c st i).T i)=decide ((sv (am c st i).T i).pc=10))/\
    (10<(sv st.T i).pc->((sv (am c st i).T i).pc=0\/10<(sv (am c st i).T i).pc)/\bo (sv st.T i) (sv (am c st i).T i)=decide ((sv (am c st i).T i).pc=0)):=by
  have Y:i<st.T.length:=by have:=h.lT;omega
  have H:=h.k i hi;obtain⟨p,O⟩:=LE (sv st.T i);have e:¬(p.pc=0\/p.pc=10)->sv (am c st i).T i=(db c st i p).2.2.2:=λV=>by unfold am;rw[<-O,if_neg V];show sv (st.T.set i _) i=_;rw[svS Y,if_pos rfl]
  rw[<-O]at H ⊢;refine⟨λhc=>?_,λhc=>?_⟩
  . rw[e ahp]
    have key:0<(db c st i p).2.2.2.pc/\(db c st i p).2.2.2.pc<=10:=by
      obtain⟨pc,u,b,z⟩:=p;have I:pc=1\/pc=2\/pc=3\/pc=4:=(by unfold dm at H;simp only at H hc;omega);rcases I with rfl|rfl|rfl|rfl
      . rw[mv1];simp only;split<;>simp
      . rw[mv2];split<;>simp
      . rw[mv3];simp only;split<;>simp
      . rw[mv4];simp
    exact⟨key,qG hc.1 hc.2 key.1⟩
  . rw[e ahp]
    have key:(db c st i p).2.2.2.pc=0\/10<(db c st i p).2.2.2.pc:=by
      obtain⟨pc,u,b,z⟩:=p;have I:pc=11\/pc=12\/pc=13\/pc=14\/pc=15\/pc=16:=(by unfold dm at H;simp only at H hc;omega);rcases I with rfl|rfl|rfl|rfl|rfl|rfl
      . rw[F2];simp only;split<;>simp
      . rw[F3];simp only;split<;>simp
      . rw[F4];simp
      . rw[F5];simp
      . rw[F6];split<;>simp
      . rw[F7];simp only;split<;>simp
    exact⟨key,nK hc key⟩
end
end
section
open Go
variable{p':Sp}{s':Ar}{W':List Int}
structure Nu where
 st:Co
 d:Dr
 U:List Sp
def nuFl(N:Nat):Int:=2*(N:Int)+1
def onA(st:Co)(s:Ar):Co:={st with s:=s}
def iw(c:CoC)(N:Nat)(x:Nu)(i:Nat)(pc:Int):Co×Dr×Bool:=
 if pc=1 then(onA x.st (addA x.st.s (gaA (c.node i)) 1),x.d,true)
 else if pc=3 then(bI c (onA x.st (addA x.st.s (gaW (c.node i)) 1)) i,x.d,true)
 else if pc=5 then(aA (onA x.st (addA x.st.s (gaA (c.node i)) 1)) i,x.d,true)
 else if pc=8 then(onA x.st (ae x.st.s (nuFl N) 1),dS x.d N false,true)
 else if pc=9 then(onA x.st (aj x.st.s x.d).1,(aj x.st.s x.d).2.1,(aj x.st.s x.d).2.2)
 else if pc=11 then(onA x.st (addA x.st.s (gaW (c.node i)) 1),x.d,true)
 else if pc=12 then(aA (onA x.st (ae x.st.s (nuFl N) 0)) i,x.d,true)
 else(am c x.st i,x.d,bo (sv x.st.T i) (sv (am c x.st i).T i))
def vF(pc:Int):Int:=if pc=6\/pc=9 then 10 else if pc=11\/pc=13 then 0 else pc+1
def nuTo(p:Sp)(r:Bool):Sp:=if r then {p with pc:=vF p.pc} else p
def cI(c:CoC)(N:Nat)(x:Nu)(i:Nat):Nu:=
 if (sv x.U i).pc=0\/(sv x.U i).pc=10 then x
 else if (sv x.U i).pc=2 then⟨onA x.st (af x.st.s (nuFl N)),x.d,x.U.set i {(sv x.U i)with pc:=if ldW x.st.s.W (nuFl N)=0 then 10 else 3}⟩
 else⟨(iw c N x i (sv x.U i).pc).1,(iw c N x i (sv x.U i).pc).2.1,x.U.set i (nuTo (sv x.U i) (iw c N x i (sv x.U i).pc).2.2)⟩
def cG(c:CoC)(x:Nu)(i:Nat)(read:Bool):Nu:=
 if (sv x.U i).pc=0 then if read then {x with U:=x.U.set i ⟨1,1,0,0⟩} else {x with st:=bI c x.st i,U:=x.U.set i ⟨7,0,0,0⟩} else x
def aK(x:Nu)(i:Nat):Nu:=if (sv x.U i).pc=10 then {x with U:=x.U.set i {(sv x.U i)with pc:=12-(sv x.U i).a}} else x
def jw(p:Sp):Bool:=decide (p.a=1/\(p.pc=2\/p.pc=3\/p.pc=6\/p.pc=10\/p.pc=11))
def fd(p:Sp):Prop:=p.a=1/\(p.pc=6\/p.pc=10\/p.pc=11)
def wrP(p:Sp):Prop:=p.a=0/\(p.pc=9\/p.pc=10\/p.pc=12)
def gV(p t:Sp):Prop:=
 (p.pc=0/\t.pc=0)\/(p.a=1/\(p.pc=1\/p.pc=2\/p.pc=3\/p.pc=10\/p.pc=11)/\t.pc=0)\/(p.a=1/\p.pc=4/\0<t.pc/\t.pc<10)\/(p.a=1/\p.pc=5/\t.pc=10)\/(p.a=1/\p.pc=6/\10<t.pc)\/
  (p.a=0/\p.pc=7/\0<t.pc/\t.pc<10)\/(p.a=0/\(p.pc=8\/p.pc=9\/p.pc=10\/p.pc=12)/\t.pc=10)\/(p.a=0/\p.pc=13/\10<t.pc)
def kF(c:CoC)(n:Nat)(U:List Sp)(a:Nat):Nat:=jd n (λj=>decide (c.node j=a)&&jw (sv U j))
def DrI(c:CoC)(n N:Nat)(d:Dr)(W:List Int)(U:List Sp):Prop:=
 (d.busy=true/\d.once=false/\d.at_<N/\d.lim=N)/\(d.second=true->d.o<=ldW W (gaW d.at_))/\∀j,j<n->fd (sv U j)->d.at_<=c.node j
structure NuI(c:CoC)(n N:Nat)(ml:Nat->Nat)(x:Nu):Prop where
 m:CoM c n N ml x.st
 lU:x.U.length=n
 k:∀i,i<n->gV (sv x.U i) (sv x.st.T i)
 g:∀a,a<N->ldW x.st.s.W (gaA a)=ldW x.st.s.W (gaW a)+(kF c n x.U a:Int)
 fl:∀i,i<n->wrP (sv x.U i)->ldW x.st.s.W (nuFl N)≠0
 dr:∀i,i<n->(sv x.U i).a=0->(sv x.U i).pc=9->DrI c n N x.d x.st.s.W x.U
 hd:∀i,i<n->(sv x.U i).a=0->(sv x.U i).pc=10->∀j,j<n->¬fd (sv x.U j)
section
variable{c:CoC}{x x':Nu}
def NuI.safe(h:NuI c n N ml x)(y:cD c n N ml){i:Nat}(hi:i<n)(h1:(sv x.U i).pc=10)(H:(sv x.U i).a=0)(hj:j<n)(I:(sv x.U j).pc=10):j=i/\(sv x.U j).a=0:=by
 have ki:=h.k i hi;have V:=h.k j hj;by_cases O:(sv x.U j).a=1;.exact absurd ⟨O,.inr (.inl I)⟩ (h.hd i hi H h1 j hj)
 .have t1:(sv x.st.T i).pc=10:=by unfold gV at ki;omega
  have t2:(sv x.st.T j).pc=10/\(sv x.U j).a=0:=by unfold gV at V;omega
  exact abL
def NuI.one(h:NuI c n N ml x)(y:cD c n N ml){i:Nat}(hi:i<n)(H:j<n)(h1:(sv x.st.T i).pc=10)(I:(sv x.st.T j).pc=10):i=j:=h.m.one y hi H ahp ahp
def JQ{p t:Sp}(h:gV p t)(hw:wrP p):t.pc=10:=by unfold gV at h;unfold wrP at hw;omega
def nW{U:List Sp}{i:Nat}(h:i<U.length)(hi:i<n)(p:Sp)(a:Nat):kF c n (U.set i p) a+(if c.node i=a/\jw (sv U i)=true then 1 else 0)=kF c n U a+(if c.node i=a/\jw p=true then 1 else 0):=by unfold kF;have:=jA (P:=λj=>decide (c.node j=a)&&jw (sv U j)) (Q:=λj=>decide (c.node j=a)&&jw (sv (U.set i p) j)) (i:=i) (λj H=>by rw[svS h,if_neg H]) n hi;simp only[Bool.and_eq_true,decide_eq_true_eq]at this;rw[svS h,if_pos rfl]at this;exact this
def NuI.upd(h:NuI c n N ml x){i:Nat}(hi:i<n){O:Co}{d':Dr}(hm:CoM c n N ml O)(hT:∀j,j≠i->sv O.T j=sv x.st.T j)(hk:gV p' (sv O.T i))(hg:∀a,a<N->ldW O.s.W (gaA a)=ldW O.s.W (gaW a)+(kF c n (x.U.set i p') a:Int))(ML:∀j,j<n->j≠i->wrP (sv x.U j)->ldW O.s.W (nuFl N)≠0)(TV:wrP p'->ldW O.s.W (nuFl N)≠0)(hH:∀a,a<N->ldW x.st.s.W (gaW a)<=ldW O.s.W (gaW a))(Mb:fd p'->fd (sv x.U i)\/∀j,j<n->j≠i->¬wrP (sv x.U j))(hd:∀j,j<n->j≠i->(sv x.U j).a=0->(sv x.U j).pc=9->d'=x.d)(od:p'.a=0->p'.pc=9->DrI c n N d' O.s.W (x.U.set i p'))(oh:p'.a=0->p'.pc=10->∀j,j<n->j≠i->¬fd (sv x.U j)):NuI c n N ml ⟨O,d',x.U.set i p'⟩:=by
  refine aj7 ?_;intro hl;have hs:=svS hl p';refine⟨hm,by rw[List.length_set];exact h.lU,λj Y=>?_,hg,λj Y hw=>?_,λj Y h0 h9=>?_,λj Y h0 h10=>?_⟩
  . show gV (sv (x.U.set i p') j) (sv O.T j);rw[hs];split;. rename_i e;rw[e];exact hk
    . rename_i e;rw[hT j e];exact h.k j Y
  . have LP:wrP (sv (x.U.set i p') j):=hw;rw[hs]at LP;split at LP;. exact TV LP
    . rename_i e;exact ML j Y e LP
  . have I:(sv (x.U.set i p') j).a=0:=h0;have H:(sv (x.U.set i p') j).pc=9:=h9;rw[hs]at I H;by_cases e:j=i;. rw[if_pos e]at I H;exact od I H
    . rw[if_neg e]at I H;obtain⟨q1,q2,q3⟩:=h.dr j Y I H;show DrI c n N d' O.s.W (x.U.set i p');rw[hd j Y e I H];refine⟨q1,λhq=>Int.le_trans (q2 hq) (hH _ q1.2.2.1),λk hk V=>?_⟩;rw[hs]at V;split at V
      . rename_i e2;rcases Mb V with h1|h1
        . rw[e2];exact q3 i hi h1
        . exact absurd ⟨I,.inl H⟩ (h1 j Y e)
      . exact q3 k hk V
  . have I:(sv (x.U.set i p') j).a=0:=h0;have H:(sv (x.U.set i p') j).pc=10:=h10;rw[hs]at I H;intro k hk V;have KQ:fd (sv (x.U.set i p') k):=V;rw[hs]at KQ;by_cases e:j=i
    . rw[if_pos e]at I H;split at KQ;. unfold fd at KQ;omega
      . rename_i e2;exact oh I H k hk e2 KQ
    . rw[if_neg e]at I H;split at KQ
      . rcases Mb KQ with h1|h1
        . exact h.hd j Y I H i hi h1
        . exact h1 j Y e ⟨I,.inr (.inl H)⟩
      . exact h.hd j Y I H k hk KQ
structure NuL(c:CoC)(N:Nat)(W:List Int):Prop where
 tg:c.tg=2*(N:Int)+2
 len:2*(N:Int)+1<=W.length
def eM{a:Nat}(h:a<N):1<=gaA a/\gaA a<nuFl N:=by unfold gaA nuFl;omega
def bG{a:Nat}(h:a<N):1<=gaW a/\gaW a<nuFl N:=by unfold gaW nuFl;omega
def vk(h:NuI c n N ml x)(y:cD c n N ml)(l:NuL c N x.st.s.W){z:Int}(hz:1<=z/\z<=nuFl N)(v:Int)(e:s'.W=stW x.st.s.W z v):(∀q,ldW s'.W q=if q=z then v else ldW x.st.s.W q)/\CoM c n N ml (onA x.st s'):=by exact abM
def BV(h:NuI c n N ml x)(y:cD c n N ml)(e:s'.W=x.st.s.W):CoM c n N ml (onA x.st s'):=
 h.m.low y (by rw[e]) (λq _=>by rw[e]) (h.m.v.ars s')
def Fs(h:NuI c n N ml x){i:Nat}(hi:i<n)(I:jw p'=jw (sv x.U i))(a:Nat):kF c n (x.U.set i p') a=kF c n x.U a:=by have:=nW (c:=c) (n:=n) (show i<x.U.length by rw[h.lU];exact hi) hi p' a;rw[I]at this;omega
def eA(h:NuI c n N ml x){i:Nat}(hi:i<n)(I:jw p'=jw (sv x.U i))(hw:∀q,q<nuFl N->ldW W' q=ldW x.st.s.W q):∀a,a<N->ldW W' (gaA a)=ldW W' (gaW a)+(kF c n (x.U.set i p') a:Int):=λa H=>by
 rw[hw _ (eM H).2,hw _ (bG H).2,Fs h hi I a];exact h.g a H
def Hj(h:NuI c n N ml x)(hn:∀j,j<n->c.node j<N){i:Nat}(hi:i<n)(h0:jw (sv x.U i)=false)(h1:jw p'=true)(hw:∀q,ldW W' q=if q=gaA (c.node i)then ldW x.st.s.W (gaA (c.node i))+1 else ldW x.st.s.W q):∀a,a<N->ldW W' (gaA a)=ldW W' (gaW a)+(kF c n (x.U.set i p') a:Int):=λa ha=>by
 have h2:=nW (c:=c) (n:=n) (show i<x.U.length by rw[h.lU];exact hi) hi p' a
 exact abN
def EY(h:NuI c n N ml x)(hn:∀j,j<n->c.node j<N){i:Nat}(hi:i<n)(h0:jw (sv x.U i)=true)(h1:jw p'=false)(hw:∀q,ldW W' q=if q=gaW (c.node i)then ldW x.st.s.W (gaW (c.node i))+1 else ldW x.st.s.W q):∀a,a<N->ldW W' (gaA a)=ldW W' (gaW a)+(kF c n (x.U.set i p') a:Int):=λa ha=>by
 have h2:=nW (c:=c) (n:=n) (show i<x.U.length by rw[h.lU];exact hi) hi p' a
 exact abO
end
end
section
open Go.RowKit
def kD(a b:Int):Bool:=decide (((a=0\/a=10)/\b≠a)\/(¬(a=0\/a=10)/\(b=0\/b=10)))
def bQ{a b:Int}(u0:(a==0)=false)(u1:(a==10)=false)(v1:(b==10)=true):true=kD a b:=by simp at u0 u1 v1;exact(decide_eq_true ahp).symm
def bS{a b:Int}(u0:(a==0)=false)(u1:(a==10)=false)(v2:(b==0)=true):true=kD a b:=by simp at u0 u1 v2;exact(decide_eq_true ahp).symm
def bU{a b:Int}(u0:(a==0)=false)(u1:(a==10)=false)(v1:(b==10)=false)(v2:(b==0)=false):false=kD a b:=by simp at u0 u1 v1 v2;exact(decide_eq_false ahp).symm
def bO{b:Int}(h:b≠10):true=kD 10 b:=(decide_eq_true ahp).symm
def ic(a:Int):false=kD a a:=(decide_eq_false ahp).symm
def av(ty:TypeId)(B BC:Nat->Prop)(w:World)(a g:Nat)(X:SmX)(c:CoC)(P T:List Int)(U:List Sp)(n:Nat)(x':Nu)(e:Ending)(w':World):Prop:=
 e= returned (bool (kD (sv U n).pc (sv x'.U n).pc))/\aw ty B BC w' a g X c P T x'.st x'.d x'.U/\aa (SmS a g X) w w'
section
variable{B:Nat->Prop}{w:World}{a g:Nat}{X:SmX}{c:CoC}{U:List Sp}{x':Nu}{e:Ending}{p p':Sp}{r:Bool}
def av.stay(k:aw ty B BC w' a g X c P T x'.st x'.d x'.U)(t:aa (SmS a g X) w w')(h:x'.U=U):av ty B BC w a g X c P T U n x' (returned (bool false)) w':=
 ⟨by rw[h,<-ic],k,t⟩
def av.put(h:U[n]? =some p)(k:aw ty B BC w' a g X c P T x'.st x'.d x'.U)(t:aa (SmS a g X) w w')(O:x'.U=U.set n p')(V:r=kD p.pc p'.pc):av ty B BC w a g X c P T U n x' (returned (.bool r)) w':=by
 refine⟨?_,k,t⟩;obtain⟨I,Y⟩:=List.getElem?_eq_some_iff.1 h;have H:sv U n=p:=by unfold sv;rw[List.getD_eq_getElem?_getD,h];rfl
 rw[O,V,H,cJ,if_pos ⟨rfl,I⟩]
end
section
variable{B:Nat->Prop}{w:World}{a g:Nat}{X:SmX}{c:CoC}{st C':Co}{d d':Dr}{U:List Sp}{s':Ar}
def aw.put4(h:aw ty B BC w a g X c P T st d U)(Y:n<T.length)(p':Sp):aw ty B BC ((((w.setCell ⟨X.q,n*4,none⟩ (J p'.pc)).setCell ⟨X.q,n*4+1,none⟩ (J p'.a)).setCell ⟨X.q,n*4+2,none⟩ (J p'.b)).setCell ⟨X.q,n*4+3,none⟩ (J p'.c)) a g X c P T st d (U.set n p'):=by have H:=h.thr Y;obtain⟨p,e⟩:=LE (sv U n);rw[<-e]at H;have h1:=h.put0 H (u:= J p'.pc) (p':=⟨p'.pc,p.a,p.b,p.c⟩) rfl;have O:=h1.put (au H _) (j:=1) (u:= J p'.a) (p':=⟨p'.pc,p'.a,p.b,p.c⟩) ahr rfl;have V:=O.put (au (au H _) _) (j:=2) (u:= J p'.b) (p':=⟨p'.pc,p'.a,p'.b,p.c⟩) ahr rfl;have I:=V.put (au (au (au H _) _) _) (j:=3) (u:= J p'.c) (p':=p') ahr rfl;simp only[List.set_set]at I;exact I
def fg(w:World)(n:Nat)(u0 u1 u2 u3:Value):aa (SmS a g X) w ((((w.setCell ⟨X.q,n*4,none⟩ u0).setCell ⟨X.q,n*4+1,none⟩ u1).setCell ⟨X.q,n*4+2,none⟩ u2).setCell ⟨X.q,n*4+3,none⟩ u3):=
 (((dZ _ _).trans (dZ _ _)).trans (dZ _ _)).trans (dZ _ _)
end
section
variable{B:Nat->Prop}{w:World}{a g:Nat}{X:SmX}{c:CoC}{st C':Co}{d d':Dr}{U:List Sp}{s':Ar}
def Fl(h:aw 330 B BC w a g X c P T st d U)(n:Nat)(hn:n<T.length)(r:Bool):E 361 #[↑X.l,J n,.bool r] w (av 330 B BC w a g X c P T U n (cG c ⟨st,d,U⟩ n r)):=by
 have mP:okI U (n:Int):=⟨by omega,by rw[h.lU];omega⟩;have HH:=qh (Bt h n true (decide_eq_true mP).symm);have hp:=h.thr hn;have H:=qh h;have V:=h.nT;have HA:=qh (sf h.co n (by rw[V.1];exact hn));obtain⟨x',O⟩:=LE (cG c ⟨st,d,U⟩ n r);rw[<-O];unfold cG at O;obtain⟨p,Y⟩:=LE (sv U n);simp only at O;rw[<-Y]at hp O;have c6:=h.cs.2.2.2.2.2.2;have c5:=h.cs.2.2.2.2.2.1;refine aiM ?_;intro a0 a1 a2 a3;have f1:∀j,w.frozen? ⟨X.q,j,none⟩=false:=λj=>h.sp.free j;have t2:¬(n:Int)<0:=by omega
 have HX:=qh O;have HP:=qh hp;clear h hp Y mP V O;by_cases I:p.pc=0
 .have y1:(p.pc !=0)=false:=by simpa using I
  have HP0:=qh I;clear I;cases r;.go_enter func361,ntmps361;exact abP
  .go_enter func361,ntmps361;exact abQ
 .have y1:(p.pc !=0)=true:=by simpa using I
  have HP0:=qh I;clear I;go_enter func361,ntmps361;exact abR
def BJ(h:aw 330 B BC w a g X c P T st d U)(n:Nat)(hn:n<T.length)(I:(sv U n).pc=10->(sv U n).a=0\/(sv U n).a=1):E 362 #[↑X.l,J n] w (av 330 B BC w a g X c P T U n (aK ⟨st,d,U⟩ n)):=by
 have Kh:=aO;have I':=pp h n;have V:=h.thr hn;have hg:getS U (n:Int)=sv U n:=by exact abS
 rw[hg]at I';refine ajW ?_;intro H x' p i' mT;rw[<-i']at V mT I' I;have HS:=qh I';have HX:=qh mT;have HP:=qh V;refine ajP ?_;intro t2 My;clear h V i' mT hg I';obtain⟨pc,u,b,z⟩:=p;simp only at I HX;unfold aC at HS;by_cases Kl:pc=10
 .subst Kl;have K7:=I rfl;obtain⟨v,O⟩:=LE (12-u);have x1:IntKind.i64.wrap (12-u)=v:=by rw[O];exact IntWalk.i64_in _ ahp
  rw[<-O]at HX;have HV:Kq (v≠10):=qh ahp;clear I K7 O;have HC:=qh (λW (U':List Sp) (J9:Int) (k:aw 330 B BC W a g X c P T st d U') (V:U'[n]? =some (⟨J9,u,b,z⟩:Sp))=>And.intro k.cs.2.2.2.2.2.2 (k.sp.cell V 1 _ rfl));go_enter func362,ntmps362;go_wp2_with fail;refine ajJ ?_;intro w1 b1 K1 T1 K0;have K3:=qh ((K0.o.put0 HP.o (p':=(⟨v,u,b,z⟩:Sp)) (u:= J v) rfl).below (Below.refl _ _).drew);have T3:=qh (show aa (SmS a g X) w ((w1.setCell ⟨X.q,n*4,none⟩ (J v)).drew)from((aa.of_below b1.o).trans (dZ _ _)).drew);have e0:=aaa (K1.o.sp.cell HP.o 0 _ rfl);have z0:=K1.o.sp.free (n*4);go_wp2_with fail
  go_region_held3 (λW=>Z W X.l 6 (slice (some ⟨X.q,0,none⟩) T.length T.length)/\Z W X.q (n*4+1) (J u))
   (first|with_reducible exact HC.o _ _ _ K1.o HP.o|with_reducible exact HC.o _ _ _ K3.o (au HP.o _))
   (first|fail)
  exact abT
 .have y1:(pc !=10)=true:=by simpa using Kl
  have HP0:=qh Kl;clear Kl I;go_enter func362,ntmps362;go_wp2_with fail;refine Pi HS.o λw1 Y=>?_;go_wp2;go_ret;rw[HX.o,if_neg HP0.o];first|exact av.stay (H.o.below Y.o) (aa.of_below Y.o) rfl|exact av.put HP.o (H.o.below Y.o) (aa.of_below Y.o) rfl ahz
end
end
section
open Go.RowKit
def dr0:Dr:=⟨0,0,false,false,false,0,false⟩
def FG(w:World)(gg:Nat):E 175 #[↑gg] w λe w'=>∃d,e= returned (pointer (some ⟨d,0,none⟩))/\Below w.heap.size w w'/\Blk w' d 367 (drC gg dr0)/\d=w.heap.size:=by go_enter func175,ntmps175;go_wp2;go_ret;exact⟨_,rfl,(Below.refl _ _).alloc (Nat.le_refl _) _,Blk.new w 367 (drC gg dr0),rfl⟩
def smA(s:Ar)(N:Nat):Ar:=bp (bp s (2*N)) 1
end
section
open Go.RowKit
section
variable{B:Nat->Prop}{w:World}{a g:Nat}{X:SmX}{c:CoC}{st C':Co}{d d':Dr}{U:List Sp}{s':Ar}
def Je(h:aw 335 B BC w a g X c P T st d U):E 390 #[↑X.l] w λe w'=>e= returned (J T.length)/\w=w':=by have c6:=h.cs.2.2.2.2.2.2;clear h;go_enter func390,ntmps390;exact aab
def Bu(h:aw 335 B BC w a g X c P T st d U)(i:Int)(r:Bool)(V:r=decide (okI U i)):E 391 #[↑X.l,J i] w λe w'=>e= returned (.bool r)/\w=w':=by
 have HT:=qh (Je h);have J6:=h.lU;clear h;by_cases h0:0<=i
 .by_cases h1:i<T.length;.refine aj2 ?_;intro e;subst e;clear V;go_enter func391,ntmps391;exact aae
  .have e:r=false:=(by rw[V];exact decide_eq_false (λk=>h1 aiq));subst e;clear V;go_enter func391,ntmps391;exact abJ
 .have e:r=false:=by rw[V];exact decide_eq_false (λk=>h0 k.1)
  subst e;clear V;go_enter func391,ntmps391;exact aab
def pr(h:aw 335 B BC w a g X c P T st d U)(i:Int):E 388 #[↑X.l,J i] w λe w'=>e= returned (aC (getS U i))/\Below w.heap.size w w':=by
  refine ajb ?_;intro I H JZ JY J6;by_cases O:okI U i;. have V:=qh (Bu I i true (decide_eq_true O).symm);have hp:=dJ O;obtain⟨p,i'⟩:=LE (getS U i);rw[<-i']at hp ⊢;have c6:=h.cs.2.2.2.2.2.2;refine aiM ?_;intro a0 a1 a2 a3;obtain⟨Y,h1⟩:=id O;rw[J6]at h1;obtain⟨n,rfl⟩:=Int.eq_ofNat_of_zero_le Y;simp only[Int.toNat_natCast]at a0 a1 a2 a3;have t2:¬(n:Int)<0:=(by omega);have t4:n<T.length:=(by omega);clear h I hp i' Y h1 O J6;go_enter func388,ntmps388;go_wp2_with (go_at_call 391;refine V.o.mono ?_;rintro e w' ⟨rfl,rfl⟩);exact bodyPost_ret (results_cell_row aht _ _ w.heap.size 113 _ (0,0) _ aht (heap_alloc_new w _) Tryz.underlying113 rfl ahs) rfl ⟨rfl,(Below.refl _ _).alloc (Nat.le_refl _) _⟩
  . have V:=qh (Bu I i false (decide_eq_false O).symm);rw[dC O];clear h I O J6;go_enter func388,ntmps388;go_wp2_with (go_at_call 391;refine V.o.mono ?_;rintro e w' ⟨rfl,rfl⟩);exact bodyPost_ret (results_cell_row aht _ _ w.heap.size 113 _ (0,0) _ aht (heap_alloc_new w _) Tryz.underlying113 rfl ahs) rfl ⟨rfl,(Below.refl _ _).alloc (Nat.le_refl _) _⟩
end
end
section
open Go.RowKit
section
variable{B:Nat->Prop}{w w0:World}{a g:Nat}{X:SmX}{c:CoC}{st C':Co}{d d':Dr}{U:List Sp}{s':Ar}{BB:Int}
def Fm(h:aw 335 B BC w a g X c P T st d U)(n:Nat)(hn:n<T.length)(r:Bool):E 385 #[↑X.l,J n,.bool r] w (av 335 B BC w a g X c P T U n (cG c ⟨st,d,U⟩ n r)):=by
 have mP:okI U (n:Int):=⟨by omega,by rw[h.lU];omega⟩;have HH:=qh (Bu h n true (decide_eq_true mP).symm);have hp:=h.thr hn;have H:=qh h;have V:=h.nT;have HA:=qh (sf h.co n (by rw[V.1];exact hn));obtain⟨x',O⟩:=LE (cG c ⟨st,d,U⟩ n r);rw[<-O];unfold cG at O;obtain⟨p,Y⟩:=LE (sv U n);simp only at O;rw[<-Y]at hp O;have c6:=h.cs.2.2.2.2.2.2;have c5:=h.cs.2.2.2.2.2.1;refine aiM ?_;intro a0 a1 a2 a3;have f1:∀j,w.frozen? ⟨X.q,j,none⟩=false:=λj=>h.sp.free j;have t2:¬(n:Int)<0:=by omega
 have HX:=qh O;have HP:=qh hp;clear h hp Y mP V O;by_cases I:p.pc=0
 .have y1:(p.pc !=0)=false:=by simpa using I
  have HP0:=qh I;clear I;cases r;.go_enter func385,ntmps385;exact abP
  .go_enter func385,ntmps385;exact abQ
 .have y1:(p.pc !=0)=true:=by simpa using I
  have HP0:=qh I;clear I;go_enter func385,ntmps385;exact abR
def BK(h:aw 335 B BC w a g X c P T st d U)(n:Nat)(hn:n<T.length)(I:(sv U n).pc=10->(sv U n).a=0\/(sv U n).a=1):E 386 #[↑X.l,J n] w (av 335 B BC w a g X c P T U n (aK ⟨st,d,U⟩ n)):=by
 have Kh:=aO;have O:=pr h n;have Y:=h.thr hn;have hg:getS U (n:Int)=sv U n:=by exact abS
 rw[hg]at O;refine ajW ?_;intro H x' p i' mT;rw[<-i']at Y mT O I;have HS:=qh O;have HP:=qh Y;refine ajP ?_;intro t2 My;clear h Y i' hg O;obtain⟨pc,u,b,z⟩:=p;simp only at I mT;unfold aC at HS;by_cases V:pc=10
 .subst V;have K7:=I rfl;rw[if_pos rfl]at mT;clear I;rcases K7 with rfl|rfl
  .have HX:Kq (x'=⟨st,d,U.set n ⟨12,0,b,z⟩⟩):=qh mT;have x1:IntKind.i64.wrap 12=12:=IntWalk.i64_in _ ahp;clear mT;go_enter func386,ntmps386;go_wp2_with fail;refine aiX ?_;intro w1 b1 K1 T1;have e0:=aaa (K1.o.sp.cell HP.o 0 _ rfl);have z0:=K1.o.sp.free (n*4);have d6:=K1.o.cs.2.2.2.2.2.2;have l1:=K1.o.lk.lt;have l2:=K1.o.sp.lt;go_wp2;go_ret;rw[HX.o];first|exact av.stay ((K1.o.put0 HP.o (p':=(⟨12,0,b,z⟩:Sp)) rfl).below ((Below.refl _ _).alloc (Nat.le_refl _) _)) ((T1.o.trans (dZ _ _)).alloc _) rfl|exact av.put HP.o ((K1.o.put0 HP.o (p':=(⟨12,0,b,z⟩:Sp)) rfl).below ((Below.refl _ _).alloc (Nat.le_refl _) _)) ((T1.o.trans (dZ _ _)).alloc _) rfl ahz
  .have HX:Kq (x'=⟨st,d,U.set n ⟨11,1,b,z⟩⟩):=qh mT;have x1:IntKind.i64.wrap 11=11:=IntWalk.i64_in _ ahp;clear mT;go_enter func386,ntmps386;go_wp2_with fail;refine aiX ?_;intro w1 b1 K1 T1;have e0:=aaa (K1.o.sp.cell HP.o 0 _ rfl);have z0:=K1.o.sp.free (n*4);have d6:=K1.o.cs.2.2.2.2.2.2;have l1:=K1.o.lk.lt;have l2:=K1.o.sp.lt;go_wp2;go_ret;rw[HX.o];first|exact av.stay ((K1.o.put0 HP.o (p':=(⟨11,1,b,z⟩:Sp)) rfl).below ((Below.refl _ _).alloc (Nat.le_refl _) _)) ((T1.o.trans (dZ _ _)).alloc _) rfl|exact av.put HP.o ((K1.o.put0 HP.o (p':=(⟨11,1,b,z⟩:Sp)) rfl).below ((Below.refl _ _).alloc (Nat.le_refl _) _)) ((T1.o.trans (dZ _ _)).alloc _) rfl ahz
 .have y1:(pc !=10)=true:=by simpa using V
  have HX:=qh mT;have HP0:=qh V;clear V I mT;go_enter func386,ntmps386;exact ab8
end
end
section
open Go.RowKit
section
variable{B:Nat->Prop}{w:World}{a g:Nat}{X:SmX}{c:CoC}{st C':Co}{d d':Dr}{U:List Sp}{s':Ar}
def Jf(h:aw 337 B BC w a g X c P T st d U):E 401 #[↑X.l] w λe w'=>e= returned (J T.length)/\w=w':=by have c6:=h.cs.2.2.2.2.2.2;clear h;go_enter func401,ntmps401;exact aab
def Bv(h:aw 337 B BC w a g X c P T st d U)(i:Int)(r:Bool)(V:r=decide (okI U i)):E 402 #[↑X.l,J i] w λe w'=>e= returned (.bool r)/\w=w':=by
 have HT:=qh (Jf h);have J6:=h.lU;clear h;by_cases h0:0<=i
 .by_cases h1:i<T.length;.refine aj2 ?_;intro e;subst e;clear V;go_enter func402,ntmps402;exact aae
  .have e:r=false:=(by rw[V];exact decide_eq_false (λk=>h1 aiq));subst e;clear V;go_enter func402,ntmps402;exact abJ
 .have e:r=false:=by rw[V];exact decide_eq_false (λk=>h0 k.1)
  subst e;clear V;go_enter func402,ntmps402;exact aab
def ps(h:aw 337 B BC w a g X c P T st d U)(i:Int):E 399 #[↑X.l,J i] w λe w'=>e= returned (aC (getS U i))/\Below w.heap.size w w':=by
  refine ajb ?_;intro I H JZ JY J6;by_cases O:okI U i;. have V:=qh (Bv I i true (decide_eq_true O).symm);have hp:=dJ O;obtain⟨p,i'⟩:=LE (getS U i);rw[<-i']at hp ⊢;have c6:=h.cs.2.2.2.2.2.2;refine aiM ?_;intro a0 a1 a2 a3;obtain⟨Y,h1⟩:=id O;rw[J6]at h1;obtain⟨n,rfl⟩:=Int.eq_ofNat_of_zero_le Y;simp only[Int.toNat_natCast]at a0 a1 a2 a3;have t2:¬(n:Int)<0:=(by omega);have t4:n<T.length:=(by omega);clear h I hp i' Y h1 O J6;go_enter func399,ntmps399;go_wp2_with (go_at_call 402;refine V.o.mono ?_;rintro e w' ⟨rfl,rfl⟩);exact bodyPost_ret (results_cell_row aht _ _ w.heap.size 113 _ (0,0) _ aht (heap_alloc_new w _) Tryz.underlying113 rfl ahs) rfl ⟨rfl,(Below.refl _ _).alloc (Nat.le_refl _) _⟩
  . have V:=qh (Bv I i false (decide_eq_false O).symm);rw[dC O];clear h I O J6;go_enter func399,ntmps399;go_wp2_with (go_at_call 402;refine V.o.mono ?_;rintro e w' ⟨rfl,rfl⟩);exact bodyPost_ret (results_cell_row aht _ _ w.heap.size 113 _ (0,0) _ aht (heap_alloc_new w _) Tryz.underlying113 rfl ahs) rfl ⟨rfl,(Below.refl _ _).alloc (Nat.le_refl _) _⟩
end
end
end Go.Proofs.YtglokdbiggbkjaaGreat
