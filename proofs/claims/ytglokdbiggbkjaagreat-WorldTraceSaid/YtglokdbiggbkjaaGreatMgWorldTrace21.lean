/- Joined texts. -/
import Derived.Test.YtglokdbiggbkjaaGreatMgWorldTrace0
import Derived.Test.YtglokdbiggbkjaaGreatMgWorldTrace8
import Derived.Test.YtglokdbiggbkjaaGreatMgWorldTrace12
import Derived.Test.YtglokdbiggbkjaaGreatMgWorldTrace14
import Derived.Test.YtglokdbiggbkjaaGreatMgWorldTrace18
import Derived.Test.YtglokdbiggbkjaaGreatMgWorldTrace19
import Derived.Test.YtglokdbiggbkjaaGreatMgWorldTrace20
set_option linter.unusedVariables false
set_option linter.unusedSimpArgs false
set_option linter.defProp false
set_option maxRecDepth 100000
set_option maxHeartbeats 16000000
open Go.Proofs.Tryz
namespace Go.Proofs.YtglokdbiggbkjaaGreat
open Go.IntKind(i64)
open Go.Value(int bool slice agg tuple pointer)
open Go.Ending(returned)
open Go.Obj(cells)
variable{n kl par j lo kg N L:Nat}{f o0:Nat->Nat}{P T:List Int}{gs S:List Nat}{bud y:Int}{w':World}{BC:Nat->Prop}{u:Value}
section
open Go.RowKit
variable{t:TypeId}{cs:Array Value}
def mtQ(P T:List Int)(n:Nat):Nat:=max 1 (T.count ((ac P).getD n 0))
def aJ(kl par:Nat)(f:Nat->Nat)(s:Ar):Nat->Ar
 |0=>s
 |k+1=>bD (aG kl (aJ kl par f s k) (f k) par) 1
def cwN(kl par:Nat)(f:Nat->Nat)(s:Ar)(n:Nat):Nat:=(aG kl (aJ kl par f s n) (f n) par).W.length+1
def iB(kl:Nat)(f:Nat->Nat)(N:Nat):List (List Sp):=(List.range N).map λn=>be kl (f n)
def pJ(s:Ar)(x v:Int):(ae s x v).W.length=s.W.length:=by rw[ay,bQ]
def nh(s:Ar)(x v:Int):(ae s x v).room=s.room:=by unfold ae wrA fD;split<;>rfl
def eE(s:Ar)(n:Nat):(bD s n).W.length=s.W.length+n:=by unfold bD;simp
def bi(k:Nat)(s:Ar)(n m:Nat):(aG k s n m).W.length=s.W.length+szK k n m:=by
 unfold aG;split;.rw[pJ,eE]
 split;.rw[pJ,eE]
 .rw[eE]
def kW(k:Nat)(s:Ar)(n m:Nat):(aG k s n m).room=s.room:=by
 unfold aG;split;.rw[nh];rfl
 split;.rw[nh];rfl
 .rfl
def kp{k m:Nat}(h:n<=32)(hm:m<=4):szK k n m<=65:=by exact aa4
def ic(k n:Nat):(be k n).length=n:=by unfold be;split<;>simp
def pu(s:Ar)(x v:Int):(ae s x v).ops<=s.ops+1:=ij _ _ _
def kH(k:Nat)(s:Ar)(n m:Nat):(aG k s n m).ops<=s.ops+1:=by
 unfold aG;split;.exact pu _ _ _
 split;.exact pu _ _ _
 .show s.ops<=_;omega
def ps(kl par:Nat)(f:Nat->Nat)(s:Ar)(k:Nat):(aJ kl par f s k).ops<=s.ops+k:=by
 induction k with
 |zero=>exact Nat.le_refl _
 |succ k h=>have:=kH kl (aJ kl par f s k) (f k) par;show(aG _ _ _ _).ops<=_;omega
section
variable{s:Ar}
def sN(k:Nat):(aJ kl par f s k).room=s.room:=by
 induction k with
 |zero=>rfl
 |succ k h=>show(aG _ _ _ _).room=_;rw[kW,h]
def oA(h:∀n,f n<=32)(H:par<=4)(k:Nat):(aJ kl par f s k).W.length<=s.W.length+66*k:=by
 induction k with
 |zero=>exact Nat.le_refl _
 |succ k I=>show(bD (aG _ _ _ _) 1).W.length<=_;rw[eE,bi];have:=kp (k:=kl) (h k) H;omega
def pj(h:T.length<=32)(n:Nat):1<=mtQ P T n/\mtQ P T n<=32:=by have:T.count ((ac P).getD n 0)<=T.length:=List.count_le_length;unfold mtQ;omega
end
def fi(kg kl par:Nat)(bud:Int)(P T:List Int)(s:Ar):CoC:=
 ⟨kg,kl,(s.W.length+1:Nat),(par:Int),bud,gr P T,λi=>(cQ T i).toNat,λn=>((aJ kl par (mtQ P T) (aG kg s (ac P).length par) n).W.length+1:Nat),λn=>(cwN kl par (mtQ P T) (aG kg s (ac P).length par) n:Nat)⟩
def bJ(kg kl par:Nat)(P T:List Int)(s:Ar):Co:=
 ⟨aJ kl par (mtQ P T) (aG kg s (ac P).length par) (ac P).length,be kg (ac P).length,iB kl (mtQ P T) (ac P).length,List.replicate T.length Sp.zero⟩
def uS{w:World}{i:Nat}{u:TypeId}{H:Array Value}(h:Blk w i t cs)(k:Blk w j u H)(I:t≠u):i≠j:=by rintro rfl;have e:=h.symm.trans k;simp only[Option.some.injEq,Obj.cells.injEq]at e;exact I e.2.1
def Dh(t:TypeId):Prop:=t=240\/t=243
def F9(k:Nat)(h:Dh t):t≠lkT k:=by unfold lkT;rcases h with rfl|rfl<;>split<;>decide
def dy.away{w:World}{a g k:Nat}{x:Fx}{s:Ar}{S:List Sp}(h:dy w a g k x s S){i:Nat}(I:Blk w i t cs)(H:Dh t):i≠x.p/\i≠x.l/\i≠x.q:=by
 obtain⟨O,z⟩:=h.ki.sp;refine⟨uS I h.p ?_,uS I h.ki.lk (F9 k H),uS I z ?_⟩;.rcases H with rfl|rfl<;>decide
 .rcases H with rfl|rfl<;>decide
structure NwQ(w:World)(a g lo:Nat)(o0:Nat->Nat)(kg kl par N:Nat)(f:Nat->Nat)(s7:Ar)(xg:Fx)(k:Nat)(X:List Fx)(gs:List Nat)(o:Nat->Nat):Prop where
 ar:aB w a g (aJ kl par f s7 k)
 gl:dy w a g kg xg (aJ kl par f s7 k) (be kg N)
 ls:∀(n:Nat) (y:Fx),X[n]? =some y->dy w a g kl y (aJ kl par f s7 k) (be kl (f n))/\y.t=(aJ kl par f s7 n).W.length+1/\y.m=par/\(o y.p=5+n/\o y.l=5+n/\o y.q=5+n)/\lo<=y.p/\lo<=y.l/\lo<=y.q
 v:∀n v,gs[n]? =some v->v=cwN kl par f s7 n
 lX:X.length=k
 lV:gs.length=k
 oo:∀i,i<lo->o i=o0 i
section
variable{w1 w2 w3 w4:World}{a g:Nat}{o:Nat->Nat}{s7:Ar}{xg:Fx}{k:Nat}{X:List Fx}
def dy.beside{k:Nat}{x:Fx}{s s':Ar}{S:List Sp}(h:dy w1 a g k x s S)(t2:aa [a,g] w1 w3)(O:aB w3 a g s'){q:List Nat}(t3:aa q w3 w4)(V:a∉q)(hg:g∉q)(Y:∀i∈q,∃t cs,Blk w3 i t cs/\Dh t):dy w4 a g k x s' S:=by have H:dy w3 a g k x s' S:=h.oth t2 O (by simp[h.pa,h.pg]) (by simp[h.ki.la,h.ki.lg]) (by simp[h.ki.qa,h.ki.qg]);refine H.turns t3 ?_ ?_ V hg ?_;all_goals intro hm;obtain⟨t,cs,I,ht⟩:=Y _ hm;have:=H.away I ht;omega
def NwQ.step(h:NwQ w1 a g lo o0 kg kl par N f s7 xg k X gs o)(ab:lo<=w1.heap.size){y:Fx}(hy:dy w2 a g kl y (aG kl (aJ kl par f s7 k) (f k) par) (be kl (f k)))(t1:aa [a,g] w1 w2)(hf:w1.heap.size<=y.p/\w1.heap.size<=y.l/\w1.heap.size<=y.q)(ht:y.t=(aJ kl par f s7 k).W.length+1)(hm:y.m=par)(t2:aa [a] w2 w3)(V:aB w3 a g (bD (aG kl (aJ kl par f s7 k) (f k) par) 1)){q:List Nat}(t3:aa q w3 w4)(Y:a∉q)(hg:g∉q)(hq:∀i∈q,∃t cs,Blk w3 i t cs/\Dh t):NwQ w4 a g lo o0 kg kl par N f s7 xg (k+1) (X++[y]) (gs++[cwN kl par f s7 k]) (λi=>if w1.heap.size<=i then 5+k else o i):=by
  have Lj:aa [a,g] w2 w3:=t2.mono ahz;have RV:=t1.trans Lj;refine⟨V.turns t3 Y hg,h.gl.beside RV V t3 Y hg hq,?_,?_,by simp[h.lX],by simp[h.lV],λi hi=>by rw[if_neg ahy];exact h.oo i hi⟩
  . intro n z H;by_cases hn:n<k;. rw[List.getElem?_append_left (by rw[h.lX];exact hn)]at H;obtain⟨I,e2,e3,e4,e5⟩:=h.ls n z H;have l1:=I.p.lt;have l2:=I.ki.lk.lt;have l3:=I.ki.sp.lt;exact⟨I.beside RV V t3 Y hg hq,e2,e3,⟨by rw[if_neg ahy];exact e4.1,by rw[if_neg ahy];exact e4.2.1,by rw[if_neg ahy];exact e4.2.2⟩,e5⟩
    . have C':=(List.getElem?_eq_some_iff.1 H).1;simp only[List.length_append,List.length_cons,List.length_nil,h.lX]at C';obtain rfl:n=k:=by omega
      rw[List.getElem?_append_right (by rw[h.lX];omega),h.lX]at H;simp only[Nat.sub_self,List.getElem?_cons_zero,Option.some.injEq]at H;subst H;exact⟨hy.beside Lj V t3 Y hg hq,ht,hm,⟨by rw[if_pos hf.1],by rw[if_pos hf.2.1],by rw[if_pos hf.2.2]⟩,by omega,by omega,by omega⟩
  . intro n v O;by_cases hn:n<k;. rw[List.getElem?_append_left (by rw[h.lV];exact hn)]at O;exact h.v n v O
    . have C':=(List.getElem?_eq_some_iff.1 O).1;simp only[List.length_append,List.length_cons,List.length_nil,h.lV]at C';obtain rfl:n=k:=by omega
      rw[List.getElem?_append_right (by rw[h.lV];omega),h.lV]at O;simp only[Nat.sub_self,List.getElem?_cons_zero,Option.some.injEq]at O;exact O.symm
def NwQ.start(H:aB w1 a g s7)(h:dy w1 a g kg xg s7 (be kg N)):NwQ w1 a g lo o0 kg kl par N f s7 xg 0 [] [] o0:=
 ⟨H,h,by intro n y I;simp at I,by intro n v O;simp at O,rfl,rfl,λ_ _=>rfl⟩
end
def Dg(X:List Fx)(gs:List Nat)(y:Fx)(v:Nat)(h:X.length=gs.length):((X++[y]).zip (gs++[v])).flatMap ndE=(X.zip gs).flatMap ndE++[pointer (some ⟨y.p,0,none⟩),J v]:=by rw[List.zip_append h];simp[List.flatMap_append,ndE]
def eD(hc:a5 P T=0){i:Nat}(hi:i<T.length):gr P T i<(ac P).length/\(ac P).getD (gr P T i) 0=T.getD i 0/\0<=cQ T i/\(cQ T i).toNat<mtQ P T (gr P T i):=by
 obtain⟨y,h⟩:=ai hi;have hm:=jA (aR hc).2.2.2 h;obtain⟨k,H⟩:=Int.eq_ofNat_of_zero_le ((eV (ac P) y).1.2 hm);have hg:=nK hm H;have e:gr P T i=k:=by unfold gr;rw[bp h,H];rfl
 rw[e,bp hg,bp h];refine⟨(List.getElem?_eq_some_iff.1 hg).1,rfl,by unfold cQ;omega,?_⟩;unfold cQ mtQ;rw[bp h,bp hg,Int.toNat_natCast];have I:T=T.take i++T.drop i:=(List.take_append_drop i T).symm;have e3:T.drop i=y :: T.drop (i+1):=by rw[List.drop_eq_getElem_cons hi];congr 1;have:=List.getElem?_eq_getElem hi;rw[h]at this;injection this with this;exact this.symm
 have:T.count y=(T.take i).count y+1+(T.drop (i+1)).count y:=by
  conv=>lhs;rw[I,List.count_append,e3,List.count_cons_self]
  omega
 omega
def DE{B:Nat->Prop}{w:World}{a g l b qs:Nat}{o:Nat->Nat}{s:Ar}{xg:Fx}{X:List Fx}{v:Value}(h:NwQ w a g lo o0 kg kl par (ac P).length (mtQ P T) (aG kg s (ac P).length par) xg (ac P).length X gs o)(hc:a5 P T=0)(LK:KOk kg)(LH:KOk kl)(hp:1<=par/\par<=4)(I:0<=bud/\bud<=1000)(hN:1<=(ac P).length)(hl:Blk w l 240 (coC a b (kg:Int) (kl:Int) par bud ↑xg.p v (slice (some ⟨qs,0,none⟩) T.length T.length)))(O:w.ownsRow lo 243 2 v (ac P).length ((X.zip gs).flatMap ndE))(Y:dD B w b P T)(J':SpR w qs (List.replicate T.length Sp.zero))(ht:xg.t=s.W.length+1)(hm:xg.m=par)(KX:s.W.length<=100)(o1:o0 l=1)(o2:o0 qs=2)(o3:o0 a=3/\o0 g=3)(o4:o0 xg.p=4/\o0 xg.l=4/\o0 xg.q=4)(oB:∀i,B i->o0 i=0)(ll:l<lo)(lq:qs<lo)(la:a<lo)(lg:g<lo)(lG:xg.p<lo/\xg.l<lo/\xg.q<lo)(lB:∀i,B i->i<lo):∃x:Cox,x.l=l/\x.qs=qs/\x.g=xg/\x.X=X/\lo<=x.qn/\aD B w a g x (fi kg kl par bud P T s) P T (bJ kg kl par P T s):=by
  obtain⟨qn,cap,rfl,OH,hq,Zz,hZ⟩:=ud O hN;have KY:=bj (aR hc).1;have Mz:T.length<=32:=KY.2.2.2;have MF:(ac P).length<=32:=by exact aaz
  have H:∀i,i<lo->(if i=qn then 1 else o i)=o0 i:=λi hi=>by rw[if_neg ahy];exact h.oo i hi
  refine⟨⟨l,b,qn,qs,T.length,(ac P).length,cap,par,xg,X,gs,λi=>if i=qn then 1 else o i⟩,rfl,rfl,rfl,rfl,hq,?_⟩;refine {fx:=?_,ar:=h.ar,lk:=hl,tb:=Y,nd:=⟨Zz,hZ⟩,sp:=J',gl:=h.gl,lo:=?_,lL:=?_,lG:=ic _ _,lS:=by simp[bJ],sl:=?_}
  . refine {ck:=hc,nT:=rfl,nN:=rfl,lX:=h.lX,lW:=h.lV,cap:=OH,cn:=?_,tg:=?_,tl:=?_,gm:=by show(xg.m:Int)=(par:Int);rw[hm],pm:=rfl,cc:=?_,kg:=LK,kl:=LH,bud:=I,par:=hp,ol:=?_,on:=by simp,os:=?_,oa:=?_,og:=?_,oG:=?_,oL:=?_,oB:=?_};. intro i hi;refine⟨rfl,?_⟩;have:=(eD hc hi).2.2.1;show(((cQ T i).toNat:Nat):Int)=_;omega
    . show((s.W.length+1:Nat):Int)=_;rw[ht]
    . intro n y V;obtain⟨_,e2,e3,_⟩:=h.ls n y V;refine⟨?_,by show(y.m:Int)=(par:Int);rw[e3]⟩;show(((aJ _ _ _ _ n).W.length+1:Nat):Int)=_;rw[e2]
    . intro n v O;have hn:n<(ac P).length:=(by have:=(List.getElem?_eq_some_iff.1 O).1;rw[h.lV]at this;exact this);have e:=h.v n v O;refine⟨by show((cwN _ _ _ _ n:Nat):Int)=_;rw[e],?_⟩;rw[e];unfold cwN;rw[bi];have h1:=oA (kl:=kl) (par:=par) (f:=mtQ P T) (s:=aG kg s (ac P).length par) (λn=>(pj Mz n).2) hp.2 n;rw[bi]at h1;have h2:=kp (k:=kg) MF hp.2;have h3:=kp (k:=kl) (pj (P:=P) Mz n).2 hp.2;omega
    . show(if _ then 1 else _)=1;rw[H _ ll,o1]
    . show(if _ then 1 else _)=2;rw[H _ lq,o2]
    . show(if _ then 1 else _)=3;rw[H _ la,o3.1]
    . show(if _ then 1 else _)=3;rw[H _ lg,o3.2]
    . refine⟨?_,?_,?_⟩;. show(if _ then 1 else _)=4;rw[H _ lG.1,o4.1]
      . show(if _ then 1 else _)=4;rw[H _ lG.2.1,o4.2.1]
      . show(if _ then 1 else _)=4;rw[H _ lG.2.2,o4.2.2]
    . intro n y V;obtain⟨e1,_,_,e4,_⟩:=h.ls n y V;have:=e1.away hZ (.inr rfl);refine⟨?_,?_,?_⟩;. show(if _ then 1 else _)=_;rw[if_neg ahy];exact e4.1
      . show(if _ then 1 else _)=_;rw[if_neg ahy];exact e4.2.1
      . show(if _ then 1 else _)=_;rw[if_neg ahy];exact e4.2.2
    . intro i hi;show(if _ then 1 else _)=0;rw[H _ (lB i hi),oB i hi]
  . intro n y S V hS;have e:=(h.ls n y V).1;have hn:n<(ac P).length:=(by have:=(List.getElem?_eq_some_iff.1 V).1;rw[h.lX]at this;exact this);have:S=be kl (mtQ P T n):=(by simp only[bJ,iB,List.getElem?_map,List.getElem?_range hn,Option.map_some,Option.some.injEq]at hS;exact hS.symm);rw[this];exact e
  . show(iB _ _ _).length=_;simp[iB]
  . intro i S hi hS;obtain⟨h1,_,h3,h4⟩:=eD hc (show i<T.length from hi);have:S=be kl (mtQ P T (gr P T i)):=(by have Qa:(iB kl (mtQ P T) (ac P).length)[gr P T i]? =some S:=hS;simp only[iB,List.getElem?_map,List.getElem?_range h1,Option.map_some,Option.some.injEq]at Qa;exact Qa.symm);rw[this,ic];exact h4
end
section
open Go.RowKit
def eX(x:Cox)(B:Nat->Prop)(i:Nat):Prop:=i=x.l\/i=x.qn\/i=x.qs\/(i=x.g.p\/i=x.g.l\/i=x.g.q)\/(∃y∈x.X,i=y.p\/i=y.l\/i=y.q)\/B i
def G4(w:World)(a g:Nat)(s:Ar)(kg kl par:Nat)(bud:Int)(P T:List Int)(e:Ending)(w':World):Prop:=
 ∃(x:Cox) (B:Nat->Prop),e= returned (tuple #[↑x.l,J 0])/\aD B w' a g x (fi kg kl par bud P T s) P T (bJ kg kl par P T s)/\(∀i,eX x B i->w.heap.size<=i/\i<w'.heap.size)/\aa [a,g] w w'
def J4{l H:Nat}(h:H=l):Ending.returned (tuple #[↑l,J 0])= returned (tuple #[↑H,J 0]):=by rw[h]
def oE{w:World}{a g:Nat}{s:Ar}(h:aB w a g s)(vP vT:Value)(P T:List Int)(hP:RdL w vP 1 encI P)(hT:RdL w vT 1 encI T)(hc:a5 P T=0)(kg kl:Nat)(LK:KOk kg)(LH:KOk kl)(par:Nat)(hp:1<=par/\par<=4)(bud:Int)(I:0<=bud/\bud<=1000)(V:s.W.length+2500<=s.room)(Xa:s.W.length<=100)(Y:s.ops+100<=1000000000000):E 103 #[↑a,agg #[vP,vT],agg #[J (kg:Int),J (kl:Int),J par,J bud]] w (G4 w a g s kg kl par bud P T):=by
  obtain⟨i0,hi,Kt,Kv,ad⟩:=info_parts Tryz.infoSpF;obtain⟨j0,hj,P1,P2,OT⟩:=info_parts Tryz.infoNd;have HJ:=qh (And.intro hj (And.intro P1 (And.intro P2 OT)));clear hj P1 P2 OT;have KY:=bj (aR hc).1;refine ajz ?_;intro LV Me MG Mz;have MF:(ac P).length<=32:=by exact aaz
  have O6:1<=(ac P).length:=by exact aa5
  have L8:=qh (And.intro LK (And.intro LH (And.intro hp I)));have H:=qh (And.intro h (And.intro LV Me));refine ajN ?_;intro HN Ll;have HS:=qh (And.intro V (And.intro Xa Y));have HR:=qh (λW=>py bud W I.1 ahy);refine ai7 ?_;intro hlo B0 Mb;rw[show(w.alloc (cells #[vP,vT] 24)).heap.size=w.heap.size+1 by simp]at Mb;have BX:=qh Mb;clear h hP hT V Xa Y KY LV Me hc Mb LK LH hp I;go_enter func103,ntmps103;go_wp2_with fail;refine HN.o.mono ?_;rintro en w1 ⟨b,rfl,I,t1,b1⟩;rw[hlo]at I t1 b1;refine akh ?_;intro K1;clear t1 b1 I HN BX B0;have p3:Z w1 (w.heap.size+1) 3 (J bud):=K1.o.2.2.1.cell 3;go_wp2_with fail;refine LT (HR.o _) ?_;have p0:Z w1 (w.heap.size+1) 0 (J (kg:Int)):=K1.o.2.2.1.cell 0;have p1:Z w1 (w.heap.size+1) 1 (J (kl:Int)):=K1.o.2.2.1.cell 1;have p2:Z w1 (w.heap.size+1) 2 (J par):=K1.o.2.2.1.cell 2;have PS:w.heap.size+1<w1.heap.size:=K1.o.2.2.1.lt;have VI:=qh (eg w1.drew b P T ((K1.o.1.turns ((aa.refl (S:=[]) _).drew) ahz).tab Ll.o));obtain⟨w4,Z',r',hg⟩:=run_makeSlice_full (P:=prog) w1.drew w1.heap.size 237 113 i0 (agg #[J 0,J 0,J 0,J 0]) 4 Tryz.underlying237 hi Kt Kv .i64 .i64 T.length ahy (by rw[ad];omega) (by unfold maxLen;omega) (Nat.le_refl _);have H4:=qh (show aa [] w1 w4 from((aa.refl _ _).drew).trans (aa.of_below ((Below.refl _ _).grown hg (Nat.le_refl _) (λj hj=>by cases hj))));have VG:=qh (j8 r');have q0:=H4.o.cellQ p0 ahz;have q1:=H4.o.cellQ p1 ahz;have q2:=H4.o.cellQ p2 ahz;have q3:=H4.o.cellQ p3 ahz;have Qv:w1.heap.size<=w4.heap.size:=H4.o.size;clear r' hg;go_wp2_with fail
  have Vy:=qh (λo:Obj=>show(w4.alloc o).cell? ⟨w.heap.size+1,0,none⟩=some (J (kg:Int))/\(w4.alloc o).cell? ⟨w.heap.size+1,1,none⟩=some (J (kl:Int))/\(w4.alloc o).cell? ⟨w.heap.size+1,2,none⟩=some (J par)/\(w4.alloc o).cell? ⟨w.heap.size+1,3,none⟩=some (J bud)from by
    have t:aa [] w4 (w4.alloc o):=(aa.refl _ _).alloc o
    exact⟨t.cellQ q0 ahz,t.cellQ q1 ahz,t.cellQ q2 ahz,t.cellQ q3 ahz⟩)
  go_region_held3 (λW=>Z W (w.heap.size+1) 0 (J (kg:Int))/\Z W (w.heap.size+1) 1 (J (kl:Int))/\Z W (w.heap.size+1) 2 (J par)/\Z W (w.heap.size+1) 3 (J bud))
    (first|exact⟨p0,p1,p2,p3⟩|exact⟨q0,q1,q2,q3⟩|exact Vy.o _)
    (first|(go_at_call 136;go_loud (refine LT VI.o ?_)))
  obtain⟨l,hl⟩:=LE w4.heap.size;obtain⟨w5,Lt⟩:=LE (w4.alloc (.cells (coC a b (kg:Int) (kl:Int) par bud (.pointer none) (.slice none 0 0) (slice (some ⟨w1.heap.size,0,none⟩) T.length T.length)) 240));have N6:=Lt;unfold coC at N6;rw[<-N6,<-hl];have R4:=qh (show Blk w5 l 240 (coC a b (kg:Int) (kl:Int) par bud (.pointer none) (.slice none 0 0) (slice (some ⟨w1.heap.size,0,none⟩) T.length T.length))from by rw[Lt,hl];exact Blk.new _ _ _);have H5:=qh (show aa [] w1 w5 from by rw[Lt];exact H4.o.alloc _);have Yt:=qh (show SpR w5 w1.heap.size (List.replicate T.length Sp.zero)from by rw[Lt];exact VG.o.turns ((aa.refl [] _).alloc _) ahz);have W8:=VG.o.lt;have Ym:=qh (show w1.heap.size<w4.heap.size from W8);clear W8
  have HO:=qh (show a<w.heap.size/\g<w.heap.size/\w.heap.size+2<=b/\b<w1.heap.size/\w1.heap.size<l/\w5.heap.size=l+1 from by
    have e1:b<w1.heap.size:=K1.o.1.low.2;have e2:=K1.o.2.2.2;have e4:=H.o;have e5:=Ym.o;rw[Lt,hl];simp
    omega)
  have OC:Kq (∀W,aa [l,b,a,g] w5 W->Z W (w.heap.size+1) 0 (J (kg:Int))/\Z W (w.heap.size+1) 1 (J (kl:Int))/\Z W (w.heap.size+1) 2 (J par)/\Z W (w.heap.size+1) 3 (J bud)):=qh λW hW=>by have o:=HO.o;have t:aa [l,b,a,g] w1 W:=(H5.o.mono ahz).trans hW;have n:w.heap.size+1∉[l,b,a,g]:=(by simp;omega);exact⟨t.cellQ p0 n,t.cellQ p1 n,t.cellQ p2 n,t.cellQ p3 n⟩
  obtain⟨N,hN⟩:=LE ((ac P).length);rw[<-hN]at MF O6;have PD:=qB (λi=>w.heap.size+2<=i/\i<w1.heap.size) w5.drew b P T Ll.o ((K1.o.1.turns H5.o ahz).turns ((aa.refl (S:=[]) _).drew) ahz);rw[<-hN]at PD;have OB:=qh PD;have ME:=qh hN;have Ti:=qh ((H.o.1.turns (aa.of_below (S:=[]) K1.o.2.1) ahz ahz).turns H5.o ahz ahz);have X5:=qh (λW (hA:aB W a g s)=>Bs hA kg L8.o.1 N O6 MF par L8.o.2.2.1.1 L8.o.2.2.1.2 (by have:=HS.o;have:=kp (k:=kg) MF L8.o.2.2.1.2;omega) (by have:=HS.o;omega));have Xy:=OC.o w5 (aa.refl _ _);have Oo:l<w5.heap.size:=R4.o.lt;clear Lt N6 hl hN PD p0 p1 p2 p3 q0 q1 q2 q3 Z' Vy VI H4 Qv;go_wp2_with fail
  go_region_held3 (λW=>Z W (w.heap.size+1) 0 (J (kg:Int))/\Z W (w.heap.size+1) 1 (J (kl:Int))/\Z W (w.heap.size+1) 2 (J par)/\Z W (w.heap.size+1) 3 (J bud))
    (first|exact Xy|exact OC.o _ T6.o|exact OC.o _ T7.o|exact OC.o _ T8.o)
    (first
      | (go_at_call 137;go_loud (refine Pi OB.o λw6 t6=>?_);have T6:=qh (show aa [l,b,a,g] w5 w6 from((aa.refl _ _).drew).trans (t6.o.2.mono ahz));have Q6:=qh t6.o.1.lt;have A6:=qh (Ti.o.turns (show aa [b] w5 w6 from((aa.refl _ _).drew).trans t6.o.2) ahH ahH);have B6:=qh (show Blk w6 l _ _ from(show aa [b] w5 w6 from((aa.refl _ _).drew).trans t6.o.2).blk R4.o ahH))
      | (go_at_call 109;go_loud (refine(X5.o w6 A6.o).mono ?_);rintro en w7 ⟨O,rfl,e1,e2,e5⟩;have T7:=qh (T6.o.trans (e5.mono ahz));have B7:=qh (e5.blk B6.o ahH);have c6:Z w7 l 6 (.pointer none):=B7.o.cell 6;have z6:=B7.o.free 6;have T8:=qh (T7.o.trans ((aa.refl [l,b,a,g] w7).setCell (p:=⟨l,6,none⟩) (.inl ahz) ↑O.p));have H7:=qh (And.intro e1 (And.intro e2 e5));clear e1 e2 e5))
  obtain⟨w8,OS⟩:=LE (w7.setCell ⟨l,6,none⟩ ↑O.p);rw[<-OS]at T8 ⊢;have Oy:aa [l] w7 w8:=by rw[OS];exact(aa.refl _ _).setCell (.inl ahz) _
  have R7:=qh (show Blk w8 l 240 (coC a b (kg:Int) (kl:Int) par bud ↑O.p (.slice none 0 0) (slice (some ⟨w1.heap.size,0,none⟩) T.length T.length))from by rw[OS];exact B7.o.set_ 6 _);have M4:=qh (H7.o.1.turns Oy (by have:=HO.o;have:=H7.o.2.1;have:=Q6.o;have:=T6.o.size;simp;omega) aiL ahH ahH aiL);have VP:=qh (show w6.heap.size<=O.p/\w6.heap.size<=O.l/\w6.heap.size<=O.q/\O.m=par/\O.t=s.W.length+1/\w5.heap.size<=w6.heap.size from⟨H7.o.2.1.1,H7.o.2.1.2.1,H7.o.2.1.2.2.1,H7.o.2.1.2.2.2.2.1,H7.o.2.1.2.2.2.2.2,T6.o.size⟩);have Vb:=qh M4.o.ki.ar
  have TA:=qh (show dD (λi=>((w.heap.size+2<=i/\i<w1.heap.size)\/w5.drew.heap.size<=i)/\i<w6.heap.size) w8 b P T from by
    have o:=HO.o;refine(Q6.o.turns H7.o.2.2 (λi hi hB=>?_)).turns Oy (λi hi hB=>?_);. have e:w5.drew.heap.size=w5.heap.size:=rfl;simp at hi;omega
    . have e:w5.drew.heap.size=w5.heap.size:=rfl;simp at hi
      omega)
  have bW:w5.heap.size<=w8.heap.size:=T8.o.size;have ZI:l<w8.heap.size:=by omega
  obtain⟨o0,WY⟩:∃o:Nat->Nat,o=λi=>if i=l then 1 else if i=w1.heap.size then 2 else if i=a\/i=g then 3 else if w6.heap.size<=i then 4 else 0:=⟨_,rfl⟩
  have hr:=qh (show o0 l=1/\o0 w1.heap.size=2/\(o0 a=3/\o0 g=3)/\(o0 O.p=4/\o0 O.l=4/\o0 O.q=4)/\(∀i,((w.heap.size+2<=i/\i<w1.heap.size)\/w5.drew.heap.size<=i)/\i<w6.heap.size->o0 i=0)from by
    have o:=HO.o;have x:=VP.o;have e:w5.drew.heap.size=w5.heap.size:=rfl;have ev:∀i,o0 i=if i=l then 1 else if i=w1.heap.size then 2 else if i=a\/i=g then 3 else if w6.heap.size<=i then 4 else 0:=λi=>by rw[WY]
    refine⟨?_,?_,⟨?_,?_⟩,⟨?_,?_,?_⟩,λi hi=>?_⟩<;>rw[ev]<;>(repeat' split)<;>omega)
  clear WY;have QP:=qh (show w7.heap.size<=w8.heap.size from Oy.size);have YF:=qh (show O.p<w8.heap.size/\O.l<w8.heap.size/\O.q<w8.heap.size from⟨M4.o.p.lt,M4.o.ki.lk.lt,M4.o.ki.sp.lt⟩);have Yu:=qh (Yt.o.turns T8.o ahH);obtain⟨s7,MO⟩:=LE (aG kg s N par);have TC:=qh (And.intro MO (show s7.room=s.room/\s7.W.length<=s.W.length+65 from by rw[MO,kW,bi];have:=kp (k:=kg) MF L8.o.2.2.1.2;omega));have M4:=qh (show dy w8 a g kg O s7 (be kg N)from by rw[MO];exact M4.o);clear MO;clear OS c6 z6 Oy B7 B6 H7 Xy;have Tv:=lK w8 b P T TA.o.f;rw[<-ME.o]at Tv;have Yd:=qh Tv;clear Tv;go_wp2_with fail;refine LT Yd.o ?_;go_wp2;go_loopw [56] (λi wr=>∃(k:Nat) (v:Value) (X:List Fx) (gs:List Nat) (o:Nat->Nat),i= J k/\k<=N/\Blk wr l 240 (coC a b (kg:Int) (kl:Int) par bud ↑O.p v (slice (some ⟨w1.heap.size,0,none⟩) T.length T.length))/\wr.ownsRow w8.heap.size 243 2 v k ((X.zip gs).flatMap ndE)/\NwQ wr a g w8.heap.size o0 kg kl par N (mtQ P T) s7 O k X gs o/\aa [l,a,g] w8 wr) (λi _=>N-(intOf i).toNat);case atStart=>exact⟨0,_,[],[],o0,rfl,by omega,R7.o,World.ownsRow_nil _ _ _ _,NwQ.start M4.o.ki.ar M4.o,aa.refl _ _⟩
  case round=>
    obtain⟨k,v,X,gs,o,rfl,hk,I,r',hQ,ht⟩:=hrel;obtain⟨wo,rfl⟩:∃wo:World,wo=wr:=⟨_,rfl⟩;obtain⟨xs,P0⟩:=LE ((X.zip gs).flatMap ndE);rw[<-P0]at r';have QS:=qh P0;clear P0;have H:=qh (And.intro I (And.intro r' (And.intro hQ ht)));have Y2:=ht.size;by_cases C':k<N
    . obtain⟨A,cap,rfl⟩:=bC r'
      have Yn:=qh (show dD (λi=>((w.heap.size+2<=i/\i<w1.heap.size)\/w5.drew.heap.size<=i)/\i<w6.heap.size) wo.drew b P T from by
        have o:=HO.o;have e:w5.drew.heap.size=w5.heap.size:=rfl
        exact(TA.o.turns ht (λi hi hB=>by simp at hi;omega)).turns ((aa.refl (S:=[]) _).drew) ahz)
      obtain⟨x,hx⟩:=ai (show k<(ac P).length by rw[<-ME.o];exact C');have Tq:=qh (Cj wo.drew b P T Yn.o.f hx);have Nz:T.count x<=32:=Nat.le_trans List.count_le_length Mz;have bw:=qh hx;have Mq:=qh (show mtQ P T k=max 1 (T.count x)from by unfold mtQ;rw[bp hx]);obtain⟨ct,Up⟩:=LE (T.count x);rw[<-Up]at Mq;rw[<-Up]at Tq Nz;obtain⟨s',MB⟩:=LE (aJ kl par (mtQ P T) s7 k);have hA:=hQ.ar;rw[<-MB]at hA;have RD:aa [l,b,a,g] w5 wo:=T8.o.trans (ht.mono ahz);have Yh:=qh (OC.o wo RD);obtain⟨p0,p1,p2,p3⟩:=OC.o wo RD;have KX:s'.W.length+100<=s'.room/\s'.ops+1<=1000000000000:=(by have h5:=ps kl par (mtQ P T) s7 k;have h6:=kH kg s N par;rw[<-TC.o.1]at h6;rw[<-MB]at h5;have h1:=oA (kl:=kl) (par:=par) (f:=mtQ P T) (s:=s7) (λn=>(pj Mz n).2) L8.o.2.2.1.2 k;have h2:=sN (kl:=kl) (par:=par) (f:=mtQ P T) (s:=s7) k;rw[<-MB]at h1 h2;have h3:=TC.o.2;have h4:=HS.o;omega);have TE:=qh MB;have X4:=qh (λn (h1:1<=n) (h2:n<=32)=>Bs (w:=wo.drew) (hA.turns ((aa.refl (S:=[]) _).drew) ahz ahz) kl L8.o.2.1 n h1 h2 par L8.o.2.2.1.1 L8.o.2.2.1.2 (by have:=kp (k:=kl) h2 L8.o.2.2.1.2;omega) ahy);have bc:=I.lt;have RD:=qh RD;clear I r' hA hQ ht hx Up MB;obtain⟨z,hz⟩:∃z:Int,z=(ct:Int):=⟨_,rfl⟩;rw[<-hz]at Tq;obtain⟨n,hn⟩:∃n:Nat,n=max 1 ct:=⟨_,rfl⟩;have bP:(if 1<z then z else 1)=(n:Int):=(by split<;>omega);have X1:=qh (X4.o n ahy ahy);have Tu:=qh (show mtQ P T k=n from by rw[Mq.o,hn]);have Ya:=qh (show n<=32 from by omega);clear hn;clear hz Nz;go_wp2_with fail
      go_region_held3 (λW=>Z W (w.heap.size+1) 0 (J (kg:Int))/\Z W (w.heap.size+1) 1 (J (kl:Int))/\Z W (w.heap.size+1) 2 (J par)/\Z W (w.heap.size+1) 3 (J bud))
        (first|exact Yh.o|exact Ye.o)
        (first
          | (go_at_call 138;go_loud (refine LT Tq.o ?_))
          | (go_at_call 109;go_loud (refine X1.o.mono ?_);rintro en w7' ⟨y,rfl,e1,e2,e5⟩;have TO:=qh (show aa [a,g] wo w7' from((aa.refl _ _).drew).trans e5);have Ye:=qh (OC.o w7' (RD.o.trans (TO.o.mono ahz)));have U9:=qh (And.intro e1 e2);clear e1 e2 e5))
      all_goals
        obtain⟨s2,Ko⟩:=LE (aG kl s' n par);have M5:=qh Ko;have ZL:s2.W.length+1<=s2.room:=(by have h1:=bi kl s' n par;have h2:=kW kl s' n par;rw[<-Ko]at h1 h2;have h3:=kp (k:=kl) Ya.o L8.o.2.2.1.2;omega);have XR:=qh (show aB w7' a g s2 from by rw[Ko];exact U9.o.1.ki.ar);clear Ko;go_wp2_with fail;refine(ni XR.o 1 ZL).mono ?_;rintro en w9 ⟨rfl,k9,t9⟩;have T9:=qh (TO.o.trans (t9.mono ahz));have H9:=qh k9;have RA:l∉[a,g]:=(by have:=HO.o;simp;omega);have Mt:Blk w9 l 240 (coC a b (kg:Int) (kl:Int) par bud ↑O.p (.slice A k cap) (slice (some ⟨w1.heap.size,0,none⟩) T.length T.length)):=T9.o.blk H.o.1 RA;have o9:w9.ownsRow w8.heap.size 243 2 (.slice A k cap) k xs:=aa.own H.o.2.1 T9.o (λx hx=>by have:=(H.o.2.1.lt x hx).1;have:=HO.o;simp;omega);have c7:Z w9 l 7 (.slice A k cap):=Mt.cell 7;have cp:wo.heap.size<=w9.heap.size:=T9.o.size;have ba:=Mt.lt;have MN:(Value.slice A k cap).ownBlock≠some l:=λe=>by have:=(H.o.2.1.lt l e).1;omega
        have Tl:=qh Mt;have Yw:=qh t9
        have XU:=qh (show ∀q,(Value.slice A k cap).ownBlock=some q->∃cs,Blk w9 q 243 cs from λq hq=>by
          rcases o9.2 with⟨e,_⟩|⟨g',c',bA,e,_,ab,_⟩
          . injection e with e1 e2 e3;subst e1;simp[Value.ownBlock]at hq
          . injection e with e1 e2 e3;subst e1;simp only[Value.ownBlock,Option.some.injEq]at hq;subst hq
            exact⟨_,ab⟩)
        have Vu:=qh o9;clear k9 t9 Mt o9 RA;go_wp2_with (at_builtin;refine wpList_append_lies _ rfl _ _ 238 rfl w8.heap.size 243 j0 (agg #[.pointer none,J 0]) 2 16 Tryz.underlying238 HJ.o.1 HJ.o.2.1 HJ.o.2.2.1 HJ.o.2.2.2 rfl ahA _ _ _ rfl (Vu.o.alloc _) ⟨w9.heap.size,0,none⟩ 1 1 [pointer (some ⟨y.p,0,none⟩),J ((s2.W.length:Int)+1)] rfl rfl (ot _ _ _) ah3 ahA ?c3 ?c4 ?c5 _ rfl ?_);case c3=>unfold maxLen;omega
        case c4=>omega
        case c5=>simp;omega
        intro g3 Lv w10 h3 KQ NV UA;have Sk:=(Tl.o.alloc (cells #[↑y.p,J ((s2.W.length:Int)+1)] 243)).grown KQ (λe=>MN e.symm);have QU:Z w10 l 7 (.slice A k cap):=Sk.cell 7;have cv:=Sk.free 7;obtain⟨w11,RK⟩:=LE (w10.setCell ⟨l,7,none⟩ (slice (some ⟨g3,0,none⟩) (k+1) Lv));have tr:aa (l :: (Value.slice A k cap).ownBlock.toList) w9 w11:=(by rw[RK];exact(((aa.refl _ _).alloc _).trans ((aa.grownByQ KQ).mono λi hi=>List.mem_cons_of_mem _ hi)).trans ((aa.refl _ _).setCell (.inl ahz) _));have Vz:=qh (show Blk w11 l 240 (coC a b (kg:Int) (kl:Int) par bud ↑O.p (slice (some ⟨g3,0,none⟩) (k+1) Lv) (slice (some ⟨w1.heap.size,0,none⟩) T.length T.length))from by rw[RK];exact Sk.set_ 7 _)
        have VA:=qh (show w11.ownsRow w8.heap.size 243 2 (slice (some ⟨g3,0,none⟩) (k+1) Lv) (k+1) (xs++[pointer (some ⟨y.p,0,none⟩),J ((s2.W.length:Int)+1)])from by
          rw[RK];have ax:=(h3.lt g3 rfl).1
          exact aa.own h3 ((aa.refl [l] _).setCell (.inl ahz) _) (λx hx=>by injection hx with hx;subst hx;simp;omega))
        have V5:∀r,r<w8.heap.size->r≠l->r∉l :: (Value.slice A k cap).ownBlock.toList:=λr V Ng hm=>by
          rcases List.mem_cons.1 hm with e|e
          . exact Ng e
          . have:=(H.o.2.1.lt r ahN).1;omega
        have PC:=qh (show NwQ w11 a g w8.heap.size o0 kg kl par N (mtQ P T) s7 O (k+1) (X++[y]) (gs++[cwN kl par (mtQ P T) s7 k]) (λi=>if wo.heap.size<=i then 5+k else o i)from by
          have e7:=U9.o;rw[<-Tu.o,TE.o]at e7;have e9:aB w9 a g (bD (aG kl (aJ kl par (mtQ P T) s7 k) (mtQ P T k) par) 1):=(by rw[<-TE.o,Tu.o,<-M5.o];exact H9.o);have bT:=HO.o;refine H.o.2.2.1.step Y2 e7.1 TO.o ⟨e7.2.1,e7.2.2.1,e7.2.2.2.1⟩ e7.2.2.2.2.2.2 e7.2.2.2.2.2.1 Yw.o e9 tr (V5 a ahy ahy) (V5 g ahy ahy) (λi hi=>?_);rcases List.mem_cons.1 hi with e|e
          . subst e;exact⟨_,_,Tl.o,.inl rfl⟩
          . obtain⟨cs,KM⟩:=XU.o i ahN
            exact⟨_,cs,KM,.inr rfl⟩)
        have YE:=qh (show((X++[y]).zip (gs++[cwN kl par (mtQ P T) s7 k])).flatMap ndE=xs++[pointer (some ⟨y.p,0,none⟩),J ((s2.W.length:Int)+1)]from by
          rw[Dg _ _ _ _ (by rw[H.o.2.2.1.lX,H.o.2.2.1.lV]),<-QS.o];have:((cwN kl par (mtQ P T) s7 k:Nat):Int)=(s2.W.length:Int)+1:=by unfold cwN;rw[<-TE.o,Tu.o,<-M5.o];omega
          rw[this])
        have WQ:∀x,(Value.slice A k cap).ownBlock=some x->w8.heap.size<=x:=λx hx=>(H.o.2.1.lt x hx).1
        have TB:=qh (show aa [l,a,g] w8 w11 from by
          have t1:aa ([l,a,g]++(Value.slice A k cap).ownBlock.toList) w8 w11:=((H.o.2.2.2.mono λi hi=>List.mem_append_left _ hi).trans (T9.o.mono λi hi=>List.mem_append_left _ (by simp at hi ⊢;omega))).trans (tr.mono λi hi=>by
            rcases List.mem_cons.1 hi with e|e
            . exact List.mem_append_left _ (by simp[e])
            . exact List.mem_append_right _ e)
          refine t1.fresh λi hi=>?_;rcases List.mem_append.1 hi with hi|hi
          . exact .inl hi
          . exact .inr (WQ i ah5))
        rw[RK]at Vz VA PC TB;clear h3 KQ NV Sk Tl Vu H9 tr RK WQ;go_wp2;go_roundw;case rel=>exact⟨k+1,_,_,_,_,by go_num,by omega,Vz.o,by rw[YE.o];exact VA.o,PC.o,TB.o⟩
        case measure=>simp[intOf];omega
    . obtain rfl:k=N:=by omega
      clear I r' hQ ht;go_wp2;go_ret2;have o':=HO.o;have s8:=T8.o.size;have s1:=K1.o.2.1.size;have cu:=H5.o.size;have Xn:=VP.o;have M0:=YF.o;have RR:=hr.o;have bF:=T8.o.size;have Zz:=H.o;rw[TC.o.1,QS.o,ME.o]at Zz
      have hQ:=TA.o.turns H.o.2.2.2 (λi hi hB=>by
        have e:w5.drew.heap.size=w5.heap.size:=rfl;simp at hi
        omega)
      have al:w6.heap.size<=w8.heap.size:=by omega
      obtain⟨x,e1,e2,e3,e4,e5,SA⟩:=DE (bud:=bud) Zz.2.2.1 Ll.o L8.o.1 L8.o.2.1 L8.o.2.2.1 L8.o.2.2.2 (by rw[<-ME.o];exact O6) Zz.1 Zz.2.1 hQ (Yu.o.turns H.o.2.2.2 ahH) Xn.2.2.2.2.1 Xn.2.2.2.1 HS.o.2.1
        RR.1 RR.2.1 RR.2.2.1 RR.2.2.2.1 RR.2.2.2.2 ahy ahy ahy ahy ahy (λi hi=>by omega)
      refine⟨x,_,J4 e1,SA,λi hi=>?_,?_⟩
      . have e:w5.drew.heap.size=w5.heap.size:=rfl;have u8:=H.o.2.2.2.size;rcases hi with hi|hi|hi|hi|⟨y,hy,hi⟩|hi
        . have:=SA.lk.lt;omega
        . obtain⟨Zz,z⟩:=SA.nd;have:=z.lt;omega
        . have:=SA.sp.lt;omega
        . rw[e3]at hi;omega
        . rw[e4]at hy;obtain⟨n,hn,rfl⟩:=List.getElem_of_mem hy;have e9:=H.o.2.2.1.ls n _ (List.getElem?_eq_getElem hn);have l1:=e9.1.p.lt;have l2:=e9.1.ki.lk.lt;have l3:=e9.1.ki.sp.lt;have Lq:=e9.2.2.2.2;clear e9;omega
        . omega
      . have t:aa [l,b,a,g] w wo:=(((aa.of_below (S:=[l,b,a,g]) K1.o.2.1).trans (H5.o.mono ahz)).trans T8.o).trans (H.o.2.2.2.mono ahz);exact t.fresh λi hi=>by simp at hi ⊢;omega
end
section
open Go.RowKit
structure k8(c:CoC)(n N L:Nat):Prop where
 k:(1<=c.kg/\c.kg<=5)/\1<=c.kl/\c.kl<=5
 inj:Inj c n
 nd:∀i,i<n->c.node i<N/\c.slot i<32
 N32:N<=32
 m:1<=c.m/\c.m<=4
 tg:1<=c.tg/\c.tg<=L
 tl:∀j,j<N->1<=c.tl j/\c.tl j<=L
structure bU(c:CoC)(n L:Nat)(B:Int)(o:Nat)(st:Co):Prop where
 bd:CoB c B st
 v:CoV c n st
 len:st.s.W.length=L
 ops:st.s.ops<=o
section
variable{c:CoC}{o:Nat}{B:Int}{st:Co}
def bU.step(h:bU c n L B o st)(k:k8 c n N L)(Y:40<=B)(I:B<=10000000000000){i:Nat}(hi:i<n):bU c n L (B+2) (o+1) (ak c st i):=by have h1:=k.nd i hi;have O:=k.N32;have V:=k.m;have H:=mY (c:=c) (st:=st) i;exact⟨yJ h.bd ahy I i ahy ahy ahy,sP h.v k.inj k.k hi,by rw[H.2,h.len],by have:=H.1;have:=h.ops;omega⟩
def bU.ask(h:bU c n L B o st)(k:k8 c n N L)(I:40<=B){i:Nat}(hi:i<n):bU c n L (B+2) (o+1) (bG c st i):=by have H:=vO (c:=c) (st:=st) i;exact⟨AI h.bd ahy i,xq h.v k.inj hi,by rw[H.2,h.len],by have:=H.1;have:=h.ops;omega⟩
def bU.leave(h:bU c n L B o st)(k:k8 c n N L)(I:40<=B){i:Nat}(hi:i<n):bU c n L (B+2) (o+1) (aA st i):=by have H:=rL (st:=st) i;exact⟨uZ h.bd ahy i,ql h.v k.inj hi,by rw[H.2,h.len],by have:=H.1;have:=h.ops;omega⟩
def bU.mono(h:bU c n L B o st){C:Int}(H:B<=C):bU c n L C o st:=⟨h.bd.mono H,h.v,h.len,h.ops⟩
end
section
variable{BD:Nat->Prop}{w:World}{a g:Nat}{x:Cox}{c:CoC}{st:Co}{o:Nat}{B:Int}
def bU.pre(h:bU c x.n L B o st)(k:k8 c x.n x.N L)(f:yd BD a g x c P T)(V:40<=B)(I:B<=10000000000)(Y:o+1<=1000000000000):dh B x c st:=by
 refine⟨by have:=h.ops;omega,h.bd,by omega,I,?_,λn y H=>?_,h.v⟩;.rw[<-f.tg];exact aT.2 (by rw[h.len];exact k.tg)
 .rw[<-(f.tl n y H).1];have O:n<x.N:=by rw[<-f.lX];exact(List.getElem?_eq_some_iff.1 H).1
  exact aT.2 (by rw[h.len];exact k.tl n O)
end
def n4{s:Ar}{k m:Nat}{B:Int}(h:WdB B s)(V:40<=B)(Y:n<=32):WdB B (aG k s n m):=by
 have h1:∀j,WdB B (bD s j):=λj v O=>by
  have I:v∈s.W++List.replicate j 0:=O;rcases List.mem_append.1 I with H|H
  .exact h v H
  .rw[(List.mem_replicate.1 H).2];omega
 unfold aG;split;.exact(h1 _).store _ _ ahy
 split;.exact(h1 _).store _ _ ahy
 .exact h1 _
def yj{s:Ar}{B:Int}(h:WdB B s)(V:40<=B)(Y:∀n,f n<=32)(k:Nat):WdB B (aJ kl par f s k):=by
 induction k with
 |zero=>exact h
 |succ k ih=>
  have h1:=n4 (k:=kl) (m:=par) ih V (Y k);intro v O;have I:v∈(aG kl (aJ kl par f s k) (f k) par).W++List.replicate 1 0:=O;rcases List.mem_append.1 I with H|H
  .exact h1 v H
  .rw[(List.mem_replicate.1 H).2];omega
def i1(k n:Nat):∀p∈be k n,p.pc=0/\0<=p.a/\p.a<=n/\p.b=0:=by
 intro p h;unfold be at h;split at h;.obtain⟨i,hi,rfl⟩:=List.mem_map.1 h;have:=List.mem_range.1 hi;exact⟨rfl,by show(0:Int)<=(i:Int)+1;omega,by show(i:Int)+1<=n;omega,rfl⟩
 .rw[(List.mem_replicate.1 h).2];exact⟨rfl,Int.le_refl _,by show(0:Int)<=n;omega,rfl⟩
def Gx(k:Nat){p:Sp}(h:p.pc=0):pcK k p:=by unfold pcK iX;rw[h];exact aaK
def wG{k:Nat}{B:Int}(V:n<=32)(O:40<=B):∀p∈be k n,SpB k B p:=λp h=>by
 obtain⟨_,h1,H,I⟩:=i1 k n p h
 exact⟨h1,by omega,by omega,by omega,λ_=>by omega⟩
def gk(kl par:Nat)(f:Nat->Nat)(s:Ar){k:Nat}(h:j<=k):(aJ kl par f s j).W.length<=(aJ kl par f s k).W.length:=by
 induction k with
 |zero=>obtain rfl:j=0:=ahy;exact Nat.le_refl _
 |succ k H=>
  by_cases e:j=k+1;.subst e;exact Nat.le_refl _
  .have:=H ahy;show _<=(bD (aG _ _ _ _) 1).W.length;rw[eE,bi];omega
def kB(kl par:Nat)(f:Nat->Nat)(s:Ar){k:Nat}(h:j<k):(aJ kl par f s j).W.length+szK kl (f j) par+1<=(aJ kl par f s k).W.length:=by refine Nat.le_trans ?_ (gk kl par f s (show j+1<=k from h));show _<=(bD (aG _ _ _ _) 1).W.length;rw[eE,bi];omega
def EX(k n m:Nat):1<=szK k n m:=by exact aa4
def sT{k:Nat}(h:T[k]? =some y)(x:Int):(T.take (k+1)).count x=(T.take k).count x+if y==x then 1 else 0:=by rw[List.take_add_one,h,List.count_append,Option.toList_some,List.count_cons,List.count_nil,Nat.zero_add]
def CO(hc:a5 P T=0){i:Nat}(hi:i<T.length)(V:j<T.length)(h1:gr P T i=gr P T j)(O:cQ T i=cQ T j):i=j:=by
 have e:T.getD i 0=T.getD j 0:=by rw[<-(eD hc hi).2.1,<-(eD hc V).2.1,h1]
 obtain⟨y,H⟩:=ai hi;obtain⟨z,I⟩:=ai V;rw[bp H,bp I]at e;subst e;unfold cQ at O;rw[bp H,bp I]at O
 have key:∀(i j:Nat),i<j->T[i]? =some y->(T.take i).count y<(T.take j).count y:=λi j ab H=>by
  have Y:=sT H y;simp only[beq_self_eq_true,↓reduceIte]at Y;have e2:(T.take (i+1)).count y<=(T.take j).count y:=by have:(T.take (i+1)).Sublist (T.take j):=(List.take_prefix_take_left ahy).sublist;exact this.count_le y
  omega
 rcases Nat.lt_trichotomy i j with h|h|h
 .have:=key i j h H;omega
 .exact h
 .have:=key j i h I;omega
section
variable{s:Ar}
def vV(hc:a5 P T=0)(V:1<=kg/\kg<=5)(O:1<=kl/\kl<=5)(hp:1<=par/\par<=4):k8 (fi kg kl par bud P T s) T.length (ac P).length (bJ kg kl par P T s).s.W.length:=by
  have I:=bj (aR hc).1;have Mz:T.length<=32:=I.2.2.2;have Y:(ac P).length<=32:=by exact aaz
  refine⟨⟨V,O⟩,λi j hi h h1 H=>?_,λi hi=>?_,Y,?_,?_,λj h=>?_⟩;. have e1:=(eD hc hi).2.2.1;have e2:=(eD hc h).2.2.1;have Ub:(cQ T i).toNat=(cQ T j).toNat:=H;exact CO hc hi h h1 ahy
  . obtain⟨h1,_,h3,h4⟩:=eD hc hi;have:=(pj (P:=P) Mz (gr P T i)).2;exact⟨h1,by show(cQ T i).toNat<32;omega⟩
  . show 1<=(par:Int)/\(par:Int)<=4;omega
  . show 1<=((s.W.length+1:Nat):Int)/\((s.W.length+1:Nat):Int)<=((aJ _ _ _ _ _).W.length:Int);have h1:=gk kl par (mtQ P T) (aG kg s (ac P).length par) (Nat.zero_le (ac P).length);have H:(aJ kl par (mtQ P T) (aG kg s (ac P).length par) 0).W.length=s.W.length+szK kg (ac P).length par:=bi _ _ _ _;have h3:=EX kg (ac P).length par;omega
  . show 1<=(((aJ _ _ _ _ j).W.length+1:Nat):Int)/\(((aJ _ _ _ _ j).W.length+1:Nat):Int)<=((aJ _ _ _ _ _).W.length:Int);have h1:=kB kl par (mtQ P T) (aG kg s (ac P).length par) h;omega
def po(hc:a5 P T=0)(hs:WdB 40 s):bU (fi kg kl par bud P T s) T.length (bJ kg kl par P T s).s.W.length 40 (s.ops+40) (bJ kg kl par P T s):=by
  have KY:=bj (aR hc).1;have Mz:T.length<=32:=KY.2.2.2;have V:(ac P).length<=32:=by exact aaz
  have hf:∀n,mtQ P T n<=32:=λn=>(pj Mz n).2;have Y:∀x∈(bJ kg kl par P T s).L,∃n,x=be kl (mtQ P T n):=λx I=>by obtain⟨n,_,rfl⟩:=List.mem_map.1 I;exact⟨n,rfl⟩
  have KX:(bJ kg kl par P T s).L.length=(ac P).length:=by simp[bJ,iB]
  have O:∀n,n<(ac P).length->(bJ kg kl par P T s).L.getD n []=be kl (mtQ P T n):=λn hn=>by rw[List.getD_eq_getElem?_getD];simp[bJ,iB,hn]
  refine⟨⟨yj (n4 hs ahy V) ahy hf _,wG V ahy,λx I=>?_,λp h=>?_⟩,⟨λp h=>Gx _ (i1 _ _ p h).1,λx I p h=>?_,λi hi=>?_,by simp[bJ],λi hi=>?_,λi hi=>?_⟩,rfl,?_⟩;. obtain⟨n,rfl⟩:=Y x I;exact wG (hf n) ahy
  . rw[(List.mem_replicate.1 h).2];exact⟨Int.le_refl _,by show(0:Int)<=40;omega⟩
  . obtain⟨n,rfl⟩:=Y x I;exact Gx _ (i1 _ _ p h).1
  . left;refine⟨?_,?_⟩;. show(sv (List.replicate T.length Sp.zero) i).pc=0;unfold sv;rw[List.getD_eq_getElem?_getD,List.getElem?_replicate];split<;>rfl
    . have H:=eD hc hi;show(((bJ kg kl par P T s).L.getD (gr P T i) []).getD (cQ T i).toNat Sp.zero).pc=0;rw[O _ H.1];exact iS (P:=λp=>p.pc=0) (λp h=>(i1 _ _ p h).1) rfl _
  . show gr P T i<(be _ _).length;rw[ic];exact(eD hc hi).1
  . show gr P T i<_/\(cQ T i).toNat<_;have H:=eD hc hi;rw[KX];refine⟨H.1,?_⟩;show _<((bJ kg kl par P T s).L.getD (gr P T i) []).length;rw[O _ H.1,ic];exact H.2.2.2
  . have h1:=ps kl par (mtQ P T) (aG kg s (ac P).length par) (ac P).length;have h2:=kH kg s (ac P).length par;show(aJ _ _ _ _ _).ops<=_;omega
end
end
section
open Go
def rt(W X:List Int)(I:y<=(W.length:Int)):ldW (W++X) y=ldW W y:=by
 by_cases h:1<=y;.have h1:inR W y=true:=aT.2 ⟨h,I⟩;have H:inR (W++X) y=true:=aT.2 ⟨h,by rw[List.length_append];omega⟩;rw[jt h1,jt H,List.getD_eq_getElem?_getD,List.getElem?_append_left ahy,<-List.getD_eq_getElem?_getD]
 .rw[ly (iV.2 ahy),ly (iV.2 ahy)]
def xD(W:List Int)(j:Nat)(I:(W.length:Int)<y):ldW (W++List.replicate j 0) y=0:=by
 unfold ldW;split;.rw[List.getD_eq_getElem?_getD];rename_i h;have H:=aT.1 h;rw[List.getElem?_append_right ahy,List.getElem?_replicate];split<;>rfl
 .rfl
def kG(k:Nat)(s:Ar)(n m:Nat)(H:y<=(s.W.length:Int)):ldW (aG k s n m).W y=ldW s.W y:=by
 have e:ldW (bD s (szK k n m)).W y=ldW s.W y:=rt _ _ H
 have key:∀x v:Int,(s.W.length:Int)<x->ldW (ae (bD s (szK k n m)) x v).W y=ldW s.W y:=λx v I=>by
  rw[ay,<-e];unfold stW;split;.rename_i h;have:=gz h v y;unfold stW at this;rw[if_pos h]at this;rw[this,if_neg ahy]
  .rfl
 unfold aG;split;.exact key _ _ ahy
 split;.exact key _ _ ahy
 .exact e
section
variable{s:Ar}
def fK{k:Nat}(h:j<=k)(O:y<=((aJ kl par f s j).W.length:Int)):ldW (aJ kl par f s k).W y=ldW (aJ kl par f s j).W y:=by
 induction k with
 |zero=>obtain rfl:j=0:=ahy;rfl
 |succ k I=>
  by_cases e:j=k+1;.subst e;rfl
  .have H:j<=k:=(by omega);have hm:=gk kl par f s H;rw[<-I H];show ldW (bD (aG kl (aJ kl par f s k) (f k) par) 1).W y=_;have h1:ldW (bD (aG kl (aJ kl par f s k) (f k) par) 1).W y=ldW (aG kl (aJ kl par f s k) (f k) par).W y:=rt _ _ (by rw[bi];omega);rw[h1];exact kG _ _ _ _ ahy
def vc{k:Nat}(h:j<k):ldW (aJ kl par f s k).W (cwN kl par f s j:Nat)=0:=by
 rw[fK (j:=j+1) (k:=k) h];.show ldW (bD (aG kl (aJ kl par f s j) (f j) par) 1).W _=0;exact xD _ _ (by unfold cwN;omega)
 .show _<=((bD (aG kl (aJ kl par f s j) (f j) par) 1).W.length:Int);rw[eE];unfold cwN;omega
end
def qP{k m:Nat}:szI k n (m:Int)=(szK k n m:Nat):=by
 unfold szI szK;split;.rfl
 split;.rfl
 exact aaK
def qA(k n i:Nat):(sv (be k n) i).pc=0:=iS (P:=λp=>p.pc=0) (λp h=>(i1 k n p h).1) rfl i
def oU{k:Nat}(hk:1<=k/\k<=5)(s:Ar){m:Nat}(hm:1<=m):cB k (s.W.length+1:Nat) (m:Int) n (aG k s n m).W (be k n):=by
 have hz:=bi k s n m;refine⟨ic k n,by omega,by omega,by rw[hz,qP];omega,?_⟩;have p0:=qA k n;have V:∀y:Int,(s.W.length:Int)<y->y<=s.W.length+szK k n m->inR (bD s (szK k n m)).W y=true:=λy h1 h2=>aT.2 ⟨by omega,by rw[eE];omega⟩;have H:∀y:Int,(s.W.length:Int)<y->ldW (bD s (szK k n m)).W y=0:=λy hy=>xD _ _ hy;have KO:k=1\/k=2\/k=3\/k=4\/k=5:=by omega
 rcases KO with rfl|rfl|rfl|rfl|rfl
 .show gD _ n _ _;intro i hi hc;rw[p0]at hc;omega
 .show dI _ n (ldW (bD s 2).W) _;refine⟨?_,λi hi hc=>by rw[p0]at hc;omega,λi hi hc=>by rw[p0]at hc;omega,λi j hi O Y hc _=>by rw[p0]at hc;omega⟩;have e1:=H ((s.W.length+1:Nat)+1) ahy;have e2:=H (s.W.length+1:Nat) ahy;show ldW (bD s (szK 2 n m)).W _<=ldW (bD s (szK 2 n m)).W _;rw[e1,e2];exact Int.le_refl _
 .show ∃v,dZ _ _ n (ldW (ae (bD s (szK 3 n m)) ((s.W.length:Int)+2) 1).W) _ v;rw[ay];have hw:=gz (V ((s.W.length:Int)+2) ahy (by show(s.W.length:Int)+2<=s.W.length+(1+m:Nat);omega)) 1;refine⟨0,Int.le_refl _,?_,λi hi hc=>by rw[p0]at hc;omega,λi hi hc=>by rw[p0]at hc;omega,λi j hi O Y hc _=>by rw[p0]at hc;omega,λq q0 q1=>?_,?_⟩;.rw[hw,if_neg ahy,H _ ahy];exact Int.le_refl _
  .rw[hw];split;.omega
   .rw[H _ ahy];omega
  .rw[hw,if_pos (by unfold pPl;rw[Int.zero_emod];omega)];rfl
 .have eN:∀x,fN (s.W.length+1:Nat) n (ldW (bD s (szK 4 n m)).W) x=0:=λx=>by unfold fN mNx;split<;>first|exact H _ ahy|rfl
  have nk:∀i,¬Fp (fW (s.W.length+1:Nat) n (ldW (bD s (szK 4 n m)).W)) (sv (be 4 n)) i:=λi h=>by have h:10<=(sv (be 4 n) i).pc\/(3<=(sv (be 4 n) i).pc/\_):=h;rw[p0]at h;omega
  show McA n (ldW (bD s (szK 4 n m)).W _) (fN _ n (ldW (bD s (szK 4 n m)).W)) (fW _ n (ldW (bD s (szK 4 n m)).W)) _;refine⟨⟨λi j _ _ h=>absurd h (nk i),λ_ i _=>nk i⟩,by rw[H _ ahy];omega,?_,?_,λi _ hc=>by rw[H _ ahy]at hc;unfold numT at hc;omega,?_,λi j _ _ hc=>by rw[p0]at hc;omega,?_,λi j _ _ hc=>by rw[p0]at hc;omega,?_⟩;all_goals intro i _ hc;rw[p0]at hc;omega
 .show ∃e,ClA n (ldW (ae (bD s (szK 5 n m)) ((s.W.length:Int)+1) ((n:Int)+1)).W _) (fC _ n (ldW (ae (bD s (szK 5 n m)) ((s.W.length:Int)+1) ((n:Int)+1)).W)) _ e;rw[ay];have hw:=gz (V ((s.W.length:Int)+1) ahy (by show(s.W.length:Int)+1<=s.W.length+(n+2:Nat);omega)) ((n:Int)+1);have I:∀i,i<n->(sv (be 5 n) i).a=(i:Int)+1:=λi hi=>by unfold sv be;rw[List.getD_eq_getElem?_getD];simp[hi]
  refine⟨(n:Int)+1,by omega,λi hi=>by rw[I i hi];omega,λi j hi O Y=>by rw[I i hi,I j O]at Y;omega,λi hi=>by rw[I i hi];omega,?_,?_,?_,λi j _ _ hc=>by rw[p0]at hc;omega,.inl (by rw[hw,if_pos ahy]),?_,?_⟩
  .unfold fC;split;.rw[hw,if_neg ahy,H _ ahy]
   .rfl
  all_goals intro i _ hc;rw[p0]at hc;omega
def cB.grow{k:Nat}{t m:Int}{W H:List Int}{S:List Sp}(h:cB k t m n W S)(O:W.length<=H.length)(I:∀y,t<=y->y<t+szI k n m->ldW H y=ldW W y):cB k t m n H S:=
 ⟨h.len,h.m1,h.t1,by have:=h.t2;omega,h.i.congr h.m1 I⟩
section
variable{s:Ar}
def vE(hc:a5 P T=0)(LK:1<=kg/\kg<=5)(LH:1<=kl/\kl<=5)(hp:1<=par/\par<=4):cO (fi kg kl par bud P T s) T.length (ac P).length (mtQ P T):=by
 have h0:=vV (bud:=bud) (s:=s) hc LK LH hp;obtain⟨s7,H⟩:=LE (aG kg s (ac P).length par);have Y:∀a,(fi kg kl par bud P T s).cw a=((cwN kl par (mtQ P T) s7 a:Nat):Int):=λa=>by rw[H];rfl
 have O:∀a,(fi kg kl par bud P T s).tl a=(((aJ kl par (mtQ P T) s7 a).W.length+1:Nat):Int):=λa=>by rw[H];rfl
 have Oj:∀a,(fi kg kl par bud P T s).cw a=(fi kg kl par bud P T s).tl a+(szK kl (mtQ P T a) par:Nat):=λa=>by rw[Y,O];unfold cwN;rw[bi];omega
 refine⟨h0.k,h0.inj,λi hi=>?_,λa V=>?_,λa V=>?_,λa V=>?_,λa b V I hn=>?_⟩;.have:=eD hc hi;exact⟨this.1,this.2.2.2⟩
 .rw[Oj];show _=_+szI kl (mtQ P T a) ((par:Nat):Int);rw[qP]
 .show((s.W.length+1:Nat):Int)+szI kg (ac P).length ((par:Nat):Int)<=_;rw[qP,O];have h1:=gk kl par (mtQ P T) s7 (Nat.zero_le a);have h2:(aJ kl par (mtQ P T) s7 0).W.length=s.W.length+szK kg (ac P).length par:=by rw[H];exact bi _ _ _ _
  omega
 .show 0<=szI kl (mtQ P T a) ((par:Nat):Int);rw[qP];omega
 .have key:∀a b,a<b->(fi kg kl par bud P T s).cw a<(fi kg kl par bud P T s).tl b:=λa b h=>by rw[Y,O];have:=kB kl par (mtQ P T) s7 h;unfold cwN;rw[bi];omega
  rcases Nat.lt_or_gt_of_ne hn with h|h
  .exact .inl (key a b h)
  .exact .inr (key b a h)
def xI(hc:a5 P T=0)(LK:1<=kg/\kg<=5)(LH:1<=kl/\kl<=5)(hp:1<=par/\par<=4)(hs:WdB 40 s):CoM (fi kg kl par bud P T s) T.length (ac P).length (mtQ P T) (bJ kg kl par P T s):=by
 have mP:=po (kg:=kg) (kl:=kl) (par:=par) (bud:=bud) hc hs;have y:=vE (bud:=bud) (s:=s) hc LK LH hp;obtain⟨s7,H⟩:=LE (aG kg s (ac P).length par);have O:(bJ kg kl par P T s).s=aJ kl par (mtQ P T) s7 (ac P).length:=by rw[H];rfl
 have ZK:(aJ kl par (mtQ P T) s7 0).W.length=s.W.length+szK kg (ac P).length par:=by rw[H];exact bi _ _ _ _
 have KW:∀n,n<(ac P).length->(bJ kg kl par P T s).L.getD n []=be kl (mtQ P T n):=λn hn=>by rw[List.getD_eq_getElem?_getD];simp[bJ,iB,hn]
 have Rc:∀j,(sv (bJ kg kl par P T s).T j).pc=0:=λj=>by show(sv (List.replicate T.length Sp.zero) j).pc=0;exact aa6
 have Pm:∀j,¬cX (sv (bJ kg kl par P T s).T j):=λj I=>by unfold cX at I;rw[Rc]at I;omega
 refine⟨?_,λa h=>?_,by simp[bJ,iB],λa h=>?_,mP.v,λj hj=>j9 (Pm j),λa h _=>?_⟩
 .have h1:=oU LK s (n:=(ac P).length) hp.1;rw[O];refine h1.grow ?_ (λx h2 Y=>?_);.have:=gk kl par (mtQ P T) s7 (Nat.zero_le (ac P).length);rw[bi];omega
  .rw[qP]at Y;rw[fK (Nat.zero_le _) (by rw[ZK];omega),H];rfl
 .rw[KW a h,O];have h1:=oU LH (aJ kl par (mtQ P T) s7 a) (n:=mtQ P T a) hp.1;have et:(fi kg kl par bud P T s).tl a=(((aJ kl par (mtQ P T) s7 a).W.length+1:Nat):Int):=by rw[H];rfl
  rw[et];refine h1.grow ?_ (λx h2 Y=>?_);.have:=kB kl par (mtQ P T) s7 h;rw[bi];omega
  .rw[qP]at Y;have e1:((aJ kl par (mtQ P T) s7 (a+1)).W.length:Int)=(aJ kl par (mtQ P T) s7 a).W.length+szK kl (mtQ P T a) par+1:=(by show((bD (aG _ _ _ _) 1).W.length:Int)=_;rw[eE,bi];omega);rw[fK (j:=a+1) h ahy];show ldW (bD (aG kl (aJ kl par (mtQ P T) s7 a) (mtQ P T a) par) 1).W x=_;exact rt _ _ (by rw[bi];omega)
 .have V:(fi kg kl par bud P T s).cw a=((cwN kl par (mtQ P T) s7 a:Nat):Int):=by rw[H];rfl
  rw[V,O];have:=kB kl par (mtQ P T) s7 h;unfold cwN;rw[bi];omega
 .have V:(fi kg kl par bud P T s).cw a=((cwN kl par (mtQ P T) s7 a:Nat):Int):=by rw[H];rfl
  rw[V,O,vc h];show FrP (sv (be kg (ac P).length) a) 0;unfold FrP;rw[qA];rfl
end
end
section
open Go Go.RowKit
def flV(l:Nat):Value:= .iface 181 (agg #[.iface 193 ↑l])
def bdF(N:Nat):Int:=40+2*(N:Int)
structure im(k n m:Nat)(st:Ar×List Sp)(N:Nat):Prop where
 i:cB k 1 m n st.1.W st.2
 w:WdB (bdF N) st.1
 p:∀p∈st.2,SpB k (bdF N) p/\pcK k p
 o:st.1.ops<=N+1
def flS(k m:Nat)(st:Ar×List Sp)(i:Nat):Ar×List Sp:=((bS k 1 m st.1 i (sv st.2 i)).1,st.2.set i (bS k 1 m st.1 i (sv st.2 i)).2)
structure FlB where
 x:Fx
 hi:Nat
 bt:Nat
 a:Nat
 g:Nat
def Ef(k n m:Nat):LkM n where
 σ:=Ar×List Sp
 β:=FlB
 ok:=λst N=>im k n m st N
 ar:=λst=>st.1
 sp:=λst i=>sv st.2 i
 cn:=λst i=>if (sv st.2 i).pc=10 then 1 else 0
 rd:=false
 step:=flS k m
 ask:=λst i r=>if r then st else(st.1,st.2.set i (askK k (sv st.2 i)))
 leave:=λst i=>(st.1,st.2.set i (bf (sv st.2 i)))
 bt:=λb=>b.bt
 hi:=λb=>b.hi
 fp:=λb=>[b.a,b.g,b.x.q]
 is:=λb w a g lb st=>dy w a g k b.x st.1 st.2/\(b.a=a/\b.g=g/\b.x.n=n/\b.x.m=m/\b.x.t=1)/\jH w lb n k (flV b.x.p) [b.a,b.g,b.x.q] b.bt b.hi/\(b.bt<=b.x.p/\b.x.p<b.hi)/\b.bt<=b.x.l/\b.x.l<b.hi
section
variable{k m:Nat}{st:Ar×List Sp}
def im.at(h:im k n m st N){i:Nat}(hi:i<n):SpB k (bdF N) (sv st.2 i)/\pcK k (sv st.2 i):=by
 have H:i<st.2.length:=by rw[h.i.len];exact hi
 exact h.p _ (List.mem_of_getElem? (qN H))
def im.mono(h:im k n m st N):im k n m st (N+1):=⟨h.i,h.w.mono ahU,λp H=>⟨(h.p p H).1.mono ahU,(h.p p H).2⟩,by have:=h.o;omega⟩
def im.set{s':Ar}{H:List Sp}(h:im k n m st N){i:Nat}{q:Sp}(hi:cB k 1 m n s'.W H)(O:H=st.2.set i q)(hw:WdB (bdF N+2) s')(V:SpB k (bdF N+2) q/\pcK k q)(Y:s'.ops<=N+2):im k n m (s',H) (N+1):=by
 have e:bdF (N+1)=bdF N+2:=by unfold bdF;omega
 refine⟨hi,by rw[e];exact hw,λp I=>?_,Y⟩;rw[e];rw[O]at I;rcases List.mem_or_eq_of_mem_set I with h1|rfl
 .exact⟨(h.p p h1).1.mono ahy,(h.p p h1).2⟩
 .exact V
def im.pre(h:im k n m st N)(hN:N<lkB)(V:1<=k/\k<=5){x:Fx}(I:x.n=n/\x.m=m/\x.t=1):lh k x st.1 st.2 (bdF N):=
 ⟨by have:=h.o;unfold lkB at hN;omega,h.w,λp H=>(h.p p H).1,by unfold bdF;omega,by unfold bdF;unfold lkB at hN;omega,aT.2 (by
  have O:=h.i.t2
  have hm:=h.i.m1
  have Y:(1:Int)<=szI k n m:=by unfold szI;(repeat' split)<;>omega
  rw[I.2.2];omega)⟩
end
def yY{k m:Nat}(Y:1<=k/\k<=5)(hn:1<=n/\n<=32)(hm:1<=m/\m<=4):(Ef k n m).Good where
 n32:=hn
 okS:=fun(st:Ar×List Sp) N i h hN hi=>by
  show im k n m (flS k m st i) (N+1)
  replace h:im k n m st N:=h
  obtain⟨hp,hc⟩:=h.at hi
  have I:bdF N<=10000000000000:=by unfold bdF;unfold lkB at hN;omega
  have Kp:=qW (t:=1) (m:=m) (i:=(i:Int)) h.w hp ahU I ahU ahU
  exact h.set (h.i.step Y h.w ahU I hi hc).1 rfl Kp.1 ⟨Kp.2,(jc Y hc).1⟩ (Nat.le_trans (dc k 1 m st.1 i _).1 (by have:=h.o;omega))
 okA:=fun(st:Ar×List Sp) N i r h _ hi=>by
  replace h:im k n m st N:=h
  cases r
  .obtain⟨hp,hc⟩:=h.at hi
   exact h.set (h.i.ask Y hi) rfl (h.w.mono ahy) ⟨(uP hp ahU).mono ahy,nY hc⟩ (by have:=h.o;omega)
  .exact h.mono
 okL:=fun(st:Ar×List Sp) N i h _ hi=>by
  replace h:im k n m st N:=h
  obtain⟨hp,hc⟩:=h.at hi
  exact h.set (h.i.leave Y hi) rfl (h.w.mono ahy) ⟨(nZ hp).mono ahy,jv hc⟩ (by have:=h.o;omega)
 okm:=fun(st:Ar×List Sp) N (h:im k n m st N)=>h.mono
 one:=fun(st:Ar×List Sp) N i j (h:im k n m st N) hi hj h1 h2 _=>h.i.one Y hi hj h1 h2
 pcs:=fun(st:Ar×List Sp) N i (h:im k n m st N) hi=>by
  have:=(h.at hi).2
  show 0<=(sv st.2 i).pc
  unfold pcK iX at this
  (repeat' split at this)<;>omega
 cnt:=fun(st:Ar×List Sp) N i h hi=>by
  show(sv st.2 i).pc=10↔0<(if (sv st.2 i).pc=10 then(1:Int)else 0)
  split<;>simp[*]
 opsS:=fun(st:Ar×List Sp) N i _ _ _=>(dc k 1 m st.1 i _).1
 arA:=fun(st:Ar×List Sp) i r=>by cases r<;>rfl
 arL:=fun(st:Ar×List Sp) i=>rfl
 ais:=fun(b:FlB) w a g lb (st:Ar×List Sp) h=>h.1.ki.ar
 lk:=fun(b:FlB) w a g lb (st:Ar×List Sp) h=>h.2.2.1.c1
 kd:=fun(b:FlB) w a g lb (st:Ar×List Sp) h=>⟨k,h.2.2.1.blk.cell 0,(decide_eq_false ahy).symm⟩
 fpa:=fun(b:FlB) w a g lb (st:Ar×List Sp) h=>⟨λx hx=>(h.2.2.1.fl x hx).2,h.2.2.1.hw⟩
 far:=fun(b:FlB) w a g lb (st:Ar×List Sp) w' S h t hS=>by
  obtain⟨k1,⟨rfl,rfl,hc⟩,hd,hp,hl⟩:=h
  have h9:∀x∈S,b.hi<=x\/x<b.bt:=hS
  have ha:=hd.fl b.a ahz
  have hg:=hd.fl b.g ahz
  have hq:=hd.fl b.x.q ahz
  exact⟨k1.turns t (λm=>by have:=h9 _ m;omega) (λm=>by have:=h9 _ m;omega) (λm=>by have:=h9 _ m;omega) (λm=>by have:=h9 _ m;omega) (λm=>by have:=h9 _ m;omega),⟨rfl,rfl,hc⟩,hd.far t h9,hp,hl⟩
 cS:=fun(b:FlB) w a g lb (st:Ar×List Sp) N i h O hN hi=>by
  obtain⟨k1,⟨rfl,rfl,hc⟩,hd,hp,hl⟩:=h
  replace O:im k n m st N:=O
  have Mo:i<st.2.length:=by rw[O.i.len];exact hi
  refine(oJ .fl hd.c1 hd.c2 hi (R:=λr w'=>r=dm (sv st.2 i) (sv (flS k m st i).2 i)/\dy w' b.a b.g k b.x (flS k m st i).1 (flS k m st i).2/\aa [b.a,b.g,b.x.q] w w') λW H=>?_).mono ?_
  .have hx:=rf (k1.below H) (KOk.of Y) i _ (qN Mo) (O.pre hN Y hc) (O.at hi).2
   unfold Ab at hx
   rw[hc.2.2,hc.2.1]at hx
   refine hx.mono ?_
   rintro e w' ⟨rfl,k2,t2⟩
   refine⟨_,rfl,?_,k2,(aa.of_below H).trans t2⟩
   rw[show(flS k m st i).2=st.2.set i (bS k 1 m st.1 i (sv st.2 i)).2 from rfl,gh Mo,if_pos rfl]
   rfl
  .exact aa7
 cA:=fun(b:FlB) w a g lb (st:Ar×List Sp) N i r h O hN hi=>by
  obtain⟨k1,⟨rfl,rfl,hc⟩,hd,hp,hl⟩:=h
  replace O:im k n m st N:=O
  have Mo:i<st.2.length:=by rw[O.i.len];exact hi
  have tq:∀{w w':World},aa [b.x.q] w w'->aa [b.a,b.g,b.x.q] w w':=λt=>t.mono ahz
  refine(yL .fl hd.c1 hd.c2 hi r (R:=λq w'=>q=decide ((sv st.2 i).pc=0/\(r=true->(false:Bool)=true))/\dy w' b.a b.g k b.x (if r then st else(st.1,st.2.set i (askK k (sv st.2 i)))).1 (if r then st else(st.1,st.2.set i (askK k (sv st.2 i)))).2/\aa [b.a,b.g,b.x.q] w w') (λV W H=>?_) (λV W H=>?_)).mono ?_
  .subst V
   refine(vp (k1.below H) (KOk.of Y) i _ (qN Mo)).mono ?_
   rintro e w' ⟨rfl,k2,t2⟩
   exact⟨_,rfl,by simp,k2,(aa.of_below H).trans (tq t2)⟩
  .subst V
   exact⟨by simp,k1.below H,aa.of_below H⟩
  .exact aa7
 cL:=fun(b:FlB) w a g lb (st:Ar×List Sp) N i h O hN hi=>by
  obtain⟨k1,⟨rfl,rfl,hc⟩,hd,hp,hl⟩:=h
  replace O:im k n m st N:=O
  have Mo:i<st.2.length:=by rw[O.i.len];exact hi
  have tq:∀{w w':World},aa [b.x.q] w w'->aa [b.a,b.g,b.x.q] w w':=λt=>t.mono ahz
  refine(kU .fl hd.c1 hd.c2 hi (R:=λq w'=>q=decide ((sv st.2 i).pc=10)/\dy w' b.a b.g k b.x st.1 (st.2.set i (bf (sv st.2 i)))/\aa [b.a,b.g,b.x.q] w w') λW H=>?_).mono ?_
  .refine(oV (k1.below H) (KOk.of Y) i _ (qN Mo)).mono ?_
   rintro e w' ⟨rfl,k2,t2⟩
   exact⟨_,rfl,rfl,k2,(aa.of_below H).trans (tq t2)⟩
  .exact aa7
 cP:=fun(b:FlB) w a g lb (st:Ar×List Sp) i h hi=>oI .fl h.2.2.1.c1 h.2.2.1.c2 hi _ λW H=>xy (h.1.below H) (KOk.of Y) i _ (qN (by rw[h.1.ki.n,h.2.1.2.2.1];exact hi))
 cC:=fun(b:FlB) w a g lb (st:Ar×List Sp) i h hi=>oH .fl h.2.2.1.c1 h.2.2.1.c2 hi _ λW H=>xy (h.1.below H) (KOk.of Y) i _ (qN (by rw[h.1.ki.n,h.2.1.2.2.1];exact hi))
end
section
open Go Go.RowKit
variable{w:World}{c:CoC}{st:Co}
def AJ(xl:Nat):Value:= .iface 173 (agg #[.iface 169 ↑xl])
structure nV where
 x:Cox
 B:Nat->Prop
 a:Nat
 g:Nat
 bt:Nat
 hi:Nat
def G2(c:CoC)(n Nn:Nat)(ml:Nat->Nat)(L:Nat)(st:Co)(N:Nat):Prop:=
 CoM c n Nn ml st/\bU c n L (40+2*N) (N+40) st/\∀i,(sv st.T i).pc=10->0<(sv st.T i).a
def Ee(c:CoC)(P T:List Int)(L:Nat):LkM T.length where
 σ:=Co
 β:=nV
 ok:=G2 c T.length (ac P).length (mtQ P T) L
 ar:=λst=>st.s
 sp:=λst i=>sv st.T i
 cn:=λst i=>if (sv st.T i).pc=10 then(sv st.T i).a else 0
 rd:=false
 step:=ak c
 ask:=λst i r=>if r then st else bG c st i
 leave:=aA
 bt:=λb=>b.bt
 hi:=λb=>b.hi
 fp:=λb=>CoS b.a b.g b.x
 is:=λb w a g lb st=>aD b.B w a g b.x c P T st/\(b.a=a/\b.g=g)/\jH w lb T.length 6 (AJ b.x.l) (CoS b.a b.g b.x) b.bt b.hi/\∀i,eX b.x b.B i->b.bt<=i/\i<b.hi
def aD.farK{B:Nat->Prop}{a g:Nat}{x:Cox}(h:aD B w a g x c P T st)(t:aa S w w')(ha:a∉S)(hg:g∉S)(hS:∀i∈S,¬eX x B i):aD B w' a g x c P T st:=by
 have ar:=h.ar.turns t ha hg;have nb:∀r,eX x B r->r∉S:=λr I hm=>hS r hm I;obtain⟨Y,z⟩:=h.nd
 refine⟨h.fx,ar,t.blk h.lk (nb _ (.inl rfl)),h.tb.turns t (λi hi I=>nb i (.inr (.inr (.inr (.inr (.inr I))))) hi),⟨Y,t.blk z (nb _ (.inr (.inl rfl)))⟩,
  h.sp.turns t (nb _ (.inr (.inr (.inl rfl)))),
  h.gl.oth t ar (nb _ (.inr (.inr (.inr (.inl (.inl rfl)))))) (nb _ (.inr (.inr (.inr (.inl (.inr (.inl rfl))))))) (nb _ (.inr (.inr (.inr (.inl (.inr (.inr rfl))))))),
  λn y V H O=>?_,h.lL,h.lG,h.lS,h.sl⟩
 have hm:y∈x.X:=List.mem_of_getElem? H;exact(h.lo n y V H O).oth t ar (nb _ (.inr (.inr (.inr (.inr (.inl ⟨y,hm,.inl rfl⟩)))))) (nb _ (.inr (.inr (.inr (.inr (.inl ⟨y,hm,.inr (.inl rfl)⟩)))))) (nb _ (.inr (.inr (.inr (.inr (.inl ⟨y,hm,.inr (.inr rfl)⟩))))))
def AK(c:CoC)(st:Co)(i:Nat)(p:Sp)(H:p.pc≠10)(h:(db c st i p).2.2.2.pc=10):0<(db c st i p).2.2.2.a:=by
 revert h;unfold db yH qo;repeat' split
 all_goals (intro h;simp only at h ⊢;omega)
def FI(st:Co)(i:Nat)(q:Sp)(j:Nat)(h:(sv st.T j).pc=10->0<(sv st.T j).a)(H:q.pc=10->0<q.a):(sv (st.T.set i q) j).pc=10->0<(sv (st.T.set i q) j).a:=by
 rw[bh];split;.exact H
 .exact h
def A7{B:Nat->Prop}{a g:Nat}{x:Cox}(h:aD B w a g x c P T st)(i:Nat)(hi:i<x.n):E 234 #[↑x.l,J i] w λe w'=>e= returned (J (if (sv st.T i).pc=10 then(sv st.T i).a else 0))/\Below w.heap.size w w':=by
  have Y:=aP;have H:=qh (λw' (b:Below w.heap.size w w')=>mN (h.below b) i hi);obtain⟨p,V⟩:=LE (sv st.T i);rw[<-V]at H ⊢;clear h V;obtain⟨pc,u,b,z⟩:=p;unfold aC at H;simp only;by_cases O:pc=10;. subst O;rw[if_pos rfl];go_enter func234,ntmps234;go_wp2_with fail;refine Pi (H.o _ (Below.refl _ _)) λw1 b1=>?_;have I:=qh (((((b1.o.alloc b1.o.size (cells #[J 10,J u,J b,J z] 113))))));go_wp2;go_ret;exact⟨rfl,I.o⟩
  . rw[if_neg O];have t0:(pc !=10)=true:=(by simpa using O);go_enter func234,ntmps234;go_wp2_with fail;refine Pi (H.o _ (Below.refl _ _)) λw1 b1=>?_;have I:=qh (((((b1.o.alloc b1.o.size (cells #[J pc,J u,J b,J z] 113))))));go_wp2;go_ret;exact⟨rfl,I.o⟩
def yX(hc:a5 P T=0)(hy:cO c T.length (ac P).length (mtQ P T))(O:k8 c T.length (ac P).length L):(Ee c P T L).Good where
 n32:=by have:=bj (aR hc).1;exact⟨this.2.2.1,this.2.2.2⟩
 okS:=fun(st:Co) N i h hN hi=>by
  unfold lkB at hN
  obtain⟨h1,h2,h3⟩:=h
  have k2:=h2.step O ahy ahy hi
  refine⟨h1.step hy h2.bd ahy ahy hi,⟨k2.bd.mono ahV,k2.v,k2.len,by have:=k2.ops;show(ak c st i).s.ops<=_;omega⟩,λj=>?_⟩
  show(sv (ak c st i).T j).pc=10->0<(sv (ak c st i).T j).a
  unfold ak
  split
  .exact h3 j
  .rename_i e
   exact FI st i _ j (h3 j) (AK c st i _ ahy)
 okA:=fun(st:Co) N i r h hN hi=>by
  unfold lkB at hN
  obtain⟨h1,h2,h3⟩:=h
  cases r
  .have k2:=h2.ask O ahy hi
   refine⟨h1.ask hy hi,⟨k2.bd.mono ahV,k2.v,k2.len,by have:=k2.ops;show(bG c st i).s.ops<=_;omega⟩,λj=>?_⟩
   show(sv (bG c st i).T j).pc=10->0<(sv (bG c st i).T j).a
   unfold bG
   exact abl
  .exact⟨h1,⟨h2.bd.mono ahV,h2.v,h2.len,by have:=h2.ops;show st.s.ops<=_;omega⟩,h3⟩
 okL:=fun(st:Co) N i h hN hi=>by
  unfold lkB at hN
  obtain⟨h1,h2,h3⟩:=h
  have k2:=h2.leave O ahy hi
  refine⟨h1.leave hy hi,⟨k2.bd.mono ahV,k2.v,k2.len,by have:=k2.ops;show(aA st i).s.ops<=_;omega⟩,λj=>?_⟩
  show(sv (aA st i).T j).pc=10->0<(sv (aA st i).T j).a
  unfold aA
  exact abl
 okm:=fun(st:Co) N h=>⟨h.1,⟨h.2.1.bd.mono ahV,h.2.1.v,h.2.1.len,by have:=h.2.1.ops;show st.s.ops<=_;omega⟩,h.2.2⟩
 one:=fun(st:Co) N i j h hi hj h1 h2 _=>h.1.one hy hi hj (by have e:(sv st.T i).pc=10:=h1;omega) (by have e:(sv st.T j).pc=10:=h2;omega)
 pcs:=fun(st:Co) N i h hi=>by
  have:=h.1.v.k i hi
  unfold dt at this
  show 0<=(sv st.T i).pc
  omega
 cnt:=fun(st:Co) N i h hi=>by
  show(sv st.T i).pc=10↔0<(if (sv st.T i).pc=10 then(sv st.T i).a else 0)
  have:=h.2.2 i
  split
  .rename_i e;exact⟨λ_=>this e,λ_=>e⟩
  .rename_i e;exact⟨λq=>absurd q e,λq=>by omega⟩
 opsS:=fun(st:Co) N i _ _ _=>(mY i).1
 arA:=fun(st:Co) i r=>by
  cases r
  .show(bG c st i).s=st.s
   unfold bG;split<;>rfl
  .rfl
 arL:=fun(st:Co) i=>by
  show(aA st i).s=st.s
  unfold aA;split<;>rfl
 ais:=fun(b:nV) w a g lb (st:Co) h=>h.1.ar
 lk:=fun(b:nV) w a g lb (st:Co) h=>h.2.2.1.c1
 kd:=fun(b:nV) w a g lb (st:Co) h=>⟨6,h.2.2.1.blk.cell 0,rfl⟩
 fpa:=fun(b:nV) w a g lb (st:Co) h=>⟨λx hx=>(h.2.2.1.fl x hx).2,h.2.2.1.hw⟩
 far:=fun(b:nV) w a g lb (st:Co) w' S h t hS=>by
  obtain⟨k,⟨rfl,rfl⟩,hd,hl⟩:=h
  have Y:∀x∈S,b.hi<=x\/x<b.bt:=hS
  have hf:=hd.fl
  refine⟨k.farK t (λm=>?_) (λm=>?_) (λi m I=>?_),⟨rfl,rfl⟩,hd.far t Y,hl⟩
  .have:=Y _ m;have:=hf b.a aia;omega
  .have:=Y _ m;have:=hf b.g aia;omega
  .have:=Y _ m;have:=hl _ I;omega
 cS:=fun(b:nV) w a g lb (st:Co) N i h hk hN hi=>by
  unfold lkB at hN
  obtain⟨k,⟨rfl,rfl⟩,hd,hl⟩:=h
  have en:=k.fx.nT
  have eN:=k.fx.nN
  have C:=(en ▸ hk.2.1:bU c b.x.n L (40+2*N) (N+40) st).pre (by rw[en,eN];exact O) k.fx ahy ahy ahy
  have H:i<b.x.n:=by rw[en];exact hi
  refine(oJ .co hd.c1 hd.c2 hi (R:=λr w'=>r=dm (sv st.T i) (sv (ak c st i).T i)/\aD b.B w' b.a b.g b.x c P T (ak c st i)/\aa (CoS b.a b.g b.x) w w') λW bw=>?_).mono ?_
  .refine(mO (k.below bw) C i H).mono ?_
   exact abm
  .exact abn
 cA:=fun(b:nV) w a g lb (st:Co) N i r h hk hN hi=>by
  obtain⟨k,⟨rfl,rfl⟩,hd,hl⟩:=h
  have H:i<b.x.n:=by rw[k.fx.nT];exact hi
  refine(yL .co hd.c1 hd.c2 hi r (R:=λq w'=>q=decide ((sv st.T i).pc=0/\(r=true->(false:Bool)=true))/\aD b.B w' b.a b.g b.x c P T (if r then st else bG c st i)/\aa (CoS b.a b.g b.x) w w') (λV W bw=>?_) (λV W bw=>?_)).mono ?_
  .subst V
   refine(sB (k.below bw) i H).mono ?_
   exact abo
  .exact aaF
  .exact abn
 cL:=fun(b:nV) w a g lb (st:Co) N i h hk hN hi=>by
  obtain⟨k,⟨rfl,rfl⟩,hd,hl⟩:=h
  have H:i<b.x.n:=by rw[k.fx.nT];exact hi
  refine(kU .co hd.c1 hd.c2 hi (R:=λq w'=>q=decide ((sv st.T i).pc=10)/\aD b.B w' b.a b.g b.x c P T (aA st i)/\aa (CoS b.a b.g b.x) w w') λW bw=>?_).mono ?_
  .refine(lz (k.below bw) i H).mono ?_
   exact abm
  .exact abn
 cP:=fun(b:nV) w a g lb (st:Co) i h hi=>oI .co h.2.2.1.c1 h.2.2.1.c2 hi _ λW bw=>mN (h.1.below bw) i (by rw[h.1.fx.nT];exact hi)
 cC:=fun(b:nV) w a g lb (st:Co) i h hi=>sU .co h.2.2.1.c1 h.2.2.1.c2 hi _ λW bw=>A7 (h.1.below bw) i (by rw[h.1.fx.nT];exact hi)
end
section
open Go Go.RowKit
def qT(w:World)(a g n:Nat)(k:Int)(v:Value)(ms:MS n)(w':World):Prop:=
 ∀(w2:World) (lb:Nat),aa [lb] w' w2->lb<w.heap.size->lb≠a->lb≠g->Blk w2 lb 110 #[J k,J n,v]->∃b:ms.1.β,ms.1.Good/\ms.1.ok ms.2 0/\ms.1.is b w2 a g lb ms.2/\(∀x∈ms.1.fp b,w.heap.size<=x\/x=a\/x=g)/\min lb (min a g)<=ms.1.bt b
section
variable{w:World}{a g:Nat}{s:Ar}
def Ik(O:1<=n/\n<=32)(hs:s.ops=0){c:Mx}(k:bV w' c bud (ma0 s n))(hc:c.b.a=a/\c.b.g=g/\c.b.n=n/\(c.b.F:Int)=maF n)(h1:w.heap.size<=c.l)(Y:w.heap.size<=c.q)(h3:w.heap.size<=c.b.k):qT w a g n 10 (maV c.l) ⟨xH n bud,ma0 s n⟩ w':=by
 intro w2 lb t V ha hg I;have H:∀x∈mS c,w.heap.size<=x\/x=a\/x=g:=λx h=>by unfold mS at h;simp at h;omega
 have k2:=k.far t (λx h m=>by have:=H x h;simp at m;omega);have l1:=k2.lk.lt;have l2:=k2.sp.lt;have l3:=k2.bn.blk.lt;have l4:=k2.bn.ar.blk.lt;have l5:=k2.bn.ar.wds.lt;exact⟨(c,min lb (min a g),w2.heap.size),vC bud O,⟨Iw _ O.1,by show s.ops<=0;omega⟩,⟨k2,hc,I,λm=>by have:=H _ m;omega,⟨Nat.min_le_left _ _,I.lt⟩,λx h=>by unfold mS at h;simp at h;show min lb (min a g)<=x/\x<w2.heap.size;omega,Nat.le_refl _⟩,H,Nat.le_refl _⟩
def Ii(hc:a5 P T=0)(hd:0<=bud/\bud<=3)(hs:s.ops=0){l q b u hi:Nat}(k:bE w' l a g q b u lo hi bud P T (hc0 s (ac P).length T.length))(h1:w.heap.size<=l)(h2:w.heap.size<=q)(h4:w.heap.size<=u)(h5:w.heap.size<=lo):qT w a g T.length 8 (hcV l) ⟨Eg bud P T,hc0 s (ac P).length T.length⟩ w':=by
 intro w2 lb t Y ha hg I;have O:1<=T.length/\T.length<=32:=by have:=bj (aR hc).1;exact⟨this.2.2.1,this.2.2.2⟩
 have H:∀x∈[a,g,q,u],w.heap.size<=x\/x=a\/x=g:=λx h=>by simp at h;omega
 have k2:=k.far t (λx h m=>by simp at h m;omega) (λx m=>by simp at m;omega);have l1:=k2.lk.lt;have l2:=k2.sp.lt;have l3:=k2.tu.blk.lt;have l4:=k2.ar.blk.lt;have l5:=k2.ar.wds.lt;refine⟨⟨l,a,g,q,b,u,lo,hi,min lb (min a g),w2.heap.size⟩,yZ hc hd,⟨⟨_,HOk.start _ O.2 (λt V=>(ua k V).2) hs rfl⟩,λi=>?_⟩,⟨k2,⟨rfl,rfl⟩,⟨I,λm=>by have:=H _ m;omega,⟨Nat.min_le_left _ _,I.lt⟩,λx h=>by simp at h;show min lb (min a g)<=x/\x<w2.heap.size;omega,Nat.le_refl _⟩,⟨by show min lb (min a g)<=l;omega,l1⟩,by show min lb (min a g)<=lo;omega,k2.hs⟩,H,Nat.le_refl _⟩;show lw (sv (List.replicate T.length Sp.zero) i);rw[r7];unfold lw Sp.zero;simp
def ct0(s:Ar):CtS n (cn0 s n):=by
 have e:∀i,sv (List.replicate n Sp.zero) i=Sp.zero:=λi=>r7 n i
 have w0:∀y,ldW (List.replicate (2+3*n) (0:Int)) y=0:=λy=>by
  unfold ldW;split;.exact iT _ _ _
  .rfl
 have H:∀x,aN (List.replicate (2+3*n) (0:Int)) x=0:=λx=>by unfold aN;rw[w0];split<;>rfl
 have I:∀x,aS (List.replicate (2+3*n) (0:Int)) x=0:=λx=>by unfold aS;rw[w0];split<;>rfl
 have h:∀x,aL (List.replicate (2+3*n) (0:Int)) x=0:=λx=>by unfold aL;rw[w0];split<;>rfl
 refine⟨⟨?_,?_,?_,?_,?_,?_,?_,?_,?_,?_,?_,?_,?_,?_,?_⟩,by simp[cn0],by simp[cn0]⟩;all_goals simp only[cn0,e,w0,H,I,h,WkB]
 .refine⟨?_,?_⟩<;>intros<;>simp_all [GU,jh,Sp.zero]
 all_goals try simp only[Sp.zero]
 all_goals first|omega|(intros;omega)
def If(nd:List Int)(hs:s.ops=0){c:Cx}{cap:Nat}(k:aq w' c cap bud nd (cn0 s nd.length))(hc:c.a=a/\c.g=g)(h1:w.heap.size<=c.l)(h2:w.heap.size<=c.q)(h3:w.heap.size<=c.k)(O:∀x∈[c.n1,c.nb,c.b0,c.b1,c.b2],w.heap.size<=x):qT w a g nd.length 9 (cnV c.l) ⟨xG bud nd nd.length,cn0 s nd.length⟩ w':=by
 intro w2 lb t Nc ha hg I;simp only[List.mem_cons,List.not_mem_nil,or_false,forall_eq_or_imp,forall_eq]at O;have k2:=k.far t (λx h m=>by simp at h m;omega) (λx h m=>by simp at h m;omega);have l1:=k2.lk.lt;have l2:=k2.sp.lt;have l3:=k2.wk.blk.lt;have l4:=k2.ar.blk.lt;have l5:=k2.ar.wds.lt;have l6:=k2.wk.row.lt;have V:=aM (k2.row 0 (by have:=k2.n32;omega));have Y:=k2.p0.lt;have l9:=k2.p1.lt;have l0:=k2.p2.lt;have H:∀x∈cnF ⟨c,cap,min lb (min a g),w2.heap.size⟩,(w.heap.size<=x\/x=a\/x=g)/\x<w2.heap.size:=λx h=>by unfold cnF at h;simp at h;omega
 refine⟨⟨c,cap,min lb (min a g),w2.heap.size⟩,vB k2.n32,⟨ct0 s,by show s.ops<=0;omega⟩,⟨k2,hc,⟨I,λm=>by have:=H _ m;omega,⟨Nat.min_le_left _ _,I.lt⟩,λx h=>by have:=H x h;show min lb (min a g)<=x/\x<w2.heap.size;omega,Nat.le_refl _⟩,λx h=>by simp at h V Y l9 l0;show min lb (min a g)<=x/\x<w2.heap.size;omega⟩,λx h=>(H x h).1,Nat.le_refl _⟩
end
end
section
open Go.RowKit
structure SmX where
 l:Nat
 q:Nat
 b:Nat
 gg:Nat
 dd:Nat
 x:Cox
def smC(a:Nat)(X:SmX)(N n:Nat):Array Value:=#[↑a,↑X.b,↑X.gg,↑X.dd,J (2*(N:Int)+1),↑X.x.l,slice (some ⟨X.q,0,none⟩) n n]
structure aw(ty:TypeId)(B BC:Nat->Prop)(w:World)(a g:Nat)(X:SmX)(c:CoC)(P T:List Int)(st:Co)(d:Dr)(U:List Sp):Prop where
 lk:Blk w X.l ty (smC a X (ac P).length T.length)
 gd:GD w a g X.gg X.dd (ac P).length st.s d
 tb:dD B w X.b P T
 sp:SpR w X.q U
 co:aD BC w a g X.x c P T st
 lU:U.length=T.length
 o1:∀i∈CoS a g X.x,i≠X.l/\i≠X.q/\i≠X.gg/\i≠X.dd/\¬B i
 o2:¬eX X.x BC X.q/\¬eX X.x BC X.dd
 o3:X.q≠X.l/\X.q≠X.gg/\X.q≠X.dd/\¬B X.q
 o4:X.dd≠X.l/\X.dd≠X.gg/\¬B X.dd
section
variable{ty:TypeId}{B:Nat->Prop}{w:World}{a g:Nat}{X:SmX}{x:Cox}{c:CoC}{st st':Co}{d d':Dr}{U:List Sp}{s':Ar}
def aD.arAway(h:aD BC w a g x c P T st)(t:aa S w w')(O:aB w' a g s')(hS:∀i∈S,i=a\/i=g\/¬eX x BC i):aD BC w' a g x c P T {st with s:=s'}:=by
 have nb:∀r u,x.o r=u->u≠3->eX x BC r->r∉S:=λr u e hu I hm=>by
  rcases hS r hm with H|H|H
  .rw[H,h.fx.oa]at e;exact hu e.symm
  .rw[H,h.fx.og]at e;exact hu e.symm
  .exact H I
 obtain⟨Zz,z⟩:=h.nd
 refine⟨h.fx,O,t.blk h.lk (nb _ _ h.fx.ol ahA (.inl rfl)),h.tb.turns t (λi hi I=>nb i _ (h.fx.oB i I) ahA (.inr (.inr (.inr (.inr (.inr I))))) hi),⟨Zz,t.blk z (nb _ _ h.fx.on ahA (.inr (.inl rfl)))⟩,
  h.sp.turns t (nb _ _ h.fx.os ahA (.inr (.inr (.inl rfl)))),
  h.gl.oth t O (nb _ _ h.fx.oG.1 ahA (.inr (.inr (.inr (.inl (.inl rfl)))))) (nb _ _ h.fx.oG.2.1 ahA (.inr (.inr (.inr (.inl (.inr (.inl rfl))))))) (nb _ _ h.fx.oG.2.2 ahA (.inr (.inr (.inr (.inl (.inr (.inr rfl))))))),
  λn y S' V Qa=>?_,h.lL,h.lG,h.lS,h.sl⟩
 have hm:y∈x.X:=List.mem_of_getElem? V;have Y:=h.fx.oL n y V;exact(h.lo n y S' V Qa).oth t O (nb _ _ Y.1 ahy (.inr (.inr (.inr (.inr (.inl ⟨y,hm,.inl rfl⟩)))))) (nb _ _ Y.2.1 ahy (.inr (.inr (.inr (.inr (.inl ⟨y,hm,.inr (.inl rfl)⟩)))))) (nb _ _ Y.2.2 ahy (.inr (.inr (.inr (.inr (.inl ⟨y,hm,.inr (.inr rfl)⟩))))))
def aw.agS(h:aw ty B BC w a g X c P T st d U):(a≠X.l/\a≠X.q/\a≠X.gg/\a≠X.dd/\¬B a)/\(g≠X.l/\g≠X.q/\g≠X.gg/\g≠X.dd/\¬B g):=
 ⟨h.o1 a aia,h.o1 g aia⟩
def aw.coT(h:aw ty B BC w a g X c P T st d U)(t:aa (CoS a g X.x) w w')(k:aD BC w' a g X.x c P T st'):aw ty B BC w' a g X c P T st' d U:=
 {h with lk:=t.blk h.lk (λm=>(h.o1 _ m).1 rfl),gd:={h.gd with ar:=k.ar,ga:=t.blk h.gd.ga (λm=>(h.o1 _ m).2.2.1 rfl),dr:=t.blk h.gd.dr (λm=>(h.o1 _ m).2.2.2.1 rfl)},tb:=h.tb.turns t (λi hi=>(h.o1 i hi).2.2.2.2),sp:=h.sp.turns t (λm=>(h.o1 _ m).2.1 rfl),co:=k}
def aw.gdT(h:aw ty B BC w a g X c P T st d U)(t:aa [a,g,X.dd] w w')(k:GD w' a g X.gg X.dd (ac P).length s' d'):aw ty B BC w' a g X c P T {st with s:=s'} d' U:=by
 obtain⟨H,hg⟩:=h.agS;have hm:∀r,r≠a->r≠g->r≠X.dd->r∉[a,g,X.dd]:=λr h1 O V=>by simp[h1,O,V]
 refine {h with lk:=t.blk h.lk (hm _ (λe=>H.1 e.symm) (λe=>hg.1 e.symm) (λe=>h.o4.1 e.symm)),gd:=k,tb:=h.tb.turns t (λi hi I=>?_),sp:=h.sp.turns t (hm _ (λe=>H.2.1 e.symm) (λe=>hg.2.1 e.symm) h.o3.2.2.1),co:=h.co.arAway t k.ar (λi hi=>?_)}
 .simp at hi;rcases hi with rfl|rfl|rfl
  .exact H.2.2.2.2 I
  .exact hg.2.2.2.2 I
  .exact h.o4.2.2 I
 .simp at hi;rcases hi with rfl|rfl|rfl
  .exact .inl rfl
  .exact .inr (.inl rfl)
  .exact .inr (.inr h.o2.2)
def aw.arT(h:aw ty B BC w a g X c P T st d U)(t:aa [a,g] w w')(H:aB w' a g s'):aw ty B BC w' a g X c P T {st with s:=s'} d U:=
 h.gdT (aK t) (h.gd.op t H)
def aw.put(h:aw ty B BC w a g X c P T st d U){i:Nat}{p p':Sp}(Y:U[i]? =some p)(V:j<4)(O:(bm p).set j u=bm p'):aw ty B BC (w.setCell ⟨X.q,i*4+j,none⟩ u) a g X c P T st d (U.set i p'):=by obtain⟨I,hg⟩:=h.agS;have t:aa [X.q] w (w.setCell ⟨X.q,i*4+j,none⟩ u):=aW _ _ _;have H:=h.gd.ar.turns t (by simp;exact I.2.1) (by simp;exact hg.2.1);have k:=h.co.arAway t (s':=st.s) H (λi hi=> .inr (.inr (by simp at hi;rw[hi];exact h.o2.1)));refine {h with lk:=t.blk h.lk (by simp;exact λe=>h.o3.1 e.symm),gd:={h.gd with ar:=H,ga:=t.blk h.gd.ga (by simp;exact λe=>h.o3.2.1 e.symm),dr:=t.blk h.gd.dr (by simp;exact λe=>h.o3.2.2.1 e.symm)},tb:=h.tb.turns t (λi hi=>by simp at hi;rw[hi];exact h.o3.2.2.2),sp:=h.sp.put Y V O,co:=k,lU:=by rw[List.length_set];exact h.lU}
def aw.put0(h:aw ty B BC w a g X c P T st d U){i:Nat}{p p':Sp}(I:U[i]? =some p)(H:(bm p).set 0 u=bm p'):aw ty B BC (w.setCell ⟨X.q,i*4,none⟩ u) a g X c P T st d (U.set i p'):=h.put I (j:=0) ahA H
def aw.below(h:aw ty B BC w a g X c P T st d U)(b:Below w.heap.size w w'):aw ty B BC w' a g X c P T st d U:=
 have t:aa [] w w':=aa.of_below b
 {h with lk:=t.blk h.lk ahz,gd:=h.gd.below b,tb:=h.tb.turns t ahz,sp:=h.sp.turns t ahz,co:=h.co.below b}
def aw.nT(h:aw ty B BC w a g X c P T st d U):X.x.n=T.length/\X.x.N=(ac P).length/\T.length<=32/\(ac P).length<=32:=by have:=h.co.fx.n32;have H:=h.co.fx.nT;have I:=h.co.fx.nN;exact⟨H,I,by omega,by omega⟩
def aw.thr(h:aw ty B BC w a g X c P T st d U){i:Nat}(hi:i<T.length):U[i]? =some (sv U i):=by
 have:i<U.length:=by rw[h.lU];exact hi
 exact aav
def aw.cs(h:aw ty B BC w a g X c P T st d U):w.cell? X.l=some ↑a/\Z w X.l 1 ↑X.b/\Z w X.l 2 ↑X.gg/\Z w X.l 3 ↑X.dd/\Z w X.l 4 (J (2*((ac P).length:Int)+1))/\Z w X.l 5 ↑X.x.l/\Z w X.l 6 (slice (some ⟨X.q,0,none⟩) T.length T.length):=
 ⟨h.lk.cell 0,h.lk.cell 1,h.lk.cell 2,h.lk.cell 3,h.lk.cell 4,h.lk.cell 5,h.lk.cell 6⟩
def SmS(a g:Nat)(X:SmX):List Nat:=X.q :: X.dd :: CoS a g X.x
def ii(t:aa (CoS a g X.x) w w'):aa (SmS a g X) w w':=t.mono (λi hi=>by unfold SmS;simp[hi])
def jx(t:aa [a,g,X.dd] w w'):aa (SmS a g X) w w':=t.mono (λi hi=>by unfold SmS CoS;simp at hi ⊢;rcases hi with rfl|rfl|rfl<;>simp)
def ft(t:aa [a,g] w w'):aa (SmS a g X) w w':=t.mono (λi hi=>by unfold SmS CoS;simp at hi ⊢;rcases hi with rfl|rfl<;>simp)
def ee(i:Nat)(u:Value):aa (SmS a g X) w (w.setCell ⟨X.q,i,none⟩ u):=(aW _ _ _).mono (λi hi=>by unfold SmS;simp at hi;simp[hi])
end
end
section
open Go.RowKit
section
variable{B:Nat->Prop}{w:World}{a g:Nat}{X:SmX}{c:CoC}{st st':Co}{d d':Dr}{U:List Sp}{s':Ar}
def JB(h:aw 330 B BC w a g X c P T st d U):E 366 #[↑X.l] w λe w'=>e= returned (J T.length)/\w=w':=by have c6:=h.cs.2.2.2.2.2.2;clear h;go_enter func366,ntmps366;exact aab
def BG(h:aw 330 B BC w a g X c P T st d U)(i:Int)(r:Bool)(V:r=decide (okI U i)):E 367 #[↑X.l,J i] w λe w'=>e= returned (.bool r)/\w=w':=by
 have HT:=qh (JB h);have Ku:=h.lU;clear h;by_cases h0:0<=i
 .by_cases h1:i<T.length;.refine akf ?_;intro e;subst e;clear V;go_enter func367,ntmps367;exact aae
  .have e:r=false:=(by rw[V];exact decide_eq_false (λk=>h1 aiC));subst e;clear V;go_enter func367,ntmps367;exact abL
 .have e:r=false:=by rw[V];exact decide_eq_false (λk=>h0 k.1)
  subst e;clear V;go_enter func367,ntmps367;exact aab
def pE(h:aw 330 B BC w a g X c P T st d U)(i:Int):E 364 #[↑X.l,J i] w λe w'=>e= returned (aC (getS U i))/\Below w.heap.size w w':=by
  refine ajo ?_;intro I H Kl Ko Ku;by_cases O:okI U i;. have V:=qh (BG I i true (decide_eq_true O).symm);have hp:=dM O;obtain⟨p,i'⟩:=LE (getS U i);rw[<-i']at hp ⊢;have c6:=h.cs.2.2.2.2.2.2;refine aiX ?_;intro a0 a1 a2 a3;obtain⟨Y,h1⟩:=id O;rw[Ku]at h1;obtain⟨n,rfl⟩:=Int.eq_ofNat_of_zero_le Y;simp only[Int.toNat_natCast]at a0 a1 a2 a3;have t2:¬(n:Int)<0:=(by omega);have t4:n<T.length:=(by omega);clear h I hp i' Y h1 O Ku;go_enter func364,ntmps364;go_wp2_with (go_at_call 367;refine V.o.mono ?_;rintro e w' ⟨rfl,rfl⟩);exact bodyPost_ret (results_cell_row ahC _ _ w.heap.size 113 _ (0,0) _ ahC (heap_alloc_new w _) Tryz.underlying113 rfl ahB) rfl ⟨rfl,(Below.refl _ _).alloc (Nat.le_refl _) _⟩
  . have V:=qh (BG I i false (decide_eq_false O).symm);rw[dF O];clear h I O Ku;go_enter func364,ntmps364;go_wp2_with (go_at_call 367;refine V.o.mono ?_;rintro e w' ⟨rfl,rfl⟩);exact bodyPost_ret (results_cell_row ahC _ _ w.heap.size 113 _ (0,0) _ ahC (heap_alloc_new w _) Tryz.underlying113 rfl ahB) rfl ⟨rfl,(Below.refl _ _).alloc (Nat.le_refl _) _⟩
end
end
section
open Go.RowKit
def dr0:Dr:=⟨0,0,false,false,false,0,false⟩
def FV(w:World)(gg:Nat):E 175 #[↑gg] w λe w'=>∃d,e= returned (pointer (some ⟨d,0,none⟩))/\Below w.heap.size w w'/\Blk w' d 367 (drC gg dr0)/\d=w.heap.size:=by go_enter func175,ntmps175;go_wp2;go_ret;exact⟨_,rfl,(Below.refl _ _).alloc (Nat.le_refl _) _,Blk.new w 367 (drC gg dr0),rfl⟩
def smA(s:Ar)(N:Nat):Ar:=bD (bD s (2*N)) 1
end
end Go.Proofs.YtglokdbiggbkjaaGreat
