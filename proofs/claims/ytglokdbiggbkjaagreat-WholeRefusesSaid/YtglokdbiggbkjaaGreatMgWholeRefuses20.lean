/- Joined texts. -/
import Derived.Test.YtglokdbiggbkjaaGreatMgWholeRefuses0
import Derived.Test.YtglokdbiggbkjaaGreatMgWholeRefuses2
import Derived.Test.YtglokdbiggbkjaaGreatMgWholeRefuses10
import Derived.Test.YtglokdbiggbkjaaGreatMgWholeRefuses11
import Derived.Test.YtglokdbiggbkjaaGreatMgWholeRefuses13
import Derived.Test.YtglokdbiggbkjaaGreatMgWholeRefuses14
import Derived.Test.YtglokdbiggbkjaaGreatMgWholeRefuses16
import Derived.Test.YtglokdbiggbkjaaGreatMgWholeRefuses18
import Derived.Test.YtglokdbiggbkjaaGreatMgWholeRefuses19
set_option linter.unusedVariables false
set_option linter.unusedSimpArgs false
set_option linter.defProp false
set_option maxRecDepth 100000
set_option maxHeartbeats 16000000
open Go.Proofs.Tryz
namespace Go.Proofs.YtglokdbiggbkjaaGreat
open Go.IntKind(i64)
open Go.Value(int bool slice agg tuple pointer)
open Go.Ending(returned)
open Go.Obj(cells)
variable{n kl par j lo kg N L:Nat}{f o0:Nat->Nat}{P T:List Int}{gs S:List Nat}{bud y:Int}{w':World}{u:Value}
section
open Go.RowKit
variable{t:TypeId}{cs:Array Value}
def mtQ(P T:List Int)(n:Nat):Nat:=max 1 (T.count ((ac P).getD n 0))
def aJ(kl par:Nat)(f:Nat->Nat)(s:Ar):Nat->Ar
 |0=>s
 |k+1=>bp (aG kl (aJ kl par f s k) (f k) par) 1
def cwN(kl par:Nat)(f:Nat->Nat)(s:Ar)(n:Nat):Nat:=(aG kl (aJ kl par f s n) (f n) par).W.length+1
def Jq(kl:Nat)(f:Nat->Nat)(N:Nat):List (List Sp):=(List.range N).map λn=>a5 kl (f n)
def oY(s:Ar)(x v:Int):(ae s x v).W.length=s.W.length:=by rw[aw,bI]
def mC(s:Ar)(x v:Int):(ae s x v).room=s.room:=by unfold ae wrA fy;split<;>rfl
def eo(s:Ar)(n:Nat):(bp s n).W.length=s.W.length+n:=by unfold bp;simp
def be(k:Nat)(s:Ar)(n m:Nat):(aG k s n m).W.length=s.W.length+szK k n m:=by
 unfold aG;split;.rw[oY,eo]
 split;.rw[oY,eo]
 .rw[eo]
def kC(k:Nat)(s:Ar)(n m:Nat):(aG k s n m).room=s.room:=by
 unfold aG;split;.rw[mC];rfl
 split;.rw[mC];rfl
 .rfl
def pd{k m:Nat}(h:n<=32)(hm:k=3->m<=32):szK k n m<=65:=by exact aa4
def gW(k n:Nat):(a5 k n).length=n:=by unfold a5;split<;>simp
def oC(s:Ar)(x v:Int):(ae s x v).ops<=s.ops+1:=g8 _ _ _
def kf(k:Nat)(s:Ar)(n m:Nat):(aG k s n m).ops<=s.ops+1:=by
 unfold aG;split;.exact oC _ _ _
 split;.exact oC _ _ _
 .show s.ops<=_;omega
def oA(kl par:Nat)(f:Nat->Nat)(s:Ar)(k:Nat):(aJ kl par f s k).ops<=s.ops+k:=by
 induction k with
 |zero=>exact Nat.le_refl _
 |succ k h=>have:=kf kl (aJ kl par f s k) (f k) par;show(aG _ _ _ _).ops<=_;omega
section
variable{s:Ar}
def r7(k:Nat):(aJ kl par f s k).room=s.room:=by
 induction k with
 |zero=>rfl
 |succ k h=>show(aG _ _ _ _).room=_;rw[kC,h]
def nG(h:∀n,f n<=32)(H:kl=3->par<=32)(k:Nat):(aJ kl par f s k).W.length<=s.W.length+66*k:=by
 induction k with
 |zero=>exact Nat.le_refl _
 |succ k I=>show(bp (aG _ _ _ _) 1).W.length<=_;rw[eo,be];have:=pd (k:=kl) (h k) H;omega
def ot(h:T.length<=32)(n:Nat):1<=mtQ P T n/\mtQ P T n<=32:=by have:T.count ((ac P).getD n 0)<=T.length:=List.count_le_length;unfold mtQ;omega
end
def fh(kg kl par:Nat)(bud:Int)(P T:List Int)(s:Ar):CoC:=
 ⟨kg,kl,(s.W.length+1:Nat),(par:Int),bud,gj P T,λi=>(cI T i).toNat,λn=>((aJ kl par (mtQ P T) (aG kg s (ac P).length par) n).W.length+1:Nat),λn=>(cwN kl par (mtQ P T) (aG kg s (ac P).length par) n:Nat)⟩
def bC(kg kl par:Nat)(P T:List Int)(s:Ar):Co:=
 ⟨aJ kl par (mtQ P T) (aG kg s (ac P).length par) (ac P).length,a5 kg (ac P).length,Jq kl (mtQ P T) (ac P).length,List.replicate T.length Sp.zero⟩
def uj{w:World}{i:Nat}{u:TypeId}{H:Array Value}(h:Blk w i t cs)(k:Blk w j u H)(I:t≠u):i≠j:=by rintro rfl;have e:=h.symm.trans k;simp only[Option.some.injEq,Obj.cells.injEq]at e;exact I e.2.1
def CA(t:TypeId):Prop:=t=240\/t=243
def Fl(k:Nat)(h:CA t):t≠lkT k:=by unfold lkT;rcases h with rfl|rfl<;>split<;>decide
def de.away{w:World}{a g k:Nat}{x:Fx}{s:Ar}{S:List Sp}(h:de w a g k x s S){i:Nat}(I:Blk w i t cs)(H:CA t):i≠x.p/\i≠x.l/\i≠x.q:=by
 obtain⟨O,z⟩:=h.ki.sp;refine⟨uj I h.p ?_,uj I h.ki.lk (Fl k H),uj I z ?_⟩;.rcases H with rfl|rfl<;>decide
 .rcases H with rfl|rfl<;>decide
structure NwQ(w:World)(a g lo:Nat)(o0:Nat->Nat)(kg kl par N:Nat)(f:Nat->Nat)(s7:Ar)(xg:Fx)(k:Nat)(X:List Fx)(gs:List Nat)(o:Nat->Nat):Prop where
 ar:aB w a g (aJ kl par f s7 k)
 gl:de w a g kg xg (aJ kl par f s7 k) (a5 kg N)
 ls:∀(n:Nat) (y:Fx),X[n]? =some y->de w a g kl y (aJ kl par f s7 k) (a5 kl (f n))/\y.t=(aJ kl par f s7 n).W.length+1/\y.m=par/\(o y.p=5+n/\o y.l=5+n/\o y.q=5+n)/\lo<=y.p/\lo<=y.l/\lo<=y.q
 v:∀n v,gs[n]? =some v->v=cwN kl par f s7 n
 lX:X.length=k
 lV:gs.length=k
 oo:∀i,i<lo->o i=o0 i
section
variable{w1 w2 w3 w4:World}{a g:Nat}{o:Nat->Nat}{s7:Ar}{xg:Fx}{k:Nat}{X:List Fx}
def de.beside{k:Nat}{x:Fx}{s s':Ar}{S:List Sp}(h:de w1 a g k x s S)(t2:aa [a,g] w1 w3)(O:aB w3 a g s'){q:List Nat}(t3:aa q w3 w4)(V:a∉q)(hg:g∉q)(Y:∀i∈q,∃t cs,Blk w3 i t cs/\CA t):de w4 a g k x s' S:=by have H:de w3 a g k x s' S:=h.oth t2 O (by simp[h.pa,h.pg]) (by simp[h.ki.la,h.ki.lg]) (by simp[h.ki.qa,h.ki.qg]);refine H.turns t3 ?_ ?_ V hg ?_;all_goals intro hm;obtain⟨t,cs,I,ht⟩:=Y _ hm;have:=H.away I ht;omega
def NwQ.step(h:NwQ w1 a g lo o0 kg kl par N f s7 xg k X gs o)(JV:lo<=w1.heap.size){y:Fx}(hy:de w2 a g kl y (aG kl (aJ kl par f s7 k) (f k) par) (a5 kl (f k)))(t1:aa [a,g] w1 w2)(hf:w1.heap.size<=y.p/\w1.heap.size<=y.l/\w1.heap.size<=y.q)(ht:y.t=(aJ kl par f s7 k).W.length+1)(hm:y.m=par)(t2:aa [a] w2 w3)(V:aB w3 a g (bp (aG kl (aJ kl par f s7 k) (f k) par) 1)){q:List Nat}(t3:aa q w3 w4)(Y:a∉q)(hg:g∉q)(hq:∀i∈q,∃t cs,Blk w3 i t cs/\CA t):NwQ w4 a g lo o0 kg kl par N f s7 xg (k+1) (X++[y]) (gs++[cwN kl par f s7 k]) (λi=>if w1.heap.size<=i then 5+k else o i):=by
  have Kf:aa [a,g] w2 w3:=t2.mono ahF;have Wn:=t1.trans Kf;refine⟨V.turns t3 Y hg,h.gl.beside Wn V t3 Y hg hq,?_,?_,by simp[h.lX],by simp[h.lV],λi hi=>by rw[if_neg ahE];exact h.oo i hi⟩
  . intro n z H;by_cases hn:n<k;. rw[List.getElem?_append_left (by rw[h.lX];exact hn)]at H;obtain⟨I,e2,e3,e4,e5⟩:=h.ls n z H;have l1:=I.p.lt;have l2:=I.ki.lk.lt;have l3:=I.ki.sp.lt;exact⟨I.beside Wn V t3 Y hg hq,e2,e3,⟨by rw[if_neg ahE];exact e4.1,by rw[if_neg ahE];exact e4.2.1,by rw[if_neg ahE];exact e4.2.2⟩,e5⟩
    . have I':=(List.getElem?_eq_some_iff.1 H).1;simp only[List.length_append,List.length_cons,List.length_nil,h.lX]at I';obtain rfl:n=k:=by omega
      rw[List.getElem?_append_right (by rw[h.lX];omega),h.lX]at H;simp only[Nat.sub_self,List.getElem?_cons_zero,Option.some.injEq]at H;subst H;exact⟨hy.beside Kf V t3 Y hg hq,ht,hm,⟨by rw[if_pos hf.1],by rw[if_pos hf.2.1],by rw[if_pos hf.2.2]⟩,by omega,by omega,by omega⟩
  . intro n v O;by_cases hn:n<k;. rw[List.getElem?_append_left (by rw[h.lV];exact hn)]at O;exact h.v n v O
    . have I':=(List.getElem?_eq_some_iff.1 O).1;simp only[List.length_append,List.length_cons,List.length_nil,h.lV]at I';obtain rfl:n=k:=by omega
      rw[List.getElem?_append_right (by rw[h.lV];omega),h.lV]at O;simp only[Nat.sub_self,List.getElem?_cons_zero,Option.some.injEq]at O;exact O.symm
def NwQ.start(H:aB w1 a g s7)(h:de w1 a g kg xg s7 (a5 kg N)):NwQ w1 a g lo o0 kg kl par N f s7 xg 0 [] [] o0:=
 ⟨H,h,by intro n y I;simp at I,by intro n v O;simp at O,rfl,rfl,λ_ _=>rfl⟩
end
def Cz(X:List Fx)(gs:List Nat)(y:Fx)(v:Nat)(h:X.length=gs.length):((X++[y]).zip (gs++[v])).flatMap ndE=(X.zip gs).flatMap ndE++[pointer (some ⟨y.p,0,none⟩),J v]:=by rw[List.zip_append h];simp[List.flatMap_append,ndE]
def eh(hc:a8 P T=0){i:Nat}(hi:i<T.length):gj P T i<(ac P).length/\(ac P).getD (gj P T i) 0=T.getD i 0/\0<=cI T i/\(cI T i).toNat<mtQ P T (gj P T i):=by
 obtain⟨y,h⟩:=ak hi;have hm:=jo (aQ hc).2.2.2 h;obtain⟨k,H⟩:=Int.eq_ofNat_of_zero_le ((eP (ac P) y).1.2 hm);have hg:=mR hm H;have e:gj P T i=k:=by unfold gj;rw[bH h,H];rfl
 rw[e,bH hg,bH h];refine⟨(List.getElem?_eq_some_iff.1 hg).1,rfl,by unfold cI;omega,?_⟩;unfold cI mtQ;rw[bH h,bH hg,Int.toNat_natCast];have I:T=T.take i++T.drop i:=(List.take_append_drop i T).symm;have e3:T.drop i=y :: T.drop (i+1):=by rw[List.drop_eq_getElem_cons hi];congr 1;have:=List.getElem?_eq_getElem hi;rw[h]at this;injection this with this;exact this.symm
 have:T.count y=(T.take i).count y+1+(T.drop (i+1)).count y:=by
  conv=>lhs;rw[I,List.count_append,e3,List.count_cons_self]
  omega
 omega
def CW{B:Nat->Prop}{w:World}{a g l b qs:Nat}{o:Nat->Nat}{s:Ar}{xg:Fx}{X:List Fx}{v:Value}(h:NwQ w a g lo o0 kg kl par (ac P).length (mtQ P T) (aG kg s (ac P).length par) xg (ac P).length X gs o)(hc:a8 P T=0)(Kz:KOk kg)(Kx:KOk kl){pa:Int}(hp:xr kg par pa/\xr kl par pa)(I:0<=bud/\bud<=1000)(hN:1<=(ac P).length)(hl:Blk w l 240 (coC a b (kg:Int) (kl:Int) pa bud ↑xg.p v (slice (some ⟨qs,0,none⟩) T.length T.length)))(O:w.ownsRow lo 243 2 v (ac P).length ((X.zip gs).flatMap ndE))(YR:eM B w b P T)(Jr:SpR w qs (List.replicate T.length Sp.zero))(ht:xg.t=s.W.length+1)(hm:xg.m=par)(J4:s.W.length<=100)(o1:o0 l=1)(o2:o0 qs=2)(o3:o0 a=3/\o0 g=3)(o4:o0 xg.p=4/\o0 xg.l=4/\o0 xg.q=4)(oB:∀i,B i->o0 i=0)(ll:l<lo)(lq:qs<lo)(la:a<lo)(lg:g<lo)(lG:xg.p<lo/\xg.l<lo/\xg.q<lo)(lB:∀i,B i->i<lo):∃x:Cox,x.l=l/\x.qs=qs/\x.g=xg/\x.X=X/\lo<=x.qn/\aC B w a g x (fh kg kl par bud P T s) P T (bC kg kl par P T s):=by
  obtain⟨qn,cap,rfl,Ny,hq,Ze,hZ⟩:=tp O hN;have J5:=bi (aQ hc).1;have Lr:T.length<=32:=J5.2.2.2;have LP:(ac P).length<=32:=by exact aay
  have H:∀i,i<lo->(if i=qn then 1 else o i)=o0 i:=λi hi=>by rw[if_neg ahE];exact h.oo i hi
  refine⟨⟨l,b,qn,qs,T.length,(ac P).length,cap,pa,xg,X,gs,λi=>if i=qn then 1 else o i⟩,rfl,rfl,rfl,rfl,hq,?_⟩;refine {fx:=?_,ar:=h.ar,lk:=hl,tb:=YR,nd:=⟨Ze,hZ⟩,sp:=Jr,gl:=h.gl,lo:=?_,lL:=?_,lG:=gW _ _,lS:=by simp[bC],sl:=?_}
  . refine {ck:=hc,nT:=rfl,nN:=rfl,lX:=h.lX,lW:=h.lV,cap:=Ny,cn:=?_,tg:=?_,tl:=?_,gm:=by show(xg.m:Int)=(par:Int);rw[hm],cc:=?_,kg:=Kz,kl:=Kx,bud:=I,ol:=?_,on:=by simp,os:=?_,oa:=?_,og:=?_,oG:=?_,oL:=?_,oB:=?_};. intro i hi;refine⟨rfl,?_⟩;have:=(eh hc hi).2.2.1;show(((cI T i).toNat:Nat):Int)=_;omega
    . show((s.W.length+1:Nat):Int)=_;rw[ht]
    . intro n y V;obtain⟨_,e2,e3,_⟩:=h.ls n y V;refine⟨?_,by show(y.m:Int)=(par:Int);rw[e3]⟩;show(((aJ _ _ _ _ n).W.length+1:Nat):Int)=_;rw[e2]
    . intro n v O;have hn:n<(ac P).length:=(by have:=(List.getElem?_eq_some_iff.1 O).1;rw[h.lV]at this;exact this);have e:=h.v n v O;refine⟨by show((cwN _ _ _ _ n:Nat):Int)=_;rw[e],?_⟩;rw[e];unfold cwN;rw[be];have h1:=nG (kl:=kl) (par:=par) (f:=mtQ P T) (s:=aG kg s (ac P).length par) (λn=>(ot Lr n).2) hp.2.m3 n;rw[be]at h1;have h2:=pd (k:=kg) LP hp.1.m3;have h3:=pd (k:=kl) (ot (P:=P) Lr n).2 hp.2.m3;omega
    . show(if _ then 1 else _)=1;rw[H _ ll,o1]
    . show(if _ then 1 else _)=2;rw[H _ lq,o2]
    . show(if _ then 1 else _)=3;rw[H _ la,o3.1]
    . show(if _ then 1 else _)=3;rw[H _ lg,o3.2]
    . refine⟨?_,?_,?_⟩;. show(if _ then 1 else _)=4;rw[H _ lG.1,o4.1]
      . show(if _ then 1 else _)=4;rw[H _ lG.2.1,o4.2.1]
      . show(if _ then 1 else _)=4;rw[H _ lG.2.2,o4.2.2]
    . intro n y V;obtain⟨e1,_,_,e4,_⟩:=h.ls n y V;have:=e1.away hZ (.inr rfl);refine⟨?_,?_,?_⟩;. show(if _ then 1 else _)=_;rw[if_neg ahE];exact e4.1
      . show(if _ then 1 else _)=_;rw[if_neg ahE];exact e4.2.1
      . show(if _ then 1 else _)=_;rw[if_neg ahE];exact e4.2.2
    . intro i hi;show(if _ then 1 else _)=0;rw[H _ (lB i hi),oB i hi]
  . intro n y S V Y;have e:=(h.ls n y V).1;have hn:n<(ac P).length:=(by have:=(List.getElem?_eq_some_iff.1 V).1;rw[h.lX]at this;exact this);have:S=a5 kl (mtQ P T n):=(by simp only[bC,Jq,List.getElem?_map,List.getElem?_range hn,Option.map_some,Option.some.injEq]at Y;exact Y.symm);rw[this];exact e
  . show(Jq _ _ _).length=_;simp[Jq]
  . intro i S hi Y;obtain⟨h1,_,h3,h4⟩:=eh hc (show i<T.length from hi);have:S=a5 kl (mtQ P T (gj P T i)):=(by have OV:(Jq kl (mtQ P T) (ac P).length)[gj P T i]? =some S:=Y;simp only[Jq,List.getElem?_map,List.getElem?_range h1,Option.map_some,Option.some.injEq]at OV;exact OV.symm);rw[this,gW];exact h4
end
section
open Go.RowKit
def eQ(x:Cox)(B:Nat->Prop)(i:Nat):Prop:=i=x.l\/i=x.qn\/i=x.qs\/(i=x.g.p\/i=x.g.l\/i=x.g.q)\/(∃y∈x.X,i=y.p\/i=y.l\/i=y.q)\/B i
def Eh(w:World)(a g:Nat)(s:Ar)(gl lo pa bud:Int)(P T:List Int)(e:Ending)(w':World):Prop:=
 ∃(p:Option Addr) (c:Int),e= returned (tuple #[.pointer p,J c])/\(FlV gl pa/\FlV lo pa/\0<=bud/\bud<=1000->c=0)/\(c=0->(FlV gl pa/\FlV lo pa/\0<=bud/\bud<=1000)/\∃(x:Cox) (B:Nat->Prop),p=some ⟨x.l,0,none⟩/\aC B w' a g x (fh gl.toNat lo.toNat (mOf pa) bud P T s) P T (bC gl.toNat lo.toNat (mOf pa) P T s)/\∀i,eQ x B i->w.heap.size<=i/\i<w'.heap.size)/\aa [a,g] w w'
def ux{w:World}{a g:Nat}{s:Ar}(h:aB w a g s)(vP vT:Value)(P T:List Int)(hP:RdL w vP 1 encI P)(hT:RdL w vT 1 encI T)(hc:a8 P T=0)(gl lo pa bud:Int)(I:0<=bud/\bud<=1000)(V:s.W.length+2500<=s.room)(RD:s.W.length<=100)(Y:s.ops+100<=1000000000000):E 103 #[↑a,agg #[vP,vT],agg #[J gl,J lo,J pa,J bud]] w (Eh w a g s gl lo pa bud P T):=by
  obtain⟨i0,hi,JF,JH,ad⟩:=info_parts Tryz.infoSpF;obtain⟨j0,hj,OI,OJ,NL⟩:=info_parts Tryz.infoNd;have HJ:=qh (And.intro hj (And.intro OI (And.intro OJ NL)));clear hj OI OJ NL;have J5:=bi (aQ hc).1;refine ajB ?_;intro KL KZ LA Lr;have LP:(ac P).length<=32:=by exact aay
  have NQ:1<=(ac P).length:=by exact aa6
  have Ul:=qh I;obtain⟨kg,Kz⟩:=LE gl.toNat;obtain⟨kl,Kx⟩:=LE lo.toNat;obtain⟨par,Rx⟩:=LE (mOf pa);have Uc:=qh (fun(h:FlV gl pa)=>show gl=(kg:Int)/\KOk kg/\xr kg par pa from by rw[Kz,Rx];exact h.ok);have R9:=qh (fun(h:FlV lo pa)=>show lo=(kl:Int)/\KOk kl/\xr kl par pa from by rw[Kx,Rx];exact h.ok);have Nm:=qh (And.intro Kz (And.intro Kx Rx));have H:=qh (And.intro h (And.intro KL KZ));refine ajP ?_;intro HN JX;have HS:=qh (And.intro V (And.intro RD Y));have HR:=qh (λW=>oI bud W I.1 ahE);refine ajc ?_;intro JV B0 Ls;rw[show(w.alloc (cells #[vP,vT] 24)).heap.size=w.heap.size+1 by simp]at Ls;have BX:=qh Ls;clear h hP hT V RD Y J5 KL KZ hc Ls Kz Kx Rx I;go_enter func103,ntmps103;go_wp2_with fail;refine HN.o.mono ?_;rintro en w1 ⟨b,rfl,I,t1,b1⟩;rw[JV]at I t1 b1;refine akc ?_;intro K1;clear t1 b1 I HN BX B0;have p3:Z w1 (w.heap.size+1) 3 (J bud):=K1.o.2.2.1.cell 3;go_wp2_with fail;refine LT (HR.o _) ?_;have p0:Z w1 (w.heap.size+1) 0 (J gl):=K1.o.2.2.1.cell 0;have p1:Z w1 (w.heap.size+1) 1 (J lo):=K1.o.2.2.1.cell 1;have p2:Z w1 (w.heap.size+1) 2 (J pa):=K1.o.2.2.1.cell 2;have Ry:w.heap.size+1<w1.heap.size:=K1.o.2.2.1.lt;have Uv:=qh (dY w1.drew b P T ((K1.o.1.turns ((aa.refl (S:=[]) _).drew) ahF).tab JX.o));obtain⟨w4,YO,r',hg⟩:=run_makeSlice_full (P:=prog) w1.drew w1.heap.size 237 113 i0 (agg #[J 0,J 0,J 0,J 0]) 4 Tryz.underlying237 hi JF JH .i64 .i64 T.length ahE (by rw[ad];omega) (by unfold maxLen;omega) (Nat.le_refl _);have H4:=qh (show aa [] w1 w4 from((aa.refl _ _).drew).trans (aa.of_below ((Below.refl _ _).grown hg (Nat.le_refl _) (λj hj=>by cases hj))));have Us:=qh (jN r');have q0:=H4.o.cellQ p0 ahF;have q1:=H4.o.cellQ p1 ahF;have q2:=H4.o.cellQ p2 ahF;have q3:=H4.o.cellQ p3 ahF;have Pk:w1.heap.size<=w4.heap.size:=H4.o.size;clear r' hg;go_wp2_with fail
  have Un:=qh (λo:Obj=>show(w4.alloc o).cell? ⟨w.heap.size+1,0,none⟩=some (J gl)/\(w4.alloc o).cell? ⟨w.heap.size+1,1,none⟩=some (J lo)/\(w4.alloc o).cell? ⟨w.heap.size+1,2,none⟩=some (J pa)/\(w4.alloc o).cell? ⟨w.heap.size+1,3,none⟩=some (J bud)from by
    have t:aa [] w4 (w4.alloc o):=(aa.refl _ _).alloc o
    exact⟨t.cellQ q0 ahF,t.cellQ q1 ahF,t.cellQ q2 ahF,t.cellQ q3 ahF⟩)
  go_region_held3 (λW=>Z W (w.heap.size+1) 0 (J gl)/\Z W (w.heap.size+1) 1 (J lo)/\Z W (w.heap.size+1) 2 (J pa)/\Z W (w.heap.size+1) 3 (J bud))
    (first|exact⟨p0,p1,p2,p3⟩|exact⟨q0,q1,q2,q3⟩|exact Un.o _)
    (first|(go_at_call 136;go_loud (refine LT Uv.o ?_)))
  obtain⟨l,hl⟩:=LE w4.heap.size;obtain⟨w5,J8⟩:=LE (w4.alloc (.cells (coC a b gl lo pa bud (.pointer none) (.slice none 0 0) (slice (some ⟨w1.heap.size,0,none⟩) T.length T.length)) 240));have MX:=J8;unfold coC at MX;rw[<-MX,<-hl];have QH:=qh (show Blk w5 l 240 (coC a b gl lo pa bud (.pointer none) (.slice none 0 0) (slice (some ⟨w1.heap.size,0,none⟩) T.length T.length))from by rw[J8,hl];exact Blk.new _ _ _);have H5:=qh (show aa [] w1 w5 from by rw[J8];exact H4.o.alloc _);have W8:=qh (show SpR w5 w1.heap.size (List.replicate T.length Sp.zero)from by rw[J8];exact Us.o.turns ((aa.refl [] _).alloc _) ahF);have VM:=Us.o.lt;have WZ:=qh (show w1.heap.size<w4.heap.size from VM);clear VM
  have HO:=qh (show a<w.heap.size/\g<w.heap.size/\w.heap.size+2<=b/\b<w1.heap.size/\w1.heap.size<l/\w5.heap.size=l+1 from by
    have O:b<w1.heap.size:=K1.o.1.low.2;have e2:=K1.o.2.2.2;have e4:=H.o;have e5:=WZ.o;rw[J8,hl];simp
    omega)
  have Nr:Kq (∀W,aa [l,b,a,g] w5 W->Z W (w.heap.size+1) 0 (J gl)/\Z W (w.heap.size+1) 1 (J lo)/\Z W (w.heap.size+1) 2 (J pa)/\Z W (w.heap.size+1) 3 (J bud)):=qh λW hW=>by have o:=HO.o;have t:aa [l,b,a,g] w1 W:=(H5.o.mono ahF).trans hW;have n:w.heap.size+1∉[l,b,a,g]:=(by simp;omega);exact⟨t.cellQ p0 n,t.cellQ p1 n,t.cellQ p2 n,t.cellQ p3 n⟩
  obtain⟨N,hN⟩:=LE ((ac P).length);rw[<-hN]at LP NQ;have Oi:=pZ (λi=>w.heap.size+2<=i/\i<w1.heap.size) w5.drew b P T JX.o ((K1.o.1.turns H5.o ahF).turns ((aa.refl (S:=[]) _).drew) ahF);rw[<-hN]at Oi;have Np:=qh Oi;have Mm:=qh hN;have RX:=qh ((H.o.1.turns (aa.of_below (S:=[]) K1.o.2.1) ahF ahF).turns H5.o ahF ahF);have WH:=qh (λW (hA:aB W a g s)=>uD hA gl N NQ LP pa (by have:=HS.o;omega) (by have:=HS.o;omega));have TH:=Nr.o w5 (aa.refl _ _);have MQ:l<w5.heap.size:=QH.o.lt;clear J8 MX hl hN Oi p0 p1 p2 p3 q0 q1 q2 q3 YO Un Uv H4 Pk;go_wp2_with fail
  go_region_held3 (λW=>Z W (w.heap.size+1) 0 (J gl)/\Z W (w.heap.size+1) 1 (J lo)/\Z W (w.heap.size+1) 2 (J pa)/\Z W (w.heap.size+1) 3 (J bud))
    (first|exact TH|exact Nr.o _ T6.o|exact Nr.o _ T7.o|exact Nr.o _ T8.o)
    (first
      | (go_at_call 137;go_loud (refine Op Np.o λw6 t6=>?_);have T6:=qh (show aa [l,b,a,g] w5 w6 from((aa.refl _ _).drew).trans (t6.o.2.mono ahF));have Q6:=qh t6.o.1.lt;have A6:=qh (RX.o.turns (show aa [b] w5 w6 from((aa.refl _ _).drew).trans t6.o.2) ahN ahN);have B6:=qh (show Blk w6 l _ _ from(show aa [b] w5 w6 from((aa.refl _ _).drew).trans t6.o.2).blk QH.o ahN))
      | (go_at_call 109;go_loud (refine(WH.o w6 A6.o).mono ?_);rintro en w7 ⟨p6,ce,rfl,e0,O,e5⟩;have T7:=qh (T6.o.trans (e5.mono ahF));have B7:=qh (e5.blk B6.o ahN);have c6:Z w7 l 6 (.pointer none):=B7.o.cell 6;have z6:=B7.o.free 6;have T8:=qh (T7.o.trans ((aa.refl [l,b,a,g] w7).setCell (p:=⟨l,6,none⟩) (.inl ahF) (.pointer p6)));have H7:=qh (And.intro O e5);have Ly:=qh e0;clear e0 O e5))
  by_cases JK:ce=0;case neg=>have Pt:(ce !=0)=true:=(by simpa using JK);have HF:=qh (show aa [a,g] w (w7.setCell ⟨l,6,none⟩ (.pointer p6))from(((aa.of_below (S:=[l,b,a,g]) K1.o.2.1).trans (H5.o.mono ahF)).trans T8.o).fresh λi hi=>by have:=HO.o;have:=K1.o.2.1.size;simp at hi ⊢;omega);have Oz:ce=0->False:=JK;have MF:=qh Oz;clear JK Oz c6 z6 TH;go_wp2;go_ret2;exact⟨none,ce,rfl,λq=>Ly.o q.1,λe=>(MF.o e).elim,HF.o⟩
  obtain⟨VW,xg,YH,O,e2⟩:=H7.o.1 JK;subst YH;obtain rfl:(0:Int)=ce:=JK.symm;have St:=qh VW;have e5:=H7.o.2;rw[<-Nm.o.1,<-Nm.o.2.2]at O;rw[<-Nm.o.2.2]at e2;clear H7 Ly;have H7:=qh (And.intro O (And.intro e2 e5));clear O e2 e5 VW JK;obtain⟨w8,NK⟩:=LE (w7.setCell ⟨l,6,none⟩ ↑xg.p);rw[<-NK]at T8 ⊢;have Nk:aa [l] w7 w8:=by rw[NK];exact(aa.refl _ _).setCell (.inl ahF) _
  have QI:=qh (show Blk w8 l 240 (coC a b gl lo pa bud ↑xg.p (.slice none 0 0) (slice (some ⟨w1.heap.size,0,none⟩) T.length T.length))from by rw[NK];exact B7.o.set_ 6 _);have L3:=qh (H7.o.1.turns Nk (by have:=HO.o;have:=H7.o.2.1;have:=Q6.o;have:=T6.o.size;simp;omega) aiO ahN ahN aiO);have UB:=qh (show w6.heap.size<=xg.p/\w6.heap.size<=xg.l/\w6.heap.size<=xg.q/\xg.m=par/\xg.t=s.W.length+1/\w5.heap.size<=w6.heap.size from⟨H7.o.2.1.1,H7.o.2.1.2.1,H7.o.2.1.2.2.1,H7.o.2.1.2.2.2.2.1,H7.o.2.1.2.2.2.2.2,T6.o.size⟩);have TR:=qh L3.o.ki.ar
  have Sl:=qh (show eM (λi=>((w.heap.size+2<=i/\i<w1.heap.size)\/w5.drew.heap.size<=i)/\i<w6.heap.size) w8 b P T from by
    have o:=HO.o;refine(Q6.o.turns H7.o.2.2 (λi hi hB=>?_)).turns Nk (λi hi hB=>?_);. have e:w5.drew.heap.size=w5.heap.size:=rfl;simp at hi;omega
    . have e:w5.drew.heap.size=w5.heap.size:=rfl;simp at hi
      omega)
  have YP:w5.heap.size<=w8.heap.size:=T8.o.size;have Yj:l<w8.heap.size:=by omega
  obtain⟨o0,VC⟩:∃o:Nat->Nat,o=λi=>if i=l then 1 else if i=w1.heap.size then 2 else if i=a\/i=g then 3 else if w6.heap.size<=i then 4 else 0:=⟨_,rfl⟩
  have hr:=qh (show o0 l=1/\o0 w1.heap.size=2/\(o0 a=3/\o0 g=3)/\(o0 xg.p=4/\o0 xg.l=4/\o0 xg.q=4)/\(∀i,((w.heap.size+2<=i/\i<w1.heap.size)\/w5.drew.heap.size<=i)/\i<w6.heap.size->o0 i=0)from by
    have o:=HO.o;have x:=UB.o;have e:w5.drew.heap.size=w5.heap.size:=rfl;have ev:∀i,o0 i=if i=l then 1 else if i=w1.heap.size then 2 else if i=a\/i=g then 3 else if w6.heap.size<=i then 4 else 0:=λi=>by rw[VC]
    refine⟨?_,?_,⟨?_,?_⟩,⟨?_,?_,?_⟩,λi hi=>?_⟩<;>rw[ev]<;>(repeat' split)<;>omega)
  clear VC;have OP:=qh (show w7.heap.size<=w8.heap.size from Nk.size);have Xk:=qh (show xg.p<w8.heap.size/\xg.l<w8.heap.size/\xg.q<w8.heap.size from⟨L3.o.p.lt,L3.o.ki.lk.lt,L3.o.ki.sp.lt⟩);have W9:=qh (W8.o.turns T8.o ahN);obtain⟨s7,LM⟩:=LE (aG kg s N par);have Sn:=qh (And.intro LM (show s7.room=s.room/\s7.W.length<=s.W.length+65 from by rw[LM,kC,be];have:=pd (k:=kg) LP (Uc.o St.o).2.2.m3;omega));have L3:=qh (show de w8 a g kg xg s7 (a5 kg N)from by rw[LM];exact L3.o);clear LM;clear NK c6 z6 Nk B7 B6 H7 TH;have Sf:=kZ w8 b P T Sl.o.f;rw[<-Mm.o]at Sf;have WQ:=qh Sf;clear Sf;go_wp2_with fail;refine LT WQ.o ?_;go_wp2;go_loopw [56] (λi wr=>∃(k:Nat) (v:Value) (X:List Fx) (gs:List Nat) (o:Nat->Nat),i= J k/\k<=N/\(0<k->FlV lo pa)/\Blk wr l 240 (coC a b gl lo pa bud ↑xg.p v (slice (some ⟨w1.heap.size,0,none⟩) T.length T.length))/\wr.ownsRow w8.heap.size 243 2 v k ((X.zip gs).flatMap ndE)/\NwQ wr a g w8.heap.size o0 kg kl par N (mtQ P T) s7 xg k X gs o/\aa [l,a,g] w8 wr) (λi _=>N-(intOf i).toNat);case atStart=>exact⟨0,_,[],[],o0,rfl,by omega,λe=>absurd e (Nat.lt_irrefl 0),QI.o,World.ownsRow_nil _ _ _ _,NwQ.start L3.o.ki.ar L3.o,aa.refl _ _⟩
  case round=>
    obtain⟨k,v,X,gs,o,rfl,hk,Nh,I,r',hQ,ht⟩:=hrel;have OQ:=qh Nh;clear Nh;obtain⟨wo,rfl⟩:∃wo:World,wo=wr:=⟨_,rfl⟩;obtain⟨xs,OH⟩:=LE ((X.zip gs).flatMap ndE);rw[<-OH]at r';have PH:=qh OH;clear OH;have H:=qh (And.intro I (And.intro r' (And.intro hQ ht)));have XI:=ht.size;by_cases I':k<N
    . obtain⟨A,cap,rfl⟩:=bO r'
      have W0:=qh (show eM (λi=>((w.heap.size+2<=i/\i<w1.heap.size)\/w5.drew.heap.size<=i)/\i<w6.heap.size) wo.drew b P T from by
        have o:=HO.o;have e:w5.drew.heap.size=w5.heap.size:=rfl
        exact(Sl.o.turns ht (λi hi hB=>by simp at hi;omega)).turns ((aa.refl (S:=[]) _).drew) ahF)
      obtain⟨x,hx⟩:=ak (show k<(ac P).length by rw[<-Mm.o];exact I');have Sa:=qh (Bt wo.drew b P T W0.o.f hx);have Nz:T.count x<=32:=Nat.le_trans List.count_le_length Lr;have ZB:=qh hx;have Lx:=qh (show mtQ P T k=max 1 (T.count x)from by unfold mtQ;rw[bH hx]);obtain⟨ct,S0⟩:=LE (T.count x);rw[<-S0]at Lx;rw[<-S0]at Sa Nz;obtain⟨s',Lv⟩:=LE (aJ kl par (mtQ P T) s7 k);have hA:=hQ.ar;rw[<-Lv]at hA;have O7:aa [l,b,a,g] w5 wo:=T8.o.trans (ht.mono ahF);have WU:=qh (Nr.o wo O7);obtain⟨p0,p1,p2,p3⟩:=Nr.o wo O7
      have J4:s'.W.length+100<=s'.room/\s'.ops+1<=1000000000000:=by
        have h5:=oA kl par (mtQ P T) s7 k;have h6:=kf kg s N par;rw[<-Sn.o.1]at h6;rw[<-Lv]at h5
        have h1:(aJ kl par (mtQ P T) s7 k).W.length<=s7.W.length+66*k:=by
          rcases Nat.eq_zero_or_pos k with e0|e0
          . rw[e0];exact Nat.le_refl _
          . exact nG (λn=>(ot Lr n).2) (R9.o (OQ.o e0)).2.2.m3 k
        have h2:=r7 (kl:=kl) (par:=par) (f:=mtQ P T) (s:=s7) k;rw[<-Lv]at h1 h2;have h3:=Sn.o.2;have h4:=HS.o;omega
      have Sq:=qh Lv;have WF:=qh (λn (h1:1<=n) (h2:n<=32)=>uD (w:=wo.drew) (hA.turns ((aa.refl (S:=[]) _).drew) ahF ahF) lo n h1 h2 pa ahE ahE);have bw:=I.lt;have O7:=qh O7;clear I r' hA hQ ht hx S0 Lv;obtain⟨z,hz⟩:∃z:Int,z=(ct:Int):=⟨_,rfl⟩;rw[<-hz]at Sa;obtain⟨n,hn⟩:∃n:Nat,n=max 1 ct:=⟨_,rfl⟩;have bA:(if 1<z then z else 1)=(n:Int):=(by split<;>omega);have WC:=qh (WF.o n ahE ahE);have Se:=qh (show mtQ P T k=n from by rw[Lx.o,hn]);have WN:=qh (show n<=32 from by omega);clear hn;clear hz Nz;go_wp2_with fail
      go_region_held3 (λW=>Z W (w.heap.size+1) 0 (J gl)/\Z W (w.heap.size+1) 1 (J lo)/\Z W (w.heap.size+1) 2 (J pa)/\Z W (w.heap.size+1) 3 (J bud))
        (first|exact WU.o|exact WR.o)
        (first
          | (go_at_call 138;go_loud (refine LT Sa.o ?_))
          | (go_at_call 109;go_loud (refine WC.o.mono ?_);rintro en w7' ⟨p7,ce,rfl,e0,O,e5⟩;have QU:=qh (show aa [a,g] wo w7' from((aa.refl _ _).drew).trans e5);have WR:=qh (Nr.o w7' (O7.o.trans (QU.o.mono ahF)));have Pu:=qh O;have Ly:=qh e0;clear e0 O e5))
      all_goals
        by_cases JK:ce=0;case neg=>have Pt:(ce !=0)=true:=(by simpa using JK);have HF:=qh (show aa [a,g] w w7' from(((aa.of_below (S:=[l,b,a,g]) K1.o.2.1).trans (H5.o.mono ahF)).trans (O7.o.trans (QU.o.mono ahF))).fresh λi hi=>by have:=HO.o;have:=K1.o.2.1.size;simp at hi ⊢;omega);have MF:=qh (show ce=0->False from JK);clear JK;go_wp2;go_ret2;exact⟨none,ce,rfl,λq=>Ly.o q.2.1,λe=>(MF.o e).elim,HF.o⟩
        obtain⟨Nh,y,YI,O,e2⟩:=Pu.o JK;clear Pu OQ Ly;subst YI;obtain rfl:(0:Int)=ce:=JK.symm;have OQ:=qh Nh;rw[<-Nm.o.2.1,<-Nm.o.2.2]at O;rw[<-Nm.o.2.2]at e2;have Pu:=qh (And.intro O e2);clear O e2 Nh JK;obtain⟨s2,Jx⟩:=LE (aG kl s' n par);have L5:=qh Jx;have Ym:s2.W.length+1<=s2.room:=(by have h1:=be kl s' n par;have h2:=kC kl s' n par;rw[<-Jx]at h1 h2;have h3:=pd (k:=kl) WN.o (R9.o OQ.o).2.2.m3;omega);have Wt:=qh (show aB w7' a g s2 from by rw[Jx];exact Pu.o.1.ki.ar);clear Jx;go_wp2_with fail;refine(mD Wt.o 1 Ym).mono ?_;rintro en w9 ⟨rfl,k9,t9⟩;have T9:=qh (QU.o.trans (t9.mono ahF));have H9:=qh k9;have Qi:l∉[a,g]:=(by have:=HO.o;simp;omega);have Lm:Blk w9 l 240 (coC a b gl lo pa bud ↑xg.p (.slice A k cap) (slice (some ⟨w1.heap.size,0,none⟩) T.length T.length)):=T9.o.blk H.o.1 Qi;have o9:w9.ownsRow w8.heap.size 243 2 (.slice A k cap) k xs:=aa.own H.o.2.1 T9.o (λx hx=>by have:=(H.o.2.1.lt x hx).1;have:=HO.o;simp;omega);have c7:Z w9 l 7 (.slice A k cap):=Lm.cell 7;have bP:wo.heap.size<=w9.heap.size:=T9.o.size;have bc:=Lm.lt;have LJ:(Value.slice A k cap).ownBlock≠some l:=λe=>by have:=(H.o.2.1.lt l e).1;omega
        have RZ:=qh Lm;have Xb:=qh t9
        have Wv:=qh (show ∀q,(Value.slice A k cap).ownBlock=some q->∃cs,Blk w9 q 243 cs from λq hq=>by
          rcases o9.2 with⟨e,_⟩|⟨g',c',ZL,e,_,ab,_⟩
          . injection e with O e2 e3;subst O;simp[Value.ownBlock]at hq
          . injection e with O e2 e3;subst O;simp only[Value.ownBlock,Option.some.injEq]at hq;subst hq
            exact⟨_,ab⟩)
        have Uj:=qh o9;clear k9 t9 Lm o9 Qi;go_wp2_with (at_builtin;refine wpList_append_lies _ rfl _ _ 238 rfl w8.heap.size 243 j0 (agg #[.pointer none,J 0]) 2 16 Tryz.underlying238 HJ.o.1 HJ.o.2.1 HJ.o.2.2.1 HJ.o.2.2.2 rfl ahG _ _ _ rfl (Uj.o.alloc _) ⟨w9.heap.size,0,none⟩ 1 1 [pointer (some ⟨y.p,0,none⟩),J ((s2.W.length:Int)+1)] rfl rfl (nB _ _ _) ah6 ahG ?c3 ?c4 ?c5 _ rfl ?_);case c3=>unfold maxLen;omega
        case c4=>omega
        case c5=>simp;omega
        intro g3 Ks w10 h3 Kj MP Tf;have QV:=(RZ.o.alloc (cells #[↑y.p,J ((s2.W.length:Int)+1)] 243)).grown Kj (λe=>LJ e.symm);have PK:Z w10 l 7 (.slice A k cap):=QV.cell 7;have bW:=QV.free 7;obtain⟨w11,Qp⟩:=LE (w10.setCell ⟨l,7,none⟩ (slice (some ⟨g3,0,none⟩) (k+1) Ks));have tr:aa (l :: (Value.slice A k cap).ownBlock.toList) w9 w11:=(by rw[Qp];exact(((aa.refl _ _).alloc _).trans ((aa.grownByQ Kj).mono λi hi=>List.mem_cons_of_mem _ hi)).trans ((aa.refl _ _).setCell (.inl ahF) _));have Uo:=qh (show Blk w11 l 240 (coC a b gl lo pa bud ↑xg.p (slice (some ⟨g3,0,none⟩) (k+1) Ks) (slice (some ⟨w1.heap.size,0,none⟩) T.length T.length))from by rw[Qp];exact QV.set_ 7 _)
        have Up:=qh (show w11.ownsRow w8.heap.size 243 2 (slice (some ⟨g3,0,none⟩) (k+1) Ks) (k+1) (xs++[pointer (some ⟨y.p,0,none⟩),J ((s2.W.length:Int)+1)])from by
          rw[Qp];have ax:=(h3.lt g3 rfl).1
          exact aa.own h3 ((aa.refl [l] _).setCell (.inl ahF) _) (λx hx=>by injection hx with hx;subst hx;simp;omega))
        have UL:∀r,r<w8.heap.size->r≠l->r∉l :: (Value.slice A k cap).ownBlock.toList:=λr V Mg hm=>by
          rcases List.mem_cons.1 hm with e|e
          . exact Mg e
          . have:=(H.o.2.1.lt r ahT).1;omega
        have Oh:=qh (show NwQ w11 a g w8.heap.size o0 kg kl par N (mtQ P T) s7 xg (k+1) (X++[y]) (gs++[cwN kl par (mtQ P T) s7 k]) (λi=>if wo.heap.size<=i then 5+k else o i)from by
          have e7:=Pu.o;rw[<-Se.o,Sq.o]at e7;have e9:aB w9 a g (bp (aG kl (aJ kl par (mtQ P T) s7 k) (mtQ P T k) par) 1):=(by rw[<-Sq.o,Se.o,<-L5.o];exact H9.o);have bF:=HO.o;refine H.o.2.2.1.step XI e7.1 QU.o ⟨e7.2.1,e7.2.2.1,e7.2.2.2.1⟩ e7.2.2.2.2.2.2 e7.2.2.2.2.2.1 Xb.o e9 tr (UL a ahE ahE) (UL g ahE ahE) (λi hi=>?_);rcases List.mem_cons.1 hi with e|e
          . subst e;exact⟨_,_,RZ.o,.inl rfl⟩
          . obtain⟨cs,JP⟩:=Wv.o i ahT
            exact⟨_,cs,JP,.inr rfl⟩)
        have Xj:=qh (show((X++[y]).zip (gs++[cwN kl par (mtQ P T) s7 k])).flatMap ndE=xs++[pointer (some ⟨y.p,0,none⟩),J ((s2.W.length:Int)+1)]from by
          rw[Cz _ _ _ _ (by rw[H.o.2.2.1.lX,H.o.2.2.1.lV]),<-PH.o];have:((cwN kl par (mtQ P T) s7 k:Nat):Int)=(s2.W.length:Int)+1:=by unfold cwN;rw[<-Sq.o,Se.o,<-L5.o];omega
          rw[this])
        have Vv:∀x,(Value.slice A k cap).ownBlock=some x->w8.heap.size<=x:=λx hx=>(H.o.2.1.lt x hx).1
        have Sm:=qh (show aa [l,a,g] w8 w11 from by
          have t1:aa ([l,a,g]++(Value.slice A k cap).ownBlock.toList) w8 w11:=((H.o.2.2.2.mono λi hi=>List.mem_append_left _ hi).trans (T9.o.mono λi hi=>List.mem_append_left _ (by simp at hi ⊢;omega))).trans (tr.mono λi hi=>by
            rcases List.mem_cons.1 hi with e|e
            . exact List.mem_append_left _ (by simp[e])
            . exact List.mem_append_right _ e)
          refine t1.fresh λi hi=>?_;rcases List.mem_append.1 hi with hi|hi
          . exact .inl hi
          . exact .inr (Vv i ah8))
        rw[Qp]at Uo Up Oh Sm;clear h3 Kj MP QV RZ Uj H9 tr Qp Vv;go_wp2;go_roundw;case rel=>exact⟨k+1,_,_,_,_,by go_num,by omega,λ_=>OQ.o,Uo.o,by rw[Xj.o];exact Up.o,Oh.o,Sm.o⟩
        case measure=>simp[intOf];omega
    . obtain rfl:k=N:=by omega
      clear I r' hQ ht;go_wp2;go_ret2;have o':=HO.o;have s8:=T8.o.size;have s1:=K1.o.2.1.size;have bT:=H5.o.size;have V4:=UB.o;have L0:=Xk.o;have Qw:=hr.o;have ZN:=T8.o.size;have Ze:=H.o;rw[Sn.o.1,PH.o,Mm.o]at Ze
      have hQ:=Sl.o.turns H.o.2.2.2 (λi hi hB=>by
        have e:w5.drew.heap.size=w5.heap.size:=rfl;simp at hi
        omega)
      have al:w6.heap.size<=w8.heap.size:=(by omega);have Nh:=OQ.o ahE;have TI:=Uc.o St.o;have TJ:=R9.o Nh
      obtain⟨x,O,e2,e3,e4,e5,P5⟩:=CW (bud:=bud) Ze.2.2.1 JX.o TI.2.1 TJ.2.1 ⟨TI.2.2,TJ.2.2⟩ Ul.o (by rw[<-Mm.o];exact NQ) (by rw[<-TI.1,<-TJ.1];exact Ze.1) Ze.2.1 hQ (W9.o.turns H.o.2.2.2 ahN) V4.2.2.2.2.1 V4.2.2.2.1 HS.o.2.1
        Qw.1 Qw.2.1 Qw.2.2.1 Qw.2.2.2.1 Qw.2.2.2.2 ahE ahE ahE ahE ahE (λi hi=>by omega)
      rw[Nm.o.1,Nm.o.2.1,Nm.o.2.2]at P5;refine⟨_,0,rfl,λ_=>rfl,λ_=>⟨⟨St.o,Nh,Ul.o⟩,x,_,by rw[O],P5,λi hi=>?_⟩,?_⟩
      . have e:w5.drew.heap.size=w5.heap.size:=rfl;have u8:=H.o.2.2.2.size;rcases hi with hi|hi|hi|hi|⟨y,hy,hi⟩|hi
        . have:=P5.lk.lt;omega
        . obtain⟨Ze,z⟩:=P5.nd;have:=z.lt;omega
        . have:=P5.sp.lt;omega
        . rw[e3]at hi;omega
        . rw[e4]at hy;obtain⟨n,hn,rfl⟩:=List.getElem_of_mem hy;have e9:=H.o.2.2.1.ls n _ (List.getElem?_eq_getElem hn);have l1:=e9.1.p.lt;have l2:=e9.1.ki.lk.lt;have l3:=e9.1.ki.sp.lt;have Kn:=e9.2.2.2.2;clear e9;omega
        . omega
      . have t:aa [l,b,a,g] w wo:=(((aa.of_below (S:=[l,b,a,g]) K1.o.2.1).trans (H5.o.mono ahF)).trans T8.o).trans (H.o.2.2.2.mono ahF);exact t.fresh λi hi=>by simp at hi ⊢;omega
end
section
open Go.RowKit
structure kG(c:CoC)(n N L:Nat):Prop where
 k:(1<=c.kg/\c.kg<=5)/\1<=c.kl/\c.kl<=5
 inj:Inj c n
 nd:∀i,i<n->c.node i<N/\c.slot i<32
 N32:N<=32
 m:1<=c.m/\c.m<=1024
 tg:1<=c.tg/\c.tg<=L
 tl:∀j,j<N->1<=c.tl j/\c.tl j<=L
structure bK(c:CoC)(n L:Nat)(B:Int)(o:Nat)(st:Co):Prop where
 bd:CoB c B st
 v:CoV c n st
 len:st.s.W.length=L
 ops:st.s.ops<=o
section
variable{c:CoC}{o:Nat}{B:Int}{st:Co}
def bK.step(h:bK c n L B o st)(k:kG c n N L)(Y:1100<=B)(I:B<=10000000000000){i:Nat}(hi:i<n):bK c n L (B+2) (o+1) (aj c st i):=by have h1:=k.nd i hi;have O:=k.N32;have V:=k.m;have H:=mx (c:=c) (st:=st) i;exact⟨xZ h.bd ahE I i ahE ahE ahE,r8 h.v k.inj k.k hi,by rw[H.2,h.len],by have:=H.1;have:=h.ops;omega⟩
def bK.ask(h:bK c n L B o st)(k:kG c n N L)(I:1100<=B){i:Nat}(hi:i<n):bK c n L (B+2) (o+1) (bz c st i):=by have H:=uV (c:=c) (st:=st) i;exact⟨zV h.bd ahE i,wu h.v k.inj hi,by rw[H.2,h.len],by have:=H.1;have:=h.ops;omega⟩
def bK.leave(h:bK c n L B o st)(k:kG c n N L)(I:1100<=B){i:Nat}(hi:i<n):bK c n L (B+2) (o+1) (az st i):=by have H:=rc (st:=st) i;exact⟨uu h.bd ahE i,pN h.v k.inj hi,by rw[H.2,h.len],by have:=H.1;have:=h.ops;omega⟩
def bK.mono(h:bK c n L B o st){C:Int}(H:B<=C):bK c n L C o st:=⟨h.bd.mono H,h.v,h.len,h.ops⟩
end
section
variable{BD:Nat->Prop}{w:World}{a g:Nat}{x:Cox}{c:CoC}{st:Co}{o:Nat}{B:Int}
def bK.pre(h:bK c x.n L B o st)(k:kG c x.n x.N L)(f:xq BD a g x c P T)(V:1100<=B)(I:B<=10000000000)(Y:o+1<=1000000000000):dc B x c st:=by
 refine⟨by have:=h.ops;omega,h.bd,by omega,I,?_,λn y H=>?_,h.v⟩;.rw[<-f.tg];exact aR.2 (by rw[h.len];exact k.tg)
 .rw[<-(f.tl n y H).1];have O:n<x.N:=by rw[<-f.lX];exact(List.getElem?_eq_some_iff.1 H).1
  exact aR.2 (by rw[h.len];exact k.tl n O)
end
def nj{s:Ar}{k m:Nat}{B:Int}(h:WdB B s)(V:1100<=B)(Y:n<=32):WdB B (aG k s n m):=by
 have h1:∀j,WdB B (bp s j):=λj v O=>by
  have I:v∈s.W++List.replicate j 0:=O;rcases List.mem_append.1 I with H|H
  .exact h v H
  .rw[(List.mem_replicate.1 H).2];omega
 unfold aG;split;.exact(h1 _).store _ _ ahE
 split;.exact(h1 _).store _ _ ahE
 .exact h1 _
def xA{s:Ar}{B:Int}(h:WdB B s)(V:1100<=B)(Y:∀n,f n<=32)(k:Nat):WdB B (aJ kl par f s k):=by
 induction k with
 |zero=>exact h
 |succ k ih=>
  have h1:=nj (k:=kl) (m:=par) ih V (Y k);intro v O;have I:v∈(aG kl (aJ kl par f s k) (f k) par).W++List.replicate 1 0:=O;rcases List.mem_append.1 I with H|H
  .exact h1 v H
  .rw[(List.mem_replicate.1 H).2];omega
def iS(k n:Nat):∀p∈a5 k n,p.pc=0/\0<=p.a/\p.a<=n/\p.b=0:=by
 intro p h;unfold a5 at h;split at h;.obtain⟨i,hi,rfl⟩:=List.mem_map.1 h;have:=List.mem_range.1 hi;exact⟨rfl,by show(0:Int)<=(i:Int)+1;omega,by show(i:Int)+1<=n;omega,rfl⟩
 .rw[(List.mem_replicate.1 h).2];exact⟨rfl,Int.le_refl _,by show(0:Int)<=n;omega,rfl⟩
def FJ(k:Nat){p:Sp}(h:p.pc=0):pcK k p:=by unfold pcK iQ;rw[h];exact aaJ
def vv{k:Nat}{B:Int}(V:n<=32)(O:1100<=B):∀p∈a5 k n,SpB k B p:=λp h=>by
 obtain⟨_,h1,H,I⟩:=iS k n p h
 exact⟨h1,by omega,by omega,by omega,λ_=>by omega⟩
def gf(kl par:Nat)(f:Nat->Nat)(s:Ar){k:Nat}(h:j<=k):(aJ kl par f s j).W.length<=(aJ kl par f s k).W.length:=by
 induction k with
 |zero=>obtain rfl:j=0:=ahE;exact Nat.le_refl _
 |succ k H=>
  by_cases e:j=k+1;.subst e;exact Nat.le_refl _
  .have:=H ahE;show _<=(bp (aG _ _ _ _) 1).W.length;rw[eo,be];omega
def j4(kl par:Nat)(f:Nat->Nat)(s:Ar){k:Nat}(h:j<k):(aJ kl par f s j).W.length+szK kl (f j) par+1<=(aJ kl par f s k).W.length:=by refine Nat.le_trans ?_ (gf kl par f s (show j+1<=k from h));show _<=(bp (aG _ _ _ _) 1).W.length;rw[eo,be];omega
def D8(k n m:Nat):1<=szK k n m:=by exact aa4
def sf{k:Nat}(h:T[k]? =some y)(x:Int):(T.take (k+1)).count x=(T.take k).count x+if y==x then 1 else 0:=by rw[List.take_add_one,h,List.count_append,Option.toList_some,List.count_cons,List.count_nil,Nat.zero_add]
def BY(hc:a8 P T=0){i:Nat}(hi:i<T.length)(Y:j<T.length)(h1:gj P T i=gj P T j)(V:cI T i=cI T j):i=j:=by
 have e:T.getD i 0=T.getD j 0:=by rw[<-(eh hc hi).2.1,<-(eh hc Y).2.1,h1]
 obtain⟨y,H⟩:=ak hi;obtain⟨z,I⟩:=ak Y;rw[bH H,bH I]at e;subst e;unfold cI at V;rw[bH H,bH I]at V
 have O:∀(i j:Nat),i<j->T[i]? =some y->(T.take i).count y<(T.take j).count y:=λi j ab H=>by
  have e1:=sf H y;simp only[beq_self_eq_true,↓reduceIte]at e1;have e2:(T.take (i+1)).count y<=(T.take j).count y:=by have:(T.take (i+1)).Sublist (T.take j):=(List.take_prefix_take_left ahE).sublist;exact this.count_le y
  omega
 rcases Nat.lt_trichotomy i j with h|h|h
 .have:=O i j h H;omega
 .exact h
 .have:=O j i h I;omega
section
variable{s:Ar}
def uX(hc:a8 P T=0)(V:1<=kg/\kg<=5)(O:1<=kl/\kl<=5)(hp:1<=par/\par<=1024):kG (fh kg kl par bud P T s) T.length (ac P).length (bC kg kl par P T s).s.W.length:=by
  have I:=bi (aQ hc).1;have Lr:T.length<=32:=I.2.2.2;have Y:(ac P).length<=32:=by exact aay
  refine⟨⟨V,O⟩,λi j hi h h1 H=>?_,λi hi=>?_,Y,?_,?_,λj h=>?_⟩;. have e1:=(eh hc hi).2.2.1;have e2:=(eh hc h).2.2.1;have XE:(cI T i).toNat=(cI T j).toNat:=H;exact BY hc hi h h1 ahE
  . obtain⟨h1,_,h3,h4⟩:=eh hc hi;have:=(ot (P:=P) Lr (gj P T i)).2;exact⟨h1,by show(cI T i).toNat<32;omega⟩
  . show 1<=(par:Int)/\(par:Int)<=1024;omega
  . show 1<=((s.W.length+1:Nat):Int)/\((s.W.length+1:Nat):Int)<=((aJ _ _ _ _ _).W.length:Int);have h1:=gf kl par (mtQ P T) (aG kg s (ac P).length par) (Nat.zero_le (ac P).length);have H:(aJ kl par (mtQ P T) (aG kg s (ac P).length par) 0).W.length=s.W.length+szK kg (ac P).length par:=be _ _ _ _;have h3:=D8 kg (ac P).length par;omega
  . show 1<=(((aJ _ _ _ _ j).W.length+1:Nat):Int)/\(((aJ _ _ _ _ j).W.length+1:Nat):Int)<=((aJ _ _ _ _ _).W.length:Int);have h1:=j4 kl par (mtQ P T) (aG kg s (ac P).length par) h;omega
def ox(hc:a8 P T=0)(hs:WdB 1100 s):bK (fh kg kl par bud P T s) T.length (bC kg kl par P T s).s.W.length 1100 (s.ops+1100) (bC kg kl par P T s):=by
  have J5:=bi (aQ hc).1;have Lr:T.length<=32:=J5.2.2.2;have V:(ac P).length<=32:=by exact aay
  have hf:∀n,mtQ P T n<=32:=λn=>(ot Lr n).2;have Y:∀x∈(bC kg kl par P T s).L,∃n,x=a5 kl (mtQ P T n):=λx I=>by obtain⟨n,_,rfl⟩:=List.mem_map.1 I;exact⟨n,rfl⟩
  have J4:(bC kg kl par P T s).L.length=(ac P).length:=by simp[bC,Jq]
  have O:∀n,n<(ac P).length->(bC kg kl par P T s).L.getD n []=a5 kl (mtQ P T n):=λn hn=>by rw[List.getD_eq_getElem?_getD];simp[bC,Jq,hn]
  refine⟨⟨xA (nj hs ahE V) ahE hf _,vv V ahE,λx I=>?_,λp h=>?_⟩,⟨λp h=>FJ _ (iS _ _ p h).1,λx I p h=>?_,λi hi=>?_,by simp[bC],λi hi=>?_,λi hi=>?_⟩,rfl,?_⟩;. obtain⟨n,rfl⟩:=Y x I;exact vv (hf n) ahE
  . rw[(List.mem_replicate.1 h).2];exact⟨Int.le_refl _,by show(0:Int)<=1100;omega⟩
  . obtain⟨n,rfl⟩:=Y x I;exact FJ _ (iS _ _ p h).1
  . left;refine⟨?_,?_⟩;. show(sv (List.replicate T.length Sp.zero) i).pc=0;unfold sv;rw[List.getD_eq_getElem?_getD,List.getElem?_replicate];split<;>rfl
    . have H:=eh hc hi;show(((bC kg kl par P T s).L.getD (gj P T i) []).getD (cI T i).toNat Sp.zero).pc=0;rw[O _ H.1];exact iL (P:=λp=>p.pc=0) (λp h=>(iS _ _ p h).1) rfl _
  . show gj P T i<(a5 _ _).length;rw[gW];exact(eh hc hi).1
  . show gj P T i<_/\(cI T i).toNat<_;have H:=eh hc hi;rw[J4];refine⟨H.1,?_⟩;show _<((bC kg kl par P T s).L.getD (gj P T i) []).length;rw[O _ H.1,gW];exact H.2.2.2
  . have h1:=oA kl par (mtQ P T) (aG kg s (ac P).length par) (ac P).length;have h2:=kf kg s (ac P).length par;show(aJ _ _ _ _ _).ops<=_;omega
end
end
section
open Go
def qN(W X:List Int)(I:y<=(W.length:Int)):ldW (W++X) y=ldW W y:=by
 by_cases h:1<=y;.have h1:inR W y=true:=aR.2 ⟨h,I⟩;have H:inR (W++X) y=true:=aR.2 ⟨h,by rw[List.length_append];omega⟩;rw[jg h1,jg H,List.getD_eq_getElem?_getD,List.getElem?_append_left ahE,<-List.getD_eq_getElem?_getD]
 .rw[kS (iO.2 ahE),kS (iO.2 ahE)]
def wK(W:List Int)(j:Nat)(I:(W.length:Int)<y):ldW (W++List.replicate j 0) y=0:=by
 unfold ldW;split;.rw[List.getD_eq_getElem?_getD];rename_i h;have H:=aR.1 h;rw[List.getElem?_append_right ahE,List.getElem?_replicate];split<;>rfl
 .rfl
def j9(k:Nat)(s:Ar)(n m:Nat)(I:y<=(s.W.length:Int)):ldW (aG k s n m).W y=ldW s.W y:=by
 have e:ldW (bp s (szK k n m)).W y=ldW s.W y:=qN _ _ I
 have H:∀x v:Int,(s.W.length:Int)<x->ldW (ae (bp s (szK k n m)) x v).W y=ldW s.W y:=λx v O=>by
  rw[aw,<-e];unfold stW;split;.rename_i h;have:=gu h v y;unfold stW at this;rw[if_pos h]at this;rw[this,if_neg ahE]
  .rfl
 unfold aG;split;.exact H _ _ ahE
 split;.exact H _ _ ahE
 .exact e
section
variable{s:Ar}
def fH{k:Nat}(h:j<=k)(O:y<=((aJ kl par f s j).W.length:Int)):ldW (aJ kl par f s k).W y=ldW (aJ kl par f s j).W y:=by
 induction k with
 |zero=>obtain rfl:j=0:=ahE;rfl
 |succ k I=>
  by_cases e:j=k+1;.subst e;rfl
  .have H:j<=k:=(by omega);have hm:=gf kl par f s H;rw[<-I H];show ldW (bp (aG kl (aJ kl par f s k) (f k) par) 1).W y=_;have h1:ldW (bp (aG kl (aJ kl par f s k) (f k) par) 1).W y=ldW (aG kl (aJ kl par f s k) (f k) par).W y:=qN _ _ (by rw[be];omega);rw[h1];exact j9 _ _ _ _ ahE
def uv{k:Nat}(h:j<k):ldW (aJ kl par f s k).W (cwN kl par f s j:Nat)=0:=by
 rw[fH (j:=j+1) (k:=k) h];.show ldW (bp (aG kl (aJ kl par f s j) (f j) par) 1).W _=0;exact wK _ _ (by unfold cwN;omega)
 .show _<=((bp (aG kl (aJ kl par f s j) (f j) par) 1).W.length:Int);rw[eo];unfold cwN;omega
end
def ql{k m:Nat}:szI k n (m:Int)=(szK k n m:Nat):=by
 unfold szI szK;split;.rfl
 split;.rfl
 exact aaJ
def pY(k n i:Nat):(sv (a5 k n) i).pc=0:=iL (P:=λp=>p.pc=0) (λp h=>(iS k n p h).1) rfl i
def nW{k:Nat}(hk:1<=k/\k<=5)(s:Ar){m:Nat}(hm:1<=m):cr k (s.W.length+1:Nat) (m:Int) n (aG k s n m).W (a5 k n):=by
 have hz:=be k s n m;refine⟨gW k n,by omega,by omega,by rw[hz,ql];omega,?_⟩;have p0:=pY k n;have V:∀y:Int,(s.W.length:Int)<y->y<=s.W.length+szK k n m->inR (bp s (szK k n m)).W y=true:=λy h1 h2=>aR.2 ⟨by omega,by rw[eo];omega⟩;have H:∀y:Int,(s.W.length:Int)<y->ldW (bp s (szK k n m)).W y=0:=λy hy=>wK _ _ hy;have JS:k=1\/k=2\/k=3\/k=4\/k=5:=by omega
 rcases JS with rfl|rfl|rfl|rfl|rfl
 .show gy _ n _ _;intro i hi hc;rw[p0]at hc;omega
 .show dC _ n (ldW (bp s 2).W) _;refine⟨?_,λi hi hc=>by rw[p0]at hc;omega,λi hi hc=>by rw[p0]at hc;omega,λi j hi O Y hc _=>by rw[p0]at hc;omega⟩;have e1:=H ((s.W.length+1:Nat)+1) ahE;have e2:=H (s.W.length+1:Nat) ahE;show ldW (bp s (szK 2 n m)).W _<=ldW (bp s (szK 2 n m)).W _;rw[e1,e2];exact Int.le_refl _
 .show ∃v,dS _ _ n (ldW (ae (bp s (szK 3 n m)) ((s.W.length:Int)+2) 1).W) _ v;rw[aw];have hw:=gu (V ((s.W.length:Int)+2) ahE (by show(s.W.length:Int)+2<=s.W.length+(1+m:Nat);omega)) 1;refine⟨0,Int.le_refl _,?_,λi hi hc=>by rw[p0]at hc;omega,λi hi hc=>by rw[p0]at hc;omega,λi j hi O Y hc _=>by rw[p0]at hc;omega,λq q0 q1=>?_,?_⟩;.rw[hw,if_neg ahE,H _ ahE];exact Int.le_refl _
  .rw[hw];split;.omega
   .rw[H _ ahE];omega
  .rw[hw,if_pos (by unfold pPl;rw[Int.zero_emod];omega)];rfl
 .have eN:∀x,fN (s.W.length+1:Nat) n (ldW (bp s (szK 4 n m)).W) x=0:=λx=>by unfold fN mNx;split<;>first|exact H _ ahE|rfl
  have nk:∀i,¬EE (fW (s.W.length+1:Nat) n (ldW (bp s (szK 4 n m)).W)) (sv (a5 4 n)) i:=λi h=>by have h:10<=(sv (a5 4 n) i).pc\/(3<=(sv (a5 4 n) i).pc/\_):=h;rw[p0]at h;omega
  show McA n (ldW (bp s (szK 4 n m)).W _) (fN _ n (ldW (bp s (szK 4 n m)).W)) (fW _ n (ldW (bp s (szK 4 n m)).W)) _;refine⟨⟨λi j _ _ h=>absurd h (nk i),λ_ i _=>nk i⟩,by rw[H _ ahE];omega,?_,?_,λi _ hc=>by rw[H _ ahE]at hc;unfold numT at hc;omega,?_,λi j _ _ hc=>by rw[p0]at hc;omega,?_,λi j _ _ hc=>by rw[p0]at hc;omega,?_⟩;all_goals intro i _ hc;rw[p0]at hc;omega
 .show ∃e,ClA n (ldW (ae (bp s (szK 5 n m)) ((s.W.length:Int)+1) ((n:Int)+1)).W _) (fC _ n (ldW (ae (bp s (szK 5 n m)) ((s.W.length:Int)+1) ((n:Int)+1)).W)) _ e;rw[aw];have hw:=gu (V ((s.W.length:Int)+1) ahE (by show(s.W.length:Int)+1<=s.W.length+(n+2:Nat);omega)) ((n:Int)+1);have I:∀i,i<n->(sv (a5 5 n) i).a=(i:Int)+1:=λi hi=>by unfold sv a5;rw[List.getD_eq_getElem?_getD];simp[hi]
  refine⟨(n:Int)+1,by omega,λi hi=>by rw[I i hi];omega,λi j hi O Y=>by rw[I i hi,I j O]at Y;omega,λi hi=>by rw[I i hi];omega,?_,?_,?_,λi j _ _ hc=>by rw[p0]at hc;omega,.inl (by rw[hw,if_pos ahE]),?_,?_⟩
  .unfold fC;split;.rw[hw,if_neg ahE,H _ ahE]
   .rfl
  all_goals intro i _ hc;rw[p0]at hc;omega
def cr.grow{k:Nat}{t m:Int}{W H:List Int}{S:List Sp}(h:cr k t m n W S)(O:W.length<=H.length)(I:∀y,t<=y->y<t+szI k n m->ldW H y=ldW W y):cr k t m n H S:=
 ⟨h.len,h.m1,h.t1,by have:=h.t2;omega,h.i.congr h.m1 I⟩
section
variable{s:Ar}
def uP(hc:a8 P T=0)(Kz:1<=kg/\kg<=5)(Kx:1<=kl/\kl<=5)(hp:1<=par/\par<=1024):cH (fh kg kl par bud P T s) T.length (ac P).length (mtQ P T):=by
 have h0:=uX (bud:=bud) (s:=s) hc Kz Kx hp;obtain⟨s7,H⟩:=LE (aG kg s (ac P).length par);have UI:∀a,(fh kg kl par bud P T s).cw a=((cwN kl par (mtQ P T) s7 a:Nat):Int):=λa=>by rw[H];rfl
 have O:∀a,(fh kg kl par bud P T s).tl a=(((aJ kl par (mtQ P T) s7 a).W.length+1:Nat):Int):=λa=>by rw[H];rfl
 have M9:∀a,(fh kg kl par bud P T s).cw a=(fh kg kl par bud P T s).tl a+(szK kl (mtQ P T a) par:Nat):=λa=>by rw[UI,O];unfold cwN;rw[be];omega
 refine⟨h0.k,h0.inj,λi hi=>?_,λa V=>?_,λa V=>?_,λa V=>?_,λa b V I hn=>?_⟩;.have:=eh hc hi;exact⟨this.1,this.2.2.2⟩
 .rw[M9];show _=_+szI kl (mtQ P T a) ((par:Nat):Int);rw[ql]
 .show((s.W.length+1:Nat):Int)+szI kg (ac P).length ((par:Nat):Int)<=_;rw[ql,O];have h1:=gf kl par (mtQ P T) s7 (Nat.zero_le a);have h2:(aJ kl par (mtQ P T) s7 0).W.length=s.W.length+szK kg (ac P).length par:=by rw[H];exact be _ _ _ _
  omega
 .show 0<=szI kl (mtQ P T a) ((par:Nat):Int);rw[ql];omega
 .have Y:∀a b,a<b->(fh kg kl par bud P T s).cw a<(fh kg kl par bud P T s).tl b:=λa b h=>by rw[UI,O];have:=j4 kl par (mtQ P T) s7 h;unfold cwN;rw[be];omega
  rcases Nat.lt_or_gt_of_ne hn with h|h
  .exact .inl (Y a b h)
  .exact .inr (Y b a h)
def wP(hc:a8 P T=0)(Kz:1<=kg/\kg<=5)(Kx:1<=kl/\kl<=5)(hp:1<=par/\par<=1024)(hs:WdB 1100 s):CoM (fh kg kl par bud P T s) T.length (ac P).length (mtQ P T) (bC kg kl par P T s):=by
 have mP:=ox (kg:=kg) (kl:=kl) (par:=par) (bud:=bud) hc hs;have y:=uP (bud:=bud) (s:=s) hc Kz Kx hp;obtain⟨s7,H⟩:=LE (aG kg s (ac P).length par);have O:(bC kg kl par P T s).s=aJ kl par (mtQ P T) s7 (ac P).length:=by rw[H];rfl
 have Yl:(aJ kl par (mtQ P T) s7 0).W.length=s.W.length+szK kg (ac P).length par:=by rw[H];exact be _ _ _ _
 have J3:∀n,n<(ac P).length->(bC kg kl par P T s).L.getD n []=a5 kl (mtQ P T n):=λn hn=>by rw[List.getD_eq_getElem?_getD];simp[bC,Jq,hn]
 have PY:∀j,(sv (bC kg kl par P T s).T j).pc=0:=λj=>by show(sv (List.replicate T.length Sp.zero) j).pc=0;exact aa7
 have Me:∀j,¬cO (sv (bC kg kl par P T s).T j):=λj I=>by unfold cO at I;rw[PY]at I;omega
 refine⟨?_,λa h=>?_,by simp[bC,Jq],λa h=>?_,mP.v,λj hj=>jO (Me j),λa h _=>?_⟩
 .have h1:=nW Kz s (n:=(ac P).length) hp.1;rw[O];refine h1.grow ?_ (λx h2 Y=>?_);.have:=gf kl par (mtQ P T) s7 (Nat.zero_le (ac P).length);rw[be];omega
  .rw[ql]at Y;rw[fH (Nat.zero_le _) (by rw[Yl];omega),H];rfl
 .rw[J3 a h,O];have h1:=nW Kx (aJ kl par (mtQ P T) s7 a) (n:=mtQ P T a) hp.1;have et:(fh kg kl par bud P T s).tl a=(((aJ kl par (mtQ P T) s7 a).W.length+1:Nat):Int):=by rw[H];rfl
  rw[et];refine h1.grow ?_ (λx h2 Y=>?_);.have:=j4 kl par (mtQ P T) s7 h;rw[be];omega
  .rw[ql]at Y;have e1:((aJ kl par (mtQ P T) s7 (a+1)).W.length:Int)=(aJ kl par (mtQ P T) s7 a).W.length+szK kl (mtQ P T a) par+1:=(by show((bp (aG _ _ _ _) 1).W.length:Int)=_;rw[eo,be];omega);rw[fH (j:=a+1) h ahE];show ldW (bp (aG kl (aJ kl par (mtQ P T) s7 a) (mtQ P T a) par) 1).W x=_;exact qN _ _ (by rw[be];omega)
 .have V:(fh kg kl par bud P T s).cw a=((cwN kl par (mtQ P T) s7 a:Nat):Int):=by rw[H];rfl
  rw[V,O];have:=j4 kl par (mtQ P T) s7 h;unfold cwN;rw[be];omega
 .have V:(fh kg kl par bud P T s).cw a=((cwN kl par (mtQ P T) s7 a:Nat):Int):=by rw[H];rfl
  rw[V,O,uv h];show FrP (sv (a5 kg (ac P).length) a) 0;unfold FrP;rw[pY];rfl
end
end
section
open Go Go.RowKit
def flV(l:Nat):Value:= .iface 181 (agg #[.iface 193 ↑l])
def bdF(N:Nat):Int:=1100+2*(N:Int)
structure hY(k n m:Nat)(st:Ar×List Sp)(N:Nat):Prop where
 i:cr k 1 m n st.1.W st.2
 w:WdB (bdF N) st.1
 p:∀p∈st.2,SpB k (bdF N) p/\pcK k p
 o:st.1.ops<=N+1
def flS(k m:Nat)(st:Ar×List Sp)(i:Nat):Ar×List Sp:=((bJ k 1 m st.1 i (sv st.2 i)).1,st.2.set i (bJ k 1 m st.1 i (sv st.2 i)).2)
structure FlB where
 x:Fx
 hi:Nat
 bt:Nat
 a:Nat
 g:Nat
def Dw(k n m:Nat):LkM n where
 σ:=Ar×List Sp
 β:=FlB
 ok:=λst N=>hY k n m st N
 ar:=λst=>st.1
 sp:=λst i=>sv st.2 i
 cn:=λst i=>if (sv st.2 i).pc=10 then 1 else 0
 rd:=false
 step:=flS k m
 ask:=λst i r=>if r then st else(st.1,st.2.set i (askK k (sv st.2 i)))
 leave:=λst i=>(st.1,st.2.set i (a9 (sv st.2 i)))
 bt:=λb=>b.bt
 hi:=λb=>b.hi
 fp:=λb=>[b.a,b.g,b.x.q]
 is:=λb w a g lb st=>de w a g k b.x st.1 st.2/\(b.a=a/\b.g=g/\b.x.n=n/\b.x.m=m/\b.x.t=1)/\jt w lb n k (flV b.x.p) [b.a,b.g,b.x.q] b.bt b.hi/\(b.bt<=b.x.p/\b.x.p<b.hi)/\b.bt<=b.x.l/\b.x.l<b.hi
section
variable{k m:Nat}{st:Ar×List Sp}
def hY.at(h:hY k n m st N){i:Nat}(hi:i<n):SpB k (bdF N) (sv st.2 i)/\pcK k (sv st.2 i):=by
 have H:i<st.2.length:=by rw[h.i.len];exact hi
 exact h.p _ (List.mem_of_getElem? (qj H))
def hY.mono(h:hY k n m st N):hY k n m st (N+1):=⟨h.i,h.w.mono ahZ,λp H=>⟨(h.p p H).1.mono ahZ,(h.p p H).2⟩,by have:=h.o;omega⟩
def hY.set{s':Ar}{H:List Sp}(h:hY k n m st N){i:Nat}{q:Sp}(hi:cr k 1 m n s'.W H)(O:H=st.2.set i q)(hw:WdB (bdF N+2) s')(V:SpB k (bdF N+2) q/\pcK k q)(Y:s'.ops<=N+2):hY k n m (s',H) (N+1):=by
 have e:bdF (N+1)=bdF N+2:=by unfold bdF;omega
 refine⟨hi,by rw[e];exact hw,λp I=>?_,Y⟩;rw[e];rw[O]at I;rcases List.mem_or_eq_of_mem_set I with h1|rfl
 .exact⟨(h.p p h1).1.mono ahE,(h.p p h1).2⟩
 .exact V
def hY.pre(h:hY k n m st N)(hN:N<lkB)(V:1<=k/\k<=5){x:Fx}(I:x.n=n/\x.m=m/\x.t=1):kH k x st.1 st.2 (bdF N):=
 ⟨by have:=h.o;unfold lkB at hN;omega,h.w,λp H=>(h.p p H).1,by unfold bdF;omega,by unfold bdF;unfold lkB at hN;omega,aR.2 (by
  have O:=h.i.t2
  have hm:=h.i.m1
  have Y:(1:Int)<=szI k n m:=by unfold szI;(repeat' split)<;>omega
  rw[I.2.2];omega)⟩
end
def ym{k m:Nat}(Y:1<=k/\k<=5)(hn:1<=n/\n<=32)(hm:1<=m/\m<=1024):(Dw k n m).Good where
 n32:=hn
 okS:=fun(st:Ar×List Sp) N i h hN hi=>by
  show hY k n m (flS k m st i) (N+1)
  replace h:hY k n m st N:=h
  obtain⟨hp,hc⟩:=h.at hi
  have I:bdF N<=10000000000000:=by unfold bdF;unfold lkB at hN;omega
  have JA:=qu (t:=1) (m:=m) (i:=(i:Int)) h.w hp ahZ I ahZ ahZ
  exact h.set (h.i.step Y h.w ahZ I hi hc).1 rfl JA.1 ⟨JA.2,(i1 Y hc).1⟩ (Nat.le_trans (cY k 1 m st.1 i _).1 (by have:=h.o;omega))
 okA:=fun(st:Ar×List Sp) N i r h _ hi=>by
  replace h:hY k n m st N:=h
  cases r
  .obtain⟨hp,hc⟩:=h.at hi
   exact h.set (h.i.ask Y hi) rfl (h.w.mono ahE) ⟨(ug hp ahZ).mono ahE,nh hc⟩ (by have:=h.o;omega)
  .exact h.mono
 okL:=fun(st:Ar×List Sp) N i h _ hi=>by
  replace h:hY k n m st N:=h
  obtain⟨hp,hc⟩:=h.at hi
  exact h.set (h.i.leave Y hi) rfl (h.w.mono ahE) ⟨(ni hp).mono ahE,ji hc⟩ (by have:=h.o;omega)
 okm:=fun(st:Ar×List Sp) N (h:hY k n m st N)=>h.mono
 one:=fun(st:Ar×List Sp) N i j (h:hY k n m st N) hi hj h1 h2 _=>h.i.one Y hi hj h1 h2
 pcs:=fun(st:Ar×List Sp) N i (h:hY k n m st N) hi=>by
  have:=(h.at hi).2
  show 0<=(sv st.2 i).pc
  unfold pcK iQ at this
  (repeat' split at this)<;>omega
 cnt:=fun(st:Ar×List Sp) N i h hi=>by
  show(sv st.2 i).pc=10↔0<(if (sv st.2 i).pc=10 then(1:Int)else 0)
  split<;>simp[*]
 opsS:=fun(st:Ar×List Sp) N i _ _ _=>(cY k 1 m st.1 i _).1
 arA:=fun(st:Ar×List Sp) i r=>by cases r<;>rfl
 arL:=fun(st:Ar×List Sp) i=>rfl
 ais:=fun(b:FlB) w a g lb (st:Ar×List Sp) h=>h.1.ki.ar
 lk:=fun(b:FlB) w a g lb (st:Ar×List Sp) h=>h.2.2.1.c1
 kd:=fun(b:FlB) w a g lb (st:Ar×List Sp) h=>⟨k,h.2.2.1.blk.cell 0,(decide_eq_false ahE).symm⟩
 fpa:=fun(b:FlB) w a g lb (st:Ar×List Sp) h=>⟨λx hx=>(h.2.2.1.fl x hx).2,h.2.2.1.hw⟩
 far:=fun(b:FlB) w a g lb (st:Ar×List Sp) w' S h t hS=>by
  obtain⟨k1,⟨rfl,rfl,hc⟩,hd,hp,hl⟩:=h
  have h9:∀x∈S,b.hi<=x\/x<b.bt:=hS
  have ha:=hd.fl b.a ahF
  have hg:=hd.fl b.g ahF
  have hq:=hd.fl b.x.q ahF
  exact⟨k1.turns t (λm=>by have:=h9 _ m;omega) (λm=>by have:=h9 _ m;omega) (λm=>by have:=h9 _ m;omega) (λm=>by have:=h9 _ m;omega) (λm=>by have:=h9 _ m;omega),⟨rfl,rfl,hc⟩,hd.far t h9,hp,hl⟩
 cS:=fun(b:FlB) w a g lb (st:Ar×List Sp) N i h O hN hi=>by
  obtain⟨k1,⟨rfl,rfl,hc⟩,hd,hp,hl⟩:=h
  replace O:hY k n m st N:=O
  have Lg:i<st.2.length:=by rw[O.i.len];exact hi
  refine(nQ .fl hd.c1 hd.c2 hi (R:=λr w'=>r=dg (sv st.2 i) (sv (flS k m st i).2 i)/\de w' b.a b.g k b.x (flS k m st i).1 (flS k m st i).2/\aa [b.a,b.g,b.x.q] w w') λW H=>?_).mono ?_
  .have hx:=qE (k1.below H) (KOk.of Y) i _ (qj Lg) (O.pre hN Y hc) (O.at hi).2
   unfold zm at hx
   rw[hc.2.2,hc.2.1]at hx
   refine hx.mono ?_
   rintro e w' ⟨rfl,k2,t2⟩
   refine⟨_,rfl,?_,k2,(aa.of_below H).trans t2⟩
   rw[show(flS k m st i).2=st.2.set i (bJ k 1 m st.1 i (sv st.2 i)).2 from rfl,fZ Lg,if_pos rfl]
   rfl
  .exact aa8
 cA:=fun(b:FlB) w a g lb (st:Ar×List Sp) N i r h O hN hi=>by
  obtain⟨k1,⟨rfl,rfl,hc⟩,hd,hp,hl⟩:=h
  replace O:hY k n m st N:=O
  have Lg:i<st.2.length:=by rw[O.i.len];exact hi
  have tq:∀{w w':World},aa [b.x.q] w w'->aa [b.a,b.g,b.x.q] w w':=λt=>t.mono ahF
  refine(x9 .fl hd.c1 hd.c2 hi r (R:=λq w'=>q=decide ((sv st.2 i).pc=0/\(r=true->(false:Bool)=true))/\de w' b.a b.g k b.x (if r then st else(st.1,st.2.set i (askK k (sv st.2 i)))).1 (if r then st else(st.1,st.2.set i (askK k (sv st.2 i)))).2/\aa [b.a,b.g,b.x.q] w w') (λV W H=>?_) (λV W H=>?_)).mono ?_
  .subst V
   refine(uE (k1.below H) (KOk.of Y) i _ (qj Lg)).mono ?_
   rintro e w' ⟨rfl,k2,t2⟩
   exact⟨_,rfl,by simp,k2,(aa.of_below H).trans (tq t2)⟩
  .subst V
   exact⟨by simp,k1.below H,aa.of_below H⟩
  .exact aa8
 cL:=fun(b:FlB) w a g lb (st:Ar×List Sp) N i h O hN hi=>by
  obtain⟨k1,⟨rfl,rfl,hc⟩,hd,hp,hl⟩:=h
  replace O:hY k n m st N:=O
  have Lg:i<st.2.length:=by rw[O.i.len];exact hi
  have tq:∀{w w':World},aa [b.x.q] w w'->aa [b.a,b.g,b.x.q] w w':=λt=>t.mono ahF
  refine(kA .fl hd.c1 hd.c2 hi (R:=λq w'=>q=decide ((sv st.2 i).pc=10)/\de w' b.a b.g k b.x st.1 (st.2.set i (a9 (sv st.2 i)))/\aa [b.a,b.g,b.x.q] w w') λW H=>?_).mono ?_
  .refine(nX (k1.below H) (KOk.of Y) i _ (qj Lg)).mono ?_
   rintro e w' ⟨rfl,k2,t2⟩
   exact⟨_,rfl,rfl,k2,(aa.of_below H).trans (tq t2)⟩
  .exact aa8
 cP:=fun(b:FlB) w a g lb (st:Ar×List Sp) i h hi=>nO .fl h.2.2.1.c1 h.2.2.1.c2 hi _ λW H=>wF (h.1.below H) (KOk.of Y) i _ (qj (by rw[h.1.ki.n,h.2.1.2.2.1];exact hi))
 cC:=fun(b:FlB) w a g lb (st:Ar×List Sp) i h hi=>nM .fl h.2.2.1.c1 h.2.2.1.c2 hi _ λW H=>wF (h.1.below H) (KOk.of Y) i _ (qj (by rw[h.1.ki.n,h.2.1.2.2.1];exact hi))
end
section
open Go Go.RowKit
variable{w:World}{c:CoC}{st:Co}
def zW(xl:Nat):Value:= .iface 173 (agg #[.iface 169 ↑xl])
structure m6 where
 x:Cox
 B:Nat->Prop
 a:Nat
 g:Nat
 bt:Nat
 hi:Nat
def F8(c:CoC)(n Nn:Nat)(ml:Nat->Nat)(L:Nat)(st:Co)(N:Nat):Prop:=
 CoM c n Nn ml st/\bK c n L (1100+2*N) (N+1100) st/\∀i,(sv st.T i).pc=10->0<(sv st.T i).a
def Dv(c:CoC)(P T:List Int)(L:Nat):LkM T.length where
 σ:=Co
 β:=m6
 ok:=F8 c T.length (ac P).length (mtQ P T) L
 ar:=λst=>st.s
 sp:=λst i=>sv st.T i
 cn:=λst i=>if (sv st.T i).pc=10 then(sv st.T i).a else 0
 rd:=false
 step:=aj c
 ask:=λst i r=>if r then st else bz c st i
 leave:=az
 bt:=λb=>b.bt
 hi:=λb=>b.hi
 fp:=λb=>CoS b.a b.g b.x
 is:=λb w a g lb st=>aC b.B w a g b.x c P T st/\(b.a=a/\b.g=g)/\jt w lb T.length 6 (zW b.x.l) (CoS b.a b.g b.x) b.bt b.hi/\∀i,eQ b.x b.B i->b.bt<=i/\i<b.hi
def aC.farK{B:Nat->Prop}{a g:Nat}{x:Cox}(h:aC B w a g x c P T st)(t:aa S w w')(ha:a∉S)(hg:g∉S)(hS:∀i∈S,¬eQ x B i):aC B w' a g x c P T st:=by
 have ar:=h.ar.turns t ha hg;have nb:∀r,eQ x B r->r∉S:=λr I hm=>hS r hm I;obtain⟨Y,z⟩:=h.nd
 refine⟨h.fx,ar,t.blk h.lk (nb _ (.inl rfl)),h.tb.turns t (λi hi I=>nb i (.inr (.inr (.inr (.inr (.inr I))))) hi),⟨Y,t.blk z (nb _ (.inr (.inl rfl)))⟩,
  h.sp.turns t (nb _ (.inr (.inr (.inl rfl)))),
  h.gl.oth t ar (nb _ (.inr (.inr (.inr (.inl (.inl rfl)))))) (nb _ (.inr (.inr (.inr (.inl (.inr (.inl rfl))))))) (nb _ (.inr (.inr (.inr (.inl (.inr (.inr rfl))))))),
  λn y V H O=>?_,h.lL,h.lG,h.lS,h.sl⟩
 have hm:y∈x.X:=List.mem_of_getElem? H;exact(h.lo n y V H O).oth t ar (nb _ (.inr (.inr (.inr (.inr (.inl ⟨y,hm,.inl rfl⟩)))))) (nb _ (.inr (.inr (.inr (.inr (.inl ⟨y,hm,.inr (.inl rfl)⟩)))))) (nb _ (.inr (.inr (.inr (.inr (.inl ⟨y,hm,.inr (.inr rfl)⟩))))))
def zX(c:CoC)(st:Co)(i:Nat)(p:Sp)(H:p.pc≠10)(h:(cX c st i p).2.2.2.pc=10):0<(cX c st i p).2.2.2.a:=by
 revert h;unfold cX xX pP;repeat' split
 all_goals (intro h;simp only at h ⊢;omega)
def EW(st:Co)(i:Nat)(q:Sp)(j:Nat)(h:(sv st.T j).pc=10->0<(sv st.T j).a)(H:q.pc=10->0<q.a):(sv (st.T.set i q) j).pc=10->0<(sv (st.T.set i q) j).a:=by
 rw[ba];split;.exact H
 .exact h
def Ag{B:Nat->Prop}{a g:Nat}{x:Cox}(h:aC B w a g x c P T st)(i:Nat)(hi:i<x.n):E 234 #[↑x.l,J i] w λe w'=>e= returned (J (if (sv st.T i).pc=10 then(sv st.T i).a else 0))/\Below w.heap.size w w':=by
  have Y:=aM;have H:=qh (λw' (b:Below w.heap.size w w')=>mj (h.below b) i hi);obtain⟨p,V⟩:=LE (sv st.T i);rw[<-V]at H ⊢;clear h V;obtain⟨pc,u,b,z⟩:=p;unfold aF at H;simp only;by_cases O:pc=10;. subst O;rw[if_pos rfl];go_enter func234,ntmps234;go_wp2_with fail;refine Op (H.o _ (Below.refl _ _)) λw1 b1=>?_;have I:=qh (((((b1.o.alloc b1.o.size (cells #[J 10,J u,J b,J z] 113))))));go_wp2;go_ret;exact⟨rfl,I.o⟩
  . rw[if_neg O];have t0:(pc !=10)=true:=(by simpa using O);go_enter func234,ntmps234;go_wp2_with fail;refine Op (H.o _ (Below.refl _ _)) λw1 b1=>?_;have I:=qh (((((b1.o.alloc b1.o.size (cells #[J pc,J u,J b,J z] 113))))));go_wp2;go_ret;exact⟨rfl,I.o⟩
def yl(hc:a8 P T=0)(hy:cH c T.length (ac P).length (mtQ P T))(O:kG c T.length (ac P).length L):(Dv c P T L).Good where
 n32:=by have:=bi (aQ hc).1;exact⟨this.2.2.1,this.2.2.2⟩
 okS:=fun(st:Co) N i h hN hi=>by
  unfold lkB at hN
  obtain⟨h1,h2,h3⟩:=h
  have k2:=h2.step O ahE ahE hi
  refine⟨h1.step hy h2.bd ahE ahE hi,⟨k2.bd.mono ah0,k2.v,k2.len,by have:=k2.ops;show(aj c st i).s.ops<=_;omega⟩,λj=>?_⟩
  show(sv (aj c st i).T j).pc=10->0<(sv (aj c st i).T j).a
  unfold aj
  split
  .exact h3 j
  .rename_i e
   exact EW st i _ j (h3 j) (zX c st i _ ahE)
 okA:=fun(st:Co) N i r h hN hi=>by
  unfold lkB at hN
  obtain⟨h1,h2,h3⟩:=h
  cases r
  .have k2:=h2.ask O ahE hi
   refine⟨h1.ask hy hi,⟨k2.bd.mono ah0,k2.v,k2.len,by have:=k2.ops;show(bz c st i).s.ops<=_;omega⟩,λj=>?_⟩
   show(sv (bz c st i).T j).pc=10->0<(sv (bz c st i).T j).a
   unfold bz
   exact abm
  .exact⟨h1,⟨h2.bd.mono ah0,h2.v,h2.len,by have:=h2.ops;show st.s.ops<=_;omega⟩,h3⟩
 okL:=fun(st:Co) N i h hN hi=>by
  unfold lkB at hN
  obtain⟨h1,h2,h3⟩:=h
  have k2:=h2.leave O ahE hi
  refine⟨h1.leave hy hi,⟨k2.bd.mono ah0,k2.v,k2.len,by have:=k2.ops;show(az st i).s.ops<=_;omega⟩,λj=>?_⟩
  show(sv (az st i).T j).pc=10->0<(sv (az st i).T j).a
  unfold az
  exact abm
 okm:=fun(st:Co) N h=>⟨h.1,⟨h.2.1.bd.mono ah0,h.2.1.v,h.2.1.len,by have:=h.2.1.ops;show st.s.ops<=_;omega⟩,h.2.2⟩
 one:=fun(st:Co) N i j h hi hj h1 h2 _=>h.1.one hy hi hj (by have e:(sv st.T i).pc=10:=h1;omega) (by have e:(sv st.T j).pc=10:=h2;omega)
 pcs:=fun(st:Co) N i h hi=>by
  have:=h.1.v.k i hi
  unfold di at this
  show 0<=(sv st.T i).pc
  omega
 cnt:=fun(st:Co) N i h hi=>by
  show(sv st.T i).pc=10↔0<(if (sv st.T i).pc=10 then(sv st.T i).a else 0)
  have:=h.2.2 i
  split
  .rename_i e;exact⟨λ_=>this e,λ_=>e⟩
  .rename_i e;exact⟨λq=>absurd q e,λq=>by omega⟩
 opsS:=fun(st:Co) N i _ _ _=>(mx i).1
 arA:=fun(st:Co) i r=>by
  cases r
  .show(bz c st i).s=st.s
   unfold bz;split<;>rfl
  .rfl
 arL:=fun(st:Co) i=>by
  show(az st i).s=st.s
  unfold az;split<;>rfl
 ais:=fun(b:m6) w a g lb (st:Co) h=>h.1.ar
 lk:=fun(b:m6) w a g lb (st:Co) h=>h.2.2.1.c1
 kd:=fun(b:m6) w a g lb (st:Co) h=>⟨6,h.2.2.1.blk.cell 0,rfl⟩
 fpa:=fun(b:m6) w a g lb (st:Co) h=>⟨λx hx=>(h.2.2.1.fl x hx).2,h.2.2.1.hw⟩
 far:=fun(b:m6) w a g lb (st:Co) w' S h t hS=>by
  obtain⟨k,⟨rfl,rfl⟩,hd,hl⟩:=h
  have Y:∀x∈S,b.hi<=x\/x<b.bt:=hS
  have hf:=hd.fl
  refine⟨k.farK t (λm=>?_) (λm=>?_) (λi m I=>?_),⟨rfl,rfl⟩,hd.far t Y,hl⟩
  .have:=Y _ m;have:=hf b.a aie;omega
  .have:=Y _ m;have:=hf b.g aie;omega
  .have:=Y _ m;have:=hl _ I;omega
 cS:=fun(b:m6) w a g lb (st:Co) N i h hk hN hi=>by
  unfold lkB at hN
  obtain⟨k,⟨rfl,rfl⟩,hd,hl⟩:=h
  have en:=k.fx.nT
  have eN:=k.fx.nN
  have C:=(en ▸ hk.2.1:bK c b.x.n L (1100+2*N) (N+1100) st).pre (by rw[en,eN];exact O) k.fx ahE ahE ahE
  have H:i<b.x.n:=by rw[en];exact hi
  refine(nQ .co hd.c1 hd.c2 hi (R:=λr w'=>r=dg (sv st.T i) (sv (aj c st i).T i)/\aC b.B w' b.a b.g b.x c P T (aj c st i)/\aa (CoS b.a b.g b.x) w w') λW bw=>?_).mono ?_
  .refine(mn (k.below bw) C i H).mono ?_
   exact abn
  .exact abo
 cA:=fun(b:m6) w a g lb (st:Co) N i r h hk hN hi=>by
  obtain⟨k,⟨rfl,rfl⟩,hd,hl⟩:=h
  have H:i<b.x.n:=by rw[k.fx.nT];exact hi
  refine(x9 .co hd.c1 hd.c2 hi r (R:=λq w'=>q=decide ((sv st.T i).pc=0/\(r=true->(false:Bool)=true))/\aC b.B w' b.a b.g b.x c P T (if r then st else bz c st i)/\aa (CoS b.a b.g b.x) w w') (λV W bw=>?_) (λV W bw=>?_)).mono ?_
  .subst V
   refine(rQ (k.below bw) i H).mono ?_
   exact abp
  .exact aaE
  .exact abo
 cL:=fun(b:m6) w a g lb (st:Co) N i h hk hN hi=>by
  obtain⟨k,⟨rfl,rfl⟩,hd,hl⟩:=h
  have H:i<b.x.n:=by rw[k.fx.nT];exact hi
  refine(kA .co hd.c1 hd.c2 hi (R:=λq w'=>q=decide ((sv st.T i).pc=10)/\aC b.B w' b.a b.g b.x c P T (az st i)/\aa (CoS b.a b.g b.x) w w') λW bw=>?_).mono ?_
  .refine(kT (k.below bw) i H).mono ?_
   exact abn
  .exact abo
 cP:=fun(b:m6) w a g lb (st:Co) i h hi=>nO .co h.2.2.1.c1 h.2.2.1.c2 hi _ λW bw=>mj (h.1.below bw) i (by rw[h.1.fx.nT];exact hi)
 cC:=fun(b:m6) w a g lb (st:Co) i h hi=>si .co h.2.2.1.c1 h.2.2.1.c2 hi _ λW bw=>Ag (h.1.below bw) i (by rw[h.1.fx.nT];exact hi)
end
section
open Go Go.RowKit
def px(w:World)(a g n:Nat)(k:Int)(v:Value)(ms:MS n)(w':World):Prop:=
 ∀(w2:World) (lb:Nat),aa [lb] w' w2->lb<w.heap.size->lb≠a->lb≠g->Blk w2 lb 110 #[J k,J n,v]->∃b:ms.1.β,ms.1.Good/\ms.1.ok ms.2 0/\ms.1.is b w2 a g lb ms.2/\(∀x∈ms.1.fp b,w.heap.size<=x\/x=a\/x=g)/\min lb (min a g)<=ms.1.bt b
section
variable{w:World}{a g:Nat}{s:Ar}
def GR(V:1<=n/\n<=32)(hs:s.ops=0){c:Mx}(k:bM w' c bud (ma0 s n))(hc:c.b.a=a/\c.b.g=g/\c.b.n=n/\(c.b.F:Int)=maF n)(h1:w.heap.size<=c.l)(h2:w.heap.size<=c.q)(h3:w.heap.size<=c.b.k):px w a g n 10 (maV c.l) ⟨wO n bud,ma0 s n⟩ w':=by
 intro w2 lb t Y ha hg I;have O:∀x∈mS c,w.heap.size<=x\/x=a\/x=g:=λx h=>by unfold mS at h;simp at h;omega
 have H:=k.far t (λx h m=>by have:=O x h;simp at m;omega);have l1:=H.lk.lt;have l2:=H.sp.lt;have l3:=H.bn.blk.lt;have l4:=H.bn.ar.blk.lt;have l5:=H.bn.ar.wds.lt;exact⟨(c,min lb (min a g),w2.heap.size),uN bud V,⟨G4 _ V.1,by show s.ops<=0;omega⟩,⟨H,hc,I,λm=>by have:=O _ m;omega,⟨Nat.min_le_left _ _,I.lt⟩,λx h=>by unfold mS at h;simp at h;show min lb (min a g)<=x/\x<w2.heap.size;omega,Nat.le_refl _⟩,O,Nat.le_refl _⟩
def GP(hc:a8 P T=0)(hd:0<=bud/\bud<=1000)(hs:s.ops=0){l q b u hi:Nat}(k:bv w' l a g q b u lo hi bud P T (hc0 s (ac P).length T.length))(h1:w.heap.size<=l)(h2:w.heap.size<=q)(h4:w.heap.size<=u)(h5:w.heap.size<=lo):px w a g T.length 8 (hcV l) ⟨Dx bud P T,hc0 s (ac P).length T.length⟩ w':=by
 intro w2 lb t Md ha hg I;have V:1<=T.length/\T.length<=32:=by have:=bi (aQ hc).1;exact⟨this.2.2.1,this.2.2.2⟩
 have O:∀x∈[a,g,q,u],w.heap.size<=x\/x=a\/x=g:=λx H=>by simp at H;omega
 have h:=k.far t (λx H m=>by simp at H m;omega) (λx m=>by simp at m;omega);have l1:=h.lk.lt;have l2:=h.sp.lt;have l3:=h.tu.blk.lt;have l4:=h.ar.blk.lt;have l5:=h.ar.wds.lt;refine⟨⟨l,a,g,q,b,u,lo,hi,min lb (min a g),w2.heap.size⟩,yn hc hd,⟨⟨_,HOk.start _ V.2 (λt Y=>(te k Y).2) hs rfl⟩,λi=>?_⟩,⟨h,⟨rfl,rfl⟩,⟨I,λm=>by have:=O _ m;omega,⟨Nat.min_le_left _ _,I.lt⟩,λx H=>by simp at H;show min lb (min a g)<=x/\x<w2.heap.size;omega,Nat.le_refl _⟩,⟨by show min lb (min a g)<=l;omega,l1⟩,by show min lb (min a g)<=lo;omega,h.hs⟩,O,Nat.le_refl _⟩;show kP (sv (List.replicate T.length Sp.zero) i);rw[rx];unfold kP Sp.zero;simp
def ct0(s:Ar):CtS n (cn0 s n):=by
 have e:∀i,sv (List.replicate n Sp.zero) i=Sp.zero:=λi=>rx n i
 have w0:∀y,ldW (List.replicate (2+3*n) (0:Int)) y=0:=λy=>by
  unfold ldW;split;.exact iM _ _ _
  .rfl
 have H:∀x,aN (List.replicate (2+3*n) (0:Int)) x=0:=λx=>by unfold aN;rw[w0];split<;>rfl
 have I:∀x,aS (List.replicate (2+3*n) (0:Int)) x=0:=λx=>by unfold aS;rw[w0];split<;>rfl
 have h:∀x,aL (List.replicate (2+3*n) (0:Int)) x=0:=λx=>by unfold aL;rw[w0];split<;>rfl
 refine⟨⟨?_,?_,?_,?_,?_,?_,?_,?_,?_,?_,?_,?_,?_,?_,?_⟩,by simp[cn0],by simp[cn0]⟩;all_goals simp only[cn0,e,w0,H,I,h,WkB]
 .refine⟨?_,?_⟩<;>intros<;>simp_all [F3,i6,Sp.zero]
 all_goals try simp only[Sp.zero]
 all_goals first|omega|(intros;omega)
def GM(nd:List Int)(hs:s.ops=0){c:Cx}{cap:Nat}(k:an w' c cap bud nd (cn0 s nd.length))(hc:c.a=a/\c.g=g)(h1:w.heap.size<=c.l)(h2:w.heap.size<=c.q)(h3:w.heap.size<=c.k)(V:∀x∈[c.n1,c.nb,c.b0,c.b1,c.b2],w.heap.size<=x):px w a g nd.length 9 (cnV c.l) ⟨wN bud nd nd.length,cn0 s nd.length⟩ w':=by
 intro w2 lb t Md ha hg I;simp only[List.mem_cons,List.not_mem_nil,or_false,forall_eq_or_imp,forall_eq]at V;have h:=k.far t (λx H m=>by simp at H m;omega) (λx H m=>by simp at H m;omega);have l1:=h.lk.lt;have l2:=h.sp.lt;have l3:=h.wk.blk.lt;have l4:=h.ar.blk.lt;have l5:=h.ar.wds.lt;have l6:=h.wk.row.lt;have Y:=aT (h.row 0 (by have:=h.n32;omega));have l8:=h.p0.lt;have l9:=h.p1.lt;have l0:=h.p2.lt;have O:∀x∈cnF ⟨c,cap,min lb (min a g),w2.heap.size⟩,(w.heap.size<=x\/x=a\/x=g)/\x<w2.heap.size:=λx H=>by unfold cnF at H;simp at H;omega
 refine⟨⟨c,cap,min lb (min a g),w2.heap.size⟩,uM h.n32,⟨ct0 s,by show s.ops<=0;omega⟩,⟨h,hc,⟨I,λm=>by have:=O _ m;omega,⟨Nat.min_le_left _ _,I.lt⟩,λx H=>by have:=O x H;show min lb (min a g)<=x/\x<w2.heap.size;omega,Nat.le_refl _⟩,λx H=>by simp at H Y l8 l9 l0;show min lb (min a g)<=x/\x<w2.heap.size;omega⟩,λx H=>(O x H).1,Nat.le_refl _⟩
end
end
section
open Go.RowKit
structure SmX where
 l:Nat
 q:Nat
 b:Nat
 gg:Nat
 dd:Nat
 x:Cox
def smC(a:Nat)(X:SmX)(N n:Nat):Array Value:=#[↑a,↑X.b,↑X.gg,↑X.dd,J (2*(N:Int)+1),↑X.x.l,slice (some ⟨X.q,0,none⟩) n n]
structure av(ty:TypeId)(B BC:Nat->Prop)(w:World)(a g:Nat)(X:SmX)(c:CoC)(P T:List Int)(st:Co)(d:Dr)(U:List Sp):Prop where
 lk:Blk w X.l ty (smC a X (ac P).length T.length)
 gd:GD w a g X.gg X.dd (ac P).length st.s d
 tb:eM B w X.b P T
 sp:SpR w X.q U
 co:aC BC w a g X.x c P T st
 lU:U.length=T.length
 o1:∀i∈CoS a g X.x,i≠X.l/\i≠X.q/\i≠X.gg/\i≠X.dd/\¬B i
 o2:¬eQ X.x BC X.q/\¬eQ X.x BC X.dd
 o3:X.q≠X.l/\X.q≠X.gg/\X.q≠X.dd/\¬B X.q
 o4:X.dd≠X.l/\X.dd≠X.gg/\¬B X.dd
section
variable{ty:TypeId}{B BC:Nat->Prop}{w:World}{a g:Nat}{X:SmX}{x:Cox}{c:CoC}{st st':Co}{d d':Dr}{U:List Sp}{s':Ar}
def aC.arAway(h:aC BC w a g x c P T st)(t:aa S w w')(O:aB w' a g s')(hS:∀i∈S,i=a\/i=g\/¬eQ x BC i):aC BC w' a g x c P T {st with s:=s'}:=by
 have nb:∀r u,x.o r=u->u≠3->eQ x BC r->r∉S:=λr u e hu I hm=>by
  rcases hS r hm with H|H|H
  .rw[H,h.fx.oa]at e;exact hu e.symm
  .rw[H,h.fx.og]at e;exact hu e.symm
  .exact H I
 obtain⟨Ze,z⟩:=h.nd
 refine⟨h.fx,O,t.blk h.lk (nb _ _ h.fx.ol ahG (.inl rfl)),h.tb.turns t (λi hi I=>nb i _ (h.fx.oB i I) ahG (.inr (.inr (.inr (.inr (.inr I))))) hi),⟨Ze,t.blk z (nb _ _ h.fx.on ahG (.inr (.inl rfl)))⟩,
  h.sp.turns t (nb _ _ h.fx.os ahG (.inr (.inr (.inl rfl)))),
  h.gl.oth t O (nb _ _ h.fx.oG.1 ahG (.inr (.inr (.inr (.inl (.inl rfl)))))) (nb _ _ h.fx.oG.2.1 ahG (.inr (.inr (.inr (.inl (.inr (.inl rfl))))))) (nb _ _ h.fx.oG.2.2 ahG (.inr (.inr (.inr (.inl (.inr (.inr rfl))))))),
  λn y S' V OV=>?_,h.lL,h.lG,h.lS,h.sl⟩
 have hm:y∈x.X:=List.mem_of_getElem? V;have Y:=h.fx.oL n y V;exact(h.lo n y S' V OV).oth t O (nb _ _ Y.1 ahE (.inr (.inr (.inr (.inr (.inl ⟨y,hm,.inl rfl⟩)))))) (nb _ _ Y.2.1 ahE (.inr (.inr (.inr (.inr (.inl ⟨y,hm,.inr (.inl rfl)⟩)))))) (nb _ _ Y.2.2 ahE (.inr (.inr (.inr (.inr (.inl ⟨y,hm,.inr (.inr rfl)⟩))))))
def av.agS(h:av ty B BC w a g X c P T st d U):(a≠X.l/\a≠X.q/\a≠X.gg/\a≠X.dd/\¬B a)/\(g≠X.l/\g≠X.q/\g≠X.gg/\g≠X.dd/\¬B g):=
 ⟨h.o1 a aie,h.o1 g aie⟩
def av.coT(h:av ty B BC w a g X c P T st d U)(t:aa (CoS a g X.x) w w')(k:aC BC w' a g X.x c P T st'):av ty B BC w' a g X c P T st' d U:=
 {h with lk:=t.blk h.lk (λm=>(h.o1 _ m).1 rfl),gd:={h.gd with ar:=k.ar,ga:=t.blk h.gd.ga (λm=>(h.o1 _ m).2.2.1 rfl),dr:=t.blk h.gd.dr (λm=>(h.o1 _ m).2.2.2.1 rfl)},tb:=h.tb.turns t (λi hi=>(h.o1 i hi).2.2.2.2),sp:=h.sp.turns t (λm=>(h.o1 _ m).2.1 rfl),co:=k}
def av.gdT(h:av ty B BC w a g X c P T st d U)(t:aa [a,g,X.dd] w w')(k:GD w' a g X.gg X.dd (ac P).length s' d'):av ty B BC w' a g X c P T {st with s:=s'} d' U:=by
 obtain⟨H,hg⟩:=h.agS;have hm:∀r,r≠a->r≠g->r≠X.dd->r∉[a,g,X.dd]:=λr h1 O V=>by simp[h1,O,V]
 refine {h with lk:=t.blk h.lk (hm _ (λe=>H.1 e.symm) (λe=>hg.1 e.symm) (λe=>h.o4.1 e.symm)),gd:=k,tb:=h.tb.turns t (λi hi I=>?_),sp:=h.sp.turns t (hm _ (λe=>H.2.1 e.symm) (λe=>hg.2.1 e.symm) h.o3.2.2.1),co:=h.co.arAway t k.ar (λi hi=>?_)}
 .simp at hi;rcases hi with rfl|rfl|rfl
  .exact H.2.2.2.2 I
  .exact hg.2.2.2.2 I
  .exact h.o4.2.2 I
 .simp at hi;rcases hi with rfl|rfl|rfl
  .exact .inl rfl
  .exact .inr (.inl rfl)
  .exact .inr (.inr h.o2.2)
def av.arT(h:av ty B BC w a g X c P T st d U)(t:aa [a,g] w w')(H:aB w' a g s'):av ty B BC w' a g X c P T {st with s:=s'} d U:=
 h.gdT (aK t) (h.gd.op t H)
def av.put(h:av ty B BC w a g X c P T st d U){i:Nat}{p p':Sp}(Y:U[i]? =some p)(V:j<4)(O:(bf p).set j u=bf p'):av ty B BC (w.setCell ⟨X.q,i*4+j,none⟩ u) a g X c P T st d (U.set i p'):=by obtain⟨I,hg⟩:=h.agS;have t:aa [X.q] w (w.setCell ⟨X.q,i*4+j,none⟩ u):=aV _ _ _;have H:=h.gd.ar.turns t (by simp;exact I.2.1) (by simp;exact hg.2.1);have k:=h.co.arAway t (s':=st.s) H (λi hi=> .inr (.inr (by simp at hi;rw[hi];exact h.o2.1)));refine {h with lk:=t.blk h.lk (by simp;exact λe=>h.o3.1 e.symm),gd:={h.gd with ar:=H,ga:=t.blk h.gd.ga (by simp;exact λe=>h.o3.2.1 e.symm),dr:=t.blk h.gd.dr (by simp;exact λe=>h.o3.2.2.1 e.symm)},tb:=h.tb.turns t (λi hi=>by simp at hi;rw[hi];exact h.o3.2.2.2),sp:=h.sp.put Y V O,co:=k,lU:=by rw[List.length_set];exact h.lU}
def av.put0(h:av ty B BC w a g X c P T st d U){i:Nat}{p p':Sp}(I:U[i]? =some p)(H:(bf p).set 0 u=bf p'):av ty B BC (w.setCell ⟨X.q,i*4,none⟩ u) a g X c P T st d (U.set i p'):=h.put I (j:=0) ahG H
def av.below(h:av ty B BC w a g X c P T st d U)(b:Below w.heap.size w w'):av ty B BC w' a g X c P T st d U:=
 have t:aa [] w w':=aa.of_below b
 {h with lk:=t.blk h.lk ahF,gd:=h.gd.below b,tb:=h.tb.turns t ahF,sp:=h.sp.turns t ahF,co:=h.co.below b}
def av.nT(h:av ty B BC w a g X c P T st d U):X.x.n=T.length/\X.x.N=(ac P).length/\T.length<=32/\(ac P).length<=32:=by have:=h.co.fx.n32;have H:=h.co.fx.nT;have I:=h.co.fx.nN;exact⟨H,I,by omega,by omega⟩
def av.thr(h:av ty B BC w a g X c P T st d U){i:Nat}(hi:i<T.length):U[i]? =some (sv U i):=by
 have:i<U.length:=by rw[h.lU];exact hi
 exact aaq
def av.cs(h:av ty B BC w a g X c P T st d U):w.cell? X.l=some ↑a/\Z w X.l 1 ↑X.b/\Z w X.l 2 ↑X.gg/\Z w X.l 3 ↑X.dd/\Z w X.l 4 (J (2*((ac P).length:Int)+1))/\Z w X.l 5 ↑X.x.l/\Z w X.l 6 (slice (some ⟨X.q,0,none⟩) T.length T.length):=
 ⟨h.lk.cell 0,h.lk.cell 1,h.lk.cell 2,h.lk.cell 3,h.lk.cell 4,h.lk.cell 5,h.lk.cell 6⟩
def SmS(a g:Nat)(X:SmX):List Nat:=X.q :: X.dd :: CoS a g X.x
def gZ(t:aa (CoS a g X.x) w w'):aa (SmS a g X) w w':=t.mono (λi hi=>by unfold SmS;simp[hi])
def jk(t:aa [a,g,X.dd] w w'):aa (SmS a g X) w w':=t.mono (λi hi=>by unfold SmS CoS;simp at hi ⊢;rcases hi with rfl|rfl|rfl<;>simp)
def fo(t:aa [a,g] w w'):aa (SmS a g X) w w':=t.mono (λi hi=>by unfold SmS CoS;simp at hi ⊢;rcases hi with rfl|rfl<;>simp)
def dW(i:Nat)(u:Value):aa (SmS a g X) w (w.setCell ⟨X.q,i,none⟩ u):=(aV _ _ _).mono (λi hi=>by unfold SmS;simp at hi;simp[hi])
end
end
section
open Go.RowKit
def dr0:Dr:=⟨0,0,false,false,false,0,false⟩
def E7(w:World)(gg:Nat):E 175 #[↑gg] w λe w'=>∃d,e= returned (pointer (some ⟨d,0,none⟩))/\Below w.heap.size w w'/\Blk w' d 367 (drC gg dr0)/\d=w.heap.size:=by go_enter func175,ntmps175;go_wp2;go_ret;exact⟨_,rfl,(Below.refl _ _).alloc (Nat.le_refl _) _,Blk.new w 367 (drC gg dr0),rfl⟩
def smA(s:Ar)(N:Nat):Ar:=bp (bp s (2*N)) 1
end
end Go.Proofs.YtglokdbiggbkjaaGreat
