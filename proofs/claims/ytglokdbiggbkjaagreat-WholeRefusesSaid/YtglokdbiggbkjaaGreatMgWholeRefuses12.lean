/- Joined texts. -/
import Derived.Deep.RegionLaw
import Derived.Test.YtglokdbiggbkjaaGreatMgWholeRefuses0
import Derived.Test.YtglokdbiggbkjaaGreatMgWholeRefuses1
import Derived.Test.YtglokdbiggbkjaaGreatMgWholeRefuses3
import Derived.Test.YtglokdbiggbkjaaGreatMgWholeRefuses5
import Derived.Test.YtglokdbiggbkjaaGreatMgWholeRefuses6
import Derived.Test.YtglokdbiggbkjaaGreatMgWholeRefuses11
set_option linter.unusedVariables false
set_option linter.unusedSimpArgs false
set_option linter.defProp false
set_option maxRecDepth 100000
set_option maxHeartbeats 16000000
open Go.Proofs.Tryz
namespace Go.Proofs.YtglokdbiggbkjaaGreat
open Go.IntKind(i64)
open Go.Value(int bool slice agg tuple pointer)
open Go.Ending(returned)
open Go.Obj(cells)
variable{w w':World}{v:Value}{sz b k:Nat}{P T:List Int}{B:Nat->Prop}{S:List Nat}{x p:Int}
section
open Go.RowKit
variable{α:Type}
structure ic(B:Nat->Prop)(w:World)(b:Nat)(P T:List Int):Prop where
 low:B b
 ex:∃AP cP AT cT,Blk w b 213 #[.slice AP P.length cP,.slice AT T.length cT,.int .u32 0,.int .i32 0,.int .u32 0,.slice none 0 0,.slice none 0 0,.slice none 0 0,.slice none 0 0]/\RdL w (.slice AP P.length cP) 1 encI P/\RdL w (.slice AT T.length cT) 1 encI T/\(∀g,(Value.slice AP P.length cP).ownBlock=some g->g≠b)/\(∀g,(Value.slice AT T.length cT).ownBlock=some g->g≠b)/\
  (∀g,(Value.slice AP P.length cP).ownBlock=some g->B g)/\(∀g,(Value.slice AT T.length cT).ownBlock=some g->B g)
def jK{enc:α->List Value}{l:List α}(h:RdL w v sz enc l)(O:0<l.length){g:Nat}(hg:v.ownBlock=some g):g<w.heap.size:=by obtain⟨A,cap,rfl,_,_,H⟩:=h;obtain⟨b,off,rfl,I,_⟩:=H O;injection hg with hg;subst hg;exact I
def km.q{lo:Nat}(hc:a8 P T=0)(h:km lo w b P T):ic (λi=>lo<=i/\i<w.heap.size) w b P T:=by have J5:=bi (aQ hc).1;obtain⟨O,cP,V,Y,h1,H,I,h4,h5,h6,h7⟩:=h.ex;exact⟨⟨h.low,h1.lt⟩,O,cP,V,Y,h1,H,I,h4,h5,λg hg=>⟨h6 g hg,jK H ahE hg⟩,λg hg=>⟨h7 g hg,jK I ahE hg⟩⟩
def ic.turns(h:ic B w b P T)(k:aa S w w')(H:∀i∈S,¬B i):ic B w' b P T:=by obtain⟨V,cP,Y,cT,h1,h2,h3,h4,h5,I,O⟩:=h.ex;exact⟨h.low,V,cP,Y,cT,k.blk h1 (λhm=>H _ hm h.low),h2.turns k (λg hg hm=>H g hm (I g hg)),h3.turns k (λg hg hm=>H g hm (O g hg)),h4,h5,I,O⟩
def ic.tab(hc:a8 P T=0)(h:ic B w b P T):Tab w b P T:=by obtain⟨H,cP,I,O,h1,V,Y,h4,h5,h6,h7⟩:=h.ex;exact⟨hc,.inl ⟨H,cP,I,O,h1,V,Y,h4,h5⟩⟩
def RdQ(B:Nat->Prop)(w:World)(v:Value)(sz:Nat){α:Type}(enc:α->List Value)(l:List α):Prop:=RdL w v sz enc l/\(0<l.length->∀g,v.ownBlock=some g->B g)
def RdQ.keep{enc:α->List Value}{l:List α}(h:RdQ B w v sz enc l)(k:∀i,B i->i<w.heap.size->w'.heap[i]? =w.heap[i]?)(hs:w.heap.size<=w'.heap.size):RdQ B w' v sz enc l:=by refine⟨?_,h.2⟩;obtain⟨A,cap,rfl,V,Y,h4⟩:=h.1;refine⟨A,cap,rfl,V,Y,λO=>?_⟩;obtain⟨b,off,rfl,I,hc⟩:=h4 O;have H:=h.2 O b rfl;refine⟨b,off,rfl,by omega,λi x hx j u hu=>?_⟩;rw[World.cell?_of_block (w:=w) (w':=w') (a:=⟨b,off+i*sz+j,none⟩) (k b H I)];exact hc i x hx j u hu
def RdQ.of{enc:α->List Value}{l:List α}(h:RdL w v sz enc l)(H:∀g,v.ownBlock=some g->B g):RdQ B w v sz enc l:=⟨h,λ_=>H⟩
structure eM(B:Nat->Prop)(w:World)(b:Nat)(P T:List Int):Prop where
 ok:a8 P T=0
 low:B b
 ex:∃AP cP AT cT vU vN vS vM us,Blk w b 213 (fe (.slice AP P.length cP) (.slice AT T.length cT) 1 0 vU vN vS vM)/\RdQ B w (.slice AP P.length cP) 1 encI P/\RdQ B w (.slice AT T.length cT) 1 encI T/\
  RdQ B w vN 1 encI (ao P T T.length)/\RdQ B w vS 1 encI (aZ T T.length)/\RdQ B w vM 1 encI (aH P T T.length)/\
  RdQ B w vU 1 (λv=>[v]) us/\us.length=T.length/\∀(i:Nat) (x:Int) (v:Value),T[i]? =some x->us[i]? =some v->RdQ B w v 1 encI (upL P x)
def eM.f(h:eM B w b P T):iD w b P T:=by exact aat
def eM.turns(h:eM B w b P T)(t:aa S w w')(hS:∀i∈S,¬B i):eM B w' b P T:=by have k:∀i,B i->i<w.heap.size->w'.heap[i]? =w.heap[i]?:=λi hi hl=>t.block i hl λhm=>hS i hm hi;have hs:=t.size;obtain⟨H,cP,I,O,vU,vN,vS,vM,us,h1,V,Y,h4,h5,h6,h7,h8,h9⟩:=h.ex;exact⟨h.ok,h.low,H,cP,I,O,vU,vN,vS,vM,us,(k b h.low h1.lt).trans h1,V.keep k hs,Y.keep k hs,h4.keep k hs,h5.keep k hs,h6.keep k hs,h7.keep k hs,h8,λi x v a c=>(h9 i x v a c).keep k hs⟩
def eM.size{m n:Nat}(h:eM (λi=>B i\/m<=i) w b P T)(e:m=n):eM (λi=>B i\/n<=i) w b P T:=by subst e;exact h
def lu{w1 w2:World}{H I:Option Addr}{cP cT:Nat}{vL vU vN vS vM:Value}{us:List eK}(hc:a8 P T=0)(h:js w1 w2 b (.slice H P.length cP) (.slice I T.length cT) P T vL vU vN vS vM us T.length)(hP:RdL w1 (.slice H P.length cP) 1 encI P)(hT:RdL w1 (.slice I T.length cT) 1 encI T)(nP:∀g,(Value.slice H P.length cP).ownBlock=some g->g≠b)(nT:∀g,(Value.slice I T.length cT).ownBlock=some g->g≠b)(JV:B b)(lP:∀g,(Value.slice H P.length cP).ownBlock=some g->B g)(lT:∀g,(Value.slice I T.length cT).ownBlock=some g->B g):eM (λi=>B i\/w1.heap.size<=i) (dp b 2 w2) b P T/\aa [b] w1 (dp b 2 w2):=by
  refine aji ?_;intro J5 KD k0 k1 V;have Mg:∀r∈([aq vL (ac P),aq vM (aH P T T.length),aq vN (ao P T T.length),aq vS (aZ T T.length),eZ (us.map (·.v)) vU]++us),∀g,r.v.ownBlock=some g->(B g\/w1.heap.size<=g):=λr hm g hg=> .inr ((V r hm).lt g hg).1;refine⟨⟨hc,.inl JV,H,cP,I,cT,vU,vN,vS,vM,us.map (·.v),?_,RdQ.of (hP.turns k1 (λg hg hm=>by simp at hm;exact nP g hg hm)) (λg hg=> .inl (lP g hg)),RdQ.of (hT.turns k1 (λg hg hm=>by simp at hm;exact nT g hg hm)) (λg hg=> .inl (lT g hg)),RdQ.of ?_ (Mg (aq vN (ao P T T.length)) ahF),RdQ.of ?_ (Mg (aq vS (aZ T T.length)) ahF),RdQ.of ?_ (Mg (aq vM (aH P T T.length)) ahF),RdQ.of ?_ (Mg (eZ (us.map (·.v)) vU) ahF),by simp[h.len],λi x v hi O=>?_⟩,k1⟩;. exact((h.blk.drew).set_ 2 (.int .u32 1)).set_ 3 (.int .i32 0)
  . exact dJ (V (aq vN (ao P T T.length)) ahF) (by rw[dm (Nat.le_refl _)];omega)
  . exact dJ (V (aq vS (aZ T T.length)) ahF) (by rw[gk];omega)
  . exact dJ (V (aq vM (aH P T T.length)) ahF) (by rw[cQ];omega)
  . have h1:=V (eZ (us.map (·.v)) vU) ahF;refine ajN ?_;intro e;exact h1
  . rw[List.getElem?_map]at O;cases hu:us[i]? with
    | none=>rw[hu]at O;cases O
    | some r=>rw[hu]at O;injection O with O;subst O;have LW:=h.up i x r hi hu;have Y:=V r aik;rw[LW]at Y;refine RdQ.of (dJ Y (by have:=rC P x;omega)) (λg hg=>Mg r aik g ?_);rw[LW];exact hg
def je(B:Nat->Prop)(w:World)(b:Nat)(P T:List Int)(hc:a8 P T=0)(h:ic B w b P T):E 133 #[↑b] w λe w'=>e= .returned ↑b/\eM (λi=>B i\/w.heap.size<=i) w' b P T/\aa [b] w w':=by
  have I:=h.low;obtain⟨AP,cP,AT,cT,hB,hP,hT,nP,nT,O,lT⟩:=h.ex;refine ajs ?_;intro k0 M5 LA hf
  have Y:=qh (sk b 2 ↑b w (λw2=>eM (λi=>B i\/w.heap.size<=i) (dp b 2 w2) b P T/\aa [b] w (dp b 2 w2)) (hB.cell 2) (hB.cell 3) (hB.free 2) (hB.free 3)
    (hf.mono λe w2 ⟨he,vL,vU,vN,vS,vM,us,H⟩=>⟨he,⟨H.blk.cell 2,H.blk.cell 3,H.blk.free 2,H.blk.free 3⟩,(lu hc H M5 LA nP nT I O lT).1.size ahF,k0.trans (lu hc H M5 LA nP nT I O lT).2⟩))
  clear hf M5 LA hB hP hT nP nT O lT k0 hc h I;go_enter func133,ntmps133;go_wp2_with fail;refine Y.o.mono ?_;rintro en w' ⟨rfl,w2,V,hw⟩;have HR:=qh (show eM (λi=>B i\/w.heap.size<=i) w' b P T/\aa [b] w w' by rw[hw];exact V);clear V hw;go_wp2;go_ret;exact⟨rfl,HR.o⟩
def DN(B:Nat->Prop)(w:World)(b:Nat)(P T:List Int)(hc:a8 P T=0)(i:Nat)(hi:i<T.length)(h:ic B w b P T)(x:Int)(hx:(ao P T T.length)[i]? =some x):E 100 #[↑b,J i] w λe w'=>e= returned (J x)/\eM (λi=>B i\/w.heap.size<=i) w' b P T/\aa [b] w w':=by have HF:=qh (je B w b P T hc h);have HH:=qh (wG w b P T i true (decide_eq_true ahE) (h.tab hc));have HX:=qh hx;clear h hx;go_enter func100,ntmps100;go_wp2_with fail;refine LT HH.o ?_;go_wp2_with fail;refine HF.o.mono ?_;rintro en w1 ⟨rfl,H,t1⟩;have Mn:=qh (And.intro H t1);clear t1;have V:=H.f;clear H;obtain⟨AP,cP,AT,cT,vU,vN,vS,vM,us,h1,h2,h3,I,h5,h6,h7,h8,h9⟩:=V.ex;have Y:(ao P T T.length).length=T.length:=dm (Nat.le_refl _);obtain⟨AM,cM,rfl,_,_⟩:=cJ I;obtain⟨b1,o1,hA,_,O⟩:=ip I ahE;subst hA;have q1:=O i x HX.o;have c8:=h1.cell 6;rw[Y]at *;simp only[fe]at c8;clear V h1 h2 h3 I h5 h6 h7 h8 h9 O Y;go_wp2;go_ret;exact⟨rfl,Mn.o⟩
end
section
open Go.RowKit
def uZ(w:World)(b:Nat)(P T:List Int)(R:World->Prop)(H:∀w1,R w1->iD w1 b P T)(I:E 133 #[↑b] w λe w'=>e= .returned ↑b/\R w'):E 137 #[↑b] w λe w'=>e= returned (J ((ac P).length:Nat))/\R w':=by have O:=qh I;have Y:=qh H;clear I H;go_enter func137,ntmps137;go_wp2_with fail;refine Op O.o λw' V=>?_;have Mn:=qh V.o;obtain⟨AP,cP,AT,cT,vU,vN,vS,vM,us,h1,h2,h3,h4,h5,h,h7,h8,h9⟩:=(Y.o _ V.o).ex;obtain⟨AM,cM,rfl,_,_⟩:=cJ h;have c8:=h1.cell 8;simp only[fe,cQ]at c8;clear h1 h2 h3 h4 h5 h h7 h8 h9;go_wp2;go_ret;exact⟨rfl,Mn.o⟩
def Bv(w:World)(b:Nat)(P T:List Int)(hc:a8 P T=0)(R:World->Prop)(I:∀w1,R w1->iD w1 b P T)(hf:E 133 #[↑b] w λe w'=>e= .returned ↑b/\R w')(O:(ac P)[k]? =some x):E 138 #[↑b,J k] w λe w'=>e= returned (J ((T.count x:Nat):Int))/\R w':=by
  have Y:=qh (uZ w b P T R I hf);have M2:=qh I;have KD:(ac P).length<=32:=by have h1:=(bi (aQ hc).1).2.1;have:=a7 P P.length;show(ay P P.length).length<=_;omega
  have Kx:=(List.getElem?_eq_some_iff.1 O).1
  have HX:Kq ((aH P T T.length)[k]? =some ((T.count x:Nat):Int)):=qh (by
    unfold aH
    rw[List.take_length,List.getElem?_map,O];rfl)
  obtain⟨L,H⟩:=LE ((ac P).length);rw[<-H]at Y KD Kx;have HL:=qh H;clear I hf O H hc;go_enter func138,ntmps138;go_wp2_with fail;refine Op Y.o λw1 V=>?_;have Mn:=qh V.o;have HF:=qh (eU w1 b P T (M2.o _ V.o));go_wp2_with fail;refine LT HF.o ?_;obtain⟨AP,cP,AT,cT,vU,vN,vS,vM,us,h1,h2,h3,h4,h5,h,h7,h8,h9⟩:=(M2.o _ Mn.o).ex;have hl:(aH P T T.length).length=L:=by rw[cQ];exact HL.o.symm
  obtain⟨AM,cM,rfl,_,_⟩:=cJ h;obtain⟨b1,o1,hA,_,Lc⟩:=ip h ahE;subst hA;have q1:=Lc k _ HX.o;have c8:=h1.cell 8;rw[hl]at *;simp only[fe]at c8;clear h1 h2 h3 h4 h5 h h7 h8 h9 Lc hl;go_wp2;go_ret;exact⟨rfl,Mn.o⟩
def Bu(B:Nat->Prop)(w:World)(b:Nat)(P T:List Int)(hc:a8 P T=0)(h:ic B w b P T)(H:(ac P)[k]? =some x):E 138 #[↑b,J k] w λe w'=>e= returned (J ((T.count x:Nat):Int))/\eM (λi=>B i\/w.heap.size<=i) w' b P T/\aa [b] w w':=
  Bv w b P T hc (λw'=>eM (λi=>B i\/w.heap.size<=i) w' b P T/\aa [b] w w') (λ_ h=>h.1.f) (je B w b P T hc h) H
def Bt(w:World)(b:Nat)(P T:List Int)(h:iD w b P T)(H:(ac P)[k]? =some x):E 138 #[↑b,J k] w λe w'=>e= returned (J ((T.count x:Nat):Int))/\w=w':=
  Bv w b P T h.ok (λw'=>w=w') (λ_ e=>e ▸ h) (eU w b P T h) H
def Ey(w:World)(b:Nat)(P T:List Int)(i:Nat)(hi:i<T.length)(h:iD w b P T):E 143 #[↑b,J i] w λe w'=>e= returned (J (cI T i))/\w=w':=by have V:=qh (eU w b P T h);have Y:=qh (wG w b P T i true (decide_eq_true ahE) h.tab);have HX:Kq ((aZ T T.length)[i]? =some (cI T i)):=qh (by unfold aZ;simp[hi]);have Mn:=qh h;clear h;go_enter func143,ntmps143;go_wp2_with fail;refine LT Y.o ?_;go_wp2_with fail;refine LT V.o ?_;obtain⟨AP,cP,AT,cT,vU,vN,vS,vM,us,h1,h2,h3,h4,H,h6,h7,h8,h9⟩:=Mn.o.ex;have O:(aZ T T.length).length=T.length:=gk _ _;obtain⟨AM,cM,rfl,_,_⟩:=cJ H;obtain⟨b1,o1,hA,_,I⟩:=ip H ahE;subst hA;have q1:=I i _ HX.o;have c8:=h1.cell 7;rw[O]at *;simp only[fe]at c8;clear h1 h2 h3 h4 H h6 h7 h8 h9 I O;go_wp2;go_ret;exact⟨rfl,rfl⟩
def Jm(w:World)(b:Nat)(P T:List Int)(k:Nat)(x:Int)(H:T[k]? =some x)(h:iD w b P T):E 142 #[↑b,J k] w λe w'=>∃v,e= returned v/\w'.ownsRow w.heap.size 3 1 v (upL P x).length ((upL P x).flatMap encI)/\Below w.heap.size w w':=by
  have hk:=(List.getElem?_eq_some_iff.1 H).1;have Y:=qh (wG w b P T k true (decide_eq_true ahE) h.tab);have O:=qh (eU w b P T h);have Zz:(upL P x).length<=32:=by have h1:=(bi (aQ h.ok).1).2.1;have:=rC P x;omega
  obtain⟨b1,o1,cu,A,c,c5,ZM,V,Vb,JY⟩:=h.upAt H;have HR:=qh V;clear h H V;go_enter func142,ntmps142;go_wp2_with fail;refine LT Y.o ?_;go_wp2_with fail;refine LT O.o ?_;go_wp2_with fail;refine(lE _ _ (upL P x) HR.o ahE).mono ?_;rintro en w2 ⟨v2,rfl,o2,b2⟩;have I:=qh (And.intro o2 b2);clear o2 b2;go_wp2;go_ret;exact⟨_,rfl,I.o.1,I.o.2⟩
def RdQ.lt{α:Type}{enc:α->List Value}{l:List α}(h:RdQ B w v sz enc l):RdQ (λi=>B i/\i<w.heap.size) w v sz enc l:=⟨h.1,λH g hg=>⟨h.2 H g hg,jK h.1 H hg⟩⟩
def eM.lt(h:eM B w b P T):eM (λi=>B i/\i<w.heap.size) w b P T:=by obtain⟨H,cP,I,O,vU,vN,vS,vM,us,h1,V,Y,h4,h5,h6,h7,h8,h9⟩:=h.ex;exact⟨h.ok,⟨h.low,h1.lt⟩,H,cP,I,O,vU,vN,vS,vM,us,h1,V.lt,Y.lt,h4.lt,h5.lt,h6.lt,h7.lt,h8,λi x v a c=>(h9 i x v a c).lt⟩
end
section
open Go.RowKit
def gj(P T:List Int)(n:Nat):Nat:=(fI (ac P) (T.getD n 0)).toNat
def aa.cellQ(k:aa S w w'){p:Addr}{u:Value}(h:w.cell? p=some u)(hS:p.block∉S):w'.cell? p=some u:=by exact aa3
def aa.grownByQ{row:Option Nat}(h:w.grownBy w' row):aa row.toList w w':=
 ⟨h.os,h.tape,h.output,h.size,λi hi hn=>h.block i hi aiw⟩
def rl(u:Value)(n:Nat):(madeCells #[u,u,u,u] n).toList=List.replicate n u:=by exact aaw
def vk(n:Nat):(List.replicate n Sp.zero).flatMap bf=List.replicate (n*4) (J 0):=by exact aax
theorem Tryz.infoNd:(prog.info? 243).map (λi=>(i.zero,i.size,i.bytes))=some (some (agg #[.pointer none,J 0]),2,16):=by kernel_rfl
def pZ(B:Nat->Prop)(w:World)(b:Nat)(P T:List Int)(hc:a8 P T=0)(h:ic B w b P T):E 137 #[↑b] w λe w'=>e= returned (J ((ac P).length:Nat))/\eM (λi=>B i\/w.heap.size<=i) w' b P T/\aa [b] w w':=
  uZ w b P T (λw'=>eM (λi=>B i\/w.heap.size<=i) w' b P T/\aa [b] w w') (λ_ h=>h.1.f) (je B w b P T hc h)
def kZ(w:World)(b:Nat)(P T:List Int)(h:iD w b P T):E 137 #[↑b] w λe w'=>e= returned (J ((ac P).length:Nat))/\w=w':=
  uZ w b P T (λw'=>w=w') (λ_ e=>e ▸ h) (eU w b P T h)
def coC(a b:Nat)(G L par bud:Int)(gp nd sp:Value):Array Value:=#[↑a,↑b,J G,J L,J par,J bud,gp,nd,sp]
end
section
open Go.RowKit
variable{v i u:Nat}
def mF(P:List Int)(p:Int)(k:Nat):List Int:=((List.range k).map Int.ofNat).filter λv=>decide (P.getD v.toNat 0=p)
def chL(P:List Int)(p:Int):List Int:=mF P p P.length
def nvT(P T:List Int)(v:Nat):Nat:=if chL P v=[]then max 1 (T.count (v:Int))else(chL P v).length
def plX(P:List Int)(x:Int)(k:Nat):Int:=(upL P x).getD k 0
def slX(P T:List Int)(i:Nat)(x:Int):Nat->Int
 |0=>cI T i
 |k+1=>fI (chL P (plX P x (k+1))) (plX P x k)
def cz(P T:List Int):HTr:=⟨(jd P T).toNat,T.length,P.length,λt k=>(plX P (T.getD t 0) k).toNat,λt k=>(slX P T t (T.getD t 0) k).toNat,nvT P T,λv=>(jd P T).toNat-depL P v⟩
def xV(P:List Int)(p:Int){q:Int}(h:P[k]? =some q):mF P p (k+1)=if q=p then mF P p k++[(k:Int)]else mF P p k:=by
 unfold mF;rw[List.range_succ,List.map_append,List.filter_append];show _++List.filter _ [(k:Int)]=_;have e:P.getD (k:Int).toNat 0=q:=by rw[Int.toNat_natCast,bH h]
 by_cases H:q=p;.rw[if_pos H,List.filter_cons_of_pos (by simpa only[decide_eq_true_eq,e]using H)];rfl
 .have:¬P.getD (k:Int).toNat 0=p:=by rw[e];exact H
  rw[if_neg H,List.filter_cons_of_neg (by simpa only[decide_eq_true_eq]using this)];simp
def kJ(P:List Int)(p:Int)(k:Nat):(mF P p k).length<=k:=by unfold mF;have:=List.length_filter_le (λv:Int=>decide (P.getD v.toNat 0=p)) ((List.range k).map Int.ofNat);simpa using this
def By(h:P[v]? =some p):(v:Int)∈chL P p:=by unfold chL mF;rw[List.mem_filter];have:=(List.getElem?_eq_some_iff.1 h).1;refine⟨List.mem_map.2 ⟨v,List.mem_range.2 this,rfl⟩,?_⟩;simp only[decide_eq_true_eq,Int.toNat_natCast];exact bH h
def EU{v:Int}(h:v∈chL P p):∃n:Nat,v=n/\P[n]? =some p:=by unfold chL mF at h;rw[List.mem_filter,List.mem_map]at h;obtain⟨⟨a,O,rfl⟩,H⟩:=h;have V:=List.mem_range.1 O;refine⟨a,rfl,?_⟩;simp only[decide_eq_true_eq]at H;have e:(Int.ofNat a).toNat=a:=rfl;rw[e]at H;obtain⟨q,I⟩:=ak V;rw[bH I]at H;rw[I,H]
def wL(h:eV P x=true):chL P x=[]:=by
 cases hc:chL P x with
 |nil=>rfl
 |cons a l=>obtain⟨n,rfl,H⟩:=EU (P:=P) (p:=x) (v:=a) (by rw[hc];simp);exact absurd (List.mem_of_getElem? H) (jh h).2.2
structure XAt(P T:List Int)(i:Nat)(x:Int):Prop where
 at_:T[i]? =some x
 leaf:eV P x=true
 len:(upL P x).length=(jd P T).toNat
 up:∀k,k<(jd P T).toNat->∃v:Nat,(upL P x)[k]? =some (v:Int)/\v<P.length/\plX P x k=v/\depL P v+k=(jd P T).toNat/\(upL P x).drop k=upL P v
def xAt(h:a8 P T=0)(hi:i<T.length):∃x,XAt P T i x/\T.getD i 0=x:=by
 obtain⟨x,I⟩:=ak hi;have hm:=jo (aQ h).2.2.2 I;have O:=fJ.1 hm;have a:=jh O;have d:=C0 h hm;have d':(jd P T).toNat=depL P x:=by omega
 obtain⟨h1,Y⟩:=po (aQ h).2.1 a.1 a.2.1;refine⟨x,⟨I,O,by rw[h1,d'],λk hk=>?_⟩,bH I⟩;obtain⟨u,H⟩:=ak (show k<(upL P x).length by omega);obtain⟨a1,a2,V,a4⟩:=Y k u H;obtain⟨v,rfl⟩:=Int.eq_ofNat_of_zero_le a1;exact⟨v,H,by omega,by unfold plX;rw[bH H],by omega,V⟩
section
def XAt.par(h:a8 P T=0)(a:XAt P T i x)(V:k+1<(jd P T).toNat)(O:plX P x k=v)(hu:plX P x (k+1)=u):P[v]? =some (u:Int):=by
 obtain⟨v',b1,b2,b3,b4,b5⟩:=a.up k ahE;obtain⟨u',c1,c2,c3,c4,c5⟩:=a.up (k+1) V;obtain rfl:v'=v:=by omega
 obtain rfl:u'=u:=by omega
 obtain⟨p,H⟩:=ak b2;rw[gq (aQ h).2.1 H]at b5;have e:=congrArg (λl=>l[1]?) b5;simp only[List.getElem?_drop,List.getElem?_cons_succ]at e;rw[c1]at e;by_cases I:0<=p;.obtain⟨n,rfl⟩:=Int.eq_ofNat_of_zero_le I;have Ry:=gD (aQ h).2.1 H;obtain⟨q,Y⟩:=ak (show n<P.length by omega);rw[gq (aQ h).2.1 Y]at e;simp at e;rw[H,e]
 .rw[vI ahE]at e;simp at e
def XAt.above(h:a8 P T=0)(a:XAt P T i x)(I:k+1<(jd P T).toNat):∃v u j:Nat,plX P x k=v/\plX P x (k+1)=u/\v<P.length/\u<P.length/\slX P T i x (k+1)=j/\(chL P u)[j]? =some (v:Int):=by obtain⟨v,b1,b2,b3,O,b5⟩:=a.up k ahE;obtain⟨u,c1,c2,c3,c4,c5⟩:=a.up (k+1) I;have hm:=By (a.par h I b3 c3);obtain⟨j,H⟩:=Int.eq_ofNat_of_zero_le ((eP (chL P u) v).1.2 hm);refine⟨v,u,j,b3,c3,b2,c2,?_,mR hm H⟩;show fI (chL P (plX P x (k+1))) (plX P x k)=j;rw[b3,c3];exact H
def nL(hi:T[i]? =some x)(h:i<u):(T.take i).count x<(T.take u).count x:=by
 have e:T.take u=T.take (i+1)++(T.drop (i+1)).take (u-(i+1)):=by rw[<-List.take_add];congr 1;omega
 rw[e,cj hi,List.count_append,List.count_append];simp;omega
def i7(h:a8 P T=0):(cz P T).Ok:=by
 have J5:=bi (aQ h).1;have TM:∀t,t<T.length->∀x,T.getD t 0=x->slX P T t x 0=(((T.take t).count x:Nat):Int):=λt H x hx=>by show cI T t=_;unfold cI;rw[hx]
 have hD:1<=(jd P T).toNat:=by obtain⟨x,a,_⟩:=xAt h (show 0<T.length by omega);have b:=jh a.leaf;obtain⟨h1,h2⟩:=p9 (aQ h).2.1 b.1 b.2.1;rw[<-a.len,(po (aQ h).2.1 b.1 b.2.1).1];exact h1
 refine⟨hD,λt k H V=>?_,λt k H V=>?_,λv O=>?_,λt k H V=>?_,λt u k H Y V e=>?_,λt u k H Y V e e2=>?_,λt u H Y=>?_,λt u H Y e e2=>?_⟩;.obtain⟨x,a,ex⟩:=xAt h H;obtain⟨v,b1,b2,b3,_⟩:=a.up k V;show(plX P (T.getD t 0) k).toNat<P.length;rw[ex,b3];exact b2
 .obtain⟨x,a,ex⟩:=xAt h H;show(slX P T t (T.getD t 0) k).toNat<nvT P T (plX P (T.getD t 0) k).toNat;rw[ex];cases k with
  |zero=>have a0:=jh a.leaf;obtain⟨n,rfl⟩:=Int.eq_ofNat_of_zero_le a0.1;obtain⟨v,b1,b2,b3,b4,b5⟩:=a.up 0 V;have e:plX P (n:Int) 0=n:=(by obtain⟨p,hp⟩:=ak (show n<P.length by omega);unfold plX;rw[gq (aQ h).2.1 hp];rfl);rw[e,TM t H _ ex,Int.toNat_natCast,Int.toNat_natCast];have c:=nL a.at_ (show t<T.length from H);rw[List.take_length]at c;unfold nvT;rw[if_pos (wL a.leaf)];omega
  |succ k=>obtain⟨v,u,j,b1,b2,b3,b4,b5,b6⟩:=a.above h V;rw[b5,b2,Int.toNat_natCast,Int.toNat_natCast];have:=(List.getElem?_eq_some_iff.1 b6).1;unfold nvT;rw[if_neg (λe=>by rw[e]at this;exact absurd this (Nat.not_lt_zero _))];exact this
 .show nvT P T v<=32;unfold nvT;have h1:=kJ P v P.length;have h2:=List.count_le_length (a:=(v:Int)) (l:=T);split;.omega
  .show(mF P v P.length).length<=32;omega
 .obtain⟨x,a,ex⟩:=xAt h H;obtain⟨v,b1,b2,b3,b4,_⟩:=a.up k V;show(jd P T).toNat-depL P (((plX P (T.getD t 0) k).toNat:Nat):Int)=k;rw[ex,b3,Int.toNat_natCast];omega
 .obtain⟨x,a,ex⟩:=xAt h H;obtain⟨y,b,I⟩:=xAt h Y;have JS:k+1<(jd P T).toNat:=V;obtain⟨v,b1,b2,b3,b4,b5⟩:=a.up k ahE;obtain⟨v',c1,c2,c3,c4,c5⟩:=b.up k ahE;have e':(plX P (T.getD t 0) k).toNat=(plX P (T.getD u 0) k).toNat:=e;rw[ex,I,b3,c3,Int.toNat_natCast,Int.toNat_natCast]at e';subst e';have f:(upL P x).drop k=(upL P y).drop k:=by rw[b5,c5]
  have f2:=congrArg (λl=>l[1]?) f;simp only[List.getElem?_drop]at f2;have f3:plX P x (k+1)=plX P y (k+1):=by unfold plX;rw[List.getD_eq_getElem?_getD,List.getD_eq_getElem?_getD,f2]
  constructor;.show(plX P (T.getD t 0) (k+1)).toNat=(plX P (T.getD u 0) (k+1)).toNat;rw[ex,I,f3]
  .show(fI (chL P (plX P (T.getD t 0) (k+1))) (plX P (T.getD t 0) k)).toNat=(fI (chL P (plX P (T.getD u 0) (k+1))) (plX P (T.getD u 0) k)).toNat;rw[ex,I,f3,b3,c3]
 .obtain⟨x,a,ex⟩:=xAt h H;obtain⟨y,b,I⟩:=xAt h Y;obtain⟨v,w,j,b1,b2,b3,b4,b5,b6⟩:=a.above h V;obtain⟨v',w',j',c1,c2,c3,c4,c5,c6⟩:=b.above h V;have e':(plX P (T.getD t 0) (k+1)).toNat=(plX P (T.getD u 0) (k+1)).toNat:=e;have QX:(slX P T t (T.getD t 0) (k+1)).toNat=(slX P T u (T.getD u 0) (k+1)).toNat:=e2;rw[ex,I,b2,c2,Int.toNat_natCast,Int.toNat_natCast]at e';rw[ex,I,b5,c5,Int.toNat_natCast,Int.toNat_natCast]at QX;subst e';subst QX;rw[b6]at c6;show(plX P (T.getD t 0) k).toNat=(plX P (T.getD u 0) k).toNat;rw[ex,I,b1,c1];injection c6 with c6;omega
 .obtain⟨x,a,ex⟩:=xAt h H;obtain⟨y,b,I⟩:=xAt h Y;have r:∀{i:Nat} {z:Int},XAt P T i z->plX P z ((jd P T).toNat-1)=0:=λ{i z} c=>by have q:=jh c.leaf;obtain⟨_,h2⟩:=p9 (aQ h).2.1 q.1 q.2.1;have hl:=c.len;rw[(po (aQ h).2.1 q.1 q.2.1).1]at hl;rw[hl]at h2;unfold plX;rw[bH h2]
  show(plX P (T.getD t 0) ((jd P T).toNat-1)).toNat=(plX P (T.getD u 0) ((jd P T).toNat-1)).toNat;rw[ex,I,r a,r b]
 .obtain⟨x,a,ex⟩:=xAt h H;obtain⟨y,b,I⟩:=xAt h Y;have z:∀{i:Nat} {z:Int},XAt P T i z->plX P z 0=z/\0<=z:=λ{i z} c=>by have q:=jh c.leaf;obtain⟨n,rfl⟩:=Int.eq_ofNat_of_zero_le q.1;obtain⟨p,hp⟩:=ak (show n<P.length by omega);exact⟨by unfold plX;rw[gq (aQ h).2.1 hp];rfl,q.1⟩
  have e':(plX P (T.getD t 0) 0).toNat=(plX P (T.getD u 0) 0).toNat:=e;have QX:(slX P T t (T.getD t 0) 0).toNat=(slX P T u (T.getD u 0) 0).toNat:=e2;rw[ex,I,(z a).1,(z b).1]at e';have Oc:x=y:=by have:=(z a).2;have:=(z b).2;omega
  subst Oc;rw[ex,I,TM t H _ ex,TM u Y _ I,Int.toNat_natCast,Int.toNat_natCast]at QX;rcases Nat.lt_trichotomy t u with I'|he|I'
  .have:=nL a.at_ I';omega
  .exact he
  .have:=nL b.at_ I';omega
def xi(h:a8 P T=0):(cz P T).D<=5:=by have O:=bi (aQ h).1;obtain⟨x,a,ex⟩:=xAt h (show 0<T.length by omega);have H:=(aQ h).2.2.1;unfold kN at H;rw[List.all_eq_true]at H;have I:=H x (fJ.2 a.leaf);simp only[decide_eq_true_eq]at I;have b:=jh a.leaf;have:=a.len;rw[(po (aQ h).2.1 b.1 b.2.1).1]at this;show(jd P T).toNat<=5;omega
end
end
end Go.Proofs.YtglokdbiggbkjaaGreat
