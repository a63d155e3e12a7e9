/- Joined texts. -/
import Derived.Test.YtglokdbiggbkjaaGreatMgWholeRefuses0
import Derived.Test.YtglokdbiggbkjaaGreatMgWholeRefuses1
import Derived.Test.YtglokdbiggbkjaaGreatMgWholeRefuses7
import Derived.Test.YtglokdbiggbkjaaGreatMgWholeRefuses11
import Derived.Test.YtglokdbiggbkjaaGreatMgWholeRefuses12
import Derived.Test.YtglokdbiggbkjaaGreatMgWholeRefuses24
import Derived.Test.YtglokdbiggbkjaaGreatMgWholeRefuses25
import Derived.Test.YtglokdbiggbkjaaGreatMgWholeRefuses26
set_option linter.unusedVariables false
set_option linter.unusedSimpArgs false
set_option linter.defProp false
set_option maxRecDepth 100000
set_option maxHeartbeats 16000000
open Go.Proofs.Tryz
namespace Go.Proofs.YtglokdbiggbkjaaGreat
open Go.IntKind(i64)
open Go.Value(int bool slice agg tuple pointer)
open Go.Ending(returned)
open Go.Obj(cells)
variable{P T:List Int}{k n N g a:Nat}{w w0 w':World}
section
open Go Go.RowKit
variable{gl lo pa:Nat}{bu:Int}
def Hb(h:1<=k/\k<=13):(oq P T gl lo pa bu k).1.rd=decide (11<=(k:Int)/\(k:Int)<=13):=by
 have:k=1\/k=2\/k=3\/k=4\/k=5\/k=6\/k=7\/k=8\/k=9\/k=10\/k=11\/k=12\/k=13:=by omega
 rcases this with rfl|rfl|rfl|rfl|rfl|rfl|rfl|rfl|rfl|rfl|rfl|rfl|rfl<;>rfl
def BI{W:World}{Y:Value}{I:Option Addr}{O:Nat}{gl lo pa:Int}(h:RdL W Y 1 encI P)(H:RdL W (.slice I T.length O) 1 encI T)(hc:a8 P T=0)(V:1<=k/\k<=13):E 20 #[agg #[Y,.slice I T.length O],agg #[J k,J gl,J lo,J pa,J bu]] W (m8 W (SpK k gl lo pa bu) (oq P T gl.toNat lo.toNat (mOf pa) bu k) P T):=by
  have hn:=(bi (aQ hc).1);refine Hj h H hc (Hb V) λgs a g b hA ha hg=>Hf ⟨hA,h.below b (Nat.le_refl _),H.below b (Nat.le_refl _),λi hi=>?_,λi hi=>?_,hc⟩ V;. have:=jK h ahE hi;have:=b.size;omega
  . have:=jK H ahE hi;have:=b.size;omega
def jn(k n i:Nat):(sv (a5 k n) i).pc=0/\(sv (List.replicate n Sp.zero) i).pc=0:=by
 have h:(sv (List.replicate n Sp.zero) i).pc=0:=by exact abB
 refine⟨?_,h⟩;unfold a5;split;.unfold sv;rw[List.getD_eq_getElem?_getD,List.getElem?_map];cases(List.range n)[i]?<;>rfl
 .exact h
def Ih(hc:a8 P T=0)(Y:1<=k/\k<=13)(O:k=6\/11<=k->1<=gl/\gl<=5)(I:k=6\/11<=k->1<=lo/\lo<=5)(V:1<=pa/\pa<=1024):(oq P T gl lo pa bu k).1.Seen/\∀i<T.length,((oq P T gl lo pa bu k).1.sp (oq P T gl lo pa bu k).2 i).pc=0:=by
 have hN:1<=(ac P).length:=by have:=(bi (aQ hc).1);have h1:=eh hc (i:=0) ahE;omega
 have H:=fun(h:k=6\/11<=k)=>DO (bud:=bu) (s:=dD 4096) hc (O h) (I h) V rfl hN;have:(k=1\/k=2\/k=3\/k=4\/k=5)\/k=6\/k=7\/k=8\/k=9\/k=10\/k=11\/k=12\/k=13:=by omega
 rcases this with h|rfl|rfl|rfl|rfl|rfl|rfl|rfl|rfl
 .have e:oq P T gl lo pa bu k=DL P T k pa:=if_pos ahE;rw[e];exact⟨Id ahE,λi _=>(jn k T.length i).1⟩
 .exact⟨Ic _ _ _ _,λi _=>(jn 0 T.length i).2⟩
 .exact⟨If _ (i7 hc) _,λi _=>(jn 0 T.length i).2⟩
 .exact⟨Ie _ _ _,λi _=>(jn 0 T.length i).2⟩
 .exact⟨Ib _ _ _,λi _=>(jn 0 T.length i).2⟩
 .exact⟨Ig _ _,λi _=>(jn 0 T.length i).2⟩
 .exact⟨BW (tE (H (.inr ahE))) (Ii _ _ _ _),λi _=>(jn 0 T.length i).2⟩
 .exact⟨BW (tG (H (.inr ahE))) (Ij _ _ _ _),λi _=>(jn 0 T.length i).2⟩
 .exact⟨BW (tI (H (.inr ahE))) (Ik _ _ _ _),λi _=>(jn 0 T.length i).2⟩
end
section
open Go Go.RowKit
def F6(h:Awk 41)(w:World)(O V:Value)(k gl lo pa bu:Int)(A:Option Addr)(m c:Nat)(h1:120<m)(h2:m<=9223372036854775807):E 7 #[agg #[O,V],agg #[J k,J gl,J lo,J pa,J bu],.slice A m c] w λe w'=>e= returned (bool true)/\Below w.heap.size w w':=by have H:=qh (((Below.refl w.heap.size w).alloc (Nat.le_refl _) (cells #[O,V] 24)).alloc ahF (cells #[J k,J gl,J lo,J pa,J bu] 38));have Y:=qh h;clear h;go_enter func7,ntmps7;go_wp2_with fail;refine Op (Y.o _) λw1 I=>?_;have H1:=qh (H.o.trans (I.o.mono H.o.size));go_wp2;go_ret;exact⟨rfl,H1.o⟩
def rG(w:World)(vP vT:Value):Prop:=∀W,Below w.heap.size w W->E 40 #[agg #[vP,vT]] W λe w'=>e= returned (bool false)/\Below W.heap.size W w'
def rG.of{H I:Value}(O:RdL w H 1 encI P)(V:RdL w I 1 encI T)(h:uA P T=false):rG w H I:=λW b=>wD W H I P T false h (O.below b (Nat.le_refl _)) (V.below b (Nat.le_refl _))
def rG.raw(w:World)(A B:Option Addr)(n c m d:Nat)(h:60<n\/60<m)(I:n<=9223372036854775807)(hm:m<=9223372036854775807):rG w (.slice A n c) (.slice B m d):=by
 intro W _;go_enter func40,ntmps40;by_cases h1:n<=60
 .have H:60<m:=by omega
  clear h;go_wp2;go_ret;exact⟨aA ahJ,(Below.refl _ _).alloc (Nat.le_refl _) _⟩
 .clear h;exact acK
def IR(V:Awk 41)(w:World)(h H:Value)(k gl lo pa bu:Int)(hs:rG w h H)(A:Option Addr)(m c:Nat)(hm:m<=120):E 7 #[agg #[h,H],agg #[J k,J gl,J lo,J pa,J bu],.slice A m c] w λe w'=>e= returned (bool true)/\Below w.heap.size w w':=by obtain⟨w0,I⟩:=LE ((w.alloc (cells #[h,H] 24)).alloc (cells #[J k,J gl,J lo,J pa,J bu] 38));have O:=qh (show Below w.heap.size w w0 from by rw[I];exact((Below.refl w.heap.size w).alloc (Nat.le_refl _) _).alloc ahF _);have HX:=qh (show Blk w0 w.heap.size 24 #[h,H]from by rw[I];exact(Blk.new w 24 #[h,H]).alloc _);have HS:=qh hs;have HA:=qh V;clear hs V;go_enter func7,ntmps7;go_upto_region 1 with fail;rw[<-I];clear I;have f0:w0.cell? w.heap.size=some h:=HX.o.cell 0;have f1:Z w0 w.heap.size 1 H:=HX.o.cell 1;go_wp2_with fail;refine Op (HS.o _ O.o) λw2 b2=>?_;have Y:=qh (O.o.trans (b2.o.mono O.o.size));go_wp2_with fail;refine Op (HA.o _) λw3 b3=>?_;have Ww:=qh (Y.o.trans (b3.o.mono Y.o.size));go_wp2;go_ret;exact⟨rfl,Ww.o⟩
structure WrR{n:Nat}{M:LkM n}(X:WoB M)(w0 w:World)(sb ab eb:Nat)(st:M.σ)(N:Nat)(L:List (Int×Bool))(ev:Ev)(v:Value)(ws:List Int):Prop where
 is:WoIs X w st
 ok:M.ok st N
 sh:gc w sb ab L
 bel:Below w0.heap.size w0 w
 evb:Blk w eb 55 (evC ev)
 wd:RdL w v 1 encI ws
 nw:∀q,v.ownBlock=some q->q≠ab
 ne:eb≠ab
 lo:X.hi<=sb/\X.hi<=ab/\w0.heap.size<=ab
section
variable{M:LkM n}{X:WoB M}{sb ab eb:Nat}{st st':M.σ}{L L':List (Int×Bool)}{ev:Ev}{v:Value}{ws:List Int}
def WrR.below(G:M.Good)(h:WrR X w0 w sb ab eb st N L ev v ws)(t:Below w.heap.size w w'):WrR X w0 w' sb ab eb st N L ev v ws:=
 ⟨h.is.below G t,h.ok,h.sh.below t,h.bel.trans (t.mono h.bel.size),h.evb.below t h.evb.lt,h.wd.below t (Nat.le_refl _),h.nw,h.ne,h.lo⟩
def WrR.act(G:M.Good)(h:WrR X w0 w sb ab eb st N L ev v ws)(t:aa [ab] w w')(s:gc w' sb ab L'):WrR X w0 w' sb ab eb st N L' ev v ws:=
 ⟨h.is.far G t (λx H=>by simp at H;subst H;exact h.lo.2.1),h.ok,s,h.bel.trans (t.below (λi hi=>by simp at hi;subst hi;exact h.lo.2.2) h.bel.size),t.blk h.evb (by simpa using h.ne),h.wd.farT t (λq I=>by simpa using h.nw q I),h.nw,h.ne,h.lo⟩
def WrR.evc(h:WrR X w0 w sb ab eb st N L ev v ws):w.cell? eb=some (J ev.kind)/\Z w eb 1 (J ev.thread)/\Z w eb 2 (.bool ev.read)/\Z w eb 3 (J ev.count):=⟨h.evb.cell 0,h.evb.cell 1,h.evb.cell 2,h.evb.cell 3⟩
structure WrS(X:WoB M)(w0 w:World)(sb ab:Nat)(st:M.σ)(N:Nat):Prop where
 is:WoIs X w st
 ok:M.ok st N
 sh:gc w sb ab (M.view st)
 bel:Below w0.heap.size w0 w
 lo:X.hi<=sb/\X.hi<=ab/\w0.heap.size<=ab
end
def IN{M:LkM n}{st:M.σ}(h:∀i<n,(M.sp st i).pc=0):M.view st=List.replicate n (0,false):=by
 apply List.ext_getElem?;intro j;rw[List.getElem?_replicate];split;.rename_i H;rw[jY H,tB (h j H)];unfold LkM.stt;rw[h j H];rfl
 .exact List.getElem?_eq_none (by simpa[LkM.view]using by omega)
end
section
open Go Go.RowKit
theorem IS(AW:Awk 41)(w:World)(vP:Value)(AT:Option Addr)(cT:Nat)(P T:List Int)(hP:RdL w vP 1 encI P)(hT:RdL w (.slice AT T.length cT) 1 encI T)(k gl lo pa bu:Int)(hs:uA P T=true)(v:Value)(ls:List (Int×Int))(h:RdL w v 2 qD ls)(hm:ls.length<=120):E 7 #[agg #[vP,.slice AT T.length cT],agg #[J k,J gl,J lo,J pa,J bu],v] w λe w'=>e= returned (bool true)/\Below w.heap.size w w':=by
  obtain⟨A,cap,rfl,l1,l2,V⟩:=h;have HR:=qh V;obtain⟨w0,C'⟩:=LE ((w.alloc (cells #[vP,.slice AT T.length cT] 24)).alloc (cells #[J k,J gl,J lo,J pa,J bu] 38));have J':=qh (show Below w.heap.size w w0 from by rw[C'];exact((Below.refl w.heap.size w).alloc (Nat.le_refl _) _).alloc ahF _);have hX:=show Blk w0 w.heap.size 24 #[vP,.slice AT T.length cT]from by rw[C'];exact(Blk.new w 24 #[vP,.slice AT T.length cT]).alloc _
  have MK:=show Blk w0 (w.heap.size+1) 38 #[J k,J gl,J lo,J pa,J bu]from by rw[C'];exact Blk.new' _ 38 _ ahF
  have Ua:=qh (wD w0 vP _ P T true hs (hP.below J'.o (Nat.le_refl _)) (hT.below J'.o (Nat.le_refl _)))
  have HC:=qh (λW (b:Below w0.heap.size w0 W)=>show W.cell? w.heap.size=some vP/\Z W w.heap.size 1 (.slice AT T.length cT)/\Z W (w.heap.size+1) 0 (J k)/\Z W (w.heap.size+1) 1 (J gl)/\Z W (w.heap.size+1) 2 (J lo)/\Z W (w.heap.size+1) 3 (J pa)/\W.cell? ⟨w.heap.size+1,4,none⟩=some (J bu)from
    ⟨(hX.below b hX.lt).cell 0,(hX.below b hX.lt).cell 1,(MK.below b MK.lt).cell 0,(MK.below b MK.lt).cell 1,(MK.below b MK.lt).cell 2,(MK.below b MK.lt).cell 3,(MK.below b MK.lt).cell 4⟩)
  have Lj:=qh (λW (b:Below w0.heap.size w0 W)=>And.intro (hP.below (J'.o.trans (b.mono J'.o.size)) (Nat.le_refl _)) (hT.below (J'.o.trans (b.mono J'.o.size)) (Nat.le_refl _)));have No:=qh (λgs=>ov gs k);have QG:=qh AW;clear V hP hT hs AW hX MK;go_enter func7,ntmps7;go_upto_region 1 with fail;rw[<-C'];clear C';obtain⟨f0,f1,f2,f3,f4,f5,f6⟩:=HC.o _ (Below.refl _ _);go_wp2_with fail;refine Op Ua.o λw1 K=>?_;clear f0 f1 f2 f3 f4 f5 f6 Ua;obtain⟨f0,f1,f2,f3,f4,f5,f6⟩:=HC.o _ K.o;by_cases O:(1<=k/\k<=13)/\a8 P T=0
  case neg=>
    have OM:=qh (BH (W:=w1) (k:=k) (gl:=gl) (lo:=lo) (pa:=pa) (bu:=bu) (Lj.o _ K.o).1 (Lj.o _ K.o).2 O);have JX:=qh (λW (b:Below w0.heap.size w0 W)=>eR W vP (.slice AT T.length cT) P T (Lj.o _ b).1 (Lj.o _ b).2);have L4:=qh (fun(h:¬(1<=k/\k<=13))=>sY k h);obtain⟨ck,M8⟩:=LE (a8 P T);rw[<-M8]at JX O;obtain⟨nm,N6⟩:=LE (jH k);rw[<-N6]at No L4;clear M8 N6;go_wp2_with fail;refine OM.o.mono ?_;rintro en w2 ⟨c,hc,rfl,b2⟩;have K2:=qh (K.o.trans (b2.mono K.o.size));have tc:(c !=0)=true:=(by simpa using hc);clear b2 f0 f1 f2 f3 f4 f5 f6 hc;obtain⟨f0,f1,f2,-,-,-,-⟩:=HC.o _ K2.o;go_wp2_with fail;refine Op (JX.o _ K2.o) λw3 b3=>?_;have K3:=qh (K2.o.trans (b3.o.mono K2.o.size));clear f0 f1 f2;obtain⟨f0,f1,f2,-,-,-,-⟩:=HC.o _ K3.o;by_cases hc0:ck=0;. have Zs:(ck !=0)=false:=(by simpa using hc0);have N5:nm.toList.isEmpty=true:=(by rw[L4.o (λq=>O ⟨q,hc0⟩)];simp[ByteArray.toList,ByteArray.toList.loop,ByteArray.size]);clear O hc0;go_wp2_with fail;refine Op (No.o _) λw4 b4=>?_;have K4:=qh (K3.o.trans (b4.o.mono K3.o.size));clear f0 f1 f2;go_wp2_with fail;refine Op (QG.o _) λw5 b5=>?_;have K5:=qh (J'.o.trans ((K4.o.trans (b5.o.mono K4.o.size)).mono J'.o.size));go_wp2;go_ret;exact⟨rfl,K5.o⟩
    . have Zs:(ck !=0)=true:=(by simpa using hc0);clear O hc0;go_wp2_with fail;refine Op (QG.o _) λw5 b5=>?_;have K5:=qh (J'.o.trans ((K3.o.trans (b5.o.mono K3.o.size)).mono J'.o.size));go_wp2;go_ret;exact⟨rfl,K5.o⟩
  obtain⟨kn,rfl⟩:=Int.eq_ofNat_of_zero_le (show 0<=k by omega);have Rj:1<=kn/\kn<=13:=by omega
  have OM:=qh (BI (W:=w1) (k:=kn) (gl:=gl) (lo:=lo) (pa:=pa) (bu:=bu) (Lj.o _ K.o).1 (Lj.o _ K.o).2 O.2 Rj);have JX:=qh (λW (b:Below w0.heap.size w0 W)=>O.2 ▸ eR W vP (.slice AT T.length cT) P T (Lj.o _ b).1 (Lj.o _ b).2);have ME:=qh (show ¬(jH kn).toList=[]from uY kn Rj);have QQ:=qh (fun(h:SpK kn gl lo pa bu)=>Ih (P:=P) (T:=T) (gl:=gl.toNat) (lo:=lo.toNat) (pa:=mOf pa) (bu:=bu) O.2 Rj (λq=>(SpK.two h q).1.nat) (λq=>(SpK.two h q).2.1.nat) (iw pa));obtain⟨nm,N6⟩:=LE (jH (kn:Int));rw[<-N6]at No ME;have N5:nm.toList.isEmpty=false:=by simpa using ME.o
  obtain⟨ms,Vx⟩:=LE (oq P T gl.toNat lo.toNat (mOf pa) bu kn);rw[<-Vx]at OM QQ;obtain⟨C,hC⟩:=LE (SpK kn gl lo pa bu);rw[<-hC]at OM QQ;clear N6 Vx hC O Rj;go_wp2_with fail;refine OM.o.mono ?_;rintro en w2 ⟨pp,c,rfl,h0,hW,OB,b2⟩;have K2:=qh (K.o.trans (b2.mono K.o.size));clear b2 f0 f1 f2 f3 f4 f5 f6;obtain⟨f0,f1,f2,-,-,-,-⟩:=HC.o _ K2.o;go_wp2_with fail;refine Op (JX.o _ K2.o) λw3 b3=>?_;have B3:=qh b3.o;have K3:=qh (K2.o.trans (b3.o.mono K2.o.size));clear f0 f1 f2;obtain⟨f0,f1,f2,-,-,-,-⟩:=HC.o _ K3.o;go_wp2_with fail;refine Op (No.o _) λw4 b4=>?_;have B4:=qh (B3.o.trans (b4.o.mono B3.o.size));have K4:=qh (K3.o.trans (b4.o.mono K3.o.size));clear f0 f1 f2;by_cases hc0:c=0;case neg=>obtain rfl:pp=none:=OB hc0;have tc:(c !=0)=true:=(by simpa using hc0);clear hc0 h0 hW OB;go_wp2_with fail;refine Op (QG.o _) λw5 b5=>?_;have K5:=qh (J'.o.trans ((K4.o.trans (b5.o.mono K4.o.size)).mono J'.o.size));go_wp2;go_ret;exact⟨rfl,K5.o⟩
  obtain⟨hC,X,lb,i',hG,mP,My,JL,TE,RG,-⟩:=hW hc0;obtain rfl:(0:Int)=c:=hc0.symm;obtain rfl:pp=some ⟨X.wb,0,none⟩:=by injection i' with e;injection e with e;simp[lkP]at e;exact e
  have H:=qh hG;have HV:=qh (QQ.o hC);have WG:=qh (show ∀x∈ms.1.fp X.b,w0.heap.size<=x from λx hx=>Nat.le_trans K.o.size (JL x hx));have H2:=qh (And.intro (My.below hG B4.o) mP);clear hG mP My JL TE RG hC hc0 h0 hW OB QQ i';obtain⟨f0,f1,-,-,-,-,-⟩:=HC.o _ K4.o;go_wp2_with fail;refine(Hi w4 T.length H.o.n32.1 H.o.n32.2).mono ?_;rintro en w5 ⟨sb,ab,rfl,VO,Kr,JD,b5⟩
  have H0:=qh (show WrS X w0 w5 sb ab ms.2 0 from by
    refine⟨H2.o.1.below H.o b5,H2.o.2,?_,K4.o.trans (b5.mono K4.o.size),?_⟩;. rw[IN HV.o.2];exact VO
    . have:=H2.o.1.hw.2.2;have:=K4.o.size;omega)
  have VY:w.heap.size<=w0.heap.size:=J'.o.size;clear VO Kr JD b5 f0 f1 OM K;go_wp2;go_loopw [10,11,12,13,14] (λi _ _ _ _ wr=>∃(k:Nat) (x:ms.1.σ),i= J k/\k<=ls.length/\WrS X w0 wr sb ab x k) (λi _ _ _ _ _=>ls.length-(intOf i).toNat);case atStart=>exact⟨0,ms.2,rfl,by omega,H0.o⟩
  case round=>
    clear H0;obtain⟨k,x,rfl,hk,hW⟩:=hrel;obtain⟨wo,rfl⟩:∃wo:World,wo=wr:=⟨_,rfl⟩;have Y:=qh hW;clear hW;by_cases I':k<ls.length
    . obtain⟨bl,off,rfl,Ki,hc⟩:=HR.o ahE;obtain⟨⟨t,kd⟩,hx⟩:=ak I';have Ud:Kq (∀W,Below w0.heap.size w0 W->Z W bl (off+k*2) (J t)/\Z W bl (off+k*2+1) (J kd)):=qh λW hW=>by have UZ:=J'.o.trans (hW.mono VY);exact⟨(UZ.cell (p:=⟨bl,off+k*2+0,none⟩) Ki).trans (hc k _ hx 0 _ rfl),(UZ.cell (p:=⟨bl,off+k*2+1,none⟩) Ki).trans (hc k _ hx 1 _ rfl)⟩
      clear hc hx;have hN:k<lkB:=(by unfold lkB;omega);have NQ:k+1<lkB:=(by unfold lkB;omega);have HP:=qh (And.intro (DR H.o HV.o.1 Y.o.ok hN NQ (t,kd)) (H.o.pick Y.o.ok hN (t,kd)));have HD:=qh (λW (h:WoIs X W x)=>doW H.o h Y.o.ok hN (t,kd));have Kv:=qh (fun(h:¬(0<=t/\t<(T.length:Int)))=>show ms.1.pick x (t,kd)=(⟨0,0,false,0⟩,x)from by unfold LkM.pick;exact if_neg h);obtain⟨⟨⟨ek,et,er,ec⟩,x'⟩,Qm⟩:∃q,q=ms.1.pick x (t,kd):=⟨_,rfl⟩;rw[<-Qm]at HP HD Kv;unfold evV at HD;simp only at HP HD;clear Qm;have YD:=(H.o.ais _ _ _ _ _ _ Y.o.is.is).ops;have JA:=Y.o.is.hw.2.2;unfold lkP at *;go_wp2_with fail;refine LT (Hy H.o Y.o.is) ?_;go_wp2_with fail;refine(Ct H.o Y.o.is).mono ?_;rintro en w2 ⟨wv,rfl,Pp,V3,b2⟩;have K3:=qh (And.intro (Y.o.is.below H.o b2) (And.intro (Y.o.sh.below b2) (And.intro (Y.o.bel.trans (b2.mono Y.o.bel.size)) (And.intro Pp V3))));clear Pp V3 b2;obtain⟨c0,c1⟩:=Ud.o _ K3.o.2.2.1;go_wp2_with fail;refine(HD.o _ K3.o.1).mono ?_;rintro en w5 ⟨rfl,k5,t5⟩
      have H6:=qh (show WrR X w0 (w5.alloc (cells #[J ek,J et,.bool er,J ec] 55)) sb ab w5.heap.size x' (k+1) (ms.1.view x) ⟨ek,et,er,ec⟩ wv (ms.1.ar x).W from by
        obtain⟨ki,ks,kb,kd,ko⟩:=K3.o;have JV:=Y.o.lo;have JD:=ks.row.lt;have MU:=t5.size;have SL:=ki.lo H.o;have hh:=Y.o.is.hw.2.2;have b6:=(Below.refl w5.heap.size w5).alloc (Nat.le_refl _) (cells #[J ek,J et,.bool er,J ec] 55);have s5:=ks.far t5 (λm=>by have:=SL _ m;omega) (λm=>by have:=SL _ m;omega);have d5:=kd.farT t5 (λq hq m=>by have:=ko q hq;have:=SL _ m;omega);refine⟨k5.below H.o b6,HP.o.2.1,s5.below b6,(kb.trans (t5.below (λi hi=>WG.o i hi) kb.size)).trans (b6.mono (by have:=kb.size;omega)),Blk.new _ _ _,d5.below b6 (Nat.le_refl _),λq hq e=>?_,by omega,JV⟩;have:=ko q hq;have:=Y.o.sh.row.lt
        omega)
      have HQ:=qh (And.intro HP.o.1.1 (And.intro HP.o.1.2 (And.intro HP.o.2.2.1 HP.o.2.2.2)));obtain⟨w6,TD⟩:=LE (w5.alloc (cells #[J ek,J et,.bool er,J ec] 55));rw[<-TD]at H6
      have OO:=qh (λW L' (h:WrR X w0 W sb ab w5.heap.size x' (k+1) L' ⟨ek,et,er,ec⟩ wv (ms.1.ar x).W)=>show W.cell? w5.heap.size=some (J ek)/\Z W w5.heap.size 1 (J et)/\Z W w5.heap.size 2 (.bool er)/\Z W w5.heap.size 3 (J ec)/\(Z W bl (off+k*2) (J t)/\Z W w.heap.size 1 (.slice AT T.length cT))from
        ⟨h.evc.1,h.evc.2.1,h.evc.2.2.1,h.evc.2.2.2,(Ud.o _ h.bel).1,(HC.o _ h.bel).2.1⟩)
      have Su:=qh TD;clear k5 t5 c0 c1 HP TD;obtain⟨o1,O5⟩:∃o:Int,o=((ms.1.ar x).ops:Int):=⟨_,rfl⟩;obtain⟨o2,O6⟩:∃o:Int,o=((ms.1.ar x').ops:Int):=⟨_,rfl⟩;have xo:IntKind.i64.wrap (o1+1)=o1+1:=IntWalk.i64_in _ ahE;have t6:decide (o2>o1+1)=false:=decide_eq_false (by have:=HQ.o.2.2.1;omega);have QL:=qh (λW (h:WrR X w0 W sb ab w5.heap.size x' (k+1) (ms.1.view x) ⟨ek,et,er,ec⟩ wv (ms.1.ar x).W)=>I2 h.sh HQ.o.1);unfold evV at QL;have Nq:=qh (λW L' (h:WrR X w0 W sb ab w5.heap.size x' (k+1) L' ⟨ek,et,er,ec⟩ wv (ms.1.ar x).W)=>Hy H.o h.is);unfold lkP at Nq;rw[<-O6]at Nq;rw[<-O5];have HO:=qh (And.intro O5 O6);clear O5 O6 YD;obtain⟨c0,c1,c2,c3,c4,c5⟩:=OO.o _ _ H6.o
      have HM:=qh (show ∀W,WrR X w0 W sb ab w5.heap.size x' (k+1) (ms.1.view x) ⟨ek,et,er,ec⟩ wv (ms.1.ar x).W->ms.1.ar x'=ms.1.ar x->E 24 #[↑X.wb] W λe w'=>∃v8,e= returned v8/\RdL w' v8 1 encI (ms.1.ar x).W/\WrR X w0 w' sb ab w5.heap.size x' (k+1) (ms.1.view x) ⟨ek,et,er,ec⟩ wv (ms.1.ar x).W from λW h he=>by
        have:=Ct H.o h.is;rw[he]at this;refine this.mono ?_;rintro e w' ⟨v8,rfl,d8,-,b8⟩
        exact⟨v8,rfl,d8,h.below H.o b8⟩)
      by_cases Me:0<=t/\t<(T.length:Int)
      case neg=>
        have e9:=Kv.o Me;injection e9 with e9 ex;injection e9 with e1 e2 e3 e4;subst e1 e2 e3 e4 ex;obtain rfl:o2=o1:=by rw[HO.o.1,HO.o.2]
        have Sb:=qh (λW h=>HM.o W h rfl)
        have YE:decide (t<0)=true\/decide (t<0)=false/\decide (t >= (T.length:Int))=true:=by
          rcases Classical.em (t<0)with q|q
          . exact .inl (decide_eq_true q)
          . exact .inr ⟨decide_eq_false q,decide_eq_true ahE⟩
        clear Me;rcases YE with q1|⟨q1,q2⟩
        all_goals
          go_wp2_with fail;rw[<-Su.o];go_quiet (fail);have K7:=qh (H6.o.below H.o (Qt.below ⟨nq,rfl⟩ _));clear c0 c1 c2 c3 c4 c5;obtain⟨c0,c1,c2,c3,c4,c5⟩:=OO.o _ _ K7.o;go_wp2_with fail;refine LT (Nq.o _ _ K7.o) ?_;go_wp2_with fail;refine(Sb.o _ K7.o).mono ?_;rintro en w8 ⟨v8,rfl,d8,k8⟩;have Nt:=qh (mA _ v8 wv _ _ d8 k8.wd);rw[decide_eq_true rfl]at Nt;have K8:=qh k8;clear d8 k8;go_wp2_with fail;refine Op Nt.o λw9 q9=>?_;have K9:=qh (K8.o.below H.o (q9.o.below _));clear Nt c0 c1 c2 c3 c4 c5;obtain⟨c0,c1,c2,c3,c4,c5⟩:=OO.o _ _ K9.o;go_wp2_with fail;refine Op (QL.o _ K9.o) λwa sa=>?_;have I:=qh (K9.o.act H.o sa.o.2 sa.o.1);clear c0 c1 c2 c3 c4 c5;go_wp2_with fail;refine LT (Nq.o _ _ I.o) ?_;go_wp2;go_roundw;case rel=>exact⟨k+1,_,by go_num,by omega,⟨I.o.is,I.o.ok,I.o.sh,I.o.bel,I.o.lo⟩⟩
          case measure=>simp[intOf];omega
      have q1:decide (t<0)=false:=decide_eq_false ahE;have q2:decide (t >= (T.length:Int))=false:=decide_eq_false ahE;by_cases h5:ek=5
      . subst h5;have SJ:=HQ.o.2.2.2 (.inl rfl);obtain rfl:o2=o1:=by rw[HO.o.1,HO.o.2,SJ]
        have Sb:=qh (λW h=>HM.o W h SJ);clear SJ Me
        . go_wp2_with fail;rw[<-Su.o];go_quiet (fail);have K7:=qh (H6.o.below H.o (Qt.below ⟨nq,rfl⟩ _));clear c0 c1 c2 c3 c4 c5;obtain⟨c0,c1,c2,c3,c4,c5⟩:=OO.o _ _ K7.o;go_wp2_with fail;refine LT (Nq.o _ _ K7.o) ?_;go_wp2_with fail;refine(Sb.o _ K7.o).mono ?_;rintro en w8 ⟨v8,rfl,d8,k8⟩;have Nt:=qh (mA _ v8 wv _ _ d8 k8.wd);rw[decide_eq_true rfl]at Nt;have K8:=qh k8;clear d8 k8;go_wp2_with fail;refine Op Nt.o λw9 q9=>?_;have K9:=qh (K8.o.below H.o (q9.o.below _));clear Nt c0 c1 c2 c3 c4 c5;obtain⟨c0,c1,c2,c3,c4,c5⟩:=OO.o _ _ K9.o;go_wp2_with fail;refine Op (QL.o _ K9.o) λwa sa=>?_;have I:=qh (K9.o.act H.o sa.o.2 sa.o.1);clear c0 c1 c2 c3 c4 c5;go_wp2_with fail;refine LT (Nq.o _ _ I.o) ?_;go_wp2;go_roundw;case rel=>exact⟨k+1,x',by go_num,by omega,⟨I.o.is,I.o.ok,I.o.sh,I.o.bel,I.o.lo⟩⟩
          case measure=>simp[intOf];omega
      . have u5:(ek==5)=false:=(by simpa using h5);clear h5 Me
        . go_wp2_with fail;rw[<-Su.o];go_quiet (fail);have K7:=qh (H6.o.below H.o (Qt.below ⟨nq,rfl⟩ _));clear c0 c1 c2 c3 c4 c5;obtain⟨c0,c1,c2,c3,c4,c5⟩:=OO.o _ _ K7.o;go_wp2_with fail;refine Op (QL.o _ K7.o) λwa sa=>?_;have I:=qh (K7.o.act H.o sa.o.2 sa.o.1);clear c0 c1 c2 c3 c4 c5;go_wp2_with fail;refine LT (Nq.o _ _ I.o) ?_;go_wp2;go_roundw;case rel=>exact⟨k+1,x',by go_num,by omega,⟨I.o.is,I.o.ok,I.o.sh,I.o.bel,I.o.lo⟩⟩
          case measure=>simp[intOf];omega
    . obtain rfl:k=ls.length:=by omega
      go_wp2_with fail;refine Op (QG.o _) λw2 b2=>?_;have HF:=qh (J'.o.trans ((Y.o.bel.trans (b2.o.mono Y.o.bel.size)).mono J'.o.size));go_wp2;go_ret;exact⟨rfl,HF.o⟩
end
section
open Go Go.RowKit
def BP(w:World)(t:TypeId)(l:List Int){cs:Array Value}(hg:Blk w g t cs)(hc:cs=(l.map (Value.int .i64)).toArray)(h:l.length<=1000):RdL w (slice (some ⟨g,0,none⟩) l.length l.length) 1 encI l:=by
 subst hc;refine⟨some ⟨g,0,none⟩,l.length,rfl,Nat.le_refl _,by omega,λ_=>⟨g,0,rfl,hg.lt,λi x I j u H=>?_⟩⟩;rw[hg.cell];match j,H with
 |0,H=>
  obtain rfl:Value.int .i64 x=u:=by simpa[encI]using H
  simp[List.getElem?_map,I]
 |k+1,H=>simp[encI]at H
section
variable{M:LkM n}{b:M.β}{lb:Nat}{st:M.σ}
end
end
section
open Go Go.RowKit
abbrev Ptp:List Int:=[-1,0,0]
abbrev Ttp:List Int:=[1,1,2,2]
abbrev fd:MS Ttp.length:=oq Ptp Ttp 2 4 1 1 6
abbrev gB:List (Int×Int):=[(0,1),(0,0),(0,0),(0,0),(0,0),(0,0),(0,0),(0,0),(0,2),(3,1),(0,0),(0,0),(0,0),(0,0),(0,0),(0,0),(3,0),(3,0),(3,0),(3,0),(3,0),(3,0),(3,0)]
abbrev IP:List Int:=[1,2,3,1,4,2]
def yf(k:Nat):Int:=(fd.1.pick (fd.1.runA fd.2 gB k) (gB.getD k (0,0))).1.kind
def mE(k:Nat):Nat:=((List.range k).filter λj=>decide (yf j≠0)).length
def IZ:a8 Ptp Ttp=0:=by decide+kernel
def El:((List.range 23).all λk=>decide (yf k=0\/(mE k<6/\IP[mE k]? =some (yf k))))=true/\mE 23=6:=by decide+kernel
def xz(k:Nat):mE (k+1)=if yf k=0 then mE k else mE k+1:=by
 unfold mE;rw[List.range_succ,List.filter_append,List.length_append];by_cases h:yf k=0;.rw[if_pos h];simp[h]
 .rw[if_neg h];simp[h]
def IL(w:World):E 81 #[] w λe w'=>∃h H,e= returned (agg #[slice (some ⟨h,0,none⟩) Ptp.length Ptp.length,slice (some ⟨H,0,none⟩) Ttp.length Ttp.length])/\RdL w' (slice (some ⟨h,0,none⟩) Ptp.length Ptp.length) 1 encI Ptp/\RdL w' (slice (some ⟨H,0,none⟩) Ttp.length Ttp.length) 1 encI Ttp/\Below w.heap.size w w':=by
 go_enter func81,ntmps81;go_wp2;refine bodyPost_ret (v:= agg #[slice (some ⟨w.heap.size+1,0,none⟩) 3 3,slice (some ⟨w.heap.size+1+1,0,none⟩) 4 4]) (by simp[results,Tryz.results81,go_sem]) rfl ⟨_,_,rfl,?_,?_,?_⟩;.exact BP _ 3 Ptp ((Blk.new' _ _ _ ahF).alloc _) rfl ahG
 .exact BP _ 3 Ttp (Blk.new' _ _ _ ahF) rfl ahG
 .exact(((Below.refl _ _).alloc (Nat.le_refl _) _).alloc (by simp<;>omega) _).alloc (by simp<;>omega) _
structure TpS(X:WoB fd.1)(w0 w:World)(g3:Nat)(k:Nat):Prop where
 is:WoIs X w (fd.1.runA fd.2 gB k)
 ok:fd.1.ok (fd.1.runA fd.2 gB k) k
 bel:Below w0.heap.size w0 w
 lo:∀x∈fd.1.fp X.b,w0.heap.size<=x
 hi:X.hi<=g3
 b3:Blk w g3 143 #[int i64 1,int i64 2,int i64 3,int i64 1,int i64 4,int i64 2]
 b5:Blk w (g3+1) 58 (gB.flatMap qD).toArray
section
variable{X:WoB fd.1}{g3:Nat}
def TpS.below(h:TpS X w0 w g3 k)(G:fd.1.Good)(b:Below w.heap.size w w'):TpS X w0 w' g3 k:=
 ⟨h.is.below G b,h.ok,h.bel.trans (b.mono h.bel.size),h.lo,h.hi,h.b3.below b h.b3.lt,h.b5.below b h.b5.lt⟩
def TpS.pk(h:TpS X w0 w g3 k)(H:k<23):Z w (g3+1) (k*2) (J (gB.getD k (0,0)).1)/\Z w (g3+1) (k*2+1) (J (gB.getD k (0,0)).2):=by
 have O:gB[k]? =some (gB.getD k (0,0)):=by rw[List.getD_eq_getElem?_getD,List.getElem?_eq_getElem (show k<gB.length from H)];rfl
 have e:∀j u,(qD (gB.getD k (0,0)))[j]? =some u->Z w (g3+1) (k*2+j) u:=λj u I=>by rw[h.b5.cell];simpa using bX qD 2 As gB k _ j u O I
 exact⟨e 0 _ rfl,e 1 _ rfl⟩
def TpS.wn(h:TpS X w0 w g3 k){v:Int}(H:IP[a]? =some v):Z w g3 a (J v):=by
 rw[h.b3.cell];have I:=(List.getElem?_eq_some_iff.1 H).1;have:a=0\/a=1\/a=2\/a=3\/a=4\/a=5:=by simp at I;omega
 rcases this with rfl|rfl|rfl|rfl|rfl|rfl
 all_goals (simp at H;subst H;rfl)
end
def vV:Awk 41:=by
 intro w;go_enter func41,ntmps41;go_wp2_with fail;refine(IL _).mono ?_;rintro en w1 ⟨gP,gT,rfl,hP,hT,b1⟩;have HN:=qh (BI (k:=6) (gl:=2) (lo:=4) (pa:=1) (bu:=1) hP hT IZ ahG);have B1:=qh b1;clear hP hT b1;go_wp2_with fail;refine HN.o.mono ?_;rintro en w2 h2;obtain⟨X,lo,rfl,hG,mP,My,JL,TE,RG,b2⟩:=h2.yes (show SpK 6 2 4 1 1 by unfold SpK FlV;simp);change fd.1.Good at hG;have HG:=qh hG;have Sh:=qh (λk (q:k<=23)=>show fd.1.ok (fd.1.runA fd.2 gB k) k from by have:=hG.runA mP gB k (by unfold lkB;omega);rwa [Nat.zero_add]at this);have H2:=qh (And.intro (show WoIs (M:=fd.1) X w2 fd.2 from My) (And.intro (B1.o.trans (b2.mono B1.o.size)) (show ∀x∈fd.1.fp X.b,w.heap.size<=x from λx hx=>Nat.le_trans B1.o.size (JL x hx))));clear hG mP My JL TE RG b2 h2 HN B1;unfold lkP;go_upto_region 6 with fail;obtain⟨w5,J8⟩:=LE ((w2.alloc (cells #[J 1,J 2,J 3,J 1,J 4,J 2] 143)).alloc (cells #[J 0,J 1,J 0,J 0,J 0,J 0,J 0,J 0,J 0,J 0,J 0,J 0,J 0,J 0,J 0,J 0,J 0,J 2,J 3,J 1,J 0,J 0,J 0,J 0,J 0,J 0,J 0,J 0,J 0,J 0,J 0,J 0,J 3,J 0,J 3,J 0,J 3,J 0,J 3,J 0,J 3,J 0,J 3,J 0,J 3,J 0] 58));rw[<-J8]
 have Y:=qh (show TpS X w w5 w2.heap.size 0 from by
  obtain⟨hI,hB,hF⟩:=H2.o;have bb:=((Below.refl w2.heap.size w2).alloc (Nat.le_refl _) (cells #[J 1,J 2,J 3,J 1,J 4,J 2] 143)).alloc ahF (cells #[J 0,J 1,J 0,J 0,J 0,J 0,J 0,J 0,J 0,J 0,J 0,J 0,J 0,J 0,J 0,J 0,J 0,J 2,J 3,J 1,J 0,J 0,J 0,J 0,J 0,J 0,J 0,J 0,J 0,J 0,J 0,J 0,J 3,J 0,J 3,J 0,J 3,J 0,J 3,J 0,J 3,J 0,J 3,J 0,J 3,J 0] 58);rw[<-J8]at bb;refine⟨hI.below HG.o bb,Sh.o 0 ahE,hB.trans (bb.mono hB.size),hF,hI.hw.2.2,?_,?_⟩;.rw[J8];exact(Blk.new w2 _ _).alloc _
  .rw[J8];exact Blk.new' _ 58 _ ahF)
 obtain⟨g3,Kj⟩:=LE w2.heap.size;rw[<-Kj]at Y;have Re:(w2.alloc (cells #[J 1,J 2,J 3,J 1,J 4,J 2] 143)).heap.size=g3+1:=by rw[Kj];simp
 simp only[<-Kj];clear J8 Re Kj H2;have HQ:=qh (λk (q:k<23)=>of_decide_eq_true (List.all_eq_true.1 El.1 k (List.mem_range.2 q)));have HU:=qh xz;have HZ:=qh El.2;go_wp2;go_loopw [4,6,7] (λa i _ wr=>∃k:Nat,i= J k/\k<=23/\a= J (mE k)/\TpS X w wr g3 k) (λ_ i _ _=>23-(intOf i).toNat);case atStart=>exact⟨0,rfl,by omega,rfl,Y.o⟩
 case round=>
  clear Y;obtain⟨k,rfl,hk,rfl,hW⟩:=hrel;obtain⟨wo,rfl⟩:∃wo:World,wo=wr:=⟨_,rfl⟩;have h:=qh hW;clear hW;by_cases I':k<23
  .obtain⟨c0,c1⟩:=h.o.pk I';have I:=qh (doW HG.o h.o.is (Sh.o k ahE) (by unfold lkB;omega) (gB.getD k (0,0)));have Rh:(fd.1.pick (fd.1.runA fd.2 gB k) (gB.getD k (0,0))).1.kind=yf k:=rfl;have RF:fd.1.runA fd.2 gB (k+1)=(fd.1.pick (fd.1.runA fd.2 gB k) (gB.getD k (0,0))).2:=qc (by rw[List.getD_eq_getElem?_getD,List.getElem?_eq_getElem (show k<gB.length from I')];rfl);have hq:=HQ.o k I';have hu:=HU.o k;obtain⟨⟨⟨V,et,er,ec⟩,x'⟩,Qm⟩:∃q,q=fd.1.pick (fd.1.runA fd.2 gB k) (gB.getD k (0,0)):=⟨_,rfl⟩;rw[<-Qm]at I Rh RF;simp only at Rh RF;rw[<-Rh]at hq hu;unfold evV at I;obtain⟨⟨t,kd⟩,hp⟩:∃p,p=gB.getD k (0,0):=⟨_,rfl⟩;rw[<-hp]at I c0 c1;simp only at I c0 c1;have W5:=qh RF;obtain⟨at_,LB⟩:=LE (mE k);rw[<-LB]at hq hu;have Z1:at_<=23:=(by rw[LB];unfold mE;exact Nat.le_trans (List.length_filter_le _ _) ahJ);have Ux:=qh hu;rw[<-LB];unfold lkP at I;clear Rh RF Qm hp hu LB;go_wp2_with fail;refine I.o.mono ?_;rintro en w3 ⟨rfl,k3,t3⟩
   have H3:=qh (show TpS X w w3 g3 (k+1)from by
    have hl:=h.o.is.lo HG.o;have hh:=h.o.hi
    refine⟨by rw[W5.o];exact k3,Sh.o _ ahE,h.o.bel.trans (t3.below h.o.lo h.o.bel.size),h.o.lo,hh,t3.blk h.o.b3 (λm=>by have:=hl _ m;omega),t3.blk h.o.b5 (λm=>by have:=hl _ m;omega)⟩)
   obtain⟨w4,O⟩:=LE (w3.alloc (cells #[J V,J et,.bool er,J ec] 55));have H4:=qh (show TpS X w w4 g3 (k+1)from by rw[O];exact H3.o.below HG.o ((Below.refl _ _).alloc (Nat.le_refl _) _));have d0:w4.cell? w3.heap.size=some (J V):=(by rw[O];exact(Blk.new w3 55 #[J V,J et,.bool er,J ec]).cell 0);clear k3 t3 c0 c1;by_cases H:V=0
   .have u0:(V==0)=true:=(by simpa using H);have HA:=qh (show mE (k+1)=at_ from by rw[Ux.o,if_pos H]);clear H hq;go_upto_region 10 with fail;rw[<-O];clear O;go_wp2;go_roundw;case rel=>exact⟨k+1,by go_num,by omega,by rw[HA.o],H4.o⟩
    case measure=>simp[intOf];omega
   .have u0:(V==0)=false:=(by simpa using H);obtain⟨Z0,V2⟩:=hq.resolve_left H;have HA:=qh (show mE (k+1)=at_+1 from by rw[Ux.o,if_neg H]);have d1:=H4.o.wn V2;have q1:decide ((at_:Int) >= 6)=false:=decide_eq_false ahE;clear H hq V2;go_upto_region 10 with fail;rw[<-O];clear O;go_wp2_with fail;go_quiet (fail);have Y:=qh (H4.o.below HG.o (Qt.below ⟨nq,rfl⟩ _));go_wp2;go_roundw;case rel=>exact⟨k+1,by go_num,by omega,by rw[HA.o];go_num,Y.o⟩
    case measure=>simp[intOf];omega
  .obtain rfl:k=23:=by omega
   rw[HZ.o];go_wp2;go_ret;exact⟨rfl,h.o.bel⟩
end
end Go.Proofs.YtglokdbiggbkjaaGreat
