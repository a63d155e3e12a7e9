/- Joined texts. -/
import Derived.Deep.RegionLaw
import Derived.Deep.AppendLies
import Derived.Deep.RegionHeld3
import Derived.Deep.DeepCutAuto
import Derived.Test.YtglokdbiggbkjaaGreatMgWorldTrace0
import Derived.Test.YtglokdbiggbkjaaGreatMgWorldTrace2
import Derived.Test.YtglokdbiggbkjaaGreatMgWorldTrace5
import Derived.Test.YtglokdbiggbkjaaGreatMgWorldTrace7
import Derived.Test.YtglokdbiggbkjaaGreatMgWorldTrace8
import Derived.Test.YtglokdbiggbkjaaGreatMgWorldTrace10
import Derived.Test.YtglokdbiggbkjaaGreatMgWorldTrace12
import Derived.Test.YtglokdbiggbkjaaGreatMgWorldTrace17
set_option linter.unusedVariables false
set_option linter.unusedSimpArgs false
set_option linter.defProp false
set_option maxRecDepth 100000
set_option maxHeartbeats 16000000
open Go.Proofs.Tryz
namespace Go.Proofs.YtglokdbiggbkjaaGreat
open Go.IntKind(i64)
open Go.Value(int bool slice agg tuple pointer)
open Go.Ending(returned)
open Go.Obj(cells)
variable{bud:Int}{w w' w5:World}{l b a g q k:Nat}{P T:List Int}{B0:Nat->Prop}{vR:Value}{lb qb:Nat->Nat}{A:Option Addr}{o:Obj}
section
open Go Go.RowKit
variable{nd:List Int}{h:Cn}{n:Nat}
def cnV(l:Nat):Value:= .iface 181 (agg #[.iface 182 ↑l])
structure CnB where
 c:Cx
 cap:Nat
 bt:Nat
 hi:Nat
def cnF(b:CnB):List Nat:=[b.c.a,b.c.g,b.c.q,b.c.k]
def xG(bud:Int)(nd:List Int)(n:Nat):LkM n where
 σ:=Cn
 β:=CnB
 ok:=λst N=>CtS n st/\st.ar.ops<=N
 ar:=λst=>st.ar
 sp:=λst i=>sv st.S i
 cn:=λst i=>if (sv st.S i).pc=10 then 1 else 0
 rd:=false
 step:=λst i=>(fH n (ndf nd) bud st i).1
 ask:=λst i r=>if r then st else(bX st i 0 1).1
 leave:=λst i=>(bX st i 10 11).1
 bt:=λb=>b.bt
 hi:=λb=>b.hi
 fp:=cnF
 is:=λb w a g lb st=>aq w b.c b.cap bud nd st/\(b.c.a=a/\b.c.g=g)/\jH w lb n 9 (cnV b.c.l) (cnF b) b.bt b.hi/\∀x∈[b.c.l,b.c.n1,b.c.nb,b.c.b0,b.c.b1,b.c.b2],b.bt<=x/\x<b.hi
def aq.far{c:Cx}{cap:Nat}{S:List Nat}(k:aq w c cap bud nd h)(t:aa S w w')(h1:∀x∈[c.a,c.g,c.q,c.k],x∉S)(H:∀x∈[c.l,c.n1,c.nb,c.b0,c.b1,c.b2],x∉S):aq w' c cap bud nd h:=by simp only[List.mem_cons,List.not_mem_nil,or_false,forall_eq_or_imp,forall_eq]at h1 H;obtain⟨I,O,V,Y⟩:=h1;obtain⟨y1,y2,y3,y4,y5,y6⟩:=H;refine⟨k.ar.turns t I O,t.blk k.lk y1,k.sp.turns t V,k.wk.turns t Y y2,λm hm=>?_,t.blk k.p0 y4,t.blk k.p1 y5,t.blk k.p2 y6,k.sl,k.n32,k.nd4,k.st⟩;rw[t.cellC (aM (k.row m hm)) y3];exact k.row m hm
def CtS.ccond(k:CtS n h)(hn:n<=32)(Y:h.ar.ops+1<=1000000000000):p9 n h:=by
 have O:∀(j:Nat) (p:Sp),h.S[j]? =some p->j<n/\sv h.S j=p:=λj p H=>⟨by rw[<-k.len];exact(List.getElem?_eq_some_iff.1 H).1,by unfold sv;rw[List.getD_eq_getElem?_getD,H];rfl⟩;have wb:=k.i.wb;unfold WkB at wb;refine⟨Y,λj p H=>?_,⟨⟨wb.2.2.1,wb.2.2.2⟩,by omega,by omega⟩,λj p H e=>?_,λj p H=>?_⟩;.obtain⟨I,rfl⟩:=O j p H;have h1:=k.i.sp j I;have V:=k.i.c1 j I;exact⟨by omega,by omega,λe=>by omega⟩
 .obtain⟨I,rfl⟩:=O j p H;exact k.i.w3 j I e
 .obtain⟨I,rfl⟩:=O j p H;exact k.i.pcs j I
def Am(st:Cn)(i:Nat)(hi:i<st.S.length)(u v:Int):(bX st i u v).1=(if (sv st.S i).pc=u then⟨st.ar,st.wk,st.S.set i {sv st.S i with pc:=v}⟩else st)/\(bX st i u v).2=decide ((sv st.S i).pc=u):=by unfold bX;rw[gL hi,Int.toNat_natCast];exact aa9
def sM{node:Nat->Int}(st:Cn)(i:Nat)(hi:i<st.S.length):(fH n node bud st i).2=dm (sv st.S i) (sv (fH n node bud st i).1.S i):=by
 unfold fH;rw[gL hi,Int.toNat_natCast];unfold dm;split
 .rename_i h;simp only[gh hi,if_true];by_cases c:(ah n node bud st i (sv st.S i)).2.2.pc=0\/(ah n node bud st i (sv st.S i)).2.2.pc=10;.exact aaB
  .exact aaC
 .exact aba
theorem ox(n:Nat)(node:Nat->Int)(bud:Int)(st:Cn)(i:Nat):(fH n node bud st i).1.ar.ops<=st.ar.ops+1:=by
 have h1:=λx v=>ij st.ar x v;have H:=λx=>iW st.ar x;have I:=λx o v=>oj st.ar x o v;have O:=λx v=>jI st.ar x v;have V:=λx v=>fd st.ar x v;unfold fH;split
 .show(ah n node bud st (i:Int).toNat (getS st.S i)).1.ops<=_;unfold ah;split;.unfold inC;grind (splits:=40)
  .split;.unfold jQ;grind (splits:=40)
   .split;.unfold mI;grind (splits:=40)
    .unfold d9;grind (splits:=40)
 .simp
def vB(Y:1<=nd.length/\nd.length<=32):(xG bud nd nd.length).Good where
 n32:=Y
 okS:=fun(st:Cn) N i h hN hi=>⟨h.1.step (ndf nd) bud hi,Nat.le_trans (ox _ _ _ st i) (by have:=h.2;omega)⟩
 okA:=fun(st:Cn) N i r h hN hi=>by
  cases r
  .refine⟨h.1.beg hi (.inl ⟨rfl,rfl⟩),?_⟩
   show(bX st i 0 1).1.ar.ops<=_
   have:(bX st i 0 1).1.ar=st.ar:=by unfold bX;split<;>rfl
   rw[this];have:=h.2;omega
  .exact⟨h.1,by have:=h.2;show st.ar.ops<=_;omega⟩
 okL:=fun(st:Cn) N i h hN hi=>by
  refine⟨h.1.beg hi (.inr ⟨rfl,rfl⟩),?_⟩
  show(bX st i 10 11).1.ar.ops<=_
  have:(bX st i 10 11).1.ar=st.ar:=by unfold bX;split<;>rfl
  rw[this];have:=h.2;omega
 okm:=fun(st:Cn) N h=>⟨h.1,by have:=h.2;omega⟩
 one:=fun(st:Cn) N i j h hi hj h1 h2 _=>h.1.one hi hj h1 h2
 pcs:=fun(st:Cn) N i h hi=>by have:=h.1.i.pcs i hi;show 0<=(sv st.S i).pc;omega
 cnt:=fun(st:Cn) N i h hi=>by
  exact aaD
 opsS:=fun(st:Cn) N i _ _ _=>ox _ _ _ st i
 arA:=fun(st:Cn) i r=>by
  cases r
  .show(bX st i 0 1).1.ar=st.ar
   unfold bX;split<;>rfl
  .rfl
 arL:=fun(st:Cn) i=>by
  show(bX st i 10 11).1.ar=st.ar
  unfold bX;split<;>rfl
 ais:=fun(b:CnB) w a g lb (st:Cn) h=>by obtain⟨k,⟨rfl,rfl⟩,_⟩:=h;exact k.ar
 lk:=fun(b:CnB) w a g lb (st:Cn) h=>h.2.2.1.c1
 kd:=fun(b:CnB) w a g lb (st:Cn) h=>⟨9,h.2.2.1.blk.cell 0,rfl⟩
 fpa:=fun(b:CnB) w a g lb (st:Cn) h=>⟨λx H=>(h.2.2.1.fl x H).2,h.2.2.1.hw⟩
 far:=fun(b:CnB) w a g lb (st:Cn) w' S h t hS=>by
  obtain⟨k,hc,hd,hl⟩:=h
  have O:∀x∈S,b.hi<=x\/x<b.bt:=hS
  exact⟨k.far t (λx H m=>by have:=hd.fl x H;have:=O x m;omega) (λx H m=>by have:=hl x H;have:=O x m;omega),hc,hd.far t O,hl⟩
 cS:=fun(b:CnB) w a g lb (st:Cn) N i h hk hN hi=>by
  obtain⟨k,hc,hd,hl⟩:=h
  refine(oJ .cn hd.c1 hd.c2 hi (R:=λr w'=>r=dm (sv st.S i) (sv (fH nd.length (ndf nd) bud st i).1.S i)/\aq w' b.c b.cap bud nd (fH nd.length (ndf nd) bud st i).1/\aa (cnF b) w w') λW bw=>?_).mono ?_
  .refine(GO (k.below bw) (i:Int) (hk.1.ccond Y.2 (by have:=hk.2;unfold lkB at hN;omega))).mono ?_
   rintro e w' ⟨rfl,k2,t2⟩
   exact⟨_,rfl,sM st i (by rw[k.sl];exact hi),k2,(aa.of_below bw).trans t2⟩
  .exact abj
 cA:=fun(b:CnB) w a g lb (st:Cn) N i r h hk hN hi=>by
  obtain⟨k,hc,hd,hl⟩:=h
  have I:i<st.S.length:=by rw[k.sl];exact hi
  refine(yL .cn hd.c1 hd.c2 hi r (R:=λq w'=>q=decide ((sv st.S i).pc=0/\(r=true->(false:Bool)=true))/\aq w' b.c b.cap bud nd (if r then st else(bX st i 0 1).1)/\aa (cnF b) w w') (λV W bw=>?_) (λV W bw=>?_)).mono ?_
  .subst V
   refine(Ha (k.below bw) (i:Int)).mono ?_
   rintro e w' ⟨rfl,k2,t2⟩
   exact⟨_,rfl,by rw[(Am st i I 0 1).2];simp,k2,(aa.of_below bw).trans t2⟩
  .exact aaF
  .exact abj
 cL:=fun(b:CnB) w a g lb (st:Cn) N i h hk hN hi=>by
  obtain⟨k,hc,hd,hl⟩:=h
  have I:i<st.S.length:=by rw[k.sl];exact hi
  refine(kU .cn hd.c1 hd.c2 hi (R:=λq w'=>q=decide ((sv st.S i).pc=10)/\aq w' b.c b.cap bud nd (bX st i 10 11).1/\aa (cnF b) w w') λW bw=>?_).mono ?_
  .refine(Ea (k.below bw) (i:Int)).mono ?_
   rintro e w' ⟨rfl,k2,t2⟩
   exact⟨_,rfl,(Am st i I 10 11).2,k2,(aa.of_below bw).trans t2⟩
  .exact abj
 cP:=fun(b:CnB) w a g lb (st:Cn) i h hi=>oI .cn h.2.2.1.c1 h.2.2.1.c2 hi _ λW bw=>by
  exact abk
 cC:=fun(b:CnB) w a g lb (st:Cn) i h hi=>oH .cn h.2.2.1.c1 h.2.2.1.c2 hi _ λW bw=>by
  exact abk
end
section
open Go.RowKit
def E7(T:HTr)(bud:Int)(m:Hm)(k i:Int):Hm:=if k=0 then stepI T bud m i else if k=1 then li T m i else if k=2 then gA T bud m i else m
section
variable{w0:World}{B:Nat->Prop}{x:Hx}{T:HTr}{s s':Ar}{m m':Hm}{N M:Nat}{hb:Nat->Nat->Option Nat}
def eu.act(h:eu T bud m hb)(V:T.Ok)(I:0<=bud)(k i:Int):∃O,eu T bud (E7 T bud m k i) O:=by
 have hi:∀j,okI m.S j->j.toNat<T.n:=λj hj=>by have:=(h.x 0).sl;obtain⟨h0,h1⟩:=hj;omega
 unfold E7;split
 .unfold stepI;split;.rename_i H;exact h.step V I (hi _ H)
  .exact⟨hb,h⟩
 .split
  .unfold li;split;.rename_i H;obtain⟨O,Y⟩:=h.ask V (hi _ H);exact⟨O,Y⟩
   .exact⟨hb,h⟩
  .split
   .unfold gA;split;.rename_i H;exact⟨hb,h.leave V (hi _ H)⟩
    .exact⟨hb,h⟩
   .exact⟨hb,h⟩
end
end
section
open Go.RowKit
def xe(w:World)(vP Y:Value)(P:List Int)(h:RdL w vP 1 encI P)(NN:P.length<=1000)(p:Int):E 140 #[agg #[vP,Y],J p] w λe w'=>∃v',e= returned v'/\w'.ownsRow w.heap.size 3 1 v' (chL P p).length ((chL P p).flatMap encI)/\Below w.heap.size w w':=by
  refine ajC ?_;intro i0 hi Kt Kv hz2 HI;have hR:=h.alloc (cells #[vP,Y] 24);obtain⟨A,cap,rfl,l1,l2,V⟩:=hR;have HR:=qh V;have PW:(w.alloc (cells #[.slice A P.length cap,Y] 24)).heap.size=w.heap.size+1:=by simp
  have HB:=qh ((Below.refl w.heap.size w).alloc (Nat.le_refl _) (cells #[.slice A P.length cap,Y] 24));have b0:(w.alloc (cells #[.slice A P.length cap,Y] 24)).cell? w.heap.size=some (.slice A P.length cap):=by simp[World.cell?_alloc_new]
  obtain⟨w1,Ow⟩:=LE (w.alloc (cells #[.slice A P.length cap,Y] 24));clear hi Kt Kv hz2 h V;go_enter func140,ntmps140;rw[<-Ow]at HR HB b0 PW;have HZ:=qh PW;clear PW;go_wp2;rw[<-Ow];clear Ow;go_loopw [5,11] (λo i wr=>∃k:Nat,i= J k/\k<=P.length/\wr.ownsRow w1.heap.size 3 1 o (nj P p k).length ((nj P p k).flatMap encI)/\Below w1.heap.size w1 wr) (λ_ i _=>P.length-(intOf i).toNat);case atStart=>exact⟨0,rfl,by omega,World.ownsRow_nil _ _ _ _,Below.refl _ _⟩
  case round=>
    obtain⟨k,rfl,hk,I,O⟩:=hrel;by_cases C':k<P.length
    . obtain⟨q,hq⟩:=ai C';obtain⟨bl,off,rfl,Lf,hc⟩:=HR.o ahy;have c0:=(O.cell (p:=⟨bl,off+k*1+0,none⟩) Lf).trans (hc k _ hq 0 _ rfl);simp only[Nat.add_zero,Nat.mul_one]at c0;have LC:=lj P p k;have KR:=O.size;have HS:=qh (yF P p hq);have H:=qh (And.intro I O);obtain⟨A9,c9,rfl⟩:=bC I;clear hc O;cases hm:(q==p)
      . have HM:Kq (¬q=p):=qh aib;clear I;go_wp2;go_roundw;case rel=>exact⟨k+1,by go_num,by omega,by rw[HS.o,if_neg HM.o];exact H.o.1,H.o.2⟩
        case measure=>simp[intOf];omega
      . have HM:Kq (q=p):=qh aib;go_wp2_with (at_builtin;refine wpList_append_own _ rfl _ _ 22 rfl w1.heap.size 3 i0 (J 0) 1 8 Tryz.underlying22 HI.o.1 HI.o.2.1 HI.o.2.2.1 HI.o.2.2.2 rfl ahA _ _ _ rfl (I.alloc _) ⟨wr.heap.size,0,none⟩ 1 1 (encI k) rfl rfl (cell_one_new _ _ _) (iy _) ?c3 ?c4 ?c5 ?_);case c3=>unfold maxLen;omega
        case c4=>omega
        case c5=>simp;omega
        intro v' w' NE NB PQ;have HN:=qh (And.intro NE NB);clear NE NB PQ I;go_wp2;go_roundw;case rel=>exact⟨k+1,by go_num,by omega,by rw[HS.o,if_pos HM.o,iR,List.length_append];exact HN.o.1,(H.o.2.alloc KR _).grown HN.o.2 ahD (λj hj=>(H.o.1.lt j hj).1)⟩
        case measure=>simp[intOf];omega
    . obtain rfl:k=P.length:=by omega
      have H:=qh (And.intro I O);clear I O;go_wp2;go_ret;exact⟨_,rfl,dg H.o.1 (by have:=HZ.o;omega),HB.o.trans (H.o.2.mono (by have:=HZ.o;omega))⟩
end
section
open Go.RowKit
theorem Tryz.infoHs:(prog.info? 255).map (λi=>(i.zero,i.size,i.bytes))=some (some (agg #[.pointer none,J 0]),2,16):=by kernel_rfl
theorem Tryz.infoHr:(prog.info? 249).map (λi=>(i.zero,i.size,i.bytes))=some (some (.pointer none),1,8):=by kernel_rfl
theorem Tryz.infoHl:(prog.info? 252).map (λi=>(i.zero,i.size,i.bytes))=some (some (.slice none 0 0),1,24):=by kernel_rfl
def gf(lb:Nat->Nat)(T:HTr)(t c:Nat):List Value:=(List.range c).flatMap λk=>[pointer (some ⟨lb (T.pl t k),0,none⟩),J (T.sl t k)]
def jy(lb:Nat->Nat)(T:HTr)(t c:Nat):gf lb T t (c+1)=gf lb T t c++[pointer (some ⟨lb (T.pl t c),0,none⟩),J (T.sl t c)]:=by unfold gf;rw[List.range_succ,List.flatMap_append];simp
def ie(lb:Nat->Nat)(k:Nat):List Value:=(List.range k).map λv=> pointer (some ⟨lb v,0,none⟩)
def ue(lb:Nat->Nat)(k:Nat):ie lb (k+1)=ie lb k++[pointer (some ⟨lb k,0,none⟩)]:=by unfold ie;rw[List.range_succ,List.map_append];rfl
end
section
open Go.RowKit
def vv(bud:Int)(vR vL:Value)(q n:Nat):Array Value:=#[J bud,vR,vL,slice (some ⟨q,0,none⟩) n n]
def TBr(l a:Nat)(B0:Nat->Prop)(w:World)(b:Nat)(P T:List Int)(k:Nat)(vR:Value):Prop:=
 (am P k=[]/\gV B0 w b P T)\/∃B',dD B' w b P T/\(∀i,B' i->i≠l/\i≠a/\i<w.heap.size)/\∀g,vR.ownBlock=some g->¬B' g
structure NwR(w5 wr:World)(l b a g q:Nat)(bud:Int)(P T:List Int)(tr:HTr)(B0:Nat->Prop)(k:Nat)(vR:Value)(lb qb:Nat->Nat)(s:Ar):Prop where
 tn:aa [l,b,a] w5 wr
 blk:Blk wr l 247 (vv bud vR (.slice none 0 0) q tr.n)
 own:wr.ownsRow w5.heap.size 249 1 vR k (ie lb k)
 ar:aB wr a g s
 cat:s.W=dz (hm0 tr).W k
 room:s=⟨s.W,s.room,0,0,0,false⟩/\∀v,v<tr.np->(dz (hm0 tr).W v).length+(2*tr.nv v+1)<=s.room
 rk:∀v,v<k->Blk wr (lb v) 319 #[↑a,int i64 ((dz (hm0 tr).W v).length+1),slice (some ⟨qb v,0,none⟩) (tr.nv v) (tr.nv v)]
 rs:∀v,v<k->dE wr (qb v) (List.replicate (tr.nv v) Sp.zero)
 lo:∀v,v<k->w5.heap.size<=lb v/\w5.heap.size<=qb v/\vR.ownBlock≠some (lb v)/\vR.ownBlock≠some (qb v)
 ne:∀v u,v<k->u<k->lb v≠qb u
 inj:∀v u,v<k->u<k->qb v=qb u->v=u
 tab:TBr l a B0 wr b P T k vR
def aa.grownByH{row:Option Nat}(h:w.grownBy w' row):aa row.toList w w':=
 ⟨h.os,h.tape,h.output,h.size,λi hi hn=>h.block i hi aiu⟩
def wh(lb:Nat->Nat)(x:Nat):∀k,ie (aY lb k x) k=ie lb k:=λk=>by
 unfold ie
 refine List.map_congr_left λv O=>?_
 rw[aZ _ _ (by have:=List.mem_range.1 O;omega)]
section
variable{wr:World}{tr:HTr}{s:Ar}
def NwR.move(h:NwR w5 wr l b a g q bud P T tr B0 k vR lb qb s)(t:aa [b] wr w')(I:b<w5.heap.size)(V:b≠l)(H:b≠a)(hg:b≠g)(Y:TBr l a B0 w' b P T k vR):NwR w5 w' l b a g q bud P T tr B0 k vR lb qb s:=by
 refine⟨h.tn.trans (t.mono ahz),t.blk h.blk (by simpa using λe=>V e.symm),aa.own h.own t (λx hx=>?_),h.ar.turns t (by simpa using λe=>H e.symm) (by simpa using λe=>hg e.symm),h.cat,h.room,λv O=>t.blk (h.rk v O) ?_,λv O=>(h.rs v O).turns t ?_,h.lo,h.ne,h.inj,Y⟩;.have:=(h.own.lt x hx).1;simp;omega
 .have:=(h.lo v O).1;simp;omega
 .have:=(h.lo v O).2.1;simp;omega
def TBr.turns0(h:TBr l a B0 wr b P T k vR)(t:aa [] wr w'):TBr l a B0 w' b P T k vR:=by
 rcases h with⟨H,h1⟩|⟨I,H,h1,O⟩
 .exact .inl ⟨H,h1.turns t ahz⟩
 .exact .inr ⟨I,H.turns t ahz,λi hi=>⟨(h1 i hi).1,(h1 i hi).2.1,Nat.lt_of_lt_of_le (h1 i hi).2.2 t.size⟩,O⟩
def NwR.below(h:NwR w5 wr l b a g q bud P T tr B0 k vR lb qb s)(t:Below wr.heap.size wr w')(I:b<w5.heap.size)(O:b≠l)(H:b≠a)(hg:b≠g):NwR w5 w' l b a g q bud P T tr B0 k vR lb qb s:=
 h.move (aa.of_below t) I O H hg (h.tab.turns0 (aa.of_below t))
def Di(l a:Nat)(w:World)(b:Nat)(P T:List Int)(vR:Value):Prop:=∃B',dD B' w b P T/\(∀i,B' i->i≠l/\i≠a/\i<w.heap.size)/\∀g,vR.ownBlock=some g->¬B' g
def NwR.mates(h:NwR w5 wr l b a g q bud P T tr B0 k vR lb qb s)(hc:a5 P T=0)(I:b<w5.heap.size)(hl:b≠l)(ha:b≠a)(hg:b≠g)(V:∀i,B0 i->i≠l/\i≠a/\i<w5.heap.size){j:Nat}{x:Int}(Y:(ac P)[j]? =some x):E 138 #[↑b,J j] wr λe w'=>e= returned (J ((T.count x:Nat):Int))/\NwR w5 w' l b a g q bud P T tr B0 k vR lb qb s/\Di l a w' b P T vR/\aa [b] wr w':=by
  have LC:=h.blk.lt;have NP:=h.ar.blk.lt;rcases h.tab with⟨_,t0⟩|tf
  . refine(Ck B0 wr b P T hc t0 Y).mono ?_;rintro e w' ⟨O,ht,tn⟩;have hs:=h.tn.size
    have F:Di l a w' b P T vR:=⟨_,ht.lt,λi hi=>by
      rcases hi.1 with H|H
      . have:=V i H;exact⟨this.1,this.2.1,hi.2⟩
      . exact⟨by omega,by omega,hi.2⟩,λg' Ol hB=>by
      have:=h.own.lt g' Ol;rcases hB.1 with H|H
      . have:=(V _ H).2.2;omega
      . omega⟩
    exact⟨O,h.move tn I hl ha hg (.inr F),F,tn⟩
  . obtain⟨B',t1,t2,t3⟩:=tf;refine(Cj wr b P T t1.f Y).mono ?_;rintro e w' ⟨O,rfl⟩;exact⟨O,h,⟨B',t1,t2,t3⟩,aa.refl _ _⟩
def NwR.step{w2 w3 w4:World}{l' q' cap Lv I:Nat}(h:NwR w5 w2 l b a g q bud P T tr B0 k (.slice A k cap) lb qb s)(hT:Di l a w2 b P T (.slice A k cap)\/(am P (k+1)=[]/\gV B0 w2 b P T))(h0:∀i,B0 i->i≠l/\i≠a/\i<w5.heap.size)(Oo:l<w5.heap.size)(Ug:a<w5.heap.size)(MT:g<w5.heap.size)(WM:l≠a)(ZM:l≠g){s':Ar}(MB:s'={s with W:=s.W++List.replicate (2*tr.nv k+1) 0})(V:da w3 l' a g q' (s.W.length+1) ⟨s',List.replicate (tr.nv k) Sp.zero⟩)(Mv:w2.heap.size<=l')(Qm:w2.heap.size<=q')(t3:aa [a] w2 w3)(h4:w4.ownsRow w5.heap.size 249 1 (slice (some ⟨I,0,none⟩) (k+1) Lv) (k+1) (ie lb k++[pointer (some ⟨l',0,none⟩)]))(hg:(w3.alloc o).grownBy w4 (Value.slice A k cap).ownBlock)(KQ:(Value.slice A k cap).ownBlock=some I\/I=(w3.alloc o).heap.size):NwR w5 (w4.setCell ⟨l,1,none⟩ (slice (some ⟨I,0,none⟩) (k+1) Lv)) l b a g q bud P T tr B0 (k+1) (slice (some ⟨I,0,none⟩) (k+1) Lv) (aY lb k l') (aY qb k q') s':=by
  have MN:∀x,(Value.slice A k cap).ownBlock=some x->w5.heap.size<=x/\x<w2.heap.size:=λx hx=>h.own.lt x hx;have tg:aa (Value.slice A k cap).ownBlock.toList (w3.alloc o) w4:=aa.grownByH hg;have nS:∀x,(Value.slice A k cap).ownBlock≠some x->x∉(Value.slice A k cap).ownBlock.toList:=λx hx hm=>hx aib;have Lc:w2.heap.size<=w3.heap.size:=t3.size;have Ml:w3.heap.size+1<=w4.heap.size:=by have:=tg.size;simpa using this
  have ab:w5.heap.size<=w2.heap.size:=h.tn.size;have NV:l'<w3.heap.size:=V.lk.lt;have Z8:q'<w3.heap.size:=V.sp.lt;have WC:w5.heap.size<=I:=(h4.lt I rfl).1;have ts:aa [l] w4 (w4.setCell ⟨l,1,none⟩ (slice (some ⟨I,0,none⟩) (k+1) Lv)):=(aa.refl _ _).setCell (.inl ahz) _
  have Td:aa (l :: (Value.slice A k cap).ownBlock.toList) w3 (w4.setCell ⟨l,1,none⟩ (slice (some ⟨I,0,none⟩) (k+1) Lv)):=
    (((aa.refl _ _).alloc o).trans (tg.mono λi hi=>List.mem_cons_of_mem _ hi)).trans (ts.mono ahz)
  have RW:aa (a :: l :: (Value.slice A k cap).ownBlock.toList) w2 (w4.setCell ⟨l,1,none⟩ (slice (some ⟨I,0,none⟩) (k+1) Lv)):=
    (t3.mono ahz).trans (Td.mono λi hi=>List.mem_cons_of_mem _ hi)
  have hA:(Value.slice A k cap).ownBlock≠some a:=λe=>by have:=MN a e;omega
  have hL:(Value.slice A k cap).ownBlock≠some l:=λe=>by have:=MN l e;omega
  have hG:(Value.slice A k cap).ownBlock≠some g:=λe=>by have:=MN g e;omega
  have V8:(Value.slice A k cap).ownBlock≠some l':=λe=>by have:=MN l' e;omega
  have Wf:(Value.slice A k cap).ownBlock≠some q':=λe=>by have:=MN q' e;omega
  have RQ:∀x,x≠l->(Value.slice A k cap).ownBlock≠some x->x∉l :: (Value.slice A k cap).ownBlock.toList:=λx h1 h2 hm=>by
    rcases List.mem_cons.1 hm with e|e
    . exact h1 e
    . exact nS x h2 e
  have XB:∀x,x≠a->x≠l->(Value.slice A k cap).ownBlock≠some x->x∉a :: l :: (Value.slice A k cap).ownBlock.toList:=λx h0 h1 h2 hm=>by
    rcases List.mem_cons.1 hm with e|e
    . exact h0 e
    . exact RQ x h1 h2 e
  have PK:∀x,x<w3.heap.size->(Value.slice A k cap).ownBlock≠some x->I≠x:=λx h1 h2 e=>by
    subst e;rcases KQ with e|e
    . exact h2 e
    . have e9:(w3.alloc o).heap.size=w3.heap.size+1:=(by simp);omega
  have RO:∀v,v<k->lb v<w2.heap.size/\qb v<w2.heap.size:=λv O=>⟨(h.rk v O).lt,(h.rs v O).lt⟩;have Ww:s.W.length=(dz (hm0 tr).W k).length:=by rw[h.cat]
  subst MB;refine⟨?_,?_,?_,?_,?_,⟨congrArg (λz:Ar=>{z with W:=s.W++List.replicate (2*tr.nv k+1) 0}) h.room.1,h.room.2⟩,λv O=>?_,λv O=>?_,λv O=>?_,λv u O hu=>?_,λv u O hu e=>?_,?_⟩
  . refine((h.tn.mono (T:=l :: b :: a :: (Value.slice A k cap).ownBlock.toList) ahz).trans (RW.mono λi hi=>?_)).fresh λi hi=>?_
    . rcases List.mem_cons.1 hi with e|hi
      . simp[e]
      . rcases List.mem_cons.1 hi with e|hi
        . simp[e]
        . exact List.mem_cons_of_mem _ (List.mem_cons_of_mem _ (List.mem_cons_of_mem _ hi))
    . rcases List.mem_cons.1 hi with e|hi
      . exact .inl (by simp[e])
      . rcases List.mem_cons.1 hi with e|hi
        . exact .inl (by simp[e])
        . rcases List.mem_cons.1 hi with e|hi
          . exact .inl (by simp[e])
          . exact .inr (MN i ah5).1
  . exact(tg.blk ((t3.blk h.blk (by simpa using WM)).alloc o) (nS l hL)).set_ 1 _
  . rw[ue,aX,wh]
    exact aa.own h4 ts (λx hx=>by
      injection hx with hx;subst hx
      simp;omega)
  . exact V.ar.turns Td (RQ a (λe=>WM e.symm) hA) (RQ g (λe=>ZM e.symm) hG)
  . show s.W++_=dz (hm0 tr).W k++(hm0 tr).W k;rw[h.cat];rfl
  . by_cases e:v=k;. subst e;rw[aX,aX,<-Ww];have:=V.lk;simp only[List.length_replicate]at this;exact Td.blk this (RQ l' ahy V8)
    . have L6:v<k:=(by omega);rw[aZ _ _ e,aZ _ _ e];have h1:=h.lo v L6;exact RW.blk (h.rk v L6) (XB _ ahy ahy h1.2.2.1)
  . by_cases e:v=k;. subst e;rw[aX];exact V.sp.turns Td (RQ q' ahy Wf)
    . have L6:v<k:=(by omega);rw[aZ _ _ e];have h1:=h.lo v L6;exact(h.rs v L6).turns RW (XB _ ahy ahy h1.2.2.2)
  . by_cases e:v=k
    . subst e;rw[aX,aX];refine⟨by omega,by omega,λe=>?_,λe=>?_⟩;. injection e with e;exact PK l' NV V8 e
      . injection e with e;exact PK q' Z8 Wf e
    . have L6:v<k:=(by omega);rw[aZ _ _ e,aZ _ _ e];have h1:=h.lo v L6;have h2:=RO v L6;refine⟨h1.1,h1.2.1,λe=>?_,λe=>?_⟩;. injection e with e;exact PK _ ahy h1.2.2.1 e
      . injection e with e;exact PK _ ahy h1.2.2.2 e
  . by_cases e:v=k
    . subst e;rw[aX];by_cases H:u=v;. subst H;rw[aX];exact V.lq
      . rw[aZ _ _ H];have:=RO u ahy;omega
    . rw[aZ _ _ e];by_cases H:u=k;. subst H;rw[aX];have:=RO v ahy;omega
      . rw[aZ _ _ H];exact h.ne v u ahy ahy
  . by_cases e1:v=k
    . by_cases H:u=k;. rw[e1,H]
      . rw[e1,aX,aZ _ _ H]at e;have:=RO u ahy;omega
    . by_cases H:u=k;. rw[H,aX,aZ _ _ e1]at e;have:=RO v ahy;omega
      . rw[aZ _ _ e1,aZ _ _ H]at e;exact h.inj v u ahy ahy e
  . rcases hT with⟨B',k1,k2,k3⟩|⟨k1,k2⟩
    . refine .inr ⟨B',k1.turns RW λi hi Y=>?_,λi Y=>⟨(k2 i Y).1,(k2 i Y).2.1,?_⟩,λx hx Y=>?_⟩
      . have:=k2 i Y;simp at hi;rcases hi with e|e|e
        . exact this.2.1 e
        . exact this.1 e
        . exact k3 i e Y
      . have:=(k2 i Y).2.2;have:=ts.size;omega
      . injection hx with hx;subst hx;rcases KQ with e|e
        . exact k3 _ e Y
        . have:=(k2 _ Y).2.2;rw[e]at this;simp at this;omega
    . refine .inl ⟨k1,k2.turns RW λi hi Y=>?_⟩;have:=h0 i Y;simp at hi;rcases hi with e|e|e
      . omega
      . omega
      . have:=(MN i e).1;omega
end
end
section
open Go.RowKit
def iF(ub uk:Nat->Nat)(D m:Nat):List Value:=(List.range m).map λt=> slice (some ⟨ub t,0,none⟩) D (uk t)
def uj(ub uk:Nat->Nat)(D m:Nat):iF ub uk D (m+1)=iF ub uk D m++[slice (some ⟨ub m,0,none⟩) D (uk m)]:=by unfold iF;rw[List.range_succ,List.map_append];rfl
def wE(ub uk:Nat->Nat)(D x y:Nat):∀m,iF (aY ub m x) (aY uk m y) D m=iF ub uk D m:=λm=>by
 unfold iF
 refine List.map_congr_left λv O=>?_
 have:=List.mem_range.1 O
 rw[aZ _ _ ahy,aZ _ _ ahy]
def m9(lb:Nat->Nat)(T:HTr)(t:Nat):∀c,(gf lb T t c).length=c*2
 |0=>rfl
 |c+1=>by rw[jy,List.length_append,m9 lb T t c];show c*2+2=_;omega
def kh(lb:Nat->Nat)(T:HTr)(t:Nat):∀c k,k<c->(gf lb T t c)[k*2]? =some (pointer (some ⟨lb (T.pl t k),0,none⟩))/\(gf lb T t c)[k*2+1]? =some (J (T.sl t k))
 |0,k,h=>by omega
 |c+1,k,h=>by
  have H:=m9 lb T t c;rw[jy];by_cases e:k=c;.subst e;rw[List.getElem?_append_right ahy,List.getElem?_append_right ahy,H,Nat.sub_self,show k*2+1-k*2=1 by omega];exact abG
  .rw[List.getElem?_append_left ahy,List.getElem?_append_left ahy];exact kh lb T t c k ahy
def pw(lb:Nat->Nat)(n v:Nat)(h:v<n):(ie lb n)[v]? =some (pointer (some ⟨lb v,0,none⟩)):=by unfold ie;simp[h]
def wD(ub uk:Nat->Nat)(D m t:Nat)(h:t<m):(iF ub uk D m)[t]? =some (slice (some ⟨ub t,0,none⟩) D (uk t)):=by unfold iF;simp[h]
structure NwL(w6 wl:World)(l q:Nat)(bud:Int)(tr:HTr)(vR:Value)(lb:Nat->Nat)(m:Nat)(vL:Value)(ub uk:Nat->Nat):Prop where
 tn:aa [l] w6 wl
 blk:Blk wl l 247 (vv bud vR vL q tr.n)
 own:wl.ownsRow w6.heap.size 252 1 vL m (iF ub uk tr.D m)
 rs:∀t,t<m->wl.ownsRow w6.heap.size 255 2 (slice (some ⟨ub t,0,none⟩) tr.D (uk t)) tr.D (gf lb tr t tr.D)
 lo:∀t,t<m->vL.ownBlock≠some (ub t)
section
variable{w6 wl w8 w9:World}{tr:HTr}{m:Nat}{ub uk:Nat->Nat}{s:Ar}
def NwL.below{vL:Value}(h:NwL w6 wl l q bud tr vR lb m vL ub uk)(k:Below wl.heap.size wl w8):NwL w6 w8 l q bud tr vR lb m vL ub uk:=
 have t:aa [] wl w8:=aa.of_below k
 ⟨h.tn.trans (t.mono ahz),t.blk h.blk ahz,aa.own h.own t ahz,λu H=>aa.own (h.rs u H) t ahz,h.lo⟩
def NwL.step{cap nb cv O Y:Nat}(h:NwL w6 wl l q bud tr vR lb m (.slice A m cap) ub uk)(Rv:l<w6.heap.size)(hd:1<=tr.D)(I:Below wl.heap.size wl w8)(h8:w8.ownsRow wl.heap.size 255 2 (slice (some ⟨nb,0,none⟩) tr.D cv) tr.D (gf lb tr m tr.D))(h9:w9.ownsRow w6.heap.size 252 1 (slice (some ⟨O,0,none⟩) (m+1) Y) (m+1) (iF ub uk tr.D m++[slice (some ⟨nb,0,none⟩) tr.D cv]))(hg:(w8.alloc o).grownBy w9 (Value.slice A m cap).ownBlock)(Ph:(Value.slice A m cap).ownBlock=some O\/O=(w8.alloc o).heap.size):NwL w6 (w9.setCell ⟨l,2,none⟩ (slice (some ⟨O,0,none⟩) (m+1) Y)) l q bud tr vR lb (m+1) (slice (some ⟨O,0,none⟩) (m+1) Y) (aY ub m nb) (aY uk m cv):=by
  have Uc:=h.below I;have MN:∀x,(Value.slice A m cap).ownBlock=some x->w6.heap.size<=x/\x<wl.heap.size:=λx H=>h.own.lt x H;have tg:aa (Value.slice A m cap).ownBlock.toList (w8.alloc o) w9:=aa.grownByH hg;have nS:∀x,(Value.slice A m cap).ownBlock≠some x->x∉(Value.slice A m cap).ownBlock.toList:=λx H hm=>H aib;have ad:wl.heap.size<=w8.heap.size:=I.size;have V4:w6.heap.size<=wl.heap.size:=h.tn.size;have ab:w6.heap.size<=O:=(h9.lt O rfl).1;have Pm:=h8.lt nb rfl;have hL:(Value.slice A m cap).ownBlock≠some l:=λe=>by have:=MN l e;omega
  have Wc:(Value.slice A m cap).ownBlock≠some nb:=λe=>by have:=MN nb e;omega
  have ts:aa [l] w9 (w9.setCell ⟨l,2,none⟩ (slice (some ⟨O,0,none⟩) (m+1) Y)):=(aa.refl _ _).setCell (.inl ahz) _
  have U7:aa (l :: (Value.slice A m cap).ownBlock.toList) w8 (w9.setCell ⟨l,2,none⟩ (slice (some ⟨O,0,none⟩) (m+1) Y)):=
    (((aa.refl _ _).alloc o).trans (tg.mono λi hi=>List.mem_cons_of_mem _ hi)).trans (ts.mono ahz)
  have nF:∀x,x≠l->(Value.slice A m cap).ownBlock≠some x->x∉l :: (Value.slice A m cap).ownBlock.toList:=λx h1 h2 hm=>by
    rcases List.mem_cons.1 hm with e|e
    . exact h1 e
    . exact nS x h2 e
  have Q9:∀x,x<w8.heap.size->(Value.slice A m cap).ownBlock≠some x->O≠x:=λx h1 h2 e=>by
    subst e;rcases Ph with e|e
    . exact h2 e
    . have e9:(w8.alloc o).heap.size=w8.heap.size+1:=(by simp);omega
  refine⟨?_,?_,?_,λt ht=>?_,λt ht=>?_⟩
  . refine((Uc.tn.mono (T:=l :: (Value.slice A m cap).ownBlock.toList) ahz).trans U7).fresh λi hi=>?_;rcases List.mem_cons.1 hi with e|e
    . exact .inl (by simp[e])
    . exact .inr (MN i ahN).1
  . exact(tg.blk (Uc.blk.alloc o) (nS l hL)).set_ 2 _
  . rw[uj,aX,aX,wE]
    exact aa.own h9 ts (λx H=>by
      injection H with H;subst H
      simp;omega)
  . by_cases e:t=m;. subst e;rw[aX,aX];refine aa.own (dg h8 V4) U7 λx H=>?_;injection H with H;subst H;exact nF _ (by have:=Pm.1;show nb≠l;omega) Wc
    . have V:t<m:=(by omega);rw[aZ _ _ e,aZ _ _ e];refine aa.own (Uc.rs t V) U7 λx H=>?_;injection H with H;subst H;have:=((h.rs t V).lt (ub t) rfl).1;exact nF _ (by show ub t≠l;omega) (h.lo t V)
  . by_cases e:t=m;. subst e;rw[aX];intro e;injection e with e;exact Q9 nb Pm.2 Wc e
    . have V:t<m:=(by omega);rw[aZ _ _ e];intro e;injection e with e;have:=((h.rs t V).lt (ub t) rfl).2;exact Q9 _ ahy (h.lo t V) e
def Ie(l a g q:Nat)(lb qb:Nat->Nat)(bR kR bL kL:Nat)(ub uk:Nat->Nat):Hx:=⟨l,a,g,q,lb,qb,bR,0,kR,bL,0,kL,ub,λ_=>0,uk⟩
def hxB(l bR bL:Nat)(lb ub:Nat->Nat)(T:HTr)(i:Nat):Prop:=i=l\/i=bR\/i=bL\/(∃t,t<T.n/\i=ub t)\/∃v,v<T.np/\i=lb v
def J1{bR kR bL kL lo:Nat}(hN:NwR w5 w6 l b a g q bud P T tr B0 tr.np (slice (some ⟨bR,0,none⟩) tr.np kR) lb qb s)(V:NwL w6 wl l q bud tr (slice (some ⟨bR,0,none⟩) tr.np kR) lb tr.n (slice (some ⟨bL,0,none⟩) tr.n kL) ub uk)(hq:dE w6 q (List.replicate tr.n Sp.zero))(mP:tr.Ok)(h5:tr.D<=5)(hn:tr.n<=32)(hp:tr.np<=32)(hl:lo<=l/\l<w5.heap.size)(bc:lo<=q/\q<w5.heap.size)(ha:a<lo)(hg:g<lo)(ba:l≠q):aV (hxB l bR bL lb ub tr) wl (Ie l a g q lb qb bR kR bL kL ub uk) tr bud s (hm0 tr)/\∀i,hxB l bR bL lb ub tr i->lo<=i:=by
  have ad:=hN.tn.size;have V4:=V.tn.size;have ax:=hN.own.lt bR rfl;have al:=V.own.lt bL rfl;have PZ:∀t,t<tr.n->w6.heap.size<=ub t/\ub t<wl.heap.size:=λt ht=>(V.rs t ht).lt (ub t) rfl;have Nc:∀v,v<tr.np->lb v<w6.heap.size/\qb v<w6.heap.size:=λv O=>⟨(hN.rk v O).lt,(hN.rs v O).lt⟩;have I:∀v,v<tr.np->w5.heap.size<=lb v/\w5.heap.size<=qb v/\bR≠lb v/\bR≠qb v:=λv O=>by obtain⟨a1,a2,a3,a4⟩:=hN.lo v O;exact⟨a1,a2,λe=>a3 (by rw[<-e];rfl),λe=>a4 (by rw[<-e];rfl)⟩
  have hd:=mP.d1;have t:=V.tn;have We:∀v,((hm0 tr).P v).length=tr.nv v:=λv=>by simp[hm0]
  have Zf:∀v,((hm0 tr).W v).length=2*tr.nv v+1:=λv=>by simp[hm0]
  have ZF:tr.np<=kR:=by
    rcases hN.own.2 with⟨e,_⟩|⟨_,_,_,e,_,_,h1,_⟩
    . simp at e
    . injection e with _ _ e;omega
  have ZE:tr.n<=kL:=by
    rcases V.own.2 with⟨e,_⟩|⟨_,_,_,e,_,_,h1,_⟩
    . simp at e
    . injection e with _ _ e;omega
  have ab:∀u,u<tr.n->tr.D<=uk u:=λu h=>by
    rcases(V.rs u h).2 with⟨e,_⟩|⟨_,_,_,e,_,_,h1,_⟩
    . simp at e
    . injection e with _ _ e;omega
  refine⟨⟨⟨.inl rfl,.inr (.inl rfl),.inr (.inr (.inl rfl)),λu h=> .inr (.inr (.inr (.inl ⟨u,h,rfl⟩))),λv O=> .inr (.inr (.inr (.inr ⟨v,O,rfl⟩))),?_,?_,?_,λv O=>?_,λv O=>?_,λv O=>?_,hN.inj,hn,hp,h5,mP.nv32,ZF,ZE,ab⟩,
    ?_,hN.cat,λv _=>Zf v,V.blk,by simp[hm0],?_,λv O=>?_,λv _=>We v,λv O=>?_,λv O=>?_,λu h=>?_,λu k h hk=>?_,λu k h hk=>?_,λi hi=>?_⟩,λi hi=>?_⟩
  . intro i hi hB
    have Y:i=a\/i=g\/i=q\/∃v,v<tr.np/\qb v=i:=by
      unfold mvL Ie at hi;rcases List.mem_append.1 hi with hi|hi
      . simp at hi;omega
      . obtain⟨v,O,e⟩:=List.mem_map.1 hi;exact .inr (.inr (.inr ⟨v,List.mem_range.1 O,e⟩))
    rcases hB with e|e|e|⟨u,h,e⟩|⟨u,h,e⟩
    . rcases Y with H|H|H|⟨v,O,H⟩
      . omega
      . omega
      . omega
      . have:=I v O;omega
    . rcases Y with H|H|H|⟨v,O,H⟩
      . omega
      . omega
      . omega
      . have:=I v O;omega
    . rcases Y with H|H|H|⟨v,O,H⟩
      . omega
      . omega
      . omega
      . have:=Nc v O;omega
    . have:=PZ u h;rcases Y with H|H|H|⟨v,O,H⟩
      . omega
      . omega
      . omega
      . have:=Nc v O;omega
    . have:=I u h;rcases Y with H|H|H|⟨v,O,H⟩
      . omega
      . omega
      . omega
      . exact hN.ne u v h O ahy
  . show q≠a;omega
  . show q≠g;omega
  . show qb v≠a;have:=I v O;omega
  . show qb v≠g;have:=I v O;omega
  . show qb v≠q;have:=I v O;omega
  . exact hN.ar.turns t ahD ahD
  . exact hq.turns t ahD
  . show Blk wl (lb v) _ #[_,_,.slice _ ((hm0 tr).P v).length ((hm0 tr).P v).length];rw[We];exact t.blk (hN.rk v O) (by have:=I v O;simp;omega)
  . exact(hN.rs v O).turns t (by have:=I v O;simp;omega)
  . have c:=hN.own.cellAt v ahy;rw[pw _ _ _ O]at c;show wl.cell? ⟨bR,0+v,none⟩=_;rw[Nat.zero_add];exact t.cell c ahD
  . have c:=V.own.cellAt u ahy;rw[wD _ _ _ _ _ h]at c;show wl.cell? ⟨bL,0+u,none⟩=_;rw[Nat.zero_add];exact c
  . have c:=(V.rs u h).cellAt (k*2) ahy;rw[(kh lb tr u tr.D k hk).1]at c;show wl.cell? ⟨ub u,0+k*2,none⟩=_;rw[Nat.zero_add];exact c
  . have c:=(V.rs u h).cellAt (k*2+1) ahy;rw[(kh lb tr u tr.D k hk).2]at c;show wl.cell? ⟨ub u,0+k*2+1,none⟩=_;rw[Nat.zero_add];exact c
  . rcases hi with e|e|e|⟨u,h,e⟩|⟨u,h,e⟩
    . omega
    . omega
    . omega
    . have:=PZ u h;omega
    . have:=Nc u h;omega
  . rcases hi with e|e|e|⟨u,h,e⟩|⟨u,h,e⟩
    . omega
    . omega
    . omega
    . have:=PZ u h;omega
    . have:=I u h;omega
end
end
section
open Go.RowKit
def tE(I:k<P.length):chL P k=[]↔dq P k=true:=by refine⟨λh=>?_,xE⟩;unfold dq;rw[decide_eq_true_eq];refine⟨by omega,by omega,λhm=>?_⟩;obtain⟨n,H⟩:=List.getElem?_of_mem hm;have:=Cp H;rw[h]at this;cases this
def D9(I:k<P.length)(h:dq P k=true):(ac P)[(am P k).length]? =some (k:Int):=by
 have key:∀d,(am P (k+1+d))[(am P k).length]? =some (k:Int)/\(am P k).length<(am P (k+1+d)).length:=by
  intro d;induction d with
  |zero=>have e:am P (k+1)=am P k++[(k:Int)]:=(by rw[cJ,if_pos h]);show(am P (k+1))[_]? =_/\_<(am P (k+1)).length;rw[e];exact⟨by simp,by simp⟩
  |succ d H=>
   show(am P (k+1+d+1))[_]? =_/\_<(am P (k+1+d+1)).length;rw[cJ P (k+1+d)];split;.exact⟨by rw[List.getElem?_append_left H.2];exact H.1,by simp;omega⟩
   .exact H
 have:=(key (P.length-(k+1))).1;rwa [show k+1+(P.length-(k+1))=P.length by omega]at this
def vY(h:a5 P T=0)(H:k<P.length):1<=nvT P T k/\nvT P T k<=32:=by
 refine⟨?_,(ji h).nv32 k H⟩;unfold nvT;split;.omega
 .rename_i I;have:=List.length_pos_iff.2 I;omega
def AE(h:a5 P T=0)(I:k<=P.length):(dz (hm0 (cE P T)).W k).length<=2080:=by
 have H:=bj (aR h).1
 have h1:=q8 (W:=(hm0 (cE P T)).W) (b:=65) k λv O=>by
  have:=(vY h (show v<P.length by omega)).2;have e:((hm0 (cE P T)).W v).length=2*nvT P T v+1:=by simp[hm0,cE]
  omega
 omega
def slT(h:a5 P T=0){t:Nat}(O:t<T.length){x:Int}(a:XAt P T t x)(I:k<(jq P T).toNat):(((cE P T).sl t k:Nat):Int)=slX P T t x k:=by
 have ex:T.getD t 0=x:=bp a.at_;show(((slX P T t (T.getD t 0) k).toNat:Nat):Int)=_;rw[ex];cases k with
 |zero=>
  have:0<=slX P T t x 0:=by show 0<=cQ T t;unfold cQ;omega
  omega
 |succ k=>obtain⟨v,u,j,_,_,_,_,H,_⟩:=a.above h I;rw[H];omega
def GC(h:a5 P T=0):∀v,v<P.length->(dz (hm0 (cE P T)).W v).length+(2*(cE P T).nv v+1)<=4096:=λv O=>by
 have h1:=AE h (Nat.le_of_lt O)
 have H:(cE P T).nv v<=32:=(vY h O).2
 omega
def CL{s:Ar}(h:aB w a g s)(n:Nat)(h1:1<=n)(H:n<=32)(V:s.W.length+(2*n+1)<=s.room):E 141 #[↑a,J n] w λe w'=>∃l q,e= returned (tuple #[pointer (some ⟨l,0,none⟩),J 0])/\da w' l a g q (s.W.length+1) ⟨{s with W:=s.W++List.replicate (2*n+1) 0},List.replicate n Sp.zero⟩/\w.heap.size<=l/\w.heap.size<=q/\aa [a] w w':=by
  refine(zh h n).mono ?_;intro e w' hN;have e0:fX s n=0:=by unfold fX;rw[if_neg ahy,if_neg ahy]
  unfold qe at hN;rw[if_pos e0]at hN;obtain⟨l,q,k1,k2,k3⟩:=hN;rw[show(2*(n:Int)+1).toNat=2*n+1 by omega,Int.toNat_natCast]at k2;exact⟨l,q,k1,k2,k3⟩
def Bv(l:List Int):l.flatMap encI=l.map (Value.int .i64):=by
 induction l with
 |nil=>rfl
 |cons a l h=>rw[List.flatMap_cons,h];rfl
def ra(w:World)(x y:Value)(t:TypeId):∀j u,[x,y][j]? =some u->(w.alloc (cells #[x,y] t)).cell? ((⟨w.heap.size,0,none⟩:Addr).add j)=some u:=by
 intro j u h;match j,h with
 |0,h=>simp at h;subst h;simp[Addr.add,World.cell?_alloc_new]
 |1,h=>simp at h;subst h;simp[Addr.add,World.cell?_alloc_new]
 |n+2,h=>simp at h
end
section
open Go.RowKit
def G5(w:World)(a g:Nat)(s:Ar)(bud:Int)(P T:List Int)(e:Ending)(w':World):Prop:=
 ∃(B:Nat->Prop) (x:Hx) (s':Ar),x.a=a/\x.g=g/\e= returned (tuple #[↑x.l,J 0])/\aV B w' x (cE P T) bud s' (hm0 (cE P T))/\s'=⟨dz (hm0 (cE P T)).W P.length,s.room,0,0,0,false⟩/\(∀i,B i->w.heap.size<=i)/\w.heap.size<=x.q/\(∀v,v<P.length->w.heap.size<=x.qb v)/\aa [a] w w'
def IG{s:Ar}(h:aB w a g s)(hs:s.W=[])(L4:a≠g)(AP:Option Addr)(cP:Nat)(vT:Value)(P T:List Int)(hP:RdL w (.slice AP P.length cP) 1 encI P)(NO:∀i,(Value.slice AP P.length cP).ownBlock=some i->i≠a/\i<w.heap.size)(hT:RdL w vT 1 encI T)(hc:a5 P T=0)(bud:Int)(M':0<=bud)(hd1:bud<=1000)(V:s=⟨[],s.room,0,0,0,false⟩/\∀v,v<P.length->(dz (hm0 (cE P T)).W v).length+(2*(cE P T).nv v+1)<=s.room):E 104 #[↑a,agg #[.slice AP P.length cP,vT],J bud] w (G5 w a g s bud P T):=by
  obtain⟨i0,hi,Kt,Kv,ba⟩:=info_parts Tryz.infoSp;obtain⟨j0,hj,P1,P2,OT⟩:=info_parts Tryz.infoHr;have HJ:=qh (And.intro hj (And.intro P1 (And.intro P2 OT)));obtain⟨j1,MM,Xp,Xr,Xt⟩:=info_parts Tryz.infoHs;have Sd:=qh (And.intro MM (And.intro Xp (And.intro Xr Xt)));obtain⟨j2,WH,Xq,Xs,Xu⟩:=info_parts Tryz.infoHl;have Se:=qh (And.intro WH (And.intro Xq (And.intro Xs Xu)));clear hj P1 P2 OT MM Xp Xr Xt WH Xq Xs Xu;have KY:=bj (aR hc).1;refine ajz ?_;intro LV Me MG Mz;obtain⟨Of,Zb⟩:1<=P.length/\P.length<=32:=⟨KY.1,KY.2.1⟩;have H:=qh (And.intro h (And.intro LV (And.intro Me L4)));have HN:=qh (i2 (w.alloc (cells #[.slice AP P.length cP,vT] 24)) (.slice AP P.length cP) vT P T (hP.alloc _) (hT.alloc _) hc);have HS:=qh (And.intro hs V);have Ll:=qh hc;have Vx:=qh (And.intro hP NO);have HR:=qh (λW=>py bud W M' hd1);have ad:(w.alloc (cells #[.slice AP P.length cP,vT] 24)).heap.size=w.heap.size+1:=by simp
  have B0:=qh ((Below.refl w.heap.size w).alloc (Nat.le_refl _) (cells #[.slice AP P.length cP,vT] 24));have BX:=qh (Blk.new w 24 #[.slice AP P.length cP,vT]);clear h hs hP NO hT M' hd1 V KY LV Me L4 hc;go_enter func104,ntmps104;go_wp2_with fail;refine HN.o.mono ?_;rintro en w1 ⟨b,rfl,I,t1,b1⟩;rw[ad]at I t1 b1;refine akh ?_;intro K1;clear t1 b1 I HN;go_wp2_with fail;refine LT (HR.o _) ?_;go_wp2_with fail;refine LT (eg _ _ _ _ (K1.o.1.tab Ll.o)) ?_;go_wp2_with (refine wpList_make_full _ rfl (.tmp 37) (.tmp 37) 237 rfl w1.heap.size 113 i0 (agg #[J 0,J 0,J 0,J 0]) 4 Tryz.underlying237 hi Kt Kv .i64 .i64 T.length T.length T.length rfl rfl rfl rfl ?b2 ?b3 (Nat.le_refl _) ?_);case b2=>rw[ba];omega
  case b3=>unfold maxLen;omega
  intro w4 r' hg;have I:dE w4 w1.heap.size (List.replicate T.length Sp.zero):=by unfold dE;rw[px];have:=fY r';have e:(madeCells #[Value.int .i64 0,J 0,J 0,J 0] (T.length*4)).toList=List.replicate (T.length*4) (J 0):=mc _ _;exact aa2
  have t4:aa [] w1 w4:=aa.of_below ((Below.refl w1.heap.size w1).grown hg (Nat.le_refl _) (λj hj=>by cases hj));have Ml:=I.lt;have H4:=qh (And.intro I (And.intro t4 Ml));clear r' hg I t4 Ml;go_upto_region 7 with fail;obtain⟨q,hq⟩:=LE w1.heap.size;rw[<-hq]at H4 ⊢;have HQ:=qh hq;clear hq;obtain⟨l,hl⟩:=LE w4.heap.size;obtain⟨w5,Lt⟩:=LE (w4.alloc (.cells (vv bud (.slice none 0 0) (.slice none 0 0) q T.length) 247));have N6:=Lt;unfold vv at N6;rw[<-N6,<-hl];have t5:aa [] w4 w5:=by rw[Lt];exact(aa.refl _ _).alloc _
  have NF:w5.heap.size=l+1:=by rw[Lt,hl];simp
  have NQ:Blk w5 l 247 (vv bud (.slice none 0 0) (.slice none 0 0) q T.length):=by rw[Lt,hl];exact Blk.new _ _ _
  have HO:=qh (show a<w.heap.size/\g<w.heap.size/\a≠g/\w.heap.size+1<=b/\b<w1.heap.size/\w1.heap.size=q/\q<l/\w5.heap.size=l+1/\w.heap.size+1<=w1.heap.size from by
    have e1:b<w1.heap.size:=K1.o.1.low.2;have e2:=K1.o.2.2.2;have e3:=H4.o.2.2;have e4:=H.o;have e5:=HQ.o
    omega)
  have T5:=qh (show aa [] w1 w5 from H4.o.2.1.trans t5);have Tm:Kq (∀W,aa [l,b,a] w5 W->W.cell? w.heap.size=some (.slice AP P.length cP)/\Z W w.heap.size 1 vT/\RdL W (.slice AP P.length cP) 1 encI P):=qh λW Y=>by have o:=HO.o;have k1:aa [l,b,a] w1 W:=(T5.o.mono ahz).trans Y;have bx:=k1.blk K1.o.2.2.1 ahD;refine⟨bx.cell 0,bx.cell 1,?_⟩;have k0:RdL w1 (.slice AP P.length cP) 1 encI P:=Vx.o.1.below K1.o.2.1 (Nat.le_refl _);exact k0.turns k1 λg' Ol hm=>by have:=Vx.o.2 g' Ol;simp at hm;omega
  have TD:=qh (H4.o.1.turns (T:=[]) t5 ahz)
  have HI:=qh (show NwR w5 w5 l b a g q bud P T (cE P T) (λi=>w.heap.size+1<=i/\i<w1.heap.size) 0 (.slice none 0 0) (λ_=>0) (λ_=>0) s from by
    have o:=HO.o;refine⟨aa.refl _ _,NQ,World.ownsRow_nil _ _ _ _,?_,?_,⟨by rw[HS.o.1];exact HS.o.2.1,HS.o.2.2⟩,λv O=>absurd O (Nat.not_lt_zero _),λv O=>absurd O (Nat.not_lt_zero _),λv O=>absurd O (Nat.not_lt_zero _),λv u O=>absurd O (Nat.not_lt_zero _),λv u O=>absurd O (Nat.not_lt_zero _),.inl ⟨rfl,K1.o.1.turns T5.o ahz⟩⟩;. exact(H.o.1.turns (aa.of_below (S:=[]) K1.o.2.1) ahz ahz).turns T5.o ahz ahz
    . rw[HS.o.1];rfl)
  have h0:Kq (∀i,(w.heap.size+1<=i/\i<w1.heap.size)->i≠l/\i≠a/\i<w5.heap.size):=qh λi hi=>by have o:=HO.o;omega
  clear Lt N6 t5 NF NQ hl H4;obtain⟨f0,f1,_⟩:=Tm.o _ (aa.refl _ _);go_wp2;clear f0 f1;go_loopw [11,44] (λlf i wr=>∃(k:Nat) (vR:Value) (lb qb:Nat->Nat) (s1:Ar),lf= J ((am P k).length:Nat)/\i= J k/\k<=P.length/\NwR w5 wr l b a g q bud P T (cE P T) (λi=>w.heap.size+1<=i/\i<w1.heap.size) k vR lb qb s1/\s1.room=s.room) (λ_ i _=>P.length-(intOf i).toNat);case atStart=>exact⟨0,_,_,_,_,rfl,rfl,by omega,HI.o,rfl⟩
  case round=>
    clear HI;obtain⟨k,vR,lb,qb,s1,rfl,rfl,hk,Y,Nf⟩:=hrel;obtain⟨wo,rfl⟩:∃wo:World,wo=wr:=⟨_,rfl⟩;by_cases C':k<P.length
    . obtain⟨A,cap,rfl⟩:=bC Y.own;have HW:=qh (And.intro Y Nf);obtain⟨f0,f1,f2⟩:=Tm.o _ Y.tn;have Pz:=qh (xe wo (.slice AP P.length cP) vT P f2 ahy (k:Int));obtain⟨n0,ab⟩:=LE ((chL P k).length);rw[<-ab]at Pz;have PB:=qh ab;have LC:=a8 P k;clear Y Nf f2 ab;go_wp2_with fail;refine Pz.o.mono ?_;rintro en w2 ⟨v2,rfl,o2,b2⟩;obtain⟨A2,c2,rfl⟩:=bC o2;have MW:n0<=32:=(by have:=lj P k P.length;have:=PB.o;unfold chL at this;omega);have QR:=qh (And.intro (HW.o.1.below b2 ah0 ah0 ah0 ah0) HW.o.2);clear b2 o2 f0 f1 HW Pz;go_upto_if 52 with fail;go_cut [11,13] (λs11 s13 wx=>s11= J ((am P (k+1)).length:Nat)/\s13= J (nvT P T k:Nat)/\NwR w5 wx l b a g q bud P T (cE P T) (λi=>w.heap.size+1<=i/\i<w1.heap.size) k (.slice A k cap) lb qb s1/\(Di l a wx b P T (.slice A k cap)\/(am P (k+1)=[]/\gV (λi=>w.heap.size+1<=i/\i<w1.heap.size) wx b P T)))
      case first=>
        by_cases Pd:chL P k=[]
        . have L0:=(tE C').1 Pd;have HM:=qh (QR.o.1.mates Ll.o ah0 ah0 ah0 ah0 h0.o (D9 C' L0));have HV:=qh (show((am P (k+1)).length=(am P k).length+1)/\nvT P T k=max 1 (T.count (k:Int))from⟨by rw[cJ,if_pos L0];simp,by unfold nvT;rw[if_pos Pd]⟩);have Zd:T.count (k:Int)<=32:=Nat.le_trans List.count_le_length Mz;obtain⟨ct,Nz⟩:=LE (T.count (k:Int));rw[<-Nz]at HM HV Zd;have e0:n0=0:=(by rw[PB.o,Pd];rfl);subst e0;clear Pd L0 Nz;go_wp2_with fail;refine Pi HM.o λw3 O7=>?_;have H3:=qh (And.intro O7.o.1 O7.o.2.1);clear HM;go_wp2
          all_goals
            go_meet
            case rel=>
              refine⟨?_,?_,H3.o.1,.inl H3.o.2⟩;. rw[HV.o.1];go_num
              . rw[HV.o.2];exact congrArg (Value.int .i64) ahy
        . have L0:¬dq P k=true:=λe=>Pd ((tE C').2 e);have HV:=qh (show am P (k+1)=am P k/\nvT P T k=n0 from⟨by rw[cJ,if_neg L0],by unfold nvT;rw[if_neg Pd,PB.o]⟩);have e0:0<n0:=(by rw[PB.o];exact List.length_pos_iff.2 Pd);have e1:¬(n0:Int)=0:=(by omega);have e2:((n0:Int)==0)=false:=(by simpa using e1);clear Pd L0;go_wp2;go_meet
          case rel=>
            refine⟨by rw[HV.o.1],by rw[HV.o.2],QR.o.1,?_⟩;rcases QR.o.1.tab with⟨q1,q2⟩|q1
            . exact .inr ⟨by rw[HV.o.1];exact q1,q2⟩
            . exact .inl q1
      case rest=>
        obtain⟨rfl,rfl,O7,Wl⟩:=hcut;obtain⟨w3,rfl⟩:∃w3:World,w3=wc:=⟨_,rfl⟩;obtain⟨nv,OL⟩:=LE (nvT P T k);rw[<-OL];have Vq:=qh OL;have WX:1<=nv/\nv<=32:=(by rw[OL];exact vY Ll.o C');have VB:=qh (CL O7.ar nv WX.1 WX.2 (by have h9:=O7.room.2 k C';rw[O7.cat,OL];exact h9));have H3:=qh (And.intro O7 (And.intro Wl QR.o.2));clear O7 Wl QR OL PB MW;go_wp2_with fail;refine VB.o.mono ?_;rintro en w4 ⟨l',q',rfl,UL,WK,W6,t4⟩;have o:=HO.o;have O4:Blk w4 l 247 (vv bud (.slice A k cap) (.slice none 0 0) q T.length):=t4.blk H3.o.1.blk ahD;have o4:w4.ownsRow w5.heap.size 249 1 (.slice A k cap) k (ie lb k):=aa.own H3.o.1.own t4 (λx hx=>by have:=(H3.o.1.own.lt x hx).1;simp;omega);have P8:Z w4 l 1 (.slice A k cap):=O4.cell 1;have ea:w5.heap.size<=w4.heap.size:=Nat.le_trans H3.o.1.tn.size t4.size;have cT:l<w4.heap.size:=O4.lt;have Rw:(Value.slice A k cap).ownBlock≠some l:=(λe=>by have:=(H3.o.1.own.lt l e).1;omega);have H4:=qh (And.intro UL (And.intro WK (And.intro W6 t4)));have Vt:=qh o4;have Ve:=qh O4;clear UL WK W6 t4 o4 O4 VB o;go_wp2_with (at_builtin;refine wpList_append_lies _ rfl _ _ 244 rfl w5.heap.size 249 j0 (.pointer none) 1 8 Tryz.underlying244 HJ.o.1 HJ.o.2.1 HJ.o.2.2.1 HJ.o.2.2.2 rfl ahA _ _ _ rfl (Vt.o.alloc _) ⟨w4.heap.size,0,none⟩ 1 1 [pointer (some ⟨l',0,none⟩)] rfl rfl (cell_one_new _ _ _) ah3 ahA ?c3 ?c4 ?c5 _ rfl ?_);case c3=>unfold maxLen;omega
        case c4=>omega
        case c5=>simp;omega
        intro g3 Lv w7 h3 KQ NV UA;have M7:=(Ve.o.alloc (cells #[↑l'] 249)).grown KQ (λe=>Rw e.symm);have cV:Z w7 l 1 (.slice A k cap):=M7.cell 1;have ei:=M7.free 1
        have Mm:=qh (show NwR w5 (w7.setCell ⟨l,1,none⟩ (slice (some ⟨g3,0,none⟩) (k+1) Lv)) l b a g q bud P T (cE P T) (λi=>w.heap.size+1<=i/\i<w1.heap.size) (k+1) (slice (some ⟨g3,0,none⟩) (k+1) Lv) (aY lb k l') (aY qb k q') {s1 with W:=s1.W++List.replicate (2*nv+1) 0} from by
          have o:=HO.o;obtain rfl:=Vq.o
          exact H3.o.1.step H3.o.2.1 h0.o ahy ahy ahy ahy ahy rfl H4.o.1 H4.o.2.1 H4.o.2.2.1 H4.o.2.2.2 h3 KQ (by simpa using NV))
        have PE:=qh H3.o.2.2;clear h3 KQ NV M7 Ve Vt H4 H3 Vq;go_wp2;go_roundw;case rel=>exact⟨k+1,_,_,_,_,rfl,by go_num,by omega,Mm.o,PE.o⟩
        case measure=>simp[intOf];omega
    . obtain rfl:k=P.length:=by omega
      obtain⟨bR,cR,rfl,bP,bT⟩:=gO Y.own ahy;have c3:Z wo l 3 (slice (some ⟨q,0,none⟩) T.length T.length):=Y.blk.cell 3
      have Yx:Kq (∃B',dD B' wo b P T/\∀i,B' i->i≠l):=qh (by
        rcases Y.tab with⟨q1,_⟩|⟨B',q1,q2,_⟩
        . exfalso;obtain⟨x,a',_⟩:=xAt Ll.o (show 0<T.length by omega);have:=fO.2 a'.leaf;unfold ac at this;rw[q1]at this;cases this
        . exact⟨B',q1,λi hi=>(q2 i hi).1⟩)
      have Yl:=qh (TD.o.turns Y.tn ahH)
      have Lp:=qh (show NwL wo wo l q bud (cE P T) (slice (some ⟨bR,0,none⟩) P.length cR) lb 0 (.slice none 0 0) (λ_=>0) (λ_=>0)from
        ⟨aa.refl _ _,Y.blk,World.ownsRow_nil _ _ _ _,λt ht=>absurd ht (Nat.not_lt_zero _),λt ht=>absurd ht (Nat.not_lt_zero _)⟩)
      have Y0:w5.heap.size<=wo.heap.size:=Y.tn.size;have HW:=qh (And.intro Y Nf);clear Y Nf;go_wp2;clear c3;go_loopw [84] (λi wl=>∃(m:Nat) (vL:Value) (ub uk:Nat->Nat),i= J m/\m<=T.length/\NwL wo wl l q bud (cE P T) (slice (some ⟨bR,0,none⟩) P.length cR) lb m vL ub uk) (λi _=>T.length-(intOf i).toNat);case atStart=>exact⟨0,_,_,_,rfl,by omega,Lp.o⟩
      case round=>
        clear Lp;obtain⟨m,vL,ub,uk,rfl,hm,hL⟩:=hrel;obtain⟨wl,rfl⟩:∃wl:World,wl=wr:=⟨_,rfl⟩;by_cases SL:m<T.length
        . obtain⟨x,ax,ex⟩:=xAt Ll.o SL;obtain⟨A,cap,rfl⟩:=bC hL.own;have PH:Kq (∀W,Below wl.heap.size wl W->iJ W b P T/\Blk W l 247 (vv bud (slice (some ⟨bR,0,none⟩) P.length cR) (.slice A m cap) q T.length)/\(W.cell? w.heap.size=some (.slice AP P.length cP)/\Z W w.heap.size 1 vT/\RdL W (.slice AP P.length cP) 1 encI P)/\∀v,v<P.length->Z W bR v (pointer (some ⟨lb v,0,none⟩))):=qh λW Y=>by obtain⟨B',k1,k2⟩:=Yx.o;have tw:aa [l] wo W:=hL.tn.trans (aa.of_below Y);have o:=HO.o;refine⟨(k1.turns tw λi hi hB=>k2 i hB ah5).f,(hL.below Y).blk,Tm.o _ (HW.o.1.tn.trans (tw.mono ahz)),λv O=>?_⟩;have c:=HW.o.1.own.cellAt v ahy;rw[pw _ _ _ O]at c;exact tw.cell c ahD
          have Lr:l<wl.heap.size:=hL.blk.lt;obtain⟨D,hD⟩:=LE ((jq P T).toNat);have eb:1<=D/\D<=5:=(by rw[hD];exact⟨(ji Ll.o).d1,xZ Ll.o⟩);have TI:=Kg wl b P T m x ax.at_ (PH.o wl (Below.refl _ _)).1;rw[ax.len,<-hD]at TI;have HU:=qh TI;have HL:=qh hL;have HX:=qh (And.intro ax (And.intro ex hD));clear hL ax ex hD TI;go_wp2_with fail;refine HU.o.mono ?_;rintro en w7 ⟨v7,rfl,o7,b7⟩;obtain⟨bu,cu,rfl,bW,Zk⟩:=gO o7 ahy;have VK:Kq (∀W,Below w7.heap.size w7 W->∀c,c<D->Z W bu c (J (plX P x c))):=qh λW Y c Lb=>by have e:=o7.cellAt c ahy;have Wz:(upL P x)[c]? =some (plX P x c):=(by obtain⟨u,hu⟩:=ai (show c<(upL P x).length by rw[HX.o.1.len,<-HX.o.2.2];exact Lb);rw[hu];unfold plX;rw[bp hu]);have e2:((upL P x).flatMap encI)[c]? =some (J (plX P x c)):=(by have:(upL P x).flatMap encI=(upL P x).map (Value.int .i64):=Bv _;rw[this,List.getElem?_map,Wz];rfl);rw[e2]at e;exact(Y.cell (p:=⟨bu,c,none⟩) Zk).trans e
          have H7:=qh b7;have Q1:wl.heap.size<=w7.heap.size:=b7.size;clear o7 b7 HU;go_wp2;go_loopw [17,92] (λlv i wi=>∃(c:Nat),i= J c/\c<=D/\Below w7.heap.size w7 wi/\wi.ownsRow w7.heap.size 255 2 lv c (gf lb (cE P T) m c)) (λ_ i _=>D-(intOf i).toNat);case atStart=>exact⟨0,rfl,by omega,Below.refl _ _,World.ownsRow_nil _ _ _ _⟩
          case round=>
            obtain⟨c,rfl,Lb,Qe,Qj⟩:=hrel;obtain⟨wi,rfl⟩:∃wi:World,wi=wr:=⟨_,rfl⟩;by_cases Un:c<D
            . obtain⟨v,_,al,UV,_,_⟩:=HX.o.1.up c (by rw[<-HX.o.2.2];exact Un);have YS:=VK.o wi Qe c Un;have Yf:=qh (show(cE P T).pl m c=v from by show(plX P (T.getD m 0) c).toNat=v;rw[HX.o.2.1,UV,Int.toNat_natCast]);rw[UV]at YS;obtain⟨g0,g1,⟨g2,g3,g4⟩,g5⟩:=PH.o wi (H7.o.trans (Qe.mono Q1));have VE:=qh (Fi wi b P T m SL g0);obtain⟨A3,c3,rfl⟩:=bC Qj;have HI:=qh (And.intro Qe Qj);have HV:=qh UV;clear g0 g1 g2 g3 g4 g5 Qe Qj;go_wp2_with fail;refine LT VE.o ?_;clear VE;go_upto_if 101 with fail;go_cut [21] (λbc wx=>bc= J ((cE P T).sl m c:Nat)/\Below wi.heap.size wi wx)
              case first=>
                by_cases hc0:c=0;. subst hc0;have H':=qh (slT Ll.o SL HX.o.1 (k:=0) (by rw[<-HX.o.2.2];omega));go_wp2;go_meet;case rel=>exact⟨by rw[H'.o];rfl,Below.refl _ _⟩
                . obtain⟨d,rfl⟩:∃d,c=d+1:=⟨c-1,by omega⟩;obtain⟨c,hc⟩:=LE (d+1);obtain⟨v0,_,cU,Xj,_,_⟩:=HX.o.1.up d (by rw[<-HX.o.2.2];omega)
                  have H':=qh (show(((cE P T).sl m (d+1):Nat):Int)=fM (chL P v) v0 from by
                    rw[slT Ll.o SL HX.o.1 (k:=d+1) (by rw[<-HX.o.2.2];exact Un)];show fM (chL P (plX P x (d+1))) (plX P x d)=_
                    rw[HV.o,Xj])
                  have TU:=VK.o wi HI.o.1 d ahy;rw[Xj]at TU;obtain⟨g0,g1,⟨g2,g3,g4⟩,g5⟩:=PH.o wi (H7.o.trans (HI.o.1.mono Q1));have Pz:=qh (xe wi.drew (.slice AP P.length cP) vT P (show RdL wi.drew (.slice AP P.length cP) 1 encI P from g4) ahy (v:Int));have UP:w.heap.size<wi.heap.size:=(by have:=HO.o;have:=HI.o.1.size;omega);have Ls:bu<wi.heap.size:=(by have:=HI.o.1.size;omega);have cM:(chL P v).length<=32:=(by have:=lj P v P.length;unfold chL;omega);have x1:IntKind.i64.wrap (((d:Nat):Int)+1-1)=(d:Int):=(by rw[Int.add_sub_cancel];exact IntWalk.i64_in _ ahy);have x2:(d:Int)<(D:Int):=(by omega);have x4:IntKind.i64.wrap (d:Int)=(d:Int):=IntWalk.i64_in _ ahy;have x5:¬(d:Int)<0:=(by omega);have x6:¬(D:Int)<=(d:Int):=(by omega);have x3:d<D:=(by omega);clear g0 g1 g4 g5 hc;go_wp2
                  go_region_held3 (λW=>W.cell? w.heap.size=some (.slice AP P.length cP)/\Z W w.heap.size 1 vT/\Z W bu d (J v0))
                    (first|exact⟨g2,g3,TU⟩|exact K8.o)
                    (first
                      | (go_at_call 140;go_loud (refine Pz.o.mono ?_);rintro en w8 ⟨v8,rfl,o8,b8⟩;have B8:=qh (show Below wi.heap.size wi w8 from⟨b8.os,b8.tape,b8.output,b8.size,b8.block⟩);have K8:=qh (And.intro ((B8.o.cell (p:=w.heap.size) UP).trans g2) (And.intro ((B8.o.cell (p:=⟨w.heap.size,1,none⟩) UP).trans g3) ((B8.o.cell (p:=⟨bu,d,none⟩) Ls).trans TU)));have Sc:=qh (mF w8 v8 (chL P v) v0 (dP o8 ahy));clear o8 b8)
                      | (go_at_call 119;go_loud (refine LT Sc.o ?_)))
                  all_goals go_wp2;go_meet;case rel=>exact⟨by rw[H'.o],B8.o⟩
              case rest=>
                obtain⟨rfl,Mb⟩:=hcut;obtain⟨wx,rfl⟩:∃wx:World,wx=wc:=⟨_,rfl⟩;have Sw:Below w7.heap.size w7 wx:=HI.o.1.trans (Mb.mono HI.o.1.size);have W4:wx.ownsRow w7.heap.size 255 2 (.slice A3 c c3) c (gf lb (cE P T) m c):=aa.own HI.o.2 (aa.of_below (S:=[]) Mb) ahz;obtain⟨g0,g1,_,g5⟩:=PH.o wx (H7.o.trans (Sw.mono Q1));have c1:Z wx l 1 (slice (some ⟨bR,0,none⟩) P.length cR):=g1.cell 1;have g6:=g5 v al;have HY:=qh (And.intro Sw W4);have Y1:w7.heap.size<=wx.heap.size:=Sw.size;have ec:l<wx.heap.size:=(by omega);have cp:bR<wx.heap.size:=(by have:=aM g6;exact this);have y1:(v:Int)<(P.length:Int):=(by omega);have y2:¬(v:Int)<0:=(by omega);clear g0 g1 g5 Sw W4 Mb HI;go_wp2_with (at_builtin;refine wpList_append_lies _ rfl _ _ 252 rfl w7.heap.size 255 j1 (agg #[.pointer none,J 0]) 2 16 Tryz.underlying252 Sd.o.1 Sd.o.2.1 Sd.o.2.2.1 Sd.o.2.2.2 rfl ahA _ _ _ rfl (HY.o.2.alloc _) ⟨wx.heap.size,0,none⟩ 1 1 [pointer (some ⟨lb v,0,none⟩),J ((cE P T).sl m c:Nat)] rfl rfl (ra _ _ _ _) ah3 ahA ?c3 ?c4 ?c5 _ rfl ?_);case c3=>unfold maxLen;omega
                case c4=>omega
                case c5=>first|(simp;omega)|omega
                intro g3 Lv w9 h9 Ph SH ZP;have H9:=qh (And.intro h9 Ph);clear h9 Ph SH;go_wp2;go_roundw;case rel=>exact⟨c+1,by go_num,by omega,(HY.o.1.alloc Y1 _).grown H9.o.2 ahD (λj hj=>(HY.o.2.lt j hj).1),by rw[jy,Yf.o];exact H9.o.1⟩
                case measure=>simp[intOf];omega
            . obtain rfl:c=D:=by omega
              obtain⟨nb,cv,rfl,ZW,ZX⟩:=gO Qj ahy;have Rk:Below wl.heap.size wl wi:=H7.o.trans (Qe.mono Q1);obtain⟨_,g1,_,_⟩:=PH.o wi Rk;have c2:Z wi l 2 (.slice A m cap):=g1.cell 2;have HY:=qh (And.intro Rk (And.intro (dg Qj Q1) (And.intro g1 (HL.o.below Rk).own)));have SV:wo.heap.size<=wi.heap.size:=Nat.le_trans HL.o.tn.size Rk.size;have Ry:l<wi.heap.size:=g1.lt;have Rw:(Value.slice A m cap).ownBlock≠some l:=(λe=>by have:=(HL.o.own.lt l e).1;have:=HO.o;omega);clear Qe Qj g1 Rk;go_wp2_with (at_builtin;refine wpList_append_lies _ rfl _ _ 245 rfl wo.heap.size 252 j2 (.slice none 0 0) 1 24 Tryz.underlying245 Se.o.1 Se.o.2.1 Se.o.2.2.1 Se.o.2.2.2 rfl ahA _ _ _ rfl (HY.o.2.2.2.alloc _) ⟨wi.heap.size,0,none⟩ 1 1 [slice (some ⟨nb,0,none⟩) c cv] rfl rfl (cell_one_new _ _ _) ah3 ahA ?c3 ?c4 ?c5 _ rfl ?_);case c3=>unfold maxLen;omega
              case c4=>omega
              case c5=>simp;omega
              intro g9 c9 w9 h9 Ph SH ZP;have Mt:=(HY.o.2.2.1.alloc (cells #[slice (some ⟨nb,0,none⟩) c cv] 252)).grown Ph (λe=>Rw e.symm);have ds:Z w9 l 2 (.slice A m cap):=Mt.cell 2;have ej:=Mt.free 2
              have X8:=qh (show NwL wo (w9.setCell ⟨l,2,none⟩ (slice (some ⟨g9,0,none⟩) (m+1) c9)) l q bud (cE P T) (slice (some ⟨bR,0,none⟩) P.length cR) lb (m+1) (slice (some ⟨g9,0,none⟩) (m+1) c9) (aY ub m nb) (aY uk m cv)from by
                have o:=HO.o;obtain rfl:=HX.o.2.2
                exact HL.o.step ahy (ji Ll.o).d1 HY.o.1 HY.o.2.1 h9 Ph (by simpa using SH))
              clear h9 Ph SH Mt HY;go_wp2;go_roundw;case rel=>exact⟨m+1,_,_,_,by go_num,by omega,X8.o⟩
              case measure=>simp[intOf];omega
        . obtain rfl:m=T.length:=by omega
          obtain⟨bL,cL,rfl,bA,bF⟩:=gO hL.own ahy;have HL:=qh hL;clear hL;go_wp2;go_ret2;have o:=HO.o;obtain⟨K,KB⟩:=J1 (lo:=w.heap.size) HW.o.1 HL.o Yl.o (ji Ll.o) (xZ Ll.o) Mz Zb ahy ahy ahy ahy ahy;refine⟨_,_,s1,rfl,rfl,rfl,K,by have e:=HW.o.1.room.1;rw[HW.o.1.cat,HW.o.2]at e;exact e,KB,by show w.heap.size<=q;omega,λv O=>?_,?_⟩;. have:=(HW.o.1.lo v O).2.1;show w.heap.size<=qb v;omega
          . have bw:aa [a,l,b] w w5:=(aa.of_below (S:=[a,l,b]) K1.o.2.1).trans (T5.o.mono ahz);have Te:aa [a,l,b] w wl:=(bw.trans (HW.o.1.tn.mono ahz)).trans (HL.o.tn.mono ahz);exact Te.fresh λi hi=>by simp at hi ⊢;omega
end
section
open Go Go.RowKit
variable{T:HTr}
def hmV(xl:Nat):Value:= .iface 173 (agg #[.iface 174 ↑xl])
structure HmA where
 s:Ar
 m:Hm
structure HmB where
 x:Hx
 B:Nat->Prop
 bt:Nat
 hi:Nat
def BZ(T:HTr)(bud:Int):LkM T.n where
 σ:=HmA
 β:=HmB
 ok:=λst N=>(∃hb,eu T bud st.m hb)/\st.s.ops<=N
 ar:=λst=>st.s
 sp:=λst i=>sv st.m.S i
 cn:=λst i=>if (sv st.m.S i).pc=10 then(st.m.sp (T.pl i 0) (T.sl i 0)).a else 0
 rd:=false
 step:=λst i=>⟨jR T st.s st.m i,stepI T bud st.m i⟩
 ask:=λst i r=>if r then st else⟨st.s,li T st.m i⟩
 leave:=λst i=>⟨st.s,gA T bud st.m i⟩
 bt:=λb=>b.bt
 hi:=λb=>b.hi
 fp:=λb=>mvL b.x T
 is:=λb w a g lb st=>aV b.B w b.x T bud st.s st.m/\(b.x.a=a/\b.x.g=g)/\jH w lb T.n 7 (hmV b.x.l) (mvL b.x T) b.bt b.hi/\∀i,b.B i->b.bt<=i/\i<b.hi
def qw(T:HTr)(s:Ar)(m:Hm)(i:Int):(jR T s m i).ops<=s.ops+1:=by
 unfold jR;split;.omega
 .exact qK _ _ _ _
def eu.okN{m:Hm}{H:Nat->Nat->Option Nat}(h:eu T bud m H){i:Nat}(hi:i<T.n):okI m.S (i:Int)/\getS m.S (i:Int)=sv m.S i:=by
 have I:i<m.S.length:=by rw[(h.x 0).sl];exact hi
 exact⟨⟨by omega,by omega⟩,dR I⟩
def y7(H:T.Ok)(hn:1<=T.n/\T.n<=32)(I:0<=bud/\bud<=1000):(BZ T bud).Good where
 n32:=hn
 okS:=fun(st:HmA) N i h hN hi=>by
  obtain⟨⟨O,h⟩,Y⟩:=h
  have:=qw T st.s st.m i
  exact⟨by have:=h.act H I.1 0 (i:Int);exact this,by show(jR T st.s st.m i).ops<=_;omega⟩
 okA:=fun(st:HmA) N i r h hN hi=>by
  obtain⟨⟨O,h⟩,Y⟩:=h
  cases r
  .exact⟨by have:=h.act H I.1 1 (i:Int);exact this,by show st.s.ops<=_;omega⟩
  .exact⟨⟨O,h⟩,by show st.s.ops<=_;omega⟩
 okL:=fun(st:HmA) N i h hN hi=>by
  obtain⟨⟨O,h⟩,Y⟩:=h
  exact⟨by have:=h.act H I.1 2 (i:Int);exact this,by show st.s.ops<=_;omega⟩
 okm:=fun(st:HmA) N h=>⟨h.1,by have:=h.2;omega⟩
 one:=fun(st:HmA) N i j h hi hj h1 h2 _=>by obtain⟨⟨O,h⟩,_⟩:=h;exact h.one H hi hj h1 h2
 pcs:=fun(st:HmA) N i h hi=>by
  obtain⟨⟨O,h⟩,_⟩:=h
  obtain⟨K,k,_⟩:=h.t i hi
  show 0<=(sv st.m.S i).pc
  cases k<;>omega
 cnt:=fun(st:HmA) N i h hi=>by
  obtain⟨⟨O,h⟩,_⟩:=h
  have hd:=H.d1
  show(sv st.m.S i).pc=10↔0<(if (sv st.m.S i).pc=10 then(st.m.sp (T.pl i 0) (T.sl i 0)).a else 0)
  split
  .rename_i e
   obtain⟨K,k,_⟩:=h.t i hi
   have e0:(st.m.sp (T.pl i 0) (T.sl i 0)).pc=10:=by
    cases k with
    |hold _ I=>exact I 0 ahy
    |rest h=>omega
    |come _ h=>omega
    |granted _ h=>omega
    |pass _ h=>omega
    |leave _ h=>omega
   have:=((h.x 0).va _ _ (H.plt i 0 hi ahy) (H.slt i 0 hi ahy)).1 (.inl e0)
   exact⟨λ_=>by omega,λ_=>e⟩
  .rename_i e;exact⟨λq=>absurd q e,λq=>by omega⟩
 opsS:=fun(st:HmA) N i _ _ _=>qw T st.s st.m i
 arA:=fun(st:HmA) i r=>by cases r<;>rfl
 arL:=fun(st:HmA) i=>rfl
 ais:=fun(b:HmB) w a g lb (st:HmA) h=>by obtain⟨k,⟨rfl,rfl⟩,_⟩:=h;exact k.ar
 lk:=fun(b:HmB) w a g lb (st:HmA) h=>h.2.2.1.c1
 kd:=fun(b:HmB) w a g lb (st:HmA) h=>⟨7,h.2.2.1.blk.cell 0,rfl⟩
 fpa:=fun(b:HmB) w a g lb (st:HmA) h=>⟨λx hx=>(h.2.2.1.fl x hx).2,h.2.2.1.hw⟩
 far:=fun(b:HmB) w a g lb (st:HmA) w' S h t hS=>by
  obtain⟨k,hc,hd,hl⟩:=h
  have h9:∀x∈S,b.hi<=x\/x<b.bt:=hS
  exact⟨k.turns t (λi m I=>by have:=hl i I;have:=h9 i m;omega) (λi m hm=>by have:=hd.fl i hm;have:=h9 i m;omega),hc,hd.far t h9,hl⟩
 cS:=fun(b:HmB) w a g lb (st:HmA) N i h hk hN hi=>by
  unfold lkB at hN
  obtain⟨k,hc,hd,hl⟩:=h
  obtain⟨⟨O,hI⟩,Y⟩:=hk
  obtain⟨O',Za⟩:∃O,eu T bud (stepI T bud st.m i) O:=hI.act H I.1 0 (i:Int)
  refine(oJ .hm hd.c1 hd.c2 hi (R:=λr w'=>r=dm (sv st.m.S i) (sv (stepI T bud st.m i).S i)/\aV b.B w' b.x T bud (jR T st.s st.m i) (stepI T bud st.m i)/\aa (mvL b.x T) w w') λW bw=>?_).mono ?_
  .refine(GQ (k.below bw) H hI I ahy (i:Int)).mono ?_
   rintro e w' ⟨rfl,k2,_,t2⟩
   exact⟨_,rfl,by rw[(hI.okN hi).2,(Za.okN hi).2];rfl,k2,(aa.of_below bw).trans t2⟩
  .exact abj
 cA:=fun(b:HmB) w a g lb (st:HmA) N i r h hk hN hi=>by
  obtain⟨k,hc,hd,hl⟩:=h
  obtain⟨⟨O,hI⟩,Y⟩:=hk
  refine(yL .hm hd.c1 hd.c2 hi r (R:=λq w'=>q=decide ((sv st.m.S i).pc=0/\(r=true->(false:Bool)=true))/\(aV b.B w' b.x T bud (if r then st else⟨st.s,li T st.m i⟩:HmA).s (if r then st else⟨st.s,li T st.m i⟩:HmA).m)/\aa (mvL b.x T) w w') (λV W bw=>?_) (λV W bw=>?_)).mono ?_
  .subst V
   refine(Hd (k.below bw) H (i:Int)).mono ?_
   rintro e w' ⟨rfl,k2,t2⟩
   exact⟨_,rfl,by rw[(hI.okN hi).2];simp[(hI.okN hi).1],k2,(aa.of_below bw).trans t2⟩
  .exact aaF
  .exact abj
 cL:=fun(b:HmB) w a g lb (st:HmA) N i h hk hN hi=>by
  obtain⟨k,hc,hd,hl⟩:=h
  obtain⟨⟨O,hI⟩,Y⟩:=hk
  refine(kU .hm hd.c1 hd.c2 hi (R:=λq w'=>q=decide ((sv st.m.S i).pc=10)/\aV b.B w' b.x T bud st.s (gA T bud st.m i)/\aa (mvL b.x T) w w') λW bw=>?_).mono ?_
  .refine(Ec (k.below bw) H hI I (i:Int)).mono ?_
   rintro e w' ⟨rfl,k2,t2⟩
   exact⟨_,rfl,by rw[(hI.okN hi).2],k2,(aa.of_below bw).trans t2⟩
  .exact abj
 cP:=fun(b:HmB) w a g lb (st:HmA) i h hi=>oI .hm h.2.2.1.c1 h.2.2.1.c2 hi _ λW bw=>by
  have:=j7 (h.1.below bw) (i:Int)
  rwa [dR (by rw[h.1.sn];exact hi)]at this
 cC:=fun(b:HmB) w a g lb (st:HmA) i h hi=>sU .hm h.2.2.1.c1 h.2.2.1.c2 hi _ λW bw=>by
  have:=DF (h.1.below bw) H (i:Int)
  have hl:i<st.m.S.length:=by rw[h.1.sn];exact hi
  have mP:okI st.m.S (i:Int):=⟨by omega,by omega⟩
  rw[show kT T st.m (i:Int)=(BZ T bud).cn st i by
   unfold kT
   rw[dR hl]
   show _=if (sv st.m.S i).pc=10 then(st.m.sp (T.pl i 0) (T.sl i 0)).a else 0
   simp only[mP,true_and,Int.toNat_natCast]]at this
  exact this
end
end Go.Proofs.YtglokdbiggbkjaaGreat
