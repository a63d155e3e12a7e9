/- Joined texts. -/
import Derived.Deep.RegionLaw
import Derived.Deep.AppendLies
import Derived.Deep.RegionHeld3
import Derived.Deep.DeepCutAuto
import Derived.Test.YtglokdbiggbkjaaGreatMgBoltLoops0
import Derived.Test.YtglokdbiggbkjaaGreatMgBoltLoops2
import Derived.Test.YtglokdbiggbkjaaGreatMgBoltLoops3
import Derived.Test.YtglokdbiggbkjaaGreatMgBoltLoops9
import Derived.Test.YtglokdbiggbkjaaGreatMgBoltLoops11
import Derived.Test.YtglokdbiggbkjaaGreatMgBoltLoops21
import Derived.Test.YtglokdbiggbkjaaGreatMgBoltLoops22
import Derived.Test.YtglokdbiggbkjaaGreatMgBoltLoops24
set_option linter.unusedVariables false
set_option linter.unusedSimpArgs false
set_option linter.defProp false
set_option maxRecDepth 100000
set_option maxHeartbeats 16000000
open Go.Proofs.Tryz
namespace Go.Proofs.YtglokdbiggbkjaaGreat
open Go.IntKind(i64)
open Go.Value(int bool slice agg tuple pointer)
open Go.Ending(returned)
open Go.Obj(cells)
variable{bud i z p:Int}{n v j k l b a g q V:Nat}{w w' w5:World}{ho:Nat->Nat->Option Nat}{P T:List Int}{B0:Nat->Prop}{vR:Value}{lb qb:Nat->Nat}{A:Option Addr}{o:Obj}
section
open Go Go.RowKit
variable{nd:List Int}{h:Cn}
def cnV(l:Nat):Value:= .iface 181 (agg #[.iface 182 ↑l])
structure CnB where
 c:Cx
 cap:Nat
 bt:Nat
 hi:Nat
def cnF(b:CnB):List Nat:=[b.c.a,b.c.g,b.c.q,b.c.k]
def xL(bud:Int)(nd:List Int)(n:Nat):LkM n where
 σ:=Cn
 β:=CnB
 ok:=λst N=>CtS n st/\st.ar.ops<=N
 ar:=λst=>st.ar
 sp:=λst i=>sv st.S i
 cn:=λst i=>if (sv st.S i).pc=10 then 1 else 0
 rd:=false
 step:=λst i=>(fK n (ndf nd) bud st i).1
 ask:=λst i r=>if r then st else(bS st i 0 1).1
 leave:=λst i=>(bS st i 10 11).1
 bt:=λb=>b.bt
 hi:=λb=>b.hi
 fp:=cnF
 is:=λb w a g lb st=>ao w b.c b.cap bud nd st/\(b.c.a=a/\b.c.g=g)/\jE w lb n 9 (cnV b.c.l) (cnF b) b.bt b.hi/\∀x∈[b.c.l,b.c.n1,b.c.nb,b.c.b0,b.c.b1,b.c.b2],b.bt<=x/\x<b.hi
def ao.far{c:Cx}{cap:Nat}{S:List Nat}(k:ao w c cap bud nd h)(t:aa S w w')(h1:∀x∈[c.a,c.g,c.q,c.k],x∉S)(H:∀x∈[c.l,c.n1,c.nb,c.b0,c.b1,c.b2],x∉S):ao w' c cap bud nd h:=by simp only[List.mem_cons,List.not_mem_nil,or_false,forall_eq_or_imp,forall_eq]at h1 H;obtain⟨I,O,V,Y⟩:=h1;obtain⟨y1,y2,y3,y4,y5,y6⟩:=H;refine⟨k.ar.turns t I O,t.blk k.lk y1,k.sp.turns t V,k.wk.turns t Y y2,λm hm=>?_,t.blk k.p0 y4,t.blk k.p1 y5,t.blk k.p2 y6,k.sl,k.n32,k.nd4,k.st⟩;rw[t.cellC (aI (k.row m hm)) y3];exact k.row m hm
def CtS.ccond(k:CtS n h)(hn:n<=32)(V:h.ar.ops+1<=1000000000000):p6 n h:=by
 have O:∀(j:Nat) (p:Sp),h.S[j]? =some p->j<n/\sv h.S j=p:=λj p H=>⟨by rw[<-k.len];exact(List.getElem?_eq_some_iff.1 H).1,by unfold sv;rw[List.getD_eq_getElem?_getD,H];rfl⟩;have wb:=k.i.wb;unfold WkB at wb;refine⟨V,λj p H=>?_,⟨⟨wb.2.2.1,wb.2.2.2⟩,by omega,by omega⟩,λj p H e=>?_,λj p H=>?_⟩;.obtain⟨I,rfl⟩:=O j p H;have h1:=k.i.sp j I;have Y:=k.i.c1 j I;exact⟨by omega,by omega,λe=>by omega⟩
 .obtain⟨I,rfl⟩:=O j p H;exact k.i.w3 j I e
 .obtain⟨I,rfl⟩:=O j p H;exact k.i.pcs j I
def Au(st:Cn)(i:Nat)(hi:i<st.S.length)(u v:Int):(bS st i u v).1=(if (sv st.S i).pc=u then⟨st.ar,st.wk,st.S.set i {sv st.S i with pc:=v}⟩else st)/\(bS st i u v).2=decide ((sv st.S i).pc=u):=by unfold bS;rw[gO hi,Int.toNat_natCast];exact abc
def sP{node:Nat->Int}(st:Cn)(i:Nat)(hi:i<st.S.length):(fK n node bud st i).2=di (sv st.S i) (sv (fK n node bud st i).1.S i):=by
 unfold fK;rw[gO hi,Int.toNat_natCast];unfold di;split
 .rename_i h;simp only[gk hi,if_true];by_cases c:(ah n node bud st i (sv st.S i)).2.2.pc=0\/(ah n node bud st i (sv st.S i)).2.2.pc=10;.exact aaE
  .exact aaF
 .exact abd
theorem oe(n:Nat)(node:Nat->Int)(bud:Int)(st:Cn)(i:Nat):(fK n node bud st i).1.ar.ops<=st.ar.ops+1:=by
 have h1:=λx v=>ij st.ar x v;have H:=λx=>iW st.ar x;have I:=λx o v=>nX st.ar x o v;have O:=λx v=>jF st.ar x v;have V:=λx v=>fg st.ar x v;unfold fK;split
 .show(ah n node bud st (i:Int).toNat (getS st.S i)).1.ops<=_;unfold ah;split;.unfold inC;grind (splits:=40)
  .split;.unfold jM;grind (splits:=40)
   .split;.unfold mD;grind (splits:=40)
    .unfold eb;grind (splits:=40)
 .simp
def vO(hn:1<=nd.length/\nd.length<=32):(xL bud nd nd.length).Good where
 n32:=hn
 okS:=fun(st:Cn) N i h hN hi=>⟨h.1.step (ndf nd) bud hi,Nat.le_trans (oe _ _ _ st i) (by have:=h.2;omega)⟩
 okA:=fun(st:Cn) N i r h hN hi=>by
  cases r
  .refine⟨h.1.beg hi (.inl ⟨rfl,rfl⟩),?_⟩
   show(bS st i 0 1).1.ar.ops<=_
   have:(bS st i 0 1).1.ar=st.ar:=by unfold bS;split<;>rfl
   rw[this];have:=h.2;omega
  .exact⟨h.1,by have:=h.2;show st.ar.ops<=_;omega⟩
 okL:=fun(st:Cn) N i h hN hi=>by
  refine⟨h.1.beg hi (.inr ⟨rfl,rfl⟩),?_⟩
  show(bS st i 10 11).1.ar.ops<=_
  have:(bS st i 10 11).1.ar=st.ar:=by unfold bS;split<;>rfl
  rw[this];have:=h.2;omega
 okm:=fun(st:Cn) N h=>⟨h.1,by have:=h.2;omega⟩
 one:=fun(st:Cn) N i j h hi hj h1 h2 _=>h.1.one hi hj h1 h2
 pcs:=fun(st:Cn) N i h hi=>by have:=h.1.i.pcs i hi;show 0<=(sv st.S i).pc;omega
 cnt:=fun(st:Cn) N i h hi=>by
  exact aaG
 opsS:=fun(st:Cn) N i _ _ _=>oe _ _ _ st i
 arA:=fun(st:Cn) i r=>by
  cases r
  .show(bS st i 0 1).1.ar=st.ar
   unfold bS;split<;>rfl
  .rfl
 arL:=fun(st:Cn) i=>by
  show(bS st i 10 11).1.ar=st.ar
  unfold bS;split<;>rfl
 ais:=fun(b:CnB) w a g lb (st:Cn) h=>by obtain⟨k,⟨rfl,rfl⟩,_⟩:=h;exact k.ar
 lk:=fun(b:CnB) w a g lb (st:Cn) h=>h.2.2.1.c1
 kd:=fun(b:CnB) w a g lb (st:Cn) h=>⟨9,h.2.2.1.blk.cell 0,rfl⟩
 fpa:=fun(b:CnB) w a g lb (st:Cn) h=>⟨λx H=>(h.2.2.1.fl x H).2,h.2.2.1.hw⟩
 far:=fun(b:CnB) w a g lb (st:Cn) w' S h t hS=>by
  obtain⟨k,hc,hd,hl⟩:=h
  have Y:∀x∈S,b.hi<=x\/x<b.bt:=hS
  exact⟨k.far t (λx H m=>by have:=hd.fl x H;have:=Y x m;omega) (λx H m=>by have:=hl x H;have:=Y x m;omega),hc,hd.far t Y,hl⟩
 cS:=fun(b:CnB) w a g lb (st:Cn) N i h hk hN hi=>by
  obtain⟨k,hc,hd,hl⟩:=h
  refine(oC .cn hd.c1 hd.c2 hi (R:=λr w'=>r=di (sv st.S i) (sv (fK nd.length (ndf nd) bud st i).1.S i)/\ao w' b.c b.cap bud nd (fK nd.length (ndf nd) bud st i).1/\aa (cnF b) w w') λW bw=>?_).mono ?_
  .refine(GU (k.below bw) (i:Int) (hk.1.ccond hn.2 (by have:=hk.2;unfold lkB at hN;omega))).mono ?_
   rintro e w' ⟨rfl,O,t2⟩
   exact⟨_,rfl,sP st i (by rw[k.sl];exact hi),O,(aa.of_below bw).trans t2⟩
  .exact abm
 cA:=fun(b:CnB) w a g lb (st:Cn) N i r h hk hN hi=>by
  obtain⟨k,hc,hd,hl⟩:=h
  have V:i<st.S.length:=by rw[k.sl];exact hi
  refine(yO .cn hd.c1 hd.c2 hi r (R:=λq w'=>q=decide ((sv st.S i).pc=0/\(r=true->(false:Bool)=true))/\ao w' b.c b.cap bud nd (if r then st else(bS st i 0 1).1)/\aa (cnF b) w w') (λI W bw=>?_) (λI W bw=>?_)).mono ?_
  .subst I
   refine(He (k.below bw) (i:Int)).mono ?_
   rintro e w' ⟨rfl,O,t2⟩
   exact⟨_,rfl,by rw[(Au st i V 0 1).2];simp,O,(aa.of_below bw).trans t2⟩
  .exact aaI
  .exact abm
 cL:=fun(b:CnB) w a g lb (st:Cn) N i h hk hN hi=>by
  obtain⟨k,hc,hd,hl⟩:=h
  have V:i<st.S.length:=by rw[k.sl];exact hi
  refine(kT .cn hd.c1 hd.c2 hi (R:=λq w'=>q=decide ((sv st.S i).pc=10)/\ao w' b.c b.cap bud nd (bS st i 10 11).1/\aa (cnF b) w w') λW bw=>?_).mono ?_
  .refine(Eb (k.below bw) (i:Int)).mono ?_
   rintro e w' ⟨rfl,O,t2⟩
   exact⟨_,rfl,(Au st i V 10 11).2,O,(aa.of_below bw).trans t2⟩
  .exact abm
 cP:=fun(b:CnB) w a g lb (st:Cn) i h hi=>oA .cn h.2.2.1.c1 h.2.2.1.c2 hi _ λW bw=>by
  exact abn
 cC:=fun(b:CnB) w a g lb (st:Cn) i h hi=>oz .cn h.2.2.1.c1 h.2.2.1.c2 hi _ λW bw=>by
  exact abn
end
section
open Go.RowKit
section
variable{B:Nat->Prop}{x:Hx}{T:HTr}{s s':Ar}{m:Hm}
def EL(m:Hm)(h:j<(m.P v).length):(rstH m v j).sp v j=(de (arW (m.W v)) 1 ((j:Int)+1) (m.sp v j)).2:=by unfold Hm.sp rstH;show sv (aY m.P v _ v) j=_;rw[aX,be,if_pos ⟨rfl,h⟩];rfl
def EM(m:Hm){u:Nat}(h:u≠v):(rstH m v j).sp u k=m.sp u k:=by unfold Hm.sp rstH;show sv (aY m.P v _ u) k=_;rw[aZ _ _ h]
def ew.va10(h:ew T bud m ho)(H:T.Ok)(hb:0<=bud/\bud<=1000)(O:n<T.n)(I:k<T.D)(h10:(m.sp (T.pl n k) (T.sl n k)).pc=10):0<=(m.sp (T.pl n k) (T.sl n k)).a/\(m.sp (T.pl n k) (T.sl n k)).a<=2000:=by have:=((h.x n).va (T.pl n k) (T.sl n k) (H.plt n k O I) (H.slt n k O I)).1 (.inl h10);omega
def ew.vaHold(h:ew T bud m ho)(O:T.Ok)(hb:0<=bud/\bud<=1000)(I:n<T.n)(h10:(sv m.S n).pc=10):∀k,0<=k->k<T.D->0<=(m.sp (T.pl n k) (T.sl n k)).a/\(m.sp (T.pl n k) (T.sl n k)).a<=2000:=by obtain⟨K,V,_⟩:=h.t n I;exact λk _ H=>h.va10 O hb I H ((V.of10 h10).2 k H)
def ew.stepUp(h:ew T bud m ho)(I:T.Ok)(hb:0<=bud/\bud<=1000){c:Nat}(V:n<T.n)(h0:¬((sv m.S n).pc=0\/(sv m.S n).pc=10))(hc:(sv m.S n).c=c)(h1:(sv m.S n).pc≠1)(hp:((rstH m (T.pl n c) (T.sl n c)).sp (T.pl n c) (T.sl n c)).pc=10):c+1<T.D/\∀k,c+1<=k->k<T.D->0<=((rstH m (T.pl n c) (T.sl n c)).sp (T.pl n k) (T.sl n k)).a/\((rstH m (T.pl n c) (T.sl n c)).sp (T.pl n k) (T.sl n k)).a<=2000:=by
  obtain⟨K,kk,o⟩:=h.t n V;cases kk with
  | rest H=>exact absurd (.inl H) h0
  | come Y H _ _ _=>exact absurd H.1 h1
  | granted Y H _ _=>exact absurd H.1 h1
  | hold H _=>exact absurd (.inr H) h0
  | pass Y H ha L7=>
    obtain rfl:c=Y:=by have:=H.2.1;omega
    refine⟨H.2.2,λk hk NQ=>?_⟩;have ab:T.pl n k≠T.pl n c:=λe=>by have e1:=I.lv n k V NQ;have e2:=I.lv n c V ahB;rw[e]at e1;omega
    rw[EM m ab];exact h.va10 I hb V NQ (L7 k NQ ahB)
  | leave Y H ha Uc L7=>
    obtain rfl:c=Y:=by have:=H.2.1;omega
    exfalso;have K9:=H.2.2;have O:=I.plt n c V K9;have hj:=I.slt n c V K9;have r:=(h.x n).rg _ O;have NC:T.sl n c<(m.P (T.pl n c)).length:=(by rw[(h.x n).len O];exact hj);rw[EL m NC]at hp;have Lv:11<=(sv (m.P (T.pl n c)) (T.sl n c)).pc/\(sv (m.P (T.pl n c)) (T.sl n c)).pc<=14:=ha;have MH:(sv (m.P (T.pl n c)) (T.sl n c)).c=if c+1=T.D then 1 else -1:=Uc
    obtain⟨ro,_⟩:=RtS.case (ar:=arW (m.W (T.pl n c))) r (I.nv32 _ O) hj rfl ahB rfl;have KN:(de (arW (m.W (T.pl n c))) 1 (numT (T.sl n c)) (sv (m.P (T.pl n c)) (T.sl n c))).2.pc=10:=hp;cases ro with
    | come h=>have:=h.1;omega
    | told h=>have:=h.1;omega
    | hold h=>have:=h.1;omega
    | o h=>have:=h.2.1;omega
    | free h=>have:=h.2;omega
    | give s h=>have:=h.2.1;omega
    | look h=>have:=h.1;omega
def gD(T:HTr)(bud:Int)(m:Hm)(i:Int):Hm:=if okI m.S i then kA T bud m i.toNat else m
def aV.okn(k:aV B w x T bud s m)(h:okI m.S i):∃n:Nat,i=n/\n<T.n/\getS m.S i=sv m.S n/\n<m.S.length:=by
 obtain⟨I,h1⟩:=h;obtain⟨n,rfl⟩:=Int.eq_ofNat_of_zero_le I;have H:n<m.S.length:=by omega
 exact⟨n,rfl,by rw[<-k.sn];exact H,dQ H,H⟩
def Ed(k:aV B w x T bud s m)(O:T.Ok)(hI:ew T bud m ho)(hb:0<=bud/\bud<=1000)(i:Int):E 252 #[↑x.l,J i] w λe w'=>e= returned (bool (decide ((getS m.S i).pc=10)))/\aV B w' x T bud s (gD T bud m i)/\aa (mvL x T) w w':=by
 have LI:=aP;have H:=qh k;obtain⟨p,mP⟩:=LE (getS m.S i);have HP:=qh mP;by_cases h10:p.pc=10
 .have h:okI m.S i:=by exact abH
  obtain⟨n,rfl,hn,hg,hl⟩:=k.okn h;have hs:(sv m.S n).pc=10:=by rw[<-hg,<-mP];exact h10
  have hd:=O.d1;have HB:=qh (λW (k':aV B W x T bud s m)=>xm k' O hn (k0:=0) ahB hb (hI.vaHold O hb hn hs));have I:Kq (gD T bud m n=gB T bud T.D m n 0):=qh (by unfold gD kA;rw[if_pos h,Int.toNat_natCast,if_pos hs]);have y:(p.pc !=10)=false:=by simpa using h10
  clear k mP h hI hg hs;go_enter func252,ntmps252;go_wp2_with fail;refine Pi (j3 H.o n) λw1 b1=>?_;refine ajy ?_;intro H1;clear b1;go_wp2_with fail;refine Op (HB.o _ H1.o.1) λw2 Y=>?_;have V:=qh (And.intro Y.o.1 ((aa.of_below H1.o.2).trans Y.o.2));go_wp2;go_ret;rw[I.o];exact⟨(rfl:_=Ending.returned (bool true)).trans (by rw[<-HP.o,h10];rfl),V.o.1,V.o.2⟩
 .have y:(p.pc !=10)=true:=by simpa using h10
  have I:Kq (gD T bud m i=m):=qh (by
   unfold gD;by_cases h:okI m.S i;.obtain⟨n,rfl,hn,hg,hl⟩:=k.okn h;rw[if_pos h,Int.toNat_natCast];unfold kA;rw[if_neg (by rw[<-hg,<-mP];exact h10)]
   .rw[if_neg h])
  have X4:=qh h10;clear k mP h10;go_enter func252,ntmps252;go_wp2_with fail;refine Pi (j3 H.o i) λw1 b1=>?_;refine ajy ?_;intro H1;clear b1;go_wp2;go_ret;rw[I.o];exact⟨(rfl:_=Ending.returned (bool false)).trans (by rw[<-HP.o,decide_eq_false X4.o]),H1.o.1,aa.of_below H1.o.2⟩
end
end
section
open Go.RowKit
section
variable{B:Nat->Prop}{x:Hx}{T:HTr}{s s':Ar}{m:Hm}
def stepI(T:HTr)(bud:Int)(m:Hm)(i:Int):Hm:=if okI m.S i then j7 T bud m i.toNat else m
def jN(T:HTr)(s:Ar)(m:Hm)(i:Int):Ar:=if (getS m.S i).pc=0\/(getS m.S i).pc=10 then s else BU s m (T.pl i.toNat (getS m.S i).c.toNat) (T.sl i.toNat (getS m.S i).c.toNat)
def AJ(z p:Int):Bool:=decide ((z=10\/z=0)/\p≠0/\p≠10)
def vj(H:¬(p=0\/p=10))(h:(z==10)=true):true=AJ z p:=by have:=eq_of_beq h;exact(decide_eq_true ahB).symm
def vk(H:¬(p=0\/p=10))(h:(z==0)=true):true=AJ z p:=by have:=eq_of_beq h;exact(decide_eq_true ahB).symm
def vl(p:Int)(h:(z==10)=false)(H:(z==0)=false):false=AJ z p:=by simp only[beq_eq_false_iff_ne]at h H;exact(decide_eq_false ahB).symm
def OpX(B:Nat->Prop)(w:World)(x:Hx)(T:HTr)(bud:Int)(s:Ar)(m:Hm)(i:Int)(e:Ending)(w':World):Prop:=
 e= returned (bool (AJ (getS (stepI T bud m i).S i).pc (getS m.S i).pc))/\aV B w' x T bud (jN T s m i) (stepI T bud m i)/\(jN T s m i).ops<=s.ops+1/\aa (mvL x T) w w'
def OpX.mk'{s1:Ar}{m1:Hm}{b:Bool}(H:b=AJ (getS m1.S i).pc (getS m.S i).pc)(hm:stepI T bud m i=m1)(h:aV B w' x T bud s1 m1)(hs:s1=jN T s m i)(V:s1.ops<=s.ops+1)(t:aa (mvL x T) w w'):OpX B w x T bud s m i (returned (.bool b)) w':=by subst hm;subst hs;subst H;exact⟨rfl,h,V,t⟩
def wN(T:HTr)(bud:Int)(m:Hm){c:Nat}(h:¬((sv m.S n).pc=0\/(sv m.S n).pc=10))(hc:(sv m.S n).c=c)(I:¬((m.sp (T.pl n c) (T.sl n c)).pc=0\/(m.sp (T.pl n c) (T.sl n c)).pc=10)){m1:Hm}(h1:m1=rstH m (T.pl n c) (T.sl n c)):j7 T bud m n=if ¬((m1.sp (T.pl n c) (T.sl n c)).pc=0\/(m1.sp (T.pl n c) (T.sl n c)).pc=10)then m1 else if (sv m.S n).pc=1 then jJ T m1 n c else if (m1.sp (T.pl n c) (T.sl n c)).pc=0 then jK T m1 n c else gB T bud T.D m1 n (c+1):=by unfold j7;rw[if_neg h,hc];simp only[Int.toNat_natCast];rw[if_neg I,<-h1]
def GW(k:aV B w x T bud s m)(hT:T.Ok)(hI:ew T bud m ho)(hb:0<=bud/\bud<=1000)(V:s.ops+1<=1000000000000)(i:Int):E 254 #[↑x.l,J i] w (OpX B w x T bud s m i):=by
 have LI:=aP;have H:=qh k;have HN:=k.fx.n32;have Q9:=k.fx.d5;obtain⟨p,I⟩:=LE (getS m.S i);have HP:=qh I;by_cases h0:p.pc=0\/p.pc=10
 .have HE:Kq (stepI T bud m i=m):=qh (by
   unfold stepI;by_cases mT:okI m.S i;.obtain⟨n,rfl,hn,hg,hl⟩:=k.okn mT;rw[if_pos mT,Int.toNat_natCast];unfold j7;rw[if_pos (by rw[<-hg,<-I];exact h0)]
   .rw[if_neg mT])
  clear k I;have OJ:∀w',Below w.heap.size w w'->OpX B w x T bud s m i (returned (bool false)) w':=λw' b=>OpX.mk' (by rw[<-HP.o];exact(decide_eq_false ahB).symm) HE.o (H.o.below b) (by unfold jN;rw[<-HP.o,if_pos h0]) ahB (aa.of_below b);have HF:=qh OJ;clear OJ;by_cases QQ:p.pc=0;.have y:(p.pc==0)=true:=(by simpa using QQ);clear h0 QQ;exact abI
  .have h1:p.pc=10:=h0.resolve_left QQ;have y:(p.pc==0)=false:=(by simpa using QQ);have y1:(p.pc==10)=true:=(by simpa using h1);clear h0 QQ h1;exact abI
 .have mT:okI m.S i:=by apply Classical.byContradiction;intro hn;rw[dE hn]at I;exact h0 (.inl (by rw[I];rfl))
  obtain⟨n,rfl,hn,hg,hl⟩:=k.okn mT;rw[hg]at I HP;have KA:¬((sv m.S n).pc=0\/(sv m.S n).pc=10):=by rw[<-I];exact h0
  obtain⟨K,kk,oo⟩:=hI.t n hn;obtain⟨c,hc,K9,Sg,a0,PD⟩:=sw.act kk KA;clear kk oo Sg;have O:=hT.plt n c hn K9;have hj:=hT.slt n c hn K9;have Q0:¬((m.sp (T.pl n c) (T.sl n c)).pc=0\/(m.sp (T.pl n c) (T.sl n c)).pc=10):=λh=>h.elim a0 PD;obtain⟨m1,ab⟩:=LE (rstH m (T.pl n c) (T.sl n c));have V4:m1.S=m.S:=by rw[ab];rfl
  have Qx:=wN T bud m KA hc Q0 ab;rw[show j7 T bud m n=stepI T bud m n by unfold stepI;rw[if_pos mT,Int.toNat_natCast]]at Qx;have Mt:=fun(e1:(sv m.S n).pc≠1) (e2:(m1.sp (T.pl n c) (T.sl n c)).pc=10)=>hI.stepUp hT hb hn KA hc e1 (by rw[<-ab];exact e2);rw[<-ab]at Mt;have H':∀W,aV B W x T bud s m->E 259 #[pointer (some ⟨x.lb (T.pl n c),0,none⟩),J (T.sl n c)] W (S1 B W x T bud s (BU s m (T.pl n c) (T.sl n c)) m1 (decide ((m1.sp (T.pl n c) (T.sl n c)).pc=0\/(m1.sp (T.pl n c) (T.sl n c)).pc=10))):=λW k=>by have:=k.step1 O hj ((hI.x n).rg _ O) V;rw[if_neg Q0,if_neg Q0,if_neg Q0,<-ab]at this;exact this
  obtain⟨s',MA⟩:=LE (BU s m (T.pl n c) (T.sl n c));rw[<-MA]at H';have HA:Kq (s'=jN T s m n):=qh (by unfold jN;rw[hg,<-I,if_neg h0,I,hc,MA];rfl);have HG:Kq ((getS m.S (n:Int)).pc=p.pc/\∀m2:Hm,m2.S.length=m.S.length->getS m2.S (n:Int)=sv m2.S n):=qh ⟨by rw[hg,<-I],λm2 h2=>dQ ahB⟩;clear MA;obtain⟨u,hu⟩:=LE (m1.sp (T.pl n c) (T.sl n c));rw[<-hu]at H' Mt Qx;have y0:(p.pc==0)=false:=by simpa using λe=>h0 (.inl e)
  have ad:(p.pc==10)=false:=by simpa using λe=>h0 (.inr e)
  rw[<-I]at Mt Qx hc;refine aju ?_;intro t2 Y;have g2:¬((T.D:Nat):Int)<=(c:Int):=by omega
  have HC:=qh (And.intro I (And.intro hc (And.intro V4 (And.intro O hj))));have HU:=qh hu;have HM:=qh Mt;have HS:=qh H';have HE:=qh Qx;have Uy:m.S[n]? =some p:=by rw[I];exact gK hl
  clear H' Qx Mt hu V4 ab Q0 a0 PD KA k I hg mT hl hI;go_enter func254,ntmps254;go_wp2_with fail;refine Pi (j3 H.o n) λw1 b1=>?_;rw[show getS m.S (n:Int)=p from by rw[HC.o.1];exact dQ (by have:=(List.getElem?_eq_some_iff.1 Uy).1;exact this)];unfold aF;have k1:=H.o.below b1;have K1:=qh (And.intro k1 (aa.of_below (S:=mvL x T) b1));have c3:=k1.l3;have b3:=(k1.sc Uy).2.2.2;rw[HC.o.2.1]at b3;obtain⟨M9,cL,cP,cS⟩:=k1.lev hn K9;obtain⟨z1,z2,z3,z4⟩:=k1.lt4 hn K9;clear k1 b1;go_wp2;go_region
  all_goals
   go_wp2_with fail;refine Op (HS.o _ ((K1.o.1.alloc _).drewN _)) λw2 k2=>?_;have hx:Blk w2 w1.heap.size 255 #[pointer (some ⟨x.lb (T.pl n c),0,none⟩),J (T.sl n c)]:=k2.o.2.2.blk (heap_alloc_new w1 _) K1.o.1.new.2;have K2:=qh (And.intro k2.o.1 (And.intro (K1.o.2.trans ((((aa.refl (mvL x T) _).alloc _).drewN _).trans k2.o.2.2)) k2.o.2.1));have x0:=hx.cell 0;have x1:=hx.cell 1;clear hx c3 b3 M9 cL cP cS z1 z2 z3 z4;by_cases e:u.pc=0\/u.pc=10
   .rw[decide_eq_true e];go_wp2_with fail;refine Pi (K2.o.1.spot1 HC.o.2.2.2.1 HC.o.2.2.2.2) λw3 b3=>?_;rw[<-HU.o];unfold aF;have k3:=K2.o.1.below b3;have K3:=qh (And.intro k3 (And.intro (K2.o.2.1.trans (aa.of_below b3)) K2.o.2.2));have Q8:(sv m1.S n).c=c:=(by rw[HC.o.2.2.1,<-HC.o.1];exact HC.o.2.1);have Oy:=(k3.sc (p:=p) (by rw[HC.o.2.2.1];exact Uy)).2.2.2;rw[HC.o.2.1]at Oy;clear k3 b3;have ne:=not_not_intro e;by_cases e1:p.pc=1
    .have y1:(p.pc==1)=true:=(by simpa using e1);go_wp2_with fail;refine Op (FV K3.o.1 hT hn Q8 K9) λw4 h4=>?_;refine ajA ?_;intro H4 c0;obtain⟨zz,hz⟩:=LE ((sv (jJ T m1 n c).S n).pc);rw[<-hz]at c0;have HZ:=qh hz;clear hz;cases f1:(zz==10)
     .cases f2:(zz==0);.go_wp2;go_ret;exact OpX.mk' (b:=false) aiz aiA H4.o.1 HA.o K3.o.2.2 H4.o.2.1
      .go_wp2;go_ret;exact OpX.mk' (b:=true) aiB aiA H4.o.1 HA.o K3.o.2.2 H4.o.2.1
     .go_wp2;go_ret;exact OpX.mk' (b:=true) aiC aiA H4.o.1 HA.o K3.o.2.2 H4.o.2.1
    .have y1:(p.pc==1)=false:=(by simpa using e1);by_cases e2:u.pc=0
     .have y2:(u.pc==0)=true:=(by simpa using e2);go_wp2_with fail;refine Op (FZ K3.o.1 hT hn Q8 K9) λw4 h4=>?_;refine ajA ?_;intro H4 c0;obtain⟨zz,hz⟩:=LE ((sv (jK T m1 n c).S n).pc);rw[<-hz]at c0;have HZ:=qh hz;clear hz;cases f1:(zz==10)
      .cases f2:(zz==0);.go_wp2;go_ret;exact OpX.mk' (b:=false) aiz aiD H4.o.1 HA.o K3.o.2.2 H4.o.2.1
       .go_wp2;go_ret;exact OpX.mk' (b:=true) aiB aiD H4.o.1 HA.o K3.o.2.2 H4.o.2.1
      .go_wp2;go_ret;exact OpX.mk' (b:=true) aiC aiD H4.o.1 HA.o K3.o.2.2 H4.o.2.1
     .have y2:(u.pc==0)=false:=(by simpa using e2);obtain⟨LD,LA⟩:=HM.o e1 (e.resolve_left e2);have XQ:=qh (show E 258 #[↑x.l,J n,J ((c:Int)+1)] w3 (VD B w3 x T bud s' (gB T bud T.D m1 n (c+1)))from xm K3.o.1 hT hn (k0:=c+1) LD hb LA);clear LA;go_wp2_with fail;refine Op XQ.o λw4 h4=>?_;refine ajA ?_;intro H4 c0;obtain⟨zz,hz⟩:=LE ((sv (gB T bud T.D m1 n (c+1)).S n).pc);rw[<-hz]at c0;have HZ:=qh hz;clear hz;cases f1:(zz==10)
      .cases f2:(zz==0);.go_wp2;go_ret;exact OpX.mk' (b:=false) aiz aiE H4.o.1 HA.o K3.o.2.2 H4.o.2.1
       .go_wp2;go_ret;exact OpX.mk' (b:=true) aiB aiE H4.o.1 HA.o K3.o.2.2 H4.o.2.1
      .go_wp2;go_ret;exact OpX.mk' (b:=true) aiC aiE H4.o.1 HA.o K3.o.2.2 H4.o.2.1
   .rw[decide_eq_false e];go_wp2;go_ret;exact OpX.mk' (b:=false) (by rw[HG.o.1,HG.o.2 _ (by rw[HC.o.2.2.1]),HC.o.2.2.1,<-HC.o.1];exact(decide_eq_false ahB).symm) (by rw[HE.o,if_pos e]) K2.o.1 HA.o K2.o.2.2 K2.o.2.1
end
end
section
open Go.RowKit
def E5(T:HTr)(bud:Int)(m:Hm)(k i:Int):Hm:=if k=0 then stepI T bud m i else if k=1 then lh T m i else if k=2 then gD T bud m i else m
section
variable{w0:World}{B:Nat->Prop}{x:Hx}{T:HTr}{s s':Ar}{m m':Hm}{N M:Nat}
def ew.act(h:ew T bud m ho)(O:T.Ok)(hb:0<=bud)(k i:Int):∃I,ew T bud (E5 T bud m k i) I:=by
 have hi:∀j,okI m.S j->j.toNat<T.n:=λj Y=>by have:=(h.x 0).sl;obtain⟨h0,h1⟩:=Y;omega
 unfold E5;split
 .unfold stepI;split;.rename_i H;exact h.step O hb (hi _ H)
  .exact⟨ho,h⟩
 .split
  .unfold lh;split;.rename_i H;obtain⟨I,V⟩:=h.ask O (hi _ H);exact⟨I,V⟩
   .exact⟨ho,h⟩
  .split
   .unfold gD;split;.rename_i H;exact⟨ho,h.leave O (hi _ H)⟩
    .exact⟨ho,h⟩
   .exact⟨ho,h⟩
end
end
section
open Go.RowKit
def xn(w:World)(vP Y:Value)(P:List Int)(h:RdL w vP 1 encI P)(NL:P.length<=1000)(p:Int):E 140 #[agg #[vP,Y],J p] w λe w'=>∃v',e= returned v'/\w'.ownsRow w.heap.size 3 1 v' (chL P p).length ((chL P p).flatMap encI)/\Below w.heap.size w w':=by
  obtain⟨i0,hi,Kr,Ku,hz2⟩:=info_parts Tryz.infoIn;refine ajB ?_;intro HI;have hR:=h.alloc (cells #[vP,Y] 24);obtain⟨A,cap,rfl,l1,l2,I⟩:=hR;have HR:=qh I;have MZ:(w.alloc (cells #[.slice A P.length cap,Y] 24)).heap.size=w.heap.size+1:=by simp
  have HB:=qh ((Below.refl w.heap.size w).alloc (Nat.le_refl _) (cells #[.slice A P.length cap,Y] 24));have b0:(w.alloc (cells #[.slice A P.length cap,Y] 24)).cell? w.heap.size=some (.slice A P.length cap):=by simp[World.cell?_alloc_new]
  obtain⟨w1,MQ⟩:=LE (w.alloc (cells #[.slice A P.length cap,Y] 24));clear hi Kr Ku hz2 h I;go_enter func140,ntmps140;rw[<-MQ]at HR HB b0 MZ;have HZ:=qh MZ;clear MZ;go_wp2;rw[<-MQ];clear MQ;go_loopw [5,11] (λo i wr=>∃k:Nat,i= J k/\k<=P.length/\wr.ownsRow w1.heap.size 3 1 o (m7 P p k).length ((m7 P p k).flatMap encI)/\Below w1.heap.size w1 wr) (λ_ i _=>P.length-(intOf i).toNat);case atStart=>exact⟨0,rfl,by omega,World.ownsRow_nil _ _ _ _,Below.refl _ _⟩
  case round=>
    obtain⟨k,rfl,hk,O,V⟩:=hrel;by_cases I':k<P.length
    . obtain⟨q,hq⟩:=ai I';obtain⟨bl,off,rfl,KQ,hc⟩:=HR.o ahB;have c0:=(V.cell (p:=⟨bl,off+k*1+0,none⟩) KQ).trans (hc k _ hq 0 _ rfl);simp only[Nat.add_zero,Nat.mul_one]at c0;have Lz:=li P p k;have KR:=V.size;have HS:=qh (yI P p hq);have H:=qh (And.intro O V);obtain⟨A9,c9,rfl⟩:=bE O;clear hc V;cases hm:(q==p)
      . have HM:Kq (¬q=p):=qh aie;clear O;go_wp2;go_roundw;case rel=>exact⟨k+1,by go_num,by omega,by rw[HS.o,if_neg HM.o];exact H.o.1,H.o.2⟩
        case measure=>simp[intOf];omega
      . have HM:Kq (q=p):=qh aie;go_wp2_with (at_builtin;refine wpList_append_own _ rfl _ _ 22 rfl w1.heap.size 3 i0 (J 0) 1 8 Tryz.underlying22 HI.o.1 HI.o.2.1 HI.o.2.2.1 HI.o.2.2.2 rfl ahD _ _ _ rfl (O.alloc _) ⟨wr.heap.size,0,none⟩ 1 1 (encI k) rfl rfl (cell_one_new _ _ _) (kD _) ?c3 ?c4 ?c5 ?_);case c3=>unfold maxLen;omega
        case c4=>omega
        case c5=>simp;omega
        intro v' w' MO MJ OR;have HN:=qh (And.intro MO MJ);clear MO MJ OR O;go_wp2;go_roundw;case rel=>exact⟨k+1,by go_num,by omega,by rw[HS.o,if_pos HM.o,iR,List.length_append];exact HN.o.1,(H.o.2.alloc KR _).grown HN.o.2 ahG (λj hj=>(H.o.1.lt j hj).1)⟩
        case measure=>simp[intOf];omega
    . obtain rfl:k=P.length:=by omega
      have H:=qh (And.intro O V);clear O V;go_wp2;go_ret;exact⟨_,rfl,df H.o.1 (by have:=HZ.o;omega),HB.o.trans (H.o.2.mono (by have:=HZ.o;omega))⟩
end
section
open Go.RowKit
theorem Tryz.infoHs:(prog.info? 255).map (λi=>(i.zero,i.size,i.bytes))=some (some (agg #[.pointer none,J 0]),2,16):=by kernel_rfl
theorem Tryz.infoHr:(prog.info? 249).map (λi=>(i.zero,i.size,i.bytes))=some (some (.pointer none),1,8):=by kernel_rfl
theorem Tryz.infoHl:(prog.info? 252).map (λi=>(i.zero,i.size,i.bytes))=some (some (.slice none 0 0),1,24):=by kernel_rfl
def gj(lb:Nat->Nat)(T:HTr)(t c:Nat):List Value:=(List.range c).flatMap λk=>[pointer (some ⟨lb (T.pl t k),0,none⟩),J (T.sl t k)]
def jw(lb:Nat->Nat)(T:HTr)(t c:Nat):gj lb T t (c+1)=gj lb T t c++[pointer (some ⟨lb (T.pl t c),0,none⟩),J (T.sl t c)]:=by unfold gj;rw[List.range_succ,List.flatMap_append];simp
def ie(lb:Nat->Nat)(k:Nat):List Value:=(List.range k).map λv=> pointer (some ⟨lb v,0,none⟩)
def uj(lb:Nat->Nat)(k:Nat):ie lb (k+1)=ie lb k++[pointer (some ⟨lb k,0,none⟩)]:=by unfold ie;rw[List.range_succ,List.map_append];rfl
end
section
open Go.RowKit
def vH(bud:Int)(vR vL:Value)(q n:Nat):Array Value:=#[J bud,vR,vL,slice (some ⟨q,0,none⟩) n n]
def TBr(l a:Nat)(B0:Nat->Prop)(w:World)(b:Nat)(P T:List Int)(k:Nat)(vR:Value):Prop:=
 (am P k=[]/\ip B0 w b P T)\/∃B',eX B' w b P T/\(∀i,B' i->i≠l/\i≠a/\i<w.heap.size)/\∀g,vR.ownBlock=some g->¬B' g
structure NwR(w5 wr:World)(l b a g q:Nat)(bud:Int)(P T:List Int)(tr:HTr)(B0:Nat->Prop)(k:Nat)(vR:Value)(lb qb:Nat->Nat)(s:Ar):Prop where
 tn:aa [l,b,a] w5 wr
 blk:Blk wr l 247 (vH bud vR (.slice none 0 0) q tr.n)
 own:wr.ownsRow w5.heap.size 249 1 vR k (ie lb k)
 ar:aB wr a g s
 cat:s.W=dy (hm0 tr).W k
 room:s=⟨s.W,s.room,0,0,0,false⟩/\∀v,v<tr.np->(dy (hm0 tr).W v).length+(2*tr.nv v+1)<=s.room
 rk:∀v,v<k->Blk wr (lb v) 319 #[↑a,int i64 ((dy (hm0 tr).W v).length+1),slice (some ⟨qb v,0,none⟩) (tr.nv v) (tr.nv v)]
 rs:∀v,v<k->dD wr (qb v) (List.replicate (tr.nv v) Sp.zero)
 lo:∀v,v<k->w5.heap.size<=lb v/\w5.heap.size<=qb v/\vR.ownBlock≠some (lb v)/\vR.ownBlock≠some (qb v)
 ne:∀v u,v<k->u<k->lb v≠qb u
 inj:∀v u,v<k->u<k->qb v=qb u->v=u
 tab:TBr l a B0 wr b P T k vR
def aa.grownByH{row:Option Nat}(h:w.grownBy w' row):aa row.toList w w':=
 ⟨h.os,h.tape,h.output,h.size,λi hi hn=>h.block i hi aih⟩
def wB(lb:Nat->Nat)(x:Nat):∀k,ie (aY lb k x) k=ie lb k:=λk=>by
 unfold ie
 refine List.map_congr_left λv O=>?_
 rw[aZ _ _ (by have:=List.mem_range.1 O;omega)]
section
variable{wr:World}{tr:HTr}{s:Ar}
def NwR.move(h:NwR w5 wr l b a g q bud P T tr B0 k vR lb qb s)(t:aa [b] wr w')(hb:b<w5.heap.size)(I:b≠l)(H:b≠a)(hg:b≠g)(V:TBr l a B0 w' b P T k vR):NwR w5 w' l b a g q bud P T tr B0 k vR lb qb s:=by
 refine⟨h.tn.trans (t.mono ahC),t.blk h.blk (by simpa using λe=>I e.symm),aa.own h.own t (λx Y=>?_),h.ar.turns t (by simpa using λe=>H e.symm) (by simpa using λe=>hg e.symm),h.cat,h.room,λv O=>t.blk (h.rk v O) ?_,λv O=>(h.rs v O).turns t ?_,h.lo,h.ne,h.inj,V⟩;.have:=(h.own.lt x Y).1;simp;omega
 .have:=(h.lo v O).1;simp;omega
 .have:=(h.lo v O).2.1;simp;omega
def TBr.turns0(h:TBr l a B0 wr b P T k vR)(t:aa [] wr w'):TBr l a B0 w' b P T k vR:=by
 rcases h with⟨H,h1⟩|⟨I,H,h1,O⟩
 .exact .inl ⟨H,h1.turns t ahC⟩
 .exact .inr ⟨I,H.turns t ahC,λi hi=>⟨(h1 i hi).1,(h1 i hi).2.1,Nat.lt_of_lt_of_le (h1 i hi).2.2 t.size⟩,O⟩
def NwR.below(h:NwR w5 wr l b a g q bud P T tr B0 k vR lb qb s)(t:Below wr.heap.size wr w')(hb:b<w5.heap.size)(I:b≠l)(H:b≠a)(hg:b≠g):NwR w5 w' l b a g q bud P T tr B0 k vR lb qb s:=
 h.move (aa.of_below t) hb I H hg (h.tab.turns0 (aa.of_below t))
def Do(l a:Nat)(w:World)(b:Nat)(P T:List Int)(vR:Value):Prop:=∃B',eX B' w b P T/\(∀i,B' i->i≠l/\i≠a/\i<w.heap.size)/\∀g,vR.ownBlock=some g->¬B' g
def NwR.mates(h:NwR w5 wr l b a g q bud P T tr B0 k vR lb qb s)(hc:a5 P T=0)(hb:b<w5.heap.size)(hl:b≠l)(ha:b≠a)(hg:b≠g)(O:∀i,B0 i->i≠l/\i≠a/\i<w5.heap.size){x:Int}(V:(ac P)[j]? =some x):E 138 #[↑b,J j] wr λe w'=>e= returned (J ((T.count x:Nat):Int))/\NwR w5 w' l b a g q bud P T tr B0 k vR lb qb s/\Do l a w' b P T vR/\aa [b] wr w':=by
  have Lz:=h.blk.lt;have Oi:=h.ar.blk.lt;rcases h.tab with⟨_,t0⟩|tf
  . refine(Cw B0 wr b P T hc t0 V).mono ?_;rintro e w' ⟨I,ht,tn⟩;have hs:=h.tn.size
    have F:Do l a w' b P T vR:=⟨_,ht.lt,λi hi=>by
      rcases hi.1 with H|H
      . have:=O i H;exact⟨this.1,this.2.1,hi.2⟩
      . exact⟨by omega,by omega,hi.2⟩,λg' On hB=>by
      have:=h.own.lt g' On;rcases hB.1 with H|H
      . have:=(O _ H).2.2;omega
      . omega⟩
    exact⟨I,h.move tn hb hl ha hg (.inr F),F,tn⟩
  . obtain⟨B',t1,t2,Y⟩:=tf;refine(Cv wr b P T t1.f V).mono ?_;rintro e w' ⟨I,rfl⟩;exact⟨I,h,⟨B',t1,t2,Y⟩,aa.refl _ _⟩
def NwR.step{w2 w3 w4:World}{l' q' cap Lq:Nat}(h:NwR w5 w2 l b a g q bud P T tr B0 k (.slice A k cap) lb qb s)(hT:Do l a w2 b P T (.slice A k cap)\/(am P (k+1)=[]/\ip B0 w2 b P T))(h0:∀i,B0 i->i≠l/\i≠a/\i<w5.heap.size)(Ou:l<w5.heap.size)(TU:a<w5.heap.size)(Wp:g<w5.heap.size)(WB:l≠a)(ZR:l≠g){s':Ar}(MA:s'={s with W:=s.W++List.replicate (2*tr.nv k+1) 0})(I:cZ w3 l' a g q' (s.W.length+1) ⟨s',List.replicate (tr.nv k) Sp.zero⟩)(Mr:w2.heap.size<=l')(Qc:w2.heap.size<=q')(Y:aa [a] w2 w3)(h4:w4.ownsRow w5.heap.size 249 1 (slice (some ⟨V,0,none⟩) (k+1) Lq) (k+1) (ie lb k++[pointer (some ⟨l',0,none⟩)]))(hg:(w3.alloc o).grownBy w4 (Value.slice A k cap).ownBlock)(Ly:(Value.slice A k cap).ownBlock=some V\/V=(w3.alloc o).heap.size):NwR w5 (w4.setCell ⟨l,1,none⟩ (slice (some ⟨V,0,none⟩) (k+1) Lq)) l b a g q bud P T tr B0 (k+1) (slice (some ⟨V,0,none⟩) (k+1) Lq) (aY lb k l') (aY qb k q') s':=by
  have MN:∀x,(Value.slice A k cap).ownBlock=some x->w5.heap.size<=x/\x<w2.heap.size:=λx hx=>h.own.lt x hx;have tg:aa (Value.slice A k cap).ownBlock.toList (w3.alloc o) w4:=aa.grownByH hg;have nS:∀x,(Value.slice A k cap).ownBlock≠some x->x∉(Value.slice A k cap).ownBlock.toList:=λx hx hm=>hx aie;have Li:w2.heap.size<=w3.heap.size:=Y.size;have MB:w3.heap.size+1<=w4.heap.size:=by have:=tg.size;simpa using this
  have ab:w5.heap.size<=w2.heap.size:=h.tn.size;have NS:l'<w3.heap.size:=I.lk.lt;have Uz:q'<w3.heap.size:=I.sp.lt;have Wo:w5.heap.size<=V:=(h4.lt V rfl).1;have ts:aa [l] w4 (w4.setCell ⟨l,1,none⟩ (slice (some ⟨V,0,none⟩) (k+1) Lq)):=(aa.refl _ _).setCell (.inl ahC) _
  have S0:aa (l :: (Value.slice A k cap).ownBlock.toList) w3 (w4.setCell ⟨l,1,none⟩ (slice (some ⟨V,0,none⟩) (k+1) Lq)):=
    (((aa.refl _ _).alloc o).trans (tg.mono λi hi=>List.mem_cons_of_mem _ hi)).trans (ts.mono ahC)
  have RE:aa (a :: l :: (Value.slice A k cap).ownBlock.toList) w2 (w4.setCell ⟨l,1,none⟩ (slice (some ⟨V,0,none⟩) (k+1) Lq)):=
    (Y.mono ahC).trans (S0.mono λi hi=>List.mem_cons_of_mem _ hi)
  have hA:(Value.slice A k cap).ownBlock≠some a:=λe=>by have:=MN a e;omega
  have hL:(Value.slice A k cap).ownBlock≠some l:=λe=>by have:=MN l e;omega
  have hG:(Value.slice A k cap).ownBlock≠some g:=λe=>by have:=MN g e;omega
  have VV:(Value.slice A k cap).ownBlock≠some l':=λe=>by have:=MN l' e;omega
  have V3:(Value.slice A k cap).ownBlock≠some q':=λe=>by have:=MN q' e;omega
  have Rx:∀x,x≠l->(Value.slice A k cap).ownBlock≠some x->x∉l :: (Value.slice A k cap).ownBlock.toList:=λx h1 h2 hm=>by
    rcases List.mem_cons.1 hm with e|e
    . exact h1 e
    . exact nS x h2 e
  have Xs:∀x,x≠a->x≠l->(Value.slice A k cap).ownBlock≠some x->x∉a :: l :: (Value.slice A k cap).ownBlock.toList:=λx h0 h1 h2 hm=>by
    rcases List.mem_cons.1 hm with e|e
    . exact h0 e
    . exact Rx x h1 h2 e
  have PF:∀x,x<w3.heap.size->(Value.slice A k cap).ownBlock≠some x->V≠x:=λx h1 h2 e=>by
    subst e;rcases Ly with e|e
    . exact h2 e
    . have e9:(w3.alloc o).heap.size=w3.heap.size+1:=(by simp);omega
  have Rw:∀v,v<k->lb v<w2.heap.size/\qb v<w2.heap.size:=λv O=>⟨(h.rk v O).lt,(h.rs v O).lt⟩;have Wg:s.W.length=(dy (hm0 tr).W k).length:=by rw[h.cat]
  subst MA;refine⟨?_,?_,?_,?_,?_,⟨congrArg (λz:Ar=>{z with W:=s.W++List.replicate (2*tr.nv k+1) 0}) h.room.1,h.room.2⟩,λv O=>?_,λv O=>?_,λv O=>?_,λv u O hu=>?_,λv u O hu e=>?_,?_⟩
  . refine((h.tn.mono (T:=l :: b :: a :: (Value.slice A k cap).ownBlock.toList) ahC).trans (RE.mono λi hi=>?_)).fresh λi hi=>?_
    . rcases List.mem_cons.1 hi with e|hi
      . simp[e]
      . rcases List.mem_cons.1 hi with e|hi
        . simp[e]
        . exact List.mem_cons_of_mem _ (List.mem_cons_of_mem _ (List.mem_cons_of_mem _ hi))
    . rcases List.mem_cons.1 hi with e|hi
      . exact .inl (by simp[e])
      . rcases List.mem_cons.1 hi with e|hi
        . exact .inl (by simp[e])
        . rcases List.mem_cons.1 hi with e|hi
          . exact .inl (by simp[e])
          . exact .inr (MN i ah6).1
  . exact(tg.blk ((Y.blk h.blk (by simpa using WB)).alloc o) (nS l hL)).set_ 1 _
  . rw[uj,aX,wB]
    exact aa.own h4 ts (λx hx=>by
      injection hx with hx;subst hx
      simp;omega)
  . exact I.ar.turns S0 (Rx a (λe=>WB e.symm) hA) (Rx g (λe=>ZR e.symm) hG)
  . show s.W++_=dy (hm0 tr).W k++(hm0 tr).W k;rw[h.cat];rfl
  . by_cases e:v=k;. subst e;rw[aX,aX,<-Wg];have:=I.lk;simp only[List.length_replicate]at this;exact S0.blk this (Rx l' ahB VV)
    . have L3:v<k:=(by omega);rw[aZ _ _ e,aZ _ _ e];have h1:=h.lo v L3;exact RE.blk (h.rk v L3) (Xs _ ahB ahB h1.2.2.1)
  . by_cases e:v=k;. subst e;rw[aX];exact I.sp.turns S0 (Rx q' ahB V3)
    . have L3:v<k:=(by omega);rw[aZ _ _ e];have h1:=h.lo v L3;exact(h.rs v L3).turns RE (Xs _ ahB ahB h1.2.2.2)
  . by_cases e:v=k
    . subst e;rw[aX,aX];refine⟨by omega,by omega,λe=>?_,λe=>?_⟩;. injection e with e;exact PF l' NS VV e
      . injection e with e;exact PF q' Uz V3 e
    . have L3:v<k:=(by omega);rw[aZ _ _ e,aZ _ _ e];have h1:=h.lo v L3;have h2:=Rw v L3;refine⟨h1.1,h1.2.1,λe=>?_,λe=>?_⟩;. injection e with e;exact PF _ ahB h1.2.2.1 e
      . injection e with e;exact PF _ ahB h1.2.2.2 e
  . by_cases e:v=k
    . subst e;rw[aX];by_cases H:u=v;. subst H;rw[aX];exact I.lq
      . rw[aZ _ _ H];have:=Rw u ahB;omega
    . rw[aZ _ _ e];by_cases H:u=k;. subst H;rw[aX];have:=Rw v ahB;omega
      . rw[aZ _ _ H];exact h.ne v u ahB ahB
  . by_cases e1:v=k
    . by_cases H:u=k;. rw[e1,H]
      . rw[e1,aX,aZ _ _ H]at e;have:=Rw u ahB;omega
    . by_cases H:u=k;. rw[H,aX,aZ _ _ e1]at e;have:=Rw v ahB;omega
      . rw[aZ _ _ e1,aZ _ _ H]at e;exact h.inj v u ahB ahB e
  . rcases hT with⟨B',k1,k2,k3⟩|⟨k1,k2⟩
    . refine .inr ⟨B',k1.turns RE λi hi hB=>?_,λi hB=>⟨(k2 i hB).1,(k2 i hB).2.1,?_⟩,λx hx hB=>?_⟩
      . have:=k2 i hB;simp at hi;rcases hi with e|e|e
        . exact this.2.1 e
        . exact this.1 e
        . exact k3 i e hB
      . have:=(k2 i hB).2.2;have:=ts.size;omega
      . injection hx with hx;subst hx;rcases Ly with e|e
        . exact k3 _ e hB
        . have:=(k2 _ hB).2.2;rw[e]at this;simp at this;omega
    . refine .inl ⟨k1,k2.turns RE λi hi hB=>?_⟩;have:=h0 i hB;simp at hi;rcases hi with e|e|e
      . omega
      . omega
      . have:=(MN i e).1;omega
end
end
section
open Go.RowKit
def iF(ub uk:Nat->Nat)(D m:Nat):List Value:=(List.range m).map λt=> slice (some ⟨ub t,0,none⟩) D (uk t)
def ur(ub uk:Nat->Nat)(D m:Nat):iF ub uk D (m+1)=iF ub uk D m++[slice (some ⟨ub m,0,none⟩) D (uk m)]:=by unfold iF;rw[List.range_succ,List.map_append];rfl
def wK(ub uk:Nat->Nat)(D x y:Nat):∀m,iF (aY ub m x) (aY uk m y) D m=iF ub uk D m:=λm=>by
 unfold iF
 refine List.map_congr_left λv O=>?_
 have:=List.mem_range.1 O
 rw[aZ _ _ ahB,aZ _ _ ahB]
def mX(lb:Nat->Nat)(T:HTr)(t:Nat):∀c,(gj lb T t c).length=c*2
 |0=>rfl
 |c+1=>by rw[jw,List.length_append,mX lb T t c];show c*2+2=_;omega
def j8(lb:Nat->Nat)(T:HTr)(t:Nat):∀c k,k<c->(gj lb T t c)[k*2]? =some (pointer (some ⟨lb (T.pl t k),0,none⟩))/\(gj lb T t c)[k*2+1]? =some (J (T.sl t k))
 |0,k,h=>by omega
 |c+1,k,h=>by
  have H:=mX lb T t c;rw[jw];by_cases e:k=c;.subst e;rw[List.getElem?_append_right ahB,List.getElem?_append_right ahB,H,Nat.sub_self,show k*2+1-k*2=1 by omega];exact abJ
  .rw[List.getElem?_append_left ahB,List.getElem?_append_left ahB];exact j8 lb T t c k ahB
def pn(lb:Nat->Nat)(n v:Nat)(h:v<n):(ie lb n)[v]? =some (pointer (some ⟨lb v,0,none⟩)):=by unfold ie;simp[h]
def wJ(ub uk:Nat->Nat)(D m t:Nat)(h:t<m):(iF ub uk D m)[t]? =some (slice (some ⟨ub t,0,none⟩) D (uk t)):=by unfold iF;simp[h]
structure NwL(w6 wl:World)(l q:Nat)(bud:Int)(tr:HTr)(vR:Value)(lb:Nat->Nat)(m:Nat)(vL:Value)(ub uk:Nat->Nat):Prop where
 tn:aa [l] w6 wl
 blk:Blk wl l 247 (vH bud vR vL q tr.n)
 own:wl.ownsRow w6.heap.size 252 1 vL m (iF ub uk tr.D m)
 rs:∀t,t<m->wl.ownsRow w6.heap.size 255 2 (slice (some ⟨ub t,0,none⟩) tr.D (uk t)) tr.D (gj lb tr t tr.D)
 lo:∀t,t<m->vL.ownBlock≠some (ub t)
section
variable{w6 wl w8 w9:World}{tr:HTr}{m:Nat}{ub uk:Nat->Nat}{s:Ar}
def NwL.below{vL:Value}(h:NwL w6 wl l q bud tr vR lb m vL ub uk)(k:Below wl.heap.size wl w8):NwL w6 w8 l q bud tr vR lb m vL ub uk:=
 have t:aa [] wl w8:=aa.of_below k
 ⟨h.tn.trans (t.mono ahC),t.blk h.blk ahC,aa.own h.own t ahC,λu H=>aa.own (h.rs u H) t ahC,h.lo⟩
def NwL.step{cap nb cv I:Nat}(h:NwL w6 wl l q bud tr vR lb m (.slice A m cap) ub uk)(Pk:l<w6.heap.size)(hd:1<=tr.D)(hb:Below wl.heap.size wl w8)(h8:w8.ownsRow wl.heap.size 255 2 (slice (some ⟨nb,0,none⟩) tr.D cv) tr.D (gj lb tr m tr.D))(h9:w9.ownsRow w6.heap.size 252 1 (slice (some ⟨I,0,none⟩) (m+1) V) (m+1) (iF ub uk tr.D m++[slice (some ⟨nb,0,none⟩) tr.D cv]))(hg:(w8.alloc o).grownBy w9 (Value.slice A m cap).ownBlock)(NB:(Value.slice A m cap).ownBlock=some I\/I=(w8.alloc o).heap.size):NwL w6 (w9.setCell ⟨l,2,none⟩ (slice (some ⟨I,0,none⟩) (m+1) V)) l q bud tr vR lb (m+1) (slice (some ⟨I,0,none⟩) (m+1) V) (aY ub m nb) (aY uk m cv):=by
  have TQ:=h.below hb;have Y:∀x,(Value.slice A m cap).ownBlock=some x->w6.heap.size<=x/\x<wl.heap.size:=λx H=>h.own.lt x H;have tg:aa (Value.slice A m cap).ownBlock.toList (w8.alloc o) w9:=aa.grownByH hg;have nS:∀x,(Value.slice A m cap).ownBlock≠some x->x∉(Value.slice A m cap).ownBlock.toList:=λx H hm=>H aie;have W0:wl.heap.size<=w8.heap.size:=hb.size;have VP:w6.heap.size<=wl.heap.size:=h.tn.size;have ab:w6.heap.size<=I:=(h9.lt I rfl).1;have Po:=h8.lt nb rfl;have hL:(Value.slice A m cap).ownBlock≠some l:=λe=>by have:=Y l e;omega
  have VZ:(Value.slice A m cap).ownBlock≠some nb:=λe=>by have:=Y nb e;omega
  have ts:aa [l] w9 (w9.setCell ⟨l,2,none⟩ (slice (some ⟨I,0,none⟩) (m+1) V)):=(aa.refl _ _).setCell (.inl ahC) _
  have UU:aa (l :: (Value.slice A m cap).ownBlock.toList) w8 (w9.setCell ⟨l,2,none⟩ (slice (some ⟨I,0,none⟩) (m+1) V)):=
    (((aa.refl _ _).alloc o).trans (tg.mono λi hi=>List.mem_cons_of_mem _ hi)).trans (ts.mono ahC)
  have nF:∀x,x≠l->(Value.slice A m cap).ownBlock≠some x->x∉l :: (Value.slice A m cap).ownBlock.toList:=λx h1 h2 hm=>by
    rcases List.mem_cons.1 hm with e|e
    . exact h1 e
    . exact nS x h2 e
  have QW:∀x,x<w8.heap.size->(Value.slice A m cap).ownBlock≠some x->I≠x:=λx h1 h2 e=>by
    subst e;rcases NB with e|e
    . exact h2 e
    . have e9:(w8.alloc o).heap.size=w8.heap.size+1:=(by simp);omega
  refine⟨?_,?_,?_,λt ht=>?_,λt ht=>?_⟩
  . refine((TQ.tn.mono (T:=l :: (Value.slice A m cap).ownBlock.toList) ahC).trans UU).fresh λi hi=>?_;rcases List.mem_cons.1 hi with e|e
    . exact .inl (by simp[e])
    . exact .inr (Y i ahQ).1
  . exact(tg.blk (TQ.blk.alloc o) (nS l hL)).set_ 2 _
  . rw[ur,aX,aX,wK]
    exact aa.own h9 ts (λx H=>by
      injection H with H;subst H
      simp;omega)
  . by_cases e:t=m;. subst e;rw[aX,aX];refine aa.own (df h8 VP) UU λx H=>?_;injection H with H;subst H;exact nF _ (by have:=Po.1;show nb≠l;omega) VZ
    . have O:t<m:=(by omega);rw[aZ _ _ e,aZ _ _ e];refine aa.own (TQ.rs t O) UU λx H=>?_;injection H with H;subst H;have:=((h.rs t O).lt (ub t) rfl).1;exact nF _ (by show ub t≠l;omega) (h.lo t O)
  . by_cases e:t=m;. subst e;rw[aX];intro e;injection e with e;exact QW nb Po.2 VZ e
    . have O:t<m:=(by omega);rw[aZ _ _ e];intro e;injection e with e;have:=((h.rs t O).lt (ub t) rfl).2;exact QW _ ahB (h.lo t O) e
def Ij(l a g q:Nat)(lb qb:Nat->Nat)(bR kR bL kL:Nat)(ub uk:Nat->Nat):Hx:=⟨l,a,g,q,lb,qb,bR,0,kR,bL,0,kL,ub,λ_=>0,uk⟩
def hxB(l bR bL:Nat)(lb ub:Nat->Nat)(T:HTr)(i:Nat):Prop:=i=l\/i=bR\/i=bL\/(∃t,t<T.n/\i=ub t)\/∃v,v<T.np/\i=lb v
def JY{bR kR bL kL lo:Nat}(hN:NwR w5 w6 l b a g q bud P T tr B0 tr.np (slice (some ⟨bR,0,none⟩) tr.np kR) lb qb s)(V:NwL w6 wl l q bud tr (slice (some ⟨bR,0,none⟩) tr.np kR) lb tr.n (slice (some ⟨bL,0,none⟩) tr.n kL) ub uk)(hq:dD w6 q (List.replicate tr.n Sp.zero))(mT:tr.Ok)(h5:tr.D<=5)(hn:tr.n<=32)(hp:tr.np<=32)(hl:lo<=l/\l<w5.heap.size)(bw:lo<=q/\q<w5.heap.size)(ha:a<lo)(hg:g<lo)(bc:l≠q):aV (hxB l bR bL lb ub tr) wl (Ij l a g q lb qb bR kR bL kL ub uk) tr bud s (hm0 tr)/\∀i,hxB l bR bL lb ub tr i->lo<=i:=by
  have ad:=hN.tn.size;have VP:=V.tn.size;have ax:=hN.own.lt bR rfl;have al:=V.own.lt bL rfl;have PM:∀t,t<tr.n->w6.heap.size<=ub t/\ub t<wl.heap.size:=λt ht=>(V.rs t ht).lt (ub t) rfl;have Nc:∀v,v<tr.np->lb v<w6.heap.size/\qb v<w6.heap.size:=λv O=>⟨(hN.rk v O).lt,(hN.rs v O).lt⟩;have I:∀v,v<tr.np->w5.heap.size<=lb v/\w5.heap.size<=qb v/\bR≠lb v/\bR≠qb v:=λv O=>by obtain⟨a1,a2,a3,a4⟩:=hN.lo v O;exact⟨a1,a2,λe=>a3 (by rw[<-e];rfl),λe=>a4 (by rw[<-e];rfl)⟩
  have hd:=mT.d1;have t:=V.tn;have V1:∀v,((hm0 tr).P v).length=tr.nv v:=λv=>by simp[hm0]
  have Zl:∀v,((hm0 tr).W v).length=2*tr.nv v+1:=λv=>by simp[hm0]
  have ZK:tr.np<=kR:=by
    rcases hN.own.2 with⟨e,_⟩|⟨_,_,_,e,_,_,h1,_⟩
    . simp at e
    . injection e with _ _ e;omega
  have ZJ:tr.n<=kL:=by
    rcases V.own.2 with⟨e,_⟩|⟨_,_,_,e,_,_,h1,_⟩
    . simp at e
    . injection e with _ _ e;omega
  have ab:∀u,u<tr.n->tr.D<=uk u:=λu h=>by
    rcases(V.rs u h).2 with⟨e,_⟩|⟨_,_,_,e,_,_,h1,_⟩
    . simp at e
    . injection e with _ _ e;omega
  refine⟨⟨⟨.inl rfl,.inr (.inl rfl),.inr (.inr (.inl rfl)),λu h=> .inr (.inr (.inr (.inl ⟨u,h,rfl⟩))),λv O=> .inr (.inr (.inr (.inr ⟨v,O,rfl⟩))),?_,?_,?_,λv O=>?_,λv O=>?_,λv O=>?_,hN.inj,hn,hp,h5,mT.nv32,ZK,ZJ,ab⟩,
    ?_,hN.cat,λv _=>Zl v,V.blk,by simp[hm0],?_,λv O=>?_,λv _=>V1 v,λv O=>?_,λv O=>?_,λu h=>?_,λu k h hk=>?_,λu k h hk=>?_,λi hi=>?_⟩,λi hi=>?_⟩
  . intro i hi hB
    have Y:i=a\/i=g\/i=q\/∃v,v<tr.np/\qb v=i:=by
      unfold mvL Ij at hi;rcases List.mem_append.1 hi with hi|hi
      . simp at hi;omega
      . obtain⟨v,O,e⟩:=List.mem_map.1 hi;exact .inr (.inr (.inr ⟨v,List.mem_range.1 O,e⟩))
    rcases hB with e|e|e|⟨u,h,e⟩|⟨u,h,e⟩
    . rcases Y with H|H|H|⟨v,O,H⟩
      . omega
      . omega
      . omega
      . have:=I v O;omega
    . rcases Y with H|H|H|⟨v,O,H⟩
      . omega
      . omega
      . omega
      . have:=I v O;omega
    . rcases Y with H|H|H|⟨v,O,H⟩
      . omega
      . omega
      . omega
      . have:=Nc v O;omega
    . have:=PM u h;rcases Y with H|H|H|⟨v,O,H⟩
      . omega
      . omega
      . omega
      . have:=Nc v O;omega
    . have:=I u h;rcases Y with H|H|H|⟨v,O,H⟩
      . omega
      . omega
      . omega
      . exact hN.ne u v h O ahB
  . show q≠a;omega
  . show q≠g;omega
  . show qb v≠a;have:=I v O;omega
  . show qb v≠g;have:=I v O;omega
  . show qb v≠q;have:=I v O;omega
  . exact hN.ar.turns t ahG ahG
  . exact hq.turns t ahG
  . show Blk wl (lb v) _ #[_,_,.slice _ ((hm0 tr).P v).length ((hm0 tr).P v).length];rw[V1];exact t.blk (hN.rk v O) (by have:=I v O;simp;omega)
  . exact(hN.rs v O).turns t (by have:=I v O;simp;omega)
  . have c:=hN.own.cellAt v ahB;rw[pn _ _ _ O]at c;show wl.cell? ⟨bR,0+v,none⟩=_;rw[Nat.zero_add];exact t.cell c ahG
  . have c:=V.own.cellAt u ahB;rw[wJ _ _ _ _ _ h]at c;show wl.cell? ⟨bL,0+u,none⟩=_;rw[Nat.zero_add];exact c
  . have c:=(V.rs u h).cellAt (k*2) ahB;rw[(j8 lb tr u tr.D k hk).1]at c;show wl.cell? ⟨ub u,0+k*2,none⟩=_;rw[Nat.zero_add];exact c
  . have c:=(V.rs u h).cellAt (k*2+1) ahB;rw[(j8 lb tr u tr.D k hk).2]at c;show wl.cell? ⟨ub u,0+k*2+1,none⟩=_;rw[Nat.zero_add];exact c
  . rcases hi with e|e|e|⟨u,h,e⟩|⟨u,h,e⟩
    . omega
    . omega
    . omega
    . have:=PM u h;omega
    . have:=Nc u h;omega
  . rcases hi with e|e|e|⟨u,h,e⟩|⟨u,h,e⟩
    . omega
    . omega
    . omega
    . have:=PM u h;omega
    . have:=I u h;omega
end
end
section
open Go.RowKit
def tH(I:k<P.length):chL P k=[]↔dm P k=true:=by refine⟨λh=>?_,xJ⟩;unfold dm;rw[decide_eq_true_eq];refine⟨by omega,by omega,λhm=>?_⟩;obtain⟨n,H⟩:=List.getElem?_of_mem hm;have:=CA H;rw[h]at this;cases this
def Ea(O:k<P.length)(h:dm P k=true):(ac P)[(am P k).length]? =some (k:Int):=by
 have I:∀d,(am P (k+1+d))[(am P k).length]? =some (k:Int)/\(am P k).length<(am P (k+1+d)).length:=by
  intro d;induction d with
  |zero=>have e:am P (k+1)=am P k++[(k:Int)]:=(by rw[cI,if_pos h]);show(am P (k+1))[_]? =_/\_<(am P (k+1)).length;rw[e];exact⟨by simp,by simp⟩
  |succ d H=>
   show(am P (k+1+d+1))[_]? =_/\_<(am P (k+1+d+1)).length;rw[cI P (k+1+d)];split;.exact⟨by rw[List.getElem?_append_left H.2];exact H.1,by simp;omega⟩
   .exact H
 have:=(I (P.length-(k+1))).1;rwa [show k+1+(P.length-(k+1))=P.length by omega]at this
def wv(h:a5 P T=0)(H:k<P.length):1<=nvT P T k/\nvT P T k<=32:=by
 refine⟨?_,(jh h).nv32 k H⟩;unfold nvT;split;.omega
 .rename_i I;have:=List.length_pos_iff.2 I;omega
def AL(h:a5 P T=0)(I:k<=P.length):(dy (hm0 (cB P T)).W k).length<=2080:=by
 have H:=bh (aR h).1
 have h1:=qV (W:=(hm0 (cB P T)).W) (b:=65) k λv O=>by
  have:=(wv h (show v<P.length by omega)).2;have e:((hm0 (cB P T)).W v).length=2*nvT P T v+1:=by simp[hm0,cB]
  omega
 omega
def slT(h:a5 P T=0){t:Nat}(O:t<T.length){x:Int}(a:XAt P T t x)(I:k<(jp P T).toNat):(((cB P T).sl t k:Nat):Int)=slX P T t x k:=by
 have ex:T.getD t 0=x:=bm a.at_;show(((slX P T t (T.getD t 0) k).toNat:Nat):Int)=_;rw[ex];cases k with
 |zero=>
  have:0<=slX P T t x 0:=by show 0<=cO T t;unfold cO;omega
  omega
 |succ k=>obtain⟨v,u,j,_,_,_,_,H,_⟩:=a.above h I;rw[H];omega
def GL(h:a5 P T=0):∀v,v<P.length->(dy (hm0 (cB P T)).W v).length+(2*(cB P T).nv v+1)<=4096:=λv O=>by
 have h1:=AL h (Nat.le_of_lt O)
 have H:(cB P T).nv v<=32:=(wv h O).2
 omega
def CR{s:Ar}(h:aB w a g s)(n:Nat)(h1:1<=n)(Y:n<=32)(I:s.W.length+(2*n+1)<=s.room):E 141 #[↑a,J n] w λe w'=>∃l q,e= returned (tuple #[pointer (some ⟨l,0,none⟩),J 0])/\cZ w' l a g q (s.W.length+1) ⟨{s with W:=s.W++List.replicate (2*n+1) 0},List.replicate n Sp.zero⟩/\w.heap.size<=l/\w.heap.size<=q/\aa [a] w w':=by
  refine(zn h n).mono ?_;intro e w' hN;have e0:gb s n=0:=by unfold gb;rw[if_neg ahB,if_neg ahB]
  unfold p8 at hN;rw[if_pos e0]at hN;obtain⟨l,q,O,H,V⟩:=hN;rw[show(2*(n:Int)+1).toNat=2*n+1 by omega,Int.toNat_natCast]at H;exact⟨l,q,O,H,V⟩
def BJ(l:List Int):l.flatMap encI=l.map (Value.int .i64):=by
 induction l with
 |nil=>rfl
 |cons a l h=>rw[List.flatMap_cons,h];rfl
def qW(w:World)(x y:Value)(t:TypeId):∀j u,[x,y][j]? =some u->(w.alloc (cells #[x,y] t)).cell? ((⟨w.heap.size,0,none⟩:Addr).add j)=some u:=by
 intro j u h;match j,h with
 |0,h=>simp at h;subst h;simp[Addr.add,World.cell?_alloc_new]
 |1,h=>simp at h;subst h;simp[Addr.add,World.cell?_alloc_new]
 |n+2,h=>simp at h
end
section
open Go.RowKit
def G8(w:World)(a g:Nat)(s:Ar)(bud:Int)(P T:List Int)(e:Ending)(w':World):Prop:=
 ∃(B:Nat->Prop) (x:Hx) (s':Ar),x.a=a/\x.g=g/\e= returned (tuple #[↑x.l,J 0])/\aV B w' x (cB P T) bud s' (hm0 (cB P T))/\s'=⟨dy (hm0 (cB P T)).W P.length,s.room,0,0,0,false⟩/\(∀i,B i->w.heap.size<=i)/\w.heap.size<=x.q/\(∀v,v<P.length->w.heap.size<=x.qb v)/\aa [a] w w'
def II{s:Ar}(h:aB w a g s)(hs:s.W=[])(L0:a≠g)(Y:Option Addr)(cP:Nat)(vT:Value)(P T:List Int)(hP:RdL w (.slice Y P.length cP) 1 encI P)(NM:∀i,(Value.slice Y P.length cP).ownBlock=some i->i≠a/\i<w.heap.size)(hT:RdL w vT 1 encI T)(hc:a5 P T=0)(bud:Int)(Na:0<=bud)(hd1:bud<=1000)(I:s=⟨[],s.room,0,0,0,false⟩/\∀v,v<P.length->(dy (hm0 (cB P T)).W v).length+(2*(cB P T).nv v+1)<=s.room):E 104 #[↑a,agg #[.slice Y P.length cP,vT],J bud] w (G8 w a g s bud P T):=by
  obtain⟨i0,hi,Kr,Ku,bc⟩:=info_parts Tryz.infoSp;obtain⟨j0,hj,PO,PP,O0⟩:=info_parts Tryz.infoHr;have HJ:=qh (And.intro hj (And.intro PO (And.intro PP O0)));obtain⟨j1,MM,Xf,Xh,Xj⟩:=info_parts Tryz.infoHs;have RQ:=qh (And.intro MM (And.intro Xf (And.intro Xh Xj)));obtain⟨j2,Wu,Xg,Xi,Xk⟩:=info_parts Tryz.infoHl;have RR:=qh (And.intro Wu (And.intro Xg (And.intro Xi Xk)));clear hj PO PP O0 MM Xf Xh Xj Wu Xg Xi Xk;have KX:=bh (aR hc).1;refine ajz ?_;intro LP L9 Mp My;obtain⟨Oh,Zh⟩:1<=P.length/\P.length<=32:=⟨KX.1,KX.2.1⟩;have H:=qh (And.intro h (And.intro LP (And.intro L9 L0)));have HN:=qh (i3 (w.alloc (cells #[.slice Y P.length cP,vT] 24)) (.slice Y P.length cP) vT P T (hP.alloc _) (hT.alloc _) hc);have HS:=qh (And.intro hs I);have Lg:=qh hc;have Vl:=qh (And.intro hP NM);have HR:=qh (λW=>pp bud W Na hd1);have ad:(w.alloc (cells #[.slice Y P.length cP,vT] 24)).heap.size=w.heap.size+1:=by simp
  have B0:=qh ((Below.refl w.heap.size w).alloc (Nat.le_refl _) (cells #[.slice Y P.length cP,vT] 24));have BX:=qh (Blk.new w 24 #[.slice Y P.length cP,vT]);clear h hs hP NM hT Na hd1 I KX LP L9 L0 hc;go_enter func104,ntmps104;go_wp2_with fail;refine HN.o.mono ?_;rintro en w1 ⟨b,rfl,hb,t1,b1⟩;rw[ad]at hb t1 b1;refine akc ?_;intro K1;clear t1 b1 hb HN;go_wp2_with fail;refine LT (HR.o _) ?_;go_wp2_with fail;refine LT (eo _ _ _ _ (K1.o.1.tab Lg.o)) ?_;go_wp2_with (refine wpList_make_full _ rfl (.tmp 37) (.tmp 37) 237 rfl w1.heap.size 113 i0 (agg #[J 0,J 0,J 0,J 0]) 4 Tryz.underlying237 hi Kr Ku .i64 .i64 T.length T.length T.length rfl rfl rfl rfl ?b2 ?b3 (Nat.le_refl _) ?_);case b2=>rw[bc];omega
  case b3=>unfold maxLen;omega
  intro w4 t3 hg;have hb:dD w4 w1.heap.size (List.replicate T.length Sp.zero):=by unfold dD;rw[po];have:=gc t3;have e:(madeCells #[Value.int .i64 0,J 0,J 0,J 0] (T.length*4)).toList=List.replicate (T.length*4) (J 0):=lY _ _;exact aa5
  have t4:aa [] w1 w4:=aa.of_below ((Below.refl w1.heap.size w1).grown hg (Nat.le_refl _) (λj hj=>by cases hj));have MB:=hb.lt;have H4:=qh (And.intro hb (And.intro t4 MB));clear t3 hg hb t4 MB;go_upto_region 7 with fail;obtain⟨q,hq⟩:=LE w1.heap.size;rw[<-hq]at H4 ⊢;have HQ:=qh hq;clear hq;obtain⟨l,hl⟩:=LE w4.heap.size;obtain⟨w5,Lp⟩:=LE (w4.alloc (.cells (vH bud (.slice none 0 0) (.slice none 0 0) q T.length) 247));have N5:=Lp;unfold vH at N5;rw[<-N5,<-hl];have t5:aa [] w4 w5:=by rw[Lp];exact(aa.refl _ _).alloc _
  have Ox:w5.heap.size=l+1:=by rw[Lp,hl];simp
  have NN:Blk w5 l 247 (vH bud (.slice none 0 0) (.slice none 0 0) q T.length):=by rw[Lp,hl];exact Blk.new _ _ _
  have HO:=qh (show a<w.heap.size/\g<w.heap.size/\a≠g/\w.heap.size+1<=b/\b<w1.heap.size/\w1.heap.size=q/\q<l/\w5.heap.size=l+1/\w.heap.size+1<=w1.heap.size from by
    have e1:b<w1.heap.size:=K1.o.1.low.2;have e2:=K1.o.2.2.2;have e3:=H4.o.2.2;have e4:=H.o;have e5:=HQ.o
    omega)
  have T5:=qh (show aa [] w1 w5 from H4.o.2.1.trans t5);have S8:Kq (∀W,aa [l,b,a] w5 W->W.cell? w.heap.size=some (.slice Y P.length cP)/\Z W w.heap.size 1 vT/\RdL W (.slice Y P.length cP) 1 encI P):=qh λW V=>by have o:=HO.o;have k1:aa [l,b,a] w1 W:=(T5.o.mono ahC).trans V;have bx:=k1.blk K1.o.2.2.1 ahG;refine⟨bx.cell 0,bx.cell 1,?_⟩;have k0:RdL w1 (.slice Y P.length cP) 1 encI P:=Vl.o.1.below K1.o.2.1 (Nat.le_refl _);exact k0.turns k1 λg' On hm=>by have:=Vl.o.2 g' On;simp at hm;omega
  have Tu:=qh (H4.o.1.turns (T:=[]) t5 ahC)
  have HI:=qh (show NwR w5 w5 l b a g q bud P T (cB P T) (λi=>w.heap.size+1<=i/\i<w1.heap.size) 0 (.slice none 0 0) (λ_=>0) (λ_=>0) s from by
    have o:=HO.o;refine⟨aa.refl _ _,NN,World.ownsRow_nil _ _ _ _,?_,?_,⟨by rw[HS.o.1];exact HS.o.2.1,HS.o.2.2⟩,λv O=>absurd O (Nat.not_lt_zero _),λv O=>absurd O (Nat.not_lt_zero _),λv O=>absurd O (Nat.not_lt_zero _),λv u O=>absurd O (Nat.not_lt_zero _),λv u O=>absurd O (Nat.not_lt_zero _),.inl ⟨rfl,K1.o.1.turns T5.o ahC⟩⟩;. exact(H.o.1.turns (aa.of_below (S:=[]) K1.o.2.1) ahC ahC).turns T5.o ahC ahC
    . rw[HS.o.1];rfl)
  have h0:Kq (∀i,(w.heap.size+1<=i/\i<w1.heap.size)->i≠l/\i≠a/\i<w5.heap.size):=qh λi hi=>by have o:=HO.o;omega
  clear Lp N5 t5 Ox NN hl H4;obtain⟨f0,f1,_⟩:=S8.o _ (aa.refl _ _);go_wp2;clear f0 f1;go_loopw [11,44] (λlf i wr=>∃(k:Nat) (vR:Value) (lb qb:Nat->Nat) (s1:Ar),lf= J ((am P k).length:Nat)/\i= J k/\k<=P.length/\NwR w5 wr l b a g q bud P T (cB P T) (λi=>w.heap.size+1<=i/\i<w1.heap.size) k vR lb qb s1/\s1.room=s.room) (λ_ i _=>P.length-(intOf i).toNat);case atStart=>exact⟨0,_,_,_,_,rfl,rfl,by omega,HI.o,rfl⟩
  case round=>
    clear HI;obtain⟨k,vR,lb,qb,s1,rfl,rfl,hk,V,Nd⟩:=hrel;obtain⟨wo,rfl⟩:∃wo:World,wo=wr:=⟨_,rfl⟩;by_cases I':k<P.length
    . obtain⟨A,cap,rfl⟩:=bE V.own;have HW:=qh (And.intro V Nd);obtain⟨f0,f1,f2⟩:=S8.o _ V.tn;have Pw:=qh (xn wo (.slice Y P.length cP) vT P f2 ahB (k:Int));obtain⟨n0,ab⟩:=LE ((chL P k).length);rw[<-ab]at Pw;have Px:=qh ab;have Lz:=a8 P k;clear V Nd f2 ab;go_wp2_with fail;refine Pw.o.mono ?_;rintro en w2 ⟨v2,rfl,o2,b2⟩;obtain⟨A2,c2,rfl⟩:=bE o2;have MX:n0<=32:=(by have:=li P k P.length;have:=Px.o;unfold chL at this;omega);have Oe:=qh (And.intro (HW.o.1.below b2 ah3 ah3 ah3 ah3) HW.o.2);clear b2 o2 f0 f1 HW Pw;go_upto_if 52 with fail;go_cut [11,13] (λs11 s13 wx=>s11= J ((am P (k+1)).length:Nat)/\s13= J (nvT P T k:Nat)/\NwR w5 wx l b a g q bud P T (cB P T) (λi=>w.heap.size+1<=i/\i<w1.heap.size) k (.slice A k cap) lb qb s1/\(Do l a wx b P T (.slice A k cap)\/(am P (k+1)=[]/\ip (λi=>w.heap.size+1<=i/\i<w1.heap.size) wx b P T)))
      case first=>
        by_cases Pg:chL P k=[]
        . have LX:=(tH I').1 Pg;have HM:=qh (Oe.o.1.mates Lg.o ah3 ah3 ah3 ah3 h0.o (Ea I' LX));have HV:=qh (show((am P (k+1)).length=(am P k).length+1)/\nvT P T k=max 1 (T.count (k:Int))from⟨by rw[cI,if_pos LX];simp,by unfold nvT;rw[if_pos Pg]⟩);have Zk:T.count (k:Int)<=32:=Nat.le_trans List.count_le_length My;obtain⟨ct,Nz⟩:=LE (T.count (k:Int));rw[<-Nz]at HM HV Zk;have e0:n0=0:=(by rw[Px.o,Pg];rfl);subst e0;clear Pg LX Nz;go_wp2_with fail;refine Op HM.o λw3 Pc=>?_;have H3:=qh (And.intro Pc.o.1 Pc.o.2.1);clear HM;go_wp2
          all_goals
            go_meet
            case rel=>
              refine⟨?_,?_,H3.o.1,.inl H3.o.2⟩;. rw[HV.o.1];go_num
              . rw[HV.o.2];exact congrArg (Value.int .i64) ahB
        . have LX:¬dm P k=true:=λe=>Pg ((tH I').2 e);have HV:=qh (show am P (k+1)=am P k/\nvT P T k=n0 from⟨by rw[cI,if_neg LX],by unfold nvT;rw[if_neg Pg,Px.o]⟩);have e0:0<n0:=(by rw[Px.o];exact List.length_pos_iff.2 Pg);have e1:¬(n0:Int)=0:=(by omega);have e2:((n0:Int)==0)=false:=(by simpa using e1);clear Pg LX;go_wp2;go_meet
          case rel=>
            refine⟨by rw[HV.o.1],by rw[HV.o.2],Oe.o.1,?_⟩;rcases Oe.o.1.tab with⟨q1,q2⟩|q1
            . exact .inr ⟨by rw[HV.o.1];exact q1,q2⟩
            . exact .inl q1
      case rest=>
        obtain⟨rfl,rfl,Pc,V6⟩:=hcut;obtain⟨w3,rfl⟩:∃w3:World,w3=wc:=⟨_,rfl⟩;obtain⟨nv,OS⟩:=LE (nvT P T k);rw[<-OS];have Vg:=qh OS;have WL:1<=nv/\nv<=32:=(by rw[OS];exact wv Lg.o I');have Vp:=qh (CR Pc.ar nv WL.1 WL.2 (by have h9:=Pc.room.2 k I';rw[Pc.cat,OS];exact h9));have H3:=qh (And.intro Pc (And.intro V6 Oe.o.2));clear Pc V6 Oe OS Px MX;go_wp2_with fail;refine Vp.o.mono ?_;rintro en w4 ⟨l',q',rfl,UC,Wz,WU,t4⟩;have o:=HO.o;have O8:Blk w4 l 247 (vH bud (.slice A k cap) (.slice none 0 0) q T.length):=t4.blk H3.o.1.blk ahG;have o4:w4.ownsRow w5.heap.size 249 1 (.slice A k cap) k (ie lb k):=aa.own H3.o.1.own t4 (λx hx=>by have:=(H3.o.1.own.lt x hx).1;simp;omega);have P0:Z w4 l 1 (.slice A k cap):=O8.cell 1;have ea:w5.heap.size<=w4.heap.size:=Nat.le_trans H3.o.1.tn.size t4.size;have cT:l<w4.heap.size:=O8.lt;have Rj:(Value.slice A k cap).ownBlock≠some l:=(λe=>by have:=(H3.o.1.own.lt l e).1;omega);have H4:=qh (And.intro UC (And.intro Wz (And.intro WU t4)));have Vi:=qh o4;have U2:=qh O8;clear UC Wz WU t4 o4 O8 Vp o;go_wp2_with (at_builtin;refine wpList_append_lies _ rfl _ _ 244 rfl w5.heap.size 249 j0 (.pointer none) 1 8 Tryz.underlying244 HJ.o.1 HJ.o.2.1 HJ.o.2.2.1 HJ.o.2.2.2 rfl ahD _ _ _ rfl (Vi.o.alloc _) ⟨w4.heap.size,0,none⟩ 1 1 [pointer (some ⟨l',0,none⟩)] rfl rfl (cell_one_new _ _ _) ah4 ahD ?c3 ?c4 ?c5 _ rfl ?_);case c3=>unfold maxLen;omega
        case c4=>omega
        case c5=>simp;omega
        intro g3 Lq w7 h3 Ly NS Up;have M8:=(U2.o.alloc (cells #[↑l'] 249)).grown Ly (λe=>Rj e.symm);have cV:Z w7 l 1 (.slice A k cap):=M8.cell 1;have ef:=M8.free 1
        have Oc:=qh (show NwR w5 (w7.setCell ⟨l,1,none⟩ (slice (some ⟨g3,0,none⟩) (k+1) Lq)) l b a g q bud P T (cB P T) (λi=>w.heap.size+1<=i/\i<w1.heap.size) (k+1) (slice (some ⟨g3,0,none⟩) (k+1) Lq) (aY lb k l') (aY qb k q') {s1 with W:=s1.W++List.replicate (2*nv+1) 0} from by
          have o:=HO.o;obtain rfl:=Vg.o
          exact H3.o.1.step H3.o.2.1 h0.o ahB ahB ahB ahB ahB rfl H4.o.1 H4.o.2.1 H4.o.2.2.1 H4.o.2.2.2 h3 Ly (by simpa using NS))
        have X':=qh H3.o.2.2;clear h3 Ly NS M8 U2 Vi H4 H3 Vg;go_wp2;go_roundw;case rel=>exact⟨k+1,_,_,_,_,rfl,by go_num,by omega,Oc.o,X'.o⟩
        case measure=>simp[intOf];omega
    . obtain rfl:k=P.length:=by omega
      obtain⟨bR,cR,rfl,bT,bV⟩:=gQ V.own ahB;have c3:Z wo l 3 (slice (some ⟨q,0,none⟩) T.length T.length):=V.blk.cell 3
      have Yw:Kq (∃B',eX B' wo b P T/\∀i,B' i->i≠l):=qh (by
        rcases V.tab with⟨q1,_⟩|⟨B',q1,q2,_⟩
        . exfalso;obtain⟨x,a',_⟩:=xAt Lg.o (show 0<T.length by omega);have:=fR.2 a'.leaf;unfold ac at this;rw[q1]at this;cases this
        . exact⟨B',q1,λi hi=>(q2 i hi).1⟩)
      have Yh:=qh (Tu.o.turns V.tn ahK)
      have Ll:=qh (show NwL wo wo l q bud (cB P T) (slice (some ⟨bR,0,none⟩) P.length cR) lb 0 (.slice none 0 0) (λ_=>0) (λ_=>0)from
        ⟨aa.refl _ _,V.blk,World.ownsRow_nil _ _ _ _,λt ht=>absurd ht (Nat.not_lt_zero _),λt ht=>absurd ht (Nat.not_lt_zero _)⟩)
      have Y3:w5.heap.size<=wo.heap.size:=V.tn.size;have HW:=qh (And.intro V Nd);clear V Nd;go_wp2;clear c3;go_loopw [84] (λi wl=>∃(m:Nat) (vL:Value) (ub uk:Nat->Nat),i= J m/\m<=T.length/\NwL wo wl l q bud (cB P T) (slice (some ⟨bR,0,none⟩) P.length cR) lb m vL ub uk) (λi _=>T.length-(intOf i).toNat);case atStart=>exact⟨0,_,_,_,rfl,by omega,Ll.o⟩
      case round=>
        clear Ll;obtain⟨m,vL,ub,uk,rfl,hm,hL⟩:=hrel;obtain⟨wl,rfl⟩:∃wl:World,wl=wr:=⟨_,rfl⟩;by_cases St:m<T.length
        . obtain⟨x,ax,ex⟩:=xAt Lg.o St;obtain⟨A,cap,rfl⟩:=bE hL.own;have QI:Kq (∀W,Below wl.heap.size wl W->iK W b P T/\Blk W l 247 (vH bud (slice (some ⟨bR,0,none⟩) P.length cR) (.slice A m cap) q T.length)/\(W.cell? w.heap.size=some (.slice Y P.length cP)/\Z W w.heap.size 1 vT/\RdL W (.slice Y P.length cP) 1 encI P)/\∀v,v<P.length->Z W bR v (pointer (some ⟨lb v,0,none⟩))):=qh λW V=>by obtain⟨B',k1,k2⟩:=Yw.o;have tw:aa [l] wo W:=hL.tn.trans (aa.of_below V);have o:=HO.o;refine⟨(k1.turns tw λi hi hB=>k2 i hB ah6).f,(hL.below V).blk,S8.o _ (HW.o.1.tn.trans (tw.mono ahC)),λv O=>?_⟩;have c:=HW.o.1.own.cellAt v ahB;rw[pn _ _ _ O]at c;exact tw.cell c ahG
          have Lo:l<wl.heap.size:=hL.blk.lt;obtain⟨D,hD⟩:=LE ((jp P T).toNat);have ec:1<=D/\D<=5:=(by rw[hD];exact⟨(jh Lg.o).d1,x9 Lg.o⟩);have Tz:=Kc wl b P T m x ax.at_ (QI.o wl (Below.refl _ _)).1;rw[ax.len,<-hD]at Tz;have HU:=qh Tz;have HL:=qh hL;have HX:=qh (And.intro ax (And.intro ex hD));clear hL ax ex hD Tz;go_wp2_with fail;refine HU.o.mono ?_;rintro en w7 ⟨v7,rfl,o7,b7⟩;obtain⟨bu,cu,rfl,bW,Zo⟩:=gQ o7 ahB;have VB:Kq (∀W,Below w7.heap.size w7 W->∀c,c<D->Z W bu c (J (plX P x c))):=qh λW V c K9=>by have e:=o7.cellAt c ahB;have Wj:(upL P x)[c]? =some (plX P x c):=(by obtain⟨u,hu⟩:=ai (show c<(upL P x).length by rw[HX.o.1.len,<-HX.o.2.2];exact K9);rw[hu];unfold plX;rw[bm hu]);have e2:((upL P x).flatMap encI)[c]? =some (J (plX P x c)):=(by have:(upL P x).flatMap encI=(upL P x).map (Value.int .i64):=BJ _;rw[this,List.getElem?_map,Wj];rfl);rw[e2]at e;exact(V.cell (p:=⟨bu,c,none⟩) Zo).trans e
          have H7:=qh b7;have QS:wl.heap.size<=w7.heap.size:=b7.size;clear o7 b7 HU;go_wp2;go_loopw [17,92] (λlv i wi=>∃(c:Nat),i= J c/\c<=D/\Below w7.heap.size w7 wi/\wi.ownsRow w7.heap.size 255 2 lv c (gj lb (cB P T) m c)) (λ_ i _=>D-(intOf i).toNat);case atStart=>exact⟨0,rfl,by omega,Below.refl _ _,World.ownsRow_nil _ _ _ _⟩
          case round=>
            obtain⟨c,rfl,K9,P5,P9⟩:=hrel;obtain⟨wi,rfl⟩:∃wi:World,wi=wr:=⟨_,rfl⟩;by_cases Ud:c<D
            . obtain⟨v,_,al,UN,_,_⟩:=HX.o.1.up c (by rw[<-HX.o.2.2];exact Ud);have YV:=VB.o wi P5 c Ud;have Yb:=qh (show(cB P T).pl m c=v from by show(plX P (T.getD m 0) c).toNat=v;rw[HX.o.2.1,UN,Int.toNat_natCast]);rw[UN]at YV;obtain⟨g0,g1,⟨g2,g3,g4⟩,g5⟩:=QI.o wi (H7.o.trans (P5.mono QS));have Vt:=qh (Fl wi b P T m St g0);obtain⟨A3,c3,rfl⟩:=bE P9;have HI:=qh (And.intro P5 P9);have HV:=qh UN;clear g0 g1 g2 g3 g4 g5 P5 P9;go_wp2_with fail;refine LT Vt.o ?_;clear Vt;go_upto_if 101 with fail;go_cut [21] (λbw wx=>bw= J ((cB P T).sl m c:Nat)/\Below wi.heap.size wi wx)
              case first=>
                by_cases hc0:c=0;. subst hc0;have H':=qh (slT Lg.o St HX.o.1 (k:=0) (by rw[<-HX.o.2.2];omega));go_wp2;go_meet;case rel=>exact⟨by rw[H'.o];rfl,Below.refl _ _⟩
                . obtain⟨d,rfl⟩:∃d,c=d+1:=⟨c-1,by omega⟩;obtain⟨c,hc⟩:=LE (d+1);obtain⟨v0,_,cU,Xb,_,_⟩:=HX.o.1.up d (by rw[<-HX.o.2.2];omega)
                  have H':=qh (show(((cB P T).sl m (d+1):Nat):Int)=fQ (chL P v) v0 from by
                    rw[slT Lg.o St HX.o.1 (k:=d+1) (by rw[<-HX.o.2.2];exact Ud)];show fQ (chL P (plX P x (d+1))) (plX P x d)=_
                    rw[HV.o,Xb])
                  have TK:=VB.o wi HI.o.1 d ahB;rw[Xb]at TK;obtain⟨g0,g1,⟨g2,g3,g4⟩,g5⟩:=QI.o wi (H7.o.trans (HI.o.1.mono QS));have Pw:=qh (xn wi.drew (.slice Y P.length cP) vT P (show RdL wi.drew (.slice Y P.length cP) 1 encI P from g4) ahB (v:Int));have UH:w.heap.size<wi.heap.size:=(by have:=HO.o;have:=HI.o.1.size;omega);have Ls:bu<wi.heap.size:=(by have:=HI.o.1.size;omega);have cM:(chL P v).length<=32:=(by have:=li P v P.length;unfold chL;omega);have x1:IntKind.i64.wrap (((d:Nat):Int)+1-1)=(d:Int):=(by rw[Int.add_sub_cancel];exact IntWalk.i64_in _ ahB);have x2:(d:Int)<(D:Int):=(by omega);have x4:IntKind.i64.wrap (d:Int)=(d:Int):=IntWalk.i64_in _ ahB;have x5:¬(d:Int)<0:=(by omega);have x6:¬(D:Int)<=(d:Int):=(by omega);have x3:d<D:=(by omega);clear g0 g1 g4 g5 hc;go_wp2
                  go_region_held3 (λW=>W.cell? w.heap.size=some (.slice Y P.length cP)/\Z W w.heap.size 1 vT/\Z W bu d (J v0))
                    (first|exact⟨g2,g3,TK⟩|exact K8.o)
                    (first
                      | (go_at_call 140;go_loud (refine Pw.o.mono ?_);rintro en w8 ⟨v8,rfl,o8,b8⟩;have B8:=qh (show Below wi.heap.size wi w8 from⟨b8.os,b8.tape,b8.output,b8.size,b8.block⟩);have K8:=qh (And.intro ((B8.o.cell (p:=w.heap.size) UH).trans g2) (And.intro ((B8.o.cell (p:=⟨w.heap.size,1,none⟩) UH).trans g3) ((B8.o.cell (p:=⟨bu,d,none⟩) Ls).trans TK)));have RO:=qh (mA w8 v8 (chL P v) v0 (dO o8 ahB));clear o8 b8)
                      | (go_at_call 119;go_loud (refine LT RO.o ?_)))
                  all_goals go_wp2;go_meet;case rel=>exact⟨by rw[H'.o],B8.o⟩
              case rest=>
                obtain⟨rfl,L8⟩:=hcut;obtain⟨wx,rfl⟩:∃wx:World,wx=wc:=⟨_,rfl⟩;have Sf:Below w7.heap.size w7 wx:=HI.o.1.trans (L8.mono HI.o.1.size);have WS:wx.ownsRow w7.heap.size 255 2 (.slice A3 c c3) c (gj lb (cB P T) m c):=aa.own HI.o.2 (aa.of_below (S:=[]) L8) ahC;obtain⟨g0,g1,_,g5⟩:=QI.o wx (H7.o.trans (Sf.mono QS));have c1:Z wx l 1 (slice (some ⟨bR,0,none⟩) P.length cR):=g1.cell 1;have g6:=g5 v al;have HY:=qh (And.intro Sf WS);have Y4:w7.heap.size<=wx.heap.size:=Sf.size;have ee:l<wx.heap.size:=(by omega);have cp:bR<wx.heap.size:=(by have:=aI g6;exact this);have y1:(v:Int)<(P.length:Int):=(by omega);have y2:¬(v:Int)<0:=(by omega);clear g0 g1 g5 Sf WS L8 HI;go_wp2_with (at_builtin;refine wpList_append_lies _ rfl _ _ 252 rfl w7.heap.size 255 j1 (agg #[.pointer none,J 0]) 2 16 Tryz.underlying252 RQ.o.1 RQ.o.2.1 RQ.o.2.2.1 RQ.o.2.2.2 rfl ahD _ _ _ rfl (HY.o.2.alloc _) ⟨wx.heap.size,0,none⟩ 1 1 [pointer (some ⟨lb v,0,none⟩),J ((cB P T).sl m c:Nat)] rfl rfl (qW _ _ _ _) ah4 ahD ?c3 ?c4 ?c5 _ rfl ?_);case c3=>unfold maxLen;omega
                case c4=>omega
                case c5=>first|(simp;omega)|omega
                intro g3 Lq w9 h9 NB Sq ZU;have H9:=qh (And.intro h9 NB);clear h9 NB Sq;go_wp2;go_roundw;case rel=>exact⟨c+1,by go_num,by omega,(HY.o.1.alloc Y4 _).grown H9.o.2 ahG (λj hj=>(HY.o.2.lt j hj).1),by rw[jw,Yb.o];exact H9.o.1⟩
                case measure=>simp[intOf];omega
            . obtain rfl:c=D:=by omega
              obtain⟨nb,cv,rfl,Z1,Z2⟩:=gQ P9 ahB;have Q7:Below wl.heap.size wl wi:=H7.o.trans (P5.mono QS);obtain⟨_,g1,_,_⟩:=QI.o wi Q7;have c2:Z wi l 2 (.slice A m cap):=g1.cell 2;have HY:=qh (And.intro Q7 (And.intro (df P9 QS) (And.intro g1 (HL.o.below Q7).own)));have SC:wo.heap.size<=wi.heap.size:=Nat.le_trans HL.o.tn.size Q7.size;have Rk:l<wi.heap.size:=g1.lt;have Rj:(Value.slice A m cap).ownBlock≠some l:=(λe=>by have:=(HL.o.own.lt l e).1;have:=HO.o;omega);clear P5 P9 g1 Q7;go_wp2_with (at_builtin;refine wpList_append_lies _ rfl _ _ 245 rfl wo.heap.size 252 j2 (.slice none 0 0) 1 24 Tryz.underlying245 RR.o.1 RR.o.2.1 RR.o.2.2.1 RR.o.2.2.2 rfl ahD _ _ _ rfl (HY.o.2.2.2.alloc _) ⟨wi.heap.size,0,none⟩ 1 1 [slice (some ⟨nb,0,none⟩) c cv] rfl rfl (cell_one_new _ _ _) ah4 ahD ?c3 ?c4 ?c5 _ rfl ?_);case c3=>unfold maxLen;omega
              case c4=>omega
              case c5=>simp;omega
              intro g9 c9 w9 h9 NB Sq ZU;have Mo:=(HY.o.2.2.1.alloc (cells #[slice (some ⟨nb,0,none⟩) c cv] 252)).grown NB (λe=>Rj e.symm);have ds:Z w9 l 2 (.slice A m cap):=Mo.cell 2;have ei:=Mo.free 2
              have X2:=qh (show NwL wo (w9.setCell ⟨l,2,none⟩ (slice (some ⟨g9,0,none⟩) (m+1) c9)) l q bud (cB P T) (slice (some ⟨bR,0,none⟩) P.length cR) lb (m+1) (slice (some ⟨g9,0,none⟩) (m+1) c9) (aY ub m nb) (aY uk m cv)from by
                have o:=HO.o;obtain rfl:=HX.o.2.2
                exact HL.o.step ahB (jh Lg.o).d1 HY.o.1 HY.o.2.1 h9 NB (by simpa using Sq))
              clear h9 NB Sq Mo HY;go_wp2;go_roundw;case rel=>exact⟨m+1,_,_,_,by go_num,by omega,X2.o⟩
              case measure=>simp[intOf];omega
        . obtain rfl:m=T.length:=by omega
          obtain⟨bL,cL,rfl,bF,bP⟩:=gQ hL.own ahB;have HL:=qh hL;clear hL;go_wp2;go_ret2;have o:=HO.o;obtain⟨K,KB⟩:=JY (lo:=w.heap.size) HW.o.1 HL.o Yh.o (jh Lg.o) (x9 Lg.o) My Zh ahB ahB ahB ahB ahB;refine⟨_,_,s1,rfl,rfl,rfl,K,by have e:=HW.o.1.room.1;rw[HW.o.1.cat,HW.o.2]at e;exact e,KB,by show w.heap.size<=q;omega,λv O=>?_,?_⟩;. have:=(HW.o.1.lo v O).2.1;show w.heap.size<=qb v;omega
          . have bA:aa [a,l,b] w w5:=(aa.of_below (S:=[a,l,b]) K1.o.2.1).trans (T5.o.mono ahC);have S2:aa [a,l,b] w wl:=(bA.trans (HW.o.1.tn.mono ahC)).trans (HL.o.tn.mono ahC);exact S2.fresh λi hi=>by simp at hi ⊢;omega
end
section
open Go.RowKit
section
variable{B:Nat->Prop}{x:Hx}{T:HTr}{s s':Ar}{m:Hm}
def kS(T:HTr)(m:Hm)(i:Int):Int:=if okI m.S i/\(getS m.S i).pc=10 then(m.sp (T.pl i.toNat 0) (T.sl i.toNat 0)).a else 0
def DJ(k:aV B w x T bud s m)(V:T.Ok)(i:Int):E 251 #[↑x.l,J i] w λe w'=>e= returned (J (kS T m i))/\Below w.heap.size w w':=by
 have LI:=aP;have I:=xC;have H:=qh k;have HN:=k.fx.n32;have Q9:=k.fx.d5;have hd:=V.d1;obtain⟨p,mP⟩:=LE (getS m.S i);have HP:=qh mP;by_cases h10:p.pc=10
 .have mT:okI m.S i:=by exact abH
  obtain⟨n,rfl,hn,hg,hl⟩:=k.okn mT;have HV:=qh (And.intro (V.plt n 0 hn ahB) (V.slt n 0 hn ahB));obtain⟨u,hu⟩:=LE (m.sp (T.pl n 0) (T.sl n 0));have HU:=qh hu;have O:Kq (kS T m n=u.a):=qh (by unfold kS;rw[if_pos ⟨mT,by rw[<-mP];exact h10⟩,Int.toNat_natCast,<-hu]);have y:(p.pc !=10)=false:=by simpa using h10
  refine aju ?_;intro t2 Y;have g1:(0:Int)<T.D:=by omega
  have g2:0<T.D:=by omega
  clear k mP mT hg hl hu h10;go_enter func251,ntmps251;go_wp2_with fail;refine Pi (j3 H.o n) λw1 b1=>?_;rw[<-HP.o];unfold aF;have k1:=H.o.below b1;obtain⟨M9,cL,cP,cS⟩:=k1.lev hn (show 0<T.D by omega);simp only[Nat.zero_mul,Nat.add_zero]at cP cS;have H1:=qh (And.intro k1 b1);clear k1 b1;go_wp2_with fail;refine Pi ((H1.o.1.alloc _).spot1 HV.o.1 HV.o.2) λw2 b2=>?_;rw[<-HU.o];unfold aF;have H2:=qh ((H1.o.2.alloc H1.o.2.size _).trans (b2.mono (Nat.le_trans H1.o.2.size ahC)));clear b2;go_wp2;go_ret;exact⟨aU O.o.symm,H2.o⟩
 .have y:(p.pc !=10)=true:=by simpa using h10
  have O:Kq (kS T m i=0):=qh (by unfold kS;rw[if_neg (λh=>h10 (by rw[mP];exact h.2))]);clear k mP h10;go_enter func251,ntmps251;go_wp2_with fail;refine Pi (j3 H.o i) λw1 b1=>?_;rw[<-HP.o];unfold aF;have H1:=qh b1;clear b1;go_wp2;go_ret;exact⟨aU O.o.symm,H1.o⟩
end
end
section
open Go Go.RowKit
variable{T:HTr}
def hmV(xl:Nat):Value:= .iface 173 (agg #[.iface 174 ↑xl])
structure HmA where
 s:Ar
 m:Hm
structure HmB where
 x:Hx
 B:Nat->Prop
 bt:Nat
 hi:Nat
def Ch(T:HTr)(bud:Int):LkM T.n where
 σ:=HmA
 β:=HmB
 ok:=λst N=>(∃ho,ew T bud st.m ho)/\st.s.ops<=N
 ar:=λst=>st.s
 sp:=λst i=>sv st.m.S i
 cn:=λst i=>if (sv st.m.S i).pc=10 then(st.m.sp (T.pl i 0) (T.sl i 0)).a else 0
 rd:=false
 step:=λst i=>⟨jN T st.s st.m i,stepI T bud st.m i⟩
 ask:=λst i r=>if r then st else⟨st.s,lh T st.m i⟩
 leave:=λst i=>⟨st.s,gD T bud st.m i⟩
 bt:=λb=>b.bt
 hi:=λb=>b.hi
 fp:=λb=>mvL b.x T
 is:=λb w a g lb st=>aV b.B w b.x T bud st.s st.m/\(b.x.a=a/\b.x.g=g)/\jE w lb T.n 7 (hmV b.x.l) (mvL b.x T) b.bt b.hi/\∀i,b.B i->b.bt<=i/\i<b.hi
def qq(T:HTr)(s:Ar)(m:Hm)(i:Int):(jN T s m i).ops<=s.ops+1:=by
 unfold jN;split;.omega
 .exact qE _ _ _ _
def ew.okN{m:Hm}{I:Nat->Nat->Option Nat}(h:ew T bud m I){i:Nat}(hi:i<T.n):okI m.S (i:Int)/\getS m.S (i:Int)=sv m.S i:=by
 have H:i<m.S.length:=by rw[(h.x 0).sl];exact hi
 exact⟨⟨by omega,by omega⟩,dQ H⟩
def zd(H:T.Ok)(hn:1<=T.n/\T.n<=32)(hb:0<=bud/\bud<=1000):(Ch T bud).Good where
 n32:=hn
 okS:=fun(st:HmA) N i h hN hi=>by
  obtain⟨⟨O,h⟩,V⟩:=h
  have:=qq T st.s st.m i
  exact⟨by have:=h.act H hb.1 0 (i:Int);exact this,by show(jN T st.s st.m i).ops<=_;omega⟩
 okA:=fun(st:HmA) N i r h hN hi=>by
  obtain⟨⟨O,h⟩,V⟩:=h
  cases r
  .exact⟨by have:=h.act H hb.1 1 (i:Int);exact this,by show st.s.ops<=_;omega⟩
  .exact⟨⟨O,h⟩,by show st.s.ops<=_;omega⟩
 okL:=fun(st:HmA) N i h hN hi=>by
  obtain⟨⟨O,h⟩,V⟩:=h
  exact⟨by have:=h.act H hb.1 2 (i:Int);exact this,by show st.s.ops<=_;omega⟩
 okm:=fun(st:HmA) N h=>⟨h.1,by have:=h.2;omega⟩
 one:=fun(st:HmA) N i j h hi hj h1 h2 _=>by obtain⟨⟨O,h⟩,_⟩:=h;exact h.one H hi hj h1 h2
 pcs:=fun(st:HmA) N i h hi=>by
  obtain⟨⟨O,h⟩,_⟩:=h
  obtain⟨K,k,_⟩:=h.t i hi
  show 0<=(sv st.m.S i).pc
  cases k<;>omega
 cnt:=fun(st:HmA) N i h hi=>by
  obtain⟨⟨O,h⟩,_⟩:=h
  have hd:=H.d1
  show(sv st.m.S i).pc=10↔0<(if (sv st.m.S i).pc=10 then(st.m.sp (T.pl i 0) (T.sl i 0)).a else 0)
  split
  .rename_i e
   obtain⟨K,k,_⟩:=h.t i hi
   have e0:(st.m.sp (T.pl i 0) (T.sl i 0)).pc=10:=by
    cases k with
    |hold _ hb=>exact hb 0 ahB
    |rest h=>omega
    |come _ h=>omega
    |granted _ h=>omega
    |pass _ h=>omega
    |leave _ h=>omega
   have:=((h.x 0).va _ _ (H.plt i 0 hi ahB) (H.slt i 0 hi ahB)).1 (.inl e0)
   exact⟨λ_=>by omega,λ_=>e⟩
  .rename_i e;exact⟨λq=>absurd q e,λq=>by omega⟩
 opsS:=fun(st:HmA) N i _ _ _=>qq T st.s st.m i
 arA:=fun(st:HmA) i r=>by cases r<;>rfl
 arL:=fun(st:HmA) i=>rfl
 ais:=fun(b:HmB) w a g lb (st:HmA) h=>by obtain⟨k,⟨rfl,rfl⟩,_⟩:=h;exact k.ar
 lk:=fun(b:HmB) w a g lb (st:HmA) h=>h.2.2.1.c1
 kd:=fun(b:HmB) w a g lb (st:HmA) h=>⟨7,h.2.2.1.blk.cell 0,rfl⟩
 fpa:=fun(b:HmB) w a g lb (st:HmA) h=>⟨λx hx=>(h.2.2.1.fl x hx).2,h.2.2.1.hw⟩
 far:=fun(b:HmB) w a g lb (st:HmA) w' S h t hS=>by
  obtain⟨k,hc,hd,hl⟩:=h
  have h9:∀x∈S,b.hi<=x\/x<b.bt:=hS
  exact⟨k.turns t (λi m hb=>by have:=hl i hb;have:=h9 i m;omega) (λi m hm=>by have:=hd.fl i hm;have:=h9 i m;omega),hc,hd.far t h9,hl⟩
 cS:=fun(b:HmB) w a g lb (st:HmA) N i h hk hN hi=>by
  unfold lkB at hN
  obtain⟨k,hc,hd,hl⟩:=h
  obtain⟨⟨O,Y⟩,V⟩:=hk
  obtain⟨O',Zf⟩:∃O,ew T bud (stepI T bud st.m i) O:=Y.act H hb.1 0 (i:Int)
  refine(oC .hm hd.c1 hd.c2 hi (R:=λr w'=>r=di (sv st.m.S i) (sv (stepI T bud st.m i).S i)/\aV b.B w' b.x T bud (jN T st.s st.m i) (stepI T bud st.m i)/\aa (mvL b.x T) w w') λW bw=>?_).mono ?_
  .refine(GW (k.below bw) H Y hb ahB (i:Int)).mono ?_
   rintro e w' ⟨rfl,k2,_,t2⟩
   exact⟨_,rfl,by rw[(Y.okN hi).2,(Zf.okN hi).2];rfl,k2,(aa.of_below bw).trans t2⟩
  .exact abm
 cA:=fun(b:HmB) w a g lb (st:HmA) N i r h hk hN hi=>by
  obtain⟨k,hc,hd,hl⟩:=h
  obtain⟨⟨O,Y⟩,V⟩:=hk
  refine(yO .hm hd.c1 hd.c2 hi r (R:=λq w'=>q=decide ((sv st.m.S i).pc=0/\(r=true->(false:Bool)=true))/\(aV b.B w' b.x T bud (if r then st else⟨st.s,lh T st.m i⟩:HmA).s (if r then st else⟨st.s,lh T st.m i⟩:HmA).m)/\aa (mvL b.x T) w w') (λI W bw=>?_) (λI W bw=>?_)).mono ?_
  .subst I
   refine(Hg (k.below bw) H (i:Int)).mono ?_
   rintro e w' ⟨rfl,k2,t2⟩
   exact⟨_,rfl,by rw[(Y.okN hi).2];simp[(Y.okN hi).1],k2,(aa.of_below bw).trans t2⟩
  .exact aaI
  .exact abm
 cL:=fun(b:HmB) w a g lb (st:HmA) N i h hk hN hi=>by
  obtain⟨k,hc,hd,hl⟩:=h
  obtain⟨⟨O,Y⟩,V⟩:=hk
  refine(kT .hm hd.c1 hd.c2 hi (R:=λq w'=>q=decide ((sv st.m.S i).pc=10)/\aV b.B w' b.x T bud st.s (gD T bud st.m i)/\aa (mvL b.x T) w w') λW bw=>?_).mono ?_
  .refine(Ed (k.below bw) H Y hb (i:Int)).mono ?_
   rintro e w' ⟨rfl,k2,t2⟩
   exact⟨_,rfl,by rw[(Y.okN hi).2],k2,(aa.of_below bw).trans t2⟩
  .exact abm
 cP:=fun(b:HmB) w a g lb (st:HmA) i h hi=>oA .hm h.2.2.1.c1 h.2.2.1.c2 hi _ λW bw=>by
  have:=j3 (h.1.below bw) (i:Int)
  rwa [dQ (by rw[h.1.sn];exact hi)]at this
 cC:=fun(b:HmB) w a g lb (st:HmA) i h hi=>sW .hm h.2.2.1.c1 h.2.2.1.c2 hi _ λW bw=>by
  have:=DJ (h.1.below bw) H (i:Int)
  have hl:i<st.m.S.length:=by rw[h.1.sn];exact hi
  have mT:okI st.m.S (i:Int):=⟨by omega,by omega⟩
  rw[show kS T st.m (i:Int)=(Ch T bud).cn st i by
   unfold kS
   rw[dQ hl]
   show _=if (sv st.m.S i).pc=10 then(st.m.sp (T.pl i 0) (T.sl i 0)).a else 0
   simp only[mT,true_and,Int.toNat_natCast]]at this
  exact this
end
end Go.Proofs.YtglokdbiggbkjaaGreat
