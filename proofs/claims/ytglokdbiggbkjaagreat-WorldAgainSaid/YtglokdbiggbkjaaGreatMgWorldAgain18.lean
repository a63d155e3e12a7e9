/- Joined texts. -/
import Derived.Test.YtglokdbiggbkjaaGreatMgWorldAgain0
import Derived.Test.YtglokdbiggbkjaaGreatMgWorldAgain7
import Derived.Test.YtglokdbiggbkjaaGreatMgWorldAgain17
set_option linter.unusedVariables false
set_option linter.unusedSimpArgs false
set_option linter.defProp false
set_option maxRecDepth 100000
set_option maxHeartbeats 16000000
open Go.Proofs.Tryz
namespace Go.Proofs.YtglokdbiggbkjaaGreat
open Go.IntKind(i64)
open Go.Value(int bool slice agg tuple pointer)
open Go.Ending(returned)
open Go.Obj(cells)
section
open Go.RowKit
section
variable{B:Nat->Prop}{w w':World}{x:Hx}{T:HTr}{bud:Int}{s s':Ar}{m:Hm}
def kG(T:HTr)(m:Hm)(i:Int):Int:=if okI m.S i/\(getS m.S i).pc=10 then(m.sp (T.pl i.toNat 0) (T.sl i.toNat 0)).a else 0
def Dy(k:aU B w x T bud s m)(V:T.Ok)(i:Int):E 251 #[↑x.l,J i] w λe w'=>e= returned (J (kG T m i))/\Below w.heap.size w w':=by
 have Ll:=aO;have I:=xh;have H:=qh k;have HN:=k.fx.n32;have QT:=k.fx.d5;have hd:=V.d1;obtain⟨p,i'⟩:=LE (getS m.S i);have HP:=qh i';by_cases h10:p.pc=10
 .have mP:okI m.S i:=by exact abC
  obtain⟨n,rfl,hn,hg,hl⟩:=k.okn mP;have HV:=qh (And.intro (V.plt n 0 hn ahp) (V.slt n 0 hn ahp));obtain⟨u,Y⟩:=LE (m.sp (T.pl n 0) (T.sl n 0));have HU:=qh Y;have O:Kq (kG T m n=u.a):=qh (by unfold kG;rw[if_pos ⟨mP,by rw[<-i'];exact h10⟩,Int.toNat_natCast,<-Y]);have y:(p.pc !=10)=false:=by simpa using h10
  refine ajh ?_;intro t2 t3;have g1:(0:Int)<T.D:=by omega
  have g2:0<T.D:=by omega
  clear k i' mP hg hl Y h10;go_enter func251,ntmps251;go_wp2_with fail;refine ST (jQ H.o n) λw1 b1=>?_;rw[<-HP.o];unfold aC;have k1:=H.o.below b1;obtain⟨MH,cL,cP,cS⟩:=k1.lev hn (show 0<T.D by omega);simp only[Nat.zero_mul,Nat.add_zero]at cP cS;have H1:=qh (And.intro k1 b1);clear k1 b1;go_wp2_with fail;refine ST ((H1.o.1.alloc _).spot1 HV.o.1 HV.o.2) λw2 b2=>?_;rw[<-HU.o];unfold aC;have H2:=qh ((H1.o.2.alloc H1.o.2.size _).trans (b2.mono (Nat.le_trans H1.o.2.size ahq)));clear b2;go_wp2;go_ret;exact⟨aT O.o.symm,H2.o⟩
 .have y:(p.pc !=10)=true:=by simpa using h10
  have O:Kq (kG T m i=0):=qh (by unfold kG;rw[if_neg (λh=>h10 (by rw[i'];exact h.2))]);clear k i' h10;go_enter func251,ntmps251;go_wp2_with fail;refine ST (jQ H.o i) λw1 b1=>?_;rw[<-HP.o];unfold aC;have H1:=qh b1;clear b1;go_wp2;go_ret;exact⟨aT O.o.symm,H1.o⟩
end
end
section
open Go Go.RowKit
variable{T:HTr}{bud:Int}
def hmV(xl:Nat):Value:= .iface 173 (agg #[.iface 174 ↑xl])
structure HmA where
 s:Ar
 m:Hm
structure HmB where
 x:Hx
 B:Nat->Prop
 bt:Nat
 hi:Nat
def D5(T:HTr)(bud:Int):LkM T.n where
 σ:=HmA
 β:=HmB
 ok:=λst N=>(∃hb,ed T bud st.m hb)/\st.s.ops<=N
 ar:=λst=>st.s
 sp:=λst i=>sv st.m.S i
 cn:=λst i=>if (sv st.m.S i).pc=10 then(st.m.sp (T.pl i 0) (T.sl i 0)).a else 0
 rd:=false
 step:=λst i=>⟨jF T st.s st.m i,stepI T bud st.m i⟩
 ask:=λst i r=>if r then st else⟨st.s,mQ T st.m i⟩
 leave:=λst i=>⟨st.s,jj T bud st.m i⟩
 bt:=λb=>b.bt
 hi:=λb=>b.hi
 fp:=λb=>mvL b.x T
 is:=λb w a g lb st=>aU b.B w b.x T bud st.s st.m/\(b.x.a=a/\b.x.g=g)/\jy w lb T.n 7 (hmV b.x.l) (mvL b.x T) b.bt b.hi/\∀i,b.B i->b.bt<=i/\i<b.hi
def p9(T:HTr)(s:Ar)(m:Hm)(i:Int):(jF T s m i).ops<=s.ops+1:=by
 unfold jF;split;.omega
 .exact qv _ _ _ _
def ed.okN{m:Hm}{H:Nat->Nat->Option Nat}(h:ed T bud m H){i:Nat}(hi:i<T.n):okI m.S (i:Int)/\getS m.S (i:Int)=sv m.S i:=by
 have I:i<m.S.length:=by rw[(h.x 0).sl];exact hi
 exact⟨⟨by omega,by omega⟩,dO I⟩
def yO(H:T.Ok)(hn:1<=T.n/\T.n<=32)(I:0<=bud/\bud<=1000):(D5 T bud).Good where
 n32:=hn
 okS:=fun(st:HmA) N i h hN hi=>by
  obtain⟨⟨O,h⟩,Y⟩:=h
  have:=p9 T st.s st.m i
  exact⟨by have:=h.act H I.1 0 (i:Int);exact this,by show(jF T st.s st.m i).ops<=_;omega⟩
 okA:=fun(st:HmA) N i r h hN hi=>by
  obtain⟨⟨O,h⟩,Y⟩:=h
  cases r
  .exact⟨by have:=h.act H I.1 1 (i:Int);exact this,by show st.s.ops<=_;omega⟩
  .exact⟨⟨O,h⟩,by show st.s.ops<=_;omega⟩
 okL:=fun(st:HmA) N i h hN hi=>by
  obtain⟨⟨O,h⟩,Y⟩:=h
  exact⟨by have:=h.act H I.1 2 (i:Int);exact this,by show st.s.ops<=_;omega⟩
 okm:=fun(st:HmA) N h=>⟨h.1,by have:=h.2;omega⟩
 one:=fun(st:HmA) N i j h hi hj h1 h2 _=>by obtain⟨⟨O,h⟩,_⟩:=h;exact h.one H hi hj h1 h2
 pcs:=fun(st:HmA) N i h hi=>by
  obtain⟨⟨O,h⟩,_⟩:=h
  obtain⟨K,k,_⟩:=h.t i hi
  show 0<=(sv st.m.S i).pc
  cases k<;>omega
 cnt:=fun(st:HmA) N i h hi=>by
  obtain⟨⟨O,h⟩,_⟩:=h
  have hd:=H.d1
  show(sv st.m.S i).pc=10↔0<(if (sv st.m.S i).pc=10 then(st.m.sp (T.pl i 0) (T.sl i 0)).a else 0)
  split
  .rename_i e
   obtain⟨K,k,_⟩:=h.t i hi
   have e0:(st.m.sp (T.pl i 0) (T.sl i 0)).pc=10:=by
    cases k with
    |hold _ I=>exact I 0 ahp
    |rest h=>omega
    |come _ h=>omega
    |granted _ h=>omega
    |pass _ h=>omega
    |leave _ h=>omega
   have:=((h.x 0).va _ _ (H.plt i 0 hi ahp) (H.slt i 0 hi ahp)).1 (.inl e0)
   exact⟨λ_=>by omega,λ_=>e⟩
  .rename_i e;exact⟨λq=>absurd q e,λq=>by omega⟩
 opsS:=fun(st:HmA) N i _ _ _=>p9 T st.s st.m i
 arA:=fun(st:HmA) i r=>by cases r<;>rfl
 arL:=fun(st:HmA) i=>rfl
 ais:=fun(b:HmB) w a g lb (st:HmA) h=>by obtain⟨k,⟨rfl,rfl⟩,_⟩:=h;exact k.ar
 lk:=fun(b:HmB) w a g lb (st:HmA) h=>h.2.2.1.c1
 kd:=fun(b:HmB) w a g lb (st:HmA) h=>⟨7,h.2.2.1.blk.cell 0,rfl⟩
 fpa:=fun(b:HmB) w a g lb (st:HmA) h=>⟨λx hx=>(h.2.2.1.fl x hx).2,h.2.2.1.hw⟩
 far:=fun(b:HmB) w a g lb (st:HmA) w' S h t hS=>by
  obtain⟨k,hc,hd,hl⟩:=h
  have h9:∀x∈S,b.hi<=x\/x<b.bt:=hS
  exact⟨k.turns t (λi m I=>by have:=hl i I;have:=h9 i m;omega) (λi m hm=>by have:=hd.fl i hm;have:=h9 i m;omega),hc,hd.far t h9,hl⟩
 cS:=fun(b:HmB) w a g lb (st:HmA) N i h hk hN hi=>by
  unfold lkB at hN
  obtain⟨k,hc,hd,hl⟩:=h
  obtain⟨⟨O,hI⟩,Y⟩:=hk
  obtain⟨O',Y1⟩:∃O,ed T bud (stepI T bud st.m i) O:=hI.act H I.1 0 (i:Int)
  refine(om .hm hd.c1 hd.c2 hi (R:=λr w'=>r=dB (sv st.m.S i) (sv (stepI T bud st.m i).S i)/\aU b.B w' b.x T bud (jF T st.s st.m i) (stepI T bud st.m i)/\aa (mvL b.x T) w w') λW bw=>?_).mono ?_
  .refine(GB (k.below bw) H hI I ahp (i:Int)).mono ?_
   rintro e w' ⟨rfl,k2,_,t2⟩
   exact⟨_,rfl,by rw[(hI.okN hi).2,(Y1.okN hi).2];rfl,k2,(aa.of_below bw).trans t2⟩
  .exact abi
 cA:=fun(b:HmB) w a g lb (st:HmA) N i r h hk hN hi=>by
  obtain⟨k,hc,hd,hl⟩:=h
  obtain⟨⟨O,hI⟩,Y⟩:=hk
  refine(yz .hm hd.c1 hd.c2 hi r (R:=λq w'=>q=decide ((sv st.m.S i).pc=0/\(r=true->(false:Bool)=true))/\(aU b.B w' b.x T bud (if r then st else⟨st.s,mQ T st.m i⟩:HmA).s (if r then st else⟨st.s,mQ T st.m i⟩:HmA).m)/\aa (mvL b.x T) w w') (λV W bw=>?_) (λV W bw=>?_)).mono ?_
  .subst V
   refine(GY (k.below bw) H (i:Int)).mono ?_
   rintro e w' ⟨rfl,k2,t2⟩
   exact⟨_,rfl,by rw[(hI.okN hi).2];simp[(hI.okN hi).1],k2,(aa.of_below bw).trans t2⟩
  .exact aaD
  .exact abi
 cL:=fun(b:HmB) w a g lb (st:HmA) N i h hk hN hi=>by
  obtain⟨k,hc,hd,hl⟩:=h
  obtain⟨⟨O,hI⟩,Y⟩:=hk
  refine(kH .hm hd.c1 hd.c2 hi (R:=λq w'=>q=decide ((sv st.m.S i).pc=10)/\aU b.B w' b.x T bud st.s (jj T bud st.m i)/\aa (mvL b.x T) w w') λW bw=>?_).mono ?_
  .refine(D3 (k.below bw) H hI I (i:Int)).mono ?_
   rintro e w' ⟨rfl,k2,t2⟩
   exact⟨_,rfl,by rw[(hI.okN hi).2],k2,(aa.of_below bw).trans t2⟩
  .exact abi
 cP:=fun(b:HmB) w a g lb (st:HmA) i h hi=>oj .hm h.2.2.1.c1 h.2.2.1.c2 hi _ λW bw=>by
  have:=jQ (h.1.below bw) (i:Int)
  rwa [dO (by rw[h.1.sn];exact hi)]at this
 cC:=fun(b:HmB) w a g lb (st:HmA) i h hi=>sI .hm h.2.2.1.c1 h.2.2.1.c2 hi _ λW bw=>by
  have:=Dy (h.1.below bw) H (i:Int)
  have hl:i<st.m.S.length:=by rw[h.1.sn];exact hi
  have mP:okI st.m.S (i:Int):=⟨by omega,by omega⟩
  rw[show kG T st.m (i:Int)=(D5 T bud).cn st i by
   unfold kG
   rw[dO hl]
   show _=if (sv st.m.S i).pc=10 then(st.m.sp (T.pl i 0) (T.sl i 0)).a else 0
   simp only[mP,true_and,Int.toNat_natCast]]at this
  exact this
end
end Go.Proofs.YtglokdbiggbkjaaGreat
