/- Joined texts. -/
import Derived.Laws.CopyOwn
import Derived.Laws.EntriesVeiled
import Derived.Deep.RegionLaw
import Derived.Deep.AppendLies
import Derived.Test.YtglokdbiggbkjaaGreatMgBoltLoops0
import Derived.Test.YtglokdbiggbkjaaGreatMgBoltLoops9
import Derived.Test.YtglokdbiggbkjaaGreatMgBoltLoops11
import Derived.Test.YtglokdbiggbkjaaGreatMgBoltLoops20
set_option linter.unusedVariables false
set_option linter.unusedSimpArgs false
set_option linter.defProp false
set_option maxRecDepth 100000
set_option maxHeartbeats 16000000
open Go.Proofs.Tryz
namespace Go.Proofs.YtglokdbiggbkjaaGreat
open Go.IntKind(i64)
open Go.Value(int bool slice agg tuple pointer)
open Go.Ending(returned)
open Go.Obj(cells)
variable{P T:List Int}{w w':World}{cap:Nat}{bud:Int}
section
open Go Go.RowKit
variable{dl:Int}
def hcV(l:Nat):Value:= .iface 181 (agg #[.iface 177 ↑l])
structure HcB where
 l:Nat
 a:Nat
 g:Nat
 q:Nat
 b:Nat
 u:Nat
 lo:Nat
 h1:Nat
 bt:Nat
 hi:Nat
def lr(p:Sp):Prop:=(0<=p.pc/\p.pc<=5)\/p.pc=10\/p.pc=11
def nL(dl:Int)(P T:List Int)(st:Hc)(N:Nat):Prop:=(∃G,HOk (ac P).length T.length dl (dq P T) st N G)/\∀i,lr (sv st.S i)
def hcS(dl:Int)(P T:List Int)(st:Hc)(i:Nat):Hc:=(ff (ac P).length T.length dl (dq P T) st i).1
def Eh(dl:Int)(P T:List Int):LkM T.length where
 σ:=Hc
 β:=HcB
 ok:=nL dl P T
 ar:=λst=>st.ar
 sp:=λst i=>sv st.S i
 cn:=λst i=>if (sv st.S i).pc=10 then 1 else 0
 rd:=false
 step:=hcS dl P T
 ask:=λst i r=>if r then st else(bo st i 0 1).1
 leave:=λst i=>(bo st i 10 11).1
 bt:=λb=>b.bt
 hi:=λb=>b.hi
 fp:=λb=>[b.a,b.g,b.q,b.u]
 is:=λb w a g lb st=>bB w b.l a g b.q b.b b.u b.lo b.h1 dl P T st/\(b.a=a/\b.g=g)/\jE w lb T.length 8 (hcV b.l) [b.a,b.g,b.q,b.u] b.bt b.hi/\(b.bt<=b.l/\b.l<b.hi)/\b.bt<=b.lo/\b.h1<=b.hi
def qR(st:Hc)(i:Nat)(hi:i<st.S.length)(u v:Int):(bo st i u v).1=(if (sv st.S i).pc=u then⟨st.ar,st.D,st.S.set i {sv st.S i with pc:=v}⟩else st)/\(bo st i u v).2=decide ((sv st.S i).pc=u):=by unfold bo;rw[gu hi,Int.toNat_natCast];exact abc
def tC{nd n:Nat}{node:Nat->Nat}(st:Hc)(i:Nat)(hi:i<st.S.length):(ff nd n dl node st i).2=di (sv st.S i) (sv (ff nd n dl node st i).1.S i):=by
 unfold ff;rw[gu hi,Int.toNat_natCast];unfold di;split
 .rename_i h;have hg:=h.2;unfold iw at hg;simp only[Bool.or_eq_true,beq_iff_eq]at hg;simp only[gk hi,if_true];by_cases c:(bp nd n dl st (node i) i (sv st.S i)).2.2.pc=10\/(bp nd n dl st (node i) i (sv st.S i)).2.2.pc=0;.exact aaE
  .exact aaF
 .exact abd
theorem zE(nd n:Nat)(dl:Int)(h:Hc)(I i:Nat)(p:Sp)(H:iw p=true):lr (bp nd n dl h I i p).2.2:=by
 unfold iw at H;simp only[Bool.or_eq_true,beq_iff_eq]at H;unfold bp lr;repeat' split
 all_goals (simp only;grind)
def nL.le{st:Hc}{N:Nat}(h:nL dl P T st N):nL dl P T st (N+1):=⟨h.1.imp λ_ k=>k.le ahB,h.2⟩
def bB.far{l a g q b u lo hi:Nat}{h:Hc}{S:List Nat}(k:bB w l a g q b u lo hi dl P T h)(t:aa S w w')(H:∀x∈[l,a,g,q,u],x∉S)(hh:∀x∈S,x<lo\/hi<=x):bB w' l a g q b u lo hi dl P T h:=by simp only[List.mem_cons,List.not_mem_nil,or_false,forall_eq_or_imp,forall_eq]at H;obtain⟨h1,I,O,V,Y⟩:=H;exact⟨k.ar.turns t I O,t.blk k.lk h1,k.sp.turns t V,k.tu.turns t Y,k.tab.keep (λi ZE MK=>t.block i (by have:=k.hs;omega) λhm=>by have:=hh i hm;omega) (Nat.le_trans k.hs t.size),k.sl,Nat.le_trans k.hs t.size,k.nd,k.o⟩
def zc(hc:a5 P T=0)(hd:0<=dl/\dl<=3):(Eh dl P T).Good where
 n32:=by have:=bh (aR hc).1;exact⟨this.2.2.1,this.2.2.2⟩
 okS:=fun(st:Hc) N i h hN hi=>by
  obtain⟨⟨G,k⟩,hp⟩:=h
  obtain⟨G',k',KJ⟩:=k.stepI hN (i:Int)
  refine⟨⟨G',k'⟩,λj=>?_⟩
  show lr (sv (ff _ _ _ _ st i).1.S j)
  have hl:i<st.S.length:=by rw[k.iv.sl];exact hi
  unfold ff
  rw[gu hl,Int.toNat_natCast]
  split
  .rename_i e
   show lr (sv (st.S.set i _) j)
   rw[gk hl]
   split
   .exact zE _ _ _ _ _ _ _ e.2
   .exact hp j
  .exact hp j
 okA:=fun(st:Hc) N i r h hN hi=>by
  cases r
  .obtain⟨⟨G,k⟩,hp⟩:=h
   have hl:i<st.S.length:=by rw[k.iv.sl];exact hi
   refine⟨⟨G,(k.beginI (i:Int) 0 1 (.inl ⟨rfl,rfl⟩)).1.le ahB⟩,λj=>?_⟩
   show lr (sv (bo st i 0 1).1.S j)
   rw[(qR st i hl 0 1).1]
   exact abe
  .exact nL.le h
 okL:=fun(st:Hc) N i h hN hi=>by
  obtain⟨⟨G,k⟩,hp⟩:=h
  have hl:i<st.S.length:=by rw[k.iv.sl];exact hi
  refine⟨⟨G,(k.beginI (i:Int) 10 11 (.inr ⟨rfl,rfl⟩)).1.le ahB⟩,λj=>?_⟩
  show lr (sv (bo st i 10 11).1.S j)
  rw[(qR st i hl 10 11).1]
  exact abe
 okm:=fun(st:Hc) N h=>nL.le h
 one:=fun(st:Hc) N i j h hi hj h1 h2 _=>by obtain⟨⟨G,k⟩,_⟩:=h;exact k.hold1 hi hj h1 h2
 pcs:=fun(st:Hc) N i h hi=>by have:=h.2 i;unfold lr at this;show 0<=(sv st.S i).pc;omega
 cnt:=fun(st:Hc) N i h hi=>by
  exact aaG
 opsS:=fun(st:Hc) N i h hN hi=>by
  obtain⟨⟨G,k⟩,_⟩:=h
  obtain⟨G',_,_,h3,_⟩:=k.act hN 0 (i:Int)
  exact h3
 arA:=fun(st:Hc) i r=>by
  cases r
  .show(bo st i 0 1).1.ar=st.ar
   unfold bo;split<;>rfl
  .rfl
 arL:=fun(st:Hc) i=>by
  show(bo st i 10 11).1.ar=st.ar
  unfold bo;split<;>rfl
 ais:=fun(b:HcB) w a g lb (st:Hc) h=>h.1.ar
 lk:=fun(b:HcB) w a g lb (st:Hc) h=>h.2.2.1.c1
 kd:=fun(b:HcB) w a g lb (st:Hc) h=>⟨8,h.2.2.1.blk.cell 0,rfl⟩
 fpa:=fun(b:HcB) w a g lb (st:Hc) h=>⟨λx H=>(h.2.2.1.fl x H).2,h.2.2.1.hw⟩
 far:=fun(b:HcB) w a g lb (st:Hc) w' S h t hS=>by
  obtain⟨k,⟨rfl,rfl⟩,hd,hl,hh⟩:=h
  have Y:∀x∈S,b.hi<=x\/x<b.bt:=hS
  have hf:=hd.fl
  refine⟨k.far t (λx H m=>?_) (λx H=>by have:=Y x H;omega),⟨rfl,rfl⟩,hd.far t Y,hl,hh⟩
  have:=Y x m
  rcases List.mem_cons.1 H with rfl|H
  .omega
  .have:=hf x H;omega
 cS:=fun(b:HcB) w a g lb (st:Hc) N i h hk hN hi=>by
  obtain⟨k,⟨rfl,rfl⟩,NP,hl,hh⟩:=h
  obtain⟨⟨G,ko⟩,_⟩:=hk
  refine(oC .hc NP.c1 NP.c2 hi (R:=λr w'=>r=di (sv st.S i) (sv (hcS dl P T st i).S i)/\bB w' b.l b.a b.g b.q b.b b.u b.lo b.h1 dl P T (hcS dl P T st i)/\aa [b.a,b.g,b.q,b.u] w w') λW bw=>?_).mono ?_
  .refine(GV (k.below bw) (i:Int) (ko.cond hN hd.2)).mono ?_
   rintro e w' ⟨rfl,O,t2⟩
   exact⟨_,rfl,tC st i (by rw[k.sl];exact hi),O,(aa.of_below bw).trans t2⟩
  .exact abf
 cA:=fun(b:HcB) w a g lb (st:Hc) N i r h hk hN hi=>by
  obtain⟨k,⟨rfl,rfl⟩,NP,hl,hh⟩:=h
  have V:i<st.S.length:=by rw[k.sl];exact hi
  refine(yO .hc NP.c1 NP.c2 hi r (R:=λq w'=>q=decide ((sv st.S i).pc=0/\(r=true->(false:Bool)=true))/\bB w' b.l b.a b.g b.q b.b b.u b.lo b.h1 dl P T (if r then st else(bo st i 0 1).1)/\aa [b.a,b.g,b.q,b.u] w w') (λI W bw=>?_) (λI W bw=>?_)).mono ?_
  .subst I
   refine(Hf (k.below bw) (i:Int)).mono ?_
   rintro e w' ⟨rfl,O,t2⟩
   exact⟨_,rfl,by rw[(qR st i V 0 1).2];simp,O,(aa.of_below bw).trans t2⟩
  .exact aaI
  .exact abf
 cL:=fun(b:HcB) w a g lb (st:Hc) N i h hk hN hi=>by
  obtain⟨k,⟨rfl,rfl⟩,NP,hl,hh⟩:=h
  have V:i<st.S.length:=by rw[k.sl];exact hi
  refine(kT .hc NP.c1 NP.c2 hi (R:=λq w'=>q=decide ((sv st.S i).pc=10)/\bB w' b.l b.a b.g b.q b.b b.u b.lo b.h1 dl P T (bo st i 10 11).1/\aa [b.a,b.g,b.q,b.u] w w') λW bw=>?_).mono ?_
  .refine(Ec (k.below bw) (i:Int)).mono ?_
   rintro e w' ⟨rfl,O,t2⟩
   exact⟨_,rfl,(qR st i V 10 11).2,O,(aa.of_below bw).trans t2⟩
  .exact abf
 cP:=fun(b:HcB) w a g lb (st:Hc) i h hi=>oA .hc h.2.2.1.c1 h.2.2.1.c2 hi _ λW bw=>by
  exact abg
 cC:=fun(b:HcB) w a g lb (st:Hc) i h hi=>oz .hc h.2.2.1.c1 h.2.2.1.c2 hi _ λW bw=>by
  exact abg
end
section
open Go.RowKit
section
variable{c:Cx}{nd:List Int}{h:Cn}
structure p6(n:Nat)(h:Cn):Prop where
 ops:h.ar.ops+1<=1000000000000
 sp:∀(j:Nat) (p:Sp),h.S[j]? =some p->(-1<=p.a/\p.a<=2000)/\(-1<=p.b/\p.b<=2000)/\(p.pc=21\/p.pc=26->-1<=p.c/\p.c<=2000)
 wk:(0<=h.wk.passed/\h.wk.passed<=n)/\(-1<=h.wk.last/\h.wk.last<=2000)
 way:∀(j:Nat) (p:Sp),h.S[j]? =some p->p.pc=18->h.wk.way=true
 pcs:∀(j:Nat) (p:Sp),h.S[j]? =some p->(0<=p.pc/\p.pc<=6)\/(10<=p.pc/\p.pc<=30)
def IB(k:ao w c cap bud nd h)(C:p6 nd.length h)(i:Nat)(H:i<nd.length)(p:Sp)(I:h.S[i]? =some p)(Y:p.pc≠0)(h10:p.pc<10):E 315 #[↑c.l,pointer (some ⟨c.q,i*4,none⟩),J ((i:Int)+1)] w (eU w c cap bud nd h i p (ah nd.length (ndf nd) bud h i p)):=by
  have hb:=C.sp i p I;have O:=C.pcs i p I;have V:=C.ops;obtain⟨pc,a,b,z⟩:=p;simp only at Y h10 hb O;have:pc=1\/pc=2\/pc=3\/pc=4\/pc=5\/pc=6:=by omega
  rcases this with rfl|rfl|rfl|rfl|rfl|rfl
  . exact Hl k i H a b z I V
  . exact Hn k i H a b z I V
  . exact Ho k i H a b z I V
  . exact Hp k i H a b z I V ahB
  . exact Hq k i H a b z I V
  . exact Hr k i H a b z I V
def Ew(k:ao w c cap bud nd h)(C:p6 nd.length h)(i:Nat)(H:i<nd.length)(p:Sp)(I:h.S[i]? =some p)(O:10<p.pc)(h10:p.pc<=16):E 316 #[↑c.l,pointer (some ⟨c.q,i*4,none⟩),J ((i:Int)+1)] w (eU w c cap bud nd h i p (ah nd.length (ndf nd) bud h i p)):=by
  have hb:=C.sp i p I;have V:=C.ops;obtain⟨pc,a,b,z⟩:=p;simp only at O h10 hb;have:pc=11\/pc=12\/pc=13\/pc=14\/pc=15\/pc=16:=by omega
  rcases this with rfl|rfl|rfl|rfl|rfl|rfl
  . exact AD k i H a b z I V
  . exact AE k i H a b z I V
  . exact AF k i H a b z I V
  . exact AG k i H a b z I V ahB
  . exact AH k i H a b z I V
  . exact AI k i H a b z I V
def CD(k:ao w c cap bud nd h)(C:p6 nd.length h)(i:Nat)(I:i<nd.length)(p:Sp)(H:h.S[i]? =some p)(Y:16<p.pc)(h10:p.pc<=18):E 317 #[↑c.l,pointer (some ⟨c.q,i*4,none⟩),J ((i:Int)+1)] w (eU w c cap bud nd h i p (ah nd.length (ndf nd) bud h i p)):=by
  have hb:=C.sp i p H;have O:=C.way i p H;have Nj:=C.wk;have V:=C.ops;have hn:=k.n32;obtain⟨pc,a,b,z⟩:=p;simp only at Y h10 hb O;have:pc=17\/pc=18:=by omega
  rcases this with rfl|rfl
  . exact yG k i I a b z H V
  . exact yH k i a b z H V (O rfl) ahB ahB
def CC(k:ao w c cap bud nd h)(C:p6 nd.length h)(i:Nat)(H:i<nd.length)(p:Sp)(I:h.S[i]? =some p)(O:18<p.pc):E 318 #[↑c.l,pointer (some ⟨c.q,i*4,none⟩)] w (eU w c cap bud nd h i p (ah nd.length (ndf nd) bud h i p)):=by
  have hb:=C.sp i p I;have Y:=C.pcs i p I;have Nj:=C.wk;have V:=C.ops;obtain⟨pc,a,b,z⟩:=p;simp only at O hb Y;have:pc=19\/pc=20\/pc=21\/pc=22\/pc=23\/pc=24\/pc=25\/pc=26\/pc=27\/pc=28\/pc=29\/pc=30:=by omega
  rcases this with rfl|rfl|rfl|rfl|rfl|rfl|rfl|rfl|rfl|rfl|rfl|rfl
  . by_cases O:0<b;. exact vi k i H a b z I V ahB (decide_eq_true O)
    . exact vh k i H a b z I V ahB (decide_eq_false O)
  . exact yv k i H a b z I V ahB
  . exact yw k i H a b z I V ahB
  . exact yx k i H a b z I V ahB
  . exact yy k i H a b z I V
  . exact yz k i H a b z I V ahB
  . exact yA k i H a b z I V ahB
  . exact yB k i H a b z I V ahB
  . exact yC k i H a b z I V
  . exact yD k i H a b z I V ahB
  . exact yE k i H a b z I V
  . exact yF k i H a b z I V ahB
def GU(k:ao w c cap bud nd h)(i:Int)(C:p6 nd.length h):E 312 #[↑c.l,J i] w (COp w c cap bud nd (fK nd.length (ndf nd) bud h i)):=by
  have LI:=aP;have H:=qh k;obtain⟨_,HN⟩:=k.n32;have Ks:=k.sl;obtain⟨p,hp⟩:=LE (getS h.S i);have HP:=qh hp;by_cases hc:okI h.S i/\p.pc≠0/\p.pc≠10
  . obtain⟨O,hc0,TY⟩:=hc;have I:=dL O;rw[<-hp]at I;obtain⟨V,h9⟩:=id O;obtain⟨n,rfl⟩:=Int.eq_ofNat_of_zero_le V;simp only[Int.toNat_natCast]at I;rw[Ks]at h9;have Y:n<nd.length:=(by omega);have OQ:(n:Int)<nd.length:=(by omega);have Z9:=C.pcs n p I;obtain⟨y,hy⟩:=LE (ah nd.length (ndf nd) bud h n p)
    have HS:Kq (fK nd.length (ndf nd) bud h n=(⟨y.1,y.2.1,h.S.set n y.2.2⟩,decide (y.2.2.pc=0\/y.2.2.pc=10))):=qh (by
      unfold fK;rw[<-HP.o,if_pos ⟨O,hc0,TY⟩];simp only[Int.toNat_natCast]
      rw[hy])
    have x7:IntKind.i64.wrap ((n:Int)+1)=(n:Int)+1:=IntWalk.i64_in _ ahB;have u0:(p.pc==0)=false:=(by simpa using hc0);have u10:(p.pc==10)=false:=(by simpa using TY);have Nx:p.pc<10\/(10<p.pc/\p.pc<=16)\/(16<p.pc/\p.pc<=18)\/18<p.pc:=(by omega);have l5:∀W,ao W c cap bud nd h->Z W c.l 5 (slice (some ⟨c.q,0,none⟩) nd.length nd.length):=λW k=>k.l5;have X0:=qh l5;clear l5;rcases Nx with e|e|e|e
    all_goals
      first| have LU:=λW (k:ao W c cap bud nd h)=>IB k C n Y p I hc0 e| have LU:=λW (k:ao W c cap bud nd h)=>Ew k C n Y p I e.1 e.2| have LU:=λW (k:ao W c cap bud nd h)=>CD k C n Y p I e.1 e.2| have LU:=λW (k:ao W c cap bud nd h)=>CC k C n Y p I e
      rw[<-hy]at LU;have HM:=qh LU;first|(have u1:decide (p.pc<10)=true:=decide_eq_true ahB)|(have u1:decide (p.pc<10)=false:=decide_eq_false ahB)
      first|(have u2:decide (p.pc<=16)=true:=decide_eq_true ahB)|(have u2:decide (p.pc<=16)=false:=decide_eq_false ahB)
      first|(have u3:decide (p.pc<=18)=true:=decide_eq_true ahB)|(have u3:decide (p.pc<=18)=false:=decide_eq_false ahB)
      have HG:=qh I;clear LU k hp C hc0 TY I V h9 O Ks e hy Z9;go_enter func312,ntmps312;go_wp2_with fail;refine Pi (uE H.o n) λw1 b1=>?_;refine ajy ?_;intro H1;have c5:=X0.o _ H1.o.1;clear b1;go_wp2_with fail;refine(HM.o _ H1.o.1).mono ?_;rintro en w2 ⟨rfl,K2,t2⟩;have LQ:(h.S.set n {y.2.2 with pc:=p.pc})[n]? =some {y.2.2 with pc:=p.pc}:=(by have:=(List.getElem?_eq_some_iff.1 HG.o).1;simp[this]);have d0:=ST (K2.sp.cell LQ 0 _ rfl);have f0:=K2.sp.free (n*4);have hq:=K2.sp.lt;have K3:=K2.putS LQ (j:=0) (v:= J y.2.2.pc) (p':=y.2.2) ahD rfl;simp only[Nat.add_zero,List.set_set]at K3;have H2:=qh (And.intro K3 (((aa.of_below H1.o.2).trans t2).trans (dw ⟨c.q,n*4,none⟩ (J y.2.2.pc) rfl)));clear K2 t2 LQ K3 c5;cases z0:(y.2.2.pc==0)
      . cases z1:(y.2.2.pc==10);. have HD:Kq (decide (y.2.2.pc=0\/y.2.2.pc=10)=false):=qh aij;go_wp2;go_ret;rw[HS.o];exact⟨az HD.o.symm,H2.o.1,H2.o.2⟩
        . have HD:Kq (decide (y.2.2.pc=0\/y.2.2.pc=10)=true):=qh aik;go_wp2;go_ret;rw[HS.o];exact⟨az HD.o.symm,H2.o.1,H2.o.2⟩
      . have HD:Kq (decide (y.2.2.pc=0\/y.2.2.pc=10)=true):=qh ail;go_wp2;go_ret;rw[HS.o];exact⟨az HD.o.symm,H2.o.1,H2.o.2⟩
  . have HS:Kq (fK nd.length (ndf nd) bud h i=(h,false)):=qh (by unfold fK;rw[<-hp,if_neg hc])
    have hz:p.pc=0\/p.pc=10:=by
      by_cases O:okI h.S i;. apply Classical.byContradiction;intro Y;exact hc ⟨O,λe=>Y (.inl e),λe=>Y (.inr e)⟩
      . left;rw[hp,dE O];rfl
    have HZ:=qh hz;clear k hp hc Ks hz C;by_cases V:p.pc=0;. have u0:(p.pc==0)=true:=(by simpa using V);clear V;go_enter func312,ntmps312;go_wp2_with fail;refine Pi (uE H.o i) λw1 b1=>?_;refine ajy ?_;intro H1;clear b1;go_wp2;go_ret;rw[HS.o];exact⟨rfl,H1.o.1,aa.of_below H1.o.2⟩
    . have u0:(p.pc==0)=false:=(by simpa using V);have u10:(p.pc==10)=true:=(by have:=HZ.o;simp;omega);clear V;go_enter func312,ntmps312;go_wp2_with fail;refine Pi (uE H.o i) λw1 b1=>?_;refine ajy ?_;intro H1;clear b1;go_wp2;go_ret;rw[HS.o];exact⟨rfl,H1.o.1,aa.of_below H1.o.2⟩
end
end
section
open Go.RowKit
theorem Tryz.infoInC:(prog.info? 3).map (λi=>(i.zero,i.size,i.bytes))=some (some (J 0),1,8):=by kernel_rfl
def Ha(w:World)(a:Nat)(nd:List Int)(e:Ending)(w':World):Prop:=
 ∃k n1 b0 b1 b2,e= returned (pointer (some ⟨k,0,none⟩))/\cW w' k n1 (.func (.func 172) #[] #[pointer (some ⟨b0,0,none⟩),pointer (some ⟨b1,0,none⟩),pointer (some ⟨b2,0,none⟩)]) nd ⟨0,false,0,0,0⟩/\
  Blk w' b0 29 #[↑a]/\Blk w' b1 3 #[J 3]/\Blk w' b2 3 #[J 3]/\(w.heap.size<=b0/\w.heap.size<=b1/\w.heap.size<=b2/\w.heap.size<=n1/\b0<k/\b1<k/\b2<k/\n1<k)/\Below w.heap.size w w'
def IM(w:World)(a nb cap:Nat)(nd:List Int)(NL:1<=nd.length/\nd.length<=32)(Ow:∀m,m<nd.length->Z w nb m (J (ndf nd m))):E 145 #[↑a,J 3,J 3,slice (some ⟨nb,0,none⟩) nd.length cap] w (Ha w a nd):=by
  have ZX:∀(fn:Fn) (first cap:Array Value) (w:World),(Instr.makeFunc fn first cap).run prog w= .ok (.func fn first cap) w:=λ_ _ _ _=>rfl;obtain⟨i0,ab,ad,al,ax⟩:=info_parts Tryz.infoInC;obtain⟨_,hn⟩:=NL;have HR:=qh Ow;have WI:nb<w.heap.size:=aI (Ow 0 ahB);obtain⟨h,Y⟩:=LE (((w.alloc (cells #[↑a] 29)).alloc (cells #[J 3] 3)).alloc (cells #[J 3] 3));have KR:h.heap.size=w.heap.size+3:=by rw[Y];simp
  have I:=qh (show Below w.heap.size w h/\Blk h w.heap.size 29 #[↑a]/\Blk h (w.heap.size+1) 3 #[J 3]/\Blk h (w.heap.size+1+1) 3 #[J 3]from by
    rw[Y]
    refine⟨(((Below.refl _ _).alloc (Nat.le_refl _) _).alloc ahC _).alloc ahG _,((Blk.new _ _ _).alloc _).alloc _,(Blk.new' _ _ _ ahC).alloc _,Blk.new' _ _ _ ahC⟩)
  have HW:=qh Y;have Yp:=qh KR;clear KR;clear Ow;go_enter func145,ntmps145;go_upto_region 1 with fail;rw[<-HW.o];clear Y;go_wp2_with (refine wpList_make_full _ rfl (.tmp 11) (.tmp 11) 22 rfl h.heap.size 3 i0 (J 0) 1 Tryz.underlying22 ab ad al .i64 .i64 nd.length nd.length nd.length rfl rfl rfl rfl ?b2 ?b3 (Nat.le_refl _) ?_);case b2=>rw[ax];omega
  case b3=>unfold maxLen;omega
  intro w2 t3 hg;have MG:Blk w2 h.heap.size 3 (List.replicate nd.length (Value.int .i64 0)).toArray:=by have:=gc t3;have e:(madeCells #[Value.int .i64 0] nd.length).toList=List.replicate nd.length (J 0):=mR _ _;rw[e]at this;simpa using this
  have t2:aa [] h w2:=aa.of_below ((Below.refl h.heap.size h).grown hg (Nat.le_refl _) (λj hj=>by cases hj));have Kp:=t2.size;have Pn:=MG.lt;have V:=qh (And.intro MG t2);clear t3 hg MG t2;have VK:∀m,m<nd.length->∀W,aa [] w2 W->Z W nb m (J (ndf nd m)):=λm hm W t=>by have T:=((aa.of_below (S:=[]) I.o.1).trans V.o.2).trans t;rw[T.cellC WI ahC];exact HR.o m hm
  have O4:=qh VK;have Ly:Kq (∀o:Obj,Blk (w2.alloc o) h.heap.size 3 (List.replicate nd.length (Value.int .i64 0)).toArray):=qh λo=>V.o.1.alloc o
  have Zs:Kq (∀(o:Obj) (j:Nat) (v:Value),(nd.map (Value.int .i64))[j]? =some v->(w2.alloc o).cell? ((⟨nb,0,none⟩:Addr).add j)=some v):=qh λo j v O=>by
    rw[List.getElem?_map]at O;cases hx:nd[j]? with
    | none=>rw[hx]at O;cases O
    | some y=>rw[hx]at O;injection O with O;have hj:=(List.getElem?_eq_some_iff.1 hx).1;have:=O4.o j hj (w2.alloc o) ((aa.refl _ _).alloc _);rw[<-O];have e:ndf nd j=y:=(by unfold ndf;rw[List.getD_eq_getElem?_getD,hx];rfl);rw[e]at this;rw[show(⟨nb,0,none⟩:Addr).add j=⟨nb,j,none⟩by cases j<;>simp[Addr.add]];exact this
  obtain⟨wc,H⟩:=LE ((w2.alloc (cells #[.nilFunc,slice (some ⟨h.heap.size,0,none⟩) nd.length nd.length,J 0,bool false,J 0,J 0,J 0] 324)).setRow h.heap.size (nd.map (Value.int .i64)).toArray);have Se:Blk wc w2.heap.size 324 #[.nilFunc,slice (some ⟨h.heap.size,0,none⟩) nd.length nd.length,J 0,bool false,J 0,J 0,J 0]:=by rw[H];exact(setRow_other _ _ _ _ ahB).trans (Blk.new _ _ _)
  have Wb:Blk wc h.heap.size 3 (nd.map (Value.int .i64)).toArray:=by rw[H];exact setRow_heap _ _ _ _ _ _ (Ly.o _)
  have k0:wc.cell? w2.heap.size=some .nilFunc:=Se.cell 0;have z0:=Se.free 0
  have RM:=qh (show Below h.heap.size h wc from by
    rw[H]
    exact below_setRow ((V.o.2.below ahC (Nat.le_refl _)).alloc Kp _) (Nat.le_refl _) _)
  have M4:=qh (And.intro Se Wb);clear VK WI Se Wb Pn Kp;rw[H]at k0 z0;have YE:=qh H;clear H;go_wp2_with (refine wpList_copy_own rfl (.tmp 18) (.tmp 19) 22 22 rfl 3 Tryz.underlying22 ahE h.heap.size 0 nd.length nd.length ⟨nb,0,none⟩ nd.length cap rfl rfl _ 3 (Ly.o _) (nd.map (Value.int .i64)) ahC (Zs.o _) ahC ah4 ?_);go_wp2;go_ret;rw[<-YE.o];have e3:=Yp.o;have e4:=V.o.1.lt;refine⟨w2.heap.size,h.heap.size,w.heap.size,w.heap.size+1,w.heap.size+1+1,rfl,⟨?_,?_,?_,hn⟩,?_,?_,?_,?_,?_⟩;. exact M4.o.1.set_ 0 _
  . exact M4.o.2.far (by show h.heap.size≠w2.heap.size;omega) _
  . omega
  . exact(I.o.2.1.below RM.o ahB).far (by show w.heap.size≠w2.heap.size;omega) _
  . exact(I.o.2.2.1.below RM.o ahB).far (by show w.heap.size+1≠w2.heap.size;omega) _
  . exact(I.o.2.2.2.below RM.o ahB).far (by show w.heap.size+1+1≠w2.heap.size;omega) _
  . omega
  . exact(I.o.1.trans (RM.o.mono ahB)).setCell (by show w.heap.size<=w2.heap.size;omega) _
end
section
open Go.RowKit
variable{l b k a:Nat}{B0:Nat->Prop}{vN:Value}
def TBn(l:Nat)(B0:Nat->Prop)(w:World)(b:Nat)(P T:List Int)(k:Nat)(vN:Value):Prop:=
 (k=0/\ip B0 w b P T/\(∀i,B0 i->i<l)/\vN.ownBlock=none)\/∃B' m,eX B' w b P T/\(∀i,B' i->i≠l/\i<m)/\(∀g,vN.ownBlock=some g->m<=g)/\m<=w.heap.size
def TBf(l:Nat)(w:World)(b:Nat)(P T:List Int)(vN:Value):Prop:=∃B' m,eX B' w b P T/\(∀i,B' i->i≠l/\i<m)/\(∀g,vN.ownBlock=some g->m<=g)/\m<=w.heap.size
def GA(hc:a5 P T=0)(hl:l<w.heap.size)(h:TBn l B0 w b P T k vN)(Y:k<T.length)(x:Int)(hx:(aq P T T.length)[k]? =some x):E 100 #[↑b,J k] w λe w'=>e= returned (J x)/\TBf l w' b P T vN/\aa [b] w w':=by
  rcases h with⟨_,H,h1,I⟩|⟨B',m,H,h1,I,h3⟩
  . refine(EA B0 w b P T hc k Y H x hx).mono ?_;rintro e w' ⟨O,ht,tn⟩;refine⟨O,⟨_,w'.heap.size,ht.lt,λi hi=>⟨?_,hi.2⟩,λg hg=>?_,Nat.le_refl _⟩,tn⟩
    . rcases hi.1 with V|V
      . have:=h1 i V;omega
      . omega
    . rw[I]at hg;cases hg
  . refine(kK w b P T k Y H.f x hx).mono ?_;rintro e w' ⟨O,rfl⟩;exact⟨O,⟨B',m,H,h1,I,h3⟩,aa.refl _ _⟩
def lkN(a l q:Nat)(bud:Int)(n:Nat)(vN:Value):Array Value:=#[↑a,J 1,J bud,vN,.pointer none,slice (some ⟨q,0,none⟩) n n]
structure NwI(w5 wr:World)(l b a q:Nat)(bud:Int)(P T:List Int)(B0:Nat->Prop)(k:Nat)(vN:Value):Prop where
 blk:Blk wr l 263 (lkN a l q bud T.length vN)
 own:wr.ownsRow w5.heap.size 3 1 vN k (((aq P T T.length).take k).flatMap encI)
 tab:TBn l B0 wr b P T k vN
 tn:aa [l,b] w5 wr
 lb:l≠b
def TBn.turns0(h:TBn l B0 w b P T k vN)(t:aa [] w w'):TBn l B0 w' b P T k vN:=by
 rcases h with⟨H,h1,I,O⟩|⟨V,m,H,h1,I,O⟩
 .exact .inl ⟨H,h1.turns t ahC,I,O⟩
 .exact .inr ⟨V,m,H.turns t ahC,h1,I,Nat.le_trans O t.size⟩
def aa.grownBy{row:Option Nat}(h:w.grownBy w' row):aa row.toList w w':=
 ⟨h.os,h.tape,h.output,h.size,λi hi hn=>h.block i hi aih⟩
def NwI.step{w5 wr w2 w3:World}{q:Nat}{A:Option Addr}{H I:Nat}{x:Int}{o:Obj}(h:NwI w5 wr l b a q bud P T B0 k (.slice A k cap))(hx:(aq P T T.length)[k]? =some x)(Ou:l<w5.heap.size)(NN:b<w5.heap.size)(ht:TBf l w2 b P T (.slice A k cap))(t2:aa [b] wr.drew w2)(h3:w3.ownsRow w5.heap.size 3 1 (slice (some ⟨H,0,none⟩) (k+1) I) (k+1) (((aq P T T.length).take k).flatMap encI++encI x))(hg:(w2.alloc o).grownBy w3 (Value.slice A k cap).ownBlock)(Ly:(Value.slice A k cap).ownBlock=some H\/H=(w2.alloc o).heap.size):NwI w5 (w3.setCell ⟨l,3,none⟩ (slice (some ⟨H,0,none⟩) (k+1) I)) l b a q bud P T B0 (k+1) (slice (some ⟨H,0,none⟩) (k+1) I):=by
  have Nc:=h.lb;have t3:∀g,(Value.slice A k cap).ownBlock=some g->w5.heap.size<=g:=λg hg=>(h.own.lt g hg).1;have tg:aa (Value.slice A k cap).ownBlock.toList (w2.alloc o) w3:=aa.grownBy hg;have ab:l∉(Value.slice A k cap).ownBlock.toList:=λhm=>by have:=t3 l aie;omega
  have PX:Blk w2 l 263 _:=t2.blk h.blk.drew (by simpa using Nc);have QM:Blk w3 l 263 _:=tg.blk (PX.alloc o) ab;have h5:w5.heap.size<=wr.heap.size:=h.tn.size;have Kp:wr.heap.size<=w2.heap.size:=t2.size;have Wo:w5.heap.size<=H:=(h3.lt H rfl).1;have Y:aa [l] w3 (w3.setCell ⟨l,3,none⟩ (slice (some ⟨H,0,none⟩) (k+1) I)):=(aa.refl _ _).setCell (.inl ahC) _;refine⟨QM.set_ 3 _,?_,.inr ?_,?_,Nc⟩
  . have e:((aq P T T.length).take (k+1)).flatMap encI=((aq P T T.length).take k).flatMap encI++encI x:=(by rw[bJ hx,List.flatMap_append];simp);rw[e]
    exact aa.own h3 Y (λg hg=>by
      injection hg with hg;subst hg
      simp;omega)
  . obtain⟨B',m,k1,V,k3,k4⟩:=ht;have KR:w2.heap.size<=w3.heap.size:=Nat.le_trans ahC tg.size;refine⟨B',m,((k1.turns (S:=[]) ((aa.refl _ _).alloc o) ahC).turns tg (λi hi O=>?_)).turns Y (λi hi O=>?_),V,λg hg=>?_,?_⟩;. have:=k3 i ah6;have:=(V i O).2;omega
    . exact(V i O).1 ah6
    . injection hg with hg;subst hg;rcases Ly with e|e
      . exact k3 _ e
      . rw[e];simp only[World.alloc,Array.size_push];omega
    . rw[show(w3.setCell ⟨l,3,none⟩ (slice (some ⟨H,0,none⟩) (k+1) I)).heap.size=w3.heap.size by simp];omega
  . have c1:aa ([l,b]++(Value.slice A k cap).ownBlock.toList) w5 (w3.setCell ⟨l,3,none⟩ (slice (some ⟨H,0,none⟩) (k+1) I)):=
      ((((h.tn.mono ahC).trans ((aa.refl _ _).drew)).trans (t2.mono ahC)).trans (((aa.refl _ _).alloc o).trans (tg.mono λi hi=>List.mem_append_right _ hi))).trans (Y.mono ahC)
    refine c1.fresh λi hi=>?_;rcases List.mem_append.1 hi with hi|hi
    . exact .inl hi
    . exact .inr (t3 i ah6)
def IO(w:World)(l:Nat)(c1:Z w l 1 (J 1)):E 146 #[↑l,J 1] w λe w'=>e= returned (J 3)/\w=w':=by go_enter func146,ntmps146;exact aaa
def cn0(s:Ar)(n:Nat):Cn:=⟨{s with W:=List.replicate (2+3*n) 0},⟨0,false,0,0,0⟩,List.replicate n Sp.zero⟩
def Fw(w:World)(a g:Nat)(s:Ar)(bud:Int)(P T:List Int)(e:Ending)(w':World):Prop:=
 ∃(c:Cx) (cap:Nat),c.a=a/\c.g=g/\e= returned (tuple #[↑c.l,J 0])/\ao w' c cap bud (aq P T T.length) (cn0 s T.length)/\w.heap.size<=c.l/\w.heap.size<=c.q/\w.heap.size<=c.k/\aa [a] w w'/\∀x∈[c.n1,c.nb,c.b0,c.b1,c.b2],w.heap.size<=x
def Gu{g:Nat}{s:Ar}(h:aB w a g s)(hs:s.W=[])(L0:a≠g)(vP vT:Value)(P T:List Int)(hP:RdL w vP 1 encI P)(hT:RdL w vT 1 encI T)(hc:a5 P T=0)(bud:Int)(Na:0<=bud)(hd1:bud<=1000)(I:s.room=4096):E 106 #[↑a,agg #[vP,vT],J bud] w (Fw w a g s bud P T):=by
  obtain⟨i0,hi,Kr,Ku,ab⟩:=info_parts Tryz.infoSp;obtain⟨j0,hj,PO,PP,O0⟩:=info_parts Tryz.infoInC;have KX:=bh (aR hc).1;refine ajz ?_;intro LP L9 Mp My;have H:=qh (And.intro h (And.intro LP (And.intro L9 L0)));have HN:=qh (i3 (w.alloc (cells #[vP,vT] 24)) vP vT P T (hP.alloc _) (hT.alloc _) hc);have HS:=qh (And.intro hs I);have Lg:=qh hc;have HR:=qh (λW=>pp bud W Na hd1);refine akf ?_;intro hlo B0;have x1:IntKind.i64.wrap (3*(T.length:Int))=3*(T.length:Int):=IntWalk.i64_in _ ahB;have x2:IntKind.i64.wrap (2+3*(T.length:Int))=2+3*(T.length:Int):=IntWalk.i64_in _ ahB;clear h hs hP hT Na hd1 I KX LP L9 L0 hc;go_enter func106,ntmps106;go_wp2_with fail;refine HN.o.mono ?_;rintro en w1 ⟨b,rfl,hb,t1,b1⟩;rw[hlo]at hb t1 b1;have K1:=qh (And.intro (t1.q Lg.o) (B0.o.trans (b1.mono ahB)));have HB:=qh hb;clear t1 b1 hb HN;go_wp2_with fail;refine LT (HR.o _) ?_;go_wp2_with fail;refine LT (eo _ _ _ _ (K1.o.1.tab Lg.o)) ?_;go_wp2_with fail;have A1:=H.o.1.turns (aa.of_below (S:=[]) K1.o.2) ahC ahC
  have HT:Kq (eh s (2+3*(T.length:Int))=({s with W:=List.replicate (2+3*T.length) 0},(1:Int),(0:Int))):=qh (by
    unfold eh
    rw[HS.o.1,HS.o.2,if_neg ahB,if_neg ahG,show(2+3*(T.length:Int)).toNat=2+3*T.length by omega];rfl)
  refine(gz A1 (2+3*(T.length:Int))).mono ?_;rintro en w3 ⟨rfl,k3,Y⟩;rw[HT.o]at k3 ⊢;have MQ:=K1.o.2.size;have Li:=Y.size;have Rm:∀i∈[a],¬(w.heap.size+1<=i/\i<w1.heap.size):=λi hi=>by have:=H.o.2.1;simp at hi;omega
  have K3:=qh (And.intro (K1.o.1.turns Y Rm) (And.intro ((aa.of_below (S:=[a]) K1.o.2).trans Y) (And.intro k3 (And.intro MQ Li))));clear k3 Y A1 Rm Li MQ x1 x2;go_wp2_with (refine wpList_make_full _ rfl (.tmp 43) (.tmp 43) 237 rfl w3.heap.size 113 i0 (agg #[J 0,J 0,J 0,J 0]) 4 Tryz.underlying237 hi Kr Ku .i64 .i64 T.length T.length T.length rfl rfl rfl rfl ?b2 ?b3 (Nat.le_refl _) ?_);case b2=>rw[ab];omega
  case b3=>unfold maxLen;omega
  intro w4 t3 hg;have hb:dD w4 w3.heap.size (List.replicate T.length Sp.zero):=by exact aaD
  have t4:aa [] w3 w4:=aa.of_below ((Below.refl w3.heap.size w3).grown hg (Nat.le_refl _) (λj hj=>by cases hj));have MB:=hb.lt;have H4:=qh (And.intro hb (And.intro t4 MB));clear t3 hg hb t4 MB;go_upto_region 11 with fail;obtain⟨q,hq⟩:=LE w3.heap.size;rw[<-hq]at H4 ⊢;have HQ:=qh hq;clear hq;obtain⟨l,hl⟩:=LE w4.heap.size;obtain⟨w5,Lp⟩:=LE (w4.alloc (.cells (lkN a l q bud T.length (.slice none 0 0)) 263));have N5:=Lp;unfold lkN at N5;rw[<-N5,<-hl];have t5:aa [] w4 w5:=by rw[Lp];exact(aa.refl _ _).alloc _
  have Ox:w5.heap.size=l+1:=by rw[Lp,hl];simp
  have NN:Blk w5 l 263 (lkN a l q bud T.length (.slice none 0 0)):=by rw[Lp,hl];exact Blk.new _ _ _
  have HI:=qh (show NwI w5 w5 l b a q bud P T (λi=>w.heap.size+1<=i/\i<w1.heap.size) 0 (.slice none 0 0)from by
    have e1:=K3.o.2.2.2;have e2:=H4.o.2.2;have e3:=H4.o.2.1.size;refine⟨NN,?_,.inl ⟨rfl,(K3.o.1.turns H4.o.2.1 ahC).turns t5 ahC,λi hi=>by omega,rfl⟩,aa.refl _ _,?_⟩;. rw[List.take_zero,List.flatMap_nil];exact World.ownsRow_nil _ _ _ _
    . have:b<w1.heap.size:=K1.o.1.low.2
      omega)
  have H5:=qh (And.intro t5 (And.intro Ox hl));clear Lp N5 t5 Ox NN hl;go_wp2;go_loopw [13,48] (λ_ i wr=>∃(k:Nat) (vN:Value),i= J k/\k<=T.length/\NwI w5 wr l b a q bud P T (λi=>w.heap.size+1<=i/\i<w1.heap.size) k vN) (λ_ i _=>T.length-(intOf i).toNat);case atStart=>exact⟨0,_,rfl,by omega,HI.o⟩
  case round=>
    clear HI;obtain⟨k,vN,rfl,hk,V⟩:=hrel;obtain⟨O,rfl⟩:∃O:World,O=wr:=⟨_,rfl⟩;have Ou:l<w5.heap.size:=(by have:=H5.o.2.1;omega);have NN:b<w5.heap.size:=(by have e0:b<w1.heap.size:=K1.o.1.low.2;have e1:=K3.o.2.2.2.2;have e2:=H4.o.2.1.size;have e3:=H5.o.1.size;omega);by_cases I':k<T.length
    . obtain⟨A,cap,rfl⟩:=bE V.own;obtain⟨x,hx⟩:∃x,(aq P T T.length)[k]? =some x:=ai (by rw[dt (Nat.le_refl _)];exact I');have c3:Z O l 3 (.slice A k cap):=V.blk.cell 3;have Lz:l<O.heap.size:=V.blk.lt;have Y3:w5.heap.size<=O.heap.size:=V.tn.size;have Ti:=qh (GA Lg.o (w:=O.drew) Lz (V.tab.turns0 ((aa.refl _ _).drew)) I' x hx);have HX:=qh hx;have HW:=qh V;have X1:=qh V.lb;clear V hx;go_wp2_with fail
      go_region_law (first
        | (refine step_append_lies _ rfl _ _ 22 rfl w5.heap.size 3 j0 (J 0) 1 8 Tryz.underlying22 hj PO PP O0 rfl ahD _ _ _ rfl (o2.alloc _) ⟨w2.heap.size,0,none⟩ 1 1 (encI x) rfl rfl (λj u hj=>cell_one_new w2 (J x) 3 j u hj) (kD _) ahD aif ahB ahG _ rfl ?_;intro g3 Lq w7 h3 Ly NS Up;have QM:=(PX.alloc (cells #[J x] 3)).grown Ly (λe=>Rj e.symm);have al:Z w7 l 3 (.slice A k cap):=QM.cell 3;have bw:=QM.free 3)
        | (go_simp;go_at_call 100;refine Ti.o.mono ?_;rintro en w2 ⟨rfl,W5,RG⟩;have PX:Blk w2 l 263 (lkN a l q bud T.length (.slice A k cap)):=RG.blk HW.o.blk.drew (by simpa using X1.o);have o2:w2.ownsRow w5.heap.size 3 1 (.slice A k cap) k (((aq P T T.length).take k).flatMap encI):=aa.own (show O.drew.ownsRow _ _ _ _ _ _ from HW.o.own) RG (λg hg=>by have:=(HW.o.own.lt g hg).1;simp;omega);have Rj:(Value.slice A k cap).ownBlock≠some l:=(λe=>by have:=(HW.o.own.lt l e).1;omega);have ad:Z w2 l 3 (.slice A k cap):=PX.cell 3;have Mi:l<w2.heap.size:=PX.lt;have Kp:=RG.size;simp at Kp))
      all_goals
        have HR:=qh (NwI.step HW.o HX.o Ou NN W5 RG h3 Ly NS);clear W5 RG h3 Ly NS QM PX o2;go_wp2;go_roundw;case rel=>exact⟨k+1,_,by go_num,by omega,HR.o⟩
        case measure=>simp[intOf];omega
    . obtain rfl:k=T.length:=by omega
      have KW:(aq P T T.length).length=T.length:=dt (Nat.le_refl _);obtain⟨nb,cap,rfl,Z1,Z2⟩:=gQ V.own ahB;have OU:=V.own;rw[show(aq P T T.length).take T.length=aq P T T.length from List.take_of_length_le (by rw[KW];exact Nat.le_refl _)]at OU;have Ow:∀m,m<(aq P T T.length).length->Z O nb m (J (ndf (aq P T T.length) m)):=λm hm=>by obtain⟨x,hx⟩:=ai hm;have e:ndf (aq P T T.length) m=x:=(by unfold ndf;rw[List.getD_eq_getElem?_getD,hx];rfl);rw[e];obtain⟨_,_,h1,_,_,h2⟩:=dO (l:=aq P T T.length) (by rw[KW];exact OU) ahB;obtain⟨b',off,h3,_,h4⟩:=h2 ahB;injection h1 with h1;rw[h3]at h1;injection h1 with h1;injection h1 with h5 h6;have:=h4 m x hx 0 _ rfl;rw[<-h5,<-h6]at this;simpa using this
      have c1:Z O l 1 (J 1):=V.blk.cell 1;have c3:Z O l 3 (slice (some ⟨nb,0,none⟩) T.length cap):=V.blk.cell 3;have Lz:l<O.heap.size:=V.blk.lt;have Py:=qh (IO O.drew l c1);have Th:=IM O.drew a nb cap (aq P T T.length) (by rw[KW];omega) Ow;rw[KW]at Th;have X8:=qh Th;have HW:=qh (And.intro V Ow);clear V Ow Th OU;go_wp2_with fail
      go_region_held3 (λW=>Z W l 3 (slice (some ⟨nb,0,none⟩) T.length cap))
        (first|exact c3|exact YQ|exact YR)
        (first
          | (go_at_call 146;go_loud (refine LT Py.o ?_))
          | (go_at_call 145;go_loud (refine X8.o.mono ?_);rintro en w8 ⟨kk,n1,b0,b1,b2,rfl,XG,p0,p1,p2,WP,b8⟩;have PY:Blk w8 l 263 (lkN a l q bud T.length (slice (some ⟨nb,0,none⟩) T.length cap)):=HW.o.1.blk.drew.below b8 Lz;have YQ:Z w8 l 3 (slice (some ⟨nb,0,none⟩) T.length cap):=PY.cell 3;have ax:Z w8 l 4 (.pointer none):=PY.cell 4;have bA:=PY.free 4;have YR:(w8.setCell ⟨l,4,none⟩ ↑kk).cell? ⟨l,3,none⟩=some (slice (some ⟨nb,0,none⟩) T.length cap):=(PY.set_ 4 ↑kk).cell 3;have H8:=qh (And.intro XG (And.intro p0 (And.intro p1 (And.intro p2 (And.intro WP (And.intro b8 PY))))));clear XG p0 p1 p2 WP b8 PY))
      all_goals
        go_wp2;go_ret2;have f1:=K1.o.2.size;have f2:=K3.o.2.2.2;have f3:=H4.o.2.2;have f4:=H4.o.2.1.size;have f5:=H5.o.2;have f6:=HQ.o;have f7:b<w1.heap.size:=K1.o.1.low.2;have f8:w.heap.size+1<=b:=K1.o.1.low.1;have f9:=H.o.2;have Y0:=H8.o.2.2.2.2.1;have bc:w5.heap.size<=O.heap.size:=HW.o.1.tn.size;have f12:O.drew.heap.size=O.heap.size:=rfl;have Y1:nb<O.heap.size:=aI (HW.o.2 0 (by rw[KW];omega));rw[f12]at Y0;have t8:aa [] O w8:=((aa.refl _ _).drew).trans (aa.of_below H8.o.2.2.2.2.2.1);have t9:aa [l] w8 (w8.setCell ⟨l,4,none⟩ ↑kk):=(aa.refl _ _).setCell (.inl ahC) _;have S2:aa [l,b] w5 (w8.setCell ⟨l,4,none⟩ ↑kk):=(HW.o.1.tn.trans (t8.mono ahC)).trans (t9.mono ahC);have XE:aa [l,b] w3 (w8.setCell ⟨l,4,none⟩ ↑kk):=((H4.o.2.1.mono ahC).trans (H5.o.1.mono ahC)).trans S2;refine⟨⟨l,a,g,q,kk,n1,nb,b0,b1,b2⟩,cap,rfl,rfl,rfl,⟨?_,?_,?_,?_,?_,?_,?_,?_,?_,?_,?_,?_⟩,?_,?_,?_,?_,λx hx=>by simp at hx;omega⟩;. exact K3.o.2.2.1.turns XE ahG ahG
        . unfold Ir;rw[KW];exact H8.o.2.2.2.2.2.2.set_ 4 _
        . exact(H4.o.1.turns (T:=[]) H5.o.1 ahC).turns S2 (by show q∉[l,b];simp;omega)
        . exact H8.o.1.turns t9 (by show kk∉[l];simp;omega) (by show n1∉[l];simp;omega)
        . intro m hm;have e8:w8.cell? ⟨nb,m,none⟩=O.cell? ⟨nb,m,none⟩:=t8.cellC Y1 ahC;have e9:=t9.cellC (p:=⟨nb,m,none⟩) (by have:=t8.size;show nb<w8.heap.size;omega) (by show nb∉[l];simp;omega);exact e9.trans (e8.trans (HW.o.2 m hm))
        . exact t9.blk H8.o.2.1 (by show b0∉[l];simp;omega)
        . exact t9.blk H8.o.2.2.1 (by show b1∉[l];simp;omega)
        . exact t9.blk H8.o.2.2.2.1 (by show b2∉[l];simp;omega)
        . rw[KW];simp[cn0]
        . rw[KW];omega
        . show[a,g,q,kk].Nodup;simp;omega
        . show ∀x∈[l,n1,nb,b0,b1,b2],x∉[a,g,q,kk];intro x hx;simp at hx ⊢;omega
        . show w.heap.size<=l;omega
        . show w.heap.size<=q;omega
        . show w.heap.size<=kk;omega
        . have:aa [a,l,b] w (w8.setCell ⟨l,4,none⟩ ↑kk):=(K3.o.2.1.mono ahC).trans (XE.mono ahC);exact this.fresh λi hi=>by simp at hi ⊢;omega
end
end Go.Proofs.YtglokdbiggbkjaaGreat
