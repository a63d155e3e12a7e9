/- Joined texts. -/
import Derived.Test.YtglokdbiggbkjaaGreatRows
import Derived.IntWalk
import Derived.ScopeJumps
import Derived.WalkMore
import Derived.Test.YtglokdbiggbkjaaGreatMgWholeRefuses0
import Derived.Test.YtglokdbiggbkjaaGreatMgWholeRefuses1
import Derived.Test.YtglokdbiggbkjaaGreatMgWholeRefuses2
import Derived.Test.YtglokdbiggbkjaaGreatMgWholeRefuses3
import Derived.Test.YtglokdbiggbkjaaGreatMgWholeRefuses5
import Derived.Test.YtglokdbiggbkjaaGreatMgWholeRefuses6
import Derived.Test.YtglokdbiggbkjaaGreatMgWholeRefuses9
set_option linter.unusedVariables false
set_option linter.unusedSimpArgs false
set_option linter.defProp false
set_option maxRecDepth 100000
set_option maxHeartbeats 16000000
open Go.Proofs.Tryz
namespace Go.Proofs.YtglokdbiggbkjaaGreat
open Go.IntKind(i64)
open Go.Value(int bool slice agg tuple pointer)
open Go.Ending(returned)
open Go.Obj(cells)
variable{nd n N i j M h cap:Nat}{dl bud:Int}{node:Nat->Nat}{G G':Nat->List Nat}{w w':World}{P T:List Int}{A R:List Nat}{Q:Exit->Act->World->Prop}
section
open Go
structure StA(n:Nat)(node:Nat->Nat)(p p':Sp)(i:Nat)(Q Q':List Nat):Prop where
 row:p.pc=1->p'.pc=5->∃(t:Nat) (d:Int),t<n/\node t=node i/\0<=d/\p'.a=tokH t d
 stay:p.pc≠4->p.pc≠11->Q'=Q
 splice:p.pc=4->(∃r,Q'=Q++i :: r)/\(p'.pc=10->Q=[])
 gone:p.pc=11->Q.head? =some i/\Q'=Q.tail
 enter:p'.pc=10->p.pc≠10->p.pc=4\/(p.pc=5/\Q.head? =some i)
 next:p'.pc=p.pc\/(p.pc=1/\(p'.pc=2\/p'.pc=3\/p'.pc=5))\/(p.pc=2/\p'.pc=3)\/(p.pc=3/\p'.pc=4)\/(p.pc=4/\(p'.pc=5\/p'.pc=10))\/(p.pc=5/\p'.pc=10)\/(p.pc=11/\p'.pc=0)\/(p.pc=0/\p'.pc=1)\/(p.pc=10/\p'.pc=11)
def F7(n:Nat)(node:Nat->Nat)(S S':List Sp)(ho:Int)(Q Q':List Nat):Prop:=
 (S'=S/\Q'=Q)\/∃(j:Nat) (p':Sp),j<n/\ho=j/\S'=S.set j p'/\StA n node (sv S j) p' j Q Q'
def zr(nd n:Nat)(dl:Int)(node:Nat->Nat)(h:Hc)(k i:Int):Hc×Bool:=
 if k=0 then eX nd n dl node h i else if k=1 then bj h i 0 1 else if k=2 then bj h i 10 11 else(h,false)
section
variable{h:Hc}
def gh{S:List Sp}(h:j<S.length):getS S (j:Int)=sv S j:=by unfold getS;rw[if_pos ahE];rfl
def HOk.le(k:HOk nd n dl node h N G)(H:N<=M):HOk nd n dl node h M G:=⟨k.iv,by have:=k.ops;omega,λt=>by have:=k.dn t;omega,k.bb⟩
def HOk.stepI(k:HOk nd n dl node h N G)(hN:N<1000000)(H:Int):∃I,HOk nd n dl node (eX nd n dl node h H).1 (N+1) I/\(((eX nd n dl node h H).1=h/\I=G/\¬(okI h.S H/\im (getS h.S H)=true))\/∃(j:Nat) (p':Sp),j<n/\H=j/\(eX nd n dl node h H).1.S=h.S.set j p'/\StH n node (sv h.S j) p' j (G 0) (I 0))/\(eX nd n dl node h H).1.ar.ops<=h.ar.ops+1:=by
 unfold eX;by_cases c:okI h.S H/\im (getS h.S H)=true
 .rw[if_pos c];obtain⟨⟨Y,h1⟩,hg⟩:=c;obtain⟨j,rfl⟩:=Int.eq_ofNat_of_zero_le Y;have V:j<h.S.length:=by omega
  have O:j<n:=by rw[<-k.iv.sl];exact V
  rw[gh V]at hg ⊢;simp only[Int.toNat_natCast];obtain⟨I,k',s'⟩:=k.step hN O hg _ rfl;refine⟨I,k',.inr ⟨j,_,O,rfl,rfl,s'⟩,?_⟩;unfold bm;repeat' split
  all_goals first
   |exact eY _ _ _
   |exact qL _ _ _ _
   |exact ju _ _ _
   |exact Nat.le_succ _
 .rw[if_neg c];exact⟨G,k.le ahE,.inl ⟨rfl,rfl,c⟩,Nat.le_succ _⟩
def HOk.beginI(k:HOk nd n dl node h N G)(H f u:Int)(V:(f=0/\u=1)\/(f=10/\u=11)):HOk nd n dl node (bj h H f u).1 N G/\(((bj h H f u).1=h/\¬(okI h.S H/\(getS h.S H).pc=f))\/∃(j:Nat),j<n/\H=j/\(sv h.S j).pc=f/\(bj h H f u).1.S=h.S.set j {sv h.S j with pc:=u})/\(bj h H f u).1.ar=h.ar:=by
 unfold bj;by_cases c:okI h.S H/\(getS h.S H).pc=f
 .rw[if_pos c];obtain⟨⟨Y,h1⟩,hg⟩:=c;obtain⟨j,rfl⟩:=Int.eq_ofNat_of_zero_le Y;have O:j<h.S.length:=by omega
  have I:j<n:=by rw[<-k.iv.sl];exact O
  rw[gh O]at hg ⊢;simp only[Int.toNat_natCast];refine⟨⟨?_,k.ops,k.dn,k.bset I (by show u=2->_;omega)⟩,.inr ⟨j,I,rfl,hg,rfl⟩,by trivial⟩;rcases V with⟨rfl,rfl⟩|⟨rfl,rfl⟩
  .exact k.iv.ask I hg rfl
  .exact k.iv.atFrontP I (k.iv.atFront I (.inl hg)) (.inr rfl)
 .rw[if_neg c];exact⟨k,.inl ⟨rfl,c⟩,rfl⟩
def HOk.act(k:HOk nd n dl node h N G)(hN:N<1000000)(K H:Int):∃I,HOk nd n dl node (zr nd n dl node h K H).1 (N+1) I/\F7 n node h.S (zr nd n dl node h K H).1.S H (G 0) (I 0)/\(zr nd n dl node h K H).1.ar.ops<=h.ar.ops+1/\(K≠0->(zr nd n dl node h K H).1.ar.ops=h.ar.ops):=by
 unfold zr;by_cases c0:K=0
 .rw[if_pos c0];obtain⟨I,k',hs,Y⟩:=k.stepI hN H;refine⟨I,k',?_,Y,λh=>absurd c0 h⟩;rcases hs with⟨h1,O,_⟩|⟨j,p',h1,O,V,s⟩
  .exact .inl ⟨by rw[h1],by rw[O]⟩
  .refine .inr ⟨j,p',h1,O,V,s.row,s.stay,s.splice,s.gone,s.enter,?_⟩;rcases s.next with h|h|h|h|h|h|h
   .exact .inl h
   .exact .inr (.inl h)
   .exact .inr (.inr (.inl h))
   .exact .inr (.inr (.inr (.inl h)))
   .exact .inr (.inr (.inr (.inr (.inl h))))
   .exact .inr (.inr (.inr (.inr (.inr (.inl h)))))
   .exact .inr (.inr (.inr (.inr (.inr (.inr (.inl h))))))
 .rw[if_neg c0]
  have Nw:∀f u:Int,(f=0/\u=1)\/(f=10/\u=11)->∃I,HOk nd n dl node (bj h H f u).1 (N+1) I/\F7 n node h.S (bj h H f u).1.S H (G 0) (I 0)/\(bj h H f u).1.ar.ops<=h.ar.ops+1/\(K≠0->(bj h H f u).1.ar.ops=h.ar.ops):=λf u Rd=>by
   obtain⟨k',hs,ha⟩:=k.beginI H f u Rd;refine⟨G,k'.le ahE,?_,by rw[ha];exact Nat.le_succ _,λ_=>by rw[ha]⟩;rcases hs with⟨h1,_⟩|⟨j,h1,O,V,h4⟩
   .exact .inl ⟨by rw[h1],rfl⟩
   .refine .inr ⟨j,_,h1,O,h4,⟨λh=>?_,λ_ _=>rfl,λh=>?_,λh=>?_,λh=>?_,?_⟩⟩;.omega
    .omega
    .omega
    .intro _;exfalso;have:u=10:=h;omega
    .rcases Rd with⟨rfl,rfl⟩|⟨rfl,rfl⟩
     .exact .inr (.inr (.inr (.inr (.inr (.inr (.inr (.inl ⟨V,rfl⟩)))))))
     .exact .inr (.inr (.inr (.inr (.inr (.inr (.inr (.inr ⟨V,rfl⟩)))))))
  by_cases c1:K=1;.rw[if_pos c1];exact Nw 0 1 (.inl ⟨rfl,rfl⟩)
  .rw[if_neg c1];by_cases c2:K=2;.rw[if_pos c2];exact Nw 10 11 (.inr ⟨rfl,rfl⟩)
   .rw[if_neg c2];exact⟨G,k.le ahE,.inl ⟨rfl,rfl⟩,Nat.le_succ _,λ_=>rfl⟩
def HOk.hold1(k:HOk nd n dl node h N G){a b:Nat}(Y:a<n)(I:b<n)(h1:(sv h.S a).pc=10)(V:(sv h.S b).pc=10):a=b:=by have O:=k.iv.atFront Y (.inl h1);have H:=k.iv.atFront I (.inl V);rw[O]at H;injection H
end
section
variable{Q r:List Nat}{k u x:Nat}
end
section
variable{h h':Hc}{P:Nat->Nat->Int}
end
end
section
open Go
def iM{α:Type}(a:α)(n i:Nat):(List.replicate n a).getD i a=a:=by exact aa9
def rx(n i:Nat):sv (List.replicate n Sp.zero) i=Sp.zero:=iM _ _ _
section
variable{h:Hc}
def HOk.start(s:Ar)(I:n<=32)(O:∀t,t<n->node t<nd)(hs:s.ops=0)(H:s.W=List.replicate (1+nd+n) 0):HOk nd n dl node ⟨s,List.replicate 32 0,List.replicate n Sp.zero⟩ 0 λ_=>[]:=by
  have z:∀t,(sv (List.replicate n Sp.zero) t).pc=0:=λt=>by rw[rx];rfl
  have d:∀t,dv (List.replicate 32 0) t=0:=λt=>iM _ _ _;refine⟨⟨?_,?_,?_,I,O,?_,?_,?_,?_,?_,?_,?_,?_,?_,?_,?_,?_,?_,?_⟩,by show s.ops<=0;omega,λt=>by rw[d];exact Int.le_refl _,λt _ V=>?_⟩;. rw[H];simp
  . simp
  . simpa using I
  . intro t _;show tnw nd s.W t=_;rw[H,d];exact iM _ _ _
  . intro t;show 0<=dv (List.replicate 32 0) t;rw[d];exact Int.le_refl _
  . intro _;exact List.nodup_nil
  . intro _ _ t h1;cases h1
  . intro _ t h1;cases h1
  . intro _;trivial
  . intro t _ _;exact .inl (z t)
  . intro m hm;exact absurd rfl hm
  . intro _ t h1;cases h1
  . intro m hm;exact absurd rfl hm
  . intro m _ hm;exact absurd rfl hm
  . intro v _;refine .inl ?_;rw[H];exact iM _ _ _
  . intro t h1;cases h1
  . refine .inr ⟨rfl,.inl ?_⟩;rw[H];exact iM _ _ _
  . have:=z t;have Y:(sv (List.replicate n Sp.zero) t).pc=2:=V;omega
end
end
section
open Go.RowKit
def HOk.cond{h:Hc}(k:HOk nd n dl node h N G)(hN:N<1000000)(hd:dl<=1000):Eg h:=by
 refine⟨by have:=k.ops;omega,λj p H=>?_⟩;have V:j<n:=by rw[<-k.iv.sl];exact(List.getElem?_eq_some_iff.1 H).1
 have e:sv h.S j=p:=by unfold sv;rw[List.getD_eq_getElem?_getD,H];rfl
 subst e;have hn:=k.iv.n32;refine⟨⟨k.iv.d0 j,by have:=k.dn j;omega⟩,λI=>?_,λh5=>?_⟩;.have h1:=k.bb j V I;have Y:=k.iv.at234 V (.inl I);rcases k.iv.mast j (gV Y)with⟨h4|h4,_⟩|⟨h4,_⟩<;>omega
 .rcases k.iv.at5 V h5 with⟨q,p,_,H,O⟩|⟨_,t,d,ht,h1,I,O⟩
  .rw[O];have:=k.iv.d0 p;have:=k.dn p;have:=k.iv.lt _ _ H;unfold tokH;omega
  .rw[O];have:=k.dn t;unfold tokH;omega
section
variable{w0:World}{l a g q b u lo hi:Nat}{d:Int}{h h':Hc}
end
end
section
open Go Go.RowKit
def hcV(l:Nat):Value:= .iface 181 (agg #[.iface 177 ↑l])
structure HcB where
 l:Nat
 a:Nat
 g:Nat
 q:Nat
 b:Nat
 u:Nat
 lo:Nat
 h1:Nat
 bt:Nat
 hi:Nat
def kP(p:Sp):Prop:=(0<=p.pc/\p.pc<=5)\/p.pc=10\/p.pc=11
def m7(dl:Int)(P T:List Int)(st:Hc)(N:Nat):Prop:=(∃G,HOk (ac P).length T.length dl (dk P T) st N G)/\∀i,kP (sv st.S i)
def hcS(dl:Int)(P T:List Int)(st:Hc)(i:Nat):Hc:=(eX (ac P).length T.length dl (dk P T) st i).1
def Dx(dl:Int)(P T:List Int):LkM T.length where
 σ:=Hc
 β:=HcB
 ok:=m7 dl P T
 ar:=λst=>st.ar
 sp:=λst i=>sv st.S i
 cn:=λst i=>if (sv st.S i).pc=10 then 1 else 0
 rd:=false
 step:=hcS dl P T
 ask:=λst i r=>if r then st else(bj st i 0 1).1
 leave:=λst i=>(bj st i 10 11).1
 bt:=λb=>b.bt
 hi:=λb=>b.hi
 fp:=λb=>[b.a,b.g,b.q,b.u]
 is:=λb w a g lb st=>bv w b.l a g b.q b.b b.u b.lo b.h1 dl P T st/\(b.a=a/\b.g=g)/\jt w lb T.length 8 (hcV b.l) [b.a,b.g,b.q,b.u] b.bt b.hi/\(b.bt<=b.l/\b.l<b.hi)/\b.bt<=b.lo/\b.h1<=b.hi
def qv(st:Hc)(i:Nat)(hi:i<st.S.length)(u v:Int):(bj st i u v).1=(if (sv st.S i).pc=u then⟨st.ar,st.D,st.S.set i {sv st.S i with pc:=v}⟩else st)/\(bj st i u v).2=decide ((sv st.S i).pc=u):=by unfold bj;rw[gh hi,Int.toNat_natCast];exact aba
def sy(st:Hc)(i:Nat)(hi:i<st.S.length):(eX nd n dl node st i).2=dg (sv st.S i) (sv (eX nd n dl node st i).1.S i):=by
 unfold eX;rw[gh hi,Int.toNat_natCast];unfold dg;split
 .rename_i h;have hg:=h.2;unfold im at hg;simp only[Bool.or_eq_true,beq_iff_eq]at hg;simp only[fZ hi,if_true];by_cases c:(bm nd n dl st (node i) i (sv st.S i)).2.2.pc=10\/(bm nd n dl st (node i) i (sv st.S i)).2.2.pc=0;.exact aaA
  .exact aaB
 .exact abb
theorem yN(nd n:Nat)(dl:Int)(h:Hc)(I i:Nat)(p:Sp)(H:im p=true):kP (bm nd n dl h I i p).2.2:=by
 unfold im at H;simp only[Bool.or_eq_true,beq_iff_eq]at H;unfold bm kP;repeat' split
 all_goals (simp only;grind)
def m7.le{st:Hc}(h:m7 dl P T st N):m7 dl P T st (N+1):=⟨h.1.imp λ_ k=>k.le ahE,h.2⟩
def bv.far{l a g q b u lo hi:Nat}{h:Hc}{S:List Nat}(k:bv w l a g q b u lo hi dl P T h)(t:aa S w w')(H:∀x∈[l,a,g,q,u],x∉S)(hh:∀x∈S,x<lo\/hi<=x):bv w' l a g q b u lo hi dl P T h:=by simp only[List.mem_cons,List.not_mem_nil,or_false,forall_eq_or_imp,forall_eq]at H;obtain⟨h1,I,O,V,Y⟩:=H;exact⟨k.ar.turns t I O,t.blk k.lk h1,k.sp.turns t V,k.tu.turns t Y,k.tab.keep (λi Yb LG=>t.block i (by have:=k.hs;omega) λhm=>by have:=hh i hm;omega) (Nat.le_trans k.hs t.size),k.sl,Nat.le_trans k.hs t.size,k.nd,k.o⟩
def yn(hc:a8 P T=0)(hd:0<=dl/\dl<=1000):(Dx dl P T).Good where
 n32:=by have:=bi (aQ hc).1;exact⟨this.2.2.1,this.2.2.2⟩
 okS:=fun(st:Hc) N i h hN hi=>by
  obtain⟨⟨G,k⟩,hp⟩:=h
  obtain⟨G',k',JP⟩:=k.stepI hN (i:Int)
  refine⟨⟨G',k'⟩,λj=>?_⟩
  show kP (sv (eX _ _ _ _ st i).1.S j)
  have hl:i<st.S.length:=by rw[k.iv.sl];exact hi
  unfold eX
  rw[gh hl,Int.toNat_natCast]
  split
  .rename_i e
   show kP (sv (st.S.set i _) j)
   rw[fZ hl]
   split
   .exact yN _ _ _ _ _ _ _ e.2
   .exact hp j
  .exact hp j
 okA:=fun(st:Hc) N i r h hN hi=>by
  cases r
  .obtain⟨⟨G,k⟩,hp⟩:=h
   have hl:i<st.S.length:=by rw[k.iv.sl];exact hi
   refine⟨⟨G,(k.beginI (i:Int) 0 1 (.inl ⟨rfl,rfl⟩)).1.le ahE⟩,λj=>?_⟩
   show kP (sv (bj st i 0 1).1.S j)
   rw[(qv st i hl 0 1).1]
   exact abc
  .exact m7.le h
 okL:=fun(st:Hc) N i h hN hi=>by
  obtain⟨⟨G,k⟩,hp⟩:=h
  have hl:i<st.S.length:=by rw[k.iv.sl];exact hi
  refine⟨⟨G,(k.beginI (i:Int) 10 11 (.inr ⟨rfl,rfl⟩)).1.le ahE⟩,λj=>?_⟩
  show kP (sv (bj st i 10 11).1.S j)
  rw[(qv st i hl 10 11).1]
  exact abc
 okm:=fun(st:Hc) N h=>m7.le h
 one:=fun(st:Hc) N i j h hi hj h1 h2 _=>by obtain⟨⟨G,k⟩,_⟩:=h;exact k.hold1 hi hj h1 h2
 pcs:=fun(st:Hc) N i h hi=>by have:=h.2 i;unfold kP at this;show 0<=(sv st.S i).pc;omega
 cnt:=fun(st:Hc) N i h hi=>by
  exact aaC
 opsS:=fun(st:Hc) N i h hN hi=>by
  obtain⟨⟨G,k⟩,_⟩:=h
  obtain⟨G',_,_,h3,_⟩:=k.act hN 0 (i:Int)
  exact h3
 arA:=fun(st:Hc) i r=>by
  cases r
  .show(bj st i 0 1).1.ar=st.ar
   unfold bj;split<;>rfl
  .rfl
 arL:=fun(st:Hc) i=>by
  show(bj st i 10 11).1.ar=st.ar
  unfold bj;split<;>rfl
 ais:=fun(b:HcB) w a g lb (st:Hc) h=>h.1.ar
 lk:=fun(b:HcB) w a g lb (st:Hc) h=>h.2.2.1.c1
 kd:=fun(b:HcB) w a g lb (st:Hc) h=>⟨8,h.2.2.1.blk.cell 0,rfl⟩
 fpa:=fun(b:HcB) w a g lb (st:Hc) h=>⟨λx H=>(h.2.2.1.fl x H).2,h.2.2.1.hw⟩
 far:=fun(b:HcB) w a g lb (st:Hc) w' S h t hS=>by
  obtain⟨k,⟨rfl,rfl⟩,hd,hl,hh⟩:=h
  have Y:∀x∈S,b.hi<=x\/x<b.bt:=hS
  have hf:=hd.fl
  refine⟨k.far t (λx H m=>?_) (λx H=>by have:=Y x H;omega),⟨rfl,rfl⟩,hd.far t Y,hl,hh⟩
  have:=Y x m
  rcases List.mem_cons.1 H with rfl|H
  .omega
  .have:=hf x H;omega
 cS:=fun(b:HcB) w a g lb (st:Hc) N i h hk hN hi=>by
  obtain⟨k,⟨rfl,rfl⟩,MN,hl,hh⟩:=h
  obtain⟨⟨G,ko⟩,_⟩:=hk
  refine(nQ .hc MN.c1 MN.c2 hi (R:=λr w'=>r=dg (sv st.S i) (sv (hcS dl P T st i).S i)/\bv w' b.l b.a b.g b.q b.b b.u b.lo b.h1 dl P T (hcS dl P T st i)/\aa [b.a,b.g,b.q,b.u] w w') λW bw=>?_).mono ?_
  .refine(FY (k.below bw) (i:Int) (ko.cond hN hd.2)).mono ?_
   rintro e w' ⟨rfl,I,t2⟩
   exact⟨_,rfl,sy st i (by rw[k.sl];exact hi),I,(aa.of_below bw).trans t2⟩
  .exact abd
 cA:=fun(b:HcB) w a g lb (st:Hc) N i r h hk hN hi=>by
  obtain⟨k,⟨rfl,rfl⟩,MN,hl,hh⟩:=h
  have O:i<st.S.length:=by rw[k.sl];exact hi
  refine(x9 .hc MN.c1 MN.c2 hi r (R:=λq w'=>q=decide ((sv st.S i).pc=0/\(r=true->(false:Bool)=true))/\bv w' b.l b.a b.g b.q b.b b.u b.lo b.h1 dl P T (if r then st else(bj st i 0 1).1)/\aa [b.a,b.g,b.q,b.u] w w') (λV W bw=>?_) (λV W bw=>?_)).mono ?_
  .subst V
   refine(Gg (k.below bw) (i:Int)).mono ?_
   rintro e w' ⟨rfl,I,t2⟩
   exact⟨_,rfl,by rw[(qv st i O 0 1).2];simp,I,(aa.of_below bw).trans t2⟩
  .exact aaE
  .exact abd
 cL:=fun(b:HcB) w a g lb (st:Hc) N i h hk hN hi=>by
  obtain⟨k,⟨rfl,rfl⟩,MN,hl,hh⟩:=h
  have O:i<st.S.length:=by rw[k.sl];exact hi
  refine(kA .hc MN.c1 MN.c2 hi (R:=λq w'=>q=decide ((sv st.S i).pc=10)/\bv w' b.l b.a b.g b.q b.b b.u b.lo b.h1 dl P T (bj st i 10 11).1/\aa [b.a,b.g,b.q,b.u] w w') λW bw=>?_).mono ?_
  .refine(Ds (k.below bw) (i:Int)).mono ?_
   rintro e w' ⟨rfl,I,t2⟩
   exact⟨_,rfl,(qv st i O 10 11).2,I,(aa.of_below bw).trans t2⟩
  .exact abd
 cP:=fun(b:HcB) w a g lb (st:Hc) i h hi=>nO .hc h.2.2.1.c1 h.2.2.1.c2 hi _ λW bw=>by
  exact abe
 cC:=fun(b:HcB) w a g lb (st:Hc) i h hi=>nM .hc h.2.2.1.c1 h.2.2.1.c2 hi _ λW bw=>by
  exact abe
end
section
open Go
section
variable{node:Nat->Int}{s:Cn}{p:Sp}
def Jg(e:p.pc=1):ah n node bud s i p=(ae s.ar (cN (num i)) 0,s.wk,{p with pc:=2}):=by simp[ah,inC,e,num]
def Jh(e:p.pc=2):ah n node bud s i p=(ae s.ar (cS (num i)) 0,s.wk,{p with pc:=3}):=by simp[ah,inC,e,num]
def Ji(e:p.pc=3):ah n node bud s i p=(ch s.ar 1 (num i),s.wk,{p with a:=ldW s.ar.W 1,pc:=if ldW s.ar.W 1=0 then 6 else 4}):=by simp[ah,inC,e,num]
def Jj(e:p.pc=4):ah n node bud s i p=(ae s.ar (cN p.a) (num i),s.wk,{p with pc:=5}):=by simp[ah,inC,e,num]
def Jk(e:p.pc=5):ah n node bud s i p=(af s.ar (cS (num i)),s.wk,{p with a:=ldW s.ar.W (cS (num i)),pc:=if ldW s.ar.W (cS (num i))≠0 then 10 else 5}):=by simp[ah,inC,e,num];by_cases hc:ldW s.ar.W (cS ((i:Int)+1))=0<;>simp[hc]
def Jl(e:p.pc=6):ah n node bud s i p=(ae s.ar (cS (num i)) (-1),s.wk,{p with pc:=10}):=by simp[ah,inC,e,num]
end
end
section
open Go
section
variable{node:Nat->Int}{s:Cn}{A' R':List Nat}{p:Sp}
def Ip(e:p.pc=11):ah n node bud s i p=(af s.ar (cS (num i)),s.wk,{p with b:=ldW s.ar.W (cS (num i)),pc:=12}):=by simp[ah,jA,e,num]
def Iq(e:p.pc=12):ah n node bud s i p=(af s.ar (cN (num i)),s.wk,{p with a:=ldW s.ar.W (cN (num i)),pc:=if ldW s.ar.W (cN (num i))≠0 then 17 else if 0<p.b then 14 else 13}):=by by_cases hc:ldW s.ar.W (cN ((i:Int)+1))=0<;>simp[ah,jA,e,num,hc]
def Ir(e:p.pc=13):ah n node bud s i p=(dR s.ar 1 (num i) 0,s.wk,{p with pc:=if cG s.ar 1 (num i)then 0 else 16}):=by cases hc:cG s.ar 1 ((i:Int)+1)<;>simp[ah,jA,e,num,hc]
def Is(e:p.pc=14):ah n node bud s i p=(af s.ar (cL p.b),s.wk,{p with c:=ldW s.ar.W (cL p.b),pc:=15}):=by simp[ah,jA,e]
def It(e:p.pc=15):ah n node bud s i p=(dR s.ar 1 (num i) p.c,s.wk,{p with pc:=if cG s.ar 1 (num i)then 28 else 16}):=by cases hc:cG s.ar 1 ((i:Int)+1)<;>simp[ah,jA,e,num,hc]
def Iu(e:p.pc=16):ah n node bud s i p=(af s.ar (cN (num i)),s.wk,{p with a:=ldW s.ar.W (cN (num i)),pc:=if ldW s.ar.W (cN (num i))≠0 then 17 else 16}):=by by_cases hc:ldW s.ar.W (cN ((i:Int)+1))=0<;>simp[ah,jA,e,num,hc]
def Iv(e:p.pc=17):ah n node bud s i p=if bud<=ldW s.ar.W 2 then(af s.ar 2,s.wk,ez {p with c:=ldW s.ar.W 2})else(af s.ar 2,gK n node s.wk p.a (node i),{p with c:=ldW s.ar.W 2,pc:=if (gK n node s.wk p.a (node i)).way then 18 else 23}):=by simp[ah,me,e]
def Iw(e:p.pc=18)(hw:s.wk.way=true):ah n node bud s i p=(af s.ar (cN s.wk.last),dM n node s.wk (ldW s.ar.W (cN s.wk.last)),
        if (dM n node s.wk (ldW s.ar.W (cN s.wk.last))).way then {p with pc:=18} else if (dM n node s.wk (ldW s.ar.W (cN s.wk.last))).found≠0 then {p with pc:=19} else ez p):=by simp[ah,me,e,hw]
def EA(e:p.pc=19):ah n node bud s i p=(ae s.ar (cN s.wk.last) 0,s.wk,if 0<p.b then {p with pc:=20} else {p with b:=p.a,pc:=22}):=by simp[ah,dU,e]
def Ix(e:p.pc=20):ah n node bud s i p=(af s.ar (cL p.b),s.wk,{p with c:=ldW s.ar.W (cL p.b),pc:=21}):=by simp[ah,dU,e]
def Iy(e:p.pc=21):ah n node bud s i p=(ae s.ar (cN p.c) p.a,s.wk,{p with pc:=22}):=by simp[ah,dU,e]
def Iz(e:p.pc=22):ah n node bud s i p=(ae s.ar (cL p.b) s.wk.last,s.wk,{p with a:=s.wk.found,pc:=23}):=by simp[ah,dU,e]
def IA(e:p.pc=23):ah n node bud s i p=(addA s.ar 2 1,s.wk,{p with pc:=24}):=by simp[ah,dU,e]
def IB(e:p.pc=24):ah n node bud s i p=(ae s.ar (cS p.a) p.b,s.wk,{p with pc:=0}):=by simp[ah,dU,e]
def IC(e:p.pc=25):ah n node bud s i p=(af s.ar (cL p.b),s.wk,{p with c:=ldW s.ar.W (cL p.b),pc:=26}):=by simp[ah,dU,e]
def ID(e:p.pc=26):ah n node bud s i p=(ae s.ar (cN p.c) p.a,s.wk,{p with pc:=27}):=by simp[ah,dU,e]
def IE(e:p.pc=27):ah n node bud s i p=(ae s.ar 2 0,s.wk,{p with pc:=28}):=by simp[ah,dU,e]
def IF(e:p.pc=28):ah n node bud s i p=(ae s.ar (cS p.b) (-1),s.wk,{p with pc:=0}):=by simp[ah,dU,e]
def IG(e:p.pc=29):ah n node bud s i p=(ae s.ar 2 0,s.wk,{p with pc:=30}):=by simp[ah,dU,e]
def IH(e:p.pc=30):ah n node bud s i p=(ae s.ar (cS p.a) (-1),s.wk,{p with pc:=0}):=by simp[ah,dU,e]
end
end
section
open Go.RowKit
variable{ar':Ar}{KJ:Wk}
structure Cx where
 l:Nat
 a:Nat
 g:Nat
 q:Nat
 k:Nat
 n1:Nat
 nb:Nat
 b0:Nat
 b1:Nat
 b2:Nat
def GV(c:Cx)(cap:Nat)(bud:Int)(n:Nat):Array Value:=#[↑c.a,J 1,J bud,slice (some ⟨c.nb,0,none⟩) n cap,↑c.k,slice (some ⟨c.q,0,none⟩) n n]
def ui(c:Cx):Value:= .func (.func 172) #[] #[↑c.b0,↑c.b1,↑c.b2]
structure an(w:World)(c:Cx)(cap:Nat)(bud:Int)(nd:List Int)(h:Cn):Prop where
 ar:aB w c.a c.g h.ar
 lk:Blk w c.l 263 (GV c cap bud nd.length)
 sp:dy w c.q h.S
 wk:cK w c.k c.n1 (ui c) nd h.wk
 row:∀m,m<nd.length->w.cell? ⟨c.nb,m,none⟩=some (int i64 (ndf nd m))
 p0:Blk w c.b0 29 #[↑c.a]
 p1:Blk w c.b1 3 #[int i64 3]
 p2:Blk w c.b2 3 #[int i64 3]
 sl:h.S.length=nd.length
 n32:1<=nd.length/\nd.length<=32
 nd4:[c.a,c.g,c.q,c.k].Nodup
 st:∀x∈[c.l,c.n1,c.nb,c.b0,c.b1,c.b2],x∉[c.a,c.g,c.q,c.k]
section
variable{c:Cx}{nd:List Int}{h:Cn}
def an.next(k:an w c cap bud nd h){H:List Sp}(t:aa [c.a,c.g,c.q,c.k] w w')(h1:aB w' c.a c.g ar')(I:dy w' c.q H)(O:cK w' c.k c.n1 (ui c) nd KJ)(V:H.length=nd.length):an w' c cap bud nd ⟨ar',KJ,H⟩:=by refine⟨h1,t.blk k.lk (k.st _ ahF),I,O,λm hm=>?_,t.blk k.p0 (k.st _ ahF),t.blk k.p1 (k.st _ ahF),t.blk k.p2 (k.st _ ahF),V,k.n32,k.nd4,k.st⟩;rw[t.cellC (aT (k.row m hm)) (k.st _ ahF)];exact k.row m hm
def an.below(k:an w c cap bud nd h)(t:Below w.heap.size w w'):an w' c cap bud nd h:=by have t0:=aa.of_below (S:=[]) t;exact k.next (t0.mono ahF) (k.ar.turns t0 ahF ahF) (k.sp.turns t0 ahF) (k.wk.below t) k.sl
def an.n1k(k:an w c cap bud nd h):c.n1∉[c.a,c.g,c.q,c.k]:=k.st _ ahF
def an.op(k:an w c cap bud nd h)(t:aa [c.a,c.g] w w')(h1:aB w' c.a c.g ar'):an w' c cap bud nd ⟨ar',h.wk,h.S⟩:=by have H:=k.nd4;have I:=k.n1k;simp at H I;exact k.next (t.mono ahF) h1 (k.sp.turns t ahJ) (k.wk.turns t ahJ ahJ) k.sl
def an.spot(k:an w c cap bud nd h){H:List Sp}(hs:dy w' c.q H)(V:H.length=nd.length)(t:aa [c.q] w w'):an w' c cap bud nd ⟨h.ar,h.wk,H⟩:=by have I:=k.nd4;have O:=k.n1k;simp at I O;exact k.next (t.mono ahF) (k.ar.turns t ahJ ahJ) hs (k.wk.turns t ahJ ahJ) V
def an.walk(k:an w c cap bud nd h)(I:cK w' c.k c.n1 (ui c) nd KJ)(t:aa [c.k] w w'):an w' c cap bud nd ⟨h.ar,KJ,h.S⟩:=by have H:=k.nd4;simp at H;exact k.next (t.mono ahF) (k.ar.turns t ahJ ahJ) (k.sp.turns t ahJ) I k.sl
def an.putS(k:an w c cap bud nd h){p p':Sp}(O:h.S[i]? =some p){v:Value}(I:j<4)(H:(bf p).set j v=bf p'):an (w.setCell ⟨c.q,i*4+j,none⟩ v) c cap bud nd ⟨h.ar,h.wk,h.S.set i p'⟩:=
 k.spot (k.sp.put O I H) (by simp[k.sl]) ((aa.refl _ _).setCell (.inl ahF) _)
def dq{c:Cx}(p:Addr)(v:Value)(H:p.block=c.q):aa [c.a,c.g,c.q,c.k] w (w.setCell p v):=(aa.refl _ _).setCell (.inl (by simp[H])) _
def an.l0(k:an w c cap bud nd h):w.cell? c.l=some ↑c.a:=k.lk.cell 0
def an.l1(k:an w c cap bud nd h):Z w c.l 1 (J 1):=k.lk.cell 1
def an.l2(k:an w c cap bud nd h):Z w c.l 2 (J bud):=k.lk.cell 2
def an.l3(k:an w c cap bud nd h):Z w c.l 3 (slice (some ⟨c.nb,0,none⟩) nd.length cap):=k.lk.cell 3
def an.l4(k:an w c cap bud nd h):Z w c.l 4 ↑c.k:=k.lk.cell 4
def an.l5(k:an w c cap bud nd h):Z w c.l 5 (slice (some ⟨c.q,0,none⟩) nd.length nd.length):=k.lk.cell 5
def jT(k:an w c cap bud nd h):E 313 #[↑c.l] w λe w'=>e= returned (J nd.length)/\w=w':=by have c5:=k.l5;clear k;go_enter func313,ntmps313;exact aaa
def tL(k:an w c cap bud nd h)(i:Int):E 311 #[↑c.l,J i] w λe w'=>e= returned (aF (getS h.S i))/\Below w.heap.size w w':=by
  obtain⟨_,HN⟩:=k.n32;have O:=k.sl;by_cases I:okI h.S i;. have hp:=dG I;obtain⟨p,Y⟩:=LE (getS h.S i);rw[<-Y]at hp ⊢;have c2:=k.l5;refine aj5 ?_;intro a0 a1 a2 a3;obtain⟨V,h1⟩:=I;rw[O]at h1;obtain⟨n,rfl⟩:=Int.eq_ofNat_of_zero_le V;simp only[Int.toNat_natCast]at a0 a1 a2 a3;have Ju:=k.lk.lt;have Jx:=k.sp.lt;have t2:¬(n:Int)<0:=(by omega);have t3:¬((nd.length:Nat):Int)<=(n:Int):=(by omega);have t4:n<nd.length:=(by omega);have H:Kq (an (w.alloc (cells #[J 0,J 0,J 0,J 0] 113)) c cap bud nd h):=qh (k.below ((Below.refl _ _).alloc (Nat.le_refl _) _));clear k hp Y V h1 O;go_enter func311,ntmps311;go_wp2_with (go_at_call 313;refine(jT H.o).mono ?_;rintro e w' ⟨rfl,rfl⟩);exact bodyPost_ret (results_cell_row ahI _ _ w.heap.size 113 _ (0,0) _ ahI (heap_alloc_new w _) Tryz.underlying113 rfl ahH) rfl ⟨rfl,(Below.refl _ _).alloc (Nat.le_refl _) _⟩
  . have H:Kq (an (w.alloc (cells #[J 0,J 0,J 0,J 0] 113)) c cap bud nd h):=qh (k.below ((Below.refl _ _).alloc (Nat.le_refl _) _));rw[dz I];unfold okI at I;rw[O]at I;clear k O;by_cases V:i<0;. go_enter func311,ntmps311;go_wp2;exact bodyPost_ret (results_cell_row ahI _ _ w.heap.size 113 _ (0,0) _ ahI (heap_alloc_new w _) Tryz.underlying113 rfl ahH) rfl ⟨rfl,(Below.refl _ _).alloc (Nat.le_refl _) _⟩
    . have t3:((nd.length:Nat):Int)<=i:=(by omega);clear I;go_enter func311,ntmps311;go_wp2_with (go_at_call 313;refine(jT H.o).mono ?_;rintro e w' ⟨rfl,rfl⟩);exact bodyPost_ret (results_cell_row ahI _ _ w.heap.size 113 _ (0,0) _ ahI (heap_alloc_new w _) Tryz.underlying113 rfl ahH) rfl ⟨rfl,(Below.refl _ _).alloc (Nat.le_refl _) _⟩
def COp(w:World)(c:Cx)(cap:Nat)(bud:Int)(nd:List Int)(x:Cn×Bool)(e:Ending)(w':World):Prop:=e= returned (.bool x.2)/\an w' c cap bud nd x.1/\aa [c.a,c.g,c.q,c.k] w w'
def vX(k:an w c cap bud nd h)(i O V:Int):E 314 #[↑c.l,J i,J O,J V] w (COp w c cap bud nd (bN h i O V)):=by
  have H:=qh k;obtain⟨_,J4⟩:=k.n32;have Jy:=k.sl;by_cases hi:okI h.S i
  . have Y:=dG hi;obtain⟨p,i'⟩:=LE (getS h.S i);rw[<-i']at Y;have c2:=k.l5;have a0:=ST (k.sp.cell Y 0 _ rfl);have f0:=k.sp.free (i.toNat*4);obtain⟨h0,h1⟩:=id hi;rw[Jy]at h1;obtain⟨n,rfl⟩:=Int.eq_ofNat_of_zero_le h0;simp only[Int.toNat_natCast]at a0 f0 Y;have t2:¬(n:Int)<0:=(by omega);have t3:¬((nd.length:Nat):Int)<=(n:Int):=(by omega);have t4:n<nd.length:=(by omega);have HP:=qh (And.intro hi (And.intro i' Y));clear k Y i' h0 h1 hi Jy;cases hc:(p.pc !=O)
    . have I:Kq (bN h n O V=(⟨h.ar,h.wk,h.S.set n {p with pc:=V}⟩,true)):=qh (by
        unfold bN;have e:p.pc=O:=by simpa using hc
        rw[<-HP.o.2.1,if_pos ⟨HP.o.1,e⟩];simp)
      go_enter func314,ntmps314;go_wp2_with (go_at_call 313;refine(jT H.o).mono ?_;rintro e w' ⟨rfl,rfl⟩);go_ret;rw[I.o];have ht:aa [c.q] w (w.setCell ⟨c.q,n*4,none⟩ (J V)):=(aa.refl _ _).setCell (.inl ahF) _;exact⟨rfl,H.o.spot (H.o.sp.put HP.o.2.2 (j:=0) ahG rfl) (by simp[H.o.sl]) ht,ht.mono ahF⟩
    . have I:Kq (bN h n O V=(h,false)):=qh (by
        unfold bN;have e:¬p.pc=O:=by simpa using hc
        rw[<-HP.o.2.1,if_neg (λh=>e h.2)])
      go_enter func314,ntmps314;go_wp2_with (go_at_call 313;refine(jT H.o).mono ?_;rintro e w' ⟨rfl,rfl⟩);go_ret;rw[I.o];exact⟨rfl,H.o,aa.refl _ _⟩
  . have I:Kq (bN h i O V=(h,false)):=qh (by
      unfold bN
      rw[if_neg (λh=>hi h.1)])
    unfold okI at hi;rw[Jy]at hi;clear k Jy;by_cases h0:i<0;. go_enter func314,ntmps314;go_wp2;go_ret;rw[I.o];exact⟨rfl,H.o,aa.refl _ _⟩
    . have t3:((nd.length:Nat):Int)<=i:=(by omega);clear hi;go_enter func314,ntmps314;go_wp2_with (go_at_call 313;refine(jT H.o).mono ?_;rintro e w' ⟨rfl,rfl⟩);go_ret;rw[I.o];exact⟨rfl,H.o,aa.refl _ _⟩
def Gf(k:an w c cap bud nd h)(i:Int):E 309 #[↑c.l,J i] w (COp w c cap bud nd (bN h i 0 1)):=by obtain⟨x,I⟩:=LE (bN h i 0 1);have H:=qh (vX k i 0 1);rw[<-I]at H ⊢;obtain⟨O,V⟩:=x;clear k I;go_enter func309,ntmps309;go_wp2_with fail;refine Op H.o λw1 H1=>?_;go_wp2;go_ret;exact⟨rfl,H1.o⟩
def Dq(k:an w c cap bud nd h)(i:Int):E 310 #[↑c.l,J i] w (COp w c cap bud nd (bN h i 10 11)):=by obtain⟨x,I⟩:=LE (bN h i 10 11);have H:=qh (vX k i 10 11);rw[<-I]at H ⊢;obtain⟨O,V⟩:=x;clear k I;go_enter func310,ntmps310;go_wp2_with fail;refine Op H.o λw1 H1=>?_;go_wp2;go_ret;exact⟨rfl,H1.o⟩
def my(k:an w c cap bud nd h)(x:Int)(H:-5<=x/\x<=100000):E 146 #[↑c.l,J x] w λe w'=>e= returned (J (cN x))/\w=w':=by
 have c1:=k.l1;obtain⟨I,h1⟩:=H;refine ajW ?_;intro x1 x2;have O:IntKind.i64.wrap (1+3*x-1)=3*x:=by rw[show 1+3*x-1=3*x by omega];exact x1
 clear k;unfold cN;go_enter func146,ntmps146;exact aag
def oM(k:an w c cap bud nd h)(x:Int)(H:-5<=x/\x<=100000):E 319 #[↑c.l,J x] w λe w'=>e= returned (J (cS x))/\w=w':=by have c1:=k.l1;obtain⟨I,h1⟩:=H;refine ajW ?_;intro x1 x2;clear k;unfold cS;go_enter func319,ntmps319;exact aag
def wI(k:an w c cap bud nd h)(x:Int)(H:-5<=x/\x<=100000):E 321 #[↑c.l,J x] w λe w'=>e= returned (J (cL x))/\w=w':=by have c1:=k.l1;obtain⟨I,h1⟩:=H;refine ajW ?_;intro x1 x2;have O:IntKind.i64.wrap (1+3*x+1)=1+3*x+1:=IntWalk.i64_in _ ahE;clear k;unfold cL;go_enter func321,ntmps321;exact aag
def qC(k:an w c cap bud nd h):E 322 #[↑c.l] w λe w'=>e= returned (J 2)/\w=w':=by have c1:=k.l1;clear k;go_enter func322,ntmps322;exact aaa
def p4(w:World)(b:Bool)(x y v:Int)(O:v=if b then x else y):E 320 #[.bool b,J x,J y] w λe w'=>e= returned (J v)/\w=w':=by
 cases b;.exact abh
 .exact abh
def CH(k:an w c cap bud nd h)(y:Int)(hy:-5<=y/\y<=100000)(Y:h.ar.ops+1<=1000000000000):E 172 #[J y,↑c.b0,↑c.b1,↑c.b2] w (fg w c.a c.g (af h.ar (cN y)) (J (ldW h.ar.W (cN y)))):=by
 have d0:w.cell? c.b0=_:=k.p0.cell 0;have d1:w.cell? c.b1=_:=k.p1.cell 0;have V:w.cell? c.b2=_:=k.p2.cell 0;simp at d0 d1 V;obtain⟨h0,h1⟩:=hy;have x0:IntKind.i64.wrap (y-1)=y-1:=IntWalk.i64_in _ ahE;have x1:IntKind.i64.wrap (3*(y-1))=3*(y-1):=IntWalk.i64_in _ ahE;have x2:IntKind.i64.wrap (3+3*(y-1))=cN y:=by unfold cN;rw[show 3+3*(y-1)=3*y by omega];exact IntWalk.i64_in _ ahE
 have H:=qh (aD k.ar (cN y) Y);obtain⟨v,O⟩:=LE (ldW h.ar.W (cN y));rw[<-O]at H ⊢;obtain⟨z,I⟩:=LE (cN y);rw[<-I]at H ⊢ x2;clear k O I;go_enter func172,ntmps172;go_wp2_with fail;refine Op H.o λw1 H1=>?_;go_wp2;go_ret;exact⟨rfl,H1.o⟩
end
end
section
open Go.RowKit
variable{p:Sp}{Q:Prop}
section
variable{c:Cx}{nd:List Int}{h:Cn}
def eJ(w:World)(c:Cx)(cap:Nat)(bud:Int)(nd:List Int)(h:Cn)(i:Nat)(p:Sp)(x:Ar×Wk×Sp)(e:Ending)(w':World):Prop:=
 e= returned (J x.2.2.pc)/\an w' c cap bud nd ⟨x.1,x.2.1,h.S.set i {x.2.2 with pc:=p.pc}⟩/\aa [c.a,c.g,c.q,c.k] w w'
def yK{S:List Sp}(hp:S[i]? =some p):S.set i p=S:=by exact aai
def an.samS{H:Ar}{I:Wk}(k:an w c cap bud nd ⟨H,I,h.S⟩)(O:h.S[i]? =some p):an w c cap bud nd ⟨H,I,h.S.set i p⟩:=by rw[yK O];exact k
def an.cs(k:an w c cap bud nd h)(H:h.S[i]? =some p):w.cell? c.l=some ↑c.a/\Z w c.l 1 (J 1)/\Z w c.l 4 ↑c.k/\Z w c.q (i*4+1) (J p.a)/\Z w c.q (i*4+2) (J p.b)/\Z w c.q (i*4+3) (J p.c):=⟨k.l0,k.l1,k.l4,k.sp.cell H 1 _ rfl,k.sp.cell H 2 _ rfl,k.sp.cell H 3 _ rfl⟩
def cyN(h_:Q:=by
    obtain⟨_,hn⟩:=k.n32
    have e0:=ST (k.sp.cell hp 0 _ rfl)
    have HP:=qh hp
    have HL:=qh (show i<h.S.length by rw[k.sl];exact hin)
    have K1:=qh (k.below ((Below.refl _ w).drew))
    clear k hp
    first
      | go_enter func315,ntmps315
      | go_enter func316,ntmps316
      | go_enter func318,ntmps318
    go_wp2_with fail
    go_region_held3 (λW=>W.cell? c.l=some ↑c.a/\Z W c.l 1 (J 1)/\Z W c.l 4 ↑c.k/\Z W c.q (i*4+1) (J a)/\Z W c.q (i*4+2) (J b)/\Z W c.q (i*4+3) (J z))
      (first|(have q:=K1.o.cs HP.o;exact⟨q.1,q.2.1,q.2.2.1,q.2.2.2.1,q.2.2.2.2.1,q.2.2.2.2.2⟩)|(have q:=K2.o.cs HP.o;exact⟨q.1,q.2.1,q.2.2.1,q.2.2.2.1,q.2.2.2.2.1,q.2.2.2.2.2⟩))
      (first
        | (go_at_call 146;go_loud (refine LT (HF.o _ K1.o) ?_))
        | (go_at_call 319;go_loud (refine LT (HF.o _ K1.o) ?_))
        | (go_at_call 321;go_loud (refine LT (HF.o _ K1.o) ?_))
        | (go_at_call 322;go_loud (refine LT (HF.o _ K1.o) ?_))
        | (go_at_call 177;go_loud (refine Op (HO.o _ K1.o) λw3 a3=>?_);have K2:=qh (K1.o.op a3.o.2 a3.o.1);have T2:=qh (((aa.refl [c.a,c.g,c.q,c.k] w).drew).trans (a3.o.2.mono (T:=[c.a,c.g,c.q,c.k]) ahF)))
        | (go_at_call 298;go_loud (refine Op (HO.o _ K1.o) λw3 a3=>?_);have K2:=qh (K1.o.op a3.o.2 a3.o.1);have T2:=qh (((aa.refl [c.a,c.g,c.q,c.k] w).drew).trans (a3.o.2.mono (T:=[c.a,c.g,c.q,c.k]) ahF))))
    all_goals
      have e3:=by simpa using K2.o.sp.cell HP.o 0 _ rfl
      go_wp2
      go_ret
      rw[HX.o]
      exact⟨rfl,K2.o.samS HP.o,T2.o⟩):Q:=h_
def cwB(h_:Q:=by
    obtain⟨_,hn⟩:=k.n32
    have e0:=ST (k.sp.cell hp 0 _ rfl)
    have HP:=qh hp
    have HL:=qh (show i<h.S.length by rw[k.sl];exact hin)
    have PA:=qh (HPN HL.o)
    have K1:=qh (k.below ((Below.refl _ w).drew))
    clear k hp
    first
      | go_enter func315,ntmps315
      | go_enter func316,ntmps316
      | go_enter func318,ntmps318
    go_wp2_with fail
    go_region_held3 (λW=>W.cell? c.l=some ↑c.a/\Z W c.l 1 (J 1)/\Z W c.l 4 ↑c.k/\Z W c.q (i*4+1) (J a)/\Z W c.q (i*4+3) (J z))
      (first|(have q:=K1.o.cs HP.o;exact⟨q.1,q.2.1,q.2.2.1,q.2.2.2.1,q.2.2.2.2.2⟩)|(have q:=K2.o.cs HP.o;exact⟨q.1,q.2.1,q.2.2.1,q.2.2.2.1,q.2.2.2.2.2⟩)|(have q:=K3.o.cs PA.o;exact⟨q.1,q.2.1,q.2.2.1,q.2.2.2.1,q.2.2.2.2.2⟩))
      (first
        | (go_at_call 146;go_loud (refine LT (HF.o _ K1.o) ?_))
        | (go_at_call 319;go_loud (refine LT (HF.o _ K1.o) ?_))
        | (go_at_call 321;go_loud (refine LT (HF.o _ K1.o) ?_))
        | (go_at_call 322;go_loud (refine LT (HF.o _ K1.o) ?_))
        | (go_at_call 173;go_loud (refine Op (HO.o _ K1.o) λw3 a3=>?_);have K2:=qh (K1.o.op a3.o.2 a3.o.1);have T2:=qh (((aa.refl [c.a,c.g,c.q,c.k] w).drew).trans (a3.o.2.mono (T:=[c.a,c.g,c.q,c.k]) ahF));have K3:=qh (HJ.o _ _ K2.o);have e1:=K2.o.sp.cell HP.o 2 _ rfl;have z1:=K2.o.sp.free (i*4+2))
        | (go_at_call 271;go_loud (refine Op (HO.o _ K1.o) λw3 a3=>?_);have K2:=qh (K1.o.op a3.o.2 a3.o.1);have T2:=qh (((aa.refl [c.a,c.g,c.q,c.k] w).drew).trans (a3.o.2.mono (T:=[c.a,c.g,c.q,c.k]) ahF));have K3:=qh (HJ.o _ _ K2.o);have e1:=K2.o.sp.cell HP.o 2 _ rfl;have z1:=K2.o.sp.free (i*4+2)))
    all_goals
      have e3:=by simpa using K3.o.sp.cell PA.o 0 _ rfl
      go_wp2
      go_ret
      rw[HX.o]
      exact⟨rfl,K3.o,T2.o.trans (dq ⟨c.q,i*4+2,none⟩ _ rfl)⟩):Q:=h_
def cwZ(h_:Q:=by
    obtain⟨_,hn⟩:=k.n32
    have e0:=ST (k.sp.cell hp 0 _ rfl)
    have HP:=qh hp
    have HL:=qh (show i<h.S.length by rw[k.sl];exact hin)
    have PA:=qh (HPN HL.o)
    have K1:=qh (k.below ((Below.refl _ w).drew))
    clear k hp
    first
      | go_enter func315,ntmps315
      | go_enter func316,ntmps316
      | go_enter func318,ntmps318
    go_wp2_with fail
    go_region_held3 (λW=>W.cell? c.l=some ↑c.a/\Z W c.l 1 (J 1)/\Z W c.l 4 ↑c.k/\Z W c.q (i*4+1) (J a)/\Z W c.q (i*4+2) (J b))
      (first|(have q:=K1.o.cs HP.o;exact⟨q.1,q.2.1,q.2.2.1,q.2.2.2.1,q.2.2.2.2.1⟩)|(have q:=K2.o.cs HP.o;exact⟨q.1,q.2.1,q.2.2.1,q.2.2.2.1,q.2.2.2.2.1⟩)|(have q:=K3.o.cs PA.o;exact⟨q.1,q.2.1,q.2.2.1,q.2.2.2.1,q.2.2.2.2.1⟩))
      (first
        | (go_at_call 146;go_loud (refine LT (HF.o _ K1.o) ?_))
        | (go_at_call 319;go_loud (refine LT (HF.o _ K1.o) ?_))
        | (go_at_call 321;go_loud (refine LT (HF.o _ K1.o) ?_))
        | (go_at_call 322;go_loud (refine LT (HF.o _ K1.o) ?_))
        | (go_at_call 173;go_loud (refine Op (HO.o _ K1.o) λw3 a3=>?_);have K2:=qh (K1.o.op a3.o.2 a3.o.1);have T2:=qh (((aa.refl [c.a,c.g,c.q,c.k] w).drew).trans (a3.o.2.mono (T:=[c.a,c.g,c.q,c.k]) ahF));have K3:=qh (HJ.o _ _ K2.o);have e1:=K2.o.sp.cell HP.o 3 _ rfl;have z1:=K2.o.sp.free (i*4+3))
        | (go_at_call 271;go_loud (refine Op (HO.o _ K1.o) λw3 a3=>?_);have K2:=qh (K1.o.op a3.o.2 a3.o.1);have T2:=qh (((aa.refl [c.a,c.g,c.q,c.k] w).drew).trans (a3.o.2.mono (T:=[c.a,c.g,c.q,c.k]) ahF));have K3:=qh (HJ.o _ _ K2.o);have e1:=K2.o.sp.cell HP.o 3 _ rfl;have z1:=K2.o.sp.free (i*4+3)))
    all_goals
      have e3:=by simpa using K3.o.sp.cell PA.o 0 _ rfl
      go_wp2
      go_ret
      rw[HX.o]
      exact⟨rfl,K3.o,T2.o.trans (dq ⟨c.q,i*4+3,none⟩ _ rfl)⟩):Q:=h_
def Gk(k:an w c cap bud nd h)(i:Nat)(hin:i<nd.length)(a b z:Int)(hp:h.S[i]? =some (⟨1,a,b,z⟩:Sp))(Y:h.ar.ops+1<=1000000000000):E 315 #[↑c.l,pointer (some ⟨c.q,i*4,none⟩),J ((i:Int)+1)] w (eJ w c cap bud nd h i (⟨1,a,b,z⟩:Sp) (ah nd.length (ndf nd) bud h i (⟨1,a,b,z⟩:Sp))):=by have hn:=k.n32.2;have HX:Kq (ah nd.length (ndf nd) bud h i (⟨1,a,b,z⟩:Sp)=(ae h.ar (cN ((i:Int)+1)) 0,h.wk,⟨2,a,b,z⟩)):=qh (by rw[Jg rfl]<;>rfl);have HF:=qh (λW (k:an W c cap bud nd h)=>my k ((i:Int)+1) ahE);have HO:=qh (λW (k:an W c cap bud nd h)=>am k.ar (cN ((i:Int)+1)) 0 Y);exact cyN
def Gl(k:an w c cap bud nd h)(i:Nat)(hin:i<nd.length)(a b z:Int)(hp:h.S[i]? =some (⟨2,a,b,z⟩:Sp))(Y:h.ar.ops+1<=1000000000000):E 315 #[↑c.l,pointer (some ⟨c.q,i*4,none⟩),J ((i:Int)+1)] w (eJ w c cap bud nd h i (⟨2,a,b,z⟩:Sp) (ah nd.length (ndf nd) bud h i (⟨2,a,b,z⟩:Sp))):=by have hn:=k.n32.2;have HX:Kq (ah nd.length (ndf nd) bud h i (⟨2,a,b,z⟩:Sp)=(ae h.ar (cS ((i:Int)+1)) 0,h.wk,⟨3,a,b,z⟩)):=qh (by rw[Jh rfl]<;>rfl);have HF:=qh (λW (k:an W c cap bud nd h)=>oM k ((i:Int)+1) ahE);have HO:=qh (λW (k:an W c cap bud nd h)=>am k.ar (cS ((i:Int)+1)) 0 Y);exact cyN
def Gn(k:an w c cap bud nd h)(i:Nat)(hin:i<nd.length)(a b z:Int)(hp:h.S[i]? =some (⟨4,a,b,z⟩:Sp))(Y:h.ar.ops+1<=1000000000000)(H:-5<=a/\a<=100000):E 315 #[↑c.l,pointer (some ⟨c.q,i*4,none⟩),J ((i:Int)+1)] w (eJ w c cap bud nd h i (⟨4,a,b,z⟩:Sp) (ah nd.length (ndf nd) bud h i (⟨4,a,b,z⟩:Sp))):=by have HX:Kq (ah nd.length (ndf nd) bud h i (⟨4,a,b,z⟩:Sp)=(ae h.ar (cN a) ((i:Int)+1),h.wk,⟨5,a,b,z⟩)):=qh (by rw[Jj rfl]<;>rfl);have HF:=qh (λW (k:an W c cap bud nd h)=>my k a (by exact H));have HO:=qh (λW (k:an W c cap bud nd h)=>am k.ar (cN a) ((i:Int)+1) Y);exact cyN
def Gq(k:an w c cap bud nd h)(i:Nat)(hin:i<nd.length)(a b z:Int)(hp:h.S[i]? =some (⟨6,a,b,z⟩:Sp))(Y:h.ar.ops+1<=1000000000000):E 315 #[↑c.l,pointer (some ⟨c.q,i*4,none⟩),J ((i:Int)+1)] w (eJ w c cap bud nd h i (⟨6,a,b,z⟩:Sp) (ah nd.length (ndf nd) bud h i (⟨6,a,b,z⟩:Sp))):=by have hn:=k.n32.2;have HX:Kq (ah nd.length (ndf nd) bud h i (⟨6,a,b,z⟩:Sp)=(ae h.ar (cS ((i:Int)+1)) (-1),h.wk,⟨10,a,b,z⟩)):=qh (by rw[Jl rfl]<;>rfl);have HF:=qh (λW (k:an W c cap bud nd h)=>oM k ((i:Int)+1) ahE);have HO:=qh (λW (k:an W c cap bud nd h)=>am k.ar (cS ((i:Int)+1)) (-1) Y);exact cyN
def Gm(k:an w c cap bud nd h)(i:Nat)(hin:i<nd.length)(a b z:Int)(hp:h.S[i]? =some (⟨3,a,b,z⟩:Sp))(Y:h.ar.ops+1<=1000000000000):E 315 #[↑c.l,pointer (some ⟨c.q,i*4,none⟩),J ((i:Int)+1)] w (eJ w c cap bud nd h i (⟨3,a,b,z⟩:Sp) (ah nd.length (ndf nd) bud h i (⟨3,a,b,z⟩:Sp))):=by
  refine ajD ?_;intro hn e0;obtain⟨ab,hv⟩:=LE (ch h.ar 1 ((i:Int)+1));obtain⟨v,O⟩:=LE (ldW h.ar.W 1);have HX:Kq (ah nd.length (ndf nd) bud h i (⟨3,a,b,z⟩:Sp)=(ab,h.wk,(⟨if v=0 then 6 else 4,v,b,z⟩:Sp))):=qh (by rw[Ji rfl,hv,O]<;>rfl);have hr:=(λW (k:an W c cap bud nd h)=>fu k.ar 1 ((i:Int)+1) Y);rw[<-hv,<-O]at hr;have HO:=qh hr;have V:=qh (λW (h:Cn) (u:Int) (k:an W c cap bud nd h) (hp:h.S[i]? =some (⟨3,u,b,z⟩:Sp))=>And.intro k.l0 k.l1);refine ai5 ?_;intro HP HL K1;clear hr k hp hv O;have Lk:=qh (λw b x y v O=>p4 w b x y v O);by_cases H:v=0
  all_goals
    have t0:(v==0)=decide (v=0):=(by by_cases h:v=0<;>simp[h]);first| rw[decide_eq_true H]at t0| rw[decide_eq_false H]at t0
    have HV:=qh H;clear H;go_enter func315,ntmps315;go_wp2_with fail
    go_region_held3 (λW=>W.cell? c.l=some ↑c.a/\Z W c.l 1 (J 1))
      (first|with_reducible exact V.o _ _ _ K1.o HP.o|with_reducible exact V.o _ _ _ I.o HP.o|with_reducible exact Kk.o)
      (first
        | (go_at_call 271;go_loud (refine Op (HO.o _ K1.o) λw3 a3=>?_);have I:=qh (K1.o.op a3.o.2 a3.o.1);have T2:=qh (((aa.refl [c.a,c.g,c.q,c.k] w).drew).trans (a3.o.2.mono (T:=[c.a,c.g,c.q,c.k]) ahF));have K3:=qh (I.o.putS (p':=(⟨3,v,b,z⟩:Sp)) HP.o (j:=1) (v:= J v) ahG rfl);have Kk:=qh (V.o _ _ v K3.o ah9);have e1:=I.o.sp.cell HP.o 1 _ rfl;have z1:=I.o.sp.free (i*4+1)))
    all_goals
      go_wp2_with fail;first| refine(Lk.o _ true 6 4 6 rfl).mono ?_| refine(Lk.o _ false 6 4 4 rfl).mono ?_
      rintro en w5 ⟨rfl,rfl⟩;go_wp2;go_ret;rw[HX.o];first| exact⟨by rw[if_pos HV.o];rfl,K3.o,T2.o.trans (dq ⟨c.q,i*4+1,none⟩ _ rfl)⟩| exact⟨by rw[if_neg HV.o];rfl,K3.o,T2.o.trans (dq ⟨c.q,i*4+1,none⟩ _ rfl)⟩
def Gp(k:an w c cap bud nd h)(i:Nat)(hin:i<nd.length)(a b z:Int)(hp:h.S[i]? =some (⟨5,a,b,z⟩:Sp))(Y:h.ar.ops+1<=1000000000000):E 315 #[↑c.l,pointer (some ⟨c.q,i*4,none⟩),J ((i:Int)+1)] w (eJ w c cap bud nd h i (⟨5,a,b,z⟩:Sp) (ah nd.length (ndf nd) bud h i (⟨5,a,b,z⟩:Sp))):=by
  refine ajD ?_;intro hn e0;obtain⟨ab,hv⟩:=LE (af h.ar (cS ((i:Int)+1)));obtain⟨v,O⟩:=LE (ldW h.ar.W (cS ((i:Int)+1)));have HX:Kq (ah nd.length (ndf nd) bud h i (⟨5,a,b,z⟩:Sp)=(ab,h.wk,(⟨if v≠0 then 10 else 5,v,b,z⟩:Sp))):=qh (by rw[Jk rfl,hv,O]<;>rfl);have HF:=qh (λW (k:an W c cap bud nd h)=>oM k ((i:Int)+1) ahE);have hr:=(λW (k:an W c cap bud nd h)=>aD k.ar (cS ((i:Int)+1)) Y);rw[<-hv,<-O]at hr;have HO:=qh hr;have V:=qh (λW (h:Cn) (u:Int) (k:an W c cap bud nd h) (hp:h.S[i]? =some (⟨5,u,b,z⟩:Sp))=>k.l0);refine ai5 ?_;intro HP HL K1;clear hr k hp hv O;have Lk:=qh (λw b x y v O=>p4 w b x y v O);by_cases H:v≠0
  all_goals
    have t0:(v !=0)=decide (v≠0):=(by by_cases h:v=0<;>simp[h]);first| rw[decide_eq_true H]at t0| rw[decide_eq_false H]at t0
    have HV:=qh H;clear H;go_enter func315,ntmps315;go_wp2_with fail
    go_region_held3 (λW=>W.cell? c.l=some ↑c.a)
      (first|with_reducible exact V.o _ _ _ K1.o HP.o|with_reducible exact V.o _ _ _ I.o HP.o|with_reducible exact Kk.o)
      (first
        | (go_at_call 319;go_loud (refine LT (HF.o _ K1.o) ?_))
        | (go_at_call 173;go_loud (refine Op (HO.o _ K1.o) λw3 a3=>?_);have I:=qh (K1.o.op a3.o.2 a3.o.1);have T2:=qh (((aa.refl [c.a,c.g,c.q,c.k] w).drew).trans (a3.o.2.mono (T:=[c.a,c.g,c.q,c.k]) ahF));have K3:=qh (I.o.putS (p':=(⟨5,v,b,z⟩:Sp)) HP.o (j:=1) (v:= J v) ahG rfl);have Kk:=qh (V.o _ _ v K3.o ah9);have e1:=I.o.sp.cell HP.o 1 _ rfl;have z1:=I.o.sp.free (i*4+1)))
    all_goals
      go_wp2_with fail;first| refine(Lk.o _ true 10 5 10 rfl).mono ?_| refine(Lk.o _ false 10 5 5 rfl).mono ?_
      rintro en w5 ⟨rfl,rfl⟩;go_wp2;go_ret;rw[HX.o];first| exact⟨by rw[if_pos HV.o];rfl,K3.o,T2.o.trans (dq ⟨c.q,i*4+1,none⟩ _ rfl)⟩| exact⟨by rw[if_neg HV.o];rfl,K3.o,T2.o.trans (dq ⟨c.q,i*4+1,none⟩ _ rfl)⟩
end
end
section
open Go.RowKit
section
variable{c:Cx}{nd:List Int}{h:Cn}
def zH(k:an w c cap bud nd h)(i:Nat)(hin:i<nd.length)(a b z:Int)(hp:h.S[i]? =some (⟨11,a,b,z⟩:Sp))(Y:h.ar.ops+1<=1000000000000):E 316 #[↑c.l,pointer (some ⟨c.q,i*4,none⟩),J ((i:Int)+1)] w (eJ w c cap bud nd h i (⟨11,a,b,z⟩:Sp) (ah nd.length (ndf nd) bud h i (⟨11,a,b,z⟩:Sp))):=by
  have hn:=k.n32.2;obtain⟨v,O⟩:=LE (ldW h.ar.W (cS ((i:Int)+1)));have HX:Kq (ah nd.length (ndf nd) bud h i (⟨11,a,b,z⟩:Sp)=(af h.ar (cS ((i:Int)+1)),h.wk,(⟨12,a,v,z⟩:Sp))):=qh (by rw[Ip rfl,O]<;>rfl);have HF:=qh (λW (k:an W c cap bud nd h)=>oM k ((i:Int)+1) ahE);have HO:=λW (k:an W c cap bud nd h)=>aD k.ar (cS ((i:Int)+1)) Y;rw[<-O]at HO;replace HO:=qh HO;clear O;have HJ:=qh (λW H (k:an W c cap bud nd ⟨H,h.wk,h.S⟩)=>k.putS (p':=(⟨11,a,v,z⟩:Sp)) hp (j:=2) (v:= J v) ahG rfl);have HPN:=fun(q:i<h.S.length)=>show(h.S.set i (⟨11,a,v,z⟩:Sp))[i]? =some (⟨11,a,v,z⟩:Sp)by simp[q]
  exact cwB
def zI(k:an w c cap bud nd h)(i:Nat)(hin:i<nd.length)(a b z:Int)(hp:h.S[i]? =some (⟨12,a,b,z⟩:Sp))(Y:h.ar.ops+1<=1000000000000):E 316 #[↑c.l,pointer (some ⟨c.q,i*4,none⟩),J ((i:Int)+1)] w (eJ w c cap bud nd h i (⟨12,a,b,z⟩:Sp) (ah nd.length (ndf nd) bud h i (⟨12,a,b,z⟩:Sp))):=by
  refine ajD ?_;intro hn e0;obtain⟨ab,hv⟩:=LE (af h.ar (cN ((i:Int)+1)));obtain⟨v,O⟩:=LE (ldW h.ar.W (cN ((i:Int)+1)));have HX:Kq (ah nd.length (ndf nd) bud h i (⟨12,a,b,z⟩:Sp)=(ab,h.wk,(⟨if v≠0 then 17 else if 0<b then 14 else 13,v,b,z⟩:Sp))):=qh (by rw[Iq rfl,hv,O]<;>rfl);have HF:=qh (λW (k:an W c cap bud nd h)=>my k ((i:Int)+1) ahE);have hr:=(λW (k:an W c cap bud nd h)=>aD k.ar (cN ((i:Int)+1)) Y);rw[<-hv,<-O]at hr;have HO:=qh hr;have HC:=qh (λW (h:Cn) (u:Int) (k:an W c cap bud nd h) (hp:h.S[i]? =some (⟨12,u,b,z⟩:Sp))=>k.l0);refine ai5 ?_;intro HP HL K1;clear hr k hp hv O;have Lk:=qh (λw b x y v O=>p4 w b x y v O);obtain⟨t,ht⟩:=LE (decide (0<b));obtain⟨r,V⟩:=LE ((v !=0));obtain⟨q1,Rz⟩:∃x:Int,x=if t then 14 else 13:=⟨_,rfl⟩
  obtain⟨q2,To⟩:∃x:Int,x=if r then 17 else q1:=⟨_,rfl⟩
  have HQ:Kq ((if v≠0 then 17 else if 0<b then 14 else 13:Int)=q2):=qh (by
    rw[To,Rz,V,ht];by_cases I:v=0
    . by_cases e2:0<b;. simp[I,e2]
      . simp[I,e2]
    . simp[I])
  have WV:=qh Rz;have WW:=qh To;have HR:=qh V;have HT:=qh ht;clear Rz To V ht;go_enter func316,ntmps316;go_wp2_with fail
  go_region_held3 (λW=>W.cell? c.l=some ↑c.a)
    (first|with_reducible exact HC.o _ _ _ K1.o HP.o|with_reducible exact HC.o _ _ _ H.o HP.o|with_reducible exact Kk.o)
    (first
      | (go_at_call 146;go_loud (refine LT (HF.o _ K1.o) ?_))
      | (go_at_call 173;go_loud (refine Op (HO.o _ K1.o) λw3 a3=>?_);have H:=qh (K1.o.op a3.o.2 a3.o.1);have T2:=qh (((aa.refl [c.a,c.g,c.q,c.k] w).drew).trans (a3.o.2.mono (T:=[c.a,c.g,c.q,c.k]) ahF));have K3:=qh (H.o.putS (p':=(⟨12,v,b,z⟩:Sp)) HP.o (j:=1) (v:= J v) ahG rfl);have Kk:=qh (HC.o _ _ v K3.o ah9);have I:=H.o.sp.cell HP.o 1 _ rfl;have z1:=H.o.sp.free (i*4+1)))
  all_goals
    have e3:=K3.o.sp.cell (i:=i) (p:=⟨12,v,b,z⟩) ah9 2 _ rfl;have g1:=HT.o.symm;have g2:=HR.o.symm;go_wp2
    go_quiet ((first
      | (go_at_call 320;exact bG (Lk.o _ _ _ _ _ WV.o))
      | (go_at_call 320;exact bG (Lk.o _ _ _ _ _ WW.o))))
    go_wp2;go_ret;rw[HX.o];exact⟨bZ HQ.o.symm,K3.o.below (Qt.below ⟨_,rfl⟩ _),(T2.o.trans (dq ⟨c.q,i*4+1,none⟩ _ rfl)).trans (aa.of_qt ⟨_,rfl⟩)⟩
def zJ(k:an w c cap bud nd h)(i:Nat)(hin:i<nd.length)(a b z:Int)(hp:h.S[i]? =some (⟨13,a,b,z⟩:Sp))(Y:h.ar.ops+1<=1000000000000):E 316 #[↑c.l,pointer (some ⟨c.q,i*4,none⟩),J ((i:Int)+1)] w (eJ w c cap bud nd h i (⟨13,a,b,z⟩:Sp) (ah nd.length (ndf nd) bud h i (⟨13,a,b,z⟩:Sp))):=by
  refine ajD ?_;intro hn e0;obtain⟨ab,hv⟩:=LE (dR h.ar 1 ((i:Int)+1) 0);obtain⟨v,O⟩:=LE (cG h.ar 1 ((i:Int)+1));have HX:Kq (ah nd.length (ndf nd) bud h i (⟨13,a,b,z⟩:Sp)=(ab,h.wk,(⟨if v then 0 else 16,a,b,z⟩:Sp))):=qh (by rw[Ir rfl,hv,O]<;>rfl);have hr:=(λW (k:an W c cap bud nd h)=>jb k.ar 1 ((i:Int)+1) 0 Y);rw[<-hv,<-O]at hr;have HO:=qh hr;have V:=qh (λW (h:Cn) (k:an W c cap bud nd h) (hp:h.S[i]? =some (⟨13,a,b,z⟩:Sp))=>And.intro k.l0 k.l1);refine ai5 ?_;intro HP HL K1;clear hr k hp hv O;have Lk:=qh (λw b x y v O=>p4 w b x y v O);cases v
  . go_enter func316,ntmps316;go_wp2_with fail
    go_region_held3 (λW=>W.cell? c.l=some ↑c.a/\Z W c.l 1 (J 1))
      (first|with_reducible exact V.o _ _ K1.o HP.o|with_reducible exact V.o _ _ I.o HP.o)
      (first
        | (go_at_call 320;go_loud (refine LT (Lk.o _ false 0 16 16 rfl) ?_))
        | (go_at_call 272;go_loud (refine Op (HO.o _ K1.o) λw3 H=>?_);have I:=qh (K1.o.op H.o.2 H.o.1);have T2:=qh (((aa.refl [c.a,c.g,c.q,c.k] w).drew).trans (H.o.2.mono (T:=[c.a,c.g,c.q,c.k]) ahF))))
    all_goals go_wp2;go_ret;rw[HX.o];exact⟨rfl,I.o.samS HP.o,T2.o⟩
  . go_enter func316,ntmps316;go_wp2_with fail
    go_region_held3 (λW=>W.cell? c.l=some ↑c.a/\Z W c.l 1 (J 1))
      (first|with_reducible exact V.o _ _ K1.o HP.o|with_reducible exact V.o _ _ I.o HP.o)
      (first
        | (go_at_call 320;go_loud (refine LT (Lk.o _ true 0 16 0 rfl) ?_))
        | (go_at_call 272;go_loud (refine Op (HO.o _ K1.o) λw3 H=>?_);have I:=qh (K1.o.op H.o.2 H.o.1);have T2:=qh (((aa.refl [c.a,c.g,c.q,c.k] w).drew).trans (H.o.2.mono (T:=[c.a,c.g,c.q,c.k]) ahF))))
    all_goals go_wp2;go_ret;rw[HX.o];exact⟨rfl,I.o.samS HP.o,T2.o⟩
def zK(k:an w c cap bud nd h)(i:Nat)(hin:i<nd.length)(a b z:Int)(hp:h.S[i]? =some (⟨14,a,b,z⟩:Sp))(Y:h.ar.ops+1<=1000000000000)(I:-5<=b/\b<=100000):E 316 #[↑c.l,pointer (some ⟨c.q,i*4,none⟩),J ((i:Int)+1)] w (eJ w c cap bud nd h i (⟨14,a,b,z⟩:Sp) (ah nd.length (ndf nd) bud h i (⟨14,a,b,z⟩:Sp))):=by
  obtain⟨v,O⟩:=LE (ldW h.ar.W (cL b));have HX:Kq (ah nd.length (ndf nd) bud h i (⟨14,a,b,z⟩:Sp)=(af h.ar (cL b),h.wk,(⟨15,a,b,v⟩:Sp))):=qh (by rw[Is rfl,O]<;>rfl);refine ajX ?_;intro HF HO;rw[<-O]at HO;replace HO:=qh HO;clear O;have HJ:=qh (λW H (k:an W c cap bud nd ⟨H,h.wk,h.S⟩)=>k.putS (p':=(⟨14,a,b,v⟩:Sp)) hp (j:=3) (v:= J v) ahG rfl);have HPN:=fun(q:i<h.S.length)=>show(h.S.set i (⟨14,a,b,v⟩:Sp))[i]? =some (⟨14,a,b,v⟩:Sp)by simp[q]
  exact cwZ
def zL(k:an w c cap bud nd h)(i:Nat)(hin:i<nd.length)(a b z:Int)(hp:h.S[i]? =some (⟨15,a,b,z⟩:Sp))(Y:h.ar.ops+1<=1000000000000):E 316 #[↑c.l,pointer (some ⟨c.q,i*4,none⟩),J ((i:Int)+1)] w (eJ w c cap bud nd h i (⟨15,a,b,z⟩:Sp) (ah nd.length (ndf nd) bud h i (⟨15,a,b,z⟩:Sp))):=by
  refine ajD ?_;intro hn e0;obtain⟨ab,hv⟩:=LE (dR h.ar 1 ((i:Int)+1) z);obtain⟨v,O⟩:=LE (cG h.ar 1 ((i:Int)+1));have HX:Kq (ah nd.length (ndf nd) bud h i (⟨15,a,b,z⟩:Sp)=(ab,h.wk,(⟨if v then 28 else 16,a,b,z⟩:Sp))):=qh (by rw[It rfl,hv,O]<;>rfl);have hr:=(λW (k:an W c cap bud nd h)=>jb k.ar 1 ((i:Int)+1) z Y);rw[<-hv,<-O]at hr;have HO:=qh hr;have V:=qh (λW (h:Cn) (k:an W c cap bud nd h) (hp:h.S[i]? =some (⟨15,a,b,z⟩:Sp))=>And.intro k.l0 (And.intro k.l1 (k.sp.cell hp 3 _ rfl)));refine ai5 ?_;intro HP HL K1;clear hr k hp hv O;have Lk:=qh (λw b x y v O=>p4 w b x y v O);cases v
  . go_enter func316,ntmps316;go_wp2_with fail
    go_region_held3 (λW=>W.cell? c.l=some ↑c.a/\Z W c.l 1 (J 1)/\Z W c.q (i*4+3) (J z))
      (first|with_reducible exact V.o _ _ K1.o HP.o|with_reducible exact V.o _ _ I.o HP.o)
      (first
        | (go_at_call 320;go_loud (refine LT (Lk.o _ false 28 16 16 rfl) ?_))
        | (go_at_call 272;go_loud (refine Op (HO.o _ K1.o) λw3 H=>?_);have I:=qh (K1.o.op H.o.2 H.o.1);have T2:=qh (((aa.refl [c.a,c.g,c.q,c.k] w).drew).trans (H.o.2.mono (T:=[c.a,c.g,c.q,c.k]) ahF))))
    all_goals go_wp2;go_ret;rw[HX.o];exact⟨rfl,I.o.samS HP.o,T2.o⟩
  . go_enter func316,ntmps316;go_wp2_with fail
    go_region_held3 (λW=>W.cell? c.l=some ↑c.a/\Z W c.l 1 (J 1)/\Z W c.q (i*4+3) (J z))
      (first|with_reducible exact V.o _ _ K1.o HP.o|with_reducible exact V.o _ _ I.o HP.o)
      (first
        | (go_at_call 320;go_loud (refine LT (Lk.o _ true 28 16 28 rfl) ?_))
        | (go_at_call 272;go_loud (refine Op (HO.o _ K1.o) λw3 H=>?_);have I:=qh (K1.o.op H.o.2 H.o.1);have T2:=qh (((aa.refl [c.a,c.g,c.q,c.k] w).drew).trans (H.o.2.mono (T:=[c.a,c.g,c.q,c.k]) ahF))))
    all_goals go_wp2;go_ret;rw[HX.o];exact⟨rfl,I.o.samS HP.o,T2.o⟩
def zM(k:an w c cap bud nd h)(i:Nat)(hin:i<nd.length)(a b z:Int)(hp:h.S[i]? =some (⟨16,a,b,z⟩:Sp))(Y:h.ar.ops+1<=1000000000000):E 316 #[↑c.l,pointer (some ⟨c.q,i*4,none⟩),J ((i:Int)+1)] w (eJ w c cap bud nd h i (⟨16,a,b,z⟩:Sp) (ah nd.length (ndf nd) bud h i (⟨16,a,b,z⟩:Sp))):=by
  refine ajD ?_;intro hn e0;obtain⟨ab,hv⟩:=LE (af h.ar (cN ((i:Int)+1)));obtain⟨v,O⟩:=LE (ldW h.ar.W (cN ((i:Int)+1)));have HX:Kq (ah nd.length (ndf nd) bud h i (⟨16,a,b,z⟩:Sp)=(ab,h.wk,(⟨if v≠0 then 17 else 16,v,b,z⟩:Sp))):=qh (by rw[Iu rfl,hv,O]<;>rfl);have HF:=qh (λW (k:an W c cap bud nd h)=>my k ((i:Int)+1) ahE);have hr:=(λW (k:an W c cap bud nd h)=>aD k.ar (cN ((i:Int)+1)) Y);rw[<-hv,<-O]at hr;have HO:=qh hr;have V:=qh (λW (h:Cn) (u:Int) (k:an W c cap bud nd h) (hp:h.S[i]? =some (⟨16,u,b,z⟩:Sp))=>k.l0);refine ai5 ?_;intro HP HL K1;clear hr k hp hv O;have Lk:=qh (λw b x y v O=>p4 w b x y v O);by_cases H:v≠0
  all_goals
    have t0:(v !=0)=decide (v≠0):=(by by_cases h:v=0<;>simp[h]);first| rw[decide_eq_true H]at t0| rw[decide_eq_false H]at t0
    have HV:=qh H;clear H;go_enter func316,ntmps316;go_wp2_with fail
    go_region_held3 (λW=>W.cell? c.l=some ↑c.a)
      (first|with_reducible exact V.o _ _ _ K1.o HP.o|with_reducible exact V.o _ _ _ I.o HP.o|with_reducible exact Kk.o)
      (first
        | (go_at_call 146;go_loud (refine LT (HF.o _ K1.o) ?_))
        | (go_at_call 173;go_loud (refine Op (HO.o _ K1.o) λw3 a3=>?_);have I:=qh (K1.o.op a3.o.2 a3.o.1);have T2:=qh (((aa.refl [c.a,c.g,c.q,c.k] w).drew).trans (a3.o.2.mono (T:=[c.a,c.g,c.q,c.k]) ahF));have K3:=qh (I.o.putS (p':=(⟨16,v,b,z⟩:Sp)) HP.o (j:=1) (v:= J v) ahG rfl);have Kk:=qh (V.o _ _ v K3.o ah9);have e1:=I.o.sp.cell HP.o 1 _ rfl;have z1:=I.o.sp.free (i*4+1)))
    all_goals
      go_wp2_with fail;first| refine(Lk.o _ true 17 16 17 rfl).mono ?_| refine(Lk.o _ false 17 16 16 rfl).mono ?_
      rintro en w5 ⟨rfl,rfl⟩;go_wp2;go_ret;rw[HX.o];first| exact⟨by rw[if_pos HV.o];rfl,K3.o,T2.o.trans (dq ⟨c.q,i*4+1,none⟩ _ rfl)⟩| exact⟨by rw[if_neg HV.o];rfl,K3.o,T2.o.trans (dq ⟨c.q,i*4+1,none⟩ _ rfl)⟩
end
end
section
open Go.RowKit
section
variable{c:Cx}{nd:List Int}{h:Cn}
def EL(w:World)(c:Cx)(cap:Nat)(bud:Int)(nd:List Int)(ar':Ar)(KJ:Wk)(S:List Sp)(e:Ending)(w':World):Prop:=
 e= returned (bool (!KJ.way))/\an w' c cap bud nd ⟨ar',KJ,S⟩/\aa [c.a,c.g,c.q,c.k] w w'
def F0(k:an w c cap bud nd h)(Y:h.ar.ops+1<=1000000000000)(Pn:h.wk.way=true)(hp:0<=h.wk.passed/\h.wk.passed<=32)(hl:-5<=h.wk.last/\h.wk.last<=100000):E 324 #[↑c.k] w (EL w c cap bud nd (af h.ar (cN h.wk.last)) (dM nd.length (ndf nd) h.wk (ldW h.ar.W (cN h.wk.last))) h.S):=by
  obtain⟨v,O⟩:=LE (ldW h.ar.W (cN h.wk.last));obtain⟨ab,hv⟩:=LE (af h.ar (cN h.wk.last));obtain⟨KJ,Mj⟩:=LE (dM nd.length (ndf nd) h.wk v);have HO:=qh (Hz k.wk);rw[Pn]at HO;have J':=λW (k:an W c cap bud nd h)=>CH k h.wk.last hl Y;rw[<-O,<-hv]at J';have HB:=qh J';have Nv:=λW (k:cK W c.k c.n1 (ui c) nd h.wk)=>Ci k hp v;rw[<-Mj]at Nv;have HT:=qh Nv;have H:=qh (λW (k:cK W c.k c.n1 (ui c) nd h.wk)=>And.intro k.c0 k.c5);rw[<-O,<-hv,<-Mj];have K0:=qh k;have I:=qh (k.below ((Below.refl _ w).drew));obtain⟨Y',V⟩:=LE h.wk.last;have ZA:=qh V;rw[<-V]at HB;have TX:=H;have H:=qh (show ∀W,cK W c.k c.n1 (ui c) nd h.wk->W.cell? c.k=some (.func (.func 172) #[] #[↑c.b0,↑c.b1,↑c.b2])/\W.cell? ⟨c.k,5,none⟩=some (J Y')from λW k=>by rw[V];exact TX.o W k);clear J' Nv TX O hv Mj hp hl k Pn V;go_enter func324,ntmps324;go_wp2_with fail;refine LT HO.o ?_;go_wp2_with fail;have k0:=(H.o _ I.o.wk).1;have k5:=(H.o _ I.o.wk).2
  go_region_with
    (first
      | (go_at_call 172;go_loud (refine Op (HB.o _ I.o) λw2 a2=>?_);have K2:=qh (I.o.op a2.o.2 a2.o.1);have T2:=qh (((aa.refl [c.a,c.g,c.q,c.k] w).drew).trans (a2.o.2.mono (T:=[c.a,c.g,c.q,c.k]) ahF)))
      | (go_at_call 327;go_loud (refine Op (HT.o _ K2.o.wk) λw3 k3=>?_);have K3:=qh (And.intro (K2.o.walk k3.o.1 k3.o.2) (T2.o.trans (k3.o.2.mono (T:=[c.a,c.g,c.q,c.k]) ahF)))))
  all_goals go_wp2;go_ret;exact⟨rfl,K3.o.1,K3.o.2⟩
end
end
section
open Go.RowKit
def iB{P:Program}{a:Act}{c rest:Code}(l:Nat)(hf:findLabel c l=some rest)(first:c.wp P (Exit.jump l (λa' w'=>rest.wp P (Exit.noGoto Q) a' w') Q) a w):(Code.scope c).wp P Q a w:=by exact abi
def sA{h:Act->World->Prop}{l:Nat}{a:Act}:Exit.jump l h Q .ret a w=Q .ret a w:=rfl
section
variable{c:Cx}{nd:List Int}{h:Cn}
def xU(k:an w c cap bud nd h)(i:Nat)(a b z:Int)(hp:h.S[i]? =some (⟨18,a,b,z⟩:Sp))(Y:h.ar.ops+1<=1000000000000)(Pn:h.wk.way=true)(VJ:0<=h.wk.passed/\h.wk.passed<=32)(hl:-5<=h.wk.last/\h.wk.last<=100000):E 317 #[↑c.l,pointer (some ⟨c.q,i*4,none⟩),J ((i:Int)+1)] w (eJ w c cap bud nd h i (⟨18,a,b,z⟩:Sp) (ah nd.length (ndf nd) bud h i (⟨18,a,b,z⟩:Sp))):=by
  have e0:=ST (k.sp.cell hp 0 _ rfl);have l4:=k.l4;obtain⟨ab,hv⟩:=LE (af h.ar (cN h.wk.last));obtain⟨O,Mj⟩:=LE (dM nd.length (ndf nd) h.wk (ldW h.ar.W (cN h.wk.last)));have HX:Kq (ah nd.length (ndf nd) bud h i (⟨18,a,b,z⟩:Sp)=(ab,O,if O.way then(⟨18,a,b,z⟩:Sp)else if O.found≠0 then⟨19,a,b,z⟩else ez ⟨18,a,b,z⟩)):=qh (by rw[Iw rfl Pn,hv,Mj]);have Kh:=F0 k Y Pn VJ hl;rw[<-hv,<-Mj]at Kh;have HW:=qh Kh;have HP:=qh hp;clear Kh k hp hv Mj Pn VJ hl Y;go_enter func317,ntmps317;go_wp2;refine iB 0 rfl ?_;go_wp2;go_step3;refine⟨rfl,?_⟩;go_wp2_with fail;refine Op HW.o λw1 k1=>?_;have H:=qh (And.intro k1.o.1 k1.o.2);have KS:=qh (k1.o.1.samS HP.o);have d4:=k1.o.1.l4;have d2:=k1.o.1.sp.cell HP.o 2 _ rfl;clear e0 l4;cases Mk:O.way
  . have HY:=qh Mk;by_cases V:O.found=0
    . have t0:(O.found !=0)=false:=(by simpa using V);have HF:=qh V;clear V Mk;by_cases I:0<b;. have HB:=qh I;go_wp2_with fail;refine LT (qG H.o.1.wk) ?_;go_wp2;go_step3;go_wp2;rw[Exit.noGoto_ret];go_ret;rw[HX.o,HY.o,if_neg ahG,if_neg (λh=>h HF.o)];exact⟨by unfold ez;rw[if_pos HB.o];rfl,by unfold ez;exact KS.o,H.o.2⟩
      . have HB:=qh I;go_wp2_with fail;refine LT (qG H.o.1.wk) ?_;go_wp2;go_step3;go_wp2;rw[Exit.noGoto_ret];go_ret;rw[HX.o,HY.o,if_neg ahG,if_neg (λh=>h HF.o)];exact⟨by unfold ez;rw[if_neg (show ¬0<b by have:=HB.o;omega)];rfl,by unfold ez;exact KS.o,H.o.2⟩
    . have t0:(O.found !=0)=true:=(by simpa using V);have HF:=qh V;clear V Mk;go_wp2_with fail;refine LT (qG H.o.1.wk) ?_;go_wp2;rw[Exit.noGoto_ret];go_ret;rw[HX.o,HY.o,if_neg ahG,if_pos HF.o];exact⟨rfl,KS.o,H.o.2⟩
  . have HY:=qh Mk;clear Mk;go_wp2;rw[Exit.noGoto_ret];go_ret;rw[HX.o,HY.o,if_pos rfl];exact⟨rfl,KS.o,H.o.2⟩
def xT(k:an w c cap bud nd h)(i:Nat)(hin:i<nd.length)(a b z:Int)(hp:h.S[i]? =some (⟨17,a,b,z⟩:Sp))(Y:h.ar.ops+1<=1000000000000):E 317 #[↑c.l,pointer (some ⟨c.q,i*4,none⟩),J ((i:Int)+1)] w (eJ w c cap bud nd h i (⟨17,a,b,z⟩:Sp) (ah nd.length (ndf nd) bud h i (⟨17,a,b,z⟩:Sp))):=by
  obtain⟨_,hn⟩:=k.n32;have LG:(i:Int)<nd.length:=by omega
  have S8:i<nd.length:=hin;have x7:IntKind.i64.wrap (i:Int)=(i:Int):=IntWalk.i64_in _ ahE;have e0:=ST (k.sp.cell hp 0 _ rfl);obtain⟨ab,hv⟩:=LE (af h.ar 2);obtain⟨v,O⟩:=LE (ldW h.ar.W 2);obtain⟨KJ,Mj⟩:=LE (gK nd.length (ndf nd) h.wk a (ndf nd i));have HX:Kq (ah nd.length (ndf nd) bud h i (⟨17,a,b,z⟩:Sp)=if bud<=v then(ab,h.wk,ez ⟨17,a,b,v⟩)else(ab,KJ,(⟨if KJ.way then 18 else 23,a,b,v⟩:Sp))):=qh (by rw[Iv rfl,hv,O,Mj]);have HF:=qh (λW (k:an W c cap bud nd h)=>qC k);have hr:=(λW (k:an W c cap bud nd h)=>aD k.ar 2 Y);rw[<-hv,<-O]at hr;have HO:=qh hr;have HC:=qh (λW (h:Cn) (k:an W c cap bud nd h)=>k.l0);refine ai5 ?_;intro HP HL K1;obtain⟨nv,NE⟩:=LE (ndf nd i);have Sv:=λW (k:cK W c.k c.n1 (ui c) nd h.wk)=>CG k a (ndf nd i);rw[<-Mj,<-NE]at Sv;have Xf:=qh Sv
  have OK:=qh (show ∀W (ar:Ar) (wk:Wk),an W c cap bud nd ⟨ar,wk,h.S.set i ⟨17,a,b,v⟩⟩->Z W c.l 3 (slice (some ⟨c.nb,0,none⟩) nd.length cap)/\Z W c.l 4 ↑c.k/\Z W c.q (i*4+1) (J a)/\W.cell? ⟨c.nb,i,none⟩=some (J nv)from λW ar wk k=>
    ⟨k.l3,k.l4,k.sp.cell (i:=i) (p:=⟨17,a,b,v⟩) ah9 1 _ rfl,by rw[NE];exact k.row i hin⟩)
  clear hr Sv k hp hv O Mj NE;by_cases U4:bud<=v
  . have Pw:=qh U4;go_enter func317,ntmps317;go_wp2;refine iB 1 rfl ?_;go_wp2_with fail
    go_region_held3 (λW=>W.cell? c.l=some ↑c.a)
      (first|with_reducible exact HC.o _ _ K1.o|with_reducible exact HC.o _ _ I.o|with_reducible exact HC.o _ _ H.o)
      (first
        | (go_at_call 322;go_loud (refine LT (HF.o _ K1.o) ?_))
        | (go_at_call 173;go_loud (refine Op (HO.o _ K1.o) λw3 V=>?_);have I:=qh (K1.o.op V.o.2 V.o.1);have T2:=qh (((aa.refl [c.a,c.g,c.q,c.k] w).drew).trans (V.o.2.mono (T:=[c.a,c.g,c.q,c.k]) ahF));have H:=qh (I.o.putS (p':=(⟨17,a,b,v⟩:Sp)) HP.o (j:=3) (v:= J v) ahG rfl);have e1:=I.o.sp.cell HP.o 3 _ rfl;have z1:=I.o.sp.free (i*4+3)))
    all_goals
      have T3:=qh (T2.o.trans (dq ⟨c.q,i*4+3,none⟩ (J v) rfl));have N8:(h.S.set i (⟨17,a,b,v⟩:Sp))[i]? =some (⟨17,a,b,v⟩:Sp):=(by simp[HL.o]);have l2:=H.o.l2;have s2:=H.o.sp.cell N8 2 _ rfl;have s3:=H.o.sp.cell N8 3 _ rfl;clear N8 e1 z1 e0;go_wp2_with fail;go_quiet (fail);go_wp2;go_step3;refine⟨rfl,?_⟩;by_cases NS:0<b;. have HB:=qh NS;go_wp2;rw[Exit.noGoto_ret];go_ret;rw[HX.o,if_pos Pw.o];exact⟨by unfold ez;rw[if_pos HB.o];rfl,by unfold ez;exact H.o.below (Qt.below ⟨_,rfl⟩ _),T3.o.trans (aa.of_qt ⟨_,rfl⟩)⟩
      . have HB:=qh NS;go_wp2;rw[Exit.noGoto_ret];go_ret;rw[HX.o,if_pos Pw.o];exact⟨by unfold ez;rw[if_neg (show ¬0<b by have:=HB.o;omega)];rfl,by unfold ez;exact H.o.below (Qt.below ⟨_,rfl⟩ _),T3.o.trans (aa.of_qt ⟨_,rfl⟩)⟩
  . have Pw:=qh U4;go_enter func317,ntmps317;go_wp2;refine iB 1 rfl ?_;go_wp2_with fail
    go_region_held3 (λW=>W.cell? c.l=some ↑c.a)
      (first|with_reducible exact HC.o _ _ K1.o|with_reducible exact HC.o _ _ I.o|with_reducible exact HC.o _ _ H.o)
      (first
        | (go_at_call 322;go_loud (refine LT (HF.o _ K1.o) ?_))
        | (go_at_call 173;go_loud (refine Op (HO.o _ K1.o) λw3 V=>?_);have I:=qh (K1.o.op V.o.2 V.o.1);have T2:=qh (((aa.refl [c.a,c.g,c.q,c.k] w).drew).trans (V.o.2.mono (T:=[c.a,c.g,c.q,c.k]) ahF));have H:=qh (I.o.putS (p':=(⟨17,a,b,v⟩:Sp)) HP.o (j:=3) (v:= J v) ahG rfl);have e1:=I.o.sp.cell HP.o 3 _ rfl;have z1:=I.o.sp.free (i*4+3)))
    all_goals
      have T3:=qh (T2.o.trans (dq ⟨c.q,i*4+3,none⟩ (J v) rfl));have N8:(h.S.set i (⟨17,a,b,v⟩:Sp))[i]? =some (⟨17,a,b,v⟩:Sp):=(by simp[HL.o]);have l2:=H.o.l2;have s3:=H.o.sp.cell N8 3 _ rfl;obtain⟨wm,V1⟩:=LE (w3.setCell ⟨c.q,i*4+3,none⟩ (J v));rw[<-V1]at H T3 l2 s3 ⊢;clear N8 e1 z1 e0 V1;go_wp2_with fail;go_quiet (fail);go_wp2_with fail;have K4:=qh ((H.o.below (Qt.below (w':=wm.drewN nq) ⟨_,rfl⟩ _)).below ((Below.refl _ _).drew));have T4:=qh ((T3.o.trans (aa.of_qt (b:=wm.drewN nq) ⟨_,rfl⟩)).drew)
      go_region_held3 (λW=>Z W c.l 3 (slice (some ⟨c.nb,0,none⟩) nd.length cap)/\Z W c.l 4 ↑c.k/\Z W c.q (i*4+1) (J a)/\Z W c.nb i (J nv))
        (first|with_reducible exact OK.o _ _ _ K4.o|with_reducible exact OK.o _ _ _ K5.o)
        (first
          | (go_at_call 323;go_loud (refine Op (Xf.o _ K4.o.wk) λw5 k5=>?_);have K5:=qh (K4.o.walk k5.o.1 k5.o.2);have T5:=qh (T4.o.trans (k5.o.2.mono (T:=[c.a,c.g,c.q,c.k]) ahF))))
      all_goals
        cases Mk:KJ.way;. have HY:=qh Mk;clear Mk;go_wp2;rw[sA];go_ret;rw[HX.o,if_neg (show ¬bud<=v by have:=Pw.o;omega),HY.o,if_neg ahG];exact⟨rfl,K5.o,T5.o⟩
        . have HY:=qh Mk;clear Mk;go_wp2;rw[sA];go_ret;rw[HX.o,if_neg (show ¬bud<=v by have:=Pw.o;omega),HY.o,if_pos rfl];exact⟨rfl,K5.o,T5.o⟩
end
end
end Go.Proofs.YtglokdbiggbkjaaGreat
