/- Joined texts. -/
import Derived.Test.YtglokdbiggbkjaaGreatRows
import Derived.Tactics
import Derived.RegionCalls
import Derived.Deep.QuietTactic
import Derived.BigQuiet
import Derived.Laws.BitsAllLaws
import Derived.IntWalk
import Derived.Test.YtglokdbiggbkjaaGreatMgWorldTrace0
import Derived.Test.YtglokdbiggbkjaaGreatMgWorldTrace2
set_option linter.unusedVariables false
set_option linter.unusedSimpArgs false
set_option linter.defProp false
set_option maxRecDepth 100000
set_option maxHeartbeats 16000000
open Go.Proofs.Tryz
namespace Go.Proofs.YtglokdbiggbkjaaGreat
open Go.IntKind(i64)
open Go.Value(int bool slice agg tuple pointer)
open Go.Ending(returned)
open Go.Obj(cells)
variable{W W' D':List Int}{nd n i v j k:Nat}{d B C x:Int}
section
open Go.RowKit
def m8(w:World)(v1 v2:Value)(a b:List (Int))(h1:RdL w v1 1 encI a)(h2:RdL w v2 1 encI b):E 27 #[v1,v2] w λe w'=>e= returned (bool (decide (a=b)))/\Qt w w':=by
  obtain⟨A1,c1,rfl,l1,m1,r1⟩:=h1;obtain⟨A2,c2,rfl,l2,m2,r2⟩:=h2;by_cases O:a.length=b.length
  . have ab:((a.length:Int)==(b.length:Int))=true:=(by rw[beq_iff_eq];omega);have SO:((a.length:Int) !=(b.length:Int))=false:=(by rw[bne_eq_false_iff_eq];omega);have H:=qh O;clear O;go_enter func27,ntmps27;go_wp2_with fail;go_loopw [5] (λi w'=>∃k n:Nat,k<=a.length/\i= J k/\w'=w.drewN n/\a.take k=b.take k) (λi _=>a.length-(intOf i).toNat);case atStart=>exact⟨0,0,by omega,rfl,rfl,rfl⟩
    case round=>
      obtain⟨k,n,hk,rfl,rfl,Wo⟩:=hrel;have HA:=qh Wo;clear Wo;by_cases C':k<a.length
      . have Rx:k<b.length:=(by have:=H.o;omega);obtain⟨b1,o1,rfl,KI,LJ⟩:=r1 ahy;obtain⟨b2,o2,rfl,Nv,LZ⟩:=r2 ahy;obtain⟨x0,Y⟩:=ai C';obtain⟨y0,hy⟩:=ai Rx;have p0:=LJ k _ Y 0 _ rfl;have q0:=LZ k _ hy 0 _ rfl;simp only[Nat.add_zero,Nat.mul_one]at p0 q0;have HX:=qh Y;have HY:=qh hy;clear r1 r2 LJ LZ Y hy;by_cases V:x0=y0
        . subst V;go_wp2;go_quiet (fail);go_wp2;go_roundw;case rel=>exact⟨k+1,n+nq,by omega,by go_num,by first|rfl|rw[World.drewN_drewN],by rw[a9 HX.o,a9 HY.o,HA.o]⟩
          case measure=>simp[intOf];omega
        . have I:(x0==y0)=false:=(by simpa using V);have HE:=qh V;go_wp2;go_quiet (fail);go_wp2;go_ret;refine⟨az (Eq.symm (decide_eq_false λe=>HE.o ?_)),n+nq,by first|rfl|rw[World.drewN_drewN]⟩;have h:=HX.o;rw[e,HY.o]at h;exact(Option.some.inj h).symm
      . obtain rfl:k=a.length:=by omega
        go_wp2;go_ret;exact⟨az (Eq.symm (decide_eq_true (vh H.o HA.o))),n,rfl⟩
  . have ab:((a.length:Int)==(b.length:Int))=false:=(by rw[beq_eq_false_iff_ne];omega);have SO:((a.length:Int) !=(b.length:Int))=true:=(by rw[bne_iff_ne];omega);have H:=qh O;clear O r1 r2;go_enter func27,ntmps27;go_wp2;go_ret;exact⟨az (Eq.symm (decide_eq_false λe=>H.o (by rw[e]))),Qt.refl w⟩
end
section
open Go
def mNx(t x:Int):Int:=t+2*x-1
def mWt(t x:Int):Int:=t+2*x
def pPl(t m k:Int):Int:=t+1+k%m
def wQ(t m:Int)(s:Ar)(i:Int)(p:Sp):Ar×Sp:=
 if p.pc=1 then(dY s t 0 (i+1),if cK s t 0 then {p with pc:=10} else {p with pc:=2,b:=p.a,a:=min (2*p.a) m})
 else if p.pc=2 then(s,{p with b:=p.b-1,pc:=if p.b-1=0 then 1 else 2})
 else if p.pc=11 then(ae s t 0,{p with pc:=0})
 else(s,p)
def pO(t:Int)(s:Ar)(p:Sp):Ar×Sp:=
 if p.pc=1 then(addA s t 1,{p with a:=ldW s.W t,pc:=2})
 else if p.pc=2 then(af s (t+1),{p with pc:=if ldW s.W (t+1)=p.a then 10 else 2})
 else if p.pc=11 then(ae s (t+1) (p.a+1),{p with pc:=0})
 else(s,p)
def pv(t m:Int)(s:Ar)(p:Sp):Ar×Sp:=
 if p.pc=1 then(addA s t 1,{p with a:=ldW s.W t,pc:=2})
 else if p.pc=2 then(af s (pPl t m p.a),{p with pc:=if ldW s.W (pPl t m p.a)=p.a+1 then 10 else 2})
 else if p.pc=11 then(ae s (pPl t m (p.a+1)) (p.a+2),{p with pc:=0})
 else(s,p)
def eP(t:Int)(s:Ar)(x:Int)(p:Sp):Ar×Sp:=
 if p.pc=1 then(ae s (mNx t x) 0,{p with pc:=2})
 else if p.pc=2 then(ae s (mWt t x) 1,{p with pc:=3})
 else if p.pc=3 then(cz s t x,{p with a:=ldW s.W t,pc:=if ldW s.W t=0 then 10 else 4})
 else if p.pc=4 then(ae s (mNx t p.a) x,{p with pc:=5})
 else(af s (mWt t x),{p with pc:=if ldW s.W (mWt t x)=0 then 10 else 5})
def dN(t:Int)(s:Ar)(x:Int)(p:Sp):Ar×Sp:=
 if p.pc=12 then(dY s t x 0,{p with pc:=if cK s t x then 0 else 13})
 else if p.pc=14 then(ae s (mWt t p.a) 0,{p with pc:=0})
 else(af s (mNx t x),{p with a:=ldW s.W (mNx t x),pc:=if ldW s.W (mNx t x)≠0 then 14 else if p.pc=11 then 12 else 13})
def mK(t:Int)(s:Ar)(i:Int)(p:Sp):Ar×Sp:=
 if 0<p.pc/\p.pc<10 then eP t s (i+1) p else if 10<p.pc then dN t s (i+1) p else(s,p)
def uY(t:Int)(s:Ar)(p:Sp):Ar×Sp:=
 if p.pc=1 then(ae s (t+p.a) 1,{p with pc:=2})
 else if p.pc=2 then(cz s t p.a,{p with b:=ldW s.W t,pc:=3})
 else if p.pc=3 then(af s (t+p.b),{p with pc:=if ldW s.W (t+p.b)=0 then 10 else 3})
 else if p.pc=11 then(ae s (t+p.a) 0,{p with a:=p.b,pc:=0})
 else(s,p)
def bS(k:Nat)(t m:Int)(s:Ar)(i:Int)(p:Sp):Ar×Sp:=
 if k=1 then wQ t m s i p else if k=2 then pO t s p else if k=3 then pv t m s p else if k=4 then mK t s i p else uY t s p
def bB(p p':Sp):Bool:=decide ((p'.pc=10\/p'.pc=0)/\p.pc≠0/\p.pc≠10)
def askK(k:Nat)(p:Sp):Sp:=if p.pc=0 then(if k=1 then {p with pc:=1,a:=1} else {p with pc:=1})else p
def bf(p:Sp):Sp:=if p.pc=10 then {p with pc:=11} else p
def cG(k:Nat)(t:Int)(s:Ar)(i:Int)(p:Sp):Ar×Bool:=
 if p.pc=10 then
  if k=1 then(s,true)else if k=2\/k=3 then(af s t,decide (ldW s.W t=p.a+1))
  else if k=4 then(af s (mNx t (i+1)),decide (ldW s.W (mNx t (i+1))=0))else(af s t,decide (ldW s.W t=p.a))
 else(s,false)
end
section
open Go.RowKit
def mJ(p:Int):Int×Int:=if p=0 then(0,16)else if p=1 then(16,47)else(63,1)
def lD(w:World)(p:Int):E 304 #[J p] w λe w'=>e= returned (tuple #[J (mJ p).1,J (mJ p).2])/\w=w':=by
 unfold mJ;by_cases h:p=0;.subst h;exact aaq
 .by_cases h1:p=1;.subst h1;clear h;exact aaq
  .rw[if_neg h,if_neg h1];have t0:(p==0)=false:=(by simpa using h);have t1:(p==1)=false:=(by simpa using h1);clear h h1;exact aaq
def nX(x:Nat)(k:Nat)(h:x<18446744073709551616)(H:k<64):bits .and .u64 (x:Int) ((2 ^ k-1:Nat):Int)=((x%2 ^ k:Nat):Int):=by
 have:2 ^ k-1<18446744073709551616:=by have:2 ^ k<=2 ^ 63:=Nat.pow_le_pow_right ahA ahy;omega
 rw[u64_and_nat x (2 ^ k-1) h this,Nat.and_two_pow_sub_one_eq_mod]
def zM(x:Int)(h:0<=x)(h1:x<9223372036854775808):wrap64 (bits .and .u64 x 65535)=x%65536:=by obtain⟨n,rfl⟩:=Int.eq_ofNat_of_zero_le h;have:=nX n 16 ahy ahA;rw[show((2 ^ 16-1:Nat):Int)=65535 by decide]at this;rw[this];unfold wrap64;omega
def wU(x:Int)(h:0<=x)(h1:x<9223372036854775808):wrap64 (bits .and .u64 (x/65536) 140737488355327)=x/65536:=by obtain⟨n,rfl⟩:=Int.eq_ofNat_of_zero_le h;have:=nX (n/65536) 47 ahy ahA;rw[show((2 ^ 47-1:Nat):Int)=140737488355327 by decide]at this;rw[show((n:Int)/65536)=((n/65536:Nat):Int)by omega,this,show(2 ^ 47:Nat)=140737488355328 by decide];unfold wrap64;omega
def C7(x:Int)(h:0<=x)(h1:x<9223372036854775808):wrap64 (bits .and .u64 (x/9223372036854775808) 1)=0:=by rw[show x/9223372036854775808=0 by omega];decide+kernel
def C8(v:Int)(h:0<=v)(H:v<65536):wrap64 (bits .or .u64 (bits .andNot .u64 0 65535) (bits .and .u64 v 65535))=v:=by obtain⟨n,rfl⟩:=Int.eq_ofNat_of_zero_le h;have:=nX n 16 ahy ahA;rw[show((2 ^ 16-1:Nat):Int)=65535 by decide,show(2 ^ 16:Nat)=65536 by decide,Nat.mod_eq_of_lt ahy]at this;rw[this,show bits .andNot .u64 0 65535=((0:Nat):Int)by decide+kernel,u64_or_nat 0 n ahA ahy,Nat.zero_or];unfold wrap64;omega
def Cy(x v:Nat)(h:x<65536):x|||(v*65536)=v*65536+x:=by have:=Nat.two_pow_add_eq_or_of_lt (i:=16) (b:=x) ahy v;rw[Nat.or_comm,<-show 2 ^ 16*v=v*65536 by omega];exact this.symm
def C9(x v:Int)(O:0<=x)(h1:x<65536)(V:0<=v)(Y:v<140737488355328):wrap64 (bits .or .u64 (bits .andNot .u64 x 9223372036854710272) (bits .and .u64 (v*65536) 9223372036854710272))=v*65536+x:=by
 obtain⟨n,rfl⟩:=Int.eq_ofNat_of_zero_le O;obtain⟨m,rfl⟩:=Int.eq_ofNat_of_zero_le V;have h:n<65536:=by omega
 have hm:m<140737488355328:=by omega
 have H:bits .andNot .u64 (n:Int) 9223372036854710272=((n:Nat):Int):=by
  have:=u64_andNot_nat n 9223372036854710272 ahy ahA;rw[show((9223372036854710272:Nat):Int)=9223372036854710272 by decide]at this;rw[this];congr 1;apply Nat.eq_of_testBit_eq;intro i;rw[Nat.testBit_and];by_cases hi:i<16;.have:(18446744073709551615-9223372036854710272:Nat).testBit i=true:=(by have:∀i,i<16->(18446744073709551615-9223372036854710272:Nat).testBit i=true:=(by decide);exact this i hi);rw[this,Bool.and_true]
  .rw[Nat.testBit_lt_two_pow (x:=n) (i:=i) (Nat.lt_of_lt_of_le h (by have:=Nat.pow_le_pow_right (n:=2) ahA (show 16<=i by omega);omega)),Bool.false_and]
 have I:bits .and .u64 ((m:Int)*65536) 9223372036854710272=((m*65536:Nat):Int):=by
  have:=u64_and_nat (m*65536) 9223372036854710272 ahy ahA;rw[show((9223372036854710272:Nat):Int)=9223372036854710272 by decide,show((m*65536:Nat):Int)=(m:Int)*65536 by omega]at this;rw[this];congr 1;have:(9223372036854710272:Nat)=(2 ^ 47-1)*2 ^ 16:=by decide
  rw[this,show m*65536=m*2 ^ 16 by omega,<-Nat.shiftLeft_eq,<-Nat.shiftLeft_eq,<-Nat.shiftLeft_and_distrib,Nat.and_two_pow_sub_one_eq_mod,Nat.mod_eq_of_lt ahy]
 rw[H,I,u64_or_nat n (m*65536) ahy ahy,Cy n m h];unfold wrap64;omega
def qv(w:World)(x:Int)(h:0<=x)(h1:x<9223372036854775808):E 302 #[J x,J 0] w λe w'=>e= returned (J (x%65536))/\Below w.heap.size w w':=by have HV:=qh (zM x h h1);go_enter func302,ntmps302;go_wp2_with fail;refine LT (lD _ _) ?_;rw[show(mJ 0).1=0 from rfl,show(mJ 0).2=16 from rfl];exact aar
def oY(w:World)(x:Int)(h:0<=x)(h1:x<9223372036854775808):E 302 #[J x,J 1] w λe w'=>e= returned (J (x/65536))/\Below w.heap.size w w':=by have HV:=qh (wU x h h1);go_enter func302,ntmps302;go_wp2_with fail;refine LT (lD _ _) ?_;rw[show(mJ 1).1=16 from rfl,show(mJ 1).2=47 from rfl];exact aar
def Es(w:World)(x:Int)(H:0<=x)(h1:x<9223372036854775808):E 302 #[J x,J 2] w λe w'=>e= returned (J (0))/\Qt w w':=by have h:=qh (C7 x H h1);go_enter func302,ntmps302;go_wp2_with fail;refine LT (lD _ _) ?_;rw[show(mJ 2).1=63 from rfl,show(mJ 2).2=1 from rfl];go_wp2;go_quiet (fail);go_wp2;go_ret;exact⟨by rw[h.o];rfl,⟨_,rfl⟩⟩
def qJ(w:World)(x v:Int)(O:x=0)(H:0<=v)(I:v<65536):E 301 #[J x,J 0,J v] w λe w'=>e= returned (J (v))/\Below w.heap.size w w':=by subst O;have h:=qh (C8 v H I);go_enter func301,ntmps301;go_wp2_with fail;refine LT (lD _ _) ?_;rw[show(mJ 0).1=0 from rfl,show(mJ 0).2=16 from rfl];go_wp2;go_ret;exact⟨by rw[h.o];rfl,Below.refl _ _⟩
def pA(w:World)(x v:Int)(H:0<=x)(h1:x<65536)(I:0<=v)(O:v<140737488355328):E 301 #[J x,J 1,J v] w λe w'=>e= returned (J (v*65536+x))/\Below w.heap.size w w':=by have h:=qh (C9 x v H h1 I O);go_enter func301,ntmps301;go_wp2_with fail;refine LT (lD _ _) ?_;rw[show(mJ 1).1=16 from rfl,show(mJ 1).2=47 from rfl];go_wp2;go_ret;exact⟨by rw[h.o];rfl,Below.refl _ _⟩
end
section
open Go.RowKit
def Bp(w:World)(x:Int)(h:0<=x)(h1:x<9223372036854775808):E 295 #[J x] w λe w'=>e= returned (J (x%65536))/\Below w.heap.size w w':=by go_enter func295,ntmps295;go_wp2_with fail;refine Pi (qv w x h h1) λw1 B1=>?_;exact aas
def Bw(w:World)(x:Int)(h:0<=x)(h1:x<9223372036854775808):E 297 #[J x] w λe w'=>e= returned (J (x/65536))/\Below w.heap.size w w':=by go_enter func297,ntmps297;go_wp2_with fail;refine Pi (oY w x h h1) λw1 B1=>?_;exact aas
def zb(w:World)(x:Int)(h:0<=x)(h1:x<9223372036854775808):E 296 #[J x] w λe w'=>e= returned (bool false)/\Qt w w':=by go_enter func296,ntmps296;go_wp2_with fail;refine Pi (Es w x h h1) λw1 B1=>?_;exact aas
def vo(w:World)(v:Int)(h:0<=v)(I:v<65536):E 300 #[J 0,J v] w λe w'=>e= returned (bool true)/\Below w.heap.size w w':=by
 go_enter func300,ntmps300;go_wp2_with fail;refine Pi (qJ w 0 v rfl h I) λw1 B1=>?_;go_wp2_with fail;refine ST (qv w1 v h ahy) λw2 b2=>?_;have H:=qh (B1.o.trans (b2.mono B1.o.size));have e:v%65536=v:=by omega
 rw[e];clear b2 e;go_wp2;go_ret;exact⟨az ahz,H.o⟩
def te(w:World)(v:Int)(I:0<=v)(O:v<140737488355328):E 300 #[J 1,J v] w λe w'=>e= returned (bool true)/\Below w.heap.size w w':=by
 go_enter func300,ntmps300;go_wp2_with fail;refine Pi (pA w 0 v ahy ahy I O) λw1 B1=>?_;obtain⟨x,h⟩:=LE (v*65536+0);rw[<-h];have HX:=qh h;clear h;go_wp2_with fail;refine ST (oY w1 x (by have:=HX.o;omega) (by have:=HX.o;omega)) λw2 b2=>?_;have H:=qh (B1.o.trans (b2.mono B1.o.size));have e:x/65536=v:=by have:=HX.o;omega
 rw[e];clear b2 e;go_wp2;go_ret;exact⟨az ahz,H.o⟩
def Cz(w:World)(i n:Int)(h:0<=i)(h1:i<65536)(O:0<=n)(V:n<140737488355328):E 294 #[J i,J n] w λe w'=>e= returned (tuple #[J (n*65536+i),J 0])/\Below w.heap.size w w':=by go_enter func294,ntmps294;go_wp2_with fail;refine Pi (vo w i h h1) λw1 B1=>?_;go_wp2_with fail;refine Pi (te w1 n O V) λw2 b2=>?_;have H:=qh (B1.o.trans (b2.o.mono B1.o.size));go_wp2_with fail;refine Pi (qJ w2 0 i rfl h h1) λw3 b3=>?_;have I:=qh (H.o.trans (b3.o.mono H.o.size));go_wp2_with fail;refine Pi (pA w3 i n h h1 O V) λw4 b4=>?_;have Y:=qh (I.o.trans (b4.o.mono I.o.size));go_wp2;go_ret2;exact⟨rfl,Y.o⟩
end
section
open Go
def dv(D:List Int)(t:Nat):Int:=D.getD t 0
def tokH(t:Nat)(d:Int):Int:=d*65536+((t:Int)+1)
structure Hc where
 ar:Ar
 D:List Int
 S:List Sp
def BO(n:Nat)(w:Int):Bool:=decide (0<=w/\1<=w%65536/\w%65536<=n)
def isB(W:List Int)(f:Int)(n:Nat)(w:Int):Bool:=BO n w&&decide (w/65536<=ldW W (f+(w%65536-1)))
def isA(s:Ar)(f:Int)(n:Nat)(w:Int):Ar:=if BO n w then af s (f+(w%65536-1))else s
def bz(nd n:Nat)(dl:Int)(h:Hc)(nu i:Nat)(p:Sp):Ar×List Int×Sp:=
 if p.pc=1 then(cz h.ar (2+(nu:Int)) (tokH i (dv h.D i+1)),h.D,
  if ldW h.ar.W (2+(nu:Int))≠0 then {p with a:=ldW h.ar.W (2+(nu:Int)),pc:=5} else if 0<dl then {p with a:=ldW h.ar.W (2+(nu:Int)),b:=dl,pc:=2} else {p with a:=ldW h.ar.W (2+(nu:Int)),b:=0,pc:=3})
 else if p.pc=2 then(h.ar,h.D,{p with b:=p.b-1,pc:=if 0<p.b-1 then 2 else 3})
 else if p.pc=3 then(cz h.ar (2+(nu:Int)) 0,h.D,{p with c:=ldW h.ar.W (2+(nu:Int)),pc:=4})
 else if p.pc=4 then(cz h.ar 1 p.c,h.D,{p with a:=ldW h.ar.W 1,pc:=if ldW h.ar.W 1=0 then 10 else 5})
 else if p.pc=5 then(isA h.ar (2+(nd:Int)) n p.a,h.D,{p with pc:=if isB h.ar.W (2+(nd:Int)) n p.a then 10 else 5})
 else(addA h.ar (2+(nd:Int)+i) 1,h.D.set i (dv h.D i+1),{p with pc:=0})
def iu(p:Sp):Bool:=p.pc==1||p.pc==2||p.pc==3||p.pc==4||p.pc==5||p.pc==11
def fb(nd n:Nat)(dl:Int)(node:Nat->Nat)(h:Hc)(i:Int):Hc×Bool:=
 if okI h.S i/\iu (getS h.S i)=true then
  (⟨(bz nd n dl h (node i.toNat) i.toNat (getS h.S i)).1,(bz nd n dl h (node i.toNat) i.toNat (getS h.S i)).2.1,h.S.set i.toNat (bz nd n dl h (node i.toNat) i.toNat (getS h.S i)).2.2⟩,
   decide ((bz nd n dl h (node i.toNat) i.toNat (getS h.S i)).2.2.pc=10\/(bz nd n dl h (node i.toNat) i.toNat (getS h.S i)).2.2.pc=0))
 else(h,false)
def bv(h:Hc)(i KN Kr:Int):Hc×Bool:=
 if okI h.S i/\(getS h.S i).pc=KN then(⟨h.ar,h.D,h.S.set i.toNat {getS h.S i with pc:=Kr}⟩,true)else(h,false)
def tl(W:List Int):Int:=W.getD 0 0
def lc(W:List Int)(v:Nat):Int:=W.getD (1+v) 0
def tnw(nd:Nat)(W:List Int)(i:Nat):Int:=W.getD (1+nd+i) 0
section
def dp{α:Type}(l:List α)(a d:α)(h:i≠j):(l.set i a).getD j d=l.getD j d:=by rw[oX,if_neg (λe=>h e.1)]
def Kk{α:Type}(l:List α)(a d:α)(h:i<l.length):(l.set i a).getD i d=a:=by rw[oX,if_pos ⟨rfl,h⟩]
def BQ(h:k<W.length):ldW W ((k:Int)+1)=W.getD k 0:=by unfold ldW inR;exact aat
def CW(h:k<W.length)(x:Int):stW W ((k:Int)+1) x=W.set k x:=by unfold stW inR;exact aat
def F7(hw:W.length=1+nd+n):ldW W 1=tl W:=BQ (k:=0) ahy
def Io(hw:W.length=1+nd+n)(h:v<nd):ldW W (2+(v:Int))=lc W v:=by rw[show(2+(v:Int))=((1+v:Nat):Int)+1 by omega];exact BQ ahy
def Ff(hw:W.length=1+nd+n)(h:i<n):ldW W (2+(nd:Int)+i)=tnw nd W i:=by rw[show(2+(nd:Int)+i)=((1+nd+i:Nat):Int)+1 by omega];exact BQ ahy
def GL(hw:W.length=1+nd+n)(x:Int):stW W 1 x=W.set 0 x:=CW (k:=0) ahy x
def Je(hw:W.length=1+nd+n)(h:v<nd)(x:Int):stW W (2+(v:Int)) x=W.set (1+v) x:=by rw[show(2+(v:Int))=((1+v:Nat):Int)+1 by omega];exact CW ahy x
def Jf(hw:W.length=1+nd+n)(h:i<n)(x:Int):stW W (2+(nd:Int)+i) x=W.set (1+nd+i) x:=by rw[show(2+(nd:Int)+i)=((1+nd+i:Nat):Int)+1 by omega];exact CW ahy x
end
def Lks(P:Nat->Nat->Prop):List Nat->Prop
 |[]=>True
 |a :: l=>(∀b,l.head? =some b->P a b)/\Lks P l
section
variable{P P':Nat->Nat->Prop}{l m:List Nat}
def Lks.append(h:Lks P l)(k:Lks P m)(H:∀a b,l.getLast? =some a->m.head? =some b->P a b):Lks P (l++m):=by
 induction l with
 |nil=>exact k
 |cons a l Y=>
  refine⟨λb I=>?_,Y h.2 λx y O V=>H x y ?_ V⟩
  .cases l with
   |nil=>exact H a b rfl (by simpa using I)
   |cons c l=>exact h.1 b (by simpa using I)
  .cases l with
   |nil=>simp at O
   |cons c l=>rw[List.getLast?_cons_cons];exact O
def Lks.mono(h:Lks P l)(hm:∀a b,a∈l->b∈l.tail->P a b->P' a b):Lks P' l:=by
 induction l with
 |nil=>trivial
 |cons a l V=>refine⟨λb I=>hm a b ahz (List.mem_of_mem_head? I) (h.1 b I),V h.2 λx y H O=>hm x y (List.mem_cons_of_mem _ H) (List.mem_of_mem_tail O)⟩
def Lks.mem{b:Nat}(h:Lks P l)(I:b∈l.tail):∃a,a∈l/\P a b:=by
 induction l with
 |nil=>simp at I
 |cons a l V=>
  cases l with
  |nil=>simp at I
  |cons c l=>
   rcases List.mem_cons.1 (show b∈c :: l from I)with rfl|hb'
   .exact⟨a,by simp,h.1 b rfl⟩
   .obtain⟨x,O,H⟩:=V h.2 hb';exact⟨x,List.mem_cons_of_mem _ O,H⟩
def Lks.tail(h:Lks P l):Lks P l.tail:=by
 cases l with
 |nil=>exact h
 |cons a l=>exact h.2
def Cq{t:Nat}(h:t∈l):l.head? =some t\/t∈l.tail:=by
 cases l with
 |nil=>simp at h
 |cons a l=>
  rcases List.mem_cons.1 h with rfl|h
  .exact .inl rfl
  .exact .inr h
def iC{t:Nat}(H:l.Nodup)(h:l.head? =some t):t∉l.tail:=by
 cases l with
 |nil=>simp at h
 |cons a l=>simp at h;subst h;exact(List.nodup_cons.1 H).1
def ib{t:Nat}(h:l.head? =some t):l≠[]:=by rintro rfl;simp at h
def bH{t:Nat}(h:l.head? =some t):t∈l:=List.mem_of_mem_head? h
end
def eO(D:List Int)(l:List Nat):Int:=match l.getLast? with|some t=>tokH t (dv D t+1)|none=>0
def dA{D:List Int}{l:List Nat}{t:Nat}(h:l.getLast? =some t):eO D l=tokH t (dv D t+1):=by unfold eO;rw[h]
def kD{l:List Nat}(h:l≠[]):∃t,l.getLast? =some t/\t∈l:=⟨l.getLast h,List.getLast?_eq_some_getLast h,List.getLast_mem h⟩
def lx{D:List Int}(l:List Nat){m:List Nat}(h:m≠[]):eO D (l++m)=eO D m:=by obtain⟨t,H,_⟩:=kD h;rw[dA H,dA (t:=t)];rw[List.getLast?_append,H];rfl
def Dn(n:Nat)(D:List Int)(w:Int):Prop:=∃(t:Nat) (d:Int),t<n/\1<=d/\d<=dv D t/\w=tokH t d
def HLk(D:List Int)(S:List Sp)(p s:Nat):Prop:=(sv S s).pc=5/\(sv S s).a=tokH p (dv D p+1)
structure HIv(nd n:Nat)(node:Nat->Nat)(W D:List Int)(S:List Sp)(G:Nat->List Nat):Prop where
 wl:W.length=1+nd+n
 sl:S.length=n
 dl:n<=D.length
 n32:n<=32
 nn:∀t,t<n->node t<nd
 tw:∀t,t<n->tnw nd W t=dv D t
 d0:∀t,0<=dv D t
 nod:∀k,(G k).Nodup
 dj:∀k k' t,t∈G k->t∈G k'->k=k'
 lt:∀k t,t∈G k->t<n
 lk:∀k,Lks (HLk D S) (G k)
 free:∀t,t<n->(∀k,t∉G k)->(sv S t).pc=0\/(sv S t).pc=1
 first:∀m,G (m+1)≠[]->(G (m+1)).head? =some m
 same:∀m t,t∈G (m+1)->node t=node m
 mast:∀m,G (m+1)≠[]->((((sv S m).pc=2/\0<(sv S m).b)\/(sv S m).pc=3)/\lc W (node m)=eO D (G (m+1)))\/((sv S m).pc=4/\(sv S m).c=eO D (G (m+1)))
 one:∀m m',G (m+1)≠[]->G (m'+1)≠[]->node m=node m'->(sv S m).pc<4->(sv S m').pc<4->m=m'
 loc:∀v,v<nd->lc W v=0\/∃m,G (m+1)≠[]/\(sv S m).pc<4/\node m=v
 front:∀t,(G 0).head? =some t->((sv S t).pc=5/\Dn n D (sv S t).a)\/(sv S t).pc=10\/(sv S t).pc=11
 tail:(tl W=eO D (G 0)/\G 0≠[])\/(G 0=[]/\(tl W=0\/Dn n D (tl W)))
section
variable{node:Nat->Nat}{D:List Int}{S:List Sp}{G:Nat->List Nat}{p':Sp}
def wS{t:Nat}(h:0<=d):tokH t d≠0:=by unfold tokH;omega
def E2{t H:Nat}{d':Int}(h:t<32)(I:H<32)(e:tokH t d=tokH H d'):t=H/\d=d':=by unfold tokH at e;omega
def HIv.notail(h:HIv nd n node W D S G){t:Nat}(V:t∈(G k).tail):(sv S t).pc=5/\∃p,p∈G k/\(sv S t).a=tokH p (dv D p+1):=by obtain⟨p,O,H,I⟩:=(h.lk k).mem V;exact⟨H,p,O,I⟩
def HIv.inG(h:HIv nd n node W D S G){t:Nat}(I:t∈G k):(t∈(G k).tail/\(sv S t).pc=5)\/((G k).head? =some t/\((k=0/\(((sv S t).pc=5/\Dn n D (sv S t).a)\/(sv S t).pc=10\/(sv S t).pc=11))\/(k=t+1/\((sv S t).pc=2\/(sv S t).pc=3\/(sv S t).pc=4)))):=by
 rcases Cq I with H|H
 .refine .inr ⟨H,?_⟩;cases k with
  |zero=>exact .inl ⟨rfl,h.front t H⟩
  |succ m=>
   have e:=h.first m (ib H);rw[H]at e;injection e with e;subst e;refine .inr ⟨rfl,?_⟩;rcases h.mast t (ib H)with⟨h1|h1,_⟩|⟨h1,_⟩
   .exact .inl h1.1
   .exact .inr (.inl h1)
   .exact .inr (.inr h1)
 .exact .inl ⟨H,(h.notail H).1⟩
def HIv.at01(h:HIv nd n node W D S G)(I:(sv S i).pc=0\/(sv S i).pc=1):∀k,i∉G k:=λk H=>by
 rcases h.inG H with h1|⟨_,⟨_,h1⟩|⟨_,h1⟩⟩<;>omega
def HIv.at234(h:HIv nd n node W D S G)(hi:i<n)(I:(sv S i).pc=2\/(sv S i).pc=3\/(sv S i).pc=4):(G (i+1)).head? =some i:=by
 rcases Classical.em (∀k,i∉G k)with H|H
 .have:=h.free i hi H;omega
 .obtain⟨k,H⟩:=Classical.not_forall.1 H;rcases h.inG (Classical.not_not.1 H)with h1|⟨h0,⟨_,h1⟩|⟨rfl,h1⟩⟩
  .omega
  .omega
  .exact h0
def HIv.atFront(h:HIv nd n node W D S G)(hi:i<n)(I:(sv S i).pc=10\/(sv S i).pc=11):(G 0).head? =some i:=by
 rcases Classical.em (∀k,i∉G k)with H|H
 .have:=h.free i hi H;omega
 .obtain⟨k,H⟩:=Classical.not_forall.1 H;rcases h.inG (Classical.not_not.1 H)with h1|⟨h0,⟨rfl,h1⟩|⟨rfl,h1⟩⟩
  .omega
  .exact h0
  .omega
def HIv.at5(h:HIv nd n node W D S G)(hi:i<n)(V:(sv S i).pc=5):(∃k p,i∈(G k).tail/\p∈G k/\(sv S i).a=tokH p (dv D p+1))\/((G 0).head? =some i/\Dn n D (sv S i).a):=by
 rcases Classical.em (∀k,i∉G k)with H|H
 .have:=h.free i hi H;omega
 .obtain⟨k,H⟩:=Classical.not_forall.1 H;rcases h.inG (Classical.not_not.1 H)with h1|⟨h0,⟨rfl,h1⟩|⟨rfl,h1⟩⟩
  .obtain⟨_,p,I,O⟩:=h.notail h1.1;exact .inl ⟨k,p,h1.1,I,O⟩
  .refine .inr ⟨h0,?_⟩;rcases h1 with h1|h1|h1
   .exact h1.2
   .omega
   .omega
  .omega
def cy(h:j≠i):sv (S.set i p') j=sv S j:=by rw[bh,if_neg (λe=>h e.1.symm)]
def qO(h:i<S.length):sv (S.set i p') i=p':=by rw[bh,if_pos ⟨rfl,h⟩]
def xA(hw:W.length=1+nd+n)(V:n<=32){t:Nat}(I:t<n)(O:0<=d):isB W (2+(nd:Int)) n (tokH t d)=decide (d<=tnw nd W t):=by
 have h:tokH t d%65536=t+1:=by unfold tokH;omega
 have H:tokH t d/65536=d:=by unfold tokH;omega
 unfold isB BO;rw[h,H,show(2+(nd:Int)+((t:Int)+1-1))=2+(nd:Int)+t by omega,Ff hw I,decide_eq_true (show 0<=tokH t d/\1<=(t:Int)+1/\(t:Int)+1<=n by refine⟨by unfold tokH;omega,by omega,by omega⟩)];rfl
def HIv.keep(h:HIv nd n node W D S G)(hi:i<n)(hw:W'.length=W.length)(ab:∀t,t<n->tnw nd W' t=tnw nd W t)(US:tl W'=tl W)(SQ:∀k,i∉(G k).tail)(Zv:(∀k,i∉G k)->p'.pc=0\/p'.pc=1)(ZR:G (i+1)≠[]->(((p'.pc=2/\0<p'.b)\/p'.pc=3)/\lc W' (node i)=eO D (G (i+1)))\/(p'.pc=4/\p'.c=eO D (G (i+1))))(ZU:∀m,m≠i->G (m+1)≠[]->(sv S m).pc<4->lc W' (node m)=lc W (node m))(Qk:G (i+1)≠[]->p'.pc<4->(sv S i).pc<4)(ZN:∀v,v<nd->lc W' v=0\/(lc W' v=lc W v/\(v=node i->G (i+1)≠[]->(sv S i).pc<4->p'.pc<4)))(Zw:(G 0).head? =some i->(p'.pc=5/\Dn n D p'.a)\/p'.pc=10\/p'.pc=11):HIv nd n node W' D (S.set i p') G:=by
  have Y:=qO (S:=S) (i:=i) (p':=p') ah8;refine⟨hw.trans h.wl,by simp[h.sl],h.dl,h.n32,h.nn,λt V=>(ab t V).trans (h.tw t V),h.d0,h.nod,h.dj,h.lt,λk=>?_,λt V hk=>?_,h.first,h.same,λm hm=>?_,λm m' hm Mk he h1 H=>?_,λv O=>?_,λt V=>?_,by rw[US];exact h.tail⟩;. refine(h.lk k).mono λa b _ I Ky=>?_;have:b≠i:=λe=>SQ k (e ▸ I);unfold HLk;rw[cy this];exact Ky
  . by_cases e:t=i;. subst e;rw[Y];exact Zv hk
    . rw[cy e];exact h.free t V hk
  . by_cases e:m=i;. subst e;rw[Y];exact ZR hm
    . rw[cy e];rcases h.mast m hm with⟨h1,H⟩|h1
      . exact .inl ⟨h1,by rw[ZU m e hm ahy];exact H⟩
      . exact .inr h1
  . refine h.one m m' hm Mk he ?_ ?_
    . by_cases e:m=i;. subst e;rw[Y]at h1;exact Qk hm h1
      . rw[cy e]at h1;exact h1
    . by_cases e:m'=i;. subst e;rw[Y]at H;exact Qk Mk H
      . rw[cy e]at H;exact H
  . rcases ZN v O with h1|⟨h1,H⟩
    . exact .inl h1
    . rw[h1];rcases h.loc v O with h3|⟨m,h3,h4,h5⟩
      . exact .inl h3
      . refine .inr ⟨m,h3,?_,h5⟩;by_cases e:m=i;. subst e;rw[Y];exact H h5.symm h3 h4
        . rw[cy e];exact h4
  . by_cases e:t=i;. subst e;rw[Y];exact Zw V
    . rw[cy e];exact h.front t V
end
end
section
open Go
def upd(G:Nat->List Nat)(k:Nat)(l:List Nat):Nat->List Nat:=λj=>if j=k then l else G j
def cD(G:Nat->List Nat)(k:Nat)(l:List Nat):upd G k l k=l:=by unfold upd;rw[if_pos rfl]
def pT(G:Nat->List Nat)(l:List Nat)(h:j≠k):upd G k l j=G j:=by unfold upd;rw[if_neg h]
section
variable{node:Nat->Nat}{D:List Int}{S:List Sp}{G:Nat->List Nat}{p':Sp}
def jS{u:Nat}(x:Int)(h:1+v<W.length):lc (W.set (1+v) x) u=if v=u then x else lc W u:=by
 unfold lc;by_cases e:v=u;.subst e;rw[Kk _ _ _ h,if_pos rfl]
 .rw[dp _ _ _ ahy,if_neg e]
def sd(x:Int):tl (W.set (1+v) x)=tl W:=dp _ _ _ ahy
def pP{t:Nat}(x:Int)(h:v<nd):tnw nd (W.set (1+v) x) t=tnw nd W t:=dp _ _ _ ahy
def HIv.nil1(h:HIv nd n node W D S G)(H:∀k,i∉G k):G (i+1)=[]:=by
 rcases Classical.em (G (i+1)=[])with e|e
 .exact e
 .exact absurd (bH (h.first i e)) (H _)
def HIv.ask(h:HIv nd n node W D S G)(hi:i<n)(O:(sv S i).pc=0)(Y:p'.pc=1):HIv nd n node W D (S.set i p') G:=by have I:=h.at01 (.inl O);have e:=h.nil1 I;refine h.keep hi rfl (λ_ _=>rfl) rfl (λk hm=>I k (List.mem_of_mem_tail hm)) (λ_=> .inr Y) (λH=>absurd e H) (λ_ _ _ _=>rfl) (λH=>absurd e H) (λ_ _=> .inr ⟨rfl,λ_ H=>absurd e H⟩) (λV=>absurd (bH V) (I 0))
def HIv.atFrontP(h:HIv nd n node W D S G)(hi:i<n)(V:(G 0).head? =some i)(hp:p'.pc=10\/p'.pc=11):HIv nd n node W D (S.set i p') G:=by
 have hm:=bH V
 have I:G (i+1)=[]:=by
  rcases Classical.em (G (i+1)=[])with e|e
  .exact e
  .have:=h.dj _ _ _ hm (bH (h.first i e));omega
 refine h.keep hi rfl (λ_ _=>rfl) rfl (λk O=>?_) (λY=>absurd hm (Y 0)) (λH=>absurd I H) (λ_ _ _ _=>rfl) (λH=>absurd I H) (λ_ _=> .inr ⟨rfl,λ_ H=>absurd I H⟩) (λ_=> .inr hp);have:=h.dj _ _ _ hm (List.mem_of_mem_tail O);subst this;exact iC (h.nod 0) V O
def HIv.masterNot(h:HIv nd n node W D S G)(I:(G (i+1)).head? =some i):(∀k,i∉(G k).tail)/\¬(G 0).head? =some i:=by
 have hm:=bH I;refine⟨λk H=>?_,λO=>?_⟩;.have:=h.dj _ _ _ hm (List.mem_of_mem_tail H);subst this;exact iC (h.nod _) I H
 .have:=h.dj _ _ _ hm (bH O);omega
def HIv.s2(h:HIv nd n node W D S G)(hi:i<n)(O:(sv S i).pc=2)(hp:(p'.pc=2/\0<p'.b)\/p'.pc=3):HIv nd n node W D (S.set i p') G:=by
 have I:=h.at234 hi (.inl O);obtain⟨q1,q2⟩:=h.masterNot I;refine h.keep hi rfl (λ_ _=>rfl) rfl q1 (λY=>absurd (bH I) (Y _)) (λH=>?_) (λ_ _ _ _=>rfl) (λ_ _=>by omega) (λ_ _=> .inr ⟨rfl,λ_ _ _=>by omega⟩) (λV=>absurd V q2);rcases h.mast i H with⟨_,h1⟩|⟨h1,_⟩
 .exact .inl ⟨hp,h1⟩
 .omega
def HIv.s3(h:HIv nd n node W D S G)(hi:i<n)(h3:(sv S i).pc=3)(hp:p'.pc=4)(hc:p'.c=lc W (node i)):HIv nd n node (W.set (1+node i) 0) D (S.set i p') G:=by
 have I:=h.at234 hi (.inr (.inl h3));obtain⟨q1,q2⟩:=h.masterNot I;have O:=h.nn i hi;have V:1+node i<W.length:=by rw[h.wl];omega
 refine h.keep hi ahz (λt _=>pP 0 O) (sd 0) q1 (λhk=>absurd (bH I) (hk _)) (λH=>?_) (λm hm H h4=>?_) (λ_ _=>by omega) (λv _=>?_) (λhh=>absurd hh q2)
 .rcases h.mast i H with⟨_,h1⟩|⟨h1,_⟩
  .exact .inr ⟨hp,hc.trans h1⟩
  .omega
 .rw[jS 0 V,if_neg];intro e;exact hm (h.one m i H (ib I) e.symm h4 ahy)
 .rw[jS 0 V];by_cases e:node i=v;.exact .inl (by rw[if_pos e])
  .exact .inr ⟨by rw[if_neg e],λY=>absurd Y.symm e⟩
def HIv.same5(h:HIv nd n node W D S G)(hi:i<n)(H:p'=sv S i):HIv nd n node W D (S.set i p') G:=by
 have:S.set i p'=S:=by
  subst H;apply List.ext_getElem?;intro j;rw[List.getElem?_set];by_cases e:i=j;.subst e;have:i<S.length:=(by rw[h.sl];exact hi);rw[if_pos rfl,if_pos this];exact aav
  .rw[if_neg e]
 rw[this];exact h
def HIv.s5(h:HIv nd n node W D S G)(hi:i<n)(Y:(sv S i).pc=5)(I:isB W (2+(nd:Int)) n (sv S i).a=true):(G 0).head? =some i:=by
 rcases h.at5 hi Y with⟨k,p,_,O,V⟩|h1
 .have H:=h.lt k p O;rw[V,xA h.wl h.n32 H (by have:=h.d0 p;omega),h.tw p H]at I;have:=of_decide_eq_true I;omega
 .exact h1.1
def HIv.s5n(h:HIv nd n node W D S G)(O:(G 0).head? =some i)(Y:(sv S i).pc=5):isB W (2+(nd:Int)) n (sv S i).a=true:=by
 rcases h.front i O with⟨_,t,d,h1,V,H,I⟩|h1|h1
 .rw[I,xA h.wl h.n32 h1 ahy,h.tw t h1];exact decide_eq_true H
 .omega
 .omega
def HIv.s1a(h:HIv nd n node W D S G)(hi:i<n)(h1:(sv S i).pc=1)(hl:lc W (node i)=0)(hp:(p'.pc=2/\0<p'.b)\/p'.pc=3):HIv nd n node (W.set (1+node i) (tokH i (dv D i+1))) D (S.set i p') (upd G (i+1) [i]):=by
 have hk:=h.at01 (.inr h1);have O:=h.nn i hi;have LG:1+node i<W.length:=by rw[h.wl];omega
 have MA:=qO (S:=S) (i:=i) (p':=p') ah8;have C':eO D [i]=tokH i (dv D i+1):=dA rfl
 have SP:∀m,G (m+1)≠[]->(sv S m).pc<4->node m≠node i:=λm hm h4 e=>by
  rcases h.mast m hm with⟨_,V⟩|⟨V,_⟩
  .rw[e,hl]at V;obtain⟨t,ht,_⟩:=kD hm;rw[dA ht]at V;exact wS (by have:=h.d0 t;omega) V.symm
  .omega
 have hu:∀k,k≠i+1->upd G (i+1) [i] k=G k:=λk e=>pT G _ e;have MY:∀m,m≠i->upd G (i+1) [i] (m+1)=G (m+1):=λm e=>hu _ ahy;refine⟨by simp[h.wl],by simp[h.sl],h.dl,h.n32,h.nn,λt ht=>(pP _ O).trans (h.tw t ht),h.d0,λk=>?_,λk k' t H KJ=>?_,λk t hm=>?_,λk=>?_,λt ht H=>?_,λm hm=>?_,λm t hm=>?_,λm hm=>?_,λm m' hm Mk he V h3=>?_,λv L6=>?_,λt ht=>?_,?_⟩
 .by_cases e:k=i+1;.rw[e,cD];simp
  .rw[hu k e];exact h.nod k
 .by_cases e:k=i+1<;>by_cases Y:k'=i+1;.omega
  .rw[e,cD]at H;rw[hu k' Y]at KJ;rw[List.mem_singleton.1 H]at KJ;exact absurd KJ (hk k')
  .rw[Y,cD]at KJ;rw[hu k e]at H;rw[List.mem_singleton.1 KJ]at H;exact absurd H (hk k)
  .rw[hu k e]at H;rw[hu k' Y]at KJ;exact h.dj k k' t H KJ
 .by_cases e:k=i+1;.rw[e,cD]at hm;rw[List.mem_singleton.1 hm];exact hi
  .rw[hu k e]at hm;exact h.lt k t hm
 .by_cases e:k=i+1;.rw[e,cD];exact⟨λb I=>by simp at I,trivial⟩
  .rw[hu k e];refine(h.lk k).mono λa b _ I Ky=>?_;exact aaw
 .have e:t≠i:=λe=>H (i+1) (by rw[cD,e];simp);rw[cy e];refine h.free t ht λk=>?_;by_cases e2:k=i+1;.rw[e2,h.nil1 hk];simp
  .have:=H k;rw[hu k e2]at this;exact this
 .by_cases e:m=i;.rw[e,cD];rfl
  .rw[MY m e]at hm ⊢;exact h.first m hm
 .by_cases e:m=i;.rw[e,cD]at hm;rw[List.mem_singleton.1 hm,e]
  .rw[MY m e]at hm;exact h.same m t hm
 .by_cases e:m=i;.subst e;rw[cD,MA,jS _ LG,if_pos rfl,C'];exact .inl ⟨hp,rfl⟩
  .rw[MY m e]at hm ⊢;rw[cy e];rcases h.mast m hm with⟨V,h3⟩|V
   .refine .inl ⟨V,?_⟩;rw[jS _ LG,if_neg (λY=>SP m hm ahy Y.symm)];exact h3
   .exact .inr V
 .by_cases e:m=i<;>by_cases Y:m'=i;.omega
  .rw[MY m' Y]at Mk;rw[cy Y]at h3;subst e;exact absurd he.symm (SP m' Mk h3)
  .rw[MY m e]at hm;rw[cy e]at V;subst Y;exact absurd he (SP m hm V)
  .rw[MY m e]at hm;rw[MY m' Y]at Mk;rw[cy e]at V;rw[cy Y]at h3;exact h.one m m' hm Mk he V h3
 .by_cases e:node i=v;.refine .inr ⟨i,by rw[cD];simp,?_,e⟩;rw[MA];omega
  .rw[jS _ LG,if_neg e];rcases h.loc v L6 with V|⟨m,V,h3,h4⟩
   .exact .inl V
   .have e2:m≠i:=λe2=>e (by rw[<-e2];exact h4);exact .inr ⟨m,by rw[MY m e2];exact V,by rw[cy e2];exact h3,h4⟩
 .rw[hu 0 ahy]at ht;rw[cy (λe=>hk 0 (by rw[<-e];exact bH ht))];exact h.front t ht
 .rw[hu 0 ahy,sd];exact h.tail
def HIv.s1b(h:HIv nd n node W D S G)(hi:i<n)(h1:(sv S i).pc=1)(hl:lc W (node i)≠0)(hp:p'.pc=5)(ha:p'.a=lc W (node i)):∃m t,G (m+1)≠[]/\t∈G (m+1)/\node t=node i/\p'.a=tokH t (dv D t+1)/\HIv nd n node (W.set (1+node i) (tokH i (dv D i+1))) D (S.set i p') (upd G (m+1) (G (m+1)++[i])):=by
  have hk:=h.at01 (.inr h1);have O:=h.nn i hi;have LG:1+node i<W.length:=by rw[h.wl];omega
  have MA:=qO (S:=S) (i:=i) (p':=p') ah8;rcases h.loc (node i) O with Y|⟨m,hm,WR,PO⟩
  . exact absurd Y hl
  have KY:lc W (node m)=eO D (G (m+1)):=by
    rcases h.mast m hm with⟨_,Y⟩|⟨Y,_⟩
    . exact Y
    . omega
  obtain⟨t,ht,RJ⟩:=kD hm;have ad:p'.a=tokH t (dv D t+1):=by rw[ha,<-PO,KY,dA ht]
  have SJ:m≠i:=λe=>by rw[e]at hm;exact hm (h.nil1 hk)
  refine⟨m,t,hm,RJ,(h.same m t RJ).trans PO,ad,?_⟩;have hu:∀k,k≠m+1->upd G (m+1) (G (m+1)++[i]) k=G k:=λk e=>pT G _ e;have MY:∀j,j≠m->upd G (m+1) (G (m+1)++[i]) (j+1)=G (j+1):=λj e=>hu _ ahy;have ZJ:eO D (G (m+1)++[i])=tokH i (dv D i+1):=by rw[lx _ ahz];exact dA rfl
  have ab:∀j,upd G (m+1) (G (m+1)++[i]) (j+1)≠[]->G (j+1)≠[]:=λj V=>by
    by_cases e:j=m;. rw[e];exact hm
    . rw[MY j e]at V;exact V
  refine⟨by simp[h.wl],by simp[h.sl],h.dl,h.n32,h.nn,λt ht=>(pP _ O).trans (h.tw t ht),h.d0,λk=>?_,λk k' t H KJ=>?_,λk t hm=>?_,λk=>?_,λt ht H=>?_,λj V=>?_,λj t V=>?_,λj V=>?_,λj j' V MM he Y h3=>?_,λv L6=>?_,λt ht=>?_,?_⟩
  . by_cases e:k=m+1;. rw[e,cD];refine List.nodup_append.2 ⟨h.nod _,by simp,λx hx y hy=>?_⟩;rw[List.mem_singleton.1 hy];rintro rfl;exact hk _ hx
    . rw[hu k e];exact h.nod k
  . by_cases e:k=m+1<;>by_cases e':k'=m+1;. omega
    . rw[e,cD]at H;rw[hu k' e']at KJ;rcases List.mem_append.1 H with H|H
      . rw[e];exact h.dj _ _ t H KJ
      . rw[List.mem_singleton.1 H]at KJ;exact absurd KJ (hk k')
    . rw[e',cD]at KJ;rw[hu k e]at H;rcases List.mem_append.1 KJ with KJ|KJ
      . rw[e'];exact h.dj _ _ t H KJ
      . rw[List.mem_singleton.1 KJ]at H;exact absurd H (hk k)
    . rw[hu k e]at H;rw[hu k' e']at KJ;exact h.dj k k' t H KJ
  . by_cases e:k=m+1
    . rw[e,cD]at hm;rcases List.mem_append.1 hm with hm|hm
      . exact h.lt _ t hm
      . rw[List.mem_singleton.1 hm];exact hi
    . rw[hu k e]at hm;exact h.lt k t hm
  . have old:∀k,Lks (HLk D (S.set i p')) (G k):=λk=>(h.lk k).mono λa b _ I Ky=>by exact aaw
    by_cases e:k=m+1;. rw[e,cD];refine(old _).append ⟨λb I=>by simp at I,trivial⟩ λa b Lz al=>?_;have e1:b=i:=(by simpa using al.symm);rw[ht]at Lz;injection Lz with Lz;subst e1 Lz;unfold HLk;rw[MA];exact⟨hp,ad⟩
    . rw[hu k e];exact old k
  . have e:t≠i:=λe=>H (m+1) (by rw[cD,e];simp);rw[cy e];refine h.free t ht λk=>?_;by_cases e2:k=m+1;. have:=H k;rw[e2,cD]at this;rw[e2];exact λhx=>this (List.mem_append_left _ hx)
    . have:=H k;rw[hu k e2]at this;exact this
  . by_cases e:j=m;. rw[e,cD,List.head?_append,h.first m hm];rfl
    . rw[MY j e]at V ⊢;exact h.first j V
  . by_cases e:j=m
    . rw[e,cD]at V;rcases List.mem_append.1 V with V|V
      . rw[e];exact h.same m t V
      . rw[List.mem_singleton.1 V,e];exact PO.symm
    . rw[MY j e]at V;exact h.same j t V
  . have MV:j≠i:=λe=>by have:=ab j V;rw[e]at this;exact this (h.nil1 hk)
    rw[cy MV];by_cases e:j=m
    . subst e;rcases h.mast j hm with⟨Y,h3⟩|⟨Y,_⟩
      . exact .inl ⟨Y,by rw[cD,ZJ,jS _ LG,if_pos PO.symm]⟩
      . omega
    . rw[MY j e]at V ⊢;rcases h.mast j V with⟨Y,h3⟩|Y
      . refine .inl ⟨Y,?_⟩;rw[jS _ LG,if_neg];. exact h3
        . intro e';exact e (h.one j m V hm (e'.symm.trans PO.symm) ahy WR)
      . exact .inr Y
  . have e1:j≠i:=λe=>by have:=ab j V;rw[e]at this;exact this (h.nil1 hk)
    have e2:j'≠i:=λe=>by have:=ab j' MM;rw[e]at this;exact this (h.nil1 hk)
    rw[cy e1]at Y;rw[cy e2]at h3;exact h.one j j' (ab j V) (ab j' MM) he Y h3
  . by_cases e:node i=v;. exact .inr ⟨m,by rw[cD];simp,by rw[cy SJ];exact WR,PO.trans e⟩
    . rw[jS _ LG,if_neg e];rcases h.loc v L6 with Y|⟨j,Y,h3,h4⟩
      . exact .inl Y
      . have e2:j≠i:=λe2=>e (by rw[<-e2];exact h4);have e3:j≠m:=λe3=>e (by rw[<-h4,e3,PO]);exact .inr ⟨j,by rw[MY j e3];exact Y,by rw[cy e2];exact h3,h4⟩
  . rw[hu 0 ahy]at ht;rw[cy (λe=>hk 0 (by rw[<-e];exact bH ht))];exact h.front t ht
  . rw[hu 0 ahy,sd];exact h.tail
end
end
section
open Go
section
variable{node:Nat->Nat}{D:List Int}{S:List Sp}{G:Nat->List Nat}{p':Sp}
def spl(G:Nat->List Nat)(i:Nat):Nat->List Nat:=λj=>if j=0 then G 0++G (i+1)else if j=i+1 then[]else G j
def zw(G:Nat->List Nat)(i:Nat):spl G i 0=G 0++G (i+1):=by unfold spl;rw[if_pos rfl]
def EN(G:Nat->List Nat)(i:Nat):spl G i (i+1)=[]:=by unfold spl;rw[if_neg ahy,if_pos rfl]
def CU(G:Nat->List Nat)(h:j≠i):spl G i (j+1)=G (j+1):=by unfold spl;rw[if_neg ahy,if_neg ahy]
def E1(x:Int)(h:0<W.length):tl (W.set 0 x)=x:=Kk _ _ _ h
def xC(x:Int):lc (W.set 0 x) v=lc W v:=dp _ _ _ ahy
def C3{t:Nat}(x:Int):tnw nd (W.set 0 x) t=tnw nd W t:=dp _ _ _ ahy
def rK{t:Nat}(hm:t∈spl G i k):∃h,t∈G h/\(k=h\/(k=0/\h=i+1)):=by
 unfold spl at hm;split at hm
 .rename_i e;rcases List.mem_append.1 hm with hm|hm
  .exact⟨0,hm,.inl e⟩
  .exact⟨i+1,hm,.inr ⟨e,rfl⟩⟩
 .split at hm;.simp at hm
  .exact⟨k,hm,.inl rfl⟩
def HIv.s4(h:HIv nd n node W D S G)(hi:i<n)(h4:(sv S i).pc=4)(hp:(tl W=0/\p'.pc=10)\/(tl W≠0/\p'.pc=5))(ha:p'.a=tl W):(∃r,G (i+1)=i :: r)/\(p'.pc=10->G 0=[])/\HIv nd n node (W.set 0 (sv S i).c) D (S.set i p') (spl G i):=by
  have hf:=h.at234 hi (.inr (.inr h4));have al:=ib hf;have LG:0<W.length:=by rw[h.wl];omega
  have MA:=qO (S:=S) (i:=i) (p':=p') ah8;obtain⟨q1,q2⟩:=h.masterNot hf
  have hc:(sv S i).c=eO D (G (i+1)):=by
    rcases h.mast i al with⟨H,_⟩|⟨_,H⟩
    . omega
    . exact H
  have Zs:p'.pc=10->G 0=[]:=λe=>by
    rcases h.tail with⟨H,Y⟩|⟨H,_⟩
    . rcases hp with⟨h5,_⟩|⟨_,h6⟩
      . obtain⟨t,ht,_⟩:=kD Y;rw[h5,dA ht]at H;exact absurd H.symm (wS (by have:=h.d0 t;omega))
      . omega
    . exact H
  refine⟨?_,Zs,?_⟩
  . cases V:G (i+1)with
    | nil=>exact absurd V al
    | cons a r=>rw[V]at hf;simp at hf;subst hf;exact⟨r,rfl⟩
  have old:∀k,Lks (HLk D (S.set i p')) (G k):=λk=>(h.lk k).mono λa b _ I Ky=>by have:b≠i:=λe=>q1 k (e ▸ I);unfold HLk;rw[cy this];exact Ky
  have hm0:∀m,spl G i (m+1)≠[]->m≠i/\G (m+1)≠[]:=λm hm=>by
    by_cases e:m=i;. rw[e,EN]at hm;exact absurd rfl hm
    . rw[CU G e]at hm;exact⟨e,hm⟩
  refine⟨by simp[h.wl],by simp[h.sl],h.dl,h.n32,h.nn,λt ht=>(C3 _).trans (h.tw t ht),h.d0,λk=>?_,λk k' t O KJ=>?_,λk t hm=>?_,λk=>?_,λt ht O=>?_,λm hm=>?_,λm t hm=>?_,λm hm=>?_,λm m' hm Mk he H Y=>?_,λv L6=>?_,λt ht=>?_,?_⟩
  . unfold spl;split;. refine List.nodup_append.2 ⟨h.nod _,h.nod _,λx hx y hy e=>?_⟩;subst e;have:=h.dj _ _ _ hx hy;omega
    . split;. exact List.nodup_nil
      . exact h.nod k
  . obtain⟨j,hj,ej⟩:=rK O;obtain⟨j',MM,YW⟩:=rK KJ;have e:=h.dj _ _ _ hj MM;subst e;rcases ej with rfl|⟨rfl,rfl⟩<;>rcases YW with e'|⟨rfl,e'⟩
    . exact e'.symm
    . subst e';rw[EN]at O;simp at O
    . subst e';rw[EN]at KJ;simp at KJ
    . rfl
  . obtain⟨j,hj,_⟩:=rK hm;exact h.lt j t hj
  . unfold spl;split
    . refine(old 0).append (old _) λa b Lz ad=>?_;rw[hf]at ad;injection ad with ad;subst ad;rcases h.tail with⟨H,Y⟩|⟨H,_⟩
      . unfold HLk;rw[MA,ha,H,dA Lz];refine⟨?_,rfl⟩;rcases hp with⟨h5,_⟩|⟨_,h6⟩
        . rw[h5,dA Lz]at H;exact absurd H.symm (wS (by have:=h.d0 a;omega))
        . exact h6
      . rw[H]at Lz;simp at Lz
    . split;. trivial
      . exact old k
  . have e:t≠i:=λe=>O 0 (by rw[zw,e];exact List.mem_append_right _ (bH hf));rw[cy e];refine h.free t ht λk hk=>?_;by_cases e0:k=0;. subst e0;exact O 0 (by rw[zw];exact List.mem_append_left _ hk)
    . by_cases e1:k=i+1;. subst e1;exact O 0 (by rw[zw];exact List.mem_append_right _ hk)
      . exact O k (by unfold spl;rw[if_neg e0,if_neg e1];exact hk)
  . obtain⟨e,ab⟩:=hm0 m hm;rw[CU G e];exact h.first m ab
  . have e:m≠i:=λe=>by rw[e,EN]at hm;simp at hm
    rw[CU G e]at hm;exact h.same m t hm
  . obtain⟨e,ab⟩:=hm0 m hm;rw[CU G e,cy e,xC];exact h.mast m ab
  . obtain⟨e,ab⟩:=hm0 m hm;obtain⟨e',ZQ⟩:=hm0 m' Mk;rw[cy e]at H;rw[cy e']at Y;exact h.one m m' ab ZQ he H Y
  . rw[xC];rcases h.loc v L6 with H|⟨m,H,Y,h5⟩
    . exact .inl H
    . have e:m≠i:=λe=>by rw[e]at Y;omega
      exact .inr ⟨m,by rw[CU G e];exact H,by rw[cy e];exact Y,h5⟩
  . rw[zw]at ht;by_cases h0:G 0=[]
    . rw[h0,List.nil_append,hf]at ht;injection ht with ht;subst ht;rw[MA];rcases hp with⟨_,h5⟩|⟨h5,h6⟩
      . exact .inr (.inl h5)
      . refine .inl ⟨h6,?_⟩;rw[ha];rcases h.tail with⟨_,Y⟩|⟨_,Y|Y⟩
        . exact absurd h0 Y
        . exact absurd Y h5
        . exact Y
    . have N5:(G 0).head? =some t:=by
        cases hg:G 0 with
        | nil=>exact absurd hg h0
        | cons a l=>rw[hg]at ht;simpa using ht
      rw[cy (λe:t=i=>q2 (by rw[<-e];exact N5))];exact h.front t N5
  . rw[zw,E1 _ LG];exact .inl ⟨by rw[lx _ al];exact hc,by simp[al]⟩
def Bd(h:i<D.length)(x:Int)(t:Nat):dv (D.set i x) t=if i=t then x else dv D t:=by
 unfold dv;by_cases e:i=t;.subst e;rw[Kk _ _ _ h,if_pos rfl]
 .rw[dp _ _ _ e,if_neg e]
def mW{l:List Nat}(h:∀t∈l,dv D' t=dv D t):eO D' l=eO D l:=by
 unfold eO;cases H:l.getLast? with
 |none=>rfl
 |some t=>simp only;rw[h t (List.mem_of_getLast? H)]
def HIv.s11(h:HIv nd n node W D S G)(hi:i<n)(hf:(G 0).head? =some i)(hp:p'.pc=0)(x:Int)(hx:x=dv D i+1):HIv nd n node (W.set (1+nd+i) x) (D.set i (dv D i+1)) (S.set i p') (upd G 0 (G 0).tail):=by
  have hm0:=bH hf;have LG:1+nd+i<W.length:=by rw[h.wl];omega
  have OI:i<D.length:=by have:=h.dl;omega
  have MA:=qO (S:=S) (i:=i) (p':=p') ah8;have Om:i∉(G 0).tail:=iC (h.nod 0) hf;have SG:∀k,k≠0->i∉G k:=λk hk hm=>hk (h.dj _ _ _ hm hm0)
  have SQ:∀k,i∉(G k).tail:=λk hm=>by
    by_cases e:k=0;. subst e;exact Om hm
    . exact SG k e (List.mem_of_mem_tail hm)
  have WN:∀v,v<nd->lc (W.set (1+nd+i) x) v=lc W v:=λv O=>dp _ _ _ ahy;have al:tl (W.set (1+nd+i) x)=tl W:=dp _ _ _ ahy
  have ax:∀t,tnw nd (W.set (1+nd+i) x) t=if i=t then x else tnw nd W t:=λt=>by
    unfold tnw;by_cases e:i=t;. subst e;rw[Kk _ _ _ LG,if_pos rfl]
    . rw[dp _ _ _ ahy,if_neg e]
  have Ro:=Bd OI (dv D i+1);have NA:∀t,t≠i->dv (D.set i (dv D i+1)) t=dv D t:=λt e=>by rw[Ro,if_neg (λh=>e h.symm)]
  have Nd:∀t,dv D t<=dv (D.set i (dv D i+1)) t:=λt=>by rw[Ro];split<;>(try subst_vars)<;>omega
  have hu:∀k,k≠0->upd G 0 (G 0).tail k=G k:=λk e=>pT G _ e
  have PY:∀k t,t∈upd G 0 (G 0).tail k->t∈G k/\t≠i:=λk t hm=>by
    by_cases e:k=0;. subst e;rw[cD]at hm;exact⟨List.mem_of_mem_tail hm,λe=>Om (e ▸ hm)⟩
    . rw[hu k e]at hm;exact⟨hm,λe'=>SG k e (e' ▸ hm)⟩
  have Zm:∀k,Lks (HLk D S) (upd G 0 (G 0).tail k):=λk=>by
    by_cases e:k=0;. subst e;rw[cD];exact(h.lk 0).tail
    . rw[hu k e];exact h.lk k
  have SN:∀m,G (m+1)≠[]->m≠i:=λm hm e=>by subst e;exact SG _ ahy (bH (h.first m hm))
  have C':∀k,k≠0->eO (D.set i (dv D i+1)) (G k)=eO D (G k):=λk e=>mW λt H=>NA t λe'=>SG k e (e' ▸ H);refine⟨by simp[h.wl],by simp[h.sl],by simpa using h.dl,h.n32,h.nn,λt H=>?_,λt=>?_,λk=>?_,λk k' t ab KJ=>?_,λk t hm=>?_,λk=>?_,λt H ab=>?_,λm hm=>?_,λm t hm=>?_,λm hm=>?_,λm m' hm Mk he Y V=>?_,λv L6=>?_,λt H=>?_,?_⟩
  . rw[ax,Ro,hx];split;. rfl
    . exact h.tw t H
  . have:=Nd t;have:=h.d0 t;omega
  . by_cases e:k=0;. subst e;rw[cD];exact(h.nod 0).sublist (List.tail_sublist _)
    . rw[hu k e];exact h.nod k
  . exact h.dj k k' t (PY k t ab).1 (PY k' t KJ).1
  . exact h.lt k t (PY k t hm).1
  . refine(Zm k).mono λa b ha I Ky=>?_;have e1:=(PY k a ha).2;have e2:=(PY k b (List.mem_of_mem_tail I)).2;unfold HLk;rw[cy e2,NA a e1];exact Ky
  . by_cases e:t=i;. subst e;rw[MA];exact .inl hp
    . rw[cy e];refine h.free t H λk hk=>ab k ?_;by_cases e2:k=0
      . subst e2;rw[cD];rcases Cq hk with V|V
        . rw[hf]at V;injection V with V;exact absurd V.symm e
        . exact V
      . rw[hu k e2];exact hk
  . rw[hu _ ahy]at hm ⊢;exact h.first m hm
  . rw[hu _ ahy]at hm;exact h.same m t hm
  . rw[hu _ ahy]at hm ⊢;have e:=SN m hm;rw[cy e,WN _ (h.nn m (h.lt _ _ (bH (h.first m hm)))),C' _ ahy];exact h.mast m hm
  . rw[hu _ ahy]at hm Mk;rw[cy (SN m hm)]at Y;rw[cy (SN m' Mk)]at V;exact h.one m m' hm Mk he Y V
  . rw[WN v L6];rcases h.loc v L6 with Y|⟨m,Y,V,h4⟩
    . exact .inl Y
    . exact .inr ⟨m,by rw[hu _ ahy];exact Y,by rw[cy (SN m Y)];exact V,h4⟩
  . rw[cD]at H;have RJ:=bH H;have e:t≠i:=λe=>Om (e ▸ RJ);rw[cy e];obtain⟨h5,p,Z7,ad⟩:=h.notail RJ;refine .inl ⟨h5,?_⟩
    have Z6:p=i:=by
      have hc:=h.lk 0;cases hg:G 0 with
      | nil=>rw[hg]at H;simp at H
      | cons a l=>rw[hg]at hc hf H;simp at hf H;subst hf;have:=(hc.1 t H).2;rw[ad]at this;exact(E2 (by have:=h.lt 0 p Z7;have:=h.n32;omega) (by have:=h.n32;omega) this).1
    subst Z6;exact⟨p,dv D p+1,hi,by have:=h.d0 p;omega,by rw[Ro,if_pos rfl];exact Int.le_refl _,ad⟩
  . rw[cD,al];rcases h.tail with⟨Y,V⟩|⟨Y,V⟩
    . cases hg:G 0 with
      | nil=>exact absurd hg V
      | cons a l=>
        rw[hg]at hf Y;simp at hf;subst hf;cases l with
        | nil=>exact .inr ⟨rfl,.inr ⟨a,dv D a+1,hi,by have:=h.d0 a;omega,by rw[Ro,if_pos rfl];exact Int.le_refl _,by rw[Y];exact dA rfl⟩⟩
        | cons b l=>refine .inl ⟨?_,by simp⟩;have e1:eO D (a :: b :: l)=eO D (b :: l):=(by unfold eO;rw[List.getLast?_cons_cons]);rw[Y,e1];refine(mW λt H=>NA t λe=>?_).symm;rw[hg]at Om;exact Om (e ▸ H)
    . rw[Y]at hf;simp at hf
end
end
section
open Go
structure HOk(nd n:Nat)(dl:Int)(node:Nat->Nat)(h:Hc)(N:Nat)(G:Nat->List Nat):Prop where
 iv:HIv nd n node h.ar.W h.D h.S G
 ops:h.ar.ops<=N
 dn:∀t,dv h.D t<=N
 bb:∀t,t<n->(sv h.S t).pc=2->(sv h.S t).b<=dl
structure StH(n:Nat)(node:Nat->Nat)(p p':Sp)(i:Nat)(Q Q':List Nat):Prop where
 row:p.pc=1->p'.pc=5->∃(t:Nat) (d:Int),t<n/\node t=node i/\0<=d/\p'.a=tokH t d
 stay:p.pc≠4->p.pc≠11->Q'=Q
 splice:p.pc=4->(∃r,Q'=Q++i :: r)/\(p'.pc=10->Q=[])
 gone:p.pc=11->Q.head? =some i/\Q'=Q.tail
 enter:p'.pc=10->p.pc≠10->p.pc=4\/(p.pc=5/\Q.head? =some i)
 look:p.pc=5->Q.head? =some i->p'.pc=10
 only:p.pc=1\/p.pc=2\/p.pc=3\/p.pc=4\/p.pc=5\/p.pc=11
 less:p.pc≠5->p'.pc=p.pc->p'.pc=2/\p'.b=p.b-1/\1<=p'.b
 next:p'.pc=p.pc\/(p.pc=1/\(p'.pc=2\/p'.pc=3\/p'.pc=5))\/(p.pc=2/\p'.pc=3)\/(p.pc=3/\p'.pc=4)\/(p.pc=4/\(p'.pc=5\/p'.pc=10))\/(p.pc=5/\p'.pc=10)\/(p.pc=11/\p'.pc=0)
section
variable{N:Nat}{dl:Int}{node:Nat->Nat}{h:Hc}{G:Nat->List Nat}
def tp{p:Sp}:iu p=true↔(p.pc=1\/p.pc=2\/p.pc=3\/p.pc=4\/p.pc=5\/p.pc=11):=by unfold iu;simp[or_assoc]
def Il(s:Ar)(f:Int)(n:Nat)(w:Int):(isA s f n w).W=s.W:=by unfold isA;split<;>simp[aQ]
def rq(s:Ar)(f:Int)(n:Nat)(w:Int):(isA s f n w).ops<=s.ops+1:=by unfold isA;split<;>simp[iW]
def HOk.bset(k:HOk nd n dl node h N G)(hi:i<n){p':Sp}(I:p'.pc=2->p'.b<=dl):∀t,t<n->(sv (h.S.set i p') t).pc=2->(sv (h.S.set i p') t).b<=dl:=λt O H=>by
 by_cases e:t=i
 .subst e
  rw[qO (by rw[k.iv.sl];exact hi)]at H ⊢
  exact I H
 .rw[cy e]at H ⊢;exact k.bb t O H
def HOk.step(k:HOk nd n dl node h N G)(hN:N<1000000)(hi:i<n)(hg:iu (sv h.S i)=true)(x:Ar×List Int×Sp)(hx:x=bz nd n dl h (node i) i (sv h.S i)):∃G',HOk nd n dl node ⟨x.1,x.2.1,h.S.set i x.2.2⟩ (N+1) G'/\StH n node (sv h.S i) x.2.2 i (G 0) (G' 0):=by
  have O:=k.iv.nn i hi;have Lr:=Io (W:=h.ar.W) (n:=n) k.iv.wl O;have Kl:=λy=>Je (W:=h.ar.W) (n:=n) k.iv.wl O y;have NA:∀t,dv h.D t<=(N+1:Nat):=λt=>by have:=k.dn t;omega
  have Nf:∀{s:Ar},s.ops<=h.ar.ops+1->s.ops<=N+1:=λhs=>by have:=k.ops;omega
  rcases tp.1 hg with e|e|e|e|e|e
  . have H:x=(cz h.ar (2+(node i:Int)) (tokH i (dv h.D i+1)),h.D,
      if lc h.ar.W (node i)≠0 then {sv h.S i with a:=lc h.ar.W (node i),pc:=5} else if 0<dl then {sv h.S i with a:=lc h.ar.W (node i),b:=dl,pc:=2} else {sv h.S i with a:=lc h.ar.W (node i),b:=0,pc:=3}):=by
      rw[hx];unfold bz;rw[if_pos e,Lr]
    by_cases c:lc h.ar.W (node i)=0
    . have N7:x.2.2=if 0<dl then {sv h.S i with a:=lc h.ar.W (node i),b:=dl,pc:=2} else {sv h.S i with a:=lc h.ar.W (node i),b:=0,pc:=3}:=by rw[H];simp only[c,ne_eq,not_true,if_false]
      have Y:(x.2.2.pc=2/\0<x.2.2.b)\/x.2.2.pc=3:=by
        rw[N7];split;. rename_i OI;exact .inl ⟨rfl,OI⟩
        . exact .inr rfl
      have I:x.2.2.pc=2->x.2.2.b<=dl:=by
        rw[N7];split;. intro _;exact Int.le_refl _
        . intro h2;exact absurd h2 (by show ¬(3:Int)=2;decide)
      refine⟨upd G (i+1) [i],⟨?_,by rw[H];exact Nf (fd _ _ _),by rw[H];exact NA,k.bset hi I⟩,?_⟩;. have:=k.iv.s1a hi e c Y;show HIv nd n node x.1.W x.2.1 _ _;rw[show x.1.W=h.ar.W.set (1+node i) (tokH i (dv h.D i+1))by rw[H];show(cz _ _ _).W=_;rw[dQ,Kl],show x.2.1=h.D by rw[H]];exact this
      . have h5:¬x.2.2.pc=5:=(by omega);refine⟨λ_ h=>absurd h h5,λ_ _=>pT _ _ ahy,λh=>by omega,λh=>by omega,λh=>by omega,λh=>by omega,.inl e,λ_ h=>by omega,by omega⟩
    . have N7:x.2.2={sv h.S i with a:=lc h.ar.W (node i),pc:=5}:=(by rw[H];simp only[c,ne_eq,not_false_iff,if_true]);obtain⟨m,t,hm,ht,SQ,ab,Uy⟩:=k.iv.s1b (p':=x.2.2) hi e c (by rw[N7]) (by rw[N7]);have h5:x.2.2.pc=5:=(by rw[N7]);refine⟨upd G (m+1) (G (m+1)++[i]),⟨?_,by rw[H];exact Nf (fd _ _ _),by rw[H];exact NA,k.bset hi ahy⟩,?_⟩;. show HIv nd n node x.1.W x.2.1 _ _;rw[show x.1.W=h.ar.W.set (1+node i) (tokH i (dv h.D i+1))by rw[H];show(cz _ _ _).W=_;rw[dQ,Kl],show x.2.1=h.D by rw[H]];exact Uy
      . exact⟨λ_ _=>⟨t,_,k.iv.lt _ t ht,SQ,by have:=k.iv.d0 t;omega,ab⟩,λ_ _=>pT _ _ ahy,λh=>by omega,λh=>by omega,λh=>by omega,λh=>by omega,.inl e,λ_ h=>by omega,by omega⟩
  . have H:x=(h.ar,h.D,{sv h.S i with b:=(sv h.S i).b-1,pc:=if 0<(sv h.S i).b-1 then 2 else 3}):=by rw[hx];unfold bz;rw[if_neg ahy,if_pos e]
    have Y:(x.2.2.pc=2/\0<x.2.2.b)\/x.2.2.pc=3:=by
      rw[H];show((if _ then(2:Int)else 3)=2/\_)\/(if _ then(2:Int)else 3)=3;split;. rename_i I;exact .inl ⟨rfl,I⟩
      . exact .inr rfl
    have I:x.2.2.b=(sv h.S i).b-1:=(by rw[H]);have:=k.bb i hi e;refine⟨G,⟨?_,by rw[H];exact Nf (Nat.le_succ _),by rw[H];exact NA,k.bset hi ahy⟩,⟨λh=>by omega,λ_ _=>rfl,λh=>by omega,λh=>by omega,λh=>by omega,λh=>by omega,.inr (.inl e),λ_ h=>by omega,by omega⟩⟩;show HIv nd n node x.1.W x.2.1 _ _;rw[show x.1.W=h.ar.W by rw[H],show x.2.1=h.D by rw[H]];exact k.iv.s2 hi e Y
  . have H:x=(cz h.ar (2+(node i:Int)) 0,h.D,{sv h.S i with c:=lc h.ar.W (node i),pc:=4}):=(by rw[hx];unfold bz;rw[if_neg ahy,if_neg ahy,if_pos e,Lr]);have Y:x.2.2.pc=4:=(by rw[H]);refine⟨G,⟨?_,by rw[H];exact Nf (fd _ _ _),by rw[H];exact NA,k.bset hi ahy⟩,⟨λh=>by omega,λ_ _=>rfl,λh=>by omega,λh=>by omega,λh=>by omega,λh=>by omega,.inr (.inr (.inl e)),λ_ h=>by omega,by omega⟩⟩;show HIv nd n node x.1.W x.2.1 _ _;rw[show x.1.W=h.ar.W.set (1+node i) 0 by rw[H];show(cz _ _ _).W=_;rw[dQ,Kl],show x.2.1=h.D by rw[H]];exact k.iv.s3 hi e Y (by rw[H])
  . have H:x=(cz h.ar 1 (sv h.S i).c,h.D,{sv h.S i with a:=tl h.ar.W,pc:=if tl h.ar.W=0 then 10 else 5}):=by rw[hx];unfold bz;rw[if_neg ahy,if_neg ahy,if_neg ahy,if_pos e,F7 k.iv.wl]
    have Y:(tl h.ar.W=0/\x.2.2.pc=10)\/(tl h.ar.W≠0/\x.2.2.pc=5):=by
      rw[H];by_cases c:tl h.ar.W=0;. exact .inl ⟨c,by show(if _ then(10:Int)else 5)=10;rw[if_pos c]⟩
      . exact .inr ⟨c,by show(if _ then(10:Int)else 5)=5;rw[if_neg c]⟩
    obtain⟨⟨r,V⟩,he,Uy⟩:=k.iv.s4 (p':=x.2.2) hi e Y (by rw[H]);refine⟨spl G i,⟨?_,by rw[H];exact Nf (fd _ _ _),by rw[H];exact NA,k.bset hi ahy⟩,⟨λh=>by omega,λh=>by omega,λ_=>⟨⟨r,by rw[zw,V]⟩,he⟩,λh=>by omega,λ_ _=> .inl e,λh=>by omega,.inr (.inr (.inr (.inl e))),λ_ h=>by omega,by omega⟩⟩;show HIv nd n node x.1.W x.2.1 _ _;rw[show x.1.W=h.ar.W.set 0 (sv h.S i).c by rw[H];show(cz _ _ _).W=_;rw[dQ,GL k.iv.wl],show x.2.1=h.D by rw[H]];exact Uy
  . have H:x=(isA h.ar (2+(nd:Int)) n (sv h.S i).a,h.D,{sv h.S i with pc:=if isB h.ar.W (2+(nd:Int)) n (sv h.S i).a then 10 else 5}):=(by rw[hx];unfold bz;rw[if_neg ahy,if_neg ahy,if_neg ahy,if_neg ahy,if_pos e]);have hW:x.1.W=h.ar.W:=(by rw[H];exact Il _ _ _ _);have hD:x.2.1=h.D:=(by rw[H]);cases c:isB h.ar.W (2+(nd:Int)) n (sv h.S i).a
    . have N7:x.2.2=sv h.S i:=(by rw[H,c];exact GI e.symm rfl rfl rfl);have ZY:¬(G 0).head? =some i:=λhf=>by rw[k.iv.s5n hf e]at c;cases c
      refine⟨G,⟨?_,by rw[H];exact Nf (rq _ _ _ _),by rw[hD];exact NA,k.bset hi (by rw[N7];omega)⟩,⟨λh=>by omega,λ_ _=>rfl,λh=>by omega,λh=>by omega,λh=>by rw[N7]at h;omega,λ_ hf=>absurd hf ZY,.inr (.inr (.inr (.inr (.inl e)))),λh=>absurd e h,by rw[N7];exact .inl rfl⟩⟩;show HIv nd n node x.1.W x.2.1 _ _;rw[hW,hD];exact k.iv.same5 hi N7
    . have Y:x.2.2.pc=10:=(by rw[H,c];rfl);have hf:=k.iv.s5 hi e c;refine⟨G,⟨?_,by rw[H];exact Nf (rq _ _ _ _),by rw[hD];exact NA,k.bset hi ahy⟩,⟨λh=>by omega,λ_ _=>rfl,λh=>by omega,λh=>by omega,λ_ _=> .inr ⟨e,hf⟩,λ_ _=>Y,.inr (.inr (.inr (.inr (.inl e)))),λh=>absurd e h,by omega⟩⟩;show HIv nd n node x.1.W x.2.1 _ _;rw[hW,hD];exact k.iv.atFrontP hi hf (.inl Y)
  . have H:x=(addA h.ar (2+(nd:Int)+i) 1,h.D.set i (dv h.D i+1),{sv h.S i with pc:=0}):=(by rw[hx];unfold bz;rw[if_neg ahy,if_neg ahy,if_neg ahy,if_neg ahy,if_neg ahy]);have Y:x.2.2.pc=0:=(by rw[H]);have hf:=k.iv.atFront hi (.inr e);have OI:i<h.D.length:=(by have:=k.iv.dl;omega);have hw:IntKind.i64.wrap (ldW h.ar.W (2+(nd:Int)+i)+1)=dv h.D i+1:=(by rw[Ff k.iv.wl hi,k.iv.tw i hi];have:=k.iv.d0 i;have:=k.dn i;exact IntWalk.i64_in _ ahy);refine⟨upd G 0 (G 0).tail,⟨?_,by rw[H];exact Nf (jI _ _ _),?_,k.bset hi ahy⟩,⟨λh=>by omega,λ_ h=>by omega,λh=>by omega,λ_=>⟨hf,cD _ _ _⟩,λh=>by omega,λh=>by omega,.inr (.inr (.inr (.inr (.inr e)))),λ_ h=>by omega,by omega⟩⟩;. show HIv nd n node x.1.W x.2.1 _ _;rw[show x.1.W=h.ar.W.set (1+nd+i) (dv h.D i+1)by rw[H];show(addA _ _ _).W=_;rw[d7,hw,Jf k.iv.wl hi],show x.2.1=h.D.set i (dv h.D i+1)by rw[H]];exact k.iv.s11 hi hf Y _ rfl
    . rw[H];intro t;show dv (h.D.set i (dv h.D i+1)) t<=_;rw[Bd OI];have:=k.dn i;split;. omega
      . exact NA t
end
end
section
open Go
variable{s s':Ar}{p:Sp}
def WdB(B:Int)(s:Ar):Prop:=∀v∈s.W,0<=v/\v<=B
structure SpB(k:Nat)(B:Int)(p:Sp):Prop where
 a0:0<=p.a
 a1:p.a<=B
 b0:-B<=p.b
 b1:p.b<=B
 b2:k≠1->0<=p.b
def WdB.mono(h:WdB B s)(H:B<=C):WdB C s:=λv O=>⟨(h v O).1,by have:=(h v O).2;omega⟩
def SpB.mono(h:SpB k B p)(H:B<=C):SpB k C p:=⟨h.a0,by have:=h.a1;omega,by have:=h.b0;omega,by have:=h.b1;omega,h.b2⟩
def WdB.ld(h:WdB B s)(O:0<=B)(x:Int):0<=ldW s.W x/\ldW s.W x<=B:=by
 by_cases H:inR s.W x=true
 .rw[jt H];obtain⟨h1,V⟩:=aT.1 H;have I:x.toNat-1<s.W.length:=by omega
  rw[List.getD_eq_getElem?_getD,List.getElem?_eq_getElem I];exact h _ (List.getElem_mem I)
 .rw[ly (by simpa using H)];exact⟨Int.le_refl _,O⟩
def WdB.st(h:WdB B s)(x v:Int)(O:0<=v/\v<=B)(e:s'.W=stW s.W x v):WdB B s':=by
 intro u H;rw[e]at H;unfold stW at H;split at H
 .rcases List.mem_or_eq_of_mem_set H with h1|h1
  .exact h u h1
  .rw[h1];exact O
 .exact h u H
def WdB.same(h:WdB B s)(e:s'.W=s.W):WdB B s':=by intro u H;rw[e]at H;exact h u H
def WdB.load(h:WdB B s)(x:Int):WdB B (af s x):=h.same (aQ _ _)
def WdB.store(h:WdB B s)(x v:Int)(O:0<=v/\v<=B):WdB B (ae s x v):=h.st x v O (ay _ _ _)
def WdB.swap(h:WdB B s)(x v:Int)(O:0<=v/\v<=B):WdB B (cz s x v):=h.st x v O (dQ _ _ _)
def WdB.cas(h:WdB B s)(x o v:Int)(O:0<=v/\v<=B):WdB B (dY s x o v):=by
 have e:=gX s x o v;split at e;.exact h.st x v O e
 .exact h.same e
def WdB.add1(h:WdB B s)(H:0<=B)(I:B<=10000000000000)(x:Int):WdB (B+2) (addA s x 1):=by have O:=h.ld H x;refine(h.mono ahy).st x _ ?_ (d7 _ _ _);rw[IntWalk.i64_in _ ahy];omega
def qW{t m:Int}{i:Int}(hW:WdB B s)(Y:SpB k B p)(hB:0<=B)(Le:B<=10000000000000)(hi:0<=i/\i+1<=B)(hm:1<=m/\m<=B):WdB (B+2) (bS k t m s i p).1/\SpB k (B+2) (bS k t m s i p).2:=by
  have I:WdB (B+2) s:=hW.mono ahy;have V:=λx=>hW.ld hB x;have H:SpB k (B+2) p:=Y.mono ahy;have LV:=Y.a0;have Ss:=Y.a1;have Kn:=Y.b0;have KI:=Y.b1;have Nv:=Y.b2;unfold bS;split
  . rename_i hk;unfold wQ;split
    . refine⟨I.cas _ _ _ ahy,?_⟩;split;. exact⟨by simpa using LV,by show p.a<=_;omega,by show _<=p.b;omega,by show p.b<=_;omega,λh=>absurd hk h⟩
      . refine⟨?_,?_,?_,?_,λh=>absurd hk h⟩;. show 0<=min (2*p.a) m;omega
        . show min (2*p.a) m<=_;omega
        . show _<=p.a;omega
        . show p.a<=_;omega
    split
    . refine⟨I,?_,?_,?_,?_,λh=>absurd hk h⟩;. exact LV
      . show p.a<=_;omega
      . show _<=p.b-1;omega
      . show p.b-1<=_;omega
    split;. exact⟨I.store _ _ ahy,H.a0,H.a1,H.b0,H.b1,H.b2⟩
    . exact⟨I,H⟩
  split
  . unfold pO;split;. exact⟨hW.add1 hB Le _,(V _).1,by have:=(V t).2;show ldW s.W t<=_;omega,H.b0,H.b1,H.b2⟩
    split;. exact⟨I.load _,H.a0,H.a1,H.b0,H.b1,H.b2⟩
    split;. exact⟨I.store _ _ ahy,H.a0,H.a1,H.b0,H.b1,H.b2⟩
    . exact⟨I,H⟩
  split
  . unfold pv;split;. exact⟨hW.add1 hB Le _,(V _).1,by have:=(V t).2;show ldW s.W t<=_;omega,H.b0,H.b1,H.b2⟩
    split;. exact⟨I.load _,H.a0,H.a1,H.b0,H.b1,H.b2⟩
    split;. exact⟨I.store _ _ ahy,H.a0,H.a1,H.b0,H.b1,H.b2⟩
    . exact⟨I,H⟩
  have O:∀x:Int,ldW s.W x<=B+2:=λx=>by have:=(V x).2;omega
  split
  . unfold mK;split
    . unfold eP;split;. exact⟨I.store _ _ ahy,H.a0,H.a1,H.b0,H.b1,H.b2⟩
      split;. exact⟨I.store _ _ ahy,H.a0,H.a1,H.b0,H.b1,H.b2⟩
      split;. exact⟨I.swap _ _ ahy,(V _).1,O _,H.b0,H.b1,H.b2⟩
      split;. exact⟨I.store _ _ ahy,H.a0,H.a1,H.b0,H.b1,H.b2⟩
      . exact⟨I.load _,H.a0,H.a1,H.b0,H.b1,H.b2⟩
    split
    . unfold dN;split;. exact⟨I.cas _ _ _ ahy,H.a0,H.a1,H.b0,H.b1,H.b2⟩
      split;. exact⟨I.store _ _ ahy,H.a0,H.a1,H.b0,H.b1,H.b2⟩
      . exact⟨I.load _,(V _).1,O _,H.b0,H.b1,H.b2⟩
    . exact⟨I,H⟩
  . rename_i hk _ _ _;unfold uY;split;. exact⟨I.store _ _ ahy,H.a0,H.a1,H.b0,H.b1,H.b2⟩
    split;. exact⟨I.swap _ _ ahy,H.a0,H.a1,by show _<=ldW s.W t;have:=(V t).1;omega,O _,λ_=>(V _).1⟩
    split;. exact⟨I.load _,H.a0,H.a1,H.b0,H.b1,H.b2⟩
    split;. exact⟨I.store _ _ ahy,Nv hk,H.b1,H.b0,H.b1,H.b2⟩
    . exact⟨I,H⟩
def uP(h:SpB k B p)(H:1<=B):SpB k B (askK k p):=by
 unfold askK;split
 .split;.exact⟨by show(0:Int)<=1;omega,H,h.b0,h.b1,h.b2⟩
  .exact⟨h.a0,h.a1,h.b0,h.b1,h.b2⟩
 .exact h
def nZ(h:SpB k B p):SpB k B (bf p):=by
 unfold bf;split;.exact⟨h.a0,h.a1,h.b0,h.b1,h.b2⟩
 .exact h
end
section
open Go
structure CoC where
 kg:Nat
 kl:Nat
 tg:Int
 m:Int
 bud:Int
 node:Nat->Nat
 slot:Nat->Nat
 tl:Nat->Int
 cw:Nat->Int
structure Co where
 s:Ar
 G:List Sp
 L:List (List Sp)
 T:List Sp
def lsp(L:List (List Sp))(n i:Nat):Sp:=(L.getD n []).getD i Sp.zero
def jU(L:List (List Sp))(n i:Nat)(p:Sp):List (List Sp):=L.set n ((L.getD n []).set i p)
def m6(count bud:Int)(YK:Bool):Bool:=decide (1<=count/\count<=bud)&&!YK
def stL(c:CoC)(st:Co)(i:Nat):Ar×Sp:=bS c.kl (c.tl (c.node i)) c.m st.s (c.slot i) (lsp st.L (c.node i) (c.slot i))
def stG(c:CoC)(st:Co)(i:Nat):Ar×Sp:=bS c.kg c.tg c.m st.s (c.node i) (sv st.G (c.node i))
def mr(c:CoC)(st:Co)(i:Nat):Bool:=bB (lsp st.L (c.node i) (c.slot i)) (stL c st i).2
def n5(c:CoC)(st:Co)(i:Nat):Bool:=bB (sv st.G (c.node i)) (stG c st i).2
def setL(c:CoC)(st:Co)(i:Nat)(p:Sp):List (List Sp):=jU st.L (c.node i) (c.slot i) p
def yH(c:CoC)(st:Co)(i:Nat)(p:Sp):Ar×List Sp×List (List Sp)×Sp:=
 if p.pc=1 then((stL c st i).1,st.G,setL c st i (stL c st i).2,if mr c st i then {p with pc:=2} else p)
 else if p.pc=2 then
  if 0<ldW st.s.W (c.cw (c.node i))then(af st.s (c.cw (c.node i)),st.G,st.L,{p with a:=ldW st.s.W (c.cw (c.node i)),pc:=10})
  else(af st.s (c.cw (c.node i)),st.G.set (c.node i) (askK c.kg (sv st.G (c.node i))),st.L,{p with a:=ldW st.s.W (c.cw (c.node i)),pc:=3})
 else if p.pc=3 then((stG c st i).1,st.G.set (c.node i) (stG c st i).2,st.L,if n5 c st i then {p with pc:=4} else p)
 else if p.pc=4 then(ae st.s (c.cw (c.node i)) 1,st.G,st.L,{p with a:=1,pc:=10})
 else(st.s,st.G,st.L,p)
def qo(c:CoC)(st:Co)(i:Nat)(p:Sp):Ar×List Sp×List (List Sp)×Sp:=
 if p.pc=11 then(af st.s (c.cw (c.node i)),st.G,st.L,{p with a:=ldW st.s.W (c.cw (c.node i)),pc:=if c.bud<ldW st.s.W (c.cw (c.node i))then 14 else 12})
 else if p.pc=12 then
  ((cG c.kl (c.tl (c.node i)) st.s (c.slot i) (lsp st.L (c.node i) (c.slot i))).1,st.G,st.L,
   {p with pc:=if m6 p.a c.bud (cG c.kl (c.tl (c.node i)) st.s (c.slot i) (lsp st.L (c.node i) (c.slot i))).2 then 13 else 14})
 else if p.pc=13 then(ae st.s (c.cw (c.node i)) (p.a+1),st.G,setL c st i (bf (lsp st.L (c.node i) (c.slot i))),{p with pc:=16})
 else if p.pc=14 then(ae st.s (c.cw (c.node i)) 0,st.G.set (c.node i) (bf (sv st.G (c.node i))),st.L,{p with pc:=15})
 else if p.pc=15 then
  if n5 c st i then((stG c st i).1,st.G.set (c.node i) (stG c st i).2,setL c st i (bf (lsp st.L (c.node i) (c.slot i))),{p with pc:=16})
  else((stG c st i).1,st.G.set (c.node i) (stG c st i).2,st.L,p)
 else if p.pc=16 then((stL c st i).1,st.G,setL c st i (stL c st i).2,if mr c st i then {p with pc:=0} else p)
 else(st.s,st.G,st.L,p)
def db(c:CoC)(st:Co)(i:Nat)(p:Sp):Ar×List Sp×List (List Sp)×Sp:=if p.pc<10 then yH c st i p else qo c st i p
def iL(st:Co)(i:Nat)(r:Ar×List Sp×List (List Sp)×Sp):Co:=⟨r.1,r.2.1,r.2.2.1,st.T.set i r.2.2.2⟩
def ak(c:CoC)(st:Co)(i:Nat):Co:=if (sv st.T i).pc=0\/(sv st.T i).pc=10 then st else iL st i (db c st i (sv st.T i))
def bG(c:CoC)(st:Co)(i:Nat):Co:=
 if (sv st.T i).pc=0 then {st with L:=setL c st i (askK c.kl (lsp st.L (c.node i) (c.slot i))),T:=st.T.set i {(sv st.T i)with pc:=1}} else st
def aA(st:Co)(i:Nat):Co:=if (sv st.T i).pc=10 then {st with T:=st.T.set i {(sv st.T i)with pc:=11}} else st
structure CoB(c:CoC)(B:Int)(st:Co):Prop where
 w:WdB B st.s
 g:∀p∈st.G,SpB c.kg B p
 l:∀x∈st.L,∀p∈x,SpB c.kl B p
 t:∀p∈st.T,0<=p.a/\p.a<=B
def spz(k:Nat)(h:0<=B):SpB k B Sp.zero:=⟨Int.le_refl _,h,by show -B<=0;omega,h,λ_=>Int.le_refl _⟩
def iS{S:List Sp}{P:Sp->Prop}(h:∀p∈S,P p)(H:P Sp.zero)(i:Nat):P (S.getD i Sp.zero):=by
 rw[List.getD_eq_getElem?_getD];by_cases hi:i<S.length;.rw[List.getElem?_eq_getElem hi];exact h _ (List.getElem_mem hi)
 .rw[List.getElem?_eq_none ahy];exact H
def eA{α:Type}{S:List α}{P:α->Prop}(h:∀p∈S,P p)(i:Nat){p:α}(H:P p):∀q∈S.set i p,P q:=by
 intro q I;rcases List.mem_or_eq_of_mem_set I with h1|h1
 .exact h q h1
 .rw[h1];exact H
section
variable{c:CoC}{st:Co}
def CoB.lall(h:CoB c B st)(n:Nat):∀p∈st.L.getD n [],SpB c.kl B p:=by
 rw[List.getD_eq_getElem?_getD];by_cases hi:n<st.L.length;.rw[List.getElem?_eq_getElem hi];exact h.l _ (List.getElem_mem hi)
 .rw[List.getElem?_eq_none ahy];intro p H;cases H
def CoB.lsp(h:CoB c B st)(H:0<=B)(n i:Nat):SpB c.kl B (lsp st.L n i):=iS (h.lall n) (spz _ H) i
def CoB.gsp(h:CoB c B st)(H:0<=B)(n:Nat):SpB c.kg B (sv st.G n):=iS h.g (spz _ H) n
def CoB.tsp(h:CoB c B st)(H:0<=B)(n:Nat):0<=(sv st.T n).a/\(sv st.T n).a<=B:=iS (P:=λp=>0<=p.a/\p.a<=B) h.t ⟨Int.le_refl _,H⟩ n
def CoB.mono(h:CoB c B st)(I:B<=C):CoB c C st:=
 ⟨h.w.mono I,λp H=>(h.g p H).mono I,λx O p H=>(h.l x O p H).mono I,λp H=>⟨(h.t p H).1,by have:=(h.t p H).2;omega⟩⟩
def CoB.setL(h:CoB c B st)(n i:Nat){p:Sp}(H:SpB c.kl B p):∀x∈jU st.L n i p,∀q∈x,SpB c.kl B q:=eA h.l n (eA (h.lall n) i H)
def DA(h:CoB c B st)(hB:1<=B)(Le:B<=10000000000000)(i:Nat)(hs:(c.slot i:Int)+1<=B)(hn:(c.node i:Int)+1<=B)(hm:1<=c.m/\c.m<=B)(p:Sp)(hp:0<=p.a/\p.a<=B):CoB c (B+2) (iL st i (db c st i p)):=by
  have H:=h.mono (C:=B+2) ahy;have KD:(0:Int)<=B:=by omega
  have hL:=qW (t:=c.tl (c.node i)) (m:=c.m) (i:=(c.slot i:Int)) h.w (h.lsp KD (c.node i) (c.slot i)) KD Le ⟨by omega,hs⟩ hm;have Y:=qW (t:=c.tg) (m:=c.m) (i:=(c.node i:Int)) h.w (h.gsp KD (c.node i)) KD Le ⟨by omega,hn⟩ hm;have Pk:=h.w.ld KD (c.cw (c.node i));have V:0<=p.a/\p.a<=B+2:=⟨hp.1,by omega⟩;have I:∀q:Sp,(0<=q.a/\q.a<=B+2)->∀r∈st.T.set i q,0<=r.a/\r.a<=B+2:=λq hq=>eA H.t i hq;have O:0<=ldW st.s.W (c.cw (c.node i))/\ldW st.s.W (c.cw (c.node i))<=B+2:=⟨Pk.1,by omega⟩;have Wa:SpB c.kl (B+2) (bf (Go.Proofs.YtglokdbiggbkjaaGreat.lsp st.L (c.node i) (c.slot i))):=nZ (H.lsp ahy _ _);have Y':SpB c.kg (B+2) (bf (sv st.G (c.node i))):=nZ (H.gsp ahy _);have Y9:SpB c.kg (B+2) (askK c.kg (sv st.G (c.node i))):=uP (H.gsp ahy _) ahy;unfold db;split
  . unfold yH;split;. exact⟨hL.1,H.g,H.setL _ _ hL.2,I _ (by split<;>exact V)⟩
    split
    . split;. exact⟨H.w.load _,H.g,H.l,I _ O⟩
      . exact⟨H.w.load _,eA H.g _ Y9,H.l,I _ O⟩
    split;. exact⟨Y.1,eA H.g _ Y.2,H.l,I _ (by split<;>exact V)⟩
    split;. exact⟨H.w.store _ _ ahy,H.g,H.l,I _ ⟨by show(0:Int)<=1;omega,by show(1:Int)<=_;omega⟩⟩
    . exact⟨H.w,H.g,H.l,I _ V⟩
  . unfold qo;split;. exact⟨H.w.load _,H.g,H.l,I _ O⟩
    split
    . refine⟨?_,H.g,H.l,I _ V⟩;show WdB _ (cG _ _ _ _ _).1;unfold cG;split
      . split;. exact H.w
        split;. exact H.w.load _
        split<;>exact H.w.load _
      . exact H.w
    split;. exact⟨H.w.store _ _ ahy,H.g,H.setL _ _ Wa,I _ V⟩
    split;. exact⟨H.w.store _ _ ahy,eA H.g _ Y',H.l,I _ V⟩
    split
    . split;. exact⟨Y.1,eA H.g _ Y.2,H.setL _ _ Wa,I _ V⟩
      . exact⟨Y.1,eA H.g _ Y.2,H.l,I _ V⟩
    split;. exact⟨hL.1,H.g,H.setL _ _ hL.2,I _ (by split<;>exact V)⟩
    . exact⟨H.w,H.g,H.l,I _ V⟩
end
end
section
open Go
structure jm(n:Nat)(T:Nat->Prop)(t0:Prop):Prop where
 one:∀i j,i<n->j<n->T i->T j->i=j
 tl:t0->∀i,i<n->¬T i
def numT(t:Nat):Int:=(t:Int)+1
def jh(lo:Int)(G:Int->Prop)(S:Int->Int)(σ:Nat->Sp)(i:Nat):Prop:=lo<=(σ i).pc\/(3<=(σ i).pc/\G (S (numT i)))
def updF(f:Int->Int)(x v y:Int):Int:=if y=x then v else f y
section
variable{lo t t':Int}{G:Int->Prop}{S S':Int->Int}{σ σ':Nat->Sp}{p:Sp}
def i6{i j:Nat}(h:numT i=numT j):i=j:=by unfold numT at h;omega
theorem jm.own(h:jm n (jh lo G S σ) (t=0))(hi:i<n)(hs:∀j,σ' j=if j=i then p else σ j)(h1:lo<=(σ i).pc)(V:∀k,k≠numT i->S' k=S k)(Y:t'=t\/t'≠0):jm n (jh lo G S' σ') (t'=0):=by have H:=h.one;have I:=h.tl;have O:=λj=>@i6 j i;refine⟨?_,?_⟩<;>grind [jh]
theorem jm.o(h:jm n (jh lo G S σ) (t=0))(hi:i<n)(hs:∀j,σ' j=if j=i then p else σ j)(h1:lo<=(σ i).pc)(H:3<=lo)(hp:p.pc<3)(Y:(∀k,S' k=S k)\/((∃y,∀k,k≠y->S' k=S k)/\t'=t)):jm n (jh lo G S' σ') (t'=0):=by have I:=h.one;have O:=h.tl;have V:=λj k=>@i6 j k;refine⟨?_,?_⟩<;>grind [jh]
theorem jm.low(h:jm n (jh lo G S σ) (t=0))(hi:i<n)(hs:∀j,σ' j=if j=i then p else σ j)(h1:p.pc<3\/(p.pc<lo/\¬G (S' (numT i)))\/(3<=(σ i).pc/\p.pc<lo/\S' (numT i)=S (numT i)))(H:3<=lo)(Y:∀k,k≠numT i->S' k=S k):jm n (jh lo G S' σ') (t=0):=by have I:=h.one;have O:=h.tl;have V:=λj=>@i6 j i;refine⟨?_,?_⟩<;>grind [jh]
theorem jm.door(h:jm n (jh lo G S σ) (t=0))(hi:i<n)(hs:∀j,σ' j=if j=i then p else σ j)(h1:3<=(σ i).pc)(O:t≠0->p.pc<lo)(V:t'≠0):jm n (jh lo G S σ') (t'=0):=by have H:=h.one;have I:=h.tl;refine⟨?_,?_⟩<;>grind [jh]
theorem jm.ent(h:jm n (jh lo G S σ) (t=0))(hi:i<n)(hs:∀j,σ' j=if j=i then p else σ j)(h1:3<=(σ i).pc)(hg:G (S (numT i))):jm n (jh lo G S σ') (t=0):=by have H:=h.one;have I:=h.tl;refine⟨?_,?_⟩<;>grind [jh]
def gR(f:Int->Int)(x v:Int):updF f x v x=v:=if_pos rfl
def eF(f:Int->Int){v y:Int}(h:y≠x):updF f x v y=f y:=if_neg h
end
end
section
open Go
variable{p:Sp}
def fN(t:Int)(n:Nat)(f:Int->Int)(x:Int):Int:=if 1<=x/\x<=n then f (mNx t x)else 0
def fW(t:Int)(n:Nat)(f:Int->Int)(x:Int):Int:=if 1<=x/\x<=n then f (mWt t x)else 0
abbrev Fp(S:Int->Int)(σ:Nat->Sp):Nat->Prop:=jh 10 (λv=>v=0) S σ
structure McA(n:Nat)(t:Int)(N S:Int->Int)(σ:Nat->Sp):Prop where
 tk:jm n (Fp S σ) (t=0)
 vt:0<=t/\t<=n
 z:∀i,i<n->(σ i).pc=3\/(σ i).pc=4->S (numT i)=1
 n2:∀i,i<n->(σ i).pc=2\/(σ i).pc=3->N (numT i)=0
 tl:∀i,i<n->t=numT i->4<=(σ i).pc/\N t=0
 l:∀i,i<n->(σ i).pc=4->(1<=(σ i).a/\(σ i).a<=n)/\t≠(σ i).a/\N (σ i).a=0/\∀j,j<n->numT j=(σ i).a->4<=(σ j).pc/\j≠i
 u4:∀i j,i<n->j<n->(σ i).pc=4->(σ j).pc=4->(σ i).a=(σ j).a->i=j
 nx:∀j,j<n->4<=(σ j).pc->N (numT j)≠0->(1<=N (numT j)/\N (numT j)<=n)/\∀i,i<n->numT i=N (numT j)->(σ i).pc=5/\S (numT i)=1
 u:∀j k,j<n->k<n->4<=(σ j).pc->4<=(σ k).pc->N (numT j)≠0->N (numT j)=N (numT k)->j=k
 s14:∀i,i<n->(σ i).pc=14->N (numT i)=(σ i).a/\(σ i).a≠0
section
variable{t v:Int}{f f':Int->Int}
theorem qr(hf:∀y,f' y=if y=mNx t x then v else f y)(h:1<=x/\x<=n):f' t=f t/\fN t n f'=updF (fN t n f) x v/\fW t n f'=fW t n f:=by exact aaY
theorem qu(hf:∀y,f' y=if y=mWt t x then v else f y)(h:1<=x/\x<=n):f' t=f t/\fN t n f'=fN t n f/\fW t n f'=updF (fW t n f) x v:=by exact aaY
theorem Bo(h:∀y,f' y=if y=t then v else f y):f' t=v/\fN t n f'=fN t n f/\fW t n f'=fW t n f:=by simp only[funext_iff,fN,fW,h,mNx,mWt];exact aaZ
def Bm(h:∀y,t<=y->y<t+(1+2*(n:Int))->f' y=f y):fN t n f'=fN t n f/\fW t n f'=fW t n f:=by
 refine⟨funext λx=>?_,funext λx=>?_⟩
 .unfold fN mNx;split;.exact h _ ahy ahy
  .rfl
 .unfold fW mWt;split;.exact h _ ahy ahy
  .rfl
end
theorem McA.beg{t:Int}{N S:Int->Int}{σ O:Nat->Sp}(k:McA n t N S σ)(hi:i<n)(he:∀j,O j=if j=i then p else σ j)(hp:((σ i).pc=10/\p.pc=11)\/((σ i).pc=0/\p.pc=1)):McA n t N S O:=by
 obtain⟨tk,vt,z,n2,tl,l,u4,nx,u,s14⟩:=k;refine⟨?_,vt,?_,?_,?_,?_,?_,?_,?_,?_⟩;.exact aa0
 .intro j H;have e:=he j;have q:=z j H;clear tk z n2 tl l u4 nx u s14 he;grind
 .intro j H;have e:=he j;have q:=n2 j H;clear tk z n2 tl l u4 nx u s14 he;grind
 .intro j H;have e:=he j;have q:=tl j H;clear tk z n2 tl l u4 nx u s14 he;grind
 .intro j H h4;have e:=he j;have MV:j≠i:=λh=>by rw[if_pos h]at e;rw[e]at h4;omega
  rw[if_neg MV]at e;obtain⟨q1,q2,q3,q4⟩:=l j H (by rw[<-e];exact h4);rw[e];refine⟨q1,q2,q3,λk I Y=>?_⟩;have:=q4 k I Y;have:=he k;clear tk z n2 tl l u4 nx u s14 he;grind
 .intro j k H I;have e:=he j;have e2:=he k;have q:=u4 j k H I;clear tk z n2 tl l u4 nx u s14 he;grind
 .intro j H h4 h5;have e:=he j;have h6:4<=(σ j).pc:=by clear tk z n2 tl l u4 nx u s14 he;grind
  have:=nx j H h6 h5;refine⟨this.1,λk I Y=>?_⟩;have q:=this.2 k I Y;have:=he k;clear tk z n2 tl l u4 nx u s14 he;grind
 .intro j k H I h1 h2;have e:=he j;have e2:=he k;have q:=u j k H I;clear tk z n2 tl l u4 nx u s14 he;grind
 .intro j H;have e:=he j;have q:=s14 j H;clear tk z n2 tl l u4 nx u s14 he;grind
theorem McA.go{t:Int}{s:Ar}{S:List Sp}(k:McA n (ldW s.W t) (fN t n (ldW s.W)) (fW t n (ldW s.W)) (sv S))(hi:i<n)(len:S.length=n)(own:∀x v,t<=x->x<=t+2*n->∀y,ldW (stW s.W x v) y=if y=x then v else ldW s.W y)(ab:inR s.W t=true)(hp:p=sv S i)(hc:(0<=p.pc/\p.pc<=5)\/(10<=p.pc/\p.pc<=14)){r:Ar×Sp}(V:r=mK t s i p):McA n (ldW r.1.W t) (fN t n (ldW r.1.W)) (fW t n (ldW r.1.W)) (sv (S.set i r.2))/\∀y,¬(t<=y/\y<=t+2*n)->ldW r.1.W y=ldW s.W y:=by
  have hs:∀q,sv (S.set i q)=λj=>if j=i then q else sv S j:=λq=>by funext j;rw[bh];grind
  have ex:((i:Nat):Int)+1=numT i:=rfl;have Ld:1<=numT i/\numT i<=n:=by unfold numT;omega
  have MJ:cK s t (numT i)=decide (ldW s.W t=numT i):=by unfold cK;rw[ab];rfl
  have lN:ldW s.W (mNx t (numT i))=fN t n (ldW s.W) (numT i):=by unfold fN;rw[if_pos Ld]
  have lW:ldW s.W (mWt t (numT i))=fW t n (ldW s.W) (numT i):=by unfold fW;rw[if_pos Ld]
  have inj:=λj k=>@i6 j k;have MP:∀j,1<=numT j:=λj=>by unfold numT;omega
  have oN:∀x v:Int,1<=x/\x<=n->∀y,ldW (stW s.W (mNx t x) v) y=if y=mNx t x then v else ldW s.W y:=λx v h=>own _ v (by unfold mNx;omega) (by unfold mNx;omega)
  have oW:∀x v:Int,1<=x/\x<=n->∀y,ldW (stW s.W (mWt t x) v) y=if y=mWt t x then v else ldW s.W y:=λx v h=>own _ v (by unfold mWt;omega) (by unfold mWt;omega)
  have o1:=λv=>own t v (Int.le_refl _) ahy;obtain⟨tk,vt,z,n2,tl,l,u4,nx,u,s14⟩:=k;have h4:=l i hi;have Mn:=s14 i hi;have O:=nx i hi;rw[<-hp]at h4 Mn O;obtain⟨pc,a,b,c⟩:=p;simp only at hc h4 Mn O;have Y:(pc=4->1<=a/\a<=n)/\(pc=14->1<=a/\a<=n):=⟨λh=>(h4 h).1,λh=>by have e:=Mn h;have:=(O ahy (by rw[e.1];exact e.2)).1;omega⟩;have Um:(pc=0\/pc=10)\/pc=1\/pc=2\/pc=3\/pc=4\/pc=5\/pc=11\/pc=12\/pc=13\/pc=14:=by omega
  rcases Um with h|rfl|rfl|rfl|rfl|rfl|rfl|rfl|rfl|rfl
  . have e:r=(s,⟨pc,a,b,c⟩):=(by rw[V];unfold mK;rcases h with rfl|rfl<;>simp);rw[e];refine⟨?_,λ_ _=>rfl⟩;have e2:sv (S.set i ⟨pc,a,b,c⟩)=sv S:=(by rw[hs];funext j;split<;>simp_all);show McA n (ldW s.W t) (fN t n (ldW s.W)) (fW t n (ldW s.W)) (sv (S.set i ⟨pc,a,b,c⟩));rw[e2];exact⟨tk,vt,z,n2,tl,l,u4,nx,u,s14⟩
  all_goals simp[mK,eP,dN,ex,MJ,lN,lW]at V;repeat' split at V
  all_goals subst V;refine⟨?_,?_⟩
  all_goals try simp only[ay,aQ,dQ,gX]
  all_goals try simp only[MJ,decide_eq_true_eq]
  all_goals try first|rw[if_pos ahR]|rw[if_neg ahR]
  all_goals try first
    | exact λ_ _=>rfl
    | exact λ_ _=>trivial
    | (intro y hy;rw[oN _ _ ahy,if_neg (by unfold mNx;omega)];done)
    | (intro y hy;rw[oW _ _ ahy,if_neg (by unfold mWt;omega)];done)
    | (intro y hy;rw[o1,if_neg ahy];done)
  all_goals rw[hs]
  all_goals try first
    | rw[(qu (oW a _ (Y.2 rfl)) (Y.2 rfl)).1,(qu (oW a _ (Y.2 rfl)) (Y.2 rfl)).2.1,(qu (oW a _ (Y.2 rfl)) (Y.2 rfl)).2.2]
    | rw[(qr (oN a _ (Y.1 rfl)) (Y.1 rfl)).1,(qr (oN a _ (Y.1 rfl)) (Y.1 rfl)).2.1,(qr (oN a _ (Y.1 rfl)) (Y.1 rfl)).2.2]
    | rw[(qr (oN _ _ ahy) ahy).1,(qr (oN _ _ ahy) ahy).2.1,(qr (oN _ _ ahy) ahy).2.2]
    | rw[(qu (oW _ _ ahy) ahy).1,(qu (oW _ _ ahy) ahy).2.1,(qu (oW _ _ ahy) ahy).2.2]
    | rw[(Bo (n:=n) (o1 _)).1,(Bo (n:=n) (o1 _)).2.1,(Bo (n:=n) (o1 _)).2.2]
  all_goals have Ou:=congrArg Sp.pc hp.symm;have Pp:=congrArg Sp.a hp.symm;dsimp only at Ou Pp;clear hs lN lW MJ hp len own oN oW o1 ex ab;generalize Rp:(λj=>if j=i then _ else sv S j)=σ';have H:=λj=>(congrFun Rp j).symm;clear Rp;generalize sv S=σ at *;generalize fN t n (ldW s.W)=N at *;generalize fW t n (ldW s.W)=G at *;generalize ldW s.W t=t at *;have hx:∀x:Int,1<=x->x<=n->∃j,j<n/\numT j=x:=λx h1 h2=>⟨(x-1).toNat,by omega,by unfold numT;omega⟩
  all_goals
    refine⟨?_,by omega,λj I=>?_,λj I=>?_,λj I=>?_,λj I=>?_,λj k I hk=>?_,λj I=>?_,λj k I hk=>?_,λj I=>?_⟩;. first| exact tk.own hi H ahy aii aip| exact tk.o hi H ahy ahA ahM aiq| exact tk.low hi H aiJ ahA aii| exact tk.door hi H ahy ahM ahy| exact tk.ent hi H ahy (show G (numT i)=0 by omega)
    . have e:=H j;have:=z j I;have h1:=λa b=>(O a b).2 j I;have h3:=inj j i;clear tk vt z n2 tl l u4 nx u s14 h4 O inj MP hx H;first|grind [updF]|(intros;grind [updF])
    . have e:=H j;have:=n2 j I;have h3:=inj j i;have h1:=λh=>(h4 h).2.2.2 j I;clear tk vt z n2 tl l u4 nx u s14 h4 Mn O inj MP hx H;first|grind [updF]|(intros;grind [updF])
    . have e:=H j;have h1:=tl j I;have hq:=MP j;have h3:=inj j i;have h5:=n2 i hi;clear tk vt z n2 tl l u4 nx u s14 O inj MP hx H;first|grind [updF]|(intros;grind [updF])
    . have e:=H j;have h1:=l j I;have h5:=n2 i hi;have h7:=tl i hi;have h8:=u4 j i I hi;intro q;have hl:∀k,k<n->numT k=(σ' j).a->4<=(σ' k).pc/\k≠j:=(by intro k hk h;have ek:=H k;have h9:=λa=>(h1 a).2.2.2 k hk;have h10:=tl k hk;clear u4 nx u s14 z O n2 tk H tl l hx inj;grind);refine⟨?_,?_,?_,hl⟩;all_goals clear u4 nx u s14 z O n2 tk H l hl inj;grind [updF]
    . have e:=H j;have ek:=H k;have h1:=u4 j k I hk;have h2:=l j I;have h3:=l k hk;clear tk vt z n2 tl l u4 nx u s14 h4 Mn O inj MP hx H;grind
    . have e:=H j;have h1:=nx j I;have h5:=n2 i hi;have h6:=inj j i;have h7:=u j i I hi;have h8:=z i hi;clear u4 nx u s14 z n2 tk tl l;first|grind [updF]|(intros;grind [updF])
    . have e:=H j;have ek:=H k;have h1:=u j k I hk;have h5:=n2 i hi;have h6:=inj j i;have h7:=inj k i;have h8:=inj j k;have h9:=λa b=>(nx j I a b).2 i hi;have h10:=λa b=>(nx k hk a b).2 i hi;clear u4 nx u s14 z n2 tk tl l H O inj hx h4 Mn;first|grind [updF]|(intros;simp only[updF]at *;grind)
    . have e:=H j;have h1:=s14 j I;have h3:=inj j i;have h5:=λh=>(h4 h).2.2.1;clear tk vt z n2 tl l u4 nx u s14 h4 O inj MP hx H;first|grind [updF]|(intros;grind [updF])
end
end Go.Proofs.YtglokdbiggbkjaaGreat
