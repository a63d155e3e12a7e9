/- Joined texts. -/
import Derived.Test.YtglokdbiggbkjaaGreatRows
import Derived.StillTailTactics
import Derived.Handy
import Derived.Tactics
import Derived.RegionCalls
import Derived.Deep.QuietTactic
import Derived.BigQuiet
import Derived.Laws.BitsAllLaws
import Derived.IntWalk
import Derived.Test.YtglokdbiggbkjaaGreatMgBoltLoops0
import Derived.Test.YtglokdbiggbkjaaGreatMgBoltLoops2
set_option linter.unusedVariables false
set_option linter.unusedSimpArgs false
set_option linter.defProp false
set_option maxRecDepth 100000
set_option maxHeartbeats 16000000
open Go.Proofs.Tryz
namespace Go.Proofs.YtglokdbiggbkjaaGreat
open Go.IntKind(i64)
open Go.Value(int bool slice agg tuple pointer)
open Go.Ending(returned)
open Go.Obj(cells)
variable{W W' D':List Int}{nd n i v j k b u N:Nat}{d B C:Int}
section
open Go.RowKit
def jY(w:World)(v1 v2:Value)(a b:List (Int))(h1:RdL w v1 1 encI a)(h2:RdL w v2 1 encI b):E 27 #[v1,v2] w λe w'=>e= returned (bool (decide (a=b)))/\Qt w w':=by
  obtain⟨A1,c1,rfl,l1,m1,r1⟩:=h1;obtain⟨A2,c2,rfl,l2,m2,r2⟩:=h2;by_cases I:a.length=b.length
  . have ab:((a.length:Int)==(b.length:Int))=true:=(by rw[beq_iff_eq];omega);have Sw:((a.length:Int) !=(b.length:Int))=false:=(by rw[bne_eq_false_iff_eq];omega);have H:=qh I;clear I;go_enter func27,ntmps27;go_wp2_with fail;go_loopw [5] (λi w'=>∃k n:Nat,k<=a.length/\i= J k/\w'=w.drewN n/\a.take k=b.take k) (λi _=>a.length-(intOf i).toNat);case atStart=>exact⟨0,0,by omega,rfl,rfl,rfl⟩
    case round=>
      obtain⟨k,n,hk,rfl,rfl,V9⟩:=hrel;have HA:=qh V9;clear V9;by_cases I':k<a.length
      . have Pn:k<b.length:=(by have:=H.o;omega);obtain⟨b1,o1,rfl,KP,LD⟩:=r1 ahB;obtain⟨b2,o2,rfl,Nw,LV⟩:=r2 ahB;obtain⟨x0,V⟩:=ai I';obtain⟨y0,Y⟩:=ai Pn;have p0:=LD k _ V 0 _ rfl;have q0:=LV k _ Y 0 _ rfl;simp only[Nat.add_zero,Nat.mul_one]at p0 q0;have HX:=qh V;have HY:=qh Y;clear r1 r2 LD LV V Y;by_cases O:x0=y0
        . subst O;go_wp2;go_quiet (fail);go_wp2;go_roundw;case rel=>exact⟨k+1,n+nq,by omega,by go_num,by first|rfl|rw[World.drewN_drewN],by rw[bJ HX.o,bJ HY.o,HA.o]⟩
          case measure=>simp[intOf];omega
        . have hb:(x0==y0)=false:=(by simpa using O);have HE:=qh O;go_wp2;go_quiet (fail);go_wp2;go_ret;refine⟨az (Eq.symm (decide_eq_false λe=>HE.o ?_)),n+nq,by first|rfl|rw[World.drewN_drewN]⟩;have h:=HX.o;rw[e,HY.o]at h;exact(Option.some.inj h).symm
      . obtain rfl:k=a.length:=by omega
        go_wp2;go_ret;exact⟨az (Eq.symm (decide_eq_true (vu H.o HA.o))),n,rfl⟩
  . have ab:((a.length:Int)==(b.length:Int))=false:=(by rw[beq_eq_false_iff_ne];omega);have Sw:((a.length:Int) !=(b.length:Int))=true:=(by rw[bne_iff_ne];omega);have H:=qh I;clear I r1 r2;go_enter func27,ntmps27;go_wp2;go_ret;exact⟨az (Eq.symm (decide_eq_false λe=>H.o (by rw[e]))),Qt.refl w⟩
end
section
open Go Go.RowKit
def rU{P:Prop}(h:P:=by
    have hs:w.heap.size<w2.heap.size:=by have:=b2.size;simp at this;omega
    have hb:Blk w2 w.heap.size 113 #[J 0,J 0,J 0,J 0]:=aa.blk (S:=[]) (aa.of_below b2) (Blk.new w 113 #[J 0,J 0,J 0,J 0]) ahC
    have z0:=hb.cell 0
    have z1:=hb.cell 1
    have z2:=hb.cell 2
    have z3:=hb.cell 3
    have f0:=hb.free 0
    have f1:=hb.free 1
    have f2:=hb.free 2
    have f3:=hb.free 3
    have H2:=qh (And.intro b2 hb)
    clear b2 hb
    obtain⟨pc,u,b,z⟩:=p
    unfold aF
    go_wp2
    exact bodyPost_ret (results_cell_row ahF _ _ w.heap.size 113 _ (0,0) _ ahF aiI Tryz.underlying113 rfl ahE) rfl ⟨rfl,((((HB.o.trans (H2.o.1.mono ahC)).setCell (Nat.le_refl _) _).setCell (Nat.le_refl _) _).setCell (Nat.le_refl _) _).setCell (Nat.le_refl _) _⟩):P:=h
end
section
open Go
def mNx(t x:Int):Int:=t+2*x-1
def mWt(t x:Int):Int:=t+2*x
def pPl(t m k:Int):Int:=t+1+k%m
def wV(t m:Int)(s:Ar)(i:Int)(p:Sp):Ar×Sp:=
 if p.pc=1 then(dX s t 0 (i+1),if cJ s t 0 then {p with pc:=10} else {p with pc:=2,b:=p.a,a:=min (2*p.a) m})
 else if p.pc=2 then(s,{p with b:=p.b-1,pc:=if p.b-1=0 then 1 else 2})
 else if p.pc=11 then(ae s t 0,{p with pc:=0})
 else(s,p)
def pK(t:Int)(s:Ar)(p:Sp):Ar×Sp:=
 if p.pc=1 then(addA s t 1,{p with a:=ldW s.W t,pc:=2})
 else if p.pc=2 then(af s (t+1),{p with pc:=if ldW s.W (t+1)=p.a then 10 else 2})
 else if p.pc=11 then(ae s (t+1) (p.a+1),{p with pc:=0})
 else(s,p)
def pk(t m:Int)(s:Ar)(p:Sp):Ar×Sp:=
 if p.pc=1 then(addA s t 1,{p with a:=ldW s.W t,pc:=2})
 else if p.pc=2 then(af s (pPl t m p.a),{p with pc:=if ldW s.W (pPl t m p.a)=p.a+1 then 10 else 2})
 else if p.pc=11 then(ae s (pPl t m (p.a+1)) (p.a+2),{p with pc:=0})
 else(s,p)
def eQ(t:Int)(s:Ar)(x:Int)(p:Sp):Ar×Sp:=
 if p.pc=1 then(ae s (mNx t x) 0,{p with pc:=2})
 else if p.pc=2 then(ae s (mWt t x) 1,{p with pc:=3})
 else if p.pc=3 then(cr s t x,{p with a:=ldW s.W t,pc:=if ldW s.W t=0 then 10 else 4})
 else if p.pc=4 then(ae s (mNx t p.a) x,{p with pc:=5})
 else(af s (mWt t x),{p with pc:=if ldW s.W (mWt t x)=0 then 10 else 5})
def dM(t:Int)(s:Ar)(x:Int)(p:Sp):Ar×Sp:=
 if p.pc=12 then(dX s t x 0,{p with pc:=if cJ s t x then 0 else 13})
 else if p.pc=14 then(ae s (mWt t p.a) 0,{p with pc:=0})
 else(af s (mNx t x),{p with a:=ldW s.W (mNx t x),pc:=if ldW s.W (mNx t x)≠0 then 14 else if p.pc=11 then 12 else 13})
def mF(t:Int)(s:Ar)(i:Int)(p:Sp):Ar×Sp:=
 if 0<p.pc/\p.pc<10 then eQ t s (i+1) p else if 10<p.pc then dM t s (i+1) p else(s,p)
def vm(t:Int)(s:Ar)(p:Sp):Ar×Sp:=
 if p.pc=1 then(ae s (t+p.a) 1,{p with pc:=2})
 else if p.pc=2 then(cr s t p.a,{p with b:=ldW s.W t,pc:=3})
 else if p.pc=3 then(af s (t+p.b),{p with pc:=if ldW s.W (t+p.b)=0 then 10 else 3})
 else if p.pc=11 then(ae s (t+p.a) 0,{p with a:=p.b,pc:=0})
 else(s,p)
def bN(k:Nat)(t m:Int)(s:Ar)(i:Int)(p:Sp):Ar×Sp:=
 if k=1 then wV t m s i p else if k=2 then pK t s p else if k=3 then pk t m s p else if k=4 then mF t s i p else vm t s p
def bv(p p':Sp):Bool:=decide ((p'.pc=10\/p'.pc=0)/\p.pc≠0/\p.pc≠10)
def askK(k:Nat)(p:Sp):Sp:=if p.pc=0 then(if k=1 then {p with pc:=1,a:=1} else {p with pc:=1})else p
def ba(p:Sp):Sp:=if p.pc=10 then {p with pc:=11} else p
def cD(k:Nat)(t:Int)(s:Ar)(i:Int)(p:Sp):Ar×Bool:=
 if p.pc=10 then
  if k=1 then(s,true)else if k=2\/k=3 then(af s t,decide (ldW s.W t=p.a+1))
  else if k=4 then(af s (mNx t (i+1)),decide (ldW s.W (mNx t (i+1))=0))else(af s t,decide (ldW s.W t=p.a))
 else(s,false)
end
section
open Go.RowKit
def mE(p:Int):Int×Int:=if p=0 then(0,16)else if p=1 then(16,47)else(63,1)
def lz(w:World)(p:Int):E 304 #[J p] w λe w'=>e= returned (tuple #[J (mE p).1,J (mE p).2])/\w=w':=by
 unfold mE;by_cases h:p=0;.subst h;exact aat
 .by_cases h1:p=1;.subst h1;clear h;exact aat
  .rw[if_neg h,if_neg h1];have t0:(p==0)=false:=(by simpa using h);have t1:(p==1)=false:=(by simpa using h1);clear h h1;exact aat
def nO(x:Nat)(k:Nat)(h:x<18446744073709551616)(H:k<64):bits .and .u64 (x:Int) ((2 ^ k-1:Nat):Int)=((x%2 ^ k:Nat):Int):=by
 have:2 ^ k-1<18446744073709551616:=by have:2 ^ k<=2 ^ 63:=Nat.pow_le_pow_right ahD ahB;omega
 rw[u64_and_nat x (2 ^ k-1) h this,Nat.and_two_pow_sub_one_eq_mod]
def zS(x:Int)(h:0<=x)(h1:x<9223372036854775808):wrap64 (bits .and .u64 x 65535)=x%65536:=by obtain⟨n,rfl⟩:=Int.eq_ofNat_of_zero_le h;have:=nO n 16 ahB ahD;rw[show((2 ^ 16-1:Nat):Int)=65535 by decide]at this;rw[this];unfold wrap64;omega
def xa(x:Int)(h:0<=x)(h1:x<9223372036854775808):wrap64 (bits .and .u64 (x/65536) 140737488355327)=x/65536:=by obtain⟨n,rfl⟩:=Int.eq_ofNat_of_zero_le h;have:=nO (n/65536) 47 ahB ahD;rw[show((2 ^ 47-1:Nat):Int)=140737488355327 by decide]at this;rw[show((n:Int)/65536)=((n/65536:Nat):Int)by omega,this,show(2 ^ 47:Nat)=140737488355328 by decide];unfold wrap64;omega
def Dd(x:Int)(h:0<=x)(h1:x<9223372036854775808):wrap64 (bits .and .u64 (x/9223372036854775808) 1)=0:=by rw[show x/9223372036854775808=0 by omega];decide+kernel
def De(v:Int)(h:0<=v)(H:v<65536):wrap64 (bits .or .u64 (bits .andNot .u64 0 65535) (bits .and .u64 v 65535))=v:=by obtain⟨n,rfl⟩:=Int.eq_ofNat_of_zero_le h;have:=nO n 16 ahB ahD;rw[show((2 ^ 16-1:Nat):Int)=65535 by decide,show(2 ^ 16:Nat)=65536 by decide,Nat.mod_eq_of_lt ahB]at this;rw[this,show bits .andNot .u64 0 65535=((0:Nat):Int)by decide+kernel,u64_or_nat 0 n ahD ahB,Nat.zero_or];unfold wrap64;omega
def CJ(x v:Nat)(h:x<65536):x|||(v*65536)=v*65536+x:=by have:=Nat.two_pow_add_eq_or_of_lt (i:=16) (b:=x) ahB v;rw[Nat.or_comm,<-show 2 ^ 16*v=v*65536 by omega];exact this.symm
def Df(x v:Int)(O:0<=x)(h1:x<65536)(V:0<=v)(Y:v<140737488355328):wrap64 (bits .or .u64 (bits .andNot .u64 x 9223372036854710272) (bits .and .u64 (v*65536) 9223372036854710272))=v*65536+x:=by
 obtain⟨n,rfl⟩:=Int.eq_ofNat_of_zero_le O;obtain⟨m,rfl⟩:=Int.eq_ofNat_of_zero_le V;have h:n<65536:=by omega
 have hm:m<140737488355328:=by omega
 have H:bits .andNot .u64 (n:Int) 9223372036854710272=((n:Nat):Int):=by
  have:=u64_andNot_nat n 9223372036854710272 ahB ahD;rw[show((9223372036854710272:Nat):Int)=9223372036854710272 by decide]at this;rw[this];congr 1;apply Nat.eq_of_testBit_eq;intro i;rw[Nat.testBit_and];by_cases hi:i<16;.have:(18446744073709551615-9223372036854710272:Nat).testBit i=true:=(by have:∀i,i<16->(18446744073709551615-9223372036854710272:Nat).testBit i=true:=(by decide);exact this i hi);rw[this,Bool.and_true]
  .rw[Nat.testBit_lt_two_pow (x:=n) (i:=i) (Nat.lt_of_lt_of_le h (by have:=Nat.pow_le_pow_right (n:=2) ahD (show 16<=i by omega);omega)),Bool.false_and]
 have I:bits .and .u64 ((m:Int)*65536) 9223372036854710272=((m*65536:Nat):Int):=by
  have:=u64_and_nat (m*65536) 9223372036854710272 ahB ahD;rw[show((9223372036854710272:Nat):Int)=9223372036854710272 by decide,show((m*65536:Nat):Int)=(m:Int)*65536 by omega]at this;rw[this];congr 1;have:(9223372036854710272:Nat)=(2 ^ 47-1)*2 ^ 16:=by decide
  rw[this,show m*65536=m*2 ^ 16 by omega,<-Nat.shiftLeft_eq,<-Nat.shiftLeft_eq,<-Nat.shiftLeft_and_distrib,Nat.and_two_pow_sub_one_eq_mod,Nat.mod_eq_of_lt ahB]
 rw[H,I,u64_or_nat n (m*65536) ahB ahB,CJ n m h];unfold wrap64;omega
def qp(w:World)(x:Int)(h:0<=x)(h1:x<9223372036854775808):E 302 #[J x,J 0] w λe w'=>e= returned (J (x%65536))/\Below w.heap.size w w':=by have HV:=qh (zS x h h1);go_enter func302,ntmps302;go_wp2_with fail;refine LT (lz _ _) ?_;rw[show(mE 0).1=0 from rfl,show(mE 0).2=16 from rfl];exact aau
def oO(w:World)(x:Int)(h:0<=x)(h1:x<9223372036854775808):E 302 #[J x,J 1] w λe w'=>e= returned (J (x/65536))/\Below w.heap.size w w':=by have HV:=qh (xa x h h1);go_enter func302,ntmps302;go_wp2_with fail;refine LT (lz _ _) ?_;rw[show(mE 1).1=16 from rfl,show(mE 1).2=47 from rfl];exact aau
def Et(w:World)(x:Int)(H:0<=x)(h1:x<9223372036854775808):E 302 #[J x,J 2] w λe w'=>e= returned (J (0))/\Qt w w':=by have h:=qh (Dd x H h1);go_enter func302,ntmps302;go_wp2_with fail;refine LT (lz _ _) ?_;rw[show(mE 2).1=63 from rfl,show(mE 2).2=1 from rfl];go_wp2;go_quiet (fail);go_wp2;go_ret;exact⟨by rw[h.o];rfl,⟨_,rfl⟩⟩
def qD(w:World)(x v:Int)(O:x=0)(H:0<=v)(I:v<65536):E 301 #[J x,J 0,J v] w λe w'=>e= returned (J (v))/\Below w.heap.size w w':=by subst O;have h:=qh (De v H I);go_enter func301,ntmps301;go_wp2_with fail;refine LT (lz _ _) ?_;rw[show(mE 0).1=0 from rfl,show(mE 0).2=16 from rfl];go_wp2;go_ret;exact⟨by rw[h.o];rfl,Below.refl _ _⟩
def pr(w:World)(x v:Int)(H:0<=x)(h1:x<65536)(I:0<=v)(O:v<140737488355328):E 301 #[J x,J 1,J v] w λe w'=>e= returned (J (v*65536+x))/\Below w.heap.size w w':=by have h:=qh (Df x v H h1 I O);go_enter func301,ntmps301;go_wp2_with fail;refine LT (lz _ _) ?_;rw[show(mE 1).1=16 from rfl,show(mE 1).2=47 from rfl];go_wp2;go_ret;exact⟨by rw[h.o];rfl,Below.refl _ _⟩
end
section
open Go.RowKit
def Bz(w:World)(x:Int)(h:0<=x)(h1:x<9223372036854775808):E 295 #[J x] w λe w'=>e= returned (J (x%65536))/\Below w.heap.size w w':=by go_enter func295,ntmps295;go_wp2_with fail;refine Op (qp w x h h1) λw1 B1=>?_;exact aav
def BL(w:World)(x:Int)(h:0<=x)(h1:x<9223372036854775808):E 297 #[J x] w λe w'=>e= returned (J (x/65536))/\Below w.heap.size w w':=by go_enter func297,ntmps297;go_wp2_with fail;refine Op (oO w x h h1) λw1 B1=>?_;exact aav
def zg(w:World)(x:Int)(h:0<=x)(h1:x<9223372036854775808):E 296 #[J x] w λe w'=>e= returned (bool false)/\Qt w w':=by go_enter func296,ntmps296;go_wp2_with fail;refine Op (Et w x h h1) λw1 B1=>?_;exact aav
def vC(w:World)(v:Int)(h:0<=v)(I:v<65536):E 300 #[J 0,J v] w λe w'=>e= returned (bool true)/\Below w.heap.size w w':=by
 go_enter func300,ntmps300;go_wp2_with fail;refine Op (qD w 0 v rfl h I) λw1 B1=>?_;go_wp2_with fail;refine Pi (qp w1 v h ahB) λw2 b2=>?_;have H:=qh (B1.o.trans (b2.mono B1.o.size));have e:v%65536=v:=by omega
 rw[e];clear b2 e;go_wp2;go_ret;exact⟨az ahC,H.o⟩
def tv(w:World)(v:Int)(I:0<=v)(O:v<140737488355328):E 300 #[J 1,J v] w λe w'=>e= returned (bool true)/\Below w.heap.size w w':=by
 go_enter func300,ntmps300;go_wp2_with fail;refine Op (pr w 0 v ahB ahB I O) λw1 B1=>?_;obtain⟨x,h⟩:=LE (v*65536+0);rw[<-h];have HX:=qh h;clear h;go_wp2_with fail;refine Pi (oO w1 x (by have:=HX.o;omega) (by have:=HX.o;omega)) λw2 b2=>?_;have H:=qh (B1.o.trans (b2.mono B1.o.size));have e:x/65536=v:=by have:=HX.o;omega
 rw[e];clear b2 e;go_wp2;go_ret;exact⟨az ahC,H.o⟩
def CK(w:World)(i n:Int)(h:0<=i)(h1:i<65536)(O:0<=n)(V:n<140737488355328):E 294 #[J i,J n] w λe w'=>e= returned (tuple #[J (n*65536+i),J 0])/\Below w.heap.size w w':=by go_enter func294,ntmps294;go_wp2_with fail;refine Op (vC w i h h1) λw1 B1=>?_;go_wp2_with fail;refine Op (tv w1 n O V) λw2 b2=>?_;have H:=qh (B1.o.trans (b2.o.mono B1.o.size));go_wp2_with fail;refine Op (qD w2 0 i rfl h h1) λw3 b3=>?_;have I:=qh (H.o.trans (b3.o.mono H.o.size));go_wp2_with fail;refine Op (pr w3 i n h h1 O V) λw4 b4=>?_;have Y:=qh (I.o.trans (b4.o.mono I.o.size));go_wp2;go_ret2;exact⟨rfl,Y.o⟩
end
section
open Go
def dv(D:List Int)(t:Nat):Int:=D.getD t 0
def tokH(t:Nat)(d:Int):Int:=d*65536+((t:Int)+1)
structure Hc where
 ar:Ar
 D:List Int
 S:List Sp
def B5(n:Nat)(w:Int):Bool:=decide (0<=w/\1<=w%65536/\w%65536<=n)
def isB(W:List Int)(f:Int)(n:Nat)(w:Int):Bool:=B5 n w&&decide (w/65536<=ldW W (f+(w%65536-1)))
def isA(s:Ar)(f:Int)(n:Nat)(w:Int):Ar:=if B5 n w then af s (f+(w%65536-1))else s
def bp(nd n:Nat)(dl:Int)(h:Hc)(nu i:Nat)(p:Sp):Ar×List Int×Sp:=
 if p.pc=1 then(cr h.ar (2+(nu:Int)) (tokH i (dv h.D i+1)),h.D,
  if ldW h.ar.W (2+(nu:Int))≠0 then {p with a:=ldW h.ar.W (2+(nu:Int)),pc:=5} else if 0<dl then {p with a:=ldW h.ar.W (2+(nu:Int)),b:=dl,pc:=2} else {p with a:=ldW h.ar.W (2+(nu:Int)),b:=0,pc:=3})
 else if p.pc=2 then(h.ar,h.D,{p with b:=p.b-1,pc:=if 0<p.b-1 then 2 else 3})
 else if p.pc=3 then(cr h.ar (2+(nu:Int)) 0,h.D,{p with c:=ldW h.ar.W (2+(nu:Int)),pc:=4})
 else if p.pc=4 then(cr h.ar 1 p.c,h.D,{p with a:=ldW h.ar.W 1,pc:=if ldW h.ar.W 1=0 then 10 else 5})
 else if p.pc=5 then(isA h.ar (2+(nd:Int)) n p.a,h.D,{p with pc:=if isB h.ar.W (2+(nd:Int)) n p.a then 10 else 5})
 else(addA h.ar (2+(nd:Int)+i) 1,h.D.set i (dv h.D i+1),{p with pc:=0})
def iw(p:Sp):Bool:=p.pc==1||p.pc==2||p.pc==3||p.pc==4||p.pc==5||p.pc==11
def ff(nd n:Nat)(dl:Int)(node:Nat->Nat)(h:Hc)(i:Int):Hc×Bool:=
 if okI h.S i/\iw (getS h.S i)=true then
  (⟨(bp nd n dl h (node i.toNat) i.toNat (getS h.S i)).1,(bp nd n dl h (node i.toNat) i.toNat (getS h.S i)).2.1,h.S.set i.toNat (bp nd n dl h (node i.toNat) i.toNat (getS h.S i)).2.2⟩,
   decide ((bp nd n dl h (node i.toNat) i.toNat (getS h.S i)).2.2.pc=10\/(bp nd n dl h (node i.toNat) i.toNat (getS h.S i)).2.2.pc=0))
 else(h,false)
def bo(h:Hc)(i KK Kn:Int):Hc×Bool:=
 if okI h.S i/\(getS h.S i).pc=KK then(⟨h.ar,h.D,h.S.set i.toNat {getS h.S i with pc:=Kn}⟩,true)else(h,false)
def tl(W:List Int):Int:=W.getD 0 0
def lc(W:List Int)(v:Nat):Int:=W.getD (1+v) 0
def tnw(nd:Nat)(W:List Int)(i:Nat):Int:=W.getD (1+nd+i) 0
section
def dk{α:Type}(l:List α)(a d:α)(h:i≠j):(l.set i a).getD j d=l.getD j d:=by rw[oM,if_neg (λe=>h e.1)]
def iu{α:Type}(l:List α)(a d:α)(h:i<l.length):(l.set i a).getD i d=a:=by rw[oM,if_pos ⟨rfl,h⟩]
def Ca(h:k<W.length):ldW W ((k:Int)+1)=W.getD k 0:=by unfold ldW inR;exact aaw
def C1(h:k<W.length)(x:Int):stW W ((k:Int)+1) x=W.set k x:=by unfold stW inR;exact aaw
def Gd(hw:W.length=1+nd+n):ldW W 1=tl W:=Ca (k:=0) ahB
def Iq(hw:W.length=1+nd+n)(h:v<nd):ldW W (2+(v:Int))=lc W v:=by rw[show(2+(v:Int))=((1+v:Nat):Int)+1 by omega];exact Ca ahB
def Ff(hw:W.length=1+nd+n)(h:i<n):ldW W (2+(nd:Int)+i)=tnw nd W i:=by rw[show(2+(nd:Int)+i)=((1+nd+i:Nat):Int)+1 by omega];exact Ca ahB
def GQ(hw:W.length=1+nd+n)(x:Int):stW W 1 x=W.set 0 x:=C1 (k:=0) ahB x
def Jd(hw:W.length=1+nd+n)(h:v<nd)(x:Int):stW W (2+(v:Int)) x=W.set (1+v) x:=by rw[show(2+(v:Int))=((1+v:Nat):Int)+1 by omega];exact C1 ahB x
def Je(hw:W.length=1+nd+n)(h:i<n)(x:Int):stW W (2+(nd:Int)+i) x=W.set (1+nd+i) x:=by rw[show(2+(nd:Int)+i)=((1+nd+i:Nat):Int)+1 by omega];exact C1 ahB x
end
def Lks(P:Nat->Nat->Prop):List Nat->Prop
 |[]=>True
 |a :: l=>(∀b,l.head? =some b->P a b)/\Lks P l
section
variable{P P':Nat->Nat->Prop}{l m:List Nat}
def Lks.append(h:Lks P l)(k:Lks P m)(H:∀a b,l.getLast? =some a->m.head? =some b->P a b):Lks P (l++m):=by
 induction l with
 |nil=>exact k
 |cons a l V=>
  refine⟨λb hb=>?_,V h.2 λx y I O=>H x y ?_ O⟩
  .cases l with
   |nil=>exact H a b rfl (by simpa using hb)
   |cons c l=>exact h.1 b (by simpa using hb)
  .cases l with
   |nil=>simp at I
   |cons c l=>rw[List.getLast?_cons_cons];exact I
def Lks.mono(h:Lks P l)(hm:∀a b,a∈l->b∈l.tail->P a b->P' a b):Lks P' l:=by
 induction l with
 |nil=>trivial
 |cons a l O=>refine⟨λb hb=>hm a b ahC (List.mem_of_mem_head? hb) (h.1 b hb),O h.2 λx y H I=>hm x y (List.mem_cons_of_mem _ H) (List.mem_of_mem_tail I)⟩
def Lks.mem(h:Lks P l)(hb:b∈l.tail):∃a,a∈l/\P a b:=by
 induction l with
 |nil=>simp at hb
 |cons a l O=>
  cases l with
  |nil=>simp at hb
  |cons c l=>
   rcases List.mem_cons.1 (show b∈c :: l from hb)with rfl|hb'
   .exact⟨a,by simp,h.1 b rfl⟩
   .obtain⟨x,I,H⟩:=O h.2 hb';exact⟨x,List.mem_cons_of_mem _ I,H⟩
def Lks.tail(h:Lks P l):Lks P l.tail:=by
 cases l with
 |nil=>exact h
 |cons a l=>exact h.2
def CB{t:Nat}(h:t∈l):l.head? =some t\/t∈l.tail:=by
 cases l with
 |nil=>simp at h
 |cons a l=>
  rcases List.mem_cons.1 h with rfl|h
  .exact .inl rfl
  .exact .inr h
def iC{t:Nat}(H:l.Nodup)(h:l.head? =some t):t∉l.tail:=by
 cases l with
 |nil=>simp at h
 |cons a l=>simp at h;subst h;exact(List.nodup_cons.1 H).1
def ib{t:Nat}(h:l.head? =some t):l≠[]:=by rintro rfl;simp at h
def bD{t:Nat}(h:l.head? =some t):t∈l:=List.mem_of_mem_head? h
end
def eP(D:List Int)(l:List Nat):Int:=match l.getLast? with|some t=>tokH t (dv D t+1)|none=>0
def dz{D:List Int}{l:List Nat}{t:Nat}(h:l.getLast? =some t):eP D l=tokH t (dv D t+1):=by unfold eP;rw[h]
def kz{l:List Nat}(h:l≠[]):∃t,l.getLast? =some t/\t∈l:=⟨l.getLast h,List.getLast?_eq_some_getLast h,List.getLast_mem h⟩
def lu{D:List Int}(l:List Nat){m:List Nat}(h:m≠[]):eP D (l++m)=eP D m:=by obtain⟨t,H,_⟩:=kz h;rw[dz H,dz (t:=t)];rw[List.getLast?_append,H];rfl
def Dn(n:Nat)(D:List Int)(w:Int):Prop:=∃(t:Nat) (d:Int),t<n/\1<=d/\d<=dv D t/\w=tokH t d
def HLk(D:List Int)(S:List Sp)(p s:Nat):Prop:=(sv S s).pc=5/\(sv S s).a=tokH p (dv D p+1)
structure HIv(nd n:Nat)(node:Nat->Nat)(W D:List Int)(S:List Sp)(G:Nat->List Nat):Prop where
 wl:W.length=1+nd+n
 sl:S.length=n
 dl:n<=D.length
 n32:n<=32
 nn:∀t,t<n->node t<nd
 tw:∀t,t<n->tnw nd W t=dv D t
 d0:∀t,0<=dv D t
 nod:∀k,(G k).Nodup
 dj:∀k k' t,t∈G k->t∈G k'->k=k'
 lt:∀k t,t∈G k->t<n
 lk:∀k,Lks (HLk D S) (G k)
 free:∀t,t<n->(∀k,t∉G k)->(sv S t).pc=0\/(sv S t).pc=1
 first:∀m,G (m+1)≠[]->(G (m+1)).head? =some m
 same:∀m t,t∈G (m+1)->node t=node m
 mast:∀m,G (m+1)≠[]->((((sv S m).pc=2/\0<(sv S m).b)\/(sv S m).pc=3)/\lc W (node m)=eP D (G (m+1)))\/((sv S m).pc=4/\(sv S m).c=eP D (G (m+1)))
 one:∀m m',G (m+1)≠[]->G (m'+1)≠[]->node m=node m'->(sv S m).pc<4->(sv S m').pc<4->m=m'
 loc:∀v,v<nd->lc W v=0\/∃m,G (m+1)≠[]/\(sv S m).pc<4/\node m=v
 front:∀t,(G 0).head? =some t->((sv S t).pc=5/\Dn n D (sv S t).a)\/(sv S t).pc=10\/(sv S t).pc=11
 tail:(tl W=eP D (G 0)/\G 0≠[])\/(G 0=[]/\(tl W=0\/Dn n D (tl W)))
section
variable{node:Nat->Nat}{D:List Int}{S:List Sp}{G:Nat->List Nat}{p':Sp}
def wY{t:Nat}(h:0<=d):tokH t d≠0:=by unfold tokH;omega
def E0{t H:Nat}{d':Int}(h:t<32)(I:H<32)(e:tokH t d=tokH H d'):t=H/\d=d':=by unfold tokH at e;omega
def HIv.notail(h:HIv nd n node W D S G){t:Nat}(V:t∈(G k).tail):(sv S t).pc=5/\∃p,p∈G k/\(sv S t).a=tokH p (dv D p+1):=by obtain⟨p,O,H,I⟩:=(h.lk k).mem V;exact⟨H,p,O,I⟩
def HIv.inG(h:HIv nd n node W D S G){t:Nat}(I:t∈G k):(t∈(G k).tail/\(sv S t).pc=5)\/((G k).head? =some t/\((k=0/\(((sv S t).pc=5/\Dn n D (sv S t).a)\/(sv S t).pc=10\/(sv S t).pc=11))\/(k=t+1/\((sv S t).pc=2\/(sv S t).pc=3\/(sv S t).pc=4)))):=by
 rcases CB I with H|H
 .refine .inr ⟨H,?_⟩;cases k with
  |zero=>exact .inl ⟨rfl,h.front t H⟩
  |succ m=>
   have e:=h.first m (ib H);rw[H]at e;injection e with e;subst e;refine .inr ⟨rfl,?_⟩;rcases h.mast t (ib H)with⟨h1|h1,_⟩|⟨h1,_⟩
   .exact .inl h1.1
   .exact .inr (.inl h1)
   .exact .inr (.inr h1)
 .exact .inl ⟨H,(h.notail H).1⟩
def HIv.at01(h:HIv nd n node W D S G)(I:(sv S i).pc=0\/(sv S i).pc=1):∀k,i∉G k:=λk H=>by
 rcases h.inG H with h1|⟨_,⟨_,h1⟩|⟨_,h1⟩⟩<;>omega
def HIv.at234(h:HIv nd n node W D S G)(hi:i<n)(I:(sv S i).pc=2\/(sv S i).pc=3\/(sv S i).pc=4):(G (i+1)).head? =some i:=by
 rcases Classical.em (∀k,i∉G k)with H|H
 .have:=h.free i hi H;omega
 .obtain⟨k,H⟩:=Classical.not_forall.1 H;rcases h.inG (Classical.not_not.1 H)with h1|⟨h0,⟨_,h1⟩|⟨rfl,h1⟩⟩
  .omega
  .omega
  .exact h0
def HIv.atFront(h:HIv nd n node W D S G)(hi:i<n)(I:(sv S i).pc=10\/(sv S i).pc=11):(G 0).head? =some i:=by
 rcases Classical.em (∀k,i∉G k)with H|H
 .have:=h.free i hi H;omega
 .obtain⟨k,H⟩:=Classical.not_forall.1 H;rcases h.inG (Classical.not_not.1 H)with h1|⟨h0,⟨rfl,h1⟩|⟨rfl,h1⟩⟩
  .omega
  .exact h0
  .omega
def HIv.at5(h:HIv nd n node W D S G)(hi:i<n)(V:(sv S i).pc=5):(∃k p,i∈(G k).tail/\p∈G k/\(sv S i).a=tokH p (dv D p+1))\/((G 0).head? =some i/\Dn n D (sv S i).a):=by
 rcases Classical.em (∀k,i∉G k)with H|H
 .have:=h.free i hi H;omega
 .obtain⟨k,H⟩:=Classical.not_forall.1 H;rcases h.inG (Classical.not_not.1 H)with h1|⟨h0,⟨rfl,h1⟩|⟨rfl,h1⟩⟩
  .obtain⟨_,p,I,O⟩:=h.notail h1.1;exact .inl ⟨k,p,h1.1,I,O⟩
  .refine .inr ⟨h0,?_⟩;rcases h1 with h1|h1|h1
   .exact h1.2
   .omega
   .omega
  .omega
def cl(h:j≠i):sv (S.set i p') j=sv S j:=by rw[be,if_neg (λe=>h e.1.symm)]
def qI(h:i<S.length):sv (S.set i p') i=p':=by rw[be,if_pos ⟨rfl,h⟩]
def xF(hw:W.length=1+nd+n)(V:n<=32){t:Nat}(I:t<n)(O:0<=d):isB W (2+(nd:Int)) n (tokH t d)=decide (d<=tnw nd W t):=by
 have h:tokH t d%65536=t+1:=by unfold tokH;omega
 have H:tokH t d/65536=d:=by unfold tokH;omega
 unfold isB B5;rw[h,H,show(2+(nd:Int)+((t:Int)+1-1))=2+(nd:Int)+t by omega,Ff hw I,decide_eq_true (show 0<=tokH t d/\1<=(t:Int)+1/\(t:Int)+1<=n by refine⟨by unfold tokH;omega,by omega,by omega⟩)];rfl
def HIv.keep(h:HIv nd n node W D S G)(hi:i<n)(hw:W'.length=W.length)(ab:∀t,t<n->tnw nd W' t=tnw nd W t)(UK:tl W'=tl W)(Sy:∀k,i∉(G k).tail)(ZA:(∀k,i∉G k)->p'.pc=0\/p'.pc=1)(ZW:G (i+1)≠[]->(((p'.pc=2/\0<p'.b)\/p'.pc=3)/\lc W' (node i)=eP D (G (i+1)))\/(p'.pc=4/\p'.c=eP D (G (i+1))))(ZZ:∀m,m≠i->G (m+1)≠[]->(sv S m).pc<4->lc W' (node m)=lc W (node m))(Qa:G (i+1)≠[]->p'.pc<4->(sv S i).pc<4)(ZS:∀v,v<nd->lc W' v=0\/(lc W' v=lc W v/\(v=node i->G (i+1)≠[]->(sv S i).pc<4->p'.pc<4)))(ZB:(G 0).head? =some i->(p'.pc=5/\Dn n D p'.a)\/p'.pc=10\/p'.pc=11):HIv nd n node W' D (S.set i p') G:=by
  have V:=qI (S:=S) (i:=i) (p':=p') aib;refine⟨hw.trans h.wl,by simp[h.sl],h.dl,h.n32,h.nn,λt I=>(ab t I).trans (h.tw t I),h.d0,h.nod,h.dj,h.lt,λk=>?_,λt I hk=>?_,h.first,h.same,λm hm=>?_,λm m' hm Md he h1 H=>?_,λv O=>?_,λt I=>?_,by rw[UK];exact h.tail⟩;. refine(h.lk k).mono λa b _ hb Ky=>?_;have:b≠i:=λe=>Sy k (e ▸ hb);unfold HLk;rw[cl this];exact Ky
  . by_cases e:t=i;. subst e;rw[V];exact ZA hk
    . rw[cl e];exact h.free t I hk
  . by_cases e:m=i;. subst e;rw[V];exact ZW hm
    . rw[cl e];rcases h.mast m hm with⟨h1,H⟩|h1
      . exact .inl ⟨h1,by rw[ZZ m e hm ahB];exact H⟩
      . exact .inr h1
  . refine h.one m m' hm Md he ?_ ?_
    . by_cases e:m=i;. subst e;rw[V]at h1;exact Qa hm h1
      . rw[cl e]at h1;exact h1
    . by_cases e:m'=i;. subst e;rw[V]at H;exact Qa Md H
      . rw[cl e]at H;exact H
  . rcases ZS v O with h1|⟨h1,H⟩
    . exact .inl h1
    . rw[h1];rcases h.loc v O with Y|⟨m,Y,h4,h5⟩
      . exact .inl Y
      . refine .inr ⟨m,Y,?_,h5⟩;by_cases e:m=i;. subst e;rw[V];exact H h5.symm Y h4
        . rw[cl e];exact h4
  . by_cases e:t=i;. subst e;rw[V];exact ZB I
    . rw[cl e];exact h.front t I
end
end
section
open Go
def upd(G:Nat->List Nat)(k:Nat)(l:List Nat):Nat->List Nat:=λj=>if j=k then l else G j
def cz(G:Nat->List Nat)(k:Nat)(l:List Nat):upd G k l k=l:=by unfold upd;rw[if_pos rfl]
def pR(G:Nat->List Nat)(l:List Nat)(h:j≠k):upd G k l j=G j:=by unfold upd;rw[if_neg h]
section
variable{node:Nat->Nat}{D:List Int}{S:List Sp}{G:Nat->List Nat}{p':Sp}
def jO(x:Int)(h:1+v<W.length):lc (W.set (1+v) x) u=if v=u then x else lc W u:=by
 unfold lc;by_cases e:v=u;.subst e;rw[iu _ _ _ h,if_pos rfl]
 .rw[dk _ _ _ ahB,if_neg e]
def r4(x:Int):tl (W.set (1+v) x)=tl W:=dk _ _ _ ahB
def pN{t:Nat}(x:Int)(h:v<nd):tnw nd (W.set (1+v) x) t=tnw nd W t:=dk _ _ _ ahB
def HIv.nil1(h:HIv nd n node W D S G)(H:∀k,i∉G k):G (i+1)=[]:=by
 rcases Classical.em (G (i+1)=[])with e|e
 .exact e
 .exact absurd (bD (h.first i e)) (H _)
def HIv.ask(h:HIv nd n node W D S G)(hi:i<n)(O:(sv S i).pc=0)(Y:p'.pc=1):HIv nd n node W D (S.set i p') G:=by have I:=h.at01 (.inl O);have e:=h.nil1 I;refine h.keep hi rfl (λ_ _=>rfl) rfl (λk hm=>I k (List.mem_of_mem_tail hm)) (λ_=> .inr Y) (λH=>absurd e H) (λ_ _ _ _=>rfl) (λH=>absurd e H) (λ_ _=> .inr ⟨rfl,λ_ H=>absurd e H⟩) (λV=>absurd (bD V) (I 0))
def HIv.atFrontP(h:HIv nd n node W D S G)(hi:i<n)(V:(G 0).head? =some i)(hp:p'.pc=10\/p'.pc=11):HIv nd n node W D (S.set i p') G:=by
 have hm:=bD V
 have I:G (i+1)=[]:=by
  rcases Classical.em (G (i+1)=[])with e|e
  .exact e
  .have:=h.dj _ _ _ hm (bD (h.first i e));omega
 refine h.keep hi rfl (λ_ _=>rfl) rfl (λk O=>?_) (λY=>absurd hm (Y 0)) (λH=>absurd I H) (λ_ _ _ _=>rfl) (λH=>absurd I H) (λ_ _=> .inr ⟨rfl,λ_ H=>absurd I H⟩) (λ_=> .inr hp);have:=h.dj _ _ _ hm (List.mem_of_mem_tail O);subst this;exact iC (h.nod 0) V O
def HIv.masterNot(h:HIv nd n node W D S G)(I:(G (i+1)).head? =some i):(∀k,i∉(G k).tail)/\¬(G 0).head? =some i:=by
 have hm:=bD I;refine⟨λk H=>?_,λO=>?_⟩;.have:=h.dj _ _ _ hm (List.mem_of_mem_tail H);subst this;exact iC (h.nod _) I H
 .have:=h.dj _ _ _ hm (bD O);omega
def HIv.s2(h:HIv nd n node W D S G)(hi:i<n)(O:(sv S i).pc=2)(hp:(p'.pc=2/\0<p'.b)\/p'.pc=3):HIv nd n node W D (S.set i p') G:=by
 have I:=h.at234 hi (.inl O);obtain⟨q1,q2⟩:=h.masterNot I;refine h.keep hi rfl (λ_ _=>rfl) rfl q1 (λY=>absurd (bD I) (Y _)) (λH=>?_) (λ_ _ _ _=>rfl) (λ_ _=>by omega) (λ_ _=> .inr ⟨rfl,λ_ _ _=>by omega⟩) (λV=>absurd V q2);rcases h.mast i H with⟨_,h1⟩|⟨h1,_⟩
 .exact .inl ⟨hp,h1⟩
 .omega
def HIv.s3(h:HIv nd n node W D S G)(hi:i<n)(h3:(sv S i).pc=3)(hp:p'.pc=4)(hc:p'.c=lc W (node i)):HIv nd n node (W.set (1+node i) 0) D (S.set i p') G:=by
 have I:=h.at234 hi (.inr (.inl h3));obtain⟨q1,q2⟩:=h.masterNot I;have O:=h.nn i hi;have V:1+node i<W.length:=by rw[h.wl];omega
 refine h.keep hi ahC (λt _=>pN 0 O) (r4 0) q1 (λhk=>absurd (bD I) (hk _)) (λH=>?_) (λm hm H h4=>?_) (λ_ _=>by omega) (λv _=>?_) (λhh=>absurd hh q2)
 .rcases h.mast i H with⟨_,h1⟩|⟨h1,_⟩
  .exact .inr ⟨hp,hc.trans h1⟩
  .omega
 .rw[jO 0 V,if_neg];intro e;exact hm (h.one m i H (ib I) e.symm h4 ahB)
 .rw[jO 0 V];by_cases e:node i=v;.exact .inl (by rw[if_pos e])
  .exact .inr ⟨by rw[if_neg e],λY=>absurd Y.symm e⟩
def HIv.same5(h:HIv nd n node W D S G)(hi:i<n)(H:p'=sv S i):HIv nd n node W D (S.set i p') G:=by
 have:S.set i p'=S:=by
  subst H;apply List.ext_getElem?;intro j;rw[List.getElem?_set];by_cases e:i=j;.subst e;have:i<S.length:=(by rw[h.sl];exact hi);rw[if_pos rfl,if_pos this];exact aay
  .rw[if_neg e]
 rw[this];exact h
def HIv.s5(h:HIv nd n node W D S G)(hi:i<n)(V:(sv S i).pc=5)(hb:isB W (2+(nd:Int)) n (sv S i).a=true):(G 0).head? =some i:=by
 rcases h.at5 hi V with⟨k,p,_,I,O⟩|h1
 .have H:=h.lt k p I;rw[O,xF h.wl h.n32 H (by have:=h.d0 p;omega),h.tw p H]at hb;have:=of_decide_eq_true hb;omega
 .exact h1.1
def HIv.s5n(h:HIv nd n node W D S G)(O:(G 0).head? =some i)(Y:(sv S i).pc=5):isB W (2+(nd:Int)) n (sv S i).a=true:=by
 rcases h.front i O with⟨_,t,d,h1,V,H,I⟩|h1|h1
 .rw[I,xF h.wl h.n32 h1 ahB,h.tw t h1];exact decide_eq_true H
 .omega
 .omega
def HIv.s1a(h:HIv nd n node W D S G)(hi:i<n)(h1:(sv S i).pc=1)(hl:lc W (node i)=0)(hp:(p'.pc=2/\0<p'.b)\/p'.pc=3):HIv nd n node (W.set (1+node i) (tokH i (dv D i+1))) D (S.set i p') (upd G (i+1) [i]):=by
 have hk:=h.at01 (.inr h1);have O:=h.nn i hi;have M1:1+node i<W.length:=by rw[h.wl];omega
 have Mz:=qI (S:=S) (i:=i) (p':=p') aib;have I':eP D [i]=tokH i (dv D i+1):=dz rfl
 have Uu:∀m,G (m+1)≠[]->(sv S m).pc<4->node m≠node i:=λm hm h4 e=>by
  rcases h.mast m hm with⟨_,I⟩|⟨I,_⟩
  .rw[e,hl]at I;obtain⟨t,ht,_⟩:=kz hm;rw[dz ht]at I;exact wY (by have:=h.d0 t;omega) I.symm
  .omega
 have Y:∀k,k≠i+1->upd G (i+1) [i] k=G k:=λk e=>pR G _ e;have M0:∀m,m≠i->upd G (i+1) [i] (m+1)=G (m+1):=λm e=>Y _ ahB;refine⟨by simp[h.wl],by simp[h.sl],h.dl,h.n32,h.nn,λt ht=>(pN _ O).trans (h.tw t ht),h.d0,λk=>?_,λk k' t H KE=>?_,λk t hm=>?_,λk=>?_,λt ht H=>?_,λm hm=>?_,λm t hm=>?_,λm hm=>?_,λm m' hm Md he I h3=>?_,λv L3=>?_,λt ht=>?_,?_⟩
 .by_cases e:k=i+1;.rw[e,cz];simp
  .rw[Y k e];exact h.nod k
 .by_cases e:k=i+1<;>by_cases V:k'=i+1;.omega
  .rw[e,cz]at H;rw[Y k' V]at KE;rw[List.mem_singleton.1 H]at KE;exact absurd KE (hk k')
  .rw[V,cz]at KE;rw[Y k e]at H;rw[List.mem_singleton.1 KE]at H;exact absurd H (hk k)
  .rw[Y k e]at H;rw[Y k' V]at KE;exact h.dj k k' t H KE
 .by_cases e:k=i+1;.rw[e,cz]at hm;rw[List.mem_singleton.1 hm];exact hi
  .rw[Y k e]at hm;exact h.lt k t hm
 .by_cases e:k=i+1;.rw[e,cz];exact⟨λb hb=>by simp at hb,trivial⟩
  .rw[Y k e];refine(h.lk k).mono λa b _ hb Ky=>?_;exact aaz
 .have e:t≠i:=λe=>H (i+1) (by rw[cz,e];simp);rw[cl e];refine h.free t ht λk=>?_;by_cases e2:k=i+1;.rw[e2,h.nil1 hk];simp
  .have:=H k;rw[Y k e2]at this;exact this
 .by_cases e:m=i;.rw[e,cz];rfl
  .rw[M0 m e]at hm ⊢;exact h.first m hm
 .by_cases e:m=i;.rw[e,cz]at hm;rw[List.mem_singleton.1 hm,e]
  .rw[M0 m e]at hm;exact h.same m t hm
 .by_cases e:m=i;.subst e;rw[cz,Mz,jO _ M1,if_pos rfl,I'];exact .inl ⟨hp,rfl⟩
  .rw[M0 m e]at hm ⊢;rw[cl e];rcases h.mast m hm with⟨I,h3⟩|I
   .refine .inl ⟨I,?_⟩;rw[jO _ M1,if_neg (λV=>Uu m hm ahB V.symm)];exact h3
   .exact .inr I
 .by_cases e:m=i<;>by_cases V:m'=i;.omega
  .rw[M0 m' V]at Md;rw[cl V]at h3;subst e;exact absurd he.symm (Uu m' Md h3)
  .rw[M0 m e]at hm;rw[cl e]at I;subst V;exact absurd he (Uu m hm I)
  .rw[M0 m e]at hm;rw[M0 m' V]at Md;rw[cl e]at I;rw[cl V]at h3;exact h.one m m' hm Md he I h3
 .by_cases e:node i=v;.refine .inr ⟨i,by rw[cz];simp,?_,e⟩;rw[Mz];omega
  .rw[jO _ M1,if_neg e];rcases h.loc v L3 with I|⟨m,I,h3,h4⟩
   .exact .inl I
   .have e2:m≠i:=λe2=>e (by rw[<-e2];exact h4);exact .inr ⟨m,by rw[M0 m e2];exact I,by rw[cl e2];exact h3,h4⟩
 .rw[Y 0 ahB]at ht;rw[cl (λe=>hk 0 (by rw[<-e];exact bD ht))];exact h.front t ht
 .rw[Y 0 ahB,r4];exact h.tail
def HIv.s1b(h:HIv nd n node W D S G)(hi:i<n)(h1:(sv S i).pc=1)(hl:lc W (node i)≠0)(hp:p'.pc=5)(ha:p'.a=lc W (node i)):∃m t,G (m+1)≠[]/\t∈G (m+1)/\node t=node i/\p'.a=tokH t (dv D t+1)/\HIv nd n node (W.set (1+node i) (tokH i (dv D i+1))) D (S.set i p') (upd G (m+1) (G (m+1)++[i])):=by
  have hk:=h.at01 (.inr h1);have O:=h.nn i hi;have M1:1+node i<W.length:=by rw[h.wl];omega
  have Mz:=qI (S:=S) (i:=i) (p':=p') aib;rcases h.loc (node i) O with V|⟨m,hm,WG,PI⟩
  . exact absurd V hl
  have KX:lc W (node m)=eP D (G (m+1)):=by
    rcases h.mast m hm with⟨_,V⟩|⟨V,_⟩
    . exact V
    . omega
  obtain⟨t,ht,Rt⟩:=kz hm;have ad:p'.a=tokH t (dv D t+1):=by rw[ha,<-PI,KX,dz ht]
  have Ss:m≠i:=λe=>by rw[e]at hm;exact hm (h.nil1 hk)
  refine⟨m,t,hm,Rt,(h.same m t Rt).trans PI,ad,?_⟩;have hu:∀k,k≠m+1->upd G (m+1) (G (m+1)++[i]) k=G k:=λk e=>pR G _ e;have M0:∀j,j≠m->upd G (m+1) (G (m+1)++[i]) (j+1)=G (j+1):=λj e=>hu _ ahB;have ZO:eP D (G (m+1)++[i])=tokH i (dv D i+1):=by rw[lu _ ahC];exact dz rfl
  have ab:∀j,upd G (m+1) (G (m+1)++[i]) (j+1)≠[]->G (j+1)≠[]:=λj I=>by
    by_cases e:j=m;. rw[e];exact hm
    . rw[M0 j e]at I;exact I
  refine⟨by simp[h.wl],by simp[h.sl],h.dl,h.n32,h.nn,λt ht=>(pN _ O).trans (h.tw t ht),h.d0,λk=>?_,λk k' t H Y=>?_,λk t hm=>?_,λk=>?_,λt ht H=>?_,λj I=>?_,λj t I=>?_,λj I=>?_,λj j' I MM he V h3=>?_,λv L3=>?_,λt ht=>?_,?_⟩
  . by_cases e:k=m+1;. rw[e,cz];refine List.nodup_append.2 ⟨h.nod _,by simp,λx hx y hy=>?_⟩;rw[List.mem_singleton.1 hy];rintro rfl;exact hk _ hx
    . rw[hu k e];exact h.nod k
  . by_cases e:k=m+1<;>by_cases e':k'=m+1;. omega
    . rw[e,cz]at H;rw[hu k' e']at Y;rcases List.mem_append.1 H with H|H
      . rw[e];exact h.dj _ _ t H Y
      . rw[List.mem_singleton.1 H]at Y;exact absurd Y (hk k')
    . rw[e',cz]at Y;rw[hu k e]at H;rcases List.mem_append.1 Y with Y|Y
      . rw[e'];exact h.dj _ _ t H Y
      . rw[List.mem_singleton.1 Y]at H;exact absurd H (hk k)
    . rw[hu k e]at H;rw[hu k' e']at Y;exact h.dj k k' t H Y
  . by_cases e:k=m+1
    . rw[e,cz]at hm;rcases List.mem_append.1 hm with hm|hm
      . exact h.lt _ t hm
      . rw[List.mem_singleton.1 hm];exact hi
    . rw[hu k e]at hm;exact h.lt k t hm
  . have old:∀k,Lks (HLk D (S.set i p')) (G k):=λk=>(h.lk k).mono λa b _ hb Ky=>by exact aaz
    by_cases e:k=m+1;. rw[e,cz];refine(old _).append ⟨λb hb=>by simp at hb,trivial⟩ λa b Lv al=>?_;have e1:b=i:=(by simpa using al.symm);rw[ht]at Lv;injection Lv with Lv;subst e1 Lv;unfold HLk;rw[Mz];exact⟨hp,ad⟩
    . rw[hu k e];exact old k
  . have e:t≠i:=λe=>H (m+1) (by rw[cz,e];simp);rw[cl e];refine h.free t ht λk=>?_;by_cases e2:k=m+1;. have:=H k;rw[e2,cz]at this;rw[e2];exact λhx=>this (List.mem_append_left _ hx)
    . have:=H k;rw[hu k e2]at this;exact this
  . by_cases e:j=m;. rw[e,cz,List.head?_append,h.first m hm];rfl
    . rw[M0 j e]at I ⊢;exact h.first j I
  . by_cases e:j=m
    . rw[e,cz]at I;rcases List.mem_append.1 I with I|I
      . rw[e];exact h.same m t I
      . rw[List.mem_singleton.1 I,e];exact PI.symm
    . rw[M0 j e]at I;exact h.same j t I
  . have MW:j≠i:=λe=>by have:=ab j I;rw[e]at this;exact this (h.nil1 hk)
    rw[cl MW];by_cases e:j=m
    . subst e;rcases h.mast j hm with⟨V,h3⟩|⟨V,_⟩
      . exact .inl ⟨V,by rw[cz,ZO,jO _ M1,if_pos PI.symm]⟩
      . omega
    . rw[M0 j e]at I ⊢;rcases h.mast j I with⟨V,h3⟩|V
      . refine .inl ⟨V,?_⟩;rw[jO _ M1,if_neg];. exact h3
        . intro e';exact e (h.one j m I hm (e'.symm.trans PI.symm) ahB WG)
      . exact .inr V
  . have e1:j≠i:=λe=>by have:=ab j I;rw[e]at this;exact this (h.nil1 hk)
    have e2:j'≠i:=λe=>by have:=ab j' MM;rw[e]at this;exact this (h.nil1 hk)
    rw[cl e1]at V;rw[cl e2]at h3;exact h.one j j' (ab j I) (ab j' MM) he V h3
  . by_cases e:node i=v;. exact .inr ⟨m,by rw[cz];simp,by rw[cl Ss];exact WG,PI.trans e⟩
    . rw[jO _ M1,if_neg e];rcases h.loc v L3 with V|⟨j,V,h3,h4⟩
      . exact .inl V
      . have e2:j≠i:=λe2=>e (by rw[<-e2];exact h4);have e3:j≠m:=λe3=>e (by rw[<-h4,e3,PI]);exact .inr ⟨j,by rw[M0 j e3];exact V,by rw[cl e2];exact h3,h4⟩
  . rw[hu 0 ahB]at ht;rw[cl (λe=>hk 0 (by rw[<-e];exact bD ht))];exact h.front t ht
  . rw[hu 0 ahB,r4];exact h.tail
end
end
section
open Go
section
variable{node:Nat->Nat}{D:List Int}{S:List Sp}{G:Nat->List Nat}{p':Sp}
def spl(G:Nat->List Nat)(i:Nat):Nat->List Nat:=λj=>if j=0 then G 0++G (i+1)else if j=i+1 then[]else G j
def zC(G:Nat->List Nat)(i:Nat):spl G i 0=G 0++G (i+1):=by unfold spl;rw[if_pos rfl]
def EN(G:Nat->List Nat)(i:Nat):spl G i (i+1)=[]:=by unfold spl;rw[if_neg ahB,if_pos rfl]
def CZ(G:Nat->List Nat)(h:j≠i):spl G i (j+1)=G (j+1):=by unfold spl;rw[if_neg ahB,if_neg ahB]
def EZ(x:Int)(h:0<W.length):tl (W.set 0 x)=x:=iu _ _ _ h
def xH(x:Int):lc (W.set 0 x) v=lc W v:=dk _ _ _ ahB
def C8{t:Nat}(x:Int):tnw nd (W.set 0 x) t=tnw nd W t:=dk _ _ _ ahB
def rD{t:Nat}(hm:t∈spl G i k):∃h,t∈G h/\(k=h\/(k=0/\h=i+1)):=by
 unfold spl at hm;split at hm
 .rename_i e;rcases List.mem_append.1 hm with hm|hm
  .exact⟨0,hm,.inl e⟩
  .exact⟨i+1,hm,.inr ⟨e,rfl⟩⟩
 .split at hm;.simp at hm
  .exact⟨k,hm,.inl rfl⟩
def HIv.s4(h:HIv nd n node W D S G)(hi:i<n)(h4:(sv S i).pc=4)(hp:(tl W=0/\p'.pc=10)\/(tl W≠0/\p'.pc=5))(ha:p'.a=tl W):(∃r,G (i+1)=i :: r)/\(p'.pc=10->G 0=[])/\HIv nd n node (W.set 0 (sv S i).c) D (S.set i p') (spl G i):=by
  have hf:=h.at234 hi (.inr (.inr h4));have al:=ib hf;have M1:0<W.length:=by rw[h.wl];omega
  have Mz:=qI (S:=S) (i:=i) (p':=p') aib;obtain⟨q1,q2⟩:=h.masterNot hf
  have hc:(sv S i).c=eP D (G (i+1)):=by
    rcases h.mast i al with⟨H,_⟩|⟨_,H⟩
    . omega
    . exact H
  have Zw:p'.pc=10->G 0=[]:=λe=>by
    rcases h.tail with⟨H,V⟩|⟨H,_⟩
    . rcases hp with⟨h5,_⟩|⟨_,h6⟩
      . obtain⟨t,Y,_⟩:=kz V;rw[h5,dz Y]at H;exact absurd H.symm (wY (by have:=h.d0 t;omega))
      . omega
    . exact H
  refine⟨?_,Zw,?_⟩
  . cases I:G (i+1)with
    | nil=>exact absurd I al
    | cons a r=>rw[I]at hf;simp at hf;subst hf;exact⟨r,rfl⟩
  have old:∀k,Lks (HLk D (S.set i p')) (G k):=λk=>(h.lk k).mono λa b _ hb Ky=>by have:b≠i:=λe=>q1 k (e ▸ hb);unfold HLk;rw[cl this];exact Ky
  have hm0:∀m,spl G i (m+1)≠[]->m≠i/\G (m+1)≠[]:=λm hm=>by
    by_cases e:m=i;. rw[e,EN]at hm;exact absurd rfl hm
    . rw[CZ G e]at hm;exact⟨e,hm⟩
  refine⟨by simp[h.wl],by simp[h.sl],h.dl,h.n32,h.nn,λt Y=>(C8 _).trans (h.tw t Y),h.d0,λk=>?_,λk k' t O KE=>?_,λk t hm=>?_,λk=>?_,λt Y O=>?_,λm hm=>?_,λm t hm=>?_,λm hm=>?_,λm m' hm Md he H V=>?_,λv L3=>?_,λt Y=>?_,?_⟩
  . unfold spl;split;. refine List.nodup_append.2 ⟨h.nod _,h.nod _,λx hx y hy e=>?_⟩;subst e;have:=h.dj _ _ _ hx hy;omega
    . split;. exact List.nodup_nil
      . exact h.nod k
  . obtain⟨j,hj,ej⟩:=rD O;obtain⟨j',MM,YZ⟩:=rD KE;have e:=h.dj _ _ _ hj MM;subst e;rcases ej with rfl|⟨rfl,rfl⟩<;>rcases YZ with e'|⟨rfl,e'⟩
    . exact e'.symm
    . subst e';rw[EN]at O;simp at O
    . subst e';rw[EN]at KE;simp at KE
    . rfl
  . obtain⟨j,hj,_⟩:=rD hm;exact h.lt j t hj
  . unfold spl;split
    . refine(old 0).append (old _) λa b Lv ad=>?_;rw[hf]at ad;injection ad with ad;subst ad;rcases h.tail with⟨H,V⟩|⟨H,_⟩
      . unfold HLk;rw[Mz,ha,H,dz Lv];refine⟨?_,rfl⟩;rcases hp with⟨h5,_⟩|⟨_,h6⟩
        . rw[h5,dz Lv]at H;exact absurd H.symm (wY (by have:=h.d0 a;omega))
        . exact h6
      . rw[H]at Lv;simp at Lv
    . split;. trivial
      . exact old k
  . have e:t≠i:=λe=>O 0 (by rw[zC,e];exact List.mem_append_right _ (bD hf));rw[cl e];refine h.free t Y λk hk=>?_;by_cases e0:k=0;. subst e0;exact O 0 (by rw[zC];exact List.mem_append_left _ hk)
    . by_cases e1:k=i+1;. subst e1;exact O 0 (by rw[zC];exact List.mem_append_right _ hk)
      . exact O k (by unfold spl;rw[if_neg e0,if_neg e1];exact hk)
  . obtain⟨e,ab⟩:=hm0 m hm;rw[CZ G e];exact h.first m ab
  . have e:m≠i:=λe=>by rw[e,EN]at hm;simp at hm
    rw[CZ G e]at hm;exact h.same m t hm
  . obtain⟨e,ab⟩:=hm0 m hm;rw[CZ G e,cl e,xH];exact h.mast m ab
  . obtain⟨e,ab⟩:=hm0 m hm;obtain⟨e',ZV⟩:=hm0 m' Md;rw[cl e]at H;rw[cl e']at V;exact h.one m m' ab ZV he H V
  . rw[xH];rcases h.loc v L3 with H|⟨m,H,V,h5⟩
    . exact .inl H
    . have e:m≠i:=λe=>by rw[e]at V;omega
      exact .inr ⟨m,by rw[CZ G e];exact H,by rw[cl e];exact V,h5⟩
  . rw[zC]at Y;by_cases h0:G 0=[]
    . rw[h0,List.nil_append,hf]at Y;injection Y with Y;subst Y;rw[Mz];rcases hp with⟨_,h5⟩|⟨h5,h6⟩
      . exact .inr (.inl h5)
      . refine .inl ⟨h6,?_⟩;rw[ha];rcases h.tail with⟨_,V⟩|⟨_,V|V⟩
        . exact absurd h0 V
        . exact absurd V h5
        . exact V
    . have NY:(G 0).head? =some t:=by
        cases hg:G 0 with
        | nil=>exact absurd hg h0
        | cons a l=>rw[hg]at Y;simpa using Y
      rw[cl (λe:t=i=>q2 (by rw[<-e];exact NY))];exact h.front t NY
  . rw[zC,EZ _ M1];exact .inl ⟨by rw[lu _ al];exact hc,by simp[al]⟩
def Bm(h:i<D.length)(x:Int)(t:Nat):dv (D.set i x) t=if i=t then x else dv D t:=by
 unfold dv;by_cases e:i=t;.subst e;rw[iu _ _ _ h,if_pos rfl]
 .rw[dk _ _ _ e,if_neg e]
def mQ{l:List Nat}(h:∀t∈l,dv D' t=dv D t):eP D' l=eP D l:=by
 unfold eP;cases H:l.getLast? with
 |none=>rfl
 |some t=>simp only;rw[h t (List.mem_of_getLast? H)]
def HIv.s11(h:HIv nd n node W D S G)(hi:i<n)(Y:(G 0).head? =some i)(hp:p'.pc=0)(x:Int)(hx:x=dv D i+1):HIv nd n node (W.set (1+nd+i) x) (D.set i (dv D i+1)) (S.set i p') (upd G 0 (G 0).tail):=by
  have hm0:=bD Y;have M1:1+nd+i<W.length:=by rw[h.wl];omega
  have ON:i<D.length:=by have:=h.dl;omega
  have Mz:=qI (S:=S) (i:=i) (p':=p') aib;have Oq:i∉(G 0).tail:=iC (h.nod 0) Y;have Sn:∀k,k≠0->i∉G k:=λk hk hm=>hk (h.dj _ _ _ hm hm0)
  have Sy:∀k,i∉(G k).tail:=λk hm=>by
    by_cases e:k=0;. subst e;exact Oq hm
    . exact Sn k e (List.mem_of_mem_tail hm)
  have WC:∀v,v<nd->lc (W.set (1+nd+i) x) v=lc W v:=λv O=>dk _ _ _ ahB;have al:tl (W.set (1+nd+i) x)=tl W:=dk _ _ _ ahB
  have ax:∀t,tnw nd (W.set (1+nd+i) x) t=if i=t then x else tnw nd W t:=λt=>by
    unfold tnw;by_cases e:i=t;. subst e;rw[iu _ _ _ M1,if_pos rfl]
    . rw[dk _ _ _ ahB,if_neg e]
  have Rb:=Bm ON (dv D i+1);have NA:∀t,t≠i->dv (D.set i (dv D i+1)) t=dv D t:=λt e=>by rw[Rb,if_neg (λh=>e h.symm)]
  have OO:∀t,dv D t<=dv (D.set i (dv D i+1)) t:=λt=>by rw[Rb];split<;>(try subst_vars)<;>omega
  have hu:∀k,k≠0->upd G 0 (G 0).tail k=G k:=λk e=>pR G _ e
  have PL:∀k t,t∈upd G 0 (G 0).tail k->t∈G k/\t≠i:=λk t hm=>by
    by_cases e:k=0;. subst e;rw[cz]at hm;exact⟨List.mem_of_mem_tail hm,λe=>Oq (e ▸ hm)⟩
    . rw[hu k e]at hm;exact⟨hm,λe'=>Sn k e (e' ▸ hm)⟩
  have Zq:∀k,Lks (HLk D S) (upd G 0 (G 0).tail k):=λk=>by
    by_cases e:k=0;. subst e;rw[cz];exact(h.lk 0).tail
    . rw[hu k e];exact h.lk k
  have Sv:∀m,G (m+1)≠[]->m≠i:=λm hm e=>by subst e;exact Sn _ ahB (bD (h.first m hm))
  have I':∀k,k≠0->eP (D.set i (dv D i+1)) (G k)=eP D (G k):=λk e=>mQ λt H=>NA t λe'=>Sn k e (e' ▸ H);refine⟨by simp[h.wl],by simp[h.sl],by simpa using h.dl,h.n32,h.nn,λt H=>?_,λt=>?_,λk=>?_,λk k' t ab KE=>?_,λk t hm=>?_,λk=>?_,λt H ab=>?_,λm hm=>?_,λm t hm=>?_,λm hm=>?_,λm m' hm Md he V I=>?_,λv L3=>?_,λt H=>?_,?_⟩
  . rw[ax,Rb,hx];split;. rfl
    . exact h.tw t H
  . have:=OO t;have:=h.d0 t;omega
  . by_cases e:k=0;. subst e;rw[cz];exact(h.nod 0).sublist (List.tail_sublist _)
    . rw[hu k e];exact h.nod k
  . exact h.dj k k' t (PL k t ab).1 (PL k' t KE).1
  . exact h.lt k t (PL k t hm).1
  . refine(Zq k).mono λa b ha hb Ky=>?_;have e1:=(PL k a ha).2;have e2:=(PL k b (List.mem_of_mem_tail hb)).2;unfold HLk;rw[cl e2,NA a e1];exact Ky
  . by_cases e:t=i;. subst e;rw[Mz];exact .inl hp
    . rw[cl e];refine h.free t H λk hk=>ab k ?_;by_cases e2:k=0
      . subst e2;rw[cz];rcases CB hk with I|I
        . rw[Y]at I;injection I with I;exact absurd I.symm e
        . exact I
      . rw[hu k e2];exact hk
  . rw[hu _ ahB]at hm ⊢;exact h.first m hm
  . rw[hu _ ahB]at hm;exact h.same m t hm
  . rw[hu _ ahB]at hm ⊢;have e:=Sv m hm;rw[cl e,WC _ (h.nn m (h.lt _ _ (bD (h.first m hm)))),I' _ ahB];exact h.mast m hm
  . rw[hu _ ahB]at hm Md;rw[cl (Sv m hm)]at V;rw[cl (Sv m' Md)]at I;exact h.one m m' hm Md he V I
  . rw[WC v L3];rcases h.loc v L3 with V|⟨m,V,I,h4⟩
    . exact .inl V
    . exact .inr ⟨m,by rw[hu _ ahB];exact V,by rw[cl (Sv m V)];exact I,h4⟩
  . rw[cz]at H;have Rt:=bD H;have e:t≠i:=λe=>Oq (e ▸ Rt);rw[cl e];obtain⟨h5,p,bc,ad⟩:=h.notail Rt;refine .inl ⟨h5,?_⟩
    have Z':p=i:=by
      have hc:=h.lk 0;cases hg:G 0 with
      | nil=>rw[hg]at H;simp at H
      | cons a l=>rw[hg]at hc Y H;simp at Y H;subst Y;have:=(hc.1 t H).2;rw[ad]at this;exact(E0 (by have:=h.lt 0 p bc;have:=h.n32;omega) (by have:=h.n32;omega) this).1
    subst Z';exact⟨p,dv D p+1,hi,by have:=h.d0 p;omega,by rw[Rb,if_pos rfl];exact Int.le_refl _,ad⟩
  . rw[cz,al];rcases h.tail with⟨V,I⟩|⟨V,I⟩
    . cases hg:G 0 with
      | nil=>exact absurd hg I
      | cons a l=>
        rw[hg]at Y V;simp at Y;subst Y;cases l with
        | nil=>exact .inr ⟨rfl,.inr ⟨a,dv D a+1,hi,by have:=h.d0 a;omega,by rw[Rb,if_pos rfl];exact Int.le_refl _,by rw[V];exact dz rfl⟩⟩
        | cons b l=>refine .inl ⟨?_,by simp⟩;have e1:eP D (a :: b :: l)=eP D (b :: l):=(by unfold eP;rw[List.getLast?_cons_cons]);rw[V,e1];refine(mQ λt H=>NA t λe=>?_).symm;rw[hg]at Oq;exact Oq (e ▸ H)
    . rw[V]at Y;simp at Y
end
end
section
open Go
structure HOk(nd n:Nat)(dl:Int)(node:Nat->Nat)(h:Hc)(N:Nat)(G:Nat->List Nat):Prop where
 iv:HIv nd n node h.ar.W h.D h.S G
 ops:h.ar.ops<=N
 dn:∀t,dv h.D t<=N
 bb:∀t,t<n->(sv h.S t).pc=2->(sv h.S t).b<=dl
structure StH(n:Nat)(node:Nat->Nat)(p p':Sp)(i:Nat)(Q Q':List Nat):Prop where
 row:p.pc=1->p'.pc=5->∃(t:Nat) (d:Int),t<n/\node t=node i/\0<=d/\p'.a=tokH t d
 stay:p.pc≠4->p.pc≠11->Q'=Q
 splice:p.pc=4->(∃r,Q'=Q++i :: r)/\(p'.pc=10->Q=[])
 gone:p.pc=11->Q.head? =some i/\Q'=Q.tail
 enter:p'.pc=10->p.pc≠10->p.pc=4\/(p.pc=5/\Q.head? =some i)
 look:p.pc=5->Q.head? =some i->p'.pc=10
 only:p.pc=1\/p.pc=2\/p.pc=3\/p.pc=4\/p.pc=5\/p.pc=11
 less:p.pc≠5->p'.pc=p.pc->p'.pc=2/\p'.b=p.b-1/\1<=p'.b
 next:p'.pc=p.pc\/(p.pc=1/\(p'.pc=2\/p'.pc=3\/p'.pc=5))\/(p.pc=2/\p'.pc=3)\/(p.pc=3/\p'.pc=4)\/(p.pc=4/\(p'.pc=5\/p'.pc=10))\/(p.pc=5/\p'.pc=10)\/(p.pc=11/\p'.pc=0)
section
variable{dl:Int}{node:Nat->Nat}{h:Hc}{G:Nat->List Nat}
def tB{p:Sp}:iw p=true↔(p.pc=1\/p.pc=2\/p.pc=3\/p.pc=4\/p.pc=5\/p.pc=11):=by unfold iw;simp[or_assoc]
def Ip(s:Ar)(f:Int)(n:Nat)(w:Int):(isA s f n w).W=s.W:=by unfold isA;split<;>simp[aQ]
def rf(s:Ar)(f:Int)(n:Nat)(w:Int):(isA s f n w).ops<=s.ops+1:=by unfold isA;split<;>simp[iW]
def HOk.bset(k:HOk nd n dl node h N G)(hi:i<n){p':Sp}(hb:p'.pc=2->p'.b<=dl):∀t,t<n->(sv (h.S.set i p') t).pc=2->(sv (h.S.set i p') t).b<=dl:=λt I H=>by
 by_cases e:t=i
 .subst e
  rw[qI (by rw[k.iv.sl];exact hi)]at H ⊢
  exact hb H
 .rw[cl e]at H ⊢;exact k.bb t I H
def HOk.step(k:HOk nd n dl node h N G)(hN:N<1000000)(hi:i<n)(hg:iw (sv h.S i)=true)(x:Ar×List Int×Sp)(hx:x=bp nd n dl h (node i) i (sv h.S i)):∃G',HOk nd n dl node ⟨x.1,x.2.1,h.S.set i x.2.2⟩ (N+1) G'/\StH n node (sv h.S i) x.2.2 i (G 0) (G' 0):=by
  have O:=k.iv.nn i hi;have Lo:=Iq (W:=h.ar.W) (n:=n) k.iv.wl O;have Kl:=λy=>Jd (W:=h.ar.W) (n:=n) k.iv.wl O y;have NA:∀t,dv h.D t<=(N+1:Nat):=λt=>by have:=k.dn t;omega
  have Nd:∀{s:Ar},s.ops<=h.ar.ops+1->s.ops<=N+1:=λhs=>by have:=k.ops;omega
  rcases tB.1 hg with e|e|e|e|e|e
  . have H:x=(cr h.ar (2+(node i:Int)) (tokH i (dv h.D i+1)),h.D,
      if lc h.ar.W (node i)≠0 then {sv h.S i with a:=lc h.ar.W (node i),pc:=5} else if 0<dl then {sv h.S i with a:=lc h.ar.W (node i),b:=dl,pc:=2} else {sv h.S i with a:=lc h.ar.W (node i),b:=0,pc:=3}):=by
      rw[hx];unfold bp;rw[if_pos e,Lo]
    by_cases c:lc h.ar.W (node i)=0
    . have Y:x.2.2=if 0<dl then {sv h.S i with a:=lc h.ar.W (node i),b:=dl,pc:=2} else {sv h.S i with a:=lc h.ar.W (node i),b:=0,pc:=3}:=by rw[H];simp only[c,ne_eq,not_true,if_false]
      have V:(x.2.2.pc=2/\0<x.2.2.b)\/x.2.2.pc=3:=by
        rw[Y];split;. rename_i ON;exact .inl ⟨rfl,ON⟩
        . exact .inr rfl
      have hb:x.2.2.pc=2->x.2.2.b<=dl:=by
        rw[Y];split;. intro _;exact Int.le_refl _
        . intro h2;exact absurd h2 (by show ¬(3:Int)=2;decide)
      refine⟨upd G (i+1) [i],⟨?_,by rw[H];exact Nd (fg _ _ _),by rw[H];exact NA,k.bset hi hb⟩,?_⟩;. have:=k.iv.s1a hi e c V;show HIv nd n node x.1.W x.2.1 _ _;rw[show x.1.W=h.ar.W.set (1+node i) (tokH i (dv h.D i+1))by rw[H];show(cr _ _ _).W=_;rw[dP,Kl],show x.2.1=h.D by rw[H]];exact this
      . have h5:¬x.2.2.pc=5:=(by omega);refine⟨λ_ h=>absurd h h5,λ_ _=>pR _ _ ahB,λh=>by omega,λh=>by omega,λh=>by omega,λh=>by omega,.inl e,λ_ h=>by omega,by omega⟩
    . have Y:x.2.2={sv h.S i with a:=lc h.ar.W (node i),pc:=5}:=(by rw[H];simp only[c,ne_eq,not_false_iff,if_true]);obtain⟨m,t,hm,ht,Sy,ab,Un⟩:=k.iv.s1b (p':=x.2.2) hi e c (by rw[Y]) (by rw[Y]);have h5:x.2.2.pc=5:=(by rw[Y]);refine⟨upd G (m+1) (G (m+1)++[i]),⟨?_,by rw[H];exact Nd (fg _ _ _),by rw[H];exact NA,k.bset hi ahB⟩,?_⟩;. show HIv nd n node x.1.W x.2.1 _ _;rw[show x.1.W=h.ar.W.set (1+node i) (tokH i (dv h.D i+1))by rw[H];show(cr _ _ _).W=_;rw[dP,Kl],show x.2.1=h.D by rw[H]];exact Un
      . exact⟨λ_ _=>⟨t,_,k.iv.lt _ t ht,Sy,by have:=k.iv.d0 t;omega,ab⟩,λ_ _=>pR _ _ ahB,λh=>by omega,λh=>by omega,λh=>by omega,λh=>by omega,.inl e,λ_ h=>by omega,by omega⟩
  . have H:x=(h.ar,h.D,{sv h.S i with b:=(sv h.S i).b-1,pc:=if 0<(sv h.S i).b-1 then 2 else 3}):=by rw[hx];unfold bp;rw[if_neg ahB,if_pos e]
    have V:(x.2.2.pc=2/\0<x.2.2.b)\/x.2.2.pc=3:=by
      rw[H];show((if _ then(2:Int)else 3)=2/\_)\/(if _ then(2:Int)else 3)=3;split;. rename_i hb;exact .inl ⟨rfl,hb⟩
      . exact .inr rfl
    have hb:x.2.2.b=(sv h.S i).b-1:=(by rw[H]);have:=k.bb i hi e;refine⟨G,⟨?_,by rw[H];exact Nd (Nat.le_succ _),by rw[H];exact NA,k.bset hi ahB⟩,⟨λh=>by omega,λ_ _=>rfl,λh=>by omega,λh=>by omega,λh=>by omega,λh=>by omega,.inr (.inl e),λ_ h=>by omega,by omega⟩⟩;show HIv nd n node x.1.W x.2.1 _ _;rw[show x.1.W=h.ar.W by rw[H],show x.2.1=h.D by rw[H]];exact k.iv.s2 hi e V
  . have H:x=(cr h.ar (2+(node i:Int)) 0,h.D,{sv h.S i with c:=lc h.ar.W (node i),pc:=4}):=(by rw[hx];unfold bp;rw[if_neg ahB,if_neg ahB,if_pos e,Lo]);have V:x.2.2.pc=4:=(by rw[H]);refine⟨G,⟨?_,by rw[H];exact Nd (fg _ _ _),by rw[H];exact NA,k.bset hi ahB⟩,⟨λh=>by omega,λ_ _=>rfl,λh=>by omega,λh=>by omega,λh=>by omega,λh=>by omega,.inr (.inr (.inl e)),λ_ h=>by omega,by omega⟩⟩;show HIv nd n node x.1.W x.2.1 _ _;rw[show x.1.W=h.ar.W.set (1+node i) 0 by rw[H];show(cr _ _ _).W=_;rw[dP,Kl],show x.2.1=h.D by rw[H]];exact k.iv.s3 hi e V (by rw[H])
  . have H:x=(cr h.ar 1 (sv h.S i).c,h.D,{sv h.S i with a:=tl h.ar.W,pc:=if tl h.ar.W=0 then 10 else 5}):=by rw[hx];unfold bp;rw[if_neg ahB,if_neg ahB,if_neg ahB,if_pos e,Gd k.iv.wl]
    have V:(tl h.ar.W=0/\x.2.2.pc=10)\/(tl h.ar.W≠0/\x.2.2.pc=5):=by
      rw[H];by_cases c:tl h.ar.W=0;. exact .inl ⟨c,by show(if _ then(10:Int)else 5)=10;rw[if_pos c]⟩
      . exact .inr ⟨c,by show(if _ then(10:Int)else 5)=5;rw[if_neg c]⟩
    obtain⟨⟨r,I⟩,he,Un⟩:=k.iv.s4 (p':=x.2.2) hi e V (by rw[H]);refine⟨spl G i,⟨?_,by rw[H];exact Nd (fg _ _ _),by rw[H];exact NA,k.bset hi ahB⟩,⟨λh=>by omega,λh=>by omega,λ_=>⟨⟨r,by rw[zC,I]⟩,he⟩,λh=>by omega,λ_ _=> .inl e,λh=>by omega,.inr (.inr (.inr (.inl e))),λ_ h=>by omega,by omega⟩⟩;show HIv nd n node x.1.W x.2.1 _ _;rw[show x.1.W=h.ar.W.set 0 (sv h.S i).c by rw[H];show(cr _ _ _).W=_;rw[dP,GQ k.iv.wl],show x.2.1=h.D by rw[H]];exact Un
  . have H:x=(isA h.ar (2+(nd:Int)) n (sv h.S i).a,h.D,{sv h.S i with pc:=if isB h.ar.W (2+(nd:Int)) n (sv h.S i).a then 10 else 5}):=(by rw[hx];unfold bp;rw[if_neg ahB,if_neg ahB,if_neg ahB,if_neg ahB,if_pos e]);have hW:x.1.W=h.ar.W:=(by rw[H];exact Ip _ _ _ _);have hD:x.2.1=h.D:=(by rw[H]);cases c:isB h.ar.W (2+(nd:Int)) n (sv h.S i).a
    . have Y:x.2.2=sv h.S i:=(by rw[H,c];exact GP e.symm rfl rfl rfl);have Z3:¬(G 0).head? =some i:=λhf=>by rw[k.iv.s5n hf e]at c;cases c
      refine⟨G,⟨?_,by rw[H];exact Nd (rf _ _ _ _),by rw[hD];exact NA,k.bset hi (by rw[Y];omega)⟩,⟨λh=>by omega,λ_ _=>rfl,λh=>by omega,λh=>by omega,λh=>by rw[Y]at h;omega,λ_ hf=>absurd hf Z3,.inr (.inr (.inr (.inr (.inl e)))),λh=>absurd e h,by rw[Y];exact .inl rfl⟩⟩;show HIv nd n node x.1.W x.2.1 _ _;rw[hW,hD];exact k.iv.same5 hi Y
    . have V:x.2.2.pc=10:=(by rw[H,c];rfl);have hf:=k.iv.s5 hi e c;refine⟨G,⟨?_,by rw[H];exact Nd (rf _ _ _ _),by rw[hD];exact NA,k.bset hi ahB⟩,⟨λh=>by omega,λ_ _=>rfl,λh=>by omega,λh=>by omega,λ_ _=> .inr ⟨e,hf⟩,λ_ _=>V,.inr (.inr (.inr (.inr (.inl e)))),λh=>absurd e h,by omega⟩⟩;show HIv nd n node x.1.W x.2.1 _ _;rw[hW,hD];exact k.iv.atFrontP hi hf (.inl V)
  . have H:x=(addA h.ar (2+(nd:Int)+i) 1,h.D.set i (dv h.D i+1),{sv h.S i with pc:=0}):=(by rw[hx];unfold bp;rw[if_neg ahB,if_neg ahB,if_neg ahB,if_neg ahB,if_neg ahB]);have V:x.2.2.pc=0:=(by rw[H]);have hf:=k.iv.atFront hi (.inr e);have ON:i<h.D.length:=(by have:=k.iv.dl;omega);have hw:IntKind.i64.wrap (ldW h.ar.W (2+(nd:Int)+i)+1)=dv h.D i+1:=(by rw[Ff k.iv.wl hi,k.iv.tw i hi];have:=k.iv.d0 i;have:=k.dn i;exact IntWalk.i64_in _ ahB);refine⟨upd G 0 (G 0).tail,⟨?_,by rw[H];exact Nd (jF _ _ _),?_,k.bset hi ahB⟩,⟨λh=>by omega,λ_ h=>by omega,λh=>by omega,λ_=>⟨hf,cz _ _ _⟩,λh=>by omega,λh=>by omega,.inr (.inr (.inr (.inr (.inr e)))),λ_ h=>by omega,by omega⟩⟩;. show HIv nd n node x.1.W x.2.1 _ _;rw[show x.1.W=h.ar.W.set (1+nd+i) (dv h.D i+1)by rw[H];show(addA _ _ _).W=_;rw[d9,hw,Je k.iv.wl hi],show x.2.1=h.D.set i (dv h.D i+1)by rw[H]];exact k.iv.s11 hi hf V _ rfl
    . rw[H];intro t;show dv (h.D.set i (dv h.D i+1)) t<=_;rw[Bm ON];have:=k.dn i;split;. omega
      . exact NA t
end
end
section
open Go
variable{s s':Ar}{p:Sp}
def WdB(B:Int)(s:Ar):Prop:=∀v∈s.W,0<=v/\v<=B
structure SpB(k:Nat)(B:Int)(p:Sp):Prop where
 a0:0<=p.a
 a1:p.a<=B
 b0:-B<=p.b
 b1:p.b<=B
 b2:k≠1->0<=p.b
def WdB.mono(h:WdB B s)(H:B<=C):WdB C s:=λv O=>⟨(h v O).1,by have:=(h v O).2;omega⟩
def SpB.mono(h:SpB k B p)(H:B<=C):SpB k C p:=⟨h.a0,by have:=h.a1;omega,by have:=h.b0;omega,by have:=h.b1;omega,h.b2⟩
def WdB.ld(h:WdB B s)(O:0<=B)(x:Int):0<=ldW s.W x/\ldW s.W x<=B:=by
 by_cases H:inR s.W x=true
 .rw[js H];obtain⟨h1,V⟩:=aT.1 H;have I:x.toNat-1<s.W.length:=by omega
  rw[List.getD_eq_getElem?_getD,List.getElem?_eq_getElem I];exact h _ (List.getElem_mem I)
 .rw[lw (by simpa using H)];exact⟨Int.le_refl _,O⟩
def WdB.st(h:WdB B s)(x v:Int)(O:0<=v/\v<=B)(e:s'.W=stW s.W x v):WdB B s':=by
 intro u H;rw[e]at H;unfold stW at H;split at H
 .rcases List.mem_or_eq_of_mem_set H with h1|h1
  .exact h u h1
  .rw[h1];exact O
 .exact h u H
def WdB.same(h:WdB B s)(e:s'.W=s.W):WdB B s':=by intro u H;rw[e]at H;exact h u H
def WdB.load(h:WdB B s)(x:Int):WdB B (af s x):=h.same (aQ _ _)
def WdB.store(h:WdB B s)(x v:Int)(O:0<=v/\v<=B):WdB B (ae s x v):=h.st x v O (ay _ _ _)
def WdB.swap(h:WdB B s)(x v:Int)(O:0<=v/\v<=B):WdB B (cr s x v):=h.st x v O (dP _ _ _)
def WdB.cas(h:WdB B s)(x o v:Int)(O:0<=v/\v<=B):WdB B (dX s x o v):=by
 have e:=gW s x o v;split at e;.exact h.st x v O e
 .exact h.same e
def WdB.add1(h:WdB B s)(H:0<=B)(I:B<=10000000000000)(x:Int):WdB (B+2) (addA s x 1):=by have O:=h.ld H x;refine(h.mono ahB).st x _ ?_ (d9 _ _ _);rw[IntWalk.i64_in _ ahB];omega
def qQ{t m:Int}{i:Int}(hW:WdB B s)(Y:SpB k B p)(hB:0<=B)(Lb:B<=10000000000000)(hi:0<=i/\i+1<=B)(hm:1<=m/\m<=B):WdB (B+2) (bN k t m s i p).1/\SpB k (B+2) (bN k t m s i p).2:=by
  have I:WdB (B+2) s:=hW.mono ahB;have V:=λx=>hW.ld hB x;have H:SpB k (B+2) p:=Y.mono ahB;have LP:=Y.a0;have Sc:=Y.a1;have Kk:=Y.b0;have KP:=Y.b1;have Nw:=Y.b2;unfold bN;split
  . rename_i hk;unfold wV;split
    . refine⟨I.cas _ _ _ ahB,?_⟩;split;. exact⟨by simpa using LP,by show p.a<=_;omega,by show _<=p.b;omega,by show p.b<=_;omega,λh=>absurd hk h⟩
      . refine⟨?_,?_,?_,?_,λh=>absurd hk h⟩;. show 0<=min (2*p.a) m;omega
        . show min (2*p.a) m<=_;omega
        . show _<=p.a;omega
        . show p.a<=_;omega
    split
    . refine⟨I,?_,?_,?_,?_,λh=>absurd hk h⟩;. exact LP
      . show p.a<=_;omega
      . show _<=p.b-1;omega
      . show p.b-1<=_;omega
    split;. exact⟨I.store _ _ ahB,H.a0,H.a1,H.b0,H.b1,H.b2⟩
    . exact⟨I,H⟩
  split
  . unfold pK;split;. exact⟨hW.add1 hB Lb _,(V _).1,by have:=(V t).2;show ldW s.W t<=_;omega,H.b0,H.b1,H.b2⟩
    split;. exact⟨I.load _,H.a0,H.a1,H.b0,H.b1,H.b2⟩
    split;. exact⟨I.store _ _ ahB,H.a0,H.a1,H.b0,H.b1,H.b2⟩
    . exact⟨I,H⟩
  split
  . unfold pk;split;. exact⟨hW.add1 hB Lb _,(V _).1,by have:=(V t).2;show ldW s.W t<=_;omega,H.b0,H.b1,H.b2⟩
    split;. exact⟨I.load _,H.a0,H.a1,H.b0,H.b1,H.b2⟩
    split;. exact⟨I.store _ _ ahB,H.a0,H.a1,H.b0,H.b1,H.b2⟩
    . exact⟨I,H⟩
  have O:∀x:Int,ldW s.W x<=B+2:=λx=>by have:=(V x).2;omega
  split
  . unfold mF;split
    . unfold eQ;split;. exact⟨I.store _ _ ahB,H.a0,H.a1,H.b0,H.b1,H.b2⟩
      split;. exact⟨I.store _ _ ahB,H.a0,H.a1,H.b0,H.b1,H.b2⟩
      split;. exact⟨I.swap _ _ ahB,(V _).1,O _,H.b0,H.b1,H.b2⟩
      split;. exact⟨I.store _ _ ahB,H.a0,H.a1,H.b0,H.b1,H.b2⟩
      . exact⟨I.load _,H.a0,H.a1,H.b0,H.b1,H.b2⟩
    split
    . unfold dM;split;. exact⟨I.cas _ _ _ ahB,H.a0,H.a1,H.b0,H.b1,H.b2⟩
      split;. exact⟨I.store _ _ ahB,H.a0,H.a1,H.b0,H.b1,H.b2⟩
      . exact⟨I.load _,(V _).1,O _,H.b0,H.b1,H.b2⟩
    . exact⟨I,H⟩
  . rename_i hk _ _ _;unfold vm;split;. exact⟨I.store _ _ ahB,H.a0,H.a1,H.b0,H.b1,H.b2⟩
    split;. exact⟨I.swap _ _ ahB,H.a0,H.a1,by show _<=ldW s.W t;have:=(V t).1;omega,O _,λ_=>(V _).1⟩
    split;. exact⟨I.load _,H.a0,H.a1,H.b0,H.b1,H.b2⟩
    split;. exact⟨I.store _ _ ahB,Nw hk,H.b1,H.b0,H.b1,H.b2⟩
    . exact⟨I,H⟩
def uY(h:SpB k B p)(H:1<=B):SpB k B (askK k p):=by
 unfold askK;split
 .split;.exact⟨by show(0:Int)<=1;omega,H,h.b0,h.b1,h.b2⟩
  .exact⟨h.a0,h.a1,h.b0,h.b1,h.b2⟩
 .exact h
def nR(h:SpB k B p):SpB k B (ba p):=by
 unfold ba;split;.exact⟨h.a0,h.a1,h.b0,h.b1,h.b2⟩
 .exact h
end
section
open Go
structure CoC where
 kg:Nat
 kl:Nat
 tg:Int
 m:Int
 bud:Int
 node:Nat->Nat
 slot:Nat->Nat
 tl:Nat->Int
 cw:Nat->Int
structure Co where
 s:Ar
 G:List Sp
 L:List (List Sp)
 T:List Sp
def lsp(L:List (List Sp))(n i:Nat):Sp:=(L.getD n []).getD i Sp.zero
def jQ(L:List (List Sp))(n i:Nat)(p:Sp):List (List Sp):=L.set n ((L.getD n []).set i p)
def mW(count bud:Int)(YN:Bool):Bool:=decide (1<=count/\count<=bud)&&!YN
def stL(c:CoC)(st:Co)(i:Nat):Ar×Sp:=bN c.kl (c.tl (c.node i)) c.m st.s (c.slot i) (lsp st.L (c.node i) (c.slot i))
def stG(c:CoC)(st:Co)(i:Nat):Ar×Sp:=bN c.kg c.tg c.m st.s (c.node i) (sv st.G (c.node i))
def mn(c:CoC)(st:Co)(i:Nat):Bool:=bv (lsp st.L (c.node i) (c.slot i)) (stL c st i).2
def nV(c:CoC)(st:Co)(i:Nat):Bool:=bv (sv st.G (c.node i)) (stG c st i).2
def setL(c:CoC)(st:Co)(i:Nat)(p:Sp):List (List Sp):=jQ st.L (c.node i) (c.slot i) p
def yK(c:CoC)(st:Co)(i:Nat)(p:Sp):Ar×List Sp×List (List Sp)×Sp:=
 if p.pc=1 then((stL c st i).1,st.G,setL c st i (stL c st i).2,if mn c st i then {p with pc:=2} else p)
 else if p.pc=2 then
  if 0<ldW st.s.W (c.cw (c.node i))then(af st.s (c.cw (c.node i)),st.G,st.L,{p with a:=ldW st.s.W (c.cw (c.node i)),pc:=10})
  else(af st.s (c.cw (c.node i)),st.G.set (c.node i) (askK c.kg (sv st.G (c.node i))),st.L,{p with a:=ldW st.s.W (c.cw (c.node i)),pc:=3})
 else if p.pc=3 then((stG c st i).1,st.G.set (c.node i) (stG c st i).2,st.L,if nV c st i then {p with pc:=4} else p)
 else if p.pc=4 then(ae st.s (c.cw (c.node i)) 1,st.G,st.L,{p with a:=1,pc:=10})
 else(st.s,st.G,st.L,p)
def qj(c:CoC)(st:Co)(i:Nat)(p:Sp):Ar×List Sp×List (List Sp)×Sp:=
 if p.pc=11 then(af st.s (c.cw (c.node i)),st.G,st.L,{p with a:=ldW st.s.W (c.cw (c.node i)),pc:=if c.bud<ldW st.s.W (c.cw (c.node i))then 14 else 12})
 else if p.pc=12 then
  ((cD c.kl (c.tl (c.node i)) st.s (c.slot i) (lsp st.L (c.node i) (c.slot i))).1,st.G,st.L,
   {p with pc:=if mW p.a c.bud (cD c.kl (c.tl (c.node i)) st.s (c.slot i) (lsp st.L (c.node i) (c.slot i))).2 then 13 else 14})
 else if p.pc=13 then(ae st.s (c.cw (c.node i)) (p.a+1),st.G,setL c st i (ba (lsp st.L (c.node i) (c.slot i))),{p with pc:=16})
 else if p.pc=14 then(ae st.s (c.cw (c.node i)) 0,st.G.set (c.node i) (ba (sv st.G (c.node i))),st.L,{p with pc:=15})
 else if p.pc=15 then
  if nV c st i then((stG c st i).1,st.G.set (c.node i) (stG c st i).2,setL c st i (ba (lsp st.L (c.node i) (c.slot i))),{p with pc:=16})
  else((stG c st i).1,st.G.set (c.node i) (stG c st i).2,st.L,p)
 else if p.pc=16 then((stL c st i).1,st.G,setL c st i (stL c st i).2,if mn c st i then {p with pc:=0} else p)
 else(st.s,st.G,st.L,p)
def da(c:CoC)(st:Co)(i:Nat)(p:Sp):Ar×List Sp×List (List Sp)×Sp:=if p.pc<10 then yK c st i p else qj c st i p
def iM(st:Co)(i:Nat)(r:Ar×List Sp×List (List Sp)×Sp):Co:=⟨r.1,r.2.1,r.2.2.1,st.T.set i r.2.2.2⟩
def ak(c:CoC)(st:Co)(i:Nat):Co:=if (sv st.T i).pc=0\/(sv st.T i).pc=10 then st else iM st i (da c st i (sv st.T i))
def bC(c:CoC)(st:Co)(i:Nat):Co:=
 if (sv st.T i).pc=0 then {st with L:=setL c st i (askK c.kl (lsp st.L (c.node i) (c.slot i))),T:=st.T.set i {(sv st.T i)with pc:=1}} else st
def aA(st:Co)(i:Nat):Co:=if (sv st.T i).pc=10 then {st with T:=st.T.set i {(sv st.T i)with pc:=11}} else st
structure CoB(c:CoC)(B:Int)(st:Co):Prop where
 w:WdB B st.s
 g:∀p∈st.G,SpB c.kg B p
 l:∀x∈st.L,∀p∈x,SpB c.kl B p
 t:∀p∈st.T,0<=p.a/\p.a<=B
def spz(k:Nat)(h:0<=B):SpB k B Sp.zero:=⟨Int.le_refl _,h,by show -B<=0;omega,h,λ_=>Int.le_refl _⟩
def iS{S:List Sp}{P:Sp->Prop}(h:∀p∈S,P p)(H:P Sp.zero)(i:Nat):P (S.getD i Sp.zero):=by
 rw[List.getD_eq_getElem?_getD];by_cases hi:i<S.length;.rw[List.getElem?_eq_getElem hi];exact h _ (List.getElem_mem hi)
 .rw[List.getElem?_eq_none ahB];exact H
def eB{α:Type}{S:List α}{P:α->Prop}(h:∀p∈S,P p)(i:Nat){p:α}(H:P p):∀q∈S.set i p,P q:=by
 intro q I;rcases List.mem_or_eq_of_mem_set I with h1|h1
 .exact h q h1
 .rw[h1];exact H
section
variable{c:CoC}{st:Co}
def CoB.lall(h:CoB c B st)(n:Nat):∀p∈st.L.getD n [],SpB c.kl B p:=by
 rw[List.getD_eq_getElem?_getD];by_cases hi:n<st.L.length;.rw[List.getElem?_eq_getElem hi];exact h.l _ (List.getElem_mem hi)
 .rw[List.getElem?_eq_none ahB];intro p H;cases H
def CoB.lsp(h:CoB c B st)(H:0<=B)(n i:Nat):SpB c.kl B (lsp st.L n i):=iS (h.lall n) (spz _ H) i
def CoB.gsp(h:CoB c B st)(H:0<=B)(n:Nat):SpB c.kg B (sv st.G n):=iS h.g (spz _ H) n
def CoB.tsp(h:CoB c B st)(H:0<=B)(n:Nat):0<=(sv st.T n).a/\(sv st.T n).a<=B:=iS (P:=λp=>0<=p.a/\p.a<=B) h.t ⟨Int.le_refl _,H⟩ n
def CoB.mono(h:CoB c B st)(I:B<=C):CoB c C st:=
 ⟨h.w.mono I,λp H=>(h.g p H).mono I,λx O p H=>(h.l x O p H).mono I,λp H=>⟨(h.t p H).1,by have:=(h.t p H).2;omega⟩⟩
def CoB.setL(h:CoB c B st)(n i:Nat){p:Sp}(H:SpB c.kl B p):∀x∈jQ st.L n i p,∀q∈x,SpB c.kl B q:=eB h.l n (eB (h.lall n) i H)
def DE(h:CoB c B st)(hB:1<=B)(Lb:B<=10000000000000)(i:Nat)(hs:(c.slot i:Int)+1<=B)(hn:(c.node i:Int)+1<=B)(hm:1<=c.m/\c.m<=B)(p:Sp)(hp:0<=p.a/\p.a<=B):CoB c (B+2) (iM st i (da c st i p)):=by
  have H:=h.mono (C:=B+2) ahB;have KC:(0:Int)<=B:=by omega
  have hL:=qQ (t:=c.tl (c.node i)) (m:=c.m) (i:=(c.slot i:Int)) h.w (h.lsp KC (c.node i) (c.slot i)) KC Lb ⟨by omega,hs⟩ hm;have Y:=qQ (t:=c.tg) (m:=c.m) (i:=(c.node i:Int)) h.w (h.gsp KC (c.node i)) KC Lb ⟨by omega,hn⟩ hm;have Pm:=h.w.ld KC (c.cw (c.node i));have V:0<=p.a/\p.a<=B+2:=⟨hp.1,by omega⟩;have I:∀q:Sp,(0<=q.a/\q.a<=B+2)->∀r∈st.T.set i q,0<=r.a/\r.a<=B+2:=λq hq=>eB H.t i hq;have O:0<=ldW st.s.W (c.cw (c.node i))/\ldW st.s.W (c.cw (c.node i))<=B+2:=⟨Pm.1,by omega⟩;have VX:SpB c.kl (B+2) (ba (Go.Proofs.YtglokdbiggbkjaaGreat.lsp st.L (c.node i) (c.slot i))):=nR (H.lsp ahB _ _);have Zd:SpB c.kg (B+2) (ba (sv st.G (c.node i))):=nR (H.gsp ahB _);have Zc:SpB c.kg (B+2) (askK c.kg (sv st.G (c.node i))):=uY (H.gsp ahB _) ahB;unfold da;split
  . unfold yK;split;. exact⟨hL.1,H.g,H.setL _ _ hL.2,I _ (by split<;>exact V)⟩
    split
    . split;. exact⟨H.w.load _,H.g,H.l,I _ O⟩
      . exact⟨H.w.load _,eB H.g _ Zc,H.l,I _ O⟩
    split;. exact⟨Y.1,eB H.g _ Y.2,H.l,I _ (by split<;>exact V)⟩
    split;. exact⟨H.w.store _ _ ahB,H.g,H.l,I _ ⟨by show(0:Int)<=1;omega,by show(1:Int)<=_;omega⟩⟩
    . exact⟨H.w,H.g,H.l,I _ V⟩
  . unfold qj;split;. exact⟨H.w.load _,H.g,H.l,I _ O⟩
    split
    . refine⟨?_,H.g,H.l,I _ V⟩;show WdB _ (cD _ _ _ _ _).1;unfold cD;split
      . split;. exact H.w
        split;. exact H.w.load _
        split<;>exact H.w.load _
      . exact H.w
    split;. exact⟨H.w.store _ _ ahB,H.g,H.setL _ _ VX,I _ V⟩
    split;. exact⟨H.w.store _ _ ahB,eB H.g _ Zd,H.l,I _ V⟩
    split
    . split;. exact⟨Y.1,eB H.g _ Y.2,H.setL _ _ VX,I _ V⟩
      . exact⟨Y.1,eB H.g _ Y.2,H.l,I _ V⟩
    split;. exact⟨hL.1,H.g,H.setL _ _ hL.2,I _ (by split<;>exact V)⟩
    . exact⟨H.w,H.g,H.l,I _ V⟩
end
end
section
open Go
structure StA(n:Nat)(node:Nat->Nat)(p p':Sp)(i:Nat)(Q Q':List Nat):Prop where
 row:p.pc=1->p'.pc=5->∃(t:Nat) (d:Int),t<n/\node t=node i/\0<=d/\p'.a=tokH t d
 stay:p.pc≠4->p.pc≠11->Q'=Q
 splice:p.pc=4->(∃r,Q'=Q++i :: r)/\(p'.pc=10->Q=[])
 gone:p.pc=11->Q.head? =some i/\Q'=Q.tail
 enter:p'.pc=10->p.pc≠10->p.pc=4\/(p.pc=5/\Q.head? =some i)
 next:p'.pc=p.pc\/(p.pc=1/\(p'.pc=2\/p'.pc=3\/p'.pc=5))\/(p.pc=2/\p'.pc=3)\/(p.pc=3/\p'.pc=4)\/(p.pc=4/\(p'.pc=5\/p'.pc=10))\/(p.pc=5/\p'.pc=10)\/(p.pc=11/\p'.pc=0)\/(p.pc=0/\p'.pc=1)\/(p.pc=10/\p'.pc=11)
def G4(n:Nat)(node:Nat->Nat)(S S':List Sp)(hr:Int)(Q Q':List Nat):Prop:=
 (S'=S/\Q'=Q)\/∃(j:Nat) (p':Sp),j<n/\hr=j/\S'=S.set j p'/\StA n node (sv S j) p' j Q Q'
def Ap(nd n:Nat)(dl:Int)(node:Nat->Nat)(h:Hc)(k i:Int):Hc×Bool:=
 if k=0 then ff nd n dl node h i else if k=1 then bo h i 0 1 else if k=2 then bo h i 10 11 else(h,false)
section
variable{dl:Int}{node:Nat->Nat}{h:Hc}{G:Nat->List Nat}
def gu{S:List Sp}(h:j<S.length):getS S (j:Int)=sv S j:=by unfold getS;rw[if_pos ahB];rfl
def HOk.le(k:HOk nd n dl node h N G){M:Nat}(H:N<=M):HOk nd n dl node h M G:=⟨k.iv,by have:=k.ops;omega,λt=>by have:=k.dn t;omega,k.bb⟩
def HOk.stepI(k:HOk nd n dl node h N G)(hN:N<1000000)(H:Int):∃I,HOk nd n dl node (ff nd n dl node h H).1 (N+1) I/\(((ff nd n dl node h H).1=h/\I=G/\¬(okI h.S H/\iw (getS h.S H)=true))\/∃(j:Nat) (p':Sp),j<n/\H=j/\(ff nd n dl node h H).1.S=h.S.set j p'/\StH n node (sv h.S j) p' j (G 0) (I 0))/\(ff nd n dl node h H).1.ar.ops<=h.ar.ops+1:=by
 unfold ff;by_cases c:okI h.S H/\iw (getS h.S H)=true
 .rw[if_pos c];obtain⟨⟨Y,h1⟩,hg⟩:=c;obtain⟨j,rfl⟩:=Int.eq_ofNat_of_zero_le Y;have V:j<h.S.length:=by omega
  have O:j<n:=by rw[<-k.iv.sl];exact V
  rw[gu V]at hg ⊢;simp only[Int.toNat_natCast];obtain⟨I,k',s'⟩:=k.step hN O hg _ rfl;refine⟨I,k',.inr ⟨j,_,O,rfl,rfl,s'⟩,?_⟩;unfold bp;repeat' split
  all_goals first
   |exact fg _ _ _
   |exact rf _ _ _ _
   |exact jF _ _ _
   |exact Nat.le_succ _
 .rw[if_neg c];exact⟨G,k.le ahB,.inl ⟨rfl,rfl,c⟩,Nat.le_succ _⟩
def HOk.beginI(k:HOk nd n dl node h N G)(H f u:Int)(V:(f=0/\u=1)\/(f=10/\u=11)):HOk nd n dl node (bo h H f u).1 N G/\(((bo h H f u).1=h/\¬(okI h.S H/\(getS h.S H).pc=f))\/∃(j:Nat),j<n/\H=j/\(sv h.S j).pc=f/\(bo h H f u).1.S=h.S.set j {sv h.S j with pc:=u})/\(bo h H f u).1.ar=h.ar:=by
 unfold bo;by_cases c:okI h.S H/\(getS h.S H).pc=f
 .rw[if_pos c];obtain⟨⟨Y,h1⟩,hg⟩:=c;obtain⟨j,rfl⟩:=Int.eq_ofNat_of_zero_le Y;have O:j<h.S.length:=by omega
  have I:j<n:=by rw[<-k.iv.sl];exact O
  rw[gu O]at hg ⊢;simp only[Int.toNat_natCast];refine⟨⟨?_,k.ops,k.dn,k.bset I (by show u=2->_;omega)⟩,.inr ⟨j,I,rfl,hg,rfl⟩,by trivial⟩;rcases V with⟨rfl,rfl⟩|⟨rfl,rfl⟩
  .exact k.iv.ask I hg rfl
  .exact k.iv.atFrontP I (k.iv.atFront I (.inl hg)) (.inr rfl)
 .rw[if_neg c];exact⟨k,.inl ⟨rfl,c⟩,rfl⟩
def HOk.act(k:HOk nd n dl node h N G)(hN:N<1000000)(K H:Int):∃I,HOk nd n dl node (Ap nd n dl node h K H).1 (N+1) I/\G4 n node h.S (Ap nd n dl node h K H).1.S H (G 0) (I 0)/\(Ap nd n dl node h K H).1.ar.ops<=h.ar.ops+1/\(K≠0->(Ap nd n dl node h K H).1.ar.ops=h.ar.ops):=by
 unfold Ap;by_cases c0:K=0
 .rw[if_pos c0];obtain⟨I,k',hs,V⟩:=k.stepI hN H;refine⟨I,k',?_,V,λh=>absurd c0 h⟩;rcases hs with⟨h1,O,_⟩|⟨j,p',h1,O,Y,s⟩
  .exact .inl ⟨by rw[h1],by rw[O]⟩
  .refine .inr ⟨j,p',h1,O,Y,s.row,s.stay,s.splice,s.gone,s.enter,?_⟩;rcases s.next with h|h|h|h|h|h|h
   .exact .inl h
   .exact .inr (.inl h)
   .exact .inr (.inr (.inl h))
   .exact .inr (.inr (.inr (.inl h)))
   .exact .inr (.inr (.inr (.inr (.inl h))))
   .exact .inr (.inr (.inr (.inr (.inr (.inl h)))))
   .exact .inr (.inr (.inr (.inr (.inr (.inr (.inl h))))))
 .rw[if_neg c0]
  have OJ:∀f u:Int,(f=0/\u=1)\/(f=10/\u=11)->∃I,HOk nd n dl node (bo h H f u).1 (N+1) I/\G4 n node h.S (bo h H f u).1.S H (G 0) (I 0)/\(bo h H f u).1.ar.ops<=h.ar.ops+1/\(K≠0->(bo h H f u).1.ar.ops=h.ar.ops):=λf u Sm=>by
   obtain⟨k',hs,ha⟩:=k.beginI H f u Sm;refine⟨G,k'.le ahB,?_,by rw[ha];exact Nat.le_succ _,λ_=>by rw[ha]⟩;rcases hs with⟨h1,_⟩|⟨j,h1,O,Y,h4⟩
   .exact .inl ⟨by rw[h1],rfl⟩
   .refine .inr ⟨j,_,h1,O,h4,⟨λh=>?_,λ_ _=>rfl,λh=>?_,λh=>?_,λh=>?_,?_⟩⟩;.omega
    .omega
    .omega
    .intro _;exfalso;have:u=10:=h;omega
    .rcases Sm with⟨rfl,rfl⟩|⟨rfl,rfl⟩
     .exact .inr (.inr (.inr (.inr (.inr (.inr (.inr (.inl ⟨Y,rfl⟩)))))))
     .exact .inr (.inr (.inr (.inr (.inr (.inr (.inr (.inr ⟨Y,rfl⟩)))))))
  by_cases c1:K=1;.rw[if_pos c1];exact OJ 0 1 (.inl ⟨rfl,rfl⟩)
  .rw[if_neg c1];by_cases c2:K=2;.rw[if_pos c2];exact OJ 10 11 (.inr ⟨rfl,rfl⟩)
   .rw[if_neg c2];exact⟨G,k.le ahB,.inl ⟨rfl,rfl⟩,Nat.le_succ _,λ_=>rfl⟩
def HOk.hold1(k:HOk nd n dl node h N G){a:Nat}(V:a<n)(hb:b<n)(h1:(sv h.S a).pc=10)(O:(sv h.S b).pc=10):a=b:=by have I:=k.iv.atFront V (.inl h1);have H:=k.iv.atFront hb (.inl O);rw[I]at H;injection H
end
section
variable{Q r:List Nat}{x:Nat}
end
section
variable{dl:Int}{node:Nat->Nat}{h h':Hc}{G G':Nat->List Nat}{P:Nat->Nat->Int}
end
end
section
open Go
def iT{α:Type}(a:α)(n i:Nat):(List.replicate n a).getD i a=a:=by exact abb
def rX(n i:Nat):sv (List.replicate n Sp.zero) i=Sp.zero:=iT _ _ _
section
variable{dl:Int}{node:Nat->Nat}{h:Hc}{G:Nat->List Nat}
def HOk.start(s:Ar)(I:n<=32)(O:∀t,t<n->node t<nd)(hs:s.ops=0)(H:s.W=List.replicate (1+nd+n) 0):HOk nd n dl node ⟨s,List.replicate 32 0,List.replicate n Sp.zero⟩ 0 λ_=>[]:=by
  have z:∀t,(sv (List.replicate n Sp.zero) t).pc=0:=λt=>by rw[rX];rfl
  have d:∀t,dv (List.replicate 32 0) t=0:=λt=>iT _ _ _;refine⟨⟨?_,?_,?_,I,O,?_,?_,?_,?_,?_,?_,?_,?_,?_,?_,?_,?_,?_,?_⟩,by show s.ops<=0;omega,λt=>by rw[d];exact Int.le_refl _,λt _ V=>?_⟩;. rw[H];simp
  . simp
  . simpa using I
  . intro t _;show tnw nd s.W t=_;rw[H,d];exact iT _ _ _
  . intro t;show 0<=dv (List.replicate 32 0) t;rw[d];exact Int.le_refl _
  . intro _;exact List.nodup_nil
  . intro _ _ t h1;cases h1
  . intro _ t h1;cases h1
  . intro _;trivial
  . intro t _ _;exact .inl (z t)
  . intro m hm;exact absurd rfl hm
  . intro _ t h1;cases h1
  . intro m hm;exact absurd rfl hm
  . intro m _ hm;exact absurd rfl hm
  . intro v _;refine .inl ?_;rw[H];exact iT _ _ _
  . intro t h1;cases h1
  . refine .inr ⟨rfl,.inl ?_⟩;rw[H];exact iT _ _ _
  . have:=z t;have Y:(sv (List.replicate n Sp.zero) t).pc=2:=V;omega
end
end
end Go.Proofs.YtglokdbiggbkjaaGreat
