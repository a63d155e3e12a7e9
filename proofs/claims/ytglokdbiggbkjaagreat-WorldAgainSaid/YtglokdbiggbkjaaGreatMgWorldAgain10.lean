/- Joined texts. -/
import Derived.Test.YtglokdbiggbkjaaGreatRows
import Derived.Tactics
import Derived.RegionCalls
import Derived.Deep.QuietTactic
import Derived.BigQuiet
import Derived.Laws.BitsAllLaws
import Derived.StillTailTactics
import Derived.IntWalk
import Derived.Deep.RegionHeld3
import Derived.Test.YtglokdbiggbkjaaGreatMgWorldAgain0
import Derived.Test.YtglokdbiggbkjaaGreatMgWorldAgain2
import Derived.Test.YtglokdbiggbkjaaGreatMgWorldAgain3
import Derived.Test.YtglokdbiggbkjaaGreatMgWorldAgain8
set_option linter.unusedVariables false
set_option linter.unusedSimpArgs false
set_option linter.defProp false
set_option maxRecDepth 100000
set_option maxHeartbeats 16000000
open Go.Proofs.Tryz
namespace Go.Proofs.YtglokdbiggbkjaaGreat
open Go.IntKind(i64)
open Go.Value(int bool slice agg tuple pointer)
open Go.Ending(returned)
open Go.Obj(cells)
variable{W W' D':List Int}{nd n i v j m b t u N h:Nat}{P:Nat->Nat->Prop}{G:Nat->List Nat}{d f bud I H:Int}{w w':World}{A R:List Nat}{pcs:Nat->Int}
section
open Go.RowKit
def mq(p:Int):Int×Int:=if p=0 then(0,16)else if p=1 then(16,47)else(63,1)
def lh(w:World)(p:Int):E 304 #[J p] w λe w'=>e= returned (tuple #[J (mq p).1,J (mq p).2])/\w=w':=by
 unfold mq;by_cases h:p=0;.subst h;exact aao
 .by_cases h1:p=1;.subst h1;clear h;exact aao
  .rw[if_neg h,if_neg h1];have t0:(p==0)=false:=(by simpa using h);have t1:(p==1)=false:=(by simpa using h1);clear h h1;exact aao
def nD(x:Nat)(k:Nat)(h:x<18446744073709551616)(H:k<64):bits .and .u64 (x:Int) ((2 ^ k-1:Nat):Int)=((x%2 ^ k:Nat):Int):=by
 have:2 ^ k-1<18446744073709551616:=by have:2 ^ k<=2 ^ 63:=Nat.pow_le_pow_right ahr ahp;omega
 rw[u64_and_nat x (2 ^ k-1) h this,Nat.and_two_pow_sub_one_eq_mod]
def zA(x:Int)(h:0<=x)(h1:x<9223372036854775808):wrap64 (bits .and .u64 x 65535)=x%65536:=by obtain⟨n,rfl⟩:=Int.eq_ofNat_of_zero_le h;have:=nD n 16 ahp ahr;rw[show((2 ^ 16-1:Nat):Int)=65535 by decide]at this;rw[this];unfold wrap64;omega
def wI(x:Int)(h:0<=x)(h1:x<9223372036854775808):wrap64 (bits .and .u64 (x/65536) 140737488355327)=x/65536:=by obtain⟨n,rfl⟩:=Int.eq_ofNat_of_zero_le h;have:=nD (n/65536) 47 ahp ahr;rw[show((2 ^ 47-1:Nat):Int)=140737488355327 by decide]at this;rw[show((n:Int)/65536)=((n/65536:Nat):Int)by omega,this,show(2 ^ 47:Nat)=140737488355328 by decide];unfold wrap64;omega
def C1(x:Int)(h:0<=x)(h1:x<9223372036854775808):wrap64 (bits .and .u64 (x/9223372036854775808) 1)=0:=by rw[show x/9223372036854775808=0 by omega];decide+kernel
def C2(v:Int)(h:0<=v)(H:v<65536):wrap64 (bits .or .u64 (bits .andNot .u64 0 65535) (bits .and .u64 v 65535))=v:=by obtain⟨n,rfl⟩:=Int.eq_ofNat_of_zero_le h;have:=nD n 16 ahp ahr;rw[show((2 ^ 16-1:Nat):Int)=65535 by decide,show(2 ^ 16:Nat)=65536 by decide,Nat.mod_eq_of_lt ahp]at this;rw[this,show bits .andNot .u64 0 65535=((0:Nat):Int)by decide+kernel,u64_or_nat 0 n ahr ahp,Nat.zero_or];unfold wrap64;omega
def Cm(x v:Nat)(h:x<65536):x|||(v*65536)=v*65536+x:=by have:=Nat.two_pow_add_eq_or_of_lt (i:=16) (b:=x) ahp v;rw[Nat.or_comm,<-show 2 ^ 16*v=v*65536 by omega];exact this.symm
def C3(x v:Int)(O:0<=x)(h1:x<65536)(V:0<=v)(Y:v<140737488355328):wrap64 (bits .or .u64 (bits .andNot .u64 x 9223372036854710272) (bits .and .u64 (v*65536) 9223372036854710272))=v*65536+x:=by
 obtain⟨n,rfl⟩:=Int.eq_ofNat_of_zero_le O;obtain⟨m,rfl⟩:=Int.eq_ofNat_of_zero_le V;have h:n<65536:=by omega
 have hm:m<140737488355328:=by omega
 have H:bits .andNot .u64 (n:Int) 9223372036854710272=((n:Nat):Int):=by
  have:=u64_andNot_nat n 9223372036854710272 ahp ahr;rw[show((9223372036854710272:Nat):Int)=9223372036854710272 by decide]at this;rw[this];congr 1;apply Nat.eq_of_testBit_eq;intro i;rw[Nat.testBit_and];by_cases hi:i<16;.have:(18446744073709551615-9223372036854710272:Nat).testBit i=true:=(by have:∀i,i<16->(18446744073709551615-9223372036854710272:Nat).testBit i=true:=(by decide);exact this i hi);rw[this,Bool.and_true]
  .rw[Nat.testBit_lt_two_pow (x:=n) (i:=i) (Nat.lt_of_lt_of_le h (by have:=Nat.pow_le_pow_right (n:=2) ahr (show 16<=i by omega);omega)),Bool.false_and]
 have I:bits .and .u64 ((m:Int)*65536) 9223372036854710272=((m*65536:Nat):Int):=by
  have:=u64_and_nat (m*65536) 9223372036854710272 ahp ahr;rw[show((9223372036854710272:Nat):Int)=9223372036854710272 by decide,show((m*65536:Nat):Int)=(m:Int)*65536 by omega]at this;rw[this];congr 1;have:(9223372036854710272:Nat)=(2 ^ 47-1)*2 ^ 16:=by decide
  rw[this,show m*65536=m*2 ^ 16 by omega,<-Nat.shiftLeft_eq,<-Nat.shiftLeft_eq,<-Nat.shiftLeft_and_distrib,Nat.and_two_pow_sub_one_eq_mod,Nat.mod_eq_of_lt ahp]
 rw[H,I,u64_or_nat n (m*65536) ahp ahp,Cm n m h];unfold wrap64;omega
def p8(w:World)(x:Int)(h:0<=x)(h1:x<9223372036854775808):E 302 #[J x,J 0] w λe w'=>e= returned (J (x%65536))/\Below w.heap.size w w':=by have HV:=qh (zA x h h1);go_enter func302,ntmps302;go_wp2_with fail;refine LT (lh _ _) ?_;rw[show(mq 0).1=0 from rfl,show(mq 0).2=16 from rfl];exact aap
def oD(w:World)(x:Int)(h:0<=x)(h1:x<9223372036854775808):E 302 #[J x,J 1] w λe w'=>e= returned (J (x/65536))/\Below w.heap.size w w':=by have HV:=qh (wI x h h1);go_enter func302,ntmps302;go_wp2_with fail;refine LT (lh _ _) ?_;rw[show(mq 1).1=16 from rfl,show(mq 1).2=47 from rfl];exact aap
def Ef(w:World)(x:Int)(H:0<=x)(h1:x<9223372036854775808):E 302 #[J x,J 2] w λe w'=>e= returned (J (0))/\Qt w w':=by have h:=qh (C1 x H h1);go_enter func302,ntmps302;go_wp2_with fail;refine LT (lh _ _) ?_;rw[show(mq 2).1=63 from rfl,show(mq 2).2=1 from rfl];go_wp2;go_quiet (fail);go_wp2;go_ret;exact⟨by rw[h.o];rfl,⟨_,rfl⟩⟩
def qu(w:World)(x v:Int)(O:x=0)(H:0<=v)(I:v<65536):E 301 #[J x,J 0,J v] w λe w'=>e= returned (J (v))/\Below w.heap.size w w':=by subst O;have h:=qh (C2 v H I);go_enter func301,ntmps301;go_wp2_with fail;refine LT (lh _ _) ?_;rw[show(mq 0).1=0 from rfl,show(mq 0).2=16 from rfl];go_wp2;go_ret;exact⟨by rw[h.o];rfl,Below.refl _ _⟩
def pf(w:World)(x v:Int)(H:0<=x)(h1:x<65536)(I:0<=v)(O:v<140737488355328):E 301 #[J x,J 1,J v] w λe w'=>e= returned (J (v*65536+x))/\Below w.heap.size w w':=by have h:=qh (C3 x v H h1 I O);go_enter func301,ntmps301;go_wp2_with fail;refine LT (lh _ _) ?_;rw[show(mq 1).1=16 from rfl,show(mq 1).2=47 from rfl];go_wp2;go_ret;exact⟨by rw[h.o];rfl,Below.refl _ _⟩
end
section
open Go.RowKit
def Be(w:World)(x:Int)(h:0<=x)(h1:x<9223372036854775808):E 295 #[J x] w λe w'=>e= returned (J (x%65536))/\Below w.heap.size w w':=by go_enter func295,ntmps295;go_wp2_with fail;refine Pi (p8 w x h h1) λw1 B1=>?_;exact aaq
def Bm(w:World)(x:Int)(h:0<=x)(h1:x<9223372036854775808):E 297 #[J x] w λe w'=>e= returned (J (x/65536))/\Below w.heap.size w w':=by go_enter func297,ntmps297;go_wp2_with fail;refine Pi (oD w x h h1) λw1 B1=>?_;exact aaq
def yR(w:World)(x:Int)(h:0<=x)(h1:x<9223372036854775808):E 296 #[J x] w λe w'=>e= returned (bool false)/\Qt w w':=by go_enter func296,ntmps296;go_wp2_with fail;refine Pi (Ef w x h h1) λw1 B1=>?_;exact aaq
def uU(w:World)(v:Int)(h:0<=v)(I:v<65536):E 300 #[J 0,J v] w λe w'=>e= returned (bool true)/\Below w.heap.size w w':=by
 go_enter func300,ntmps300;go_wp2_with fail;refine Pi (qu w 0 v rfl h I) λw1 B1=>?_;go_wp2_with fail;refine ST (p8 w1 v h ahp) λw2 b2=>?_;have H:=qh (B1.o.trans (b2.mono B1.o.size));have e:v%65536=v:=by omega
 rw[e];clear b2 e;go_wp2;go_ret;exact⟨az ahq,H.o⟩
def sS(w:World)(v:Int)(I:0<=v)(O:v<140737488355328):E 300 #[J 1,J v] w λe w'=>e= returned (bool true)/\Below w.heap.size w w':=by
 go_enter func300,ntmps300;go_wp2_with fail;refine Pi (pf w 0 v ahp ahp I O) λw1 B1=>?_;obtain⟨x,h⟩:=LE (v*65536+0);rw[<-h];have HX:=qh h;clear h;go_wp2_with fail;refine ST (oD w1 x (by have:=HX.o;omega) (by have:=HX.o;omega)) λw2 b2=>?_;have H:=qh (B1.o.trans (b2.mono B1.o.size));have e:x/65536=v:=by have:=HX.o;omega
 rw[e];clear b2 e;go_wp2;go_ret;exact⟨az ahq,H.o⟩
def Cp(w:World)(i n:Int)(h:0<=i)(h1:i<65536)(O:0<=n)(V:n<140737488355328):E 294 #[J i,J n] w λe w'=>e= returned (tuple #[J (n*65536+i),J 0])/\Below w.heap.size w w':=by go_enter func294,ntmps294;go_wp2_with fail;refine Pi (uU w i h h1) λw1 B1=>?_;go_wp2_with fail;refine Pi (sS w1 n O V) λw2 b2=>?_;have H:=qh (B1.o.trans (b2.o.mono B1.o.size));go_wp2_with fail;refine Pi (qu w2 0 i rfl h h1) λw3 b3=>?_;have I:=qh (H.o.trans (b3.o.mono H.o.size));go_wp2_with fail;refine Pi (pf w3 i n h h1 O V) λw4 b4=>?_;have Y:=qh (I.o.trans (b4.o.mono I.o.size));go_wp2;go_ret2;exact⟨rfl,Y.o⟩
end
section
open Go
def dv(D:List Int)(t:Nat):Int:=D.getD t 0
def tokH(t:Nat)(d:Int):Int:=d*65536+((t:Int)+1)
structure Hc where
 ar:Ar
 D:List Int
 S:List Sp
def BF(n:Nat)(w:Int):Bool:=decide (0<=w/\1<=w%65536/\w%65536<=n)
def isB(W:List Int)(f:Int)(n:Nat)(w:Int):Bool:=BF n w&&decide (w/65536<=ldW W (f+(w%65536-1)))
def isA(s:Ar)(f:Int)(n:Nat)(w:Int):Ar:=if BF n w then af s (f+(w%65536-1))else s
def bz(nd n:Nat)(dl:Int)(h:Hc)(nu i:Nat)(p:Sp):Ar×List Int×Sp:=
 if p.pc=1 then(ch h.ar (2+(nu:Int)) (tokH i (dv h.D i+1)),h.D,
  if ldW h.ar.W (2+(nu:Int))≠0 then {p with a:=ldW h.ar.W (2+(nu:Int)),pc:=5} else if 0<dl then {p with a:=ldW h.ar.W (2+(nu:Int)),b:=dl,pc:=2} else {p with a:=ldW h.ar.W (2+(nu:Int)),b:=0,pc:=3})
 else if p.pc=2 then(h.ar,h.D,{p with b:=p.b-1,pc:=if 0<p.b-1 then 2 else 3})
 else if p.pc=3 then(ch h.ar (2+(nu:Int)) 0,h.D,{p with c:=ldW h.ar.W (2+(nu:Int)),pc:=4})
 else if p.pc=4 then(ch h.ar 1 p.c,h.D,{p with a:=ldW h.ar.W 1,pc:=if ldW h.ar.W 1=0 then 10 else 5})
 else if p.pc=5 then(isA h.ar (2+(nd:Int)) n p.a,h.D,{p with pc:=if isB h.ar.W (2+(nd:Int)) n p.a then 10 else 5})
 else(addA h.ar (2+(nd:Int)+i) 1,h.D.set i (dv h.D i+1),{p with pc:=0})
def ik(p:Sp):Bool:=p.pc==1||p.pc==2||p.pc==3||p.pc==4||p.pc==5||p.pc==11
def fu(nd n:Nat)(dl:Int)(node:Nat->Nat)(h:Hc)(i:Int):Hc×Bool:=
 if okI h.S i/\ik (getS h.S i)=true then
  (⟨(bz nd n dl h (node i.toNat) i.toNat (getS h.S i)).1,(bz nd n dl h (node i.toNat) i.toNat (getS h.S i)).2.1,h.S.set i.toNat (bz nd n dl h (node i.toNat) i.toNat (getS h.S i)).2.2⟩,
   decide ((bz nd n dl h (node i.toNat) i.toNat (getS h.S i)).2.2.pc=10\/(bz nd n dl h (node i.toNat) i.toNat (getS h.S i)).2.2.pc=0))
 else(h,false)
def bv(h:Hc)(i Kn J3:Int):Hc×Bool:=
 if okI h.S i/\(getS h.S i).pc=Kn then(⟨h.ar,h.D,h.S.set i.toNat {getS h.S i with pc:=J3}⟩,true)else(h,false)
def tl(W:List Int):Int:=W.getD 0 0
def lc(W:List Int)(v:Nat):Int:=W.getD (1+v) 0
def tnw(nd:Nat)(W:List Int)(i:Nat):Int:=W.getD (1+nd+i) 0
section
def dh{α:Type}(l:List α)(a d:α)(h:i≠j):(l.set i a).getD j d=l.getD j d:=by rw[kV,if_neg (λe=>h e.1)]
def ij{α:Type}(l:List α)(a d:α)(h:i<l.length):(l.set i a).getD i d=a:=by rw[kV,if_pos ⟨rfl,h⟩]
def BH{k:Nat}(h:k<W.length):ldW W ((k:Int)+1)=W.getD k 0:=by unfold ldW inR;exact aar
def CQ{k:Nat}(h:k<W.length)(x:Int):stW W ((k:Int)+1) x=W.set k x:=by unfold stW inR;exact aar
def FT(hw:W.length=1+nd+n):ldW W 1=tl W:=BH (k:=0) ahp
def Ic(hw:W.length=1+nd+n)(h:v<nd):ldW W (2+(v:Int))=lc W v:=by rw[show(2+(v:Int))=((1+v:Nat):Int)+1 by omega];exact BH ahp
def E2(hw:W.length=1+nd+n)(h:i<n):ldW W (2+(nd:Int)+i)=tnw nd W i:=by rw[show(2+(nd:Int)+i)=((1+nd+i:Nat):Int)+1 by omega];exact BH ahp
def Gw(hw:W.length=1+nd+n)(x:Int):stW W 1 x=W.set 0 x:=CQ (k:=0) ahp x
def IQ(hw:W.length=1+nd+n)(h:v<nd)(x:Int):stW W (2+(v:Int)) x=W.set (1+v) x:=by rw[show(2+(v:Int))=((1+v:Nat):Int)+1 by omega];exact CQ ahp x
def IR(hw:W.length=1+nd+n)(h:i<n)(x:Int):stW W (2+(nd:Int)+i) x=W.set (1+nd+i) x:=by rw[show(2+(nd:Int)+i)=((1+nd+i:Nat):Int)+1 by omega];exact CQ ahp x
end
def Lks(P:Nat->Nat->Prop):List Nat->Prop
 |[]=>True
 |a :: l=>(∀b,l.head? =some b->P a b)/\Lks P l
section
variable{P':Nat->Nat->Prop}{l m:List Nat}
def Lks.append(h:Lks P l)(k:Lks P m)(H:∀a b,l.getLast? =some a->m.head? =some b->P a b):Lks P (l++m):=by
 induction l with
 |nil=>exact k
 |cons a l Y=>
  refine⟨λb I=>?_,Y h.2 λx y O V=>H x y ?_ V⟩
  .cases l with
   |nil=>exact H a b rfl (by simpa using I)
   |cons c l=>exact h.1 b (by simpa using I)
  .cases l with
   |nil=>simp at O
   |cons c l=>rw[List.getLast?_cons_cons];exact O
def Lks.mono(h:Lks P l)(hm:∀a b,a∈l->b∈l.tail->P a b->P' a b):Lks P' l:=by
 induction l with
 |nil=>trivial
 |cons a l V=>refine⟨λb I=>hm a b ahq (List.mem_of_mem_head? I) (h.1 b I),V h.2 λx y H O=>hm x y (List.mem_cons_of_mem _ H) (List.mem_of_mem_tail O)⟩
def Lks.mem(h:Lks P l)(I:b∈l.tail):∃a,a∈l/\P a b:=by
 induction l with
 |nil=>simp at I
 |cons a l V=>
  cases l with
  |nil=>simp at I
  |cons c l=>
   rcases List.mem_cons.1 (show b∈c :: l from I)with rfl|hb'
   .exact⟨a,by simp,h.1 b rfl⟩
   .obtain⟨x,O,H⟩:=V h.2 hb';exact⟨x,List.mem_cons_of_mem _ O,H⟩
def Lks.tail(h:Lks P l):Lks P l.tail:=by
 cases l with
 |nil=>exact h
 |cons a l=>exact h.2
def Cf(h:t∈l):l.head? =some t\/t∈l.tail:=by
 cases l with
 |nil=>simp at h
 |cons a l=>
  rcases List.mem_cons.1 h with rfl|h
  .exact .inl rfl
  .exact .inr h
def iu(H:l.Nodup)(h:l.head? =some t):t∉l.tail:=by
 cases l with
 |nil=>simp at h
 |cons a l=>simp at h;subst h;exact(List.nodup_cons.1 H).1
def fF(h:l.head? =some t):l≠[]:=by rintro rfl;simp at h
def bC(h:l.head? =some t):t∈l:=List.mem_of_mem_head? h
end
def eF(D:List Int)(l:List Nat):Int:=match l.getLast? with|some t=>tokH t (dv D t+1)|none=>0
def dx{D:List Int}{l:List Nat}(h:l.getLast? =some t):eF D l=tokH t (dv D t+1):=by unfold eF;rw[h]
def km{l:List Nat}(h:l≠[]):∃t,l.getLast? =some t/\t∈l:=⟨l.getLast h,List.getLast?_eq_some_getLast h,List.getLast_mem h⟩
def kX{D:List Int}(l:List Nat){m:List Nat}(h:m≠[]):eF D (l++m)=eF D m:=by obtain⟨t,H,_⟩:=km h;rw[dx H,dx (t:=t)];rw[List.getLast?_append,H];rfl
def Dn(n:Nat)(D:List Int)(w:Int):Prop:=∃(t:Nat) (d:Int),t<n/\1<=d/\d<=dv D t/\w=tokH t d
def HLk(D:List Int)(S:List Sp)(p s:Nat):Prop:=(sv S s).pc=5/\(sv S s).a=tokH p (dv D p+1)
structure HIv(nd n:Nat)(node:Nat->Nat)(W D:List Int)(S:List Sp)(G:Nat->List Nat):Prop where
 wl:W.length=1+nd+n
 sl:S.length=n
 dl:n<=D.length
 n32:n<=32
 nn:∀t,t<n->node t<nd
 tw:∀t,t<n->tnw nd W t=dv D t
 d0:∀t,0<=dv D t
 nod:∀k,(G k).Nodup
 dj:∀k k' t,t∈G k->t∈G k'->k=k'
 lt:∀k t,t∈G k->t<n
 lk:∀k,Lks (HLk D S) (G k)
 free:∀t,t<n->(∀k,t∉G k)->(sv S t).pc=0\/(sv S t).pc=1
 first:∀m,G (m+1)≠[]->(G (m+1)).head? =some m
 same:∀m t,t∈G (m+1)->node t=node m
 mast:∀m,G (m+1)≠[]->((((sv S m).pc=2/\0<(sv S m).b)\/(sv S m).pc=3)/\lc W (node m)=eF D (G (m+1)))\/((sv S m).pc=4/\(sv S m).c=eF D (G (m+1)))
 one:∀m m',G (m+1)≠[]->G (m'+1)≠[]->node m=node m'->(sv S m).pc<4->(sv S m').pc<4->m=m'
 loc:∀v,v<nd->lc W v=0\/∃m,G (m+1)≠[]/\(sv S m).pc<4/\node m=v
 front:∀t,(G 0).head? =some t->((sv S t).pc=5/\Dn n D (sv S t).a)\/(sv S t).pc=10\/(sv S t).pc=11
 tail:(tl W=eF D (G 0)/\G 0≠[])\/(G 0=[]/\(tl W=0\/Dn n D (tl W)))
section
variable{node:Nat->Nat}{D:List Int}{S:List Sp}{p':Sp}
def wG(h:0<=d):tokH t d≠0:=by unfold tokH;omega
def EP{H:Nat}{d':Int}(h:t<32)(I:H<32)(e:tokH t d=tokH H d'):t=H/\d=d':=by unfold tokH at e;omega
def HIv.notail(h:HIv nd n node W D S G){k:Nat}(V:t∈(G k).tail):(sv S t).pc=5/\∃p,p∈G k/\(sv S t).a=tokH p (dv D p+1):=by obtain⟨p,O,H,I⟩:=(h.lk k).mem V;exact⟨H,p,O,I⟩
def HIv.inG(h:HIv nd n node W D S G){k:Nat}(I:t∈G k):(t∈(G k).tail/\(sv S t).pc=5)\/((G k).head? =some t/\((k=0/\(((sv S t).pc=5/\Dn n D (sv S t).a)\/(sv S t).pc=10\/(sv S t).pc=11))\/(k=t+1/\((sv S t).pc=2\/(sv S t).pc=3\/(sv S t).pc=4)))):=by
 rcases Cf I with H|H
 .refine .inr ⟨H,?_⟩;cases k with
  |zero=>exact .inl ⟨rfl,h.front t H⟩
  |succ m=>
   have e:=h.first m (fF H);rw[H]at e;injection e with e;subst e;refine .inr ⟨rfl,?_⟩;rcases h.mast t (fF H)with⟨h1|h1,_⟩|⟨h1,_⟩
   .exact .inl h1.1
   .exact .inr (.inl h1)
   .exact .inr (.inr h1)
 .exact .inl ⟨H,(h.notail H).1⟩
def HIv.at01(h:HIv nd n node W D S G)(I:(sv S i).pc=0\/(sv S i).pc=1):∀k,i∉G k:=λk H=>by
 rcases h.inG H with h1|⟨_,⟨_,h1⟩|⟨_,h1⟩⟩<;>omega
def HIv.at234(h:HIv nd n node W D S G)(hi:i<n)(I:(sv S i).pc=2\/(sv S i).pc=3\/(sv S i).pc=4):(G (i+1)).head? =some i:=by
 rcases Classical.em (∀k,i∉G k)with H|H
 .have:=h.free i hi H;omega
 .obtain⟨k,H⟩:=Classical.not_forall.1 H;rcases h.inG (Classical.not_not.1 H)with h1|⟨h0,⟨_,h1⟩|⟨rfl,h1⟩⟩
  .omega
  .omega
  .exact h0
def HIv.atFront(h:HIv nd n node W D S G)(hi:i<n)(I:(sv S i).pc=10\/(sv S i).pc=11):(G 0).head? =some i:=by
 rcases Classical.em (∀k,i∉G k)with H|H
 .have:=h.free i hi H;omega
 .obtain⟨k,H⟩:=Classical.not_forall.1 H;rcases h.inG (Classical.not_not.1 H)with h1|⟨h0,⟨rfl,h1⟩|⟨rfl,h1⟩⟩
  .omega
  .exact h0
  .omega
def HIv.at5(h:HIv nd n node W D S G)(hi:i<n)(V:(sv S i).pc=5):(∃k p,i∈(G k).tail/\p∈G k/\(sv S i).a=tokH p (dv D p+1))\/((G 0).head? =some i/\Dn n D (sv S i).a):=by
 rcases Classical.em (∀k,i∉G k)with H|H
 .have:=h.free i hi H;omega
 .obtain⟨k,H⟩:=Classical.not_forall.1 H;rcases h.inG (Classical.not_not.1 H)with h1|⟨h0,⟨rfl,h1⟩|⟨rfl,h1⟩⟩
  .obtain⟨_,p,I,O⟩:=h.notail h1.1;exact .inl ⟨k,p,h1.1,I,O⟩
  .refine .inr ⟨h0,?_⟩;rcases h1 with h1|h1|h1
   .exact h1.2
   .omega
   .omega
  .omega
def bY(h:j≠i):sv (S.set i p') j=sv S j:=by rw[cJ,if_neg (λe=>h e.1.symm)]
def py(h:i<S.length):sv (S.set i p') i=p':=by rw[cJ,if_pos ⟨rfl,h⟩]
def xn(hw:W.length=1+nd+n)(V:n<=32)(I:t<n)(O:0<=d):isB W (2+(nd:Int)) n (tokH t d)=decide (d<=tnw nd W t):=by
 have h:tokH t d%65536=t+1:=by unfold tokH;omega
 have H:tokH t d/65536=d:=by unfold tokH;omega
 unfold isB BF;rw[h,H,show(2+(nd:Int)+((t:Int)+1-1))=2+(nd:Int)+t by omega,E2 hw I,decide_eq_true (show 0<=tokH t d/\1<=(t:Int)+1/\(t:Int)+1<=n by refine⟨by unfold tokH;omega,by omega,by omega⟩)];rfl
def HIv.keep(h:HIv nd n node W D S G)(hi:i<n)(hw:W'.length=W.length)(ab:∀t,t<n->tnw nd W' t=tnw nd W t)(Ux:tl W'=tl W)(Su:∀k,i∉(G k).tail)(Zq:(∀k,i∉G k)->p'.pc=0\/p'.pc=1)(ZO:G (i+1)≠[]->(((p'.pc=2/\0<p'.b)\/p'.pc=3)/\lc W' (node i)=eF D (G (i+1)))\/(p'.pc=4/\p'.c=eF D (G (i+1))))(ZR:∀m,m≠i->G (m+1)≠[]->(sv S m).pc<4->lc W' (node m)=lc W (node m))(Oq:G (i+1)≠[]->p'.pc<4->(sv S i).pc<4)(ZK:∀v,v<nd->lc W' v=0\/(lc W' v=lc W v/\(v=node i->G (i+1)≠[]->(sv S i).pc<4->p'.pc<4)))(Zr:(G 0).head? =some i->(p'.pc=5/\Dn n D p'.a)\/p'.pc=10\/p'.pc=11):HIv nd n node W' D (S.set i p') G:=by
  have Y:=py (S:=S) (i:=i) (p':=p') ahY;refine⟨hw.trans h.wl,by simp[h.sl],h.dl,h.n32,h.nn,λt V=>(ab t V).trans (h.tw t V),h.d0,h.nod,h.dj,h.lt,λk=>?_,λt V hk=>?_,h.first,h.same,λm hm=>?_,λm m' hm LN he h1 H=>?_,λv O=>?_,λt V=>?_,by rw[Ux];exact h.tail⟩;. refine(h.lk k).mono λa b _ I Ke=>?_;have:b≠i:=λe=>Su k (e ▸ I);unfold HLk;rw[bY this];exact Ke
  . by_cases e:t=i;. subst e;rw[Y];exact Zq hk
    . rw[bY e];exact h.free t V hk
  . by_cases e:m=i;. subst e;rw[Y];exact ZO hm
    . rw[bY e];rcases h.mast m hm with⟨h1,H⟩|h1
      . exact .inl ⟨h1,by rw[ZR m e hm ahp];exact H⟩
      . exact .inr h1
  . refine h.one m m' hm LN he ?_ ?_
    . by_cases e:m=i;. subst e;rw[Y]at h1;exact Oq hm h1
      . rw[bY e]at h1;exact h1
    . by_cases e:m'=i;. subst e;rw[Y]at H;exact Oq LN H
      . rw[bY e]at H;exact H
  . rcases ZK v O with h1|⟨h1,H⟩
    . exact .inl h1
    . rw[h1];rcases h.loc v O with h3|⟨m,h3,h4,h5⟩
      . exact .inl h3
      . refine .inr ⟨m,h3,?_,h5⟩;by_cases e:m=i;. subst e;rw[Y];exact H h5.symm h3 h4
        . rw[bY e];exact h4
  . by_cases e:t=i;. subst e;rw[Y];exact Zr V
    . rw[bY e];exact h.front t V
end
end
section
open Go.RowKit
def tuC(a:Nat)(f:Int)(n:Nat)(D:List Int):List Value:=[pointer (some ⟨a,0,none⟩),J f,J n]++D.map (Value.int .i64)
structure ef(w:World)(u a:Nat)(f:Int)(n:Nat)(D:List Int):Prop where
 blk:Blk w u 322 (tuC a f n D).toArray
 len:D.length=32
 n32:n<=32
 f0:0<=f/\f<=5000
section
variable{a:Nat}{D:List Int}
def ef.c0(h:ef w u a f n D):w.cell? u=some ↑a:=h.blk.cell 0
def ef.c1(h:ef w u a f n D):Z w u 1 (J f):=h.blk.cell 1
def ef.c2(h:ef w u a f n D):Z w u 2 (J n):=h.blk.cell 2
def ef.c3(h:ef w u a f n D)(hi:i<32):Z w u (3+i) (J (dv D i)):=by rw[h.blk.cell (3+i)];have H:=h.len;unfold tuC dv;rw[List.getElem?_toArray,List.getElem?_append_right ahq];simp[List.getD_eq_getElem?_getD,List.getElem?_eq_getElem (show i<D.length by omega)]
def ef.turns(h:ef w u a f n D){S:List Nat}(k:aa S w w')(H:u∉S):ef w' u a f n D:=⟨k.blk h.blk H,h.len,h.n32,h.f0⟩
def ef.below(h:ef w u a f n D)(k:Below w.heap.size w w'):ef w' u a f n D:=h.turns (aa.of_below (S:=[]) k) ahq
def Gs(h:ef w u a f n D):E 299 #[↑u] w λe w'=>e= returned (J n)/\w=w':=by have c2:=h.c2;clear h;go_enter func299,ntmps299;exact aab
def DX(h:ef w u a f n D)(i:Int)(b:Bool)(I:decide (0<=i/\i<n)=b):E 293 #[↑u,J i] w λe w'=>e= returned (.bool b)/\w=w':=by
 have H:=qh h;have HB:=qh I;clear h I;go_enter func293,ntmps293;by_cases O:0<=i;.go_wp2_with fail;refine LT (Gs H.o) ?_;go_wp2;go_ret;exact⟨az (by rw[<-HB.o];simp[O]),rfl⟩
 .exact aas
def IB(h:ef w u a f n D)(i:Nat)(hi:i<n)(hd:0<=dv D i/\dv D i<1000000000):E 290 #[↑u,J i] w λe w'=>e= returned (J (tokH i (dv D i+1)))/\Below w.heap.size w w':=by
 have O:=h.n32;have c3:=h.c3 (i:=i) ahp;have H:=qh (DX h i true (decide_eq_true ahp));obtain⟨d,hd1⟩:=LE (dv D i);rw[<-hd1]at c3 hd ⊢;obtain⟨Y,Zl⟩:=hd;have I:(i:Int)<32:=by omega
 have V:i<32:=by omega
 clear h hd1;go_enter func290,ntmps290;go_wp2_with fail;refine LT H.o ?_;go_wp2_with fail;refine(Cp w _ _ ahp ahp ahp ahp).mono ?_;rintro en w1 ⟨rfl,b1⟩;have B1:=qh b1;clear b1 c3;exact aaq
end
structure IsK(w W:World)(u a g:Nat)(f:Int)(n:Nat)(D:List Int)(s s':Ar):Prop where
 ar:aB W a g s'
 tu:ef W u a f n D
 tn:aa [a,g] w W
def IsK.below{W H:World}{a g:Nat}{D:List Int}{s s':Ar}(h:IsK w W u a g f n D s s')(k:Below W.heap.size W H):IsK w H u a g f n D s s':=
 ⟨h.ar.turns (S:=[]) (aa.of_below k) ahq ahq,h.tu.below k,h.tn.trans (aa.of_below k)⟩
def isU{a g:Nat}{D:List Int}{s:Ar}(h:aB w a g s)(k:ef w u a f n D)(MR:u≠a)(MT:u≠g)(x:Int)(V:0<=x)(h1:x<9223372036854775808)(Y:s.ops+1<=1000000000000):E 291 #[↑u,J x] w λe w'=>e= returned (bool (isB s.W f n x))/\aB w' a g (isA s f n x)/\aa [a,g] w w':=by
  have HI:=qh (λW=>Be W x V h1);have HM:=qh (λW=>yR W x V h1);have U4:=qh (λW=>Bm W x V h1);have K0:=qh (show IsK w w u a g f n D s s from⟨h,k,aa.refl _ _⟩);have HC:=qh (λW (h:ef W u a f n D)=>And.intro h.c0 h.c1);have LV:u∉[a,g]:=by simp[MR,MT]
  obtain⟨f0,f1⟩:=k.f0;have n32:=k.n32;obtain⟨j,hj⟩:=LE (x%65536);have al:0<=j:=by omega
  have ax:j<65536:=by omega
  obtain⟨m,hm⟩:=LE (x/65536);rw[<-hj]at HI;rw[<-hm]at U4;by_cases mP:1<=j/\j<=n
  . have H:BF n x=true:=decide_eq_true ⟨V,by omega,by omega⟩;obtain⟨v,O⟩:=LE (ldW s.W (f+(j-1)));have HE:Kq (isA s f n x=af s (f+(j-1))/\isB s.W f n x=decide (m<=v)):=qh ⟨by unfold isA;rw[H,<-hj];rfl,by unfold isB;rw[H,<-hj,<-hm,<-O];rfl⟩;have HL:=qh (λW (h:aB W a g s)=>aE h (f+(j-1)) Y);rw[<-O]at HL;have HH:=qh (λW (h:ef W u a f n D)=>DX h (j-1) true (decide_eq_true ahp));obtain⟨ab,ad⟩:=mP;have HU:=qh LV;clear h k V h1 hj hm H O LV MR MT;go_enter func291,ntmps291;go_wp2_with fail;refine Pi (HI.o w) λw1 b1=>?_;have I:=qh ((K0.o.below b1.o).below ((Below.refl _ w1).drew));have x1:IntKind.i64.wrap (f+(j-1))=f+(j-1):=IntWalk.i64_in _ ahp;go_wp2_with fail
    go_region_held3 (λW=>W.cell? u=some ↑a/\Z W u 1 (J f))
      (first|with_reducible exact HC.o _ I.o.tu|with_reducible exact HC.o _ K2.o.tu|with_reducible exact HC.o _ K3.o.tu|with_reducible exact HC.o _ K4.o.tu)
      (first
        | (go_at_call 296;go_loud (refine Pi (HM.o _) λw2 q2=>?_);have K2:=qh (I.o.below (Qt.below q2.o _)))
        | (go_at_call 293;go_loud (refine LT (HH.o _ K2.o.tu) ?_))
        | (go_at_call 173;go_loud (refine Pi (HL.o _ K2.o.ar) λw3 a3=>?_);have K3:Kq (IsK w w3 u a g f n D s (af s (f+(j-1)))):=qh ⟨a3.o.1,K2.o.tu.turns a3.o.2 HU.o,K2.o.tn.trans a3.o.2⟩)
        | (go_at_call 297;go_loud (refine Pi (U4.o _) λw4 b4=>?_);have K4:=qh (K3.o.below b4.o)))
    all_goals
      go_wp2;go_ret;refine⟨az ?_,?_,K4.o.tn⟩;. rw[HE.o.2]
      . rw[HE.o.1];exact K4.o.ar
  . have H:BF n x=false:=decide_eq_false ahp;have HE:Kq (isA s f n x=s/\isB s.W f n x=false):=qh ⟨by unfold isA;rw[H];rfl,by unfold isB;rw[H];rfl⟩;have HH:=qh (λW (h:ef W u a f n D)=>DX h (j-1) false (decide_eq_false ahp));clear h k V h1 hj hm H LV MR MT;go_enter func291,ntmps291;go_wp2_with fail;refine Pi (HI.o w) λw1 b1=>?_;have I:=qh (K0.o.below b1.o);clear mP;go_wp2_with fail
    go_quiet ((first
        | (go_at_call 296;exact Ct (HM.o _))
        | (go_at_call 293;exact bV (HH.o _ (I.o.below (Qt.below ⟨_,rfl⟩ _)).tu))))
    go_wp2;go_ret;refine⟨az ?_,?_,I.o.tn.trans (aa.of_qt ⟨_,rfl⟩)⟩;. rw[HE.o.2]
    . rw[HE.o.1];exact(I.o.below (Qt.below ⟨_,rfl⟩ _)).ar
end
section
open Go
def upd(G:Nat->List Nat)(k:Nat)(l:List Nat):Nat->List Nat:=λj=>if j=k then l else G j
def cl(G:Nat->List Nat)(k:Nat)(l:List Nat):upd G k l k=l:=by unfold upd;rw[if_pos rfl]
def pH(G:Nat->List Nat){k:Nat}(l:List Nat)(h:j≠k):upd G k l j=G j:=by unfold upd;rw[if_neg h]
section
variable{node:Nat->Nat}{D:List Int}{S:List Sp}{p':Sp}
def jG(x:Int)(h:1+v<W.length):lc (W.set (1+v) x) u=if v=u then x else lc W u:=by
 unfold lc;by_cases e:v=u;.subst e;rw[ij _ _ _ h,if_pos rfl]
 .rw[dh _ _ _ ahp,if_neg e]
def rM(x:Int):tl (W.set (1+v) x)=tl W:=dh _ _ _ ahp
def pD(x:Int)(h:v<nd):tnw nd (W.set (1+v) x) t=tnw nd W t:=dh _ _ _ ahp
def HIv.nil1(h:HIv nd n node W D S G)(H:∀k,i∉G k):G (i+1)=[]:=by
 rcases Classical.em (G (i+1)=[])with e|e
 .exact e
 .exact absurd (bC (h.first i e)) (H _)
def HIv.ask(h:HIv nd n node W D S G)(hi:i<n)(O:(sv S i).pc=0)(Y:p'.pc=1):HIv nd n node W D (S.set i p') G:=by have I:=h.at01 (.inl O);have e:=h.nil1 I;refine h.keep hi rfl (λ_ _=>rfl) rfl (λk hm=>I k (List.mem_of_mem_tail hm)) (λ_=> .inr Y) (λH=>absurd e H) (λ_ _ _ _=>rfl) (λH=>absurd e H) (λ_ _=> .inr ⟨rfl,λ_ H=>absurd e H⟩) (λV=>absurd (bC V) (I 0))
def HIv.atFrontP(h:HIv nd n node W D S G)(hi:i<n)(V:(G 0).head? =some i)(hp:p'.pc=10\/p'.pc=11):HIv nd n node W D (S.set i p') G:=by
 have hm:=bC V
 have I:G (i+1)=[]:=by
  rcases Classical.em (G (i+1)=[])with e|e
  .exact e
  .have:=h.dj _ _ _ hm (bC (h.first i e));omega
 refine h.keep hi rfl (λ_ _=>rfl) rfl (λk O=>?_) (λY=>absurd hm (Y 0)) (λH=>absurd I H) (λ_ _ _ _=>rfl) (λH=>absurd I H) (λ_ _=> .inr ⟨rfl,λ_ H=>absurd I H⟩) (λ_=> .inr hp);have:=h.dj _ _ _ hm (List.mem_of_mem_tail O);subst this;exact iu (h.nod 0) V O
def HIv.masterNot(h:HIv nd n node W D S G)(I:(G (i+1)).head? =some i):(∀k,i∉(G k).tail)/\¬(G 0).head? =some i:=by
 have hm:=bC I;refine⟨λk H=>?_,λO=>?_⟩;.have:=h.dj _ _ _ hm (List.mem_of_mem_tail H);subst this;exact iu (h.nod _) I H
 .have:=h.dj _ _ _ hm (bC O);omega
def HIv.s2(h:HIv nd n node W D S G)(hi:i<n)(O:(sv S i).pc=2)(hp:(p'.pc=2/\0<p'.b)\/p'.pc=3):HIv nd n node W D (S.set i p') G:=by
 have H:=h.at234 hi (.inl O);obtain⟨q1,q2⟩:=h.masterNot H;refine h.keep hi rfl (λ_ _=>rfl) rfl q1 (λY=>absurd (bC H) (Y _)) (λI=>?_) (λ_ _ _ _=>rfl) (λ_ _=>by omega) (λ_ _=> .inr ⟨rfl,λ_ _ _=>by omega⟩) (λV=>absurd V q2);rcases h.mast i I with⟨_,h1⟩|⟨h1,_⟩
 .exact .inl ⟨hp,h1⟩
 .omega
def HIv.s3(h:HIv nd n node W D S G)(hi:i<n)(h3:(sv S i).pc=3)(hp:p'.pc=4)(hc:p'.c=lc W (node i)):HIv nd n node (W.set (1+node i) 0) D (S.set i p') G:=by
 have I:=h.at234 hi (.inr (.inl h3));obtain⟨q1,q2⟩:=h.masterNot I;have O:=h.nn i hi;have V:1+node i<W.length:=by rw[h.wl];omega
 refine h.keep hi ahq (λt _=>pD 0 O) (rM 0) q1 (λhk=>absurd (bC I) (hk _)) (λH=>?_) (λm hm H h4=>?_) (λ_ _=>by omega) (λv _=>?_) (λhh=>absurd hh q2)
 .rcases h.mast i H with⟨_,h1⟩|⟨h1,_⟩
  .exact .inr ⟨hp,hc.trans h1⟩
  .omega
 .rw[jG 0 V,if_neg];intro e;exact hm (h.one m i H (fF I) e.symm h4 ahp)
 .rw[jG 0 V];by_cases e:node i=v;.exact .inl (by rw[if_pos e])
  .exact .inr ⟨by rw[if_neg e],λY=>absurd Y.symm e⟩
def HIv.same5(h:HIv nd n node W D S G)(hi:i<n)(H:p'=sv S i):HIv nd n node W D (S.set i p') G:=by
 have:S.set i p'=S:=by
  subst H;apply List.ext_getElem?;intro j;rw[List.getElem?_set];by_cases e:i=j;.subst e;have:i<S.length:=(by rw[h.sl];exact hi);rw[if_pos rfl,if_pos this];exact aat
  .rw[if_neg e]
 rw[this];exact h
def HIv.s5(h:HIv nd n node W D S G)(hi:i<n)(Y:(sv S i).pc=5)(I:isB W (2+(nd:Int)) n (sv S i).a=true):(G 0).head? =some i:=by
 rcases h.at5 hi Y with⟨k,p,_,O,V⟩|h1
 .have H:=h.lt k p O;rw[V,xn h.wl h.n32 H (by have:=h.d0 p;omega),h.tw p H]at I;have:=of_decide_eq_true I;omega
 .exact h1.1
def HIv.s5n(h:HIv nd n node W D S G)(O:(G 0).head? =some i)(Y:(sv S i).pc=5):isB W (2+(nd:Int)) n (sv S i).a=true:=by
 rcases h.front i O with⟨_,t,d,h1,V,H,I⟩|h1|h1
 .rw[I,xn h.wl h.n32 h1 ahp,h.tw t h1];exact decide_eq_true H
 .omega
 .omega
def HIv.s1a(h:HIv nd n node W D S G)(hi:i<n)(h1:(sv S i).pc=1)(hl:lc W (node i)=0)(hp:(p'.pc=2/\0<p'.b)\/p'.pc=3):HIv nd n node (W.set (1+node i) (tokH i (dv D i+1))) D (S.set i p') (upd G (i+1) [i]):=by
 have hk:=h.at01 (.inr h1);have O:=h.nn i hi;have Le:1+node i<W.length:=by rw[h.wl];omega
 have LZ:=py (S:=S) (i:=i) (p':=p') ahY;have F':eF D [i]=tokH i (dv D i+1):=dx rfl
 have St:∀m,G (m+1)≠[]->(sv S m).pc<4->node m≠node i:=λm hm h4 e=>by
  rcases h.mast m hm with⟨_,V⟩|⟨V,_⟩
  .rw[e,hl]at V;obtain⟨t,ht,_⟩:=km hm;rw[dx ht]at V;exact wG (by have:=h.d0 t;omega) V.symm
  .omega
 have hu:∀k,k≠i+1->upd G (i+1) [i] k=G k:=λk e=>pH G _ e;have Mz:∀m,m≠i->upd G (i+1) [i] (m+1)=G (m+1):=λm e=>hu _ ahp;refine⟨by simp[h.wl],by simp[h.sl],h.dl,h.n32,h.nn,λt ht=>(pD _ O).trans (h.tw t ht),h.d0,λk=>?_,λk k' t H Kk=>?_,λk t hm=>?_,λk=>?_,λt ht H=>?_,λm hm=>?_,λm t hm=>?_,λm hm=>?_,λm m' hm LN he V h3=>?_,λv LB=>?_,λt ht=>?_,?_⟩
 .by_cases e:k=i+1;.rw[e,cl];simp
  .rw[hu k e];exact h.nod k
 .by_cases e:k=i+1<;>by_cases Y:k'=i+1;.omega
  .rw[e,cl]at H;rw[hu k' Y]at Kk;rw[List.mem_singleton.1 H]at Kk;exact absurd Kk (hk k')
  .rw[Y,cl]at Kk;rw[hu k e]at H;rw[List.mem_singleton.1 Kk]at H;exact absurd H (hk k)
  .rw[hu k e]at H;rw[hu k' Y]at Kk;exact h.dj k k' t H Kk
 .by_cases e:k=i+1;.rw[e,cl]at hm;rw[List.mem_singleton.1 hm];exact hi
  .rw[hu k e]at hm;exact h.lt k t hm
 .by_cases e:k=i+1;.rw[e,cl];exact⟨λb I=>by simp at I,trivial⟩
  .rw[hu k e];refine(h.lk k).mono λa b _ I Ke=>?_;exact aau
 .have e:t≠i:=λe=>H (i+1) (by rw[cl,e];simp);rw[bY e];refine h.free t ht λk=>?_;by_cases e2:k=i+1;.rw[e2,h.nil1 hk];simp
  .have:=H k;rw[hu k e2]at this;exact this
 .by_cases e:m=i;.rw[e,cl];rfl
  .rw[Mz m e]at hm ⊢;exact h.first m hm
 .by_cases e:m=i;.rw[e,cl]at hm;rw[List.mem_singleton.1 hm,e]
  .rw[Mz m e]at hm;exact h.same m t hm
 .by_cases e:m=i;.subst e;rw[cl,LZ,jG _ Le,if_pos rfl,F'];exact .inl ⟨hp,rfl⟩
  .rw[Mz m e]at hm ⊢;rw[bY e];rcases h.mast m hm with⟨V,h3⟩|V
   .refine .inl ⟨V,?_⟩;rw[jG _ Le,if_neg (λY=>St m hm ahp Y.symm)];exact h3
   .exact .inr V
 .by_cases e:m=i<;>by_cases Y:m'=i;.omega
  .rw[Mz m' Y]at LN;rw[bY Y]at h3;subst e;exact absurd he.symm (St m' LN h3)
  .rw[Mz m e]at hm;rw[bY e]at V;subst Y;exact absurd he (St m hm V)
  .rw[Mz m e]at hm;rw[Mz m' Y]at LN;rw[bY e]at V;rw[bY Y]at h3;exact h.one m m' hm LN he V h3
 .by_cases e:node i=v;.refine .inr ⟨i,by rw[cl];simp,?_,e⟩;rw[LZ];omega
  .rw[jG _ Le,if_neg e];rcases h.loc v LB with V|⟨m,V,h3,h4⟩
   .exact .inl V
   .have e2:m≠i:=λe2=>e (by rw[<-e2];exact h4);exact .inr ⟨m,by rw[Mz m e2];exact V,by rw[bY e2];exact h3,h4⟩
 .rw[hu 0 ahp]at ht;rw[bY (λe=>hk 0 (by rw[<-e];exact bC ht))];exact h.front t ht
 .rw[hu 0 ahp,rM];exact h.tail
def HIv.s1b(h:HIv nd n node W D S G)(hi:i<n)(h1:(sv S i).pc=1)(hl:lc W (node i)≠0)(hp:p'.pc=5)(ha:p'.a=lc W (node i)):∃m t,G (m+1)≠[]/\t∈G (m+1)/\node t=node i/\p'.a=tokH t (dv D t+1)/\HIv nd n node (W.set (1+node i) (tokH i (dv D i+1))) D (S.set i p') (upd G (m+1) (G (m+1)++[i])):=by
  have hk:=h.at01 (.inr h1);have O:=h.nn i hi;have Le:1+node i<W.length:=by rw[h.wl];omega
  have LZ:=py (S:=S) (i:=i) (p':=p') ahY;rcases h.loc (node i) O with Y|⟨m,hm,Ww,Pt⟩
  . exact absurd Y hl
  have Kx:lc W (node m)=eF D (G (m+1)):=by
    rcases h.mast m hm with⟨_,Y⟩|⟨Y,_⟩
    . exact Y
    . omega
  obtain⟨t,ht,Rk⟩:=km hm;have Ot:p'.a=tokH t (dv D t+1):=by rw[ha,<-Pt,Kx,dx ht]
  have Sm:m≠i:=λe=>by rw[e]at hm;exact hm (h.nil1 hk)
  refine⟨m,t,hm,Rk,(h.same m t Rk).trans Pt,Ot,?_⟩;have hu:∀k,k≠m+1->upd G (m+1) (G (m+1)++[i]) k=G k:=λk e=>pH G _ e;have Mz:∀j,j≠m->upd G (m+1) (G (m+1)++[i]) (j+1)=G (j+1):=λj e=>hu _ ahp;have ZG:eF D (G (m+1)++[i])=tokH i (dv D i+1):=by rw[kX _ ahq];exact dx rfl
  have E':∀j,upd G (m+1) (G (m+1)++[i]) (j+1)≠[]->G (j+1)≠[]:=λj V=>by
    by_cases e:j=m;. rw[e];exact hm
    . rw[Mz j e]at V;exact V
  refine⟨by simp[h.wl],by simp[h.sl],h.dl,h.n32,h.nn,λt ht=>(pD _ O).trans (h.tw t ht),h.d0,λk=>?_,λk k' t H Kk=>?_,λk t hm=>?_,λk=>?_,λt ht H=>?_,λj V=>?_,λj t V=>?_,λj V=>?_,λj j' V Ml he Y h3=>?_,λv LB=>?_,λt ht=>?_,?_⟩
  . by_cases e:k=m+1;. rw[e,cl];refine List.nodup_append.2 ⟨h.nod _,by simp,λx hx y hy=>?_⟩;rw[List.mem_singleton.1 hy];rintro rfl;exact hk _ hx
    . rw[hu k e];exact h.nod k
  . by_cases e:k=m+1<;>by_cases e':k'=m+1;. omega
    . rw[e,cl]at H;rw[hu k' e']at Kk;rcases List.mem_append.1 H with H|H
      . rw[e];exact h.dj _ _ t H Kk
      . rw[List.mem_singleton.1 H]at Kk;exact absurd Kk (hk k')
    . rw[e',cl]at Kk;rw[hu k e]at H;rcases List.mem_append.1 Kk with Kk|Kk
      . rw[e'];exact h.dj _ _ t H Kk
      . rw[List.mem_singleton.1 Kk]at H;exact absurd H (hk k)
    . rw[hu k e]at H;rw[hu k' e']at Kk;exact h.dj k k' t H Kk
  . by_cases e:k=m+1
    . rw[e,cl]at hm;rcases List.mem_append.1 hm with hm|hm
      . exact h.lt _ t hm
      . rw[List.mem_singleton.1 hm];exact hi
    . rw[hu k e]at hm;exact h.lt k t hm
  . have old:∀k,Lks (HLk D (S.set i p')) (G k):=λk=>(h.lk k).mono λa b _ I Ke=>by exact aau
    by_cases e:k=m+1;. rw[e,cl];refine(old _).append ⟨λb I=>by simp at I,trivial⟩ λa b K7 ab=>?_;have e1:b=i:=(by simpa using ab.symm);rw[ht]at K7;injection K7 with K7;subst e1 K7;unfold HLk;rw[LZ];exact⟨hp,Ot⟩
    . rw[hu k e];exact old k
  . have e:t≠i:=λe=>H (m+1) (by rw[cl,e];simp);rw[bY e];refine h.free t ht λk=>?_;by_cases e2:k=m+1;. have:=H k;rw[e2,cl]at this;rw[e2];exact λhx=>this (List.mem_append_left _ hx)
    . have:=H k;rw[hu k e2]at this;exact this
  . by_cases e:j=m;. rw[e,cl,List.head?_append,h.first m hm];rfl
    . rw[Mz j e]at V ⊢;exact h.first j V
  . by_cases e:j=m
    . rw[e,cl]at V;rcases List.mem_append.1 V with V|V
      . rw[e];exact h.same m t V
      . rw[List.mem_singleton.1 V,e];exact Pt.symm
    . rw[Mz j e]at V;exact h.same j t V
  . have Mw:j≠i:=λe=>by have:=E' j V;rw[e]at this;exact this (h.nil1 hk)
    rw[bY Mw];by_cases e:j=m
    . subst e;rcases h.mast j hm with⟨Y,h3⟩|⟨Y,_⟩
      . exact .inl ⟨Y,by rw[cl,ZG,jG _ Le,if_pos Pt.symm]⟩
      . omega
    . rw[Mz j e]at V ⊢;rcases h.mast j V with⟨Y,h3⟩|Y
      . refine .inl ⟨Y,?_⟩;rw[jG _ Le,if_neg];. exact h3
        . intro e';exact e (h.one j m V hm (e'.symm.trans Pt.symm) ahp Ww)
      . exact .inr Y
  . have e1:j≠i:=λe=>by have:=E' j V;rw[e]at this;exact this (h.nil1 hk)
    have e2:j'≠i:=λe=>by have:=E' j' Ml;rw[e]at this;exact this (h.nil1 hk)
    rw[bY e1]at Y;rw[bY e2]at h3;exact h.one j j' (E' j V) (E' j' Ml) he Y h3
  . by_cases e:node i=v;. exact .inr ⟨m,by rw[cl];simp,by rw[bY Sm];exact Ww,Pt.trans e⟩
    . rw[jG _ Le,if_neg e];rcases h.loc v LB with Y|⟨j,Y,h3,h4⟩
      . exact .inl Y
      . have e2:j≠i:=λe2=>e (by rw[<-e2];exact h4);have e3:j≠m:=λe3=>e (by rw[<-h4,e3,Pt]);exact .inr ⟨j,by rw[Mz j e3];exact Y,by rw[bY e2];exact h3,h4⟩
  . rw[hu 0 ahp]at ht;rw[bY (λe=>hk 0 (by rw[<-e];exact bC ht))];exact h.front t ht
  . rw[hu 0 ahp,rM];exact h.tail
end
end
section
open Go
section
variable{node:Nat->Nat}{D:List Int}{S:List Sp}{p':Sp}
def spl(G:Nat->List Nat)(i:Nat):Nat->List Nat:=λj=>if j=0 then G 0++G (i+1)else if j=i+1 then[]else G j
def zk(G:Nat->List Nat)(i:Nat):spl G i 0=G 0++G (i+1):=by unfold spl;rw[if_pos rfl]
def Ey(G:Nat->List Nat)(i:Nat):spl G i (i+1)=[]:=by unfold spl;rw[if_neg ahp,if_pos rfl]
def CO(G:Nat->List Nat)(h:j≠i):spl G i (j+1)=G (j+1):=by unfold spl;rw[if_neg ahp,if_neg ahp]
def EO(x:Int)(h:0<W.length):tl (W.set 0 x)=x:=ij _ _ _ h
def xp(x:Int):lc (W.set 0 x) v=lc W v:=dh _ _ _ ahp
def CX(x:Int):tnw nd (W.set 0 x) t=tnw nd W t:=dh _ _ _ ahp
def ru{k:Nat}(hm:t∈spl G i k):∃h,t∈G h/\(k=h\/(k=0/\h=i+1)):=by
 unfold spl at hm;split at hm
 .rename_i e;rcases List.mem_append.1 hm with hm|hm
  .exact⟨0,hm,.inl e⟩
  .exact⟨i+1,hm,.inr ⟨e,rfl⟩⟩
 .split at hm;.simp at hm
  .exact⟨k,hm,.inl rfl⟩
def HIv.s4(h:HIv nd n node W D S G)(hi:i<n)(h4:(sv S i).pc=4)(hp:(tl W=0/\p'.pc=10)\/(tl W≠0/\p'.pc=5))(ha:p'.a=tl W):(∃r,G (i+1)=i :: r)/\(p'.pc=10->G 0=[])/\HIv nd n node (W.set 0 (sv S i).c) D (S.set i p') (spl G i):=by
  have hf:=h.at234 hi (.inr (.inr h4));have E':=fF hf;have Le:0<W.length:=by rw[h.wl];omega
  have LZ:=py (S:=S) (i:=i) (p':=p') ahY;obtain⟨q1,q2⟩:=h.masterNot hf
  have hc:(sv S i).c=eF D (G (i+1)):=by
    rcases h.mast i E' with⟨H,_⟩|⟨_,H⟩
    . omega
    . exact H
  have Zm:p'.pc=10->G 0=[]:=λe=>by
    rcases h.tail with⟨H,Y⟩|⟨H,_⟩
    . rcases hp with⟨h5,_⟩|⟨_,h6⟩
      . obtain⟨t,ht,_⟩:=km Y;rw[h5,dx ht]at H;exact absurd H.symm (wG (by have:=h.d0 t;omega))
      . omega
    . exact H
  refine⟨?_,Zm,?_⟩
  . cases V:G (i+1)with
    | nil=>exact absurd V E'
    | cons a r=>rw[V]at hf;simp at hf;subst hf;exact⟨r,rfl⟩
  have old:∀k,Lks (HLk D (S.set i p')) (G k):=λk=>(h.lk k).mono λa b _ I Ke=>by have:b≠i:=λe=>q1 k (e ▸ I);unfold HLk;rw[bY this];exact Ke
  have hm0:∀m,spl G i (m+1)≠[]->m≠i/\G (m+1)≠[]:=λm hm=>by
    by_cases e:m=i;. rw[e,Ey]at hm;exact absurd rfl hm
    . rw[CO G e]at hm;exact⟨e,hm⟩
  refine⟨by simp[h.wl],by simp[h.sl],h.dl,h.n32,h.nn,λt ht=>(CX _).trans (h.tw t ht),h.d0,λk=>?_,λk k' t O Kk=>?_,λk t hm=>?_,λk=>?_,λt ht O=>?_,λm hm=>?_,λm t hm=>?_,λm hm=>?_,λm m' hm LN he H Y=>?_,λv LB=>?_,λt ht=>?_,?_⟩
  . unfold spl;split;. refine List.nodup_append.2 ⟨h.nod _,h.nod _,λx hx y hy e=>?_⟩;subst e;have:=h.dj _ _ _ hx hy;omega
    . split;. exact List.nodup_nil
      . exact h.nod k
  . obtain⟨j,hj,ej⟩:=ru O;obtain⟨j',Ml,YK⟩:=ru Kk;have e:=h.dj _ _ _ hj Ml;subst e;rcases ej with rfl|⟨rfl,rfl⟩<;>rcases YK with e'|⟨rfl,e'⟩
    . exact e'.symm
    . subst e';rw[Ey]at O;simp at O
    . subst e';rw[Ey]at Kk;simp at Kk
    . rfl
  . obtain⟨j,hj,_⟩:=ru hm;exact h.lt j t hj
  . unfold spl;split
    . refine(old 0).append (old _) λa b K7 ad=>?_;rw[hf]at ad;injection ad with ad;subst ad;rcases h.tail with⟨H,Y⟩|⟨H,_⟩
      . unfold HLk;rw[LZ,ha,H,dx K7];refine⟨?_,rfl⟩;rcases hp with⟨h5,_⟩|⟨_,h6⟩
        . rw[h5,dx K7]at H;exact absurd H.symm (wG (by have:=h.d0 a;omega))
        . exact h6
      . rw[H]at K7;simp at K7
    . split;. trivial
      . exact old k
  . have e:t≠i:=λe=>O 0 (by rw[zk,e];exact List.mem_append_right _ (bC hf));rw[bY e];refine h.free t ht λk hk=>?_;by_cases e0:k=0;. subst e0;exact O 0 (by rw[zk];exact List.mem_append_left _ hk)
    . by_cases e1:k=i+1;. subst e1;exact O 0 (by rw[zk];exact List.mem_append_right _ hk)
      . exact O k (by unfold spl;rw[if_neg e0,if_neg e1];exact hk)
  . obtain⟨e,ab⟩:=hm0 m hm;rw[CO G e];exact h.first m ab
  . have e:m≠i:=λe=>by rw[e,Ey]at hm;simp at hm
    rw[CO G e]at hm;exact h.same m t hm
  . obtain⟨e,ab⟩:=hm0 m hm;rw[CO G e,bY e,xp];exact h.mast m ab
  . obtain⟨e,ab⟩:=hm0 m hm;obtain⟨e',ZN⟩:=hm0 m' LN;rw[bY e]at H;rw[bY e']at Y;exact h.one m m' ab ZN he H Y
  . rw[xp];rcases h.loc v LB with H|⟨m,H,Y,h5⟩
    . exact .inl H
    . have e:m≠i:=λe=>by rw[e]at Y;omega
      exact .inr ⟨m,by rw[CO G e];exact H,by rw[bY e];exact Y,h5⟩
  . rw[zk]at ht;by_cases h0:G 0=[]
    . rw[h0,List.nil_append,hf]at ht;injection ht with ht;subst ht;rw[LZ];rcases hp with⟨_,h5⟩|⟨h5,h6⟩
      . exact .inr (.inl h5)
      . refine .inl ⟨h6,?_⟩;rw[ha];rcases h.tail with⟨_,Y⟩|⟨_,Y|Y⟩
        . exact absurd h0 Y
        . exact absurd Y h5
        . exact Y
    . have NG:(G 0).head? =some t:=by
        cases hg:G 0 with
        | nil=>exact absurd hg h0
        | cons a l=>rw[hg]at ht;simpa using ht
      rw[bY (λe:t=i=>q2 (by rw[<-e];exact NG))];exact h.front t NG
  . rw[zk,EO _ Le];exact .inl ⟨by rw[kX _ E'];exact hc,by simp[E']⟩
def AQ(h:i<D.length)(x:Int)(t:Nat):dv (D.set i x) t=if i=t then x else dv D t:=by
 unfold dv;by_cases e:i=t;.subst e;rw[ij _ _ _ h,if_pos rfl]
 .rw[dh _ _ _ e,if_neg e]
def mF{l:List Nat}(h:∀t∈l,dv D' t=dv D t):eF D' l=eF D l:=by
 unfold eF;cases H:l.getLast? with
 |none=>rfl
 |some t=>simp only;rw[h t (List.mem_of_getLast? H)]
def HIv.s11(h:HIv nd n node W D S G)(hi:i<n)(hf:(G 0).head? =some i)(hp:p'.pc=0)(x:Int)(hx:x=dv D i+1):HIv nd n node (W.set (1+nd+i) x) (D.set i (dv D i+1)) (S.set i p') (upd G 0 (G 0).tail):=by
  have hm0:=bC hf;have Le:1+nd+i<W.length:=by rw[h.wl];omega
  have Oj:i<D.length:=by have:=h.dl;omega
  have LZ:=py (S:=S) (i:=i) (p':=p') ahY;have NX:i∉(G 0).tail:=iu (h.nod 0) hf;have Sj:∀k,k≠0->i∉G k:=λk hk hm=>hk (h.dj _ _ _ hm hm0)
  have Su:∀k,i∉(G k).tail:=λk hm=>by
    by_cases e:k=0;. subst e;exact NX hm
    . exact Sj k e (List.mem_of_mem_tail hm)
  have Ws:∀v,v<nd->lc (W.set (1+nd+i) x) v=lc W v:=λv O=>dh _ _ _ ahp;have ad:tl (W.set (1+nd+i) x)=tl W:=dh _ _ _ ahp
  have al:∀t,tnw nd (W.set (1+nd+i) x) t=if i=t then x else tnw nd W t:=λt=>by
    unfold tnw;by_cases e:i=t;. subst e;rw[ij _ _ _ Le,if_pos rfl]
    . rw[dh _ _ _ ahp,if_neg e]
  have QV:=AQ Oj (dv D i+1);have M':∀t,t≠i->dv (D.set i (dv D i+1)) t=dv D t:=λt e=>by rw[QV,if_neg (λh=>e h.symm)]
  have MO:∀t,dv D t<=dv (D.set i (dv D i+1)) t:=λt=>by rw[QV];split<;>(try subst_vars)<;>omega
  have hu:∀k,k≠0->upd G 0 (G 0).tail k=G k:=λk e=>pH G _ e
  have PC:∀k t,t∈upd G 0 (G 0).tail k->t∈G k/\t≠i:=λk t hm=>by
    by_cases e:k=0;. subst e;rw[cl]at hm;exact⟨List.mem_of_mem_tail hm,λe=>NX (e ▸ hm)⟩
    . rw[hu k e]at hm;exact⟨hm,λe'=>Sj k e (e' ▸ hm)⟩
  have Zf:∀k,Lks (HLk D S) (upd G 0 (G 0).tail k):=λk=>by
    by_cases e:k=0;. subst e;rw[cl];exact(h.lk 0).tail
    . rw[hu k e];exact h.lk k
  have Sr:∀m,G (m+1)≠[]->m≠i:=λm hm e=>by subst e;exact Sj _ ahp (bC (h.first m hm))
  have F':∀k,k≠0->eF (D.set i (dv D i+1)) (G k)=eF D (G k):=λk e=>mF λt H=>M' t λe'=>Sj k e (e' ▸ H);refine⟨by simp[h.wl],by simp[h.sl],by simpa using h.dl,h.n32,h.nn,λt H=>?_,λt=>?_,λk=>?_,λk k' t ab Kk=>?_,λk t hm=>?_,λk=>?_,λt H ab=>?_,λm hm=>?_,λm t hm=>?_,λm hm=>?_,λm m' hm LN he Y V=>?_,λv LB=>?_,λt H=>?_,?_⟩
  . rw[al,QV,hx];split;. rfl
    . exact h.tw t H
  . have:=MO t;have:=h.d0 t;omega
  . by_cases e:k=0;. subst e;rw[cl];exact(h.nod 0).sublist (List.tail_sublist _)
    . rw[hu k e];exact h.nod k
  . exact h.dj k k' t (PC k t ab).1 (PC k' t Kk).1
  . exact h.lt k t (PC k t hm).1
  . refine(Zf k).mono λa b ha I Ke=>?_;have e1:=(PC k a ha).2;have e2:=(PC k b (List.mem_of_mem_tail I)).2;unfold HLk;rw[bY e2,M' a e1];exact Ke
  . by_cases e:t=i;. subst e;rw[LZ];exact .inl hp
    . rw[bY e];refine h.free t H λk hk=>ab k ?_;by_cases e2:k=0
      . subst e2;rw[cl];rcases Cf hk with V|V
        . rw[hf]at V;injection V with V;exact absurd V.symm e
        . exact V
      . rw[hu k e2];exact hk
  . rw[hu _ ahp]at hm ⊢;exact h.first m hm
  . rw[hu _ ahp]at hm;exact h.same m t hm
  . rw[hu _ ahp]at hm ⊢;have e:=Sr m hm;rw[bY e,Ws _ (h.nn m (h.lt _ _ (bC (h.first m hm)))),F' _ ahp];exact h.mast m hm
  . rw[hu _ ahp]at hm LN;rw[bY (Sr m hm)]at Y;rw[bY (Sr m' LN)]at V;exact h.one m m' hm LN he Y V
  . rw[Ws v LB];rcases h.loc v LB with Y|⟨m,Y,V,h4⟩
    . exact .inl Y
    . exact .inr ⟨m,by rw[hu _ ahp];exact Y,by rw[bY (Sr m Y)];exact V,h4⟩
  . rw[cl]at H;have Rk:=bC H;have e:t≠i:=λe=>NX (e ▸ Rk);rw[bY e];obtain⟨h5,p,Z3,Ot⟩:=h.notail Rk;refine .inl ⟨h5,?_⟩
    have Z2:p=i:=by
      have hc:=h.lk 0;cases hg:G 0 with
      | nil=>rw[hg]at H;simp at H
      | cons a l=>rw[hg]at hc hf H;simp at hf H;subst hf;have:=(hc.1 t H).2;rw[Ot]at this;exact(EP (by have:=h.lt 0 p Z3;have:=h.n32;omega) (by have:=h.n32;omega) this).1
    subst Z2;exact⟨p,dv D p+1,hi,by have:=h.d0 p;omega,by rw[QV,if_pos rfl];exact Int.le_refl _,Ot⟩
  . rw[cl,ad];rcases h.tail with⟨Y,V⟩|⟨Y,V⟩
    . cases hg:G 0 with
      | nil=>exact absurd hg V
      | cons a l=>
        rw[hg]at hf Y;simp at hf;subst hf;cases l with
        | nil=>exact .inr ⟨rfl,.inr ⟨a,dv D a+1,hi,by have:=h.d0 a;omega,by rw[QV,if_pos rfl];exact Int.le_refl _,by rw[Y];exact dx rfl⟩⟩
        | cons b l=>refine .inl ⟨?_,by simp⟩;have e1:eF D (a :: b :: l)=eF D (b :: l):=(by unfold eF;rw[List.getLast?_cons_cons]);rw[Y,e1];refine(mF λt H=>M' t λe=>?_).symm;rw[hg]at NX;exact NX (e ▸ H)
    . rw[Y]at hf;simp at hf
end
end
section
open Go.RowKit
variable{a g:Nat}{D:List Int}{s:Ar}
def ef.put(h:ef w u a f n D)(v:Int):ef (w.setCell ⟨u,3+i,none⟩ (J v)) u a f n (D.set i v):=by
 refine⟨?_,by simp[h.len],h.n32,h.f0⟩;have h1:=h.blk.set_ (3+i) (J v);have e:(tuC a f n D).toArray.setIfInBounds (3+i) (J v)=(tuC a f n (D.set i v)).toArray:=by rw[List.setIfInBounds_toArray];congr 1;unfold tuC;rw[List.set_append_right _ _ ahq];simp[List.map_set]
 rw[e]at h1;exact h1
def ef.drew(h:ef w u a f n D):ef w.drew u a f n D:=h.below ((Below.refl _ _).drew)
def aB.drew(h:aB w a g s):aB w.drew a g s:=h.turns (S:=[]) ((aa.refl _ _).drew) ahq ahq
def Hg(h:aB w a g s)(k:ef w u a f n D)(MR:u≠a)(MT:u≠g)(i:Nat)(hi:i<n)(hd:0<=dv D i/\dv D i<1000000000)(Y:s.ops+1<=1000000000000):E 292 #[↑u,J i] w λe w'=>e= returned (tuple #[])/\aB w' a g (addA s (f+i) 1)/\ef w' u a f n (D.set i (dv D i+1))/\aa [a,g,u] w w':=by
  have Nq:=k.n32;obtain⟨f0,f1⟩:=k.f0;have Ub:i<32:=by omega
  have Mj:(i:Int)<32:=by omega
  have c3:=k.c3 (i:=i) Ub;have z3:=k.blk.free (3+i);have O5:=k.blk.lt;have HH:=qh (DX k i true (decide_eq_true ahp));obtain⟨d,hd1⟩:=LE (dv D i);rw[<-hd1]at c3 hd ⊢;obtain⟨Zk,Zl⟩:=hd;have R4:aB (w.setCell ⟨u,3+i,none⟩ (J (d+1))).drew a g s:=(h.turns (S:=[u]) ((aa.refl _ _).setCell (.inl ahq) _) (by simpa using Ne.symm MR) (by simpa using Ne.symm MT)).drew;have I:ef (w.setCell ⟨u,3+i,none⟩ (J (d+1))).drew u a f n (D.set i (d+1)):=(k.put (i:=i) (d+1)).drew;have WV:aa [a,g,u] w (w.setCell ⟨u,3+i,none⟩ (J (d+1))).drew:=((aa.refl _ _).setCell (.inl ahq) _).drew;have H:=qh (And.intro R4 (And.intro I WV));have HU:=qh (show u∉[a,g]by simp[MR,MT]);clear h k hd1 R4 I WV MR MT;go_enter func292,ntmps292;go_wp2_with fail;refine LT HH.o ?_;go_wp2_with fail;refine wp_region_still_tail 10 ahs ahs ?_;refine aj8 ?_;change wpStill _ _ (World.drew _) _ _ _;repeat still_step
  refine wpStill_nil ?_;change wpList _ _ _ _ _ (World.drew w);go_wp2_with fail;generalize hW:(w.setCell ⟨u,3+i,none⟩ (J (d+1))).drew=W at H ⊢;have s0:=H.o.2.1.c0;have s1:=H.o.2.1.c1;have x1:IntKind.i64.wrap (f+i)=f+i:=IntWalk.i64_in _ ahp;have O:=(λgs (h:aB gs a g s)=>ie h (f+i) 1 Y);obtain⟨r,V⟩:∃r:Int,r=(if inR s.W (f+i)=true then IntKind.i64.wrap (ldW s.W (f+i)+1)else 0):=⟨_,rfl⟩;rw[<-V]at O;have HL:=qh O;clear O V;clear hW c3;refine wp_region_still_tail 10 ahs ahs ?_;refine aj8 ?_;change wpStill _ _ (World.drew _) _ _ _;repeat still_step
  refine wpStill_nil ?_;change wpList _ _ _ _ _ (World.drew W);go_wp2_with fail;refine Pi (HL.o _ H.o.1.drew) λw2 h2=>?_;have H2:=qh (And.intro h2.o.1 (And.intro (H.o.2.1.drew.turns h2.o.2 HU.o) ((H.o.2.2.drew).trans (h2.o.2.mono ahq))));go_wp2;go_end0;exact⟨rfl,H2.o⟩
def JA(h:aB w a g s)(n:Nat)(h1:1<=n)(Y:n<=32)(V:(n:Int)<=(s.room:Int)-s.W.length):E 144 #[↑a,J n] w λe w'=>∃u,e= returned (tuple #[pointer (some ⟨u,0,none⟩),J 0])/\w.heap.size<=u/\aB w' a g {s with W:=s.W++List.replicate n 0}/\ef w' u a (s.W.length+1) n (List.replicate 32 0)/\aa [a] w w':=by
  have MO:=h.le;have Ow:=h.room;have O:Kq (d7 s n=({s with W:=s.W++List.replicate n 0},(s.W.length:Int)+1,(0:Int))):=qh (by unfold d7;rw[if_neg ahp,if_neg ahp];simp);have H:=qh h;have e1:¬(n:Int)<1:=by omega
  have e2:¬32<(n:Int):=by omega
  clear h;go_enter func144,ntmps144;go_wp2_with fail;refine(gh H.o n).mono ?_;rintro en w1 ⟨rfl,k1,t1⟩;rw[O.o]at k1 ⊢;have I:=t1.size;have H1:=qh (And.intro k1 (And.intro t1 I));have J6:(s.W.length:Int)<=4096:=by omega
  clear k1 t1 I;go_wp2;go_ret2;refine⟨w1.heap.size,rfl,H1.o.2.2,H1.o.1.turns (S:=[]) ((aa.refl _ _).alloc _) ahq ahq,⟨?_,by simp,Y,by omega,by omega⟩,(H1.o.2.1).alloc _⟩;have:=Blk.new w1 322 (tuC a (s.W.length+1) n (List.replicate 32 0)).toArray;exact this
end
section
open Go
structure HOk(nd n:Nat)(dl:Int)(node:Nat->Nat)(h:Hc)(N:Nat)(G:Nat->List Nat):Prop where
 iv:HIv nd n node h.ar.W h.D h.S G
 ops:h.ar.ops<=N
 dn:∀t,dv h.D t<=N
 bb:∀t,t<n->(sv h.S t).pc=2->(sv h.S t).b<=dl
structure StH(n:Nat)(node:Nat->Nat)(p p':Sp)(i:Nat)(Q Q':List Nat):Prop where
 row:p.pc=1->p'.pc=5->∃(t:Nat) (d:Int),t<n/\node t=node i/\0<=d/\p'.a=tokH t d
 stay:p.pc≠4->p.pc≠11->Q'=Q
 splice:p.pc=4->(∃r,Q'=Q++i :: r)/\(p'.pc=10->Q=[])
 gone:p.pc=11->Q.head? =some i/\Q'=Q.tail
 enter:p'.pc=10->p.pc≠10->p.pc=4\/(p.pc=5/\Q.head? =some i)
 look:p.pc=5->Q.head? =some i->p'.pc=10
 only:p.pc=1\/p.pc=2\/p.pc=3\/p.pc=4\/p.pc=5\/p.pc=11
 less:p.pc≠5->p'.pc=p.pc->p'.pc=2/\p'.b=p.b-1/\1<=p'.b
 next:p'.pc=p.pc\/(p.pc=1/\(p'.pc=2\/p'.pc=3\/p'.pc=5))\/(p.pc=2/\p'.pc=3)\/(p.pc=3/\p'.pc=4)\/(p.pc=4/\(p'.pc=5\/p'.pc=10))\/(p.pc=5/\p'.pc=10)\/(p.pc=11/\p'.pc=0)
section
variable{dl:Int}{node:Nat->Nat}{h:Hc}
def oE{p:Sp}:ik p=true↔(p.pc=1\/p.pc=2\/p.pc=3\/p.pc=4\/p.pc=5\/p.pc=11):=by unfold ik;simp[or_assoc]
def Hz(s:Ar)(f:Int)(n:Nat)(w:Int):(isA s f n w).W=s.W:=by unfold isA;split<;>simp[aP]
def qV(s:Ar)(f:Int)(n:Nat)(w:Int):(isA s f n w).ops<=s.ops+1:=by unfold isA;split<;>simp[iP]
def HOk.bset(k:HOk nd n dl node h N G)(hi:i<n){p':Sp}(I:p'.pc=2->p'.b<=dl):∀t,t<n->(sv (h.S.set i p') t).pc=2->(sv (h.S.set i p') t).b<=dl:=λt O H=>by
 by_cases e:t=i
 .subst e
  rw[py (by rw[k.iv.sl];exact hi)]at H ⊢
  exact I H
 .rw[bY e]at H ⊢;exact k.bb t O H
def HOk.step(k:HOk nd n dl node h N G)(hN:N<1000000)(hi:i<n)(hg:ik (sv h.S i)=true)(x:Ar×List Int×Sp)(hx:x=bz nd n dl h (node i) i (sv h.S i)):∃G',HOk nd n dl node ⟨x.1,x.2.1,h.S.set i x.2.2⟩ (N+1) G'/\StH n node (sv h.S i) x.2.2 i (G 0) (G' 0):=by
  have O:=k.iv.nn i hi;have KO:=Ic (W:=h.ar.W) (n:=n) k.iv.wl O;have JZ:=λy=>IQ (W:=h.ar.W) (n:=n) k.iv.wl O y;have M':∀t,dv h.D t<=(N+1:Nat):=λt=>by have:=k.dn t;omega
  have MP:∀{s:Ar},s.ops<=h.ar.ops+1->s.ops<=N+1:=λhs=>by have:=k.ops;omega
  rcases oE.1 hg with e|e|e|e|e|e
  . have H:x=(ch h.ar (2+(node i:Int)) (tokH i (dv h.D i+1)),h.D,
      if lc h.ar.W (node i)≠0 then {sv h.S i with a:=lc h.ar.W (node i),pc:=5} else if 0<dl then {sv h.S i with a:=lc h.ar.W (node i),b:=dl,pc:=2} else {sv h.S i with a:=lc h.ar.W (node i),b:=0,pc:=3}):=by
      rw[hx];unfold bz;rw[if_pos e,KO]
    by_cases c:lc h.ar.W (node i)=0
    . have NI:x.2.2=if 0<dl then {sv h.S i with a:=lc h.ar.W (node i),b:=dl,pc:=2} else {sv h.S i with a:=lc h.ar.W (node i),b:=0,pc:=3}:=by rw[H];simp only[c,ne_eq,not_true,if_false]
      have Y:(x.2.2.pc=2/\0<x.2.2.b)\/x.2.2.pc=3:=by
        rw[NI];split;. rename_i Oj;exact .inl ⟨rfl,Oj⟩
        . exact .inr rfl
      have I:x.2.2.pc=2->x.2.2.b<=dl:=by
        rw[NI];split;. intro _;exact Int.le_refl _
        . intro h2;exact absurd h2 (by show ¬(3:Int)=2;decide)
      refine⟨upd G (i+1) [i],⟨?_,by rw[H];exact MP (eU _ _ _),by rw[H];exact M',k.bset hi I⟩,?_⟩;. have:=k.iv.s1a hi e c Y;show HIv nd n node x.1.W x.2.1 _ _;rw[show x.1.W=h.ar.W.set (1+node i) (tokH i (dv h.D i+1))by rw[H];show(ch _ _ _).W=_;rw[dN,JZ],show x.2.1=h.D by rw[H]];exact this
      . have h5:¬x.2.2.pc=5:=(by omega);refine⟨λ_ h=>absurd h h5,λ_ _=>pH _ _ ahp,λh=>by omega,λh=>by omega,λh=>by omega,λh=>by omega,.inl e,λ_ h=>by omega,by omega⟩
    . have NI:x.2.2={sv h.S i with a:=lc h.ar.W (node i),pc:=5}:=(by rw[H];simp only[c,ne_eq,not_false_iff,if_true]);obtain⟨m,t,hm,ht,Su,Ot,Uc⟩:=k.iv.s1b (p':=x.2.2) hi e c (by rw[NI]) (by rw[NI]);have h5:x.2.2.pc=5:=(by rw[NI]);refine⟨upd G (m+1) (G (m+1)++[i]),⟨?_,by rw[H];exact MP (eU _ _ _),by rw[H];exact M',k.bset hi ahp⟩,?_⟩;. show HIv nd n node x.1.W x.2.1 _ _;rw[show x.1.W=h.ar.W.set (1+node i) (tokH i (dv h.D i+1))by rw[H];show(ch _ _ _).W=_;rw[dN,JZ],show x.2.1=h.D by rw[H]];exact Uc
      . exact⟨λ_ _=>⟨t,_,k.iv.lt _ t ht,Su,by have:=k.iv.d0 t;omega,Ot⟩,λ_ _=>pH _ _ ahp,λh=>by omega,λh=>by omega,λh=>by omega,λh=>by omega,.inl e,λ_ h=>by omega,by omega⟩
  . have H:x=(h.ar,h.D,{sv h.S i with b:=(sv h.S i).b-1,pc:=if 0<(sv h.S i).b-1 then 2 else 3}):=by rw[hx];unfold bz;rw[if_neg ahp,if_pos e]
    have Y:(x.2.2.pc=2/\0<x.2.2.b)\/x.2.2.pc=3:=by
      rw[H];show((if _ then(2:Int)else 3)=2/\_)\/(if _ then(2:Int)else 3)=3;split;. rename_i I;exact .inl ⟨rfl,I⟩
      . exact .inr rfl
    have I:x.2.2.b=(sv h.S i).b-1:=(by rw[H]);have:=k.bb i hi e;refine⟨G,⟨?_,by rw[H];exact MP (Nat.le_succ _),by rw[H];exact M',k.bset hi ahp⟩,⟨λh=>by omega,λ_ _=>rfl,λh=>by omega,λh=>by omega,λh=>by omega,λh=>by omega,.inr (.inl e),λ_ h=>by omega,by omega⟩⟩;show HIv nd n node x.1.W x.2.1 _ _;rw[show x.1.W=h.ar.W by rw[H],show x.2.1=h.D by rw[H]];exact k.iv.s2 hi e Y
  . have H:x=(ch h.ar (2+(node i:Int)) 0,h.D,{sv h.S i with c:=lc h.ar.W (node i),pc:=4}):=(by rw[hx];unfold bz;rw[if_neg ahp,if_neg ahp,if_pos e,KO]);have Y:x.2.2.pc=4:=(by rw[H]);refine⟨G,⟨?_,by rw[H];exact MP (eU _ _ _),by rw[H];exact M',k.bset hi ahp⟩,⟨λh=>by omega,λ_ _=>rfl,λh=>by omega,λh=>by omega,λh=>by omega,λh=>by omega,.inr (.inr (.inl e)),λ_ h=>by omega,by omega⟩⟩;show HIv nd n node x.1.W x.2.1 _ _;rw[show x.1.W=h.ar.W.set (1+node i) 0 by rw[H];show(ch _ _ _).W=_;rw[dN,JZ],show x.2.1=h.D by rw[H]];exact k.iv.s3 hi e Y (by rw[H])
  . have H:x=(ch h.ar 1 (sv h.S i).c,h.D,{sv h.S i with a:=tl h.ar.W,pc:=if tl h.ar.W=0 then 10 else 5}):=by rw[hx];unfold bz;rw[if_neg ahp,if_neg ahp,if_neg ahp,if_pos e,FT k.iv.wl]
    have Y:(tl h.ar.W=0/\x.2.2.pc=10)\/(tl h.ar.W≠0/\x.2.2.pc=5):=by
      rw[H];by_cases c:tl h.ar.W=0;. exact .inl ⟨c,by show(if _ then(10:Int)else 5)=10;rw[if_pos c]⟩
      . exact .inr ⟨c,by show(if _ then(10:Int)else 5)=5;rw[if_neg c]⟩
    obtain⟨⟨r,V⟩,he,Uc⟩:=k.iv.s4 (p':=x.2.2) hi e Y (by rw[H]);refine⟨spl G i,⟨?_,by rw[H];exact MP (eU _ _ _),by rw[H];exact M',k.bset hi ahp⟩,⟨λh=>by omega,λh=>by omega,λ_=>⟨⟨r,by rw[zk,V]⟩,he⟩,λh=>by omega,λ_ _=> .inl e,λh=>by omega,.inr (.inr (.inr (.inl e))),λ_ h=>by omega,by omega⟩⟩;show HIv nd n node x.1.W x.2.1 _ _;rw[show x.1.W=h.ar.W.set 0 (sv h.S i).c by rw[H];show(ch _ _ _).W=_;rw[dN,Gw k.iv.wl],show x.2.1=h.D by rw[H]];exact Uc
  . have H:x=(isA h.ar (2+(nd:Int)) n (sv h.S i).a,h.D,{sv h.S i with pc:=if isB h.ar.W (2+(nd:Int)) n (sv h.S i).a then 10 else 5}):=(by rw[hx];unfold bz;rw[if_neg ahp,if_neg ahp,if_neg ahp,if_neg ahp,if_pos e]);have hW:x.1.W=h.ar.W:=(by rw[H];exact Hz _ _ _ _);have hD:x.2.1=h.D:=(by rw[H]);cases c:isB h.ar.W (2+(nd:Int)) n (sv h.S i).a
    . have NI:x.2.2=sv h.S i:=(by rw[H,c];exact Gt e.symm rfl rfl rfl);have ZV:¬(G 0).head? =some i:=λhf=>by rw[k.iv.s5n hf e]at c;cases c
      refine⟨G,⟨?_,by rw[H];exact MP (qV _ _ _ _),by rw[hD];exact M',k.bset hi (by rw[NI];omega)⟩,⟨λh=>by omega,λ_ _=>rfl,λh=>by omega,λh=>by omega,λh=>by rw[NI]at h;omega,λ_ hf=>absurd hf ZV,.inr (.inr (.inr (.inr (.inl e)))),λh=>absurd e h,by rw[NI];exact .inl rfl⟩⟩;show HIv nd n node x.1.W x.2.1 _ _;rw[hW,hD];exact k.iv.same5 hi NI
    . have Y:x.2.2.pc=10:=(by rw[H,c];rfl);have hf:=k.iv.s5 hi e c;refine⟨G,⟨?_,by rw[H];exact MP (qV _ _ _ _),by rw[hD];exact M',k.bset hi ahp⟩,⟨λh=>by omega,λ_ _=>rfl,λh=>by omega,λh=>by omega,λ_ _=> .inr ⟨e,hf⟩,λ_ _=>Y,.inr (.inr (.inr (.inr (.inl e)))),λh=>absurd e h,by omega⟩⟩;show HIv nd n node x.1.W x.2.1 _ _;rw[hW,hD];exact k.iv.atFrontP hi hf (.inl Y)
  . have H:x=(addA h.ar (2+(nd:Int)+i) 1,h.D.set i (dv h.D i+1),{sv h.S i with pc:=0}):=(by rw[hx];unfold bz;rw[if_neg ahp,if_neg ahp,if_neg ahp,if_neg ahp,if_neg ahp]);have Y:x.2.2.pc=0:=(by rw[H]);have hf:=k.iv.atFront hi (.inr e);have Oj:i<h.D.length:=(by have:=k.iv.dl;omega);have hw:IntKind.i64.wrap (ldW h.ar.W (2+(nd:Int)+i)+1)=dv h.D i+1:=(by rw[E2 k.iv.wl hi,k.iv.tw i hi];have:=k.iv.d0 i;have:=k.dn i;exact IntWalk.i64_in _ ahp);refine⟨upd G 0 (G 0).tail,⟨?_,by rw[H];exact MP (jz _ _ _),?_,k.bset hi ahp⟩,⟨λh=>by omega,λ_ h=>by omega,λh=>by omega,λ_=>⟨hf,cl _ _ _⟩,λh=>by omega,λh=>by omega,.inr (.inr (.inr (.inr (.inr e)))),λ_ h=>by omega,by omega⟩⟩;. show HIv nd n node x.1.W x.2.1 _ _;rw[show x.1.W=h.ar.W.set (1+nd+i) (dv h.D i+1)by rw[H];show(addA _ _ _).W=_;rw[dX,hw,IR k.iv.wl hi],show x.2.1=h.D.set i (dv h.D i+1)by rw[H]];exact k.iv.s11 hi hf Y _ rfl
    . rw[H];intro t;show dv (h.D.set i (dv h.D i+1)) t<=_;rw[AQ Oj];have:=k.dn i;split;. omega
      . exact M' t
end
end
section
open Go
structure StA(n:Nat)(node:Nat->Nat)(p p':Sp)(i:Nat)(Q Q':List Nat):Prop where
 row:p.pc=1->p'.pc=5->∃(t:Nat) (d:Int),t<n/\node t=node i/\0<=d/\p'.a=tokH t d
 stay:p.pc≠4->p.pc≠11->Q'=Q
 splice:p.pc=4->(∃r,Q'=Q++i :: r)/\(p'.pc=10->Q=[])
 gone:p.pc=11->Q.head? =some i/\Q'=Q.tail
 enter:p'.pc=10->p.pc≠10->p.pc=4\/(p.pc=5/\Q.head? =some i)
 next:p'.pc=p.pc\/(p.pc=1/\(p'.pc=2\/p'.pc=3\/p'.pc=5))\/(p.pc=2/\p'.pc=3)\/(p.pc=3/\p'.pc=4)\/(p.pc=4/\(p'.pc=5\/p'.pc=10))\/(p.pc=5/\p'.pc=10)\/(p.pc=11/\p'.pc=0)\/(p.pc=0/\p'.pc=1)\/(p.pc=10/\p'.pc=11)
def GM(n:Nat)(node:Nat->Nat)(S S':List Sp)(ho:Int)(Q Q':List Nat):Prop:=
 (S'=S/\Q'=Q)\/∃(j:Nat) (p':Sp),j<n/\ho=j/\S'=S.set j p'/\StA n node (sv S j) p' j Q Q'
def zV(nd n:Nat)(dl:Int)(node:Nat->Nat)(h:Hc)(k i:Int):Hc×Bool:=
 if k=0 then fu nd n dl node h i else if k=1 then bv h i 0 1 else if k=2 then bv h i 10 11 else(h,false)
section
variable{dl:Int}{node:Nat->Nat}{h:Hc}
def fb{S:List Sp}(h:j<S.length):getS S (j:Int)=sv S j:=by unfold getS;rw[if_pos ahp];rfl
def HOk.le(k:HOk nd n dl node h N G){M:Nat}(H:N<=M):HOk nd n dl node h M G:=⟨k.iv,by have:=k.ops;omega,λt=>by have:=k.dn t;omega,k.bb⟩
def HOk.stepI(k:HOk nd n dl node h N G)(hN:N<1000000)(H:Int):∃I,HOk nd n dl node (fu nd n dl node h H).1 (N+1) I/\(((fu nd n dl node h H).1=h/\I=G/\¬(okI h.S H/\ik (getS h.S H)=true))\/∃(j:Nat) (p':Sp),j<n/\H=j/\(fu nd n dl node h H).1.S=h.S.set j p'/\StH n node (sv h.S j) p' j (G 0) (I 0))/\(fu nd n dl node h H).1.ar.ops<=h.ar.ops+1:=by
 unfold fu;by_cases c:okI h.S H/\ik (getS h.S H)=true
 .rw[if_pos c];obtain⟨⟨Y,h1⟩,hg⟩:=c;obtain⟨j,rfl⟩:=Int.eq_ofNat_of_zero_le Y;have V:j<h.S.length:=by omega
  have O:j<n:=by rw[<-k.iv.sl];exact V
  rw[fb V]at hg ⊢;simp only[Int.toNat_natCast];obtain⟨I,k',s'⟩:=k.step hN O hg _ rfl;refine⟨I,k',.inr ⟨j,_,O,rfl,rfl,s'⟩,?_⟩;unfold bz;repeat' split
  all_goals first
   |exact eU _ _ _
   |exact qV _ _ _ _
   |exact jz _ _ _
   |exact Nat.le_succ _
 .rw[if_neg c];exact⟨G,k.le ahp,.inl ⟨rfl,rfl,c⟩,Nat.le_succ _⟩
def HOk.beginI(k:HOk nd n dl node h N G)(H f u:Int)(V:(f=0/\u=1)\/(f=10/\u=11)):HOk nd n dl node (bv h H f u).1 N G/\(((bv h H f u).1=h/\¬(okI h.S H/\(getS h.S H).pc=f))\/∃(j:Nat),j<n/\H=j/\(sv h.S j).pc=f/\(bv h H f u).1.S=h.S.set j {sv h.S j with pc:=u})/\(bv h H f u).1.ar=h.ar:=by
 unfold bv;by_cases c:okI h.S H/\(getS h.S H).pc=f
 .rw[if_pos c];obtain⟨⟨Y,h1⟩,hg⟩:=c;obtain⟨j,rfl⟩:=Int.eq_ofNat_of_zero_le Y;have O:j<h.S.length:=by omega
  have I:j<n:=by rw[<-k.iv.sl];exact O
  rw[fb O]at hg ⊢;simp only[Int.toNat_natCast];refine⟨⟨?_,k.ops,k.dn,k.bset I (by show u=2->_;omega)⟩,.inr ⟨j,I,rfl,hg,rfl⟩,by trivial⟩;rcases V with⟨rfl,rfl⟩|⟨rfl,rfl⟩
  .exact k.iv.ask I hg rfl
  .exact k.iv.atFrontP I (k.iv.atFront I (.inl hg)) (.inr rfl)
 .rw[if_neg c];exact⟨k,.inl ⟨rfl,c⟩,rfl⟩
def HOk.act(k:HOk nd n dl node h N G)(hN:N<1000000)(K H:Int):∃I,HOk nd n dl node (zV nd n dl node h K H).1 (N+1) I/\GM n node h.S (zV nd n dl node h K H).1.S H (G 0) (I 0)/\(zV nd n dl node h K H).1.ar.ops<=h.ar.ops+1/\(K≠0->(zV nd n dl node h K H).1.ar.ops=h.ar.ops):=by
 unfold zV;by_cases c0:K=0
 .rw[if_pos c0];obtain⟨I,k',hs,Y⟩:=k.stepI hN H;refine⟨I,k',?_,Y,λh=>absurd c0 h⟩;rcases hs with⟨h1,O,_⟩|⟨j,p',h1,O,V,s⟩
  .exact .inl ⟨by rw[h1],by rw[O]⟩
  .refine .inr ⟨j,p',h1,O,V,s.row,s.stay,s.splice,s.gone,s.enter,?_⟩;rcases s.next with h|h|h|h|h|h|h
   .exact .inl h
   .exact .inr (.inl h)
   .exact .inr (.inr (.inl h))
   .exact .inr (.inr (.inr (.inl h)))
   .exact .inr (.inr (.inr (.inr (.inl h))))
   .exact .inr (.inr (.inr (.inr (.inr (.inl h)))))
   .exact .inr (.inr (.inr (.inr (.inr (.inr (.inl h))))))
 .rw[if_neg c0]
  have Og:∀f u:Int,(f=0/\u=1)\/(f=10/\u=11)->∃I,HOk nd n dl node (bv h H f u).1 (N+1) I/\GM n node h.S (bv h H f u).1.S H (G 0) (I 0)/\(bv h H f u).1.ar.ops<=h.ar.ops+1/\(K≠0->(bv h H f u).1.ar.ops=h.ar.ops):=λf u Si=>by
   obtain⟨k',hs,ha⟩:=k.beginI H f u Si;refine⟨G,k'.le ahp,?_,by rw[ha];exact Nat.le_succ _,λ_=>by rw[ha]⟩;rcases hs with⟨h1,_⟩|⟨j,h1,O,V,h4⟩
   .exact .inl ⟨by rw[h1],rfl⟩
   .refine .inr ⟨j,_,h1,O,h4,⟨λh=>?_,λ_ _=>rfl,λh=>?_,λh=>?_,λh=>?_,?_⟩⟩;.omega
    .omega
    .omega
    .intro _;exfalso;have:u=10:=h;omega
    .rcases Si with⟨rfl,rfl⟩|⟨rfl,rfl⟩
     .exact .inr (.inr (.inr (.inr (.inr (.inr (.inr (.inl ⟨V,rfl⟩)))))))
     .exact .inr (.inr (.inr (.inr (.inr (.inr (.inr (.inr ⟨V,rfl⟩)))))))
  by_cases c1:K=1;.rw[if_pos c1];exact Og 0 1 (.inl ⟨rfl,rfl⟩)
  .rw[if_neg c1];by_cases c2:K=2;.rw[if_pos c2];exact Og 10 11 (.inr ⟨rfl,rfl⟩)
   .rw[if_neg c2];exact⟨G,k.le ahp,.inl ⟨rfl,rfl⟩,Nat.le_succ _,λ_=>rfl⟩
def HOk.hold1(k:HOk nd n dl node h N G){a:Nat}(Y:a<n)(I:b<n)(h1:(sv h.S a).pc=10)(V:(sv h.S b).pc=10):a=b:=by have O:=k.iv.atFront Y (.inl h1);have H:=k.iv.atFront I (.inl V);rw[O]at H;injection H
end
section
variable{Q r:List Nat}{k x:Nat}
end
section
variable{dl:Int}{node:Nat->Nat}{h h':Hc}{G':Nat->List Nat}{P:Nat->Nat->Int}
end
end
section
open Go
section
variable{f:Sp->Nat}{S:List Sp}{p':Sp}
end
section
variable{dl:Int}{node:Nat->Nat}{h:Hc}
end
end
section
open Go
def iL{α:Type}(a:α)(n i:Nat):(List.replicate n a).getD i a=a:=by exact aa6
def rJ(n i:Nat):sv (List.replicate n Sp.zero) i=Sp.zero:=iL _ _ _
section
variable{dl:Int}{node:Nat->Nat}{h:Hc}
def HOk.start(s:Ar)(I:n<=32)(O:∀t,t<n->node t<nd)(hs:s.ops=0)(H:s.W=List.replicate (1+nd+n) 0):HOk nd n dl node ⟨s,List.replicate 32 0,List.replicate n Sp.zero⟩ 0 λ_=>[]:=by
  have z:∀t,(sv (List.replicate n Sp.zero) t).pc=0:=λt=>by rw[rJ];rfl
  have d:∀t,dv (List.replicate 32 0) t=0:=λt=>iL _ _ _;refine⟨⟨?_,?_,?_,I,O,?_,?_,?_,?_,?_,?_,?_,?_,?_,?_,?_,?_,?_,?_⟩,by show s.ops<=0;omega,λt=>by rw[d];exact Int.le_refl _,λt _ V=>?_⟩;. rw[H];simp
  . simp
  . simpa using I
  . intro t _;show tnw nd s.W t=_;rw[H,d];exact iL _ _ _
  . intro t;show 0<=dv (List.replicate 32 0) t;rw[d];exact Int.le_refl _
  . intro _;exact List.nodup_nil
  . intro _ _ t h1;cases h1
  . intro _ t h1;cases h1
  . intro _;trivial
  . intro t _ _;exact .inl (z t)
  . intro m hm;exact absurd rfl hm
  . intro _ t h1;cases h1
  . intro m hm;exact absurd rfl hm
  . intro m _ hm;exact absurd rfl hm
  . intro v _;refine .inl ?_;rw[H];exact iL _ _ _
  . intro t h1;cases h1
  . refine .inr ⟨rfl,.inl ?_⟩;rw[H];exact iL _ _ _
  . have:=z t;have Y:(sv (List.replicate n Sp.zero) t).pc=2:=V;omega
end
end
section
open Go
structure Wk where
 node:Int
 way:Bool
 passed:Int
 last:Int
 found:Int
structure Cn where
 ar:Ar
 wk:Wk
 S:List Sp
def dQ(n:Nat)(node:Nat->Int)(w:Wk)(x:Int):Wk:=
 if ¬(1<=x/\x<=n)\/w.passed=n then {w with way:=false}
 else if node (x-1).toNat=w.node then {w with way:=false,found:=x}
 else {w with way:=true,last:=x,passed:=w.passed+1}
def gN(n:Nat)(node:Nat->Int)(w:Wk)(x v:Int):Wk:=dQ n node {w with node:=v,passed:=0,last:=0,found:=0} x
def cN(x:Int):Int:=3*x
def cS(x:Int):Int:=3*x+1
def cL(x:Int):Int:=3*x+2
def inC(s:Ar)(x:Int)(p:Sp):Ar×Sp:=
 if p.pc=1 then(ae s (cN x) 0,{p with pc:=2})
 else if p.pc=2 then(ae s (cS x) 0,{p with pc:=3})
 else if p.pc=3 then(ch s 1 x,{p with a:=ldW s.W 1,pc:=if ldW s.W 1=0 then 6 else 4})
 else if p.pc=4 then(ae s (cN p.a) x,{p with pc:=5})
 else if p.pc=5 then(af s (cS x),{p with a:=ldW s.W (cS x),pc:=if ldW s.W (cS x)≠0 then 10 else 5})
 else(ae s (cS x) (-1),{p with pc:=10})
def kx(s:Ar)(x:Int)(p:Sp):Ar×Sp:=
 if p.pc=11 then(af s (cS x),{p with b:=ldW s.W (cS x),pc:=12})
 else if p.pc=12 then(af s (cN x),{p with a:=ldW s.W (cN x),pc:=if ldW s.W (cN x)≠0 then 17 else if 0<p.b then 14 else 13})
 else if p.pc=13 then(dU s 1 x 0,{p with pc:=if cB s 1 x then 0 else 16})
 else if p.pc=14 then(af s (cL p.b),{p with c:=ldW s.W (cL p.b),pc:=15})
 else if p.pc=15 then(dU s 1 x p.c,{p with pc:=if cB s 1 x then 28 else 16})
 else(af s (cN x),{p with a:=ldW s.W (cN x),pc:=if ldW s.W (cN x)≠0 then 17 else 16})
def eK(p:Sp):Sp:={p with pc:=if 0<p.b then 25 else 29}
def oJ(n:Nat)(node:Nat->Int)(bud:Int)(s:Ar)(w:Wk)(i:Nat)(p:Sp):Ar×Wk×Sp:=
 if p.pc=18 then
  if w.way then
   (af s (cN w.last),dQ n node w (ldW s.W (cN w.last)),
    if (dQ n node w (ldW s.W (cN w.last))).way then {p with pc:=18} else if (dQ n node w (ldW s.W (cN w.last))).found≠0 then {p with pc:=19} else eK p)
  else(s,w,{p with pc:=18})
 else if bud<=ldW s.W 2 then(af s 2,w,eK {p with c:=ldW s.W 2})
 else(af s 2,gN n node w p.a (node i),{p with c:=ldW s.W 2,pc:=if (gN n node w p.a (node i)).way then 18 else 23})
def ew(s:Ar)(w:Wk)(p:Sp):Ar×Sp:=
 if p.pc=19 then(ae s (cN w.last) 0,if 0<p.b then {p with pc:=20} else {p with b:=p.a,pc:=22})
 else if p.pc=20 then(af s (cL p.b),{p with c:=ldW s.W (cL p.b),pc:=21})
 else if p.pc=25 then(af s (cL p.b),{p with c:=ldW s.W (cL p.b),pc:=26})
 else if p.pc=21 then(ae s (cN p.c) p.a,{p with pc:=22})
 else if p.pc=26 then(ae s (cN p.c) p.a,{p with pc:=27})
 else if p.pc=22 then(ae s (cL p.b) w.last,{p with a:=w.found,pc:=23})
 else if p.pc=23 then(addA s 2 1,{p with pc:=24})
 else if p.pc=24 then(ae s (cS p.a) p.b,{p with pc:=0})
 else if p.pc=27 then(ae s 2 0,{p with pc:=28})
 else if p.pc=29 then(ae s 2 0,{p with pc:=30})
 else if p.pc=28 then(ae s (cS p.b) (-1),{p with pc:=0})
 else(ae s (cS p.a) (-1),{p with pc:=0})
def ah(n:Nat)(node:Nat->Int)(bud:Int)(h:Cn)(i:Nat)(p:Sp):Ar×Wk×Sp:=
 if p.pc<10 then((inC h.ar (i+1) p).1,h.wk,(inC h.ar (i+1) p).2)
 else if p.pc<=16 then((kx h.ar (i+1) p).1,h.wk,(kx h.ar (i+1) p).2)
 else if p.pc<=18 then oJ n node bud h.ar h.wk i p
 else((ew h.ar h.wk p).1,h.wk,(ew h.ar h.wk p).2)
def hJ(n:Nat)(node:Nat->Int)(bud:Int)(h:Cn)(i:Int):Cn×Bool:=
 if okI h.S i/\(getS h.S i).pc≠0/\(getS h.S i).pc≠10 then
  (⟨(ah n node bud h i.toNat (getS h.S i)).1,(ah n node bud h i.toNat (getS h.S i)).2.1,h.S.set i.toNat (ah n node bud h i.toNat (getS h.S i)).2.2⟩,
   decide ((ah n node bud h i.toNat (getS h.S i)).2.2.pc=0\/(ah n node bud h i.toNat (getS h.S i)).2.2.pc=10))
 else(h,false)
def bZ(h:Cn)(i Kn J3:Int):Cn×Bool:=
 if okI h.S i/\(getS h.S i).pc=Kn then(⟨h.ar,h.wk,h.S.set i.toNat {getS h.S i with pc:=J3}⟩,true)else(h,false)
def num(t:Nat):Int:=(t:Int)+1
section
end
section
variable{l m:List Nat}
end
end
section
open Go.RowKit
def wkC(Kz:Value)(n1 n:Nat)(x:Wk):Array Value:=#[Kz,slice (some ⟨n1,0,none⟩) n n,J x.node,.bool x.way,J x.passed,J x.last,J x.found]
structure cH(w:World)(k n1:Nat)(Kz:Value)(nd:List Int)(x:Wk):Prop where
 blk:Blk w k 324 (wkC Kz n1 nd.length x)
 row:Blk w n1 3 (nd.map (Value.int .i64)).toArray
 ne:k≠n1
 n32:nd.length<=32
def ndf(nd:List Int)(t:Nat):Int:=nd.getD t 0
section
variable{k n1:Nat}{Kz:Value}{nd:List Int}{x:Wk}
def cH.c0(h:cH w k n1 Kz nd x):w.cell? k=some Kz:=h.blk.cell 0
def cH.c1(h:cH w k n1 Kz nd x):Z w k 1 (slice (some ⟨n1,0,none⟩) nd.length nd.length):=h.blk.cell 1
def cH.c2(h:cH w k n1 Kz nd x):Z w k 2 (J x.node):=h.blk.cell 2
def cH.c3(h:cH w k n1 Kz nd x):Z w k 3 (.bool x.way):=h.blk.cell 3
def cH.c4(h:cH w k n1 Kz nd x):Z w k 4 (J x.passed):=h.blk.cell 4
def cH.c5(h:cH w k n1 Kz nd x):Z w k 5 (J x.last):=h.blk.cell 5
def cH.c6(h:cH w k n1 Kz nd x):Z w k 6 (J x.found):=h.blk.cell 6
def cH.nat(h:cH w k n1 Kz nd x)(hm:m<nd.length):Z w n1 m (J (ndf nd m)):=by rw[h.row.cell m];unfold ndf;simp[List.getD_eq_getElem?_getD,List.getElem?_eq_getElem hm]
def cH.turns{S:List Nat}(h:cH w k n1 Kz nd x)(t:aa S w w')(h1:k∉S)(H:n1∉S):cH w' k n1 Kz nd x:=⟨t.blk h.blk h1,t.blk h.row H,h.ne,h.n32⟩
def cH.below(h:cH w k n1 Kz nd x)(t:Below w.heap.size w w'):cH w' k n1 Kz nd x:=h.turns (aa.of_below (S:=[]) t) ahq ahq
def cH.put(h:cH w k n1 Kz nd x){v:Value}{x':Wk}(e:(wkC Kz n1 nd.length x).setIfInBounds i v=wkC Kz n1 nd.length x'):cH (w.setCell ⟨k,i,none⟩ v) k n1 Kz nd x':=by refine⟨?_,h.row.far (λe=>h.ne e.symm) _,h.ne,h.n32⟩;have:=h.blk.set_ i v;exact aa0
def fi{k:Nat}(w:World)(i:Nat)(v:Value):aa [k] w (w.setCell ⟨k,i,none⟩ v):=(aa.refl _ _).setCell (.inl ahq) _
def isW(h:cH w k n1 Kz nd x)(y:Int)(b:Bool)(I:decide (1<=y/\y<=nd.length)=b):E 329 #[↑k,J y] w λe w'=>e= returned (.bool b)/\w=w':=by
 have c1:=h.c1;have HB:=qh I;clear h I;by_cases h1:1<=y;.go_enter func329,ntmps329;go_wp2;go_ret;exact⟨az (by rw[<-HB.o];simp[h1]),rfl⟩
 .go_enter func329,ntmps329;exact aas
def ET(w:World)(k n1:Nat)(Kz:Value)(nd:List Int)(x':Wk)(e:Ending)(w':World):Prop:=e= returned (bool (!x'.way))/\cH w' k n1 Kz nd x'/\aa [k] w w'
def CW(h:cH w k n1 Kz nd x)(V:0<=x.passed/\x.passed<=32)(y:Int):E 327 #[↑k,J y] w (ET w k n1 Kz nd (dQ nd.length (ndf nd) x y)):=by
 have hd:=qh (λm=>h.below (Qt.below ⟨m,rfl⟩ _));obtain⟨Kl,al⟩:=V;have hk:=h.blk.lt;have hn:=h.n32;by_cases h1:1<=y/\y<=nd.length
 .have HI:=qh (λW (h:cH W k n1 Kz nd x)=>isW h y true (decide_eq_true h1));have c1:=h.c1;have c3:=h.c3;have c4:=h.c4;have c5:=h.c5;have c6:=h.c6;have z3:=h.blk.free 3;by_cases H:x.passed=nd.length;.have Y:(x.passed==(nd.length:Int))=true:=(by simpa using H);have HT:Kq (dQ nd.length (ndf nd) x y={x with way:=false}):=qh (by unfold dQ;rw[if_pos (.inr H)]);clear h H;exact abc
  .have Y:(x.passed==(nd.length:Int))=false:=(by simpa using H);obtain⟨ab,ad⟩:=h1;obtain⟨m,rfl⟩:∃m:Nat,y=(m:Int)+1:=⟨(y-1).toNat,by omega⟩;have hm:m<nd.length:=(by omega);have Sm:(m:Int)<(nd.length:Int):=(by omega);have c2:=h.c2;have cn:=h.nat hm;have z4:=h.blk.free 4;have z5:=h.blk.free 5;have z6:=h.blk.free 6;have kn:=h.ne;have x1:IntKind.i64.wrap (x.passed+1)=x.passed+1:=IntWalk.i64_in _ ahp;by_cases I:ndf nd m=x.node;.have t5:(ndf nd m==x.node)=true:=(by simpa using I);have HT:Kq (dQ nd.length (ndf nd) x ((m:Int)+1)={x with way:=false,found:=(m:Int)+1}):=qh (by unfold dQ;rw[if_neg ahp,if_pos (by rw[show((m:Int)+1-1).toNat=m by omega];exact I)]);have O:=qh h;clear h H I;go_enter func327,ntmps327;go_wp2_with fail;go_quiet ((go_at_call 329;exact bV (HI.o _ (hd.o _))));go_wp2;go_quiet (fail);go_wp2;go_ret;rw[HT.o];refine⟨rfl,?_,((aa.of_qt ⟨_,rfl⟩).trans (fi _ _ _)).trans (fi _ _ _)⟩;exact(cH.put (x':={x with way:=false}) (hd.o _) rfl).put rfl
   .have t5:(ndf nd m==x.node)=false:=(by simpa using I);have HT:Kq (dQ nd.length (ndf nd) x ((m:Int)+1)={x with way:=true,last:=(m:Int)+1,passed:=x.passed+1}):=qh (by unfold dQ;rw[if_neg ahp,if_neg (by rw[show((m:Int)+1-1).toNat=m by omega];exact I)]);have O:=qh h;clear h H I;go_enter func327,ntmps327;go_wp2_with fail;go_quiet ((go_at_call 329;exact bV (HI.o _ (hd.o _))));go_wp2;go_quiet (fail);go_wp2;go_ret;rw[HT.o];refine⟨rfl,?_,(((aa.of_qt ⟨_,rfl⟩).trans (fi _ _ _)).trans (fi _ _ _)).trans (fi _ _ _)⟩;exact(cH.put (x':={x with way:=true,last:=(m:Int)+1}) (cH.put (x':={x with way:=true}) (hd.o _) rfl) rfl).put rfl
 .have HI:=qh (λW (h:cH W k n1 Kz nd x)=>isW h y false (decide_eq_false h1));have c3:=h.c3;have z3:=h.blk.free 3;have HT:Kq (dQ nd.length (ndf nd) x y={x with way:=false}):=qh (by unfold dQ;rw[if_pos (.inl h1)]);clear h h1;exact abc
def Dh(h:cH w k n1 Kz nd x)(y v:Int):E 323 #[↑k,J y,J v] w (ET w k n1 Kz nd (gN nd.length (ndf nd) x y v)):=by have k1:cH (w.setCell ⟨k,2,none⟩ (J v)) k n1 Kz nd {x with node:=v}:=h.put rfl;have k2:cH _ k n1 Kz nd {x with node:=v,passed:=0}:=k1.put (i:=4) (v:= J 0) rfl;have k3:cH _ k n1 Kz nd {x with node:=v,passed:=0,last:=0}:=k2.put (i:=5) (v:= J 0) rfl;have k4:cH _ k n1 Kz nd {x with node:=v,passed:=0,last:=0,found:=0}:=k3.put (i:=6) (v:= J 0) rfl;have H:=qh k4;have O:=h.blk.free 2;have V:=h.blk.free 4;have Y:=h.blk.free 5;have z6:=h.blk.free 6;have I:=h.blk.lt;have c2:=h.c2;have c4:=h.c4;have c5:=h.c5;have c6:=h.c6;clear h k1 k2 k3 k4;go_enter func323,ntmps323;go_wp2_with fail;refine Pi (CW H.o ⟨Int.le_refl _,by show(0:Int)<=32;decide⟩ y) λw1 h1=>?_;have H1:=qh (And.intro h1.o.1 ((((fi (k:=k) w 2 (J v)).trans (fi _ 4 (J 0))).trans (fi _ 5 (J 0))).trans (fi _ 6 (J 0)) |>.trans h1.o.2));exact abd
def IM(h:cH w k n1 Kz nd x):E 328 #[↑k] w λe w'=>e= returned (bool (!x.way))/\w=w':=by have c3:=h.c3;clear h;go_enter func328,ntmps328;exact aab
def qQ(h:cH w k n1 Kz nd x):E 325 #[↑k] w λe w'=>e= returned (J x.found)/\w=w':=by have c3:=h.c6;clear h;go_enter func325,ntmps325;exact aab
def vf(h:cH w k n1 Kz nd x):E 326 #[↑k] w λe w'=>e= returned (J x.last)/\w=w':=by have c3:=h.c5;clear h;go_enter func326,ntmps326;exact aab
end
end
section
open Go
section
variable{node:Nat->Int}{w w':Wk}{S:List Sp}{p':Sp}
end
end
section
open Go
section
variable{node:Nat->Int}{s:Cn}{p:Sp}
def JJ(e:p.pc=1):ah n node bud s i p=(ae s.ar (cN (num i)) 0,s.wk,{p with pc:=2}):=by simp[ah,inC,e,num]
def JK(e:p.pc=2):ah n node bud s i p=(ae s.ar (cS (num i)) 0,s.wk,{p with pc:=3}):=by simp[ah,inC,e,num]
def JL(e:p.pc=3):ah n node bud s i p=(ch s.ar 1 (num i),s.wk,{p with a:=ldW s.ar.W 1,pc:=if ldW s.ar.W 1=0 then 6 else 4}):=by simp[ah,inC,e,num]
def JM(e:p.pc=4):ah n node bud s i p=(ae s.ar (cN p.a) (num i),s.wk,{p with pc:=5}):=by simp[ah,inC,e,num]
def JN(e:p.pc=5):ah n node bud s i p=(af s.ar (cS (num i)),s.wk,{p with a:=ldW s.ar.W (cS (num i)),pc:=if ldW s.ar.W (cS (num i))≠0 then 10 else 5}):=by simp[ah,inC,e,num];by_cases hc:ldW s.ar.W (cS ((i:Int)+1))=0<;>simp[hc]
def JO(e:p.pc=6):ah n node bud s i p=(ae s.ar (cS (num i)) (-1),s.wk,{p with pc:=10}):=by simp[ah,inC,e,num]
end
end
section
open Go
section
variable{node:Nat->Int}{s:Cn}{A' R':List Nat}{p:Sp}
def IU(e:p.pc=11):ah n node bud s i p=(af s.ar (cS (num i)),s.wk,{p with b:=ldW s.ar.W (cS (num i)),pc:=12}):=by simp[ah,kx,e,num]
def IV(e:p.pc=12):ah n node bud s i p=(af s.ar (cN (num i)),s.wk,{p with a:=ldW s.ar.W (cN (num i)),pc:=if ldW s.ar.W (cN (num i))≠0 then 17 else if 0<p.b then 14 else 13}):=by by_cases hc:ldW s.ar.W (cN ((i:Int)+1))=0<;>simp[ah,kx,e,num,hc]
def IW(e:p.pc=13):ah n node bud s i p=(dU s.ar 1 (num i) 0,s.wk,{p with pc:=if cB s.ar 1 (num i)then 0 else 16}):=by cases hc:cB s.ar 1 ((i:Int)+1)<;>simp[ah,kx,e,num,hc]
def IX(e:p.pc=14):ah n node bud s i p=(af s.ar (cL p.b),s.wk,{p with c:=ldW s.ar.W (cL p.b),pc:=15}):=by simp[ah,kx,e]
def IY(e:p.pc=15):ah n node bud s i p=(dU s.ar 1 (num i) p.c,s.wk,{p with pc:=if cB s.ar 1 (num i)then 28 else 16}):=by cases hc:cB s.ar 1 ((i:Int)+1)<;>simp[ah,kx,e,num,hc]
def IZ(e:p.pc=16):ah n node bud s i p=(af s.ar (cN (num i)),s.wk,{p with a:=ldW s.ar.W (cN (num i)),pc:=if ldW s.ar.W (cN (num i))≠0 then 17 else 16}):=by by_cases hc:ldW s.ar.W (cN ((i:Int)+1))=0<;>simp[ah,kx,e,num,hc]
def I0(e:p.pc=17):ah n node bud s i p=if bud<=ldW s.ar.W 2 then(af s.ar 2,s.wk,eK {p with c:=ldW s.ar.W 2})else(af s.ar 2,gN n node s.wk p.a (node i),{p with c:=ldW s.ar.W 2,pc:=if (gN n node s.wk p.a (node i)).way then 18 else 23}):=by simp[ah,oJ,e]
def I1(e:p.pc=18)(hw:s.wk.way=true):ah n node bud s i p=(af s.ar (cN s.wk.last),dQ n node s.wk (ldW s.ar.W (cN s.wk.last)),
        if (dQ n node s.wk (ldW s.ar.W (cN s.wk.last))).way then {p with pc:=18} else if (dQ n node s.wk (ldW s.ar.W (cN s.wk.last))).found≠0 then {p with pc:=19} else eK p):=by simp[ah,oJ,e,hw]
def E7(e:p.pc=19):ah n node bud s i p=(ae s.ar (cN s.wk.last) 0,s.wk,if 0<p.b then {p with pc:=20} else {p with b:=p.a,pc:=22}):=by simp[ah,ew,e]
def I2(e:p.pc=20):ah n node bud s i p=(af s.ar (cL p.b),s.wk,{p with c:=ldW s.ar.W (cL p.b),pc:=21}):=by simp[ah,ew,e]
def I3(e:p.pc=21):ah n node bud s i p=(ae s.ar (cN p.c) p.a,s.wk,{p with pc:=22}):=by simp[ah,ew,e]
def I4(e:p.pc=22):ah n node bud s i p=(ae s.ar (cL p.b) s.wk.last,s.wk,{p with a:=s.wk.found,pc:=23}):=by simp[ah,ew,e]
def I5(e:p.pc=23):ah n node bud s i p=(addA s.ar 2 1,s.wk,{p with pc:=24}):=by simp[ah,ew,e]
def I6(e:p.pc=24):ah n node bud s i p=(ae s.ar (cS p.a) p.b,s.wk,{p with pc:=0}):=by simp[ah,ew,e]
def I7(e:p.pc=25):ah n node bud s i p=(af s.ar (cL p.b),s.wk,{p with c:=ldW s.ar.W (cL p.b),pc:=26}):=by simp[ah,ew,e]
def I8(e:p.pc=26):ah n node bud s i p=(ae s.ar (cN p.c) p.a,s.wk,{p with pc:=27}):=by simp[ah,ew,e]
def I9(e:p.pc=27):ah n node bud s i p=(ae s.ar 2 0,s.wk,{p with pc:=28}):=by simp[ah,ew,e]
def Ja(e:p.pc=28):ah n node bud s i p=(ae s.ar (cS p.b) (-1),s.wk,{p with pc:=0}):=by simp[ah,ew,e]
def Jb(e:p.pc=29):ah n node bud s i p=(ae s.ar 2 0,s.wk,{p with pc:=30}):=by simp[ah,ew,e]
def Jc(e:p.pc=30):ah n node bud s i p=(ae s.ar (cS p.a) (-1),s.wk,{p with pc:=0}):=by simp[ah,ew,e]
end
end
section
open Go
section
variable{node:Nat->Int}{s:Cn}
end
section
variable{node:Nat->Int}{S S':List Sp}{p p':Sp}{P:Nat->Int}
end
end
section
open Go
section
variable{node:Nat->Int}{s:Cn}
end
section
variable{L:List Int}{P P':Nat->Int}
end
end
section
open Go.RowKit
variable{ar':Ar}{Lo:Wk}
structure Cx where
 l:Nat
 a:Nat
 g:Nat
 q:Nat
 k:Nat
 n1:Nat
 nb:Nat
 b0:Nat
 b1:Nat
 b2:Nat
def Id(c:Cx)(cap:Nat)(bud:Int)(n:Nat):Array Value:=#[↑c.a,J 1,J bud,slice (some ⟨c.nb,0,none⟩) n cap,↑c.k,slice (some ⟨c.q,0,none⟩) n n]
def uC(c:Cx):Value:= .func (.func 172) #[] #[↑c.b0,↑c.b1,↑c.b2]
structure aq(w:World)(c:Cx)(cap:Nat)(bud:Int)(nd:List Int)(h:Cn):Prop where
 ar:aB w c.a c.g h.ar
 lk:Blk w c.l 263 (Id c cap bud nd.length)
 sp:dA w c.q h.S
 wk:cH w c.k c.n1 (uC c) nd h.wk
 row:∀m,m<nd.length->w.cell? ⟨c.nb,m,none⟩=some (int i64 (ndf nd m))
 p0:Blk w c.b0 29 #[↑c.a]
 p1:Blk w c.b1 3 #[int i64 3]
 p2:Blk w c.b2 3 #[int i64 3]
 sl:h.S.length=nd.length
 n32:1<=nd.length/\nd.length<=32
 nd4:[c.a,c.g,c.q,c.k].Nodup
 st:∀x∈[c.l,c.n1,c.nb,c.b0,c.b1,c.b2],x∉[c.a,c.g,c.q,c.k]
section
variable{c:Cx}{cap:Nat}{nd:List Int}{h:Cn}
def aq.next(k:aq w c cap bud nd h){H:List Sp}(t:aa [c.a,c.g,c.q,c.k] w w')(h1:aB w' c.a c.g ar')(I:dA w' c.q H)(O:cH w' c.k c.n1 (uC c) nd Lo)(V:H.length=nd.length):aq w' c cap bud nd ⟨ar',Lo,H⟩:=by refine⟨h1,t.blk k.lk (k.st _ ahq),I,O,λm hm=>?_,t.blk k.p0 (k.st _ ahq),t.blk k.p1 (k.st _ ahq),t.blk k.p2 (k.st _ ahq),V,k.n32,k.nd4,k.st⟩;rw[t.cellC (aM (k.row m hm)) (k.st _ ahq)];exact k.row m hm
def aq.below(k:aq w c cap bud nd h)(t:Below w.heap.size w w'):aq w' c cap bud nd h:=by have t0:=aa.of_below (S:=[]) t;exact k.next (t0.mono ahq) (k.ar.turns t0 ahq ahq) (k.sp.turns t0 ahq) (k.wk.below t) k.sl
def aq.n1k(k:aq w c cap bud nd h):c.n1∉[c.a,c.g,c.q,c.k]:=k.st _ ahq
def aq.op(k:aq w c cap bud nd h)(t:aa [c.a,c.g] w w')(h1:aB w' c.a c.g ar'):aq w' c cap bud nd ⟨ar',h.wk,h.S⟩:=by have I:=k.nd4;have H:=k.n1k;simp at I H;exact k.next (t.mono ahq) h1 (k.sp.turns t ahu) (k.wk.turns t ahu ahu) k.sl
def aq.spot(k:aq w c cap bud nd h){H:List Sp}(hs:dA w' c.q H)(V:H.length=nd.length)(t:aa [c.q] w w'):aq w' c cap bud nd ⟨h.ar,h.wk,H⟩:=by have O:=k.nd4;have I:=k.n1k;simp at O I;exact k.next (t.mono ahq) (k.ar.turns t ahu ahu) hs (k.wk.turns t ahu ahu) V
def aq.walk(k:aq w c cap bud nd h)(I:cH w' c.k c.n1 (uC c) nd Lo)(t:aa [c.k] w w'):aq w' c cap bud nd ⟨h.ar,Lo,h.S⟩:=by have H:=k.nd4;simp at H;exact k.next (t.mono ahq) (k.ar.turns t ahu ahu) (k.sp.turns t ahu) I k.sl
def aq.putS(k:aq w c cap bud nd h){p p':Sp}(O:h.S[i]? =some p){v:Value}(I:j<4)(H:(bf p).set j v=bf p'):aq (w.setCell ⟨c.q,i*4+j,none⟩ v) c cap bud nd ⟨h.ar,h.wk,h.S.set i p'⟩:=
 k.spot (k.sp.put O I H) (by simp[k.sl]) ((aa.refl _ _).setCell (.inl ahq) _)
def dt{c:Cx}(p:Addr)(v:Value)(H:p.block=c.q):aa [c.a,c.g,c.q,c.k] w (w.setCell p v):=(aa.refl _ _).setCell (.inl (by simp[H])) _
def aq.l0(k:aq w c cap bud nd h):w.cell? c.l=some ↑c.a:=k.lk.cell 0
def aq.l1(k:aq w c cap bud nd h):Z w c.l 1 (J 1):=k.lk.cell 1
def aq.l2(k:aq w c cap bud nd h):Z w c.l 2 (J bud):=k.lk.cell 2
def aq.l3(k:aq w c cap bud nd h):Z w c.l 3 (slice (some ⟨c.nb,0,none⟩) nd.length cap):=k.lk.cell 3
def aq.l4(k:aq w c cap bud nd h):Z w c.l 4 ↑c.k:=k.lk.cell 4
def aq.l5(k:aq w c cap bud nd h):Z w c.l 5 (slice (some ⟨c.q,0,none⟩) nd.length nd.length):=k.lk.cell 5
def jY(k:aq w c cap bud nd h):E 313 #[↑c.l] w λe w'=>e= returned (J nd.length)/\w=w':=by have c5:=k.l5;clear k;go_enter func313,ntmps313;exact aab
def uc(k:aq w c cap bud nd h)(i:Int):E 311 #[↑c.l,J i] w λe w'=>e= returned (aC (getS h.S i))/\Below w.heap.size w w':=by
  obtain⟨_,HN⟩:=k.n32;have O:=k.sl;by_cases I:okI h.S i;. have hp:=dJ I;obtain⟨p,Y⟩:=LE (getS h.S i);rw[<-Y]at hp ⊢;have c2:=k.l5;refine ajT ?_;intro a0 a1 a2 a3;obtain⟨V,h1⟩:=I;rw[O]at h1;obtain⟨n,rfl⟩:=Int.eq_ofNat_of_zero_le V;simp only[Int.toNat_natCast]at a0 a1 a2 a3;have JZ:=k.lk.lt;have JY:=k.sp.lt;have t2:¬(n:Int)<0:=(by omega);have t3:¬((nd.length:Nat):Int)<=(n:Int):=(by omega);have t4:n<nd.length:=(by omega);have H:Kq (aq (w.alloc (cells #[J 0,J 0,J 0,J 0] 113)) c cap bud nd h):=qh (k.below ((Below.refl _ _).alloc (Nat.le_refl _) _));clear k hp Y V h1 O;go_enter func311,ntmps311;go_wp2_with (go_at_call 313;refine(jY H.o).mono ?_;rintro e w' ⟨rfl,rfl⟩);exact bodyPost_ret (results_cell_row aht _ _ w.heap.size 113 _ (0,0) _ aht (heap_alloc_new w _) Tryz.underlying113 rfl ahs) rfl ⟨rfl,(Below.refl _ _).alloc (Nat.le_refl _) _⟩
  . have H:Kq (aq (w.alloc (cells #[J 0,J 0,J 0,J 0] 113)) c cap bud nd h):=qh (k.below ((Below.refl _ _).alloc (Nat.le_refl _) _));rw[dC I];unfold okI at I;rw[O]at I;clear k O;by_cases V:i<0;. go_enter func311,ntmps311;go_wp2;exact bodyPost_ret (results_cell_row aht _ _ w.heap.size 113 _ (0,0) _ aht (heap_alloc_new w _) Tryz.underlying113 rfl ahs) rfl ⟨rfl,(Below.refl _ _).alloc (Nat.le_refl _) _⟩
    . have t3:((nd.length:Nat):Int)<=i:=(by omega);clear I;go_enter func311,ntmps311;go_wp2_with (go_at_call 313;refine(jY H.o).mono ?_;rintro e w' ⟨rfl,rfl⟩);exact bodyPost_ret (results_cell_row aht _ _ w.heap.size 113 _ (0,0) _ aht (heap_alloc_new w _) Tryz.underlying113 rfl ahs) rfl ⟨rfl,(Below.refl _ _).alloc (Nat.le_refl _) _⟩
def COp(w:World)(c:Cx)(cap:Nat)(bud:Int)(nd:List Int)(x:Cn×Bool)(e:Ending)(w':World):Prop:=e= returned (.bool x.2)/\aq w' c cap bud nd x.1/\aa [c.a,c.g,c.q,c.k] w w'
def wN(k:aq w c cap bud nd h)(i O V:Int):E 314 #[↑c.l,J i,J O,J V] w (COp w c cap bud nd (bZ h i O V)):=by
  have H:=qh k;obtain⟨_,Kw⟩:=k.n32;have J6:=k.sl;by_cases hi:okI h.S i
  . have Y:=dJ hi;obtain⟨p,i'⟩:=LE (getS h.S i);rw[<-i']at Y;have c2:=k.l5;have a0:=aaa (k.sp.cell Y 0 _ rfl);have f0:=k.sp.free (i.toNat*4);obtain⟨h0,h1⟩:=id hi;rw[J6]at h1;obtain⟨n,rfl⟩:=Int.eq_ofNat_of_zero_le h0;simp only[Int.toNat_natCast]at a0 f0 Y;have t2:¬(n:Int)<0:=(by omega);have t3:¬((nd.length:Nat):Int)<=(n:Int):=(by omega);have t4:n<nd.length:=(by omega);have HP:=qh (And.intro hi (And.intro i' Y));clear k Y i' h0 h1 hi J6;cases hc:(p.pc !=O)
    . have I:Kq (bZ h n O V=(⟨h.ar,h.wk,h.S.set n {p with pc:=V}⟩,true)):=qh (by
        unfold bZ;have e:p.pc=O:=by simpa using hc
        rw[<-HP.o.2.1,if_pos ⟨HP.o.1,e⟩];simp)
      go_enter func314,ntmps314;go_wp2_with (go_at_call 313;refine(jY H.o).mono ?_;rintro e w' ⟨rfl,rfl⟩);go_ret;rw[I.o];have ht:aa [c.q] w (w.setCell ⟨c.q,n*4,none⟩ (J V)):=(aa.refl _ _).setCell (.inl ahq) _;exact⟨rfl,H.o.spot (H.o.sp.put HP.o.2.2 (j:=0) ahr rfl) (by simp[H.o.sl]) ht,ht.mono ahq⟩
    . have I:Kq (bZ h n O V=(h,false)):=qh (by
        unfold bZ;have e:¬p.pc=O:=by simpa using hc
        rw[<-HP.o.2.1,if_neg (λh=>e h.2)])
      go_enter func314,ntmps314;go_wp2_with (go_at_call 313;refine(jY H.o).mono ?_;rintro e w' ⟨rfl,rfl⟩);go_ret;rw[I.o];exact⟨rfl,H.o,aa.refl _ _⟩
  . have I:Kq (bZ h i O V=(h,false)):=qh (by
      unfold bZ
      rw[if_neg (λh=>hi h.1)])
    unfold okI at hi;rw[J6]at hi;clear k J6;by_cases h0:i<0;. go_enter func314,ntmps314;go_wp2;go_ret;rw[I.o];exact⟨rfl,H.o,aa.refl _ _⟩
    . have t3:((nd.length:Nat):Int)<=i:=(by omega);clear hi;go_enter func314,ntmps314;go_wp2_with (go_at_call 313;refine(jY H.o).mono ?_;rintro e w' ⟨rfl,rfl⟩);go_ret;rw[I.o];exact⟨rfl,H.o,aa.refl _ _⟩
def GV(k:aq w c cap bud nd h)(i:Int):E 309 #[↑c.l,J i] w (COp w c cap bud nd (bZ h i 0 1)):=by obtain⟨x,I⟩:=LE (bZ h i 0 1);have H:=qh (wN k i 0 1);rw[<-I]at H ⊢;obtain⟨O,V⟩:=x;clear k I;go_enter func309,ntmps309;go_wp2_with fail;refine Pi H.o λw1 H1=>?_;go_wp2;go_ret;exact⟨rfl,H1.o⟩
def D1(k:aq w c cap bud nd h)(i:Int):E 310 #[↑c.l,J i] w (COp w c cap bud nd (bZ h i 10 11)):=by obtain⟨x,I⟩:=LE (bZ h i 10 11);have H:=qh (wN k i 10 11);rw[<-I]at H ⊢;obtain⟨O,V⟩:=x;clear k I;go_enter func310,ntmps310;go_wp2_with fail;refine Pi H.o λw1 H1=>?_;go_wp2;go_ret;exact⟨rfl,H1.o⟩
def mI(k:aq w c cap bud nd h)(x:Int)(H:-5<=x/\x<=100000):E 146 #[↑c.l,J x] w λe w'=>e= returned (J (cN x))/\w=w':=by
 have c1:=k.l1;obtain⟨I,h1⟩:=H;refine ajM ?_;intro x1 x2;have O:IntKind.i64.wrap (1+3*x-1)=3*x:=by rw[show 1+3*x-1=3*x by omega];exact x1
 clear k;unfold cN;go_enter func146,ntmps146;exact aaj
def pj(k:aq w c cap bud nd h)(x:Int)(H:-5<=x/\x<=100000):E 319 #[↑c.l,J x] w λe w'=>e= returned (J (cS x))/\w=w':=by have c1:=k.l1;obtain⟨I,h1⟩:=H;refine ajM ?_;intro x1 x2;clear k;unfold cS;go_enter func319,ntmps319;exact aaj
def xo(k:aq w c cap bud nd h)(x:Int)(H:-5<=x/\x<=100000):E 321 #[↑c.l,J x] w λe w'=>e= returned (J (cL x))/\w=w':=by have c1:=k.l1;obtain⟨I,h1⟩:=H;refine ajM ?_;intro x1 x2;have O:IntKind.i64.wrap (1+3*x+1)=1+3*x+1:=IntWalk.i64_in _ ahp;clear k;unfold cL;go_enter func321,ntmps321;exact aaj
def qM(k:aq w c cap bud nd h):E 322 #[↑c.l] w λe w'=>e= returned (J 2)/\w=w':=by have c1:=k.l1;clear k;go_enter func322,ntmps322;exact aab
def qj(w:World)(b:Bool)(x y v:Int)(O:v=if b then x else y):E 320 #[.bool b,J x,J y] w λe w'=>e= returned (J v)/\w=w':=by
 cases b;.exact abf
 .exact abf
def Di(k:aq w c cap bud nd h)(y:Int)(hy:-5<=y/\y<=100000)(Y:h.ar.ops+1<=1000000000000):E 172 #[J y,↑c.b0,↑c.b1,↑c.b2] w (eY w c.a c.g (af h.ar (cN y)) (J (ldW h.ar.W (cN y)))):=by
 have d0:w.cell? c.b0=_:=k.p0.cell 0;have d1:w.cell? c.b1=_:=k.p1.cell 0;have V:w.cell? c.b2=_:=k.p2.cell 0;simp at d0 d1 V;obtain⟨h0,h1⟩:=hy;have x0:IntKind.i64.wrap (y-1)=y-1:=IntWalk.i64_in _ ahp;have x1:IntKind.i64.wrap (3*(y-1))=3*(y-1):=IntWalk.i64_in _ ahp;have x2:IntKind.i64.wrap (3+3*(y-1))=cN y:=by unfold cN;rw[show 3+3*(y-1)=3*y by omega];exact IntWalk.i64_in _ ahp
 have H:=qh (aE k.ar (cN y) Y);obtain⟨v,O⟩:=LE (ldW h.ar.W (cN y));rw[<-O]at H ⊢;obtain⟨z,I⟩:=LE (cN y);rw[<-I]at H ⊢ x2;clear k O I;go_enter func172,ntmps172;go_wp2_with fail;refine Pi H.o λw1 H1=>?_;go_wp2;go_ret;exact⟨rfl,H1.o⟩
end
end
end Go.Proofs.YtglokdbiggbkjaaGreat
