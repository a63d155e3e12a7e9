/- Joined texts. -/
import Derived.StillTailTactics
import Derived.IntWalk
import Derived.Deep.RegionHeld3
import Derived.Test.YtglokdbiggbkjaaGreatMgLocksSafe0
import Derived.Test.YtglokdbiggbkjaaGreatMgLocksSafe1
import Derived.Test.YtglokdbiggbkjaaGreatMgLocksSafe5
import Derived.Test.YtglokdbiggbkjaaGreatMgLocksSafe6
set_option linter.unusedVariables false
set_option linter.unusedSimpArgs false
set_option maxRecDepth 100000
set_option maxHeartbeats 16000000
namespace Go.Proofs.YtglokdbiggbkjaaGreat
section
open Go
def dv (D:List Int)(t:Nat):Int:=D.getD t 0
def tokH (t:Nat)(d:Int):Int:=d*65536+((t:Int)+1)
structure Hc where
 ar:Ar
 D:List Int
 S:List Sp
def Al (n:Nat)(w:Int):Bool:=decide (0<=w/\1<=w%65536/\w%65536<=n)
def isB (W:List Int)(f:Int)(n:Nat)(w:Int):Bool:=Al n w&&decide (w/65536<=ldW W (f+(w%65536-1)))
def isA (s:Ar)(f:Int)(n:Nat)(w:Int):Ar:=if Al n w then ae s (f+(w%65536-1))else s
def bm (nd n:Nat)(dl:Int)(h:Hc)(nu i:Nat)(p:Sp):Ar×List Int×Sp:=
 if p.pc=1 then(bY h.ar (2+(nu:Int)) (tokH i (dv h.D i+1)),h.D,
  if ldW h.ar.W (2+(nu:Int))≠0 then {p with a:=ldW h.ar.W (2+(nu:Int)),pc:=5} else if 0<dl then {p with a:=ldW h.ar.W (2+(nu:Int)),b:=dl,pc:=2} else {p with a:=ldW h.ar.W (2+(nu:Int)),b:=0,pc:=3})
 else if p.pc=2 then(h.ar,h.D,{p with b:=p.b-1,pc:=if 0<p.b-1 then 2 else 3})
 else if p.pc=3 then(bY h.ar (2+(nu:Int)) 0,h.D,{p with c:=ldW h.ar.W (2+(nu:Int)),pc:=4})
 else if p.pc=4 then(bY h.ar 1 p.c,h.D,{p with a:=ldW h.ar.W 1,pc:=if ldW h.ar.W 1=0 then 10 else 5})
 else if p.pc=5 then(isA h.ar (2+(nd:Int)) n p.a,h.D,{p with pc:=if isB h.ar.W (2+(nd:Int)) n p.a then 10 else 5})
 else(addA h.ar (2+(nd:Int)+i) 1,h.D.set i (dv h.D i+1),{p with pc:=0})
def hJ (p:Sp):Bool:=p.pc==1||p.pc==2||p.pc==3||p.pc==4||p.pc==5||p.pc==11
def fo (nd n:Nat)(dl:Int)(node:Nat->Nat)(h:Hc)(i:Int):Hc×Bool:=
 if okI h.S i/\hJ (getS h.S i)=true then
  (⟨(bm nd n dl h (node i.toNat) i.toNat (getS h.S i)).1,(bm nd n dl h (node i.toNat) i.toNat (getS h.S i)).2.1,h.S.set i.toNat (bm nd n dl h (node i.toNat) i.toNat (getS h.S i)).2.2⟩,
   decide ((bm nd n dl h (node i.toNat) i.toNat (getS h.S i)).2.2.pc=10\/(bm nd n dl h (node i.toNat) i.toNat (getS h.S i)).2.2.pc=0))
 else(h,false)
def bj (h:Hc)(i from_ to_:Int):Hc×Bool:=
 if okI h.S i/\(getS h.S i).pc=from_ then(⟨h.ar,h.D,h.S.set i.toNat {getS h.S i with pc:=to_}⟩,true)else(h,false)
def tl (W:List Int):Int:=W.getD 0 0
def lc (W:List Int)(v:Nat):Int:=W.getD (1+v) 0
def tnw (nd:Nat)(W:List Int)(i:Nat):Int:=W.getD (1+nd+i) 0
section
variable{W:List Int}{nd n i v:Nat}
theorem cZ{α:Type}(l:List α){i j:Nat}(a d:α)(h:i≠j):(l.set i a).getD j d=l.getD j d:=by rw[kF,if_neg (λe=>h e.1)]
theorem g8{α:Type}(l:List α){i:Nat}(a d:α)(h:i<l.length):(l.set i a).getD i d=a:=by rw[kF,if_pos ⟨rfl,h⟩]
theorem An{k:Nat}(h:k<W.length):ldW W ((k:Int)+1)=W.getD k 0:=by unfold ldW inR;exact ID
theorem Bt{k:Nat}(h:k<W.length)(x:Int):stW W ((k:Int)+1) x=W.set k x:=by unfold stW inR;exact ID
theorem ED (hw:W.length=1+nd+n):ldW W 1=tl W:=An (k:=0) QX
theorem F7 (hw:W.length=1+nd+n)(h:v<nd):ldW W (2+(v:Int))=lc W v:=by rw[show(2+(v:Int))=((1+v:Nat):Int)+1 by omega];exact An QX
theorem DJ (hw:W.length=1+nd+n)(h:i<n):ldW W (2+(nd:Int)+i)=tnw nd W i:=by rw[show(2+(nd:Int)+i)=((1+nd+i:Nat):Int)+1 by omega];exact An QX
theorem Fc (hw:W.length=1+nd+n)(x:Int):stW W 1 x=W.set 0 x:=Bt (k:=0) QX x
theorem GN (hw:W.length=1+nd+n)(h:v<nd)(x:Int):stW W (2+(v:Int)) x=W.set (1+v) x:=by rw[show(2+(v:Int))=((1+v:Nat):Int)+1 by omega];exact Bt QX x
theorem GO (hw:W.length=1+nd+n)(h:i<n)(x:Int):stW W (2+(nd:Int)+i) x=W.set (1+nd+i) x:=by rw[show(2+(nd:Int)+i)=((1+nd+i:Nat):Int)+1 by omega];exact Bt QX x
end
def Lks (P:Nat->Nat->Prop):List Nat->Prop
 |[]=>True
 |a :: l=>(∀b,l.head? =some b->P a b)/\Lks P l
section
variable{P P':Nat->Nat->Prop}{l m:List Nat}
theorem Lks.append (h:Lks P l)(k:Lks P m)(hj:∀a b,l.getLast? =some a->m.head? =some b->P a b):Lks P (l++m):=by
 induction l with
 |nil=>exact k
 |cons a l ih=>
  refine⟨λb hb=>?_,ih h.2 λx y hx hy=>hj x y ?_ hy⟩
  ·cases l with
   |nil=>exact hj a b rfl (by simpa using hb)
   |cons c l=>exact h.1 b (by simpa using hb)
  ·cases l with
   |nil=>simp at hx
   |cons c l=>rw[List.getLast?_cons_cons];exact hx
theorem Lks.mono (h:Lks P l)(hm:∀a b,a∈l->b∈l.tail->P a b->P' a b):Lks P' l:=by
 induction l with
 |nil=>trivial
 |cons a l ih=>refine⟨λb hb=>hm a b QY (List.mem_of_mem_head? hb) (h.1 b hb),ih h.2 λx y hx hy=>hm x y (List.mem_cons_of_mem _ hx) (List.mem_of_mem_tail hy)⟩
theorem Lks.mem{b:Nat}(h:Lks P l)(hb:b∈l.tail):∃a,a∈l/\P a b:=by
 induction l with
 |nil=>simp at hb
 |cons a l ih=>
  cases l with
  |nil=>simp at hb
  |cons c l=>
   rcases List.mem_cons.1 (show b∈c :: l from hb)with rfl|hb'
   ·exact⟨a,by simp,h.1 b rfl⟩
   ·obtain⟨x,hx,hp⟩:=ih h.2 hb';exact⟨x,List.mem_cons_of_mem _ hx,hp⟩
theorem Lks.tail (h:Lks P l):Lks P l.tail:=by
 cases l with
 |nil=>exact h
 |cons a l=>exact h.2
theorem AO{t:Nat}(h:t∈l):l.head? =some t\/t∈l.tail:=by
 cases l with
 |nil=>simp at h
 |cons a l=>
  rcases List.mem_cons.1 h with rfl|h
  ·exact .inl rfl
  ·exact .inr h
theorem ie{t:Nat}(hn:l.Nodup)(h:l.head? =some t):t∉l.tail:=by
 cases l with
 |nil=>simp at h
 |cons a l=>simp at h;subst h;exact(List.nodup_cons.1 hn).1
theorem fB{t:Nat}(h:l.head? =some t):l≠[]:=by rintro rfl;simp at h
theorem bp{t:Nat}(h:l.head? =some t):t∈l:=List.mem_of_mem_head? h
end
def eA (D:List Int)(l:List Nat):Int:=match l.getLast? with|some t=>tokH t (dv D t+1)|none=>0
theorem dm{D:List Int}{l:List Nat}{t:Nat}(h:l.getLast? =some t):eA D l=tokH t (dv D t+1):=by unfold eA;rw[h]
theorem jW{l:List Nat}(h:l≠[]):∃t,l.getLast? =some t/\t∈l:=⟨l.getLast h,List.getLast?_eq_some_getLast h,List.getLast_mem h⟩
theorem kH{D:List Int}(l:List Nat){m:List Nat}(h:m≠[]):eA D (l++m)=eA D m:=by obtain⟨t,ht,_⟩:=jW h;rw[dm ht,dm (t:=t)];rw[List.getLast?_append,ht];rfl
def Dn (n:Nat)(D:List Int)(w:Int):Prop:=∃(t:Nat) (d:Int),t<n/\1<=d/\d<=dv D t/\w=tokH t d
def HLk (D:List Int)(S:List Sp)(p s:Nat):Prop:=(sv S s).pc=5/\(sv S s).a=tokH p (dv D p+1)
structure HIv (nd n:Nat)(node:Nat->Nat)(W D:List Int)(S:List Sp)(G:Nat->List Nat):Prop where
 wl:W.length=1+nd+n
 sl:S.length=n
 dl:n<=D.length
 n32:n<=32
 nn:∀t,t<n->node t<nd
 tw:∀t,t<n->tnw nd W t=dv D t
 d0:∀t,0<=dv D t
 nod:∀k,(G k).Nodup
 dj:∀k k' t,t∈G k->t∈G k'->k=k'
 lt:∀k t,t∈G k->t<n
 lk:∀k,Lks (HLk D S) (G k)
 free:∀t,t<n->(∀k,t∉G k)->(sv S t).pc=0\/(sv S t).pc=1
 first:∀m,G (m+1)≠[]->(G (m+1)).head? =some m
 same:∀m t,t∈G (m+1)->node t=node m
 mast:∀m,G (m+1)≠[]->((((sv S m).pc=2/\0<(sv S m).b)\/(sv S m).pc=3)/\lc W (node m)=eA D (G (m+1)))\/((sv S m).pc=4/\(sv S m).c=eA D (G (m+1)))
 one:∀m m',G (m+1)≠[]->G (m'+1)≠[]->node m=node m'->(sv S m).pc<4->(sv S m').pc<4->m=m'
 loc:∀v,v<nd->lc W v=0\/∃m,G (m+1)≠[]/\(sv S m).pc<4/\node m=v
 front:∀t,(G 0).head? =some t->((sv S t).pc=5/\Dn n D (sv S t).a)\/(sv S t).pc=10\/(sv S t).pc=11
 tail:(tl W=eA D (G 0)/\G 0≠[])\/(G 0=[]/\(tl W=0\/Dn n D (tl W)))
section
variable{nd n:Nat}{node:Nat->Nat}{W W' D D':List Int}{S:List Sp}{G:Nat->List Nat}{i:Nat}{p':Sp}
theorem q9{t:Nat}{d:Int}(h:0<=d):tokH t d≠0:=by unfold tokH;omega
theorem Dw{t t':Nat}{d d':Int}(h:t<32)(h':t'<32)(e:tokH t d=tokH t' d'):t=t'/\d=d':=by unfold tokH at e;omega
theorem Dn.ne{w:Int}(h:Dn n D w):w≠0:=by obtain⟨t,d,_,h1,_,rfl⟩:=h;exact q9 QX
theorem HIv.notail (h:HIv nd n node W D S G){k t:Nat}(ht:t∈(G k).tail):(sv S t).pc=5/\∃p,p∈G k/\(sv S t).a=tokH p (dv D p+1):=by obtain⟨p,hp,h5,ha⟩:=(h.lk k).mem ht;exact⟨h5,p,hp,ha⟩
theorem HIv.inG (h:HIv nd n node W D S G){k t:Nat}(ht:t∈G k):(t∈(G k).tail/\(sv S t).pc=5)\/((G k).head? =some t/\((k=0/\(((sv S t).pc=5/\Dn n D (sv S t).a)\/(sv S t).pc=10\/(sv S t).pc=11))\/(k=t+1/\((sv S t).pc=2\/(sv S t).pc=3\/(sv S t).pc=4)))):=by
 rcases AO ht with hh|hh
 ·refine .inr ⟨hh,?_⟩;cases k with
  |zero=>exact .inl ⟨rfl,h.front t hh⟩
  |succ m=>
   have e:=h.first m (fB hh);rw[hh]at e;injection e with e;subst e;refine .inr ⟨rfl,?_⟩;rcases h.mast t (fB hh)with⟨h1|h1,_⟩|⟨h1,_⟩
   ·exact .inl h1.1
   ·exact .inr (.inl h1)
   ·exact .inr (.inr h1)
 ·exact .inl ⟨hh,(h.notail hh).1⟩
theorem HIv.at01 (h:HIv nd n node W D S G)(hp:(sv S i).pc=0\/(sv S i).pc=1):∀k,i∉G k:=λk hk=>by
 rcases h.inG hk with h1|⟨_,⟨_,h1⟩|⟨_,h1⟩⟩<;>omega
theorem HIv.at234 (h:HIv nd n node W D S G)(hi:i<n)(hp:(sv S i).pc=2\/(sv S i).pc=3\/(sv S i).pc=4):(G (i+1)).head? =some i:=by
 rcases Classical.em (∀k,i∉G k)with hk|hk
 ·have:=h.free i hi hk;omega
 ·obtain⟨k,hk⟩:=Classical.not_forall.1 hk;rcases h.inG (Classical.not_not.1 hk)with h1|⟨h0,⟨_,h1⟩|⟨rfl,h1⟩⟩
  ·omega
  ·omega
  ·exact h0
theorem HIv.atFront (h:HIv nd n node W D S G)(hi:i<n)(hp:(sv S i).pc=10\/(sv S i).pc=11):(G 0).head? =some i:=by
 rcases Classical.em (∀k,i∉G k)with hk|hk
 ·have:=h.free i hi hk;omega
 ·obtain⟨k,hk⟩:=Classical.not_forall.1 hk;rcases h.inG (Classical.not_not.1 hk)with h1|⟨h0,⟨rfl,h1⟩|⟨rfl,h1⟩⟩
  ·omega
  ·exact h0
  ·omega
theorem HIv.at5 (h:HIv nd n node W D S G)(hi:i<n)(hp:(sv S i).pc=5):(∃k p,i∈(G k).tail/\p∈G k/\(sv S i).a=tokH p (dv D p+1))\/((G 0).head? =some i/\Dn n D (sv S i).a):=by
 rcases Classical.em (∀k,i∉G k)with hk|hk
 ·have:=h.free i hi hk;omega
 ·obtain⟨k,hk⟩:=Classical.not_forall.1 hk;rcases h.inG (Classical.not_not.1 hk)with h1|⟨h0,⟨rfl,h1⟩|⟨rfl,h1⟩⟩
  ·obtain⟨_,p,h2,h3⟩:=h.notail h1.1;exact .inl ⟨k,p,h1.1,h2,h3⟩
  ·refine .inr ⟨h0,?_⟩;rcases h1 with h1|h1|h1
   ·exact h1.2
   ·omega
   ·omega
  ·omega
theorem bS{j:Nat}(h:j≠i):sv (S.set i p') j=sv S j:=by rw[cD,if_neg (λe=>h e.1.symm)]
theorem oJ (h:i<S.length):sv (S.set i p') i=p':=by rw[cD,if_pos ⟨rfl,h⟩]
theorem vF (hw:W.length=1+nd+n)(hn:n<=32){t:Nat}(ht:t<n){d:Int}(h0:0<=d):isB W (2+(nd:Int)) n (tokH t d)=decide (d<=tnw nd W t):=by
 have e1:tokH t d%65536=t+1:=by unfold tokH;omega
 have e2:tokH t d/65536=d:=by unfold tokH;omega
 unfold isB Al;rw[e1,e2,show(2+(nd:Int)+((t:Int)+1-1))=2+(nd:Int)+t by omega,DJ hw ht,decide_eq_true (show 0<=tokH t d/\1<=(t:Int)+1/\(t:Int)+1<=n by refine⟨by unfold tokH;omega,by omega,by omega⟩)];rfl
theorem HIv.keep (h:HIv nd n node W D S G) (hi:i<n) (hw:W'.length=W.length) (htw:∀t,t<n->tnw nd W' t=tnw nd W t) (htl:tl W'=tl W) (hnt:∀k,i∉(G k).tail)
    (hfree:(∀k,i∉G k)->p'.pc=0\/p'.pc=1)
    (hmast:G (i+1)≠[]->(((p'.pc=2/\0<p'.b)\/p'.pc=3)/\lc W' (node i)=eA D (G (i+1)))\/(p'.pc=4/\p'.c=eA D (G (i+1))))
    (hmo:∀m,m≠i->G (m+1)≠[]->(sv S m).pc<4->lc W' (node m)=lc W (node m))
    (hone:G (i+1)≠[]->p'.pc<4->(sv S i).pc<4)
    (hloc:∀v,v<nd->lc W' v=0\/(lc W' v=lc W v/\(v=node i->G (i+1)≠[]->(sv S i).pc<4->p'.pc<4)))
    (hfront:(G 0).head? =some i->(p'.pc=5/\Dn n D p'.a)\/p'.pc=10\/p'.pc=11):HIv nd n node W' D (S.set i p') G:=by
  have hii:=oJ (S:=S) (i:=i) (p':=p') RB;refine⟨hw.trans h.wl,by simp[h.sl],h.dl,h.n32,h.nn,λt ht=>(htw t ht).trans (h.tw t ht),h.d0,h.nod,h.dj,h.lt,λk=>?_,λt ht hk=>?_,h.first,h.same,λm hm=>?_,λm m' hm hm' he h1 h2=>?_,λv hv=>?_,λt ht=>?_,by rw[htl];exact h.tail⟩;· refine(h.lk k).mono λa b _ hb hab=>?_;have:b≠i:=λe=>hnt k (e ▸ hb);unfold HLk;rw[bS this];exact hab
  · by_cases e:t=i;· subst e;rw[hii];exact hfree hk
    · rw[bS e];exact h.free t ht hk
  · by_cases e:m=i;· subst e;rw[hii];exact hmast hm
    · rw[bS e];rcases h.mast m hm with⟨h1,h2⟩|h1
      · exact .inl ⟨h1,by rw[hmo m e hm QX];exact h2⟩
      · exact .inr h1
  · refine h.one m m' hm hm' he ?_ ?_
    · by_cases e:m=i;· subst e;rw[hii]at h1;exact hone hm h1
      · rw[bS e]at h1;exact h1
    · by_cases e:m'=i;· subst e;rw[hii]at h2;exact hone hm' h2
      · rw[bS e]at h2;exact h2
  · rcases hloc v hv with h1|⟨h1,h2⟩
    · exact .inl h1
    · rw[h1];rcases h.loc v hv with h3|⟨m,h3,h4,h5⟩
      · exact .inl h3
      · refine .inr ⟨m,h3,?_,h5⟩;by_cases e:m=i;· subst e;rw[hii];exact h2 h5.symm h3 h4
        · rw[bS e];exact h4
  · by_cases e:t=i;· subst e;rw[hii];exact hfront ht
    · rw[bS e];exact h.front t ht
end
end
section
open Go.RowKit
def tuC (a:Nat)(f:Int)(n:Nat)(D:List Int):List Value:=[.pointer (some ⟨a,0,none⟩),.int .i64 f,.int .i64 n]++D.map (Value.int .i64)
structure d9 (w:World)(u a:Nat)(f:Int)(n:Nat)(D:List Int):Prop where
 blk:Blk w u 322 (tuC a f n D).toArray
 len:D.length=32
 n32:n<=32
 f0:0<=f/\f<=5000
section
variable{w w':World}{u a:Nat}{f:Int}{n:Nat}{D:List Int}
theorem d9.c0 (h:d9 w u a f n D):w.cell? u=some ↑a:=h.blk.cell 0
theorem d9.c1 (h:d9 w u a f n D):w.cell? ⟨u,1,none⟩=some (.int .i64 f):=h.blk.cell 1
theorem d9.c2 (h:d9 w u a f n D):w.cell? ⟨u,2,none⟩=some (.int .i64 n):=h.blk.cell 2
theorem d9.c3 (h:d9 w u a f n D){i:Nat}(hi:i<32):w.cell? ⟨u,3+i,none⟩=some (.int .i64 (dv D i)):=by rw[h.blk.cell (3+i)];have hl:=h.len;unfold tuC dv;rw[List.getElem?_toArray,List.getElem?_append_right QY];simp[List.getD_eq_getElem?_getD,List.getElem?_eq_getElem (show i<D.length by omega)]
theorem d9.turns (h:d9 w u a f n D){S:List Nat}(k:aa S w w')(hu:u∉S):d9 w' u a f n D:=⟨k.blk h.blk hu,h.len,h.n32,h.f0⟩
theorem d9.below (h:d9 w u a f n D)(k:Below w.heap.size w w'):d9 w' u a f n D:=h.turns (aa.of_below (S:=[]) k) QY
theorem Fa (h:d9 w u a f n D):Calls Tryz.prog 299 #[↑u] w λe w'=>e= .returned (.int .i64 n)/\w=w':=by have c2:=h.c2;clear h;go_enter Tryz.func299,Tryz.ntmps299;exact gs
theorem CJ (h:d9 w u a f n D)(i:Int)(b:Bool)(hb:decide (0<=i/\i<n)=b):Calls Tryz.prog 293 #[↑u,.int .i64 i] w λe w'=>e= .returned (.bool b)/\w=w':=by
 have H:=qh h;have HB:=qh hb;clear h hb;go_enter Tryz.func293,Tryz.ntmps293;by_cases h0:0<=i;·go_wp2_with fail;refine(Fa H.o).mono ?_;rintro en w' ⟨rfl,rfl⟩;go_wp2;go_ret;exact⟨az (by rw[<-HB.o];simp[h0]),rfl⟩
 ·exact IE
theorem Gw (h:d9 w u a f n D)(i:Nat)(hi:i<n)(hd:0<=dv D i/\dv D i<1000000000):Calls Tryz.prog 290 #[↑u,.int .i64 i] w λe w'=>e= .returned (.int .i64 (tokH i (dv D i+1)))/\Below w.heap.size w w':=by
 have h32:=h.n32;have c3:=h.c3 (i:=i) QX;have H:=qh (CJ h i true (decide_eq_true QX));obtain⟨d,hd1⟩:∃d,d=dv D i:=⟨_,rfl⟩;rw[<-hd1]at c3 hd ⊢;obtain⟨hd2,hd3⟩:=hd;have hi2:(i:Int)<32:=by omega
 have hi3:i<32:=by omega
 clear h hd1;go_enter Tryz.func290,Tryz.ntmps290;go_wp2_with fail;refine H.o.mono ?_;rintro en w' ⟨rfl,rfl⟩;go_wp2_with fail;refine(A8 w _ _ QX QX QX QX).mono ?_;rintro en w1 ⟨rfl,b1⟩;have B1:=qh b1;clear b1 c3;exact IF
end
structure IsK (w W:World)(u a g:Nat)(f:Int)(n:Nat)(D:List Int)(s s':Ar):Prop where
 ar:aA W a g s'
 tu:d9 W u a f n D
 tn:aa [a,g] w W
theorem IsK.below{w W W':World}{u a g:Nat}{f:Int}{n:Nat}{D:List Int}{s s':Ar}(h:IsK w W u a g f n D s s')(k:Below W.heap.size W W'):IsK w W' u a g f n D s s':=
 ⟨h.ar.turns (S:=[]) (aa.of_below k) QY QY,h.tu.below k,h.tn.trans (aa.of_below k)⟩
theorem isU {w:World} {u a g:Nat} {f:Int} {n:Nat} {D:List Int} {s:Ar} (h:aA w a g s) (k:d9 w u a f n D) (hua:u≠a) (hug:u≠g) (x:Int) (h0:0<=x) (h1:x<9223372036854775808) (ho:s.ops+1<=1000000000000):
    Calls Tryz.prog 291 #[↑u,.int .i64 x] w λe w'=>e= .returned (.bool (isB s.W f n x))/\aA w' a g (isA s f n x)/\aa [a,g] w w':=by
  have HI:=qh (λW=>zP W x h0 h1);have HM:=qh (λW=>xQ W x h0 h1);have HNu:=qh (λW=>zX W x h0 h1);have K0:=qh (show IsK w w u a g f n D s s from⟨h,k,aa.refl _ _⟩);have HC:=qh (λW (h:d9 W u a f n D)=>And.intro h.c0 h.c1);have hun:u∉[a,g]:=by simp[hua,hug]
  obtain⟨f0,f1⟩:=k.f0;have n32:=k.n32;obtain⟨j,hj⟩:∃j,j=x%65536:=⟨_,rfl⟩;have hj0:0<=j:=by omega
  have hj1:j<65536:=by omega
  obtain⟨m,hm⟩:∃m,m=x/65536:=⟨_,rfl⟩;rw[<-hj]at HI;rw[<-hm]at HNu;by_cases hok:1<=j/\j<=n
  · have e1:Al n x=true:=decide_eq_true ⟨h0,by omega,by omega⟩;obtain⟨v,hv⟩:∃v,v=ldW s.W (f+(j-1)):=⟨_,rfl⟩;have HE:Kq (isA s f n x=ae s (f+(j-1))/\isB s.W f n x=decide (m<=v)):=qh ⟨by unfold isA;rw[e1,<-hj];rfl,by unfold isB;rw[e1,<-hj,<-hm,<-hv];rfl⟩;have HL:=qh (λW (h:aA W a g s)=>aC h (f+(j-1)) ho);rw[<-hv]at HL;have HH:=qh (λW (h:d9 W u a f n D)=>CJ h (j-1) true (decide_eq_true QX));obtain⟨hok1,hok2⟩:=hok;have HU:=qh hun;clear h k h0 h1 hj hm e1 hv hun hua hug;go_enter Tryz.func291,Tryz.ntmps291;go_wp2_with fail;refine(HI.o w).mono ?_;rintro en w1 ⟨rfl,b1⟩;have K1:=qh ((K0.o.below b1).below ((Below.refl _ w1).drew));clear b1;have x1:IntKind.i64.wrap (f+(j-1))=f+(j-1):=IntWalk.i64_in _ QX;go_wp2_with fail
    go_region_held3 (λW=>W.cell? u=some ↑a/\W.cell? ⟨u,1,none⟩=some (.int .i64 f))
      (first|with_reducible exact HC.o _ K1.o.tu|with_reducible exact HC.o _ K2.o.tu|with_reducible exact HC.o _ K3.o.tu|with_reducible exact HC.o _ K4.o.tu)
      (first
        | (go_at_call 296;go_loud (refine(HM.o _).mono ?_);rintro en w2 ⟨rfl,q2⟩;have K2:=qh (K1.o.below (Qt.below q2 _));clear q2)
        | (go_at_call 293;go_loud (refine(HH.o _ K2.o.tu).mono ?_);rintro en w2' ⟨rfl,rfl⟩)
        | (go_at_call 173;go_loud (refine(HL.o _ K2.o.ar).mono ?_);rintro en w3 ⟨rfl,a3,t3⟩;have K3:Kq (IsK w w3 u a g f n D s (ae s (f+(j-1)))):=qh ⟨a3,K2.o.tu.turns t3 HU.o,K2.o.tn.trans t3⟩;clear a3 t3)
        | (go_at_call 297;go_loud (refine(HNu.o _).mono ?_);rintro en w4 ⟨rfl,b4⟩;have K4:=qh (K3.o.below b4);clear b4))
    all_goals
      go_wp2;go_ret;refine⟨az ?_,?_,K4.o.tn⟩;· rw[HE.o.2]
      · rw[HE.o.1];exact K4.o.ar
  · have e1:Al n x=false:=decide_eq_false QX;have HE:Kq (isA s f n x=s/\isB s.W f n x=false):=qh ⟨by unfold isA;rw[e1];rfl,by unfold isB;rw[e1];rfl⟩;have HH:=qh (λW (h:d9 W u a f n D)=>CJ h (j-1) false (decide_eq_false QX));clear h k h0 h1 hj hm e1 hun hua hug;go_enter Tryz.func291,Tryz.ntmps291;go_wp2_with fail;refine(HI.o w).mono ?_;rintro en w1 ⟨rfl,b1⟩;have K1:=qh (K0.o.below b1);clear b1 hok;go_wp2_with fail
    go_quiet ((first
        | (go_at_call 296;exact Bb (HM.o _))
        | (go_at_call 293;exact dS (HH.o _ (K1.o.below (Qt.below ⟨_,rfl⟩ _)).tu))))
    go_wp2;go_ret;refine⟨az ?_,?_,K1.o.tn.trans (aa.of_qt ⟨_,rfl⟩)⟩;· rw[HE.o.2]
    · rw[HE.o.1];exact(K1.o.below (Qt.below ⟨_,rfl⟩ _)).ar
end
section
open Go
def upd (G:Nat->List Nat)(k:Nat)(l:List Nat):Nat->List Nat:=λj=>if j=k then l else G j
theorem ce (G:Nat->List Nat)(k:Nat)(l:List Nat):upd G k l k=l:=by unfold upd;rw[if_pos rfl]
theorem oV (G:Nat->List Nat){k j:Nat}(l:List Nat)(h:j≠k):upd G k l j=G j:=by unfold upd;rw[if_neg h]
section
variable{nd n:Nat}{node:Nat->Nat}{W W' D D':List Int}{S:List Sp}{G:Nat->List Nat}{i:Nat}{p':Sp}
theorem jq{v u:Nat}(x:Int)(h:1+v<W.length):lc (W.set (1+v) x) u=if v=u then x else lc W u:=by
 unfold lc;by_cases e:v=u;·subst e;rw[g8 _ _ _ h,if_pos rfl]
 ·rw[cZ _ _ _ QX,if_neg e]
theorem q8{v:Nat}(x:Int):tl (W.set (1+v) x)=tl W:=cZ _ _ _ QX
theorem oO{v t:Nat}(x:Int)(h:v<nd):tnw nd (W.set (1+v) x) t=tnw nd W t:=cZ _ _ _ QX
theorem HIv.nil1 (h:HIv nd n node W D S G)(hk:∀k,i∉G k):G (i+1)=[]:=by
 rcases Classical.em (G (i+1)=[])with e|e
 ·exact e
 ·exact absurd (bp (h.first i e)) (hk _)
theorem HIv.ask (h:HIv nd n node W D S G)(hi:i<n)(h0:(sv S i).pc=0)(hp:p'.pc=1):HIv nd n node W D (S.set i p') G:=by have hk:=h.at01 (.inl h0);have e:=h.nil1 hk;refine h.keep hi rfl (λ_ _=>rfl) rfl (λk hm=>hk k (List.mem_of_mem_tail hm)) (λ_=> .inr hp) (λhne=>absurd e hne) (λ_ _ _ _=>rfl) (λhne=>absurd e hne) (λ_ _=> .inr ⟨rfl,λ_ hne=>absurd e hne⟩) (λhh=>absurd (bp hh) (hk 0))
theorem HIv.atFrontP (h:HIv nd n node W D S G)(hi:i<n)(hf:(G 0).head? =some i)(hp:p'.pc=10\/p'.pc=11):HIv nd n node W D (S.set i p') G:=by
 have hm:=bp hf
 have hno:G (i+1)=[]:=by
  rcases Classical.em (G (i+1)=[])with e|e
  ·exact e
  ·have:=h.dj _ _ _ hm (bp (h.first i e));omega
 refine h.keep hi rfl (λ_ _=>rfl) rfl (λk hm'=>?_) (λhk=>absurd hm (hk 0)) (λhne=>absurd hno hne) (λ_ _ _ _=>rfl) (λhne=>absurd hno hne) (λ_ _=> .inr ⟨rfl,λ_ hne=>absurd hno hne⟩) (λ_=> .inr hp);have:=h.dj _ _ _ hm (List.mem_of_mem_tail hm');subst this;exact ie (h.nod 0) hf hm'
theorem HIv.masterNot (h:HIv nd n node W D S G)(hf:(G (i+1)).head? =some i):(∀k,i∉(G k).tail)/\¬(G 0).head? =some i:=by
 have hm:=bp hf;refine⟨λk hm'=>?_,λhh=>?_⟩;·have:=h.dj _ _ _ hm (List.mem_of_mem_tail hm');subst this;exact ie (h.nod _) hf hm'
 ·have:=h.dj _ _ _ hm (bp hh);omega
theorem HIv.s2 (h:HIv nd n node W D S G)(hi:i<n)(h2:(sv S i).pc=2)(hp:(p'.pc=2/\0<p'.b)\/p'.pc=3):HIv nd n node W D (S.set i p') G:=by
 have hf:=h.at234 hi (.inl h2);obtain⟨q1,q2⟩:=h.masterNot hf;refine h.keep hi rfl (λ_ _=>rfl) rfl q1 (λhk=>absurd (bp hf) (hk _)) (λhne=>?_) (λ_ _ _ _=>rfl) (λ_ _=>by omega) (λ_ _=> .inr ⟨rfl,λ_ _ _=>by omega⟩) (λhh=>absurd hh q2);rcases h.mast i hne with⟨_,h1⟩|⟨h1,_⟩
 ·exact .inl ⟨hp,h1⟩
 ·omega
theorem HIv.s3 (h:HIv nd n node W D S G)(hi:i<n)(h3:(sv S i).pc=3)(hp:p'.pc=4)(hc:p'.c=lc W (node i)):HIv nd n node (W.set (1+node i) 0) D (S.set i p') G:=by
 have hf:=h.at234 hi (.inr (.inl h3));obtain⟨q1,q2⟩:=h.masterNot hf;have hv:=h.nn i hi;have hwl:1+node i<W.length:=by rw[h.wl];omega
 refine h.keep hi QY (λt _=>oO 0 hv) (q8 0) q1 (λhk=>absurd (bp hf) (hk _)) (λhne=>?_) (λm hm hne h4=>?_) (λ_ _=>by omega) (λv _=>?_) (λhh=>absurd hh q2)
 ·rcases h.mast i hne with⟨_,h1⟩|⟨h1,_⟩
  ·exact .inr ⟨hp,hc.trans h1⟩
  ·omega
 ·rw[jq 0 hwl,if_neg];intro e;exact hm (h.one m i hne (fB hf) e.symm h4 QX)
 ·rw[jq 0 hwl];by_cases e:node i=v;·exact .inl (by rw[if_pos e])
  ·exact .inr ⟨by rw[if_neg e],λe'=>absurd e'.symm e⟩
theorem HIv.same5 (h:HIv nd n node W D S G)(hi:i<n)(hp:p'=sv S i):HIv nd n node W D (S.set i p') G:=by
 have:S.set i p'=S:=by
  subst hp;apply List.ext_getElem?;intro j;rw[List.getElem?_set];by_cases e:i=j;·subst e;have:i<S.length:=(by rw[h.sl];exact hi);rw[if_pos rfl,if_pos this];exact IG
  ·rw[if_neg e]
 rw[this];exact h
theorem HIv.s5 (h:HIv nd n node W D S G)(hi:i<n)(h5:(sv S i).pc=5)(hb:isB W (2+(nd:Int)) n (sv S i).a=true):(G 0).head? =some i:=by
 rcases h.at5 hi h5 with⟨k,p,_,h2,h3⟩|h1
 ·have hp:=h.lt k p h2;rw[h3,vF h.wl h.n32 hp (by have:=h.d0 p;omega),h.tw p hp]at hb;have:=of_decide_eq_true hb;omega
 ·exact h1.1
theorem HIv.s5n (h:HIv nd n node W D S G)(hf:(G 0).head? =some i)(h5:(sv S i).pc=5):isB W (2+(nd:Int)) n (sv S i).a=true:=by
 rcases h.front i hf with⟨_,t,d,h1,h2,h3,h4⟩|h1|h1
 ·rw[h4,vF h.wl h.n32 h1 QX,h.tw t h1];exact decide_eq_true h3
 ·omega
 ·omega
theorem HIv.s1a (h:HIv nd n node W D S G)(hi:i<n)(h1:(sv S i).pc=1)(hl:lc W (node i)=0)(hp:(p'.pc=2/\0<p'.b)\/p'.pc=3):HIv nd n node (W.set (1+node i) (tokH i (dv D i+1))) D (S.set i p') (upd G (i+1) [i]):=by
 have hk:=h.at01 (.inr h1);have hv:=h.nn i hi;have hwl:1+node i<W.length:=by rw[h.wl];omega
 have hii:=oJ (S:=S) (i:=i) (p':=p') RB;have hlt:eA D [i]=tokH i (dv D i+1):=dm rfl
 have hnone:∀m,G (m+1)≠[]->(sv S m).pc<4->node m≠node i:=λm hm h4 e=>by
  rcases h.mast m hm with⟨_,h2⟩|⟨h2,_⟩
  ·rw[e,hl]at h2;obtain⟨t,ht,_⟩:=jW hm;rw[dm ht]at h2;exact q9 (by have:=h.d0 t;omega) h2.symm
  ·omega
 have hu:∀k,k≠i+1->upd G (i+1) [i] k=G k:=λk e=>oV G _ e;have hum:∀m,m≠i->upd G (i+1) [i] (m+1)=G (m+1):=λm e=>hu _ QX;refine⟨by simp[h.wl],by simp[h.sl],h.dl,h.n32,h.nn,λt ht=>(oO _ hv).trans (h.tw t ht),h.d0,λk=>?_,λk k' t hk1 hk2=>?_,λk t hm=>?_,λk=>?_,λt ht hk1=>?_,λm hm=>?_,λm t hm=>?_,λm hm=>?_,λm m' hm hm' he h2 h3=>?_,λv hv'=>?_,λt ht=>?_,?_⟩
 ·by_cases e:k=i+1;·rw[e,ce];simp
  ·rw[hu k e];exact h.nod k
 ·by_cases e:k=i+1<;>by_cases e':k'=i+1;·omega
  ·rw[e,ce]at hk1;rw[hu k' e']at hk2;rw[List.mem_singleton.1 hk1]at hk2;exact absurd hk2 (hk k')
  ·rw[e',ce]at hk2;rw[hu k e]at hk1;rw[List.mem_singleton.1 hk2]at hk1;exact absurd hk1 (hk k)
  ·rw[hu k e]at hk1;rw[hu k' e']at hk2;exact h.dj k k' t hk1 hk2
 ·by_cases e:k=i+1;·rw[e,ce]at hm;rw[List.mem_singleton.1 hm];exact hi
  ·rw[hu k e]at hm;exact h.lt k t hm
 ·by_cases e:k=i+1;·rw[e,ce];exact⟨λb hb=>by simp at hb,trivial⟩
  ·rw[hu k e];refine(h.lk k).mono λa b _ hb hab=>?_;exact IH
 ·have e:t≠i:=λe=>hk1 (i+1) (by rw[ce,e];simp);rw[bS e];refine h.free t ht λk=>?_;by_cases e2:k=i+1;·rw[e2,h.nil1 hk];simp
  ·have:=hk1 k;rw[hu k e2]at this;exact this
 ·by_cases e:m=i;·rw[e,ce];rfl
  ·rw[hum m e]at hm ⊢;exact h.first m hm
 ·by_cases e:m=i;·rw[e,ce]at hm;rw[List.mem_singleton.1 hm,e]
  ·rw[hum m e]at hm;exact h.same m t hm
 ·by_cases e:m=i;·subst e;rw[ce,hii,jq _ hwl,if_pos rfl,hlt];exact .inl ⟨hp,rfl⟩
  ·rw[hum m e]at hm ⊢;rw[bS e];rcases h.mast m hm with⟨h2,h3⟩|h2
   ·refine .inl ⟨h2,?_⟩;rw[jq _ hwl,if_neg (λe'=>hnone m hm QX e'.symm)];exact h3
   ·exact .inr h2
 ·by_cases e:m=i<;>by_cases e':m'=i;·omega
  ·rw[hum m' e']at hm';rw[bS e']at h3;subst e;exact absurd he.symm (hnone m' hm' h3)
  ·rw[hum m e]at hm;rw[bS e]at h2;subst e';exact absurd he (hnone m hm h2)
  ·rw[hum m e]at hm;rw[hum m' e']at hm';rw[bS e]at h2;rw[bS e']at h3;exact h.one m m' hm hm' he h2 h3
 ·by_cases e:node i=v;·refine .inr ⟨i,by rw[ce];simp,?_,e⟩;rw[hii];omega
  ·rw[jq _ hwl,if_neg e];rcases h.loc v hv' with h2|⟨m,h2,h3,h4⟩
   ·exact .inl h2
   ·have e2:m≠i:=λe2=>e (by rw[<-e2];exact h4);exact .inr ⟨m,by rw[hum m e2];exact h2,by rw[bS e2];exact h3,h4⟩
 ·rw[hu 0 QX]at ht;rw[bS (λe=>hk 0 (by rw[<-e];exact bp ht))];exact h.front t ht
 ·rw[hu 0 QX,q8];exact h.tail
theorem HIv.s1b (h:HIv nd n node W D S G) (hi:i<n) (h1:(sv S i).pc=1) (hl:lc W (node i)≠0) (hp:p'.pc=5) (ha:p'.a=lc W (node i)):
    ∃m t,G (m+1)≠[]/\t∈G (m+1)/\node t=node i/\p'.a=tokH t (dv D t+1)/\HIv nd n node (W.set (1+node i) (tokH i (dv D i+1))) D (S.set i p') (upd G (m+1) (G (m+1)++[i])):=by
  have hk:=h.at01 (.inr h1);have hv:=h.nn i hi;have hwl:1+node i<W.length:=by rw[h.wl];omega
  have hii:=oJ (S:=S) (i:=i) (p':=p') RB;rcases h.loc (node i) hv with h2|⟨m,hm,hm4,hmn⟩
  · exact absurd h2 hl
  have hml:lc W (node m)=eA D (G (m+1)):=by
    rcases h.mast m hm with⟨_,h2⟩|⟨h2,_⟩
    · exact h2
    · omega
  obtain⟨t,ht,htm⟩:=jW hm;have hpa:p'.a=tokH t (dv D t+1):=by rw[ha,<-hmn,hml,dm ht]
  have hmi:m≠i:=λe=>by rw[e]at hm;exact hm (h.nil1 hk)
  refine⟨m,t,hm,htm,(h.same m t htm).trans hmn,hpa,?_⟩;have hu:∀k,k≠m+1->upd G (m+1) (G (m+1)++[i]) k=G k:=λk e=>oV G _ e;have hum:∀j,j≠m->upd G (m+1) (G (m+1)++[i]) (j+1)=G (j+1):=λj e=>hu _ QX;have hlast:eA D (G (m+1)++[i])=tokH i (dv D i+1):=by rw[kH _ QY];exact dm rfl
  have hne:∀j,upd G (m+1) (G (m+1)++[i]) (j+1)≠[]->G (j+1)≠[]:=λj hj=>by
    by_cases e:j=m;· rw[e];exact hm
    · rw[hum j e]at hj;exact hj
  refine⟨by simp[h.wl],by simp[h.sl],h.dl,h.n32,h.nn,λt ht=>(oO _ hv).trans (h.tw t ht),h.d0,λk=>?_,λk k' t hk1 hk2=>?_,λk t hm=>?_,λk=>?_,λt ht hk1=>?_,λj hj=>?_,λj t hj=>?_,λj hj=>?_,λj j' hj hj' he h2 h3=>?_,λv hv'=>?_,λt ht=>?_,?_⟩
  · by_cases e:k=m+1;· rw[e,ce];refine List.nodup_append.2 ⟨h.nod _,by simp,λx hx y hy=>?_⟩;rw[List.mem_singleton.1 hy];rintro rfl;exact hk _ hx
    · rw[hu k e];exact h.nod k
  · by_cases e:k=m+1<;>by_cases e':k'=m+1;· omega
    · rw[e,ce]at hk1;rw[hu k' e']at hk2;rcases List.mem_append.1 hk1 with hk1|hk1
      · rw[e];exact h.dj _ _ t hk1 hk2
      · rw[List.mem_singleton.1 hk1]at hk2;exact absurd hk2 (hk k')
    · rw[e',ce]at hk2;rw[hu k e]at hk1;rcases List.mem_append.1 hk2 with hk2|hk2
      · rw[e'];exact h.dj _ _ t hk1 hk2
      · rw[List.mem_singleton.1 hk2]at hk1;exact absurd hk1 (hk k)
    · rw[hu k e]at hk1;rw[hu k' e']at hk2;exact h.dj k k' t hk1 hk2
  · by_cases e:k=m+1
    · rw[e,ce]at hm;rcases List.mem_append.1 hm with hm|hm
      · exact h.lt _ t hm
      · rw[List.mem_singleton.1 hm];exact hi
    · rw[hu k e]at hm;exact h.lt k t hm
  · have old:∀k,Lks (HLk D (S.set i p')) (G k):=λk=>(h.lk k).mono λa b _ hb hab=>by exact IH
    by_cases e:k=m+1;· rw[e,ce];refine(old _).append ⟨λb hb=>by simp at hb,trivial⟩ λa b ha' hb'=>?_;have e1:b=i:=(by simpa using hb'.symm);rw[ht]at ha';injection ha' with ha';subst e1 ha';unfold HLk;rw[hii];exact⟨hp,hpa⟩
    · rw[hu k e];exact old k
  · have e:t≠i:=λe=>hk1 (m+1) (by rw[ce,e];simp);rw[bS e];refine h.free t ht λk=>?_;by_cases e2:k=m+1;· have:=hk1 k;rw[e2,ce]at this;rw[e2];exact λhx=>this (List.mem_append_left _ hx)
    · have:=hk1 k;rw[hu k e2]at this;exact this
  · by_cases e:j=m;· rw[e,ce,List.head?_append,h.first m hm];rfl
    · rw[hum j e]at hj ⊢;exact h.first j hj
  · by_cases e:j=m
    · rw[e,ce]at hj;rcases List.mem_append.1 hj with hj|hj
      · rw[e];exact h.same m t hj
      · rw[List.mem_singleton.1 hj,e];exact hmn.symm
    · rw[hum j e]at hj;exact h.same j t hj
  · have hji:j≠i:=λe=>by have:=hne j hj;rw[e]at this;exact this (h.nil1 hk)
    rw[bS hji];by_cases e:j=m
    · subst e;rcases h.mast j hm with⟨h2,h3⟩|⟨h2,_⟩
      · exact .inl ⟨h2,by rw[ce,hlast,jq _ hwl,if_pos hmn.symm]⟩
      · omega
    · rw[hum j e]at hj ⊢;rcases h.mast j hj with⟨h2,h3⟩|h2
      · refine .inl ⟨h2,?_⟩;rw[jq _ hwl,if_neg];· exact h3
        · intro e';exact e (h.one j m hj hm (e'.symm.trans hmn.symm) QX hm4)
      · exact .inr h2
  · have e1:j≠i:=λe=>by have:=hne j hj;rw[e]at this;exact this (h.nil1 hk)
    have e2:j'≠i:=λe=>by have:=hne j' hj';rw[e]at this;exact this (h.nil1 hk)
    rw[bS e1]at h2;rw[bS e2]at h3;exact h.one j j' (hne j hj) (hne j' hj') he h2 h3
  · by_cases e:node i=v;· exact .inr ⟨m,by rw[ce];simp,by rw[bS hmi];exact hm4,hmn.trans e⟩
    · rw[jq _ hwl,if_neg e];rcases h.loc v hv' with h2|⟨j,h2,h3,h4⟩
      · exact .inl h2
      · have e2:j≠i:=λe2=>e (by rw[<-e2];exact h4);have e3:j≠m:=λe3=>e (by rw[<-h4,e3,hmn]);exact .inr ⟨j,by rw[hum j e3];exact h2,by rw[bS e2];exact h3,h4⟩
  · rw[hu 0 QX]at ht;rw[bS (λe=>hk 0 (by rw[<-e];exact bp ht))];exact h.front t ht
  · rw[hu 0 QX,q8];exact h.tail
end
end
section
open Go
section
variable{nd n:Nat}{node:Nat->Nat}{W W' D D':List Int}{S:List Sp}{G:Nat->List Nat}{i:Nat}{p':Sp}
def spl (G:Nat->List Nat)(i:Nat):Nat->List Nat:=λj=>if j=0 then G 0++G (i+1)else if j=i+1 then[]else G j
theorem yi (G:Nat->List Nat)(i:Nat):spl G i 0=G 0++G (i+1):=by unfold spl;rw[if_pos rfl]
theorem Dh (G:Nat->List Nat)(i:Nat):spl G i (i+1)=[]:=by unfold spl;rw[if_neg QX,if_pos rfl]
theorem Br (G:Nat->List Nat){i j:Nat}(h:j≠i):spl G i (j+1)=G (j+1):=by unfold spl;rw[if_neg QX,if_neg QX]
theorem Dv (x:Int)(h:0<W.length):tl (W.set 0 x)=x:=g8 _ _ _ h
theorem vH{v:Nat}(x:Int):lc (W.set 0 x) v=lc W v:=cZ _ _ _ QX
theorem BA{t:Nat}(x:Int):tnw nd (W.set 0 x) t=tnw nd W t:=cZ _ _ _ QX
theorem qL{k t:Nat}(hm:t∈spl G i k):∃k',t∈G k'/\(k=k'\/(k=0/\k'=i+1)):=by
 unfold spl at hm;split at hm
 ·rename_i e;rcases List.mem_append.1 hm with hm|hm
  ·exact⟨0,hm,.inl e⟩
  ·exact⟨i+1,hm,.inr ⟨e,rfl⟩⟩
 ·split at hm;·simp at hm
  ·exact⟨k,hm,.inl rfl⟩
theorem HIv.s4 (h:HIv nd n node W D S G) (hi:i<n) (h4:(sv S i).pc=4) (hp:(tl W=0/\p'.pc=10)\/(tl W≠0/\p'.pc=5)) (ha:p'.a=tl W):
    (∃r,G (i+1)=i :: r)/\(p'.pc=10->G 0=[])/\HIv nd n node (W.set 0 (sv S i).c) D (S.set i p') (spl G i):=by
  have hf:=h.at234 hi (.inr (.inr h4));have hne:=fB hf;have hwl:0<W.length:=by rw[h.wl];omega
  have hii:=oJ (S:=S) (i:=i) (p':=p') RB;obtain⟨q1,q2⟩:=h.masterNot hf
  have hc:(sv S i).c=eA D (G (i+1)):=by
    rcases h.mast i hne with⟨h2,_⟩|⟨_,h2⟩
    · omega
    · exact h2
  have hempty:p'.pc=10->G 0=[]:=λe=>by
    rcases h.tail with⟨h2,h3⟩|⟨h2,_⟩
    · rcases hp with⟨h5,_⟩|⟨_,h6⟩
      · obtain⟨t,ht,_⟩:=jW h3;rw[h5,dm ht]at h2;exact absurd h2.symm (q9 (by have:=h.d0 t;omega))
      · omega
    · exact h2
  refine⟨?_,hempty,?_⟩
  · cases hr:G (i+1)with
    | nil=>exact absurd hr hne
    | cons a r=>rw[hr]at hf;simp at hf;subst hf;exact⟨r,rfl⟩
  have old:∀k,Lks (HLk D (S.set i p')) (G k):=λk=>(h.lk k).mono λa b _ hb hab=>by have:b≠i:=λe=>q1 k (e ▸ hb);unfold HLk;rw[bS this];exact hab
  have hm0:∀m,spl G i (m+1)≠[]->m≠i/\G (m+1)≠[]:=λm hm=>by
    by_cases e:m=i;· rw[e,Dh]at hm;exact absurd rfl hm
    · rw[Br G e]at hm;exact⟨e,hm⟩
  refine⟨by simp[h.wl],by simp[h.sl],h.dl,h.n32,h.nn,λt ht=>(BA _).trans (h.tw t ht),h.d0,λk=>?_,λk k' t hk1 hk2=>?_,λk t hm=>?_,λk=>?_,λt ht hk1=>?_,λm hm=>?_,λm t hm=>?_,λm hm=>?_,λm m' hm hm' he h2 h3=>?_,λv hv'=>?_,λt ht=>?_,?_⟩
  · unfold spl;split;· refine List.nodup_append.2 ⟨h.nod _,h.nod _,λx hx y hy e=>?_⟩;subst e;have:=h.dj _ _ _ hx hy;omega
    · split;· exact List.nodup_nil
      · exact h.nod k
  · obtain⟨j,hj,ej⟩:=qL hk1;obtain⟨j',hj',ej'⟩:=qL hk2;have e:=h.dj _ _ _ hj hj';subst e;rcases ej with rfl|⟨rfl,rfl⟩<;>rcases ej' with e'|⟨rfl,e'⟩
    · exact e'.symm
    · subst e';rw[Dh]at hk1;simp at hk1
    · subst e';rw[Dh]at hk2;simp at hk2
    · rfl
  · obtain⟨j,hj,_⟩:=qL hm;exact h.lt j t hj
  · unfold spl;split
    · refine(old 0).append (old _) λa b ha' hb'=>?_;rw[hf]at hb';injection hb' with hb';subst hb';rcases h.tail with⟨h2,h3⟩|⟨h2,_⟩
      · unfold HLk;rw[hii,ha,h2,dm ha'];refine⟨?_,rfl⟩;rcases hp with⟨h5,_⟩|⟨_,h6⟩
        · rw[h5,dm ha']at h2;exact absurd h2.symm (q9 (by have:=h.d0 a;omega))
        · exact h6
      · rw[h2]at ha';simp at ha'
    · split;· trivial
      · exact old k
  · have e:t≠i:=λe=>hk1 0 (by rw[yi,e];exact List.mem_append_right _ (bp hf));rw[bS e];refine h.free t ht λk hk=>?_;by_cases e0:k=0;· subst e0;exact hk1 0 (by rw[yi];exact List.mem_append_left _ hk)
    · by_cases e1:k=i+1;· subst e1;exact hk1 0 (by rw[yi];exact List.mem_append_right _ hk)
      · exact hk1 k (by unfold spl;rw[if_neg e0,if_neg e1];exact hk)
  · obtain⟨e,hm1⟩:=hm0 m hm;rw[Br G e];exact h.first m hm1
  · have e:m≠i:=λe=>by rw[e,Dh]at hm;simp at hm
    rw[Br G e]at hm;exact h.same m t hm
  · obtain⟨e,hm1⟩:=hm0 m hm;rw[Br G e,bS e,vH];exact h.mast m hm1
  · obtain⟨e,hm1⟩:=hm0 m hm;obtain⟨e',hm1'⟩:=hm0 m' hm';rw[bS e]at h2;rw[bS e']at h3;exact h.one m m' hm1 hm1' he h2 h3
  · rw[vH];rcases h.loc v hv' with h2|⟨m,h2,h3,h5⟩
    · exact .inl h2
    · have e:m≠i:=λe=>by rw[e]at h3;omega
      exact .inr ⟨m,by rw[Br G e];exact h2,by rw[bS e];exact h3,h5⟩
  · rw[yi]at ht;by_cases h0:G 0=[]
    · rw[h0,List.nil_append,hf]at ht;injection ht with ht;subst ht;rw[hii];rcases hp with⟨_,h5⟩|⟨h5,h6⟩
      · exact .inr (.inl h5)
      · refine .inl ⟨h6,?_⟩;rw[ha];rcases h.tail with⟨_,h3⟩|⟨_,h3|h3⟩
        · exact absurd h0 h3
        · exact absurd h3 h5
        · exact h3
    · have ht':(G 0).head? =some t:=by
        cases hg:G 0 with
        | nil=>exact absurd hg h0
        | cons a l=>rw[hg]at ht;simpa using ht
      rw[bS (λe:t=i=>q2 (by rw[<-e];exact ht'))];exact h.front t ht'
  · rw[yi,Dv _ hwl];exact .inl ⟨by rw[kH _ hne];exact hc,by simp[hne]⟩
theorem Dn.mono{w:Int}(h:Dn n D w)(hd:∀t,dv D t<=dv D' t):Dn n D' w:=by obtain⟨t,d,h1,h2,h3,h4⟩:=h;exact⟨t,d,h1,h2,by have:=hd t;omega,h4⟩
theorem zE (hl:i<D.length)(x:Int)(t:Nat):dv (D.set i x) t=if i=t then x else dv D t:=by
 unfold dv;by_cases e:i=t;·subst e;rw[g8 _ _ _ hl,if_pos rfl]
 ·rw[cZ _ _ _ e,if_neg e]
theorem mf{l:List Nat}(h:∀t∈l,dv D' t=dv D t):eA D' l=eA D l:=by
 unfold eA;cases hl:l.getLast? with
 |none=>rfl
 |some t=>simp only;rw[h t (List.mem_of_getLast? hl)]
theorem HIv.s11 (h:HIv nd n node W D S G) (hi:i<n) (hf:(G 0).head? =some i) (hp:p'.pc=0) (x:Int) (hx:x=dv D i+1):
    HIv nd n node (W.set (1+nd+i) x) (D.set i (dv D i+1)) (S.set i p') (upd G 0 (G 0).tail):=by
  have hm0:=bp hf;have hwl:1+nd+i<W.length:=by rw[h.wl];omega
  have hdl:i<D.length:=by have:=h.dl;omega
  have hii:=oJ (S:=S) (i:=i) (p':=p') RB;have hiT:i∉(G 0).tail:=ie (h.nod 0) hf;have hiO:∀k,k≠0->i∉G k:=λk hk hm=>hk (h.dj _ _ _ hm hm0)
  have hnt:∀k,i∉(G k).tail:=λk hm=>by
    by_cases e:k=0;· subst e;exact hiT hm
    · exact hiO k e (List.mem_of_mem_tail hm)
  have hlcs:∀v,v<nd->lc (W.set (1+nd+i) x) v=lc W v:=λv hv=>cZ _ _ _ QX;have htls:tl (W.set (1+nd+i) x)=tl W:=cZ _ _ _ QX
  have htws:∀t,tnw nd (W.set (1+nd+i) x) t=if i=t then x else tnw nd W t:=λt=>by
    unfold tnw;by_cases e:i=t;· subst e;rw[g8 _ _ _ hwl,if_pos rfl]
    · rw[cZ _ _ _ QX,if_neg e]
  have hdv:=zE hdl (dv D i+1);have hdn:∀t,t≠i->dv (D.set i (dv D i+1)) t=dv D t:=λt e=>by rw[hdv,if_neg (λh=>e h.symm)]
  have hle:∀t,dv D t<=dv (D.set i (dv D i+1)) t:=λt=>by rw[hdv];split<;>(try subst_vars)<;>omega
  have hu:∀k,k≠0->upd G 0 (G 0).tail k=G k:=λk e=>oV G _ e
  have hsub:∀k t,t∈upd G 0 (G 0).tail k->t∈G k/\t≠i:=λk t hm=>by
    by_cases e:k=0;· subst e;rw[ce]at hm;exact⟨List.mem_of_mem_tail hm,λe=>hiT (e ▸ hm)⟩
    · rw[hu k e]at hm;exact⟨hm,λe'=>hiO k e (e' ▸ hm)⟩
  have hchain:∀k,Lks (HLk D S) (upd G 0 (G 0).tail k):=λk=>by
    by_cases e:k=0;· subst e;rw[ce];exact(h.lk 0).tail
    · rw[hu k e];exact h.lk k
  have hne1:∀m,G (m+1)≠[]->m≠i:=λm hm e=>by subst e;exact hiO _ QX (bp (h.first m hm))
  have hlt:∀k,k≠0->eA (D.set i (dv D i+1)) (G k)=eA D (G k):=λk e=>mf λt ht=>hdn t λe'=>hiO k e (e' ▸ ht);refine⟨by simp[h.wl],by simp[h.sl],by simpa using h.dl,h.n32,h.nn,λt ht=>?_,λt=>?_,λk=>?_,λk k' t hk1 hk2=>?_,λk t hm=>?_,λk=>?_,λt ht hk1=>?_,λm hm=>?_,λm t hm=>?_,λm hm=>?_,λm m' hm hm' he h2 h3=>?_,λv hv'=>?_,λt ht=>?_,?_⟩
  · rw[htws,hdv,hx];split;· rfl
    · exact h.tw t ht
  · have:=hle t;have:=h.d0 t;omega
  · by_cases e:k=0;· subst e;rw[ce];exact(h.nod 0).sublist (List.tail_sublist _)
    · rw[hu k e];exact h.nod k
  · exact h.dj k k' t (hsub k t hk1).1 (hsub k' t hk2).1
  · exact h.lt k t (hsub k t hm).1
  · refine(hchain k).mono λa b ha hb hab=>?_;have e1:=(hsub k a ha).2;have e2:=(hsub k b (List.mem_of_mem_tail hb)).2;unfold HLk;rw[bS e2,hdn a e1];exact hab
  · by_cases e:t=i;· subst e;rw[hii];exact .inl hp
    · rw[bS e];refine h.free t ht λk hk=>hk1 k ?_;by_cases e2:k=0
      · subst e2;rw[ce];rcases AO hk with h3|h3
        · rw[hf]at h3;injection h3 with h3;exact absurd h3.symm e
        · exact h3
      · rw[hu k e2];exact hk
  · rw[hu _ QX]at hm ⊢;exact h.first m hm
  · rw[hu _ QX]at hm;exact h.same m t hm
  · rw[hu _ QX]at hm ⊢;have e:=hne1 m hm;rw[bS e,hlcs _ (h.nn m (h.lt _ _ (bp (h.first m hm)))),hlt _ QX];exact h.mast m hm
  · rw[hu _ QX]at hm hm';rw[bS (hne1 m hm)]at h2;rw[bS (hne1 m' hm')]at h3;exact h.one m m' hm hm' he h2 h3
  · rw[hlcs v hv'];rcases h.loc v hv' with h2|⟨m,h2,h3,h4⟩
    · exact .inl h2
    · exact .inr ⟨m,by rw[hu _ QX];exact h2,by rw[bS (hne1 m h2)];exact h3,h4⟩
  · rw[ce]at ht;have htm:=bp ht;have e:t≠i:=λe=>hiT (e ▸ htm);rw[bS e];obtain⟨h5,p,hpm,hpa⟩:=h.notail htm;refine .inl ⟨h5,?_⟩
    have hpi:p=i:=by
      have hc:=h.lk 0;cases hg:G 0 with
      | nil=>rw[hg]at ht;simp at ht
      | cons a l=>rw[hg]at hc hf ht;simp at hf ht;subst hf;have:=(hc.1 t ht).2;rw[hpa]at this;exact(Dw (by have:=h.lt 0 p hpm;have:=h.n32;omega) (by have:=h.n32;omega) this).1
    subst hpi;exact⟨p,dv D p+1,hi,by have:=h.d0 p;omega,by rw[hdv,if_pos rfl];exact Int.le_refl _,hpa⟩
  · rw[ce,htls];rcases h.tail with⟨h2,h3⟩|⟨h2,h3⟩
    · cases hg:G 0 with
      | nil=>exact absurd hg h3
      | cons a l=>
        rw[hg]at hf h2;simp at hf;subst hf;cases l with
        | nil=>exact .inr ⟨rfl,.inr ⟨a,dv D a+1,hi,by have:=h.d0 a;omega,by rw[hdv,if_pos rfl];exact Int.le_refl _,by rw[h2];exact dm rfl⟩⟩
        | cons b l=>refine .inl ⟨?_,by simp⟩;have e1:eA D (a :: b :: l)=eA D (b :: l):=(by unfold eA;rw[List.getLast?_cons_cons]);rw[h2,e1];refine(mf λt ht=>hdn t λe=>?_).symm;rw[hg]at hiT;exact hiT (e ▸ ht)
    · rw[h2]at hf;simp at hf
end
end
section
open Go.RowKit
theorem d9.put{w:World}{u a:Nat}{f:Int}{n:Nat}{D:List Int}(h:d9 w u a f n D){i:Nat}(v:Int):d9 (w.setCell ⟨u,3+i,none⟩ (.int .i64 v)) u a f n (D.set i v):=by
 refine⟨?_,by simp[h.len],h.n32,h.f0⟩;have h1:=h.blk.set_ (3+i) (.int .i64 v);have e:(tuC a f n D).toArray.setIfInBounds (3+i) (.int .i64 v)=(tuC a f n (D.set i v)).toArray:=by rw[List.setIfInBounds_toArray];congr 1;unfold tuC;rw[List.set_append_right _ _ QY];simp[List.map_set]
 rw[e]at h1;exact h1
theorem d9.drew{w:World}{u a:Nat}{f:Int}{n:Nat}{D:List Int}(h:d9 w u a f n D):d9 w.drew u a f n D:=h.below ((Below.refl _ _).drew)
theorem aA.drew{w:World}{a g:Nat}{s:Ar}(h:aA w a g s):aA w.drew a g s:=h.turns (S:=[]) ((aa.refl _ _).drew) QY QY
theorem FR {w:World} {u a g:Nat} {f:Int} {n:Nat} {D:List Int} {s:Ar} (h:aA w a g s) (k:d9 w u a f n D) (hua:u≠a) (hug:u≠g) (i:Nat) (hi:i<n) (hd:0<=dv D i/\dv D i<1000000000) (ho:s.ops+1<=1000000000000):
    Calls Tryz.prog 292 #[↑u,.int .i64 i] w λe w'=>e= .returned (.tuple #[])/\aA w' a g (addA s (f+i) 1)/\d9 w' u a f n (D.set i (dv D i+1))/\aa [a,g,u] w w':=by
  have h32:=k.n32;obtain⟨f0,f1⟩:=k.f0;have hi3:i<32:=by omega
  have hi2:(i:Int)<32:=by omega
  have c3:=k.c3 (i:=i) hi3;have z3:=k.blk.free (3+i);have hul:=k.blk.lt;have HH:=qh (CJ k i true (decide_eq_true QX));obtain⟨d,hd1⟩:∃d,d=dv D i:=⟨_,rfl⟩;rw[<-hd1]at c3 hd ⊢;obtain⟨hd2,hd3⟩:=hd;have ha1:aA (w.setCell ⟨u,3+i,none⟩ (.int .i64 (d+1))).drew a g s:=(h.turns (S:=[u]) ((aa.refl _ _).setCell (.inl QY) _) (by simpa using Ne.symm hua) (by simpa using Ne.symm hug)).drew;have hk1:d9 (w.setCell ⟨u,3+i,none⟩ (.int .i64 (d+1))).drew u a f n (D.set i (d+1)):=(k.put (i:=i) (d+1)).drew;have ht1:aa [a,g,u] w (w.setCell ⟨u,3+i,none⟩ (.int .i64 (d+1))).drew:=((aa.refl _ _).setCell (.inl QY) _).drew;have HK:=qh (And.intro ha1 (And.intro hk1 ht1));have HU:=qh (show u∉[a,g]by simp[hua,hug]);clear h k hd1 ha1 hk1 ht1 hua hug;go_enter Tryz.func292,Tryz.ntmps292;go_wp2_with fail;refine HH.o.mono ?_;rintro en w' ⟨rfl,rfl⟩;go_wp2_with fail;refine wp_region_still_tail 10 Q0 Q0 ?_;simp only[List.take_succ_cons,List.take_zero,List.drop_succ_cons,List.drop_zero];change wpStill _ _ (World.drew _) _ _ _;repeat still_step
  refine wpStill_nil ?_;change wpList _ _ _ _ _ (World.drew w);go_wp2_with fail;generalize hW:(w.setCell ⟨u,3+i,none⟩ (.int .i64 (d+1))).drew=W at HK ⊢;have s0:=HK.o.2.1.c0;have s1:=HK.o.2.1.c1;have x1:IntKind.i64.wrap (f+i)=f+i:=IntWalk.i64_in _ QX;have HL0:=(λV (h:aA V a g s)=>gY h (f+i) 1 ho);obtain⟨r,hr⟩:∃r:Int,r=(if inR s.W (f+i)=true then IntKind.i64.wrap (ldW s.W (f+i)+1)else 0):=⟨_,rfl⟩;rw[<-hr]at HL0;have HL:=qh HL0;clear HL0 hr;clear hW c3;refine wp_region_still_tail 10 Q0 Q0 ?_;simp only[List.take_succ_cons,List.take_zero,List.drop_succ_cons,List.drop_zero];change wpStill _ _ (World.drew _) _ _ _;repeat still_step
  refine wpStill_nil ?_;change wpList _ _ _ _ _ (World.drew W);go_wp2_with fail;refine(HL.o _ HK.o.1.drew).mono ?_;rintro en w2 ⟨rfl,h2,t2⟩;have H2:=qh (And.intro h2 (And.intro (HK.o.2.1.drew.turns t2 HU.o) ((HK.o.2.2.drew).trans (t2.mono QY))));clear h2 t2;go_wp2;go_end0;exact⟨rfl,H2.o⟩
theorem Hy {w:World} {a g:Nat} {s:Ar} (h:aA w a g s) (n:Nat) (h1:1<=n) (h2:n<=32) (hr:(n:Int)<=(s.room:Int)-s.W.length):
    Calls Tryz.prog 144 #[↑a,.int .i64 n] w λe w'=>∃u,e= .returned (.tuple #[.pointer (some ⟨u,0,none⟩),.int .i64 0])/\w.heap.size<=u/\aA w' a g {s with W:=s.W++List.replicate n 0}/\d9 w' u a (s.W.length+1) n (List.replicate 32 0)/\aa [a] w w':=by
  have hle:=h.le;have hro:=h.room;have HT:Kq (dV s n=({s with W:=s.W++List.replicate n 0},(s.W.length:Int)+1,(0:Int))):=qh (by unfold dV;rw[if_neg QX,if_neg QX];simp);have H:=qh h;have e1:¬(n:Int)<1:=by omega
  have e2:¬32<(n:Int):=by omega
  clear h;go_enter Tryz.func144,Tryz.ntmps144;go_wp2_with fail;refine(gb H.o n).mono ?_;rintro en w1 ⟨rfl,k1,t1⟩;rw[HT.o]at k1 ⊢;have hsz:=t1.size;have H1:=qh (And.intro k1 (And.intro t1 hsz));have hsl:(s.W.length:Int)<=4096:=by omega
  clear k1 t1 hsz;go_wp2;go_ret2;refine⟨w1.heap.size,rfl,H1.o.2.2,H1.o.1.turns (S:=[]) ((aa.refl _ _).alloc _) QY QY,⟨?_,by simp,h2,by omega,by omega⟩,(H1.o.2.1).alloc _⟩;have:=Blk.new w1 322 (tuC a (s.W.length+1) n (List.replicate 32 0)).toArray;exact this
end
section
open Go
structure HOk (nd n:Nat)(dl:Int)(node:Nat->Nat)(h:Hc)(N:Nat)(G:Nat->List Nat):Prop where
 iv:HIv nd n node h.ar.W h.D h.S G
 ops:h.ar.ops<=N
 dn:∀t,dv h.D t<=N
 bb:∀t,t<n->(sv h.S t).pc=2->(sv h.S t).b<=dl
structure StH (n:Nat)(node:Nat->Nat)(p p':Sp)(i:Nat)(Q Q':List Nat):Prop where
 row:p.pc=1->p'.pc=5->∃(t:Nat) (d:Int),t<n/\node t=node i/\0<=d/\p'.a=tokH t d
 stay:p.pc≠4->p.pc≠11->Q'=Q
 splice:p.pc=4->(∃r,Q'=Q++i :: r)/\(p'.pc=10->Q=[])
 gone:p.pc=11->Q.head? =some i/\Q'=Q.tail
 enter:p'.pc=10->p.pc≠10->p.pc=4\/(p.pc=5/\Q.head? =some i)
 look:p.pc=5->Q.head? =some i->p'.pc=10
 only:p.pc=1\/p.pc=2\/p.pc=3\/p.pc=4\/p.pc=5\/p.pc=11
 less:p.pc≠5->p'.pc=p.pc->p'.pc=2/\p'.b=p.b-1/\1<=p'.b
 next:p'.pc=p.pc\/(p.pc=1/\(p'.pc=2\/p'.pc=3\/p'.pc=5))\/(p.pc=2/\p'.pc=3)\/(p.pc=3/\p'.pc=4)\/(p.pc=4/\(p'.pc=5\/p'.pc=10))\/(p.pc=5/\p'.pc=10)\/(p.pc=11/\p'.pc=0)
section
variable{nd n N i:Nat}{dl:Int}{node:Nat->Nat}{h:Hc}{G:Nat->List Nat}
theorem nL{p:Sp}:hJ p=true↔(p.pc=1\/p.pc=2\/p.pc=3\/p.pc=4\/p.pc=5\/p.pc=11):=by unfold hJ;simp[or_assoc]
theorem HOk.pcs (k:HOk nd n dl node h N G)(hi:i<n):(sv h.S i).pc=0\/(sv h.S i).pc=1\/(sv h.S i).pc=2\/(sv h.S i).pc=3\/(sv h.S i).pc=4\/(sv h.S i).pc=5\/(sv h.S i).pc=10\/(sv h.S i).pc=11:=by
 rcases Classical.em (∀k,i∉G k)with hk|hk
 ·have:=k.iv.free i hi hk;omega
 ·obtain⟨j,hk⟩:=Classical.not_forall.1 hk;rcases k.iv.inG (Classical.not_not.1 hk)with h1|⟨h0,⟨_,h1⟩|⟨_,h1⟩⟩<;>omega
theorem F6 (s:Ar)(f:Int)(n:Nat)(w:Int):(isA s f n w).W=s.W:=by unfold isA;split<;>simp[aM]
theorem qq (s:Ar)(f:Int)(n:Nat)(w:Int):(isA s f n w).ops<=s.ops+1:=by unfold isA;split<;>simp[iF]
theorem HOk.bset (k:HOk nd n dl node h N G)(hi:i<n){p':Sp}(hb:p'.pc=2->p'.b<=dl):∀t,t<n->(sv (h.S.set i p') t).pc=2->(sv (h.S.set i p') t).b<=dl:=λt ht h2=>by
 by_cases e:t=i
 ·subst e
  rw[oJ (by rw[k.iv.sl];exact hi)]at h2 ⊢
  exact hb h2
 ·rw[bS e]at h2 ⊢;exact k.bb t ht h2
theorem HOk.step (k:HOk nd n dl node h N G) (hN:N<1000000) (hi:i<n) (hg:hJ (sv h.S i)=true) (x:Ar×List Int×Sp) (hx:x=bm nd n dl h (node i) i (sv h.S i)):
    ∃G',HOk nd n dl node ⟨x.1,x.2.1,h.S.set i x.2.2⟩ (N+1) G'/\StH n node (sv h.S i) x.2.2 i (G 0) (G' 0):=by
  have hv:=k.iv.nn i hi;have hl1:=F7 (W:=h.ar.W) (n:=n) k.iv.wl hv;have hs1:=λy=>GN (W:=h.ar.W) (n:=n) k.iv.wl hv y;have hdn:∀t,dv h.D t<=(N+1:Nat):=λt=>by have:=k.dn t;omega
  have hops:∀{s:Ar},s.ops<=h.ar.ops+1->s.ops<=N+1:=λhs=>by have:=k.ops;omega
  rcases nL.1 hg with e|e|e|e|e|e
  · have hx':x=(bY h.ar (2+(node i:Int)) (tokH i (dv h.D i+1)),h.D,
      if lc h.ar.W (node i)≠0 then {sv h.S i with a:=lc h.ar.W (node i),pc:=5} else if 0<dl then {sv h.S i with a:=lc h.ar.W (node i),b:=dl,pc:=2} else {sv h.S i with a:=lc h.ar.W (node i),b:=0,pc:=3}):=by
      rw[hx];unfold bm;rw[if_pos e,hl1]
    by_cases c:lc h.ar.W (node i)=0
    · have hx2:x.2.2=if 0<dl then {sv h.S i with a:=lc h.ar.W (node i),b:=dl,pc:=2} else {sv h.S i with a:=lc h.ar.W (node i),b:=0,pc:=3}:=by rw[hx'];simp only[c,ne_eq,not_true,if_false]
      have hp:(x.2.2.pc=2/\0<x.2.2.b)\/x.2.2.pc=3:=by
        rw[hx2];split;· rename_i hdl;exact .inl ⟨rfl,hdl⟩
        · exact .inr rfl
      have hb:x.2.2.pc=2->x.2.2.b<=dl:=by
        rw[hx2];split;· intro _;exact Int.le_refl _
        · intro h2;exact absurd h2 (by show ¬(3:Int)=2;decide)
      refine⟨upd G (i+1) [i],⟨?_,by rw[hx'];exact hops (eP _ _ _),by rw[hx'];exact hdn,k.bset hi hb⟩,?_⟩;· have:=k.iv.s1a hi e c hp;show HIv nd n node x.1.W x.2.1 _ _;rw[show x.1.W=h.ar.W.set (1+node i) (tokH i (dv h.D i+1))by rw[hx'];show(bY _ _ _).W=_;rw[dI,hs1],show x.2.1=h.D by rw[hx']];exact this
      · have h5:¬x.2.2.pc=5:=(by omega);refine⟨λ_ h=>absurd h h5,λ_ _=>oV _ _ QX,λh=>by omega,λh=>by omega,λh=>by omega,λh=>by omega,.inl e,λ_ h=>by omega,by omega⟩
    · have hx2:x.2.2={sv h.S i with a:=lc h.ar.W (node i),pc:=5}:=(by rw[hx'];simp only[c,ne_eq,not_false_iff,if_true]);obtain⟨m,t,hm,ht,hnt,hpa,hiv⟩:=k.iv.s1b (p':=x.2.2) hi e c (by rw[hx2]) (by rw[hx2]);have h5:x.2.2.pc=5:=(by rw[hx2]);refine⟨upd G (m+1) (G (m+1)++[i]),⟨?_,by rw[hx'];exact hops (eP _ _ _),by rw[hx'];exact hdn,k.bset hi QX⟩,?_⟩;· show HIv nd n node x.1.W x.2.1 _ _;rw[show x.1.W=h.ar.W.set (1+node i) (tokH i (dv h.D i+1))by rw[hx'];show(bY _ _ _).W=_;rw[dI,hs1],show x.2.1=h.D by rw[hx']];exact hiv
      · exact⟨λ_ _=>⟨t,_,k.iv.lt _ t ht,hnt,by have:=k.iv.d0 t;omega,hpa⟩,λ_ _=>oV _ _ QX,λh=>by omega,λh=>by omega,λh=>by omega,λh=>by omega,.inl e,λ_ h=>by omega,by omega⟩
  · have hx':x=(h.ar,h.D,{sv h.S i with b:=(sv h.S i).b-1,pc:=if 0<(sv h.S i).b-1 then 2 else 3}):=by rw[hx];unfold bm;rw[if_neg QX,if_pos e]
    have hp:(x.2.2.pc=2/\0<x.2.2.b)\/x.2.2.pc=3:=by
      rw[hx'];show((if _ then(2:Int)else 3)=2/\_)\/(if _ then(2:Int)else 3)=3;split;· rename_i hb;exact .inl ⟨rfl,hb⟩
      · exact .inr rfl
    have hb:x.2.2.b=(sv h.S i).b-1:=(by rw[hx']);have:=k.bb i hi e;refine⟨G,⟨?_,by rw[hx'];exact hops (Nat.le_succ _),by rw[hx'];exact hdn,k.bset hi QX⟩,⟨λh=>by omega,λ_ _=>rfl,λh=>by omega,λh=>by omega,λh=>by omega,λh=>by omega,.inr (.inl e),λ_ h=>by omega,by omega⟩⟩;show HIv nd n node x.1.W x.2.1 _ _;rw[show x.1.W=h.ar.W by rw[hx'],show x.2.1=h.D by rw[hx']];exact k.iv.s2 hi e hp
  · have hx':x=(bY h.ar (2+(node i:Int)) 0,h.D,{sv h.S i with c:=lc h.ar.W (node i),pc:=4}):=(by rw[hx];unfold bm;rw[if_neg QX,if_neg QX,if_pos e,hl1]);have hp:x.2.2.pc=4:=(by rw[hx']);refine⟨G,⟨?_,by rw[hx'];exact hops (eP _ _ _),by rw[hx'];exact hdn,k.bset hi QX⟩,⟨λh=>by omega,λ_ _=>rfl,λh=>by omega,λh=>by omega,λh=>by omega,λh=>by omega,.inr (.inr (.inl e)),λ_ h=>by omega,by omega⟩⟩;show HIv nd n node x.1.W x.2.1 _ _;rw[show x.1.W=h.ar.W.set (1+node i) 0 by rw[hx'];show(bY _ _ _).W=_;rw[dI,hs1],show x.2.1=h.D by rw[hx']];exact k.iv.s3 hi e hp (by rw[hx'])
  · have hx':x=(bY h.ar 1 (sv h.S i).c,h.D,{sv h.S i with a:=tl h.ar.W,pc:=if tl h.ar.W=0 then 10 else 5}):=by rw[hx];unfold bm;rw[if_neg QX,if_neg QX,if_neg QX,if_pos e,ED k.iv.wl]
    have hp:(tl h.ar.W=0/\x.2.2.pc=10)\/(tl h.ar.W≠0/\x.2.2.pc=5):=by
      rw[hx'];by_cases c:tl h.ar.W=0;· exact .inl ⟨c,by show(if _ then(10:Int)else 5)=10;rw[if_pos c]⟩
      · exact .inr ⟨c,by show(if _ then(10:Int)else 5)=5;rw[if_neg c]⟩
    obtain⟨⟨r,hr⟩,he,hiv⟩:=k.iv.s4 (p':=x.2.2) hi e hp (by rw[hx']);refine⟨spl G i,⟨?_,by rw[hx'];exact hops (eP _ _ _),by rw[hx'];exact hdn,k.bset hi QX⟩,⟨λh=>by omega,λh=>by omega,λ_=>⟨⟨r,by rw[yi,hr]⟩,he⟩,λh=>by omega,λ_ _=> .inl e,λh=>by omega,.inr (.inr (.inr (.inl e))),λ_ h=>by omega,by omega⟩⟩;show HIv nd n node x.1.W x.2.1 _ _;rw[show x.1.W=h.ar.W.set 0 (sv h.S i).c by rw[hx'];show(bY _ _ _).W=_;rw[dI,Fc k.iv.wl],show x.2.1=h.D by rw[hx']];exact hiv
  · have hx':x=(isA h.ar (2+(nd:Int)) n (sv h.S i).a,h.D,{sv h.S i with pc:=if isB h.ar.W (2+(nd:Int)) n (sv h.S i).a then 10 else 5}):=(by rw[hx];unfold bm;rw[if_neg QX,if_neg QX,if_neg QX,if_neg QX,if_pos e]);have hW:x.1.W=h.ar.W:=(by rw[hx'];exact F6 _ _ _ _);have hD:x.2.1=h.D:=(by rw[hx']);cases c:isB h.ar.W (2+(nd:Int)) n (sv h.S i).a
    · have hx2:x.2.2=sv h.S i:=(by rw[hx',c];exact Fb e.symm rfl rfl rfl);have hnh:¬(G 0).head? =some i:=λhf=>by rw[k.iv.s5n hf e]at c;cases c
      refine⟨G,⟨?_,by rw[hx'];exact hops (qq _ _ _ _),by rw[hD];exact hdn,k.bset hi (by rw[hx2];omega)⟩,⟨λh=>by omega,λ_ _=>rfl,λh=>by omega,λh=>by omega,λh=>by rw[hx2]at h;omega,λ_ hf=>absurd hf hnh,.inr (.inr (.inr (.inr (.inl e)))),λh=>absurd e h,by rw[hx2];exact .inl rfl⟩⟩;show HIv nd n node x.1.W x.2.1 _ _;rw[hW,hD];exact k.iv.same5 hi hx2
    · have hp:x.2.2.pc=10:=(by rw[hx',c];rfl);have hf:=k.iv.s5 hi e c;refine⟨G,⟨?_,by rw[hx'];exact hops (qq _ _ _ _),by rw[hD];exact hdn,k.bset hi QX⟩,⟨λh=>by omega,λ_ _=>rfl,λh=>by omega,λh=>by omega,λ_ _=> .inr ⟨e,hf⟩,λ_ _=>hp,.inr (.inr (.inr (.inr (.inl e)))),λh=>absurd e h,by omega⟩⟩;show HIv nd n node x.1.W x.2.1 _ _;rw[hW,hD];exact k.iv.atFrontP hi hf (.inl hp)
  · have hx':x=(addA h.ar (2+(nd:Int)+i) 1,h.D.set i (dv h.D i+1),{sv h.S i with pc:=0}):=(by rw[hx];unfold bm;rw[if_neg QX,if_neg QX,if_neg QX,if_neg QX,if_neg QX]);have hp:x.2.2.pc=0:=(by rw[hx']);have hf:=k.iv.atFront hi (.inr e);have hdl:i<h.D.length:=(by have:=k.iv.dl;omega);have hw:IntKind.i64.wrap (ldW h.ar.W (2+(nd:Int)+i)+1)=dv h.D i+1:=(by rw[DJ k.iv.wl hi,k.iv.tw i hi];have:=k.iv.d0 i;have:=k.dn i;exact IntWalk.i64_in _ QX);refine⟨upd G 0 (G 0).tail,⟨?_,by rw[hx'];exact hops (jl _ _ _),?_,k.bset hi QX⟩,⟨λh=>by omega,λ_ h=>by omega,λh=>by omega,λ_=>⟨hf,ce _ _ _⟩,λh=>by omega,λh=>by omega,.inr (.inr (.inr (.inr (.inr e)))),λ_ h=>by omega,by omega⟩⟩;· show HIv nd n node x.1.W x.2.1 _ _;rw[show x.1.W=h.ar.W.set (1+nd+i) (dv h.D i+1)by rw[hx'];show(addA _ _ _).W=_;rw[dR,hw,GO k.iv.wl hi],show x.2.1=h.D.set i (dv h.D i+1)by rw[hx']];exact k.iv.s11 hi hf hp _ rfl
    · rw[hx'];intro t;show dv (h.D.set i (dv h.D i+1)) t<=_;rw[zE hdl];have:=k.dn i;split;· omega
      · exact hdn t
end
end
end Go.Proofs.YtglokdbiggbkjaaGreat
