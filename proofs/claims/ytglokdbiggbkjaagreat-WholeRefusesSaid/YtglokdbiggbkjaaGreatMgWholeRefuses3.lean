/- Joined texts. -/
import Derived.Deep.QuietTactic
import Derived.BigQuiet
import Derived.Test.YtglokdbiggbkjaaGreatRows
import Derived.Tactics
import Derived.RegionCalls
import Derived.Laws.BitsAllLaws
import Derived.StillTailTactics
import Derived.IntWalk
import Derived.Deep.RegionHeld3
import Derived.Deep.AppendLies
import Derived.Laws.MakeOwn
import Derived.Deep.DeepCutAuto
import Derived.Test.YtglokdbiggbkjaaGreatMgWholeRefuses0
import Derived.Test.YtglokdbiggbkjaaGreatMgWholeRefuses1
set_option linter.unusedVariables false
set_option linter.unusedSimpArgs false
set_option linter.defProp false
set_option maxRecDepth 100000
set_option maxHeartbeats 16000000
open Go.Proofs.Tryz
namespace Go.Proofs.YtglokdbiggbkjaaGreat
open Go.IntKind(i64)
open Go.Value(int bool slice agg tuple pointer)
open Go.Ending(returned)
open Go.Obj(cells)
variable{w w':World}{g a i j nd v u:Nat}{T:List Nat}{W W' D' P:List Int}{node:Nat->Nat}{G:Nat->List Nat}{d f x:Int}
section
open Go.RowKit
theorem Tryz.infoAt:(prog.info? 216).map (λi=>(i.zero,i.size,i.bytes))=some (some (agg #[J 0]),1,8):=by kernel_rfl
def mw(u:Value)(n:Nat):(madeCells #[u] n).toList=List.replicate n u:=by
 unfold madeCells;rw[Array.toList_map,Array.toList_range];refine List.ext_getElem? λi=>?_;rw[List.getElem?_map,List.getElem?_replicate];by_cases h:i<n;.rw[List.getElem?_range h,if_pos h];simp[Nat.mod_one]
 .rw[if_neg h];simp;omega
def fU{base:Nat}{e:TypeId}{sz n:Nat}{xs:List Value}(h:w.ownsRow base e sz (slice (some ⟨g,0,none⟩) n n) n xs):Blk w g e xs.toArray:=by
 rcases h.2 with⟨H,_⟩|⟨g',ZK,V,H,I,hg,Oz,P4,O,ht⟩
 .simp at H
 .simp only[Value.slice.injEq,Option.some.injEq,Addr.mk.injEq,and_true,true_and]at H;obtain⟨rfl,rfl⟩:=H;have Y:V=xs.toArray:=by rw[<-ht];apply Array.ext';rw[List.take_of_length_le (by rw[Array.length_toList,O];exact Nat.le_refl _)]
  unfold Blk;rw[hg,Y]
def lD(room:Int):Nat:=if room<0 then 0 else if 4096<room then 4096 else room.toNat
def dD(room:Int):Ar:=⟨[],lD room,0,0,0,false⟩
def IU(w:World)(room:Int)(e:Ending)(w':World):Prop:=∃a g,e= returned (pointer (some ⟨a,0,none⟩))/\aB w' a g (dD room)/\w.heap.size<=a/\w.heap.size<=g/\Below w.heap.size w w'
def td(w:World)(room:Int):E 12 #[J room] w (IU w room):=by
  obtain⟨i0,hi,JF,JH,Y⟩:=info_parts Tryz.infoAt;obtain⟨n,V⟩:=LE (lD room);have hc:n<=4096:=by rw[V];unfold lD;split<;>(try split)<;>omega
  have HN:=qh V
  have JU:∀(w1:World),w1.ownsRow w.heap.size 216 1 (slice (some ⟨w.heap.size,0,none⟩) n n) n (madeCells #[J 0] n).toList->w.grownBy w1 none->
      aB (w1.alloc (cells #[slice (some ⟨w.heap.size,0,none⟩) n n,J 0,J 0,J 0,J 0,bool false] 106)) w1.heap.size w.heap.size (dD room)/\w.heap.size<=w1.heap.size/\Below w.heap.size w (w1.alloc (cells #[slice (some ⟨w.heap.size,0,none⟩) n n,J 0,J 0,J 0,J 0,bool false] 106)):=by
    intro w1 H hg
    rw[mw]at H
    have I:=fU H
    have I':=I.lt
    refine⟨⟨?_,?_,by omega,by simp[dD],by simp[dD];omega,by simp[dD]⟩,by omega,((Below.refl w.heap.size w).grown hg (Nat.le_refl _) (λj hj=>by cases hj)).alloc ahE _⟩
    . have:=Blk.new w1 106 (gz w.heap.size (dD room))
      unfold gz dD at this ⊢
      rw[<-HN.o]at this ⊢
      simpa using this
    . have e:(wdL (dD room)).toArray=(List.replicate n (Value.int .i64 0)).toArray:=by unfold wdL dD;simp[<-HN.o]
      rw[e]
      exact I.alloc _
  have Sy:=qh JU;clear JU;rcases(show 4096<room\/(room<=4096/\0<room)\/room<=0 by omega)with h|⟨h,h'⟩|h
  . have O:Kq ((4096:Int)=(n:Int)):=qh (by rw[V];unfold lD;rw[if_neg ahE,if_pos h];rfl);clear V;go_enter func12,ntmps12;go_wp2_with (refine wpList_make_full _ rfl (.tmp 5) (.tmp 5) 102 rfl w.heap.size 216 i0 (agg #[J 0]) 1 Tryz.underlying102 hi JF JH .i64 .i64 4096 4096 n rfl rfl O.o O.o ?b2 ?b3 (Nat.le_refl _) ?_);case b2=>rw[Y];omega
    case b3=>unfold maxLen;omega
    intro w1 H hg;obtain⟨k1,k2,k3⟩:=Sy.o w1 H hg;clear H hg;go_wp2;go_ret;exact⟨_,_,rfl,k1,k2,Nat.le_refl _,k3⟩
  . have O:Kq (room=(n:Int)):=qh (by rw[V];unfold lD;rw[if_neg ahE,if_neg ahE];omega);clear V;go_enter func12,ntmps12;go_wp2_with (refine wpList_make_full _ rfl (.tmp 5) (.tmp 5) 102 rfl w.heap.size 216 i0 (agg #[J 0]) 1 Tryz.underlying102 hi JF JH .i64 .i64 room room n rfl rfl O.o O.o ?b2 ?b3 (Nat.le_refl _) ?_);case b2=>rw[Y];omega
    case b3=>unfold maxLen;omega
    intro w1 H hg;obtain⟨k1,k2,k3⟩:=Sy.o w1 H hg;clear H hg;go_wp2;go_ret;exact⟨_,_,rfl,k1,k2,Nat.le_refl _,k3⟩
  . have O:Kq ((0:Int)=(n:Int)):=qh (by rw[V];unfold lD;split<;>(try split)<;>omega);have h4:room<=4096:=(by omega);clear V;go_enter func12,ntmps12;go_wp2_with (refine wpList_make_full _ rfl (.tmp 5) (.tmp 5) 102 rfl w.heap.size 216 i0 (agg #[J 0]) 1 Tryz.underlying102 hi JF JH .i64 .i64 0 0 n rfl rfl O.o O.o ?b2 ?b3 (Nat.le_refl _) ?_);case b2=>rw[Y];omega
    case b3=>unfold maxLen;omega
    intro w1 H hg;obtain⟨k1,k2,k3⟩:=Sy.o w1 H hg;clear H hg;go_wp2;go_ret;exact⟨_,_,rfl,k1,k2,Nat.le_refl _,k3⟩
def dX(s:Ar)(n:Int):Ar×Int×Int:=
 if n<0 then(s,(0:Int),(1:Int))else if (s.room:Int)-s.W.length<n then(s,(0:Int),(3:Int))else({s with W:=s.W++List.replicate n.toNat 0},(s.W.length:Int)+1,(0:Int))
def EM(w:World)(a g:Nat)(x:Ar×Int×Int)(e:Ending)(w':World):Prop:=e= returned (tuple #[J x.2.1,J x.2.2])/\aB w' a g x.1/\aa [a] w w'
def gn{s:Ar}(h:aB w a g s)(n:Int):E 139 #[↑a,J n] w (EM w a g (dX s n)):=by
  have H:=qh h;have c0:=h.c0;have c1:=h.c1;have f1:=h.blk.free 1;have Ow:=h.le;have NH:=h.room;have I':=h.blk.lt;clear h;by_cases V:n<0;. have e:dX s n=(s,(0:Int),(1:Int)):=(by unfold dX;rw[if_pos V]);have O:=qh e;clear e;go_enter func139,ntmps139;go_wp2;go_ret2;rw[O.o];exact⟨rfl,H.o,aa.refl _ _⟩
  . by_cases h1:(s.room:Int)-s.W.length<n;. have e:dX s n=(s,(0:Int),(3:Int)):=(by unfold dX;rw[if_neg V,if_pos h1]);have O:=qh e;have Y:IntKind.i64.wrap ((s.room:Int)-s.W.length)=(s.room:Int)-s.W.length:=IntWalk.i64_in _ ahE;clear e;go_enter func139,ntmps139;go_wp2;go_quiet (fail);go_wp2;go_ret2;rw[O.o];exact⟨rfl,H.o.turns (S:=[]) ((aa.refl _ _).drewN _) ahF ahF,(aa.refl _ _).drewN _⟩
    . have e:dX s n=({s with W:=s.W++List.replicate n.toNat 0},(s.W.length:Int)+1,(0:Int)):=(by unfold dX;rw[if_neg V,if_neg h1]);have O:=qh e;have Y:IntKind.i64.wrap ((s.room:Int)-s.W.length)=(s.room:Int)-s.W.length:=IntWalk.i64_in _ ahE;have h2:n<=4096:=(by omega);clear e;go_enter func139,ntmps139;go_wp2;go_quiet (fail);clear Y;go_wp2;go_ret2;rw[O.o];obtain⟨m,rfl⟩:=Int.eq_ofNat_of_zero_le (show 0<=n by omega);have I:=(H.o.blk.drewN nq).set_ 1 (J (s.W.length+m));have hw:=(H.o.wds.drewN nq).far (p:=⟨a,1,none⟩) H.o.ne.symm (J (s.W.length+m));refine⟨rfl,⟨?_,?_,H.o.ne,by simp;omega,NH,H.o.ops⟩,((aa.refl _ _).drewN _).setCell (.inl ahF) _⟩;. have e:gz g ({s with W:=s.W++List.replicate ((m:Int).toNat) 0})=(gz g s).setIfInBounds 1 (J (s.W.length+m)):=(by unfold gz;simp);rw[e];exact I
      . have e:wdL {s with W:=s.W++List.replicate ((m:Int).toNat) 0}=wdL s:=(by unfold wdL;congr 1;rw[List.append_assoc,List.append_cancel_left_eq,List.replicate_append_replicate];congr 1;simp;omega);rw[e];exact hw
end
section
open Go.RowKit
def IX(w:World)(b o:Nat)(x y:Int)(hc:Z w b o (J x))(h:w.frozen? ⟨b,o,none⟩=false):E 303 #[pointer (some ⟨b,o,none⟩),J y] w λe w'=>e= returned (J (IntKind.i64.wrap (x+y)))/\w'=w.setCell ⟨b,o,none⟩ (J (IntKind.i64.wrap (x+y))):=by obtain⟨s,hs⟩:=LE (IntKind.i64.wrap (x+y));rw[<-hs];have H:=run_call_add (P:=prog) func305 ahH ahH ahH .i64 ahH (y:=y) (s:=s) hc h (by rw[hs];rfl);clear hs;go_enter func303,ntmps303;go_wp2;go_ret;exact⟨rfl,rfl⟩
def ii{s:Ar}(h:aB w a g s)(x d:Int)(Y:s.ops+1<=1000000000000):E 298 #[↑a,J x,J d] w (fg w a g (addA s x d) (J (if inR s.W x then IntKind.i64.wrap (ldW s.W x+d)else 0))):=by
  have H:=qh h;cases I:inR s.W x;. have e:fg w a g (addA s x d) (J (if false=true then IntKind.i64.wrap (ldW s.W x+d)else 0)) (returned (J 0)) w:=⟨rfl,by unfold addA;rw[iU s _ _ _ I,rD s _ _ I];exact h,aa.refl _ _⟩;have HX:=qh I;clear h I;go_enter func298,ntmps298;go_wp2_with fail;refine LT (jZ H.o x HX.o) ?_;go_wp2;go_ret;exact e
  . have HX:=qh I;have HE:=qh (jg I);have On:=aR.1 I;have LQ:x.toNat-1<s.W.length:=(by omega);clear h I;go_enter func298,ntmps298;go_wp2_with fail;refine LT (kh H.o x HX.o) ?_;go_wp2_with fail;refine Op (iV H.o 5 x true HX.o Y) λw1 h1=>?_;have hc:=h1.o.1.word (i:=x.toNat-1) (by rw[dI];exact LQ);rw[dI,<-HE.o]at hc;have hp:=h1.o.1.put (x:=x) (by rw[dI];exact HX.o) (IntKind.i64.wrap (ldW s.W x+d));have H1:=qh (And.intro hp h1.o.2);have HC:=qh hc;clear hp hc;go_wp2_with fail;refine LT (IX _ _ _ _ _ HC.o.1 HC.o.2) ?_;obtain⟨r,V⟩:=LE (IntKind.i64.wrap (ldW s.W x+d));have YN:-9223372036854775808<=r/\r<=9223372036854775807:=(by rw[V,IntKind.wrap_i64];omega);obtain⟨ab,Tr⟩:=YN;rw[<-V];have O:=qh V;clear V;go_wp2;go_ret;exact⟨by rw[O.o];rfl,by rw[O.o];exact H1.o.1.1,by rw[O.o];exact(i8 H1.o.2).trans H1.o.1.2⟩
end
section
open Go
def mNx(t x:Int):Int:=t+2*x-1
def mWt(t x:Int):Int:=t+2*x
def pPl(t m k:Int):Int:=t+1+k%m
def vF(t m:Int)(s:Ar)(i:Int)(p:Sp):Ar×Sp:=
 if p.pc=1 then(dR s t 0 (i+1),if cG s t 0 then {p with pc:=10} else {p with pc:=2,b:=p.a,a:=min (2*p.a) m})
 else if p.pc=2 then(s,{p with b:=p.b-1,pc:=if p.b-1=0 then 1 else 2})
 else if p.pc=11 then(ae s t 0,{p with pc:=0})
 else(s,p)
def ph(t:Int)(s:Ar)(p:Sp):Ar×Sp:=
 if p.pc=1 then(addA s t 1,{p with a:=ldW s.W t,pc:=2})
 else if p.pc=2 then(af s (t+1),{p with pc:=if ldW s.W (t+1)=p.a then 10 else 2})
 else if p.pc=11 then(ae s (t+1) (p.a+1),{p with pc:=0})
 else(s,p)
def oD(t m:Int)(s:Ar)(p:Sp):Ar×Sp:=
 if p.pc=1 then(addA s t 1,{p with a:=ldW s.W t,pc:=2})
 else if p.pc=2 then(af s (pPl t m p.a),{p with pc:=if ldW s.W (pPl t m p.a)=p.a+1 then 10 else 2})
 else if p.pc=11 then(ae s (pPl t m (p.a+1)) (p.a+2),{p with pc:=0})
 else(s,p)
def eH(t:Int)(s:Ar)(x:Int)(p:Sp):Ar×Sp:=
 if p.pc=1 then(ae s (mNx t x) 0,{p with pc:=2})
 else if p.pc=2 then(ae s (mWt t x) 1,{p with pc:=3})
 else if p.pc=3 then(ch s t x,{p with a:=ldW s.W t,pc:=if ldW s.W t=0 then 10 else 4})
 else if p.pc=4 then(ae s (mNx t p.a) x,{p with pc:=5})
 else(af s (mWt t x),{p with pc:=if ldW s.W (mWt t x)=0 then 10 else 5})
def dH(t:Int)(s:Ar)(x:Int)(p:Sp):Ar×Sp:=
 if p.pc=12 then(dR s t x 0,{p with pc:=if cG s t x then 0 else 13})
 else if p.pc=14 then(ae s (mWt t p.a) 0,{p with pc:=0})
 else(af s (mNx t x),{p with a:=ldW s.W (mNx t x),pc:=if ldW s.W (mNx t x)≠0 then 14 else if p.pc=11 then 12 else 13})
def mg(t:Int)(s:Ar)(i:Int)(p:Sp):Ar×Sp:=
 if 0<p.pc/\p.pc<10 then eH t s (i+1) p else if 10<p.pc then dH t s (i+1) p else(s,p)
def ut(t:Int)(s:Ar)(p:Sp):Ar×Sp:=
 if p.pc=1 then(ae s (t+p.a) 1,{p with pc:=2})
 else if p.pc=2 then(ch s t p.a,{p with b:=ldW s.W t,pc:=3})
 else if p.pc=3 then(af s (t+p.b),{p with pc:=if ldW s.W (t+p.b)=0 then 10 else 3})
 else if p.pc=11 then(ae s (t+p.a) 0,{p with a:=p.b,pc:=0})
 else(s,p)
def bJ(k:Nat)(t m:Int)(s:Ar)(i:Int)(p:Sp):Ar×Sp:=
 if k=1 then vF t m s i p else if k=2 then ph t s p else if k=3 then oD t m s p else if k=4 then mg t s i p else ut t s p
def bo(p p':Sp):Bool:=decide ((p'.pc=10\/p'.pc=0)/\p.pc≠0/\p.pc≠10)
def askK(k:Nat)(p:Sp):Sp:=if p.pc=0 then(if k=1 then {p with pc:=1,a:=1} else {p with pc:=1})else p
def a9(p:Sp):Sp:=if p.pc=10 then {p with pc:=11} else p
def cB(k:Nat)(t:Int)(s:Ar)(i:Int)(p:Sp):Ar×Bool:=
 if p.pc=10 then
  if k=1 then(s,true)else if k=2\/k=3 then(af s t,decide (ldW s.W t=p.a+1))
  else if k=4 then(af s (mNx t (i+1)),decide (ldW s.W (mNx t (i+1))=0))else(af s t,decide (ldW s.W t=p.a))
 else(s,false)
end
section
open Go.RowKit
variable{u:Value}
def SpR(w:World)(q:Nat)(S:List Sp):Prop:=∃Ze:List Value,Blk w q 113 (S.flatMap bf++Ze).toArray
section
variable{q:Nat}{S:List Sp}
def yb(S:List Sp):(S.flatMap bf).length=S.length*4:=by
 induction S with
 |nil=>rfl
 |cons a l h=>rw[List.flatMap_cons,List.length_append,h,iH,List.length_cons];omega
def SpR.cell(h:SpR w q S){p:Sp}(I:S[i]? =some p)(j:Nat)(u:Value)(O:(bf p)[j]? =some u):Z w q (i*4+j) u:=by obtain⟨V,h⟩:=h;rw[Blk.cell h];have h1:=bX bf 4 iH S i p j u I O;have H:i*4+j<(S.flatMap bf).length:=(List.getElem?_eq_some_iff.1 h1).1;simp only[List.getElem?_toArray];rw[List.getElem?_append_left H,h1]
def SpR.put(h:SpR w q S){p p':Sp}(H:S[i]? =some p)(V:j<4)(O:(bf p).set j u=bf p'):SpR (w.setCell ⟨q,i*4+j,none⟩ u) q (S.set i p'):=by obtain⟨I,h⟩:=h;have h1:=Blk.set_ h (i*4+j) u;have hi:=(List.getElem?_eq_some_iff.1 H).1;refine⟨I,?_⟩;rw[List.setIfInBounds_toArray,List.set_append_left _ _ (by rw[yb];omega),mQ bf 4 iH S i p p' j u H V O]at h1;exact h1
def SpR.lt(h:SpR w q S):q<w.heap.size:=by obtain⟨H,h⟩:=h;exact Blk.lt h
def SpR.free(h:SpR w q S)(i:Nat):w.frozen? ⟨q,i,none⟩=false:=by obtain⟨H,h⟩:=h;exact Blk.free h i
def SpR.turns(h:SpR w q S)(k:aa T w w')(I:q∉T):SpR w' q S:=by obtain⟨H,h⟩:=h;exact⟨H,k.blk h I⟩
end
structure xr(k m:Nat)(pa:Int):Prop where
 m0:1<=m
 m1:m<=1024
 m3:k=3->m<=32
 pe:k=1\/k=3->pa=m
structure Fx where
 p:Nat
 l:Nat
 q:Nat
 k:Nat
 t:Nat
 m:Nat
 n:Nat
 cap:Nat
def lkT:Nat->TypeId
 |1=>339
 |2=>343
 |3=>345
 |4=>348
 |_=>350
def lkC(k a:Nat)(x:Fx):Array Value:=
 match k with
 |1=>#[↑a,int i64 x.t,int i64 x.m,slice (some ⟨x.q,0,none⟩) x.n x.cap]
 |2=>#[slice (some ⟨x.q,0,none⟩) x.n x.cap,↑a,int i64 x.t]
 |3=>#[↑a,int i64 x.t,int i64 x.m,slice (some ⟨x.q,0,none⟩) x.n x.cap]
 |_=>#[↑a,int i64 x.t,slice (some ⟨x.q,0,none⟩) x.n x.cap]
structure KIs(w:World)(a g k:Nat)(x:Fx)(s:Ar)(S:List Sp):Prop where
 ar:aB w a g s
 lk:Blk w x.l (lkT k) (lkC k a x)
 sp:SpR w x.q S
 n:S.length=x.n
 la:x.l≠a
 lg:x.l≠g
 lq:x.l≠x.q
 qa:x.q≠a
 qg:x.q≠g
 n32:x.n<=32
 t0:1<=x.t
 t1:x.t<=5000
 m0:1<=x.m
 m1:x.m<=1024
 cap:x.n<=x.cap
section
variable{k:Nat}{x:Fx}{s s':Ar}{S S':List Sp}
def KIs.turns(h:KIs w a g k x s S)(t:aa T w w')(h1:x.l∉T)(H:a∉T)(I:g∉T)(O:x.q∉T):KIs w' a g k x s S:=
 {h with ar:=h.ar.turns t H I,lk:=t.blk h.lk h1,sp:=h.sp.turns t O}
def KIs.below(h:KIs w a g k x s S)(t:Below w.heap.size w w'):KIs w' a g k x s S:=
 h.turns (T:=[]) (aa.of_below t) ahF ahF ahF ahF
def KIs.op(h:KIs w a g k x s S)(t:aa [a,g] w w')(H:aB w' a g s'):KIs w' a g k x s' S:=
 {h with ar:=H,lk:=t.blk h.lk (by simp[h.la,h.lg]),sp:=h.sp.turns t (by simp[h.qa,h.qg])}
def KIs.spt(h:KIs w a g k x s S)(t:aa [x.q] w w')(hs:SpR w' x.q S')(H:S'.length=S.length):KIs w' a g k x s S':=
 {h with ar:=h.ar.turns t (by simpa using λe=>h.qa e.symm) (by simpa using λe=>h.qg e.symm),lk:=t.blk h.lk (by simpa using h.lq),sp:=hs,n:=H.trans h.n}
def aV(q i:Nat)(u:Value):aa [q] w (w.setCell ⟨q,i,none⟩ u):=(aa.refl _ _).setCell (.inl ahF) _
def KIs.put(h:KIs w a g k x s S){p p':Sp}(O:S[i]? =some p)(I:j<4)(H:(bf p).set j u=bf p'):KIs (w.setCell ⟨x.q,i*4+j,none⟩ u) a g k x s (S.set i p'):=
 h.spt (aV _ _ _) (h.sp.put O I H) ahF
def KIs.put0(h:KIs w a g k x s S){p p':Sp}(I:S[i]? =some p)(H:(bf p).set 0 u=bf p'):KIs (w.setCell ⟨x.q,i*4,none⟩ u) a g k x s (S.set i p'):=
 h.put I (j:=0) ahG H
def dV(S:List Sp)(i:Nat)(p q:Sp):(S.set i p).set i q=S.set i q:=by simp
def Jp{S:List Sp}{p:Sp}(h:S[i]? =some p)(q:Sp):(S.set i q)[i]? =some q:=by have:=(List.getElem?_eq_some_iff.1 h).1;simp[this]
def b9{S:List Sp}{p:Sp}(hp:S[i]? =some p):S.set i p=S:=by exact aai
end
end
section
open Go.RowKit
def mf(p:Int):Int×Int:=if p=0 then(0,16)else if p=1 then(16,47)else(63,1)
def kV(w:World)(p:Int):E 304 #[J p] w λe w'=>e= returned (tuple #[J (mf p).1,J (mf p).2])/\w=w':=by
 unfold mf;by_cases h:p=0;.subst h;exact aal
 .by_cases h1:p=1;.subst h1;clear h;exact aal
  .rw[if_neg h,if_neg h1];have t0:(p==0)=false:=(by simpa using h);have t1:(p==1)=false:=(by simpa using h1);clear h h1;exact aal
def m9(x:Nat)(k:Nat)(h:x<18446744073709551616)(H:k<64):bits .and .u64 (x:Int) ((2 ^ k-1:Nat):Int)=((x%2 ^ k:Nat):Int):=by
 have:2 ^ k-1<18446744073709551616:=by have:2 ^ k<=2 ^ 63:=Nat.pow_le_pow_right ahG ahE;omega
 rw[u64_and_nat x (2 ^ k-1) h this,Nat.and_two_pow_sub_one_eq_mod]
def y7(x:Int)(h:0<=x)(h1:x<9223372036854775808):wrap64 (bits .and .u64 x 65535)=x%65536:=by obtain⟨n,rfl⟩:=Int.eq_ofNat_of_zero_le h;have:=m9 n 16 ahE ahG;rw[show((2 ^ 16-1:Nat):Int)=65535 by decide]at this;rw[this];unfold wrap64;omega
def vJ(x:Int)(h:0<=x)(h1:x<9223372036854775808):wrap64 (bits .and .u64 (x/65536) 140737488355327)=x/65536:=by obtain⟨n,rfl⟩:=Int.eq_ofNat_of_zero_le h;have:=m9 (n/65536) 47 ahE ahG;rw[show((2 ^ 47-1:Nat):Int)=140737488355327 by decide]at this;rw[show((n:Int)/65536)=((n/65536:Nat):Int)by omega,this,show(2 ^ 47:Nat)=140737488355328 by decide];unfold wrap64;omega
def Cq(x:Int)(h:0<=x)(h1:x<9223372036854775808):wrap64 (bits .and .u64 (x/9223372036854775808) 1)=0:=by rw[show x/9223372036854775808=0 by omega];decide+kernel
def Cr(v:Int)(h:0<=v)(H:v<65536):wrap64 (bits .or .u64 (bits .andNot .u64 0 65535) (bits .and .u64 v 65535))=v:=by obtain⟨n,rfl⟩:=Int.eq_ofNat_of_zero_le h;have:=m9 n 16 ahE ahG;rw[show((2 ^ 16-1:Nat):Int)=65535 by decide,show(2 ^ 16:Nat)=65536 by decide,Nat.mod_eq_of_lt ahE]at this;rw[this,show bits .andNot .u64 0 65535=((0:Nat):Int)by decide+kernel,u64_or_nat 0 n ahG ahE,Nat.zero_or];unfold wrap64;omega
def BL(x v:Nat)(h:x<65536):x|||(v*65536)=v*65536+x:=by have:=Nat.two_pow_add_eq_or_of_lt (i:=16) (b:=x) ahE v;rw[Nat.or_comm,<-show 2 ^ 16*v=v*65536 by omega];exact this.symm
def Cs(x v:Int)(O:0<=x)(h1:x<65536)(V:0<=v)(Y:v<140737488355328):wrap64 (bits .or .u64 (bits .andNot .u64 x 9223372036854710272) (bits .and .u64 (v*65536) 9223372036854710272))=v*65536+x:=by
 obtain⟨n,rfl⟩:=Int.eq_ofNat_of_zero_le O;obtain⟨m,rfl⟩:=Int.eq_ofNat_of_zero_le V;have h:n<65536:=by omega
 have hm:m<140737488355328:=by omega
 have H:bits .andNot .u64 (n:Int) 9223372036854710272=((n:Nat):Int):=by
  have:=u64_andNot_nat n 9223372036854710272 ahE ahG;rw[show((9223372036854710272:Nat):Int)=9223372036854710272 by decide]at this;rw[this];congr 1;apply Nat.eq_of_testBit_eq;intro i;rw[Nat.testBit_and];by_cases hi:i<16;.have:(18446744073709551615-9223372036854710272:Nat).testBit i=true:=(by have:∀i,i<16->(18446744073709551615-9223372036854710272:Nat).testBit i=true:=(by decide);exact this i hi);rw[this,Bool.and_true]
  .rw[Nat.testBit_lt_two_pow (x:=n) (i:=i) (Nat.lt_of_lt_of_le h (by have:=Nat.pow_le_pow_right (n:=2) ahG (show 16<=i by omega);omega)),Bool.false_and]
 have I:bits .and .u64 ((m:Int)*65536) 9223372036854710272=((m*65536:Nat):Int):=by
  have:=u64_and_nat (m*65536) 9223372036854710272 ahE ahG;rw[show((9223372036854710272:Nat):Int)=9223372036854710272 by decide,show((m*65536:Nat):Int)=(m:Int)*65536 by omega]at this;rw[this];congr 1;have:(9223372036854710272:Nat)=(2 ^ 47-1)*2 ^ 16:=by decide
  rw[this,show m*65536=m*2 ^ 16 by omega,<-Nat.shiftLeft_eq,<-Nat.shiftLeft_eq,<-Nat.shiftLeft_and_distrib,Nat.and_two_pow_sub_one_eq_mod,Nat.mod_eq_of_lt ahE]
 rw[H,I,u64_or_nat n (m*65536) ahE ahE,BL n m h];unfold wrap64;omega
def pT(w:World)(x:Int)(h:0<=x)(h1:x<9223372036854775808):E 302 #[J x,J 0] w λe w'=>e= returned (J (x%65536))/\Below w.heap.size w w':=by have HV:=qh (y7 x h h1);go_enter func302,ntmps302;go_wp2_with fail;refine LT (kV _ _) ?_;rw[show(mf 0).1=0 from rfl,show(mf 0).2=16 from rfl];exact aam
def nZ(w:World)(x:Int)(h:0<=x)(h1:x<9223372036854775808):E 302 #[J x,J 1] w λe w'=>e= returned (J (x/65536))/\Below w.heap.size w w':=by have HV:=qh (vJ x h h1);go_enter func302,ntmps302;go_wp2_with fail;refine LT (kV _ _) ?_;rw[show(mf 1).1=16 from rfl,show(mf 1).2=47 from rfl];exact aam
def DI(w:World)(x:Int)(H:0<=x)(h1:x<9223372036854775808):E 302 #[J x,J 2] w λe w'=>e= returned (J (0))/\Qt w w':=by have h:=qh (Cq x H h1);go_enter func302,ntmps302;go_wp2_with fail;refine LT (kV _ _) ?_;rw[show(mf 2).1=63 from rfl,show(mf 2).2=1 from rfl];go_wp2;go_quiet (fail);go_wp2;go_ret;exact⟨by rw[h.o];rfl,⟨_,rfl⟩⟩
def qd(w:World)(x v:Int)(O:x=0)(H:0<=v)(I:v<65536):E 301 #[J x,J 0,J v] w λe w'=>e= returned (J (v))/\Below w.heap.size w w':=by subst O;have h:=qh (Cr v H I);go_enter func301,ntmps301;go_wp2_with fail;refine LT (kV _ _) ?_;rw[show(mf 0).1=0 from rfl,show(mf 0).2=16 from rfl];go_wp2;go_ret;exact⟨by rw[h.o];rfl,Below.refl _ _⟩
def oJ(w:World)(x v:Int)(H:0<=x)(h1:x<65536)(I:0<=v)(O:v<140737488355328):E 301 #[J x,J 1,J v] w λe w'=>e= returned (J (v*65536+x))/\Below w.heap.size w w':=by have h:=qh (Cs x v H h1 I O);go_enter func301,ntmps301;go_wp2_with fail;refine LT (kV _ _) ?_;rw[show(mf 1).1=16 from rfl,show(mf 1).2=47 from rfl];go_wp2;go_ret;exact⟨by rw[h.o];rfl,Below.refl _ _⟩
end
section
open Go.RowKit
def Az(w:World)(x:Int)(h:0<=x)(h1:x<9223372036854775808):E 295 #[J x] w λe w'=>e= returned (J (x%65536))/\Below w.heap.size w w':=by go_enter func295,ntmps295;go_wp2_with fail;refine Op (pT w x h h1) λw1 B1=>?_;exact aan
def AF(w:World)(x:Int)(h:0<=x)(h1:x<9223372036854775808):E 297 #[J x] w λe w'=>e= returned (J (x/65536))/\Below w.heap.size w w':=by go_enter func297,ntmps297;go_wp2_with fail;refine Op (nZ w x h h1) λw1 B1=>?_;exact aan
def yr(w:World)(x:Int)(h:0<=x)(h1:x<9223372036854775808):E 296 #[J x] w λe w'=>e= returned (bool false)/\Qt w w':=by go_enter func296,ntmps296;go_wp2_with fail;refine Op (DI w x h h1) λw1 B1=>?_;exact aan
def uC(w:World)(v:Int)(h:0<=v)(I:v<65536):E 300 #[J 0,J v] w λe w'=>e= returned (bool true)/\Below w.heap.size w w':=by
 go_enter func300,ntmps300;go_wp2_with fail;refine Op (qd w 0 v rfl h I) λw1 B1=>?_;go_wp2_with fail;refine Pi (pT w1 v h ahE) λw2 b2=>?_;have H:=qh (B1.o.trans (b2.mono B1.o.size));have e:v%65536=v:=by omega
 rw[e];clear b2 e;go_wp2;go_ret;exact⟨aA ahF,H.o⟩
def su(w:World)(v:Int)(I:0<=v)(O:v<140737488355328):E 300 #[J 1,J v] w λe w'=>e= returned (bool true)/\Below w.heap.size w w':=by
 go_enter func300,ntmps300;go_wp2_with fail;refine Op (oJ w 0 v ahE ahE I O) λw1 B1=>?_;obtain⟨x,h⟩:=LE (v*65536+0);rw[<-h];have HX:=qh h;clear h;go_wp2_with fail;refine Pi (nZ w1 x (by have:=HX.o;omega) (by have:=HX.o;omega)) λw2 b2=>?_;have H:=qh (B1.o.trans (b2.mono B1.o.size));have e:x/65536=v:=by have:=HX.o;omega
 rw[e];clear b2 e;go_wp2;go_ret;exact⟨aA ahF,H.o⟩
def BM(w:World)(i n:Int)(h:0<=i)(h1:i<65536)(O:0<=n)(V:n<140737488355328):E 294 #[J i,J n] w λe w'=>e= returned (tuple #[J (n*65536+i),J 0])/\Below w.heap.size w w':=by go_enter func294,ntmps294;go_wp2_with fail;refine Op (uC w i h h1) λw1 B1=>?_;go_wp2_with fail;refine Op (su w1 n O V) λw2 b2=>?_;have H:=qh (B1.o.trans (b2.o.mono B1.o.size));go_wp2_with fail;refine Op (qd w2 0 i rfl h h1) λw3 b3=>?_;have I:=qh (H.o.trans (b3.o.mono H.o.size));go_wp2_with fail;refine Op (oJ w3 i n h h1 O V) λw4 b4=>?_;have Y:=qh (I.o.trans (b4.o.mono I.o.size));go_wp2;go_ret2;exact⟨rfl,Y.o⟩
end
section
open Go
def dv(D:List Int)(t:Nat):Int:=D.getD t 0
def tokH(t:Nat)(d:Int):Int:=d*65536+((t:Int)+1)
structure Hc where
 ar:Ar
 D:List Int
 S:List Sp
def A4(n:Nat)(w:Int):Bool:=decide (0<=w/\1<=w%65536/\w%65536<=n)
def isB(W:List Int)(f:Int)(n:Nat)(w:Int):Bool:=A4 n w&&decide (w/65536<=ldW W (f+(w%65536-1)))
def isA(s:Ar)(f:Int)(n:Nat)(w:Int):Ar:=if A4 n w then af s (f+(w%65536-1))else s
def bm(nd n:Nat)(dl:Int)(h:Hc)(nu i:Nat)(p:Sp):Ar×List Int×Sp:=
 if p.pc=1 then(ch h.ar (2+(nu:Int)) (tokH i (dv h.D i+1)),h.D,
  if ldW h.ar.W (2+(nu:Int))≠0 then {p with a:=ldW h.ar.W (2+(nu:Int)),pc:=5} else if 0<dl then {p with a:=ldW h.ar.W (2+(nu:Int)),b:=dl,pc:=2} else {p with a:=ldW h.ar.W (2+(nu:Int)),b:=0,pc:=3})
 else if p.pc=2 then(h.ar,h.D,{p with b:=p.b-1,pc:=if 0<p.b-1 then 2 else 3})
 else if p.pc=3 then(ch h.ar (2+(nu:Int)) 0,h.D,{p with c:=ldW h.ar.W (2+(nu:Int)),pc:=4})
 else if p.pc=4 then(ch h.ar 1 p.c,h.D,{p with a:=ldW h.ar.W 1,pc:=if ldW h.ar.W 1=0 then 10 else 5})
 else if p.pc=5 then(isA h.ar (2+(nd:Int)) n p.a,h.D,{p with pc:=if isB h.ar.W (2+(nd:Int)) n p.a then 10 else 5})
 else(addA h.ar (2+(nd:Int)+i) 1,h.D.set i (dv h.D i+1),{p with pc:=0})
def im(p:Sp):Bool:=p.pc==1||p.pc==2||p.pc==3||p.pc==4||p.pc==5||p.pc==11
def eX(nd n:Nat)(dl:Int)(node:Nat->Nat)(h:Hc)(i:Int):Hc×Bool:=
 if okI h.S i/\im (getS h.S i)=true then
  (⟨(bm nd n dl h (node i.toNat) i.toNat (getS h.S i)).1,(bm nd n dl h (node i.toNat) i.toNat (getS h.S i)).2.1,h.S.set i.toNat (bm nd n dl h (node i.toNat) i.toNat (getS h.S i)).2.2⟩,
   decide ((bm nd n dl h (node i.toNat) i.toNat (getS h.S i)).2.2.pc=10\/(bm nd n dl h (node i.toNat) i.toNat (getS h.S i)).2.2.pc=0))
 else(h,false)
def bj(h:Hc)(i JR Jv:Int):Hc×Bool:=
 if okI h.S i/\(getS h.S i).pc=JR then(⟨h.ar,h.D,h.S.set i.toNat {getS h.S i with pc:=Jv}⟩,true)else(h,false)
def tl(W:List Int):Int:=W.getD 0 0
def lc(W:List Int)(v:Nat):Int:=W.getD (1+v) 0
def tnw(nd:Nat)(W:List Int)(i:Nat):Int:=W.getD (1+nd+i) 0
section
variable{n:Nat}
def dh{α:Type}(l:List α)(a d:α)(h:i≠j):(l.set i a).getD j d=l.getD j d:=by rw[nY,if_neg (λe=>h e.1)]
def ik{α:Type}(l:List α)(a d:α)(h:i<l.length):(l.set i a).getD i d=a:=by rw[nY,if_pos ⟨rfl,h⟩]
def A8{k:Nat}(h:k<W.length):ldW W ((k:Int)+1)=W.getD k 0:=by unfold ldW inR;exact aao
def Cc{k:Nat}(h:k<W.length)(x:Int):stW W ((k:Int)+1) x=W.set k x:=by unfold stW inR;exact aao
def Fj(hw:W.length=1+nd+n):ldW W 1=tl W:=A8 (k:=0) ahE
def GU(hw:W.length=1+nd+n)(h:v<nd):ldW W (2+(v:Int))=lc W v:=by rw[show(2+(v:Int))=((1+v:Nat):Int)+1 by omega];exact A8 ahE
def Eu(hw:W.length=1+nd+n)(h:i<n):ldW W (2+(nd:Int)+i)=tnw nd W i:=by rw[show(2+(nd:Int)+i)=((1+nd+i:Nat):Int)+1 by omega];exact A8 ahE
def FU(hw:W.length=1+nd+n)(x:Int):stW W 1 x=W.set 0 x:=Cc (k:=0) ahE x
def Il(hw:W.length=1+nd+n)(h:v<nd)(x:Int):stW W (2+(v:Int)) x=W.set (1+v) x:=by rw[show(2+(v:Int))=((1+v:Nat):Int)+1 by omega];exact Cc ahE x
def Im(hw:W.length=1+nd+n)(h:i<n)(x:Int):stW W (2+(nd:Int)+i) x=W.set (1+nd+i) x:=by rw[show(2+(nd:Int)+i)=((1+nd+i:Nat):Int)+1 by omega];exact Cc ahE x
end
def Lks(P:Nat->Nat->Prop):List Nat->Prop
 |[]=>True
 |a :: l=>(∀b,l.head? =some b->P a b)/\Lks P l
section
variable{P P':Nat->Nat->Prop}{l m:List Nat}
def Lks.append(h:Lks P l)(k:Lks P m)(H:∀a b,l.getLast? =some a->m.head? =some b->P a b):Lks P (l++m):=by
 induction l with
 |nil=>exact k
 |cons a l Y=>
  refine⟨λb I=>?_,Y h.2 λx y O V=>H x y ?_ V⟩
  .cases l with
   |nil=>exact H a b rfl (by simpa using I)
   |cons c l=>exact h.1 b (by simpa using I)
  .cases l with
   |nil=>simp at O
   |cons c l=>rw[List.getLast?_cons_cons];exact O
def Lks.mono(h:Lks P l)(hm:∀a b,a∈l->b∈l.tail->P a b->P' a b):Lks P' l:=by
 induction l with
 |nil=>trivial
 |cons a l V=>refine⟨λb I=>hm a b ahF (List.mem_of_mem_head? I) (h.1 b I),V h.2 λx y H O=>hm x y (List.mem_cons_of_mem _ H) (List.mem_of_mem_tail O)⟩
def Lks.mem{b:Nat}(h:Lks P l)(I:b∈l.tail):∃a,a∈l/\P a b:=by
 induction l with
 |nil=>simp at I
 |cons a l V=>
  cases l with
  |nil=>simp at I
  |cons c l=>
   rcases List.mem_cons.1 (show b∈c :: l from I)with rfl|hb'
   .exact⟨a,by simp,h.1 b rfl⟩
   .obtain⟨x,O,H⟩:=V h.2 hb';exact⟨x,List.mem_cons_of_mem _ O,H⟩
def Lks.tail(h:Lks P l):Lks P l.tail:=by
 cases l with
 |nil=>exact h
 |cons a l=>exact h.2
def Bz{t:Nat}(h:t∈l):l.head? =some t\/t∈l.tail:=by
 cases l with
 |nil=>simp at h
 |cons a l=>
  rcases List.mem_cons.1 h with rfl|h
  .exact .inl rfl
  .exact .inr h
def iu{t:Nat}(H:l.Nodup)(h:l.head? =some t):t∉l.tail:=by
 cases l with
 |nil=>simp at h
 |cons a l=>simp at h;subst h;exact(List.nodup_cons.1 H).1
def gV{t:Nat}(h:l.head? =some t):l≠[]:=by rintro rfl;simp at h
def bB{t:Nat}(h:l.head? =some t):t∈l:=List.mem_of_mem_head? h
end
def eF(D:List Int)(l:List Nat):Int:=match l.getLast? with|some t=>tokH t (dv D t+1)|none=>0
def du{D:List Int}{l:List Nat}{t:Nat}(h:l.getLast? =some t):eF D l=tokH t (dv D t+1):=by unfold eF;rw[h]
def j6{l:List Nat}(h:l≠[]):∃t,l.getLast? =some t/\t∈l:=⟨l.getLast h,List.getLast?_eq_some_getLast h,List.getLast_mem h⟩
def kQ{D:List Int}(l:List Nat){m:List Nat}(h:m≠[]):eF D (l++m)=eF D m:=by obtain⟨t,H,_⟩:=j6 h;rw[du H,du (t:=t)];rw[List.getLast?_append,H];rfl
def Dn(n:Nat)(D:List Int)(w:Int):Prop:=∃(t:Nat) (d:Int),t<n/\1<=d/\d<=dv D t/\w=tokH t d
def HLk(D:List Int)(S:List Sp)(p s:Nat):Prop:=(sv S s).pc=5/\(sv S s).a=tokH p (dv D p+1)
structure HIv(nd n:Nat)(node:Nat->Nat)(W D:List Int)(S:List Sp)(G:Nat->List Nat):Prop where
 wl:W.length=1+nd+n
 sl:S.length=n
 dl:n<=D.length
 n32:n<=32
 nn:∀t,t<n->node t<nd
 tw:∀t,t<n->tnw nd W t=dv D t
 d0:∀t,0<=dv D t
 nod:∀k,(G k).Nodup
 dj:∀k k' t,t∈G k->t∈G k'->k=k'
 lt:∀k t,t∈G k->t<n
 lk:∀k,Lks (HLk D S) (G k)
 free:∀t,t<n->(∀k,t∉G k)->(sv S t).pc=0\/(sv S t).pc=1
 first:∀m,G (m+1)≠[]->(G (m+1)).head? =some m
 same:∀m t,t∈G (m+1)->node t=node m
 mast:∀m,G (m+1)≠[]->((((sv S m).pc=2/\0<(sv S m).b)\/(sv S m).pc=3)/\lc W (node m)=eF D (G (m+1)))\/((sv S m).pc=4/\(sv S m).c=eF D (G (m+1)))
 one:∀m m',G (m+1)≠[]->G (m'+1)≠[]->node m=node m'->(sv S m).pc<4->(sv S m').pc<4->m=m'
 loc:∀v,v<nd->lc W v=0\/∃m,G (m+1)≠[]/\(sv S m).pc<4/\node m=v
 front:∀t,(G 0).head? =some t->((sv S t).pc=5/\Dn n D (sv S t).a)\/(sv S t).pc=10\/(sv S t).pc=11
 tail:(tl W=eF D (G 0)/\G 0≠[])\/(G 0=[]/\(tl W=0\/Dn n D (tl W)))
section
variable{n:Nat}{D:List Int}{S:List Sp}{p':Sp}
def vH{t:Nat}(h:0<=d):tokH t d≠0:=by unfold tokH;omega
def Ed{t H:Nat}{d':Int}(h:t<32)(I:H<32)(e:tokH t d=tokH H d'):t=H/\d=d':=by unfold tokH at e;omega
def HIv.notail(h:HIv nd n node W D S G){k t:Nat}(V:t∈(G k).tail):(sv S t).pc=5/\∃p,p∈G k/\(sv S t).a=tokH p (dv D p+1):=by obtain⟨p,O,H,I⟩:=(h.lk k).mem V;exact⟨H,p,O,I⟩
def HIv.inG(h:HIv nd n node W D S G){k t:Nat}(I:t∈G k):(t∈(G k).tail/\(sv S t).pc=5)\/((G k).head? =some t/\((k=0/\(((sv S t).pc=5/\Dn n D (sv S t).a)\/(sv S t).pc=10\/(sv S t).pc=11))\/(k=t+1/\((sv S t).pc=2\/(sv S t).pc=3\/(sv S t).pc=4)))):=by
 rcases Bz I with H|H
 .refine .inr ⟨H,?_⟩;cases k with
  |zero=>exact .inl ⟨rfl,h.front t H⟩
  |succ m=>
   have e:=h.first m (gV H);rw[H]at e;injection e with e;subst e;refine .inr ⟨rfl,?_⟩;rcases h.mast t (gV H)with⟨h1|h1,_⟩|⟨h1,_⟩
   .exact .inl h1.1
   .exact .inr (.inl h1)
   .exact .inr (.inr h1)
 .exact .inl ⟨H,(h.notail H).1⟩
def HIv.at01(h:HIv nd n node W D S G)(I:(sv S i).pc=0\/(sv S i).pc=1):∀k,i∉G k:=λk H=>by
 rcases h.inG H with h1|⟨_,⟨_,h1⟩|⟨_,h1⟩⟩<;>omega
def HIv.at234(h:HIv nd n node W D S G)(hi:i<n)(I:(sv S i).pc=2\/(sv S i).pc=3\/(sv S i).pc=4):(G (i+1)).head? =some i:=by
 rcases Classical.em (∀k,i∉G k)with H|H
 .have:=h.free i hi H;omega
 .obtain⟨k,H⟩:=Classical.not_forall.1 H;rcases h.inG (Classical.not_not.1 H)with h1|⟨h0,⟨_,h1⟩|⟨rfl,h1⟩⟩
  .omega
  .omega
  .exact h0
def HIv.atFront(h:HIv nd n node W D S G)(hi:i<n)(I:(sv S i).pc=10\/(sv S i).pc=11):(G 0).head? =some i:=by
 rcases Classical.em (∀k,i∉G k)with H|H
 .have:=h.free i hi H;omega
 .obtain⟨k,H⟩:=Classical.not_forall.1 H;rcases h.inG (Classical.not_not.1 H)with h1|⟨h0,⟨rfl,h1⟩|⟨rfl,h1⟩⟩
  .omega
  .exact h0
  .omega
def HIv.at5(h:HIv nd n node W D S G)(hi:i<n)(V:(sv S i).pc=5):(∃k p,i∈(G k).tail/\p∈G k/\(sv S i).a=tokH p (dv D p+1))\/((G 0).head? =some i/\Dn n D (sv S i).a):=by
 rcases Classical.em (∀k,i∉G k)with H|H
 .have:=h.free i hi H;omega
 .obtain⟨k,H⟩:=Classical.not_forall.1 H;rcases h.inG (Classical.not_not.1 H)with h1|⟨h0,⟨rfl,h1⟩|⟨rfl,h1⟩⟩
  .obtain⟨_,p,I,O⟩:=h.notail h1.1;exact .inl ⟨k,p,h1.1,I,O⟩
  .refine .inr ⟨h0,?_⟩;rcases h1 with h1|h1|h1
   .exact h1.2
   .omega
   .omega
  .omega
def cf(h:j≠i):sv (S.set i p') j=sv S j:=by rw[ba,if_neg (λe=>h e.1.symm)]
def qk(h:i<S.length):sv (S.set i p') i=p':=by rw[ba,if_pos ⟨rfl,h⟩]
def wH(hw:W.length=1+nd+n)(V:n<=32){t:Nat}(I:t<n)(O:0<=d):isB W (2+(nd:Int)) n (tokH t d)=decide (d<=tnw nd W t):=by
 have h:tokH t d%65536=t+1:=by unfold tokH;omega
 have H:tokH t d/65536=d:=by unfold tokH;omega
 unfold isB A4;rw[h,H,show(2+(nd:Int)+((t:Int)+1-1))=2+(nd:Int)+t by omega,Eu hw I,decide_eq_true (show 0<=tokH t d/\1<=(t:Int)+1/\(t:Int)+1<=n by refine⟨by unfold tokH;omega,by omega,by omega⟩)];rfl
def HIv.keep(h:HIv nd n node W D S G)(hi:i<n)(hw:W'.length=W.length)(YT:∀t,t<n->tnw nd W' t=tnw nd W t)(Ty:tl W'=tl W)(Rq:∀k,i∉(G k).tail)(X8:(∀k,i∉G k)->p'.pc=0\/p'.pc=1)(Ys:G (i+1)≠[]->(((p'.pc=2/\0<p'.b)\/p'.pc=3)/\lc W' (node i)=eF D (G (i+1)))\/(p'.pc=4/\p'.c=eF D (G (i+1))))(Yu:∀m,m≠i->G (m+1)≠[]->(sv S m).pc<4->lc W' (node m)=lc W (node m))(O9:G (i+1)≠[]->p'.pc<4->(sv S i).pc<4)(Yo:∀v,v<nd->lc W' v=0\/(lc W' v=lc W v/\(v=node i->G (i+1)≠[]->(sv S i).pc<4->p'.pc<4)))(X9:(G 0).head? =some i->(p'.pc=5/\Dn n D p'.a)\/p'.pc=10\/p'.pc=11):HIv nd n node W' D (S.set i p') G:=by
  have Y:=qk (S:=S) (i:=i) (p':=p') aic;refine⟨hw.trans h.wl,by simp[h.sl],h.dl,h.n32,h.nn,λt V=>(YT t V).trans (h.tw t V),h.d0,h.nod,h.dj,h.lt,λk=>?_,λt V hk=>?_,h.first,h.same,λm hm=>?_,λm m' hm Ld he h1 H=>?_,λv O=>?_,λt V=>?_,by rw[Ty];exact h.tail⟩;. refine(h.lk k).mono λa b _ I JD=>?_;have:b≠i:=λe=>Rq k (e ▸ I);unfold HLk;rw[cf this];exact JD
  . by_cases e:t=i;. subst e;rw[Y];exact X8 hk
    . rw[cf e];exact h.free t V hk
  . by_cases e:m=i;. subst e;rw[Y];exact Ys hm
    . rw[cf e];rcases h.mast m hm with⟨h1,H⟩|h1
      . exact .inl ⟨h1,by rw[Yu m e hm ahE];exact H⟩
      . exact .inr h1
  . refine h.one m m' hm Ld he ?_ ?_
    . by_cases e:m=i;. subst e;rw[Y]at h1;exact O9 hm h1
      . rw[cf e]at h1;exact h1
    . by_cases e:m'=i;. subst e;rw[Y]at H;exact O9 Ld H
      . rw[cf e]at H;exact H
  . rcases Yo v O with h1|⟨h1,H⟩
    . exact .inl h1
    . rw[h1];rcases h.loc v O with h3|⟨m,h3,h4,h5⟩
      . exact .inl h3
      . refine .inr ⟨m,h3,?_,h5⟩;by_cases e:m=i;. subst e;rw[Y];exact H h5.symm h3 h4
        . rw[cf e];exact h4
  . by_cases e:t=i;. subst e;rw[Y];exact X9 V
    . rw[cf e];exact h.front t V
end
end
section
open Go.RowKit
def tuC(a:Nat)(f:Int)(n:Nat)(D:List Int):List Value:=[pointer (some ⟨a,0,none⟩),J f,J n]++D.map (Value.int .i64)
structure ee(w:World)(u a:Nat)(f:Int)(n:Nat)(D:List Int):Prop where
 blk:Blk w u 322 (tuC a f n D).toArray
 len:D.length=32
 n32:n<=32
 f0:0<=f/\f<=5000
section
variable{n:Nat}{D:List Int}
def ee.c0(h:ee w u a f n D):w.cell? u=some ↑a:=h.blk.cell 0
def ee.c1(h:ee w u a f n D):Z w u 1 (J f):=h.blk.cell 1
def ee.c2(h:ee w u a f n D):Z w u 2 (J n):=h.blk.cell 2
def ee.c3(h:ee w u a f n D)(hi:i<32):Z w u (3+i) (J (dv D i)):=by rw[h.blk.cell (3+i)];have H:=h.len;unfold tuC dv;rw[List.getElem?_toArray,List.getElem?_append_right ahF];simp[List.getD_eq_getElem?_getD,List.getElem?_eq_getElem (show i<D.length by omega)]
def ee.turns(h:ee w u a f n D){S:List Nat}(k:aa S w w')(H:u∉S):ee w' u a f n D:=⟨k.blk h.blk H,h.len,h.n32,h.f0⟩
def ee.below(h:ee w u a f n D)(k:Below w.heap.size w w'):ee w' u a f n D:=h.turns (aa.of_below (S:=[]) k) ahF
def FS(h:ee w u a f n D):E 299 #[↑u] w λe w'=>e= returned (J n)/\w=w':=by have c2:=h.c2;clear h;go_enter func299,ntmps299;exact aaa
def Dl(h:ee w u a f n D)(i:Int)(b:Bool)(I:decide (0<=i/\i<n)=b):E 293 #[↑u,J i] w λe w'=>e= returned (.bool b)/\w=w':=by
 have H:=qh h;have HB:=qh I;clear h I;go_enter func293,ntmps293;by_cases O:0<=i;.go_wp2_with fail;refine LT (FS H.o) ?_;go_wp2;go_ret;exact⟨aA (by rw[<-HB.o];simp[O]),rfl⟩
 .exact aap
def Hl(h:ee w u a f n D)(i:Nat)(hi:i<n)(hd:0<=dv D i/\dv D i<1000000000):E 290 #[↑u,J i] w λe w'=>e= returned (J (tokH i (dv D i+1)))/\Below w.heap.size w w':=by
 have O:=h.n32;have c3:=h.c3 (i:=i) ahE;have H:=qh (Dl h i true (decide_eq_true ahE));obtain⟨d,hd1⟩:=LE (dv D i);rw[<-hd1]at c3 hd ⊢;obtain⟨Y,X4⟩:=hd;have I:(i:Int)<32:=by omega
 have V:i<32:=by omega
 clear h hd1;go_enter func290,ntmps290;go_wp2_with fail;refine LT H.o ?_;go_wp2_with fail;refine(BM w _ _ ahE ahE ahE ahE).mono ?_;rintro en w1 ⟨rfl,b1⟩;have B1:=qh b1;clear b1 c3;exact aan
end
structure IsK(w W:World)(u a g:Nat)(f:Int)(n:Nat)(D:List Int)(s s':Ar):Prop where
 ar:aB W a g s'
 tu:ee W u a f n D
 tn:aa [a,g] w W
def IsK.below{W H:World}{n:Nat}{D:List Int}{s s':Ar}(h:IsK w W u a g f n D s s')(k:Below W.heap.size W H):IsK w H u a g f n D s s':=
 ⟨h.ar.turns (S:=[]) (aa.of_below k) ahF ahF,h.tu.below k,h.tn.trans (aa.of_below k)⟩
def isU{n:Nat}{D:List Int}{s:Ar}(h:aB w a g s)(k:ee w u a f n D)(Mh:u≠a)(Mi:u≠g)(x:Int)(V:0<=x)(h1:x<9223372036854775808)(Y:s.ops+1<=1000000000000):E 291 #[↑u,J x] w λe w'=>e= returned (bool (isB s.W f n x))/\aB w' a g (isA s f n x)/\aa [a,g] w w':=by
  have HI:=qh (λW=>Az W x V h1);have HM:=qh (λW=>yr W x V h1);have Uh:=qh (λW=>AF W x V h1);have K0:=qh (show IsK w w u a g f n D s s from⟨h,k,aa.refl _ _⟩);have HC:=qh (λW (h:ee W u a f n D)=>And.intro h.c0 h.c1);have Lh:u∉[a,g]:=by simp[Mh,Mi]
  obtain⟨f0,f1⟩:=k.f0;have n32:=k.n32;obtain⟨j,hj⟩:=LE (x%65536);have Vm:0<=j:=by omega
  have Tb:j<65536:=by omega
  obtain⟨m,hm⟩:=LE (x/65536);rw[<-hj]at HI;rw[<-hm]at Uh;by_cases mP:1<=j/\j<=n
  . have H:A4 n x=true:=decide_eq_true ⟨V,by omega,by omega⟩;obtain⟨v,O⟩:=LE (ldW s.W (f+(j-1)));have HE:Kq (isA s f n x=af s (f+(j-1))/\isB s.W f n x=decide (m<=v)):=qh ⟨by unfold isA;rw[H,<-hj];rfl,by unfold isB;rw[H,<-hj,<-hm,<-O];rfl⟩;have HL:=qh (λW (h:aB W a g s)=>aD h (f+(j-1)) Y);rw[<-O]at HL;have HH:=qh (λW (h:ee W u a f n D)=>Dl h (j-1) true (decide_eq_true ahE));obtain⟨ab,ad⟩:=mP;have HU:=qh Lh;clear h k V h1 hj hm H O Lh Mh Mi;go_enter func291,ntmps291;go_wp2_with fail;refine Op (HI.o w) λw1 b1=>?_;have I:=qh ((K0.o.below b1.o).below ((Below.refl _ w1).drew));have x1:IntKind.i64.wrap (f+(j-1))=f+(j-1):=IntWalk.i64_in _ ahE;go_wp2_with fail
    go_region_held3 (λW=>W.cell? u=some ↑a/\Z W u 1 (J f))
      (first|with_reducible exact HC.o _ I.o.tu|with_reducible exact HC.o _ K2.o.tu|with_reducible exact HC.o _ K3.o.tu|with_reducible exact HC.o _ K4.o.tu)
      (first
        | (go_at_call 296;go_loud (refine Op (HM.o _) λw2 q2=>?_);have K2:=qh (I.o.below (Qt.below q2.o _)))
        | (go_at_call 293;go_loud (refine LT (HH.o _ K2.o.tu) ?_))
        | (go_at_call 173;go_loud (refine Op (HL.o _ K2.o.ar) λw3 a3=>?_);have K3:Kq (IsK w w3 u a g f n D s (af s (f+(j-1)))):=qh ⟨a3.o.1,K2.o.tu.turns a3.o.2 HU.o,K2.o.tn.trans a3.o.2⟩)
        | (go_at_call 297;go_loud (refine Op (Uh.o _) λw4 b4=>?_);have K4:=qh (K3.o.below b4.o)))
    all_goals
      go_wp2;go_ret;refine⟨aA ?_,?_,K4.o.tn⟩;. rw[HE.o.2]
      . rw[HE.o.1];exact K4.o.ar
  . have H:A4 n x=false:=decide_eq_false ahE;have HE:Kq (isA s f n x=s/\isB s.W f n x=false):=qh ⟨by unfold isA;rw[H];rfl,by unfold isB;rw[H];rfl⟩;have HH:=qh (λW (h:ee W u a f n D)=>Dl h (j-1) false (decide_eq_false ahE));clear h k V h1 hj hm H Lh Mh Mi;go_enter func291,ntmps291;go_wp2_with fail;refine Op (HI.o w) λw1 b1=>?_;have I:=qh (K0.o.below b1.o);clear mP;go_wp2_with fail
    go_quiet ((first
        | (go_at_call 296;exact BO (HM.o _))
        | (go_at_call 293;exact bG (HH.o _ (I.o.below (Qt.below ⟨_,rfl⟩ _)).tu))))
    go_wp2;go_ret;refine⟨aA ?_,?_,I.o.tn.trans (aa.of_qt ⟨_,rfl⟩)⟩;. rw[HE.o.2]
    . rw[HE.o.1];exact(I.o.below (Qt.below ⟨_,rfl⟩ _)).ar
end
section
open Go
def upd(G:Nat->List Nat)(k:Nat)(l:List Nat):Nat->List Nat:=λj=>if j=k then l else G j
def cy(G:Nat->List Nat)(k:Nat)(l:List Nat):upd G k l k=l:=by unfold upd;rw[if_pos rfl]
def pr(G:Nat->List Nat){k:Nat}(l:List Nat)(h:j≠k):upd G k l j=G j:=by unfold upd;rw[if_neg h]
section
variable{n:Nat}{D:List Int}{S:List Sp}{p':Sp}
def jC(x:Int)(h:1+v<W.length):lc (W.set (1+v) x) u=if v=u then x else lc W u:=by
 unfold lc;by_cases e:v=u;.subst e;rw[ik _ _ _ h,if_pos rfl]
 .rw[dh _ _ _ ahE,if_neg e]
def rA(x:Int):tl (W.set (1+v) x)=tl W:=dh _ _ _ ahE
def pj{t:Nat}(x:Int)(h:v<nd):tnw nd (W.set (1+v) x) t=tnw nd W t:=dh _ _ _ ahE
def HIv.nil1(h:HIv nd n node W D S G)(H:∀k,i∉G k):G (i+1)=[]:=by
 rcases Classical.em (G (i+1)=[])with e|e
 .exact e
 .exact absurd (bB (h.first i e)) (H _)
def HIv.ask(h:HIv nd n node W D S G)(hi:i<n)(O:(sv S i).pc=0)(Y:p'.pc=1):HIv nd n node W D (S.set i p') G:=by have I:=h.at01 (.inl O);have e:=h.nil1 I;refine h.keep hi rfl (λ_ _=>rfl) rfl (λk hm=>I k (List.mem_of_mem_tail hm)) (λ_=> .inr Y) (λH=>absurd e H) (λ_ _ _ _=>rfl) (λH=>absurd e H) (λ_ _=> .inr ⟨rfl,λ_ H=>absurd e H⟩) (λV=>absurd (bB V) (I 0))
def HIv.atFrontP(h:HIv nd n node W D S G)(hi:i<n)(V:(G 0).head? =some i)(hp:p'.pc=10\/p'.pc=11):HIv nd n node W D (S.set i p') G:=by
 have hm:=bB V
 have I:G (i+1)=[]:=by
  rcases Classical.em (G (i+1)=[])with e|e
  .exact e
  .have:=h.dj _ _ _ hm (bB (h.first i e));omega
 refine h.keep hi rfl (λ_ _=>rfl) rfl (λk O=>?_) (λY=>absurd hm (Y 0)) (λH=>absurd I H) (λ_ _ _ _=>rfl) (λH=>absurd I H) (λ_ _=> .inr ⟨rfl,λ_ H=>absurd I H⟩) (λ_=> .inr hp);have:=h.dj _ _ _ hm (List.mem_of_mem_tail O);subst this;exact iu (h.nod 0) V O
def HIv.masterNot(h:HIv nd n node W D S G)(I:(G (i+1)).head? =some i):(∀k,i∉(G k).tail)/\¬(G 0).head? =some i:=by
 have hm:=bB I;refine⟨λk H=>?_,λO=>?_⟩;.have:=h.dj _ _ _ hm (List.mem_of_mem_tail H);subst this;exact iu (h.nod _) I H
 .have:=h.dj _ _ _ hm (bB O);omega
def HIv.s2(h:HIv nd n node W D S G)(hi:i<n)(O:(sv S i).pc=2)(hp:(p'.pc=2/\0<p'.b)\/p'.pc=3):HIv nd n node W D (S.set i p') G:=by
 have I:=h.at234 hi (.inl O);obtain⟨q1,q2⟩:=h.masterNot I;refine h.keep hi rfl (λ_ _=>rfl) rfl q1 (λY=>absurd (bB I) (Y _)) (λH=>?_) (λ_ _ _ _=>rfl) (λ_ _=>by omega) (λ_ _=> .inr ⟨rfl,λ_ _ _=>by omega⟩) (λV=>absurd V q2);rcases h.mast i H with⟨_,h1⟩|⟨h1,_⟩
 .exact .inl ⟨hp,h1⟩
 .omega
def HIv.s3(h:HIv nd n node W D S G)(hi:i<n)(h3:(sv S i).pc=3)(hp:p'.pc=4)(hc:p'.c=lc W (node i)):HIv nd n node (W.set (1+node i) 0) D (S.set i p') G:=by
 have I:=h.at234 hi (.inr (.inl h3));obtain⟨q1,q2⟩:=h.masterNot I;have O:=h.nn i hi;have V:1+node i<W.length:=by rw[h.wl];omega
 refine h.keep hi ahF (λt _=>pj 0 O) (rA 0) q1 (λhk=>absurd (bB I) (hk _)) (λH=>?_) (λm hm H h4=>?_) (λ_ _=>by omega) (λv _=>?_) (λhh=>absurd hh q2)
 .rcases h.mast i H with⟨_,h1⟩|⟨h1,_⟩
  .exact .inr ⟨hp,hc.trans h1⟩
  .omega
 .rw[jC 0 V,if_neg];intro e;exact hm (h.one m i H (gV I) e.symm h4 ahE)
 .rw[jC 0 V];by_cases e:node i=v;.exact .inl (by rw[if_pos e])
  .exact .inr ⟨by rw[if_neg e],λY=>absurd Y.symm e⟩
def HIv.same5(h:HIv nd n node W D S G)(hi:i<n)(H:p'=sv S i):HIv nd n node W D (S.set i p') G:=by
 have:S.set i p'=S:=by
  subst H;apply List.ext_getElem?;intro j;rw[List.getElem?_set];by_cases e:i=j;.subst e;have:i<S.length:=(by rw[h.sl];exact hi);rw[if_pos rfl,if_pos this];exact aaq
  .rw[if_neg e]
 rw[this];exact h
def HIv.s5(h:HIv nd n node W D S G)(hi:i<n)(Y:(sv S i).pc=5)(I:isB W (2+(nd:Int)) n (sv S i).a=true):(G 0).head? =some i:=by
 rcases h.at5 hi Y with⟨k,p,_,O,V⟩|h1
 .have H:=h.lt k p O;rw[V,wH h.wl h.n32 H (by have:=h.d0 p;omega),h.tw p H]at I;have:=of_decide_eq_true I;omega
 .exact h1.1
def HIv.s5n(h:HIv nd n node W D S G)(O:(G 0).head? =some i)(Y:(sv S i).pc=5):isB W (2+(nd:Int)) n (sv S i).a=true:=by
 rcases h.front i O with⟨_,t,d,h1,V,H,I⟩|h1|h1
 .rw[I,wH h.wl h.n32 h1 ahE,h.tw t h1];exact decide_eq_true H
 .omega
 .omega
def HIv.s1a(h:HIv nd n node W D S G)(hi:i<n)(h1:(sv S i).pc=1)(hl:lc W (node i)=0)(hp:(p'.pc=2/\0<p'.b)\/p'.pc=3):HIv nd n node (W.set (1+node i) (tokH i (dv D i+1))) D (S.set i p') (upd G (i+1) [i]):=by
 have hk:=h.at01 (.inr h1);have O:=h.nn i hi;have LZ:1+node i<W.length:=by rw[h.wl];omega
 have Lu:=qk (S:=S) (i:=i) (p':=p') aic;have I':eF D [i]=tokH i (dv D i+1):=du rfl
 have Tk:∀m,G (m+1)≠[]->(sv S m).pc<4->node m≠node i:=λm hm h4 e=>by
  rcases h.mast m hm with⟨_,H⟩|⟨H,_⟩
  .rw[e,hl]at H;obtain⟨t,ht,_⟩:=j6 hm;rw[du ht]at H;exact vH (by have:=h.d0 t;omega) H.symm
  .omega
 have Y:∀k,k≠i+1->upd G (i+1) [i] k=G k:=λk e=>pr G _ e;have LX:∀m,m≠i->upd G (i+1) [i] (m+1)=G (m+1):=λm e=>Y _ ahE;refine⟨by simp[h.wl],by simp[h.sl],h.dl,h.n32,h.nn,λt ht=>(pj _ O).trans (h.tw t ht),h.d0,λk=>?_,λk k' t JE JN=>?_,λk t hm=>?_,λk=>?_,λt ht JE=>?_,λm hm=>?_,λm t hm=>?_,λm hm=>?_,λm m' hm Ld he H h3=>?_,λv KW=>?_,λt ht=>?_,?_⟩
 .by_cases e:k=i+1;.rw[e,cy];simp
  .rw[Y k e];exact h.nod k
 .by_cases e:k=i+1<;>by_cases V:k'=i+1;.omega
  .rw[e,cy]at JE;rw[Y k' V]at JN;rw[List.mem_singleton.1 JE]at JN;exact absurd JN (hk k')
  .rw[V,cy]at JN;rw[Y k e]at JE;rw[List.mem_singleton.1 JN]at JE;exact absurd JE (hk k)
  .rw[Y k e]at JE;rw[Y k' V]at JN;exact h.dj k k' t JE JN
 .by_cases e:k=i+1;.rw[e,cy]at hm;rw[List.mem_singleton.1 hm];exact hi
  .rw[Y k e]at hm;exact h.lt k t hm
 .by_cases e:k=i+1;.rw[e,cy];exact⟨λb I=>by simp at I,trivial⟩
  .rw[Y k e];refine(h.lk k).mono λa b _ I JD=>?_;exact aar
 .have e:t≠i:=λe=>JE (i+1) (by rw[cy,e];simp);rw[cf e];refine h.free t ht λk=>?_;by_cases e2:k=i+1;.rw[e2,h.nil1 hk];simp
  .have:=JE k;rw[Y k e2]at this;exact this
 .by_cases e:m=i;.rw[e,cy];rfl
  .rw[LX m e]at hm ⊢;exact h.first m hm
 .by_cases e:m=i;.rw[e,cy]at hm;rw[List.mem_singleton.1 hm,e]
  .rw[LX m e]at hm;exact h.same m t hm
 .by_cases e:m=i;.subst e;rw[cy,Lu,jC _ LZ,if_pos rfl,I'];exact .inl ⟨hp,rfl⟩
  .rw[LX m e]at hm ⊢;rw[cf e];rcases h.mast m hm with⟨H,h3⟩|H
   .refine .inl ⟨H,?_⟩;rw[jC _ LZ,if_neg (λV=>Tk m hm ahE V.symm)];exact h3
   .exact .inr H
 .by_cases e:m=i<;>by_cases V:m'=i;.omega
  .rw[LX m' V]at Ld;rw[cf V]at h3;subst e;exact absurd he.symm (Tk m' Ld h3)
  .rw[LX m e]at hm;rw[cf e]at H;subst V;exact absurd he (Tk m hm H)
  .rw[LX m e]at hm;rw[LX m' V]at Ld;rw[cf e]at H;rw[cf V]at h3;exact h.one m m' hm Ld he H h3
 .by_cases e:node i=v;.refine .inr ⟨i,by rw[cy];simp,?_,e⟩;rw[Lu];omega
  .rw[jC _ LZ,if_neg e];rcases h.loc v KW with H|⟨m,H,h3,h4⟩
   .exact .inl H
   .have e2:m≠i:=λe2=>e (by rw[<-e2];exact h4);exact .inr ⟨m,by rw[LX m e2];exact H,by rw[cf e2];exact h3,h4⟩
 .rw[Y 0 ahE]at ht;rw[cf (λe=>hk 0 (by rw[<-e];exact bB ht))];exact h.front t ht
 .rw[Y 0 ahE,rA];exact h.tail
def HIv.s1b(h:HIv nd n node W D S G)(hi:i<n)(h1:(sv S i).pc=1)(hl:lc W (node i)≠0)(hp:p'.pc=5)(ha:p'.a=lc W (node i)):∃m t,G (m+1)≠[]/\t∈G (m+1)/\node t=node i/\p'.a=tokH t (dv D t+1)/\HIv nd n node (W.set (1+node i) (tokH i (dv D i+1))) D (S.set i p') (upd G (m+1) (G (m+1)++[i])):=by
  have hk:=h.at01 (.inr h1);have O:=h.nn i hi;have LZ:1+node i<W.length:=by rw[h.wl];omega
  have Lu:=qk (S:=S) (i:=i) (p':=p') aic;rcases h.loc (node i) O with V|⟨m,hm,Vw,Ox⟩
  . exact absurd V hl
  have J5:lc W (node m)=eF D (G (m+1)):=by
    rcases h.mast m hm with⟨_,V⟩|⟨V,_⟩
    . exact V
    . omega
  obtain⟨t,ht,Qo⟩:=j6 hm;have NF:p'.a=tokH t (dv D t+1):=by rw[ha,<-Ox,J5,du ht]
  have Rm:m≠i:=λe=>by rw[e]at hm;exact hm (h.nil1 hk)
  refine⟨m,t,hm,Qo,(h.same m t Qo).trans Ox,NF,?_⟩;have hu:∀k,k≠m+1->upd G (m+1) (G (m+1)++[i]) k=G k:=λk e=>pr G _ e;have LX:∀j,j≠m->upd G (m+1) (G (m+1)++[i]) (j+1)=G (j+1):=λj e=>hu _ ahE;have Yk:eF D (G (m+1)++[i])=tokH i (dv D i+1):=by rw[kQ _ ahF];exact du rfl
  have ab:∀j,upd G (m+1) (G (m+1)++[i]) (j+1)≠[]->G (j+1)≠[]:=λj H=>by
    by_cases e:j=m;. rw[e];exact hm
    . rw[LX j e]at H;exact H
  refine⟨by simp[h.wl],by simp[h.sl],h.dl,h.n32,h.nn,λt ht=>(pj _ O).trans (h.tw t ht),h.d0,λk=>?_,λk k' t Y JN=>?_,λk t hm=>?_,λk=>?_,λt ht Y=>?_,λj H=>?_,λj t H=>?_,λj H=>?_,λj j' H LI he V h3=>?_,λv KW=>?_,λt ht=>?_,?_⟩
  . by_cases e:k=m+1;. rw[e,cy];refine List.nodup_append.2 ⟨h.nod _,by simp,λx hx y hy=>?_⟩;rw[List.mem_singleton.1 hy];rintro rfl;exact hk _ hx
    . rw[hu k e];exact h.nod k
  . by_cases e:k=m+1<;>by_cases e':k'=m+1;. omega
    . rw[e,cy]at Y;rw[hu k' e']at JN;rcases List.mem_append.1 Y with Y|Y
      . rw[e];exact h.dj _ _ t Y JN
      . rw[List.mem_singleton.1 Y]at JN;exact absurd JN (hk k')
    . rw[e',cy]at JN;rw[hu k e]at Y;rcases List.mem_append.1 JN with JN|JN
      . rw[e'];exact h.dj _ _ t Y JN
      . rw[List.mem_singleton.1 JN]at Y;exact absurd Y (hk k)
    . rw[hu k e]at Y;rw[hu k' e']at JN;exact h.dj k k' t Y JN
  . by_cases e:k=m+1
    . rw[e,cy]at hm;rcases List.mem_append.1 hm with hm|hm
      . exact h.lt _ t hm
      . rw[List.mem_singleton.1 hm];exact hi
    . rw[hu k e]at hm;exact h.lt k t hm
  . have old:∀k,Lks (HLk D (S.set i p')) (G k):=λk=>(h.lk k).mono λa b _ I JD=>by exact aar
    by_cases e:k=m+1;. rw[e,cy];refine(old _).append ⟨λb I=>by simp at I,trivial⟩ λa b Ku ad=>?_;have e1:b=i:=(by simpa using ad.symm);rw[ht]at Ku;injection Ku with Ku;subst e1 Ku;unfold HLk;rw[Lu];exact⟨hp,NF⟩
    . rw[hu k e];exact old k
  . have e:t≠i:=λe=>Y (m+1) (by rw[cy,e];simp);rw[cf e];refine h.free t ht λk=>?_;by_cases e2:k=m+1;. have:=Y k;rw[e2,cy]at this;rw[e2];exact λhx=>this (List.mem_append_left _ hx)
    . have:=Y k;rw[hu k e2]at this;exact this
  . by_cases e:j=m;. rw[e,cy,List.head?_append,h.first m hm];rfl
    . rw[LX j e]at H ⊢;exact h.first j H
  . by_cases e:j=m
    . rw[e,cy]at H;rcases List.mem_append.1 H with H|H
      . rw[e];exact h.same m t H
      . rw[List.mem_singleton.1 H,e];exact Ox.symm
    . rw[LX j e]at H;exact h.same j t H
  . have LR:j≠i:=λe=>by have:=ab j H;rw[e]at this;exact this (h.nil1 hk)
    rw[cf LR];by_cases e:j=m
    . subst e;rcases h.mast j hm with⟨V,h3⟩|⟨V,_⟩
      . exact .inl ⟨V,by rw[cy,Yk,jC _ LZ,if_pos Ox.symm]⟩
      . omega
    . rw[LX j e]at H ⊢;rcases h.mast j H with⟨V,h3⟩|V
      . refine .inl ⟨V,?_⟩;rw[jC _ LZ,if_neg];. exact h3
        . intro e';exact e (h.one j m H hm (e'.symm.trans Ox.symm) ahE Vw)
      . exact .inr V
  . have e1:j≠i:=λe=>by have:=ab j H;rw[e]at this;exact this (h.nil1 hk)
    have e2:j'≠i:=λe=>by have:=ab j' LI;rw[e]at this;exact this (h.nil1 hk)
    rw[cf e1]at V;rw[cf e2]at h3;exact h.one j j' (ab j H) (ab j' LI) he V h3
  . by_cases e:node i=v;. exact .inr ⟨m,by rw[cy];simp,by rw[cf Rm];exact Vw,Ox.trans e⟩
    . rw[jC _ LZ,if_neg e];rcases h.loc v KW with V|⟨j,V,h3,h4⟩
      . exact .inl V
      . have e2:j≠i:=λe2=>e (by rw[<-e2];exact h4);have e3:j≠m:=λe3=>e (by rw[<-h4,e3,Ox]);exact .inr ⟨j,by rw[LX j e3];exact V,by rw[cf e2];exact h3,h4⟩
  . rw[hu 0 ahE]at ht;rw[cf (λe=>hk 0 (by rw[<-e];exact bB ht))];exact h.front t ht
  . rw[hu 0 ahE,rA];exact h.tail
end
end
section
open Go
section
variable{n:Nat}{D:List Int}{S:List Sp}{p':Sp}
def spl(G:Nat->List Nat)(i:Nat):Nat->List Nat:=λj=>if j=0 then G 0++G (i+1)else if j=i+1 then[]else G j
def yL(G:Nat->List Nat)(i:Nat):spl G i 0=G 0++G (i+1):=by unfold spl;rw[if_pos rfl]
def D0(G:Nat->List Nat)(i:Nat):spl G i (i+1)=[]:=by unfold spl;rw[if_neg ahE,if_pos rfl]
def Ca(G:Nat->List Nat)(h:j≠i):spl G i (j+1)=G (j+1):=by unfold spl;rw[if_neg ahE,if_neg ahE]
def Ec(x:Int)(h:0<W.length):tl (W.set 0 x)=x:=ik _ _ _ h
def wJ(x:Int):lc (W.set 0 x) v=lc W v:=dh _ _ _ ahE
def Ck{t:Nat}(x:Int):tnw nd (W.set 0 x) t=tnw nd W t:=dh _ _ _ ahE
def rb{k t:Nat}(hm:t∈spl G i k):∃h,t∈G h/\(k=h\/(k=0/\h=i+1)):=by
 unfold spl at hm;split at hm
 .rename_i e;rcases List.mem_append.1 hm with hm|hm
  .exact⟨0,hm,.inl e⟩
  .exact⟨i+1,hm,.inr ⟨e,rfl⟩⟩
 .split at hm;.simp at hm
  .exact⟨k,hm,.inl rfl⟩
def HIv.s4(h:HIv nd n node W D S G)(hi:i<n)(h4:(sv S i).pc=4)(hp:(tl W=0/\p'.pc=10)\/(tl W≠0/\p'.pc=5))(ha:p'.a=tl W):(∃r,G (i+1)=i :: r)/\(p'.pc=10->G 0=[])/\HIv nd n node (W.set 0 (sv S i).c) D (S.set i p') (spl G i):=by
  have hf:=h.at234 hi (.inr (.inr h4));have ad:=gV hf;have LZ:0<W.length:=by rw[h.wl];omega
  have Lu:=qk (S:=S) (i:=i) (p':=p') aic;obtain⟨q1,q2⟩:=h.masterNot hf
  have hc:(sv S i).c=eF D (G (i+1)):=by
    rcases h.mast i ad with⟨H,_⟩|⟨_,H⟩
    . omega
    . exact H
  have X5:p'.pc=10->G 0=[]:=λe=>by
    rcases h.tail with⟨H,O⟩|⟨H,_⟩
    . rcases hp with⟨h5,_⟩|⟨_,h6⟩
      . obtain⟨t,Y,_⟩:=j6 O;rw[h5,du Y]at H;exact absurd H.symm (vH (by have:=h.d0 t;omega))
      . omega
    . exact H
  refine⟨?_,X5,?_⟩
  . cases V:G (i+1)with
    | nil=>exact absurd V ad
    | cons a r=>rw[V]at hf;simp at hf;subst hf;exact⟨r,rfl⟩
  have old:∀k,Lks (HLk D (S.set i p')) (G k):=λk=>(h.lk k).mono λa b _ I JD=>by have:b≠i:=λe=>q1 k (e ▸ I);unfold HLk;rw[cf this];exact JD
  have hm0:∀m,spl G i (m+1)≠[]->m≠i/\G (m+1)≠[]:=λm hm=>by
    by_cases e:m=i;. rw[e,D0]at hm;exact absurd rfl hm
    . rw[Ca G e]at hm;exact⟨e,hm⟩
  refine⟨by simp[h.wl],by simp[h.sl],h.dl,h.n32,h.nn,λt Y=>(Ck _).trans (h.tw t Y),h.d0,λk=>?_,λk k' t JE JN=>?_,λk t hm=>?_,λk=>?_,λt Y JE=>?_,λm hm=>?_,λm t hm=>?_,λm hm=>?_,λm m' hm Ld he H O=>?_,λv KW=>?_,λt Y=>?_,?_⟩
  . unfold spl;split;. refine List.nodup_append.2 ⟨h.nod _,h.nod _,λx hx y hy e=>?_⟩;subst e;have:=h.dj _ _ _ hx hy;omega
    . split;. exact List.nodup_nil
      . exact h.nod k
  . obtain⟨j,hj,ej⟩:=rb JE;obtain⟨j',LI,XB⟩:=rb JN;have e:=h.dj _ _ _ hj LI;subst e;rcases ej with rfl|⟨rfl,rfl⟩<;>rcases XB with e'|⟨rfl,e'⟩
    . exact e'.symm
    . subst e';rw[D0]at JE;simp at JE
    . subst e';rw[D0]at JN;simp at JN
    . rfl
  . obtain⟨j,hj,_⟩:=rb hm;exact h.lt j t hj
  . unfold spl;split
    . refine(old 0).append (old _) λa b Ku ab=>?_;rw[hf]at ab;injection ab with ab;subst ab;rcases h.tail with⟨H,O⟩|⟨H,_⟩
      . unfold HLk;rw[Lu,ha,H,du Ku];refine⟨?_,rfl⟩;rcases hp with⟨h5,_⟩|⟨_,h6⟩
        . rw[h5,du Ku]at H;exact absurd H.symm (vH (by have:=h.d0 a;omega))
        . exact h6
      . rw[H]at Ku;simp at Ku
    . split;. trivial
      . exact old k
  . have e:t≠i:=λe=>JE 0 (by rw[yL,e];exact List.mem_append_right _ (bB hf));rw[cf e];refine h.free t Y λk hk=>?_;by_cases e0:k=0;. subst e0;exact JE 0 (by rw[yL];exact List.mem_append_left _ hk)
    . by_cases e1:k=i+1;. subst e1;exact JE 0 (by rw[yL];exact List.mem_append_right _ hk)
      . exact JE k (by unfold spl;rw[if_neg e0,if_neg e1];exact hk)
  . obtain⟨e,JQ⟩:=hm0 m hm;rw[Ca G e];exact h.first m JQ
  . have e:m≠i:=λe=>by rw[e,D0]at hm;simp at hm
    rw[Ca G e]at hm;exact h.same m t hm
  . obtain⟨e,JQ⟩:=hm0 m hm;rw[Ca G e,cf e,wJ];exact h.mast m JQ
  . obtain⟨e,JQ⟩:=hm0 m hm;obtain⟨e',Yq⟩:=hm0 m' Ld;rw[cf e]at H;rw[cf e']at O;exact h.one m m' JQ Yq he H O
  . rw[wJ];rcases h.loc v KW with H|⟨m,H,O,h5⟩
    . exact .inl H
    . have e:m≠i:=λe=>by rw[e]at O;omega
      exact .inr ⟨m,by rw[Ca G e];exact H,by rw[cf e];exact O,h5⟩
  . rw[yL]at Y;by_cases h0:G 0=[]
    . rw[h0,List.nil_append,hf]at Y;injection Y with Y;subst Y;rw[Lu];rcases hp with⟨_,h5⟩|⟨h5,h6⟩
      . exact .inr (.inl h5)
      . refine .inl ⟨h6,?_⟩;rw[ha];rcases h.tail with⟨_,O⟩|⟨_,O|O⟩
        . exact absurd h0 O
        . exact absurd O h5
        . exact O
    . have MW:(G 0).head? =some t:=by
        cases hg:G 0 with
        | nil=>exact absurd hg h0
        | cons a l=>rw[hg]at Y;simpa using Y
      rw[cf (λe:t=i=>q2 (by rw[<-e];exact MW))];exact h.front t MW
  . rw[yL,Ec _ LZ];exact .inl ⟨by rw[kQ _ ad];exact hc,by simp[ad]⟩
def Am(h:i<D.length)(x:Int)(t:Nat):dv (D.set i x) t=if i=t then x else dv D t:=by
 unfold dv;by_cases e:i=t;.subst e;rw[ik _ _ _ h,if_pos rfl]
 .rw[dh _ _ _ e,if_neg e]
def mt{l:List Nat}(h:∀t∈l,dv D' t=dv D t):eF D' l=eF D l:=by
 unfold eF;cases H:l.getLast? with
 |none=>rfl
 |some t=>simp only;rw[h t (List.mem_of_getLast? H)]
def HIv.s11(h:HIv nd n node W D S G)(hi:i<n)(hf:(G 0).head? =some i)(hp:p'.pc=0)(x:Int)(hx:x=dv D i+1):HIv nd n node (W.set (1+nd+i) x) (D.set i (dv D i+1)) (S.set i p') (upd G 0 (G 0).tail):=by
  have hm0:=bB hf;have LZ:1+nd+i<W.length:=by rw[h.wl];omega
  have NA:i<D.length:=by have:=h.dl;omega
  have Lu:=qk (S:=S) (i:=i) (p':=p') aic;have Na:i∉(G 0).tail:=iu (h.nod 0) hf;have Rf:∀k,k≠0->i∉G k:=λk hk hm=>hk (h.dj _ _ _ hm hm0)
  have Rq:∀k,i∉(G k).tail:=λk hm=>by
    by_cases e:k=0;. subst e;exact Na hm
    . exact Rf k e (List.mem_of_mem_tail hm)
  have Vs:∀v,v<nd->lc (W.set (1+nd+i) x) v=lc W v:=λv O=>dh _ _ _ ahE;have YS:tl (W.set (1+nd+i) x)=tl W:=dh _ _ _ ahE
  have YU:∀t,tnw nd (W.set (1+nd+i) x) t=if i=t then x else tnw nd W t:=λt=>by
    unfold tnw;by_cases e:i=t;. subst e;rw[ik _ _ _ LZ,if_pos rfl]
    . rw[dh _ _ _ ahE,if_neg e]
  have P8:=Am NA (dv D i+1);have Mv:∀t,t≠i->dv (D.set i (dv D i+1)) t=dv D t:=λt e=>by rw[P8,if_neg (λh=>e h.symm)]
  have Ow:∀t,dv D t<=dv (D.set i (dv D i+1)) t:=λt=>by rw[P8];split<;>(try subst_vars)<;>omega
  have hu:∀k,k≠0->upd G 0 (G 0).tail k=G k:=λk e=>pr G _ e
  have OF:∀k t,t∈upd G 0 (G 0).tail k->t∈G k/\t≠i:=λk t hm=>by
    by_cases e:k=0;. subst e;rw[cy]at hm;exact⟨List.mem_of_mem_tail hm,λe=>Na (e ▸ hm)⟩
    . rw[hu k e]at hm;exact⟨hm,λe'=>Rf k e (e' ▸ hm)⟩
  have XZ:∀k,Lks (HLk D S) (upd G 0 (G 0).tail k):=λk=>by
    by_cases e:k=0;. subst e;rw[cy];exact(h.lk 0).tail
    . rw[hu k e];exact h.lk k
  have Ro:∀m,G (m+1)≠[]->m≠i:=λm hm e=>by subst e;exact Rf _ ahE (bB (h.first m hm))
  have I':∀k,k≠0->eF (D.set i (dv D i+1)) (G k)=eF D (G k):=λk e=>mt λt H=>Mv t λe'=>Rf k e (e' ▸ H);refine⟨by simp[h.wl],by simp[h.sl],by simpa using h.dl,h.n32,h.nn,λt H=>?_,λt=>?_,λk=>?_,λk k' t JE JN=>?_,λk t hm=>?_,λk=>?_,λt H JE=>?_,λm hm=>?_,λm t hm=>?_,λm hm=>?_,λm m' hm Ld he Y V=>?_,λv KW=>?_,λt H=>?_,?_⟩
  . rw[YU,P8,hx];split;. rfl
    . exact h.tw t H
  . have:=Ow t;have:=h.d0 t;omega
  . by_cases e:k=0;. subst e;rw[cy];exact(h.nod 0).sublist (List.tail_sublist _)
    . rw[hu k e];exact h.nod k
  . exact h.dj k k' t (OF k t JE).1 (OF k' t JN).1
  . exact h.lt k t (OF k t hm).1
  . refine(XZ k).mono λa b ha I JD=>?_;have e1:=(OF k a ha).2;have e2:=(OF k b (List.mem_of_mem_tail I)).2;unfold HLk;rw[cf e2,Mv a e1];exact JD
  . by_cases e:t=i;. subst e;rw[Lu];exact .inl hp
    . rw[cf e];refine h.free t H λk hk=>JE k ?_;by_cases e2:k=0
      . subst e2;rw[cy];rcases Bz hk with V|V
        . rw[hf]at V;injection V with V;exact absurd V.symm e
        . exact V
      . rw[hu k e2];exact hk
  . rw[hu _ ahE]at hm ⊢;exact h.first m hm
  . rw[hu _ ahE]at hm;exact h.same m t hm
  . rw[hu _ ahE]at hm ⊢;have e:=Ro m hm;rw[cf e,Vs _ (h.nn m (h.lt _ _ (bB (h.first m hm)))),I' _ ahE];exact h.mast m hm
  . rw[hu _ ahE]at hm Ld;rw[cf (Ro m hm)]at Y;rw[cf (Ro m' Ld)]at V;exact h.one m m' hm Ld he Y V
  . rw[Vs v KW];rcases h.loc v KW with Y|⟨m,Y,V,h4⟩
    . exact .inl Y
    . exact .inr ⟨m,by rw[hu _ ahE];exact Y,by rw[cf (Ro m Y)];exact V,h4⟩
  . rw[cy]at H;have Qo:=bB H;have e:t≠i:=λe=>Na (e ▸ Qo);rw[cf e];obtain⟨h5,p,YL,NF⟩:=h.notail Qo;refine .inl ⟨h5,?_⟩
    have YK:p=i:=by
      have hc:=h.lk 0;cases hg:G 0 with
      | nil=>rw[hg]at H;simp at H
      | cons a l=>rw[hg]at hc hf H;simp at hf H;subst hf;have:=(hc.1 t H).2;rw[NF]at this;exact(Ed (by have:=h.lt 0 p YL;have:=h.n32;omega) (by have:=h.n32;omega) this).1
    subst YK;exact⟨p,dv D p+1,hi,by have:=h.d0 p;omega,by rw[P8,if_pos rfl];exact Int.le_refl _,NF⟩
  . rw[cy,YS];rcases h.tail with⟨Y,V⟩|⟨Y,V⟩
    . cases hg:G 0 with
      | nil=>exact absurd hg V
      | cons a l=>
        rw[hg]at hf Y;simp at hf;subst hf;cases l with
        | nil=>exact .inr ⟨rfl,.inr ⟨a,dv D a+1,hi,by have:=h.d0 a;omega,by rw[P8,if_pos rfl];exact Int.le_refl _,by rw[Y];exact du rfl⟩⟩
        | cons b l=>refine .inl ⟨?_,by simp⟩;have e1:eF D (a :: b :: l)=eF D (b :: l):=(by unfold eF;rw[List.getLast?_cons_cons]);rw[Y,e1];refine(mt λt H=>Mv t λe=>?_).symm;rw[hg]at Na;exact Na (e ▸ H)
    . rw[Y]at hf;simp at hf
end
end
section
open Go.RowKit
variable{n:Nat}{D:List Int}{s:Ar}
def ee.put(h:ee w u a f n D)(v:Int):ee (w.setCell ⟨u,3+i,none⟩ (J v)) u a f n (D.set i v):=by
 refine⟨?_,by simp[h.len],h.n32,h.f0⟩;have h1:=h.blk.set_ (3+i) (J v);have e:(tuC a f n D).toArray.setIfInBounds (3+i) (J v)=(tuC a f n (D.set i v)).toArray:=by rw[List.setIfInBounds_toArray];congr 1;unfold tuC;rw[List.set_append_right _ _ ahF];simp[List.map_set]
 rw[e]at h1;exact h1
def ee.drew(h:ee w u a f n D):ee w.drew u a f n D:=h.below ((Below.refl _ _).drew)
def aB.drew(h:aB w a g s):aB w.drew a g s:=h.turns (S:=[]) ((aa.refl _ _).drew) ahF ahF
def Gx(h:aB w a g s)(k:ee w u a f n D)(O:u≠a)(Mi:u≠g)(i:Nat)(hi:i<n)(hd:0<=dv D i/\dv D i<1000000000)(Y:s.ops+1<=1000000000000):E 292 #[↑u,J i] w λe w'=>e= returned (tuple #[])/\aB w' a g (addA s (f+i) 1)/\ee w' u a f n (D.set i (dv D i+1))/\aa [a,g,u] w w':=by
  have MI:=k.n32;obtain⟨f0,f1⟩:=k.f0;have S8:i<32:=by omega
  have LG:(i:Int)<32:=by omega
  have c3:=k.c3 (i:=i) S8;have z3:=k.blk.free (3+i);have RI:=k.blk.lt;have HH:=qh (Dl k i true (decide_eq_true ahE));obtain⟨d,hd1⟩:=LE (dv D i);rw[<-hd1]at c3 hd ⊢;obtain⟨X3,X4⟩:=hd;have Q0:aB (w.setCell ⟨u,3+i,none⟩ (J (d+1))).drew a g s:=(h.turns (S:=[u]) ((aa.refl _ _).setCell (.inl ahF) _) (by simpa using Ne.symm O) (by simpa using Ne.symm Mi)).drew;have JE:ee (w.setCell ⟨u,3+i,none⟩ (J (d+1))).drew u a f n (D.set i (d+1)):=(k.put (i:=i) (d+1)).drew;have VQ:aa [a,g,u] w (w.setCell ⟨u,3+i,none⟩ (J (d+1))).drew:=((aa.refl _ _).setCell (.inl ahF) _).drew;have H:=qh (And.intro Q0 (And.intro JE VQ));have HU:=qh (show u∉[a,g]by simp[O,Mi]);clear h k hd1 Q0 JE VQ O Mi;go_enter func292,ntmps292;go_wp2_with fail;refine LT HH.o ?_;go_wp2_with fail;refine wp_region_still_tail 10 ahH ahH ?_;refine akj ?_;change wpStill _ _ (World.drew _) _ _ _;repeat still_step
  refine wpStill_nil ?_;change wpList _ _ _ _ _ (World.drew w);go_wp2_with fail;generalize hW:(w.setCell ⟨u,3+i,none⟩ (J (d+1))).drew=W at H ⊢;have s0:=H.o.2.1.c0;have s1:=H.o.2.1.c1;have x1:IntKind.i64.wrap (f+i)=f+i:=IntWalk.i64_in _ ahE;have I:=(λgs (h:aB gs a g s)=>ii h (f+i) 1 Y);obtain⟨r,V⟩:∃r:Int,r=(if inR s.W (f+i)=true then IntKind.i64.wrap (ldW s.W (f+i)+1)else 0):=⟨_,rfl⟩;rw[<-V]at I;have HL:=qh I;clear I V;clear hW c3;refine wp_region_still_tail 10 ahH ahH ?_;refine akj ?_;change wpStill _ _ (World.drew _) _ _ _;repeat still_step
  refine wpStill_nil ?_;change wpList _ _ _ _ _ (World.drew W);go_wp2_with fail;refine Op (HL.o _ H.o.1.drew) λw2 h2=>?_;have H2:=qh (And.intro h2.o.1 (And.intro (H.o.2.1.drew.turns h2.o.2 HU.o) ((H.o.2.2.drew).trans (h2.o.2.mono ahF))));go_wp2;go_end0;exact⟨rfl,H2.o⟩
def I9(h:aB w a g s)(n:Nat)(h1:1<=n)(h2:n<=32)(V:(n:Int)<=(s.room:Int)-s.W.length):E 144 #[↑a,J n] w λe w'=>∃u,e= returned (tuple #[pointer (some ⟨u,0,none⟩),J 0])/\w.heap.size<=u/\aB w' a g {s with W:=s.W++List.replicate n 0}/\ee w' u a (s.W.length+1) n (List.replicate 32 0)/\aa [a] w w':=by
  have Ow:=h.le;have NH:=h.room;have Y:Kq (dX s n=({s with W:=s.W++List.replicate n 0},(s.W.length:Int)+1,(0:Int))):=qh (by unfold dX;rw[if_neg ahE,if_neg ahE];simp);have H:=qh h;have e1:¬(n:Int)<1:=by omega
  have e2:¬32<(n:Int):=by omega
  clear h;go_enter func144,ntmps144;go_wp2_with fail;refine(gn H.o n).mono ?_;rintro en w1 ⟨rfl,I,t1⟩;rw[Y.o]at I ⊢;have O:=t1.size;have H1:=qh (And.intro I (And.intro t1 O));have Jy:(s.W.length:Int)<=4096:=by omega
  clear I t1 O;go_wp2;go_ret2;refine⟨w1.heap.size,rfl,H1.o.2.2,H1.o.1.turns (S:=[]) ((aa.refl _ _).alloc _) ahF ahF,⟨?_,by simp,h2,by omega,by omega⟩,(H1.o.2.1).alloc _⟩;have:=Blk.new w1 322 (tuC a (s.W.length+1) n (List.replicate 32 0)).toArray;exact this
end
section
open Go.RowKit
variable{k:Nat}{p:Int}{α:Type}
def okP(P:List Int)(v:Nat):Bool:=decide ((v=0->P.getD v 0= -1)/\(0<v->0<=P.getD v 0/\P.getD v 0<v))
def dZ(P:List Int):Bool:=(List.range P.length).all (okP P)
def eV(P:List Int)(v:Int):Bool:=decide (0<=v/\v<P.length/\v∉P)
def ay(P:List Int)(k:Nat):List Int:=((List.range k).map Int.ofNat).filter (eV P)
def ac(P:List Int):List Int:=ay P P.length
def dep(P:List Int):Nat->Int->Nat
 |0,_=>0
 |f+1,v=>if 0<=v/\v<P.length then dep P f (P.getD v.toNat 0)+1 else 0
def depL(P:List Int)(v:Int):Nat:=dep P P.length v
def kN(P:List Int):Bool:=(ac P).all λv=>decide (depL P v=depL P ((ac P).headD 0)/\depL P v<=5)
def thrB(P T:List Int):Bool:=T.all (eV P)
def kp(P T:List Int):Bool:=decide (P.length<1\/32<P.length\/T.length<1\/32<T.length)
def a8(P T:List Int):Int:=if kp P T then 8 else if dZ P=false then 9 else if kN P=false then 9 else if thrB P T=false then 4 else 0
def bH(h:P[k]? =some p):P.getD k 0=p:=by rw[List.getD_eq_getElem?_getD,h];rfl
def oF(f:Nat->Bool)(k:Nat):(List.range (k+1)).all f=((List.range k).all f&&f k):=by rw[List.range_succ,List.all_append];simp
def xj(h:dZ P=true)(H:P[k]? =some p):(k=0->p= -1)/\(0<k->0<=p/\p<k):=by have I:=(List.getElem?_eq_some_iff.1 H).1;unfold dZ at h;rw[List.all_eq_true]at h;have:=h k (List.mem_range.2 I);simp only[okP,decide_eq_true_eq,bH H]at this;exact this
def gD(h:dZ P=true)(I:P[k]? =some p):-1<=p/\p<k:=by
 have:=xj h I;rcases Nat.eq_zero_or_pos k with H|H
 .have:=this.1 H;omega
 .have:=this.2 H;omega
def nR{P:List Int}(h:dZ P=true):∀(f:Nat) (v:Int),v<f->∀g:Nat,v<g->dep P f v=dep P g v
 |0,v,O,g,hg=>by
  cases g with
  |zero=>rfl
  |succ g=>unfold dep;rw[if_neg ahE]
 |f+1,v,O,g,hg=>by
  cases g with
  |zero=>unfold dep;rw[if_neg ahE]
  |succ g=>
   unfold dep;split;.rename_i I;obtain⟨p,H⟩:=ak (show v.toNat<P.length by omega);have:=gD h H;rw[bH H,nR h f p ahE g ahE]
   .rfl
def iG(h:dZ P=true)(H:P[k]? =some p):depL P k=if 0<=p then depL P p+1 else 1:=by
 have I:=(List.getElem?_eq_some_iff.1 H).1;have O:=gD h H;unfold depL;rw[nR h P.length k ahE (k+1) ahE];show(if 0<=(k:Int)/\(k:Int)<P.length then dep P k (P.getD (k:Int).toNat 0)+1 else 0)=_;rw[if_pos ahE,Int.toNat_natCast,bH H];split;.rw[nR h k p ahE P.length ahE]
 .have:dep P k p=0:=by
   cases k with
   |zero=>rfl
   |succ k=>unfold dep;rw[if_neg ahE]
  omega
def Ai(P:List Int):∀(f:Nat) (v:Int),dep P f v<=f
 |0,_=>Nat.le_refl _
 |f+1,v=>by
  unfold dep;split;.have:=Ai P f (P.getD v.toNat 0);omega
  .omega
def CZ(P:List Int)(v:Int):depL P v<=P.length:=Ai P _ _
def eG(P:List Int)(k:Nat):ay P (k+1)=if eV P k then ay P k++[(k:Int)]else ay P k:=by
 unfold ay;rw[List.range_succ,List.map_append,List.filter_append];show _++List.filter (eV P) [(k:Int)]=_;by_cases h:eV P k=true;.simp[h]
 .simp[h]
def a7(P:List Int):∀k,(ay P k).length<=k:=λk=>by
 unfold ay
 have:=List.length_filter_le (eV P) ((List.range k).map Int.ofNat)
 simpa using this
def fJ{v:Int}:v∈ac P↔eV P v=true:=by
 unfold ac ay;rw[List.mem_filter];constructor;.exact λh=>h.2
 .intro h;refine⟨?_,h⟩;simp only[eV,decide_eq_true_eq]at h;rw[List.mem_map];exact⟨v.toNat,List.mem_range.2 ahE,by show((v.toNat:Nat):Int)=v;omega⟩
def jG(h:P[k]? =some p)(x:Int):x∈P.take (k+1)↔x∈P.take k\/x=p:=by rw[cj h];simp
def p8(n i:Nat)(f g:Nat->α)(u:α)(hi:g i=u)(Y:∀j,j≠i->g j=f j):((List.range n).map f).set i u=(List.range n).map g:=by
 refine List.ext_getElem? λj=>?_;rw[List.getElem?_set];by_cases I:i=j
 .subst I;rw[if_pos rfl];by_cases H:i<n;.simp[H,hi]
  .simp[H]
 .rw[if_neg I];by_cases O:j<n;.simp[O,Y j (λh=>I h.symm)]
  .simp[O]
def iY(n i:Nat)(f:Nat->α)(h:i<n):((List.range n).map f)[i]? =some (f i):=by simp[h]
end
section
open Go.RowKit
variable{T:List Int}{k:Nat}{v:Int}
def evL(P:List Int)(l:List Int):Bool:=l.all λv=>decide (depL P v=depL P (l.headD 0)/\depL P v<=5)
def Av(P:List Int):kN P=evL P (ac P):=rfl
def Au(P:List Int)(l:List Int)(x:Int):evL P (l++[x])=(evL P l&&decide (depL P x=depL P ((l++[x]).headD 0)/\depL P x<=5)):=by
 unfold evL;rw[List.all_append];cases l with
 |nil=>simp
 |cons a l=>simp
theorem uz(P:List Int)(l m:List Int)(h:evL P (l++m)=true):evL P l=true:=by
 unfold evL at *;rw[List.all_append,Bool.and_eq_true]at h;cases l with
 |nil=>rfl
 |cons a l=>exact h.1
def Dd{l m:List Int}(h:evL P l=false):evL P (l++m)=false:=by
 cases H:evL P (l++m);.rfl
 .rw[uz P l m H]at h;cases h
def Ah(h:k<P.length):1<=depL P k:=by unfold depL;obtain⟨n,H⟩:∃n,P.length=n+1:=⟨P.length-1,by omega⟩;rw[H];unfold dep;rw[if_pos ahE];omega
def jh(h:eV P v=true):0<=v/\v<P.length/\v∉P:=by simpa[eV]using h
def jj(h:v∈ay P k):eV P v=true/\0<=v/\v<k:=by unfold ay at h;rw[List.mem_filter,List.mem_map]at h;obtain⟨⟨a,I,rfl⟩,H⟩:=h;have:=List.mem_range.1 I;exact⟨H,by show(0:Int)<=(a:Int);omega,by show((a:Nat):Int)<k;omega⟩
def Eb(P T:List Int):T.any (λx=>!decide (x∈ac P))=!thrB P T:=by
 unfold thrB;rw[List.not_all_eq_any_not];congr 1;funext x;congr 1;cases h:eV P x;.exact decide_eq_false λhm=>by rw[fJ.1 hm]at h;cases h
 .exact decide_eq_true (fJ.2 h)
def aQ(h:a8 P T=0):kp P T=false/\dZ P=true/\kN P=true/\thrB P T=true:=by
 unfold a8 at h;cases h1:kp P T
 .cases H:dZ P;.rw[h1,H]at h;simp at h
  .cases I:kN P;.rw[h1,H,I]at h;simp at h
   .cases O:thrB P T;.rw[h1,H,I,O]at h;simp at h
    .exact⟨rfl,rfl,rfl,rfl⟩
 .rw[h1]at h;simp at h
def bi(h:kp P T=false):1<=P.length/\P.length<=32/\1<=T.length/\T.length<=32:=by simp only[kp,decide_eq_false_iff_not]at h;omega
def jo(h:thrB P T=true)(hi:T[i]? =some x):x∈ac P:=by unfold thrB at h;rw[List.all_eq_true]at h;exact fJ.2 (h x (List.mem_of_getElem? hi))
def jd(P T:List Int):Int:=if a8 P T=0 then((depL P ((ac P).headD 0):Nat):Int)else 0
def C0(h:a8 P T=0)(O:v∈ac P):((depL P v:Nat):Int)=jd P T:=by obtain⟨_,_,H,_⟩:=aQ h;unfold jd;rw[if_pos h];unfold kN at H;rw[List.all_eq_true]at H;have:=H v O;simp only[decide_eq_true_eq]at this;rw[this.1]
def sI(P T:List Int):List Int:=if a8 P T=0 then ac P else[]
end
section
open Go
structure ja(n:Nat)(T:Nat->Prop)(t0:Prop):Prop where
 one:∀i j,i<n->j<n->T i->T j->i=j
 tl:t0->∀i,i<n->¬T i
def numT(t:Nat):Int:=(t:Int)+1
def i6(lo:Int)(G:Int->Prop)(S:Int->Int)(σ:Nat->Sp)(i:Nat):Prop:=lo<=(σ i).pc\/(3<=(σ i).pc/\G (S (numT i)))
def updF(f:Int->Int)(x v y:Int):Int:=if y=x then v else f y
section
variable{n:Nat}{lo t t':Int}{G:Int->Prop}{S S':Int->Int}{σ σ':Nat->Sp}{p:Sp}
def iW{i j:Nat}(h:numT i=numT j):i=j:=by unfold numT at h;omega
theorem ja.own(h:ja n (i6 lo G S σ) (t=0))(hi:i<n)(hs:∀j,σ' j=if j=i then p else σ j)(h1:lo<=(σ i).pc)(V:∀k,k≠numT i->S' k=S k)(Y:t'=t\/t'≠0):ja n (i6 lo G S' σ') (t'=0):=by have H:=h.one;have I:=h.tl;have O:=λj=>@iW j i;refine⟨?_,?_⟩<;>grind [i6]
theorem ja.o(h:ja n (i6 lo G S σ) (t=0))(hi:i<n)(hs:∀j,σ' j=if j=i then p else σ j)(h1:lo<=(σ i).pc)(H:3<=lo)(hp:p.pc<3)(Y:(∀k,S' k=S k)\/((∃y,∀k,k≠y->S' k=S k)/\t'=t)):ja n (i6 lo G S' σ') (t'=0):=by have I:=h.one;have O:=h.tl;have V:=λj k=>@iW j k;refine⟨?_,?_⟩<;>grind [i6]
theorem ja.low(h:ja n (i6 lo G S σ) (t=0))(hi:i<n)(hs:∀j,σ' j=if j=i then p else σ j)(h1:p.pc<3\/(p.pc<lo/\¬G (S' (numT i)))\/(3<=(σ i).pc/\p.pc<lo/\S' (numT i)=S (numT i)))(H:3<=lo)(Y:∀k,k≠numT i->S' k=S k):ja n (i6 lo G S' σ') (t=0):=by have I:=h.one;have O:=h.tl;have V:=λj=>@iW j i;refine⟨?_,?_⟩<;>grind [i6]
theorem ja.door(h:ja n (i6 lo G S σ) (t=0))(hi:i<n)(hs:∀j,σ' j=if j=i then p else σ j)(h1:3<=(σ i).pc)(O:t≠0->p.pc<lo)(V:t'≠0):ja n (i6 lo G S σ') (t'=0):=by have H:=h.one;have I:=h.tl;refine⟨?_,?_⟩<;>grind [i6]
theorem ja.ent(h:ja n (i6 lo G S σ) (t=0))(hi:i<n)(hs:∀j,σ' j=if j=i then p else σ j)(h1:3<=(σ i).pc)(hg:G (S (numT i))):ja n (i6 lo G S σ') (t=0):=by have H:=h.one;have I:=h.tl;refine⟨?_,?_⟩<;>grind [i6]
def gI(f:Int->Int)(x v:Int):updF f x v x=v:=if_pos rfl
def eu(f:Int->Int){v y:Int}(h:y≠x):updF f x v y=f y:=if_neg h
end
end
section
open Go.RowKit
def bp(s:Ar)(n:Nat):Ar:={s with W:=s.W++List.replicate n 0}
def mD{s:Ar}(h:aB w a g s)(n:Nat)(O:s.W.length+n<=s.room):E 139 #[↑a,J n] w λe w'=>e= returned (tuple #[J ((s.W.length:Int)+1),J 0])/\aB w' a g (bp s n)/\aa [a] w w':=by
  refine(gn h n).mono ?_;have e:dX s n=(bp s n,(s.W.length:Int)+1,(0:Int)):=by unfold dX;rw[if_neg ahE,if_neg ahE,Int.toNat_natCast];rfl
  rw[e];rintro en w' ⟨h1,H,I⟩;exact⟨h1,H,I⟩
def nB(w:World)(xs:List Value)(t:TypeId):∀j u,xs[j]? =some u->(w.alloc (.cells xs.toArray t)).cell? ((⟨w.heap.size,0,none⟩:Addr).add j)=some u:=by
 intro j u H;have k:=Blk.new w t xs.toArray;have c:=k.cell j;have e:(⟨w.heap.size,0,none⟩:Addr).add j=⟨w.heap.size,j,none⟩:=by simp[Addr.add];exact λh=>h.symm
 rw[e,c];simpa using H
theorem Tryz.infoSpF:(prog.info? 113).map (λi=>(i.zero,i.size,i.bytes))=some (some (agg #[J 0,J 0,J 0,J 0]),4,32):=by kernel_rfl
def FM{l:Nat}{va H:Value}(nx:Nat)(m:Nat)(hm:1<=m)(I:nx<=100000)(h:Blk w l 345 #[va,J nx,J m,H]):E 178 #[↑l,J 0] w λe w'=>e= returned (J ((nx:Int)+1))/\Below w.heap.size w w':=by
  have c1:Z w l 1 (J nx):=h.cell 1;have c2:Z w l 2 (J m):=h.cell 2;have t1:¬(m:Int)=0:=by omega
  have t2:((m:Int)==0)=false:=by simpa using t1
  have O:IntKind.i64.wrap ((nx:Int)+1)=(nx:Int)+1:=IntWalk.i64_in _ ahE;clear h;go_enter func178,ntmps178;go_wp2_with fail;go_quiet (fail);go_wp2;go_ret;exact⟨rfl,cl (Below.refl _ _) _⟩
def Fp(w:World)(n:Nat)(h1:1<=n)(h:n<=32):E 176 #[J n] w λe w'=>e= returned (bool true)/\w=w':=by
 have t1:(1:Int)<=n:=by omega
 have t2:(n:Int)<=32:=by omega
 exact aa1
end
end Go.Proofs.YtglokdbiggbkjaaGreat
