/- Joined texts. -/
import Derived.IntWalk
import Derived.Test.YtglokdbiggbkjaaGreatMgWorldAgain0
import Derived.Test.YtglokdbiggbkjaaGreatMgWorldAgain2
import Derived.Test.YtglokdbiggbkjaaGreatMgWorldAgain3
set_option linter.unusedVariables false
set_option linter.unusedSimpArgs false
set_option linter.defProp false
set_option maxRecDepth 100000
set_option maxHeartbeats 16000000
open Go.Proofs.Tryz
namespace Go.Proofs.YtglokdbiggbkjaaGreat
open Go.IntKind(i64)
open Go.Value(int bool slice agg tuple pointer)
open Go.Ending(returned)
open Go.Obj(cells)
variable{a i j base:Nat}{w':World}{B C:Int}
section
open Go.RowKit
def zU(w:World)(b o:Nat)(x y:Int)(hc:Z w b o (J x))(h:w.frozen? ⟨b,o,none⟩=false):E 274 #[pointer (some ⟨b,o,none⟩),J x,J y] w λe w'=>e= returned (bool true)/\w'=w.setCell ⟨b,o,none⟩ (J y):=by have H:=run_call_cas_hit (P:=prog) func276 ahs ahs ahs .i64 ahs (y:=y) hc h;go_enter func274,ntmps274;go_wp2;go_ret;exact⟨rfl,rfl⟩
def xV(w:World)(b o:Nat)(x old y:Int)(hc:Z w b o (J x))(H:w.frozen? ⟨b,o,none⟩=false)(h:¬x=old):E 274 #[pointer (some ⟨b,o,none⟩),J old,J y] w λe w'=>e= returned (bool false)/\w=w':=by have I:=run_call_cas_miss (P:=prog) func276 ahs ahs ahs .i64 ahs (o:=old) (y:=y) hc H h;clear h;go_enter func274,ntmps274;go_wp2;go_ret;exact⟨rfl,rfl⟩
def jc{w:World}{g:Nat}{s:Ar}(h:aB w a g s)(x old v:Int)(Y:s.ops+1<=1000000000000):E 272 #[↑a,J x,J old,J v] w (eY w a g (dU s x old v) (bool (cB s x old))):=by
  have H:=qh h;cases O:inR s.W x
  . have e:eY w a g (dU s x old v) (bool (cB s x old)) (returned (bool false)) w:=⟨by unfold cB;rw[O];rfl,by
      have I:cB s x old=false:=by unfold cB;rw[O];rfl
      unfold dU;rw[I,iW s 4 x false O];exact h,aa.refl _ _⟩
    have HX:=qh O;clear h O;go_enter func272,ntmps272;go_wp2_with fail;refine LT (j7 H.o x HX.o) ?_;go_wp2;go_ret;exact e
  . have HX:=qh O;have Pm:=aR.1 O;have Mv:x.toNat-1<s.W.length:=(by omega);have hc:=h.word (i:=x.toNat-1) Mv;rw[<-jh O]at hc;by_cases PZ:ldW s.W x=old;. have I:cB s x old=true:=(by unfold cB;rw[O,PZ];simp);have hp:=h.put O v;have HP:=qh (And.intro hp I);rw[PZ]at hc;have V:=qh hc;clear h O hc hp PZ I;go_enter func272,ntmps272;go_wp2_with fail;refine LT (ks H.o x HX.o) ?_;go_wp2_with fail;refine LT (zU _ _ _ _ _ V.o.1 V.o.2) ?_;have h2:=HP.o.1.1;have t2:=HP.o.1.2;generalize (w.setCell ⟨g,x.toNat-1,none⟩ (J v))=w2 at h2 t2 ⊢;have H2:=qh (And.intro h2 t2);clear h2 t2;go_wp2_with fail;refine Pi (iX H2.o.1 4 x true (by unfold inR wrA;rw[bJ];exact HX.o) Y) λw3 H3=>?_;go_wp2;go_ret;refine⟨by rw[HP.o.2];rfl,?_,H2.o.2.trans (i9 H3.o.2)⟩;have e:dU s x old v=fm (wrA s x v) 4 x true:=(by unfold dU;rw[HP.o.2,if_pos rfl];unfold fm;rw[if_pos HX.o,if_pos (by unfold inR wrA;rw[bJ];exact HX.o)];rfl);rw[e];exact H3.o.1
    . have I:cB s x old=false:=(by unfold cB;rw[O];simpa using PZ);have V:=qh (And.intro hc (And.intro PZ I));clear h O hc PZ I;go_enter func272,ntmps272;go_wp2_with fail;refine LT (ks H.o x HX.o) ?_;go_wp2_with fail;refine LT (xV _ _ _ _ _ _ V.o.1.1 V.o.1.2 V.o.2.1) ?_;go_wp2_with fail;refine Pi (iX H.o 4 x false HX.o Y) λw3 H3=>?_;go_wp2;go_ret;refine⟨by rw[V.o.2.2];rfl,?_,i9 H3.o.2⟩;unfold dU;rw[V.o.2.2];exact H3.o.1
end
section
open Go.RowKit
def Jq(w:World)(b o:Nat)(x y:Int)(hc:Z w b o (J x))(h:w.frozen? ⟨b,o,none⟩=false):E 303 #[pointer (some ⟨b,o,none⟩),J y] w λe w'=>e= returned (J (IntKind.i64.wrap (x+y)))/\w'=w.setCell ⟨b,o,none⟩ (J (IntKind.i64.wrap (x+y))):=by obtain⟨s,hs⟩:=LE (IntKind.i64.wrap (x+y));rw[<-hs];have H:=run_call_add (P:=prog) func305 ahs ahs ahs .i64 ahs (y:=y) (s:=s) hc h (by rw[hs];rfl);clear hs;go_enter func303,ntmps303;go_wp2;go_ret;exact⟨rfl,rfl⟩
def ie{w:World}{g:Nat}{s:Ar}(h:aB w a g s)(x d:Int)(Y:s.ops+1<=1000000000000):E 298 #[↑a,J x,J d] w (eY w a g (addA s x d) (J (if inR s.W x then IntKind.i64.wrap (ldW s.W x+d)else 0))):=by
  have H:=qh h;cases I:inR s.W x;. have e:eY w a g (addA s x d) (J (if false=true then IntKind.i64.wrap (ldW s.W x+d)else 0)) (returned (J 0)) w:=⟨rfl,by unfold addA;rw[iW s _ _ _ I,rR s _ _ I];exact h,aa.refl _ _⟩;have HX:=qh I;clear h I;go_enter func298,ntmps298;go_wp2_with fail;refine LT (j7 H.o x HX.o) ?_;go_wp2;go_ret;exact e
  . have HX:=qh I;have HE:=qh (jh I);have Pm:=aR.1 I;have Mv:x.toNat-1<s.W.length:=(by omega);clear h I;go_enter func298,ntmps298;go_wp2_with fail;refine LT (ks H.o x HX.o) ?_;go_wp2_with fail;refine Pi (iX H.o 5 x true HX.o Y) λw1 h1=>?_;have hc:=h1.o.1.word (i:=x.toNat-1) (by rw[dL];exact Mv);rw[dL,<-HE.o]at hc;have hp:=h1.o.1.put (x:=x) (by rw[dL];exact HX.o) (IntKind.i64.wrap (ldW s.W x+d));have H1:=qh (And.intro hp h1.o.2);have HC:=qh hc;clear hp hc;go_wp2_with fail;refine LT (Jq _ _ _ _ _ HC.o.1 HC.o.2) ?_;obtain⟨r,V⟩:=LE (IntKind.i64.wrap (ldW s.W x+d));have Z5:-9223372036854775808<=r/\r<=9223372036854775807:=(by rw[V,IntKind.wrap_i64];omega);obtain⟨ab,Up⟩:=Z5;rw[<-V];have O:=qh V;clear V;go_wp2;go_ret;exact⟨by rw[O.o];rfl,by rw[O.o];exact H1.o.1.1,by rw[O.o];exact(i9 H1.o.2).trans H1.o.1.2⟩
end
section
open Go
def mNx(t x:Int):Int:=t+2*x-1
def mWt(t x:Int):Int:=t+2*x
def pPl(t m k:Int):Int:=t+1+k%m
def wE(t m:Int)(s:Ar)(i:Int)(p:Sp):Ar×Sp:=
 if p.pc=1 then(dU s t 0 (i+1),if cB s t 0 then {p with pc:=10} else {p with pc:=2,b:=p.a,a:=min (2*p.a) m})
 else if p.pc=2 then(s,{p with b:=p.b-1,pc:=if p.b-1=0 then 1 else 2})
 else if p.pc=11 then(ae s t 0,{p with pc:=0})
 else(s,p)
def pC(t:Int)(s:Ar)(p:Sp):Ar×Sp:=
 if p.pc=1 then(addA s t 1,{p with a:=ldW s.W t,pc:=2})
 else if p.pc=2 then(af s (t+1),{p with pc:=if ldW s.W (t+1)=p.a then 10 else 2})
 else if p.pc=11 then(ae s (t+1) (p.a+1),{p with pc:=0})
 else(s,p)
def oY(t m:Int)(s:Ar)(p:Sp):Ar×Sp:=
 if p.pc=1 then(addA s t 1,{p with a:=ldW s.W t,pc:=2})
 else if p.pc=2 then(af s (pPl t m p.a),{p with pc:=if ldW s.W (pPl t m p.a)=p.a+1 then 10 else 2})
 else if p.pc=11 then(ae s (pPl t m (p.a+1)) (p.a+2),{p with pc:=0})
 else(s,p)
def eG(t:Int)(s:Ar)(x:Int)(p:Sp):Ar×Sp:=
 if p.pc=1 then(ae s (mNx t x) 0,{p with pc:=2})
 else if p.pc=2 then(ae s (mWt t x) 1,{p with pc:=3})
 else if p.pc=3 then(ch s t x,{p with a:=ldW s.W t,pc:=if ldW s.W t=0 then 10 else 4})
 else if p.pc=4 then(ae s (mNx t p.a) x,{p with pc:=5})
 else(af s (mWt t x),{p with pc:=if ldW s.W (mWt t x)=0 then 10 else 5})
def dK(t:Int)(s:Ar)(x:Int)(p:Sp):Ar×Sp:=
 if p.pc=12 then(dU s t x 0,{p with pc:=if cB s t x then 0 else 13})
 else if p.pc=14 then(ae s (mWt t p.a) 0,{p with pc:=0})
 else(af s (mNx t x),{p with a:=ldW s.W (mNx t x),pc:=if ldW s.W (mNx t x)≠0 then 14 else if p.pc=11 then 12 else 13})
def mr(t:Int)(s:Ar)(i:Int)(p:Sp):Ar×Sp:=
 if 0<p.pc/\p.pc<10 then eG t s (i+1) p else if 10<p.pc then dK t s (i+1) p else(s,p)
def uJ(t:Int)(s:Ar)(p:Sp):Ar×Sp:=
 if p.pc=1 then(ae s (t+p.a) 1,{p with pc:=2})
 else if p.pc=2 then(ch s t p.a,{p with b:=ldW s.W t,pc:=3})
 else if p.pc=3 then(af s (t+p.b),{p with pc:=if ldW s.W (t+p.b)=0 then 10 else 3})
 else if p.pc=11 then(ae s (t+p.a) 0,{p with a:=p.b,pc:=0})
 else(s,p)
def bK(k:Nat)(t m:Int)(s:Ar)(i:Int)(p:Sp):Ar×Sp:=
 if k=1 then wE t m s i p else if k=2 then pC t s p else if k=3 then oY t m s p else if k=4 then mr t s i p else uJ t s p
def bo(p p':Sp):Bool:=decide ((p'.pc=10\/p'.pc=0)/\p.pc≠0/\p.pc≠10)
def askK(k:Nat)(p:Sp):Sp:=if p.pc=0 then(if k=1 then {p with pc:=1,a:=1} else {p with pc:=1})else p
def bm(p:Sp):Sp:=if p.pc=10 then {p with pc:=11} else p
def cy(k:Nat)(t:Int)(s:Ar)(i:Int)(p:Sp):Ar×Bool:=
 if p.pc=10 then
  if k=1 then(s,true)else if k=2\/k=3 then(af s t,decide (ldW s.W t=p.a+1))
  else if k=4 then(af s (mNx t (i+1)),decide (ldW s.W (mNx t (i+1))=0))else(af s t,decide (ldW s.W t=p.a))
 else(s,false)
end
section
open Go.RowKit
variable{u:Value}
def SpR(w:World)(q:Nat)(S:List Sp):Prop:=∃Zz:List Value,Blk w q 113 (S.flatMap bf++Zz).toArray
section
variable{w:World}{q:Nat}{S:List Sp}
def yC(S:List Sp):(S.flatMap bf).length=S.length*4:=by
 induction S with
 |nil=>rfl
 |cons a l h=>rw[List.flatMap_cons,List.length_append,h,iF,List.length_cons];omega
def SpR.cell(h:SpR w q S){p:Sp}(I:S[i]? =some p)(j:Nat)(u:Value)(O:(bf p)[j]? =some u):Z w q (i*4+j) u:=by obtain⟨V,h⟩:=h;rw[Blk.cell h];have h1:=cY bf 4 iF S i p j u I O;have H:i*4+j<(S.flatMap bf).length:=(List.getElem?_eq_some_iff.1 h1).1;simp only[List.getElem?_toArray];rw[List.getElem?_append_left H,h1]
def SpR.put(h:SpR w q S){p p':Sp}(H:S[i]? =some p)(V:j<4)(O:(bf p).set j u=bf p'):SpR (w.setCell ⟨q,i*4+j,none⟩ u) q (S.set i p'):=by obtain⟨I,h⟩:=h;have h1:=Blk.set_ h (i*4+j) u;have hi:=(List.getElem?_eq_some_iff.1 H).1;refine⟨I,?_⟩;rw[List.setIfInBounds_toArray,List.set_append_left _ _ (by rw[yC];omega),xj bf 4 iF S i p p' j u H V O]at h1;exact h1
def SpR.lt(h:SpR w q S):q<w.heap.size:=by obtain⟨H,h⟩:=h;exact Blk.lt h
def SpR.free(h:SpR w q S)(i:Nat):w.frozen? ⟨q,i,none⟩=false:=by obtain⟨H,h⟩:=h;exact Blk.free h i
def SpR.turns{T:List Nat}(h:SpR w q S)(k:aa T w w')(I:q∉T):SpR w' q S:=by obtain⟨H,h⟩:=h;exact⟨H,k.blk h I⟩
end
structure Fx where
 p:Nat
 l:Nat
 q:Nat
 k:Nat
 t:Nat
 m:Nat
 n:Nat
 cap:Nat
def lkT:Nat->TypeId
 |1=>339
 |2=>343
 |3=>345
 |4=>348
 |_=>350
def lkC(k a:Nat)(x:Fx):Array Value:=
 match k with
 |1=>#[↑a,int i64 x.t,int i64 x.m,slice (some ⟨x.q,0,none⟩) x.n x.cap]
 |2=>#[slice (some ⟨x.q,0,none⟩) x.n x.cap,↑a,int i64 x.t]
 |3=>#[↑a,int i64 x.t,int i64 x.m,slice (some ⟨x.q,0,none⟩) x.n x.cap]
 |_=>#[↑a,int i64 x.t,slice (some ⟨x.q,0,none⟩) x.n x.cap]
structure KIs(w:World)(a g k:Nat)(x:Fx)(s:Ar)(S:List Sp):Prop where
 ar:aB w a g s
 lk:Blk w x.l (lkT k) (lkC k a x)
 sp:SpR w x.q S
 n:S.length=x.n
 la:x.l≠a
 lg:x.l≠g
 lq:x.l≠x.q
 qa:x.q≠a
 qg:x.q≠g
 n32:x.n<=32
 t0:1<=x.t
 t1:x.t<=5000
 m0:1<=x.m
 m1:x.m<=4
 cap:x.n<=x.cap
section
variable{w:World}{g k:Nat}{x:Fx}{s s':Ar}{S S':List Sp}{T:List Nat}
def KIs.turns(h:KIs w a g k x s S)(t:aa T w w')(h1:x.l∉T)(H:a∉T)(I:g∉T)(O:x.q∉T):KIs w' a g k x s S:=
 {h with ar:=h.ar.turns t H I,lk:=t.blk h.lk h1,sp:=h.sp.turns t O}
def KIs.below(h:KIs w a g k x s S)(t:Below w.heap.size w w'):KIs w' a g k x s S:=
 h.turns (T:=[]) (aa.of_below t) ahq ahq ahq ahq
def KIs.op(h:KIs w a g k x s S)(t:aa [a,g] w w')(H:aB w' a g s'):KIs w' a g k x s' S:=
 {h with ar:=H,lk:=t.blk h.lk (by simp[h.la,h.lg]),sp:=h.sp.turns t (by simp[h.qa,h.qg])}
def KIs.spt(h:KIs w a g k x s S)(t:aa [x.q] w w')(hs:SpR w' x.q S')(H:S'.length=S.length):KIs w' a g k x s S':=
 {h with ar:=h.ar.turns t (by simpa using λe=>h.qa e.symm) (by simpa using λe=>h.qg e.symm),lk:=t.blk h.lk (by simpa using h.lq),sp:=hs,n:=H.trans h.n}
def aV(q i:Nat)(u:Value):aa [q] w (w.setCell ⟨q,i,none⟩ u):=(aa.refl _ _).setCell (.inl ahq) _
def KIs.put(h:KIs w a g k x s S){p p':Sp}(O:S[i]? =some p)(I:j<4)(H:(bf p).set j u=bf p'):KIs (w.setCell ⟨x.q,i*4+j,none⟩ u) a g k x s (S.set i p'):=
 h.spt (aV _ _ _) (h.sp.put O I H) ahq
def KIs.put0(h:KIs w a g k x s S){p p':Sp}(I:S[i]? =some p)(H:(bf p).set 0 u=bf p'):KIs (w.setCell ⟨x.q,i*4,none⟩ u) a g k x s (S.set i p'):=
 h.put I (j:=0) ahr H
def dY(S:List Sp)(i:Nat)(p q:Sp):(S.set i p).set i q=S.set i q:=by simp
def au{S:List Sp}{p:Sp}(h:S[i]? =some p)(q:Sp):(S.set i q)[i]? =some q:=by have:=(List.getElem?_eq_some_iff.1 h).1;simp[this]
def cf{S:List Sp}{p:Sp}(hp:S[i]? =some p):S.set i p=S:=by exact aal
end
end
section
open Go
variable{s s':Ar}{k:Nat}{p:Sp}
def WdB(B:Int)(s:Ar):Prop:=∀v∈s.W,0<=v/\v<=B
structure SpB(k:Nat)(B:Int)(p:Sp):Prop where
 a0:0<=p.a
 a1:p.a<=B
 b0:-B<=p.b
 b1:p.b<=B
 b2:k≠1->0<=p.b
def WdB.mono(h:WdB B s)(H:B<=C):WdB C s:=λv O=>⟨(h v O).1,by have:=(h v O).2;omega⟩
def SpB.mono(h:SpB k B p)(H:B<=C):SpB k C p:=⟨h.a0,by have:=h.a1;omega,by have:=h.b0;omega,by have:=h.b1;omega,h.b2⟩
def WdB.ld(h:WdB B s)(O:0<=B)(x:Int):0<=ldW s.W x/\ldW s.W x<=B:=by
 by_cases H:inR s.W x=true
 .rw[jh H];obtain⟨h1,V⟩:=aR.1 H;have I:x.toNat-1<s.W.length:=by omega
  rw[List.getD_eq_getElem?_getD,List.getElem?_eq_getElem I];exact h _ (List.getElem_mem I)
 .rw[kY (by simpa using H)];exact⟨Int.le_refl _,O⟩
def WdB.st(h:WdB B s)(x v:Int)(O:0<=v/\v<=B)(e:s'.W=stW s.W x v):WdB B s':=by
 intro u H;rw[e]at H;unfold stW at H;split at H
 .rcases List.mem_or_eq_of_mem_set H with h1|h1
  .exact h u h1
  .rw[h1];exact O
 .exact h u H
def WdB.same(h:WdB B s)(e:s'.W=s.W):WdB B s':=by intro u H;rw[e]at H;exact h u H
def WdB.load(h:WdB B s)(x:Int):WdB B (af s x):=h.same (aP _ _)
def WdB.store(h:WdB B s)(x v:Int)(O:0<=v/\v<=B):WdB B (ae s x v):=h.st x v O (ay _ _ _)
def WdB.swap(h:WdB B s)(x v:Int)(O:0<=v/\v<=B):WdB B (ch s x v):=h.st x v O (dN _ _ _)
def WdB.cas(h:WdB B s)(x o v:Int)(O:0<=v/\v<=B):WdB B (dU s x o v):=by
 have e:=gO s x o v;split at e;.exact h.st x v O e
 .exact h.same e
def WdB.add1(h:WdB B s)(H:0<=B)(I:B<=10000000000000)(x:Int):WdB (B+2) (addA s x 1):=by have O:=h.ld H x;refine(h.mono ahp).st x _ ?_ (dX _ _ _);rw[IntWalk.i64_in _ ahp];omega
def qE{t m:Int}{i:Int}(hW:WdB B s)(Y:SpB k B p)(hB:0<=B)(KD:B<=10000000000000)(hi:0<=i/\i+1<=B)(hm:1<=m/\m<=B):WdB (B+2) (bK k t m s i p).1/\SpB k (B+2) (bK k t m s i p).2:=by
  have I:WdB (B+2) s:=hW.mono ahp;have V:=λx=>hW.ld hB x;have H:SpB k (B+2) p:=Y.mono ahp;have Lq:=Y.a0;have R4:=Y.a1;have JX:=Y.b0;have Kg:=Y.b1;have M6:=Y.b2;unfold bK;split
  . rename_i hk;unfold wE;split
    . refine⟨I.cas _ _ _ ahp,?_⟩;split;. exact⟨by simpa using Lq,by show p.a<=_;omega,by show _<=p.b;omega,by show p.b<=_;omega,λh=>absurd hk h⟩
      . refine⟨?_,?_,?_,?_,λh=>absurd hk h⟩;. show 0<=min (2*p.a) m;omega
        . show min (2*p.a) m<=_;omega
        . show _<=p.a;omega
        . show p.a<=_;omega
    split
    . refine⟨I,?_,?_,?_,?_,λh=>absurd hk h⟩;. exact Lq
      . show p.a<=_;omega
      . show _<=p.b-1;omega
      . show p.b-1<=_;omega
    split;. exact⟨I.store _ _ ahp,H.a0,H.a1,H.b0,H.b1,H.b2⟩
    . exact⟨I,H⟩
  split
  . unfold pC;split;. exact⟨hW.add1 hB KD _,(V _).1,by have:=(V t).2;show ldW s.W t<=_;omega,H.b0,H.b1,H.b2⟩
    split;. exact⟨I.load _,H.a0,H.a1,H.b0,H.b1,H.b2⟩
    split;. exact⟨I.store _ _ ahp,H.a0,H.a1,H.b0,H.b1,H.b2⟩
    . exact⟨I,H⟩
  split
  . unfold oY;split;. exact⟨hW.add1 hB KD _,(V _).1,by have:=(V t).2;show ldW s.W t<=_;omega,H.b0,H.b1,H.b2⟩
    split;. exact⟨I.load _,H.a0,H.a1,H.b0,H.b1,H.b2⟩
    split;. exact⟨I.store _ _ ahp,H.a0,H.a1,H.b0,H.b1,H.b2⟩
    . exact⟨I,H⟩
  have O:∀x:Int,ldW s.W x<=B+2:=λx=>by have:=(V x).2;omega
  split
  . unfold mr;split
    . unfold eG;split;. exact⟨I.store _ _ ahp,H.a0,H.a1,H.b0,H.b1,H.b2⟩
      split;. exact⟨I.store _ _ ahp,H.a0,H.a1,H.b0,H.b1,H.b2⟩
      split;. exact⟨I.swap _ _ ahp,(V _).1,O _,H.b0,H.b1,H.b2⟩
      split;. exact⟨I.store _ _ ahp,H.a0,H.a1,H.b0,H.b1,H.b2⟩
      . exact⟨I.load _,H.a0,H.a1,H.b0,H.b1,H.b2⟩
    split
    . unfold dK;split;. exact⟨I.cas _ _ _ ahp,H.a0,H.a1,H.b0,H.b1,H.b2⟩
      split;. exact⟨I.store _ _ ahp,H.a0,H.a1,H.b0,H.b1,H.b2⟩
      . exact⟨I.load _,(V _).1,O _,H.b0,H.b1,H.b2⟩
    . exact⟨I,H⟩
  . rename_i hk _ _ _;unfold uJ;split;. exact⟨I.store _ _ ahp,H.a0,H.a1,H.b0,H.b1,H.b2⟩
    split;. exact⟨I.swap _ _ ahp,H.a0,H.a1,by show _<=ldW s.W t;have:=(V t).1;omega,O _,λ_=>(V _).1⟩
    split;. exact⟨I.load _,H.a0,H.a1,H.b0,H.b1,H.b2⟩
    split;. exact⟨I.store _ _ ahp,M6 hk,H.b1,H.b0,H.b1,H.b2⟩
    . exact⟨I,H⟩
def uA(h:SpB k B p)(H:1<=B):SpB k B (askK k p):=by
 unfold askK;split
 .split;.exact⟨by show(0:Int)<=1;omega,H,h.b0,h.b1,h.b2⟩
  .exact⟨h.a0,h.a1,h.b0,h.b1,h.b2⟩
 .exact h
def nG(h:SpB k B p):SpB k B (bm p):=by
 unfold bm;split;.exact⟨h.a0,h.a1,h.b0,h.b1,h.b2⟩
 .exact h
end
section
open Go
structure CoC where
 kg:Nat
 kl:Nat
 tg:Int
 m:Int
 bud:Int
 node:Nat->Nat
 slot:Nat->Nat
 tl:Nat->Int
 cw:Nat->Int
structure Co where
 s:Ar
 G:List Sp
 L:List (List Sp)
 T:List Sp
def lsp(L:List (List Sp))(n i:Nat):Sp:=(L.getD n []).getD i Sp.zero
def jI(L:List (List Sp))(n i:Nat)(p:Sp):List (List Sp):=L.set n ((L.getD n []).set i p)
def mJ(count bud:Int)(Yy:Bool):Bool:=decide (1<=count/\count<=bud)&&!Yy
def stL(c:CoC)(st:Co)(i:Nat):Ar×Sp:=bK c.kl (c.tl (c.node i)) c.m st.s (c.slot i) (lsp st.L (c.node i) (c.slot i))
def stG(c:CoC)(st:Co)(i:Nat):Ar×Sp:=bK c.kg c.tg c.m st.s (c.node i) (sv st.G (c.node i))
def lK(c:CoC)(st:Co)(i:Nat):Bool:=bo (lsp st.L (c.node i) (c.slot i)) (stL c st i).2
def nJ(c:CoC)(st:Co)(i:Nat):Bool:=bo (sv st.G (c.node i)) (stG c st i).2
def setL(c:CoC)(st:Co)(i:Nat)(p:Sp):List (List Sp):=jI st.L (c.node i) (c.slot i) p
def Ax(c:CoC)(st:Co)(i:Nat)(p:Sp):Ar×List Sp×List (List Sp)×Sp:=
 if p.pc=1 then((stL c st i).1,st.G,setL c st i (stL c st i).2,if lK c st i then {p with pc:=2} else p)
 else if p.pc=2 then
  if 0<ldW st.s.W (c.cw (c.node i))then(af st.s (c.cw (c.node i)),st.G,st.L,{p with a:=ldW st.s.W (c.cw (c.node i)),pc:=10})
  else(af st.s (c.cw (c.node i)),st.G.set (c.node i) (askK c.kg (sv st.G (c.node i))),st.L,{p with a:=ldW st.s.W (c.cw (c.node i)),pc:=3})
 else if p.pc=3 then((stG c st i).1,st.G.set (c.node i) (stG c st i).2,st.L,if nJ c st i then {p with pc:=4} else p)
 else if p.pc=4 then(ae st.s (c.cw (c.node i)) 1,st.G,st.L,{p with a:=1,pc:=10})
 else(st.s,st.G,st.L,p)
def sA(c:CoC)(st:Co)(i:Nat)(p:Sp):Ar×List Sp×List (List Sp)×Sp:=
 if p.pc=11 then(af st.s (c.cw (c.node i)),st.G,st.L,{p with a:=ldW st.s.W (c.cw (c.node i)),pc:=if c.bud<ldW st.s.W (c.cw (c.node i))then 14 else 12})
 else if p.pc=12 then
  ((cy c.kl (c.tl (c.node i)) st.s (c.slot i) (lsp st.L (c.node i) (c.slot i))).1,st.G,st.L,
   {p with pc:=if mJ p.a c.bud (cy c.kl (c.tl (c.node i)) st.s (c.slot i) (lsp st.L (c.node i) (c.slot i))).2 then 13 else 14})
 else if p.pc=13 then(ae st.s (c.cw (c.node i)) (p.a+1),st.G,setL c st i (bm (lsp st.L (c.node i) (c.slot i))),{p with pc:=16})
 else if p.pc=14 then(ae st.s (c.cw (c.node i)) 0,st.G.set (c.node i) (bm (sv st.G (c.node i))),st.L,{p with pc:=15})
 else if p.pc=15 then
  if nJ c st i then((stG c st i).1,st.G.set (c.node i) (stG c st i).2,setL c st i (bm (lsp st.L (c.node i) (c.slot i))),{p with pc:=16})
  else((stG c st i).1,st.G.set (c.node i) (stG c st i).2,st.L,p)
 else if p.pc=16 then((stL c st i).1,st.G,setL c st i (stL c st i).2,if lK c st i then {p with pc:=0} else p)
 else(st.s,st.G,st.L,p)
def db(c:CoC)(st:Co)(i:Nat)(p:Sp):Ar×List Sp×List (List Sp)×Sp:=if p.pc<10 then Ax c st i p else sA c st i p
def js(st:Co)(i:Nat)(r:Ar×List Sp×List (List Sp)×Sp):Co:=⟨r.1,r.2.1,r.2.2.1,st.T.set i r.2.2.2⟩
def am(c:CoC)(st:Co)(i:Nat):Co:=if (sv st.T i).pc=0\/(sv st.T i).pc=10 then st else js st i (db c st i (sv st.T i))
def bI(c:CoC)(st:Co)(i:Nat):Co:=
 if (sv st.T i).pc=0 then {st with L:=setL c st i (askK c.kl (lsp st.L (c.node i) (c.slot i))),T:=st.T.set i {(sv st.T i)with pc:=1}} else st
def aA(st:Co)(i:Nat):Co:=if (sv st.T i).pc=10 then {st with T:=st.T.set i {(sv st.T i)with pc:=11}} else st
structure CoB(c:CoC)(B:Int)(st:Co):Prop where
 w:WdB B st.s
 g:∀p∈st.G,SpB c.kg B p
 l:∀x∈st.L,∀p∈x,SpB c.kl B p
 t:∀p∈st.T,0<=p.a/\p.a<=B
def spz(k:Nat)(h:0<=B):SpB k B Sp.zero:=⟨Int.le_refl _,h,by show -B<=0;omega,h,λ_=>Int.le_refl _⟩
def iK{S:List Sp}{P:Sp->Prop}(h:∀p∈S,P p)(H:P Sp.zero)(i:Nat):P (S.getD i Sp.zero):=by
 rw[List.getD_eq_getElem?_getD];by_cases hi:i<S.length;.rw[List.getElem?_eq_getElem hi];exact h _ (List.getElem_mem hi)
 .rw[List.getElem?_eq_none ahp];exact H
def eg{α:Type}{S:List α}{P:α->Prop}(h:∀p∈S,P p)(i:Nat){p:α}(H:P p):∀q∈S.set i p,P q:=by
 intro q I;rcases List.mem_or_eq_of_mem_set I with h1|h1
 .exact h q h1
 .rw[h1];exact H
section
variable{c:CoC}{st:Co}
def CoB.lall(h:CoB c B st)(n:Nat):∀p∈st.L.getD n [],SpB c.kl B p:=by
 rw[List.getD_eq_getElem?_getD];by_cases hi:n<st.L.length;.rw[List.getElem?_eq_getElem hi];exact h.l _ (List.getElem_mem hi)
 .rw[List.getElem?_eq_none ahp];intro p H;cases H
def CoB.lsp(h:CoB c B st)(H:0<=B)(n i:Nat):SpB c.kl B (lsp st.L n i):=iK (h.lall n) (spz _ H) i
def CoB.gsp(h:CoB c B st)(H:0<=B)(n:Nat):SpB c.kg B (sv st.G n):=iK h.g (spz _ H) n
def CoB.tsp(h:CoB c B st)(H:0<=B)(n:Nat):0<=(sv st.T n).a/\(sv st.T n).a<=B:=iK (P:=λp=>0<=p.a/\p.a<=B) h.t ⟨Int.le_refl _,H⟩ n
def CoB.mono(h:CoB c B st)(I:B<=C):CoB c C st:=
 ⟨h.w.mono I,λp H=>(h.g p H).mono I,λx O p H=>(h.l x O p H).mono I,λp H=>⟨(h.t p H).1,by have:=(h.t p H).2;omega⟩⟩
def CoB.setL(h:CoB c B st)(n i:Nat){p:Sp}(H:SpB c.kl B p):∀x∈jI st.L n i p,∀q∈x,SpB c.kl B q:=eg h.l n (eg (h.lall n) i H)
def Du(h:CoB c B st)(hB:1<=B)(KD:B<=10000000000000)(i:Nat)(hs:(c.slot i:Int)+1<=B)(hn:(c.node i:Int)+1<=B)(hm:1<=c.m/\c.m<=B)(p:Sp)(hp:0<=p.a/\p.a<=B):CoB c (B+2) (js st i (db c st i p)):=by
  have H:=h.mono (C:=B+2) ahp;have Kd:(0:Int)<=B:=by omega
  have hL:=qE (t:=c.tl (c.node i)) (m:=c.m) (i:=(c.slot i:Int)) h.w (h.lsp Kd (c.node i) (c.slot i)) Kd KD ⟨by omega,hs⟩ hm;have Y:=qE (t:=c.tg) (m:=c.m) (i:=(c.node i:Int)) h.w (h.gsp Kd (c.node i)) Kd KD ⟨by omega,hn⟩ hm;have OU:=h.w.ld Kd (c.cw (c.node i));have V:0<=p.a/\p.a<=B+2:=⟨hp.1,by omega⟩;have I:∀q:Sp,(0<=q.a/\q.a<=B+2)->∀r∈st.T.set i q,0<=r.a/\r.a<=B+2:=λq hq=>eg H.t i hq;have O:0<=ldW st.s.W (c.cw (c.node i))/\ldW st.s.W (c.cw (c.node i))<=B+2:=⟨OU.1,by omega⟩;have VL:SpB c.kl (B+2) (bm (Go.Proofs.YtglokdbiggbkjaaGreat.lsp st.L (c.node i) (c.slot i))):=nG (H.lsp ahp _ _);have Y0:SpB c.kg (B+2) (bm (sv st.G (c.node i))):=nG (H.gsp ahp _);have YZ:SpB c.kg (B+2) (askK c.kg (sv st.G (c.node i))):=uA (H.gsp ahp _) ahp;unfold db;split
  . unfold Ax;split;. exact⟨hL.1,H.g,H.setL _ _ hL.2,I _ (by split<;>exact V)⟩
    split
    . split;. exact⟨H.w.load _,H.g,H.l,I _ O⟩
      . exact⟨H.w.load _,eg H.g _ YZ,H.l,I _ O⟩
    split;. exact⟨Y.1,eg H.g _ Y.2,H.l,I _ (by split<;>exact V)⟩
    split;. exact⟨H.w.store _ _ ahp,H.g,H.l,I _ ⟨by show(0:Int)<=1;omega,by show(1:Int)<=_;omega⟩⟩
    . exact⟨H.w,H.g,H.l,I _ V⟩
  . unfold sA;split;. exact⟨H.w.load _,H.g,H.l,I _ O⟩
    split
    . refine⟨?_,H.g,H.l,I _ V⟩;show WdB _ (cy _ _ _ _ _).1;unfold cy;split
      . split;. exact H.w
        split;. exact H.w.load _
        split<;>exact H.w.load _
      . exact H.w
    split;. exact⟨H.w.store _ _ ahp,H.g,H.setL _ _ VL,I _ V⟩
    split;. exact⟨H.w.store _ _ ahp,eg H.g _ Y0,H.l,I _ V⟩
    split
    . split;. exact⟨Y.1,eg H.g _ Y.2,H.setL _ _ VL,I _ V⟩
      . exact⟨Y.1,eg H.g _ Y.2,H.l,I _ V⟩
    split;. exact⟨hL.1,H.g,H.setL _ _ hL.2,I _ (by split<;>exact V)⟩
    . exact⟨H.w,H.g,H.l,I _ V⟩
end
end
section
open Go.RowKit
variable{w:World}{g:Nat}{s:Ar}
def qP(u:Value)(n:Nat):(madeCells #[u,u,u,u] n).toList=List.replicate n u:=by exact aav
def uR(n:Nat):(List.replicate n Sp.zero).flatMap bf=List.replicate (n*4) (J 0):=by exact aaw
def jR{q n:Nat}(h:w.ownsRow base 113 4 (slice (some ⟨q,0,none⟩) n n) n (madeCells #[Value.int .i64 0,J 0,J 0,J 0] (n*4)).toList):SpR w q (List.replicate n Sp.zero):=by have:=gA h;refine⟨[],?_⟩;rw[List.append_nil,uR];have e:(madeCells #[Value.int .i64 0,J 0,J 0,J 0] (n*4)).toList=List.replicate (n*4) (J 0):=qP _ _;exact aa0
def szK(k n m:Nat):Nat:=if k=1 then 1 else if k=2 then 2 else if k=3 then 1+m else if k=4 then 1+2*n else n+2
def aF(k:Nat)(s:Ar)(n m:Nat):Ar:=
 if k=3 then ae (bp s (szK k n m)) ((s.W.length:Int)+2) 1 else if k=5 then ae (bp s (szK k n m)) ((s.W.length:Int)+1) ((n:Int)+1)else bp s (szK k n m)
def ba(k n:Nat):List Sp:=if k=5 then(List.range n).map fun(i:Nat)=>(⟨0,(i:Int)+1,0,0⟩:Sp)else List.replicate n Sp.zero
def zQ(w:World)(a g k:Nat)(s:Ar)(n m:Nat)(e:Ending)(w':World):Prop:=
 ∃x:Fx,e= returned (tuple #[↑x.l,J 0])/\KIs w' a g k x (aF k s n m) (ba k n)/\(w.heap.size<=x.l/\w.heap.size<=x.q/\x.n=n/\x.m=m/\x.t=s.W.length+1/\x.k=k)/\aa [a,g] w w'
def wF(h:aB w a g s)(n:Nat)(h1:1<=n)(h2:n<=32)(m:Nat)(H:1<=m)(O:m<=4)(V:s.W.length+(2)<=s.room):E 152 #[↑a,J n] w (zQ w a g 2 s n m):=by
  obtain⟨i0,hi,J5,J7,J2⟩:=info_parts Tryz.infoSpF;have HT:=qh (mN h (2) V);refine ajH ?_;intro t1 t2 HR HG;clear h V;go_enter func152,ntmps152;go_wp2_with fail;refine Pi HT.o λw1 H1=>?_;clear HT;go_wp2_with (refine wpList_make_full _ rfl _ _ 237 rfl w1.heap.size 113 i0 (agg #[J 0,J 0,J 0,J 0]) 4 Tryz.underlying237 hi J5 J7 .i64 .i64 n n n rfl rfl rfl rfl ?b2 ?b3 (Nat.le_refl _) ?_);case b2=>rw[J2];omega
  case b3=>unfold maxLen;omega
  intro w2 r' hg;refine ajd ?_;intro KK H2;have Y:=qh (jR r');clear r' hg KK;go_wp2;go_ret2;have k2:=H1.o.1.turns H2.o ahq ahq;have s1:=H1.o.2.size;have s2:=H2.o.size;have hq:=Y.o.lt;have Pr:=HG.o;have OY:=HR.o;have tA:aa [] w2 (w2.alloc (.cells (lkC 2 a ⟨0,w2.heap.size,w1.heap.size,2,s.W.length+1,m,n,n⟩) (lkT 2))):=(aa.refl _ _).alloc _;have I:=Blk.new w2 (lkT 2) (lkC 2 a ⟨0,w2.heap.size,w1.heap.size,2,s.W.length+1,m,n,n⟩);refine⟨⟨0,w2.heap.size,w1.heap.size,2,s.W.length+1,m,n,n⟩,rfl,?_,⟨by show w.heap.size<=w2.heap.size;omega,by show w.heap.size<=w1.heap.size;omega,rfl,rfl,rfl,rfl⟩,((H1.o.2.mono ahq).trans (H2.o.mono ahq)).alloc _⟩;exact⟨k2.turns tA ahq ahq,I,Y.o.turns tA ahq,by show(List.replicate n Sp.zero).length=n;simp,by show w2.heap.size≠a;omega,by show w2.heap.size≠g;omega,by show w2.heap.size≠w1.heap.size;omega,by show w1.heap.size≠a;omega,by show w1.heap.size≠g;omega,h2,by show 1<=s.W.length+1;omega,by show s.W.length+1<=5000;omega,H,O,Nat.le_refl _⟩
def Eg(h:aB w a g s)(n:Nat)(h1:1<=n)(h2:n<=32)(m:Nat)(H:1<=m)(O:m<=4)(V:s.W.length+(1+2*n)<=s.room):E 154 #[↑a,J n] w (zQ w a g 4 s n m):=by
  obtain⟨i0,hi,J5,J7,J2⟩:=info_parts Tryz.infoSpF;have HT:=qh (mN h (1+2*n) V);refine ajH ?_;intro t1 t2 HR HG;have x1:IntKind.i64.wrap (2*(n:Int))=2*(n:Int):=IntWalk.i64_in _ ahp;have x2:IntKind.i64.wrap (1+2*(n:Int))=((1+2*n:Nat):Int):=by rw[IntWalk.i64_in _ ahp];omega
  clear h V;go_enter func154,ntmps154;go_wp2_with fail;refine Pi HT.o λw1 H1=>?_;clear HT;go_wp2_with (refine wpList_make_full _ rfl _ _ 237 rfl w1.heap.size 113 i0 (agg #[J 0,J 0,J 0,J 0]) 4 Tryz.underlying237 hi J5 J7 .i64 .i64 n n n rfl rfl rfl rfl ?b2 ?b3 (Nat.le_refl _) ?_);case b2=>rw[J2];omega
  case b3=>unfold maxLen;omega
  intro w2 r' hg;refine ajd ?_;intro KK H2;have Y:=qh (jR r');clear r' hg KK;go_wp2;go_ret2;have k2:=H1.o.1.turns H2.o ahq ahq;have s1:=H1.o.2.size;have s2:=H2.o.size;have hq:=Y.o.lt;have Pr:=HG.o;have OY:=HR.o;have tA:aa [] w2 (w2.alloc (.cells (lkC 4 a ⟨0,w2.heap.size,w1.heap.size,4,s.W.length+1,m,n,n⟩) (lkT 4))):=(aa.refl _ _).alloc _;have I:=Blk.new w2 (lkT 4) (lkC 4 a ⟨0,w2.heap.size,w1.heap.size,4,s.W.length+1,m,n,n⟩);refine⟨⟨0,w2.heap.size,w1.heap.size,4,s.W.length+1,m,n,n⟩,rfl,?_,⟨by show w.heap.size<=w2.heap.size;omega,by show w.heap.size<=w1.heap.size;omega,rfl,rfl,rfl,rfl⟩,((H1.o.2.mono ahq).trans (H2.o.mono ahq)).alloc _⟩;exact⟨k2.turns tA ahq ahq,I,Y.o.turns tA ahq,by show(List.replicate n Sp.zero).length=n;simp,by show w2.heap.size≠a;omega,by show w2.heap.size≠g;omega,by show w2.heap.size≠w1.heap.size;omega,by show w1.heap.size≠a;omega,by show w1.heap.size≠g;omega,h2,by show 1<=s.W.length+1;omega,by show s.W.length+1<=5000;omega,H,O,Nat.le_refl _⟩
def EM(h:aB w a g s)(n:Nat)(h1:1<=n)(h2:n<=32)(m:Nat)(H:1<=m)(O:m<=4)(V:s.W.length+(1)<=s.room):E 151 #[↑a,J n,J m] w (zQ w a g 1 s n m):=by
  obtain⟨i0,hi,J5,J7,J2⟩:=info_parts Tryz.infoSpF;have HT:=qh (mN h (1) V);refine ajH ?_;intro t1 t2 HR HG;have t3:¬(m:Int)<1:=by omega
  have t4:¬1024<(m:Int):=by omega
  clear h V;go_enter func151,ntmps151;go_wp2_with fail;refine Pi HT.o λw1 H1=>?_;clear HT;go_wp2_with (refine wpList_make_full _ rfl _ _ 237 rfl w1.heap.size 113 i0 (agg #[J 0,J 0,J 0,J 0]) 4 Tryz.underlying237 hi J5 J7 .i64 .i64 n n n rfl rfl rfl rfl ?b2 ?b3 (Nat.le_refl _) ?_);case b2=>rw[J2];omega
  case b3=>unfold maxLen;omega
  intro w2 r' hg;refine ajd ?_;intro KK H2;have Y:=qh (jR r');clear r' hg KK;go_wp2;go_ret2;have k2:=H1.o.1.turns H2.o ahq ahq;have s1:=H1.o.2.size;have s2:=H2.o.size;have hq:=Y.o.lt;have Pr:=HG.o;have OY:=HR.o;have tA:aa [] w2 (w2.alloc (.cells (lkC 1 a ⟨0,w2.heap.size,w1.heap.size,1,s.W.length+1,m,n,n⟩) (lkT 1))):=(aa.refl _ _).alloc _;have I:=Blk.new w2 (lkT 1) (lkC 1 a ⟨0,w2.heap.size,w1.heap.size,1,s.W.length+1,m,n,n⟩);refine⟨⟨0,w2.heap.size,w1.heap.size,1,s.W.length+1,m,n,n⟩,rfl,?_,⟨by show w.heap.size<=w2.heap.size;omega,by show w.heap.size<=w1.heap.size;omega,rfl,rfl,rfl,rfl⟩,((H1.o.2.mono ahq).trans (H2.o.mono ahq)).alloc _⟩;exact⟨k2.turns tA ahq ahq,I,Y.o.turns tA ahq,by show(List.replicate n Sp.zero).length=n;simp,by show w2.heap.size≠a;omega,by show w2.heap.size≠g;omega,by show w2.heap.size≠w1.heap.size;omega,by show w1.heap.size≠a;omega,by show w1.heap.size≠g;omega,h2,by show 1<=s.W.length+1;omega,by show s.W.length+1<=5000;omega,H,O,Nat.le_refl _⟩
end
section
open Go.RowKit
variable{w:World}{g:Nat}{s:Ar}
def tT{e:TypeId}{sz n:Nat}{v:Value}{xs:List Value}(h:w.ownsRow base e sz v n xs)(hn:1<=n):∃q cap,v= slice (some ⟨q,0,none⟩) n cap/\n<=cap/\base<=q/\∃V:List Value,Blk w q e (xs++V).toArray:=by
 rcases h.2 with⟨_,h0⟩|⟨q,cap,H,rfl,I,Y,O,QS,Kf,ht⟩
 .omega
 .refine⟨q,cap,rfl,O,I,H.toList.drop (n*sz),?_⟩;rw[<-ht,List.take_append_drop,Array.toArray_toList];exact Y
def vB(k:Nat):(ba 5 k).length=k:=by unfold ba;simp
def Av(k:Nat):(ba 5 (k+1)).flatMap bf=(ba 5 k).flatMap bf++[J 0,J ((k:Int)+1),J 0,J 0]:=by unfold ba;rw[if_pos rfl,if_pos rfl,List.range_succ,List.map_append,List.flatMap_append];rfl
def vH(h:aB w a g s)(n:Nat)(h1:1<=n)(h2:n<=32)(m:Nat)(H:1<=m)(ab:m<=4)(V:s.W.length+(1+m)<=s.room)(Y:s.ops+1<=1000000000000):E 153 #[↑a,J n,J m] w (zQ w a g 3 s n m):=by
  obtain⟨i0,hi,J5,J7,J2⟩:=info_parts Tryz.infoSpF;have HT:=qh (mN h (1+m) V);have x1:IntKind.i64.wrap (1+(m:Int))=((1+m:Nat):Int):=by rw[IntWalk.i64_in _ ahp];omega
  have Kw:s.W.length<=4096:=by have:=h.le;have:=h.room;omega
  have Lq:=h.blk.lt;have LM:=h.wds.lt;have HO:=qh Y;clear h V Y;go_enter func153,ntmps153;go_wp2_with fail;refine LT (Il _ n h1 h2) ?_;go_wp2_with fail;refine(Il _ m H ahp).mono ?_;rintro en w0 ⟨rfl,rfl⟩;go_wp2_with fail;refine Pi HT.o λw1 H1=>?_;clear HT;go_wp2_with (refine wpList_make_full _ rfl _ _ 237 rfl w1.heap.size 113 i0 (agg #[J 0,J 0,J 0,J 0]) 4 Tryz.underlying237 hi J5 J7 .i64 .i64 n n n rfl rfl rfl rfl ?b2 ?b3 (Nat.le_refl _) ?_);case b2=>rw[J2];omega
  case b3=>unfold maxLen;omega
  intro w2 r' hg;refine ajd ?_;intro KK H2;have Lu:=qh (jR r');clear r' hg KK;go_upto_region 7 with fail;obtain⟨l,hl⟩:=LE w2.heap.size;obtain⟨nx,J'⟩:∃x:Nat,x=s.W.length+1:=⟨_,rfl⟩;have Rb:((s.W.length:Int)+1)=(nx:Int):=by omega
  obtain⟨w3,O⟩:=LE (w2.alloc (cells #[↑a,J nx,J m,slice (some ⟨w1.heap.size,0,none⟩) n n] 345));rw[Rb,<-O,<-hl];have HB:=qh (show Blk w3 l 345 #[↑a,J nx,J m,slice (some ⟨w1.heap.size,0,none⟩) n n]from by rw[O,hl];exact Blk.new _ _ _);have Qo:=qh (show aa [a] w w3 from by rw[O];exact(H1.o.2.trans (H2.o.mono ahq)).alloc _);have SW:=qh (show aB w3 a g (bp s (1+m))from by rw[O];exact(H1.o.1.turns H2.o ahq ahq).turns (S:=[]) ((aa.refl _ _).alloc _) ahq ahq);have Ye:=qh (show SpR w3 w1.heap.size (List.replicate n Sp.zero)from by rw[O];exact Lu.o.turns ((aa.refl [] _).alloc _) ahq);have HL:=qh (show w.heap.size<=l/\nx=s.W.length+1/\w1.heap.size<l/\w.heap.size<=w1.heap.size from by have:=H1.o.2.size;have:=H2.o.size;have:=Lu.o.lt;omega);clear hl O J' Rb;go_wp2_with fail;refine Pi (Gm nx m H (by have:=HL.o.2.1;omega) HB.o) λw4 b4=>?_;have Qe:=qh (And.intro (SW.o.turns (aa.of_below (S:=[]) b4.o) ahq ahq) b4.o);go_wp2_with fail;refine(an Qe.o.1 ((nx:Int)+1) 1 (by show s.ops+1<=_;have:=HO.o;omega)).mono ?_;rintro en w5 ⟨rfl,k5,t5⟩;have H5:=qh (And.intro k5 t5);clear k5 t5;go_wp2;go_ret2;have s3:=Qo.o.size;have s4:=Qe.o.2.size;have s5:=H5.o.2.size;have I:=HB.o.lt;have hL:=HL.o;have e3:((nx:Int)+1)=(s.W.length:Int)+2:=by omega
  have tt:aa [a,g] w3 w5:=(aa.of_below Qe.o.2).trans H5.o.2;have ka:=H5.o.1;rw[e3]at ka;refine⟨⟨0,l,w1.heap.size,3,nx,m,n,n⟩,rfl,?_,⟨by show w.heap.size<=l;omega,by show w.heap.size<=w1.heap.size;omega,rfl,rfl,hL.2.1,rfl⟩,(Qo.o.mono ahq).trans tt⟩;exact⟨ka,tt.blk HB.o ahu,Ye.o.turns tt ahu,by show(List.replicate n Sp.zero).length=n;simp,by show l≠a;omega,by show l≠g;omega,by show l≠w1.heap.size;omega,by show w1.heap.size≠a;omega,by show w1.heap.size≠g;omega,h2,by show 1<=nx;omega,by show nx<=5000;omega,H,ab,Nat.le_refl _⟩
def Dq(h:aB w a g s)(n:Nat)(h1:1<=n)(h2:n<=32)(m:Nat)(ab:1<=m)(ad:m<=4)(V:s.W.length+(n+2)<=s.room)(Y:s.ops+1<=1000000000000):E 155 #[↑a,J n] w (zQ w a g 5 s n m):=by
  obtain⟨i0,hi,J5,J7,J2⟩:=info_parts Tryz.infoSpF;refine ajg ?_;intro HI;have HT:=qh (mN h (n+2) V);have t1:¬(n:Int)<1:=by omega
  have t2:¬32<(n:Int):=by omega
  have x1:IntKind.i64.wrap ((n:Int)+2)=((n+2:Nat):Int):=by rw[IntWalk.i64_in _ ahp];omega
  have x2:IntKind.i64.wrap ((n:Int)+1)=((n+1:Nat):Int):=by rw[IntWalk.i64_in _ ahp];omega
  have Kw:s.W.length<=4096:=by have:=h.le;have:=h.room;omega
  have HG:=qh (And.intro h.blk.lt h.wds.lt);have HO:=qh Y;clear h V Y hi J5 J7 J2;go_enter func155,ntmps155;go_wp2_with fail;refine Pi HT.o λw1 H1=>?_;clear HT;go_upto_region 7 with fail;obtain⟨l,hl⟩:=LE w1.heap.size;obtain⟨nx,J'⟩:∃x:Nat,x=s.W.length+1:=⟨_,rfl⟩;have Rb:((s.W.length:Int)+1)=(nx:Int):=by omega
  obtain⟨w3,MA⟩:=LE (w1.alloc (cells #[↑a,J nx,.slice none 0 0] 350));rw[Rb,<-MA,<-hl];have HB:=qh (show Blk w3 l 350 #[↑a,J nx,.slice none 0 0]from by rw[MA,hl];exact Blk.new _ _ _);have Qo:=qh (show aa [a] w w3 from by rw[MA];exact H1.o.2.alloc _);have SW:=qh (show aB w3 a g (bp s (n+2))from by rw[MA];exact H1.o.1.turns (S:=[]) ((aa.refl _ _).alloc _) ahq ahq);have HL:=qh (show w.heap.size<=l/\nx=s.W.length+1/\w3.heap.size=l+1 from by have:=H1.o.2.size;rw[MA];simp;omega);clear hl MA J' Rb;go_wp2;go_loopw [31] (λi wr=>∃(k:Nat) (v:Value),i= J k/\k<=n/\Blk wr l 350 #[↑a,J nx,v]/\wr.ownsRow w3.heap.size 113 4 v k ((ba 5 k).flatMap bf)/\aa [l] w3 wr) (λi _=>n-(intOf i).toNat);case atStart=>exact⟨0,_,rfl,by omega,HB.o,World.ownsRow_nil _ _ _ _,aa.refl _ _⟩
  case round=>
    obtain⟨k,v,rfl,hk,I,r',ht⟩:=hrel;have Qs:=qh (Av k);obtain⟨xs,PF⟩:=LE ((ba 5 k).flatMap bf);rw[<-PF]at r' Qs;have Yr:=qh PF;clear PF;obtain⟨wo,rfl⟩:∃wo:World,wo=wr:=⟨_,rfl⟩;by_cases F':k<n
    . obtain⟨A,cap,rfl⟩:=a8 r';have c2:Z wo l 2 (.slice A k cap):=I.cell 2;have Lc:=I.lt;have KI:=ht.size;have H:=qh (And.intro I (And.intro r' ht));have Mm:(Value.slice A k cap).ownBlock≠some l:=λe=>by have:=(r'.lt l e).1;have:=HL.o.2.2;omega
      clear I r' ht;go_wp2_with (at_builtin;refine wpList_append_lies _ rfl _ _ 237 rfl w3.heap.size 113 i0 (agg #[J 0,J 0,J 0,J 0]) 4 32 Tryz.underlying237 HI.o.1 HI.o.2.1 HI.o.2.2.1 HI.o.2.2.2 rfl ahr _ _ _ rfl (H.o.2.1.alloc _) ⟨wo.heap.size,0,none⟩ 1 1 [J 0,J ((k:Int)+1),J 0,J 0] rfl rfl (nQ _ _ _) ahU ahr ?c3 ?c4 ?c5 _ rfl ?_);case c3=>unfold maxLen;omega
      case c4=>omega
      case c5=>simp;omega
      intro g3 O w7 h3 Kr NA Uf;have MG:=(H.o.1.alloc (cells #[J 0,J ((k:Int)+1),J 0,J 0] 113)).grown Kr (λe=>Mm e.symm);have bc:Z w7 l 2 (.slice A k cap):=MG.cell 2;have bw:=MG.free 2;have ts:aa [l] w7 (w7.setCell ⟨l,2,none⟩ (slice (some ⟨g3,0,none⟩) (k+1) O)):=(aa.refl _ _).setCell (.inl ahq) _
      have LX:=qh (show Blk (w7.setCell ⟨l,2,none⟩ (slice (some ⟨g3,0,none⟩) (k+1) O)) l 350 #[↑a,J nx,slice (some ⟨g3,0,none⟩) (k+1) O]/\(w7.setCell ⟨l,2,none⟩ (slice (some ⟨g3,0,none⟩) (k+1) O)).ownsRow w3.heap.size 113 4 (slice (some ⟨g3,0,none⟩) (k+1) O) (k+1) (xs++[J 0,J ((k:Int)+1),J 0,J 0])/\aa [l] w3 (w7.setCell ⟨l,2,none⟩ (slice (some ⟨g3,0,none⟩) (k+1) O))from by
        have Wg:=(h3.lt g3 rfl).1;have ax:=HL.o.2.2;refine⟨MG.set_ 2 _,aa.own h3 ts (λx hx=>by injection hx with hx;subst hx;simp;omega),?_⟩
        have al:aa [l] w3 w7:=⟨Kr.os.trans H.o.2.2.os,Kr.tape.trans H.o.2.2.tape,Kr.output.trans H.o.2.2.output,by have:=Kr.size;simp at this;omega,λi hi hn=>by
          have h9:=Kr.block i ahu (λe=>by have:=(H.o.2.1.lt i e.symm).1;omega);rw[h9];have h8:=((aa.refl [l] wo).alloc (cells #[J 0,J ((k:Int)+1),J 0,J 0] 113)).block i ahp hn;rw[h8]
          exact H.o.2.2.block i hi hn⟩
        exact al.trans ts)
      clear h3 Kr NA MG H;go_wp2;go_roundw;case rel=>exact⟨k+1,_,by go_num,by omega,LX.o.1,by rw[Qs.o];exact LX.o.2.1,LX.o.2.2⟩
      case measure=>simp[intOf];omega
    . obtain rfl:k=n:=by omega
      obtain⟨q,cap,rfl,Oi,SD,Zz,hZ⟩:=tT r' h1;have H:=qh (And.intro I ht);have HZ:=qh (show SpR wo q (ba 5 k)from⟨Zz,by rw[<-Yr.o];exact hZ⟩);clear I r' ht hZ;have Qe:=qh (SW.o.turns H.o.2 (by have:=HG.o;have:=HL.o;simp;omega) (by have:=HG.o;have:=HL.o;simp;omega));go_wp2_with fail;refine(an Qe.o (nx:Int) ((k+1:Nat):Int) (by show s.ops+1<=_;have:=HO.o;omega)).mono ?_;rintro en w5 ⟨rfl,k5,t5⟩;have H5:=qh (And.intro k5 t5);clear k5 t5;go_wp2;go_ret2;have s3:=Qo.o.size;have s5:=H5.o.2.size;have I:=H.o.1.lt;have s6:=H.o.2.size;have hL:=HL.o;have hG:=HG.o;have e3:(nx:Int)=(s.W.length:Int)+1:=(by omega);have ka:=H5.o.1;rw[e3,show(((k+1:Nat):Nat):Int)=(k:Int)+1 by omega]at ka;have t9:aa [a,g,l] w w5:=((Qo.o.mono ahq).trans (H.o.2.mono ahq)).trans (H5.o.2.mono ahq);refine⟨⟨0,l,q,5,nx,m,k,cap⟩,rfl,?_,⟨by show w.heap.size<=l;omega,by show w.heap.size<=q;omega,rfl,rfl,hL.2.1,rfl⟩,t9.fresh λi hi=>by simp at hi ⊢;omega⟩;exact⟨ka,H5.o.2.blk H.o.1 ahu,HZ.o.turns H5.o.2 ahu,vB k,by show l≠a;omega,by show l≠g;omega,by show l≠q;omega,by show q≠a;omega,by show q≠g;omega,h2,by show 1<=nx;omega,by show nx<=5000;omega,ab,ad,Oi⟩
end
section
open Go.RowKit
def gaC(a N:Nat):Array Value:=#[↑a,J 1,J N]
def Bs{w:World}{g:Nat}{s:Ar}(h:aB w a g s)(N:Nat)(h1:1<=N)(O:N<=32)(hs:s.W=[])(V:s.room=4096):E 174 #[↑a,J N] w λe w'=>∃gg,e= returned (tuple #[pointer (some ⟨gg,0,none⟩),J 0])/\w.heap.size<=gg/\Blk w' gg 365 (gaC a N)/\aB w' a g (bp s (2*N))/\aa [a] w w':=by
  have H:=mN h (2*N) (by rw[hs,V];simp;omega);rw[hs]at H;have I:=qh H;have Y:IntKind.i64.wrap (2*(N:Int))=((2*N:Nat):Int):=by rw[IntWalk.i64_in _ ahp];omega
  have t1:¬(N:Int)<1:=by omega
  have t2:¬32<(N:Int):=by omega
  clear h hs V H;go_enter func174,ntmps174;go_wp2_with fail;refine Pi I.o λw1 H1=>?_;clear I;go_wp2;go_ret2;have s1:=H1.o.2.size;refine⟨w1.heap.size,by simp,s1,?_,H1.o.1.turns (S:=[]) ((aa.refl _ _).alloc _) ahq ahq,H1.o.2.alloc _⟩;have:=Blk.new w1 365 (gaC a N);simpa[gaC]using this
section
variable{w:World}{gg g N:Nat}{s:Ar}
def DW(h:Blk w gg 365 (gaC a N)):E 383 #[↑gg] w λe w'=>e= returned (J N)/\w=w':=by have c2:Z w gg 2 (J N):=h.cell 2;clear h;go_enter func383,ntmps383;exact aab
def Br(h:Blk w gg 365 (gaC a N))(nd:Nat)(I:nd<N)(hN:N<=32):E 380 #[↑gg,J nd] w λe w'=>e= returned (J (2*(nd:Int)+1))/\w=w':=by
 have c1:Z w gg 1 (J 1):=h.cell 1;have H:=qh (DW h);have t1:¬(nd:Int)<0:=by omega
 have t2:¬(N:Int)<=(nd:Int):=by omega
 have O:IntKind.i64.wrap (2*(nd:Int))=2*(nd:Int):=IntWalk.i64_in _ ahp;have V:IntKind.i64.wrap (1+2*(nd:Int))=2*(nd:Int)+1:=by rw[IntWalk.i64_in _ ahp];omega
 clear h;go_enter func380,ntmps380;go_wp2_with fail;refine LT H.o ?_;exact aab
def EZ(h:Blk w gg 365 (gaC a N))(V:aB w a g s)(nd:Nat)(hn:nd<N)(hN:N<=32)(k:Nat)(hk:k<=1)(Y:s.ops+1<=1000000000000):E 375 #[↑gg,J nd,J k] w λe w'=>e= returned (tuple #[])/\aB w' a g (addA s (2*(nd:Int)+1+k) 1)/\aa [a,g] w w':=by
 have c0:w.cell? gg=some ↑a:=h.cell 0;have I:=qh (Br h nd hn hN);have t1:(0:Int)<2*(nd:Int)+1:=by omega
 have x1:IntKind.i64.wrap (2*(nd:Int)+1+(k:Int))=2*(nd:Int)+1+(k:Int):=IntWalk.i64_in _ ahp;obtain⟨o,O⟩:∃o:Int,o=2*(nd:Int)+1:=⟨_,rfl⟩;rw[<-O]at I t1 x1 ⊢;have H:=qh (ie V (o+(k:Int)) 1 Y);clear h V O;go_enter func375,ntmps375;go_wp2_with fail;refine LT I.o ?_;go_wp2_with fail;refine Pi H.o λw1 H1=>?_;clear H;go_wp2;all_goals go_end0;exact⟨rfl,H1.o.1,H1.o.2⟩
def qS(h:Blk w gg 365 (gaC a N))(I:aB w a g s)(nd:Nat)(O:nd<N)(hN:N<=32)(Y:s.ops+1<=1000000000000):E 371 #[↑gg,J nd] w λe w'=>e= returned (tuple #[])/\aB w' a g (addA s (2*(nd:Int)+1) 1)/\aa [a,g] w w':=by have H:=EZ h I nd O hN 0 ahp Y;rw[show 2*(nd:Int)+1+((0:Nat):Int)=2*(nd:Int)+1 by omega]at H;have HA:=qh H;clear h I H;go_enter func371,ntmps371;exact abF
def qT(h:Blk w gg 365 (gaC a N))(I:aB w a g s)(nd:Nat)(O:nd<N)(hN:N<=32)(Y:s.ops+1<=1000000000000):E 372 #[↑gg,J nd] w λe w'=>e= returned (tuple #[])/\aB w' a g (addA s (2*(nd:Int)+1+1) 1)/\aa [a,g] w w':=by have H:=EZ h I nd O hN 1 ahp Y;rw[show 2*(nd:Int)+1+((1:Nat):Int)=2*(nd:Int)+1+1 by omega]at H;have HA:=qh H;clear h I H;go_enter func372,ntmps372;exact abF
def Ia(h:aB w a g s):E 111 #[↑a] w λe w'=>e= returned (agg #[J s.k,J s.at_,.bool s.wr])/\Below w.heap.size w w':=by have c3:=h.c3;have c4:=h.c4;have c5:=h.c5;have H:=h.blk.lt;clear h;go_enter func111,ntmps111;go_wp2;exact bodyPost_ret (results_cell_row aht _ _ w.heap.size 104 _ (0,0) _ aht (heap_alloc_new w _) Tryz.underlying104 rfl ahs) rfl ⟨rfl,(Below.refl _ _).alloc (Nat.le_refl _) _⟩
end
end
end Go.Proofs.YtglokdbiggbkjaaGreat
