/- Joined texts. -/
import Derived.StillTailTactics
import Derived.IntWalk
import Derived.Deep.RegionHeld3
import Derived.Deep.AppendLies
import Derived.BigRegion
import Derived.Test.YtglokdbiggbkjaaGreatMgBoltLoops0
import Derived.Test.YtglokdbiggbkjaaGreatMgBoltLoops2
import Derived.Test.YtglokdbiggbkjaaGreatMgBoltLoops3
import Derived.Test.YtglokdbiggbkjaaGreatMgBoltLoops6
import Derived.Test.YtglokdbiggbkjaaGreatMgBoltLoops7
set_option linter.unusedVariables false
set_option linter.unusedSimpArgs false
set_option linter.defProp false
set_option maxRecDepth 100000
set_option maxHeartbeats 16000000
open Go.Proofs.Tryz
namespace Go.Proofs.YtglokdbiggbkjaaGreat
open Go.IntKind(i64)
open Go.Value(int bool slice agg tuple pointer)
open Go.Ending(returned)
open Go.Obj(cells)
variable{a i j u:Nat}{w':World}{T:List Nat}{f:Int}{D:List Int}{f1:FuncId}
section
open Go.RowKit
def Ao(w:World)(b o:Nat)(x y:Int)(hc:Z w b o (J x))(h:w.frozen? ⟨b,o,none⟩=false):E 274 #[pointer (some ⟨b,o,none⟩),J x,J y] w λe w'=>e= returned (bool true)/\w'=w.setCell ⟨b,o,none⟩ (J y):=by have H:=run_call_cas_hit (P:=prog) func276 ahE ahE ahE .i64 ahE (y:=y) hc h;go_enter func274,ntmps274;go_wp2;go_ret;exact⟨rfl,rfl⟩
def yh(w:World)(b o:Nat)(x old y:Int)(hc:Z w b o (J x))(H:w.frozen? ⟨b,o,none⟩=false)(h:¬x=old):E 274 #[pointer (some ⟨b,o,none⟩),J old,J y] w λe w'=>e= returned (bool false)/\w=w':=by have I:=run_call_cas_miss (P:=prog) func276 ahE ahE ahE .i64 ahE (o:=old) (y:=y) hc H h;clear h;go_enter func274,ntmps274;go_wp2;go_ret;exact⟨rfl,rfl⟩
def jn{w:World}{g:Nat}{s:Ar}(h:aB w a g s)(x old v:Int)(V:s.ops+1<=1000000000000):E 272 #[↑a,J x,J old,J v] w (fk w a g (dX s x old v) (bool (cJ s x old))):=by
  have H:=qh h;cases I:inR s.W x
  . have e:fk w a g (dX s x old v) (bool (cJ s x old)) (returned (bool false)) w:=⟨by unfold cJ;rw[I];rfl,by
      have hb:cJ s x old=false:=by unfold cJ;rw[I];rfl
      unfold dX;rw[hb,i5 s 4 x false I];exact h,aa.refl _ _⟩
    have HX:=qh I;clear h I;go_enter func272,ntmps272;go_wp2_with fail;refine LT (ks H.o x HX.o) ?_;go_wp2;go_ret;exact e
  . have HX:=qh I;have Og:=aT.1 I;have MV:x.toNat-1<s.W.length:=(by omega);have hc:=h.word (i:=x.toNat-1) MV;rw[<-js I]at hc;by_cases Y:ldW s.W x=old;. have hb:cJ s x old=true:=(by unfold cJ;rw[I,Y];simp);have hp:=h.put I v;have HP:=qh (And.intro hp hb);rw[Y]at hc;have O:=qh hc;clear h I hc hp Y hb;go_enter func272,ntmps272;go_wp2_with fail;refine LT (kG H.o x HX.o) ?_;go_wp2_with fail;refine LT (Ao _ _ _ _ _ O.o.1 O.o.2) ?_;have h2:=HP.o.1.1;have t2:=HP.o.1.2;generalize (w.setCell ⟨g,x.toNat-1,none⟩ (J v))=w2 at h2 t2 ⊢;have H2:=qh (And.intro h2 t2);clear h2 t2;go_wp2_with fail;refine Op (i6 H2.o.1 4 x true (by unfold inR wrA;rw[bM];exact HX.o) V) λw3 H3=>?_;go_wp2;go_ret;refine⟨by rw[HP.o.2];rfl,?_,H2.o.2.trans (ji H3.o.2)⟩;have e:dX s x old v=fH (wrA s x v) 4 x true:=(by unfold dX;rw[HP.o.2,if_pos rfl];unfold fH;rw[if_pos HX.o,if_pos (by unfold inR wrA;rw[bM];exact HX.o)];rfl);rw[e];exact H3.o.1
    . have hb:cJ s x old=false:=(by unfold cJ;rw[I];simpa using Y);have O:=qh (And.intro hc (And.intro Y hb));clear h I hc Y hb;go_enter func272,ntmps272;go_wp2_with fail;refine LT (kG H.o x HX.o) ?_;go_wp2_with fail;refine LT (yh _ _ _ _ _ _ O.o.1.1 O.o.1.2 O.o.2.1) ?_;go_wp2_with fail;refine Op (i6 H.o 4 x false HX.o V) λw3 H3=>?_;go_wp2;go_ret;refine⟨by rw[O.o.2.2];rfl,?_,ji H3.o.2⟩;unfold dX;rw[O.o.2.2];exact H3.o.1
end
section
open Go.RowKit
def JK(w:World)(b o:Nat)(x y:Int)(hc:Z w b o (J x))(h:w.frozen? ⟨b,o,none⟩=false):E 303 #[pointer (some ⟨b,o,none⟩),J y] w λe w'=>e= returned (J (IntKind.i64.wrap (x+y)))/\w'=w.setCell ⟨b,o,none⟩ (J (IntKind.i64.wrap (x+y))):=by obtain⟨s,hs⟩:=LE (IntKind.i64.wrap (x+y));rw[<-hs];have H:=run_call_add (P:=prog) func305 ahE ahE ahE .i64 ahE (y:=y) (s:=s) hc h (by rw[hs];rfl);clear hs;go_enter func303,ntmps303;go_wp2;go_ret;exact⟨rfl,rfl⟩
def ir{w:World}{g:Nat}{s:Ar}(h:aB w a g s)(x d:Int)(V:s.ops+1<=1000000000000):E 298 #[↑a,J x,J d] w (fk w a g (addA s x d) (J (if inR s.W x then IntKind.i64.wrap (ldW s.W x+d)else 0))):=by
  have H:=qh h;cases O:inR s.W x;. have e:fk w a g (addA s x d) (J (if false=true then IntKind.i64.wrap (ldW s.W x+d)else 0)) (returned (J 0)) w:=⟨rfl,by unfold addA;rw[i5 s _ _ _ O,sh s _ _ O];exact h,aa.refl _ _⟩;have HX:=qh O;clear h O;go_enter func298,ntmps298;go_wp2_with fail;refine LT (ks H.o x HX.o) ?_;go_wp2;go_ret;exact e
  . have HX:=qh O;have HE:=qh (js O);have Og:=aT.1 O;have MV:x.toNat-1<s.W.length:=(by omega);clear h O;go_enter func298,ntmps298;go_wp2_with fail;refine LT (kG H.o x HX.o) ?_;go_wp2_with fail;refine Op (i6 H.o 5 x true HX.o V) λw1 h1=>?_;have hc:=h1.o.1.word (i:=x.toNat-1) (by rw[dN];exact MV);rw[dN,<-HE.o]at hc;have hp:=h1.o.1.put (x:=x) (by rw[dN];exact HX.o) (IntKind.i64.wrap (ldW s.W x+d));have H1:=qh (And.intro hp h1.o.2);have HC:=qh hc;clear hp hc;go_wp2_with fail;refine LT (JK _ _ _ _ _ HC.o.1 HC.o.2) ?_;obtain⟨r,I⟩:=LE (IntKind.i64.wrap (ldW s.W x+d));have ab:-9223372036854775808<=r/\r<=9223372036854775807:=(by rw[I,IntKind.wrap_i64];omega);obtain⟨ad,UC⟩:=ab;rw[<-I];have Y:=qh I;clear I;go_wp2;go_ret;exact⟨by rw[Y.o];rfl,by rw[Y.o];exact H1.o.1.1,by rw[Y.o];exact(ji H1.o.2).trans H1.o.1.2⟩
end
section
open Go.RowKit
variable{u:Value}
def SpR(w:World)(q:Nat)(S:List Sp):Prop:=∃Zz:List Value,Blk w q 113 (S.flatMap bi++Zz).toArray
section
variable{w:World}{q:Nat}{S:List Sp}
def yS(S:List Sp):(S.flatMap bi).length=S.length*4:=by
 induction S with
 |nil=>rfl
 |cons a l h=>rw[List.flatMap_cons,List.length_append,h,iO,List.length_cons];omega
def SpR.cell(h:SpR w q S){p:Sp}(I:S[i]? =some p)(j:Nat)(u:Value)(O:(bi p)[j]? =some u):Z w q (i*4+j) u:=by obtain⟨V,h⟩:=h;rw[Blk.cell h];have h1:=cE bi 4 iO S i p j u I O;have H:i*4+j<(S.flatMap bi).length:=(List.getElem?_eq_some_iff.1 h1).1;simp only[List.getElem?_toArray];rw[List.getElem?_append_left H,h1]
def SpR.put(h:SpR w q S){p p':Sp}(H:S[i]? =some p)(V:j<4)(O:(bi p).set j u=bi p'):SpR (w.setCell ⟨q,i*4+j,none⟩ u) q (S.set i p'):=by obtain⟨I,h⟩:=h;have h1:=Blk.set_ h (i*4+j) u;have hi:=(List.getElem?_eq_some_iff.1 H).1;refine⟨I,?_⟩;rw[List.setIfInBounds_toArray,List.set_append_left _ _ (by rw[yS];omega),nA bi 4 iO S i p p' j u H V O]at h1;exact h1
def SpR.lt(h:SpR w q S):q<w.heap.size:=by obtain⟨H,h⟩:=h;exact Blk.lt h
def SpR.free(h:SpR w q S)(i:Nat):w.frozen? ⟨q,i,none⟩=false:=by obtain⟨H,h⟩:=h;exact Blk.free h i
def SpR.turns(h:SpR w q S)(k:aa T w w')(I:q∉T):SpR w' q S:=by obtain⟨H,h⟩:=h;exact⟨H,k.blk h I⟩
end
structure Fx where
 p:Nat
 l:Nat
 q:Nat
 k:Nat
 t:Nat
 m:Nat
 n:Nat
 cap:Nat
def lkT:Nat->TypeId
 |1=>339
 |2=>343
 |3=>345
 |4=>348
 |_=>350
def lkC(k a:Nat)(x:Fx):Array Value:=
 match k with
 |1=>#[↑a,int i64 x.t,int i64 x.m,slice (some ⟨x.q,0,none⟩) x.n x.cap]
 |2=>#[slice (some ⟨x.q,0,none⟩) x.n x.cap,↑a,int i64 x.t]
 |3=>#[↑a,int i64 x.t,int i64 x.m,slice (some ⟨x.q,0,none⟩) x.n x.cap]
 |_=>#[↑a,int i64 x.t,slice (some ⟨x.q,0,none⟩) x.n x.cap]
structure KIs(w:World)(a g k:Nat)(x:Fx)(s:Ar)(S:List Sp):Prop where
 ar:aB w a g s
 lk:Blk w x.l (lkT k) (lkC k a x)
 sp:SpR w x.q S
 n:S.length=x.n
 la:x.l≠a
 lg:x.l≠g
 lq:x.l≠x.q
 qa:x.q≠a
 qg:x.q≠g
 n32:x.n<=32
 t0:1<=x.t
 t1:x.t<=5000
 m0:1<=x.m
 m1:x.m<=4
 cap:x.n<=x.cap
section
variable{w:World}{g k:Nat}{x:Fx}{s s':Ar}{S S':List Sp}
def KIs.turns(h:KIs w a g k x s S)(t:aa T w w')(h1:x.l∉T)(H:a∉T)(I:g∉T)(O:x.q∉T):KIs w' a g k x s S:=
 {h with ar:=h.ar.turns t H I,lk:=t.blk h.lk h1,sp:=h.sp.turns t O}
def KIs.below(h:KIs w a g k x s S)(t:Below w.heap.size w w'):KIs w' a g k x s S:=
 h.turns (T:=[]) (aa.of_below t) ahC ahC ahC ahC
def KIs.op(h:KIs w a g k x s S)(t:aa [a,g] w w')(H:aB w' a g s'):KIs w' a g k x s' S:=
 {h with ar:=H,lk:=t.blk h.lk (by simp[h.la,h.lg]),sp:=h.sp.turns t (by simp[h.qa,h.qg])}
def KIs.spt(h:KIs w a g k x s S)(t:aa [x.q] w w')(hs:SpR w' x.q S')(H:S'.length=S.length):KIs w' a g k x s S':=
 {h with ar:=h.ar.turns t (by simpa using λe=>h.qa e.symm) (by simpa using λe=>h.qg e.symm),lk:=t.blk h.lk (by simpa using h.lq),sp:=hs,n:=H.trans h.n}
def aW(q i:Nat)(u:Value):aa [q] w (w.setCell ⟨q,i,none⟩ u):=(aa.refl _ _).setCell (.inl ahC) _
def KIs.put(h:KIs w a g k x s S){p p':Sp}(O:S[i]? =some p)(I:j<4)(H:(bi p).set j u=bi p'):KIs (w.setCell ⟨x.q,i*4+j,none⟩ u) a g k x s (S.set i p'):=
 h.spt (aW _ _ _) (h.sp.put O I H) ahC
def KIs.put0(h:KIs w a g k x s S){p p':Sp}(I:S[i]? =some p)(H:(bi p).set 0 u=bi p'):KIs (w.setCell ⟨x.q,i*4,none⟩ u) a g k x s (S.set i p'):=
 h.put I (j:=0) ahD H
def ed(S:List Sp)(i:Nat)(p q:Sp):(S.set i p).set i q=S.set i q:=by simp
def au{S:List Sp}{p:Sp}(h:S[i]? =some p)(q:Sp):(S.set i q)[i]? =some q:=by have:=(List.getElem?_eq_some_iff.1 h).1;simp[this]
def cj{S:List Sp}{p:Sp}(hp:S[i]? =some p):S.set i p=S:=by exact aaq
end
end
section
open Go.RowKit
def tuC(a:Nat)(f:Int)(n:Nat)(D:List Int):List Value:=[pointer (some ⟨a,0,none⟩),J f,J n]++D.map (Value.int .i64)
structure eA(w:World)(u a:Nat)(f:Int)(n:Nat)(D:List Int):Prop where
 blk:Blk w u 322 (tuC a f n D).toArray
 len:D.length=32
 n32:n<=32
 f0:0<=f/\f<=5000
section
variable{w:World}{n:Nat}
def eA.c0(h:eA w u a f n D):w.cell? u=some ↑a:=h.blk.cell 0
def eA.c1(h:eA w u a f n D):Z w u 1 (J f):=h.blk.cell 1
def eA.c2(h:eA w u a f n D):Z w u 2 (J n):=h.blk.cell 2
def eA.c3(h:eA w u a f n D)(hi:i<32):Z w u (3+i) (J (dv D i)):=by rw[h.blk.cell (3+i)];have H:=h.len;unfold tuC dv;rw[List.getElem?_toArray,List.getElem?_append_right ahC];simp[List.getD_eq_getElem?_getD,List.getElem?_eq_getElem (show i<D.length by omega)]
def eA.turns(h:eA w u a f n D){S:List Nat}(k:aa S w w')(H:u∉S):eA w' u a f n D:=⟨k.blk h.blk H,h.len,h.n32,h.f0⟩
def eA.below(h:eA w u a f n D)(k:Below w.heap.size w w'):eA w' u a f n D:=h.turns (aa.of_below (S:=[]) k) ahC
def GO(h:eA w u a f n D):E 299 #[↑u] w λe w'=>e= returned (J n)/\w=w':=by have c2:=h.c2;clear h;go_enter func299,ntmps299;exact aaa
def D6(h:eA w u a f n D)(i:Int)(b:Bool)(hb:decide (0<=i/\i<n)=b):E 293 #[↑u,J i] w λe w'=>e= returned (.bool b)/\w=w':=by
 have H:=qh h;have HB:=qh hb;clear h hb;go_enter func293,ntmps293;by_cases I:0<=i;.go_wp2_with fail;refine LT (GO H.o) ?_;go_wp2;go_ret;exact⟨az (by rw[<-HB.o];simp[I]),rfl⟩
 .exact aax
def IP(h:eA w u a f n D)(i:Nat)(hi:i<n)(hd:0<=dv D i/\dv D i<1000000000):E 290 #[↑u,J i] w λe w'=>e= returned (J (tokH i (dv D i+1)))/\Below w.heap.size w w':=by
 have O:=h.n32;have c3:=h.c3 (i:=i) ahB;have H:=qh (D6 h i true (decide_eq_true ahB));obtain⟨d,hd1⟩:=LE (dv D i);rw[<-hd1]at c3 hd ⊢;obtain⟨Y,Zv⟩:=hd;have I:(i:Int)<32:=by omega
 have V:i<32:=by omega
 clear h hd1;go_enter func290,ntmps290;go_wp2_with fail;refine LT H.o ?_;go_wp2_with fail;refine(CK w _ _ ahB ahB ahB ahB).mono ?_;rintro en w1 ⟨rfl,b1⟩;have B1:=qh b1;clear b1 c3;exact aav
end
structure IsK(w W:World)(u a g:Nat)(f:Int)(n:Nat)(D:List Int)(s s':Ar):Prop where
 ar:aB W a g s'
 tu:eA W u a f n D
 tn:aa [a,g] w W
def IsK.below{w W H:World}{g:Nat}{n:Nat}{s s':Ar}(h:IsK w W u a g f n D s s')(k:Below W.heap.size W H):IsK w H u a g f n D s s':=
 ⟨h.ar.turns (S:=[]) (aa.of_below k) ahC ahC,h.tu.below k,h.tn.trans (aa.of_below k)⟩
def isU{w:World}{g:Nat}{n:Nat}{s:Ar}(h:aB w a g s)(k:eA w u a f n D)(Ng:u≠a)(Nh:u≠g)(x:Int)(Y:0<=x)(h1:x<9223372036854775808)(V:s.ops+1<=1000000000000):E 291 #[↑u,J x] w λe w'=>e= returned (bool (isB s.W f n x))/\aB w' a g (isA s f n x)/\aa [a,g] w w':=by
  have HI:=qh (λW=>Bz W x Y h1);have HM:=qh (λW=>zg W x Y h1);have Vh:=qh (λW=>BL W x Y h1);have K0:=qh (show IsK w w u a g f n D s s from⟨h,k,aa.refl _ _⟩);have HC:=qh (λW (h:eA W u a f n D)=>And.intro h.c0 h.c1);have Mj:u∉[a,g]:=by simp[Ng,Nh]
  obtain⟨f0,f1⟩:=k.f0;have n32:=k.n32;obtain⟨j,hj⟩:=LE (x%65536);have al:0<=j:=by omega
  have ax:j<65536:=by omega
  obtain⟨m,hm⟩:=LE (x/65536);rw[<-hj]at HI;rw[<-hm]at Vh;by_cases mT:1<=j/\j<=n
  . have H:B5 n x=true:=decide_eq_true ⟨Y,by omega,by omega⟩;obtain⟨v,O⟩:=LE (ldW s.W (f+(j-1)));have HE:Kq (isA s f n x=af s (f+(j-1))/\isB s.W f n x=decide (m<=v)):=qh ⟨by unfold isA;rw[H,<-hj];rfl,by unfold isB;rw[H,<-hj,<-hm,<-O];rfl⟩;have HL:=qh (λW (h:aB W a g s)=>aD h (f+(j-1)) V);rw[<-O]at HL;have HH:=qh (λW (h:eA W u a f n D)=>D6 h (j-1) true (decide_eq_true ahB));obtain⟨ab,ad⟩:=mT;have HU:=qh Mj;clear h k Y h1 hj hm H O Mj Ng Nh;go_enter func291,ntmps291;go_wp2_with fail;refine Op (HI.o w) λw1 b1=>?_;have I:=qh ((K0.o.below b1.o).below ((Below.refl _ w1).drew));have x1:IntKind.i64.wrap (f+(j-1))=f+(j-1):=IntWalk.i64_in _ ahB;go_wp2_with fail
    go_region_held3 (λW=>W.cell? u=some ↑a/\Z W u 1 (J f))
      (first|with_reducible exact HC.o _ I.o.tu|with_reducible exact HC.o _ K2.o.tu|with_reducible exact HC.o _ K3.o.tu|with_reducible exact HC.o _ K4.o.tu)
      (first
        | (go_at_call 296;go_loud (refine Op (HM.o _) λw2 q2=>?_);have K2:=qh (I.o.below (Qt.below q2.o _)))
        | (go_at_call 293;go_loud (refine LT (HH.o _ K2.o.tu) ?_))
        | (go_at_call 173;go_loud (refine Op (HL.o _ K2.o.ar) λw3 a3=>?_);have K3:Kq (IsK w w3 u a g f n D s (af s (f+(j-1)))):=qh ⟨a3.o.1,K2.o.tu.turns a3.o.2 HU.o,K2.o.tn.trans a3.o.2⟩)
        | (go_at_call 297;go_loud (refine Op (Vh.o _) λw4 b4=>?_);have K4:=qh (K3.o.below b4.o)))
    all_goals
      go_wp2;go_ret;refine⟨az ?_,?_,K4.o.tn⟩;. rw[HE.o.2]
      . rw[HE.o.1];exact K4.o.ar
  . have H:B5 n x=false:=decide_eq_false ahB;have HE:Kq (isA s f n x=s/\isB s.W f n x=false):=qh ⟨by unfold isA;rw[H];rfl,by unfold isB;rw[H];rfl⟩;have HH:=qh (λW (h:eA W u a f n D)=>D6 h (j-1) false (decide_eq_false ahB));clear h k Y h1 hj hm H Mj Ng Nh;go_enter func291,ntmps291;go_wp2_with fail;refine Op (HI.o w) λw1 b1=>?_;have I:=qh (K0.o.below b1.o);clear mT;go_wp2_with fail
    go_quiet ((first
        | (go_at_call 296;exact CN (HM.o _))
        | (go_at_call 293;exact bK (HH.o _ (I.o.below (Qt.below ⟨_,rfl⟩ _)).tu))))
    go_wp2;go_ret;refine⟨az ?_,?_,I.o.tn.trans (aa.of_qt ⟨_,rfl⟩)⟩;. rw[HE.o.2]
    . rw[HE.o.1];exact(I.o.below (Qt.below ⟨_,rfl⟩ _)).ar
end
section
open Go.RowKit
variable{w:World}{n g:Nat}{s:Ar}
def eA.put(h:eA w u a f n D)(v:Int):eA (w.setCell ⟨u,3+i,none⟩ (J v)) u a f n (D.set i v):=by
 refine⟨?_,by simp[h.len],h.n32,h.f0⟩;have h1:=h.blk.set_ (3+i) (J v);have e:(tuC a f n D).toArray.setIfInBounds (3+i) (J v)=(tuC a f n (D.set i v)).toArray:=by rw[List.setIfInBounds_toArray];congr 1;unfold tuC;rw[List.set_append_right _ _ ahC];simp[List.map_set]
 rw[e]at h1;exact h1
def eA.drew(h:eA w u a f n D):eA w.drew u a f n D:=h.below ((Below.refl _ _).drew)
def aB.drew(h:aB w a g s):aB w.drew a g s:=h.turns (S:=[]) ((aa.refl _ _).drew) ahC ahC
def Ia(h:aB w a g s)(k:eA w u a f n D)(Ng:u≠a)(Nh:u≠g)(i:Nat)(hi:i<n)(hd:0<=dv D i/\dv D i<1000000000)(V:s.ops+1<=1000000000000):E 292 #[↑u,J i] w λe w'=>e= returned (tuple #[])/\aB w' a g (addA s (f+i) 1)/\eA w' u a f n (D.set i (dv D i+1))/\aa [a,g,u] w w':=by
  have NL:=k.n32;obtain⟨f0,f1⟩:=k.f0;have Ul:i<32:=by omega
  have MK:(i:Int)<32:=by omega
  have c3:=k.c3 (i:=i) Ul;have z3:=k.blk.free (3+i);have SN:=k.blk.lt;have HH:=qh (D6 k i true (decide_eq_true ahB));obtain⟨d,hd1⟩:=LE (dv D i);rw[<-hd1]at c3 hd ⊢;obtain⟨Zu,Zv⟩:=hd;have Sc:aB (w.setCell ⟨u,3+i,none⟩ (J (d+1))).drew a g s:=(h.turns (S:=[u]) ((aa.refl _ _).setCell (.inl ahC) _) (by simpa using Ne.symm Ng) (by simpa using Ne.symm Nh)).drew;have O:eA (w.setCell ⟨u,3+i,none⟩ (J (d+1))).drew u a f n (D.set i (d+1)):=(k.put (i:=i) (d+1)).drew;have W4:aa [a,g,u] w (w.setCell ⟨u,3+i,none⟩ (J (d+1))).drew:=((aa.refl _ _).setCell (.inl ahC) _).drew;have H:=qh (And.intro Sc (And.intro O W4));have HU:=qh (show u∉[a,g]by simp[Ng,Nh]);clear h k hd1 Sc O W4 Ng Nh;go_enter func292,ntmps292;go_wp2_with fail;refine LT HH.o ?_;go_wp2_with fail;refine wp_region_still_tail 10 ahE ahE ?_;refine akk ?_;change wpStill _ _ (World.drew _) _ _ _;repeat still_step
  refine wpStill_nil ?_;change wpList _ _ _ _ _ (World.drew w);go_wp2_with fail;generalize hW:(w.setCell ⟨u,3+i,none⟩ (J (d+1))).drew=W at H ⊢;have s0:=H.o.2.1.c0;have s1:=H.o.2.1.c1;have x1:IntKind.i64.wrap (f+i)=f+i:=IntWalk.i64_in _ ahB;have Y:=(λgs (h:aB gs a g s)=>ir h (f+i) 1 V);obtain⟨r,I⟩:∃r:Int,r=(if inR s.W (f+i)=true then IntKind.i64.wrap (ldW s.W (f+i)+1)else 0):=⟨_,rfl⟩;rw[<-I]at Y;have HL:=qh Y;clear Y I;clear hW c3;refine wp_region_still_tail 10 ahE ahE ?_;refine akk ?_;change wpStill _ _ (World.drew _) _ _ _;repeat still_step
  refine wpStill_nil ?_;change wpList _ _ _ _ _ (World.drew W);go_wp2_with fail;refine Op (HL.o _ H.o.1.drew) λw2 h2=>?_;have H2:=qh (And.intro h2.o.1 (And.intro (H.o.2.1.drew.turns h2.o.2 HU.o) ((H.o.2.2.drew).trans (h2.o.2.mono ahC))));go_wp2;go_end0;exact⟨rfl,H2.o⟩
def JW(h:aB w a g s)(n:Nat)(h1:1<=n)(h2:n<=32)(I:(n:Int)<=(s.room:Int)-s.W.length):E 144 #[↑a,J n] w λe w'=>∃u,e= returned (tuple #[pointer (some ⟨u,0,none⟩),J 0])/\w.heap.size<=u/\aB w' a g {s with W:=s.W++List.replicate n 0}/\eA w' u a (s.W.length+1) n (List.replicate 32 0)/\aa [a] w w':=by
  have OO:=h.le;have OU:=h.room;have Y:Kq (eh s n=({s with W:=s.W++List.replicate n 0},(s.W.length:Int)+1,(0:Int))):=qh (by unfold eh;rw[if_neg ahB,if_neg ahB];simp);have H:=qh h;have e1:¬(n:Int)<1:=by omega
  have e2:¬32<(n:Int):=by omega
  clear h;go_enter func144,ntmps144;go_wp2_with fail;refine(gz H.o n).mono ?_;rintro en w1 ⟨rfl,O,t1⟩;rw[Y.o]at O ⊢;have V:=t1.size;have H1:=qh (And.intro O (And.intro t1 V));have Ks:(s.W.length:Int)<=4096:=by omega
  clear O t1 V;go_wp2;go_ret2;refine⟨w1.heap.size,rfl,H1.o.2.2,H1.o.1.turns (S:=[]) ((aa.refl _ _).alloc _) ahC ahC,⟨?_,by simp,h2,by omega,by omega⟩,(H1.o.2.1).alloc _⟩;have:=Blk.new w1 322 (tuC a (s.W.length+1) n (List.replicate 32 0)).toArray;exact this
end
section
open Go.RowKit
variable{Q:Prop}
inductive FlG:Nat->FuncId->FuncId->FuncId->Prop
 |tas:FlG 1 408 411 409
 |ticket:FlG 2 424 423 422
 |parted:FlG 3 428 434 429
 |mcs:FlG 4 439 444 440
 |clh:FlG 5 452 456 453
inductive FlF:Nat->FuncId->FuncId->FuncId->FuncId->Prop
 |parted:FlF 3 434 433 426 427
 |mcs:FlF 4 444 443 437 438
 |clh:FlF 5 456 455 450 451
def FlF.g{k:Nat}{h H I:FuncId}(K:FlF k f1 h H I):∃a b,FlG k a f1 b:=by cases K<;>exact⟨_,_,by constructor⟩
section
variable{w:World}{g:Nat}{x:Fx}{s:Ar}{S:List Sp}{k:Nat}{f2 f3 f4:FuncId}
def slC(k:Nat):Nat:=if k=2 then 0 else if k<=3 then 3 else 2
def CV(K:FlG k f1 f2 f3)(h:KIs w a g k x s S):∃c,Z w x.l c (slice (some ⟨x.q,0,none⟩) x.n x.cap)/\c=slC k:=by
 cases K;.exact⟨3,h.lk.cell 3,rfl⟩
 .exact⟨0,h.lk.cell 0,rfl⟩
 .exact⟨3,h.lk.cell 3,rfl⟩
 .exact⟨2,h.lk.cell 2,rfl⟩
 .exact⟨2,h.lk.cell 2,rfl⟩
def CW(K:FlG k f1 f2 f3)(h:KIs w a g k x s S):Calls prog f1 #[↑x.l] w λe w'=>e= returned (J x.n)/\w=w':=by
 obtain⟨c,c2,hc⟩:=CV K h;clear h;cases K
 all_goals
  simp[slC]at hc;subst hc;first|go_enter func408,ntmps408|go_enter func424,ntmps424|go_enter func428,ntmps428|go_enter func439,ntmps439|go_enter func452,ntmps452
  go_wp2;go_ret;exact⟨rfl,rfl⟩
def bI(K:FlG k f1 f2 f3)(h:KIs w a g k x s S)(i:Nat)(hi:i<x.n):Calls prog f2 #[↑x.l,J i] w λe w'=>e= returned (pointer (some ⟨x.q,i*4,none⟩))/\w=w':=by
 obtain⟨c,c2,hc⟩:=CV K h;have I:=h.n32;have t2:¬(i:Int)<0:=by omega
 have Y:¬((x.n:Nat):Int)<=(i:Int):=by omega
 have H:=qh (CW K h);clear h;cases K
 all_goals
  simp[slC]at hc;subst hc;first|go_enter func411,ntmps411|go_enter func423,ntmps423|go_enter func434,ntmps434|go_enter func444,ntmps444|go_enter func456,ntmps456
  go_wp2_with (refine H.o.mono ?_;rintro e w' ⟨rfl,rfl⟩);go_ret;exact⟨by simp,rfl⟩
def ez(K:FlG k f1 f2 f3)(h:KIs w a g k x s S)(i:Nat)(p:Sp)(hp:S[i]? =some p):Calls prog f3 #[↑x.l,J i] w λe w'=>e= returned (aF p)/\Below w.heap.size w w':=by
 refine aiU ?_;intro hi;refine ai0 ?_;intro a0 a1 a2 a3;have I:=h.sp.lt;have H:=qh (bI K (h.below ((Below.refl _ _).alloc (Nat.le_refl _) (cells #[J 0,J 0,J 0,J 0] 113))) i hi);clear h hp;cases K
 all_goals
  first|go_enter func409,ntmps409|go_enter func422,ntmps422|go_enter func429,ntmps429|go_enter func440,ntmps440|go_enter func453,ntmps453
  go_wp2_with (refine H.o.mono ?_;rintro e w' ⟨rfl,rfl⟩);exact bodyPost_ret (results_cell_row ahF _ _ w.heap.size 113 _ (0,0) _ ahF (heap_alloc_new w _) Tryz.underlying113 rfl ahE) rfl ⟨rfl,(Below.refl _ _).alloc (Nat.le_refl _) _⟩
def r9(K:FlF k f1 f2 f3 f4)(h:KIs w a g k x s S)(i:Nat)(p:Sp)(hp:S[i]? =some p)(I Kn:Int):Calls prog f2 #[↑x.l,J i,J I,J Kn] w λe w'=>e= returned (bool (decide (p.pc=I)))/\KIs w' a g k x s (if p.pc=I then S.set i {p with pc:=Kn} else S)/\aa [x.q] w w':=by
 refine aiU ?_;intro hi;refine akg ?_;intro a0;have f0:=h.sp.free (i*4);obtain⟨_,_,Y⟩:=K.g;have V:=qh (bI Y h i hi);have H:=qh h;have O:=qh hp;clear h hp Y;cases K
 all_goals
  cases hc:(p.pc !=I)
  .have e:p.pc=I:=(by simpa using hc);first|go_enter func433,ntmps433|go_enter func443,ntmps443|go_enter func455,ntmps455
   go_wp2_with (refine V.o.mono ?_;rintro e w' ⟨rfl,rfl⟩);go_ret;exact⟨by first|rfl|(rw[decide_eq_true e];rfl),by first|exact H.o.put0 O.o rfl|(rw[if_pos e];exact H.o.put0 O.o rfl),aW _ _ _⟩
  .have e:¬p.pc=I:=(by simpa using hc);first|go_enter func433,ntmps433|go_enter func443,ntmps443|go_enter func455,ntmps455
   go_wp2_with (refine V.o.mono ?_;rintro e w' ⟨rfl,rfl⟩);go_ret;exact⟨by first|rfl|(rw[decide_eq_false e];rfl),by first|exact H.o|(rw[if_neg e];exact H.o),aa.refl _ _⟩
def nJ(h:Q:=by
    refine⟨rfl,?_,HK.o.2⟩
    have k1:=HK.o.1
    first
      | unfold askK
      | unfold ba
    split
    . rename_i e
      rw[if_pos e]at k1
      exact k1
    . rename_i e
      rw[if_neg e]at k1
      rw[cj HP.o]
      exact k1):Q:=h
def uW(K:FlF k f1 f2 f3 f4)(h:KIs w a g k x s S)(i:Nat)(p:Sp)(H:S[i]? =some p):Calls prog f3 #[↑x.l,J i] w λe w'=>e= returned (bool (decide (p.pc=0)))/\KIs w' a g k x s (S.set i (askK k p))/\aa [x.q] w w':=by
 have I:=qh (r9 K h i p H 0 1);have HP:=qh H;clear h H;cases K
 all_goals
  first|go_enter func426,ntmps426|go_enter func437,ntmps437|go_enter func450,ntmps450
  go_wp2_with (refine I.o.mono ?_;rintro e w' ⟨rfl,k1,t1⟩;have HK:=qh (And.intro k1 t1);clear k1 t1);go_ret;exact nJ
def oU(K:FlF k f1 f2 f3 f4)(h:KIs w a g k x s S)(i:Nat)(p:Sp)(H:S[i]? =some p):Calls prog f4 #[↑x.l,J i] w λe w'=>e= returned (bool (decide (p.pc=10)))/\KIs w' a g k x s (S.set i (ba p))/\aa [x.q] w w':=by
 have I:=qh (r9 K h i p H 10 11);have HP:=qh H;clear h H;cases K
 all_goals
  first|go_enter func427,ntmps427|go_enter func438,ntmps438|go_enter func451,ntmps451
  go_wp2_with (refine I.o.mono ?_;rintro e w' ⟨rfl,k1,t1⟩;have HK:=qh (And.intro k1 t1);clear k1 t1);go_ret;exact nJ
def Ds(h:KIs w a g 1 x s S)(i:Nat)(p:Sp)(hp:S[i]? =some p):E 406 #[↑x.l,J i] w λe w'=>e= returned (bool (decide (p.pc=0)))/\KIs w' a g 1 x s (S.set i (askK 1 p))/\aa [x.q] w w':=by
 refine aiU ?_;intro hi;refine akg ?_;intro a0;have a1:=h.sp.cell hp 1 _ rfl;have f0:=h.sp.free (i*4);have f1:=h.sp.free (i*4+1);have H:=qh h;have I:=qh hp;clear h hp;cases hc:(p.pc !=0)
 .have e:p.pc=0:=by simpa using hc
  go_enter func406,ntmps406;go_wp2_with (go_at_call 411;refine(bI .tas H.o i hi).mono ?_;rintro e w' ⟨rfl,rfl⟩);go_ret;have O:=(H.o.put0 I.o (p':={p with pc:=1}) rfl).put (au I.o _) (j:=1) (p':={p with pc:=1,a:=1}) ahD rfl;try rw[ed]at O
  refine⟨by first|rfl|(rw[decide_eq_true e];rfl),?_,(aW _ _ _).trans (aW _ _ _)⟩;unfold askK;rw[if_pos e];exact O
 .have e:¬p.pc=0:=by simpa using hc
  go_enter func406,ntmps406;go_wp2_with (go_at_call 411;refine(bI .tas H.o i hi).mono ?_;rintro e w' ⟨rfl,rfl⟩);go_ret;refine⟨by first|rfl|(rw[decide_eq_false e];rfl),?_,aa.refl _ _⟩;unfold askK;rw[if_neg e,cj I.o];exact H.o
def yX(h:KIs w a g 1 x s S)(i:Nat)(p:Sp)(hp:S[i]? =some p):E 407 #[↑x.l,J i] w λe w'=>e= returned (bool (decide (p.pc=10)))/\KIs w' a g 1 x s (S.set i (ba p))/\aa [x.q] w w':=by
 refine aiU ?_;intro hi;refine akg ?_;intro a0;have a1:=h.sp.cell hp 1 _ rfl;have f0:=h.sp.free (i*4);have f1:=h.sp.free (i*4+1);have H:=qh h;have I:=qh hp;clear h hp;cases hc:(p.pc !=10)
 .have e:p.pc=10:=by simpa using hc
  go_enter func407,ntmps407;go_wp2_with (go_at_call 411;refine(bI .tas H.o i hi).mono ?_;rintro e w' ⟨rfl,rfl⟩);go_ret;have O:=H.o.put0 I.o (p':={p with pc:=11}) rfl;try rw[ed]at O
  refine⟨by first|rfl|(rw[decide_eq_true e];rfl),?_,aW _ _ _⟩;unfold ba;rw[if_pos e];exact O
 .have e:¬p.pc=10:=by simpa using hc
  go_enter func407,ntmps407;go_wp2_with (go_at_call 411;refine(bI .tas H.o i hi).mono ?_;rintro e w' ⟨rfl,rfl⟩);go_ret;refine⟨by first|rfl|(rw[decide_eq_false e];rfl),?_,aa.refl _ _⟩;unfold ba;rw[if_neg e,cj I.o];exact H.o
def qd(h:KIs w a g 2 x s S)(i:Nat)(p:Sp)(hp:S[i]? =some p)(pc:Int):E 420 #[↑x.l,J i,J pc] w λe w'=>e= returned (.pointer (if p.pc=pc then some ⟨x.q,i*4,none⟩else none))/\w=w':=by
 refine aiU ?_;intro hi;refine akg ?_;intro a0;have H:=qh h;clear h hp;cases hc:(p.pc !=pc)
 .have e:p.pc=pc:=by simpa using hc
  go_enter func420,ntmps420;go_wp2_with (go_at_call 423;refine(bI .ticket H.o i hi).mono ?_;rintro e w' ⟨rfl,rfl⟩);go_ret;exact⟨by first|rfl|(rw[if_pos e];rfl),rfl⟩
 .have e:¬p.pc=pc:=by simpa using hc
  go_enter func420,ntmps420;go_wp2_with (go_at_call 423;refine(bI .ticket H.o i hi).mono ?_;rintro e w' ⟨rfl,rfl⟩);go_ret;exact⟨by first|rfl|(rw[if_neg e];rfl),rfl⟩
def kq(h:KIs w a g 2 x s S)(i:Nat)(p:Sp)(hp:S[i]? =some p)(I V:Int):E 421 #[↑x.l,J i,J I,J V] w λe w'=>e= returned (bool (decide (p.pc=I)))/\KIs w' a g 2 x s (if p.pc=I then S.set i {p with pc:=V} else S)/\aa [x.q] w w':=by
 have f0:=h.sp.free (i*4);refine akg ?_;intro a0;have O:=qh (qd h i p hp I);have H:=qh h;have Y:=qh hp;clear h hp;by_cases e:p.pc=I;.rw[if_pos e]at O;rw[decide_eq_true e,if_pos e];clear e;go_enter func421,ntmps421;go_wp2_with (go_at_call 420;refine O.o.mono ?_;rintro e w' ⟨rfl,rfl⟩);go_ret;exact⟨rfl,H.o.put0 Y.o rfl,aW _ _ _⟩
 .rw[if_neg e]at O;rw[decide_eq_false e,if_neg e];clear e;go_enter func421,ntmps421;go_wp2_with (go_at_call 420;refine O.o.mono ?_;rintro e w' ⟨rfl,rfl⟩);go_ret;exact aaJ
def eD(w:World)(l:Nat):E 419 #[↑l] w λe w'=>e= .returned ↑l/\w=w':=by go_enter func419,ntmps419;exact aaa
def uX(h:KIs w a g 2 x s S)(i:Nat)(p:Sp)(H:S[i]? =some p):E 414 #[↑x.l,J i] w λe w'=>e= returned (bool (decide (p.pc=0)))/\KIs w' a g 2 x s (S.set i (askK 2 p))/\aa [x.q] w w':=by have HT:=qh (kq h i p H 0 1);have HP:=qh H;clear h H;go_enter func414,ntmps414;exact aaK
def rm(h:KIs w a g 2 x s S)(i:Nat)(p:Sp)(H:S[i]? =some p):E 415 #[↑x.l,J i] w λe w'=>e= returned (bool (decide (p.pc=10)))/\KIs w' a g 2 x s (S.set i (ba p))/\aa [x.q] w w':=by have HT:=qh (kq h i p H 10 11);have HP:=qh H;clear h H;go_enter func415,ntmps415;exact aaK
def C9(h:Q:=by
    rintro e w' ⟨rfl,k,t⟩
    rw[if_pos rfl,ed]at k
    exact⟨by rw[decide_eq_true rfl],k,t⟩):Q:=h
def kp(K:FlF k f1 f2 f3 f4)(i:Nat)(p0 p:Sp)(I:S[i]? =some p0)(h:KIs w a g k x s (S.set i p))(H:Int):Calls prog f2 #[↑x.l,J i,J p.pc,J H] w λe w'=>e= returned (bool true)/\KIs w' a g k x s (S.set i {p with pc:=H})/\aa [x.q] w w':=by refine(r9 K h i p (au I p) p.pc H).mono ?_;exact C9
def jz(i:Nat)(p0 p:Sp)(I:S[i]? =some p0)(h:KIs w a g 2 x s (S.set i p))(H:Int):E 421 #[↑x.l,J i,J p.pc,J H] w λe w'=>e= returned (bool true)/\KIs w' a g 2 x s (S.set i {p with pc:=H})/\aa [x.q] w w':=by refine(kq h i p (au I p) p.pc H).mono ?_;exact C9
end
end
section
open Go.RowKit
section
variable{w:World}{g k:Nat}{x:Fx}{s:Ar}{S:List Sp}
def dG(w:World)(a g k:Nat)(x:Fx)(s:Ar)(S:List Sp)(i:Nat)(p:Sp)(e:Ending)(w':World):Prop:=
 e= returned (bool (bv p (bN k x.t x.m s i p).2))/\KIs w' a g k x (bN k x.t x.m s i p).1 (S.set i (bN k x.t x.m s i p).2)/\aa [a,g,x.q] w w'
def pV(w:World)(a g k:Nat)(x:Fx)(s:Ar)(S:List Sp)(i:Nat)(p:Sp)(e:Ending)(w':World):Prop:=
 e= returned (bool (cD k x.t s i p).2)/\KIs w' a g k x (cD k x.t s i p).1 S/\aa [a,g,x.q] w w'
def aM{q:Nat}(h:aa [a,g] w w'):aa [a,g,q] w w':=h.mono ahC
def aJ{q:Nat}(h:aa [q] w w'):aa [a,g,q] w w':=h.mono ahC
def KIs.ti(h:KIs w a g 2 x s S):Z w x.l 1 ↑a/\Z w x.l 2 (J x.t):=⟨h.lk.cell 1,h.lk.cell 2⟩
def wS(h:KIs w a g 2 x s S)(i:Nat)(u b z:Int)(hp:S[i]? =some (⟨1,u,b,z⟩:Sp))(V:s.ops+1<=1000000000000)(hw:inR s.W x.t=true)(KI:0<=ldW s.W x.t)(Qj:ldW s.W x.t<=10000000000000):E 418 #[↑x.l,J i] w (dG w a g 2 x s S i ⟨1,u,b,z⟩):=by
  refine aiU ?_;intro hi;refine akg ?_;intro a0;obtain⟨ab,mb⟩:=LE (addA s x.t 1);obtain⟨v,O⟩:=LE (ldW s.W x.t);have HX:Kq (bN 2 x.t x.m s i ⟨1,u,b,z⟩=(ab,⟨2,v,b,z⟩)):=qh ahN;have I:=(λW (k:KIs W a g 2 x s S)=>ir k.ar x.t 1 V);rw[if_pos hw,<-mb,<-O]at I;rw[<-O]at KI Qj;have e1:IntKind.i64.wrap (v+1)=v+1:=IntWalk.i64_in _ ahB;have e2:IntKind.i64.wrap v=v:=IntWalk.i64_in _ ahB;rw[e1]at I;have HO:=qh I;refine ajK ?_;intro HP K0 K1;clear I h hp mb O e1;go_enter func418,ntmps418;go_wp2_with (go_at_call 419;refine(eD _ _).mono ?_;rintro e w' ⟨rfl,rfl⟩);go_wp2_with (go_at_call 423;refine(bI .ticket K0.o i hi).mono ?_;rintro e w' ⟨rfl,rfl⟩)
  go_region_held3 (λW=>Z W x.l 1 ↑a/\Z W x.l 2 (J x.t))
    (first|with_reducible exact K1.o.ti|with_reducible exact H.o.ti|with_reducible exact K3.o.ti)
    (first
      | (go_at_call 298;go_loud (refine Op (HO.o _ K1.o) λw3 Y=>?_);have H:=qh (K1.o.op Y.o.2 Y.o.1);have T2:=qh (((aa.refl [a,g,x.q] w).drew).trans (aM Y.o.2));have K3:=qh (H.o.put (p':=(⟨1,v,b,z⟩:Sp)) HP.o (j:=1) (u:= J v) ahD rfl);have e4:=H.o.sp.cell HP.o 1 _ rfl;have z1:=H.o.sp.free (i*4+1)))
  all_goals have HT:=qh (jz i _ _ HP.o K3.o 2);go_wp2_with (go_at_call 421;refine HT.o.mono ?_;rintro e w' ⟨rfl,k4,t4⟩;have K4:=qh (And.intro k4 t4);clear k4 t4);go_ret;rw[dG,HX.o];exact⟨rfl,K4.o.1,(T2.o.trans (aJ (aW _ _ _))).trans (aJ K4.o.2)⟩
def wT(h:KIs w a g 2 x s S)(i:Nat)(u b z:Int)(hp:S[i]? =some (⟨2,u,b,z⟩:Sp))(V:s.ops+1<=1000000000000):E 418 #[↑x.l,J i] w (dG w a g 2 x s S i ⟨2,u,b,z⟩):=by
  refine aiU ?_;intro hi;refine akg ?_;intro a0;have t1:=h.t1;obtain⟨ab,mb⟩:=LE (af s ((x.t:Int)+1));obtain⟨v,O⟩:=LE (ldW s.W ((x.t:Int)+1));have HX:Kq (bN 2 x.t x.m s i ⟨2,u,b,z⟩=(ab,⟨if v=u then 10 else 2,u,b,z⟩)):=qh ahN;have i':=(λW (k:KIs W a g 2 x s S)=>aD k.ar ((x.t:Int)+1) V);rw[<-mb,<-O]at i';have e1:IntKind.i64.wrap ((x.t:Int)+1)=(x.t:Int)+1:=IntWalk.i64_in _ ahB;refine ai6 ?_;intro HO HC;refine ajK ?_;intro HP K0 K1;clear i' h hp mb O;cases hc:(v==u)
  . go_enter func418,ntmps418;go_wp2_with (go_at_call 419;refine(eD _ _).mono ?_;rintro e w' ⟨rfl,rfl⟩);go_wp2_with (go_at_call 423;refine(bI .ticket K0.o i hi).mono ?_;rintro e w' ⟨rfl,rfl⟩);refine wp_region_held_drew (S:=(λW=>Z W x.l 1 ↑a/\Z W x.l 2 (J x.t)/\Z W x.q (i*4+1) (J u))) ahE (by exact HC.o _ _ _ _ K1.o HP.o) (λhHeld=>?_);refine aja ?_;refine aka ?_;refine wpAnyH_ready (rs:=[9]) ahE ahC ?_;refine AllReadyH.cons rfl (λK hK=>?_) AllReadyH.nil;go_simp;go_at_call 173;refine Op (HO.o _ K1.o) λw3 H=>?_;have Y:=qh (K1.o.op H.o.2 H.o.1);have T2:=qh (((aa.refl [a,g,x.q] w).drew).trans (aM H.o.2));refine hK.out _ _ ?_ (λhHeld=>?_);. exact HC.o _ _ _ _ Y.o HP.o
    clear hK K;try simp only[Act.put,List.setIfInBounds_toArray,List.set_cons_zero,List.set_cons_succ,List.getElem_toArray,List.getElem_cons_zero,List.getElem_cons_succ]
    refine tk 14 ?_;refine tk 15 ?_;refine tk 16 ?_;refine tk 17 ?_;refine tk 18 ?_;refine tk 19 ?_;refine tk 20 ?_;refine tk 21 ?_;refine tk 22 ?_;refine wpAnyH_done ahE ?_ _;go_wp2;go_ret;rw[dG,HX.o];rw[if_neg ahI,cj HP.o];exact⟨rfl,Y.o,T2.o⟩
  . go_enter func418,ntmps418;go_wp2_with (go_at_call 419;refine(eD _ _).mono ?_;rintro e w' ⟨rfl,rfl⟩);go_wp2_with (go_at_call 423;refine(bI .ticket K0.o i hi).mono ?_;rintro e w' ⟨rfl,rfl⟩);first
    | (go_region_held3 (λW=>Z W x.l 1 ↑a/\Z W x.l 2 (J x.t)/\Z W x.q (i*4+1) (J u))
        (first|with_reducible exact HC.o _ _ _ _ K1.o HP.o|with_reducible exact HC.o _ _ _ _ Y.o HP.o|with_reducible exact HC.o _ _ _ _ K4.o.1 (au HP.o _))
        (first
          | (go_at_call 173;go_loud (refine Op (HO.o _ K1.o) λw3 H=>?_);have Y:=qh (K1.o.op H.o.2 H.o.1);have T2:=qh (((aa.refl [a,g,x.q] w).drew).trans (aM H.o.2));have HT:=qh (jz i _ _ HP.o (by rw[cj HP.o];exact Y.o) 10))
          | (go_at_call 421;go_loud (refine Op HT.o λw4 K4=>?_))))
    | fail "held"
    all_goals go_wp2;go_ret;rw[dG,HX.o];rw[if_pos ahI];exact⟨rfl,K4.o.1,T2.o.trans (aJ K4.o.2)⟩
def uG(h:KIs w a g 2 x s S)(i:Nat)(u b z:Int)(hp:S[i]? =some (⟨11,u,b,z⟩:Sp))(V:s.ops+1<=1000000000000)(UL:-10<=u)(Qi:u<=10000000000000):E 418 #[↑x.l,J i] w (dG w a g 2 x s S i ⟨11,u,b,z⟩):=by
  refine aiU ?_;intro hi;refine akg ?_;intro a0;have t1:=h.t1;obtain⟨I,mb⟩:=LE (ae s ((x.t:Int)+1) (u+1));have HX:Kq (bN 2 x.t x.m s i ⟨11,u,b,z⟩=(I,⟨0,u,b,z⟩)):=qh ahV;have i':=(λW (k:KIs W a g 2 x s S)=>an k.ar ((x.t:Int)+1) (u+1) V);rw[<-mb]at i';have e1:IntKind.i64.wrap ((x.t:Int)+1)=(x.t:Int)+1:=IntWalk.i64_in _ ahB;have e2:IntKind.i64.wrap (u+1)=u+1:=IntWalk.i64_in _ ahB;refine ai6 ?_;intro HO HC;refine ajK ?_;intro HP K0 K1;clear i' h hp mb;go_enter func418,ntmps418;go_wp2_with (go_at_call 419;refine(eD _ _).mono ?_;rintro e w' ⟨rfl,rfl⟩);go_wp2_with (go_at_call 423;refine(bI .ticket K0.o i hi).mono ?_;rintro e w' ⟨rfl,rfl⟩)
  go_region_held3 (λW=>Z W x.l 1 ↑a/\Z W x.l 2 (J x.t)/\Z W x.q (i*4+1) (J u))
    (first|with_reducible exact HC.o _ _ _ _ K1.o HP.o|with_reducible exact HC.o _ _ _ _ O.o HP.o)
    (first
      | (go_at_call 177;go_loud (refine Op (HO.o _ K1.o) λw3 H=>?_);have O:=qh (K1.o.op H.o.2 H.o.1);have T2:=qh (((aa.refl [a,g,x.q] w).drew).trans (aM H.o.2))))
  all_goals have HT:=qh (jz i _ _ HP.o (by rw[cj HP.o];exact O.o) 0);go_wp2_with (go_at_call 421;refine HT.o.mono ?_;rintro e w' ⟨rfl,k4,t4⟩;have Y:=qh (And.intro k4 t4);clear k4 t4);go_ret;rw[dG,HX.o];exact⟨rfl,Y.o.1,T2.o.trans (aJ Y.o.2)⟩
def pG(h:KIs w a g 2 x s S)(i:Nat)(p:Sp)(hp:S[i]? =some p)(I:p.pc=0\/p.pc=10):E 418 #[↑x.l,J i] w (dG w a g 2 x s S i p):=by
  refine aiU ?_;intro hi;obtain⟨c,u,b,z⟩:=p;refine akg ?_;intro a0;have O:=qh hp;have H:=qh h;clear h hp;simp only at I;rcases I with rfl|rfl
  all_goals go_enter func418,ntmps418;go_wp2_with (go_at_call 419;refine(eD _ _).mono ?_;rintro e w' ⟨rfl,rfl⟩);go_wp2_with (go_at_call 423;refine(bI .ticket H.o i hi).mono ?_;rintro e w' ⟨rfl,rfl⟩);go_ret;refine⟨rfl,?_,aa.refl _ _⟩;have k:=H.o;rw[<-cj O.o]at k;exact k
def uV(h:KIs w a g 2 x s S)(i:Nat)(p:Sp)(hp:S[i]? =some p)(Ki:p.pc=10)(V:s.ops+1<=1000000000000)(UL:-10<=p.a)(Qi:p.a<=10000000000000):E 413 #[↑x.l,J i] w (pV w a g 2 x s S i p):=by
  obtain⟨c,u,b,z⟩:=p;simp only at UL Qi Ki;subst Ki;obtain⟨Y,mb⟩:=LE (af s x.t);obtain⟨v,O⟩:=LE (ldW s.W x.t);have HX:Kq (cD 2 x.t s i ⟨10,u,b,z⟩=(Y,decide (v=u+1))):=qh ahN;have i':=(λW (k:KIs W a g 2 x s S)=>aD k.ar x.t V);rw[<-mb,<-O]at i';have e2:IntKind.i64.wrap (u+1)=u+1:=IntWalk.i64_in _ ahB;refine ai6 ?_;intro HO HC;have HA:=qh (qd h i _ hp 10);refine ajK ?_;intro HP K0 K1;clear i' h hp mb O;rw[show(⟨10,u,b,z⟩:Sp).pc=10 from rfl,if_pos rfl]at HA;cases hd:(v==u+1)
  all_goals
    go_enter func413,ntmps413;go_wp2_with (go_at_call 419;refine(eD _ _).mono ?_;rintro e w' ⟨rfl,rfl⟩);go_wp2_with (go_at_call 420;refine HA.o.mono ?_;rintro e w' ⟨rfl,rfl⟩)
    go_region_held3 (λW=>Z W x.l 1 ↑a/\Z W x.l 2 (J x.t)/\Z W x.q (i*4+1) (J u))
      (first|with_reducible exact HC.o _ _ _ _ K1.o HP.o|with_reducible exact HC.o _ _ _ _ H.o HP.o)
      (first
        | (go_at_call 173;go_loud (refine Op (HO.o _ K1.o) λw3 I=>?_);have H:=qh (K1.o.op I.o.2 I.o.1);have T2:=qh (((aa.refl [a,g,x.q] w).drew).trans (aM I.o.2))))
  all_goals go_wp2;go_ret;rw[pV,HX.o];first| exact⟨by rw[decide_eq_true ahR];rfl,H.o,T2.o⟩| exact⟨by rw[decide_eq_false ahR];rfl,H.o,T2.o⟩
end
end
section
open Go.RowKit
section
variable{w:World}{g k:Nat}{x:Fx}{s:Ar}{S:List Sp}
def KIs.mi(h:KIs w a g 4 x s S):w.cell? x.l=some ↑a/\Z w x.l 1 (J x.t):=⟨h.lk.cell 0,h.lk.cell 1⟩
def KIs.samS{p:Sp}(h:KIs w a g k x s S)(H:S[i]? =some p):KIs w a g k x s (S.set i p):=by rw[cj H];exact h
def jU(h:KIs w a g 4 x s S)(y:Int)(H:-10<=y/\y<=10000000000000):E 442 #[↑x.l,J y] w λe w'=>e= returned (J (mNx x.t y))/\w=w':=by have c1:=h.mi.2;have t1:=h.t1;have I:IntKind.i64.wrap (2*y)=2*y:=IntWalk.i64_in _ ahB;have O:IntKind.i64.wrap ((x.t:Int)+2*y)=(x.t:Int)+2*y:=IntWalk.i64_in _ ahB;have V:IntKind.i64.wrap ((x.t:Int)+2*y-1)=(x.t:Int)+2*y-1:=IntWalk.i64_in _ ahB;clear h;go_enter func442,ntmps442;exact aaa
def pS(h:KIs w a g 4 x s S)(y:Int)(H:-10<=y/\y<=10000000000000):E 448 #[↑x.l,J y] w λe w'=>e= returned (J (mWt x.t y))/\w=w':=by have c1:=h.mi.2;have t1:=h.t1;have I:IntKind.i64.wrap (2*y)=2*y:=IntWalk.i64_in _ ahB;have O:IntKind.i64.wrap ((x.t:Int)+2*y)=(x.t:Int)+2*y:=IntWalk.i64_in _ ahB;clear h;go_enter func448,ntmps448;exact aaa
def mg(w:World)(a g:Nat)(x:Fx)(S:List Sp)(i:Nat)(p:Sp)(r:Ar×Sp)(e:Ending)(w':World):Prop:=
 e= returned (J r.2.pc)/\KIs w' a g 4 x r.1 (S.set i {r.2 with pc:=p.pc})/\aa [a,g,x.q] w w'
def It(h:KIs w a g 4 x s S)(i:Nat)(hin:i<x.n)(u b z:Int)(hp:S[i]? =some (⟨1,u,b,z⟩:Sp))(V:s.ops+1<=1000000000000):E 446 #[↑x.l,pointer (some ⟨x.q,i*4,none⟩),J ((i:Int)+1)] w (mg w a g x S i (⟨1,u,b,z⟩:Sp) (eQ x.t s ((i:Int)+1) (⟨1,u,b,z⟩:Sp))):=by
  refine ajY ?_;intro hn e0;obtain⟨O,mb⟩:=LE (ae s (mNx x.t ((i:Int)+1)) 0);have HX:Kq (eQ x.t s ((i:Int)+1) (⟨1,u,b,z⟩:Sp)=(O,⟨2,u,b,z⟩)):=qh ahV;have HF:=qh (λW (k:KIs W a g 4 x s S)=>jU k ((i:Int)+1) ahB);have I:=(λW (k:KIs W a g 4 x s S)=>an k.ar (mNx x.t ((i:Int)+1)) 0 V);rw[<-mb]at I;have HO:=qh I;have Y:=qh (λW s (S:List Sp) (k:KIs W a g 4 x s S) (hp:S[i]? =some (⟨1,u,b,z⟩:Sp))=>k.mi.1);refine ai4 ?_;intro HP HL K1;clear I h hp mb;go_enter func446,ntmps446;go_wp2_with fail
  go_region_held3 (λW=>W.cell? x.l=some ↑a)
    (first|with_reducible exact Y.o _ _ _ K1.o HP.o|with_reducible exact Y.o _ _ _ K2.o HP.o)
    (first
      | (go_at_call 442;go_loud (refine LT (HF.o _ K1.o) ?_))
      | (go_at_call 177;go_loud (refine Op (HO.o _ K1.o) λw3 H=>?_);have K2:=qh (K1.o.op H.o.2 H.o.1);have T2:=qh (((aa.refl [a,g,x.q] w).drew).trans (aM H.o.2))))
  all_goals go_wp2;go_ret;rw[HX.o];exact⟨rfl,K2.o.samS HP.o,T2.o⟩
def Iu(h:KIs w a g 4 x s S)(i:Nat)(hin:i<x.n)(u b z:Int)(hp:S[i]? =some (⟨2,u,b,z⟩:Sp))(V:s.ops+1<=1000000000000):E 446 #[↑x.l,pointer (some ⟨x.q,i*4,none⟩),J ((i:Int)+1)] w (mg w a g x S i (⟨2,u,b,z⟩:Sp) (eQ x.t s ((i:Int)+1) (⟨2,u,b,z⟩:Sp))):=by
  refine ajY ?_;intro hn e0;obtain⟨O,mb⟩:=LE (ae s (mWt x.t ((i:Int)+1)) 1);have HX:Kq (eQ x.t s ((i:Int)+1) (⟨2,u,b,z⟩:Sp)=(O,⟨3,u,b,z⟩)):=qh ahV;have HF:=qh (λW (k:KIs W a g 4 x s S)=>pS k ((i:Int)+1) ahB);have I:=(λW (k:KIs W a g 4 x s S)=>an k.ar (mWt x.t ((i:Int)+1)) 1 V);rw[<-mb]at I;have HO:=qh I;have Y:=qh (λW s (S:List Sp) (k:KIs W a g 4 x s S) (hp:S[i]? =some (⟨2,u,b,z⟩:Sp))=>k.mi.1);refine ai4 ?_;intro HP HL K1;clear I h hp mb;go_enter func446,ntmps446;go_wp2_with fail
  go_region_held3 (λW=>W.cell? x.l=some ↑a)
    (first|with_reducible exact Y.o _ _ _ K1.o HP.o|with_reducible exact Y.o _ _ _ K2.o HP.o)
    (first
      | (go_at_call 448;go_loud (refine LT (HF.o _ K1.o) ?_))
      | (go_at_call 177;go_loud (refine Op (HO.o _ K1.o) λw3 H=>?_);have K2:=qh (K1.o.op H.o.2 H.o.1);have T2:=qh (((aa.refl [a,g,x.q] w).drew).trans (aM H.o.2))))
  all_goals go_wp2;go_ret;rw[HX.o];exact⟨rfl,K2.o.samS HP.o,T2.o⟩
def Iw(h:KIs w a g 4 x s S)(i:Nat)(hin:i<x.n)(u b z:Int)(hp:S[i]? =some (⟨4,u,b,z⟩:Sp))(V:s.ops+1<=1000000000000)(hu:-10<=u/\u<=10000000000000):E 446 #[↑x.l,pointer (some ⟨x.q,i*4,none⟩),J ((i:Int)+1)] w (mg w a g x S i (⟨4,u,b,z⟩:Sp) (eQ x.t s ((i:Int)+1) (⟨4,u,b,z⟩:Sp))):=by
  refine ajY ?_;intro hn e0;obtain⟨O,mb⟩:=LE (ae s (mNx x.t u) ((i:Int)+1));have HX:Kq (eQ x.t s ((i:Int)+1) (⟨4,u,b,z⟩:Sp)=(O,⟨5,u,b,z⟩)):=qh ahV;have HF:=qh (λW (k:KIs W a g 4 x s S)=>jU k u (by exact hu));have I:=(λW (k:KIs W a g 4 x s S)=>an k.ar (mNx x.t u) ((i:Int)+1) V);rw[<-mb]at I;have HO:=qh I;have Y:=qh (λW s (S:List Sp) (k:KIs W a g 4 x s S) (hp:S[i]? =some (⟨4,u,b,z⟩:Sp))=>(And.intro k.mi.1 (k.sp.cell hp 1 _ rfl)));refine ai4 ?_;intro HP HL K1;clear I h hp mb;go_enter func446,ntmps446;go_wp2_with fail
  go_region_held3 (λW=>W.cell? x.l=some ↑a/\Z W x.q (i*4+1) (J u))
    (first|with_reducible exact Y.o _ _ _ K1.o HP.o|with_reducible exact Y.o _ _ _ K2.o HP.o)
    (first
      | (go_at_call 442;go_loud (refine LT (HF.o _ K1.o) ?_))
      | (go_at_call 177;go_loud (refine Op (HO.o _ K1.o) λw3 H=>?_);have K2:=qh (K1.o.op H.o.2 H.o.1);have T2:=qh (((aa.refl [a,g,x.q] w).drew).trans (aM H.o.2))))
  all_goals go_wp2;go_ret;rw[HX.o];exact⟨rfl,K2.o.samS HP.o,T2.o⟩
def Iv(h:KIs w a g 4 x s S)(i:Nat)(hin:i<x.n)(u b z:Int)(hp:S[i]? =some (⟨3,u,b,z⟩:Sp))(V:s.ops+1<=1000000000000):E 446 #[↑x.l,pointer (some ⟨x.q,i*4,none⟩),J ((i:Int)+1)] w (mg w a g x S i (⟨3,u,b,z⟩:Sp) (eQ x.t s ((i:Int)+1) (⟨3,u,b,z⟩:Sp))):=by
  refine ajY ?_;intro hn e0;obtain⟨ab,mb⟩:=LE (cr s (x.t:Int) ((i:Int)+1));obtain⟨v,O⟩:=LE (ldW s.W (x.t:Int));have HX:Kq (eQ x.t s ((i:Int)+1) (⟨3,u,b,z⟩:Sp)=(ab,(⟨if v=0 then 10 else 4,v,b,z⟩:Sp))):=qh ahN;have i':=(λW (k:KIs W a g 4 x s S)=>fD k.ar (x.t:Int) ((i:Int)+1) V);rw[<-mb,<-O]at i';have HO:=qh i';have I:=qh (λW s (S:List Sp) (y:Int) (k:KIs W a g 4 x s S) (hp:S[i]? =some (⟨3,y,b,z⟩:Sp))=>(And.intro k.mi.1 k.mi.2));refine ai4 ?_;intro HP HL K1;clear i' h hp mb O;cases hc:(v==0)
  all_goals
    go_enter func446,ntmps446;go_wp2_with fail
    go_region_held3 (λW=>W.cell? x.l=some ↑a/\Z W x.l 1 (J x.t))
      (first|with_reducible exact I.o _ _ _ _ K1.o HP.o|with_reducible exact I.o _ _ _ _ H.o HP.o|with_reducible exact Lf.o)
      (first
        | (go_at_call 271;go_loud (refine Op (HO.o _ K1.o) λw3 a3=>?_);have H:=qh (K1.o.op a3.o.2 a3.o.1);have T2:=qh (((aa.refl [a,g,x.q] w).drew).trans (aM a3.o.2));have Y:=qh (H.o.put (p':=(⟨3,v,b,z⟩:Sp)) HP.o (j:=1) (u:= J v) ahD rfl);have Lf:=qh (I.o _ _ _ v Y.o (au HP.o _));have e1:=H.o.sp.cell HP.o 1 _ rfl;have z1:=H.o.sp.free (i*4+1)))
  all_goals go_wp2;go_ret;rw[HX.o];first| (rw[if_pos ahI];exact⟨rfl,Y.o,T2.o.trans (aJ (aW _ _ _))⟩)| (rw[if_neg ahI];exact⟨rfl,Y.o,T2.o.trans (aJ (aW _ _ _))⟩)
def Ix(h:KIs w a g 4 x s S)(i:Nat)(hin:i<x.n)(u b z:Int)(hp:S[i]? =some (⟨5,u,b,z⟩:Sp))(V:s.ops+1<=1000000000000):E 446 #[↑x.l,pointer (some ⟨x.q,i*4,none⟩),J ((i:Int)+1)] w (mg w a g x S i (⟨5,u,b,z⟩:Sp) (eQ x.t s ((i:Int)+1) (⟨5,u,b,z⟩:Sp))):=by
  refine ajY ?_;intro hn e0;obtain⟨ab,mb⟩:=LE (af s (mWt x.t ((i:Int)+1)));obtain⟨v,O⟩:=LE (ldW s.W (mWt x.t ((i:Int)+1)));have HX:Kq (eQ x.t s ((i:Int)+1) (⟨5,u,b,z⟩:Sp)=(ab,(⟨if v=0 then 10 else 5,u,b,z⟩:Sp))):=qh ahN;have HF:=qh (λW (k:KIs W a g 4 x s S)=>pS k ((i:Int)+1) ahB);have Y:=(λW (k:KIs W a g 4 x s S)=>aD k.ar (mWt x.t ((i:Int)+1)) V);rw[<-mb,<-O]at Y;have HO:=qh Y;have HC:=qh (λW s (S:List Sp) (k:KIs W a g 4 x s S) (hp:S[i]? =some (⟨5,u,b,z⟩:Sp))=>k.mi.1);refine ai4 ?_;intro HP HL K1;clear Y h hp mb O;cases hc:(v==0)
  all_goals
    go_enter func446,ntmps446;go_wp2_with fail
    go_region_held3 (λW=>W.cell? x.l=some ↑a)
      (first|with_reducible exact HC.o _ _ _ K1.o HP.o|with_reducible exact HC.o _ _ _ H.o HP.o)
      (first
        | (go_at_call 448;go_loud (refine LT (HF.o _ K1.o) ?_))
        | (go_at_call 173;go_loud (refine Op (HO.o _ K1.o) λw3 I=>?_);have H:=qh (K1.o.op I.o.2 I.o.1);have T2:=qh (((aa.refl [a,g,x.q] w).drew).trans (aM I.o.2))))
  all_goals go_wp2;go_ret;rw[HX.o];first| (rw[if_pos ahI];exact⟨rfl,H.o.samS HP.o,T2.o⟩)| (rw[if_neg ahI];exact⟨rfl,H.o.samS HP.o,T2.o⟩)
def Ek(h:KIs w a g 4 x s S)(i:Nat)(hin:i<x.n)(u b z:Int)(hp:S[i]? =some (⟨12,u,b,z⟩:Sp))(V:s.ops+1<=1000000000000):E 447 #[↑x.l,pointer (some ⟨x.q,i*4,none⟩),J ((i:Int)+1)] w (mg w a g x S i (⟨12,u,b,z⟩:Sp) (dM x.t s ((i:Int)+1) (⟨12,u,b,z⟩:Sp))):=by
  refine ajY ?_;intro hn e0;obtain⟨ab,mb⟩:=LE (dX s (x.t:Int) ((i:Int)+1) 0);obtain⟨v,O⟩:=LE (cJ s (x.t:Int) ((i:Int)+1));have HX:Kq (dM x.t s ((i:Int)+1) (⟨12,u,b,z⟩:Sp)=(ab,(⟨if v=true then 0 else 13,u,b,z⟩:Sp))):=qh ahN;have Y:=(λW (k:KIs W a g 4 x s S)=>jn k.ar (x.t:Int) ((i:Int)+1) 0 V);rw[<-mb,<-O]at Y;have HO:=qh Y;have HC:=qh (λW s (S:List Sp) (k:KIs W a g 4 x s S) (hp:S[i]? =some (⟨12,u,b,z⟩:Sp))=>(And.intro k.mi.1 k.mi.2));refine ai4 ?_;intro HP HL K1;clear Y h hp mb O;cases hc:v
  all_goals
    go_enter func447,ntmps447;go_wp2_with fail
    go_region_held3 (λW=>W.cell? x.l=some ↑a/\Z W x.l 1 (J x.t))
      (first|with_reducible exact HC.o _ _ _ K1.o HP.o|with_reducible exact HC.o _ _ _ H.o HP.o)
      (first
        | (go_at_call 272;go_loud (refine Op (HO.o _ K1.o) λw3 I=>?_);have H:=qh (K1.o.op I.o.2 I.o.1);have T2:=qh (((aa.refl [a,g,x.q] w).drew).trans (aM I.o.2))))
  all_goals go_wp2;go_ret;rw[HX.o];first| (rw[if_pos ahI];exact⟨rfl,H.o.samS HP.o,T2.o⟩)| (rw[if_neg ahI];exact⟨rfl,H.o.samS HP.o,T2.o⟩)
def Em(h:KIs w a g 4 x s S)(i:Nat)(hin:i<x.n)(u b z:Int)(hp:S[i]? =some (⟨14,u,b,z⟩:Sp))(V:s.ops+1<=1000000000000)(hu:-10<=u/\u<=10000000000000):E 447 #[↑x.l,pointer (some ⟨x.q,i*4,none⟩),J ((i:Int)+1)] w (mg w a g x S i (⟨14,u,b,z⟩:Sp) (dM x.t s ((i:Int)+1) (⟨14,u,b,z⟩:Sp))):=by
  refine ajY ?_;intro hn e0;obtain⟨O,mb⟩:=LE (ae s (mWt x.t u) 0);have HX:Kq (dM x.t s ((i:Int)+1) (⟨14,u,b,z⟩:Sp)=(O,⟨0,u,b,z⟩)):=qh ahV;have HF:=qh (λW (k:KIs W a g 4 x s S)=>pS k u (by exact hu));have I:=(λW (k:KIs W a g 4 x s S)=>an k.ar (mWt x.t u) 0 V);rw[<-mb]at I;have HO:=qh I;have Y:=qh (λW s (S:List Sp) (k:KIs W a g 4 x s S) (hp:S[i]? =some (⟨14,u,b,z⟩:Sp))=>(And.intro k.mi.1 (k.sp.cell hp 1 _ rfl)));refine ai4 ?_;intro HP HL K1;clear I h hp mb;go_enter func447,ntmps447;go_wp2_with fail
  go_region_held3 (λW=>W.cell? x.l=some ↑a/\Z W x.q (i*4+1) (J u))
    (first|with_reducible exact Y.o _ _ _ K1.o HP.o|with_reducible exact Y.o _ _ _ K2.o HP.o)
    (first
      | (go_at_call 448;go_loud (refine LT (HF.o _ K1.o) ?_))
      | (go_at_call 177;go_loud (refine Op (HO.o _ K1.o) λw3 H=>?_);have K2:=qh (K1.o.op H.o.2 H.o.1);have T2:=qh (((aa.refl [a,g,x.q] w).drew).trans (aM H.o.2))))
  all_goals go_wp2;go_ret;rw[HX.o];exact⟨rfl,K2.o.samS HP.o,T2.o⟩
def Ej(h:KIs w a g 4 x s S)(i:Nat)(hin:i<x.n)(u b z:Int)(hp:S[i]? =some (⟨11,u,b,z⟩:Sp))(V:s.ops+1<=1000000000000):E 447 #[↑x.l,pointer (some ⟨x.q,i*4,none⟩),J ((i:Int)+1)] w (mg w a g x S i (⟨11,u,b,z⟩:Sp) (dM x.t s ((i:Int)+1) (⟨11,u,b,z⟩:Sp))):=by
  refine ajY ?_;intro hn e0;obtain⟨ab,mb⟩:=LE (af s (mNx x.t ((i:Int)+1)));obtain⟨v,O⟩:=LE (ldW s.W (mNx x.t ((i:Int)+1)));have HX:Kq (dM x.t s ((i:Int)+1) (⟨11,u,b,z⟩:Sp)=(ab,(⟨if v≠0 then 14 else 12,v,b,z⟩:Sp))):=qh ahN;have HF:=qh (λW (k:KIs W a g 4 x s S)=>jU k ((i:Int)+1) ahB);have i':=(λW (k:KIs W a g 4 x s S)=>aD k.ar (mNx x.t ((i:Int)+1)) V);rw[<-mb,<-O]at i';have HO:=qh i';have I:=qh (λW s (S:List Sp) (y:Int) (k:KIs W a g 4 x s S) (hp:S[i]? =some (⟨11,y,b,z⟩:Sp))=>k.mi.1);refine ai4 ?_;intro HP HL K1;clear i' h hp mb O;cases hc:(v !=0)
  all_goals
    go_enter func447,ntmps447;go_wp2_with fail
    go_region_held3 (λW=>W.cell? x.l=some ↑a)
      (first|with_reducible exact I.o _ _ _ _ K1.o HP.o|with_reducible exact I.o _ _ _ _ H.o HP.o|with_reducible exact Lf.o)
      (first
        | (go_at_call 442;go_loud (refine LT (HF.o _ K1.o) ?_))
        | (go_at_call 173;go_loud (refine Op (HO.o _ K1.o) λw3 a3=>?_);have H:=qh (K1.o.op a3.o.2 a3.o.1);have T2:=qh (((aa.refl [a,g,x.q] w).drew).trans (aM a3.o.2));have Y:=qh (H.o.put (p':=(⟨11,v,b,z⟩:Sp)) HP.o (j:=1) (u:= J v) ahD rfl);have Lf:=qh (I.o _ _ _ v Y.o (au HP.o _));have e1:=H.o.sp.cell HP.o 1 _ rfl;have z1:=H.o.sp.free (i*4+1);have e5:=H.o.sp.cell HP.o 0 _ rfl;simp only[Nat.add_zero]at e5))
  all_goals go_wp2;go_ret;rw[HX.o];first| (rw[if_pos ahI];exact⟨rfl,Y.o,T2.o.trans (aJ (aW _ _ _))⟩)| (rw[if_neg ahI];exact⟨rfl,Y.o,T2.o.trans (aJ (aW _ _ _))⟩)
def El(h:KIs w a g 4 x s S)(i:Nat)(hin:i<x.n)(u b z:Int)(hp:S[i]? =some (⟨13,u,b,z⟩:Sp))(V:s.ops+1<=1000000000000):E 447 #[↑x.l,pointer (some ⟨x.q,i*4,none⟩),J ((i:Int)+1)] w (mg w a g x S i (⟨13,u,b,z⟩:Sp) (dM x.t s ((i:Int)+1) (⟨13,u,b,z⟩:Sp))):=by
  refine ajY ?_;intro hn e0;obtain⟨ab,mb⟩:=LE (af s (mNx x.t ((i:Int)+1)));obtain⟨v,O⟩:=LE (ldW s.W (mNx x.t ((i:Int)+1)));have HX:Kq (dM x.t s ((i:Int)+1) (⟨13,u,b,z⟩:Sp)=(ab,(⟨if v≠0 then 14 else 13,v,b,z⟩:Sp))):=qh ahN;have HF:=qh (λW (k:KIs W a g 4 x s S)=>jU k ((i:Int)+1) ahB);have i':=(λW (k:KIs W a g 4 x s S)=>aD k.ar (mNx x.t ((i:Int)+1)) V);rw[<-mb,<-O]at i';have HO:=qh i';have I:=qh (λW s (S:List Sp) (y:Int) (k:KIs W a g 4 x s S) (hp:S[i]? =some (⟨13,y,b,z⟩:Sp))=>k.mi.1);refine ai4 ?_;intro HP HL K1;clear i' h hp mb O;cases hc:(v !=0)
  all_goals
    go_enter func447,ntmps447;go_wp2_with fail
    go_region_held3 (λW=>W.cell? x.l=some ↑a)
      (first|with_reducible exact I.o _ _ _ _ K1.o HP.o|with_reducible exact I.o _ _ _ _ H.o HP.o|with_reducible exact Lf.o)
      (first
        | (go_at_call 442;go_loud (refine LT (HF.o _ K1.o) ?_))
        | (go_at_call 173;go_loud (refine Op (HO.o _ K1.o) λw3 a3=>?_);have H:=qh (K1.o.op a3.o.2 a3.o.1);have T2:=qh (((aa.refl [a,g,x.q] w).drew).trans (aM a3.o.2));have Y:=qh (H.o.put (p':=(⟨13,v,b,z⟩:Sp)) HP.o (j:=1) (u:= J v) ahD rfl);have Lf:=qh (I.o _ _ _ v Y.o (au HP.o _));have e1:=H.o.sp.cell HP.o 1 _ rfl;have z1:=H.o.sp.free (i*4+1);have e5:=H.o.sp.cell HP.o 0 _ rfl;simp only[Nat.add_zero]at e5))
  all_goals go_wp2;go_ret;rw[HX.o];first| (rw[if_pos ahI];exact⟨rfl,Y.o,T2.o.trans (aJ (aW _ _ _))⟩)| (rw[if_neg ahI];exact⟨rfl,Y.o,T2.o.trans (aJ (aW _ _ _))⟩)
end
end
section
open Go.RowKit
variable{B:Int}
section
variable{w:World}{g k:Nat}{x:Fx}{s:Ar}{S:List Sp}
structure k7(k:Nat)(x:Fx)(s:Ar)(S:List Sp)(B:Int):Prop where
 ops:s.ops+1<=1000000000000
 w:WdB B s
 p:∀p∈S,SpB k B p
 B0:1<=B
 B1:B<=10000000000
 inr:inR s.W x.t=true
def k7.sp(h:k7 k x s S B){p:Sp}(H:S[i]? =some p):SpB k B p:=h.p p (List.mem_of_getElem? H)
def iY(p:Sp):Prop:=(0<=p.pc/\p.pc<=5)\/(10<=p.pc/\p.pc<=14)
def zj(h:KIs w a g 4 x s S)(C:k7 4 x s S B)(i:Nat)(p:Sp)(hp:S[i]? =some p)(H:0<p.pc)(I:p.pc<=5):E 446 #[↑x.l,pointer (some ⟨x.q,i*4,none⟩),J ((i:Int)+1)] w (mg w a g x S i p (eQ x.t s ((i:Int)+1) p)):=by
  refine aiU ?_;intro hi;have hb:=C.sp hp;have V:=C.ops;have O:=C.B1;obtain⟨pc,u,b,z⟩:=p;have a0:=hb.a0;have a1:=hb.a1;simp only at H I a0 a1;have:pc=1\/pc=2\/pc=3\/pc=4\/pc=5:=by omega
  rcases this with rfl|rfl|rfl|rfl|rfl
  . exact It h i hi u b z hp V
  . exact Iu h i hi u b z hp V
  . exact Iv h i hi u b z hp V
  . exact Iw h i hi u b z hp V ahB
  . exact Ix h i hi u b z hp V
def we(h:KIs w a g 4 x s S)(C:k7 4 x s S B)(i:Nat)(p:Sp)(hp:S[i]? =some p)(H:10<p.pc)(I:p.pc<=14):E 447 #[↑x.l,pointer (some ⟨x.q,i*4,none⟩),J ((i:Int)+1)] w (mg w a g x S i p (dM x.t s ((i:Int)+1) p)):=by
  refine aiU ?_;intro hi;have hb:=C.sp hp;have V:=C.ops;have O:=C.B1;obtain⟨pc,u,b,z⟩:=p;have a0:=hb.a0;have a1:=hb.a1;simp only at H I a0 a1;have:pc=11\/pc=12\/pc=13\/pc=14:=by omega
  rcases this with rfl|rfl|rfl|rfl
  . exact Ej h i hi u b z hp V
  . exact Ek h i hi u b z hp V
  . exact El h i hi u b z hp V
  . exact Em h i hi u b z hp V ahB
def GoK(w:World)(a g:Nat)(x:Fx)(S:List Sp)(i:Nat)(Kn:Int)(r:Ar×Sp)(e:Ending)(w':World):Prop:=
 e= returned (bool (decide (r.2.pc=Kn)))/\KIs w' a g 4 x r.1 (S.set i r.2)/\aa [a,g,x.q] w w'
def gR{b c:Bool}(h:b=c):Ending.returned (Value.bool b)=Ending.returned (Value.bool c):=by rw[h]
def Cz(t:Int)(s:Ar)(y:Int)(p:Sp):(eQ t s y p).2.pc≠0:=by
 unfold eQ;split;.simp
 split;.simp
 split;.simp only;split<;>decide
 split;.simp
 .simp only;split<;>decide
def zi(t:Int)(s:Ar)(y:Int)(p:Sp):(dM t s y p).2.pc≠10:=by
 unfold dM;split;.simp only;split<;>decide
 split;.simp
 .simp only;repeat' split
  all_goals decide
def sJ(t m:Int)(s:Ar)(i:Int){p:Sp}(H:0<p.pc)(I:p.pc<=5):decide ((eQ t s (i+1) p).2.pc=10)=bv p (bN 4 t m s i p).2:=by
 have e:bN 4 t m s i p=eQ t s (i+1) p:=by show mF t s i p=_;unfold mF;rw[if_pos ⟨H,by omega⟩]
 rw[e];have O:=Cz t s (i+1) p;unfold bv;by_cases h:(eQ t s (i+1) p).2.pc=10;.rw[decide_eq_true h,decide_eq_true ⟨.inl h,by omega,by omega⟩]
 .exact aaL
def qU(t m:Int)(s:Ar)(i:Int){p:Sp}(H:10<p.pc)(I:p.pc<=14):decide ((dM t s (i+1) p).2.pc=0)=bv p (bN 4 t m s i p).2:=by
 have e:bN 4 t m s i p=dM t s (i+1) p:=by show mF t s i p=_;unfold mF;rw[if_neg ahB,if_pos H]
 rw[e];have O:=zi t s (i+1) p;unfold bv;by_cases h:(dM t s (i+1) p).2.pc=0;.rw[decide_eq_true h,decide_eq_true ⟨.inr h,by omega,by omega⟩]
 .exact aaL
def vE(h:KIs w a g 4 x s S)(i:Nat)(p:Sp)(hp:S[i]? =some p)(O:Int)(r:Ar×Sp)(hm:E 446 #[↑x.l,pointer (some ⟨x.q,i*4,none⟩),J ((i:Int)+1)] w (mg w a g x S i p r)):E 445 #[↑x.l,J i,J O,.func (.func 446) #[↑x.l] #[]] w (GoK w a g x S i O r):=by refine aiU ?_;intro hi;have hn:=h.n32;have x7:IntKind.i64.wrap ((i:Int)+1)=(i:Int)+1:=IntWalk.i64_in _ ahB;have HM:=qh hm;have V:=qh hp;have H:=qh h;clear h hm hp;cases hc:(r.2.pc==O);all_goals go_enter func445,ntmps445;go_wp2_with (go_at_call 444;refine(bI .mcs H.o i hi).mono ?_;rintro e w' ⟨rfl,rfl⟩);go_wp2_with (go_at_call 446;refine HM.o.mono ?_;rintro e w2 ⟨rfl,I,t2⟩;have K2:=qh (And.intro I t2);have K3:=qh (I.put0 (p':=r.2) (au V.o _) (u:= J r.2.pc) rfl);have f0:=I.sp.free (i*4);have a0:=I.sp.cell (au V.o _) 0 _ rfl;simp only[Nat.add_zero]at a0;clear I t2);go_ret;have Y:=K3.o;rw[ed]at Y;refine⟨?_,Y,K2.o.2.trans (aJ (aW _ _ _))⟩;first| exact gR (decide_eq_true ahI).symm| exact gR (decide_eq_false ahI).symm
def tz(h:KIs w a g 4 x s S)(i:Nat)(p:Sp)(hp:S[i]? =some p)(O:Int)(r:Ar×Sp)(hm:E 447 #[↑x.l,pointer (some ⟨x.q,i*4,none⟩),J ((i:Int)+1)] w (mg w a g x S i p r)):E 445 #[↑x.l,J i,J O,.func (.func 447) #[↑x.l] #[]] w (GoK w a g x S i O r):=by refine aiU ?_;intro hi;have hn:=h.n32;have x7:IntKind.i64.wrap ((i:Int)+1)=(i:Int)+1:=IntWalk.i64_in _ ahB;have HM:=qh hm;have V:=qh hp;have H:=qh h;clear h hm hp;cases hc:(r.2.pc==O);all_goals go_enter func445,ntmps445;go_wp2_with (go_at_call 444;refine(bI .mcs H.o i hi).mono ?_;rintro e w' ⟨rfl,rfl⟩);go_wp2_with (go_at_call 447;refine HM.o.mono ?_;rintro e w2 ⟨rfl,I,t2⟩;have K2:=qh (And.intro I t2);have K3:=qh (I.put0 (p':=r.2) (au V.o _) (u:= J r.2.pc) rfl);have f0:=I.sp.free (i*4);have a0:=I.sp.cell (au V.o _) 0 _ rfl;simp only[Nat.add_zero]at a0;clear I t2);go_ret;have Y:=K3.o;rw[ed]at Y;refine⟨?_,Y,K2.o.2.trans (aJ (aW _ _ _))⟩;first| exact gR (decide_eq_true ahI).symm| exact gR (decide_eq_false ahI).symm
def C5(h:KIs w a g 4 x s S)(C:k7 4 x s S B)(i:Nat)(p:Sp)(O:S[i]? =some p)(hc:iY p):E 441 #[↑x.l,J i] w (dG w a g 4 x s S i p):=by
  have LI:=aP;have HS:=qh (ez .mcs h i p O);have HI:=qh (λW (k:KIs W a g 4 x s S) (h0:0<p.pc) (h5:p.pc<=5)=>vE k i p O 10 _ (zj k C i p O h0 h5));have HO:=qh (λW (k:KIs W a g 4 x s S) (h0:10<p.pc) (h5:p.pc<=14)=>tz k i p O 0 _ (we k C i p O h0 h5));have HP:=qh O;have H:=qh h;clear h O C;obtain⟨pc,u,b,z⟩:=p;have I:pc=0\/pc=10\/(pc=1\/pc=2\/pc=3\/pc=4\/pc=5)\/(pc=11\/pc=12\/pc=13\/pc=14):=by unfold iY at hc;simp only at hc;omega
  clear hc;rcases I with I|I|I|I
  . subst I;go_enter func441,ntmps441;go_wp2_with (go_at_call 440;refine HS.o.mono ?_;unfold aF;rintro e w1 ⟨rfl,b1⟩;have H1:=qh (And.intro (H.o.below b1) (aa.of_below (S:=[a,g,x.q]) b1));clear b1);go_ret;have k:=H1.o.1;rw[<-cj HP.o]at k;exact⟨rfl,k,H1.o.2⟩
  . subst I;go_enter func441,ntmps441;go_wp2_with (go_at_call 440;refine HS.o.mono ?_;unfold aF;rintro e w1 ⟨rfl,b1⟩;have H1:=qh (And.intro (H.o.below b1) (aa.of_below (S:=[a,g,x.q]) b1));clear b1);go_ret;have k:=H1.o.1;rw[<-cj HP.o]at k;exact⟨rfl,k,H1.o.2⟩
  . rcases I with rfl|rfl|rfl|rfl|rfl
    all_goals go_enter func441,ntmps441;go_wp2_with (go_at_call 440;refine HS.o.mono ?_;unfold aF;rintro e w1 ⟨rfl,b1⟩;have H1:=qh (And.intro (H.o.below b1) (aa.of_below (S:=[a,g,x.q]) b1));clear b1);go_wp2_with (go_at_call 445;refine(HI.o _ H1.o.1 ahC ahC).mono ?_;rintro e w2 ⟨rfl,Y,t2⟩;have V:=qh (And.intro Y t2);clear Y t2);go_ret;exact⟨gR (sJ _ _ _ _ ahC ahC),V.o.1,H1.o.2.trans V.o.2⟩
  . rcases I with rfl|rfl|rfl|rfl
    all_goals go_enter func441,ntmps441;go_wp2_with (go_at_call 440;refine HS.o.mono ?_;unfold aF;rintro e w1 ⟨rfl,b1⟩;have H1:=qh (And.intro (H.o.below b1) (aa.of_below (S:=[a,g,x.q]) b1));clear b1);go_wp2_with (go_at_call 445;refine(HO.o _ H1.o.1 ahC ahC).mono ?_;rintro e w2 ⟨rfl,Y,t2⟩;have V:=qh (And.intro Y t2);clear Y t2);go_ret;exact⟨gR (qU _ _ _ _ ahC ahC),V.o.1,H1.o.2.trans V.o.2⟩
def yj(h:KIs w a g 4 x s S)(i:Nat)(p:Sp)(hp:S[i]? =some p)(Ki:p.pc=10)(V:s.ops+1<=1000000000000):E 436 #[↑x.l,J i] w (pV w a g 4 x s S i p):=by
  refine aiU ?_;intro hi;have hn:=h.n32;have LI:=aP;obtain⟨c,u,b,z⟩:=p;simp only at Ki;subst Ki;obtain⟨ab,mb⟩:=LE (af s (mNx x.t ((i:Int)+1)));obtain⟨v,O⟩:=LE (ldW s.W (mNx x.t ((i:Int)+1)));have HX:Kq (cD 4 x.t s i ⟨10,u,b,z⟩=(ab,decide (v=0))):=qh ahN;have x7:IntKind.i64.wrap ((i:Int)+1)=(i:Int)+1:=IntWalk.i64_in _ ahB;have i':=(λW (k:KIs W a g 4 x s S)=>aD k.ar (mNx x.t ((i:Int)+1)) V);rw[<-mb,<-O]at i';have HO:=qh i';have HS:=qh (λW (k:KIs W a g 4 x s S)=>ez .mcs k i _ hp);have HF:=qh (λW (k:KIs W a g 4 x s S)=>jU k ((i:Int)+1) ahB);have I:Kq (∀W s (S':List Sp),KIs W a g 4 x s S'->W.cell? x.l=some ↑a):=qh (λW s S' k=>k.mi.1);have HP:=qh hp;have Y:=qh (h.below ((Below.refl _ w).drew));clear i' h hp mb O;cases hd:(v==0)
  all_goals
    go_enter func436,ntmps436;go_wp2_with fail;first
    | (go_region_held3 (λW=>W.cell? x.l=some ↑a)
        (first|with_reducible exact I.o _ _ _ Y.o|with_reducible exact I.o _ _ _ H.o|with_reducible exact I.o _ _ _ K3.o)
        (first
          | (go_at_call 440;go_loud (refine(HS.o _ Y.o).mono ?_);unfold aF;rintro en w2 ⟨rfl,b2⟩;have H:=qh (Y.o.below b2);have T2:=qh (((aa.refl [a,g,x.q] w).drew).trans (aa.of_below b2));clear b2)
          | (go_at_call 442;go_loud (refine LT (HF.o _ H.o) ?_))
          | (go_at_call 173;go_loud (refine Op (HO.o _ H.o) λw3 a3=>?_);have K3:=qh (H.o.op a3.o.2 a3.o.1);have T3:=qh (T2.o.trans (aM a3.o.2)))))
    | fail "held"
  all_goals go_wp2;go_ret;rw[pV,HX.o];first| exact⟨by rw[decide_eq_true ahR];rfl,K3.o,T3.o⟩| exact⟨by rw[decide_eq_false ahR];rfl,K3.o,T3.o⟩
end
end
section
open Go.RowKit
section
variable{w:World}{g k:Nat}{x:Fx}{s:Ar}{S:List Sp}
def KIs.wi(h:KIs w a g 1 x s S):w.cell? x.l=some ↑a/\Z w x.l 1 (J x.t)/\Z w x.l 2 (J x.m):=⟨h.lk.cell 0,h.lk.cell 1,h.lk.cell 2⟩
def zL(h:KIs w a g 1 x s S)(i:Nat)(u b z:Int)(hp:S[i]? =some (⟨1,u,b,z⟩:Sp))(V:s.ops+1<=1000000000000)(UL:0<=u)(Qi:u<=10000000000000):E 410 #[↑x.l,J i] w (dG w a g 1 x s S i ⟨1,u,b,z⟩):=by
  refine aiU ?_;intro hi;have hn:=h.n32;refine akg ?_;intro a0;obtain⟨ab,mb⟩:=LE (dX s x.t 0 ((i:Int)+1));obtain⟨v,O⟩:=LE (cJ s x.t 0);have HX:Kq (bN 1 x.t x.m s i ⟨1,u,b,z⟩=(ab,if v then⟨10,u,b,z⟩else⟨2,min (2*u) x.m,u,z⟩)):=qh ahN;have i':=(λW (k:KIs W a g 1 x s S)=>jn k.ar x.t 0 ((i:Int)+1) V);rw[<-mb,<-O]at i';have e1:IntKind.i64.wrap ((i:Int)+1)=(i:Int)+1:=IntWalk.i64_in _ ahB;have e2:IntKind.i64.wrap (2*u)=2*u:=IntWalk.i64_in _ ahB;have HO:=qh i';refine ajK ?_;intro HP K0 K1;clear i' h hp mb O;cases v
  . go_enter func410,ntmps410;go_wp2_with (go_at_call 411;refine(bI .tas K0.o i hi).mono ?_;rintro e w' ⟨rfl,rfl⟩)
    go_region_held3 (λW=>W.cell? x.l=some ↑a/\Z W x.l 1 (J x.t)/\Z W x.l 2 (J x.m))
      (first|with_reducible exact K1.o.wi|with_reducible exact H.o.wi)
      (first
        | (go_at_call 272;go_loud (refine Op (HO.o _ K1.o) λw3 Y=>?_);have H:=qh (K1.o.op Y.o.2 Y.o.1);have T2:=qh (((aa.refl [a,g,x.q] w).drew).trans (aM Y.o.2))))
    have d0:=ST (H.o.sp.cell HP.o 0 _ rfl);have d1:=H.o.sp.cell HP.o 1 _ rfl;have d2:=H.o.sp.cell HP.o 2 _ rfl;have z0:=H.o.sp.free (i*4);have z1:=H.o.sp.free (i*4+1);have z2:=H.o.sp.free (i*4+2);have d3:=H.o.wi;go_wp2_with fail;obtain⟨mu,Uq⟩:∃r:Int,r=2*u:=⟨_,rfl⟩;rw[<-Uq]at HX e2;have RU:=qh Uq;clear Uq;by_cases hm:(x.m:Int)<mu;. have Rl:min mu (x.m:Int)=x.m:=(by omega);rw[Rl]at HX;have I:=(((H.o.put0 HP.o (p':=(⟨2,u,b,z⟩:Sp)) (u:= J 2) rfl).put (au HP.o _) (j:=2) (p':=(⟨2,u,u,z⟩:Sp)) (u:= J u) ahD rfl).put (au (au HP.o _) _) (j:=1) (p':=(⟨2,x.m,u,z⟩:Sp)) (u:= J x.m) ahD rfl);rw[ed,ed]at I;have K5:=qh (I.below (Below.refl _ _).drew);have T5:=qh (T2.o.trans (aJ (a:=a) (g:=g) ((((aW x.q (i*4) (J 2)).trans (aW x.q (i*4+2) (J u))).trans (aW x.q (i*4+1) (J x.m))).drew)));clear I Rl;go_region;go_wp2;all_goals go_ret;rw[dG,HX.o];first| exact⟨rfl,K5.o,T5.o⟩| (exfalso;have e9:=RU.o;omega)| (have e9:=RU.o;subst e9;exact⟨rfl,K5.o,T5.o⟩)
    . have Rl:min mu (x.m:Int)=mu:=(by omega);rw[Rl]at HX;have I:=(((H.o.put0 HP.o (p':=(⟨2,u,b,z⟩:Sp)) (u:= J 2) rfl).put (au HP.o _) (j:=2) (p':=(⟨2,u,u,z⟩:Sp)) (u:= J u) ahD rfl).put (au (au HP.o _) _) (j:=1) (p':=(⟨2,mu,u,z⟩:Sp)) (u:= J mu) ahD rfl);rw[ed,ed]at I;have K5:=qh (I.below (Below.refl _ _).drew);have T5:=qh (T2.o.trans (aJ (a:=a) (g:=g) ((((aW x.q (i*4) (J 2)).trans (aW x.q (i*4+2) (J u))).trans (aW x.q (i*4+1) (J mu))).drew)));clear I Rl;go_region;go_wp2;all_goals go_ret;rw[dG,HX.o];first| exact⟨rfl,K5.o,T5.o⟩| (exfalso;have e9:=RU.o;omega)| (have e9:=RU.o;subst e9;exact⟨rfl,K5.o,T5.o⟩)
  . go_enter func410,ntmps410;go_wp2_with (go_at_call 411;refine(bI .tas K0.o i hi).mono ?_;rintro e w' ⟨rfl,rfl⟩)
    go_region_held3 (λW=>W.cell? x.l=some ↑a/\Z W x.l 1 (J x.t)/\Z W x.l 2 (J x.m))
      (first|with_reducible exact K1.o.wi|with_reducible exact H.o.wi)
      (first
        | (go_at_call 272;go_loud (refine Op (HO.o _ K1.o) λw3 Y=>?_);have H:=qh (K1.o.op Y.o.2 Y.o.1);have T2:=qh (((aa.refl [a,g,x.q] w).drew).trans (aM Y.o.2))))
    have d0:=ST (H.o.sp.cell HP.o 0 _ rfl);have z0:=H.o.sp.free (i*4);have I:=qh (H.o.put0 HP.o (p':=(⟨10,u,b,z⟩:Sp)) (u:= J 10) rfl);go_wp2;go_ret;rw[dG,HX.o];exact⟨rfl,I.o,T2.o.trans (aJ (aW _ _ _))⟩
def zM(h:KIs w a g 1 x s S)(i:Nat)(u b z:Int)(hp:S[i]? =some (⟨2,u,b,z⟩:Sp))(Kk:-10000000000000<=b)(KP:b<=10000000000000):E 410 #[↑x.l,J i] w (dG w a g 1 x s S i ⟨2,u,b,z⟩):=by
  refine aiU ?_;intro hi;refine akg ?_;intro a0;have a2:=h.sp.cell hp 2 _ rfl;have z0:=h.sp.free (i*4);have z2:=h.sp.free (i*4+2);obtain⟨r,I⟩:∃r:Int,r=b-1:=⟨_,rfl⟩;have HX:Kq (bN 1 x.t x.m s i ⟨2,u,b,z⟩=(s,⟨if r=0 then 1 else 2,u,r,z⟩)):=qh (by rw[I];rfl);have e1:IntKind.i64.wrap (b-1)=r:=by rw[I];exact IntWalk.i64_in _ ahB
  have Y:=qh hp;have O:=qh h;have H:=qh (h.put hp (p':=(⟨2,u,r,z⟩:Sp)) (j:=2) (u:= J r) ahD rfl);have V:=qh (H.o.put0 (au hp _) (p':=(⟨1,u,r,z⟩:Sp)) (u:= J 1) rfl);clear h hp I;cases hc:(r==0)
  all_goals
    go_enter func410,ntmps410;go_wp2_with (go_at_call 411;refine(bI .tas O.o i hi).mono ?_;rintro e w' ⟨rfl,rfl⟩);go_ret;rw[dG,HX.o]
    first
      | (rw[if_pos ahI]
         refine⟨rfl,?_,aJ ((aW _ _ _).trans (aW _ _ _))⟩
         have k:=V.o
         rw[ed]at k
         exact k)
      | (rw[if_neg ahI];exact⟨rfl,H.o,aJ (aW _ _ _)⟩)
def wR(h:KIs w a g 1 x s S)(i:Nat)(u b z:Int)(hp:S[i]? =some (⟨11,u,b,z⟩:Sp))(V:s.ops+1<=1000000000000):E 410 #[↑x.l,J i] w (dG w a g 1 x s S i ⟨11,u,b,z⟩):=by
  refine aiU ?_;intro hi;refine akg ?_;intro a0;obtain⟨Y,mb⟩:=LE (ae s x.t 0);have HX:Kq (bN 1 x.t x.m s i ⟨11,u,b,z⟩=(Y,⟨0,u,b,z⟩)):=qh ahV;have O:=(λW (k:KIs W a g 1 x s S)=>an k.ar x.t 0 V);rw[<-mb]at O;have HO:=qh O;refine ajK ?_;intro HP K0 K1;clear O h hp mb;go_enter func410,ntmps410;go_wp2_with (go_at_call 411;refine(bI .tas K0.o i hi).mono ?_;rintro e w' ⟨rfl,rfl⟩)
  go_region_held3 (λW=>W.cell? x.l=some ↑a/\Z W x.l 1 (J x.t)/\Z W x.l 2 (J x.m))
    (first|with_reducible exact K1.o.wi|with_reducible exact H.o.wi)
    (first
      | (go_at_call 177;go_loud (refine Op (HO.o _ K1.o) λw3 I=>?_);have H:=qh (K1.o.op I.o.2 I.o.1);have T2:=qh (((aa.refl [a,g,x.q] w).drew).trans (aM I.o.2))))
  all_goals have d0:=ST (H.o.sp.cell HP.o 0 _ rfl);have z0:=H.o.sp.free (i*4);have K4:=qh (H.o.put0 HP.o (p':=(⟨0,u,b,z⟩:Sp)) (u:= J 0) rfl);go_wp2;go_ret;rw[dG,HX.o];exact⟨rfl,K4.o,T2.o.trans (aJ (aW _ _ _))⟩
def qG(h:KIs w a g 1 x s S)(i:Nat)(p:Sp)(hp:S[i]? =some p)(I:p.pc=0\/p.pc=10):E 410 #[↑x.l,J i] w (dG w a g 1 x s S i p):=by
  refine aiU ?_;intro hi;obtain⟨c,u,b,z⟩:=p;refine akg ?_;intro a0;have O:=qh hp;have H:=qh h;clear h hp;simp only at I;rcases I with rfl|rfl
  all_goals go_enter func410,ntmps410;go_wp2_with (go_at_call 411;refine(bI .tas H.o i hi).mono ?_;rintro e w' ⟨rfl,rfl⟩);go_ret;refine⟨rfl,?_,aa.refl _ _⟩;have k:=H.o;rw[<-cj O.o]at k;exact k
def uU(h:KIs w a g 1 x s S)(i:Nat)(p:Sp)(Y:S[i]? =some p)(H:p.pc=10):E 412 #[agg #[↑x.l],J i] w (pV w a g 1 x s S i p):=by have LI:=aP;have b1:=(Below.refl w.heap.size w).alloc (Nat.le_refl _) (cells #[↑x.l] 289);have O:=qh (ez .tas (h.below b1) i p Y);have I:=qh b1;have K0:=qh h;have HX:Kq (cD 1 x.t s i p=(s,true)):=qh (by unfold cD;rw[if_pos H];rfl);obtain⟨pc,u,b,z⟩:=p;simp only at H;subst H;unfold aF at O;clear h Y b1;go_enter func412,ntmps412;go_wp2_with fail;refine Op O.o λw1 b2=>?_;have V:=qh (show Below w.heap.size w w1 from I.o.trans (b2.o.mono I.o.size));go_wp2;go_ret;rw[pV,HX.o];exact⟨rfl,K0.o.below V.o,aa.of_below V.o⟩
end
end
end Go.Proofs.YtglokdbiggbkjaaGreat
