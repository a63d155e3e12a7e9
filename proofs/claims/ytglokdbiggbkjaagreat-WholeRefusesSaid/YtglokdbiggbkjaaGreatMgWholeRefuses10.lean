/- Joined texts. -/
import Derived.Laws.EntriesVeiled
import Derived.Handy
import Derived.Test.YtglokdbiggbkjaaGreatMgWholeRefuses0
import Derived.Test.YtglokdbiggbkjaaGreatMgWholeRefuses1
import Derived.Test.YtglokdbiggbkjaaGreatMgWholeRefuses2
import Derived.Test.YtglokdbiggbkjaaGreatMgWholeRefuses4
import Derived.Test.YtglokdbiggbkjaaGreatMgWholeRefuses5
import Derived.Test.YtglokdbiggbkjaaGreatMgWholeRefuses6
import Derived.Test.YtglokdbiggbkjaaGreatMgWholeRefuses7
import Derived.Test.YtglokdbiggbkjaaGreatMgWholeRefuses8
import Derived.Test.YtglokdbiggbkjaaGreatMgWholeRefuses9
set_option linter.unusedVariables false
set_option linter.unusedSimpArgs false
set_option linter.defProp false
set_option maxRecDepth 100000
set_option maxHeartbeats 16000000
open Go.Proofs.Tryz
namespace Go.Proofs.YtglokdbiggbkjaaGreat
open Go.IntKind(i64)
open Go.Value(int bool slice agg tuple pointer)
open Go.Ending(returned)
open Go.Obj(cells)
variable{a n j:Nat}{w':World}{u:Value}{B t m v x:Int}{f f':Int->Int}{W:List Int}
section
open Go.RowKit
variable{w:World}{g:Nat}{s:Ar}
def F9(w:World)(a g:Nat)(s:Ar)(n:Nat)(e:Ending)(w':World):Prop:=
 ∃k,e= returned (tuple #[pointer (some ⟨k,0,none⟩),J 0])/\BnA w' ⟨k,a,g,s.W.length+1,n⟩ {s with W:=s.W++List.replicate (2+n) 0} ⟨0,0,0,0⟩/\w.heap.size<=k/\k<w'.heap.size/\aa [a] w w'
def I7(h:aB w a g s)(n:Nat)(h1:1<=n)(h2:n<=32)(V:s.W.length+(2+n)<=s.room):E 147 #[↑a,J n] w (F9 w a g s n):=by
  have t1:¬(n:Int)<1:=by omega
  have t2:¬32<(n:Int):=by omega
  have NH:=h.room;have x1:IntKind.i64.wrap (2+(n:Int))=2+(n:Int):=IntWalk.i64_in _ ahE
  have Y:Kq (dX s (2+(n:Int))=({s with W:=s.W++List.replicate (2+n) 0},(s.W.length:Int)+1,(0:Int))):=qh (by
    unfold dX
    rw[if_neg ahE,if_neg ahE,show(2+(n:Int)).toNat=2+n by omega])
  have H:=qh (And.intro h (And.intro h.blk.lt h.wds.lt));have O:=qh V;clear h V;go_enter func147,ntmps147;go_wp2_with fail;refine(gn H.o.1 (2+(n:Int))).mono ?_;rintro en w1 ⟨rfl,I,u1⟩;rw[Y.o]at I ⊢;have H1:=qh (And.intro I u1);clear I u1;go_wp2;go_ret2;have hs:=H1.o.2.size;have t:aa [] w1 (w1.alloc (cells #[↑a,J ((s.W.length:Int)+1),J n,J 0,J 0,J 0,J 0] 326)):=(aa.refl _ _).alloc _;refine⟨w1.heap.size,rfl,⟨H1.o.1.turns t ahF ahF,Blk.new _ _ _,⟨by have:=H.o.2.1;show w1.heap.size≠a;omega,by have:=H.o.2.2;show w1.heap.size≠g;omega⟩,⟨by have:=O.o;show s.W.length+1<=5000;omega,h2⟩,by unfold BnB;simp⟩,hs,by simp,H1.o.2.alloc _⟩
def ma0(s:Ar)(n:Nat):Mal:=⟨{s with W:=List.replicate (4+3*n) 0},⟨0,0,0,0⟩,0,List.replicate n Sp.zero⟩
def Gb(w:World)(a g:Nat)(s:Ar)(bud:Int)(n:Nat)(e:Ending)(w':World):Prop:=
 ∃c:Mx,e= returned (tuple #[↑c.l,J 0])/\bM w' c bud (ma0 s n)/\(c.b.a=a/\c.b.g=g/\c.b.n=n/\(c.b.F:Int)=maF n)/\w.heap.size<=c.l/\w.heap.size<=c.q/\w.heap.size<=c.b.k/\aa [a] w w'
def I8(h:aB w a g s)(hs:s.W=[])(KU:a≠g)(H vT:Value)(P T:List Int)(hP:RdL w H 1 encI P)(hT:RdL w vT 1 encI T)(hc:a8 P T=0)(bud:Int)(Jt:0<=bud)(JY:bud<=1000)(V:s.room=4096):E 107 #[↑a,agg #[H,vT],J bud] w (Gb w a g s bud T.length):=by
  obtain⟨i0,hi,JF,JH,ab⟩:=info_parts Tryz.infoSp;obtain⟨h1,h2⟩:1<=T.length/\T.length<=32:=by have:=bi (aQ hc).1;exact⟨this.2.2.1,this.2.2.2⟩
  have HC:=qh (eR (w.alloc (cells #[H,vT] 24)) H vT P T (hP.alloc _) (hT.alloc _));obtain⟨O,Y,rfl,Qr,Qs⟩:=cJ hT;have HA:=qh (And.intro h (And.intro h.blk.lt h.wds.lt));have HR:=qh (λW=>oI bud W Jt JY);have JV:(w.alloc (cells #[H,.slice O T.length Y] 24)).heap.size=w.heap.size+1:=by simp
  have B0:=qh ((Below.refl w.heap.size w).alloc (Nat.le_refl _) (cells #[H,.slice O T.length Y] 24));obtain⟨n,hn⟩:=LE T.length;rw[<-hn]at h1 h2 HC B0 JV Qr Qs ⊢;have Lx:=qh (And.intro hc hn);have HH:=qh (And.intro hs (And.intro V (And.intro KU (And.intro Jt JY))));have x1:IntKind.i64.wrap (2*(n:Int))=2*(n:Int):=IntWalk.i64_in _ ahE;have x2:IntKind.i64.wrap (2+2*(n:Int))=2+2*(n:Int):=IntWalk.i64_in _ ahE
  have HT:Kq (dX s (2+2*(n:Int))=({s with W:=List.replicate (2+2*n) 0},(1:Int),(0:Int))):=qh (by
    unfold dX
    rw[hs,V,if_neg ahE,if_neg ahJ,show(2+2*(n:Int)).toNat=2+2*n by omega];rfl)
  clear h hP hT hc hs V KU Jt JY hn;go_enter func107,ntmps107;go_wp2_with fail;refine Pi HC.o λw1 b1=>?_;rw[Lx.o.1];have Mu:Z w1 w.heap.size 1 (.slice O n Y):=by have:=(Blk.new w 24 #[H,.slice O n Y]).cell 1;rw[<-(aa.of_below (S:=[]) b1).cellC (p:=⟨w.heap.size,1,none⟩) ahF ahF]at this;exact this
  rw[JV]at b1;have B1:=qh (B0.o.trans (b1.mono ahE));clear b1 HC;go_wp2_with fail;refine LT (HR.o _) ?_;go_wp2_with fail;refine(gn (HA.o.1.turns (aa.of_below (S:=[]) B1.o) ahF ahF) (2+2*(n:Int))).mono ?_;rintro en w2 ⟨rfl,k2,u2⟩;rw[HT.o]at k2 ⊢;have H2:=qh (And.intro k2 ((aa.of_below (S:=[a]) B1.o).trans u2));clear k2 u2 Mu;go_wp2_with fail;refine(I7 H2.o.1 n h1 h2 (by have:=HH.o.2.1;simp;omega)).mono ?_;rintro en w3 ⟨k,rfl,kb,JE,JN,u3⟩;have H3:=qh (And.intro kb (And.intro JE (And.intro JN (H2.o.2.trans u3))));clear kb JE JN u3;go_wp2_with (refine wpList_make_full _ rfl (.tmp 48) (.tmp 48) 237 rfl w3.heap.size 113 i0 (agg #[J 0,J 0,J 0,J 0]) 4 Tryz.underlying237 hi JF JH .i64 .i64 n n n rfl rfl rfl rfl ?b2 ?b3 (Nat.le_refl _) ?_);case b2=>rw[ab];omega
  case b3=>unfold maxLen;omega
  intro w5 r' hg;have I:dy w5 w3.heap.size (List.replicate n Sp.zero):=by unfold dy;rw[lY];have:=fU r';rw[show(madeCells #[Value.int .i64 0,J 0,J 0,J 0] (n*4)).toList=List.replicate (n*4) (J 0)from jF _ _]at this;exact this
  have t5:aa [] w3 w5:=aa.of_below ((Below.refl w3.heap.size w3).grown hg (Nat.le_refl _) (λj hj=>by cases hj));have H5:=qh (And.intro I t5);clear r' hg I t5;go_wp2;go_ret2;have MU:=H5.o.1.lt;have Jx:=H2.o.2.size;have M6:=HA.o.2.1;have NC:=HA.o.2.2;obtain⟨_,JE,JN,VU⟩:=H3.o;have Kp:=VU.size;obtain⟨L,hL⟩:∃L:Obj,L=(cells #[↑a,J 1,J bud,↑k,J 0,slice (some ⟨w3.heap.size,0,none⟩) n n] 269):=⟨_,rfl⟩;have t6:aa [] w3 (w5.alloc L):=H5.o.2.alloc _;have k6:=H3.o.1.turns t6 ahF ahF ahF;have Wl:=H5.o.1.turns (T:=[]) ((aa.refl _ _).alloc L) ahF;have tt:=VU.trans (t6.mono (T:=[a]) ahF);have ad:=Lx.o.2;rw[hL]at k6 Wl tt;refine⟨⟨w5.heap.size,w3.heap.size,⟨k,a,g,3+2*n,n⟩⟩,rfl,⟨?_,Blk.new _ _ _,Wl,by show(List.replicate n Sp.zero).length=n;simp,?_,HH.o.2.2.2⟩,⟨rfl,rfl,rfl,by unfold maF;simp⟩,by show w.heap.size<=w5.heap.size;omega,by show w.heap.size<=w3.heap.size;omega,by show w.heap.size<=k;omega,tt⟩;. have e:(List.replicate (2+2*n) (0:Int)).length+1=3+2*n:=(by simp;omega);have e2:List.replicate (2+2*n) (0:Int)++List.replicate (2+n) 0=List.replicate (4+3*n) 0:=(by rw[List.replicate_append_replicate,show 2+2*n+(2+n)=4+3*n by omega]);rw[e]at k6;simp only[e2]at k6;exact k6
  . unfold mS;have:=HH.o.2.2.1;simp;omega
def G4(s:Ar)(h1:1<=n):MaS n (ma0 s n):=by
 have e:∀i,sv (List.replicate n Sp.zero) i=Sp.zero:=λi=>by unfold sv;simp[List.getD_eq_getElem?_getD,List.getElem?_replicate];split<;>rfl
 have w0:∀y,ldW (List.replicate (4+3*n) (0:Int)) y=0:=λy=>by
  unfold ldW;split;.simp[List.getD_eq_getElem?_getD,List.getElem?_replicate];split<;>rfl
  .rfl
 refine⟨⟨h1,?_,?_,?_,?_,?_,?_,?_,?_,?_,?_,?_,?_,?_⟩,by simp[ma0],by simp[ma0]⟩;all_goals simp only[ma0,e,w0,jV]
 all_goals try simp only[Sp.zero]
 all_goals first|omega|(intros;omega)
end
section
open Go Go.RowKit
def CI(F:Int)(s:Ar)(b:Bn):(bnS F s b).1.ops<=s.ops+1:=by
 unfold bnS;repeat' split
 all_goals first|exact g8 _ _ _|exact iP _ _|simp
theorem DD(n:Nat)(bud:Int)(h:Mal)(i:Nat)(p:Sp):(maP n bud h i p).1.ops<=h.ar.ops+1:=by
 have I:=CI (maF n) h.ar h.bn;have h1:=λx v=>g8 h.ar x v;have H:=λx=>iP h.ar x;have V:=λx o v=>nz h.ar x o v;have Y:=λx v=>ju h.ar x v;have O:=λx v=>eY h.ar x v;unfold maP;split
 .unfold fi;repeat' split
  all_goals first|exact h1 _ _|exact H _|exact O _ _
 .unfold dw;grind (splits:=40)
def om(n:Nat)(bud:Int)(h:Mal)(i:Nat):(dO n bud h i).1.ar.ops<=h.ar.ops+1:=by
 unfold dO;split;.simp
 .exact DD n bud h i _
def mI(h:Mal)(i:Nat)(u v:Int):(ia h i u v).ar=h.ar:=by unfold ia;split<;>rfl
def maV(l:Nat):Value:= .iface 181 (agg #[.iface 185 ↑l])
def wO(n:Nat)(bud:Int):LkM n where
 σ:=Mal
 β:=Mx×Nat×Nat
 ok:=λst N=>MaS n st/\st.ar.ops<=N
 ar:=λst=>st.ar
 sp:=λst i=>sv st.S i
 cn:=λst i=>if (sv st.S i).pc=10 then 1 else 0
 rd:=false
 step:=λst i=>(dO n bud st i).1
 ask:=λst i r=>if r then st else ia st i 0 1
 leave:=λst i=>ia st i 10 11
 bt:=λb=>b.2.1
 hi:=λb=>b.2.2
 fp:=λb=>mS b.1
 is:=fun(b:Mx×Nat×Nat) w a g lb (st:Mal)=>bM w b.1 bud st/\(b.1.b.a=a/\b.1.b.g=g/\b.1.b.n=n/\(b.1.b.F:Int)=maF n)/\jt w lb n 10 (maV b.1.l) (mS b.1) b.2.1 b.2.2
def bM.far{w:World}{c:Mx}{bud:Int}{h:Mal}{S:List Nat}(k:bM w c bud h)(t:aa S w w')(H:∀x∈mS c,x∉S):bM w' c bud h:=by unfold mS at H;simp only[List.mem_cons,List.not_mem_nil,or_false,forall_eq_or_imp,forall_eq]at H;obtain⟨h1,I,O,V,Y⟩:=H;exact {k with bn:=k.bn.turns t V Y O,lk:=t.blk k.lk h1,sp:=k.sp.turns t I}
def sJ(n:Nat)(bud:Int)(st:Mal)(i:Nat)(hi:i<st.S.length):(dO n bud st i).2=dg (sv st.S i) (sv (dO n bud st i).1.S i):=by
 unfold dO dg;by_cases h:(sv st.S i).pc=0\/(sv st.S i).pc=10;.rw[if_pos h];symm;exact decide_eq_false (λq=>by omega)
 .rw[if_neg h];simp only[ba,hi,and_true,if_true];by_cases c:(maP n bud st i (sv st.S i)).2.2.2.pc=0\/(maP n bud st i (sv st.S i)).2.2.2.pc=10;.exact aaA
  .exact aaB
def uN(bud:Int)(hn:1<=n/\n<=32):(wO n bud).Good where
 n32:=hn
 okS:=fun(st:Mal) N i h _ hi=>⟨h.1.step bud hi,Nat.le_trans (om n bud st i) (by have:=h.2;omega)⟩
 okA:=fun(st:Mal) N i r h _ hi=>by
  show MaS n (if r then st else ia st i 0 1)/\_
  cases r
  .refine⟨?_,?_⟩
   .show MaS n (ia st i 0 1)
    unfold ia
    split
    .rename_i e;exact h.1.beg e (.inl ⟨rfl,rfl⟩)
    .exact h.1
   .show(ia st i 0 1).ar.ops<=_
    rw[mI];have:=h.2;omega
  .exact⟨h.1,by have:=h.2;show st.ar.ops<=_;omega⟩
 okL:=fun(st:Mal) N i h _ hi=>by
  refine⟨?_,?_⟩
  .show MaS n (ia st i 10 11)
   unfold ia
   split
   .rename_i e;exact h.1.beg e (.inr ⟨rfl,rfl⟩)
   .exact h.1
  .show(ia st i 10 11).ar.ops<=_
   rw[mI];have:=h.2;omega
 okm:=fun(st:Mal) N h=>⟨h.1,by have:=h.2;omega⟩
 one:=fun(st:Mal) N i j h hi hj h1 h2 _=>h.1.one hi hj h1 h2
 pcs:=fun(st:Mal) N i h hi=>by have:=h.1.i.pcs i hi;show 0<=(sv st.S i).pc;omega
 cnt:=fun(st:Mal) N i h hi=>by
  exact aaC
 opsS:=fun(st:Mal) N i _ _ _=>om n bud st i
 arA:=fun(st:Mal) i r=>by cases r;exact mI _ _ _ _;rfl
 arL:=fun(st:Mal) i=>mI _ _ _ _
 ais:=fun(b:Mx×Nat×Nat) w a g lb (st:Mal) h=>by obtain⟨k,⟨rfl,rfl,_⟩,_⟩:=h;exact k.bn.ar
 lk:=fun(b:Mx×Nat×Nat) w a g lb (st:Mal) h=>h.2.2.c1
 kd:=fun(b:Mx×Nat×Nat) w a g lb (st:Mal) h=>⟨10,h.2.2.blk.cell 0,rfl⟩
 fpa:=fun(b:Mx×Nat×Nat) w a g lb (st:Mal) h=>⟨λx O=>(h.2.2.fl x O).2,h.2.2.hw⟩
 far:=fun(b:Mx×Nat×Nat) w a g lb (st:Mal) w' S h t hS=>⟨h.1.far t (λx O m=>by have h9:b.2.2<=x\/x<b.2.1:=hS x m;have:=h.2.2.fl x O;omega),h.2.1,h.2.2.far t hS⟩
 cS:=fun(b:Mx×Nat×Nat) w a g lb (st:Mal) N i h hk hN hi=>by
  obtain⟨k,hc,hd⟩:=h
  refine(nQ .ma hd.c1 hd.c2 hi (R:=λr w'=>r=dg (sv st.S i) (sv (dO n bud st i).1.S i)/\bM w' b.1 bud (dO n bud st i).1/\aa (mS b.1) w w') λW bw=>?_).mono ?_
  .obtain⟨-,-,I,Y⟩:=hc
   have:=In (k.below bw) (by rw[I];exact hk.1) (by rw[I];exact Y) (by have:=hk.2;unfold lkB at hN;omega) i ahE
   rw[I]at this
   refine Pi this λw' H=>?_
   exact⟨_,rfl,sJ n bud st i (by rw[k.sl,I];exact hi),H.is,(aa.of_below bw).trans H.tn⟩
  .exact aaD
 cA:=fun(b:Mx×Nat×Nat) w a g lb (st:Mal) N i r h hk hN hi=>by
  obtain⟨k,hc,hd⟩:=h
  refine(x9 .ma hd.c1 hd.c2 hi r (R:=λq w'=>q=decide ((sv st.S i).pc=0/\(r=true->(false:Bool)=true))/\bM w' b.1 bud (if r then st else ia st i 0 1)/\aa (mS b.1) w w') (λV W bw=>?_) (λV W bw=>?_)).mono ?_
  .subst V
   refine Pi (IY (k.below bw) i (by have:=hc.2.2.1;omega)) λw' H=>?_
   exact⟨_,rfl,by simp,H.is,(aa.of_below bw).trans H.tn⟩
  .exact aaE
  .exact aaD
 cL:=fun(b:Mx×Nat×Nat) w a g lb (st:Mal) N i h hk hN hi=>by
  obtain⟨k,hc,hd⟩:=h
  refine(kA .ma hd.c1 hd.c2 hi (R:=λq w'=>q=decide ((sv st.S i).pc=10)/\bM w' b.1 bud (ia st i 10 11)/\aa (mS b.1) w w') λW bw=>?_).mono ?_
  .refine Pi (Fk (k.below bw) i (by have:=hc.2.2.1;omega)) λw' H=>?_
   exact⟨_,rfl,rfl,H.is,(aa.of_below bw).trans H.tn⟩
  .exact aaD
 cP:=fun(b:Mx×Nat×Nat) w a g lb (st:Mal) i h hi=>nO .ma h.2.2.c1 h.2.2.c2 hi _ λW bw=>Cb (h.1.below bw) i (by have:=h.2.1.2.2.1;omega)
 cC:=fun(b:Mx×Nat×Nat) w a g lb (st:Mal) i h hi=>nM .ma h.2.2.c1 h.2.2.c2 hi _ λW bw=>Cb (h.1.below bw) i (by have:=h.2.1.2.2.1;omega)
end
section
open Go.RowKit
section
variable{w w0:World}{g k bx:Nat}{x:Fx}{s s':Ar}{S S':List Sp}
def KIs.ci(h:KIs w a g 5 x s S):w.cell? x.l=some ↑a/\Z w x.l 1 (J x.t)/\Z w x.l 2 (slice (some ⟨x.q,0,none⟩) x.n x.cap):=⟨h.lk.cell 0,h.lk.cell 1,h.lk.cell 2⟩
structure KBx(w0 w:World)(a g:Nat)(x:Fx)(s:Ar)(S:List Sp)(bx:Nat):Prop where
 ki:KIs w a g 5 x s S
 bk:Blk w bx 299 #[↑x.l]
 nS:bx∉[a,g,x.q]
 tn:aa [a,g,x.q] w0 w
def KBx.to(h:KBx w0 w a g x s S bx)(k:KIs w' a g 5 x s' S')(t:aa [a,g,x.q] w w'):KBx w0 w' a g x s' S' bx:=⟨k,t.blk h.bk h.nS,h.nS,h.tn.trans t⟩
def KBx.drew(h:KBx w0 w a g x s S bx):KBx w0 w.drew a g x s S bx:=h.to (h.ki.below (Below.refl _ _).drew) (aa.refl _ _).drew
def KBx.op(h:KBx w0 w a g x s S bx)(t:aa [a,g] w w')(H:aB w' a g s'):KBx w0 w' a g x s' S bx:=h.to (h.ki.op t H) (aK t)
def KBx.put(h:KBx w0 w a g x s S bx){i:Nat}{p p':Sp}(O:S[i]? =some p)(I:j<4)(H:(bf p).set j u=bf p'):KBx w0 (w.setCell ⟨x.q,i*4+j,none⟩ u) a g x s (S.set i p') bx:=h.to (h.ki.put O I H) (aI (aV _ _ _))
def KBx.put0(h:KBx w0 w a g x s S bx){i:Nat}{p p':Sp}(I:S[i]? =some p)(H:(bf p).set 0 u=bf p'):KBx w0 (w.setCell ⟨x.q,i*4,none⟩ u) a g x s (S.set i p') bx:=h.put I (j:=0) ahG H
def KBx.new(h:KIs w a g 5 x s S):KBx w (w.alloc (cells #[↑x.l] 299)) a g x s S w.heap.size:=by have h1:=h.ar.blk.lt;have H:=h.ar.wds.lt;have I:=h.sp.lt;exact⟨h.below ((Below.refl _ _).alloc (Nat.le_refl _) _),Blk.new w _ _,by simp;omega,(aa.refl _ _).alloc _⟩
def KBx.cs(h:KBx w0 w a g x s S bx){i:Nat}{p:Sp}(H:S[i]? =some p):w.cell? bx=some ↑x.l/\w.cell? x.l=some ↑a/\Z w x.q (i*4+1) (J p.a)/\Z w x.q (i*4+2) (J p.b):=⟨h.bk.cell 0,h.ki.ci.1,h.ki.sp.cell H 1 _ rfl,h.ki.sp.cell H 2 _ rfl⟩
def mJ(h:KBx w0 w a g x s S bx)(n r:Int)(V:(x.t:Int)+n=r)(I:-10<=n/\n<=10000000000000):E 457 #[J n,↑bx] w λe w'=>e= returned (J r)/\w=w':=by
 have c0:w.cell? bx=some ↑x.l:=h.bk.cell 0;have c1:=h.ki.ci.2.1;have t1:=h.ki.t1;have H:IntKind.i64.wrap ((x.t:Int)+n)=r:=by rw[V];exact IntWalk.i64_in _ ahE
 clear h V;go_enter func457,ntmps457;exact aaa
def yQ(h:KIs w a g 5 x s S)(i:Nat)(u b z:Int)(hp:S[i]? =some (⟨1,u,b,z⟩:Sp))(Y:s.ops+1<=1000000000000)(hu:0<=u/\u<=1000000000000):E 454 #[↑x.l,J i] w (dB w a g 5 x s S i ⟨1,u,b,z⟩):=by
  refine aiV ?_;intro hi;have hn:=h.n32;refine ajp ?_;intro Ll N0 HP;obtain⟨O,I⟩:=LE ((x.t:Int)+u);obtain⟨ab,hv⟩:=LE (ae s O 1);have HX:Kq (bJ 5 x.t x.m s i ⟨1,u,b,z⟩=(ab,⟨2,u,b,z⟩)):=qh (by rw[hv,I];rfl);have V:=(λW (k:KIs W a g 5 x s S)=>am k.ar O 1 Y);rw[<-hv]at V;have HO:=qh V;have HB:=qh (λW (k:KBx w W a g x s S w.heap.size)=>mJ k u O I.symm ahE);have t1:=h.t1;clear V h hp hv I;go_enter func454,ntmps454;refine ajv ?_;intro a0 b0 N1;go_wp2_with (go_at_call 456;refine(Ll.o _ N0.o).mono ?_;rintro e w' ⟨rfl,rfl⟩);go_wp2_with fail
  go_region_held3 (λW=>W.cell? w.heap.size=some ↑x.l/\W.cell? x.l=some ↑a/\Z W x.q (i*4+1) (J u)/\Z W x.q (i*4+2) (J b))
    (first|with_reducible exact N1.o.cs HP.o|with_reducible exact H.o.cs HP.o)
    (first
      | (go_at_call 457;go_loud (refine LT (HB.o _ N1.o) ?_))
      | (go_at_call 177;go_loud (refine Op (HO.o _ N1.o.ki) λw3 a3=>?_);have H:=qh (N1.o.op a3.o.2 a3.o.1)))
  all_goals have d0:=ST (H.o.ki.sp.cell HP.o 0 _ rfl);have z0:=H.o.ki.sp.free (i*4);have N3:=qh (H.o.put0 HP.o (p':=(⟨2,u,b,z⟩:Sp)) (u:= J 2) rfl);go_wp2;go_ret;rw[dB,HX.o];exact⟨rfl,N3.o.ki,N3.o.tn⟩
def yR(h:KIs w a g 5 x s S)(i:Nat)(u b z:Int)(hp:S[i]? =some (⟨2,u,b,z⟩:Sp))(Y:s.ops+1<=1000000000000)(hu:0<=u/\u<=1000000000000):E 454 #[↑x.l,J i] w (dB w a g 5 x s S i ⟨2,u,b,z⟩):=by
  refine aiV ?_;intro hi;have hn:=h.n32;refine ajp ?_;intro Ll N0 HP;obtain⟨V,Kw⟩:=LE ((x.t:Int));obtain⟨ab,hv⟩:=LE (ch s V u);obtain⟨v,O⟩:=LE (ldW s.W V);have HX:Kq (bJ 5 x.t x.m s i ⟨2,u,b,z⟩=(ab,⟨3,u,v,z⟩)):=qh (by rw[hv,O,Kw];rfl);have hr:=(λW (k:KIs W a g 5 x s S)=>fu k.ar V u Y);rw[<-hv,<-O]at hr;have HO:=qh hr;have HB:=qh (λW (k:KBx w W a g x s S w.heap.size)=>mJ k 0 V (by rw[Kw];omega) ahE);have HC:=qh (λW s (S:List Sp) (N:KBx w W a g x s S w.heap.size) (y:Int) (hp:S[i]? =some (⟨2,u,y,z⟩:Sp))=>And.intro (N.cs hp).1 (And.intro (N.cs hp).2.1 (N.cs hp).2.2.1));have t1:=h.t1;clear hr h hp hv Kw O;go_enter func454,ntmps454;refine ajv ?_;intro a0 b0 N1;go_wp2_with (go_at_call 456;refine(Ll.o _ N0.o).mono ?_;rintro e w' ⟨rfl,rfl⟩);go_wp2_with fail
  go_region_held3 (λW=>W.cell? w.heap.size=some ↑x.l/\W.cell? x.l=some ↑a/\Z W x.q (i*4+1) (J u))
    (first|with_reducible exact HC.o _ _ _ N1.o _ HP.o|with_reducible exact HC.o _ _ _ H.o _ HP.o|with_reducible exact HC.o _ _ _ I.o _ (Jp HP.o _))
    (first
      | (go_at_call 457;go_loud (refine LT (HB.o _ N1.o) ?_))
      | (go_at_call 271;go_loud (refine Op (HO.o _ N1.o.ki) λw3 a3=>?_);have H:=qh (N1.o.op a3.o.2 a3.o.1);have I:=qh (H.o.put (p':=(⟨2,u,v,z⟩:Sp)) HP.o (j:=2) (u:= J v) ahG rfl);have e1:=H.o.ki.sp.cell HP.o 2 _ rfl;have z1:=H.o.ki.sp.free (i*4+2)))
  all_goals have d0:=ST (I.o.ki.sp.cell (Jp HP.o _) 0 _ rfl);have z0:=I.o.ki.sp.free (i*4);have N4:=qh (I.o.put0 (Jp HP.o _) (p':=(⟨3,u,v,z⟩:Sp)) (u:= J 3) rfl);clear e1 z1;go_wp2;go_ret;rw[dB,HX.o];have k:=N4.o.ki;rw[dV]at k;exact⟨rfl,k,N4.o.tn⟩
def yS(h:KIs w a g 5 x s S)(i:Nat)(u b z:Int)(hp:S[i]? =some (⟨3,u,b,z⟩:Sp))(Y:s.ops+1<=1000000000000)(I:0<=b/\b<=1000000000000):E 454 #[↑x.l,J i] w (dB w a g 5 x s S i ⟨3,u,b,z⟩):=by
  refine aiV ?_;intro hi;have hn:=h.n32;refine ajp ?_;intro Ll N0 HP;obtain⟨ad,Kw⟩:=LE ((x.t:Int)+b);obtain⟨ab,hv⟩:=LE (af s ad);obtain⟨v,O⟩:=LE (ldW s.W ad);have HX:Kq (bJ 5 x.t x.m s i ⟨3,u,b,z⟩=(ab,⟨if v=0 then 10 else 3,u,b,z⟩)):=qh (by rw[hv,O,Kw];rfl);have hr:=(λW (k:KIs W a g 5 x s S)=>aD k.ar ad Y);rw[<-hv,<-O]at hr;have HO:=qh hr;have HB:=qh (λW (k:KBx w W a g x s S w.heap.size)=>mJ k b ad Kw.symm ahE);have t1:=h.t1;clear hr h hp hv Kw O;cases hc:(v==0)
  . go_enter func454,ntmps454;refine ajv ?_;intro a0 b0 N1;go_wp2_with (go_at_call 456;refine(Ll.o _ N0.o).mono ?_;rintro e w' ⟨rfl,rfl⟩);go_wp2_with fail;refine wp_region_held_drew (S:=(λW=>W.cell? w.heap.size=some ↑x.l/\W.cell? x.l=some ↑a/\Z W x.q (i*4+1) (J u)/\Z W x.q (i*4+2) (J b))) ahH (by exact N1.o.cs HP.o) (λhHeld=>?_);refine aja ?_;refine wpAnyH_ready (rs:=[9]) ahH ahF ?_;refine AllReadyH.cons rfl (λK hK=>?_) AllReadyH.nil;go_simp;go_at_call 457;refine LT (HB.o _ N1.o) ?_;refine hK.out _ _ ?_ (λhHeld=>?_);. exact N1.o.cs HP.o
    clear hK K;try simp only[Act.put,List.setIfInBounds_toArray,List.set_cons_zero,List.set_cons_succ,List.getElem_toArray,List.getElem_cons_zero,List.getElem_cons_succ]
    refine wpAnyH_ready (rs:=[10]) ahH ahF ?_;refine AllReadyH.cons rfl (λK hK=>?_) AllReadyH.nil;go_simp;go_at_call 173;refine Op (HO.o _ N1.o.ki) λw3 a3=>?_;have H:=qh (N1.o.op a3.o.2 a3.o.1);refine hK.out _ _ ?_ (λhHeld=>?_);. exact H.o.cs HP.o
    clear hK K;try simp only[Act.put,List.setIfInBounds_toArray,List.set_cons_zero,List.set_cons_succ,List.getElem_toArray,List.getElem_cons_zero,List.getElem_cons_succ]
    refine tk 11 ?_;refine tk 12 ?_;refine tk 13 ?_;refine tk 14 ?_;refine tk 15 ?_;refine tk 16 ?_;refine tk 17 ?_;refine wpAnyH_done ahH ?_ _;go_wp2;go_ret;rw[dB,HX.o];rw[if_neg ahL,b9 HP.o];exact⟨rfl,H.o.ki,H.o.tn⟩
  . go_enter func454,ntmps454;refine ajv ?_;intro a0 b0 N1;go_wp2_with (go_at_call 456;refine(Ll.o _ N0.o).mono ?_;rintro e w' ⟨rfl,rfl⟩);go_wp2_with fail;first
    | (go_region_held3 (λW=>W.cell? w.heap.size=some ↑x.l/\W.cell? x.l=some ↑a/\Z W x.q (i*4+1) (J u)/\Z W x.q (i*4+2) (J b))
        (first|with_reducible exact N1.o.cs HP.o|with_reducible exact H.o.cs HP.o|with_reducible exact N4.o.cs (Jp HP.o _))
        (first
          | (go_at_call 457;go_loud (refine LT (HB.o _ N1.o) ?_))
          | (go_at_call 173;go_loud (refine Op (HO.o _ N1.o.ki) λw3 a3=>?_);have H:=qh (N1.o.op a3.o.2 a3.o.1);have HT:=qh (jW .clh i _ _ HP.o (by rw[b9 HP.o];exact H.o.ki) 10))
          | (go_at_call 455;go_loud (refine Op HT.o λw4 k4=>?_);have N4:=qh (H.o.to k4.o.1 (aI k4.o.2)))))
    | fail "held"
    all_goals go_wp2;go_ret;rw[dB,HX.o];rw[if_pos ahL];exact⟨rfl,N4.o.ki,N4.o.tn⟩
def vy(h:KIs w a g 5 x s S)(i:Nat)(u b z:Int)(hp:S[i]? =some (⟨11,u,b,z⟩:Sp))(Y:s.ops+1<=1000000000000)(hu:0<=u/\u<=1000000000000):E 454 #[↑x.l,J i] w (dB w a g 5 x s S i ⟨11,u,b,z⟩):=by
  refine aiV ?_;intro hi;have hn:=h.n32;refine ajp ?_;intro Ll N0 HP;obtain⟨O,I⟩:=LE ((x.t:Int)+u);obtain⟨ab,hv⟩:=LE (ae s O 0);have HX:Kq (bJ 5 x.t x.m s i ⟨11,u,b,z⟩=(ab,⟨0,b,b,z⟩)):=qh (by rw[hv,I];rfl);have V:=(λW (k:KIs W a g 5 x s S)=>am k.ar O 0 Y);rw[<-hv]at V;have HO:=qh V;have HB:=qh (λW (k:KBx w W a g x s S w.heap.size)=>mJ k u O I.symm ahE);have t1:=h.t1;clear V h hp hv I;go_enter func454,ntmps454;refine ajv ?_;intro a0 b0 N1;go_wp2_with (go_at_call 456;refine(Ll.o _ N0.o).mono ?_;rintro e w' ⟨rfl,rfl⟩);go_wp2_with fail
  go_region_held3 (λW=>W.cell? w.heap.size=some ↑x.l/\W.cell? x.l=some ↑a/\Z W x.q (i*4+1) (J u)/\Z W x.q (i*4+2) (J b))
    (first|with_reducible exact N1.o.cs HP.o|with_reducible exact H.o.cs HP.o)
    (first
      | (go_at_call 457;go_loud (refine LT (HB.o _ N1.o) ?_))
      | (go_at_call 177;go_loud (refine Op (HO.o _ N1.o.ki) λw3 a3=>?_);have H:=qh (N1.o.op a3.o.2 a3.o.1)))
  all_goals have d1:=H.o.ki.sp.cell HP.o 1 _ rfl;have d2:=H.o.ki.sp.cell HP.o 2 _ rfl;have z1:=H.o.ki.sp.free (i*4+1);have b2:=H.o.bk.cell 0;have N3:=qh (H.o.put HP.o (p':=(⟨11,b,b,z⟩:Sp)) (j:=1) (u:= J b) ahG rfl);have HT:=qh (jW .clh i _ _ HP.o N3.o.ki 0);go_wp2_with (go_at_call 455;refine HT.o.mono ?_;rintro e w' ⟨rfl,k4,t4⟩;have N4:=qh (N3.o.to k4 (aI t4));clear k4 t4);go_ret;rw[dB,HX.o];exact⟨rfl,N4.o.ki,N4.o.tn⟩
def qf(h:KIs w a g 5 x s S)(i:Nat)(p:Sp)(hp:S[i]? =some p)(H:p.pc=0\/p.pc=10):E 454 #[↑x.l,J i] w (dB w a g 5 x s S i p):=by
  refine aiV ?_;intro hi;refine ajp ?_;intro Ll N0 HP;obtain⟨c,u,b,z⟩:=p;clear h hp;simp only at H;rcases H with rfl|rfl
  all_goals go_enter func454,ntmps454;refine ajv ?_;intro a0 b0 N1;go_wp2_with (go_at_call 456;refine(Ll.o _ N0.o).mono ?_;rintro e w' ⟨rfl,rfl⟩);go_ret;refine⟨rfl,?_,N0.o.tn⟩;have k:=N0.o.ki;rw[<-b9 HP.o]at k;exact k
def xw(h:KIs w a g 5 x s S)(i:Nat)(p:Sp)(hp:S[i]? =some p)(H':p.pc=10)(Y:s.ops+1<=1000000000000):E 449 #[↑x.l,J i] w (pw w a g 5 x s S i p):=by
  refine aiV ?_;intro hi;have hn:=h.n32;have Ny:=h.cap;have KE:=aM;have t2:¬(i:Int)<0:=by omega
  obtain⟨c,u,b,z⟩:=p;simp only at H';subst H';obtain⟨ab,hv⟩:=LE (af s x.t);obtain⟨v,O⟩:=LE (ldW s.W x.t);have HX:Kq (cB 5 x.t s i ⟨10,u,b,z⟩=(ab,decide (v=u))):=qh ahQ;have hr:=(λW (k:KIs W a g 5 x s S)=>aD k.ar x.t Y);rw[<-hv,<-O]at hr;have HO:=qh hr;have HS:=qh (λW (k:KIs W a g 5 x s S)=>ed .clh k i _ hp);have H:Kq (∀W s (S':List Sp),KIs W a g 5 x s S'->S'[i]? =some (⟨10,u,b,z⟩:Sp)->W.cell? x.l=some ↑a/\Z W x.l 1 (J x.t)/\Z W x.l 2 (slice (some ⟨x.q,0,none⟩) x.n x.cap)/\Z W x.q (i*4+1) (J u)):=qh (λW s S' k hp=>⟨k.ci.1,k.ci.2.1,k.ci.2.2,k.sp.cell hp 1 _ rfl⟩);have I:=qh hp;have V:=qh (h.below ((Below.refl _ w).drew));clear hr h hp hv O;cases hd:(v==u)
  all_goals
    go_enter func449,ntmps449;go_wp2_with fail;first
    | (go_region_held3 (λW=>W.cell? x.l=some ↑a/\Z W x.l 1 (J x.t)/\Z W x.l 2 (slice (some ⟨x.q,0,none⟩) x.n x.cap)/\Z W x.q (i*4+1) (J u))
        (first|with_reducible exact H.o _ _ _ V.o I.o|with_reducible exact H.o _ _ _ K2.o I.o|with_reducible exact H.o _ _ _ K3.o I.o)
        (first
          | (go_at_call 453;go_loud (refine(HS.o _ V.o).mono ?_);unfold aF;rintro en w2 ⟨rfl,b2⟩;have K2:=qh (V.o.below b2);have T2:=qh (((aa.refl [a,g,x.q] w).drew).trans (aa.of_below b2));clear b2)
          | (go_at_call 173;go_loud (refine Op (HO.o _ K2.o) λw3 a3=>?_);have K3:=qh (K2.o.op a3.o.2 a3.o.1);have T3:=qh (T2.o.trans (aK a3.o.2)))))
    | fail "held"
  all_goals go_wp2;go_ret;rw[pw,HX.o];first| exact⟨by rw[decide_eq_true ahU];rfl,K3.o,T3.o⟩| exact⟨by rw[decide_eq_false ahU];rfl,K3.o,T3.o⟩
end
end
section
open Go.RowKit
variable{P:Prop}
def ifV(k l:Nat):Value:=
 match k with
 |1=> .iface 289 (agg #[↑l])
 |2=> .iface 290 ↑l
 |3=> .iface 293 ↑l
 |4=> .iface 296 ↑l
 |_=> .iface 299 ↑l
structure de(w:World)(a g k:Nat)(x:Fx)(s:Ar)(S:List Sp):Prop where
 p:Blk w x.p 303 #[int i64 (k:Int),ifV k x.l]
 ki:KIs w a g k x s S
 pa:x.p≠a
 pg:x.p≠g
 pq:x.p≠x.q
def KOk(k:Nat):Prop:=k=1\/k=2\/k=3\/k=4\/k=5
def KOk.of{k:Nat}(h:1<=k/\k<=5):KOk k:=by unfold KOk;omega
def KOk.le{k:Nat}(h:KOk k):1<=k/\k<=5:=by unfold KOk at h;omega
def pcK(k:Nat)(p:Sp):Prop:=
 if k=4 then iQ p else if k=5 then p.pc=0\/p.pc=1\/p.pc=2\/p.pc=3\/p.pc=10\/p.pc=11 else p.pc=0\/p.pc=1\/p.pc=2\/p.pc=10\/p.pc=11
section
variable{w:World}{g k:Nat}{x:Fx}{s s':Ar}{S S':List Sp}{T:List Nat}
def de.turns(h:de w a g k x s S)(t:aa T w w')(H:x.p∉T)(h1:x.l∉T)(I:a∉T)(O:g∉T)(V:x.q∉T):de w' a g k x s S:=
 {h with p:=t.blk h.p H,ki:=h.ki.turns t h1 I O V}
def de.below(h:de w a g k x s S)(t:Below w.heap.size w w'):de w' a g k x s S:=
 h.turns (T:=[]) (aa.of_below t) ahF ahF ahF ahF ahF
def de.to(h:de w a g k x s S)(t:aa [a,g,x.q] w w')(H:KIs w' a g k x s' S'):de w' a g k x s' S':=
 {h with p:=t.blk h.p (by simp[h.pa,h.pg,h.pq]),ki:=H}
def de.oth(h:de w a g k x s S)(t:aa T w w')(O:aB w' a g s')(H:x.p∉T)(h1:x.l∉T)(I:x.q∉T):de w' a g k x s' S:=
 {h with p:=t.blk h.p H,ki:={h.ki with ar:=O,lk:=t.blk h.ki.lk h1,sp:=h.ki.sp.turns t I}}
def kX(h:de w a g k x s S)(H:k≠0):E 244 #[↑x.p] w λe w'=>e= returned (bool true)/\w=w':=by
 have c0:w.cell? x.p=some (J (k:Int)):=h.p.cell 0;have u0:((k:Int) !=0)=true:=by simpa using H
 clear h;go_enter func244,ntmps244;exact aaa
def yX(h:KIs w a g 2 x s S)(C:kH 2 x s S B)(i:Nat)(p:Sp)(H:S[i]? =some p)(hc:pcK 2 p):E 418 #[↑x.l,J i] w (dB w a g 2 x s S i p):=by
  have I:=C.sp H;have Y:=C.ops;have hB:=C.B1;have JJ:=C.B0;have V:=C.w.ld ahE x.t;have O:p.pc=0\/p.pc=1\/p.pc=2\/p.pc=10\/p.pc=11:=hc;obtain⟨pc,u,b,z⟩:=p;have a0:=I.a0;have a1:=I.a1;simp only at O a0 a1;rcases O with rfl|rfl|rfl|rfl|rfl
  . exact oX h i _ H (.inl rfl)
  . exact vC h i u b z H Y C.inr V.1 ahE
  . exact vD h i u b z H Y
  . exact oX h i _ H (.inr rfl)
  . exact tN h i u b z H Y ahE ahE
def yW(h:KIs w a g 1 x s S)(C:kH 1 x s S B)(i:Nat)(p:Sp)(H:S[i]? =some p)(hc:pcK 1 p):E 410 #[↑x.l,J i] w (dB w a g 1 x s S i p):=by
  have I:=C.sp H;have Y:=C.ops;have V:=C.B1;have O:p.pc=0\/p.pc=1\/p.pc=2\/p.pc=10\/p.pc=11:=hc;obtain⟨pc,u,b,z⟩:=p;have a0:=I.a0;have a1:=I.a1;have b0:=I.b0;have b1:=I.b1;simp only at O a0 a1 b0 b1;rcases O with rfl|rfl|rfl|rfl|rfl
  . exact qi h i _ H (.inl rfl)
  . exact yU h i u b z H Y a0 ahE
  . exact yV h i u b z H ahE ahE
  . exact qi h i _ H (.inr rfl)
  . exact vB h i u b z H Y
def yT(h:KIs w a g 3 x s S)(C:kH 3 x s S B)(i:Nat)(p:Sp)(H:S[i]? =some p)(hc:pcK 3 p):E 430 #[↑x.l,J i] w (dB w a g 3 x s S i p):=by
  have I:=C.sp H;have Y:=C.ops;have hB:=C.B1;have JJ:=C.B0;have V:=C.w.ld ahE x.t;have O:p.pc=0\/p.pc=1\/p.pc=2\/p.pc=10\/p.pc=11:=hc;obtain⟨pc,u,b,z⟩:=p;have a0:=I.a0;have a1:=I.a1;simp only at O a0 a1;rcases O with rfl|rfl|rfl|rfl|rfl
  . exact oV h i _ H (.inl rfl)
  . exact vz h i u b z H Y C.inr V.1 ahE
  . exact vA h i u b z H Y ⟨a0,by omega⟩
  . exact oV h i _ H (.inr rfl)
  . exact tM h i u b z H Y ⟨a0,by omega⟩
def Cf(h:KIs w a g 5 x s S)(C:kH 5 x s S B)(i:Nat)(p:Sp)(H:S[i]? =some p)(hc:pcK 5 p):E 454 #[↑x.l,J i] w (dB w a g 5 x s S i p):=by
  have I:=C.sp H;have Y:=C.ops;have V:=C.B1;have O:p.pc=0\/p.pc=1\/p.pc=2\/p.pc=3\/p.pc=10\/p.pc=11:=hc;obtain⟨pc,u,b,z⟩:=p;have a0:=I.a0;have a1:=I.a1;have b1:=I.b1;have b2:=I.b2 ahG;simp only at O a0 a1 b1 b2;rcases O with rfl|rfl|rfl|rfl|rfl|rfl
  . exact qf h i _ H (.inl rfl)
  . exact yQ h i u b z H Y ⟨a0,by omega⟩
  . exact yR h i u b z H Y ⟨a0,by omega⟩
  . exact yS h i u b z H Y ⟨b2,by omega⟩
  . exact qf h i _ H (.inr rfl)
  . exact vy h i u b z H Y ⟨a0,by omega⟩
def rJ(h:KIs w a g 2 x s S)(i:Nat)(p:Sp)(H:S[i]? =some p):E 417 #[↑x.l,J i] w λe w'=>e= returned (aF p)/\Below w.heap.size w w':=by refine ai8 ?_;intro b1;have h1:=h.below b1;have O:=qh (ed .ticket h1 i p H);have HB:=qh b1;clear h h1 H b1;go_enter func417,ntmps417;go_wp2_with (go_at_call 419;refine(eg _ _).mono ?_;rintro e w' ⟨rfl,rfl⟩);go_wp2_with fail;refine Pi O.o λw2 b2=>?_;exact rr
def zm(w:World)(a g k:Nat)(x:Fx)(s:Ar)(S:List Sp)(i:Nat)(p:Sp)(e:Ending)(w':World):Prop:=
 e= returned (bool (bo p (bJ k x.t x.m s i p).2))/\de w' a g k x (bJ k x.t x.m s i p).1 (S.set i (bJ k x.t x.m s i p).2)/\aa [a,g,x.q] w w'
def EG(w:World)(a g k:Nat)(x:Fx)(s:Ar)(S:List Sp)(i:Nat)(p:Sp)(e:Ending)(w':World):Prop:=
 e= returned (bool (cB k x.t s i p).2)/\de w' a g k x (cB k x.t s i p).1 S/\aa [a,g,x.q] w w'
def iI(h:P:=by
    unfold ifV at c1
    clear h hp
    first
      | go_enter func241,ntmps241
      | go_enter func248,ntmps248
      | go_enter func245,ntmps245
      | go_enter func247,ntmps247
    go_wp2_with fail
    refine HM.o.mono ?_
    rintro en w1 ⟨rfl,rfl⟩
    go_wp2_with fail
    refine H2.o.mono ?_
    rintro en w2 ⟨rfl,k2,t2⟩
    have H3:=qh (And.intro k2 t2)
    clear k2 t2
    go_wp2
    go_ret
    first
      | exact⟨rfl,H.o.to H3.o.2 H3.o.1,H3.o.2⟩
      | exact⟨rfl,H.o.to (aI H3.o.2) H3.o.1,H3.o.2⟩):P:=h
def uE(h:de w a g k x s S)(hk:KOk k)(i:Nat)(p:Sp)(hp:S[i]? =some p):E 241 #[↑x.p,J i] w λe w'=>e= returned (bool (decide (p.pc=0)))/\de w' a g k x s (S.set i (askK k p))/\aa [x.q] w w':=by
  refine ajM ?_;intro HM c1 H;rcases hk with rfl|rfl|rfl|rfl|rfl
  . have H2:=qh (CE h.ki i p hp);exact iI
  . have H2:=qh (uf h.ki i p hp);exact iI
  . have H2:=qh (ue .parted h.ki i p hp);exact iI
  . have H2:=qh (ue .mcs h.ki i p hp);exact iI
  . have H2:=qh (ue .clh h.ki i p hp);exact iI
def nX(h:de w a g k x s S)(hk:KOk k)(i:Nat)(p:Sp)(hp:S[i]? =some p):E 248 #[↑x.p,J i] w λe w'=>e= returned (bool (decide (p.pc=10)))/\de w' a g k x s (S.set i (a9 p))/\aa [x.q] w w':=by
  refine ajM ?_;intro HM c1 H;rcases hk with rfl|rfl|rfl|rfl|rfl
  . have H2:=qh (yh h.ki i p hp);exact iI
  . have H2:=qh (qQ h.ki i p hp);exact iI
  . have H2:=qh (n5 .parted h.ki i p hp);exact iI
  . have H2:=qh (n5 .mcs h.ki i p hp);exact iI
  . have H2:=qh (n5 .clh h.ki i p hp);exact iI
def qE(h:de w a g k x s S)(hk:KOk k)(i:Nat)(p:Sp)(hp:S[i]? =some p)(C:kH k x s S B)(hc:pcK k p):E 245 #[↑x.p,J i] w (zm w a g k x s S i p):=by
  refine ajM ?_;intro HM c1 H;rcases hk with rfl|rfl|rfl|rfl|rfl
  . have H2:=qh (yW h.ki C i p hp hc);exact iI
  . have H2:=qh (yX h.ki C i p hp hc);exact iI
  . have H2:=qh (yT h.ki C i p hp hc);exact iI
  . have H2:=qh (Cg h.ki C i p hp hc);exact iI
  . have H2:=qh (Cf h.ki C i p hp hc);exact iI
def AD(h:de w a g k x s S)(hk:KOk k)(i:Nat)(p:Sp)(hp:S[i]? =some p)(C:kH k x s S B)(hc:p.pc=10):E 247 #[↑x.p,J i] w (EG w a g k x s S i p):=by
  refine ajM ?_;intro HM c1 H;rcases hk with rfl|rfl|rfl|rfl|rfl
  . have H2:=qh (uc h.ki i p hp hc);exact iI
  . have H2:=qh (ud h.ki i p hp hc C.ops (by have:=(C.sp hp).a0;omega) (by have:=(C.sp hp).a1;have:=C.B1;omega));exact iI
  . have H2:=qh (qr h.ki i p hp hc C.ops ⟨(C.sp hp).a0,by have:=(C.sp hp).a1;have:=C.B1;omega⟩);exact iI
  . have H2:=qh (xx h.ki i p hp hc C.ops);exact iI
  . have H2:=qh (xw h.ki i p hp hc C.ops);exact iI
def AC(h:P:=by
    unfold ifV at c1
    clear h h1 hp b1
    go_enter func360,ntmps360
    go_wp2_with fail
    refine HM.o.mono ?_
    rintro en w1 ⟨rfl,rfl⟩
    go_wp2_with fail
    refine HS.o.mono ?_
    rintro en w2 ⟨rfl,b2⟩
    exact rr):P:=h
def wF(h:de w a g k x s S)(hk:KOk k)(i:Nat)(p:Sp)(hp:S[i]? =some p):E 360 #[↑x.p,J i] w λe w'=>e= returned (aF p)/\Below w.heap.size w w':=by
  have H:=h.p.lt;refine ai8 ?_;intro b1;have h1:=h.below b1;have c1:(w.alloc (cells #[J 0,J 0,J 0,J 0] 113)).cell? ⟨x.p,1,none⟩=some (ifV k x.l):=h1.p.cell 1;have HM:=qh (kX h1 aid);have HB:=qh b1;rcases hk with rfl|rfl|rfl|rfl|rfl
  . have HS:=qh (ed .tas h1.ki i p hp);exact AC
  . have HS:=qh (rJ h1.ki i p hp);exact AC
  . have HS:=qh (ed .parted h1.ki i p hp);exact AC
  . have HS:=qh (ed .mcs h1.ki i p hp);exact AC
  . have HS:=qh (ed .clh h1.ki i p hp);exact AC
end
end
section
open Go
variable{p p' t q:Sp}{G':List Sp}
def di(p q:Sp):Prop:=
 (p.pc=0/\q.pc=0)\/(p.pc=1/\0<q.pc/\q.pc<10)\/
  ((p.pc=2\/p.pc=3\/p.pc=4\/p.pc=10\/p.pc=11\/p.pc=12\/p.pc=13\/p.pc=14\/p.pc=15)/\q.pc=10)\/(p.pc=16/\10<q.pc)
def i1{k:Nat}{t:Int}{s:Ar}{i:Int}(h:1<=k/\k<=5)(hc:pcK k p):pcK k (bJ k t m s i p).2/\(0<p.pc->p.pc<10->0<(bJ k t m s i p).2.pc/\(bJ k t m s i p).2.pc<=10)/\(10<p.pc->(bJ k t m s i p).2.pc=0\/10<(bJ k t m s i p).2.pc):=by
  unfold bJ;split;. rename_i h1;subst h1;obtain⟨pc,u,b,z⟩:=p;simp only[pcK,iQ,reduceIte,show ¬(1=4)by decide,show ¬(1=5)by decide]at hc ⊢;unfold vF;rcases hc with rfl|rfl|rfl|rfl|rfl<;>simp<;>split<;>simp<;>omega
  split;. rename_i h1;subst h1;obtain⟨pc,u,b,z⟩:=p;simp only[pcK,iQ,reduceIte,show ¬(2=4)by decide,show ¬(2=5)by decide]at hc ⊢;unfold ph;rcases hc with rfl|rfl|rfl|rfl|rfl<;>simp<;>split<;>simp<;>omega
  split;. rename_i h1;subst h1;obtain⟨pc,u,b,z⟩:=p;simp only[pcK,iQ,reduceIte,show ¬(3=4)by decide,show ¬(3=5)by decide]at hc ⊢;unfold oD;rcases hc with rfl|rfl|rfl|rfl|rfl<;>simp<;>split<;>simp<;>omega
  split
  . rename_i h1;subst h1;obtain⟨pc,u,b,z⟩:=p;simp only[pcK,iQ,reduceIte]at hc ⊢;unfold mg;split;. unfold eH;(repeat' split)<;>simp_all<;>omega
    split;. unfold dH;(repeat' split)<;>simp_all<;>omega
    . simp only;omega
  . obtain rfl:k=5:=by omega
    obtain⟨pc,u,b,z⟩:=p;simp only[pcK,iQ,reduceIte,show ¬(5=4)by decide]at hc ⊢;unfold ut;rcases hc with rfl|rfl|rfl|rfl|rfl|rfl<;>simp<;>split<;>simp<;>omega
def qx(h:0<p.pc)(h1:p.pc<10)(H:0<p'.pc):bo p p'=decide (p'.pc=10):=by
 unfold bo;have:¬p.pc=0:=by omega
 have:¬p.pc=10:=by omega
 have:¬p'.pc=0:=by omega
 simp[*]
def ny(h:10<p.pc)(H:p'.pc=0\/10<p'.pc):bo p p'=decide (p'.pc=0):=by
 unfold bo;have:¬p.pc=0:=by omega
 have:¬p.pc=10:=by omega
 have:¬p'.pc=10:=by omega
 simp[*]
def mH{k:Nat}(h:p.pc=0):(askK k p).pc=1:=by unfold askK;rw[if_pos h];split<;>rfl
def mc(h:p.pc=10):(a9 p).pc=11:=by unfold a9;rw[if_pos h]
def nh{k:Nat}(hc:pcK k p):pcK k (askK k p):=by
 by_cases h:p.pc=0;.have e:=mH (k:=k) h;unfold pcK iQ;rw[e];exact aaJ
 .unfold askK;rw[if_neg h];exact hc
def ji{k:Nat}(hc:pcK k p):pcK k (a9 p):=by
 by_cases h:p.pc=10;.have e:=mc h;unfold pcK iQ;rw[e];exact aaJ
 .unfold a9;rw[if_neg h];exact hc
section
variable (c:CoC)(st:Co)(i:Nat)(u b z:Int)
def mv1:cX c st i ⟨1,u,b,z⟩=((stL c st i).1,st.G,setL c st i (stL c st i).2,if lC c st i then⟨2,u,b,z⟩else⟨1,u,b,z⟩):=rfl
def mv2:cX c st i ⟨2,u,b,z⟩=if 0<ldW st.s.W (c.cw (c.node i))then(af st.s (c.cw (c.node i)),st.G,st.L,⟨10,ldW st.s.W (c.cw (c.node i)),b,z⟩)
    else(af st.s (c.cw (c.node i)),st.G.set (c.node i) (askK c.kg (sv st.G (c.node i))),st.L,⟨3,ldW st.s.W (c.cw (c.node i)),b,z⟩):=rfl
def mv3:cX c st i ⟨3,u,b,z⟩=((stG c st i).1,st.G.set (c.node i) (stG c st i).2,st.L,if nt c st i then⟨4,u,b,z⟩else⟨3,u,b,z⟩):=rfl
def mv4:cX c st i ⟨4,u,b,z⟩=(ae st.s (c.cw (c.node i)) 1,st.G,st.L,⟨10,1,b,z⟩):=rfl
def Fw:cX c st i ⟨11,u,b,z⟩=(af st.s (c.cw (c.node i)),st.G,st.L,⟨if c.bud<ldW st.s.W (c.cw (c.node i))then 14 else 12,ldW st.s.W (c.cw (c.node i)),b,z⟩):=rfl
def Fy:cX c st i ⟨12,u,b,z⟩=((cB c.kl (c.tl (c.node i)) st.s (c.slot i) (lsp st.L (c.node i) (c.slot i))).1,st.G,st.L,
    ⟨if mz u c.bud (cB c.kl (c.tl (c.node i)) st.s (c.slot i) (lsp st.L (c.node i) (c.slot i))).2 then 13 else 14,u,b,z⟩):=rfl
def Fz:cX c st i ⟨13,u,b,z⟩=(ae st.s (c.cw (c.node i)) (u+1),st.G,setL c st i (a9 (lsp st.L (c.node i) (c.slot i))),⟨16,u,b,z⟩):=rfl
def FA:cX c st i ⟨14,u,b,z⟩=(ae st.s (c.cw (c.node i)) 0,st.G.set (c.node i) (a9 (sv st.G (c.node i))),st.L,⟨15,u,b,z⟩):=rfl
def FB:cX c st i ⟨15,u,b,z⟩=if nt c st i then((stG c st i).1,st.G.set (c.node i) (stG c st i).2,setL c st i (a9 (lsp st.L (c.node i) (c.slot i))),⟨16,u,b,z⟩)
    else((stG c st i).1,st.G.set (c.node i) (stG c st i).2,st.L,⟨15,u,b,z⟩):=rfl
def FC:cX c st i ⟨16,u,b,z⟩=((stL c st i).1,st.G,setL c st i (stL c st i).2,if lC c st i then⟨0,u,b,z⟩else⟨16,u,b,z⟩):=rfl
end
structure CoV(c:CoC)(n:Nat)(st:Co):Prop where
 g:∀p∈st.G,pcK c.kg p
 l:∀x∈st.L,∀p∈x,pcK c.kl p
 k:∀i,i<n->di (sv st.T i) (lsp st.L (c.node i) (c.slot i))
 lT:n<=st.T.length
 lG:∀i,i<n->c.node i<st.G.length
 lL:∀i,i<n->c.node i<st.L.length/\c.slot i<(st.L.getD (c.node i) []).length
def Inj(c:CoC)(n:Nat):Prop:=∀i j,i<n->j<n->c.node i=c.node j->c.slot i=c.slot j->i=j
def sH{L:List (List Sp)}{i:Nat}(I:n<L.length)(hi:i<(L.getD n []).length)(m j:Nat):lsp (jE L n i p) m j=if n=m/\i=j then p else lsp L m j:=by
 unfold lsp jE;rw[List.getD_eq_getElem?_getD (l:=L.set _ _),List.getElem?_set];by_cases h1:n=m
 .subst h1;rw[if_pos rfl,if_pos I];show(List.set _ _ _).getD _ _=_;rw[List.getD_eq_getElem?_getD,List.getElem?_set];by_cases H:i=j;.subst H;rw[if_pos rfl,if_pos hi,if_pos ⟨rfl,rfl⟩];rfl
  .rw[if_neg H,if_neg (λh=>H h.2),List.getD_eq_getElem?_getD (l:=L.getD n [])]
 .rw[if_neg h1,if_neg (λh=>h1 h.1),List.getD_eq_getElem?_getD (l:=L)]
def oj(L:List (List Sp))(n i:Nat)(p:Sp)(m:Nat):((jE L n i p).getD m []).length=(L.getD m []).length/\(jE L n i p).length=L.length:=by
 refine⟨?_,by unfold jE;simp⟩;unfold jE;rw[List.getD_eq_getElem?_getD,List.getElem?_set];by_cases h1:n=m
 .subst h1;rw[if_pos rfl];split;.simp
  .rename_i h;rw[List.getD_eq_getElem?_getD,List.getElem?_eq_none ahE]
 .rw[if_neg h1,List.getD_eq_getElem?_getD]
section
variable{c:CoC}{st:Co}
def CoV.lpc(h:CoV c n st){i:Nat}(hi:i<n):pcK c.kl (lsp st.L (c.node i) (c.slot i)):=by
 obtain⟨h1,H⟩:=h.lL i hi;have I:st.L.getD (c.node i) []∈st.L:=by exact aaK
 have O:lsp st.L (c.node i) (c.slot i)∈st.L.getD (c.node i) []:=by unfold lsp;rw[List.getD_eq_getElem?_getD (l:=st.L.getD _ _),List.getElem?_eq_getElem H];exact List.getElem_mem H
 exact h.l _ I _ O
def CoV.gpc(h:CoV c n st){i:Nat}(hi:i<n):pcK c.kg (sv st.G (c.node i)):=by have h1:=h.lG i hi;refine h.g _ ?_;unfold sv;exact aaK
def CoV.thr(h:CoV c n st)(O:Inj c n){i:Nat}(hi:i<n)(hl:di t q)(j:Nat)(I:j<n)(H:List (List Sp))(V:lsp H (c.node i) (c.slot i)=q)(Y:∀m s,¬(c.node i=m/\c.slot i=s)->lsp H m s=lsp st.L m s):di (sv (st.T.set i t) j) (lsp H (c.node j) (c.slot j)):=by
  rw[ba];by_cases e:i=j;. subst e;rw[if_pos ⟨rfl,by have:=h.lT;omega⟩,V];exact hl
  . rw[if_neg (λk=>e k.1),Y _ _ (λk=>e (O i j hi I k.1 k.2))];exact h.k j I
def CoV.upd(h:CoV c n st)(Y:Inj c n){i:Nat}(hi:i<n)(s':Ar)(V:∀p∈G',pcK c.kg p)(O:G'.length=st.G.length)(hq:pcK c.kl q)(hl:di t q):CoV c n ⟨s',G',setL c st i q,st.T.set i t⟩:=by
 obtain⟨h1,I⟩:=h.lL i hi;refine⟨V,?_,λj H=>h.thr Y hi hl j H _ ?_ ?_,by simpa using h.lT,λj H=>by rw[O];exact h.lG j H,λj H=>?_⟩;.exact ef h.l _ (ef (h.l _ (by rw[List.getD_eq_getElem?_getD,List.getElem?_eq_getElem h1];exact List.getElem_mem h1)) _ hq)
 .unfold setL;rw[sH h1 I,if_pos ⟨rfl,rfl⟩]
 .intro m s hn;unfold setL;rw[sH h1 I,if_neg hn]
 .unfold setL;rw[(oj _ _ _ _ _).1,(oj _ _ _ _ 0).2];exact h.lL j H
def CoV.upd0(h:CoV c n st)(V:Inj c n){i:Nat}(hi:i<n)(s':Ar)(O:∀p∈G',pcK c.kg p)(I:G'.length=st.G.length)(Y:di t (lsp st.L (c.node i) (c.slot i))):CoV c n ⟨s',G',st.L,st.T.set i t⟩:=
 ⟨O,h.l,λj H=>h.thr V hi Y j H _ rfl (λ_ _ _=>rfl),by simpa using h.lT,λj H=>by rw[I];exact h.lG j H,h.lL⟩
theorem r8(h:CoV c n st)(hI:Inj c n)(hk:(1<=c.kg/\c.kg<=5)/\1<=c.kl/\c.kl<=5){i:Nat}(hi:i<n):CoV c n (aj c st i):=by
 have H:=h.k i hi;have O:=h.lpc hi;have hg:=h.gpc hi;have sL:=i1 (t:=c.tl (c.node i)) (m:=c.m) (s:=st.s) (i:=(c.slot i:Int)) hk.2 O;have sG:=i1 (t:=c.tg) (m:=c.m) (s:=st.s) (i:=(c.node i:Int)) hk.1 hg;have V:∀q:Sp,(st.G.set (c.node i) q).length=st.G.length:=λq=>by simp
 have Y:∀q:Sp,pcK c.kg q->∀p∈st.G.set (c.node i) q,pcK c.kg p:=λq O=>ef h.g _ O;unfold aj;split;.exact h
 rename_i ab;obtain⟨p,hp⟩:=LE (sv st.T i);rw[<-hp]at H ab ⊢;obtain⟨q,ad⟩:=LE (lsp st.L (c.node i) (c.slot i));have hc:p.pc=1\/p.pc=2\/p.pc=3\/p.pc=4\/p.pc=11\/p.pc=12\/p.pc=13\/p.pc=14\/p.pc=15\/p.pc=16:=by unfold di at H;omega
 obtain⟨pc,u,b,z⟩:=p;simp only at hc;have Lb:pc≠0->pc≠1->pc≠16->(lsp st.L (c.node i) (c.slot i)).pc=10:=λa0 a1 a2=>by unfold di at H;simp only at H;omega
 have lk:∀t:Sp,(t.pc=2\/t.pc=3\/t.pc=4\/t.pc=10\/t.pc=11\/t.pc=12\/t.pc=13\/t.pc=14\/t.pc=15)->∀q:Sp,q.pc=10->di t q:=λt ht q O=> .inr (.inr (.inl ⟨ht,O⟩))
 have Y9:∀t:Sp,t.pc=16->di t (a9 (lsp st.L (c.node i) (c.slot i)))\/(lsp st.L (c.node i) (c.slot i)).pc≠10:=λt ht=>by
  by_cases e:(lsp st.L (c.node i) (c.slot i)).pc=10;.left;exact .inr (.inr (.inr ⟨ht,by rw[mc e];decide⟩))
  .right;exact e
 have Wb:∀t:Sp,t.pc=16->(lsp st.L (c.node i) (c.slot i)).pc=10->di t (a9 (lsp st.L (c.node i) (c.slot i))):=λt ht e=>(Y9 t ht).resolve_right (λk=>k e);rcases hc with rfl|rfl|rfl|rfl|rfl|rfl|rfl|rfl|rfl|rfl
 .have I:0<(lsp st.L (c.node i) (c.slot i)).pc/\(lsp st.L (c.node i) (c.slot i)).pc<10:=by unfold di at H;simp only at H;omega
  have s2:=sL.2.1 I.1 I.2;have ec:lC c st i=decide ((stL c st i).2.pc=10):=qx I.1 I.2 s2.1;rw[mv1];refine h.upd hI hi _ h.g rfl sL.1 ?_;show di (if lC c st i then _ else _) _;rw[ec];split;.rename_i e;exact lk _ (.inl rfl) _ ahT
  .rename_i e;refine .inr (.inl ⟨rfl,s2.1,?_⟩);have:¬(stL c st i).2.pc=10:=(by simpa using e);have:=s2.2;show(stL c st i).2.pc<10;unfold stL at *;omega
 .rw[mv2];split;.exact aaL
  .exact h.upd0 hI hi _ (Y _ (nh hg)) (V _) (lk _ ahF _ (Lb ahG ahG ahG))
 .rw[mv3];refine h.upd0 hI hi _ (Y _ sG.1) (V _) ?_;show di (if nt c st i then _ else _) _;split<;>exact lk _ ahF _ (Lb ahG ahG ahG)
 .rw[mv4];exact aaL
 .rw[Fw];exact aaM
 .rw[Fy];exact aaM
 .rw[Fz];exact h.upd hI hi _ h.g rfl (ji O) (Wb _ rfl (Lb ahG ahG ahG))
 .rw[FA];exact h.upd0 hI hi _ (Y _ (ji hg)) (V _) (lk _ ahF _ (Lb ahG ahG ahG))
 .rw[FB];split;.exact h.upd hI hi _ (Y _ sG.1) (V _) (ji O) (Wb _ rfl (Lb ahG ahG ahG))
  .exact h.upd0 hI hi _ (Y _ sG.1) (V _) (lk _ ahF _ (Lb ahG ahG ahG))
 .have I:10<(lsp st.L (c.node i) (c.slot i)).pc:=by unfold di at H;simp only at H;omega
  have s2:=sL.2.2 I;have ec:lC c st i=decide ((stL c st i).2.pc=0):=ny I s2;rw[FC];refine h.upd hI hi _ h.g rfl sL.1 ?_;show di (if lC c st i then _ else _) _;rw[ec];split;.rename_i e;exact .inl ⟨rfl,by simpa using e⟩
  .rename_i e;refine .inr (.inr (.inr ⟨rfl,?_⟩));have:¬(stL c st i).2.pc=0:=(by simpa using e);show 10<(stL c st i).2.pc;unfold stL at *;omega
def wu(h:CoV c n st)(O:Inj c n){i:Nat}(hi:i<n):CoV c n (bz c st i):=by
 unfold bz;split
 .rename_i e;have I:=h.k i hi;have H:(lsp st.L (c.node i) (c.slot i)).pc=0:=by unfold di at I;omega
  exact h.upd O hi _ h.g rfl (nh (h.lpc hi)) (.inr (.inl ⟨rfl,by rw[mH H];decide,by rw[mH H];decide⟩))
 .exact h
def pN(h:CoV c n st)(I:Inj c n){i:Nat}(hi:i<n):CoV c n (az st i):=by
 unfold az;split;.rename_i e;have H:=h.k i hi;exact h.upd0 I hi _ h.g rfl (.inr (.inr (.inl ⟨by simp,by unfold di at H;omega⟩)))
 .exact h
end
end
section
open Go
def eE(s s':Ar):Prop:=s'.ops<=s.ops+1/\s'.W.length=s.W.length
def eE.refl(s:Ar):eE s s:=⟨by omega,rfl⟩
def gi(s:Ar)(x:Int):eE s (af s x):=⟨iP _ _,by rw[aP]⟩
def iR(s:Ar)(x v:Int):eE s (ae s x v):=⟨g8 _ _ _,by rw[aw,bI]⟩
def BF(s:Ar)(x v:Int):eE s (ch s x v):=⟨eY _ _ _,by rw[dK,bI]⟩
def kY(s:Ar)(x v:Int):eE s (addA s x v):=⟨ju _ _ _,by rw[dT,bI]⟩
def DM(s:Ar)(x o v:Int):eE s (dR s x o v):=⟨nz _ _ _ _,by rw[gL];split<;>simp[bI]⟩
def cY(k:Nat)(t m:Int)(s:Ar)(i:Int)(p:Sp):eE s (bJ k t m s i p).1:=by unfold bJ vF ph oD mg eH dH ut;(repeat' split)<;>(try dsimp only)<;>first|with_reducible exact eE.refl _|with_reducible exact gi _ _|with_reducible exact iR _ _ _|with_reducible exact BF _ _ _|with_reducible exact kY _ _ _|with_reducible exact DM _ _ _ _
def sZ(k:Nat)(t:Int)(s:Ar)(i:Int)(p:Sp):eE s (cB k t s i p).1:=by unfold cB;(repeat' split)<;>(try dsimp only)<;>first|with_reducible exact eE.refl _|with_reducible exact gi _ _
section
variable{c:CoC}{st:Co}
def yx(i:Nat)(p:Sp):eE st.s (cX c st i p).1:=by unfold cX xX pP stL stG;(repeat' split)<;>(try dsimp only)<;>first|with_reducible exact eE.refl _|with_reducible exact gi _ _|with_reducible exact iR _ _ _|with_reducible exact cY _ _ _ _ _ _|with_reducible exact sZ _ _ _ _ _
def mx(i:Nat):eE st.s (aj c st i).s:=by
 unfold aj;split;.exact eE.refl _
 .exact yx _ _
def uV(i:Nat):eE st.s (bz c st i).s:=by unfold bz;split<;>exact eE.refl _
def rc(i:Nat):eE st.s (az st i).s:=by unfold az;split<;>exact eE.refl _
def xZ(h:CoB c B st)(I:1<=B)(H:B<=10000000000000)(i:Nat)(hs:(c.slot i:Int)+1<=B)(O:(c.node i:Int)+1<=B)(hm:1<=c.m/\c.m<=B):CoB c (B+2) (aj c st i):=by
 unfold aj;split;.exact h.mono ahE
 .exact CR h I H i hs O hm _ (h.tsp ahE i)
def zV(h:CoB c B st)(I:1<=B)(i:Nat):CoB c (B+2) (bz c st i):=by
 unfold bz;split;.have H:=h.mono (C:=B+2) ahE;exact⟨H.w,H.g,H.setL _ _ (ug (H.lsp ahE _ _) ahE),ef H.t i (H.tsp ahE i)⟩
 .exact h.mono ahE
def uu(h:CoB c B st)(I:1<=B)(i:Nat):CoB c (B+2) (az st i):=by
 unfold az;split;.have H:=h.mono (C:=B+2) ahE;exact⟨H.w,H.g,H.l,ef H.t i (H.tsp ahE i)⟩
 .exact h.mono ahE
end
end
section
open Go
section
variable{σ σ':Nat->Sp}
def gy(t:Int)(n:Nat)(f:Int->Int)(σ:Nat->Sp):Prop:=∀i,i<n->(σ i).pc=10\/(σ i).pc=11->f t=(i:Int)+1
def gy.one(h:gy t n f σ){i:Nat}(hi:i<n)(I:j<n)(h1:(σ i).pc=10)(H:(σ j).pc=10):i=j:=by have O:=h i hi (.inl h1);have V:=h j I (.inl H);omega
def gy.off(h:gy t n f σ){i:Nat}{p:Sp}(hs:∀j,σ' j=if j=i then p else σ j)(I:(p.pc=10\/p.pc=11)->(σ i).pc=10\/(σ i).pc=11):gy t n f σ':=by
 intro j H hc;rw[hs]at hc;split at hc;.rename_i e;subst e;exact h j H (I hc)
 .exact h j H hc
def gy.get(h:gy t n f σ){i:Nat}{p:Sp}(hs:∀j,σ' j=if j=i then p else σ j)(H:∀y,f' y=if y=t then(i:Int)+1 else f y)(O:f t=0):gy t n f' σ':=by
 intro j I hc;rw[hs]at hc;rw[H,if_pos rfl];split at hc;.rename_i e;subst e;rfl
 .have:=h j I hc;omega
def gy.put(h:gy t n f σ){i:Nat}{p:Sp}(hi:i<n)(hs:∀j,σ' j=if j=i then p else σ j)(Y:∀y,f' y=if y=t then 0 else f y)(H:(σ i).pc=11)(hp:p.pc=0):gy t n f' σ':=by
 intro j I hc;rw[hs]at hc;split at hc;.omega
 .rename_i e;have O:=h j I hc;have V:=h i hi (.inr H);omega
structure dC(t:Int)(n:Nat)(f:Int->Int)(σ:Nat->Sp):Prop where
 le:f (t+1)<=f t
 w:∀i,i<n->(σ i).pc=2->f (t+1)<=(σ i).a/\(σ i).a<f t
 hd:∀i,i<n->(σ i).pc=10\/(σ i).pc=11->(σ i).a=f (t+1)/\(σ i).a<f t
 ne:∀i j,i<n->j<n->i≠j->((σ i).pc=2\/(σ i).pc=10\/(σ i).pc=11)->((σ j).pc=2\/(σ j).pc=10\/(σ j).pc=11)->(σ i).a≠(σ j).a
def dC.one(h:dC t n f σ){i:Nat}(hi:i<n)(hj:j<n)(h1:(σ i).pc=10)(h2:(σ j).pc=10):i=j:=by exact aaN
def dC.off(h:dC t n f σ){i:Nat}{p:Sp}(hs:∀j,σ' j=if j=i then p else σ j)(ha:p.a=(σ i).a)(H:((σ i).pc=0/\p.pc=1)\/((σ i).pc=10/\p.pc=11)\/p.pc=(σ i).pc):dC t n f σ':=by
 refine aj4 ?_;intro JU
 have kc:∀j,((σ' j).pc=2->(σ j).pc=2)/\(((σ' j).pc=10\/(σ' j).pc=11)->(σ j).pc=10\/(σ j).pc=11):=λj=>by
  rw[hs];split;.rename_i e;subst e;omega
  .exact⟨id,id⟩
 refine⟨h.le,λj hj hc=>?_,λj hj hc=>?_,λj k hj hk hn h1 h2=>?_⟩;.rw[JU];exact h.w j hj ((kc j).1 hc)
 .rw[JU];exact h.hd j hj ((kc j).2 hc)
 .exact aaO
def dC.take(h:dC t n f σ){i:Nat}{p:Sp}(hs:∀j,σ' j=if j=i then p else σ j)(O:p.pc=2)(ha:p.a=f t)(H:∀y,f' y=if y=t then f t+1 else f y):dC t n f' σ':=by
 have f0:f' t=f t+1:=by rw[H,if_pos rfl]
 have f1:f' (t+1)=f (t+1):=by rw[H,if_neg ahE]
 have I:=h.le;refine⟨by rw[f0,f1];omega,λj hj hc=>?_,λj hj hc=>?_,λj k hj hk hn h1 h2=>?_⟩;.rw[f0,f1];exact aaP
 .rw[f0,f1];exact aaQ
 .exact aaR
def dC.enter(h:dC t n f σ){i:Nat}{p:Sp}(hi:i<n)(hs:∀j,σ' j=if j=i then p else σ j)(h2:(σ i).pc=2)(I:p.pc=10)(ha:p.a=(σ i).a)(H:f (t+1)=(σ i).a):dC t n f σ':=by
 have hw:=h.w i hi h2;refine aj4 ?_;intro JU;refine⟨h.le,λj hj hc=>?_,λj hj hc=>?_,λj k hj hk hn h1 h3=>?_⟩
 .rw[JU];rw[hs]at hc;split at hc;.omega
  .exact h.w j hj hc
 .exact aaS
 .exact aaT
def dC.put(h:dC t n f σ){i:Nat}{p:Sp}(hi:i<n)(hs:∀j,σ' j=if j=i then p else σ j)(h1:(σ i).pc=11)(O:p.pc=0)(H:∀y,f' y=if y=t+1 then(σ i).a+1 else f y):dC t n f' σ':=by
 have I:=h.hd i hi (.inr h1);have f0:f' t=f t:=by rw[H,if_neg ahE]
 have f1:f' (t+1)=(σ i).a+1:=by rw[H,if_pos rfl]
 refine⟨by rw[f0,f1];omega,λj hj hc=>?_,λj hj hc=>?_,λj k hj hk hn h2 h3=>?_⟩;.rw[f0,f1];exact aaU
 .exact aaV
 .exact aaW
structure dS(t m:Int)(n:Nat)(f:Int->Int)(σ:Nat->Sp)(v:Int):Prop where
 v0:0<=v
 le:v<=f t
 w:∀i,i<n->(σ i).pc=2->v<=(σ i).a/\(σ i).a<f t
 hd:∀i,i<n->(σ i).pc=10\/(σ i).pc=11->(σ i).a=v/\(σ i).a<f t
 ne:∀i j,i<n->j<n->i≠j->((σ i).pc=2\/(σ i).pc=10\/(σ i).pc=11)->((σ j).pc=2\/(σ j).pc=10\/(σ j).pc=11)->(σ i).a≠(σ j).a
 pl:∀k:Int,0<=k->k<m->f (t+1+k)<=v+1
 sv:f (pPl t m v)=v+1
def dS.one(h:dS t m n f σ v){i:Nat}(hi:i<n)(hj:j<n)(h1:(σ i).pc=10)(h2:(σ j).pc=10):i=j:=by exact aaN
def dS.off(h:dS t m n f σ v){i:Nat}{p:Sp}(hs:∀j,σ' j=if j=i then p else σ j)(ha:p.a=(σ i).a)(H:((σ i).pc=0/\p.pc=1)\/((σ i).pc=10/\p.pc=11)\/p.pc=(σ i).pc):dS t m n f σ' v:=by
 refine aj4 ?_;intro JU
 have kc:∀j,((σ' j).pc=2->(σ j).pc=2)/\(((σ' j).pc=10\/(σ' j).pc=11)->(σ j).pc=10\/(σ j).pc=11):=λj=>by
  rw[hs];split;.rename_i e;subst e;omega
  .exact⟨id,id⟩
 refine⟨h.v0,h.le,λj hj hc=>?_,λj hj hc=>?_,λj k hj hk hn h1 h2=>?_,h.pl,h.sv⟩;.rw[JU];exact h.w j hj ((kc j).1 hc)
 .rw[JU];exact h.hd j hj ((kc j).2 hc)
 .exact aaO
def dS.take(h:dS t m n f σ v)(hm:1<=m){i:Nat}{p:Sp}(hs:∀j,σ' j=if j=i then p else σ j)(V:p.pc=2)(ha:p.a=f t)(H:∀y,f' y=if y=t then f t+1 else f y):dS t m n f' σ' v:=by
 have f0:f' t=f t+1:=by rw[H,if_pos rfl]
 have O:=h.le;have hm0:=Int.emod_nonneg v (show m≠0 by omega);refine⟨h.v0,by rw[f0];omega,λj hj hc=>?_,λj hj hc=>?_,λj k hj hk hn h1 h2=>?_,λk k0 I=>by rw[H,if_neg ahE];exact h.pl k k0 I,by rw[H,if_neg (by unfold pPl;omega)];exact h.sv⟩;.rw[f0];exact aaP
 .rw[f0];exact aaQ
 .exact aaR
def dS.enter(h:dS t m n f σ v)(hm:1<=m){i:Nat}{p:Sp}(hi:i<n)(hs:∀j,σ' j=if j=i then p else σ j)(h2:(σ i).pc=2)(O:p.pc=10)(ha:p.a=(σ i).a)(H:f (pPl t m (σ i).a)=(σ i).a+1):dS t m n f σ' v:=by
 have hw:=h.w i hi h2;have V:=h.pl ((σ i).a%m) (Int.emod_nonneg _ ahE) (Int.emod_lt_of_pos _ ahE);have I:f (t+1+(σ i).a%m)=(σ i).a+1:=H;refine aj4 ?_;intro JU;refine⟨h.v0,h.le,λj hj hc=>?_,λj hj hc=>?_,λj k hj hk hn h1 h3=>?_,h.pl,h.sv⟩
 .rw[JU];rw[hs]at hc;split at hc;.omega
  .exact h.w j hj hc
 .exact aaS
 .exact aaT
def dS.put(h:dS t m n f σ v)(hm:1<=m){i:Nat}{p:Sp}(hi:i<n)(hs:∀j,σ' j=if j=i then p else σ j)(h1:(σ i).pc=11)(Y:p.pc=0)(H:∀y,f' y=if y=pPl t m ((σ i).a+1)then(σ i).a+2 else f y):dS t m n f' σ' (v+1):=by
 have I:=h.hd i hi (.inr h1);have hm0:=Int.emod_nonneg ((σ i).a+1) (show m≠0 by omega);have f0:f' t=f t:=by rw[H,if_neg (by unfold pPl;omega)]
 have V:=h.v0;refine⟨by omega,by rw[f0];omega,λj hj hc=>?_,λj hj hc=>?_,λj k hj hk hn h2 h3=>?_,λk k0 O=>?_,?_⟩;.rw[f0];exact aaU
 .exact aaV
 .exact aaW
 .rw[H];split;.omega
  .have:=h.pl k k0 O;omega
 .rw[H,if_pos (by rw[I.1]),I.1];omega
end
end
section
open Go
def szI(k n:Nat)(m:Int):Int:=if k=1 then 1 else if k=2 then 2 else if k=3 then 1+m else if k=4 then 1+2*(n:Int)else(n:Int)+2
def rH(k:Nat)(t m:Int)(n:Nat)(f:Int->Int)(σ:Nat->Sp):Prop:=
 if k=1 then gy t n f σ else if k=2 then dC t n f σ else if k=3 then ∃v,dS t m n f σ v else if k=4 then McA n (f t) (fN t n f) (fW t n f) σ else ∃e,ClA n (f t) (fC t n f) σ e
structure cr(k:Nat)(t m:Int)(n:Nat)(W:List Int)(S:List Sp):Prop where
 len:S.length=n
 m1:1<=m
 t1:1<=t
 t2:t+szI k n m<=(W.length:Int)+1
 i:rH k t m n (ldW W) (sv S)
section
variable{k:Nat}{σ:Nat->Sp}
def wV(t:Int)(hm:1<=m)(v:Int):t<pPl t m v/\pPl t m v<t+1+m:=by have h1:=Int.emod_nonneg v (show m≠0 by omega);have h:=Int.emod_lt_of_pos v (show 0<m by omega);unfold pPl;omega
def rH.congr(h:rH k t m n f σ)(hm:1<=m)(H:∀y,t<=y->y<t+szI k n m->f' y=f y):rH k t m n f' σ:=by
 unfold rH at h ⊢;unfold szI at H;by_cases h1:k=1;.simp only[h1,reduceIte]at h H ⊢;intro i hi hc;rw[H t ahE ahE];exact h i hi hc
 by_cases O:k=2;.simp only[O,reduceIte,show ¬(2=1)by decide]at h H ⊢;have e0:=H t ahE ahE;have I:=H (t+1) ahE ahE;exact⟨by rw[e0,I];exact h.le,λi hi hc=>by rw[e0,I];exact h.w i hi hc,λi hi hc=>by rw[e0,I];exact h.hd i hi hc,h.ne⟩
 by_cases V:k=3;.simp only[V,reduceIte,show ¬(3=1)by decide,show ¬(3=2)by decide]at h H ⊢;obtain⟨v,h⟩:=h;have e0:=H t ahE ahE;have ep:=wV t hm v;exact⟨v,h.v0,by rw[e0];exact h.le,λi hi hc=>by rw[e0];exact h.w i hi hc,λi hi hc=>by rw[e0];exact h.hd i hi hc,h.ne,λk k0 k1=>by rw[H _ ahE ahE];exact h.pl k k0 k1,by rw[H _ ahE ahE];exact h.sv⟩
 by_cases Y:k=4;.simp only[Y,reduceIte,show ¬(4=1)by decide,show ¬(4=2)by decide,show ¬(4=3)by decide]at h H ⊢;have e:=Ax H;rw[H t ahE ahE,e.1,e.2];exact h
 .simp only[h1,O,V,Y,reduceIte]at h H ⊢;obtain⟨e,h⟩:=h;exact⟨e,by rw[H t ahE ahE,Aw H];exact h⟩
def cr.frame{H:List Int}{S:List Sp}(h:cr k t m n W S)(O:H.length=W.length)(I:∀y,t<=y->y<t+szI k n m->ldW H y=ldW W y):cr k t m n H S:=
 ⟨h.len,h.m1,h.t1,by rw[O];exact h.t2,h.i.congr h.m1 I⟩
def cr.one{S:List Sp}(h:cr k t m n W S)(Y:1<=k/\k<=5){i:Nat}(hi:i<n)(H:j<n)(h1:(sv S i).pc=10)(I:(sv S j).pc=10):i=j:=by
 have V:k=1\/k=2\/k=3\/k=4\/k=5:=by omega
 rcases V with rfl|rfl|rfl|rfl|rfl
 .exact gy.one (show gy t n (ldW W) (sv S)from h.i) hi H h1 I
 .exact dC.one (show dC t n (ldW W) (sv S)from h.i) hi H h1 I
 .obtain⟨v,O⟩:∃v,dS t m n (ldW W) (sv S) v:=h.i;exact O.one hi H h1 I
 .exact(show McA n _ _ _ (sv S)from h.i).tk.one i j hi H (.inl ahE) (.inl ahE)
 .obtain⟨e,O⟩:∃e,ClA n (ldW W t) (fC t n (ldW W)) (sv S) e:=h.i;exact O.one hi H h1 I
def svS{S:List Sp}{i:Nat}(hi:i<S.length)(p:Sp)(j:Nat):sv (S.set i p) j=if j=i then p else sv S j:=by
 rw[ba];by_cases e:i=j;.subst e;rw[if_pos ⟨rfl,hi⟩,if_pos rfl]
 .rw[if_neg (λh=>e h.1),if_neg (λh=>e h.symm)]
def EB{S:List Sp}(h:cr k t m n W S){i:Nat}(hi:i<n):sv (S.set i (sv S i))=sv S:=by
 funext j;rw[svS (by rw[h.len];exact hi)];split;.rename_i e3;rw[e3]
 .rfl
def cr.ask{S:List Sp}(h:cr k t m n W S)(Y:1<=k/\k<=5){i:Nat}(hi:i<n):cr k t m n W (S.set i (askK k (sv S i))):=by
 refine⟨by rw[List.length_set];exact h.len,h.m1,h.t1,h.t2,?_⟩;by_cases O:(sv S i).pc=0
 .have hs:=svS (S:=S) (i:=i) (by rw[h.len];exact hi) (askK k (sv S i));have H:askK k (sv S i)=if k=1 then {(sv S i)with pc:=1,a:=1} else {(sv S i)with pc:=1}:=by unfold askK;rw[if_pos O]
  have V:k=1\/k=2\/k=3\/k=4\/k=5:=by omega
  rcases V with rfl|rfl|rfl|rfl|rfl
  .have I:gy t n (ldW W) (sv S):=h.i;exact gy.off I hs (by rw[H];simp)
  .have I:dC t n (ldW W) (sv S):=h.i;exact dC.off I hs (by rw[H];rfl) (.inl ⟨O,by rw[H];rfl⟩)
  .obtain⟨v,I⟩:∃v,dS t m n (ldW W) (sv S) v:=h.i;exact⟨v,I.off hs (by rw[H];rfl) (.inl ⟨O,by rw[H];rfl⟩)⟩
  .exact McA.beg (show McA n _ _ _ (sv S)from h.i) hi hs (.inr ⟨O,by rw[H];rfl⟩)
  .obtain⟨e,I⟩:∃e,ClA n (ldW W t) (fC t n (ldW W)) (sv S) e:=h.i;exact⟨e,I.put hi hs (by rw[H];rfl) (λ_ _=>rfl) (λhc=>by rw[H]at hc;simp at hc) (.inl ⟨by omega,by rw[H];show(1:Int)<3;decide⟩)⟩
 .have e:askK k (sv S i)=sv S i:=by unfold askK;rw[if_neg O]
  rw[e,EB h hi];exact h.i
def cr.leave{S:List Sp}(h:cr k t m n W S)(Y:1<=k/\k<=5){i:Nat}(hi:i<n):cr k t m n W (S.set i (a9 (sv S i))):=by
 refine⟨by rw[List.length_set];exact h.len,h.m1,h.t1,h.t2,?_⟩;by_cases O:(sv S i).pc=10
 .have hs:=svS (S:=S) (i:=i) (by rw[h.len];exact hi) (a9 (sv S i));have I:a9 (sv S i)={(sv S i)with pc:=11}:=by unfold a9;rw[if_pos O]
  have V:k=1\/k=2\/k=3\/k=4\/k=5:=by omega
  rcases V with rfl|rfl|rfl|rfl|rfl
  .have H:gy t n (ldW W) (sv S):=h.i;exact gy.off H hs (by rw[I];intro _;exact .inl O)
  .have H:dC t n (ldW W) (sv S):=h.i;exact dC.off H hs (by rw[I]) (.inr (.inl ⟨O,by rw[I]⟩))
  .obtain⟨v,H⟩:∃v,dS t m n (ldW W) (sv S) v:=h.i;exact⟨v,H.off hs (by rw[I]) (.inr (.inl ⟨O,by rw[I]⟩))⟩
  .exact McA.beg (show McA n _ _ _ (sv S)from h.i) hi hs (.inl ⟨O,by rw[I]⟩)
  .obtain⟨e,H⟩:∃e,ClA n (ldW W t) (fC t n (ldW W)) (sv S) e:=h.i;exact⟨e,H.put hi hs (by rw[I]) (λ_ _=>rfl) (λ_=>H.f1 i hi ahE) (.inr ⟨by omega,by rw[I];show(3:Int)<=11;decide,by rw[I],λ_=>H.h10 i hi ahE⟩)⟩
 .have e:a9 (sv S i)=sv S i:=by unfold a9;rw[if_neg O]
  rw[e,EB h hi];exact h.i
def pI(k:Nat)(t m:Int)(n:Nat)(W W':List Int)(S:List Sp)(i:Nat)(p:Sp):Prop:=rH k t m n (ldW W') (sv (S.set i p))/\∀y,¬(t<=y/\y<t+szI k n m)->ldW W' y=ldW W y
def AX{S:List Sp}(h:cr k t m n W S)(h1:t<=x)(H:x<t+szI k n m):inR W x=true:=aR.2 (by have:=h.t1;have:=h.t2;omega)
def iz{S:List Sp}(h:cr k t m n W S)(h1:t<=x)(H:x<t+szI k n m)(v:Int):(∀y,ldW (stW W x v) y=if y=x then v else ldW W y)/\∀y,¬(t<=y/\y<t+szI k n m)->ldW (stW W x v) y=ldW W y:=by have e:=λy=>gu (AX h h1 H) v y;exact⟨e,λy I=>by rw[e,if_neg (by rintro rfl;exact I ⟨h1,H⟩)]⟩
end
section
variable{s:Ar}{S:List Sp}
def jS{i:Nat}(hi:i<S.length){k:Nat}(h:rH k t m n f (sv S)):rH k t m n f (sv (S.set i (sv S i))):=by
 have H:sv (S.set i (sv S i))=sv S:=by
  funext j;rw[svS hi];split;.rename_i e3;rw[e3]
  .rfl
 rw[H];exact h
def GJ(h:cr 1 t m n s.W S){i:Nat}(hi:i<n):pI 1 t m n s.W (vF t m s i (sv S i)).1.W S i (vF t m s i (sv S i)).2:=by
 have hl:i<S.length:=by rw[h.len];exact hi
 have V:gy t n (ldW s.W) (sv S):=h.i;have Y:t<t+szI 1 n m:=by unfold szI;rw[if_pos rfl];omega
 have O:=AX h (Int.le_refl t) Y;unfold vF;split
 .rename_i H';have hw:=iz h (Int.le_refl t) Y ((i:Int)+1);have H:=gL s t 0 ((i:Int)+1);by_cases h0:ldW s.W t=0;.have I:cG s t 0=true:=(by unfold cG;rw[O,h0];rfl);rw[I]at H ⊢;rw[if_pos rfl]at H ⊢;refine⟨?_,by show ∀y,_->ldW (dR _ _ _ _).W y=_;rw[H];exact hw.2⟩;show gy t n (ldW (dR s t 0 ((i:Int)+1)).W) _;rw[H];exact V.get (svS hl _) hw.1 h0
  .have I:cG s t 0=false:=(by unfold cG;rw[O];simp[h0]);rw[I]at H ⊢;rw[if_neg ahG]at H ⊢;refine⟨?_,by show ∀y,_->ldW (dR _ _ _ _).W y=_;rw[H];exact λ_ _=>rfl⟩;show gy t n (ldW (dR s t 0 ((i:Int)+1)).W) _;rw[H];exact V.off (svS hl _) ahF
 split;.refine⟨?_,λ_ _=>rfl⟩;exact gy.off V (svS hl _) (by simp only;split<;>simp)
 split;.rename_i Nx;have hw:=iz h (Int.le_refl t) Y 0;refine⟨?_,by show ∀y,_->ldW (ae _ _ _).W y=_;rw[aw];exact hw.2⟩;show gy t n (ldW (ae s t 0).W) _;rw[aw];exact V.put hi (svS hl _) hw.1 Nx rfl
 .exact aa0
def Ff(h:cr 2 t m n s.W S)(hW:WdB B s)(Y:0<=B)(Kc:B<=10000000000000){i:Nat}(hi:i<n):pI 2 t m n s.W (ph t s (sv S i)).1.W S i (ph t s (sv S i)).2:=by
 have hl:i<S.length:=by rw[h.len];exact hi
 have H:dC t n (ldW s.W) (sv S):=h.i;have hz:szI 2 n m=2:=rfl;unfold ph;split;.have hw:=iz h (Int.le_refl t) ahY (ldW s.W t+1);have NY:=hW.ld Y t;refine⟨?_,by show ∀y,_->ldW (addA _ _ _).W y=_;rw[dT,IntWalk.i64_in _ ahE];exact hw.2⟩;show dC t n (ldW (addA s t 1).W) _;rw[dT,IntWalk.i64_in _ ahE];exact H.take (svS hl _) rfl rfl hw.1
 split
 .rename_i O;refine⟨?_,by show ∀y,_->ldW (af _ _).W y=_;rw[aP];exact λ_ _=>rfl⟩;show dC t n (ldW (af s (t+1)).W) _;rw[aP];by_cases I:ldW s.W (t+1)=(sv S i).a;.exact H.enter hi (svS hl _) O (by simp[I]) rfl I
  .exact H.off (svS hl _) rfl (.inr (.inr (by simp[I,O])))
 split;.rename_i V;have hw:=iz h (show t<=t+1 by omega) ahY ((sv S i).a+1);refine⟨?_,by show ∀y,_->ldW (ae _ _ _).W y=_;rw[aw];exact hw.2⟩;show dC t n (ldW (ae s (t+1) _).W) _;rw[aw];exact H.put hi (svS hl _) V rfl hw.1
 .exact aa0
def Fe(h:cr 3 t m n s.W S)(hW:WdB B s)(Y:0<=B)(Kc:B<=10000000000000){i:Nat}(hi:i<n):pI 3 t m n s.W (oD t m s (sv S i)).1.W S i (oD t m s (sv S i)).2:=by
 have hl:i<S.length:=by rw[h.len];exact hi
 obtain⟨v,H⟩:∃v,dS t m n (ldW s.W) (sv S) v:=h.i;have hm:=h.m1;have hz:szI 3 n m=1+m:=rfl;unfold oD;split;.have hw:=iz h (Int.le_refl t) ahY (ldW s.W t+1);have NY:=hW.ld Y t;refine⟨?_,by show ∀y,_->ldW (addA _ _ _).W y=_;rw[dT,IntWalk.i64_in _ ahE];exact hw.2⟩;show ∃v,dS t m n (ldW (addA s t 1).W) _ v;rw[dT,IntWalk.i64_in _ ahE];exact⟨v,H.take hm (svS hl _) rfl rfl hw.1⟩
 split
 .rename_i O;refine⟨?_,by show ∀y,_->ldW (af _ _).W y=_;rw[aP];exact λ_ _=>rfl⟩;show ∃v,dS t m n (ldW (af s _).W) _ v;rw[aP];by_cases I:ldW s.W (pPl t m (sv S i).a)=(sv S i).a+1;.exact⟨v,H.enter hm hi (svS hl _) O (by simp[I]) rfl I⟩
  .exact⟨v,H.off (svS hl _) rfl (.inr (.inr (by simp[I,O])))⟩
 split;.rename_i V;have hp:=wV t hm ((sv S i).a+1);have hw:=iz h (show t<=pPl t m ((sv S i).a+1)by omega) ahY ((sv S i).a+2);refine⟨?_,by show ∀y,_->ldW (ae _ _ _).W y=_;rw[aw];exact hw.2⟩;show ∃v,dS t m n (ldW (ae s _ _).W) _ v;rw[aw];exact⟨v+1,H.put hm hi (svS hl _) V rfl hw.1⟩
 .exact aa0
def GB(h:cr 5 t m n s.W S){i:Nat}(hi:i<n):pI 5 t m n s.W (ut t s (sv S i)).1.W S i (ut t s (sv S i)).2:=by
 have hl:i<S.length:=by rw[h.len];exact hi
 obtain⟨e,H⟩:∃e,ClA n (ldW s.W t) (fC t n (ldW s.W)) (sv S) e:=h.i;have hz:szI 5 n m=(n:Int)+2:=rfl;have ha:=H.a0 i hi;unfold ut;split;.rename_i h1;have hw:=iz h (show t<=t+(sv S i).a by omega) ahY 1;have O:=Eo hw.1 ha;refine⟨?_,by show ∀y,_->ldW (ae _ _ _).W y=_;rw[aw];exact hw.2⟩;show ∃e,ClA n (ldW (ae s _ _).W t) (fC t n (ldW (ae s _ _).W)) _ e;rw[aw,O.1,O.2];exact⟨e,H.put hi (svS hl _) rfl (λy hy=>eu _ hy) (λ_=>gI _ _ _) (.inl ⟨by omega,by show(2:Int)<3;decide⟩)⟩
 split;.rename_i h2;have hw:=iz h (Int.le_refl t) ahY (sv S i).a;have O:=Fc (n:=n) hw.1;refine⟨?_,by show ∀y,_->ldW (ch _ _ _).W y=_;rw[dK];exact hw.2⟩;show ∃e,ClA n (ldW (ch s _ _).W t) (fC t n (ldW (ch s _ _).W)) _ e;rw[dK,O.1,O.2];exact⟨e,H.swap hi (svS hl _) h2 rfl rfl rfl⟩
 split
 .rename_i Y;refine⟨?_,by show ∀y,_->ldW (af _ _).W y=_;rw[aP];exact λ_ _=>rfl⟩;show ∃e,ClA n (ldW (af s _).W t) (fC t n (ldW (af s _).W)) _ e;rw[aP];have hq:=H.bq i hi ahE;have I:1<=(sv S i).b/\(sv S i).b<=(n:Int)+1:=hq.elim (λh=>by rw[h];exact H.e0) fun⟨j,hj,h,_⟩=>by rw[h];exact H.a0 j hj
  have hC:fC t n (ldW s.W) (sv S i).b=ldW s.W (t+(sv S i).b):=if_pos I;by_cases V:ldW s.W (t+(sv S i).b)=0;.exact⟨e,H.put hi (svS hl _) rfl (λ_ _=>rfl) (λ_=>H.f1 i hi ahE) (.inr ⟨by omega,by simp[V],rfl,λ_=>hq.elim id fun⟨j,hj,h,Y⟩=>absurd (H.f1 j hj ahE) (by rw[<-h,hC,V];decide)⟩)⟩
  .have:({(sv S i)with pc:=if ldW s.W (t+(sv S i).b)=0 then 10 else 3}:Sp)=sv S i:=(by rw[if_neg V,<-Y]);rw[this];exact jS (k:=5) (m:=m) hl h.i
 split;.rename_i Nx;have hw:=iz h (show t<=t+(sv S i).a by omega) ahY 0;have O:=Eo hw.1 ha;refine⟨?_,by show ∀y,_->ldW (ae _ _ _).W y=_;rw[aw];exact hw.2⟩;show ∃e,ClA n (ldW (ae s _ _).W t) (fC t n (ldW (ae s _ _).W)) _ e;rw[aw,O.1,O.2];exact⟨_,H.o hi (svS hl {(sv S i)with a:=(sv S i).b,pc:=0}) ahE rfl rfl rfl⟩
 .exact aa0
def GI(h:cr 4 t m n s.W S){i:Nat}(hi:i<n)(hc:iQ (sv S i)):pI 4 t m n s.W (mg t s i (sv S i)).1.W S i (mg t s i (sv S i)).2:=by have hz:szI 4 n m=1+2*(n:Int):=rfl;obtain⟨H,I⟩:=McA.go (show McA n _ _ _ _ from h.i) hi h.len (λx v h1 V=>(iz h h1 ahY v).1) (AX h (Int.le_refl t) ahY) rfl hc rfl;exact⟨H,λy O=>I y (by rw[hz]at O;omega)⟩
def cr.step{k:Nat}(h:cr k t m n s.W S)(hk:1<=k/\k<=5)(V:WdB B s)(O:0<=B)(I:B<=10000000000000){i:Nat}(hi:i<n)(hc:pcK k (sv S i)):cr k t m n (bJ k t m s i (sv S i)).1.W (S.set i (bJ k t m s i (sv S i)).2)/\∀y,¬(t<=y/\y<t+szI k n m)->ldW (bJ k t m s i (sv S i)).1.W y=ldW s.W y:=by
  have hl:=(cY k t m s i (sv S i)).2
  have H:pI k t m n s.W (bJ k t m s i (sv S i)).1.W S i (bJ k t m s i (sv S i)).2:=by
    have Y:k=1\/k=2\/k=3\/k=4\/k=5:=(by omega);rcases Y with rfl|rfl|rfl|rfl|rfl
    . exact GJ h hi
    . exact Ff h V O I hi
    . exact Fe h V O I hi
    . exact GI h hi hc
    . exact GB h hi
  exact⟨⟨by rw[List.length_set];exact h.len,h.m1,h.t1,by rw[hl];exact h.t2,H.1⟩,H.2⟩
end
end
section
open Go.RowKit
variable{w:World}{g:Nat}{s:Ar}
def pG(w:World)(a g k:Nat)(s:Ar)(n m:Nat)(e:Ending)(w':World):Prop:=
 ∃x:Fx,e= returned (tuple #[↑x.p,J 0])/\de w' a g k x (aG k s n m) (a5 k n)/\(w.heap.size<=x.p/\w.heap.size<=x.l/\w.heap.size<=x.q/\x.n=n/\x.m=m/\x.t=s.W.length+1)/\aa [a,g] w w'
def Df(h:aB w a g s)(n:Nat)(h1:1<=n)(h2:n<=32)(m:Nat)(JQ:1<=m)(ab:m<=1024)(V:s.W.length+szK 1 n m<=s.room)(Y:s.ops+1<=1000000000000):E 109 #[↑a,J 1,J n,J m] w (pG w a g 1 s n m):=by have H2:=qh (Ea h n h1 h2 m JQ ab (show s.W.length+(1)<=s.room from V));have HG:=qh (And.intro h.blk.lt h.wds.lt);clear h V Y;go_enter func109,ntmps109;go_wp2_with fail;refine H2.o.mono ?_;rintro en w1 ⟨x,rfl,H,I,e3⟩;have HE:=qh (And.intro H (And.intro I e3));clear H I e3;go_wp2;go_ret2;obtain⟨H,I,e3⟩:=HE.o;have hq:=H.sp.lt;have hs:=e3.size;have hg:=HG.o;have O:aa [] w1 (w1.alloc (cells #[J ((1:Nat):Int),ifV 1 x.l] 303)):=(aa.refl _ _).alloc _;exact⟨{x with p:=w1.heap.size},rfl,⟨Blk.new w1 303 #[J ((1:Nat):Int),ifV 1 x.l],⟨H.ar.turns O ahF ahF,O.blk H.lk ahF,H.sp.turns O ahF,H.n,H.la,H.lg,H.lq,H.qa,H.qg,H.n32,H.t0,H.t1,H.m0,H.m1,H.cap⟩,by show w1.heap.size≠a;omega,by show w1.heap.size≠g;omega,by show w1.heap.size≠x.q;omega⟩,⟨by show w.heap.size<=w1.heap.size;omega,I.1,I.2.1,I.2.2.1,I.2.2.2.1,I.2.2.2.2.1⟩,e3.alloc _⟩
def Dg(h:aB w a g s)(n:Nat)(h1:1<=n)(h2:n<=32)(m:Nat)(JQ:1<=m)(ab:m<=1024)(pa:Int)(V:s.W.length+szK 2 n m<=s.room)(Y:s.ops+1<=1000000000000):E 109 #[↑a,J 2,J n,J pa] w (pG w a g 2 s n m):=by have H2:=qh (vG h n h1 h2 m JQ ab (show s.W.length+(2)<=s.room from V));have HG:=qh (And.intro h.blk.lt h.wds.lt);clear h V Y;go_enter func109,ntmps109;go_wp2_with fail;refine H2.o.mono ?_;rintro en w1 ⟨x,rfl,H,I,e3⟩;have HE:=qh (And.intro H (And.intro I e3));clear H I e3;go_wp2;go_ret2;obtain⟨H,I,e3⟩:=HE.o;have hq:=H.sp.lt;have hs:=e3.size;have hg:=HG.o;have O:aa [] w1 (w1.alloc (cells #[J ((2:Nat):Int),ifV 2 x.l] 303)):=(aa.refl _ _).alloc _;exact⟨{x with p:=w1.heap.size},rfl,⟨Blk.new w1 303 #[J ((2:Nat):Int),ifV 2 x.l],⟨H.ar.turns O ahF ahF,O.blk H.lk ahF,H.sp.turns O ahF,H.n,H.la,H.lg,H.lq,H.qa,H.qg,H.n32,H.t0,H.t1,H.m0,H.m1,H.cap⟩,by show w1.heap.size≠a;omega,by show w1.heap.size≠g;omega,by show w1.heap.size≠x.q;omega⟩,⟨by show w.heap.size<=w1.heap.size;omega,I.1,I.2.1,I.2.2.1,I.2.2.2.1,I.2.2.2.2.1⟩,e3.alloc _⟩
def Dh(h:aB w a g s)(n:Nat)(h1:1<=n)(h2:n<=32)(m:Nat)(JQ:1<=m)(ab:m<=32)(V:s.W.length+szK 3 n m<=s.room)(Y:s.ops+1<=1000000000000):E 109 #[↑a,J 3,J n,J m] w (pG w a g 3 s n m):=by have H2:=qh (vh h n h1 h2 m JQ ab (show s.W.length+(1+m)<=s.room from V) Y);have HG:=qh (And.intro h.blk.lt h.wds.lt);clear h V Y;go_enter func109,ntmps109;go_wp2_with fail;refine H2.o.mono ?_;rintro en w1 ⟨x,rfl,H,I,e3⟩;have HE:=qh (And.intro H (And.intro I e3));clear H I e3;go_wp2;go_ret2;obtain⟨H,I,e3⟩:=HE.o;have hq:=H.sp.lt;have hs:=e3.size;have hg:=HG.o;have O:aa [] w1 (w1.alloc (cells #[J ((3:Nat):Int),ifV 3 x.l] 303)):=(aa.refl _ _).alloc _;exact⟨{x with p:=w1.heap.size},rfl,⟨Blk.new w1 303 #[J ((3:Nat):Int),ifV 3 x.l],⟨H.ar.turns O ahF ahF,O.blk H.lk ahF,H.sp.turns O ahF,H.n,H.la,H.lg,H.lq,H.qa,H.qg,H.n32,H.t0,H.t1,H.m0,H.m1,H.cap⟩,by show w1.heap.size≠a;omega,by show w1.heap.size≠g;omega,by show w1.heap.size≠x.q;omega⟩,⟨by show w.heap.size<=w1.heap.size;omega,I.1,I.2.1,I.2.2.1,I.2.2.2.1,I.2.2.2.2.1⟩,e3.alloc _⟩
def Di(h:aB w a g s)(n:Nat)(h1:1<=n)(h2:n<=32)(m:Nat)(JQ:1<=m)(ab:m<=1024)(pa:Int)(V:s.W.length+szK 4 n m<=s.room)(Y:s.ops+1<=1000000000000):E 109 #[↑a,J 4,J n,J pa] w (pG w a g 4 s n m):=by have H2:=qh (DJ h n h1 h2 m JQ ab (show s.W.length+(1+2*n)<=s.room from V));have HG:=qh (And.intro h.blk.lt h.wds.lt);clear h V Y;go_enter func109,ntmps109;go_wp2_with fail;refine H2.o.mono ?_;rintro en w1 ⟨x,rfl,H,I,e3⟩;have HE:=qh (And.intro H (And.intro I e3));clear H I e3;go_wp2;go_ret2;obtain⟨H,I,e3⟩:=HE.o;have hq:=H.sp.lt;have hs:=e3.size;have hg:=HG.o;have O:aa [] w1 (w1.alloc (cells #[J ((4:Nat):Int),ifV 4 x.l] 303)):=(aa.refl _ _).alloc _;exact⟨{x with p:=w1.heap.size},rfl,⟨Blk.new w1 303 #[J ((4:Nat):Int),ifV 4 x.l],⟨H.ar.turns O ahF ahF,O.blk H.lk ahF,H.sp.turns O ahF,H.n,H.la,H.lg,H.lq,H.qa,H.qg,H.n32,H.t0,H.t1,H.m0,H.m1,H.cap⟩,by show w1.heap.size≠a;omega,by show w1.heap.size≠g;omega,by show w1.heap.size≠x.q;omega⟩,⟨by show w.heap.size<=w1.heap.size;omega,I.1,I.2.1,I.2.2.1,I.2.2.2.1,I.2.2.2.2.1⟩,e3.alloc _⟩
def Dj(h:aB w a g s)(n:Nat)(h1:1<=n)(h2:n<=32)(m:Nat)(JQ:1<=m)(ab:m<=1024)(pa:Int)(V:s.W.length+szK 5 n m<=s.room)(Y:s.ops+1<=1000000000000):E 109 #[↑a,J 5,J n,J pa] w (pG w a g 5 s n m):=by have H2:=qh (CO h n h1 h2 m JQ ab (show s.W.length+(n+2)<=s.room from V) Y);have HG:=qh (And.intro h.blk.lt h.wds.lt);clear h V Y;go_enter func109,ntmps109;go_wp2_with fail;refine H2.o.mono ?_;rintro en w1 ⟨x,rfl,H,I,e3⟩;have HE:=qh (And.intro H (And.intro I e3));clear H I e3;go_wp2;go_ret2;obtain⟨H,I,e3⟩:=HE.o;have hq:=H.sp.lt;have hs:=e3.size;have hg:=HG.o;have O:aa [] w1 (w1.alloc (cells #[J ((5:Nat):Int),ifV 5 x.l] 303)):=(aa.refl _ _).alloc _;exact⟨{x with p:=w1.heap.size},rfl,⟨Blk.new w1 303 #[J ((5:Nat):Int),ifV 5 x.l],⟨H.ar.turns O ahF ahF,O.blk H.lk ahF,H.sp.turns O ahF,H.n,H.la,H.lg,H.lq,H.qa,H.qg,H.n32,H.t0,H.t1,H.m0,H.m1,H.cap⟩,by show w1.heap.size≠a;omega,by show w1.heap.size≠g;omega,by show w1.heap.size≠x.q;omega⟩,⟨by show w.heap.size<=w1.heap.size;omega,I.1,I.2.1,I.2.2.1,I.2.2.2.1,I.2.2.2.2.1⟩,e3.alloc _⟩
def Gz(h:aB w a g s)(k:Nat)(hk:KOk k)(n:Nat)(h1:1<=n)(O:n<=32){m:Nat}{pa:Int}(hp:xr k m pa)(V:s.W.length+szK k n m<=s.room)(Y:s.ops+1<=1000000000000):E 109 #[↑a,J (k:Int),J n,J pa] w (pG w a g k s n m):=by
  obtain⟨I,H,Yr,VI⟩:=hp;rcases hk with rfl|rfl|rfl|rfl|rfl
  . rw[VI (.inl rfl)];exact Df h n h1 O m I H V Y
  . exact Dg h n h1 O m I H pa V Y
  . rw[VI (.inr rfl)];exact Dh h n h1 O m I (Yr rfl) V Y
  . exact Di h n h1 O m I H pa V Y
  . exact Dj h n h1 O m I H pa V Y
end
end Go.Proofs.YtglokdbiggbkjaaGreat
