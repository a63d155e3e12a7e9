/- Joined texts. -/
import Derived.Laws.EntriesVeiled
import Derived.Test.YtglokdbiggbkjaaGreatMgBoltLoops0
import Derived.Test.YtglokdbiggbkjaaGreatMgBoltLoops3
import Derived.Test.YtglokdbiggbkjaaGreatMgBoltLoops6
import Derived.Test.YtglokdbiggbkjaaGreatMgBoltLoops9
import Derived.Test.YtglokdbiggbkjaaGreatMgBoltLoops11
import Derived.Test.YtglokdbiggbkjaaGreatMgBoltLoops13
import Derived.Test.YtglokdbiggbkjaaGreatMgBoltLoops15
import Derived.Test.YtglokdbiggbkjaaGreatMgBoltLoops16
import Derived.Test.YtglokdbiggbkjaaGreatMgBoltLoops17
set_option linter.unusedVariables false
set_option linter.unusedSimpArgs false
set_option linter.defProp false
set_option maxRecDepth 100000
set_option maxHeartbeats 16000000
open Go.Proofs.Tryz
namespace Go.Proofs.YtglokdbiggbkjaaGreat
open Go.IntKind(i64)
open Go.Value(int bool slice agg tuple pointer)
open Go.Ending(returned)
open Go.Obj(cells)
variable{w w' w0:World}{a i j:Nat}{S:List Nat}{u:Value}{B:Nat->Prop}{P T:List Int}{BB:Int}
section
open Go.RowKit
variable{g:Nat}{s:Ar}
def G6(w:World)(a g:Nat)(s:Ar)(n:Nat)(e:Ending)(w':World):Prop:=
 ∃k,e= returned (tuple #[pointer (some ⟨k,0,none⟩),J 0])/\BnA w' ⟨k,a,g,s.W.length+1,n⟩ {s with W:=s.W++List.replicate (2+n) 0} ⟨0,0,0,0⟩/\w.heap.size<=k/\k<w'.heap.size/\aa [a] w w'
def JU(h:aB w a g s)(n:Nat)(h1:1<=n)(h2:n<=32)(I:s.W.length+(2+n)<=s.room):E 147 #[↑a,J n] w (G6 w a g s n):=by
  have t1:¬(n:Int)<1:=by omega
  have t2:¬32<(n:Int):=by omega
  have OU:=h.room;have x1:IntKind.i64.wrap (2+(n:Int))=2+(n:Int):=IntWalk.i64_in _ ahB
  have Y:Kq (eh s (2+(n:Int))=({s with W:=s.W++List.replicate (2+n) 0},(s.W.length:Int)+1,(0:Int))):=qh (by
    unfold eh
    rw[if_neg ahB,if_neg ahB,show(2+(n:Int)).toNat=2+n by omega])
  have H:=qh (And.intro h (And.intro h.blk.lt h.wds.lt));have V:=qh I;clear h I;go_enter func147,ntmps147;go_wp2_with fail;refine(gz H.o.1 (2+(n:Int))).mono ?_;rintro en w1 ⟨rfl,O,u1⟩;rw[Y.o]at O ⊢;have H1:=qh (And.intro O u1);clear O u1;go_wp2;go_ret2;have hs:=H1.o.2.size;have t:aa [] w1 (w1.alloc (cells #[↑a,J ((s.W.length:Int)+1),J n,J 0,J 0,J 0,J 0] 326)):=(aa.refl _ _).alloc _;refine⟨w1.heap.size,rfl,⟨H1.o.1.turns t ahC ahC,Blk.new _ _ _,⟨by have:=H.o.2.1;show w1.heap.size≠a;omega,by have:=H.o.2.2;show w1.heap.size≠g;omega⟩,⟨by have:=V.o;show s.W.length+1<=5000;omega,h2⟩,by unfold BnB;simp⟩,hs,by simp,H1.o.2.alloc _⟩
def ma0(s:Ar)(n:Nat):Mal:=⟨{s with W:=List.replicate (4+3*n) 0},⟨0,0,0,0⟩,0,List.replicate n Sp.zero⟩
def G9(w:World)(a g:Nat)(s:Ar)(bud:Int)(n:Nat)(e:Ending)(w':World):Prop:=
 ∃c:Mx,e= returned (tuple #[↑c.l,J 0])/\bQ w' c bud (ma0 s n)/\(c.b.a=a/\c.b.g=g/\c.b.n=n/\(c.b.F:Int)=maF n)/\w.heap.size<=c.l/\w.heap.size<=c.q/\w.heap.size<=c.b.k/\aa [a] w w'
def JV(h:aB w a g s)(hs:s.W=[])(L0:a≠g)(H vT:Value)(P T:List Int)(hP:RdL w H 1 encI P)(hT:RdL w vT 1 encI T)(hc:a5 P T=0)(bud:Int)(Kk:0<=bud)(KP:bud<=1000)(I:s.room=4096):E 107 #[↑a,agg #[H,vT],J bud] w (G9 w a g s bud T.length):=by
  obtain⟨i0,hi,Kr,Ku,ab⟩:=info_parts Tryz.infoSp;obtain⟨h1,h2⟩:1<=T.length/\T.length<=32:=by have:=bh (aR hc).1;exact⟨this.2.2.1,this.2.2.2⟩
  have HC:=qh (kw (w.alloc (cells #[H,vT] 24)) H vT P T (hP.alloc _) (hT.alloc _));obtain⟨Y,cT,rfl,Qo,Qp⟩:=cf hT;have HA:=qh (And.intro h (And.intro h.blk.lt h.wds.lt));have HR:=qh (λW=>pp bud W Kk KP);have V:(w.alloc (cells #[H,.slice Y T.length cT] 24)).heap.size=w.heap.size+1:=by simp
  have B0:=qh ((Below.refl w.heap.size w).alloc (Nat.le_refl _) (cells #[H,.slice Y T.length cT] 24));obtain⟨n,hn⟩:=LE T.length;rw[<-hn]at h1 h2 HC B0 V Qo Qp ⊢;have Mk:=qh (And.intro hc hn);have HH:=qh (And.intro hs (And.intro I (And.intro L0 (And.intro Kk KP))));have x1:IntKind.i64.wrap (2*(n:Int))=2*(n:Int):=IntWalk.i64_in _ ahB;have x2:IntKind.i64.wrap (2+2*(n:Int))=2+2*(n:Int):=IntWalk.i64_in _ ahB
  have HT:Kq (eh s (2+2*(n:Int))=({s with W:=List.replicate (2+2*n) 0},(1:Int),(0:Int))):=qh (by
    unfold eh
    rw[hs,I,if_neg ahB,if_neg ahG,show(2+2*(n:Int)).toNat=2+2*n by omega];rfl)
  clear h hP hT hc hs I L0 Kk KP hn;go_enter func107,ntmps107;go_wp2_with fail;refine Pi HC.o λw1 b1=>?_;rw[Mk.o.1];have Ny:Z w1 w.heap.size 1 (.slice Y n cT):=by have:=(Blk.new w 24 #[H,.slice Y n cT]).cell 1;rw[<-(aa.of_below (S:=[]) b1).cellC (p:=⟨w.heap.size,1,none⟩) ahC ahC]at this;exact this
  rw[V]at b1;have B1:=qh (B0.o.trans (b1.mono ahB));clear b1 HC;go_wp2_with fail;refine LT (HR.o _) ?_;go_wp2_with fail;refine(gz (HA.o.1.turns (aa.of_below (S:=[]) B1.o) ahC ahC) (2+2*(n:Int))).mono ?_;rintro en w2 ⟨rfl,k2,u2⟩;rw[HT.o]at k2 ⊢;have H2:=qh (And.intro k2 ((aa.of_below (S:=[a]) B1.o).trans u2));clear k2 u2 Ny;go_wp2_with fail;refine(JU H2.o.1 n h1 h2 (by have:=HH.o.2.1;simp;omega)).mono ?_;rintro en w3 ⟨k,rfl,kb,O,KE,u3⟩;have H3:=qh (And.intro kb (And.intro O (And.intro KE (H2.o.2.trans u3))));clear kb O KE u3;go_wp2_with (refine wpList_make_full _ rfl (.tmp 48) (.tmp 48) 237 rfl w3.heap.size 113 i0 (agg #[J 0,J 0,J 0,J 0]) 4 Tryz.underlying237 hi Kr Ku .i64 .i64 n n n rfl rfl rfl rfl ?b2 ?b3 (Nat.le_refl _) ?_);case b2=>rw[ab];omega
  case b3=>unfold maxLen;omega
  intro w5 t3 hg;have hb:dD w5 w3.heap.size (List.replicate n Sp.zero):=by unfold dD;rw[mz];have:=gc t3;rw[show(madeCells #[Value.int .i64 0,J 0,J 0,J 0] (n*4)).toList=List.replicate (n*4) (J 0)from jR _ _]at this;exact this
  have t5:aa [] w3 w5:=aa.of_below ((Below.refl w3.heap.size w3).grown hg (Nat.le_refl _) (λj hj=>by cases hj));have H5:=qh (And.intro hb t5);clear t3 hg hb t5;go_wp2;go_ret2;have Ox:=H5.o.1.lt;have Kp:=H2.o.2.size;have Oi:=HA.o.2.1;have ad:=HA.o.2.2;obtain⟨_,O,KE,W9⟩:=H3.o;have Li:=W9.size;obtain⟨L,hL⟩:∃L:Obj,L=(cells #[↑a,J 1,J bud,↑k,J 0,slice (some ⟨w3.heap.size,0,none⟩) n n] 269):=⟨_,rfl⟩;have t6:aa [] w3 (w5.alloc L):=H5.o.2.alloc _;have k6:=H3.o.1.turns t6 ahC ahC ahC;have XC:=H5.o.1.turns (T:=[]) ((aa.refl _ _).alloc L) ahC;have tt:=W9.trans (t6.mono (T:=[a]) ahC);have al:=Mk.o.2;rw[hL]at k6 XC tt;refine⟨⟨w5.heap.size,w3.heap.size,⟨k,a,g,3+2*n,n⟩⟩,rfl,⟨?_,Blk.new _ _ _,XC,by show(List.replicate n Sp.zero).length=n;simp,?_,HH.o.2.2.2⟩,⟨rfl,rfl,rfl,by unfold maF;simp⟩,by show w.heap.size<=w5.heap.size;omega,by show w.heap.size<=w3.heap.size;omega,by show w.heap.size<=k;omega,tt⟩;. have e:(List.replicate (2+2*n) (0:Int)).length+1=3+2*n:=(by simp;omega);have e2:List.replicate (2+2*n) (0:Int)++List.replicate (2+n) 0=List.replicate (4+3*n) 0:=(by rw[List.replicate_append_replicate,show 2+2*n+(2+n)=4+3*n by omega]);rw[e]at k6;simp only[e2]at k6;exact k6
  . unfold mS;have:=HH.o.2.2.1;simp;omega
def Iy(s:Ar){n:Nat}(h1:1<=n):MaS n (ma0 s n):=by
 have e:∀i,sv (List.replicate n Sp.zero) i=Sp.zero:=λi=>by unfold sv;simp[List.getD_eq_getElem?_getD,List.getElem?_replicate];split<;>rfl
 have w0:∀y,ldW (List.replicate (4+3*n) (0:Int)) y=0:=λy=>by
  unfold ldW;split;.simp[List.getD_eq_getElem?_getD,List.getElem?_replicate];split<;>rfl
  .rfl
 refine⟨⟨h1,?_,?_,?_,?_,?_,?_,?_,?_,?_,?_,?_,?_,?_⟩,by simp[ma0],by simp[ma0]⟩;all_goals simp only[ma0,e,w0,km]
 all_goals try simp only[Sp.zero]
 all_goals first|omega|(intros;omega)
end
section
open Go Go.RowKit
def Dv(F:Int)(s:Ar)(b:Bn):(bnS F s b).1.ops<=s.ops+1:=by
 unfold bnS;repeat' split
 all_goals first|exact ij _ _ _|exact iW _ _|simp
theorem En(n:Nat)(bud:Int)(h:Mal)(i:Nat)(p:Sp):(maP n bud h i p).1.ops<=h.ar.ops+1:=by
 have hb:=Dv (maF n) h.ar h.bn;have h1:=λx v=>ij h.ar x v;have H:=λx=>iW h.ar x;have O:=λx o v=>nX h.ar x o v;have V:=λx v=>jF h.ar x v;have I:=λx v=>fg h.ar x v;unfold maP;split
 .unfold fo;repeat' split
  all_goals first|exact h1 _ _|exact H _|exact I _ _
 .unfold dA;grind (splits:=40)
def oY(n:Nat)(bud:Int)(h:Mal)(i:Nat):(dT n bud h i).1.ar.ops<=h.ar.ops+1:=by
 unfold dT;split;.simp
 .exact En n bud h i _
def nh(h:Mal)(i:Nat)(u v:Int):(io h i u v).ar=h.ar:=by unfold io;split<;>rfl
def maV(l:Nat):Value:= .iface 181 (agg #[.iface 185 ↑l])
def xM(n:Nat)(bud:Int):LkM n where
 σ:=Mal
 β:=Mx×Nat×Nat
 ok:=λst N=>MaS n st/\st.ar.ops<=N
 ar:=λst=>st.ar
 sp:=λst i=>sv st.S i
 cn:=λst i=>if (sv st.S i).pc=10 then 1 else 0
 rd:=false
 step:=λst i=>(dT n bud st i).1
 ask:=λst i r=>if r then st else io st i 0 1
 leave:=λst i=>io st i 10 11
 bt:=λb=>b.2.1
 hi:=λb=>b.2.2
 fp:=λb=>mS b.1
 is:=fun(b:Mx×Nat×Nat) w a g lb (st:Mal)=>bQ w b.1 bud st/\(b.1.b.a=a/\b.1.b.g=g/\b.1.b.n=n/\(b.1.b.F:Int)=maF n)/\jE w lb n 10 (maV b.1.l) (mS b.1) b.2.1 b.2.2
def bQ.far{c:Mx}{bud:Int}{h:Mal}(k:bQ w c bud h)(t:aa S w w')(H:∀x∈mS c,x∉S):bQ w' c bud h:=by unfold mS at H;simp only[List.mem_cons,List.not_mem_nil,or_false,forall_eq_or_imp,forall_eq]at H;obtain⟨h1,I,O,V,Y⟩:=H;exact {k with bn:=k.bn.turns t V Y O,lk:=t.blk k.lk h1,sp:=k.sp.turns t I}
def tL(n:Nat)(bud:Int)(st:Mal)(i:Nat)(hi:i<st.S.length):(dT n bud st i).2=di (sv st.S i) (sv (dT n bud st i).1.S i):=by
 unfold dT di;by_cases h:(sv st.S i).pc=0\/(sv st.S i).pc=10;.rw[if_pos h];symm;exact decide_eq_false (λq=>by omega)
 .rw[if_neg h];simp only[be,hi,and_true,if_true];by_cases c:(maP n bud st i (sv st.S i)).2.2.2.pc=0\/(maP n bud st i (sv st.S i)).2.2.2.pc=10;.exact aaE
  .exact aaF
def vQ{n:Nat}(bud:Int)(hn:1<=n/\n<=32):(xM n bud).Good where
 n32:=hn
 okS:=fun(st:Mal) N i h _ hi=>⟨h.1.step bud hi,Nat.le_trans (oY n bud st i) (by have:=h.2;omega)⟩
 okA:=fun(st:Mal) N i r h _ hi=>by
  show MaS n (if r then st else io st i 0 1)/\_
  cases r
  .refine⟨?_,?_⟩
   .show MaS n (io st i 0 1)
    unfold io
    split
    .rename_i e;exact h.1.beg e (.inl ⟨rfl,rfl⟩)
    .exact h.1
   .show(io st i 0 1).ar.ops<=_
    rw[nh];have:=h.2;omega
  .exact⟨h.1,by have:=h.2;show st.ar.ops<=_;omega⟩
 okL:=fun(st:Mal) N i h _ hi=>by
  refine⟨?_,?_⟩
  .show MaS n (io st i 10 11)
   unfold io
   split
   .rename_i e;exact h.1.beg e (.inr ⟨rfl,rfl⟩)
   .exact h.1
  .show(io st i 10 11).ar.ops<=_
   rw[nh];have:=h.2;omega
 okm:=fun(st:Mal) N h=>⟨h.1,by have:=h.2;omega⟩
 one:=fun(st:Mal) N i j h hi hj h1 h2 _=>h.1.one hi hj h1 h2
 pcs:=fun(st:Mal) N i h hi=>by have:=h.1.i.pcs i hi;show 0<=(sv st.S i).pc;omega
 cnt:=fun(st:Mal) N i h hi=>by
  exact aaG
 opsS:=fun(st:Mal) N i _ _ _=>oY n bud st i
 arA:=fun(st:Mal) i r=>by cases r;exact nh _ _ _ _;rfl
 arL:=fun(st:Mal) i=>nh _ _ _ _
 ais:=fun(b:Mx×Nat×Nat) w a g lb (st:Mal) h=>by obtain⟨k,⟨rfl,rfl,_⟩,_⟩:=h;exact k.bn.ar
 lk:=fun(b:Mx×Nat×Nat) w a g lb (st:Mal) h=>h.2.2.c1
 kd:=fun(b:Mx×Nat×Nat) w a g lb (st:Mal) h=>⟨10,h.2.2.blk.cell 0,rfl⟩
 fpa:=fun(b:Mx×Nat×Nat) w a g lb (st:Mal) h=>⟨λx V=>(h.2.2.fl x V).2,h.2.2.hw⟩
 far:=fun(b:Mx×Nat×Nat) w a g lb (st:Mal) w' S h t hS=>⟨h.1.far t (λx V m=>by have h9:b.2.2<=x\/x<b.2.1:=hS x m;have:=h.2.2.fl x V;omega),h.2.1,h.2.2.far t hS⟩
 cS:=fun(b:Mx×Nat×Nat) w a g lb (st:Mal) N i h hk hN hi=>by
  obtain⟨k,hc,hd⟩:=h
  refine(oC .ma hd.c1 hd.c2 hi (R:=λr w'=>r=di (sv st.S i) (sv (dT n bud st i).1.S i)/\bQ w' b.1 bud (dT n bud st i).1/\aa (mS b.1) w w') λW bw=>?_).mono ?_
  .obtain⟨-,-,O,Y⟩:=hc
   have:=Jf (k.below bw) (by rw[O];exact hk.1) (by rw[O];exact Y) (by have:=hk.2;unfold lkB at hN;omega) i ahB
   rw[O]at this
   refine Pi this λw' H=>?_
   exact⟨_,rfl,tL n bud st i (by rw[k.sl,O];exact hi),H.is,(aa.of_below bw).trans H.tn⟩
  .exact aaH
 cA:=fun(b:Mx×Nat×Nat) w a g lb (st:Mal) N i r h hk hN hi=>by
  obtain⟨k,hc,hd⟩:=h
  refine(yO .ma hd.c1 hd.c2 hi r (R:=λq w'=>q=decide ((sv st.S i).pc=0/\(r=true->(false:Bool)=true))/\bQ w' b.1 bud (if r then st else io st i 0 1)/\aa (mS b.1) w w') (λI W bw=>?_) (λI W bw=>?_)).mono ?_
  .subst I
   refine Pi (JL (k.below bw) i (by have:=hc.2.2.1;omega)) λw' H=>?_
   exact⟨_,rfl,by simp,H.is,(aa.of_below bw).trans H.tn⟩
  .exact aaI
  .exact aaH
 cL:=fun(b:Mx×Nat×Nat) w a g lb (st:Mal) N i h hk hN hi=>by
  obtain⟨k,hc,hd⟩:=h
  refine(kT .ma hd.c1 hd.c2 hi (R:=λq w'=>q=decide ((sv st.S i).pc=10)/\bQ w' b.1 bud (io st i 10 11)/\aa (mS b.1) w w') λW bw=>?_).mono ?_
  .refine Pi (Ge (k.below bw) i (by have:=hc.2.2.1;omega)) λw' H=>?_
   exact⟨_,rfl,rfl,H.is,(aa.of_below bw).trans H.tn⟩
  .exact aaH
 cP:=fun(b:Mx×Nat×Nat) w a g lb (st:Mal) i h hi=>oA .ma h.2.2.c1 h.2.2.c2 hi _ λW bw=>C0 (h.1.below bw) i (by have:=h.2.1.2.2.1;omega)
 cC:=fun(b:Mx×Nat×Nat) w a g lb (st:Mal) i h hi=>oz .ma h.2.2.c1 h.2.2.c2 hi _ λW bw=>C0 (h.1.below bw) i (by have:=h.2.1.2.2.1;omega)
end
section
open Go
variable{p g p':Sp}{W':List Int}
def cX(p:Sp):Prop:=p.pc=3\/p.pc=4\/(10<=p.pc/\p.pc<=15)
def StP(p g:Sp)(v:Int):Prop:=
 (p.pc=3->(0<g.pc/\g.pc<10)/\¬0<v)/\(p.pc=4->g.pc=10/\¬0<v)/\(10<=p.pc/\p.pc<=14->g.pc=10)/\(p.pc=13->1<=p.a)/\(p.pc=15->10<g.pc/\¬0<v)
def FrP(g:Sp)(v:Int):Prop:=g.pc=if 0<v then 10 else 0
structure cK(c:CoC)(n N:Nat)(ml:Nat->Nat):Prop where
 k:(1<=c.kg/\c.kg<=5)/\1<=c.kl/\c.kl<=5
 inj:Inj c n
 nd:∀i,i<n->c.node i<N/\c.slot i<ml (c.node i)
 cw:∀a,a<N->c.cw a=c.tl a+szI c.kl (ml a) c.m
 gl:∀a,a<N->c.tg+szI c.kg N c.m<=c.tl a
 sz:∀a,a<N->0<=szI c.kl (ml a) c.m
 ap:∀a b,a<N->b<N->a≠b->c.cw a<c.tl b\/c.cw b<c.tl a
structure CoM(c:CoC)(n N:Nat)(ml:Nat->Nat)(st:Co):Prop where
 fG:cy c.kg c.tg c.m N st.s.W st.G
 fL:∀a,a<N->cy c.kl (c.tl a) c.m (ml a) st.s.W (st.L.getD a [])
 lL:st.L.length=N
 lW:∀a,a<N->1<=c.cw a/\c.cw a<=st.s.W.length
 v:CoV c n st
 sj:∀j,j<n->StP (sv st.T j) (sv st.G (c.node j)) (ldW st.s.W (c.cw (c.node j)))
 fr:∀a,a<N->(∀j,j<n->c.node j=a->¬cX (sv st.T j))->FrP (sv st.G a) (ldW st.s.W (c.cw a))
section
variable{c:CoC}{n N:Nat}{ml:Nat->Nat}{st st':Co}
def j5{v:Int}(h:¬cX p):StP p g v:=by unfold cX at h;refine⟨?_,?_,?_,?_,?_⟩<;>intro hc<;>omega
def CoM.uniq(h:CoM c n N ml st)(y:cK c n N ml)(hi:i<n)(H:j<n)(I:c.node i=c.node j)(h1:(lsp st.L (c.node i) (c.slot i)).pc=10)(O:cX (sv st.T j)):i=j:=by
 have hk:=h.v.k j H;have V:(lsp st.L (c.node j) (c.slot j)).pc=10:=by unfold dp at hk;unfold cX at O;omega
 have Y:=(y.nd i hi).1;have e:=(h.fL _ Y).one y.k.2 (i:=c.slot i) (j:=c.slot j) (y.nd i hi).2 (by rw[I];exact(y.nd j H).2) h1 (by rw[I];exact V);exact y.inj i j hi H I e
def CoM.one(h:CoM c n N ml st)(y:cK c n N ml)(hi:i<n)(H:j<n)(h1:10<=(sv st.T i).pc/\(sv st.T i).pc<=14)(V:10<=(sv st.T j).pc/\(sv st.T j).pc<=14):i=j:=by have I:=(h.sj i hi).2.2.1 h1;have O:=(h.sj j H).2.2.1 V;have hn:=h.fG.one y.k.1 (y.nd i hi).1 (y.nd j H).1 I O;have Y:=h.v.k i hi;exact h.uniq y hi H hn (by unfold dp at Y;omega) (by unfold cX;omega)
def CoM.updA(h:CoM c n N ml st)(hi:i<n)(hb:¬cX (sv st.T i))(O:¬cX p')(Y:st'.T=st.T.set i p')(V:st'.G=st.G)(hc:∀a,a<N->ldW st'.s.W (c.cw a)=ldW st.s.W (c.cw a))(hN:∀j,j<n->c.node j<N)(hl:st'.s.W.length=st.s.W.length)(fG:cy c.kg c.tg c.m N st'.s.W st'.G)(fL:∀a,a<N->cy c.kl (c.tl a) c.m (ml a) st'.s.W (st'.L.getD a []))(lL:st'.L.length=N)(v:CoV c n st'):CoM c n N ml st':=by
  have Oq:i<st.T.length:=by have:=h.v.lT;omega
  have hs:=svS Oq p';refine⟨fG,fL,lL,λa H=>by rw[hl];exact h.lW a H,v,λj I=>?_,λa H hf=>?_⟩
  . rw[Y,hs,V,hc _ (hN j I)];split;. exact j5 O
    . exact h.sj j I
  . rw[V,hc a H];refine h.fr a H (λj I Rh=>?_);have:=hf j I Rh;rw[Y,hs]at this;split at this;. rename_i e;rw[e];exact hb
    . exact this
def CoM.updB(h:CoM c n N ml st)(y:cK c n N ml)(hi:i<n)(h10:(lsp st.L (c.node i) (c.slot i)).pc=10)(V:st'.T=st.T.set i p')(hG:∀a,a≠c.node i->sv st'.G a=sv st.G a)(hc:∀a,a<N->a≠c.node i->ldW st'.s.W (c.cw a)=ldW st.s.W (c.cw a))(hS:StP p' (sv st'.G (c.node i)) (ldW st'.s.W (c.cw (c.node i))))(hF:¬cX p'->FrP (sv st'.G (c.node i)) (ldW st'.s.W (c.cw (c.node i))))(hl:st'.s.W.length=st.s.W.length)(fG:cy c.kg c.tg c.m N st'.s.W st'.G)(fL:∀a,a<N->cy c.kl (c.tl a) c.m (ml a) st'.s.W (st'.L.getD a []))(lL:st'.L.length=N)(v:CoV c n st'):CoM c n N ml st':=by
  have Oq:i<st.T.length:=by have:=h.v.lT;omega
  have hs:=svS Oq p';refine⟨fG,fL,lL,λa I=>by rw[hl];exact h.lW a I,v,λj H=>?_,λa I hf=>?_⟩
  . rw[V,hs];split;. rename_i e;rw[e];exact hS
    . rename_i e;by_cases Y:c.node i=c.node j;. exact j5 (λhb=>e (h.uniq y hi H Y h10 hb).symm)
      . rw[hG _ (λe=>Y e.symm),hc _ (y.nd j H).1 (λe=>Y e.symm)];exact h.sj j H
  . by_cases e:a=c.node i;. rw[e];refine hF ?_;have:=hf i hi e.symm;rw[V,hs,if_pos rfl]at this;exact this
    . rw[hG a e,hc a I e];refine h.fr a I (λj H O=>?_);have:=hf j H O;rw[V,hs]at this;split at this;. rename_i e2;rw[e2]at O;exact absurd O.symm e
      . exact this
def qu(L:List (List Sp))(a s:Nat)(p:Sp)(H:a<L.length)(b:Nat):(jQ L a s p).getD b []=if b=a then(L.getD a []).set s p else L.getD b []:=by
 unfold jQ;rw[List.getD_eq_getElem?_getD,List.getElem?_set];by_cases e:a=b;.subst e;rw[if_pos rfl,if_pos H,if_pos rfl];rfl
 .rw[if_neg e,if_neg (λh=>e h.symm),<-List.getD_eq_getElem?_getD]
def uC(c:CoC)(st:Co)(i:Nat)(p:Sp):(setL c st i p).length=st.L.length:=(oX _ _ _ _ 0).2
def CoM.frL(h:CoM c n N ml st)(y:cK c n N ml)(H:a<N)(O:W'.length=st.s.W.length)(I:∀x,¬(c.tl a<=x/\x<c.tl a+szI c.kl (ml a) c.m)->ldW W' x=ldW st.s.W x):cy c.kg c.tg c.m N W' st.G/\(∀b,b<N->b≠a->cy c.kl (c.tl b) c.m (ml b) W' (st.L.getD b []))/\∀b,b<N->ldW W' (c.cw b)=ldW st.s.W (c.cw b):=by
  have g1:=y.gl a H;have c1:=y.cw a H;refine⟨h.fG.frame O (λx h1 Y=>I x ahB),λb hb hn=>(h.fL b hb).frame O (λx h1 Y=>I x ?_),λb hb=>I _ ?_⟩;. have:=y.ap a b H hb (λe=>hn e.symm);have c2:=y.cw b hb;omega
  . by_cases e:b=a;. subst e;omega
    . have:=y.ap a b H hb (λV=>e V.symm);have c2:=y.cw b hb;have s2:=y.sz b hb;omega
def CoM.frG(h:CoM c n N ml st)(y:cK c n N ml)(I:W'.length=st.s.W.length)(H:∀x,¬(c.tg<=x/\x<c.tg+szI c.kg N c.m)->ldW W' x=ldW st.s.W x):(∀b,b<N->cy c.kl (c.tl b) c.m (ml b) W' (st.L.getD b []))/\∀b,b<N->ldW W' (c.cw b)=ldW st.s.W (c.cw b):=by refine⟨λb hb=>(h.fL b hb).frame I (λx h1 O=>H x (by have:=y.gl b hb;omega)),λb hb=>H _ (by have:=y.gl b hb;have:=y.cw b hb;have:=y.sz b hb;omega)⟩
def CoM.frC(h:CoM c n N ml st)(y:cK c n N ml)(H:a<N)(u:Int):cy c.kg c.tg c.m N (stW st.s.W (c.cw a) u) st.G/\(∀b,b<N->cy c.kl (c.tl b) c.m (ml b) (stW st.s.W (c.cw a) u) (st.L.getD b []))/\(∀b,b<N->b≠a->ldW (stW st.s.W (c.cw a) u) (c.cw b)=ldW st.s.W (c.cw b))/\ldW (stW st.s.W (c.cw a) u) (c.cw a)=u:=by
  have hw:=gC (aT.2 (h.lW a H)) u;have Y:=y.gl a H;have c1:=y.cw a H;have s1:=y.sz a H
  refine⟨h.fG.frame (bM _ _ _) (λx h1 O=>by rw[hw,if_neg ahB]),λb hb=>(h.fL b hb).frame (bM _ _ _) (λx h1 O=>by
    rw[hw,if_neg];by_cases e:b=a;. subst e;omega
    . have:=y.ap a b H hb (λI=>e I.symm);have:=y.cw b hb
      omega),λb hb V=>by
    rw[hw,if_neg];have:=y.ap a b H hb (λI=>V I.symm);have:=y.cw b hb;have:=y.sz b hb
    omega,by rw[hw,if_pos rfl]⟩
def FrP.of{v:Int}(h:FrP g v):(0<v->g.pc=10)/\(¬0<v->g.pc=0):=by unfold FrP at h;exact⟨λO=>by rw[h,if_pos O],λO=>by rw[h,if_neg O]⟩
def CoM.setLL(h:CoM c n N ml st)(H:c.node i<N)(fL:∀b,b<N->cy c.kl (c.tl b) c.m (ml b) W' (st.L.getD b []))(I:cy c.kl (c.tl (c.node i)) c.m (ml (c.node i)) W' ((st.L.getD (c.node i) []).set (c.slot i) p)):∀b,b<N->cy c.kl (c.tl b) c.m (ml b) W' ((setL c st i p).getD b []):=λb hb=>by
  unfold setL
  rw[qu _ _ _ _ (by rw[h.lL];exact H)]
  split
  . rename_i e;rw[e];exact I
  . exact fL b hb
def Cq(L:List (List Sp))(a s:Nat):lsp L a s=sv (L.getD a []) s:=rfl
def CoM.ask(h:CoM c n N ml st)(y:cK c n N ml)(hi:i<n):CoM c n N ml (bC c st i):=by
 have O:=xv h.v y.inj hi;unfold bC at O ⊢;split
 .rename_i I;rw[if_pos I]at O;have H:=y.nd i hi
  exact h.updA hi (p':={(sv st.T i)with pc:=1}) (by unfold cX;omega) ah5 rfl rfl (λ_ _=>rfl) (λj V=>(y.nd j V).1) rfl h.fG
   (h.setLL H.1 h.fL (by rw[Cq];exact(h.fL _ H.1).ask y.k.2 H.2)) (by show(setL c st i _).length=N;rw[uC,h.lL]) O
 .exact h
def CoM.leave(h:CoM c n N ml st)(y:cK c n N ml)(hi:i<n):CoM c n N ml (aA st i):=by
 have O:=qf h.v y.inj hi;unfold aA at O ⊢;split;.rename_i H;rw[if_pos H]at O;have I:=h.v.k i hi;have hs:=(h.sj i hi).2.2.1 ahB;exact h.updB y hi (p':={(sv st.T i)with pc:=11}) (by unfold dp at I;omega) rfl (λ_ _=>rfl) (λ_ _ _=>rfl) ⟨λe=>by simp at e,λe=>by simp at e,λ_=>hs,λe=>by simp at e,λe=>by simp at e⟩ (λhb=>absurd (show cX {(sv st.T i)with pc:=11} from .inr (.inr ⟨by show(10:Int)<=11;decide,by show(11:Int)<=15;decide⟩)) hb) rfl h.fG h.fL h.lL O
 .exact h
theorem CoM.step(h:CoM c n N ml st)(y:cK c n N ml){B:Int}(hB:CoB c B st)(KC:1<=B)(KD:B<=10000000000000)(hi:i<n):CoM c n N ml (ak c st i):=by
 have O:=sR h.v y.inj y.k hi;have H:=y.nd i hi;have LJ:=h.v.k i hi;have hq:=h.v.lpc hi;have hg:=h.v.gpc hi;have sL:=jb (t:=c.tl (c.node i)) (m:=c.m) (s:=st.s) (i:=(c.slot i:Int)) y.k.2 hq;have sG:=jb (t:=c.tg) (m:=c.m) (s:=st.s) (i:=(c.node i:Int)) y.k.1 hg;have Oq:i<st.T.length:=by have:=h.v.lT;omega
 have Nv:c.node i<st.G.length:=by rw[h.fG.len];exact H.1
 have QP:∀q a,a≠c.node i->sv (st.G.set (c.node i) q) a=sv st.G a:=λq a e=>by rw[svS Nv,if_neg e]
 have QO:∀q,sv (st.G.set (c.node i) q) (c.node i)=q:=λq=>by rw[svS Nv,if_pos rfl]
 have Kh:=h.sj i hi;have Wn:¬cX (sv st.T i)->(lsp st.L (c.node i) (c.slot i)).pc=10->FrP (sv st.G (c.node i)) (ldW st.s.W (c.cw (c.node i))):=λhb h10=>by refine h.fr _ H.1 (λj hj hn TW=>?_);have e:=h.uniq y hi hj hn.symm h10 TW;rw[<-e]at TW;exact hb TW
 unfold ak at O ⊢;split;.exact h
 rename_i ab;rw[if_neg ab]at O;obtain⟨p,hp⟩:=LE (sv st.T i);rw[<-hp]at LJ ab O Kh Wn ⊢;have hc:p.pc=1\/p.pc=2\/p.pc=3\/p.pc=4\/p.pc=11\/p.pc=12\/p.pc=13\/p.pc=14\/p.pc=15\/p.pc=16:=by unfold dp at LJ;omega
 have Pe:¬cX p->¬cX (sv st.T i):=by rw[hp];exact id
 have LS:=(h.fL _ H.1).step y.k.2 hB.w ahB KD H.2 hq;have LF:=h.frL y H.1 (db _ _ _ _ _ _).2 LS.2;have GS:=h.fG.step y.k.1 hB.w ahB KD H.1 hg;have Y:=h.frG y (db _ _ _ _ _ _).2 GS.2;obtain⟨pc,u,b,z⟩:=p;simp only at hc;have Mc:pc≠0->pc≠1->pc≠16->(lsp st.L (c.node i) (c.slot i)).pc=10:=λa0 a1 a2=>by unfold dp at LJ;simp only at LJ;omega
 have nl:=λb hb=>(h.fL b hb)
 have VN:∀b,b<N->cy c.kl (c.tl b) c.m (ml b) (stL c st i).1.W ((setL c st i (stL c st i).2).getD b []):=λb hb=>by
  unfold setL;rw[qu _ _ _ _ (by rw[h.lL];exact H.1)];split;.rename_i e;rw[e];exact LS.1
  .rename_i e;exact LF.2.1 b hb e
 have SW:∀q,(setL c st i q).length=N:=λq=>by rw[uC,h.lL]
 rcases hc with rfl|rfl|rfl|rfl|rfl|rfl|rfl|rfl|rfl|rfl
 .rw[mv1]at O ⊢;refine h.updA (p':=if mn c st i then⟨2,u,b,z⟩else⟨1,u,b,z⟩) hi (Pe ah5) ?_ rfl rfl LF.2.2 (λj hj=>(y.nd j hj).1) (db _ _ _ _ _ _).2 LF.1 VN (SW _) O;unfold cX;split<;>simp
 .have h10:=Mc ahD ahD ahD;have hF:=(Wn ah5 h10).of;rw[mv2]at O ⊢;split;.rename_i Ms;rw[if_pos Ms]at O;refine h.updB y (p':=⟨10,ldW st.s.W (c.cw (c.node i)),b,z⟩) hi h10 rfl (λ_ _=>rfl) (λa _ _=>by show ldW (af _ _).W _=_;rw[aQ]) ?_ (λhb=>absurd (show cX _ from .inr (.inr ⟨by show(10:Int)<=10;decide,by show(10:Int)<=15;decide⟩)) hb) aiv (by show cy _ _ _ _ (af _ _).W _;rw[aQ];exact h.fG) (λb hb=>by show cy _ _ _ _ (af _ _).W _;rw[aQ];exact h.fL b hb) h.lL O;exact⟨λe=>by simp at e,λe=>by simp at e,λ_=>hF.1 Ms,λe=>by simp at e,λe=>by simp at e⟩
  .rename_i Ms;rw[if_neg Ms]at O;have g0:=hF.2 Ms;refine h.updB y (p':=⟨3,ldW st.s.W (c.cw (c.node i)),b,z⟩) hi h10 rfl (λa e=>QP _ a e) (λa _ _=>by show ldW (af _ _).W _=_;rw[aQ]) ?_ (λhb=>absurd (show cX _ from .inl rfl) hb) aiv (by show cy _ _ _ _ (af _ _).W _;rw[aQ];exact h.fG.ask y.k.1 H.1) (λb hb=>by show cy _ _ _ _ (af _ _).W _;rw[aQ];exact h.fL b hb) h.lL O;refine⟨λ_=>⟨?_,?_⟩,λe=>by simp at e,λe=>by simp at e,λe=>by simp at e,λe=>by simp at e⟩;.show 0<(sv (st.G.set (c.node i) (askK c.kg (sv st.G (c.node i)))) (c.node i)).pc/\(sv (st.G.set (c.node i) (askK c.kg (sv st.G (c.node i)))) (c.node i)).pc<10;rw[QO,m9 g0];decide
   .show ¬0<ldW (af _ _).W _;rw[aQ];exact Ms
 .have h10:=Mc ahD ahD ahD;have Li:=Kh.1 rfl;have s2:=sG.2.1 Li.1.1 Li.1.2;have ec:nV c st i=decide ((stG c st i).2.pc=10):=qT Li.1.1 Li.1.2 s2.1;rw[mv3]at O ⊢;refine h.updB y (p':=if nV c st i then⟨4,u,b,z⟩else⟨3,u,b,z⟩) hi h10 rfl (λa e=>QP _ a e) (λa V _=>Y.2 a V) ?_ ?_ (db _ _ _ _ _ _).2 GS.1 Y.1 h.lL O
  .show StP _ (sv (st.G.set (c.node i) (stG c st i).2) (c.node i)) (ldW (stG c st i).1.W (c.cw (c.node i)));rw[QO,show ldW (stG c st i).1.W (c.cw (c.node i))=_ from Y.2 _ H.1];split;.rename_i e;rw[ec]at e;have e':(stG c st i).2.pc=10:=(by simpa using e);exact⟨λe=>by simp at e,λ_=>⟨e',Li.2⟩,λe=>by simp at e,λe=>by simp at e,λe=>by simp at e⟩
   .rename_i e;rw[ec]at e;have e':¬(stG c st i).2.pc=10:=(by simpa using e);refine⟨λ_=>⟨⟨s2.1,?_⟩,Li.2⟩,λe=>by simp at e,λe=>by simp at e,λe=>by simp at e,λe=>by simp at e⟩;have:=s2.2;show(stG c st i).2.pc<10;unfold stG at *;omega
  .intro hb;exfalso;apply hb;unfold cX;split<;>simp
 .have h10:=Mc ahD ahD ahD;have MB:=Kh.2.1 rfl;have I:=h.frC y H.1 1;rw[mv4]at O ⊢;refine h.updB y (p':=⟨10,1,b,z⟩) hi h10 rfl (λ_ _=>rfl) (λa V e=>by show ldW (ae _ _ _).W _=_;rw[ay];exact I.2.2.1 a V e) ?_ (λhb=>absurd (show cX _ from .inr (.inr ⟨by show(10:Int)<=10;decide,by show(10:Int)<=15;decide⟩)) hb) aiw (by show cy _ _ _ _ (ae _ _ _).W _;rw[ay];exact I.1) (λb hb=>by show cy _ _ _ _ (ae _ _ _).W _;rw[ay];exact I.2.1 b hb) h.lL O;exact⟨λe=>by simp at e,λe=>by simp at e,λ_=>MB.1,λe=>by simp at e,λe=>by simp at e⟩
 .have h10:=Mc ahD ahD ahD;have hs:=Kh.2.2.1 ahC;rw[Gm]at O ⊢;refine h.updB y (p':=⟨if c.bud<ldW st.s.W (c.cw (c.node i))then 14 else 12,ldW st.s.W (c.cw (c.node i)),b,z⟩) hi h10 rfl (λ_ _=>rfl) (λa _ _=>by show ldW (af _ _).W _=_;rw[aQ]) ?_ ?_ aiv (by show cy _ _ _ _ (af _ _).W _;rw[aQ];exact h.fG) (λb hb=>by show cy _ _ _ _ (af _ _).W _;rw[aQ];exact h.fL b hb) h.lL O;.refine⟨λe=>?_,λe=>?_,λ_=>hs,λe=>?_,λe=>?_⟩<;>(simp only at e;split at e<;>omega)
  .intro hb;exfalso;apply hb;unfold cX;simp only;split<;>simp
 .have h10:=Mc ahD ahD ahD;have hs:=Kh.2.2.1 ahC;rw[Gn]at O ⊢;have Oi:(cD c.kl (c.tl (c.node i)) st.s (c.slot i) (lsp st.L (c.node i) (c.slot i))).1.W=st.s.W:=by unfold cD;(repeat' split)<;>first|rfl|exact aQ _ _
  refine h.updB y (p':=⟨if mW u c.bud (cD c.kl (c.tl (c.node i)) st.s (c.slot i) (lsp st.L (c.node i) (c.slot i))).2 then 13 else 14,u,b,z⟩) hi h10 rfl (λ_ _=>rfl) (λa _ _=>by show ldW (cD _ _ _ _ _).1.W _=_;rw[Oi]) ?_ ?_ (by show(cD _ _ _ _ _).1.W.length=_;rw[Oi]) (by show cy _ _ _ _ (cD _ _ _ _ _).1.W _;rw[Oi];exact h.fG) (λb hb=>by show cy _ _ _ _ (cD _ _ _ _ _).1.W _;rw[Oi];exact h.fL b hb) h.lL O
  .refine⟨λe=>?_,λe=>?_,λ_=>hs,λe=>?_,λe=>?_⟩;.simp only at e;split at e<;>omega
   .simp only at e;split at e<;>omega
   .simp only at e;split at e;.rename_i Ux;unfold mW at Ux;simp only[Bool.and_eq_true,decide_eq_true_eq]at Ux;exact Ux.1.1
    .omega
   .simp only at e;split at e<;>omega
  .intro hb;exfalso;apply hb;unfold cX;simp only;split<;>simp
 .have h10:=Mc ahD ahD ahD;have hs:=Kh.2.2.1 ahC;have hu:=Kh.2.2.2.1 rfl;have I:=h.frC y H.1 (u+1);rw[Gp]at O ⊢;refine h.updB y (p':=⟨16,u,b,z⟩) hi h10 rfl (λ_ _=>rfl) (λa V e=>by show ldW (ae _ _ _).W _=_;rw[ay];exact I.2.2.1 a V e) (j5 ah5) ?_ aiw (by show cy _ _ _ _ (ae _ _ _).W _;rw[ay];exact I.1) ?_ (SW _) O;.intro _;show FrP _ (ldW (ae _ _ _).W _);rw[ay,I.2.2.2];unfold FrP;rw[if_pos (by simp only at hu;omega)];exact hs
  .show ∀b,b<N->cy _ _ _ _ (ae _ _ _).W _;rw[ay];exact h.setLL H.1 I.2.1 (by rw[Cq];exact(I.2.1 _ H.1).leave y.k.2 H.2)
 .have h10:=Mc ahD ahD ahD;have hs:=Kh.2.2.1 ahC;have I:=h.frC y H.1 0;rw[Gq]at O ⊢;refine h.updB y (p':=⟨15,u,b,z⟩) hi h10 rfl (λa e=>QP _ a e) (λa V e=>by show ldW (ae _ _ _).W _=_;rw[ay];exact I.2.2.1 a V e) ?_ (λhb=>absurd (show cX _ from .inr (.inr ⟨by show(10:Int)<=15;decide,by show(15:Int)<=15;decide⟩)) hb) aiw (by show cy _ _ _ _ (ae _ _ _).W _;rw[ay];exact I.1.leave y.k.1 H.1) (λb hb=>by show cy _ _ _ _ (ae _ _ _).W _;rw[ay];exact I.2.1 b hb) h.lL O;refine⟨λe=>by simp at e,λe=>by simp at e,λe=>by simp at e,λe=>by simp at e,λ_=>⟨?_,?_⟩⟩;.show 10<(sv (st.G.set (c.node i) (ba (sv st.G (c.node i)))) (c.node i)).pc;rw[QO,mC hs];decide
  .show ¬0<ldW (ae _ _ _).W _;rw[ay,I.2.2.2];decide
 .have h10:=Mc ahD ahD ahD;have hs:=Kh.2.2.2.2 rfl;have s2:=sG.2.2 hs.1;have ec:nV c st i=decide ((stG c st i).2.pc=0):=nW hs.1 s2;rw[Gr]at O ⊢;split;.rename_i e;rw[if_pos e]at O;rw[ec]at e;have e':(stG c st i).2.pc=0:=(by simpa using e);refine h.updB y (p':=⟨16,u,b,z⟩) hi h10 rfl (λa e=>QP _ a e) (λa V _=>Y.2 a V) (j5 ah5) ?_ (db _ _ _ _ _ _).2 GS.1 (h.setLL H.1 Y.1 (by rw[Cq];exact(Y.1 _ H.1).leave y.k.2 H.2)) (SW _) O;intro _;show FrP (sv (st.G.set (c.node i) (stG c st i).2) (c.node i)) (ldW (stG c st i).1.W (c.cw (c.node i)));rw[QO,show ldW (stG c st i).1.W (c.cw (c.node i))=_ from Y.2 _ H.1];unfold FrP;rw[if_neg hs.2];exact e'
  .rename_i e;rw[if_neg e]at O;rw[ec]at e;have e':¬(stG c st i).2.pc=0:=(by simpa using e);refine h.updB y (p':=⟨15,u,b,z⟩) hi h10 rfl (λa e=>QP _ a e) (λa V _=>Y.2 a V) ?_ (λhb=>absurd (show cX _ from .inr (.inr ⟨by show(10:Int)<=15;decide,by show(15:Int)<=15;decide⟩)) hb) (db _ _ _ _ _ _).2 GS.1 Y.1 h.lL O;refine⟨λe=>by simp at e,λe=>by simp at e,λe=>by simp at e,λe=>by simp at e,λ_=>⟨?_,?_⟩⟩;.show 10<(sv (st.G.set (c.node i) (stG c st i).2) (c.node i)).pc;rw[QO];unfold stG at *;omega
   .show ¬0<ldW (stG c st i).1.W (c.cw (c.node i));rw[show ldW (stG c st i).1.W (c.cw (c.node i))=_ from Y.2 _ H.1];exact hs.2
 .rw[Gs]at O ⊢;refine h.updA (p':=if mn c st i then⟨0,u,b,z⟩else⟨16,u,b,z⟩) hi (Pe ah5) ?_ rfl rfl LF.2.2 (λj hj=>(y.nd j hj).1) (db _ _ _ _ _ _).2 LF.1 VN (SW _) O;unfold cX;split<;>simp
end
end
section
open Go.RowKit
variable{g:Nat}{s:Ar}
def nM(w:World)(a g k:Nat)(s:Ar)(n m:Nat)(e:Ending)(w':World):Prop:=
 ∃x:Fx,e= returned (tuple #[↑x.p,J 0])/\dx w' a g k x (aG k s n m) (a9 k n)/\(w.heap.size<=x.p/\w.heap.size<=x.l/\w.heap.size<=x.q/\x.n=n/\x.m=m/\x.t=s.W.length+1)/\aa [a,g] w w'
def D0(h:aB w a g s)(n:Nat)(h1:1<=n)(h2:n<=32)(m:Nat)(O:1<=m)(Y:m<=4)(I:s.W.length+szK 1 n m<=s.room)(V:s.ops+1<=1000000000000):E 109 #[↑a,J 1,J n,J m] w (nM w a g 1 s n m):=by have H2:=qh (EX h n h1 h2 m O Y (show s.W.length+(1)<=s.room from I));have HG:=qh (And.intro h.blk.lt h.wds.lt);clear h I V;go_enter func109,ntmps109;go_wp2_with fail;refine H2.o.mono ?_;rintro en w1 ⟨x,rfl,e1,e2,e3⟩;have HE:=qh (And.intro e1 (And.intro e2 e3));clear e1 e2 e3;go_wp2;go_ret2;refine akh ?_;intro e1 e2 e3 hq hs hg;have H:aa [] w1 (w1.alloc (cells #[J ((1:Nat):Int),ifV 1 x.l] 303)):=(aa.refl _ _).alloc _;exact⟨{x with p:=w1.heap.size},rfl,⟨Blk.new w1 303 #[J ((1:Nat):Int),ifV 1 x.l],⟨e1.ar.turns H ahC ahC,H.blk e1.lk ahC,e1.sp.turns H ahC,e1.n,e1.la,e1.lg,e1.lq,e1.qa,e1.qg,e1.n32,e1.t0,e1.t1,e1.m0,e1.m1,e1.cap⟩,by show w1.heap.size≠a;omega,by show w1.heap.size≠g;omega,by show w1.heap.size≠x.q;omega⟩,⟨by show w.heap.size<=w1.heap.size;omega,e2.1,e2.2.1,e2.2.2.1,e2.2.2.2.1,e2.2.2.2.2.1⟩,e3.alloc _⟩
def D1(h:aB w a g s)(n:Nat)(h1:1<=n)(h2:n<=32)(m:Nat)(O:1<=m)(Y:m<=4)(I:s.W.length+szK 2 n m<=s.room)(V:s.ops+1<=1000000000000):E 109 #[↑a,J 2,J n,J m] w (nM w a g 2 s n m):=by have H2:=qh (pM h n h1 h2 m O Y (show s.W.length+(2)<=s.room from I));have HG:=qh (And.intro h.blk.lt h.wds.lt);clear h I V;go_enter func109,ntmps109;go_wp2_with fail;refine H2.o.mono ?_;rintro en w1 ⟨x,rfl,e1,e2,e3⟩;have HE:=qh (And.intro e1 (And.intro e2 e3));clear e1 e2 e3;go_wp2;go_ret2;refine akh ?_;intro e1 e2 e3 hq hs hg;have H:aa [] w1 (w1.alloc (cells #[J ((2:Nat):Int),ifV 2 x.l] 303)):=(aa.refl _ _).alloc _;exact⟨{x with p:=w1.heap.size},rfl,⟨Blk.new w1 303 #[J ((2:Nat):Int),ifV 2 x.l],⟨e1.ar.turns H ahC ahC,H.blk e1.lk ahC,e1.sp.turns H ahC,e1.n,e1.la,e1.lg,e1.lq,e1.qa,e1.qg,e1.n32,e1.t0,e1.t1,e1.m0,e1.m1,e1.cap⟩,by show w1.heap.size≠a;omega,by show w1.heap.size≠g;omega,by show w1.heap.size≠x.q;omega⟩,⟨by show w.heap.size<=w1.heap.size;omega,e2.1,e2.2.1,e2.2.2.1,e2.2.2.2.1,e2.2.2.2.2.1⟩,e3.alloc _⟩
def D2(h:aB w a g s)(n:Nat)(h1:1<=n)(h2:n<=32)(m:Nat)(O:1<=m)(Y:m<=4)(I:s.W.length+szK 3 n m<=s.room)(V:s.ops+1<=1000000000000):E 109 #[↑a,J 3,J n,J m] w (nM w a g 3 s n m):=by have H2:=qh (ww h n h1 h2 m O Y (show s.W.length+(1+m)<=s.room from I) V);have HG:=qh (And.intro h.blk.lt h.wds.lt);clear h I V;go_enter func109,ntmps109;go_wp2_with fail;refine H2.o.mono ?_;rintro en w1 ⟨x,rfl,e1,e2,e3⟩;have HE:=qh (And.intro e1 (And.intro e2 e3));clear e1 e2 e3;go_wp2;go_ret2;refine akh ?_;intro e1 e2 e3 hq hs hg;have H:aa [] w1 (w1.alloc (cells #[J ((3:Nat):Int),ifV 3 x.l] 303)):=(aa.refl _ _).alloc _;exact⟨{x with p:=w1.heap.size},rfl,⟨Blk.new w1 303 #[J ((3:Nat):Int),ifV 3 x.l],⟨e1.ar.turns H ahC ahC,H.blk e1.lk ahC,e1.sp.turns H ahC,e1.n,e1.la,e1.lg,e1.lq,e1.qa,e1.qg,e1.n32,e1.t0,e1.t1,e1.m0,e1.m1,e1.cap⟩,by show w1.heap.size≠a;omega,by show w1.heap.size≠g;omega,by show w1.heap.size≠x.q;omega⟩,⟨by show w.heap.size<=w1.heap.size;omega,e2.1,e2.2.1,e2.2.2.1,e2.2.2.2.1,e2.2.2.2.2.1⟩,e3.alloc _⟩
def D3(h:aB w a g s)(n:Nat)(h1:1<=n)(h2:n<=32)(m:Nat)(O:1<=m)(Y:m<=4)(I:s.W.length+szK 4 n m<=s.room)(V:s.ops+1<=1000000000000):E 109 #[↑a,J 4,J n,J m] w (nM w a g 4 s n m):=by have H2:=qh (Eu h n h1 h2 m O Y (show s.W.length+(1+2*n)<=s.room from I));have HG:=qh (And.intro h.blk.lt h.wds.lt);clear h I V;go_enter func109,ntmps109;go_wp2_with fail;refine H2.o.mono ?_;rintro en w1 ⟨x,rfl,e1,e2,e3⟩;have HE:=qh (And.intro e1 (And.intro e2 e3));clear e1 e2 e3;go_wp2;go_ret2;refine akh ?_;intro e1 e2 e3 hq hs hg;have H:aa [] w1 (w1.alloc (cells #[J ((4:Nat):Int),ifV 4 x.l] 303)):=(aa.refl _ _).alloc _;exact⟨{x with p:=w1.heap.size},rfl,⟨Blk.new w1 303 #[J ((4:Nat):Int),ifV 4 x.l],⟨e1.ar.turns H ahC ahC,H.blk e1.lk ahC,e1.sp.turns H ahC,e1.n,e1.la,e1.lg,e1.lq,e1.qa,e1.qg,e1.n32,e1.t0,e1.t1,e1.m0,e1.m1,e1.cap⟩,by show w1.heap.size≠a;omega,by show w1.heap.size≠g;omega,by show w1.heap.size≠x.q;omega⟩,⟨by show w.heap.size<=w1.heap.size;omega,e2.1,e2.2.1,e2.2.2.1,e2.2.2.2.1,e2.2.2.2.2.1⟩,e3.alloc _⟩
def D4(h:aB w a g s)(n:Nat)(h1:1<=n)(h2:n<=32)(m:Nat)(O:1<=m)(Y:m<=4)(I:s.W.length+szK 5 n m<=s.room)(V:s.ops+1<=1000000000000):E 109 #[↑a,J 5,J n,J m] w (nM w a g 5 s n m):=by have H2:=qh (DB h n h1 h2 m O Y (show s.W.length+(n+2)<=s.room from I) V);have HG:=qh (And.intro h.blk.lt h.wds.lt);clear h I V;go_enter func109,ntmps109;go_wp2_with fail;refine H2.o.mono ?_;rintro en w1 ⟨x,rfl,e1,e2,e3⟩;have HE:=qh (And.intro e1 (And.intro e2 e3));clear e1 e2 e3;go_wp2;go_ret2;refine akh ?_;intro e1 e2 e3 hq hs hg;have H:aa [] w1 (w1.alloc (cells #[J ((5:Nat):Int),ifV 5 x.l] 303)):=(aa.refl _ _).alloc _;exact⟨{x with p:=w1.heap.size},rfl,⟨Blk.new w1 303 #[J ((5:Nat):Int),ifV 5 x.l],⟨e1.ar.turns H ahC ahC,H.blk e1.lk ahC,e1.sp.turns H ahC,e1.n,e1.la,e1.lg,e1.lq,e1.qa,e1.qg,e1.n32,e1.t0,e1.t1,e1.m0,e1.m1,e1.cap⟩,by show w1.heap.size≠a;omega,by show w1.heap.size≠g;omega,by show w1.heap.size≠x.q;omega⟩,⟨by show w.heap.size<=w1.heap.size;omega,e2.1,e2.2.1,e2.2.2.1,e2.2.2.2.1,e2.2.2.2.2.1⟩,e3.alloc _⟩
def BF(h:aB w a g s)(k:Nat)(hk:KOk k)(n:Nat)(h1:1<=n)(Y:n<=32)(m:Nat)(H:1<=m)(O:m<=4)(I:s.W.length+szK k n m<=s.room)(V:s.ops+1<=1000000000000):E 109 #[↑a,J (k:Int),J n,J m] w (nM w a g k s n m):=by
  rcases hk with rfl|rfl|rfl|rfl|rfl
  . exact D0 h n h1 Y m H O I V
  . exact D1 h n h1 Y m H O I V
  . exact D2 h n h1 Y m H O I V
  . exact D3 h n h1 Y m H O I V
  . exact D4 h n h1 Y m H O I V
end
section
open Go.RowKit
variable{y:Fx}{p' p:Sp}
structure Cox where
 l:Nat
 b:Nat
 qn:Nat
 qs:Nat
 n:Nat
 N:Nat
 capn:Nat
 par:Nat
 g:Fx
 X:List Fx
 W:List Nat
 o:Nat->Nat
def ndE(y:Fx×Nat):List Value:=[pointer (some ⟨y.1.p,0,none⟩),J y.2]
def xP(y:Fx×Nat):(ndE y).length=2:=rfl
structure yf(B:Nat->Prop)(a g:Nat)(x:Cox)(c:CoC)(P T:List Int):Prop where
 ck:a5 P T=0
 nT:x.n=T.length
 nN:x.N=(ac P).length
 lX:x.X.length=x.N
 lW:x.W.length=x.N
 cap:x.N<=x.capn
 cn:∀i,i<x.n->c.node i=gx P T i/\(c.slot i:Int)=cO T i
 tg:c.tg=x.g.t
 tl:∀(n:Nat) (y:Fx),x.X[n]? =some y->c.tl n=y.t/\(y.m:Int)=c.m
 gm:(x.g.m:Int)=c.m
 pm:(x.par:Int)=c.m
 cc:∀(n v:Nat),x.W[n]? =some v->c.cw n=v/\v<=5000
 kg:KOk c.kg
 kl:KOk c.kl
 bud:0<=c.bud/\c.bud<=1000
 par:1<=x.par/\x.par<=4
 ol:x.o x.l=1
 on:x.o x.qn=1
 os:x.o x.qs=2
 oa:x.o a=3
 og:x.o g=3
 oG:x.o x.g.p=4/\x.o x.g.l=4/\x.o x.g.q=4
 oL:∀(n:Nat) (y:Fx),x.X[n]? =some y->x.o y.p=5+n/\x.o y.l=5+n/\x.o y.q=5+n
 oB:∀i,B i->x.o i=0
structure aC(B:Nat->Prop)(w:World)(a g:Nat)(x:Cox)(c:CoC)(P T:List Int)(st:Co):Prop where
 fx:yf B a g x c P T
 ar:aB w a g st.s
 lk:Blk w x.l 240 (coC a x.b c.kg c.kl x.par c.bud ↑x.g.p (slice (some ⟨x.qn,0,none⟩) x.N x.capn) (slice (some ⟨x.qs,0,none⟩) x.n x.n))
 tb:eX B w x.b P T
 nd:∃Zz:List Value,Blk w x.qn 243 ((x.X.zip x.W).flatMap ndE++Zz).toArray
 sp:SpR w x.qs st.T
 gl:dx w a g c.kg x.g st.s st.G
 lo:∀(n:Nat) (y:Fx) (S:List Sp),x.X[n]? =some y->st.L[n]? =some S->dx w a g c.kl y st.s S
 lL:st.L.length=x.N
 lG:st.G.length=x.N
 lS:st.T.length=x.n
 sl:∀(i:Nat) (S:List Sp),i<x.n->st.L[c.node i]? =some S->c.slot i<S.length
section
variable{g:Nat}{x:Cox}{c:CoC}{st:Co}{s':Ar}
def yf.n32(h:yf B a g x c P T):x.n<=32/\x.N<=32:=by
 have h1:=bh (aR h.ck).1;have:=a8 P P.length;have H:=h.nT;have I:=h.nN;have:(ac P).length<=32:=by show(am P P.length).length<=32;omega
 omega
def yf.node(h:yf B a g x c P T)(hi:i<x.n):c.node i<x.N/\(aq P T T.length)[i]? =some (c.node i:Int):=by
 have O:i<T.length:=by rw[<-h.nT];exact hi
 obtain⟨y,I⟩:=ai O;have hm:=jy (aR h.ck).2.2.2 I;obtain⟨k,H⟩:=Int.eq_ofNat_of_zero_le ((eZ (ac P) y).1.2 hm);have hg:=nB hm H;have e:c.node i=k:=by rw[(h.cn i hi).1];unfold gx;rw[bm I,H];rfl
 rw[e,h.nN];refine⟨(List.getElem?_eq_some_iff.1 hg).1,?_⟩;unfold aq;rw[List.take_length,List.getElem?_map,I];show some (fQ (ac P) y)=_;rw[H]
def aC.loc(h:aC B w a g x c P T st)(hi:i<x.n):∃(y:Fx) (v:Nat) (S:List Sp),x.X[c.node i]? =some y/\x.W[c.node i]? =some v/\st.L[c.node i]? =some S/\c.slot i<S.length/\S[c.slot i]? =some (lsp st.L (c.node i) (c.slot i)):=by
 have I:=(h.fx.node hi).1;obtain⟨y,V⟩:=ai (show c.node i<x.X.length by rw[h.fx.lX];exact I);obtain⟨v,O⟩:=ai (show c.node i<x.W.length by rw[h.fx.lW];exact I);obtain⟨S,H⟩:=ai (show c.node i<st.L.length by rw[h.lL];exact I);have hs:=h.sl i S hi H;refine⟨y,v,S,V,O,H,hs,?_⟩;unfold lsp;have e:st.L.getD (c.node i) []=S:=by rw[List.getD_eq_getElem?_getD,H];rfl
 rw[e,List.getD_eq_getElem?_getD,List.getElem?_eq_getElem hs];rfl
def aC.glo(h:aC B w a g x c P T st)(hi:i<x.n):st.G[c.node i]? =some (sv st.G (c.node i)):=by
 have H:=(h.fx.node hi).1;have:c.node i<st.G.length:=by rw[h.lG];exact H
 exact aay
def aC.thr(h:aC B w a g x c P T st)(hi:i<x.n):st.T[i]? =some (sv st.T i):=by
 have:i<st.T.length:=by rw[h.lS];exact hi
 exact aay
def mG{o:Nat->Nat}{u v:Nat}(hi:o i=u)(H:o j=v)(h:u≠v):i≠j:=λe=>h (by rw[<-hi,<-H,e])
def aC.turns0(h:aC B w a g x c P T st)(t:aa [] w w'):aC B w' a g x c P T st:=
  {h with ar:=h.ar.turns t ahC ahC,lk:=t.blk h.lk ahC,tb:=h.tb.turns t ahC,nd:=by obtain⟨H,z⟩:=h.nd;exact⟨H,t.blk z ahC⟩,
           sp:=h.sp.turns t ahC,gl:=h.gl.turns t ahC ahC ahC ahC ahC,lo:=λn y S O I=>(h.lo n y S O I).turns t ahC ahC ahC ahC ahC}
def aC.below(h:aC B w a g x c P T st)(t:Below w.heap.size w w'):aC B w' a g x c P T st:=h.turns0 (aa.of_below t)
def aC.rest(h:aC B w a g x c P T st)(t:aa S w w')(I:∀i∈S,2<=x.o i):Blk w' x.l 240 (coC a x.b c.kg c.kl x.par c.bud ↑x.g.p (slice (some ⟨x.qn,0,none⟩) x.N x.capn) (slice (some ⟨x.qs,0,none⟩) x.n x.n))/\
    eX B w' x.b P T/\∃H:List Value,Blk w' x.qn 243 ((x.X.zip x.W).flatMap ndE++H).toArray:=by obtain⟨H,z⟩:=h.nd;exact⟨t.blk h.lk (λk=>by have:=I _ k;rw[h.fx.ol]at this;omega),h.tb.turns t (λi hi hb=>by have:=I i hi;rw[h.fx.oB i hb]at this;omega),H,t.blk z (λk=>by have:=I _ k;rw[h.fx.on]at this;omega)⟩
def aC.cnt(h:aC B w a g x c P T st)(t:aa [a,g] w w')(I:aB w' a g s'):aC B w' a g x c P T {st with s:=s'}:=by
 obtain⟨h1,V,Y⟩:=h.rest t (by intro i hi;simp at hi;rcases hi with rfl|rfl<;>first|(rw[h.fx.oa];omega)|(rw[h.fx.og];omega));have n2:∀r u,x.o r=u->u≠3->r∉[a,g]:=λr u e O=>by simp only[List.mem_cons,List.not_mem_nil,or_false,not_or];exact⟨mG e h.fx.oa O,mG e h.fx.og O⟩
 exact⟨h.fx,I,h1,V,Y,h.sp.turns t (n2 _ _ h.fx.os ahD),h.gl.oth t I (n2 _ _ h.fx.oG.1 ahD) (n2 _ _ h.fx.oG.2.1 ahD) (n2 _ _ h.fx.oG.2.2 ahD),
  λn y S H hS=>(h.lo n y S H hS).oth t I (n2 _ _ (h.fx.oL n y H).1 ahB) (n2 _ _ (h.fx.oL n y H).2.1 ahB) (n2 _ _ (h.fx.oL n y H).2.2 ahB),h.lL,h.lG,h.lS,h.sl⟩
def IZ{o:Nat->Nat}{g q r u v:Nat}(H:o a=3)(hg:o g=3)(I:o q=v)(e:o r=u)(h:u≠3)(O:u≠v):r∉[a,g,q]:=by simp only[List.mem_cons,List.not_mem_nil,or_false,not_or];exact⟨mG e H h,mG e hg h,mG e I O⟩
def aC.locOp(h:aC B w a g x c P T st)(hi:i<x.n)(hy:x.X[c.node i]? =some y)(t:aa [a,g,y.q] w w')(hf:dx w' a g c.kl y s' ((st.L.getD (c.node i) []).set (c.slot i) p')):aC B w' a g x c P T {st with s:=s',L:=jQ st.L (c.node i) (c.slot i) p'}:=by
  have hq:=(h.fx.oL _ y hy).2.2;obtain⟨h1,h2,h3⟩:=h.rest t aiN;have V:∀r u,x.o r=u->u≠3->u≠5+c.node i->r∉[a,g,y.q]:=λr u e hu O=>IZ h.fx.oa h.fx.og hq e hu O
  refine⟨h.fx,hf.ki.ar,h1,h2,h3,h.sp.turns t (V _ _ h.fx.os ahD ahB),h.gl.oth t hf.ki.ar (V _ _ h.fx.oG.1 ahD ahB) (V _ _ h.fx.oG.2.1 ahD ahB) (V _ _ h.fx.oG.2.2 ahD ahB),
    λn z S I H=>?_,?_,h.lG,h.lS,λj S hj H=>?_⟩
  . unfold jQ at H;simp only at H;rw[List.getElem?_set]at H;split at H
    . rename_i e;split at H;. simp only[Option.some.injEq]at H;subst e;rw[hy]at I;injection I with I;subst I;subst H;exact hf
      . cases H
    . rename_i e;have Y:∀u,u=5+n->u≠5+c.node i:=(by omega);exact(h.lo n z S I H).oth t hf.ki.ar (V _ _ (h.fx.oL n z I).1 ahB (Y _ rfl)) (V _ _ (h.fx.oL n z I).2.1 ahB (Y _ rfl)) (V _ _ (h.fx.oL n z I).2.2 ahB (Y _ rfl))
  . show(jQ _ _ _ _).length=_;unfold jQ;rw[List.length_set];exact h.lL
  . unfold jQ at H;simp only at H;rw[List.getElem?_set]at H;split at H
    . rename_i e;split at H;. simp only[Option.some.injEq]at H;subst H;rw[List.length_set];rename_i hl;have:=h.sl j (st.L.getD (c.node i) []) hj (by rw[<-e,List.getD_eq_getElem?_getD,List.getElem?_eq_getElem hl];rfl);exact this
      . cases H
    . exact h.sl j S hj H
def aC.gloOp(h:aC B w a g x c P T st){n:Nat}(t:aa [a,g,x.g.q] w w')(V:dx w' a g c.kg x.g s' (st.G.set n p')):aC B w' a g x c P T {st with s:=s',G:=st.G.set n p'}:=by
  have hq:=h.fx.oG.2.2;obtain⟨h1,Y,h3⟩:=h.rest t aiN;have I:∀r u,x.o r=u->u≠3->u≠4->r∉[a,g,x.g.q]:=λr u e hu O=>IZ h.fx.oa h.fx.og hq e hu O
  exact⟨h.fx,V.ki.ar,h1,Y,h3,h.sp.turns t (I _ _ h.fx.os ahD ahB),V,
    λn z S H hS=>(h.lo n z S H hS).oth t V.ki.ar (I _ _ (h.fx.oL n z H).1 ahB ahB) (I _ _ (h.fx.oL n z H).2.1 ahB ahB) (I _ _ (h.fx.oL n z H).2.2 ahB ahB),h.lL,by show(st.G.set n p').length=_;rw[List.length_set];exact h.lG,h.lS,h.sl⟩
def aC.put(h:aC B w a g x c P T st)(hp:st.T[i]? =some p)(hj:j<4)(he:(bi p).set j u=bi p'):aC B (w.setCell ⟨x.qs,i*4+j,none⟩ u) a g x c P T {st with T:=st.T.set i p'}:=by
  have t:aa [x.qs] w (w.setCell ⟨x.qs,i*4+j,none⟩ u):=aW _ _ _;obtain⟨h1,Y,h3⟩:=h.rest t (by intro i hi;simp at hi;subst hi;rw[h.fx.os];omega);have n1:∀r v,x.o r=v->v≠2->r∉[x.qs]:=λr v e O=>by simpa using mG e h.fx.os O
  have I:=n1 _ _ h.fx.oa ahD;have V:=n1 _ _ h.fx.og ahD
  exact⟨h.fx,h.ar.turns t I V,h1,Y,h3,h.sp.put hp hj he,h.gl.turns t (n1 _ _ h.fx.oG.1 ahD) (n1 _ _ h.fx.oG.2.1 ahD) I V (n1 _ _ h.fx.oG.2.2 ahD),
    λn z S H hS=>(h.lo n z S H hS).turns t (n1 _ _ (h.fx.oL n z H).1 ahB) (n1 _ _ (h.fx.oL n z H).2.1 ahB) I V (n1 _ _ (h.fx.oL n z H).2.2 ahB),h.lL,h.lG,by show(st.T.set i p').length=_;rw[List.length_set];exact h.lS,h.sl⟩
def aC.put0(h:aC B w a g x c P T st)(I:st.T[i]? =some p)(H:(bi p).set 0 u=bi p'):aC B (w.setCell ⟨x.qs,i*4,none⟩ u) a g x c P T {st with T:=st.T.set i p'}:=h.put I (j:=0) ahD H
def aC.row(h:aC B w a g x c P T st){n:Nat}{v:Nat}(V:x.X[n]? =some y)(O:x.W[n]? =some v):Z w x.qn (n*2) ↑y.p/\Z w x.qn (n*2+1) (J v):=by
  obtain⟨Y,z⟩:=h.nd;have I:(x.X.zip x.W)[n]? =some (y,v):=by rw[List.getElem?_zip_eq_some];exact⟨V,O⟩
  have c0:=cE ndE 2 xP _ n _ 0 ↑y.p I rfl;have c1:=cE ndE 2 xP _ n _ 1 (J v) I rfl;have l0:=(List.getElem?_eq_some_iff.1 c0).1;have l1:=(List.getElem?_eq_some_iff.1 c1).1;have e0:=z.cell (n*2);have H:=z.cell (n*2+1);simp only[List.getElem?_toArray]at e0 H;rw[List.getElem?_append_left (by simpa using l0),show n*2=n*2+0 from rfl,c0]at e0;rw[List.getElem?_append_left l1,c1]at H;exact⟨e0,H⟩
def lR{P:Program}{I:Func}{p u v:Tmp}{ty:TypeId}(h:I.results=#[.cell p ty,.tmp u,.tmp v])(H:Array Value)(w:World)(g:Nat)(t:TypeId)(cs:Array Value)(fr:Nat×Nat)(d:TypeDesc)(V:H.getD p undef= ↑g)(hg:w.heap[g]? =some (.cells cs t fr))(Y:P.underlying ty=some d)(hd:(match d with|.struct _|.array _ _=>true|_=>false)=true)(hi:(P.info? ty).map (·.size)=some cs.size):(results I H).run P w= .ok (tuple #[.agg cs,H.getD u undef,H.getD v undef]) w:=by
  have O:H[p]?.getD undef= ↑g:=by simpa using V
  simp[results,h,O,asAddr,run_loadVar_row w g t ty cs fr d hg Y hd hi]
def zR(h:aC B w a g x c P T st):E 238 #[↑x.l] w λe w'=>e= returned (J x.n)/\w=w':=by have H:Z w x.l 8 (slice (some ⟨x.qs,0,none⟩) x.n x.n):=h.lk.cell 8;clear h;go_enter func238,ntmps238;exact aaa
def Fc(h:aC B w a g x c P T st)(i:Nat)(hi:i<x.n):E 239 #[↑x.l,J i] w λe w'=>e= returned (bool true)/\w=w':=by
 have HT:=qh (zR h);have H:=h.fx.n32;have t1:(0:Int)<=i:=by omega
 have t2:(i:Int)<x.n:=by omega
 clear h;go_enter func239,ntmps239;exact aad
def mI(h:aC B w a g x c P T st)(i:Nat)(hi:i<x.n):E 236 #[↑x.l,J i] w λe w'=>e= returned (aF (sv st.T i))/\Below w.heap.size w w':=by
  have H:Kq (aC B (w.alloc (cells #[J 0,J 0,J 0,J 0] 113)) a g x c P T st):=qh (h.below ((Below.refl _ _).alloc (Nat.le_refl _) _));have hp:=h.thr hi;obtain⟨p,I⟩:=LE (sv st.T i);rw[<-I]at hp ⊢;have c8:Z w x.l 8 (slice (some ⟨x.qs,0,none⟩) x.n x.n):=h.lk.cell 8;refine ai0 ?_;intro a0 a1 a2 a3;have O:=qh (Fc H.o i hi);have V:=h.lk.lt;have Y:=h.sp.lt;have t2:¬(i:Int)<0:=by omega
  clear h hp I;go_enter func236,ntmps236;go_wp2_with (go_at_call 239;refine O.o.mono ?_;rintro e w' ⟨rfl,rfl⟩);exact bodyPost_ret (results_cell_row ahF _ _ w.heap.size 113 _ (0,0) _ ahF (heap_alloc_new w _) Tryz.underlying113 rfl ahE) rfl ⟨rfl,(Below.refl _ _).alloc (Nat.le_refl _) _⟩
def pf(h:aC B w a g x c P T st)(i:Nat)(hi:i<x.n){v:Nat}(hy:x.X[c.node i]? =some y)(O:x.W[c.node i]? =some v):E 240 #[↑x.l,J i] w λe w'=>e= returned (tuple #[agg #[↑y.p,J v],J (c.node i:Int),J (c.slot i:Int)])/\Below w.heap.size w w':=by
  have hn:=h.fx.n32;obtain⟨hN,I⟩:=h.fx.node hi;have hT:i<T.length:=by rw[<-h.fx.nT];exact hi
  have Ks:=(h.fx.cn i hi).2;obtain⟨r0,r1⟩:=h.row hy O;have b1:=(Below.refl w.heap.size w).alloc (Nat.le_refl _) (cells #[.pointer none,J 0] 243);have h1:=h.below b1;have c1:Z w x.l 1 ↑x.b:=h.lk.cell 1;have c7:Z w x.l 7 (slice (some ⟨x.qn,0,none⟩) x.N x.capn):=h.lk.cell 7;have HN:=qh (kK (w.alloc (cells #[.pointer none,J 0] 243)) x.b P T i hT h1.tb.f _ I);have UE:=Fl (w.alloc (cells #[.pointer none,J 0] 243)).drew x.b P T i hT (h1.below (Below.drew (Below.refl _ _))).tb.f;rw[<-Ks]at UE;have HS:=qh UE;have Lo:=h.lk.lt;obtain⟨nd,H⟩:=LE (c.node i);rw[<-H]at hN r0 r1 HN ⊢;obtain⟨sl,hs⟩:=LE (c.slot i);rw[<-hs]at HS ⊢;have t1:(0:Int)<=(nd:Int):=by omega
  have t2:(nd:Int)<x.N:=by omega
  have Y:(nd:Int)<=x.N:=by omega
  have HB:=qh b1;have HK:Kq (∀o:Obj,(w.alloc o).drew.cell? ⟨x.l,1,none⟩=some ↑x.b/\(w.alloc o).drew.cell? ⟨x.l,7,none⟩=some (slice (some ⟨x.qn,0,none⟩) x.N x.capn)/\(w.alloc o).drew.cell? ⟨x.qn,nd*2,none⟩=some ↑y.p/\(w.alloc o).drew.cell? ⟨x.qn,nd*2+1,none⟩=some (J v)):=qh λo=>by have V:=h.below (((Below.refl w.heap.size w).alloc (Nat.le_refl _) o).drew);exact⟨V.lk.cell 1,V.lk.cell 7,(V.row (H ▸ hy) (H ▸ O)).1,(V.row (H ▸ hy) (H ▸ O)).2⟩
  clear h h1 b1 UE hy O I Ks H hs r0 r1;go_enter func240,ntmps240;go_wp2_with fail;refine LT HN.o ?_;go_wp2_with fail
  go_region_held3 (λW=>Z W x.l 1 ↑x.b/\Z W x.l 7 (slice (some ⟨x.qn,0,none⟩) x.N x.capn)/\Z W x.qn (nd*2) ↑y.p/\Z W x.qn (nd*2+1) (J v))
    (first|exact HK.o _)
    (first|(go_at_call 143;go_loud (refine LT HS.o ?_)))
  all_goals go_wp2;exact bodyPost_ret (lR ahF _ _ w.heap.size 243 _ (0,0) _ ahF (heap_alloc_new w _) Tryz.underlying243 rfl ahE) rfl ⟨rfl,((Below.refl _ _).alloc (Nat.le_refl _) _).drew⟩
end
end
section
open Go.RowKit
variable{y:Fx}
def CoS(a g:Nat)(x:Cox):List Nat:=a :: g :: x.qs :: x.g.q :: x.X.map Fx.q
structure dg(BB:Int)(x:Cox)(c:CoC)(st:Co):Prop where
 ops:st.s.ops+1<=1000000000000
 bd:CoB c BB st
 B0:1<=BB
 B1:BB<=10000000000
 ig:inR st.s.W x.g.t=true
 il:∀(n:Nat) (y:Fx),x.X[n]? =some y->inR st.s.W y.t=true
 v:CoV c x.n st
section
variable{g:Nat}{x:Cox}{c:CoC}{st st':Co}{s':Ar}
def aC.lts(h:aC B w a g x c P T st):∀r∈CoS a g x,r<w.heap.size:=by
 intro r I;unfold CoS at I;simp only[List.mem_cons]at I;rcases I with rfl|rfl|rfl|rfl|I
 .exact h.ar.blk.lt
 .exact h.ar.wds.lt
 .exact h.sp.lt
 .exact h.gl.ki.sp.lt
 .obtain⟨y,V,rfl⟩:=List.mem_map.1 I;obtain⟨n,H,e⟩:=List.getElem_of_mem V;have O:n<st.L.length:=by rw[h.lL,<-h.fx.lX];exact H
  exact(h.lo n y _ (by rw[List.getElem?_eq_getElem H,e]) (List.getElem?_eq_getElem O)).ki.sp.lt
def rZ{n:Nat}(h:x.X[n]? =some y)(t:aa [a,g,y.q] w w'):aa (CoS a g x) w w':=by
 refine t.mono ?_;intro i hi;have hm:y.q∈x.X.map Fx.q:=List.mem_map.2 ⟨y,List.mem_of_getElem? h,rfl⟩;unfold CoS;simp only[List.mem_cons,List.not_mem_nil,or_false]at hi ⊢;rcases hi with rfl|rfl|rfl
 .exact .inl rfl
 .exact .inr (.inl rfl)
 .exact .inr (.inr (.inr (.inr hm)))
def wU(t:aa [a,g,x.g.q] w w'):aa (CoS a g x) w w':=by refine t.mono ?_;intro i hi;unfold CoS;simp only[List.mem_cons,List.not_mem_nil,or_false]at hi ⊢;rcases hi with rfl|rfl|rfl<;>simp
def Fq(t:aa [a,g] w w'):aa (CoS a g x) w w':=by refine t.mono ?_;intro i hi;unfold CoS;simp only[List.mem_cons,List.not_mem_nil,or_false]at hi ⊢;rcases hi with rfl|rfl<;>simp
def uI(i:Nat)(u:Value):aa (CoS a g x) w (w.setCell ⟨x.qs,i,none⟩ u):=(aa.refl _ _).setCell (.inl aid) _
def I2(h:aC B w a g x c P T st)(C:dg BB x c st){n:Nat}{S:List Sp}(I:x.X[n]? =some y)(H:st.L[n]? =some S):k7 c.kl y st.s S BB:=
 ⟨C.ops,C.bd.w,C.bd.l S (List.mem_of_getElem? H),C.B0,C.B1,C.il n y I⟩
def JZ(C:dg BB x c st):k7 c.kg x.g st.s st.G BB:=⟨C.ops,C.bd.w,C.bd.g,C.B0,C.B1,C.ig⟩
def jr{α:Type}{l:List α}{n:Nat}{z d:α}(h:l[n]? =some z):l.getD n d=z:=by rw[List.getD_eq_getElem?_getD,h];rfl
def sT(h:aC B w a g x c P T st)(C:dg BB x c st)(i:Nat)(hi:i<x.n)(H:x.X[c.node i]? =some y):E 245 #[↑y.p,J (c.slot i)] w λe w'=>e= returned (bool (mn c st i))/\aC B w' a g x c P T {st with s:=(stL c st i).1,L:=setL c st i (stL c st i).2}/\aa (CoS a g x) w w':=by obtain⟨y',v,S,V,O,I,hs,Kj⟩:=h.loc hi;rw[H]at V;injection V with e;subst e;have Y:=(h.fx.tl _ _ H).1;have e2:=(h.fx.tl _ _ H).2;have eS:st.L.getD (c.node i) []=S:=jr I;refine(qZ (h.lo _ _ _ H I) h.fx.kl (c.slot i) _ Kj (I2 h C H I) (C.v.lpc hi)).mono ?_;rintro e w' ⟨rfl,hf,t⟩;rw[<-Y,e2]at hf;rw[<-Y,e2];refine⟨rfl,?_,rZ H t⟩;refine h.locOp hi H t ?_;rw[eS];exact hf
def sS(h:aC B w a g x c P T st)(C:dg BB x c st)(i:Nat)(hi:i<x.n):E 245 #[↑x.g.p,J (c.node i)] w λe w'=>e= returned (bool (nV c st i))/\aC B w' a g x c P T {st with s:=(stG c st i).1,G:=st.G.set (c.node i) (stG c st i).2}/\aa (CoS a g x) w w':=by have H:=h.fx.tg;have I:=h.fx.gm;refine(qZ h.gl h.fx.kg (c.node i) _ (h.glo hi) (JZ C) (C.v.gpc hi)).mono ?_;rintro e w' ⟨rfl,O,t⟩;rw[<-H,I]at O;rw[<-H,I];exact⟨rfl,h.gloOp t O,wU t⟩
def qk(h:aC B w a g x c P T st)(i:Nat)(hi:i<x.n)(H:x.X[c.node i]? =some y):E 248 #[↑y.p,J (c.slot i)] w λe w'=>(∃b,e= returned (.bool b))/\aC B w' a g x c P T {st with L:=setL c st i (ba (lsp st.L (c.node i) (c.slot i)))}/\aa (CoS a g x) w w':=by obtain⟨y',v,S,I,O,V,hs,Kj⟩:=h.loc hi;rw[H]at I;injection I with e;subst e;have eS:st.L.getD (c.node i) []=S:=jr V;refine(oK (h.lo _ _ _ H V) h.fx.kl (c.slot i) _ Kj).mono ?_;rintro e w' ⟨rfl,hf,t⟩;have Y:aa [a,g,y.q] w w':=aJ t;refine⟨⟨_,rfl⟩,?_,rZ H Y⟩;refine h.locOp hi H Y ?_;rw[eS];exact hf
def yN(h:aC B w a g x c P T st)(i:Nat)(hi:i<x.n):E 248 #[↑x.g.p,J (c.node i)] w λe w'=>(∃b,e= returned (.bool b))/\aC B w' a g x c P T {st with G:=st.G.set (c.node i) (ba (sv st.G (c.node i)))}/\aa (CoS a g x) w w':=by refine(oK h.gl h.fx.kg (c.node i) _ (h.glo hi)).mono ?_;rintro e w' ⟨rfl,H,t⟩;exact⟨⟨_,rfl⟩,h.gloOp (aJ t) H,wU (aJ t)⟩
def DH(h:aC B w a g x c P T st)(i:Nat)(hi:i<x.n)(H:x.X[c.node i]? =some y):E 241 #[↑y.p,J (c.slot i)] w λe w'=>(∃b,e= returned (.bool b))/\aC B w' a g x c P T {st with L:=setL c st i (askK c.kl (lsp st.L (c.node i) (c.slot i)))}/\aa (CoS a g x) w w':=by obtain⟨y',v,S,I,O,V,hs,Kj⟩:=h.loc hi;rw[H]at I;injection I with e;subst e;have eS:st.L.getD (c.node i) []=S:=jr V;refine(vD (h.lo _ _ _ H V) h.fx.kl (c.slot i) _ Kj).mono ?_;rintro e w' ⟨rfl,hf,t⟩;have Y:aa [a,g,y.q] w w':=aJ t;refine⟨⟨_,rfl⟩,?_,rZ H Y⟩;refine h.locOp hi H Y ?_;rw[eS];exact hf
def DG(h:aC B w a g x c P T st)(i:Nat)(hi:i<x.n):E 241 #[↑x.g.p,J (c.node i)] w λe w'=>(∃b,e= returned (.bool b))/\aC B w' a g x c P T {st with G:=st.G.set (c.node i) (askK c.kg (sv st.G (c.node i)))}/\aa (CoS a g x) w w':=by refine(vD h.gl h.fx.kg (c.node i) _ (h.glo hi)).mono ?_;rintro e w' ⟨rfl,H,t⟩;exact⟨⟨_,rfl⟩,h.gloOp (aJ t) H,wU (aJ t)⟩
def qO(c:CoC)(st:Co)(i:Nat):Ar×Bool:=cD c.kl (c.tl (c.node i)) st.s (c.slot i) (lsp st.L (c.node i) (c.slot i))
def A7(h:aC B w a g x c P T st)(C:dg BB x c st)(i:Nat)(hi:i<x.n)(H:x.X[c.node i]? =some y)(h10:(lsp st.L (c.node i) (c.slot i)).pc=10):E 247 #[↑y.p,J (c.slot i)] w λe w'=>e= returned (bool (qO c st i).2)/\aC B w' a g x c P T {st with s:=(qO c st i).1}/\aa (CoS a g x) w w':=by
  obtain⟨y',v,S,N7,O,I,hs,Y⟩:=h.loc hi;rw[H]at N7;injection N7 with e;subst e;have e1:=(h.fx.tl _ _ H).1;have eS:st.L.getD (c.node i) []=S:=jr I;refine(BI (h.lo _ _ _ H I) h.fx.kl (c.slot i) _ Y (I2 h C H I) h10).mono ?_;rintro e w' ⟨rfl,hf,t⟩;rw[<-e1]at hf;rw[<-e1];refine⟨rfl,?_,rZ H t⟩;have V:=h.locOp (p':=lsp st.L (c.node i) (c.slot i)) hi H t (s':=(qO c st i).1) (by rw[eS,cj Y];exact hf);have eL:jQ st.L (c.node i) (c.slot i) (lsp st.L (c.node i) (c.slot i))=st.L:=by unfold jQ;rw[eS,cj Y];obtain⟨V,he⟩:=List.getElem?_eq_some_iff.1 I;rw[<-he];exact List.set_getElem_self V
  rw[eL]at V;exact V
def xw(h:aC B w a g x c P T st)(V:st.s.ops+1<=1000000000000)(n:Nat){v:Nat}(O:x.W[n]? =some v):E 173 #[↑a,J v] w λe w'=>e= returned (J (ldW st.s.W (c.cw n)))/\aC B w' a g x c P T {st with s:=af st.s (c.cw n)}/\aa (CoS a g x) w w':=by have H:=(h.fx.cc n v O).1;rw[H];refine(aD h.ar v V).mono ?_;rintro e w' ⟨rfl,I,t⟩;exact⟨rfl,h.cnt t I,Fq t⟩
def ov(h:aC B w a g x c P T st)(V:st.s.ops+1<=1000000000000)(n:Nat){v:Nat}(O:x.W[n]? =some v)(u:Int):E 177 #[↑a,J v,J u] w λe w'=>e= returned (tuple #[])/\aC B w' a g x c P T {st with s:=ae st.s (c.cw n) u}/\aa (CoS a g x) w w':=by have H:=(h.fx.cc n v O).1;rw[H];refine(an h.ar v u V).mono ?_;rintro e w' ⟨rfl,I,t⟩;exact⟨rfl,h.cnt t I,Fq t⟩
structure CoN(B:Nat->Prop)(w0 w:World)(a g:Nat)(x:Cox)(c:CoC)(P T:List Int)(st:Co)(k:Nat)(y:Fx)(v:Nat):Prop where
 is:aC B w a g x c P T st
 nb:Blk w k 243 #[↑y.p,int i64 v]
 nS:k∉CoS a g x
 tn:aa (CoS a g x) w0 w
def CoN.to{k:Nat}{v:Nat}(h:CoN B w0 w a g x c P T st k y v)(H:aC B w' a g x c P T st')(t:aa (CoS a g x) w w'):CoN B w0 w' a g x c P T st' k y v:=
 ⟨H,t.blk h.nb h.nS,h.nS,h.tn.trans t⟩
def CoN.put{k:Nat}{v:Nat}(h:CoN B w0 w a g x c P T st k y v){p p':Sp}(O:st.T[i]? =some p)(I:j<4)(H:(bi p).set j u=bi p'):CoN B w0 (w.setCell ⟨x.qs,i*4+j,none⟩ u) a g x c P T {st with T:=st.T.set i p'} k y v:=h.to (h.is.put O I H) (uI _ _)
def CoN.drew{k:Nat}{v:Nat}(h:CoN B w0 w a g x c P T st k y v):CoN B w0 w.drew a g x c P T st k y v:=h.to (h.is.below (Below.refl _ _).drew) (aa.refl _ _).drew
def CoN.ar(h:aC B w a g x c P T st):w.cell? x.l=some ↑a:=h.lk.cell 0
def CoN.bud(h:aC B w a g x c P T st):Z w x.l 5 (J c.bud):=h.lk.cell 5
def CoN.glo(h:aC B w a g x c P T st):Z w x.l 6 ↑x.g.p:=h.lk.cell 6
def CoN.spots(h:aC B w a g x c P T st):Z w x.l 8 (slice (some ⟨x.qs,0,none⟩) x.n x.n):=h.lk.cell 8
def CoN.n0{k:Nat}{v:Nat}(h:CoN B w0 w a g x c P T st k y v):w.cell? k=some ↑y.p:=h.nb.cell 0
def CoN.n1{k:Nat}{v:Nat}(h:CoN B w0 w a g x c P T st k y v):Z w k 1 (J v):=h.nb.cell 1
def CoN.mk'(h:aC B w a g x c P T st){w1:World}(b1:Below w.heap.size w w1)(y:Fx)(v:Nat):CoN B w (w1.alloc (cells #[↑y.p,J v] 243)) a g x c P T st w1.heap.size y v:=by have hs:=b1.size;refine⟨h.below (b1.alloc hs _),Blk.new w1 _ _,λk=>?_,aa.of_below (b1.alloc hs _)⟩;have:=h.lts _ k;omega
end
end
section
open Go.RowKit
variable{q:Sp}{e:Ending}
def yL(c:CoC)(st:Co)(i:Nat)(p:Sp):Co:=iM st i ((da c st i p).1,(da c st i p).2.1,(da c st i p).2.2.1,{(da c st i p).2.2.2 with pc:=p.pc})
def gU(B:Nat->Prop)(w:World)(a g:Nat)(x:Cox)(c:CoC)(P T:List Int)(st:Co)(i:Nat)(p:Sp)(e:Ending)(w':World):Prop:=
 e= returned (J (da c st i p).2.2.2.pc)/\aC B w' a g x c P T (yL c st i p)/\aa (CoS a g x) w w'
section
variable{g:Nat}{x:Cox}{c:CoC}{st st':Co}{s':Ar}
def qi(i:Nat)(p:Sp){n:Int}{s':Ar}{H:List Sp}{I:List (List Sp)}(O:(da c st i p)=(s',H,I,q))(V:e= returned (J n))(e3:q.pc=n)(h:aC B w' a g x c P T ⟨s',H,I,st.T.set i {q with pc:=p.pc}⟩)(t:aa (CoS a g x) w w'):gU B w a g x c P T st i p e w':=by unfold gU yL iM;rw[O];exact⟨by rw[V,e3],h,t⟩
def CoN.drewN{k:Nat}{y:Fx}{v:Nat}(h:CoN B w0 w a g x c P T st k y v)(n:Nat):CoN B w0 (w.drewN n) a g x c P T st k y v:=h.to (h.is.turns0 ((aa.refl [] w).drewN n)) ((aa.refl _ _).drewN n)
def jI(i:Nat)(p:Sp)(Y:st.T[i]? =some p){n:Int}{s':Ar}{H:List Sp}{I:List (List Sp)}(O:(da c st i p)=(s',H,I,q))(V:e= returned (J n))(e3:q.pc=n)(e4:{q with pc:=p.pc}=p)(h:aC B w' a g x c P T ⟨s',H,I,st.T⟩)(t:aa (CoS a g x) w w'):gU B w a g x c P T st i p e w':=qi i p O V e3 (by rw[e4,cj Y];exact h) t
def wI(b:Int)(w:World)(h:0<=b)(h1:b<=1000):E 135 #[J b] w λe w'=>e= returned (bool true)/\w=w':=by go_enter func135,ntmps135;exact aaa
def Gb(n f t:Int)(w:World):E 171 #[J n,J f,J t] w λe w'=>e= returned (bool (decide (f<=n)&&decide (n<=t)))/\w=w':=by cases h1:decide (f<=n)<;>cases H:decide (n<=t);all_goals have h:decide (n >= f)=decide (f<=n):=rfl;rw[h1]at h;go_enter func171,ntmps171;go_wp2;go_ret;exact⟨rfl,rfl⟩
def wy(u bud:Int)(h:Bool)(hb:0<=bud/\bud<=1000)(w:World):E 246 #[J u,J bud,.bool h] w λe w'=>e= returned (bool (mW u bud h))/\w=w':=by
 obtain⟨O,h1⟩:=hb;have H:=qh (λw=>Gb u 1 bud w);have e:mW u bud h=((decide (1<=u)&&decide (u<=bud))&&!h):=by unfold mW;rw[Bool.decide_and]
 rw[e];clear e;obtain⟨q,I⟩:=LE ((decide (1<=u)&&decide (u<=bud)));rw[<-I]at H ⊢;clear I;cases q<;>cases h;all_goals go_enter func246,ntmps246;go_wp2_with (first|(go_at_call 135;refine(wI bud _ O h1).mono ?_;rintro e w' ⟨rfl,rfl⟩)|(go_at_call 171;refine(H.o _).mono ?_;rintro e w' ⟨rfl,rfl⟩));go_ret;exact⟨rfl,rfl⟩
def FQ(h:aC B w a g x c P T st)(C:dg BB x c st)(i:Nat)(hi:i<x.n)(u b z:Int)(hp:sv st.T i=⟨1,u,b,z⟩):E 242 #[↑x.l,J i] w (gU B w a g x c P T st i ⟨1,u,b,z⟩):=by
  obtain⟨y,v,S,hy,O,hS,hs,Kj⟩:=h.loc hi;have Y:st.T[i]? =some (⟨1,u,b,z⟩:Sp):=by rw[h.thr hi,hp]
  refine aiW ?_;intro hn c8 t2 Lo Kp LY Lm;obtain⟨r,I⟩:=LE (stL c st i);obtain⟨q,V⟩:=LE (mn c st i);have H:=(λW (k:aC B W a g x c P T st)=>sT k C i hi hy);rw[<-I,<-V]at H;have HF:=qh H;have HX:Kq (da c st i ⟨1,u,b,z⟩=(r.1,st.G,setL c st i r.2,if q then⟨2,u,b,z⟩else⟨1,u,b,z⟩)):=qh (by rw[I,V];rfl);have HP:=qh Y;clear H I V;clear h C hp Y hy O hS hs Kj;cases q;all_goals go_enter func242,ntmps242;go_wp2_with fail;refine aiY ?_;intro w1 b1 N1 KP e0 k0 k6;go_wp2_with fail;refine ajE ?_;intro w2 k2 N2 e2;clear e0;go_wp2;go_ret;exact jI i _ HP.o HX.o rfl rfl rfl N2.o.is N2.o.tn
def FR(h:aC B w a g x c P T st)(C:dg BB x c st)(i:Nat)(hi:i<x.n)(u b z:Int)(hp:sv st.T i=⟨2,u,b,z⟩):E 242 #[↑x.l,J i] w (gU B w a g x c P T st i ⟨2,u,b,z⟩):=by
  obtain⟨y,v,S,hy,O,hS,hs,Kj⟩:=h.loc hi;have KN:st.T[i]? =some (⟨2,u,b,z⟩:Sp):=by rw[h.thr hi,hp]
  refine aiW ?_;intro hn c8 t2 Lo Kp LY Lm;obtain⟨I,mb⟩:=LE (af st.s (c.cw (c.node i)));obtain⟨q,hq⟩:=LE (ldW st.s.W (c.cw (c.node i)));have i':=(λW (k:aC B W a g x c P T st)=>xw k C.ops (c.node i) O);rw[<-mb,<-hq]at i';have HO:=qh i';have HA:=qh (λW (s:Ar) (T':List Sp) (k:aC B W a g x c P T ⟨s,st.G,st.L,T'⟩)=>DG k i hi);have HX:Kq (da c st i ⟨2,u,b,z⟩=if 0<q then(I,st.G,st.L,⟨10,q,b,z⟩)else(I,st.G.set (c.node i) (askK c.kg (sv st.G (c.node i))),st.L,⟨3,q,b,z⟩)):=qh (by rw[mb,hq];rfl);refine ajD ?_;intro HC HP;have HL:=qh (show i<st.T.length by rw[h.lS];exact hi);clear i' mb hq;clear h C hp KN hy O hS hs Kj;cases hc:decide (0<q)
  all_goals
    have MH:decide (q>0)=decide (0<q):=rfl;rw[hc]at MH;go_enter func242,ntmps242;go_wp2_with fail;refine aiY ?_;intro w1 b1 N1 KP e0 k0 k6;have Y:=qh N1.o.drew;have HW:=qh (show ∃W,W=(w1.alloc (cells #[↑y.p,J v] 243))from⟨_,rfl⟩);go_wp2_with fail
    go_region_held3 (λW=>W.cell? x.l=some ↑a/\Z W w1.heap.size 1 (J v))
      (first|with_reducible exact HC.o _ _ _ _ _ Y.o|with_reducible exact HC.o _ _ _ _ _ V.o|with_reducible exact HC.o _ _ _ _ _ H.o)
      (first
        | (go_at_call 173;go_loud (refine Op (HO.o _ Y.o.is) λw3 k3=>?_);have V:=qh (Y.o.to k3.o.1 k3.o.2);have H:=qh (V.o.put (p':=(⟨2,q,b,z⟩:Sp)) HP.o (j:=1) (u:= J q) ahD rfl);have e1:=V.o.is.sp.cell HP.o 1 _ rfl;have z1:=V.o.is.sp.free (i*4+1)))
  all_goals
    have e4:=H.o.is.sp.cell (au HP.o _) 1 _ rfl;have ab:=CoN.glo H.o.is
    first
      | (go_wp2
         go_ret
         exact qi i _ (HX.o.trans (if_pos ahI)) rfl rfl H.o.is H.o.tn)
      | (go_wp2_with fail
         refine(HA.o _ _ _ H.o.is).mono ?_
         rintro en w4 ⟨⟨bb,rfl⟩,k4,t4⟩
         have N4:=qh (H.o.to k4 t4)
         clear k4 t4
         go_wp2
         go_ret
         exact qi i _ (HX.o.trans (if_neg ahI)) rfl rfl N4.o.is N4.o.tn)
def FS(h:aC B w a g x c P T st)(C:dg BB x c st)(i:Nat)(hi:i<x.n)(u b z:Int)(hp:sv st.T i=⟨3,u,b,z⟩):E 242 #[↑x.l,J i] w (gU B w a g x c P T st i ⟨3,u,b,z⟩):=by
  obtain⟨y,v,S,hy,O,hS,hs,Kj⟩:=h.loc hi;have Y:st.T[i]? =some (⟨3,u,b,z⟩:Sp):=by rw[h.thr hi,hp]
  refine aiW ?_;intro hn c8 t2 Lo Kp LY Lm;obtain⟨r,I⟩:=LE (stG c st i);obtain⟨q,V⟩:=LE (nV c st i);have H:=(λW (k:aC B W a g x c P T st)=>sS k C i hi);rw[<-I,<-V]at H;have HF:=qh H;have HX:Kq (da c st i ⟨3,u,b,z⟩=(r.1,st.G.set (c.node i) r.2,st.L,if q then⟨4,u,b,z⟩else⟨3,u,b,z⟩)):=qh (by rw[I,V];rfl);have HP:=qh Y;clear H I V;clear h C hp Y hy O hS hs Kj;cases q;all_goals go_enter func242,ntmps242;go_wp2_with fail;refine aiY ?_;intro w1 b1 N1 KP e0 k0 k6;go_wp2_with fail;refine ajE ?_;intro w2 k2 N2 e2;clear e0;go_wp2;go_ret;exact jI i _ HP.o HX.o rfl rfl rfl N2.o.is N2.o.tn
def FT(h:aC B w a g x c P T st)(C:dg BB x c st)(i:Nat)(hi:i<x.n)(u b z:Int)(hp:sv st.T i=⟨4,u,b,z⟩):E 242 #[↑x.l,J i] w (gU B w a g x c P T st i ⟨4,u,b,z⟩):=by
  obtain⟨y,v,S,hy,O,hS,hs,Kj⟩:=h.loc hi;have KN:st.T[i]? =some (⟨4,u,b,z⟩:Sp):=by rw[h.thr hi,hp]
  refine aiW ?_;intro hn c8 t2 Lo Kp LY Lm;obtain⟨Y,mb⟩:=LE (ae st.s (c.cw (c.node i)) 1);have V:=(λW (k:aC B W a g x c P T st)=>ov k C.ops (c.node i) O 1);rw[<-mb]at V;have HO:=qh V;have HX:Kq (da c st i ⟨4,u,b,z⟩=(Y,st.G,st.L,⟨10,1,b,z⟩)):=qh ahV;refine ajD ?_;intro HC HP;clear V mb;clear h C hp KN hy O hS hs Kj;go_enter func242,ntmps242;go_wp2_with fail;refine aiY ?_;intro w1 b1 N1 KP e0 k0 k6;have I:=qh N1.o.drew;go_wp2_with fail
  go_region_held3 (λW=>W.cell? x.l=some ↑a/\Z W w1.heap.size 1 (J v))
    (first|with_reducible exact HC.o _ _ _ _ _ I.o|with_reducible exact HC.o _ _ _ _ _ H.o)
    (first
      | (go_at_call 177;go_loud (refine Op (HO.o _ I.o.is) λw3 k3=>?_);have H:=qh (I.o.to k3.o.1 k3.o.2)))
  all_goals have e1:=H.o.is.sp.cell HP.o 1 _ rfl;have z1:=H.o.is.sp.free (i*4+1);have N3:=qh (H.o.put (p':=(⟨4,1,b,z⟩:Sp)) HP.o (j:=1) (u:= J 1) ahD rfl);go_wp2;go_ret;exact qi i _ HX.o rfl rfl N3.o.is N3.o.tn
end
end
end Go.Proofs.YtglokdbiggbkjaaGreat
