/- Joined texts. -/
import Derived.Laws.EntriesVeiled
import Derived.Test.YtglokdbiggbkjaaGreatMgWorldAgain0
import Derived.Test.YtglokdbiggbkjaaGreatMgWorldAgain4
import Derived.Test.YtglokdbiggbkjaaGreatMgWorldAgain6
import Derived.Test.YtglokdbiggbkjaaGreatMgWorldAgain7
import Derived.Test.YtglokdbiggbkjaaGreatMgWorldAgain8
import Derived.Test.YtglokdbiggbkjaaGreatMgWorldAgain9
import Derived.Test.YtglokdbiggbkjaaGreatMgWorldAgain11
import Derived.Test.YtglokdbiggbkjaaGreatMgWorldAgain12
import Derived.Test.YtglokdbiggbkjaaGreatMgWorldAgain13
set_option linter.unusedVariables false
set_option linter.unusedSimpArgs false
set_option linter.defProp false
set_option maxRecDepth 100000
set_option maxHeartbeats 16000000
open Go.Proofs.Tryz
namespace Go.Proofs.YtglokdbiggbkjaaGreat
open Go.IntKind(i64)
open Go.Value(int bool slice agg tuple pointer)
open Go.Ending(returned)
open Go.Obj(cells)
variable{a j:Nat}{w' w0:World}{S:List Nat}{t m x BB:Int}{f f':Int->Int}{B:Nat->Prop}{u:Value}{P T:List Int}
section
open Go.RowKit
variable{w:World}{g:Nat}{s:Ar}
def GO(w:World)(a g:Nat)(s:Ar)(n:Nat)(e:Ending)(w':World):Prop:=
 ∃k,e= returned (tuple #[pointer (some ⟨k,0,none⟩),J 0])/\BnA w' ⟨k,a,g,s.W.length+1,n⟩ {s with W:=s.W++List.replicate (2+n) 0} ⟨0,0,0,0⟩/\w.heap.size<=k/\k<w'.heap.size/\aa [a] w w'
def Jy(h:aB w a g s)(n:Nat)(h1:1<=n)(Y:n<=32)(V:s.W.length+(2+n)<=s.room):E 147 #[↑a,J n] w (GO w a g s n):=by
  have t1:¬(n:Int)<1:=by omega
  have t2:¬32<(n:Int):=by omega
  have Ow:=h.room;have x1:IntKind.i64.wrap (2+(n:Int))=2+(n:Int):=IntWalk.i64_in _ ahp
  have O:Kq (d7 s (2+(n:Int))=({s with W:=s.W++List.replicate (2+n) 0},(s.W.length:Int)+1,(0:Int))):=qh (by
    unfold d7
    rw[if_neg ahp,if_neg ahp,show(2+(n:Int)).toNat=2+n by omega])
  have H:=qh (And.intro h (And.intro h.blk.lt h.wds.lt));have I:=qh V;clear h V;go_enter func147,ntmps147;go_wp2_with fail;refine(gh H.o.1 (2+(n:Int))).mono ?_;rintro en w1 ⟨rfl,k1,u1⟩;rw[O.o]at k1 ⊢;have H1:=qh (And.intro k1 u1);clear k1 u1;go_wp2;go_ret2;have hs:=H1.o.2.size;have t:aa [] w1 (w1.alloc (cells #[↑a,J ((s.W.length:Int)+1),J n,J 0,J 0,J 0,J 0] 326)):=(aa.refl _ _).alloc _;refine⟨w1.heap.size,rfl,⟨H1.o.1.turns t ahq ahq,Blk.new _ _ _,⟨by have:=H.o.2.1;show w1.heap.size≠a;omega,by have:=H.o.2.2;show w1.heap.size≠g;omega⟩,⟨by have:=I.o;show s.W.length+1<=5000;omega,Y⟩,by unfold BnB;simp⟩,hs,by simp,H1.o.2.alloc _⟩
def ma0(s:Ar)(n:Nat):Mal:=⟨{s with W:=List.replicate (4+3*n) 0},⟨0,0,0,0⟩,0,List.replicate n Sp.zero⟩
def GR(w:World)(a g:Nat)(s:Ar)(bud:Int)(n:Nat)(e:Ending)(w':World):Prop:=
 ∃c:Mx,e= returned (tuple #[↑c.l,J 0])/\bN w' c bud (ma0 s n)/\(c.b.a=a/\c.b.g=g/\c.b.n=n/\(c.b.F:Int)=maF n)/\w.heap.size<=c.l/\w.heap.size<=c.q/\w.heap.size<=c.b.k/\aa [a] w w'
def Jz(h:aB w a g s)(hs:s.W=[])(Lz:a≠g)(H vT:Value)(P T:List Int)(hP:RdL w H 1 encI P)(hT:RdL w vT 1 encI T)(hc:a5 P T=0)(bud:Int)(JX:0<=bud)(Kg:bud<=1000)(V:s.room=4096):E 107 #[↑a,agg #[H,vT],J bud] w (GR w a g s bud T.length):=by
  obtain⟨i0,hi,J5,J7,J2⟩:=info_parts Tryz.infoSp;obtain⟨h1,h2⟩:1<=T.length/\T.length<=32:=by have:=bi (aQ hc).1;exact⟨this.2.2.1,this.2.2.2⟩
  have HC:=qh (ke (w.alloc (cells #[H,vT] 24)) H vT P T (hP.alloc _) (hT.alloc _));obtain⟨Y,cT,rfl,Qb,Qc⟩:=bX hT;have HA:=qh (And.intro h (And.intro h.blk.lt h.wds.lt));have HR:=qh (λW=>pe bud W JX Kg);have Kp:(w.alloc (cells #[H,.slice Y T.length cT] 24)).heap.size=w.heap.size+1:=by simp
  have B0:=qh ((Below.refl w.heap.size w).alloc (Nat.le_refl _) (cells #[H,.slice Y T.length cT] 24));obtain⟨n,hn⟩:=LE T.length;rw[<-hn]at h1 h2 HC B0 Kp Qb Qc ⊢;have L2:=qh (And.intro hc hn);have HH:=qh (And.intro hs (And.intro V (And.intro Lz (And.intro JX Kg))));have x1:IntKind.i64.wrap (2*(n:Int))=2*(n:Int):=IntWalk.i64_in _ ahp;have x2:IntKind.i64.wrap (2+2*(n:Int))=2+2*(n:Int):=IntWalk.i64_in _ ahp
  have HT:Kq (d7 s (2+2*(n:Int))=({s with W:=List.replicate (2+2*n) 0},(1:Int),(0:Int))):=qh (by
    unfold d7
    rw[hs,V,if_neg ahp,if_neg ahu,show(2+2*(n:Int)).toNat=2+2*n by omega];rfl)
  clear h hP hT hc hs V Lz JX Kg hn;go_enter func107,ntmps107;go_wp2_with fail;refine ST HC.o λw1 b1=>?_;rw[L2.o.1];have M9:Z w1 w.heap.size 1 (.slice Y n cT):=by have:=(Blk.new w 24 #[H,.slice Y n cT]).cell 1;rw[<-(aa.of_below (S:=[]) b1).cellC (p:=⟨w.heap.size,1,none⟩) ahq ahq]at this;exact this
  rw[Kp]at b1;have B1:=qh (B0.o.trans (b1.mono ahp));clear b1 HC;go_wp2_with fail;refine LT (HR.o _) ?_;go_wp2_with fail;refine(gh (HA.o.1.turns (aa.of_below (S:=[]) B1.o) ahq ahq) (2+2*(n:Int))).mono ?_;rintro en w2 ⟨rfl,k2,u2⟩;rw[HT.o]at k2 ⊢;have H2:=qh (And.intro k2 ((aa.of_below (S:=[a]) B1.o).trans u2));clear k2 u2 M9;go_wp2_with fail;refine(Jy H2.o.1 n h1 h2 (by have:=HH.o.2.1;simp;omega)).mono ?_;rintro en w3 ⟨k,rfl,kb,O,Kk,u3⟩;have H3:=qh (And.intro kb (And.intro O (And.intro Kk (H2.o.2.trans u3))));clear kb O Kk u3;go_wp2_with (refine wpList_make_full _ rfl (.tmp 48) (.tmp 48) 237 rfl w3.heap.size 113 i0 (agg #[J 0,J 0,J 0,J 0]) 4 Tryz.underlying237 hi J5 J7 .i64 .i64 n n n rfl rfl rfl rfl ?b2 ?b3 (Nat.le_refl _) ?_);case b2=>rw[J2];omega
  case b3=>unfold maxLen;omega
  intro w5 r' hg;have I:dA w5 w3.heap.size (List.replicate n Sp.zero):=by unfold dA;rw[mh];have:=gA r';rw[show(madeCells #[Value.int .i64 0,J 0,J 0,J 0] (n*4)).toList=List.replicate (n*4) (J 0)from jJ _ _]at this;exact this
  have t5:aa [] w3 w5:=aa.of_below ((Below.refl w3.heap.size w3).grown hg (Nat.le_refl _) (λj hj=>by cases hj));have H5:=qh (And.intro I t5);clear r' hg I t5;go_wp2;go_ret2;have NE:=H5.o.1.lt;have JY:=H2.o.2.size;have Ns:=HA.o.2.1;have Ol:=HA.o.2.2;obtain⟨_,O,Kk,W0⟩:=H3.o;have KI:=W0.size;obtain⟨L,hL⟩:∃L:Obj,L=(cells #[↑a,J 1,J bud,↑k,J 0,slice (some ⟨w3.heap.size,0,none⟩) n n] 269):=⟨_,rfl⟩;have t6:aa [] w3 (w5.alloc L):=H5.o.2.alloc _;have k6:=H3.o.1.turns t6 ahq ahq ahq;have Xw:=H5.o.1.turns (T:=[]) ((aa.refl _ _).alloc L) ahq;have tt:=W0.trans (t6.mono (T:=[a]) ahq);have ab:=L2.o.2;rw[hL]at k6 Xw tt;refine⟨⟨w5.heap.size,w3.heap.size,⟨k,a,g,3+2*n,n⟩⟩,rfl,⟨?_,Blk.new _ _ _,Xw,by show(List.replicate n Sp.zero).length=n;simp,?_,HH.o.2.2.2⟩,⟨rfl,rfl,rfl,by unfold maF;simp⟩,by show w.heap.size<=w5.heap.size;omega,by show w.heap.size<=w3.heap.size;omega,by show w.heap.size<=k;omega,tt⟩;. have e:(List.replicate (2+2*n) (0:Int)).length+1=3+2*n:=(by simp;omega);have e2:List.replicate (2+2*n) (0:Int)++List.replicate (2+n) 0=List.replicate (4+3*n) 0:=(by rw[List.replicate_append_replicate,show 2+2*n+(2+n)=4+3*n by omega]);rw[e]at k6;simp only[e2]at k6;exact k6
  . unfold mS;have:=HH.o.2.2.1;simp;omega
def Ik(s:Ar){n:Nat}(h1:1<=n):MaS n (ma0 s n):=by
 have e:∀i,sv (List.replicate n Sp.zero) i=Sp.zero:=λi=>by unfold sv;simp[List.getD_eq_getElem?_getD,List.getElem?_replicate];split<;>rfl
 have w0:∀y,ldW (List.replicate (4+3*n) (0:Int)) y=0:=λy=>by
  unfold ldW;split;.simp[List.getD_eq_getElem?_getD,List.getElem?_replicate];split<;>rfl
  .rfl
 refine⟨⟨h1,?_,?_,?_,?_,?_,?_,?_,?_,?_,?_,?_,?_,?_⟩,by simp[ma0],by simp[ma0]⟩;all_goals simp only[ma0,e,w0,j3]
 all_goals try simp only[Sp.zero]
 all_goals first|omega|(intros;omega)
end
section
open Go Go.RowKit
def Dj(F:Int)(s:Ar)(b:Bn):(bnS F s b).1.ops<=s.ops+1:=by
 unfold bnS;repeat' split
 all_goals first|exact hY _ _ _|exact iP _ _|simp
theorem Ea(n:Nat)(bud:Int)(h:Mal)(i:Nat)(p:Sp):(maP n bud h i p).1.ops<=h.ar.ops+1:=by
 have I:=Dj (maF n) h.ar h.bn;have h1:=λx v=>hY h.ar x v;have H:=λx=>iP h.ar x;have V:=λx o v=>nL h.ar x o v;have Y:=λx v=>jz h.ar x v;have O:=λx v=>eU h.ar x v;unfold maP;split
 .unfold fj;repeat' split
  all_goals first|exact h1 _ _|exact H _|exact O _ _
 .unfold dD;grind (splits:=40)
def oM(n:Nat)(bud:Int)(h:Mal)(i:Nat):(eP n bud h i).1.ar.ops<=h.ar.ops+1:=by
 unfold eP;split;.simp
 .exact Ea n bud h i _
def mX(h:Mal)(i:Nat)(u v:Int):(iD h i u v).ar=h.ar:=by unfold iD;split<;>rfl
def maV(l:Nat):Value:= .iface 181 (agg #[.iface 185 ↑l])
def BO(n:Nat)(bud:Int):LkM n where
 σ:=Mal
 β:=Mx×Nat×Nat
 ok:=λst N=>MaS n st/\st.ar.ops<=N
 ar:=λst=>st.ar
 sp:=λst i=>sv st.S i
 cn:=λst i=>if (sv st.S i).pc=10 then 1 else 0
 rd:=false
 step:=λst i=>(eP n bud st i).1
 ask:=λst i r=>if r then st else iD st i 0 1
 leave:=λst i=>iD st i 10 11
 bt:=λb=>b.2.1
 hi:=λb=>b.2.2
 fp:=λb=>mS b.1
 is:=fun(b:Mx×Nat×Nat) w a g lb (st:Mal)=>bN w b.1 bud st/\(b.1.b.a=a/\b.1.b.g=g/\b.1.b.n=n/\(b.1.b.F:Int)=maF n)/\jy w lb n 10 (maV b.1.l) (mS b.1) b.2.1 b.2.2
def bN.far{w:World}{c:Mx}{bud:Int}{h:Mal}(k:bN w c bud h)(t:aa S w w')(H:∀x∈mS c,x∉S):bN w' c bud h:=by unfold mS at H;simp only[List.mem_cons,List.not_mem_nil,or_false,forall_eq_or_imp,forall_eq]at H;obtain⟨h1,I,O,V,Y⟩:=H;exact {k with bn:=k.bn.turns t V Y O,lk:=t.blk k.lk h1,sp:=k.sp.turns t I}
def tx(n:Nat)(bud:Int)(st:Mal)(i:Nat)(hi:i<st.S.length):(eP n bud st i).2=dB (sv st.S i) (sv (eP n bud st i).1.S i):=by
 unfold eP dB;by_cases h:(sv st.S i).pc=0\/(sv st.S i).pc=10;.rw[if_pos h];symm;exact decide_eq_false (λq=>by omega)
 .rw[if_neg h];simp only[cJ,hi,and_true,if_true];by_cases c:(maP n bud st i (sv st.S i)).2.2.2.pc=0\/(maP n bud st i (sv st.S i)).2.2.2.pc=10;.exact aaz
  .exact aaA
def vj{n:Nat}(bud:Int)(hn:1<=n/\n<=32):(BO n bud).Good where
 n32:=hn
 okS:=fun(st:Mal) N i h _ hi=>⟨h.1.step bud hi,Nat.le_trans (oM n bud st i) (by have:=h.2;omega)⟩
 okA:=fun(st:Mal) N i r h _ hi=>by
  show MaS n (if r then st else iD st i 0 1)/\_
  cases r
  .refine⟨?_,?_⟩
   .show MaS n (iD st i 0 1)
    unfold iD
    split
    .rename_i e;exact h.1.beg e (.inl ⟨rfl,rfl⟩)
    .exact h.1
   .show(iD st i 0 1).ar.ops<=_
    rw[mX];have:=h.2;omega
  .exact⟨h.1,by have:=h.2;show st.ar.ops<=_;omega⟩
 okL:=fun(st:Mal) N i h _ hi=>by
  refine⟨?_,?_⟩
  .show MaS n (iD st i 10 11)
   unfold iD
   split
   .rename_i e;exact h.1.beg e (.inr ⟨rfl,rfl⟩)
   .exact h.1
  .show(iD st i 10 11).ar.ops<=_
   rw[mX];have:=h.2;omega
 okm:=fun(st:Mal) N h=>⟨h.1,by have:=h.2;omega⟩
 one:=fun(st:Mal) N i j h hi hj h1 h2 _=>h.1.one hi hj h1 h2
 pcs:=fun(st:Mal) N i h hi=>by have:=h.1.i.pcs i hi;show 0<=(sv st.S i).pc;omega
 cnt:=fun(st:Mal) N i h hi=>by
  exact aaB
 opsS:=fun(st:Mal) N i _ _ _=>oM n bud st i
 arA:=fun(st:Mal) i r=>by cases r;exact mX _ _ _ _;rfl
 arL:=fun(st:Mal) i=>mX _ _ _ _
 ais:=fun(b:Mx×Nat×Nat) w a g lb (st:Mal) h=>by obtain⟨k,⟨rfl,rfl,_⟩,_⟩:=h;exact k.bn.ar
 lk:=fun(b:Mx×Nat×Nat) w a g lb (st:Mal) h=>h.2.2.c1
 kd:=fun(b:Mx×Nat×Nat) w a g lb (st:Mal) h=>⟨10,h.2.2.blk.cell 0,rfl⟩
 fpa:=fun(b:Mx×Nat×Nat) w a g lb (st:Mal) h=>⟨λx O=>(h.2.2.fl x O).2,h.2.2.hw⟩
 far:=fun(b:Mx×Nat×Nat) w a g lb (st:Mal) w' S h t hS=>⟨h.1.far t (λx O m=>by have h9:b.2.2<=x\/x<b.2.1:=hS x m;have:=h.2.2.fl x O;omega),h.2.1,h.2.2.far t hS⟩
 cS:=fun(b:Mx×Nat×Nat) w a g lb (st:Mal) N i h hk hN hi=>by
  obtain⟨k,hc,hd⟩:=h
  refine(om .ma hd.c1 hd.c2 hi (R:=λr w'=>r=dB (sv st.S i) (sv (eP n bud st i).1.S i)/\bN w' b.1 bud (eP n bud st i).1/\aa (mS b.1) w w') λW bw=>?_).mono ?_
  .obtain⟨-,-,I,Y⟩:=hc
   have:=IS (k.below bw) (by rw[I];exact hk.1) (by rw[I];exact Y) (by have:=hk.2;unfold lkB at hN;omega) i ahp
   rw[I]at this
   refine ST this λw' H=>?_
   exact⟨_,rfl,tx n bud st i (by rw[k.sl,I];exact hi),H.is,(aa.of_below bw).trans H.tn⟩
  .exact aaC
 cA:=fun(b:Mx×Nat×Nat) w a g lb (st:Mal) N i r h hk hN hi=>by
  obtain⟨k,hc,hd⟩:=h
  refine(yz .ma hd.c1 hd.c2 hi r (R:=λq w'=>q=decide ((sv st.S i).pc=0/\(r=true->(false:Bool)=true))/\bN w' b.1 bud (if r then st else iD st i 0 1)/\aa (mS b.1) w w') (λV W bw=>?_) (λV W bw=>?_)).mono ?_
  .subst V
   refine ST (Jr (k.below bw) i (by have:=hc.2.2.1;omega)) λw' H=>?_
   exact⟨_,rfl,by simp,H.is,(aa.of_below bw).trans H.tn⟩
  .exact aaD
  .exact aaC
 cL:=fun(b:Mx×Nat×Nat) w a g lb (st:Mal) N i h hk hN hi=>by
  obtain⟨k,hc,hd⟩:=h
  refine(kH .ma hd.c1 hd.c2 hi (R:=λq w'=>q=decide ((sv st.S i).pc=10)/\bN w' b.1 bud (iD st i 10 11)/\aa (mS b.1) w w') λW bw=>?_).mono ?_
  .refine ST (FU (k.below bw) i (by have:=hc.2.2.1;omega)) λw' H=>?_
   exact⟨_,rfl,rfl,H.is,(aa.of_below bw).trans H.tn⟩
  .exact aaC
 cP:=fun(b:Mx×Nat×Nat) w a g lb (st:Mal) i h hi=>oj .ma h.2.2.c1 h.2.2.c2 hi _ λW bw=>CP (h.1.below bw) i (by have:=h.2.1.2.2.1;omega)
 cC:=fun(b:Mx×Nat×Nat) w a g lb (st:Mal) i h hi=>oe .ma h.2.2.c1 h.2.2.c2 hi _ λW bw=>CP (h.1.below bw) i (by have:=h.2.1.2.2.1;omega)
end
section
open Go
section
variable{n:Nat}{σ σ':Nat->Sp}
def gu(t:Int)(n:Nat)(f:Int->Int)(σ:Nat->Sp):Prop:=∀i,i<n->(σ i).pc=10\/(σ i).pc=11->f t=(i:Int)+1
def gu.one(h:gu t n f σ){i:Nat}(hi:i<n)(I:j<n)(h1:(σ i).pc=10)(H:(σ j).pc=10):i=j:=by have O:=h i hi (.inl h1);have V:=h j I (.inl H);omega
def gu.off(h:gu t n f σ){i:Nat}{p:Sp}(hs:∀j,σ' j=if j=i then p else σ j)(I:(p.pc=10\/p.pc=11)->(σ i).pc=10\/(σ i).pc=11):gu t n f σ':=by
 intro j H hc;rw[hs]at hc;split at hc;.rename_i e;subst e;exact h j H (I hc)
 .exact h j H hc
def gu.get(h:gu t n f σ){i:Nat}{p:Sp}(hs:∀j,σ' j=if j=i then p else σ j)(H:∀y,f' y=if y=t then(i:Int)+1 else f y)(O:f t=0):gu t n f' σ':=by
 intro j I hc;rw[hs]at hc;rw[H,if_pos rfl];split at hc;.rename_i e;subst e;rfl
 .have:=h j I hc;omega
def gu.put(h:gu t n f σ){i:Nat}{p:Sp}(hi:i<n)(hs:∀j,σ' j=if j=i then p else σ j)(Y:∀y,f' y=if y=t then 0 else f y)(H:(σ i).pc=11)(hp:p.pc=0):gu t n f' σ':=by
 intro j I hc;rw[hs]at hc;split at hc;.omega
 .rename_i e;have O:=h j I hc;have V:=h i hi (.inr H);omega
structure dG(t:Int)(n:Nat)(f:Int->Int)(σ:Nat->Sp):Prop where
 le:f (t+1)<=f t
 w:∀i,i<n->(σ i).pc=2->f (t+1)<=(σ i).a/\(σ i).a<f t
 hd:∀i,i<n->(σ i).pc=10\/(σ i).pc=11->(σ i).a=f (t+1)/\(σ i).a<f t
 ne:∀i j,i<n->j<n->i≠j->((σ i).pc=2\/(σ i).pc=10\/(σ i).pc=11)->((σ j).pc=2\/(σ j).pc=10\/(σ j).pc=11)->(σ i).a≠(σ j).a
def dG.one(h:dG t n f σ){i:Nat}(hi:i<n)(hj:j<n)(h1:(σ i).pc=10)(h2:(σ j).pc=10):i=j:=by exact aaM
def dG.off(h:dG t n f σ){i:Nat}{p:Sp}(hs:∀j,σ' j=if j=i then p else σ j)(ha:p.a=(σ i).a)(H:((σ i).pc=0/\p.pc=1)\/((σ i).pc=10/\p.pc=11)\/p.pc=(σ i).pc):dG t n f σ':=by
 refine ajV ?_;intro key
 have kc:∀j,((σ' j).pc=2->(σ j).pc=2)/\(((σ' j).pc=10\/(σ' j).pc=11)->(σ j).pc=10\/(σ j).pc=11):=λj=>by
  rw[hs];split;.rename_i e;subst e;omega
  .exact⟨id,id⟩
 refine⟨h.le,λj hj hc=>?_,λj hj hc=>?_,λj k hj hk hn h1 h2=>?_⟩;.rw[key];exact h.w j hj ((kc j).1 hc)
 .rw[key];exact h.hd j hj ((kc j).2 hc)
 .exact aaN
def dG.take(h:dG t n f σ){i:Nat}{p:Sp}(hs:∀j,σ' j=if j=i then p else σ j)(O:p.pc=2)(ha:p.a=f t)(H:∀y,f' y=if y=t then f t+1 else f y):dG t n f' σ':=by
 have f0:f' t=f t+1:=by rw[H,if_pos rfl]
 have f1:f' (t+1)=f (t+1):=by rw[H,if_neg ahp]
 have I:=h.le;refine⟨by rw[f0,f1];omega,λj hj hc=>?_,λj hj hc=>?_,λj k hj hk hn h1 h2=>?_⟩;.rw[f0,f1];exact aaO
 .rw[f0,f1];exact aaP
 .exact aaQ
def dG.enter(h:dG t n f σ){i:Nat}{p:Sp}(hi:i<n)(hs:∀j,σ' j=if j=i then p else σ j)(h2:(σ i).pc=2)(I:p.pc=10)(ha:p.a=(σ i).a)(H:f (t+1)=(σ i).a):dG t n f σ':=by
 have hw:=h.w i hi h2;refine ajV ?_;intro key;refine⟨h.le,λj hj hc=>?_,λj hj hc=>?_,λj k hj hk hn h1 h3=>?_⟩
 .rw[key];rw[hs]at hc;split at hc;.omega
  .exact h.w j hj hc
 .exact aaR
 .exact aaS
def dG.put(h:dG t n f σ){i:Nat}{p:Sp}(hi:i<n)(hs:∀j,σ' j=if j=i then p else σ j)(h1:(σ i).pc=11)(O:p.pc=0)(H:∀y,f' y=if y=t+1 then(σ i).a+1 else f y):dG t n f' σ':=by
 have I:=h.hd i hi (.inr h1);have f0:f' t=f t:=by rw[H,if_neg ahp]
 have f1:f' (t+1)=(σ i).a+1:=by rw[H,if_pos rfl]
 refine⟨by rw[f0,f1];omega,λj hj hc=>?_,λj hj hc=>?_,λj k hj hk hn h2 h3=>?_⟩;.rw[f0,f1];exact aaT
 .exact aaU
 .exact aaV
structure dW(t m:Int)(n:Nat)(f:Int->Int)(σ:Nat->Sp)(v:Int):Prop where
 v0:0<=v
 le:v<=f t
 w:∀i,i<n->(σ i).pc=2->v<=(σ i).a/\(σ i).a<f t
 hd:∀i,i<n->(σ i).pc=10\/(σ i).pc=11->(σ i).a=v/\(σ i).a<f t
 ne:∀i j,i<n->j<n->i≠j->((σ i).pc=2\/(σ i).pc=10\/(σ i).pc=11)->((σ j).pc=2\/(σ j).pc=10\/(σ j).pc=11)->(σ i).a≠(σ j).a
 pl:∀k:Int,0<=k->k<m->f (t+1+k)<=v+1
 sv:f (pPl t m v)=v+1
def dW.one{v:Int}(h:dW t m n f σ v){i:Nat}(hi:i<n)(hj:j<n)(h1:(σ i).pc=10)(h2:(σ j).pc=10):i=j:=by exact aaM
def dW.off{v:Int}(h:dW t m n f σ v){i:Nat}{p:Sp}(hs:∀j,σ' j=if j=i then p else σ j)(ha:p.a=(σ i).a)(H:((σ i).pc=0/\p.pc=1)\/((σ i).pc=10/\p.pc=11)\/p.pc=(σ i).pc):dW t m n f σ' v:=by
 refine ajV ?_;intro key
 have kc:∀j,((σ' j).pc=2->(σ j).pc=2)/\(((σ' j).pc=10\/(σ' j).pc=11)->(σ j).pc=10\/(σ j).pc=11):=λj=>by
  rw[hs];split;.rename_i e;subst e;omega
  .exact⟨id,id⟩
 refine⟨h.v0,h.le,λj hj hc=>?_,λj hj hc=>?_,λj k hj hk hn h1 h2=>?_,h.pl,h.sv⟩;.rw[key];exact h.w j hj ((kc j).1 hc)
 .rw[key];exact h.hd j hj ((kc j).2 hc)
 .exact aaN
def dW.take{v:Int}(h:dW t m n f σ v)(hm:1<=m){i:Nat}{p:Sp}(hs:∀j,σ' j=if j=i then p else σ j)(O:p.pc=2)(ha:p.a=f t)(H:∀y,f' y=if y=t then f t+1 else f y):dW t m n f' σ' v:=by
 have f0:f' t=f t+1:=by rw[H,if_pos rfl]
 have I:=h.le;have hm0:=Int.emod_nonneg v (show m≠0 by omega);refine⟨h.v0,by rw[f0];omega,λj hj hc=>?_,λj hj hc=>?_,λj k hj hk hn h1 h2=>?_,λk k0 k1=>by rw[H,if_neg ahp];exact h.pl k k0 k1,by rw[H,if_neg (by unfold pPl;omega)];exact h.sv⟩;.rw[f0];exact aaO
 .rw[f0];exact aaP
 .exact aaQ
def dW.enter{v:Int}(h:dW t m n f σ v)(hm:1<=m){i:Nat}{p:Sp}(hi:i<n)(hs:∀j,σ' j=if j=i then p else σ j)(h2:(σ i).pc=2)(O:p.pc=10)(ha:p.a=(σ i).a)(H:f (pPl t m (σ i).a)=(σ i).a+1):dW t m n f σ' v:=by
 have hw:=h.w i hi h2;have V:=h.pl ((σ i).a%m) (Int.emod_nonneg _ ahp) (Int.emod_lt_of_pos _ ahp);have I:f (t+1+(σ i).a%m)=(σ i).a+1:=H;refine ajV ?_;intro key;refine⟨h.v0,h.le,λj hj hc=>?_,λj hj hc=>?_,λj k hj hk hn h1 h3=>?_,h.pl,h.sv⟩
 .rw[key];rw[hs]at hc;split at hc;.omega
  .exact h.w j hj hc
 .exact aaR
 .exact aaS
def dW.put{v:Int}(h:dW t m n f σ v)(hm:1<=m){i:Nat}{p:Sp}(hi:i<n)(hs:∀j,σ' j=if j=i then p else σ j)(h1:(σ i).pc=11)(V:p.pc=0)(H:∀y,f' y=if y=pPl t m ((σ i).a+1)then(σ i).a+2 else f y):dW t m n f' σ' (v+1):=by
 have I:=h.hd i hi (.inr h1);have hm0:=Int.emod_nonneg ((σ i).a+1) (show m≠0 by omega);have f0:f' t=f t:=by rw[H,if_neg (by unfold pPl;omega)]
 have O:=h.v0;refine⟨by omega,by rw[f0];omega,λj hj hc=>?_,λj hj hc=>?_,λj k hj hk hn h2 h3=>?_,λk k0 k1=>?_,?_⟩;.rw[f0];exact aaT
 .exact aaU
 .exact aaV
 .rw[H];split;.omega
  .have:=h.pl k k0 k1;omega
 .rw[H,if_pos (by rw[I.1]),I.1];omega
end
end
section
open Go
def szI(k n:Nat)(m:Int):Int:=if k=1 then 1 else if k=2 then 2 else if k=3 then 1+m else if k=4 then 1+2*(n:Int)else(n:Int)+2
def rX(k:Nat)(t m:Int)(n:Nat)(f:Int->Int)(σ:Nat->Sp):Prop:=
 if k=1 then gu t n f σ else if k=2 then dG t n f σ else if k=3 then ∃v,dW t m n f σ v else if k=4 then McA n (f t) (fN t n f) (fW t n f) σ else ∃e,ClA n (f t) (fC t n f) σ e
structure cj(k:Nat)(t m:Int)(n:Nat)(W:List Int)(S:List Sp):Prop where
 len:S.length=n
 m1:1<=m
 t1:1<=t
 t2:t+szI k n m<=(W.length:Int)+1
 i:rX k t m n (ldW W) (sv S)
section
variable{n k:Nat}{σ:Nat->Sp}
def xA(t:Int)(hm:1<=m)(v:Int):t<pPl t m v/\pPl t m v<t+1+m:=by have h1:=Int.emod_nonneg v (show m≠0 by omega);have h:=Int.emod_lt_of_pos v (show 0<m by omega);unfold pPl;omega
def rX.congr(h:rX k t m n f σ)(hm:1<=m)(H:∀y,t<=y->y<t+szI k n m->f' y=f y):rX k t m n f' σ:=by
 unfold rX at h ⊢;unfold szI at H;by_cases h1:k=1;.simp only[h1,reduceIte]at h H ⊢;intro i hi hc;rw[H t ahp ahp];exact h i hi hc
 by_cases O:k=2;.simp only[O,reduceIte,show ¬(2=1)by decide]at h H ⊢;have e0:=H t ahp ahp;have I:=H (t+1) ahp ahp;exact⟨by rw[e0,I];exact h.le,λi hi hc=>by rw[e0,I];exact h.w i hi hc,λi hi hc=>by rw[e0,I];exact h.hd i hi hc,h.ne⟩
 by_cases V:k=3;.simp only[V,reduceIte,show ¬(3=1)by decide,show ¬(3=2)by decide]at h H ⊢;obtain⟨v,h⟩:=h;have e0:=H t ahp ahp;have ep:=xA t hm v;exact⟨v,h.v0,by rw[e0];exact h.le,λi hi hc=>by rw[e0];exact h.w i hi hc,λi hi hc=>by rw[e0];exact h.hd i hi hc,h.ne,λk k0 k1=>by rw[H _ ahp ahp];exact h.pl k k0 k1,by rw[H _ ahp ahp];exact h.sv⟩
 by_cases Y:k=4;.simp only[Y,reduceIte,show ¬(4=1)by decide,show ¬(4=2)by decide,show ¬(4=3)by decide]at h H ⊢;have e:=Bc H;rw[H t ahp ahp,e.1,e.2];exact h
 .simp only[h1,O,V,Y,reduceIte]at h H ⊢;obtain⟨e,h⟩:=h;exact⟨e,by rw[H t ahp ahp,Bb H];exact h⟩
def cj.frame{W H:List Int}{S:List Sp}(h:cj k t m n W S)(O:H.length=W.length)(I:∀y,t<=y->y<t+szI k n m->ldW H y=ldW W y):cj k t m n H S:=
 ⟨h.len,h.m1,h.t1,by rw[O];exact h.t2,h.i.congr h.m1 I⟩
def cj.one{W:List Int}{S:List Sp}(h:cj k t m n W S)(Y:1<=k/\k<=5){i:Nat}(hi:i<n)(H:j<n)(h1:(sv S i).pc=10)(I:(sv S j).pc=10):i=j:=by
 have V:k=1\/k=2\/k=3\/k=4\/k=5:=by omega
 rcases V with rfl|rfl|rfl|rfl|rfl
 .exact gu.one (show gu t n (ldW W) (sv S)from h.i) hi H h1 I
 .exact dG.one (show dG t n (ldW W) (sv S)from h.i) hi H h1 I
 .obtain⟨v,O⟩:∃v,dW t m n (ldW W) (sv S) v:=h.i;exact O.one hi H h1 I
 .exact(show McA n _ _ _ (sv S)from h.i).tk.one i j hi H (.inl ahp) (.inl ahp)
 .obtain⟨e,O⟩:∃e,ClA n (ldW W t) (fC t n (ldW W)) (sv S) e:=h.i;exact O.one hi H h1 I
def svS{S:List Sp}{i:Nat}(hi:i<S.length)(p:Sp)(j:Nat):sv (S.set i p) j=if j=i then p else sv S j:=by
 rw[cJ];by_cases e:i=j;.subst e;rw[if_pos ⟨rfl,hi⟩,if_pos rfl]
 .rw[if_neg (λh=>e h.1),if_neg (λh=>e h.symm)]
def E8{W:List Int}{S:List Sp}(h:cj k t m n W S){i:Nat}(hi:i<n):sv (S.set i (sv S i))=sv S:=by
 funext j;rw[svS (by rw[h.len];exact hi)];split;.rename_i e3;rw[e3]
 .rfl
def cj.ask{W:List Int}{S:List Sp}(h:cj k t m n W S)(Y:1<=k/\k<=5){i:Nat}(hi:i<n):cj k t m n W (S.set i (askK k (sv S i))):=by
 refine⟨by rw[List.length_set];exact h.len,h.m1,h.t1,h.t2,?_⟩;by_cases O:(sv S i).pc=0
 .have hs:=svS (S:=S) (i:=i) (by rw[h.len];exact hi) (askK k (sv S i));have H:askK k (sv S i)=if k=1 then {(sv S i)with pc:=1,a:=1} else {(sv S i)with pc:=1}:=by unfold askK;rw[if_pos O]
  have V:k=1\/k=2\/k=3\/k=4\/k=5:=by omega
  rcases V with rfl|rfl|rfl|rfl|rfl
  .have I:gu t n (ldW W) (sv S):=h.i;exact gu.off I hs (by rw[H];simp)
  .have I:dG t n (ldW W) (sv S):=h.i;exact dG.off I hs (by rw[H];rfl) (.inl ⟨O,by rw[H];rfl⟩)
  .obtain⟨v,I⟩:∃v,dW t m n (ldW W) (sv S) v:=h.i;exact⟨v,I.off hs (by rw[H];rfl) (.inl ⟨O,by rw[H];rfl⟩)⟩
  .exact McA.beg (show McA n _ _ _ (sv S)from h.i) hi hs (.inr ⟨O,by rw[H];rfl⟩)
  .obtain⟨e,I⟩:∃e,ClA n (ldW W t) (fC t n (ldW W)) (sv S) e:=h.i;exact⟨e,I.put hi hs (by rw[H];rfl) (λ_ _=>rfl) (λhc=>by rw[H]at hc;simp at hc) (.inl ⟨by omega,by rw[H];show(1:Int)<3;decide⟩)⟩
 .have e:askK k (sv S i)=sv S i:=by unfold askK;rw[if_neg O]
  rw[e,E8 h hi];exact h.i
def cj.leave{W:List Int}{S:List Sp}(h:cj k t m n W S)(Y:1<=k/\k<=5){i:Nat}(hi:i<n):cj k t m n W (S.set i (bm (sv S i))):=by
 refine⟨by rw[List.length_set];exact h.len,h.m1,h.t1,h.t2,?_⟩;by_cases O:(sv S i).pc=10
 .have hs:=svS (S:=S) (i:=i) (by rw[h.len];exact hi) (bm (sv S i));have I:bm (sv S i)={(sv S i)with pc:=11}:=by unfold bm;rw[if_pos O]
  have V:k=1\/k=2\/k=3\/k=4\/k=5:=by omega
  rcases V with rfl|rfl|rfl|rfl|rfl
  .have H:gu t n (ldW W) (sv S):=h.i;exact gu.off H hs (by rw[I];intro _;exact .inl O)
  .have H:dG t n (ldW W) (sv S):=h.i;exact dG.off H hs (by rw[I]) (.inr (.inl ⟨O,by rw[I]⟩))
  .obtain⟨v,H⟩:∃v,dW t m n (ldW W) (sv S) v:=h.i;exact⟨v,H.off hs (by rw[I]) (.inr (.inl ⟨O,by rw[I]⟩))⟩
  .exact McA.beg (show McA n _ _ _ (sv S)from h.i) hi hs (.inl ⟨O,by rw[I]⟩)
  .obtain⟨e,H⟩:∃e,ClA n (ldW W t) (fC t n (ldW W)) (sv S) e:=h.i;exact⟨e,H.put hi hs (by rw[I]) (λ_ _=>rfl) (λ_=>H.f1 i hi ahp) (.inr ⟨by omega,by rw[I];show(3:Int)<=11;decide,by rw[I],λ_=>H.h10 i hi ahp⟩)⟩
 .have e:bm (sv S i)=sv S i:=by unfold bm;rw[if_neg O]
  rw[e,E8 h hi];exact h.i
def pW(k:Nat)(t m:Int)(n:Nat)(W W':List Int)(S:List Sp)(i:Nat)(p:Sp):Prop:=rX k t m n (ldW W') (sv (S.set i p))/\∀y,¬(t<=y/\y<t+szI k n m)->ldW W' y=ldW W y
def Bz{W:List Int}{S:List Sp}(h:cj k t m n W S)(h1:t<=x)(H:x<t+szI k n m):inR W x=true:=aR.2 (by have:=h.t1;have:=h.t2;omega)
def iy{W:List Int}{S:List Sp}(h:cj k t m n W S)(h1:t<=x)(H:x<t+szI k n m)(v:Int):(∀y,ldW (stW W x v) y=if y=x then v else ldW W y)/\∀y,¬(t<=y/\y<t+szI k n m)->ldW (stW W x v) y=ldW W y:=by have e:=λy=>gj (Bz h h1 H) v y;exact⟨e,λy I=>by rw[e,if_neg (by rintro rfl;exact I ⟨h1,H⟩)]⟩
end
section
variable{n:Nat}{s:Ar}{S:List Sp}
def jW{i:Nat}(hi:i<S.length){k:Nat}(h:rX k t m n f (sv S)):rX k t m n f (sv (S.set i (sv S i))):=by
 have H:sv (S.set i (sv S i))=sv S:=by
  funext j;rw[svS hi];split;.rename_i e3;rw[e3]
  .rfl
 rw[H];exact h
def Ho(h:cj 1 t m n s.W S){i:Nat}(hi:i<n):pW 1 t m n s.W (wE t m s i (sv S i)).1.W S i (wE t m s i (sv S i)).2:=by
 have hl:i<S.length:=by rw[h.len];exact hi
 have V:gu t n (ldW s.W) (sv S):=h.i;have Y:t<t+szI 1 n m:=by unfold szI;rw[if_pos rfl];omega
 have O:=Bz h (Int.le_refl t) Y;unfold wE;split
 .rename_i JU;have hw:=iy h (Int.le_refl t) Y ((i:Int)+1);have H:=gO s t 0 ((i:Int)+1);by_cases h0:ldW s.W t=0;.have I:cB s t 0=true:=(by unfold cB;rw[O,h0];rfl);rw[I]at H ⊢;rw[if_pos rfl]at H ⊢;refine⟨?_,by show ∀y,_->ldW (dU _ _ _ _).W y=_;rw[H];exact hw.2⟩;show gu t n (ldW (dU s t 0 ((i:Int)+1)).W) _;rw[H];exact V.get (svS hl _) hw.1 h0
  .have I:cB s t 0=false:=(by unfold cB;rw[O];simp[h0]);rw[I]at H ⊢;rw[if_neg ahr]at H ⊢;refine⟨?_,by show ∀y,_->ldW (dU _ _ _ _).W y=_;rw[H];exact λ_ _=>rfl⟩;show gu t n (ldW (dU s t 0 ((i:Int)+1)).W) _;rw[H];exact V.off (svS hl _) ahq
 split;.refine⟨?_,λ_ _=>rfl⟩;exact gu.off V (svS hl _) (by simp only;split<;>simp)
 split;.rename_i Oh;have hw:=iy h (Int.le_refl t) Y 0;refine⟨?_,by show ∀y,_->ldW (ae _ _ _).W y=_;rw[ay];exact hw.2⟩;show gu t n (ldW (ae s t 0).W) _;rw[ay];exact V.put hi (svS hl _) hw.1 Oh rfl
 .exact aaZ
def FP(h:cj 2 t m n s.W S){B:Int}(hW:WdB B s)(Y:0<=B)(KD:B<=10000000000000){i:Nat}(hi:i<n):pW 2 t m n s.W (pC t s (sv S i)).1.W S i (pC t s (sv S i)).2:=by
 have hl:i<S.length:=by rw[h.len];exact hi
 have H:dG t n (ldW s.W) (sv S):=h.i;have hz:szI 2 n m=2:=rfl;unfold pC;split;.have hw:=iy h (Int.le_refl t) ahK (ldW s.W t+1);have OU:=hW.ld Y t;refine⟨?_,by show ∀y,_->ldW (addA _ _ _).W y=_;rw[dX,IntWalk.i64_in _ ahp];exact hw.2⟩;show dG t n (ldW (addA s t 1).W) _;rw[dX,IntWalk.i64_in _ ahp];exact H.take (svS hl _) rfl rfl hw.1
 split
 .rename_i O;refine⟨?_,by show ∀y,_->ldW (af _ _).W y=_;rw[aP];exact λ_ _=>rfl⟩;show dG t n (ldW (af s (t+1)).W) _;rw[aP];by_cases I:ldW s.W (t+1)=(sv S i).a;.exact H.enter hi (svS hl _) O (by simp[I]) rfl I
  .exact H.off (svS hl _) rfl (.inr (.inr (by simp[I,O])))
 split;.rename_i V;have hw:=iy h (show t<=t+1 by omega) ahK ((sv S i).a+1);refine⟨?_,by show ∀y,_->ldW (ae _ _ _).W y=_;rw[ay];exact hw.2⟩;show dG t n (ldW (ae s (t+1) _).W) _;rw[ay];exact H.put hi (svS hl _) V rfl hw.1
 .exact aaZ
def FO(h:cj 3 t m n s.W S){B:Int}(hW:WdB B s)(Y:0<=B)(KD:B<=10000000000000){i:Nat}(hi:i<n):pW 3 t m n s.W (oY t m s (sv S i)).1.W S i (oY t m s (sv S i)).2:=by
 have hl:i<S.length:=by rw[h.len];exact hi
 obtain⟨v,H⟩:∃v,dW t m n (ldW s.W) (sv S) v:=h.i;have hm:=h.m1;have hz:szI 3 n m=1+m:=rfl;unfold oY;split;.have hw:=iy h (Int.le_refl t) ahK (ldW s.W t+1);have OU:=hW.ld Y t;refine⟨?_,by show ∀y,_->ldW (addA _ _ _).W y=_;rw[dX,IntWalk.i64_in _ ahp];exact hw.2⟩;show ∃v,dW t m n (ldW (addA s t 1).W) _ v;rw[dX,IntWalk.i64_in _ ahp];exact⟨v,H.take hm (svS hl _) rfl rfl hw.1⟩
 split
 .rename_i O;refine⟨?_,by show ∀y,_->ldW (af _ _).W y=_;rw[aP];exact λ_ _=>rfl⟩;show ∃v,dW t m n (ldW (af s _).W) _ v;rw[aP];by_cases I:ldW s.W (pPl t m (sv S i).a)=(sv S i).a+1;.exact⟨v,H.enter hm hi (svS hl _) O (by simp[I]) rfl I⟩
  .exact⟨v,H.off (svS hl _) rfl (.inr (.inr (by simp[I,O])))⟩
 split;.rename_i V;have hp:=xA t hm ((sv S i).a+1);have hw:=iy h (show t<=pPl t m ((sv S i).a+1)by omega) ahK ((sv S i).a+2);refine⟨?_,by show ∀y,_->ldW (ae _ _ _).W y=_;rw[ay];exact hw.2⟩;show ∃v,dW t m n (ldW (ae s _ _).W) _ v;rw[ay];exact⟨v+1,H.put hm hi (svS hl _) V rfl hw.1⟩
 .exact aaZ
def Hi(h:cj 5 t m n s.W S){i:Nat}(hi:i<n):pW 5 t m n s.W (uJ t s (sv S i)).1.W S i (uJ t s (sv S i)).2:=by
 have hl:i<S.length:=by rw[h.len];exact hi
 obtain⟨e,H⟩:∃e,ClA n (ldW s.W t) (fC t n (ldW s.W)) (sv S) e:=h.i;have hz:szI 5 n m=(n:Int)+2:=rfl;have ha:=H.a0 i hi;unfold uJ;split;.rename_i h1;have hw:=iy h (show t<=t+(sv S i).a by omega) ahK 1;have O:=EX hw.1 ha;refine⟨?_,by show ∀y,_->ldW (ae _ _ _).W y=_;rw[ay];exact hw.2⟩;show ∃e,ClA n (ldW (ae s _ _).W t) (fC t n (ldW (ae s _ _).W)) _ e;rw[ay,O.1,O.2];exact⟨e,H.put hi (svS hl _) rfl (λy hy=>eu _ hy) (λ_=>gI _ _ _) (.inl ⟨by omega,by show(2:Int)<3;decide⟩)⟩
 split;.rename_i h2;have hw:=iy h (Int.le_refl t) ahK (sv S i).a;have O:=FM (n:=n) hw.1;refine⟨?_,by show ∀y,_->ldW (ch _ _ _).W y=_;rw[dN];exact hw.2⟩;show ∃e,ClA n (ldW (ch s _ _).W t) (fC t n (ldW (ch s _ _).W)) _ e;rw[dN,O.1,O.2];exact⟨e,H.swap hi (svS hl _) h2 rfl rfl rfl⟩
 split
 .rename_i Y;refine⟨?_,by show ∀y,_->ldW (af _ _).W y=_;rw[aP];exact λ_ _=>rfl⟩;show ∃e,ClA n (ldW (af s _).W t) (fC t n (ldW (af s _).W)) _ e;rw[aP];have hq:=H.bq i hi ahp;have I:1<=(sv S i).b/\(sv S i).b<=(n:Int)+1:=hq.elim (λh=>by rw[h];exact H.e0) fun⟨j,hj,h,_⟩=>by rw[h];exact H.a0 j hj
  have hC:fC t n (ldW s.W) (sv S i).b=ldW s.W (t+(sv S i).b):=if_pos I;by_cases V:ldW s.W (t+(sv S i).b)=0;.exact⟨e,H.put hi (svS hl _) rfl (λ_ _=>rfl) (λ_=>H.f1 i hi ahp) (.inr ⟨by omega,by simp[V],rfl,λ_=>hq.elim id fun⟨j,hj,h,Y⟩=>absurd (H.f1 j hj ahp) (by rw[<-h,hC,V];decide)⟩)⟩
  .have:({(sv S i)with pc:=if ldW s.W (t+(sv S i).b)=0 then 10 else 3}:Sp)=sv S i:=(by rw[if_neg V,<-Y]);rw[this];exact jW (k:=5) (m:=m) hl h.i
 split;.rename_i Oh;have hw:=iy h (show t<=t+(sv S i).a by omega) ahK 0;have O:=EX hw.1 ha;refine⟨?_,by show ∀y,_->ldW (ae _ _ _).W y=_;rw[ay];exact hw.2⟩;show ∃e,ClA n (ldW (ae s _ _).W t) (fC t n (ldW (ae s _ _).W)) _ e;rw[ay,O.1,O.2];exact⟨_,H.o hi (svS hl {(sv S i)with a:=(sv S i).b,pc:=0}) ahp rfl rfl rfl⟩
 .exact aaZ
def Hn(h:cj 4 t m n s.W S){i:Nat}(hi:i<n)(hc:iQ (sv S i)):pW 4 t m n s.W (mr t s i (sv S i)).1.W S i (mr t s i (sv S i)).2:=by have hz:szI 4 n m=1+2*(n:Int):=rfl;obtain⟨H,I⟩:=McA.go (show McA n _ _ _ _ from h.i) hi h.len (λx v h1 V=>(iy h h1 ahK v).1) (Bz h (Int.le_refl t) ahK) rfl hc rfl;exact⟨H,λy O=>I y (by rw[hz]at O;omega)⟩
def cj.step{k:Nat}(h:cj k t m n s.W S)(hk:1<=k/\k<=5){B:Int}(O:WdB B s)(I:0<=B)(H:B<=10000000000000){i:Nat}(hi:i<n)(hc:pcK k (sv S i)):cj k t m n (bK k t m s i (sv S i)).1.W (S.set i (bK k t m s i (sv S i)).2)/\∀y,¬(t<=y/\y<t+szI k n m)->ldW (bK k t m s i (sv S i)).1.W y=ldW s.W y:=by
  have Y:=(cZ k t m s i (sv S i)).2
  have key:pW k t m n s.W (bK k t m s i (sv S i)).1.W S i (bK k t m s i (sv S i)).2:=by
    have V:k=1\/k=2\/k=3\/k=4\/k=5:=(by omega);rcases V with rfl|rfl|rfl|rfl|rfl
    . exact Ho h hi
    . exact FP h O I H hi
    . exact FO h O I H hi
    . exact Hn h hi hc
    . exact Hi h hi
  exact⟨⟨by rw[List.length_set];exact h.len,h.m1,h.t1,by rw[Y];exact h.t2,key.1⟩,key.2⟩
end
end
section
open Go
variable{p g p':Sp}{W':List Int}
def cO(p:Sp):Prop:=p.pc=3\/p.pc=4\/(10<=p.pc/\p.pc<=15)
def StP(p g:Sp)(v:Int):Prop:=
 (p.pc=3->(0<g.pc/\g.pc<10)/\¬0<v)/\(p.pc=4->g.pc=10/\¬0<v)/\(10<=p.pc/\p.pc<=14->g.pc=10)/\(p.pc=13->1<=p.a)/\(p.pc=15->10<g.pc/\¬0<v)
def FrP(g:Sp)(v:Int):Prop:=g.pc=if 0<v then 10 else 0
structure cD(c:CoC)(n N:Nat)(ml:Nat->Nat):Prop where
 k:(1<=c.kg/\c.kg<=5)/\1<=c.kl/\c.kl<=5
 inj:Inj c n
 nd:∀i,i<n->c.node i<N/\c.slot i<ml (c.node i)
 cw:∀a,a<N->c.cw a=c.tl a+szI c.kl (ml a) c.m
 gl:∀a,a<N->c.tg+szI c.kg N c.m<=c.tl a
 sz:∀a,a<N->0<=szI c.kl (ml a) c.m
 ap:∀a b,a<N->b<N->a≠b->c.cw a<c.tl b\/c.cw b<c.tl a
structure CoM(c:CoC)(n N:Nat)(ml:Nat->Nat)(st:Co):Prop where
 fG:cj c.kg c.tg c.m N st.s.W st.G
 fL:∀a,a<N->cj c.kl (c.tl a) c.m (ml a) st.s.W (st.L.getD a [])
 lL:st.L.length=N
 lW:∀a,a<N->1<=c.cw a/\c.cw a<=st.s.W.length
 v:CoV c n st
 sj:∀j,j<n->StP (sv st.T j) (sv st.G (c.node j)) (ldW st.s.W (c.cw (c.node j)))
 fr:∀a,a<N->(∀j,j<n->c.node j=a->¬cO (sv st.T j))->FrP (sv st.G a) (ldW st.s.W (c.cw a))
section
variable{c:CoC}{n N:Nat}{ml:Nat->Nat}{st C':Co}
def jS{v:Int}(h:¬cO p):StP p g v:=by unfold cO at h;refine⟨?_,?_,?_,?_,?_⟩<;>intro hc<;>omega
def CoM.uniq(h:CoM c n N ml st)(y:cD c n N ml){i:Nat}(hi:i<n)(H:j<n)(I:c.node i=c.node j)(h1:(lsp st.L (c.node i) (c.slot i)).pc=10)(O:cO (sv st.T j)):i=j:=by
 have hk:=h.v.k j H;have V:(lsp st.L (c.node j) (c.slot j)).pc=10:=by unfold dm at hk;unfold cO at O;omega
 have Y:=(y.nd i hi).1;have e:=(h.fL _ Y).one y.k.2 (i:=c.slot i) (j:=c.slot j) (y.nd i hi).2 (by rw[I];exact(y.nd j H).2) h1 (by rw[I];exact V);exact y.inj i j hi H I e
def CoM.one(h:CoM c n N ml st)(y:cD c n N ml){i:Nat}(hi:i<n)(H:j<n)(h1:10<=(sv st.T i).pc/\(sv st.T i).pc<=14)(V:10<=(sv st.T j).pc/\(sv st.T j).pc<=14):i=j:=by have I:=(h.sj i hi).2.2.1 h1;have O:=(h.sj j H).2.2.1 V;have hn:=h.fG.one y.k.1 (y.nd i hi).1 (y.nd j H).1 I O;have Y:=h.v.k i hi;exact h.uniq y hi H hn (by unfold dm at Y;omega) (by unfold cO;omega)
def CoM.updA(h:CoM c n N ml st){i:Nat}(hi:i<n)(I:¬cO (sv st.T i))(V:¬cO p')(hT:C'.T=st.T.set i p')(Y:C'.G=st.G)(hc:∀a,a<N->ldW C'.s.W (c.cw a)=ldW st.s.W (c.cw a))(hN:∀j,j<n->c.node j<N)(hl:C'.s.W.length=st.s.W.length)(fG:cj c.kg c.tg c.m N C'.s.W C'.G)(fL:∀a,a<N->cj c.kl (c.tl a) c.m (ml a) C'.s.W (C'.L.getD a []))(lL:C'.L.length=N)(v:CoV c n C'):CoM c n N ml C':=by
  have NX:i<st.T.length:=by have:=h.v.lT;omega
  have hs:=svS NX p';refine⟨fG,fL,lL,λa H=>by rw[hl];exact h.lW a H,v,λj O=>?_,λa H hf=>?_⟩
  . rw[hT,hs,Y,hc _ (hN j O)];split;. exact jS V
    . exact h.sj j O
  . rw[Y,hc a H];refine h.fr a H (λj O Q0=>?_);have:=hf j O Q0;rw[hT,hs]at this;split at this;. rename_i e;rw[e];exact I
    . exact this
def CoM.updB(h:CoM c n N ml st)(y:cD c n N ml){i:Nat}(hi:i<n)(h10:(lsp st.L (c.node i) (c.slot i)).pc=10)(Y:C'.T=st.T.set i p')(hG:∀a,a≠c.node i->sv C'.G a=sv st.G a)(hc:∀a,a<N->a≠c.node i->ldW C'.s.W (c.cw a)=ldW st.s.W (c.cw a))(hS:StP p' (sv C'.G (c.node i)) (ldW C'.s.W (c.cw (c.node i))))(hF:¬cO p'->FrP (sv C'.G (c.node i)) (ldW C'.s.W (c.cw (c.node i))))(hl:C'.s.W.length=st.s.W.length)(fG:cj c.kg c.tg c.m N C'.s.W C'.G)(fL:∀a,a<N->cj c.kl (c.tl a) c.m (ml a) C'.s.W (C'.L.getD a []))(lL:C'.L.length=N)(v:CoV c n C'):CoM c n N ml C':=by
  have NX:i<st.T.length:=by have:=h.v.lT;omega
  have hs:=svS NX p';refine⟨fG,fL,lL,λa O=>by rw[hl];exact h.lW a O,v,λj H=>?_,λa O hf=>?_⟩
  . rw[Y,hs];split;. rename_i e;rw[e];exact hS
    . rename_i e;by_cases hn:c.node i=c.node j;. exact jS (λI=>e (h.uniq y hi H hn h10 I).symm)
      . rw[hG _ (λe=>hn e.symm),hc _ (y.nd j H).1 (λe=>hn e.symm)];exact h.sj j H
  . by_cases e:a=c.node i;. rw[e];refine hF ?_;have:=hf i hi e.symm;rw[Y,hs,if_pos rfl]at this;exact this
    . rw[hG a e,hc a O e];refine h.fr a O (λj H V=>?_);have:=hf j H V;rw[Y,hs]at this;split at this;. rename_i e2;rw[e2]at V;exact absurd V.symm e
      . exact this
def qd(L:List (List Sp))(a s:Nat)(p:Sp)(H:a<L.length)(b:Nat):(jI L a s p).getD b []=if b=a then(L.getD a []).set s p else L.getD b []:=by
 unfold jI;rw[List.getD_eq_getElem?_getD,List.getElem?_set];by_cases e:a=b;.subst e;rw[if_pos rfl,if_pos H,if_pos rfl];rfl
 .rw[if_neg e,if_neg (λh=>e h.symm),<-List.getD_eq_getElem?_getD]
def tZ(c:CoC)(st:Co)(i:Nat)(p:Sp):(setL c st i p).length=st.L.length:=(oK _ _ _ _ 0).2
def CoM.frL(h:CoM c n N ml st)(y:cD c n N ml)(H:a<N)(V:W'.length=st.s.W.length)(O:∀x,¬(c.tl a<=x/\x<c.tl a+szI c.kl (ml a) c.m)->ldW W' x=ldW st.s.W x):cj c.kg c.tg c.m N W' st.G/\(∀b,b<N->b≠a->cj c.kl (c.tl b) c.m (ml b) W' (st.L.getD b []))/\∀b,b<N->ldW W' (c.cw b)=ldW st.s.W (c.cw b):=by
  have g1:=y.gl a H;have c1:=y.cw a H;refine⟨h.fG.frame V (λx h1 h2=>O x ahp),λb I hn=>(h.fL b I).frame V (λx h1 h2=>O x ?_),λb I=>O _ ?_⟩;. have:=y.ap a b H I (λe=>hn e.symm);have c2:=y.cw b I;omega
  . by_cases e:b=a;. subst e;omega
    . have:=y.ap a b H I (λY=>e Y.symm);have c2:=y.cw b I;have s2:=y.sz b I;omega
def CoM.frG(h:CoM c n N ml st)(y:cD c n N ml)(O:W'.length=st.s.W.length)(H:∀x,¬(c.tg<=x/\x<c.tg+szI c.kg N c.m)->ldW W' x=ldW st.s.W x):(∀b,b<N->cj c.kl (c.tl b) c.m (ml b) W' (st.L.getD b []))/\∀b,b<N->ldW W' (c.cw b)=ldW st.s.W (c.cw b):=by refine⟨λb I=>(h.fL b I).frame O (λx h1 V=>H x (by have:=y.gl b I;omega)),λb I=>H _ (by have:=y.gl b I;have:=y.cw b I;have:=y.sz b I;omega)⟩
def CoM.frC(h:CoM c n N ml st)(y:cD c n N ml)(H:a<N)(u:Int):cj c.kg c.tg c.m N (stW st.s.W (c.cw a) u) st.G/\(∀b,b<N->cj c.kl (c.tl b) c.m (ml b) (stW st.s.W (c.cw a) u) (st.L.getD b []))/\(∀b,b<N->b≠a->ldW (stW st.s.W (c.cw a) u) (c.cw b)=ldW st.s.W (c.cw b))/\ldW (stW st.s.W (c.cw a) u) (c.cw a)=u:=by
  have hw:=gj (aR.2 (h.lW a H)) u;have g1:=y.gl a H;have c1:=y.cw a H;have s1:=y.sz a H
  refine⟨h.fG.frame (bJ _ _ _) (λx h1 V=>by rw[hw,if_neg ahp]),λb I=>(h.fL b I).frame (bJ _ _ _) (λx h1 V=>by
    rw[hw,if_neg];by_cases e:b=a;. subst e;omega
    . have:=y.ap a b H I (λO=>e O.symm);have:=y.cw b I
      omega),λb I Y=>by
    rw[hw,if_neg];have:=y.ap a b H I (λO=>Y O.symm);have:=y.cw b I;have:=y.sz b I
    omega,by rw[hw,if_pos rfl]⟩
def FrP.of{v:Int}(h:FrP g v):(0<v->g.pc=10)/\(¬0<v->g.pc=0):=by unfold FrP at h;exact⟨λO=>by rw[h,if_pos O],λO=>by rw[h,if_neg O]⟩
def CoM.setLL(h:CoM c n N ml st){i:Nat}(H:c.node i<N)(fL:∀b,b<N->cj c.kl (c.tl b) c.m (ml b) W' (st.L.getD b []))(O:cj c.kl (c.tl (c.node i)) c.m (ml (c.node i)) W' ((st.L.getD (c.node i) []).set (c.slot i) p)):∀b,b<N->cj c.kl (c.tl b) c.m (ml b) W' ((setL c st i p).getD b []):=λb I=>by
  unfold setL
  rw[qd _ _ _ _ (by rw[h.lL];exact H)]
  split
  . rename_i e;rw[e];exact O
  . exact fL b I
def BW(L:List (List Sp))(a s:Nat):lsp L a s=sv (L.getD a []) s:=rfl
def CoM.ask(h:CoM c n N ml st)(y:cD c n N ml){i:Nat}(hi:i<n):CoM c n N ml (bI c st i):=by
 have O:=xa h.v y.inj hi;unfold bI at O ⊢;split
 .rename_i I;rw[if_pos I]at O;have H:=y.nd i hi
  exact h.updA hi (p':={(sv st.T i)with pc:=1}) (by unfold cO;omega) ahV rfl rfl (λ_ _=>rfl) (λj V=>(y.nd j V).1) rfl h.fG
   (h.setLL H.1 h.fL (by rw[BW];exact(h.fL _ H.1).ask y.k.2 H.2)) (by show(setL c st i _).length=N;rw[tZ,h.lL]) O
 .exact h
def CoM.leave(h:CoM c n N ml st)(y:cD c n N ml){i:Nat}(hi:i<n):CoM c n N ml (aA st i):=by
 have O:=pZ h.v y.inj hi;unfold aA at O ⊢;split;.rename_i H;rw[if_pos H]at O;have V:=h.v.k i hi;have hs:=(h.sj i hi).2.2.1 ahp;exact h.updB y hi (p':={(sv st.T i)with pc:=11}) (by unfold dm at V;omega) rfl (λ_ _=>rfl) (λ_ _ _=>rfl) ⟨λe=>by simp at e,λe=>by simp at e,λ_=>hs,λe=>by simp at e,λe=>by simp at e⟩ (λI=>absurd (show cO {(sv st.T i)with pc:=11} from .inr (.inr ⟨by show(10:Int)<=11;decide,by show(11:Int)<=15;decide⟩)) I) rfl h.fG h.fL h.lL O
 .exact h
def CoM.step(h:CoM c n N ml st)(y:cD c n N ml){B:Int}(hB:CoB c B st)(Kd:1<=B)(Kj:B<=10000000000000){i:Nat}(hi:i<n):CoM c n N ml (am c st i):=by
 have O:=sB h.v y.inj y.k hi;have H:=y.nd i hi;have KF:=h.v.k i hi;have hq:=h.v.lpc hi;have hg:=h.v.gpc hi;have sL:=jU (t:=c.tl (c.node i)) (m:=c.m) (s:=st.s) (i:=(c.slot i:Int)) y.k.2 hq;have sG:=jU (t:=c.tg) (m:=c.m) (s:=st.s) (i:=(c.node i:Int)) y.k.1 hg;have NX:i<st.T.length:=by have:=h.v.lT;omega
 have M5:c.node i<st.G.length:=by rw[h.fG.len];exact H.1
 have Qz:∀q a,a≠c.node i->sv (st.G.set (c.node i) q) a=sv st.G a:=λq a e=>by rw[svS M5,if_neg e]
 have Qy:∀q,sv (st.G.set (c.node i) q) (c.node i)=q:=λq=>by rw[svS M5,if_pos rfl]
 have J0:=h.sj i hi;have Wf:¬cO (sv st.T i)->(lsp st.L (c.node i) (c.slot i)).pc=10->FrP (sv st.G (c.node i)) (ldW st.s.W (c.cw (c.node i))):=λI h10=>by refine h.fr _ H.1 (λj hj hn TM=>?_);have e:=h.uniq y hi hj hn.symm h10 TM;rw[<-e]at TM;exact I TM
 unfold am at O ⊢;split;.exact h
 rename_i E';rw[if_neg E']at O;obtain⟨p,hp⟩:=LE (sv st.T i);rw[<-hp]at KF E' O J0 Wf ⊢;have hc:p.pc=1\/p.pc=2\/p.pc=3\/p.pc=4\/p.pc=11\/p.pc=12\/p.pc=13\/p.pc=14\/p.pc=15\/p.pc=16:=by unfold dm at KF;omega
 have OO:¬cO p->¬cO (sv st.T i):=by rw[hp];exact id
 have LS:=(h.fL _ H.1).step y.k.2 hB.w ahp Kj H.2 hq;have LF:=h.frL y H.1 (cZ _ _ _ _ _ _).2 LS.2;have GS:=h.fG.step y.k.1 hB.w ahp Kj H.1 hg;have Y:=h.frG y (cZ _ _ _ _ _ _).2 GS.2;obtain⟨pc,u,b,z⟩:=p;simp only at hc;have LR:pc≠0->pc≠1->pc≠16->(lsp st.L (c.node i) (c.slot i)).pc=10:=λa0 a1 a2=>by unfold dm at KF;simp only at KF;omega
 have nl:=λb I=>(h.fL b I)
 have VC:∀b,b<N->cj c.kl (c.tl b) c.m (ml b) (stL c st i).1.W ((setL c st i (stL c st i).2).getD b []):=λb I=>by
  unfold setL;rw[qd _ _ _ _ (by rw[h.lL];exact H.1)];split;.rename_i e;rw[e];exact LS.1
  .rename_i e;exact LF.2.1 b I e
 have SN:∀q,(setL c st i q).length=N:=λq=>by rw[tZ,h.lL]
 rcases hc with rfl|rfl|rfl|rfl|rfl|rfl|rfl|rfl|rfl|rfl
 .rw[mv1]at O ⊢;refine h.updA (p':=if lK c st i then⟨2,u,b,z⟩else⟨1,u,b,z⟩) hi (OO ahV) ?_ rfl rfl LF.2.2 (λj hj=>(y.nd j hj).1) (cZ _ _ _ _ _ _).2 LF.1 VC (SN _) O;unfold cO;split<;>simp
 .have h10:=LR ahr ahr ahr;have hF:=(Wf ahV h10).of;rw[mv2]at O ⊢;split;.rename_i L7;rw[if_pos L7]at O;refine h.updB y (p':=⟨10,ldW st.s.W (c.cw (c.node i)),b,z⟩) hi h10 rfl (λ_ _=>rfl) (λa _ _=>by show ldW (af _ _).W _=_;rw[aP]) ?_ (λI=>absurd (show cO _ from .inr (.inr ⟨by show(10:Int)<=10;decide,by show(10:Int)<=15;decide⟩)) I) aig (by show cj _ _ _ _ (af _ _).W _;rw[aP];exact h.fG) (λb I=>by show cj _ _ _ _ (af _ _).W _;rw[aP];exact h.fL b I) h.lL O;exact⟨λe=>by simp at e,λe=>by simp at e,λ_=>hF.1 L7,λe=>by simp at e,λe=>by simp at e⟩
  .rename_i L7;rw[if_neg L7]at O;have g0:=hF.2 L7;refine h.updB y (p':=⟨3,ldW st.s.W (c.cw (c.node i)),b,z⟩) hi h10 rfl (λa e=>Qz _ a e) (λa _ _=>by show ldW (af _ _).W _=_;rw[aP]) ?_ (λI=>absurd (show cO _ from .inl rfl) I) aig (by show cj _ _ _ _ (af _ _).W _;rw[aP];exact h.fG.ask y.k.1 H.1) (λb I=>by show cj _ _ _ _ (af _ _).W _;rw[aP];exact h.fL b I) h.lL O;refine⟨λ_=>⟨?_,?_⟩,λe=>by simp at e,λe=>by simp at e,λe=>by simp at e,λe=>by simp at e⟩;.show 0<(sv (st.G.set (c.node i) (askK c.kg (sv st.G (c.node i)))) (c.node i)).pc/\(sv (st.G.set (c.node i) (askK c.kg (sv st.G (c.node i)))) (c.node i)).pc<10;rw[Qy,mV g0];decide
   .show ¬0<ldW (af _ _).W _;rw[aP];exact L7
 .have h10:=LR ahr ahr ahr;have KI:=J0.1 rfl;have s2:=sG.2.1 KI.1.1 KI.1.2;have ec:nJ c st i=decide ((stG c st i).2.pc=10):=qG KI.1.1 KI.1.2 s2.1;rw[mv3]at O ⊢;refine h.updB y (p':=if nJ c st i then⟨4,u,b,z⟩else⟨3,u,b,z⟩) hi h10 rfl (λa e=>Qz _ a e) (λa V _=>Y.2 a V) ?_ ?_ (cZ _ _ _ _ _ _).2 GS.1 Y.1 h.lL O
  .show StP _ (sv (st.G.set (c.node i) (stG c st i).2) (c.node i)) (ldW (stG c st i).1.W (c.cw (c.node i)));rw[Qy,show ldW (stG c st i).1.W (c.cw (c.node i))=_ from Y.2 _ H.1];split;.rename_i e;rw[ec]at e;have e':(stG c st i).2.pc=10:=(by simpa using e);exact⟨λe=>by simp at e,λ_=>⟨e',KI.2⟩,λe=>by simp at e,λe=>by simp at e,λe=>by simp at e⟩
   .rename_i e;rw[ec]at e;have e':¬(stG c st i).2.pc=10:=(by simpa using e);refine⟨λ_=>⟨⟨s2.1,?_⟩,KI.2⟩,λe=>by simp at e,λe=>by simp at e,λe=>by simp at e,λe=>by simp at e⟩;have:=s2.2;show(stG c st i).2.pc<10;unfold stG at *;omega
  .intro I;exfalso;apply I;unfold cO;split<;>simp
 .have h10:=LR ahr ahr ahr;have LU:=J0.2.1 rfl;have CF:=h.frC y H.1 1;rw[mv4]at O ⊢;refine h.updB y (p':=⟨10,1,b,z⟩) hi h10 rfl (λ_ _=>rfl) (λa V e=>by show ldW (ae _ _ _).W _=_;rw[ay];exact CF.2.2.1 a V e) ?_ (λI=>absurd (show cO _ from .inr (.inr ⟨by show(10:Int)<=10;decide,by show(10:Int)<=15;decide⟩)) I) aih (by show cj _ _ _ _ (ae _ _ _).W _;rw[ay];exact CF.1) (λb I=>by show cj _ _ _ _ (ae _ _ _).W _;rw[ay];exact CF.2.1 b I) h.lL O;exact⟨λe=>by simp at e,λe=>by simp at e,λ_=>LU.1,λe=>by simp at e,λe=>by simp at e⟩
 .have h10:=LR ahr ahr ahr;have hs:=J0.2.2.1 ahq;rw[F2]at O ⊢;refine h.updB y (p':=⟨if c.bud<ldW st.s.W (c.cw (c.node i))then 14 else 12,ldW st.s.W (c.cw (c.node i)),b,z⟩) hi h10 rfl (λ_ _=>rfl) (λa _ _=>by show ldW (af _ _).W _=_;rw[aP]) ?_ ?_ aig (by show cj _ _ _ _ (af _ _).W _;rw[aP];exact h.fG) (λb I=>by show cj _ _ _ _ (af _ _).W _;rw[aP];exact h.fL b I) h.lL O;.refine⟨λe=>?_,λe=>?_,λ_=>hs,λe=>?_,λe=>?_⟩<;>(simp only at e;split at e<;>omega)
  .intro I;exfalso;apply I;unfold cO;simp only;split<;>simp
 .have h10:=LR ahr ahr ahr;have hs:=J0.2.2.1 ahq;rw[F3]at O ⊢;have Ns:(cy c.kl (c.tl (c.node i)) st.s (c.slot i) (lsp st.L (c.node i) (c.slot i))).1.W=st.s.W:=by unfold cy;(repeat' split)<;>first|rfl|exact aP _ _
  refine h.updB y (p':=⟨if mJ u c.bud (cy c.kl (c.tl (c.node i)) st.s (c.slot i) (lsp st.L (c.node i) (c.slot i))).2 then 13 else 14,u,b,z⟩) hi h10 rfl (λ_ _=>rfl) (λa _ _=>by show ldW (cy _ _ _ _ _).1.W _=_;rw[Ns]) ?_ ?_ (by show(cy _ _ _ _ _).1.W.length=_;rw[Ns]) (by show cj _ _ _ _ (cy _ _ _ _ _).1.W _;rw[Ns];exact h.fG) (λb I=>by show cj _ _ _ _ (cy _ _ _ _ _).1.W _;rw[Ns];exact h.fL b I) h.lL O
  .refine⟨λe=>?_,λe=>?_,λ_=>hs,λe=>?_,λe=>?_⟩;.simp only at e;split at e<;>omega
   .simp only at e;split at e<;>omega
   .simp only at e;split at e;.rename_i Ul;unfold mJ at Ul;simp only[Bool.and_eq_true,decide_eq_true_eq]at Ul;exact Ul.1.1
    .omega
   .simp only at e;split at e<;>omega
  .intro I;exfalso;apply I;unfold cO;simp only;split<;>simp
 .have h10:=LR ahr ahr ahr;have hs:=J0.2.2.1 ahq;have hu:=J0.2.2.2.1 rfl;have CF:=h.frC y H.1 (u+1);rw[F4]at O ⊢;refine h.updB y (p':=⟨16,u,b,z⟩) hi h10 rfl (λ_ _=>rfl) (λa V e=>by show ldW (ae _ _ _).W _=_;rw[ay];exact CF.2.2.1 a V e) (jS ahV) ?_ aih (by show cj _ _ _ _ (ae _ _ _).W _;rw[ay];exact CF.1) ?_ (SN _) O;.intro _;show FrP _ (ldW (ae _ _ _).W _);rw[ay,CF.2.2.2];unfold FrP;rw[if_pos (by simp only at hu;omega)];exact hs
  .show ∀b,b<N->cj _ _ _ _ (ae _ _ _).W _;rw[ay];exact h.setLL H.1 CF.2.1 (by rw[BW];exact(CF.2.1 _ H.1).leave y.k.2 H.2)
 .have h10:=LR ahr ahr ahr;have hs:=J0.2.2.1 ahq;have CF:=h.frC y H.1 0;rw[F5]at O ⊢;refine h.updB y (p':=⟨15,u,b,z⟩) hi h10 rfl (λa e=>Qz _ a e) (λa V e=>by show ldW (ae _ _ _).W _=_;rw[ay];exact CF.2.2.1 a V e) ?_ (λI=>absurd (show cO _ from .inr (.inr ⟨by show(10:Int)<=15;decide,by show(15:Int)<=15;decide⟩)) I) aih (by show cj _ _ _ _ (ae _ _ _).W _;rw[ay];exact CF.1.leave y.k.1 H.1) (λb I=>by show cj _ _ _ _ (ae _ _ _).W _;rw[ay];exact CF.2.1 b I) h.lL O;refine⟨λe=>by simp at e,λe=>by simp at e,λe=>by simp at e,λe=>by simp at e,λ_=>⟨?_,?_⟩⟩;.show 10<(sv (st.G.set (c.node i) (bm (sv st.G (c.node i)))) (c.node i)).pc;rw[Qy,mo hs];decide
  .show ¬0<ldW (ae _ _ _).W _;rw[ay,CF.2.2.2];decide
 .have h10:=LR ahr ahr ahr;have hs:=J0.2.2.2.2 rfl;have s2:=sG.2.2 hs.1;have ec:nJ c st i=decide ((stG c st i).2.pc=0):=nK hs.1 s2;rw[F6]at O ⊢;split;.rename_i e;rw[if_pos e]at O;rw[ec]at e;have e':(stG c st i).2.pc=0:=(by simpa using e);refine h.updB y (p':=⟨16,u,b,z⟩) hi h10 rfl (λa e=>Qz _ a e) (λa V _=>Y.2 a V) (jS ahV) ?_ (cZ _ _ _ _ _ _).2 GS.1 (h.setLL H.1 Y.1 (by rw[BW];exact(Y.1 _ H.1).leave y.k.2 H.2)) (SN _) O;intro _;show FrP (sv (st.G.set (c.node i) (stG c st i).2) (c.node i)) (ldW (stG c st i).1.W (c.cw (c.node i)));rw[Qy,show ldW (stG c st i).1.W (c.cw (c.node i))=_ from Y.2 _ H.1];unfold FrP;rw[if_neg hs.2];exact e'
  .rename_i e;rw[if_neg e]at O;rw[ec]at e;have e':¬(stG c st i).2.pc=0:=(by simpa using e);refine h.updB y (p':=⟨15,u,b,z⟩) hi h10 rfl (λa e=>Qz _ a e) (λa V _=>Y.2 a V) ?_ (λI=>absurd (show cO _ from .inr (.inr ⟨by show(10:Int)<=15;decide,by show(15:Int)<=15;decide⟩)) I) (cZ _ _ _ _ _ _).2 GS.1 Y.1 h.lL O;refine⟨λe=>by simp at e,λe=>by simp at e,λe=>by simp at e,λe=>by simp at e,λ_=>⟨?_,?_⟩⟩;.show 10<(sv (st.G.set (c.node i) (stG c st i).2) (c.node i)).pc;rw[Qy];unfold stG at *;omega
   .show ¬0<ldW (stG c st i).1.W (c.cw (c.node i));rw[show ldW (stG c st i).1.W (c.cw (c.node i))=_ from Y.2 _ H.1];exact hs.2
 .rw[F7]at O ⊢;refine h.updA (p':=if lK c st i then⟨0,u,b,z⟩else⟨16,u,b,z⟩) hi (OO ahV) ?_ rfl rfl LF.2.2 (λj hj=>(y.nd j hj).1) (cZ _ _ _ _ _ _).2 LF.1 VC (SN _) O;unfold cO;split<;>simp
end
end
section
open Go.RowKit
variable{w:World}{g:Nat}{s:Ar}
def pU(w:World)(a g k:Nat)(s:Ar)(n m:Nat)(e:Ending)(w':World):Prop:=
 ∃x:Fx,e= returned (tuple #[↑x.p,J 0])/\du w' a g k x (aF k s n m) (ba k n)/\(w.heap.size<=x.p/\w.heap.size<=x.l/\w.heap.size<=x.q/\x.n=n/\x.m=m/\x.t=s.W.length+1)/\aa [a,g] w w'
def DQ(h:aB w a g s)(n:Nat)(h1:1<=n)(h2:n<=32)(m:Nat)(ab:1<=m)(ad:m<=4)(V:s.W.length+szK 1 n m<=s.room)(Y:s.ops+1<=1000000000000):E 109 #[↑a,J 1,J n,J m] w (pU w a g 1 s n m):=by have H2:=qh (EM h n h1 h2 m ab ad (show s.W.length+(1)<=s.room from V));have HG:=qh (And.intro h.blk.lt h.wds.lt);clear h V Y;go_enter func109,ntmps109;go_wp2_with fail;refine H2.o.mono ?_;rintro en w1 ⟨x,rfl,H,I,e3⟩;have HE:=qh (And.intro H (And.intro I e3));clear H I e3;go_wp2;go_ret2;obtain⟨H,I,e3⟩:=HE.o;have hq:=H.sp.lt;have hs:=e3.size;have hg:=HG.o;have O:aa [] w1 (w1.alloc (cells #[J ((1:Nat):Int),ifV 1 x.l] 303)):=(aa.refl _ _).alloc _;exact⟨{x with p:=w1.heap.size},rfl,⟨Blk.new w1 303 #[J ((1:Nat):Int),ifV 1 x.l],⟨H.ar.turns O ahq ahq,O.blk H.lk ahq,H.sp.turns O ahq,H.n,H.la,H.lg,H.lq,H.qa,H.qg,H.n32,H.t0,H.t1,H.m0,H.m1,H.cap⟩,by show w1.heap.size≠a;omega,by show w1.heap.size≠g;omega,by show w1.heap.size≠x.q;omega⟩,⟨by show w.heap.size<=w1.heap.size;omega,I.1,I.2.1,I.2.2.1,I.2.2.2.1,I.2.2.2.2.1⟩,e3.alloc _⟩
def DR(h:aB w a g s)(n:Nat)(h1:1<=n)(h2:n<=32)(m:Nat)(ab:1<=m)(ad:m<=4)(V:s.W.length+szK 2 n m<=s.room)(Y:s.ops+1<=1000000000000):E 109 #[↑a,J 2,J n,J m] w (pU w a g 2 s n m):=by have H2:=qh (wF h n h1 h2 m ab ad (show s.W.length+(2)<=s.room from V));have HG:=qh (And.intro h.blk.lt h.wds.lt);clear h V Y;go_enter func109,ntmps109;go_wp2_with fail;refine H2.o.mono ?_;rintro en w1 ⟨x,rfl,H,I,e3⟩;have HE:=qh (And.intro H (And.intro I e3));clear H I e3;go_wp2;go_ret2;obtain⟨H,I,e3⟩:=HE.o;have hq:=H.sp.lt;have hs:=e3.size;have hg:=HG.o;have O:aa [] w1 (w1.alloc (cells #[J ((2:Nat):Int),ifV 2 x.l] 303)):=(aa.refl _ _).alloc _;exact⟨{x with p:=w1.heap.size},rfl,⟨Blk.new w1 303 #[J ((2:Nat):Int),ifV 2 x.l],⟨H.ar.turns O ahq ahq,O.blk H.lk ahq,H.sp.turns O ahq,H.n,H.la,H.lg,H.lq,H.qa,H.qg,H.n32,H.t0,H.t1,H.m0,H.m1,H.cap⟩,by show w1.heap.size≠a;omega,by show w1.heap.size≠g;omega,by show w1.heap.size≠x.q;omega⟩,⟨by show w.heap.size<=w1.heap.size;omega,I.1,I.2.1,I.2.2.1,I.2.2.2.1,I.2.2.2.2.1⟩,e3.alloc _⟩
def DS(h:aB w a g s)(n:Nat)(h1:1<=n)(h2:n<=32)(m:Nat)(ab:1<=m)(ad:m<=4)(V:s.W.length+szK 3 n m<=s.room)(Y:s.ops+1<=1000000000000):E 109 #[↑a,J 3,J n,J m] w (pU w a g 3 s n m):=by have H2:=qh (vH h n h1 h2 m ab ad (show s.W.length+(1+m)<=s.room from V) Y);have HG:=qh (And.intro h.blk.lt h.wds.lt);clear h V Y;go_enter func109,ntmps109;go_wp2_with fail;refine H2.o.mono ?_;rintro en w1 ⟨x,rfl,H,I,e3⟩;have HE:=qh (And.intro H (And.intro I e3));clear H I e3;go_wp2;go_ret2;obtain⟨H,I,e3⟩:=HE.o;have hq:=H.sp.lt;have hs:=e3.size;have hg:=HG.o;have O:aa [] w1 (w1.alloc (cells #[J ((3:Nat):Int),ifV 3 x.l] 303)):=(aa.refl _ _).alloc _;exact⟨{x with p:=w1.heap.size},rfl,⟨Blk.new w1 303 #[J ((3:Nat):Int),ifV 3 x.l],⟨H.ar.turns O ahq ahq,O.blk H.lk ahq,H.sp.turns O ahq,H.n,H.la,H.lg,H.lq,H.qa,H.qg,H.n32,H.t0,H.t1,H.m0,H.m1,H.cap⟩,by show w1.heap.size≠a;omega,by show w1.heap.size≠g;omega,by show w1.heap.size≠x.q;omega⟩,⟨by show w.heap.size<=w1.heap.size;omega,I.1,I.2.1,I.2.2.1,I.2.2.2.1,I.2.2.2.2.1⟩,e3.alloc _⟩
def DT(h:aB w a g s)(n:Nat)(h1:1<=n)(h2:n<=32)(m:Nat)(ab:1<=m)(ad:m<=4)(V:s.W.length+szK 4 n m<=s.room)(Y:s.ops+1<=1000000000000):E 109 #[↑a,J 4,J n,J m] w (pU w a g 4 s n m):=by have H2:=qh (Eg h n h1 h2 m ab ad (show s.W.length+(1+2*n)<=s.room from V));have HG:=qh (And.intro h.blk.lt h.wds.lt);clear h V Y;go_enter func109,ntmps109;go_wp2_with fail;refine H2.o.mono ?_;rintro en w1 ⟨x,rfl,H,I,e3⟩;have HE:=qh (And.intro H (And.intro I e3));clear H I e3;go_wp2;go_ret2;obtain⟨H,I,e3⟩:=HE.o;have hq:=H.sp.lt;have hs:=e3.size;have hg:=HG.o;have O:aa [] w1 (w1.alloc (cells #[J ((4:Nat):Int),ifV 4 x.l] 303)):=(aa.refl _ _).alloc _;exact⟨{x with p:=w1.heap.size},rfl,⟨Blk.new w1 303 #[J ((4:Nat):Int),ifV 4 x.l],⟨H.ar.turns O ahq ahq,O.blk H.lk ahq,H.sp.turns O ahq,H.n,H.la,H.lg,H.lq,H.qa,H.qg,H.n32,H.t0,H.t1,H.m0,H.m1,H.cap⟩,by show w1.heap.size≠a;omega,by show w1.heap.size≠g;omega,by show w1.heap.size≠x.q;omega⟩,⟨by show w.heap.size<=w1.heap.size;omega,I.1,I.2.1,I.2.2.1,I.2.2.2.1,I.2.2.2.2.1⟩,e3.alloc _⟩
def DU(h:aB w a g s)(n:Nat)(h1:1<=n)(h2:n<=32)(m:Nat)(ab:1<=m)(ad:m<=4)(V:s.W.length+szK 5 n m<=s.room)(Y:s.ops+1<=1000000000000):E 109 #[↑a,J 5,J n,J m] w (pU w a g 5 s n m):=by have H2:=qh (Dq h n h1 h2 m ab ad (show s.W.length+(n+2)<=s.room from V) Y);have HG:=qh (And.intro h.blk.lt h.wds.lt);clear h V Y;go_enter func109,ntmps109;go_wp2_with fail;refine H2.o.mono ?_;rintro en w1 ⟨x,rfl,H,I,e3⟩;have HE:=qh (And.intro H (And.intro I e3));clear H I e3;go_wp2;go_ret2;obtain⟨H,I,e3⟩:=HE.o;have hq:=H.sp.lt;have hs:=e3.size;have hg:=HG.o;have O:aa [] w1 (w1.alloc (cells #[J ((5:Nat):Int),ifV 5 x.l] 303)):=(aa.refl _ _).alloc _;exact⟨{x with p:=w1.heap.size},rfl,⟨Blk.new w1 303 #[J ((5:Nat):Int),ifV 5 x.l],⟨H.ar.turns O ahq ahq,O.blk H.lk ahq,H.sp.turns O ahq,H.n,H.la,H.lg,H.lq,H.qa,H.qg,H.n32,H.t0,H.t1,H.m0,H.m1,H.cap⟩,by show w1.heap.size≠a;omega,by show w1.heap.size≠g;omega,by show w1.heap.size≠x.q;omega⟩,⟨by show w.heap.size<=w1.heap.size;omega,I.1,I.2.1,I.2.2.1,I.2.2.2.1,I.2.2.2.2.1⟩,e3.alloc _⟩
def Bh(h:aB w a g s)(k:Nat)(hk:KOk k)(n:Nat)(h1:1<=n)(O:n<=32)(m:Nat)(H:1<=m)(I:m<=4)(V:s.W.length+szK k n m<=s.room)(Y:s.ops+1<=1000000000000):E 109 #[↑a,J (k:Int),J n,J m] w (pU w a g k s n m):=by
  rcases hk with rfl|rfl|rfl|rfl|rfl
  . exact DQ h n h1 O m H I V Y
  . exact DR h n h1 O m H I V Y
  . exact DS h n h1 O m H I V Y
  . exact DT h n h1 O m H I V Y
  . exact DU h n h1 O m H I V Y
end
section
open Go.RowKit
variable{y:Fx}{p' p:Sp}
structure Cox where
 l:Nat
 b:Nat
 qn:Nat
 qs:Nat
 n:Nat
 N:Nat
 capn:Nat
 par:Nat
 g:Fx
 X:List Fx
 W:List Nat
 o:Nat->Nat
def ndE(y:Fx×Nat):List Value:=[pointer (some ⟨y.1.p,0,none⟩),J y.2]
def xw(y:Fx×Nat):(ndE y).length=2:=rfl
structure xT(B:Nat->Prop)(a g:Nat)(x:Cox)(c:CoC)(P T:List Int):Prop where
 ck:a5 P T=0
 nT:x.n=T.length
 nN:x.N=(ac P).length
 lX:x.X.length=x.N
 lW:x.W.length=x.N
 cap:x.N<=x.capn
 cn:∀i,i<x.n->c.node i=gc P T i/\(c.slot i:Int)=cE T i
 tg:c.tg=x.g.t
 tl:∀(n:Nat) (y:Fx),x.X[n]? =some y->c.tl n=y.t/\(y.m:Int)=c.m
 gm:(x.g.m:Int)=c.m
 pm:(x.par:Int)=c.m
 cc:∀(n v:Nat),x.W[n]? =some v->c.cw n=v/\v<=5000
 kg:KOk c.kg
 kl:KOk c.kl
 bud:0<=c.bud/\c.bud<=1000
 par:1<=x.par/\x.par<=4
 ol:x.o x.l=1
 on:x.o x.qn=1
 os:x.o x.qs=2
 oa:x.o a=3
 og:x.o g=3
 oG:x.o x.g.p=4/\x.o x.g.l=4/\x.o x.g.q=4
 oL:∀(n:Nat) (y:Fx),x.X[n]? =some y->x.o y.p=5+n/\x.o y.l=5+n/\x.o y.q=5+n
 oB:∀i,B i->x.o i=0
structure aD(B:Nat->Prop)(w:World)(a g:Nat)(x:Cox)(c:CoC)(P T:List Int)(st:Co):Prop where
 fx:xT B a g x c P T
 ar:aB w a g st.s
 lk:Blk w x.l 240 (coC a x.b c.kg c.kl x.par c.bud ↑x.g.p (slice (some ⟨x.qn,0,none⟩) x.N x.capn) (slice (some ⟨x.qs,0,none⟩) x.n x.n))
 tb:dz B w x.b P T
 nd:∃Zz:List Value,Blk w x.qn 243 ((x.X.zip x.W).flatMap ndE++Zz).toArray
 sp:SpR w x.qs st.T
 gl:du w a g c.kg x.g st.s st.G
 lo:∀(n:Nat) (y:Fx) (S:List Sp),x.X[n]? =some y->st.L[n]? =some S->du w a g c.kl y st.s S
 lL:st.L.length=x.N
 lG:st.G.length=x.N
 lS:st.T.length=x.n
 sl:∀(i:Nat) (S:List Sp),i<x.n->st.L[c.node i]? =some S->c.slot i<S.length
section
variable{w:World}{g:Nat}{x:Cox}{c:CoC}{st:Co}{s':Ar}
def xT.n32(h:xT B a g x c P T):x.n<=32/\x.N<=32:=by
 have h1:=bi (aQ h.ck).1;have:=a6 P P.length;have H:=h.nT;have I:=h.nN;have:(ac P).length<=32:=by show(ak P P.length).length<=32;omega
 omega
def xT.node(h:xT B a g x c P T){i:Nat}(hi:i<x.n):c.node i<x.N/\(ao P T T.length)[i]? =some (c.node i:Int):=by
 have O:i<T.length:=by rw[<-h.nT];exact hi
 obtain⟨y,I⟩:=ai O;have hm:=jo (aQ h.ck).2.2.2 I;obtain⟨k,H⟩:=Int.eq_ofNat_of_zero_le ((eO (ac P) y).1.2 hm);have hg:=ni hm H;have e:c.node i=k:=by rw[(h.cn i hi).1];unfold gc;rw[bh I,H];rfl
 rw[e,h.nN];refine⟨(List.getElem?_eq_some_iff.1 hg).1,?_⟩;unfold ao;rw[List.take_length,List.getElem?_map,I];show some (fD (ac P) y)=_;rw[H]
def aD.loc(h:aD B w a g x c P T st){i:Nat}(hi:i<x.n):∃(y:Fx) (v:Nat) (S:List Sp),x.X[c.node i]? =some y/\x.W[c.node i]? =some v/\st.L[c.node i]? =some S/\c.slot i<S.length/\S[c.slot i]? =some (lsp st.L (c.node i) (c.slot i)):=by
 have I:=(h.fx.node hi).1;obtain⟨y,V⟩:=ai (show c.node i<x.X.length by rw[h.fx.lX];exact I);obtain⟨v,O⟩:=ai (show c.node i<x.W.length by rw[h.fx.lW];exact I);obtain⟨S,H⟩:=ai (show c.node i<st.L.length by rw[h.lL];exact I);have hs:=h.sl i S hi H;refine⟨y,v,S,V,O,H,hs,?_⟩;unfold lsp;have e:st.L.getD (c.node i) []=S:=by rw[List.getD_eq_getElem?_getD,H];rfl
 rw[e,List.getD_eq_getElem?_getD,List.getElem?_eq_getElem hs];rfl
def aD.glo(h:aD B w a g x c P T st){i:Nat}(hi:i<x.n):st.G[c.node i]? =some (sv st.G (c.node i)):=by
 have H:=(h.fx.node hi).1;have:c.node i<st.G.length:=by rw[h.lG];exact H
 exact aat
def aD.thr(h:aD B w a g x c P T st){i:Nat}(hi:i<x.n):st.T[i]? =some (sv st.T i):=by
 have:i<st.T.length:=by rw[h.lS];exact hi
 exact aat
def mw{o:Nat->Nat}{i u v:Nat}(hi:o i=u)(H:o j=v)(h:u≠v):i≠j:=λe=>h (by rw[<-hi,<-H,e])
def aD.turns0(h:aD B w a g x c P T st)(t:aa [] w w'):aD B w' a g x c P T st:=
  {h with ar:=h.ar.turns t ahq ahq,lk:=t.blk h.lk ahq,tb:=h.tb.turns t ahq,nd:=by obtain⟨H,z⟩:=h.nd;exact⟨H,t.blk z ahq⟩,
           sp:=h.sp.turns t ahq,gl:=h.gl.turns t ahq ahq ahq ahq ahq,lo:=λn y S O I=>(h.lo n y S O I).turns t ahq ahq ahq ahq ahq}
def aD.below(h:aD B w a g x c P T st)(t:Below w.heap.size w w'):aD B w' a g x c P T st:=h.turns0 (aa.of_below t)
def aD.rest(h:aD B w a g x c P T st)(t:aa S w w')(O:∀i∈S,2<=x.o i):Blk w' x.l 240 (coC a x.b c.kg c.kl x.par c.bud ↑x.g.p (slice (some ⟨x.qn,0,none⟩) x.N x.capn) (slice (some ⟨x.qs,0,none⟩) x.n x.n))/\
    dz B w' x.b P T/\∃H:List Value,Blk w' x.qn 243 ((x.X.zip x.W).flatMap ndE++H).toArray:=by obtain⟨H,z⟩:=h.nd;exact⟨t.blk h.lk (λk=>by have:=O _ k;rw[h.fx.ol]at this;omega),h.tb.turns t (λi hi I=>by have:=O i hi;rw[h.fx.oB i I]at this;omega),H,t.blk z (λk=>by have:=O _ k;rw[h.fx.on]at this;omega)⟩
def aD.cnt(h:aD B w a g x c P T st)(t:aa [a,g] w w')(I:aB w' a g s'):aD B w' a g x c P T {st with s:=s'}:=by
 obtain⟨h1,V,Y⟩:=h.rest t (by intro i hi;simp at hi;rcases hi with rfl|rfl<;>first|(rw[h.fx.oa];omega)|(rw[h.fx.og];omega));have n2:∀r u,x.o r=u->u≠3->r∉[a,g]:=λr u e O=>by simp only[List.mem_cons,List.not_mem_nil,or_false,not_or];exact⟨mw e h.fx.oa O,mw e h.fx.og O⟩
 exact⟨h.fx,I,h1,V,Y,h.sp.turns t (n2 _ _ h.fx.os ahr),h.gl.oth t I (n2 _ _ h.fx.oG.1 ahr) (n2 _ _ h.fx.oG.2.1 ahr) (n2 _ _ h.fx.oG.2.2 ahr),
  λn y S H hS=>(h.lo n y S H hS).oth t I (n2 _ _ (h.fx.oL n y H).1 ahp) (n2 _ _ (h.fx.oL n y H).2.1 ahp) (n2 _ _ (h.fx.oL n y H).2.2 ahp),h.lL,h.lG,h.lS,h.sl⟩
def IL{o:Nat->Nat}{g q r u v:Nat}(H:o a=3)(hg:o g=3)(I:o q=v)(e:o r=u)(h:u≠3)(O:u≠v):r∉[a,g,q]:=by simp only[List.mem_cons,List.not_mem_nil,or_false,not_or];exact⟨mw e H h,mw e hg h,mw e I O⟩
def aD.locOp(h:aD B w a g x c P T st){i:Nat}(hi:i<x.n)(hy:x.X[c.node i]? =some y)(t:aa [a,g,y.q] w w')(Y:du w' a g c.kl y s' ((st.L.getD (c.node i) []).set (c.slot i) p')):aD B w' a g x c P T {st with s:=s',L:=jI st.L (c.node i) (c.slot i) p'}:=by
  have hq:=(h.fx.oL _ y hy).2.2;obtain⟨h1,h2,h3⟩:=h.rest t aiz;have V:∀r u,x.o r=u->u≠3->u≠5+c.node i->r∉[a,g,y.q]:=λr u e hu O=>IL h.fx.oa h.fx.og hq e hu O
  refine⟨h.fx,Y.ki.ar,h1,h2,h3,h.sp.turns t (V _ _ h.fx.os ahr ahp),h.gl.oth t Y.ki.ar (V _ _ h.fx.oG.1 ahr ahp) (V _ _ h.fx.oG.2.1 ahr ahp) (V _ _ h.fx.oG.2.2 ahr ahp),
    λn z S I H=>?_,?_,h.lG,h.lS,λj S hj H=>?_⟩
  . unfold jI at H;simp only at H;rw[List.getElem?_set]at H;split at H
    . rename_i e;split at H;. simp only[Option.some.injEq]at H;subst e;rw[hy]at I;injection I with I;subst I;subst H;exact Y
      . cases H
    . rename_i e;have E':∀u,u=5+n->u≠5+c.node i:=(by omega);exact(h.lo n z S I H).oth t Y.ki.ar (V _ _ (h.fx.oL n z I).1 ahp (E' _ rfl)) (V _ _ (h.fx.oL n z I).2.1 ahp (E' _ rfl)) (V _ _ (h.fx.oL n z I).2.2 ahp (E' _ rfl))
  . show(jI _ _ _ _).length=_;unfold jI;rw[List.length_set];exact h.lL
  . unfold jI at H;simp only at H;rw[List.getElem?_set]at H;split at H
    . rename_i e;split at H;. simp only[Option.some.injEq]at H;subst H;rw[List.length_set];rename_i hl;have:=h.sl j (st.L.getD (c.node i) []) hj (by rw[<-e,List.getD_eq_getElem?_getD,List.getElem?_eq_getElem hl];rfl);exact this
      . cases H
    . exact h.sl j S hj H
def aD.gloOp(h:aD B w a g x c P T st){n:Nat}(t:aa [a,g,x.g.q] w w')(V:du w' a g c.kg x.g s' (st.G.set n p')):aD B w' a g x c P T {st with s:=s',G:=st.G.set n p'}:=by
  have hq:=h.fx.oG.2.2;obtain⟨h1,Y,h3⟩:=h.rest t aiz;have I:∀r u,x.o r=u->u≠3->u≠4->r∉[a,g,x.g.q]:=λr u e hu O=>IL h.fx.oa h.fx.og hq e hu O
  exact⟨h.fx,V.ki.ar,h1,Y,h3,h.sp.turns t (I _ _ h.fx.os ahr ahp),V,
    λn z S H hS=>(h.lo n z S H hS).oth t V.ki.ar (I _ _ (h.fx.oL n z H).1 ahp ahp) (I _ _ (h.fx.oL n z H).2.1 ahp ahp) (I _ _ (h.fx.oL n z H).2.2 ahp ahp),h.lL,by show(st.G.set n p').length=_;rw[List.length_set];exact h.lG,h.lS,h.sl⟩
def aD.put(h:aD B w a g x c P T st){i:Nat}(hp:st.T[i]? =some p)(hj:j<4)(he:(bf p).set j u=bf p'):aD B (w.setCell ⟨x.qs,i*4+j,none⟩ u) a g x c P T {st with T:=st.T.set i p'}:=by
  have t:aa [x.qs] w (w.setCell ⟨x.qs,i*4+j,none⟩ u):=aV _ _ _;obtain⟨h1,Y,h3⟩:=h.rest t (by intro i hi;simp at hi;subst hi;rw[h.fx.os];omega);have n1:∀r v,x.o r=v->v≠2->r∉[x.qs]:=λr v e O=>by simpa using mw e h.fx.os O
  have I:=n1 _ _ h.fx.oa ahr;have V:=n1 _ _ h.fx.og ahr
  exact⟨h.fx,h.ar.turns t I V,h1,Y,h3,h.sp.put hp hj he,h.gl.turns t (n1 _ _ h.fx.oG.1 ahr) (n1 _ _ h.fx.oG.2.1 ahr) I V (n1 _ _ h.fx.oG.2.2 ahr),
    λn z S H hS=>(h.lo n z S H hS).turns t (n1 _ _ (h.fx.oL n z H).1 ahp) (n1 _ _ (h.fx.oL n z H).2.1 ahp) I V (n1 _ _ (h.fx.oL n z H).2.2 ahp),h.lL,h.lG,by show(st.T.set i p').length=_;rw[List.length_set];exact h.lS,h.sl⟩
def aD.put0(h:aD B w a g x c P T st){i:Nat}(I:st.T[i]? =some p)(H:(bf p).set 0 u=bf p'):aD B (w.setCell ⟨x.qs,i*4,none⟩ u) a g x c P T {st with T:=st.T.set i p'}:=h.put I (j:=0) ahr H
def aD.row(h:aD B w a g x c P T st){n:Nat}{v:Nat}(V:x.X[n]? =some y)(O:x.W[n]? =some v):Z w x.qn (n*2) ↑y.p/\Z w x.qn (n*2+1) (J v):=by
  obtain⟨Y,z⟩:=h.nd;have I:(x.X.zip x.W)[n]? =some (y,v):=by rw[List.getElem?_zip_eq_some];exact⟨V,O⟩
  have c0:=cY ndE 2 xw _ n _ 0 ↑y.p I rfl;have c1:=cY ndE 2 xw _ n _ 1 (J v) I rfl;have l0:=(List.getElem?_eq_some_iff.1 c0).1;have l1:=(List.getElem?_eq_some_iff.1 c1).1;have e0:=z.cell (n*2);have H:=z.cell (n*2+1);simp only[List.getElem?_toArray]at e0 H;rw[List.getElem?_append_left (by simpa using l0),show n*2=n*2+0 from rfl,c0]at e0;rw[List.getElem?_append_left l1,c1]at H;exact⟨e0,H⟩
def lx{P:Program}{I:Func}{p u v:Tmp}{ty:TypeId}(h:I.results=#[.cell p ty,.tmp u,.tmp v])(H:Array Value)(w:World)(g:Nat)(t:TypeId)(cs:Array Value)(fr:Nat×Nat)(d:TypeDesc)(V:H.getD p undef= ↑g)(hg:w.heap[g]? =some (.cells cs t fr))(Y:P.underlying ty=some d)(hd:(match d with|.struct _|.array _ _=>true|_=>false)=true)(hi:(P.info? ty).map (·.size)=some cs.size):(results I H).run P w= .ok (tuple #[.agg cs,H.getD u undef,H.getD v undef]) w:=by
  have O:H[p]?.getD undef= ↑g:=by simpa using V
  simp[results,h,O,asAddr,run_loadVar_row w g t ty cs fr d hg Y hd hi]
def zy(h:aD B w a g x c P T st):E 238 #[↑x.l] w λe w'=>e= returned (J x.n)/\w=w':=by have H:Z w x.l 8 (slice (some ⟨x.qs,0,none⟩) x.n x.n):=h.lk.cell 8;clear h;go_enter func238,ntmps238;exact aab
def E0(h:aD B w a g x c P T st)(i:Nat)(hi:i<x.n):E 239 #[↑x.l,J i] w λe w'=>e= returned (bool true)/\w=w':=by
 have HT:=qh (zy h);have H:=h.fx.n32;have t1:(0:Int)<=i:=by omega
 have t2:(i:Int)<x.n:=by omega
 clear h;go_enter func239,ntmps239;exact aae
def mx(h:aD B w a g x c P T st)(i:Nat)(hi:i<x.n):E 236 #[↑x.l,J i] w λe w'=>e= returned (aC (sv st.T i))/\Below w.heap.size w w':=by
  have H:Kq (aD B (w.alloc (cells #[J 0,J 0,J 0,J 0] 113)) a g x c P T st):=qh (h.below ((Below.refl _ _).alloc (Nat.le_refl _) _));have hp:=h.thr hi;obtain⟨p,I⟩:=LE (sv st.T i);rw[<-I]at hp ⊢;have c8:Z w x.l 8 (slice (some ⟨x.qs,0,none⟩) x.n x.n):=h.lk.cell 8;refine aiM ?_;intro a0 a1 a2 a3;have O:=qh (E0 H.o i hi);have Y:=h.lk.lt;have V:=h.sp.lt;have t2:¬(i:Int)<0:=by omega
  clear h hp I;go_enter func236,ntmps236;go_wp2_with (go_at_call 239;refine O.o.mono ?_;rintro e w' ⟨rfl,rfl⟩);exact bodyPost_ret (results_cell_row aht _ _ w.heap.size 113 _ (0,0) _ aht (heap_alloc_new w _) Tryz.underlying113 rfl ahs) rfl ⟨rfl,(Below.refl _ _).alloc (Nat.le_refl _) _⟩
def oU(h:aD B w a g x c P T st)(i:Nat)(hi:i<x.n){v:Nat}(V:x.X[c.node i]? =some y)(O:x.W[c.node i]? =some v):E 240 #[↑x.l,J i] w λe w'=>e= returned (tuple #[agg #[↑y.p,J v],J (c.node i:Int),J (c.slot i:Int)])/\Below w.heap.size w w':=by
  have hn:=h.fx.n32;obtain⟨hN,I⟩:=h.fx.node hi;have hT:i<T.length:=by rw[<-h.fx.nT];exact hi
  have J6:=(h.fx.cn i hi).2;obtain⟨r0,r1⟩:=h.row V O;have b1:=(Below.refl w.heap.size w).alloc (Nat.le_refl _) (cells #[.pointer none,J 0] 243);have h1:=h.below b1;have c1:Z w x.l 1 ↑x.b:=h.lk.cell 1;have c7:Z w x.l 7 (slice (some ⟨x.qn,0,none⟩) x.N x.capn):=h.lk.cell 7;have HN:=qh (jN (w.alloc (cells #[.pointer none,J 0] 243)) x.b P T i hT h1.tb.f _ I);have Uq:=E5 (w.alloc (cells #[.pointer none,J 0] 243)).drew x.b P T i hT (h1.below (Below.drew (Below.refl _ _))).tb.f;rw[<-J6]at Uq;have HS:=qh Uq;have KO:=h.lk.lt;obtain⟨nd,H⟩:=LE (c.node i);rw[<-H]at hN r0 r1 HN ⊢;obtain⟨sl,hs⟩:=LE (c.slot i);rw[<-hs]at HS ⊢;have t1:(0:Int)<=(nd:Int):=by omega
  have t2:(nd:Int)<x.N:=by omega
  have t3:(nd:Int)<=x.N:=by omega
  have HB:=qh b1;have HK:Kq (∀o:Obj,(w.alloc o).drew.cell? ⟨x.l,1,none⟩=some ↑x.b/\(w.alloc o).drew.cell? ⟨x.l,7,none⟩=some (slice (some ⟨x.qn,0,none⟩) x.N x.capn)/\(w.alloc o).drew.cell? ⟨x.qn,nd*2,none⟩=some ↑y.p/\(w.alloc o).drew.cell? ⟨x.qn,nd*2+1,none⟩=some (J v)):=qh λo=>by have Y:=h.below (((Below.refl w.heap.size w).alloc (Nat.le_refl _) o).drew);exact⟨Y.lk.cell 1,Y.lk.cell 7,(Y.row (H ▸ V) (H ▸ O)).1,(Y.row (H ▸ V) (H ▸ O)).2⟩
  clear h h1 b1 Uq V O I J6 H hs r0 r1;go_enter func240,ntmps240;go_wp2_with fail;refine LT HN.o ?_;go_wp2_with fail
  go_region_held3 (λW=>Z W x.l 1 ↑x.b/\Z W x.l 7 (slice (some ⟨x.qn,0,none⟩) x.N x.capn)/\Z W x.qn (nd*2) ↑y.p/\Z W x.qn (nd*2+1) (J v))
    (first|exact HK.o _)
    (first|(go_at_call 143;go_loud (refine LT HS.o ?_)))
  all_goals go_wp2;exact bodyPost_ret (lx aht _ _ w.heap.size 243 _ (0,0) _ aht (heap_alloc_new w _) Tryz.underlying243 rfl ahs) rfl ⟨rfl,((Below.refl _ _).alloc (Nat.le_refl _) _).drew⟩
end
end
section
open Go.RowKit
variable{y:Fx}
def CoS(a g:Nat)(x:Cox):List Nat:=a :: g :: x.qs :: x.g.q :: x.X.map Fx.q
structure df(BB:Int)(x:Cox)(c:CoC)(st:Co):Prop where
 ops:st.s.ops+1<=1000000000000
 bd:CoB c BB st
 B0:1<=BB
 B1:BB<=10000000000
 ig:inR st.s.W x.g.t=true
 il:∀(n:Nat) (y:Fx),x.X[n]? =some y->inR st.s.W y.t=true
 v:CoV c x.n st
section
variable{w:World}{g:Nat}{x:Cox}{c:CoC}{st C':Co}{s':Ar}
def aD.lts(h:aD B w a g x c P T st):∀r∈CoS a g x,r<w.heap.size:=by
 intro r V;unfold CoS at V;simp only[List.mem_cons]at V;rcases V with rfl|rfl|rfl|rfl|V
 .exact h.ar.blk.lt
 .exact h.ar.wds.lt
 .exact h.sp.lt
 .exact h.gl.ki.sp.lt
 .obtain⟨y,O,rfl⟩:=List.mem_map.1 V;obtain⟨n,H,e⟩:=List.getElem_of_mem O;have I:n<st.L.length:=by rw[h.lL,<-h.fx.lX];exact H
  exact(h.lo n y _ (by rw[List.getElem?_eq_getElem H,e]) (List.getElem?_eq_getElem I)).ki.sp.lt
def rL{n:Nat}(h:x.X[n]? =some y)(t:aa [a,g,y.q] w w'):aa (CoS a g x) w w':=by
 refine t.mono ?_;intro i hi;have hm:y.q∈x.X.map Fx.q:=List.mem_map.2 ⟨y,List.mem_of_getElem? h,rfl⟩;unfold CoS;simp only[List.mem_cons,List.not_mem_nil,or_false]at hi ⊢;rcases hi with rfl|rfl|rfl
 .exact .inl rfl
 .exact .inr (.inl rfl)
 .exact .inr (.inr (.inr (.inr hm)))
def wD(t:aa [a,g,x.g.q] w w'):aa (CoS a g x) w w':=by refine t.mono ?_;intro i hi;unfold CoS;simp only[List.mem_cons,List.not_mem_nil,or_false]at hi ⊢;rcases hi with rfl|rfl|rfl<;>simp
def E9(t:aa [a,g] w w'):aa (CoS a g x) w w':=by refine t.mono ?_;intro i hi;unfold CoS;simp only[List.mem_cons,List.not_mem_nil,or_false]at hi ⊢;rcases hi with rfl|rfl<;>simp
def ug(i:Nat)(u:Value):aa (CoS a g x) w (w.setCell ⟨x.qs,i,none⟩ u):=(aa.refl _ _).setCell (.inl ah0) _
def IN(h:aD B w a g x c P T st)(C:df BB x c st){n:Nat}{S:List Sp}(I:x.X[n]? =some y)(H:st.L[n]? =some S):kQ c.kl y st.s S BB:=
 ⟨C.ops,C.bd.w,C.bd.l S (List.mem_of_getElem? H),C.B0,C.B1,C.il n y I⟩
def JD(C:df BB x c st):kQ c.kg x.g st.s st.G BB:=⟨C.ops,C.bd.w,C.bd.g,C.B0,C.B1,C.ig⟩
def jg{α:Type}{l:List α}{n:Nat}{z d:α}(h:l[n]? =some z):l.getD n d=z:=by rw[List.getD_eq_getElem?_getD,h];rfl
def sD(h:aD B w a g x c P T st)(C:df BB x c st)(i:Nat)(hi:i<x.n)(H:x.X[c.node i]? =some y):E 245 #[↑y.p,J (c.slot i)] w λe w'=>e= returned (bool (lK c st i))/\aD B w' a g x c P T {st with s:=(stL c st i).1,L:=setL c st i (stL c st i).2}/\aa (CoS a g x) w w':=by obtain⟨y',v,S,V,O,I,hs,JV⟩:=h.loc hi;rw[H]at V;injection V with e;subst e;have Y:=(h.fx.tl _ _ H).1;have e2:=(h.fx.tl _ _ H).2;have eS:st.L.getD (c.node i) []=S:=jg I;refine(qO (h.lo _ _ _ H I) h.fx.kl (c.slot i) _ JV (IN h C H I) (C.v.lpc hi)).mono ?_;rintro e w' ⟨rfl,hf,t⟩;rw[<-Y,e2]at hf;rw[<-Y,e2];refine⟨rfl,?_,rL H t⟩;refine h.locOp hi H t ?_;rw[eS];exact hf
def sC(h:aD B w a g x c P T st)(C:df BB x c st)(i:Nat)(hi:i<x.n):E 245 #[↑x.g.p,J (c.node i)] w λe w'=>e= returned (bool (nJ c st i))/\aD B w' a g x c P T {st with s:=(stG c st i).1,G:=st.G.set (c.node i) (stG c st i).2}/\aa (CoS a g x) w w':=by have H:=h.fx.tg;have I:=h.fx.gm;refine(qO h.gl h.fx.kg (c.node i) _ (h.glo hi) (JD C) (C.v.gpc hi)).mono ?_;rintro e w' ⟨rfl,O,t⟩;rw[<-H,I]at O;rw[<-H,I];exact⟨rfl,h.gloOp t O,wD t⟩
def p5(h:aD B w a g x c P T st)(i:Nat)(hi:i<x.n)(H:x.X[c.node i]? =some y):E 248 #[↑y.p,J (c.slot i)] w λe w'=>(∃b,e= returned (.bool b))/\aD B w' a g x c P T {st with L:=setL c st i (bm (lsp st.L (c.node i) (c.slot i)))}/\aa (CoS a g x) w w':=by obtain⟨y',v,S,I,O,V,hs,JV⟩:=h.loc hi;rw[H]at I;injection I with e;subst e;have eS:st.L.getD (c.node i) []=S:=jg V;refine(oC (h.lo _ _ _ H V) h.fx.kl (c.slot i) _ JV).mono ?_;rintro e w' ⟨rfl,hf,t⟩;have Y:aa [a,g,y.q] w w':=aH t;refine⟨⟨_,rfl⟩,?_,rL H Y⟩;refine h.locOp hi H Y ?_;rw[eS];exact hf
def yy(h:aD B w a g x c P T st)(i:Nat)(hi:i<x.n):E 248 #[↑x.g.p,J (c.node i)] w λe w'=>(∃b,e= returned (.bool b))/\aD B w' a g x c P T {st with G:=st.G.set (c.node i) (bm (sv st.G (c.node i)))}/\aa (CoS a g x) w w':=by refine(oC h.gl h.fx.kg (c.node i) _ (h.glo hi)).mono ?_;rintro e w' ⟨rfl,H,t⟩;exact⟨⟨_,rfl⟩,h.gloOp (aH t) H,wD (aH t)⟩
def Dw(h:aD B w a g x c P T st)(i:Nat)(hi:i<x.n)(H:x.X[c.node i]? =some y):E 241 #[↑y.p,J (c.slot i)] w λe w'=>(∃b,e= returned (.bool b))/\aD B w' a g x c P T {st with L:=setL c st i (askK c.kl (lsp st.L (c.node i) (c.slot i)))}/\aa (CoS a g x) w w':=by obtain⟨y',v,S,I,O,V,hs,JV⟩:=h.loc hi;rw[H]at I;injection I with e;subst e;have eS:st.L.getD (c.node i) []=S:=jg V;refine(uV (h.lo _ _ _ H V) h.fx.kl (c.slot i) _ JV).mono ?_;rintro e w' ⟨rfl,hf,t⟩;have Y:aa [a,g,y.q] w w':=aH t;refine⟨⟨_,rfl⟩,?_,rL H Y⟩;refine h.locOp hi H Y ?_;rw[eS];exact hf
def Dv(h:aD B w a g x c P T st)(i:Nat)(hi:i<x.n):E 241 #[↑x.g.p,J (c.node i)] w λe w'=>(∃b,e= returned (.bool b))/\aD B w' a g x c P T {st with G:=st.G.set (c.node i) (askK c.kg (sv st.G (c.node i)))}/\aa (CoS a g x) w w':=by refine(uV h.gl h.fx.kg (c.node i) _ (h.glo hi)).mono ?_;rintro e w' ⟨rfl,H,t⟩;exact⟨⟨_,rfl⟩,h.gloOp (aH t) H,wD (aH t)⟩
def qC(c:CoC)(st:Co)(i:Nat):Ar×Bool:=cy c.kl (c.tl (c.node i)) st.s (c.slot i) (lsp st.L (c.node i) (c.slot i))
def AA(h:aD B w a g x c P T st)(C:df BB x c st)(i:Nat)(hi:i<x.n)(H:x.X[c.node i]? =some y)(h10:(lsp st.L (c.node i) (c.slot i)).pc=10):E 247 #[↑y.p,J (c.slot i)] w λe w'=>e= returned (bool (qC c st i).2)/\aD B w' a g x c P T {st with s:=(qC c st i).1}/\aa (CoS a g x) w w':=by
  obtain⟨y',v,S,NJ,O,I,hs,Y⟩:=h.loc hi;rw[H]at NJ;injection NJ with e;subst e;have e1:=(h.fx.tl _ _ H).1;have eS:st.L.getD (c.node i) []=S:=jg I;refine(Bj (h.lo _ _ _ H I) h.fx.kl (c.slot i) _ Y (IN h C H I) h10).mono ?_;rintro e w' ⟨rfl,hf,t⟩;rw[<-e1]at hf;rw[<-e1];refine⟨rfl,?_,rL H t⟩;have V:=h.locOp (p':=lsp st.L (c.node i) (c.slot i)) hi H t (s':=(qC c st i).1) (by rw[eS,cf Y];exact hf);have eL:jI st.L (c.node i) (c.slot i) (lsp st.L (c.node i) (c.slot i))=st.L:=by unfold jI;rw[eS,cf Y];obtain⟨V,he⟩:=List.getElem?_eq_some_iff.1 I;rw[<-he];exact List.set_getElem_self V
  rw[eL]at V;exact V
def xb(h:aD B w a g x c P T st)(Y:st.s.ops+1<=1000000000000)(n:Nat){v:Nat}(O:x.W[n]? =some v):E 173 #[↑a,J v] w λe w'=>e= returned (J (ldW st.s.W (c.cw n)))/\aD B w' a g x c P T {st with s:=af st.s (c.cw n)}/\aa (CoS a g x) w w':=by have H:=(h.fx.cc n v O).1;rw[H];refine(aE h.ar v Y).mono ?_;rintro e w' ⟨rfl,I,t⟩;exact⟨rfl,h.cnt t I,E9 t⟩
def nZ(h:aD B w a g x c P T st)(Y:st.s.ops+1<=1000000000000)(n:Nat){v:Nat}(O:x.W[n]? =some v)(u:Int):E 177 #[↑a,J v,J u] w λe w'=>e= returned (tuple #[])/\aD B w' a g x c P T {st with s:=ae st.s (c.cw n) u}/\aa (CoS a g x) w w':=by have H:=(h.fx.cc n v O).1;rw[H];refine(an h.ar v u Y).mono ?_;rintro e w' ⟨rfl,I,t⟩;exact⟨rfl,h.cnt t I,E9 t⟩
structure CoN(B:Nat->Prop)(w0 w:World)(a g:Nat)(x:Cox)(c:CoC)(P T:List Int)(st:Co)(k:Nat)(y:Fx)(v:Nat):Prop where
 is:aD B w a g x c P T st
 nb:Blk w k 243 #[↑y.p,int i64 v]
 nS:k∉CoS a g x
 tn:aa (CoS a g x) w0 w
def CoN.to{k:Nat}{v:Nat}(h:CoN B w0 w a g x c P T st k y v)(H:aD B w' a g x c P T C')(t:aa (CoS a g x) w w'):CoN B w0 w' a g x c P T C' k y v:=
 ⟨H,t.blk h.nb h.nS,h.nS,h.tn.trans t⟩
def CoN.put{k:Nat}{v:Nat}(h:CoN B w0 w a g x c P T st k y v){i:Nat}{p p':Sp}(O:st.T[i]? =some p)(I:j<4)(H:(bf p).set j u=bf p'):CoN B w0 (w.setCell ⟨x.qs,i*4+j,none⟩ u) a g x c P T {st with T:=st.T.set i p'} k y v:=h.to (h.is.put O I H) (ug _ _)
def CoN.drew{k:Nat}{v:Nat}(h:CoN B w0 w a g x c P T st k y v):CoN B w0 w.drew a g x c P T st k y v:=h.to (h.is.below (Below.refl _ _).drew) (aa.refl _ _).drew
def CoN.ar(h:aD B w a g x c P T st):w.cell? x.l=some ↑a:=h.lk.cell 0
def CoN.bud(h:aD B w a g x c P T st):Z w x.l 5 (J c.bud):=h.lk.cell 5
def CoN.glo(h:aD B w a g x c P T st):Z w x.l 6 ↑x.g.p:=h.lk.cell 6
def CoN.spots(h:aD B w a g x c P T st):Z w x.l 8 (slice (some ⟨x.qs,0,none⟩) x.n x.n):=h.lk.cell 8
def CoN.n0{k:Nat}{v:Nat}(h:CoN B w0 w a g x c P T st k y v):w.cell? k=some ↑y.p:=h.nb.cell 0
def CoN.n1{k:Nat}{v:Nat}(h:CoN B w0 w a g x c P T st k y v):Z w k 1 (J v):=h.nb.cell 1
def CoN.mk'(h:aD B w a g x c P T st){w1:World}(b1:Below w.heap.size w w1)(y:Fx)(v:Nat):CoN B w (w1.alloc (cells #[↑y.p,J v] 243)) a g x c P T st w1.heap.size y v:=by have hs:=b1.size;refine⟨h.below (b1.alloc hs _),Blk.new w1 _ _,λk=>?_,aa.of_below (b1.alloc hs _)⟩;have:=h.lts _ k;omega
end
end
section
open Go.RowKit
variable{q:Sp}{e:Ending}
def yw(c:CoC)(st:Co)(i:Nat)(p:Sp):Co:=js st i ((db c st i p).1,(db c st i p).2.1,(db c st i p).2.2.1,{(db c st i p).2.2.2 with pc:=p.pc})
def gJ(B:Nat->Prop)(w:World)(a g:Nat)(x:Cox)(c:CoC)(P T:List Int)(st:Co)(i:Nat)(p:Sp)(e:Ending)(w':World):Prop:=
 e= returned (J (db c st i p).2.2.2.pc)/\aD B w' a g x c P T (yw c st i p)/\aa (CoS a g x) w w'
section
variable{w:World}{g:Nat}{x:Cox}{c:CoC}{st C':Co}{s':Ar}
def p4(i:Nat)(p:Sp){n:Int}{s':Ar}{H:List Sp}{I:List (List Sp)}(O:(db c st i p)=(s',H,I,q))(V:e= returned (J n))(e3:q.pc=n)(h:aD B w' a g x c P T ⟨s',H,I,st.T.set i {q with pc:=p.pc}⟩)(t:aa (CoS a g x) w w'):gJ B w a g x c P T st i p e w':=by unfold gJ yw js;rw[O];exact⟨by rw[V,e3],h,t⟩
def CoN.drewN{k:Nat}{y:Fx}{v:Nat}(h:CoN B w0 w a g x c P T st k y v)(n:Nat):CoN B w0 (w.drewN n) a g x c P T st k y v:=h.to (h.is.turns0 ((aa.refl [] w).drewN n)) ((aa.refl _ _).drewN n)
def jC(i:Nat)(p:Sp)(Y:st.T[i]? =some p){n:Int}{s':Ar}{H:List Sp}{I:List (List Sp)}(O:(db c st i p)=(s',H,I,q))(V:e= returned (J n))(e3:q.pc=n)(e4:{q with pc:=p.pc}=p)(h:aD B w' a g x c P T ⟨s',H,I,st.T⟩)(t:aa (CoS a g x) w w'):gJ B w a g x c P T st i p e w':=p4 i p O V e3 (by rw[e4,cf Y];exact h) t
def vY(b:Int)(w:World)(h:0<=b)(h1:b<=1000):E 135 #[J b] w λe w'=>e= returned (bool true)/\w=w':=by go_enter func135,ntmps135;exact aab
def FR(n f t:Int)(w:World):E 171 #[J n,J f,J t] w λe w'=>e= returned (bool (decide (f<=n)&&decide (n<=t)))/\w=w':=by cases h1:decide (f<=n)<;>cases h:decide (n<=t);all_goals have k1:decide (n >= f)=decide (f<=n):=rfl;rw[h1]at k1;go_enter func171,ntmps171;go_wp2;go_ret;exact⟨rfl,rfl⟩
def vI(u bud:Int)(h:Bool)(I:0<=bud/\bud<=1000)(w:World):E 246 #[J u,J bud,.bool h] w λe w'=>e= returned (bool (mJ u bud h))/\w=w':=by
 obtain⟨V,h1⟩:=I;have H:=qh (λw=>FR u 1 bud w);have e:mJ u bud h=((decide (1<=u)&&decide (u<=bud))&&!h):=by unfold mJ;rw[Bool.decide_and]
 rw[e];clear e;obtain⟨q,O⟩:=LE ((decide (1<=u)&&decide (u<=bud)));rw[<-O]at H ⊢;clear O;cases q<;>cases h;all_goals go_enter func246,ntmps246;go_wp2_with (first|(go_at_call 135;refine(vY bud _ V h1).mono ?_;rintro e w' ⟨rfl,rfl⟩)|(go_at_call 171;refine(H.o _).mono ?_;rintro e w' ⟨rfl,rfl⟩));go_ret;exact⟨rfl,rfl⟩
def Fu(h:aD B w a g x c P T st)(C:df BB x c st)(i:Nat)(hi:i<x.n)(u b z:Int)(hp:sv st.T i=⟨1,u,b,z⟩):E 242 #[↑x.l,J i] w (gJ B w a g x c P T st i ⟨1,u,b,z⟩):=by
  obtain⟨y,v,S,hy,O,hS,hs,JV⟩:=h.loc hi;have Y:st.T[i]? =some (⟨1,u,b,z⟩:Sp):=by rw[h.thr hi,hp]
  refine aiI ?_;intro hn c8 t2 KO JY Lx Lj;obtain⟨r,V⟩:=LE (stL c st i);obtain⟨q,I⟩:=LE (lK c st i);have H:=(λW (k:aD B W a g x c P T st)=>sD k C i hi hy);rw[<-V,<-I]at H;have HF:=qh H;have HX:Kq (db c st i ⟨1,u,b,z⟩=(r.1,st.G,setL c st i r.2,if q then⟨2,u,b,z⟩else⟨1,u,b,z⟩)):=qh (by rw[V,I];rfl);have HP:=qh Y;clear H V I;clear h C hp Y hy O hS hs JV;cases q;all_goals go_enter func242,ntmps242;go_wp2_with fail;refine aiK ?_;intro w1 b1 N1 Kg e0 k0 k6;go_wp2_with fail;refine ajr ?_;intro w2 k2 N2 e2;clear e0;go_wp2;go_ret;exact jC i _ HP.o HX.o rfl rfl rfl N2.o.is N2.o.tn
def Fv(h:aD B w a g x c P T st)(C:df BB x c st)(i:Nat)(hi:i<x.n)(u b z:Int)(hp:sv st.T i=⟨2,u,b,z⟩):E 242 #[↑x.l,J i] w (gJ B w a g x c P T st i ⟨2,u,b,z⟩):=by
  obtain⟨y,v,S,hy,O,hS,hs,JV⟩:=h.loc hi;have Ky:st.T[i]? =some (⟨2,u,b,z⟩:Sp):=by rw[h.thr hi,hp]
  refine aiI ?_;intro hn c8 t2 KO JY Lx Lj;obtain⟨I,hV⟩:=LE (af st.s (c.cw (c.node i)));obtain⟨q,hq⟩:=LE (ldW st.s.W (c.cw (c.node i)));have hv:=(λW (k:aD B W a g x c P T st)=>xb k C.ops (c.node i) O);rw[<-hV,<-hq]at hv;have HO:=qh hv;have HA:=qh (λW (s:Ar) (T':List Sp) (k:aD B W a g x c P T ⟨s,st.G,st.L,T'⟩)=>Dv k i hi);have HX:Kq (db c st i ⟨2,u,b,z⟩=if 0<q then(I,st.G,st.L,⟨10,q,b,z⟩)else(I,st.G.set (c.node i) (askK c.kg (sv st.G (c.node i))),st.L,⟨3,q,b,z⟩)):=qh (by rw[hV,hq];rfl);refine ajs ?_;intro HC HP;have HL:=qh (show i<st.T.length by rw[h.lS];exact hi);clear hv hV hq;clear h C hp Ky hy O hS hs JV;cases hc:decide (0<q)
  all_goals
    have Nt:decide (q>0)=decide (0<q):=rfl;rw[hc]at Nt;go_enter func242,ntmps242;go_wp2_with fail;refine aiK ?_;intro w1 b1 N1 Kg e0 k0 k6;have Y:=qh N1.o.drew;have HW:=qh (show ∃W,W=(w1.alloc (cells #[↑y.p,J v] 243))from⟨_,rfl⟩);go_wp2_with fail
    go_region_held3 (λW=>W.cell? x.l=some ↑a/\Z W w1.heap.size 1 (J v))
      (first|with_reducible exact HC.o _ _ _ _ _ Y.o|with_reducible exact HC.o _ _ _ _ _ V.o|with_reducible exact HC.o _ _ _ _ _ H.o)
      (first
        | (go_at_call 173;go_loud (refine Pi (HO.o _ Y.o.is) λw3 k3=>?_);have V:=qh (Y.o.to k3.o.1 k3.o.2);have H:=qh (V.o.put (p':=(⟨2,q,b,z⟩:Sp)) HP.o (j:=1) (u:= J q) ahr rfl);have e1:=V.o.is.sp.cell HP.o 1 _ rfl;have z1:=V.o.is.sp.free (i*4+1)))
  all_goals
    have e4:=H.o.is.sp.cell (au HP.o _) 1 _ rfl;have ab:=CoN.glo H.o.is
    first
      | (go_wp2
         go_ret
         exact p4 i _ (HX.o.trans (if_pos ahw)) rfl rfl H.o.is H.o.tn)
      | (go_wp2_with fail
         refine(HA.o _ _ _ H.o.is).mono ?_
         rintro en w4 ⟨⟨bb,rfl⟩,k4,t4⟩
         have N4:=qh (H.o.to k4 t4)
         clear k4 t4
         go_wp2
         go_ret
         exact p4 i _ (HX.o.trans (if_neg ahw)) rfl rfl N4.o.is N4.o.tn)
def Fw(h:aD B w a g x c P T st)(C:df BB x c st)(i:Nat)(hi:i<x.n)(u b z:Int)(hp:sv st.T i=⟨3,u,b,z⟩):E 242 #[↑x.l,J i] w (gJ B w a g x c P T st i ⟨3,u,b,z⟩):=by
  obtain⟨y,v,S,hy,O,hS,hs,JV⟩:=h.loc hi;have Y:st.T[i]? =some (⟨3,u,b,z⟩:Sp):=by rw[h.thr hi,hp]
  refine aiI ?_;intro hn c8 t2 KO JY Lx Lj;obtain⟨r,V⟩:=LE (stG c st i);obtain⟨q,I⟩:=LE (nJ c st i);have H:=(λW (k:aD B W a g x c P T st)=>sC k C i hi);rw[<-V,<-I]at H;have HF:=qh H;have HX:Kq (db c st i ⟨3,u,b,z⟩=(r.1,st.G.set (c.node i) r.2,st.L,if q then⟨4,u,b,z⟩else⟨3,u,b,z⟩)):=qh (by rw[V,I];rfl);have HP:=qh Y;clear H V I;clear h C hp Y hy O hS hs JV;cases q;all_goals go_enter func242,ntmps242;go_wp2_with fail;refine aiK ?_;intro w1 b1 N1 Kg e0 k0 k6;go_wp2_with fail;refine ajr ?_;intro w2 k2 N2 e2;clear e0;go_wp2;go_ret;exact jC i _ HP.o HX.o rfl rfl rfl N2.o.is N2.o.tn
def Fy(h:aD B w a g x c P T st)(C:df BB x c st)(i:Nat)(hi:i<x.n)(u b z:Int)(hp:sv st.T i=⟨4,u,b,z⟩):E 242 #[↑x.l,J i] w (gJ B w a g x c P T st i ⟨4,u,b,z⟩):=by
  obtain⟨y,v,S,hy,O,hS,hs,JV⟩:=h.loc hi;have Ky:st.T[i]? =some (⟨4,u,b,z⟩:Sp):=by rw[h.thr hi,hp]
  refine aiI ?_;intro hn c8 t2 KO JY Lx Lj;obtain⟨Y,hV⟩:=LE (ae st.s (c.cw (c.node i)) 1);have V:=(λW (k:aD B W a g x c P T st)=>nZ k C.ops (c.node i) O 1);rw[<-hV]at V;have HO:=qh V;have HX:Kq (db c st i ⟨4,u,b,z⟩=(Y,st.G,st.L,⟨10,1,b,z⟩)):=qh ahJ;refine ajs ?_;intro HC HP;clear V hV;clear h C hp Ky hy O hS hs JV;go_enter func242,ntmps242;go_wp2_with fail;refine aiK ?_;intro w1 b1 N1 Kg e0 k0 k6;have I:=qh N1.o.drew;go_wp2_with fail
  go_region_held3 (λW=>W.cell? x.l=some ↑a/\Z W w1.heap.size 1 (J v))
    (first|with_reducible exact HC.o _ _ _ _ _ I.o|with_reducible exact HC.o _ _ _ _ _ H.o)
    (first
      | (go_at_call 177;go_loud (refine Pi (HO.o _ I.o.is) λw3 k3=>?_);have H:=qh (I.o.to k3.o.1 k3.o.2)))
  all_goals have e1:=H.o.is.sp.cell HP.o 1 _ rfl;have z1:=H.o.is.sp.free (i*4+1);have N3:=qh (H.o.put (p':=(⟨4,1,b,z⟩:Sp)) HP.o (j:=1) (u:= J 1) ahr rfl);go_wp2;go_ret;exact p4 i _ HX.o rfl rfl N3.o.is N3.o.tn
end
end
section
open Go.RowKit
section
variable{w:World}{g:Nat}{x:Cox}{c:CoC}{st C':Co}{s':Ar}
def AB(h:aD B w a g x c P T st)(C:df BB x c st)(i:Nat)(hi:i<x.n)(u b z:Int)(hp:sv st.T i=⟨11,u,b,z⟩):E 243 #[↑x.l,J i] w (gJ B w a g x c P T st i ⟨11,u,b,z⟩):=by
  obtain⟨y,v,S,hy,O,hS,hs,JV⟩:=h.loc hi;have Ky:st.T[i]? =some (⟨11,u,b,z⟩:Sp):=by rw[h.thr hi,hp]
  refine aiI ?_;intro hn c8 t2 KO JY Lx Lj;obtain⟨ab,hV⟩:=LE (af st.s (c.cw (c.node i)));obtain⟨q,hq⟩:=LE (ldW st.s.W (c.cw (c.node i)));have hv:=(λW (k:aD B W a g x c P T st)=>xb k C.ops (c.node i) O);rw[<-hV,<-hq]at hv;have HO:=qh hv;have HX:Kq (db c st i ⟨11,u,b,z⟩=(ab,st.G,st.L,⟨if c.bud<q then 14 else 12,q,b,z⟩)):=qh (by rw[hV,hq];rfl);refine ajs ?_;intro HC HP;clear hv hV hq;clear h C hp Ky hy O hS hs JV;obtain⟨bud,Y⟩:=LE c.bud;rw[<-Y]at HX;have HD:=qh Y;clear Y;cases hc:decide (bud<q)
  all_goals
    have Nt:decide (q>bud)=decide (bud<q):=rfl;rw[hc]at Nt;go_enter func243,ntmps243;go_wp2_with fail;refine aiK ?_;intro w1 b1 N1 Kg e0 k0 k6;have V:=qh N1.o.drew;go_wp2_with fail
    go_region_held3 (λW=>W.cell? x.l=some ↑a/\Z W w1.heap.size 1 (J v))
      (first|with_reducible exact HC.o _ _ _ _ _ V.o|with_reducible exact HC.o _ _ _ _ _ I.o|with_reducible exact HC.o _ _ _ _ _ H.o)
      (first
        | (go_at_call 173;go_loud (refine Pi (HO.o _ V.o.is) λw3 k3=>?_);have I:=qh (V.o.to k3.o.1 k3.o.2);have H:=qh (I.o.put (p':=(⟨11,q,b,z⟩:Sp)) HP.o (j:=1) (u:= J q) ahr rfl);have e1:=I.o.is.sp.cell HP.o 1 _ rfl;have z1:=I.o.is.sp.free (i*4+1)))
  all_goals have e4:=H.o.is.sp.cell (au HP.o _) 1 _ rfl;have e5:=CoN.bud H.o.is;rw[<-HD.o]at e5;clear e1 z1;go_wp2_with fail;go_quiet (fail);go_wp2;go_ret;first| (rw[if_pos ahw]at HX;exact p4 i _ HX.o rfl rfl (H.o.drewN _).is (H.o.drewN _).tn)| (rw[if_neg ahw]at HX;exact p4 i _ HX.o rfl rfl (H.o.drewN _).is (H.o.drewN _).tn)
def AC(h:aD B w a g x c P T st)(C:df BB x c st)(i:Nat)(hi:i<x.n)(u b z:Int)(h10:(lsp st.L (c.node i) (c.slot i)).pc=10)(H:sv st.T i=⟨12,u,b,z⟩):E 243 #[↑x.l,J i] w (gJ B w a g x c P T st i ⟨12,u,b,z⟩):=by
  obtain⟨y,v,S,hy,O,hS,hs,JV⟩:=h.loc hi;have Ky:st.T[i]? =some (⟨12,u,b,z⟩:Sp):=by rw[h.thr hi,H]
  refine aiI ?_;intro hn c8 t2 KO JY Lx Lj;obtain⟨r,V⟩:=LE (qC c st i);have hv:=(λW (k:aD B W a g x c P T st)=>AA k C i hi hy h10);rw[<-V]at hv;have HO:=qh hv;obtain⟨q,hq⟩:=LE (mJ u c.bud r.2);have Y:=qh (λW=>vI u c.bud r.2 h.fx.bud W);rw[<-hq]at Y;have HX:Kq (db c st i ⟨12,u,b,z⟩=(r.1,st.G,st.L,⟨if q then 13 else 14,u,b,z⟩)):=qh (by rw[hq,V];rfl);have I:=qh (λW st (N:∃k,k=w.heap.size/\aD B W a g x c P T st) (H:st.T[i]? =some (⟨12,u,b,z⟩:Sp))=>And.intro (N.choose_spec.2.sp.cell H 1 _ rfl) (CoN.bud N.choose_spec.2));have HP:=qh Ky;clear hv V hq I;have I:=qh (λW st (k y v) (N:CoN B w W a g x c P T st k y v) (H:st.T[i]? =some (⟨12,u,b,z⟩:Sp))=>And.intro (N.is.sp.cell H 1 _ rfl) (And.intro (CoN.bud N.is) N.n0));clear h C H Ky hy O hS hs JV;obtain⟨r1,r2⟩:=r;simp only at HO Y HX;cases q
  all_goals
    go_enter func243,ntmps243;go_wp2_with fail;refine aiK ?_;intro w1 b1 N1 Kg e0 k0 k6;have Lp:=qh N1.o.drew;go_wp2_with fail
    go_region_held3 (λW=>Z W x.qs (i*4+1) (J u)/\Z W x.l 5 (J c.bud)/\W.cell? w1.heap.size=some ↑y.p)
      (first|with_reducible exact I.o _ _ _ _ _ Lp.o HP.o|with_reducible exact I.o _ _ _ _ _ N2.o HP.o)
      (first
        | (go_at_call 247;go_loud (refine Pi (HO.o _ Lp.o.is) λw3 k3=>?_);have N2:=qh (Lp.o.to k3.o.1 k3.o.2))
        | (go_at_call 246;go_loud (refine LT (Y.o _) ?_)))
  all_goals go_wp2;go_ret;exact jC i _ HP.o HX.o rfl rfl rfl N2.o.is N2.o.tn
def AD(h:aD B w a g x c P T st)(C:df BB x c st)(i:Nat)(hi:i<x.n)(u b z:Int)(hu:0<=u/\u<=100000000000)(I:sv st.T i=⟨13,u,b,z⟩):E 243 #[↑x.l,J i] w (gJ B w a g x c P T st i ⟨13,u,b,z⟩):=by
  obtain⟨y,v,S,hy,O,hS,hs,JV⟩:=h.loc hi;have Ky:st.T[i]? =some (⟨13,u,b,z⟩:Sp):=by rw[h.thr hi,I]
  refine aiI ?_;intro hn c8 t2 KO JY Lx Lj;have x1:IntKind.i64.wrap (u+1)=u+1:=IntWalk.i64_in _ ahp;obtain⟨ab,hV⟩:=LE (ae st.s (c.cw (c.node i)) (u+1));have Y:=(λW (k:aD B W a g x c P T st)=>nZ k C.ops (c.node i) O (u+1));rw[<-hV]at Y;have HO:=qh Y;have HA:=qh (λW (s:Ar) (k:aD B W a g x c P T ⟨s,st.G,st.L,st.T⟩)=>p5 k i hi hy);have HX:Kq (db c st i ⟨13,u,b,z⟩=(ab,st.G,setL c st i (bm (lsp st.L (c.node i) (c.slot i))),⟨16,u,b,z⟩)):=qh ahJ;have HC:=qh (λW st (k y v) (N:CoN B w W a g x c P T st k y v) (I:st.T[i]? =some (⟨13,u,b,z⟩:Sp))=>And.intro (CoN.ar N.is) (And.intro N.n1 (N.is.sp.cell I 1 _ rfl)));have HP:=qh Ky;clear Y hV;clear h C I Ky hy O hS hs JV;go_enter func243,ntmps243;go_wp2_with fail;refine aiK ?_;intro w1 b1 N1 Kg e0 k0 k6;have V:=qh N1.o.drew;go_wp2_with fail
  go_region_held3 (λW=>W.cell? x.l=some ↑a/\Z W w1.heap.size 1 (J v)/\Z W x.qs (i*4+1) (J u))
    (first|with_reducible exact HC.o _ _ _ _ _ V.o HP.o|with_reducible exact HC.o _ _ _ _ _ H.o HP.o)
    (first
      | (go_at_call 177;go_loud (refine Pi (HO.o _ V.o.is) λw3 k3=>?_);have H:=qh (V.o.to k3.o.1 k3.o.2)))
  all_goals have ad:=H.o.n0;go_wp2_with fail;refine(HA.o _ _ H.o.is).mono ?_;rintro en w4 ⟨⟨bb,rfl⟩,k4,t4⟩;have N4:=qh (H.o.to k4 t4);clear k4 t4;go_wp2;go_ret;exact jC i _ HP.o HX.o rfl rfl rfl N4.o.is N4.o.tn
def AE(h:aD B w a g x c P T st)(C:df BB x c st)(i:Nat)(hi:i<x.n)(u b z:Int)(hp:sv st.T i=⟨14,u,b,z⟩):E 243 #[↑x.l,J i] w (gJ B w a g x c P T st i ⟨14,u,b,z⟩):=by
  obtain⟨y,v,S,hy,O,hS,hs,JV⟩:=h.loc hi;have Ky:st.T[i]? =some (⟨14,u,b,z⟩:Sp):=by rw[h.thr hi,hp]
  refine aiI ?_;intro hn c8 t2 KO JY Lx Lj;obtain⟨Y,hV⟩:=LE (ae st.s (c.cw (c.node i)) 0);have V:=(λW (k:aD B W a g x c P T st)=>nZ k C.ops (c.node i) O 0);rw[<-hV]at V;have HO:=qh V;have HA:=qh (λW (s:Ar) (k:aD B W a g x c P T ⟨s,st.G,st.L,st.T⟩)=>yy k i hi);have HX:Kq (db c st i ⟨14,u,b,z⟩=(Y,st.G.set (c.node i) (bm (sv st.G (c.node i))),st.L,⟨15,u,b,z⟩)):=qh ahJ;refine ajs ?_;intro HC HP;clear V hV;clear h C hp Ky hy O hS hs JV;go_enter func243,ntmps243;go_wp2_with fail;refine aiK ?_;intro w1 b1 N1 Kg e0 k0 k6;have I:=qh N1.o.drew;go_wp2_with fail
  go_region_held3 (λW=>W.cell? x.l=some ↑a/\Z W w1.heap.size 1 (J v))
    (first|with_reducible exact HC.o _ _ _ _ _ I.o|with_reducible exact HC.o _ _ _ _ _ H.o)
    (first
      | (go_at_call 177;go_loud (refine Pi (HO.o _ I.o.is) λw3 k3=>?_);have H:=qh (I.o.to k3.o.1 k3.o.2)))
  all_goals have ab:=CoN.glo H.o.is;go_wp2_with fail;refine(HA.o _ _ H.o.is).mono ?_;rintro en w4 ⟨⟨bb,rfl⟩,k4,t4⟩;have N4:=qh (H.o.to k4 t4);clear k4 t4;go_wp2;go_ret;exact jC i _ HP.o HX.o rfl rfl rfl N4.o.is N4.o.tn
def AF(h:aD B w a g x c P T st)(C:df BB x c st)(i:Nat)(hi:i<x.n)(u b z:Int)(hp:sv st.T i=⟨15,u,b,z⟩):E 243 #[↑x.l,J i] w (gJ B w a g x c P T st i ⟨15,u,b,z⟩):=by
  obtain⟨y,v,S,hy,O,hS,hs,JV⟩:=h.loc hi;have Y:st.T[i]? =some (⟨15,u,b,z⟩:Sp):=by rw[h.thr hi,hp]
  refine aiI ?_;intro hn c8 t2 KO JY Lx Lj;obtain⟨r,V⟩:=LE (stG c st i);obtain⟨q,I⟩:=LE (nJ c st i);have H:=(λW (k:aD B W a g x c P T st)=>sC k C i hi);rw[<-V,<-I]at H;have HF:=qh H;have HA:=qh (λW (s:Ar) (G':List Sp) (k:aD B W a g x c P T ⟨s,G',st.L,st.T⟩)=>p5 k i hi hy);have HX:Kq (db c st i ⟨15,u,b,z⟩=if q then(r.1,st.G.set (c.node i) r.2,setL c st i (bm (lsp st.L (c.node i) (c.slot i))),⟨16,u,b,z⟩)else(r.1,st.G.set (c.node i) r.2,st.L,⟨15,u,b,z⟩)):=qh (by rw[V,I];rfl);have HP:=qh Y;clear H V I;clear h C hp Y hy O hS hs JV;cases q
  all_goals
    go_enter func243,ntmps243;go_wp2_with fail;refine aiK ?_;intro w1 b1 N1 Kg e0 k0 k6;go_wp2_with fail;refine ajr ?_;intro w2 k2 N2 e2;have ab:=N2.o.n0;clear e0
    first
      | (go_wp2_with fail
         refine(HA.o _ _ _ N2.o.is).mono ?_
         rintro en w4 ⟨⟨bb,rfl⟩,k4,t4⟩
         have N4:=qh (N2.o.to k4 t4)
         clear k4 t4 e2
         go_wp2
         go_ret
         exact jC i _ HP.o HX.o rfl rfl rfl N4.o.is N4.o.tn)
      | (go_wp2
         go_ret
         exact jC i _ HP.o HX.o rfl rfl rfl N2.o.is N2.o.tn)
def AG(h:aD B w a g x c P T st)(C:df BB x c st)(i:Nat)(hi:i<x.n)(u b z:Int)(hp:sv st.T i=⟨16,u,b,z⟩):E 243 #[↑x.l,J i] w (gJ B w a g x c P T st i ⟨16,u,b,z⟩):=by
  obtain⟨y,v,S,hy,O,hS,hs,JV⟩:=h.loc hi;have Y:st.T[i]? =some (⟨16,u,b,z⟩:Sp):=by rw[h.thr hi,hp]
  refine aiI ?_;intro hn c8 t2 KO JY Lx Lj;obtain⟨r,V⟩:=LE (stL c st i);obtain⟨q,I⟩:=LE (lK c st i);have H:=(λW (k:aD B W a g x c P T st)=>sD k C i hi hy);rw[<-V,<-I]at H;have HF:=qh H;have HX:Kq (db c st i ⟨16,u,b,z⟩=(r.1,st.G,setL c st i r.2,if q then⟨0,u,b,z⟩else⟨16,u,b,z⟩)):=qh (by rw[V,I];rfl);have HP:=qh Y;clear H V I;clear h C hp Y hy O hS hs JV;cases q;all_goals go_enter func243,ntmps243;go_wp2_with fail;refine aiK ?_;intro w1 b1 N1 Kg e0 k0 k6;go_wp2_with fail;refine ajr ?_;intro w2 k2 N2 e2;clear e0;go_wp2;go_ret;exact jC i _ HP.o HX.o rfl rfl rfl N2.o.is N2.o.tn
end
end
section
open Go.RowKit
section
variable{w:World}{g:Nat}{x:Cox}{c:CoC}{st C':Co}{s':Ar}
def Ha(h:aD B w a g x c P T st)(C:df BB x c st)(i:Nat)(hi:i<x.n)(p:Sp)(H:sv st.T i=p)(O:0<p.pc)(h1:p.pc<10):E 242 #[↑x.l,J i] w (gJ B w a g x c P T st i p):=by
  have I:=C.v.k i hi;rw[H]at I;obtain⟨pc,u,b,z⟩:=p;simp only at O h1;have hc:pc=1\/pc=2\/pc=3\/pc=4:=by unfold dm at I;simp only at I;omega
  rcases hc with rfl|rfl|rfl|rfl
  . exact Fu h C i hi u b z H
  . exact Fv h C i hi u b z H
  . exact Fw h C i hi u b z H
  . exact Fy h C i hi u b z H
def Fz(h:aD B w a g x c P T st)(C:df BB x c st)(i:Nat)(hi:i<x.n)(p:Sp)(H:sv st.T i=p)(h1:10<p.pc):E 243 #[↑x.l,J i] w (gJ B w a g x c P T st i p):=by
  have I:=C.v.k i hi;have O:=C.bd.tsp (by have:=C.B0;omega) i;have V:=C.B1;rw[H]at I O;obtain⟨pc,u,b,z⟩:=p;simp only at h1 O;have hc:pc=11\/pc=12\/pc=13\/pc=14\/pc=15\/pc=16:=by unfold dm at I;simp only at I;omega
  rcases hc with rfl|rfl|rfl|rfl|rfl|rfl
  . exact AB h C i hi u b z H
  . exact AC h C i hi u b z (by unfold dm at I;simp only at I;omega) H
  . exact AD h C i hi u b z ahp H
  . exact AE h C i hi u b z H
  . exact AF h C i hi u b z H
  . exact AG h C i hi u b z H
def mE(B:Nat->Prop)(w:World)(a g:Nat)(x:Cox)(c:CoC)(P T:List Int)(C':Co)(r:Bool)(e:Ending)(w':World):Prop:=
 e= returned (.bool r)/\aD B w' a g x c P T C'/\aa (CoS a g x) w w'
def AH(h:aD B w a g x c P T st)(i:Nat)(hi:i<x.n)(hc:(sv st.T i).pc=0\/(sv st.T i).pc=10):E 237 #[↑x.l,J i] w (mE B w a g x c P T (am c st i) (bo (sv st.T i) (sv (am c st i).T i))):=by
  have I:=qh (mx h i hi);have H:=qh h;have V:am c st i=st:=by unfold am;rw[if_pos hc]
  rw[V];have Y:bo (sv st.T i) (sv st.T i)=false:=by unfold bo;rcases hc with hc|hc<;>simp[hc]
  rw[Y];obtain⟨p,hp⟩:=LE (sv st.T i);rw[<-hp]at hc I;clear V Y hp h;obtain⟨pc,u,b,z⟩:=p;simp only at hc;unfold aC at I;have Ll:=aO;rcases hc with rfl|rfl
  all_goals go_enter func237,ntmps237;go_wp2_with fail;refine Pi I.o λw1 O=>?_;go_wp2;go_ret;exact⟨rfl,H.o.below O.o,aa.of_below O.o⟩
def uM(h:aD B w a g x c P T st)(C:df BB x c st)(i:Nat)(hi:i<x.n)(hc:0<(sv st.T i).pc/\(sv st.T i).pc<10):E 237 #[↑x.l,J i] w (mE B w a g x c P T (am c st i) (bo (sv st.T i) (sv (am c st i).T i))):=by
  have hT:=h.thr hi;have Kw:i<st.T.length:=by rw[h.lS];exact hi
  have HS:=qh (mx h i hi);have hn:=h.fx.n32;have KO:=h.lk.lt;have JY:=h.sp.lt;have t2:¬(i:Int)<0:=by omega
  obtain⟨p,hp⟩:=LE (sv st.T i);have hI:=(λW (k:aD B W a g x c P T st)=>Ha k C i hi p hp.symm);rw[<-hp]at hc HS hT;have HI:=qh (λW (k:aD B W a g x c P T st)=>hI W k hc.1 hc.2);refine ajw ?_;intro m hm HM e1 e2 q1 q2
  have HQ:Kq (bo p m.2.2.2=((m.2.2.2.pc==10)||(m.2.2.2.pc==0))):=qh (by
    unfold bo;simp only[q1,q2,ne_eq,not_false_eq_true,and_true,Bool.decide_or]
    rfl)
  have u1:(p.pc==0)=false:=by simpa using q1
  have u2:(p.pc==10)=false:=by simpa using q2
  have u3:decide (p.pc<10)=true:=by simpa using hc.2
  obtain⟨s1,G1,L1,r⟩:=m;simp only at HQ e1;have HC:=qh (λW st (k:aD B W a g x c P T st)=>CoN.spots k);have HT:=qh hT;have H:=qh h;have HX:Kq (yw c st i p=⟨s1,G1,L1,st.T.set i {r with pc:=p.pc}⟩):=qh (by unfold yw;rw[<-hm];rfl);have HR:Kq ((db c st i p).2.2.2.pc=r.pc):=qh (by rw[<-hm]);clear hI h C hp hT hm e1 e2 q1 q2 hc Kw;obtain⟨pc,u,b,z⟩:=p;obtain⟨I,Y,b',z'⟩:=r;simp only at u1 u2 u3 HQ HR;unfold aC at HS;have Ll:=aO;cases v1:(I==10)<;>cases v2:(I==0)
  all_goals
    go_enter func237,ntmps237;go_wp2_with fail;refine Pi HS.o λw1 b1=>?_;have K1:=qh (H.o.below b1.o.drew);have T1:=qh (aa.of_below (S:=CoS a g x) b1.o.drew);have Kg:=b1.o.size;go_wp2_with fail
    go_region_held3 (λW=>Z W x.l 8 (slice (some ⟨x.qs,0,none⟩) x.n x.n))
      (first|with_reducible exact HC.o _ _ K1.o|with_reducible exact HC.o _ _ O.o|with_reducible exact HC.o _ _ V.o)
      (first
        | (go_at_call 242;go_loud (refine(HI.o _ K1.o).mono ?_);rintro en w3 ⟨he,k3,t3⟩;rw[HR.o]at he;subst he;rw[HX.o]at k3;have O:=qh k3;have T2:=qh (T1.o.trans t3);have V:=qh (O.o.put0 (p':=(⟨I,Y,b',z'⟩:Sp)) (au HT.o _) (u:= J I) rfl);have e1:=O.o.sp.cell (au HT.o _) 0 _ rfl;have z1:=O.o.sp.free (i*4);simp only[Nat.add_zero]at e1;clear k3 t3))
  all_goals have e4:=V.o.sp.cell (au (au HT.o _) _) 0 _ rfl;have Ty:=HC.o _ _ V.o;simp only[Nat.add_zero]at e4;clear e1 z1;go_wp2;go_ret;refine⟨by rw[HQ.o,v1,v2];rfl,?_,T2.o.trans (ug _ _)⟩;have k:=V.o;rw[show(({s:=s1,G:=G1,L:=L1,T:=(st.T.set i {(⟨I,Y,b',z'⟩:Sp)with pc:=pc}).set i ⟨I,Y,b',z'⟩}:Co))=js st i (s1,G1,L1,⟨I,Y,b',z'⟩)from by unfold js;simp]at k;exact k
def sE(h:aD B w a g x c P T st)(C:df BB x c st)(i:Nat)(hi:i<x.n)(hc:10<(sv st.T i).pc):E 237 #[↑x.l,J i] w (mE B w a g x c P T (am c st i) (bo (sv st.T i) (sv (am c st i).T i))):=by
  have hT:=h.thr hi;have Kw:i<st.T.length:=by rw[h.lS];exact hi
  have HS:=qh (mx h i hi);have hn:=h.fx.n32;have KO:=h.lk.lt;have JY:=h.sp.lt;have t2:¬(i:Int)<0:=by omega
  obtain⟨p,hp⟩:=LE (sv st.T i);have hI:=(λW (k:aD B W a g x c P T st)=>Fz k C i hi p hp.symm);rw[<-hp]at hc HS hT;have HI:=qh (λW (k:aD B W a g x c P T st)=>hI W k hc);refine ajw ?_;intro m hm HM e1 e2 q1 q2
  have HQ:Kq (bo p m.2.2.2=((m.2.2.2.pc==10)||(m.2.2.2.pc==0))):=qh (by
    unfold bo;simp only[q1,q2,ne_eq,not_false_eq_true,and_true,Bool.decide_or]
    rfl)
  have u1:(p.pc==0)=false:=by simpa using q1
  have u2:(p.pc==10)=false:=by simpa using q2
  have u3:decide (p.pc<10)=false:=by simp;omega
  obtain⟨s1,G1,L1,r⟩:=m;simp only at HQ e1;have HC:=qh (λW st (k:aD B W a g x c P T st)=>CoN.spots k);have HT:=qh hT;have H:=qh h;have HX:Kq (yw c st i p=⟨s1,G1,L1,st.T.set i {r with pc:=p.pc}⟩):=qh (by unfold yw;rw[<-hm];rfl);have HR:Kq ((db c st i p).2.2.2.pc=r.pc):=qh (by rw[<-hm]);clear hI h C hp hT hm e1 e2 q1 q2 hc Kw;obtain⟨pc,u,b,z⟩:=p;obtain⟨I,Y,b',z'⟩:=r;simp only at u1 u2 u3 HQ HR;unfold aC at HS;have Ll:=aO;cases v1:(I==10)<;>cases v2:(I==0)
  all_goals
    go_enter func237,ntmps237;go_wp2_with fail;refine Pi HS.o λw1 b1=>?_;have K1:=qh (H.o.below b1.o.drew);have T1:=qh (aa.of_below (S:=CoS a g x) b1.o.drew);have Kg:=b1.o.size;go_wp2_with fail
    go_region_held3 (λW=>Z W x.l 8 (slice (some ⟨x.qs,0,none⟩) x.n x.n))
      (first|with_reducible exact HC.o _ _ K1.o|with_reducible exact HC.o _ _ O.o|with_reducible exact HC.o _ _ V.o)
      (first
        | (go_at_call 243;go_loud (refine(HI.o _ K1.o).mono ?_);rintro en w3 ⟨he,k3,t3⟩;rw[HR.o]at he;subst he;rw[HX.o]at k3;have O:=qh k3;have T2:=qh (T1.o.trans t3);have V:=qh (O.o.put0 (p':=(⟨I,Y,b',z'⟩:Sp)) (au HT.o _) (u:= J I) rfl);have e1:=O.o.sp.cell (au HT.o _) 0 _ rfl;have z1:=O.o.sp.free (i*4);simp only[Nat.add_zero]at e1;clear k3 t3))
  all_goals have e4:=V.o.sp.cell (au (au HT.o _) _) 0 _ rfl;have Ty:=HC.o _ _ V.o;simp only[Nat.add_zero]at e4;clear e1 z1;go_wp2;go_ret;refine⟨by rw[HQ.o,v1,v2];rfl,?_,T2.o.trans (ug _ _)⟩;have k:=V.o;rw[show(({s:=s1,G:=G1,L:=L1,T:=(st.T.set i {(⟨I,Y,b',z'⟩:Sp)with pc:=pc}).set i ⟨I,Y,b',z'⟩}:Co))=js st i (s1,G1,L1,⟨I,Y,b',z'⟩)from by unfold js;simp]at k;exact k
def mz(h:aD B w a g x c P T st)(C:df BB x c st)(i:Nat)(hi:i<x.n):E 237 #[↑x.l,J i] w (mE B w a g x c P T (am c st i) (bo (sv st.T i) (sv (am c st i).T i))):=by
  have I:=C.v.k i hi;by_cases H:(sv st.T i).pc=0\/(sv st.T i).pc=10;. exact AH h i hi H
  by_cases h1:(sv st.T i).pc<10;. exact uM h C i hi (by unfold dm at I;omega)
  . exact sE h C i hi ahp
def sf(h:aD B w a g x c P T st)(i:Nat)(hi:i<x.n):E 233 #[↑x.l,J i] w (mE B w a g x c P T (bI c st i) (decide ((sv st.T i).pc=0))):=by
  obtain⟨y,v,S,hy,O,hS,hs,JV⟩:=h.loc hi;have hT:=h.thr hi;have e0:=aaa (h.sp.cell hT 0 _ rfl);have hn:=h.fx.n32;have c8:=CoN.spots h;have KO:=h.lk.lt;have JY:=h.sp.lt;have t2:¬(i:Int)<0:=by omega
  have HH:=qh (E0 h i hi);have Lx:=qh (oU h i hi hy O);have Lj:=qh (λw1 (b1:Below w.heap.size w w1)=>CoN.mk' h b1 y v);have HA:=qh (λW (k:aD B W a g x c P T st)=>Dw k i hi hy);have H:=qh h;obtain⟨Qd,I⟩:=LE (bI c st i);rw[<-I];unfold bI at I;obtain⟨L1,VK⟩:=LE (setL c st i (askK c.kl (lsp st.L (c.node i) (c.slot i))));rw[<-VK]at I HA;obtain⟨p,hp⟩:=LE (sv st.T i);rw[<-hp]at I e0 hT ⊢;have HT:=qh hT;have HE:=qh I;clear h hy O hS hs JV hp VK I hT;obtain⟨pc,u,b,z⟩:=p;simp only at HE;by_cases Y:pc=0;. subst Y;go_enter func233,ntmps233;go_wp2_with fail;refine LT HH.o ?_;go_wp2_with fail;refine Pi Lx.o λw1 b1=>?_;have N1:=qh (Lj.o w1 b1.o);have Kg:=b1.o.size;have k0:=N1.o.n0;go_wp2_with fail;refine(HA.o _ N1.o.is).mono ?_;rintro en w2 ⟨⟨bb,rfl⟩,k2,KK⟩;have V:=qh (N1.o.to k2 KK);have Ty:=CoN.spots V.o.is;have e2:=aaa (V.o.is.sp.cell HT.o 0 _ rfl);have z2:=V.o.is.sp.free (i*4);clear k2 KK k0;have N3:=qh (V.o.is.put0 (p':=(⟨1,u,b,z⟩:Sp)) HT.o (u:= J 1) rfl);have T3:=qh (V.o.tn.trans (ug (a:=a) (g:=g) (x:=x) (w:=w2) (i*4) (J 1)));go_wp2;go_ret;refine⟨rfl,?_,T3.o⟩;rw[HE.o];exact N3.o
  . have u1:(pc !=0)=true:=(by simpa using Y);have e9:decide (pc=0)=false:=(by simpa using Y);show Calls _ _ _ _ (mE B w a g x c P T Qd (decide (pc=0)));rw[e9];go_enter func233,ntmps233;go_wp2_with fail;refine LT HH.o ?_;go_wp2;go_ret;refine⟨rfl,?_,aa.refl _ _⟩;rw[HE.o,if_neg Y];exact H.o
def kZ(h:aD B w a g x c P T st)(i:Nat)(hi:i<x.n):E 235 #[↑x.l,J i] w (mE B w a g x c P T (aA st i) (decide ((sv st.T i).pc=10))):=by
  have hT:=h.thr hi;have hn:=h.fx.n32;have t2:¬(i:Int)<0:=by omega
  have O:=qh (mx h i hi);have H:=qh h;obtain⟨Qd,I⟩:=LE (aA st i);rw[<-I];unfold aA at I;obtain⟨p,hp⟩:=LE (sv st.T i);rw[<-hp]at I hT O ⊢;have HT:=qh hT;have HE:=qh I;clear h hp I hT;obtain⟨pc,u,b,z⟩:=p;simp only at HE;unfold aC at O;have Ll:=aO;by_cases V:pc=10;. subst V;go_enter func235,ntmps235;go_wp2_with fail;refine Pi O.o λw1 b1=>?_;have Y:=qh (H.o.below b1.o);have T1:=qh (aa.of_below (S:=CoS a g x) b1.o);have Ty:=CoN.spots Y.o;have e2:=aaa (Y.o.sp.cell HT.o 0 _ rfl);have z2:=Y.o.sp.free (i*4);have N3:=qh (Y.o.put0 (p':=(⟨11,u,b,z⟩:Sp)) HT.o (u:= J 11) rfl);have T3:=qh (T1.o.trans (ug (a:=a) (g:=g) (x:=x) (w:=w1) (i*4) (J 11)));go_wp2;go_ret;refine⟨rfl,?_,T3.o⟩;rw[HE.o];exact N3.o
  . have u1:(pc !=10)=true:=(by simpa using V);have e9:decide (pc=10)=false:=(by simpa using V);show Calls _ _ _ _ (mE B w a g x c P T Qd (decide (pc=10)));rw[e9];go_enter func235,ntmps235;go_wp2_with fail;refine Pi O.o λw1 HB=>?_;go_wp2;go_ret;refine⟨rfl,?_,aa.of_below HB.o⟩;rw[HE.o,if_neg V];exact H.o.below HB.o
end
end
end Go.Proofs.YtglokdbiggbkjaaGreat
