/- Joined texts. -/
import Derived.RowKit
import Derived.Test.YtglokdbiggbkjaaGreatMgLocksSafe0
import Derived.Test.YtglokdbiggbkjaaGreatMgLocksSafe1
import Derived.Test.YtglokdbiggbkjaaGreatMgLocksSafe4
import Derived.Test.YtglokdbiggbkjaaGreatMgLocksSafe11
import Derived.Test.YtglokdbiggbkjaaGreatMgLocksSafe14
import Derived.Test.YtglokdbiggbkjaaGreatMgLocksSafe15
set_option linter.unusedVariables false
set_option linter.unusedSimpArgs false
set_option maxRecDepth 100000
set_option maxHeartbeats 16000000
namespace Go.Proofs.YtglokdbiggbkjaaGreat
section
open Go Go.RowKit
def zm (xl:Nat):Value:= .iface 173 (.agg #[.iface 169 ↑xl])
structure mO where
 x:Cox
 B:Nat->Prop
 a:Nat
 g:Nat
 hi:Nat
def Fo (c:CoC)(n Nn:Nat)(ml:Nat->Nat)(L:Nat)(st:Co)(N:Nat):Prop:=
 CoM c n Nn ml st/\bH c n L (40+2*N) (N+40) st/\∀i,(sv st.T i).pc=10->0<(sv st.T i).a
def EF (c:CoC)(P T:List Int)(L:Nat):LkM T.length where
 σ:=Co
 β:=mO
 ok:=Fo c T.length (ab P).length (mtQ P T) L
 ar:=λst=>st.s
 sp:=λst i=>sv st.T i
 cn:=λst i=>if (sv st.T i).pc=10 then(sv st.T i).a else 0
 rd:=false
 step:=ak c
 ask:=λst i r=>if r then st else bD c st i
 leave:=ay
 hi:=λb=>b.hi
 fp:=λb=>CoS b.a b.g b.x
 is:=λb w a g lb st=>aB b.B w a g b.x c P T st/\(b.a=a/\b.g=g)/\jk w lb T.length 6 (zm b.x.l) (CoS b.a b.g b.x) b.hi/\∀i,eK b.x b.B i->i<b.hi
theorem aB.farK{B:Nat->Prop}{w w':World}{a g:Nat}{x:Cox}{c:CoC}{P T:List Int}{st:Co}{S:List Nat}(h:aB B w a g x c P T st)(t:aa S w w')(ha:a∉S)(hg:g∉S)(hS:∀i∈S,¬eK x B i):aB B w' a g x c P T st:=by
 have ar:=h.ar.turns t ha hg;have nb:∀r,eK x B r->r∉S:=λr hb hm=>hS r hm hb;obtain⟨Z,z⟩:=h.nd
 refine⟨h.fx,ar,t.blk h.lk (nb _ (.inl rfl)),h.tb.turns t (λi hi hb=>nb i (.inr (.inr (.inr (.inr (.inr hb))))) hi),⟨Z,t.blk z (nb _ (.inr (.inl rfl)))⟩,
  h.sp.turns t (nb _ (.inr (.inr (.inl rfl)))),
  h.gl.oth t ar (nb _ (.inr (.inr (.inr (.inl (.inl rfl)))))) (nb _ (.inr (.inr (.inr (.inl (.inr (.inl rfl))))))) (nb _ (.inr (.inr (.inr (.inl (.inr (.inr rfl))))))),
  λn y S' hy hS'=>?_,h.lL,h.lG,h.lS,h.sl⟩
 have hm:y∈x.X:=List.mem_of_getElem? hy;exact(h.lo n y S' hy hS').oth t ar (nb _ (.inr (.inr (.inr (.inr (.inl ⟨y,hm,.inl rfl⟩)))))) (nb _ (.inr (.inr (.inr (.inr (.inl ⟨y,hm,.inr (.inl rfl)⟩)))))) (nb _ (.inr (.inr (.inr (.inr (.inl ⟨y,hm,.inr (.inr rfl)⟩))))))
theorem zn (c:CoC)(st:Co)(i:Nat)(p:Sp)(hp:p.pc≠10)(h:(cO c st i p).2.2.2.pc=10):0<(cO c st i p).2.2.2.a:=by
 revert h;unfold cO zl rE;repeat' split
 all_goals (intro h;simp only at h ⊢;omega)
theorem Ed (st:Co)(i:Nat)(q:Sp)(j:Nat)(h:(sv st.T j).pc=10->0<(sv st.T j).a)(hq:q.pc=10->0<q.a):(sv (st.T.set i q) j).pc=10->0<(sv (st.T.set i q) j).a:=by
 rw[cD];split;·exact hq
 ·exact h
theorem zx {B:Nat->Prop} {w:World} {a g:Nat} {x:Cox} {c:CoC} {P T:List Int} {st:Co} (h:aB B w a g x c P T st) (i:Nat) (hi:i<x.n):
    Calls Tryz.prog 234 #[↑x.l,.int .i64 i] w λe w'=>e= .returned (.int .i64 (if (sv st.T i).pc=10 then(sv st.T i).a else 0))/\Below w.heap.size w w':=by
  have hfield:=aK;have HS:=qh (λw' (b:Below w.heap.size w w')=>lQ (h.below b) i hi);obtain⟨p,hp⟩:∃p,p=sv st.T i:=⟨_,rfl⟩;rw[<-hp]at HS ⊢;clear h hp;obtain⟨pc,u,b,z⟩:=p;unfold aE at HS;simp only;by_cases h0:pc=10;· subst h0;rw[if_pos rfl];go_enter Tryz.func234,Tryz.ntmps234;go_wp2_with fail;refine(HS.o _ (Below.refl _ _)).mono ?_;rintro en w1 ⟨rfl,b1⟩;have HB:=qh (((((b1.alloc b1.size (.cells #[.int .i64 10,.int .i64 u,.int .i64 b,.int .i64 z] 113))))));clear b1;go_wp2;go_ret;exact⟨rfl,HB.o⟩
  · rw[if_neg h0];have t0:(pc !=10)=true:=(by simpa using h0);go_enter Tryz.func234,Tryz.ntmps234;go_wp2_with fail;refine(HS.o _ (Below.refl _ _)).mono ?_;rintro en w1 ⟨rfl,b1⟩;have HB:=qh (((((b1.alloc b1.size (.cells #[.int .i64 pc,.int .i64 u,.int .i64 b,.int .i64 z] 113))))));clear b1;go_wp2;go_ret;exact⟨rfl,HB.o⟩
theorem xK{c:CoC}{P T:List Int}{L:Nat}(hc:a5 P T=0)(hy:cp c T.length (ab P).length (mtQ P T))(h0:kB c T.length (ab P).length L):(EF c P T L).Good where
 n32:=by have:=bh (aR hc).1;exact⟨this.2.2.1,this.2.2.2⟩
 okS:=fun(st:Co) N i h hN hi=>by
  unfold lkB at hN
  obtain⟨h1,h2,h3⟩:=h
  have k2:=h2.step h0 QX QX hi
  refine⟨h1.step hy h2.bd QX QX hi,⟨k2.bd.mono Ro,k2.v,k2.len,by have:=k2.ops;show(ak c st i).s.ops<=_;omega⟩,λj=>?_⟩
  show(sv (ak c st i).T j).pc=10->0<(sv (ak c st i).T j).a
  unfold ak
  split
  ·exact h3 j
  ·rename_i e
   exact Ed st i _ j (h3 j) (zn c st i _ QX)
 okA:=fun(st:Co) N i r h hN hi=>by
  unfold lkB at hN
  obtain⟨h1,h2,h3⟩:=h
  cases r
  ·have k2:=h2.ask h0 QX hi
   refine⟨h1.ask hy hi,⟨k2.bd.mono Ro,k2.v,k2.len,by have:=k2.ops;show(bD c st i).s.ops<=_;omega⟩,λj=>?_⟩
   show(sv (bD c st i).T j).pc=10->0<(sv (bD c st i).T j).a
   unfold bD
   exact JD
  ·exact⟨h1,⟨h2.bd.mono Ro,h2.v,h2.len,by have:=h2.ops;show st.s.ops<=_;omega⟩,h3⟩
 okL:=fun(st:Co) N i h hN hi=>by
  unfold lkB at hN
  obtain⟨h1,h2,h3⟩:=h
  have k2:=h2.leave h0 QX hi
  refine⟨h1.leave hy hi,⟨k2.bd.mono Ro,k2.v,k2.len,by have:=k2.ops;show(ay st i).s.ops<=_;omega⟩,λj=>?_⟩
  show(sv (ay st i).T j).pc=10->0<(sv (ay st i).T j).a
  unfold ay
  exact JD
 okm:=fun(st:Co) N h=>⟨h.1,⟨h.2.1.bd.mono Ro,h.2.1.v,h.2.1.len,by have:=h.2.1.ops;show st.s.ops<=_;omega⟩,h.2.2⟩
 one:=fun(st:Co) N i j h hi hj h1 h2 _=>h.1.one hy hi hj (by have e:(sv st.T i).pc=10:=h1;omega) (by have e:(sv st.T j).pc=10:=h2;omega)
 pcs:=fun(st:Co) N i h hi=>by
  have:=h.1.v.k i hi
  unfold db at this
  show 0<=(sv st.T i).pc
  omega
 cnt:=fun(st:Co) N i h hi=>by
  show(sv st.T i).pc=10↔0<(if (sv st.T i).pc=10 then(sv st.T i).a else 0)
  have:=h.2.2 i
  split
  ·rename_i e;exact⟨λ_=>this e,λ_=>e⟩
  ·rename_i e;exact⟨λq=>absurd q e,λq=>by omega⟩
 opsS:=fun(st:Co) N i _ _ _=>(mh i).1
 arA:=fun(st:Co) i r=>by
  cases r
  ·show(bD c st i).s=st.s
   unfold bD;split<;>rfl
  ·rfl
 arL:=fun(st:Co) i=>by
  show(ay st i).s=st.s
  unfold ay;split<;>rfl
 ais:=fun(b:mO) w a g lb (st:Co) h=>h.1.ar
 lk:=fun(b:mO) w a g lb (st:Co) h=>h.2.2.1.c1
 kd:=fun(b:mO) w a g lb (st:Co) h=>⟨6,h.2.2.1.blk.cell 0,rfl⟩
 fpa:=fun(b:mO) w a g lb (st:Co) h=>⟨h.2.2.1.fl,h.2.2.1.hw⟩
 far:=fun(b:mO) w a g lb (st:Co) w' S h t hS=>by
  obtain⟨k,⟨rfl,rfl⟩,hd,hl⟩:=h
  have h9:∀x∈S,b.hi<=x:=hS
  have hf:=hd.fl
  refine⟨k.farK t (λm=>?_) (λm=>?_) (λi m hb=>?_),⟨rfl,rfl⟩,hd.far t h9,hl⟩
  ·have:=h9 _ m;have:=hf b.a RE;omega
  ·have:=h9 _ m;have:=hf b.g RE;omega
  ·have:=h9 _ m;have:=hl _ hb;omega
 cS:=fun(b:mO) w a g lb (st:Co) N i h hk hN hi=>by
  unfold lkB at hN
  obtain⟨k,⟨rfl,rfl⟩,hd,hl⟩:=h
  have en:=k.fx.nT
  have eN:=k.fx.nN
  have C:=(en ▸ hk.2.1:bH c b.x.n L (40+2*N) (N+40) st).pre (by rw[en,eN];exact h0) k.fx QX QX QX
  have hi2:i<b.x.n:=by rw[en];exact hi
  refine(nA .co hd.c1 hd.c2 hi (R:=λr w'=>r=dA (sv st.T i) (sv (ak c st i).T i)/\aB b.B w' b.a b.g b.x c P T (ak c st i)/\aa (CoS b.a b.g b.x) w w') λW bw=>?_).mono ?_
  ·refine(lR (k.below bw) C i hi2).mono ?_
   exact JE
  ·exact JF
 cA:=fun(b:mO) w a g lb (st:Co) N i r h hk hN hi=>by
  obtain⟨k,⟨rfl,rfl⟩,hd,hl⟩:=h
  have hi2:i<b.x.n:=by rw[k.fx.nT];exact hi
  refine(xu .co hd.c1 hd.c2 hi r (R:=λq w'=>q=decide ((sv st.T i).pc=0/\(r=true->(false:Bool)=true))/\aB b.B w' b.a b.g b.x c P T (if r then st else bD c st i)/\aa (CoS b.a b.g b.x) w w') (λhr W bw=>?_) (λhr W bw=>?_)).mono ?_
  ·subst hr
   refine(rt (k.below bw) i hi2).mono ?_
   exact JG
  ·exact IQ
  ·exact JF
 cL:=fun(b:mO) w a g lb (st:Co) N i h hk hN hi=>by
  obtain⟨k,⟨rfl,rfl⟩,hd,hl⟩:=h
  have hi2:i<b.x.n:=by rw[k.fx.nT];exact hi
  refine(kv .co hd.c1 hd.c2 hi (R:=λq w'=>q=decide ((sv st.T i).pc=10)/\aB b.B w' b.a b.g b.x c P T (ay st i)/\aa (CoS b.a b.g b.x) w w') λW bw=>?_).mono ?_
  ·refine(kJ (k.below bw) i hi2).mono ?_
   exact JE
  ·exact JF
 cP:=fun(b:mO) w a g lb (st:Co) i h hi=>nz .co h.2.2.1.c1 h.2.2.1.c2 hi _ λW bw=>lQ (h.1.below bw) i (by rw[h.1.fx.nT];exact hi)
 cC:=fun(b:mO) w a g lb (st:Co) i h hi=>rK .co h.2.2.1.c1 h.2.2.1.c2 hi _ λW bw=>zx (h.1.below bw) i (by rw[h.1.fx.nT];exact hi)
end
section
open Go Go.RowKit
def nxA (t x:Int):Int:=wrap64 (wrap64 (t+wrap64 (2*x))-1)
def stA (t x:Int):Int:=wrap64 (t+wrap64 (2*x))
def iC (s:Ar)(t x:Int)(p:Sp):Ar×Sp:=
 if p.pc=1 then(ac s (nxA t x) 0,{p with pc:=2})
 else if p.pc=2 then(ac s (stA t x) 0,{p with pc:=3})
 else if p.pc=3 then(bY s t x,{p with a:=ldW s.W t,pc:=if ldW s.W t=0 then 6 else 4})
 else if p.pc=4 then(ac s (nxA t p.a) x,{p with pc:=5})
 else if p.pc=5 then(ae s (stA t x),if 0<ldW s.W (stA t x)then {p with a:=ldW s.W (stA t x),b:=0,pc:=10} else if ldW s.W (stA t x)<0 then {p with a:=ldW s.W (stA t x),pc:=6} else {p with a:=ldW s.W (stA t x),pc:=5})
 else(ac s (stA t x) 1,{p with a:=1,b:=1,pc:=10})
def eu (s:Ar)(t x:Int)(p:Sp):Ar×Sp:=
 if p.pc=12 then(dO s t x 0,{p with pc:=if cl s t x then 0 else 13})
 else if p.pc=14 then(ac s (stA t p.a) p.c,{p with pc:=0})
 else if p.pc=15 then(ae s (nxA t x),{p with b:=ldW s.W (nxA t x),pc:=if ldW s.W (nxA t x)=0 then 10 else 16})
 else if p.pc=16 then(ac s (stA t p.b) p.c,{p with pc:=0})
 else(ae s (nxA t x),{p with a:=ldW s.W (nxA t x),pc:=if ldW s.W (nxA t x)≠0 then 14 else if p.pc=11 then 12 else 13})
def cQ (s:Ar)(t x:Int)(p:Sp):Ar×Sp:=if p.pc<10 then iC s t x p else eu s t x p
end
section
open Go
def rN (W:List Int)(x:Int):Int:=if 1<=x then ldW W (2*x)else 0
def rS (W:List Int)(x:Int):Int:=if 1<=x then ldW W (2*x+1)else 0
abbrev Fl (S:Int->Int)(σ:Nat->Sp):Nat->Prop:=iW 6 (λv=>v≠0) S σ
structure RtI (n:Nat)(t:Int)(N S:Int->Int)(σ:Nat->Sp):Prop where
 tk:iY n (Fl S σ) (t=0)
 vt:0<=t/\t<=n
 pcs:∀i,i<n->(0<=(σ i).pc/\(σ i).pc<=6)\/(10<=(σ i).pc/\(σ i).pc<=16)
 z:∀i,i<n->(σ i).pc=3\/(σ i).pc=4->S (numT i)=0
 n2:∀i,i<n->(σ i).pc=2\/(σ i).pc=3->N (numT i)=0
 tl:∀i,i<n->t=numT i->4<=(σ i).pc/\N t=0
 l:∀i,i<n->(σ i).pc=4->(1<=(σ i).a/\(σ i).a<=n)/\t≠(σ i).a/\N (σ i).a=0/\∀j,j<n->numT j=(σ i).a->4<=(σ j).pc/\j≠i
 u4:∀i j,i<n->j<n->(σ i).pc=4->(σ j).pc=4->(σ i).a=(σ j).a->i=j
 nx:∀j,j<n->4<=(σ j).pc->N (numT j)≠0->(1<=N (numT j)/\N (numT j)<=n)/\∀i,i<n->numT i=N (numT j)->(σ i).pc=5/\S (numT i)=0
 u:∀j k,j<n->k<n->4<=(σ j).pc->4<=(σ k).pc->N (numT j)≠0->N (numT j)=N (numT k)->j=k
 s14:∀i,i<n->(σ i).pc=14->N (numT i)=(σ i).a/\(σ i).a≠0
 s16:∀i,i<n->(σ i).pc=16->N (numT i)=(σ i).b/\(σ i).b≠0
structure RtS (n:Nat)(W:List Int)(S:List Sp):Prop where
 i:RtI n (ldW W 1) (rN W) (rS W) (sv S)
 len:S.length=n
 wln:W.length=2*n+1
section
variable{n:Nat}{W:List Int}
theorem qv{m:Nat}(wl:W.length=m)(a v b:Int):ldW (stW W a v) b=if b=a/\1<=a/\a<=m then v else ldW W b:=by exact JA
theorem sK (wl:W.length=2*n+1)(x v:Int)(h1:1<=x)(h2:x<=n):ldW (stW W (2*x) v) 1=ldW W 1/\rN (stW W (2*x) v)=updF (rN W) x v/\rS (stW W (2*x) v)=rS W:=by exact JH
theorem pN (wl:W.length=2*n+1)(x v:Int)(h1:1<=x)(h2:x<=n):ldW (stW W (2*x+1) v) 1=ldW W 1/\rN (stW W (2*x+1) v)=rN W/\rS (stW W (2*x+1) v)=updF (rS W) x v:=by exact JH
theorem wg (wl:W.length=2*n+1)(v:Int):ldW (stW W 1 v) 1=v/\rN (stW W 1 v)=rN W/\rS (stW W 1 v)=rS W:=by simp only[funext_iff,rN,rS,qv wl];exact Jf
end
theorem AZ (j:Nat):1<=numT j:=by unfold numT;omega
theorem RtS.go{n i:Nat}{ar:Ar}{S:List Sp}(k:RtS n ar.W S)(hn:n<=32)(hi:i<n){p:Sp}(hp:p=sv S i)(h0:¬(p.pc=0\/p.pc=10)){r:Ar×Sp}(hr:r=cQ ar 1 (numT i) p):RtS n r.1.W (S.set i r.2):=by
 have hs:∀q,sv (S.set i q)=λj=>if j=i then q else sv S j:=λq=>by funext j;rw[cD];grind [k.len]
 have lN:∀x,1<=x->ldW ar.W (2*x)=rN ar.W x:=λx hx=>by unfold rN;rw[if_pos hx]
 have lS:∀x,1<=x->ldW ar.W (2*x+1)=rS ar.W x:=λx hx=>by unfold rS;rw[if_pos hx]
 have hcas:cl ar 1 (numT i)=decide (ldW ar.W 1=numT i):=by unfold cl;rw[aO.2 (by rw[k.wln];omega)];rfl
 have inj:=λj k=>@iO j k;have pos:=AZ;obtain⟨⟨tk,vt,pcs,z,n2,tl,l,u4,nx,u,s14,s16⟩,len,wln⟩:=k;have hx1:1<=numT i/\numT i<=n:=by unfold numT;omega
 have hA:∀x:Int,1<=x->x<=n->nxA 1 x=2*x/\stA 1 x=2*x+1:=λx h1 h2=>by unfold nxA stA RowKit.wrap64;omega
 have h2:=pcs i hi;have h4:=l i hi;have h14:=s14 i hi;have h16:=s16 i hi;have hnx:=nx i hi;rw[<-hp]at h2 h4 h14 h16 hnx;obtain⟨pc,a,b,c⟩:=p;simp only at h0 h2 h4 h14 h16 hnx;have hc:pc=1\/pc=2\/pc=3\/pc=4\/pc=5\/pc=6\/pc=11\/pc=12\/pc=13\/pc=14\/pc=15\/pc=16:=by omega
 rcases hc with rfl|rfl|rfl|rfl|rfl|rfl|rfl|rfl|rfl|rfl|rfl|rfl
 all_goals simp[cQ,iC,eu,hA (numT i) hx1.1 hx1.2,hcas,lN (numT i) hx1.1,lS (numT i) hx1.1]at hr;repeat' split at hr
 all_goals
  try rw[(hA a QX QX).1]at hr
  try rw[(hA a QX QX).2]at hr
  try rw[(hA b QX QX).2]at hr
  subst hr;refine⟨?_,by simp[len],?_⟩
 all_goals try simp only[aw,aM,dI,gG]
 all_goals try simp only[hcas,decide_eq_true_eq]
 all_goals try first|rw[if_pos Rk]|rw[if_neg Rk]
 all_goals try first|(simp only[bE,wln];done)
 all_goals rw[hs]
 all_goals try first
  |rw[(sK wln _ _ QX QX).1,(sK wln _ _ QX QX).2.1,(sK wln _ _ QX QX).2.2]
  |rw[(pN wln _ _ QX QX).1,(pN wln _ _ QX QX).2.1,(pN wln _ _ QX QX).2.2]
  |rw[(wg wln _).1,(wg wln _).2.1,(wg wln _).2.2]
 all_goals have hsi:=congrArg Sp.pc hp.symm;have hsa:=congrArg Sp.a hp.symm;dsimp only at hsi hsa;clear hs lN lS hcas hp wln len hA hn;generalize hee:(λj=>if j=i then _ else sv S j)=σ';have he:=λj=>(congrFun hee j).symm;clear hee;generalize sv S=σ at *;generalize ldW ar.W 1=t at *;generalize rN ar.W=N at *;generalize rS ar.W=G at *;have hx:∀x:Int,1<=x->x<=n->∃j,j<n/\numT j=x:=λx h1 h2=>⟨(x-1).toNat,by omega,by unfold numT;omega⟩
 all_goals
  refine⟨?_,by omega,λj hj=>?_,λj hj=>?_,λj hj=>?_,λj hj=>?_,λj hj=>?_,λj k hj hk=>?_,λj hj=>?_,λj k hj hk=>?_,λj hj=>?_,λj hj=>?_⟩;·first|exact tk.own hi he QX RN RR|exact tk.o hi he QX QZ Re RS|exact tk.low hi he Sg QZ RN|exact tk.door hi he QX Re QX|exact tk.ent hi he QX (show G (numT i)≠0 by omega)
  ·have e:=he j;have:=pcs j hj;clear tk vt pcs z n2 tl l u4 nx u s14 s16 h2 h4 h14 h16 hnx inj pos hx he;grind
  ·have e:=he j;have:=z j hj;have h1:=λa b=>(hnx a b).2 j hj;have h3:=inj j i;clear tk vt pcs z n2 tl l u4 nx u s14 s16 h2 h4 hnx inj pos hx he;exact JI
  ·have e:=he j;have:=n2 j hj;have h3:=inj j i;have h1:=λh=>(h4 h).2.2.2 j hj;clear tk vt pcs z n2 tl l u4 nx u s14 s16 h2 h4 h14 h16 hnx inj pos hx he;exact JI
  ·have e:=he j;have h1:=tl j hj;have hq:=pos j;have h3:=inj j i;have h5:=n2 i hi;clear tk vt pcs z n2 tl l u4 nx u s14 s16 h2 hnx inj pos hx he;exact JI
  ·have e:=he j;have h1:=l j hj;have h5:=n2 i hi;have h7:=tl i hi;have h8:=u4 j i hj hi;intro q;have hl:∀k,k<n->numT k=(σ' j).a->4<=(σ' k).pc/\k≠j:=(by intro k hk h;have ek:=he k;have h9:=λa=>(h1 a).2.2.2 k hk;have h10:=tl k hk;clear u4 nx u s14 s16 pcs z hnx n2 tk he tl l hx inj;grind);refine⟨?_,?_,?_,hl⟩;all_goals clear u4 nx u s14 s16 pcs z hnx n2 tk he l hl inj;grind [updF]
  ·have e:=he j;have ek:=he k;have h1:=u4 j k hj hk;have h2:=l j hj;have h3:=l k hk;clear tk vt pcs z n2 tl l u4 nx u s14 s16 h4 h14 h16 hnx inj pos hx he;grind
  ·have e:=he j;have h1:=nx j hj;have h5:=n2 i hi;have h6:=inj j i;have h7:=u j i hj hi;have h8:=z i hi;clear u4 nx u s14 s16 pcs z n2 tk tl l;exact JI
  ·have e:=he j;have ek:=he k;have h1:=u j k hj hk;have h5:=n2 i hi;have h6:=inj j i;have h7:=inj k i;have h8:=inj j k;have h9:=λa b=>(nx j hj a b).2 i hi;have h10:=λa b=>(nx k hk a b).2 i hi;clear u4 nx u s14 s16 pcs z n2 tk tl l he hnx inj hx h4 h14 h16;first|grind [updF]|(intros;simp only[updF]at *;grind)
  ·have e:=he j;have h1:=s14 j hj;have h3:=inj j i;have h5:=λh=>(h4 h).2.2.1;clear tk vt pcs z n2 tl l u4 nx u s14 s16 h2 h4 h16 hnx inj pos hx he;exact JI
  ·have e:=he j;have h1:=s16 j hj;have h3:=inj j i;have h5:=λh=>(h4 h).2.2.1;clear tk vt pcs z n2 tl l u4 nx u s14 s16 h2 h4 h14 hnx inj pos hx he;exact JI
theorem RtS.beg{n i:Nat}{W:List Int}{S:List Sp}(k:RtS n W S)(hi:i<n){p':Sp}(hp:((sv S i).pc=10/\(p'.pc=11\/p'.pc=15))\/((sv S i).pc=0/\p'.pc=1)):RtS n W (S.set i p'):=by
 obtain⟨⟨tk,vt,pcs,z,n2,tl,l,u4,nx,u,s14,s16⟩,len,wln⟩:=k;refine⟨?_,by simp[len],wln⟩;have he:∀j,sv (S.set i p') j=if j=i then p' else sv S j:=λj=>by rw[cD];grind
 generalize sv (S.set i p')=σ' at *;generalize sv S=σ at *;refine⟨?_,vt,?_,?_,?_,?_,?_,?_,?_,?_,?_,?_⟩;·exact Jg
 ·intro j hj;have e:=he j;have q:=pcs j hj;clear tk pcs z n2 tl l u4 nx u s14 s16 he;grind
 ·intro j hj;have e:=he j;have q:=z j hj;clear tk pcs z n2 tl l u4 nx u s14 s16 he;grind
 ·intro j hj;have e:=he j;have q:=n2 j hj;clear tk pcs z n2 tl l u4 nx u s14 s16 he;grind
 ·intro j hj;have e:=he j;have q:=tl j hj;clear tk pcs z n2 tl l u4 nx u s14 s16 he;grind
 ·intro j hj h4;have e:=he j;have hji:j≠i:=λh=>by rw[if_pos h]at e;rw[e]at h4;omega
  rw[if_neg hji]at e;obtain⟨q1,q2,q3,q4⟩:=l j hj (by rw[<-e];exact h4);rw[e];refine⟨q1,q2,q3,λk hk hk2=>?_⟩;have:=q4 k hk hk2;have:=he k;exact JJ
 ·intro j k hj hk;have e:=he j;have e2:=he k;have q:=u4 j k hj hk;clear tk pcs z n2 tl l u4 nx u s14 s16 he;grind
 ·intro j hj h4 h5;have e:=he j;have h6:4<=(σ j).pc:=by clear tk pcs z n2 tl l u4 nx u s14 s16 he;grind
  have:=nx j hj h6 h5;refine⟨this.1,λk hk hk2=>?_⟩;have q:=this.2 k hk hk2;have:=he k;exact JJ
 ·intro j k hj hk h1 h2;have e:=he j;have e2:=he k;have q:=u j k hj hk;exact JJ
 ·intro j hj;have e:=he j;have q:=s14 j hj;clear tk pcs z n2 tl l u4 nx u s14 s16 he;grind
 ·intro j hj;have e:=he j;have q:=s16 j hj;clear tk pcs z n2 tl l u4 nx u s14 s16 he;grind
theorem RtS.reach{n i:Nat}{W:List Int}{S:List Sp}(k:RtS n W S)(hi:i<n):((sv S i).pc=4\/(sv S i).pc=14->1<=(sv S i).a/\(sv S i).a<=n)/\((sv S i).pc=16->1<=(sv S i).b/\(sv S i).b<=n):=by have h1:=k.i.l i hi;have h2:=k.i.s14 i hi;have h3:=k.i.s16 i hi;have h4:=k.i.nx i hi;grind
inductive RC (n:Nat)(W W':List Int)(S:List Sp)(i:Nat)(p p':Sp):Prop where
 |come (h:(1<=p.pc/\p.pc<=6)/\(1<=p'.pc/\p'.pc<=6)/\(p'.pc=5->rS W' (numT i)=0)/\¬(p.pc=5/\0<rS W (numT i)))
 |told (h:p.pc=5/\p'.pc=10/\0<rS W (numT i)/\p'.a=rS W (numT i)/\p'.b=0)
 |hold (h:p.pc=6/\p'.pc=10/\p'.a=1/\p'.b=1)
 |o (h:(11<=p.pc/\p.pc<=13)/\(12<=p'.pc/\p'.pc<=14)/\p'.c=p.c)
 |free (h:p.pc=12/\p'.pc=0)
 |give (s:Nat) (h:(p.pc=14\/p.pc=16)/\p'.pc=0/\(s<n/\s≠i)/\(sv S s).pc=5/\rS W (numT s)=0/\rS W' (numT s)=p.c/\∀j,j≠s->rS W' (numT j)=rS W (numT j))
 |look (h:p.pc=15/\(p'.pc=10\/p'.pc=16)/\p'.a=p.a/\p'.c=p.c)
theorem RtS.case {n i:Nat} {ar:Ar} {S:List Sp} (k:RtS n ar.W S) (hn:n<=32) (hi:i<n) {p:Sp} (hp:p=sv S i) (h0:¬(p.pc=0\/p.pc=10)) {r:Ar×Sp} (hr:r=cQ ar 1 (numT i) p):
    RC n ar.W r.1.W S i p r.2/\(¬(p.pc=14\/p.pc=16)->∀j,j≠i->rS r.1.W (numT j)=rS ar.W (numT j)):=by
  have lN:∀x,1<=x->ldW ar.W (2*x)=rN ar.W x:=λx hx=>by unfold rN;rw[if_pos hx]
  have lS:∀x,1<=x->ldW ar.W (2*x+1)=rS ar.W x:=λx hx=>by unfold rS;rw[if_pos hx]
  have hcas:cl ar 1 (numT i)=decide (ldW ar.W 1=numT i):=by unfold cl;rw[aO.2 (by rw[k.wln];omega)];rfl
  have inj:=λj k=>@iO j k;have hx1:1<=numT i/\numT i<=n:=by unfold numT;omega
  have hA:∀x:Int,1<=x->x<=n->nxA 1 x=2*x/\stA 1 x=2*x+1:=λx h1 h2=>by unfold nxA stA RowKit.wrap64;omega
  have wln:=k.wln;have hre:=k.reach hi;have hz:=k.i.z i hi;have h14:=k.i.s14 i hi;have h16:=k.i.s16 i hi;have hnx:=k.i.nx i hi;have h2:=k.i.pcs i hi;rw[<-hp]at hre hz h14 h16 hnx h2;have hsi:=congrArg Sp.pc hp.symm;obtain⟨pc,a,b,c⟩:=p;simp only at h0 hre hz h14 h16 hnx h2 hsi;have hc:pc=1\/pc=2\/pc=3\/pc=4\/pc=5\/pc=6\/pc=11\/pc=12\/pc=13\/pc=14\/pc=15\/pc=16:=by omega
  have gv:∀y:Int,1<=y->y<=n->rN ar.W (numT i)=y->4<=pc->pc≠5->∃s,(s<n/\s≠i)/\numT s=y/\(sv S s).pc=5/\rS ar.W (numT s)=0/\rS (stW ar.W (2*y+1) c) (numT s)=c/\∀j,j≠s->rS (stW ar.W (2*y+1) c) (numT j)=rS ar.W (numT j):=λy h1 h2 h3 h4 h5=>by
    obtain⟨q1,q2⟩:=hnx h4 QX;have es:numT (y-1).toNat=y:=(by unfold numT;omega);obtain⟨q3,q4⟩:=q2 (y-1).toNat (by unfold numT at es;omega) (by rw[es,h3]);refine⟨(y-1).toNat,⟨by unfold numT at es;omega,λe=>h5 (by rw[<-hsi,<-e];exact q3)⟩,es,q3,q4,?_,λj hj=>?_⟩;· rw[es,(pN wln y c h1 h2).2.2,gC]
    · rw[(pN wln y c h1 h2).2.2,ef _ (λe=>hj (inj _ _ (e.trans es.symm)))]
  rcases hc with rfl|rfl|rfl|rfl|rfl|rfl|rfl|rfl|rfl|rfl|rfl|rfl
  all_goals simp[cQ,iC,eu,hA (numT i) hx1.1 hx1.2,hcas,lN (numT i) hx1.1,lS (numT i) hx1.1]at hr;repeat' split at hr
  all_goals
    try rw[(hA a QX QX).1]at hr
    try rw[(hA a QX QX).2]at hr
    try rw[(hA b QX QX).2]at hr
    subst hr
  all_goals try simp only[aw,aM,dI,gG]
  all_goals try simp only[hcas,decide_eq_true_eq]
  all_goals try first|rw[if_pos Rk]|rw[if_neg Rk]
  all_goals refine⟨?_,λhh j hj=>?_⟩
  all_goals try first
    | exact .told ⟨rfl,rfl,by assumption,rfl,rfl⟩
    | exact .hold ⟨rfl,rfl,rfl,rfl⟩
    | exact .look ⟨rfl,by first|exact .inl rfl|exact .inr rfl,rfl,rfl⟩
    | exact .free ⟨rfl,rfl⟩
    | exact .o ⟨by dsimp only;omega,by dsimp only;omega,rfl⟩
    | exact .come ⟨by dsimp only;omega,by dsimp only;omega,λe=>by first|(exfalso;revert e;simp;done)|(rw[(sK wln _ _ QX QX).2.2];exact hz QX)|omega,λe=>by first|omega|(have:=e.1;omega)|(have:=e.2;omega)⟩
    | (obtain⟨s,q1,q2,q3,q4,q5,q6⟩:=gv a QX QX (h14 rfl).1 QX QX;exact .give s ⟨.inl rfl,rfl,q1,q3,q4,q5,q6⟩)
    | (obtain⟨s,q1,q2,q3,q4,q5,q6⟩:=gv b QX QX (h16 rfl).1 QX QX;exact .give s ⟨.inr rfl,rfl,q1,q3,q4,q5,q6⟩)
    | rfl
    | rw[(sK wln _ _ QX QX).2.2]
    | rw[(pN wln _ _ QX QX).2.2,ef _ (λe=>hj (inj _ _ e))]
    | rw[(wg wln _).2.2]
    | trivial
    | (exfalso;omega)
  all_goals refine .come ⟨by dsimp only;omega,by dsimp only;omega,λe=>?_,λe=>?_⟩
  all_goals simp at e
end
section
open Go.RowKit
def arW (W:List Int):Ar:=⟨W,0,0,0,0,false⟩
section
variable{A W C:List Int}{n:Nat}
theorem qp{z:Int}(h1:1<=z)(h2:z<=W.length):inR (A++W++C) (A.length+z)=true/\inR W z=true:=by refine⟨aO.2 ⟨by omega,?_⟩,aO.2 ⟨h1,h2⟩⟩;simp only[List.length_append];omega
theorem qw{z:Int}(h1:1<=z)(h2:z<=W.length):ldW (A++W++C) (A.length+z)=ldW W z:=by obtain⟨e1,e2⟩:=qp (A:=A) (C:=C) h1 h2;rw[i6 e1,i6 e2,show((A.length:Int)+z).toNat-1=A.length+(z.toNat-1)by omega];rw[List.getD_eq_getElem?_getD,List.getD_eq_getElem?_getD,List.append_assoc,List.getElem?_append_right QX,Nat.add_sub_cancel_left,List.getElem?_append_left QX]
theorem qV{z:Int}(v:Int)(h1:1<=z)(h2:z<=W.length):stW (A++W++C) (A.length+z) v=A++stW W z v++C:=by obtain⟨e1,e2⟩:=qp (A:=A) (C:=C) h1 h2;unfold stW;rw[if_pos e1,if_pos e2,show((A.length:Int)+z).toNat-1=A.length+(z.toNat-1)by omega];rw[List.append_assoc,List.set_append_right _ _ QX,Nat.add_sub_cancel_left,List.set_append_left _ _ QX,List.append_assoc]
theorem C7{x:Int}(hx:1<=x/\x<=32)(hA:A.length<=5000):nxA ((A.length:Int)+1) x=A.length+2*x/\nxA 1 x=2*x:=by unfold nxA wrap64;omega
theorem Dj{x:Int}(hx:1<=x/\x<=32)(hA:A.length<=5000):stA ((A.length:Int)+1) x=A.length+(2*x+1)/\stA 1 x=2*x+1:=by unfold stA wrap64;omega
theorem Ca{s:Ar}(hs:s.W=A++W++C){z old v:Int}(h1:1<=z)(h2:z<=W.length):cl s (A.length+z) old=cl (arW W) z old/\(dO s (A.length+z) old v).W=A++(dO (arW W) z old v).W++C:=by
 obtain⟨e1,e2⟩:=qp (A:=A) (C:=C) h1 h2;have hb:cl s (A.length+z) old=cl (arW W) z old:=by unfold cl;rw[hs,e1,qw h1 h2];show _=(inR W z&&decide (ldW W z=old));rw[e2]
 refine⟨hb,?_⟩;rw[gG,gG,hb,hs];show(if cl (arW W) z old=true then stW (A++W++C) (A.length+z) v else A++W++C)=A++(if cl (arW W) z old=true then stW W z v else W)++C;split;·exact qV v h1 h2
 ·rfl
theorem yl {s:Ar} (hs:s.W=A++W++C) (hW:W.length=2*n+1) (hn:n<=32) (hA:A.length<=5000) {x:Int} (hx:1<=x/\x<=n) {p:Sp} (h4:p.pc=4\/p.pc=14->1<=p.a/\p.a<=n) (h16:p.pc=16->1<=p.b/\p.b<=n):
    (cQ s ((A.length:Int)+1) x p).1.W=A++(cQ (arW W) 1 x p).1.W++C/\(cQ s ((A.length:Int)+1) x p).2=(cQ (arW W) 1 x p).2:=by
  have nx:∀y:Int,1<=y->y<=n->(∀v,stW (A++W++C) (nxA ((A.length:Int)+1) y) v=A++stW W (nxA 1 y) v++C)/\ldW (A++W++C) (nxA ((A.length:Int)+1) y)=ldW W (nxA 1 y):=λy h1 h2=>by obtain⟨e1,e2⟩:=C7 (x:=y) (A:=A) QX hA;exact JK
  have st:∀y:Int,1<=y->y<=n->(∀v,stW (A++W++C) (stA ((A.length:Int)+1) y) v=A++stW W (stA 1 y) v++C)/\ldW (A++W++C) (stA ((A.length:Int)+1) y)=ldW W (stA 1 y):=λy h1 h2=>by obtain⟨e1,e2⟩:=Dj (x:=y) (A:=A) QX hA;exact JK
  have tl:=qw (A:=A) (W:=W) (C:=C) (z:=1) QX QX;have tst:=λv=>qV (A:=A) (W:=W) (C:=C) (z:=1) v QX QX;have tc:=λv=>Ca (s:=s) hs (z:=1) (old:=x) (v:=v) QX QX;obtain⟨nx1,nx2⟩:=nx x hx.1 hx.2;obtain⟨st1,st2⟩:=st x hx.1 hx.2;unfold cQ;by_cases c10:p.pc<10
  · rw[if_pos c10,if_pos c10];unfold iC;by_cases c1:p.pc=1;· simp only[if_pos c1,aw,hs];exact⟨nx1 0,trivial⟩
    by_cases c2:p.pc=2;· simp only[if_neg c1,if_pos c2,aw,hs];exact⟨st1 0,trivial⟩
    by_cases c3:p.pc=3;· simp only[if_neg c1,if_neg c2,if_pos c3,dI,hs,tl];exact⟨tst x,rfl⟩
    by_cases c4:p.pc=4;· obtain⟨e1,e2⟩:=h4 (.inl c4);simp only[if_neg c1,if_neg c2,if_neg c3,if_pos c4,aw,hs];exact⟨(nx p.a e1 e2).1 x,trivial⟩
    by_cases c5:p.pc=5;· simp only[if_neg c1,if_neg c2,if_neg c3,if_neg c4,if_pos c5,aM,hs,st2];exact⟨rfl,rfl⟩
    · simp only[if_neg c1,if_neg c2,if_neg c3,if_neg c4,if_neg c5,aw,hs];exact⟨st1 1,trivial⟩
  · rw[if_neg c10,if_neg c10];unfold eu;by_cases c12:p.pc=12;· simp only[if_pos c12,(tc 0).1,(tc 0).2];exact⟨trivial,trivial⟩
    by_cases c14:p.pc=14;· obtain⟨e1,e2⟩:=h4 (.inr c14);simp only[if_neg c12,if_pos c14,aw,hs];exact⟨(st p.a e1 e2).1 p.c,trivial⟩
    by_cases c15:p.pc=15;· simp only[if_neg c12,if_neg c14,if_pos c15,aM,hs,nx2];exact⟨rfl,rfl⟩
    by_cases c16:p.pc=16;· obtain⟨e1,e2⟩:=h16 c16;simp only[if_neg c12,if_neg c14,if_neg c15,if_pos c16,aw,hs];exact⟨(st p.b e1 e2).1 p.c,trivial⟩
    · simp only[if_neg c12,if_neg c14,if_neg c15,if_neg c16,aM,hs,nx2];exact⟨rfl,rfl⟩
end
end
section
open Go.RowKit
structure HTr where
 D:Nat
 n:Nat
 np:Nat
 pl:Nat->Nat->Nat
 sl:Nat->Nat->Nat
 nv:Nat->Nat
 lev:Nat->Nat
structure HTr.Ok (T:HTr):Prop where
 d1:1<=T.D
 plt:∀t k,t<T.n->k<T.D->T.pl t k<T.np
 slt:∀t k,t<T.n->k<T.D->T.sl t k<T.nv (T.pl t k)
 nv32:∀v,v<T.np->T.nv v<=32
 lv:∀t k,t<T.n->k<T.D->T.lev (T.pl t k)=k
 up:∀t u k,t<T.n->u<T.n->k+1<T.D->T.pl t k=T.pl u k->T.pl t (k+1)=T.pl u (k+1)/\T.sl t (k+1)=T.sl u (k+1)
 dn:∀t u k,t<T.n->u<T.n->k+1<T.D->T.pl t (k+1)=T.pl u (k+1)->T.sl t (k+1)=T.sl u (k+1)->T.pl t k=T.pl u k
 root:∀t u,t<T.n->u<T.n->T.pl t (T.D-1)=T.pl u (T.D-1)
 leaf:∀t u,t<T.n->u<T.n->T.pl t 0=T.pl u 0->T.sl t 0=T.sl u 0->t=u
structure Hm where
 W:Nat->List Int
 P:Nat->List Sp
 S:List Sp
def Hm.sp (m:Hm)(v j:Nat):Sp:=sv (m.P v) j
def Hm.sg (m:Hm)(v j:Nat):Int:=rS (m.W v) (numT j)
abbrev Hm.hd (m:Hm)(v j:Nat):Prop:=Fl (rS (m.W v)) (sv (m.P v)) j
def aW{α:Type}(f:Nat->α)(v:Nat)(x:α):Nat->α:=λu=>if u=v then x else f u
theorem aV{α:Type}(f:Nat->α)(v:Nat)(x:α):aW f v x v=x:=by unfold aW;rw[if_pos rfl]
theorem aX{α:Type}(f:Nat->α){v u:Nat}(x:α)(h:u≠v):aW f v x u=f u:=by unfold aW;rw[if_neg h]
def Hm.slot (m:Hm)(v j:Nat)(p:Sp):Hm:={m with P:=aW m.P v ((m.P v).set j p)}
def Hm.thr (m:Hm)(i:Nat)(s:Sp):Hm:={m with S:=m.S.set i s}
def gh (m:Hm)(v j:Nat)(u c:Int):Hm:=if (m.sp v j).pc=10 then m.slot v j {m.sp v j with pc:=u,c:=c} else m
def kr (m:Hm)(v j:Nat):Hm:=if (m.sp v j).pc=0 then m.slot v j {m.sp v j with pc:=1} else m
def gV (T:HTr)(bud:Int):Nat->Hm->Nat->Nat->Hm
 |0,m,_,_=>m
 |f+1,m,i,k=>
  if k+1=T.D then(gh m (T.pl i k) (T.sl i k) 11 1).thr i {sv m.S i with pc:=12,c:=k}
  else if (m.sp (T.pl i k) (T.sl i k)).a<=bud then(gh m (T.pl i k) (T.sl i k) 15 ((m.sp (T.pl i k) (T.sl i k)).a+1)).thr i {sv m.S i with pc:=11,c:=k}
  else gV T bud f m i (k+1)
def j7 (T:HTr)(m:Hm)(i k:Nat):Hm:=
 if (m.sp (T.pl i k) (T.sl i k)).b=0\/k+1=T.D then m.thr i {sv m.S i with pc:=10}
 else(kr m (T.pl i (k+1)) (T.sl i (k+1))).thr i {sv m.S i with c:=(k:Int)+1}
def j8 (T:HTr)(m:Hm)(i k:Nat):Hm:=
 if k=0 then m.thr i {sv m.S i with pc:=0}
 else(gh m (T.pl i (k-1)) (T.sl i (k-1)) 11 (-1)).thr i {sv m.S i with pc:=12,c:=(k:Int)-1}
def dP (m:Hm)(v j:Nat):Hm:={m with W:=aW m.W v (cQ (arW (m.W v)) 1 ((j:Int)+1) (m.sp v j)).1.W,P:=aW m.P v ((m.P v).set j (cQ (arW (m.W v)) 1 ((j:Int)+1) (m.sp v j)).2)}
def kA (T:HTr)(bud:Int)(m:Hm)(i:Nat):Hm:=
 if (sv m.S i).pc=0\/(sv m.S i).pc=10 then m else
 let k:=(sv m.S i).c.toNat
 let v:=T.pl i k
 let j:=T.sl i k
 if (m.sp v j).pc=0\/(m.sp v j).pc=10 then m else
 let m1:=dP m v j
 if ¬((m1.sp v j).pc=0\/(m1.sp v j).pc=10)then m1
 else if (sv m.S i).pc=1 then j7 T m1 i k
 else if (m1.sp v j).pc=0 then j8 T m1 i k
 else gV T bud T.D m1 i (k+1)
def ru (T:HTr)(m:Hm)(i:Nat):Hm:=if (sv m.S i).pc=0 then(kr m (T.pl i 0) (T.sl i 0)).thr i ⟨1,0,0,0⟩else m
def kK (T:HTr)(bud:Int)(m:Hm)(i:Nat):Hm:=if (sv m.S i).pc=10 then gV T bud T.D m i 0 else m
inductive TSt (T:HTr)(sp:Nat->Nat->Sp)(sg:Nat->Nat->Int)(i:Nat)(s:Sp):Nat->Prop
 |rest (h:s.pc=0):TSt T sp sg i s 0
 |come (c:Nat) (h:s.pc=1/\s.c=c/\c<T.D) (ha:1<=(sp (T.pl i c) (T.sl i c)).pc/\(sp (T.pl i c) (T.sl i c)).pc<=6) (hg:(sp (T.pl i c) (T.sl i c)).pc=5->¬0<sg (T.pl i c) (T.sl i c)) (hb:∀k,k<c->(sp (T.pl i k) (T.sl i k)).pc=10):TSt T sp sg i s (c+1)
 |granted (c:Nat) (h:s.pc=1/\s.c=c/\c<T.D) (ha:(sp (T.pl i c) (T.sl i c)).pc=5/\0<sg (T.pl i c) (T.sl i c)) (hb:∀k,k<T.D->k≠c->(sp (T.pl i k) (T.sl i k)).pc=10):TSt T sp sg i s T.D
 |hold (h:s.pc=10) (hb:∀k,k<T.D->(sp (T.pl i k) (T.sl i k)).pc=10):TSt T sp sg i s T.D
 |pass (c:Nat) (h:s.pc=11/\s.c=c/\c+1<T.D) (ha:(sp (T.pl i c) (T.sl i c)).pc=15\/(sp (T.pl i c) (T.sl i c)).pc=16) (hb:∀k,k<T.D->k≠c->(sp (T.pl i k) (T.sl i k)).pc=10):TSt T sp sg i s T.D
 |leave (c:Nat) (h:s.pc=12/\s.c=c/\c<T.D) (ha:11<=(sp (T.pl i c) (T.sl i c)).pc/\(sp (T.pl i c) (T.sl i c)).pc<=14) (hc:(sp (T.pl i c) (T.sl i c)).c=if c+1=T.D then 1 else -1) (hb:∀k,k<c->(sp (T.pl i k) (T.sl i k)).pc=10):TSt T sp sg i s (c+1)
def wK (bud:Int)(p:Sp):Prop:=(p.pc=10\/p.pc=15\/p.pc=16->1<=p.a/\p.a<=bud+1)/\(p.pc=15\/p.pc=16->p.c=p.a+1/\p.a<=bud)
structure HX (T:HTr)(bud:Int)(m:Hm)(O:Nat->Nat->Option Nat)(i:Nat):Prop where
 rg:∀v,v<T.np->RtS (T.nv v) (m.W v) (m.P v)
 sl:m.S.length=T.n
 ow:∀v j t,O v j=some t->t<T.n/\∃k,k<T.D/\v=T.pl t k/\j=T.sl t k
 fr:∀v j,v<T.np->j<T.nv v->O v j=none->(m.sp v j).pc=0
 th:∀t,t<T.n->t≠i->∃K,TSt T m.sp m.sg t (sv m.S t) K/\∀k,k<T.D->(O (T.pl t k) (T.sl t k)=some t↔k<K)
 va:∀v j,v<T.np->j<T.nv v->wK bud (m.sp v j)
 sa:∀v j,v<T.np->j<T.nv v->(m.sp v j).pc=5->m.sg v j=0\/m.sg v j= -1\/(1<=m.sg v j/\m.sg v j<=bud+1)
def rl (T:HTr)(m:Hm)(O:Nat->Nat->Option Nat)(t:Nat):Prop:=∃K,TSt T m.sp m.sg t (sv m.S t) K/\∀k,k<T.D->(O (T.pl t k) (T.sl t k)=some t↔k<K)
structure dY (T:HTr)(bud:Int)(m:Hm)(O:Nat->Nat->Option Nat):Prop where
 x:∀i,HX T bud m O i
 t:∀t,t<T.n->rl T m O t
section
variable{T:HTr}{bud:Int}{m m':Hm}{O O':Nat->Nat->Option Nat}{i:Nat}
theorem dY.of (h:HX T bud m O i)(ht:rl T m O i):dY T bud m O:=by
 have all:∀t,t<T.n->rl T m O t:=λt hl=>by
  by_cases e:t=i;·subst e;exact ht
  ·exact h.th t hl e
 exact⟨λj=>⟨h.rg,h.sl,h.ow,h.fr,λt hl _=>all t hl,h.va,h.sa⟩,all⟩
theorem TSt.keep{sp sp':Nat->Nat->Sp}{sg sg':Nat->Nat->Int}{s:Sp}{K:Nat}(h:TSt T sp sg i s K)(h1:∀k,k<K->k<T.D->sp' (T.pl i k) (T.sl i k)=sp (T.pl i k) (T.sl i k))(h2:∀k,k<K->k<T.D->(sp (T.pl i k) (T.sl i k)).pc=5->sg' (T.pl i k) (T.sl i k)=sg (T.pl i k) (T.sl i k)):TSt T sp' sg' i s K:=by
 cases h with
 |rest h=>exact .rest h
 |come c h ha hg hb=>
  have e:=h1 c (Nat.lt_succ_self _) h.2.2;refine .come c h (by rw[e];exact ha) (λe5=>?_) λk hk=>?_;·rw[e]at e5;rw[h2 c (Nat.lt_succ_self _) h.2.2 e5];exact hg e5
  ·rw[h1 k QX QX];exact hb k hk
 |granted c h ha hb=>have e:=h1 c h.2.2 h.2.2;refine .granted c h ⟨by rw[e];exact ha.1,by rw[h2 c h.2.2 h.2.2 ha.1];exact ha.2⟩ λk hk hkc=>?_;rw[h1 k hk hk];exact hb k hk hkc
 |hold h hb=>exact .hold h λk hk=>by rw[h1 k hk hk];exact hb k hk
 |pass c h ha hb=>refine .pass c h (by rw[h1 c QX QX];exact ha) λk hk hkc=>?_;rw[h1 k hk hk];exact hb k hk hkc
 |leave c h ha hc hb=>have e:=h1 c (Nat.lt_succ_self _) h.2.2;refine .leave c h (by rw[e];exact ha) (by rw[e];exact hc) λk hk=>?_;rw[h1 k QX QX];exact hb k hk
theorem fP (m:Hm)(v j:Nat)(p:Sp)(hj:j<(m.P v).length)(u k:Nat):(m.slot v j p).sp u k=if u=v/\k=j then p else m.sp u k:=by
 unfold Hm.sp Hm.slot;show sv (aW m.P v ((m.P v).set j p) u) k=_;by_cases e:u=v
 ·subst e;rw[aV,cD];by_cases e2:k=j;·subst e2;rw[if_pos ⟨rfl,hj⟩,if_pos ⟨rfl,rfl⟩]
  ·rw[if_neg (λh=>e2 h.1.symm),if_neg (λh=>e2 h.2)]
 ·rw[aX _ _ e,if_neg (λh=>e h.1)]
theorem HX.len (h:HX T bud m O i){v:Nat}(hv:v<T.np):(m.P v).length=T.nv v:=(h.rg v hv).len
theorem HX.hd1 (h:HX T bud m O i){v j k:Nat}(hv:v<T.np)(hj:j<T.nv v)(hk:k<T.nv v)(h1:m.hd v j)(h2:m.hd v k):j=k:=(h.rg v hv).i.tk.one j k hj hk h1 h2
theorem TSt.hd{t:Nat}{s:Sp}{K:Nat}(k:TSt T m.sp m.sg t s K){l:Nat}(hl:l+1<K):m.hd (T.pl t l) (T.sl t l):=by
 have f:∀p:Sp,p=m.sp (T.pl t l) (T.sl t l)->6<=p.pc->m.hd (T.pl t l) (T.sl t l):=λp e h=> .inl (by rw[e]at h;exact h);cases k with
 |rest _=>omega
 |come c _ _ _ hb=>exact f _ rfl RX
 |granted c hc ha hb=>
  by_cases e:l=c
  ·subst e;refine .inr ⟨?_,?_⟩;·show 3<=(m.sp (T.pl t l) (T.sl t l)).pc;omega
   ·have:=ha.2;show m.sg (T.pl t l) (T.sl t l)≠0;omega
  ·exact f _ rfl (by rw[hb l QX e];decide)
 |hold _ hb=>exact f _ rfl RX
 |pass c _ ha hb=>
  by_cases e:l=c;·subst e;exact f _ rfl QX
  ·exact f _ rfl (by rw[hb l QX e];decide)
 |leave c _ _ _ hb=>exact f _ rfl RX
theorem TSt.le{sp:Nat->Nat->Sp}{sg:Nat->Nat->Int}{s:Sp}{K:Nat}(h:TSt T sp sg i s K):K<=T.D:=by cases h<;>omega
theorem TSt.of10{sp:Nat->Nat->Sp}{sg:Nat->Nat->Int}{s:Sp}{K:Nat}(h:TSt T sp sg i s K)(e:s.pc=10):K=T.D/\∀k,k<T.D->(sp (T.pl i k) (T.sl i k)).pc=10:=by
 cases h with
 |rest h=>omega
 |come c h=>omega
 |granted c h=>omega
 |hold h hb=>exact⟨rfl,hb⟩
 |pass c h=>omega
 |leave c h=>omega
theorem dY.one (h:dY T bud m O)(hT:T.Ok){a b:Nat}(ha:a<T.n)(hb:b<T.n)(h1:(sv m.S a).pc=10)(h2:(sv m.S b).pc=10):a=b:=by obtain⟨Ka,ka,oa⟩:=h.t a ha;obtain⟨Kb,kb,ob⟩:=h.t b hb;obtain⟨rfl,pa⟩:=ka.of10 h1;obtain⟨rfl,pb⟩:=kb.of10 h2;have hd:=hT.d1;have er:=hT.root a b ha hb;have es:T.sl a (T.D-1)=T.sl b (T.D-1):=(h.x a).hd1 (hT.plt b (T.D-1) hb QX) (by rw[<-er];exact hT.slt a (T.D-1) ha QX) (hT.slt b (T.D-1) hb QX) (by rw[<-er];exact .inl (by have:=pa (T.D-1) QX;show 6<=(m.sp _ _).pc;omega)) (.inl (by have:=pb (T.D-1) QX;show 6<=(m.sp _ _).pc;omega));have o1:=(oa (T.D-1) QX).2 QX;have o2:=(ob (T.D-1) QX).2 QX;rw[er,es,o2]at o1;injection o1 with o1;exact o1.symm
end
end
section
open Go.RowKit
section
variable{T:HTr}{bud:Int}{m m':Hm}{O O':Nat->Nat->Option Nat}{i:Nat}
theorem HX.thr (h:HX T bud m O i)(s:Sp):HX T bud (m.thr i s) O i:=by
 refine⟨h.rg,by show(m.S.set i s).length=T.n;rw[List.length_set];exact h.sl,h.ow,h.fr,λt ht hne=>?_,h.va,h.sa⟩;have e:sv (m.thr i s).S t=sv m.S t:=by show sv (m.S.set i s) t=_;rw[cD,if_neg (λh=>hne h.1.symm)]
 rw[e];exact h.th t ht hne
theorem Fj (m:Hm){i:Nat}(s:Sp)(hi:i<m.S.length):sv (m.thr i s).S i=s:=by show sv (m.S.set i s) i=_;rw[cD,if_pos ⟨rfl,hi⟩]
theorem qO{t v j k:Nat}(ho:O v j=some i)(hne:t≠i)(h:O (T.pl t k) (T.sl t k)=some t):¬(T.pl t k=v/\T.sl t k=j):=by rintro⟨rfl,rfl⟩;rw[h]at ho;injection ho with ho;exact hne ho
theorem HX.wth (h:HX T bud m O i){v j:Nat}(hv:v<T.np)(hj:j<T.nv v)(ho:O v j=some i)(h10:(m.sp v j).pc=10)(p':Sp)(hu:p'.pc=11\/p'.pc=15)(hva:wK bud p'):HX T bud (m.slot v j p') O i:=by
 have hl:=h.len hv;have hsp:=fP m v j p' (by rw[hl];exact hj);refine⟨λu hu'=>?_,h.sl,h.ow,λa b ha hb hab=>?_,λt ht hne=>?_,λa b ha hb=>?_,λa b ha hb h5=>?_⟩
 ·show RtS (T.nv u) (m.W u) (aW m.P v ((m.P v).set j p') u);by_cases e:u=v;·subst e;rw[aV];exact(h.rg u hu').beg hj (.inl ⟨h10,hu⟩)
  ·rw[aX _ _ e];exact h.rg u hu'
 ·rw[hsp,if_neg (λe=>by rw[e.1,e.2,ho]at hab;cases hab)];exact h.fr a b ha hb hab
 ·obtain⟨K,k,o⟩:=h.th t ht hne;refine⟨K,k.keep (λl hl' hD=>?_) (λ_ _ _ _=>rfl),o⟩;rw[hsp,if_neg (qO ho hne ((o l hD).2 hl'))]
 ·rw[hsp];split;·exact hva
  ·exact h.va a b ha hb
 ·rw[hsp]at h5;by_cases e:a=v/\b=j;·rw[if_pos e]at h5;omega
  ·rw[if_neg e]at h5;exact h.sa a b ha hb h5
def yg (O:Nat->Nat->Option Nat)(v j:Nat)(x:Option Nat):Nat->Nat->Option Nat:=λa b=>if a=v/\b=j then x else O a b
theorem fO (O:Nat->Nat->Option Nat)(v j:Nat)(x:Option Nat):yg O v j x v j=x:=by unfold yg;rw[if_pos ⟨rfl,rfl⟩]
theorem fb{O:Nat->Nat->Option Nat}{v j a b:Nat}{x:Option Nat}(h:¬(a=v/\b=j)):yg O v j x a b=O a b:=by unfold yg;rw[if_neg h]
theorem HX.ask (h:HX T bud m O i)(hi:i<T.n){k:Nat}(hk:k<T.D)(hT:T.Ok)(ho:O (T.pl i k) (T.sl i k)=none)(p':Sp)(hp:p'.pc=1):HX T bud (m.slot (T.pl i k) (T.sl i k) p') (yg O (T.pl i k) (T.sl i k) (some i)) i:=by
 have hv:=hT.plt i k hi hk;have hj:=hT.slt i k hi hk;have h0:=h.fr _ _ hv hj ho;have hl:=h.len hv;have hsp:=fP m (T.pl i k) (T.sl i k) p' (by rw[hl];exact hj);refine⟨λu hu'=>?_,h.sl,λa b t hab=>?_,λa b ha hb hab=>?_,λt ht hne=>?_,λa b ha hb=>?_,λa b ha hb h5=>?_⟩
 ·show RtS (T.nv u) (m.W u) (aW m.P (T.pl i k) ((m.P (T.pl i k)).set (T.sl i k) p') u);by_cases e:u=T.pl i k;·subst e;rw[aV];exact(h.rg _ hv).beg hj (.inr ⟨h0,hp⟩)
  ·rw[aX _ _ e];exact h.rg u hu'
 ·by_cases e:a=T.pl i k/\b=T.sl i k;·rw[e.1,e.2,fO]at hab;injection hab with hab;subst hab;exact⟨hi,k,hk,e.1,e.2⟩
  ·rw[fb e]at hab;exact h.ow a b t hab
 ·by_cases e:a=T.pl i k/\b=T.sl i k;·rw[e.1,e.2,fO]at hab;cases hab
  ·rw[fb e]at hab;rw[hsp,if_neg e];exact h.fr a b ha hb hab
 ·obtain⟨K,kk,o⟩:=h.th t ht hne;have hd:∀l,O (T.pl t l) (T.sl t l)=some t->¬(T.pl t l=T.pl i k/\T.sl t l=T.sl i k):=λl hl' e=>by rw[e.1,e.2,ho]at hl';cases hl'
  refine⟨K,kk.keep (λl hl' hD=>?_) (λ_ _ _ _=>rfl),λl hD=>?_⟩;·rw[hsp,if_neg (hd l ((o l hD).2 hl'))]
  ·by_cases e:T.pl t l=T.pl i k/\T.sl t l=T.sl i k;·rw[e.1,e.2,fO];refine⟨λhe=>?_,λhl'=>absurd e (hd l ((o l hD).2 hl'))⟩;injection he with he;exact absurd he.symm hne
   ·rw[fb e];exact o l hD
 ·rw[hsp];split;·exact⟨λe=>by omega,λe=>by omega⟩
  ·exact h.va a b ha hb
 ·rw[hsp]at h5;by_cases e:a=T.pl i k/\b=T.sl i k;·rw[if_pos e]at h5;omega
  ·rw[if_neg e]at h5;exact h.sa a b ha hb h5
theorem HX.release (h:HX T bud m O i){v j:Nat}(h0:(m.sp v j).pc=0)(ho:O v j=some i):HX T bud m (yg O v j none) i:=by
 refine⟨h.rg,h.sl,λa b t hab=>?_,λa b ha hb hab=>?_,λt ht hne=>?_,h.va,h.sa⟩
 ·by_cases e:a=v/\b=j;·rw[e.1,e.2,fO]at hab;cases hab
  ·rw[fb e]at hab;exact h.ow a b t hab
 ·by_cases e:a=v/\b=j;·rw[e.1,e.2];exact h0
  ·rw[fb e]at hab;exact h.fr a b ha hb hab
 ·obtain⟨K,kk,o⟩:=h.th t ht hne;refine⟨K,kk,λl hD=>?_⟩;by_cases e:T.pl t l=v/\T.sl t l=j;·rw[<-o l hD,e.1,e.2,fO,ho];refine⟨λhe=>by(cases he),λhe=>?_⟩;injection he with he;exact absurd he.symm hne
  ·rw[fb e];exact o l hD
theorem HX.rung (h:HX T bud m O i) {v j:Nat} (hv:v<T.np) (hj:j<T.nv v) (ho:O v j=some i) (W':List Int) (p':Sp) (hr:RtS (T.nv v) W' ((m.P v).set j p')) (hst:∀k,k≠j->rS W' (numT k)=rS (m.W v) (numT k)) (hva:wK bud p') (h5:p'.pc=5->rS W' (numT j)=0):
    HX T bud {m with W:=aW m.W v W',P:=aW m.P v ((m.P v).set j p')} O i:=by
  have hl:=h.len hv;have hsp:∀u k,Hm.sp {m with W:=aW m.W v W',P:=aW m.P v ((m.P v).set j p')} u k=if u=v/\k=j then p' else m.sp u k:=fP m v j p' (by rw[hl];exact hj)
  have hsg:∀u k,¬(u=v/\k=j)->Hm.sg {m with W:=aW m.W v W',P:=aW m.P v ((m.P v).set j p')} u k=m.sg u k:=λu k hne=>by
    show rS (aW m.W v W' u) (numT k)=rS (m.W u) (numT k);by_cases e:u=v;· subst e;rw[aV];exact hst k λe2=>hne ⟨rfl,e2⟩
    · rw[aX _ _ e]
  refine⟨λu hu'=>?_,h.sl,h.ow,λa b ha hb hab=>?_,λt ht hne=>?_,λa b ha hb=>?_,λa b ha hb h5'=>?_⟩
  · show RtS (T.nv u) (aW m.W v W' u) (aW m.P v ((m.P v).set j p') u);by_cases e:u=v;· subst e;rw[aV,aV];exact hr
    · rw[aX _ _ e,aX _ _ e];exact h.rg u hu'
  · rw[hsp,if_neg (λe=>by rw[e.1,e.2,ho]at hab;cases hab)];exact h.fr a b ha hb hab
  · obtain⟨K,k,o⟩:=h.th t ht hne;refine⟨K,k.keep (λl hl' hD=>?_) (λl hl' hD _=>?_),o⟩;· rw[hsp,if_neg (qO ho hne ((o l hD).2 hl'))]
    · exact hsg _ _ (qO ho hne ((o l hD).2 hl'))
  · rw[hsp];split;· exact hva
    · exact h.va a b ha hb
  · rw[hsp]at h5';by_cases e:a=v/\b=j;· rw[if_pos e]at h5';obtain⟨rfl,rfl⟩:=e;left;show rS (aW m.W a W' a) (numT b)=0;rw[aV];exact h5 h5'
    · rw[if_neg e]at h5';rw[hsg a b e];exact h.sa a b ha hb h5'
def upO (T:HTr)(O:Nat->Nat->Option Nat)(u c:Nat):Nat->Nat->Option Nat:=λa b=>if (List.range T.D).any (λk=>decide (c<k/\a=T.pl u k/\b=T.sl u k))=true then some u else O a b
theorem BG{u c a b:Nat}:(List.range T.D).any (λk=>decide (c<k/\a=T.pl u k/\b=T.sl u k))=true↔∃k,c<k/\k<T.D/\a=T.pl u k/\b=T.sl u k:=by
 rw[List.any_eq_true];constructor;·rintro⟨k,hk,h⟩;obtain⟨h1,h2,h3⟩:=of_decide_eq_true h;exact⟨k,h1,List.mem_range.1 hk,h2,h3⟩
 ·rintro⟨k,h1,h2,h3,h4⟩;exact⟨k,List.mem_range.2 h2,decide_eq_true ⟨h1,h3,h4⟩⟩
theorem oS{u c k:Nat}(hc:c<k)(hk:k<T.D):upO T O u c (T.pl u k) (T.sl u k)=some u:=by unfold upO;rw[if_pos (BG.2 ⟨k,hc,hk,rfl,rfl⟩)]
theorem je{u c a b:Nat}(h:¬∃k,c<k/\k<T.D/\a=T.pl u k/\b=T.sl u k):upO T O u c a b=O a b:=by unfold upO;rw[if_neg (λe=>h (BG.1 e))]
theorem HX.give (h:HX T bud m O i) (hT:T.Ok) {v j s u c:Nat} (hv:v<T.np) (hj:j<T.nv v) (ho:O v j=some i) (W':List Int) (p':Sp) (hp0:p'.pc=0) (hsn:s<T.nv v) (hsj:s≠j) (hr:RtS (T.nv v) W' ((m.P v).set j p')) (hs5:(m.sp v s).pc=5) (hs0:m.sg v s=0)
    (hst:∀k,k≠s->rS W' (numT k)=rS (m.W v) (numT k)) (hc1:rS W' (numT s)= -1\/(1<=rS W' (numT s)/\rS W' (numT s)<=bud+1)) (hos:O v s=some u) (hcD:c<T.D) (hvc:v=T.pl u c) (hsc:s=T.sl u c)
    (hup:0<rS W' (numT s)->∀k,c<k->k<T.D->(m.sp (T.pl u k) (T.sl u k)).pc=10/\O (T.pl u k) (T.sl u k)=some i):
    u<T.n/\u≠i/\∃O',HX T bud {m with W:=aW m.W v W',P:=aW m.P v ((m.P v).set j p')} O' i/\(0<rS W' (numT s)->O'=upO T O u c)/\(¬0<rS W' (numT s)->O'=O):=by
  obtain⟨hun,_⟩:=h.ow v s u hos;have hl:=h.len hv;have hsp:∀a b,Hm.sp {m with W:=aW m.W v W',P:=aW m.P v ((m.P v).set j p')} a b=if a=v/\b=j then p' else m.sp a b:=fP m v j p' (by rw[hl];exact hj)
  have hsg:∀a b,¬(a=v/\b=s)->Hm.sg {m with W:=aW m.W v W',P:=aW m.P v ((m.P v).set j p')} a b=m.sg a b:=λa b hne2=>by
    show rS (aW m.W v W' a) (numT b)=rS (m.W a) (numT b);by_cases e:a=v;· subst e;rw[aV];exact hst b (λe2=>hne2 ⟨rfl,e2⟩)
    · rw[aX _ _ e]
  have hsgs:Hm.sg {m with W:=aW m.W v W',P:=aW m.P v ((m.P v).set j p')} v s=rS W' (numT s):=by show rS (aW m.W v W' v) (numT s)=_;rw[aV]
  obtain⟨_,ki,hkD,hvi,hji⟩:=h.ow v j i ho;obtain⟨hin,_⟩:=h.ow v j i ho;have hki:ki=c:=by have e1:=hT.lv i ki hin hkD;have e2:=hT.lv u c hun hcD;rw[<-hvi]at e1;rw[<-hvc]at e2;omega
  have hui:u≠i:=λe=>by subst e hki;rw[<-hsc]at hji;exact hsj hji.symm
  have hlev:∀k,k<T.D->T.pl u k=v->k=c:=λk hk e=>by have e1:=hT.lv u k hun hk;have e2:=hT.lv u c hun hcD;rw[e]at e1;rw[<-hvc]at e2;omega
  have hsame:∀k,k<T.D->k≠c->Hm.sp {m with W:=aW m.W v W',P:=aW m.P v ((m.P v).set j p')} (T.pl u k) (T.sl u k)=m.sp (T.pl u k) (T.sl u k):=λk hk hkc=>by rw[hsp,if_neg (λe=>hkc (hlev k hk e.1))]
  have hsps:Hm.sp {m with W:=aW m.W v W',P:=aW m.P v ((m.P v).set j p')} v s=m.sp v s:=by rw[hsp,if_neg (λe=>hsj e.2)]
  obtain⟨K,kk,o⟩:=h.th u hun hui;have hcK:c<K:=by rw[<-o c hcD,<-hvc,<-hsc];exact hos
  have hcome:K=c+1/\((sv m.S u).pc=1/\(sv m.S u).c=c/\c<T.D)/\∀k,k<c->(m.sp (T.pl u k) (T.sl u k)).pc=10:=by
    have h5c:(m.sp (T.pl u c) (T.sl u c)).pc=5:=(by rw[<-hvc,<-hsc];exact hs5);cases kk with
    | rest h=>omega
    | come c' h ha hg hb=>
      by_cases e:c=c';· subst e;exact⟨rfl,h,hb⟩
      · have:=hb c QX;omega
    | granted c' h' ha hb=>
      by_cases e:c=c';· subst e;have:=ha.2;rw[<-hvc,<-hsc]at this;omega
      · have:=hb c hcD e;omega
    | hold h hb=>have:=hb c hcD;omega
    | pass c' h ha hb=>
      by_cases e:c=c';· subst e;omega
      · have:=hb c hcD e;omega
    | leave c' h ha hc hb=>
      by_cases e:c=c';· subst e;omega
      · have:=hb c QX;omega
  obtain⟨rfl,hu1,hub⟩:=hcome;have hset:∀a b,(∃k,c<k/\k<T.D/\a=T.pl u k/\b=T.sl u k)->0<rS W' (numT s)->O a b=some i:=λa b ⟨k,h1,h2,h3,h4⟩ hp=>by rw[h3,h4];exact(hup hp k h1 h2).2
  have hother:∀(O1:Nat->Nat->Option Nat) (ho1:∀a b,O1 a b=O a b\/(O1 a b=some u/\O a b=some i)) (t:Nat),t<T.n->t≠i->t≠u->∃K,TSt T (Hm.sp {m with W:=aW m.W v W',P:=aW m.P v ((m.P v).set j p')}) (Hm.sg {m with W:=aW m.W v W',P:=aW m.P v ((m.P v).set j p')}) t (sv m.S t) K/\∀k,k<T.D->(O1 (T.pl t k) (T.sl t k)=some t↔k<K):=λO1 ho1 t ht hti htu=>by
    obtain⟨K',k',o'⟩:=h.th t ht hti;refine⟨K',k'.keep (λl hl' hD=>?_) (λl hl' hD _=>?_),λl hD=>?_⟩;· rw[hsp,if_neg (qO ho hti ((o' l hD).2 hl'))]
    · refine hsg _ _ λe=>?_;have:=(o' l hD).2 hl';rw[e.1,e.2,hos]at this;injection this with this;exact htu this.symm
    · rcases ho1 (T.pl t l) (T.sl t l)with e|⟨e1,e2⟩
      · rw[e];exact o' l hD
      · rw[<-o' l hD,e1,e2];refine⟨λhe=>?_,λhe=>?_⟩;· injection he with he;exact absurd he.symm htu
        · injection he with he;exact absurd he.symm hti
  have hrg:∀w,w<T.np->RtS (T.nv w) (aW m.W v W' w) (aW m.P v ((m.P v).set j p') w):=λw hw=>by
    by_cases e:w=v;· subst e;rw[aV,aV];exact hr
    · rw[aX _ _ e,aX _ _ e];exact h.rg w hw
  have hva:∀a b,a<T.np->b<T.nv a->wK bud (Hm.sp {m with W:=aW m.W v W',P:=aW m.P v ((m.P v).set j p')} a b):=λa b ha hb=>by
    rw[hsp];split;· exact⟨λe=>by omega,λe=>by omega⟩
    · exact h.va a b ha hb
  have hsa:∀a b,a<T.np->b<T.nv a->(Hm.sp {m with W:=aW m.W v W',P:=aW m.P v ((m.P v).set j p')} a b).pc=5->Hm.sg {m with W:=aW m.W v W',P:=aW m.P v ((m.P v).set j p')} a b=0\/Hm.sg {m with W:=aW m.W v W',P:=aW m.P v ((m.P v).set j p')} a b= -1\/(1<=Hm.sg {m with W:=aW m.W v W',P:=aW m.P v ((m.P v).set j p')} a b/\Hm.sg {m with W:=aW m.W v W',P:=aW m.P v ((m.P v).set j p')} a b<=bud+1):=λa b ha hb h5=>by
    by_cases e:a=v/\b=s;· rw[e.1,e.2,hsgs];exact .inr hc1
    · rw[hsg a b e];rw[hsp]at h5;refine h.sa a b ha hb ?_;split at h5;· omega
      · exact h5
  refine⟨hun,hui,?_⟩;by_cases hpos:0<rS W' (numT s)
  · refine⟨upO T O u c,⟨hrg,h.sl,λa b t hab=>?_,λa b ha hb hab=>?_,λt ht hti=>?_,hva,hsa⟩,λ_=>rfl,λhn=>absurd hpos hn⟩
    · by_cases e:∃k,c<k/\k<T.D/\a=T.pl u k/\b=T.sl u k;· obtain⟨k,h1,h2,rfl,rfl⟩:=e;rw[oS h1 h2]at hab;injection hab with hab;subst hab;exact⟨hun,k,h2,rfl,rfl⟩
      · rw[je e]at hab;exact h.ow a b t hab
    · by_cases e:∃k,c<k/\k<T.D/\a=T.pl u k/\b=T.sl u k;· obtain⟨k,h1,h2,rfl,rfl⟩:=e;rw[oS h1 h2]at hab;cases hab
      · rw[je e]at hab;rw[hsp];split;· exact hp0
        · exact h.fr a b ha hb hab
    · by_cases e:t=u
      · subst e;refine⟨T.D,.granted c hu1 ⟨?_,?_⟩ λk hk hkc=>?_,λk hk=>⟨λ_=>hk,λ_=>?_⟩⟩;· rw[<-hvc,<-hsc,hsps];exact hs5
        · rw[<-hvc,<-hsc,hsgs];exact hpos
        · rw[hsame k hk hkc];rcases Nat.lt_or_ge k c with h1|h1
          · exact hub k h1
          · exact(hup hpos k QX hk).1
        · rcases Nat.lt_or_ge c k with h1|h1
          · exact oS h1 hk
          · rw[je];· exact(o k hk).2 QX
            · rintro⟨k',h2,h3,h4,_⟩;have e1:=hT.lv t k hun hk;have e2:=hT.lv t k' hun h3;rw[h4]at e1;omega
      · refine hother _ (λa b=>?_) t ht hti e;by_cases e2:∃k,c<k/\k<T.D/\a=T.pl u k/\b=T.sl u k;· refine .inr ⟨?_,hset a b e2 hpos⟩;obtain⟨k,h1,h2,rfl,rfl⟩:=e2;exact oS h1 h2
        · exact .inl (je e2)
  · refine⟨O,⟨hrg,h.sl,h.ow,λa b ha hb hab=>?_,λt ht hti=>?_,hva,hsa⟩,λhp=>absurd hp hpos,λ_=>rfl⟩
    · rw[hsp];split;· exact hp0
      · exact h.fr a b ha hb hab
    · by_cases e:t=u
      · subst e;refine⟨c+1,.come c hu1 ?_ (λ_=>?_) λk hk=>?_,o⟩;· rw[<-hvc,<-hsc,hsps,hs5];decide
        · rw[<-hvc,<-hsc,hsgs];exact hpos
        · rw[hsame k QX QX];exact hub k hk
      · exact hother O (λa b=> .inl rfl) t ht hti e
end
end
section
open Go.RowKit
section
variable{T:HTr}{bud:Int}{m m':Hm}{O O':Nat->Nat->Option Nat}{i:Nat}
theorem HX.upNone (h:HX T bud m O i)(hT:T.Ok)(hi:i<T.n){c:Nat}(hc:c+1<T.D)(hd:m.hd (T.pl i c) (T.sl i c))(ho:O (T.pl i c) (T.sl i c)=some i)(hn:O (T.pl i (c+1)) (T.sl i (c+1))≠some i):O (T.pl i (c+1)) (T.sl i (c+1))=none:=by
 cases hO:O (T.pl i (c+1)) (T.sl i (c+1))with
 |none=>rfl
 |some u=>
  exfalso;have hui:u≠i:=λe=>hn (by rw[hO,e]);obtain⟨hu,k,hk,h1,h2⟩:=h.ow _ _ u hO;have e1:=hT.lv i (c+1) hi hc;have e2:=hT.lv u k hu hk;rw[h1]at e1;obtain rfl:k=c+1:=by omega
  obtain⟨K,kk,o⟩:=h.th u hu hui;have hK:c+1<K:=by rw[<-o (c+1) hc,<-h1,<-h2];exact hO
  have hp:=hT.dn i u c hi hu hc h1 h2;have hh:T.sl i c=T.sl u c:=h.hd1 (hT.plt i c hi QX) (hT.slt i c hi QX) (by rw[hp];exact hT.slt u c hu QX) hd (by rw[hp];exact kk.hd hK);have ou:=(o c QX).2 QX;rw[<-hp,<-hh,ho]at ou;injection ou with ou;exact hui ou.symm
theorem sf (h:HX T bud m O i)(hi:i<T.n):i<m.S.length:=by rw[h.sl];exact hi
theorem ia{s:Sp}{K:Nat}(hl:i<m.S.length)(k:TSt T m.sp m.sg i s K)(o:∀k,k<T.D->(O (T.pl i k) (T.sl i k)=some i↔k<K)):rl T (m.thr i s) O i:=by refine⟨K,?_,o⟩;rw[Fj m s hl];exact k
theorem uZ (hT:T.Ok)(hi:i<T.n):∀(f:Nat) (m:Hm) (k0:Nat),HX T bud m O i->(∀k,k<T.D->O (T.pl i k) (T.sl i k)=some i)->(∀k,k<T.D->(m.sp (T.pl i k) (T.sl i k)).pc=10)->k0<T.D->T.D<=k0+f->dY T bud (gV T bud f m i k0) O:=by
 intro f;induction f with
 |zero=>intro m k0 _ _ _ h1 h2;omega
 |succ f ih=>
  intro m k0 h ho h10 hk hf;unfold gV;have hv:=hT.plt i k0 hi hk;have hj:=hT.slt i k0 hi hk;have hlen:T.sl i k0<(m.P (T.pl i k0)).length:=by rw[h.len hv];exact hj
  have hlev:∀k,k<T.D->k≠k0->¬(T.pl i k=T.pl i k0/\T.sl i k=T.sl i k0):=λk hk' hne e=>by have e1:=hT.lv i k hi hk';have e2:=hT.lv i k0 hi hk;rw[e.1]at e1;omega
  have own:∀(k:Nat),k<T.D->(O (T.pl i k) (T.sl i k)=some i↔k<T.D):=λk hk'=>⟨λ_=>hk',λ_=>ho k hk'⟩;by_cases c1:k0+1=T.D
  ·rw[if_pos c1];have e:gh m (T.pl i k0) (T.sl i k0) 11 1=m.slot (T.pl i k0) (T.sl i k0) {m.sp (T.pl i k0) (T.sl i k0)with pc:=11,c:=1}:=(by unfold gh;rw[if_pos (h10 k0 hk)]);rw[e];have h1:=h.wth hv hj (ho k0 hk) (h10 k0 hk) {m.sp (T.pl i k0) (T.sl i k0)with pc:=11,c:=1} (.inl rfl) ⟨λe=>absurd e Sk,λe=>absurd e (by show ¬((11:Int)=15\/(11:Int)=16);decide)⟩;have hsp:=fP m (T.pl i k0) (T.sl i k0) {m.sp (T.pl i k0) (T.sl i k0)with pc:=11,c:=1} hlen;refine .of (h1.thr _) (ia (K:=k0+1) (sf h1 hi) (.leave k0 ⟨rfl,rfl,hk⟩ ?_ ?_ λk hk'=>?_) λk hk'=>by rw[c1];exact own k hk');·exact JL
   ·rw[hsp,if_pos ⟨rfl,rfl⟩,if_pos c1]
   ·rw[hsp,if_neg (hlev k QX QX)];exact h10 k QX
  ·rw[if_neg c1];by_cases c2:(m.sp (T.pl i k0) (T.sl i k0)).a<=bud
   ·rw[if_pos c2];have hva:=(h.va _ _ hv hj).1 (.inl (h10 k0 hk));have e:gh m (T.pl i k0) (T.sl i k0) 15 ((m.sp (T.pl i k0) (T.sl i k0)).a+1)=m.slot (T.pl i k0) (T.sl i k0) {m.sp (T.pl i k0) (T.sl i k0)with pc:=15,c:=(m.sp (T.pl i k0) (T.sl i k0)).a+1}:=(by unfold gh;rw[if_pos (h10 k0 hk)]);rw[e];have h1:=h.wth hv hj (ho k0 hk) (h10 k0 hk) {m.sp (T.pl i k0) (T.sl i k0)with pc:=15,c:=(m.sp (T.pl i k0) (T.sl i k0)).a+1} (.inr rfl) ⟨λ_=>hva,λ_=>⟨rfl,c2⟩⟩;have hsp:=fP m (T.pl i k0) (T.sl i k0) {m.sp (T.pl i k0) (T.sl i k0)with pc:=15,c:=(m.sp (T.pl i k0) (T.sl i k0)).a+1} hlen;refine .of (h1.thr _) (ia (K:=T.D) (sf h1 hi) (.pass k0 ⟨rfl,rfl,by omega⟩ ?_ λk hk' hne=>?_) own);·rw[hsp,if_pos ⟨rfl,rfl⟩];exact .inl rfl
    ·rw[hsp,if_neg (hlev k hk' hne)];exact h10 k hk'
   ·rw[if_neg c2];exact ih m (k0+1) h ho h10 QX QX
theorem nE (h:HX T bud m O i)(hT:T.Ok)(hi:i<T.n){c:Nat}(hc:c<T.D)(ho:∀k,k<T.D->(O (T.pl i k) (T.sl i k)=some i↔k<c))(h10:∀k,k<c->(m.sp (T.pl i k) (T.sl i k)).pc=10):dY T bud (j8 T m i c) O:=by
 unfold j8;by_cases c0:c=0;·rw[if_pos c0];subst c0;exact .of (h.thr _) (ia (sf h hi) (.rest rfl) ho)
 ·rw[if_neg c0];obtain⟨d,rfl⟩:∃d,c=d+1:=⟨c-1,by omega⟩;simp only[Nat.add_sub_cancel];have hd:d<T.D:=by omega
  have hv:=hT.plt i d hi hd;have hj:=hT.slt i d hi hd;have hlen:T.sl i d<(m.P (T.pl i d)).length:=by rw[h.len hv];exact hj
  have e:gh m (T.pl i d) (T.sl i d) 11 (-1)=m.slot (T.pl i d) (T.sl i d) {m.sp (T.pl i d) (T.sl i d)with pc:=11,c:= -1}:=by unfold gh;rw[if_pos (h10 d QX)]
  rw[e];have h1:=h.wth hv hj ((ho d hd).2 QX) (h10 d QX) {m.sp (T.pl i d) (T.sl i d)with pc:=11,c:= -1} (.inl rfl) ⟨λe=>absurd e Sk,λe=>absurd e (by show ¬((11:Int)=15\/(11:Int)=16);decide)⟩;have hsp:=fP m (T.pl i d) (T.sl i d) {m.sp (T.pl i d) (T.sl i d)with pc:=11,c:= -1} hlen;refine .of (h1.thr _) (ia (sf h1 hi) (.leave d ⟨rfl,by show((d+1:Nat):Int)-1=d;omega,hd⟩ ?_ ?_ λk hk'=>?_) ho);·exact JL
  ·rw[hsp,if_pos ⟨rfl,rfl⟩,if_neg QX]
  ·rw[hsp,if_neg];·exact h10 k QX
   ·intro e;have e1:=hT.lv i k hi QX;have e2:=hT.lv i d hi hd;rw[e.1]at e1;omega
theorem dY.ask (h:dY T bud m O)(hT:T.Ok)(hi:i<T.n):∃O',dY T bud (ru T m i) O':=by
 unfold ru;by_cases c0:(sv m.S i).pc=0
 ·rw[if_pos c0];have hd:=hT.d1;have hx:=h.x i;obtain⟨K,k,o⟩:=h.t i hi;have hK:K=0:=by cases k<;>first|rfl|omega
  subst hK
  have hn:O (T.pl i 0) (T.sl i 0)=none:=by
   cases hO:O (T.pl i 0) (T.sl i 0)with
   |none=>rfl
   |some u=>
    exfalso;obtain⟨hu,k',hk',h1,h2⟩:=hx.ow _ _ u hO;have e1:=hT.lv i 0 hi QX;have e2:=hT.lv u k' hu hk';rw[h1]at e1;obtain rfl:k'=0:=by omega
    obtain rfl:i=u:=hT.leaf i u hi hu h1 h2;have:=(o 0 QX).1 hO;omega
  have hv:=hT.plt i 0 hi QX;have hj:=hT.slt i 0 hi QX;have h0:=hx.fr _ _ hv hj hn;have e:kr m (T.pl i 0) (T.sl i 0)=m.slot (T.pl i 0) (T.sl i 0) {m.sp (T.pl i 0) (T.sl i 0)with pc:=1}:=by unfold kr;rw[if_pos h0]
  rw[e];have h1:=hx.ask hi (k:=0) QX hT hn {m.sp (T.pl i 0) (T.sl i 0)with pc:=1} rfl;have hsp:=fP m (T.pl i 0) (T.sl i 0) {m.sp (T.pl i 0) (T.sl i 0)with pc:=1} (by rw[hx.len hv];exact hj);refine⟨_,.of (h1.thr _) (ia (sf h1 hi) (.come 0 ⟨rfl,rfl,by omega⟩ ?_ (λe5=>?_) λk hk=>by omega) λk hk=>?_)⟩;·rw[hsp,if_pos ⟨rfl,rfl⟩];exact⟨by show(1:Int)<=1;decide,by show(1:Int)<=6;decide⟩
  ·rw[hsp,if_pos ⟨rfl,rfl⟩]at e5;exact absurd e5 (by show ¬(1:Int)=5;decide)
  ·by_cases e:k=0;·subst e;rw[fO];exact⟨λ_=>by omega,λ_=>rfl⟩
   ·rw[fb (λe'=>by
     have e1:=hT.lv i k hi hk;have e2:=hT.lv i 0 hi QX
     rw[e'.1]at e1;omega)]
    rw[o k hk];exact⟨λh=>by omega,λh=>by omega⟩
 ·rw[if_neg c0];exact⟨O,h⟩
theorem dY.leave (h:dY T bud m O)(hT:T.Ok)(hi:i<T.n):dY T bud (kK T bud m i) O:=by
 unfold kK;by_cases c0:(sv m.S i).pc=10;·rw[if_pos c0];have hd:=hT.d1;obtain⟨K,k,o⟩:=h.t i hi;obtain⟨rfl,h10⟩:=k.of10 c0;exact uZ hT hi T.D m 0 (h.x i) (λk hk=>(o k hk).2 hk) h10 QX QX
 ·rw[if_neg c0];exact h
end
end
end Go.Proofs.YtglokdbiggbkjaaGreat
