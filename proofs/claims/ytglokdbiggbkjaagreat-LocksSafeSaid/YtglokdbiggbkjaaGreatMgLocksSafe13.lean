/- Joined texts. -/
import Derived.Test.YtglokdbiggbkjaaGreatMgLocksSafe0
import Derived.Test.YtglokdbiggbkjaaGreatMgLocksSafe9
import Derived.Test.YtglokdbiggbkjaaGreatMgLocksSafe11
import Derived.Test.YtglokdbiggbkjaaGreatMgLocksSafe12
set_option linter.unusedVariables false
set_option linter.unusedSimpArgs false
set_option maxRecDepth 100000
set_option maxHeartbeats 16000000
namespace Go.Proofs.YtglokdbiggbkjaaGreat
section
open Go.RowKit
structure Cox where
 l:Nat
 b:Nat
 qn:Nat
 qs:Nat
 n:Nat
 N:Nat
 capn:Nat
 par:Nat
 g:Fx
 X:List Fx
 W:List Nat
 o:Nat->Nat
def ndE (y:Fx×Nat):List Value:=[.pointer (some ⟨y.1.p,0,none⟩),.int .i64 y.2]
theorem vV (y:Fx×Nat):(ndE y).length=2:=rfl
structure wI (B:Nat->Prop)(a g:Nat)(x:Cox)(c:CoC)(P T:List Int):Prop where
 ck:a5 P T=0
 nT:x.n=T.length
 nN:x.N=(ab P).length
 lX:x.X.length=x.N
 lW:x.W.length=x.N
 cap:x.N<=x.capn
 cn:∀i,i<x.n->c.node i=fY P T i/\(c.slot i:Int)=cr T i
 tg:c.tg=x.g.t
 tl:∀(n:Nat) (y:Fx),x.X[n]? =some y->c.tl n=y.t/\(y.m:Int)=c.m
 gm:(x.g.m:Int)=c.m
 pm:(x.par:Int)=c.m
 cc:∀(n v:Nat),x.W[n]? =some v->c.cw n=v/\v<=5000
 kg:KOk c.kg
 kl:KOk c.kl
 bud:0<=c.bud/\c.bud<=1000
 par:1<=x.par/\x.par<=4
 ol:x.o x.l=1
 on:x.o x.qn=1
 os:x.o x.qs=2
 oa:x.o a=3
 og:x.o g=3
 oG:x.o x.g.p=4/\x.o x.g.l=4/\x.o x.g.q=4
 oL:∀(n:Nat) (y:Fx),x.X[n]? =some y->x.o y.p=5+n/\x.o y.l=5+n/\x.o y.q=5+n
 oB:∀i,B i->x.o i=0
structure aB (B:Nat->Prop)(w:World)(a g:Nat)(x:Cox)(c:CoC)(P T:List Int)(st:Co):Prop where
 fx:wI B a g x c P T
 ar:aA w a g st.s
 lk:Blk w x.l 240 (coC a x.b c.kg c.kl x.par c.bud ↑x.g.p (.slice (some ⟨x.qn,0,none⟩) x.N x.capn) (.slice (some ⟨x.qs,0,none⟩) x.n x.n))
 tb:d7 B w x.b P T
 nd:∃Z:List Value,Blk w x.qn 243 ((x.X.zip x.W).flatMap ndE++Z).toArray
 sp:SpR w x.qs st.T
 gl:di w a g c.kg x.g st.s st.G
 lo:∀(n:Nat) (y:Fx) (S:List Sp),x.X[n]? =some y->st.L[n]? =some S->di w a g c.kl y st.s S
 lL:st.L.length=x.N
 lG:st.G.length=x.N
 lS:st.T.length=x.n
 sl:∀(i:Nat) (S:List Sp),i<x.n->st.L[c.node i]? =some S->c.slot i<S.length
section
variable{B:Nat->Prop}{w w':World}{a g:Nat}{x:Cox}{c:CoC}{P T:List Int}{st:Co}{s':Ar}
theorem wI.n32 (h:wI B a g x c P T):x.n<=32/\x.N<=32:=by
 have h1:=bh (aR h.ck).1;have:=aZ P P.length;have e1:=h.nT;have e2:=h.nN;have:(ab P).length<=32:=by show(ai P P.length).length<=32;omega
 omega
theorem wI.node (h:wI B a g x c P T){i:Nat}(hi:i<x.n):c.node i<x.N/\(ao P T T.length)[i]? =some (c.node i:Int):=by
 have hn:i<T.length:=by rw[<-h.nT];exact hi
 obtain⟨y,hy⟩:=aj hn;have hm:=jc (aR h.ck).2.2.2 hy;obtain⟨k,hk⟩:=Int.eq_ofNat_of_zero_le ((eI (ab P) y).1.2 hm);have hg:=mI hm hk;have e:c.node i=k:=by rw[(h.cn i hi).1];unfold fY;rw[ba hy,hk];rfl
 rw[e,h.nN];refine⟨(List.getElem?_eq_some_iff.1 hg).1,?_⟩;unfold ao;rw[List.take_length,List.getElem?_map,hy];show some (fy (ab P) y)=_;rw[hk]
theorem aB.loc (h:aB B w a g x c P T st){i:Nat}(hi:i<x.n):∃(y:Fx) (v:Nat) (S:List Sp),x.X[c.node i]? =some y/\x.W[c.node i]? =some v/\st.L[c.node i]? =some S/\c.slot i<S.length/\S[c.slot i]? =some (lsp st.L (c.node i) (c.slot i)):=by
 have hn:=(h.fx.node hi).1;obtain⟨y,hy⟩:=aj (show c.node i<x.X.length by rw[h.fx.lX];exact hn);obtain⟨v,hv⟩:=aj (show c.node i<x.W.length by rw[h.fx.lW];exact hn);obtain⟨S,hS⟩:=aj (show c.node i<st.L.length by rw[h.lL];exact hn);have hs:=h.sl i S hi hS;refine⟨y,v,S,hy,hv,hS,hs,?_⟩;unfold lsp;have e:st.L.getD (c.node i) []=S:=by rw[List.getD_eq_getElem?_getD,hS];rfl
 rw[e,List.getD_eq_getElem?_getD,List.getElem?_eq_getElem hs];rfl
theorem aB.glo (h:aB B w a g x c P T st){i:Nat}(hi:i<x.n):st.G[c.node i]? =some (sv st.G (c.node i)):=by
 have hn:=(h.fx.node hi).1;have:c.node i<st.G.length:=by rw[h.lG];exact hn
 exact IG
theorem aB.thr (h:aB B w a g x c P T st){i:Nat}(hi:i<x.n):st.T[i]? =some (sv st.T i):=by
 have:i<st.T.length:=by rw[h.lS];exact hi
 exact IG
theorem lO{o:Nat->Nat}{i j u v:Nat}(hi:o i=u)(hj:o j=v)(h:u≠v):i≠j:=λe=>h (by rw[<-hi,<-hj,e])
theorem aB.turns0 (h:aB B w a g x c P T st) (t:aa [] w w'):aB B w' a g x c P T st:=
  {h with ar:=h.ar.turns t QY QY,lk:=t.blk h.lk QY,tb:=h.tb.turns t QY,nd:=by obtain⟨Z,z⟩:=h.nd;exact⟨Z,t.blk z QY⟩,
           sp:=h.sp.turns t QY,gl:=h.gl.turns t QY QY QY QY QY,lo:=λn y S hy hS=>(h.lo n y S hy hS).turns t QY QY QY QY QY}
theorem aB.below (h:aB B w a g x c P T st)(t:Below w.heap.size w w'):aB B w' a g x c P T st:=h.turns0 (aa.of_below t)
theorem aB.rest (h:aB B w a g x c P T st) {S:List Nat} (t:aa S w w') (hS:∀i∈S,2<=x.o i):
    Blk w' x.l 240 (coC a x.b c.kg c.kl x.par c.bud ↑x.g.p (.slice (some ⟨x.qn,0,none⟩) x.N x.capn) (.slice (some ⟨x.qs,0,none⟩) x.n x.n))/\
    d7 B w' x.b P T/\∃Z:List Value,Blk w' x.qn 243 ((x.X.zip x.W).flatMap ndE++Z).toArray:=by obtain⟨Z,z⟩:=h.nd;exact⟨t.blk h.lk (λk=>by have:=hS _ k;rw[h.fx.ol]at this;omega),h.tb.turns t (λi hi hb=>by have:=hS i hi;rw[h.fx.oB i hb]at this;omega),Z,t.blk z (λk=>by have:=hS _ k;rw[h.fx.on]at this;omega)⟩
theorem aB.cnt (h:aB B w a g x c P T st)(t:aa [a,g] w w')(ha:aA w' a g s'):aB B w' a g x c P T {st with s:=s'}:=by
 obtain⟨h1,h2,h3⟩:=h.rest t (by intro i hi;simp at hi;rcases hi with rfl|rfl<;>first|(rw[h.fx.oa];omega)|(rw[h.fx.og];omega));have n2:∀r u,x.o r=u->u≠3->r∉[a,g]:=λr u e hu=>by simp only[List.mem_cons,List.not_mem_nil,or_false,not_or];exact⟨lO e h.fx.oa hu,lO e h.fx.og hu⟩
 exact⟨h.fx,ha,h1,h2,h3,h.sp.turns t (n2 _ _ h.fx.os QZ),h.gl.oth t ha (n2 _ _ h.fx.oG.1 QZ) (n2 _ _ h.fx.oG.2.1 QZ) (n2 _ _ h.fx.oG.2.2 QZ),
  λn y S hy hS=>(h.lo n y S hy hS).oth t ha (n2 _ _ (h.fx.oL n y hy).1 QX) (n2 _ _ (h.fx.oL n y hy).2.1 QX) (n2 _ _ (h.fx.oL n y hy).2.2 QX),h.lL,h.lG,h.lS,h.sl⟩
theorem GJ{o:Nat->Nat}{a g q r u v:Nat}(ha:o a=3)(hg:o g=3)(hq:o q=v)(e:o r=u)(h3:u≠3)(hv:u≠v):r∉[a,g,q]:=by simp only[List.mem_cons,List.not_mem_nil,or_false,not_or];exact⟨lO e ha h3,lO e hg h3,lO e hq hv⟩
theorem aB.locOp (h:aB B w a g x c P T st) {i:Nat} (hi:i<x.n) {y:Fx} (hy:x.X[c.node i]? =some y) {p':Sp} (t:aa [a,g,y.q] w w')
    (hf:di w' a g c.kl y s' ((st.L.getD (c.node i) []).set (c.slot i) p')):aB B w' a g x c P T {st with s:=s',L:=js st.L (c.node i) (c.slot i) p'}:=by
  have hq:=(h.fx.oL _ y hy).2.2;obtain⟨h1,h2,h3⟩:=h.rest t Sh;have n3:∀r u,x.o r=u->u≠3->u≠5+c.node i->r∉[a,g,y.q]:=λr u e hu hv=>GJ h.fx.oa h.fx.og hq e hu hv
  refine⟨h.fx,hf.ki.ar,h1,h2,h3,h.sp.turns t (n3 _ _ h.fx.os QZ QX),h.gl.oth t hf.ki.ar (n3 _ _ h.fx.oG.1 QZ QX) (n3 _ _ h.fx.oG.2.1 QZ QX) (n3 _ _ h.fx.oG.2.2 QZ QX),
    λn z S hz hS=>?_,?_,h.lG,h.lS,λj S hj hS=>?_⟩
  · unfold js at hS;simp only at hS;rw[List.getElem?_set]at hS;split at hS
    · rename_i e;split at hS;· simp only[Option.some.injEq]at hS;subst e;rw[hy]at hz;injection hz with hz;subst hz;subst hS;exact hf
      · cases hS
    · rename_i e;have hne:∀u,u=5+n->u≠5+c.node i:=(by omega);exact(h.lo n z S hz hS).oth t hf.ki.ar (n3 _ _ (h.fx.oL n z hz).1 QX (hne _ rfl)) (n3 _ _ (h.fx.oL n z hz).2.1 QX (hne _ rfl)) (n3 _ _ (h.fx.oL n z hz).2.2 QX (hne _ rfl))
  · show(js _ _ _ _).length=_;unfold js;rw[List.length_set];exact h.lL
  · unfold js at hS;simp only at hS;rw[List.getElem?_set]at hS;split at hS
    · rename_i e;split at hS;· simp only[Option.some.injEq]at hS;subst hS;rw[List.length_set];rename_i hl;have:=h.sl j (st.L.getD (c.node i) []) hj (by rw[<-e,List.getD_eq_getElem?_getD,List.getElem?_eq_getElem hl];rfl);exact this
      · cases hS
    · exact h.sl j S hj hS
theorem aB.gloOp (h:aB B w a g x c P T st) {n:Nat} {p':Sp} (t:aa [a,g,x.g.q] w w')
    (hf:di w' a g c.kg x.g s' (st.G.set n p')):aB B w' a g x c P T {st with s:=s',G:=st.G.set n p'}:=by
  have hq:=h.fx.oG.2.2;obtain⟨h1,h2,h3⟩:=h.rest t Sh;have n3:∀r u,x.o r=u->u≠3->u≠4->r∉[a,g,x.g.q]:=λr u e hu hv=>GJ h.fx.oa h.fx.og hq e hu hv
  exact⟨h.fx,hf.ki.ar,h1,h2,h3,h.sp.turns t (n3 _ _ h.fx.os QZ QX),hf,
    λn z S hz hS=>(h.lo n z S hz hS).oth t hf.ki.ar (n3 _ _ (h.fx.oL n z hz).1 QX QX) (n3 _ _ (h.fx.oL n z hz).2.1 QX QX) (n3 _ _ (h.fx.oL n z hz).2.2 QX QX),h.lL,by show(st.G.set n p').length=_;rw[List.length_set];exact h.lG,h.lS,h.sl⟩
theorem aB.put (h:aB B w a g x c P T st) {i:Nat} {p p':Sp} (hp:st.T[i]? =some p) {j:Nat} {u:Value} (hj:j<4) (he:(a9 p).set j u=a9 p'):
    aB B (w.setCell ⟨x.qs,i*4+j,none⟩ u) a g x c P T {st with T:=st.T.set i p'}:=by
  have t:aa [x.qs] w (w.setCell ⟨x.qs,i*4+j,none⟩ u):=aU _ _ _;obtain⟨h1,h2,h3⟩:=h.rest t (by intro i hi;simp at hi;subst hi;rw[h.fx.os];omega);have n1:∀r v,x.o r=v->v≠2->r∉[x.qs]:=λr v e hv=>by simpa using lO e h.fx.os hv
  have na:=n1 _ _ h.fx.oa QZ;have ng:=n1 _ _ h.fx.og QZ
  exact⟨h.fx,h.ar.turns t na ng,h1,h2,h3,h.sp.put hp hj he,h.gl.turns t (n1 _ _ h.fx.oG.1 QZ) (n1 _ _ h.fx.oG.2.1 QZ) na ng (n1 _ _ h.fx.oG.2.2 QZ),
    λn z S hz hS=>(h.lo n z S hz hS).turns t (n1 _ _ (h.fx.oL n z hz).1 QX) (n1 _ _ (h.fx.oL n z hz).2.1 QX) na ng (n1 _ _ (h.fx.oL n z hz).2.2 QX),h.lL,h.lG,by show(st.T.set i p').length=_;rw[List.length_set];exact h.lS,h.sl⟩
theorem aB.put0 (h:aB B w a g x c P T st) {i:Nat} {p p':Sp} (hp:st.T[i]? =some p) {u:Value} (he:(a9 p).set 0 u=a9 p'):
    aB B (w.setCell ⟨x.qs,i*4,none⟩ u) a g x c P T {st with T:=st.T.set i p'}:=h.put hp (j:=0) QZ he
theorem aB.row (h:aB B w a g x c P T st) {n:Nat} {y:Fx} {v:Nat} (hy:x.X[n]? =some y) (hv:x.W[n]? =some v):
    w.cell? ⟨x.qn,n*2,none⟩=some ↑y.p/\w.cell? ⟨x.qn,n*2+1,none⟩=some (.int .i64 v):=by
  obtain⟨Z,z⟩:=h.nd;have hz:(x.X.zip x.W)[n]? =some (y,v):=by rw[List.getElem?_zip_eq_some];exact⟨hy,hv⟩
  have c0:=dt ndE 2 vV _ n _ 0 ↑y.p hz rfl;have c1:=dt ndE 2 vV _ n _ 1 (.int .i64 v) hz rfl;have l0:=(List.getElem?_eq_some_iff.1 c0).1;have l1:=(List.getElem?_eq_some_iff.1 c1).1;have e0:=z.cell (n*2);have e1:=z.cell (n*2+1);simp only[List.getElem?_toArray]at e0 e1;rw[List.getElem?_append_left (by simpa using l0),show n*2=n*2+0 from rfl,c0]at e0;rw[List.getElem?_append_left l1,c1]at e1;exact⟨e0,e1⟩
theorem kX {P:Program} {fn:Func} {p u v:Tmp} {ty:TypeId} (h:fn.results=#[.cell p ty,.tmp u,.tmp v]) (tmps:Array Value) (w:World) (g:Nat) (t:TypeId) (cs:Array Value) (fr:Nat×Nat) (d:TypeDesc)
    (hp:tmps.getD p undef= ↑g) (hg:w.heap[g]? =some (.cells cs t fr))
    (hu:P.underlying ty=some d) (hd:(match d with|.struct _|.array _ _=>true|_=>false)=true) (hi:(P.info? ty).map (·.size)=some cs.size):
    (results fn tmps).run P w= .ok (.tuple #[.agg cs,tmps.getD u undef,tmps.getD v undef]) w:=by
  have hp':tmps[p]?.getD undef= ↑g:=by simpa using hp
  simp[results,h,hp',asAddr,run_loadVar_row w g t ty cs fr d hg hu hd hi]
theorem yw (h:aB B w a g x c P T st):Calls Tryz.prog 238 #[↑x.l] w λe w'=>e= .returned (.int .i64 x.n)/\w=w':=by have c8:w.cell? ⟨x.l,8,none⟩=some (.slice (some ⟨x.qs,0,none⟩) x.n x.n):=h.lk.cell 8;clear h;go_enter Tryz.func238,Tryz.ntmps238;exact gs
theorem DG (h:aB B w a g x c P T st)(i:Nat)(hi:i<x.n):Calls Tryz.prog 239 #[↑x.l,.int .i64 i] w λe w'=>e= .returned (.bool true)/\w=w':=by
 have HT:=qh (yw h);have hn:=h.fx.n32;have t1:(0:Int)<=i:=by omega
 have t2:(i:Int)<x.n:=by omega
 clear h;go_enter Tryz.func239,Tryz.ntmps239;exact Jk
theorem lQ (h:aB B w a g x c P T st) (i:Nat) (hi:i<x.n):
    Calls Tryz.prog 236 #[↑x.l,.int .i64 i] w λe w'=>e= .returned (aE (sv st.T i))/\Below w.heap.size w w':=by
  have H:Kq (aB B (w.alloc (.cells #[.int .i64 0,.int .i64 0,.int .i64 0,.int .i64 0] 113)) a g x c P T st):=qh (h.below ((Below.refl _ _).alloc (Nat.le_refl _) _));have hp:=h.thr hi;obtain⟨p,hpp⟩:∃p,p=sv st.T i:=⟨_,rfl⟩;rw[<-hpp]at hp ⊢;have c8:w.cell? ⟨x.l,8,none⟩=some (.slice (some ⟨x.qs,0,none⟩) x.n x.n):=h.lk.cell 8;have a0:=h.sp.cell hp 0 _ rfl;have a1:=h.sp.cell hp 1 _ rfl;have a2:=h.sp.cell hp 2 _ rfl;have a3:=h.sp.cell hp 3 _ rfl;simp only[Nat.add_zero]at a0;have HH:=qh (DG H.o i hi);have hs1:=h.lk.lt;have hs2:=h.sp.lt;have t2:¬(i:Int)<0:=by omega
  clear h hp hpp;go_enter Tryz.func236,Tryz.ntmps236;go_wp2_with (go_at_call 239;refine HH.o.mono ?_;rintro e w' ⟨rfl,rfl⟩);exact bodyPost_ret (results_cell_row Q5 _ _ w.heap.size 113 _ (0,0) _ Q5 (heap_alloc_new w _) Tryz.underlying113 rfl Q0) rfl ⟨rfl,(Below.refl _ _).alloc (Nat.le_refl _) _⟩
theorem n4 (h:aB B w a g x c P T st) (i:Nat) (hi:i<x.n) {y:Fx} {v:Nat} (hy:x.X[c.node i]? =some y) (hv:x.W[c.node i]? =some v):
    Calls Tryz.prog 240 #[↑x.l,.int .i64 i] w λe w'=>e= .returned (.tuple #[.agg #[↑y.p,.int .i64 v],.int .i64 (c.node i:Int),.int .i64 (c.slot i:Int)])/\Below w.heap.size w w':=by
  have hn:=h.fx.n32;obtain⟨hN,hnd⟩:=h.fx.node hi;have hT:i<T.length:=by rw[<-h.fx.nT];exact hi
  have hsl:=(h.fx.cn i hi).2;obtain⟨r0,r1⟩:=h.row hy hv;have b1:=(Below.refl w.heap.size w).alloc (Nat.le_refl _) (.cells #[.pointer none,.int .i64 0] 243);have h1:=h.below b1;have c1:w.cell? ⟨x.l,1,none⟩=some ↑x.b:=h.lk.cell 1;have c7:w.cell? ⟨x.l,7,none⟩=some (.slice (some ⟨x.qn,0,none⟩) x.N x.capn):=h.lk.cell 7;have HN:=qh (kh (w.alloc (.cells #[.pointer none,.int .i64 0] 243)) x.b P T i hT h1.tb.f _ hnd);have hsf:=DN (w.alloc (.cells #[.pointer none,.int .i64 0] 243)).drew x.b P T i hT (h1.below (Below.drew (Below.refl _ _))).tb.f;rw[<-hsl]at hsf;have HS:=qh hsf;have hl1:=h.lk.lt;obtain⟨nd,he⟩:∃nd,nd=c.node i:=⟨_,rfl⟩;rw[<-he]at hN r0 r1 HN ⊢;obtain⟨sl,hs⟩:∃s,s=c.slot i:=⟨_,rfl⟩;rw[<-hs]at HS ⊢;have t1:(0:Int)<=(nd:Int):=by omega
  have t2:(nd:Int)<x.N:=by omega
  have t3:(nd:Int)<=x.N:=by omega
  have HB:=qh b1;have HK:Kq (∀o:Obj,(w.alloc o).drew.cell? ⟨x.l,1,none⟩=some ↑x.b/\(w.alloc o).drew.cell? ⟨x.l,7,none⟩=some (.slice (some ⟨x.qn,0,none⟩) x.N x.capn)/\(w.alloc o).drew.cell? ⟨x.qn,nd*2,none⟩=some ↑y.p/\(w.alloc o).drew.cell? ⟨x.qn,nd*2+1,none⟩=some (.int .i64 v)):=qh λo=>by have ho:=h.below (((Below.refl w.heap.size w).alloc (Nat.le_refl _) o).drew);exact⟨ho.lk.cell 1,ho.lk.cell 7,(ho.row (he ▸ hy) (he ▸ hv)).1,(ho.row (he ▸ hy) (he ▸ hv)).2⟩
  clear h h1 b1 hsf hy hv hnd hsl he hs r0 r1;go_enter Tryz.func240,Tryz.ntmps240;go_wp2_with fail;refine HN.o.mono ?_;rintro en w1 ⟨rfl,rfl⟩;go_wp2_with fail
  go_region_held3 (λW=>W.cell? ⟨x.l,1,none⟩=some ↑x.b/\W.cell? ⟨x.l,7,none⟩=some (.slice (some ⟨x.qn,0,none⟩) x.N x.capn)/\W.cell? ⟨x.qn,nd*2,none⟩=some ↑y.p/\W.cell? ⟨x.qn,nd*2+1,none⟩=some (.int .i64 v))
    (first|exact HK.o _)
    (first|(go_at_call 143;go_loud (refine HS.o.mono ?_);rintro en w3 ⟨rfl,rfl⟩))
  all_goals go_wp2;exact bodyPost_ret (kX Q5 _ _ w.heap.size 243 _ (0,0) _ Q5 (heap_alloc_new w _) Tryz.underlying243 rfl Q0) rfl ⟨rfl,((Below.refl _ _).alloc (Nat.le_refl _) _).drew⟩
end
end
section
open Go.RowKit
def CoS (a g:Nat)(x:Cox):List Nat:=a :: g :: x.qs :: x.g.q :: x.X.map Fx.q
structure cX (BB:Int)(x:Cox)(c:CoC)(st:Co):Prop where
 ops:st.s.ops+1<=1000000000000
 bd:CoB c BB st
 B0:1<=BB
 B1:BB<=10000000000
 ig:inR st.s.W x.g.t=true
 il:∀(n:Nat) (y:Fx),x.X[n]? =some y->inR st.s.W y.t=true
 v:CoV c x.n st
section
variable{B:Nat->Prop}{w w':World}{a g:Nat}{x:Cox}{c:CoC}{P T:List Int}{st st':Co}{s':Ar}{BB:Int}
theorem aB.lts (h:aB B w a g x c P T st):∀r∈CoS a g x,r<w.heap.size:=by
 intro r hr;unfold CoS at hr;simp only[List.mem_cons]at hr;rcases hr with rfl|rfl|rfl|rfl|hr
 ·exact h.ar.blk.lt
 ·exact h.ar.wds.lt
 ·exact h.sp.lt
 ·exact h.gl.ki.sp.lt
 ·obtain⟨y,hy,rfl⟩:=List.mem_map.1 hr;obtain⟨n,hn,e⟩:=List.getElem_of_mem hy;have hl:n<st.L.length:=by rw[h.lL,<-h.fx.lX];exact hn
  exact(h.lo n y _ (by rw[List.getElem?_eq_getElem hn,e]) (List.getElem?_eq_getElem hl)).ki.sp.lt
theorem q7{y:Fx}{n:Nat}(hy:x.X[n]? =some y)(t:aa [a,g,y.q] w w'):aa (CoS a g x) w w':=by
 refine t.mono ?_;intro i hi;have hm:y.q∈x.X.map Fx.q:=List.mem_map.2 ⟨y,List.mem_of_getElem? hy,rfl⟩;unfold CoS;simp only[List.mem_cons,List.not_mem_nil,or_false]at hi ⊢;rcases hi with rfl|rfl|rfl
 ·exact .inl rfl
 ·exact .inr (.inl rfl)
 ·exact .inr (.inr (.inr (.inr hm)))
theorem uS (t:aa [a,g,x.g.q] w w'):aa (CoS a g x) w w':=by refine t.mono ?_;intro i hi;unfold CoS;simp only[List.mem_cons,List.not_mem_nil,or_false]at hi ⊢;rcases hi with rfl|rfl|rfl<;>simp
theorem DS (t:aa [a,g] w w'):aa (CoS a g x) w w':=by refine t.mono ?_;intro i hi;unfold CoS;simp only[List.mem_cons,List.not_mem_nil,or_false]at hi ⊢;rcases hi with rfl|rfl<;>simp
theorem sU (i:Nat)(u:Value):aa (CoS a g x) w (w.setCell ⟨x.qs,i,none⟩ u):=(aa.refl _ _).setCell (.inl RE) _
theorem GL (h:aB B w a g x c P T st)(C:cX BB x c st){n:Nat}{y:Fx}{S:List Sp}(hy:x.X[n]? =some y)(hS:st.L[n]? =some S):kC c.kl y st.s S BB:=
 ⟨C.ops,C.bd.w,C.bd.l S (List.mem_of_getElem? hS),C.B0,C.B1,C.il n y hy⟩
theorem Ic (C:cX BB x c st):kC c.kg x.g st.s st.G BB:=⟨C.ops,C.bd.w,C.bd.g,C.B0,C.B1,C.ig⟩
theorem i5{α:Type}{l:List α}{n:Nat}{z d:α}(h:l[n]? =some z):l.getD n d=z:=by rw[List.getD_eq_getElem?_getD,h];rfl
theorem rH (h:aB B w a g x c P T st) (C:cX BB x c st) (i:Nat) (hi:i<x.n) {y:Fx} (hy:x.X[c.node i]? =some y):
    Calls Tryz.prog 245 #[↑y.p,.int .i64 (c.slot i)] w λe w'=>e= .returned (.bool (lj c st i))/\aB B w' a g x c P T {st with s:=(stL c st i).1,L:=setL c st i (stL c st i).2}/\aa (CoS a g x) w w':=by obtain⟨y',v,S,hy',hv,hS,hs,hsp⟩:=h.loc hi;rw[hy]at hy';injection hy' with e;subst e;have e1:=(h.fx.tl _ _ hy).1;have e2:=(h.fx.tl _ _ hy).2;have eS:st.L.getD (c.node i) []=S:=i5 hS;refine(qi (h.lo _ _ _ hy hS) h.fx.kl (c.slot i) _ hsp (GL h C hy hS) (C.v.lpc hi)).mono ?_;rintro e w' ⟨rfl,hf,t⟩;rw[<-e1,e2]at hf;rw[<-e1,e2];refine⟨rfl,?_,q7 hy t⟩;refine h.locOp hi hy t ?_;rw[eS];exact hf
theorem rG (h:aB B w a g x c P T st) (C:cX BB x c st) (i:Nat) (hi:i<x.n):
    Calls Tryz.prog 245 #[↑x.g.p,.int .i64 (c.node i)] w λe w'=>e= .returned (.bool (mX c st i))/\aB B w' a g x c P T {st with s:=(stG c st i).1,G:=st.G.set (c.node i) (stG c st i).2}/\aa (CoS a g x) w w':=by have e1:=h.fx.tg;have e2:=h.fx.gm;refine(qi h.gl h.fx.kg (c.node i) _ (h.glo hi) (Ic C) (C.v.gpc hi)).mono ?_;rintro e w' ⟨rfl,hf,t⟩;rw[<-e1,e2]at hf;rw[<-e1,e2];exact⟨rfl,h.gloOp t hf,uS t⟩
theorem pA (h:aB B w a g x c P T st) (i:Nat) (hi:i<x.n) {y:Fx} (hy:x.X[c.node i]? =some y):
    Calls Tryz.prog 248 #[↑y.p,.int .i64 (c.slot i)] w λe w'=>(∃b,e= .returned (.bool b))/\aB B w' a g x c P T {st with L:=setL c st i (be (lsp st.L (c.node i) (c.slot i)))}/\aa (CoS a g x) w w':=by obtain⟨y',v,S,hy',hv,hS,hs,hsp⟩:=h.loc hi;rw[hy]at hy';injection hy' with e;subst e;have eS:st.L.getD (c.node i) []=S:=i5 hS;refine(nJ (h.lo _ _ _ hy hS) h.fx.kl (c.slot i) _ hsp).mono ?_;rintro e w' ⟨rfl,hf,t⟩;have t':aa [a,g,y.q] w w':=aG t;refine⟨⟨_,rfl⟩,?_,q7 hy t'⟩;refine h.locOp hi hy t' ?_;rw[eS];exact hf
theorem xt (h:aB B w a g x c P T st) (i:Nat) (hi:i<x.n):
    Calls Tryz.prog 248 #[↑x.g.p,.int .i64 (c.node i)] w λe w'=>(∃b,e= .returned (.bool b))/\aB B w' a g x c P T {st with G:=st.G.set (c.node i) (be (sv st.G (c.node i)))}/\aa (CoS a g x) w w':=by refine(nJ h.gl h.fx.kg (c.node i) _ (h.glo hi)).mono ?_;rintro e w' ⟨rfl,hf,t⟩;exact⟨⟨_,rfl⟩,h.gloOp (aG t) hf,uS (aG t)⟩
theorem Cg (h:aB B w a g x c P T st) (i:Nat) (hi:i<x.n) {y:Fx} (hy:x.X[c.node i]? =some y):
    Calls Tryz.prog 241 #[↑y.p,.int .i64 (c.slot i)] w λe w'=>(∃b,e= .returned (.bool b))/\aB B w' a g x c P T {st with L:=setL c st i (askK c.kl (lsp st.L (c.node i) (c.slot i)))}/\aa (CoS a g x) w w':=by obtain⟨y',v,S,hy',hv,hS,hs,hsp⟩:=h.loc hi;rw[hy]at hy';injection hy' with e;subst e;have eS:st.L.getD (c.node i) []=S:=i5 hS;refine(tW (h.lo _ _ _ hy hS) h.fx.kl (c.slot i) _ hsp).mono ?_;rintro e w' ⟨rfl,hf,t⟩;have t':aa [a,g,y.q] w w':=aG t;refine⟨⟨_,rfl⟩,?_,q7 hy t'⟩;refine h.locOp hi hy t' ?_;rw[eS];exact hf
theorem Cf (h:aB B w a g x c P T st) (i:Nat) (hi:i<x.n):
    Calls Tryz.prog 241 #[↑x.g.p,.int .i64 (c.node i)] w λe w'=>(∃b,e= .returned (.bool b))/\aB B w' a g x c P T {st with G:=st.G.set (c.node i) (askK c.kg (sv st.G (c.node i)))}/\aa (CoS a g x) w w':=by refine(tW h.gl h.fx.kg (c.node i) _ (h.glo hi)).mono ?_;rintro e w' ⟨rfl,hf,t⟩;exact⟨⟨_,rfl⟩,h.gloOp (aG t) hf,uS (aG t)⟩
def pZ (c:CoC)(st:Co)(i:Nat):Ar×Bool:=ch c.kl (c.tl (c.node i)) st.s (c.slot i) (lsp st.L (c.node i) (c.slot i))
theorem zo (h:aB B w a g x c P T st) (C:cX BB x c st) (i:Nat) (hi:i<x.n) {y:Fx} (hy:x.X[c.node i]? =some y) (h10:(lsp st.L (c.node i) (c.slot i)).pc=10):
    Calls Tryz.prog 247 #[↑y.p,.int .i64 (c.slot i)] w λe w'=>e= .returned (.bool (pZ c st i).2)/\aB B w' a g x c P T {st with s:=(pZ c st i).1}/\aa (CoS a g x) w w':=by
  obtain⟨y',v,S,hy',hv,hS,hs,hsp⟩:=h.loc hi;rw[hy]at hy';injection hy' with e;subst e;have e1:=(h.fx.tl _ _ hy).1;have eS:st.L.getD (c.node i) []=S:=i5 hS;refine(zU (h.lo _ _ _ hy hS) h.fx.kl (c.slot i) _ hsp (GL h C hy hS) h10).mono ?_;rintro e w' ⟨rfl,hf,t⟩;rw[<-e1]at hf;rw[<-e1];refine⟨rfl,?_,q7 hy t⟩;have hl:=h.locOp (p':=lsp st.L (c.node i) (c.slot i)) hi hy t (s':=(pZ c st i).1) (by rw[eS,bX hsp];exact hf);have eL:js st.L (c.node i) (c.slot i) (lsp st.L (c.node i) (c.slot i))=st.L:=by unfold js;rw[eS,bX hsp];obtain⟨hl,he⟩:=List.getElem?_eq_some_iff.1 hS;rw[<-he];exact List.set_getElem_self hl
  rw[eL]at hl;exact hl
theorem vv (h:aB B w a g x c P T st) (ho:st.s.ops+1<=1000000000000) (n:Nat) {v:Nat} (hv:x.W[n]? =some v):
    Calls Tryz.prog 173 #[↑a,.int .i64 v] w λe w'=>e= .returned (.int .i64 (ldW st.s.W (c.cw n)))/\aB B w' a g x c P T {st with s:=ae st.s (c.cw n)}/\aa (CoS a g x) w w':=by have e1:=(h.fx.cc n v hv).1;rw[e1];refine(aC h.ar v ho).mono ?_;rintro e w' ⟨rfl,hf,t⟩;exact⟨rfl,h.cnt t hf,DS t⟩
theorem nj (h:aB B w a g x c P T st) (ho:st.s.ops+1<=1000000000000) (n:Nat) {v:Nat} (hv:x.W[n]? =some v) (u:Int):
    Calls Tryz.prog 177 #[↑a,.int .i64 v,.int .i64 u] w λe w'=>e= .returned (.tuple #[])/\aB B w' a g x c P T {st with s:=ac st.s (c.cw n) u}/\aa (CoS a g x) w w':=by have e1:=(h.fx.cc n v hv).1;rw[e1];refine(am h.ar v u ho).mono ?_;rintro e w' ⟨rfl,hf,t⟩;exact⟨rfl,h.cnt t hf,DS t⟩
structure CoN (B:Nat->Prop)(w0 w:World)(a g:Nat)(x:Cox)(c:CoC)(P T:List Int)(st:Co)(k:Nat)(y:Fx)(v:Nat):Prop where
 is:aB B w a g x c P T st
 nb:Blk w k 243 #[↑y.p,.int .i64 v]
 nS:k∉CoS a g x
 tn:aa (CoS a g x) w0 w
variable{w0:World}
theorem CoN.to{k:Nat}{y:Fx}{v:Nat}(h:CoN B w0 w a g x c P T st k y v)(h2:aB B w' a g x c P T st')(t:aa (CoS a g x) w w'):CoN B w0 w' a g x c P T st' k y v:=
 ⟨h2,t.blk h.nb h.nS,h.nS,h.tn.trans t⟩
theorem CoN.put {k:Nat} {y:Fx} {v:Nat} (h:CoN B w0 w a g x c P T st k y v) {i:Nat} {p p':Sp} (hp:st.T[i]? =some p) {j:Nat} {u:Value} (hj:j<4) (he:(a9 p).set j u=a9 p'):
    CoN B w0 (w.setCell ⟨x.qs,i*4+j,none⟩ u) a g x c P T {st with T:=st.T.set i p'} k y v:=h.to (h.is.put hp hj he) (sU _ _)
theorem CoN.drew{k:Nat}{y:Fx}{v:Nat}(h:CoN B w0 w a g x c P T st k y v):CoN B w0 w.drew a g x c P T st k y v:=h.to (h.is.below (Below.refl _ _).drew) (aa.refl _ _).drew
theorem CoN.ar (h:aB B w a g x c P T st):w.cell? x.l=some ↑a:=h.lk.cell 0
theorem CoN.bud (h:aB B w a g x c P T st):w.cell? ⟨x.l,5,none⟩=some (.int .i64 c.bud):=h.lk.cell 5
theorem CoN.glo (h:aB B w a g x c P T st):w.cell? ⟨x.l,6,none⟩=some ↑x.g.p:=h.lk.cell 6
theorem CoN.spots (h:aB B w a g x c P T st):w.cell? ⟨x.l,8,none⟩=some (.slice (some ⟨x.qs,0,none⟩) x.n x.n):=h.lk.cell 8
theorem CoN.n0{k:Nat}{y:Fx}{v:Nat}(h:CoN B w0 w a g x c P T st k y v):w.cell? k=some ↑y.p:=h.nb.cell 0
theorem CoN.n1{k:Nat}{y:Fx}{v:Nat}(h:CoN B w0 w a g x c P T st k y v):w.cell? ⟨k,1,none⟩=some (.int .i64 v):=h.nb.cell 1
theorem CoN.mk' (h:aB B w a g x c P T st) {w1:World} (b1:Below w.heap.size w w1) (y:Fx) (v:Nat):
    CoN B w (w1.alloc (.cells #[↑y.p,.int .i64 v] 243)) a g x c P T st w1.heap.size y v:=by have hs:=b1.size;refine⟨h.below (b1.alloc hs _),Blk.new w1 _ _,λk=>?_,aa.of_below (b1.alloc hs _)⟩;have:=h.lts _ k;omega
end
end
section
open Go.RowKit
def xq (c:CoC)(st:Co)(i:Nat)(p:Sp):Co:=jg st i ((cO c st i p).1,(cO c st i p).2.1,(cO c st i p).2.2.1,{(cO c st i p).2.2.2 with pc:=p.pc})
def gD (B:Nat->Prop)(w:World)(a g:Nat)(x:Cox)(c:CoC)(P T:List Int)(st:Co)(i:Nat)(p:Sp)(e:Ending)(w':World):Prop:=
 e= .returned (.int .i64 (cO c st i p).2.2.2.pc)/\aB B w' a g x c P T (xq c st i p)/\aa (CoS a g x) w w'
section
variable{B:Nat->Prop}{w w' w0:World}{a g:Nat}{x:Cox}{c:CoC}{P T:List Int}{st st':Co}{s':Ar}{BB:Int}
theorem py (i:Nat) (p:Sp) {n:Int} {s':Ar} {G':List Sp} {L':List (List Sp)} {q:Sp} (e1:(cO c st i p)=(s',G',L',q)) {e:Ending} (e2:e= .returned (.int .i64 n)) (e3:q.pc=n)
    (h:aB B w' a g x c P T ⟨s',G',L',st.T.set i {q with pc:=p.pc}⟩) (t:aa (CoS a g x) w w'):gD B w a g x c P T st i p e w':=by unfold gD xq jg;rw[e1];exact⟨by rw[e2,e3],h,t⟩
theorem CoN.drewN{k:Nat}{y:Fx}{v:Nat}(h:CoN B w0 w a g x c P T st k y v)(n:Nat):CoN B w0 (w.drewN n) a g x c P T st k y v:=h.to (h.is.turns0 ((aa.refl [] w).drewN n)) ((aa.refl _ _).drewN n)
theorem jo (i:Nat) (p:Sp) (hp:st.T[i]? =some p) {n:Int} {s':Ar} {G':List Sp} {L':List (List Sp)} {q:Sp} (e1:(cO c st i p)=(s',G',L',q)) {e:Ending} (e2:e= .returned (.int .i64 n)) (e3:q.pc=n) (e4:{q with pc:=p.pc}=p)
    (h:aB B w' a g x c P T ⟨s',G',L',st.T⟩) (t:aa (CoS a g x) w w'):gD B w a g x c P T st i p e w':=py i p e1 e2 e3 (by rw[e4,bX hp];exact h) t
theorem uG (b:Int)(w:World)(h0:0<=b)(h1:b<=1000):Calls Tryz.prog 135 #[.int .i64 b] w λe w'=>e= .returned (.bool true)/\w=w':=by go_enter Tryz.func135,Tryz.ntmps135;exact gs
theorem EB (n f t:Int)(w:World):Calls Tryz.prog 171 #[.int .i64 n,.int .i64 f,.int .i64 t] w λe w'=>e= .returned (.bool (decide (f<=n)&&decide (n<=t)))/\w=w':=by cases h1:decide (f<=n)<;>cases h2:decide (n<=t);all_goals have k1:decide (n >= f)=decide (f<=n):=rfl;rw[h1]at k1;go_enter Tryz.func171,Tryz.ntmps171;go_wp2;go_ret;exact⟨rfl,rfl⟩
theorem uA (u bud:Int)(al:Bool)(hb:0<=bud/\bud<=1000)(w:World):Calls Tryz.prog 246 #[.int .i64 u,.int .i64 bud,.bool al] w λe w'=>e= .returned (.bool (mn u bud al))/\w=w':=by
 obtain⟨h0,h1⟩:=hb;have HI:=qh (λw=>EB u 1 bud w);have e:mn u bud al=((decide (1<=u)&&decide (u<=bud))&&!al):=by unfold mn;rw[Bool.decide_and]
 rw[e];clear e;obtain⟨q,hq⟩:∃q,q=(decide (1<=u)&&decide (u<=bud)):=⟨_,rfl⟩;rw[<-hq]at HI ⊢;clear hq;cases q<;>cases al;all_goals go_enter Tryz.func246,Tryz.ntmps246;go_wp2_with (first|(go_at_call 135;refine(uG bud _ h0 h1).mono ?_;rintro e w' ⟨rfl,rfl⟩)|(go_at_call 171;refine(HI.o _).mono ?_;rintro e w' ⟨rfl,rfl⟩));go_ret;exact⟨rfl,rfl⟩
theorem Ee (h:aB B w a g x c P T st) (C:cX BB x c st) (i:Nat) (hi:i<x.n) (u b z:Int) (hp:sv st.T i=⟨1,u,b,z⟩):
    Calls Tryz.prog 242 #[↑x.l,.int .i64 i] w (gD B w a g x c P T st i ⟨1,u,b,z⟩):=by
  obtain⟨y,v,S,hy,hv,hS,hs,hsp⟩:=h.loc hi;have hp':st.T[i]? =some (⟨1,u,b,z⟩:Sp):=by rw[h.thr hi,hp]
  have hn:=h.fx.n32;have c8:=CoN.spots h;have t2:¬(i:Int)<0:=by omega
  have hl1:=h.lk.lt;have hs2:=h.sp.lt;have HOF:=qh (n4 h i hi hy hv);have HNB:=qh (λw1 (b1:Below w.heap.size w w1)=>CoN.mk' h b1 y v);obtain⟨r,hr⟩:∃r,r=stL c st i:=⟨_,rfl⟩;obtain⟨q,hq⟩:∃q,q=lj c st i:=⟨_,rfl⟩;have HF0:=(λW (k:aB B W a g x c P T st)=>rH k C i hi hy);rw[<-hr,<-hq]at HF0;have HF:=qh HF0;have HX:Kq (cO c st i ⟨1,u,b,z⟩=(r.1,st.G,setL c st i r.2,if q then⟨2,u,b,z⟩else⟨1,u,b,z⟩)):=qh (by rw[hr,hq];rfl);have HP:=qh hp';clear HF0 hr hq;clear h C hp hp' hy hv hS hs hsp;cases q;all_goals go_enter Tryz.func242,Tryz.ntmps242;go_wp2_with fail;refine HOF.o.mono ?_;rintro en w1 ⟨rfl,b1⟩;have N1:=qh (HNB.o w1 b1);have hb1:=b1.size;have e0:=N1.o.is.sp.cell HP.o 0 _ rfl;simp only[Nat.add_zero]at e0;have k0:=N1.o.n0;have k6:=CoN.glo N1.o.is;clear b1;go_wp2_with fail;refine(HF.o _ N1.o.is).mono ?_;rintro en w2 ⟨rfl,k2,t2⟩;have N2:=qh (N1.o.to k2 t2);have e2:=N2.o.is.sp.cell HP.o 0 _ rfl;simp only[Nat.add_zero]at e2;clear k2 t2 e0;go_wp2;go_ret;exact jo i _ HP.o HX.o rfl rfl rfl N2.o.is N2.o.tn
theorem Ef (h:aB B w a g x c P T st) (C:cX BB x c st) (i:Nat) (hi:i<x.n) (u b z:Int) (hp:sv st.T i=⟨2,u,b,z⟩):
    Calls Tryz.prog 242 #[↑x.l,.int .i64 i] w (gD B w a g x c P T st i ⟨2,u,b,z⟩):=by
  obtain⟨y,v,S,hy,hv,hS,hs,hsp⟩:=h.loc hi;have hp':st.T[i]? =some (⟨2,u,b,z⟩:Sp):=by rw[h.thr hi,hp]
  have hn:=h.fx.n32;have c8:=CoN.spots h;have t2:¬(i:Int)<0:=by omega
  have hl1:=h.lk.lt;have hs2:=h.sp.lt;have HOF:=qh (n4 h i hi hy hv);have HNB:=qh (λw1 (b1:Below w.heap.size w w1)=>CoN.mk' h b1 y v);obtain⟨ar',har⟩:∃s,s=ae st.s (c.cw (c.node i)):=⟨_,rfl⟩;obtain⟨q,hq⟩:∃q,q=ldW st.s.W (c.cw (c.node i)):=⟨_,rfl⟩;have HO0:=(λW (k:aB B W a g x c P T st)=>vv k C.ops (c.node i) hv);rw[<-har,<-hq]at HO0;have HO:=qh HO0;have HA:=qh (λW (s:Ar) (T':List Sp) (k:aB B W a g x c P T ⟨s,st.G,st.L,T'⟩)=>Cf k i hi);have HX:Kq (cO c st i ⟨2,u,b,z⟩=if 0<q then(ar',st.G,st.L,⟨10,q,b,z⟩)else(ar',st.G.set (c.node i) (askK c.kg (sv st.G (c.node i))),st.L,⟨3,q,b,z⟩)):=qh (by rw[har,hq];rfl);have HC:=qh (λW st (k y v) (N:CoN B w W a g x c P T st k y v)=>And.intro (CoN.ar N.is) N.n1);have HP:=qh hp';have HL:=qh (show i<st.T.length by rw[h.lS];exact hi);clear HO0 har hq;clear h C hp hp' hy hv hS hs hsp;cases hc:decide (0<q)
  all_goals
    have hc':decide (q>0)=decide (0<q):=rfl;rw[hc]at hc';go_enter Tryz.func242,Tryz.ntmps242;go_wp2_with fail;refine HOF.o.mono ?_;rintro en w1 ⟨rfl,b1⟩;have N1:=qh (HNB.o w1 b1);have hb1:=b1.size;have e0:=N1.o.is.sp.cell HP.o 0 _ rfl;simp only[Nat.add_zero]at e0;have k0:=N1.o.n0;have k6:=CoN.glo N1.o.is;clear b1;have N1d:=qh N1.o.drew;have HW:=qh (show ∃W,W=(w1.alloc (.cells #[↑y.p,.int .i64 v] 243))from⟨_,rfl⟩);go_wp2_with fail
    go_region_held3 (λW=>W.cell? x.l=some ↑a/\W.cell? ⟨w1.heap.size,1,none⟩=some (.int .i64 v))
      (first|with_reducible exact HC.o _ _ _ _ _ N1d.o|with_reducible exact HC.o _ _ _ _ _ N2.o|with_reducible exact HC.o _ _ _ _ _ N3.o)
      (first
        | (go_at_call 173;go_loud (refine(HO.o _ N1d.o.is).mono ?_);rintro en w3 ⟨rfl,k3,t3⟩;have N2:=qh (N1d.o.to k3 t3);have N3:=qh (N2.o.put (p':=(⟨2,q,b,z⟩:Sp)) HP.o (j:=1) (u:= .int .i64 q) QZ rfl);have e1:=N2.o.is.sp.cell HP.o 1 _ rfl;have z1:=N2.o.is.sp.free (i*4+1);clear k3 t3))
  all_goals
    have e4:=N3.o.is.sp.cell (au HP.o _) 1 _ rfl;have k6':=CoN.glo N3.o.is
    first
      | (go_wp2
         go_ret
         exact py i _ (HX.o.trans (if_pos Q8)) rfl rfl N3.o.is N3.o.tn)
      | (go_wp2_with fail
         refine(HA.o _ _ _ N3.o.is).mono ?_
         rintro en w4 ⟨⟨bb,rfl⟩,k4,t4⟩
         have N4:=qh (N3.o.to k4 t4)
         clear k4 t4
         go_wp2
         go_ret
         exact py i _ (HX.o.trans (if_neg Q8)) rfl rfl N4.o.is N4.o.tn)
theorem Eg (h:aB B w a g x c P T st) (C:cX BB x c st) (i:Nat) (hi:i<x.n) (u b z:Int) (hp:sv st.T i=⟨3,u,b,z⟩):
    Calls Tryz.prog 242 #[↑x.l,.int .i64 i] w (gD B w a g x c P T st i ⟨3,u,b,z⟩):=by
  obtain⟨y,v,S,hy,hv,hS,hs,hsp⟩:=h.loc hi;have hp':st.T[i]? =some (⟨3,u,b,z⟩:Sp):=by rw[h.thr hi,hp]
  have hn:=h.fx.n32;have c8:=CoN.spots h;have t2:¬(i:Int)<0:=by omega
  have hl1:=h.lk.lt;have hs2:=h.sp.lt;have HOF:=qh (n4 h i hi hy hv);have HNB:=qh (λw1 (b1:Below w.heap.size w w1)=>CoN.mk' h b1 y v);obtain⟨r,hr⟩:∃r,r=stG c st i:=⟨_,rfl⟩;obtain⟨q,hq⟩:∃q,q=mX c st i:=⟨_,rfl⟩;have HF0:=(λW (k:aB B W a g x c P T st)=>rG k C i hi);rw[<-hr,<-hq]at HF0;have HF:=qh HF0;have HX:Kq (cO c st i ⟨3,u,b,z⟩=(r.1,st.G.set (c.node i) r.2,st.L,if q then⟨4,u,b,z⟩else⟨3,u,b,z⟩)):=qh (by rw[hr,hq];rfl);have HP:=qh hp';clear HF0 hr hq;clear h C hp hp' hy hv hS hs hsp;cases q;all_goals go_enter Tryz.func242,Tryz.ntmps242;go_wp2_with fail;refine HOF.o.mono ?_;rintro en w1 ⟨rfl,b1⟩;have N1:=qh (HNB.o w1 b1);have hb1:=b1.size;have e0:=N1.o.is.sp.cell HP.o 0 _ rfl;simp only[Nat.add_zero]at e0;have k0:=N1.o.n0;have k6:=CoN.glo N1.o.is;clear b1;go_wp2_with fail;refine(HF.o _ N1.o.is).mono ?_;rintro en w2 ⟨rfl,k2,t2⟩;have N2:=qh (N1.o.to k2 t2);have e2:=N2.o.is.sp.cell HP.o 0 _ rfl;simp only[Nat.add_zero]at e2;clear k2 t2 e0;go_wp2;go_ret;exact jo i _ HP.o HX.o rfl rfl rfl N2.o.is N2.o.tn
theorem Eh (h:aB B w a g x c P T st) (C:cX BB x c st) (i:Nat) (hi:i<x.n) (u b z:Int) (hp:sv st.T i=⟨4,u,b,z⟩):
    Calls Tryz.prog 242 #[↑x.l,.int .i64 i] w (gD B w a g x c P T st i ⟨4,u,b,z⟩):=by
  obtain⟨y,v,S,hy,hv,hS,hs,hsp⟩:=h.loc hi;have hp':st.T[i]? =some (⟨4,u,b,z⟩:Sp):=by rw[h.thr hi,hp]
  have hn:=h.fx.n32;have c8:=CoN.spots h;have t2:¬(i:Int)<0:=by omega
  have hl1:=h.lk.lt;have hs2:=h.sp.lt;have HOF:=qh (n4 h i hi hy hv);have HNB:=qh (λw1 (b1:Below w.heap.size w w1)=>CoN.mk' h b1 y v);obtain⟨ar',har⟩:∃s,s=ac st.s (c.cw (c.node i)) 1:=⟨_,rfl⟩;have HO0:=(λW (k:aB B W a g x c P T st)=>nj k C.ops (c.node i) hv 1);rw[<-har]at HO0;have HO:=qh HO0;have HX:Kq (cO c st i ⟨4,u,b,z⟩=(ar',st.G,st.L,⟨10,1,b,z⟩)):=qh Rl;have HC:=qh (λW st (k y v) (N:CoN B w W a g x c P T st k y v)=>And.intro (CoN.ar N.is) N.n1);have HP:=qh hp';clear HO0 har;clear h C hp hp' hy hv hS hs hsp;go_enter Tryz.func242,Tryz.ntmps242;go_wp2_with fail;refine HOF.o.mono ?_;rintro en w1 ⟨rfl,b1⟩;have N1:=qh (HNB.o w1 b1);have hb1:=b1.size;have e0:=N1.o.is.sp.cell HP.o 0 _ rfl;simp only[Nat.add_zero]at e0;have k0:=N1.o.n0;have k6:=CoN.glo N1.o.is;clear b1;have N1d:=qh N1.o.drew;go_wp2_with fail
  go_region_held3 (λW=>W.cell? x.l=some ↑a/\W.cell? ⟨w1.heap.size,1,none⟩=some (.int .i64 v))
    (first|with_reducible exact HC.o _ _ _ _ _ N1d.o|with_reducible exact HC.o _ _ _ _ _ N2.o)
    (first
      | (go_at_call 177;go_loud (refine(HO.o _ N1d.o.is).mono ?_);rintro en w3 ⟨rfl,k3,t3⟩;have N2:=qh (N1d.o.to k3 t3);clear k3 t3))
  all_goals have e1:=N2.o.is.sp.cell HP.o 1 _ rfl;have z1:=N2.o.is.sp.free (i*4+1);have N3:=qh (N2.o.put (p':=(⟨4,1,b,z⟩:Sp)) HP.o (j:=1) (u:= .int .i64 1) QZ rfl);go_wp2;go_ret;exact py i _ HX.o rfl rfl N3.o.is N3.o.tn
end
end
section
open Go.RowKit
section
variable{B:Nat->Prop}{w w' w0:World}{a g:Nat}{x:Cox}{c:CoC}{P T:List Int}{st st':Co}{s':Ar}{BB:Int}
theorem zp (h:aB B w a g x c P T st) (C:cX BB x c st) (i:Nat) (hi:i<x.n) (u b z:Int) (hp:sv st.T i=⟨11,u,b,z⟩):
    Calls Tryz.prog 243 #[↑x.l,.int .i64 i] w (gD B w a g x c P T st i ⟨11,u,b,z⟩):=by
  obtain⟨y,v,S,hy,hv,hS,hs,hsp⟩:=h.loc hi;have hp':st.T[i]? =some (⟨11,u,b,z⟩:Sp):=by rw[h.thr hi,hp]
  have hn:=h.fx.n32;have c8:=CoN.spots h;have t2:¬(i:Int)<0:=by omega
  have hl1:=h.lk.lt;have hs2:=h.sp.lt;have HOF:=qh (n4 h i hi hy hv);have HNB:=qh (λw1 (b1:Below w.heap.size w w1)=>CoN.mk' h b1 y v);obtain⟨ar',har⟩:∃s,s=ae st.s (c.cw (c.node i)):=⟨_,rfl⟩;obtain⟨q,hq⟩:∃q,q=ldW st.s.W (c.cw (c.node i)):=⟨_,rfl⟩;have HO0:=(λW (k:aB B W a g x c P T st)=>vv k C.ops (c.node i) hv);rw[<-har,<-hq]at HO0;have HO:=qh HO0;have HX:Kq (cO c st i ⟨11,u,b,z⟩=(ar',st.G,st.L,⟨if c.bud<q then 14 else 12,q,b,z⟩)):=qh (by rw[har,hq];rfl);have HC:=qh (λW st (k y v) (N:CoN B w W a g x c P T st k y v)=>And.intro (CoN.ar N.is) N.n1);have HP:=qh hp';clear HO0 har hq;clear h C hp hp' hy hv hS hs hsp;obtain⟨bud,hbud⟩:∃d,d=c.bud:=⟨_,rfl⟩;rw[<-hbud]at HX;have HD:=qh hbud;clear hbud;cases hc:decide (bud<q)
  all_goals
    have hc':decide (q>bud)=decide (bud<q):=rfl;rw[hc]at hc';go_enter Tryz.func243,Tryz.ntmps243;go_wp2_with fail;refine HOF.o.mono ?_;rintro en w1 ⟨rfl,b1⟩;have N1:=qh (HNB.o w1 b1);have hb1:=b1.size;have e0:=N1.o.is.sp.cell HP.o 0 _ rfl;simp only[Nat.add_zero]at e0;have k0:=N1.o.n0;have k6:=CoN.glo N1.o.is;clear b1;have N1d:=qh N1.o.drew;go_wp2_with fail
    go_region_held3 (λW=>W.cell? x.l=some ↑a/\W.cell? ⟨w1.heap.size,1,none⟩=some (.int .i64 v))
      (first|with_reducible exact HC.o _ _ _ _ _ N1d.o|with_reducible exact HC.o _ _ _ _ _ N2.o|with_reducible exact HC.o _ _ _ _ _ N3.o)
      (first
        | (go_at_call 173;go_loud (refine(HO.o _ N1d.o.is).mono ?_);rintro en w3 ⟨rfl,k3,t3⟩;have N2:=qh (N1d.o.to k3 t3);have N3:=qh (N2.o.put (p':=(⟨11,q,b,z⟩:Sp)) HP.o (j:=1) (u:= .int .i64 q) QZ rfl);have e1:=N2.o.is.sp.cell HP.o 1 _ rfl;have z1:=N2.o.is.sp.free (i*4+1);clear k3 t3))
  all_goals have e4:=N3.o.is.sp.cell (au HP.o _) 1 _ rfl;have e5:=CoN.bud N3.o.is;rw[<-HD.o]at e5;clear e1 z1;go_wp2_with fail;go_quiet (fail);go_wp2;go_ret;first| (rw[if_pos Q8]at HX;exact py i _ HX.o rfl rfl (N3.o.drewN _).is (N3.o.drewN _).tn)| (rw[if_neg Q8]at HX;exact py i _ HX.o rfl rfl (N3.o.drewN _).is (N3.o.drewN _).tn)
theorem zq (h:aB B w a g x c P T st) (C:cX BB x c st) (i:Nat) (hi:i<x.n) (u b z:Int) (h10:(lsp st.L (c.node i) (c.slot i)).pc=10) (hp:sv st.T i=⟨12,u,b,z⟩):
    Calls Tryz.prog 243 #[↑x.l,.int .i64 i] w (gD B w a g x c P T st i ⟨12,u,b,z⟩):=by
  obtain⟨y,v,S,hy,hv,hS,hs,hsp⟩:=h.loc hi;have hp':st.T[i]? =some (⟨12,u,b,z⟩:Sp):=by rw[h.thr hi,hp]
  have hn:=h.fx.n32;have c8:=CoN.spots h;have t2:¬(i:Int)<0:=by omega
  have hl1:=h.lk.lt;have hs2:=h.sp.lt;have HOF:=qh (n4 h i hi hy hv);have HNB:=qh (λw1 (b1:Below w.heap.size w w1)=>CoN.mk' h b1 y v);obtain⟨r,hr⟩:∃r,r=pZ c st i:=⟨_,rfl⟩;have HO0:=(λW (k:aB B W a g x c P T st)=>zo k C i hi hy h10);rw[<-hr]at HO0;have HO:=qh HO0;obtain⟨q,hq⟩:∃q,q=mn u c.bud r.2:=⟨_,rfl⟩;have HQ:=qh (λW=>uA u c.bud r.2 h.fx.bud W);rw[<-hq]at HQ;have HX:Kq (cO c st i ⟨12,u,b,z⟩=(r.1,st.G,st.L,⟨if q then 13 else 14,u,b,z⟩)):=qh (by rw[hq,hr];rfl);have HC:=qh (λW st (N:∃k,k=w.heap.size/\aB B W a g x c P T st) (hp:st.T[i]? =some (⟨12,u,b,z⟩:Sp))=>And.intro (N.choose_spec.2.sp.cell hp 1 _ rfl) (CoN.bud N.choose_spec.2));have HP:=qh hp';clear HO0 hr hq HC;have HC:=qh (λW st (k y v) (N:CoN B w W a g x c P T st k y v) (hp:st.T[i]? =some (⟨12,u,b,z⟩:Sp))=>And.intro (N.is.sp.cell hp 1 _ rfl) (And.intro (CoN.bud N.is) N.n0));clear h C hp hp' hy hv hS hs hsp;obtain⟨r1,r2⟩:=r;simp only at HO HQ HX;cases q
  all_goals
    go_enter Tryz.func243,Tryz.ntmps243;go_wp2_with fail;refine HOF.o.mono ?_;rintro en w1 ⟨rfl,b1⟩;have N1:=qh (HNB.o w1 b1);have hb1:=b1.size;have e0:=N1.o.is.sp.cell HP.o 0 _ rfl;simp only[Nat.add_zero]at e0;have k0:=N1.o.n0;have k6:=CoN.glo N1.o.is;clear b1;have N1d:=qh N1.o.drew;go_wp2_with fail
    go_region_held3 (λW=>W.cell? ⟨x.qs,i*4+1,none⟩=some (.int .i64 u)/\W.cell? ⟨x.l,5,none⟩=some (.int .i64 c.bud)/\W.cell? w1.heap.size=some ↑y.p)
      (first|with_reducible exact HC.o _ _ _ _ _ N1d.o HP.o|with_reducible exact HC.o _ _ _ _ _ N2.o HP.o)
      (first
        | (go_at_call 247;go_loud (refine(HO.o _ N1d.o.is).mono ?_);rintro en w3 ⟨rfl,k3,t3⟩;have N2:=qh (N1d.o.to k3 t3);clear k3 t3)
        | (go_at_call 246;go_loud (refine(HQ.o _).mono ?_);rintro en w4 ⟨rfl,rfl⟩))
  all_goals go_wp2;go_ret;exact jo i _ HP.o HX.o rfl rfl rfl N2.o.is N2.o.tn
theorem zr (h:aB B w a g x c P T st) (C:cX BB x c st) (i:Nat) (hi:i<x.n) (u b z:Int) (hu:0<=u/\u<=100000000000) (hp:sv st.T i=⟨13,u,b,z⟩):
    Calls Tryz.prog 243 #[↑x.l,.int .i64 i] w (gD B w a g x c P T st i ⟨13,u,b,z⟩):=by
  obtain⟨y,v,S,hy,hv,hS,hs,hsp⟩:=h.loc hi;have hp':st.T[i]? =some (⟨13,u,b,z⟩:Sp):=by rw[h.thr hi,hp]
  have hn:=h.fx.n32;have c8:=CoN.spots h;have t2:¬(i:Int)<0:=by omega
  have hl1:=h.lk.lt;have hs2:=h.sp.lt;have HOF:=qh (n4 h i hi hy hv);have HNB:=qh (λw1 (b1:Below w.heap.size w w1)=>CoN.mk' h b1 y v);have x1:IntKind.i64.wrap (u+1)=u+1:=IntWalk.i64_in _ QX;obtain⟨ar',har⟩:∃s,s=ac st.s (c.cw (c.node i)) (u+1):=⟨_,rfl⟩;have HO0:=(λW (k:aB B W a g x c P T st)=>nj k C.ops (c.node i) hv (u+1));rw[<-har]at HO0;have HO:=qh HO0;have HA:=qh (λW (s:Ar) (k:aB B W a g x c P T ⟨s,st.G,st.L,st.T⟩)=>pA k i hi hy);have HX:Kq (cO c st i ⟨13,u,b,z⟩=(ar',st.G,setL c st i (be (lsp st.L (c.node i) (c.slot i))),⟨16,u,b,z⟩)):=qh Rl;have HC:=qh (λW st (k y v) (N:CoN B w W a g x c P T st k y v) (hp:st.T[i]? =some (⟨13,u,b,z⟩:Sp))=>And.intro (CoN.ar N.is) (And.intro N.n1 (N.is.sp.cell hp 1 _ rfl)));have HP:=qh hp';clear HO0 har;clear h C hp hp' hy hv hS hs hsp;go_enter Tryz.func243,Tryz.ntmps243;go_wp2_with fail;refine HOF.o.mono ?_;rintro en w1 ⟨rfl,b1⟩;have N1:=qh (HNB.o w1 b1);have hb1:=b1.size;have e0:=N1.o.is.sp.cell HP.o 0 _ rfl;simp only[Nat.add_zero]at e0;have k0:=N1.o.n0;have k6:=CoN.glo N1.o.is;clear b1;have N1d:=qh N1.o.drew;go_wp2_with fail
  go_region_held3 (λW=>W.cell? x.l=some ↑a/\W.cell? ⟨w1.heap.size,1,none⟩=some (.int .i64 v)/\W.cell? ⟨x.qs,i*4+1,none⟩=some (.int .i64 u))
    (first|with_reducible exact HC.o _ _ _ _ _ N1d.o HP.o|with_reducible exact HC.o _ _ _ _ _ N2.o HP.o)
    (first
      | (go_at_call 177;go_loud (refine(HO.o _ N1d.o.is).mono ?_);rintro en w3 ⟨rfl,k3,t3⟩;have N2:=qh (N1d.o.to k3 t3);clear k3 t3))
  all_goals have k0':=N2.o.n0;go_wp2_with fail;refine(HA.o _ _ N2.o.is).mono ?_;rintro en w4 ⟨⟨bb,rfl⟩,k4,t4⟩;have N4:=qh (N2.o.to k4 t4);clear k4 t4;go_wp2;go_ret;exact jo i _ HP.o HX.o rfl rfl rfl N4.o.is N4.o.tn
theorem zt (h:aB B w a g x c P T st) (C:cX BB x c st) (i:Nat) (hi:i<x.n) (u b z:Int) (hp:sv st.T i=⟨14,u,b,z⟩):
    Calls Tryz.prog 243 #[↑x.l,.int .i64 i] w (gD B w a g x c P T st i ⟨14,u,b,z⟩):=by
  obtain⟨y,v,S,hy,hv,hS,hs,hsp⟩:=h.loc hi;have hp':st.T[i]? =some (⟨14,u,b,z⟩:Sp):=by rw[h.thr hi,hp]
  have hn:=h.fx.n32;have c8:=CoN.spots h;have t2:¬(i:Int)<0:=by omega
  have hl1:=h.lk.lt;have hs2:=h.sp.lt;have HOF:=qh (n4 h i hi hy hv);have HNB:=qh (λw1 (b1:Below w.heap.size w w1)=>CoN.mk' h b1 y v);obtain⟨ar',har⟩:∃s,s=ac st.s (c.cw (c.node i)) 0:=⟨_,rfl⟩;have HO0:=(λW (k:aB B W a g x c P T st)=>nj k C.ops (c.node i) hv 0);rw[<-har]at HO0;have HO:=qh HO0;have HA:=qh (λW (s:Ar) (k:aB B W a g x c P T ⟨s,st.G,st.L,st.T⟩)=>xt k i hi);have HX:Kq (cO c st i ⟨14,u,b,z⟩=(ar',st.G.set (c.node i) (be (sv st.G (c.node i))),st.L,⟨15,u,b,z⟩)):=qh Rl;have HC:=qh (λW st (k y v) (N:CoN B w W a g x c P T st k y v)=>And.intro (CoN.ar N.is) N.n1);have HP:=qh hp';clear HO0 har;clear h C hp hp' hy hv hS hs hsp;go_enter Tryz.func243,Tryz.ntmps243;go_wp2_with fail;refine HOF.o.mono ?_;rintro en w1 ⟨rfl,b1⟩;have N1:=qh (HNB.o w1 b1);have hb1:=b1.size;have e0:=N1.o.is.sp.cell HP.o 0 _ rfl;simp only[Nat.add_zero]at e0;have k0:=N1.o.n0;have k6:=CoN.glo N1.o.is;clear b1;have N1d:=qh N1.o.drew;go_wp2_with fail
  go_region_held3 (λW=>W.cell? x.l=some ↑a/\W.cell? ⟨w1.heap.size,1,none⟩=some (.int .i64 v))
    (first|with_reducible exact HC.o _ _ _ _ _ N1d.o|with_reducible exact HC.o _ _ _ _ _ N2.o)
    (first
      | (go_at_call 177;go_loud (refine(HO.o _ N1d.o.is).mono ?_);rintro en w3 ⟨rfl,k3,t3⟩;have N2:=qh (N1d.o.to k3 t3);clear k3 t3))
  all_goals have k6':=CoN.glo N2.o.is;go_wp2_with fail;refine(HA.o _ _ N2.o.is).mono ?_;rintro en w4 ⟨⟨bb,rfl⟩,k4,t4⟩;have N4:=qh (N2.o.to k4 t4);clear k4 t4;go_wp2;go_ret;exact jo i _ HP.o HX.o rfl rfl rfl N4.o.is N4.o.tn
theorem zu (h:aB B w a g x c P T st) (C:cX BB x c st) (i:Nat) (hi:i<x.n) (u b z:Int) (hp:sv st.T i=⟨15,u,b,z⟩):
    Calls Tryz.prog 243 #[↑x.l,.int .i64 i] w (gD B w a g x c P T st i ⟨15,u,b,z⟩):=by
  obtain⟨y,v,S,hy,hv,hS,hs,hsp⟩:=h.loc hi;have hp':st.T[i]? =some (⟨15,u,b,z⟩:Sp):=by rw[h.thr hi,hp]
  have hn:=h.fx.n32;have c8:=CoN.spots h;have t2:¬(i:Int)<0:=by omega
  have hl1:=h.lk.lt;have hs2:=h.sp.lt;have HOF:=qh (n4 h i hi hy hv);have HNB:=qh (λw1 (b1:Below w.heap.size w w1)=>CoN.mk' h b1 y v);obtain⟨r,hr⟩:∃r,r=stG c st i:=⟨_,rfl⟩;obtain⟨q,hq⟩:∃q,q=mX c st i:=⟨_,rfl⟩;have HF0:=(λW (k:aB B W a g x c P T st)=>rG k C i hi);rw[<-hr,<-hq]at HF0;have HF:=qh HF0;have HA:=qh (λW (s:Ar) (G':List Sp) (k:aB B W a g x c P T ⟨s,G',st.L,st.T⟩)=>pA k i hi hy);have HX:Kq (cO c st i ⟨15,u,b,z⟩=if q then(r.1,st.G.set (c.node i) r.2,setL c st i (be (lsp st.L (c.node i) (c.slot i))),⟨16,u,b,z⟩)else(r.1,st.G.set (c.node i) r.2,st.L,⟨15,u,b,z⟩)):=qh (by rw[hr,hq];rfl);have HP:=qh hp';clear HF0 hr hq;clear h C hp hp' hy hv hS hs hsp;cases q
  all_goals
    go_enter Tryz.func243,Tryz.ntmps243;go_wp2_with fail;refine HOF.o.mono ?_;rintro en w1 ⟨rfl,b1⟩;have N1:=qh (HNB.o w1 b1);have hb1:=b1.size;have e0:=N1.o.is.sp.cell HP.o 0 _ rfl;simp only[Nat.add_zero]at e0;have k0:=N1.o.n0;have k6:=CoN.glo N1.o.is;clear b1;go_wp2_with fail;refine(HF.o _ N1.o.is).mono ?_;rintro en w2 ⟨rfl,k2,t2⟩;have N2:=qh (N1.o.to k2 t2);have e2:=N2.o.is.sp.cell HP.o 0 _ rfl;simp only[Nat.add_zero]at e2;have k0':=N2.o.n0;clear k2 t2 e0
    first
      | (go_wp2_with fail
         refine(HA.o _ _ _ N2.o.is).mono ?_
         rintro en w4 ⟨⟨bb,rfl⟩,k4,t4⟩
         have N4:=qh (N2.o.to k4 t4)
         clear k4 t4 e2
         go_wp2
         go_ret
         exact jo i _ HP.o HX.o rfl rfl rfl N4.o.is N4.o.tn)
      | (go_wp2
         go_ret
         exact jo i _ HP.o HX.o rfl rfl rfl N2.o.is N2.o.tn)
theorem zv (h:aB B w a g x c P T st) (C:cX BB x c st) (i:Nat) (hi:i<x.n) (u b z:Int) (hp:sv st.T i=⟨16,u,b,z⟩):
    Calls Tryz.prog 243 #[↑x.l,.int .i64 i] w (gD B w a g x c P T st i ⟨16,u,b,z⟩):=by
  obtain⟨y,v,S,hy,hv,hS,hs,hsp⟩:=h.loc hi;have hp':st.T[i]? =some (⟨16,u,b,z⟩:Sp):=by rw[h.thr hi,hp]
  have hn:=h.fx.n32;have c8:=CoN.spots h;have t2:¬(i:Int)<0:=by omega
  have hl1:=h.lk.lt;have hs2:=h.sp.lt;have HOF:=qh (n4 h i hi hy hv);have HNB:=qh (λw1 (b1:Below w.heap.size w w1)=>CoN.mk' h b1 y v);obtain⟨r,hr⟩:∃r,r=stL c st i:=⟨_,rfl⟩;obtain⟨q,hq⟩:∃q,q=lj c st i:=⟨_,rfl⟩;have HF0:=(λW (k:aB B W a g x c P T st)=>rH k C i hi hy);rw[<-hr,<-hq]at HF0;have HF:=qh HF0;have HX:Kq (cO c st i ⟨16,u,b,z⟩=(r.1,st.G,setL c st i r.2,if q then⟨0,u,b,z⟩else⟨16,u,b,z⟩)):=qh (by rw[hr,hq];rfl);have HP:=qh hp';clear HF0 hr hq;clear h C hp hp' hy hv hS hs hsp;cases q;all_goals go_enter Tryz.func243,Tryz.ntmps243;go_wp2_with fail;refine HOF.o.mono ?_;rintro en w1 ⟨rfl,b1⟩;have N1:=qh (HNB.o w1 b1);have hb1:=b1.size;have e0:=N1.o.is.sp.cell HP.o 0 _ rfl;simp only[Nat.add_zero]at e0;have k0:=N1.o.n0;have k6:=CoN.glo N1.o.is;clear b1;go_wp2_with fail;refine(HF.o _ N1.o.is).mono ?_;rintro en w2 ⟨rfl,k2,t2⟩;have N2:=qh (N1.o.to k2 t2);have e2:=N2.o.is.sp.cell HP.o 0 _ rfl;simp only[Nat.add_zero]at e2;clear k2 t2 e0;go_wp2;go_ret;exact jo i _ HP.o HX.o rfl rfl rfl N2.o.is N2.o.tn
end
end
end Go.Proofs.YtglokdbiggbkjaaGreat
