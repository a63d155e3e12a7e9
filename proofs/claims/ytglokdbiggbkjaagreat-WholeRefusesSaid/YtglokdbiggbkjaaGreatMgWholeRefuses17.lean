/- Joined texts. -/
import Derived.StillTailTactics
import Derived.IntWalk
import Derived.Deep.RegionHeld3
import Derived.ScopeJumps
import Derived.WalkMore
import Derived.Test.YtglokdbiggbkjaaGreatMgWholeRefuses0
import Derived.Test.YtglokdbiggbkjaaGreatMgWholeRefuses5
import Derived.Test.YtglokdbiggbkjaaGreatMgWholeRefuses12
import Derived.Test.YtglokdbiggbkjaaGreatMgWholeRefuses15
import Derived.Test.YtglokdbiggbkjaaGreatMgWholeRefuses16
set_option linter.unusedVariables false
set_option linter.unusedSimpArgs false
set_option linter.defProp false
set_option maxRecDepth 100000
set_option maxHeartbeats 16000000
open Go.Proofs.Tryz
namespace Go.Proofs.YtglokdbiggbkjaaGreat
open Go.IntKind(i64)
open Go.Value(int bool slice agg tuple pointer)
open Go.Ending(returned)
open Go.Obj(cells)
variable{S:List Nat}{w w' w5:World}{u vR:Value}{W:Nat->List Int}{b i v j n c k cap:Nat}{B B0:Nat->Prop}{bud z p x:Int}{hb:Nat->Nat->Option Nat}{P T:List Int}{A:Option Addr}{o:Obj}
section
open Go.RowKit
structure Hx where
 l:Nat
 a:Nat
 g:Nat
 q:Nat
 lb:Nat->Nat
 qb:Nat->Nat
 bR:Nat
 oR:Nat
 kR:Nat
 bL:Nat
 oL:Nat
 kL:Nat
 ub:Nat->Nat
 uo:Nat->Nat
 uk:Nat->Nat
def dt(W:Nat->List Int):Nat->List Int
 |0=>[]
 |n+1=>dt W n++W n
def mvL(x:Hx)(T:HTr):List Nat:=[x.a,x.g,x.q]++(List.range T.np).map x.qb
structure tZ(B:Nat->Prop)(x:Hx)(T:HTr):Prop where
 bl:B x.l
 br:B x.bR
 bL:B x.bL
 bu:∀t,t<T.n->B (x.ub t)
 bb:∀v,v<T.np->B (x.lb v)
 nm:∀i∈mvL x T,¬B i
 qa:x.q≠x.a
 qg:x.q≠x.g
 va:∀v,v<T.np->x.qb v≠x.a
 vg:∀v,v<T.np->x.qb v≠x.g
 vq:∀v,v<T.np->x.qb v≠x.q
 inj:∀v u,v<T.np->u<T.np->x.qb v=x.qb u->v=u
 n32:T.n<=32
 p32:T.np<=32
 d5:T.D<=5
 v32:∀v,v<T.np->T.nv v<=32
 kR:T.np<=x.kR
 kL:T.n<=x.kL
 uk:∀t,t<T.n->T.D<=x.uk t
structure aU(B:Nat->Prop)(w:World)(x:Hx)(T:HTr)(bud:Int)(s:Ar)(m:Hm):Prop where
 fx:tZ B x T
 ar:aB w x.a x.g s
 cat:s.W=dt m.W T.np
 wl:∀v,v<T.np->(m.W v).length=2*T.nv v+1
 lk:Blk w x.l 247 #[int i64 bud,slice (some ⟨x.bR,x.oR,none⟩) T.np x.kR,slice (some ⟨x.bL,x.oL,none⟩) T.n x.kL,slice (some ⟨x.q,0,none⟩) T.n T.n]
 sn:m.S.length=T.n
 ss:dy w x.q m.S
 rk:∀v,v<T.np->Blk w (x.lb v) 319 #[↑x.a,int i64 ((dt m.W v).length+1),slice (some ⟨x.qb v,0,none⟩) (m.P v).length (m.P v).length]
 rn:∀v,v<T.np->(m.P v).length=T.nv v
 rs:∀v,v<T.np->dy w (x.qb v) (m.P v)
 cR:∀v,v<T.np->w.cell? ⟨x.bR,x.oR+v,none⟩=some (pointer (some ⟨x.lb v,0,none⟩))
 cL:∀t,t<T.n->w.cell? ⟨x.bL,x.oL+t,none⟩=some (slice (some ⟨x.ub t,x.uo t,none⟩) T.D (x.uk t))
 cP:∀t k,t<T.n->k<T.D->w.cell? ⟨x.ub t,x.uo t+k*2,none⟩=some (pointer (some ⟨x.lb (T.pl t k),0,none⟩))
 cS:∀t k,t<T.n->k<T.D->w.cell? ⟨x.ub t,x.uo t+k*2+1,none⟩=some (int i64 (T.sl t k))
 bd:∀i,B i->i<w.heap.size
def aa.cell(k:aa S w w'){p:Addr}(h:w.cell? p=some u)(hS:p.block∉S):w'.cell? p=some u:=by exact aa3
def r4(W:Nat->List Int)(v:Nat)(X:List Int):∀n,n<=v->dt (aX W v X) n=dt W n
 |0,_=>rfl
 |n+1,h=>by show dt (aX W v X) n++aX W v X n=dt W n++W n;rw[r4 W v X n ahE,aY _ _ ahE]
def rZ{W H:Nat->List Int}:∀n,(∀v,v<n->(W v).length=(H v).length)->(dt W n).length=(dt H n).length
 |0,_=>rfl
 |n+1,h=>by show(dt W n++W n).length=(dt H n++H n).length;rw[List.length_append,List.length_append,rZ n (λv O=>h v ahE),h n ahE]
def nA(W:Nat->List Int)(v:Nat):∀d,∃C,dt W (v+1+d)=dt W v++W v++C/\∀X,dt (aX W v X) (v+1+d)=dt W v++X++C
 |0=>⟨[],by show dt W v++W v=_;simp,λX=>by show dt (aX W v X) v++aX W v X v=_;rw[r4 W v X v (Nat.le_refl _),aW];simp⟩
 |d+1=>by
  obtain⟨C,h1,h⟩:=nA W v d;refine⟨C++W (v+1+d),?_,λX=>?_⟩;.show dt W (v+1+d)++W (v+1+d)=_;rw[h1];simp
  .show dt (aX W v X) (v+1+d)++aX W v X (v+1+d)=_;rw[h,aY _ _ ahE];simp
def qz{W:Nat->List Int}{b:Nat}:∀n,(∀v,v<n->(W v).length<=b)->(dt W n).length<=n*b
 |0,_=>by simp[dt]
 |n+1,h=>by have h1:=qz n λv O=>h v ahE;have H:=h n ahE;show(dt W n++W n).length<=(n+1)*b;rw[List.length_append,Nat.add_mul,Nat.one_mul];omega
section
variable{x:Hx}{T:HTr}{s s':Ar}{m:Hm}
def tZ.mv(f:tZ B x T)(h:B i):i∉mvL x T:=λhm=>f.nm i hm h
def tZ.qbm(_:tZ B x T)(O:v<T.np):x.qb v∈mvL x T:=List.mem_append_right _ (List.mem_map.2 ⟨v,List.mem_range.2 O,rfl⟩)
def tZ.lm(f:tZ B x T)(h:B i):i≠x.a/\i≠x.g/\i≠x.q/\∀v,v<T.np->i≠x.qb v:=by have:=f.mv h;refine⟨λe=>this (by simp[mvL,e]),λe=>this (by simp[mvL,e]),λe=>this (by simp[mvL,e]),λv O e=>this (by rw[e];exact f.qbm O)⟩
def aU.turns(h:aU B w x T bud s m)(k:aa S w w')(h1:∀i∈S,¬B i)(h2:∀i∈S,i∉mvL x T):aU B w' x T bud s m:=by
 have V:∀i,B i->i∉S:=λi I hm=>h1 i hm I;have Y:∀i,i∈mvL x T->i∉S:=λi I hm=>h2 i hm I
 exact⟨h.fx,h.ar.turns k (Y _ (by simp[mvL])) (Y _ (by simp[mvL])),h.cat,h.wl,k.blk h.lk (V _ h.fx.bl),h.sn,h.ss.turns k (Y _ (by simp[mvL])),λv O=>k.blk (h.rk v O) (V _ (h.fx.bb v O)),h.rn,λv O=>(h.rs v O).turns k (Y _ (h.fx.qbm O)),
  λv O=>k.cell (h.cR v O) (V _ h.fx.br),λt H=>k.cell (h.cL t H) (V _ h.fx.bL),λt i H hi=>k.cell (h.cP t i H hi) (V _ (h.fx.bu t H)),λt i H hi=>k.cell (h.cS t i H hi) (V _ (h.fx.bu t H)),λi I=>Nat.lt_of_lt_of_le (h.bd i I) k.size⟩
def aU.below(h:aU B w x T bud s m)(k:Below w.heap.size w w'):aU B w' x T bud s m:=h.turns (S:=[]) (aa.of_below k) ahF ahF
def aU.new(h:aU B w x T bud s m):¬B w.heap.size/\w.heap.size∉mvL x T:=by
 refine⟨λI=>absurd (h.bd _ I) (Nat.lt_irrefl _),λhm=>?_⟩;unfold mvL at hm;have h1:=h.ar.blk.lt;have H:=h.ar.wds.lt;have V:=h.ss.lt;rcases List.mem_append.1 hm with hm|hm
 .simp at hm;omega
 .obtain⟨v,O,e⟩:=List.mem_map.1 hm;have:=(h.rs v (List.mem_range.1 O)).lt;omega
def aU.rg(h:aU B w x T bud s m)(O:v<T.np):cW w (x.lb v) x.a x.g (x.qb v) ((dt m.W v).length+1) ⟨s,m.P v⟩:=by have f:=h.fx;obtain⟨H,I,e3,e4⟩:=f.lm (f.bb v O);exact⟨h.ar,h.rk v O,h.rs v O,H,I,e4 v O,f.va v O,f.vg v O,by show(m.P v).length<=32;rw[h.rn v O];exact f.v32 v O⟩
def aU.rgTurn(h:aU B w x T bud s m)(O:v<T.np){X:List Int}{Y:List Sp}(V:cW w' (x.lb v) x.a x.g (x.qb v) ((dt m.W v).length+1) ⟨s',Y⟩)(hc:s'.W=dt (aX m.W v X) T.np)(hX:X.length=2*T.nv v+1)(hP:Y.length=T.nv v)(k:aa [x.a,x.g,x.qb v] w w'):aU B w' x T bud s' {m with W:=aX m.W v X,P:=aX m.P v Y}:=by
  have f:=h.fx;have hB:∀i,B i->i∉[x.a,x.g,x.qb v]:=λi I=>by obtain⟨e1,e2,e3,e4⟩:=f.lm I;simp[e1,e2,e4 v O]
  have hq:x.q∉[x.a,x.g,x.qb v]:=by simp only[List.mem_cons,List.not_mem_nil,or_false,not_or];exact⟨f.qa,f.qg,λe=>f.vq v O e.symm⟩
  have hl:∀u,(dt (aX m.W v X) u).length=(dt m.W u).length:=λu=>rZ u λy _=>by
    by_cases e:y=v;. subst e;rw[aW,hX,h.wl y O]
    . rw[aY _ _ e]
  refine⟨f,V.ar,hc,λu H=>?_,k.blk h.lk (hB _ f.bl),h.sn,h.ss.turns k hq,λu H=>?_,λu H=>?_,λu H=>?_,
    λu H=>k.cell (h.cR u H) (hB _ f.br),λt ht=>k.cell (h.cL t ht) (hB _ f.bL),λt i ht hi=>k.cell (h.cP t i ht hi) (hB _ (f.bu t ht)),λt i ht hi=>k.cell (h.cS t i ht hi) (hB _ (f.bu t ht)),λi I=>Nat.lt_of_lt_of_le (h.bd i I) k.size⟩
  . show(aX m.W v X u).length=_;by_cases e:u=v;. subst e;rw[aW];exact hX
    . rw[aY _ _ e];exact h.wl u H
  . show Blk w' (x.lb u) _ #[_,J ((dt (aX m.W v X) u).length+1),.slice _ (aX m.P v Y u).length (aX m.P v Y u).length];rw[hl u];by_cases e:u=v;. subst e;rw[aW];exact V.lk
    . rw[aY _ _ e];exact k.blk (h.rk u H) (hB _ (f.bb u H))
  . show(aX m.P v Y u).length=_;by_cases e:u=v;. subst e;rw[aW];exact hP
    . rw[aY _ _ e];exact h.rn u H
  . show dy w' (x.qb u) (aX m.P v Y u);by_cases e:u=v;. subst e;rw[aW];exact V.sp
    . rw[aY _ _ e];exact(h.rs u H).turns k (by simp only[List.mem_cons,List.not_mem_nil,or_false,not_or];exact⟨f.va u H,f.vg u H,λe'=>e (f.inj u v H O e')⟩)
def aU.spTurn(h:aU B w x T bud s m){Y:List Sp}(hs:dy w' x.q Y)(hl:Y.length=T.n)(k:aa [x.q] w w'):aU B w' x T bud s {m with S:=Y}:=by
 have f:=h.fx;have V:∀i,B i->i∉[x.q]:=λi I=>by simp[(f.lm I).2.2.1]
 exact⟨f,h.ar.turns k (by simpa using λe=>f.qa e.symm) (by simpa using λe=>f.qg e.symm),h.cat,h.wl,k.blk h.lk (V _ f.bl),hl,hs,λv O=>k.blk (h.rk v O) (V _ (f.bb v O)),h.rn,λv O=>(h.rs v O).turns k (by simpa using f.vq v O),
  λv O=>k.cell (h.cR v O) (V _ f.br),λt H=>k.cell (h.cL t H) (V _ f.bL),λt i H hi=>k.cell (h.cP t i H hi) (V _ (f.bu t H)),λt i H hi=>k.cell (h.cS t i H hi) (V _ (f.bu t H)),λi I=>Nat.lt_of_lt_of_le (h.bd i I) k.size⟩
def aU.l0(k:aU B w x T bud s m):w.cell? x.l=some (J bud):=k.lk.cell 0
def aU.l2(k:aU B w x T bud s m):Z w x.l 2 (slice (some ⟨x.bL,x.oL,none⟩) T.n x.kL):=k.lk.cell 2
def aU.l3(k:aU B w x T bud s m):Z w x.l 3 (slice (some ⟨x.q,0,none⟩) T.n T.n):=k.lk.cell 3
def i5(k:aU B w x T bud s m):E 255 #[↑x.l] w λe w'=>e= returned (J T.n)/\w=w':=by have c5:=k.l3;clear k;go_enter func255,ntmps255;exact aaa
def jM(k:aU B w x T bud s m)(i:Int):E 253 #[↑x.l,J i] w λe w'=>e= returned (aF (getS m.S i))/\Below w.heap.size w w':=by
  have HN:=k.fx.n32;have O:=k.sn;by_cases I:okI m.S i;. have h:=dG I;obtain⟨p,Y⟩:=LE (getS m.S i);rw[<-Y]at h ⊢;have c2:=k.l3;have a0:=ST (k.ss.cell h 0 _ rfl);have a1:=k.ss.cell h 1 _ rfl;have a2:=k.ss.cell h 2 _ rfl;have a3:=k.ss.cell h 3 _ rfl;obtain⟨V,h1⟩:=I;rw[O]at h1;obtain⟨n,rfl⟩:=Int.eq_ofNat_of_zero_le V;simp only[Int.toNat_natCast]at a0 a1 a2 a3;have Ju:=k.lk.lt;have Jx:=k.ss.lt;refine ajw ?_;intro t2 t3;have t4:n<T.n:=(by omega);have H:Kq (aU B (w.alloc (cells #[J 0,J 0,J 0,J 0] 113)) x T bud s m):=qh (k.below ((Below.refl _ _).alloc (Nat.le_refl _) _));clear k h Y V h1 O;go_enter func253,ntmps253;go_wp2_with (go_at_call 255;refine(i5 H.o).mono ?_;rintro e w' ⟨rfl,rfl⟩);exact bodyPost_ret (results_cell_row ahI _ _ w.heap.size 113 _ (0,0) _ ahI (heap_alloc_new w _) Tryz.underlying113 rfl ahH) rfl ⟨rfl,(Below.refl _ _).alloc (Nat.le_refl _) _⟩
  . have H:Kq (aU B (w.alloc (cells #[J 0,J 0,J 0,J 0] 113)) x T bud s m):=qh (k.below ((Below.refl _ _).alloc (Nat.le_refl _) _));rw[dz I];unfold okI at I;rw[O]at I;clear k O;by_cases V:i<0;. go_enter func253,ntmps253;go_wp2;exact bodyPost_ret (results_cell_row ahI _ _ w.heap.size 113 _ (0,0) _ ahI (heap_alloc_new w _) Tryz.underlying113 rfl ahH) rfl ⟨rfl,(Below.refl _ _).alloc (Nat.le_refl _) _⟩
    . have t3:((T.n:Nat):Int)<=i:=(by omega);clear I;go_enter func253,ntmps253;go_wp2_with (go_at_call 255;refine(i5 H.o).mono ?_;rintro e w' ⟨rfl,rfl⟩);exact bodyPost_ret (results_cell_row ahI _ _ w.heap.size 113 _ (0,0) _ ahI (heap_alloc_new w _) Tryz.underlying113 rfl ahH) rfl ⟨rfl,(Below.refl _ _).alloc (Nat.le_refl _) _⟩
end
end
section
open Go.RowKit
variable{S:List Sp}
def fQ{α:Type}(f:Nat->α)(v:Nat):aX f v (f v)=f:=by
 funext u;unfold aX;split;.rename_i h;rw[h]
 .rfl
def dL(h:j<S.length):getS S (j:Int)=sv S j:=by unfold getS sv;rw[if_pos ahE,Int.toNat_natCast]
def gC(h:j<S.length):S[j]? =some (sv S j):=by unfold sv;rw[List.getD_eq_getElem?_getD,List.getElem?_eq_getElem h];rfl
section
variable{x:Hx}{T:HTr}{s s':Ar}{m:Hm}
def aU.sub1(h:aU B w x T bud s m)(O:v<T.np):∀i∈[x.qb v],i∈mvL x T:=by intro i hi;simp only[List.mem_cons,List.not_mem_nil,or_false]at hi;rw[hi];exact h.fx.qbm O
def aU.sub3(h:aU B w x T bud s m)(O:v<T.np):∀i∈[x.a,x.g,x.qb v],i∈mvL x T:=by
 intro i hi;simp only[List.mem_cons,List.not_mem_nil,or_false]at hi;rcases hi with rfl|rfl|rfl
 .simp[mvL]
 .simp[mvL]
 .exact h.fx.qbm O
def aU.spot1(h:aU B w x T bud s m)(O:v<T.np)(H:j<T.nv v):E 257 #[pointer (some ⟨x.lb v,0,none⟩),J j] w λe w'=>e= returned (aF (m.sp v j))/\Below w.heap.size w w':=by have e:getS (m.P v) (j:Int)=m.sp v j:=dL (by rw[h.rn v O];exact H);rw[<-e];exact oO (h.rg O) j
def aU.put1(h:aU B w x T bud s m)(O:v<T.np){H:List Sp}(V:cW w' (x.lb v) x.a x.g (x.qb v) ((dt m.W v).length+1) ⟨s,H⟩)(I:H.length=T.nv v)(k:aa [x.qb v] w w'):aU B w' x T bud s {m with P:=aX m.P v H}:=by have:=h.rgTurn O (X:=m.W v) V (by rw[fQ];exact h.cat) (h.wl v O) I (k.mono ahF);rw[fQ]at this;exact this
def H1(B:Nat->Prop)(w:World)(x:Hx)(T:HTr)(bud:Int)(s:Ar)(m':Hm)(e:Ending)(w':World):Prop:=∃b,e= returned (.bool b)/\aU B w' x T bud s m'/\aa (mvL x T) w w'
def aU.ask1(h:aU B w x T bud s m)(O:v<T.np)(Y:j<T.nv v):E 256 #[pointer (some ⟨x.lb v,0,none⟩),J j] w (H1 B w x T bud s (iE m v j)):=by
 have H:=h.rn v O;have I:j<(m.P v).length:=by omega
 refine(CD (h.rg O) j).mono ?_;rintro e w' ⟨rfl,V,t⟩;refine⟨_,rfl,?_,t.mono (h.sub1 O)⟩;unfold iE;have e:getS (m.P v) (j:Int)=m.sp v j:=dL I;unfold df at V;simp only[e]at V;by_cases c:(m.sp v j).pc=0;.rw[if_pos ⟨⟨by omega,by show((j:Nat):Int)<(m.P v).length;omega⟩,c⟩]at V;rw[if_pos c];exact h.put1 O V (by simp[H]) t
 .rw[if_neg (λh=>c h.2)]at V;rw[if_neg c];have:=h.put1 O V H t;rw[fQ]at this;exact this
def aU.wth0(h:aU B w x T bud s m)(O:v<T.np)(Y:j<T.nv v)(u c:Int)(V:cW w' (x.lb v) x.a x.g (x.qb v) ((dt m.W v).length+1) (hJ ⟨s,m.P v⟩ j u c).1)(t:aa [x.qb v] w w'):aU B w' x T bud s (eI m v j u c):=by
 have H:=h.rn v O;have I:j<(m.P v).length:=by omega
 unfold eI;have e:getS (m.P v) (j:Int)=m.sp v j:=dL I;unfold hJ at V;simp only[e]at V;by_cases cc:(m.sp v j).pc=10;.rw[if_pos ⟨⟨by omega,by show((j:Nat):Int)<(m.P v).length;omega⟩,cc⟩]at V;rw[if_pos cc];exact h.put1 O V (by simp[H]) t
 .rw[if_neg (λh=>cc h.2)]at V;rw[if_neg cc];have:=h.put1 O V H t;rw[fQ]at this;exact this
def aU.leave1(h:aU B w x T bud s m)(O:v<T.np)(H:j<T.nv v)(c:Int):E 264 #[pointer (some ⟨x.lb v,0,none⟩),J j,J c] w (H1 B w x T bud s (eI m v j 11 c)):=
 (yg (h.rg O) j c).mono λ_ _ ⟨e,V,t⟩=>⟨_,e,h.wth0 O H 11 c V t,t.mono (h.sub1 O)⟩
def aU.pass1(h:aU B w x T bud s m)(O:v<T.np)(H:j<T.nv v)(c:Int):E 265 #[pointer (some ⟨x.lb v,0,none⟩),J j,J c] w (H1 B w x T bud s (eI m v j 15 c)):=
 (BN (h.rg O) j c).mono λ_ _ ⟨e,V,t⟩=>⟨_,e,h.wth0 O H 15 c V t,t.mono (h.sub1 O)⟩
def RtS.pcO{W:List Int}(r:RtS n W S):∀p∈S,FK p:=by
 intro p H;obtain⟨i,hi⟩:=List.getElem?_of_mem H;have h:i<S.length:=(List.getElem?_eq_some_iff.1 hi).1;have e:sv S i=p:=by rw[gC h]at hi;injection hi
 rw[<-e];exact r.i.pcs i (by rw[<-r.len];exact h)
def yO(s:Ar)(t y:Int)(p:Sp):(da s t y p).1.W.length=s.W.length:=by
 unfold da;split
 .unfold iN;repeat' split
  all_goals simp only[aw,dK,aP,bI]
 .unfold eB;repeat' split
  all_goals simp only[aw,gL,aP,bI]
  all_goals (try split)<;>simp only[bI]
def S1(B:Nat->Prop)(w:World)(x:Hx)(T:HTr)(bud:Int)(s s':Ar)(m':Hm)(b:Bool)(e:Ending)(w':World):Prop:=e= returned (.bool b)/\aU B w' x T bud s' m'/\s'.ops<=s.ops+1/\aa (mvL x T) w w'
def AQ(s:Ar)(m:Hm)(v j:Nat):Ar:=(da s (((dt m.W v).length:Nat)+1) ((j:Int)+1) (m.sp v j)).1
def aU.step1(h:aU B w x T bud s m)(O:v<T.np)(hj:j<T.nv v)(V:RtS (T.nv v) (m.W v) (m.P v))(Y:s.ops+1<=1000000000000):E 259 #[pointer (some ⟨x.lb v,0,none⟩),J j] w
      (S1 B w x T bud s (if (m.sp v j).pc=0\/(m.sp v j).pc=10 then s else AQ s m v j) (if (m.sp v j).pc=0\/(m.sp v j).pc=10 then m else rstH m v j) (if (m.sp v j).pc=0\/(m.sp v j).pc=10 then false else decide (((rstH m v j).sp v j).pc=0\/((rstH m v j).sp v j).pc=10))):=by
  have hl:=h.rn v O;have I:j<(m.P v).length:=by omega
  have e0:getS (m.P v) (j:Int)=m.sp v j:=dL I;refine(Ce (h.rg O) j Y V.pcO).mono ?_;rintro e w' ⟨rfl,hg,t⟩;unfold mo at hg ⊢;simp only[e0]at hg ⊢;by_cases c:(m.sp v j).pc=0\/(m.sp v j).pc=10
  . rw[if_pos c,if_pos c,if_pos c]
    have H:¬(okI (m.P v) (j:Int)/\(m.sp v j).pc≠0/\(m.sp v j).pc≠10):=λh=>by
      rcases c with c|c
      . exact h.2.1 c
      . exact h.2.2 c
    rw[if_neg H]at hg ⊢;refine⟨rfl,?_,by omega,t.mono (h.sub3 O)⟩;have:=h.rgTurn O (X:=m.W v) hg (by rw[fQ];exact h.cat) (h.wl v O) hl t;rw[fQ,fQ]at this;exact this
  . rw[if_neg c,if_neg c,if_neg c];have H:okI (m.P v) (j:Int)/\(m.sp v j).pc≠0/\(m.sp v j).pc≠10:=⟨⟨by omega,by omega⟩,λe=>c (.inl e),λe=>c (.inr e)⟩;rw[if_pos H]at hg ⊢;simp only[Int.toNat_natCast]at hg;obtain⟨C,h1,h2⟩:=nA m.W v (T.np-(v+1));rw[show v+1+(T.np-(v+1))=T.np by omega]at h1 h2
    have hA:(dt m.W v).length<=5000:=by
      have f:=h.fx;have:=qz (W:=m.W) (b:=65) v λu hu=>by have:=h.wl u ahE;have:=f.v32 u ahE;omega
      have:=f.p32;omega
    have hq:=V.reach hj;have Jr:(m.sp v j)=sv (m.P v) j:=rfl;obtain⟨g1,g2⟩:=yP (s:=s) (A:=dt m.W v) (W:=m.W v) (C:=C) (n:=T.nv v) (h.cat.trans h1) (h.wl v O) (h.fx.v32 v O) hA (x:=(j:Int)+1) ⟨by omega,by omega⟩ (p:=m.sp v j) hq.1 hq.2;rw[g2]at hg ⊢;have hs:(rstH m v j).sp v j=(da (arW (m.W v)) 1 ((j:Int)+1) (m.sp v j)).2:=(by unfold Hm.sp rstH;show sv (aX m.P v _ v) j=_;rw[aW,ba,if_pos ⟨rfl,I⟩];rfl);rw[hs];refine⟨rfl,?_,qe s _ _ _,t.mono (h.sub3 O)⟩;exact h.rgTurn O hg (by unfold AQ;rw[g1,h2]) (by rw[yO];exact h.wl v O) (by simp[hl]) t
end
end
section
open Go.RowKit
section
variable{x:Hx}{T:HTr}{s s':Ar}{m:Hm}
def kI(T:HTr)(m:Hm)(i:Int):Hm:=if okI m.S i then pJ T m i.toNat else m
def aU.sc(h:aU B w x T bud s m){p:Sp}(H:m.S[n]? =some p):Z w x.q (n*4) (J p.pc)/\Z w x.q (n*4+1) (J p.a)/\Z w x.q (n*4+2) (J p.b)/\Z w x.q (n*4+3) (J p.c):=by have a0:=ST (h.ss.cell H 0 _ rfl);exact⟨a0,h.ss.cell H 1 _ rfl,h.ss.cell H 2 _ rfl,h.ss.cell H 3 _ rfl⟩
def aU.put4(h:aU B w x T bud s m)(hn:n<T.n)(p':Sp):aU B ((((w.setCell ⟨x.q,n*4,none⟩ (J p'.pc)).setCell ⟨x.q,n*4+1,none⟩ (J p'.a)).setCell ⟨x.q,n*4+2,none⟩ (J p'.b)).setCell ⟨x.q,n*4+3,none⟩ (J p'.c)) x T bud s (m.thr n p'):=by
 have H:n<m.S.length:=by rw[h.sn];exact hn
 have O:=gC H;obtain⟨p,e⟩:=LE (sv m.S n);rw[<-e]at O;have g:∀(S:List Sp) (y:Sp),n<S.length->(S.set n y)[n]? =some y:=λS y h=>by simp[h]
 have h1:=h.ss.put O (j:=0) (u:= J p'.pc) (p':=⟨p'.pc,p.a,p.b,p.c⟩) ahG rfl;have V:=h1.put (g _ _ H) (j:=1) (u:= J p'.a) (p':=⟨p'.pc,p'.a,p.b,p.c⟩) ahG rfl;have Y:=V.put (g _ _ (by simpa using H)) (j:=2) (u:= J p'.b) (p':=⟨p'.pc,p'.a,p'.b,p.c⟩) ahG rfl;have I:=Y.put (g _ _ (by simpa using H)) (j:=3) (u:= J p'.c) (p':=p') ahG rfl;simp only[List.set_set,Nat.add_zero]at I
 have t:aa [x.q] w ((((w.setCell ⟨x.q,n*4,none⟩ (J p'.pc)).setCell ⟨x.q,n*4+1,none⟩ (J p'.a)).setCell ⟨x.q,n*4+2,none⟩ (J p'.b)).setCell ⟨x.q,n*4+3,none⟩ (J p'.c)):=
  ((((aa.refl _ w).setCell (.inl ahF) _).setCell (.inl ahF) _).setCell (.inl ahF) _).setCell (.inl ahF) _
 exact h.spTurn I (by simp[h.sn]) t
def cZ{q:Nat}(k:aa S w w')(h:q∈S)(i:Nat)(u:Value):aa S w (w'.setCell ⟨q,i,none⟩ u):=k.setCell (.inl h) _
def q_mv(x:Hx)(T:HTr):x.q∈mvL x T:=by simp[mvL]
def aU.alloc(k:aU B w x T bud s m)(o:Obj):aU B (w.alloc o) x T bud s m:=k.below ((Below.refl _ _).alloc (Nat.le_refl _) _)
def zi(B:Nat->Prop)(w:World)(x:Hx)(T:HTr)(bud:Int)(s:Ar)(m:Hm)(i:Int)(e:Ending)(w':World):Prop:=e= returned (bool (decide (okI m.S i/\(getS m.S i).pc=0)))/\aU B w' x T bud s (kI T m i)/\aa (mvL x T) w w'
def Gh(k:aU B w x T bud s m)(hT:T.Ok)(i:Int):E 250 #[↑x.l,J i] w (zi B w x T bud s m i):=by
 have H:=qh k;have HN:=k.fx.n32;have Jy:=k.sn;have hd:=hT.d1;have P6:=k.fx.d5;by_cases O:okI m.S i
 .have Y:=dG O;obtain⟨p,V⟩:=LE (getS m.S i);rw[<-V]at Y;have c2:=k.l3;have a0:=ST (k.ss.cell Y 0 _ rfl);obtain⟨I,h1⟩:=id O;rw[Jy]at h1;obtain⟨n,rfl⟩:=Int.eq_ofNat_of_zero_le I;simp only[Int.toNat_natCast]at a0 Y;refine ajw ?_;intro t2 t3;have t4:n<T.n:=by omega
  have Ju:=k.lk.lt;have Jx:=k.ss.lt;by_cases I:p.pc=0
  .have y0:(p.pc==0)=true:=(by simpa using I);have y1:(p.pc !=0)=false:=(by simpa using I);have L8:=k.l2;have cL:=k.cL n t4;have cP:=k.cP n 0 t4 ahE;have cS:=k.cS n 0 t4 ahE;simp only[Nat.zero_mul,Nat.add_zero]at cP cS;have g1:(0:Int)<T.D:=(by omega);have g2:0<T.D:=by omega
   have HA:Kq (kI T m n=(iE m (T.pl n 0) (T.sl n 0)).thr n ⟨1,0,0,0⟩):=qh (by
    unfold kI pJ
    rw[if_pos O,Int.toNat_natCast,<-dL ahE,<-V,if_pos I])
   have HR:Kq (decide (okI m.S n/\(getS m.S n).pc=0)=true):=qh (decide_eq_true ⟨O,by rw[<-V];exact I⟩);have HV:=qh (And.intro (hT.plt n 0 t4 ahE) (hT.slt n 0 t4 ahE));have Le:=qh Y;clear k Y V I h1 O;go_enter func250,ntmps250;go_wp2_with (go_at_call 255;refine(i5 H.o).mono ?_;rintro e w' ⟨rfl,rfl⟩);refine((H.o.alloc _).ask1 HV.o.1 HV.o.2).mono ?_;rintro en w1 ⟨b,rfl,h1,t1⟩;have c2:=h1.l3;have f1:∀j,w1.frozen? ⟨x.q,j,none⟩=false:=λj=>h1.ss.free j;obtain⟨b0,b1,b2,b3⟩:=h1.sc (n:=n) (p:=p) (by rw[EN];exact Le.o);have H1:=qh (And.intro h1 (aa.trans ((aa.refl _ w).alloc _) t1));have Jx:=h1.ss.lt;clear h1 t1;go_wp2;go_ret;unfold zi;rw[HR.o,HA.o];exact⟨rfl,H1.o.1.put4 t4 ⟨1,0,0,0⟩,cZ (cZ (cZ (cZ H1.o.2 (q_mv x T) _ _) (q_mv x T) _ _) (q_mv x T) _ _) (q_mv x T) _ _⟩
  .have y1:(p.pc !=0)=true:=by simpa using I
   have HA:Kq (kI T m n=m):=qh (by
    unfold kI pJ
    rw[if_pos O,Int.toNat_natCast,<-dL ahE,<-V,if_neg I])
   have HR:Kq (decide (okI m.S n/\(getS m.S n).pc=0)=false):=qh (decide_eq_false λh=>I (by rw[V];exact h.2));clear k Y V I h1 O;exact abC
 .have HA:Kq (kI T m i=m):=qh (by unfold kI;rw[if_neg O]);have HR:Kq (decide (okI m.S i/\(getS m.S i).pc=0)=false):=qh (decide_eq_false λh=>O h.1);unfold okI at O;rw[Jy]at O;clear k;by_cases I:i<0;.go_enter func250,ntmps250;go_wp2;exact abD
  .have t3:((T.n:Nat):Int)<=i:=(by omega);clear O;exact abC
end
end
section
open Go.RowKit
section
variable{x:Hx}{T:HTr}{s s':Ar}{m:Hm}
def pv(m:Hm)(v j n:Nat)(u c:Int)(p:Sp):eI (m.thr n p) v j u c=(eI m v j u c).thr n p:=by unfold eI;have e:(m.thr n p).sp v j=m.sp v j:=rfl;rw[e];split<;>rfl
def zv(m:Hm)(v j n:Nat)(p:Sp):iE (m.thr n p) v j=(iE m v j).thr n p:=by unfold iE;have e:(m.thr n p).sp v j=m.sp v j:=rfl;rw[e];split<;>rfl
def mY(m:Hm)(n:Nat)(p p':Sp):(m.thr n p).thr n p'=m.thr n p':=by unfold Hm.thr;simp
def aU.put1c(h:aU B w x T bud s m){p p':Sp}(O:m.S[n]? =some p)(I:j<4)(H:(bf p).set j u=bf p'):aU B (w.setCell ⟨x.q,n*4+j,none⟩ u) x T bud s (m.thr n p'):=
 h.spTurn (h.ss.put O I H) (by simp[h.sn]) ((aa.refl _ w).setCell (.inl ahF) _)
def aU.gt(h:aU B w x T bud s m)(H:n<T.n)(p:Sp):(m.thr n p).S[n]? =some p:=by
 have:n<m.S.length:=by rw[h.sn];exact H
 show(m.S.set n p)[n]? =some p;simp[this]
def aU.drewN(h:aU B w x T bud s m)(n:Nat):aU B (w.drewN n) x T bud s m:=h.below (Qt.below ⟨n,rfl⟩ _)
def VD(B:Nat->Prop)(w:World)(x:Hx)(T:HTr)(bud:Int)(s:Ar)(m':Hm)(e:Ending)(w':World):Prop:=e= returned (tuple #[])/\aU B w' x T bud s m'/\aa (mvL x T) w w'
def aU.lev(h:aU B w x T bud s m)(H:n<T.n)(hc:c<T.D):Z w x.l 2 (slice (some ⟨x.bL,x.oL,none⟩) T.n x.kL)/\Z w x.bL (x.oL+n) (slice (some ⟨x.ub n,x.uo n,none⟩) T.D (x.uk n))/\Z w (x.ub n) (x.uo n+c*2) (pointer (some ⟨x.lb (T.pl n c),0,none⟩))/\Z w (x.ub n) (x.uo n+c*2+1) (J (T.sl n c)):=⟨h.l2,h.cL n H,h.cP n c H hc,h.cS n c H hc⟩
def aU.lt4(h:aU B w x T bud s m)(H:n<T.n)(hc:c<T.D):x.l<w.heap.size/\x.bL<w.heap.size/\x.ub n<w.heap.size/\x.q<w.heap.size:=⟨h.lk.lt,aT (h.cL n H),aT (h.cP n c H hc),h.ss.lt⟩
def E5(k:aU B w x T bud s m)(hT:T.Ok)(I:n<T.n)(hc:(sv m.S n).c=c)(J7:c<T.D):E 261 #[↑x.l,J n] w (VD B w x T bud s (jz T m n c)):=by
 refine ajZ ?_;intro H HN P6 Jy p i' hp;rw[<-i']at hc;have c3:=k.l3;obtain⟨b0,b1,b2,b3⟩:=k.sc hp;rw[hc]at b3;have f1:∀j,w.frozen? ⟨x.q,j,none⟩=false:=λj=>k.ss.free j;refine ajw ?_;intro t2 t3;have V:=qh (And.intro hp (And.intro i' hc));by_cases h0:c=0
 .subst h0;clear k hp i' hc;go_enter func261,ntmps261;go_wp2;go_end0;have e:jz T m n 0=m.thr n {p with pc:=0}:=by unfold jz;rw[if_pos rfl,<-V.o.2.1]
  rw[e];exact⟨rfl,H.o.put1c V.o.1 (j:=0) ahG rfl,cZ (aa.refl _ w) (q_mv x T) _ _⟩
 .obtain⟨d,rfl⟩:∃d,c=d+1:=⟨c-1,by omega⟩;have O:d<T.D:=by omega
  obtain⟨L8,cL,cP,cS⟩:=k.lev I O;have y0:(((d+1:Nat):Int)==0)=false:=by simp;omega
  clear k hp i' hc h0;go_enter func261,ntmps261;go_wp2;have h:=(H.o.put1c V.o.1 (j:=3) (u:= J d) (p':={p with c:=d}) ahG rfl).put1c (H.o.gt I _) (j:=0) (u:= J 12) (p':={p with pc:=12,c:=d}) ahG rfl;rw[mY]at h;simp only[Nat.add_zero]at h;have Y:=cZ (cZ (aa.refl (mvL x T) w) (q_mv x T) (n*4+3) (J d)) (q_mv x T) (n*4) (J 12);obtain⟨w2,TC⟩:=LE ((w.setCell ⟨x.q,n*4+3,none⟩ (J d)).setCell ⟨x.q,n*4,none⟩ (J 12));rw[<-TC]at h Y ⊢;have H2:=qh (And.intro h Y);clear TC b0 b1 b2 b3 c3 L8 cL cP cS f1;obtain⟨L8,cL,cP,cS⟩:=h.lev I O;obtain⟨_,_,_,b3⟩:=h.sc (H.o.gt I _);obtain⟨z1,z2,z3,z4⟩:=h.lt4 I O;have HV:=qh (And.intro (hT.plt n d I O) (hT.slt n d I O));clear h Y;go_region;all_goals go_wp2_with fail;refine(((H2.o.1.alloc _).drewN _).leave1 HV.o.1 HV.o.2 (-1)).mono ?_;rintro en w3 ⟨b,rfl,h3,t3⟩;have H3:=qh (And.intro h3 (H2.o.2.trans (((aa.refl _ _).alloc _).drewN _ |>.trans t3)));clear h3 t3;go_wp2;go_end0;have e:jz T m n (d+1)=eI (m.thr n {p with pc:=12,c:=d}) (T.pl n d) (T.sl n d) 11 (-1):=(by unfold jz;rw[if_neg ahE,pv,<-V.o.2.1];have q:((d+1:Nat):Int)-1=d:=(by omega);rw[q];rfl);unfold VD;rw[e];exact⟨rfl,H3.o.1,H3.o.2⟩
end
end
section
open Go.RowKit
def wE(a b c d:Int)(w:World):(Instr.field 113 (agg #[J a,J b,J c,J d]) 1).run prog w= .ok (J b) w:=by kernel_rfl
def De(a b c d:Int)(w:World):(Instr.field 113 (agg #[J a,J b,J c,J d]) 2).run prog w= .ok (J c) w:=by kernel_rfl
def aa.transNew{M:List Nat}{a b c:World}(h:aa M a b)(k:aa S b c)(H:∀i∈S,a.heap.size<=i):aa M a c:=
 ⟨k.os.trans h.os,k.tape.trans h.tape,k.output.trans h.output,Nat.le_trans h.size k.size,λi hi I=>(k.block i (Nat.lt_of_lt_of_le hi h.size) (λhm=>absurd (H i hm) ahE)).trans (h.block i hi I)⟩
section
variable{x:Hx}{T:HTr}{s s':Ar}{m:Hm}
def E2(k:aU B w x T bud s m)(hT:T.Ok)(O:n<T.n)(hc:(sv m.S n).c=c)(J7:c<T.D):E 260 #[↑x.l,J n] w (VD B w x T bud s (jy T m n c)):=by
 have KE:=De;refine ajZ ?_;intro H HN P6 Jy p i' hp;rw[<-i']at hc;have Le:=qh (And.intro hp (And.intro i' hc));have c3:=k.l3;obtain⟨b0,b1,b2,b3⟩:=k.sc hp;rw[hc]at b3;obtain⟨L8,cL,cP,cS⟩:=k.lev O J7;obtain⟨z1,z2,z3,z4⟩:=k.lt4 O J7;have HV:=qh (And.intro (hT.plt n c O J7) (hT.slt n c O J7));obtain⟨u,hu⟩:=LE (m.sp (T.pl n c) (T.sl n c));have HU:=qh hu;refine ajw ?_;intro t2 t3;have g2:¬((T.D:Nat):Int)<=(c:Int):=by omega
 by_cases Y:u.b=0\/c+1=T.D
 .have HE:Kq (jy T m n c=m.thr n {p with pc:=10}):=qh (by unfold jy;rw[if_pos (by rw[<-hu];exact Y),<-i']);clear k hp i' hc hu;go_enter func260,ntmps260;go_wp2;go_region
  all_goals
   go_wp2_with fail;refine Pi (((H.o.alloc _).drewN _).spot1 HV.o.1 HV.o.2) λw3 V=>?_;rw[<-HU.o];unfold aF;have h:=((H.o.alloc _).drewN _).below V;obtain⟨b0,b1,b2,b3⟩:=h.sc Le.o.1;rw[Le.o.2.2]at b3;have f1:∀j,w3.frozen? ⟨x.q,j,none⟩=false:=λj=>h.ss.free j;have H3:=qh (And.intro h (((aa.refl (mvL x T) _).alloc _).drewN _ |>.trans (aa.of_below V)));clear h V;by_cases I:u.b=0;.have y:(u.b==0)=true:=(by simpa using I);clear Y I;exact abE
   .have y:(u.b==0)=false:=(by simpa using I);have hD:c+1=T.D:=Y.resolve_left I;have y2:((c:Int)==(T.D:Int)-1)=true:=(by simp;omega);clear Y I hD;exact abE
 .have SW:c+1<T.D:=by omega
  have y:(u.b==0)=false:=by simpa using λe=>Y (.inl e)
  have y2:((c:Int)==(T.D:Int)-1)=false:=by simp;omega
  have HE:Kq (jy T m n c=iE (m.thr n {p with c:=(c:Int)+1}) (T.pl n (c+1)) (T.sl n (c+1))):=qh (by unfold jy;rw[if_neg (by rw[<-hu];exact Y),zv,<-i']);have UA:=qh (And.intro (hT.plt n (c+1) O SW) (hT.slt n (c+1) O SW));clear k hp i' hc hu Y;go_enter func260,ntmps260;go_wp2;go_region;all_goals go_wp2_with fail;refine Pi (((H.o.alloc _).drewN _).spot1 HV.o.1 HV.o.2) λw3 V=>?_;rw[<-HU.o];unfold aF;have h:=((H.o.alloc _).drewN _).below V;have hx:Blk w3 w.heap.size 255 #[pointer (some ⟨x.lb (T.pl n c),0,none⟩),J (T.sl n c)]:=(aa.of_below (S:=[]) V).blk (heap_alloc_new w _) ahF;clear b0 b1 b2 b3 L8 cL cP cS c3;obtain⟨b0,b1,b2,b3⟩:=h.sc Le.o.1;rw[Le.o.2.2]at b3;have f1:∀j,w3.frozen? ⟨x.q,j,none⟩=false:=λj=>h.ss.free j;have h4:=h.put1c Le.o.1 (j:=3) (u:= J ((c:Int)+1)) (p':={p with c:=(c:Int)+1}) ahG rfl;have Tq:x.q≠w.heap.size:=(by omega);have t4:=cZ (((aa.refl (mvL x T) _).alloc _).drewN _ |>.trans (aa.of_below V)) (q_mv x T) (n*4+3) (J ((c:Int)+1));have Nj:=hx.far (λe=>Tq e.symm) (p:=⟨x.q,n*4+3,none⟩) (J ((c:Int)+1));have H4:=qh (And.intro h4 (And.intro t4 Nj));have ZC:=(h4.sc (H.o.gt O _)).2.2.2;obtain⟨L8,cL,cP,cS⟩:=h4.lev O SW;have x0:=Nj.cell 0;have x1:=Nj.cell 1;have y0:=Nj.free 0;have y1:=Nj.free 1;clear h V h4 t4 hx Nj;go_wp2_with fail;have t5:aa [w.heap.size] (w3.setCell ⟨x.q,n*4+3,none⟩ (J ((c:Int)+1))) (((w3.setCell ⟨x.q,n*4+3,none⟩ (J ((c:Int)+1))).setCell ⟨w.heap.size,0,none⟩ (pointer (some ⟨x.lb (T.pl n (c+1)),0,none⟩))).setCell ⟨w.heap.size,1,none⟩ (J (T.sl n (c+1)))):=cZ (cZ (aa.refl _ _) ahF _ _) ahF _ _;have h5:=H4.o.1.turns t5 (λi hi=>by simp at hi;rw[hi];exact H.o.new.1) (λi hi=>by simp at hi;rw[hi];exact H.o.new.2);refine(h5.ask1 UA.o.1 UA.o.2).mono ?_;rintro en w6 ⟨b,rfl,h6,t6⟩;have H6:=qh (And.intro h6 ((H4.o.2.1.transNew t5 λi hi=>by simp at hi;omega).trans t6));clear h5 h6 t5 t6;go_wp2;go_end0;unfold VD;rw[HE.o];exact⟨rfl,H6.o.1,H6.o.2⟩
end
end
section
open Go.RowKit
def pu{P:Program}{a:Act}{Q:Exit->Act->World->Prop}{c rest:Code}(l:Nat)(hf:findLabel c l=some rest)(first:c.wp P (Exit.jump l (λa' w'=>rest.wp P (Exit.noGoto Q) a' w') Q) a w):(Code.scope c).wp P Q a w:=by exact abi
section
variable{x:Hx}{T:HTr}{s s':Ar}{m:Hm}
def j3(T:HTr)(bud:Int)(m:Hm)(n:Nat):∀(f g k:Nat),T.D-k<=f->T.D-k<=g->k<T.D->gr T bud f m n k=gr T bud g m n k
 |0,_,k,h,_,H=>by omega
 |_+1,0,k,_,h,H=>by omega
 |f+1,g+1,k,h1,I,H=>by
  unfold gr;by_cases c:k+1=T.D;.rw[if_pos c,if_pos c]
  .rw[if_neg c,if_neg c];split;.rfl
   .exact j3 T bud m n f g (k+1) ahE ahE ahE
def xB(T:HTr)(bud:Int)(m:Hm)(n:Nat)(h:k+1=T.D):gr T bud T.D m n k=(eI m (T.pl n k) (T.sl n k) 11 1).thr n {sv m.S n with pc:=12,c:=k}:=by rw[j3 T bud m n T.D 1 k ahE ahE ahE];unfold gr;rw[if_pos h]
def xD(T:HTr)(bud:Int)(m:Hm)(n:Nat)(h:k+1<T.D)(O:(m.sp (T.pl n k) (T.sl n k)).a<=bud):gr T bud T.D m n k=(eI m (T.pl n k) (T.sl n k) 15 ((m.sp (T.pl n k) (T.sl n k)).a+1)).thr n {sv m.S n with pc:=11,c:=k}:=by obtain⟨d,hd⟩:∃d,T.D=d+1:=⟨T.D-1,by omega⟩;rw[j3 T bud m n T.D (d+1) k ahE ahE ahE];unfold gr;rw[if_neg ahE,if_pos O]
def xC(T:HTr)(bud:Int)(m:Hm)(n:Nat)(h:k+1<T.D)(O:¬(m.sp (T.pl n k) (T.sl n k)).a<=bud):gr T bud T.D m n k=gr T bud T.D m n (k+1):=by
 rw[j3 T bud m n T.D (T.D+1) k ahE ahE ahE];conv=>lhs;unfold gr
 rw[if_neg ahE,if_neg O]
def vZ(k:aU B w x T bud s m)(hT:T.Ok){k0:Nat}(hn:n<T.n)(Tc:k0<T.D)(P2:0<=bud/\bud<=1000)(Ky:∀k,k0<=k->k<T.D->0<=(m.sp (T.pl n k) (T.sl n k)).a/\(m.sp (T.pl n k) (T.sl n k)).a<=2000):E 258 #[↑x.l,J n,J k0] w (VD B w x T bud s (gr T bud T.D m n k0)):=by
  have KE:=wE;refine ajZ ?_;intro H HN P6 Jy p i' hp;have Le:=qh (And.intro hp i');have Xe:=qh Ky;have c3:=k.l3;obtain⟨L8,cL,cP,cS⟩:=k.lev hn Tc;obtain⟨z1,z2,z3,z4⟩:=k.lt4 hn Tc;refine ajw ?_;intro t2 t3;obtain⟨Jt,JY⟩:=P2;clear k hp i' Ky;go_enter func258,ntmps258;go_wp2;refine pu 0 rfl ?_;go_wp2;go_region
  all_goals
    go_wp2;go_step3;clear c3 L8 cL cP cS z1 z2 z3 z4;go_wp2;go_loopw [2] (λc wr=>∃(k:Nat) (z:Int),c= J k/\k<T.D/\k0<=k/\aU B wr x T bud s (m.thr n {p with c:=z})/\aa (mvL x T) w wr/\gr T bud T.D m n k=gr T bud T.D m n k0) (λc _=>T.D-(intOf c).toNat);case atStart=>refine⟨k0,p.c,rfl,Tc,by omega,?_,(aa.refl _ _).drewN 1,rfl⟩;have e:m.thr n {p with c:=p.c}=m:=(by unfold Hm.thr;have:m.S.set n p=m.S:=tK Le.o.1;show({m with S:=m.S.set n p}:Hm)=m;rw[this]);rw[e];exact H.o.drewN 1
    case round=>
      obtain⟨k,z,rfl,MO,hk,hI,ht,hE⟩:=hrel;have HW:=qh (And.intro hI (And.intro ht hE));have Y:=qh (And.intro (hT.plt n k hn MO) (hT.slt n k hn MO));obtain⟨u,hu⟩:=LE (m.sp (T.pl n k) (T.sl n k));have HU:=qh hu;obtain⟨L8,cL,cP,cS⟩:=hI.lev hn MO;obtain⟨z1,z2,z3,z4⟩:=hI.lt4 hn MO;have g2:¬((T.D:Nat):Int)<=(k:Int):=(by omega);clear hI ht hE hu;go_wp2_with fail;refine Pi ((HW.o.1.alloc _).spot1 Y.o.1 Y.o.2) λw3 k3=>?_;rw[show(m.thr n {p with c:=z}).sp (T.pl n k) (T.sl n k)=u from HU.o.symm];unfold aF;have h3:=(HW.o.1.alloc _).below k3;have hx:Blk w3 wr.heap.size 255 #[pointer (some ⟨x.lb (T.pl n k),0,none⟩),J (T.sl n k)]:=(aa.of_below (S:=[]) k3).blk (heap_alloc_new wr _) ahF;clear L8 cL cP cS;have c3:=(h3.sc (H.o.gt hn _)).2.2.2;have f1:∀j,w3.frozen? ⟨x.q,j,none⟩=false:=λj=>h3.ss.free j;have h4:=h3.put1c (H.o.gt hn _) (j:=3) (u:= J (k:Int)) (p':={p with c:=(k:Int)}) ahG rfl;rw[mY]at h4;have Tq:x.q≠wr.heap.size:=(by omega);have t4:=cZ (HW.o.2.1.trans (((aa.refl (mvL x T) _).alloc _).trans (aa.of_below k3))) (q_mv x T) (n*4+3) (J (k:Int));have Nj:=hx.far (λe=>Tq e.symm) (p:=⟨x.q,n*4+3,none⟩) (J (k:Int));have V:=qh (And.intro h4 t4);have x0:=Nj.cell 0;have x1:=Nj.cell 1;have l0:=h4.l0;clear h3 k3 h4 t4 hx Nj;by_cases hD:k+1=T.D;. have y:((k:Int)==(T.D:Int)-1)=true:=(by simp;omega);have HE:=qh (HW.o.2.2.symm.trans (xB T bud m n hD));clear hD;go_wp2_with fail;refine(V.o.1.leave1 Y.o.1 Y.o.2 1).mono ?_;rintro en w5 ⟨b,rfl,h,t5⟩;rw[pv]at h;have c0:=(h.sc (p:={p with c:=(k:Int)}) ain).1;have f0:∀j,w5.frozen? ⟨x.q,j,none⟩=false:=λj=>h.ss.free j;have I:=h.put1c (n:=n) (p:={p with c:=(k:Int)}) ain (j:=0) (u:= J 12) (p':={p with pc:=12,c:=(k:Int)}) ahG rfl;rw[mY]at I;have H6:=qh (And.intro I (cZ (V.o.2.trans t5) (q_mv x T) (n*4) (J 12)));clear h I t5;go_wp2;go_end0;unfold VD;rw[HE.o,<-Le.o.2];exact⟨rfl,H6.o.1,H6.o.2⟩
      . have UM:k+1<T.D:=(by omega);have y:((k:Int)==(T.D:Int)-1)=false:=(by simp;omega);obtain⟨QD,Zu⟩:=Xe.o k hk MO;rw[<-HU.o]at QD Zu;by_cases O:u.a<=bud;. have HE:=qh (HW.o.2.2.symm.trans (xD T bud m n UM (by rw[<-HU.o];exact O)));go_wp2_with fail;refine(V.o.1.pass1 Y.o.1 Y.o.2 (u.a+1)).mono ?_;rintro en w5 ⟨b,rfl,h,t5⟩;rw[pv]at h;have c0:=(h.sc (p:={p with c:=(k:Int)}) ain).1;have f0:∀j,w5.frozen? ⟨x.q,j,none⟩=false:=λj=>h.ss.free j;have I:=h.put1c (n:=n) (p:={p with c:=(k:Int)}) ain (j:=0) (u:= J 11) (p':={p with pc:=11,c:=(k:Int)}) ahG rfl;rw[mY]at I;have H6:=qh (And.intro I (cZ (V.o.2.trans t5) (q_mv x T) (n*4) (J 11)));clear h I t5;go_wp2;go_end0;unfold VD;rw[HE.o,<-Le.o.2,<-HU.o];exact⟨rfl,H6.o.1,H6.o.2⟩
        . have HE:=qh ((xC T bud m n UM (by rw[<-HU.o];exact O)).symm.trans HW.o.2.2);go_wp2;go_roundw;case rel=>exact⟨k+1,k,by go_num,by omega,by omega,V.o.1,V.o.2,HE.o⟩
          case measure=>simp[intOf];omega
end
end
section
open Go.RowKit
section
variable{x:Hx}{T:HTr}{s s':Ar}{m:Hm}
def DY(m:Hm)(h:j<(m.P v).length):(rstH m v j).sp v j=(da (arW (m.W v)) 1 ((j:Int)+1) (m.sp v j)).2:=by unfold Hm.sp rstH;show sv (aX m.P v _ v) j=_;rw[aW,ba,if_pos ⟨rfl,h⟩];rfl
def DZ(m:Hm){u:Nat}(h:u≠v):(rstH m v j).sp u k=m.sp u k:=by unfold Hm.sp rstH;show sv (aX m.P v _ u) k=_;rw[aY _ _ h]
def d9.va10(h:d9 T bud m hb)(H:T.Ok)(I:0<=bud/\bud<=1000)(V:n<T.n)(O:k<T.D)(h10:(m.sp (T.pl n k) (T.sl n k)).pc=10):0<=(m.sp (T.pl n k) (T.sl n k)).a/\(m.sp (T.pl n k) (T.sl n k)).a<=2000:=by have:=((h.x n).va (T.pl n k) (T.sl n k) (H.plt n k V O) (H.slt n k V O)).1 (.inl h10);omega
def d9.vaHold(h:d9 T bud m hb)(V:T.Ok)(I:0<=bud/\bud<=1000)(O:n<T.n)(h10:(sv m.S n).pc=10):∀k,0<=k->k<T.D->0<=(m.sp (T.pl n k) (T.sl n k)).a/\(m.sp (T.pl n k) (T.sl n k)).a<=2000:=by obtain⟨K,Y,_⟩:=h.t n O;exact λk _ H=>h.va10 V I O H ((Y.of10 h10).2 k H)
def d9.stepUp(h:d9 T bud m hb)(V:T.Ok)(I:0<=bud/\bud<=1000)(Y:n<T.n)(h0:¬((sv m.S n).pc=0\/(sv m.S n).pc=10))(hc:(sv m.S n).c=c)(h1:(sv m.S n).pc≠1)(hp:((rstH m (T.pl n c) (T.sl n c)).sp (T.pl n c) (T.sl n c)).pc=10):c+1<T.D/\∀k,c+1<=k->k<T.D->0<=((rstH m (T.pl n c) (T.sl n c)).sp (T.pl n k) (T.sl n k)).a/\((rstH m (T.pl n c) (T.sl n c)).sp (T.pl n k) (T.sl n k)).a<=2000:=by
  obtain⟨K,kk,o⟩:=h.t n Y;cases kk with
  | rest H=>exact absurd (.inl H) h0
  | come c' H _ _ _=>exact absurd H.1 h1
  | granted c' H _ _=>exact absurd H.1 h1
  | hold H _=>exact absurd (.inr H) h0
  | pass c' H ha Ms=>
    obtain rfl:c=c':=by have:=H.2.1;omega
    refine⟨H.2.2,λk hk MO=>?_⟩;have ab:T.pl n k≠T.pl n c:=λe=>by have e1:=V.lv n k Y MO;have e2:=V.lv n c Y ahE;rw[e]at e1;omega
    rw[DZ m ab];exact h.va10 V I Y MO (Ms k MO ahE)
  | leave c' H ha SX Ms=>
    obtain rfl:c=c':=by have:=H.2.1;omega
    exfalso;have J7:=H.2.2;have O:=V.plt n c Y J7;have hj:=V.slt n c Y J7;have r:=(h.x n).rg _ O;have Mz:T.sl n c<(m.P (T.pl n c)).length:=(by rw[(h.x n).len O];exact hj);rw[DY m Mz]at hp;have Ku:11<=(sv (m.P (T.pl n c)) (T.sl n c)).pc/\(sv (m.P (T.pl n c)) (T.sl n c)).pc<=14:=ha;have LC:(sv (m.P (T.pl n c)) (T.sl n c)).c=if c+1=T.D then 1 else -1:=SX
    obtain⟨ro,_⟩:=RtS.case (ar:=arW (m.W (T.pl n c))) r (V.nv32 _ O) hj rfl ahE rfl;have JT:(da (arW (m.W (T.pl n c))) 1 (numT (T.sl n c)) (sv (m.P (T.pl n c)) (T.sl n c))).2.pc=10:=hp;cases ro with
    | come h=>have:=h.1;omega
    | told h=>have:=h.1;omega
    | hold h=>have:=h.1;omega
    | o h=>have:=h.2.1;omega
    | free h=>have:=h.2;omega
    | give s h=>have:=h.2.1;omega
    | look h=>have:=h.1;omega
def gw(T:HTr)(bud:Int)(m:Hm)(i:Int):Hm:=if okI m.S i then j7 T bud m i.toNat else m
def aU.okn(k:aU B w x T bud s m){i:Int}(h:okI m.S i):∃n:Nat,i=n/\n<T.n/\getS m.S i=sv m.S n/\n<m.S.length:=by
 obtain⟨I,h1⟩:=h;obtain⟨n,rfl⟩:=Int.eq_ofNat_of_zero_le I;have H:n<m.S.length:=by omega
 exact⟨n,rfl,by rw[<-k.sn];exact H,dL H,H⟩
def Dt(k:aU B w x T bud s m)(V:T.Ok)(hI:d9 T bud m hb)(I:0<=bud/\bud<=1000)(i:Int):E 252 #[↑x.l,J i] w λe w'=>e= returned (bool (decide ((getS m.S i).pc=10)))/\aU B w' x T bud s (gw T bud m i)/\aa (mvL x T) w w':=by
 have KE:=aM;have H:=qh k;obtain⟨p,i'⟩:=LE (getS m.S i);have HP:=qh i';by_cases h10:p.pc=10
 .have h:okI m.S i:=by exact abF
  obtain⟨n,rfl,hn,hg,hl⟩:=k.okn h;have hs:(sv m.S n).pc=10:=by rw[<-hg,<-i'];exact h10
  have hd:=V.d1;have HB:=qh (λW (k':aU B W x T bud s m)=>vZ k' V hn (k0:=0) ahE I (hI.vaHold V I hn hs));have O:Kq (gw T bud m n=gr T bud T.D m n 0):=qh (by unfold gw j7;rw[if_pos h,Int.toNat_natCast,if_pos hs]);have y:(p.pc !=10)=false:=by simpa using h10
  clear k i' h hI hg hs;go_enter func252,ntmps252;go_wp2_with fail;refine Pi (jM H.o n) λw1 b1=>?_;refine ajA ?_;intro H1;clear b1;go_wp2_with fail;refine Op (HB.o _ H1.o.1) λw2 h2=>?_;have Y:=qh (And.intro h2.o.1 ((aa.of_below H1.o.2).trans h2.o.2));go_wp2;go_ret;rw[O.o];exact⟨(rfl:_=Ending.returned (bool true)).trans (by rw[<-HP.o,h10];rfl),Y.o.1,Y.o.2⟩
 .have y:(p.pc !=10)=true:=by simpa using h10
  have O:Kq (gw T bud m i=m):=qh (by
   unfold gw;by_cases h:okI m.S i;.obtain⟨n,rfl,hn,hg,hl⟩:=k.okn h;rw[if_pos h,Int.toNat_natCast];unfold j7;rw[if_neg (by rw[<-hg,<-i'];exact h10)]
   .rw[if_neg h])
  have WM:=qh h10;clear k i' h10;go_enter func252,ntmps252;go_wp2_with fail;refine Pi (jM H.o i) λw1 b1=>?_;refine ajA ?_;intro H1;clear b1;go_wp2;go_ret;rw[O.o];exact⟨(rfl:_=Ending.returned (bool false)).trans (by rw[<-HP.o,decide_eq_false WM.o]),H1.o.1,aa.of_below H1.o.2⟩
end
end
section
open Go.RowKit
section
variable{x:Hx}{T:HTr}{s s':Ar}{m:Hm}
def stepI(T:HTr)(bud:Int)(m:Hm)(i:Int):Hm:=if okI m.S i then jQ T bud m i.toNat else m
def jB(T:HTr)(s:Ar)(m:Hm)(i:Int):Ar:=if (getS m.S i).pc=0\/(getS m.S i).pc=10 then s else AQ s m (T.pl i.toNat (getS m.S i).c.toNat) (T.sl i.toNat (getS m.S i).c.toNat)
def zN(z p:Int):Bool:=decide ((z=10\/z=0)/\p≠0/\p≠10)
def un(H:¬(p=0\/p=10))(h:(z==10)=true):true=zN z p:=by have:=eq_of_beq h;exact(decide_eq_true ahE).symm
def uq(H:¬(p=0\/p=10))(h:(z==0)=true):true=zN z p:=by have:=eq_of_beq h;exact(decide_eq_true ahE).symm
def ur(p:Int)(h:(z==10)=false)(H:(z==0)=false):false=zN z p:=by simp only[beq_eq_false_iff_ne]at h H;exact(decide_eq_false ahE).symm
def OpX(B:Nat->Prop)(w:World)(x:Hx)(T:HTr)(bud:Int)(s:Ar)(m:Hm)(i:Int)(e:Ending)(w':World):Prop:=
 e= returned (bool (zN (getS (stepI T bud m i).S i).pc (getS m.S i).pc))/\aU B w' x T bud (jB T s m i) (stepI T bud m i)/\(jB T s m i).ops<=s.ops+1/\aa (mvL x T) w w'
def OpX.mk'{i:Int}{s1:Ar}{m1:Hm}{b:Bool}(H:b=zN (getS m1.S i).pc (getS m.S i).pc)(hm:stepI T bud m i=m1)(h:aU B w' x T bud s1 m1)(hs:s1=jB T s m i)(Y:s1.ops<=s.ops+1)(t:aa (mvL x T) w w'):OpX B w x T bud s m i (returned (.bool b)) w':=by subst hm;subst hs;subst H;exact⟨rfl,h,Y,t⟩
def vx(T:HTr)(bud:Int)(m:Hm)(h:¬((sv m.S n).pc=0\/(sv m.S n).pc=10))(hc:(sv m.S n).c=c)(V:¬((m.sp (T.pl n c) (T.sl n c)).pc=0\/(m.sp (T.pl n c) (T.sl n c)).pc=10)){m1:Hm}(h1:m1=rstH m (T.pl n c) (T.sl n c)):jQ T bud m n=if ¬((m1.sp (T.pl n c) (T.sl n c)).pc=0\/(m1.sp (T.pl n c) (T.sl n c)).pc=10)then m1 else if (sv m.S n).pc=1 then jy T m1 n c else if (m1.sp (T.pl n c) (T.sl n c)).pc=0 then jz T m1 n c else gr T bud T.D m1 n (c+1):=by unfold jQ;rw[if_neg h,hc];simp only[Int.toNat_natCast];rw[if_neg V,<-h1]
def FZ(k:aU B w x T bud s m)(hT:T.Ok)(hI:d9 T bud m hb)(I:0<=bud/\bud<=1000)(Y:s.ops+1<=1000000000000)(i:Int):E 254 #[↑x.l,J i] w (OpX B w x T bud s m i):=by
 have KE:=aM;have H:=qh k;have HN:=k.fx.n32;have P6:=k.fx.d5;obtain⟨p,V⟩:=LE (getS m.S i);have HP:=qh V;by_cases h0:p.pc=0\/p.pc=10
 .have HE:Kq (stepI T bud m i=m):=qh (by
   unfold stepI;by_cases mP:okI m.S i;.obtain⟨n,rfl,hn,hg,hl⟩:=k.okn mP;rw[if_pos mP,Int.toNat_natCast];unfold jQ;rw[if_pos (by rw[<-hg,<-V];exact h0)]
   .rw[if_neg mP])
  clear k V;have Nw:∀w',Below w.heap.size w w'->OpX B w x T bud s m i (returned (bool false)) w':=λw' b=>OpX.mk' (by rw[<-HP.o];exact(decide_eq_false ahE).symm) HE.o (H.o.below b) (by unfold jB;rw[<-HP.o,if_pos h0]) ahE (aa.of_below b);have HF:=qh Nw;clear Nw;by_cases PP:p.pc=0;.have y:(p.pc==0)=true:=(by simpa using PP);clear h0 PP;exact abG
  .have h1:p.pc=10:=h0.resolve_left PP;have y:(p.pc==0)=false:=(by simpa using PP);have y1:(p.pc==10)=true:=(by simpa using h1);clear h0 PP h1;exact abG
 .have mP:okI m.S i:=by apply Classical.byContradiction;intro hn;rw[dz hn]at V;exact h0 (.inl (by rw[V];rfl))
  obtain⟨n,rfl,hn,hg,hl⟩:=k.okn mP;rw[hg]at V HP;have JI:¬((sv m.S n).pc=0\/(sv m.S n).pc=10):=by rw[<-V];exact h0
  obtain⟨K,kk,oo⟩:=hI.t n hn;obtain⟨c,hc,J7,Q9,a0,Om⟩:=rK.act kk JI;clear kk oo Q9;have O:=hT.plt n c hn J7;have hj:=hT.slt n c hn J7;have PZ:¬((m.sp (T.pl n c) (T.sl n c)).pc=0\/(m.sp (T.pl n c) (T.sl n c)).pc=10):=λh=>h.elim a0 Om;obtain⟨m1,JQ⟩:=LE (rstH m (T.pl n c) (T.sl n c));have UV:m1.S=m.S:=by rw[JQ];rfl
  have Px:=vx T bud m JI hc PZ JQ;rw[show jQ T bud m n=stepI T bud m n by unfold stepI;rw[if_pos mP,Int.toNat_natCast]]at Px;have Lq:=fun(e1:(sv m.S n).pc≠1) (e2:(m1.sp (T.pl n c) (T.sl n c)).pc=10)=>hI.stepUp hT I hn JI hc e1 (by rw[<-JQ];exact e2);rw[<-JQ]at Lq;have F':∀W,aU B W x T bud s m->E 259 #[pointer (some ⟨x.lb (T.pl n c),0,none⟩),J (T.sl n c)] W (S1 B W x T bud s (AQ s m (T.pl n c) (T.sl n c)) m1 (decide ((m1.sp (T.pl n c) (T.sl n c)).pc=0\/(m1.sp (T.pl n c) (T.sl n c)).pc=10))):=λW k=>by have:=k.step1 O hj ((hI.x n).rg _ O) Y;rw[if_neg PZ,if_neg PZ,if_neg PZ,<-JQ]at this;exact this
  obtain⟨s',Lv⟩:=LE (AQ s m (T.pl n c) (T.sl n c));rw[<-Lv]at F';have HA:Kq (s'=jB T s m n):=qh (by unfold jB;rw[hg,<-V,if_neg h0,V,hc,Lv];rfl);have HG:Kq ((getS m.S (n:Int)).pc=p.pc/\∀m2:Hm,m2.S.length=m.S.length->getS m2.S (n:Int)=sv m2.S n):=qh ⟨by rw[hg,<-V],λm2 h2=>dL ahE⟩;clear Lv;obtain⟨u,hu⟩:=LE (m1.sp (T.pl n c) (T.sl n c));rw[<-hu]at F' Lq Px;have y0:(p.pc==0)=false:=by simpa using λe=>h0 (.inl e)
  have ab:(p.pc==10)=false:=by simpa using λe=>h0 (.inr e)
  rw[<-V]at Lq Px hc;refine ajw ?_;intro t2 t3;have g2:¬((T.D:Nat):Int)<=(c:Int):=by omega
  have HC:=qh (And.intro V (And.intro hc (And.intro UV (And.intro O hj))));have HU:=qh hu;have HM:=qh Lq;have HS:=qh F';have HE:=qh Px;have OB:m.S[n]? =some p:=by rw[V];exact gC hl
  clear F' Px Lq hu UV JQ PZ a0 Om JI k V hg mP hl hI;go_enter func254,ntmps254;go_wp2_with fail;refine Pi (jM H.o n) λw1 b1=>?_;rw[show getS m.S (n:Int)=p from by rw[HC.o.1];exact dL (by have:=(List.getElem?_eq_some_iff.1 OB).1;exact this)];unfold aF;have k1:=H.o.below b1;have K1:=qh (And.intro k1 (aa.of_below (S:=mvL x T) b1));have c3:=k1.l3;have b3:=(k1.sc OB).2.2.2;rw[HC.o.2.1]at b3;obtain⟨L8,cL,cP,cS⟩:=k1.lev hn J7;obtain⟨z1,z2,z3,z4⟩:=k1.lt4 hn J7;clear k1 b1;go_wp2;go_region
  all_goals
   go_wp2_with fail;refine Op (HS.o _ ((K1.o.1.alloc _).drewN _)) λw2 k2=>?_;have hx:Blk w2 w1.heap.size 255 #[pointer (some ⟨x.lb (T.pl n c),0,none⟩),J (T.sl n c)]:=k2.o.2.2.blk (heap_alloc_new w1 _) K1.o.1.new.2;have K2:=qh (And.intro k2.o.1 (And.intro (K1.o.2.trans ((((aa.refl (mvL x T) _).alloc _).drewN _).trans k2.o.2.2)) k2.o.2.1));have x0:=hx.cell 0;have x1:=hx.cell 1;clear hx c3 b3 L8 cL cP cS z1 z2 z3 z4;by_cases e:u.pc=0\/u.pc=10
   .rw[decide_eq_true e];go_wp2_with fail;refine Pi (K2.o.1.spot1 HC.o.2.2.2.1 HC.o.2.2.2.2) λw3 b3=>?_;rw[<-HU.o];unfold aF;have k3:=K2.o.1.below b3;have K3:=qh (And.intro k3 (And.intro (K2.o.2.1.trans (aa.of_below b3)) K2.o.2.2));have P4:(sv m1.S n).c=c:=(by rw[HC.o.2.2.1,<-HC.o.1];exact HC.o.2.1);have Nd:=(k3.sc (p:=p) (by rw[HC.o.2.2.1];exact OB)).2.2.2;rw[HC.o.2.1]at Nd;clear k3 b3;have ne:=not_not_intro e;by_cases e1:p.pc=1
    .have y1:(p.pc==1)=true:=(by simpa using e1);go_wp2_with fail;refine Op (E2 K3.o.1 hT hn P4 J7) λw4 h4=>?_;refine ajC ?_;intro H4 c0;obtain⟨zz,hz⟩:=LE ((sv (jy T m1 n c).S n).pc);rw[<-hz]at c0;have HZ:=qh hz;clear hz;cases f1:(zz==10)
     .cases f2:(zz==0);.go_wp2;go_ret;exact OpX.mk' (b:=false) aiy aiz H4.o.1 HA.o K3.o.2.2 H4.o.2.1
      .go_wp2;go_ret;exact OpX.mk' (b:=true) aiA aiz H4.o.1 HA.o K3.o.2.2 H4.o.2.1
     .go_wp2;go_ret;exact OpX.mk' (b:=true) aiB aiz H4.o.1 HA.o K3.o.2.2 H4.o.2.1
    .have y1:(p.pc==1)=false:=(by simpa using e1);by_cases e2:u.pc=0
     .have y2:(u.pc==0)=true:=(by simpa using e2);go_wp2_with fail;refine Op (E5 K3.o.1 hT hn P4 J7) λw4 h4=>?_;refine ajC ?_;intro H4 c0;obtain⟨zz,hz⟩:=LE ((sv (jz T m1 n c).S n).pc);rw[<-hz]at c0;have HZ:=qh hz;clear hz;cases f1:(zz==10)
      .cases f2:(zz==0);.go_wp2;go_ret;exact OpX.mk' (b:=false) aiy aiC H4.o.1 HA.o K3.o.2.2 H4.o.2.1
       .go_wp2;go_ret;exact OpX.mk' (b:=true) aiA aiC H4.o.1 HA.o K3.o.2.2 H4.o.2.1
      .go_wp2;go_ret;exact OpX.mk' (b:=true) aiB aiC H4.o.1 HA.o K3.o.2.2 H4.o.2.1
     .have y2:(u.pc==0)=false:=(by simpa using e2);obtain⟨Lc,Ky⟩:=HM.o e1 (e.resolve_left e2);have Wy:=qh (show E 258 #[↑x.l,J n,J ((c:Int)+1)] w3 (VD B w3 x T bud s' (gr T bud T.D m1 n (c+1)))from vZ K3.o.1 hT hn (k0:=c+1) Lc I Ky);clear Ky;go_wp2_with fail;refine Op Wy.o λw4 h4=>?_;refine ajC ?_;intro H4 c0;obtain⟨zz,hz⟩:=LE ((sv (gr T bud T.D m1 n (c+1)).S n).pc);rw[<-hz]at c0;have HZ:=qh hz;clear hz;cases f1:(zz==10)
      .cases f2:(zz==0);.go_wp2;go_ret;exact OpX.mk' (b:=false) aiy aiD H4.o.1 HA.o K3.o.2.2 H4.o.2.1
       .go_wp2;go_ret;exact OpX.mk' (b:=true) aiA aiD H4.o.1 HA.o K3.o.2.2 H4.o.2.1
      .go_wp2;go_ret;exact OpX.mk' (b:=true) aiB aiD H4.o.1 HA.o K3.o.2.2 H4.o.2.1
   .rw[decide_eq_false e];go_wp2;go_ret;exact OpX.mk' (b:=false) (by rw[HG.o.1,HG.o.2 _ (by rw[HC.o.2.2.1]),HC.o.2.2.1,<-HC.o.1];exact(decide_eq_false ahE).symm) (by rw[HE.o,if_pos e]) K2.o.1 HA.o K2.o.2.2 K2.o.2.1
end
end
section
open Go.RowKit
def Ek(T:HTr)(bud:Int)(m:Hm)(k i:Int):Hm:=if k=0 then stepI T bud m i else if k=1 then kI T m i else if k=2 then gw T bud m i else m
section
variable{w0:World}{x:Hx}{T:HTr}{s s':Ar}{m m':Hm}{N M:Nat}
def d9.act(h:d9 T bud m hb)(V:T.Ok)(I:0<=bud)(k i:Int):∃O,d9 T bud (Ek T bud m k i) O:=by
 have hi:∀j,okI m.S j->j.toNat<T.n:=λj hj=>by have:=(h.x 0).sl;obtain⟨h0,h1⟩:=hj;omega
 unfold Ek;split
 .unfold stepI;split;.rename_i H;exact h.step V I (hi _ H)
  .exact⟨hb,h⟩
 .split
  .unfold kI;split;.rename_i H;obtain⟨O,Y⟩:=h.ask V (hi _ H);exact⟨O,Y⟩
   .exact⟨hb,h⟩
  .split
   .unfold gw;split;.rename_i H;exact⟨hb,h.leave V (hi _ H)⟩
    .exact⟨hb,h⟩
   .exact⟨hb,h⟩
end
end
section
open Go.RowKit
def we(w:World)(vP Y:Value)(P:List Int)(h:RdL w vP 1 encI P)(MI:P.length<=1000)(p:Int):E 140 #[agg #[vP,Y],J p] w λe w'=>∃v',e= returned v'/\w'.ownsRow w.heap.size 3 1 v' (chL P p).length ((chL P p).flatMap encI)/\Below w.heap.size w w':=by
  refine ajV ?_;intro i0 hi JF JH hz2 HI;have hR:=h.alloc (cells #[vP,Y] 24);obtain⟨A,cap,rfl,l1,l2,V⟩:=hR;have HR:=qh V;have OE:(w.alloc (cells #[.slice A P.length cap,Y] 24)).heap.size=w.heap.size+1:=by simp
  have HB:=qh ((Below.refl w.heap.size w).alloc (Nat.le_refl _) (cells #[.slice A P.length cap,Y] 24));have b0:(w.alloc (cells #[.slice A P.length cap,Y] 24)).cell? w.heap.size=some (.slice A P.length cap):=by simp[World.cell?_alloc_new]
  obtain⟨w1,Ni⟩:=LE (w.alloc (cells #[.slice A P.length cap,Y] 24));clear hi JF JH hz2 h V;go_enter func140,ntmps140;rw[<-Ni]at HR HB b0 OE;have HZ:=qh OE;clear OE;go_wp2;rw[<-Ni];clear Ni;go_loopw [5,11] (λo i wr=>∃k:Nat,i= J k/\k<=P.length/\wr.ownsRow w1.heap.size 3 1 o (mF P p k).length ((mF P p k).flatMap encI)/\Below w1.heap.size w1 wr) (λ_ i _=>P.length-(intOf i).toNat);case atStart=>exact⟨0,rfl,by omega,World.ownsRow_nil _ _ _ _,Below.refl _ _⟩
  case round=>
    obtain⟨k,rfl,hk,I,O⟩:=hrel;by_cases I':k<P.length
    . obtain⟨q,hq⟩:=ak I';obtain⟨bl,off,rfl,Ki,hc⟩:=HR.o ahE;have c0:=(O.cell (p:=⟨bl,off+k*1+0,none⟩) Ki).trans (hc k _ hq 0 _ rfl);simp only[Nat.add_zero,Nat.mul_one]at c0;have KD:=kJ P p k;have J0:=O.size;have HS:=qh (xV P p hq);have H:=qh (And.intro I O);obtain⟨A9,c9,rfl⟩:=bO I;clear hc O;cases hm:(q==p)
      . have HM:Kq (¬q=p):=qh aif;clear I;go_wp2;go_roundw;case rel=>exact⟨k+1,by go_num,by omega,by rw[HS.o,if_neg HM.o];exact H.o.1,H.o.2⟩
        case measure=>simp[intOf];omega
      . have HM:Kq (q=p):=qh aif;go_wp2_with (at_builtin;refine wpList_append_own _ rfl _ _ 22 rfl w1.heap.size 3 i0 (J 0) 1 8 Tryz.underlying22 HI.o.1 HI.o.2.1 HI.o.2.2.1 HI.o.2.2.2 rfl ahG _ _ _ rfl (I.alloc _) ⟨wr.heap.size,0,none⟩ 1 1 (encI k) rfl rfl (cell_one_new _ _ _) (ke _) ?c3 ?c4 ?c5 ?_);case c3=>unfold maxLen;omega
        case c4=>omega
        case c5=>simp;omega
        intro v' w' MB Mw OA;have HN:=qh (And.intro MB Mw);clear MB Mw OA I;go_wp2;go_roundw;case rel=>exact⟨k+1,by go_num,by omega,by rw[HS.o,if_pos HM.o,iK,List.length_append];exact HN.o.1,(H.o.2.alloc J0 _).grown HN.o.2 ahJ (λj hj=>(H.o.1.lt j hj).1)⟩
        case measure=>simp[intOf];omega
    . obtain rfl:k=P.length:=by omega
      have H:=qh (And.intro I O);clear I O;go_wp2;go_ret;exact⟨_,rfl,db H.o.1 (by have:=HZ.o;omega),HB.o.trans (H.o.2.mono (by have:=HZ.o;omega))⟩
end
section
open Go.RowKit
theorem Tryz.infoHs:(prog.info? 255).map (λi=>(i.zero,i.size,i.bytes))=some (some (agg #[.pointer none,J 0]),2,16):=by kernel_rfl
theorem Tryz.infoHr:(prog.info? 249).map (λi=>(i.zero,i.size,i.bytes))=some (some (.pointer none),1,8):=by kernel_rfl
theorem Tryz.infoHl:(prog.info? 252).map (λi=>(i.zero,i.size,i.bytes))=some (some (.slice none 0 0),1,24):=by kernel_rfl
def fY(lb:Nat->Nat)(T:HTr)(t c:Nat):List Value:=(List.range c).flatMap λk=>[pointer (some ⟨lb (T.pl t k),0,none⟩),J (T.sl t k)]
def jm(lb:Nat->Nat)(T:HTr)(t c:Nat):fY lb T t (c+1)=fY lb T t c++[pointer (some ⟨lb (T.pl t c),0,none⟩),J (T.sl t c)]:=by unfold fY;rw[List.range_succ,List.flatMap_append];simp
def gY(lb:Nat->Nat)(k:Nat):List Value:=(List.range k).map λv=> pointer (some ⟨lb v,0,none⟩)
def tv(lb:Nat->Nat)(k:Nat):gY lb (k+1)=gY lb k++[pointer (some ⟨lb k,0,none⟩)]:=by unfold gY;rw[List.range_succ,List.map_append];rfl
end
section
open Go.RowKit
def uI(bud:Int)(vR vL:Value)(q n:Nat):Array Value:=#[J bud,vR,vL,slice (some ⟨q,0,none⟩) n n]
def TBr(l a:Nat)(B0:Nat->Prop)(w:World)(b:Nat)(P T:List Int)(k:Nat)(vR:Value):Prop:=
 (ay P k=[]/\ic B0 w b P T)\/∃B',eM B' w b P T/\(∀i,B' i->i≠l/\i≠a/\i<w.heap.size)/\∀g,vR.ownBlock=some g->¬B' g
structure NwR(w5 wr:World)(l b a g q:Nat)(bud:Int)(P T:List Int)(tr:HTr)(B0:Nat->Prop)(k:Nat)(vR:Value)(lb qb:Nat->Nat)(s:Ar):Prop where
 tn:aa [l,b,a] w5 wr
 blk:Blk wr l 247 (uI bud vR (.slice none 0 0) q tr.n)
 own:wr.ownsRow w5.heap.size 249 1 vR k (gY lb k)
 ar:aB wr a g s
 cat:s.W=dt (hm0 tr).W k
 room:s=⟨s.W,s.room,0,0,0,false⟩/\∀v,v<tr.np->(dt (hm0 tr).W v).length+(2*tr.nv v+1)<=s.room
 rk:∀v,v<k->Blk wr (lb v) 319 #[↑a,int i64 ((dt (hm0 tr).W v).length+1),slice (some ⟨qb v,0,none⟩) (tr.nv v) (tr.nv v)]
 rs:∀v,v<k->dy wr (qb v) (List.replicate (tr.nv v) Sp.zero)
 lo:∀v,v<k->w5.heap.size<=lb v/\w5.heap.size<=qb v/\vR.ownBlock≠some (lb v)/\vR.ownBlock≠some (qb v)
 ne:∀v u,v<k->u<k->lb v≠qb u
 inj:∀v u,v<k->u<k->qb v=qb u->v=u
 tab:TBr l a B0 wr b P T k vR
def aa.grownByH{row:Option Nat}(h:w.grownBy w' row):aa row.toList w w':=
 ⟨h.os,h.tape,h.output,h.size,λi hi hn=>h.block i hi aiw⟩
def vj(lb:Nat->Nat)(x:Nat):∀k,gY (aX lb k x) k=gY lb k:=λk=>by
 unfold gY
 refine List.map_congr_left λv O=>?_
 rw[aY _ _ (by have:=List.mem_range.1 O;omega)]
section
variable{wr:World}{l a g q:Nat}{tr:HTr}{lb qb:Nat->Nat}{s:Ar}
def NwR.move(h:NwR w5 wr l b a g q bud P T tr B0 k vR lb qb s)(t:aa [b] wr w')(I:b<w5.heap.size)(V:b≠l)(H:b≠a)(hg:b≠g)(Y:TBr l a B0 w' b P T k vR):NwR w5 w' l b a g q bud P T tr B0 k vR lb qb s:=by
 refine⟨h.tn.trans (t.mono ahF),t.blk h.blk (by simpa using λe=>V e.symm),aa.own h.own t (λx hx=>?_),h.ar.turns t (by simpa using λe=>H e.symm) (by simpa using λe=>hg e.symm),h.cat,h.room,λv O=>t.blk (h.rk v O) ?_,λv O=>(h.rs v O).turns t ?_,h.lo,h.ne,h.inj,Y⟩;.have:=(h.own.lt x hx).1;simp;omega
 .have:=(h.lo v O).1;simp;omega
 .have:=(h.lo v O).2.1;simp;omega
def TBr.turns0(h:TBr l a B0 wr b P T k vR)(t:aa [] wr w'):TBr l a B0 w' b P T k vR:=by
 rcases h with⟨H,h1⟩|⟨I,H,h1,O⟩
 .exact .inl ⟨H,h1.turns t ahF⟩
 .exact .inr ⟨I,H.turns t ahF,λi hi=>⟨(h1 i hi).1,(h1 i hi).2.1,Nat.lt_of_lt_of_le (h1 i hi).2.2 t.size⟩,O⟩
def NwR.below(h:NwR w5 wr l b a g q bud P T tr B0 k vR lb qb s)(t:Below wr.heap.size wr w')(I:b<w5.heap.size)(O:b≠l)(H:b≠a)(hg:b≠g):NwR w5 w' l b a g q bud P T tr B0 k vR lb qb s:=
 h.move (aa.of_below t) I O H hg (h.tab.turns0 (aa.of_below t))
def CB(l a:Nat)(w:World)(b:Nat)(P T:List Int)(vR:Value):Prop:=∃B',eM B' w b P T/\(∀i,B' i->i≠l/\i≠a/\i<w.heap.size)/\∀g,vR.ownBlock=some g->¬B' g
def NwR.mates(h:NwR w5 wr l b a g q bud P T tr B0 k vR lb qb s)(hc:a8 P T=0)(I:b<w5.heap.size)(hl:b≠l)(ha:b≠a)(hg:b≠g)(V:∀i,B0 i->i≠l/\i≠a/\i<w5.heap.size)(Y:(ac P)[j]? =some x):E 138 #[↑b,J j] wr λe w'=>e= returned (J ((T.count x:Nat):Int))/\NwR w5 w' l b a g q bud P T tr B0 k vR lb qb s/\CB l a w' b P T vR/\aa [b] wr w':=by
  have KD:=h.blk.lt;have M6:=h.ar.blk.lt;rcases h.tab with⟨_,t0⟩|tf
  . refine(Bu B0 wr b P T hc t0 Y).mono ?_;rintro e w' ⟨O,ht,tn⟩;have hs:=h.tn.size
    have F:CB l a w' b P T vR:=⟨_,ht.lt,λi hi=>by
      rcases hi.1 with H|H
      . have:=V i H;exact⟨this.1,this.2.1,hi.2⟩
      . exact⟨by omega,by omega,hi.2⟩,λg' M' hB=>by
      have:=h.own.lt g' M';rcases hB.1 with H|H
      . have:=(V _ H).2.2;omega
      . omega⟩
    exact⟨O,h.move tn I hl ha hg (.inr F),F,tn⟩
  . obtain⟨B',t1,t2,t3⟩:=tf;refine(Bt wr b P T t1.f Y).mono ?_;rintro e w' ⟨O,rfl⟩;exact⟨O,h,⟨B',t1,t2,t3⟩,aa.refl _ _⟩
def NwR.step{w2 w3 w4:World}{l' q' Ks I:Nat}(h:NwR w5 w2 l b a g q bud P T tr B0 k (.slice A k cap) lb qb s)(hT:CB l a w2 b P T (.slice A k cap)\/(ay P (k+1)=[]/\ic B0 w2 b P T))(h0:∀i,B0 i->i≠l/\i≠a/\i<w5.heap.size)(MQ:l<w5.heap.size)(SP:a<w5.heap.size)(Re:g<w5.heap.size)(Vr:l≠a)(Yn:l≠g){s':Ar}(Lv:s'={s with W:=s.W++List.replicate (2*tr.nv k+1) 0})(V:cW w3 l' a g q' (s.W.length+1) ⟨s',List.replicate (tr.nv k) Sp.zero⟩)(Lp:w2.heap.size<=l')(Pb:w2.heap.size<=q')(t3:aa [a] w2 w3)(h4:w4.ownsRow w5.heap.size 249 1 (slice (some ⟨I,0,none⟩) (k+1) Ks) (k+1) (gY lb k++[pointer (some ⟨l',0,none⟩)]))(hg:(w3.alloc o).grownBy w4 (Value.slice A k cap).ownBlock)(Kj:(Value.slice A k cap).ownBlock=some I\/I=(w3.alloc o).heap.size):NwR w5 (w4.setCell ⟨l,1,none⟩ (slice (some ⟨I,0,none⟩) (k+1) Ks)) l b a g q bud P T tr B0 (k+1) (slice (some ⟨I,0,none⟩) (k+1) Ks) (aX lb k l') (aX qb k q') s':=by
  have LJ:∀x,(Value.slice A k cap).ownBlock=some x->w5.heap.size<=x/\x<w2.heap.size:=λx hx=>h.own.lt x hx;have tg:aa (Value.slice A k cap).ownBlock.toList (w3.alloc o) w4:=aa.grownByH hg;have nS:∀x,(Value.slice A k cap).ownBlock≠some x->x∉(Value.slice A k cap).ownBlock.toList:=λx hx hm=>hx aif;have Kp:w2.heap.size<=w3.heap.size:=t3.size;have LL:w3.heap.size+1<=w4.heap.size:=by have:=tg.size;simpa using this
  have ZS:w5.heap.size<=w2.heap.size:=h.tn.size;have MP:l'<w3.heap.size:=V.lk.lt;have YM:q'<w3.heap.size:=V.sp.lt;have Vf:w5.heap.size<=I:=(h4.lt I rfl).1;have ts:aa [l] w4 (w4.setCell ⟨l,1,none⟩ (slice (some ⟨I,0,none⟩) (k+1) Ks)):=(aa.refl _ _).setCell (.inl ahF) _
  have RS:aa (l :: (Value.slice A k cap).ownBlock.toList) w3 (w4.setCell ⟨l,1,none⟩ (slice (some ⟨I,0,none⟩) (k+1) Ks)):=
    (((aa.refl _ _).alloc o).trans (tg.mono λi hi=>List.mem_cons_of_mem _ hi)).trans (ts.mono ahF)
  have QA:aa (a :: l :: (Value.slice A k cap).ownBlock.toList) w2 (w4.setCell ⟨l,1,none⟩ (slice (some ⟨I,0,none⟩) (k+1) Ks)):=
    (t3.mono ahF).trans (RS.mono λi hi=>List.mem_cons_of_mem _ hi)
  have hA:(Value.slice A k cap).ownBlock≠some a:=λe=>by have:=LJ a e;omega
  have hL:(Value.slice A k cap).ownBlock≠some l:=λe=>by have:=LJ l e;omega
  have hG:(Value.slice A k cap).ownBlock≠some g:=λe=>by have:=LJ g e;omega
  have UO:(Value.slice A k cap).ownBlock≠some l':=λe=>by have:=LJ l' e;omega
  have UU:(Value.slice A k cap).ownBlock≠some q':=λe=>by have:=LJ q' e;omega
  have Qv:∀x,x≠l->(Value.slice A k cap).ownBlock≠some x->x∉l :: (Value.slice A k cap).ownBlock.toList:=λx h1 h2 hm=>by
    rcases List.mem_cons.1 hm with e|e
    . exact h1 e
    . exact nS x h2 e
  have Wd:∀x,x≠a->x≠l->(Value.slice A k cap).ownBlock≠some x->x∉a :: l :: (Value.slice A k cap).ownBlock.toList:=λx h0 h1 h2 hm=>by
    rcases List.mem_cons.1 hm with e|e
    . exact h0 e
    . exact Qv x h1 h2 e
  have Oo:∀x,x<w3.heap.size->(Value.slice A k cap).ownBlock≠some x->I≠x:=λx h1 h2 e=>by
    subst e;rcases Kj with e|e
    . exact h2 e
    . have e9:(w3.alloc o).heap.size=w3.heap.size+1:=(by simp);omega
  have Qu:∀v,v<k->lb v<w2.heap.size/\qb v<w2.heap.size:=λv O=>⟨(h.rk v O).lt,(h.rs v O).lt⟩;have U8:s.W.length=(dt (hm0 tr).W k).length:=by rw[h.cat]
  subst Lv;refine⟨?_,?_,?_,?_,?_,⟨congrArg (λz:Ar=>{z with W:=s.W++List.replicate (2*tr.nv k+1) 0}) h.room.1,h.room.2⟩,λv O=>?_,λv O=>?_,λv O=>?_,λv u O hu=>?_,λv u O hu e=>?_,?_⟩
  . refine((h.tn.mono (T:=l :: b :: a :: (Value.slice A k cap).ownBlock.toList) ahF).trans (QA.mono λi hi=>?_)).fresh λi hi=>?_
    . rcases List.mem_cons.1 hi with e|hi
      . simp[e]
      . rcases List.mem_cons.1 hi with e|hi
        . simp[e]
        . exact List.mem_cons_of_mem _ (List.mem_cons_of_mem _ (List.mem_cons_of_mem _ hi))
    . rcases List.mem_cons.1 hi with e|hi
      . exact .inl (by simp[e])
      . rcases List.mem_cons.1 hi with e|hi
        . exact .inl (by simp[e])
        . rcases List.mem_cons.1 hi with e|hi
          . exact .inl (by simp[e])
          . exact .inr (LJ i ah8).1
  . exact(tg.blk ((t3.blk h.blk (by simpa using Vr)).alloc o) (nS l hL)).set_ 1 _
  . rw[tv,aW,vj]
    exact aa.own h4 ts (λx hx=>by
      injection hx with hx;subst hx
      simp;omega)
  . exact V.ar.turns RS (Qv a (λe=>Vr e.symm) hA) (Qv g (λe=>Yn e.symm) hG)
  . show s.W++_=dt (hm0 tr).W k++(hm0 tr).W k;rw[h.cat];rfl
  . by_cases e:v=k;. subst e;rw[aW,aW,<-U8];have:=V.lk;simp only[List.length_replicate]at this;exact RS.blk this (Qv l' ahE UO)
    . have KW:v<k:=(by omega);rw[aY _ _ e,aY _ _ e];have h1:=h.lo v KW;exact QA.blk (h.rk v KW) (Wd _ ahE ahE h1.2.2.1)
  . by_cases e:v=k;. subst e;rw[aW];exact V.sp.turns RS (Qv q' ahE UU)
    . have KW:v<k:=(by omega);rw[aY _ _ e];have h1:=h.lo v KW;exact(h.rs v KW).turns QA (Wd _ ahE ahE h1.2.2.2)
  . by_cases e:v=k
    . subst e;rw[aW,aW];refine⟨by omega,by omega,λe=>?_,λe=>?_⟩;. injection e with e;exact Oo l' MP UO e
      . injection e with e;exact Oo q' YM UU e
    . have KW:v<k:=(by omega);rw[aY _ _ e,aY _ _ e];have h1:=h.lo v KW;have h2:=Qu v KW;refine⟨h1.1,h1.2.1,λe=>?_,λe=>?_⟩;. injection e with e;exact Oo _ ahE h1.2.2.1 e
      . injection e with e;exact Oo _ ahE h1.2.2.2 e
  . by_cases e:v=k
    . subst e;rw[aW];by_cases H:u=v;. subst H;rw[aW];exact V.lq
      . rw[aY _ _ H];have:=Qu u ahE;omega
    . rw[aY _ _ e];by_cases H:u=k;. subst H;rw[aW];have:=Qu v ahE;omega
      . rw[aY _ _ H];exact h.ne v u ahE ahE
  . by_cases e1:v=k
    . by_cases H:u=k;. rw[e1,H]
      . rw[e1,aW,aY _ _ H]at e;have:=Qu u ahE;omega
    . by_cases H:u=k;. rw[H,aW,aY _ _ e1]at e;have:=Qu v ahE;omega
      . rw[aY _ _ e1,aY _ _ H]at e;exact h.inj v u ahE ahE e
  . rcases hT with⟨B',k1,k2,k3⟩|⟨k1,k2⟩
    . refine .inr ⟨B',k1.turns QA λi hi Y=>?_,λi Y=>⟨(k2 i Y).1,(k2 i Y).2.1,?_⟩,λx hx Y=>?_⟩
      . have:=k2 i Y;simp at hi;rcases hi with e|e|e
        . exact this.2.1 e
        . exact this.1 e
        . exact k3 i e Y
      . have:=(k2 i Y).2.2;have:=ts.size;omega
      . injection hx with hx;subst hx;rcases Kj with e|e
        . exact k3 _ e Y
        . have:=(k2 _ Y).2.2;rw[e]at this;simp at this;omega
    . refine .inl ⟨k1,k2.turns QA λi hi Y=>?_⟩;have:=h0 i Y;simp at hi;rcases hi with e|e|e
      . omega
      . omega
      . have:=(LJ i e).1;omega
end
end
section
open Go.RowKit
def iA(ub uk:Nat->Nat)(D m:Nat):List Value:=(List.range m).map λt=> slice (some ⟨ub t,0,none⟩) D (uk t)
def tC(ub uk:Nat->Nat)(D m:Nat):iA ub uk D (m+1)=iA ub uk D m++[slice (some ⟨ub m,0,none⟩) D (uk m)]:=by unfold iA;rw[List.range_succ,List.map_append];rfl
def vr(ub uk:Nat->Nat)(D x y:Nat):∀m,iA (aX ub m x) (aX uk m y) D m=iA ub uk D m:=λm=>by
 unfold iA
 refine List.map_congr_left λv O=>?_
 have:=List.mem_range.1 O
 rw[aY _ _ ahE,aY _ _ ahE]
def mB(lb:Nat->Nat)(T:HTr)(t:Nat):∀c,(fY lb T t c).length=c*2
 |0=>rfl
 |c+1=>by rw[jm,List.length_append,mB lb T t c];show c*2+2=_;omega
def jR(lb:Nat->Nat)(T:HTr)(t:Nat):∀c k,k<c->(fY lb T t c)[k*2]? =some (pointer (some ⟨lb (T.pl t k),0,none⟩))/\(fY lb T t c)[k*2+1]? =some (J (T.sl t k))
 |0,k,h=>by omega
 |c+1,k,h=>by
  have H:=mB lb T t c;rw[jm];by_cases e:k=c;.subst e;rw[List.getElem?_append_right ahE,List.getElem?_append_right ahE,H,Nat.sub_self,show k*2+1-k*2=1 by omega];exact abH
  .rw[List.getElem?_append_left ahE,List.getElem?_append_left ahE];exact jR lb T t c k ahE
def oE(lb:Nat->Nat)(n v:Nat)(h:v<n):(gY lb n)[v]? =some (pointer (some ⟨lb v,0,none⟩)):=by unfold gY;simp[h]
def vp(ub uk:Nat->Nat)(D m t:Nat)(h:t<m):(iA ub uk D m)[t]? =some (slice (some ⟨ub t,0,none⟩) D (uk t)):=by unfold iA;simp[h]
structure NwL(w6 wl:World)(l q:Nat)(bud:Int)(tr:HTr)(vR:Value)(lb:Nat->Nat)(m:Nat)(vL:Value)(ub uk:Nat->Nat):Prop where
 tn:aa [l] w6 wl
 blk:Blk wl l 247 (uI bud vR vL q tr.n)
 own:wl.ownsRow w6.heap.size 252 1 vL m (iA ub uk tr.D m)
 rs:∀t,t<m->wl.ownsRow w6.heap.size 255 2 (slice (some ⟨ub t,0,none⟩) tr.D (uk t)) tr.D (fY lb tr t tr.D)
 lo:∀t,t<m->vL.ownBlock≠some (ub t)
section
variable{w6 wl w8 w9:World}{l a g q:Nat}{tr:HTr}{m:Nat}{lb qb ub uk:Nat->Nat}{s:Ar}
def NwL.below{vL:Value}(h:NwL w6 wl l q bud tr vR lb m vL ub uk)(k:Below wl.heap.size wl w8):NwL w6 w8 l q bud tr vR lb m vL ub uk:=
 have t:aa [] wl w8:=aa.of_below k
 ⟨h.tn.trans (t.mono ahF),t.blk h.blk ahF,aa.own h.own t ahF,λu H=>aa.own (h.rs u H) t ahF,h.lo⟩
def NwL.step{nb cv O Y:Nat}(h:NwL w6 wl l q bud tr vR lb m (.slice A m cap) ub uk)(Qe:l<w6.heap.size)(hd:1<=tr.D)(I:Below wl.heap.size wl w8)(h8:w8.ownsRow wl.heap.size 255 2 (slice (some ⟨nb,0,none⟩) tr.D cv) tr.D (fY lb tr m tr.D))(h9:w9.ownsRow w6.heap.size 252 1 (slice (some ⟨O,0,none⟩) (m+1) Y) (m+1) (iA ub uk tr.D m++[slice (some ⟨nb,0,none⟩) tr.D cv]))(hg:(w8.alloc o).grownBy w9 (Value.slice A m cap).ownBlock)(NW:(Value.slice A m cap).ownBlock=some O\/O=(w8.alloc o).heap.size):NwL w6 (w9.setCell ⟨l,2,none⟩ (slice (some ⟨O,0,none⟩) (m+1) Y)) l q bud tr vR lb (m+1) (slice (some ⟨O,0,none⟩) (m+1) Y) (aX ub m nb) (aX uk m cv):=by
  have SM:=h.below I;have LJ:∀x,(Value.slice A m cap).ownBlock=some x->w6.heap.size<=x/\x<wl.heap.size:=λx H=>h.own.lt x H;have tg:aa (Value.slice A m cap).ownBlock.toList (w8.alloc o) w9:=aa.grownByH hg;have nS:∀x,(Value.slice A m cap).ownBlock≠some x->x∉(Value.slice A m cap).ownBlock.toList:=λx H hm=>H aif;have YP:wl.heap.size<=w8.heap.size:=I.size;have UK:w6.heap.size<=wl.heap.size:=h.tn.size;have ab:w6.heap.size<=O:=(h9.lt O rfl).1;have Me:=h8.lt nb rfl;have hL:(Value.slice A m cap).ownBlock≠some l:=λe=>by have:=LJ l e;omega
  have US:(Value.slice A m cap).ownBlock≠some nb:=λe=>by have:=LJ nb e;omega
  have ts:aa [l] w9 (w9.setCell ⟨l,2,none⟩ (slice (some ⟨O,0,none⟩) (m+1) Y)):=(aa.refl _ _).setCell (.inl ahF) _
  have TO:aa (l :: (Value.slice A m cap).ownBlock.toList) w8 (w9.setCell ⟨l,2,none⟩ (slice (some ⟨O,0,none⟩) (m+1) Y)):=
    (((aa.refl _ _).alloc o).trans (tg.mono λi hi=>List.mem_cons_of_mem _ hi)).trans (ts.mono ahF)
  have nF:∀x,x≠l->(Value.slice A m cap).ownBlock≠some x->x∉l :: (Value.slice A m cap).ownBlock.toList:=λx h1 h2 hm=>by
    rcases List.mem_cons.1 hm with e|e
    . exact h1 e
    . exact nS x h2 e
  have PV:∀x,x<w8.heap.size->(Value.slice A m cap).ownBlock≠some x->O≠x:=λx h1 h2 e=>by
    subst e;rcases NW with e|e
    . exact h2 e
    . have e9:(w8.alloc o).heap.size=w8.heap.size+1:=(by simp);omega
  refine⟨?_,?_,?_,λt ht=>?_,λt ht=>?_⟩
  . refine((SM.tn.mono (T:=l :: (Value.slice A m cap).ownBlock.toList) ahF).trans TO).fresh λi hi=>?_;rcases List.mem_cons.1 hi with e|e
    . exact .inl (by simp[e])
    . exact .inr (LJ i ahT).1
  . exact(tg.blk (SM.blk.alloc o) (nS l hL)).set_ 2 _
  . rw[tC,aW,aW,vr]
    exact aa.own h9 ts (λx H=>by
      injection H with H;subst H
      simp;omega)
  . by_cases e:t=m;. subst e;rw[aW,aW];refine aa.own (db h8 UK) TO λx H=>?_;injection H with H;subst H;exact nF _ (by have:=Me.1;show nb≠l;omega) US
    . have V:t<m:=(by omega);rw[aY _ _ e,aY _ _ e];refine aa.own (SM.rs t V) TO λx H=>?_;injection H with H;subst H;have:=((h.rs t V).lt (ub t) rfl).1;exact nF _ (by show ub t≠l;omega) (h.lo t V)
  . by_cases e:t=m;. subst e;rw[aW];intro e;injection e with e;exact PV nb Me.2 US e
    . have V:t<m:=(by omega);rw[aY _ _ e];intro e;injection e with e;have:=((h.rs t V).lt (ub t) rfl).2;exact PV _ ahE (h.lo t V) e
def GL(l a g q:Nat)(lb qb:Nat->Nat)(bR kR bL kL:Nat)(ub uk:Nat->Nat):Hx:=⟨l,a,g,q,lb,qb,bR,0,kR,bL,0,kL,ub,λ_=>0,uk⟩
def hxB(l bR bL:Nat)(lb ub:Nat->Nat)(T:HTr)(i:Nat):Prop:=i=l\/i=bR\/i=bL\/(∃t,t<T.n/\i=ub t)\/∃v,v<T.np/\i=lb v
def Jb{bR kR bL kL lo:Nat}(hN:NwR w5 w6 l b a g q bud P T tr B0 tr.np (slice (some ⟨bR,0,none⟩) tr.np kR) lb qb s)(I:NwL w6 wl l q bud tr (slice (some ⟨bR,0,none⟩) tr.np kR) lb tr.n (slice (some ⟨bL,0,none⟩) tr.n kL) ub uk)(hq:dy w6 q (List.replicate tr.n Sp.zero))(mP:tr.Ok)(h5:tr.D<=5)(hn:tr.n<=32)(hp:tr.np<=32)(hl:lo<=l/\l<w5.heap.size)(ad:lo<=q/\q<w5.heap.size)(ha:a<lo)(hg:g<lo)(ab:l≠q):aU (hxB l bR bL lb ub tr) wl (GL l a g q lb qb bR kR bL kL ub uk) tr bud s (hm0 tr)/\∀i,hxB l bR bL lb ub tr i->lo<=i:=by
  have ZT:=hN.tn.size;have UK:=I.tn.size;have Z7:=hN.own.lt bR rfl;have Z4:=I.own.lt bL rfl;have OG:∀t,t<tr.n->w6.heap.size<=ub t/\ub t<wl.heap.size:=λt ht=>(I.rs t ht).lt (ub t) rfl;have Md:∀v,v<tr.np->lb v<w6.heap.size/\qb v<w6.heap.size:=λv O=>⟨(hN.rk v O).lt,(hN.rs v O).lt⟩;have V:∀v,v<tr.np->w5.heap.size<=lb v/\w5.heap.size<=qb v/\bR≠lb v/\bR≠qb v:=λv O=>by obtain⟨a1,a2,a3,a4⟩:=hN.lo v O;exact⟨a1,a2,λe=>a3 (by rw[<-e];rfl),λe=>a4 (by rw[<-e];rfl)⟩
  have hd:=mP.d1;have t:=I.tn;have UT:∀v,((hm0 tr).P v).length=tr.nv v:=λv=>by simp[hm0]
  have XU:∀v,((hm0 tr).W v).length=2*tr.nv v+1:=λv=>by simp[hm0]
  have Yg:tr.np<=kR:=by
    rcases hN.own.2 with⟨e,_⟩|⟨_,_,_,e,_,_,h1,_⟩
    . simp at e
    . injection e with _ _ e;omega
  have Yf:tr.n<=kL:=by
    rcases I.own.2 with⟨e,_⟩|⟨_,_,_,e,_,_,h1,_⟩
    . simp at e
    . injection e with _ _ e;omega
  have YW:∀u,u<tr.n->tr.D<=uk u:=λu h=>by
    rcases(I.rs u h).2 with⟨e,_⟩|⟨_,_,_,e,_,_,h1,_⟩
    . simp at e
    . injection e with _ _ e;omega
  refine⟨⟨⟨.inl rfl,.inr (.inl rfl),.inr (.inr (.inl rfl)),λu h=> .inr (.inr (.inr (.inl ⟨u,h,rfl⟩))),λv O=> .inr (.inr (.inr (.inr ⟨v,O,rfl⟩))),?_,?_,?_,λv O=>?_,λv O=>?_,λv O=>?_,hN.inj,hn,hp,h5,mP.nv32,Yg,Yf,YW⟩,
    ?_,hN.cat,λv _=>XU v,I.blk,by simp[hm0],?_,λv O=>?_,λv _=>UT v,λv O=>?_,λv O=>?_,λu h=>?_,λu k h hk=>?_,λu k h hk=>?_,λi hi=>?_⟩,λi hi=>?_⟩
  . intro i hi hB
    have Y:i=a\/i=g\/i=q\/∃v,v<tr.np/\qb v=i:=by
      unfold mvL GL at hi;rcases List.mem_append.1 hi with hi|hi
      . simp at hi;omega
      . obtain⟨v,O,e⟩:=List.mem_map.1 hi;exact .inr (.inr (.inr ⟨v,List.mem_range.1 O,e⟩))
    rcases hB with e|e|e|⟨u,h,e⟩|⟨u,h,e⟩
    . rcases Y with H|H|H|⟨v,O,H⟩
      . omega
      . omega
      . omega
      . have:=V v O;omega
    . rcases Y with H|H|H|⟨v,O,H⟩
      . omega
      . omega
      . omega
      . have:=V v O;omega
    . rcases Y with H|H|H|⟨v,O,H⟩
      . omega
      . omega
      . omega
      . have:=Md v O;omega
    . have:=OG u h;rcases Y with H|H|H|⟨v,O,H⟩
      . omega
      . omega
      . omega
      . have:=Md v O;omega
    . have:=V u h;rcases Y with H|H|H|⟨v,O,H⟩
      . omega
      . omega
      . omega
      . exact hN.ne u v h O ahE
  . show q≠a;omega
  . show q≠g;omega
  . show qb v≠a;have:=V v O;omega
  . show qb v≠g;have:=V v O;omega
  . show qb v≠q;have:=V v O;omega
  . exact hN.ar.turns t ahJ ahJ
  . exact hq.turns t ahJ
  . show Blk wl (lb v) _ #[_,_,.slice _ ((hm0 tr).P v).length ((hm0 tr).P v).length];rw[UT];exact t.blk (hN.rk v O) (by have:=V v O;simp;omega)
  . exact(hN.rs v O).turns t (by have:=V v O;simp;omega)
  . have c:=hN.own.cellAt v ahE;rw[oE _ _ _ O]at c;show wl.cell? ⟨bR,0+v,none⟩=_;rw[Nat.zero_add];exact t.cell c ahJ
  . have c:=I.own.cellAt u ahE;rw[vp _ _ _ _ _ h]at c;show wl.cell? ⟨bL,0+u,none⟩=_;rw[Nat.zero_add];exact c
  . have c:=(I.rs u h).cellAt (k*2) ahE;rw[(jR lb tr u tr.D k hk).1]at c;show wl.cell? ⟨ub u,0+k*2,none⟩=_;rw[Nat.zero_add];exact c
  . have c:=(I.rs u h).cellAt (k*2+1) ahE;rw[(jR lb tr u tr.D k hk).2]at c;show wl.cell? ⟨ub u,0+k*2+1,none⟩=_;rw[Nat.zero_add];exact c
  . rcases hi with e|e|e|⟨u,h,e⟩|⟨u,h,e⟩
    . omega
    . omega
    . omega
    . have:=OG u h;omega
    . have:=Md u h;omega
  . rcases hi with e|e|e|⟨u,h,e⟩|⟨u,h,e⟩
    . omega
    . omega
    . omega
    . have:=OG u h;omega
    . have:=V u h;omega
end
end
section
open Go.RowKit
def sE(I:k<P.length):chL P k=[]↔eV P k=true:=by refine⟨λh=>?_,wL⟩;unfold eV;rw[decide_eq_true_eq];refine⟨by omega,by omega,λhm=>?_⟩;obtain⟨n,H⟩:=List.getElem?_of_mem hm;have:=By H;rw[h]at this;cases this
def Dp(O:k<P.length)(h:eV P k=true):(ac P)[(ay P k).length]? =some (k:Int):=by
 have I:∀d,(ay P (k+1+d))[(ay P k).length]? =some (k:Int)/\(ay P k).length<(ay P (k+1+d)).length:=by
  intro d;induction d with
  |zero=>have e:ay P (k+1)=ay P k++[(k:Int)]:=(by rw[eG,if_pos h]);show(ay P (k+1))[_]? =_/\_<(ay P (k+1)).length;rw[e];exact⟨by simp,by simp⟩
  |succ d H=>
   show(ay P (k+1+d+1))[_]? =_/\_<(ay P (k+1+d+1)).length;rw[eG P (k+1+d)];split;.exact⟨by rw[List.getElem?_append_left H.2];exact H.1,by simp;omega⟩
   .exact H
 have:=(I (P.length-(k+1))).1;rwa [show k+1+(P.length-(k+1))=P.length by omega]at this
def vf(h:a8 P T=0)(H:k<P.length):1<=nvT P T k/\nvT P T k<=32:=by
 refine⟨?_,(i7 h).nv32 k H⟩;unfold nvT;split;.omega
 .rename_i I;have:=List.length_pos_iff.2 I;omega
def zP(h:a8 P T=0)(I:k<=P.length):(dt (hm0 (cz P T)).W k).length<=2080:=by
 have H:=bi (aQ h).1
 have h1:=qz (W:=(hm0 (cz P T)).W) (b:=65) k λv O=>by
  have:=(vf h (show v<P.length by omega)).2;have e:((hm0 (cz P T)).W v).length=2*nvT P T v+1:=by simp[hm0,cz]
  omega
 omega
def slT(h:a8 P T=0){t:Nat}(I:t<T.length)(a:XAt P T t x)(H:k<(jd P T).toNat):(((cz P T).sl t k:Nat):Int)=slX P T t x k:=by
 have ex:T.getD t 0=x:=bH a.at_;show(((slX P T t (T.getD t 0) k).toNat:Nat):Int)=_;rw[ex];cases k with
 |zero=>
  have:0<=slX P T t x 0:=by show 0<=cI T t;unfold cI;omega
  omega
 |succ k=>obtain⟨v,u,j,_,_,_,_,b5,_⟩:=a.above h H;rw[b5];omega
def FQ(h:a8 P T=0):∀v,v<P.length->(dt (hm0 (cz P T)).W v).length+(2*(cz P T).nv v+1)<=4096:=λv O=>by
 have h1:=zP h (Nat.le_of_lt O)
 have H:(cz P T).nv v<=32:=(vf h O).2
 omega
def BV{a g:Nat}{s:Ar}(h:aB w a g s)(n:Nat)(h1:1<=n)(Y:n<=32)(V:s.W.length+(2*n+1)<=s.room):E 141 #[↑a,J n] w λe w'=>∃l q,e= returned (tuple #[pointer (some ⟨l,0,none⟩),J 0])/\cW w' l a g q (s.W.length+1) ⟨{s with W:=s.W++List.replicate (2*n+1) 0},List.replicate n Sp.zero⟩/\w.heap.size<=l/\w.heap.size<=q/\aa [a] w w':=by
  refine(yy h n).mono ?_;intro e w' hN;have e0:fT s n=0:=by unfold fT;rw[if_neg ahE,if_neg ahE]
  unfold pH at hN;rw[if_pos e0]at hN;obtain⟨l,q,I,H,O⟩:=hN;rw[show(2*(n:Int)+1).toNat=2*n+1 by omega,Int.toNat_natCast]at H;exact⟨l,q,I,H,O⟩
def AE(l:List Int):l.flatMap encI=l.map (Value.int .i64):=by
 induction l with
 |nil=>rfl
 |cons a l h=>rw[List.flatMap_cons,h];rfl
def qA(w:World)(x y:Value)(t:TypeId):∀j u,[x,y][j]? =some u->(w.alloc (cells #[x,y] t)).cell? ((⟨w.heap.size,0,none⟩:Addr).add j)=some u:=by
 intro j u h;match j,h with
 |0,h=>simp at h;subst h;simp[Addr.add,World.cell?_alloc_new]
 |1,h=>simp at h;subst h;simp[Addr.add,World.cell?_alloc_new]
 |n+2,h=>simp at h
end
end Go.Proofs.YtglokdbiggbkjaaGreat
