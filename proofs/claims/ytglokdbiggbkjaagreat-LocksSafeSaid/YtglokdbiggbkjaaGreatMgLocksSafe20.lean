/- Joined texts. -/
import Derived.StillTailTactics
import Derived.IntWalk
import Derived.Deep.RegionHeld3
import Derived.ScopeJumps
import Derived.WalkMore
import Derived.Test.YtglokdbiggbkjaaGreatMgLocksSafe0
import Derived.Test.YtglokdbiggbkjaaGreatMgLocksSafe2
import Derived.Test.YtglokdbiggbkjaaGreatMgLocksSafe12
import Derived.Test.YtglokdbiggbkjaaGreatMgLocksSafe15
import Derived.Test.YtglokdbiggbkjaaGreatMgLocksSafe19
set_option linter.unusedVariables false
set_option linter.unusedSimpArgs false
set_option maxRecDepth 100000
set_option maxHeartbeats 16000000
namespace Go.Proofs.YtglokdbiggbkjaaGreat
section
open Go.RowKit
structure Hx where
 l:Nat
 a:Nat
 g:Nat
 q:Nat
 lb:Nat->Nat
 qb:Nat->Nat
 bR:Nat
 oR:Nat
 kR:Nat
 bL:Nat
 oL:Nat
 kL:Nat
 ub:Nat->Nat
 uo:Nat->Nat
 uk:Nat->Nat
def dk (W:Nat->List Int):Nat->List Int
 |0=>[]
 |n+1=>dk W n++W n
def mvL (x:Hx)(T:HTr):List Nat:=[x.a,x.g,x.q]++(List.range T.np).map x.qb
structure tm (B:Nat->Prop)(x:Hx)(T:HTr):Prop where
 bl:B x.l
 br:B x.bR
 bL:B x.bL
 bu:∀t,t<T.n->B (x.ub t)
 bb:∀v,v<T.np->B (x.lb v)
 nm:∀i∈mvL x T,¬B i
 qa:x.q≠x.a
 qg:x.q≠x.g
 va:∀v,v<T.np->x.qb v≠x.a
 vg:∀v,v<T.np->x.qb v≠x.g
 vq:∀v,v<T.np->x.qb v≠x.q
 inj:∀v u,v<T.np->u<T.np->x.qb v=x.qb u->v=u
 n32:T.n<=32
 p32:T.np<=32
 d5:T.D<=5
 v32:∀v,v<T.np->T.nv v<=32
 kR:T.np<=x.kR
 kL:T.n<=x.kL
 uk:∀t,t<T.n->T.D<=x.uk t
structure aP (B:Nat->Prop)(w:World)(x:Hx)(T:HTr)(bud:Int)(s:Ar)(m:Hm):Prop where
 fx:tm B x T
 ar:aA w x.a x.g s
 cat:s.W=dk m.W T.np
 wl:∀v,v<T.np->(m.W v).length=2*T.nv v+1
 lk:Blk w x.l 247 #[.int .i64 bud,.slice (some ⟨x.bR,x.oR,none⟩) T.np x.kR,.slice (some ⟨x.bL,x.oL,none⟩) T.n x.kL,.slice (some ⟨x.q,0,none⟩) T.n T.n]
 sn:m.S.length=T.n
 ss:dq w x.q m.S
 rk:∀v,v<T.np->Blk w (x.lb v) 319 #[↑x.a,.int .i64 ((dk m.W v).length+1),.slice (some ⟨x.qb v,0,none⟩) (m.P v).length (m.P v).length]
 rn:∀v,v<T.np->(m.P v).length=T.nv v
 rs:∀v,v<T.np->dq w (x.qb v) (m.P v)
 cR:∀v,v<T.np->w.cell? ⟨x.bR,x.oR+v,none⟩=some (.pointer (some ⟨x.lb v,0,none⟩))
 cL:∀t,t<T.n->w.cell? ⟨x.bL,x.oL+t,none⟩=some (.slice (some ⟨x.ub t,x.uo t,none⟩) T.D (x.uk t))
 cP:∀t k,t<T.n->k<T.D->w.cell? ⟨x.ub t,x.uo t+k*2,none⟩=some (.pointer (some ⟨x.lb (T.pl t k),0,none⟩))
 cS:∀t k,t<T.n->k<T.D->w.cell? ⟨x.ub t,x.uo t+k*2+1,none⟩=some (.int .i64 (T.sl t k))
 bd:∀i,B i->i<w.heap.size
theorem aa.cell{S:List Nat}{w w':World}(k:aa S w w'){p:Addr}{u:Value}(h:w.cell? p=some u)(hS:p.block∉S):w'.cell? p=some u:=by exact Jj
theorem rB (W:Nat->List Int)(v:Nat)(X:List Int):∀n,n<=v->dk (aW W v X) n=dk W n
 |0,_=>rfl
 |n+1,h=>by show dk (aW W v X) n++aW W v X n=dk W n++W n;rw[rB W v X n QX,aX _ _ QX]
theorem rA{W W':Nat->List Int}:∀n,(∀v,v<n->(W v).length=(W' v).length)->(dk W n).length=(dk W' n).length
 |0,_=>rfl
 |n+1,h=>by show(dk W n++W n).length=(dk W' n++W' n).length;rw[List.length_append,List.length_append,rA n (λv hv=>h v QX),h n QX]
theorem m5 (W:Nat->List Int)(v:Nat):∀d,∃C,dk W (v+1+d)=dk W v++W v++C/\∀X,dk (aW W v X) (v+1+d)=dk W v++X++C
 |0=>⟨[],by show dk W v++W v=_;simp,λX=>by show dk (aW W v X) v++aW W v X v=_;rw[rB W v X v (Nat.le_refl _),aV];simp⟩
 |d+1=>by
  obtain⟨C,h1,h2⟩:=m5 W v d;refine⟨C++W (v+1+d),?_,λX=>?_⟩;·show dk W (v+1+d)++W (v+1+d)=_;rw[h1];simp
  ·show dk (aW W v X) (v+1+d)++aW W v X (v+1+d)=_;rw[h2,aX _ _ QX];simp
theorem p9{W:Nat->List Int}{b:Nat}:∀n,(∀v,v<n->(W v).length<=b)->(dk W n).length<=n*b
 |0,_=>by simp[dk]
 |n+1,h=>by have h1:=p9 n λv hv=>h v QX;have h2:=h n QX;show(dk W n++W n).length<=(n+1)*b;rw[List.length_append,Nat.add_mul,Nat.one_mul];omega
section
variable{B:Nat->Prop}{w w':World}{x:Hx}{T:HTr}{bud:Int}{s s':Ar}{m:Hm}
theorem tm.mv (f:tm B x T){i:Nat}(h:B i):i∉mvL x T:=λhm=>f.nm i hm h
theorem tm.qbm (_:tm B x T){v:Nat}(hv:v<T.np):x.qb v∈mvL x T:=List.mem_append_right _ (List.mem_map.2 ⟨v,List.mem_range.2 hv,rfl⟩)
theorem tm.lm (f:tm B x T){i:Nat}(h:B i):i≠x.a/\i≠x.g/\i≠x.q/\∀v,v<T.np->i≠x.qb v:=by have:=f.mv h;refine⟨λe=>this (by simp[mvL,e]),λe=>this (by simp[mvL,e]),λe=>this (by simp[mvL,e]),λv hv e=>this (by rw[e];exact f.qbm hv)⟩
theorem aP.turns{S:List Nat}(h:aP B w x T bud s m)(k:aa S w w')(h1:∀i∈S,¬B i)(h2:∀i∈S,i∉mvL x T):aP B w' x T bud s m:=by
 have hB:∀i,B i->i∉S:=λi hb hm=>h1 i hm hb;have hM:∀i,i∈mvL x T->i∉S:=λi hb hm=>h2 i hm hb
 exact⟨h.fx,h.ar.turns k (hM _ (by simp[mvL])) (hM _ (by simp[mvL])),h.cat,h.wl,k.blk h.lk (hB _ h.fx.bl),h.sn,h.ss.turns k (hM _ (by simp[mvL])),λv hv=>k.blk (h.rk v hv) (hB _ (h.fx.bb v hv)),h.rn,λv hv=>(h.rs v hv).turns k (hM _ (h.fx.qbm hv)),
  λv hv=>k.cell (h.cR v hv) (hB _ h.fx.br),λt ht=>k.cell (h.cL t ht) (hB _ h.fx.bL),λt i ht hi=>k.cell (h.cP t i ht hi) (hB _ (h.fx.bu t ht)),λt i ht hi=>k.cell (h.cS t i ht hi) (hB _ (h.fx.bu t ht)),λi hb=>Nat.lt_of_lt_of_le (h.bd i hb) k.size⟩
theorem aP.below (h:aP B w x T bud s m)(k:Below w.heap.size w w'):aP B w' x T bud s m:=h.turns (S:=[]) (aa.of_below k) QY QY
theorem aP.new (h:aP B w x T bud s m):¬B w.heap.size/\w.heap.size∉mvL x T:=by
 refine⟨λhb=>absurd (h.bd _ hb) (Nat.lt_irrefl _),λhm=>?_⟩;unfold mvL at hm;have h1:=h.ar.blk.lt;have h2:=h.ar.wds.lt;have h3:=h.ss.lt;rcases List.mem_append.1 hm with hm|hm
 ·simp at hm;omega
 ·obtain⟨v,hv,e⟩:=List.mem_map.1 hm;have:=(h.rs v (List.mem_range.1 hv)).lt;omega
theorem aP.rg (h:aP B w x T bud s m){v:Nat}(hv:v<T.np):cI w (x.lb v) x.a x.g (x.qb v) ((dk m.W v).length+1) ⟨s,m.P v⟩:=by have f:=h.fx;obtain⟨e1,e2,e3,e4⟩:=f.lm (f.bb v hv);exact⟨h.ar,h.rk v hv,h.rs v hv,e1,e2,e4 v hv,f.va v hv,f.vg v hv,by show(m.P v).length<=32;rw[h.rn v hv];exact f.v32 v hv⟩
theorem aP.rgTurn (h:aP B w x T bud s m) {v:Nat} (hv:v<T.np) {X:List Int} {P':List Sp} (hr:cI w' (x.lb v) x.a x.g (x.qb v) ((dk m.W v).length+1) ⟨s',P'⟩) (hc:s'.W=dk (aW m.W v X) T.np) (hX:X.length=2*T.nv v+1) (hP:P'.length=T.nv v) (k:aa [x.a,x.g,x.qb v] w w'):
    aP B w' x T bud s' {m with W:=aW m.W v X,P:=aW m.P v P'}:=by
  have f:=h.fx;have hB:∀i,B i->i∉[x.a,x.g,x.qb v]:=λi hb=>by obtain⟨e1,e2,e3,e4⟩:=f.lm hb;simp[e1,e2,e4 v hv]
  have hq:x.q∉[x.a,x.g,x.qb v]:=by simp only[List.mem_cons,List.not_mem_nil,or_false,not_or];exact⟨f.qa,f.qg,λe=>f.vq v hv e.symm⟩
  have hl:∀u,(dk (aW m.W v X) u).length=(dk m.W u).length:=λu=>rA u λy _=>by
    by_cases e:y=v;· subst e;rw[aV,hX,h.wl y hv]
    · rw[aX _ _ e]
  refine⟨f,hr.ar,hc,λu hu=>?_,k.blk h.lk (hB _ f.bl),h.sn,h.ss.turns k hq,λu hu=>?_,λu hu=>?_,λu hu=>?_,
    λu hu=>k.cell (h.cR u hu) (hB _ f.br),λt ht=>k.cell (h.cL t ht) (hB _ f.bL),λt i ht hi=>k.cell (h.cP t i ht hi) (hB _ (f.bu t ht)),λt i ht hi=>k.cell (h.cS t i ht hi) (hB _ (f.bu t ht)),λi hb=>Nat.lt_of_lt_of_le (h.bd i hb) k.size⟩
  · show(aW m.W v X u).length=_;by_cases e:u=v;· subst e;rw[aV];exact hX
    · rw[aX _ _ e];exact h.wl u hu
  · show Blk w' (x.lb u) _ #[_,.int .i64 ((dk (aW m.W v X) u).length+1),.slice _ (aW m.P v P' u).length (aW m.P v P' u).length];rw[hl u];by_cases e:u=v;· subst e;rw[aV];exact hr.lk
    · rw[aX _ _ e];exact k.blk (h.rk u hu) (hB _ (f.bb u hu))
  · show(aW m.P v P' u).length=_;by_cases e:u=v;· subst e;rw[aV];exact hP
    · rw[aX _ _ e];exact h.rn u hu
  · show dq w' (x.qb u) (aW m.P v P' u);by_cases e:u=v;· subst e;rw[aV];exact hr.sp
    · rw[aX _ _ e];exact(h.rs u hu).turns k (by simp only[List.mem_cons,List.not_mem_nil,or_false,not_or];exact⟨f.va u hu,f.vg u hu,λe'=>e (f.inj u v hu hv e')⟩)
theorem aP.spTurn (h:aP B w x T bud s m){S':List Sp}(hs:dq w' x.q S')(hl:S'.length=T.n)(k:aa [x.q] w w'):aP B w' x T bud s {m with S:=S'}:=by
 have f:=h.fx;have hB:∀i,B i->i∉[x.q]:=λi hb=>by simp[(f.lm hb).2.2.1]
 exact⟨f,h.ar.turns k (by simpa using λe=>f.qa e.symm) (by simpa using λe=>f.qg e.symm),h.cat,h.wl,k.blk h.lk (hB _ f.bl),hl,hs,λv hv=>k.blk (h.rk v hv) (hB _ (f.bb v hv)),h.rn,λv hv=>(h.rs v hv).turns k (by simpa using f.vq v hv),
  λv hv=>k.cell (h.cR v hv) (hB _ f.br),λt ht=>k.cell (h.cL t ht) (hB _ f.bL),λt i ht hi=>k.cell (h.cP t i ht hi) (hB _ (f.bu t ht)),λt i ht hi=>k.cell (h.cS t i ht hi) (hB _ (f.bu t ht)),λi hb=>Nat.lt_of_lt_of_le (h.bd i hb) k.size⟩
theorem aP.l0 (k:aP B w x T bud s m):w.cell? x.l=some (.int .i64 bud):=k.lk.cell 0
theorem aP.l1 (k:aP B w x T bud s m):w.cell? ⟨x.l,1,none⟩=some (.slice (some ⟨x.bR,x.oR,none⟩) T.np x.kR):=k.lk.cell 1
theorem aP.l2 (k:aP B w x T bud s m):w.cell? ⟨x.l,2,none⟩=some (.slice (some ⟨x.bL,x.oL,none⟩) T.n x.kL):=k.lk.cell 2
theorem aP.l3 (k:aP B w x T bud s m):w.cell? ⟨x.l,3,none⟩=some (.slice (some ⟨x.q,0,none⟩) T.n T.n):=k.lk.cell 3
theorem iV (k:aP B w x T bud s m):Calls Tryz.prog 255 #[↑x.l] w λe w'=>e= .returned (.int .i64 T.n)/\w=w':=by have c5:=k.l3;clear k;go_enter Tryz.func255,Tryz.ntmps255;exact gs
theorem jC (k:aP B w x T bud s m) (i:Int):
    Calls Tryz.prog 253 #[↑x.l,.int .i64 i] w λe w'=>e= .returned (aE (getS m.S i))/\Below w.heap.size w w':=by
  have HN:=k.fx.n32;have hsl:=k.sn;by_cases hok:okI m.S i;· have hp:=dE hok;obtain⟨p,hpp⟩:∃p,p=getS m.S i:=⟨_,rfl⟩;rw[<-hpp]at hp ⊢;have c2:=k.l3;have a0:=k.ss.cell hp 0 _ rfl;have a1:=k.ss.cell hp 1 _ rfl;have a2:=k.ss.cell hp 2 _ rfl;have a3:=k.ss.cell hp 3 _ rfl;simp only[Nat.add_zero]at a0;obtain⟨h0,h1⟩:=hok;rw[hsl]at h1;obtain⟨n,rfl⟩:=Int.eq_ofNat_of_zero_le h0;simp only[Int.toNat_natCast]at a0 a1 a2 a3;have hs1:=k.lk.lt;have hs2:=k.ss.lt;have t2:¬(n:Int)<0:=(by omega);have t3:¬((T.n:Nat):Int)<=(n:Int):=(by omega);have t4:n<T.n:=(by omega);have H:Kq (aP B (w.alloc (.cells #[.int .i64 0,.int .i64 0,.int .i64 0,.int .i64 0] 113)) x T bud s m):=qh (k.below ((Below.refl _ _).alloc (Nat.le_refl _) _));clear k hp hpp h0 h1 hsl;go_enter Tryz.func253,Tryz.ntmps253;go_wp2_with (go_at_call 255;refine(iV H.o).mono ?_;rintro e w' ⟨rfl,rfl⟩);exact bodyPost_ret (results_cell_row Q5 _ _ w.heap.size 113 _ (0,0) _ Q5 (heap_alloc_new w _) Tryz.underlying113 rfl Q0) rfl ⟨rfl,(Below.refl _ _).alloc (Nat.le_refl _) _⟩
  · have H:Kq (aP B (w.alloc (.cells #[.int .i64 0,.int .i64 0,.int .i64 0,.int .i64 0] 113)) x T bud s m):=qh (k.below ((Below.refl _ _).alloc (Nat.le_refl _) _));rw[du hok];unfold okI at hok;rw[hsl]at hok;clear k hsl;by_cases h0:i<0;· go_enter Tryz.func253,Tryz.ntmps253;go_wp2;exact bodyPost_ret (results_cell_row Q5 _ _ w.heap.size 113 _ (0,0) _ Q5 (heap_alloc_new w _) Tryz.underlying113 rfl Q0) rfl ⟨rfl,(Below.refl _ _).alloc (Nat.le_refl _) _⟩
    · have t3:((T.n:Nat):Int)<=i:=(by omega);clear hok;go_enter Tryz.func253,Tryz.ntmps253;go_wp2_with (go_at_call 255;refine(iV H.o).mono ?_;rintro e w' ⟨rfl,rfl⟩);exact bodyPost_ret (results_cell_row Q5 _ _ w.heap.size 113 _ (0,0) _ Q5 (heap_alloc_new w _) Tryz.underlying113 rfl Q0) rfl ⟨rfl,(Below.refl _ _).alloc (Nat.le_refl _) _⟩
end
end
section
open Go.RowKit
theorem fI{α:Type}(f:Nat->α)(v:Nat):aW f v (f v)=f:=by
 funext u;unfold aW;split;·rename_i h;rw[h]
 ·rfl
theorem dJ{S:List Sp}{j:Nat}(h:j<S.length):getS S (j:Int)=sv S j:=by unfold getS sv;rw[if_pos QX,Int.toNat_natCast]
theorem gw{S:List Sp}{j:Nat}(h:j<S.length):S[j]? =some (sv S j):=by unfold sv;rw[List.getD_eq_getElem?_getD,List.getElem?_eq_getElem h];rfl
section
variable{B:Nat->Prop}{w w':World}{x:Hx}{T:HTr}{bud:Int}{s s':Ar}{m:Hm}{v j:Nat}
theorem aP.sub1 (h:aP B w x T bud s m)(hv:v<T.np):∀i∈[x.qb v],i∈mvL x T:=by intro i hi;simp only[List.mem_cons,List.not_mem_nil,or_false]at hi;rw[hi];exact h.fx.qbm hv
theorem aP.sub3 (h:aP B w x T bud s m)(hv:v<T.np):∀i∈[x.a,x.g,x.qb v],i∈mvL x T:=by
 intro i hi;simp only[List.mem_cons,List.not_mem_nil,or_false]at hi;rcases hi with rfl|rfl|rfl
 ·simp[mvL]
 ·simp[mvL]
 ·exact h.fx.qbm hv
theorem aP.spot1 (h:aP B w x T bud s m)(hv:v<T.np)(hj:j<T.nv v):Calls Tryz.prog 257 #[.pointer (some ⟨x.lb v,0,none⟩),.int .i64 j] w λe w'=>e= .returned (aE (m.sp v j))/\Below w.heap.size w w':=by have e:getS (m.P v) (j:Int)=m.sp v j:=dJ (by rw[h.rn v hv];exact hj);rw[<-e];exact oz (h.rg hv) j
theorem aP.put1 (h:aP B w x T bud s m)(hv:v<T.np){P':List Sp}(hr:cI w' (x.lb v) x.a x.g (x.qb v) ((dk m.W v).length+1) ⟨s,P'⟩)(hP:P'.length=T.nv v)(k:aa [x.qb v] w w'):aP B w' x T bud s {m with P:=aW m.P v P'}:=by have:=h.rgTurn hv (X:=m.W v) hr (by rw[fI];exact h.cat) (h.wl v hv) hP (k.mono QY);rw[fI]at this;exact this
def H1 (B:Nat->Prop)(w:World)(x:Hx)(T:HTr)(bud:Int)(s:Ar)(m':Hm)(e:Ending)(w':World):Prop:=∃b,e= .returned (.bool b)/\aP B w' x T bud s m'/\aa (mvL x T) w w'
theorem aP.ask1 (h:aP B w x T bud s m)(hv:v<T.np)(hj:j<T.nv v):Calls Tryz.prog 256 #[.pointer (some ⟨x.lb v,0,none⟩),.int .i64 j] w (H1 B w x T bud s (kr m v j)):=by
 have hl:=h.rn v hv;have hjl:j<(m.P v).length:=by omega
 refine(BT (h.rg hv) j).mono ?_;rintro e w' ⟨rfl,hr,t⟩;refine⟨_,rfl,?_,t.mono (h.sub1 hv)⟩;unfold kr;have e:getS (m.P v) (j:Int)=m.sp v j:=dJ hjl;unfold cY at hr;simp only[e]at hr;by_cases c:(m.sp v j).pc=0;·rw[if_pos ⟨⟨by omega,by show((j:Nat):Int)<(m.P v).length;omega⟩,c⟩]at hr;rw[if_pos c];exact h.put1 hv hr (by simp[hl]) t
 ·rw[if_neg (λh=>c h.2)]at hr;rw[if_neg c];have:=h.put1 hv hr hl t;rw[fI]at this;exact this
theorem aP.wth0 (h:aP B w x T bud s m)(hv:v<T.np)(hj:j<T.nv v)(u c:Int){w':World}(hr:cI w' (x.lb v) x.a x.g (x.qb v) ((dk m.W v).length+1) (gU ⟨s,m.P v⟩ j u c).1)(t:aa [x.qb v] w w'):aP B w' x T bud s (gh m v j u c):=by
 have hl:=h.rn v hv;have hjl:j<(m.P v).length:=by omega
 unfold gh;have e:getS (m.P v) (j:Int)=m.sp v j:=dJ hjl;unfold gU at hr;simp only[e]at hr;by_cases cc:(m.sp v j).pc=10;·rw[if_pos ⟨⟨by omega,by show((j:Nat):Int)<(m.P v).length;omega⟩,cc⟩]at hr;rw[if_pos cc];exact h.put1 hv hr (by simp[hl]) t
 ·rw[if_neg (λh=>cc h.2)]at hr;rw[if_neg cc];have:=h.put1 hv hr hl t;rw[fI]at this;exact this
theorem aP.leave1 (h:aP B w x T bud s m)(hv:v<T.np)(hj:j<T.nv v)(c:Int):Calls Tryz.prog 264 #[.pointer (some ⟨x.lb v,0,none⟩),.int .i64 j,.int .i64 c] w (H1 B w x T bud s (gh m v j 11 c)):=
 (xF (h.rg hv) j c).mono λ_ _ ⟨e,hr,t⟩=>⟨_,e,h.wth0 hv hj 11 c hr t,t.mono (h.sub1 hv)⟩
theorem aP.pass1 (h:aP B w x T bud s m)(hv:v<T.np)(hj:j<T.nv v)(c:Int):Calls Tryz.prog 265 #[.pointer (some ⟨x.lb v,0,none⟩),.int .i64 j,.int .i64 c] w (H1 B w x T bud s (gh m v j 15 c)):=
 (Ba (h.rg hv) j c).mono λ_ _ ⟨e,hr,t⟩=>⟨_,e,h.wth0 hv hj 15 c hr t,t.mono (h.sub1 hv)⟩
theorem RtS.pcO{n:Nat}{W:List Int}{S:List Sp}(r:RtS n W S):∀p∈S,E5 p:=by
 intro p hp;obtain⟨i,hi⟩:=List.getElem?_of_mem hp;have hil:i<S.length:=(List.getElem?_eq_some_iff.1 hi).1;have e:sv S i=p:=by rw[gw hil]at hi;injection hi
 rw[<-e];exact r.i.pcs i (by rw[<-r.len];exact hil)
theorem yk (s:Ar)(t y:Int)(p:Sp):(cQ s t y p).1.W.length=s.W.length:=by
 unfold cQ;split
 ·unfold iC;repeat' split
  all_goals simp only[aw,dI,aM,bE]
 ·unfold eu;repeat' split
  all_goals simp only[aw,gG,aM,bE]
  all_goals (try split)<;>simp only[bE]
def S1 (B:Nat->Prop)(w:World)(x:Hx)(T:HTr)(bud:Int)(s s':Ar)(m':Hm)(b:Bool)(e:Ending)(w':World):Prop:=e= .returned (.bool b)/\aP B w' x T bud s' m'/\s'.ops<=s.ops+1/\aa (mvL x T) w w'
def Ag (s:Ar)(m:Hm)(v j:Nat):Ar:=(cQ s (((dk m.W v).length:Nat)+1) ((j:Int)+1) (m.sp v j)).1
theorem aP.step1 (h:aP B w x T bud s m) (hv:v<T.np) (hj:j<T.nv v) (hr:RtS (T.nv v) (m.W v) (m.P v)) (ho:s.ops+1<=1000000000000):
    Calls Tryz.prog 259 #[.pointer (some ⟨x.lb v,0,none⟩),.int .i64 j] w
      (S1 B w x T bud s (if (m.sp v j).pc=0\/(m.sp v j).pc=10 then s else Ag s m v j) (if (m.sp v j).pc=0\/(m.sp v j).pc=10 then m else dP m v j) (if (m.sp v j).pc=0\/(m.sp v j).pc=10 then false else decide (((dP m v j).sp v j).pc=0\/((dP m v j).sp v j).pc=10))):=by
  have hl:=h.rn v hv;have hjl:j<(m.P v).length:=by omega
  have e0:getS (m.P v) (j:Int)=m.sp v j:=dJ hjl;refine(Bu (h.rg hv) j ho hr.pcO).mono ?_;rintro e w' ⟨rfl,hg,t⟩;unfold lY at hg ⊢;simp only[e0]at hg ⊢;by_cases c:(m.sp v j).pc=0\/(m.sp v j).pc=10
  · rw[if_pos c,if_pos c,if_pos c]
    have nc:¬(okI (m.P v) (j:Int)/\(m.sp v j).pc≠0/\(m.sp v j).pc≠10):=λh=>by
      rcases c with c|c
      · exact h.2.1 c
      · exact h.2.2 c
    rw[if_neg nc]at hg ⊢;refine⟨rfl,?_,by omega,t.mono (h.sub3 hv)⟩;have:=h.rgTurn hv (X:=m.W v) hg (by rw[fI];exact h.cat) (h.wl v hv) hl t;rw[fI,fI]at this;exact this
  · rw[if_neg c,if_neg c,if_neg c];have nc:okI (m.P v) (j:Int)/\(m.sp v j).pc≠0/\(m.sp v j).pc≠10:=⟨⟨by omega,by omega⟩,λe=>c (.inl e),λe=>c (.inr e)⟩;rw[if_pos nc]at hg ⊢;simp only[Int.toNat_natCast]at hg;obtain⟨C,h1,h2⟩:=m5 m.W v (T.np-(v+1));rw[show v+1+(T.np-(v+1))=T.np by omega]at h1 h2
    have hA:(dk m.W v).length<=5000:=by
      have f:=h.fx;have:=p9 (W:=m.W) (b:=65) v λu hu=>by have:=h.wl u QX;have:=f.v32 u QX;omega
      have:=f.p32;omega
    have hq:=hr.reach hj;have hsp:(m.sp v j)=sv (m.P v) j:=rfl;obtain⟨g1,g2⟩:=yl (s:=s) (A:=dk m.W v) (W:=m.W v) (C:=C) (n:=T.nv v) (h.cat.trans h1) (h.wl v hv) (h.fx.v32 v hv) hA (x:=(j:Int)+1) ⟨by omega,by omega⟩ (p:=m.sp v j) hq.1 hq.2;rw[g2]at hg ⊢;have hs:(dP m v j).sp v j=(cQ (arW (m.W v)) 1 ((j:Int)+1) (m.sp v j)).2:=(by unfold Hm.sp dP;show sv (aW m.P v _ v) j=_;rw[aV,cD,if_pos ⟨rfl,hjl⟩];rfl);rw[hs];refine⟨rfl,?_,pS s _ _ _,t.mono (h.sub3 hv)⟩;exact h.rgTurn hv hg (by unfold Ag;rw[g1,h2]) (by rw[yk];exact h.wl v hv) (by simp[hl]) t
end
end
section
open Go.RowKit
section
variable{B:Nat->Prop}{w w':World}{x:Hx}{T:HTr}{bud:Int}{s s':Ar}{m:Hm}
def mt (T:HTr)(m:Hm)(i:Int):Hm:=if okI m.S i then ru T m i.toNat else m
theorem aP.sc (h:aP B w x T bud s m){n:Nat}{p:Sp}(hp:m.S[n]? =some p):w.cell? ⟨x.q,n*4,none⟩=some (.int .i64 p.pc)/\w.cell? ⟨x.q,n*4+1,none⟩=some (.int .i64 p.a)/\w.cell? ⟨x.q,n*4+2,none⟩=some (.int .i64 p.b)/\w.cell? ⟨x.q,n*4+3,none⟩=some (.int .i64 p.c):=by have a0:=h.ss.cell hp 0 _ rfl;simp only[Nat.add_zero]at a0;exact⟨a0,h.ss.cell hp 1 _ rfl,h.ss.cell hp 2 _ rfl,h.ss.cell hp 3 _ rfl⟩
theorem aP.put4 (h:aP B w x T bud s m){n:Nat}(hn:n<T.n)(p':Sp):aP B ((((w.setCell ⟨x.q,n*4,none⟩ (.int .i64 p'.pc)).setCell ⟨x.q,n*4+1,none⟩ (.int .i64 p'.a)).setCell ⟨x.q,n*4+2,none⟩ (.int .i64 p'.b)).setCell ⟨x.q,n*4+3,none⟩ (.int .i64 p'.c)) x T bud s (m.thr n p'):=by
 have hl:n<m.S.length:=by rw[h.sn];exact hn
 have hp:=gw hl;obtain⟨p,e⟩:∃p,p=sv m.S n:=⟨_,rfl⟩;rw[<-e]at hp;have g:∀(S:List Sp) (y:Sp),n<S.length->(S.set n y)[n]? =some y:=λS y h=>by simp[h]
 have h1:=h.ss.put hp (j:=0) (u:= .int .i64 p'.pc) (p':=⟨p'.pc,p.a,p.b,p.c⟩) QZ rfl;have h2:=h1.put (g _ _ hl) (j:=1) (u:= .int .i64 p'.a) (p':=⟨p'.pc,p'.a,p.b,p.c⟩) QZ rfl;have h3:=h2.put (g _ _ (by simpa using hl)) (j:=2) (u:= .int .i64 p'.b) (p':=⟨p'.pc,p'.a,p'.b,p.c⟩) QZ rfl;have h4:=h3.put (g _ _ (by simpa using hl)) (j:=3) (u:= .int .i64 p'.c) (p':=p') QZ rfl;simp only[List.set_set,Nat.add_zero]at h4
 have t:aa [x.q] w ((((w.setCell ⟨x.q,n*4,none⟩ (.int .i64 p'.pc)).setCell ⟨x.q,n*4+1,none⟩ (.int .i64 p'.a)).setCell ⟨x.q,n*4+2,none⟩ (.int .i64 p'.b)).setCell ⟨x.q,n*4+3,none⟩ (.int .i64 p'.c)):=
  ((((aa.refl _ w).setCell (.inl QY) _).setCell (.inl QY) _).setCell (.inl QY) _).setCell (.inl QY) _
 exact h.spTurn h4 (by simp[h.sn]) t
theorem cK{S:List Nat}{q:Nat}(k:aa S w w')(hq:q∈S)(i:Nat)(u:Value):aa S w (w'.setCell ⟨q,i,none⟩ u):=k.setCell (.inl hq) _
theorem q_mv (x:Hx)(T:HTr):x.q∈mvL x T:=by simp[mvL]
theorem aP.alloc (k:aP B w x T bud s m)(o:Obj):aP B (w.alloc o) x T bud s m:=k.below ((Below.refl _ _).alloc (Nat.le_refl _) _)
theorem aP.drew (k:aP B w x T bud s m):aP B w.drew x T bud s m:=k.below ((Below.refl _ _).drew)
def yH (B:Nat->Prop)(w:World)(x:Hx)(T:HTr)(bud:Int)(s:Ar)(m:Hm)(i:Int)(e:Ending)(w':World):Prop:=e= .returned (.bool (decide (okI m.S i/\(getS m.S i).pc=0)))/\aP B w' x T bud s (mt T m i)/\aa (mvL x T) w w'
theorem FD (k:aP B w x T bud s m)(hT:T.Ok)(i:Int):Calls Tryz.prog 250 #[↑x.l,.int .i64 i] w (yH B w x T bud s m i):=by
 have H:=qh k;have HN:=k.fx.n32;have hsl:=k.sn;have hd:=hT.d1;have hd5:=k.fx.d5;by_cases hok:okI m.S i
 ·have hp:=dE hok;obtain⟨p,hpp⟩:∃p,p=getS m.S i:=⟨_,rfl⟩;rw[<-hpp]at hp;have c2:=k.l3;have a0:=k.ss.cell hp 0 _ rfl;simp only[Nat.add_zero]at a0;obtain⟨h0,h1⟩:=id hok;rw[hsl]at h1;obtain⟨n,rfl⟩:=Int.eq_ofNat_of_zero_le h0;simp only[Int.toNat_natCast]at a0 hp;have t2:¬(n:Int)<0:=by omega
  have t3:¬((T.n:Nat):Int)<=(n:Int):=by omega
  have t4:n<T.n:=by omega
  have hs1:=k.lk.lt;have hs2:=k.ss.lt;by_cases h0:p.pc=0
  ·have y0:(p.pc==0)=true:=(by simpa using h0);have y1:(p.pc !=0)=false:=(by simpa using h0);have cl2:=k.l2;have cL:=k.cL n t4;have cP:=k.cP n 0 t4 QX;have cS:=k.cS n 0 t4 QX;simp only[Nat.zero_mul,Nat.add_zero]at cP cS;have g1:(0:Int)<T.D:=(by omega);have g2:0<T.D:=by omega
   have HA:Kq (mt T m n=(kr m (T.pl n 0) (T.sl n 0)).thr n ⟨1,0,0,0⟩):=qh (by
    unfold mt ru
    rw[if_pos hok,Int.toNat_natCast,<-dJ QX,<-hpp,if_pos h0])
   have HR:Kq (decide (okI m.S n/\(getS m.S n).pc=0)=true):=qh (decide_eq_true ⟨hok,by rw[<-hpp];exact h0⟩);have HV:=qh (And.intro (hT.plt n 0 t4 QX) (hT.slt n 0 t4 QX));have HPP:=qh hp;clear k hp hpp h0 h1 hok;go_enter Tryz.func250,Tryz.ntmps250;go_wp2_with (go_at_call 255;refine(iV H.o).mono ?_;rintro e w' ⟨rfl,rfl⟩);refine((H.o.alloc _).ask1 HV.o.1 HV.o.2).mono ?_;rintro en w1 ⟨b,rfl,h1,t1⟩;have c2:=h1.l3;have f1:∀j,w1.frozen? ⟨x.q,j,none⟩=false:=λj=>h1.ss.free j;obtain⟨b0,b1,b2,b3⟩:=h1.sc (n:=n) (p:=p) (by rw[D3];exact HPP.o);have H1:=qh (And.intro h1 (aa.trans ((aa.refl _ w).alloc _) t1));have hs2:=h1.ss.lt;clear h1 t1;go_wp2;go_ret;unfold yH;rw[HR.o,HA.o];exact⟨rfl,H1.o.1.put4 t4 ⟨1,0,0,0⟩,cK (cK (cK (cK H1.o.2 (q_mv x T) _ _) (q_mv x T) _ _) (q_mv x T) _ _) (q_mv x T) _ _⟩
  ·have y1:(p.pc !=0)=true:=by simpa using h0
   have HA:Kq (mt T m n=m):=qh (by
    unfold mt ru
    rw[if_pos hok,Int.toNat_natCast,<-dJ QX,<-hpp,if_neg h0])
   have HR:Kq (decide (okI m.S n/\(getS m.S n).pc=0)=false):=qh (decide_eq_false λh=>h0 (by rw[hpp];exact h.2));clear k hp hpp h0 h1 hok;exact JS
 ·have HA:Kq (mt T m i=m):=qh (by unfold mt;rw[if_neg hok]);have HR:Kq (decide (okI m.S i/\(getS m.S i).pc=0)=false):=qh (decide_eq_false λh=>hok h.1);unfold okI at hok;rw[hsl]at hok;clear k;by_cases h0:i<0;·go_enter Tryz.func250,Tryz.ntmps250;go_wp2;exact JT
  ·have t3:((T.n:Nat):Int)<=i:=(by omega);clear hok;exact JS
end
end
section
open Go.RowKit
section
variable{B:Nat->Prop}{w w':World}{x:Hx}{T:HTr}{bud:Int}{s s':Ar}{m:Hm}
theorem oZ (m:Hm)(v j n:Nat)(u c:Int)(p:Sp):gh (m.thr n p) v j u c=(gh m v j u c).thr n p:=by unfold gh;have e:(m.thr n p).sp v j=m.sp v j:=rfl;rw[e];split<;>rfl
theorem yR (m:Hm)(v j n:Nat)(p:Sp):kr (m.thr n p) v j=(kr m v j).thr n p:=by unfold kr;have e:(m.thr n p).sp v j=m.sp v j:=rfl;rw[e];split<;>rfl
theorem mL (m:Hm)(n:Nat)(p p':Sp):(m.thr n p).thr n p'=m.thr n p':=by unfold Hm.thr;simp
theorem aP.put1c (h:aP B w x T bud s m){n:Nat}{p p':Sp}(hp:m.S[n]? =some p){j:Nat}{u:Value}(hj:j<4)(he:(a9 p).set j u=a9 p'):aP B (w.setCell ⟨x.q,n*4+j,none⟩ u) x T bud s (m.thr n p'):=
 h.spTurn (h.ss.put hp hj he) (by simp[h.sn]) ((aa.refl _ w).setCell (.inl QY) _)
theorem aP.gt (h:aP B w x T bud s m){n:Nat}(hn:n<T.n)(p:Sp):(m.thr n p).S[n]? =some p:=by
 have:n<m.S.length:=by rw[h.sn];exact hn
 show(m.S.set n p)[n]? =some p;simp[this]
theorem aP.drewN (h:aP B w x T bud s m)(n:Nat):aP B (w.drewN n) x T bud s m:=h.below (Qt.below ⟨n,rfl⟩ _)
def VD (B:Nat->Prop)(w:World)(x:Hx)(T:HTr)(bud:Int)(s:Ar)(m':Hm)(e:Ending)(w':World):Prop:=e= .returned (.tuple #[])/\aP B w' x T bud s m'/\aa (mvL x T) w w'
theorem aP.lev (h:aP B w x T bud s m){n c:Nat}(hn:n<T.n)(hc:c<T.D):w.cell? ⟨x.l,2,none⟩=some (.slice (some ⟨x.bL,x.oL,none⟩) T.n x.kL)/\w.cell? ⟨x.bL,x.oL+n,none⟩=some (.slice (some ⟨x.ub n,x.uo n,none⟩) T.D (x.uk n))/\w.cell? ⟨x.ub n,x.uo n+c*2,none⟩=some (.pointer (some ⟨x.lb (T.pl n c),0,none⟩))/\w.cell? ⟨x.ub n,x.uo n+c*2+1,none⟩=some (.int .i64 (T.sl n c)):=⟨h.l2,h.cL n hn,h.cP n c hn hc,h.cS n c hn hc⟩
theorem aP.lt4 (h:aP B w x T bud s m){n c:Nat}(hn:n<T.n)(hc:c<T.D):x.l<w.heap.size/\x.bL<w.heap.size/\x.ub n<w.heap.size/\x.q<w.heap.size:=⟨h.lk.lt,aQ (h.cL n hn),aQ (h.cP n c hn hc),h.ss.lt⟩
theorem En (k:aP B w x T bud s m)(hT:T.Ok){n c:Nat}(hn:n<T.n)(hc:(sv m.S n).c=c)(hcD:c<T.D):Calls Tryz.prog 261 #[↑x.l,.int .i64 n] w (VD B w x T bud s (j8 T m n c)):=by
 have H:=qh k;have HN:=k.fx.n32;have hd5:=k.fx.d5;have hsl:=k.sn;obtain⟨p,hpp⟩:∃p,p=sv m.S n:=⟨_,rfl⟩;have hp:m.S[n]? =some p:=by rw[hpp];exact gw QX
 rw[<-hpp]at hc;have c3:=k.l3;obtain⟨b0,b1,b2,b3⟩:=k.sc hp;rw[hc]at b3;have f1:∀j,w.frozen? ⟨x.q,j,none⟩=false:=λj=>k.ss.free j;have t2:¬(n:Int)<0:=by omega
 have t3:¬((T.n:Nat):Int)<=(n:Int):=by omega
 have HPP:=qh (And.intro hp (And.intro hpp hc));by_cases h0:c=0
 ·subst h0;clear k hp hpp hc;go_enter Tryz.func261,Tryz.ntmps261;go_wp2;go_end0;have e:j8 T m n 0=m.thr n {p with pc:=0}:=by unfold j8;rw[if_pos rfl,<-HPP.o.2.1]
  rw[e];exact⟨rfl,H.o.put1c HPP.o.1 (j:=0) QZ rfl,cK (aa.refl _ w) (q_mv x T) _ _⟩
 ·obtain⟨d,rfl⟩:∃d,c=d+1:=⟨c-1,by omega⟩;have hdD:d<T.D:=by omega
  obtain⟨cl2,cL,cP,cS⟩:=k.lev hn hdD;have y0:(((d+1:Nat):Int)==0)=false:=by simp;omega
  clear k hp hpp hc h0;go_enter Tryz.func261,Tryz.ntmps261;go_wp2;have h2:=(H.o.put1c HPP.o.1 (j:=3) (u:= .int .i64 d) (p':={p with c:=d}) QZ rfl).put1c (H.o.gt hn _) (j:=0) (u:= .int .i64 12) (p':={p with pc:=12,c:=d}) QZ rfl;rw[mL]at h2;simp only[Nat.add_zero]at h2;have t2':=cK (cK (aa.refl (mvL x T) w) (q_mv x T) (n*4+3) (.int .i64 d)) (q_mv x T) (n*4) (.int .i64 12);obtain⟨w2,hw2⟩:∃w2,w2=(w.setCell ⟨x.q,n*4+3,none⟩ (.int .i64 d)).setCell ⟨x.q,n*4,none⟩ (.int .i64 12):=⟨_,rfl⟩;rw[<-hw2]at h2 t2' ⊢;have H2:=qh (And.intro h2 t2');clear hw2 b0 b1 b2 b3 c3 cl2 cL cP cS f1;obtain⟨cl2,cL,cP,cS⟩:=h2.lev hn hdD;obtain⟨_,_,_,b3⟩:=h2.sc (H.o.gt hn _);obtain⟨z1,z2,z3,z4⟩:=h2.lt4 hn hdD;have HV:=qh (And.intro (hT.plt n d hn hdD) (hT.slt n d hn hdD));clear h2 t2';go_region;all_goals go_wp2_with fail;refine(((H2.o.1.alloc _).drewN _).leave1 HV.o.1 HV.o.2 (-1)).mono ?_;rintro en w3 ⟨b,rfl,h3,t3⟩;have H3:=qh (And.intro h3 (H2.o.2.trans (((aa.refl _ _).alloc _).drewN _ |>.trans t3)));clear h3 t3;go_wp2;go_end0;have e:j8 T m n (d+1)=gh (m.thr n {p with pc:=12,c:=d}) (T.pl n d) (T.sl n d) 11 (-1):=(by unfold j8;rw[if_neg QX,oZ,<-HPP.o.2.1];have q:((d+1:Nat):Int)-1=d:=(by omega);rw[q];rfl);unfold VD;rw[e];exact⟨rfl,H3.o.1,H3.o.2⟩
end
end
section
open Go.RowKit
theorem vB (a b c d:Int)(w:World):(Instr.field 113 (.agg #[.int .i64 a,.int .i64 b,.int .i64 c,.int .i64 d]) 1).run Tryz.prog w= .ok (.int .i64 b) w:=by kernel_rfl
theorem CB (a b c d:Int)(w:World):(Instr.field 113 (.agg #[.int .i64 a,.int .i64 b,.int .i64 c,.int .i64 d]) 2).run Tryz.prog w= .ok (.int .i64 c) w:=by kernel_rfl
theorem aa.transNew{M S:List Nat}{a b c:World}(h:aa M a b)(k:aa S b c)(hS:∀i∈S,a.heap.size<=i):aa M a c:=
 ⟨k.os.trans h.os,k.tape.trans h.tape,k.output.trans h.output,Nat.le_trans h.size k.size,λi hi hn=>(k.block i (Nat.lt_of_lt_of_le hi h.size) (λhm=>absurd (hS i hm) QX)).trans (h.block i hi hn)⟩
section
variable{B:Nat->Prop}{w w':World}{x:Hx}{T:HTr}{bud:Int}{s s':Ar}{m:Hm}
theorem Ej (k:aP B w x T bud s m)(hT:T.Ok){n c:Nat}(hn:n<T.n)(hc:(sv m.S n).c=c)(hcD:c<T.D):Calls Tryz.prog 260 #[↑x.l,.int .i64 n] w (VD B w x T bud s (j7 T m n c)):=by
 have hfield:=CB;have H:=qh k;have HN:=k.fx.n32;have hd5:=k.fx.d5;have hsl:=k.sn;obtain⟨p,hpp⟩:∃p,p=sv m.S n:=⟨_,rfl⟩;have hp:m.S[n]? =some p:=by rw[hpp];exact gw QX
 rw[<-hpp]at hc;have HPP:=qh (And.intro hp (And.intro hpp hc));have c3:=k.l3;obtain⟨b0,b1,b2,b3⟩:=k.sc hp;rw[hc]at b3;obtain⟨cl2,cL,cP,cS⟩:=k.lev hn hcD;obtain⟨z1,z2,z3,z4⟩:=k.lt4 hn hcD;have HV:=qh (And.intro (hT.plt n c hn hcD) (hT.slt n c hn hcD));obtain⟨u,hu⟩:∃u,u=m.sp (T.pl n c) (T.sl n c):=⟨_,rfl⟩;have HU:=qh hu;have t2:¬(n:Int)<0:=by omega
 have t3:¬((T.n:Nat):Int)<=(n:Int):=by omega
 have g2:¬((T.D:Nat):Int)<=(c:Int):=by omega
 by_cases h0:u.b=0\/c+1=T.D
 ·have HE:Kq (j7 T m n c=m.thr n {p with pc:=10}):=qh (by unfold j7;rw[if_pos (by rw[<-hu];exact h0),<-hpp]);clear k hp hpp hc hu;go_enter Tryz.func260,Tryz.ntmps260;go_wp2;go_region
  all_goals
   go_wp2_with fail;refine(((H.o.alloc _).drewN _).spot1 HV.o.1 HV.o.2).mono ?_;rintro en w3 ⟨rfl,k3⟩;rw[<-HU.o];unfold aE;have h3:=((H.o.alloc _).drewN _).below k3;obtain⟨b0,b1,b2,b3⟩:=h3.sc HPP.o.1;rw[HPP.o.2.2]at b3;have f1:∀j,w3.frozen? ⟨x.q,j,none⟩=false:=λj=>h3.ss.free j;have H3:=qh (And.intro h3 (((aa.refl (mvL x T) _).alloc _).drewN _ |>.trans (aa.of_below k3)));clear h3 k3;by_cases hb:u.b=0;·have y:(u.b==0)=true:=(by simpa using hb);clear h0 hb;exact JU
   ·have y:(u.b==0)=false:=(by simpa using hb);have hD:c+1=T.D:=h0.resolve_left hb;have y2:((c:Int)==(T.D:Int)-1)=true:=(by simp;omega);clear h0 hb hD;exact JU
 ·have hcD':c+1<T.D:=by omega
  have y:(u.b==0)=false:=by simpa using λe=>h0 (.inl e)
  have y2:((c:Int)==(T.D:Int)-1)=false:=by simp;omega
  have HE:Kq (j7 T m n c=kr (m.thr n {p with c:=(c:Int)+1}) (T.pl n (c+1)) (T.sl n (c+1))):=qh (by unfold j7;rw[if_neg (by rw[<-hu];exact h0),yR,<-hpp]);have HV':=qh (And.intro (hT.plt n (c+1) hn hcD') (hT.slt n (c+1) hn hcD'));clear k hp hpp hc hu h0;go_enter Tryz.func260,Tryz.ntmps260;go_wp2;go_region;all_goals go_wp2_with fail;refine(((H.o.alloc _).drewN _).spot1 HV.o.1 HV.o.2).mono ?_;rintro en w3 ⟨rfl,k3⟩;rw[<-HU.o];unfold aE;have h3:=((H.o.alloc _).drewN _).below k3;have hx:Blk w3 w.heap.size 255 #[.pointer (some ⟨x.lb (T.pl n c),0,none⟩),.int .i64 (T.sl n c)]:=(aa.of_below (S:=[]) k3).blk (heap_alloc_new w _) QY;clear b0 b1 b2 b3 cl2 cL cP cS c3;obtain⟨b0,b1,b2,b3⟩:=h3.sc HPP.o.1;rw[HPP.o.2.2]at b3;have f1:∀j,w3.frozen? ⟨x.q,j,none⟩=false:=λj=>h3.ss.free j;have h4:=h3.put1c HPP.o.1 (j:=3) (u:= .int .i64 ((c:Int)+1)) (p':={p with c:=(c:Int)+1}) QZ rfl;have hqx:x.q≠w.heap.size:=(by omega);have t4:=cK (((aa.refl (mvL x T) _).alloc _).drewN _ |>.trans (aa.of_below k3)) (q_mv x T) (n*4+3) (.int .i64 ((c:Int)+1));have hx4:=hx.far (λe=>hqx e.symm) (p:=⟨x.q,n*4+3,none⟩) (.int .i64 ((c:Int)+1));have H4:=qh (And.intro h4 (And.intro t4 hx4));have b3':=(h4.sc (H.o.gt hn _)).2.2.2;obtain⟨cl2,cL,cP,cS⟩:=h4.lev hn hcD';have x0:=hx4.cell 0;have x1:=hx4.cell 1;have y0:=hx4.free 0;have y1:=hx4.free 1;clear h3 k3 h4 t4 hx hx4;go_wp2_with fail;have t5:aa [w.heap.size] (w3.setCell ⟨x.q,n*4+3,none⟩ (.int .i64 ((c:Int)+1))) (((w3.setCell ⟨x.q,n*4+3,none⟩ (.int .i64 ((c:Int)+1))).setCell ⟨w.heap.size,0,none⟩ (.pointer (some ⟨x.lb (T.pl n (c+1)),0,none⟩))).setCell ⟨w.heap.size,1,none⟩ (.int .i64 (T.sl n (c+1)))):=cK (cK (aa.refl _ _) QY _ _) QY _ _;have h5:=H4.o.1.turns t5 (λi hi=>by simp at hi;rw[hi];exact H.o.new.1) (λi hi=>by simp at hi;rw[hi];exact H.o.new.2);refine(h5.ask1 HV'.o.1 HV'.o.2).mono ?_;rintro en w6 ⟨b,rfl,h6,t6⟩;have H6:=qh (And.intro h6 ((H4.o.2.1.transNew t5 λi hi=>by simp at hi;omega).trans t6));clear h5 h6 t5 t6;go_wp2;go_end0;unfold VD;rw[HE.o];exact⟨rfl,H6.o.1,H6.o.2⟩
end
end
section
open Go.RowKit
theorem oY{P:Program}{a:Act}{w:World}{Q:Exit->Act->World->Prop}{c rest:Code}(l:Nat)(hf:findLabel c l=some rest)(first:c.wp P (Exit.jump l (λa' w'=>rest.wp P (Exit.noGoto Q) a' w') Q) a w):(Code.scope c).wp P Q a w:=by exact Jz
section
variable{B:Nat->Prop}{w w':World}{x:Hx}{T:HTr}{bud:Int}{s s':Ar}{m:Hm}
theorem jS (T:HTr)(bud:Int)(m:Hm)(n:Nat):∀(f g k:Nat),T.D-k<=f->T.D-k<=g->k<T.D->gV T bud f m n k=gV T bud g m n k
 |0,_,k,h,_,hk=>by omega
 |_+1,0,k,_,h,hk=>by omega
 |f+1,g+1,k,h1,h2,hk=>by
  unfold gV;by_cases c:k+1=T.D;·rw[if_pos c,if_pos c]
  ·rw[if_neg c,if_neg c];split;·rfl
   ·exact jS T bud m n f g (k+1) QX QX QX
theorem wQ (T:HTr)(bud:Int)(m:Hm)(n:Nat){k:Nat}(h:k+1=T.D):gV T bud T.D m n k=(gh m (T.pl n k) (T.sl n k) 11 1).thr n {sv m.S n with pc:=12,c:=k}:=by rw[jS T bud m n T.D 1 k QX QX QX];unfold gV;rw[if_pos h]
theorem wS (T:HTr)(bud:Int)(m:Hm)(n:Nat){k:Nat}(h:k+1<T.D)(hv:(m.sp (T.pl n k) (T.sl n k)).a<=bud):gV T bud T.D m n k=(gh m (T.pl n k) (T.sl n k) 15 ((m.sp (T.pl n k) (T.sl n k)).a+1)).thr n {sv m.S n with pc:=11,c:=k}:=by obtain⟨d,hd⟩:∃d,T.D=d+1:=⟨T.D-1,by omega⟩;rw[jS T bud m n T.D (d+1) k QX QX QX];unfold gV;rw[if_neg QX,if_pos hv]
theorem wR (T:HTr)(bud:Int)(m:Hm)(n:Nat){k:Nat}(h:k+1<T.D)(hv:¬(m.sp (T.pl n k) (T.sl n k)).a<=bud):gV T bud T.D m n k=gV T bud T.D m n (k+1):=by
 rw[jS T bud m n T.D (T.D+1) k QX QX QX];conv=>lhs;unfold gV
 rw[if_neg QX,if_neg hv]
theorem vh (k:aP B w x T bud s m) (hT:T.Ok) {n k0:Nat} (hn:n<T.n) (hk0:k0<T.D) (hbud:0<=bud/\bud<=1000) (hva:∀k,k0<=k->k<T.D->0<=(m.sp (T.pl n k) (T.sl n k)).a/\(m.sp (T.pl n k) (T.sl n k)).a<=2000):
    Calls Tryz.prog 258 #[↑x.l,.int .i64 n,.int .i64 k0] w (VD B w x T bud s (gV T bud T.D m n k0)):=by
  have hfield:=vB;have H:=qh k;have HN:=k.fx.n32;have hd5:=k.fx.d5;have hsl:=k.sn;obtain⟨p,hpp⟩:∃p,p=sv m.S n:=⟨_,rfl⟩;have hp:m.S[n]? =some p:=by rw[hpp];exact gw QX
  have HPP:=qh (And.intro hp hpp);have HVA:=qh hva;have c3:=k.l3;obtain⟨cl2,cL,cP,cS⟩:=k.lev hn hk0;obtain⟨z1,z2,z3,z4⟩:=k.lt4 hn hk0;have t2:¬(n:Int)<0:=by omega
  have t3:¬((T.n:Nat):Int)<=(n:Int):=by omega
  obtain⟨hb0,hb1⟩:=hbud;clear k hp hpp hva;go_enter Tryz.func258,Tryz.ntmps258;go_wp2;refine oY 0 rfl ?_;go_wp2;go_region
  all_goals
    go_wp2;go_step3;clear c3 cl2 cL cP cS z1 z2 z3 z4;go_wp2;go_loopw [2] (λc wr=>∃(k:Nat) (z:Int),c= .int .i64 k/\k<T.D/\k0<=k/\aP B wr x T bud s (m.thr n {p with c:=z})/\aa (mvL x T) w wr/\gV T bud T.D m n k=gV T bud T.D m n k0) (λc _=>T.D-(intOf c).toNat);case atStart=>refine⟨k0,p.c,rfl,hk0,by omega,?_,(aa.refl _ _).drewN 1,rfl⟩;have e:m.thr n {p with c:=p.c}=m:=(by unfold Hm.thr;have:m.S.set n p=m.S:=sP HPP.o.1;show({m with S:=m.S.set n p}:Hm)=m;rw[this]);rw[e];exact H.o.drewN 1
    case round=>
      obtain⟨k,z,rfl,hkD,hk,hI,ht,hE⟩:=hrel;have HW:=qh (And.intro hI (And.intro ht hE));have HV:=qh (And.intro (hT.plt n k hn hkD) (hT.slt n k hn hkD));obtain⟨u,hu⟩:∃u,u=m.sp (T.pl n k) (T.sl n k):=⟨_,rfl⟩;have HU:=qh hu;obtain⟨cl2,cL,cP,cS⟩:=hI.lev hn hkD;obtain⟨z1,z2,z3,z4⟩:=hI.lt4 hn hkD;have g2:¬((T.D:Nat):Int)<=(k:Int):=(by omega);clear hI ht hE hu;go_wp2_with fail;refine((HW.o.1.alloc _).spot1 HV.o.1 HV.o.2).mono ?_;rintro en w3 ⟨rfl,k3⟩;rw[show(m.thr n {p with c:=z}).sp (T.pl n k) (T.sl n k)=u from HU.o.symm];unfold aE;have h3:=(HW.o.1.alloc _).below k3;have hx:Blk w3 wr.heap.size 255 #[.pointer (some ⟨x.lb (T.pl n k),0,none⟩),.int .i64 (T.sl n k)]:=(aa.of_below (S:=[]) k3).blk (heap_alloc_new wr _) QY;clear cl2 cL cP cS;have c3:=(h3.sc (H.o.gt hn _)).2.2.2;have f1:∀j,w3.frozen? ⟨x.q,j,none⟩=false:=λj=>h3.ss.free j;have h4:=h3.put1c (H.o.gt hn _) (j:=3) (u:= .int .i64 (k:Int)) (p':={p with c:=(k:Int)}) QZ rfl;rw[mL]at h4;have hqx:x.q≠wr.heap.size:=(by omega);have t4:=cK (HW.o.2.1.trans (((aa.refl (mvL x T) _).alloc _).trans (aa.of_below k3))) (q_mv x T) (n*4+3) (.int .i64 (k:Int));have hx4:=hx.far (λe=>hqx e.symm) (p:=⟨x.q,n*4+3,none⟩) (.int .i64 (k:Int));have H4:=qh (And.intro h4 t4);have x0:=hx4.cell 0;have x1:=hx4.cell 1;have l0:=h4.l0;clear h3 k3 h4 t4 hx hx4;by_cases hD:k+1=T.D;· have y:((k:Int)==(T.D:Int)-1)=true:=(by simp;omega);have HE:=qh (HW.o.2.2.symm.trans (wQ T bud m n hD));clear hD;go_wp2_with fail;refine(H4.o.1.leave1 HV.o.1 HV.o.2 1).mono ?_;rintro en w5 ⟨b,rfl,h5,t5⟩;rw[oZ]at h5;have c0:=(h5.sc (p:={p with c:=(k:Int)}) RO).1;have f0:∀j,w5.frozen? ⟨x.q,j,none⟩=false:=λj=>h5.ss.free j;have h6:=h5.put1c (n:=n) (p:={p with c:=(k:Int)}) RO (j:=0) (u:= .int .i64 12) (p':={p with pc:=12,c:=(k:Int)}) QZ rfl;rw[mL]at h6;have H6:=qh (And.intro h6 (cK (H4.o.2.trans t5) (q_mv x T) (n*4) (.int .i64 12)));clear h5 h6 t5;go_wp2;go_end0;unfold VD;rw[HE.o,<-HPP.o.2];exact⟨rfl,H6.o.1,H6.o.2⟩
      · have hD':k+1<T.D:=(by omega);have y:((k:Int)==(T.D:Int)-1)=false:=(by simp;omega);obtain⟨va0,va1⟩:=HVA.o k hk hkD;rw[<-HU.o]at va0 va1;by_cases hv:u.a<=bud;· have HE:=qh (HW.o.2.2.symm.trans (wS T bud m n hD' (by rw[<-HU.o];exact hv)));go_wp2_with fail;refine(H4.o.1.pass1 HV.o.1 HV.o.2 (u.a+1)).mono ?_;rintro en w5 ⟨b,rfl,h5,t5⟩;rw[oZ]at h5;have c0:=(h5.sc (p:={p with c:=(k:Int)}) RO).1;have f0:∀j,w5.frozen? ⟨x.q,j,none⟩=false:=λj=>h5.ss.free j;have h6:=h5.put1c (n:=n) (p:={p with c:=(k:Int)}) RO (j:=0) (u:= .int .i64 11) (p':={p with pc:=11,c:=(k:Int)}) QZ rfl;rw[mL]at h6;have H6:=qh (And.intro h6 (cK (H4.o.2.trans t5) (q_mv x T) (n*4) (.int .i64 11)));clear h5 h6 t5;go_wp2;go_end0;unfold VD;rw[HE.o,<-HPP.o.2,<-HU.o];exact⟨rfl,H6.o.1,H6.o.2⟩
        · have HE:=qh ((wR T bud m n hD' (by rw[<-HU.o];exact hv)).symm.trans HW.o.2.2);go_wp2;go_roundw;case rel=>exact⟨k+1,k,by go_num,by omega,by omega,H4.o.1,H4.o.2,HE.o⟩
          case measure=>simp[intOf];omega
end
end
section
open Go.RowKit
section
variable{B:Nat->Prop}{w w':World}{x:Hx}{T:HTr}{bud:Int}{s s':Ar}{m:Hm}{O:Nat->Nat->Option Nat}
theorem Df (m:Hm){v j:Nat}(hj:j<(m.P v).length):(dP m v j).sp v j=(cQ (arW (m.W v)) 1 ((j:Int)+1) (m.sp v j)).2:=by unfold Hm.sp dP;show sv (aW m.P v _ v) j=_;rw[aV,cD,if_pos ⟨rfl,hj⟩];rfl
theorem Dg (m:Hm){v u j k:Nat}(h:u≠v):(dP m v j).sp u k=m.sp u k:=by unfold Hm.sp dP;show sv (aW m.P v _ u) k=_;rw[aX _ _ h]
theorem dY.va10 (h:dY T bud m O)(hT:T.Ok)(hb:0<=bud/\bud<=1000){n k:Nat}(hn:n<T.n)(hk:k<T.D)(h10:(m.sp (T.pl n k) (T.sl n k)).pc=10):0<=(m.sp (T.pl n k) (T.sl n k)).a/\(m.sp (T.pl n k) (T.sl n k)).a<=2000:=by have:=((h.x n).va (T.pl n k) (T.sl n k) (hT.plt n k hn hk) (hT.slt n k hn hk)).1 (.inl h10);omega
theorem dY.vaHold (h:dY T bud m O)(hT:T.Ok)(hb:0<=bud/\bud<=1000){n:Nat}(hn:n<T.n)(h10:(sv m.S n).pc=10):∀k,0<=k->k<T.D->0<=(m.sp (T.pl n k) (T.sl n k)).a/\(m.sp (T.pl n k) (T.sl n k)).a<=2000:=by obtain⟨K,kk,_⟩:=h.t n hn;exact λk _ hk=>h.va10 hT hb hn hk ((kk.of10 h10).2 k hk)
theorem dY.stepUp (h:dY T bud m O) (hT:T.Ok) (hb:0<=bud/\bud<=1000) {n c:Nat} (hn:n<T.n) (h0:¬((sv m.S n).pc=0\/(sv m.S n).pc=10)) (hc:(sv m.S n).c=c) (h1:(sv m.S n).pc≠1) (hp:((dP m (T.pl n c) (T.sl n c)).sp (T.pl n c) (T.sl n c)).pc=10):
    c+1<T.D/\∀k,c+1<=k->k<T.D->0<=((dP m (T.pl n c) (T.sl n c)).sp (T.pl n k) (T.sl n k)).a/\((dP m (T.pl n c) (T.sl n c)).sp (T.pl n k) (T.sl n k)).a<=2000:=by
  obtain⟨K,kk,o⟩:=h.t n hn;cases kk with
  | rest hh=>exact absurd (.inl hh) h0
  | come c' hh _ _ _=>exact absurd hh.1 h1
  | granted c' hh _ _=>exact absurd hh.1 h1
  | hold hh _=>exact absurd (.inr hh) h0
  | pass c' hh ha hbb=>
    obtain rfl:c=c':=by have:=hh.2.1;omega
    refine⟨hh.2.2,λk hk hkD=>?_⟩;have hne:T.pl n k≠T.pl n c:=λe=>by have e1:=hT.lv n k hn hkD;have e2:=hT.lv n c hn QX;rw[e]at e1;omega
    rw[Dg m hne];exact h.va10 hT hb hn hkD (hbb k hkD QX)
  | leave c' hh ha hcc hbb=>
    obtain rfl:c=c':=by have:=hh.2.1;omega
    exfalso;have hcD:=hh.2.2;have hv:=hT.plt n c hn hcD;have hj:=hT.slt n c hn hcD;have r:=(h.x n).rg _ hv;have hjl:T.sl n c<(m.P (T.pl n c)).length:=(by rw[(h.x n).len hv];exact hj);rw[Df m hjl]at hp;have ha':11<=(sv (m.P (T.pl n c)) (T.sl n c)).pc/\(sv (m.P (T.pl n c)) (T.sl n c)).pc<=14:=ha;have hc':(sv (m.P (T.pl n c)) (T.sl n c)).c=if c+1=T.D then 1 else -1:=hcc
    obtain⟨ro,_⟩:=RtS.case (ar:=arW (m.W (T.pl n c))) r (hT.nv32 _ hv) hj rfl QX rfl;have hp':(cQ (arW (m.W (T.pl n c))) 1 (numT (T.sl n c)) (sv (m.P (T.pl n c)) (T.sl n c))).2.pc=10:=hp;cases ro with
    | come h=>have:=h.1;omega
    | told h=>have:=h.1;omega
    | hold h=>have:=h.1;omega
    | o h=>have:=h.2.1;omega
    | free h=>have:=h.2;omega
    | give s h=>have:=h.2.1;omega
    | look h=>have:=h.1;omega
def i8 (T:HTr)(bud:Int)(m:Hm)(i:Int):Hm:=if okI m.S i then kK T bud m i.toNat else m
theorem aP.okn (k:aP B w x T bud s m){i:Int}(h:okI m.S i):∃n:Nat,i=n/\n<T.n/\getS m.S i=sv m.S n/\n<m.S.length:=by
 obtain⟨h0,h1⟩:=h;obtain⟨n,rfl⟩:=Int.eq_ofNat_of_zero_le h0;have hl:n<m.S.length:=by omega
 exact⟨n,rfl,by rw[<-k.sn];exact hl,dJ hl,hl⟩
theorem CQ (k:aP B w x T bud s m)(hT:T.Ok)(hI:dY T bud m O)(hb:0<=bud/\bud<=1000)(i:Int):Calls Tryz.prog 252 #[↑x.l,.int .i64 i] w λe w'=>e= .returned (.bool (decide ((getS m.S i).pc=10)))/\aP B w' x T bud s (i8 T bud m i)/\aa (mvL x T) w w':=by
 have hfield:=aK;have H:=qh k;obtain⟨p,hpp⟩:∃p,p=getS m.S i:=⟨_,rfl⟩;have HP:=qh hpp;by_cases h10:p.pc=10
 ·have hok:okI m.S i:=by exact JV
  obtain⟨n,rfl,hn,hg,hl⟩:=k.okn hok;have hs:(sv m.S n).pc=10:=by rw[<-hg,<-hpp];exact h10
  have hd:=hT.d1;have HB:=qh (λW (k':aP B W x T bud s m)=>vh k' hT hn (k0:=0) QX hb (hI.vaHold hT hb hn hs));have HE:Kq (i8 T bud m n=gV T bud T.D m n 0):=qh (by unfold i8 kK;rw[if_pos hok,Int.toNat_natCast,if_pos hs]);have y:(p.pc !=10)=false:=by simpa using h10
  clear k hpp hok hI hg hs;go_enter Tryz.func252,Tryz.ntmps252;go_wp2_with fail;refine(jC H.o n).mono ?_;rintro en w1 ⟨rfl,b1⟩;rw[<-HP.o];unfold aE;have H1:=qh (And.intro (H.o.below b1) b1);clear b1;go_wp2_with fail;refine(HB.o _ H1.o.1).mono ?_;rintro en w2 ⟨rfl,h2,t2⟩;have H2:=qh (And.intro h2 ((aa.of_below H1.o.2).trans t2));clear h2 t2;go_wp2;go_ret;rw[HE.o];exact⟨(rfl:_=Ending.returned (.bool true)).trans (by rw[<-HP.o,h10];rfl),H2.o.1,H2.o.2⟩
 ·have y:(p.pc !=10)=true:=by simpa using h10
  have HE:Kq (i8 T bud m i=m):=qh (by
   unfold i8;by_cases hok:okI m.S i;·obtain⟨n,rfl,hn,hg,hl⟩:=k.okn hok;rw[if_pos hok,Int.toNat_natCast];unfold kK;rw[if_neg (by rw[<-hg,<-hpp];exact h10)]
   ·rw[if_neg hok])
  have HN10:=qh h10;clear k hpp h10;go_enter Tryz.func252,Tryz.ntmps252;go_wp2_with fail;refine(jC H.o i).mono ?_;rintro en w1 ⟨rfl,b1⟩;rw[<-HP.o];unfold aE;have H1:=qh (And.intro (H.o.below b1) b1);clear b1;go_wp2;go_ret;rw[HE.o];exact⟨(rfl:_=Ending.returned (.bool false)).trans (by rw[<-HP.o,decide_eq_false HN10.o]),H1.o.1,aa.of_below H1.o.2⟩
end
end
section
open Go.RowKit
section
variable{B:Nat->Prop}{w w':World}{x:Hx}{T:HTr}{bud:Int}{s s':Ar}{m:Hm}{O:Nat->Nat->Option Nat}
def stepI (T:HTr)(bud:Int)(m:Hm)(i:Int):Hm:=if okI m.S i then kA T bud m i.toNat else m
def jp (T:HTr)(s:Ar)(m:Hm)(i:Int):Ar:=if (getS m.S i).pc=0\/(getS m.S i).pc=10 then s else Ag s m (T.pl i.toNat (getS m.S i).c.toNat) (T.sl i.toNat (getS m.S i).c.toNat)
def ze (z p:Int):Bool:=decide ((z=10\/z=0)/\p≠0/\p≠10)
theorem tI{z p:Int}(hp:¬(p=0\/p=10))(h:(z==10)=true):true=ze z p:=by have:=eq_of_beq h;exact(decide_eq_true QX).symm
theorem tJ{z p:Int}(hp:¬(p=0\/p=10))(h:(z==0)=true):true=ze z p:=by have:=eq_of_beq h;exact(decide_eq_true QX).symm
theorem tK{z:Int}(p:Int)(h:(z==10)=false)(h2:(z==0)=false):false=ze z p:=by simp only[beq_eq_false_iff_ne]at h h2;exact(decide_eq_false QX).symm
def OpX (B:Nat->Prop)(w:World)(x:Hx)(T:HTr)(bud:Int)(s:Ar)(m:Hm)(i:Int)(e:Ending)(w':World):Prop:=
 e= .returned (.bool (ze (getS (stepI T bud m i).S i).pc (getS m.S i).pc))/\aP B w' x T bud (jp T s m i) (stepI T bud m i)/\(jp T s m i).ops<=s.ops+1/\aa (mvL x T) w w'
theorem OpX.mk'{i:Int}{s1:Ar}{m1:Hm}{b:Bool}(he:b=ze (getS m1.S i).pc (getS m.S i).pc)(hm:stepI T bud m i=m1)(h:aP B w' x T bud s1 m1)(hs:s1=jp T s m i)(ho:s1.ops<=s.ops+1)(t:aa (mvL x T) w w'):OpX B w x T bud s m i (.returned (.bool b)) w':=by subst hm;subst hs;subst he;exact⟨rfl,h,ho,t⟩
theorem uL (T:HTr) (bud:Int) (m:Hm) {n c:Nat} (h0:¬((sv m.S n).pc=0\/(sv m.S n).pc=10)) (hc:(sv m.S n).c=c) (hr:¬((m.sp (T.pl n c) (T.sl n c)).pc=0\/(m.sp (T.pl n c) (T.sl n c)).pc=10)) {m1:Hm} (h1:m1=dP m (T.pl n c) (T.sl n c)):
    kA T bud m n=if ¬((m1.sp (T.pl n c) (T.sl n c)).pc=0\/(m1.sp (T.pl n c) (T.sl n c)).pc=10)then m1 else if (sv m.S n).pc=1 then j7 T m1 n c else if (m1.sp (T.pl n c) (T.sl n c)).pc=0 then j8 T m1 n c else gV T bud T.D m1 n (c+1):=by unfold kA;rw[if_neg h0,hc];simp only[Int.toNat_natCast];rw[if_neg hr,<-h1]
theorem Fg (k:aP B w x T bud s m)(hT:T.Ok)(hI:dY T bud m O)(hb:0<=bud/\bud<=1000)(ho:s.ops+1<=1000000000000)(i:Int):Calls Tryz.prog 254 #[↑x.l,.int .i64 i] w (OpX B w x T bud s m i):=by
 have hfield:=aK;have H:=qh k;have HN:=k.fx.n32;have hd5:=k.fx.d5;obtain⟨p,hpp⟩:∃p,p=getS m.S i:=⟨_,rfl⟩;have HP:=qh hpp;by_cases h0:p.pc=0\/p.pc=10
 ·have HE:Kq (stepI T bud m i=m):=qh (by
   unfold stepI;by_cases hok:okI m.S i;·obtain⟨n,rfl,hn,hg,hl⟩:=k.okn hok;rw[if_pos hok,Int.toNat_natCast];unfold kA;rw[if_pos (by rw[<-hg,<-hpp];exact h0)]
   ·rw[if_neg hok])
  clear k hpp;have fin:∀w',Below w.heap.size w w'->OpX B w x T bud s m i (.returned (.bool false)) w':=λw' b=>OpX.mk' (by rw[<-HP.o];exact(decide_eq_false QX).symm) HE.o (H.o.below b) (by unfold jp;rw[<-HP.o,if_pos h0]) QX (aa.of_below b);have HF:=qh fin;clear fin;by_cases h00:p.pc=0;·have y:(p.pc==0)=true:=(by simpa using h00);clear h0 h00;exact JW
  ·have h1:p.pc=10:=h0.resolve_left h00;have y:(p.pc==0)=false:=(by simpa using h00);have y1:(p.pc==10)=true:=(by simpa using h1);clear h0 h00 h1;exact JW
 ·have hok:okI m.S i:=by apply Classical.byContradiction;intro hn;rw[du hn]at hpp;exact h0 (.inl (by rw[hpp];rfl))
  obtain⟨n,rfl,hn,hg,hl⟩:=k.okn hok;rw[hg]at hpp HP;have h0':¬((sv m.S n).pc=0\/(sv m.S n).pc=10):=by rw[<-hpp];exact h0
  obtain⟨K,kk,oo⟩:=hI.t n hn;obtain⟨c,hc,hcD,hcK,a0,a10⟩:=rl.act kk h0';clear kk oo hcK;have hv:=hT.plt n c hn hcD;have hj:=hT.slt n c hn hcD;have hact:¬((m.sp (T.pl n c) (T.sl n c)).pc=0\/(m.sp (T.pl n c) (T.sl n c)).pc=10):=λh=>h.elim a0 a10;obtain⟨m1,hm1⟩:∃m1,m1=dP m (T.pl n c) (T.sl n c):=⟨_,rfl⟩;have hS1:m1.S=m.S:=by rw[hm1];rfl
  have HEs:=uL T bud m h0' hc hact hm1;rw[show kA T bud m n=stepI T bud m n by unfold stepI;rw[if_pos hok,Int.toNat_natCast]]at HEs;have hup:=fun(e1:(sv m.S n).pc≠1) (e2:(m1.sp (T.pl n c) (T.sl n c)).pc=10)=>hI.stepUp hT hb hn h0' hc e1 (by rw[<-hm1];exact e2);rw[<-hm1]at hup;have HS0:∀W,aP B W x T bud s m->Calls Tryz.prog 259 #[.pointer (some ⟨x.lb (T.pl n c),0,none⟩),.int .i64 (T.sl n c)] W (S1 B W x T bud s (Ag s m (T.pl n c) (T.sl n c)) m1 (decide ((m1.sp (T.pl n c) (T.sl n c)).pc=0\/(m1.sp (T.pl n c) (T.sl n c)).pc=10))):=λW k=>by have:=k.step1 hv hj ((hI.x n).rg _ hv) ho;rw[if_neg hact,if_neg hact,if_neg hact,<-hm1]at this;exact this
  obtain⟨s',hs'⟩:∃s',s'=Ag s m (T.pl n c) (T.sl n c):=⟨_,rfl⟩;rw[<-hs']at HS0;have HA:Kq (s'=jp T s m n):=qh (by unfold jp;rw[hg,<-hpp,if_neg h0,hpp,hc,hs'];rfl);have HG:Kq ((getS m.S (n:Int)).pc=p.pc/\∀m2:Hm,m2.S.length=m.S.length->getS m2.S (n:Int)=sv m2.S n):=qh ⟨by rw[hg,<-hpp],λm2 h2=>dJ QX⟩;clear hs';obtain⟨u,hu⟩:∃u,u=m1.sp (T.pl n c) (T.sl n c):=⟨_,rfl⟩;rw[<-hu]at HS0 hup HEs;have y0:(p.pc==0)=false:=by simpa using λe=>h0 (.inl e)
  have y10:(p.pc==10)=false:=by simpa using λe=>h0 (.inr e)
  rw[<-hpp]at hup HEs hc;have t2:¬(n:Int)<0:=by omega
  have t3:¬((T.n:Nat):Int)<=(n:Int):=by omega
  have g2:¬((T.D:Nat):Int)<=(c:Int):=by omega
  have HC:=qh (And.intro hpp (And.intro hc (And.intro hS1 (And.intro hv hj))));have HU:=qh hu;have HM:=qh hup;have HS:=qh HS0;have HE:=qh HEs;have hpn:m.S[n]? =some p:=by rw[hpp];exact gw hl
  clear HS0 HEs hup hu hS1 hm1 hact a0 a10 h0' k hpp hg hok hl hI;go_enter Tryz.func254,Tryz.ntmps254;go_wp2_with fail;refine(jC H.o n).mono ?_;rintro en w1 ⟨rfl,b1⟩;rw[show getS m.S (n:Int)=p from by rw[HC.o.1];exact dJ (by have:=(List.getElem?_eq_some_iff.1 hpn).1;exact this)];unfold aE;have k1:=H.o.below b1;have K1:=qh (And.intro k1 (aa.of_below (S:=mvL x T) b1));have c3:=k1.l3;have b3:=(k1.sc hpn).2.2.2;rw[HC.o.2.1]at b3;obtain⟨cl2,cL,cP,cS⟩:=k1.lev hn hcD;obtain⟨z1,z2,z3,z4⟩:=k1.lt4 hn hcD;clear k1 b1;go_wp2;go_region
  all_goals
   go_wp2_with fail;refine(HS.o _ ((K1.o.1.alloc _).drewN _)).mono ?_;rintro en w2 ⟨rfl,k2,ho2,t4⟩;have hx:Blk w2 w1.heap.size 255 #[.pointer (some ⟨x.lb (T.pl n c),0,none⟩),.int .i64 (T.sl n c)]:=t4.blk (heap_alloc_new w1 _) K1.o.1.new.2;have K2:=qh (And.intro k2 (And.intro (K1.o.2.trans ((((aa.refl (mvL x T) _).alloc _).drewN _).trans t4)) ho2));have x0:=hx.cell 0;have x1:=hx.cell 1;clear k2 t4 ho2 hx c3 b3 cl2 cL cP cS z1 z2 z3 z4;by_cases e:u.pc=0\/u.pc=10
   ·rw[decide_eq_true e];go_wp2_with fail;refine(K2.o.1.spot1 HC.o.2.2.2.1 HC.o.2.2.2.2).mono ?_;rintro en w3 ⟨rfl,b3⟩;rw[<-HU.o];unfold aE;have k3:=K2.o.1.below b3;have K3:=qh (And.intro k3 (And.intro (K2.o.2.1.trans (aa.of_below b3)) K2.o.2.2));have hcm:(sv m1.S n).c=c:=(by rw[HC.o.2.2.1,<-HC.o.1];exact HC.o.2.1);have hsc:=(k3.sc (p:=p) (by rw[HC.o.2.2.1];exact hpn)).2.2.2;rw[HC.o.2.1]at hsc;clear k3 b3;have ne:=not_not_intro e;by_cases e1:p.pc=1
    ·have y1:(p.pc==1)=true:=(by simpa using e1);go_wp2_with fail;refine(Ej K3.o.1 hT hn hcm hcD).mono ?_;rintro en w4 ⟨rfl,h4,t4⟩;have H4:=qh (And.intro h4 (And.intro (K3.o.2.1.trans t4) (h4.sn.trans H.o.sn.symm)));have c0:=(h4.sc (gw (show n<_ by rw[h4.sn];exact hn))).1;clear h4 t4;obtain⟨zz,hz⟩:∃zz,zz=(sv (j7 T m1 n c).S n).pc:=⟨_,rfl⟩;rw[<-hz]at c0;have HZ:=qh hz;clear hz;cases f1:(zz==10)
     ·cases f2:(zz==0);·go_wp2;go_ret;exact OpX.mk' (b:=false) RZ R2 H4.o.1 HA.o K3.o.2.2 H4.o.2.1
      ·go_wp2;go_ret;exact OpX.mk' (b:=true) R3 R2 H4.o.1 HA.o K3.o.2.2 H4.o.2.1
     ·go_wp2;go_ret;exact OpX.mk' (b:=true) R4 R2 H4.o.1 HA.o K3.o.2.2 H4.o.2.1
    ·have y1:(p.pc==1)=false:=(by simpa using e1);by_cases e2:u.pc=0
     ·have y2:(u.pc==0)=true:=(by simpa using e2);go_wp2_with fail;refine(En K3.o.1 hT hn hcm hcD).mono ?_;rintro en w4 ⟨rfl,h4,t4⟩;have H4:=qh (And.intro h4 (And.intro (K3.o.2.1.trans t4) (h4.sn.trans H.o.sn.symm)));have c0:=(h4.sc (gw (show n<_ by rw[h4.sn];exact hn))).1;clear h4 t4;obtain⟨zz,hz⟩:∃zz,zz=(sv (j8 T m1 n c).S n).pc:=⟨_,rfl⟩;rw[<-hz]at c0;have HZ:=qh hz;clear hz;cases f1:(zz==10)
      ·cases f2:(zz==0);·go_wp2;go_ret;exact OpX.mk' (b:=false) RZ R7 H4.o.1 HA.o K3.o.2.2 H4.o.2.1
       ·go_wp2;go_ret;exact OpX.mk' (b:=true) R3 R7 H4.o.1 HA.o K3.o.2.2 H4.o.2.1
      ·go_wp2;go_ret;exact OpX.mk' (b:=true) R4 R7 H4.o.1 HA.o K3.o.2.2 H4.o.2.1
     ·have y2:(u.pc==0)=false:=(by simpa using e2);obtain⟨hc1,hva⟩:=HM.o e1 (e.resolve_left e2);have HBg:=qh (show Calls Tryz.prog 258 #[↑x.l,.int .i64 n,.int .i64 ((c:Int)+1)] w3 (VD B w3 x T bud s' (gV T bud T.D m1 n (c+1)))from vh K3.o.1 hT hn (k0:=c+1) hc1 hb hva);clear hva;go_wp2_with fail;refine HBg.o.mono ?_;rintro en w4 ⟨rfl,h4,t4⟩;have H4:=qh (And.intro h4 (And.intro (K3.o.2.1.trans t4) (h4.sn.trans H.o.sn.symm)));have c0:=(h4.sc (gw (show n<_ by rw[h4.sn];exact hn))).1;clear h4 t4;obtain⟨zz,hz⟩:∃zz,zz=(sv (gV T bud T.D m1 n (c+1)).S n).pc:=⟨_,rfl⟩;rw[<-hz]at c0;have HZ:=qh hz;clear hz;cases f1:(zz==10)
      ·cases f2:(zz==0);·go_wp2;go_ret;exact OpX.mk' (b:=false) RZ R8 H4.o.1 HA.o K3.o.2.2 H4.o.2.1
       ·go_wp2;go_ret;exact OpX.mk' (b:=true) R3 R8 H4.o.1 HA.o K3.o.2.2 H4.o.2.1
      ·go_wp2;go_ret;exact OpX.mk' (b:=true) R4 R8 H4.o.1 HA.o K3.o.2.2 H4.o.2.1
   ·rw[decide_eq_false e];go_wp2;go_ret;exact OpX.mk' (b:=false) (by rw[HG.o.1,HG.o.2 _ (by rw[HC.o.2.2.1]),HC.o.2.2.1,<-HC.o.1];exact(decide_eq_false QX).symm) (by rw[HE.o,if_pos e]) K2.o.1 HA.o K2.o.2.2 K2.o.2.1
end
end
section
open Go.RowKit
def DB (T:HTr)(bud:Int)(m:Hm)(k i:Int):Hm:=if k=0 then stepI T bud m i else if k=1 then mt T m i else if k=2 then i8 T bud m i else m
section
variable{w0 w w':World}{B:Nat->Prop}{x:Hx}{T:HTr}{bud:Int}{s s':Ar}{m m':Hm}{N M:Nat}{O:Nat->Nat->Option Nat}
theorem dY.act (h:dY T bud m O)(hT:T.Ok)(hb:0<=bud)(k i:Int):∃O',dY T bud (DB T bud m k i) O':=by
 have hi:∀j,okI m.S j->j.toNat<T.n:=λj hj=>by have:=(h.x 0).sl;obtain⟨h0,h1⟩:=hj;omega
 unfold DB;split
 ·unfold stepI;split;·rename_i hok;exact h.step hT hb (hi _ hok)
  ·exact⟨O,h⟩
 ·split
  ·unfold mt;split;·rename_i hok;obtain⟨O',h'⟩:=h.ask hT (hi _ hok);exact⟨O',h'⟩
   ·exact⟨O,h⟩
  ·split
   ·unfold i8;split;·rename_i hok;exact⟨O,h.leave hT (hi _ hok)⟩
    ·exact⟨O,h⟩
   ·exact⟨O,h⟩
end
end
section
open Go.RowKit
theorem vi (w:World) (vP vT:Value) (P:List Int) (h:RdL w vP 1 encI P) (h32:P.length<=1000) (p:Int):
    Calls Tryz.prog 140 #[.agg #[vP,vT],.int .i64 p] w λe w'=>∃v',e= .returned v'/\w'.ownsRow w.heap.size 3 1 v' (chL P p).length ((chL P p).flatMap encI)/\Below w.heap.size w w':=by
  obtain⟨i0,hi,hz0,hz1,hz2⟩:=info_parts Tryz.infoIn;have HI:=qh (And.intro hi (And.intro hz0 (And.intro hz1 hz2)));have hR:=h.alloc (.cells #[vP,vT] 24);obtain⟨A,cap,rfl,l1,l2,hr⟩:=hR;have HR:=qh hr;have hs0:(w.alloc (.cells #[.slice A P.length cap,vT] 24)).heap.size=w.heap.size+1:=by simp
  have HB:=qh ((Below.refl w.heap.size w).alloc (Nat.le_refl _) (.cells #[.slice A P.length cap,vT] 24));have b0:(w.alloc (.cells #[.slice A P.length cap,vT] 24)).cell? w.heap.size=some (.slice A P.length cap):=by simp[World.cell?_alloc_new]
  obtain⟨w1,hw1⟩:∃w1,w1=w.alloc (.cells #[.slice A P.length cap,vT] 24):=⟨_,rfl⟩;clear hi hz0 hz1 hz2 h hr;go_enter Tryz.func140,Tryz.ntmps140;rw[<-hw1]at HR HB b0 hs0;have HZ:=qh hs0;clear hs0;go_wp2;rw[<-hw1];clear hw1;go_loopw [5,11] (λo i wr=>∃k:Nat,i= .int .i64 k/\k<=P.length/\wr.ownsRow w1.heap.size 3 1 o (mw P p k).length ((mw P p k).flatMap encI)/\Below w1.heap.size w1 wr) (λ_ i _=>P.length-(intOf i).toNat);case atStart=>exact⟨0,rfl,by omega,World.ownsRow_nil _ _ _ _,Below.refl _ _⟩
  case round=>
    obtain⟨k,rfl,hk,hown,hbel⟩:=hrel;by_cases hlt:k<P.length
    · obtain⟨q,hq⟩:=aj hlt;obtain⟨bl,off,rfl,hbl,hc⟩:=HR.o QX;have c0:=(hbel.cell (p:=⟨bl,off+k*1+0,none⟩) hbl).trans (hc k _ hq 0 _ rfl);simp only[Nat.add_zero,Nat.mul_one]at c0;have hll:=kD P p k;have hsz:=hbel.size;have HS:=qh (xo P p hq);have HO:=qh (And.intro hown hbel);obtain⟨A9,c9,rfl⟩:=bO hown;clear hc hbel;cases hm:(q==p)
      · have HM:Kq (¬q=p):=qh RF;clear hown;go_wp2;go_roundw;case rel=>exact⟨k+1,by go_num,by omega,by rw[HS.o,if_neg HM.o];exact HO.o.1,HO.o.2⟩
        case measure=>simp[intOf];omega
      · have HM:Kq (q=p):=qh RF;go_wp2_with (at_builtin;refine wpList_append_own _ rfl _ _ 22 rfl w1.heap.size 3 i0 (.int .i64 0) 1 8 Tryz.underlying22 HI.o.1 HI.o.2.1 HI.o.2.2.1 HI.o.2.2.2 rfl QZ _ _ _ rfl (hown.alloc _) ⟨wr.heap.size,0,none⟩ 1 1 (encI k) rfl rfl (cell_one_new _ _ _) (jZ _) ?c3 ?c4 ?c5 ?_);case c3=>unfold maxLen;omega
        case c4=>omega
        case c5=>simp;omega
        intro v' w' hown' hgrow hnil;have HN:=qh (And.intro hown' hgrow);clear hown' hgrow hnil hown;go_wp2;go_roundw;case rel=>exact⟨k+1,by go_num,by omega,by rw[HS.o,if_pos HM.o,iz,List.length_append];exact HN.o.1,(HO.o.2.alloc hsz _).grown HN.o.2 Q1 (λj hj=>(HO.o.1.lt j hj).1)⟩
        case measure=>simp[intOf];omega
    · obtain rfl:k=P.length:=by omega
      have HO:=qh (And.intro hown hbel);clear hown hbel;go_wp2;go_ret;exact⟨_,rfl,cW HO.o.1 (by have:=HZ.o;omega),HB.o.trans (HO.o.2.mono (by have:=HZ.o;omega))⟩
end
section
open Go.RowKit
theorem Tryz.infoHs:(Tryz.prog.info? 255).map (λi=>(i.zero,i.size,i.bytes))=some (some (.agg #[.pointer none,.int .i64 0]),2,16):=by kernel_rfl
theorem Tryz.infoHr:(Tryz.prog.info? 249).map (λi=>(i.zero,i.size,i.bytes))=some (some (.pointer none),1,8):=by kernel_rfl
theorem Tryz.infoHl:(Tryz.prog.info? 252).map (λi=>(i.zero,i.size,i.bytes))=some (some (.slice none 0 0),1,24):=by kernel_rfl
def fQ (lb:Nat->Nat)(T:HTr)(t c:Nat):List Value:=(List.range c).flatMap λk=>[.pointer (some ⟨lb (T.pl t k),0,none⟩),.int .i64 (T.sl t k)]
theorem jb (lb:Nat->Nat)(T:HTr)(t c:Nat):fQ lb T t (c+1)=fQ lb T t c++[.pointer (some ⟨lb (T.pl t c),0,none⟩),.int .i64 (T.sl t c)]:=by unfold fQ;rw[List.range_succ,List.flatMap_append];simp
def gO (lb:Nat->Nat)(k:Nat):List Value:=(List.range k).map λv=> .pointer (some ⟨lb v,0,none⟩)
theorem sJ (lb:Nat->Nat)(k:Nat):gO lb (k+1)=gO lb k++[.pointer (some ⟨lb k,0,none⟩)]:=by unfold gO;rw[List.range_succ,List.map_append];rfl
end
end Go.Proofs.YtglokdbiggbkjaaGreat
