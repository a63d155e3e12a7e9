/- Joined texts. -/
import Derived.Deep.RegionLaw
import Derived.Deep.AppendLies
import Derived.Deep.RegionHeld3
import Derived.Deep.DeepCutAuto
import Derived.Test.YtglokdbiggbkjaaGreatMgLocksSafe0
import Derived.Test.YtglokdbiggbkjaaGreatMgLocksSafe1
import Derived.Test.YtglokdbiggbkjaaGreatMgLocksSafe4
import Derived.Test.YtglokdbiggbkjaaGreatMgLocksSafe8
import Derived.Test.YtglokdbiggbkjaaGreatMgLocksSafe15
import Derived.Test.YtglokdbiggbkjaaGreatMgLocksSafe17
import Derived.Test.YtglokdbiggbkjaaGreatMgLocksSafe18
import Derived.Test.YtglokdbiggbkjaaGreatMgLocksSafe20
set_option linter.unusedVariables false
set_option linter.unusedSimpArgs false
set_option maxRecDepth 100000
set_option maxHeartbeats 16000000
namespace Go.Proofs.YtglokdbiggbkjaaGreat
section
open Go.RowKit
def tZ (bud:Int)(vR vL:Value)(q n:Nat):Array Value:=#[.int .i64 bud,vR,vL,.slice (some ⟨q,0,none⟩) n n]
def TBr (l a:Nat)(B0:Nat->Prop)(w:World)(b:Nat)(P T:List Int)(k:Nat)(vR:Value):Prop:=
 (ai P k=[]/\gW B0 w b P T)\/∃B',d7 B' w b P T/\(∀i,B' i->i≠l/\i≠a/\i<w.heap.size)/\∀g,vR.ownBlock=some g->¬B' g
structure NwR (w5 wr:World)(l b a g q:Nat)(bud:Int)(P T:List Int)(tr:HTr)(B0:Nat->Prop)(k:Nat)(vR:Value)(lb qb:Nat->Nat)(s:Ar):Prop where
 tn:aa [l,b,a] w5 wr
 blk:Blk wr l 247 (tZ bud vR (.slice none 0 0) q tr.n)
 own:wr.ownsRow w5.heap.size 249 1 vR k (gO lb k)
 ar:aA wr a g s
 cat:s.W=dk (hm0 tr).W k
 room:s=⟨s.W,s.room,0,0,0,false⟩/\∀v,v<tr.np->(dk (hm0 tr).W v).length+(2*tr.nv v+1)<=s.room
 rk:∀v,v<k->Blk wr (lb v) 319 #[↑a,.int .i64 ((dk (hm0 tr).W v).length+1),.slice (some ⟨qb v,0,none⟩) (tr.nv v) (tr.nv v)]
 rs:∀v,v<k->dq wr (qb v) (List.replicate (tr.nv v) Sp.zero)
 lo:∀v,v<k->w5.heap.size<=lb v/\w5.heap.size<=qb v/\vR.ownBlock≠some (lb v)/\vR.ownBlock≠some (qb v)
 ne:∀v u,v<k->u<k->lb v≠qb u
 inj:∀v u,v<k->u<k->qb v=qb u->v=u
 tab:TBr l a B0 wr b P T k vR
theorem aa.grownByH{w w':World}{row:Option Nat}(h:w.grownBy w' row):aa row.toList w w':=
 ⟨h.os,h.tape,h.output,h.size,λi hi hn=>h.block i hi RW⟩
theorem uB (lb:Nat->Nat)(x:Nat):∀k,gO (aW lb k x) k=gO lb k:=λk=>by
 unfold gO
 refine List.map_congr_left λv hv=>?_
 rw[aX _ _ (by have:=List.mem_range.1 hv;omega)]
section
variable{w5 wr w':World}{l b a g q:Nat}{bud:Int}{P T:List Int}{tr:HTr}{B0:Nat->Prop}{k:Nat}{vR:Value}{lb qb:Nat->Nat}{s:Ar}
theorem NwR.move (h:NwR w5 wr l b a g q bud P T tr B0 k vR lb qb s)(t:aa [b] wr w')(hb:b<w5.heap.size)(hl:b≠l)(ha:b≠a)(hg:b≠g)(ht:TBr l a B0 w' b P T k vR):NwR w5 w' l b a g q bud P T tr B0 k vR lb qb s:=by
 refine⟨h.tn.trans (t.mono QY),t.blk h.blk (by simpa using λe=>hl e.symm),aa.own h.own t (λx hx=>?_),h.ar.turns t (by simpa using λe=>ha e.symm) (by simpa using λe=>hg e.symm),h.cat,h.room,λv hv=>t.blk (h.rk v hv) ?_,λv hv=>(h.rs v hv).turns t ?_,h.lo,h.ne,h.inj,ht⟩;·have:=(h.own.lt x hx).1;simp;omega
 ·have:=(h.lo v hv).1;simp;omega
 ·have:=(h.lo v hv).2.1;simp;omega
theorem TBr.turns0 (h:TBr l a B0 wr b P T k vR)(t:aa [] wr w'):TBr l a B0 w' b P T k vR:=by
 rcases h with⟨h0,h1⟩|⟨B',h0,h1,h2⟩
 ·exact .inl ⟨h0,h1.turns t QY⟩
 ·exact .inr ⟨B',h0.turns t QY,λi hi=>⟨(h1 i hi).1,(h1 i hi).2.1,Nat.lt_of_lt_of_le (h1 i hi).2.2 t.size⟩,h2⟩
theorem NwR.below (h:NwR w5 wr l b a g q bud P T tr B0 k vR lb qb s)(t:Below wr.heap.size wr w')(hb:b<w5.heap.size)(hl:b≠l)(ha:b≠a)(hg:b≠g):NwR w5 w' l b a g q bud P T tr B0 k vR lb qb s:=
 h.move (aa.of_below t) hb hl ha hg (h.tab.turns0 (aa.of_below t))
def BQ (l a:Nat)(w:World)(b:Nat)(P T:List Int)(vR:Value):Prop:=∃B',d7 B' w b P T/\(∀i,B' i->i≠l/\i≠a/\i<w.heap.size)/\∀g,vR.ownBlock=some g->¬B' g
theorem NwR.mates (h:NwR w5 wr l b a g q bud P T tr B0 k vR lb qb s) (hc:a5 P T=0) (hb:b<w5.heap.size) (hl:b≠l) (ha:b≠a) (hg:b≠g) (h0:∀i,B0 i->i≠l/\i≠a/\i<w5.heap.size) {j:Nat} {x:Int} (hj:(ab P)[j]? =some x):
    Calls Tryz.prog 138 #[↑b,.int .i64 j] wr λe w'=>e= .returned (.int .i64 ((T.count x:Nat):Int))/\NwR w5 w' l b a g q bud P T tr B0 k vR lb qb s/\BQ l a w' b P T vR/\aa [b] wr w':=by
  have hll:=h.blk.lt;have hal:=h.ar.blk.lt;rcases h.tab with⟨_,t0⟩|tf
  · refine(AI B0 wr b P T hc t0 hj).mono ?_;rintro e w' ⟨he,ht,tn⟩;have hs:=h.tn.size
    have F:BQ l a w' b P T vR:=⟨_,ht.lt,λi hi=>by
      rcases hi.1 with h4|h4
      · have:=h0 i h4;exact⟨this.1,this.2.1,hi.2⟩
      · exact⟨by omega,by omega,hi.2⟩,λg' hg' hB=>by
      have:=h.own.lt g' hg';rcases hB.1 with h4|h4
      · have:=(h0 _ h4).2.2;omega
      · omega⟩
    exact⟨he,h.move tn hb hl ha hg (.inr F),F,tn⟩
  · obtain⟨B',t1,t2,t3⟩:=tf;refine(AH wr b P T t1.f hj).mono ?_;rintro e w' ⟨he,rfl⟩;exact⟨he,h,⟨B',t1,t2,t3⟩,aa.refl _ _⟩
theorem NwR.step {w2 w3 w4:World} {l' q' cap cap3 g3:Nat} {A:Option Addr} {o:Obj} (h:NwR w5 w2 l b a g q bud P T tr B0 k (.slice A k cap) lb qb s) (hT:BQ l a w2 b P T (.slice A k cap)\/(ai P (k+1)=[]/\gW B0 w2 b P T)) (h0:∀i,B0 i->i≠l/\i≠a/\i<w5.heap.size) (hl5:l<w5.heap.size) (ha5:a<w5.heap.size) (hg5:g<w5.heap.size) (hla:l≠a) (hlg:l≠g) {s':Ar} (hs':s'={s with W:=s.W++List.replicate (2*tr.nv k+1) 0})
    (hr:cI w3 l' a g q' (s.W.length+1) ⟨s',List.replicate (tr.nv k) Sp.zero⟩) (hl':w2.heap.size<=l') (hq':w2.heap.size<=q') (t3:aa [a] w2 w3)
    (h4:w4.ownsRow w5.heap.size 249 1 (.slice (some ⟨g3,0,none⟩) (k+1) cap3) (k+1) (gO lb k++[.pointer (some ⟨l',0,none⟩)])) (hg:(w3.alloc o).grownBy w4 (Value.slice A k cap).ownBlock) (hg3:(Value.slice A k cap).ownBlock=some g3\/g3=(w3.alloc o).heap.size):
    NwR w5 (w4.setCell ⟨l,1,none⟩ (.slice (some ⟨g3,0,none⟩) (k+1) cap3)) l b a g q bud P T tr B0 (k+1) (.slice (some ⟨g3,0,none⟩) (k+1) cap3) (aW lb k l') (aW qb k q') s':=by
  have hlow:∀x,(Value.slice A k cap).ownBlock=some x->w5.heap.size<=x/\x<w2.heap.size:=λx hx=>h.own.lt x hx;have tg:aa (Value.slice A k cap).ownBlock.toList (w3.alloc o) w4:=aa.grownByH hg;have nS:∀x,(Value.slice A k cap).ownBlock≠some x->x∉(Value.slice A k cap).ownBlock.toList:=λx hx hm=>hx RF;have hs3:w2.heap.size<=w3.heap.size:=t3.size;have hs4:w3.heap.size+1<=w4.heap.size:=by have:=tg.size;simpa using this
  have h52:w5.heap.size<=w2.heap.size:=h.tn.size;have hl3:l'<w3.heap.size:=hr.lk.lt;have hq3:q'<w3.heap.size:=hr.sp.lt;have hg35:w5.heap.size<=g3:=(h4.lt g3 rfl).1;have ts:aa [l] w4 (w4.setCell ⟨l,1,none⟩ (.slice (some ⟨g3,0,none⟩) (k+1) cap3)):=(aa.refl _ _).setCell (.inl QY) _
  have t3F:aa (l :: (Value.slice A k cap).ownBlock.toList) w3 (w4.setCell ⟨l,1,none⟩ (.slice (some ⟨g3,0,none⟩) (k+1) cap3)):=
    (((aa.refl _ _).alloc o).trans (tg.mono λi hi=>List.mem_cons_of_mem _ hi)).trans (ts.mono QY)
  have t2F:aa (a :: l :: (Value.slice A k cap).ownBlock.toList) w2 (w4.setCell ⟨l,1,none⟩ (.slice (some ⟨g3,0,none⟩) (k+1) cap3)):=
    (t3.mono QY).trans (t3F.mono λi hi=>List.mem_cons_of_mem _ hi)
  have hA:(Value.slice A k cap).ownBlock≠some a:=λe=>by have:=hlow a e;omega
  have hL:(Value.slice A k cap).ownBlock≠some l:=λe=>by have:=hlow l e;omega
  have hG:(Value.slice A k cap).ownBlock≠some g:=λe=>by have:=hlow g e;omega
  have hL':(Value.slice A k cap).ownBlock≠some l':=λe=>by have:=hlow l' e;omega
  have hQ':(Value.slice A k cap).ownBlock≠some q':=λe=>by have:=hlow q' e;omega
  have n3F:∀x,x≠l->(Value.slice A k cap).ownBlock≠some x->x∉l :: (Value.slice A k cap).ownBlock.toList:=λx h1 h2 hm=>by
    rcases List.mem_cons.1 hm with e|e
    · exact h1 e
    · exact nS x h2 e
  have n2F:∀x,x≠a->x≠l->(Value.slice A k cap).ownBlock≠some x->x∉a :: l :: (Value.slice A k cap).ownBlock.toList:=λx h0 h1 h2 hm=>by
    rcases List.mem_cons.1 hm with e|e
    · exact h0 e
    · exact n3F x h1 h2 e
  have hG3:∀x,x<w3.heap.size->(Value.slice A k cap).ownBlock≠some x->g3≠x:=λx h1 h2 e=>by
    subst e;rcases hg3 with e|e
    · exact h2 e
    · have e9:(w3.alloc o).heap.size=w3.heap.size+1:=(by simp);omega
  have lbo:∀v,v<k->lb v<w2.heap.size/\qb v<w2.heap.size:=λv hv=>⟨(h.rk v hv).lt,(h.rs v hv).lt⟩;have hcl:s.W.length=(dk (hm0 tr).W k).length:=by rw[h.cat]
  subst hs';refine⟨?_,?_,?_,?_,?_,⟨congrArg (λz:Ar=>{z with W:=s.W++List.replicate (2*tr.nv k+1) 0}) h.room.1,h.room.2⟩,λv hv=>?_,λv hv=>?_,λv hv=>?_,λv u hv hu=>?_,λv u hv hu e=>?_,?_⟩
  · refine((h.tn.mono (T:=l :: b :: a :: (Value.slice A k cap).ownBlock.toList) QY).trans (t2F.mono λi hi=>?_)).fresh λi hi=>?_
    · rcases List.mem_cons.1 hi with e|hi
      · simp[e]
      · rcases List.mem_cons.1 hi with e|hi
        · simp[e]
        · exact List.mem_cons_of_mem _ (List.mem_cons_of_mem _ (List.mem_cons_of_mem _ hi))
    · rcases List.mem_cons.1 hi with e|hi
      · exact .inl (by simp[e])
      · rcases List.mem_cons.1 hi with e|hi
        · exact .inl (by simp[e])
        · rcases List.mem_cons.1 hi with e|hi
          · exact .inl (by simp[e])
          · exact .inr (hlow i Rr).1
  · exact(tg.blk ((t3.blk h.blk (by simpa using hla)).alloc o) (nS l hL)).set_ 1 _
  · rw[sJ,aV,uB]
    exact aa.own h4 ts (λx hx=>by
      injection hx with hx;subst hx
      simp;omega)
  · exact hr.ar.turns t3F (n3F a (λe=>hla e.symm) hA) (n3F g (λe=>hlg e.symm) hG)
  · show s.W++_=dk (hm0 tr).W k++(hm0 tr).W k;rw[h.cat];rfl
  · by_cases e:v=k;· subst e;rw[aV,aV,<-hcl];have:=hr.lk;simp only[List.length_replicate]at this;exact t3F.blk this (n3F l' QX hL')
    · have hv':v<k:=(by omega);rw[aX _ _ e,aX _ _ e];have h1:=h.lo v hv';exact t2F.blk (h.rk v hv') (n2F _ QX QX h1.2.2.1)
  · by_cases e:v=k;· subst e;rw[aV];exact hr.sp.turns t3F (n3F q' QX hQ')
    · have hv':v<k:=(by omega);rw[aX _ _ e];have h1:=h.lo v hv';exact(h.rs v hv').turns t2F (n2F _ QX QX h1.2.2.2)
  · by_cases e:v=k
    · subst e;rw[aV,aV];refine⟨by omega,by omega,λe=>?_,λe=>?_⟩;· injection e with e;exact hG3 l' hl3 hL' e
      · injection e with e;exact hG3 q' hq3 hQ' e
    · have hv':v<k:=(by omega);rw[aX _ _ e,aX _ _ e];have h1:=h.lo v hv';have h2:=lbo v hv';refine⟨h1.1,h1.2.1,λe=>?_,λe=>?_⟩;· injection e with e;exact hG3 _ QX h1.2.2.1 e
      · injection e with e;exact hG3 _ QX h1.2.2.2 e
  · by_cases e:v=k
    · subst e;rw[aV];by_cases e2:u=v;· subst e2;rw[aV];exact hr.lq
      · rw[aX _ _ e2];have:=lbo u QX;omega
    · rw[aX _ _ e];by_cases e2:u=k;· subst e2;rw[aV];have:=lbo v QX;omega
      · rw[aX _ _ e2];exact h.ne v u QX QX
  · by_cases e1:v=k
    · by_cases e2:u=k;· rw[e1,e2]
      · rw[e1,aV,aX _ _ e2]at e;have:=lbo u QX;omega
    · by_cases e2:u=k;· rw[e2,aV,aX _ _ e1]at e;have:=lbo v QX;omega
      · rw[aX _ _ e1,aX _ _ e2]at e;exact h.inj v u QX QX e
  · rcases hT with⟨B',k1,k2,k3⟩|⟨k1,k2⟩
    · refine .inr ⟨B',k1.turns t2F λi hi hB=>?_,λi hB=>⟨(k2 i hB).1,(k2 i hB).2.1,?_⟩,λx hx hB=>?_⟩
      · have:=k2 i hB;simp at hi;rcases hi with e|e|e
        · exact this.2.1 e
        · exact this.1 e
        · exact k3 i e hB
      · have:=(k2 i hB).2.2;have:=ts.size;omega
      · injection hx with hx;subst hx;rcases hg3 with e|e
        · exact k3 _ e hB
        · have:=(k2 _ hB).2.2;rw[e]at this;simp at this;omega
    · refine .inl ⟨k1,k2.turns t2F λi hi hB=>?_⟩;have:=h0 i hB;simp at hi;rcases hi with e|e|e
      · omega
      · omega
      · have:=(hlow i e).1;omega
end
end
section
open Go.RowKit
def im (ub uk:Nat->Nat)(D m:Nat):List Value:=(List.range m).map λt=> .slice (some ⟨ub t,0,none⟩) D (uk t)
theorem sN (ub uk:Nat->Nat)(D m:Nat):im ub uk D (m+1)=im ub uk D m++[.slice (some ⟨ub m,0,none⟩) D (uk m)]:=by unfold im;rw[List.range_succ,List.map_append];rfl
theorem uI (ub uk:Nat->Nat)(D x y:Nat):∀m,im (aW ub m x) (aW uk m y) D m=im ub uk D m:=λm=>by
 unfold im
 refine List.map_congr_left λv hv=>?_
 have:=List.mem_range.1 hv
 rw[aX _ _ QX,aX _ _ QX]
theorem mo (lb:Nat->Nat)(T:HTr)(t:Nat):∀c,(fQ lb T t c).length=c*2
 |0=>rfl
 |c+1=>by rw[jb,List.length_append,mo lb T t c];show c*2+2=_;omega
theorem jH (lb:Nat->Nat)(T:HTr)(t:Nat):∀c k,k<c->(fQ lb T t c)[k*2]? =some (.pointer (some ⟨lb (T.pl t k),0,none⟩))/\(fQ lb T t c)[k*2+1]? =some (.int .i64 (T.sl t k))
 |0,k,h=>by omega
 |c+1,k,h=>by
  have hl:=mo lb T t c;rw[jb];by_cases e:k=c;·subst e;rw[List.getElem?_append_right QX,List.getElem?_append_right QX,hl,Nat.sub_self,show k*2+1-k*2=1 by omega];exact JX
  ·rw[List.getElem?_append_left QX,List.getElem?_append_left QX];exact jH lb T t c k QX
theorem om (lb:Nat->Nat)(n v:Nat)(h:v<n):(gO lb n)[v]? =some (.pointer (some ⟨lb v,0,none⟩)):=by unfold gO;simp[h]
theorem uH (ub uk:Nat->Nat)(D m t:Nat)(h:t<m):(im ub uk D m)[t]? =some (.slice (some ⟨ub t,0,none⟩) D (uk t)):=by unfold im;simp[h]
structure NwL (w6 wl:World)(l q:Nat)(bud:Int)(tr:HTr)(vR:Value)(lb:Nat->Nat)(m:Nat)(vL:Value)(ub uk:Nat->Nat):Prop where
 tn:aa [l] w6 wl
 blk:Blk wl l 247 (tZ bud vR vL q tr.n)
 own:wl.ownsRow w6.heap.size 252 1 vL m (im ub uk tr.D m)
 rs:∀t,t<m->wl.ownsRow w6.heap.size 255 2 (.slice (some ⟨ub t,0,none⟩) tr.D (uk t)) tr.D (fQ lb tr t tr.D)
 lo:∀t,t<m->vL.ownBlock≠some (ub t)
section
variable{w5 w6 wl w8 w9:World}{l b a g q:Nat}{bud:Int}{P T:List Int}{tr:HTr}{B0:Nat->Prop}{m:Nat}{vR:Value}{lb qb ub uk:Nat->Nat}{s:Ar}
theorem NwL.below{vL:Value}(h:NwL w6 wl l q bud tr vR lb m vL ub uk)(k:Below wl.heap.size wl w8):NwL w6 w8 l q bud tr vR lb m vL ub uk:=
 have t:aa [] wl w8:=aa.of_below k
 ⟨h.tn.trans (t.mono QY),t.blk h.blk QY,aa.own h.own t QY,λu hu=>aa.own (h.rs u hu) t QY,h.lo⟩
theorem NwL.step {A:Option Addr} {cap nb cv g9 c9:Nat} {o:Obj} (h:NwL w6 wl l q bud tr vR lb m (.slice A m cap) ub uk) (hl6:l<w6.heap.size) (hd:1<=tr.D) (hb:Below wl.heap.size wl w8) (h8:w8.ownsRow wl.heap.size 255 2 (.slice (some ⟨nb,0,none⟩) tr.D cv) tr.D (fQ lb tr m tr.D))
    (h9:w9.ownsRow w6.heap.size 252 1 (.slice (some ⟨g9,0,none⟩) (m+1) c9) (m+1) (im ub uk tr.D m++[.slice (some ⟨nb,0,none⟩) tr.D cv])) (hg:(w8.alloc o).grownBy w9 (Value.slice A m cap).ownBlock) (hg9:(Value.slice A m cap).ownBlock=some g9\/g9=(w8.alloc o).heap.size):
    NwL w6 (w9.setCell ⟨l,2,none⟩ (.slice (some ⟨g9,0,none⟩) (m+1) c9)) l q bud tr vR lb (m+1) (.slice (some ⟨g9,0,none⟩) (m+1) c9) (aW ub m nb) (aW uk m cv):=by
  have h8':=h.below hb;have hlow:∀x,(Value.slice A m cap).ownBlock=some x->w6.heap.size<=x/\x<wl.heap.size:=λx hx=>h.own.lt x hx;have tg:aa (Value.slice A m cap).ownBlock.toList (w8.alloc o) w9:=aa.grownByH hg;have nS:∀x,(Value.slice A m cap).ownBlock≠some x->x∉(Value.slice A m cap).ownBlock.toList:=λx hx hm=>hx RF;have hs8:wl.heap.size<=w8.heap.size:=hb.size;have h6l:w6.heap.size<=wl.heap.size:=h.tn.size;have hg96:w6.heap.size<=g9:=(h9.lt g9 rfl).1;have hnb:=h8.lt nb rfl;have hL:(Value.slice A m cap).ownBlock≠some l:=λe=>by have:=hlow l e;omega
  have hNB:(Value.slice A m cap).ownBlock≠some nb:=λe=>by have:=hlow nb e;omega
  have ts:aa [l] w9 (w9.setCell ⟨l,2,none⟩ (.slice (some ⟨g9,0,none⟩) (m+1) c9)):=(aa.refl _ _).setCell (.inl QY) _
  have t8F:aa (l :: (Value.slice A m cap).ownBlock.toList) w8 (w9.setCell ⟨l,2,none⟩ (.slice (some ⟨g9,0,none⟩) (m+1) c9)):=
    (((aa.refl _ _).alloc o).trans (tg.mono λi hi=>List.mem_cons_of_mem _ hi)).trans (ts.mono QY)
  have nF:∀x,x≠l->(Value.slice A m cap).ownBlock≠some x->x∉l :: (Value.slice A m cap).ownBlock.toList:=λx h1 h2 hm=>by
    rcases List.mem_cons.1 hm with e|e
    · exact h1 e
    · exact nS x h2 e
  have hG9:∀x,x<w8.heap.size->(Value.slice A m cap).ownBlock≠some x->g9≠x:=λx h1 h2 e=>by
    subst e;rcases hg9 with e|e
    · exact h2 e
    · have e9:(w8.alloc o).heap.size=w8.heap.size+1:=(by simp);omega
  refine⟨?_,?_,?_,λt ht=>?_,λt ht=>?_⟩
  · refine((h8'.tn.mono (T:=l :: (Value.slice A m cap).ownBlock.toList) QY).trans t8F).fresh λi hi=>?_;rcases List.mem_cons.1 hi with e|e
    · exact .inl (by simp[e])
    · exact .inr (hlow i Rf).1
  · exact(tg.blk (h8'.blk.alloc o) (nS l hL)).set_ 2 _
  · rw[sN,aV,aV,uI]
    exact aa.own h9 ts (λx hx=>by
      injection hx with hx;subst hx
      simp;omega)
  · by_cases e:t=m;· subst e;rw[aV,aV];refine aa.own (cW h8 h6l) t8F λx hx=>?_;injection hx with hx;subst hx;exact nF _ (by have:=hnb.1;show nb≠l;omega) hNB
    · have ht':t<m:=(by omega);rw[aX _ _ e,aX _ _ e];refine aa.own (h8'.rs t ht') t8F λx hx=>?_;injection hx with hx;subst hx;have:=((h.rs t ht').lt (ub t) rfl).1;exact nF _ (by show ub t≠l;omega) (h.lo t ht')
  · by_cases e:t=m;· subst e;rw[aV];intro e;injection e with e;exact hG9 nb hnb.2 hNB e
    · have ht':t<m:=(by omega);rw[aX _ _ e];intro e;injection e with e;have:=((h.rs t ht').lt (ub t) rfl).2;exact hG9 _ QX (h.lo t ht') e
def F0 (l a g q:Nat)(lb qb:Nat->Nat)(bR kR bL kL:Nat)(ub uk:Nat->Nat):Hx:=⟨l,a,g,q,lb,qb,bR,0,kR,bL,0,kL,ub,λ_=>0,uk⟩
def hxB (l bR bL:Nat)(lb ub:Nat->Nat)(T:HTr)(i:Nat):Prop:=i=l\/i=bR\/i=bL\/(∃t,t<T.n/\i=ub t)\/∃v,v<T.np/\i=lb v
theorem Ia {bR kR bL kL lo:Nat} (hN:NwR w5 w6 l b a g q bud P T tr B0 tr.np (.slice (some ⟨bR,0,none⟩) tr.np kR) lb qb s) (hL:NwL w6 wl l q bud tr (.slice (some ⟨bR,0,none⟩) tr.np kR) lb tr.n (.slice (some ⟨bL,0,none⟩) tr.n kL) ub uk)
    (hq:dq w6 q (List.replicate tr.n Sp.zero)) (hok:tr.Ok) (h5:tr.D<=5) (hn:tr.n<=32) (hp:tr.np<=32) (hl:lo<=l/\l<w5.heap.size) (hq5:lo<=q/\q<w5.heap.size) (ha:a<lo) (hg:g<lo) (hlq:l≠q):
    aP (hxB l bR bL lb ub tr) wl (F0 l a g q lb qb bR kR bL kL ub uk) tr bud s (hm0 tr)/\∀i,hxB l bR bL lb ub tr i->lo<=i:=by
  have h56:=hN.tn.size;have h6l:=hL.tn.size;have hbR:=hN.own.lt bR rfl;have hbL:=hL.own.lt bL rfl;have hub:∀t,t<tr.n->w6.heap.size<=ub t/\ub t<wl.heap.size:=λt ht=>(hL.rs t ht).lt (ub t) rfl;have hlb:∀v,v<tr.np->lb v<w6.heap.size/\qb v<w6.heap.size:=λv hv=>⟨(hN.rk v hv).lt,(hN.rs v hv).lt⟩;have hlo:∀v,v<tr.np->w5.heap.size<=lb v/\w5.heap.size<=qb v/\bR≠lb v/\bR≠qb v:=λv hv=>by obtain⟨a1,a2,a3,a4⟩:=hN.lo v hv;exact⟨a1,a2,λe=>a3 (by rw[<-e];rfl),λe=>a4 (by rw[<-e];rfl)⟩
  have hd:=hok.d1;have t:=hL.tn;have hPl:∀v,((hm0 tr).P v).length=tr.nv v:=λv=>by simp[hm0]
  have hWl:∀v,((hm0 tr).W v).length=2*tr.nv v+1:=λv=>by simp[hm0]
  have hkR:tr.np<=kR:=by
    rcases hN.own.2 with⟨e,_⟩|⟨_,_,_,e,_,_,h1,_⟩
    · simp at e
    · injection e with _ _ e;omega
  have hkL:tr.n<=kL:=by
    rcases hL.own.2 with⟨e,_⟩|⟨_,_,_,e,_,_,h1,_⟩
    · simp at e
    · injection e with _ _ e;omega
  have huk:∀u,u<tr.n->tr.D<=uk u:=λu hu=>by
    rcases(hL.rs u hu).2 with⟨e,_⟩|⟨_,_,_,e,_,_,h1,_⟩
    · simp at e
    · injection e with _ _ e;omega
  refine⟨⟨⟨.inl rfl,.inr (.inl rfl),.inr (.inr (.inl rfl)),λu hu=> .inr (.inr (.inr (.inl ⟨u,hu,rfl⟩))),λv hv=> .inr (.inr (.inr (.inr ⟨v,hv,rfl⟩))),?_,?_,?_,λv hv=>?_,λv hv=>?_,λv hv=>?_,hN.inj,hn,hp,h5,hok.nv32,hkR,hkL,huk⟩,
    ?_,hN.cat,λv _=>hWl v,hL.blk,by simp[hm0],?_,λv hv=>?_,λv _=>hPl v,λv hv=>?_,λv hv=>?_,λu hu=>?_,λu k hu hk=>?_,λu k hu hk=>?_,λi hi=>?_⟩,λi hi=>?_⟩
  · intro i hi hB
    have hi':i=a\/i=g\/i=q\/∃v,v<tr.np/\qb v=i:=by
      unfold mvL F0 at hi;rcases List.mem_append.1 hi with hi|hi
      · simp at hi;omega
      · obtain⟨v,hv,e⟩:=List.mem_map.1 hi;exact .inr (.inr (.inr ⟨v,List.mem_range.1 hv,e⟩))
    rcases hB with e|e|e|⟨u,hu,e⟩|⟨u,hu,e⟩
    · rcases hi' with e2|e2|e2|⟨v,hv,e2⟩
      · omega
      · omega
      · omega
      · have:=hlo v hv;omega
    · rcases hi' with e2|e2|e2|⟨v,hv,e2⟩
      · omega
      · omega
      · omega
      · have:=hlo v hv;omega
    · rcases hi' with e2|e2|e2|⟨v,hv,e2⟩
      · omega
      · omega
      · omega
      · have:=hlb v hv;omega
    · have:=hub u hu;rcases hi' with e2|e2|e2|⟨v,hv,e2⟩
      · omega
      · omega
      · omega
      · have:=hlb v hv;omega
    · have:=hlo u hu;rcases hi' with e2|e2|e2|⟨v,hv,e2⟩
      · omega
      · omega
      · omega
      · exact hN.ne u v hu hv QX
  · show q≠a;omega
  · show q≠g;omega
  · show qb v≠a;have:=hlo v hv;omega
  · show qb v≠g;have:=hlo v hv;omega
  · show qb v≠q;have:=hlo v hv;omega
  · exact hN.ar.turns t Q1 Q1
  · exact hq.turns t Q1
  · show Blk wl (lb v) _ #[_,_,.slice _ ((hm0 tr).P v).length ((hm0 tr).P v).length];rw[hPl];exact t.blk (hN.rk v hv) (by have:=hlo v hv;simp;omega)
  · exact(hN.rs v hv).turns t (by have:=hlo v hv;simp;omega)
  · have c:=hN.own.cellAt v QX;rw[om _ _ _ hv]at c;show wl.cell? ⟨bR,0+v,none⟩=_;rw[Nat.zero_add];exact t.cell c Q1
  · have c:=hL.own.cellAt u QX;rw[uH _ _ _ _ _ hu]at c;show wl.cell? ⟨bL,0+u,none⟩=_;rw[Nat.zero_add];exact c
  · have c:=(hL.rs u hu).cellAt (k*2) QX;rw[(jH lb tr u tr.D k hk).1]at c;show wl.cell? ⟨ub u,0+k*2,none⟩=_;rw[Nat.zero_add];exact c
  · have c:=(hL.rs u hu).cellAt (k*2+1) QX;rw[(jH lb tr u tr.D k hk).2]at c;show wl.cell? ⟨ub u,0+k*2+1,none⟩=_;rw[Nat.zero_add];exact c
  · rcases hi with e|e|e|⟨u,hu,e⟩|⟨u,hu,e⟩
    · omega
    · omega
    · omega
    · have:=hub u hu;omega
    · have:=hlb u hu;omega
  · rcases hi with e|e|e|⟨u,hu,e⟩|⟨u,hu,e⟩
    · omega
    · omega
    · omega
    · have:=hub u hu;omega
    · have:=hlo u hu;omega
end
end
section
open Go.RowKit
theorem se{P:List Int}{k:Nat}(hk:k<P.length):chL P k=[]↔da P k=true:=by refine⟨λh=>?_,vJ⟩;unfold da;rw[decide_eq_true_eq];refine⟨by omega,by omega,λhm=>?_⟩;obtain⟨n,hn⟩:=List.getElem?_of_mem hm;have:=AL hn;rw[h]at this;cases this
theorem CN{P:List Int}{k:Nat}(hk:k<P.length)(h:da P k=true):(ab P)[(ai P k).length]? =some (k:Int):=by
 have key:∀d,(ai P (k+1+d))[(ai P k).length]? =some (k:Int)/\(ai P k).length<(ai P (k+1+d)).length:=by
  intro d;induction d with
  |zero=>have e:ai P (k+1)=ai P k++[(k:Int)]:=(by rw[cj,if_pos h]);show(ai P (k+1))[_]? =_/\_<(ai P (k+1)).length;rw[e];exact⟨by simp,by simp⟩
  |succ d ih=>
   show(ai P (k+1+d+1))[_]? =_/\_<(ai P (k+1+d+1)).length;rw[cj P (k+1+d)];split;·exact⟨by rw[List.getElem?_append_left ih.2];exact ih.1,by simp;omega⟩
   ·exact ih
 have:=(key (P.length-(k+1))).1;rwa [show k+1+(P.length-(k+1))=P.length by omega]at this
theorem uy{P T:List Int}(h:a5 P T=0){k:Nat}(hk:k<P.length):1<=nvT P T k/\nvT P T k<=32:=by
 refine⟨?_,(jN h).nv32 k hk⟩;unfold nvT;split;·omega
 ·rename_i hn;have:=List.length_pos_iff.2 hn;omega
theorem zg{P T:List Int}(h:a5 P T=0){k:Nat}(hk:k<=P.length):(dk (hm0 (cf P T)).W k).length<=2080:=by
 have hml:=bh (aR h).1
 have h1:=p9 (W:=(hm0 (cf P T)).W) (b:=65) k λv hv=>by
  have:=(uy h (show v<P.length by omega)).2;have e:((hm0 (cf P T)).W v).length=2*nvT P T v+1:=by simp[hm0,cf]
  omega
 omega
theorem slT{P T:List Int}(h:a5 P T=0){t:Nat}(ht:t<T.length){x:Int}(a:XAt P T t x){k:Nat}(hk:k<(i3 P T).toNat):(((cf P T).sl t k:Nat):Int)=slX P T t x k:=by
 have ex:T.getD t 0=x:=ba a.at_;show(((slX P T t (T.getD t 0) k).toNat:Nat):Int)=_;rw[ex];cases k with
 |zero=>
  have:0<=slX P T t x 0:=by show 0<=cr T t;unfold cr;omega
  omega
 |succ k=>obtain⟨v,u,j,_,_,_,_,b5,_⟩:=a.above h hk;rw[b5];omega
theorem E8{P T:List Int}(h:a5 P T=0):∀v,v<P.length->(dk (hm0 (cf P T)).W v).length+(2*(cf P T).nv v+1)<=4096:=λv hv=>by
 have h1:=zg h (Nat.le_of_lt hv)
 have h2:(cf P T).nv v<=32:=(uy h hv).2
 omega
theorem Bh {w:World} {a g:Nat} {s:Ar} (h:aA w a g s) (n:Nat) (h1:1<=n) (h2:n<=32) (hr:s.W.length+(2*n+1)<=s.room):
    Calls Tryz.prog 141 #[↑a,.int .i64 n] w λe w'=>∃l q,e= .returned (.tuple #[.pointer (some ⟨l,0,none⟩),.int .i64 0])/\cI w' l a g q (s.W.length+1) ⟨{s with W:=s.W++List.replicate (2*n+1) 0},List.replicate n Sp.zero⟩/\w.heap.size<=l/\w.heap.size<=q/\aa [a] w w':=by
  refine(xX h n).mono ?_;intro e w' hN;have e0:fK s n=0:=by unfold fK;rw[if_neg QX,if_neg QX]
  unfold pr at hN;rw[if_pos e0]at hN;obtain⟨l,q,k1,k2,k3⟩:=hN;rw[show(2*(n:Int)+1).toNat=2*n+1 by omega,Int.toNat_natCast]at k2;exact⟨l,q,k1,k2,k3⟩
theorem zV (l:List Int):l.flatMap encI=l.map (Value.int .i64):=by
 induction l with
 |nil=>rfl
 |cons a l ih=>rw[List.flatMap_cons,ih];rfl
theorem qc (w:World)(x y:Value)(t:TypeId):∀j u,[x,y][j]? =some u->(w.alloc (.cells #[x,y] t)).cell? ((⟨w.heap.size,0,none⟩:Addr).add j)=some u:=by
 intro j u hj;match j,hj with
 |0,hj=>simp at hj;subst hj;simp[Addr.add,World.cell?_alloc_new]
 |1,hj=>simp at hj;subst hj;simp[Addr.add,World.cell?_alloc_new]
 |n+2,hj=>simp at hj
end
section
open Go.RowKit
def Fr (w:World)(a g:Nat)(s:Ar)(bud:Int)(P T:List Int)(e:Ending)(w':World):Prop:=
 ∃(B:Nat->Prop) (x:Hx) (s':Ar),x.a=a/\x.g=g/\e= .returned (.tuple #[↑x.l,.int .i64 0])/\aP B w' x (cf P T) bud s' (hm0 (cf P T))/\s'=⟨dk (hm0 (cf P T)).W P.length,s.room,0,0,0,false⟩/\(∀i,B i->w.heap.size<=i)/\w.heap.size<=x.q/\(∀v,v<P.length->w.heap.size<=x.qb v)/\aa [a] w w'
theorem DL {w:World} {a g:Nat} {s:Ar} (h:aA w a g s) (hs:s.W=[]) (hag:a≠g) (AP:Option Addr) (cP:Nat) (vT:Value) (P T:List Int) (hP:RdL w (.slice AP P.length cP) 1 encI P) (hPa:∀i,(Value.slice AP P.length cP).ownBlock=some i->i≠a/\i<w.heap.size) (hT:RdL w vT 1 encI T) (hc:a5 P T=0) (bud:Int) (hd0:0<=bud) (hd1:bud<=1000) (hr:s=⟨[],s.room,0,0,0,false⟩/\∀v,v<P.length->(dk (hm0 (cf P T)).W v).length+(2*(cf P T).nv v+1)<=s.room):
    Calls Tryz.prog 104 #[↑a,.agg #[.slice AP P.length cP,vT],.int .i64 bud] w (Fr w a g s bud P T):=by
  obtain⟨i0,hi,hz0,hz1,hz2⟩:=info_parts Tryz.infoSp;obtain⟨j0,hj,hy0,hy1,hy2⟩:=info_parts Tryz.infoHr;have HJ:=qh (And.intro hj (And.intro hy0 (And.intro hy1 hy2)));obtain⟨j1,hj',hy0',hy1',hy2'⟩:=info_parts Tryz.infoHs;have HJ1:=qh (And.intro hj' (And.intro hy0' (And.intro hy1' hy2')));obtain⟨j2,hj'',hy0'',hy1'',hy2''⟩:=info_parts Tryz.infoHl;have HJ2:=qh (And.intro hj'' (And.intro hy0'' (And.intro hy1'' hy2'')));clear hj hy0 hy1 hy2 hj' hy0' hy1' hy2' hj'' hy0'' hy1'' hy2'';have hml:=bh (aR hc).1;have ha0:=h.blk.lt;have hg0:=h.wds.lt;obtain⟨hT1,hT32⟩:1<=T.length/\T.length<=32:=⟨hml.2.2.1,hml.2.2.2⟩;obtain⟨hP1,hP32⟩:1<=P.length/\P.length<=32:=⟨hml.1,hml.2.1⟩;have H:=qh (And.intro h (And.intro ha0 (And.intro hg0 hag)));have HN:=qh (jw (w.alloc (.cells #[.slice AP P.length cP,vT] 24)) (.slice AP P.length cP) vT P T (hP.alloc _) (hT.alloc _) hc);have HS:=qh (And.intro hs hr);have HCK:=qh hc;have HPR:=qh (And.intro hP hPa);have HR:=qh (λW=>ot bud W hd0 hd1);have hlo:(w.alloc (.cells #[.slice AP P.length cP,vT] 24)).heap.size=w.heap.size+1:=by simp
  have B0:=qh ((Below.refl w.heap.size w).alloc (Nat.le_refl _) (.cells #[.slice AP P.length cP,vT] 24));have BX:=qh (Blk.new w 24 #[.slice AP P.length cP,vT]);clear h hs hP hPa hT hd0 hd1 hr hml ha0 hg0 hag hc;go_enter Tryz.func104,Tryz.ntmps104;go_wp2_with fail;refine HN.o.mono ?_;rintro en w1 ⟨b,rfl,hb,t1,b1⟩;rw[hlo]at hb t1 b1;have K1:=qh (And.intro (t1.q HCK.o) (And.intro (B0.o.trans (b1.mono QX)) (And.intro (aa.blk (S:=[]) ⟨b1.os,b1.tape,b1.output,b1.size,λi hi _=>b1.block i QX⟩ BX.o QY) hb)));clear t1 b1 hb HN;go_wp2_with fail;refine(HR.o _).mono ?_;rintro en w1' ⟨rfl,rfl⟩;go_wp2_with fail;refine(dW _ _ _ _ (K1.o.1.tab HCK.o)).mono ?_;rintro en w1' ⟨rfl,rfl⟩;go_wp2_with (refine wpList_make_full _ rfl (.tmp 37) (.tmp 37) 237 rfl w1.heap.size 113 i0 (.agg #[.int .i64 0,.int .i64 0,.int .i64 0,.int .i64 0]) 4 Tryz.underlying237 hi hz0 hz1 .i64 .i64 T.length T.length T.length rfl rfl rfl rfl ?b2 ?b3 (Nat.le_refl _) ?_);case b2=>rw[hz2];omega
  case b3=>unfold maxLen;omega
  intro w4 hown hg;have hb:dq w4 w1.heap.size (List.replicate T.length Sp.zero):=by unfold dq;rw[oq];have:=gu hown;have e:(madeCells #[Value.int .i64 0,.int .i64 0,.int .i64 0,.int .i64 0] (T.length*4)).toList=List.replicate (T.length*4) (.int .i64 0):=kY _ _;exact Ji
  have t4:aa [] w1 w4:=aa.of_below ((Below.refl w1.heap.size w1).grown hg (Nat.le_refl _) (λj hj=>by cases hj));have hs4:=hb.lt;have H4:=qh (And.intro hb (And.intro t4 hs4));clear hown hg hb t4 hs4;go_upto_region 7 with fail;obtain⟨q,hq⟩:∃x,x=w1.heap.size:=⟨_,rfl⟩;rw[<-hq]at H4 ⊢;have HQ:=qh hq;clear hq;obtain⟨l,hl⟩:∃x,x=w4.heap.size:=⟨_,rfl⟩;obtain⟨w5,hw5⟩:∃x,x=w4.alloc (.cells (tZ bud (.slice none 0 0) (.slice none 0 0) q T.length) 247):=⟨_,rfl⟩;have hw5':=hw5;unfold tZ at hw5';rw[<-hw5',<-hl];have t5:aa [] w4 w5:=by rw[hw5];exact(aa.refl _ _).alloc _
  have hs5:w5.heap.size=l+1:=by rw[hw5,hl];simp
  have hb5:Blk w5 l 247 (tZ bud (.slice none 0 0) (.slice none 0 0) q T.length):=by rw[hw5,hl];exact Blk.new _ _ _
  have HO:=qh (show a<w.heap.size/\g<w.heap.size/\a≠g/\w.heap.size+1<=b/\b<w1.heap.size/\w1.heap.size=q/\q<l/\w5.heap.size=l+1/\w.heap.size+1<=w1.heap.size from by
    have e1:b<w1.heap.size:=K1.o.1.low.2;have e2:=K1.o.2.2.2;have e3:=H4.o.2.2;have e4:=H.o;have e5:=HQ.o
    omega)
  have T5:=qh (show aa [] w1 w5 from H4.o.2.1.trans t5);have HBX:Kq (∀W,aa [l,b,a] w5 W->W.cell? w.heap.size=some (.slice AP P.length cP)/\W.cell? ⟨w.heap.size,1,none⟩=some vT/\RdL W (.slice AP P.length cP) 1 encI P):=qh λW hW=>by have o:=HO.o;have k1:aa [l,b,a] w1 W:=(T5.o.mono QY).trans hW;have bx:=k1.blk K1.o.2.2.1 Q1;refine⟨bx.cell 0,bx.cell 1,?_⟩;have k0:RdL w1 (.slice AP P.length cP) 1 encI P:=HPR.o.1.below K1.o.2.1 (Nat.le_refl _);exact k0.turns k1 λg' hg' hm=>by have:=HPR.o.2 g' hg';simp at hm;omega
  have HSQ:=qh (H4.o.1.turns (T:=[]) t5 QY)
  have HI:=qh (show NwR w5 w5 l b a g q bud P T (cf P T) (λi=>w.heap.size+1<=i/\i<w1.heap.size) 0 (.slice none 0 0) (λ_=>0) (λ_=>0) s from by
    have o:=HO.o;refine⟨aa.refl _ _,hb5,World.ownsRow_nil _ _ _ _,?_,?_,⟨by rw[HS.o.1];exact HS.o.2.1,HS.o.2.2⟩,λv hv=>absurd hv (Nat.not_lt_zero _),λv hv=>absurd hv (Nat.not_lt_zero _),λv hv=>absurd hv (Nat.not_lt_zero _),λv u hv=>absurd hv (Nat.not_lt_zero _),λv u hv=>absurd hv (Nat.not_lt_zero _),.inl ⟨rfl,K1.o.1.turns T5.o QY⟩⟩;· exact(H.o.1.turns (aa.of_below (S:=[]) K1.o.2.1) QY QY).turns T5.o QY QY
    · rw[HS.o.1];rfl)
  have h0:Kq (∀i,(w.heap.size+1<=i/\i<w1.heap.size)->i≠l/\i≠a/\i<w5.heap.size):=qh λi hi=>by have o:=HO.o;omega
  clear hw5 hw5' t5 hs5 hb5 hl H4;obtain⟨f0,f1,_⟩:=HBX.o _ (aa.refl _ _);go_wp2;clear f0 f1;go_loopw [11,44] (λlf i wr=>∃(k:Nat) (vR:Value) (lb qb:Nat->Nat) (s1:Ar),lf= .int .i64 ((ai P k).length:Nat)/\i= .int .i64 k/\k<=P.length/\NwR w5 wr l b a g q bud P T (cf P T) (λi=>w.heap.size+1<=i/\i<w1.heap.size) k vR lb qb s1/\s1.room=s.room) (λ_ i _=>P.length-(intOf i).toNat);case atStart=>exact⟨0,_,_,_,_,rfl,rfl,by omega,HI.o,rfl⟩
  case round=>
    clear HI;obtain⟨k,vR,lb,qb,s1,rfl,rfl,hk,hW,hops⟩:=hrel;obtain⟨wo,rfl⟩:∃wo:World,wo=wr:=⟨_,rfl⟩;by_cases hlt:k<P.length
    · obtain⟨A,cap,rfl⟩:=bO hW.own;have HW:=qh (And.intro hW hops);obtain⟨f0,f1,f2⟩:=HBX.o _ hW.tn;have HBE:=qh (vi wo (.slice AP P.length cP) vT P f2 QX (k:Int));obtain⟨n0,hn0⟩:∃n,n=(chL P k).length:=⟨_,rfl⟩;rw[<-hn0]at HBE;have HN0:=qh hn0;have hll:=aZ P k;clear hW hops f2 hn0;go_wp2_with fail;refine HBE.o.mono ?_;rintro en w2 ⟨v2,rfl,o2,b2⟩;obtain⟨A2,c2,rfl⟩:=bO o2;have hn32:n0<=32:=(by have:=kD P k P.length;have:=HN0.o;unfold chL at this;omega);have HW2:=qh (And.intro (HW.o.1.below b2 Ru Ru Ru Ru) HW.o.2);clear b2 o2 f0 f1 HW HBE;go_upto_if 52 with fail;go_cut [11,13] (λs11 s13 wx=>s11= .int .i64 ((ai P (k+1)).length:Nat)/\s13= .int .i64 (nvT P T k:Nat)/\NwR w5 wx l b a g q bud P T (cf P T) (λi=>w.heap.size+1<=i/\i<w1.heap.size) k (.slice A k cap) lb qb s1/\(BQ l a wx b P T (.slice A k cap)\/(ai P (k+1)=[]/\gW (λi=>w.heap.size+1<=i/\i<w1.heap.size) wx b P T)))
      case first=>
        by_cases hch:chL P k=[]
        · have hlf:=(se hlt).1 hch;have HM:=qh (HW2.o.1.mates HCK.o Ru Ru Ru Ru h0.o (CN hlt hlf));have HV:=qh (show((ai P (k+1)).length=(ai P k).length+1)/\nvT P T k=max 1 (T.count (k:Int))from⟨by rw[cj,if_pos hlf];simp,by unfold nvT;rw[if_pos hch]⟩);have hT32':T.count (k:Int)<=32:=Nat.le_trans List.count_le_length hT32;obtain⟨ct,hct⟩:∃ct,ct=T.count (k:Int):=⟨_,rfl⟩;rw[<-hct]at HM HV hT32';have e0:n0=0:=(by rw[HN0.o,hch];rfl);subst e0;clear hch hlf hct;go_wp2_with fail;refine HM.o.mono ?_;rintro en w3 ⟨rfl,hN3,hF3,t3⟩;have H3:=qh (And.intro hN3 hF3);clear hN3 hF3 t3 HM;go_wp2
          all_goals
            go_meet
            case rel=>
              refine⟨?_,?_,H3.o.1,.inl H3.o.2⟩;· rw[HV.o.1];go_num
              · rw[HV.o.2];exact congrArg (Value.int .i64) QX
        · have hlf:¬da P k=true:=λe=>hch ((se hlt).2 e);have HV:=qh (show ai P (k+1)=ai P k/\nvT P T k=n0 from⟨by rw[cj,if_neg hlf],by unfold nvT;rw[if_neg hch,HN0.o]⟩);have e0:0<n0:=(by rw[HN0.o];exact List.length_pos_iff.2 hch);have e1:¬(n0:Int)=0:=(by omega);have e2:((n0:Int)==0)=false:=(by simpa using e1);clear hch hlf;go_wp2;go_meet
          case rel=>
            refine⟨by rw[HV.o.1],by rw[HV.o.2],HW2.o.1,?_⟩;rcases HW2.o.1.tab with⟨q1,q2⟩|q1
            · exact .inr ⟨by rw[HV.o.1];exact q1,q2⟩
            · exact .inl q1
      case rest=>
        obtain⟨rfl,rfl,hN3,hT3⟩:=hcut;obtain⟨w3,rfl⟩:∃w3:World,w3=wc:=⟨_,rfl⟩;obtain⟨nv,hnv⟩:∃n,n=nvT P T k:=⟨_,rfl⟩;rw[<-hnv];have HNV:=qh hnv;have hnv2:1<=nv/\nv<=32:=(by rw[hnv];exact uy HCK.o hlt);have HR3:=qh (Bh hN3.ar nv hnv2.1 hnv2.2 (by have h9:=hN3.room.2 k hlt;rw[hN3.cat,hnv];exact h9));have H3:=qh (And.intro hN3 (And.intro hT3 HW2.o.2));clear hN3 hT3 HW2 hnv HN0 hn32;go_wp2_with fail;refine HR3.o.mono ?_;rintro en w4 ⟨l',q',rfl,hr4,hl4,hq4,t4⟩;have o:=HO.o;have bl4:Blk w4 l 247 (tZ bud (.slice A k cap) (.slice none 0 0) q T.length):=t4.blk H3.o.1.blk Q1;have o4:w4.ownsRow w5.heap.size 249 1 (.slice A k cap) k (gO lb k):=aa.own H3.o.1.own t4 (λx hx=>by have:=(H3.o.1.own.lt x hx).1;simp;omega);have c14:w4.cell? ⟨l,1,none⟩=some (.slice A k cap):=bl4.cell 1;have h5s:w5.heap.size<=w4.heap.size:=Nat.le_trans H3.o.1.tn.size t4.size;have hll4:l<w4.heap.size:=bl4.lt;have hlown:(Value.slice A k cap).ownBlock≠some l:=(λe=>by have:=(H3.o.1.own.lt l e).1;omega);have H4:=qh (And.intro hr4 (And.intro hl4 (And.intro hq4 t4)));have HO4:=qh o4;have HB4:=qh bl4;clear hr4 hl4 hq4 t4 o4 bl4 HR3 o;go_wp2_with (at_builtin;refine wpList_append_lies _ rfl _ _ 244 rfl w5.heap.size 249 j0 (.pointer none) 1 8 Tryz.underlying244 HJ.o.1 HJ.o.2.1 HJ.o.2.2.1 HJ.o.2.2.2 rfl QZ _ _ _ rfl (HO4.o.alloc _) ⟨w4.heap.size,0,none⟩ 1 1 [.pointer (some ⟨l',0,none⟩)] rfl rfl (cell_one_new _ _ _) Rv QZ ?c3 ?c4 ?c5 _ rfl ?_);case c3=>unfold maxLen;omega
        case c4=>omega
        case c5=>simp;omega
        intro g3 cap3 w7 h3 hg3 hl3 hlt3;have bl7:=(HB4.o.alloc (.cells #[↑l'] 249)).grown hg3 (λe=>hlown e.symm);have c17:w7.cell? ⟨l,1,none⟩=some (.slice A k cap):=bl7.cell 1;have z17:=bl7.free 1
        have HRR:=qh (show NwR w5 (w7.setCell ⟨l,1,none⟩ (.slice (some ⟨g3,0,none⟩) (k+1) cap3)) l b a g q bud P T (cf P T) (λi=>w.heap.size+1<=i/\i<w1.heap.size) (k+1) (.slice (some ⟨g3,0,none⟩) (k+1) cap3) (aW lb k l') (aW qb k q') {s1 with W:=s1.W++List.replicate (2*nv+1) 0} from by
          have o:=HO.o;obtain rfl:=HNV.o
          exact H3.o.1.step H3.o.2.1 h0.o QX QX QX QX QX rfl H4.o.1 H4.o.2.1 H4.o.2.2.1 H4.o.2.2.2 h3 hg3 (by simpa using hl3))
        have HOP:=qh H3.o.2.2;clear h3 hg3 hl3 bl7 HB4 HO4 H4 H3 HNV;go_wp2;go_roundw;case rel=>exact⟨k+1,_,_,_,_,rfl,by go_num,by omega,HRR.o,HOP.o⟩
        case measure=>simp[intOf];omega
    · obtain rfl:k=P.length:=by omega
      obtain⟨bR,cR,rfl,hbR0,hbR1⟩:=gA hW.own QX;have c3:wo.cell? ⟨l,3,none⟩=some (.slice (some ⟨q,0,none⟩) T.length T.length):=hW.blk.cell 3
      have HTQ:Kq (∃B',d7 B' wo b P T/\∀i,B' i->i≠l):=qh (by
        rcases hW.tab with⟨q1,_⟩|⟨B',q1,q2,_⟩
        · exfalso;obtain⟨x,a',_⟩:=xAt HCK.o (show 0<T.length by omega);have:=fz.2 a'.leaf;unfold ab at this;rw[q1]at this;cases this
        · exact⟨B',q1,λi hi=>(q2 i hi).1⟩)
      have HQO:=qh (HSQ.o.turns hW.tn Ra)
      have HL0:=qh (show NwL wo wo l q bud (cf P T) (.slice (some ⟨bR,0,none⟩) P.length cR) lb 0 (.slice none 0 0) (λ_=>0) (λ_=>0)from
        ⟨aa.refl _ _,hW.blk,World.ownsRow_nil _ _ _ _,λt ht=>absurd ht (Nat.not_lt_zero _),λt ht=>absurd ht (Nat.not_lt_zero _)⟩)
      have h5o:w5.heap.size<=wo.heap.size:=hW.tn.size;have HW:=qh (And.intro hW hops);clear hW hops;go_wp2;clear c3;go_loopw [84] (λi wl=>∃(m:Nat) (vL:Value) (ub uk:Nat->Nat),i= .int .i64 m/\m<=T.length/\NwL wo wl l q bud (cf P T) (.slice (some ⟨bR,0,none⟩) P.length cR) lb m vL ub uk) (λi _=>T.length-(intOf i).toNat);case atStart=>exact⟨0,_,_,_,rfl,by omega,HL0.o⟩
      case round=>
        clear HL0;obtain⟨m,vL,ub,uk,rfl,hm,hL⟩:=hrel;obtain⟨wl,rfl⟩:∃wl:World,wl=wr:=⟨_,rfl⟩;by_cases hmt:m<T.length
        · obtain⟨x,ax,ex⟩:=xAt HCK.o hmt;obtain⟨A,cap,rfl⟩:=bO hL.own;have HTW:Kq (∀W,Below wl.heap.size wl W->iq W b P T/\Blk W l 247 (tZ bud (.slice (some ⟨bR,0,none⟩) P.length cR) (.slice A m cap) q T.length)/\(W.cell? w.heap.size=some (.slice AP P.length cP)/\W.cell? ⟨w.heap.size,1,none⟩=some vT/\RdL W (.slice AP P.length cP) 1 encI P)/\∀v,v<P.length->W.cell? ⟨bR,v,none⟩=some (.pointer (some ⟨lb v,0,none⟩))):=qh λW hW=>by obtain⟨B',k1,k2⟩:=HTQ.o;have tw:aa [l] wo W:=hL.tn.trans (aa.of_below hW);have o:=HO.o;refine⟨(k1.turns tw λi hi hB=>k2 i hB Rr).f,(hL.below hW).blk,HBX.o _ (HW.o.1.tn.trans (tw.mono QY)),λv hv=>?_⟩;have c:=HW.o.1.own.cellAt v QX;rw[om _ _ _ hv]at c;exact tw.cell c Q1
          have hl1:l<wl.heap.size:=hL.blk.lt;obtain⟨D,hD⟩:∃D,D=(i3 P T).toNat:=⟨_,rfl⟩;have hD1:1<=D/\D<=5:=(by rw[hD];exact⟨(jN HCK.o).d1,wC HCK.o⟩);have HU0:=In wl b P T m x ax.at_ (HTW.o wl (Below.refl _ _)).1;rw[ax.len,<-hD]at HU0;have HU:=qh HU0;have HL:=qh hL;have HX:=qh (And.intro ax (And.intro ex hD));clear hL ax ex hD HU0;go_wp2_with fail;refine HU.o.mono ?_;rintro en w7 ⟨v7,rfl,o7,b7⟩;obtain⟨bu,cu,rfl,hbu0,hbu1⟩:=gA o7 QX;have HUC:Kq (∀W,Below w7.heap.size w7 W->∀c,c<D->W.cell? ⟨bu,c,none⟩=some (.int .i64 (plX P x c))):=qh λW hW c hcD=>by have e:=o7.cellAt c QX;have hcu:(upL P x)[c]? =some (plX P x c):=(by obtain⟨u,hu⟩:=aj (show c<(upL P x).length by rw[HX.o.1.len,<-HX.o.2.2];exact hcD);rw[hu];unfold plX;rw[ba hu]);have e2:((upL P x).flatMap encI)[c]? =some (.int .i64 (plX P x c)):=(by have:(upL P x).flatMap encI=(upL P x).map (Value.int .i64):=zV _;rw[this,List.getElem?_map,hcu];rfl);rw[e2]at e;exact(hW.cell (p:=⟨bu,c,none⟩) hbu1).trans e
          have H7:=qh b7;have h7s:wl.heap.size<=w7.heap.size:=b7.size;clear o7 b7 HU;go_wp2;go_loopw [17,92] (λlv i wi=>∃(c:Nat),i= .int .i64 c/\c<=D/\Below w7.heap.size w7 wi/\wi.ownsRow w7.heap.size 255 2 lv c (fQ lb (cf P T) m c)) (λ_ i _=>D-(intOf i).toNat);case atStart=>exact⟨0,rfl,by omega,Below.refl _ _,World.ownsRow_nil _ _ _ _⟩
          case round=>
            obtain⟨c,rfl,hcD,hbi,hoi⟩:=hrel;obtain⟨wi,rfl⟩:∃wi:World,wi=wr:=⟨_,rfl⟩;by_cases hclt:c<D
            · obtain⟨v,_,hvl,hvx,_,_⟩:=HX.o.1.up c (by rw[<-HX.o.2.2];exact hclt);have cu0:=HUC.o wi hbi c hclt;have HPV:=qh (show(cf P T).pl m c=v from by show(plX P (T.getD m 0) c).toNat=v;rw[HX.o.2.1,hvx,Int.toNat_natCast]);rw[hvx]at cu0;obtain⟨g0,g1,⟨g2,g3,g4⟩,g5⟩:=HTW.o wi (H7.o.trans (hbi.mono h7s));have HSL:=qh (DN wi b P T m hmt g0);obtain⟨A3,c3,rfl⟩:=bO hoi;have HI:=qh (And.intro hbi hoi);have HV:=qh hvx;clear g0 g1 g2 g3 g4 g5 hbi hoi;go_wp2_with fail;refine HSL.o.mono ?_;rintro en wi' ⟨rfl,rfl⟩;clear HSL;go_upto_if 101 with fail;go_cut [21] (λs21 wx=>s21= .int .i64 ((cf P T).sl m c:Nat)/\Below wi.heap.size wi wx)
              case first=>
                by_cases hc0:c=0;· subst hc0;have HS0:=qh (slT HCK.o hmt HX.o.1 (k:=0) (by rw[<-HX.o.2.2];omega));go_wp2;go_meet;case rel=>exact⟨by rw[HS0.o];rfl,Below.refl _ _⟩
                · obtain⟨d,rfl⟩:∃d,c=d+1:=⟨c-1,by omega⟩;obtain⟨c,hc⟩:∃c,c=d+1:=⟨_,rfl⟩;obtain⟨v0,_,hvl0,hvx0,_,_⟩:=HX.o.1.up d (by rw[<-HX.o.2.2];omega)
                  have HS0:=qh (show(((cf P T).sl m (d+1):Nat):Int)=fy (chL P v) v0 from by
                    rw[slT HCK.o hmt HX.o.1 (k:=d+1) (by rw[<-HX.o.2.2];exact hclt)];show fy (chL P (plX P x (d+1))) (plX P x d)=_
                    rw[HV.o,hvx0])
                  have cd0:=HUC.o wi HI.o.1 d QX;rw[hvx0]at cd0;obtain⟨g0,g1,⟨g2,g3,g4⟩,g5⟩:=HTW.o wi (H7.o.trans (HI.o.1.mono h7s));have HBE:=qh (vi wi.drew (.slice AP P.length cP) vT P (show RdL wi.drew (.slice AP P.length cP) 1 encI P from g4) QX (v:Int));have hsw:w.heap.size<wi.heap.size:=(by have:=HO.o;have:=HI.o.1.size;omega);have hsb:bu<wi.heap.size:=(by have:=HI.o.1.size;omega);have hl32:(chL P v).length<=32:=(by have:=kD P v P.length;unfold chL;omega);have x1:IntKind.i64.wrap (((d:Nat):Int)+1-1)=(d:Int):=(by rw[Int.add_sub_cancel];exact IntWalk.i64_in _ QX);have x2:(d:Int)<(D:Int):=(by omega);have x4:IntKind.i64.wrap (d:Int)=(d:Int):=IntWalk.i64_in _ QX;have x5:¬(d:Int)<0:=(by omega);have x6:¬(D:Int)<=(d:Int):=(by omega);have x3:d<D:=(by omega);clear g0 g1 g4 g5 hc;go_wp2
                  go_region_held3 (λW=>W.cell? w.heap.size=some (.slice AP P.length cP)/\W.cell? ⟨w.heap.size,1,none⟩=some vT/\W.cell? ⟨bu,d,none⟩=some (.int .i64 v0))
                    (first|exact⟨g2,g3,cd0⟩|exact K8.o)
                    (first
                      | (go_at_call 140;go_loud (refine HBE.o.mono ?_);rintro en w8 ⟨v8,rfl,o8,b8⟩;have B8:=qh (show Below wi.heap.size wi w8 from⟨b8.os,b8.tape,b8.output,b8.size,b8.block⟩);have K8:=qh (And.intro ((B8.o.cell (p:=w.heap.size) hsw).trans g2) (And.intro ((B8.o.cell (p:=⟨w.heap.size,1,none⟩) hsw).trans g3) ((B8.o.cell (p:=⟨bu,d,none⟩) hsb).trans cd0)));have HIX:=qh (lE w8 v8 (chL P v) v0 (dH o8 QX));clear o8 b8)
                      | (go_at_call 119;go_loud (refine HIX.o.mono ?_);rintro en w9 ⟨rfl,rfl⟩))
                  all_goals go_wp2;go_meet;case rel=>exact⟨by rw[HS0.o],B8.o⟩
              case rest=>
                obtain⟨rfl,hbx⟩:=hcut;obtain⟨wx,rfl⟩:∃wx:World,wx=wc:=⟨_,rfl⟩;have hby:Below w7.heap.size w7 wx:=HI.o.1.trans (hbx.mono HI.o.1.size);have hoy:wx.ownsRow w7.heap.size 255 2 (.slice A3 c c3) c (fQ lb (cf P T) m c):=aa.own HI.o.2 (aa.of_below (S:=[]) hbx) QY;obtain⟨g0,g1,_,g5⟩:=HTW.o wx (H7.o.trans (hby.mono h7s));have c1:wx.cell? ⟨l,1,none⟩=some (.slice (some ⟨bR,0,none⟩) P.length cR):=g1.cell 1;have g6:=g5 v hvl;have HY:=qh (And.intro hby hoy);have h7x:w7.heap.size<=wx.heap.size:=hby.size;have hlx:l<wx.heap.size:=(by omega);have hbx9:bR<wx.heap.size:=(by have:=aQ g6;exact this);have y1:(v:Int)<(P.length:Int):=(by omega);have y2:¬(v:Int)<0:=(by omega);clear g0 g1 g5 hby hoy hbx HI;go_wp2_with (at_builtin;refine wpList_append_lies _ rfl _ _ 252 rfl w7.heap.size 255 j1 (.agg #[.pointer none,.int .i64 0]) 2 16 Tryz.underlying252 HJ1.o.1 HJ1.o.2.1 HJ1.o.2.2.1 HJ1.o.2.2.2 rfl QZ _ _ _ rfl (HY.o.2.alloc _) ⟨wx.heap.size,0,none⟩ 1 1 [.pointer (some ⟨lb v,0,none⟩),.int .i64 ((cf P T).sl m c:Nat)] rfl rfl (qc _ _ _ _) Rv QZ ?c3 ?c4 ?c5 _ rfl ?_);case c3=>unfold maxLen;omega
                case c4=>omega
                case c5=>first|(simp;omega)|omega
                intro g3 cap3 w9 h9 hg9 hl9 hlt9;have H9:=qh (And.intro h9 hg9);clear h9 hg9 hl9;go_wp2;go_roundw;case rel=>exact⟨c+1,by go_num,by omega,(HY.o.1.alloc h7x _).grown H9.o.2 Q1 (λj hj=>(HY.o.2.lt j hj).1),by rw[jb,HPV.o];exact H9.o.1⟩
                case measure=>simp[intOf];omega
            · obtain rfl:c=D:=by omega
              obtain⟨nb,cv,rfl,hnb0,hnb1⟩:=gA hoi QX;have hbw:Below wl.heap.size wl wi:=H7.o.trans (hbi.mono h7s);obtain⟨_,g1,_,_⟩:=HTW.o wi hbw;have c2:wi.cell? ⟨l,2,none⟩=some (.slice A m cap):=g1.cell 2;have HY:=qh (And.intro hbw (And.intro (cW hoi h7s) (And.intro g1 (HL.o.below hbw).own)));have hos:wo.heap.size<=wi.heap.size:=Nat.le_trans HL.o.tn.size hbw.size;have hlw:l<wi.heap.size:=g1.lt;have hlown:(Value.slice A m cap).ownBlock≠some l:=(λe=>by have:=(HL.o.own.lt l e).1;have:=HO.o;omega);clear hbi hoi g1 hbw;go_wp2_with (at_builtin;refine wpList_append_lies _ rfl _ _ 245 rfl wo.heap.size 252 j2 (.slice none 0 0) 1 24 Tryz.underlying245 HJ2.o.1 HJ2.o.2.1 HJ2.o.2.2.1 HJ2.o.2.2.2 rfl QZ _ _ _ rfl (HY.o.2.2.2.alloc _) ⟨wi.heap.size,0,none⟩ 1 1 [.slice (some ⟨nb,0,none⟩) c cv] rfl rfl (cell_one_new _ _ _) Rv QZ ?c3 ?c4 ?c5 _ rfl ?_);case c3=>unfold maxLen;omega
              case c4=>omega
              case c5=>simp;omega
              intro g9 c9 w9 h9 hg9 hl9 hlt9;have bl9:=(HY.o.2.2.1.alloc (.cells #[.slice (some ⟨nb,0,none⟩) c cv] 252)).grown hg9 (λe=>hlown e.symm);have c29:w9.cell? ⟨l,2,none⟩=some (.slice A m cap):=bl9.cell 2;have z29:=bl9.free 2
              have HLL:=qh (show NwL wo (w9.setCell ⟨l,2,none⟩ (.slice (some ⟨g9,0,none⟩) (m+1) c9)) l q bud (cf P T) (.slice (some ⟨bR,0,none⟩) P.length cR) lb (m+1) (.slice (some ⟨g9,0,none⟩) (m+1) c9) (aW ub m nb) (aW uk m cv)from by
                have o:=HO.o;obtain rfl:=HX.o.2.2
                exact HL.o.step QX (jN HCK.o).d1 HY.o.1 HY.o.2.1 h9 hg9 (by simpa using hl9))
              clear h9 hg9 hl9 bl9 HY;go_wp2;go_roundw;case rel=>exact⟨m+1,_,_,_,by go_num,by omega,HLL.o⟩
              case measure=>simp[intOf];omega
        · obtain rfl:m=T.length:=by omega
          obtain⟨bL,cL,rfl,hbL0,hbL1⟩:=gA hL.own QX;have HL:=qh hL;clear hL;go_wp2;go_ret2;have o:=HO.o;obtain⟨K,KB⟩:=Ia (lo:=w.heap.size) HW.o.1 HL.o HQO.o (jN HCK.o) (wC HCK.o) hT32 hP32 QX QX QX QX QX;refine⟨_,_,s1,rfl,rfl,rfl,K,by have e:=HW.o.1.room.1;rw[HW.o.1.cat,HW.o.2]at e;exact e,KB,by show w.heap.size<=q;omega,λv hv=>?_,?_⟩;· have:=(HW.o.1.lo v hv).2.1;show w.heap.size<=qb v;omega
          · have t15:aa [a,l,b] w w5:=(aa.of_below (S:=[a,l,b]) K1.o.2.1).trans (T5.o.mono QY);have t59:aa [a,l,b] w wl:=(t15.trans (HW.o.1.tn.mono QY)).trans (HL.o.tn.mono QY);exact t59.fresh λi hi=>by simp at hi ⊢;omega
end
section
open Go.RowKit
section
variable{B:Nat->Prop}{w w':World}{x:Hx}{T:HTr}{bud:Int}{s s':Ar}{m:Hm}
def ku (T:HTr)(m:Hm)(i:Int):Int:=if okI m.S i/\(getS m.S i).pc=10 then(m.sp (T.pl i.toNat 0) (T.sl i.toNat 0)).a else 0
theorem Ci (k:aP B w x T bud s m)(hT:T.Ok)(i:Int):Calls Tryz.prog 251 #[↑x.l,.int .i64 i] w λe w'=>e= .returned (.int .i64 (ku T m i))/\Below w.heap.size w w':=by
 have hfield:=aK;have hfield2:=vB;have H:=qh k;have HN:=k.fx.n32;have hd5:=k.fx.d5;have hd:=hT.d1;obtain⟨p,hpp⟩:∃p,p=getS m.S i:=⟨_,rfl⟩;have HP:=qh hpp;by_cases h10:p.pc=10
 ·have hok:okI m.S i:=by exact JV
  obtain⟨n,rfl,hn,hg,hl⟩:=k.okn hok;have HV:=qh (And.intro (hT.plt n 0 hn QX) (hT.slt n 0 hn QX));obtain⟨u,hu⟩:∃u,u=m.sp (T.pl n 0) (T.sl n 0):=⟨_,rfl⟩;have HU:=qh hu;have HE:Kq (ku T m n=u.a):=qh (by unfold ku;rw[if_pos ⟨hok,by rw[<-hpp];exact h10⟩,Int.toNat_natCast,<-hu]);have y:(p.pc !=10)=false:=by simpa using h10
  have t2:¬(n:Int)<0:=by omega
  have t3:¬((T.n:Nat):Int)<=(n:Int):=by omega
  have g1:(0:Int)<T.D:=by omega
  have g2:0<T.D:=by omega
  clear k hpp hok hg hl hu h10;go_enter Tryz.func251,Tryz.ntmps251;go_wp2_with fail;refine(jC H.o n).mono ?_;rintro en w1 ⟨rfl,b1⟩;rw[<-HP.o];unfold aE;have k1:=H.o.below b1;obtain⟨cl2,cL,cP,cS⟩:=k1.lev hn (show 0<T.D by omega);simp only[Nat.zero_mul,Nat.add_zero]at cP cS;have H1:=qh (And.intro k1 b1);clear k1 b1;go_wp2_with fail;refine((H1.o.1.alloc _).spot1 HV.o.1 HV.o.2).mono ?_;rintro en w2 ⟨rfl,b2⟩;rw[<-HU.o];unfold aE;have H2:=qh ((H1.o.2.alloc H1.o.2.size _).trans (b2.mono (Nat.le_trans H1.o.2.size QY)));clear b2;go_wp2;go_ret;exact⟨aT HE.o.symm,H2.o⟩
 ·have y:(p.pc !=10)=true:=by simpa using h10
  have HE:Kq (ku T m i=0):=qh (by unfold ku;rw[if_neg (λh=>h10 (by rw[hpp];exact h.2))]);clear k hpp h10;go_enter Tryz.func251,Tryz.ntmps251;go_wp2_with fail;refine(jC H.o i).mono ?_;rintro en w1 ⟨rfl,b1⟩;rw[<-HP.o];unfold aE;have H1:=qh b1;clear b1;go_wp2;go_ret;exact⟨aT HE.o.symm,H1.o⟩
end
end
section
open Go Go.RowKit
def hmV (xl:Nat):Value:= .iface 173 (.agg #[.iface 174 ↑xl])
structure HmA where
 s:Ar
 m:Hm
structure HmB where
 x:Hx
 B:Nat->Prop
 hi:Nat
def CR (T:HTr)(bud:Int):LkM T.n where
 σ:=HmA
 β:=HmB
 ok:=λst N=>(∃O,dY T bud st.m O)/\st.s.ops<=N
 ar:=λst=>st.s
 sp:=λst i=>sv st.m.S i
 cn:=λst i=>if (sv st.m.S i).pc=10 then(st.m.sp (T.pl i 0) (T.sl i 0)).a else 0
 rd:=false
 step:=λst i=>⟨jp T st.s st.m i,stepI T bud st.m i⟩
 ask:=λst i r=>if r then st else⟨st.s,mt T st.m i⟩
 leave:=λst i=>⟨st.s,i8 T bud st.m i⟩
 hi:=λb=>b.hi
 fp:=λb=>mvL b.x T
 is:=λb w a g lb st=>aP b.B w b.x T bud st.s st.m/\(b.x.a=a/\b.x.g=g)/\jk w lb T.n 7 (hmV b.x.l) (mvL b.x T) b.hi/\∀i,b.B i->i<b.hi
theorem pE (T:HTr)(s:Ar)(m:Hm)(i:Int):(jp T s m i).ops<=s.ops+1:=by
 unfold jp;split;·omega
 ·exact pS _ _ _ _
theorem dY.okN{T:HTr}{bud:Int}{m:Hm}{O:Nat->Nat->Option Nat}(h:dY T bud m O){i:Nat}(hi:i<T.n):okI m.S (i:Int)/\getS m.S (i:Int)=sv m.S i:=by
 have hl:i<m.S.length:=by rw[(h.x 0).sl];exact hi
 exact⟨⟨by omega,by omega⟩,dJ hl⟩
theorem xN{T:HTr}{bud:Int}(hT:T.Ok)(hn:1<=T.n/\T.n<=32)(hb:0<=bud/\bud<=1000):(CR T bud).Good where
 n32:=hn
 okS:=fun(st:HmA) N i h hN hi=>by
  obtain⟨⟨O,h⟩,ho⟩:=h
  have:=pE T st.s st.m i
  exact⟨by have:=h.act hT hb.1 0 (i:Int);exact this,by show(jp T st.s st.m i).ops<=_;omega⟩
 okA:=fun(st:HmA) N i r h hN hi=>by
  obtain⟨⟨O,h⟩,ho⟩:=h
  cases r
  ·exact⟨by have:=h.act hT hb.1 1 (i:Int);exact this,by show st.s.ops<=_;omega⟩
  ·exact⟨⟨O,h⟩,by show st.s.ops<=_;omega⟩
 okL:=fun(st:HmA) N i h hN hi=>by
  obtain⟨⟨O,h⟩,ho⟩:=h
  exact⟨by have:=h.act hT hb.1 2 (i:Int);exact this,by show st.s.ops<=_;omega⟩
 okm:=fun(st:HmA) N h=>⟨h.1,by have:=h.2;omega⟩
 one:=fun(st:HmA) N i j h hi hj h1 h2 _=>by obtain⟨⟨O,h⟩,_⟩:=h;exact h.one hT hi hj h1 h2
 pcs:=fun(st:HmA) N i h hi=>by
  obtain⟨⟨O,h⟩,_⟩:=h
  obtain⟨K,k,_⟩:=h.t i hi
  show 0<=(sv st.m.S i).pc
  cases k<;>omega
 cnt:=fun(st:HmA) N i h hi=>by
  obtain⟨⟨O,h⟩,_⟩:=h
  have hd:=hT.d1
  show(sv st.m.S i).pc=10↔0<(if (sv st.m.S i).pc=10 then(st.m.sp (T.pl i 0) (T.sl i 0)).a else 0)
  split
  ·rename_i e
   obtain⟨K,k,_⟩:=h.t i hi
   have e0:(st.m.sp (T.pl i 0) (T.sl i 0)).pc=10:=by
    cases k with
    |hold _ hb=>exact hb 0 QX
    |rest h=>omega
    |come _ h=>omega
    |granted _ h=>omega
    |pass _ h=>omega
    |leave _ h=>omega
   have:=((h.x 0).va _ _ (hT.plt i 0 hi QX) (hT.slt i 0 hi QX)).1 (.inl e0)
   exact⟨λ_=>by omega,λ_=>e⟩
  ·rename_i e;exact⟨λq=>absurd q e,λq=>by omega⟩
 opsS:=fun(st:HmA) N i _ _ _=>pE T st.s st.m i
 arA:=fun(st:HmA) i r=>by cases r<;>rfl
 arL:=fun(st:HmA) i=>rfl
 ais:=fun(b:HmB) w a g lb (st:HmA) h=>by obtain⟨k,⟨rfl,rfl⟩,_⟩:=h;exact k.ar
 lk:=fun(b:HmB) w a g lb (st:HmA) h=>h.2.2.1.c1
 kd:=fun(b:HmB) w a g lb (st:HmA) h=>⟨7,h.2.2.1.blk.cell 0,rfl⟩
 fpa:=fun(b:HmB) w a g lb (st:HmA) h=>⟨h.2.2.1.fl,h.2.2.1.hw⟩
 far:=fun(b:HmB) w a g lb (st:HmA) w' S h t hS=>by
  obtain⟨k,hc,hd,hl⟩:=h
  have h9:∀x∈S,b.hi<=x:=hS
  exact⟨k.turns t (λi m hb=>by have:=hl i hb;have:=h9 i m;omega) (λi m hm=>by have:=hd.fl i hm;have:=h9 i m;omega),hc,hd.far t h9,hl⟩
 cS:=fun(b:HmB) w a g lb (st:HmA) N i h hk hN hi=>by
  unfold lkB at hN
  obtain⟨k,hc,hd,hl⟩:=h
  obtain⟨⟨O,hI⟩,ho⟩:=hk
  obtain⟨O',hI'⟩:∃O,dY T bud (stepI T bud st.m i) O:=hI.act hT hb.1 0 (i:Int)
  refine(nA .hm hd.c1 hd.c2 hi (R:=λr w'=>r=dA (sv st.m.S i) (sv (stepI T bud st.m i).S i)/\aP b.B w' b.x T bud (jp T st.s st.m i) (stepI T bud st.m i)/\aa (mvL b.x T) w w') λW bw=>?_).mono ?_
  ·refine(Fg (k.below bw) hT hI hb QX (i:Int)).mono ?_
   rintro e w' ⟨rfl,k2,_,t2⟩
   exact⟨_,rfl,by rw[(hI.okN hi).2,(hI'.okN hi).2];rfl,k2,(aa.of_below bw).trans t2⟩
  ·exact JB
 cA:=fun(b:HmB) w a g lb (st:HmA) N i r h hk hN hi=>by
  obtain⟨k,hc,hd,hl⟩:=h
  obtain⟨⟨O,hI⟩,ho⟩:=hk
  refine(xu .hm hd.c1 hd.c2 hi r (R:=λq w'=>q=decide ((sv st.m.S i).pc=0/\(r=true->(false:Bool)=true))/\(aP b.B w' b.x T bud (if r then st else⟨st.s,mt T st.m i⟩:HmA).s (if r then st else⟨st.s,mt T st.m i⟩:HmA).m)/\aa (mvL b.x T) w w') (λhr W bw=>?_) (λhr W bw=>?_)).mono ?_
  ·subst hr
   refine(FD (k.below bw) hT (i:Int)).mono ?_
   rintro e w' ⟨rfl,k2,t2⟩
   exact⟨_,rfl,by rw[(hI.okN hi).2];simp[(hI.okN hi).1],k2,(aa.of_below bw).trans t2⟩
  ·exact IQ
  ·exact JB
 cL:=fun(b:HmB) w a g lb (st:HmA) N i h hk hN hi=>by
  obtain⟨k,hc,hd,hl⟩:=h
  obtain⟨⟨O,hI⟩,ho⟩:=hk
  refine(kv .hm hd.c1 hd.c2 hi (R:=λq w'=>q=decide ((sv st.m.S i).pc=10)/\aP b.B w' b.x T bud st.s (i8 T bud st.m i)/\aa (mvL b.x T) w w') λW bw=>?_).mono ?_
  ·refine(CQ (k.below bw) hT hI hb (i:Int)).mono ?_
   rintro e w' ⟨rfl,k2,t2⟩
   exact⟨_,rfl,by rw[(hI.okN hi).2],k2,(aa.of_below bw).trans t2⟩
  ·exact JB
 cP:=fun(b:HmB) w a g lb (st:HmA) i h hi=>nz .hm h.2.2.1.c1 h.2.2.1.c2 hi _ λW bw=>by
  have:=jC (h.1.below bw) (i:Int)
  rwa [dJ (by rw[h.1.sn];exact hi)]at this
 cC:=fun(b:HmB) w a g lb (st:HmA) i h hi=>rK .hm h.2.2.1.c1 h.2.2.1.c2 hi _ λW bw=>by
  have:=Ci (h.1.below bw) hT (i:Int)
  have hl:i<st.m.S.length:=by rw[h.1.sn];exact hi
  have hok:okI st.m.S (i:Int):=⟨by omega,by omega⟩
  rw[show ku T st.m (i:Int)=(CR T bud).cn st i by
   unfold ku
   rw[dJ hl]
   show _=if (sv st.m.S i).pc=10 then(st.m.sp (T.pl i 0) (T.sl i 0)).a else 0
   simp only[hok,true_and,Int.toNat_natCast]]at this
  exact this
end
section
open Go Go.RowKit
def pY (w:World)(a g n:Nat)(k:Int)(v:Value)(ms:MS n)(w':World):Prop:=
 ∀(w2:World) (lb:Nat),aa [lb] w' w2->lb<w.heap.size->lb≠a->lb≠g->Blk w2 lb 110 #[.int .i64 k,.int .i64 n,v]->∃b:ms.1.β,ms.1.Good/\ms.1.ok ms.2 0/\ms.1.is b w2 a g lb ms.2/\∀x∈ms.1.fp b,w.heap.size<=x\/x=a\/x=g
section
variable{w w':World}{a g n:Nat}{bud:Int}{P T:List Int}{s:Ar}
theorem F5 (hn:1<=n/\n<=32)(hs:s.ops=0){c:Mx}(k:bI w' c bud (ma0 s n))(hc:c.b.a=a/\c.b.g=g/\c.b.n=n/\(c.b.F:Int)=maF n)(h1:w.heap.size<=c.l)(h2:w.heap.size<=c.q)(h3:w.heap.size<=c.b.k):pY w a g n 10 (maV c.l) ⟨Av n bud,ma0 s n⟩ w':=by
 intro w2 lb t hlb ha hg hb;have hfp:∀x∈mS c,w.heap.size<=x\/x=a\/x=g:=λx hx=>by unfold mS at hx;simp at hx;omega
 have k2:=k.far t (λx hx m=>by have:=hfp x hx;simp at m;omega);have l1:=k2.lk.lt;have l2:=k2.sp.lt;have l3:=k2.bn.blk.lt;have l4:=k2.bn.ar.blk.lt;have l5:=k2.bn.ar.wds.lt;exact⟨(c,w2.heap.size),ug bud hn,⟨Gh _ hn.1,by show s.ops<=0;omega⟩,⟨k2,hc,hb,λm=>by have:=hfp _ m;omega,hb.lt,λx hx=>by unfold mS at hx;simp at hx;show x<w2.heap.size;omega,Nat.le_refl _⟩,hfp⟩
theorem F4 (hc:a5 P T=0)(hd:0<=bud/\bud<=3)(hs:s.ops=0){l q b u lo hi:Nat}(k:bo w' l a g q b u lo hi bud P T (hc0 s (ab P).length T.length))(h1:w.heap.size<=l)(h2:w.heap.size<=q)(h4:w.heap.size<=u)(h5:w.heap.size<=lo):pY w a g T.length 8 (hcV l) ⟨EH bud P T,hc0 s (ab P).length T.length⟩ w':=by
 intro w2 lb t hlb ha hg hb;have hn:1<=T.length/\T.length<=32:=by have:=bh (aR hc).1;exact⟨this.2.2.1,this.2.2.2⟩
 have hfp:∀x∈[a,g,q,u],w.heap.size<=x\/x=a\/x=g:=λx hx=>by simp at hx;omega
 have k2:=k.far t (λx hx m=>by simp at hx m;omega) (λx m=>by simp at m;omega);have l1:=k2.lk.lt;have l2:=k2.sp.lt;have l3:=k2.tu.blk.lt;have l4:=k2.ar.blk.lt;have l5:=k2.ar.wds.lt;refine⟨⟨l,a,g,q,b,u,lo,hi,w2.heap.size⟩,xM hc hd,⟨⟨_,HOk.start _ hn.2 (λt ht=>(sF k ht).2) hs rfl⟩,λi=>?_⟩,⟨k2,⟨rfl,rfl⟩,⟨hb,λm=>by have:=hfp _ m;omega,hb.lt,λx hx=>by simp at hx;show x<w2.heap.size;omega,Nat.le_refl _⟩,l1,k2.hs⟩,hfp⟩;show kG (sv (List.replicate T.length Sp.zero) i);rw[qY];unfold kG Sp.zero;simp
theorem ct0 (s:Ar){n:Nat}:CtS n (cn0 s n):=by
 have e:∀i,sv (List.replicate n Sp.zero) i=Sp.zero:=λi=>qY n i
 have w0:∀y,ldW (List.replicate (2+3*n) (0:Int)) y=0:=λy=>by
  unfold ldW;split;·exact iB _ _ _
  ·rfl
 have aN0:∀x,aN (List.replicate (2+3*n) (0:Int)) x=0:=λx=>by unfold aN;rw[w0];split<;>rfl
 have aS0:∀x,aS (List.replicate (2+3*n) (0:Int)) x=0:=λx=>by unfold aS;rw[w0];split<;>rfl
 have aL0:∀x,aL (List.replicate (2+3*n) (0:Int)) x=0:=λx=>by unfold aL;rw[w0];split<;>rfl
 refine⟨⟨?_,?_,?_,?_,?_,?_,?_,?_,?_,?_,?_,?_,?_,?_,?_⟩,by simp[cn0],by simp[cn0]⟩;all_goals simp only[cn0,e,w0,aN0,aS0,aL0,WkB]
 ·refine⟨?_,?_⟩<;>intros<;>simp_all [Fk,iW,Sp.zero]
 all_goals try simp only[Sp.zero]
 all_goals first|omega|(intros;omega)
theorem F1 (nd:List Int)(hs:s.ops=0){c:Cx}{cap:Nat}(k:an w' c cap bud nd (cn0 s nd.length))(hc:c.a=a/\c.g=g)(h1:w.heap.size<=c.l)(h2:w.heap.size<=c.q)(h3:w.heap.size<=c.k)(h4:∀x∈[c.n1,c.nb,c.b0,c.b1,c.b2],w.heap.size<=x):pY w a g nd.length 9 (cnV c.l) ⟨Au bud nd nd.length,cn0 s nd.length⟩ w':=by
 intro w2 lb t hlb ha hg hb;simp only[List.mem_cons,List.not_mem_nil,or_false,forall_eq_or_imp,forall_eq]at h4;have k2:=k.far t (λx hx m=>by simp at hx m;omega) (λx hx m=>by simp at hx m;omega);have l1:=k2.lk.lt;have l2:=k2.sp.lt;have l3:=k2.wk.blk.lt;have l4:=k2.ar.blk.lt;have l5:=k2.ar.wds.lt;have l6:=k2.wk.row.lt;have l7:=aQ (k2.row 0 (by have:=k2.n32;omega));have l8:=k2.p0.lt;have l9:=k2.p1.lt;have l0:=k2.p2.lt;have hfp:∀x∈cnF ⟨c,cap,w2.heap.size⟩,(w.heap.size<=x\/x=a\/x=g)/\x<w2.heap.size:=λx hx=>by unfold cnF at hx;simp at hx;omega
 refine⟨⟨c,cap,w2.heap.size⟩,uf k2.n32,⟨ct0 s,by show s.ops<=0;omega⟩,⟨k2,hc,⟨hb,λm=>by have:=hfp _ m;omega,hb.lt,λx hx=>(hfp x hx).2,Nat.le_refl _⟩,λx hx=>by simp at hx l7 l8 l9 l0;show x<w2.heap.size;omega⟩,λx hx=>(hfp x hx).1⟩
end
end
section
open Go.RowKit
def askS (S:List Sp)(i:Int):List Sp:=if okI S i/\(getS S i).pc=0 then S.set i.toNat ⟨1,1,0,0⟩else S
end
end Go.Proofs.YtglokdbiggbkjaaGreat
