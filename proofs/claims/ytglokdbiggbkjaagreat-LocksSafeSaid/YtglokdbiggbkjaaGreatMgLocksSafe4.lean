/- Joined texts. -/
import Derived.StillTailTactics
import Derived.Handy
import Derived.Test.YtglokdbiggbkjaaGreatMgLocksSafe0
import Derived.Test.YtglokdbiggbkjaaGreatMgLocksSafe1
import Derived.Test.YtglokdbiggbkjaaGreatMgLocksSafe2
import Derived.Test.YtglokdbiggbkjaaGreatMgLocksSafe3
set_option linter.unusedVariables false
set_option linter.unusedSimpArgs false
set_option maxRecDepth 100000
set_option maxHeartbeats 16000000
namespace Go.Proofs.YtglokdbiggbkjaaGreat
section
open Go.RowKit
structure pu (lo:Nat)(w:World)(b:Nat)(P T:List Int):Prop where
 low:lo<=b
 ex:∃AP cP AT cT,Blk w b 213 #[.slice AP P.length cP,.slice AT T.length cT,.int .u32 0,.int .i32 0,.int .u32 0,.slice none 0 0,.slice none 0 0,.slice none 0 0,.slice none 0 0]/\RdL w (.slice AP P.length cP) 1 encI P/\RdL w (.slice AT T.length cT) 1 encI T/\(∀g,(Value.slice AP P.length cP).ownBlock=some g->g≠b)/\(∀g,(Value.slice AT T.length cT).ownBlock=some g->g≠b)/\
  (∀g,(Value.slice AP P.length cP).ownBlock=some g->lo<=g)/\(∀g,(Value.slice AT T.length cT).ownBlock=some g->lo<=g)
def RdB (lo hi:Nat)(w:World)(v:Value)(sz:Nat){α:Type}(enc:α->List Value)(l:List α):Prop:=RdL w v sz enc l/\(0<l.length->∀g,v.ownBlock=some g->lo<=g/\g<hi)
theorem RdB.keep{lo hi:Nat}{w w':World}{v:Value}{sz:Nat}{α:Type}{enc:α->List Value}{l:List α}(h:RdB lo hi w v sz enc l)(k:∀i,lo<=i->i<hi->w'.heap[i]? =w.heap[i]?)(hs:hi<=w'.heap.size):RdB lo hi w' v sz enc l:=by refine⟨?_,h.2⟩;obtain⟨A,cap,rfl,h2,h3,h4⟩:=h.1;refine⟨A,cap,rfl,h2,h3,λhl=>?_⟩;obtain⟨b,off,rfl,hb,hc⟩:=h4 hl;have hb':=h.2 hl b rfl;refine⟨b,off,rfl,by omega,λi x hx j u hu=>?_⟩;rw[World.cell?_of_block (w:=w) (w':=w') (a:=⟨b,off+i*sz+j,none⟩) (k b hb'.1 hb'.2)];exact hc i x hx j u hu
theorem RdB.of{lo hi:Nat}{w:World}{v:Value}{sz:Nat}{α:Type}{enc:α->List Value}{l:List α}(h:RdL w v sz enc l)(h2:∀g,v.ownBlock=some g->lo<=g)(hs:hi=w.heap.size):RdB lo hi w v sz enc l:=by refine⟨h,λhl g hg=>⟨h2 g hg,?_⟩⟩;obtain⟨A,cap,rfl,_,_,h4⟩:=h;obtain⟨b,off,rfl,hb,_⟩:=h4 hl;injection hg with hg;subst hg;rw[hs];exact hb
structure lh (lo hi:Nat)(w:World)(b:Nat)(P T:List Int):Prop where
 ok:a5 P T=0
 low:lo<=b
 high:b<hi
 ex:∃AP cP AT cT vU vN vS vM us,Blk w b 213 (eR (.slice AP P.length cP) (.slice AT T.length cT) 1 0 vU vN vS vM)/\RdB lo hi w (.slice AP P.length cP) 1 encI P/\RdB lo hi w (.slice AT T.length cT) 1 encI T/\
  RdB lo hi w vN 1 encI (ao P T T.length)/\RdB lo hi w vS 1 encI (aY T T.length)/\RdB lo hi w vM 1 encI (aF P T T.length)/\
  RdB lo hi w vU 1 (λv=>[v]) us/\us.length=T.length/\∀(i:Nat) (x:Int) (v:Value),T[i]? =some x->us[i]? =some v->RdB lo hi w v 1 encI (upL P x)
theorem lh.f{lo hi:Nat}{w:World}{b:Nat}{P T:List Int}(h:lh lo hi w b P T):iq w b P T:=by exact mP
theorem lh.keep{lo hi:Nat}{w w':World}{b:Nat}{P T:List Int}(h:lh lo hi w b P T)(k:∀i,lo<=i->i<hi->w'.heap[i]? =w.heap[i]?)(hs:hi<=w'.heap.size):lh lo hi w' b P T:=by obtain⟨AP,cP,AT,cT,vU,vN,vS,vM,us,h1,h2,h3,h4,h5,h6,h7,h8,h9⟩:=h.ex;exact⟨h.ok,h.low,h.high,AP,cP,AT,cT,vU,vN,vS,vM,us,(k b h.low h.high).trans h1,h2.keep k hs,h3.keep k hs,h4.keep k hs,h5.keep k hs,h6.keep k hs,h7.keep k hs,h8,λi x v a c=>(h9 i x v a c).keep k hs⟩
theorem jw (w:World) (vP vT:Value) (P T:List Int) (hP:RdL w vP 1 encI P) (hT:RdL w vT 1 encI T) (hc:a5 P T=0):
    Calls Tryz.prog 63 #[.agg #[vP,vT]] w λe w'=>∃b,e= .returned (.tuple #[.pointer (some ⟨b,0,none⟩),.int .i64 0])/\w.heap.size<=b/\pu w.heap.size w' b P T/\Below w.heap.size w w':=by
  have HC:=jT (w.alloc (.cells #[vP,vT] 24)) vP vT P T (hP.alloc _) (hT.alloc _);rw[hc]at HC;have HCC:=qh HC;have HB0:=qh ((Below.refl w.heap.size w).alloc (Nat.le_refl _) (.cells #[vP,vT] 24));have HPT:=qh (And.intro hP hT);have hml:=bh (aR hc).1;obtain⟨AP,cP,rfl,lP1,lP2⟩:=bQ hP;obtain⟨AT,cT,rfl,lT1,lT2⟩:=bQ hT;have HX:=qh (show(w.alloc (.cells #[.slice AP P.length cP,.slice AT T.length cT] 24)).cell? w.heap.size=some (.slice AP P.length cP)/\(w.alloc (.cells #[.slice AP P.length cP,.slice AT T.length cT] 24)).cell? ⟨w.heap.size,1,none⟩=some (.slice AT T.length cT)by simp[World.cell?_alloc_new]);have hbx:w.heap.size<(w.alloc (.cells #[.slice AP P.length cP,.slice AT T.length cT] 24)).heap.size:=by simp
  clear hP hT hc HC;go_enter Tryz.func63,Tryz.ntmps63;go_wp2_with fail;refine HCC.o.mono ?_;rintro en w1 ⟨rfl,b1⟩;have f0:=(b1.cell (p:=w.heap.size) hbx).trans HX.o.1;have f1:=(b1.cell (p:=⟨w.heap.size,1,none⟩) hbx).trans HX.o.2;have hs1:=b1.size;simp at hs1;have HB1:=qh (HB0.o.trans (b1.mono HB0.o.size));have HP1:=qh (λW (h:Below w1.heap.size w1 W)=>And.intro (HPT.o.1.below (HB1.o.trans (h.mono HB1.o.size)) (Nat.le_refl _)) (HPT.o.2.below (HB1.o.trans (h.mono HB1.o.size)) (Nat.le_refl _)));have bd:Below w1.heap.size w1 w1.drew:=(Below.refl _ _).drew;clear b1;go_wp2_with fail
  go_region_held3 (λW=>W.cell? w.heap.size=some (.slice AP P.length cP)/\W.cell? ⟨w.heap.size,1,none⟩=some (.slice AT T.length cT))
    (first|exact⟨f0,f1⟩|exact⟨(k3.cell (p:=w.heap.size) (show w.heap.size<w1.heap.size by omega)).trans f0,(k3.cell (p:=⟨w.heap.size,1,none⟩) (show w.heap.size<w1.heap.size by omega)).trans f1⟩|exact⟨(k2.cell (p:=w.heap.size) (show w.heap.size<w1.heap.size by omega)).trans f0,(k2.cell (p:=⟨w.heap.size,1,none⟩) (show w.heap.size<w1.heap.size by omega)).trans f1⟩|exact⟨((k3.alloc k3.size _).cell (p:=w.heap.size) (show w.heap.size<w1.heap.size by omega)).trans f0,((k3.alloc k3.size _).cell (p:=⟨w.heap.size,1,none⟩) (show w.heap.size<w1.heap.size by omega)).trans f1⟩)
    (first
      | (go_at_call 78;with_reducible refine(lp _ _ P (HP1.o _ bd).1 QX).mono ?_;rintro e w2 ⟨v2,rfl,o2,b2⟩;obtain⟨A2,c2,rfl⟩:=bO o2;(have k2:Below w1.heap.size w1 w2:=bd.trans (b2.mono QY));have O2:=qh o2;clear o2)
      | (go_at_call 78;with_reducible refine(lp _ _ T (HP1.o _ k2).2 QX).mono ?_;rintro e w3 ⟨v3,rfl,o3,b3⟩;obtain⟨A3,c3,rfl⟩:=bO o3;(have k3:Below w1.heap.size w1 w3:=k2.trans (b3.mono k2.size));have O3:=qh o3;clear o3))
  all_goals
    have hs3:=k3.size;have e2:∀g,(Value.slice A2 P.length c2).ownBlock=some g->g≠w3.heap.size:=λg hg=>by have:=(O2.o.lt g hg).2;have:=b3.size;omega
    have e3:∀g,(Value.slice A3 T.length c3).ownBlock=some g->g≠w3.heap.size:=λg hg=>by have:=(O3.o.lt g hg).2;omega
    have HT0:=qh (show pu w.heap.size (w3.alloc (.cells #[.slice A2 P.length c2,.slice A3 T.length c3,.int .u32 0,.int .i32 0,.int .u32 0,.slice none 0 0,.slice none 0 0,.slice none 0 0,.slice none 0 0] 213)) w3.heap.size P T from
      ⟨Nat.le_trans HB1.o.size hs3,A2,c2,A3,c3,Blk.new _ _ _,(dH (iP O2.o b3) QX).alloc _,(dH O3.o QX).alloc _,e2,e3,λg hg=>by have h1:w1.heap.size<=g:=(O2.o.lt g hg).1;have:=HB1.o.size;omega,λg hg=>by have h1:w2.heap.size<=g:=(O3.o.lt g hg).1;have:=HB1.o.size;have:=k2.size;omega⟩)
    have HBE:=qh ((HB1.o.trans (k3.mono HB1.o.size)).alloc (Nat.le_trans HB1.o.size hs3) (.cells #[.slice A2 P.length c2,.slice A3 T.length c3,.int .u32 0,.int .i32 0,.int .u32 0,.slice none 0 0,.slice none 0 0,.slice none 0 0,.slice none 0 0] 213));go_wp2;go_ret2;exact⟨_,rfl,Nat.le_trans HB1.o.size hs3,HT0.o,HBE.o⟩
theorem kZ {w1 w2:World} {b:Nat} {AP AT:Option Addr} {cP cT:Nat} {P T:List Int} {vL vU vN vS vM:Value} {us:List eF} (hc:a5 P T=0)
    (h:jj w1 w2 b (.slice AP P.length cP) (.slice AT T.length cT) P T vL vU vN vS vM us T.length)
    (hP:RdL w1 (.slice AP P.length cP) 1 encI P) (hT:RdL w1 (.slice AT T.length cT) 1 encI T)
    (nP:∀g,(Value.slice AP P.length cP).ownBlock=some g->g≠b) (nT:∀g,(Value.slice AT T.length cT).ownBlock=some g->g≠b) {lo:Nat} (hlo:lo<=b) (hb1:b<w1.heap.size) (lP:∀g,(Value.slice AP P.length cP).ownBlock=some g->lo<=g) (lT:∀g,(Value.slice AT T.length cT).ownBlock=some g->lo<=g):
    lh lo (df b 2 w2).heap.size (df b 2 w2) b P T/\aa [b] w1 (df b 2 w2):=by
  have hml:=bh (aR hc).1;have hll:(ab P).length<=32:=by have:=aZ P P.length;show(ai P P.length).length<=_;omega
  have k0:aa [b] w2 (df b 2 w2):=((aa.refl [b] w2).drew.setCell (.inl QY) _).setCell (.inl QY) _;have k1:=h.bel.trans k0;have hr:∀r∈([aq vL (ab P),aq vM (aF P T T.length),aq vN (ao P T T.length),aq vS (aY T T.length),eQ (us.map (·.v)) vU]++us),(df b 2 w2).ownsRow w1.heap.size r.e 1 r.v r.n r.xs:=λr hr=>(h.rows.turn k0).own r hr;have hrl:∀r∈([aq vL (ab P),aq vM (aF P T T.length),aq vN (ao P T T.length),aq vS (aY T T.length),eQ (us.map (·.v)) vU]++us),∀g,r.v.ownBlock=some g->lo<=g:=λr hm g hg=>by have:=((hr r hm).lt g hg).1;omega
  refine⟨⟨hc,hlo,by have:=k1.size;omega,AP,cP,AT,cT,vU,vN,vS,vM,us.map (·.v),?_,RdB.of (hP.turns k1 (λg hg hm=>by simp at hm;exact nP g hg hm)) lP rfl,RdB.of (hT.turns k1 (λg hg hm=>by simp at hm;exact nT g hg hm)) lT rfl,RdB.of ?_ (hrl (aq vN (ao P T T.length)) QY) rfl,RdB.of ?_ (hrl (aq vS (aY T T.length)) QY) rfl,RdB.of ?_ (hrl (aq vM (aF P T T.length)) QY) rfl,RdB.of ?_ (hrl (eQ (us.map (·.v)) vU) QY) rfl,by simp[h.len],λi x v hi hv=>?_⟩,k1⟩;· exact((h.blk.drew).set_ 2 (.int .u32 1)).set_ 3 (.int .i32 0)
  · exact dH (hr (aq vN (ao P T T.length)) QY) (by rw[de (Nat.le_refl _)];omega)
  · exact dH (hr (aq vS (aY T T.length)) QY) (by rw[fZ];omega)
  · exact dH (hr (aq vM (aF P T T.length)) QY) (by rw[cH];omega)
  · have h1:=hr (eQ (us.map (·.v)) vU) QY;refine RdL.of_own (enc:=λv=>[v]) (sz:=1) (λ_=>rfl) rfl (by rw[List.length_map,h.len];omega) (e:=22) (base:=w1.heap.size) ?_;have e:(us.map (·.v)).flatMap (fun(v:Value)=>[v])=us.map (·.v):=(by simp);rw[e];exact h1
  · rw[List.getElem?_map]at hv;cases hu:us[i]? with
    | none=>rw[hu]at hv;cases hv
    | some r=>rw[hu]at hv;injection hv with hv;subst hv;have hrr:=h.up i x r hi hu;have ho:=hr r RG;rw[hrr]at ho;refine RdB.of (dH ho (by have:=rb P x;omega)) (λg hg=>hrl r RG g ?_) rfl;rw[hrr];exact hg
theorem ql (lo:Nat) (w:World) (b:Nat) (P T:List Int) (hc:a5 P T=0) (h:pu lo w b P T):
    Calls Tryz.prog 133 #[↑b] w λe w'=>e= .returned ↑b/\lh lo w'.heap.size w' b P T/\aa [b] w w':=by
  have hlo:=h.low;have hbl:b<w.heap.size:=by obtain⟨_,_,_,_,hB,_⟩:=h.ex;exact hB.lt
  obtain⟨AP,cP,AT,cT,hB,hP,hT,nP,nT,lP,lT⟩:=h.ex;have k0:aa [b] w (w.setCell ⟨b,3,none⟩ (.int .i32 1)):=aa.setCell (aa.refl [b] w) (.inl QY) _;have hP1:=hP.turns k0 (λg hg hm=>by simp at hm;exact nP g hg hm);have hT1:=hT.turns k0 (λg hg hm=>by simp at hm;exact nT g hg hm);have hf:=rW (w.setCell ⟨b,3,none⟩ (.int .i32 1)) b AP AT cP cT P T hc (hB.set_ 3 (.int .i32 1)) hP1 hT1 nP nT
  have HD:=qh (rM b 2 ↑b w (λw2=>lh lo (df b 2 w2).heap.size (df b 2 w2) b P T/\aa [b] w (df b 2 w2)) (hB.cell 2) (hB.cell 3) (hB.free 2) (hB.free 3)
    (hf.mono λe w2 ⟨he,vL,vU,vN,vS,vM,us,hF⟩=>⟨he,⟨hF.blk.cell 2,hF.blk.cell 3,hF.blk.free 2,hF.blk.free 3⟩,(kZ hc hF hP1 hT1 nP nT hlo (by simpa[World.setCell]using hbl) lP lT).1,k0.trans (kZ hc hF hP1 hT1 nP nT hlo (by simpa[World.setCell]using hbl) lP lT).2⟩))
  clear hf hP1 hT1 hB hP hT nP nT lP lT k0 hc h hlo hbl;go_enter Tryz.func133,Tryz.ntmps133;go_wp2_with fail;refine HD.o.mono ?_;rintro en w' ⟨rfl,w2,hR,hw⟩;have HR:=qh (show lh lo w'.heap.size w' b P T/\aa [b] w w' by rw[hw];exact hR);clear hR hw;go_wp2;go_ret;exact⟨rfl,HR.o⟩
theorem E2 (lo:Nat) (w:World) (b:Nat) (P T:List Int) (hc:a5 P T=0) (h:pu lo w b P T):
    Calls Tryz.prog 137 #[↑b] w λe w'=>e= .returned (.int .i64 ((ab P).length:Nat))/\lh lo w'.heap.size w' b P T/\aa [b] w w':=by have HF:=qh (ql lo w b P T hc h);clear h hc;go_enter Tryz.func137,Tryz.ntmps137;go_wp2_with fail;refine HF.o.mono ?_;rintro en w' ⟨rfl,hF,hT⟩;have HTF:=qh (And.intro hF hT);obtain⟨AP,cP,AT,cT,vU,vN,vS,vM,us,h1,h2,h3,h4,h5,h6,h7,h8,h9⟩:=hF.f.ex;obtain⟨AM,cM,rfl,_,_⟩:=bQ h6;have c8:=h1.cell 8;simp only[eR,cH]at c8;clear hF hT h1 h2 h3 h4 h5 h6 h7 h8 h9;go_wp2;go_ret;exact⟨rfl,HTF.o⟩
theorem kh (w:World) (b:Nat) (P T:List Int) (i:Nat) (hi:i<T.length) (h:iq w b P T) (x:Int) (hx:(ao P T T.length)[i]? =some x):
    Calls Tryz.prog 100 #[↑b,.int .i64 i] w λe w'=>e= .returned (.int .i64 x)/\w=w':=by have HF:=qh (eO w b P T h);have HH:=qh (vE w b P T i true (decide_eq_true QX) h.tab);have HX:=qh hx;have HTF:=qh h;clear h hx;go_enter Tryz.func100,Tryz.ntmps100;go_wp2_with fail;refine HH.o.mono ?_;rintro en w' ⟨rfl,rfl⟩;go_wp2_with fail;refine HF.o.mono ?_;rintro en w' ⟨rfl,rfl⟩;have hF:=HTF.o;obtain⟨AP,cP,AT,cT,vU,vN,vS,vM,us,h1,h2,h3,h4,h5,h6,h7,h8,h9⟩:=hF.ex;have hl:(ao P T T.length).length=T.length:=de (Nat.le_refl _);obtain⟨AM,cM,rfl,_,_⟩:=bQ h4;obtain⟨b1,o1,hA,_,hc1⟩:=fM h4 QX;subst hA;have q1:=hc1 i x HX.o;have c8:=h1.cell 6;rw[hl]at *;simp only[eR]at c8;clear hF h1 h2 h3 h4 h5 h6 h7 h8 h9 hc1 hl;go_wp2;go_ret;exact⟨rfl,rfl⟩
end
section
open Go.RowKit
structure gW (B:Nat->Prop)(w:World)(b:Nat)(P T:List Int):Prop where
 low:B b
 ex:∃AP cP AT cT,Blk w b 213 #[.slice AP P.length cP,.slice AT T.length cT,.int .u32 0,.int .i32 0,.int .u32 0,.slice none 0 0,.slice none 0 0,.slice none 0 0,.slice none 0 0]/\RdL w (.slice AP P.length cP) 1 encI P/\RdL w (.slice AT T.length cT) 1 encI T/\(∀g,(Value.slice AP P.length cP).ownBlock=some g->g≠b)/\(∀g,(Value.slice AT T.length cT).ownBlock=some g->g≠b)/\
  (∀g,(Value.slice AP P.length cP).ownBlock=some g->B g)/\(∀g,(Value.slice AT T.length cT).ownBlock=some g->B g)
theorem jA{α:Type}{w:World}{v:Value}{sz:Nat}{enc:α->List Value}{l:List α}(h:RdL w v sz enc l)(hl:0<l.length){g:Nat}(hg:v.ownBlock=some g):g<w.heap.size:=by obtain⟨A,cap,rfl,_,_,h4⟩:=h;obtain⟨b,off,rfl,hb,_⟩:=h4 hl;injection hg with hg;subst hg;exact hb
theorem pu.q{lo:Nat}{w:World}{b:Nat}{P T:List Int}(hc:a5 P T=0)(h:pu lo w b P T):gW (λi=>lo<=i/\i<w.heap.size) w b P T:=by have hml:=bh (aR hc).1;obtain⟨AP,cP,AT,cT,h1,h2,h3,h4,h5,h6,h7⟩:=h.ex;exact⟨⟨h.low,h1.lt⟩,AP,cP,AT,cT,h1,h2,h3,h4,h5,λg hg=>⟨h6 g hg,jA h2 QX hg⟩,λg hg=>⟨h7 g hg,jA h3 QX hg⟩⟩
theorem gW.turns{B:Nat->Prop}{S:List Nat}{w w':World}{b:Nat}{P T:List Int}(h:gW B w b P T)(k:aa S w w')(hS:∀i∈S,¬B i):gW B w' b P T:=by obtain⟨AP,cP,AT,cT,h1,h2,h3,h4,h5,h6,h7⟩:=h.ex;exact⟨h.low,AP,cP,AT,cT,k.blk h1 (λhm=>hS _ hm h.low),h2.turns k (λg hg hm=>hS g hm (h6 g hg)),h3.turns k (λg hg hm=>hS g hm (h7 g hg)),h4,h5,h6,h7⟩
theorem gW.tab{B:Nat->Prop}{w:World}{b:Nat}{P T:List Int}(hc:a5 P T=0)(h:gW B w b P T):Tab w b P T:=by obtain⟨AP,cP,AT,cT,h1,h2,h3,h4,h5,h6,h7⟩:=h.ex;exact⟨hc,.inl ⟨AP,cP,AT,cT,h1,h2,h3,h4,h5⟩⟩
def RdQ (B:Nat->Prop)(w:World)(v:Value)(sz:Nat){α:Type}(enc:α->List Value)(l:List α):Prop:=RdL w v sz enc l/\(0<l.length->∀g,v.ownBlock=some g->B g)
theorem RdQ.keep{B:Nat->Prop}{w w':World}{v:Value}{sz:Nat}{α:Type}{enc:α->List Value}{l:List α}(h:RdQ B w v sz enc l)(k:∀i,B i->i<w.heap.size->w'.heap[i]? =w.heap[i]?)(hs:w.heap.size<=w'.heap.size):RdQ B w' v sz enc l:=by refine⟨?_,h.2⟩;obtain⟨A,cap,rfl,h2,h3,h4⟩:=h.1;refine⟨A,cap,rfl,h2,h3,λhl=>?_⟩;obtain⟨b,off,rfl,hb,hc⟩:=h4 hl;have hb':=h.2 hl b rfl;refine⟨b,off,rfl,by omega,λi x hx j u hu=>?_⟩;rw[World.cell?_of_block (w:=w) (w':=w') (a:=⟨b,off+i*sz+j,none⟩) (k b hb' hb)];exact hc i x hx j u hu
theorem RdQ.of{B:Nat->Prop}{w:World}{v:Value}{sz:Nat}{α:Type}{enc:α->List Value}{l:List α}(h:RdL w v sz enc l)(h2:∀g,v.ownBlock=some g->B g):RdQ B w v sz enc l:=⟨h,λ_=>h2⟩
structure d7 (B:Nat->Prop)(w:World)(b:Nat)(P T:List Int):Prop where
 ok:a5 P T=0
 low:B b
 ex:∃AP cP AT cT vU vN vS vM us,Blk w b 213 (eR (.slice AP P.length cP) (.slice AT T.length cT) 1 0 vU vN vS vM)/\RdQ B w (.slice AP P.length cP) 1 encI P/\RdQ B w (.slice AT T.length cT) 1 encI T/\
  RdQ B w vN 1 encI (ao P T T.length)/\RdQ B w vS 1 encI (aY T T.length)/\RdQ B w vM 1 encI (aF P T T.length)/\
  RdQ B w vU 1 (λv=>[v]) us/\us.length=T.length/\∀(i:Nat) (x:Int) (v:Value),T[i]? =some x->us[i]? =some v->RdQ B w v 1 encI (upL P x)
theorem d7.f{B:Nat->Prop}{w:World}{b:Nat}{P T:List Int}(h:d7 B w b P T):iq w b P T:=by exact mP
theorem d7.turns{B:Nat->Prop}{S:List Nat}{w w':World}{b:Nat}{P T:List Int}(h:d7 B w b P T)(t:aa S w w')(hS:∀i∈S,¬B i):d7 B w' b P T:=by have k:∀i,B i->i<w.heap.size->w'.heap[i]? =w.heap[i]?:=λi hi hl=>t.block i hl λhm=>hS i hm hi;have hs:=t.size;obtain⟨AP,cP,AT,cT,vU,vN,vS,vM,us,h1,h2,h3,h4,h5,h6,h7,h8,h9⟩:=h.ex;exact⟨h.ok,h.low,AP,cP,AT,cT,vU,vN,vS,vM,us,(k b h.low h1.lt).trans h1,h2.keep k hs,h3.keep k hs,h4.keep k hs,h5.keep k hs,h6.keep k hs,h7.keep k hs,h8,λi x v a c=>(h9 i x v a c).keep k hs⟩
theorem RdQ.mono{B C:Nat->Prop}{w:World}{v:Value}{sz:Nat}{α:Type}{enc:α->List Value}{l:List α}(h:RdQ B w v sz enc l)(k:∀i,B i->C i):RdQ C w v sz enc l:=⟨h.1,λhl g hg=>k g (h.2 hl g hg)⟩
theorem d7.mono{B C:Nat->Prop}{w:World}{b:Nat}{P T:List Int}(h:d7 B w b P T)(k:∀i,B i->C i):d7 C w b P T:=by obtain⟨AP,cP,AT,cT,vU,vN,vS,vM,us,h1,h2,h3,h4,h5,h6,h7,h8,h9⟩:=h.ex;exact⟨h.ok,k _ h.low,AP,cP,AT,cT,vU,vN,vS,vM,us,h1,h2.mono k,h3.mono k,h4.mono k,h5.mono k,h6.mono k,h7.mono k,h8,λi x v a c=>(h9 i x v a c).mono k⟩
theorem d7.size{B:Nat->Prop}{m n:Nat}{w:World}{b:Nat}{P T:List Int}(h:d7 (λi=>B i\/m<=i) w b P T)(e:m=n):d7 (λi=>B i\/n<=i) w b P T:=by subst e;exact h
theorem k7 {w1 w2:World} {b:Nat} {AP AT:Option Addr} {cP cT:Nat} {P T:List Int} {vL vU vN vS vM:Value} {us:List eF} (hc:a5 P T=0)
    (h:jj w1 w2 b (.slice AP P.length cP) (.slice AT T.length cT) P T vL vU vN vS vM us T.length)
    (hP:RdL w1 (.slice AP P.length cP) 1 encI P) (hT:RdL w1 (.slice AT T.length cT) 1 encI T)
    (nP:∀g,(Value.slice AP P.length cP).ownBlock=some g->g≠b) (nT:∀g,(Value.slice AT T.length cT).ownBlock=some g->g≠b) {B:Nat->Prop} (hlo:B b) (lP:∀g,(Value.slice AP P.length cP).ownBlock=some g->B g) (lT:∀g,(Value.slice AT T.length cT).ownBlock=some g->B g):
    d7 (λi=>B i\/w1.heap.size<=i) (df b 2 w2) b P T/\aa [b] w1 (df b 2 w2):=by
  have hml:=bh (aR hc).1;have hll:(ab P).length<=32:=by have:=aZ P P.length;show(ai P P.length).length<=_;omega
  have k0:aa [b] w2 (df b 2 w2):=((aa.refl [b] w2).drew.setCell (.inl QY) _).setCell (.inl QY) _;have k1:=h.bel.trans k0;have hr:∀r∈([aq vL (ab P),aq vM (aF P T T.length),aq vN (ao P T T.length),aq vS (aY T T.length),eQ (us.map (·.v)) vU]++us),(df b 2 w2).ownsRow w1.heap.size r.e 1 r.v r.n r.xs:=λr hr=>(h.rows.turn k0).own r hr;have hrl:∀r∈([aq vL (ab P),aq vM (aF P T T.length),aq vN (ao P T T.length),aq vS (aY T T.length),eQ (us.map (·.v)) vU]++us),∀g,r.v.ownBlock=some g->(B g\/w1.heap.size<=g):=λr hm g hg=> .inr ((hr r hm).lt g hg).1;refine⟨⟨hc,.inl hlo,AP,cP,AT,cT,vU,vN,vS,vM,us.map (·.v),?_,RdQ.of (hP.turns k1 (λg hg hm=>by simp at hm;exact nP g hg hm)) (λg hg=> .inl (lP g hg)),RdQ.of (hT.turns k1 (λg hg hm=>by simp at hm;exact nT g hg hm)) (λg hg=> .inl (lT g hg)),RdQ.of ?_ (hrl (aq vN (ao P T T.length)) QY),RdQ.of ?_ (hrl (aq vS (aY T T.length)) QY),RdQ.of ?_ (hrl (aq vM (aF P T T.length)) QY),RdQ.of ?_ (hrl (eQ (us.map (·.v)) vU) QY),by simp[h.len],λi x v hi hv=>?_⟩,k1⟩;· exact((h.blk.drew).set_ 2 (.int .u32 1)).set_ 3 (.int .i32 0)
  · exact dH (hr (aq vN (ao P T T.length)) QY) (by rw[de (Nat.le_refl _)];omega)
  · exact dH (hr (aq vS (aY T T.length)) QY) (by rw[fZ];omega)
  · exact dH (hr (aq vM (aF P T T.length)) QY) (by rw[cH];omega)
  · have h1:=hr (eQ (us.map (·.v)) vU) QY;refine RdL.of_own (enc:=λv=>[v]) (sz:=1) (λ_=>rfl) rfl (by rw[List.length_map,h.len];omega) (e:=22) (base:=w1.heap.size) ?_;have e:(us.map (·.v)).flatMap (fun(v:Value)=>[v])=us.map (·.v):=(by simp);rw[e];exact h1
  · rw[List.getElem?_map]at hv;cases hu:us[i]? with
    | none=>rw[hu]at hv;cases hv
    | some r=>rw[hu]at hv;injection hv with hv;subst hv;have hrr:=h.up i x r hi hu;have ho:=hr r RG;rw[hrr]at ho;refine RdQ.of (dH ho (by have:=rb P x;omega)) (λg hg=>hrl r RG g ?_);rw[hrr];exact hg
theorem i4 (B:Nat->Prop) (w:World) (b:Nat) (P T:List Int) (hc:a5 P T=0) (h:gW B w b P T):
    Calls Tryz.prog 133 #[↑b] w λe w'=>e= .returned ↑b/\d7 (λi=>B i\/w.heap.size<=i) w' b P T/\aa [b] w w':=by
  have hlo:=h.low;obtain⟨AP,cP,AT,cT,hB,hP,hT,nP,nT,lP,lT⟩:=h.ex;have k0:aa [b] w (w.setCell ⟨b,3,none⟩ (.int .i32 1)):=aa.setCell (aa.refl [b] w) (.inl QY) _;have hP1:=hP.turns k0 (λg hg hm=>by simp at hm;exact nP g hg hm);have hT1:=hT.turns k0 (λg hg hm=>by simp at hm;exact nT g hg hm);have hf:=rW (w.setCell ⟨b,3,none⟩ (.int .i32 1)) b AP AT cP cT P T hc (hB.set_ 3 (.int .i32 1)) hP1 hT1 nP nT
  have HD:=qh (rM b 2 ↑b w (λw2=>d7 (λi=>B i\/w.heap.size<=i) (df b 2 w2) b P T/\aa [b] w (df b 2 w2)) (hB.cell 2) (hB.cell 3) (hB.free 2) (hB.free 3)
    (hf.mono λe w2 ⟨he,vL,vU,vN,vS,vM,us,hF⟩=>⟨he,⟨hF.blk.cell 2,hF.blk.cell 3,hF.blk.free 2,hF.blk.free 3⟩,(k7 hc hF hP1 hT1 nP nT hlo lP lT).1.size QY,k0.trans (k7 hc hF hP1 hT1 nP nT hlo lP lT).2⟩))
  clear hf hP1 hT1 hB hP hT nP nT lP lT k0 hc h hlo;go_enter Tryz.func133,Tryz.ntmps133;go_wp2_with fail;refine HD.o.mono ?_;rintro en w' ⟨rfl,w2,hR,hw⟩;have HR:=qh (show d7 (λi=>B i\/w.heap.size<=i) w' b P T/\aa [b] w w' by rw[hw];exact hR);clear hR hw;go_wp2;go_ret;exact⟨rfl,HR.o⟩
theorem C6 (B:Nat->Prop) (w:World) (b:Nat) (P T:List Int) (hc:a5 P T=0) (i:Nat) (hi:i<T.length) (h:gW B w b P T) (x:Int) (hx:(ao P T T.length)[i]? =some x):
    Calls Tryz.prog 100 #[↑b,.int .i64 i] w λe w'=>e= .returned (.int .i64 x)/\d7 (λi=>B i\/w.heap.size<=i) w' b P T/\aa [b] w w':=by have HF:=qh (i4 B w b P T hc h);have HH:=qh (vE w b P T i true (decide_eq_true QX) (h.tab hc));have HX:=qh hx;clear h hx;go_enter Tryz.func100,Tryz.ntmps100;go_wp2_with fail;refine HH.o.mono ?_;rintro en w' ⟨rfl,rfl⟩;go_wp2_with fail;refine HF.o.mono ?_;rintro en w1 ⟨rfl,hF0,t1⟩;have HTF:=qh (And.intro hF0 t1);clear t1;have hF:=hF0.f;clear hF0;obtain⟨AP,cP,AT,cT,vU,vN,vS,vM,us,h1,h2,h3,h4,h5,h6,h7,h8,h9⟩:=hF.ex;have hl:(ao P T T.length).length=T.length:=de (Nat.le_refl _);obtain⟨AM,cM,rfl,_,_⟩:=bQ h4;obtain⟨b1,o1,hA,_,hc1⟩:=fM h4 QX;subst hA;have q1:=hc1 i x HX.o;have c8:=h1.cell 6;rw[hl]at *;simp only[eR]at c8;clear hF h1 h2 h3 h4 h5 h6 h7 h8 h9 hc1 hl;go_wp2;go_ret;exact⟨rfl,HTF.o⟩
end
section
open Go Go.RowKit
theorem Gb (AW:Awk 11) (NW:yN) (w:World) (vP:Value) (AT:Option Addr) (cT:Nat) (P T:List Int) (hP:RdL w vP 1 encI P) (hT:RdL w (.slice AT T.length cT) 1 encI T) (a0 a1 a2 a3:Nat) (h0:a0<256) (h1:a1<256) (h2:a2<256) (h3:a3<256) (hs:jB P T 8=true) (v:Value) (ls:List (Int×Int)) (h:RdL w v 2 zK ls) (hm:ls.length<=150):
    Calls Tryz.prog 3 #[.agg #[vP,.slice AT T.length cT],.agg #[.int .u8 a0,.int .u8 a1,.int .u8 a2,.int .u8 a3],v] w λe w'=>e= .returned (.bool true)/\Below w.heap.size w w':=by
  obtain⟨A,cap,rfl,l1,l2,hr⟩:=h;have HR:=qh hr;have hck:a5 P T=0/\(T.length:Int)<=8:=of_decide_eq_true hs;have hT8:T.length<=8:=by omega
  obtain⟨w0,hw0⟩:∃W,W=(w.alloc (.cells #[vP,.slice AT T.length cT] 24)).alloc (.cells #[.int .u8 a0,.int .u8 a1,.int .u8 a2,.int .u8 a3] 25):=⟨_,rfl⟩;have HB0:=qh (show Below w.heap.size w w0 from by rw[hw0];exact((Below.refl w.heap.size w).alloc (Nat.le_refl _) _).alloc QY _);have HX:=qh (show Blk w0 w.heap.size 24 #[vP,.slice AT T.length cT]from by rw[hw0];exact(Blk.new w 24 #[vP,.slice AT T.length cT]).alloc _)
  have HX2:=qh (show Blk w0 (w.heap.size+1) 25 #[.int .u8 a0,.int .u8 a1,.int .u8 a2,.int .u8 a3]from by
    rw[hw0];have:=Blk.new (w.alloc (.cells #[vP,.slice AT T.length cT] 24)) 25 #[.int .u8 a0,.int .u8 a1,.int .u8 a2,.int .u8 a3]
    simpa using this)
  have HSm0:=Bq w0 vP _ P T (hP.below HB0.o (Nat.le_refl _)) (hT.below HB0.o (Nat.le_refl _)) 8;rw[hs]at HSm0;have HSm:=qh HSm0;have HRD:=qh (And.intro hP (And.intro hT hck.1));have hml:=bh (aR hck.1).1;have HBL:=qh (And.intro (λi hi=>jA hP QX hi) (λi hi=>jA hT QX hi):(∀i,vP.ownBlock=some i->i<w.heap.size)/\∀i,(Value.slice AT T.length cT).ownBlock=some i->i<w.heap.size);have HAW:=qh AW;have HNW:=qh NW;clear hr hP hT hs hck HSm0 AW NW;go_enter Tryz.func3,Tryz.ntmps3;go_upto_region 1 with fail;rw[<-hw0];clear hw0;have f0:w0.cell? w.heap.size=some vP:=HX.o.cell 0;have f1:w0.cell? ⟨w.heap.size,1,none⟩=some (.slice AT T.length cT):=HX.o.cell 1;go_wp2_with fail;refine HSm.o.mono ?_;rintro en w1 ⟨rfl,b1⟩;have HX1:=qh (And.intro (HX.o.below b1 HX.o.lt) (HX2.o.below b1 HX2.o.lt));have HB1:=qh (And.intro b1 (HB0.o.trans (b1.mono HB0.o.size)));clear b1 f0 f1 HSm;go_wp2_with fail;refine(sE _ 4096).mono ?_;rintro en w2 ⟨a,g,rfl,hA,ha,hg,hb⟩;have hX2:=And.intro (HX1.o.1.below hb HX1.o.1.lt) (HX1.o.2.below hb HX1.o.2.lt);have f0:w2.cell? w.heap.size=some vP:=hX2.1.cell 0;have f1:w2.cell? ⟨w.heap.size,1,none⟩=some (.slice AT T.length cT):=hX2.1.cell 1;have n0:w2.cell? ⟨w.heap.size+1,0,none⟩=some (.int .u8 a0):=hX2.2.cell 0;have n1:w2.cell? ⟨w.heap.size+1,1,none⟩=some (.int .u8 a1):=hX2.2.cell 1;have n2:w2.cell? ⟨w.heap.size+1,2,none⟩=some (.int .u8 a2):=hX2.2.cell 2;have n3:w2.cell? ⟨w.heap.size+1,3,none⟩=some (.int .u8 a3):=hX2.2.cell 3;have HA:=qh (And.intro hA (And.intro ha (And.intro hg (And.intro (HB1.o.1.trans (hb.mono HB1.o.1.size)) (HB1.o.2.trans (hb.mono HB1.o.2.size))))));have HX3:=qh hX2.1;have x1:IntKind.i64.wrap (1+(a0:Int)%5)=1+(a0:Int)%5:=IntWalk.i64_in _ QX;have x2:IntKind.i64.wrap (1+(a1:Int)%5)=1+(a1:Int)%5:=IntWalk.i64_in _ QX;have x3:IntKind.i64.wrap (1+(a2:Int)/4%4)=1+(a2:Int)/4%4:=IntWalk.i64_in _ QX;have x4:IntKind.i64.wrap (1+(a3:Int)%13)=1+(a3:Int)%13:=IntWalk.i64_in _ QX;clear hA ha hg hb hX2;have ek:1+(a3:Int)%13=((1+a3%13:Nat):Int):=by omega
  have ebu:(a2:Int)%4=((a2%4:Nat):Int):=by omega
  have epar:1+(a2:Int)/4%4=((1+a2/4%4:Nat):Int):=by omega
  have ekg:1+(a0:Int)%5=((1+a0%5:Nat):Int):=by omega
  have ekl:1+(a1:Int)%5=((1+a1%5:Nat):Int):=by omega
  have HN0:=HNW.o w2 a g vP _ P T (1+a3%13) (1+a0%5) (1+a1%5) (1+a2/4%4) (a2%4) HA.o.1 (HRD.o.1.below HA.o.2.2.2.2 (Nat.le_refl _)) (HRD.o.2.1.below HA.o.2.2.2.2 (Nat.le_refl _)) (λi hi=>by have:=HBL.o.1 i hi;have:=HA.o.2.1;have:=HB1.o.1.size;have:=HA.o.2.2.2.1.size;have:=HA.o.2.2.2.2.size;have:=HB0.o.size;omega) (λi hi=>by have:=HBL.o.2 i hi;have:=HA.o.2.1;have:=HB1.o.1.size;have:=HA.o.2.2.2.1.size;have:=HA.o.2.2.2.2.size;have:=HB0.o.size;omega) HRD.o.2.2 QX QX QX QX QX;unfold DO at HN0;rw[<-epar,<-ekg,<-ekl,<-ebu,<-ek]at HN0;have HN:=qh HN0;clear epar ekg ekl ebu ek HN0;go_wp2_with fail;refine HN.o.mono ?_;rintro en w3 ⟨M,b,s0,lb,rfl,G,hok,his,hfp,t3⟩;unfold lkP;have HG:=qh G;have HFP:=qh (show ∀x∈M.fp b,w0.heap.size<=x from λx hx=>by have:=hfp x hx;have:=HA.o.2.1;have:=HA.o.2.2.1;have:=HA.o.2.2.2.1.size;have:=HB1.o.1.size;omega);have tb:=t3.below (B:=w0.heap.size) (λx hx=>by simp at hx;have:=HA.o.2.1;have:=HA.o.2.2.1;have:=HB1.o.1.size;omega) HA.o.2.2.2.1.size;have H0:=qh (show fT M b w0 w3 a g lb s0 0 from⟨his,hok,HA.o.2.2.2.1.trans tb⟩);have hw0s:w.heap.size<=w0.heap.size:=HB0.o.size;have hx0:w.heap.size<w0.heap.size:=HX.o.lt;have HC0:Kq (∀W,Below w0.heap.size w0 W->W.cell? ⟨w.heap.size,1,none⟩=some (.slice AT T.length cT)):=qh λW hW=>(HX.o.below hW hx0).cell 1;clear G hok his hfp t3 tb f0 f1 n0 n1 n2 n3 x1 x2 x3 x4 HN;go_wp2;go_loopw [10] (λi wr=>∃(k:Nat) (x:M.σ),i= .int .i64 k/\k<=ls.length/\fT M b w0 wr a g lb x k) (λi _=>ls.length-(intOf i).toNat);case atStart=>exact⟨0,s0,rfl,by omega,H0.o⟩
  case round=>
    clear H0;obtain⟨k,x,rfl,hk,hW⟩:=hrel;obtain⟨wo,rfl⟩:∃wo:World,wo=wr:=⟨_,rfl⟩;have HW:=qh hW;clear hW;by_cases hlt:k<ls.length
    · obtain⟨bl,off,rfl,hbl,hc⟩:=HR.o QX;obtain⟨⟨kd,ii⟩,hx⟩:=aj hlt;have HLc:Kq (∀W,Below w0.heap.size w0 W->W.cell? ⟨bl,off+k*2,none⟩=some (.int .i64 kd)/\W.cell? ⟨bl,off+k*2+1,none⟩=some (.int .i64 ii)):=qh λW hW=>by have hWb:=HB0.o.trans (hW.mono hw0s);exact⟨(hWb.cell (p:=⟨bl,off+k*2+0,none⟩) hbl).trans (hc k _ hx 0 _ rfl),(hWb.cell (p:=⟨bl,off+k*2+1,none⟩) hbl).trans (hc k _ hx 1 _ rfl)⟩
      clear hc hx;obtain⟨x0c,x1c⟩:=HLc.o _ HW.o.bel;have HD:=qh (doL HG.o HW.o.is HW.o.ok (by unfold lkB;omega) kd ii);unfold lkP at HD;have hop:=(HG.o.ais _ _ _ _ _ _ HW.o.is).ops;go_wp2_with fail;refine(mR (HG.o.ais _ _ _ _ _ _ HW.o.is)).mono ?_;rintro en w2' ⟨rfl,rfl⟩;go_wp2_with fail;refine HD.o.mono ?_;rintro en w3' ⟨rr,x',rfl,k3,o3,p3,t3⟩;have H3:=qh (show fT M b w0 w3' a g lb x' (k+1)from⟨k3,o3,HW.o.bel.trans (t3.below (λq hq=>HFP.o q hq) HW.o.bel.size)⟩);have HO:=qh p3;clear k3 o3 p3 t3 HD x0c x1c;have f1:=HC0.o _ H3.o.bel;go_wp2;go_loopw [12,13,14] (λr v q wr=>∃m:Nat,q= .int .i64 m/\m<=T.length/\r= .int .i64 (cnB (M.inD x') m:Nat)/\v= .int .i64 (cnB (M.inW x') m:Nat)/\fT M b w0 wr a g lb x' (k+1)) (λ_ _ q _=>T.length-(intOf q).toNat);case atStart=>exact⟨0,rfl,by omega,rfl,rfl,H3.o⟩
      case round=>
        clear f1;obtain⟨m,rfl,hm',rfl,rfl,hI⟩:=hrel;obtain⟨wi,rfl⟩:∃wi:World,wi=wr:=⟨_,rfl⟩;have HI:=qh hI;clear hI;have f1:=HC0.o _ HI.o.bel;by_cases hlt2:m<T.length
        · have HST:=qh (λW (q:fT M b w0 W a g lb x' (k+1))=>qW HG.o q.is m hlt2);have HRS:=qh (λW (q:fT M b w0 W a g lb x' (k+1))=>Bg HG.o q.is m hlt2);have HCN:=qh (λW (q:fT M b w0 W a g lb x' (k+1))=>HG.o.cC b W a g lb x' m q.is hlt2);unfold lkP at HST HRS HCN;have hct:=HG.o.cnt x' (k+1) m H3.o.ok hlt2;obtain⟨s,hs⟩:∃s,s=j5 (M.sp x' m).pc:=⟨_,rfl⟩;obtain⟨cn,hcn⟩:∃c,c=M.cn x' m:=⟨_,rfl⟩;obtain⟨rd,hrd⟩:∃r,r=yc M.rd (M.sp x' m):=⟨_,rfl⟩;rw[<-hs]at HST;rw[<-hcn]at HCN hct;rw[<-hrd]at HRS;have e2:(s==2)=decide ((M.sp x' m).pc=10):=(by rw[hs];exact GM _);obtain⟨nD,hnD⟩:∃q,q=cnB (M.inD x') m:=⟨_,rfl⟩;obtain⟨nW,hnW⟩:∃q,q=cnB (M.inW x') m:=⟨_,rfl⟩;have lD:nD<=8:=(by have:=tM (M.inD x') m;omega);have lW:nW<=8:=(by have:=tM (M.inW x') m;omega);have xD:IntKind.i64.wrap ((nD:Int)+1)=(nD:Int)+1:=IntWalk.i64_in _ QX;have xW:IntKind.i64.wrap ((nW:Int)+1)=(nW:Int)+1:=IntWalk.i64_in _ QX;rw[<-hnD,<-hnW];by_cases h10:(M.sp x' m).pc=10
          · have t2:(s==2)=true:=(by rw[e2];exact decide_eq_true h10);have tc:decide (0<cn)=true:=decide_eq_true (hct.1 h10);cases rd
            · have HF1:=qh (show cnB (M.inD x') (m+1)=nD/\cnB (M.inW x') (m+1)=nW+1 from by
                have hq:rdB M.rd (M.sp x' m)=false:=by unfold yc at hrd;simpa[h10]using hrd.symm
                simp[cnB,LkM.inD,LkM.inW,h10,hq,<-hnD,<-hnW])
              clear hs hcn hrd hct e2 hnD hnW h10;go_wp2_with fail;refine(HST.o _ HI.o).mono ?_;rintro en v1 ⟨rfl,b1⟩;have I1:=qh (HI.o.below HG.o b1);clear b1 f1;go_wp2_with fail;refine(HRS.o _ I1.o).mono ?_;rintro en v2 ⟨rfl,b2⟩;have I2:=qh (I1.o.below HG.o b2);clear b2;go_wp2_with fail;refine(HST.o _ I2.o).mono ?_;rintro en v3 ⟨rfl,b3⟩;have I3:=qh (I2.o.below HG.o b3);clear b3;go_wp2_with fail;refine(HRS.o _ I3.o).mono ?_;rintro en v4 ⟨rfl,b4⟩;have I4:=qh (I3.o.below HG.o b4);clear b4;go_wp2_with fail;refine(HST.o _ I4.o).mono ?_;rintro en v5 ⟨rfl,b5⟩;have I5:=qh (I4.o.below HG.o b5);clear b5;go_wp2_with fail;refine(HCN.o _ I5.o).mono ?_;rintro en v6 ⟨rfl,b6⟩;have I6:=qh (I5.o.below HG.o b6);clear b6;go_wp2;go_roundw;case rel=>exact⟨m+1,by go_num,by omega,by rw[HF1.o.1],by rw[HF1.o.2];go_num,I6.o⟩
              case measure=>simp[intOf];omega
            · have HF1:=qh (show cnB (M.inD x') (m+1)=nD+1/\cnB (M.inW x') (m+1)=nW from by
                have hq:rdB M.rd (M.sp x' m)=true:=by unfold yc at hrd;simpa[h10]using hrd.symm
                simp[cnB,LkM.inD,LkM.inW,h10,hq,<-hnD,<-hnW])
              clear hs hcn hrd hct e2 hnD hnW h10;go_wp2_with fail;refine(HST.o _ HI.o).mono ?_;rintro en v1 ⟨rfl,b1⟩;have I1:=qh (HI.o.below HG.o b1);clear b1 f1;go_wp2_with fail;refine(HRS.o _ I1.o).mono ?_;rintro en v2 ⟨rfl,b2⟩;have I2:=qh (I1.o.below HG.o b2);clear b2;go_wp2_with fail;refine(HST.o _ I2.o).mono ?_;rintro en v3 ⟨rfl,b3⟩;have I3:=qh (I2.o.below HG.o b3);clear b3;go_wp2_with fail;refine(HRS.o _ I3.o).mono ?_;rintro en v4 ⟨rfl,b4⟩;have I4:=qh (I3.o.below HG.o b4);clear b4;go_wp2_with fail;refine(HST.o _ I4.o).mono ?_;rintro en v5 ⟨rfl,b5⟩;have I5:=qh (I4.o.below HG.o b5);clear b5;go_wp2_with fail;refine(HCN.o _ I5.o).mono ?_;rintro en v6 ⟨rfl,b6⟩;have I6:=qh (I5.o.below HG.o b6);clear b6;go_wp2;go_roundw;case rel=>exact⟨m+1,by go_num,by omega,by rw[HF1.o.1];go_num,by rw[HF1.o.2],I6.o⟩
              case measure=>simp[intOf];omega
          · have t2:(s==2)=false:=(by rw[e2];exact decide_eq_false h10);have tc:decide (0<cn)=false:=decide_eq_false (λq=>h10 (hct.2 q));have HF1:=qh (show cnB (M.inD x') (m+1)=nD/\cnB (M.inW x') (m+1)=nW from by simp[cnB,LkM.inD,LkM.inW,h10,<-hnD,<-hnW]);clear hs hcn hrd hct e2 hnD hnW h10;go_wp2_with fail;refine(HST.o _ HI.o).mono ?_;rintro en v1 ⟨rfl,b1⟩;have I1:=qh (HI.o.below HG.o b1);clear b1 f1;go_wp2_with fail;refine(HST.o _ I1.o).mono ?_;rintro en v3 ⟨rfl,b3⟩;have I3:=qh (I1.o.below HG.o b3);clear b3;go_wp2_with fail;refine(HST.o _ I3.o).mono ?_;rintro en v5 ⟨rfl,b5⟩;have I5:=qh (I3.o.below HG.o b5);clear b5;go_wp2_with fail;refine(HCN.o _ I5.o).mono ?_;rintro en v6 ⟨rfl,b6⟩;have I6:=qh (I5.o.below HG.o b6);clear b6;go_wp2;go_roundw;case rel=>exact⟨m+1,by go_num,by omega,by rw[HF1.o.1],by rw[HF1.o.2],I6.o⟩
            case measure=>simp[intOf];omega
        · obtain rfl:m=T.length:=by omega
          have hsf:=HG.o.safe H3.o.ok;obtain⟨nD,hnD⟩:∃q,q=cnB (M.inD x') T.length:=⟨_,rfl⟩;obtain⟨nW,hnW⟩:∃q,q=cnB (M.inW x') T.length:=⟨_,rfl⟩;rw[<-hnD,<-hnW]at hsf ⊢;obtain⟨zD,hzD⟩:∃z:Int,z=(nD:Int):=⟨_,rfl⟩;obtain⟨zW,hzW⟩:∃z:Int,z=(nW:Int):=⟨_,rfl⟩;have hcs:zW=0\/zW=1/\zD=0:=(by omega);rw[<-hzD,<-hzW];clear hsf hnD hnW hzD hzW;have xw:IntKind.i64.wrap (((M.ar x).ops:Int)+1)=((M.ar x).ops:Int)+1:=IntWalk.i64_in _ QX;have g5:decide (((M.ar x).ops:Int)+1<((M.ar x').ops:Int))=false:=decide_eq_false (by have:=HO.o.1;omega);have g6:¬((M.ar x).ops:Int)+1<((M.ar x').ops:Int):=(by have:=HO.o.1;omega);obtain⟨x0c,_⟩:=HLc.o _ HI.o.bel;have HAR:=qh (HG.o.ais _ _ _ _ _ _ HI.o.is);have HF:=qh (show ∃k' x'',Value.int .i64 ((k:Int)+1)= .int .i64 (k':Nat)/\k'<=ls.length/\fT M b w0 wi a g lb x'' k' from⟨k+1,x',by go_num,by omega,HI.o⟩);rcases hcs with rfl|⟨rfl,rfl⟩
          all_goals
            go_wp2_with fail;refine(mR HAR.o).mono ?_;rintro en w5 ⟨rfl,rfl⟩;by_cases k0:kd=0
            · subst k0;go_wp2;go_roundw;case rel=>exact⟨k+1,x',by go_num,by omega,HI.o⟩
              case measure=>simp[intOf];omega
            · have e0:(kd !=0)=true:=(by simpa using k0);have e9:((M.ar x').ops:Int)=((M.ar x).ops:Int):=(by rw[HO.o.2 k0]);have e1:(((M.ar x').ops:Int) !=((M.ar x).ops:Int))=false:=(by rw[e9];simp);clear e9;go_wp2_with fail;refine(mR HAR.o).mono ?_;rintro en w6 ⟨rfl,rfl⟩;go_wp2;go_roundw;case rel=>exact⟨k+1,x',by go_num,by omega,HI.o⟩
              case measure=>simp[intOf];omega
    · go_wp2_with fail;refine(HAW.o _).mono ?_;rintro en wa2 ⟨rfl,ba2⟩;have HB2:=qh (HB0.o.trans ((HW.o.bel.trans (ba2.mono HW.o.bel.size)).mono hw0s));clear ba2;go_wp2;go_ret;exact⟨rfl,HB2.o⟩
end
section
open Go Go.RowKit
theorem qU {P:Prop} (h:P:=by
    have hs:w.heap.size<w2.heap.size:=by have:=b2.size;simp at this;omega
    have hb:Blk w2 w.heap.size 113 #[.int .i64 0,.int .i64 0,.int .i64 0,.int .i64 0]:=aa.blk (S:=[]) (aa.of_below b2) (Blk.new w 113 #[.int .i64 0,.int .i64 0,.int .i64 0,.int .i64 0]) QY
    have z0:=hb.cell 0
    have z1:=hb.cell 1
    have z2:=hb.cell 2
    have z3:=hb.cell 3
    have f0:=hb.free 0
    have f1:=hb.free 1
    have f2:=hb.free 2
    have f3:=hb.free 3
    have H2:=qh (And.intro b2 hb)
    clear b2 hb
    obtain⟨pc,u,b,z⟩:=p
    unfold aE
    go_wp2
    exact bodyPost_ret (results_cell_row Q5 _ _ w.heap.size 113 _ (0,0) _ Q5 Sc Tryz.underlying113 rfl Q0) rfl ⟨rfl,((((HB.o.trans (H2.o.1.mono QY)).setCell (Nat.le_refl _) _).setCell (Nat.le_refl _) _).setCell (Nat.le_refl _) _).setCell (Nat.le_refl _) _⟩):P:=h
end
section
open Go Go.RowKit
def BR (R:Bool->World->Prop)(e:Ending)(w':World):Prop:=∃r,e= .returned (.bool r)/\R r w'
abbrev pL (l:Nat):Value:= ↑l
inductive InK (l:Nat):Value->Value->FuncId->FuncId->FuncId->FuncId->Prop
 |fl:InK l (.iface 181 (.agg #[.iface 193 (pL l)])) (.iface 193 (pL l)) 245 248 241 360
 |hc:InK l (.iface 181 (.agg #[.iface 177 (pL l)])) (.iface 177 (pL l)) 280 278 277 279
 |cn:InK l (.iface 181 (.agg #[.iface 182 (pL l)])) (.iface 182 (pL l)) 312 310 309 311
 |ma:InK l (.iface 181 (.agg #[.iface 185 (pL l)])) (.iface 185 (pL l)) 333 331 330 332
 |co:InK l (.iface 173 (.agg #[.iface 169 (pL l)])) (.iface 169 (pL l)) 237 235 233 236
 |hm:InK l (.iface 173 (.agg #[.iface 174 (pL l)])) (.iface 174 (pL l)) 254 252 250 253
 |rw:InK l (.iface 192 (.agg #[pL l])) (.iface 188 (pL l)) 356 353 352 355
inductive InW (l:Nat):Value->Value->TypeId->FuncId->FuncId->FuncId->Option FuncId->Prop
 |fl:InW l (.iface 181 (.agg #[.iface 193 (pL l)])) (.iface 193 (pL l)) 181 306 241 360 none
 |hc:InW l (.iface 181 (.agg #[.iface 177 (pL l)])) (.iface 177 (pL l)) 181 306 277 279 none
 |cn:InW l (.iface 181 (.agg #[.iface 182 (pL l)])) (.iface 182 (pL l)) 181 306 309 311 none
 |ma:InW l (.iface 181 (.agg #[.iface 185 (pL l)])) (.iface 185 (pL l)) 181 306 330 332 none
 |co:InW l (.iface 173 (.agg #[.iface 169 (pL l)])) (.iface 169 (pL l)) 173 249 233 236 (some 234)
 |hm:InW l (.iface 173 (.agg #[.iface 174 (pL l)])) (.iface 174 (pL l)) 173 249 250 253 (some 251)
inductive InS (l:Nat):Value->Value->TypeId->Value->FuncId->FuncId->Prop
 |fl:InS l (.iface 181 (.agg #[.iface 193 (pL l)])) (.iface 193 (pL l)) 181 (.iface 193 (pL l)) 307 360
 |hc:InS l (.iface 181 (.agg #[.iface 177 (pL l)])) (.iface 177 (pL l)) 181 (.iface 177 (pL l)) 307 279
 |cn:InS l (.iface 181 (.agg #[.iface 182 (pL l)])) (.iface 182 (pL l)) 181 (.iface 182 (pL l)) 307 311
 |ma:InS l (.iface 181 (.agg #[.iface 185 (pL l)])) (.iface 185 (pL l)) 181 (.iface 185 (pL l)) 307 332
 |rw:InS l (.iface 192 (.agg #[pL l])) (.iface 188 (pL l)) 192 (pL l) 358 355
theorem InS.k{l:Nat}{V U:Value}{t:TypeId}{U':Value}{fc fp:FuncId}(h:InS l V U t U' fc fp):∃a b c,InK l V U a b c fp:=by cases h<;>exact⟨_,_,_,by constructor⟩
section
variable{n:Nat}{w:World}{lb l i:Nat}{R:Bool->World->Prop}{V U:Value}{fs fl fq fp fa ct:FuncId}{t:TypeId}{U':Value}{fc:FuncId}{oc:Option FuncId}
theorem FN {P:Prop} (h:P:=by
    go_wp2_with fail
    refine HS.o.mono ?_
    rintro en w2 ⟨r,rfl,k2⟩
    have K2:=qh k2
    clear k2
    go_wp2
    go_ret
    exact⟨_,rfl,K2.o⟩):P:=h
theorem dTop {P:Prop} (h:P:=by
    unfold lkP at HM ⊢
    first
      | go_enter Tryz.func51,Tryz.ntmps51
      | go_enter Tryz.func52,Tryz.ntmps52
      | go_enter Tryz.func50,Tryz.ntmps50
    go_wp2_with fail
    refine HM.o.mono ?_
    rintro en w1 ⟨rfl,rfl⟩
    exact FN):P:=h
theorem DC {P:Prop} (h:P:=by
    unfold lkP at HM ⊢
    go_enter Tryz.func18,Tryz.ntmps18
    go_wp2_with fail
    refine HM.o.mono ?_
    rintro en w1 ⟨rfl,rfl⟩
    go_wp2_with fail
    refine HS.o.mono ?_
    rintro en w2 ⟨rfl,k2⟩
    have K2:=qh k2
    clear k2
    go_wp2
    go_ret
    exact⟨rfl,K2.o⟩):P:=h
theorem nA (K:InK l V U fs fl fq fp) (hc:w.cell? ⟨lb,1,none⟩=some (.int .i64 n)) (ho:w.cell? ⟨lb,2,none⟩=some V) (hi:i<n) (H:∀W,Below w.heap.size w W->Calls Tryz.prog fs #[pL l,.int .i64 i] W (BR R)):
    Calls Tryz.prog 51 #[lkP lb,.int .i64 i] w (BR R):=by have HM:=qh (rZ hc i true (decide_eq_true ⟨by omega,by omega⟩));have HS:=qh (H w (Below.refl _ _));clear H hi;cases K<;>exact dTop
theorem kv (K:InK l V U fs fl fq fp) (hc:w.cell? ⟨lb,1,none⟩=some (.int .i64 n)) (ho:w.cell? ⟨lb,2,none⟩=some V) (hi:i<n) (H:∀W,Below w.heap.size w W->Calls Tryz.prog fl #[pL l,.int .i64 i] W (BR R)):
    Calls Tryz.prog 52 #[lkP lb,.int .i64 i] w (BR R):=by have HM:=qh (rZ hc i true (decide_eq_true ⟨by omega,by omega⟩));have HS:=qh (H w (Below.refl _ _));clear H hi;cases K<;>exact dTop
theorem xu (K:InW l V U t fa fq fp oc) (hc:w.cell? ⟨lb,1,none⟩=some (.int .i64 n)) (ho:w.cell? ⟨lb,2,none⟩=some V) (hi:i<n) (q:Bool) (H:q=false->∀W,Below w.heap.size w W->Calls Tryz.prog fq #[pL l,.int .i64 i] W (BR R)) (HF:q=true->∀W,Below w.heap.size w W->R false W):
    Calls Tryz.prog 50 #[lkP lb,.int .i64 i,.bool q] w (BR R):=by
  have HM:=qh (rZ hc i true (decide_eq_true ⟨by omega,by omega⟩));have HB:=(Below.refl w.heap.size w).alloc (Nat.le_refl _) (.cells #[U] t)
  have HA:Calls Tryz.prog fa #[.agg #[U],.int .i64 i,.bool q] w (BR R):=by
    clear HM hc ho hi;cases q
    · have HS:=qh (H rfl _ HB);clear H HF HB;cases K
      all_goals
        first| go_enter Tryz.func306,Tryz.ntmps306| go_enter Tryz.func249,Tryz.ntmps249
        exact FN
    · have HS:=qh (HF rfl _ HB);clear H HF HB;cases K
      all_goals
        first| go_enter Tryz.func306,Tryz.ntmps306| go_enter Tryz.func249,Tryz.ntmps249
        go_wp2;go_ret;exact⟨_,rfl,HS.o⟩
  have HS:=qh HA;clear H HF HA HB hi;cases K<;>exact dTop
theorem Cj (hc:w.cell? ⟨lb,1,none⟩=some (.int .i64 n)) (ho:w.cell? ⟨lb,2,none⟩=some (.iface 192 (.agg #[pL l]))) (hi:i<n) (q:Bool) (H:∀W,Below w.heap.size w W->Calls Tryz.prog 352 #[pL l,.int .i64 i,.bool q] W (BR R)):
    Calls Tryz.prog 50 #[lkP lb,.int .i64 i,.bool q] w (BR R):=by have HM:=qh (rZ hc i true (decide_eq_true ⟨by omega,by omega⟩));have HS:=qh (H w (Below.refl _ _));clear H hi;exact dTop
theorem nz (K:InK l V U fs fl fq fp) (hc:w.cell? ⟨lb,1,none⟩=some (.int .i64 n)) (ho:w.cell? ⟨lb,2,none⟩=some V) (hi:i<n) (p:Sp) (H:∀W,Below w.heap.size w W->Calls Tryz.prog fp #[pL l,.int .i64 i] W λe w'=>e= .returned (aE p)/\Below W.heap.size W w'):
    Calls Tryz.prog 57 #[lkP lb,.int .i64 i] w λe w'=>e= .returned (aE p)/\Below w.heap.size w w':=by
  have b1:=(Below.refl w.heap.size w).alloc (Nat.le_refl _) (.cells #[.int .i64 0,.int .i64 0,.int .i64 0,.int .i64 0] 113);have hl1:=aQ hc;have HS:=qh (H _ b1);have c1:(w.alloc (.cells #[.int .i64 0,.int .i64 0,.int .i64 0,.int .i64 0] 113)).cell? ⟨lb,2,none⟩=some V:=by rw[(aa.of_below (S:=[]) b1).cellC (p:=⟨lb,2,none⟩) hl1 QY];exact ho
  have HM:=qh (rZ (w:=w.alloc (.cells #[.int .i64 0,.int .i64 0,.int .i64 0,.int .i64 0] 113)) (by rw[(aa.of_below (S:=[]) b1).cellC (p:=⟨lb,1,none⟩) hl1 QY];exact hc) i true (decide_eq_true ⟨by omega,by omega⟩));have HB:=qh b1;clear H b1 hc ho hi;unfold lkP at HM ⊢;cases K;all_goals go_enter Tryz.func57,Tryz.ntmps57;go_wp2_with fail;refine HM.o.mono ?_;rintro en w1 ⟨rfl,rfl⟩;go_wp2_with fail;refine HS.o.mono ?_;rintro en w2 ⟨rfl,b2⟩;exact qU
theorem rK (K:InW l V U t fa fq fp (some ct)) (hc:w.cell? ⟨lb,1,none⟩=some (.int .i64 n)) (ho:w.cell? ⟨lb,2,none⟩=some V) (hi:i<n) (z:Int) (H:∀W,Below w.heap.size w W->Calls Tryz.prog ct #[pL l,.int .i64 i] W λe w'=>e= .returned (.int .i64 z)/\Below W.heap.size W w'):
    Calls Tryz.prog 18 #[lkP lb,.int .i64 i] w λe w'=>e= .returned (.int .i64 z)/\Below w.heap.size w w':=by have HM:=qh (rZ hc i true (decide_eq_true ⟨by omega,by omega⟩));have HS:=qh (H w (Below.refl _ _));clear H hi;cases K<;>exact DC
theorem Hq (K:InK l V U fs fl fq fp) (p:Sp) (H:∀W,Below w.heap.size w W->Calls Tryz.prog fp #[pL l,.int .i64 i] W λe w'=>e= .returned (aE p)/\Below W.heap.size W w'):
    Calls Tryz.prog 308 #[U,.int .i64 i] w λe w'=>e= .returned (.int .i64 (if p.pc=10 then 1 else 0))/\Below w.heap.size w w':=by have hfield:=aK;have HS:=qh (H w (Below.refl _ _));clear H;obtain⟨pc,u,v,z⟩:=p;unfold aE at HS;simp only;obtain⟨k,hk⟩:∃k,k=(if pc=10 then(1:Int)else 0):=⟨_,rfl⟩;obtain⟨b,hb⟩:∃b,(pc==10)=b:=⟨_,rfl⟩;have hbk:Kq ((if b then(1:Int)else 0)=k):=qh (by rw[hk,<-hb];by_cases e:pc=10<;>simp[e]);rw[<-hk];clear hk;cases b;all_goals cases K;all_goals go_enter Tryz.func308,Tryz.ntmps308;go_wp2_with fail;refine HS.o.mono ?_;rintro en w2 ⟨rfl,b2⟩;have B2:=qh b2;clear b2;go_wp2;go_ret;exact⟨by rw[<-hbk.o];rfl,B2.o⟩
theorem ny (K:InS l V U t U' fc fp) (hc:w.cell? ⟨lb,1,none⟩=some (.int .i64 n)) (ho:w.cell? ⟨lb,2,none⟩=some V) (hi:i<n) (p:Sp) (H:∀W,Below w.heap.size w W->Calls Tryz.prog fp #[pL l,.int .i64 i] W λe w'=>e= .returned (aE p)/\Below W.heap.size W w'):
    Calls Tryz.prog 18 #[lkP lb,.int .i64 i] w λe w'=>e= .returned (.int .i64 (if p.pc=10 then 1 else 0))/\Below w.heap.size w w':=by
  have HM:=qh (rZ hc i true (decide_eq_true ⟨by omega,by omega⟩));have HB:=(Below.refl w.heap.size w).alloc (Nat.le_refl _) (.cells #[U'] t);obtain⟨z,hz⟩:∃z:Int,z=if p.pc=10 then 1 else 0:=⟨_,rfl⟩
  obtain⟨_,_,_,K1⟩:=K.k;have HO0:=Hq K1 (w:=w.alloc (.cells #[U'] t)) (i:=i) p (λW b=>H W (HB.trans (b.mono HB.size)));rw[<-hz]at HO0 ⊢;clear K1
  have HA:Calls Tryz.prog fc #[.agg #[U'],.int .i64 i] w λe w'=>e= .returned (.int .i64 z)/\Below w.heap.size w w':=by
    have HO:=qh HO0;have HB:=qh HB;clear HM hc ho hi H HO0 hz;cases K
    all_goals
      first| go_enter Tryz.func307,Tryz.ntmps307| go_enter Tryz.func358,Tryz.ntmps358
      go_wp2_with fail;refine HO.o.mono ?_;rintro en w2 ⟨rfl,k2⟩;have K2:=qh (HB.o.trans (k2.mono HB.o.size));clear k2;go_wp2;go_ret;exact⟨rfl,K2.o⟩
  have HS:=qh HA;clear H HA HB HO0 hz hi;cases K<;>exact DC
end
end
section
open Go Go.RowKit
structure jk (w:World)(lb n:Nat)(k:Int)(v:Value)(fp:List Nat)(hi:Nat):Prop where
 blk:Blk w lb 110 #[.int .i64 k,.int .i64 n,v]
 nin:lb∉fp
 lt:lb<hi
 fl:∀x∈fp,x<hi
 hw:hi<=w.heap.size
section
variable{w w':World}{lb n hi:Nat}{k:Int}{v:Value}{fp S:List Nat}
theorem jk.own (h:jk w lb n k v fp hi)(t:aa fp w w'):jk w' lb n k v fp hi:={h with blk:=t.blk h.blk h.nin,hw:=Nat.le_trans h.hw t.size}
theorem jk.far (h:jk w lb n k v fp hi)(t:aa S w w')(hS:∀x∈S,hi<=x):jk w' lb n k v fp hi:=
 {h with blk:=t.blk h.blk (λm=>by have:=hS _ m;have:=h.lt;omega),hw:=Nat.le_trans h.hw t.size}
theorem jk.c1 (h:jk w lb n k v fp hi):w.cell? ⟨lb,1,none⟩=some (.int .i64 n):=h.blk.cell 1
theorem jk.c2 (h:jk w lb n k v fp hi):w.cell? ⟨lb,2,none⟩=some v:=h.blk.cell 2
theorem BR.to{R:Bool->World->Prop}{r0:Bool}{Q:World->Prop}{e:Ending}{w':World}(h:BR R e w')(hr:∀r w',R r w'->r=r0/\Q w'):e= .returned (.bool r0)/\Q w':=by obtain⟨r,rfl,hR⟩:=h;obtain⟨rfl,q⟩:=hr r w' hR;exact⟨rfl,q⟩
end
theorem fR{S:List Sp}{i:Nat}(hi:i<S.length)(p:Sp)(j:Nat):sv (S.set i p) j=if j=i then p else sv S j:=by rw[cD];grind
theorem pV{S:List Sp}{i:Nat}(hi:i<S.length):S[i]? =some (sv S i):=by unfold sv;rw[List.getD_eq_getElem?_getD,List.getElem?_eq_getElem hi];rfl
end
section
open Go.RowKit
theorem D7 (w:World) (b o:Nat) (x y:Int) (hc:w.cell? ⟨b,o,none⟩=some (.int .i64 x)) (hz:w.frozen? ⟨b,o,none⟩=false):
    Calls Tryz.prog 188 #[.pointer (some ⟨b,o,none⟩),.int .i64 y] w λe w'=>e= .returned (.tuple #[])/\w'=w.setCell ⟨b,o,none⟩ (.int .i64 y):=by have hl:=run_call_store (P:=Tryz.prog) Tryz.func195 Q0 Q0 Q0 Q0 (k:= .i64) (y:=y) hc hz;go_enter Tryz.func188,Tryz.ntmps188;go_wp2;go_end0;exact⟨rfl,rfl⟩
theorem am {w:World} {a g:Nat} {s:Ar} (h:aA w a g s) (x v:Int) (ho:s.ops+1<=1000000000000):
    Calls Tryz.prog 177 #[↑a,.int .i64 x,.int .i64 v] w (eU w a g (ac s x v) (.tuple #[])):=by
  have H:=qh h;cases hx:inR s.W x;· have e:eU w a g (ac s x v) (.tuple #[]) (.returned (.tuple #[])) w:=⟨rfl,by unfold ac;rw[iM s _ _ _ hx,rc s _ _ hx];exact h,aa.refl _ _⟩;have HX:=qh hx;clear h hx;go_enter Tryz.func177,Tryz.ntmps177;go_wp2_with fail;refine(jQ H.o x HX.o).mono ?_;rintro en w1 ⟨rfl,rfl⟩;go_wp2;go_end0;exact e
  · have HX:=qh hx;have h12:=aO.1 hx;have hil:x.toNat-1<s.W.length:=(by omega);clear h hx;go_enter Tryz.func177,Tryz.ntmps177;go_wp2_with fail;refine(j4 H.o x HX.o).mono ?_;rintro en w1 ⟨rfl,rfl⟩;go_wp2_with fail;refine(iN H.o 2 x true HX.o ho).mono ?_;rintro en w1 ⟨rfl,h1,t1⟩;have hc:=h1.word (i:=x.toNat-1) (by rw[dG];exact hil);have hp:=h1.put (x:=x) (by rw[dG];exact HX.o) v;have H1:=qh (And.intro hp t1);have HC:=qh hc;clear h1 t1 hp hc;go_wp2_with fail;refine(D7 _ _ _ _ _ HC.o.1 HC.o.2).mono ?_;rintro en w2 ⟨rfl,rfl⟩;go_wp2;go_end0;exact⟨rfl,H1.o.1.1,(iX H1.o.2).trans H1.o.1.2⟩
end
end Go.Proofs.YtglokdbiggbkjaaGreat
