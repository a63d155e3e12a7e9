/- Joined texts. -/
import Derived.BigRegion
import Derived.Test.YtglokdbiggbkjaaGreatMgLocksSafe0
import Derived.Test.YtglokdbiggbkjaaGreatMgLocksSafe8
import Derived.Test.YtglokdbiggbkjaaGreatMgLocksSafe9
set_option linter.unusedVariables false
set_option linter.unusedSimpArgs false
set_option maxRecDepth 100000
set_option maxHeartbeats 16000000
namespace Go.Proofs.YtglokdbiggbkjaaGreat
section
open Go.RowKit
section
variable{w w':World}{a g k:Nat}{x:Fx}{s:Ar}{S:List Sp}
structure kC (k:Nat)(x:Fx)(s:Ar)(S:List Sp)(B:Int):Prop where
 ops:s.ops+1<=1000000000000
 w:WdB B s
 p:∀p∈S,SpB k B p
 B0:1<=B
 B1:B<=10000000000
 inr:inR s.W x.t=true
theorem kC.sp{B:Int}(h:kC k x s S B){i:Nat}{p:Sp}(hp:S[i]? =some p):SpB k B p:=h.p p (List.mem_of_getElem? hp)
def iG (p:Sp):Prop:=(0<=p.pc/\p.pc<=5)\/(10<=p.pc/\p.pc<=14)
theorem xT {B:Int} (h:KIs w a g 4 x s S) (C:kC 4 x s S B) (i:Nat) (p:Sp) (hp:S[i]? =some p) (h0:0<p.pc) (h5:p.pc<=5):
    Calls Tryz.prog 446 #[↑x.l,.pointer (some ⟨x.q,i*4,none⟩),.int .i64 ((i:Int)+1)] w (k8 w a g x S i p (eB x.t s ((i:Int)+1) p)):=by
  have hi:i<x.n:=by have:=(List.getElem?_eq_some_iff.1 hp).1;rw[h.n]at this;exact this
  have hb:=C.sp hp;have ho:=C.ops;have hB:=C.B1;obtain⟨pc,u,b,z⟩:=p;have a0:=hb.a0;have a1:=hb.a1;simp only at h0 h5 a0 a1;have:pc=1\/pc=2\/pc=3\/pc=4\/pc=5:=by omega
  rcases this with rfl|rfl|rfl|rfl|rfl
  · exact Gc h i hi u b z hp ho
  · exact Gd h i hi u b z hp ho
  · exact Ge h i hi u b z hp ho
  · exact Gf h i hi u b z hp ho QX
  · exact Gg h i hi u b z hp ho
theorem un {B:Int} (h:KIs w a g 4 x s S) (C:kC 4 x s S B) (i:Nat) (p:Sp) (hp:S[i]? =some p) (h0:10<p.pc) (h5:p.pc<=14):
    Calls Tryz.prog 447 #[↑x.l,.pointer (some ⟨x.q,i*4,none⟩),.int .i64 ((i:Int)+1)] w (k8 w a g x S i p (dF x.t s ((i:Int)+1) p)):=by
  have hi:i<x.n:=by have:=(List.getElem?_eq_some_iff.1 hp).1;rw[h.n]at this;exact this
  have hb:=C.sp hp;have ho:=C.ops;have hB:=C.B1;obtain⟨pc,u,b,z⟩:=p;have a0:=hb.a0;have a1:=hb.a1;simp only at h0 h5 a0 a1;have:pc=11\/pc=12\/pc=13\/pc=14:=by omega
  rcases this with rfl|rfl|rfl|rfl
  · exact CT h i hi u b z hp ho
  · exact CU h i hi u b z hp ho
  · exact CV h i hi u b z hp ho
  · exact CW h i hi u b z hp ho QX
def GoK (w:World)(a g:Nat)(x:Fx)(S:List Sp)(i:Nat)(to_:Int)(r:Ar×Sp)(e:Ending)(w':World):Prop:=
 e= .returned (.bool (decide (r.2.pc=to_)))/\KIs w' a g 4 x r.1 (S.set i r.2)/\aa [a,g,x.q] w w'
theorem gB{b c:Bool}(h:b=c):Ending.returned (Value.bool b)=Ending.returned (Value.bool c):=by rw[h]
theorem AK (t:Int)(s:Ar)(y:Int)(p:Sp):(eB t s y p).2.pc≠0:=by
 unfold eB;split;·simp
 split;·simp
 split;·simp only;split<;>decide
 split;·simp
 ·simp only;split<;>decide
theorem xS (t:Int)(s:Ar)(y:Int)(p:Sp):(dF t s y p).2.pc≠10:=by
 unfold dF;split;·simp only;split<;>decide
 split;·simp
 ·simp only;repeat' split
  all_goals decide
theorem rz (t m:Int)(s:Ar)(i:Int){p:Sp}(h0:0<p.pc)(h5:p.pc<=5):decide ((eB t s (i+1) p).2.pc=10)=bf p (bG 4 t m s i p).2:=by
 have e:bG 4 t m s i p=eB t s (i+1) p:=by show lM t s i p=_;unfold lM;rw[if_pos ⟨h0,by omega⟩]
 rw[e];have hn:=AK t s (i+1) p;unfold bf;by_cases h:(eB t s (i+1) p).2.pc=10;·rw[decide_eq_true h,decide_eq_true ⟨.inl h,by omega,by omega⟩]
 ·exact IS
theorem p8 (t m:Int)(s:Ar)(i:Int){p:Sp}(h0:10<p.pc)(h5:p.pc<=14):decide ((dF t s (i+1) p).2.pc=0)=bf p (bG 4 t m s i p).2:=by
 have e:bG 4 t m s i p=dF t s (i+1) p:=by show lM t s i p=_;unfold lM;rw[if_neg QX,if_pos h0]
 rw[e];have hn:=xS t s (i+1) p;unfold bf;by_cases h:(dF t s (i+1) p).2.pc=0;·rw[decide_eq_true h,decide_eq_true ⟨.inr h,by omega,by omega⟩]
 ·exact IS
theorem tX (h:KIs w a g 4 x s S) (i:Nat) (p:Sp) (hp:S[i]? =some p) (to_:Int) (r:Ar×Sp)
    (hm:Calls Tryz.prog 446 #[↑x.l,.pointer (some ⟨x.q,i*4,none⟩),.int .i64 ((i:Int)+1)] w (k8 w a g x S i p r)):
    Calls Tryz.prog 445 #[↑x.l,.int .i64 i,.int .i64 to_,.func (.func 446) #[↑x.l] #[]] w (GoK w a g x S i to_ r):=by
  have hi:i<x.n:=by have:=(List.getElem?_eq_some_iff.1 hp).1;rw[h.n]at this;exact this
  have hn:=h.n32;have x7:IntKind.i64.wrap ((i:Int)+1)=(i:Int)+1:=IntWalk.i64_in _ QX;have HM:=qh hm;have HP:=qh hp;have H:=qh h;clear h hm hp;cases hc:(r.2.pc==to_);all_goals go_enter Tryz.func445,Tryz.ntmps445;go_wp2_with (go_at_call 444;refine(bC .mcs H.o i hi).mono ?_;rintro e w' ⟨rfl,rfl⟩);go_wp2_with (go_at_call 446;refine HM.o.mono ?_;rintro e w2 ⟨rfl,k2,t2⟩;have K2:=qh (And.intro k2 t2);have K3:=qh (k2.put0 (p':=r.2) (au HP.o _) (u:= .int .i64 r.2.pc) rfl);have f0:=k2.sp.free (i*4);have a0:=k2.sp.cell (au HP.o _) 0 _ rfl;simp only[Nat.add_zero]at a0;clear k2 t2);go_ret;have k3:=K3.o;rw[dT]at k3;refine⟨?_,k3,K2.o.2.trans (aG (aU _ _ _))⟩;first| exact gB (decide_eq_true Q8).symm| exact gB (decide_eq_false Q8).symm
theorem rY (h:KIs w a g 4 x s S) (i:Nat) (p:Sp) (hp:S[i]? =some p) (to_:Int) (r:Ar×Sp)
    (hm:Calls Tryz.prog 447 #[↑x.l,.pointer (some ⟨x.q,i*4,none⟩),.int .i64 ((i:Int)+1)] w (k8 w a g x S i p r)):
    Calls Tryz.prog 445 #[↑x.l,.int .i64 i,.int .i64 to_,.func (.func 447) #[↑x.l] #[]] w (GoK w a g x S i to_ r):=by
  have hi:i<x.n:=by have:=(List.getElem?_eq_some_iff.1 hp).1;rw[h.n]at this;exact this
  have hn:=h.n32;have x7:IntKind.i64.wrap ((i:Int)+1)=(i:Int)+1:=IntWalk.i64_in _ QX;have HM:=qh hm;have HP:=qh hp;have H:=qh h;clear h hm hp;cases hc:(r.2.pc==to_);all_goals go_enter Tryz.func445,Tryz.ntmps445;go_wp2_with (go_at_call 444;refine(bC .mcs H.o i hi).mono ?_;rintro e w' ⟨rfl,rfl⟩);go_wp2_with (go_at_call 447;refine HM.o.mono ?_;rintro e w2 ⟨rfl,k2,t2⟩;have K2:=qh (And.intro k2 t2);have K3:=qh (k2.put0 (p':=r.2) (au HP.o _) (u:= .int .i64 r.2.pc) rfl);have f0:=k2.sp.free (i*4);have a0:=k2.sp.cell (au HP.o _) 0 _ rfl;simp only[Nat.add_zero]at a0;clear k2 t2);go_ret;have k3:=K3.o;rw[dT]at k3;refine⟨?_,k3,K2.o.2.trans (aG (aU _ _ _))⟩;first| exact gB (decide_eq_true Q8).symm| exact gB (decide_eq_false Q8).symm
theorem Bw {B:Int} (h:KIs w a g 4 x s S) (C:kC 4 x s S B) (i:Nat) (p:Sp) (hp:S[i]? =some p) (hc:iG p):
    Calls Tryz.prog 441 #[↑x.l,.int .i64 i] w (dy w a g 4 x s S i p):=by
  have hfield:=aK;have HS:=qh (dZ .mcs h i p hp);have HI:=qh (λW (k:KIs W a g 4 x s S) (h0:0<p.pc) (h5:p.pc<=5)=>tX k i p hp 10 _ (xT k C i p hp h0 h5));have HO:=qh (λW (k:KIs W a g 4 x s S) (h0:10<p.pc) (h5:p.pc<=14)=>rY k i p hp 0 _ (un k C i p hp h0 h5));have HP:=qh hp;have H:=qh h;clear h hp C;obtain⟨pc,u,b,z⟩:=p;have hcs:pc=0\/pc=10\/(pc=1\/pc=2\/pc=3\/pc=4\/pc=5)\/(pc=11\/pc=12\/pc=13\/pc=14):=by unfold iG at hc;simp only at hc;omega
  clear hc;rcases hcs with hcs|hcs|hcs|hcs
  · subst hcs;go_enter Tryz.func441,Tryz.ntmps441;go_wp2_with (go_at_call 440;refine HS.o.mono ?_;unfold aE;rintro e w1 ⟨rfl,b1⟩;have H1:=qh (And.intro (H.o.below b1) (aa.of_below (S:=[a,g,x.q]) b1));clear b1);go_ret;have k:=H1.o.1;rw[<-bX HP.o]at k;exact⟨rfl,k,H1.o.2⟩
  · subst hcs;go_enter Tryz.func441,Tryz.ntmps441;go_wp2_with (go_at_call 440;refine HS.o.mono ?_;unfold aE;rintro e w1 ⟨rfl,b1⟩;have H1:=qh (And.intro (H.o.below b1) (aa.of_below (S:=[a,g,x.q]) b1));clear b1);go_ret;have k:=H1.o.1;rw[<-bX HP.o]at k;exact⟨rfl,k,H1.o.2⟩
  · rcases hcs with rfl|rfl|rfl|rfl|rfl
    all_goals go_enter Tryz.func441,Tryz.ntmps441;go_wp2_with (go_at_call 440;refine HS.o.mono ?_;unfold aE;rintro e w1 ⟨rfl,b1⟩;have H1:=qh (And.intro (H.o.below b1) (aa.of_below (S:=[a,g,x.q]) b1));clear b1);go_wp2_with (go_at_call 445;refine(HI.o _ H1.o.1 QY QY).mono ?_;rintro e w2 ⟨rfl,k2,t2⟩;have H2:=qh (And.intro k2 t2);clear k2 t2);go_ret;exact⟨gB (rz _ _ _ _ QY QY),H2.o.1,H1.o.2.trans H2.o.2⟩
  · rcases hcs with rfl|rfl|rfl|rfl
    all_goals go_enter Tryz.func441,Tryz.ntmps441;go_wp2_with (go_at_call 440;refine HS.o.mono ?_;unfold aE;rintro e w1 ⟨rfl,b1⟩;have H1:=qh (And.intro (H.o.below b1) (aa.of_below (S:=[a,g,x.q]) b1));clear b1);go_wp2_with (go_at_call 445;refine(HO.o _ H1.o.1 QY QY).mono ?_;rintro e w2 ⟨rfl,k2,t2⟩;have H2:=qh (And.intro k2 t2);clear k2 t2);go_ret;exact⟨gB (p8 _ _ _ _ QY QY),H2.o.1,H1.o.2.trans H2.o.2⟩
theorem wN (h:KIs w a g 4 x s S) (i:Nat) (p:Sp) (hp:S[i]? =some p) (hpc:p.pc=10) (ho:s.ops+1<=1000000000000):
    Calls Tryz.prog 436 #[↑x.l,.int .i64 i] w (pd w a g 4 x s S i p):=by
  have hi:i<x.n:=by have:=(List.getElem?_eq_some_iff.1 hp).1;rw[h.n]at this;exact this
  have hn:=h.n32;have hfield:=aK;obtain⟨c,u,b,z⟩:=p;simp only at hpc;subst hpc;obtain⟨ar',har⟩:∃q,q=ae s (mNx x.t ((i:Int)+1)):=⟨_,rfl⟩;obtain⟨v,hv⟩:∃v,v=ldW s.W (mNx x.t ((i:Int)+1)):=⟨_,rfl⟩;have HX:Kq (ch 4 x.t s i ⟨10,u,b,z⟩=(ar',decide (v=0))):=qh Rc;have x7:IntKind.i64.wrap ((i:Int)+1)=(i:Int)+1:=IntWalk.i64_in _ QX;have HO0:=(λW (k:KIs W a g 4 x s S)=>aC k.ar (mNx x.t ((i:Int)+1)) ho);rw[<-har,<-hv]at HO0;have HO:=qh HO0;have HS:=qh (λW (k:KIs W a g 4 x s S)=>dZ .mcs k i _ hp);have HF:=qh (λW (k:KIs W a g 4 x s S)=>jy k ((i:Int)+1) QX);have HC:Kq (∀W s (S':List Sp),KIs W a g 4 x s S'->W.cell? x.l=some ↑a):=qh (λW s S' k=>k.mi.1);have HP:=qh hp;have K1:=qh (h.below ((Below.refl _ w).drew));clear HO0 h hp har hv;cases hd:(v==0)
  all_goals
    go_enter Tryz.func436,Tryz.ntmps436;go_wp2_with fail;first
    | (go_region_held3 (λW=>W.cell? x.l=some ↑a)
        (first|with_reducible exact HC.o _ _ _ K1.o|with_reducible exact HC.o _ _ _ K2.o|with_reducible exact HC.o _ _ _ K3.o)
        (first
          | (go_at_call 440;go_loud (refine(HS.o _ K1.o).mono ?_);unfold aE;rintro en w2 ⟨rfl,b2⟩;have K2:=qh (K1.o.below b2);have T2:=qh (((aa.refl [a,g,x.q] w).drew).trans (aa.of_below b2));clear b2)
          | (go_at_call 442;go_loud (refine(HF.o _ K2.o).mono ?_);rintro en w3 ⟨rfl,rfl⟩)
          | (go_at_call 173;go_loud (refine(HO.o _ K2.o).mono ?_);rintro en w3 ⟨rfl,a3,t3⟩;have K3:=qh (K2.o.op t3 a3);have T3:=qh (T2.o.trans (aI t3));clear a3 t3)))
    | fail "held"
  all_goals go_wp2;go_ret;rw[pd,HX.o];first| exact⟨by rw[decide_eq_true Rh];rfl,K3.o,T3.o⟩| exact⟨by rw[decide_eq_false Rh];rfl,K3.o,T3.o⟩
end
end
section
open Go.RowKit
section
variable{w w':World}{a g k:Nat}{x:Fx}{s:Ar}{S:List Sp}
theorem KIs.wi (h:KIs w a g 1 x s S):w.cell? x.l=some ↑a/\w.cell? ⟨x.l,1,none⟩=some (.int .i64 x.t)/\w.cell? ⟨x.l,2,none⟩=some (.int .i64 x.m):=⟨h.lk.cell 0,h.lk.cell 1,h.lk.cell 2⟩
theorem yq (h:KIs w a g 1 x s S) (i:Nat) (u b z:Int) (hp:S[i]? =some (⟨1,u,b,z⟩:Sp)) (ho:s.ops+1<=1000000000000) (hu0:0<=u) (hu1:u<=10000000000000):
    Calls Tryz.prog 410 #[↑x.l,.int .i64 i] w (dy w a g 1 x s S i ⟨1,u,b,z⟩):=by
  have hi:i<x.n:=by have:=(List.getElem?_eq_some_iff.1 hp).1;rw[h.n]at this;exact this
  have hn:=h.n32;have a0:=h.sp.cell hp 0 _ rfl;simp only[Nat.add_zero]at a0;obtain⟨ar',har⟩:∃q,q=dO s x.t 0 ((i:Int)+1):=⟨_,rfl⟩;obtain⟨v,hv⟩:∃v,v=cl s x.t 0:=⟨_,rfl⟩;have HX:Kq (bG 1 x.t x.m s i ⟨1,u,b,z⟩=(ar',if v then⟨10,u,b,z⟩else⟨2,min (2*u) x.m,u,z⟩)):=qh Rc;have HO0:=(λW (k:KIs W a g 1 x s S)=>i1 k.ar x.t 0 ((i:Int)+1) ho);rw[<-har,<-hv]at HO0;have e1:IntKind.i64.wrap ((i:Int)+1)=(i:Int)+1:=IntWalk.i64_in _ QX;have e2:IntKind.i64.wrap (2*u)=2*u:=IntWalk.i64_in _ QX;have HO:=qh HO0;have HP:=qh hp;have K0:=qh h;have K1:=qh (h.below ((Below.refl _ w).drew));clear HO0 h hp har hv;cases v
  · go_enter Tryz.func410,Tryz.ntmps410;go_wp2_with (go_at_call 411;refine(bC .tas K0.o i hi).mono ?_;rintro e w' ⟨rfl,rfl⟩)
    go_region_held3 (λW=>W.cell? x.l=some ↑a/\W.cell? ⟨x.l,1,none⟩=some (.int .i64 x.t)/\W.cell? ⟨x.l,2,none⟩=some (.int .i64 x.m))
      (first|with_reducible exact K1.o.wi|with_reducible exact K2.o.wi)
      (first
        | (go_at_call 272;go_loud (refine(HO.o _ K1.o).mono ?_);rintro en w3 ⟨rfl,a3,t3⟩;have K2:=qh (K1.o.op t3 a3);have T2:=qh (((aa.refl [a,g,x.q] w).drew).trans (aI t3));clear a3 t3))
    have d0:=K2.o.sp.cell HP.o 0 _ rfl;have d1:=K2.o.sp.cell HP.o 1 _ rfl;have d2:=K2.o.sp.cell HP.o 2 _ rfl;have z0:=K2.o.sp.free (i*4);have z1:=K2.o.sp.free (i*4+1);have z2:=K2.o.sp.free (i*4+2);have d3:=K2.o.wi;simp only[Nat.add_zero]at d0;go_wp2_with fail;obtain⟨mu,hmu⟩:∃r:Int,r=2*u:=⟨_,rfl⟩;rw[<-hmu]at HX e2;have HMU:=qh hmu;clear hmu;by_cases hm:(x.m:Int)<mu;· have hmin:min mu (x.m:Int)=x.m:=(by omega);rw[hmin]at HX;have K4:=(((K2.o.put0 HP.o (p':=(⟨2,u,b,z⟩:Sp)) (u:= .int .i64 2) rfl).put (au HP.o _) (j:=2) (p':=(⟨2,u,u,z⟩:Sp)) (u:= .int .i64 u) QZ rfl).put (au (au HP.o _) _) (j:=1) (p':=(⟨2,x.m,u,z⟩:Sp)) (u:= .int .i64 x.m) QZ rfl);rw[dT,dT]at K4;have K5:=qh (K4.below (Below.refl _ _).drew);have T5:=qh (T2.o.trans (aG (a:=a) (g:=g) ((((aU x.q (i*4) (.int .i64 2)).trans (aU x.q (i*4+2) (.int .i64 u))).trans (aU x.q (i*4+1) (.int .i64 x.m))).drew)));clear K4 hmin;go_region;go_wp2;all_goals go_ret;rw[dy,HX.o];first| exact⟨rfl,K5.o,T5.o⟩| (exfalso;have e9:=HMU.o;omega)| (have e9:=HMU.o;subst e9;exact⟨rfl,K5.o,T5.o⟩)
    · have hmin:min mu (x.m:Int)=mu:=(by omega);rw[hmin]at HX;have K4:=(((K2.o.put0 HP.o (p':=(⟨2,u,b,z⟩:Sp)) (u:= .int .i64 2) rfl).put (au HP.o _) (j:=2) (p':=(⟨2,u,u,z⟩:Sp)) (u:= .int .i64 u) QZ rfl).put (au (au HP.o _) _) (j:=1) (p':=(⟨2,mu,u,z⟩:Sp)) (u:= .int .i64 mu) QZ rfl);rw[dT,dT]at K4;have K5:=qh (K4.below (Below.refl _ _).drew);have T5:=qh (T2.o.trans (aG (a:=a) (g:=g) ((((aU x.q (i*4) (.int .i64 2)).trans (aU x.q (i*4+2) (.int .i64 u))).trans (aU x.q (i*4+1) (.int .i64 mu))).drew)));clear K4 hmin;go_region;go_wp2;all_goals go_ret;rw[dy,HX.o];first| exact⟨rfl,K5.o,T5.o⟩| (exfalso;have e9:=HMU.o;omega)| (have e9:=HMU.o;subst e9;exact⟨rfl,K5.o,T5.o⟩)
  · go_enter Tryz.func410,Tryz.ntmps410;go_wp2_with (go_at_call 411;refine(bC .tas K0.o i hi).mono ?_;rintro e w' ⟨rfl,rfl⟩)
    go_region_held3 (λW=>W.cell? x.l=some ↑a/\W.cell? ⟨x.l,1,none⟩=some (.int .i64 x.t)/\W.cell? ⟨x.l,2,none⟩=some (.int .i64 x.m))
      (first|with_reducible exact K1.o.wi|with_reducible exact K2.o.wi)
      (first
        | (go_at_call 272;go_loud (refine(HO.o _ K1.o).mono ?_);rintro en w3 ⟨rfl,a3,t3⟩;have K2:=qh (K1.o.op t3 a3);have T2:=qh (((aa.refl [a,g,x.q] w).drew).trans (aI t3));clear a3 t3))
    have d0:=K2.o.sp.cell HP.o 0 _ rfl;have z0:=K2.o.sp.free (i*4);simp only[Nat.add_zero]at d0;have K4:=qh (K2.o.put0 HP.o (p':=(⟨10,u,b,z⟩:Sp)) (u:= .int .i64 10) rfl);go_wp2;go_ret;rw[dy,HX.o];exact⟨rfl,K4.o,T2.o.trans (aG (aU _ _ _))⟩
theorem yr (h:KIs w a g 1 x s S) (i:Nat) (u b z:Int) (hp:S[i]? =some (⟨2,u,b,z⟩:Sp)) (hb0:-10000000000000<=b) (hb1:b<=10000000000000):
    Calls Tryz.prog 410 #[↑x.l,.int .i64 i] w (dy w a g 1 x s S i ⟨2,u,b,z⟩):=by
  have hi:i<x.n:=by have:=(List.getElem?_eq_some_iff.1 hp).1;rw[h.n]at this;exact this
  have a0:=h.sp.cell hp 0 _ rfl;have a2:=h.sp.cell hp 2 _ rfl;have z0:=h.sp.free (i*4);have z2:=h.sp.free (i*4+2);simp only[Nat.add_zero]at a0;obtain⟨r,hr⟩:∃r:Int,r=b-1:=⟨_,rfl⟩;have HX:Kq (bG 1 x.t x.m s i ⟨2,u,b,z⟩=(s,⟨if r=0 then 1 else 2,u,r,z⟩)):=qh (by rw[hr];rfl);have e1:IntKind.i64.wrap (b-1)=r:=by rw[hr];exact IntWalk.i64_in _ QX
  have HP:=qh hp;have K0:=qh h;have K1:=qh (h.put hp (p':=(⟨2,u,r,z⟩:Sp)) (j:=2) (u:= .int .i64 r) QZ rfl);have K2:=qh (K1.o.put0 (au hp _) (p':=(⟨1,u,r,z⟩:Sp)) (u:= .int .i64 1) rfl);clear h hp hr;cases hc:(r==0)
  all_goals
    go_enter Tryz.func410,Tryz.ntmps410;go_wp2_with (go_at_call 411;refine(bC .tas K0.o i hi).mono ?_;rintro e w' ⟨rfl,rfl⟩);go_ret;rw[dy,HX.o]
    first
      | (rw[if_pos Q8]
         refine⟨rfl,?_,aG ((aU _ _ _).trans (aU _ _ _))⟩
         have k:=K2.o
         rw[dT]at k
         exact k)
      | (rw[if_neg Q8];exact⟨rfl,K1.o,aG (aU _ _ _)⟩)
theorem uP (h:KIs w a g 1 x s S) (i:Nat) (u b z:Int) (hp:S[i]? =some (⟨11,u,b,z⟩:Sp)) (ho:s.ops+1<=1000000000000):
    Calls Tryz.prog 410 #[↑x.l,.int .i64 i] w (dy w a g 1 x s S i ⟨11,u,b,z⟩):=by
  have hi:i<x.n:=by have:=(List.getElem?_eq_some_iff.1 hp).1;rw[h.n]at this;exact this
  have a0:=h.sp.cell hp 0 _ rfl;simp only[Nat.add_zero]at a0;obtain⟨ar',har⟩:∃q,q=ac s x.t 0:=⟨_,rfl⟩;have HX:Kq (bG 1 x.t x.m s i ⟨11,u,b,z⟩=(ar',⟨0,u,b,z⟩)):=qh Rl;have HO0:=(λW (k:KIs W a g 1 x s S)=>am k.ar x.t 0 ho);rw[<-har]at HO0;have HO:=qh HO0;have HP:=qh hp;have K0:=qh h;have K1:=qh (h.below ((Below.refl _ w).drew));clear HO0 h hp har;go_enter Tryz.func410,Tryz.ntmps410;go_wp2_with (go_at_call 411;refine(bC .tas K0.o i hi).mono ?_;rintro e w' ⟨rfl,rfl⟩)
  go_region_held3 (λW=>W.cell? x.l=some ↑a/\W.cell? ⟨x.l,1,none⟩=some (.int .i64 x.t)/\W.cell? ⟨x.l,2,none⟩=some (.int .i64 x.m))
    (first|with_reducible exact K1.o.wi|with_reducible exact K2.o.wi)
    (first
      | (go_at_call 177;go_loud (refine(HO.o _ K1.o).mono ?_);rintro en w3 ⟨rfl,a3,t3⟩;have K2:=qh (K1.o.op t3 a3);have T2:=qh (((aa.refl [a,g,x.q] w).drew).trans (aI t3));clear a3 t3))
  all_goals have d0:=K2.o.sp.cell HP.o 0 _ rfl;have z0:=K2.o.sp.free (i*4);simp only[Nat.add_zero]at d0;have K4:=qh (K2.o.put0 HP.o (p':=(⟨0,u,b,z⟩:Sp)) (u:= .int .i64 0) rfl);go_wp2;go_ret;rw[dy,HX.o];exact⟨rfl,K4.o,T2.o.trans (aG (aU _ _ _))⟩
theorem pU (h:KIs w a g 1 x s S) (i:Nat) (p:Sp) (hp:S[i]? =some p) (h0:p.pc=0\/p.pc=10):
    Calls Tryz.prog 410 #[↑x.l,.int .i64 i] w (dy w a g 1 x s S i p):=by
  have hi:i<x.n:=by have:=(List.getElem?_eq_some_iff.1 hp).1;rw[h.n]at this;exact this
  obtain⟨c,u,b,z⟩:=p;have a0:=h.sp.cell hp 0 _ rfl;simp only[Nat.add_zero]at a0;have HP:=qh hp;have K0:=qh h;clear h hp;simp only at h0;rcases h0 with rfl|rfl
  all_goals go_enter Tryz.func410,Tryz.ntmps410;go_wp2_with (go_at_call 411;refine(bC .tas K0.o i hi).mono ?_;rintro e w' ⟨rfl,rfl⟩);go_ret;refine⟨rfl,?_,aa.refl _ _⟩;have k:=K0.o;rw[<-bX HP.o]at k;exact k
theorem tv (h:KIs w a g 1 x s S) (i:Nat) (p:Sp) (hp:S[i]? =some p) (hpc:p.pc=10):
    Calls Tryz.prog 412 #[.agg #[↑x.l],.int .i64 i] w (pd w a g 1 x s S i p):=by have hfield:=aK;have b1:=(Below.refl w.heap.size w).alloc (Nat.le_refl _) (.cells #[↑x.l] 289);have HS:=qh (dZ .tas (h.below b1) i p hp);have HB:=qh b1;have K0:=qh h;have HX:Kq (ch 1 x.t s i p=(s,true)):=qh (by unfold ch;rw[if_pos hpc];rfl);obtain⟨pc,u,b,z⟩:=p;simp only at hpc;subst hpc;unfold aE at HS;clear h hp b1;go_enter Tryz.func412,Tryz.ntmps412;go_wp2_with fail;refine HS.o.mono ?_;rintro en w1 ⟨rfl,b2⟩;have HB2:=qh (show Below w.heap.size w w1 from HB.o.trans (b2.mono HB.o.size));clear b2;go_wp2;go_ret;rw[pd,HX.o];exact⟨rfl,K0.o.below HB2.o,aa.of_below HB2.o⟩
end
end
section
open Go.RowKit
section
variable{w w':World}{a g k:Nat}{x:Fx}{s:Ar}{S:List Sp}
theorem KIs.pi (h:KIs w a g 3 x s S):w.cell? x.l=some ↑a/\w.cell? ⟨x.l,1,none⟩=some (.int .i64 x.t)/\w.cell? ⟨x.l,2,none⟩=some (.int .i64 x.m)/\w.cell? ⟨x.l,3,none⟩=some (.slice (some ⟨x.q,0,none⟩) x.n x.cap):=⟨h.lk.cell 0,h.lk.cell 1,h.lk.cell 2,h.lk.cell 3⟩
theorem KIs.qt (h:KIs w a g k x s S)(q:Qt w w'):KIs w' a g k x s S:=h.turns (T:=[]) (aa.of_qt q) QY QY QY QY
theorem kV (h:KIs w a g 3 x s S)(y:Int)(hy:0<=y/\y<=10000000000000):Calls Tryz.prog 178 #[↑x.l,.int .i64 y] w λe w'=>e= .returned (.int .i64 (pPl x.t x.m y))/\Qt w w':=by
 obtain⟨c0,c1,c2,c3⟩:=h.pi;have t1:=h.t1;have m0:=h.m0;have m1:=h.m1;have hm:((x.m:Int)==0)=false:=by simp;omega
 have hr:y%(x.m:Int)<x.m:=Int.emod_lt_of_pos _ QX;have hr0:0<=y%(x.m:Int):=Int.emod_nonneg _ QX;obtain⟨r,hre⟩:∃r,r=y%(x.m:Int):=⟨_,rfl⟩;have e0:y.tmod (x.m:Int)=r:=by rw[hre];exact Int.tmod_eq_emod_of_nonneg hy.1
 have e1:IntKind.i64.wrap ((x.t:Int)+1)=(x.t:Int)+1:=IntWalk.i64_in _ QX;have e2:IntKind.i64.wrap ((x.t:Int)+1+r)=(x.t:Int)+1+r:=IntWalk.i64_in _ (by rw[<-hre]at hr hr0;omega);have HX:Kq (pPl x.t x.m y=(x.t:Int)+1+r):=qh (by unfold pPl;rw[hre]);have HR:=qh hre;rw[HX.o];rw[<-hre]at hr hr0;clear h hre;go_enter Tryz.func178,Tryz.ntmps178;go_wp2_with fail;go_quiet (fail);go_wp2;go_ret;exact⟨rfl,⟨nq,rfl⟩⟩
theorem pk (h:KIs w a g 3 x s S) (y:Int) (hy:0<=y/\y<=1000000000000) (ho:s.ops+1<=1000000000000):Calls Tryz.prog 435 #[↑x.l,.int .i64 y] w λe w'=>e= .returned (.bool (decide (ldW s.W (pPl x.t x.m y)=y+1)))/\KIs w' a g 3 x (ae s (pPl x.t x.m y)) S/\aa [a,g,x.q] w w':=by
  obtain⟨ad,had⟩:∃z,z=pPl x.t x.m y:=⟨_,rfl⟩;obtain⟨ar',har⟩:∃q,q=ae s ad:=⟨_,rfl⟩;obtain⟨v,hv⟩:∃v,v=ldW s.W ad:=⟨_,rfl⟩;have HO0:=(λW (k:KIs W a g 3 x s S)=>aC k.ar ad ho);rw[<-har,<-hv]at HO0;have HPl0:=(λW (k:KIs W a g 3 x s S)=>kV k y QX);rw[<-had]at HPl0;rw[<-had,<-hv,<-har];have e2:IntKind.i64.wrap (y+1)=y+1:=IntWalk.i64_in _ QX;have HO:=qh HO0;have HPl:=qh HPl0;have K1:=qh (h.below ((Below.refl _ w).drew));clear HO0 h har hv HPl0 had;cases hd:(v==y+1)
  all_goals
    go_enter Tryz.func435,Tryz.ntmps435;go_wp2_with fail;first
    | (go_region_held3 (λW=>W.cell? x.l=some ↑a/\W.cell? ⟨x.l,1,none⟩=some (.int .i64 x.t)/\W.cell? ⟨x.l,2,none⟩=some (.int .i64 x.m)/\W.cell? ⟨x.l,3,none⟩=some (.slice (some ⟨x.q,0,none⟩) x.n x.cap))
        (first|with_reducible exact K1.o.pi|with_reducible exact Q2.o.pi|with_reducible exact K2.o.pi)
        (first
          | (go_at_call 178;go_loud (refine(HPl.o _ K1.o).mono ?_);rintro en w2 ⟨rfl,q2⟩;have Q2:=qh (K1.o.qt q2);have T1:=qh (((aa.refl [a,g,x.q] w).drew).trans (aa.of_qt q2));clear q2)
          | (go_at_call 173;go_loud (refine(HO.o _ Q2.o).mono ?_);rintro en w3 ⟨rfl,a3,t3⟩;have K2:=qh (Q2.o.op t3 a3);have T2:=qh (T1.o.trans (aI t3));clear a3 t3)))
    | fail "held"
  all_goals go_wp2;go_ret;first| exact⟨by rw[decide_eq_true Rh];rfl,K2.o,T2.o⟩| exact⟨by rw[decide_eq_false Rh];rfl,K2.o,T2.o⟩
theorem sd (h:KIs w a g 3 x s S) (y:Int) (hy:0<=y/\y<=1000000000000) (ho:s.ops+1<=1000000000000):Calls Tryz.prog 432 #[↑x.l,.int .i64 y] w λe w'=>e= .returned (.bool (decide (ldW s.W ((x.t:Int))=y+1)))/\KIs w' a g 3 x (ae s ((x.t:Int))) S/\aa [a,g,x.q] w w':=by
  obtain⟨ad,had⟩:∃z,z=(x.t:Int):=⟨_,rfl⟩;obtain⟨ar',har⟩:∃q,q=ae s ad:=⟨_,rfl⟩;obtain⟨v,hv⟩:∃v,v=ldW s.W ad:=⟨_,rfl⟩;have HO0:=(λW (k:KIs W a g 3 x s S)=>aC k.ar ad ho);rw[<-har,<-hv]at HO0;rw[<-had,<-hv,<-har];have e2:IntKind.i64.wrap (y+1)=y+1:=IntWalk.i64_in _ QX;have HO:=qh HO0;rw[had]at HO;have K1:=qh (h.below ((Below.refl _ w).drew));clear HO0 h har hv had;cases hd:(v==y+1)
  all_goals
    go_enter Tryz.func432,Tryz.ntmps432;go_wp2_with fail;first
    | (go_region_held3 (λW=>W.cell? x.l=some ↑a/\W.cell? ⟨x.l,1,none⟩=some (.int .i64 x.t)/\W.cell? ⟨x.l,2,none⟩=some (.int .i64 x.m)/\W.cell? ⟨x.l,3,none⟩=some (.slice (some ⟨x.q,0,none⟩) x.n x.cap))
        (first|with_reducible exact K1.o.pi|with_reducible exact Q2.o.pi|with_reducible exact K2.o.pi)
        (first
          | (go_at_call 173;go_loud (refine(HO.o _ K1.o).mono ?_);rintro en w3 ⟨rfl,a3,t3⟩;have K2:=qh (K1.o.op t3 a3);have T2:=qh (((aa.refl [a,g,x.q] w).drew).trans (aI t3));clear a3 t3)))
    | fail "held"
  all_goals go_wp2;go_ret;first| exact⟨by rw[decide_eq_true Rh];rfl,K2.o,T2.o⟩| exact⟨by rw[decide_eq_false Rh];rfl,K2.o,T2.o⟩
theorem rv (h:KIs w a g 3 x s S)(i:Nat)(u b z:Int)(hp:S[i]? =some (⟨2,u,b,z⟩:Sp))(hu:0<=u/\u<=1000000000000)(ho:s.ops+1<=1000000000000):Calls Tryz.prog 431 #[↑x.l,.int .i64 i,.int .i64 2,.func (.func 435) #[] #[]] w λe w'=>e= .returned (.bool (decide (ldW s.W (pPl x.t x.m u)=u+1)))/\KIs w' a g 3 x (ae s (pPl x.t x.m u)) S/\aa [a,g,x.q] w w':=by
 have hi:i<x.n:=by have:=(List.getElem?_eq_some_iff.1 hp).1;rw[h.n]at this;exact this
 have a0:=h.sp.cell hp 0 _ rfl;have a1:=h.sp.cell hp 1 _ rfl;simp only[Nat.add_zero]at a0;have HL:=qh (pk h u hu ho);exact IT
theorem wO (h:KIs w a g 3 x s S)(i:Nat)(u b z:Int)(hp:S[i]? =some (⟨10,u,b,z⟩:Sp))(hu:0<=u/\u<=1000000000000)(ho:s.ops+1<=1000000000000):Calls Tryz.prog 431 #[↑x.l,.int .i64 i,.int .i64 10,.func (.func 432) #[] #[]] w λe w'=>e= .returned (.bool (decide (ldW s.W ((x.t:Int))=u+1)))/\KIs w' a g 3 x (ae s ((x.t:Int))) S/\aa [a,g,x.q] w w':=by
 have hi:i<x.n:=by have:=(List.getElem?_eq_some_iff.1 hp).1;rw[h.n]at this;exact this
 have a0:=h.sp.cell hp 0 _ rfl;have a1:=h.sp.cell hp 1 _ rfl;simp only[Nat.add_zero]at a0;have HL:=qh (sd h u hu ho);exact IT
theorem p4 (h:KIs w a g 3 x s S) (i:Nat) (p:Sp) (hp:S[i]? =some p) (hpc:p.pc=10) (ho:s.ops+1<=1000000000000) (hu:0<=p.a/\p.a<=1000000000000):
    Calls Tryz.prog 425 #[↑x.l,.int .i64 i] w (pd w a g 3 x s S i p):=by obtain⟨c,u,b,z⟩:=p;simp only at hpc hu;subst hpc;have HA:=qh (wO h i u b z hp hu ho);have HX:Kq (ch 3 x.t s i ⟨10,u,b,z⟩=(ae s x.t,decide (ldW s.W x.t=u+1))):=qh rfl;clear h hp;go_enter Tryz.func425,Tryz.ntmps425;go_wp2_with fail;refine HA.o.mono ?_;rintro en w2 ⟨rfl,k2,t2⟩;have H2:=qh (And.intro k2 t2);clear k2 t2;go_wp2;go_ret;rw[pd,HX.o];exact⟨rfl,H2.o⟩
theorem uN (h:KIs w a g 3 x s S) (i:Nat) (u b z:Int) (hp:S[i]? =some (⟨1,u,b,z⟩:Sp)) (ho:s.ops+1<=1000000000000) (hw:inR s.W x.t=true) (hv0:0<=ldW s.W x.t) (hv1:ldW s.W x.t<=10000000000000):
    Calls Tryz.prog 430 #[↑x.l,.int .i64 i] w (dy w a g 3 x s S i ⟨1,u,b,z⟩):=by
  have hfield:=aK;have hi:i<x.n:=by have:=(List.getElem?_eq_some_iff.1 hp).1;rw[h.n]at this;exact this
  have hn:=h.n32;have hcap:=h.cap;have t2:¬(i:Int)<0:=by omega
  have HS:=qh (dZ .parted h i _ hp);unfold aE at HS;obtain⟨ar',har⟩:∃q,q=addA s x.t 1:=⟨_,rfl⟩;obtain⟨v,hv⟩:∃v,v=ldW s.W x.t:=⟨_,rfl⟩;have HX:Kq (bG 3 x.t x.m s i ⟨1,u,b,z⟩=(ar',⟨2,v,b,z⟩)):=qh Rc;have HO0:=(λW (k:KIs W a g 3 x s S)=>gY k.ar x.t 1 ho);rw[if_pos hw,<-har,<-hv]at HO0;rw[<-hv]at hv0 hv1;have e1:IntKind.i64.wrap (v+1)=v+1:=IntWalk.i64_in _ QX;have e2:IntKind.i64.wrap v=v:=IntWalk.i64_in _ QX;rw[e1]at HO0;have HO:=qh HO0;have HP:=qh hp;have K0:=qh h;clear HO0 h hp har hv e1;go_enter Tryz.func430,Tryz.ntmps430;go_wp2_with fail;refine HS.o.mono ?_;rintro en w1 ⟨rfl,b1⟩;have K0':=qh (K0.o.below b1);have K1:=qh (K0.o.below b1.drew);have T0:=qh (aa.of_below (S:=[a,g,x.q]) b1.drew);have T0':=qh (aa.of_below (S:=[a,g,x.q]) b1);clear b1;go_wp2_with fail
  go_region_held3 (λW=>W.cell? x.l=some ↑a/\W.cell? ⟨x.l,1,none⟩=some (.int .i64 x.t)/\W.cell? ⟨x.l,2,none⟩=some (.int .i64 x.m)/\W.cell? ⟨x.l,3,none⟩=some (.slice (some ⟨x.q,0,none⟩) x.n x.cap))
    (first|with_reducible exact K1.o.pi|with_reducible exact K2.o.pi|with_reducible exact K3.o.pi)
    (first
      | (go_at_call 298;go_loud (refine(HO.o _ K1.o).mono ?_);rintro en w3 ⟨rfl,a3,t3⟩;have K2:=qh (K1.o.op t3 a3);have T2:=qh (T0.o.trans (aI t3));have K3:=qh (K2.o.put (p':=(⟨1,v,b,z⟩:Sp)) HP.o (j:=1) (u:= .int .i64 v) QZ rfl);have e4:=K2.o.sp.cell HP.o 1 _ rfl;have z1:=K2.o.sp.free (i*4+1);clear a3 t3))
  all_goals have HT:=qh (jO .parted i _ _ HP.o K3.o 2);go_wp2_with (go_at_call 433;refine HT.o.mono ?_;rintro e w' ⟨rfl,k4,t4⟩;have K4:=qh (And.intro k4 t4);clear k4 t4);go_ret;rw[dy,HX.o];exact⟨rfl,K4.o.1,(T2.o.trans (aG (aU _ _ _))).trans (aG K4.o.2)⟩
theorem uO (h:KIs w a g 3 x s S) (i:Nat) (u b z:Int) (hp:S[i]? =some (⟨2,u,b,z⟩:Sp)) (ho:s.ops+1<=1000000000000) (hu:0<=u/\u<=1000000000000):
    Calls Tryz.prog 430 #[↑x.l,.int .i64 i] w (dy w a g 3 x s S i ⟨2,u,b,z⟩):=by
  have hfield:=aK;have hi:i<x.n:=by have:=(List.getElem?_eq_some_iff.1 hp).1;rw[h.n]at this;exact this
  have hn:=h.n32;have hcap:=h.cap;have t2:¬(i:Int)<0:=by omega
  have HS:=qh (dZ .parted h i _ hp);unfold aE at HS;obtain⟨ar',har⟩:∃q,q=ae s (pPl x.t x.m u):=⟨_,rfl⟩;obtain⟨v,hv⟩:∃v,v=ldW s.W (pPl x.t x.m u):=⟨_,rfl⟩;have HX:Kq (bG 3 x.t x.m s i ⟨2,u,b,z⟩=(ar',⟨if v=u+1 then 10 else 2,u,b,z⟩)):=qh Rc;have HA0:=(λW (k:KIs W a g 3 x s S)=>rv k i u b z hp hu ho);rw[<-har,<-hv]at HA0;have HP:=qh hp;have K0:=qh h;obtain⟨q,hq⟩:∃q,q=decide (v=u+1):=⟨_,rfl⟩;rw[<-hq]at HA0;have HQ:=qh hq;have HA:=qh HA0;clear h hp har hv HA0 hq;cases q
  all_goals
    go_enter Tryz.func430,Tryz.ntmps430;go_wp2_with fail;refine HS.o.mono ?_;rintro en w1 ⟨rfl,b1⟩;have K0':=qh (K0.o.below b1);have K1:=qh (K0.o.below b1.drew);have T0:=qh (aa.of_below (S:=[a,g,x.q]) b1.drew);have T0':=qh (aa.of_below (S:=[a,g,x.q]) b1);clear b1;go_wp2_with fail;refine(HA.o _ K0'.o).mono ?_;rintro en w2 ⟨rfl,k2,t2'⟩;have H2:=qh (And.intro k2 (T0'.o.trans t2'));clear k2 t2'
    first
      | (have HT:=qh (jO .parted i _ _ HP.o (by rw[bX HP.o];exact H2.o.1) 10)
         go_wp2_with (go_at_call 433;refine HT.o.mono ?_;rintro e w' ⟨rfl,k4,t4⟩;have K4:=qh (And.intro k4 t4);clear k4 t4)
         go_ret
         rw[dy,HX.o]
         rw[if_pos (by simpa using HQ.o.symm)]
         exact⟨rfl,K4.o.1,H2.o.2.trans (aG K4.o.2)⟩)
      | (go_wp2
         go_ret
         rw[dy,HX.o,if_neg (by simpa using HQ.o.symm),bX HP.o]
         exact⟨rfl,H2.o.1,H2.o.2⟩)
theorem sR (h:KIs w a g 3 x s S) (i:Nat) (u b z:Int) (hp:S[i]? =some (⟨11,u,b,z⟩:Sp)) (ho:s.ops+1<=1000000000000) (hu:0<=u/\u<=1000000000000):
    Calls Tryz.prog 430 #[↑x.l,.int .i64 i] w (dy w a g 3 x s S i ⟨11,u,b,z⟩):=by
  have hfield:=aK;have hi:i<x.n:=by have:=(List.getElem?_eq_some_iff.1 hp).1;rw[h.n]at this;exact this
  have hn:=h.n32;have hcap:=h.cap;have t2:¬(i:Int)<0:=by omega
  have HS:=qh (dZ .parted h i _ hp);unfold aE at HS;obtain⟨ad,had⟩:∃z,z=pPl x.t x.m (u+1):=⟨_,rfl⟩;obtain⟨ar',har⟩:∃q,q=ac s ad (u+2):=⟨_,rfl⟩;have HX:Kq (bG 3 x.t x.m s i ⟨11,u,b,z⟩=(ar',⟨0,u,b,z⟩)):=qh (by rw[har,had];rfl);have HO0:=(λW (k:KIs W a g 3 x s S)=>am k.ar ad (u+2) ho);rw[<-har]at HO0;have HPl0:=(λW (k:KIs W a g 3 x s S)=>kV k (u+1) QX);rw[<-had]at HPl0;have HPl:=qh HPl0;have e1:IntKind.i64.wrap (u+1)=u+1:=IntWalk.i64_in _ QX;have e2:IntKind.i64.wrap (u+2)=u+2:=IntWalk.i64_in _ QX;have HO:=qh HO0;have HC:Kq (∀W s (S':List Sp) (c:Int),KIs W a g 3 x s S'->S'[i]? =some (⟨c,u,b,z⟩:Sp)->W.cell? x.l=some ↑a/\W.cell? ⟨x.l,1,none⟩=some (.int .i64 x.t)/\W.cell? ⟨x.l,2,none⟩=some (.int .i64 x.m)/\W.cell? ⟨x.l,3,none⟩=some (.slice (some ⟨x.q,0,none⟩) x.n x.cap)/\W.cell? ⟨x.q,i*4+1,none⟩=some (.int .i64 u)):=qh (λW s S' c k hp=>⟨k.pi.1,k.pi.2.1,k.pi.2.2.1,k.pi.2.2.2,k.sp.cell hp 1 _ rfl⟩);have HP:=qh hp;have K0:=qh h;clear HO0 HPl0 h hp har had;go_enter Tryz.func430,Tryz.ntmps430;go_wp2_with fail;refine HS.o.mono ?_;rintro en w1 ⟨rfl,b1⟩;have K0':=qh (K0.o.below b1);have K1:=qh (K0.o.below b1.drew);have T0:=qh (aa.of_below (S:=[a,g,x.q]) b1.drew);have T0':=qh (aa.of_below (S:=[a,g,x.q]) b1);clear b1;go_wp2_with fail
  go_region_held3 (λW=>W.cell? x.l=some ↑a/\W.cell? ⟨x.l,1,none⟩=some (.int .i64 x.t)/\W.cell? ⟨x.l,2,none⟩=some (.int .i64 x.m)/\W.cell? ⟨x.l,3,none⟩=some (.slice (some ⟨x.q,0,none⟩) x.n x.cap)/\W.cell? ⟨x.q,i*4+1,none⟩=some (.int .i64 u))
    (first|with_reducible exact HC.o _ _ _ _ K1.o HP.o|with_reducible exact HC.o _ _ _ _ Q2.o HP.o|with_reducible exact HC.o _ _ _ _ K2.o HP.o)
    (first
      | (go_at_call 178;go_loud (refine(HPl.o _ K1.o).mono ?_);rintro en w2 ⟨rfl,q2⟩;have Q2:=qh (K1.o.qt q2);have T1:=qh (T0.o.trans (aa.of_qt q2));clear q2)
      | (go_at_call 177;go_loud (refine(HO.o _ Q2.o).mono ?_);rintro en w3 ⟨rfl,a3,t3⟩;have K2:=qh (Q2.o.op t3 a3);have T2:=qh (T1.o.trans (aI t3));clear a3 t3))
  all_goals have HT:=qh (jO .parted i _ _ HP.o (by rw[bX HP.o];exact K2.o) 0);go_wp2_with (go_at_call 433;refine HT.o.mono ?_;rintro e w' ⟨rfl,k4,t4⟩;have K4:=qh (And.intro k4 t4);clear k4 t4);go_ret;rw[dy,HX.o];exact⟨rfl,K4.o.1,T2.o.trans (aG K4.o.2)⟩
theorem oE (h:KIs w a g 3 x s S) (i:Nat) (p:Sp) (hp:S[i]? =some p) (h0:p.pc=0\/p.pc=10):
    Calls Tryz.prog 430 #[↑x.l,.int .i64 i] w (dy w a g 3 x s S i p):=by
  have hfield:=aK;have HS:=qh (dZ .parted h i _ hp);unfold aE at HS;obtain⟨c,u,b,z⟩:=p;have HP:=qh hp;have K0:=qh h;clear h hp;simp only at h0 HS;rcases h0 with rfl|rfl
  all_goals go_enter Tryz.func430,Tryz.ntmps430;go_wp2_with fail;refine HS.o.mono ?_;rintro en w1 ⟨rfl,b1⟩;have HB:=qh b1;clear b1;go_wp2;go_ret;refine⟨rfl,?_,aa.of_below HB.o⟩;have k:=K0.o.below HB.o;rw[<-bX HP.o]at k;exact k
end
end
section
open Go.RowKit
section
variable{w w' w0:World}{a g k bx:Nat}{x:Fx}{s s':Ar}{S S':List Sp}
theorem KIs.ci (h:KIs w a g 5 x s S):w.cell? x.l=some ↑a/\w.cell? ⟨x.l,1,none⟩=some (.int .i64 x.t)/\w.cell? ⟨x.l,2,none⟩=some (.slice (some ⟨x.q,0,none⟩) x.n x.cap):=⟨h.lk.cell 0,h.lk.cell 1,h.lk.cell 2⟩
structure KBx (w0 w:World)(a g:Nat)(x:Fx)(s:Ar)(S:List Sp)(bx:Nat):Prop where
 ki:KIs w a g 5 x s S
 bk:Blk w bx 299 #[↑x.l]
 nS:bx∉[a,g,x.q]
 tn:aa [a,g,x.q] w0 w
theorem KBx.to (h:KBx w0 w a g x s S bx)(k:KIs w' a g 5 x s' S')(t:aa [a,g,x.q] w w'):KBx w0 w' a g x s' S' bx:=⟨k,t.blk h.bk h.nS,h.nS,h.tn.trans t⟩
theorem KBx.drew (h:KBx w0 w a g x s S bx):KBx w0 w.drew a g x s S bx:=h.to (h.ki.below (Below.refl _ _).drew) (aa.refl _ _).drew
theorem KBx.op (h:KBx w0 w a g x s S bx)(t:aa [a,g] w w')(ha:aA w' a g s'):KBx w0 w' a g x s' S bx:=h.to (h.ki.op t ha) (aI t)
theorem KBx.put (h:KBx w0 w a g x s S bx){i:Nat}{p p':Sp}(hp:S[i]? =some p){j:Nat}{u:Value}(hj:j<4)(he:(a9 p).set j u=a9 p'):KBx w0 (w.setCell ⟨x.q,i*4+j,none⟩ u) a g x s (S.set i p') bx:=h.to (h.ki.put hp hj he) (aG (aU _ _ _))
theorem KBx.put0 (h:KBx w0 w a g x s S bx){i:Nat}{p p':Sp}(hp:S[i]? =some p){u:Value}(he:(a9 p).set 0 u=a9 p'):KBx w0 (w.setCell ⟨x.q,i*4,none⟩ u) a g x s (S.set i p') bx:=h.put hp (j:=0) QZ he
theorem KBx.new (h:KIs w a g 5 x s S):KBx w (w.alloc (.cells #[↑x.l] 299)) a g x s S w.heap.size:=by have h1:=h.ar.blk.lt;have h2:=h.ar.wds.lt;have h3:=h.sp.lt;exact⟨h.below ((Below.refl _ _).alloc (Nat.le_refl _) _),Blk.new w _ _,by simp;omega,(aa.refl _ _).alloc _⟩
theorem KBx.cs (h:KBx w0 w a g x s S bx){i:Nat}{p:Sp}(hp:S[i]? =some p):w.cell? bx=some ↑x.l/\w.cell? x.l=some ↑a/\w.cell? ⟨x.q,i*4+1,none⟩=some (.int .i64 p.a)/\w.cell? ⟨x.q,i*4+2,none⟩=some (.int .i64 p.b):=⟨h.bk.cell 0,h.ki.ci.1,h.ki.sp.cell hp 1 _ rfl,h.ki.sp.cell hp 2 _ rfl⟩
theorem mC (h:KBx w0 w a g x s S bx)(n r:Int)(hr:(x.t:Int)+n=r)(hn:-10<=n/\n<=10000000000000):Calls Tryz.prog 457 #[.int .i64 n,↑bx] w λe w'=>e= .returned (.int .i64 r)/\w=w':=by
 have c0:w.cell? bx=some ↑x.l:=h.bk.cell 0;have c1:=h.ki.ci.2.1;have t1:=h.ki.t1;have e1:IntKind.i64.wrap ((x.t:Int)+n)=r:=by rw[hr];exact IntWalk.i64_in _ QX
 clear h hr;go_enter Tryz.func457,Tryz.ntmps457;exact gs
theorem ym (h:KIs w a g 5 x s S) (i:Nat) (u b z:Int) (hp:S[i]? =some (⟨1,u,b,z⟩:Sp)) (ho:s.ops+1<=1000000000000) (hu:0<=u/\u<=1000000000000):
    Calls Tryz.prog 454 #[↑x.l,.int .i64 i] w (dy w a g 5 x s S i ⟨1,u,b,z⟩):=by
  have hi:i<x.n:=by have:=(List.getElem?_eq_some_iff.1 hp).1;rw[h.n]at this;exact this
  have hn:=h.n32;have HSP:=qh (λW (k:KBx w W a g x s S w.heap.size)=>bC .clh k.ki i hi);have N0:=qh (KBx.new h);have HP:=qh hp;obtain⟨ad,had⟩:∃r,r=(x.t:Int)+u:=⟨_,rfl⟩;obtain⟨ar',har⟩:∃q,q=ac s ad 1:=⟨_,rfl⟩;have HX:Kq (bG 5 x.t x.m s i ⟨1,u,b,z⟩=(ar',⟨2,u,b,z⟩)):=qh (by rw[har,had];rfl);have HO0:=(λW (k:KIs W a g 5 x s S)=>am k.ar ad 1 ho);rw[<-har]at HO0;have HO:=qh HO0;have HB:=qh (λW (k:KBx w W a g x s S w.heap.size)=>mC k u ad had.symm QX);have t1:=h.t1;clear HO0 h hp har had;go_enter Tryz.func454,Tryz.ntmps454;have a0:=N0.o.ki.sp.cell HP.o 0 _ rfl;have b0:=N0.o.bk.cell 0;simp only[Nat.add_zero]at a0;have N1:=qh N0.o.drew;go_wp2_with (go_at_call 456;refine(HSP.o _ N0.o).mono ?_;rintro e w' ⟨rfl,rfl⟩);go_wp2_with fail
  go_region_held3 (λW=>W.cell? w.heap.size=some ↑x.l/\W.cell? x.l=some ↑a/\W.cell? ⟨x.q,i*4+1,none⟩=some (.int .i64 u)/\W.cell? ⟨x.q,i*4+2,none⟩=some (.int .i64 b))
    (first|with_reducible exact N1.o.cs HP.o|with_reducible exact N2.o.cs HP.o)
    (first
      | (go_at_call 457;go_loud (refine(HB.o _ N1.o).mono ?_);rintro en w2 ⟨rfl,rfl⟩)
      | (go_at_call 177;go_loud (refine(HO.o _ N1.o.ki).mono ?_);rintro en w3 ⟨rfl,a3,t3⟩;have N2:=qh (N1.o.op t3 a3);clear a3 t3))
  all_goals have d0:=N2.o.ki.sp.cell HP.o 0 _ rfl;have z0:=N2.o.ki.sp.free (i*4);simp only[Nat.add_zero]at d0;have N3:=qh (N2.o.put0 HP.o (p':=(⟨2,u,b,z⟩:Sp)) (u:= .int .i64 2) rfl);go_wp2;go_ret;rw[dy,HX.o];exact⟨rfl,N3.o.ki,N3.o.tn⟩
theorem yn (h:KIs w a g 5 x s S) (i:Nat) (u b z:Int) (hp:S[i]? =some (⟨2,u,b,z⟩:Sp)) (ho:s.ops+1<=1000000000000) (hu:0<=u/\u<=1000000000000):
    Calls Tryz.prog 454 #[↑x.l,.int .i64 i] w (dy w a g 5 x s S i ⟨2,u,b,z⟩):=by
  have hi:i<x.n:=by have:=(List.getElem?_eq_some_iff.1 hp).1;rw[h.n]at this;exact this
  have hn:=h.n32;have HSP:=qh (λW (k:KBx w W a g x s S w.heap.size)=>bC .clh k.ki i hi);have N0:=qh (KBx.new h);have HP:=qh hp;obtain⟨ad,had⟩:∃r,r=(x.t:Int):=⟨_,rfl⟩;obtain⟨ar',har⟩:∃q,q=bY s ad u:=⟨_,rfl⟩;obtain⟨v,hv⟩:∃v,v=ldW s.W ad:=⟨_,rfl⟩;have HX:Kq (bG 5 x.t x.m s i ⟨2,u,b,z⟩=(ar',⟨3,u,v,z⟩)):=qh (by rw[har,hv,had];rfl);have HO0:=(λW (k:KIs W a g 5 x s S)=>ff k.ar ad u ho);rw[<-har,<-hv]at HO0;have HO:=qh HO0;have HB:=qh (λW (k:KBx w W a g x s S w.heap.size)=>mC k 0 ad (by rw[had];omega) QX);have HC:=qh (λW s (S:List Sp) (N:KBx w W a g x s S w.heap.size) (y:Int) (hp:S[i]? =some (⟨2,u,y,z⟩:Sp))=>And.intro (N.cs hp).1 (And.intro (N.cs hp).2.1 (N.cs hp).2.2.1));have t1:=h.t1;clear HO0 h hp har had hv;go_enter Tryz.func454,Tryz.ntmps454;have a0:=N0.o.ki.sp.cell HP.o 0 _ rfl;have b0:=N0.o.bk.cell 0;simp only[Nat.add_zero]at a0;have N1:=qh N0.o.drew;go_wp2_with (go_at_call 456;refine(HSP.o _ N0.o).mono ?_;rintro e w' ⟨rfl,rfl⟩);go_wp2_with fail
  go_region_held3 (λW=>W.cell? w.heap.size=some ↑x.l/\W.cell? x.l=some ↑a/\W.cell? ⟨x.q,i*4+1,none⟩=some (.int .i64 u))
    (first|with_reducible exact HC.o _ _ _ N1.o _ HP.o|with_reducible exact HC.o _ _ _ N2.o _ HP.o|with_reducible exact HC.o _ _ _ N3.o _ (au HP.o _))
    (first
      | (go_at_call 457;go_loud (refine(HB.o _ N1.o).mono ?_);rintro en w2 ⟨rfl,rfl⟩)
      | (go_at_call 271;go_loud (refine(HO.o _ N1.o.ki).mono ?_);rintro en w3 ⟨rfl,a3,t3⟩;have N2:=qh (N1.o.op t3 a3);have N3:=qh (N2.o.put (p':=(⟨2,u,v,z⟩:Sp)) HP.o (j:=2) (u:= .int .i64 v) QZ rfl);have e1:=N2.o.ki.sp.cell HP.o 2 _ rfl;have z1:=N2.o.ki.sp.free (i*4+2);clear a3 t3))
  all_goals have d0:=N3.o.ki.sp.cell (au HP.o _) 0 _ rfl;have z0:=N3.o.ki.sp.free (i*4);simp only[Nat.add_zero]at d0;have N4:=qh (N3.o.put0 (au HP.o _) (p':=(⟨3,u,v,z⟩:Sp)) (u:= .int .i64 3) rfl);clear e1 z1;go_wp2;go_ret;rw[dy,HX.o];have k:=N4.o.ki;rw[dT]at k;exact⟨rfl,k,N4.o.tn⟩
theorem yo (h:KIs w a g 5 x s S) (i:Nat) (u b z:Int) (hp:S[i]? =some (⟨3,u,b,z⟩:Sp)) (ho:s.ops+1<=1000000000000) (hb:0<=b/\b<=1000000000000):
    Calls Tryz.prog 454 #[↑x.l,.int .i64 i] w (dy w a g 5 x s S i ⟨3,u,b,z⟩):=by
  have hi:i<x.n:=by have:=(List.getElem?_eq_some_iff.1 hp).1;rw[h.n]at this;exact this
  have hn:=h.n32;have HSP:=qh (λW (k:KBx w W a g x s S w.heap.size)=>bC .clh k.ki i hi);have N0:=qh (KBx.new h);have HP:=qh hp;obtain⟨ad,had⟩:∃r,r=(x.t:Int)+b:=⟨_,rfl⟩;obtain⟨ar',har⟩:∃q,q=ae s ad:=⟨_,rfl⟩;obtain⟨v,hv⟩:∃v,v=ldW s.W ad:=⟨_,rfl⟩;have HX:Kq (bG 5 x.t x.m s i ⟨3,u,b,z⟩=(ar',⟨if v=0 then 10 else 3,u,b,z⟩)):=qh (by rw[har,hv,had];rfl);have HO0:=(λW (k:KIs W a g 5 x s S)=>aC k.ar ad ho);rw[<-har,<-hv]at HO0;have HO:=qh HO0;have HB:=qh (λW (k:KBx w W a g x s S w.heap.size)=>mC k b ad had.symm QX);have t1:=h.t1;clear HO0 h hp har had hv;cases hc:(v==0)
  · go_enter Tryz.func454,Tryz.ntmps454;have a0:=N0.o.ki.sp.cell HP.o 0 _ rfl;have b0:=N0.o.bk.cell 0;simp only[Nat.add_zero]at a0;have N1:=qh N0.o.drew;go_wp2_with (go_at_call 456;refine(HSP.o _ N0.o).mono ?_;rintro e w' ⟨rfl,rfl⟩);go_wp2_with fail;refine wp_region_held_drew (S:=(λW=>W.cell? w.heap.size=some ↑x.l/\W.cell? x.l=some ↑a/\W.cell? ⟨x.q,i*4+1,none⟩=some (.int .i64 u)/\W.cell? ⟨x.q,i*4+2,none⟩=some (.int .i64 b))) Q0 (by exact N1.o.cs HP.o) (λhHeld=>?_);refine tk 0 ?_;refine tk 1 ?_;refine tk 2 ?_;refine tk 3 ?_;refine tk 4 ?_;refine tk 5 ?_;refine tk 6 ?_;refine tk 7 ?_;refine tk 8 ?_;refine wpAnyH_ready (rs:=[9]) Q0 QY ?_;refine AllReadyH.cons rfl (λK hK=>?_) AllReadyH.nil;go_simp;go_at_call 457;refine(HB.o _ N1.o).mono ?_;rintro en w2 ⟨rfl,rfl⟩;refine hK.out _ _ ?_ (λhHeld=>?_);· exact N1.o.cs HP.o
    clear hK K;try simp only[Act.put,List.setIfInBounds_toArray,List.set_cons_zero,List.set_cons_succ,List.getElem_toArray,List.getElem_cons_zero,List.getElem_cons_succ]
    refine wpAnyH_ready (rs:=[10]) Q0 QY ?_;refine AllReadyH.cons rfl (λK hK=>?_) AllReadyH.nil;go_simp;go_at_call 173;refine(HO.o _ N1.o.ki).mono ?_;rintro en w3 ⟨rfl,a3,t3⟩;have N2:=qh (N1.o.op t3 a3);clear a3 t3;refine hK.out _ _ ?_ (λhHeld=>?_);· exact N2.o.cs HP.o
    clear hK K;try simp only[Act.put,List.setIfInBounds_toArray,List.set_cons_zero,List.set_cons_succ,List.getElem_toArray,List.getElem_cons_zero,List.getElem_cons_succ]
    refine tk 11 ?_;refine tk 12 ?_;refine tk 13 ?_;refine tk 14 ?_;refine tk 15 ?_;refine tk 16 ?_;refine tk 17 ?_;refine wpAnyH_done Q0 ?_ _;go_wp2;go_ret;rw[dy,HX.o];rw[if_neg Q8,bX HP.o];exact⟨rfl,N2.o.ki,N2.o.tn⟩
  · go_enter Tryz.func454,Tryz.ntmps454;have a0:=N0.o.ki.sp.cell HP.o 0 _ rfl;have b0:=N0.o.bk.cell 0;simp only[Nat.add_zero]at a0;have N1:=qh N0.o.drew;go_wp2_with (go_at_call 456;refine(HSP.o _ N0.o).mono ?_;rintro e w' ⟨rfl,rfl⟩);go_wp2_with fail;first
    | (go_region_held3 (λW=>W.cell? w.heap.size=some ↑x.l/\W.cell? x.l=some ↑a/\W.cell? ⟨x.q,i*4+1,none⟩=some (.int .i64 u)/\W.cell? ⟨x.q,i*4+2,none⟩=some (.int .i64 b))
        (first|with_reducible exact N1.o.cs HP.o|with_reducible exact N2.o.cs HP.o|with_reducible exact N4.o.cs (au HP.o _))
        (first
          | (go_at_call 457;go_loud (refine(HB.o _ N1.o).mono ?_);rintro en w2 ⟨rfl,rfl⟩)
          | (go_at_call 173;go_loud (refine(HO.o _ N1.o.ki).mono ?_);rintro en w3 ⟨rfl,a3,t3⟩;have N2:=qh (N1.o.op t3 a3);have HT:=qh (jO .clh i _ _ HP.o (by rw[bX HP.o];exact N2.o.ki) 10);clear a3 t3)
          | (go_at_call 455;go_loud (refine HT.o.mono ?_);rintro en w4 ⟨rfl,k4,t4⟩;have N4:=qh (N2.o.to k4 (aG t4));clear k4 t4)))
    | fail "held"
    all_goals go_wp2;go_ret;rw[dy,HX.o];rw[if_pos Q8];exact⟨rfl,N4.o.ki,N4.o.tn⟩
theorem uM (h:KIs w a g 5 x s S) (i:Nat) (u b z:Int) (hp:S[i]? =some (⟨11,u,b,z⟩:Sp)) (ho:s.ops+1<=1000000000000) (hu:0<=u/\u<=1000000000000):
    Calls Tryz.prog 454 #[↑x.l,.int .i64 i] w (dy w a g 5 x s S i ⟨11,u,b,z⟩):=by
  have hi:i<x.n:=by have:=(List.getElem?_eq_some_iff.1 hp).1;rw[h.n]at this;exact this
  have hn:=h.n32;have HSP:=qh (λW (k:KBx w W a g x s S w.heap.size)=>bC .clh k.ki i hi);have N0:=qh (KBx.new h);have HP:=qh hp;obtain⟨ad,had⟩:∃r,r=(x.t:Int)+u:=⟨_,rfl⟩;obtain⟨ar',har⟩:∃q,q=ac s ad 0:=⟨_,rfl⟩;have HX:Kq (bG 5 x.t x.m s i ⟨11,u,b,z⟩=(ar',⟨0,b,b,z⟩)):=qh (by rw[har,had];rfl);have HO0:=(λW (k:KIs W a g 5 x s S)=>am k.ar ad 0 ho);rw[<-har]at HO0;have HO:=qh HO0;have HB:=qh (λW (k:KBx w W a g x s S w.heap.size)=>mC k u ad had.symm QX);have t1:=h.t1;clear HO0 h hp har had;go_enter Tryz.func454,Tryz.ntmps454;have a0:=N0.o.ki.sp.cell HP.o 0 _ rfl;have b0:=N0.o.bk.cell 0;simp only[Nat.add_zero]at a0;have N1:=qh N0.o.drew;go_wp2_with (go_at_call 456;refine(HSP.o _ N0.o).mono ?_;rintro e w' ⟨rfl,rfl⟩);go_wp2_with fail
  go_region_held3 (λW=>W.cell? w.heap.size=some ↑x.l/\W.cell? x.l=some ↑a/\W.cell? ⟨x.q,i*4+1,none⟩=some (.int .i64 u)/\W.cell? ⟨x.q,i*4+2,none⟩=some (.int .i64 b))
    (first|with_reducible exact N1.o.cs HP.o|with_reducible exact N2.o.cs HP.o)
    (first
      | (go_at_call 457;go_loud (refine(HB.o _ N1.o).mono ?_);rintro en w2 ⟨rfl,rfl⟩)
      | (go_at_call 177;go_loud (refine(HO.o _ N1.o.ki).mono ?_);rintro en w3 ⟨rfl,a3,t3⟩;have N2:=qh (N1.o.op t3 a3);clear a3 t3))
  all_goals have d1:=N2.o.ki.sp.cell HP.o 1 _ rfl;have d2:=N2.o.ki.sp.cell HP.o 2 _ rfl;have z1:=N2.o.ki.sp.free (i*4+1);have b2:=N2.o.bk.cell 0;have N3:=qh (N2.o.put HP.o (p':=(⟨11,b,b,z⟩:Sp)) (j:=1) (u:= .int .i64 b) QZ rfl);have HT:=qh (jO .clh i _ _ HP.o N3.o.ki 0);go_wp2_with (go_at_call 455;refine HT.o.mono ?_;rintro e w' ⟨rfl,k4,t4⟩;have N4:=qh (N3.o.to k4 (aG t4));clear k4 t4);go_ret;rw[dy,HX.o];exact⟨rfl,N4.o.ki,N4.o.tn⟩
theorem pT (h:KIs w a g 5 x s S) (i:Nat) (p:Sp) (hp:S[i]? =some p) (h0:p.pc=0\/p.pc=10):
    Calls Tryz.prog 454 #[↑x.l,.int .i64 i] w (dy w a g 5 x s S i p):=by
  have hi:i<x.n:=by have:=(List.getElem?_eq_some_iff.1 hp).1;rw[h.n]at this;exact this
  have HSP:=qh (λW (k:KBx w W a g x s S w.heap.size)=>bC .clh k.ki i hi);have N0:=qh (KBx.new h);have HP:=qh hp;obtain⟨c,u,b,z⟩:=p;clear h hp;simp only at h0;rcases h0 with rfl|rfl
  all_goals go_enter Tryz.func454,Tryz.ntmps454;have a0:=N0.o.ki.sp.cell HP.o 0 _ rfl;have b0:=N0.o.bk.cell 0;simp only[Nat.add_zero]at a0;have N1:=qh N0.o.drew;go_wp2_with (go_at_call 456;refine(HSP.o _ N0.o).mono ?_;rintro e w' ⟨rfl,rfl⟩);go_ret;refine⟨rfl,?_,N0.o.tn⟩;have k:=N0.o.ki;rw[<-bX HP.o]at k;exact k
theorem wM (h:KIs w a g 5 x s S) (i:Nat) (p:Sp) (hp:S[i]? =some p) (hpc:p.pc=10) (ho:s.ops+1<=1000000000000):
    Calls Tryz.prog 449 #[↑x.l,.int .i64 i] w (pd w a g 5 x s S i p):=by
  have hi:i<x.n:=by have:=(List.getElem?_eq_some_iff.1 hp).1;rw[h.n]at this;exact this
  have hn:=h.n32;have hcap:=h.cap;have hfield:=aK;have t2:¬(i:Int)<0:=by omega
  obtain⟨c,u,b,z⟩:=p;simp only at hpc;subst hpc;obtain⟨ar',har⟩:∃q,q=ae s x.t:=⟨_,rfl⟩;obtain⟨v,hv⟩:∃v,v=ldW s.W x.t:=⟨_,rfl⟩;have HX:Kq (ch 5 x.t s i ⟨10,u,b,z⟩=(ar',decide (v=u))):=qh Rc;have HO0:=(λW (k:KIs W a g 5 x s S)=>aC k.ar x.t ho);rw[<-har,<-hv]at HO0;have HO:=qh HO0;have HS:=qh (λW (k:KIs W a g 5 x s S)=>dZ .clh k i _ hp);have HC:Kq (∀W s (S':List Sp),KIs W a g 5 x s S'->S'[i]? =some (⟨10,u,b,z⟩:Sp)->W.cell? x.l=some ↑a/\W.cell? ⟨x.l,1,none⟩=some (.int .i64 x.t)/\W.cell? ⟨x.l,2,none⟩=some (.slice (some ⟨x.q,0,none⟩) x.n x.cap)/\W.cell? ⟨x.q,i*4+1,none⟩=some (.int .i64 u)):=qh (λW s S' k hp=>⟨k.ci.1,k.ci.2.1,k.ci.2.2,k.sp.cell hp 1 _ rfl⟩);have HP:=qh hp;have K1:=qh (h.below ((Below.refl _ w).drew));clear HO0 h hp har hv;cases hd:(v==u)
  all_goals
    go_enter Tryz.func449,Tryz.ntmps449;go_wp2_with fail;first
    | (go_region_held3 (λW=>W.cell? x.l=some ↑a/\W.cell? ⟨x.l,1,none⟩=some (.int .i64 x.t)/\W.cell? ⟨x.l,2,none⟩=some (.slice (some ⟨x.q,0,none⟩) x.n x.cap)/\W.cell? ⟨x.q,i*4+1,none⟩=some (.int .i64 u))
        (first|with_reducible exact HC.o _ _ _ K1.o HP.o|with_reducible exact HC.o _ _ _ K2.o HP.o|with_reducible exact HC.o _ _ _ K3.o HP.o)
        (first
          | (go_at_call 453;go_loud (refine(HS.o _ K1.o).mono ?_);unfold aE;rintro en w2 ⟨rfl,b2⟩;have K2:=qh (K1.o.below b2);have T2:=qh (((aa.refl [a,g,x.q] w).drew).trans (aa.of_below b2));clear b2)
          | (go_at_call 173;go_loud (refine(HO.o _ K2.o).mono ?_);rintro en w3 ⟨rfl,a3,t3⟩;have K3:=qh (K2.o.op t3 a3);have T3:=qh (T2.o.trans (aI t3));clear a3 t3)))
    | fail "held"
  all_goals go_wp2;go_ret;rw[pd,HX.o];first| exact⟨by rw[decide_eq_true Rh];rfl,K3.o,T3.o⟩| exact⟨by rw[decide_eq_false Rh];rfl,K3.o,T3.o⟩
end
end
end Go.Proofs.YtglokdbiggbkjaaGreat
