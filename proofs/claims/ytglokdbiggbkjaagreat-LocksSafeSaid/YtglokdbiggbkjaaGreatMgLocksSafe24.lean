/- Joined texts. -/
import Derived.Test.YtglokdbiggbkjaaGreatMgLocksSafe0
import Derived.Test.YtglokdbiggbkjaaGreatMgLocksSafe22
import Derived.Test.YtglokdbiggbkjaaGreatMgLocksSafe23
set_option linter.unusedVariables false
set_option linter.unusedSimpArgs false
set_option maxRecDepth 100000
set_option maxHeartbeats 16000000
namespace Go.Proofs.YtglokdbiggbkjaaGreat
section
open Go.RowKit
section
variable{B BC:Nat->Prop}{w w':World}{a g:Nat}{X:SmX}{c:CoC}{P T:List Int}{st st':Co}{d d':Dr}{U:List Sp}{s':Ar}
theorem He (h:av 335 B BC w a g X c P T st d U):Calls Tryz.prog 390 #[↑X.l] w λe w'=>e= .returned (.int .i64 T.length)/\w=w':=by have c6:=h.cs.2.2.2.2.2.2;clear h;go_enter Tryz.func390,Tryz.ntmps390;exact gs
theorem Ae (h:av 335 B BC w a g X c P T st d U)(i:Int)(r:Bool)(hr:r=decide (okI U i)):Calls Tryz.prog 391 #[↑X.l,.int .i64 i] w λe w'=>e= .returned (.bool r)/\w=w':=by
 have HT:=qh (He h);have hsl:=h.lU;clear h;by_cases h0:0<=i
 ·by_cases h1:i<T.length;·have e:r=true:=(by rw[hr];exact decide_eq_true (show 0<=i/\i<U.length from⟨h0,by rw[hsl];exact h1⟩));subst e;clear hr;go_enter Tryz.func391,Tryz.ntmps391;exact Jk
  ·have e:r=false:=(by rw[hr];exact decide_eq_false (λk=>h1 R9));subst e;clear hr;go_enter Tryz.func391,Tryz.ntmps391;exact J2
 ·have e:r=false:=by rw[hr];exact decide_eq_false (λk=>h0 k.1)
  subst e;clear hr;go_enter Tryz.func391,Tryz.ntmps391;exact gs
theorem oC (h:av 335 B BC w a g X c P T st d U) (i:Int):
    Calls Tryz.prog 388 #[↑X.l,.int .i64 i] w λe w'=>e= .returned (aE (getS U i))/\Below w.heap.size w w':=by
  have hb:=h.below ((Below.refl _ _).alloc (Nat.le_refl _) (.cells #[.int .i64 0,.int .i64 0,.int .i64 0,.int .i64 0] 113));have H:=qh hb;have hs1:=h.lk.lt;have hs2:=h.sp.lt;have hsl:=h.lU;by_cases hok:okI U i;· have HH:=qh (Ae hb i true (decide_eq_true hok).symm);have hp:=dE hok;obtain⟨p,hpp⟩:∃p,p=getS U i:=⟨_,rfl⟩;rw[<-hpp]at hp ⊢;have c6:=h.cs.2.2.2.2.2.2;have a0:=h.sp.cell hp 0 _ rfl;have a1:=h.sp.cell hp 1 _ rfl;have a2:=h.sp.cell hp 2 _ rfl;have a3:=h.sp.cell hp 3 _ rfl;simp only[Nat.add_zero]at a0;obtain⟨h0,h1⟩:=id hok;rw[hsl]at h1;obtain⟨n,rfl⟩:=Int.eq_ofNat_of_zero_le h0;simp only[Int.toNat_natCast]at a0 a1 a2 a3;have t2:¬(n:Int)<0:=(by omega);have t4:n<T.length:=(by omega);clear h hb hp hpp h0 h1 hok hsl;go_enter Tryz.func388,Tryz.ntmps388;go_wp2_with (go_at_call 391;refine HH.o.mono ?_;rintro e w' ⟨rfl,rfl⟩);exact bodyPost_ret (results_cell_row Q5 _ _ w.heap.size 113 _ (0,0) _ Q5 (heap_alloc_new w _) Tryz.underlying113 rfl Q0) rfl ⟨rfl,(Below.refl _ _).alloc (Nat.le_refl _) _⟩
  · have HH:=qh (Ae hb i false (decide_eq_false hok).symm);rw[du hok];clear h hb hok hsl;go_enter Tryz.func388,Tryz.ntmps388;go_wp2_with (go_at_call 391;refine HH.o.mono ?_;rintro e w' ⟨rfl,rfl⟩);exact bodyPost_ret (results_cell_row Q5 _ _ w.heap.size 113 _ (0,0) _ Q5 (heap_alloc_new w _) Tryz.underlying113 rfl Q0) rfl ⟨rfl,(Below.refl _ _).alloc (Nat.le_refl _) _⟩
end
end
section
open Go.RowKit
section
variable{B BC:Nat->Prop}{w w' w0:World}{a g:Nat}{X:SmX}{c:CoC}{P T:List Int}{st st':Co}{d d':Dr}{U:List Sp}{s':Ar}{BB:Int}
theorem D5 (h:av 335 B BC w a g X c P T st d U)(n:Nat)(hn:n<T.length)(r:Bool):Calls Tryz.prog 385 #[↑X.l,.int .i64 n,.bool r] w (Iq 335 B BC w a g X c P T U n (cy c ⟨st,d,U⟩ n r)):=by
 have hok:okI U (n:Int):=⟨by omega,by rw[h.lU];omega⟩;have HH:=qh (Ae h n true (decide_eq_true hok).symm);have hp:=h.thr hn;have H:=qh h;have hx:=h.nT;have HA:=qh (rt h.co n (by rw[hx.1];exact hn));obtain⟨x',hx'⟩:∃x,x=cy c ⟨st,d,U⟩ n r:=⟨_,rfl⟩;rw[<-hx'];unfold cy at hx';obtain⟨p,hpp⟩:∃p,p=sv U n:=⟨_,rfl⟩;simp only at hx';rw[<-hpp]at hp hx';have c6:=h.cs.2.2.2.2.2.2;have c5:=h.cs.2.2.2.2.2.1;have a0:=h.sp.cell hp 0 _ rfl;have a1:=h.sp.cell hp 1 _ rfl;have a2:=h.sp.cell hp 2 _ rfl;have a3:=h.sp.cell hp 3 _ rfl;have f1:∀j,w.frozen? ⟨X.q,j,none⟩=false:=λj=>h.sp.free j;simp only[Nat.add_zero]at a0;have t2:¬(n:Int)<0:=by omega
 have HX:=qh hx';have HP:=qh hp;clear h hp hpp hok hx hx';by_cases hp0:p.pc=0
 ·have y1:(p.pc !=0)=false:=by simpa using hp0
  have HP0:=qh hp0;clear hp0;cases r;·go_enter Tryz.func385,Tryz.ntmps385;exact J8
  ·go_enter Tryz.func385,Tryz.ntmps385;exact J9
 ·have y1:(p.pc !=0)=true:=by simpa using hp0
  have HP0:=qh hp0;clear hp0;go_enter Tryz.func385,Tryz.ntmps385;exact Kc
theorem Aq (h:av 335 B BC w a g X c P T st d U)(n:Nat)(hn:n<T.length)(ha:(sv U n).pc=10->(sv U n).a=0\/(sv U n).a=1):Calls Tryz.prog 386 #[↑X.l,.int .i64 n] w (Iq 335 B BC w a g X c P T U n (aJ ⟨st,d,U⟩ n)):=by
 have hfp:=aK;have HS0:=oC h n;have hp:=h.thr hn;have hg:getS U (n:Int)=sv U n:=by exact Kd
 rw[hg]at HS0;have H:=qh h;obtain⟨x',hx'⟩:∃x,x=aJ ⟨st,d,U⟩ n:=⟨_,rfl⟩;rw[<-hx'];unfold aJ at hx';obtain⟨p,hpp⟩:∃p,p=sv U n:=⟨_,rfl⟩;simp only at hx';rw[<-hpp]at hp hx' HS0 ha;have HS:=qh HS0;have HP:=qh hp;have t2:¬(n:Int)<0:=by omega
 have hn32:=h.nT.2.2.1;clear h hp hpp hg HS0;obtain⟨pc,u,b,z⟩:=p;simp only at ha hx';unfold aE at HS;by_cases hp0:pc=10
 ·subst hp0;have ha':=ha rfl;rw[if_pos rfl]at hx';clear ha;rcases ha' with rfl|rfl
  ·have HX:Kq (x'=⟨st,d,U.set n ⟨12,0,b,z⟩⟩):=qh hx';have x1:IntKind.i64.wrap 12=12:=IntWalk.i64_in _ QX;clear hx';go_enter Tryz.func386,Tryz.ntmps386;go_wp2_with fail;refine HS.o.mono ?_;rintro en w1 ⟨rfl,b1⟩;have K1:=qh (H.o.below b1);have T1:=qh (aa.of_below (S:=SmS a g X) b1);have e0:=K1.o.sp.cell HP.o 0 _ rfl;have z0:=K1.o.sp.free (n*4);have d6:=K1.o.cs.2.2.2.2.2.2;have l1:=K1.o.lk.lt;have l2:=K1.o.sp.lt;simp only[Nat.add_zero]at e0;clear b1;go_wp2;go_ret;rw[HX.o];first|exact Iq.stay ((K1.o.put0 HP.o (p':=(⟨12,0,b,z⟩:Sp)) rfl).below ((Below.refl _ _).alloc (Nat.le_refl _) _)) ((T1.o.trans (dU _ _)).alloc _) rfl|exact Iq.put HP.o ((K1.o.put0 HP.o (p':=(⟨12,0,b,z⟩:Sp)) rfl).below ((Below.refl _ _).alloc (Nat.le_refl _) _)) ((T1.o.trans (dU _ _)).alloc _) rfl Rb
  ·have HX:Kq (x'=⟨st,d,U.set n ⟨11,1,b,z⟩⟩):=qh hx';have x1:IntKind.i64.wrap 11=11:=IntWalk.i64_in _ QX;clear hx';go_enter Tryz.func386,Tryz.ntmps386;go_wp2_with fail;refine HS.o.mono ?_;rintro en w1 ⟨rfl,b1⟩;have K1:=qh (H.o.below b1);have T1:=qh (aa.of_below (S:=SmS a g X) b1);have e0:=K1.o.sp.cell HP.o 0 _ rfl;have z0:=K1.o.sp.free (n*4);have d6:=K1.o.cs.2.2.2.2.2.2;have l1:=K1.o.lk.lt;have l2:=K1.o.sp.lt;simp only[Nat.add_zero]at e0;clear b1;go_wp2;go_ret;rw[HX.o];first|exact Iq.stay ((K1.o.put0 HP.o (p':=(⟨11,1,b,z⟩:Sp)) rfl).below ((Below.refl _ _).alloc (Nat.le_refl _) _)) ((T1.o.trans (dU _ _)).alloc _) rfl|exact Iq.put HP.o ((K1.o.put0 HP.o (p':=(⟨11,1,b,z⟩:Sp)) rfl).below ((Below.refl _ _).alloc (Nat.le_refl _) _)) ((T1.o.trans (dU _ _)).alloc _) rfl Rb
 ·have y1:(pc !=10)=true:=by simpa using hp0
  have HX:=qh hx';have HP0:=qh hp0;clear hp0 ha hx';go_enter Tryz.func386,Tryz.ntmps386;exact Kx
end
end
section
open Go
def fE (c:CoC)(N:Nat)(x:Nu)(i:Nat)(p:Sp):Co×Dr×Int:=
 if p.a=1 then
  if p.pc=1 then(onA x.st (addA x.st.s (gaA (c.node i)) 1),x.d,2)
  else if p.pc=2 then(onA x.st (ae x.st.s (nuFl N)),x.d,if ldW x.st.s.W (nuFl N)=0 then 10 else 2)
  else(onA x.st (addA x.st.s (gaW (c.node i)) 1),x.d,0)
 else if p.pc=7 then(ak c x.st i,x.d,if bf (sv x.st.T i) (sv (ak c x.st i).T i)then 8 else 7)
 else if p.pc=12 then(ay (onA x.st (ac x.st.s (nuFl N) 0)) i,x.d,13)
 else if p.pc=13 then(ak c x.st i,x.d,if bf (sv x.st.T i) (sv (ak c x.st i).T i)then 0 else 13)
 else if p.pc=5 then(onA x.st (ac x.st.s (nuFl N) 0),dM x.d N false,6)
 else if p.pc=8 then(onA x.st (ac x.st.s (nuFl N) 1),dM x.d N true,9)
 else(onA x.st (ah x.st.s x.d).1,(ah x.st.s x.d).2.1,if (ah x.st.s x.d).2.2=false then p.pc else if p.pc=6 then 8 else if (ah x.st.s x.d).2.1.clear=true then 10 else 5)
def a8 (c:CoC)(N:Nat)(x:Nu)(i:Nat):Nu:=
 if (sv x.U i).pc=0\/(sv x.U i).pc=10 then x
 else⟨(fE c N x i (sv x.U i)).1,(fE c N x i (sv x.U i)).2.1,x.U.set i {(sv x.U i)with pc:=(fE c N x i (sv x.U i)).2.2}⟩
def fk (p:Sp):Bool:=decide (p.a=1/\(p.pc=2\/p.pc=10\/p.pc=11))
def dx (p:Sp):Prop:=p.a=1/\(p.pc=10\/p.pc=11)
def gy (p:Sp):Prop:=p.a=0/\(p.pc=5\/p.pc=9\/p.pc=10\/p.pc=12)
def iE (p t:Sp):Prop:=
 (p.pc=0/\t.pc=0)\/(p.a=1/\(p.pc=1\/p.pc=2\/p.pc=10\/p.pc=11)/\t.pc=0)\/
  (p.a=0/\p.pc=7/\0<t.pc/\t.pc<10)\/(p.a=0/\(p.pc=5\/p.pc=6\/p.pc=8\/p.pc=9\/p.pc=10\/p.pc=12)/\t.pc=10)\/(p.a=0/\p.pc=13/\10<t.pc)
def gH (c:CoC)(n:Nat)(U:List Sp)(a:Nat):Nat:=i2 n (λj=>decide (c.node j=a)&&fk (sv U j))
def yJ (c:CoC)(n N:Nat)(d:Dr)(W:List Int)(U:List Sp):Prop:=
 (d.busy=true/\d.once=true/\d.at_<N/\d.lim=N)/\(d.second=true->d.o<=ldW W (gaW d.at_))/\∀j,j<n->dx (sv U j)->d.at_<=c.node j
structure RsI (c:CoC)(n N:Nat)(ml:Nat->Nat)(x:Nu):Prop where
 m:CoM c n N ml x.st
 lU:x.U.length=n
 k:∀i,i<n->iE (sv x.U i) (sv x.st.T i)
 g:∀a,a<N->ldW x.st.s.W (gaA a)=ldW x.st.s.W (gaW a)+(gH c n x.U a:Int)
 fl:∀i,i<n->gy (sv x.U i)->ldW x.st.s.W (nuFl N)≠0
 dr:∀i,i<n->(sv x.U i).a=0->(sv x.U i).pc=9->yJ c n N x.d x.st.s.W x.U
 hd:∀i,i<n->(sv x.U i).a=0->(sv x.U i).pc=10->∀j,j<n->¬dx (sv x.U j)
section
variable{c:CoC}{n N:Nat}{ml:Nat->Nat}{x x':Nu}
theorem RsI.safe (h:RsI c n N ml x)(y:cp c n N ml){i:Nat}(hi:i<n)(h1:(sv x.U i).pc=10)(h0:(sv x.U i).a=0){j:Nat}(hj:j<n)(h2:(sv x.U j).pc=10):j=i/\(sv x.U j).a=0:=by
 have ki:=h.k i hi;have kj:=h.k j hj;by_cases ha:(sv x.U j).a=1;·exact absurd ⟨ha,.inl h2⟩ (h.hd i hi h0 h1 j hj)
 ·have t1:(sv x.st.T i).pc=10:=by unfold iE at ki;omega
  have t2:(sv x.st.T j).pc=10/\(sv x.U j).a=0:=by unfold iE at kj;omega
  exact J4
theorem RsI.one (h:RsI c n N ml x)(y:cp c n N ml){i j:Nat}(hi:i<n)(hj:j<n)(h1:(sv x.st.T i).pc=10)(h2:(sv x.st.T j).pc=10):i=j:=h.m.one y hi hj QX QX
theorem Hj{p t:Sp}(h:iE p t)(hw:gy p):t.pc=10:=by unfold iE at h;unfold gy at hw;omega
theorem lu {U:List Sp} {i:Nat} (hl:i<U.length) (hi:i<n) (p:Sp) (a:Nat):
    gH c n (U.set i p) a+(if c.node i=a/\fk (sv U i)=true then 1 else 0)=gH c n U a+(if c.node i=a/\fk p=true then 1 else 0):=by unfold gH;have:=jm (P:=λj=>decide (c.node j=a)&&fk (sv U j)) (Q:=λj=>decide (c.node j=a)&&fk (sv (U.set i p) j)) (i:=i) (λj hj=>by rw[svS hl,if_neg hj]) n hi;simp only[Bool.and_eq_true,decide_eq_true_eq]at this;rw[svS hl,if_pos rfl]at this;exact this
theorem RsI.upd (h:RsI c n N ml x) {i:Nat} (hi:i<n) {st':Co} {d':Dr} {p':Sp} (hm:CoM c n N ml st') (hT:∀j,j≠i->sv st'.T j=sv x.st.T j) (hk:iE p' (sv st'.T i))
    (hg:∀a,a<N->ldW st'.s.W (gaA a)=ldW st'.s.W (gaW a)+(gH c n (x.U.set i p') a:Int))
    (hfl:∀j,j<n->j≠i->gy (sv x.U j)->ldW st'.s.W (nuFl N)≠0) (hfi:gy p'->ldW st'.s.W (nuFl N)≠0)
    (hH:∀a,a<N->ldW x.st.s.W (gaW a)<=ldW st'.s.W (gaW a))
    (hset:dx p'->dx (sv x.U i)\/∀j,j<n->j≠i->¬gy (sv x.U j))
    (hd:∀j,j<n->j≠i->(sv x.U j).a=0->(sv x.U j).pc=9->d'=x.d)
    (od:p'.a=0->p'.pc=9->yJ c n N d' st'.s.W (x.U.set i p')) (oh:p'.a=0->p'.pc=10->∀j,j<n->j≠i->¬dx (sv x.U j)):RsI c n N ml ⟨st',d',x.U.set i p'⟩:=by
  have hl:i<x.U.length:=by rw[h.lU];exact hi
  have hs:=svS hl p';refine⟨hm,by rw[List.length_set];exact h.lU,λj hj=>?_,hg,λj hj hw=>?_,λj hj h0 h9=>?_,λj hj h0 h10=>?_⟩
  · show iE (sv (x.U.set i p') j) (sv st'.T j);rw[hs];split;· rename_i e;rw[e];exact hk
    · rename_i e;rw[hT j e];exact h.k j hj
  · have hw':gy (sv (x.U.set i p') j):=hw;rw[hs]at hw';split at hw';· exact hfi hw'
    · rename_i e;exact hfl j hj e hw'
  · have h0':(sv (x.U.set i p') j).a=0:=h0;have h9':(sv (x.U.set i p') j).pc=9:=h9;rw[hs]at h0' h9';by_cases e:j=i;· rw[if_pos e]at h0' h9';exact od h0' h9'
    · rw[if_neg e]at h0' h9';obtain⟨q1,q2,q3⟩:=h.dr j hj h0' h9';show yJ c n N d' st'.s.W (x.U.set i p');rw[hd j hj e h0' h9'];refine⟨q1,λhq=>Int.le_trans (q2 hq) (hH _ q1.2.2.1),λk hk hr=>?_⟩;rw[hs]at hr;split at hr
      · rename_i e2;rcases hset hr with h1|h1
        · rw[e2];exact q3 i hi h1
        · exact absurd ⟨h0',.inr (.inl h9')⟩ (h1 j hj e)
      · exact q3 k hk hr
  · have h0':(sv (x.U.set i p') j).a=0:=h0;have h9':(sv (x.U.set i p') j).pc=10:=h10;rw[hs]at h0' h9';intro k hk hr;have hr':dx (sv (x.U.set i p') k):=hr;rw[hs]at hr';by_cases e:j=i
    · rw[if_pos e]at h0' h9';split at hr';· unfold dx at hr';omega
      · rename_i e2;exact oh h0' h9' k hk e2 hr'
    · rw[if_neg e]at h0' h9';split at hr'
      · rcases hset hr' with h1|h1
        · exact h.hd j hj h0' h9' i hi h1
        · exact h1 j hj e ⟨h0',.inr (.inr (.inl h9'))⟩
      · exact h.hd j hj h0' h9' k hk hr'
theorem qA (h:RsI c n N ml x)(y:cp c n N ml)(l:NuL c N x.st.s.W){z:Int}(hz:1<=z/\z<=nuFl N)(v:Int){s':Ar}(e:s'.W=stW x.st.s.W z v):(∀q,ldW s'.W q=if q=z then v else ldW x.st.s.W q)/\CoM c n N ml (onA x.st s'):=by exact J5
theorem mJ (h:RsI c n N ml x)(y:cp c n N ml){s':Ar}(e:s'.W=x.st.s.W):CoM c n N ml (onA x.st s'):=
 h.m.low y (by rw[e]) (λq _=>by rw[e]) (h.m.v.ars s')
theorem Cc (h:RsI c n N ml x){i:Nat}(hi:i<n){p':Sp}(hb:fk p'=fk (sv x.U i))(a:Nat):gH c n (x.U.set i p') a=gH c n x.U a:=by have:=lu (c:=c) (n:=n) (show i<x.U.length by rw[h.lU];exact hi) hi p' a;rw[hb]at this;omega
theorem dC (h:RsI c n N ml x){i:Nat}(hi:i<n){p':Sp}(hb:fk p'=fk (sv x.U i)){W':List Int}(hw:∀q,q<nuFl N->ldW W' q=ldW x.st.s.W q):∀a,a<N->ldW W' (gaA a)=ldW W' (gaW a)+(gH c n (x.U.set i p') a:Int):=λa ha=>by
 rw[hw _ (eH ha).2,hw _ (bB ha).2,Cc h hi hb a];exact h.g a ha
theorem FV (h:RsI c n N ml x)(hn:∀j,j<n->c.node j<N){i:Nat}(hi:i<n){p':Sp}(h0:fk (sv x.U i)=false)(h1:fk p'=true){W':List Int}(hw:∀q,ldW W' q=if q=gaA (c.node i)then ldW x.st.s.W (gaA (c.node i))+1 else ldW x.st.s.W q):∀a,a<N->ldW W' (gaA a)=ldW W' (gaW a)+(gH c n (x.U.set i p') a:Int):=λa ha=>by
 have h2:=lu (c:=c) (n:=n) (show i<x.U.length by rw[h.lU];exact hi) hi p' a
 exact J6
theorem Ex (h:RsI c n N ml x)(hn:∀j,j<n->c.node j<N){i:Nat}(hi:i<n){p':Sp}(h0:fk (sv x.U i)=true)(h1:fk p'=false){W':List Int}(hw:∀q,ldW W' q=if q=gaW (c.node i)then ldW x.st.s.W (gaW (c.node i))+1 else ldW x.st.s.W q):∀a,a<N->ldW W' (gaA a)=ldW W' (gaW a)+(gH c n (x.U.set i p') a:Int):=λa ha=>by
 have h2:=lu (c:=c) (n:=n) (show i<x.U.length by rw[h.lU];exact hi) hi p' a
 exact J7
end
end
section
open Go.RowKit
def bV (ty:TypeId)(B BC:Nat->Prop)(w:World)(a g:Nat)(X:SmX)(c:CoC)(P T:List Int)(r:Co×Dr×Int)(U:List Sp)(e:Ending)(w':World):Prop:=
 e= .returned (.int .i64 r.2.2)/\av ty B BC w' a g X c P T r.1 r.2.1 U/\aa (SmS a g X) w w'
section
variable{ty:TypeId}
variable{B BC:Nat->Prop}{w w' w0:World}{a g:Nat}{X:SmX}{c:CoC}{P T:List Int}{st st':Co}{d d':Dr}{U:List Sp}{s':Ar}{BB:Int}
theorem av.ltsA (h:av ty B BC w a g X c P T st d U):∀r∈SmS a g X,r<w.heap.size:=by exact Kv
theorem av.nodeA (h:av ty B BC w a g X c P T st d U){n:Nat}(hn:n<T.length):(c.node n)<(ab P).length/\(ao P T T.length)[n]? =some ((c.node n:Nat):Int):=by exact Kw
theorem av.drw (h:av ty B BC w a g X c P T st d U):av ty B BC w.drew a g X c P T st d U:=h.below (Below.refl _ _).drew
end
section
variable{B BC:Nat->Prop}{w w' w0:World}{a g:Nat}{X:SmX}{c:CoC}{P T:List Int}{st st':Co}{d d':Dr}{U:List Sp}{s':Ar}{BB:Int}
theorem Be (h:av 335 B BC w a g X c P T st d U){nd:Nat}(hnd:nd<(ab P).length)(ho:st.s.ops+1<=1000000000000):Calls Tryz.prog 392 #[↑X.l,.int .i64 1,.int .i64 nd] w (bV 335 B BC w a g X c P T (onA st (addA st.s (2*(nd:Int)+1) 1),d,2) U):=by have hnd:=qh hnd;have H:=qh h;clear h;go_enter Tryz.func392,Tryz.ntmps392;exact Ky
theorem yd (h:av 335 B BC w a g X c P T st d U){nd:Nat}(hnd:nd<(ab P).length)(ho:st.s.ops+1<=1000000000000):Calls Tryz.prog 392 #[↑X.l,.int .i64 11,.int .i64 nd] w (bV 335 B BC w a g X c P T (onA st (addA st.s (2*(nd:Int)+1+1) 1),d,0) U):=by have hnd:=qh hnd;have H:=qh h;clear h;go_enter Tryz.func392,Tryz.ntmps392;exact Kz
theorem Bf (h:av 335 B BC w a g X c P T st d U) (nd:Nat) (ho:st.s.ops+1<=1000000000000):Calls Tryz.prog 392 #[↑X.l,.int .i64 2,.int .i64 nd] w (bV 335 B BC w a g X c P T (onA st (ae st.s (nuFl (ab P).length)),d,if ldW st.s.W (nuFl (ab P).length)=0 then 10 else 2) U):=by
  have H:=qh h;clear h;obtain⟨q,hq⟩:∃q,q=ldW st.s.W (nuFl (ab P).length):=⟨_,rfl⟩;rw[<-hq];have HQ:=qh hq;clear hq;have HO0:=qh (aC (H.o.drw).gd.ar (nuFl (ab P).length) ho);rw[<-HQ.o]at HO0;obtain⟨v,hv⟩:∃v:Int,v=if q=0 then 10 else 2:=⟨_,rfl⟩
  rw[<-hv];have HV:=qh hv;clear hv;cases hz:(q==0)
  all_goals
    go_enter Tryz.func392,Tryz.ntmps392;have K0d:=qh H.o.drw;have T0:=qh (aa.refl (SmS a g X) w);go_wp2_with fail;first
    | (go_region_held3 (λW=>W.cell? X.l=some ↑a/\W.cell? ⟨X.l,4,none⟩=some (.int .i64 (2*((ab P).length:Int)+1)))
        (first|exact⟨K0d.o.cs.1,K0d.o.cs.2.2.2.2.1⟩|exact⟨K1.o.cs.1,K1.o.cs.2.2.2.2.1⟩)
        (first
          | (go_at_call 173;go_loud (refine HO0.o.mono ?_);rintro en w1 ⟨rfl,a3,t3⟩;have K1:=qh (K0d.o.arT t3 a3);have T1:=qh (T0.o.drew.trans (fd t3));clear a3 t3)))
    | fail "held"
  all_goals
    first
    | (go_wp2
       go_ret
       rw[HV.o,if_pos Rt]
       exact⟨rfl,K1.o,T1.o⟩)
    | (go_wp2
       go_ret
       rw[HV.o,if_neg Rt]
       exact⟨rfl,K1.o,T1.o⟩)
theorem Ax (h:av 335 B BC w a g X c P T st d U)(hN:1<=(ab P).length)(ho:st.s.ops+1<=1000000000000):Calls Tryz.prog 394 #[↑X.l,.int .i64 5] w (bV 335 B BC w a g X c P T (onA st (ac st.s (nuFl (ab P).length) 0),dM d (ab P).length false,6) U):=by
 have H:=qh h;clear h;go_enter Tryz.func394,Tryz.ntmps394;have K0:=H;have T0:=qh (aa.refl (SmS a g X) w);have K0d:=qh K0.o.drw;have HO0:=qh (am (K0d.o).gd.ar (nuFl (ab P).length) (0) ho);go_wp2_with fail
 go_region_held3 (λW=>W.cell? X.l=some ↑a/\W.cell? ⟨X.l,4,none⟩=some (.int .i64 (2*((ab P).length:Int)+1)))
  (first|exact⟨K0d.o.cs.1,K0d.o.cs.2.2.2.2.1⟩|exact⟨K1.o.cs.1,K1.o.cs.2.2.2.2.1⟩)
  (first
   |(go_at_call 177;go_loud (refine HO0.o.mono ?_);rintro en w1 ⟨rfl,a3,t3⟩;have K1:=qh (K0d.o.arT t3 a3);have T1:=qh (T0.o.drew.trans (fd t3));clear a3 t3))
 exact KA
theorem Az (h:av 335 B BC w a g X c P T st d U)(hN:1<=(ab P).length)(ho:st.s.ops+1<=1000000000000):Calls Tryz.prog 394 #[↑X.l,.int .i64 8] w (bV 335 B BC w a g X c P T (onA st (ac st.s (nuFl (ab P).length) 1),dM d (ab P).length true,9) U):=by
 have H:=qh h;clear h;go_enter Tryz.func394,Tryz.ntmps394;have K0:=H;have T0:=qh (aa.refl (SmS a g X) w);have K0d:=qh K0.o.drw;have HO0:=qh (am (K0d.o).gd.ar (nuFl (ab P).length) (1) ho);go_wp2_with fail
 go_region_held3 (λW=>W.cell? X.l=some ↑a/\W.cell? ⟨X.l,4,none⟩=some (.int .i64 (2*((ab P).length:Int)+1)))
  (first|exact⟨K0d.o.cs.1,K0d.o.cs.2.2.2.2.1⟩|exact⟨K1.o.cs.1,K1.o.cs.2.2.2.2.1⟩)
  (first
   |(go_at_call 177;go_loud (refine HO0.o.mono ?_);rintro en w1 ⟨rfl,a3,t3⟩;have K1:=qh (K0d.o.arT t3 a3);have T1:=qh (T0.o.drew.trans (fd t3));clear a3 t3))
 have K1d:=qh K1.o.drw;have HB1:=qh (mD (K1d.o).gd hN true);exact KC
theorem Ay (h:av 335 B BC w a g X c P T st d U)(hb:d.busy=true->d.at_<(ab P).length)(ho:st.s.ops+1<=1000000000000):Calls Tryz.prog 394 #[↑X.l,.int .i64 6] w (bV 335 B BC w a g X c P T (onA st (ah st.s d).1,(ah st.s d).2.1,if (ah st.s d).2.2=false then 6 else if (6:Int)=6 then 8 else if (ah st.s d).2.1.clear=true then 10 else 5) U):=by
 obtain⟨r,hr⟩:∃r,r=ah st.s d:=⟨_,rfl⟩;have HD0:=mE h.gd hb ho;rw[<-hr]at HD0 ⊢;obtain⟨s1,d1,q⟩:=r;simp only at HD0 ⊢;have HD:=qh HD0;have H:=qh h;clear h hr hb HD0;cases q;·exact KD
 ·exact KD
theorem AA (h:av 335 B BC w a g X c P T st d U)(hb:d.busy=true->d.at_<(ab P).length)(ho:st.s.ops+1<=1000000000000):Calls Tryz.prog 394 #[↑X.l,.int .i64 9] w (bV 335 B BC w a g X c P T (onA st (ah st.s d).1,(ah st.s d).2.1,if (ah st.s d).2.2=false then 9 else if (9:Int)=6 then 8 else if (ah st.s d).2.1.clear=true then 10 else 5) U):=by
 obtain⟨r,hr⟩:∃r,r=ah st.s d:=⟨_,rfl⟩;have HD0:=mE h.gd hb ho;rw[<-hr]at HD0 ⊢;obtain⟨s1,d1,q⟩:=r;simp only at HD0 ⊢;have HD:=qh HD0;have H:=qh h;clear h hr hb HD0;cases q;·exact KD
 ·cases hc:d1.clear;all_goals go_enter Tryz.func394,Tryz.ntmps394;have d3:=H.o.cs.2.2.2.1;go_wp2_with fail;refine HD.o.mono ?_;rintro en w1 ⟨rfl,k4,t4⟩;have K1:=qh (H.o.gdT t4 k4);have T1:=qh (ja (X:=X) t4);have d4:=K1.o.cs.2.2.2.1;clear k4 t4;have HCl:=qh (Cr K1.o.gd);rw[hc]at HCl;go_wp2_with fail;refine HCl.o.mono ?_;rintro en w2 ⟨rfl,rfl⟩;go_wp2;go_ret;unfold bV;simp only[hc];exact⟨rfl,K1.o,T1.o⟩
theorem yC (h:av 335 B BC w a g X c P T st d U)(n:Nat)(hn:n<T.length)(C:cX BB X.x c st)(ho:st.s.ops+1<=1000000000000):Calls Tryz.prog 393 #[↑X.l,.int .i64 n,.int .i64 7] w (bV 335 B BC w a g X c P T (ak c st n,d,if bf (sv st.T n) (sv (ak c st n).T n)then 8 else 7) U):=by exact KE
theorem uY (h:av 335 B BC w a g X c P T st d U)(n:Nat)(hn:n<T.length)(C:cX BB X.x c st)(ho:st.s.ops+1<=1000000000000):Calls Tryz.prog 393 #[↑X.l,.int .i64 n,.int .i64 13] w (bV 335 B BC w a g X c P T (ak c st n,d,if bf (sv st.T n) (sv (ak c st n).T n)then 0 else 13) U):=by exact KE
theorem uX (h:av 335 B BC w a g X c P T st d U)(n:Nat)(hn:n<T.length)(ho:st.s.ops+1<=1000000000000):Calls Tryz.prog 393 #[↑X.l,.int .i64 n,.int .i64 12] w (bV 335 B BC w a g X c P T (ay (onA st (ac st.s (nuFl (ab P).length) 0)) n,d,13) U):=by
 have hnx:n<X.x.n:=by rw[h.nT.1];exact hn
 have H:=qh h;clear h;go_enter Tryz.func393,Tryz.ntmps393;have K0:=H;have T0:=qh (aa.refl (SmS a g X) w);have K0d:=qh K0.o.drw;have HO0:=qh (am (K0d.o).gd.ar (nuFl (ab P).length) (0) ho);go_wp2_with fail
 go_region_held3 (λW=>W.cell? X.l=some ↑a/\W.cell? ⟨X.l,4,none⟩=some (.int .i64 (2*((ab P).length:Int)+1)))
  (first|exact⟨K0d.o.cs.1,K0d.o.cs.2.2.2.2.1⟩|exact⟨K1.o.cs.1,K1.o.cs.2.2.2.2.1⟩)
  (first
   |(go_at_call 177;go_loud (refine HO0.o.mono ?_);rintro en w1 ⟨rfl,a3,t3⟩;have K1:=qh (K0d.o.arT t3 a3);have T1:=qh (T0.o.drew.trans (fd t3));clear a3 t3))
 exact KF
theorem yA (h:av 335 B BC w a g X c P T st d U)(hN:1<=(ab P).length)(n:Nat)(ho:st.s.ops+1<=1000000000000):Calls Tryz.prog 393 #[↑X.l,.int .i64 n,.int .i64 5] w (bV 335 B BC w a g X c P T (onA st (ac st.s (nuFl (ab P).length) 0),dM d (ab P).length false,6) U):=by have HL0:=Ax h hN ho;obtain⟨r,hr⟩:∃r:Co×Dr×Int,r=(onA st (ac st.s (nuFl (ab P).length) 0),dM d (ab P).length false,6):=⟨_,rfl⟩;exact KI
theorem yD (h:av 335 B BC w a g X c P T st d U)(hN:1<=(ab P).length)(n:Nat)(ho:st.s.ops+1<=1000000000000):Calls Tryz.prog 393 #[↑X.l,.int .i64 n,.int .i64 8] w (bV 335 B BC w a g X c P T (onA st (ac st.s (nuFl (ab P).length) 1),dM d (ab P).length true,9) U):=by have HL0:=Az h hN ho;obtain⟨r,hr⟩:∃r:Co×Dr×Int,r=(onA st (ac st.s (nuFl (ab P).length) 1),dM d (ab P).length true,9):=⟨_,rfl⟩;exact KI
theorem yB (h:av 335 B BC w a g X c P T st d U)(hb:d.busy=true->d.at_<(ab P).length)(n:Nat)(ho:st.s.ops+1<=1000000000000):Calls Tryz.prog 393 #[↑X.l,.int .i64 n,.int .i64 6] w (bV 335 B BC w a g X c P T (onA st (ah st.s d).1,(ah st.s d).2.1,if (ah st.s d).2.2=false then 6 else if (6:Int)=6 then 8 else if (ah st.s d).2.1.clear=true then 10 else 5) U):=by have HL0:=Ay h hb ho;obtain⟨r,hr⟩:∃r:Co×Dr×Int,r=(onA st (ah st.s d).1,(ah st.s d).2.1,if (ah st.s d).2.2=false then 6 else if (6:Int)=6 then 8 else if (ah st.s d).2.1.clear=true then 10 else 5):=⟨_,rfl⟩;exact KI
theorem yE (h:av 335 B BC w a g X c P T st d U)(hb:d.busy=true->d.at_<(ab P).length)(n:Nat)(ho:st.s.ops+1<=1000000000000):Calls Tryz.prog 393 #[↑X.l,.int .i64 n,.int .i64 9] w (bV 335 B BC w a g X c P T (onA st (ah st.s d).1,(ah st.s d).2.1,if (ah st.s d).2.2=false then 9 else if (9:Int)=6 then 8 else if (ah st.s d).2.1.clear=true then 10 else 5) U):=by have HL0:=AA h hb ho;obtain⟨r,hr⟩:∃r:Co×Dr×Int,r=(onA st (ah st.s d).1,(ah st.s d).2.1,if (ah st.s d).2.2=false then 9 else if (9:Int)=6 then 8 else if (ah st.s d).2.1.clear=true then 10 else 5):=⟨_,rfl⟩;exact KI
end
end
section
open Go.RowKit
section
variable{B BC:Nat->Prop}{w w' w0:World}{a g:Nat}{X:SmX}{c:CoC}{P T:List Int}{st st':Co}{d d':Dr}{U:List Sp}{s':Ar}{BB:Int}
theorem wy (h:av 335 B BC w a g X c P T st d U)(n:Nat)(hn:n<T.length)(hc:(sv U n).pc=0\/(sv U n).pc=10):Calls Tryz.prog 389 #[↑X.l,.int .i64 n] w (Iq 335 B BC w a g X c P T U n (a8 c (ab P).length ⟨st,d,U⟩ n)):=by
 have hfp:=aK;have HS0:=oC h n;have hp:=h.thr hn;have hg:getS U (n:Int)=sv U n:=by exact Kd
 rw[hg]at HS0;have H:=qh h;have t2:¬(n:Int)<0:=by omega
 have hn32:=h.nT.2.2.1;have hx':a8 c (ab P).length ⟨st,d,U⟩ n=⟨st,d,U⟩:=by unfold a8;rw[if_pos hc]
 obtain⟨p,hpp⟩:∃p,p=sv U n:=⟨_,rfl⟩;rw[<-hpp]at hc HS0;have HS:=qh HS0;have HX:=qh hx';clear h hp hpp hx' hg HS0;obtain⟨pc,u,b,z⟩:=p;simp only at hc;unfold aE at HS;rcases hc with rfl|rfl
 all_goals go_enter Tryz.func389,Tryz.ntmps389;go_wp2_with fail;refine HS.o.mono ?_;rintro en w1 ⟨rfl,b1⟩;have HB:=qh b1;clear b1;go_wp2;go_ret;rw[HX.o];first|exact Iq.stay ((H.o.below HB.o).below ((Below.refl _ _).alloc (Nat.le_refl _) _)) ((aa.of_below HB.o).alloc _) rfl|exact Iq.put HP.o ((H.o.below HB.o).below ((Below.refl _ _).alloc (Nat.le_refl _) _)) ((aa.of_below HB.o).alloc _) rfl Rb
theorem lZ (h:av 335 B BC w a g X c P T st d U) (n:Nat) (hn:n<T.length) (pc b z:Int) (hU:sv U n=⟨pc,1,b,z⟩) (hc:pc≠0/\pc≠10)
    (hD:∀W,av 335 B BC W a g X c P T st d U->Calls Tryz.prog 392 #[↑X.l,.int .i64 pc,.int .i64 (c.node n:Nat)] W (bV 335 B BC W a g X c P T (fE c (ab P).length ⟨st,d,U⟩ n ⟨pc,1,b,z⟩) U)):Calls Tryz.prog 389 #[↑X.l,.int .i64 n] w (Iq 335 B BC w a g X c P T U n (a8 c (ab P).length ⟨st,d,U⟩ n)):=by
  have hfp:=aK;have HS0:=oC h n;have hp:=h.thr hn;have hg:getS U (n:Int)=sv U n:=by exact Kd
  rw[hg]at HS0;have H:=qh h;have t2:¬(n:Int)<0:=by omega
  have hn32:=h.nT.2.2.1;obtain⟨r,hr⟩:∃r,r=fE c (ab P).length ⟨st,d,U⟩ n ⟨pc,1,b,z⟩:=⟨_,rfl⟩;have hx':a8 c (ab P).length ⟨st,d,U⟩ n=⟨r.1,r.2.1,U.set n ⟨r.2.2,1,b,z⟩⟩:=by unfold a8;exact KJ
  rw[<-hr]at hD;rw[hU]at hp HS0;obtain⟨s1,d1,v⟩:=r;simp only at hx';have u0:(pc==0)=false:=by simpa using hc.1
  have u1:(pc==10)=false:=by simpa using hc.2
  obtain⟨hnd,hnn⟩:=h.nodeA hn;obtain⟨nd,hnde⟩:∃nd,nd=c.node n:=⟨_,rfl⟩;rw[<-hnde]at hnn hnd hD;have HN0:=qh hnn;have HX:=qh hx';have HS:=qh HS0;have HP:=qh hp;have HD:=qh hD;clear h hp hx' hg HS0 hD hr hU hc hnd hnn hnde;unfold aE at HS;cases v1:(v==10)<;>cases v2:(v==0)
  all_goals
    go_enter Tryz.func389,Tryz.ntmps389;go_wp2_with fail;refine HS.o.mono ?_;rintro en w1 ⟨rfl,b1⟩;have K1:=qh (H.o.below b1);have T1:=qh (aa.of_below (S:=SmS a g X) b1);clear b1;go_upto_region 2 with fail;obtain⟨sb,hsb⟩:∃y,y=w1.heap.size:=⟨_,rfl⟩;obtain⟨wa,hwa⟩:∃W,W=w1.alloc (.cells #[.int .i64 pc,.int .i64 1,.int .i64 b,.int .i64 z] 113):=⟨_,rfl⟩;rw[<-hwa,<-hsb];have HA1:=qh (show av 335 B BC wa a g X c P T st d U/\aa (SmS a g X) w wa/\Blk wa sb 113 #[.int .i64 pc,.int .i64 1,.int .i64 b,.int .i64 z]/\sb∉SmS a g X from⟨by rw[hwa];exact(K1.o).below ((Below.refl _ _).alloc (Nat.le_refl _) _),by rw[hwa];exact T1.o.alloc _,by rw[hwa,hsb];exact Blk.new _ _ _,λk=>by have:=K1.o.ltsA _ k;omega⟩);clear hwa hsb K1 T1;have v0:wa.cell? sb=some (.int .i64 pc):=HA1.o.2.2.1.cell 0;have va:wa.cell? ⟨sb,1,none⟩=some (.int .i64 1):=HA1.o.2.2.1.cell 1;have l1:wa.cell? ⟨X.l,1,none⟩=some ↑X.b:=HA1.o.1.cs.2.1;have K1d:=qh HA1.o.1.drw;have HNd:=qh (kh wa.drew X.b P T n hn K1d.o.tb.f nd HN0.o);have HRe:=qh (HD.o _ K1d.o);have HC:=qh (λW (st:Co) (d:Dr) (k:av 335 B BC W a g X c P T st d U) (hb:Blk W sb 113 #[.int .i64 pc,.int .i64 1,.int .i64 b,.int .i64 z])=>And.intro (show W.cell? sb=some (.int .i64 pc)from hb.cell 0) k.cs.2.1);go_wp2_with fail
    go_region_held3 (λW=>W.cell? sb=some (.int .i64 pc)/\W.cell? ⟨X.l,1,none⟩=some ↑X.b)
      (first|exact⟨v0,l1⟩|exact M3.o)
      (first
        | (go_at_call 100;go_loud (refine HNd.o.mono ?_);rintro en w2 ⟨rfl,rfl⟩)
        | (go_at_call 392;go_loud (refine HRe.o.mono ?_);rintro en w3 ⟨rfl,k3,t3⟩;have M3:=qh (HC.o _ _ _ k3 ((((aa.refl (SmS a g X) wa).drew).trans t3).blk HA1.o.2.2.1 HA1.o.2.2.2));have K3:=qh k3;have T3:=qh (HA1.o.2.1.drew.trans t3);clear k3 t3))
  all_goals have e0:=K3.o.sp.cell HP.o 0 _ rfl;have z0:=K3.o.sp.free (n*4);have d6:=K3.o.cs.2.2.2.2.2.2;simp only[Nat.add_zero]at e0;have K4:=qh (K3.o.put0 HP.o (p':=(⟨v,1,b,z⟩:Sp)) (u:= .int .i64 v) rfl);go_wp2;go_ret;rw[HX.o];first|exact Iq.stay (K4.o) (T3.o.trans (dU _ _)) rfl|exact Iq.put HP.o (K4.o) (T3.o.trans (dU _ _)) rfl Rb
theorem fH (h:av 335 B BC w a g X c P T st d U) (n:Nat) (hn:n<T.length) (pc b z:Int) (hU:sv U n=⟨pc,0,b,z⟩) (hc:pc≠0/\pc≠10)
    (hD:∀W,av 335 B BC W a g X c P T st d U->Calls Tryz.prog 393 #[↑X.l,.int .i64 n,.int .i64 pc] W (bV 335 B BC W a g X c P T (fE c (ab P).length ⟨st,d,U⟩ n ⟨pc,0,b,z⟩) U)):Calls Tryz.prog 389 #[↑X.l,.int .i64 n] w (Iq 335 B BC w a g X c P T U n (a8 c (ab P).length ⟨st,d,U⟩ n)):=by
  have hfp:=aK;have HS0:=oC h n;have hp:=h.thr hn;have hg:getS U (n:Int)=sv U n:=by exact Kd
  rw[hg]at HS0;have H:=qh h;have t2:¬(n:Int)<0:=by omega
  have hn32:=h.nT.2.2.1;obtain⟨r,hr⟩:∃r,r=fE c (ab P).length ⟨st,d,U⟩ n ⟨pc,0,b,z⟩:=⟨_,rfl⟩;have hx':a8 c (ab P).length ⟨st,d,U⟩ n=⟨r.1,r.2.1,U.set n ⟨r.2.2,0,b,z⟩⟩:=by unfold a8;exact KJ
  rw[<-hr]at hD;rw[hU]at hp HS0;obtain⟨s1,d1,v⟩:=r;simp only at hx';have u0:(pc==0)=false:=by simpa using hc.1
  have u1:(pc==10)=false:=by simpa using hc.2
  have HX:=qh hx';have HS:=qh HS0;have HP:=qh hp;have HD:=qh hD;clear h hp hx' hg HS0 hD hr hU hc;unfold aE at HS;cases v1:(v==10)<;>cases v2:(v==0);all_goals go_enter Tryz.func389,Tryz.ntmps389;go_wp2_with fail;refine HS.o.mono ?_;rintro en w1 ⟨rfl,b1⟩;have K1:=qh (H.o.below b1);have T1:=qh (aa.of_below (S:=SmS a g X) b1);clear b1;go_upto_region 2 with fail;obtain⟨sb,hsb⟩:∃y,y=w1.heap.size:=⟨_,rfl⟩;obtain⟨wa,hwa⟩:∃W,W=w1.alloc (.cells #[.int .i64 pc,.int .i64 0,.int .i64 b,.int .i64 z] 113):=⟨_,rfl⟩;rw[<-hwa,<-hsb];have HA1:=qh (show av 335 B BC wa a g X c P T st d U/\aa (SmS a g X) w wa/\Blk wa sb 113 #[.int .i64 pc,.int .i64 0,.int .i64 b,.int .i64 z]/\sb∉SmS a g X from⟨by rw[hwa];exact(K1.o).below ((Below.refl _ _).alloc (Nat.le_refl _) _),by rw[hwa];exact T1.o.alloc _,by rw[hwa,hsb];exact Blk.new _ _ _,λk=>by have:=K1.o.ltsA _ k;omega⟩);clear hwa hsb K1 T1;have v0:wa.cell? sb=some (.int .i64 pc):=HA1.o.2.2.1.cell 0;have va:wa.cell? ⟨sb,1,none⟩=some (.int .i64 0):=HA1.o.2.2.1.cell 1;go_wp2_with fail;refine(HD.o _ HA1.o.1).mono ?_;rintro en w3 ⟨rfl,k3,t3⟩;have K3:=qh k3;have T3:=qh (HA1.o.2.1.trans t3);clear k3 t3
  all_goals have e0:=K3.o.sp.cell HP.o 0 _ rfl;have z0:=K3.o.sp.free (n*4);have d6:=K3.o.cs.2.2.2.2.2.2;simp only[Nat.add_zero]at e0;have K4:=qh (K3.o.put0 HP.o (p':=(⟨v,0,b,z⟩:Sp)) (u:= .int .i64 v) rfl);go_wp2;go_ret;rw[HX.o];first|exact Iq.stay (K4.o) (T3.o.trans (dU _ _)) rfl|exact Iq.put HP.o (K4.o) (T3.o.trans (dU _ _)) rfl Rb
theorem Dl (h:av 335 B BC w a g X c P T st d U) (n:Nat) (hn:n<T.length) (hc:iE (sv U n) (sv st.T n)) (ho:st.s.ops+1<=1000000000000) (hN:1<=(ab P).length) (hb:((sv U n).a=0->((sv U n).pc=9\/(sv U n).pc=6)->d.busy=true->d.at_<(ab P).length)) (C:cX BB X.x c st):
    Calls Tryz.prog 389 #[↑X.l,.int .i64 n] w (Iq 335 B BC w a g X c P T U n (a8 c (ab P).length ⟨st,d,U⟩ n)):=by
  obtain⟨p,hpp⟩:∃p,p=sv U n:=⟨_,rfl⟩
  have hcs:p.pc=0\/p.pc=10\/(p.a=1/\p.pc=1)\/(p.a=1/\p.pc=2)\/(p.a=1/\p.pc=11)\/(p.a=0/\p.pc=7)\/(p.a=0/\p.pc=5)\/(p.a=0/\p.pc=6)\/(p.a=0/\p.pc=8)\/(p.a=0/\p.pc=9)\/(p.a=0/\p.pc=12)\/(p.a=0/\p.pc=13):=by
    rw[<-hpp]at hc;unfold iE at hc;rcases hc with⟨q1,_⟩|⟨q1,q2,_⟩|⟨q1,q2,_⟩|⟨q1,q2,_⟩|⟨q1,q2,_⟩
    all_goals omega
  have hb':=hb;rw[<-hpp]at hb';obtain⟨pc,u,b,z⟩:=p;have hpc:(sv U n).pc=pc:=by rw[<-hpp]
  simp only at hcs hb';have hnd:=h.nodeA hn;rcases hcs with rfl|rfl|⟨rfl,rfl⟩|⟨rfl,rfl⟩|⟨rfl,rfl⟩|⟨rfl,rfl⟩|⟨rfl,rfl⟩|⟨rfl,rfl⟩|⟨rfl,rfl⟩|⟨rfl,rfl⟩|⟨rfl,rfl⟩|⟨rfl,rfl⟩
  · exact wy h n hn (.inl hpc)
  · exact wy h n hn (.inr hpc)
  · exact lZ h n hn _ b z hpp.symm QZ (λW k=>Be k hnd.1 ho)
  · exact lZ h n hn _ b z hpp.symm QZ (λW k=>Bf k (c.node n) ho)
  · refine lZ h n hn _ b z hpp.symm QZ (λW k=>?_);have k9:=yd k hnd.1 ho;rw[show 2*((c.node n:Nat):Int)+1+1=gaW (c.node n)by unfold gaW;omega]at k9;exact k9
  · exact fH h n hn _ b z hpp.symm QZ (λW k=>yC k n hn C ho)
  · exact fH h n hn _ b z hpp.symm QZ (λW k=>yA k hN n ho)
  · exact fH h n hn _ b z hpp.symm QZ (λW k=>yB k (hb' rfl (.inr rfl)) n ho)
  · exact fH h n hn _ b z hpp.symm QZ (λW k=>yD k hN n ho)
  · exact fH h n hn _ b z hpp.symm QZ (λW k=>yE k (hb' rfl (.inl rfl)) n ho)
  · exact fH h n hn _ b z hpp.symm QZ (λW k=>uX k n hn ho)
  · exact fH h n hn _ b z hpp.symm QZ (λW k=>uY k n hn C ho)
end
end
section
open Go.RowKit
section
variable{B BC:Nat->Prop}{w w':World}{a g:Nat}{X:SmX}{c:CoC}{P T:List Int}{st st':Co}{d d':Dr}{U:List Sp}{s':Ar}
theorem Hf (h:av 337 B BC w a g X c P T st d U):Calls Tryz.prog 401 #[↑X.l] w λe w'=>e= .returned (.int .i64 T.length)/\w=w':=by have c6:=h.cs.2.2.2.2.2.2;clear h;go_enter Tryz.func401,Tryz.ntmps401;exact gs
theorem Af (h:av 337 B BC w a g X c P T st d U)(i:Int)(r:Bool)(hr:r=decide (okI U i)):Calls Tryz.prog 402 #[↑X.l,.int .i64 i] w λe w'=>e= .returned (.bool r)/\w=w':=by
 have HT:=qh (Hf h);have hsl:=h.lU;clear h;by_cases h0:0<=i
 ·by_cases h1:i<T.length;·have e:r=true:=(by rw[hr];exact decide_eq_true (show 0<=i/\i<U.length from⟨h0,by rw[hsl];exact h1⟩));subst e;clear hr;go_enter Tryz.func402,Tryz.ntmps402;exact Jk
  ·have e:r=false:=(by rw[hr];exact decide_eq_false (λk=>h1 R9));subst e;clear hr;go_enter Tryz.func402,Tryz.ntmps402;exact J2
 ·have e:r=false:=by rw[hr];exact decide_eq_false (λk=>h0 k.1)
  subst e;clear hr;go_enter Tryz.func402,Tryz.ntmps402;exact gs
theorem oD (h:av 337 B BC w a g X c P T st d U) (i:Int):
    Calls Tryz.prog 399 #[↑X.l,.int .i64 i] w λe w'=>e= .returned (aE (getS U i))/\Below w.heap.size w w':=by
  have hb:=h.below ((Below.refl _ _).alloc (Nat.le_refl _) (.cells #[.int .i64 0,.int .i64 0,.int .i64 0,.int .i64 0] 113));have H:=qh hb;have hs1:=h.lk.lt;have hs2:=h.sp.lt;have hsl:=h.lU;by_cases hok:okI U i;· have HH:=qh (Af hb i true (decide_eq_true hok).symm);have hp:=dE hok;obtain⟨p,hpp⟩:∃p,p=getS U i:=⟨_,rfl⟩;rw[<-hpp]at hp ⊢;have c6:=h.cs.2.2.2.2.2.2;have a0:=h.sp.cell hp 0 _ rfl;have a1:=h.sp.cell hp 1 _ rfl;have a2:=h.sp.cell hp 2 _ rfl;have a3:=h.sp.cell hp 3 _ rfl;simp only[Nat.add_zero]at a0;obtain⟨h0,h1⟩:=id hok;rw[hsl]at h1;obtain⟨n,rfl⟩:=Int.eq_ofNat_of_zero_le h0;simp only[Int.toNat_natCast]at a0 a1 a2 a3;have t2:¬(n:Int)<0:=(by omega);have t4:n<T.length:=(by omega);clear h hb hp hpp h0 h1 hok hsl;go_enter Tryz.func399,Tryz.ntmps399;go_wp2_with (go_at_call 402;refine HH.o.mono ?_;rintro e w' ⟨rfl,rfl⟩);exact bodyPost_ret (results_cell_row Q5 _ _ w.heap.size 113 _ (0,0) _ Q5 (heap_alloc_new w _) Tryz.underlying113 rfl Q0) rfl ⟨rfl,(Below.refl _ _).alloc (Nat.le_refl _) _⟩
  · have HH:=qh (Af hb i false (decide_eq_false hok).symm);rw[du hok];clear h hb hok hsl;go_enter Tryz.func399,Tryz.ntmps399;go_wp2_with (go_at_call 402;refine HH.o.mono ?_;rintro e w' ⟨rfl,rfl⟩);exact bodyPost_ret (results_cell_row Q5 _ _ w.heap.size 113 _ (0,0) _ Q5 (heap_alloc_new w _) Tryz.underlying113 rfl Q0) rfl ⟨rfl,(Below.refl _ _).alloc (Nat.le_refl _) _⟩
end
end
section
open Go
def jf (c:CoC)(N:Nat)(x:Nu)(i:Nat)(p:Sp):Co×Dr×Int:=
 if p.a=1 then
  if p.pc=1 then(onA x.st (ae x.st.s (nuFl N)),x.d,if ldW x.st.s.W (nuFl N)=0 then 2 else 1)
  else if p.pc=2 then(onA x.st (addA x.st.s (gaA (c.node i)) 1),x.d,3)
  else if p.pc=3 then(onA x.st (ae x.st.s (nuFl N)),x.d,if ldW x.st.s.W (nuFl N)=0 then 10 else 4)
  else if p.pc=4 then(onA x.st (addA x.st.s (gaW (c.node i)) 1),x.d,1)
  else(onA x.st (addA x.st.s (gaW (c.node i)) 1),x.d,0)
 else if p.pc=5 then(bD c (onA x.st (addA x.st.s (nuFl N) 1)) i,x.d,7)
 else if p.pc=7 then(ak c x.st i,if bf (sv x.st.T i) (sv (ak c x.st i).T i)then dM x.d N false else x.d,if bf (sv x.st.T i) (sv (ak c x.st i).T i)then 9 else 7)
 else if p.pc=9 then(onA x.st (ah x.st.s x.d).1,(ah x.st.s x.d).2.1,if (ah x.st.s x.d).2.2=true then 10 else 9)
 else if p.pc=12 then(ay (onA x.st (addA x.st.s (nuFl N) (-1))) i,x.d,13)
 else(ak c x.st i,x.d,if bf (sv x.st.T i) (sv (ak c x.st i).T i)then 0 else 13)
def bv (c:CoC)(N:Nat)(x:Nu)(i:Nat):Nu:=
 if (sv x.U i).pc=0\/(sv x.U i).pc=10 then x
 else⟨(jf c N x i (sv x.U i)).1,(jf c N x i (sv x.U i)).2.1,x.U.set i {(sv x.U i)with pc:=(jf c N x i (sv x.U i)).2.2}⟩
def gj (x:Nu)(i:Nat)(read:Bool):Nu:=
 if (sv x.U i).pc=0 then {x with U:=x.U.set i (if read then⟨1,1,0,0⟩else⟨5,0,0,0⟩)} else x
def fm (p:Sp):Bool:=decide (p.a=1/\(p.pc=3\/p.pc=4\/p.pc=10\/p.pc=11))
def dp (p:Sp):Prop:=p.a=1/\(p.pc=10\/p.pc=11)
def Dy (p:Sp):Prop:=p.a=0/\(p.pc=9\/p.pc=10\/p.pc=12)
def wrC (p:Sp):Bool:=decide (p.a=0/\(p.pc=7\/p.pc=9\/p.pc=10\/p.pc=12))
def hY (p t:Sp):Prop:=
 (p.pc=0/\t.pc=0)\/(p.a=1/\(p.pc=1\/p.pc=2\/p.pc=3\/p.pc=4\/p.pc=10\/p.pc=11)/\t.pc=0)\/(p.a=0/\p.pc=5/\t.pc=0)\/
  (p.a=0/\p.pc=7/\0<t.pc/\t.pc<10)\/(p.a=0/\(p.pc=9\/p.pc=10\/p.pc=12)/\t.pc=10)\/(p.a=0/\p.pc=13/\10<t.pc)
def gI (c:CoC)(n:Nat)(U:List Sp)(a:Nat):Nat:=i2 n (λj=>decide (c.node j=a)&&fm (sv U j))
def lr (n:Nat)(U:List Sp):Nat:=i2 n (λj=>wrC (sv U j))
def yK (c:CoC)(n N:Nat)(d:Dr)(W:List Int)(U:List Sp):Prop:=
 (d.busy=true/\d.once=false/\d.at_<N/\d.lim=N)/\(d.second=true->d.o<=ldW W (gaW d.at_))/\∀j,j<n->dp (sv U j)->d.at_<=c.node j
structure WsI (c:CoC)(n N:Nat)(ml:Nat->Nat)(x:Nu):Prop where
 m:CoM c n N ml x.st
 lU:x.U.length=n
 k:∀i,i<n->hY (sv x.U i) (sv x.st.T i)
 g:∀a,a<N->ldW x.st.s.W (gaA a)=ldW x.st.s.W (gaW a)+(gI c n x.U a:Int)
 fl:ldW x.st.s.W (nuFl N)=(lr n x.U:Int)
 dr:∀i,i<n->(sv x.U i).a=0->(sv x.U i).pc=9->yK c n N x.d x.st.s.W x.U
 hd:∀i,i<n->(sv x.U i).a=0->(sv x.U i).pc=10->∀j,j<n->¬dp (sv x.U j)
section
variable{c:CoC}{n N:Nat}{ml:Nat->Nat}{x x':Nu}
theorem WsI.safe (h:WsI c n N ml x)(y:cp c n N ml){i:Nat}(hi:i<n)(h1:(sv x.U i).pc=10)(h0:(sv x.U i).a=0){j:Nat}(hj:j<n)(h2:(sv x.U j).pc=10):j=i/\(sv x.U j).a=0:=by
 have ki:=h.k i hi;have kj:=h.k j hj;by_cases ha:(sv x.U j).a=1;·exact absurd ⟨ha,.inl h2⟩ (h.hd i hi h0 h1 j hj)
 ·have t1:(sv x.st.T i).pc=10:=by unfold hY at ki;omega
  have t2:(sv x.st.T j).pc=10/\(sv x.U j).a=0:=by unfold hY at kj;omega
  exact J4
theorem WsI.one (h:WsI c n N ml x)(y:cp c n N ml){i j:Nat}(hi:i<n)(hj:j<n)(h1:(sv x.st.T i).pc=10)(h2:(sv x.st.T j).pc=10):i=j:=h.m.one y hi hj QX QX
theorem DW{p t:Sp}(h:hY p t)(hw:Dy p):t.pc=10:=by unfold hY at h;unfold Dy at hw;omega
theorem lw {U:List Sp} {i:Nat} (hl:i<U.length) (hi:i<n) (p:Sp) (a:Nat):
    gI c n (U.set i p) a+(if c.node i=a/\fm (sv U i)=true then 1 else 0)=gI c n U a+(if c.node i=a/\fm p=true then 1 else 0):=by unfold gI;have:=jm (P:=λj=>decide (c.node j=a)&&fm (sv U j)) (Q:=λj=>decide (c.node j=a)&&fm (sv (U.set i p) j)) (i:=i) (λj hj=>by rw[svS hl,if_neg hj]) n hi;simp only[Bool.and_eq_true,decide_eq_true_eq]at this;rw[svS hl,if_pos rfl]at this;exact this
theorem WsI.upd (h:WsI c n N ml x) {i:Nat} (hi:i<n) {st':Co} {d':Dr} {p':Sp} (hm:CoM c n N ml st') (hT:∀j,j≠i->sv st'.T j=sv x.st.T j) (hk:hY p' (sv st'.T i))
    (hg:∀a,a<N->ldW st'.s.W (gaA a)=ldW st'.s.W (gaW a)+(gI c n (x.U.set i p') a:Int))
    (hfl:ldW st'.s.W (nuFl N)=(lr n (x.U.set i p'):Int))
    (hH:∀a,a<N->ldW x.st.s.W (gaW a)<=ldW st'.s.W (gaW a))
    (hset:dp p'->dp (sv x.U i)\/∀j,j<n->j≠i->¬Dy (sv x.U j))
    (hd:∀j,j<n->j≠i->(sv x.U j).a=0->(sv x.U j).pc=9->d'=x.d)
    (od:p'.a=0->p'.pc=9->yK c n N d' st'.s.W (x.U.set i p')) (oh:p'.a=0->p'.pc=10->∀j,j<n->j≠i->¬dp (sv x.U j)):WsI c n N ml ⟨st',d',x.U.set i p'⟩:=by
  have hl:i<x.U.length:=by rw[h.lU];exact hi
  have hs:=svS hl p';refine⟨hm,by rw[List.length_set];exact h.lU,λj hj=>?_,hg,hfl,λj hj h0 h9=>?_,λj hj h0 h10=>?_⟩
  · show hY (sv (x.U.set i p') j) (sv st'.T j);rw[hs];split;· rename_i e;rw[e];exact hk
    · rename_i e;rw[hT j e];exact h.k j hj
  · have h0':(sv (x.U.set i p') j).a=0:=h0;have h9':(sv (x.U.set i p') j).pc=9:=h9;rw[hs]at h0' h9';by_cases e:j=i;· rw[if_pos e]at h0' h9';exact od h0' h9'
    · rw[if_neg e]at h0' h9';obtain⟨q1,q2,q3⟩:=h.dr j hj h0' h9';show yK c n N d' st'.s.W (x.U.set i p');rw[hd j hj e h0' h9'];refine⟨q1,λhq=>Int.le_trans (q2 hq) (hH _ q1.2.2.1),λk hk hr=>?_⟩;rw[hs]at hr;split at hr
      · rename_i e2;rcases hset hr with h1|h1
        · rw[e2];exact q3 i hi h1
        · exact absurd ⟨h0',.inl h9'⟩ (h1 j hj e)
      · exact q3 k hk hr
  · have h0':(sv (x.U.set i p') j).a=0:=h0;have h9':(sv (x.U.set i p') j).pc=10:=h10;rw[hs]at h0' h9';intro k hk hr;have hr':dp (sv (x.U.set i p') k):=hr;rw[hs]at hr';by_cases e:j=i
    · rw[if_pos e]at h0' h9';split at hr';· unfold dp at hr';omega
      · rename_i e2;exact oh h0' h9' k hk e2 hr'
    · rw[if_neg e]at h0' h9';split at hr'
      · rcases hset hr' with h1|h1
        · exact h.hd j hj h0' h9' i hi h1
        · exact h1 j hj e ⟨h0',.inr (.inl h9')⟩
      · exact h.hd j hj h0' h9' k hk hr'
theorem qB (h:WsI c n N ml x)(y:cp c n N ml)(l:NuL c N x.st.s.W){z:Int}(hz:1<=z/\z<=nuFl N)(v:Int){s':Ar}(e:s'.W=stW x.st.s.W z v):(∀q,ldW s'.W q=if q=z then v else ldW x.st.s.W q)/\CoM c n N ml (onA x.st s'):=by exact J5
theorem kO (h:WsI c n N ml x)(y:cp c n N ml){s':Ar}(e:s'.W=x.st.s.W):CoM c n N ml (onA x.st s'):=
 h.m.low y (by rw[e]) (λq _=>by rw[e]) (h.m.v.ars s')
theorem m9{U:List Sp}{i:Nat}(hl:i<U.length)(hi:i<n)(p:Sp):lr n (U.set i p)+(if wrC (sv U i)=true then 1 else 0)=lr n U+(if wrC p=true then 1 else 0):=by unfold lr;have:=jm (P:=λj=>wrC (sv U j)) (Q:=λj=>wrC (sv (U.set i p) j)) (i:=i) (λj hj=>by rw[svS hl,if_neg hj]) n hi;rw[svS hl,if_pos rfl]at this;exact this
theorem eh (h:WsI c n N ml x){i:Nat}(hi:i<n){p':Sp}(hb:wrC p'=wrC (sv x.U i)){v:Int}(hv:v=ldW x.st.s.W (nuFl N)):v=(lr n (x.U.set i p'):Int):=by have:=m9 (n:=n) (show i<x.U.length by rw[h.lU];exact hi) hi p';rw[hb]at this;rw[hv,h.fl];omega
theorem Hr (h:WsI c n N ml x){i:Nat}(hi:i<n){p':Sp}(h0:wrC (sv x.U i)=false)(h1:wrC p'=true){v:Int}(hv:v=ldW x.st.s.W (nuFl N)+1):v=(lr n (x.U.set i p'):Int):=by exact KK
theorem Eu (h:WsI c n N ml x){i:Nat}(hi:i<n){p':Sp}(h0:wrC (sv x.U i)=true)(h1:wrC p'=false){v:Int}(hv:v=ldW x.st.s.W (nuFl N)+ -1):v=(lr n (x.U.set i p'):Int):=by exact KK
theorem xp{P:Nat->Bool}{n i:Nat}(h:i2 n P=0)(hi:i<n):P i=false:=by
 cases hp:P i with
 |false=>rfl
 |true=>have:=jn hi hp;omega
theorem WsI.none (h:WsI c n N ml x)(h0:ldW x.st.s.W (nuFl N)=0){j:Nat}(hj:j<n):¬((sv x.U j).a=0/\((sv x.U j).pc=7\/(sv x.U j).pc=9\/(sv x.U j).pc=10\/(sv x.U j).pc=12)):=by have h1:=h.fl;rw[h0]at h1;have:=xp (P:=λj=>wrC (sv x.U j)) (n:=n) (show i2 n _=0 by have:(lr n x.U:Int)=0:=h1.symm;unfold lr at this;omega) hj;exact of_decide_eq_false this
theorem Cd (h:WsI c n N ml x){i:Nat}(hi:i<n){p':Sp}(hb:fm p'=fm (sv x.U i))(a:Nat):gI c n (x.U.set i p') a=gI c n x.U a:=by have:=lw (c:=c) (n:=n) (show i<x.U.length by rw[h.lU];exact hi) hi p' a;rw[hb]at this;omega
theorem dD (h:WsI c n N ml x){i:Nat}(hi:i<n){p':Sp}(hb:fm p'=fm (sv x.U i)){W':List Int}(hw:∀q,q<nuFl N->ldW W' q=ldW x.st.s.W q):∀a,a<N->ldW W' (gaA a)=ldW W' (gaW a)+(gI c n (x.U.set i p') a:Int):=λa ha=>by
 rw[hw _ (eH ha).2,hw _ (bB ha).2,Cd h hi hb a];exact h.g a ha
theorem FW (h:WsI c n N ml x)(hn:∀j,j<n->c.node j<N){i:Nat}(hi:i<n){p':Sp}(h0:fm (sv x.U i)=false)(h1:fm p'=true){W':List Int}(hw:∀q,ldW W' q=if q=gaA (c.node i)then ldW x.st.s.W (gaA (c.node i))+1 else ldW x.st.s.W q):∀a,a<N->ldW W' (gaA a)=ldW W' (gaW a)+(gI c n (x.U.set i p') a:Int):=λa ha=>by
 have h2:=lw (c:=c) (n:=n) (show i<x.U.length by rw[h.lU];exact hi) hi p' a
 exact J6
theorem zY (h:WsI c n N ml x)(hn:∀j,j<n->c.node j<N){i:Nat}(hi:i<n){p':Sp}(h0:fm (sv x.U i)=true)(h1:fm p'=false){W':List Int}(hw:∀q,ldW W' q=if q=gaW (c.node i)then ldW x.st.s.W (gaW (c.node i))+1 else ldW x.st.s.W q):∀a,a<N->ldW W' (gaA a)=ldW W' (gaW a)+(gI c n (x.U.set i p') a:Int):=λa ha=>by
 have h2:=lw (c:=c) (n:=n) (show i<x.U.length by rw[h.lU];exact hi) hi p' a
 exact J7
end
end
section
open Go.RowKit
section
variable{B BC:Nat->Prop}{w w' w0:World}{a g:Nat}{X:SmX}{c:CoC}{P T:List Int}{st st':Co}{d d':Dr}{U:List Sp}{s':Ar}{BB:Int}
theorem D6 (h:av 337 B BC w a g X c P T st d U)(n:Nat)(hn:n<T.length)(r:Bool):Calls Tryz.prog 396 #[↑X.l,.int .i64 n,.bool r] w (Iq 337 B BC w a g X c P T U n (gj ⟨st,d,U⟩ n r)):=by
 have hok:okI U (n:Int):=⟨by omega,by rw[h.lU];omega⟩;have HH:=qh (Af h n true (decide_eq_true hok).symm);have hp:=h.thr hn;have H:=qh h;obtain⟨x',hx'⟩:∃x,x=gj ⟨st,d,U⟩ n r:=⟨_,rfl⟩;rw[<-hx'];unfold gj at hx';obtain⟨p,hpp⟩:∃p,p=sv U n:=⟨_,rfl⟩;simp only at hx';rw[<-hpp]at hp hx';have c6:=h.cs.2.2.2.2.2.2;have a0:=h.sp.cell hp 0 _ rfl;have a1:=h.sp.cell hp 1 _ rfl;have a2:=h.sp.cell hp 2 _ rfl;have a3:=h.sp.cell hp 3 _ rfl;have f1:∀j,w.frozen? ⟨X.q,j,none⟩=false:=λj=>h.sp.free j;simp only[Nat.add_zero]at a0;have t2:¬(n:Int)<0:=by omega
 have hql:X.q≠X.l:=h.o3.1;have HX:=qh hx';have HP:=qh hp;clear h hp hpp hok hx';by_cases hp0:p.pc=0
 ·have y1:(p.pc !=0)=false:=by simpa using hp0
  have HP0:=qh hp0;clear hp0;have K1:=qh (H.o.put4 hn ⟨5,0,0,0⟩);have e6:=K1.o.cs.2.2.2.2.2.2;cases r;·go_enter Tryz.func396,Tryz.ntmps396;go_wp2_with fail;refine HH.o.mono ?_;rintro en w1 ⟨rfl,rfl⟩;go_wp2;go_ret;rw[HX.o,if_pos HP0.o];first|exact Iq.stay (K1.o) (fe _ _ _ _ _ _) rfl|exact Iq.put HP.o (K1.o) (fe _ _ _ _ _ _) rfl Rb
  ·go_enter Tryz.func396,Tryz.ntmps396;go_wp2_with fail;refine HH.o.mono ?_;rintro en w1 ⟨rfl,rfl⟩;go_wp2;go_ret;rw[HX.o,if_pos HP0.o];have K2:=K1.o.put4 hn ⟨1,1,0,0⟩;rw[List.set_set]at K2;first|exact Iq.stay (K2) ((fe _ _ _ _ _ _).trans (fe _ _ _ _ _ _)) rfl|exact Iq.put HP.o (K2) ((fe _ _ _ _ _ _).trans (fe _ _ _ _ _ _)) rfl Rb
 ·have y1:(p.pc !=0)=true:=by simpa using hp0
  have HP0:=qh hp0;clear hp0;go_enter Tryz.func396,Tryz.ntmps396;exact Kc
theorem As (h:av 337 B BC w a g X c P T st d U)(n:Nat)(hn:n<T.length)(ha:(sv U n).pc=10->(sv U n).a=0\/(sv U n).a=1):Calls Tryz.prog 397 #[↑X.l,.int .i64 n] w (Iq 337 B BC w a g X c P T U n (aJ ⟨st,d,U⟩ n)):=by
 have hfp:=aK;have HS0:=oD h n;have hp:=h.thr hn;have hg:getS U (n:Int)=sv U n:=by exact Kd
 rw[hg]at HS0;have H:=qh h;obtain⟨x',hx'⟩:∃x,x=aJ ⟨st,d,U⟩ n:=⟨_,rfl⟩;rw[<-hx'];unfold aJ at hx';obtain⟨p,hpp⟩:∃p,p=sv U n:=⟨_,rfl⟩;simp only at hx';rw[<-hpp]at hp hx' HS0 ha;have HS:=qh HS0;have HP:=qh hp;have t2:¬(n:Int)<0:=by omega
 have hn32:=h.nT.2.2.1;clear h hp hpp hg HS0;obtain⟨pc,u,b,z⟩:=p;simp only at ha hx';unfold aE at HS;by_cases hp0:pc=10
 ·subst hp0;have ha':=ha rfl;rw[if_pos rfl]at hx';clear ha;rcases ha' with rfl|rfl
  ·have HX:Kq (x'=⟨st,d,U.set n ⟨12,0,b,z⟩⟩):=qh hx';have x1:IntKind.i64.wrap 12=12:=IntWalk.i64_in _ QX;clear hx';go_enter Tryz.func397,Tryz.ntmps397;go_wp2_with fail;refine HS.o.mono ?_;rintro en w1 ⟨rfl,b1⟩;have K1:=qh (H.o.below b1);have T1:=qh (aa.of_below (S:=SmS a g X) b1);clear b1;go_upto_region 2 with fail;obtain⟨sb,hsb⟩:∃y,y=w1.heap.size:=⟨_,rfl⟩;obtain⟨wa,hwa⟩:∃W,W=w1.alloc (.cells #[.int .i64 10,.int .i64 0,.int .i64 b,.int .i64 z] 113):=⟨_,rfl⟩;rw[<-hwa,<-hsb];have HA1:=qh (show av 337 B BC wa a g X c P T st d U/\aa (SmS a g X) w wa/\Blk wa sb 113 #[.int .i64 10,.int .i64 0,.int .i64 b,.int .i64 z]/\sb≠X.q from⟨by rw[hwa];exact K1.o.below ((Below.refl _ _).alloc (Nat.le_refl _) _),by rw[hwa];exact T1.o.alloc _,by rw[hwa,hsb];exact Blk.new _ _ _,by have q1:=K1.o.sp.lt;omega⟩);clear hwa hsb K1 T1;have HC:=qh (λW (U':List Sp) (k:av 337 B BC W a g X c P T st d U') (hb:Blk W sb 113 #[.int .i64 10,.int .i64 0,.int .i64 b,.int .i64 z])=>And.intro k.cs.2.2.2.2.2.2 (show W.cell? ⟨sb,1,none⟩=some (.int .i64 0)from hb.cell 1));have K2:=qh (HA1.o.1.below (Below.refl _ _).drew);have B2:=qh ((aa.refl [] wa).drew.blk HA1.o.2.2.1 QY);have K3:=qh ((HA1.o.1.put0 HP.o (p':=(⟨12,0,b,z⟩:Sp)) (u:= .int .i64 12) rfl).below (Below.refl _ _).drew);have T3:=qh ((HA1.o.2.1.trans (dU (n*4) (.int .i64 12))).drew);have B3:=qh (((aU _ _ _:aa [X.q] wa (wa.setCell ⟨X.q,n*4,none⟩ (.int .i64 12))).drew).blk HA1.o.2.2.1 (by simp;exact HA1.o.2.2.2));have v0:wa.cell? sb=some (.int .i64 10):=HA1.o.2.2.1.cell 0;have e0:=K2.o.sp.cell HP.o 0 _ rfl;have z0:=K2.o.sp.free (n*4);simp only[Nat.add_zero]at e0;go_wp2_with fail
   go_region_held3 (λW=>W.cell? ⟨X.l,6,none⟩=some (.slice (some ⟨X.q,0,none⟩) T.length T.length)/\W.cell? ⟨sb,1,none⟩=some (.int .i64 0))
    (first|with_reducible exact HC.o _ _ K2.o B2.o|with_reducible exact HC.o _ _ K3.o B3.o)
    (first|fail)
   exact Ke
  ·have HX:Kq (x'=⟨st,d,U.set n ⟨11,1,b,z⟩⟩):=qh hx';have x1:IntKind.i64.wrap 11=11:=IntWalk.i64_in _ QX;clear hx';go_enter Tryz.func397,Tryz.ntmps397;go_wp2_with fail;refine HS.o.mono ?_;rintro en w1 ⟨rfl,b1⟩;have K1:=qh (H.o.below b1);have T1:=qh (aa.of_below (S:=SmS a g X) b1);clear b1;go_upto_region 2 with fail;obtain⟨sb,hsb⟩:∃y,y=w1.heap.size:=⟨_,rfl⟩;obtain⟨wa,hwa⟩:∃W,W=w1.alloc (.cells #[.int .i64 10,.int .i64 1,.int .i64 b,.int .i64 z] 113):=⟨_,rfl⟩;rw[<-hwa,<-hsb];have HA1:=qh (show av 337 B BC wa a g X c P T st d U/\aa (SmS a g X) w wa/\Blk wa sb 113 #[.int .i64 10,.int .i64 1,.int .i64 b,.int .i64 z]/\sb≠X.q from⟨by rw[hwa];exact K1.o.below ((Below.refl _ _).alloc (Nat.le_refl _) _),by rw[hwa];exact T1.o.alloc _,by rw[hwa,hsb];exact Blk.new _ _ _,by have q1:=K1.o.sp.lt;omega⟩);clear hwa hsb K1 T1;have HC:=qh (λW (U':List Sp) (k:av 337 B BC W a g X c P T st d U') (hb:Blk W sb 113 #[.int .i64 10,.int .i64 1,.int .i64 b,.int .i64 z])=>And.intro k.cs.2.2.2.2.2.2 (show W.cell? ⟨sb,1,none⟩=some (.int .i64 1)from hb.cell 1));have K2:=qh (HA1.o.1.below (Below.refl _ _).drew);have B2:=qh ((aa.refl [] wa).drew.blk HA1.o.2.2.1 QY);have K3:=qh ((HA1.o.1.put0 HP.o (p':=(⟨11,1,b,z⟩:Sp)) (u:= .int .i64 11) rfl).below (Below.refl _ _).drew);have T3:=qh ((HA1.o.2.1.trans (dU (n*4) (.int .i64 11))).drew);have B3:=qh (((aU _ _ _:aa [X.q] wa (wa.setCell ⟨X.q,n*4,none⟩ (.int .i64 11))).drew).blk HA1.o.2.2.1 (by simp;exact HA1.o.2.2.2));have v0:wa.cell? sb=some (.int .i64 10):=HA1.o.2.2.1.cell 0;have e0:=K2.o.sp.cell HP.o 0 _ rfl;have z0:=K2.o.sp.free (n*4);simp only[Nat.add_zero]at e0;go_wp2_with fail
   go_region_held3 (λW=>W.cell? ⟨X.l,6,none⟩=some (.slice (some ⟨X.q,0,none⟩) T.length T.length)/\W.cell? ⟨sb,1,none⟩=some (.int .i64 1))
    (first|with_reducible exact HC.o _ _ K2.o B2.o|with_reducible exact HC.o _ _ K3.o B3.o)
    (first|fail)
   exact Ke
 ·have y1:(pc !=10)=true:=by simpa using hp0
  have HX:=qh hx';have HP0:=qh hp0;clear hp0 ha hx';go_enter Tryz.func397,Tryz.ntmps397;exact Kx
end
end
end Go.Proofs.YtglokdbiggbkjaaGreat
